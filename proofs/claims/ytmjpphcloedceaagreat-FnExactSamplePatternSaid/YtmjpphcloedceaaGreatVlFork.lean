/- Part. -/
import Derived.Test.YtmjpphcloedceaaGreatVlDrawP
set_option linter.all false
open List renaming getD_eq_getElem?_getD->zA,getElem?_eq_getElem->zB,getElem?_append_left->zC,reverse_cons->zD,range->zE,all_eq_true->zF,reverse_append->zG,getElem?_append_right->zH,length_reverse->zI,length_take->zJ,getElem?_eq_some_iff->zK,length_pos_iff->zL,getElem?_map->zM,tail_drop->zN
open Nat renaming le_refl->zO,lt_or_ge->zP,zero_le->zQ,not_lt_zero->zR
open Array renaming getElem?_eq_some_iff->zS,getD_eq_getD_getElem?->zT,getElem?_toList->zU,getElem?_replicate->zV,getElem?_setIfInBounds->zW,getElem?_eq_none->zX
open Option.some renaming inj->zY
open Option renaming map_eq_some_iff->zZ,getD_some->yA,map_some->yB
namespace Go.Vl
open Go Go.RowKit
section
variable {P : Program} {B nb N : Nat} {fs : List FuncId}
structure NB (fs:List FuncId)(P:Program)(B nb N:Nat)(ops:Array Oper)(xc:Nat)(fr0:Frm)(σ:ZE)(K:ASt->Prop)where
 X:Type
 x0:X
 rc:Nat
 S:Nat
 infos:X->List Info
 Sg:X->Nat->ZE
 frN:X->Frm
 fr1:Frm
 hd:ZAZ fs ops=true
 hp:∀x,PlanX xc fs P B N ops fr0 (infos x) (Sg x) S
 hN:∀x,FrX (fun _=>True) fr0 (infos x) (frN x)
 hK:∀x,K ⟨frN x,Sg x S⟩
 hxw:∀x (e:Info),(infos x)[xc]? =some e->e.want=true
 hxe:∀x (e:Info),(infos x)[xc]? =some e->e.eff=true
 hxr:∀x (e:Info),(infos x)[xc]? =some e->e.rank=rc
 hxs:xc<ops.size
 hag:∀x y (i:Nat) (e f:Info),(infos x)[i]? =some e->(infos y)[i]? =some f->i≠xc->Zh ops i xc=false->e.V=f.V/\e.eff=f.eff/\e.rank=f.rank
 hSg:∀x y s,s<=rc->Sg x s=Sg y s
 hcall:∀(m0:Map) (w0:World) (Q:Exit->Act->World->Prop) x (e:Info),(infos x)[xc]? =some e->∀(fr:Frm) (m:Map) (a:Act) (w:World) (R:Act->World->Prop),ASim B nb N m0 w0 ⟨fr,Sg x rc⟩ m a w->(∀z,z∈e.o.op.operands->ev e.fr z=ev fr z)->
   (∀y (f:Info),(infos y)[xc]? =some f->∀(fr':Frm) (m':Map) (a':Act) (w':World),(∀t,lk fr' t=if e.o.dst=some t then f.V else lk fr t)->ASim B nb N m0 w0 ⟨fr',Sg y (rc+1)⟩ m' a' w'->R a' w')->e.o.wp P a w R Q
 h0:∀x,Sg x 0=σ
 hV:∀x (k:Nat) (e:Info),k<xc->(infos x)[k]? =some e->∀d,e.o.dst=some d->e.V=lk fr1 d
 heff:∀x (i:Nat) (e:Info),(infos x)[i]? =some e->e.eff=ZO fs e.o.op
variable {ops:Array Oper}{σ:ZE}{K:ASt->Prop}{Q:Exit->Act->World->Prop}
theorem NB.run {xc:Nat}{fr0:Frm}(b:NB fs P B nb N ops xc fr0 σ K){m0:Map}{w0:World}(hn:∀st' m' a' w',K st'->ASim B nb N m0 w0 st' m' a' w'->Q .normal a' w')(fuel:Nat)(listed:Array Bool)(fr:Frm)(m:Map)(a:Act)(w:World)(hsz:listed.size=ops.size)(hxl:listed.getD xc true=false)(hcnt:((zE ops.size).filter fun i=> !listed.getD i true).length<=fuel)(hcl:∀(i:Nat) (o:Oper),ops[i]? =some o->listed.getD i true=true->∀e∈o.after,Region.binds .any e=true->listed.getD e.on false=true)(hfr:∀x,FrX (fun j=>listed.getD j true=true) fr0 (b.infos x) fr)(hst:∀x (j:Nat) (e:Info),(b.infos x)[j]? =some e->e.eff=true->¬listed.getD j true=true)(hs:ASim B nb N m0 w0 ⟨fr,σ⟩ m a w):wpAny P .any ops Q fuel listed a w:=
 ZEQ b.hd b.hp b.hN b.hK hn b.hxw b.hxe b.hxr b.x0 b.hxs b.hag b.hSg (b.hcall m0 w0 Q) fuel listed fr 0 σ m a w hsz hxl hcnt hcl hfr (zQ _) (fun x j e hj he=>⟨fun h=>absurd h (hst x j e hj he),fun h=>absurd h (zR _)⟩) b.h0 hs
variable {fr:Frm}{C:Frm->Prop}
theorem NB.of (fs:List FuncId)(tab:List (Nat×Nat))(xs:List Nat)(xc:Nat)(pre:List Oper)(oc:Oper)(post:List Oper)(hsp:ops.toList=pre++oc::post)(hpre:pre.length=xc)(hd:ZAZ fs ops=true)(ht:ZIa fs ops tab=true)(hx:ZBO fs ops tab (xs.map (· ==1))=true)(hlat:ZEI ops xc=true)(hoe:ZO fs oc.op=true)(hog:oc.guard=none)(h:aLg fs P B N (hold ops .mk) pre xs tab fr [σ] [] [] (hold (fun xs1 ts1 fr1 ss1 ps1 ls1=>C fr1/\NCallO P B oc.op (ev fr1) (ss1.headD []) (hold (fun r σ'=>ZBs N oc.dst (hold (aL fs P B N (hold ops .mk) (hold post .mk) xs1.tail ts1.tail (Zl oc.dst r fr1) (σ'::ss1) ps1 ls1 (hold (fun fr' σ'=>K ⟨fr',σ'⟩) .mk)) .mk)) .mk)) .mk)):∃b:NB fs P B nb N ops xc fr σ K,C b.fr1:=by
 simp only[hold]at h
 have lex0:Lex fs P B N ops xc fr ([]:List Info).reverse fr [σ]:=by
  refine⟨by simp,?_,?_,?_,?_,?_,?_,?_,?_,?_,fun t=>⟨fun j e hj=>by simp at hj,fun _=>rfl⟩,by simp[effCnt]⟩<;>(intro i e hi;simp at hi)
 have h1:=ZBD (XS:=xs) (TS:=tab) pre xs tab fr [] [σ] [] [] (by simp) rfl rfl (fun i e x hi=>by simp at hi) h
 obtain⟨acc1,ss1,fr1,⟨xs1,ts1,ps1,ls1,hss1,hxs1,hts1,hfp1,hN⟩,hl1,hlen1,⟨mm,hmm⟩,_⟩:=ZBC (xc:=xc) (oc::post) hd pre fr [] [σ] h1 (by simpa using hsp) lex0
 have hsize:ops.size=pre.length+(post.length+1):=by
  have:=congrArg List.length hsp
  simpa using this
 have hlen1':acc1.length=xc:=by simp at hlen1;omega
 have hoc:ops[xc]? =some oc:=by
  rw[←zU,hsp,zH (by omega),hpre];simp
 have hocall:ZS fs oc.op=false:=by unfold ZS;rw[hoe];rfl
 obtain⟨hCf,hN⟩:=hN
 -- the call
 unfold NCallO at hN
 split at hN
 rotate_left
 ·exact hN.elim
 next f args tys hop=>
 split at hN
 rotate_left
 ·exact hN.elim
 next fi first cap hf=>
 obtain⟨X,x0,V,T,hA,hX⟩:=hN
 have hex:∀x,∃acc ss frN,(FOK fs P acc.reverse (xs.map (· ==1)) tab ss/\K ⟨frN,ss.headD []⟩)/\Lex fs P B N ops xc fr acc.reverse frN ss/\acc.length=ops.size/\(∃m,ss=m++(T x::ss1))/\(∃k,acc=k++(⟨oc,true,true,fr1,V x,ss1.length-1⟩::acc1)):=by
  intro x
  obtain⟨hdst,hk⟩:=hX x
  have hlx:Lex fs P B N ops xc fr (acc1.reverse++[⟨oc,true,true,fr1,V x,ss1.length-1⟩]) (Zl oc.dst (V x) fr1) (T x::ss1):=
   hl1.snoc hd (by rw[zI,hlen1'];exact hoc) hdst (by rw[hog]) (fun h=>by cases h) hoe.symm (fun _ _=>rfl) (fun _ hc=>by rw[hocall]at hc;cases hc) (by simp) ⟨[T x],rfl⟩ (fun q=>absurd (by rw[zI,hlen1']) q)
  have hfpx:FP fs ((⟨oc,true,true,fr1,V x,ss1.length-1⟩:Info)::acc1).reverse xs tab ps1 ls1:=by
   rw[zD]
   exact hfp1.snoc (fun _ h=>h) (fun _ h=>h) fun y _ _ q _=>by simp only at q;rw[hoe]at q;cases q
  have h2:=ZBN (XS:=xs) (TS:=tab) (K:=K) post xs1.tail ts1.tail _ (⟨oc,true,true,fr1,V x,ss1.length-1⟩::acc1) (T x::ss1) ps1 ls1 (by simp) (by rw[hxs1,zN];rfl) (by rw[hts1,zN];rfl) hfpx hk
  obtain⟨acc',ss',fr',q1,q2,q3,q4,q5⟩:=ZBC (xc:=xc) [] hd post _ _ _ h2 (by
   rw[hsp,List.append_nil,List.length_cons,hlen1',←hpre]
   rw[List.drop_append,List.drop_of_length_le (by omega)];simp) (by rw[zD];exact hlx)
  exact⟨acc',ss',fr',q1,q2,by simpa using q3,q4,q5⟩
 let acc:=fun x=>(hex x).choose
 let ss:=fun x=>(hex x).choose_spec.choose
 let frN:=fun x=>(hex x).choose_spec.choose_spec.choose
 have hsp2:∀x,(FOK fs P (acc x).reverse (xs.map (· ==1)) tab (ss x)/\K ⟨frN x,(ss x).headD []⟩)/\Lex fs P B N ops xc fr (acc x).reverse (frN x) (ss x)/\(acc x).length=ops.size/\(∃m,ss x=m++(T x::ss1))/\(∃k,acc x=k++(⟨oc,true,true,fr1,V x,ss1.length-1⟩::acc1)):=
  fun x=>(hex x).choose_spec.choose_spec.choose_spec
 have hinf:∀x,(acc x).reverse[xc]? =some ⟨oc,true,true,fr1,V x,ss1.length-1⟩:=by
  intro x
  obtain⟨_,_,_,_,k,hk⟩:=hsp2 x
  rw[hk,zG,zD,zC (by simp;omega),zH (by simp;omega)]
  simp[hlen1']
 have hinf1:∀x i,i<xc->(acc x).reverse[i]? =acc1.reverse[i]? :=by
  intro x i hi
  obtain⟨_,_,_,_,k,hk⟩:=hsp2 x
  rw[hk,zG,zD,zC (by simp;omega),zC (by simp;omega)]
 have hSlen:∀x,(ss x).length=effCnt fs ops.toList+1:=by
  intro x
  obtain⟨_,hl,hlen,_,_⟩:=hsp2 x
  have:=hl.st
  rw[zI,hlen]at this
  rw[this];congr 2;apply List.take_of_length_le;simp
 have hone:∀x (e:Info),(acc x).reverse[xc]? =some e->e=⟨oc,true,true,fr1,V x,ss1.length-1⟩:=fun x e he=>by rw[hinf x]at he;exact(zY he).symm
 have hSold:∀x s,s<=ss1.length-1->(ss x).reverse.getD s []=ss1.reverse.getD s []:=by
  intro x s hs
  obtain⟨_,_,_,⟨m,hm⟩,_⟩:=hsp2 x
  have h0:0<ss1.length:=zL.2 hss1
  rw[hm,zG,zD,zA,zC (by simp;omega),zC (by simp;omega),←zA]
 have hlast:∀x,(ss x).reverse.getD (effCnt fs ops.toList) []=(ss x).headD []:=by
  intro x
  have:=hSlen x
  cases hq:ss x with
  |nil=>rw[hq]at this;simp at this
  |cons a r=>rw[hq]at this;simp at this;simp[zA,←this]
 have hfirst:ss1.reverse.getD 0 []=σ:=by
  subst hmm
  simp[zA]
 have hhead:ss1.reverse.getD (ss1.length-1) []=ss1.headD []:=by
  cases ss1 with
  |nil=>exact absurd rfl hss1
  |cons a r=>simp[zA]
 refine⟨NB.mk (P:=P) (B:=B) (nb:=nb) X x0 (ss1.length-1) (effCnt fs ops.toList) (fun x=>(acc x).reverse) (fun x s=>(ss x).reverse.getD s []) frN fr1 hd
  (fun x=>ZJB (hsp2 x).2.1 (hsp2 x).2.2.1 (hSlen x) (fun e he=>(by rw[hone x e he])) (ZJi tab ht _ hx (hsp2 x).2.1 (hsp2 x).2.2.1 (hSlen x) (hsp2 x).1.1))
  (fun x=>(hsp2 x).2.1.cur) (fun x=>(by(try simp only);rw[hlast x];exact(hsp2 x).1.2)) (fun x e he=>(by rw[hone x e he])) (fun x e he=>(by rw[hone x e he])) (fun x e he=>(by rw[hone x e he])) (by omega)
  ?_ (fun x y s hs=>(by(try simp only);rw[hSold x s hs,hSold y s hs])) ?_ (fun x=>(by(try simp only);rw[hSold x 0 (zQ _),hfirst])) ?_ (fun x=>(hsp2 x).2.1.eff),hCf⟩
 ·intro x y i e f he hf hne hnr
  have hi:i<xc:=by
   rcases zP i xc with q|q
   ·exact q
   ·have hin:i<ops.size:=by have:=(zK.1 he).1;simp[(hsp2 x).2.2.1]at this;exact this
    have:=zF.1 hlat i (by simpa using hin)
    rw[Bool.or_eq_true,decide_eq_true_eq,hnr]at this
    rcases this with q'|q'
    ·omega
    ·cases q'
  (try simp only at he hf)
  rw[hinf1 x i hi]at he
  rw[hinf1 y i hi,he]at hf
  obtain rfl:=zY hf
  exact⟨rfl,rfl,rfl⟩
 ·intro m0 w0 Q x e he fr' m' a' w' R hsim hag hR
  obtain rfl:=hone x e he
  simp only at hsim hag hR ⊢
  rw[hSold x _ (zO _),hhead]at hsim
  have hst:∀y,(ss y).reverse.getD (ss1.length-1+1) []=T y:=by
   intro y
   obtain⟨_,_,_,⟨mm2,hm2⟩,_⟩:=hsp2 y
   have h0:0<ss1.length:=zL.2 hss1
   rw[hm2,zG,zD,zA,zC (by simp;omega),zH (by simp;omega)]
   simp[show ss1.length-1+1-ss1.length=0 by omega]
  have hdst:∀y,dOk N oc.dst:=fun y=>(hX y).1
  have hef:ev fr' f=ev fr1 f:=(hag f (by rw[hop];simp[Op.operands,Call.operands])).symm
  have hea:args.toList.map (ev fr')=args.toList.map (ev fr1):=(ZAH fun z hz=>hag z (by rw[hop];simp[Op.operands,Call.operands,hz])).symm
  have key:aop P B N oc ⟨fr',ss1.headD []⟩ (fun st'=>∃y,(∀t,lk st'.fr t=if oc.dst=some t then V y else lk fr' t)/\st'.σ=T y):=by
   unfold aop
   rw[hop]
   simp only[ZDt,hef,hf,hea]
   refine hA _ fun y=> ?_
   unfold ZAL
   have:=hdst y
   cases hdst2:oc.dst with
   |none=>exact⟨y,fun t=>by simp,rfl⟩
   |some d=>
    rw[hdst2]at this
    exact⟨this,y,fun t=>by simp[lk],rfl⟩
  refine ZBd key hsim fun st' m2 a2 w2 hk' h'=> ?_
  obtain⟨fr2,σ2⟩:=st'
  obtain⟨y,q1,q2⟩:=hk'
  simp only at q1 q2
  subst q2
  refine hR y _ (hinf y) fr2 m2 a2 w2 q1 ?_
  rw[hst y];exact h'
 ·intro x k e hk he d hd'
  (try simp only at he)
  rw[hinf1 x k hk]at he
  exact((hl1.cur d).1 k e he trivial hd').symm
def swB (sw:List Nat)(a n:Nat):Bool:=(zE n).all fun k=>sw.idxOf k==if k=a then a+1 else if k=a+1 then a else k
variable {sw:List Nat}
theorem ZLN {a n k:Nat}(h:swB sw a n=true)(hk:k<n):sw.idxOf k=if k=a then a+1 else if k=a+1 then a else k:=by
 have:=zF.1 h k (by simpa using hk)
 simpa using this
theorem ZJq {a:Nat}{fr0:Frm}(hsz:a+1<ops.size)(hsw:ZDx sw ops.size=true)(hswa:swB sw a ops.size=true)(b1:NB fs P B nb N (ZBf ops a (a+1)) a fr0 σ K)(b2:NB fs P B nb N (Zm sw (ZBf ops (a+1) a)) (a+1) fr0 σ K)(hdst:∀(k:Nat) (o:Oper),k<a->ops[k]? =some o->∀d,o.dst=some d->lk b2.fr1 d=lk b1.fr1 d)(hno:∀(k:Nat) (o:Oper),k<a->ops[k]? =some o->ZO fs o.op=false)(hwt:∀k,k<ops.size->a+2<=k->waitB ops a ops.size k=true∨waitB ops (a+1) ops.size k=true){m0:Map}{w0:World}(hn:∀st' m' a' w',K st'->ASim B nb N m0 w0 st' m' a' w'->Q .normal a' w'):
  ∀(fuel:Nat) (l:Array Bool) (fr:Frm) (m:Map) (ac:Act) (w:World),l.size=ops.size->((zE ops.size).filter fun i=> !l.getD i true).length<=fuel->ZB9 ops l->
   (∀k,k<ops.size->a<=k->l.getD k false=false)->
   (∀t,(∀(k:Nat) (o:Oper),k<a->ops[k]? =some o->l.getD k false=true->o.dst=some t->lk fr t=lk b1.fr1 t)/\
    ((∀(k:Nat) (o:Oper),k<a->ops[k]? =some o->l.getD k false=true->o.dst≠some t)->lk fr t=lk fr0 t))->
   ASim B nb N m0 w0 ⟨fr,σ⟩ m ac w->wpAny P .any ops Q fuel l ac w:=by
 have hpk:=PermOk.of hsw
 have hsz2:(ZBf ops (a+1) a).size=ops.size:=addE_size
 have hpk2:PermOk sw (ZBf ops (a+1) a).size:=by rw[hsz2];exact hpk
 have at1:∀{k:Nat} {o:Oper},k<a->(ZBf ops a (a+1))[k]? =some o->ops[k]? =some o:=by
  intro k o hk h
  rw[ZAw]at h
  obtain⟨p,hp,rfl⟩:=zZ.1 h
  rw[hp,iN (by omega)]
 have at2:∀{k:Nat} {o:Oper},k<a->(Zm sw (ZBf ops (a+1) a))[k]? =some o->∃p,ops[k]? =some p/\o=ZDw sw p:=by
  intro k o hk h
  have hi:=ZLN hswa (show k<ops.size by omega)
  rw[iN (by omega),iN (by omega)]at hi
  have:=ZCM hpk2 k
  rw[hi,h,ZAw]at this
  cases hp:ops[k]? with
  |none=>rw[hp]at this;cases this
  |some p=>
   rw[hp]at this
   simp only[yB]at this
   rw[iN (by omega)]at this
   exact⟨p,rfl,zY this⟩
 have gd:∀{l:Array Bool} {k:Nat},l.size=ops.size->k<ops.size->∀b c:Bool,l.getD k b=l.getD k c:=by
  intro l k hs hk b c
  have:k<l.size:=by omega
  simp[zT,this]
 -- the first of the two orders
 have run1:∀(fuel:Nat) (l:Array Bool) (fr:Frm) (m:Map) (ac:Act) (w:World),l.size=ops.size->((zE ops.size).filter fun i=> !l.getD i true).length<=fuel->ZB9 ops l->
   (∀k,k<ops.size->a<=k->l.getD k false=false)->
   (∀t,(∀(k:Nat) (o:Oper),k<a->ops[k]? =some o->l.getD k false=true->o.dst=some t->lk fr t=lk b1.fr1 t)/\
    ((∀(k:Nat) (o:Oper),k<a->ops[k]? =some o->l.getD k false=true->o.dst≠some t)->lk fr t=lk fr0 t))->
   ASim B nb N m0 w0 ⟨fr,σ⟩ m ac w->wpAny P .any (ZBf ops a (a+1)) Q fuel l ac w/\
    (∀x,FrX (fun j=>l.getD j true=true) fr0 (b1.infos x) fr)/\(∀x (j:Nat) (e:Info),(b1.infos x)[j]? =some e->e.eff=true->¬l.getD j true=true)/\
    (∀(i:Nat) (o:Oper),(ZBf ops a (a+1))[i]? =some o->l.getD i true=true->∀e∈o.after,Region.binds .any e=true->l.getD e.on false=true):=by
  intro fuel l fr m ac w hl hcnt hcl hlo hfa hs
  have low:∀{k:Nat},k<ops.size->l.getD k true=true->k<a/\l.getD k false=true:=by
   intro k hk h
   rw[gd hl hk true false]at h
   refine⟨?_,h⟩
   rcases zP k a with q|q
   ·exact q
   ·rw[hlo k hk q]at h;cases h
  have c1:∀x,FrX (fun j=>l.getD j true=true) fr0 (b1.infos x) fr:=by
   intro x t
   refine⟨fun j e hj hx hd=> ?_,fun hno2=> ?_⟩
   ·have ho:=(b1.hp x).op j e hj
    have hjn:j<ops.size:=by have:=(zS.1 ho).1;rwa[addE_size]at this
    obtain⟨hja,hjl⟩:=low hjn hx
    rw[(hfa t).1 j _ hja (at1 hja ho) hjl hd]
    exact(b1.hV x j e hja hj t hd).symm
   ·refine(hfa t).2 fun k o hk ho hl'=> ?_
    have hkn:=(zS.1 ho).1
    have hlen:=(b1.hp x).len
    rw[addE_size]at hlen
    have he:(b1.infos x)[k]? =some ((b1.infos x)[k]'(by omega)):=zB (by omega)
    have:=at1 hk ((b1.hp x).op k _ he)
    rw[ho]at this
    rw[zY this]
    exact hno2 k _ he (by show l.getD k true=true;rw[gd hl hkn true false];exact hl')
  have c2:∀x (j:Nat) (e:Info),(b1.infos x)[j]? =some e->e.eff=true->¬l.getD j true=true:=by
   intro x j e hj he hx
   have ho:=(b1.hp x).op j e hj
   have hjn:j<ops.size:=by have:=(zS.1 ho).1;rwa[addE_size]at this
   obtain⟨hja,_⟩:=low hjn hx
   have h1:=((b1.hp x).eff j e hj he).2.1
   rw[hno j _ hja (at1 hja ho)]at h1;cases h1
  have c3:∀(i:Nat) (o:Oper),(ZBf ops a (a+1))[i]? =some o->l.getD i true=true->∀e∈o.after,Region.binds .any e=true->l.getD e.on false=true:=by
   intro i o ho hx
   have hjn:i<ops.size:=by have:=(zS.1 ho).1;rwa[addE_size]at this
   obtain⟨hja,hjl⟩:=low hjn hx
   exact hcl i o (at1 hja ho) hjl
  refine⟨b1.run hn fuel l fr m ac w (by rw[addE_size];exact hl) (by rw[gd hl (by omega) true false];exact hlo a (by omega) (zO _)) (by rw[addE_size];exact hcnt) c3 c1 c2 hs,c1,c2,c3⟩
 -- the second
 have run2:∀(fuel:Nat) (l:Array Bool) (fr:Frm) (m:Map) (ac:Act) (w:World),l.size=ops.size->((zE ops.size).filter fun i=> !l.getD i true).length<=fuel->ZB9 ops l->
   (∀k,k<ops.size->a<=k->l.getD k false=false)->
   (∀t,(∀(k:Nat) (o:Oper),k<a->ops[k]? =some o->l.getD k false=true->o.dst=some t->lk fr t=lk b1.fr1 t)/\
    ((∀(k:Nat) (o:Oper),k<a->ops[k]? =some o->l.getD k false=true->o.dst≠some t)->lk fr t=lk fr0 t))->
   ASim B nb N m0 w0 ⟨fr,σ⟩ m ac w->wpAny P .any (ZBf ops (a+1) a) Q fuel l ac w:=by
  intro fuel l fr m ac w hl hcnt hcl hlo hfa hs
  have hsz3:(Zm sw (ZBf ops (a+1) a)).size=ops.size:=by rw[ZA4,hpk.len]
  have low:∀{k:Nat},k<ops.size->l.getD k true=true->k<a/\l.getD k false=true:=by
   intro k hk h
   rw[gd hl hk true false]at h
   refine⟨?_,h⟩
   rcases zP k a with q|q
   ·exact q
   ·rw[hlo k hk q]at h;cases h
  have pr:∀(k:Nat) (b:Bool),l.getD (sw.idxOf k) b=l.getD k b:=by
   intro k b
   by_cases hk:k<ops.size
   ·rw[ZLN hswa hk]
    by_cases e1:k=a
    ·rw[iP e1,e1,gd hl hsz b false,gd hl (by omega) b false,hlo a (by omega) (zO _),hlo (a+1) hsz (by omega)]
    ·rw[iN e1]
     by_cases e2:k=a+1
     ·rw[iP e2,e2,gd hl hsz b false,gd hl (by omega) b false,hlo a (by omega) (zO _),hlo (a+1) hsz (by omega)]
     ·rw[iN e2]
   ·rw[hpk.out k (by omega)]
    simp[zT,hl,zX (show l.size<=ops.size by omega),zX (show l.size<=k by omega)]
  refine ZD7 hpk2 fuel l l ac w ⟨by rw[hsz2];exact hl,by rw[hsz2];exact hl,pr⟩ ?_
  refine b2.run hn fuel l fr m ac w (by rw[hsz3];exact hl) (by rw[gd hl hsz true false];exact hlo (a+1) hsz (by omega)) (by rw[hsz3];exact hcnt) (fun i o ho hx=> ?_) (fun x t=>⟨fun j e hj hx hd=> ?_,fun hno2=> ?_⟩) (fun x j e hj he hx=> ?_) hs
  ·have hjn:i<ops.size:=by have:=(zS.1 ho).1;rwa[hsz3]at this
   obtain⟨hja,hjl⟩:=low hjn hx
   obtain⟨p,hp,rfl⟩:=at2 hja ho
   intro e he hb
   obtain⟨e',he',rfl⟩:=Array.mem_map.1 he
   show l.getD (sw.idxOf e'.on) false=true
   rw[pr]
   exact hcl i p hp hjl e' he' hb
  ·have ho:=(b2.hp x).op j e hj
   have hjn:j<ops.size:=by have:=(zS.1 ho).1;rwa[hsz3]at this
   obtain⟨hja,hjl⟩:=low hjn hx
   obtain⟨p,hp,he⟩:=at2 hja ho
   have hd2:p.dst=some t:=by rw[he]at hd;exact hd
   rw[(hfa t).1 j p hja hp hjl hd2,b2.hV x j e (by omega) hj t hd]
   exact(hdst j p hja hp t hd2).symm
  ·refine(hfa t).2 fun k o hk ho hl'=> ?_
   have hkn:=(zS.1 ho).1
   have hlen:=(b2.hp x).len
   rw[hsz3]at hlen
   have he:(b2.infos x)[k]? =some ((b2.infos x)[k]'(by omega)):=zB (by omega)
   obtain⟨p,hp,hpe⟩:=at2 hk ((b2.hp x).op k _ he)
   rw[ho]at hp
   obtain rfl:=zY hp
   have:=hno2 k _ he (by show l.getD k true=true;rw[gd hl hkn true false];exact hl')
   rw[hpe]at this;exact this
  ·have ho:=(b2.hp x).op j e hj
   have hjn:j<ops.size:=by have:=(zS.1 ho).1;rwa[hsz3]at this
   obtain⟨hja,_⟩:=low hjn hx
   have h1:=((b2.hp x).eff j e hj he).2.1
   obtain⟨p,hp,hpe⟩:=at2 hja ho
   rw[hpe]at h1
   have:=hno j p hja hp
   have h2:(ZDw sw p).op=p.op:=rfl
   rw[h2,this]at h1;cases h1
 intro fuel
 induction fuel with
 |zero=>
  intro l fr m ac w hl hcnt hcl hlo hfa hs
  have:a∈(zE ops.size).filter fun i=> !l.getD i true:=by
   rw[List.mem_filter];exact⟨by simp;omega,by rw[gd hl (by omega) true false,hlo a (by omega) (zO _)];rfl⟩
  rw[List.eq_nil_of_length_eq_zero (Nat.le_zero.1 hcnt)]at this
  cases this
 |succ fuel ih=>
  intro l fr m ac w hl hcnt hcl hlo hfa hs
  obtain⟨r1,c1,c2,c3⟩:=run1 (fuel+1) l fr m ac w hl hcnt hcl hlo hfa hs
  have r2:=run2 (fuel+1) l fr m ac w hl hcnt hcl hlo hfa hs
  refine⟨fun hr=>r1.1 (List.eq_nil_iff_forall_not_mem.2 fun k hk=> ?_),fun k hk=> ?_⟩
  ·have:=(ZW.1 hk).1
   rw[hr]at this;cases this
  ·obtain⟨h0,o,ho,hall⟩:=mem_ready.1 hk
   have hkn:k<ops.size:=(zS.1 ho).1
   by_cases ei:k=a
   ·subst ei
    have:=ZAY.1 (r1.2 k (ZW.2 ⟨hk,fun e=>by omega⟩))
    exact wpOp_mono (fun a' w' h'=>ZBS fuel _ a' w' (ZAg (by rw[hl];exact hkn)) h') this
   by_cases ej:k=a+1
   ·subst ej
    have:=ZAY.1 (r2.2 (a+1) (ZW.2 ⟨hk,fun e=>by omega⟩))
    exact wpOp_mono (fun a' w' h'=>ZBS fuel _ a' w' (ZAg (by rw[hl];exact hkn)) h') this
   have hka:k<a:=by
    rcases zP k a with q|q
    ·exact q
    ·rcases hwt k hkn (by omega)with h|h
     ·have:=ZDA hcl _ k o ho hall h
      rw[hlo a (by omega) (zO _)]at this;cases this
     ·have:=ZDA hcl _ k o ho hall h
      rw[hlo (a+1) hsz (by omega)]at this;cases this
   have ho1:(ZBf ops a (a+1))[k]? =some o:=by rw[ZAw,ho];simp only[yB];rw[iN ej]
   have hset:∀j,(l.setIfInBounds k true).getD j false=true↔(l.getD j false=true∨j=k):=by
    intro j
    simp only[zT,zW]
    by_cases e:k=j
    ·subst e;simp[hl,hkn]
    ·rw[iN e]
     exact⟨.inl,fun h=>h.resolve_right (Ne.symm e)⟩
   refine(ZAY (i:=a) (j:=a+1)).1 (ZDe b1.hd (b1.hp b1.x0) (s:=0) (fr:=fr) (m:=m) (m0:=m0) (w0:=w0) (Q:=Q) (listed:=l) (by rw[addE_size];exact hl) c3 (c1 b1.x0) (zQ _) (fun j e hj he=>⟨fun h=>absurd h (c2 _ j e hj he),fun h=>absurd h (zR _)⟩) (by rw[b1.h0];exact hs)
    (ZW.2 ⟨hk,fun e=>absurd e ej⟩) (fun e he hix=>absurd hix ei) (fun e he _ fr' s' m' a' w' q1 q2 q3 q4 q5=> ?_) (b1.hxw b1.x0) (b1.hxe b1.x0))
   have heo:e.o=o:=by have:=(b1.hp b1.x0).op k e he;rw[ho1]at this;exact(zY this).symm
   have hne:e.eff=false:=by
    cases hq:e.eff with
    |false=>rfl
    |true=>
     have h1:=((b1.hp b1.x0).eff k e he hq).2.1
     rw[heo,hno k o hka ho]at h1;cases h1
   rw[hne]at q3
   simp only[Bool.false_eq_true,if_false]at q3
   subst q3
   rw[b1.h0]at q5
   refine ih (l.setIfInBounds k true) fr' m' a' w' (by simpa using hl) ?_ (ZDh hcl hk) (fun j hj hja=> ?_) (fun t=>⟨fun j p hj hp hl' hd=> ?_,fun hno2=> ?_⟩) q5
   ·exact ZEq hkn h0 (fun j=>by
     by_cases hj:j<ops.size
     ·rw[gd (by simpa using hl) hj true false,gd hl hj true false];exact hset j
     ·simp only[zT,zW]
      rw[iN (by omega)]
      exact⟨.inl,fun h=>h.resolve_right (by omega)⟩) hcnt
   ·cases hq:(l.setIfInBounds k true).getD j false with
    |false=>rfl
    |true=>
     rcases(hset j).1 hq with h|h
     ·rw[hlo j hj hja]at h;cases h
     ·omega
   ·rw[q1 t]
    by_cases hdt:e.o.dst=some t
    ·rw[iP hdt];exact b1.hV _ k e hka he t hdt
    ·rw[iN hdt]
     rcases(hset j).1 hl' with h|h
     ·exact(hfa t).1 j p hj hp h hd
     ·subst h
      rw[ho]at hp
      obtain rfl:=zY hp
      rw[heo]at hdt;exact absurd hd hdt
   ·rw[q1 t,iN (by rw[heo];exact hno2 k o hka ho ((hset k).2 (.inr rfl)))]
    exact(hfa t).2 fun j p hj hp h=>hno2 j p hj hp ((hset j).2 (.inl h))
variable {L:List Oper}
theorem NB.ofL {ops':Array Oper}(same:∀(i:Nat) (o o':Oper),L[i]? =some o->ops'.toList[i]? =some o'->ZGG ops ops' o o')(hlen:ops'.toList.length=L.length)(fs:List FuncId)(tab:List (Nat×Nat))(xs:List Nat)(xc:Nat)(hlt:xc<L.length)(hd:ZAZ fs ops'=true)(ht:ZIa fs ops' tab=true)(hx:ZBO fs ops' tab (xs.map (· ==1))=true)(hlat:ZEI ops' xc=true)(hoe:ZO fs (L.getD xc ZBn).op=true)(hog:(L.getD xc ZBn).guard=none)(h:aLg fs P B N ops (L.take xc) xs tab fr [σ] [] [] (fun xs1 ts1 fr1 ss1 ps1 ls1=>C fr1/\NCallO P B (L.getD xc ZBn).op (ev fr1) (ss1.headD []) (fun r σ'=>ZBs N (L.getD xc ZBn).dst (hold (aL fs P B N ops (L.drop (xc+1)) xs1.tail ts1.tail (Zl (L.getD xc ZBn).dst r fr1) (σ'::ss1) ps1 ls1 (fun fr' σ'=>K ⟨fr',σ'⟩)) .mk)))):∃b:NB fs P B nb N ops' xc fr σ K,C b.fr1:=by
 have hxo:L[xc]? =some (L.getD xc ZBn):=by rw[zA,zB hlt];rfl
 have hlt':xc<ops'.toList.length:=by omega
 have hxo':ops'.toList[xc]? =some (ops'.toList.getD xc ZBn):=by rw[zA,zB hlt'];rfl
 obtain⟨s1,s2,s3⟩:=same xc _ _ hxo hxo'
 have hog':(ops'.toList.getD xc ZBn).guard=none:=by
  rcases s3 with⟨_,q⟩|⟨j,j',b,q,_⟩
  ·exact q
  ·rw[hog]at q;cases q
 refine NB.of fs tab xs xc (ops'.toList.take xc) (ops'.toList.getD xc ZBn) (ops'.toList.drop (xc+1)) ?_ (by rw[zJ];omega) hd ht hx hlat (by rw[s1];exact hoe) hog' ?_
 ·rw[zA,zB hlt',yA,←List.drop_eq_getElem_cons hlt',List.take_append_drop]
 ·refine ZLG (fun xs1 ts1 fr1 ss1 ps1 ls1 hN=> ?_) _ _ xs tab fr [σ] [] [] (by rw[zJ,zJ,hlen]) (fun i o o' ho ho'=> ?_) h
  ·refine⟨hN.1,?_⟩
   rw[s1,s2]
   refine NCallO.mono (fun r σ' q=>⟨q.1,?_⟩) hN.2
   show aL fs P B N ops' (List.drop (xc+1) ops'.toList) _ _ _ _ _ _ _
   refine ZM5 _ _ _ _ _ _ _ _ (by rw[List.length_drop,List.length_drop,hlen]) (fun i o o' ho ho'=> ?_) q.2
   rw[List.getElem?_drop]at ho ho'
   exact same _ _ _ ho ho'
  ·rw[List.getElem?_take]at ho ho'
   split at ho
   ·next hlt'=>rw[iP hlt']at ho';exact same _ _ _ ho ho'
   ·cases ho
variable {ops0:Array Oper}
theorem ZE7 (hL:L.length=ops0.size)(hs:∀(i:Nat) (o o':Oper),L[i]? =some o->ops0[i]? =some o'->ZGG ops ops0 o o')(es:List (Nat×Nat))(ord:List Nat)(hp:ZDx ord ops0.size=true):
  (∀(i:Nat) (o o':Oper),(ZAf ord L)[i]? =some o->(Zm ord (Zr es ops0)).toList[i]? =some o'->ZGG ops (Zm ord (Zr es ops0)) o o')/\(Zm ord (Zr es ops0)).toList.length=(ZAf ord L).length:=by
 have hp':ZDx ord (Zr es ops0).size=true:=by rw[ZBr];exact hp
 have hk:=PermOk.of hp'
 have hdst:∀j,((Zm ord (Zr es ops0))[ord.idxOf j]?).bind (·.dst)=(ops0[j]?).bind (·.dst):=by
  intro j
  rw[ZFH hk]
  obtain⟨g,h1,h2⟩:=ZFx es j ops0
  rw[h2]
  cases ops0[j]? with
  |none=>rfl
  |some o=>exact(h1 o).2.1
 refine⟨fun i o o' ho ho'=> ?_,by simp[Zm,ZAf]⟩
 have hi:i<ord.length:=by
  have:=(zK.1 ho).1
  simpa[ZAf]using this
 have hin:ord[i]<ops0.size:=by have:=hk.lt i hi;rwa[ZBr]at this
 have e1:L.getD ord[i] ZBn=o:=by
  unfold ZAf at ho
  rw[zM,zB hi]at ho
  exact zY ho
 have e2:ZDw ord ((Zr es ops0).getD ord[i] ZBn)=o':=by
  unfold Zm at ho'
  simp only at ho'
  rw[zM,zB hi]at ho'
  exact zY ho'
 obtain⟨g,h1,h2⟩:=ZFx es ord[i] ops0
 have h0:ops0[ord[i]]? =some (ops0[ord[i]]'hin):=Array.getElem?_eq_getElem hin
 have e3:(Zr es ops0).getD ord[i] ZBn=g (ops0[ord[i]]'hin):=by
  rw[zT,h2,h0];rfl
 have e4:L[ord[i]]? =some o:=by
  rw[zA,zB (by omega),yA]at e1
  rw[zB (by omega),e1]
 obtain⟨q1,q2,q3⟩:=hs _ _ _ e4 h0
 rw[e3]at e2
 subst e2
 refine⟨(h1 _).1.trans q1,(h1 _).2.1.trans q2,?_⟩
 unfold ZDw
 rw[(h1 _).2.2]
 rcases q3 with⟨g1,g2⟩|⟨j,j',b,g1,g2,g3⟩
 ·rw[g2];exact .inl ⟨g1,rfl⟩
 ·rw[g2];exact .inr ⟨j,ord.idxOf j',b,g1,rfl,(hdst j').trans g3⟩
theorem ZKG (hs:∀(i:Nat) (o o':Oper),L[i]? =some o->ops0.toList[i]? =some o'->ZGG ops ops0 o o')(i0 j0:Nat):
  ∀(i:Nat) (o o':Oper),L[i]? =some o->(ZBf ops0 i0 j0).toList[i]? =some o'->ZGG ops (ZBf ops0 i0 j0) o o':=by
 intro i o o' ho ho'
 rw[zU,ZAw]at ho'
 obtain⟨p,hp,rfl⟩:=zZ.1 ho'
 obtain⟨q1,q2,q3⟩:=hs i o p ho (by rw[zU];exact hp)
 refine⟨?_,?_,?_⟩
 ·split<;>exact q1
 ·split<;>exact q2
 ·have hg:(if i=j0 then{p with after:=p.after.push ⟨i0,.data⟩}else p).guard=p.guard:=by split<;>rfl
  rw[hg]
  rcases q3 with g|⟨j,j',b,g1,g2,g3⟩
  ·exact .inl g
  ·exact .inr ⟨j,j',b,g1,g2,ZHi.trans g3⟩
def ZC1 :List Nat->Frm->Frm->Prop
 | [],_,_=>True
 |d::r,f,g=>lk f d=lk g d/\ZC1 r f g
theorem ZIU {f g:Frm}:ZC1 [] f g=True:=rfl
theorem ZG0 {d:Nat}{r:List Nat}{f g:Frm}:ZC1 (d::r) f g=(lk f d=lk g d/\ZC1 r f g):=rfl
theorem ZFv {f g:Frm}:∀{ds:List Nat},ZC1 ds f g->∀d,d∈ds->lk f d=lk g d
 |_::_,h,d,hd=>by
  cases hd with
  |head=>exact h.1
  |tail _ hd=>exact ZFv h.2 d hd
def ZQD (ops:Array Oper)(a:Nat)(ds:List Nat):Bool:=(zE a).all fun k=>match(ops[k]?).bind (·.dst)with
 |some d=>ds.contains d
 |none=>true
def ZNw (fs:List FuncId)(ops:Array Oper)(a:Nat):Bool:=(zE a).all fun k=>match ops[k]? with
 |some o=> !ZO fs o.op
 |none=>true
def ZNK (ops:Array Oper)(a:Nat):Bool:=(zE ops.size).all fun k=>decide (k<a+2)||(waitB ops a ops.size k||waitB ops (a+1) ops.size k)
theorem ZOG {p:Prop}{b:Box p}(h:p):hold p b:=h
theorem ADraw.effF {b':Box K}(es:List (Nat×Nat))(ord:List Nat)(fs:List FuncId)(a:Nat)(sw ds:List Nat)(tab1:List (Nat×Nat))(xs1:List Nat)(tab2:List (Nat×Nat))(xs2:List Nat)(hlt:a+1<ops.size)(hm:P.follows .mixedOrders=true)(hp:ZDx ord ops.size=true)(hsw:ZDx sw ops.size=true)(hswa:swB sw a ops.size=true)(hdst:ZQD (Zm ord (Zr es ops)) a ds=true)(hno:ZNw fs (Zm ord (Zr es ops)) a=true)(hwt:ZNK (Zm ord (Zr es ops)) a=true)(hd1:ZAZ fs (ZBf (Zm ord (Zr es ops)) a (a+1))=true)(ht1:ZIa fs (ZBf (Zm ord (Zr es ops)) a (a+1)) tab1=true)(hx1:ZBO fs (ZBf (Zm ord (Zr es ops)) a (a+1)) tab1 (xs1.map (· ==1))=true)(hl1:ZEI (ZBf (Zm ord (Zr es ops)) a (a+1)) a=true)(hd2:ZAZ fs (Zm sw (Zr [(a+1,a)] (Zm ord (Zr es ops))))=true)(ht2:ZIa fs (Zm sw (Zr [(a+1,a)] (Zm ord (Zr es ops)))) tab2=true)(hx2:ZBO fs (Zm sw (Zr [(a+1,a)] (Zm ord (Zr es ops)))) tab2 (xs2.map (· ==1))=true)(hl2:ZEI (Zm sw (Zr [(a+1,a)] (Zm ord (Zr es ops)))) (a+1)=true)(hoe:ZO fs ((ZAf ord ops.toList).getD a ZBn).op=true)(hog:((ZAf ord ops.toList).getD a ZBn).guard=none)(hoe2:ZO fs ((ZAf sw (ZAf ord ops.toList)).getD (a+1) ZBn).op=true)(hog2:((ZAf sw (ZAf ord ops.toList)).getD (a+1) ZBn).guard=none)(h:∀L,ZAf ord ops.toList=L->aLg fs P B N (hold ops .mk) (hold (L.take a) .mk) xs1 tab1 fr [σ] [] [] (hold (fun xs1 ts1 fr1 ss1 ps1 ls1=>
   hold (∀L2,ZAf sw L=L2->aLg fs P B N (hold ops .mk) (hold (L2.take (a+1)) .mk) xs2 tab2 fr [σ] [] [] (hold (fun xs1 ts1 fr2 ss1 ps1 ls1=>ZC1 ds fr2 fr1/\NCallO P B (L2.getD (a+1) ZBn).op (ev fr2) (ss1.headD []) (hold (fun r σ'=>ZBs N (L2.getD (a+1) ZBn).dst (hold (aL fs P B N (hold ops .mk) (hold (L2.drop (a+1+1)) .mk) xs1.tail ts1.tail (Zl (L2.getD (a+1) ZBn).dst r fr2) (σ'::ss1) ps1 ls1 (hold (fun fr' σ'=>K ⟨fr',σ'⟩) .mk)) .mk)) .mk)) .mk)) .mk/\
   NCallO P B (L.getD a ZBn).op (ev fr1) (ss1.headD []) (hold (fun r σ'=>ZBs N (L.getD a ZBn).dst (hold (aL fs P B N (hold ops .mk) (hold (L.drop (a+1)) .mk) xs1.tail ts1.tail (Zl (L.getD a ZBn).dst r fr1) (σ'::ss1) ps1 ls1 (hold (fun fr' σ'=>K ⟨fr',σ'⟩) .mk)) .mk)) .mk)) .mk)):ADraw P B nb N (Zr es ops) ⟨fr,σ⟩ (hold K b'):=by
 have h:=h _ rfl
 have hp':ZDx ord (Zr es ops).size=true:=by rw[ZBr];exact hp
 have hk:=PermOk.of hp'
 have hkl:ord.length=ops.size:=by have:=hk.len;rwa[ZBr]at this
 refine ADraw.perm ord hp' ?_
 obtain⟨same0,len0⟩:=ZE7 (ops:=ops) (ops0:=ops) (L:=ops.toList) (by simp) (fun i o o' ho ho'=>by
  rw[zU,ho']at ho
  obtain rfl:=zY ho
  refine⟨rfl,rfl,?_⟩
  cases hg:o'.guard with
  |none=>exact .inl ⟨rfl,rfl⟩
  |some p=>obtain⟨j,w⟩:=p;exact .inr ⟨j,j,w,rfl,rfl,rfl⟩) es ord hp
 have hsz0:(Zm ord (Zr es ops)).size=ops.size:=by rw[ZA4,hkl]
 have hll:(ZAf ord ops.toList).length=ops.size:=by simp[ZAf,hkl]
 have hsw0:ZDx sw (Zm ord (Zr es ops)).size=true:=by rw[hsz0];exact hsw
 generalize hO:Zm ord (Zr es ops)=O at*
 have sameA:=ZKG same0 a (a+1)
 obtain⟨sameB,lenB⟩:=ZE7 (ops:=ops) (ops0:=O) (L:=ZAf ord ops.toList) (by rw[hll,hsz0]) (fun i o o' ho ho'=>same0 i o o' ho (by rw[zU];exact ho')) [(a+1,a)] sw hsw0
 obtain⟨b1,hC⟩:=NB.ofL (nb:=nb) (K:=K) (C:=fun fr1=>∀L2,ZAf sw (ZAf ord ops.toList)=L2->aLg fs P B N ops (L2.take (a+1)) xs2 tab2 fr [σ] [] [] (fun xs1 ts1 fr2 ss1 ps1 ls1=>ZC1 ds fr2 fr1/\NCallO P B (L2.getD (a+1) ZBn).op (ev fr2) (ss1.headD []) (fun r σ'=>ZBs N (L2.getD (a+1) ZBn).dst (hold (aL fs P B N ops (L2.drop (a+1+1)) xs1.tail ts1.tail (Zl (L2.getD (a+1) ZBn).dst r fr2) (σ'::ss1) ps1 ls1 (fun fr' σ'=>K ⟨fr',σ'⟩)) .mk))))
  sameA (by simpa[addE_size]using len0) fs tab1 xs1 a (by rw[hll];omega) hd1 ht1 hx1 hl1 hoe hog h
 have hC2:=hC _ rfl
 have hlB:(ZAf sw (ZAf ord ops.toList)).length=ops.size:=by simp[ZAf,(PermOk.of hsw).len]
 obtain⟨b2,hag⟩:=NB.ofL (nb:=nb) (K:=K) (C:=fun fr2=>ZC1 ds fr2 b1.fr1) sameB lenB fs tab2 xs2 (a+1) (by rw[hlB];omega) hd2 ht2 hx2 hl2 hoe2 hog2 hC2
 refine⟨hm,fun m0 w0 m ac w hs Q hn=> ?_⟩
 refine ZJq (sw:=sw) (by rw[hsz0];exact hlt) hsw0 (by rw[hsz0];exact hswa) b1 b2 (fun k o hka ho d hd=>ZFv hag d ?_) (fun k o hka ho=> ?_) (fun k hk hka=> ?_) hn _ _ fr m ac w (by simp) (Nat.le_trans (List.length_filter_le _ _) (by simp)) (fun k o ho hl=> ?_) (fun k hk hka=> ?_) (fun t=>⟨fun k o hka ho hl=> ?_,fun _=>rfl⟩) hs
 ·have:=zF.1 hdst k (by simpa using hka)
  simp only[ho,Option.bind_some,hd]at this
  simpa using this
 ·have:=zF.1 hno k (by simpa using hka)
  simp only[ho]at this
  simpa using this
 ·have:=zF.1 hwt k (by simpa using hk)
  simp only[Bool.or_eq_true,decide_eq_true_eq]at this
  rcases this with q|q
  ·omega
  ·exact q
 ·simp[zT,zV]at hl
  split at hl<;>simp at hl
 ·simp[zT,zV];split<;>rfl
 ·simp[zT,zV]at hl
  split at hl<;>simp at hl
attribute [simp] ZIU ZG0
end
end Go.Vl
