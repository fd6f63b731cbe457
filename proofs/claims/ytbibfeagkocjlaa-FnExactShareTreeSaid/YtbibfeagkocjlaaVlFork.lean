/- The value-level layer: drawn regions in which a call whose outcome is not known ahead and another effect may come in either order. -/
import Derived.Test.YtbibfeagkocjlaaVlDrawP
set_option linter.all false
namespace Go.Vl
open Go Go.RowKit
section
variable {P : Program} {B nb N : Nat} {fs : List FuncId}
structure NB (fs:List FuncId)(P:Program)(B nb N:Nat)(ops:Array Oper)(xc:Nat)(fr0:Frm)(σ:ZA)(K:ASt→Prop)where
  X:Type
  x0:X
  rc:Nat
  S:Nat
  infos:X→List Info
  Sg:X→Nat→ZA
  frN:X→Frm
  fr1:Frm
  hd:ZAL fs ops=true
  hp:∀x,PlanX xc fs P B N ops fr0 (infos x) (Sg x) S
  hN:∀x,FrX (fun _=>True) fr0 (infos x) (frN x)
  hK:∀x,K ⟨frN x,Sg x S⟩
  hxw:∀x (e:Info),(infos x)[xc]? =some e→e.want=true
  hxe:∀x (e:Info),(infos x)[xc]? =some e→e.eff=true
  hxr:∀x (e:Info),(infos x)[xc]? =some e→e.rank=rc
  hxs:xc<ops.size
  hag:∀x y (i:Nat) (e f:Info),(infos x)[i]? =some e→(infos y)[i]? =some f→i≠xc→ZY ops i xc=false→e.V=f.V∧e.eff=f.eff∧e.rank=f.rank
  hSg:∀x y s,s≤rc→Sg x s=Sg y s
  hcall : ∀ (m0 : Map) (w0 : World) (Q : Exit → Act → World → Prop) x (e : Info), (infos x)[xc]? = some e → ∀ (fr : Frm) (m : Map) (a : Act) (w : World) (R : Act → World → Prop), ASim B nb N m0 w0 ⟨fr, Sg x rc⟩ m a w → (∀ z, z ∈ e.o.op.operands → ev e.fr z = ev fr z) →
      (∀y (f:Info),(infos y)[xc]? =some f→∀(fr':Frm) (m':Map) (a':Act) (w':World),(∀t,lk fr' t=if e.o.dst=some t then f.V else lk fr t)→ASim B nb N m0 w0 ⟨fr',Sg y (rc+1)⟩ m' a' w'→R a' w')→e.o.wp P a w R Q
  h0:∀x,Sg x 0=σ
  hV:∀x (k:Nat) (e:Info),k<xc→(infos x)[k]? =some e→∀d,e.o.dst=some d→e.V=lk fr1 d
  heff:∀x (i:Nat) (e:Info),(infos x)[i]? =some e→e.eff=ZI fs e.o.op
theorem NB.run {ops : Array Oper} {xc : Nat} {fr0 : Frm} {σ : ZA} {K : ASt → Prop} (b : NB fs P B nb N ops xc fr0 σ K) {m0 : Map} {w0 : World} {Q : Exit → Act → World → Prop} (hn : ∀ st' m' a' w', K st' → ASim B nb N m0 w0 st' m' a' w' → Q .normal a' w')
    (fuel:Nat) (listed:Array Bool) (fr:Frm) (m:Map) (a:Act) (w:World) (hsz:listed.size=ops.size) (hxl:listed.getD xc true=false) (hcnt:((List.range ops.size).filter fun i=> !listed.getD i true).length≤fuel)
    (hcl:∀(i:Nat) (o:Oper),ops[i]? =some o→listed.getD i true=true→∀e∈o.after,Region.binds .any e=true→listed.getD e.on false=true)
    (hfr:∀x,FrX (fun j=>listed.getD j true=true) fr0 (b.infos x) fr) (hst:∀x (j:Nat) (e:Info),(b.infos x)[j]? =some e→e.eff=true→¬listed.getD j true=true) (hs:ASim B nb N m0 w0 ⟨fr,σ⟩ m a w):wpAny P .any ops Q fuel listed a w:=
  ZDp b.hd b.hp b.hN b.hK hn b.hxw b.hxe b.hxr b.x0 b.hxs b.hag b.hSg (b.hcall m0 w0 Q) fuel listed fr 0 σ m a w hsz hxl hcnt hcl hfr (Nat.zero_le _) (fun x j e hj he=>⟨fun h=>absurd h (hst x j e hj he),fun h=>absurd h (Nat.not_lt_zero _)⟩) b.h0 hs
theorem NB.of {ops : Array Oper} {fr : Frm} {σ : ZA} {K : ASt → Prop} {C : Frm → Prop} (fs : List FuncId) (tab : List (Nat × Nat)) (xs : List Nat) (xc : Nat) (pre : List Oper) (oc : Oper) (post : List Oper) (hsp : ops.toList = pre ++ oc :: post) (hpre : pre.length = xc)
    (hd:ZAL fs ops=true) (ht:ZHv fs ops tab=true) (hx:ZA7 fs ops tab (xs.map (· ==1))=true) (hlat:ZDh ops xc=true) (hoe:ZI fs oc.op=true) (hog:oc.guard=none)
    (h:aLg fs P B N (hold ops .mk) pre xs tab fr [σ] [] [] (hold (fun xs1 ts1 fr1 ss1 ps1 ls1=>C fr1∧NCallO P B oc.op (ev fr1) (ss1.headD []) (hold (fun r σ'=>ZBV N oc.dst (hold (aL fs P B N (hold ops .mk) (hold post .mk) xs1.tail ts1.tail (Zh oc.dst r fr1) (σ'::ss1) ps1 ls1 (hold (fun fr' σ'=>K ⟨fr',σ'⟩) .mk)) .mk)) .mk)) .mk)):∃b:NB fs P B nb N ops xc fr σ K,C b.fr1:=by
  simp only[hold]at h
  have lex0:Lex fs P B N ops xc fr ([]:List Info).reverse fr [σ]:=by
    refine⟨by simp,?_,?_,?_,?_,?_,?_,?_,?_,?_,fun t=>⟨fun j e hj=>by simp at hj,fun _=>rfl⟩,by simp[effCnt]⟩<;>(intro i e hi;simp at hi)
  have h1:=ZAw (XS:=xs) (TS:=tab) pre xs tab fr [] [σ] [] [] (by simp) rfl rfl (fun i e x hi=>by simp at hi) h
  obtain⟨acc1,ss1,fr1,⟨xs1,ts1,ps1,ls1,hss1,hxs1,hts1,hfp1,hN⟩,hl1,hlen1,⟨mm,hmm⟩,_⟩:=ZAv (xc:=xc) (oc::post) hd pre fr [] [σ] h1 (by simpa using hsp) lex0
  have hsize:ops.size=pre.length+(post.length+1):=by
    have:=congrArg List.length hsp
    simpa using this
  have hlen1':acc1.length=xc:=by simp at hlen1;omega
  have hoc:ops[xc]? =some oc:=by
    rw[←Array.getElem?_toList,hsp,List.getElem?_append_right (by omega),hpre];simp
  have hocall:ZP fs oc.op=false:=by unfold ZP;rw[hoe];rfl
  obtain⟨hCf,hN⟩:=hN
  -- the call
  unfold NCallO at hN
  split at hN
  rotate_left
  · exact hN.elim
  next f args tys hop=>
  split at hN
  rotate_left
  · exact hN.elim
  next fi first cap hf=>
  obtain⟨X,x0,V,T,hA,hX⟩:=hN
  have hex:∀x,∃acc ss frN,(FOK fs P acc.reverse (xs.map (· ==1)) tab ss∧K ⟨frN,ss.headD []⟩)∧Lex fs P B N ops xc fr acc.reverse frN ss∧acc.length=ops.size∧(∃m,ss=m++(T x::ss1))∧(∃k,acc=k++(⟨oc,true,true,fr1,V x,ss1.length-1⟩::acc1)):=by
    intro x
    obtain⟨hdst,hk⟩:=hX x
    have hlx:Lex fs P B N ops xc fr (acc1.reverse++[⟨oc,true,true,fr1,V x,ss1.length-1⟩]) (Zh oc.dst (V x) fr1) (T x::ss1):=
      hl1.snoc hd (by rw[List.length_reverse,hlen1'];exact hoc) hdst (by rw[hog]) (fun h=>by cases h) hoe.symm (fun _ _=>rfl) (fun _ hc=>by rw[hocall]at hc;cases hc) (by simp) ⟨[T x],rfl⟩ (fun q=>absurd (by rw[List.length_reverse,hlen1']) q)
    have hfpx:FP fs ((⟨oc,true,true,fr1,V x,ss1.length-1⟩:Info)::acc1).reverse xs tab ps1 ls1:=by
      rw[List.reverse_cons]
      exact hfp1.snoc (fun _ h=>h) (fun _ h=>h) fun y _ _ q _=>by simp only at q;rw[hoe]at q;cases q
    have h2:=ZAg (XS:=xs) (TS:=tab) (K:=K) post xs1.tail ts1.tail _ (⟨oc,true,true,fr1,V x,ss1.length-1⟩::acc1) (T x::ss1) ps1 ls1 (by simp) (by rw[hxs1,List.tail_drop];rfl) (by rw[hts1,List.tail_drop];rfl) hfpx hk
    obtain⟨acc',ss',fr',q1,q2,q3,q4,q5⟩:=ZAv (xc:=xc) [] hd post _ _ _ h2 (by
      rw[hsp,List.append_nil,List.length_cons,hlen1',←hpre]
      rw[List.drop_append,List.drop_of_length_le (by omega)];simp) (by rw[List.reverse_cons];exact hlx)
    exact⟨acc',ss',fr',q1,q2,by simpa using q3,q4,q5⟩
  let acc:=fun x=>(hex x).choose
  let ss:=fun x=>(hex x).choose_spec.choose
  let frN:=fun x=>(hex x).choose_spec.choose_spec.choose
  have hsp2:∀x,(FOK fs P (acc x).reverse (xs.map (· ==1)) tab (ss x)∧K ⟨frN x,(ss x).headD []⟩)∧Lex fs P B N ops xc fr (acc x).reverse (frN x) (ss x)∧(acc x).length=ops.size∧(∃m,ss x=m++(T x::ss1))∧(∃k,acc x=k++(⟨oc,true,true,fr1,V x,ss1.length-1⟩::acc1)):=
    fun x=>(hex x).choose_spec.choose_spec.choose_spec
  have hinf:∀x,(acc x).reverse[xc]? =some ⟨oc,true,true,fr1,V x,ss1.length-1⟩:=by
    intro x
    obtain⟨_,_,_,_,k,hk⟩:=hsp2 x
    rw[hk,List.reverse_append,List.reverse_cons,List.getElem?_append_left (by simp;omega),List.getElem?_append_right (by simp;omega)]
    simp[hlen1']
  have hinf1:∀x i,i<xc→(acc x).reverse[i]? =acc1.reverse[i]? :=by
    intro x i hi
    obtain⟨_,_,_,_,k,hk⟩:=hsp2 x
    rw[hk,List.reverse_append,List.reverse_cons,List.getElem?_append_left (by simp;omega),List.getElem?_append_left (by simp;omega)]
  have hSlen:∀x,(ss x).length=effCnt fs ops.toList+1:=by
    intro x
    obtain⟨_,hl,hlen,_,_⟩:=hsp2 x
    have:=hl.st
    rw[List.length_reverse,hlen]at this
    rw[this];congr 2;apply List.take_of_length_le;simp
  have hone:∀x (e:Info),(acc x).reverse[xc]? =some e→e=⟨oc,true,true,fr1,V x,ss1.length-1⟩:=fun x e he=>by rw[hinf x]at he;exact(Option.some.inj he).symm
  have hSold:∀x s,s≤ss1.length-1→(ss x).reverse.getD s []=ss1.reverse.getD s []:=by
    intro x s hs
    obtain⟨_,_,_,⟨m,hm⟩,_⟩:=hsp2 x
    have h0:0<ss1.length:=List.length_pos_iff.2 hss1
    rw[hm,List.reverse_append,List.reverse_cons,List.getD_eq_getElem?_getD,List.getElem?_append_left (by simp;omega),List.getElem?_append_left (by simp;omega),←List.getD_eq_getElem?_getD]
  have hlast:∀x,(ss x).reverse.getD (effCnt fs ops.toList) []=(ss x).headD []:=by
    intro x
    have:=hSlen x
    cases hq:ss x with
    |nil=>rw[hq]at this;simp at this
    |cons a r=>rw[hq]at this;simp at this;simp[List.getD_eq_getElem?_getD,←this]
  have hfirst:ss1.reverse.getD 0 []=σ:=by
    subst hmm
    simp[List.getD_eq_getElem?_getD]
  have hhead:ss1.reverse.getD (ss1.length-1) []=ss1.headD []:=by
    cases ss1 with
    |nil=>exact absurd rfl hss1
    |cons a r=>simp[List.getD_eq_getElem?_getD]
  refine⟨NB.mk (P:=P) (B:=B) (nb:=nb) X x0 (ss1.length-1) (effCnt fs ops.toList) (fun x=>(acc x).reverse) (fun x s=>(ss x).reverse.getD s []) frN fr1 hd
    (fun x=>ZFi (hsp2 x).2.1 (hsp2 x).2.2.1 (hSlen x) (fun e he=>(by rw[hone x e he])) (ZF0 tab ht _ hx (hsp2 x).2.1 (hsp2 x).2.2.1 (hSlen x) (hsp2 x).1.1))
    (fun x=>(hsp2 x).2.1.cur) (fun x=>(by(try simp only);rw[hlast x];exact(hsp2 x).1.2)) (fun x e he=>(by rw[hone x e he])) (fun x e he=>(by rw[hone x e he])) (fun x e he=>(by rw[hone x e he])) (by omega)
    ?_ (fun x y s hs=>(by(try simp only);rw[hSold x s hs,hSold y s hs])) ?_ (fun x=>(by(try simp only);rw[hSold x 0 (Nat.zero_le _),hfirst])) ?_ (fun x=>(hsp2 x).2.1.eff),hCf⟩
  · intro x y i e f he hf hne hnr
    have hi:i<xc:=by
      rcases Nat.lt_or_ge i xc with q|q
      · exact q
      · have hin:i<ops.size:=by have:=(List.getElem?_eq_some_iff.1 he).1;simp[(hsp2 x).2.2.1]at this;exact this
        have:=List.all_eq_true.1 hlat i (by simpa using hin)
        rw[Bool.or_eq_true,decide_eq_true_eq,hnr]at this
        rcases this with q'|q'
        · omega
        · cases q'
    (try simp only at he hf)
    rw[hinf1 x i hi]at he
    rw[hinf1 y i hi,he]at hf
    obtain rfl:=Option.some.inj hf
    exact⟨rfl,rfl,rfl⟩
  · intro m0 w0 Q x e he fr' m' a' w' R hsim hag hR
    obtain rfl:=hone x e he
    simp only at hsim hag hR ⊢
    rw[hSold x _ (Nat.le_refl _),hhead]at hsim
    have hst:∀y,(ss y).reverse.getD (ss1.length-1+1) []=T y:=by
      intro y
      obtain⟨_,_,_,⟨mm2,hm2⟩,_⟩:=hsp2 y
      have h0:0<ss1.length:=List.length_pos_iff.2 hss1
      rw[hm2,List.reverse_append,List.reverse_cons,List.getD_eq_getElem?_getD,List.getElem?_append_left (by simp;omega),List.getElem?_append_right (by simp;omega)]
      simp[show ss1.length-1+1-ss1.length=0 by omega]
    have hdst:∀y,dOk N oc.dst:=fun y=>(hX y).1
    have hef:ev fr' f=ev fr1 f:=(hag f (by rw[hop];simp[Op.operands,Call.operands])).symm
    have hea:args.toList.map (ev fr')=args.toList.map (ev fr1):=(Zr fun z hz=>hag z (by rw[hop];simp[Op.operands,Call.operands,hz])).symm
    have key:aop P B N oc ⟨fr',ss1.headD []⟩ (fun st'=>∃y,(∀t,lk st'.fr t=if oc.dst=some t then V y else lk fr' t)∧st'.σ=T y):=by
      unfold aop
      rw[hop]
      simp only[ZDI,hef,hf,hea]
      refine hA _ fun y=> ?_
      unfold Zx
      have:=hdst y
      cases hdst2:oc.dst with
      |none=>exact⟨y,fun t=>by simp,rfl⟩
      |some d=>
        rw[hdst2]at this
        exact⟨this,y,fun t=>by simp[lk],rfl⟩
    refine ZBK key hsim fun st' m2 a2 w2 hk' h'=> ?_
    obtain⟨fr2,σ2⟩:=st'
    obtain⟨y,q1,q2⟩:=hk'
    simp only at q1 q2
    subst q2
    refine hR y _ (hinf y) fr2 m2 a2 w2 q1 ?_
    rw[hst y];exact h'
  · intro x k e hk he d hd'
    (try simp only at he)
    rw[hinf1 x k hk]at he
    exact((hl1.cur d).1 k e he trivial hd').symm
def swB (sw:List Nat)(a n:Nat):Bool:=(List.range n).all fun k=>sw.idxOf k==if k=a then a+1 else if k=a+1 then a else k
theorem NB.ofL {ops ops' : Array Oper} {L : List Oper} {fr : Frm} {σ : ZA} {K : ASt → Prop} {C : Frm → Prop} (same : ∀ (i : Nat) (o o' : Oper), L[i]? = some o → ops'.toList[i]? = some o' → ZFV ops ops' o o') (hlen : ops'.toList.length = L.length)
    (fs:List FuncId) (tab:List (Nat×Nat)) (xs:List Nat) (xc:Nat) (hlt:xc<L.length)
    (hd:ZAL fs ops'=true) (ht:ZHv fs ops' tab=true) (hx:ZA7 fs ops' tab (xs.map (· ==1))=true) (hlat:ZDh ops' xc=true) (hoe:ZI fs (L.getD xc ZA9).op=true) (hog:(L.getD xc ZA9).guard=none)
    (h:aLg fs P B N ops (L.take xc) xs tab fr [σ] [] [] (fun xs1 ts1 fr1 ss1 ps1 ls1=>C fr1∧NCallO P B (L.getD xc ZA9).op (ev fr1) (ss1.headD []) (fun r σ'=>ZBV N (L.getD xc ZA9).dst (hold (aL fs P B N ops (L.drop (xc+1)) xs1.tail ts1.tail (Zh (L.getD xc ZA9).dst r fr1) (σ'::ss1) ps1 ls1 (fun fr' σ'=>K ⟨fr',σ'⟩)) .mk)))):∃b:NB fs P B nb N ops' xc fr σ K,C b.fr1:=by
  have hxo:L[xc]? =some (L.getD xc ZA9):=by rw[List.getD_eq_getElem?_getD,List.getElem?_eq_getElem hlt];rfl
  have hlt':xc<ops'.toList.length:=by omega
  have hxo':ops'.toList[xc]? =some (ops'.toList.getD xc ZA9):=by rw[List.getD_eq_getElem?_getD,List.getElem?_eq_getElem hlt'];rfl
  obtain⟨s1,s2,s3⟩:=same xc _ _ hxo hxo'
  have hog':(ops'.toList.getD xc ZA9).guard=none:=by
    rcases s3 with⟨_,q⟩|⟨j,j',b,q,_⟩
    · exact q
    · rw[hog]at q;cases q
  refine NB.of fs tab xs xc (ops'.toList.take xc) (ops'.toList.getD xc ZA9) (ops'.toList.drop (xc+1)) ?_ (by rw[List.length_take];omega) hd ht hx hlat (by rw[s1];exact hoe) hog' ?_
  · rw[List.getD_eq_getElem?_getD,List.getElem?_eq_getElem hlt',Option.getD_some,←List.drop_eq_getElem_cons hlt',List.take_append_drop]
  · refine ZEQ (fun xs1 ts1 fr1 ss1 ps1 ls1 hN=> ?_) _ _ xs tab fr [σ] [] [] (by rw[List.length_take,List.length_take,hlen]) (fun i o o' ho ho'=> ?_) h
    · refine⟨hN.1,?_⟩
      rw[s1,s2]
      refine NCallO.mono (fun r σ' q=>⟨q.1,?_⟩) hN.2
      show aL fs P B N ops' (List.drop (xc+1) ops'.toList) _ _ _ _ _ _ _
      refine ZGS _ _ _ _ _ _ _ _ (by rw[List.length_drop,List.length_drop,hlen]) (fun i o o' ho ho'=> ?_) q.2
      rw[List.getElem?_drop]at ho ho'
      exact same _ _ _ ho ho'
    · rw[List.getElem?_take]at ho ho'
      split at ho
      · next hlt'=>rw[if_pos hlt']at ho';exact same _ _ _ ho ho'
      · cases ho
theorem ZH7 {ops ops0 : Array Oper} {L : List Oper} (hL : L.length = ops0.size) (hs : ∀ (i : Nat) (o o' : Oper), L[i]? = some o → ops0[i]? = some o' → ZFV ops ops0 o o') (es : List (Nat × Nat)) (ord : List Nat) (hp : ZD6 ord ops0.size = true) :
    (∀(i:Nat) (o o':Oper),(ZAH ord L)[i]? =some o→(Za ord (ZH es ops0)).toList[i]? =some o'→ZFV ops (Za ord (ZH es ops0)) o o')∧(Za ord (ZH es ops0)).toList.length=(ZAH ord L).length:=by
  have hp':ZD6 ord (ZH es ops0).size=true:=by rw[ZG];exact hp
  have hk:=PermOk.of hp'
  have hdst:∀j,((Za ord (ZH es ops0))[ord.idxOf j]?).bind (·.dst)=(ops0[j]?).bind (·.dst):=by
    intro j
    rw[ZB3 hk]
    obtain⟨g,h1,h2⟩:=Zc es j ops0
    rw[h2]
    cases ops0[j]? with
    |none=>rfl
    |some o=>exact(h1 o).2.1
  refine⟨fun i o o' ho ho'=> ?_,by simp[Za,ZAH]⟩
  have hi:i<ord.length:=by
    have:=(List.getElem?_eq_some_iff.1 ho).1
    simpa[ZAH]using this
  have hin:ord[i]<ops0.size:=by have:=hk.lt i hi;rwa[ZG]at this
  have e1:L.getD ord[i] ZA9=o:=by
    unfold ZAH at ho
    rw[List.getElem?_map,List.getElem?_eq_getElem hi]at ho
    exact Option.some.inj ho
  have e2:ZDL ord ((ZH es ops0).getD ord[i] ZA9)=o':=by
    unfold Za at ho'
    simp only at ho'
    rw[List.getElem?_map,List.getElem?_eq_getElem hi]at ho'
    exact Option.some.inj ho'
  obtain⟨g,h1,h2⟩:=Zc es ord[i] ops0
  have h0:ops0[ord[i]]? =some (ops0[ord[i]]'hin):=Array.getElem?_eq_getElem hin
  have e3:(ZH es ops0).getD ord[i] ZA9=g (ops0[ord[i]]'hin):=by
    rw[Array.getD_eq_getD_getElem?,h2,h0];rfl
  have e4:L[ord[i]]? =some o:=by
    rw[List.getD_eq_getElem?_getD,List.getElem?_eq_getElem (by omega),Option.getD_some]at e1
    rw[List.getElem?_eq_getElem (by omega),e1]
  obtain⟨q1,q2,q3⟩:=hs _ _ _ e4 h0
  rw[e3]at e2
  subst e2
  refine⟨(h1 _).1.trans q1,(h1 _).2.1.trans q2,?_⟩
  unfold ZDL
  rw[(h1 _).2.2]
  rcases q3 with⟨g1,g2⟩|⟨j,j',b,g1,g2,g3⟩
  · rw[g2];exact .inl ⟨g1,rfl⟩
  · rw[g2];exact .inr ⟨j,ord.idxOf j',b,g1,rfl,(hdst j').trans g3⟩
def ZGy :List Nat→Frm→Frm→Prop
  | [],_,_=>True
  |d::r,f,g=>lk f d=lk g d∧ZGy r f g
theorem ZHp {f g:Frm}:ZGy [] f g=True:=rfl
theorem ZGP {d:Nat}{r:List Nat}{f g:Frm}:ZGy (d::r) f g=(lk f d=lk g d∧ZGy r f g):=rfl
def ZPg (ops:Array Oper)(a:Nat)(ds:List Nat):Bool:=(List.range a).all fun k=>match(ops[k]?).bind (·.dst)with
  |some d=>ds.contains d
  |none=>true
def ZO2 (fs:List FuncId)(ops:Array Oper)(a:Nat):Bool:=(List.range a).all fun k=>match ops[k]? with
  |some o=> !ZI fs o.op
  |none=>true
def ZO1 (ops:Array Oper)(a:Nat):Bool:=(List.range ops.size).all fun k=>decide (k<a+2)||(waitB ops a ops.size k||waitB ops (a+1) ops.size k)
attribute [simp] ZHp ZGP
end
end Go.Vl
