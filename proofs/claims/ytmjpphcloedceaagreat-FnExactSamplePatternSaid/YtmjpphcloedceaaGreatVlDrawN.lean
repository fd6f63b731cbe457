/- Part. -/
import Derived.Test.YtmjpphcloedceaaGreatVlDeep
set_option linter.all false
open Array renaming getElem?_eq_some_iff->zA,getElem?_eq_getElem->zB,toList->zC
open List renaming getD_eq_getElem?_getD->zD,getElem?_eq_getElem->zE,reverse_cons->zF,getElem?_append_left->zG,length_reverse->zH,getElem?_eq_some_iff->zI,take->zJ,range->zK,reverse_append->zL,toArray->zM,getElem?_append_right->zN,tail_drop->zO,mem_cons_of_mem->zP,mem_cons_self->zQ,drop_eq_getElem_cons->zR,take_of_length_le->zS,length_pos_iff->zT,all_eq_true->zU
open Option.some renaming inj->zV,injEq->zW
open Classical renaming byContradiction->zX
open Nat renaming lt_or_ge->zY,lt_trichotomy->zZ,zero_le->yA
open Bool renaming false_eq_true->yB
namespace Go.Vl
open Go Go.RowKit
open Go.Region renaming binds->yC,ready->yD,wanted->yE
section
variable {P : Program} {B nb N : Nat} {fs : List FuncId}
structure PlanX (xc:Nat)(fs:List FuncId)(P:Program)(B N:Nat)(ops:Array Oper)(fr0:Frm)(infos:List Info)(Sg:Nat->ZE)(S:Nat):Prop where
 len:infos.length=ops.size
 op:∀(i:Nat) (e:Info),infos[i]? =some e->ops[i]? =some e.o
 dst:∀(i:Nat) (e:Info) d,infos[i]? =some e->e.o.dst=some d->d<N
 fr:∀(i:Nat) (e:Info),infos[i]? =some e->FrX (fun j=>j<i) fr0 infos e.fr
 guard:∀(i:Nat) (e:Info),infos[i]? =some e->match e.o.guard with
  |none=>e.want=true
  |some (j,want)=>∃d v,(ops[j]?).bind (·.dst)=some d/\lk e.fr d=.lit v/\e.want=(yb v==some want)
 no:∀(i:Nat) (e:Info),infos[i]? =some e->e.want=false->e.V=.lit undef
 pur:∀(i:Nat) (e:Info),infos[i]? =some e->e.want=true->e.eff=false->∀s,s<=S->
  (∀(j:Nat) (f:Info),infos[j]? =some f->f.eff=true->Zh ops i j=true->f.rank<s)->
  (∀(j:Nat) (f:Info),infos[j]? =some f->f.eff=true->Zh ops j i=true->s<=f.rank)->
  OpEx P B e.o (ev e.fr) (Sg s) e.V (Sg s)
 eff:∀(i:Nat) (e:Info),infos[i]? =some e->e.eff=true->e.rank<S/\ZO fs e.o.op=true/\(i≠xc->if e.want=true then OpEx P B e.o (ev e.fr) (Sg e.rank) e.V (Sg (e.rank+1))else Sg (e.rank+1)=Sg e.rank)
 ranks:∀r,r<S->∃(i:Nat) (e:Info),infos[i]? =some e/\e.eff=true/\e.rank=r
 mono:∀(i j:Nat) (e f:Info),infos[i]? =some e->infos[j]? =some f->e.eff=true->f.eff=true->i<j->e.rank<f.rank
variable {xc:Nat}{ops:Array Oper}{fr0:Frm}{infos:List Info}{Sg:Nat->ZE}{S:Nat}{m0:Map}{w0:World}{Q:Exit->Act->World->Prop}{listed:Array Bool}{fr:Frm}{i:Nat}
theorem ZDe (hd:ZAZ fs ops=true)(hp:PlanX xc fs P B N ops fr0 infos Sg S){s:Nat}{m:Map}{a:Act}{w:World}(hsz:listed.size=ops.size)(hcl:∀(i:Nat) (o:Oper),ops[i]? =some o->listed.getD i true=true->∀e∈o.after,yC .any e=true->listed.getD e.on false=true)(hfr:FrX (fun j=>listed.getD j true=true) fr0 infos fr)(hsS:s<=S)(hst:∀(j:Nat) (e:Info),infos[j]? =some e->e.eff=true->(listed.getD j true=true↔e.rank<s))(h:ASim B nb N m0 w0 ⟨fr,Sg s⟩ m a w)(hi:i∈yD .any ops listed){R:Act->World->Prop}(hc:∀(e:Info),infos[i]? =some e->i=xc->e.want=true->e.eff=true->s=e.rank->(∀x,x∈e.o.op.operands->ev e.fr x=ev fr x)->e.o.wp P a w R Q)(next:∀(e:Info),infos[i]? =some e->i≠xc∨e.want=false->∀(fr':Frm) (s':Nat) (m':Map) (a':Act) (w':World),(∀t,lk fr' t=if e.o.dst=some t then e.V else lk fr t)->s'<=S->s'=(if e.eff=true then e.rank+1 else s)->
    (∀(j:Nat) (f:Info),infos[j]? =some f->f.eff=true->((listed.getD j true=true∨j=i)↔f.rank<s'))->ASim B nb N m0 w0 ⟨fr',Sg s'⟩ m' a' w'->R a' w')(hxw:∀(e:Info),infos[xc]? =some e->e.want=true)(hxe:∀(e:Info),infos[xc]? =some e->e.eff=true):wpOp P ops Q i R a w:=by
 have hlow:∀(i:Nat) (o:Oper),ops[i]? =some o->∀e∈o.after,yC .any e=true->e.on<i:=fun i o ho=>(Zd hd ho ho).1
 have inB:∀{listed:Array Bool},listed.size=ops.size->∀{i:Nat} {o:Oper},ops[i]? =some o->∀b:Bool,listed.getD i true=listed.getD i b:=by
  intro listed hs i o hi b
  have:i<listed.size:=by rw[hs];exact(zA.1 hi).1
  simp[this]
 obtain⟨h0,o,ho,hall⟩:=mem_ready.1 hi
 have hin:i<ops.size:=(zA.1 ho).1
 obtain⟨e,he⟩:∃e,infos[i]? =some e:=⟨infos[i]'(by rw[hp.len];exact hin),zE (by rw[hp.len];exact hin)⟩
 have heo:e.o=o:=by have:=hp.op i e he;rw[ho]at this;exact(zV this).symm
 subst heo
 have rdy:∀j,Zh ops i j=true->listed.getD j false=true:=fun j hj=>by
  obtain⟨ed,hed,hb,hj⟩:=ZBl hlow ho hj
  have h1:=hall ed hed hb
  rcases hj with rfl|hj
  ·exact h1
  ·have hlt:=hlow i e.o ho ed hed hb
   have heo:ops[ed.on]? =some (ops[ed.on]'(by omega)):=zB (by omega)
   exact Zn hlow hsz hcl (ed.on+1) ed.on j _ (by omega) heo (by rw[inB hsz heo false];exact h1) hj
 -- the ZC3 read as in the lexical order
 have agree:∀t,t∈ZC3 ops e.o->lk fr t=lk e.fr t:=by
  intro t ht
  have hlex:=hp.fr i e he
  by_cases hex:∃(j:Nat) (f:Info),infos[j]? =some f/\f.o.dst=some t
  ·obtain⟨j,f,hj,hdj⟩:=hex
   have hjo:=hp.op j f hj
   have uniq:∀(j':Nat) (f':Info),infos[j']? =some f'->f'.o.dst=some t->j'=j:=by
    intro j' f' hj' hdj'
    apply zX
    intro hne
    exact((Zd hd (hp.op j' f' hj') hjo).2 hne).1 t hdj' hdj
   by_cases hij:i=j
   ·subst hij
    rw[(hfr t).2 (fun j' f' hj' hx hdj'=>by rw[uniq j' f' hj' hdj',h0]at hx;cases hx),
     (hlex t).2 (fun j' f' hj' hx hdj'=>by rw[uniq j' f' hj' hdj']at hx;omega)]
   ·have hord:=((Zd hd ho hjo).2 hij).2.1 t hdj ht
    unfold ZLQ at hord
    split at hord
    ·next hlt=>
     have hl:=rdy j hord
     rw[←inB hsz hjo false]at hl
     rw[(hfr t).1 _ f hj hl hdj,(hlex t).1 _ f hj hlt hdj]
    ·next hge=>
     have hnl:listed.getD j true=false:=by
      cases hl:listed.getD j true with
      |false=>rfl
      |true=>
       have:=Zn hlow hsz hcl (j+1) j i f.o (by omega) hjo hl hord
       rw[←inB hsz ho false,h0]at this;cases this
     rw[(hfr t).2 (fun j' f' hj' hx hdj'=>by rw[uniq j' f' hj' hdj',hnl]at hx;cases hx),
      (hlex t).2 (fun j' f' hj' hx hdj'=>by rw[uniq j' f' hj' hdj']at hx;omega)]
  ·have hno:∀(j:Nat) (f:Info),infos[j]? =some f->f.o.dst≠some t:=fun j f hj hdj=>hex ⟨j,f,hj,hdj⟩
   rw[(hfr t).2 (fun j f hj _=>hno j f hj),(hlex t).2 (fun j f hj _=>hno j f hj)]
 have hrho:∀x,x∈e.o.op.operands->ev e.fr x=ev fr x:=by
  intro x hx
  cases x with
  |tmp t=>exact(agree t (ZCy hx)).symm
  |_=>rfl
 have stay:e.eff=false->∀(j:Nat) (f:Info),infos[j]? =some f->f.eff=true->((listed.getD j true=true∨j=i)↔f.rank<s):=by
  intro hne j f hj hf
  rw[←hst j f hj hf]
  refine⟨fun hx=>hx.elim id fun e'=> ?_,.inl⟩
  subst e';rw[he]at hj;obtain rfl:=zV hj;rw[hne]at hf;cases hf
 have hwant:yE e.o (yielded ops a.tmps)=e.want:=by
  have hg:=hp.guard i e he
  unfold yE
  cases hgd:e.o.guard with
  |none=>rw[hgd]at hg;exact hg.symm
  |some g=>
   obtain⟨j,want⟩:=g
   rw[hgd]at hg
   obtain⟨d,b,h1,h2,h3⟩:=hg
   have hsl:d∈ZC3 ops e.o:=by
    unfold ZC3;rw[hgd];exact List.mem_append_right _ (by show d∈((ops[j]?).bind (·.dst)).toList;rw[h1];simp)
   have hv:Conc B (Av m) w m (lk fr d) (a.tmps.getD d undef):=h.fr.2 d
   rw[agree d hsl,h2]at hv
   have:=ZBj h1 (Conc.lit_inv hv)
   simp only[this,h3]
 unfold wpOp
 rw[ho]
 simp only[hwant]
 have ranked:e.eff=true->s=e.rank:=by
  intro hef
  obtain⟨hrS,hie,_⟩:=hp.eff i e he hef
  have h1:s<=e.rank:=by
   apply zX
   intro hlt
   have:=(hst i e he hef).2 (by omega)
   rw[h0]at this;cases this
  rcases zY s e.rank with hlt|hge
  ·obtain⟨j,f,hj,hf,hrk⟩:=hp.ranks s (by omega)
   have hji:j<i:=by
    rcases zZ j i with h'|h'|h'
    ·exact h'
    ·subst h';rw[he]at hj;obtain rfl:=zV hj;omega
    ·have:=hp.mono i j e f he hj hef hf h';omega
   have hfe:=(hp.eff j f hj hf).2.1
   have hord:=((Zd hd ho (hp.op j f hj)).2 (by omega)).2.2 hie hfe
   unfold ZLQ at hord
   rw[iP hji]at hord
   have hl:=rdy j hord
   rw[←inB hsz (hp.op _ f hj) false]at hl
   have:=(hst _ f hj hf).1 hl
   omega
  ·omega
 have up:e.eff=true->∀(j:Nat) (f:Info),infos[j]? =some f->f.eff=true->((listed.getD j true=true∨j=i)↔f.rank<e.rank+1):=by
  intro hef j f hj hf
  have hs:=ranked hef
  subst hs
  constructor
  ·rintro(hl|rfl)
   ·have:=(hst j f hj hf).1 hl;omega
   ·rw[he]at hj;obtain rfl:=zV hj;omega
  ·intro hlt
   rcases zY f.rank e.rank with h'|h'
   ·exact .inl ((hst j f hj hf).2 h')
   ·right
    rcases zZ j i with h''|h''|h''
    ·have:=hp.mono j i f e hj he hf hef h'';omega
    ·exact h''
    ·have:=hp.mono i j e f he hj hef hf h'';omega
 cases hw:e.want with
 |false=>
  have hV:=hp.no i e he hw
  simp only[yB,if_false]
  have fin:ZAL N e.o.dst (.lit undef) fr (Sg s) (fun st'=>(∀t,lk st'.fr t=if e.o.dst=some t then e.V else lk fr t)/\st'.σ=Sg s):=by
   unfold ZAL
   cases hdst:e.o.dst with
   |none=>simp
   |some d=>simp[hp.dst i e d he hdst,hV]
  obtain⟨⟨fr',σ'⟩,⟨h1,rfl⟩,hsim⟩:=h.next fin h.sim (.lit undef) (Fr.refl m w)
  cases hef:e.eff with
  |false=>exact next e he (.inr hw) fr' s m _ w h1 hsS (by rw[hef];rfl) (stay hef) hsim
  |true=>
   have hnx:i≠xc:=fun hq=>by subst hq;rw[hxw e he]at hw;cases hw
   obtain⟨hrS,_,hx⟩:=hp.eff i e he hef
   have hx:=hx hnx
   rw[iN (by simp[hw])]at hx
   have hs:=ranked hef
   subst hs
   exact next e he (.inl hnx) fr' (e.rank+1) m _ w h1 hrS (by rw[hef];rfl) (up hef) (by rw[hx];exact hsim)
 |true=>
  simp only[if_true]
  left
  cases hef:e.eff with
  |false=>
   have hnx:i≠xc:=fun hq=>by subst hq;rw[hxe e he]at hef;cases hef
   have hx:=hp.pur i e he hw hef s hsS
    (fun j f hj hf hed=>by
     have hl:=rdy j hed
     rw[←inB hsz (hp.op _ f hj) false]at hl
     exact(hst _ f hj hf).1 hl)
    (fun j f hj hf hed=>by
     apply zX
     intro hlt
     have hl:=(hst j f hj hf).2 (by omega)
     have:=Zn hlow hsz hcl (j+1) j i f.o (by omega) (hp.op j f hj) hl hed
     rw[←inB hsz ho false,h0]at this;cases this)
   have hx':=OpEx.congr (ρ':=ev fr) hrho hx
   exact OpEx.wp (st:=⟨fr,Sg s⟩) hx' h (fun d hdst=>hp.dst i e d he hdst) fun fr' m' a' w' h1 h2=>next e he (.inl hnx) fr' s m' a' w' h1 hsS (by rw[hef];rfl) (stay hef) h2
  |true=>
   obtain⟨hrS,hie,hx⟩:=hp.eff i e he hef
   have hs:=ranked hef
   by_cases hnx:i=xc
   ·exact hc e he hnx hw hef hs hrho
   have hx:=hx hnx
   rw[iP hw]at hx
   subst hs
   have hx':=OpEx.congr (ρ':=ev fr) hrho hx
   exact OpEx.wp (st:=⟨fr,Sg e.rank⟩) hx' h (fun d hdst=>hp.dst i e d he hdst) fun fr' m' a' w' h1 h2=>next e he (.inl hnx) fr' (e.rank+1) m' a' w' h1 hrS (by rw[hef];rfl) (up hef) h2
variable {o:Oper}
theorem ZLb (ho:ops[i]? =some o)(hsz:listed.size=ops.size)(hcl:∀(i:Nat) (o:Oper),ops[i]? =some o->listed.getD i true=true->∀e∈o.after,yC .any e=true->listed.getD e.on false=true)(hall:∀e∈o.after,yC .any e=true->listed.getD e.on false=true):
  (∀j,(listed.setIfInBounds i true).getD j true=true↔(listed.getD j true=true∨j=i))/\
  (∀(j:Nat) (o:Oper),ops[j]? =some o->(listed.setIfInBounds i true).getD j true=true->∀e∈o.after,yC .any e=true->(listed.setIfInBounds i true).getD e.on false=true):=by
 have hin:i<ops.size:=(zA.1 ho).1
 have hset:∀j,(listed.setIfInBounds i true).getD j true=true↔(listed.getD j true=true∨j=i):=by
  intro j
  by_cases e:i=j
  ·subst e;simp[hsz,hin]
  ·rw[getD_set_ne true e];simp[Ne.symm e]
 refine⟨hset,fun j o' hj hl ed hed hb=> ?_⟩
 rcases(hset j).1 hl with hl|rfl
 ·exact getD_set_true (hcl j o' hj hl ed hed hb)
 ·rw[ho]at hj;obtain rfl:=zV hj
  exact getD_set_true (hall ed hed hb)
theorem ZEq {fuel:Nat}(hin:i<ops.size)(h0:listed.getD i true=false)(hset:∀j,(listed.setIfInBounds i true).getD j true=true↔(listed.getD j true=true∨j=i))(hcnt:((zK ops.size).filter fun i=> !listed.getD i true).length<=fuel+1):((zK ops.size).filter fun j=> !(listed.setIfInBounds i true).getD j true).length<=fuel:=by
 have hlt:=ZFh (p:=fun i=> !listed.getD i true) (q:=fun j=> !(listed.setIfInBounds i true).getD j true) (i:=i)
  (fun x hx=>by
   cases hl:listed.getD x true with
   |false=>rfl
   |true=>have:=(hset x).2 (.inl hl);rw[this]at hx;cases hx)
  (by simp only[h0];rfl) (by rw[(hset i).2 (.inr rfl)];rfl) (zK ops.size) (by simpa using hin)
 exact Nat.le_of_lt_succ (Nat.lt_of_lt_of_le hlt hcnt)
theorem ZJc {fr':Frm}{e:Info}(hd:ZAZ fs ops=true)(hop:∀(i:Nat) (e:Info),infos[i]? =some e->ops[i]? =some e.o)(he:infos[i]? =some e)(hset:∀j,(listed.setIfInBounds i true).getD j true=true↔(listed.getD j true=true∨j=i))(hfr:FrX (fun j=>listed.getD j true=true) fr0 infos fr)(hlk:∀t,lk fr' t=if e.o.dst=some t then e.V else lk fr t):FrX (fun j=>(listed.setIfInBounds i true).getD j true=true) fr0 infos fr':=by
 have ho:=hop i e he
 intro t
 refine⟨fun j f hj hx hdj=> ?_,fun hno=> ?_⟩
 ·rw[hlk]
  rcases(hset j).1 hx with hx|rfl
  ·by_cases hdi:e.o.dst=some t
   ·by_cases hij:i=j
    ·subst hij;rw[he]at hj;obtain rfl:=zV hj;rw[iP hdi]
    ·exact absurd hdj (((Zd hd ho (hop j f hj)).2 hij).1 t hdi)
   ·rw[iN hdi];exact(hfr t).1 j f hj hx hdj
  ·rw[he]at hj;obtain rfl:=zV hj;rw[iP hdj]
 ·rw[hlk,iN (hno i e he ((hset i).2 (.inr rfl)))]
  exact(hfr t).2 fun j f hj hx=>hno j f hj ((hset j).2 (.inl hx))
variable {frN:Frm}{K:ASt->Prop}
theorem ZCS (hd:ZAZ fs ops=true)(hp:PlanX xc fs P B N ops fr0 infos Sg S)(hN:FrX (fun _=>True) fr0 infos frN)(hK:K ⟨frN,Sg S⟩)(hn:∀st' m' a' w',K st'->ASim B nb N m0 w0 st' m' a' w'->Q .normal a' w'):∀(listed:Array Bool) (fr:Frm) (s:Nat) (m:Map) (a:Act) (w:World),listed.size=ops.size->yD .any ops listed=[]->
   FrX (fun j=>listed.getD j true=true) fr0 infos fr->s<=S->(∀(j:Nat) (e:Info),infos[j]? =some e->e.eff=true->(listed.getD j true=true↔e.rank<s))->
   ASim B nb N m0 w0 ⟨fr,Sg s⟩ m a w->Q .normal a w:=by
 have inB:∀{listed:Array Bool},listed.size=ops.size->∀{i:Nat} {o:Oper},ops[i]? =some o->∀b:Bool,listed.getD i true=listed.getD i b:=by
  intro listed hs i o hi b
  have:i<listed.size:=by rw[hs];exact(zA.1 hi).1
  simp[this]
 intro listed fr s m a w hsz hr hfr hsS hst h
 have all:∀i,listed.getD i true=true:=by
  intro i
  induction i using Nat.strongRecOn with
  |_ i ih=>
   cases hl:listed.getD i true with
   |true=>rfl
   |false=>
    have hin:i<ops.size:=by
     rcases zY i listed.size with h'|h'
     ·omega
     ·rw[Array.getD_eq_getD_getElem?,Array.getElem?_eq_none h']at hl;simp at hl
    have hio:ops[i]? =some ops[i]:=zB hin
    have:i∈yD .any ops listed:=mem_ready.2 ⟨hl,ops[i],hio,fun e he hb=>by
     have hlt:=(Zd hd hio hio).1 e he hb
     have:=ih e.on hlt
     have heo:ops[e.on]? =some (ops[e.on]'(by omega)):=zB (by omega)
     rw[inB hsz heo false]at this;exact this⟩
    rw[hr]at this;simp at this
 have hs:s=S:=by
  rcases zY s S with hlt|hge
  ·obtain⟨i,e,hi,he,hrk⟩:=hp.ranks s hlt
   have:=(hst i e hi he).1 (all i)
   omega
  ·omega
 subst hs
 refine hn ⟨frN,Sg s⟩ m a w hK ⟨h.sim,⟨h.fr.1,fun t=> ?_⟩,h.df,h.step,h.base,h.ok⟩
 have:lk frN t=lk fr t:=by
  by_cases hex:∃(j:Nat) (e:Info),infos[j]? =some e/\e.o.dst=some t
  ·obtain⟨j,e,hj,hdj⟩:=hex
   rw[(hN t).1 j e hj trivial hdj,(hfr t).1 j e hj (all j) hdj]
  ·have hno:∀(j:Nat) (e:Info),infos[j]? =some e->e.o.dst≠some t:=fun j e hj hdj=>hex ⟨j,e,hj,hdj⟩
   rw[(hN t).2 (fun j e hj _=>hno j e hj),(hfr t).2 (fun j e hj _=>hno j e hj)]
 show Conc B _ w m (lk frN t) _
 rw[this];exact h.fr.2 t
theorem ZDS (hcnt:((zK ops.size).filter fun i=> !listed.getD i true).length<=0):yD .any ops listed=[]:=by
 apply List.eq_nil_iff_forall_not_mem.2
 intro i hi
 obtain⟨h0,o,ho,_⟩:=mem_ready.1 hi
 have hin:i<ops.size:=(zA.1 ho).1
 have:i∈(zK ops.size).filter fun i=> !listed.getD i true:=by
  rw[List.mem_filter];exact⟨by simpa using hin,by simp only[h0];rfl⟩
 rw[List.eq_nil_of_length_eq_zero (Nat.le_zero.1 hcnt)]at this
 simp at this
theorem ZIP (hd:ZAZ fs ops=true)(hp:PlanX xc fs P B N ops fr0 infos Sg S)(hN:FrX (fun _=>True) fr0 infos frN)(hK:K ⟨frN,Sg S⟩)(hn:∀st' m' a' w',K st'->ASim B nb N m0 w0 st' m' a' w'->Q .normal a' w')(hxw:∀(e:Info),infos[xc]? =some e->e.want=true)(hxe:∀(e:Info),infos[xc]? =some e->e.eff=true):
  ∀(fuel:Nat) (listed:Array Bool) (fr:Frm) (s:Nat) (m:Map) (a:Act) (w:World),listed.size=ops.size->listed.getD xc true=true->
   ((zK ops.size).filter fun i=> !listed.getD i true).length<=fuel->
   (∀(i:Nat) (o:Oper),ops[i]? =some o->listed.getD i true=true->∀e∈o.after,yC .any e=true->listed.getD e.on false=true)->
   FrX (fun j=>listed.getD j true=true) fr0 infos fr->s<=S->
   (∀(j:Nat) (e:Info),infos[j]? =some e->e.eff=true->(listed.getD j true=true↔e.rank<s))->
   ASim B nb N m0 w0 ⟨fr,Sg s⟩ m a w->wpAny P .any ops Q fuel listed a w:=by
 intro fuel
 induction fuel with
 |zero=>
  intro listed fr s m a w hsz hxl hcnt hcl hfr hsS hst h
  exact⟨ZDS hcnt,ZCS hd hp hN hK hn listed fr s m a w hsz (ZDS hcnt) hfr hsS hst h⟩
 |succ fuel ih=>
  intro listed fr s m a w hsz hxl hcnt hcl hfr hsS hst h
  refine⟨fun hr=>ZCS hd hp hN hK hn listed fr s m a w hsz hr hfr hsS hst h,fun i hi=> ?_⟩
  obtain⟨h0,o,ho,hall⟩:=mem_ready.1 hi
  have hin:i<ops.size:=(zA.1 ho).1
  obtain⟨hset,hcl'⟩:=ZLb ho hsz hcl hall
  refine ZDe hd hp hsz hcl hfr hsS hst h hi (fun e he hix=>by subst hix;rw[h0]at hxl;cases hxl) (fun e he _ fr' s' m' a' w' q1 q2 _ q3 q4=> ?_) hxw hxe
  refine ih (listed.setIfInBounds i true) fr' s' m' a' w' (by simpa using hsz) ((hset xc).2 (.inl hxl)) (ZEq hin h0 hset hcnt) hcl' (ZJc hd hp.op he hset hfr q1) q2 (fun j f hj hf=>by rw[hset];exact q3 j f hj hf) q4
theorem ZEQ {X:Type}{rc:Nat}{frN:X->Frm}{infos:X->List Info}{Sg:X->Nat->ZE}(hd:ZAZ fs ops=true)(hp:∀x,PlanX xc fs P B N ops fr0 (infos x) (Sg x) S)(hN:∀x,FrX (fun _=>True) fr0 (infos x) (frN x))(hK:∀x,K ⟨frN x,Sg x S⟩)(hn:∀st' m' a' w',K st'->ASim B nb N m0 w0 st' m' a' w'->Q .normal a' w')(hxw:∀x (e:Info),(infos x)[xc]? =some e->e.want=true)(hxe:∀x (e:Info),(infos x)[xc]? =some e->e.eff=true)(hxr:∀x (e:Info),(infos x)[xc]? =some e->e.rank=rc)(x0:X)(hxs:xc<ops.size)(hag:∀x y (i:Nat) (e f:Info),(infos x)[i]? =some e->(infos y)[i]? =some f->i≠xc->Zh ops i xc=false->e.V=f.V/\e.eff=f.eff/\e.rank=f.rank)(hSg:∀x y s,s<=rc->Sg x s=Sg y s)(hcall:∀x (e:Info),(infos x)[xc]? =some e->∀(fr:Frm) (m:Map) (a:Act) (w:World) (R:Act->World->Prop),ASim B nb N m0 w0 ⟨fr,Sg x rc⟩ m a w->(∀z,z∈e.o.op.operands->ev e.fr z=ev fr z)->
   (∀y (f:Info),(infos y)[xc]? =some f->∀(fr':Frm) (m':Map) (a':Act) (w':World),(∀t,lk fr' t=if e.o.dst=some t then f.V else lk fr t)->ASim B nb N m0 w0 ⟨fr',Sg y (rc+1)⟩ m' a' w'->R a' w')->e.o.wp P a w R Q):
  ∀(fuel:Nat) (listed:Array Bool) (fr:Frm) (s:Nat) (σ:ZE) (m:Map) (a:Act) (w:World),listed.size=ops.size->listed.getD xc true=false->
   ((zK ops.size).filter fun i=> !listed.getD i true).length<=fuel->
   (∀(i:Nat) (o:Oper),ops[i]? =some o->listed.getD i true=true->∀e∈o.after,yC .any e=true->listed.getD e.on false=true)->
   (∀x,FrX (fun j=>listed.getD j true=true) fr0 (infos x) fr)->s<=S->
   (∀x (j:Nat) (e:Info),(infos x)[j]? =some e->e.eff=true->(listed.getD j true=true↔e.rank<s))->(∀x,Sg x s=σ)->
   ASim B nb N m0 w0 ⟨fr,σ⟩ m a w->wpAny P .any ops Q fuel listed a w:=by
 have hlow:∀(i:Nat) (o:Oper),ops[i]? =some o->∀e∈o.after,yC .any e=true->e.on<i:=fun i o ho=>(Zd hd ho ho).1
 have inB:∀{listed:Array Bool},listed.size=ops.size->∀{i:Nat} {o:Oper},ops[i]? =some o->∀b:Bool,listed.getD i true=listed.getD i b:=by
  intro listed hs i o hi b
  have:i<listed.size:=by rw[hs];exact(zA.1 hi).1
  simp[this]
 have hxo:ops[xc]? =some ops[xc]:=zB hxs
 have hinfo:∀x,∃e,(infos x)[xc]? =some e:=fun x=>⟨(infos x)[xc]'(by rw[(hp x).len];exact hxs),zE (by rw[(hp x).len];exact hxs)⟩
 intro fuel
 induction fuel with
 |zero=>
  intro listed fr s σ m a w hsz hxl hcnt hcl hfr hsS hst hσ h
  have:=ZDS hcnt
  refine⟨this,ZCS hd (hp x0) (hN x0) (hK x0) hn listed fr s m a w hsz this (hfr x0) hsS (hst x0) (by rw[hσ];exact h)⟩
 |succ fuel ih=>
  intro listed fr s σ m a w hsz hxl hcnt hcl hfr hsS hst hσ h
  refine⟨fun hr=>ZCS hd (hp x0) (hN x0) (hK x0) hn listed fr s m a w hsz hr (hfr x0) hsS (hst x0) (by rw[hσ];exact h),fun i hi=> ?_⟩
  obtain⟨h0,o,ho,hall⟩:=mem_ready.1 hi
  have hin:i<ops.size:=(zA.1 ho).1
  obtain⟨hset,hcl'⟩:=ZLb ho hsz hcl hall
  refine ZDe hd (hp x0) hsz hcl (hfr x0) hsS (hst x0) (by rw[hσ];exact h) hi ?_ ?_ (hxw x0) (hxe x0)
  ·intro e he hix hw hef hs hrho
   subst hix
   have hrc:=hxr x0 e he
   rw[hrc]at hs
   subst hs
   refine hcall x0 e he fr m a w _ (by rw[hσ];exact h) hrho fun y f hf fr' m' a' w' hlk h'=> ?_
   have heo:f.o=e.o:=by
    have q1:=(hp x0).op i e he
    have q2:=(hp y).op i f hf
    rw[q1]at q2;exact(zV q2).symm
   have hrS:=((hp x0).eff i e he hef).1
   refine ZIP hd (hp y) (hN y) (hK y) hn (hxw y) (hxe y) fuel (listed.setIfInBounds i true) fr' (s+1) m' a' w' (by simpa using hsz) ((hset i).2 (.inr rfl)) (ZEq hin h0 hset hcnt) hcl' ?_ (by omega) ?_ h'
   ·exact ZJc hd (hp y).op hf hset (hfr y) (by rw[heo];exact hlk)
   ·intro j g hj hg
    rw[hset]
    have hfr2:=hxr y f hf
    constructor
    ·rintro(hl|rfl)
     ·have:=(hst y j g hj hg).1 hl;omega
     ·rw[hf]at hj;obtain rfl:=zV hj;omega
    ·intro hlt
     rcases zY g.rank s with h'|h'
     ·exact .inl ((hst y j g hj hg).2 h')
     ·right
      rcases zZ j i with h''|h''|h''
      ·have:=(hp y).mono j i g f hj hf hg (hxe y f hf) h'';omega
      ·exact h''
      ·have:=(hp y).mono i j f g hf hj (hxe y f hf) hg h'';omega
  ·intro e he hnx fr' s' m' a' w' q1 q2 qs q3 q4
   have hne:i≠xc:=by
    rintro rfl
    rcases hnx with hnx|hnx
    ·exact hnx rfl
    ·rw[hxw x0 e he]at hnx;cases hnx
   have hnr:Zh ops i xc=false:=by
    cases hr:Zh ops i xc with
    |false=>rfl
    |true=>
     obtain⟨ed,hed,hb,hj⟩:=ZBl hlow ho hr
     have h1:=hall ed hed hb
     have:listed.getD xc false=true:=by
      rcases hj with rfl|hj
      ·exact h1
      ·have hlt:=hlow i o ho ed hed hb
       have heo:ops[ed.on]? =some (ops[ed.on]'(by omega)):=zB (by omega)
       exact Zn hlow hsz hcl (ed.on+1) ed.on xc _ (by omega) heo (by rw[inB hsz heo false];exact h1) hj
     rw[←inB hsz hxo false,hxl]at this;cases this
   have hs':s'<=rc:=by
    obtain⟨f,hf⟩:=hinfo x0
    have hfr:=hxr x0 f hf
    have:=(q3 xc f hf (hxe x0 f hf))
    apply zX
    intro hlt
    have:=this.2 (by omega)
    rcases this with q|q
    ·rw[hxl]at q;cases q
    ·exact hne q.symm
   have same:∀x,∃f,(infos x)[i]? =some f/\f.V=e.V/\f.eff=e.eff/\f.rank=e.rank/\f.o=e.o:=by
    intro x
    have hlx:i<(infos x).length:=by rw[(hp x).len];exact hin
    refine⟨(infos x)[i],zE hlx,?_⟩
    obtain⟨c1,c2,c3⟩:=hag x x0 i _ e (zE hlx) he hne hnr
    refine⟨c1,c2,c3,?_⟩
    have r1:=(hp x0).op i e he
    have r2:=(hp x).op i _ (zE hlx)
    rw[r1]at r2;exact(zV r2).symm
   refine ih (listed.setIfInBounds i true) fr' s' (Sg x0 s') m' a' w' (by simpa using hsz) ?_ (ZEq hin h0 hset hcnt) hcl' ?_ q2 ?_ (fun x=>hSg x x0 s' hs') q4
   ·cases hq:(listed.setIfInBounds i true).getD xc true with
    |false=>rfl
    |true=>
     rcases(hset xc).1 hq with q|q
     ·rw[hxl]at q;cases q
     ·exact absurd q.symm hne
   ·intro x
    obtain⟨f,hf,c1,c2,c3,c4⟩:=same x
    exact ZJc hd (hp x).op hf hset (hfr x) (by rw[c1,c4];exact q1)
   ·intro x j g hj hg
    rw[hset]
    obtain⟨f,hf,c1,c2,c3,c4⟩:=same x
    have hx:=hst x
    cases hee:e.eff with
    |false=>
     rw[hee]at qs
     simp only[yB,if_false]at qs
     subst qs
     rw[←hx j g hj hg]
     refine⟨fun q=>q.elim id fun q=> ?_,.inl⟩
     subst q;rw[hf]at hj;obtain rfl:=zV hj;rw[c2,hee]at hg;cases hg
    |true=>
     rw[hee]at qs
     simp only[if_true]at qs
     have hes:s=e.rank:=by
      have h1:s<=e.rank:=by
       apply zX
       intro hlt
       have:=(hst x0 i e he hee).2 (by omega)
       rw[h0]at this;cases this
      have h2:=(q3 i e he hee).1 (.inr rfl)
      rcases zY s e.rank with hlt|hge
      ·obtain⟨j',f',hj',hf',hrk⟩:=(hp x0).ranks s (by omega)
       have hn1:¬listed.getD j' true=true:=fun q=>by have:=(hst x0 j' f' hj' hf').1 q;omega
       have:=(q3 j' f' hj' hf').2 (by omega)
       rcases this with q|q
       ·exact absurd q hn1
       ·subst q;rw[he]at hj';obtain rfl:=zV hj';omega
      ·omega
     constructor
     ·rintro(hl|rfl)
      ·have:=(hx j g hj hg).1 hl;omega
      ·rw[hf]at hj;obtain rfl:=zV hj;omega
     ·intro hlt
      rcases zY g.rank e.rank with h'|h'
      ·exact .inl ((hx j g hj hg).2 (by omega))
      ·right
       have hfe:f.eff=true:=by rw[c2];exact hee
       rcases zZ j i with h''|h''|h''
       ·have:=(hp x).mono j i g f hj hf hg hfe h'';omega
       ·exact h''
       ·have:=(hp x).mono i j f g hf hj hfe hg h'';omega
def kkP (fs:List FuncId)(XS:List Nat)(TS:List (Nat×Nat))(KK:List Nat->List (Nat×Nat)->Frm->List ZE->List AV->Lds->Prop)(acc:List Info)(ss:List ZE)(fr:Frm):Prop:=
 ∃xs ts ps ls,ss≠[]/\xs=XS.drop acc.length/\ts=TS.drop acc.length/\FP fs acc.reverse XS TS ps ls/\KK xs ts fr ss ps ls
def aLg (fs:List FuncId)(P:Program)(B N:Nat)(ops:Array Oper):List Oper->List Nat->List (Nat×Nat)->Frm->List ZE->List AV->Lds->(List Nat->List (Nat×Nat)->Frm->List ZE->List AV->Lds->Prop)->Prop
 | [],xs,ts,fr,ss,ps,ls,KK=>KK xs ts fr ss ps ls
 |o::rest,xs,ts,fr,ss,ps,ls,KK=>ZAX ops fr o.guard
   (chk (ZE1 fs (xs.headD 0) o.op fr) (hold (ZIe fs P B o.op fr (ss.headD []) (hold (fun r σ'=>ZBs N o.dst (hold (aLg fs P B N ops rest xs.tail ts.tail (Zl o.dst r fr) (if ZO fs o.op=true then σ'::ss else ss) (ZAp (xs.headD 0) o.op fr ps) (ZDW (xs.headD 0) o.op fr r (ts.headD (0,0)) ls) KK) .mk)) .mk)) .mk))
   (ZBs N o.dst (hold (aLg fs P B N ops rest xs.tail ts.tail (Zl o.dst (.lit undef) fr) (if ZO fs o.op=true then ss.headD []::ss else ss) ps ls KK) .mk))
theorem ZBD {ops:Array Oper}{XS:List Nat}{TS:List (Nat×Nat)}{KK:List Nat->List (Nat×Nat)->Frm->List ZE->List AV->Lds->Prop}:∀(rest:List Oper) (xs:List Nat) (ts:List (Nat×Nat)) (fr:Frm) (acc:List Info) (ss:List ZE) (ps:List AV) (ls:Lds),ss≠[]->xs=XS.drop acc.length->ts=TS.drop acc.length->FP fs acc.reverse XS TS ps ls->
  aLg fs P B N ops rest xs ts fr ss ps ls KK->aD fs P B N ops rest fr acc ss (kkP fs XS TS KK)
 | [],xs,ts,fr,acc,ss,ps,ls,hss,hxs,hts,hfp,h=>by
  unfold aLg at h
  exact⟨xs,ts,ps,ls,hss,hxs,hts,hfp,h⟩
 |o::rest,xs,ts,fr,acc,ss,ps,ls,hss,hxs,hts,hfp,h=>by
  have hhead:∀x,XS[acc.reverse.length]? =some x->xs.headD 0=x:=by
   intro x hx
   rw[hxs]
   rw[zH]at hx
   have:=(zI.1 hx)
   rw[zR this.1,this.2];rfl
  have htail:∀e:Info,xs.tail=XS.drop (e::acc).length:=by
   intro e;rw[hxs,zO];rfl
  have htt:∀e:Info,ts.tail=TS.drop (e::acc).length:=by
   intro e;rw[hts,zO];rfl
  have hth:TS.getD acc.reverse.length (0,0)=ts.headD (0,0):=by
   rw[hts,zH,zD,List.headD_eq_head?_getD,List.head?_drop]
  have fpF:∀(V:AV) (eff:Bool) (r:Nat),FP fs (acc.reverse++[⟨o,false,eff,fr,V,r⟩]) XS TS ps ls:=fun V eff r=>hfp.snoc (fun _ h=>h) (fun _ h=>h) fun x _ hw=>by cases hw
  unfold aLg at h
  unfold aD
  have hno:ZBs N o.dst (hold (aLg fs P B N ops rest xs.tail ts.tail (Zl o.dst (.lit undef) fr) (if ZO fs o.op=true then ss.headD []::ss else ss) ps ls KK) .mk)->
    dOk N o.dst/\if ZO fs o.op=true then aD fs P B N ops rest (Zl o.dst (.lit undef) fr) (⟨o,false,true,fr,.lit undef,ss.length-1⟩::acc) (ss.headD []::ss) (kkP fs XS TS KK)
     else aD fs P B N ops rest (Zl o.dst (.lit undef) fr) (⟨o,false,false,fr,.lit undef,0⟩::acc) ss (kkP fs XS TS KK):=by
   intro h
   refine⟨h.1,?_⟩
   have h2:=h.2
   split
   ·next he=>
    rw[iP he]at h2
    exact ZBD rest _ _ _ _ (ss.headD []::ss) ps ls (by simp) (htail _) (htt _) (by rw[zF];exact fpF _ _ _) h2
   ·next he=>
    rw[iN he]at h2
    exact ZBD rest _ _ _ _ ss ps ls hss (htail _) (htt _) (by rw[zF];exact fpF _ _ _) h2
  have hyes:chk (ZE1 fs (xs.headD 0) o.op fr) (hold (ZIe fs P B o.op fr (ss.headD []) (hold (fun r σ'=>ZBs N o.dst (hold (aLg fs P B N ops rest xs.tail ts.tail (Zl o.dst r fr) (if ZO fs o.op=true then σ'::ss else ss) (ZAp (xs.headD 0) o.op fr ps) (ZDW (xs.headD 0) o.op fr r (ts.headD (0,0)) ls) KK) .mk)) .mk)) .mk)->
    (match o.op with
    | .call {callee:=.value f,args,.. }=>if ZO fs o.op=true then ZBE P B (ev fr f) (args.toList.map (ev fr)) (ss.headD []) fun r σ'=>dOk N o.dst/\aD fs P B N ops rest (Zl o.dst r fr) (⟨o,true,true,fr,r,ss.length-1⟩::acc) (σ'::ss) (kkP fs XS TS KK)
      else PCall P B (ev fr f) (args.toList.map (ev fr)) fun r=>dOk N o.dst/\aD fs P B N ops rest (Zl o.dst r fr) (⟨o,true,false,fr,r,0⟩::acc) ss (kkP fs XS TS KK)
    |op=>aef P B op (ev fr) (ss.headD []) fun r σ'=>dOk N o.dst/\
      if ZO fs o.op=true then aD fs P B N ops rest (Zl o.dst r fr) (⟨o,true,true,fr,r,ss.length-1⟩::acc) (σ'::ss) (kkP fs XS TS KK)
      else σ'=ss.headD []/\aD fs P B N ops rest (Zl o.dst r fr) (⟨o,true,false,fr,r,ss.length-1⟩::acc) ss (kkP fs XS TS KK)):=by
   rintro⟨hc,h⟩
   simp only[hold]at h
   have hps:∀p,p∈ps->p∈ZAp (xs.headD 0) o.op fr ps:=by
    intro p hp
    unfold ZAp
    split
    ·exact hp
    ·split
     ·exact zP _ hp
     ·exact hp
   have hls:∀(V:AV),∀p,p∈ls->p∈ZDW (xs.headD 0) o.op fr V (ts.headD (0,0)) ls:=by
    intro V p hp
    unfold ZDW
    split
    ·split
     ·exact zP _ hp
     ·exact zP _ hp
     ·exact hp
    ·exact hp
   have fp:∀(eff:Bool) (V:AV) (r:Nat),FP fs (acc.reverse++[⟨o,true,eff,fr,V,r⟩]) XS TS (ZAp (xs.headD 0) o.op fr ps) (ZDW (xs.headD 0) o.op fr V (ts.headD (0,0)) ls):=by
    intro eff V r
    refine hfp.snoc hps (hls V) fun x hx _ h1 h2=> ?_
    have hx':=hhead x hx
    rw[hth]
    rw[hx']at hc
    unfold ZE1 at hc
    by_cases hxt:x=1
    ·exact .inl hxt
    ·have hne:¬(x=1∨ZO fs o.op=true):=by
      rintro(q|q)
      ·exact hxt q
      ·rw[h1]at q;cases q
     rw[iN hne]at hc
     by_cases hx2:x=2
     ·rw[iP hx2]at hc
      refine .inr (.inr (.inr ?_))
      unfold ZDW
      rw[hx',iP hx2]
      simp only at h1 h2 ⊢
      generalize o.op=op at hc ⊢
      cases op with
      |load ty y=>exact⟨ty,y,none,rfl,zQ ..⟩
      |indexAddr ty y i=>exact⟨ty,y,some i,rfl,zQ ..⟩
      |_=>cases hc
     ·rw[iN hx2]at hc
      split at hc
      ·next f args ts hop=>unfold ZS at h2;simp only at h1 h2;rw[h1,hop]at h2;cases h2
      ·split at hc
       ·next y hy=>
        refine .inr (.inr (.inl ⟨y,hy,?_⟩))
        unfold ZAp
        rw[hx',iN hxt,hy]
        exact zQ ..
       ·exact .inr (.inl hc)
   have goE:∀(r:AV) (σ':ZE),ZO fs o.op=true->ZBs N o.dst (aLg fs P B N ops rest xs.tail ts.tail (Zl o.dst r fr) (σ'::ss) (ZAp (xs.headD 0) o.op fr ps) (ZDW (xs.headD 0) o.op fr r (ts.headD (0,0)) ls) KK)->
     dOk N o.dst/\aD fs P B N ops rest (Zl o.dst r fr) (⟨o,true,true,fr,r,ss.length-1⟩::acc) (σ'::ss) (kkP fs XS TS KK):=by
    intro r σ' he hk
    have hk2:=hk.2
    exact⟨hk.1,ZBD rest _ _ _ _ (σ'::ss) _ _ (by simp) (htail _) (htt _) (by rw[zF];exact fp _ _ _) hk2⟩
   have goN:∀(r:AV) (n:Nat),ZO fs o.op=false->ZBs N o.dst (aLg fs P B N ops rest xs.tail ts.tail (Zl o.dst r fr) ss (ZAp (xs.headD 0) o.op fr ps) (ZDW (xs.headD 0) o.op fr r (ts.headD (0,0)) ls) KK)->
     dOk N o.dst/\aD fs P B N ops rest (Zl o.dst r fr) (⟨o,true,false,fr,r,n⟩::acc) ss (kkP fs XS TS KK):=by
    intro r n he hk
    have hk2:=hk.2
    exact⟨hk.1,ZBD rest _ _ _ _ ss _ _ hss (htail _) (htt _) (by rw[zF];exact fp _ _ _) hk2⟩
   clear hno hc fp fpF
   unfold ZIe at h
   cases he:ZO fs o.op with
   |true=>
    simp only[he,if_true]at h goE ⊢
    generalize hop:o.op=op at h ⊢
    have gen:(aef P B op (ev fr) (ss.headD []) fun r σ'=>ZBs N o.dst (hold (aLg fs P B N ops rest xs.tail ts.tail (Zl o.dst r fr) (σ'::ss) (ZAp (xs.headD 0) op fr ps) (ZDW (xs.headD 0) op fr r (ts.headD (0,0)) ls) KK) .mk))->
      aef P B op (ev fr) (ss.headD []) fun r σ'=>dOk N o.dst/\aD fs P B N ops rest (Zl o.dst r fr) (⟨o,true,true,fr,r,ss.length-1⟩::acc) (σ'::ss) (kkP fs XS TS KK):=by
     intro h
     obtain⟨r,s,h1,h2⟩:=ZDQ P B op (ev fr) (ss.headD []) _ h
     exact h2 _ (goE r s trivial (by rw[hop];exact h1))
    cases op with
    |call c=>
     obtain⟨cal,args,ts⟩:=c
     cases cal with
     |value f=>
      simp only[ZBE]at h ⊢
      split at h
      ·obtain⟨r,σ',q1,q2⟩:=h
       exact⟨r,σ',q1,goE r σ' trivial (by rw[hop];exact q2)⟩
      ·exact h.elim
     |_=>exact gen h
    |_=>exact gen h
   |false=>
    simp only[he,yB,if_false]at h goN ⊢
    generalize hop:o.op=op at h ⊢
    have gen:(aef P B op (ev fr) (ss.headD []) fun r σ'=>σ'=ss.headD []/\ZBs N o.dst (hold (aLg fs P B N ops rest xs.tail ts.tail (Zl o.dst r fr) ss (ZAp (xs.headD 0) op fr ps) (ZDW (xs.headD 0) op fr r (ts.headD (0,0)) ls) KK) .mk))->
      aef P B op (ev fr) (ss.headD []) fun r σ'=>dOk N o.dst/\σ'=ss.headD []/\aD fs P B N ops rest (Zl o.dst r fr) (⟨o,true,false,fr,r,ss.length-1⟩::acc) ss (kkP fs XS TS KK):=by
     intro h
     obtain⟨r,s,⟨h0,h1⟩,h2⟩:=ZDQ P B op (ev fr) (ss.headD []) _ h
     have:=goN r (ss.length-1) trivial (by rw[hop];exact h1)
     exact h2 _ ⟨this.1,h0,this.2⟩
    unfold ZCY at h
    cases op with
    |call c=>
     obtain⟨cal,args,ts⟩:=c
     cases cal with
     |value f=>exact PCall.mono h fun r hr=>goN r 0 trivial (by rw[hop];exact hr)
     |_=>exact gen h
    |_=>exact gen h
  unfold ZAX at h ⊢
  split at h
  ·exact hyes h
  ·split at h
   ·split at h
    ·split at h
     ·next hb=>simp only[hb,if_true];exact hyes h
     ·next hb=>simp only[hb,if_false];exact hno h
    ·exact h.elim
   ·exact h.elim
variable {acc:List Info}{ss:List ZE}
theorem ZJi (tab:List (Nat×Nat))(ht:ZIa fs ops tab=true)(xs:List Bool)(hxb:ZBO fs ops tab xs=true)(hl:Lex fs P B N ops xc fr acc.reverse frN ss)(hlen:acc.length=ops.size)(hSlen:ss.length=effCnt fs ops.toList+1)(hfok:FOK fs P acc.reverse xs tab ss):
  ∀(i:Nat) (e:Info),acc.reverse[i]? =some e->e.want=true->e.eff=false->ZS fs e.o.op=false->
   OpEx P B e.o (ev e.fr) (ss.reverse.getD e.rank []) e.V (ss.reverse.getD e.rank [])->e.rank<ss.length->∀s,s<=effCnt fs ops.toList->s≠e.rank->
   (∀(j:Nat) (f:Info),acc.reverse[j]? =some f->f.eff=true->Zh ops i j=true->f.rank<s)->
   (∀(j:Nat) (f:Info),acc.reverse[j]? =some f->f.eff=true->Zh ops j i=true->s<=f.rank)->OpEx P B e.o (ev e.fr) (ss.reverse.getD s []) e.V (ss.reverse.getD s []):=by
 intro i e hi hw he hc hx2 hx1 s hs hsr h1 h2
 have htab:∀(i:Nat) (o:Oper),ops[i]? =some o->∃t,tab[i]? =some t/\ZDJ fs ops i o t.1 t.2=true:=by
  intro i o ho
  unfold ZIa at ht
  rw[Bool.and_eq_true]at ht
  obtain⟨ht1,ht2⟩:=ht
  have ht1:tab.length=ops.size:=by simpa using ht1
  have hin:i<ops.size:=(zA.1 ho).1
  have ht:tab[i]? =some (tab[i]'(by omega)):=zE (by omega)
  have:=zU.1 ht2 i (by simpa using hin)
  rw[ho,ht]at this
  exact⟨_,ht,this⟩
 have noCall:∀{e:Info},ZO fs e.o.op=true->ZS fs e.o.op=false:=fun h=>by unfold ZS;rw[h];rfl
 obtain⟨t,ht,hst⟩:=htab i e.o (hl.op i e hi)
 obtain⟨hlo,hhi⟩:=ZEA hst
 have at':∀(j:Nat) (p:Oper),ops[j]? =some p->ZO fs p.op=true->∃f,acc.reverse[j]? =some f/\f.o=p/\f.eff=true/\f.rank=effCnt fs (ops.toList.take j):=by
  intro j p hp1 hp2
  have:j<acc.reverse.length:=by simp[hlen];exact(zA.1 hp1).1
  have hf:=zE this
  have hfo:(acc.reverse[j]).o=p:=by have:=hl.op j _ hf;rw[hp1]at this;exact(zV this).symm
  have hfe:(acc.reverse[j]).eff=true:=by rw[hl.eff j _ hf,hfo];exact hp2
  exact⟨_,hf,hfo,hfe,hl.rank j _ hf (.inr hfe) (noCall (by rw[hfo];exact hp2))⟩
 have hlo':t.1<=s:=by
  rcases hlo with h0|⟨j,p,hp1,hp2,hp3,hp4⟩
  ·omega
  ·obtain⟨f,hf,hfo,hfe,hfr⟩:=at' j p hp1 hp2
   have:=h1 j f hf hfe hp3
   omega
 have hhi':s<=t.2:=by
  rcases hhi with h0|⟨j,p,hp1,hp2,hp3,hp4⟩
  ·omega
  ·obtain⟨f,hf,hfo,hfe,hfr⟩:=at' j p hp1 hp2
   have:=h2 j f hf hfe hp3
   omega
 have hie:ZO fs e.o.op=false:=by rw[←hl.eff i e hi];exact he
 obtain⟨x,hxs,hxx⟩:=ZEO hxb (hl.op i e hi) ht hc hie
 have hsin:(ss.reverse.getD s [])∈ss:=by
  have hlt:s<ss.reverse.length:=by rw[zH,hSlen];omega
  rw[zD,zE hlt]
  exact List.mem_reverse.1 (List.getElem_mem hlt)
 rcases hfok i e x hi hxs hw hie hc with(hx1'|⟨hpl,hpu⟩|⟨y,hy,hlv⟩)|⟨ty,y,oi,hop,hld⟩
 ·rcases hxx hx1' with hsf|hte
  ·exact OpEx.free hsf hc hx2
  have hrk:=hl.rank i e hi (.inl hw) hc
  rw[hte]at hlo' hhi'
  simp only at hlo' hhi'
  exact absurd (by rw[hrk];exact Nat.le_antisymm hhi' hlo') hsr
 ·exact OpEx.plain hpl hpu hx2
 ·exact OpEx.addr hy (hlv _ hsin) hx2
 ·rw[zD,ht]at hld
  have hl:=hld s hlo' hhi'
  unfold OpEx
  generalize e.o.op=op at hop ⊢
  cases op<;>first|(simp only[ZHN,zW,Prod.mk.injEq]at hop;obtain⟨rfl,rfl,rfl⟩:=hop;simp only[aef,and_true];exact hl)|cases hop
theorem ZJB (hl:Lex fs P B N ops xc fr acc.reverse frN ss)(hlen:acc.length=ops.size)(hSlen:ss.length=effCnt fs ops.toList+1)(hxe:∀e,acc.reverse[xc]? =some e->e.eff=true)(hC:∀(i:Nat) (e:Info),acc.reverse[i]? =some e->e.want=true->e.eff=false->ZS fs e.o.op=false->
   OpEx P B e.o (ev e.fr) (ss.reverse.getD e.rank []) e.V (ss.reverse.getD e.rank [])->e.rank<ss.length->∀s,s<=effCnt fs ops.toList->s≠e.rank->
   (∀(j:Nat) (f:Info),acc.reverse[j]? =some f->f.eff=true->Zh ops i j=true->f.rank<s)->
   (∀(j:Nat) (f:Info),acc.reverse[j]? =some f->f.eff=true->Zh ops j i=true->s<=f.rank)->OpEx P B e.o (ev e.fr) (ss.reverse.getD s []) e.V (ss.reverse.getD s [])):
  PlanX xc fs P B N ops fr acc.reverse (fun s=>ss.reverse.getD s []) (effCnt fs ops.toList):=by
 have noCall:∀{e:Info},ZO fs e.o.op=true->ZS fs e.o.op=false:=fun h=>by unfold ZS;rw[h];rfl
 refine⟨by simp[hlen],hl.op,fun i e d hi hd'=>by have:=hl.dst i e hi;rw[hd']at this;exact this,hl.lex,hl.guard,fun i e hi hw=>(hl.no i e hi hw).1,?_,?_,?_,?_⟩
 ·intro i e hi hw he s hs h1 h2
  cases hc:ZS fs e.o.op with
  |true=>exact hl.call i e hi hw hc _
  |false=>
   obtain⟨hx1,hx2⟩:=hl.ex i e hi (fun q=>by subst q;rw[hxe e hi]at he;cases he) hw hc
   rw[he]at hx1 hx2
   simp only[yB,if_false]at hx1 hx2
   by_cases hsr:s=e.rank
   ·subst hsr;exact hx2
   ·exact hC i e hi hw he hc hx2 (by omega) s hs hsr h1 h2
 ·intro i e hi he
  have hie:ZO fs e.o.op=true:=by rw[←hl.eff i e hi];exact he
  have hc:=noCall hie
  by_cases hix:i=xc
  ·refine⟨?_,hie,fun q=>absurd hix q⟩
   rw[hl.rank i e hi (.inr he) hc]
   have hio:=hl.op i e hi
   have:=ZB8 (fs:=fs) ops.toList (i:=i) (j:=ops.size) (o:=e.o) (zA.1 hio).1 (by simpa using hio) hie
   have e0:zJ ops.size ops.toList=ops.toList:=zS (by simp)
   rw[e0]at this
   exact this
  cases hw:e.want with
  |true=>
   obtain⟨hx1,hx2⟩:=hl.ex i e hi hix hw hc
   rw[he]at hx1 hx2
   simp only[if_true]at hx1 hx2 ⊢
   exact⟨by omega,hie,fun _=>hx2⟩
  |false=>
   obtain⟨h1,h2⟩:=(hl.no i e hi hw).2 he
   simp only[yB,if_false]
   exact⟨by omega,hie,fun _=>h2⟩
 ·intro r hr
  obtain⟨i,o,hi,he,hrk⟩:=ZDd ops.toList r hr
  have hio:ops[i]? =some o:=by simpa using hi
  have hin:i<acc.reverse.length:=by simp[hlen];exact(zA.1 hio).1
  have hf:=zE hin
  have hfo:(acc.reverse[i]).o=o:=by have:=hl.op i _ hf;rw[hio]at this;exact(zV this).symm
  have hfe:(acc.reverse[i]).eff=true:=by rw[hl.eff i _ hf,hfo];exact he
  refine⟨i,acc.reverse[i],hf,hfe,?_⟩
  rw[hl.rank i _ hf (.inr hfe) (noCall (by rw[hfo];exact he)),hrk]
 ·intro i j e f hi hj he hf hij
  have hie:ZO fs e.o.op=true:=by rw[←hl.eff i e hi];exact he
  have hif:ZO fs f.o.op=true:=by rw[←hl.eff j f hj];exact hf
  rw[hl.rank i e hi (.inr he) (noCall hie),hl.rank j f hj (.inr hf) (noCall hif)]
  exact ZB8 ops.toList hij (o:=e.o) (by have:=hl.op i e hi;simpa using this) hie
def NCallA (P:Program)(B:Nat)(f:FuncId)(args:List AV)(σ:ZE)(K:AV->ZE->Prop):Prop:=
 ∃(X:Type) (_:X) (V:X->AV) (T:X->ZE),(∀K':AV->ZE->Prop,(∀x,K' (V x) (T x))->ACall P B f args σ K')/\∀x,K (V x) (T x)
def NCallO (P:Program)(B:Nat)(op:Op)(ρ:Operand->AV)(σ:ZE)(K:AV->ZE->Prop):Prop:=
 match op with
 | .call {callee:=.value f,args,.. }=>match ρ f with
  | .fn (.func i) first cap=>NCallA P B i (first++args.toList.map ρ++cap) σ K
  |_=>False
 |_=>False
def ZEI (ops:Array Oper)(xc:Nat):Bool:=(zK ops.size).all fun i=>decide (i<=xc)||Zh ops i xc
variable {σ:ZE}
theorem ADraw.effN {b:Box ops}{b':Box K}(fs:List FuncId)(tab:List (Nat×Nat))(xs:List Nat)(xc:Nat)(pre:List Oper)(oc:Oper)(post:List Oper)(hsp:ops.toList=pre++oc::post)(hpre:pre.length=xc)(hm:P.follows .mixedOrders=true)(hd:ZAZ fs ops=true)(ht:ZIa fs ops tab=true)(hx:ZBO fs ops tab (xs.map (· ==1))=true)(hlat:ZEI ops xc=true)(hoe:ZO fs oc.op=true)(hog:oc.guard=none)(h:aLg fs P B N (hold ops .mk) pre xs tab fr [σ] [] [] (hold (fun xs1 ts1 fr1 ss1 ps1 ls1=>NCallO P B oc.op (ev fr1) (ss1.headD []) (hold (fun r σ'=>ZBs N oc.dst (hold (aL fs P B N (hold ops .mk) (hold post .mk) xs1.tail ts1.tail (Zl oc.dst r fr1) (σ'::ss1) ps1 ls1 (hold (fun fr' σ'=>K ⟨fr',σ'⟩) .mk)) .mk)) .mk)) .mk)):ADraw P B nb N (hold ops b) ⟨fr,σ⟩ (hold K b'):=by
 simp only[hold]at h ⊢
 refine⟨hm,fun m0 w0 m a w hs Q hn=> ?_⟩
 have lex0:Lex fs P B N ops xc fr ([]:List Info).reverse fr [σ]:=by
  refine⟨by simp,?_,?_,?_,?_,?_,?_,?_,?_,?_,fun t=>⟨fun j e hj=>by simp at hj,fun _=>rfl⟩,by simp[effCnt]⟩<;>(intro i e hi;simp at hi)
 have h1:=ZBD (XS:=xs) (TS:=tab) pre xs tab fr [] [σ] [] [] (by simp) rfl rfl (fun i e x hi=>by simp at hi) h
 obtain⟨acc1,ss1,fr1,⟨xs1,ts1,ps1,ls1,hss1,hxs1,hts1,hfp1,hN⟩,hl1,hlen1,⟨mm,hmm⟩,_⟩:=ZBC (xc:=xc) (oc::post) hd pre fr [] [σ] h1 (by simpa using hsp) lex0
 have hsize:ops.size=pre.length+(post.length+1):=by
  have:=congrArg List.length hsp
  simpa using this
 have hlen1':acc1.length=xc:=by simp at hlen1;omega
 have hoc:ops[xc]? =some oc:=by
  rw[←Array.getElem?_toList,hsp,zN (by omega),hpre];simp
 have hocall:ZS fs oc.op=false:=by unfold ZS;rw[hoe];rfl
 -- the call
 unfold NCallO at hN
 split at hN
 rotate_left
 ·exact hN.elim
 next f args tys hop=>
 split at hN
 rotate_left
 ·exact hN.elim
 next fi first cap hf=>
 obtain⟨X,x0,V,T,hA,hX⟩:=hN
 have hex:∀x,∃acc ss frN,(FOK fs P acc.reverse (xs.map (· ==1)) tab ss/\K ⟨frN,ss.headD []⟩)/\Lex fs P B N ops xc fr acc.reverse frN ss/\acc.length=ops.size/\(∃m,ss=m++(T x::ss1))/\(∃k,acc=k++(⟨oc,true,true,fr1,V x,ss1.length-1⟩::acc1)):=by
  intro x
  obtain⟨hdst,hk⟩:=hX x
  have hlx:Lex fs P B N ops xc fr (acc1.reverse++[⟨oc,true,true,fr1,V x,ss1.length-1⟩]) (Zl oc.dst (V x) fr1) (T x::ss1):=
   hl1.snoc hd (by rw[zH,hlen1'];exact hoc) hdst (by rw[hog]) (fun h=>by cases h) hoe.symm (fun _ _=>rfl) (fun _ hc=>by rw[hocall]at hc;cases hc) (by simp) ⟨[T x],rfl⟩ (fun q=>absurd (by rw[zH,hlen1']) q)
  have hfpx:FP fs ((⟨oc,true,true,fr1,V x,ss1.length-1⟩:Info)::acc1).reverse xs tab ps1 ls1:=by
   rw[zF]
   exact hfp1.snoc (fun _ h=>h) (fun _ h=>h) fun y _ _ q _=>by simp only at q;rw[hoe]at q;cases q
  have h2:=ZBN (XS:=xs) (TS:=tab) (K:=K) post xs1.tail ts1.tail _ (⟨oc,true,true,fr1,V x,ss1.length-1⟩::acc1) (T x::ss1) ps1 ls1 (by simp) (by rw[hxs1,zO];rfl) (by rw[hts1,zO];rfl) hfpx hk
  obtain⟨acc',ss',fr',q1,q2,q3,q4,q5⟩:=ZBC (xc:=xc) [] hd post _ _ _ h2 (by
   rw[hsp,List.append_nil,List.length_cons,hlen1',←hpre]
   rw[List.drop_append,List.drop_of_length_le (by omega)];simp) (by rw[zF];exact hlx)
  exact⟨acc',ss',fr',q1,q2,by simpa using q3,q4,q5⟩
 let acc:=fun x=>(hex x).choose
 let ss:=fun x=>(hex x).choose_spec.choose
 let frN:=fun x=>(hex x).choose_spec.choose_spec.choose
 have hsp2:∀x,(FOK fs P (acc x).reverse (xs.map (· ==1)) tab (ss x)/\K ⟨frN x,(ss x).headD []⟩)/\Lex fs P B N ops xc fr (acc x).reverse (frN x) (ss x)/\(acc x).length=ops.size/\(∃m,ss x=m++(T x::ss1))/\(∃k,acc x=k++(⟨oc,true,true,fr1,V x,ss1.length-1⟩::acc1)):=
  fun x=>(hex x).choose_spec.choose_spec.choose_spec
 have hinf:∀x,(acc x).reverse[xc]? =some ⟨oc,true,true,fr1,V x,ss1.length-1⟩:=by
  intro x
  obtain⟨_,_,_,_,k,hk⟩:=hsp2 x
  rw[hk,zL,zF,zG (by simp;omega),zN (by simp;omega)]
  simp[hlen1']
 have hinf1:∀x i,i<xc->(acc x).reverse[i]? =acc1.reverse[i]? :=by
  intro x i hi
  obtain⟨_,_,_,_,k,hk⟩:=hsp2 x
  rw[hk,zL,zF,zG (by simp;omega),zG (by simp;omega)]
 have hSlen:∀x,(ss x).length=effCnt fs ops.toList+1:=by
  intro x
  obtain⟨_,hl,hlen,_,_⟩:=hsp2 x
  have:=hl.st
  rw[zH,hlen]at this
  rw[this];congr 2;apply zS;simp
 have hone:∀x (e:Info),(acc x).reverse[xc]? =some e->e=⟨oc,true,true,fr1,V x,ss1.length-1⟩:=fun x e he=>by rw[hinf x]at he;exact(zV he).symm
 have hSold:∀x s,s<=ss1.length-1->(ss x).reverse.getD s []=ss1.reverse.getD s []:=by
  intro x s hs
  obtain⟨_,_,_,⟨m,hm⟩,_⟩:=hsp2 x
  have h0:0<ss1.length:=zT.2 hss1
  rw[hm,zL,zF,zD,zG (by simp;omega),zG (by simp;omega),←zD]
 have hlast:∀x,(ss x).reverse.getD (effCnt fs ops.toList) []=(ss x).headD []:=by
  intro x
  have:=hSlen x
  cases hq:ss x with
  |nil=>rw[hq]at this;simp at this
  |cons a r=>rw[hq]at this;simp at this;simp[zD,←this]
 have hfirst:ss1.reverse.getD 0 []=σ:=by
  subst hmm
  simp[zD]
 have hhead:ss1.reverse.getD (ss1.length-1) []=ss1.headD []:=by
  cases ss1 with
  |nil=>exact absurd rfl hss1
  |cons a r=>simp[zD]
 refine ZEQ (X:=X) (xc:=xc) (rc:=ss1.length-1) (infos:=fun x=>(acc x).reverse) (Sg:=fun x s=>(ss x).reverse.getD s []) (frN:=frN) (S:=effCnt fs ops.toList) (K:=K) hd
  (fun x=>ZJB (hsp2 x).2.1 (hsp2 x).2.2.1 (hSlen x) (fun e he=>by rw[hone x e he]) (ZJi tab ht _ hx (hsp2 x).2.1 (hsp2 x).2.2.1 (hSlen x) (hsp2 x).1.1))
  (fun x=>(hsp2 x).2.1.cur) (fun x=>by(try simp only);rw[hlast x];exact(hsp2 x).1.2) hn (fun x e he=>by rw[hone x e he]) (fun x e he=>by rw[hone x e he]) (fun x e he=>by rw[hone x e he]) x0 (by omega)
  ?_ (fun x y s hs=>by(try simp only);rw[hSold x s hs,hSold y s hs]) ?_ ops.size _ fr 0 σ m a w (by simp) ?_ ?_ ?_ ?_ (yA _) ?_ (fun x=>by(try simp only);rw[hSold x 0 (yA _),hfirst]) hs
 ·intro x y i e f he hf hne hnr
  have hi:i<xc:=by
   rcases zY i xc with q|q
   ·exact q
   ·have hin:i<ops.size:=by have:=(zI.1 he).1;simp[(hsp2 x).2.2.1]at this;exact this
    have:=zU.1 hlat i (by simpa using hin)
    rw[Bool.or_eq_true,decide_eq_true_eq,hnr]at this
    rcases this with q'|q'
    ·omega
    ·cases q'
  (try simp only at he hf)
  rw[hinf1 x i hi]at he
  rw[hinf1 y i hi,he]at hf
  obtain rfl:=zV hf
  exact⟨rfl,rfl,rfl⟩
 ·intro x e he fr' m' a' w' R hsim hag hR
  obtain rfl:=hone x e he
  simp only at hsim hag hR ⊢
  rw[hSold x _ (Nat.le_refl _),hhead]at hsim
  have hst:∀y,(ss y).reverse.getD (ss1.length-1+1) []=T y:=by
   intro y
   obtain⟨_,_,_,⟨mm2,hm2⟩,_⟩:=hsp2 y
   have h0:0<ss1.length:=zT.2 hss1
   rw[hm2,zL,zF,zD,zG (by simp;omega),zN (by simp;omega)]
   simp[show ss1.length-1+1-ss1.length=0 by omega]
  have hdst:∀y,dOk N oc.dst:=fun y=>(hX y).1
  have hef:ev fr' f=ev fr1 f:=(hag f (by rw[hop];simp[Op.operands,Call.operands])).symm
  have hea:args.toList.map (ev fr')=args.toList.map (ev fr1):=(ZAH fun z hz=>hag z (by rw[hop];simp[Op.operands,Call.operands,hz])).symm
  have key:aop P B N oc ⟨fr',ss1.headD []⟩ (fun st'=>∃y,(∀t,lk st'.fr t=if oc.dst=some t then V y else lk fr' t)/\st'.σ=T y):=by
   unfold aop
   rw[hop]
   simp only[ZDt,hef,hf,hea]
   refine hA _ fun y=> ?_
   unfold ZAL
   have:=hdst y
   cases hdst2:oc.dst with
   |none=>exact⟨y,fun t=>by simp,rfl⟩
   |some d=>
    rw[hdst2]at this
    exact⟨this,y,fun t=>by simp[lk],rfl⟩
  refine ZBd key hsim fun st' m2 a2 w2 hk' h'=> ?_
  obtain⟨fr2,σ2⟩:=st'
  obtain⟨y,q1,q2⟩:=hk'
  simp only at q1 q2
  subst q2
  refine hR y _ (hinf y) fr2 m2 a2 w2 q1 ?_
  rw[hst y];exact h'
 ·have:xc<ops.size:=by omega
  simp[this]
 ·exact Nat.le_trans (List.length_filter_le _ _) (by simp)
 ·intro i o ho hl'
  have hin:i<ops.size:=(zA.1 ho).1
  simp[hin]at hl'
 ·intro x t
  refine⟨fun j e hj hx=> ?_,fun _=>rfl⟩
  have hin:j<ops.size:=by have:=(zI.1 hj).1;simpa[(hsp2 x).2.2.1]using this
  simp[hin]at hx
 ·intro x j e hj he
  have hin:j<ops.size:=by have:=(zI.1 hj).1;simpa[(hsp2 x).2.2.1]using this
  simp[hin]
theorem ADraw.effN2 {b:Box ops}{b':Box K}(fs:List FuncId)(tab:List (Nat×Nat))(xs:List Nat)(xc:Nat)(hlt:xc<ops.size)(hm:P.follows .mixedOrders=true)(hd:ZAZ fs ops=true)(ht:ZIa fs ops tab=true)(hx:ZBO fs ops tab (xs.map (· ==1))=true)(hlat:ZEI ops xc=true)(hoe:ZO fs (ops.toList.getD xc ZBn).op=true)(hog:(ops.toList.getD xc ZBn).guard=none)(h:aLg fs P B N (hold ops .mk) (hold (ops.toList.take xc) .mk) xs tab fr [σ] [] [] (hold (fun xs1 ts1 fr1 ss1 ps1 ls1=>NCallO P B (ops.toList.getD xc ZBn).op (ev fr1) (ss1.headD []) (hold (fun r σ'=>ZBs N (ops.toList.getD xc ZBn).dst (hold (aL fs P B N (hold ops .mk) (hold (ops.toList.drop (xc+1)) .mk) xs1.tail ts1.tail (Zl (ops.toList.getD xc ZBn).dst r fr1) (σ'::ss1) ps1 ls1 (hold (fun fr' σ'=>K ⟨fr',σ'⟩) .mk)) .mk)) .mk)) .mk)):ADraw P B nb N (hold ops b) ⟨fr,σ⟩ (hold K b'):=by
 refine ADraw.effN fs tab xs xc (ops.toList.take xc) (ops.toList.getD xc ZBn) (ops.toList.drop (xc+1)) ?_ (by simp;omega) hm hd ht hx hlat hoe hog h
 have hlt':xc<ops.toList.length:=by simpa using hlt
 rw[zD,zE hlt',Option.getD_some,←zR hlt',List.take_append_drop]
variable {bo:Box ops}{n:Nat}{l:List Oper}{xs:List Nat}{ts:List (Nat×Nat)}{ps:List AV}{ls:Lds}{KK:List Nat->List (Nat×Nat)->Frm->List ZE->List AV->Lds->Prop}
theorem ZMc {b:Box (zJ n (zC (zM l)))}:
  aLg fs P B N (hold ops bo) (hold (zJ n (zC (zM l))) b) xs ts fr ss ps ls KK=aLg fs P B N (hold ops bo) (hold (zJ n l) .mk) xs ts fr ss ps ls KK:=id rfl
theorem ZOR {b:Box (zJ 0 l)}{k:Box KK}:
  aLg fs P B N ops (hold (zJ 0 l) b) xs ts fr ss ps ls (hold KK k)=KK xs ts fr ss ps ls:=by simp[hold,aLg]
theorem ZMd {rest:List Oper}{br:Box (zJ (n+1) (o::rest))}{k:Box KK}:aLg fs P B N (hold ops bo) (hold (zJ (n+1) (o::rest)) br) xs ts fr ss ps ls (hold KK k)=
  ZAX (hold ops .mk) fr o.guard
   (hold (chk (ZE1 fs (xs.headD 0) o.op fr) (hold (ZIe fs P B o.op fr (ss.headD []) (hold (fun r σ'=>ZBs N o.dst (hold (aLg fs P B N (hold ops .mk) (hold (zJ n rest) .mk) xs.tail ts.tail (Zl o.dst r fr) (if ZO fs o.op=true then σ'::ss else ss) (ZAp (xs.headD 0) o.op fr ps) (ZDW (xs.headD 0) o.op fr r (ts.headD (0,0)) ls) (hold KK .mk)) .mk)) .mk)) .mk)) .mk)
   (hold (ZBs N o.dst (hold (aLg fs P B N (hold ops .mk) (hold (zJ n rest) .mk) xs.tail ts.tail (Zl o.dst (.lit undef) fr) (if ZO fs o.op=true then ss.headD []::ss else ss) ps ls (hold KK .mk)) .mk)) .mk):=id rfl
theorem ZKn {b:Box (List.drop n (zC (zM l)))}{K:Frm->ZE->Prop}:
  aL fs P B N (hold ops bo) (hold (List.drop n (zC (zM l))) b) xs ts fr ss ps ls K=aL fs P B N (hold ops bo) (hold (List.drop n l) .mk) xs ts fr ss ps ls K:=id rfl
theorem ZKm {b:Box (List.drop (n+1) (o::l))}{K:Frm->ZE->Prop}:
  aL fs P B N (hold ops bo) (hold (List.drop (n+1) (o::l)) b) xs ts fr ss ps ls K=aL fs P B N (hold ops bo) (hold (List.drop n l) .mk) xs ts fr ss ps ls K:=id rfl
theorem ZKo {b:Box (List.drop 0 l)}{K:Frm->ZE->Prop}:
  aL fs P B N (hold ops bo) (hold (List.drop 0 l) b) xs ts fr ss ps ls K=aL fs P B N (hold ops bo) (hold l .mk) xs ts fr ss ps ls K:=id rfl
theorem ZPX {f:Operand}{l:List Operand}{tys:List TypeId}{ρ:Operand->AV}{K:AV->ZE->Prop}{k:Box K}:NCallO P B (.call {callee:=.value f,args:=zM l,argTypes:=zM tys}) ρ σ (hold K k)=(match ρ f with
  | .fn (.func i) first cap=>NCallA P B i (first++l.map ρ++cap) σ (hold K .mk)
  |_=>False):=id rfl
theorem FCall.ngo1 {f:FuncId}{args args':List AV}{r:AV}(h:FCall P B f args' r)(hb:brw.brws σ args args')(hn:(ZAF r).length=1){K:AV->ZE->Prop}{b:Box K}(hK:∀h1:Value,ZBX h1->K (ZFR r [h1]) (σ++Zi (ZAF r) [h1])):NCallA P B f args σ (hold K b):=by
 refine⟨{hs:List Value//hs.length=(ZAF r).length/\∀h,h∈hs->ZBX h},⟨List.replicate (ZAF r).length (.slice none 0 0),by simp,fun h hh=>by rw[List.eq_of_mem_replicate hh];trivial⟩,fun x=>ZFR r x.1,fun x=>σ++Zi (ZAF r) x.1,fun K' hK'=> ?_,?_⟩
 ·exact h.go (b:=(.mk:Box K')) hb fun hs hl ho=>hK' ⟨hs,hl,ho⟩
 ·rintro⟨hs,hl,ho⟩
  rw[hn]at hl
  match hs,hl with
  | [h1],_=>exact hK h1 (ho _ (by simp))
end
attribute [simp] ZMc ZOR ZMd ZKn ZKm ZKo ZPX
end Go.Vl
