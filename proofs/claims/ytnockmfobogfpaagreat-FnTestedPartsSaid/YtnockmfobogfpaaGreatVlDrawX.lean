/- The value-level layer: drawn regions with one call whose outcome is not known ahead. -/
import Derived.Test.YtnockmfobogfpaaGreatVlSplit
set_option linter.all false
open Array renaming getElem?_eq_some_iff->zA,getElem?_eq_getElem->zB
open List renaming getElem?_eq_getElem->zC,range->zD,getD_eq_getElem?_getD->zE
open Option.some renaming inj->zF,injEq->zG
open Classical renaming byContradiction->zH
open Nat renaming lt_or_ge->zI,lt_trichotomy->zJ
open Bool renaming false_eq_true->zK
namespace Go.Vl
open Go Go.RowKit
open Go.Region renaming binds->zL,ready->zM,wanted->zN
section
variable {P : Program} {B nb N : Nat} {fs : List FuncId}
structure PlanX (xc:Nat)(fs:List FuncId)(P:Program)(B N:Nat)(ops:Array Oper)(fr0:Frm)(infos:List Info)(Sg:Nat->ZE)(S:Nat):Prop where
 len:infos.length=ops.size
 op:∀(i:Nat) (e:Info),infos[i]? =some e->ops[i]? =some e.o
 dst:∀(i:Nat) (e:Info) d,infos[i]? =some e->e.o.dst=some d->d<N
 fr:∀(i:Nat) (e:Info),infos[i]? =some e->FrX (fun j=>j<i) fr0 infos e.fr
 guard:∀(i:Nat) (e:Info),infos[i]? =some e->match e.o.guard with
  |none=>e.want=true
  |some (j,want)=>∃d v,(ops[j]?).bind (·.dst)=some d/\lk e.fr d=.lit v/\e.want=(yb v==some want)
 no:∀(i:Nat) (e:Info),infos[i]? =some e->e.want=false->e.V=.lit undef
 pur:∀(i:Nat) (e:Info),infos[i]? =some e->e.want=true->e.eff=false->∀s,s<=S->
  (∀(j:Nat) (f:Info),infos[j]? =some f->f.eff=true->Zz ops i j=true->f.rank<s)->
  (∀(j:Nat) (f:Info),infos[j]? =some f->f.eff=true->Zz ops j i=true->s<=f.rank)->
  OpEx P B e.o (ev e.fr) (Sg s) e.V (Sg s)
 eff:∀(i:Nat) (e:Info),infos[i]? =some e->e.eff=true->e.rank<S/\ZO fs e.o.op=true/\(i≠xc->if e.want=true then OpEx P B e.o (ev e.fr) (Sg e.rank) e.V (Sg (e.rank+1))else Sg (e.rank+1)=Sg e.rank)
 ranks:∀r,r<S->∃(i:Nat) (e:Info),infos[i]? =some e/\e.eff=true/\e.rank=r
 mono:∀(i j:Nat) (e f:Info),infos[i]? =some e->infos[j]? =some f->e.eff=true->f.eff=true->i<j->e.rank<f.rank
theorem ZCb {xc:Nat}{ops:Array Oper}{fr0:Frm}{infos:List Info}{Sg:Nat->ZE}{S:Nat}(hd:ZA5 fs ops=true)(hp:PlanX xc fs P B N ops fr0 infos Sg S)
  {m0:Map} {w0:World} {Q:Exit->Act->World->Prop} {listed:Array Bool} {fr:Frm} {s:Nat} {m:Map} {a:Act} {w:World} (hsz:listed.size=ops.size)
  (hcl:∀(i:Nat) (o:Oper),ops[i]? =some o->listed.getD i true=true->∀e∈o.after,zL .any e=true->listed.getD e.on false=true)
  (hfr:FrX (fun j=>listed.getD j true=true) fr0 infos fr) (hsS:s<=S)
  (hst:∀(j:Nat) (e:Info),infos[j]? =some e->e.eff=true->(listed.getD j true=true↔e.rank<s)) (h:ASim B nb N m0 w0 ⟨fr,Sg s⟩ m a w)
  {i:Nat} (hi:i∈zM .any ops listed) {R:Act->World->Prop}
  (hc:∀(e:Info),infos[i]? =some e->i=xc->e.want=true->e.eff=true->s=e.rank->(∀x,x∈e.o.op.operands->ev e.fr x=ev fr x)->e.o.wp P a w R Q)
  (next:∀(e:Info),infos[i]? =some e->i≠xc∨e.want=false->∀(fr':Frm) (s':Nat) (m':Map) (a':Act) (w':World),(∀t,lk fr' t=if e.o.dst=some t then e.V else lk fr t)->s'<=S->s'=(if e.eff=true then e.rank+1 else s)->
    (∀(j:Nat) (f:Info),infos[j]? =some f->f.eff=true->((listed.getD j true=true∨j=i)↔f.rank<s'))->ASim B nb N m0 w0 ⟨fr',Sg s'⟩ m' a' w'->R a' w')
  (hxw:∀(e:Info),infos[xc]? =some e->e.want=true) (hxe:∀(e:Info),infos[xc]? =some e->e.eff=true):wpOp P ops Q i R a w:=by
 have hlow:∀(i:Nat) (o:Oper),ops[i]? =some o->∀e∈o.after,zL .any e=true->e.on<i:=fun i o ho=>(Zg hd ho ho).1
 have inB:∀{listed:Array Bool},listed.size=ops.size->∀{i:Nat} {o:Oper},ops[i]? =some o->∀b:Bool,listed.getD i true=listed.getD i b:=by
  intro listed hs i o hi b
  have:i<listed.size:=by rw[hs];exact(zA.1 hi).1
  simp[this]
 obtain⟨h0,o,ho,hall⟩:=mem_ready.1 hi
 have hin:i<ops.size:=(zA.1 ho).1
 obtain⟨e,he⟩:∃e,infos[i]? =some e:=⟨infos[i]'(by rw[hp.len];exact hin),zC (by rw[hp.len];exact hin)⟩
 have heo:e.o=o:=by have:=hp.op i e he;rw[ho]at this;exact(zF this).symm
 subst heo
 have rdy:∀j,Zz ops i j=true->listed.getD j false=true:=fun j hj=>by
  obtain⟨ed,hed,hb,hj⟩:=ZCo hlow ho hj
  have h1:=hall ed hed hb
  rcases hj with rfl|hj
  ·exact h1
  ·have hlt:=hlow i e.o ho ed hed hb
   have heo:ops[ed.on]? =some (ops[ed.on]'(by omega)):=zB (by omega)
   exact Zt hlow hsz hcl (ed.on+1) ed.on j _ (by omega) heo (by rw[inB hsz heo false];exact h1) hj
 -- the ZDM read as in the lexical order
 have agree:∀t,t∈ZDM ops e.o->lk fr t=lk e.fr t:=by
  intro t ht
  have hlex:=hp.fr i e he
  by_cases hex:∃(j:Nat) (f:Info),infos[j]? =some f/\f.o.dst=some t
  ·obtain⟨j,f,hj,hdj⟩:=hex
   have hjo:=hp.op j f hj
   have uniq:∀(j':Nat) (f':Info),infos[j']? =some f'->f'.o.dst=some t->j'=j:=by
    intro j' f' hj' hdj'
    apply zH
    intro hne
    exact((Zg hd (hp.op j' f' hj') hjo).2 hne).1 t hdj' hdj
   by_cases hij:i=j
   ·subst hij
    rw[(hfr t).2 (fun j' f' hj' hx hdj'=>by rw[uniq j' f' hj' hdj',h0]at hx;cases hx),
     (hlex t).2 (fun j' f' hj' hx hdj'=>by rw[uniq j' f' hj' hdj']at hx;omega)]
   ·have hord:=((Zg hd ho hjo).2 hij).2.1 t hdj ht
    unfold ZNc at hord
    split at hord
    ·next hlt=>
     have hl:=rdy j hord
     rw[←inB hsz hjo false]at hl
     rw[(hfr t).1 _ f hj hl hdj,(hlex t).1 _ f hj hlt hdj]
    ·next hge=>
     have hnl:listed.getD j true=false:=by
      cases hl:listed.getD j true with
      |false=>rfl
      |true=>
       have:=Zt hlow hsz hcl (j+1) j i f.o (by omega) hjo hl hord
       rw[←inB hsz ho false,h0]at this;cases this
     rw[(hfr t).2 (fun j' f' hj' hx hdj'=>by rw[uniq j' f' hj' hdj',hnl]at hx;cases hx),
      (hlex t).2 (fun j' f' hj' hx hdj'=>by rw[uniq j' f' hj' hdj']at hx;omega)]
  ·have hno:∀(j:Nat) (f:Info),infos[j]? =some f->f.o.dst≠some t:=fun j f hj hdj=>hex ⟨j,f,hj,hdj⟩
   rw[(hfr t).2 (fun j f hj _=>hno j f hj),(hlex t).2 (fun j f hj _=>hno j f hj)]
 have hrho:∀x,x∈e.o.op.operands->ev e.fr x=ev fr x:=by
  intro x hx
  cases x with
  |tmp t=>exact(agree t (ZDG hx)).symm
  |_=>rfl
 have stay:e.eff=false->∀(j:Nat) (f:Info),infos[j]? =some f->f.eff=true->((listed.getD j true=true∨j=i)↔f.rank<s):=by
  intro hne j f hj hf
  rw[←hst j f hj hf]
  refine⟨fun hx=>hx.elim id fun e'=> ?_,.inl⟩
  subst e';rw[he]at hj;obtain rfl:=zF hj;rw[hne]at hf;cases hf
 have hwant:zN e.o (yielded ops a.tmps)=e.want:=by
  have hg:=hp.guard i e he
  unfold zN
  cases hgd:e.o.guard with
  |none=>rw[hgd]at hg;exact hg.symm
  |some g=>
   obtain⟨j,want⟩:=g
   rw[hgd]at hg
   obtain⟨d,b,h1,h2,h3⟩:=hg
   have hsl:d∈ZDM ops e.o:=by
    unfold ZDM;rw[hgd];exact List.mem_append_right _ (by show d∈((ops[j]?).bind (·.dst)).toList;rw[h1];simp)
   have hv:Conc B (Av m) w m (lk fr d) (a.tmps.getD d undef):=h.fr.2 d
   rw[agree d hsl,h2]at hv
   have:=ZBd h1 (Conc.lit_inv hv)
   simp only[this,h3]
 unfold wpOp
 rw[ho]
 simp only[hwant]
 have ranked:e.eff=true->s=e.rank:=by
  intro hef
  obtain⟨hrS,hie,_⟩:=hp.eff i e he hef
  have h1:s<=e.rank:=by
   apply zH
   intro hlt
   have:=(hst i e he hef).2 (by omega)
   rw[h0]at this;cases this
  rcases zI s e.rank with hlt|hge
  ·obtain⟨j,f,hj,hf,hrk⟩:=hp.ranks s (by omega)
   have hji:j<i:=by
    rcases zJ j i with h'|h'|h'
    ·exact h'
    ·subst h';rw[he]at hj;obtain rfl:=zF hj;omega
    ·have:=hp.mono i j e f he hj hef hf h';omega
   have hfe:=(hp.eff j f hj hf).2.1
   have hord:=((Zg hd ho (hp.op j f hj)).2 (by omega)).2.2 hie hfe
   unfold ZNc at hord
   rw[iP hji]at hord
   have hl:=rdy j hord
   rw[←inB hsz (hp.op _ f hj) false]at hl
   have:=(hst _ f hj hf).1 hl
   omega
  ·omega
 have up:e.eff=true->∀(j:Nat) (f:Info),infos[j]? =some f->f.eff=true->((listed.getD j true=true∨j=i)↔f.rank<e.rank+1):=by
  intro hef j f hj hf
  have hs:=ranked hef
  subst hs
  constructor
  ·rintro(hl|rfl)
   ·have:=(hst j f hj hf).1 hl;omega
   ·rw[he]at hj;obtain rfl:=zF hj;omega
  ·intro hlt
   rcases zI f.rank e.rank with h'|h'
   ·exact .inl ((hst j f hj hf).2 h')
   ·right
    rcases zJ j i with h''|h''|h''
    ·have:=hp.mono j i f e hj he hf hef h'';omega
    ·exact h''
    ·have:=hp.mono i j e f he hj hef hf h'';omega
 cases hw:e.want with
 |false=>
  have hV:=hp.no i e he hw
  simp only[zK,if_false]
  have fin:ZAK N e.o.dst (.lit undef) fr (Sg s) (fun st'=>(∀t,lk st'.fr t=if e.o.dst=some t then e.V else lk fr t)/\st'.σ=Sg s):=by
   unfold ZAK
   cases hdst:e.o.dst with
   |none=>simp
   |some d=>simp[hp.dst i e d he hdst,hV]
  obtain⟨⟨fr',σ'⟩,⟨h1,rfl⟩,hsim⟩:=h.next fin h.sim (.lit undef) (Fr.refl m w)
  cases hef:e.eff with
  |false=>exact next e he (.inr hw) fr' s m _ w h1 hsS (by rw[hef];rfl) (stay hef) hsim
  |true=>
   have hnx:i≠xc:=fun hq=>by subst hq;rw[hxw e he]at hw;cases hw
   obtain⟨hrS,_,hx⟩:=hp.eff i e he hef
   have hx:=hx hnx
   rw[iN (by simp[hw])]at hx
   have hs:=ranked hef
   subst hs
   exact next e he (.inl hnx) fr' (e.rank+1) m _ w h1 hrS (by rw[hef];rfl) (up hef) (by rw[hx];exact hsim)
 |true=>
  simp only[if_true]
  left
  cases hef:e.eff with
  |false=>
   have hnx:i≠xc:=fun hq=>by subst hq;rw[hxe e he]at hef;cases hef
   have hx:=hp.pur i e he hw hef s hsS
    (fun j f hj hf hed=>by
     have hl:=rdy j hed
     rw[←inB hsz (hp.op _ f hj) false]at hl
     exact(hst _ f hj hf).1 hl)
    (fun j f hj hf hed=>by
     apply zH
     intro hlt
     have hl:=(hst j f hj hf).2 (by omega)
     have:=Zt hlow hsz hcl (j+1) j i f.o (by omega) (hp.op j f hj) hl hed
     rw[←inB hsz ho false,h0]at this;cases this)
   have hx':=OpEx.congr (ρ':=ev fr) hrho hx
   exact OpEx.wp (st:=⟨fr,Sg s⟩) hx' h (fun d hdst=>hp.dst i e d he hdst) fun fr' m' a' w' h1 h2=>next e he (.inl hnx) fr' s m' a' w' h1 hsS (by rw[hef];rfl) (stay hef) h2
  |true=>
   obtain⟨hrS,hie,hx⟩:=hp.eff i e he hef
   have hs:=ranked hef
   by_cases hnx:i=xc
   ·exact hc e he hnx hw hef hs hrho
   have hx:=hx hnx
   rw[iP hw]at hx
   subst hs
   have hx':=OpEx.congr (ρ':=ev fr) hrho hx
   exact OpEx.wp (st:=⟨fr,Sg e.rank⟩) hx' h (fun d hdst=>hp.dst i e d he hdst) fun fr' m' a' w' h1 h2=>next e he (.inl hnx) fr' (e.rank+1) m' a' w' h1 hrS (by rw[hef];rfl) (up hef) h2
theorem ZEs {ops:Array Oper}{listed:Array Bool}{i:Nat}{o:Oper}(ho:ops[i]? =some o)(hsz:listed.size=ops.size)
  (hcl:∀(i:Nat) (o:Oper),ops[i]? =some o->listed.getD i true=true->∀e∈o.after,zL .any e=true->listed.getD e.on false=true)
  (hall:∀e∈o.after,zL .any e=true->listed.getD e.on false=true):
  (∀j,(listed.setIfInBounds i true).getD j true=true↔(listed.getD j true=true∨j=i))/\
  (∀(j:Nat) (o:Oper),ops[j]? =some o->(listed.setIfInBounds i true).getD j true=true->∀e∈o.after,zL .any e=true->(listed.setIfInBounds i true).getD e.on false=true):=by
 have hin:i<ops.size:=(zA.1 ho).1
 have hset:∀j,(listed.setIfInBounds i true).getD j true=true↔(listed.getD j true=true∨j=i):=by
  intro j
  by_cases e:i=j
  ·subst e;simp[hsz,hin]
  ·rw[getD_set_ne true e];simp[Ne.symm e]
 refine⟨hset,fun j o' hj hl ed hed hb=> ?_⟩
 rcases(hset j).1 hl with hl|rfl
 ·exact getD_set_true (hcl j o' hj hl ed hed hb)
 ·rw[ho]at hj;obtain rfl:=zF hj
  exact getD_set_true (hall ed hed hb)
theorem ZHj {ops:Array Oper}{listed:Array Bool}{i fuel:Nat}(hin:i<ops.size)(h0:listed.getD i true=false)(hset:∀j,(listed.setIfInBounds i true).getD j true=true↔(listed.getD j true=true∨j=i))
  (hcnt:((zD ops.size).filter fun i=> !listed.getD i true).length<=fuel+1):((zD ops.size).filter fun j=> !(listed.setIfInBounds i true).getD j true).length<=fuel:=by
 have hlt:=ZGi (p:=fun i=> !listed.getD i true) (q:=fun j=> !(listed.setIfInBounds i true).getD j true) (i:=i)
  (fun x hx=>by
   cases hl:listed.getD x true with
   |false=>rfl
   |true=>have:=(hset x).2 (.inl hl);rw[this]at hx;cases hx)
  (by simp only[h0];rfl) (by rw[(hset i).2 (.inr rfl)];rfl) (zD ops.size) (by simpa using hin)
 exact Nat.le_of_lt_succ (Nat.lt_of_lt_of_le hlt hcnt)
theorem ZIn {ops:Array Oper}{fr0 fr fr':Frm}{infos:List Info}{listed:Array Bool}{i:Nat}{e:Info}(hd:ZA5 fs ops=true)(hop:∀(i:Nat) (e:Info),infos[i]? =some e->ops[i]? =some e.o)(he:infos[i]? =some e)
  (hset:∀j,(listed.setIfInBounds i true).getD j true=true↔(listed.getD j true=true∨j=i)) (hfr:FrX (fun j=>listed.getD j true=true) fr0 infos fr)
  (hlk:∀t,lk fr' t=if e.o.dst=some t then e.V else lk fr t):FrX (fun j=>(listed.setIfInBounds i true).getD j true=true) fr0 infos fr':=by
 have ho:=hop i e he
 intro t
 refine⟨fun j f hj hx hdj=> ?_,fun hno=> ?_⟩
 ·rw[hlk]
  rcases(hset j).1 hx with hx|rfl
  ·by_cases hdi:e.o.dst=some t
   ·by_cases hij:i=j
    ·subst hij;rw[he]at hj;obtain rfl:=zF hj;rw[iP hdi]
    ·exact absurd hdj (((Zg hd ho (hop j f hj)).2 hij).1 t hdi)
   ·rw[iN hdi];exact(hfr t).1 j f hj hx hdj
  ·rw[he]at hj;obtain rfl:=zF hj;rw[iP hdj]
 ·rw[hlk,iN (hno i e he ((hset i).2 (.inr rfl)))]
  exact(hfr t).2 fun j f hj hx=>hno j f hj ((hset j).2 (.inl hx))
theorem ZGp {xc:Nat}{ops:Array Oper}{fr0 frN:Frm}{infos:List Info}{Sg:Nat->ZE}{S:Nat}(hd:ZA5 fs ops=true)(hp:PlanX xc fs P B N ops fr0 infos Sg S)
  (hN:FrX (fun _=>True) fr0 infos frN) {K:ASt->Prop} (hK:K ⟨frN,Sg S⟩) {m0:Map} {w0:World} {Q:Exit->Act->World->Prop}
  (hn:∀st' m' a' w',K st'->ASim B nb N m0 w0 st' m' a' w'->Q .normal a' w'):∀(listed:Array Bool) (fr:Frm) (s:Nat) (m:Map) (a:Act) (w:World),listed.size=ops.size->zM .any ops listed=[]->
   FrX (fun j=>listed.getD j true=true) fr0 infos fr->s<=S->(∀(j:Nat) (e:Info),infos[j]? =some e->e.eff=true->(listed.getD j true=true↔e.rank<s))->
   ASim B nb N m0 w0 ⟨fr,Sg s⟩ m a w->Q .normal a w:=by
 have inB:∀{listed:Array Bool},listed.size=ops.size->∀{i:Nat} {o:Oper},ops[i]? =some o->∀b:Bool,listed.getD i true=listed.getD i b:=by
  intro listed hs i o hi b
  have:i<listed.size:=by rw[hs];exact(zA.1 hi).1
  simp[this]
 intro listed fr s m a w hsz hr hfr hsS hst h
 have all:∀i,listed.getD i true=true:=by
  intro i
  induction i using Nat.strongRecOn with
  |_ i ih=>
   cases hl:listed.getD i true with
   |true=>rfl
   |false=>
    have hin:i<ops.size:=by
     rcases zI i listed.size with h'|h'
     ·omega
     ·rw[Array.getD_eq_getD_getElem?,Array.getElem?_eq_none h']at hl;simp at hl
    have hio:ops[i]? =some ops[i]:=zB hin
    have:i∈zM .any ops listed:=mem_ready.2 ⟨hl,ops[i],hio,fun e he hb=>by
     have hlt:=(Zg hd hio hio).1 e he hb
     have:=ih e.on hlt
     have heo:ops[e.on]? =some (ops[e.on]'(by omega)):=zB (by omega)
     rw[inB hsz heo false]at this;exact this⟩
    rw[hr]at this;simp at this
 have hs:s=S:=by
  rcases zI s S with hlt|hge
  ·obtain⟨i,e,hi,he,hrk⟩:=hp.ranks s hlt
   have:=(hst i e hi he).1 (all i)
   omega
  ·omega
 subst hs
 refine hn ⟨frN,Sg s⟩ m a w hK ⟨h.sim,⟨h.fr.1,fun t=> ?_⟩,h.df,h.step,h.base,h.ok⟩
 have:lk frN t=lk fr t:=by
  by_cases hex:∃(j:Nat) (e:Info),infos[j]? =some e/\e.o.dst=some t
  ·obtain⟨j,e,hj,hdj⟩:=hex
   rw[(hN t).1 j e hj trivial hdj,(hfr t).1 j e hj (all j) hdj]
  ·have hno:∀(j:Nat) (e:Info),infos[j]? =some e->e.o.dst≠some t:=fun j e hj hdj=>hex ⟨j,e,hj,hdj⟩
   rw[(hN t).2 (fun j e hj _=>hno j e hj),(hfr t).2 (fun j e hj _=>hno j e hj)]
 show Conc B _ w m (lk frN t) _
 rw[this];exact h.fr.2 t
theorem ZGL {ops:Array Oper}{listed:Array Bool}(hcnt:((zD ops.size).filter fun i=> !listed.getD i true).length<=0):zM .any ops listed=[]:=by
 apply List.eq_nil_iff_forall_not_mem.2
 intro i hi
 obtain⟨h0,o,ho,_⟩:=mem_ready.1 hi
 have hin:i<ops.size:=(zA.1 ho).1
 have:i∈(zD ops.size).filter fun i=> !listed.getD i true:=by
  rw[List.mem_filter];exact⟨by simpa using hin,by simp only[h0];rfl⟩
 rw[List.eq_nil_of_length_eq_zero (Nat.le_zero.1 hcnt)]at this
 simp at this
theorem ZJr {xc:Nat}{ops:Array Oper}{fr0 frN:Frm}{infos:List Info}{Sg:Nat->ZE}{S:Nat}(hd:ZA5 fs ops=true)(hp:PlanX xc fs P B N ops fr0 infos Sg S)
  (hN:FrX (fun _=>True) fr0 infos frN) {K:ASt->Prop} (hK:K ⟨frN,Sg S⟩) {m0:Map} {w0:World} {Q:Exit->Act->World->Prop}
  (hn:∀st' m' a' w',K st'->ASim B nb N m0 w0 st' m' a' w'->Q .normal a' w') (hxw:∀(e:Info),infos[xc]? =some e->e.want=true) (hxe:∀(e:Info),infos[xc]? =some e->e.eff=true):
  ∀(fuel:Nat) (listed:Array Bool) (fr:Frm) (s:Nat) (m:Map) (a:Act) (w:World),listed.size=ops.size->listed.getD xc true=true->
   ((zD ops.size).filter fun i=> !listed.getD i true).length<=fuel->
   (∀(i:Nat) (o:Oper),ops[i]? =some o->listed.getD i true=true->∀e∈o.after,zL .any e=true->listed.getD e.on false=true)->
   FrX (fun j=>listed.getD j true=true) fr0 infos fr->s<=S->
   (∀(j:Nat) (e:Info),infos[j]? =some e->e.eff=true->(listed.getD j true=true↔e.rank<s))->
   ASim B nb N m0 w0 ⟨fr,Sg s⟩ m a w->wpAny P .any ops Q fuel listed a w:=by
 intro fuel
 induction fuel with
 |zero=>
  intro listed fr s m a w hsz hxl hcnt hcl hfr hsS hst h
  exact⟨ZGL hcnt,ZGp hd hp hN hK hn listed fr s m a w hsz (ZGL hcnt) hfr hsS hst h⟩
 |succ fuel ih=>
  intro listed fr s m a w hsz hxl hcnt hcl hfr hsS hst h
  refine⟨fun hr=>ZGp hd hp hN hK hn listed fr s m a w hsz hr hfr hsS hst h,fun i hi=> ?_⟩
  obtain⟨h0,o,ho,hall⟩:=mem_ready.1 hi
  have hin:i<ops.size:=(zA.1 ho).1
  obtain⟨hset,hcl'⟩:=ZEs ho hsz hcl hall
  refine ZCb hd hp hsz hcl hfr hsS hst h hi (fun e he hix=>by subst hix;rw[h0]at hxl;cases hxl) (fun e he _ fr' s' m' a' w' q1 q2 _ q3 q4=> ?_) hxw hxe
  refine ih (listed.setIfInBounds i true) fr' s' m' a' w' (by simpa using hsz) ((hset xc).2 (.inl hxl)) (ZHj hin h0 hset hcnt) hcl' (ZIn hd hp.op he hset hfr q1) q2 (fun j f hj hf=>by rw[hset];exact q3 j f hj hf) q4
theorem ZO5 {xc:Nat}{ops:Array Oper}{fr:Frm}(tab:List (Nat×Nat))(ht:ZNX fs ops tab=true)(xs:List Bool)(hxb:ZDI fs ops tab xs=true)
  {acc:List Info} {ss:List ZE} {frN:Frm} (hl:Lex fs P B N ops xc fr acc.reverse frN ss) (hlen:acc.length=ops.size) (hSlen:ss.length=effCnt fs ops.toList+1) (hfok:FOK fs P acc.reverse xs tab ss):
  ∀(i:Nat) (e:Info),acc.reverse[i]? =some e->e.want=true->e.eff=false->Zb fs e.o.op=false->
   OpEx P B e.o (ev e.fr) (ss.reverse.getD e.rank []) e.V (ss.reverse.getD e.rank [])->e.rank<ss.length->∀s,s<=effCnt fs ops.toList->s≠e.rank->
   (∀(j:Nat) (f:Info),acc.reverse[j]? =some f->f.eff=true->Zz ops i j=true->f.rank<s)->
   (∀(j:Nat) (f:Info),acc.reverse[j]? =some f->f.eff=true->Zz ops j i=true->s<=f.rank)->OpEx P B e.o (ev e.fr) (ss.reverse.getD s []) e.V (ss.reverse.getD s []):=by
 intro i e hi hw he hc hx2 hx1 s hs hsr h1 h2
 have htab:∀(i:Nat) (o:Oper),ops[i]? =some o->∃t,tab[i]? =some t/\ZDh fs ops i o t.1 t.2=true:=by
  intro i o ho
  unfold ZNX at ht
  rw[Bool.and_eq_true]at ht
  obtain⟨ht1,ht2⟩:=ht
  have ht1:tab.length=ops.size:=by simpa using ht1
  have hin:i<ops.size:=(zA.1 ho).1
  have ht:tab[i]? =some (tab[i]'(by omega)):=zC (by omega)
  have:=List.all_eq_true.1 ht2 i (by simpa using hin)
  rw[ho,ht]at this
  exact⟨_,ht,this⟩
 have noCall:∀{e:Info},ZO fs e.o.op=true->Zb fs e.o.op=false:=fun h=>by unfold Zb;rw[h];rfl
 obtain⟨t,ht,hst⟩:=htab i e.o (hl.op i e hi)
 obtain⟨hlo,hhi⟩:=ZEd hst
 have at':∀(j:Nat) (p:Oper),ops[j]? =some p->ZO fs p.op=true->∃f,acc.reverse[j]? =some f/\f.o=p/\f.eff=true/\f.rank=effCnt fs (ops.toList.take j):=by
  intro j p hp1 hp2
  have:j<acc.reverse.length:=by simp[hlen];exact(zA.1 hp1).1
  have hf:=zC this
  have hfo:(acc.reverse[j]).o=p:=by have:=hl.op j _ hf;rw[hp1]at this;exact(zF this).symm
  have hfe:(acc.reverse[j]).eff=true:=by rw[hl.eff j _ hf,hfo];exact hp2
  exact⟨_,hf,hfo,hfe,hl.rank j _ hf (.inr hfe) (noCall (by rw[hfo];exact hp2))⟩
 have hlo':t.1<=s:=by
  rcases hlo with h0|⟨j,p,hp1,hp2,hp3,hp4⟩
  ·omega
  ·obtain⟨f,hf,hfo,hfe,hfr⟩:=at' j p hp1 hp2
   have:=h1 j f hf hfe hp3
   omega
 have hhi':s<=t.2:=by
  rcases hhi with h0|⟨j,p,hp1,hp2,hp3,hp4⟩
  ·omega
  ·obtain⟨f,hf,hfo,hfe,hfr⟩:=at' j p hp1 hp2
   have:=h2 j f hf hfe hp3
   omega
 have hie:ZO fs e.o.op=false:=by rw[←hl.eff i e hi];exact he
 obtain⟨x,hxs,hxx⟩:=ZEz hxb (hl.op i e hi) ht hc hie
 have hsin:(ss.reverse.getD s [])∈ss:=by
  have hlt:s<ss.reverse.length:=by rw[List.length_reverse,hSlen];omega
  rw[zE,zC hlt]
  exact List.mem_reverse.1 (List.getElem_mem hlt)
 rcases hfok i e x hi hxs hw hie hc with(hx1'|⟨hpl,hpu⟩|⟨y,hy,hlv⟩)|⟨ty,y,oi,hop,hld⟩
 ·rcases hxx hx1' with hsf|hte
  ·exact OpEx.free hsf hc hx2
  have hrk:=hl.rank i e hi (.inl hw) hc
  rw[hte]at hlo' hhi'
  simp only at hlo' hhi'
  exact absurd (by rw[hrk];exact Nat.le_antisymm hhi' hlo') hsr
 ·exact OpEx.plain hpl hpu hx2
 ·exact OpEx.addr hy (hlv _ hsin) hx2
 ·rw[zE,ht]at hld
  have hl:=hld s hlo' hhi'
  unfold OpEx
  generalize e.o.op=op at hop ⊢
  cases op<;>first|(simp only[ZIa,zG,Prod.mk.injEq]at hop;obtain⟨rfl,rfl,rfl⟩:=hop;simp only[aef,and_true];exact hl)|cases hop
theorem ZOL {xc:Nat}{ops:Array Oper}{fr:Frm}{acc:List Info}{ss:List ZE}{frN:Frm}(hl:Lex fs P B N ops xc fr acc.reverse frN ss)(hlen:acc.length=ops.size)(hSlen:ss.length=effCnt fs ops.toList+1)
  (hxe:∀e,acc.reverse[xc]? =some e->e.eff=true)
  (hC:∀(i:Nat) (e:Info),acc.reverse[i]? =some e->e.want=true->e.eff=false->Zb fs e.o.op=false->
   OpEx P B e.o (ev e.fr) (ss.reverse.getD e.rank []) e.V (ss.reverse.getD e.rank [])->e.rank<ss.length->∀s,s<=effCnt fs ops.toList->s≠e.rank->
   (∀(j:Nat) (f:Info),acc.reverse[j]? =some f->f.eff=true->Zz ops i j=true->f.rank<s)->
   (∀(j:Nat) (f:Info),acc.reverse[j]? =some f->f.eff=true->Zz ops j i=true->s<=f.rank)->OpEx P B e.o (ev e.fr) (ss.reverse.getD s []) e.V (ss.reverse.getD s [])):
  PlanX xc fs P B N ops fr acc.reverse (fun s=>ss.reverse.getD s []) (effCnt fs ops.toList):=by
 have noCall:∀{e:Info},ZO fs e.o.op=true->Zb fs e.o.op=false:=fun h=>by unfold Zb;rw[h];rfl
 refine⟨by simp[hlen],hl.op,fun i e d hi hd'=>by have:=hl.dst i e hi;rw[hd']at this;exact this,hl.lex,hl.guard,fun i e hi hw=>(hl.no i e hi hw).1,?_,?_,?_,?_⟩
 ·intro i e hi hw he s hs h1 h2
  cases hc:Zb fs e.o.op with
  |true=>exact hl.call i e hi hw hc _
  |false=>
   obtain⟨hx1,hx2⟩:=hl.ex i e hi (fun q=>by subst q;rw[hxe e hi]at he;cases he) hw hc
   rw[he]at hx1 hx2
   simp only[zK,if_false]at hx1 hx2
   by_cases hsr:s=e.rank
   ·subst hsr;exact hx2
   ·exact hC i e hi hw he hc hx2 (by omega) s hs hsr h1 h2
 ·intro i e hi he
  have hie:ZO fs e.o.op=true:=by rw[←hl.eff i e hi];exact he
  have hc:=noCall hie
  by_cases hix:i=xc
  ·refine⟨?_,hie,fun q=>absurd hix q⟩
   rw[hl.rank i e hi (.inr he) hc]
   have hio:=hl.op i e hi
   have:=ZCA (fs:=fs) ops.toList (i:=i) (j:=ops.size) (o:=e.o) (zA.1 hio).1 (by simpa using hio) hie
   have e0:List.take ops.size ops.toList=ops.toList:=List.take_of_length_le (by simp)
   rw[e0]at this
   exact this
  cases hw:e.want with
  |true=>
   obtain⟨hx1,hx2⟩:=hl.ex i e hi hix hw hc
   rw[he]at hx1 hx2
   simp only[if_true]at hx1 hx2 ⊢
   exact⟨by omega,hie,fun _=>hx2⟩
  |false=>
   obtain⟨h1,h2⟩:=(hl.no i e hi hw).2 he
   simp only[zK,if_false]
   exact⟨by omega,hie,fun _=>h2⟩
 ·intro r hr
  obtain⟨i,o,hi,he,hrk⟩:=ZD1 ops.toList r hr
  have hio:ops[i]? =some o:=by simpa using hi
  have hin:i<acc.reverse.length:=by simp[hlen];exact(zA.1 hio).1
  have hf:=zC hin
  have hfo:(acc.reverse[i]).o=o:=by have:=hl.op i _ hf;rw[hio]at this;exact(zF this).symm
  have hfe:(acc.reverse[i]).eff=true:=by rw[hl.eff i _ hf,hfo];exact he
  refine⟨i,acc.reverse[i],hf,hfe,?_⟩
  rw[hl.rank i _ hf (.inr hfe) (noCall (by rw[hfo];exact he)),hrk]
 ·intro i j e f hi hj he hf hij
  have hie:ZO fs e.o.op=true:=by rw[←hl.eff i e hi];exact he
  have hif:ZO fs f.o.op=true:=by rw[←hl.eff j f hj];exact hf
  rw[hl.rank i e hi (.inr he) (noCall hie),hl.rank j f hj (.inr hf) (noCall hif)]
  exact ZCA ops.toList hij (o:=e.o) (by have:=hl.op i e hi;simpa using this) hie
end
end Go.Vl
