/- Part. -/
import Derived.Test.YtmjpphcloedceaaGreatVlDraw3
set_option linter.all false
open Option renaming map_eq_some_iff->zA
open List renaming getElem?_eq_getElem->zB,getElem?_append_left->zC,replicate->zD,getElem?_eq_some_iff->zE,getElem?_set_self->zF,getElem?_set_ne->zG,getElem?_eq_none->zH,getElem?_append_right->zI,getD_eq_getElem?_getD->zJ,mem_of_getElem?->zK
open Nat renaming zero_add->zL,le_refl->zM
namespace Go.Vl
open Go Go.RowKit
open AV renaming closed->zN,le->zO,pure->zP
open MS renaming has->zQ
def AV.ren (π:Nat->Nat):AV->AV
 | .own l n=>.own (π l) n
 | .pre l n k=>.pre (π l) n k
 | .ptr l o=>.ptr (π l) o
 | .eptr l n i o=>.eptr (π l) n i o
 | .agg cs=>.agg (rens cs)
 | .tup cs=>.tup (rens cs)
 | .fn f xs ys=>.fn f (rens xs) (rens ys)
 |x=>x
where rens:List AV->List AV
 | []=>[]
 |x::r=>x.ren π::rens r
theorem ZAB {π:Nat->Nat}:∀{xs:List AV},(AV.ren.rens π xs).length=xs.length
 | []=>rfl
 |x::r=>by simp[AV.ren.rens,ZAB (xs:=r)]
theorem ZAC {π:Nat->Nat}:∀{xs:List AV} {i:Nat},(AV.ren.rens π xs)[i]? =xs[i]?.map (AV.ren π)
 | [],i=>by simp[AV.ren.rens]
 |x::r,0=>by simp[AV.ren.rens]
 |x::r,i+1=>by simp[AV.ren.rens,ZAC (xs:=r)]
section
variable {P : Program} {B nb N : Nat}
def BCall (P:Program)(B:Nat)(f:FuncId)(τ:ZE)(args:List AV)(r:AV)(τ':ZE):Prop:=
 Ent P f/\Zu τ.length τ/\zN.closeds τ.length args/\r.closed τ'.length/\Zu τ'.length τ'/\τ.length<=τ'.length/\
  ∀m w vs,Sim B m τ w->RelL B (Av m) m w args vs->
   Calls P f vs w fun e w'=>∃u m' σ',e=.returned u/\ZGD σ' τ'/\Sim B m' σ' w'/\Conc B (Av m') w' m' r u/\Fr m w m' w'
variable {W:Nat->Prop}{w:World}{m:Map}{π:Nat->Nat}{n:Nat}{m1:Map}{u:Value}
theorem Conc.ren_to (W':Nat->Prop)(hW:∀b,W' b->W b)(hn:m1.n=n)(hf:∀l,l<n->m1.f l=m.f (π l)){y:AV}(h:Conc B W w m y u):∀x:AV,y=x.ren π->x.closed n->Conc B W' w m1 x u:=by
 induction h with
 |lit v=>intro x e hc;cases x<;>simp only[AV.ren]at e<;>cases e;exact .lit v
 |junk v=>intro x e hc;cases x<;>simp only[AV.ren]at e<;>cases e;exact .junk v
 |arr es b off sz cap ys hB hsz hWb hb hcap hc' hx ih=>
  intro x e hc;cases x<;>simp only[AV.ren]at e<;>cases e
  exact .arr es b off sz cap ys hB hsz (fun hw=>hWb (hW b hw)) hb hcap hc' fun i e k x hi hk=>(hx i e k x hi hk).weaken hW
 |arrNil a cap=>intro x e hc;cases x<;>simp only[AV.ren]at e<;>cases e;exact .arrNil a cap
 |rptr e' off b o ys hWb hb hc' hx ih=>
  intro x e hc;cases x<;>simp only[AV.ren]at e<;>cases e
  exact .rptr _ off b o ys (fun hw=>hWb (hW b hw)) hb hc' fun k x hk=>(hx k x hk).weaken hW
 |preOther l n' k' v hl hk=>
  intro x e hc;cases x<;>simp only[AV.ren]at e<;>cases e
  simp only[zN]at hc
  exact .preOther _ n' k' v (by rw[hn];exact hc) (by rw[hf _ hc];exact hk)
 |preNil l a hl hk=>
  intro x e hc;cases x<;>simp only[AV.ren]at e<;>cases e
  simp only[zN]at hc
  exact .preNil _ a (by rw[hn];exact hc) (by rw[hf _ hc];exact hk)
 |preArr l b sz len k' cap ccs ty hl hk hk' hh hcap hlen=>
  intro x e hc;cases x<;>simp only[AV.ren]at e<;>cases e
  simp only[zN]at hc
  exact .preArr _ b sz len k' cap ccs ty (by rw[hn];exact hc) (by rw[hf _ hc];exact hk) hk' hh hcap hlen
 |ownOther l n' a cap hl hk hcap=>
  intro x e hc;cases x<;>simp only[AV.ren]at e<;>cases e
  simp only[zN]at hc
  exact .ownOther _ n' a cap (by rw[hn];exact hc) (by rw[hf _ hc];exact hk) hcap
 |ownNil l a hl hk=>
  intro x e hc;cases x<;>simp only[AV.ren]at e<;>cases e
  simp only[zN]at hc
  exact .ownNil _ a (by rw[hn];exact hc) (by rw[hf _ hc];exact hk)
 |ownArr l b sz len cap ccs ty hl hk hh hcap hlen hz=>
  intro x e hc;cases x<;>simp only[AV.ren]at e<;>cases e
  simp only[zN]at hc
  exact .ownArr _ b sz len cap ccs ty (by rw[hn];exact hc) (by rw[hf _ hc];exact hk) hh hcap hlen hz
 |ptrOther l off v hl hk=>
  intro x e hc;cases x<;>simp only[AV.ren]at e<;>cases e
  simp only[zN]at hc
  exact .ptrOther _ off v (by rw[hn];exact hc) (by rw[hf _ hc];exact hk)
 |ptrBox l off b hl hk=>
  intro x e hc;cases x<;>simp only[AV.ren]at e<;>cases e
  simp only[zN]at hc
  exact .ptrBox _ off b (by rw[hn];exact hc) (by rw[hf _ hc];exact hk)
 |eptrOther l n' i off v hl hk=>
  intro x e hc;cases x<;>simp only[AV.ren]at e<;>cases e
  simp only[zN]at hc
  exact .eptrOther _ n' i off v (by rw[hn];exact hc) (by rw[hf _ hc];exact hk)
 |eptrArr l n' i off b sz hl hk=>
  intro x e hc;cases x<;>simp only[AV.ren]at e<;>cases e
  simp only[zN]at hc
  exact .eptrArr _ n' i off b sz (by rw[hn];exact hc) (by rw[hf _ hc];exact hk)
 |agg cs us hlen hx ih=>
  intro x e hc;cases x<;>simp only[AV.ren]at e<;>cases e
  next ds=>
  simp only[zN]at hc
  refine .agg ds us (by rw[hlen,ZAB]) fun i x hi=>ih i (x.ren π) (by rw[ZAC,hi];rfl) hf x rfl (ZN hc hi)
 |tup cs us hlen hx ih=>
  intro x e hc;cases x<;>simp only[AV.ren]at e<;>cases e
  next ds=>
  simp only[zN]at hc
  refine .tup ds us (by rw[hlen,ZAB]) fun i x hi=>ih i (x.ren π) (by rw[ZAC,hi];rfl) hf x rfl (ZN hc hi)
 |fn f xs ys us vs g1 g2 hx hy ihx ihy=>
  intro x e hc;cases x<;>simp only[AV.ren]at e<;>cases e
  simp only[zN]at hc
  exact .fn f _ _ us vs (by rw[g1,ZAB]) (by rw[g2,ZAB]) (fun i x hi=>ihx i (x.ren π) (by rw[ZAC,hi];rfl) hf x rfl (ZN hc.1 hi))
   (fun i x hi=>ihy i (x.ren π) (by rw[ZAC,hi];rfl) hf x rfl (ZN hc.2 hi))
theorem Conc.ren_of {m2:Map}(W':Nat->Prop)(hW:∀b,W' b->W b)(hn:∀l,l<n->π l<m2.n)(hf:∀l,l<n->m2.f (π l)=m.f l){x:AV}(h:Conc B W w m x u):x.closed n->Conc B W' w m2 (x.ren π) u:=by
 induction h with
 |lit v=>intro hc;exact .lit v
 |junk v=>intro hc;exact .junk v
 |arr es b off sz cap ys hB hsz hWb hb hcap hc' hx ih=>
  intro hc
  exact .arr es b off sz cap ys hB hsz (fun hw=>hWb (hW b hw)) hb hcap hc' fun i e k x hi hk=>(hx i e k x hi hk).weaken hW
 |arrNil a cap=>intro hc;exact .arrNil a cap
 |rptr e' off b o ys hWb hb hc' hx ih=>
  intro hc
  exact .rptr _ off b o ys (fun hw=>hWb (hW b hw)) hb hc' fun k x hk=>(hx k x hk).weaken hW
 |preOther l n' k' v hl hk=>
  intro hc;simp only[zN]at hc
  exact .preOther _ n' k' v (hn _ hc) (by rw[hf _ hc];exact hk)
 |preNil l a hl hk=>
  intro hc;simp only[zN]at hc
  exact .preNil _ a (hn _ hc) (by rw[hf _ hc];exact hk)
 |preArr l b sz len k' cap ccs ty hl hk hk' hh hcap hlen=>
  intro hc;simp only[zN]at hc
  exact .preArr _ b sz len k' cap ccs ty (hn _ hc) (by rw[hf _ hc];exact hk) hk' hh hcap hlen
 |ownOther l n' a cap hl hk hcap=>
  intro hc;simp only[zN]at hc
  exact .ownOther _ n' a cap (hn _ hc) (by rw[hf _ hc];exact hk) hcap
 |ownNil l a hl hk=>
  intro hc;simp only[zN]at hc
  exact .ownNil _ a (hn _ hc) (by rw[hf _ hc];exact hk)
 |ownArr l b sz len cap ccs ty hl hk hh hcap hlen hz=>
  intro hc;simp only[zN]at hc
  exact .ownArr _ b sz len cap ccs ty (hn _ hc) (by rw[hf _ hc];exact hk) hh hcap hlen hz
 |ptrOther l off v hl hk=>
  intro hc;simp only[zN]at hc
  exact .ptrOther _ off v (hn _ hc) (by rw[hf _ hc];exact hk)
 |ptrBox l off b hl hk=>
  intro hc;simp only[zN]at hc
  exact .ptrBox _ off b (hn _ hc) (by rw[hf _ hc];exact hk)
 |eptrOther l n' i off v hl hk=>
  intro hc;simp only[zN]at hc
  exact .eptrOther _ n' i off v (hn _ hc) (by rw[hf _ hc];exact hk)
 |eptrArr l n' i off b sz hl hk=>
  intro hc;simp only[zN]at hc
  exact .eptrArr _ n' i off b sz (hn _ hc) (by rw[hf _ hc];exact hk)
 |agg cs us hlen hx ih=>
  intro hc;simp only[zN]at hc
  refine .agg _ us (by rw[hlen,ZAB]) fun i x hi=> ?_
  rw[ZAC]at hi
  obtain⟨y,hy,rfl⟩:=zA.1 hi
  exact ih i y hy hf (ZN hc hy)
 |tup cs us hlen hx ih=>
  intro hc;simp only[zN]at hc
  refine .tup _ us (by rw[hlen,ZAB]) fun i x hi=> ?_
  rw[ZAC]at hi
  obtain⟨y,hy,rfl⟩:=zA.1 hi
  exact ih i y hy hf (ZN hc hy)
 |fn f xs ys us vs g1 g2 hx hy ihx ihy=>
  intro hc;simp only[zN]at hc
  refine .fn f _ _ us vs (by rw[g1,ZAB]) (by rw[g2,ZAB]) (fun i x hi=> ?_) (fun i x hi=> ?_)
  ·rw[ZAC]at hi
   obtain⟨y,hy',rfl⟩:=zA.1 hi
   exact ihx i y hy' hf (ZN hc.1 hy')
  ·rw[ZAC]at hi
   obtain⟨y,hy',rfl⟩:=zA.1 hi
   exact ihy i y hy' hf (ZN hc.2 hy')
theorem Conc.pure_to {W':Nat->Prop}{m':Map}{x:AV}(h:Conc B W w m x u)(hp:x.pure)(hW:∀b,W' b->W b):Conc B W' w m' x u:=
 ((h.toM0 hp).weaken hW).shift m'
def ZCA :ZE->Prop
 | []=>True
 | .telems _ _ es::r=>ZAb es/\ZCA r
 |_::r=>ZCA r
theorem ZBA :∀{τ:ZE} {i:Nat} {oe:Option TypeId} {sz:Nat} {es:List (List AV)},ZCA τ->τ[i]? =some (.telems oe sz es)->ZAb es
 | .telems _ _ _::r,0,oe,sz,es,h,hi=>by simp at hi;obtain⟨_,_,rfl⟩:=hi;exact h.1
 | .tcells _ _::r,0,oe,sz,es,h,hi=>by simp at hi
 | .pack _ _::r,0,oe,sz,es,h,hi=>by simp at hi
 | .dead::r,0,oe,sz,es,h,hi=>by simp at hi
 | .telems _ _ _::r,i+1,oe,sz,es,h,hi=>ZBA h.2 (by simpa using hi)
 | .tcells _ _::r,i+1,oe,sz,es,h,hi=>ZBA (show ZCA r from h) (by simpa using hi)
 | .pack _ _::r,i+1,oe,sz,es,h,hi=>ZBA (show ZCA r from h) (by simpa using hi)
 | .dead::r,i+1,oe,sz,es,h,hi=>ZBA (show ZCA r from h) (by simpa using hi)
def Blk.ren (π:Nat->Nat):Blk->Blk
 | .tcells ot cs=>.tcells ot (AV.ren.rens π cs)
 |b=>b
def bOk (π:Nat->Nat)(σ:ZE):Nat->ZE->Prop
 |_,[]=>True
 |i,b::r=>(match σ[π i]?,b with
   |some (.cells ds),.cells cs=>zO.les ds (AV.ren.rens π cs)
   |some (.elems sz es),.elems sz' es'=>sz=sz'/\es=es'
   |some (.pack xs vs),.pack xs' vs'=>xs=xs'/\vs=vs'
   |_,_=>False)/\bOk π σ (i+1) r
theorem ZGy {π:Nat->Nat}{σ:ZE}:∀{τ:ZE} {k i:Nat} {b:Blk},bOk π σ k τ->τ[i]? =some b->
  (∃ds cs,σ[π (k+i)]? =some (.cells ds)/\b=.cells cs/\zO.les ds (AV.ren.rens π cs))∨(∃sz es,σ[π (k+i)]? =some (.elems sz es)/\b=.elems sz es)∨(∃xs vs,σ[π (k+i)]? =some (.pack xs vs)/\b=.pack xs vs)
 |c::r,k,0,b,h,hi=>by
  simp at hi;subst hi
  have h:=h.1
  rw[Nat.add_zero]
  cases hσ:σ[π k]? with
  |none=>rw[hσ]at h;exact h.elim
  |some d=>
   rw[hσ]at h
   rcases d with _|⟨_|_,_⟩|⟨_|_,_,_⟩|_<;>rcases c with _|⟨_|_,_⟩|⟨_|_,_,_⟩|_<;>first|exact h.elim|exact .inl ⟨_,_,rfl,rfl,h⟩|(obtain⟨rfl,rfl⟩:=h;exact .inr (.inl ⟨_,_,rfl,rfl⟩))|(obtain⟨rfl,rfl⟩:=h;exact .inr (.inr ⟨_,_,rfl,rfl⟩))
 |c::r,k,i+1,b,h,hi=>by
  have:=ZGy (k:=k+1) h.2 (show r[i]? =some b by simpa using hi)
  have e:k+1+i=k+(i+1):=by omega
  rwa[e]at this
def ZGx (π:Nat->Nat):Nat->ZE->ZE->ZE
 |_,[],σ=>σ
 |i,b::r,σ=>ZGx π (i+1) r (σ.set (π i) (b.ren π))
theorem ZHf {π:Nat->Nat}:∀{τ:ZE} {k:Nat} {σ:ZE},(ZGx π k τ σ).length=σ.length
 | [],_,_=>rfl
 |b::r,k,σ=>by simp only[ZGx];rw[ZHf];simp
theorem ZCn {π:Nat->Nat}:∀{τ:ZE} {k:Nat} {σ:ZE} {l:Nat},(∀i,i<τ.length->π (k+i)≠l)->(ZGx π k τ σ)[l]? =σ[l]?
 | [],_,_,_,_=>rfl
 |b::r,k,σ,l,h=>by
  simp only[ZGx]
  rw[ZCn fun i hi=>by have:=h (i+1) (by simp;omega);rwa[show k+(i+1)=k+1+i from by omega]at this]
  exact zG (h 0 (by simp))
theorem ZJx {π:Nat->Nat}:∀{τ:ZE} {k:Nat} {σ:ZE} {i:Nat} {b:Blk},(∀i j,i<τ.length->j<τ.length->π (k+i)=π (k+j)->i=j)->τ[i]? =some b->π (k+i)<σ.length->
  (ZGx π k τ σ)[π (k+i)]? =some (b.ren π)
 |c::r,k,σ,0,b,hj,hi,hl=>by
  simp at hi;subst hi
  simp only[ZGx]
  rw[ZCn fun i hi e=>by
   have:=hj (i+1) 0 (by simp;omega) (by simp) (by rw[←e];congr 1;omega)
   omega]
  exact zF hl
 |c::r,k,σ,i+1,b,hj,hi,hl=>by
  simp only[ZGx]
  have e:k+(i+1)=k+1+i:=by omega
  rw[e]at hl ⊢
  refine ZJx (fun i j hi hj' e'=> ?_) (by simpa using hi) (by simpa using hl)
  have:=hj (i+1) (j+1) (by simp;omega) (by simp;omega) (by rw[show k+(i+1)=k+1+i from by omega,show k+(j+1)=k+1+j from by omega];exact e')
  omega
open Classical in
noncomputable def Map.back (m m1:Map)(π:Nat->Nat)(n k:Nat):Map:=
 ⟨fun l=>if h:∃i,i<n/\π i=l then m1.f h.choose else m.f l,m.n+k,m.av⟩
theorem Map.back_at {k:Nat}(hj:∀i j,i<n->j<n->π i=π j->i=j){i:Nat}(hi:i<n):(m.back m1 π n k).f (π i)=m1.f i:=by
 have h:∃j,j<n/\π j=π i:=⟨i,hi,rfl⟩
 simp only[Map.back]
 rw[dif_pos h,hj _ _ h.choose_spec.1 hi h.choose_spec.2]
theorem Map.back_other {k l:Nat}(h:∀i,i<n->π i≠l):(m.back m1 π n k).f l=m.f l:=by
 simp only[Map.back]
 rw[dif_neg]
 rintro⟨i,hi,e⟩
 exact h i hi e
def DCall (P:Program)(B:Nat)(f:FuncId)(τ:ZE)(args:List AV)(k:Nat)(R:AV->ZE->Prop):Prop:=
 Ent P f/\Zu τ.length τ/\zN.closeds τ.length args/\(∀r τ',R r τ'->r.closed k/\Zu k τ'/\τ'.length=k/\ZCA τ')/\τ.length<=k/\
  ∀m w vs,Sim B m τ w->RelL B (Av m) m w args vs->Calls P f vs w fun e w'=>∃u m' σ' r τ',e=.returned u/\R r τ'/\ZGD σ' τ'/\Sim B m' σ' w'/\Conc B (Av m') w' m' r u/\Fr m w m' w'
variable {f:FuncId}{τ σ:ZE}{args args':List AV}{vs:Array Value}
theorem DCall.run {k:Nat}{R:AV->ZE->Prop}(h:DCall P B f τ args k R)(π:Nat->Nat)(hp:ZCA τ)(hj:∀i j,i<τ.length->j<τ.length->π i=π j->i=j)(hx:∀i,τ.length<=i->i<k->π i=σ.length+(i-τ.length))(hb:bOk π σ 0 τ)(ha:zO.les args' (AV.ren.rens π args))(hs:Sim B m σ w)(hv:RelL B (Av m) m w args' vs):
  Calls P f vs w fun e w'=>∃u m' r τ',e=.returned u/\R r τ'/\Sim B m' (ZGx π 0 τ' (σ++zD (τ'.length-τ.length) Blk.dead)) w'/\Conc B (Av m') w' m' (r.ren π) u/\Fr m w m' w':=by
 obtain⟨hE,hcτ,hca,hRR,hlen,hrun⟩:=h
 have hpi:∀i,i<τ.length->π i<σ.length:=by
  intro i hi
  rcases ZGy hb (zB hi)with⟨ds,cs,e,_⟩|⟨sz,es,e,_⟩|⟨xs,us,e,_⟩<;>rw[zL]at e<;>exact(zE.1 e).1
 have hmn:m.n=σ.length:=hs.n
 let m1:Map:=⟨fun i=>if i<τ.length then m.f (π i)else .dead,τ.length,fun x=>Av m x/\¬∃i,i<τ.length/\(m.f (π i)).has x⟩
 have hm1:∀i,i<τ.length->m1.f i=m.f (π i):=fun i hi=>by simp[m1,hi]
 have hw1:∀x,Wr m1 x->∃i,i<τ.length/\(m.f (π i)).has x:=by
  rintro x ⟨i,hi⟩
  by_cases e:i<τ.length
  ·rw[hm1 i e]at hi;exact⟨i,e,hi⟩
  ·simp[m1,e,zQ]at hi
 have hav1:∀x,Av m1 x->Av m x:=fun x hx=>hx.elim (fun h=>by obtain⟨i,_,hi⟩:=hw1 x h;exact .inl ⟨_,hi⟩) (fun h=>h.1)
 have hrel:RelL B (Av m1) m1 w args vs:=by
  refine⟨by rw[hv.1,ZBH ha,ZAB],fun i y hi=> ?_⟩
  obtain⟨x,hx,hxy⟩:=ZBI ha (i:=i) (y:=y.ren π) (by rw[ZAC,hi];rfl)
  exact((hv.2 i x hx).le hxy).ren_to _ hav1 rfl hm1 y rfl (ZN hca hi)
 have hsim1:Sim B m1 τ w:=by
  refine⟨rfl,fun i=> ?_,fun i i' x h1 h2=> ?_,fun x hx hx'=>hx'.2 (hw1 x hx),fun x hx=>hx.1.elim (fun h=>(hs.mapOk x h).1) (fun h=>hs.avlt x h),hs.tb.sub fun x hx=>by obtain⟨i,_,hi⟩:=hw1 x hx;exact⟨_,hi⟩⟩
  ·by_cases e:i<τ.length
   ·have hcl:=ZAk hcτ (zB e)
    rcases ZGy hb (zB e)with⟨ds,cs,e1,e2,e3⟩|⟨sz,es,e1,e2⟩|⟨xs,us,e1,e2⟩
    ·rw[zL]at e1
     have hbl:=hs.blk (π i)
     rw[e1]at hbl
     rw[zB e,e2,hm1 i e]
     rw[e2]at hcl
     obtain⟨b,ccs,ty,g1,g2,g3,g4⟩:=hbl
     refine⟨b,ccs,ty,g1,g2,by rw[g3,ZBH e3,ZAB],fun j x hj'=> ?_⟩
     obtain⟨z,hz,hzx⟩:=ZBI e3 (i:=j) (y:=x.ren π) (by rw[ZAC,hj'];rfl)
     obtain⟨y,hy,hc⟩:=g4 j z hz
     exact⟨y,hy,(hc.le hzx).ren_to _ hav1 rfl hm1 x rfl (ZN hcl hj')⟩
    ·rw[zL]at e1
     have hbl:=hs.blk (π i)
     rw[e1]at hbl
     have hpe:=ZBA (i:=i) hp (by rw[zB e,e2])
     rw[zB e,e2,hm1 i e]
     obtain⟨g0,g0',hbl⟩:=hbl
     refine⟨g0,g0',?_⟩
     rcases hbl with hbl|⟨b,ccs,ty,g1,g2,g3,g4⟩
     ·exact .inl hbl
     ·refine .inr ⟨b,ccs,ty,g1,g2,g3,fun j e' k x hi hk=> ?_⟩
      obtain⟨y,hy,hc⟩:=g4 j e' k x hi hk
      exact⟨y,hy,hc.pure_to (Zw (hpe e' (zK hi)) hk) hav1⟩
    ·rw[zL]at e1
     have hbl:=hs.blk (π i)
     rw[e1]at hbl
     rw[zB e,e2,hm1 i e]
     exact hbl
   ·rw[zH (by omega)]
    show m1.f i=.dead
    simp[m1,e]
  ·by_cases e:i<τ.length
   ·by_cases e':i'<τ.length
    ·rw[hm1 i e]at h1;rw[hm1 i' e']at h2
     exact hj i i' e e' (hs.inj _ _ x h1 h2)
    ·simp[m1,e',zQ]at h2
   ·simp[m1,e,zQ]at h1
 refine(hrun m1 w vs hsim1 hrel).mono ?_
 rintro e w' ⟨u,m0,σ0,r,τ',rfl,hR,hst,hs0,hc0,hf0⟩
 obtain⟨hcr,hcτ',hk',hp'⟩:=hRR r τ' hR
 subst hk'
 -- the callee's store as it is told
 have hs':Sim B (m0.to τ') τ' w':=hs0.to hst hcτ'
 have hcr':Conc B (Av (m0.to τ')) w' (m0.to τ') r u:=hc0.to _ ZKF hcr
 generalize hmm:m0.to τ'=m3 at hs' hcr'
 have hf3:∀l,l<τ.length->(m1.f l).le (m3.f l):=by
  intro l hl
  have:=hf0.ids l hl
  rw[←hmm]
  rcases m0.to_cases τ' l with e|e<;>rw[e]
  ·exact this
  ·exact .inr (.inl rfl)
 have hwr3:∀b,Wr m3 b->Wr m0 b:=by rw[←hmm];exact fun b=>ZHn b
 have hav3:m3.av=m1.av:=by rw[←hmm];exact hf0.av
 have hn3:m3.n=τ'.length:=hs'.n
 have hpi':∀i,i<τ'.length->π i<σ.length+(τ'.length-τ.length):=fun i hi=>by
  by_cases e:i<τ.length
  ·have:=hpi i e;omega
  ·rw[hx i (by omega) hi];omega
 have hjj:∀i j,i<τ'.length->j<τ'.length->π i=π j->i=j:=fun i j hi hj' e=>by
  by_cases e1:i<τ.length<;>by_cases e2:j<τ.length
  ·exact hj i j e1 e2 e
  ·have:=hpi i e1;rw[hx j (by omega) hj']at e;omega
  ·have:=hpi j e2;rw[hx i (by omega) hi]at e;omega
  ·rw[hx i (by omega) hi,hx j (by omega) hj']at e;omega
 have hold:∀i,i<τ'.length->π i<σ.length->i<τ.length:=fun i hi h=>by
  apply Classical.byContradiction;intro hn;rw[hx i (by omega) hi]at h;omega
 have hkeep:∀x,x<w.heap.size->(¬∃i,i<τ.length/\(m.f (π i)).has x)->w'.heap[x]? =w.heap[x]? :=fun x hx hne=>hf0.keep x hx fun h=>hne (hw1 x h)
 let m2:=m.back m3 π τ'.length (τ'.length-τ.length)
 have h2at:∀i,i<τ'.length->m2.f (π i)=m3.f i:=fun i hi=>Map.back_at hjj hi
 have h2o:∀l,(∀i,i<τ'.length->π i≠l)->m2.f l=m.f l:=fun l hl=>Map.back_other hl
 have hcase:∀l,(∃i,i<τ'.length/\π i=l)∨(∀i,i<τ'.length->π i≠l):=fun l=>by
  by_cases e:∃i,i<τ'.length/\π i=l
  ·exact .inl e
  ·exact .inr fun i hi e'=>e ⟨i,hi,e'⟩
 have hfr:Fr m w m2 w':=by
  refine⟨hf0.size,fun b hb hn=>hkeep b hb fun⟨i,hi,e⟩=>hn ⟨_,e⟩,fun b ccs ty hw hw2 hh=> ?_,fun b hb=> ?_,fun l hl=> ?_,Nat.le_add_right _ _,rfl,hf0.tape,hf0.os,hf0.output⟩
  ·by_cases e:∃i,i<τ.length/\(m.f (π i)).has b
   ·obtain⟨i,hi,e⟩:=e
    refine hf0.phys b ccs ty ⟨i,by rw[hm1 i hi];exact e⟩ ?_ hh
    obtain⟨l,hl⟩:=hw2
    rcases hcase l with⟨j,hj',rfl⟩|ho
    ·rw[h2at j hj']at hl
     exact hwr3 b ⟨j,hl⟩
    ·rw[h2o l ho]at hl
     exact absurd (hs.inj _ _ b e hl) (ho i (by omega))
   ·exact⟨ccs,by rw[hkeep b (hs.mapOk b hw).1 e];exact hh,rfl⟩
  ·obtain⟨l,hl⟩:=hb
   rcases hcase l with⟨i,hi,rfl⟩|ho
   ·rw[h2at i hi]at hl
    rcases hf0.fresh b (hwr3 b ⟨i,hl⟩)with q|q
    ·obtain⟨j,hj',q⟩:=hw1 b q
     exact .inl ⟨_,q⟩
    ·exact .inr q
   ·rw[h2o l ho]at hl
    exact .inl ⟨l,hl⟩
  ·rcases hcase l with⟨i,hi,rfl⟩|ho
   ·have hi0:=hold i hi (by rw[←hmn];exact hl)
    rw[h2at i hi,←hm1 i hi0];exact hf3 i hi0
   ·rw[h2o l ho];exact .inl rfl
 have hav2:∀x,Av m2 x->Av m3 x:=by
  intro x hx
  have other:Av m x->(¬∃i,i<τ.length/\(m.f (π i)).has x)->Av m3 x:=fun h1 h2=>.inr (by rw[hav3];exact⟨h1,h2⟩)
  rcases hx with⟨l,hl⟩|hx
  ·rcases hcase l with⟨i,hi,rfl⟩|ho
   ·rw[h2at i hi]at hl;exact .inl ⟨i,hl⟩
   ·rw[h2o l ho]at hl
    exact other (.inl ⟨l,hl⟩) fun⟨i,hi,e⟩=>ho i (by omega) (hs.inj _ _ x e hl)
  ·exact other (.inr hx) fun⟨i,hi,e⟩=>hs.sep x ⟨_,e⟩ hx
 have hren:∀{x:AV} {u:Value},Conc B (Av m3) w' m3 x u->x.closed τ'.length->Conc B (Av m2) w' m2 (x.ren π) u:=fun hc hcl=>
  hc.ren_of _ hav2 (fun l hl=>by show π l<m.n+_;rw[hmn];exact hpi' l hl) h2at hcl
 refine⟨u,m2,r,τ',rfl,hR,?_,hren hcr' hcr,hfr⟩
 refine⟨by show m.n+_=_;rw[ZHf,hmn];simp,fun l=> ?_,fun l l' b h1 h2=> ?_,fun b hb hx=> ?_,fun b hx=>Nat.lt_of_lt_of_le (hs.avlt b hx) hf0.size,TbOk.fr hs hfr⟩
 ·rcases hcase l with⟨i,hi,rfl⟩|ho
  ·have hi':i<τ'.length:=hi
   have e1:(ZGx π 0 τ' (σ++zD (τ'.length-τ.length) Blk.dead))[π i]? =some ((τ'[i]).ren π):=by
    have:=ZJx (π:=π) (k:=0) (σ:=σ++zD (τ'.length-τ.length) Blk.dead) (τ:=τ') (i:=i) (b:=τ'[i]) (fun a b ha hb e=>hjj a b ha hb (by simpa using e)) (zB hi') (by rw[zL];have:=hpi' i hi;simpa using this)
    rwa[zL]at this
   rw[e1,h2at i hi]
   have hbl:=hs'.blk i
   have hcl:=ZAk hcτ' (zB hi')
   rw[zB hi']at hbl
   cases hk:τ'[i]with
   |dead=>rw[hk]at hbl;exact hbl
   |pack xs us=>rw[hk]at hbl;exact hbl
   |tcells ot cs=>
    rw[hk]at hbl hcl
    obtain⟨b,ccs,ty,g1,g2,g3,g4⟩:=hbl
    refine⟨b,ccs,ty,g1,g2,by rw[g3,ZAB],fun j x hj'=> ?_⟩
    rw[ZAC]at hj'
    obtain⟨y,hy,rfl⟩:=zA.1 hj'
    obtain⟨v,hv',hc⟩:=g4 j y hy
    exact⟨v,hv',hren hc (ZN hcl hy)⟩
   |telems oe sz es=>
    have hpe:=ZBA (i:=i) hp' (by rw[zB hi',hk])
    rw[hk]at hbl
    obtain⟨g0,g0',hbl⟩:=hbl
    refine⟨g0,g0',?_⟩
    rcases hbl with hbl|⟨b,ccs,ty,g1,g2,g3,g4⟩
    ·exact .inl hbl
    ·refine .inr ⟨b,ccs,ty,g1,g2,g3,fun j e' k x hi hk=> ?_⟩
     obtain⟨y,hy,hc⟩:=g4 j e' k x hi hk
     exact⟨y,hy,hc.pure_to (Zw (hpe e' (zK hi)) hk) hav2⟩
  ·have hl2:(σ++zD (τ'.length-τ.length) Blk.dead)[l]? =σ[l]? :=by
    by_cases e:l<σ.length
    ·rw[zC e]
    ·by_cases e':l<σ.length+(τ'.length-τ.length)
     ·exact absurd (by rw[hx _ (by omega) (by omega)];omega) (ho (τ.length+(l-σ.length)) (by omega))
     ·rw[zH (by simp;omega),zH (by omega)]
   rw[ZCn fun i hi=>by rw[zL];exact ho i hi,h2o l ho,hl2]
   have hbl:=hs.blk l
   have hk:∀b,(m.f l).has b->w'.heap[b]? =w.heap[b]? :=fun b hb=>
    hkeep b (hs.mapOk b ⟨l,hb⟩).1 fun⟨i,hi,e⟩=>ho i (by omega) (hs.inj _ _ b e hb)
   cases hσ:σ[l]? with
   |none=>rw[hσ]at hbl;exact hbl
   |some k=>
    rw[hσ]at hbl
    cases k with
    |dead=>exact hbl
    |pack xs vs=>
     obtain⟨F,g1,g2,g3⟩:=hbl
     exact⟨F,g1,g2,g3.keep fun b hb=>hk b (by rw[g1];exact hb)⟩
    |tcells ot cs=>
     obtain⟨b,ccs,ty,g1,g2,g3,g4⟩:=hbl
     refine⟨b,ccs,ty,g1,by rw[hk b (by rw[g1];rfl)];exact g2,g3,fun i x hx=> ?_⟩
     obtain⟨y,hy,hc⟩:=g4 i x hx
     exact⟨y,hy,hc.mono hfr⟩
    |telems oe sz es=>
     obtain⟨g0,g0',hbl⟩:=hbl
     refine⟨g0,g0',?_⟩
     rcases hbl with hbl|⟨b,ccs,ty,g1,g2,g3,g4⟩
     ·exact .inl hbl
     ·refine .inr ⟨b,ccs,ty,g1,by rw[hk b (by rw[g1];rfl)];exact g2,g3,fun i e' k x hi hk=> ?_⟩
      obtain⟨y,hy,hc⟩:=g4 i e' k x hi hk
      exact⟨y,hy,hc.mono hfr⟩
 ·rcases hcase l with⟨i,hi,rfl⟩|ho
  ·rcases hcase l' with⟨j,hj',rfl⟩|ho'
   ·rw[h2at i hi]at h1;rw[h2at j hj']at h2
    rw[hs'.inj i j b h1 h2]
   ·rw[h2at i hi]at h1;rw[h2o l' ho']at h2
    rcases hf0.fresh b (hwr3 b ⟨i,h1⟩)with q|q
    ·obtain⟨j,hj',q⟩:=hw1 b q
     exact absurd (hs.inj _ _ b q h2) (ho' j (by omega))
    ·have:=(hs.mapOk b ⟨l',h2⟩).1;omega
  ·rcases hcase l' with⟨j,hj',rfl⟩|ho'
   ·rw[h2o l ho]at h1;rw[h2at j hj']at h2
    rcases hf0.fresh b (hwr3 b ⟨j,h2⟩)with q|q
    ·obtain⟨i,hi,q⟩:=hw1 b q
     exact absurd (hs.inj _ _ b q h1) (ho i (by omega))
    ·have:=(hs.mapOk b ⟨l,h1⟩).1;omega
   ·rw[h2o l ho]at h1;rw[h2o l' ho']at h2
    exact hs.inj l l' b h1 h2
 ·rcases hfr.fresh b hb with q|q
  ·exact hs.sep b q hx
  ·have:=hs.avlt b hx;omega
variable {τ':ZE}{r:AV}
theorem BCall.run (h:BCall P B f τ args r τ')(π:Nat->Nat)(hp:ZCA τ)(hp':ZCA τ')(hj:∀i j,i<τ.length->j<τ.length->π i=π j->i=j)(hx:∀i,τ.length<=i->i<τ'.length->π i=σ.length+(i-τ.length))(hb:bOk π σ 0 τ)(ha:zO.les args' (AV.ren.rens π args))(hs:Sim B m σ w)(hv:RelL B (Av m) m w args' vs):
  Calls P f vs w fun e w'=>∃u m',e=.returned u/\Sim B m' (ZGx π 0 τ' (σ++zD (τ'.length-τ.length) Blk.dead)) w'/\Conc B (Av m') w' m' (r.ren π) u/\Fr m w m' w':=by
 obtain⟨hE,hcτ,hca,hcr,hcτ',hlen,hrun⟩:=h
 have hd:DCall P B f τ args τ'.length (fun r0 τ0=>r0=r/\τ0=τ'):=⟨hE,hcτ,hca,by rintro _ _ ⟨rfl,rfl⟩;exact⟨hcr,hcτ',rfl,hp'⟩,hlen,fun m w vs hs hv=>(hrun m w vs hs hv).mono (by
  rintro e w' ⟨u,m',σ',h1,h2,h3,h4,h5⟩
  exact⟨u,m',σ',_,_,h1,⟨rfl,rfl⟩,h2,h3,h4,h5⟩)⟩
 refine(hd.run π hp hj hx hb ha hs hv).mono ?_
 rintro e w' ⟨u,m',r0,τ0,h1,⟨rfl,rfl⟩,h2,h3,h4⟩
 exact⟨u,m',h1,h2,h3,h4⟩
variable {K:AV->ZE->Prop}
theorem BCall.go (h:BCall P B f τ args r τ')(π:Nat->Nat)(hp:ZCA τ)(hp':ZCA τ')(hj:∀i j,i<τ.length->j<τ.length->π i=π j->i=j)(hx:∀i,τ.length<=i->i<τ'.length->π i=σ.length+(i-τ.length))(hb:bOk π σ 0 τ)(ha:zO.les args' (AV.ren.rens π args)){k:Box K}(hK:K (r.ren π) (ZGx π 0 τ' (σ++zD (τ'.length-τ.length) Blk.dead))):ACall P B f args' σ (hold K k):=
 ⟨h.1,fun m w vs hs hv=>(h.run π hp hp' hj hx hb ha hs hv).mono fun e w' ⟨u,m',h1,h2,h3,h4⟩=>⟨u,_,_,m',h1,hK,h2,h3,h4⟩⟩
theorem BCall.ego (h:BCall P B f τ args r τ')(π:Nat->Nat)(hp:ZCA τ)(hp':ZCA τ')(hj:∀i j,i<τ.length->j<τ.length->π i=π j->i=j)(hx:∀i,τ.length<=i->i<τ'.length->π i=σ.length+(i-τ.length))(hb:bOk π σ 0 τ)(ha:zO.les args' (AV.ren.rens π args)){k:Box K}(hK:K (r.ren π) (ZGx π 0 τ' (σ++zD (τ'.length-τ.length) Blk.dead))):ECallA P B f args' σ (hold K k):=
 ⟨r.ren π,ZGx π 0 τ' (σ++zD (τ'.length-τ.length) Blk.dead),fun K' hK'=>BCall.go (k:=(.mk:Box K')) h π hp hp' hj hx hb ha hK',hK⟩
theorem Gh.keep {fr:Frm}:Gh B nb N ⟨fr,σ⟩ ⟨fr,σ++[.elems 0 []]⟩:=by
 intro m0 w0 m a w h
 have hfr:Fr m w (m.push .nil) w:=Fr.push h.sim _ (zM _) (fun _ _=>rfl) (fun b hb=>by simp[zQ]at hb) rfl rfl rfl
 have hs:=h.sim.push .nil (.elems 0 []) hfr (fun _ _=>rfl) (fun b hb=>by simp[zQ]at hb) ⟨by simp,by simp,.inl ⟨rfl,rfl⟩⟩
 exact⟨m.push .nil,hs,⟨h.fr.1,fun j=>(h.fr.2 j).mono hfr⟩,h.df,h.step.trans hfr h.ok,h.base,h.ok⟩
variable {b:Box K}
theorem ACall.nilArg (j sz:Nat)(hj:args[j]? =some (.lit (.slice none 0 0)))(h:ACall P B f (args.set j (.own σ.length 0)) (σ++[.elems sz []]) (hold K .mk)):ACall P B f args σ (hold K b):=by
 refine⟨h.1,fun m w vs hs hv=> ?_⟩
 have hfr:Fr m w (m.push .nil) w:=Fr.push hs _ (zM _) (fun _ _=>rfl) (fun b hb=>by simp[zQ]at hb) rfl rfl rfl
 have hs1:=hs.push .nil (.elems sz []) hfr (fun _ _=>rfl) (fun b hb=>by simp[zQ]at hb) ⟨by simp,by simp,.inl ⟨rfl,rfl⟩⟩
 have hn:m.n=σ.length:=hs.n
 refine(h.2 _ w vs hs1 ⟨by simpa using hv.1,fun i x hi=> ?_⟩).mono fun e w' ⟨u,r,σ',m',h1,h2,h3,h4,h5⟩=>⟨u,r,σ',m',h1,h2,h3,h4,hfr.trans h5 hs.mapOk⟩
 by_cases e:j=i
 ·subst e
  rw[zF (zE.1 hj).1]at hi
  obtain rfl:=Option.some.inj hi
  have:=hv.2 j _ hj
  rw[Conc.lit_inv this,←hn]
  exact .ownNil m.n none (by simp[Map.push]) (Map.push_new _ _)
 ·rw[zG e]at hi
  exact(hv.2 i x hi).mono hfr
theorem ECallA.nilArg (j sz:Nat)(hj:args[j]? =some (.lit (.slice none 0 0)))(h:ECallA P B f (args.set j (.own σ.length 0)) (σ++[.elems sz []]) (hold K .mk)):ECallA P B f args σ (hold K b):=by
 obtain⟨r,σ',h1,h2⟩:=h
 exact⟨r,σ',fun K' hK'=>ACall.nilArg (b:=(.mk:Box K')) j sz hj (h1 K' hK'),h2⟩
variable {cs:List AV}
theorem ACall.nilCellO {ot oe:Option TypeId}(l j sz:Nat)(hl:σ[l]? =some (.tcells ot cs))(hj:cs[j]? =some (.lit (.slice none 0 0)))(h:ACall P B f args ((σ.set l (.tcells ot (cs.set j (.own σ.length 0))))++[.telems oe sz []]) (hold K .mk)):ACall P B f args σ (hold K b):=by
 refine⟨h.1,fun m w vs hs0 hv=> ?_⟩
 have hfr:Fr m w (m.push .nil) w:=Fr.push hs0 _ (zM _) (fun _ _=>rfl) (fun b hb=>by simp[zQ]at hb) rfl rfl rfl
 have hs:=hs0.push .nil (.telems oe sz []) hfr (fun _ _=>rfl) (fun b hb=>by simp[zQ]at hb) ⟨by simp,by simp,.inl ⟨rfl,rfl⟩⟩
 have hll:l<σ.length:=(zE.1 hl).1
 have hn:m.n=σ.length:=hs0.n
 refine(h.2 (m.push .nil) w vs ⟨by simpa using hs.n,fun k=> ?_,hs.inj,hs.sep,hs.avlt,hs.tb⟩ ⟨hv.1,fun i x hi=>(hv.2 i x hi).mono hfr⟩).mono fun e w' ⟨u,r,σ',m',h1,h2,h3,h4,h5⟩=>⟨u,r,σ',m',h1,h2,h3,h4,hfr.trans h5 hs0.mapOk⟩
 by_cases e:k=l
 ·subst e
  have hb:=hs.blk k
  rw[zC hll,hl]at hb
  rw[zC (by simpa using hll),zF (by simpa using hll)]
  obtain⟨b,ccs,ty,g1,g2,g3,g4⟩:=hb
  refine⟨b,ccs,ty,g1,g2,by simpa using g3,fun i x hi=> ?_⟩
  by_cases ej:j=i
  ·subst ej
   rw[zF (zE.1 hj).1]at hi
   obtain rfl:=Option.some.inj hi
   obtain⟨y,hy,hc⟩:=g4 j _ hj
   refine⟨y,hy,?_⟩
   rw[Conc.lit_inv hc,←hn]
   exact .ownNil m.n none (by simp[Map.push]) (Map.push_new _ _)
  ·rw[zG ej]at hi
   exact g4 i x hi
 ·have hb:=hs.blk k
  have:((σ.set l (.tcells ot (cs.set j (.own σ.length 0))))++[.telems oe sz []])[k]? =(σ++[Blk.telems oe sz []])[k]? :=by
   by_cases hk:k<σ.length
   ·rw[zC (by simpa using hk),zC hk,zG (Ne.symm e)]
   ·rw[zI (by simpa using hk),zI (by omega)];simp
  rw[this];exact hb
theorem ACall.nilCell (l j sz:Nat)(hl:σ[l]? =some (.cells cs))(hj:cs[j]? =some (.lit (.slice none 0 0)))(h:ACall P B f args ((σ.set l (.cells (cs.set j (.own σ.length 0))))++[.elems sz []]) (hold K .mk)):ACall P B f args σ (hold K b):=ACall.nilCellO l j sz hl hj h
theorem BCall.enter {fn:Func}{c:Code}{st0:ASt}(hf:P.funcs[f]? =some fn)(hn:(fn.name== "runtime.NumGoroutine")=false)(hb:fn.body=some c)(hN:fn.ntmps=N)(hargs:args.length<=N)(hτ:τ.length=n)(h1:Zu τ.length τ)(h2:zN.closeds τ.length args)(h3:r.closed τ'.length)(h4:Zu τ'.length τ')(h5:τ.length<=τ'.length)(hg:Gh B n N ⟨ZBR 0 args,τ⟩ st0)(h:awp P B n N c st0 (hold (ZLK P fn (hold (fun r' σ'=>r'.le r/\ZGD σ' τ') .mk)) .mk)):BCall P B f τ args r τ':=by
 refine⟨⟨fn,hf,hn,by rw[hb];rfl⟩,h1,h2,h3,h4,h5,fun m w vs hs hv=>calls_of_wp hf hb ?_⟩
 subst hN hτ
 have hsim0:ASim B τ.length fn.ntmps m w ⟨ZBR 0 args,τ⟩ m ⟨vs++Array.replicate (fn.ntmps-vs.size) undef,[]⟩ w:=
  ⟨hs,ZAU hv hargs,rfl,Fr.refl m w,hs.n,hs.mapOk⟩
 obtain⟨m1,hsim1⟩:=hg _ _ _ _ _ hsim0
 refine wp_mono (ZY c _ _ h m w m1 _ w hsim1) ?_
 rintro e a' w' ⟨st',m',hq,hs'⟩
 have fin:∀(hq:ZBp P st'.σ st'.fr fn.results.toList fun xs=>(pack xs).le r/\ZGD st'.σ τ'),
   a'.defers=[]/\∃v,(results fn a'.tmps).run P w'=.ok v w'/\∃u m'' σ',Ending.returned v=.returned u/\ZGD σ' τ'/\Sim B m'' σ' w'/\Conc B (Av m'') w' m'' r u/\Fr m w m'' w':=by
  intro hq
  obtain⟨xs,u,⟨hle,hst⟩,hrun,hc⟩:=ZU hs' hq
  exact⟨hs'.df,u,hrun,u,m',_,rfl,hst,hs'.sim,hc.le hle,hs'.step⟩
 cases e with
 |normal=>exact fin hq
 |ret=>exact fin hq
 |_=>exact hq.elim
theorem MutCall.enterG {fn:Func}{c:Code}{cs':List AV}{st0:ASt}(hf:P.funcs[f]? =some fn)(hn:(fn.name== "runtime.NumGoroutine")=false)(hb:fn.body=some c)(hN:fn.ntmps=N)(hargs:args.length<=N)(hr:r.pure)(hp:zP.pures cs)(hp':zP.pures cs')(hg:Gh B 1 N ⟨ZBR 0 args,[.cells cs]⟩ st0)(h:awp P B 1 N c st0 (hold (ZAR P fn fun r' σ'=>r'.le r/\ZBP σ' cs') .mk)):MutCall P B f cs args r cs':=by
 refine⟨⟨fn,hf,hn,by rw[hb];rfl⟩,hr,hp,hp',fun m w vs hs hv=>calls_of_wp hf hb ?_⟩
 subst hN
 have hsim0:ASim B 1 fn.ntmps m w ⟨ZBR 0 args,[.cells cs]⟩ m ⟨vs++Array.replicate (fn.ntmps-vs.size) undef,[]⟩ w:=
  ⟨hs,ZAU hv hargs,rfl,Fr.refl m w,hs.n,hs.mapOk⟩
 obtain⟨m1,hsim1⟩:=hg _ _ _ _ _ hsim0
 refine wp_mono (ZY c _ _ h m w m1 _ w hsim1) ?_
 rintro e a' w' ⟨st',m',hq,hs'⟩
 have fin:∀(hq:ZBp P st'.σ st'.fr fn.results.toList fun xs=>ZJh st'.σ (pack xs) fun r' σ'=>r'.le r/\ZBP σ' cs'),
   a'.defers=[]/\∃v,(results fn a'.tmps).run P w'=.ok v w'/\∃u m'' σ',Ending.returned v=.returned u/\ZBP σ' cs'/\Sim B m'' σ' w'/\Conc B (Av m'') w' m'' r u/\Fr m w m'' w':=by
  intro hq
  obtain⟨xs,u,hK,hrun,hc⟩:=ZU hs' hq
  obtain⟨r',σ',m'',⟨hle,hm⟩,hs2,hf2,hc2⟩:=ZA9 hs'.sim hK hc
  exact⟨hs'.df,u,hrun,u,m'',σ',rfl,hm,hs2,hc2.le hle,hs'.step.trans hf2 hs.mapOk⟩
 cases e with
 |normal=>exact fin hq
 |ret=>exact fin hq
 |_=>exact hq.elim
end
def pl (l:List Nat)(i:Nat):Nat:=l.getD i 0
theorem ZEk (l:List Nat){n:Nat}(hn:l.length=n)(hd:l.Nodup):∀i j,i<n->j<n->pl l i=pl l j->i=j:=by
 intro i j hi hj e
 subst hn
 unfold pl at e
 rw[zJ,zJ,zB hi,zB hj]at e
 exact(List.getElem_inj hd).1 e
attribute [simp] AV.ren AV.ren.rens Blk.ren ZGx bOk ZCA pl
end Go.Vl
