/- A part of the proof. -/
import Derived.Test.YtodkbabdaoeooaaDoorVlOpen
set_option linter.all false
namespace Go.Vl
open Go Go.RowKit Go.ChangeShapes Go.WideShapes
def ZBg (P:Program)(t:TypeId)(x:AV):Prop:=
 match P.underlying t with
 |some (.struct _)=>∃n as,x=.agg as/\ZAZ P n t as
 |_=>∃n,ZAZ P n t [x]
def ZBW (P:Program):List TypeId->List AV->Prop
 | [],xs=>xs=[]
 |t::ts,xs=>∃x r,xs=x::r/\ZBg P t x/\ZBW P ts r
def ZPx (P:Program)(L:List TypeId)(t:TypeId):Bool:=P.readableRec t&& decide (t<P.types.size)&& L.contains t&& match P.underlying t with
 |some .bool|some (.int _)|some .string|some (.slice _)|some (.pointer _)|some (.struct _)=>true
 |_=>false
section
variable {H : Type} {enc : TypeId × Value -> H} {P : Program}
theorem ZMa {v:Value}{x:AV}{w:World}{as:List AV}(hv:v.cells=#[v])(h:Rl w as v.cells.toList)(has:as=[x]):Conc BIG (fun _=>False) w M0 x v:=by
 subst has
 rw[hv]at h
 simpa using h.2 0 x rfl
theorem ZMY {L:List TypeId}(hty:tyB P L=true){w:World}{spare:Nat->Bool}{held:Bool}{t:TypeId}{v:Value}{d:DataW H}{ps:List MemPlace}{base:Nat}(ht:ZPx P L t=true)
  (hval:Value.okWide P w .any base t v) (h:DataW.Trod enc P w 0 spare held t v d ps):∃x,Conc BIG (fun _=>False) w M0 x v/\ZBg P t x:=by
 obtain⟨fuel,h⟩:=h
 simp only[ZPx,Bool.and_eq_true,decide_eq_true_eq]at ht
 obtain⟨⟨⟨_,_⟩,hlt⟩,hk⟩:=ht
 obtain⟨as,hr,hta⟩:=ZFX hty fuel t _ _ hlt h
 have one:(hv:v.cells=#[v])->(∃x,as=[x])->(∀fs,P.underlying t≠some (.struct fs))->∃x,Conc BIG (fun _=>False) w M0 x v/\ZBg P t x:=by
  rintro hv ⟨x,rfl⟩ hns
  refine⟨x,ZMa hv hr rfl,?_⟩
  unfold ZBg
  split
  ·next fs hu=>exact absurd hu (hns fs)
  ·exact⟨fuel,hta⟩
 have ZPt:∀hv:v.cells=#[v],∃x,as=[x]:=by
  intro hv
  have:=hr.1
  rw[hv]at this
  exact List.length_eq_one_iff.1 (by simpa using this)
 cases hu:P.underlying t with
 |none=>rw[hu]at hk;cases hk
 |some dsc=>
  cases dsc with
  |bool=>obtain⟨b,rfl⟩:=okWide_bool hu hval;exact one rfl (ZPt rfl) (by simp[hu])
  |int k=>obtain⟨b,rfl⟩:=okWide_int hu hval;exact one rfl (ZPt rfl) (by simp[hu])
  |string=>obtain⟨b,rfl⟩:=okWide_string hu hval;exact one rfl (ZPt rfl) (by simp[hu])
  |slice e=>obtain⟨_,_,_,rfl⟩:=okWide_slice hu hval;exact one rfl (ZPt rfl) (by simp[hu])
  |pointer e=>obtain⟨_,rfl⟩:=okWide_pointer hu hval;exact one rfl (ZPt rfl) (by simp[hu])
  |struct fs=>
   obtain⟨cs,rfl,hsz⟩:=okWide_struct hu hval
   refine⟨.agg as,.agg as cs (by have:=hr.1;simpa[Value.cells]using this.symm) (fun i x hx=> ?_),?_⟩
   ·have:=hr.2 i x hx
    simpa[Value.cells,Array.getD_eq_getD_getElem?,List.getD_eq_getElem?_getD]using this
   ·unfold ZBg;rw[hu];exact⟨fuel,as,rfl,hta⟩
  |_=>rw[hu]at hk;cases hk
theorem ZGS {L:List TypeId}(hty:tyB P L=true){w:World}{spare:Nat->Bool}{held:Bool}{base:Nat}:∀(ts:List TypeId) (vs:List Value) (ds:List (DataW H)) (ps:List MemPlace),
  (∀t,t∈ts->ZPx P L t=true)->(∀(j:Nat) t v,ts[j]? =some t->vs[j]? =some v->Value.okWide P w .any base t v)->DataW.TrodAll enc P w 0 spare held ts vs ds ps->
  ∃xs:List AV,vs.length=xs.length/\(∀(i:Nat) (x:AV),xs[i]? =some x->Conc BIG (fun _=>False) w M0 x (vs.getD i undef))/\ZBW P ts xs/\ds.length=ts.length
 | [],vs,ds,ps,_,_,h=>by
  cases vs<;>cases ds<;>simp[DataW.TrodAll]at h
  exact⟨[],rfl,fun i x hi=>by simp at hi,rfl,rfl⟩
 |t::ts,vs,ds,ps,ht,hval,h=>by
  cases vs with
  |nil=>simp[DataW.TrodAll]at h
  |cons v vs=>
   cases ds with
   |nil=>simp[DataW.TrodAll]at h
   |cons d ds=>
    simp only[DataW.TrodAll]at h
    obtain⟨p,q,h1,h2,_⟩:=h
    obtain⟨x,hx,htx⟩:=ZMY hty (ht t (by simp)) (hval 0 t v rfl rfl) h1
    obtain⟨xs,hl,hc,hta,hdl⟩:=ZGS hty ts vs ds q (fun t h=>ht t (by simp[h])) (fun j t v h3 h4=>hval (j+1) t v (by simpa using h3) (by simpa using h4)) h2
    refine⟨x::xs,by simp[hl],fun i y hi=> ?_,⟨x,xs,rfl,htx,hta⟩,by simp[hdl]⟩
    cases i with
    |zero=>simp at hi;subst hi;exact hx
    |succ i=>exact hc i y (by simpa using hi)
theorem ZCY {L:List TypeId}(hl:laidOutB P=true){W W':World}(hb:Below W.heap.size W W'):∀{ts:List TypeId} {vs:List Value} {ds:List (DataW H)} {ps:List MemPlace},(∀t,t∈ts->ZPx P L t=true)->
  DataW.TrodAll enc P W 0 (fun _=>true) true ts vs ds ps->(∀x,x∈ps->x.block<W.heap.size)->DataW.TrodAll enc P W' 0 (fun b=>decide (b<W.heap.size)) true ts vs ds ps
 | [],vs,ds,ps,_,h,_=>by
  cases vs<;>cases ds<;>simp[DataW.TrodAll]at h ⊢
  exact h
 |t::ts,vs,ds,ps,ht,h,hlt=>by
  cases vs with
  |nil=>simp[DataW.TrodAll]at h
  |cons v vs=>
   cases ds with
   |nil=>simp[DataW.TrodAll]at h
   |cons d ds=>
    simp only[DataW.TrodAll]at h ⊢
    obtain⟨p,q,h1,h2,rfl⟩:=h
    have hk:=ht t (by simp)
    simp only[ZPx,Bool.and_eq_true,decide_eq_true_eq]at hk
    exact⟨p,q,Below.trod hl hk.1.1.1 hk.1.1.2 h1 hb (fun x hx=>hlt x (by simp[hx])),ZCY hl hb (fun t h=>ht t (by simp[h])) h2 (fun x hx=>hlt x (by simp[hx])),rfl⟩
end
end Go.Vl
