/-
  PROVED HERE: laws.FnExactEmptyPattern returns true for all arguments, and what it was given reads behind the call as it read before.
  Conditions: none.
-/
import Derived.Test.YtmjpphcloedceaaRows
import Derived.Test.YtmjpphcloedceaaExactEmptyPatternC
import Derived.Test.YtmjpphcloedceaaExactEmptyPatternL
namespace Go.Proofs.Ytmjpphcloedceaa
open Go Go.Proofs Go.Vl Go.ChangeShapes Go.WideShapes Go.ChangeAt Go.RowKit
def Try.rep :List (TypeId×DTy):=[(3,.int),(9,.str),(22,.list (.named 2)),(24,.named 0),(25,.list (.named 4)),(27,.named 4),(43,.list (.named 1)),(45,.named 2),(76,.list (.named 0)),(78,.named 1)]
theorem Try.repOk :ZMV Try.prog Try.rep=true:=by kernel_rfl
theorem Try.own :ownKnob Try.prog.godebug=none:=by kernel_rfl
theorem Try.laidOut :laidOutB Try.prog=true:=by kernel_rfl
theorem Try.tys :tyB Try.prog [3,9,22,24,25,27,43,45,76,78]=true:=by kernel_rfl
set_option maxRecDepth 100000 in
theorem law_args (xs:List AV)(h:ZBG Try.prog Try.f3.params.toList xs):PureCall Try.prog BIG 3 xs (.lit (.bool true)):=by
  rw[Try.params3]at h
  simp only[ZBG]at h
  obtain⟨x0,r0,rfl,h0,x1,r1,rfl,h1,x2,r2,rfl,h2,rfl⟩:=h
  simp only[ZAe,Try.underlying22]at h0
  obtain⟨n0,g0⟩:=h0
  obtain⟨d0,e0,i0⟩:=Is.of_typed Try.repOk n0 22 (.list (.named 2)) _ rfl g0
  obtain⟨es0,rfl,l0,m0⟩:=i0.list_inv
  obtain⟨v0,c0,o0⟩:=ZV (c:=Data.c) (Q:=Data.Ok) m0 l0 (fun k _ hi=>Data.open k hi)
  rw[D.cells_list]at e0
  cases e0
  rw[←c0]
  simp only[ZAe,Try.underlying24]at h1
  obtain⟨n1,as1,rfl,g1⟩:=h1
  obtain⟨d1,rfl,i1⟩:=Is.of_typed Try.repOk n1 24 (.named 0) as1 rfl g1
  obtain⟨v1,c1,o1⟩:=Ty.open d1 i1
  rw[←c1,Ty.c_eq]
  simp only[ZAe,Try.underlying27]at h2
  obtain⟨n2,as2,rfl,g2⟩:=h2
  obtain⟨d2,rfl,i2⟩:=Is.of_typed Try.repOk n2 27 (.named 4) as2 rfl g2
  obtain⟨v2,c2,o2⟩:=Pattern.open d2 i2
  rw[←c2,Pattern.c_eq]
  exact C.f146 BIG (by decide) (by decide) v0 v1 v2 true (P.FnExactEmptyPattern v0 v1 v2 o0 o1 o2)
set_option maxRecDepth 100000 in
theorem lifted (os : Os) (started : os.Started) (H : Type) (enc : TypeId × Value -> H) :
    ReturnsInHanded {} Try.checked os 3 .any (Rows.fnExactEmptyPatternSpec.pre6 enc Try.prog Try.f3 Rows.fnExactEmptyPatternRow.domain false) (Rows.fnExactEmptyPatternSpec.post enc Try.prog Try.f3 false true false false):=by
  refine returnsInHanded_of_change (C:=Try.checked) Try.own started (by kernel_rfl) Try.func3
    (ChangeSpec.witness6 (enc:=enc) (C:=Try.checked) false ⟨#[],#[.slice none 0 0,.agg #[.int .i64 0,.int .i64 0],.agg #[.int .i64 0,.int .i64 0,.int .i64 0,.int .i64 0,.int .i64 0,.slice none 0 0]],[]⟩ 8 (by kernel_rfl) (by kernel_rfl) (by kernel_rfl) (by kernel_rfl)) ?_
  intro W base args ds gs before hval hW _ _
  refine law_any (tb:=4) Try.laidOut Try.tys (of_decide_eq_true (by kernel_rfl)) (by kernel_rfl) (by kernel_rfl) rfl ?_ law_args hval hW
  intro ds hds
  rw[Try.params3]at hds
  match ds,hds with
  | [d0,d1,d2],_=>rfl
theorem FnExactEmptyPattern_holds :Rows.FnExactEmptyPatternSaid:=
  OpenClaim.holds_of_wide 3 Try.f3 rfl rfl rfl rfl rfl rfl rfl ⟨rfl,rfl,rfl,rfl,rfl⟩ rfl rfl rfl rfl rfl (by kernel_rfl) Try.func3 (by kernel_rfl)
    (of_decide_eq_true (by kernel_rfl)) (by unfold Func.isWrapper;rw[iN (of_decide_eq_false (by kernel_rfl))];exact⟨rfl,rfl⟩)
    (fun os started H enc _=>lifted os started H enc)
end Go.Proofs.Ytmjpphcloedceaa
