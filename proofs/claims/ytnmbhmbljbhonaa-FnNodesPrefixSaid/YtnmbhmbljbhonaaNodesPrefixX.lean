/-
  PROVED HERE: laws.FnNodesPrefix returns true for all arguments, and what it was given reads behind the call as it read before.
  Conditions: none.
-/
import Derived.Test.YtnmbhmbljbhonaaRows
import Derived.Test.YtnmbhmbljbhonaaNodesPrefixC
import Derived.Test.YtnmbhmbljbhonaaNodesPrefixL
namespace Go.Proofs.Ytnmbhmbljbhonaa
open Go Go.Proofs Go.Vl Go.ChangeShapes Go.WideShapes Go.ChangeAt Go.RowKit
def Try.rep :List (TypeId×DTy):=[]
theorem Try.repOk :ZO7 Try.prog Try.rep=true:=by kernel_rfl
theorem Try.own :ownKnob Try.prog.godebug=none:=by kernel_rfl
theorem Try.laidOut :laidOutB Try.prog=true:=by kernel_rfl
theorem Try.tys :tyB Try.prog [5,22]=true:=by kernel_rfl
set_option maxRecDepth 100000 in
theorem law_args (xs:List AV)(h:ZBF Try.prog Try.f4.params.toList xs):PureCall Try.prog BIG 4 xs (.lit (.bool true)):=by
  rw[Try.params4]at h
  simp only[ZBF]at h
  obtain⟨x0,r0,rfl,h0,x1,r1,rfl,h1,rfl⟩:=h
  simp only[ZA3,Try.underlying22]at h0
  obtain⟨n0,g0⟩:=h0
  obtain⟨v0,e0,o0⟩:=ZDm Try.underlying22 Try.underlying5 g0
  cases e0
  simp only[ZA3,Try.underlying22]at h1
  obtain⟨n1,g1⟩:=h1
  obtain⟨v1,e1,o1⟩:=ZDm Try.underlying22 Try.underlying5 g1
  cases e1
  exact C.f182 BIG (by decide) (by decide) v0 v1 true (P.FnNodesPrefix v0 v1 o0 o1)
set_option maxRecDepth 100000 in
theorem lifted (os : Os) (started : os.Started) (H : Type) (enc : TypeId × Value -> H) :
    ReturnsInHanded {} Try.checked os 4 .any (Rows.fnNodesPrefixSpec.pre6 enc Try.prog Try.f4 Rows.fnNodesPrefixRow.domain false) (Rows.fnNodesPrefixSpec.post enc Try.prog Try.f4 false true false false):=by
  refine returnsInHanded_of_change (C:=Try.checked) Try.own started (by kernel_rfl) Try.func4
    (ChangeSpec.witness6 (enc:=enc) (C:=Try.checked) false ⟨#[],#[.slice none 0 0,.slice none 0 0],[]⟩ 8 (by kernel_rfl) (by kernel_rfl) (by kernel_rfl) (by kernel_rfl)) ?_
  intro W base args ds gs before hval hW _ _
  refine law_any (tb:=4) Try.laidOut Try.tys (of_decide_eq_true (by kernel_rfl)) (by kernel_rfl) (by kernel_rfl) rfl ?_ law_args hval hW
  intro ds hds
  rw[Try.params4]at hds
  match ds,hds with
  | [d0,d1],_=>rfl
theorem FnNodesPrefix_holds :Rows.FnNodesPrefixSaid:=
  OpenClaim.holds_of_wide 4 Try.f4 rfl rfl rfl rfl rfl rfl rfl ⟨rfl,rfl,rfl,rfl,rfl⟩ rfl rfl rfl rfl rfl (by kernel_rfl) Try.func4 (by kernel_rfl)
    (of_decide_eq_true (by kernel_rfl)) (by unfold Func.isWrapper;rw[if_neg (of_decide_eq_false (by kernel_rfl))];exact⟨rfl,rfl⟩)
    (fun os started H enc _=>lifted os started H enc)
end Go.Proofs.Ytnmbhmbljbhonaa
