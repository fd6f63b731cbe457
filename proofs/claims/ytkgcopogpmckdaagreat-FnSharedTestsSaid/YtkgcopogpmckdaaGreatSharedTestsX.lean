/-
  PROVED HERE: laws.FnSharedTests returns true for all arguments, and what it was given reads behind the call as it read before.
  Conditions: none.
-/
import Derived.Test.YtkgcopogpmckdaaGreatRows
import Derived.Test.YtkgcopogpmckdaaGreatSharedTestsC
import Derived.Test.YtkgcopogpmckdaaGreatSharedTestsL
namespace Go.Proofs.YtkgcopogpmckdaaGreat
open Go Go.Proofs Go.Vl Go.ChangeShapes Go.WideShapes Go.ChangeAt Go.RowKit
def Tryz.rep :List (TypeId×DTy):=[]
theorem Tryz.repOk :ZPf Tryz.prog Tryz.rep=true:=by kernel_rfl
theorem Tryz.own :ownKnob Tryz.prog.godebug=none:=by kernel_rfl
theorem Tryz.laidOut :laidOutB Tryz.prog=true:=by kernel_rfl
theorem Tryz.tys :tyB Tryz.prog [5,22]=true:=by kernel_rfl
set_option maxRecDepth 100000 in
theorem law_args (xs:List AV)(h:ZBJ Tryz.prog Tryz.f7.params.toList xs):PureCall Tryz.prog BIG 7 xs (.lit (.bool true)):=by
  rw[Tryz.params7]at h
  simp only[ZBJ]at h
  obtain⟨x0,r0,rfl,h0,rfl⟩:=h
  simp only[ZBT,Tryz.underlying22]at h0
  obtain⟨n0,g0⟩:=h0
  obtain⟨v0,e0,o0⟩:=ZHW Tryz.underlying22 Tryz.underlying5 g0
  cases e0
  exact C.f227 BIG (by decide) (by decide) v0 true (P.FnSharedTests v0 o0)
set_option maxRecDepth 100000 in
theorem lifted (os : Os) (started : os.Started) (H : Type) (enc : TypeId × Value -> H) :
    ReturnsInHanded {} Tryz.checked os 7 .any (Rows.fnSharedTestsSpec.pre6 enc Tryz.prog Tryz.f7 Rows.fnSharedTestsRow.domain false) (Rows.fnSharedTestsSpec.post enc Tryz.prog Tryz.f7 false true false false):=by
  refine returnsInHanded_of_change (C:=Tryz.checked) Tryz.own started (by kernel_rfl) Tryz.func7
    (ChangeSpec.witness6 (enc:=enc) (C:=Tryz.checked) false ⟨#[],#[.slice none 0 0],[]⟩ 8 (by kernel_rfl) (by kernel_rfl) (by kernel_rfl) (by kernel_rfl)) ?_
  intro W base args ds gs before hval hW _ _
  refine law_any (tb:=4) Tryz.laidOut Tryz.tys (of_decide_eq_true (by kernel_rfl)) (by kernel_rfl) (by kernel_rfl) rfl ?_ law_args hval hW
  intro ds hds
  rw[Tryz.params7]at hds
  match ds,hds with
  | [d0],_=>rfl
theorem FnSharedTests_holds :Rows.FnSharedTestsSaid:=
  OpenClaim.holds_of_wide 7 Tryz.f7 rfl rfl rfl rfl rfl rfl rfl ⟨rfl,rfl,rfl,rfl,rfl⟩ rfl rfl rfl rfl rfl (by kernel_rfl) Tryz.func7 (by kernel_rfl)
    (of_decide_eq_true (by kernel_rfl)) (by unfold Func.isWrapper;rw[if_neg (of_decide_eq_false (by kernel_rfl))];exact⟨rfl,rfl⟩)
    (fun os started H enc _=>lifted os started H enc)
end Go.Proofs.YtkgcopogpmckdaaGreat
