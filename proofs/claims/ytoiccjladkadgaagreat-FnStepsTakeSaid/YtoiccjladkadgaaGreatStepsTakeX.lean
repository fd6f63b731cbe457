/-
  PROVED HERE: laws.FnStepsTake returns true for all arguments, and what it was given reads behind the call as it read before.
  Conditions: none.
-/
import Derived.Test.YtoiccjladkadgaaGreatRows
import Derived.Test.YtoiccjladkadgaaGreatStepsTakeC
import Derived.Test.YtoiccjladkadgaaGreatStepsTakeL
namespace Go.Proofs.YtoiccjladkadgaaGreat
open Go Go.Proofs Go.Vl Go.ChangeShapes Go.WideShapes Go.ChangeAt Go.RowKit
def Tryz.rep :List (TypeId×DTy):=[]
theorem Tryz.repOk :ZPq Tryz.prog Tryz.rep=true:=by kernel_rfl
theorem Tryz.own :ownKnob Tryz.prog.godebug=none:=by kernel_rfl
theorem Tryz.laidOut :laidOutB Tryz.prog=true:=by kernel_rfl
theorem Tryz.tys :tyB Tryz.prog [5,22]=true:=by kernel_rfl
set_option maxRecDepth 100000 in
theorem law_args (xs:List AV)(h:ZBI Tryz.prog Tryz.f3.params.toList xs):PureCall Tryz.prog BIG 3 xs (.lit (.bool true)):=by
  rw[Tryz.params3]at h
  simp only[ZBI]at h
  obtain⟨x0,r0,rfl,h0,rfl⟩:=h
  simp only[ZBS,Tryz.underlying22]at h0
  obtain⟨n0,g0⟩:=h0
  obtain⟨v0,e0,o0⟩:=ZH2 Tryz.underlying22 Tryz.underlying5 g0
  cases e0
  exact C.f209 BIG (by decide) (by decide) v0 true (P.FnStepsTake v0 o0)
set_option maxRecDepth 100000 in
theorem lifted (os : Os) (started : os.Started) (H : Type) (enc : TypeId × Value -> H) :
    ReturnsInHanded {} Tryz.checked os 3 .any (Rows.fnStepsTakeSpec.pre6 enc Tryz.prog Tryz.f3 Rows.fnStepsTakeRow.domain false) (Rows.fnStepsTakeSpec.post enc Tryz.prog Tryz.f3 false true false false):=by
  refine returnsInHanded_of_change (C:=Tryz.checked) Tryz.own started (by kernel_rfl) Tryz.func3
    (ChangeSpec.witness6 (enc:=enc) (C:=Tryz.checked) false ⟨#[],#[.slice none 0 0],[]⟩ 8 (by kernel_rfl) (by kernel_rfl) (by kernel_rfl) (by kernel_rfl)) ?_
  intro W base args ds gs before hval hW _ _
  refine law_any (tb:=4) Tryz.laidOut Tryz.tys (of_decide_eq_true (by kernel_rfl)) (by kernel_rfl) (by kernel_rfl) rfl ?_ law_args hval hW
  intro ds hds
  rw[Tryz.params3]at hds
  match ds,hds with
  | [d0],_=>rfl
theorem FnStepsTake_holds :Rows.FnStepsTakeSaid:=
  OpenClaim.holds_of_wide 3 Tryz.f3 rfl rfl rfl rfl rfl rfl rfl ⟨rfl,rfl,rfl,rfl,rfl⟩ rfl rfl rfl rfl rfl (by kernel_rfl) Tryz.func3 (by kernel_rfl)
    (of_decide_eq_true (by kernel_rfl)) (by unfold Func.isWrapper;rw[if_neg (of_decide_eq_false (by kernel_rfl))];exact⟨rfl,rfl⟩)
    (fun os started H enc _=>lifted os started H enc)
end Go.Proofs.YtoiccjladkadgaaGreat
