/-
  PROVED HERE: laws.FnSimplifyPattern returns true for all arguments, and what it was given reads behind the call as it read before.
  Conditions: none.
-/
import Derived.Test.YtoiccjladkadgaaGreatRows
import Derived.Test.YtoiccjladkadgaaGreatSimplifyPatternC
import Derived.Test.YtoiccjladkadgaaGreatSimplifyPatternL
namespace Go.Proofs.YtoiccjladkadgaaGreat
open Go Go.Proofs Go.Vl Go.ChangeShapes Go.WideShapes Go.ChangeAt Go.RowKit
def Tryz.rep :List (TypeId×DTy):=[]
theorem Tryz.repOk :ZQf Tryz.prog Tryz.rep=true:=by kernel_rfl
theorem Tryz.own :ownKnob Tryz.prog.godebug=none:=by kernel_rfl
theorem Tryz.laidOut :laidOutB Tryz.prog=true:=by kernel_rfl
theorem Tryz.tys :tyB Tryz.prog [5,22]=true:=by kernel_rfl
set_option maxRecDepth 100000 in
theorem law_args (xs:List AV)(h:ZBO Tryz.prog Tryz.f4.params.toList xs):PureCall Tryz.prog BIG 4 xs (.lit (.bool true)):=by
  rw[Tryz.params4]at h
  simp only[ZBO]at h
  obtain⟨x0,r0,rfl,h0,x1,r1,rfl,h1,rfl⟩:=h
  simp only[ZA8,Tryz.underlying22]at h0
  obtain⟨n0,g0⟩:=h0
  obtain⟨v0,e0,o0⟩:=ZEG Tryz.underlying22 Tryz.underlying5 g0
  cases e0
  simp only[ZA8,Tryz.underlying22]at h1
  obtain⟨n1,g1⟩:=h1
  obtain⟨v1,e1,o1⟩:=ZEG Tryz.underlying22 Tryz.underlying5 g1
  cases e1
  exact C.f208 BIG (by decide) (by decide) v0 v1 true (P.FnSimplifyPattern v0 v1 o0 o1)
set_option maxRecDepth 100000 in
theorem lifted (os : Os) (started : os.Started) (H : Type) (enc : TypeId × Value -> H) :
    ReturnsInHanded {} Tryz.checked os 4 .any (Rows.fnSimplifyPatternSpec.pre6 enc Tryz.prog Tryz.f4 Rows.fnSimplifyPatternRow.domain false) (Rows.fnSimplifyPatternSpec.post enc Tryz.prog Tryz.f4 false true false false):=by
  refine returnsInHanded_of_change (C:=Tryz.checked) Tryz.own started (by kernel_rfl) Tryz.func4
    (ChangeSpec.witness6 (enc:=enc) (C:=Tryz.checked) false ⟨#[],#[.slice none 0 0,.slice none 0 0],[]⟩ 8 (by kernel_rfl) (by kernel_rfl) (by kernel_rfl) (by kernel_rfl)) ?_
  intro W base args ds gs before hval hW _ _
  refine law_any (tb:=4) Tryz.laidOut Tryz.tys (of_decide_eq_true (by kernel_rfl)) (by kernel_rfl) (by kernel_rfl) rfl ?_ law_args hval hW
  intro ds hds
  rw[Tryz.params4]at hds
  match ds,hds with
  | [d0,d1],_=>rfl
theorem FnSimplifyPattern_holds :Rows.FnSimplifyPatternSaid:=
  OpenClaim.holds_of_wide 4 Tryz.f4 rfl rfl rfl rfl rfl rfl rfl ⟨rfl,rfl,rfl,rfl,rfl⟩ rfl rfl rfl rfl rfl (by kernel_rfl) Tryz.func4 (by kernel_rfl)
    (of_decide_eq_true (by kernel_rfl)) (by unfold Func.isWrapper;rw[if_neg (of_decide_eq_false (by kernel_rfl))];exact⟨rfl,rfl⟩)
    (fun os started H enc _=>lifted os started H enc)
end Go.Proofs.YtoiccjladkadgaaGreat
