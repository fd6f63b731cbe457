/-
  PROVED HERE: laws.FnTestedParts returns true for all arguments, and what it was given reads behind the call as it read before.
  Conditions: none.
-/
import Derived.Test.YtnockmfobogfpaaGreatRows
import Derived.Test.YtnockmfobogfpaaGreatTestedPartsC
import Derived.Test.YtnockmfobogfpaaGreatTestedPartsL
namespace Go.Proofs.YtnockmfobogfpaaGreat
open Go Go.Proofs Go.Vl Go.ChangeShapes Go.WideShapes Go.ChangeAt Go.RowKit
def Tryz.rep :List (TypeId×DTy):=[]
theorem Tryz.repOk :ZSj Tryz.prog Tryz.rep=true:=by kernel_rfl
theorem Tryz.own :ownKnob Tryz.prog.godebug=none:=by kernel_rfl
theorem Tryz.laidOut :laidOutB Tryz.prog=true:=by kernel_rfl
theorem Tryz.tys :tyB Tryz.prog [5,53]=true:=by kernel_rfl
set_option maxRecDepth 100000 in
theorem law_args (xs:List AV)(h:ZBa Tryz.prog Tryz.f5.params.toList xs):PureCall Tryz.prog BIG 5 xs (.lit (.bool true)):=by
  rw[Tryz.params5]at h
  simp only[ZBa]at h
  obtain⟨x0,r0,rfl,h0,rfl⟩:=h
  simp only[ZBp,Tryz.underlying53]at h0
  obtain⟨n0,g0⟩:=h0
  obtain⟨v0,e0,o0⟩:=ZJP Tryz.underlying53 Tryz.underlying5 g0
  cases e0
  exact C.f254 BIG (by decide) (by decide) v0 true (P.FnTestedParts v0 o0)
set_option maxRecDepth 100000 in
theorem lifted (os : Os) (started : os.Started) (H : Type) (enc : TypeId × Value -> H) :
    ReturnsInHanded {} Tryz.checked os 5 .any (Rows.fnTestedPartsSpec.pre6 enc Tryz.prog Tryz.f5 Rows.fnTestedPartsRow.domain false) (Rows.fnTestedPartsSpec.post enc Tryz.prog Tryz.f5 false true false false):=by
  refine returnsInHanded_of_change (C:=Tryz.checked) Tryz.own started (by kernel_rfl) Tryz.func5
    (ChangeSpec.witness6 (enc:=enc) (C:=Tryz.checked) false ⟨#[],#[.slice none 0 0],[]⟩ 8 (by kernel_rfl) (by kernel_rfl) (by kernel_rfl) (by kernel_rfl)) ?_
  intro W base args ds gs before hval hW _ _
  refine law_any (tb:=4) Tryz.laidOut Tryz.tys (of_decide_eq_true (by kernel_rfl)) (by kernel_rfl) (by kernel_rfl) rfl ?_ law_args hval hW
  intro ds hds
  rw[Tryz.params5]at hds
  match ds,hds with
  | [d0],_=>rfl
theorem FnTestedParts_holds :Rows.FnTestedPartsSaid:=
  OpenClaim.holds_of_wide 5 Tryz.f5 rfl rfl rfl rfl rfl rfl rfl ⟨rfl,rfl,rfl,rfl,rfl⟩ rfl rfl rfl rfl rfl (by kernel_rfl) Tryz.func5 (by kernel_rfl)
    (of_decide_eq_true (by kernel_rfl)) (by unfold Func.isWrapper;rw[iN (of_decide_eq_false (by kernel_rfl))];exact⟨rfl,rfl⟩)
    (fun os started H enc _=>lifted os started H enc)
end Go.Proofs.YtnockmfobogfpaaGreat
