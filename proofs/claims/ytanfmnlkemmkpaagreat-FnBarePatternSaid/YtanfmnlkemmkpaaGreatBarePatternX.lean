/-
  PROVED HERE: laws.FnBarePattern returns true for all arguments, and what it was given reads behind the call as it read before.
  Conditions: none.
-/
import Derived.Test.YtanfmnlkemmkpaaGreatRows
import Derived.Test.YtanfmnlkemmkpaaGreatBarePatternC
import Derived.Test.YtanfmnlkemmkpaaGreatBarePatternL
namespace Go.Proofs.YtanfmnlkemmkpaaGreat
open Go Go.Proofs Go.Vl Go.ChangeShapes Go.WideShapes Go.ChangeAt Go.RowKit
def Tryz.rep :List (TypeId×DTy):=[]
theorem Tryz.repOk :ZQE Tryz.prog Tryz.rep=true:=by kernel_rfl
theorem Tryz.own :ownKnob Tryz.prog.godebug=none:=by kernel_rfl
theorem Tryz.laidOut :laidOutB Tryz.prog=true:=by kernel_rfl
theorem Tryz.tys :tyB Tryz.prog [5,22]=true:=by kernel_rfl
set_option maxRecDepth 100000 in
theorem law_args (xs:List AV)(h:ZBJ Tryz.prog Tryz.f3.params.toList xs):PureCall Tryz.prog BIG 3 xs (.lit (.bool true)):=by
  rw[Tryz.params3]at h
  simp only[ZBJ]at h
  obtain⟨x0,r0,rfl,h0,x1,r1,rfl,h1,rfl⟩:=h
  simp only[ZA4,Tryz.underlying22]at h0
  obtain⟨n0,g0⟩:=h0
  obtain⟨v0,e0,o0⟩:=ZEB Tryz.underlying22 Tryz.underlying5 g0
  cases e0
  simp only[ZA4,Tryz.underlying22]at h1
  obtain⟨n1,g1⟩:=h1
  obtain⟨v1,e1,o1⟩:=ZEB Tryz.underlying22 Tryz.underlying5 g1
  cases e1
  exact C.f164 BIG (by decide) (by decide) v0 v1 true (P.FnBarePattern v0 v1 o0 o1)
set_option maxRecDepth 100000 in
theorem lifted (os : Os) (started : os.Started) (H : Type) (enc : TypeId × Value -> H) :
    ReturnsInHanded {} Tryz.checked os 3 .any (Rows.fnBarePatternSpec.pre6 enc Tryz.prog Tryz.f3 Rows.fnBarePatternRow.domain false) (Rows.fnBarePatternSpec.post enc Tryz.prog Tryz.f3 false true false false):=by
  refine returnsInHanded_of_change (C:=Tryz.checked) Tryz.own started (by kernel_rfl) Tryz.func3
    (ChangeSpec.witness6 (enc:=enc) (C:=Tryz.checked) false ⟨#[],#[.slice none 0 0,.slice none 0 0],[]⟩ 8 (by kernel_rfl) (by kernel_rfl) (by kernel_rfl) (by kernel_rfl)) ?_
  intro W base args ds gs before hval hW _ _
  refine law_any (tb:=4) Tryz.laidOut Tryz.tys (of_decide_eq_true (by kernel_rfl)) (by kernel_rfl) (by kernel_rfl) rfl ?_ law_args hval hW
  intro ds hds
  rw[Tryz.params3]at hds
  match ds,hds with
  | [d0,d1],_=>rfl
theorem FnBarePattern_holds :Rows.FnBarePatternSaid:=
  OpenClaim.holds_of_wide 3 Tryz.f3 rfl rfl rfl rfl rfl rfl rfl ⟨rfl,rfl,rfl,rfl,rfl⟩ rfl rfl rfl rfl rfl (by kernel_rfl) Tryz.func3 (by kernel_rfl)
    (of_decide_eq_true (by kernel_rfl)) (by unfold Func.isWrapper;rw[if_neg (of_decide_eq_false (by kernel_rfl))];exact⟨rfl,rfl⟩)
    (fun os started H enc _=>lifted os started H enc)
end Go.Proofs.YtanfmnlkemmkpaaGreat
