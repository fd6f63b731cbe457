/-
  PROVED HERE: laws.FnExactShareTree returns true for all arguments, and what it was given reads behind the call as it read before.
  Conditions: none.
-/
import Derived.Test.YtbibfeagkocjlaaRows
import Derived.Test.YtbibfeagkocjlaaExactShareTreeC
import Derived.Test.YtbibfeagkocjlaaExactShareTreeL
namespace Go.Proofs.Ytbibfeagkocjlaa
open Go Go.Proofs Go.Vl Go.ChangeShapes Go.WideShapes Go.ChangeAt Go.RowKit
def Try.rep :List (TypeId×DTy):=[(3,.int),(22,.list (.named 12)),(23,.list .int),(24,.list (.named 13)),(25,.list (.named 14)),(27,.named 14),(71,.named 12),(74,.named 13)]
theorem Try.repOk :ZMW Try.prog Try.rep=true:=by kernel_rfl
theorem Try.own :ownKnob Try.prog.godebug=none:=by kernel_rfl
theorem Try.laidOut :laidOutB Try.prog=true:=by kernel_rfl
theorem Try.tys :tyB Try.prog [3,22,23,24,25,27,71,74]=true:=by kernel_rfl
set_option maxRecDepth 100000 in
theorem law_args (xs:List AV)(h:ZBM Try.prog Try.f3.params.toList xs):PureCall Try.prog BIG 3 xs (.lit (.bool true)):=by
  rw[Try.params3]at h
  simp only[ZBM]at h
  obtain⟨x0,r0,rfl,h0,rfl⟩:=h
  simp only[ZBT,Try.underlying27]at h0
  obtain⟨n0,as0,rfl,g0⟩:=h0
  obtain⟨d0,rfl,i0⟩:=Is.of_typed Try.repOk n0 27 (.named 14) as0 rfl g0
  obtain⟨v0,c0,o0⟩:=Tree.open d0 i0
  rw[←c0,Tree.c_eq]
  exact C.f100 BIG (by decide) (by decide) v0 true (P.FnExactShareTree v0 o0)
set_option maxRecDepth 100000 in
theorem lifted (os : Os) (started : os.Started) (H : Type) (enc : TypeId × Value → H) :
    ReturnsInHanded {} Try.checked os 3 .any (Rows.fnExactShareTreeSpec.pre6 enc Try.prog Try.f3 Rows.fnExactShareTreeRow.domain false) (Rows.fnExactShareTreeSpec.post enc Try.prog Try.f3 false true false false):=by
  refine returnsInHanded_of_change (C:=Try.checked) Try.own started (by kernel_rfl) Try.func3
    (ChangeSpec.witness6 (enc:=enc) (C:=Try.checked) false ⟨#[],#[.agg #[.int .i64 0,.int .i64 0,.slice none 0 0,.slice none 0 0,.slice none 0 0,.slice none 0 0]],[]⟩ 8 (by kernel_rfl) (by kernel_rfl) (by kernel_rfl) (by kernel_rfl)) ?_
  intro W base args ds gs before hval hW _ _
  refine law_any (tb:=4) Try.laidOut Try.tys (of_decide_eq_true (by kernel_rfl)) (by kernel_rfl) (by kernel_rfl) rfl ?_ law_args hval hW
  intro ds hds
  rw[Try.params3]at hds
  match ds,hds with
  | [d0],_=>rfl
theorem FnExactShareTree_holds :Rows.FnExactShareTreeSaid:=
  OpenClaim.holds_of_wide 3 Try.f3 rfl rfl rfl rfl rfl rfl rfl ⟨rfl,rfl,rfl,rfl,rfl⟩ rfl rfl rfl rfl rfl (by kernel_rfl) Try.func3 (by kernel_rfl)
    (of_decide_eq_true (by kernel_rfl)) (by unfold Func.isWrapper;rw[if_neg (of_decide_eq_false (by kernel_rfl))];exact⟨rfl,rfl⟩)
    (fun os started H enc _=>lifted os started H enc)
end Go.Proofs.Ytbibfeagkocjlaa
