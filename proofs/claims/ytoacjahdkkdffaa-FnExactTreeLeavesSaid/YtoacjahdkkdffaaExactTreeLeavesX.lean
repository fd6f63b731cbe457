/-
  PROVED HERE: laws.FnExactTreeLeaves returns true for all arguments, and what it was given reads behind the call as it read before.
  Conditions: none.
-/
import Derived.Test.YtoacjahdkkdffaaRows
import Derived.Test.YtoacjahdkkdffaaExactTreeLeavesC
import Derived.Test.YtoacjahdkkdffaaExactTreeLeavesL
namespace Go.Proofs.Ytoacjahdkkdffaa
open Go Go.Proofs Go.Vl Go.ChangeShapes Go.WideShapes Go.ChangeAt Go.RowKit

def Try.rep : List (TypeId × DTy) := [(3, .int), (22, .list (.named 12)), (23, .list .int), (24, .list (.named 13)), (25, .list (.named 14)), (27, .named 14), (113, .named 12), (116, .named 13)]

theorem Try.repOk : repB Try.prog Try.rep = true := by kernel_rfl

theorem Try.own : ownKnob Try.prog.godebug = none := by kernel_rfl
theorem Try.laidOut : laidOutB Try.prog = true := by kernel_rfl
theorem Try.tys : tyB Try.prog [3, 22, 23, 24, 25, 27, 113, 116] = true := by kernel_rfl

set_option maxRecDepth 100000 in
theorem law_args (xs : List AV) (h : TypedArgs Try.prog Try.f6.params.toList xs) : PureCall Try.prog BIG 6 xs (.lit (.bool true)) := by
  rw [Try.params6] at h
  simp only [TypedArgs] at h
  obtain ⟨x0, r0, rfl, h0, rfl⟩ := h
  simp only [TypedArg, Try.underlying27] at h0
  obtain ⟨n0, as0, rfl, g0⟩ := h0
  obtain ⟨d0, rfl, i0⟩ := Is.of_typed Try.repOk n0 27 (.named 14) as0 rfl g0
  obtain ⟨v0, c0, o0⟩ := Tree.open d0 i0
  rw [← c0, Tree.c_eq]
  exact C.laws_FnExactTreeLeaves BIG (by decide) (by decide) v0 true (P.FnExactTreeLeaves v0 o0)

set_option maxRecDepth 100000 in
theorem lifted (os : Os) (started : os.Started) (H : Type) (enc : TypeId × Value → H) :
    ReturnsInHanded {} Try.checked os 6 .any (Rows.fnExactTreeLeavesSpec.pre6 enc Try.prog Try.f6 Rows.fnExactTreeLeavesRow.domain false) (Rows.fnExactTreeLeavesSpec.post enc Try.prog Try.f6 false true false false) := by
  refine returnsInHanded_of_change (C := Try.checked) Try.own started (by kernel_rfl) Try.func6
    (ChangeSpec.witness6 (enc := enc) (C := Try.checked) false ⟨#[], #[.agg #[.int .i64 0, .int .i64 0, .slice none 0 0, .slice none 0 0, .slice none 0 0, .slice none 0 0]], []⟩ 8 (by kernel_rfl) (by kernel_rfl) (by kernel_rfl) (by kernel_rfl)) ?_
  intro W base args ds gs before hval hW _ _
  refine law_any (tb := 4) Try.laidOut Try.tys (of_decide_eq_true (by kernel_rfl)) (by kernel_rfl) (by kernel_rfl) rfl ?_ law_args hval hW
  intro ds hds
  rw [Try.params6] at hds
  match ds, hds with
  | [d0], _ => rfl

theorem FnExactTreeLeaves_holds : Rows.FnExactTreeLeavesSaid :=
  OpenClaim.holds_of_wide 6 Try.f6 rfl rfl rfl rfl rfl rfl rfl ⟨rfl, rfl, rfl, rfl, rfl⟩ rfl rfl rfl rfl rfl (by kernel_rfl) Try.func6 (by kernel_rfl)
    (of_decide_eq_true (by kernel_rfl)) (by unfold Func.isWrapper; rw [if_neg (of_decide_eq_false (by kernel_rfl))]; exact ⟨rfl, rfl⟩)
    (fun os started H enc _ => lifted os started H enc)
end Go.Proofs.Ytoacjahdkkdffaa
