/-
  PROVED HERE: laws.FnExactExprOf returns true for all arguments, and what it was given reads behind the call as it read before.
  Conditions: none.
-/
import Derived.Test.YtelglbenbnkjmaaRows
import Derived.Test.YtelglbenbnkjmaaExactExprOfC
import Derived.Test.YtelglbenbnkjmaaExactExprOfL
namespace Go.Proofs.Ytelglbenbnkjmaa
open Go Go.Proofs Go.Vl Go.ChangeShapes Go.WideShapes Go.ChangeAt Go.RowKit

def Try.rep : List (TypeId × DTy) := [(3, .int), (9, .str), (22, .list (.named 2)), (26, .named 0), (80, .list (.named 3)), (82, .named 3), (103, .list (.named 1)), (105, .named 2), (215, .list (.named 0)), (217, .named 1)]

theorem Try.repOk : repB Try.prog Try.rep = true := by kernel_rfl

theorem Try.own : ownKnob Try.prog.godebug = none := by kernel_rfl
theorem Try.laidOut : laidOutB Try.prog = true := by kernel_rfl
theorem Try.tys : tyB Try.prog [3, 9, 22, 26, 80, 82, 103, 105, 215, 217] = true := by kernel_rfl

set_option maxRecDepth 100000 in
theorem law_args (xs : List AV) (h : TypedArgs Try.prog Try.f7.params.toList xs) : PureCall Try.prog BIG 7 xs (.lit (.bool true)) := by
  rw [Try.params7] at h
  simp only [TypedArgs] at h
  obtain ⟨x0, r0, rfl, h0, x1, r1, rfl, h1, x2, r2, rfl, h2, rfl⟩ := h
  simp only [TypedArg, Try.underlying22] at h0
  obtain ⟨n0, g0⟩ := h0
  obtain ⟨d0, e0, i0⟩ := Is.of_typed Try.repOk n0 22 (.list (.named 2)) _ rfl g0
  obtain ⟨es0, rfl, l0, m0⟩ := i0.list_inv
  obtain ⟨v0, c0, o0⟩ := open_list (c := Data.c) (Q := Data.Ok) m0 l0 (fun k _ hi => Data.open k hi)
  rw [D.cells_list] at e0
  cases e0
  rw [← c0]
  simp only [TypedArg, Try.underlying26] at h1
  obtain ⟨n1, as1, rfl, g1⟩ := h1
  obtain ⟨d1, rfl, i1⟩ := Is.of_typed Try.repOk n1 26 (.named 0) as1 rfl g1
  obtain ⟨v1, c1, o1⟩ := Ty.open d1 i1
  rw [← c1, Ty.c_eq]
  simp only [TypedArg, Try.underlying82] at h2
  obtain ⟨n2, as2, rfl, g2⟩ := h2
  obtain ⟨d2, rfl, i2⟩ := Is.of_typed Try.repOk n2 82 (.named 3) as2 rfl g2
  obtain ⟨v2, c2, o2⟩ := Value.open d2 i2
  rw [← c2, Value.c_eq]
  exact C.laws_FnExactExprOf BIG (by decide) (by decide) v0 v1 v2 true (P.FnExactExprOf v0 v1 v2 o0 o1 o2)

set_option maxRecDepth 100000 in
theorem lifted (os : Os) (started : os.Started) (H : Type) (enc : TypeId × Value → H) :
    ReturnsInHanded {} Try.checked os 7 .any (Rows.fnExactExprOfSpec.pre6 enc Try.prog Try.f7 Rows.fnExactExprOfRow.domain false) (Rows.fnExactExprOfSpec.post enc Try.prog Try.f7 false true false false) := by
  refine returnsInHanded_of_change (C := Try.checked) Try.own started (by kernel_rfl) Try.func7
    (ChangeSpec.witness6 (enc := enc) (C := Try.checked) false ⟨#[], #[.slice none 0 0, .agg #[.int .i64 0, .int .i64 0], .agg #[.int .i64 0, .int .i64 0, .slice none 0 0]], []⟩ 8 (by kernel_rfl) (by kernel_rfl) (by kernel_rfl) (by kernel_rfl)) ?_
  intro W base args ds gs before hval hW _ _
  refine law_any (tb := 4) Try.laidOut Try.tys (of_decide_eq_true (by kernel_rfl)) (by kernel_rfl) (by kernel_rfl) rfl ?_ law_args hval hW
  intro ds hds
  rw [Try.params7] at hds
  match ds, hds with
  | [d0, d1, d2], _ => rfl

theorem FnExactExprOf_holds : Rows.FnExactExprOfSaid :=
  OpenClaim.holds_of_wide 7 Try.f7 rfl rfl rfl rfl rfl rfl rfl ⟨rfl, rfl, rfl, rfl, rfl⟩ rfl rfl rfl rfl rfl (by kernel_rfl) Try.func7 (by kernel_rfl)
    (of_decide_eq_true (by kernel_rfl)) (by unfold Func.isWrapper; rw [if_neg (of_decide_eq_false (by kernel_rfl))]; exact ⟨rfl, rfl⟩)
    (fun os started H enc _ => lifted os started H enc)
end Go.Proofs.Ytelglbenbnkjmaa
