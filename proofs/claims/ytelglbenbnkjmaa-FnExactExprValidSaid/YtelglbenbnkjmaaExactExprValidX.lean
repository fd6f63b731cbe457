/-
  PROVED HERE: laws.FnExactExprValid returns true for all arguments, and what it was given reads behind the call as it read before.
  Conditions: none.
-/
import Derived.Test.YtelglbenbnkjmaaRows
import Derived.Test.YtelglbenbnkjmaaExactExprValidC
import Derived.Test.YtelglbenbnkjmaaExactExprValidL
namespace Go.Proofs.Ytelglbenbnkjmaa
open Go Go.Proofs Go.Vl Go.ChangeShapes Go.WideShapes Go.ChangeAt Go.RowKit

def Try.rep : List (TypeId × DTy) := [(3, .int), (9, .str), (22, .list (.named 2)), (23, .list (.named 7)), (24, .list (.named 8)), (26, .named 0), (27, .list (.named 9)), (29, .named 9), (103, .list (.named 1)), (105, .named 2), (116, .named 7), (121, .named 8), (215, .list (.named 0)), (217, .named 1)]

theorem Try.repOk : repB Try.prog Try.rep = true := by kernel_rfl

theorem Try.own : ownKnob Try.prog.godebug = none := by kernel_rfl
theorem Try.laidOut : laidOutB Try.prog = true := by kernel_rfl
theorem Try.tys : tyB Try.prog [3, 9, 22, 23, 24, 26, 27, 29, 103, 105, 116, 121, 215, 217] = true := by kernel_rfl

set_option maxRecDepth 100000 in
theorem law_args (xs : List AV) (h : TypedArgs Try.prog Try.f3.params.toList xs) : PureCall Try.prog BIG 3 xs (.lit (.bool true)) := by
  rw [Try.params3] at h
  simp only [TypedArgs] at h
  obtain ⟨x0, r0, rfl, h0, x1, r1, rfl, h1, x2, r2, rfl, h2, x3, r3, rfl, h3, x4, r4, rfl, h4, rfl⟩ := h
  simp only [TypedArg, Try.underlying22] at h0
  obtain ⟨n0, g0⟩ := h0
  obtain ⟨d0, e0, i0⟩ := Is.of_typed Try.repOk n0 22 (.list (.named 2)) _ rfl g0
  obtain ⟨es0, rfl, l0, m0⟩ := i0.list_inv
  obtain ⟨v0, c0, o0⟩ := open_list (c := Data.c) (Q := Data.Ok) m0 l0 (fun k _ hi => Data.open k hi)
  rw [D.cells_list] at e0
  cases e0
  rw [← c0]
  simp only [TypedArg, Try.underlying23] at h1
  obtain ⟨n1, g1⟩ := h1
  obtain ⟨d1, e1, i1⟩ := Is.of_typed Try.repOk n1 23 (.list (.named 7)) _ rfl g1
  obtain ⟨es1, rfl, l1, m1⟩ := i1.list_inv
  obtain ⟨v1, c1, o1⟩ := open_list (c := FunType.c) (Q := FunType.Ok) m1 l1 (fun k _ hi => FunType.open k hi)
  rw [D.cells_list] at e1
  cases e1
  rw [← c1]
  simp only [TypedArg, Try.underlying24] at h2
  obtain ⟨n2, g2⟩ := h2
  obtain ⟨d2, e2, i2⟩ := Is.of_typed Try.repOk n2 24 (.list (.named 8)) _ rfl g2
  obtain ⟨es2, rfl, l2, m2⟩ := i2.list_inv
  obtain ⟨v2, c2, o2⟩ := open_list (c := VarType.c) (Q := VarType.Ok) m2 l2 (fun k _ hi => VarType.open k hi)
  rw [D.cells_list] at e2
  cases e2
  rw [← c2]
  simp only [TypedArg, Try.underlying26] at h3
  obtain ⟨n3, as3, rfl, g3⟩ := h3
  obtain ⟨d3, rfl, i3⟩ := Is.of_typed Try.repOk n3 26 (.named 0) as3 rfl g3
  obtain ⟨v3, c3, o3⟩ := Ty.open d3 i3
  rw [← c3, Ty.c_eq]
  simp only [TypedArg, Try.underlying29] at h4
  obtain ⟨n4, as4, rfl, g4⟩ := h4
  obtain ⟨d4, rfl, i4⟩ := Is.of_typed Try.repOk n4 29 (.named 9) as4 rfl g4
  obtain ⟨v4, c4, o4⟩ := Expr.open d4 i4
  rw [← c4, Expr.c_eq]
  exact C.laws_FnExactExprValid BIG (by decide) (by decide) v0 v1 v2 v3 v4 true (P.FnExactExprValid v0 v1 v2 v3 v4 o0 o1 o2 o3 o4)

set_option maxRecDepth 100000 in
theorem lifted (os : Os) (started : os.Started) (H : Type) (enc : TypeId × Value → H) :
    ReturnsInHanded {} Try.checked os 3 .any (Rows.fnExactExprValidSpec.pre6 enc Try.prog Try.f3 Rows.fnExactExprValidRow.domain false) (Rows.fnExactExprValidSpec.post enc Try.prog Try.f3 false true false false) := by
  refine returnsInHanded_of_change (C := Try.checked) Try.own started (by kernel_rfl) Try.func3
    (ChangeSpec.witness6 (enc := enc) (C := Try.checked) false ⟨#[], #[.slice none 0 0, .slice none 0 0, .slice none 0 0, .agg #[.int .i64 0, .int .i64 0], .agg #[.int .i64 0, .int .i64 0, .int .i64 0, .slice none 0 0]], []⟩ 8 (by kernel_rfl) (by kernel_rfl) (by kernel_rfl) (by kernel_rfl)) ?_
  intro W base args ds gs before hval hW _ _
  refine law_any (tb := 4) Try.laidOut Try.tys (of_decide_eq_true (by kernel_rfl)) (by kernel_rfl) (by kernel_rfl) rfl ?_ law_args hval hW
  intro ds hds
  rw [Try.params3] at hds
  match ds, hds with
  | [d0, d1, d2, d3, d4], _ => rfl

theorem FnExactExprValid_holds : Rows.FnExactExprValidSaid :=
  OpenClaim.holds_of_wide 3 Try.f3 rfl rfl rfl rfl rfl rfl rfl ⟨rfl, rfl, rfl, rfl, rfl⟩ rfl rfl rfl rfl rfl (by kernel_rfl) Try.func3 (by kernel_rfl)
    (of_decide_eq_true (by kernel_rfl)) (by unfold Func.isWrapper; rw [if_neg (of_decide_eq_false (by kernel_rfl))]; exact ⟨rfl, rfl⟩)
    (fun os started H enc _ => lifted os started H enc)
end Go.Proofs.Ytelglbenbnkjmaa
