/-
  PROVED HERE: laws.FnExactMaskValue returns true for all arguments, and what it was given reads behind the call as it read before.
  Conditions: none.
-/
import Derived.Test.YtelglbenbnkjmaaRows
import Derived.Test.YtelglbenbnkjmaaExactMaskValueC
import Derived.Test.YtelglbenbnkjmaaExactMaskValueL
namespace Go.Proofs.Ytelglbenbnkjmaa
open Go Go.Proofs Go.Vl Go.ChangeShapes Go.WideShapes Go.ChangeAt Go.RowKit

def Try.rep : List (TypeId × DTy) := [(3, .int), (9, .str), (22, .list (.named 2)), (26, .named 0), (80, .list (.named 3)), (82, .named 3), (95, .list (.list .int)), (103, .list (.named 1)), (105, .named 2), (134, .list .int), (215, .list (.named 0)), (217, .named 1)]

theorem Try.repOk : repB Try.prog Try.rep = true := by kernel_rfl

theorem Try.own : ownKnob Try.prog.godebug = none := by kernel_rfl
theorem Try.laidOut : laidOutB Try.prog = true := by kernel_rfl
theorem Try.tys : tyB Try.prog [3, 9, 22, 26, 80, 82, 95, 103, 105, 134, 215, 217] = true := by kernel_rfl

set_option maxRecDepth 100000 in
theorem law_args (xs : List AV) (h : TypedArgs Try.prog Try.f8.params.toList xs) : PureCall Try.prog BIG 8 xs (.lit (.bool true)) := by
  rw [Try.params8] at h
  simp only [TypedArgs] at h
  obtain ⟨x0, r0, rfl, h0, x1, r1, rfl, h1, x2, r2, rfl, h2, x3, r3, rfl, h3, rfl⟩ := h
  simp only [TypedArg, Try.underlying22] at h0
  obtain ⟨n0, g0⟩ := h0
  obtain ⟨d0, e0, i0⟩ := Is.of_typed Try.repOk n0 22 (.list (.named 2)) _ rfl g0
  obtain ⟨es0, rfl, l0, m0⟩ := i0.list_inv
  obtain ⟨v0, c0, o0⟩ := open_list (c := Data.c) (Q := Data.Ok) m0 l0 (fun k _ hi => Data.open k hi)
  rw [D.cells_list] at e0
  cases e0
  rw [← c0]
  simp only [TypedArg, Try.underlying26] at h1
  obtain ⟨n1, as1, rfl, g1⟩ := h1
  obtain ⟨d1, rfl, i1⟩ := Is.of_typed Try.repOk n1 26 (.named 0) as1 rfl g1
  obtain ⟨v1, c1, o1⟩ := Ty.open d1 i1
  rw [← c1, Ty.c_eq]
  simp only [TypedArg, Try.underlying82] at h2
  obtain ⟨n2, as2, rfl, g2⟩ := h2
  obtain ⟨d2, rfl, i2⟩ := Is.of_typed Try.repOk n2 82 (.named 3) as2 rfl g2
  obtain ⟨v2, c2, o2⟩ := Value.open d2 i2
  rw [← c2, Value.c_eq]
  simp only [TypedArg, Try.underlying95] at h3
  obtain ⟨n3, g3⟩ := h3
  obtain ⟨d3, e3, i3⟩ := Is.of_typed Try.repOk n3 95 (.list (.list .int)) _ rfl g3
  obtain ⟨es3, rfl, l3, m3⟩ := i3.list_inv
  obtain ⟨v3, c3, o3⟩ := open_list (c := cL cI) (Q := okL inR) m3 l3 (fun k _ hi => by obtain ⟨es, rfl, l, m⟩ := hi.list_inv; obtain ⟨v, c, o⟩ := open_ints m l; exact ⟨v, by simp [← c], o⟩)
  rw [D.cells_list] at e3
  cases e3
  rw [← c3]
  exact C.laws_FnExactMaskValue BIG (by decide) (by decide) v0 v1 v2 v3 true (P.FnExactMaskValue v0 v1 v2 v3 o0 o1 o2 o3)

set_option maxRecDepth 100000 in
theorem lifted (os : Os) (started : os.Started) (H : Type) (enc : TypeId × Value → H) :
    ReturnsInHanded {} Try.checked os 8 .any (Rows.fnExactMaskValueSpec.pre6 enc Try.prog Try.f8 Rows.fnExactMaskValueRow.domain false) (Rows.fnExactMaskValueSpec.post enc Try.prog Try.f8 false true false false) := by
  refine returnsInHanded_of_change (C := Try.checked) Try.own started (by kernel_rfl) Try.func8
    (ChangeSpec.witness6 (enc := enc) (C := Try.checked) false ⟨#[], #[.slice none 0 0, .agg #[.int .i64 0, .int .i64 0], .agg #[.int .i64 0, .int .i64 0, .slice none 0 0], .slice none 0 0], []⟩ 8 (by kernel_rfl) (by kernel_rfl) (by kernel_rfl) (by kernel_rfl)) ?_
  intro W base args ds gs before hval hW _ _
  refine law_any (tb := 4) Try.laidOut Try.tys (of_decide_eq_true (by kernel_rfl)) (by kernel_rfl) (by kernel_rfl) rfl ?_ law_args hval hW
  intro ds hds
  rw [Try.params8] at hds
  match ds, hds with
  | [d0, d1, d2, d3], _ => rfl

theorem FnExactMaskValue_holds : Rows.FnExactMaskValueSaid :=
  OpenClaim.holds_of_wide 8 Try.f8 rfl rfl rfl rfl rfl rfl rfl ⟨rfl, rfl, rfl, rfl, rfl⟩ rfl rfl rfl rfl rfl (by kernel_rfl) Try.func8 (by kernel_rfl)
    (of_decide_eq_true (by kernel_rfl)) (by unfold Func.isWrapper; rw [if_neg (of_decide_eq_false (by kernel_rfl))]; exact ⟨rfl, rfl⟩)
    (fun os started H enc _ => lifted os started H enc)
end Go.Proofs.Ytelglbenbnkjmaa
