/-
  PROVED HERE: laws.FnExactFormatClauses returns true for all arguments, and what it was given reads behind the call as it read before.
  Conditions: none.
-/
import Derived.Test.YtdehlcjhndoclaaGreatDoorRows
import Derived.Test.YtdehlcjhndoclaaGreatDoorTie
import Derived.Test.YtdehlcjhndoclaaGreatDoorCards
import Derived.SevenTiedAt
import Derived.Lay
import Derived.Handy
import Derived.Test.YtdehlcjhndoclaaGreatDoorExactFormatClausesC
import Derived.Test.YtdehlcjhndoclaaGreatDoorExactFormatClausesL
namespace Go.Proofs.YtdehlcjhndoclaaGreatDoor
open Go Go.Proofs Go.Vl Go.ChangeShapes Go.WideShapes Go.ChangeAt Go.RowKit

def Tryz.rep : List (TypeId × DTy) := [(3, .int), (9, .str), (22, .list (.named 2)), (26, .named 0), (52, .list (.named 6)), (60, .list (.named 1)), (62, .named 2), (89, .list (.named 4)), (91, .named 4), (93, .named 5), (95, .named 6), (135, .list (.named 0)), (137, .named 1)]

theorem Tryz.repOk : repB Tryz.prog Tryz.rep = true := by kernel_rfl

theorem Tryz.own : ownKnob Tryz.prog.godebug = none := by kernel_rfl
theorem Tryz.laidOut : laidOutB Tryz.prog = true := by kernel_rfl
theorem Tryz.tys : tyB Tryz.prog [3, 9, 22, 26, 52, 60, 62, 89, 91, 93, 95, 135, 137] = true := by kernel_rfl

set_option maxRecDepth 100000 in
theorem law_args (xs : List AV) (h : TypedArgs Tryz.prog Tryz.f4.params.toList xs) : PureCall Tryz.prog BIG 4 xs (.lit (.bool true)) := by
  rw [Tryz.params4] at h
  simp only [TypedArgs] at h
  obtain ⟨x0, r0, rfl, h0, x1, r1, rfl, h1, x2, r2, rfl, h2, rfl⟩ := h
  simp only [TypedArg, Tryz.underlying22] at h0
  obtain ⟨n0, g0⟩ := h0
  obtain ⟨d0, e0, i0⟩ := Is.of_typed Tryz.repOk n0 22 (.list (.named 2)) _ rfl g0
  obtain ⟨es0, rfl, l0, m0⟩ := i0.list_inv
  obtain ⟨v0, c0, o0⟩ := open_list (c := Data.c) (Q := Data.Ok) m0 l0 (fun k _ hi => Data.open k hi)
  rw [D.cells_list] at e0
  cases e0
  rw [← c0]
  simp only [TypedArg, Tryz.underlying26] at h1
  obtain ⟨n1, as1, rfl, g1⟩ := h1
  obtain ⟨d1, rfl, i1⟩ := Is.of_typed Tryz.repOk n1 26 (.named 0) as1 rfl g1
  obtain ⟨v1, c1, o1⟩ := Ty.open d1 i1
  rw [← c1, Ty.c_eq]
  simp only [TypedArg, Tryz.underlying52] at h2
  obtain ⟨n2, g2⟩ := h2
  obtain ⟨d2, e2, i2⟩ := Is.of_typed Tryz.repOk n2 52 (.list (.named 6)) _ rfl g2
  obtain ⟨es2, rfl, l2, m2⟩ := i2.list_inv
  obtain ⟨v2, c2, o2⟩ := open_list (c := Clause.c) (Q := Clause.Ok) m2 l2 (fun k _ hi => Clause.open k hi)
  rw [D.cells_list] at e2
  cases e2
  rw [← c2]
  exact C.laws_FnExactFormatClauses BIG (by decide) (by decide) v0 v1 v2 true (P.FnExactFormatClauses v0 v1 v2 o0 o1 o2)

set_option maxRecDepth 100000 in
theorem lifted (os : Os) (started : os.Started) (H : Type) (enc : TypeId × Value → H) :
    ReturnsInHanded {} Tryz.checked os 4 .any (fun w args => (Rows.fnExactFormatClausesSpec.pre enc Tryz.prog Tryz.f4 [] false w args ∧ laidMetH Tryz.prog Rows.fnExactFormatClausesRow.laid w) ∧ sizedMet enc Tryz.prog Tryz.f4 (OpenSpec.ofChange Rows.fnExactFormatClausesSpec) false w args)
      (Rows.fnExactFormatClausesSpec.post enc Tryz.prog Tryz.f4 false true false false) := by
  refine returnsInHanded_of_change_and (C := Tryz.checked) (X := fun w _ => laidMetH Tryz.prog Rows.fnExactFormatClausesRow.laid w) (fun _ _ _ hh h => h.of_heap hh) Tryz.own started (by kernel_rfl) Tryz.func4
    (ChangeSpec.witness_shaped (enc := enc) (C := Tryz.checked) (os := os) (X := fun w _ => laidMetH Tryz.prog Rows.fnExactFormatClausesRow.laid w) false (World.laidAll Tryz.prog os Rows.fnExactFormatClausesRow.laid) #[.slice none 0 0, .agg #[.int .i64 0, .int .i64 0], .slice none 0 0] 8 (World.laidAll_os _ _ _)
      (World.shaped_of_ZipB (by kernel_rfl) (by kernel_rfl)) (by kernel_rfl) (by kernel_rfl) (by kernel_rfl)
      (by rw [MakeChecks.laidMetH_plain _ _ _ (by kernel_rfl)]; exact laidMet_laidAll _ (by kernel_rfl) (by kernel_rfl))) ?_
  intro W base args ds gs before hval hW _ _ _ _
  refine law_any (tb := 4) Tryz.laidOut Tryz.tys (of_decide_eq_true (by kernel_rfl)) (by kernel_rfl) (by kernel_rfl) rfl ?_ law_args hval hW
  intro ds hds
  rw [Tryz.params4] at hds
  match ds, hds with
  | [d0, d1, d2], _ => rfl

theorem FnExactFormatClauses_row : Rows.FnExactFormatClausesSaid :=
  OpenClaim.holds_of_wide 4 Tryz.f4 rfl rfl rfl rfl rfl rfl rfl ⟨rfl, rfl, rfl, rfl, rfl⟩ rfl rfl rfl rfl rfl (by kernel_rfl) Tryz.func4 (by kernel_rfl)
    (of_decide_eq_true (by kernel_rfl)) (by unfold Func.isWrapper; rw [if_neg (of_decide_eq_false (by kernel_rfl))]; exact ⟨rfl, rfl⟩)
    (fun os started H enc _ => lifted os started H enc)

theorem FnExactFormatClauses_holds : Rows.FnExactFormatClausesCardSaid :=
  Claim7.holds_tied_plain_at .later [] Rows.fnExactFormatClausesCard.laidKinds true Rows.fnExactFormatClausesCard.stood.harness false FnExactFormatClauses_row (fun _ h => by cases h) (by kernel_rfl) (fun _ h => by cases h) fnExactFormatClauses_row_tie rfl ⟨rfl, rfl⟩ (by kernel_rfl) rfl
    (fun f fn hf hfn => by
      obtain rfl : f = 4 := Option.some.inj ((show Tryz.prog.funcNamed Rows.fnExactFormatClausesRow.func = some 4 by kernel_rfl).symm.trans hf) |>.symm
      obtain rfl : fn = Tryz.f4 := (Option.some.inj (Tryz.func4.symm.trans hfn)).symm
      exact ⟨by kernel_rfl, fun j t ht => by
        rw [Tryz.params4] at ht
        have hm : t ∈ [22, 26, 52] := by simpa using Array.mem_of_getElem? ht
        have hall : ([22, 26, 52].all fun u => !Tryz.prog.wantsStandIn u) = true := by kernel_rfl
        exact (show Tryz.prog.wantsStandIn t = false by simpa using List.all_eq_true.1 hall t hm)⟩)
    (by kernel_rfl)
end Go.Proofs.YtdehlcjhndoclaaGreatDoor
