/- The contracts: the code computes the functions (printed by gen.py). -/
import Derived.Test.YtipcmoamhapecaaProg
import Derived.Test.YtipcmoamhapecaaKnownMoreF
import Derived.Test.YtipcmoamhapecaaKnownMoreC2
namespace Go.Proofs.Ytipcmoamhapecaa
open Go Go.Proofs Go.Vl
set_option linter.unusedSimpArgs false
set_option linter.unusedVariables false

attribute [local irreducible] ECallA aL AMake MLoop AgainM LeaveM awpM aopsM MutCall chk abr ACall ALoop ALoopU ADraw Again Leave PCallA PCall Post awp aops PureCall hold

set_option maxRecDepth 100000 in
set_option maxHeartbeats 400000 in
theorem CC.impl_valueScan (B : Nat) (hB1 : 67108864 ≤ B) (hB2 : B ≤ 9223372036854775807) (w : List Vl.Data) (holes : Bool) : (∀ (t : Vl.Ty) (v : Vl.Value) (deep : Int) (count : Int) (r : Bool × Int), F.impl_valueScan w t v deep holes count = some r → MutCall Try.prog B 31 [.lit (.int .i64 count)] [.arr (List.map Vl.Data.c w), .agg [.lit (.int .i64 t.data), .lit (.int .i64 t.index)], .agg [.lit (.int .i64 v.ctor), .lit (.int .i64 v.n), .arr (List.map Vl.Value.c v.kids)], .lit (.int .i64 deep), .lit (.bool holes), .ptr 0 0] (.lit (.bool r.1)) [.lit (.int .i64 r.2)]) ∧
    (∀ (v : Vl.Value) (deep : Int) (v60 : List Vl.Ty) (z65 : Int) (i66 : Nat) (o : Lo (Bool × Int) Int), F.impl_valueScan_l2 w v deep holes v60 z65 i66 = some o → ∀ (c : Code), navO [1, 1, 1, 1, 1, 1, 0, 1, 0, 0] (bodyOf Try.f31) = some c → ∀ (Q : Exit → ASt → Prop), o.post (fun r => ∀ st, Post Try.prog Try.f31 (fun r' σ' => r'.le (.lit (.bool r.1)) ∧ mcell σ' [.lit (.int .i64 r.2)]) .ret st → Q .ret st) (fun s => Q (.exit 1) ⟨[], [.cells [.lit (.int .i64 s)]]⟩) → ALoopU Try.prog B 1 108 (hold c .mk) ⟨[(0, .arr (List.map Vl.Data.c w)), (3, .lit (.int .i64 deep)), (4, .lit (.bool holes)), (5, .ptr 0 0), (13, .arr (List.map Vl.Ty.c v60)), (88, .arr (List.map Vl.Value.c v.kids)), (89, .lit (.int .i64 (v.kids.length : Int))), (90, .lit (.int .i64 (i66 : Int)))], [.cells [.lit (.int .i64 z65)]]⟩ (hold Q .mk)) ∧
    (∀ (v : Vl.Value) (deep : Int) (v27 : List Vl.Ty) (z : Int) (i : Nat) (o : Lo (Bool × Int) Int), F.impl_valueScan_l1 w v deep holes v27 z i = some o → ∀ (c : Code), navO [1, 1, 1, 1, 1, 1, 0, 1, 0, 0] (bodyOf Try.f31) = some c → ∀ (Q : Exit → ASt → Prop), o.post (fun r => ∀ st, Post Try.prog Try.f31 (fun r' σ' => r'.le (.lit (.bool r.1)) ∧ mcell σ' [.lit (.int .i64 r.2)]) .ret st → Q .ret st) (fun s => Q (.exit 1) ⟨[], [.cells [.lit (.int .i64 s)]]⟩) → ALoopU Try.prog B 1 108 (hold c .mk) ⟨[(0, .arr (List.map Vl.Data.c w)), (3, .lit (.int .i64 deep)), (4, .lit (.bool holes)), (5, .ptr 0 0), (13, .arr (List.map Vl.Ty.c v27)), (88, .arr (List.map Vl.Value.c v.kids)), (89, .lit (.int .i64 (v.kids.length : Int))), (90, .lit (.int .i64 (i : Int)))], [.cells [.lit (.int .i64 z)]]⟩ (hold Q .mk)) := by
  refine F.impl_valueScan.mutual_partial_correctness w holes
    (fun t v deep count r => MutCall Try.prog B 31 [.lit (.int .i64 count)] [.arr (List.map Vl.Data.c w), .agg [.lit (.int .i64 t.data), .lit (.int .i64 t.index)], .agg [.lit (.int .i64 v.ctor), .lit (.int .i64 v.n), .arr (List.map Vl.Value.c v.kids)], .lit (.int .i64 deep), .lit (.bool holes), .ptr 0 0] (.lit (.bool r.1)) [.lit (.int .i64 r.2)])
    (fun v deep v60 z65 i66 o => ∀ (c : Code), navO [1, 1, 1, 1, 1, 1, 0, 1, 0, 0] (bodyOf Try.f31) = some c → ∀ (Q : Exit → ASt → Prop), o.post (fun r => ∀ st, Post Try.prog Try.f31 (fun r' σ' => r'.le (.lit (.bool r.1)) ∧ mcell σ' [.lit (.int .i64 r.2)]) .ret st → Q .ret st) (fun s => Q (.exit 1) ⟨[], [.cells [.lit (.int .i64 s)]]⟩) → ALoopU Try.prog B 1 108 (hold c .mk) ⟨[(0, .arr (List.map Vl.Data.c w)), (3, .lit (.int .i64 deep)), (4, .lit (.bool holes)), (5, .ptr 0 0), (13, .arr (List.map Vl.Ty.c v60)), (88, .arr (List.map Vl.Value.c v.kids)), (89, .lit (.int .i64 (v.kids.length : Int))), (90, .lit (.int .i64 (i66 : Int)))], [.cells [.lit (.int .i64 z65)]]⟩ (hold Q .mk))
    (fun v deep v27 z i o => ∀ (c : Code), navO [1, 1, 1, 1, 1, 1, 0, 1, 0, 0] (bodyOf Try.f31) = some c → ∀ (Q : Exit → ASt → Prop), o.post (fun r => ∀ st, Post Try.prog Try.f31 (fun r' σ' => r'.le (.lit (.bool r.1)) ∧ mcell σ' [.lit (.int .i64 r.2)]) .ret st → Q .ret st) (fun s => Q (.exit 1) ⟨[], [.cells [.lit (.int .i64 s)]]⟩) → ALoopU Try.prog B 1 108 (hold c .mk) ⟨[(0, .arr (List.map Vl.Data.c w)), (3, .lit (.int .i64 deep)), (4, .lit (.bool holes)), (5, .ptr 0 0), (13, .arr (List.map Vl.Ty.c v27)), (88, .arr (List.map Vl.Value.c v.kids)), (89, .lit (.int .i64 (v.kids.length : Int))), (90, .lit (.int .i64 (i : Int)))], [.cells [.lit (.int .i64 z)]]⟩ (hold Q .mk))
    ?_ ?_ ?_
  · intro _f_impl_valueScan_l2 _f_impl_valueScan_l1 ih_impl_valueScan_l2 ih_impl_valueScan_l1 t v deep count r hF
    refine MutCall.enter Try.func31 (by kernel_rfl) rfl Try.ntmps31 (by simp) (by simp) (by simp) (by simp) ?_
    simp -dsimp
    repeat (refine chk.go (by first | omega | assumption | (simp_all; done) | (simp_all; omega)) ?_; try simp -dsimp)
    refine abr.split (fun h1 => ?_) (fun h1 => ?_)
    · have q2 : ¬ (60 < IntKind.i64.wrap (count + 1)) := by first | exact h1 | omega | (simpa using h1) | (simp at h1 ⊢; omega) | simp_all
      rw [if_neg q2] at hF
      simp -dsimp [h1, q2]
      repeat (refine chk.go (by first | omega | assumption | (simp_all; done) | (simp_all; omega)) ?_; try simp -dsimp [h1, q2])
      refine abr.split (fun h3 => ?_) (fun h3 => ?_)
      · have q4 : (10 < deep) := by first | exact h3 | omega | (simpa using h3) | (simp at h3 ⊢; omega) | simp_all
        rw [if_pos q4] at hF
        cases hF
        simp -dsimp [h1, q2, h3]
        repeat (refine chk.go (by first | omega | assumption | (simp_all; done) | (simp_all; omega)) ?_; try simp -dsimp [h1, q2, h3])
      · have q4 : ¬ (10 < deep) := by first | exact h3 | omega | (simpa using h3) | (simp at h3 ⊢; omega) | simp_all
        rw [if_neg q4] at hF
        simp -dsimp [h1, q2, h3, q4]
        repeat (refine chk.go (by first | omega | assumption | (simp_all; done) | (simp_all; omega)) ?_; try simp -dsimp [h1, q2, h3, q4])
        refine abr.split (fun h5 => ?_) (fun h5 => ?_)
        · have q6 : (holes = true) := by first | exact h5 | omega | (simpa using h5) | (simp at h5 ⊢; omega) | simp_all
          rw [if_pos q6] at hF
          simp -dsimp [h1, q2, h3, q4, h5]
          repeat (refine chk.go (by first | omega | assumption | (simp_all; done) | (simp_all; omega)) ?_; try simp -dsimp [h1, q2, h3, q4, h5])
          refine abr.split (fun h7 => ?_) (fun h7 => ?_)
          · have q8 : (v.ctor = (-2)) := by first | exact h7 | omega | (simpa using h7) | (simp at h7 ⊢; omega) | simp_all
            rw [if_pos q8] at hF
            simp -dsimp [h1, q2, h3, q4, h5, h7]
            repeat (refine chk.go (by first | omega | assumption | (simp_all; done) | (simp_all; omega)) ?_; try simp -dsimp [h1, q2, h3, q4, h5, h7])
            refine abr.split (fun h9 => ?_) (fun h9 => ?_)
            · have q10 : (v.n = 0) := by first | exact h9 | omega | (simpa using h9) | (simp at h9 ⊢; omega) | simp_all
              rw [if_pos q10] at hF
              cases hF
              simp -dsimp [h1, q2, h3, q4, h5, h7, h9]
              repeat (refine chk.go (by first | omega | assumption | (simp_all; done) | (simp_all; omega)) ?_; try simp -dsimp [h1, q2, h3, q4, h5, h7, h9])
            · have q10 : ¬ (v.n = 0) := by first | exact h9 | omega | (simpa using h9) | (simp at h9 ⊢; omega) | simp_all
              rw [if_neg q10] at hF
              cases hF
              simp -dsimp [h1, q2, h3, q4, h5, h7, h9, q10]
              repeat (refine chk.go (by first | omega | assumption | (simp_all; done) | (simp_all; omega)) ?_; try simp -dsimp [h1, q2, h3, q4, h5, h7, h9, q10])
          · have q8 : ¬ (v.ctor = (-2)) := by first | exact h7 | omega | (simpa using h7) | (simp at h7 ⊢; omega) | simp_all
            rw [if_neg q8] at hF
            simp -dsimp [h1, q2, h3, q4, h5, h7, q8]
            repeat (refine chk.go (by first | omega | assumption | (simp_all; done) | (simp_all; omega)) ?_; try simp -dsimp [h1, q2, h3, q4, h5, h7, q8])
            refine abr.split (fun h11 => ?_) (fun h11 => ?_)
            · have q12 : (t.data = (-1)) := by first | exact h11 | omega | (simpa using h11) | (simp at h11 ⊢; omega) | simp_all
              rw [if_pos q12] at hF
              simp -dsimp [h1, q2, h3, q4, h5, h7, q8, h11]
              repeat (refine chk.go (by first | omega | assumption | (simp_all; done) | (simp_all; omega)) ?_; try simp -dsimp [h1, q2, h3, q4, h5, h7, q8, h11])
              refine abr.split (fun h13 => ?_) (fun h13 => ?_)
              · have q14 : (v.ctor = (-1)) := by first | exact h13 | omega | (simpa using h13) | (simp at h13 ⊢; omega) | simp_all
                rw [if_pos q14] at hF
                simp -dsimp [h1, q2, h3, q4, h5, h7, q8, h11, h13]
                repeat (refine chk.go (by first | omega | assumption | (simp_all; done) | (simp_all; omega)) ?_; try simp -dsimp [h1, q2, h3, q4, h5, h7, q8, h11, h13])
                have hF := ob hF; obtain ⟨v15, e16, hF⟩ := hF
                refine ((C.impl_within B hB1 hB2 v.n (0 : Int) (9 : Int) v15 e16)).goW (by first | (simp; done) | (simp [h1, q2, h3, q4, h5, h7, q8, h11, h13]; done) | simp_all) (by simp) ?_
                simp -dsimp [h1, q2, h3, q4, h5, h7, q8, h11, h13]
                repeat (refine chk.go (by first | omega | assumption | (simp_all; done) | (simp_all; omega)) ?_; try simp -dsimp [h1, q2, h3, q4, h5, h7, q8, h11, h13])
                refine abr.split (fun h17 => ?_) (fun h17 => ?_)
                · have q18 : (v15 = true) := by first | exact h17 | omega | (simpa using h17) | (simp at h17 ⊢; omega) | simp_all
                  rw [if_pos q18] at hF
                  cases hF
                  simp -dsimp [h1, q2, h3, q4, h5, h7, q8, h11, h13, h17]
                  repeat (refine chk.go (by first | omega | assumption | (simp_all; done) | (simp_all; omega)) ?_; try simp -dsimp [h1, q2, h3, q4, h5, h7, q8, h11, h13, h17])
                · have q18 : ¬ (v15 = true) := by first | exact h17 | omega | (simpa using h17) | (simp at h17 ⊢; omega) | simp_all
                  rw [if_neg q18] at hF
                  cases hF
                  simp -dsimp [h1, q2, h3, q4, h5, h7, q8, h11, h13, h17, q18]
                  repeat (refine chk.go (by first | omega | assumption | (simp_all; done) | (simp_all; omega)) ?_; try simp -dsimp [h1, q2, h3, q4, h5, h7, q8, h11, h13, h17, q18])
              · have q14 : ¬ (v.ctor = (-1)) := by first | exact h13 | omega | (simpa using h13) | (simp at h13 ⊢; omega) | simp_all
                rw [if_neg q14] at hF
                cases hF
                simp -dsimp [h1, q2, h3, q4, h5, h7, q8, h11, h13, q14]
                repeat (refine chk.go (by first | omega | assumption | (simp_all; done) | (simp_all; omega)) ?_; try simp -dsimp [h1, q2, h3, q4, h5, h7, q8, h11, h13, q14])
            · have q12 : ¬ (t.data = (-1)) := by first | exact h11 | omega | (simpa using h11) | (simp at h11 ⊢; omega) | simp_all
              rw [if_neg q12] at hF
              simp -dsimp [h1, q2, h3, q4, h5, h7, q8, h11, q12]
              repeat (refine chk.go (by first | omega | assumption | (simp_all; done) | (simp_all; omega)) ?_; try simp -dsimp [h1, q2, h3, q4, h5, h7, q8, h11, q12])
              refine ADraw.simple follows (by kernel_rfl) (by kernel_rfl) ?_
              simp -dsimp [h1, q2, h3, q4, h5, h7, q8, h11, q12]
              repeat (refine chk.go (by first | omega | assumption | (simp_all; done) | (simp_all; omega)) ?_; try simp -dsimp [h1, q2, h3, q4, h5, h7, q8, h11, q12])
              refine abr.split (fun h19 => ?_) (fun h19 => ?_)
              · have q20 : (v.n = 0) := by first | exact h19 | omega | (simpa using h19) | (simp at h19 ⊢; omega) | simp_all
                rw [if_pos q20] at hF
                simp -dsimp [h1, q2, h3, q4, h5, h7, q8, h11, q12, h19]
                repeat (refine chk.go (by first | omega | assumption | (simp_all; done) | (simp_all; omega)) ?_; try simp -dsimp [h1, q2, h3, q4, h5, h7, q8, h11, q12, h19])
                have hF := ob hF; obtain ⟨v21, e22, hF⟩ := hF
                refine ((C.impl_ctorsOf B hB1 hB2 w t v21 e22)).pgoW (by first | (simp; done) | (simp [h1, q2, h3, q4, h5, h7, q8, h11, q12, h19]; done) | simp_all) (by simp) ?_
                simp -dsimp [h1, q2, h3, q4, h5, h7, q8, h11, q12, h19]
                repeat (refine chk.go (by first | omega | assumption | (simp_all; done) | (simp_all; omega)) ?_; try simp -dsimp [h1, q2, h3, q4, h5, h7, q8, h11, q12, h19])
                have hF := ob hF; obtain ⟨v23, e24, hF⟩ := hF
                refine ((C.slices_Contains_int B hB1 hB2 v21 v.ctor v23 e24)).pgoW (by first | (simp; done) | (simp [h1, q2, h3, q4, h5, h7, q8, h11, q12, h19]; done) | simp_all) (by simp) ?_
                simp -dsimp [h1, q2, h3, q4, h5, h7, q8, h11, q12, h19]
                repeat (refine chk.go (by first | omega | assumption | (simp_all; done) | (simp_all; omega)) ?_; try simp -dsimp [h1, q2, h3, q4, h5, h7, q8, h11, q12, h19])
                refine abr.split (fun h25 => ?_) (fun h25 => ?_)
                · have q26 : ¬ (v23 = true) := by first | exact h25 | omega | (simpa using h25) | (simp at h25 ⊢; omega) | simp_all
                  rw [if_neg q26] at hF
                  cases hF
                  simp -dsimp [h1, q2, h3, q4, h5, h7, q8, h11, q12, h19, h25, q26]
                  repeat (refine chk.go (by first | omega | assumption | (simp_all; done) | (simp_all; omega)) ?_; try simp -dsimp [h1, q2, h3, q4, h5, h7, q8, h11, q12, h19, h25, q26])
                · have q26 : (v23 = true) := by first | exact h25 | omega | (simpa using h25) | (simp at h25 ⊢; omega) | simp_all
                  rw [if_pos q26] at hF
                  simp -dsimp [h1, q2, h3, q4, h5, h7, q8, h11, q12, h19, h25, q26]
                  repeat (refine chk.go (by first | omega | assumption | (simp_all; done) | (simp_all; omega)) ?_; try simp -dsimp [h1, q2, h3, q4, h5, h7, q8, h11, q12, h19, h25, q26])
                  have hF := ob hF; obtain ⟨v27, e28, hF⟩ := hF
                  refine ((C.impl_argTypes B hB1 hB2 w t v.ctor v27 e28)).goW (by first | (simp; done) | (simp [h1, q2, h3, q4, h5, h7, q8, h11, q12, h19, h25, q26]; done) | simp_all) (by simp) ?_
                  simp -dsimp [h1, q2, h3, q4, h5, h7, q8, h11, q12, h19, h25, q26]
                  repeat (refine chk.go (by first | omega | assumption | (simp_all; done) | (simp_all; omega)) ?_; try simp -dsimp [h1, q2, h3, q4, h5, h7, q8, h11, q12, h19, h25, q26])
                  refine abr.split (fun h29 => ?_) (fun h29 => ?_)
                  · have q30 : ¬ (v27.length = v.kids.length) := by first | exact h29 | omega | (simpa using h29) | (simp at h29 ⊢; omega) | simp_all
                    have z31 : ¬ ((v27.length : Int) = (v.kids.length : Int)) := by first | omega | simp_all
                    rw [if_neg q30] at hF
                    cases hF
                    simp -dsimp [h1, q2, h3, q4, h5, h7, q8, h11, q12, h19, h25, q26, h29, q30, z31]
                    repeat (refine chk.go (by first | omega | assumption | (simp_all; done) | (simp_all; omega)) ?_; try simp -dsimp [h1, q2, h3, q4, h5, h7, q8, h11, q12, h19, h25, q26, h29, q30, z31])
                  · have q30 : (v27.length = v.kids.length) := by first | exact h29 | omega | (simpa using h29) | (simp at h29 ⊢; omega) | simp_all
                    have z31 : ((v27.length : Int) = (v.kids.length : Int)) := by first | omega | simp_all
                    rw [if_pos q30] at hF
                    simp -dsimp [h1, q2, h3, q4, h5, h7, q8, h11, q12, h19, h25, q26, h29, q30, z31]
                    repeat (refine chk.go (by first | omega | assumption | (simp_all; done) | (simp_all; omega)) ?_; try simp -dsimp [h1, q2, h3, q4, h5, h7, q8, h11, q12, h19, h25, q26, h29, q30, z31])
                    have hF := ob hF; obtain ⟨o', ho43, hF⟩ := hF
                    refine ALoop.goU ⟨[(0, .arr (List.map Vl.Data.c w)), (3, .lit (.int .i64 deep)), (4, .lit (.bool holes)), (5, .ptr 0 0), (13, .arr (List.map Vl.Ty.c v27)), (88, .arr (List.map Vl.Value.c v.kids)), (89, .lit (.int .i64 (v.kids.length : Int))), (90, .lit (.int .i64 (0 : Int)))], [.cells [.lit (.int .i64 (IntKind.i64.wrap (count + 1)))]]⟩ (Gh.to (by simp) (by first | (simp -dsimp; done) | (simp -dsimp [h1, q2, h3, q4, h5, h7, q8, h11, q12, h19, h25, q26, h29, q30, z31]; done) | simp_all) (by first | (simp -dsimp; done) | (simp -dsimp [h1, q2, h3, q4, h5, h7, q8, h11, q12, h19, h25, q26, h29, q30, z31]; done) | simp_all) (by first | (simp -dsimp; done) | (simp -dsimp [h1, q2, h3, q4, h5, h7, q8, h11, q12, h19, h25, q26, h29, q30, z31]; done) | simp_all)) ?_
                    refine (ih_impl_valueScan_l1 v deep v27 (IntKind.i64.wrap (count + 1)) 0 o' ho43) _ rfl _ ?_
                    rcases o' with r0 | s
                    · dsimp only at hF
                      cases hF
                      intro st h
                      simpa using h
                    · dsimp only at hF
                      cases hF
                      simp -dsimp
                      repeat (refine chk.go (by first | omega | assumption | (simp_all; done) | (simp_all; omega)) ?_; try simp -dsimp)
              · have q20 : ¬ (v.n = 0) := by first | exact h19 | omega | (simpa using h19) | (simp at h19 ⊢; omega) | simp_all
                rw [if_neg q20] at hF
                cases hF
                simp -dsimp [h1, q2, h3, q4, h5, h7, q8, h11, q12, h19, q20]
                repeat (refine chk.go (by first | omega | assumption | (simp_all; done) | (simp_all; omega)) ?_; try simp -dsimp [h1, q2, h3, q4, h5, h7, q8, h11, q12, h19, q20])
        · have q6 : ¬ (holes = true) := by first | exact h5 | omega | (simpa using h5) | (simp at h5 ⊢; omega) | simp_all
          rw [if_neg q6] at hF
          simp -dsimp [h1, q2, h3, q4, h5, q6]
          repeat (refine chk.go (by first | omega | assumption | (simp_all; done) | (simp_all; omega)) ?_; try simp -dsimp [h1, q2, h3, q4, h5, q6])
          refine abr.split (fun h44 => ?_) (fun h44 => ?_)
          · have q45 : (t.data = (-1)) := by first | exact h44 | omega | (simpa using h44) | (simp at h44 ⊢; omega) | simp_all
            rw [if_pos q45] at hF
            simp -dsimp [h1, q2, h3, q4, h5, q6, h44]
            repeat (refine chk.go (by first | omega | assumption | (simp_all; done) | (simp_all; omega)) ?_; try simp -dsimp [h1, q2, h3, q4, h5, q6, h44])
            refine abr.split (fun h46 => ?_) (fun h46 => ?_)
            · have q47 : (v.ctor = (-1)) := by first | exact h46 | omega | (simpa using h46) | (simp at h46 ⊢; omega) | simp_all
              rw [if_pos q47] at hF
              simp -dsimp [h1, q2, h3, q4, h5, q6, h44, h46]
              repeat (refine chk.go (by first | omega | assumption | (simp_all; done) | (simp_all; omega)) ?_; try simp -dsimp [h1, q2, h3, q4, h5, q6, h44, h46])
              have hF := ob hF; obtain ⟨v48, e49, hF⟩ := hF
              refine ((C.impl_within B hB1 hB2 v.n (0 : Int) (9 : Int) v48 e49)).goW (by first | (simp; done) | (simp [h1, q2, h3, q4, h5, q6, h44, h46]; done) | simp_all) (by simp) ?_
              simp -dsimp [h1, q2, h3, q4, h5, q6, h44, h46]
              repeat (refine chk.go (by first | omega | assumption | (simp_all; done) | (simp_all; omega)) ?_; try simp -dsimp [h1, q2, h3, q4, h5, q6, h44, h46])
              refine abr.split (fun h50 => ?_) (fun h50 => ?_)
              · have q51 : (v48 = true) := by first | exact h50 | omega | (simpa using h50) | (simp at h50 ⊢; omega) | simp_all
                rw [if_pos q51] at hF
                cases hF
                simp -dsimp [h1, q2, h3, q4, h5, q6, h44, h46, h50]
                repeat (refine chk.go (by first | omega | assumption | (simp_all; done) | (simp_all; omega)) ?_; try simp -dsimp [h1, q2, h3, q4, h5, q6, h44, h46, h50])
              · have q51 : ¬ (v48 = true) := by first | exact h50 | omega | (simpa using h50) | (simp at h50 ⊢; omega) | simp_all
                rw [if_neg q51] at hF
                cases hF
                simp -dsimp [h1, q2, h3, q4, h5, q6, h44, h46, h50, q51]
                repeat (refine chk.go (by first | omega | assumption | (simp_all; done) | (simp_all; omega)) ?_; try simp -dsimp [h1, q2, h3, q4, h5, q6, h44, h46, h50, q51])
            · have q47 : ¬ (v.ctor = (-1)) := by first | exact h46 | omega | (simpa using h46) | (simp at h46 ⊢; omega) | simp_all
              rw [if_neg q47] at hF
              cases hF
              simp -dsimp [h1, q2, h3, q4, h5, q6, h44, h46, q47]
              repeat (refine chk.go (by first | omega | assumption | (simp_all; done) | (simp_all; omega)) ?_; try simp -dsimp [h1, q2, h3, q4, h5, q6, h44, h46, q47])
          · have q45 : ¬ (t.data = (-1)) := by first | exact h44 | omega | (simpa using h44) | (simp at h44 ⊢; omega) | simp_all
            rw [if_neg q45] at hF
            simp -dsimp [h1, q2, h3, q4, h5, q6, h44, q45]
            repeat (refine chk.go (by first | omega | assumption | (simp_all; done) | (simp_all; omega)) ?_; try simp -dsimp [h1, q2, h3, q4, h5, q6, h44, q45])
            refine ADraw.simple follows (by kernel_rfl) (by kernel_rfl) ?_
            simp -dsimp [h1, q2, h3, q4, h5, q6, h44, q45]
            repeat (refine chk.go (by first | omega | assumption | (simp_all; done) | (simp_all; omega)) ?_; try simp -dsimp [h1, q2, h3, q4, h5, q6, h44, q45])
            refine abr.split (fun h52 => ?_) (fun h52 => ?_)
            · have q53 : (v.n = 0) := by first | exact h52 | omega | (simpa using h52) | (simp at h52 ⊢; omega) | simp_all
              rw [if_pos q53] at hF
              simp -dsimp [h1, q2, h3, q4, h5, q6, h44, q45, h52]
              repeat (refine chk.go (by first | omega | assumption | (simp_all; done) | (simp_all; omega)) ?_; try simp -dsimp [h1, q2, h3, q4, h5, q6, h44, q45, h52])
              have hF := ob hF; obtain ⟨v54, e55, hF⟩ := hF
              refine ((C.impl_ctorsOf B hB1 hB2 w t v54 e55)).pgoW (by first | (simp; done) | (simp [h1, q2, h3, q4, h5, q6, h44, q45, h52]; done) | simp_all) (by simp) ?_
              simp -dsimp [h1, q2, h3, q4, h5, q6, h44, q45, h52]
              repeat (refine chk.go (by first | omega | assumption | (simp_all; done) | (simp_all; omega)) ?_; try simp -dsimp [h1, q2, h3, q4, h5, q6, h44, q45, h52])
              have hF := ob hF; obtain ⟨v56, e57, hF⟩ := hF
              refine ((C.slices_Contains_int B hB1 hB2 v54 v.ctor v56 e57)).pgoW (by first | (simp; done) | (simp [h1, q2, h3, q4, h5, q6, h44, q45, h52]; done) | simp_all) (by simp) ?_
              simp -dsimp [h1, q2, h3, q4, h5, q6, h44, q45, h52]
              repeat (refine chk.go (by first | omega | assumption | (simp_all; done) | (simp_all; omega)) ?_; try simp -dsimp [h1, q2, h3, q4, h5, q6, h44, q45, h52])
              refine abr.split (fun h58 => ?_) (fun h58 => ?_)
              · have q59 : ¬ (v56 = true) := by first | exact h58 | omega | (simpa using h58) | (simp at h58 ⊢; omega) | simp_all
                rw [if_neg q59] at hF
                cases hF
                simp -dsimp [h1, q2, h3, q4, h5, q6, h44, q45, h52, h58, q59]
                repeat (refine chk.go (by first | omega | assumption | (simp_all; done) | (simp_all; omega)) ?_; try simp -dsimp [h1, q2, h3, q4, h5, q6, h44, q45, h52, h58, q59])
              · have q59 : (v56 = true) := by first | exact h58 | omega | (simpa using h58) | (simp at h58 ⊢; omega) | simp_all
                rw [if_pos q59] at hF
                simp -dsimp [h1, q2, h3, q4, h5, q6, h44, q45, h52, h58, q59]
                repeat (refine chk.go (by first | omega | assumption | (simp_all; done) | (simp_all; omega)) ?_; try simp -dsimp [h1, q2, h3, q4, h5, q6, h44, q45, h52, h58, q59])
                have hF := ob hF; obtain ⟨v60, e61, hF⟩ := hF
                refine ((C.impl_argTypes B hB1 hB2 w t v.ctor v60 e61)).goW (by first | (simp; done) | (simp [h1, q2, h3, q4, h5, q6, h44, q45, h52, h58, q59]; done) | simp_all) (by simp) ?_
                simp -dsimp [h1, q2, h3, q4, h5, q6, h44, q45, h52, h58, q59]
                repeat (refine chk.go (by first | omega | assumption | (simp_all; done) | (simp_all; omega)) ?_; try simp -dsimp [h1, q2, h3, q4, h5, q6, h44, q45, h52, h58, q59])
                refine abr.split (fun h62 => ?_) (fun h62 => ?_)
                · have q63 : ¬ (v60.length = v.kids.length) := by first | exact h62 | omega | (simpa using h62) | (simp at h62 ⊢; omega) | simp_all
                  have z64 : ¬ ((v60.length : Int) = (v.kids.length : Int)) := by first | omega | simp_all
                  rw [if_neg q63] at hF
                  cases hF
                  simp -dsimp [h1, q2, h3, q4, h5, q6, h44, q45, h52, h58, q59, h62, q63, z64]
                  repeat (refine chk.go (by first | omega | assumption | (simp_all; done) | (simp_all; omega)) ?_; try simp -dsimp [h1, q2, h3, q4, h5, q6, h44, q45, h52, h58, q59, h62, q63, z64])
                · have q63 : (v60.length = v.kids.length) := by first | exact h62 | omega | (simpa using h62) | (simp at h62 ⊢; omega) | simp_all
                  have z64 : ((v60.length : Int) = (v.kids.length : Int)) := by first | omega | simp_all
                  rw [if_pos q63] at hF
                  simp -dsimp [h1, q2, h3, q4, h5, q6, h44, q45, h52, h58, q59, h62, q63, z64]
                  repeat (refine chk.go (by first | omega | assumption | (simp_all; done) | (simp_all; omega)) ?_; try simp -dsimp [h1, q2, h3, q4, h5, q6, h44, q45, h52, h58, q59, h62, q63, z64])
                  have hF := ob hF; obtain ⟨o'80, ho79, hF⟩ := hF
                  refine ALoop.goU ⟨[(0, .arr (List.map Vl.Data.c w)), (3, .lit (.int .i64 deep)), (4, .lit (.bool holes)), (5, .ptr 0 0), (13, .arr (List.map Vl.Ty.c v60)), (88, .arr (List.map Vl.Value.c v.kids)), (89, .lit (.int .i64 (v.kids.length : Int))), (90, .lit (.int .i64 (0 : Int)))], [.cells [.lit (.int .i64 (IntKind.i64.wrap (count + 1)))]]⟩ (Gh.to (by simp) (by first | (simp -dsimp; done) | (simp -dsimp [h1, q2, h3, q4, h5, q6, h44, q45, h52, h58, q59, h62, q63, z64]; done) | simp_all) (by first | (simp -dsimp; done) | (simp -dsimp [h1, q2, h3, q4, h5, q6, h44, q45, h52, h58, q59, h62, q63, z64]; done) | simp_all) (by first | (simp -dsimp; done) | (simp -dsimp [h1, q2, h3, q4, h5, q6, h44, q45, h52, h58, q59, h62, q63, z64]; done) | simp_all)) ?_
                  refine (ih_impl_valueScan_l2 v deep v60 (IntKind.i64.wrap (count + 1)) 0 o'80 ho79) _ rfl _ ?_
                  rcases o'80 with r082 | s81
                  · dsimp only at hF
                    cases hF
                    intro st h
                    simpa using h
                  · dsimp only at hF
                    cases hF
                    simp -dsimp
                    repeat (refine chk.go (by first | omega | assumption | (simp_all; done) | (simp_all; omega)) ?_; try simp -dsimp)
            · have q53 : ¬ (v.n = 0) := by first | exact h52 | omega | (simpa using h52) | (simp at h52 ⊢; omega) | simp_all
              rw [if_neg q53] at hF
              cases hF
              simp -dsimp [h1, q2, h3, q4, h5, q6, h44, q45, h52, q53]
              repeat (refine chk.go (by first | omega | assumption | (simp_all; done) | (simp_all; omega)) ?_; try simp -dsimp [h1, q2, h3, q4, h5, q6, h44, q45, h52, q53])
    · have q2 : (60 < IntKind.i64.wrap (count + 1)) := by first | exact h1 | omega | (simpa using h1) | (simp at h1 ⊢; omega) | simp_all
      rw [if_pos q2] at hF
      cases hF
      simp -dsimp [h1, q2]
      repeat (refine chk.go (by first | omega | assumption | (simp_all; done) | (simp_all; omega)) ?_; try simp -dsimp [h1, q2])
  · intro _f_impl_valueScan _f_impl_valueScan_l2 ih_impl_valueScan ih_impl_valueScan_l2 v deep v60 z65 i66 o hF
    intro c hc Q hq
    obtain rfl : c = _ := navEq hc rfl
    refine ALoopU.know fun hk hs => ?_
    have b0 := hk 0
    simp -dsimp at b0
    have b13 := hk 13
    simp -dsimp at b13
    have b88 := hk 88
    simp -dsimp at b88
    clear hk hs
    refine ALoopU.enter ?_
    simp -dsimp
    repeat (refine chk.go (by first | omega | assumption | (simp_all; done) | (simp_all; omega)) ?_; try simp -dsimp)
    refine abr.split (fun h67 => ?_) (fun h67 => ?_)
    · have q68 : (i66 < v.kids.length) := by first | exact h67 | omega | (simpa using h67) | (simp at h67 ⊢; omega) | simp_all
      have z69 : ((i66 : Int) < (v.kids.length : Int)) := by first | omega | simp_all
      rw [if_pos q68] at hF
      have hF := ob hF; obtain ⟨x70, e71, hF⟩ := hF
      have le71 := lt_of_get e71
      simp -dsimp [h67, z69, ↓e71]
      repeat (refine chk.go (by first | omega | assumption | (simp_all; done) | (simp_all; omega)) ?_; try simp -dsimp [h67, z69, ↓e71])
      refine ADraw.eff [31] [(0, 0), (0, 0), (0, 0), (0, 0), (0, 0), (0, 0), (0, 0), (0, 0), (0, 0), (0, 0), (0, 1), (1, 1)] [1, 1, 1, 1, 1, 1, 1, 1, 1, 1, 1, 1] follows (by kernel_rfl) (by kernel_rfl) (by kernel_rfl) ?_
      have hF := ob hF; obtain ⟨x72, e73, hF⟩ := hF
      have le73 := lt_of_get e73
      simp -dsimp [h67, z69, ↓e71, ↓e73]
      repeat (refine chk.go (by first | omega | assumption | (simp_all; done) | (simp_all; omega)) ?_; try simp -dsimp [h67, z69, ↓e71, ↓e73])
      have hF := ob hF; obtain ⟨v74, e75, hF⟩ := hF
      refine ((ih_impl_valueScan x72 x70 (IntKind.i64.wrap (deep + 1)) z65 v74 e75)).ego 0 rfl (by first | (simp; done) | (simp [h67, z69, ↓e71, ↓e73]; done) | simp_all) (by simp) (by first | (simp; done) | (simp [h67, z69, ↓e71, ↓e73]; done) | simp_all) ?_
      simp -dsimp [h67, z69, ↓e71, ↓e73]
      repeat (refine chk.go (by first | omega | assumption | (simp_all; done) | (simp_all; omega)) ?_; try simp -dsimp [h67, z69, ↓e71, ↓e73])
      refine abr.split (fun h76 => ?_) (fun h76 => ?_)
      · have q77 : ¬ (v74.1 = true) := by first | exact h76 | omega | (simpa using h76) | (simp at h76 ⊢; omega) | simp_all
        rw [if_neg q77] at hF
        cases hF
        simp -dsimp [h67, z69, ↓e71, ↓e73, h76, q77]
        repeat (refine chk.go (by first | omega | assumption | (simp_all; done) | (simp_all; omega)) ?_; try simp -dsimp [h67, z69, ↓e71, ↓e73, h76, q77])
        refine Leave.go _ (Gh.refl _) (hq _ ?_)
        simp -dsimp [h67, z69, ↓e71, ↓e73, h76, q77]
        repeat (refine chk.go (by first | omega | assumption | (simp_all; done) | (simp_all; omega)) ?_; try simp -dsimp [h67, z69, ↓e71, ↓e73, h76, q77])
      · have q77 : (v74.1 = true) := by first | exact h76 | omega | (simpa using h76) | (simp at h76 ⊢; omega) | simp_all
        rw [if_pos q77] at hF
        have w78 : IntKind.i64.wrap ((i66 : Int) + 1) = (i66 : Int) + 1 := wrap_in (by omega) (by omega)
        simp -dsimp [h67, z69, ↓e71, ↓e73, h76, q77, w78]
        repeat (refine chk.go (by first | omega | assumption | (simp_all; done) | (simp_all; omega)) ?_; try simp -dsimp [h67, z69, ↓e71, ↓e73, h76, q77, w78])
        refine Again.go ⟨[(0, .arr (List.map Vl.Data.c w)), (3, .lit (.int .i64 deep)), (4, .lit (.bool holes)), (5, .ptr 0 0), (13, .arr (List.map Vl.Ty.c v60)), (88, .arr (List.map Vl.Value.c v.kids)), (89, .lit (.int .i64 (v.kids.length : Int))), (90, .lit (.int .i64 ((i66 + 1) : Int)))], [.cells [.lit (.int .i64 v74.2)]]⟩ (Gh.to (by simp) (by first | (simp -dsimp; done) | (simp -dsimp [h67, z69, ↓e71, ↓e73, h76, q77, w78]; done) | simp_all) (by first | (simp -dsimp; done) | (simp -dsimp [h67, z69, ↓e71, ↓e73, h76, q77, w78]; done) | simp_all) (by first | (simp -dsimp; done) | (simp -dsimp [h67, z69, ↓e71, ↓e73, h76, q77, w78]; done) | simp_all)) ?_
        exact (ih_impl_valueScan_l2 v deep v60 v74.2 (i66 + 1) o hF) _ rfl _ hq
    · have q68 : ¬ (i66 < v.kids.length) := by first | exact h67 | omega | (simpa using h67) | (simp at h67 ⊢; omega) | simp_all
      have z69 : ¬ ((i66 : Int) < (v.kids.length : Int)) := by first | omega | simp_all
      rw [if_neg q68] at hF
      cases hF
      simp -dsimp [h67, q68, z69]
      repeat (refine chk.go (by first | omega | assumption | (simp_all; done) | (simp_all; omega)) ?_; try simp -dsimp [h67, q68, z69])
      refine Leave.go ⟨[], [.cells [.lit (.int .i64 z65)]]⟩ (Gh.to (by simp) (by first | (simp -dsimp; done) | (simp -dsimp [h67, q68, z69]; done) | simp_all) (by first | (simp -dsimp; done) | (simp -dsimp [h67, q68, z69]; done) | simp_all) (by first | (simp -dsimp; done) | (simp -dsimp [h67, q68, z69]; done) | simp_all)) ?_
      exact hq
  · intro _f_impl_valueScan _f_impl_valueScan_l1 ih_impl_valueScan ih_impl_valueScan_l1 v deep v27 z i o hF
    intro c hc Q hq
    obtain rfl : c = _ := navEq hc rfl
    refine ALoopU.know fun hk hs => ?_
    have b0 := hk 0
    simp -dsimp at b0
    have b13 := hk 13
    simp -dsimp at b13
    have b88 := hk 88
    simp -dsimp at b88
    clear hk hs
    refine ALoopU.enter ?_
    simp -dsimp
    repeat (refine chk.go (by first | omega | assumption | (simp_all; done) | (simp_all; omega)) ?_; try simp -dsimp)
    refine abr.split (fun h32 => ?_) (fun h32 => ?_)
    · have q33 : (i < v.kids.length) := by first | exact h32 | omega | (simpa using h32) | (simp at h32 ⊢; omega) | simp_all
      have z34 : ((i : Int) < (v.kids.length : Int)) := by first | omega | simp_all
      rw [if_pos q33] at hF
      have hF := ob hF; obtain ⟨x, e35, hF⟩ := hF
      have le35 := lt_of_get e35
      simp -dsimp [h32, z34, ↓e35]
      repeat (refine chk.go (by first | omega | assumption | (simp_all; done) | (simp_all; omega)) ?_; try simp -dsimp [h32, z34, ↓e35])
      refine ADraw.eff [31] [(0, 0), (0, 0), (0, 0), (0, 0), (0, 0), (0, 0), (0, 0), (0, 0), (0, 0), (0, 0), (0, 1), (1, 1)] [1, 1, 1, 1, 1, 1, 1, 1, 1, 1, 1, 1] follows (by kernel_rfl) (by kernel_rfl) (by kernel_rfl) ?_
      have hF := ob hF; obtain ⟨x36, e37, hF⟩ := hF
      have le37 := lt_of_get e37
      simp -dsimp [h32, z34, ↓e35, ↓e37]
      repeat (refine chk.go (by first | omega | assumption | (simp_all; done) | (simp_all; omega)) ?_; try simp -dsimp [h32, z34, ↓e35, ↓e37])
      have hF := ob hF; obtain ⟨v38, e39, hF⟩ := hF
      refine ((ih_impl_valueScan x36 x (IntKind.i64.wrap (deep + 1)) z v38 e39)).ego 0 rfl (by first | (simp; done) | (simp [h32, z34, ↓e35, ↓e37]; done) | simp_all) (by simp) (by first | (simp; done) | (simp [h32, z34, ↓e35, ↓e37]; done) | simp_all) ?_
      simp -dsimp [h32, z34, ↓e35, ↓e37]
      repeat (refine chk.go (by first | omega | assumption | (simp_all; done) | (simp_all; omega)) ?_; try simp -dsimp [h32, z34, ↓e35, ↓e37])
      refine abr.split (fun h40 => ?_) (fun h40 => ?_)
      · have q41 : ¬ (v38.1 = true) := by first | exact h40 | omega | (simpa using h40) | (simp at h40 ⊢; omega) | simp_all
        rw [if_neg q41] at hF
        cases hF
        simp -dsimp [h32, z34, ↓e35, ↓e37, h40, q41]
        repeat (refine chk.go (by first | omega | assumption | (simp_all; done) | (simp_all; omega)) ?_; try simp -dsimp [h32, z34, ↓e35, ↓e37, h40, q41])
        refine Leave.go _ (Gh.refl _) (hq _ ?_)
        simp -dsimp [h32, z34, ↓e35, ↓e37, h40, q41]
        repeat (refine chk.go (by first | omega | assumption | (simp_all; done) | (simp_all; omega)) ?_; try simp -dsimp [h32, z34, ↓e35, ↓e37, h40, q41])
      · have q41 : (v38.1 = true) := by first | exact h40 | omega | (simpa using h40) | (simp at h40 ⊢; omega) | simp_all
        rw [if_pos q41] at hF
        have w42 : IntKind.i64.wrap ((i : Int) + 1) = (i : Int) + 1 := wrap_in (by omega) (by omega)
        simp -dsimp [h32, z34, ↓e35, ↓e37, h40, q41, w42]
        repeat (refine chk.go (by first | omega | assumption | (simp_all; done) | (simp_all; omega)) ?_; try simp -dsimp [h32, z34, ↓e35, ↓e37, h40, q41, w42])
        refine Again.go ⟨[(0, .arr (List.map Vl.Data.c w)), (3, .lit (.int .i64 deep)), (4, .lit (.bool holes)), (5, .ptr 0 0), (13, .arr (List.map Vl.Ty.c v27)), (88, .arr (List.map Vl.Value.c v.kids)), (89, .lit (.int .i64 (v.kids.length : Int))), (90, .lit (.int .i64 ((i + 1) : Int)))], [.cells [.lit (.int .i64 v38.2)]]⟩ (Gh.to (by simp) (by first | (simp -dsimp; done) | (simp -dsimp [h32, z34, ↓e35, ↓e37, h40, q41, w42]; done) | simp_all) (by first | (simp -dsimp; done) | (simp -dsimp [h32, z34, ↓e35, ↓e37, h40, q41, w42]; done) | simp_all) (by first | (simp -dsimp; done) | (simp -dsimp [h32, z34, ↓e35, ↓e37, h40, q41, w42]; done) | simp_all)) ?_
        exact (ih_impl_valueScan_l1 v deep v27 v38.2 (i + 1) o hF) _ rfl _ hq
    · have q33 : ¬ (i < v.kids.length) := by first | exact h32 | omega | (simpa using h32) | (simp at h32 ⊢; omega) | simp_all
      have z34 : ¬ ((i : Int) < (v.kids.length : Int)) := by first | omega | simp_all
      rw [if_neg q33] at hF
      cases hF
      simp -dsimp [h32, q33, z34]
      repeat (refine chk.go (by first | omega | assumption | (simp_all; done) | (simp_all; omega)) ?_; try simp -dsimp [h32, q33, z34])
      refine Leave.go ⟨[], [.cells [.lit (.int .i64 z)]]⟩ (Gh.to (by simp) (by first | (simp -dsimp; done) | (simp -dsimp [h32, q33, z34]; done) | simp_all) (by first | (simp -dsimp; done) | (simp -dsimp [h32, q33, z34]; done) | simp_all) (by first | (simp -dsimp; done) | (simp -dsimp [h32, q33, z34]; done) | simp_all)) ?_
      exact hq

theorem C.impl_valueScan (B : Nat) (hB1 : 67108864 ≤ B) (hB2 : B ≤ 9223372036854775807) (w : List Vl.Data) (t : Vl.Ty) (v : Vl.Value) (deep : Int) (holes : Bool) (count : Int) (r : Bool × Int) (hF : F.impl_valueScan w t v deep holes count = some r) : MutCall Try.prog B 31 [.lit (.int .i64 count)] [.arr (List.map Vl.Data.c w), .agg [.lit (.int .i64 t.data), .lit (.int .i64 t.index)], .agg [.lit (.int .i64 v.ctor), .lit (.int .i64 v.n), .arr (List.map Vl.Value.c v.kids)], .lit (.int .i64 deep), .lit (.bool holes), .ptr 0 0] (.lit (.bool r.1)) [.lit (.int .i64 r.2)] :=
  (CC.impl_valueScan B hB1 hB2 w holes).1 t v deep count r hF

theorem C.impl_valueScan_l2 (B : Nat) (hB1 : 67108864 ≤ B) (hB2 : B ≤ 9223372036854775807) (w : List Vl.Data) (v : Vl.Value) (deep : Int) (holes : Bool) (v60 : List Vl.Ty) (z65 : Int) (i66 : Nat) (o : Lo (Bool × Int) Int) (hF : F.impl_valueScan_l2 w v deep holes v60 z65 i66 = some o) : ∀ (c : Code), navO [1, 1, 1, 1, 1, 1, 0, 1, 0, 0] (bodyOf Try.f31) = some c → ∀ (Q : Exit → ASt → Prop), o.post (fun r => ∀ st, Post Try.prog Try.f31 (fun r' σ' => r'.le (.lit (.bool r.1)) ∧ mcell σ' [.lit (.int .i64 r.2)]) .ret st → Q .ret st) (fun s => Q (.exit 1) ⟨[], [.cells [.lit (.int .i64 s)]]⟩) → ALoopU Try.prog B 1 108 (hold c .mk) ⟨[(0, .arr (List.map Vl.Data.c w)), (3, .lit (.int .i64 deep)), (4, .lit (.bool holes)), (5, .ptr 0 0), (13, .arr (List.map Vl.Ty.c v60)), (88, .arr (List.map Vl.Value.c v.kids)), (89, .lit (.int .i64 (v.kids.length : Int))), (90, .lit (.int .i64 (i66 : Int)))], [.cells [.lit (.int .i64 z65)]]⟩ (hold Q .mk) :=
  (CC.impl_valueScan B hB1 hB2 w holes).2.1 v deep v60 z65 i66 o hF

theorem C.impl_valueScan_l1 (B : Nat) (hB1 : 67108864 ≤ B) (hB2 : B ≤ 9223372036854775807) (w : List Vl.Data) (v : Vl.Value) (deep : Int) (holes : Bool) (v27 : List Vl.Ty) (z : Int) (i : Nat) (o : Lo (Bool × Int) Int) (hF : F.impl_valueScan_l1 w v deep holes v27 z i = some o) : ∀ (c : Code), navO [1, 1, 1, 1, 1, 1, 0, 1, 0, 0] (bodyOf Try.f31) = some c → ∀ (Q : Exit → ASt → Prop), o.post (fun r => ∀ st, Post Try.prog Try.f31 (fun r' σ' => r'.le (.lit (.bool r.1)) ∧ mcell σ' [.lit (.int .i64 r.2)]) .ret st → Q .ret st) (fun s => Q (.exit 1) ⟨[], [.cells [.lit (.int .i64 s)]]⟩) → ALoopU Try.prog B 1 108 (hold c .mk) ⟨[(0, .arr (List.map Vl.Data.c w)), (3, .lit (.int .i64 deep)), (4, .lit (.bool holes)), (5, .ptr 0 0), (13, .arr (List.map Vl.Ty.c v27)), (88, .arr (List.map Vl.Value.c v.kids)), (89, .lit (.int .i64 (v.kids.length : Int))), (90, .lit (.int .i64 (i : Int)))], [.cells [.lit (.int .i64 z)]]⟩ (hold Q .mk) :=
  (CC.impl_valueScan B hB1 hB2 w holes).2.2 v deep v27 z i o hF

set_option maxRecDepth 100000 in
set_option maxHeartbeats 400000 in
theorem C.impl_PartialValid (B : Nat) (hB1 : 67108864 ≤ B) (hB2 : B ≤ 9223372036854775807) (w : List Vl.Data) (t : Vl.Ty) (v : Vl.Value) (r : Bool) (hF : F.impl_PartialValid w t v = some r) : PureCall Try.prog B 12 [.arr (List.map Vl.Data.c w), .agg [.lit (.int .i64 t.data), .lit (.int .i64 t.index)], .agg [.lit (.int .i64 v.ctor), .lit (.int .i64 v.n), .arr (List.map Vl.Value.c v.kids)]] (.lit (.bool r)) := by
  unfold F.impl_PartialValid at hF
  refine PureCall.enterLe Try.func12 (by kernel_rfl) rfl Try.ntmps12 (by simp) (by simp) ?_
  simp -dsimp
  repeat (refine chk.go (by first | omega | assumption | (simp_all; done) | (simp_all; omega)) ?_; try simp -dsimp)
  have hF := ob hF; obtain ⟨v1, e2, hF⟩ := hF
  refine ((C.impl_TypeValid B hB1 hB2 w t v1 e2)).goW (by simp) (by simp) ?_
  simp -dsimp
  repeat (refine chk.go (by first | omega | assumption | (simp_all; done) | (simp_all; omega)) ?_; try simp -dsimp)
  refine abr.split (fun h3 => ?_) (fun h3 => ?_)
  · have q4 : (v1 = true) := by first | exact h3 | omega | (simpa using h3) | (simp at h3 ⊢; omega) | simp_all
    rw [if_pos q4] at hF
    simp -dsimp [h3]
    repeat (refine chk.go (by first | omega | assumption | (simp_all; done) | (simp_all; omega)) ?_; try simp -dsimp [h3])
    have hF := ob hF; obtain ⟨v5, e6, hF⟩ := hF
    refine ((C.impl_valueScan B hB1 hB2 w t v (1 : Int) true (0 : Int) v5 e6)).go 2 rfl (by first | (simp; done) | (simp [h3]; done) | simp_all) (by simp) (by first | (simp; done) | (simp [h3]; done) | simp_all) ?_
    cases hF
    simp -dsimp [h3]
    repeat (refine chk.go (by first | omega | assumption | (simp_all; done) | (simp_all; omega)) ?_; try simp -dsimp [h3])
  · have q4 : ¬ (v1 = true) := by first | exact h3 | omega | (simpa using h3) | (simp at h3 ⊢; omega) | simp_all
    rw [if_neg q4] at hF
    cases hF
    simp -dsimp [h3, q4]
    repeat (refine chk.go (by first | omega | assumption | (simp_all; done) | (simp_all; omega)) ?_; try simp -dsimp [h3, q4])

set_option maxRecDepth 100000 in
set_option maxHeartbeats 400000 in
theorem CC.impl_more (B : Nat) (hB1 : 67108864 ≤ B) (hB2 : B ≤ 9223372036854775807)  : (∀ (a : Vl.Value) (b : Vl.Value) (r : Bool), F.impl_more a b = some r → PureCall Try.prog B 28 [.agg [.lit (.int .i64 a.ctor), .lit (.int .i64 a.n), .arr (List.map Vl.Value.c a.kids)], .agg [.lit (.int .i64 b.ctor), .lit (.int .i64 b.n), .arr (List.map Vl.Value.c b.kids)]] (.lit (.bool r))) ∧
    (∀ (a : Vl.Value) (b : Vl.Value) (i : Nat) (o : Lo Bool Unit), F.impl_more_l1 a b i = some o → ∀ (c : Code), navO [1, 1, 1, 0, 1, 0, 0] (bodyOf Try.f28) = some c → ∀ (Q : Exit → ASt → Prop), o.post (fun r => ∀ st, Post Try.prog Try.f28 (fun r' _ => r'.le (.lit (.bool r))) .ret st → Q .ret st) (fun s => Q (.exit 0) ⟨[], []⟩) → ALoopU Try.prog B 0 49 (hold c .mk) ⟨[(2, .ptr 0 0), (3, .ptr 1 0), (32, .lit (.int .i64 (b.kids.length : Int))), (33, .lit (.int .i64 (i : Int)))], [.cells [.lit (.int .i64 a.ctor), .lit (.int .i64 a.n), .arr (List.map Vl.Value.c a.kids)], .cells [.lit (.int .i64 b.ctor), .lit (.int .i64 b.n), .arr (List.map Vl.Value.c b.kids)]]⟩ (hold Q .mk)) := by
  refine F.impl_more.mutual_partial_correctness 
    (fun a b r => PureCall Try.prog B 28 [.agg [.lit (.int .i64 a.ctor), .lit (.int .i64 a.n), .arr (List.map Vl.Value.c a.kids)], .agg [.lit (.int .i64 b.ctor), .lit (.int .i64 b.n), .arr (List.map Vl.Value.c b.kids)]] (.lit (.bool r)))
    (fun a b i o => ∀ (c : Code), navO [1, 1, 1, 0, 1, 0, 0] (bodyOf Try.f28) = some c → ∀ (Q : Exit → ASt → Prop), o.post (fun r => ∀ st, Post Try.prog Try.f28 (fun r' _ => r'.le (.lit (.bool r))) .ret st → Q .ret st) (fun s => Q (.exit 0) ⟨[], []⟩) → ALoopU Try.prog B 0 49 (hold c .mk) ⟨[(2, .ptr 0 0), (3, .ptr 1 0), (32, .lit (.int .i64 (b.kids.length : Int))), (33, .lit (.int .i64 (i : Int)))], [.cells [.lit (.int .i64 a.ctor), .lit (.int .i64 a.n), .arr (List.map Vl.Value.c a.kids)], .cells [.lit (.int .i64 b.ctor), .lit (.int .i64 b.n), .arr (List.map Vl.Value.c b.kids)]]⟩ (hold Q .mk))
    ?_ ?_
  · intro _f_impl_more_l1 ih_impl_more_l1 a b r hF
    refine PureCall.enterLe Try.func28 (by kernel_rfl) rfl Try.ntmps28 (by simp) (by simp) ?_
    simp -dsimp
    repeat (refine chk.go (by first | omega | assumption | (simp_all; done) | (simp_all; omega)) ?_; try simp -dsimp)
    refine abr.split (fun h1 => ?_) (fun h1 => ?_)
    · have q2 : (b.ctor = (-2)) := by first | exact h1 | omega | (simpa using h1) | (simp at h1 ⊢; omega) | simp_all
      rw [if_pos q2] at hF
      cases hF
      simp -dsimp [h1]
      repeat (refine chk.go (by first | omega | assumption | (simp_all; done) | (simp_all; omega)) ?_; try simp -dsimp [h1])
    · have q2 : ¬ (b.ctor = (-2)) := by first | exact h1 | omega | (simpa using h1) | (simp at h1 ⊢; omega) | simp_all
      rw [if_neg q2] at hF
      simp -dsimp [h1, q2]
      repeat (refine chk.go (by first | omega | assumption | (simp_all; done) | (simp_all; omega)) ?_; try simp -dsimp [h1, q2])
      refine abr.split (fun h3 => ?_) (fun h3 => ?_)
      · have q4 : (a.ctor = b.ctor) := by first | exact h3 | omega | (simpa using h3) | (simp at h3 ⊢; omega) | simp_all
        rw [if_pos q4] at hF
        simp -dsimp [h1, q2, h3]
        repeat (refine chk.go (by first | omega | assumption | (simp_all; done) | (simp_all; omega)) ?_; try simp -dsimp [h1, q2, h3])
        refine abr.split (fun h5 => ?_) (fun h5 => ?_)
        · have q6 : (a.n = b.n) := by first | exact h5 | omega | (simpa using h5) | (simp at h5 ⊢; omega) | simp_all
          rw [if_pos q6] at hF
          simp -dsimp [h1, q2, h3, h5]
          repeat (refine chk.go (by first | omega | assumption | (simp_all; done) | (simp_all; omega)) ?_; try simp -dsimp [h1, q2, h3, h5])
          refine abr.split (fun h7 => ?_) (fun h7 => ?_)
          · have q8 : ¬ (a.kids.length = b.kids.length) := by first | exact h7 | omega | (simpa using h7) | (simp at h7 ⊢; omega) | simp_all
            have z9 : ¬ ((a.kids.length : Int) = (b.kids.length : Int)) := by first | omega | simp_all
            rw [if_neg q8] at hF
            cases hF
            simp -dsimp [h1, q2, h3, h5, h7, q8, z9]
            repeat (refine chk.go (by first | omega | assumption | (simp_all; done) | (simp_all; omega)) ?_; try simp -dsimp [h1, q2, h3, h5, h7, q8, z9])
          · have q8 : (a.kids.length = b.kids.length) := by first | exact h7 | omega | (simpa using h7) | (simp at h7 ⊢; omega) | simp_all
            have z9 : ((a.kids.length : Int) = (b.kids.length : Int)) := by first | omega | simp_all
            rw [if_pos q8] at hF
            simp -dsimp [h1, q2, h3, h5, h7, q8, z9]
            repeat (refine chk.go (by first | omega | assumption | (simp_all; done) | (simp_all; omega)) ?_; try simp -dsimp [h1, q2, h3, h5, h7, q8, z9])
            have hF := ob hF; obtain ⟨o', ho20, hF⟩ := hF
            refine ALoop.goU ⟨[(2, .ptr 0 0), (3, .ptr 1 0), (32, .lit (.int .i64 (b.kids.length : Int))), (33, .lit (.int .i64 (0 : Int)))], [.cells [.lit (.int .i64 a.ctor), .lit (.int .i64 a.n), .arr (List.map Vl.Value.c a.kids)], .cells [.lit (.int .i64 b.ctor), .lit (.int .i64 b.n), .arr (List.map Vl.Value.c b.kids)]]⟩ (Gh.to (by simp) (by first | (simp -dsimp; done) | (simp -dsimp [h1, q2, h3, h5, h7, q8, z9]; done) | simp_all) (by first | (simp -dsimp; done) | (simp -dsimp [h1, q2, h3, h5, h7, q8, z9]; done) | simp_all) (by first | (simp -dsimp; done) | (simp -dsimp [h1, q2, h3, h5, h7, q8, z9]; done) | simp_all)) ?_
            refine (ih_impl_more_l1 a b 0 o' ho20) _ rfl _ ?_
            rcases o' with r0 | s
            · dsimp only at hF
              cases hF
              intro st h
              simpa using h
            · dsimp only at hF
              cases hF
              simp -dsimp
              repeat (refine chk.go (by first | omega | assumption | (simp_all; done) | (simp_all; omega)) ?_; try simp -dsimp)
        · have q6 : ¬ (a.n = b.n) := by first | exact h5 | omega | (simpa using h5) | (simp at h5 ⊢; omega) | simp_all
          rw [if_neg q6] at hF
          cases hF
          simp -dsimp [h1, q2, h3, h5, q6]
          repeat (refine chk.go (by first | omega | assumption | (simp_all; done) | (simp_all; omega)) ?_; try simp -dsimp [h1, q2, h3, h5, q6])
      · have q4 : ¬ (a.ctor = b.ctor) := by first | exact h3 | omega | (simpa using h3) | (simp at h3 ⊢; omega) | simp_all
        rw [if_neg q4] at hF
        cases hF
        simp -dsimp [h1, q2, h3, q4]
        repeat (refine chk.go (by first | omega | assumption | (simp_all; done) | (simp_all; omega)) ?_; try simp -dsimp [h1, q2, h3, q4])
  · intro _f_impl_more _f_impl_more_l1 ih_impl_more ih_impl_more_l1 a b i o hF
    intro c hc Q hq
    obtain rfl : c = _ := navEq hc rfl
    refine ALoopU.know fun hk hs => ?_
    have d0 := hs 0 _ rfl
    simp -dsimp [Blk.bnd] at d0
    have d1 := hs 1 _ rfl
    simp -dsimp [Blk.bnd] at d1
    clear hk hs
    refine ALoopU.enter ?_
    simp -dsimp
    repeat (refine chk.go (by first | omega | assumption | (simp_all; done) | (simp_all; omega)) ?_; try simp -dsimp)
    refine abr.split (fun h10 => ?_) (fun h10 => ?_)
    · have q11 : (i < b.kids.length) := by first | exact h10 | omega | (simpa using h10) | (simp at h10 ⊢; omega) | simp_all
      have z12 : ((i : Int) < (b.kids.length : Int)) := by first | omega | simp_all
      rw [if_pos q11] at hF
      simp -dsimp [h10, z12]
      repeat (refine chk.go (by first | omega | assumption | (simp_all; done) | (simp_all; omega)) ?_; try simp -dsimp [h10, z12])
      refine ADraw.simple follows (by kernel_rfl) (by kernel_rfl) ?_
      have hF := ob hF; obtain ⟨x, e13, hF⟩ := hF
      have le13 := lt_of_get e13
      have hF := ob hF; obtain ⟨x14, e15, hF⟩ := hF
      have le15 := lt_of_get e15
      simp -dsimp [h10, z12, ↓e13, ↓e15]
      repeat (refine chk.go (by first | omega | assumption | (simp_all; done) | (simp_all; omega)) ?_; try simp -dsimp [h10, z12, ↓e13, ↓e15])
      have hF := ob hF; obtain ⟨v, e16, hF⟩ := hF
      refine ((ih_impl_more x x14 v e16)).pgoW (by first | (simp; done) | (simp [h10, z12, ↓e13, ↓e15]; done) | simp_all) (by simp) ?_
      simp -dsimp [h10, z12, ↓e13, ↓e15]
      repeat (refine chk.go (by first | omega | assumption | (simp_all; done) | (simp_all; omega)) ?_; try simp -dsimp [h10, z12, ↓e13, ↓e15])
      refine abr.split (fun h17 => ?_) (fun h17 => ?_)
      · have q18 : ¬ (v = true) := by first | exact h17 | omega | (simpa using h17) | (simp at h17 ⊢; omega) | simp_all
        rw [if_neg q18] at hF
        cases hF
        simp -dsimp [h10, z12, ↓e13, ↓e15, h17, q18]
        repeat (refine chk.go (by first | omega | assumption | (simp_all; done) | (simp_all; omega)) ?_; try simp -dsimp [h10, z12, ↓e13, ↓e15, h17, q18])
        refine Leave.go _ (Gh.refl _) (hq _ ?_)
        simp -dsimp [h10, z12, ↓e13, ↓e15, h17, q18]
        repeat (refine chk.go (by first | omega | assumption | (simp_all; done) | (simp_all; omega)) ?_; try simp -dsimp [h10, z12, ↓e13, ↓e15, h17, q18])
      · have q18 : (v = true) := by first | exact h17 | omega | (simpa using h17) | (simp at h17 ⊢; omega) | simp_all
        rw [if_pos q18] at hF
        have w19 : IntKind.i64.wrap ((i : Int) + 1) = (i : Int) + 1 := wrap_in (by omega) (by omega)
        simp -dsimp [h10, z12, ↓e13, ↓e15, h17, q18, w19]
        repeat (refine chk.go (by first | omega | assumption | (simp_all; done) | (simp_all; omega)) ?_; try simp -dsimp [h10, z12, ↓e13, ↓e15, h17, q18, w19])
        refine Again.go ⟨[(2, .ptr 0 0), (3, .ptr 1 0), (32, .lit (.int .i64 (b.kids.length : Int))), (33, .lit (.int .i64 ((i + 1) : Int)))], [.cells [.lit (.int .i64 a.ctor), .lit (.int .i64 a.n), .arr (List.map Vl.Value.c a.kids)], .cells [.lit (.int .i64 b.ctor), .lit (.int .i64 b.n), .arr (List.map Vl.Value.c b.kids)]]⟩ (Gh.to (by simp) (by first | (simp -dsimp; done) | (simp -dsimp [h10, z12, ↓e13, ↓e15, h17, q18, w19]; done) | simp_all) (by first | (simp -dsimp; done) | (simp -dsimp [h10, z12, ↓e13, ↓e15, h17, q18, w19]; done) | simp_all) (by first | (simp -dsimp; done) | (simp -dsimp [h10, z12, ↓e13, ↓e15, h17, q18, w19]; done) | simp_all)) ?_
        exact (ih_impl_more_l1 a b (i + 1) o hF) _ rfl _ hq
    · have q11 : ¬ (i < b.kids.length) := by first | exact h10 | omega | (simpa using h10) | (simp at h10 ⊢; omega) | simp_all
      have z12 : ¬ ((i : Int) < (b.kids.length : Int)) := by first | omega | simp_all
      rw [if_neg q11] at hF
      cases hF
      simp -dsimp [h10, q11, z12]
      repeat (refine chk.go (by first | omega | assumption | (simp_all; done) | (simp_all; omega)) ?_; try simp -dsimp [h10, q11, z12])
      refine Leave.go ⟨[], []⟩ (Gh.to (by simp) (by first | (simp -dsimp; done) | (simp -dsimp [h10, q11, z12]; done) | simp_all) (by first | (simp -dsimp; done) | (simp -dsimp [h10, q11, z12]; done) | simp_all) (by first | (simp -dsimp; done) | (simp -dsimp [h10, q11, z12]; done) | simp_all)) ?_
      exact hq

theorem C.impl_more (B : Nat) (hB1 : 67108864 ≤ B) (hB2 : B ≤ 9223372036854775807) (a : Vl.Value) (b : Vl.Value) (r : Bool) (hF : F.impl_more a b = some r) : PureCall Try.prog B 28 [.agg [.lit (.int .i64 a.ctor), .lit (.int .i64 a.n), .arr (List.map Vl.Value.c a.kids)], .agg [.lit (.int .i64 b.ctor), .lit (.int .i64 b.n), .arr (List.map Vl.Value.c b.kids)]] (.lit (.bool r)) :=
  (CC.impl_more B hB1 hB2 ).1 a b r hF

theorem C.impl_more_l1 (B : Nat) (hB1 : 67108864 ≤ B) (hB2 : B ≤ 9223372036854775807) (a : Vl.Value) (b : Vl.Value) (i : Nat) (o : Lo Bool Unit) (hF : F.impl_more_l1 a b i = some o) : ∀ (c : Code), navO [1, 1, 1, 0, 1, 0, 0] (bodyOf Try.f28) = some c → ∀ (Q : Exit → ASt → Prop), o.post (fun r => ∀ st, Post Try.prog Try.f28 (fun r' _ => r'.le (.lit (.bool r))) .ret st → Q .ret st) (fun s => Q (.exit 0) ⟨[], []⟩) → ALoopU Try.prog B 0 49 (hold c .mk) ⟨[(2, .ptr 0 0), (3, .ptr 1 0), (32, .lit (.int .i64 (b.kids.length : Int))), (33, .lit (.int .i64 (i : Int)))], [.cells [.lit (.int .i64 a.ctor), .lit (.int .i64 a.n), .arr (List.map Vl.Value.c a.kids)], .cells [.lit (.int .i64 b.ctor), .lit (.int .i64 b.n), .arr (List.map Vl.Value.c b.kids)]]⟩ (hold Q .mk) :=
  (CC.impl_more B hB1 hB2 ).2 a b i o hF

set_option maxRecDepth 100000 in
set_option maxHeartbeats 400000 in
theorem C.impl_KnownMore (B : Nat) (hB1 : 67108864 ≤ B) (hB2 : B ≤ 9223372036854775807) (w : List Vl.Data) (t : Vl.Ty) (a : Vl.Value) (b : Vl.Value) (r : Bool) (hF : F.impl_KnownMore w t a b = some r) : PureCall Try.prog B 10 [.arr (List.map Vl.Data.c w), .agg [.lit (.int .i64 t.data), .lit (.int .i64 t.index)], .agg [.lit (.int .i64 a.ctor), .lit (.int .i64 a.n), .arr (List.map Vl.Value.c a.kids)], .agg [.lit (.int .i64 b.ctor), .lit (.int .i64 b.n), .arr (List.map Vl.Value.c b.kids)]] (.lit (.bool r)) := by
  unfold F.impl_KnownMore at hF
  refine PureCall.enterLe Try.func10 (by kernel_rfl) rfl Try.ntmps10 (by simp) (by simp) ?_
  simp -dsimp
  repeat (refine chk.go (by first | omega | assumption | (simp_all; done) | (simp_all; omega)) ?_; try simp -dsimp)
  have hF := ob hF; obtain ⟨v, e1, hF⟩ := hF
  refine ((C.impl_PartialValid B hB1 hB2 w t a v e1)).goW (by simp) (by simp) ?_
  simp -dsimp
  repeat (refine chk.go (by first | omega | assumption | (simp_all; done) | (simp_all; omega)) ?_; try simp -dsimp)
  refine abr.split (fun h2 => ?_) (fun h2 => ?_)
  · have q3 : (v = true) := by first | exact h2 | omega | (simpa using h2) | (simp at h2 ⊢; omega) | simp_all
    rw [if_pos q3] at hF
    simp -dsimp [h2]
    repeat (refine chk.go (by first | omega | assumption | (simp_all; done) | (simp_all; omega)) ?_; try simp -dsimp [h2])
    have hF := ob hF; obtain ⟨v4, e5, hF⟩ := hF
    refine ((C.impl_PartialValid B hB1 hB2 w t b v4 e5)).goW (by first | (simp; done) | (simp [h2]; done) | simp_all) (by simp) ?_
    simp -dsimp [h2]
    repeat (refine chk.go (by first | omega | assumption | (simp_all; done) | (simp_all; omega)) ?_; try simp -dsimp [h2])
    refine abr.split (fun h6 => ?_) (fun h6 => ?_)
    · have q7 : (v4 = true) := by first | exact h6 | omega | (simpa using h6) | (simp at h6 ⊢; omega) | simp_all
      rw [if_pos q7] at hF
      simp -dsimp [h2, h6]
      repeat (refine chk.go (by first | omega | assumption | (simp_all; done) | (simp_all; omega)) ?_; try simp -dsimp [h2, h6])
      have hF := ob hF; obtain ⟨v8, e9, hF⟩ := hF
      refine ((C.impl_more B hB1 hB2 a b v8 e9)).goW (by first | (simp; done) | (simp [h2, h6]; done) | simp_all) (by simp) ?_
      cases hF
      simp -dsimp [h2, h6]
      repeat (refine chk.go (by first | omega | assumption | (simp_all; done) | (simp_all; omega)) ?_; try simp -dsimp [h2, h6])
    · have q7 : ¬ (v4 = true) := by first | exact h6 | omega | (simpa using h6) | (simp at h6 ⊢; omega) | simp_all
      rw [if_neg q7] at hF
      cases hF
      simp -dsimp [h2, h6, q7]
      repeat (refine chk.go (by first | omega | assumption | (simp_all; done) | (simp_all; omega)) ?_; try simp -dsimp [h2, h6, q7])
  · have q3 : ¬ (v = true) := by first | exact h2 | omega | (simpa using h2) | (simp at h2 ⊢; omega) | simp_all
    rw [if_neg q3] at hF
    cases hF
    simp -dsimp [h2, q3]
    repeat (refine chk.go (by first | omega | assumption | (simp_all; done) | (simp_all; omega)) ?_; try simp -dsimp [h2, q3])

set_option maxRecDepth 100000 in
set_option maxHeartbeats 400000 in
theorem C.spec_l1Is (B : Nat) (hB1 : 67108864 ≤ B) (hB2 : B ≤ 9223372036854775807) (w : List Vl.Data) (t : Vl.Ty) (r : Bool) (hF : F.spec_l1Is w t = some r) : PureCall Try.prog B 62 [.arr (List.map Vl.Data.c w), .agg [.lit (.int .i64 t.data), .lit (.int .i64 t.index)]] (.lit (.bool r)) := by
  unfold F.spec_l1Is at hF
  refine PureCall.enterLe Try.func62 (by kernel_rfl) rfl Try.ntmps62 (by simp) (by simp) ?_
  simp -dsimp
  repeat (refine chk.go (by first | omega | assumption | (simp_all; done) | (simp_all; omega)) ?_; try simp -dsimp)
  have hF := ob hF; obtain ⟨v, e1, hF⟩ := hF
  refine ((C.spec_l1Arg B hB1 hB2 (w.length : Int) t v e1)).goW (by simp) (by simp) ?_
  simp -dsimp
  repeat (refine chk.go (by first | omega | assumption | (simp_all; done) | (simp_all; omega)) ?_; try simp -dsimp)
  refine abr.split (fun h2 => ?_) (fun h2 => ?_)
  · have q3 : (v = true) := by first | exact h2 | omega | (simpa using h2) | (simp at h2 ⊢; omega) | simp_all
    rw [if_pos q3] at hF
    cases hF
    simp -dsimp [h2]
    repeat (refine chk.go (by first | omega | assumption | (simp_all; done) | (simp_all; omega)) ?_; try simp -dsimp [h2])
  · have q3 : ¬ (v = true) := by first | exact h2 | omega | (simpa using h2) | (simp at h2 ⊢; omega) | simp_all
    rw [if_neg q3] at hF
    cases hF
    simp -dsimp [h2, q3]
    repeat (refine chk.go (by first | omega | assumption | (simp_all; done) | (simp_all; omega)) ?_; try simp -dsimp [h2, q3])

set_option maxRecDepth 100000 in
set_option maxHeartbeats 400000 in
theorem C.spec_TypeValid (B : Nat) (hB1 : 67108864 ≤ B) (hB2 : B ≤ 9223372036854775807) (w : List Vl.Data) (t : Vl.Ty) (r : Bool) (hF : F.spec_TypeValid w t = some r) : PureCall Try.prog B 35 [.arr (List.map Vl.Data.c w), .agg [.lit (.int .i64 t.data), .lit (.int .i64 t.index)]] (.lit (.bool r)) := by
  unfold F.spec_TypeValid at hF
  refine PureCall.enterLe Try.func35 (by kernel_rfl) rfl Try.ntmps35 (by simp) (by simp) ?_
  simp -dsimp
  repeat (refine chk.go (by first | omega | assumption | (simp_all; done) | (simp_all; omega)) ?_; try simp -dsimp)
  have hF := ob hF; obtain ⟨v, e1, hF⟩ := hF
  refine ((C.spec_WorldValid B hB1 hB2 w v e1)).goW (by simp) (by simp) ?_
  simp -dsimp
  repeat (refine chk.go (by first | omega | assumption | (simp_all; done) | (simp_all; omega)) ?_; try simp -dsimp)
  refine abr.split (fun h2 => ?_) (fun h2 => ?_)
  · have q3 : (v = true) := by first | exact h2 | omega | (simpa using h2) | (simp at h2 ⊢; omega) | simp_all
    rw [if_pos q3] at hF
    simp -dsimp [h2]
    repeat (refine chk.go (by first | omega | assumption | (simp_all; done) | (simp_all; omega)) ?_; try simp -dsimp [h2])
    have hF := ob hF; obtain ⟨v4, e5, hF⟩ := hF
    refine ((C.spec_l1Is B hB1 hB2 w t v4 e5)).goW (by first | (simp; done) | (simp [h2]; done) | simp_all) (by simp) ?_
    cases hF
    simp -dsimp [h2]
    repeat (refine chk.go (by first | omega | assumption | (simp_all; done) | (simp_all; omega)) ?_; try simp -dsimp [h2])
  · have q3 : ¬ (v = true) := by first | exact h2 | omega | (simpa using h2) | (simp at h2 ⊢; omega) | simp_all
    rw [if_neg q3] at hF
    cases hF
    simp -dsimp [h2, q3]
    repeat (refine chk.go (by first | omega | assumption | (simp_all; done) | (simp_all; omega)) ?_; try simp -dsimp [h2, q3])

set_option maxRecDepth 100000 in
set_option maxHeartbeats 400000 in
theorem C.spec_l10Hole (B : Nat) (hB1 : 67108864 ≤ B) (hB2 : B ≤ 9223372036854775807) (v : Vl.Value) (r : Bool) (hF : F.spec_l10Hole v = some r) : PureCall Try.prog B 92 [.agg [.lit (.int .i64 v.ctor), .lit (.int .i64 v.n), .arr (List.map Vl.Value.c v.kids)]] (.lit (.bool r)) := by
  unfold F.spec_l10Hole at hF
  refine PureCall.enterLe Try.func92 (by kernel_rfl) rfl Try.ntmps92 (by simp) (by simp) ?_
  simp -dsimp
  repeat (refine chk.go (by first | omega | assumption | (simp_all; done) | (simp_all; omega)) ?_; try simp -dsimp)
  refine abr.split (fun h1 => ?_) (fun h1 => ?_)
  · have q2 : (v.ctor = (-2)) := by first | exact h1 | omega | (simpa using h1) | (simp at h1 ⊢; omega) | simp_all
    rw [if_pos q2] at hF
    simp -dsimp [h1]
    repeat (refine chk.go (by first | omega | assumption | (simp_all; done) | (simp_all; omega)) ?_; try simp -dsimp [h1])
    refine abr.split (fun h3 => ?_) (fun h3 => ?_)
    · have q4 : (v.n = 0) := by first | exact h3 | omega | (simpa using h3) | (simp at h3 ⊢; omega) | simp_all
      rw [if_pos q4] at hF
      cases hF
      simp -dsimp [h1, h3]
      repeat (refine chk.go (by first | omega | assumption | (simp_all; done) | (simp_all; omega)) ?_; try simp -dsimp [h1, h3])
    · have q4 : ¬ (v.n = 0) := by first | exact h3 | omega | (simpa using h3) | (simp at h3 ⊢; omega) | simp_all
      rw [if_neg q4] at hF
      cases hF
      simp -dsimp [h1, h3, q4]
      repeat (refine chk.go (by first | omega | assumption | (simp_all; done) | (simp_all; omega)) ?_; try simp -dsimp [h1, h3, q4])
  · have q2 : ¬ (v.ctor = (-2)) := by first | exact h1 | omega | (simpa using h1) | (simp at h1 ⊢; omega) | simp_all
    rw [if_neg q2] at hF
    cases hF
    simp -dsimp [h1, q2]
    repeat (refine chk.go (by first | omega | assumption | (simp_all; done) | (simp_all; omega)) ?_; try simp -dsimp [h1, q2])

set_option maxRecDepth 100000 in
set_option maxHeartbeats 400000 in
theorem CC.spec_l1Has_l1 (B : Nat) (hB1 : 67108864 ≤ B) (hB2 : B ≤ 9223372036854775807) (list : List Int) (n : Int) : (∀ (i : Nat) (o : Lo Bool Unit), F.spec_l1Has_l1 list n i = some o → ∀ (c : Code), navO [1, 0, 1, 0, 0] (bodyOf Try.f94) = some c → ∀ (Q : Exit → ASt → Prop), o.post (fun r => ∀ st, Post Try.prog Try.f94 (fun r' _ => r'.le (.lit (.bool r))) .ret st → Q .ret st) (fun s => Q (.exit 0) ⟨[], []⟩) → ALoopU Try.prog B 0 18 (hold c .mk) ⟨[(0, .arr (List.map cI list)), (1, .lit (.int .i64 n)), (5, .lit (.int .i64 (i : Int)))], []⟩ (hold Q .mk)) := by
  refine F.spec_l1Has_l1.partial_correctness list n
    (fun i o => ∀ (c : Code), navO [1, 0, 1, 0, 0] (bodyOf Try.f94) = some c → ∀ (Q : Exit → ASt → Prop), o.post (fun r => ∀ st, Post Try.prog Try.f94 (fun r' _ => r'.le (.lit (.bool r))) .ret st → Q .ret st) (fun s => Q (.exit 0) ⟨[], []⟩) → ALoopU Try.prog B 0 18 (hold c .mk) ⟨[(0, .arr (List.map cI list)), (1, .lit (.int .i64 n)), (5, .lit (.int .i64 (i : Int)))], []⟩ (hold Q .mk))
    ?_
  · intro _f_spec_l1Has_l1 ih_spec_l1Has_l1 i o hF
    intro c hc Q hq
    obtain rfl : c = _ := navEq hc rfl
    refine ALoopU.know fun hk hs => ?_
    have b0 := hk 0
    simp -dsimp at b0
    clear hk hs
    refine ALoopU.enter ?_
    simp -dsimp
    repeat (refine chk.go (by first | omega | assumption | (simp_all; done) | (simp_all; omega)) ?_; try simp -dsimp)
    refine abr.split (fun h1 => ?_) (fun h1 => ?_)
    · have q2 : (i < list.length) := by first | exact h1 | omega | (simpa using h1) | (simp at h1 ⊢; omega) | simp_all
      have z3 : ((i : Int) < (list.length : Int)) := by first | omega | simp_all
      rw [if_pos q2] at hF
      have hF := ob hF; obtain ⟨x, e4, hF⟩ := hF
      have le4 := lt_of_get e4
      simp -dsimp [h1, z3, ↓e4]
      repeat (refine chk.go (by first | omega | assumption | (simp_all; done) | (simp_all; omega)) ?_; try simp -dsimp [h1, z3, ↓e4])
      refine abr.split (fun h5 => ?_) (fun h5 => ?_)
      · have q6 : (x = n) := by first | exact h5 | omega | (simpa using h5) | (simp at h5 ⊢; omega) | simp_all
        rw [if_pos q6] at hF
        cases hF
        simp -dsimp [h1, z3, ↓e4, h5]
        repeat (refine chk.go (by first | omega | assumption | (simp_all; done) | (simp_all; omega)) ?_; try simp -dsimp [h1, z3, ↓e4, h5])
        refine Leave.go _ (Gh.refl _) (hq _ ?_)
        simp -dsimp [h1, z3, ↓e4, h5]
        repeat (refine chk.go (by first | omega | assumption | (simp_all; done) | (simp_all; omega)) ?_; try simp -dsimp [h1, z3, ↓e4, h5])
      · have q6 : ¬ (x = n) := by first | exact h5 | omega | (simpa using h5) | (simp at h5 ⊢; omega) | simp_all
        rw [if_neg q6] at hF
        have w7 : IntKind.i64.wrap ((i : Int) + 1) = (i : Int) + 1 := wrap_in (by omega) (by omega)
        simp -dsimp [h1, z3, ↓e4, h5, q6, w7]
        repeat (refine chk.go (by first | omega | assumption | (simp_all; done) | (simp_all; omega)) ?_; try simp -dsimp [h1, z3, ↓e4, h5, q6, w7])
        refine Again.go ⟨[(0, .arr (List.map cI list)), (1, .lit (.int .i64 n)), (5, .lit (.int .i64 ((i + 1) : Int)))], []⟩ (Gh.to (by simp) (by first | (simp -dsimp; done) | (simp -dsimp [h1, z3, ↓e4, h5, q6, w7]; done) | simp_all) (by first | (simp -dsimp; done) | (simp -dsimp [h1, z3, ↓e4, h5, q6, w7]; done) | simp_all) (by first | (simp -dsimp; done) | (simp -dsimp [h1, z3, ↓e4, h5, q6, w7]; done) | simp_all)) ?_
        exact (ih_spec_l1Has_l1 (i + 1) o hF) _ rfl _ hq
    · have q2 : ¬ (i < list.length) := by first | exact h1 | omega | (simpa using h1) | (simp at h1 ⊢; omega) | simp_all
      have z3 : ¬ ((i : Int) < (list.length : Int)) := by first | omega | simp_all
      rw [if_neg q2] at hF
      cases hF
      simp -dsimp [h1, q2, z3]
      repeat (refine chk.go (by first | omega | assumption | (simp_all; done) | (simp_all; omega)) ?_; try simp -dsimp [h1, q2, z3])
      refine Leave.go ⟨[], []⟩ (Gh.to (by simp) (by first | (simp -dsimp; done) | (simp -dsimp [h1, q2, z3]; done) | simp_all) (by first | (simp -dsimp; done) | (simp -dsimp [h1, q2, z3]; done) | simp_all) (by first | (simp -dsimp; done) | (simp -dsimp [h1, q2, z3]; done) | simp_all)) ?_
      exact hq

theorem C.spec_l1Has_l1 (B : Nat) (hB1 : 67108864 ≤ B) (hB2 : B ≤ 9223372036854775807) (list : List Int) (n : Int) (i : Nat) (o : Lo Bool Unit) (hF : F.spec_l1Has_l1 list n i = some o) : ∀ (c : Code), navO [1, 0, 1, 0, 0] (bodyOf Try.f94) = some c → ∀ (Q : Exit → ASt → Prop), o.post (fun r => ∀ st, Post Try.prog Try.f94 (fun r' _ => r'.le (.lit (.bool r))) .ret st → Q .ret st) (fun s => Q (.exit 0) ⟨[], []⟩) → ALoopU Try.prog B 0 18 (hold c .mk) ⟨[(0, .arr (List.map cI list)), (1, .lit (.int .i64 n)), (5, .lit (.int .i64 (i : Int)))], []⟩ (hold Q .mk) :=
  (CC.spec_l1Has_l1 B hB1 hB2 list n) i o hF

set_option maxRecDepth 100000 in
set_option maxHeartbeats 400000 in
theorem C.spec_l1Has (B : Nat) (hB1 : 67108864 ≤ B) (hB2 : B ≤ 9223372036854775807) (list : List Int) (n : Int) (r : Bool) (hF : F.spec_l1Has list n = some r) : PureCall Try.prog B 94 [.arr (List.map cI list), .lit (.int .i64 n)] (.lit (.bool r)) := by
  unfold F.spec_l1Has at hF
  refine PureCall.enterLe Try.func94 (by kernel_rfl) rfl Try.ntmps94 (by simp) (by simp) ?_
  simp -dsimp
  repeat (refine chk.go (by first | omega | assumption | (simp_all; done) | (simp_all; omega)) ?_; try simp -dsimp)
  have hF := ob hF; obtain ⟨o', ho8, hF⟩ := hF
  refine ALoop.goU ⟨[(0, .arr (List.map cI list)), (1, .lit (.int .i64 n)), (5, .lit (.int .i64 (0 : Int)))], []⟩ (Gh.to (by simp) (by simp -dsimp) (by simp -dsimp) (by simp -dsimp)) ?_
  refine (C.spec_l1Has_l1 B hB1 hB2 list n 0 o' ho8) _ rfl _ ?_
  rcases o' with r0 | s
  · dsimp only at hF
    cases hF
    intro st h
    simpa using h
  · dsimp only at hF
    cases hF
    simp -dsimp
    repeat (refine chk.go (by first | omega | assumption | (simp_all; done) | (simp_all; omega)) ?_; try simp -dsimp)

set_option maxRecDepth 100000 in
set_option maxHeartbeats 400000 in
theorem CC.spec_l2Fits (B : Nat) (hB1 : 67108864 ≤ B) (hB2 : B ≤ 9223372036854775807) (w : List Vl.Data) : (∀ (t : Vl.Ty) (v : Vl.Value) (depth : Int) (r : Bool), F.spec_l2Fits w t v depth = some r → PureCall Try.prog B 93 [.arr (List.map Vl.Data.c w), .agg [.lit (.int .i64 t.data), .lit (.int .i64 t.index)], .agg [.lit (.int .i64 v.ctor), .lit (.int .i64 v.n), .arr (List.map Vl.Value.c v.kids)], .lit (.int .i64 depth)] (.lit (.bool r))) ∧
    (∀ (v : Vl.Value) (depth : Int) (v19 : List Vl.Ty) (i : Nat) (o : Lo Bool Unit), F.spec_l2Fits_l1 w v depth v19 i = some o → ∀ (c : Code), navO [1, 1, 1, 1, 1, 1, 0, 1, 0, 0] (bodyOf Try.f93) = some c → ∀ (Q : Exit → ASt → Prop), o.post (fun r => ∀ st, Post Try.prog Try.f93 (fun r' _ => r'.le (.lit (.bool r))) .ret st → Q .ret st) (fun s => Q (.exit 0) ⟨[], []⟩) → ALoopU Try.prog B 0 78 (hold c .mk) ⟨[(0, .arr (List.map Vl.Data.c w)), (3, .lit (.int .i64 depth)), (6, .ptr 1 0), (9, .arr (List.map Vl.Ty.c v19)), (10, .lit (.int .i64 (i : Int)))], [.dead, .cells [.lit (.int .i64 v.ctor), .lit (.int .i64 v.n), .arr (List.map Vl.Value.c v.kids)]]⟩ (hold Q .mk)) := by
  refine F.spec_l2Fits.mutual_partial_correctness w
    (fun t v depth r => PureCall Try.prog B 93 [.arr (List.map Vl.Data.c w), .agg [.lit (.int .i64 t.data), .lit (.int .i64 t.index)], .agg [.lit (.int .i64 v.ctor), .lit (.int .i64 v.n), .arr (List.map Vl.Value.c v.kids)], .lit (.int .i64 depth)] (.lit (.bool r)))
    (fun v depth v19 i o => ∀ (c : Code), navO [1, 1, 1, 1, 1, 1, 0, 1, 0, 0] (bodyOf Try.f93) = some c → ∀ (Q : Exit → ASt → Prop), o.post (fun r => ∀ st, Post Try.prog Try.f93 (fun r' _ => r'.le (.lit (.bool r))) .ret st → Q .ret st) (fun s => Q (.exit 0) ⟨[], []⟩) → ALoopU Try.prog B 0 78 (hold c .mk) ⟨[(0, .arr (List.map Vl.Data.c w)), (3, .lit (.int .i64 depth)), (6, .ptr 1 0), (9, .arr (List.map Vl.Ty.c v19)), (10, .lit (.int .i64 (i : Int)))], [.dead, .cells [.lit (.int .i64 v.ctor), .lit (.int .i64 v.n), .arr (List.map Vl.Value.c v.kids)]]⟩ (hold Q .mk))
    ?_ ?_
  · intro _f_spec_l2Fits_l1 ih_spec_l2Fits_l1 t v depth r hF
    refine PureCall.enterLe Try.func93 (by kernel_rfl) rfl Try.ntmps93 (by simp) (by simp) ?_
    simp -dsimp
    repeat (refine chk.go (by first | omega | assumption | (simp_all; done) | (simp_all; omega)) ?_; try simp -dsimp)
    refine abr.split (fun h1 => ?_) (fun h1 => ?_)
    · have q2 : (depth < 1) := by first | exact h1 | omega | (simpa using h1) | (simp at h1 ⊢; omega) | simp_all
      rw [if_pos q2] at hF
      cases hF
      simp -dsimp [h1]
      repeat (refine chk.go (by first | omega | assumption | (simp_all; done) | (simp_all; omega)) ?_; try simp -dsimp [h1])
    · have q2 : ¬ (depth < 1) := by first | exact h1 | omega | (simpa using h1) | (simp at h1 ⊢; omega) | simp_all
      rw [if_neg q2] at hF
      simp -dsimp [h1, q2]
      repeat (refine chk.go (by first | omega | assumption | (simp_all; done) | (simp_all; omega)) ?_; try simp -dsimp [h1, q2])
      refine abr.split (fun h3 => ?_) (fun h3 => ?_)
      · have q4 : (t.data = (-1)) := by first | exact h3 | omega | (simpa using h3) | (simp at h3 ⊢; omega) | simp_all
        rw [if_pos q4] at hF
        simp -dsimp [h1, q2, h3]
        repeat (refine chk.go (by first | omega | assumption | (simp_all; done) | (simp_all; omega)) ?_; try simp -dsimp [h1, q2, h3])
        refine abr.split (fun h5 => ?_) (fun h5 => ?_)
        · have q6 : (v.ctor = (-1)) := by first | exact h5 | omega | (simpa using h5) | (simp at h5 ⊢; omega) | simp_all
          rw [if_pos q6] at hF
          simp -dsimp [h1, q2, h3, h5]
          repeat (refine chk.go (by first | omega | assumption | (simp_all; done) | (simp_all; omega)) ?_; try simp -dsimp [h1, q2, h3, h5])
          refine abr.split (fun h7 => ?_) (fun h7 => ?_)
          · have q8 : (0 ≤ v.n) := by first | exact h7 | omega | (simpa using h7) | (simp at h7 ⊢; omega) | simp_all
            rw [if_pos q8] at hF
            simp -dsimp [h1, q2, h3, h5, h7]
            repeat (refine chk.go (by first | omega | assumption | (simp_all; done) | (simp_all; omega)) ?_; try simp -dsimp [h1, q2, h3, h5, h7])
            refine abr.split (fun h9 => ?_) (fun h9 => ?_)
            · have q10 : (v.n ≤ 9) := by first | exact h9 | omega | (simpa using h9) | (simp at h9 ⊢; omega) | simp_all
              rw [if_pos q10] at hF
              cases hF
              simp -dsimp [h1, q2, h3, h5, h7, h9]
              repeat (refine chk.go (by first | omega | assumption | (simp_all; done) | (simp_all; omega)) ?_; try simp -dsimp [h1, q2, h3, h5, h7, h9])
            · have q10 : ¬ (v.n ≤ 9) := by first | exact h9 | omega | (simpa using h9) | (simp at h9 ⊢; omega) | simp_all
              rw [if_neg q10] at hF
              cases hF
              simp -dsimp [h1, q2, h3, h5, h7, h9, q10]
              repeat (refine chk.go (by first | omega | assumption | (simp_all; done) | (simp_all; omega)) ?_; try simp -dsimp [h1, q2, h3, h5, h7, h9, q10])
          · have q8 : ¬ (0 ≤ v.n) := by first | exact h7 | omega | (simpa using h7) | (simp at h7 ⊢; omega) | simp_all
            rw [if_neg q8] at hF
            cases hF
            simp -dsimp [h1, q2, h3, h5, h7, q8]
            repeat (refine chk.go (by first | omega | assumption | (simp_all; done) | (simp_all; omega)) ?_; try simp -dsimp [h1, q2, h3, h5, h7, q8])
        · have q6 : ¬ (v.ctor = (-1)) := by first | exact h5 | omega | (simpa using h5) | (simp at h5 ⊢; omega) | simp_all
          rw [if_neg q6] at hF
          cases hF
          simp -dsimp [h1, q2, h3, h5, q6]
          repeat (refine chk.go (by first | omega | assumption | (simp_all; done) | (simp_all; omega)) ?_; try simp -dsimp [h1, q2, h3, h5, q6])
      · have q4 : ¬ (t.data = (-1)) := by first | exact h3 | omega | (simpa using h3) | (simp at h3 ⊢; omega) | simp_all
        rw [if_neg q4] at hF
        simp -dsimp [h1, q2, h3, q4]
        repeat (refine chk.go (by first | omega | assumption | (simp_all; done) | (simp_all; omega)) ?_; try simp -dsimp [h1, q2, h3, q4])
        refine ADraw.simple follows (by kernel_rfl) (by kernel_rfl) ?_
        simp -dsimp [h1, q2, h3, q4]
        repeat (refine chk.go (by first | omega | assumption | (simp_all; done) | (simp_all; omega)) ?_; try simp -dsimp [h1, q2, h3, q4])
        refine abr.split (fun h11 => ?_) (fun h11 => ?_)
        · have q12 : (v.n = 0) := by first | exact h11 | omega | (simpa using h11) | (simp at h11 ⊢; omega) | simp_all
          rw [if_pos q12] at hF
          simp -dsimp [h1, q2, h3, q4, h11]
          repeat (refine chk.go (by first | omega | assumption | (simp_all; done) | (simp_all; omega)) ?_; try simp -dsimp [h1, q2, h3, q4, h11])
          have hF := ob hF; obtain ⟨v13, e14, hF⟩ := hF
          refine ((C.spec_l1Ctors B hB1 hB2 w t v13 e14)).pgoW (by first | (simp; done) | (simp [h1, q2, h3, q4, h11]; done) | simp_all) (by simp) ?_
          simp -dsimp [h1, q2, h3, q4, h11]
          repeat (refine chk.go (by first | omega | assumption | (simp_all; done) | (simp_all; omega)) ?_; try simp -dsimp [h1, q2, h3, q4, h11])
          have hF := ob hF; obtain ⟨v15, e16, hF⟩ := hF
          refine ((C.spec_l1Has B hB1 hB2 v13 v.ctor v15 e16)).pgoW (by first | (simp; done) | (simp [h1, q2, h3, q4, h11]; done) | simp_all) (by simp) ?_
          simp -dsimp [h1, q2, h3, q4, h11]
          repeat (refine chk.go (by first | omega | assumption | (simp_all; done) | (simp_all; omega)) ?_; try simp -dsimp [h1, q2, h3, q4, h11])
          refine abr.split (fun h17 => ?_) (fun h17 => ?_)
          · have q18 : ¬ (v15 = true) := by first | exact h17 | omega | (simpa using h17) | (simp at h17 ⊢; omega) | simp_all
            rw [if_neg q18] at hF
            cases hF
            simp -dsimp [h1, q2, h3, q4, h11, h17, q18]
            repeat (refine chk.go (by first | omega | assumption | (simp_all; done) | (simp_all; omega)) ?_; try simp -dsimp [h1, q2, h3, q4, h11, h17, q18])
          · have q18 : (v15 = true) := by first | exact h17 | omega | (simpa using h17) | (simp at h17 ⊢; omega) | simp_all
            rw [if_pos q18] at hF
            simp -dsimp [h1, q2, h3, q4, h11, h17, q18]
            repeat (refine chk.go (by first | omega | assumption | (simp_all; done) | (simp_all; omega)) ?_; try simp -dsimp [h1, q2, h3, q4, h11, h17, q18])
            have hF := ob hF; obtain ⟨v19, e20, hF⟩ := hF
            refine ((C.spec_l1Args B hB1 hB2 w t v.ctor v19 e20)).goW (by first | (simp; done) | (simp [h1, q2, h3, q4, h11, h17, q18]; done) | simp_all) (by simp) ?_
            simp -dsimp [h1, q2, h3, q4, h11, h17, q18]
            repeat (refine chk.go (by first | omega | assumption | (simp_all; done) | (simp_all; omega)) ?_; try simp -dsimp [h1, q2, h3, q4, h11, h17, q18])
            refine abr.split (fun h21 => ?_) (fun h21 => ?_)
            · have q22 : ¬ (v.kids.length = v19.length) := by first | exact h21 | omega | (simpa using h21) | (simp at h21 ⊢; omega) | simp_all
              have z23 : ¬ ((v.kids.length : Int) = (v19.length : Int)) := by first | omega | simp_all
              rw [if_neg q22] at hF
              cases hF
              simp -dsimp [h1, q2, h3, q4, h11, h17, q18, h21, q22, z23]
              repeat (refine chk.go (by first | omega | assumption | (simp_all; done) | (simp_all; omega)) ?_; try simp -dsimp [h1, q2, h3, q4, h11, h17, q18, h21, q22, z23])
            · have q22 : (v.kids.length = v19.length) := by first | exact h21 | omega | (simpa using h21) | (simp at h21 ⊢; omega) | simp_all
              have z23 : ((v.kids.length : Int) = (v19.length : Int)) := by first | omega | simp_all
              rw [if_pos q22] at hF
              simp -dsimp [h1, q2, h3, q4, h11, h17, q18, h21, q22, z23]
              repeat (refine chk.go (by first | omega | assumption | (simp_all; done) | (simp_all; omega)) ?_; try simp -dsimp [h1, q2, h3, q4, h11, h17, q18, h21, q22, z23])
              have hF := ob hF; obtain ⟨o', ho35, hF⟩ := hF
              refine ALoop.goU ⟨[(0, .arr (List.map Vl.Data.c w)), (3, .lit (.int .i64 depth)), (6, .ptr 1 0), (9, .arr (List.map Vl.Ty.c v19)), (10, .lit (.int .i64 (0 : Int)))], [.dead, .cells [.lit (.int .i64 v.ctor), .lit (.int .i64 v.n), .arr (List.map Vl.Value.c v.kids)]]⟩ (Gh.to (by simp) (by first | (simp -dsimp; done) | (simp -dsimp [h1, q2, h3, q4, h11, h17, q18, h21, q22, z23]; done) | simp_all) (by first | (simp -dsimp; done) | (simp -dsimp [h1, q2, h3, q4, h11, h17, q18, h21, q22, z23]; done) | simp_all) (by first | (simp -dsimp; done) | (simp -dsimp [h1, q2, h3, q4, h11, h17, q18, h21, q22, z23]; done) | simp_all)) ?_
              refine (ih_spec_l2Fits_l1 v depth v19 0 o' ho35) _ rfl _ ?_
              rcases o' with r0 | s
              · dsimp only at hF
                cases hF
                intro st h
                simpa using h
              · dsimp only at hF
                cases hF
                simp -dsimp
                repeat (refine chk.go (by first | omega | assumption | (simp_all; done) | (simp_all; omega)) ?_; try simp -dsimp)
        · have q12 : ¬ (v.n = 0) := by first | exact h11 | omega | (simpa using h11) | (simp at h11 ⊢; omega) | simp_all
          rw [if_neg q12] at hF
          cases hF
          simp -dsimp [h1, q2, h3, q4, h11, q12]
          repeat (refine chk.go (by first | omega | assumption | (simp_all; done) | (simp_all; omega)) ?_; try simp -dsimp [h1, q2, h3, q4, h11, q12])
  · intro _f_spec_l2Fits _f_spec_l2Fits_l1 ih_spec_l2Fits ih_spec_l2Fits_l1 v depth v19 i o hF
    intro c hc Q hq
    obtain rfl : c = _ := navEq hc rfl
    refine ALoopU.know fun hk hs => ?_
    have b0 := hk 0
    simp -dsimp at b0
    have b9 := hk 9
    simp -dsimp at b9
    have d1 := hs 1 _ rfl
    simp -dsimp [Blk.bnd] at d1
    clear hk hs
    refine ALoopU.enter ?_
    simp -dsimp
    repeat (refine chk.go (by first | omega | assumption | (simp_all; done) | (simp_all; omega)) ?_; try simp -dsimp)
    refine abr.split (fun h24 => ?_) (fun h24 => ?_)
    · have q25 : (i < v19.length) := by first | exact h24 | omega | (simpa using h24) | (simp at h24 ⊢; omega) | simp_all
      have z26 : ((i : Int) < (v19.length : Int)) := by first | omega | simp_all
      rw [if_pos q25] at hF
      simp -dsimp [h24, z26]
      repeat (refine chk.go (by first | omega | assumption | (simp_all; done) | (simp_all; omega)) ?_; try simp -dsimp [h24, z26])
      refine ADraw.simple follows (by kernel_rfl) (by kernel_rfl) ?_
      have hF := ob hF; obtain ⟨x, e27, hF⟩ := hF
      have le27 := lt_of_get e27
      have hF := ob hF; obtain ⟨x28, e29, hF⟩ := hF
      have le29 := lt_of_get e29
      simp -dsimp [h24, z26, ↓e27, ↓e29]
      repeat (refine chk.go (by first | omega | assumption | (simp_all; done) | (simp_all; omega)) ?_; try simp -dsimp [h24, z26, ↓e27, ↓e29])
      have hF := ob hF; obtain ⟨v30, e31, hF⟩ := hF
      refine ((ih_spec_l2Fits x x28 (IntKind.i64.wrap (depth - 1)) v30 e31)).pgoW (by first | (simp; done) | (simp [h24, z26, ↓e27, ↓e29]; done) | simp_all) (by simp) ?_
      simp -dsimp [h24, z26, ↓e27, ↓e29]
      repeat (refine chk.go (by first | omega | assumption | (simp_all; done) | (simp_all; omega)) ?_; try simp -dsimp [h24, z26, ↓e27, ↓e29])
      refine abr.split (fun h32 => ?_) (fun h32 => ?_)
      · have q33 : ¬ (v30 = true) := by first | exact h32 | omega | (simpa using h32) | (simp at h32 ⊢; omega) | simp_all
        rw [if_neg q33] at hF
        cases hF
        simp -dsimp [h24, z26, ↓e27, ↓e29, h32, q33]
        repeat (refine chk.go (by first | omega | assumption | (simp_all; done) | (simp_all; omega)) ?_; try simp -dsimp [h24, z26, ↓e27, ↓e29, h32, q33])
        refine Leave.go _ (Gh.refl _) (hq _ ?_)
        simp -dsimp [h24, z26, ↓e27, ↓e29, h32, q33]
        repeat (refine chk.go (by first | omega | assumption | (simp_all; done) | (simp_all; omega)) ?_; try simp -dsimp [h24, z26, ↓e27, ↓e29, h32, q33])
      · have q33 : (v30 = true) := by first | exact h32 | omega | (simpa using h32) | (simp at h32 ⊢; omega) | simp_all
        rw [if_pos q33] at hF
        have w34 : IntKind.i64.wrap ((i : Int) + 1) = (i : Int) + 1 := wrap_in (by omega) (by omega)
        simp -dsimp [h24, z26, ↓e27, ↓e29, h32, q33, w34]
        repeat (refine chk.go (by first | omega | assumption | (simp_all; done) | (simp_all; omega)) ?_; try simp -dsimp [h24, z26, ↓e27, ↓e29, h32, q33, w34])
        refine Again.go ⟨[(0, .arr (List.map Vl.Data.c w)), (3, .lit (.int .i64 depth)), (6, .ptr 1 0), (9, .arr (List.map Vl.Ty.c v19)), (10, .lit (.int .i64 ((i + 1) : Int)))], [.dead, .cells [.lit (.int .i64 v.ctor), .lit (.int .i64 v.n), .arr (List.map Vl.Value.c v.kids)]]⟩ (Gh.to (by simp) (by first | (simp -dsimp; done) | (simp -dsimp [h24, z26, ↓e27, ↓e29, h32, q33, w34]; done) | simp_all) (by first | (simp -dsimp; done) | (simp -dsimp [h24, z26, ↓e27, ↓e29, h32, q33, w34]; done) | simp_all) (by first | (simp -dsimp; done) | (simp -dsimp [h24, z26, ↓e27, ↓e29, h32, q33, w34]; done) | simp_all)) ?_
        exact (ih_spec_l2Fits_l1 v depth v19 (i + 1) o hF) _ rfl _ hq
    · have q25 : ¬ (i < v19.length) := by first | exact h24 | omega | (simpa using h24) | (simp at h24 ⊢; omega) | simp_all
      have z26 : ¬ ((i : Int) < (v19.length : Int)) := by first | omega | simp_all
      rw [if_neg q25] at hF
      cases hF
      simp -dsimp [h24, q25, z26]
      repeat (refine chk.go (by first | omega | assumption | (simp_all; done) | (simp_all; omega)) ?_; try simp -dsimp [h24, q25, z26])
      refine Leave.go ⟨[], []⟩ (Gh.to (by simp) (by first | (simp -dsimp; done) | (simp -dsimp [h24, q25, z26]; done) | simp_all) (by first | (simp -dsimp; done) | (simp -dsimp [h24, q25, z26]; done) | simp_all) (by first | (simp -dsimp; done) | (simp -dsimp [h24, q25, z26]; done) | simp_all)) ?_
      exact hq

theorem C.spec_l2Fits (B : Nat) (hB1 : 67108864 ≤ B) (hB2 : B ≤ 9223372036854775807) (w : List Vl.Data) (t : Vl.Ty) (v : Vl.Value) (depth : Int) (r : Bool) (hF : F.spec_l2Fits w t v depth = some r) : PureCall Try.prog B 93 [.arr (List.map Vl.Data.c w), .agg [.lit (.int .i64 t.data), .lit (.int .i64 t.index)], .agg [.lit (.int .i64 v.ctor), .lit (.int .i64 v.n), .arr (List.map Vl.Value.c v.kids)], .lit (.int .i64 depth)] (.lit (.bool r)) :=
  (CC.spec_l2Fits B hB1 hB2 w).1 t v depth r hF

theorem C.spec_l2Fits_l1 (B : Nat) (hB1 : 67108864 ≤ B) (hB2 : B ≤ 9223372036854775807) (w : List Vl.Data) (v : Vl.Value) (depth : Int) (v19 : List Vl.Ty) (i : Nat) (o : Lo Bool Unit) (hF : F.spec_l2Fits_l1 w v depth v19 i = some o) : ∀ (c : Code), navO [1, 1, 1, 1, 1, 1, 0, 1, 0, 0] (bodyOf Try.f93) = some c → ∀ (Q : Exit → ASt → Prop), o.post (fun r => ∀ st, Post Try.prog Try.f93 (fun r' _ => r'.le (.lit (.bool r))) .ret st → Q .ret st) (fun s => Q (.exit 0) ⟨[], []⟩) → ALoopU Try.prog B 0 78 (hold c .mk) ⟨[(0, .arr (List.map Vl.Data.c w)), (3, .lit (.int .i64 depth)), (6, .ptr 1 0), (9, .arr (List.map Vl.Ty.c v19)), (10, .lit (.int .i64 (i : Int)))], [.dead, .cells [.lit (.int .i64 v.ctor), .lit (.int .i64 v.n), .arr (List.map Vl.Value.c v.kids)]]⟩ (hold Q .mk) :=
  (CC.spec_l2Fits B hB1 hB2 w).2 v depth v19 i o hF

set_option maxRecDepth 100000 in
set_option maxHeartbeats 400000 in
theorem CC.spec_l10Fits (B : Nat) (hB1 : 67108864 ≤ B) (hB2 : B ≤ 9223372036854775807) (w : List Vl.Data) : (∀ (t : Vl.Ty) (v : Vl.Value) (depth : Int) (r : Bool), F.spec_l10Fits w t v depth = some r → PureCall Try.prog B 63 [.arr (List.map Vl.Data.c w), .agg [.lit (.int .i64 t.data), .lit (.int .i64 t.index)], .agg [.lit (.int .i64 v.ctor), .lit (.int .i64 v.n), .arr (List.map Vl.Value.c v.kids)], .lit (.int .i64 depth)] (.lit (.bool r))) ∧
    (∀ (v : Vl.Value) (depth : Int) (v19 : List Vl.Ty) (i : Nat) (o : Lo Bool Unit), F.spec_l10Fits_l1 w v depth v19 i = some o → ∀ (c : Code), navO [1, 1, 1, 1, 1, 1, 1, 0, 1, 0, 0] (bodyOf Try.f63) = some c → ∀ (Q : Exit → ASt → Prop), o.post (fun r => ∀ st, Post Try.prog Try.f63 (fun r' _ => r'.le (.lit (.bool r))) .ret st → Q .ret st) (fun s => Q (.exit 0) ⟨[], []⟩) → ALoopU Try.prog B 0 69 (hold c .mk) ⟨[(0, .arr (List.map Vl.Data.c w)), (3, .lit (.int .i64 depth)), (6, .ptr 1 0), (9, .arr (List.map Vl.Ty.c v19)), (10, .lit (.int .i64 (i : Int)))], [.dead, .cells [.lit (.int .i64 v.ctor), .lit (.int .i64 v.n), .arr (List.map Vl.Value.c v.kids)]]⟩ (hold Q .mk)) := by
  refine F.spec_l10Fits.mutual_partial_correctness w
    (fun t v depth r => PureCall Try.prog B 63 [.arr (List.map Vl.Data.c w), .agg [.lit (.int .i64 t.data), .lit (.int .i64 t.index)], .agg [.lit (.int .i64 v.ctor), .lit (.int .i64 v.n), .arr (List.map Vl.Value.c v.kids)], .lit (.int .i64 depth)] (.lit (.bool r)))
    (fun v depth v19 i o => ∀ (c : Code), navO [1, 1, 1, 1, 1, 1, 1, 0, 1, 0, 0] (bodyOf Try.f63) = some c → ∀ (Q : Exit → ASt → Prop), o.post (fun r => ∀ st, Post Try.prog Try.f63 (fun r' _ => r'.le (.lit (.bool r))) .ret st → Q .ret st) (fun s => Q (.exit 0) ⟨[], []⟩) → ALoopU Try.prog B 0 69 (hold c .mk) ⟨[(0, .arr (List.map Vl.Data.c w)), (3, .lit (.int .i64 depth)), (6, .ptr 1 0), (9, .arr (List.map Vl.Ty.c v19)), (10, .lit (.int .i64 (i : Int)))], [.dead, .cells [.lit (.int .i64 v.ctor), .lit (.int .i64 v.n), .arr (List.map Vl.Value.c v.kids)]]⟩ (hold Q .mk))
    ?_ ?_
  · intro _f_spec_l10Fits_l1 ih_spec_l10Fits_l1 t v depth r hF
    refine PureCall.enterLe Try.func63 (by kernel_rfl) rfl Try.ntmps63 (by simp) (by simp) ?_
    simp -dsimp
    repeat (refine chk.go (by first | omega | assumption | (simp_all; done) | (simp_all; omega)) ?_; try simp -dsimp)
    refine abr.split (fun h1 => ?_) (fun h1 => ?_)
    · have q2 : (depth < 1) := by first | exact h1 | omega | (simpa using h1) | (simp at h1 ⊢; omega) | simp_all
      rw [if_pos q2] at hF
      cases hF
      simp -dsimp [h1]
      repeat (refine chk.go (by first | omega | assumption | (simp_all; done) | (simp_all; omega)) ?_; try simp -dsimp [h1])
    · have q2 : ¬ (depth < 1) := by first | exact h1 | omega | (simpa using h1) | (simp at h1 ⊢; omega) | simp_all
      rw [if_neg q2] at hF
      simp -dsimp [h1, q2]
      repeat (refine chk.go (by first | omega | assumption | (simp_all; done) | (simp_all; omega)) ?_; try simp -dsimp [h1, q2])
      refine abr.split (fun h3 => ?_) (fun h3 => ?_)
      · have q4 : (v.ctor = (-2)) := by first | exact h3 | omega | (simpa using h3) | (simp at h3 ⊢; omega) | simp_all
        rw [if_pos q4] at hF
        simp -dsimp [h1, q2, h3]
        repeat (refine chk.go (by first | omega | assumption | (simp_all; done) | (simp_all; omega)) ?_; try simp -dsimp [h1, q2, h3])
        have hF := ob hF; obtain ⟨v5, e6, hF⟩ := hF
        refine ((C.spec_l10Hole B hB1 hB2 v v5 e6)).goW (by first | (simp; done) | (simp [h1, q2, h3]; done) | simp_all) (by simp) ?_
        cases hF
        simp -dsimp [h1, q2, h3]
        repeat (refine chk.go (by first | omega | assumption | (simp_all; done) | (simp_all; omega)) ?_; try simp -dsimp [h1, q2, h3])
      · have q4 : ¬ (v.ctor = (-2)) := by first | exact h3 | omega | (simpa using h3) | (simp at h3 ⊢; omega) | simp_all
        rw [if_neg q4] at hF
        simp -dsimp [h1, q2, h3, q4]
        repeat (refine chk.go (by first | omega | assumption | (simp_all; done) | (simp_all; omega)) ?_; try simp -dsimp [h1, q2, h3, q4])
        refine abr.split (fun h7 => ?_) (fun h7 => ?_)
        · have q8 : (t.data = (-1)) := by first | exact h7 | omega | (simpa using h7) | (simp at h7 ⊢; omega) | simp_all
          rw [if_pos q8] at hF
          simp -dsimp [h1, q2, h3, q4, h7]
          repeat (refine chk.go (by first | omega | assumption | (simp_all; done) | (simp_all; omega)) ?_; try simp -dsimp [h1, q2, h3, q4, h7])
          have hF := ob hF; obtain ⟨v9, e10, hF⟩ := hF
          refine ((C.spec_l2Fits B hB1 hB2 w t v depth v9 e10)).goW (by first | (simp; done) | (simp [h1, q2, h3, q4, h7]; done) | simp_all) (by simp) ?_
          cases hF
          simp -dsimp [h1, q2, h3, q4, h7]
          repeat (refine chk.go (by first | omega | assumption | (simp_all; done) | (simp_all; omega)) ?_; try simp -dsimp [h1, q2, h3, q4, h7])
        · have q8 : ¬ (t.data = (-1)) := by first | exact h7 | omega | (simpa using h7) | (simp at h7 ⊢; omega) | simp_all
          rw [if_neg q8] at hF
          simp -dsimp [h1, q2, h3, q4, h7, q8]
          repeat (refine chk.go (by first | omega | assumption | (simp_all; done) | (simp_all; omega)) ?_; try simp -dsimp [h1, q2, h3, q4, h7, q8])
          refine ADraw.simple follows (by kernel_rfl) (by kernel_rfl) ?_
          simp -dsimp [h1, q2, h3, q4, h7, q8]
          repeat (refine chk.go (by first | omega | assumption | (simp_all; done) | (simp_all; omega)) ?_; try simp -dsimp [h1, q2, h3, q4, h7, q8])
          refine abr.split (fun h11 => ?_) (fun h11 => ?_)
          · have q12 : (v.n = 0) := by first | exact h11 | omega | (simpa using h11) | (simp at h11 ⊢; omega) | simp_all
            rw [if_pos q12] at hF
            simp -dsimp [h1, q2, h3, q4, h7, q8, h11]
            repeat (refine chk.go (by first | omega | assumption | (simp_all; done) | (simp_all; omega)) ?_; try simp -dsimp [h1, q2, h3, q4, h7, q8, h11])
            have hF := ob hF; obtain ⟨v13, e14, hF⟩ := hF
            refine ((C.spec_l1Ctors B hB1 hB2 w t v13 e14)).pgoW (by first | (simp; done) | (simp [h1, q2, h3, q4, h7, q8, h11]; done) | simp_all) (by simp) ?_
            simp -dsimp [h1, q2, h3, q4, h7, q8, h11]
            repeat (refine chk.go (by first | omega | assumption | (simp_all; done) | (simp_all; omega)) ?_; try simp -dsimp [h1, q2, h3, q4, h7, q8, h11])
            have hF := ob hF; obtain ⟨v15, e16, hF⟩ := hF
            refine ((C.spec_l1Has B hB1 hB2 v13 v.ctor v15 e16)).pgoW (by first | (simp; done) | (simp [h1, q2, h3, q4, h7, q8, h11]; done) | simp_all) (by simp) ?_
            simp -dsimp [h1, q2, h3, q4, h7, q8, h11]
            repeat (refine chk.go (by first | omega | assumption | (simp_all; done) | (simp_all; omega)) ?_; try simp -dsimp [h1, q2, h3, q4, h7, q8, h11])
            refine abr.split (fun h17 => ?_) (fun h17 => ?_)
            · have q18 : ¬ (v15 = true) := by first | exact h17 | omega | (simpa using h17) | (simp at h17 ⊢; omega) | simp_all
              rw [if_neg q18] at hF
              cases hF
              simp -dsimp [h1, q2, h3, q4, h7, q8, h11, h17, q18]
              repeat (refine chk.go (by first | omega | assumption | (simp_all; done) | (simp_all; omega)) ?_; try simp -dsimp [h1, q2, h3, q4, h7, q8, h11, h17, q18])
            · have q18 : (v15 = true) := by first | exact h17 | omega | (simpa using h17) | (simp at h17 ⊢; omega) | simp_all
              rw [if_pos q18] at hF
              simp -dsimp [h1, q2, h3, q4, h7, q8, h11, h17, q18]
              repeat (refine chk.go (by first | omega | assumption | (simp_all; done) | (simp_all; omega)) ?_; try simp -dsimp [h1, q2, h3, q4, h7, q8, h11, h17, q18])
              have hF := ob hF; obtain ⟨v19, e20, hF⟩ := hF
              refine ((C.spec_l1Args B hB1 hB2 w t v.ctor v19 e20)).goW (by first | (simp; done) | (simp [h1, q2, h3, q4, h7, q8, h11, h17, q18]; done) | simp_all) (by simp) ?_
              simp -dsimp [h1, q2, h3, q4, h7, q8, h11, h17, q18]
              repeat (refine chk.go (by first | omega | assumption | (simp_all; done) | (simp_all; omega)) ?_; try simp -dsimp [h1, q2, h3, q4, h7, q8, h11, h17, q18])
              refine abr.split (fun h21 => ?_) (fun h21 => ?_)
              · have q22 : ¬ (v.kids.length = v19.length) := by first | exact h21 | omega | (simpa using h21) | (simp at h21 ⊢; omega) | simp_all
                have z23 : ¬ ((v.kids.length : Int) = (v19.length : Int)) := by first | omega | simp_all
                rw [if_neg q22] at hF
                cases hF
                simp -dsimp [h1, q2, h3, q4, h7, q8, h11, h17, q18, h21, q22, z23]
                repeat (refine chk.go (by first | omega | assumption | (simp_all; done) | (simp_all; omega)) ?_; try simp -dsimp [h1, q2, h3, q4, h7, q8, h11, h17, q18, h21, q22, z23])
              · have q22 : (v.kids.length = v19.length) := by first | exact h21 | omega | (simpa using h21) | (simp at h21 ⊢; omega) | simp_all
                have z23 : ((v.kids.length : Int) = (v19.length : Int)) := by first | omega | simp_all
                rw [if_pos q22] at hF
                simp -dsimp [h1, q2, h3, q4, h7, q8, h11, h17, q18, h21, q22, z23]
                repeat (refine chk.go (by first | omega | assumption | (simp_all; done) | (simp_all; omega)) ?_; try simp -dsimp [h1, q2, h3, q4, h7, q8, h11, h17, q18, h21, q22, z23])
                have hF := ob hF; obtain ⟨o', ho35, hF⟩ := hF
                refine ALoop.goU ⟨[(0, .arr (List.map Vl.Data.c w)), (3, .lit (.int .i64 depth)), (6, .ptr 1 0), (9, .arr (List.map Vl.Ty.c v19)), (10, .lit (.int .i64 (0 : Int)))], [.dead, .cells [.lit (.int .i64 v.ctor), .lit (.int .i64 v.n), .arr (List.map Vl.Value.c v.kids)]]⟩ (Gh.to (by simp) (by first | (simp -dsimp; done) | (simp -dsimp [h1, q2, h3, q4, h7, q8, h11, h17, q18, h21, q22, z23]; done) | simp_all) (by first | (simp -dsimp; done) | (simp -dsimp [h1, q2, h3, q4, h7, q8, h11, h17, q18, h21, q22, z23]; done) | simp_all) (by first | (simp -dsimp; done) | (simp -dsimp [h1, q2, h3, q4, h7, q8, h11, h17, q18, h21, q22, z23]; done) | simp_all)) ?_
                refine (ih_spec_l10Fits_l1 v depth v19 0 o' ho35) _ rfl _ ?_
                rcases o' with r0 | s
                · dsimp only at hF
                  cases hF
                  intro st h
                  simpa using h
                · dsimp only at hF
                  cases hF
                  simp -dsimp
                  repeat (refine chk.go (by first | omega | assumption | (simp_all; done) | (simp_all; omega)) ?_; try simp -dsimp)
          · have q12 : ¬ (v.n = 0) := by first | exact h11 | omega | (simpa using h11) | (simp at h11 ⊢; omega) | simp_all
            rw [if_neg q12] at hF
            cases hF
            simp -dsimp [h1, q2, h3, q4, h7, q8, h11, q12]
            repeat (refine chk.go (by first | omega | assumption | (simp_all; done) | (simp_all; omega)) ?_; try simp -dsimp [h1, q2, h3, q4, h7, q8, h11, q12])
  · intro _f_spec_l10Fits _f_spec_l10Fits_l1 ih_spec_l10Fits ih_spec_l10Fits_l1 v depth v19 i o hF
    intro c hc Q hq
    obtain rfl : c = _ := navEq hc rfl
    refine ALoopU.know fun hk hs => ?_
    have b0 := hk 0
    simp -dsimp at b0
    have b9 := hk 9
    simp -dsimp at b9
    have d1 := hs 1 _ rfl
    simp -dsimp [Blk.bnd] at d1
    clear hk hs
    refine ALoopU.enter ?_
    simp -dsimp
    repeat (refine chk.go (by first | omega | assumption | (simp_all; done) | (simp_all; omega)) ?_; try simp -dsimp)
    refine abr.split (fun h24 => ?_) (fun h24 => ?_)
    · have q25 : (i < v19.length) := by first | exact h24 | omega | (simpa using h24) | (simp at h24 ⊢; omega) | simp_all
      have z26 : ((i : Int) < (v19.length : Int)) := by first | omega | simp_all
      rw [if_pos q25] at hF
      simp -dsimp [h24, z26]
      repeat (refine chk.go (by first | omega | assumption | (simp_all; done) | (simp_all; omega)) ?_; try simp -dsimp [h24, z26])
      refine ADraw.simple follows (by kernel_rfl) (by kernel_rfl) ?_
      have hF := ob hF; obtain ⟨x, e27, hF⟩ := hF
      have le27 := lt_of_get e27
      have hF := ob hF; obtain ⟨x28, e29, hF⟩ := hF
      have le29 := lt_of_get e29
      simp -dsimp [h24, z26, ↓e27, ↓e29]
      repeat (refine chk.go (by first | omega | assumption | (simp_all; done) | (simp_all; omega)) ?_; try simp -dsimp [h24, z26, ↓e27, ↓e29])
      have hF := ob hF; obtain ⟨v30, e31, hF⟩ := hF
      refine ((ih_spec_l10Fits x x28 (IntKind.i64.wrap (depth - 1)) v30 e31)).pgoW (by first | (simp; done) | (simp [h24, z26, ↓e27, ↓e29]; done) | simp_all) (by simp) ?_
      simp -dsimp [h24, z26, ↓e27, ↓e29]
      repeat (refine chk.go (by first | omega | assumption | (simp_all; done) | (simp_all; omega)) ?_; try simp -dsimp [h24, z26, ↓e27, ↓e29])
      refine abr.split (fun h32 => ?_) (fun h32 => ?_)
      · have q33 : ¬ (v30 = true) := by first | exact h32 | omega | (simpa using h32) | (simp at h32 ⊢; omega) | simp_all
        rw [if_neg q33] at hF
        cases hF
        simp -dsimp [h24, z26, ↓e27, ↓e29, h32, q33]
        repeat (refine chk.go (by first | omega | assumption | (simp_all; done) | (simp_all; omega)) ?_; try simp -dsimp [h24, z26, ↓e27, ↓e29, h32, q33])
        refine Leave.go _ (Gh.refl _) (hq _ ?_)
        simp -dsimp [h24, z26, ↓e27, ↓e29, h32, q33]
        repeat (refine chk.go (by first | omega | assumption | (simp_all; done) | (simp_all; omega)) ?_; try simp -dsimp [h24, z26, ↓e27, ↓e29, h32, q33])
      · have q33 : (v30 = true) := by first | exact h32 | omega | (simpa using h32) | (simp at h32 ⊢; omega) | simp_all
        rw [if_pos q33] at hF
        have w34 : IntKind.i64.wrap ((i : Int) + 1) = (i : Int) + 1 := wrap_in (by omega) (by omega)
        simp -dsimp [h24, z26, ↓e27, ↓e29, h32, q33, w34]
        repeat (refine chk.go (by first | omega | assumption | (simp_all; done) | (simp_all; omega)) ?_; try simp -dsimp [h24, z26, ↓e27, ↓e29, h32, q33, w34])
        refine Again.go ⟨[(0, .arr (List.map Vl.Data.c w)), (3, .lit (.int .i64 depth)), (6, .ptr 1 0), (9, .arr (List.map Vl.Ty.c v19)), (10, .lit (.int .i64 ((i + 1) : Int)))], [.dead, .cells [.lit (.int .i64 v.ctor), .lit (.int .i64 v.n), .arr (List.map Vl.Value.c v.kids)]]⟩ (Gh.to (by simp) (by first | (simp -dsimp; done) | (simp -dsimp [h24, z26, ↓e27, ↓e29, h32, q33, w34]; done) | simp_all) (by first | (simp -dsimp; done) | (simp -dsimp [h24, z26, ↓e27, ↓e29, h32, q33, w34]; done) | simp_all) (by first | (simp -dsimp; done) | (simp -dsimp [h24, z26, ↓e27, ↓e29, h32, q33, w34]; done) | simp_all)) ?_
        exact (ih_spec_l10Fits_l1 v depth v19 (i + 1) o hF) _ rfl _ hq
    · have q25 : ¬ (i < v19.length) := by first | exact h24 | omega | (simpa using h24) | (simp at h24 ⊢; omega) | simp_all
      have z26 : ¬ ((i : Int) < (v19.length : Int)) := by first | omega | simp_all
      rw [if_neg q25] at hF
      cases hF
      simp -dsimp [h24, q25, z26]
      repeat (refine chk.go (by first | omega | assumption | (simp_all; done) | (simp_all; omega)) ?_; try simp -dsimp [h24, q25, z26])
      refine Leave.go ⟨[], []⟩ (Gh.to (by simp) (by first | (simp -dsimp; done) | (simp -dsimp [h24, q25, z26]; done) | simp_all) (by first | (simp -dsimp; done) | (simp -dsimp [h24, q25, z26]; done) | simp_all) (by first | (simp -dsimp; done) | (simp -dsimp [h24, q25, z26]; done) | simp_all)) ?_
      exact hq

theorem C.spec_l10Fits (B : Nat) (hB1 : 67108864 ≤ B) (hB2 : B ≤ 9223372036854775807) (w : List Vl.Data) (t : Vl.Ty) (v : Vl.Value) (depth : Int) (r : Bool) (hF : F.spec_l10Fits w t v depth = some r) : PureCall Try.prog B 63 [.arr (List.map Vl.Data.c w), .agg [.lit (.int .i64 t.data), .lit (.int .i64 t.index)], .agg [.lit (.int .i64 v.ctor), .lit (.int .i64 v.n), .arr (List.map Vl.Value.c v.kids)], .lit (.int .i64 depth)] (.lit (.bool r)) :=
  (CC.spec_l10Fits B hB1 hB2 w).1 t v depth r hF

theorem C.spec_l10Fits_l1 (B : Nat) (hB1 : 67108864 ≤ B) (hB2 : B ≤ 9223372036854775807) (w : List Vl.Data) (v : Vl.Value) (depth : Int) (v19 : List Vl.Ty) (i : Nat) (o : Lo Bool Unit) (hF : F.spec_l10Fits_l1 w v depth v19 i = some o) : ∀ (c : Code), navO [1, 1, 1, 1, 1, 1, 1, 0, 1, 0, 0] (bodyOf Try.f63) = some c → ∀ (Q : Exit → ASt → Prop), o.post (fun r => ∀ st, Post Try.prog Try.f63 (fun r' _ => r'.le (.lit (.bool r))) .ret st → Q .ret st) (fun s => Q (.exit 0) ⟨[], []⟩) → ALoopU Try.prog B 0 69 (hold c .mk) ⟨[(0, .arr (List.map Vl.Data.c w)), (3, .lit (.int .i64 depth)), (6, .ptr 1 0), (9, .arr (List.map Vl.Ty.c v19)), (10, .lit (.int .i64 (i : Int)))], [.dead, .cells [.lit (.int .i64 v.ctor), .lit (.int .i64 v.n), .arr (List.map Vl.Value.c v.kids)]]⟩ (hold Q .mk) :=
  (CC.spec_l10Fits B hB1 hB2 w).2 v depth v19 i o hF

set_option maxRecDepth 100000 in
set_option maxHeartbeats 400000 in
theorem CC.spec_l2Count (B : Nat) (hB1 : 67108864 ≤ B) (hB2 : B ≤ 9223372036854775807)  : (∀ (v : Vl.Value) (most : Int) (r : Int), F.spec_l2Count v most = some r → PureCall Try.prog B 64 [.agg [.lit (.int .i64 v.ctor), .lit (.int .i64 v.n), .arr (List.map Vl.Value.c v.kids)], .lit (.int .i64 most)] (.lit (.int .i64 r))) ∧
    (∀ (v : Vl.Value) (most : Int) (n : Int) (i : Nat) (o : Int), F.spec_l2Count_l1 v most n i = some o → ∀ (c : Code), navO [1, 1, 0, 1, 0, 0] (bodyOf Try.f64) = some c → ∀ (Q : Exit → ASt → Prop), Q (.exit 0) ⟨[(5, .lit (.int .i64 o))], []⟩ → ALoopU Try.prog B 0 31 (hold c .mk) ⟨[(1, .lit (.int .i64 most)), (2, .ptr 0 0), (5, .lit (.int .i64 n)), (6, .lit (.int .i64 (i : Int)))], [.cells [.lit (.int .i64 v.ctor), .lit (.int .i64 v.n), .arr (List.map Vl.Value.c v.kids)]]⟩ (hold Q .mk)) := by
  refine F.spec_l2Count.mutual_partial_correctness 
    (fun v most r => PureCall Try.prog B 64 [.agg [.lit (.int .i64 v.ctor), .lit (.int .i64 v.n), .arr (List.map Vl.Value.c v.kids)], .lit (.int .i64 most)] (.lit (.int .i64 r)))
    (fun v most n i o => ∀ (c : Code), navO [1, 1, 0, 1, 0, 0] (bodyOf Try.f64) = some c → ∀ (Q : Exit → ASt → Prop), Q (.exit 0) ⟨[(5, .lit (.int .i64 o))], []⟩ → ALoopU Try.prog B 0 31 (hold c .mk) ⟨[(1, .lit (.int .i64 most)), (2, .ptr 0 0), (5, .lit (.int .i64 n)), (6, .lit (.int .i64 (i : Int)))], [.cells [.lit (.int .i64 v.ctor), .lit (.int .i64 v.n), .arr (List.map Vl.Value.c v.kids)]]⟩ (hold Q .mk))
    ?_ ?_
  · intro _f_spec_l2Count_l1 ih_spec_l2Count_l1 v most r hF
    refine PureCall.enterLe Try.func64 (by kernel_rfl) rfl Try.ntmps64 (by simp) (by simp) ?_
    simp -dsimp
    repeat (refine chk.go (by first | omega | assumption | (simp_all; done) | (simp_all; omega)) ?_; try simp -dsimp)
    have hF := ob hF; obtain ⟨o', ho10, hF⟩ := hF
    refine ALoop.goU ⟨[(1, .lit (.int .i64 most)), (2, .ptr 0 0), (5, .lit (.int .i64 (1 : Int))), (6, .lit (.int .i64 (0 : Int)))], [.cells [.lit (.int .i64 v.ctor), .lit (.int .i64 v.n), .arr (List.map Vl.Value.c v.kids)]]⟩ (Gh.to (by simp) (by simp -dsimp) (by simp -dsimp) (by simp -dsimp)) ?_
    refine (ih_spec_l2Count_l1 v most (1 : Int) 0 o' ho10) _ rfl _ ?_
    cases hF
    simp -dsimp
    repeat (refine chk.go (by first | omega | assumption | (simp_all; done) | (simp_all; omega)) ?_; try simp -dsimp)
  · intro _f_spec_l2Count _f_spec_l2Count_l1 ih_spec_l2Count ih_spec_l2Count_l1 v most n i o hF
    intro c hc Q hq
    obtain rfl : c = _ := navEq hc rfl
    refine ALoopU.know fun hk hs => ?_
    have d0 := hs 0 _ rfl
    simp -dsimp [Blk.bnd] at d0
    clear hk hs
    refine ALoopU.enter ?_
    simp -dsimp
    repeat (refine chk.go (by first | omega | assumption | (simp_all; done) | (simp_all; omega)) ?_; try simp -dsimp)
    refine abr.split (fun h1 => ?_) (fun h1 => ?_)
    · have q2 : (i < v.kids.length) := by first | exact h1 | omega | (simpa using h1) | (simp at h1 ⊢; omega) | simp_all
      have z3 : ((i : Int) < (v.kids.length : Int)) := by first | omega | simp_all
      rw [if_pos q2] at hF
      simp -dsimp [h1, z3]
      repeat (refine chk.go (by first | omega | assumption | (simp_all; done) | (simp_all; omega)) ?_; try simp -dsimp [h1, z3])
      refine abr.split (fun h4 => ?_) (fun h4 => ?_)
      · have q5 : (n ≤ most) := by first | exact h4 | omega | (simpa using h4) | (simp at h4 ⊢; omega) | simp_all
        rw [if_pos q5] at hF
        have hF := ob hF; obtain ⟨x, e6, hF⟩ := hF
        have le6 := lt_of_get e6
        simp -dsimp [h1, z3, h4, ↓e6]
        repeat (refine chk.go (by first | omega | assumption | (simp_all; done) | (simp_all; omega)) ?_; try simp -dsimp [h1, z3, h4, ↓e6])
        have hF := ob hF; obtain ⟨v7, e8, hF⟩ := hF
        refine ((ih_spec_l2Count x (IntKind.i64.wrap (most - n)) v7 e8)).goW (by first | (simp; done) | (simp [h1, z3, h4, ↓e6]; done) | simp_all) (by simp) ?_
        have w9 : IntKind.i64.wrap ((i : Int) + 1) = (i : Int) + 1 := wrap_in (by omega) (by omega)
        simp -dsimp [h1, z3, h4, ↓e6, w9]
        repeat (refine chk.go (by first | omega | assumption | (simp_all; done) | (simp_all; omega)) ?_; try simp -dsimp [h1, z3, h4, ↓e6, w9])
        refine Again.go ⟨[(1, .lit (.int .i64 most)), (2, .ptr 0 0), (5, .lit (.int .i64 (IntKind.i64.wrap (n + v7)))), (6, .lit (.int .i64 ((i + 1) : Int)))], [.cells [.lit (.int .i64 v.ctor), .lit (.int .i64 v.n), .arr (List.map Vl.Value.c v.kids)]]⟩ (Gh.to (by simp) (by first | (simp -dsimp; done) | (simp -dsimp [h1, z3, h4, ↓e6, w9]; done) | simp_all) (by first | (simp -dsimp; done) | (simp -dsimp [h1, z3, h4, ↓e6, w9]; done) | simp_all) (by first | (simp -dsimp; done) | (simp -dsimp [h1, z3, h4, ↓e6, w9]; done) | simp_all)) ?_
        exact (ih_spec_l2Count_l1 v most (IntKind.i64.wrap (n + v7)) (i + 1) o hF) _ rfl _ hq
      · have q5 : ¬ (n ≤ most) := by first | exact h4 | omega | (simpa using h4) | (simp at h4 ⊢; omega) | simp_all
        rw [if_neg q5] at hF
        cases hF
        simp -dsimp [h1, z3, h4, q5]
        repeat (refine chk.go (by first | omega | assumption | (simp_all; done) | (simp_all; omega)) ?_; try simp -dsimp [h1, z3, h4, q5])
        refine Leave.go ⟨[(5, .lit (.int .i64 n))], []⟩ (Gh.to (by simp) (by first | (simp -dsimp; done) | (simp -dsimp [h1, z3, h4, q5]; done) | simp_all) (by first | (simp -dsimp; done) | (simp -dsimp [h1, z3, h4, q5]; done) | simp_all) (by first | (simp -dsimp; done) | (simp -dsimp [h1, z3, h4, q5]; done) | simp_all)) ?_
        exact hq
    · have q2 : ¬ (i < v.kids.length) := by first | exact h1 | omega | (simpa using h1) | (simp at h1 ⊢; omega) | simp_all
      have z3 : ¬ ((i : Int) < (v.kids.length : Int)) := by first | omega | simp_all
      rw [if_neg q2] at hF
      cases hF
      simp -dsimp [h1, q2, z3]
      repeat (refine chk.go (by first | omega | assumption | (simp_all; done) | (simp_all; omega)) ?_; try simp -dsimp [h1, q2, z3])
      refine Leave.go ⟨[(5, .lit (.int .i64 n))], []⟩ (Gh.to (by simp) (by first | (simp -dsimp; done) | (simp -dsimp [h1, q2, z3]; done) | simp_all) (by first | (simp -dsimp; done) | (simp -dsimp [h1, q2, z3]; done) | simp_all) (by first | (simp -dsimp; done) | (simp -dsimp [h1, q2, z3]; done) | simp_all)) ?_
      exact hq

theorem C.spec_l2Count (B : Nat) (hB1 : 67108864 ≤ B) (hB2 : B ≤ 9223372036854775807) (v : Vl.Value) (most : Int) (r : Int) (hF : F.spec_l2Count v most = some r) : PureCall Try.prog B 64 [.agg [.lit (.int .i64 v.ctor), .lit (.int .i64 v.n), .arr (List.map Vl.Value.c v.kids)], .lit (.int .i64 most)] (.lit (.int .i64 r)) :=
  (CC.spec_l2Count B hB1 hB2 ).1 v most r hF

theorem C.spec_l2Count_l1 (B : Nat) (hB1 : 67108864 ≤ B) (hB2 : B ≤ 9223372036854775807) (v : Vl.Value) (most : Int) (n : Int) (i : Nat) (o : Int) (hF : F.spec_l2Count_l1 v most n i = some o) : ∀ (c : Code), navO [1, 1, 0, 1, 0, 0] (bodyOf Try.f64) = some c → ∀ (Q : Exit → ASt → Prop), Q (.exit 0) ⟨[(5, .lit (.int .i64 o))], []⟩ → ALoopU Try.prog B 0 31 (hold c .mk) ⟨[(1, .lit (.int .i64 most)), (2, .ptr 0 0), (5, .lit (.int .i64 n)), (6, .lit (.int .i64 (i : Int)))], [.cells [.lit (.int .i64 v.ctor), .lit (.int .i64 v.n), .arr (List.map Vl.Value.c v.kids)]]⟩ (hold Q .mk) :=
  (CC.spec_l2Count B hB1 hB2 ).2 v most n i o hF

set_option maxRecDepth 100000 in
set_option maxHeartbeats 400000 in
theorem C.spec_l10Is (B : Nat) (hB1 : 67108864 ≤ B) (hB2 : B ≤ 9223372036854775807) (w : List Vl.Data) (t : Vl.Ty) (v : Vl.Value) (r : Bool) (hF : F.spec_l10Is w t v = some r) : PureCall Try.prog B 36 [.arr (List.map Vl.Data.c w), .agg [.lit (.int .i64 t.data), .lit (.int .i64 t.index)], .agg [.lit (.int .i64 v.ctor), .lit (.int .i64 v.n), .arr (List.map Vl.Value.c v.kids)]] (.lit (.bool r)) := by
  unfold F.spec_l10Is at hF
  refine PureCall.enterLe Try.func36 (by kernel_rfl) rfl Try.ntmps36 (by simp) (by simp) ?_
  simp -dsimp
  repeat (refine chk.go (by first | omega | assumption | (simp_all; done) | (simp_all; omega)) ?_; try simp -dsimp)
  have hF := ob hF; obtain ⟨v1, e2, hF⟩ := hF
  refine ((C.spec_l10Fits B hB1 hB2 w t v (10 : Int) v1 e2)).goW (by simp) (by simp) ?_
  simp -dsimp
  repeat (refine chk.go (by first | omega | assumption | (simp_all; done) | (simp_all; omega)) ?_; try simp -dsimp)
  refine abr.split (fun h3 => ?_) (fun h3 => ?_)
  · have q4 : (v1 = true) := by first | exact h3 | omega | (simpa using h3) | (simp at h3 ⊢; omega) | simp_all
    rw [if_pos q4] at hF
    simp -dsimp [h3]
    repeat (refine chk.go (by first | omega | assumption | (simp_all; done) | (simp_all; omega)) ?_; try simp -dsimp [h3])
    have hF := ob hF; obtain ⟨v5, e6, hF⟩ := hF
    refine ((C.spec_l2Count B hB1 hB2 v (60 : Int) v5 e6)).goW (by first | (simp; done) | (simp [h3]; done) | simp_all) (by simp) ?_
    cases hF
    simp -dsimp [h3]
    repeat (refine chk.go (by first | omega | assumption | (simp_all; done) | (simp_all; omega)) ?_; try simp -dsimp [h3])
  · have q4 : ¬ (v1 = true) := by first | exact h3 | omega | (simpa using h3) | (simp at h3 ⊢; omega) | simp_all
    rw [if_neg q4] at hF
    cases hF
    simp -dsimp [h3, q4]
    repeat (refine chk.go (by first | omega | assumption | (simp_all; done) | (simp_all; omega)) ?_; try simp -dsimp [h3, q4])

set_option maxRecDepth 100000 in
set_option maxHeartbeats 400000 in
theorem C.spec_PartialValid (B : Nat) (hB1 : 67108864 ≤ B) (hB2 : B ≤ 9223372036854775807) (w : List Vl.Data) (t : Vl.Ty) (v : Vl.Value) (r : Bool) (hF : F.spec_PartialValid w t v = some r) : PureCall Try.prog B 15 [.arr (List.map Vl.Data.c w), .agg [.lit (.int .i64 t.data), .lit (.int .i64 t.index)], .agg [.lit (.int .i64 v.ctor), .lit (.int .i64 v.n), .arr (List.map Vl.Value.c v.kids)]] (.lit (.bool r)) := by
  unfold F.spec_PartialValid at hF
  refine PureCall.enterLe Try.func15 (by kernel_rfl) rfl Try.ntmps15 (by simp) (by simp) ?_
  simp -dsimp
  repeat (refine chk.go (by first | omega | assumption | (simp_all; done) | (simp_all; omega)) ?_; try simp -dsimp)
  have hF := ob hF; obtain ⟨v1, e2, hF⟩ := hF
  refine ((C.spec_TypeValid B hB1 hB2 w t v1 e2)).goW (by simp) (by simp) ?_
  simp -dsimp
  repeat (refine chk.go (by first | omega | assumption | (simp_all; done) | (simp_all; omega)) ?_; try simp -dsimp)
  refine abr.split (fun h3 => ?_) (fun h3 => ?_)
  · have q4 : (v1 = true) := by first | exact h3 | omega | (simpa using h3) | (simp at h3 ⊢; omega) | simp_all
    rw [if_pos q4] at hF
    simp -dsimp [h3]
    repeat (refine chk.go (by first | omega | assumption | (simp_all; done) | (simp_all; omega)) ?_; try simp -dsimp [h3])
    have hF := ob hF; obtain ⟨v5, e6, hF⟩ := hF
    refine ((C.spec_l10Is B hB1 hB2 w t v v5 e6)).goW (by first | (simp; done) | (simp [h3]; done) | simp_all) (by simp) ?_
    cases hF
    simp -dsimp [h3]
    repeat (refine chk.go (by first | omega | assumption | (simp_all; done) | (simp_all; omega)) ?_; try simp -dsimp [h3])
  · have q4 : ¬ (v1 = true) := by first | exact h3 | omega | (simpa using h3) | (simp at h3 ⊢; omega) | simp_all
    rw [if_neg q4] at hF
    cases hF
    simp -dsimp [h3, q4]
    repeat (refine chk.go (by first | omega | assumption | (simp_all; done) | (simp_all; omega)) ?_; try simp -dsimp [h3, q4])

set_option maxRecDepth 100000 in
set_option maxHeartbeats 400000 in
theorem CC.spec_l10More (B : Nat) (hB1 : 67108864 ≤ B) (hB2 : B ≤ 9223372036854775807)  : (∀ (a : Vl.Value) (b : Vl.Value) (r : Bool), F.spec_l10More a b = some r → PureCall Try.prog B 29 [.agg [.lit (.int .i64 a.ctor), .lit (.int .i64 a.n), .arr (List.map Vl.Value.c a.kids)], .agg [.lit (.int .i64 b.ctor), .lit (.int .i64 b.n), .arr (List.map Vl.Value.c b.kids)]] (.lit (.bool r))) ∧
    (∀ (a : Vl.Value) (b : Vl.Value) (i : Nat) (o : Lo Bool Unit), F.spec_l10More_l1 a b i = some o → ∀ (c : Code), navO [1, 1, 1, 0, 1, 0, 0] (bodyOf Try.f29) = some c → ∀ (Q : Exit → ASt → Prop), o.post (fun r => ∀ st, Post Try.prog Try.f29 (fun r' _ => r'.le (.lit (.bool r))) .ret st → Q .ret st) (fun s => Q (.exit 0) ⟨[], []⟩) → ALoopU Try.prog B 0 40 (hold c .mk) ⟨[(2, .ptr 0 0), (3, .ptr 1 0), (5, .lit (.int .i64 (i : Int)))], [.cells [.lit (.int .i64 a.ctor), .lit (.int .i64 a.n), .arr (List.map Vl.Value.c a.kids)], .cells [.lit (.int .i64 b.ctor), .lit (.int .i64 b.n), .arr (List.map Vl.Value.c b.kids)]]⟩ (hold Q .mk)) := by
  refine F.spec_l10More.mutual_partial_correctness 
    (fun a b r => PureCall Try.prog B 29 [.agg [.lit (.int .i64 a.ctor), .lit (.int .i64 a.n), .arr (List.map Vl.Value.c a.kids)], .agg [.lit (.int .i64 b.ctor), .lit (.int .i64 b.n), .arr (List.map Vl.Value.c b.kids)]] (.lit (.bool r)))
    (fun a b i o => ∀ (c : Code), navO [1, 1, 1, 0, 1, 0, 0] (bodyOf Try.f29) = some c → ∀ (Q : Exit → ASt → Prop), o.post (fun r => ∀ st, Post Try.prog Try.f29 (fun r' _ => r'.le (.lit (.bool r))) .ret st → Q .ret st) (fun s => Q (.exit 0) ⟨[], []⟩) → ALoopU Try.prog B 0 40 (hold c .mk) ⟨[(2, .ptr 0 0), (3, .ptr 1 0), (5, .lit (.int .i64 (i : Int)))], [.cells [.lit (.int .i64 a.ctor), .lit (.int .i64 a.n), .arr (List.map Vl.Value.c a.kids)], .cells [.lit (.int .i64 b.ctor), .lit (.int .i64 b.n), .arr (List.map Vl.Value.c b.kids)]]⟩ (hold Q .mk))
    ?_ ?_
  · intro _f_spec_l10More_l1 ih_spec_l10More_l1 a b r hF
    refine PureCall.enterLe Try.func29 (by kernel_rfl) rfl Try.ntmps29 (by simp) (by simp) ?_
    simp -dsimp
    repeat (refine chk.go (by first | omega | assumption | (simp_all; done) | (simp_all; omega)) ?_; try simp -dsimp)
    refine abr.split (fun h1 => ?_) (fun h1 => ?_)
    · have q2 : (b.ctor = (-2)) := by first | exact h1 | omega | (simpa using h1) | (simp at h1 ⊢; omega) | simp_all
      rw [if_pos q2] at hF
      cases hF
      simp -dsimp [h1]
      repeat (refine chk.go (by first | omega | assumption | (simp_all; done) | (simp_all; omega)) ?_; try simp -dsimp [h1])
    · have q2 : ¬ (b.ctor = (-2)) := by first | exact h1 | omega | (simpa using h1) | (simp at h1 ⊢; omega) | simp_all
      rw [if_neg q2] at hF
      simp -dsimp [h1, q2]
      repeat (refine chk.go (by first | omega | assumption | (simp_all; done) | (simp_all; omega)) ?_; try simp -dsimp [h1, q2])
      refine abr.split (fun h3 => ?_) (fun h3 => ?_)
      · have q4 : (a.ctor = b.ctor) := by first | exact h3 | omega | (simpa using h3) | (simp at h3 ⊢; omega) | simp_all
        rw [if_pos q4] at hF
        simp -dsimp [h1, q2, h3]
        repeat (refine chk.go (by first | omega | assumption | (simp_all; done) | (simp_all; omega)) ?_; try simp -dsimp [h1, q2, h3])
        refine abr.split (fun h5 => ?_) (fun h5 => ?_)
        · have q6 : ¬ (a.n = b.n) := by first | exact h5 | omega | (simpa using h5) | (simp at h5 ⊢; omega) | simp_all
          rw [if_neg q6] at hF
          cases hF
          simp -dsimp [h1, q2, h3, h5, q6]
          repeat (refine chk.go (by first | omega | assumption | (simp_all; done) | (simp_all; omega)) ?_; try simp -dsimp [h1, q2, h3, h5, q6])
        · have q6 : (a.n = b.n) := by first | exact h5 | omega | (simpa using h5) | (simp at h5 ⊢; omega) | simp_all
          rw [if_pos q6] at hF
          simp -dsimp [h1, q2, h3, h5, q6]
          repeat (refine chk.go (by first | omega | assumption | (simp_all; done) | (simp_all; omega)) ?_; try simp -dsimp [h1, q2, h3, h5, q6])
          have hF := ob hF; obtain ⟨o', ho17, hF⟩ := hF
          refine ALoop.goU ⟨[(2, .ptr 0 0), (3, .ptr 1 0), (5, .lit (.int .i64 (0 : Int)))], [.cells [.lit (.int .i64 a.ctor), .lit (.int .i64 a.n), .arr (List.map Vl.Value.c a.kids)], .cells [.lit (.int .i64 b.ctor), .lit (.int .i64 b.n), .arr (List.map Vl.Value.c b.kids)]]⟩ (Gh.to (by simp) (by first | (simp -dsimp; done) | (simp -dsimp [h1, q2, h3, h5, q6]; done) | simp_all) (by first | (simp -dsimp; done) | (simp -dsimp [h1, q2, h3, h5, q6]; done) | simp_all) (by first | (simp -dsimp; done) | (simp -dsimp [h1, q2, h3, h5, q6]; done) | simp_all)) ?_
          refine (ih_spec_l10More_l1 a b 0 o' ho17) _ rfl _ ?_
          rcases o' with r0 | s
          · dsimp only at hF
            cases hF
            intro st h
            simpa using h
          · dsimp only at hF
            cases hF
            simp -dsimp
            repeat (refine chk.go (by first | omega | assumption | (simp_all; done) | (simp_all; omega)) ?_; try simp -dsimp)
      · have q4 : ¬ (a.ctor = b.ctor) := by first | exact h3 | omega | (simpa using h3) | (simp at h3 ⊢; omega) | simp_all
        rw [if_neg q4] at hF
        cases hF
        simp -dsimp [h1, q2, h3, q4]
        repeat (refine chk.go (by first | omega | assumption | (simp_all; done) | (simp_all; omega)) ?_; try simp -dsimp [h1, q2, h3, q4])
  · intro _f_spec_l10More _f_spec_l10More_l1 ih_spec_l10More ih_spec_l10More_l1 a b i o hF
    intro c hc Q hq
    obtain rfl : c = _ := navEq hc rfl
    refine ALoopU.know fun hk hs => ?_
    have d0 := hs 0 _ rfl
    simp -dsimp [Blk.bnd] at d0
    have d1 := hs 1 _ rfl
    simp -dsimp [Blk.bnd] at d1
    clear hk hs
    refine ALoopU.enter ?_
    simp -dsimp
    repeat (refine chk.go (by first | omega | assumption | (simp_all; done) | (simp_all; omega)) ?_; try simp -dsimp)
    refine abr.split (fun h7 => ?_) (fun h7 => ?_)
    · have q8 : (i < b.kids.length) := by first | exact h7 | omega | (simpa using h7) | (simp at h7 ⊢; omega) | simp_all
      have z9 : ((i : Int) < (b.kids.length : Int)) := by first | omega | simp_all
      rw [if_pos q8] at hF
      simp -dsimp [h7, z9]
      repeat (refine chk.go (by first | omega | assumption | (simp_all; done) | (simp_all; omega)) ?_; try simp -dsimp [h7, z9])
      refine ADraw.simple follows (by kernel_rfl) (by kernel_rfl) ?_
      have hF := ob hF; obtain ⟨x, e10, hF⟩ := hF
      have le10 := lt_of_get e10
      have hF := ob hF; obtain ⟨x11, e12, hF⟩ := hF
      have le12 := lt_of_get e12
      simp -dsimp [h7, z9, ↓e10, ↓e12]
      repeat (refine chk.go (by first | omega | assumption | (simp_all; done) | (simp_all; omega)) ?_; try simp -dsimp [h7, z9, ↓e10, ↓e12])
      have hF := ob hF; obtain ⟨v, e13, hF⟩ := hF
      refine ((ih_spec_l10More x x11 v e13)).pgoW (by first | (simp; done) | (simp [h7, z9, ↓e10, ↓e12]; done) | simp_all) (by simp) ?_
      simp -dsimp [h7, z9, ↓e10, ↓e12]
      repeat (refine chk.go (by first | omega | assumption | (simp_all; done) | (simp_all; omega)) ?_; try simp -dsimp [h7, z9, ↓e10, ↓e12])
      refine abr.split (fun h14 => ?_) (fun h14 => ?_)
      · have q15 : ¬ (v = true) := by first | exact h14 | omega | (simpa using h14) | (simp at h14 ⊢; omega) | simp_all
        rw [if_neg q15] at hF
        cases hF
        simp -dsimp [h7, z9, ↓e10, ↓e12, h14, q15]
        repeat (refine chk.go (by first | omega | assumption | (simp_all; done) | (simp_all; omega)) ?_; try simp -dsimp [h7, z9, ↓e10, ↓e12, h14, q15])
        refine Leave.go _ (Gh.refl _) (hq _ ?_)
        simp -dsimp [h7, z9, ↓e10, ↓e12, h14, q15]
        repeat (refine chk.go (by first | omega | assumption | (simp_all; done) | (simp_all; omega)) ?_; try simp -dsimp [h7, z9, ↓e10, ↓e12, h14, q15])
      · have q15 : (v = true) := by first | exact h14 | omega | (simpa using h14) | (simp at h14 ⊢; omega) | simp_all
        rw [if_pos q15] at hF
        have w16 : IntKind.i64.wrap ((i : Int) + 1) = (i : Int) + 1 := wrap_in (by omega) (by omega)
        simp -dsimp [h7, z9, ↓e10, ↓e12, h14, q15, w16]
        repeat (refine chk.go (by first | omega | assumption | (simp_all; done) | (simp_all; omega)) ?_; try simp -dsimp [h7, z9, ↓e10, ↓e12, h14, q15, w16])
        refine Again.go ⟨[(2, .ptr 0 0), (3, .ptr 1 0), (5, .lit (.int .i64 ((i + 1) : Int)))], [.cells [.lit (.int .i64 a.ctor), .lit (.int .i64 a.n), .arr (List.map Vl.Value.c a.kids)], .cells [.lit (.int .i64 b.ctor), .lit (.int .i64 b.n), .arr (List.map Vl.Value.c b.kids)]]⟩ (Gh.to (by simp) (by first | (simp -dsimp; done) | (simp -dsimp [h7, z9, ↓e10, ↓e12, h14, q15, w16]; done) | simp_all) (by first | (simp -dsimp; done) | (simp -dsimp [h7, z9, ↓e10, ↓e12, h14, q15, w16]; done) | simp_all) (by first | (simp -dsimp; done) | (simp -dsimp [h7, z9, ↓e10, ↓e12, h14, q15, w16]; done) | simp_all)) ?_
        exact (ih_spec_l10More_l1 a b (i + 1) o hF) _ rfl _ hq
    · have q8 : ¬ (i < b.kids.length) := by first | exact h7 | omega | (simpa using h7) | (simp at h7 ⊢; omega) | simp_all
      have z9 : ¬ ((i : Int) < (b.kids.length : Int)) := by first | omega | simp_all
      rw [if_neg q8] at hF
      cases hF
      simp -dsimp [h7, q8, z9]
      repeat (refine chk.go (by first | omega | assumption | (simp_all; done) | (simp_all; omega)) ?_; try simp -dsimp [h7, q8, z9])
      refine Leave.go ⟨[], []⟩ (Gh.to (by simp) (by first | (simp -dsimp; done) | (simp -dsimp [h7, q8, z9]; done) | simp_all) (by first | (simp -dsimp; done) | (simp -dsimp [h7, q8, z9]; done) | simp_all) (by first | (simp -dsimp; done) | (simp -dsimp [h7, q8, z9]; done) | simp_all)) ?_
      exact hq

theorem C.spec_l10More (B : Nat) (hB1 : 67108864 ≤ B) (hB2 : B ≤ 9223372036854775807) (a : Vl.Value) (b : Vl.Value) (r : Bool) (hF : F.spec_l10More a b = some r) : PureCall Try.prog B 29 [.agg [.lit (.int .i64 a.ctor), .lit (.int .i64 a.n), .arr (List.map Vl.Value.c a.kids)], .agg [.lit (.int .i64 b.ctor), .lit (.int .i64 b.n), .arr (List.map Vl.Value.c b.kids)]] (.lit (.bool r)) :=
  (CC.spec_l10More B hB1 hB2 ).1 a b r hF

theorem C.spec_l10More_l1 (B : Nat) (hB1 : 67108864 ≤ B) (hB2 : B ≤ 9223372036854775807) (a : Vl.Value) (b : Vl.Value) (i : Nat) (o : Lo Bool Unit) (hF : F.spec_l10More_l1 a b i = some o) : ∀ (c : Code), navO [1, 1, 1, 0, 1, 0, 0] (bodyOf Try.f29) = some c → ∀ (Q : Exit → ASt → Prop), o.post (fun r => ∀ st, Post Try.prog Try.f29 (fun r' _ => r'.le (.lit (.bool r))) .ret st → Q .ret st) (fun s => Q (.exit 0) ⟨[], []⟩) → ALoopU Try.prog B 0 40 (hold c .mk) ⟨[(2, .ptr 0 0), (3, .ptr 1 0), (5, .lit (.int .i64 (i : Int)))], [.cells [.lit (.int .i64 a.ctor), .lit (.int .i64 a.n), .arr (List.map Vl.Value.c a.kids)], .cells [.lit (.int .i64 b.ctor), .lit (.int .i64 b.n), .arr (List.map Vl.Value.c b.kids)]]⟩ (hold Q .mk) :=
  (CC.spec_l10More B hB1 hB2 ).2 a b i o hF

set_option maxRecDepth 100000 in
set_option maxHeartbeats 400000 in
theorem C.spec_KnownMore (B : Nat) (hB1 : 67108864 ≤ B) (hB2 : B ≤ 9223372036854775807) (w : List Vl.Data) (t : Vl.Ty) (a : Vl.Value) (b : Vl.Value) (r : Bool) (hF : F.spec_KnownMore w t a b = some r) : PureCall Try.prog B 11 [.arr (List.map Vl.Data.c w), .agg [.lit (.int .i64 t.data), .lit (.int .i64 t.index)], .agg [.lit (.int .i64 a.ctor), .lit (.int .i64 a.n), .arr (List.map Vl.Value.c a.kids)], .agg [.lit (.int .i64 b.ctor), .lit (.int .i64 b.n), .arr (List.map Vl.Value.c b.kids)]] (.lit (.bool r)) := by
  unfold F.spec_KnownMore at hF
  refine PureCall.enterLe Try.func11 (by kernel_rfl) rfl Try.ntmps11 (by simp) (by simp) ?_
  simp -dsimp
  repeat (refine chk.go (by first | omega | assumption | (simp_all; done) | (simp_all; omega)) ?_; try simp -dsimp)
  have hF := ob hF; obtain ⟨v, e1, hF⟩ := hF
  refine ((C.spec_PartialValid B hB1 hB2 w t a v e1)).goW (by simp) (by simp) ?_
  simp -dsimp
  repeat (refine chk.go (by first | omega | assumption | (simp_all; done) | (simp_all; omega)) ?_; try simp -dsimp)
  refine abr.split (fun h2 => ?_) (fun h2 => ?_)
  · have q3 : (v = true) := by first | exact h2 | omega | (simpa using h2) | (simp at h2 ⊢; omega) | simp_all
    rw [if_pos q3] at hF
    simp -dsimp [h2]
    repeat (refine chk.go (by first | omega | assumption | (simp_all; done) | (simp_all; omega)) ?_; try simp -dsimp [h2])
    have hF := ob hF; obtain ⟨v4, e5, hF⟩ := hF
    refine ((C.spec_PartialValid B hB1 hB2 w t b v4 e5)).goW (by first | (simp; done) | (simp [h2]; done) | simp_all) (by simp) ?_
    simp -dsimp [h2]
    repeat (refine chk.go (by first | omega | assumption | (simp_all; done) | (simp_all; omega)) ?_; try simp -dsimp [h2])
    refine abr.split (fun h6 => ?_) (fun h6 => ?_)
    · have q7 : (v4 = true) := by first | exact h6 | omega | (simpa using h6) | (simp at h6 ⊢; omega) | simp_all
      rw [if_pos q7] at hF
      simp -dsimp [h2, h6]
      repeat (refine chk.go (by first | omega | assumption | (simp_all; done) | (simp_all; omega)) ?_; try simp -dsimp [h2, h6])
      have hF := ob hF; obtain ⟨v8, e9, hF⟩ := hF
      refine ((C.spec_l10More B hB1 hB2 a b v8 e9)).goW (by first | (simp; done) | (simp [h2, h6]; done) | simp_all) (by simp) ?_
      cases hF
      simp -dsimp [h2, h6]
      repeat (refine chk.go (by first | omega | assumption | (simp_all; done) | (simp_all; omega)) ?_; try simp -dsimp [h2, h6])
    · have q7 : ¬ (v4 = true) := by first | exact h6 | omega | (simpa using h6) | (simp at h6 ⊢; omega) | simp_all
      rw [if_neg q7] at hF
      cases hF
      simp -dsimp [h2, h6, q7]
      repeat (refine chk.go (by first | omega | assumption | (simp_all; done) | (simp_all; omega)) ?_; try simp -dsimp [h2, h6, q7])
  · have q3 : ¬ (v = true) := by first | exact h2 | omega | (simpa using h2) | (simp at h2 ⊢; omega) | simp_all
    rw [if_neg q3] at hF
    cases hF
    simp -dsimp [h2, q3]
    repeat (refine chk.go (by first | omega | assumption | (simp_all; done) | (simp_all; omega)) ?_; try simp -dsimp [h2, q3])

set_option maxRecDepth 100000 in
set_option maxHeartbeats 400000 in
theorem CC.impl_ValueSame (B : Nat) (hB1 : 67108864 ≤ B) (hB2 : B ≤ 9223372036854775807)  : (∀ (a : Vl.Value) (b : Vl.Value) (r : Bool), F.impl_ValueSame a b = some r → PureCall Try.prog B 13 [.agg [.lit (.int .i64 a.ctor), .lit (.int .i64 a.n), .arr (List.map Vl.Value.c a.kids)], .agg [.lit (.int .i64 b.ctor), .lit (.int .i64 b.n), .arr (List.map Vl.Value.c b.kids)]] (.lit (.bool r))) ∧
    (∀ (s1 : List Vl.Value) (s2 : List Vl.Value) (r : Bool), F.slices_EqualFunc_Value__impl_ValueSame s1 s2 = some r → PureCall Try.prog B 32 [.arr (List.map Vl.Value.c s1), .arr (List.map Vl.Value.c s2), .fn (.func 13) [] []] (.lit (.bool r))) ∧
    (∀ (s1 : List Vl.Value) (s2 : List Vl.Value) (i : Nat) (o : Lo Bool Unit), F.slices_EqualFunc_Value__impl_ValueSame_l1 s1 s2 i = some o → ∀ (c : Code), navO [1, 1, 0, 1, 0, 0] (bodyOf Try.f32) = some c → ∀ (Q : Exit → ASt → Prop), o.post (fun r => ∀ st, Post Try.prog Try.f32 (fun r' _ => r'.le (.lit (.bool r))) .ret st → Q .ret st) (fun s => Q (.exit 0) ⟨[], []⟩) → ALoopU Try.prog B 0 32 (hold c .mk) ⟨[(1, .arr (List.map Vl.Value.c s2)), (2, .fn (.func 13) [] []), (15, .arr (List.map Vl.Value.c s1)), (16, .lit (.int .i64 (s1.length : Int))), (17, .lit (.int .i64 (i : Int)))], []⟩ (hold Q .mk)) := by
  refine F.impl_ValueSame.mutual_partial_correctness 
    (fun a b r => PureCall Try.prog B 13 [.agg [.lit (.int .i64 a.ctor), .lit (.int .i64 a.n), .arr (List.map Vl.Value.c a.kids)], .agg [.lit (.int .i64 b.ctor), .lit (.int .i64 b.n), .arr (List.map Vl.Value.c b.kids)]] (.lit (.bool r)))
    (fun s1 s2 r => PureCall Try.prog B 32 [.arr (List.map Vl.Value.c s1), .arr (List.map Vl.Value.c s2), .fn (.func 13) [] []] (.lit (.bool r)))
    (fun s1 s2 i o => ∀ (c : Code), navO [1, 1, 0, 1, 0, 0] (bodyOf Try.f32) = some c → ∀ (Q : Exit → ASt → Prop), o.post (fun r => ∀ st, Post Try.prog Try.f32 (fun r' _ => r'.le (.lit (.bool r))) .ret st → Q .ret st) (fun s => Q (.exit 0) ⟨[], []⟩) → ALoopU Try.prog B 0 32 (hold c .mk) ⟨[(1, .arr (List.map Vl.Value.c s2)), (2, .fn (.func 13) [] []), (15, .arr (List.map Vl.Value.c s1)), (16, .lit (.int .i64 (s1.length : Int))), (17, .lit (.int .i64 (i : Int)))], []⟩ (hold Q .mk))
    ?_ ?_ ?_
  · intro _f_slices_EqualFunc_Value__impl_ValueSame ih_slices_EqualFunc_Value__impl_ValueSame a b r hF
    refine PureCall.enterLe Try.func13 (by kernel_rfl) rfl Try.ntmps13 (by simp) (by simp) ?_
    simp -dsimp
    repeat (refine chk.go (by first | omega | assumption | (simp_all; done) | (simp_all; omega)) ?_; try simp -dsimp)
    refine abr.split (fun h1 => ?_) (fun h1 => ?_)
    · have q2 : (a.ctor = b.ctor) := by first | exact h1 | omega | (simpa using h1) | (simp at h1 ⊢; omega) | simp_all
      rw [if_pos q2] at hF
      simp -dsimp [h1]
      repeat (refine chk.go (by first | omega | assumption | (simp_all; done) | (simp_all; omega)) ?_; try simp -dsimp [h1])
      refine abr.split (fun h3 => ?_) (fun h3 => ?_)
      · have q4 : (a.n = b.n) := by first | exact h3 | omega | (simpa using h3) | (simp at h3 ⊢; omega) | simp_all
        rw [if_pos q4] at hF
        simp -dsimp [h1, h3]
        repeat (refine chk.go (by first | omega | assumption | (simp_all; done) | (simp_all; omega)) ?_; try simp -dsimp [h1, h3])
        have hF := ob hF; obtain ⟨v, e5, hF⟩ := hF
        refine ((ih_slices_EqualFunc_Value__impl_ValueSame a.kids b.kids v e5)).goW (by first | (simp; done) | (simp [h1, h3]; done) | simp_all) (by simp) ?_
        cases hF
        simp -dsimp [h1, h3]
        repeat (refine chk.go (by first | omega | assumption | (simp_all; done) | (simp_all; omega)) ?_; try simp -dsimp [h1, h3])
      · have q4 : ¬ (a.n = b.n) := by first | exact h3 | omega | (simpa using h3) | (simp at h3 ⊢; omega) | simp_all
        rw [if_neg q4] at hF
        cases hF
        simp -dsimp [h1, h3, q4]
        repeat (refine chk.go (by first | omega | assumption | (simp_all; done) | (simp_all; omega)) ?_; try simp -dsimp [h1, h3, q4])
    · have q2 : ¬ (a.ctor = b.ctor) := by first | exact h1 | omega | (simpa using h1) | (simp at h1 ⊢; omega) | simp_all
      rw [if_neg q2] at hF
      cases hF
      simp -dsimp [h1, q2]
      repeat (refine chk.go (by first | omega | assumption | (simp_all; done) | (simp_all; omega)) ?_; try simp -dsimp [h1, q2])
  · intro _f_slices_EqualFunc_Value__impl_ValueSame_l1 ih_slices_EqualFunc_Value__impl_ValueSame_l1 s1 s2 r hF
    refine PureCall.enterLe Try.func32 (by kernel_rfl) rfl Try.ntmps32 (by simp) (by simp) ?_
    simp -dsimp
    repeat (refine chk.go (by first | omega | assumption | (simp_all; done) | (simp_all; omega)) ?_; try simp -dsimp)
    refine abr.split (fun h1 => ?_) (fun h1 => ?_)
    · have q2 : ¬ (s1.length = s2.length) := by first | exact h1 | omega | (simpa using h1) | (simp at h1 ⊢; omega) | simp_all
      have z3 : ¬ ((s1.length : Int) = (s2.length : Int)) := by first | omega | simp_all
      rw [if_neg q2] at hF
      cases hF
      simp -dsimp [h1, q2, z3]
      repeat (refine chk.go (by first | omega | assumption | (simp_all; done) | (simp_all; omega)) ?_; try simp -dsimp [h1, q2, z3])
    · have q2 : (s1.length = s2.length) := by first | exact h1 | omega | (simpa using h1) | (simp at h1 ⊢; omega) | simp_all
      have z3 : ((s1.length : Int) = (s2.length : Int)) := by first | omega | simp_all
      rw [if_pos q2] at hF
      simp -dsimp [h1, q2, z3]
      repeat (refine chk.go (by first | omega | assumption | (simp_all; done) | (simp_all; omega)) ?_; try simp -dsimp [h1, q2, z3])
      have hF := ob hF; obtain ⟨o', ho14, hF⟩ := hF
      refine ALoop.goU ⟨[(1, .arr (List.map Vl.Value.c s2)), (2, .fn (.func 13) [] []), (15, .arr (List.map Vl.Value.c s1)), (16, .lit (.int .i64 (s1.length : Int))), (17, .lit (.int .i64 (0 : Int)))], []⟩ (Gh.to (by simp) (by first | (simp -dsimp; done) | (simp -dsimp [h1, q2, z3]; done) | simp_all) (by first | (simp -dsimp; done) | (simp -dsimp [h1, q2, z3]; done) | simp_all) (by first | (simp -dsimp; done) | (simp -dsimp [h1, q2, z3]; done) | simp_all)) ?_
      refine (ih_slices_EqualFunc_Value__impl_ValueSame_l1 s1 s2 0 o' ho14) _ rfl _ ?_
      rcases o' with r0 | s
      · dsimp only at hF
        cases hF
        intro st h
        simpa using h
      · dsimp only at hF
        cases hF
        simp -dsimp
        repeat (refine chk.go (by first | omega | assumption | (simp_all; done) | (simp_all; omega)) ?_; try simp -dsimp)
  · intro _f_impl_ValueSame _f_slices_EqualFunc_Value__impl_ValueSame_l1 ih_impl_ValueSame ih_slices_EqualFunc_Value__impl_ValueSame_l1 s1 s2 i o hF
    intro c hc Q hq
    obtain rfl : c = _ := navEq hc rfl
    refine ALoopU.know fun hk hs => ?_
    have b1 := hk 1
    simp -dsimp at b1
    have b15 := hk 15
    simp -dsimp at b15
    clear hk hs
    refine ALoopU.enter ?_
    simp -dsimp
    repeat (refine chk.go (by first | omega | assumption | (simp_all; done) | (simp_all; omega)) ?_; try simp -dsimp)
    refine abr.split (fun h4 => ?_) (fun h4 => ?_)
    · have q5 : (i < s1.length) := by first | exact h4 | omega | (simpa using h4) | (simp at h4 ⊢; omega) | simp_all
      have z6 : ((i : Int) < (s1.length : Int)) := by first | omega | simp_all
      rw [if_pos q5] at hF
      have hF := ob hF; obtain ⟨x, e7, hF⟩ := hF
      have le7 := lt_of_get e7
      have hF := ob hF; obtain ⟨x8, e9, hF⟩ := hF
      have le9 := lt_of_get e9
      simp -dsimp [h4, z6, ↓e7, ↓e9]
      repeat (refine chk.go (by first | omega | assumption | (simp_all; done) | (simp_all; omega)) ?_; try simp -dsimp [h4, z6, ↓e7, ↓e9])
      have hF := ob hF; obtain ⟨v, e10, hF⟩ := hF
      refine ((ih_impl_ValueSame x x8 v e10)).goW (by first | (simp; done) | (simp [h4, z6, ↓e7, ↓e9]; done) | simp_all) (by simp) ?_
      simp -dsimp [h4, z6, ↓e7, ↓e9]
      repeat (refine chk.go (by first | omega | assumption | (simp_all; done) | (simp_all; omega)) ?_; try simp -dsimp [h4, z6, ↓e7, ↓e9])
      refine abr.split (fun h11 => ?_) (fun h11 => ?_)
      · have q12 : ¬ (v = true) := by first | exact h11 | omega | (simpa using h11) | (simp at h11 ⊢; omega) | simp_all
        rw [if_neg q12] at hF
        cases hF
        simp -dsimp [h4, z6, ↓e7, ↓e9, h11, q12]
        repeat (refine chk.go (by first | omega | assumption | (simp_all; done) | (simp_all; omega)) ?_; try simp -dsimp [h4, z6, ↓e7, ↓e9, h11, q12])
        refine Leave.go _ (Gh.refl _) (hq _ ?_)
        simp -dsimp [h4, z6, ↓e7, ↓e9, h11, q12]
        repeat (refine chk.go (by first | omega | assumption | (simp_all; done) | (simp_all; omega)) ?_; try simp -dsimp [h4, z6, ↓e7, ↓e9, h11, q12])
      · have q12 : (v = true) := by first | exact h11 | omega | (simpa using h11) | (simp at h11 ⊢; omega) | simp_all
        rw [if_pos q12] at hF
        have w13 : IntKind.i64.wrap ((i : Int) + 1) = (i : Int) + 1 := wrap_in (by omega) (by omega)
        simp -dsimp [h4, z6, ↓e7, ↓e9, h11, q12, w13]
        repeat (refine chk.go (by first | omega | assumption | (simp_all; done) | (simp_all; omega)) ?_; try simp -dsimp [h4, z6, ↓e7, ↓e9, h11, q12, w13])
        refine Again.go ⟨[(1, .arr (List.map Vl.Value.c s2)), (2, .fn (.func 13) [] []), (15, .arr (List.map Vl.Value.c s1)), (16, .lit (.int .i64 (s1.length : Int))), (17, .lit (.int .i64 ((i + 1) : Int)))], []⟩ (Gh.to (by simp) (by first | (simp -dsimp; done) | (simp -dsimp [h4, z6, ↓e7, ↓e9, h11, q12, w13]; done) | simp_all) (by first | (simp -dsimp; done) | (simp -dsimp [h4, z6, ↓e7, ↓e9, h11, q12, w13]; done) | simp_all) (by first | (simp -dsimp; done) | (simp -dsimp [h4, z6, ↓e7, ↓e9, h11, q12, w13]; done) | simp_all)) ?_
        exact (ih_slices_EqualFunc_Value__impl_ValueSame_l1 s1 s2 (i + 1) o hF) _ rfl _ hq
    · have q5 : ¬ (i < s1.length) := by first | exact h4 | omega | (simpa using h4) | (simp at h4 ⊢; omega) | simp_all
      have z6 : ¬ ((i : Int) < (s1.length : Int)) := by first | omega | simp_all
      rw [if_neg q5] at hF
      cases hF
      simp -dsimp [h4, q5, z6]
      repeat (refine chk.go (by first | omega | assumption | (simp_all; done) | (simp_all; omega)) ?_; try simp -dsimp [h4, q5, z6])
      refine Leave.go ⟨[], []⟩ (Gh.to (by simp) (by first | (simp -dsimp; done) | (simp -dsimp [h4, q5, z6]; done) | simp_all) (by first | (simp -dsimp; done) | (simp -dsimp [h4, q5, z6]; done) | simp_all) (by first | (simp -dsimp; done) | (simp -dsimp [h4, q5, z6]; done) | simp_all)) ?_
      exact hq

theorem C.impl_ValueSame (B : Nat) (hB1 : 67108864 ≤ B) (hB2 : B ≤ 9223372036854775807) (a : Vl.Value) (b : Vl.Value) (r : Bool) (hF : F.impl_ValueSame a b = some r) : PureCall Try.prog B 13 [.agg [.lit (.int .i64 a.ctor), .lit (.int .i64 a.n), .arr (List.map Vl.Value.c a.kids)], .agg [.lit (.int .i64 b.ctor), .lit (.int .i64 b.n), .arr (List.map Vl.Value.c b.kids)]] (.lit (.bool r)) :=
  (CC.impl_ValueSame B hB1 hB2 ).1 a b r hF

theorem C.slices_EqualFunc_Value__impl_ValueSame (B : Nat) (hB1 : 67108864 ≤ B) (hB2 : B ≤ 9223372036854775807) (s1 : List Vl.Value) (s2 : List Vl.Value) (r : Bool) (hF : F.slices_EqualFunc_Value__impl_ValueSame s1 s2 = some r) : PureCall Try.prog B 32 [.arr (List.map Vl.Value.c s1), .arr (List.map Vl.Value.c s2), .fn (.func 13) [] []] (.lit (.bool r)) :=
  (CC.impl_ValueSame B hB1 hB2 ).2.1 s1 s2 r hF

theorem C.slices_EqualFunc_Value__impl_ValueSame_l1 (B : Nat) (hB1 : 67108864 ≤ B) (hB2 : B ≤ 9223372036854775807) (s1 : List Vl.Value) (s2 : List Vl.Value) (i : Nat) (o : Lo Bool Unit) (hF : F.slices_EqualFunc_Value__impl_ValueSame_l1 s1 s2 i = some o) : ∀ (c : Code), navO [1, 1, 0, 1, 0, 0] (bodyOf Try.f32) = some c → ∀ (Q : Exit → ASt → Prop), o.post (fun r => ∀ st, Post Try.prog Try.f32 (fun r' _ => r'.le (.lit (.bool r))) .ret st → Q .ret st) (fun s => Q (.exit 0) ⟨[], []⟩) → ALoopU Try.prog B 0 32 (hold c .mk) ⟨[(1, .arr (List.map Vl.Value.c s2)), (2, .fn (.func 13) [] []), (15, .arr (List.map Vl.Value.c s1)), (16, .lit (.int .i64 (s1.length : Int))), (17, .lit (.int .i64 (i : Int)))], []⟩ (hold Q .mk) :=
  (CC.impl_ValueSame B hB1 hB2 ).2.2 s1 s2 i o hF

set_option maxRecDepth 100000 in
set_option maxHeartbeats 400000 in
theorem C.laws_FnKnownMore (B : Nat) (hB1 : 67108864 ≤ B) (hB2 : B ≤ 9223372036854775807) (code : List Int) (r : Bool) (hF : F.laws_FnKnownMore code = some r) : PureCall Try.prog B 3 [.arr (List.map cU code)] (.lit (.bool r)) := by
  unfold F.laws_FnKnownMore at hF
  refine PureCall.enterLe Try.func3 (by kernel_rfl) rfl Try.ntmps3 (by simp) (by simp) ?_
  simp -dsimp
  repeat (refine chk.go (by first | omega | assumption | (simp_all; done) | (simp_all; omega)) ?_; try simp -dsimp)
  refine abr.split (fun h1 => ?_) (fun h1 => ?_)
  · have q2 : (1048576 < code.length) := by first | exact h1 | omega | (simpa using h1) | (simp at h1 ⊢; omega) | simp_all
    have z3 : ((1048576 : Int) < (code.length : Int)) := by first | omega | simp_all
    rw [if_pos q2] at hF
    cases hF
    simp -dsimp [h1, z3]
    repeat (refine chk.go (by first | omega | assumption | (simp_all; done) | (simp_all; omega)) ?_; try simp -dsimp [h1, z3])
  · have q2 : ¬ (1048576 < code.length) := by first | exact h1 | omega | (simpa using h1) | (simp at h1 ⊢; omega) | simp_all
    have z3 : ¬ ((1048576 : Int) < (code.length : Int)) := by first | omega | simp_all
    rw [if_neg q2] at hF
    simp -dsimp [h1, q2, z3]
    repeat (refine chk.go (by first | omega | assumption | (simp_all; done) | (simp_all; omega)) ?_; try simp -dsimp [h1, q2, z3])
    have hF := ob hF; obtain ⟨v, e4, hF⟩ := hF
    refine ((C.spec_DrawKnownMore B hB1 hB2 code v e4)).goW (by first | (simp; done) | (simp [h1, q2, z3]; done) | simp_all) (by simp) ?_
    simp -dsimp [h1, q2, z3]
    repeat (refine chk.go (by first | omega | assumption | (simp_all; done) | (simp_all; omega)) ?_; try simp -dsimp [h1, q2, z3])
    have hF := ob hF; obtain ⟨v5, e6, hF⟩ := hF
    refine ((C.impl_KnownMore B hB1 hB2 v.1 v.2.1 v.2.2.1 v.2.2.2 v5 e6)).goW (by first | (simp; done) | (simp [h1, q2, z3]; done) | simp_all) (by simp) ?_
    simp -dsimp [h1, q2, z3]
    repeat (refine chk.go (by first | omega | assumption | (simp_all; done) | (simp_all; omega)) ?_; try simp -dsimp [h1, q2, z3])
    refine ADraw.simple follows (by kernel_rfl) (by kernel_rfl) ?_
    simp -dsimp [h1, q2, z3]
    repeat (refine chk.go (by first | omega | assumption | (simp_all; done) | (simp_all; omega)) ?_; try simp -dsimp [h1, q2, z3])
    have hF := ob hF; obtain ⟨v7, e8, hF⟩ := hF
    refine ((C.spec_KnownMore B hB1 hB2 v.1 v.2.1 v.2.2.1 v.2.2.2 v7 e8)).pgoW (by first | (simp; done) | (simp [h1, q2, z3]; done) | simp_all) (by simp) ?_
    simp -dsimp [h1, q2, z3]
    repeat (refine chk.go (by first | omega | assumption | (simp_all; done) | (simp_all; omega)) ?_; try simp -dsimp [h1, q2, z3])
    refine abr.split (fun h9 => ?_) (fun h9 => ?_)
    · have q10 : (v5 = v7) := by first | exact h9 | omega | (simpa using h9) | (simp at h9 ⊢; omega) | simp_all
      rw [if_pos q10] at hF
      simp -dsimp [h1, q2, z3, h9]
      repeat (refine chk.go (by first | omega | assumption | (simp_all; done) | (simp_all; omega)) ?_; try simp -dsimp [h1, q2, z3, h9])
      have hF := ob hF; obtain ⟨v11, e12, hF⟩ := hF
      refine ((C.impl_KnownMore B hB1 hB2 v.1 v.2.1 v.2.2.1 v.2.2.1 v11 e12)).pgoW (by first | (simp; done) | (simp [h1, q2, z3, h9]; done) | simp_all) (by simp) ?_
      simp -dsimp [h1, q2, z3, h9]
      repeat (refine chk.go (by first | omega | assumption | (simp_all; done) | (simp_all; omega)) ?_; try simp -dsimp [h1, q2, z3, h9])
      have hF := ob hF; obtain ⟨v13, e14, hF⟩ := hF
      refine ((C.impl_PartialValid B hB1 hB2 v.1 v.2.1 v.2.2.1 v13 e14)).pgoW (by first | (simp; done) | (simp [h1, q2, z3, h9]; done) | simp_all) (by simp) ?_
      simp -dsimp [h1, q2, z3, h9]
      repeat (refine chk.go (by first | omega | assumption | (simp_all; done) | (simp_all; omega)) ?_; try simp -dsimp [h1, q2, z3, h9])
      refine abr.split (fun h15 => ?_) (fun h15 => ?_)
      · have q16 : ¬ (v11 = v13) := by first | exact h15 | omega | (simpa using h15) | (simp at h15 ⊢; omega) | simp_all
        rw [if_neg q16] at hF
        cases hF
        simp -dsimp [h1, q2, z3, h9, h15, q16]
        repeat (refine chk.go (by first | omega | assumption | (simp_all; done) | (simp_all; omega)) ?_; try simp -dsimp [h1, q2, z3, h9, h15, q16])
      · have q16 : (v11 = v13) := by first | exact h15 | omega | (simpa using h15) | (simp at h15 ⊢; omega) | simp_all
        rw [if_pos q16] at hF
        simp -dsimp [h1, q2, z3, h9, h15, q16]
        repeat (refine chk.go (by first | omega | assumption | (simp_all; done) | (simp_all; omega)) ?_; try simp -dsimp [h1, q2, z3, h9, h15, q16])
        refine ADraw.simple follows (by kernel_rfl) (by kernel_rfl) ?_
        simp -dsimp [h1, q2, z3, h9, h15, q16]
        repeat (refine chk.go (by first | omega | assumption | (simp_all; done) | (simp_all; omega)) ?_; try simp -dsimp [h1, q2, z3, h9, h15, q16])
        refine abr.split (fun h17 => ?_) (fun h17 => ?_)
        · have q18 : (v5 = true) := by first | exact h17 | omega | (simpa using h17) | (simp at h17 ⊢; omega) | simp_all
          rw [if_pos q18] at hF
          simp -dsimp [h1, q2, z3, h9, h15, q16, h17]
          repeat (refine chk.go (by first | omega | assumption | (simp_all; done) | (simp_all; omega)) ?_; try simp -dsimp [h1, q2, z3, h9, h15, q16, h17])
          have hF := ob hF; obtain ⟨v19, e20, hF⟩ := hF
          refine ((C.impl_KnownMore B hB1 hB2 v.1 v.2.1 v.2.2.2 v.2.2.1 v19 e20)).pgoW (by first | (simp; done) | (simp [h1, q2, z3, h9, h15, q16, h17]; done) | simp_all) (by simp) ?_
          simp -dsimp [h1, q2, z3, h9, h15, q16, h17]
          repeat (refine chk.go (by first | omega | assumption | (simp_all; done) | (simp_all; omega)) ?_; try simp -dsimp [h1, q2, z3, h9, h15, q16, h17])
          have hF := ob hF; obtain ⟨v21, e22, hF⟩ := hF
          refine ((C.impl_ValueSame B hB1 hB2 v.2.2.1 v.2.2.2 v21 e22)).pgoW (by first | (simp; done) | (simp [h1, q2, z3, h9, h15, q16, h17]; done) | simp_all) (by simp) ?_
          cases hF
          simp -dsimp [h1, q2, z3, h9, h15, q16, h17]
          repeat (refine chk.go (by first | omega | assumption | (simp_all; done) | (simp_all; omega)) ?_; try simp -dsimp [h1, q2, z3, h9, h15, q16, h17])
        · have q18 : ¬ (v5 = true) := by first | exact h17 | omega | (simpa using h17) | (simp at h17 ⊢; omega) | simp_all
          rw [if_neg q18] at hF
          cases hF
          simp -dsimp [h1, q2, z3, h9, h15, q16, h17, q18]
          repeat (refine chk.go (by first | omega | assumption | (simp_all; done) | (simp_all; omega)) ?_; try simp -dsimp [h1, q2, z3, h9, h15, q16, h17, q18])
    · have q10 : ¬ (v5 = v7) := by first | exact h9 | omega | (simpa using h9) | (simp at h9 ⊢; omega) | simp_all
      rw [if_neg q10] at hF
      cases hF
      simp -dsimp [h1, q2, z3, h9, q10]
      repeat (refine chk.go (by first | omega | assumption | (simp_all; done) | (simp_all; omega)) ?_; try simp -dsimp [h1, q2, z3, h9, q10])

end Go.Proofs.Ytipcmoamhapecaa
