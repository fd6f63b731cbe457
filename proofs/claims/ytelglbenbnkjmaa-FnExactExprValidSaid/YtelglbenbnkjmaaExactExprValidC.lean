/- The contracts: the code computes the functions (printed by gen.py). -/
import Derived.Test.YtelglbenbnkjmaaProg
import Derived.Test.YtelglbenbnkjmaaExactExprValidF
import Derived.Test.YtelglbenbnkjmaaExactExprValidC2
namespace Go.Proofs.Ytelglbenbnkjmaa
open Go Go.Proofs Go.Vl
set_option linter.unusedSimpArgs false
set_option linter.unusedVariables false

attribute [local irreducible] ECallA aL AMake MLoop AgainM LeaveM awpM aopsM MutCall BCall chk abr ACall ALoop ALoopU ADraw Again Leave PCallA PCall Post awp aops PureCall hold

set_option maxRecDepth 100000 in
set_option maxHeartbeats 400000 in
theorem CC.laws_eqTypeS_l1 (B : Nat) (hB1 : 67108864 ≤ B) (hB2 : B ≤ 9223372036854775807) (a : List Vl.Ty) (b : List Vl.Ty) : (∀ (i : Nat) (o : Lo Bool Unit), F.laws_eqTypeS_l1 a b i = some o → ∀ (c : Code), navO [1, 1, 0, 1, 0, 0] (bodyOf Try.f204) = some c → ∀ (Q : Exit → ASt → Prop), o.post (fun r => ∀ st, Post Try.prog Try.f204 (fun r' _ => r'.le (.lit (.bool r))) .ret st → Q .ret st) (fun s => Q (.exit 0) ⟨[], []⟩) → ALoopU Try.prog B 0 27 (hold c .mk) ⟨[(0, .arr (List.map Vl.Ty.c a)), (1, .arr (List.map Vl.Ty.c b)), (5, .lit (.int .i64 (i : Int)))], []⟩ (hold Q .mk)) := by
  refine F.laws_eqTypeS_l1.partial_correctness a b
    (fun i o => ∀ (c : Code), navO [1, 1, 0, 1, 0, 0] (bodyOf Try.f204) = some c → ∀ (Q : Exit → ASt → Prop), o.post (fun r => ∀ st, Post Try.prog Try.f204 (fun r' _ => r'.le (.lit (.bool r))) .ret st → Q .ret st) (fun s => Q (.exit 0) ⟨[], []⟩) → ALoopU Try.prog B 0 27 (hold c .mk) ⟨[(0, .arr (List.map Vl.Ty.c a)), (1, .arr (List.map Vl.Ty.c b)), (5, .lit (.int .i64 (i : Int)))], []⟩ (hold Q .mk))
    ?_
  · intro _f_laws_eqTypeS_l1 ih_laws_eqTypeS_l1 i o hF
    intro c hc Q hq
    obtain rfl : c = _ := navEq hc rfl
    refine ALoopU.know fun hk hs => ?_
    have b0 := hk 0
    simp -dsimp at b0
    have b1 := hk 1
    simp -dsimp at b1
    clear hk hs
    refine ALoopU.enter ?_
    simp -dsimp
    repeat (refine chk.go (by first | omega | assumption | (simp_all; done) | (simp_all; omega)) ?_; try simp -dsimp)
    refine abr.split (fun h4 => ?_) (fun h4 => ?_)
    · have q5 : (i < a.length) := by first | exact h4 | omega | (simpa using h4) | (simp at h4 ⊢; omega) | simp_all
      have z6 : ((i : Int) < (a.length : Int)) := by first | omega | simp_all
      rw [if_pos q5] at hF
      simp -dsimp [h4, z6]
      repeat (refine chk.go (by first | omega | assumption | (simp_all; done) | (simp_all; omega)) ?_; try simp -dsimp [h4, z6])
      refine ADraw.simple follows (by kernel_rfl) (by kernel_rfl) ?_
      have hF := ob hF; obtain ⟨x, e7, hF⟩ := hF
      have le7 := lt_of_get e7
      have hF := ob hF; obtain ⟨x8, e9, hF⟩ := hF
      have le9 := lt_of_get e9
      simp -dsimp [h4, z6, ↓e7, ↓e9]
      repeat (refine chk.go (by first | omega | assumption | (simp_all; done) | (simp_all; omega)) ?_; try simp -dsimp [h4, z6, ↓e7, ↓e9])
      have hF := ob hF; obtain ⟨v, e10, hF⟩ := hF
      refine ((C.laws_eqType B hB1 hB2 x x8 v e10)).pgoW (by first | (simp; done) | (simp [h4, z6, ↓e7, ↓e9]; done) | simp_all) (by simp) ?_
      simp -dsimp [h4, z6, ↓e7, ↓e9]
      repeat (refine chk.go (by first | omega | assumption | (simp_all; done) | (simp_all; omega)) ?_; try simp -dsimp [h4, z6, ↓e7, ↓e9])
      refine abr.split (fun h11 => ?_) (fun h11 => ?_)
      · have q12 : ¬ (v = true) := by first | exact h11 | omega | (simpa using h11) | (simp at h11 ⊢; omega) | simp_all
        rw [if_neg q12] at hF
        cases hF
        simp -dsimp [h4, z6, ↓e7, ↓e9, h11, q12]
        repeat (refine chk.go (by first | omega | assumption | (simp_all; done) | (simp_all; omega)) ?_; try simp -dsimp [h4, z6, ↓e7, ↓e9, h11, q12])
        refine Leave.go _ (Gh.refl _) (hq _ ?_)
        simp -dsimp [h4, z6, ↓e7, ↓e9, h11, q12]
        repeat (refine chk.go (by first | omega | assumption | (simp_all; done) | (simp_all; omega)) ?_; try simp -dsimp [h4, z6, ↓e7, ↓e9, h11, q12])
      · have q12 : (v = true) := by first | exact h11 | omega | (simpa using h11) | (simp at h11 ⊢; omega) | simp_all
        rw [if_pos q12] at hF
        have w13 : IntKind.i64.wrap ((i : Int) + 1) = (i : Int) + 1 := wrap_in (by omega) (by omega)
        simp -dsimp [h4, z6, ↓e7, ↓e9, h11, q12, w13]
        repeat (refine chk.go (by first | omega | assumption | (simp_all; done) | (simp_all; omega)) ?_; try simp -dsimp [h4, z6, ↓e7, ↓e9, h11, q12, w13])
        refine Again.go ⟨[(0, .arr (List.map Vl.Ty.c a)), (1, .arr (List.map Vl.Ty.c b)), (5, .lit (.int .i64 ((i + 1) : Int)))], []⟩ (Gh.to (by simp) (by first | (simp -dsimp; done) | (simp -dsimp [h4, z6, ↓e7, ↓e9, h11, q12, w13]; done) | simp_all) (by first | (simp -dsimp; done) | (simp -dsimp [h4, z6, ↓e7, ↓e9, h11, q12, w13]; done) | simp_all) (by first | (simp -dsimp; done) | (simp -dsimp [h4, z6, ↓e7, ↓e9, h11, q12, w13]; done) | simp_all)) ?_
        exact (ih_laws_eqTypeS_l1 (i + 1) o hF) _ rfl _ hq
    · have q5 : ¬ (i < a.length) := by first | exact h4 | omega | (simpa using h4) | (simp at h4 ⊢; omega) | simp_all
      have z6 : ¬ ((i : Int) < (a.length : Int)) := by first | omega | simp_all
      rw [if_neg q5] at hF
      cases hF
      simp -dsimp [h4, q5, z6]
      repeat (refine chk.go (by first | omega | assumption | (simp_all; done) | (simp_all; omega)) ?_; try simp -dsimp [h4, q5, z6])
      refine Leave.go ⟨[], []⟩ (Gh.to (by simp) (by first | (simp -dsimp; done) | (simp -dsimp [h4, q5, z6]; done) | simp_all) (by first | (simp -dsimp; done) | (simp -dsimp [h4, q5, z6]; done) | simp_all) (by first | (simp -dsimp; done) | (simp -dsimp [h4, q5, z6]; done) | simp_all)) ?_
      exact hq

theorem C.laws_eqTypeS_l1 (B : Nat) (hB1 : 67108864 ≤ B) (hB2 : B ≤ 9223372036854775807) (a : List Vl.Ty) (b : List Vl.Ty) (i : Nat) (o : Lo Bool Unit) (hF : F.laws_eqTypeS_l1 a b i = some o) : ∀ (c : Code), navO [1, 1, 0, 1, 0, 0] (bodyOf Try.f204) = some c → ∀ (Q : Exit → ASt → Prop), o.post (fun r => ∀ st, Post Try.prog Try.f204 (fun r' _ => r'.le (.lit (.bool r))) .ret st → Q .ret st) (fun s => Q (.exit 0) ⟨[], []⟩) → ALoopU Try.prog B 0 27 (hold c .mk) ⟨[(0, .arr (List.map Vl.Ty.c a)), (1, .arr (List.map Vl.Ty.c b)), (5, .lit (.int .i64 (i : Int)))], []⟩ (hold Q .mk) :=
  (CC.laws_eqTypeS_l1 B hB1 hB2 a b) i o hF

set_option maxRecDepth 100000 in
set_option maxHeartbeats 400000 in
theorem C.laws_eqTypeS (B : Nat) (hB1 : 67108864 ≤ B) (hB2 : B ≤ 9223372036854775807) (a : List Vl.Ty) (b : List Vl.Ty) (r : Bool) (hF : F.laws_eqTypeS a b = some r) : PureCall Try.prog B 204 [.arr (List.map Vl.Ty.c a), .arr (List.map Vl.Ty.c b)] (.lit (.bool r)) := by
  unfold F.laws_eqTypeS at hF
  refine PureCall.enterLe Try.func204 (by kernel_rfl) rfl Try.ntmps204 (by simp) (by simp) ?_
  simp -dsimp
  repeat (refine chk.go (by first | omega | assumption | (simp_all; done) | (simp_all; omega)) ?_; try simp -dsimp)
  refine abr.split (fun h1 => ?_) (fun h1 => ?_)
  · have q2 : ¬ (a.length = b.length) := by first | exact h1 | omega | (simpa using h1) | (simp at h1 ⊢; omega) | simp_all
    have z3 : ¬ ((a.length : Int) = (b.length : Int)) := by first | omega | simp_all
    rw [if_neg q2] at hF
    cases hF
    simp -dsimp [h1, q2, z3]
    repeat (refine chk.go (by first | omega | assumption | (simp_all; done) | (simp_all; omega)) ?_; try simp -dsimp [h1, q2, z3])
    all_goals (try omega)
  · have q2 : (a.length = b.length) := by first | exact h1 | omega | (simpa using h1) | (simp at h1 ⊢; omega) | simp_all
    have z3 : ((a.length : Int) = (b.length : Int)) := by first | omega | simp_all
    rw [if_pos q2] at hF
    simp -dsimp [h1, q2, z3]
    repeat (refine chk.go (by first | omega | assumption | (simp_all; done) | (simp_all; omega)) ?_; try simp -dsimp [h1, q2, z3])
    have hF := ob hF; obtain ⟨o', ho14, hF⟩ := hF
    refine ALoop.goU ⟨[(0, .arr (List.map Vl.Ty.c a)), (1, .arr (List.map Vl.Ty.c b)), (5, .lit (.int .i64 (0 : Int)))], []⟩ (Gh.to (by simp) (by first | (simp -dsimp; done) | (simp -dsimp [h1, q2, z3]; done) | simp_all) (by first | (simp -dsimp; done) | (simp -dsimp [h1, q2, z3]; done) | simp_all) (by first | (simp -dsimp; done) | (simp -dsimp [h1, q2, z3]; done) | simp_all)) ?_
    refine (C.laws_eqTypeS_l1 B hB1 hB2 a b 0 o' ho14) _ rfl _ ?_
    rcases o' with r0 | s
    · dsimp only at hF
      cases hF
      intro st h
      simpa using h
    · dsimp only at hF
      cases hF
      simp -dsimp
      repeat (refine chk.go (by first | omega | assumption | (simp_all; done) | (simp_all; omega)) ?_; try simp -dsimp)
      all_goals (try omega)

set_option maxRecDepth 100000 in
set_option maxHeartbeats 400000 in
theorem C.laws_eqCtor (B : Nat) (hB1 : 67108864 ≤ B) (hB2 : B ≤ 9223372036854775807) (a : Vl.Ctor) (b : Vl.Ctor) (r : Bool) (hF : F.laws_eqCtor a b = some r) : PureCall Try.prog B 165 [.agg [.lit (.string a.name), .arr (List.map Vl.Ty.c a.args), .lit (.int .i64 a.index)], .agg [.lit (.string b.name), .arr (List.map Vl.Ty.c b.args), .lit (.int .i64 b.index)]] (.lit (.bool r)) := by
  unfold F.laws_eqCtor at hF
  refine PureCall.enterLe Try.func165 (by kernel_rfl) rfl Try.ntmps165 (by simp) (by simp) ?_
  simp -dsimp
  repeat (refine chk.go (by first | omega | assumption | (simp_all; done) | (simp_all; omega)) ?_; try simp -dsimp)
  refine abr.split (fun h1 => ?_) (fun h1 => ?_)
  · have q2 : ¬ (a.name.toList = b.name.toList) := by first | exact h1 | omega | (simpa using h1) | (simp at h1 ⊢; omega) | simp_all
    rw [if_neg q2] at hF
    cases hF
    simp -dsimp [h1, q2]
    repeat (refine chk.go (by first | omega | assumption | (simp_all; done) | (simp_all; omega)) ?_; try simp -dsimp [h1, q2])
    all_goals (try omega)
  · have q2 : (a.name.toList = b.name.toList) := by first | exact h1 | omega | (simpa using h1) | (simp at h1 ⊢; omega) | simp_all
    rw [if_pos q2] at hF
    simp -dsimp [h1, q2]
    repeat (refine chk.go (by first | omega | assumption | (simp_all; done) | (simp_all; omega)) ?_; try simp -dsimp [h1, q2])
    have hF := ob hF; obtain ⟨v, e3, hF⟩ := hF
    refine ((C.laws_eqTypeS B hB1 hB2 a.args b.args v e3)).goW (by first | (simp; done) | (simp [h1, q2]; done) | simp_all) (by simp) ?_
    simp -dsimp [h1, q2]
    repeat (refine chk.go (by first | omega | assumption | (simp_all; done) | (simp_all; omega)) ?_; try simp -dsimp [h1, q2])
    refine abr.split (fun h4 => ?_) (fun h4 => ?_)
    · have q5 : ¬ (v = true) := by first | exact h4 | omega | (simpa using h4) | (simp at h4 ⊢; omega) | simp_all
      rw [if_neg q5] at hF
      cases hF
      simp -dsimp [h1, q2, h4, q5]
      repeat (refine chk.go (by first | omega | assumption | (simp_all; done) | (simp_all; omega)) ?_; try simp -dsimp [h1, q2, h4, q5])
      all_goals (try omega)
    · have q5 : (v = true) := by first | exact h4 | omega | (simpa using h4) | (simp at h4 ⊢; omega) | simp_all
      rw [if_pos q5] at hF
      simp -dsimp [h1, q2, h4, q5]
      repeat (refine chk.go (by first | omega | assumption | (simp_all; done) | (simp_all; omega)) ?_; try simp -dsimp [h1, q2, h4, q5])
      refine abr.split (fun h6 => ?_) (fun h6 => ?_)
      · have q7 : ¬ (a.index = b.index) := by first | exact h6 | omega | (simpa using h6) | (simp at h6 ⊢; omega) | simp_all
        rw [if_neg q7] at hF
        cases hF
        simp -dsimp [h1, q2, h4, q5, h6, q7]
        repeat (refine chk.go (by first | omega | assumption | (simp_all; done) | (simp_all; omega)) ?_; try simp -dsimp [h1, q2, h4, q5, h6, q7])
        all_goals (try omega)
      · have q7 : (a.index = b.index) := by first | exact h6 | omega | (simpa using h6) | (simp at h6 ⊢; omega) | simp_all
        rw [if_pos q7] at hF
        cases hF
        simp -dsimp [h1, q2, h4, q5, h6, q7]
        repeat (refine chk.go (by first | omega | assumption | (simp_all; done) | (simp_all; omega)) ?_; try simp -dsimp [h1, q2, h4, q5, h6, q7])
        all_goals (try omega)

set_option maxRecDepth 100000 in
set_option maxHeartbeats 400000 in
theorem CC.laws_eqCtorS_l1 (B : Nat) (hB1 : 67108864 ≤ B) (hB2 : B ≤ 9223372036854775807) (a : List Vl.Ctor) (b : List Vl.Ctor) : (∀ (i : Nat) (o : Lo Bool Unit), F.laws_eqCtorS_l1 a b i = some o → ∀ (c : Code), navO [1, 1, 0, 1, 0, 0] (bodyOf Try.f124) = some c → ∀ (Q : Exit → ASt → Prop), o.post (fun r => ∀ st, Post Try.prog Try.f124 (fun r' _ => r'.le (.lit (.bool r))) .ret st → Q .ret st) (fun s => Q (.exit 0) ⟨[], []⟩) → ALoopU Try.prog B 0 27 (hold c .mk) ⟨[(0, .arr (List.map Vl.Ctor.c a)), (1, .arr (List.map Vl.Ctor.c b)), (5, .lit (.int .i64 (i : Int)))], []⟩ (hold Q .mk)) := by
  refine F.laws_eqCtorS_l1.partial_correctness a b
    (fun i o => ∀ (c : Code), navO [1, 1, 0, 1, 0, 0] (bodyOf Try.f124) = some c → ∀ (Q : Exit → ASt → Prop), o.post (fun r => ∀ st, Post Try.prog Try.f124 (fun r' _ => r'.le (.lit (.bool r))) .ret st → Q .ret st) (fun s => Q (.exit 0) ⟨[], []⟩) → ALoopU Try.prog B 0 27 (hold c .mk) ⟨[(0, .arr (List.map Vl.Ctor.c a)), (1, .arr (List.map Vl.Ctor.c b)), (5, .lit (.int .i64 (i : Int)))], []⟩ (hold Q .mk))
    ?_
  · intro _f_laws_eqCtorS_l1 ih_laws_eqCtorS_l1 i o hF
    intro c hc Q hq
    obtain rfl : c = _ := navEq hc rfl
    refine ALoopU.know fun hk hs => ?_
    have b0 := hk 0
    simp -dsimp at b0
    have b1 := hk 1
    simp -dsimp at b1
    clear hk hs
    refine ALoopU.enter ?_
    simp -dsimp
    repeat (refine chk.go (by first | omega | assumption | (simp_all; done) | (simp_all; omega)) ?_; try simp -dsimp)
    refine abr.split (fun h4 => ?_) (fun h4 => ?_)
    · have q5 : (i < a.length) := by first | exact h4 | omega | (simpa using h4) | (simp at h4 ⊢; omega) | simp_all
      have z6 : ((i : Int) < (a.length : Int)) := by first | omega | simp_all
      rw [if_pos q5] at hF
      simp -dsimp [h4, z6]
      repeat (refine chk.go (by first | omega | assumption | (simp_all; done) | (simp_all; omega)) ?_; try simp -dsimp [h4, z6])
      refine ADraw.simple follows (by kernel_rfl) (by kernel_rfl) ?_
      have hF := ob hF; obtain ⟨x, e7, hF⟩ := hF
      have le7 := lt_of_get e7
      have hF := ob hF; obtain ⟨x8, e9, hF⟩ := hF
      have le9 := lt_of_get e9
      simp -dsimp [h4, z6, ↓e7, ↓e9]
      repeat (refine chk.go (by first | omega | assumption | (simp_all; done) | (simp_all; omega)) ?_; try simp -dsimp [h4, z6, ↓e7, ↓e9])
      have hF := ob hF; obtain ⟨v, e10, hF⟩ := hF
      refine ((C.laws_eqCtor B hB1 hB2 x x8 v e10)).pgoW (by first | (simp; done) | (simp [h4, z6, ↓e7, ↓e9]; done) | simp_all) (by simp) ?_
      simp -dsimp [h4, z6, ↓e7, ↓e9]
      repeat (refine chk.go (by first | omega | assumption | (simp_all; done) | (simp_all; omega)) ?_; try simp -dsimp [h4, z6, ↓e7, ↓e9])
      refine abr.split (fun h11 => ?_) (fun h11 => ?_)
      · have q12 : ¬ (v = true) := by first | exact h11 | omega | (simpa using h11) | (simp at h11 ⊢; omega) | simp_all
        rw [if_neg q12] at hF
        cases hF
        simp -dsimp [h4, z6, ↓e7, ↓e9, h11, q12]
        repeat (refine chk.go (by first | omega | assumption | (simp_all; done) | (simp_all; omega)) ?_; try simp -dsimp [h4, z6, ↓e7, ↓e9, h11, q12])
        refine Leave.go _ (Gh.refl _) (hq _ ?_)
        simp -dsimp [h4, z6, ↓e7, ↓e9, h11, q12]
        repeat (refine chk.go (by first | omega | assumption | (simp_all; done) | (simp_all; omega)) ?_; try simp -dsimp [h4, z6, ↓e7, ↓e9, h11, q12])
      · have q12 : (v = true) := by first | exact h11 | omega | (simpa using h11) | (simp at h11 ⊢; omega) | simp_all
        rw [if_pos q12] at hF
        have w13 : IntKind.i64.wrap ((i : Int) + 1) = (i : Int) + 1 := wrap_in (by omega) (by omega)
        simp -dsimp [h4, z6, ↓e7, ↓e9, h11, q12, w13]
        repeat (refine chk.go (by first | omega | assumption | (simp_all; done) | (simp_all; omega)) ?_; try simp -dsimp [h4, z6, ↓e7, ↓e9, h11, q12, w13])
        refine Again.go ⟨[(0, .arr (List.map Vl.Ctor.c a)), (1, .arr (List.map Vl.Ctor.c b)), (5, .lit (.int .i64 ((i + 1) : Int)))], []⟩ (Gh.to (by simp) (by first | (simp -dsimp; done) | (simp -dsimp [h4, z6, ↓e7, ↓e9, h11, q12, w13]; done) | simp_all) (by first | (simp -dsimp; done) | (simp -dsimp [h4, z6, ↓e7, ↓e9, h11, q12, w13]; done) | simp_all) (by first | (simp -dsimp; done) | (simp -dsimp [h4, z6, ↓e7, ↓e9, h11, q12, w13]; done) | simp_all)) ?_
        exact (ih_laws_eqCtorS_l1 (i + 1) o hF) _ rfl _ hq
    · have q5 : ¬ (i < a.length) := by first | exact h4 | omega | (simpa using h4) | (simp at h4 ⊢; omega) | simp_all
      have z6 : ¬ ((i : Int) < (a.length : Int)) := by first | omega | simp_all
      rw [if_neg q5] at hF
      cases hF
      simp -dsimp [h4, q5, z6]
      repeat (refine chk.go (by first | omega | assumption | (simp_all; done) | (simp_all; omega)) ?_; try simp -dsimp [h4, q5, z6])
      refine Leave.go ⟨[], []⟩ (Gh.to (by simp) (by first | (simp -dsimp; done) | (simp -dsimp [h4, q5, z6]; done) | simp_all) (by first | (simp -dsimp; done) | (simp -dsimp [h4, q5, z6]; done) | simp_all) (by first | (simp -dsimp; done) | (simp -dsimp [h4, q5, z6]; done) | simp_all)) ?_
      exact hq

theorem C.laws_eqCtorS_l1 (B : Nat) (hB1 : 67108864 ≤ B) (hB2 : B ≤ 9223372036854775807) (a : List Vl.Ctor) (b : List Vl.Ctor) (i : Nat) (o : Lo Bool Unit) (hF : F.laws_eqCtorS_l1 a b i = some o) : ∀ (c : Code), navO [1, 1, 0, 1, 0, 0] (bodyOf Try.f124) = some c → ∀ (Q : Exit → ASt → Prop), o.post (fun r => ∀ st, Post Try.prog Try.f124 (fun r' _ => r'.le (.lit (.bool r))) .ret st → Q .ret st) (fun s => Q (.exit 0) ⟨[], []⟩) → ALoopU Try.prog B 0 27 (hold c .mk) ⟨[(0, .arr (List.map Vl.Ctor.c a)), (1, .arr (List.map Vl.Ctor.c b)), (5, .lit (.int .i64 (i : Int)))], []⟩ (hold Q .mk) :=
  (CC.laws_eqCtorS_l1 B hB1 hB2 a b) i o hF

set_option maxRecDepth 100000 in
set_option maxHeartbeats 400000 in
theorem C.laws_eqCtorS (B : Nat) (hB1 : 67108864 ≤ B) (hB2 : B ≤ 9223372036854775807) (a : List Vl.Ctor) (b : List Vl.Ctor) (r : Bool) (hF : F.laws_eqCtorS a b = some r) : PureCall Try.prog B 124 [.arr (List.map Vl.Ctor.c a), .arr (List.map Vl.Ctor.c b)] (.lit (.bool r)) := by
  unfold F.laws_eqCtorS at hF
  refine PureCall.enterLe Try.func124 (by kernel_rfl) rfl Try.ntmps124 (by simp) (by simp) ?_
  simp -dsimp
  repeat (refine chk.go (by first | omega | assumption | (simp_all; done) | (simp_all; omega)) ?_; try simp -dsimp)
  refine abr.split (fun h1 => ?_) (fun h1 => ?_)
  · have q2 : ¬ (a.length = b.length) := by first | exact h1 | omega | (simpa using h1) | (simp at h1 ⊢; omega) | simp_all
    have z3 : ¬ ((a.length : Int) = (b.length : Int)) := by first | omega | simp_all
    rw [if_neg q2] at hF
    cases hF
    simp -dsimp [h1, q2, z3]
    repeat (refine chk.go (by first | omega | assumption | (simp_all; done) | (simp_all; omega)) ?_; try simp -dsimp [h1, q2, z3])
    all_goals (try omega)
  · have q2 : (a.length = b.length) := by first | exact h1 | omega | (simpa using h1) | (simp at h1 ⊢; omega) | simp_all
    have z3 : ((a.length : Int) = (b.length : Int)) := by first | omega | simp_all
    rw [if_pos q2] at hF
    simp -dsimp [h1, q2, z3]
    repeat (refine chk.go (by first | omega | assumption | (simp_all; done) | (simp_all; omega)) ?_; try simp -dsimp [h1, q2, z3])
    have hF := ob hF; obtain ⟨o', ho14, hF⟩ := hF
    refine ALoop.goU ⟨[(0, .arr (List.map Vl.Ctor.c a)), (1, .arr (List.map Vl.Ctor.c b)), (5, .lit (.int .i64 (0 : Int)))], []⟩ (Gh.to (by simp) (by first | (simp -dsimp; done) | (simp -dsimp [h1, q2, z3]; done) | simp_all) (by first | (simp -dsimp; done) | (simp -dsimp [h1, q2, z3]; done) | simp_all) (by first | (simp -dsimp; done) | (simp -dsimp [h1, q2, z3]; done) | simp_all)) ?_
    refine (C.laws_eqCtorS_l1 B hB1 hB2 a b 0 o' ho14) _ rfl _ ?_
    rcases o' with r0 | s
    · dsimp only at hF
      cases hF
      intro st h
      simpa using h
    · dsimp only at hF
      cases hF
      simp -dsimp
      repeat (refine chk.go (by first | omega | assumption | (simp_all; done) | (simp_all; omega)) ?_; try simp -dsimp)
      all_goals (try omega)

set_option maxRecDepth 100000 in
set_option maxHeartbeats 400000 in
theorem C.laws_eqData (B : Nat) (hB1 : 67108864 ≤ B) (hB2 : B ≤ 9223372036854775807) (a : Vl.Data) (b : Vl.Data) (r : Bool) (hF : F.laws_eqData a b = some r) : PureCall Try.prog B 63 [.agg [.lit (.string a.name), .arr (List.map Vl.Ctor.c a.ctors)], .agg [.lit (.string b.name), .arr (List.map Vl.Ctor.c b.ctors)]] (.lit (.bool r)) := by
  unfold F.laws_eqData at hF
  refine PureCall.enterLe Try.func63 (by kernel_rfl) rfl Try.ntmps63 (by simp) (by simp) ?_
  simp -dsimp
  repeat (refine chk.go (by first | omega | assumption | (simp_all; done) | (simp_all; omega)) ?_; try simp -dsimp)
  refine abr.split (fun h1 => ?_) (fun h1 => ?_)
  · have q2 : ¬ (a.name.toList = b.name.toList) := by first | exact h1 | omega | (simpa using h1) | (simp at h1 ⊢; omega) | simp_all
    rw [if_neg q2] at hF
    cases hF
    simp -dsimp [h1, q2]
    repeat (refine chk.go (by first | omega | assumption | (simp_all; done) | (simp_all; omega)) ?_; try simp -dsimp [h1, q2])
    all_goals (try omega)
  · have q2 : (a.name.toList = b.name.toList) := by first | exact h1 | omega | (simpa using h1) | (simp at h1 ⊢; omega) | simp_all
    rw [if_pos q2] at hF
    simp -dsimp [h1, q2]
    repeat (refine chk.go (by first | omega | assumption | (simp_all; done) | (simp_all; omega)) ?_; try simp -dsimp [h1, q2])
    have hF := ob hF; obtain ⟨v, e3, hF⟩ := hF
    refine ((C.laws_eqCtorS B hB1 hB2 a.ctors b.ctors v e3)).goW (by first | (simp; done) | (simp [h1, q2]; done) | simp_all) (by simp) ?_
    simp -dsimp [h1, q2]
    repeat (refine chk.go (by first | omega | assumption | (simp_all; done) | (simp_all; omega)) ?_; try simp -dsimp [h1, q2])
    refine abr.split (fun h4 => ?_) (fun h4 => ?_)
    · have q5 : ¬ (v = true) := by first | exact h4 | omega | (simpa using h4) | (simp at h4 ⊢; omega) | simp_all
      rw [if_neg q5] at hF
      cases hF
      simp -dsimp [h1, q2, h4, q5]
      repeat (refine chk.go (by first | omega | assumption | (simp_all; done) | (simp_all; omega)) ?_; try simp -dsimp [h1, q2, h4, q5])
      all_goals (try omega)
    · have q5 : (v = true) := by first | exact h4 | omega | (simpa using h4) | (simp at h4 ⊢; omega) | simp_all
      rw [if_pos q5] at hF
      cases hF
      simp -dsimp [h1, q2, h4, q5]
      repeat (refine chk.go (by first | omega | assumption | (simp_all; done) | (simp_all; omega)) ?_; try simp -dsimp [h1, q2, h4, q5])
      all_goals (try omega)

set_option maxRecDepth 100000 in
set_option maxHeartbeats 400000 in
theorem CC.laws_eqDataS_l1 (B : Nat) (hB1 : 67108864 ≤ B) (hB2 : B ≤ 9223372036854775807) (a : List Vl.Data) (b : List Vl.Data) : (∀ (i : Nat) (o : Lo Bool Unit), F.laws_eqDataS_l1 a b i = some o → ∀ (c : Code), navO [1, 1, 0, 1, 0, 0] (bodyOf Try.f20) = some c → ∀ (Q : Exit → ASt → Prop), o.post (fun r => ∀ st, Post Try.prog Try.f20 (fun r' _ => r'.le (.lit (.bool r))) .ret st → Q .ret st) (fun s => Q (.exit 0) ⟨[], []⟩) → ALoopU Try.prog B 0 27 (hold c .mk) ⟨[(0, .arr (List.map Vl.Data.c a)), (1, .arr (List.map Vl.Data.c b)), (5, .lit (.int .i64 (i : Int)))], []⟩ (hold Q .mk)) := by
  refine F.laws_eqDataS_l1.partial_correctness a b
    (fun i o => ∀ (c : Code), navO [1, 1, 0, 1, 0, 0] (bodyOf Try.f20) = some c → ∀ (Q : Exit → ASt → Prop), o.post (fun r => ∀ st, Post Try.prog Try.f20 (fun r' _ => r'.le (.lit (.bool r))) .ret st → Q .ret st) (fun s => Q (.exit 0) ⟨[], []⟩) → ALoopU Try.prog B 0 27 (hold c .mk) ⟨[(0, .arr (List.map Vl.Data.c a)), (1, .arr (List.map Vl.Data.c b)), (5, .lit (.int .i64 (i : Int)))], []⟩ (hold Q .mk))
    ?_
  · intro _f_laws_eqDataS_l1 ih_laws_eqDataS_l1 i o hF
    intro c hc Q hq
    obtain rfl : c = _ := navEq hc rfl
    refine ALoopU.know fun hk hs => ?_
    have b0 := hk 0
    simp -dsimp at b0
    have b1 := hk 1
    simp -dsimp at b1
    clear hk hs
    refine ALoopU.enter ?_
    simp -dsimp
    repeat (refine chk.go (by first | omega | assumption | (simp_all; done) | (simp_all; omega)) ?_; try simp -dsimp)
    refine abr.split (fun h4 => ?_) (fun h4 => ?_)
    · have q5 : (i < a.length) := by first | exact h4 | omega | (simpa using h4) | (simp at h4 ⊢; omega) | simp_all
      have z6 : ((i : Int) < (a.length : Int)) := by first | omega | simp_all
      rw [if_pos q5] at hF
      simp -dsimp [h4, z6]
      repeat (refine chk.go (by first | omega | assumption | (simp_all; done) | (simp_all; omega)) ?_; try simp -dsimp [h4, z6])
      refine ADraw.simple follows (by kernel_rfl) (by kernel_rfl) ?_
      have hF := ob hF; obtain ⟨x, e7, hF⟩ := hF
      have le7 := lt_of_get e7
      have hF := ob hF; obtain ⟨x8, e9, hF⟩ := hF
      have le9 := lt_of_get e9
      simp -dsimp [h4, z6, ↓e7, ↓e9]
      repeat (refine chk.go (by first | omega | assumption | (simp_all; done) | (simp_all; omega)) ?_; try simp -dsimp [h4, z6, ↓e7, ↓e9])
      have hF := ob hF; obtain ⟨v, e10, hF⟩ := hF
      refine ((C.laws_eqData B hB1 hB2 x x8 v e10)).pgoW (by first | (simp; done) | (simp [h4, z6, ↓e7, ↓e9]; done) | simp_all) (by simp) ?_
      simp -dsimp [h4, z6, ↓e7, ↓e9]
      repeat (refine chk.go (by first | omega | assumption | (simp_all; done) | (simp_all; omega)) ?_; try simp -dsimp [h4, z6, ↓e7, ↓e9])
      refine abr.split (fun h11 => ?_) (fun h11 => ?_)
      · have q12 : ¬ (v = true) := by first | exact h11 | omega | (simpa using h11) | (simp at h11 ⊢; omega) | simp_all
        rw [if_neg q12] at hF
        cases hF
        simp -dsimp [h4, z6, ↓e7, ↓e9, h11, q12]
        repeat (refine chk.go (by first | omega | assumption | (simp_all; done) | (simp_all; omega)) ?_; try simp -dsimp [h4, z6, ↓e7, ↓e9, h11, q12])
        refine Leave.go _ (Gh.refl _) (hq _ ?_)
        simp -dsimp [h4, z6, ↓e7, ↓e9, h11, q12]
        repeat (refine chk.go (by first | omega | assumption | (simp_all; done) | (simp_all; omega)) ?_; try simp -dsimp [h4, z6, ↓e7, ↓e9, h11, q12])
      · have q12 : (v = true) := by first | exact h11 | omega | (simpa using h11) | (simp at h11 ⊢; omega) | simp_all
        rw [if_pos q12] at hF
        have w13 : IntKind.i64.wrap ((i : Int) + 1) = (i : Int) + 1 := wrap_in (by omega) (by omega)
        simp -dsimp [h4, z6, ↓e7, ↓e9, h11, q12, w13]
        repeat (refine chk.go (by first | omega | assumption | (simp_all; done) | (simp_all; omega)) ?_; try simp -dsimp [h4, z6, ↓e7, ↓e9, h11, q12, w13])
        refine Again.go ⟨[(0, .arr (List.map Vl.Data.c a)), (1, .arr (List.map Vl.Data.c b)), (5, .lit (.int .i64 ((i + 1) : Int)))], []⟩ (Gh.to (by simp) (by first | (simp -dsimp; done) | (simp -dsimp [h4, z6, ↓e7, ↓e9, h11, q12, w13]; done) | simp_all) (by first | (simp -dsimp; done) | (simp -dsimp [h4, z6, ↓e7, ↓e9, h11, q12, w13]; done) | simp_all) (by first | (simp -dsimp; done) | (simp -dsimp [h4, z6, ↓e7, ↓e9, h11, q12, w13]; done) | simp_all)) ?_
        exact (ih_laws_eqDataS_l1 (i + 1) o hF) _ rfl _ hq
    · have q5 : ¬ (i < a.length) := by first | exact h4 | omega | (simpa using h4) | (simp at h4 ⊢; omega) | simp_all
      have z6 : ¬ ((i : Int) < (a.length : Int)) := by first | omega | simp_all
      rw [if_neg q5] at hF
      cases hF
      simp -dsimp [h4, q5, z6]
      repeat (refine chk.go (by first | omega | assumption | (simp_all; done) | (simp_all; omega)) ?_; try simp -dsimp [h4, q5, z6])
      refine Leave.go ⟨[], []⟩ (Gh.to (by simp) (by first | (simp -dsimp; done) | (simp -dsimp [h4, q5, z6]; done) | simp_all) (by first | (simp -dsimp; done) | (simp -dsimp [h4, q5, z6]; done) | simp_all) (by first | (simp -dsimp; done) | (simp -dsimp [h4, q5, z6]; done) | simp_all)) ?_
      exact hq

theorem C.laws_eqDataS_l1 (B : Nat) (hB1 : 67108864 ≤ B) (hB2 : B ≤ 9223372036854775807) (a : List Vl.Data) (b : List Vl.Data) (i : Nat) (o : Lo Bool Unit) (hF : F.laws_eqDataS_l1 a b i = some o) : ∀ (c : Code), navO [1, 1, 0, 1, 0, 0] (bodyOf Try.f20) = some c → ∀ (Q : Exit → ASt → Prop), o.post (fun r => ∀ st, Post Try.prog Try.f20 (fun r' _ => r'.le (.lit (.bool r))) .ret st → Q .ret st) (fun s => Q (.exit 0) ⟨[], []⟩) → ALoopU Try.prog B 0 27 (hold c .mk) ⟨[(0, .arr (List.map Vl.Data.c a)), (1, .arr (List.map Vl.Data.c b)), (5, .lit (.int .i64 (i : Int)))], []⟩ (hold Q .mk) :=
  (CC.laws_eqDataS_l1 B hB1 hB2 a b) i o hF

set_option maxRecDepth 100000 in
set_option maxHeartbeats 400000 in
theorem C.laws_eqDataS (B : Nat) (hB1 : 67108864 ≤ B) (hB2 : B ≤ 9223372036854775807) (a : List Vl.Data) (b : List Vl.Data) (r : Bool) (hF : F.laws_eqDataS a b = some r) : PureCall Try.prog B 20 [.arr (List.map Vl.Data.c a), .arr (List.map Vl.Data.c b)] (.lit (.bool r)) := by
  unfold F.laws_eqDataS at hF
  refine PureCall.enterLe Try.func20 (by kernel_rfl) rfl Try.ntmps20 (by simp) (by simp) ?_
  simp -dsimp
  repeat (refine chk.go (by first | omega | assumption | (simp_all; done) | (simp_all; omega)) ?_; try simp -dsimp)
  refine abr.split (fun h1 => ?_) (fun h1 => ?_)
  · have q2 : ¬ (a.length = b.length) := by first | exact h1 | omega | (simpa using h1) | (simp at h1 ⊢; omega) | simp_all
    have z3 : ¬ ((a.length : Int) = (b.length : Int)) := by first | omega | simp_all
    rw [if_neg q2] at hF
    cases hF
    simp -dsimp [h1, q2, z3]
    repeat (refine chk.go (by first | omega | assumption | (simp_all; done) | (simp_all; omega)) ?_; try simp -dsimp [h1, q2, z3])
    all_goals (try omega)
  · have q2 : (a.length = b.length) := by first | exact h1 | omega | (simpa using h1) | (simp at h1 ⊢; omega) | simp_all
    have z3 : ((a.length : Int) = (b.length : Int)) := by first | omega | simp_all
    rw [if_pos q2] at hF
    simp -dsimp [h1, q2, z3]
    repeat (refine chk.go (by first | omega | assumption | (simp_all; done) | (simp_all; omega)) ?_; try simp -dsimp [h1, q2, z3])
    have hF := ob hF; obtain ⟨o', ho14, hF⟩ := hF
    refine ALoop.goU ⟨[(0, .arr (List.map Vl.Data.c a)), (1, .arr (List.map Vl.Data.c b)), (5, .lit (.int .i64 (0 : Int)))], []⟩ (Gh.to (by simp) (by first | (simp -dsimp; done) | (simp -dsimp [h1, q2, z3]; done) | simp_all) (by first | (simp -dsimp; done) | (simp -dsimp [h1, q2, z3]; done) | simp_all) (by first | (simp -dsimp; done) | (simp -dsimp [h1, q2, z3]; done) | simp_all)) ?_
    refine (C.laws_eqDataS_l1 B hB1 hB2 a b 0 o' ho14) _ rfl _ ?_
    rcases o' with r0 | s
    · dsimp only at hF
      cases hF
      intro st h
      simpa using h
    · dsimp only at hF
      cases hF
      simp -dsimp
      repeat (refine chk.go (by first | omega | assumption | (simp_all; done) | (simp_all; omega)) ?_; try simp -dsimp)
      all_goals (try omega)

set_option maxRecDepth 100000 in
set_option maxHeartbeats 400000 in
theorem C.laws_eqFunType (B : Nat) (hB1 : 67108864 ≤ B) (hB2 : B ≤ 9223372036854775807) (a : Vl.FunType) (b : Vl.FunType) (r : Bool) (hF : F.laws_eqFunType a b = some r) : PureCall Try.prog B 64 [.agg [.lit (.int .i64 a.arg.data), .lit (.int .i64 a.arg.index), .lit (.int .i64 a.res.data), .lit (.int .i64 a.res.index)], .agg [.lit (.int .i64 b.arg.data), .lit (.int .i64 b.arg.index), .lit (.int .i64 b.res.data), .lit (.int .i64 b.res.index)]] (.lit (.bool r)) := by
  unfold F.laws_eqFunType at hF
  refine PureCall.enterLe Try.func64 (by kernel_rfl) rfl Try.ntmps64 (by simp) (by simp) ?_
  simp -dsimp
  repeat (refine chk.go (by first | omega | assumption | (simp_all; done) | (simp_all; omega)) ?_; try simp -dsimp)
  have hF := ob hF; obtain ⟨v, e1, hF⟩ := hF
  refine ((C.laws_eqType B hB1 hB2 a.arg b.arg v e1)).goW (by simp) (by simp) ?_
  simp -dsimp
  repeat (refine chk.go (by first | omega | assumption | (simp_all; done) | (simp_all; omega)) ?_; try simp -dsimp)
  refine abr.split (fun h2 => ?_) (fun h2 => ?_)
  · have q3 : ¬ (v = true) := by first | exact h2 | omega | (simpa using h2) | (simp at h2 ⊢; omega) | simp_all
    rw [if_neg q3] at hF
    cases hF
    simp -dsimp [h2, q3]
    repeat (refine chk.go (by first | omega | assumption | (simp_all; done) | (simp_all; omega)) ?_; try simp -dsimp [h2, q3])
    all_goals (try omega)
  · have q3 : (v = true) := by first | exact h2 | omega | (simpa using h2) | (simp at h2 ⊢; omega) | simp_all
    rw [if_pos q3] at hF
    simp -dsimp [h2, q3]
    repeat (refine chk.go (by first | omega | assumption | (simp_all; done) | (simp_all; omega)) ?_; try simp -dsimp [h2, q3])
    have hF := ob hF; obtain ⟨v4, e5, hF⟩ := hF
    refine ((C.laws_eqType B hB1 hB2 a.res b.res v4 e5)).goW (by first | (simp; done) | (simp [h2, q3]; done) | simp_all) (by simp) ?_
    simp -dsimp [h2, q3]
    repeat (refine chk.go (by first | omega | assumption | (simp_all; done) | (simp_all; omega)) ?_; try simp -dsimp [h2, q3])
    refine abr.split (fun h6 => ?_) (fun h6 => ?_)
    · have q7 : ¬ (v4 = true) := by first | exact h6 | omega | (simpa using h6) | (simp at h6 ⊢; omega) | simp_all
      rw [if_neg q7] at hF
      cases hF
      simp -dsimp [h2, q3, h6, q7]
      repeat (refine chk.go (by first | omega | assumption | (simp_all; done) | (simp_all; omega)) ?_; try simp -dsimp [h2, q3, h6, q7])
      all_goals (try omega)
    · have q7 : (v4 = true) := by first | exact h6 | omega | (simpa using h6) | (simp at h6 ⊢; omega) | simp_all
      rw [if_pos q7] at hF
      cases hF
      simp -dsimp [h2, q3, h6, q7]
      repeat (refine chk.go (by first | omega | assumption | (simp_all; done) | (simp_all; omega)) ?_; try simp -dsimp [h2, q3, h6, q7])
      all_goals (try omega)

set_option maxRecDepth 100000 in
set_option maxHeartbeats 400000 in
theorem CC.laws_eqFunTypeS_l1 (B : Nat) (hB1 : 67108864 ≤ B) (hB2 : B ≤ 9223372036854775807) (a : List Vl.FunType) (b : List Vl.FunType) : (∀ (i : Nat) (o : Lo Bool Unit), F.laws_eqFunTypeS_l1 a b i = some o → ∀ (c : Code), navO [1, 1, 0, 1, 0, 0] (bodyOf Try.f21) = some c → ∀ (Q : Exit → ASt → Prop), o.post (fun r => ∀ st, Post Try.prog Try.f21 (fun r' _ => r'.le (.lit (.bool r))) .ret st → Q .ret st) (fun s => Q (.exit 0) ⟨[], []⟩) → ALoopU Try.prog B 0 27 (hold c .mk) ⟨[(0, .arr (List.map Vl.FunType.c a)), (1, .arr (List.map Vl.FunType.c b)), (5, .lit (.int .i64 (i : Int)))], []⟩ (hold Q .mk)) := by
  refine F.laws_eqFunTypeS_l1.partial_correctness a b
    (fun i o => ∀ (c : Code), navO [1, 1, 0, 1, 0, 0] (bodyOf Try.f21) = some c → ∀ (Q : Exit → ASt → Prop), o.post (fun r => ∀ st, Post Try.prog Try.f21 (fun r' _ => r'.le (.lit (.bool r))) .ret st → Q .ret st) (fun s => Q (.exit 0) ⟨[], []⟩) → ALoopU Try.prog B 0 27 (hold c .mk) ⟨[(0, .arr (List.map Vl.FunType.c a)), (1, .arr (List.map Vl.FunType.c b)), (5, .lit (.int .i64 (i : Int)))], []⟩ (hold Q .mk))
    ?_
  · intro _f_laws_eqFunTypeS_l1 ih_laws_eqFunTypeS_l1 i o hF
    intro c hc Q hq
    obtain rfl : c = _ := navEq hc rfl
    refine ALoopU.know fun hk hs => ?_
    have b0 := hk 0
    simp -dsimp at b0
    have b1 := hk 1
    simp -dsimp at b1
    clear hk hs
    refine ALoopU.enter ?_
    simp -dsimp
    repeat (refine chk.go (by first | omega | assumption | (simp_all; done) | (simp_all; omega)) ?_; try simp -dsimp)
    refine abr.split (fun h4 => ?_) (fun h4 => ?_)
    · have q5 : (i < a.length) := by first | exact h4 | omega | (simpa using h4) | (simp at h4 ⊢; omega) | simp_all
      have z6 : ((i : Int) < (a.length : Int)) := by first | omega | simp_all
      rw [if_pos q5] at hF
      simp -dsimp [h4, z6]
      repeat (refine chk.go (by first | omega | assumption | (simp_all; done) | (simp_all; omega)) ?_; try simp -dsimp [h4, z6])
      refine ADraw.simple follows (by kernel_rfl) (by kernel_rfl) ?_
      have hF := ob hF; obtain ⟨x, e7, hF⟩ := hF
      have le7 := lt_of_get e7
      have hF := ob hF; obtain ⟨x8, e9, hF⟩ := hF
      have le9 := lt_of_get e9
      simp -dsimp [h4, z6, ↓e7, ↓e9]
      repeat (refine chk.go (by first | omega | assumption | (simp_all; done) | (simp_all; omega)) ?_; try simp -dsimp [h4, z6, ↓e7, ↓e9])
      have hF := ob hF; obtain ⟨v, e10, hF⟩ := hF
      refine ((C.laws_eqFunType B hB1 hB2 x x8 v e10)).pgoW (by first | (simp; done) | (simp [h4, z6, ↓e7, ↓e9]; done) | simp_all) (by simp) ?_
      simp -dsimp [h4, z6, ↓e7, ↓e9]
      repeat (refine chk.go (by first | omega | assumption | (simp_all; done) | (simp_all; omega)) ?_; try simp -dsimp [h4, z6, ↓e7, ↓e9])
      refine abr.split (fun h11 => ?_) (fun h11 => ?_)
      · have q12 : ¬ (v = true) := by first | exact h11 | omega | (simpa using h11) | (simp at h11 ⊢; omega) | simp_all
        rw [if_neg q12] at hF
        cases hF
        simp -dsimp [h4, z6, ↓e7, ↓e9, h11, q12]
        repeat (refine chk.go (by first | omega | assumption | (simp_all; done) | (simp_all; omega)) ?_; try simp -dsimp [h4, z6, ↓e7, ↓e9, h11, q12])
        refine Leave.go _ (Gh.refl _) (hq _ ?_)
        simp -dsimp [h4, z6, ↓e7, ↓e9, h11, q12]
        repeat (refine chk.go (by first | omega | assumption | (simp_all; done) | (simp_all; omega)) ?_; try simp -dsimp [h4, z6, ↓e7, ↓e9, h11, q12])
      · have q12 : (v = true) := by first | exact h11 | omega | (simpa using h11) | (simp at h11 ⊢; omega) | simp_all
        rw [if_pos q12] at hF
        have w13 : IntKind.i64.wrap ((i : Int) + 1) = (i : Int) + 1 := wrap_in (by omega) (by omega)
        simp -dsimp [h4, z6, ↓e7, ↓e9, h11, q12, w13]
        repeat (refine chk.go (by first | omega | assumption | (simp_all; done) | (simp_all; omega)) ?_; try simp -dsimp [h4, z6, ↓e7, ↓e9, h11, q12, w13])
        refine Again.go ⟨[(0, .arr (List.map Vl.FunType.c a)), (1, .arr (List.map Vl.FunType.c b)), (5, .lit (.int .i64 ((i + 1) : Int)))], []⟩ (Gh.to (by simp) (by first | (simp -dsimp; done) | (simp -dsimp [h4, z6, ↓e7, ↓e9, h11, q12, w13]; done) | simp_all) (by first | (simp -dsimp; done) | (simp -dsimp [h4, z6, ↓e7, ↓e9, h11, q12, w13]; done) | simp_all) (by first | (simp -dsimp; done) | (simp -dsimp [h4, z6, ↓e7, ↓e9, h11, q12, w13]; done) | simp_all)) ?_
        exact (ih_laws_eqFunTypeS_l1 (i + 1) o hF) _ rfl _ hq
    · have q5 : ¬ (i < a.length) := by first | exact h4 | omega | (simpa using h4) | (simp at h4 ⊢; omega) | simp_all
      have z6 : ¬ ((i : Int) < (a.length : Int)) := by first | omega | simp_all
      rw [if_neg q5] at hF
      cases hF
      simp -dsimp [h4, q5, z6]
      repeat (refine chk.go (by first | omega | assumption | (simp_all; done) | (simp_all; omega)) ?_; try simp -dsimp [h4, q5, z6])
      refine Leave.go ⟨[], []⟩ (Gh.to (by simp) (by first | (simp -dsimp; done) | (simp -dsimp [h4, q5, z6]; done) | simp_all) (by first | (simp -dsimp; done) | (simp -dsimp [h4, q5, z6]; done) | simp_all) (by first | (simp -dsimp; done) | (simp -dsimp [h4, q5, z6]; done) | simp_all)) ?_
      exact hq

theorem C.laws_eqFunTypeS_l1 (B : Nat) (hB1 : 67108864 ≤ B) (hB2 : B ≤ 9223372036854775807) (a : List Vl.FunType) (b : List Vl.FunType) (i : Nat) (o : Lo Bool Unit) (hF : F.laws_eqFunTypeS_l1 a b i = some o) : ∀ (c : Code), navO [1, 1, 0, 1, 0, 0] (bodyOf Try.f21) = some c → ∀ (Q : Exit → ASt → Prop), o.post (fun r => ∀ st, Post Try.prog Try.f21 (fun r' _ => r'.le (.lit (.bool r))) .ret st → Q .ret st) (fun s => Q (.exit 0) ⟨[], []⟩) → ALoopU Try.prog B 0 27 (hold c .mk) ⟨[(0, .arr (List.map Vl.FunType.c a)), (1, .arr (List.map Vl.FunType.c b)), (5, .lit (.int .i64 (i : Int)))], []⟩ (hold Q .mk) :=
  (CC.laws_eqFunTypeS_l1 B hB1 hB2 a b) i o hF

set_option maxRecDepth 100000 in
set_option maxHeartbeats 400000 in
theorem C.laws_eqFunTypeS (B : Nat) (hB1 : 67108864 ≤ B) (hB2 : B ≤ 9223372036854775807) (a : List Vl.FunType) (b : List Vl.FunType) (r : Bool) (hF : F.laws_eqFunTypeS a b = some r) : PureCall Try.prog B 21 [.arr (List.map Vl.FunType.c a), .arr (List.map Vl.FunType.c b)] (.lit (.bool r)) := by
  unfold F.laws_eqFunTypeS at hF
  refine PureCall.enterLe Try.func21 (by kernel_rfl) rfl Try.ntmps21 (by simp) (by simp) ?_
  simp -dsimp
  repeat (refine chk.go (by first | omega | assumption | (simp_all; done) | (simp_all; omega)) ?_; try simp -dsimp)
  refine abr.split (fun h1 => ?_) (fun h1 => ?_)
  · have q2 : ¬ (a.length = b.length) := by first | exact h1 | omega | (simpa using h1) | (simp at h1 ⊢; omega) | simp_all
    have z3 : ¬ ((a.length : Int) = (b.length : Int)) := by first | omega | simp_all
    rw [if_neg q2] at hF
    cases hF
    simp -dsimp [h1, q2, z3]
    repeat (refine chk.go (by first | omega | assumption | (simp_all; done) | (simp_all; omega)) ?_; try simp -dsimp [h1, q2, z3])
    all_goals (try omega)
  · have q2 : (a.length = b.length) := by first | exact h1 | omega | (simpa using h1) | (simp at h1 ⊢; omega) | simp_all
    have z3 : ((a.length : Int) = (b.length : Int)) := by first | omega | simp_all
    rw [if_pos q2] at hF
    simp -dsimp [h1, q2, z3]
    repeat (refine chk.go (by first | omega | assumption | (simp_all; done) | (simp_all; omega)) ?_; try simp -dsimp [h1, q2, z3])
    have hF := ob hF; obtain ⟨o', ho14, hF⟩ := hF
    refine ALoop.goU ⟨[(0, .arr (List.map Vl.FunType.c a)), (1, .arr (List.map Vl.FunType.c b)), (5, .lit (.int .i64 (0 : Int)))], []⟩ (Gh.to (by simp) (by first | (simp -dsimp; done) | (simp -dsimp [h1, q2, z3]; done) | simp_all) (by first | (simp -dsimp; done) | (simp -dsimp [h1, q2, z3]; done) | simp_all) (by first | (simp -dsimp; done) | (simp -dsimp [h1, q2, z3]; done) | simp_all)) ?_
    refine (C.laws_eqFunTypeS_l1 B hB1 hB2 a b 0 o' ho14) _ rfl _ ?_
    rcases o' with r0 | s
    · dsimp only at hF
      cases hF
      intro st h
      simpa using h
    · dsimp only at hF
      cases hF
      simp -dsimp
      repeat (refine chk.go (by first | omega | assumption | (simp_all; done) | (simp_all; omega)) ?_; try simp -dsimp)
      all_goals (try omega)

set_option maxRecDepth 100000 in
set_option maxHeartbeats 400000 in
theorem C.laws_eqVarType (B : Nat) (hB1 : 67108864 ≤ B) (hB2 : B ≤ 9223372036854775807) (a : Vl.VarType) (b : Vl.VarType) (r : Bool) (hF : F.laws_eqVarType a b = some r) : PureCall Try.prog B 65 [.agg [.lit (.int .i64 a.var), .lit (.int .i64 a.type.data), .lit (.int .i64 a.type.index)], .agg [.lit (.int .i64 b.var), .lit (.int .i64 b.type.data), .lit (.int .i64 b.type.index)]] (.lit (.bool r)) := by
  unfold F.laws_eqVarType at hF
  refine PureCall.enterLe Try.func65 (by kernel_rfl) rfl Try.ntmps65 (by simp) (by simp) ?_
  simp -dsimp
  repeat (refine chk.go (by first | omega | assumption | (simp_all; done) | (simp_all; omega)) ?_; try simp -dsimp)
  refine abr.split (fun h1 => ?_) (fun h1 => ?_)
  · have q2 : ¬ (a.var = b.var) := by first | exact h1 | omega | (simpa using h1) | (simp at h1 ⊢; omega) | simp_all
    rw [if_neg q2] at hF
    cases hF
    simp -dsimp [h1, q2]
    repeat (refine chk.go (by first | omega | assumption | (simp_all; done) | (simp_all; omega)) ?_; try simp -dsimp [h1, q2])
    all_goals (try omega)
  · have q2 : (a.var = b.var) := by first | exact h1 | omega | (simpa using h1) | (simp at h1 ⊢; omega) | simp_all
    rw [if_pos q2] at hF
    simp -dsimp [h1, q2]
    repeat (refine chk.go (by first | omega | assumption | (simp_all; done) | (simp_all; omega)) ?_; try simp -dsimp [h1, q2])
    have hF := ob hF; obtain ⟨v, e3, hF⟩ := hF
    refine ((C.laws_eqType B hB1 hB2 a.type b.type v e3)).goW (by first | (simp; done) | (simp [h1, q2]; done) | simp_all) (by simp) ?_
    simp -dsimp [h1, q2]
    repeat (refine chk.go (by first | omega | assumption | (simp_all; done) | (simp_all; omega)) ?_; try simp -dsimp [h1, q2])
    refine abr.split (fun h4 => ?_) (fun h4 => ?_)
    · have q5 : ¬ (v = true) := by first | exact h4 | omega | (simpa using h4) | (simp at h4 ⊢; omega) | simp_all
      rw [if_neg q5] at hF
      cases hF
      simp -dsimp [h1, q2, h4, q5]
      repeat (refine chk.go (by first | omega | assumption | (simp_all; done) | (simp_all; omega)) ?_; try simp -dsimp [h1, q2, h4, q5])
      all_goals (try omega)
    · have q5 : (v = true) := by first | exact h4 | omega | (simpa using h4) | (simp at h4 ⊢; omega) | simp_all
      rw [if_pos q5] at hF
      cases hF
      simp -dsimp [h1, q2, h4, q5]
      repeat (refine chk.go (by first | omega | assumption | (simp_all; done) | (simp_all; omega)) ?_; try simp -dsimp [h1, q2, h4, q5])
      all_goals (try omega)

set_option maxRecDepth 100000 in
set_option maxHeartbeats 400000 in
theorem CC.laws_eqVarTypeS_l1 (B : Nat) (hB1 : 67108864 ≤ B) (hB2 : B ≤ 9223372036854775807) (a : List Vl.VarType) (b : List Vl.VarType) : (∀ (i : Nat) (o : Lo Bool Unit), F.laws_eqVarTypeS_l1 a b i = some o → ∀ (c : Code), navO [1, 1, 0, 1, 0, 0] (bodyOf Try.f22) = some c → ∀ (Q : Exit → ASt → Prop), o.post (fun r => ∀ st, Post Try.prog Try.f22 (fun r' _ => r'.le (.lit (.bool r))) .ret st → Q .ret st) (fun s => Q (.exit 0) ⟨[], []⟩) → ALoopU Try.prog B 0 27 (hold c .mk) ⟨[(0, .arr (List.map Vl.VarType.c a)), (1, .arr (List.map Vl.VarType.c b)), (5, .lit (.int .i64 (i : Int)))], []⟩ (hold Q .mk)) := by
  refine F.laws_eqVarTypeS_l1.partial_correctness a b
    (fun i o => ∀ (c : Code), navO [1, 1, 0, 1, 0, 0] (bodyOf Try.f22) = some c → ∀ (Q : Exit → ASt → Prop), o.post (fun r => ∀ st, Post Try.prog Try.f22 (fun r' _ => r'.le (.lit (.bool r))) .ret st → Q .ret st) (fun s => Q (.exit 0) ⟨[], []⟩) → ALoopU Try.prog B 0 27 (hold c .mk) ⟨[(0, .arr (List.map Vl.VarType.c a)), (1, .arr (List.map Vl.VarType.c b)), (5, .lit (.int .i64 (i : Int)))], []⟩ (hold Q .mk))
    ?_
  · intro _f_laws_eqVarTypeS_l1 ih_laws_eqVarTypeS_l1 i o hF
    intro c hc Q hq
    obtain rfl : c = _ := navEq hc rfl
    refine ALoopU.know fun hk hs => ?_
    have b0 := hk 0
    simp -dsimp at b0
    have b1 := hk 1
    simp -dsimp at b1
    clear hk hs
    refine ALoopU.enter ?_
    simp -dsimp
    repeat (refine chk.go (by first | omega | assumption | (simp_all; done) | (simp_all; omega)) ?_; try simp -dsimp)
    refine abr.split (fun h4 => ?_) (fun h4 => ?_)
    · have q5 : (i < a.length) := by first | exact h4 | omega | (simpa using h4) | (simp at h4 ⊢; omega) | simp_all
      have z6 : ((i : Int) < (a.length : Int)) := by first | omega | simp_all
      rw [if_pos q5] at hF
      simp -dsimp [h4, z6]
      repeat (refine chk.go (by first | omega | assumption | (simp_all; done) | (simp_all; omega)) ?_; try simp -dsimp [h4, z6])
      refine ADraw.simple follows (by kernel_rfl) (by kernel_rfl) ?_
      have hF := ob hF; obtain ⟨x, e7, hF⟩ := hF
      have le7 := lt_of_get e7
      have hF := ob hF; obtain ⟨x8, e9, hF⟩ := hF
      have le9 := lt_of_get e9
      simp -dsimp [h4, z6, ↓e7, ↓e9]
      repeat (refine chk.go (by first | omega | assumption | (simp_all; done) | (simp_all; omega)) ?_; try simp -dsimp [h4, z6, ↓e7, ↓e9])
      have hF := ob hF; obtain ⟨v, e10, hF⟩ := hF
      refine ((C.laws_eqVarType B hB1 hB2 x x8 v e10)).pgoW (by first | (simp; done) | (simp [h4, z6, ↓e7, ↓e9]; done) | simp_all) (by simp) ?_
      simp -dsimp [h4, z6, ↓e7, ↓e9]
      repeat (refine chk.go (by first | omega | assumption | (simp_all; done) | (simp_all; omega)) ?_; try simp -dsimp [h4, z6, ↓e7, ↓e9])
      refine abr.split (fun h11 => ?_) (fun h11 => ?_)
      · have q12 : ¬ (v = true) := by first | exact h11 | omega | (simpa using h11) | (simp at h11 ⊢; omega) | simp_all
        rw [if_neg q12] at hF
        cases hF
        simp -dsimp [h4, z6, ↓e7, ↓e9, h11, q12]
        repeat (refine chk.go (by first | omega | assumption | (simp_all; done) | (simp_all; omega)) ?_; try simp -dsimp [h4, z6, ↓e7, ↓e9, h11, q12])
        refine Leave.go _ (Gh.refl _) (hq _ ?_)
        simp -dsimp [h4, z6, ↓e7, ↓e9, h11, q12]
        repeat (refine chk.go (by first | omega | assumption | (simp_all; done) | (simp_all; omega)) ?_; try simp -dsimp [h4, z6, ↓e7, ↓e9, h11, q12])
      · have q12 : (v = true) := by first | exact h11 | omega | (simpa using h11) | (simp at h11 ⊢; omega) | simp_all
        rw [if_pos q12] at hF
        have w13 : IntKind.i64.wrap ((i : Int) + 1) = (i : Int) + 1 := wrap_in (by omega) (by omega)
        simp -dsimp [h4, z6, ↓e7, ↓e9, h11, q12, w13]
        repeat (refine chk.go (by first | omega | assumption | (simp_all; done) | (simp_all; omega)) ?_; try simp -dsimp [h4, z6, ↓e7, ↓e9, h11, q12, w13])
        refine Again.go ⟨[(0, .arr (List.map Vl.VarType.c a)), (1, .arr (List.map Vl.VarType.c b)), (5, .lit (.int .i64 ((i + 1) : Int)))], []⟩ (Gh.to (by simp) (by first | (simp -dsimp; done) | (simp -dsimp [h4, z6, ↓e7, ↓e9, h11, q12, w13]; done) | simp_all) (by first | (simp -dsimp; done) | (simp -dsimp [h4, z6, ↓e7, ↓e9, h11, q12, w13]; done) | simp_all) (by first | (simp -dsimp; done) | (simp -dsimp [h4, z6, ↓e7, ↓e9, h11, q12, w13]; done) | simp_all)) ?_
        exact (ih_laws_eqVarTypeS_l1 (i + 1) o hF) _ rfl _ hq
    · have q5 : ¬ (i < a.length) := by first | exact h4 | omega | (simpa using h4) | (simp at h4 ⊢; omega) | simp_all
      have z6 : ¬ ((i : Int) < (a.length : Int)) := by first | omega | simp_all
      rw [if_neg q5] at hF
      cases hF
      simp -dsimp [h4, q5, z6]
      repeat (refine chk.go (by first | omega | assumption | (simp_all; done) | (simp_all; omega)) ?_; try simp -dsimp [h4, q5, z6])
      refine Leave.go ⟨[], []⟩ (Gh.to (by simp) (by first | (simp -dsimp; done) | (simp -dsimp [h4, q5, z6]; done) | simp_all) (by first | (simp -dsimp; done) | (simp -dsimp [h4, q5, z6]; done) | simp_all) (by first | (simp -dsimp; done) | (simp -dsimp [h4, q5, z6]; done) | simp_all)) ?_
      exact hq

theorem C.laws_eqVarTypeS_l1 (B : Nat) (hB1 : 67108864 ≤ B) (hB2 : B ≤ 9223372036854775807) (a : List Vl.VarType) (b : List Vl.VarType) (i : Nat) (o : Lo Bool Unit) (hF : F.laws_eqVarTypeS_l1 a b i = some o) : ∀ (c : Code), navO [1, 1, 0, 1, 0, 0] (bodyOf Try.f22) = some c → ∀ (Q : Exit → ASt → Prop), o.post (fun r => ∀ st, Post Try.prog Try.f22 (fun r' _ => r'.le (.lit (.bool r))) .ret st → Q .ret st) (fun s => Q (.exit 0) ⟨[], []⟩) → ALoopU Try.prog B 0 27 (hold c .mk) ⟨[(0, .arr (List.map Vl.VarType.c a)), (1, .arr (List.map Vl.VarType.c b)), (5, .lit (.int .i64 (i : Int)))], []⟩ (hold Q .mk) :=
  (CC.laws_eqVarTypeS_l1 B hB1 hB2 a b) i o hF

set_option maxRecDepth 100000 in
set_option maxHeartbeats 400000 in
theorem C.laws_eqVarTypeS (B : Nat) (hB1 : 67108864 ≤ B) (hB2 : B ≤ 9223372036854775807) (a : List Vl.VarType) (b : List Vl.VarType) (r : Bool) (hF : F.laws_eqVarTypeS a b = some r) : PureCall Try.prog B 22 [.arr (List.map Vl.VarType.c a), .arr (List.map Vl.VarType.c b)] (.lit (.bool r)) := by
  unfold F.laws_eqVarTypeS at hF
  refine PureCall.enterLe Try.func22 (by kernel_rfl) rfl Try.ntmps22 (by simp) (by simp) ?_
  simp -dsimp
  repeat (refine chk.go (by first | omega | assumption | (simp_all; done) | (simp_all; omega)) ?_; try simp -dsimp)
  refine abr.split (fun h1 => ?_) (fun h1 => ?_)
  · have q2 : ¬ (a.length = b.length) := by first | exact h1 | omega | (simpa using h1) | (simp at h1 ⊢; omega) | simp_all
    have z3 : ¬ ((a.length : Int) = (b.length : Int)) := by first | omega | simp_all
    rw [if_neg q2] at hF
    cases hF
    simp -dsimp [h1, q2, z3]
    repeat (refine chk.go (by first | omega | assumption | (simp_all; done) | (simp_all; omega)) ?_; try simp -dsimp [h1, q2, z3])
    all_goals (try omega)
  · have q2 : (a.length = b.length) := by first | exact h1 | omega | (simpa using h1) | (simp at h1 ⊢; omega) | simp_all
    have z3 : ((a.length : Int) = (b.length : Int)) := by first | omega | simp_all
    rw [if_pos q2] at hF
    simp -dsimp [h1, q2, z3]
    repeat (refine chk.go (by first | omega | assumption | (simp_all; done) | (simp_all; omega)) ?_; try simp -dsimp [h1, q2, z3])
    have hF := ob hF; obtain ⟨o', ho14, hF⟩ := hF
    refine ALoop.goU ⟨[(0, .arr (List.map Vl.VarType.c a)), (1, .arr (List.map Vl.VarType.c b)), (5, .lit (.int .i64 (0 : Int)))], []⟩ (Gh.to (by simp) (by first | (simp -dsimp; done) | (simp -dsimp [h1, q2, z3]; done) | simp_all) (by first | (simp -dsimp; done) | (simp -dsimp [h1, q2, z3]; done) | simp_all) (by first | (simp -dsimp; done) | (simp -dsimp [h1, q2, z3]; done) | simp_all)) ?_
    refine (C.laws_eqVarTypeS_l1 B hB1 hB2 a b 0 o' ho14) _ rfl _ ?_
    rcases o' with r0 | s
    · dsimp only at hF
      cases hF
      intro st h
      simpa using h
    · dsimp only at hF
      cases hF
      simp -dsimp
      repeat (refine chk.go (by first | omega | assumption | (simp_all; done) | (simp_all; omega)) ?_; try simp -dsimp)
      all_goals (try omega)

set_option maxRecDepth 100000 in
set_option maxHeartbeats 400000 in
theorem CC.laws_eqExpr (B : Nat) (hB1 : 67108864 ≤ B) (hB2 : B ≤ 9223372036854775807)  : (∀ (a : Vl.Expr) (b : Vl.Expr) (r : Bool), F.laws_eqExpr a b = some r → PureCall Try.prog B 23 [.agg [.lit (.int .i64 a.op), .lit (.int .i64 a.n), .lit (.int .i64 a.ctor), .arr (List.map Vl.Expr.c a.kids)], .agg [.lit (.int .i64 b.op), .lit (.int .i64 b.n), .lit (.int .i64 b.ctor), .arr (List.map Vl.Expr.c b.kids)]] (.lit (.bool r))) ∧
    (∀ (a : List Vl.Expr) (b : List Vl.Expr) (r : Bool), F.laws_eqExprS a b = some r → PureCall Try.prog B 66 [.arr (List.map Vl.Expr.c a), .arr (List.map Vl.Expr.c b)] (.lit (.bool r))) ∧
    (∀ (a : List Vl.Expr) (b : List Vl.Expr) (i : Nat) (o : Lo Bool Unit), F.laws_eqExprS_l1 a b i = some o → ∀ (c : Code), navO [1, 1, 0, 1, 0, 0] (bodyOf Try.f66) = some c → ∀ (Q : Exit → ASt → Prop), o.post (fun r => ∀ st, Post Try.prog Try.f66 (fun r' _ => r'.le (.lit (.bool r))) .ret st → Q .ret st) (fun s => Q (.exit 0) ⟨[], []⟩) → ALoopU Try.prog B 0 27 (hold c .mk) ⟨[(0, .arr (List.map Vl.Expr.c a)), (1, .arr (List.map Vl.Expr.c b)), (5, .lit (.int .i64 (i : Int)))], []⟩ (hold Q .mk)) := by
  refine F.laws_eqExpr.mutual_partial_correctness 
    (fun a b r => PureCall Try.prog B 23 [.agg [.lit (.int .i64 a.op), .lit (.int .i64 a.n), .lit (.int .i64 a.ctor), .arr (List.map Vl.Expr.c a.kids)], .agg [.lit (.int .i64 b.op), .lit (.int .i64 b.n), .lit (.int .i64 b.ctor), .arr (List.map Vl.Expr.c b.kids)]] (.lit (.bool r)))
    (fun a b r => PureCall Try.prog B 66 [.arr (List.map Vl.Expr.c a), .arr (List.map Vl.Expr.c b)] (.lit (.bool r)))
    (fun a b i o => ∀ (c : Code), navO [1, 1, 0, 1, 0, 0] (bodyOf Try.f66) = some c → ∀ (Q : Exit → ASt → Prop), o.post (fun r => ∀ st, Post Try.prog Try.f66 (fun r' _ => r'.le (.lit (.bool r))) .ret st → Q .ret st) (fun s => Q (.exit 0) ⟨[], []⟩) → ALoopU Try.prog B 0 27 (hold c .mk) ⟨[(0, .arr (List.map Vl.Expr.c a)), (1, .arr (List.map Vl.Expr.c b)), (5, .lit (.int .i64 (i : Int)))], []⟩ (hold Q .mk))
    ?_ ?_ ?_
  · intro _f_laws_eqExprS ih_laws_eqExprS a b r hF
    refine PureCall.enterLe Try.func23 (by kernel_rfl) rfl Try.ntmps23 (by simp) (by simp) ?_
    simp -dsimp
    repeat (refine chk.go (by first | omega | assumption | (simp_all; done) | (simp_all; omega)) ?_; try simp -dsimp)
    refine abr.split (fun h1 => ?_) (fun h1 => ?_)
    · have q2 : ¬ (a.op = b.op) := by first | exact h1 | omega | (simpa using h1) | (simp at h1 ⊢; omega) | simp_all
      rw [if_neg q2] at hF
      cases hF
      simp -dsimp [h1, q2]
      repeat (refine chk.go (by first | omega | assumption | (simp_all; done) | (simp_all; omega)) ?_; try simp -dsimp [h1, q2])
      all_goals (try omega)
    · have q2 : (a.op = b.op) := by first | exact h1 | omega | (simpa using h1) | (simp at h1 ⊢; omega) | simp_all
      rw [if_pos q2] at hF
      simp -dsimp [h1, q2]
      repeat (refine chk.go (by first | omega | assumption | (simp_all; done) | (simp_all; omega)) ?_; try simp -dsimp [h1, q2])
      refine abr.split (fun h3 => ?_) (fun h3 => ?_)
      · have q4 : ¬ (a.n = b.n) := by first | exact h3 | omega | (simpa using h3) | (simp at h3 ⊢; omega) | simp_all
        rw [if_neg q4] at hF
        cases hF
        simp -dsimp [h1, q2, h3, q4]
        repeat (refine chk.go (by first | omega | assumption | (simp_all; done) | (simp_all; omega)) ?_; try simp -dsimp [h1, q2, h3, q4])
        all_goals (try omega)
      · have q4 : (a.n = b.n) := by first | exact h3 | omega | (simpa using h3) | (simp at h3 ⊢; omega) | simp_all
        rw [if_pos q4] at hF
        simp -dsimp [h1, q2, h3, q4]
        repeat (refine chk.go (by first | omega | assumption | (simp_all; done) | (simp_all; omega)) ?_; try simp -dsimp [h1, q2, h3, q4])
        refine abr.split (fun h5 => ?_) (fun h5 => ?_)
        · have q6 : ¬ (a.ctor = b.ctor) := by first | exact h5 | omega | (simpa using h5) | (simp at h5 ⊢; omega) | simp_all
          rw [if_neg q6] at hF
          cases hF
          simp -dsimp [h1, q2, h3, q4, h5, q6]
          repeat (refine chk.go (by first | omega | assumption | (simp_all; done) | (simp_all; omega)) ?_; try simp -dsimp [h1, q2, h3, q4, h5, q6])
          all_goals (try omega)
        · have q6 : (a.ctor = b.ctor) := by first | exact h5 | omega | (simpa using h5) | (simp at h5 ⊢; omega) | simp_all
          rw [if_pos q6] at hF
          simp -dsimp [h1, q2, h3, q4, h5, q6]
          repeat (refine chk.go (by first | omega | assumption | (simp_all; done) | (simp_all; omega)) ?_; try simp -dsimp [h1, q2, h3, q4, h5, q6])
          have hF := ob hF; obtain ⟨v, e7, hF⟩ := hF
          refine ((ih_laws_eqExprS a.kids b.kids v e7)).goW (by first | (simp; done) | (simp [h1, q2, h3, q4, h5, q6]; done) | simp_all) (by simp) ?_
          simp -dsimp [h1, q2, h3, q4, h5, q6]
          repeat (refine chk.go (by first | omega | assumption | (simp_all; done) | (simp_all; omega)) ?_; try simp -dsimp [h1, q2, h3, q4, h5, q6])
          refine abr.split (fun h8 => ?_) (fun h8 => ?_)
          · have q9 : ¬ (v = true) := by first | exact h8 | omega | (simpa using h8) | (simp at h8 ⊢; omega) | simp_all
            rw [if_neg q9] at hF
            cases hF
            simp -dsimp [h1, q2, h3, q4, h5, q6, h8, q9]
            repeat (refine chk.go (by first | omega | assumption | (simp_all; done) | (simp_all; omega)) ?_; try simp -dsimp [h1, q2, h3, q4, h5, q6, h8, q9])
            all_goals (try omega)
          · have q9 : (v = true) := by first | exact h8 | omega | (simpa using h8) | (simp at h8 ⊢; omega) | simp_all
            rw [if_pos q9] at hF
            cases hF
            simp -dsimp [h1, q2, h3, q4, h5, q6, h8, q9]
            repeat (refine chk.go (by first | omega | assumption | (simp_all; done) | (simp_all; omega)) ?_; try simp -dsimp [h1, q2, h3, q4, h5, q6, h8, q9])
            all_goals (try omega)
  · intro _f_laws_eqExprS_l1 ih_laws_eqExprS_l1 a b r hF
    refine PureCall.enterLe Try.func66 (by kernel_rfl) rfl Try.ntmps66 (by simp) (by simp) ?_
    simp -dsimp
    repeat (refine chk.go (by first | omega | assumption | (simp_all; done) | (simp_all; omega)) ?_; try simp -dsimp)
    refine abr.split (fun h1 => ?_) (fun h1 => ?_)
    · have q2 : ¬ (a.length = b.length) := by first | exact h1 | omega | (simpa using h1) | (simp at h1 ⊢; omega) | simp_all
      have z3 : ¬ ((a.length : Int) = (b.length : Int)) := by first | omega | simp_all
      rw [if_neg q2] at hF
      cases hF
      simp -dsimp [h1, q2, z3]
      repeat (refine chk.go (by first | omega | assumption | (simp_all; done) | (simp_all; omega)) ?_; try simp -dsimp [h1, q2, z3])
      all_goals (try omega)
    · have q2 : (a.length = b.length) := by first | exact h1 | omega | (simpa using h1) | (simp at h1 ⊢; omega) | simp_all
      have z3 : ((a.length : Int) = (b.length : Int)) := by first | omega | simp_all
      rw [if_pos q2] at hF
      simp -dsimp [h1, q2, z3]
      repeat (refine chk.go (by first | omega | assumption | (simp_all; done) | (simp_all; omega)) ?_; try simp -dsimp [h1, q2, z3])
      have hF := ob hF; obtain ⟨o', ho14, hF⟩ := hF
      refine ALoop.goU ⟨[(0, .arr (List.map Vl.Expr.c a)), (1, .arr (List.map Vl.Expr.c b)), (5, .lit (.int .i64 (0 : Int)))], []⟩ (Gh.to (by simp) (by first | (simp -dsimp; done) | (simp -dsimp [h1, q2, z3]; done) | simp_all) (by first | (simp -dsimp; done) | (simp -dsimp [h1, q2, z3]; done) | simp_all) (by first | (simp -dsimp; done) | (simp -dsimp [h1, q2, z3]; done) | simp_all)) ?_
      refine (ih_laws_eqExprS_l1 a b 0 o' ho14) _ rfl _ ?_
      rcases o' with r0 | s
      · dsimp only at hF
        cases hF
        intro st h
        simpa using h
      · dsimp only at hF
        cases hF
        simp -dsimp
        repeat (refine chk.go (by first | omega | assumption | (simp_all; done) | (simp_all; omega)) ?_; try simp -dsimp)
        all_goals (try omega)
  · intro _f_laws_eqExpr _f_laws_eqExprS_l1 ih_laws_eqExpr ih_laws_eqExprS_l1 a b i o hF
    intro c hc Q hq
    obtain rfl : c = _ := navEq hc rfl
    refine ALoopU.know fun hk hs => ?_
    have b0 := hk 0
    simp -dsimp at b0
    have b1 := hk 1
    simp -dsimp at b1
    clear hk hs
    refine ALoopU.enter ?_
    simp -dsimp
    repeat (refine chk.go (by first | omega | assumption | (simp_all; done) | (simp_all; omega)) ?_; try simp -dsimp)
    refine abr.split (fun h4 => ?_) (fun h4 => ?_)
    · have q5 : (i < a.length) := by first | exact h4 | omega | (simpa using h4) | (simp at h4 ⊢; omega) | simp_all
      have z6 : ((i : Int) < (a.length : Int)) := by first | omega | simp_all
      rw [if_pos q5] at hF
      simp -dsimp [h4, z6]
      repeat (refine chk.go (by first | omega | assumption | (simp_all; done) | (simp_all; omega)) ?_; try simp -dsimp [h4, z6])
      refine ADraw.simple follows (by kernel_rfl) (by kernel_rfl) ?_
      have hF := ob hF; obtain ⟨x, e7, hF⟩ := hF
      have le7 := lt_of_get e7
      have hF := ob hF; obtain ⟨x8, e9, hF⟩ := hF
      have le9 := lt_of_get e9
      simp -dsimp [h4, z6, ↓e7, ↓e9]
      repeat (refine chk.go (by first | omega | assumption | (simp_all; done) | (simp_all; omega)) ?_; try simp -dsimp [h4, z6, ↓e7, ↓e9])
      have hF := ob hF; obtain ⟨v, e10, hF⟩ := hF
      refine ((ih_laws_eqExpr x x8 v e10)).pgoW (by first | (simp; done) | (simp [h4, z6, ↓e7, ↓e9]; done) | simp_all) (by simp) ?_
      simp -dsimp [h4, z6, ↓e7, ↓e9]
      repeat (refine chk.go (by first | omega | assumption | (simp_all; done) | (simp_all; omega)) ?_; try simp -dsimp [h4, z6, ↓e7, ↓e9])
      refine abr.split (fun h11 => ?_) (fun h11 => ?_)
      · have q12 : ¬ (v = true) := by first | exact h11 | omega | (simpa using h11) | (simp at h11 ⊢; omega) | simp_all
        rw [if_neg q12] at hF
        cases hF
        simp -dsimp [h4, z6, ↓e7, ↓e9, h11, q12]
        repeat (refine chk.go (by first | omega | assumption | (simp_all; done) | (simp_all; omega)) ?_; try simp -dsimp [h4, z6, ↓e7, ↓e9, h11, q12])
        refine Leave.go _ (Gh.refl _) (hq _ ?_)
        simp -dsimp [h4, z6, ↓e7, ↓e9, h11, q12]
        repeat (refine chk.go (by first | omega | assumption | (simp_all; done) | (simp_all; omega)) ?_; try simp -dsimp [h4, z6, ↓e7, ↓e9, h11, q12])
      · have q12 : (v = true) := by first | exact h11 | omega | (simpa using h11) | (simp at h11 ⊢; omega) | simp_all
        rw [if_pos q12] at hF
        have w13 : IntKind.i64.wrap ((i : Int) + 1) = (i : Int) + 1 := wrap_in (by omega) (by omega)
        simp -dsimp [h4, z6, ↓e7, ↓e9, h11, q12, w13]
        repeat (refine chk.go (by first | omega | assumption | (simp_all; done) | (simp_all; omega)) ?_; try simp -dsimp [h4, z6, ↓e7, ↓e9, h11, q12, w13])
        refine Again.go ⟨[(0, .arr (List.map Vl.Expr.c a)), (1, .arr (List.map Vl.Expr.c b)), (5, .lit (.int .i64 ((i + 1) : Int)))], []⟩ (Gh.to (by simp) (by first | (simp -dsimp; done) | (simp -dsimp [h4, z6, ↓e7, ↓e9, h11, q12, w13]; done) | simp_all) (by first | (simp -dsimp; done) | (simp -dsimp [h4, z6, ↓e7, ↓e9, h11, q12, w13]; done) | simp_all) (by first | (simp -dsimp; done) | (simp -dsimp [h4, z6, ↓e7, ↓e9, h11, q12, w13]; done) | simp_all)) ?_
        exact (ih_laws_eqExprS_l1 a b (i + 1) o hF) _ rfl _ hq
    · have q5 : ¬ (i < a.length) := by first | exact h4 | omega | (simpa using h4) | (simp at h4 ⊢; omega) | simp_all
      have z6 : ¬ ((i : Int) < (a.length : Int)) := by first | omega | simp_all
      rw [if_neg q5] at hF
      cases hF
      simp -dsimp [h4, q5, z6]
      repeat (refine chk.go (by first | omega | assumption | (simp_all; done) | (simp_all; omega)) ?_; try simp -dsimp [h4, q5, z6])
      refine Leave.go ⟨[], []⟩ (Gh.to (by simp) (by first | (simp -dsimp; done) | (simp -dsimp [h4, q5, z6]; done) | simp_all) (by first | (simp -dsimp; done) | (simp -dsimp [h4, q5, z6]; done) | simp_all) (by first | (simp -dsimp; done) | (simp -dsimp [h4, q5, z6]; done) | simp_all)) ?_
      exact hq

theorem C.laws_eqExpr (B : Nat) (hB1 : 67108864 ≤ B) (hB2 : B ≤ 9223372036854775807) (a : Vl.Expr) (b : Vl.Expr) (r : Bool) (hF : F.laws_eqExpr a b = some r) : PureCall Try.prog B 23 [.agg [.lit (.int .i64 a.op), .lit (.int .i64 a.n), .lit (.int .i64 a.ctor), .arr (List.map Vl.Expr.c a.kids)], .agg [.lit (.int .i64 b.op), .lit (.int .i64 b.n), .lit (.int .i64 b.ctor), .arr (List.map Vl.Expr.c b.kids)]] (.lit (.bool r)) :=
  (CC.laws_eqExpr B hB1 hB2 ).1 a b r hF

theorem C.laws_eqExprS (B : Nat) (hB1 : 67108864 ≤ B) (hB2 : B ≤ 9223372036854775807) (a : List Vl.Expr) (b : List Vl.Expr) (r : Bool) (hF : F.laws_eqExprS a b = some r) : PureCall Try.prog B 66 [.arr (List.map Vl.Expr.c a), .arr (List.map Vl.Expr.c b)] (.lit (.bool r)) :=
  (CC.laws_eqExpr B hB1 hB2 ).2.1 a b r hF

theorem C.laws_eqExprS_l1 (B : Nat) (hB1 : 67108864 ≤ B) (hB2 : B ≤ 9223372036854775807) (a : List Vl.Expr) (b : List Vl.Expr) (i : Nat) (o : Lo Bool Unit) (hF : F.laws_eqExprS_l1 a b i = some o) : ∀ (c : Code), navO [1, 1, 0, 1, 0, 0] (bodyOf Try.f66) = some c → ∀ (Q : Exit → ASt → Prop), o.post (fun r => ∀ st, Post Try.prog Try.f66 (fun r' _ => r'.le (.lit (.bool r))) .ret st → Q .ret st) (fun s => Q (.exit 0) ⟨[], []⟩) → ALoopU Try.prog B 0 27 (hold c .mk) ⟨[(0, .arr (List.map Vl.Expr.c a)), (1, .arr (List.map Vl.Expr.c b)), (5, .lit (.int .i64 (i : Int)))], []⟩ (hold Q .mk) :=
  (CC.laws_eqExpr B hB1 hB2 ).2.2 a b i o hF

set_option maxRecDepth 100000 in
set_option maxHeartbeats 400000 in
theorem C.laws_FnExactExprValid (B : Nat) (hB1 : 67108864 ≤ B) (hB2 : B ≤ 9223372036854775807) (aW : List Vl.Data) (aFuns : List Vl.FunType) (aVars : List Vl.VarType) (aT : Vl.Ty) (aE : Vl.Expr) (r : Bool) (hF : F.laws_FnExactExprValid aW aFuns aVars aT aE = some r) : PureCall Try.prog B 3 [.arr (List.map Vl.Data.c aW), .arr (List.map Vl.FunType.c aFuns), .arr (List.map Vl.VarType.c aVars), .agg [.lit (.int .i64 aT.data), .lit (.int .i64 aT.index)], .agg [.lit (.int .i64 aE.op), .lit (.int .i64 aE.n), .lit (.int .i64 aE.ctor), .arr (List.map Vl.Expr.c aE.kids)]] (.lit (.bool r)) := by
  unfold F.laws_FnExactExprValid at hF
  refine PureCall.enterLe Try.func3 (by kernel_rfl) rfl Try.ntmps3 (by simp) (by simp) ?_
  simp -dsimp
  repeat (refine chk.go (by first | omega | assumption | (simp_all; done) | (simp_all; omega)) ?_; try simp -dsimp)
  have hF := ob hF; obtain ⟨v, e1, hF⟩ := hF
  refine ((C.laws_szDataS B hB1 hB2 aW (1048576 : Int) v e1)).goW (by simp) (by simp) ?_
  simp -dsimp
  repeat (refine chk.go (by first | omega | assumption | (simp_all; done) | (simp_all; omega)) ?_; try simp -dsimp)
  refine abr.split (fun h2 => ?_) (fun h2 => ?_)
  · have q3 : (v < 0) := by first | exact h2 | omega | (simpa using h2) | (simp at h2 ⊢; omega) | simp_all
    rw [if_pos q3] at hF
    cases hF
    simp -dsimp [h2]
    repeat (refine chk.go (by first | omega | assumption | (simp_all; done) | (simp_all; omega)) ?_; try simp -dsimp [h2])
    all_goals (try omega)
  · have q3 : ¬ (v < 0) := by first | exact h2 | omega | (simpa using h2) | (simp at h2 ⊢; omega) | simp_all
    rw [if_neg q3] at hF
    simp -dsimp [h2, q3]
    repeat (refine chk.go (by first | omega | assumption | (simp_all; done) | (simp_all; omega)) ?_; try simp -dsimp [h2, q3])
    have hF := ob hF; obtain ⟨v4, e5, hF⟩ := hF
    refine ((C.laws_szFunTypeS B hB1 hB2 aFuns v v4 e5)).goW (by first | (simp; done) | (simp [h2, q3]; done) | simp_all) (by simp) ?_
    simp -dsimp [h2, q3]
    repeat (refine chk.go (by first | omega | assumption | (simp_all; done) | (simp_all; omega)) ?_; try simp -dsimp [h2, q3])
    refine abr.split (fun h6 => ?_) (fun h6 => ?_)
    · have q7 : (v4 < 0) := by first | exact h6 | omega | (simpa using h6) | (simp at h6 ⊢; omega) | simp_all
      rw [if_pos q7] at hF
      cases hF
      simp -dsimp [h2, q3, h6]
      repeat (refine chk.go (by first | omega | assumption | (simp_all; done) | (simp_all; omega)) ?_; try simp -dsimp [h2, q3, h6])
      all_goals (try omega)
    · have q7 : ¬ (v4 < 0) := by first | exact h6 | omega | (simpa using h6) | (simp at h6 ⊢; omega) | simp_all
      rw [if_neg q7] at hF
      simp -dsimp [h2, q3, h6, q7]
      repeat (refine chk.go (by first | omega | assumption | (simp_all; done) | (simp_all; omega)) ?_; try simp -dsimp [h2, q3, h6, q7])
      have hF := ob hF; obtain ⟨v8, e9, hF⟩ := hF
      refine ((C.laws_szVarTypeS B hB1 hB2 aVars v4 v8 e9)).goW (by first | (simp; done) | (simp [h2, q3, h6, q7]; done) | simp_all) (by simp) ?_
      simp -dsimp [h2, q3, h6, q7]
      repeat (refine chk.go (by first | omega | assumption | (simp_all; done) | (simp_all; omega)) ?_; try simp -dsimp [h2, q3, h6, q7])
      refine abr.split (fun h10 => ?_) (fun h10 => ?_)
      · have q11 : (v8 < 0) := by first | exact h10 | omega | (simpa using h10) | (simp at h10 ⊢; omega) | simp_all
        rw [if_pos q11] at hF
        cases hF
        simp -dsimp [h2, q3, h6, q7, h10]
        repeat (refine chk.go (by first | omega | assumption | (simp_all; done) | (simp_all; omega)) ?_; try simp -dsimp [h2, q3, h6, q7, h10])
        all_goals (try omega)
      · have q11 : ¬ (v8 < 0) := by first | exact h10 | omega | (simpa using h10) | (simp at h10 ⊢; omega) | simp_all
        rw [if_neg q11] at hF
        simp -dsimp [h2, q3, h6, q7, h10, q11]
        repeat (refine chk.go (by first | omega | assumption | (simp_all; done) | (simp_all; omega)) ?_; try simp -dsimp [h2, q3, h6, q7, h10, q11])
        have hF := ob hF; obtain ⟨v12, e13, hF⟩ := hF
        refine ((C.laws_szExpr B hB1 hB2 aE v8 v12 e13)).goW (by first | (simp; done) | (simp [h2, q3, h6, q7, h10, q11]; done) | simp_all) (by simp) ?_
        simp -dsimp [h2, q3, h6, q7, h10, q11]
        repeat (refine chk.go (by first | omega | assumption | (simp_all; done) | (simp_all; omega)) ?_; try simp -dsimp [h2, q3, h6, q7, h10, q11])
        refine abr.split (fun h14 => ?_) (fun h14 => ?_)
        · have q15 : (v12 < 0) := by first | exact h14 | omega | (simpa using h14) | (simp at h14 ⊢; omega) | simp_all
          rw [if_pos q15] at hF
          cases hF
          simp -dsimp [h2, q3, h6, q7, h10, q11, h14]
          repeat (refine chk.go (by first | omega | assumption | (simp_all; done) | (simp_all; omega)) ?_; try simp -dsimp [h2, q3, h6, q7, h10, q11, h14])
          all_goals (try omega)
        · have q15 : ¬ (v12 < 0) := by first | exact h14 | omega | (simpa using h14) | (simp at h14 ⊢; omega) | simp_all
          rw [if_neg q15] at hF
          simp -dsimp [h2, q3, h6, q7, h10, q11, h14, q15]
          repeat (refine chk.go (by first | omega | assumption | (simp_all; done) | (simp_all; omega)) ?_; try simp -dsimp [h2, q3, h6, q7, h10, q11, h14, q15])
          refine ADraw.simple follows (by kernel_rfl) (by kernel_rfl) ?_
          simp -dsimp [h2, q3, h6, q7, h10, q11, h14, q15]
          repeat (refine chk.go (by first | omega | assumption | (simp_all; done) | (simp_all; omega)) ?_; try simp -dsimp [h2, q3, h6, q7, h10, q11, h14, q15])
          have hF := ob hF; obtain ⟨v16, e17, hF⟩ := hF
          refine ((C.laws_toDataS B hB1 hB2 aW v16 e17)).pgoW (by first | (simp; done) | (simp [h2, q3, h6, q7, h10, q11, h14, q15]; done) | simp_all) (by simp) ?_
          simp -dsimp [h2, q3, h6, q7, h10, q11, h14, q15]
          repeat (refine chk.go (by first | omega | assumption | (simp_all; done) | (simp_all; omega)) ?_; try simp -dsimp [h2, q3, h6, q7, h10, q11, h14, q15])
          have hF := ob hF; obtain ⟨v18, e19, hF⟩ := hF
          refine ((C.laws_toFunTypeS B hB1 hB2 aFuns v18 e19)).pgoW (by first | (simp; done) | (simp [h2, q3, h6, q7, h10, q11, h14, q15]; done) | simp_all) (by simp) ?_
          simp -dsimp [h2, q3, h6, q7, h10, q11, h14, q15]
          repeat (refine chk.go (by first | omega | assumption | (simp_all; done) | (simp_all; omega)) ?_; try simp -dsimp [h2, q3, h6, q7, h10, q11, h14, q15])
          have hF := ob hF; obtain ⟨v20, e21, hF⟩ := hF
          refine ((C.laws_toVarTypeS B hB1 hB2 aVars v20 e21)).pgoW (by first | (simp; done) | (simp [h2, q3, h6, q7, h10, q11, h14, q15]; done) | simp_all) (by simp) ?_
          simp -dsimp [h2, q3, h6, q7, h10, q11, h14, q15]
          repeat (refine chk.go (by first | omega | assumption | (simp_all; done) | (simp_all; omega)) ?_; try simp -dsimp [h2, q3, h6, q7, h10, q11, h14, q15])
          have hF := ob hF; obtain ⟨v22, e23, hF⟩ := hF
          refine ((C.laws_toType B hB1 hB2 aT v22 e23)).pgoW (by first | (simp; done) | (simp [h2, q3, h6, q7, h10, q11, h14, q15]; done) | simp_all) (by simp) ?_
          simp -dsimp [h2, q3, h6, q7, h10, q11, h14, q15]
          repeat (refine chk.go (by first | omega | assumption | (simp_all; done) | (simp_all; omega)) ?_; try simp -dsimp [h2, q3, h6, q7, h10, q11, h14, q15])
          have hF := ob hF; obtain ⟨v24, e25, hF⟩ := hF
          refine ((C.laws_toExpr B hB1 hB2 aE v24 e25)).pgoW (by first | (simp; done) | (simp [h2, q3, h6, q7, h10, q11, h14, q15]; done) | simp_all) (by simp) ?_
          simp -dsimp [h2, q3, h6, q7, h10, q11, h14, q15]
          repeat (refine chk.go (by first | omega | assumption | (simp_all; done) | (simp_all; omega)) ?_; try simp -dsimp [h2, q3, h6, q7, h10, q11, h14, q15])
          have hF := ob hF; obtain ⟨v26, e27, hF⟩ := hF
          refine ((C.spec_ExprValid B hB1 hB2 v16 v18 v20 v22 v24 v26 e27)).pgoW (by first | (simp; done) | (simp [h2, q3, h6, q7, h10, q11, h14, q15]; done) | simp_all) (by simp) ?_
          simp -dsimp [h2, q3, h6, q7, h10, q11, h14, q15]
          repeat (refine chk.go (by first | omega | assumption | (simp_all; done) | (simp_all; omega)) ?_; try simp -dsimp [h2, q3, h6, q7, h10, q11, h14, q15])
          have hF := ob hF; obtain ⟨v28, e29, hF⟩ := hF
          refine ((C.laws_toDataS B hB1 hB2 aW v28 e29)).goW (by first | (simp; done) | (simp [h2, q3, h6, q7, h10, q11, h14, q15]; done) | simp_all) (by simp) ?_
          simp -dsimp [h2, q3, h6, q7, h10, q11, h14, q15]
          repeat (refine chk.go (by first | omega | assumption | (simp_all; done) | (simp_all; omega)) ?_; try simp -dsimp [h2, q3, h6, q7, h10, q11, h14, q15])
          have hF := ob hF; obtain ⟨v30, e31, hF⟩ := hF
          refine ((C.laws_toFunTypeS B hB1 hB2 aFuns v30 e31)).goW (by first | (simp; done) | (simp [h2, q3, h6, q7, h10, q11, h14, q15]; done) | simp_all) (by simp) ?_
          simp -dsimp [h2, q3, h6, q7, h10, q11, h14, q15]
          repeat (refine chk.go (by first | omega | assumption | (simp_all; done) | (simp_all; omega)) ?_; try simp -dsimp [h2, q3, h6, q7, h10, q11, h14, q15])
          have hF := ob hF; obtain ⟨v32, e33, hF⟩ := hF
          refine ((C.laws_toVarTypeS B hB1 hB2 aVars v32 e33)).goW (by first | (simp; done) | (simp [h2, q3, h6, q7, h10, q11, h14, q15]; done) | simp_all) (by simp) ?_
          simp -dsimp [h2, q3, h6, q7, h10, q11, h14, q15]
          repeat (refine chk.go (by first | omega | assumption | (simp_all; done) | (simp_all; omega)) ?_; try simp -dsimp [h2, q3, h6, q7, h10, q11, h14, q15])
          have hF := ob hF; obtain ⟨v34, e35, hF⟩ := hF
          refine ((C.laws_toExpr B hB1 hB2 aE v34 e35)).goW (by first | (simp; done) | (simp [h2, q3, h6, q7, h10, q11, h14, q15]; done) | simp_all) (by simp) ?_
          simp -dsimp [h2, q3, h6, q7, h10, q11, h14, q15]
          repeat (refine chk.go (by first | omega | assumption | (simp_all; done) | (simp_all; omega)) ?_; try simp -dsimp [h2, q3, h6, q7, h10, q11, h14, q15])
          refine ADraw.simple follows (by kernel_rfl) (by kernel_rfl) ?_
          simp -dsimp [h2, q3, h6, q7, h10, q11, h14, q15]
          repeat (refine chk.go (by first | omega | assumption | (simp_all; done) | (simp_all; omega)) ?_; try simp -dsimp [h2, q3, h6, q7, h10, q11, h14, q15])
          have hF := ob hF; obtain ⟨v36, e37, hF⟩ := hF
          refine ((C.laws_toType B hB1 hB2 aT v36 e37)).pgoW (by first | (simp; done) | (simp [h2, q3, h6, q7, h10, q11, h14, q15]; done) | simp_all) (by simp) ?_
          simp -dsimp [h2, q3, h6, q7, h10, q11, h14, q15]
          repeat (refine chk.go (by first | omega | assumption | (simp_all; done) | (simp_all; omega)) ?_; try simp -dsimp [h2, q3, h6, q7, h10, q11, h14, q15])
          have hF := ob hF; obtain ⟨v38, e39, hF⟩ := hF
          refine ((C.impl_ExprValid B hB1 hB2 v28 v30 v32 v36 v34 v38 e39)).pgoW (by first | (simp; done) | (simp [h2, q3, h6, q7, h10, q11, h14, q15]; done) | simp_all) (by simp) ?_
          simp -dsimp [h2, q3, h6, q7, h10, q11, h14, q15]
          repeat (refine chk.go (by first | omega | assumption | (simp_all; done) | (simp_all; omega)) ?_; try simp -dsimp [h2, q3, h6, q7, h10, q11, h14, q15])
          refine abr.split (fun h40 => ?_) (fun h40 => ?_)
          · have q41 : ¬ (v38 = v26) := by first | exact h40 | omega | (simpa using h40) | (simp at h40 ⊢; omega) | simp_all
            rw [if_neg q41] at hF
            cases hF
            simp -dsimp [h2, q3, h6, q7, h10, q11, h14, q15, h40, q41]
            repeat (refine chk.go (by first | omega | assumption | (simp_all; done) | (simp_all; omega)) ?_; try simp -dsimp [h2, q3, h6, q7, h10, q11, h14, q15, h40, q41])
            all_goals (try omega)
          · have q41 : (v38 = v26) := by first | exact h40 | omega | (simpa using h40) | (simp at h40 ⊢; omega) | simp_all
            rw [if_pos q41] at hF
            simp -dsimp [h2, q3, h6, q7, h10, q11, h14, q15, h40, q41]
            repeat (refine chk.go (by first | omega | assumption | (simp_all; done) | (simp_all; omega)) ?_; try simp -dsimp [h2, q3, h6, q7, h10, q11, h14, q15, h40, q41])
            have hF := ob hF; obtain ⟨v42, e43, hF⟩ := hF
            refine ((C.laws_toDataS B hB1 hB2 aW v42 e43)).goW (by first | (simp; done) | (simp [h2, q3, h6, q7, h10, q11, h14, q15, h40, q41]; done) | simp_all) (by simp) ?_
            simp -dsimp [h2, q3, h6, q7, h10, q11, h14, q15, h40, q41]
            repeat (refine chk.go (by first | omega | assumption | (simp_all; done) | (simp_all; omega)) ?_; try simp -dsimp [h2, q3, h6, q7, h10, q11, h14, q15, h40, q41])
            have hF := ob hF; obtain ⟨v44, e45, hF⟩ := hF
            refine ((C.laws_eqDataS B hB1 hB2 v28 v42 v44 e45)).goW (by first | (simp; done) | (simp [h2, q3, h6, q7, h10, q11, h14, q15, h40, q41]; done) | simp_all) (by simp) ?_
            simp -dsimp [h2, q3, h6, q7, h10, q11, h14, q15, h40, q41]
            repeat (refine chk.go (by first | omega | assumption | (simp_all; done) | (simp_all; omega)) ?_; try simp -dsimp [h2, q3, h6, q7, h10, q11, h14, q15, h40, q41])
            refine abr.split (fun h46 => ?_) (fun h46 => ?_)
            · have q47 : ¬ (v44 = true) := by first | exact h46 | omega | (simpa using h46) | (simp at h46 ⊢; omega) | simp_all
              rw [if_neg q47] at hF
              cases hF
              simp -dsimp [h2, q3, h6, q7, h10, q11, h14, q15, h40, q41, h46, q47]
              repeat (refine chk.go (by first | omega | assumption | (simp_all; done) | (simp_all; omega)) ?_; try simp -dsimp [h2, q3, h6, q7, h10, q11, h14, q15, h40, q41, h46, q47])
              all_goals (try omega)
            · have q47 : (v44 = true) := by first | exact h46 | omega | (simpa using h46) | (simp at h46 ⊢; omega) | simp_all
              rw [if_pos q47] at hF
              simp -dsimp [h2, q3, h6, q7, h10, q11, h14, q15, h40, q41, h46, q47]
              repeat (refine chk.go (by first | omega | assumption | (simp_all; done) | (simp_all; omega)) ?_; try simp -dsimp [h2, q3, h6, q7, h10, q11, h14, q15, h40, q41, h46, q47])
              have hF := ob hF; obtain ⟨v48, e49, hF⟩ := hF
              refine ((C.laws_toFunTypeS B hB1 hB2 aFuns v48 e49)).goW (by first | (simp; done) | (simp [h2, q3, h6, q7, h10, q11, h14, q15, h40, q41, h46, q47]; done) | simp_all) (by simp) ?_
              simp -dsimp [h2, q3, h6, q7, h10, q11, h14, q15, h40, q41, h46, q47]
              repeat (refine chk.go (by first | omega | assumption | (simp_all; done) | (simp_all; omega)) ?_; try simp -dsimp [h2, q3, h6, q7, h10, q11, h14, q15, h40, q41, h46, q47])
              have hF := ob hF; obtain ⟨v50, e51, hF⟩ := hF
              refine ((C.laws_eqFunTypeS B hB1 hB2 v30 v48 v50 e51)).goW (by first | (simp; done) | (simp [h2, q3, h6, q7, h10, q11, h14, q15, h40, q41, h46, q47]; done) | simp_all) (by simp) ?_
              simp -dsimp [h2, q3, h6, q7, h10, q11, h14, q15, h40, q41, h46, q47]
              repeat (refine chk.go (by first | omega | assumption | (simp_all; done) | (simp_all; omega)) ?_; try simp -dsimp [h2, q3, h6, q7, h10, q11, h14, q15, h40, q41, h46, q47])
              refine abr.split (fun h52 => ?_) (fun h52 => ?_)
              · have q53 : ¬ (v50 = true) := by first | exact h52 | omega | (simpa using h52) | (simp at h52 ⊢; omega) | simp_all
                rw [if_neg q53] at hF
                cases hF
                simp -dsimp [h2, q3, h6, q7, h10, q11, h14, q15, h40, q41, h46, q47, h52, q53]
                repeat (refine chk.go (by first | omega | assumption | (simp_all; done) | (simp_all; omega)) ?_; try simp -dsimp [h2, q3, h6, q7, h10, q11, h14, q15, h40, q41, h46, q47, h52, q53])
                all_goals (try omega)
              · have q53 : (v50 = true) := by first | exact h52 | omega | (simpa using h52) | (simp at h52 ⊢; omega) | simp_all
                rw [if_pos q53] at hF
                simp -dsimp [h2, q3, h6, q7, h10, q11, h14, q15, h40, q41, h46, q47, h52, q53]
                repeat (refine chk.go (by first | omega | assumption | (simp_all; done) | (simp_all; omega)) ?_; try simp -dsimp [h2, q3, h6, q7, h10, q11, h14, q15, h40, q41, h46, q47, h52, q53])
                have hF := ob hF; obtain ⟨v54, e55, hF⟩ := hF
                refine ((C.laws_toVarTypeS B hB1 hB2 aVars v54 e55)).goW (by first | (simp; done) | (simp [h2, q3, h6, q7, h10, q11, h14, q15, h40, q41, h46, q47, h52, q53]; done) | simp_all) (by simp) ?_
                simp -dsimp [h2, q3, h6, q7, h10, q11, h14, q15, h40, q41, h46, q47, h52, q53]
                repeat (refine chk.go (by first | omega | assumption | (simp_all; done) | (simp_all; omega)) ?_; try simp -dsimp [h2, q3, h6, q7, h10, q11, h14, q15, h40, q41, h46, q47, h52, q53])
                have hF := ob hF; obtain ⟨v56, e57, hF⟩ := hF
                refine ((C.laws_eqVarTypeS B hB1 hB2 v32 v54 v56 e57)).goW (by first | (simp; done) | (simp [h2, q3, h6, q7, h10, q11, h14, q15, h40, q41, h46, q47, h52, q53]; done) | simp_all) (by simp) ?_
                simp -dsimp [h2, q3, h6, q7, h10, q11, h14, q15, h40, q41, h46, q47, h52, q53]
                repeat (refine chk.go (by first | omega | assumption | (simp_all; done) | (simp_all; omega)) ?_; try simp -dsimp [h2, q3, h6, q7, h10, q11, h14, q15, h40, q41, h46, q47, h52, q53])
                refine abr.split (fun h58 => ?_) (fun h58 => ?_)
                · have q59 : ¬ (v56 = true) := by first | exact h58 | omega | (simpa using h58) | (simp at h58 ⊢; omega) | simp_all
                  rw [if_neg q59] at hF
                  cases hF
                  simp -dsimp [h2, q3, h6, q7, h10, q11, h14, q15, h40, q41, h46, q47, h52, q53, h58, q59]
                  repeat (refine chk.go (by first | omega | assumption | (simp_all; done) | (simp_all; omega)) ?_; try simp -dsimp [h2, q3, h6, q7, h10, q11, h14, q15, h40, q41, h46, q47, h52, q53, h58, q59])
                  all_goals (try omega)
                · have q59 : (v56 = true) := by first | exact h58 | omega | (simpa using h58) | (simp at h58 ⊢; omega) | simp_all
                  rw [if_pos q59] at hF
                  simp -dsimp [h2, q3, h6, q7, h10, q11, h14, q15, h40, q41, h46, q47, h52, q53, h58, q59]
                  repeat (refine chk.go (by first | omega | assumption | (simp_all; done) | (simp_all; omega)) ?_; try simp -dsimp [h2, q3, h6, q7, h10, q11, h14, q15, h40, q41, h46, q47, h52, q53, h58, q59])
                  refine ADraw.simple follows (by kernel_rfl) (by kernel_rfl) ?_
                  simp -dsimp [h2, q3, h6, q7, h10, q11, h14, q15, h40, q41, h46, q47, h52, q53, h58, q59]
                  repeat (refine chk.go (by first | omega | assumption | (simp_all; done) | (simp_all; omega)) ?_; try simp -dsimp [h2, q3, h6, q7, h10, q11, h14, q15, h40, q41, h46, q47, h52, q53, h58, q59])
                  have hF := ob hF; obtain ⟨v60, e61, hF⟩ := hF
                  refine ((C.laws_toExpr B hB1 hB2 aE v60 e61)).pgoW (by first | (simp; done) | (simp [h2, q3, h6, q7, h10, q11, h14, q15, h40, q41, h46, q47, h52, q53, h58, q59]; done) | simp_all) (by simp) ?_
                  simp -dsimp [h2, q3, h6, q7, h10, q11, h14, q15, h40, q41, h46, q47, h52, q53, h58, q59]
                  repeat (refine chk.go (by first | omega | assumption | (simp_all; done) | (simp_all; omega)) ?_; try simp -dsimp [h2, q3, h6, q7, h10, q11, h14, q15, h40, q41, h46, q47, h52, q53, h58, q59])
                  have hF := ob hF; obtain ⟨v62, e63, hF⟩ := hF
                  refine ((C.laws_eqExpr B hB1 hB2 v34 v60 v62 e63)).pgoW (by first | (simp; done) | (simp [h2, q3, h6, q7, h10, q11, h14, q15, h40, q41, h46, q47, h52, q53, h58, q59]; done) | simp_all) (by simp) ?_
                  simp -dsimp [h2, q3, h6, q7, h10, q11, h14, q15, h40, q41, h46, q47, h52, q53, h58, q59]
                  repeat (refine chk.go (by first | omega | assumption | (simp_all; done) | (simp_all; omega)) ?_; try simp -dsimp [h2, q3, h6, q7, h10, q11, h14, q15, h40, q41, h46, q47, h52, q53, h58, q59])
                  refine abr.split (fun h64 => ?_) (fun h64 => ?_)
                  · have q65 : ¬ (v62 = true) := by first | exact h64 | omega | (simpa using h64) | (simp at h64 ⊢; omega) | simp_all
                    rw [if_neg q65] at hF
                    cases hF
                    simp -dsimp [h2, q3, h6, q7, h10, q11, h14, q15, h40, q41, h46, q47, h52, q53, h58, q59, h64, q65]
                    repeat (refine chk.go (by first | omega | assumption | (simp_all; done) | (simp_all; omega)) ?_; try simp -dsimp [h2, q3, h6, q7, h10, q11, h14, q15, h40, q41, h46, q47, h52, q53, h58, q59, h64, q65])
                    all_goals (try omega)
                  · have q65 : (v62 = true) := by first | exact h64 | omega | (simpa using h64) | (simp at h64 ⊢; omega) | simp_all
                    rw [if_pos q65] at hF
                    cases hF
                    simp -dsimp [h2, q3, h6, q7, h10, q11, h14, q15, h40, q41, h46, q47, h52, q53, h58, q59, h64, q65]
                    repeat (refine chk.go (by first | omega | assumption | (simp_all; done) | (simp_all; omega)) ?_; try simp -dsimp [h2, q3, h6, q7, h10, q11, h14, q15, h40, q41, h46, q47, h52, q53, h58, q59, h64, q65])
                    all_goals (try omega)

end Go.Proofs.Ytelglbenbnkjmaa
