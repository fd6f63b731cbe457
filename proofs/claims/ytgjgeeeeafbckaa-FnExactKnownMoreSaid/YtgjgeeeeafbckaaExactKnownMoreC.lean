/- The contracts: the code computes the functions (printed by gen.py). -/
import Derived.Test.YtgjgeeeeafbckaaProg
import Derived.Test.YtgjgeeeeafbckaaExactKnownMoreF
import Derived.Test.YtgjgeeeeafbckaaExactKnownMoreC1
namespace Go.Proofs.Ytgjgeeeeafbckaa
open Go Go.Proofs Go.Vl
set_option linter.unusedSimpArgs false
set_option linter.unusedVariables false

attribute [local irreducible] ECallA aL AMake MLoop AgainM LeaveM awpM aopsM MutCall chk abr ACall ALoop ALoopU ADraw Again Leave PCallA PCall Post awp aops PureCall hold

set_option maxRecDepth 100000 in
set_option maxHeartbeats 400000 in
theorem C.spec_PartialValid (B : Nat) (hB1 : 67108864 ≤ B) (hB2 : B ≤ 9223372036854775807) (w : List Vl.Data) (t : Vl.Ty) (v : Vl.Value) (r : Bool) (hF : F.spec_PartialValid w t v = some r) : PureCall Try.prog B 9 [.arr (List.map Vl.Data.c w), .agg [.lit (.int .i64 t.data), .lit (.int .i64 t.index)], .agg [.lit (.int .i64 v.ctor), .lit (.int .i64 v.n), .arr (List.map Vl.Value.c v.kids)]] (.lit (.bool r)) := by
  unfold F.spec_PartialValid at hF
  refine PureCall.enterLe Try.func9 (by kernel_rfl) rfl Try.ntmps9 (by simp) (by simp) ?_
  simp -dsimp
  repeat (refine chk.go (by first | omega | assumption | (simp_all; done) | (simp_all; omega)) ?_; simp -dsimp)
  have hF := ob hF; obtain ⟨v1, e2, hF⟩ := hF
  refine ((C.spec_TypeValid B hB1 hB2 w t v1 e2)).goW (by simp) (by simp) ?_
  simp -dsimp
  repeat (refine chk.go (by first | omega | assumption | (simp_all; done) | (simp_all; omega)) ?_; simp -dsimp)
  refine abr.split (fun h3 => ?_) (fun h3 => ?_)
  · have q4 : (v1 = true) := by first | exact h3 | omega | (simpa using h3) | (simp at h3 ⊢; omega) | simp_all
    rw [if_pos q4] at hF
    simp -dsimp [h3]
    repeat (refine chk.go (by first | omega | assumption | (simp_all; done) | (simp_all; omega)) ?_; simp -dsimp [h3])
    have hF := ob hF; obtain ⟨v5, e6, hF⟩ := hF
    refine ((C.spec_l10Is B hB1 hB2 w t v v5 e6)).goW (by first | (simp; done) | (simp [h3]; done) | simp_all) (by simp) ?_
    cases hF
    simp -dsimp [h3]
    repeat (refine chk.go (by first | omega | assumption | (simp_all; done) | (simp_all; omega)) ?_; simp -dsimp [h3])
  · have q4 : ¬ (v1 = true) := by first | exact h3 | omega | (simpa using h3) | (simp at h3 ⊢; omega) | simp_all
    rw [if_neg q4] at hF
    cases hF
    simp -dsimp [h3, q4]
    repeat (refine chk.go (by first | omega | assumption | (simp_all; done) | (simp_all; omega)) ?_; simp -dsimp [h3, q4])

set_option maxRecDepth 100000 in
set_option maxHeartbeats 400000 in
theorem CC.spec_l10More (B : Nat) (hB1 : 67108864 ≤ B) (hB2 : B ≤ 9223372036854775807)  : (∀ (a : Vl.Value) (b : Vl.Value) (r : Bool), F.spec_l10More a b = some r → PureCall Try.prog B 33 [.agg [.lit (.int .i64 a.ctor), .lit (.int .i64 a.n), .arr (List.map Vl.Value.c a.kids)], .agg [.lit (.int .i64 b.ctor), .lit (.int .i64 b.n), .arr (List.map Vl.Value.c b.kids)]] (.lit (.bool r))) ∧
    (∀ (a : Vl.Value) (b : Vl.Value) (i : Nat) (o : Lo Bool Unit), F.spec_l10More_l1 a b i = some o → ∀ (c : Code), navO [1, 1, 1, 0, 1, 0, 0] (bodyOf Try.f33) = some c → ∀ (Q : Exit → ASt → Prop), o.post (fun r => ∀ st, Post Try.prog Try.f33 (fun r' _ => r'.le (.lit (.bool r))) .ret st → Q .ret st) (fun s => Q (.exit 0) ⟨[], []⟩) → ALoopU Try.prog B 0 40 (hold c .mk) ⟨[(2, .ptr 0 0), (3, .ptr 1 0), (5, .lit (.int .i64 (i : Int)))], [.cells [.lit (.int .i64 a.ctor), .lit (.int .i64 a.n), .arr (List.map Vl.Value.c a.kids)], .cells [.lit (.int .i64 b.ctor), .lit (.int .i64 b.n), .arr (List.map Vl.Value.c b.kids)]]⟩ (hold Q .mk)) := by
  refine F.spec_l10More.mutual_partial_correctness 
    (fun a b r => PureCall Try.prog B 33 [.agg [.lit (.int .i64 a.ctor), .lit (.int .i64 a.n), .arr (List.map Vl.Value.c a.kids)], .agg [.lit (.int .i64 b.ctor), .lit (.int .i64 b.n), .arr (List.map Vl.Value.c b.kids)]] (.lit (.bool r)))
    (fun a b i o => ∀ (c : Code), navO [1, 1, 1, 0, 1, 0, 0] (bodyOf Try.f33) = some c → ∀ (Q : Exit → ASt → Prop), o.post (fun r => ∀ st, Post Try.prog Try.f33 (fun r' _ => r'.le (.lit (.bool r))) .ret st → Q .ret st) (fun s => Q (.exit 0) ⟨[], []⟩) → ALoopU Try.prog B 0 40 (hold c .mk) ⟨[(2, .ptr 0 0), (3, .ptr 1 0), (5, .lit (.int .i64 (i : Int)))], [.cells [.lit (.int .i64 a.ctor), .lit (.int .i64 a.n), .arr (List.map Vl.Value.c a.kids)], .cells [.lit (.int .i64 b.ctor), .lit (.int .i64 b.n), .arr (List.map Vl.Value.c b.kids)]]⟩ (hold Q .mk))
    ?_ ?_
  · intro _f_spec_l10More_l1 ih_spec_l10More_l1 a b r hF
    refine PureCall.enterLe Try.func33 (by kernel_rfl) rfl Try.ntmps33 (by simp) (by simp) ?_
    simp -dsimp
    repeat (refine chk.go (by first | omega | assumption | (simp_all; done) | (simp_all; omega)) ?_; simp -dsimp)
    refine abr.split (fun h1 => ?_) (fun h1 => ?_)
    · have q2 : (b.ctor = (-2)) := by first | exact h1 | omega | (simpa using h1) | (simp at h1 ⊢; omega) | simp_all
      rw [if_pos q2] at hF
      cases hF
      simp -dsimp [h1]
      repeat (refine chk.go (by first | omega | assumption | (simp_all; done) | (simp_all; omega)) ?_; simp -dsimp [h1])
    · have q2 : ¬ (b.ctor = (-2)) := by first | exact h1 | omega | (simpa using h1) | (simp at h1 ⊢; omega) | simp_all
      rw [if_neg q2] at hF
      simp -dsimp [h1, q2]
      repeat (refine chk.go (by first | omega | assumption | (simp_all; done) | (simp_all; omega)) ?_; simp -dsimp [h1, q2])
      refine abr.split (fun h3 => ?_) (fun h3 => ?_)
      · have q4 : (a.ctor = b.ctor) := by first | exact h3 | omega | (simpa using h3) | (simp at h3 ⊢; omega) | simp_all
        rw [if_pos q4] at hF
        simp -dsimp [h1, q2, h3]
        repeat (refine chk.go (by first | omega | assumption | (simp_all; done) | (simp_all; omega)) ?_; simp -dsimp [h1, q2, h3])
        refine abr.split (fun h5 => ?_) (fun h5 => ?_)
        · have q6 : ¬ (a.n = b.n) := by first | exact h5 | omega | (simpa using h5) | (simp at h5 ⊢; omega) | simp_all
          rw [if_neg q6] at hF
          cases hF
          simp -dsimp [h1, q2, h3, h5, q6]
          repeat (refine chk.go (by first | omega | assumption | (simp_all; done) | (simp_all; omega)) ?_; simp -dsimp [h1, q2, h3, h5, q6])
        · have q6 : (a.n = b.n) := by first | exact h5 | omega | (simpa using h5) | (simp at h5 ⊢; omega) | simp_all
          rw [if_pos q6] at hF
          simp -dsimp [h1, q2, h3, h5, q6]
          repeat (refine chk.go (by first | omega | assumption | (simp_all; done) | (simp_all; omega)) ?_; simp -dsimp [h1, q2, h3, h5, q6])
          have hF := ob hF; obtain ⟨o, ho17, hF⟩ := hF
          refine ALoop.goU ⟨[(2, .ptr 0 0), (3, .ptr 1 0), (5, .lit (.int .i64 (0 : Int)))], [.cells [.lit (.int .i64 a.ctor), .lit (.int .i64 a.n), .arr (List.map Vl.Value.c a.kids)], .cells [.lit (.int .i64 b.ctor), .lit (.int .i64 b.n), .arr (List.map Vl.Value.c b.kids)]]⟩ (Gh.to (by simp) (by first | (simp -dsimp; done) | (simp -dsimp [h1, q2, h3, h5, q6]; done) | simp_all) (by first | (simp -dsimp; done) | (simp -dsimp [h1, q2, h3, h5, q6]; done) | simp_all) (by first | (simp -dsimp; done) | (simp -dsimp [h1, q2, h3, h5, q6]; done) | simp_all)) ?_
          refine (ih_spec_l10More_l1 a b 0 o ho17) _ rfl _ ?_
          rcases o with r0 | s
          · dsimp only at hF
            cases hF
            intro st h
            simpa using h
          · dsimp only at hF
            cases hF
            simp -dsimp
            repeat (refine chk.go (by first | omega | assumption | (simp_all; done) | (simp_all; omega)) ?_; simp -dsimp)
      · have q4 : ¬ (a.ctor = b.ctor) := by first | exact h3 | omega | (simpa using h3) | (simp at h3 ⊢; omega) | simp_all
        rw [if_neg q4] at hF
        cases hF
        simp -dsimp [h1, q2, h3, q4]
        repeat (refine chk.go (by first | omega | assumption | (simp_all; done) | (simp_all; omega)) ?_; simp -dsimp [h1, q2, h3, q4])
  · intro _f_spec_l10More _f_spec_l10More_l1 ih_spec_l10More ih_spec_l10More_l1 a b i o hF
    intro c hc Q hq
    obtain rfl : c = _ := navEq hc rfl
    refine ALoopU.know fun hk hs => ?_
    have d0 := hs 0 _ rfl
    simp -dsimp [Blk.bnd] at d0
    have d1 := hs 1 _ rfl
    simp -dsimp [Blk.bnd] at d1
    clear hk hs
    refine ALoopU.enter ?_
    simp -dsimp
    repeat (refine chk.go (by first | omega | assumption | (simp_all; done) | (simp_all; omega)) ?_; simp -dsimp)
    refine abr.split (fun h7 => ?_) (fun h7 => ?_)
    · have q8 : (i < b.kids.length) := by first | exact h7 | omega | (simpa using h7) | (simp at h7 ⊢; omega) | simp_all
      have z9 : ((i : Int) < (b.kids.length : Int)) := by first | omega | simp_all
      rw [if_pos q8] at hF
      simp -dsimp [h7, z9]
      repeat (refine chk.go (by first | omega | assumption | (simp_all; done) | (simp_all; omega)) ?_; simp -dsimp [h7, z9])
      refine ADraw.simple follows (by kernel_rfl) (by kernel_rfl) ?_
      have hF := ob hF; obtain ⟨x, e10, hF⟩ := hF
      have le10 := lt_of_get e10
      have hF := ob hF; obtain ⟨x11, e12, hF⟩ := hF
      have le12 := lt_of_get e12
      simp -dsimp [h7, z9, ↓e10, ↓e12]
      repeat (refine chk.go (by first | omega | assumption | (simp_all; done) | (simp_all; omega)) ?_; simp -dsimp [h7, z9, ↓e10, ↓e12])
      have hF := ob hF; obtain ⟨v, e13, hF⟩ := hF
      refine ((ih_spec_l10More x x11 v e13)).pgoW (by first | (simp; done) | (simp [h7, z9, ↓e10, ↓e12]; done) | simp_all) (by simp) ?_
      simp -dsimp [h7, z9, ↓e10, ↓e12]
      repeat (refine chk.go (by first | omega | assumption | (simp_all; done) | (simp_all; omega)) ?_; simp -dsimp [h7, z9, ↓e10, ↓e12])
      refine abr.split (fun h14 => ?_) (fun h14 => ?_)
      · have q15 : ¬ (v = true) := by first | exact h14 | omega | (simpa using h14) | (simp at h14 ⊢; omega) | simp_all
        rw [if_neg q15] at hF
        cases hF
        simp -dsimp [h7, z9, ↓e10, ↓e12, h14, q15]
        repeat (refine chk.go (by first | omega | assumption | (simp_all; done) | (simp_all; omega)) ?_; simp -dsimp [h7, z9, ↓e10, ↓e12, h14, q15])
        refine Leave.go _ (Gh.refl _) (hq _ ?_)
        simp -dsimp [h7, z9, ↓e10, ↓e12, h14, q15]
        repeat (refine chk.go (by first | omega | assumption | (simp_all; done) | (simp_all; omega)) ?_; simp -dsimp [h7, z9, ↓e10, ↓e12, h14, q15])
      · have q15 : (v = true) := by first | exact h14 | omega | (simpa using h14) | (simp at h14 ⊢; omega) | simp_all
        rw [if_pos q15] at hF
        have w16 : IntKind.i64.wrap ((i : Int) + 1) = (i : Int) + 1 := wrap_in (by omega) (by omega)
        simp -dsimp [h7, z9, ↓e10, ↓e12, h14, q15, w16]
        repeat (refine chk.go (by first | omega | assumption | (simp_all; done) | (simp_all; omega)) ?_; simp -dsimp [h7, z9, ↓e10, ↓e12, h14, q15, w16])
        refine Again.go ⟨[(2, .ptr 0 0), (3, .ptr 1 0), (5, .lit (.int .i64 ((i + 1) : Int)))], [.cells [.lit (.int .i64 a.ctor), .lit (.int .i64 a.n), .arr (List.map Vl.Value.c a.kids)], .cells [.lit (.int .i64 b.ctor), .lit (.int .i64 b.n), .arr (List.map Vl.Value.c b.kids)]]⟩ (Gh.to (by simp) (by first | (simp -dsimp; done) | (simp -dsimp [h7, z9, ↓e10, ↓e12, h14, q15, w16]; done) | simp_all) (by first | (simp -dsimp; done) | (simp -dsimp [h7, z9, ↓e10, ↓e12, h14, q15, w16]; done) | simp_all) (by first | (simp -dsimp; done) | (simp -dsimp [h7, z9, ↓e10, ↓e12, h14, q15, w16]; done) | simp_all)) ?_
        exact (ih_spec_l10More_l1 a b (i + 1) o hF) _ rfl _ hq
    · have q8 : ¬ (i < b.kids.length) := by first | exact h7 | omega | (simpa using h7) | (simp at h7 ⊢; omega) | simp_all
      have z9 : ¬ ((i : Int) < (b.kids.length : Int)) := by first | omega | simp_all
      rw [if_neg q8] at hF
      cases hF
      simp -dsimp [h7, q8, z9]
      repeat (refine chk.go (by first | omega | assumption | (simp_all; done) | (simp_all; omega)) ?_; simp -dsimp [h7, q8, z9])
      refine Leave.go ⟨[], []⟩ (Gh.to (by simp) (by first | (simp -dsimp; done) | (simp -dsimp [h7, q8, z9]; done) | simp_all) (by first | (simp -dsimp; done) | (simp -dsimp [h7, q8, z9]; done) | simp_all) (by first | (simp -dsimp; done) | (simp -dsimp [h7, q8, z9]; done) | simp_all)) ?_
      exact hq

theorem C.spec_l10More (B : Nat) (hB1 : 67108864 ≤ B) (hB2 : B ≤ 9223372036854775807) (a : Vl.Value) (b : Vl.Value) (r : Bool) (hF : F.spec_l10More a b = some r) : PureCall Try.prog B 33 [.agg [.lit (.int .i64 a.ctor), .lit (.int .i64 a.n), .arr (List.map Vl.Value.c a.kids)], .agg [.lit (.int .i64 b.ctor), .lit (.int .i64 b.n), .arr (List.map Vl.Value.c b.kids)]] (.lit (.bool r)) :=
  (CC.spec_l10More B hB1 hB2 ).1 a b r hF

theorem C.spec_l10More_l1 (B : Nat) (hB1 : 67108864 ≤ B) (hB2 : B ≤ 9223372036854775807) (a : Vl.Value) (b : Vl.Value) (i : Nat) (o : Lo Bool Unit) (hF : F.spec_l10More_l1 a b i = some o) : ∀ (c : Code), navO [1, 1, 1, 0, 1, 0, 0] (bodyOf Try.f33) = some c → ∀ (Q : Exit → ASt → Prop), o.post (fun r => ∀ st, Post Try.prog Try.f33 (fun r' _ => r'.le (.lit (.bool r))) .ret st → Q .ret st) (fun s => Q (.exit 0) ⟨[], []⟩) → ALoopU Try.prog B 0 40 (hold c .mk) ⟨[(2, .ptr 0 0), (3, .ptr 1 0), (5, .lit (.int .i64 (i : Int)))], [.cells [.lit (.int .i64 a.ctor), .lit (.int .i64 a.n), .arr (List.map Vl.Value.c a.kids)], .cells [.lit (.int .i64 b.ctor), .lit (.int .i64 b.n), .arr (List.map Vl.Value.c b.kids)]]⟩ (hold Q .mk) :=
  (CC.spec_l10More B hB1 hB2 ).2 a b i o hF

set_option maxRecDepth 100000 in
set_option maxHeartbeats 400000 in
theorem C.spec_KnownMore (B : Nat) (hB1 : 67108864 ≤ B) (hB2 : B ≤ 9223372036854775807) (w : List Vl.Data) (t : Vl.Ty) (a : Vl.Value) (b : Vl.Value) (r : Bool) (hF : F.spec_KnownMore w t a b = some r) : PureCall Try.prog B 16 [.arr (List.map Vl.Data.c w), .agg [.lit (.int .i64 t.data), .lit (.int .i64 t.index)], .agg [.lit (.int .i64 a.ctor), .lit (.int .i64 a.n), .arr (List.map Vl.Value.c a.kids)], .agg [.lit (.int .i64 b.ctor), .lit (.int .i64 b.n), .arr (List.map Vl.Value.c b.kids)]] (.lit (.bool r)) := by
  unfold F.spec_KnownMore at hF
  refine PureCall.enterLe Try.func16 (by kernel_rfl) rfl Try.ntmps16 (by simp) (by simp) ?_
  simp -dsimp
  repeat (refine chk.go (by first | omega | assumption | (simp_all; done) | (simp_all; omega)) ?_; simp -dsimp)
  have hF := ob hF; obtain ⟨v, e1, hF⟩ := hF
  refine ((C.spec_PartialValid B hB1 hB2 w t a v e1)).goW (by simp) (by simp) ?_
  simp -dsimp
  repeat (refine chk.go (by first | omega | assumption | (simp_all; done) | (simp_all; omega)) ?_; simp -dsimp)
  refine abr.split (fun h2 => ?_) (fun h2 => ?_)
  · have q3 : (v = true) := by first | exact h2 | omega | (simpa using h2) | (simp at h2 ⊢; omega) | simp_all
    rw [if_pos q3] at hF
    simp -dsimp [h2]
    repeat (refine chk.go (by first | omega | assumption | (simp_all; done) | (simp_all; omega)) ?_; simp -dsimp [h2])
    have hF := ob hF; obtain ⟨v4, e5, hF⟩ := hF
    refine ((C.spec_PartialValid B hB1 hB2 w t b v4 e5)).goW (by first | (simp; done) | (simp [h2]; done) | simp_all) (by simp) ?_
    simp -dsimp [h2]
    repeat (refine chk.go (by first | omega | assumption | (simp_all; done) | (simp_all; omega)) ?_; simp -dsimp [h2])
    refine abr.split (fun h6 => ?_) (fun h6 => ?_)
    · have q7 : (v4 = true) := by first | exact h6 | omega | (simpa using h6) | (simp at h6 ⊢; omega) | simp_all
      rw [if_pos q7] at hF
      simp -dsimp [h2, h6]
      repeat (refine chk.go (by first | omega | assumption | (simp_all; done) | (simp_all; omega)) ?_; simp -dsimp [h2, h6])
      have hF := ob hF; obtain ⟨v8, e9, hF⟩ := hF
      refine ((C.spec_l10More B hB1 hB2 a b v8 e9)).goW (by first | (simp; done) | (simp [h2, h6]; done) | simp_all) (by simp) ?_
      cases hF
      simp -dsimp [h2, h6]
      repeat (refine chk.go (by first | omega | assumption | (simp_all; done) | (simp_all; omega)) ?_; simp -dsimp [h2, h6])
    · have q7 : ¬ (v4 = true) := by first | exact h6 | omega | (simpa using h6) | (simp at h6 ⊢; omega) | simp_all
      rw [if_neg q7] at hF
      cases hF
      simp -dsimp [h2, h6, q7]
      repeat (refine chk.go (by first | omega | assumption | (simp_all; done) | (simp_all; omega)) ?_; simp -dsimp [h2, h6, q7])
  · have q3 : ¬ (v = true) := by first | exact h2 | omega | (simpa using h2) | (simp at h2 ⊢; omega) | simp_all
    rw [if_neg q3] at hF
    cases hF
    simp -dsimp [h2, q3]
    repeat (refine chk.go (by first | omega | assumption | (simp_all; done) | (simp_all; omega)) ?_; simp -dsimp [h2, q3])

set_option maxRecDepth 100000 in
set_option maxHeartbeats 400000 in
theorem C.impl_within (B : Nat) (hB1 : 67108864 ≤ B) (hB2 : B ≤ 9223372036854775807) (n : Int) (low : Int) (high : Int) (r : Bool) (hF : F.impl_within n low high = some r) : PureCall Try.prog B 51 [.lit (.int .i64 n), .lit (.int .i64 low), .lit (.int .i64 high)] (.lit (.bool r)) := by
  unfold F.impl_within at hF
  refine PureCall.enterLe Try.func51 (by kernel_rfl) rfl Try.ntmps51 (by simp) (by simp) ?_
  simp -dsimp
  repeat (refine chk.go (by first | omega | assumption | (simp_all; done) | (simp_all; omega)) ?_; simp -dsimp)
  refine abr.split (fun h1 => ?_) (fun h1 => ?_)
  · have q2 : (low ≤ n) := by first | exact h1 | omega | (simpa using h1) | (simp at h1 ⊢; omega) | simp_all
    rw [if_pos q2] at hF
    cases hF
    simp -dsimp [h1]
    repeat (refine chk.go (by first | omega | assumption | (simp_all; done) | (simp_all; omega)) ?_; simp -dsimp [h1])
  · have q2 : ¬ (low ≤ n) := by first | exact h1 | omega | (simpa using h1) | (simp at h1 ⊢; omega) | simp_all
    rw [if_neg q2] at hF
    cases hF
    simp -dsimp [h1, q2]
    repeat (refine chk.go (by first | omega | assumption | (simp_all; done) | (simp_all; omega)) ?_; simp -dsimp [h1, q2])

set_option maxRecDepth 100000 in
set_option maxHeartbeats 400000 in
theorem CC.impl_NameValid_l1 (B : Nat) (hB1 : 67108864 ≤ B) (hB2 : B ≤ 9223372036854775807) (s : ByteArray) : (∀ (i : Nat) (o : Lo Bool Unit), F.impl_NameValid_l1 s i = some o → ∀ (c : Code), navO [1, 1, 0, 1, 0, 0] (bodyOf Try.f87) = some c → ∀ (Q : Exit → ASt → Prop), o.post (fun r => ∀ st, Post Try.prog Try.f87 (fun r' _ => r'.le (.lit (.bool r))) .ret st → Q .ret st) (fun s => Q (.exit 0) ⟨[], []⟩) → ALoopU Try.prog B 0 34 (hold c .mk) ⟨[(0, .lit (.string s)), (3, .lit (.int .i64 (i : Int)))], []⟩ (hold Q .mk)) := by
  refine F.impl_NameValid_l1.partial_correctness s
    (fun i o => ∀ (c : Code), navO [1, 1, 0, 1, 0, 0] (bodyOf Try.f87) = some c → ∀ (Q : Exit → ASt → Prop), o.post (fun r => ∀ st, Post Try.prog Try.f87 (fun r' _ => r'.le (.lit (.bool r))) .ret st → Q .ret st) (fun s => Q (.exit 0) ⟨[], []⟩) → ALoopU Try.prog B 0 34 (hold c .mk) ⟨[(0, .lit (.string s)), (3, .lit (.int .i64 (i : Int)))], []⟩ (hold Q .mk))
    ?_
  · intro _f_impl_NameValid_l1 ih_impl_NameValid_l1 i o hF
    intro c hc Q hq
    obtain rfl : c = _ := navEq hc rfl
    refine ALoopU.know fun hk hs => ?_
    clear hk hs
    refine ALoopU.enter ?_
    simp -dsimp
    repeat (refine chk.go (by first | omega | assumption | (simp_all; done) | (simp_all; omega)) ?_; simp -dsimp)
    refine abr.split (fun h11 => ?_) (fun h11 => ?_)
    · have q12 : (i < s.size) := by first | exact h11 | omega | (simpa using h11) | (simp at h11 ⊢; omega) | simp_all
      have z13 : ((i : Int) < (s.size : Int)) := by first | omega | simp_all
      rw [if_pos q12] at hF
      simp -dsimp [h11, z13]
      repeat (refine chk.go (by first | omega | assumption | (simp_all; done) | (simp_all; omega)) ?_; simp -dsimp [h11, z13])
      refine abr.split (fun h14 => ?_) (fun h14 => ?_)
      · have q15 : ¬ (byteAt s i < 97) := by first | exact h14 | omega | (simpa using h14) | (simp at h14 ⊢; omega) | simp_all
        have z16 : ¬ (((byteAt s i : Nat) : Int) < (97 : Int)) := by first | omega | simp_all
        rw [if_neg q15] at hF
        simp -dsimp [h11, z13, h14, q15, z16]
        repeat (refine chk.go (by first | omega | assumption | (simp_all; done) | (simp_all; omega)) ?_; simp -dsimp [h11, z13, h14, q15, z16])
        refine abr.split (fun h17 => ?_) (fun h17 => ?_)
        · have q18 : (122 < byteAt s i) := by first | exact h17 | omega | (simpa using h17) | (simp at h17 ⊢; omega) | simp_all
          have z19 : ((122 : Int) < ((byteAt s i : Nat) : Int)) := by first | omega | simp_all
          rw [if_pos q18] at hF
          cases hF
          simp -dsimp [h11, z13, h14, q15, z16, h17, z19]
          repeat (refine chk.go (by first | omega | assumption | (simp_all; done) | (simp_all; omega)) ?_; simp -dsimp [h11, z13, h14, q15, z16, h17, z19])
          refine Leave.go _ (Gh.refl _) (hq _ ?_)
          simp -dsimp [h11, z13, h14, q15, z16, h17, z19]
          repeat (refine chk.go (by first | omega | assumption | (simp_all; done) | (simp_all; omega)) ?_; simp -dsimp [h11, z13, h14, q15, z16, h17, z19])
        · have q18 : ¬ (122 < byteAt s i) := by first | exact h17 | omega | (simpa using h17) | (simp at h17 ⊢; omega) | simp_all
          have z19 : ¬ ((122 : Int) < ((byteAt s i : Nat) : Int)) := by first | omega | simp_all
          rw [if_neg q18] at hF
          have hF := oc hF; obtain ⟨c20, hF⟩ := hF
          have w21 : IntKind.i64.wrap ((i : Int) + 1) = (i : Int) + 1 := wrap_in (by omega) (by omega)
          simp -dsimp [h11, z13, h14, q15, z16, h17, q18, z19, w21]
          repeat (refine chk.go (by first | omega | assumption | (simp_all; done) | (simp_all; omega)) ?_; simp -dsimp [h11, z13, h14, q15, z16, h17, q18, z19, w21])
          refine Again.go ⟨[(0, .lit (.string s)), (3, .lit (.int .i64 ((i + 1) : Int)))], []⟩ (Gh.to (by simp) (by first | (simp -dsimp; done) | (simp -dsimp [h11, z13, h14, q15, z16, h17, q18, z19, w21]; done) | simp_all) (by first | (simp -dsimp; done) | (simp -dsimp [h11, z13, h14, q15, z16, h17, q18, z19, w21]; done) | simp_all) (by first | (simp -dsimp; done) | (simp -dsimp [h11, z13, h14, q15, z16, h17, q18, z19, w21]; done) | simp_all)) ?_
          exact (ih_impl_NameValid_l1 (i + 1) o hF) _ rfl _ hq
      · have q15 : (byteAt s i < 97) := by first | exact h14 | omega | (simpa using h14) | (simp at h14 ⊢; omega) | simp_all
        have z16 : (((byteAt s i : Nat) : Int) < (97 : Int)) := by first | omega | simp_all
        rw [if_pos q15] at hF
        cases hF
        simp -dsimp [h11, z13, h14, q15, z16]
        repeat (refine chk.go (by first | omega | assumption | (simp_all; done) | (simp_all; omega)) ?_; simp -dsimp [h11, z13, h14, q15, z16])
        refine Leave.go _ (Gh.refl _) (hq _ ?_)
        simp -dsimp [h11, z13, h14, q15, z16]
        repeat (refine chk.go (by first | omega | assumption | (simp_all; done) | (simp_all; omega)) ?_; simp -dsimp [h11, z13, h14, q15, z16])
    · have q12 : ¬ (i < s.size) := by first | exact h11 | omega | (simpa using h11) | (simp at h11 ⊢; omega) | simp_all
      have z13 : ¬ ((i : Int) < (s.size : Int)) := by first | omega | simp_all
      rw [if_neg q12] at hF
      cases hF
      simp -dsimp [h11, q12, z13]
      repeat (refine chk.go (by first | omega | assumption | (simp_all; done) | (simp_all; omega)) ?_; simp -dsimp [h11, q12, z13])
      refine Leave.go ⟨[], []⟩ (Gh.to (by simp) (by first | (simp -dsimp; done) | (simp -dsimp [h11, q12, z13]; done) | simp_all) (by first | (simp -dsimp; done) | (simp -dsimp [h11, q12, z13]; done) | simp_all) (by first | (simp -dsimp; done) | (simp -dsimp [h11, q12, z13]; done) | simp_all)) ?_
      exact hq

theorem C.impl_NameValid_l1 (B : Nat) (hB1 : 67108864 ≤ B) (hB2 : B ≤ 9223372036854775807) (s : ByteArray) (i : Nat) (o : Lo Bool Unit) (hF : F.impl_NameValid_l1 s i = some o) : ∀ (c : Code), navO [1, 1, 0, 1, 0, 0] (bodyOf Try.f87) = some c → ∀ (Q : Exit → ASt → Prop), o.post (fun r => ∀ st, Post Try.prog Try.f87 (fun r' _ => r'.le (.lit (.bool r))) .ret st → Q .ret st) (fun s => Q (.exit 0) ⟨[], []⟩) → ALoopU Try.prog B 0 34 (hold c .mk) ⟨[(0, .lit (.string s)), (3, .lit (.int .i64 (i : Int)))], []⟩ (hold Q .mk) :=
  (CC.impl_NameValid_l1 B hB1 hB2 s) i o hF

set_option maxRecDepth 100000 in
set_option maxHeartbeats 400000 in
theorem C.impl_NameValid (B : Nat) (hB1 : 67108864 ≤ B) (hB2 : B ≤ 9223372036854775807) (s : ByteArray) (r : Bool) (hF : F.impl_NameValid s = some r) : PureCall Try.prog B 87 [.lit (.string s)] (.lit (.bool r)) := by
  unfold F.impl_NameValid at hF
  refine PureCall.enterLe Try.func87 (by kernel_rfl) rfl Try.ntmps87 (by simp) (by simp) ?_
  simp -dsimp
  repeat (refine chk.go (by first | omega | assumption | (simp_all; done) | (simp_all; omega)) ?_; simp -dsimp)
  have hF := ob hF; obtain ⟨v, e1, hF⟩ := hF
  refine ((C.impl_within B hB1 hB2 (s.size : Int) (1 : Int) (5 : Int) v e1)).goW (by simp) (by simp) ?_
  simp -dsimp
  repeat (refine chk.go (by first | omega | assumption | (simp_all; done) | (simp_all; omega)) ?_; simp -dsimp)
  refine abr.split (fun h2 => ?_) (fun h2 => ?_)
  · have q3 : (v = true) := by first | exact h2 | omega | (simpa using h2) | (simp at h2 ⊢; omega) | simp_all
    rw [if_pos q3] at hF
    have hF := oc hF; obtain ⟨c4, hF⟩ := hF
    simp -dsimp [h2]
    repeat (refine chk.go (by first | omega | assumption | (simp_all; done) | (simp_all; omega)) ?_; simp -dsimp [h2])
    refine abr.split (fun h5 => ?_) (fun h5 => ?_)
    · have q6 : ¬ (byteAt s 0 < 65) := by first | exact h5 | omega | (simpa using h5) | (simp at h5 ⊢; omega) | simp_all
      have z7 : ¬ (((byteAt s 0 : Nat) : Int) < (65 : Int)) := by first | omega | simp_all
      rw [if_neg q6] at hF
      simp -dsimp [h2, h5, q6, z7]
      repeat (refine chk.go (by first | omega | assumption | (simp_all; done) | (simp_all; omega)) ?_; simp -dsimp [h2, h5, q6, z7])
      refine abr.split (fun h8 => ?_) (fun h8 => ?_)
      · have q9 : (90 < byteAt s 0) := by first | exact h8 | omega | (simpa using h8) | (simp at h8 ⊢; omega) | simp_all
        have z10 : ((90 : Int) < ((byteAt s 0 : Nat) : Int)) := by first | omega | simp_all
        rw [if_pos q9] at hF
        cases hF
        simp -dsimp [h2, h5, q6, z7, h8, z10]
        repeat (refine chk.go (by first | omega | assumption | (simp_all; done) | (simp_all; omega)) ?_; simp -dsimp [h2, h5, q6, z7, h8, z10])
      · have q9 : ¬ (90 < byteAt s 0) := by first | exact h8 | omega | (simpa using h8) | (simp at h8 ⊢; omega) | simp_all
        have z10 : ¬ ((90 : Int) < ((byteAt s 0 : Nat) : Int)) := by first | omega | simp_all
        rw [if_neg q9] at hF
        simp -dsimp [h2, h5, q6, z7, h8, q9, z10]
        repeat (refine chk.go (by first | omega | assumption | (simp_all; done) | (simp_all; omega)) ?_; simp -dsimp [h2, h5, q6, z7, h8, q9, z10])
        have hF := ob hF; obtain ⟨o, ho22, hF⟩ := hF
        refine ALoop.goU ⟨[(0, .lit (.string s)), (3, .lit (.int .i64 (1 : Int)))], []⟩ (Gh.to (by simp) (by first | (simp -dsimp; done) | (simp -dsimp [h2, h5, q6, z7, h8, q9, z10]; done) | simp_all) (by first | (simp -dsimp; done) | (simp -dsimp [h2, h5, q6, z7, h8, q9, z10]; done) | simp_all) (by first | (simp -dsimp; done) | (simp -dsimp [h2, h5, q6, z7, h8, q9, z10]; done) | simp_all)) ?_
        refine (C.impl_NameValid_l1 B hB1 hB2 s 1 o ho22) _ rfl _ ?_
        rcases o with r0 | s23
        · dsimp only at hF
          cases hF
          intro st h
          simpa using h
        · dsimp only at hF
          cases hF
          simp -dsimp
          repeat (refine chk.go (by first | omega | assumption | (simp_all; done) | (simp_all; omega)) ?_; simp -dsimp)
    · have q6 : (byteAt s 0 < 65) := by first | exact h5 | omega | (simpa using h5) | (simp at h5 ⊢; omega) | simp_all
      have z7 : (((byteAt s 0 : Nat) : Int) < (65 : Int)) := by first | omega | simp_all
      rw [if_pos q6] at hF
      cases hF
      simp -dsimp [h2, h5, q6, z7]
      repeat (refine chk.go (by first | omega | assumption | (simp_all; done) | (simp_all; omega)) ?_; simp -dsimp [h2, h5, q6, z7])
  · have q3 : ¬ (v = true) := by first | exact h2 | omega | (simpa using h2) | (simp at h2 ⊢; omega) | simp_all
    rw [if_neg q3] at hF
    cases hF
    simp -dsimp [h2, q3]
    repeat (refine chk.go (by first | omega | assumption | (simp_all; done) | (simp_all; omega)) ?_; simp -dsimp [h2, q3])

set_option maxRecDepth 100000 in
set_option maxHeartbeats 400000 in
theorem C.impl_argOk (B : Nat) (hB1 : 67108864 ≤ B) (hB2 : B ≤ 9223372036854775807) (w : List Vl.Data) (t : Vl.Ty) (r : Bool) (hF : F.impl_argOk w t = some r) : PureCall Try.prog B 90 [.arr (List.map Vl.Data.c w), .agg [.lit (.int .i64 t.data), .lit (.int .i64 t.index)]] (.lit (.bool r)) := by
  unfold F.impl_argOk at hF
  refine PureCall.enterLe Try.func90 (by kernel_rfl) rfl Try.ntmps90 (by simp) (by simp) ?_
  simp -dsimp
  repeat (refine chk.go (by first | omega | assumption | (simp_all; done) | (simp_all; omega)) ?_; simp -dsimp)
  refine abr.split (fun h1 => ?_) (fun h1 => ?_)
  · have q2 : ¬ (dec (eq2 (t.data, t.index) ((-1), 0)) = true) := by first | exact h1 | omega | (simpa using h1) | (simp at h1 ⊢; omega) | simp_all
    rw [if_neg q2] at hF
    simp -dsimp [h1, q2]
    repeat (refine chk.go (by first | omega | assumption | (simp_all; done) | (simp_all; omega)) ?_; simp -dsimp [h1, q2])
    have hF := ob hF; obtain ⟨v, e3, hF⟩ := hF
    refine ((C.impl_within B hB1 hB2 t.data (0 : Int) (IntKind.i64.wrap ((w.length : Int) - 1)) v e3)).goW (by first | (simp; done) | (simp [h1, q2]; done) | simp_all) (by simp) ?_
    simp -dsimp [h1, q2]
    repeat (refine chk.go (by first | omega | assumption | (simp_all; done) | (simp_all; omega)) ?_; simp -dsimp [h1, q2])
    refine abr.split (fun h4 => ?_) (fun h4 => ?_)
    · have q5 : (v = true) := by first | exact h4 | omega | (simpa using h4) | (simp at h4 ⊢; omega) | simp_all
      rw [if_pos q5] at hF
      simp -dsimp [h1, q2, h4]
      repeat (refine chk.go (by first | omega | assumption | (simp_all; done) | (simp_all; omega)) ?_; simp -dsimp [h1, q2, h4])
      have hF := ob hF; obtain ⟨v6, e7, hF⟩ := hF
      refine ((C.impl_within B hB1 hB2 t.index (-1 : Int) (3 : Int) v6 e7)).goW (by first | (simp; done) | (simp [h1, q2, h4]; done) | simp_all) (by simp) ?_
      cases hF
      simp -dsimp [h1, q2, h4]
      repeat (refine chk.go (by first | omega | assumption | (simp_all; done) | (simp_all; omega)) ?_; simp -dsimp [h1, q2, h4])
    · have q5 : ¬ (v = true) := by first | exact h4 | omega | (simpa using h4) | (simp at h4 ⊢; omega) | simp_all
      rw [if_neg q5] at hF
      cases hF
      simp -dsimp [h1, q2, h4, q5]
      repeat (refine chk.go (by first | omega | assumption | (simp_all; done) | (simp_all; omega)) ?_; simp -dsimp [h1, q2, h4, q5])
  · have q2 : (dec (eq2 (t.data, t.index) ((-1), 0)) = true) := by first | exact h1 | omega | (simpa using h1) | (simp at h1 ⊢; omega) | simp_all
    rw [if_pos q2] at hF
    cases hF
    simp -dsimp [h1, q2]
    repeat (refine chk.go (by first | omega | assumption | (simp_all; done) | (simp_all; omega)) ?_; simp -dsimp [h1, q2])

set_option maxRecDepth 100000 in
set_option maxHeartbeats 400000 in
theorem C.impl_ctorOk_1 (B : Nat) (hB1 : 67108864 ≤ B) (hB2 : B ≤ 9223372036854775807) (t : Vl.Ty) (a1 : List Vl.Data) (r : Bool) (hF : F.impl_ctorOk_1 t a1 = some r) : PureCall Try.prog B 89 [.agg [.lit (.int .i64 t.data), .lit (.int .i64 t.index)], .rptr [.arr (List.map Vl.Data.c a1)] 0] (.lit (.bool r)) := by
  unfold F.impl_ctorOk_1 at hF
  refine PureCall.enterLe Try.func89 (by kernel_rfl) rfl Try.ntmps89 (by simp) (by simp) ?_
  simp -dsimp
  repeat (refine chk.go (by first | omega | assumption | (simp_all; done) | (simp_all; omega)) ?_; simp -dsimp)
  have hF := ob hF; obtain ⟨v, e1, hF⟩ := hF
  refine ((C.impl_argOk B hB1 hB2 a1 t v e1)).goW (by simp) (by simp) ?_
  cases hF
  simp -dsimp
  repeat (refine chk.go (by first | omega | assumption | (simp_all; done) | (simp_all; omega)) ?_; simp -dsimp)

set_option maxRecDepth 100000 in
set_option maxHeartbeats 400000 in
theorem CC.slices_IndexFunc_Type__impl_ctorOk_1_l1 (B : Nat) (hB1 : 67108864 ≤ B) (hB2 : B ≤ 9223372036854775807) (s : List Vl.Ty) (k0 : List Vl.Data) : (∀ (i : Nat) (o : Lo Int Unit), F.slices_IndexFunc_Type__impl_ctorOk_1_l1 s k0 i = some o → ∀ (c : Code), navO [1, 0, 1, 0, 0] (bodyOf Try.f95) = some c → ∀ (Q : Exit → ASt → Prop), o.post (fun r => ∀ st, Post Try.prog Try.f95 (fun r' _ => r'.le (.lit (.int .i64 r))) .ret st → Q .ret st) (fun s => Q (.exit 0) ⟨[], []⟩) → ALoopU Try.prog B 0 19 (hold c .mk) ⟨[(0, .arr (List.map Vl.Ty.c s)), (1, .fn (.func 89) [] [.rptr [.arr (List.map Vl.Data.c k0)] 0]), (7, .lit (.int .i64 (s.length : Int))), (8, .lit (.int .i64 (i : Int)))], []⟩ (hold Q .mk)) := by
  refine F.slices_IndexFunc_Type__impl_ctorOk_1_l1.partial_correctness s k0
    (fun i o => ∀ (c : Code), navO [1, 0, 1, 0, 0] (bodyOf Try.f95) = some c → ∀ (Q : Exit → ASt → Prop), o.post (fun r => ∀ st, Post Try.prog Try.f95 (fun r' _ => r'.le (.lit (.int .i64 r))) .ret st → Q .ret st) (fun s => Q (.exit 0) ⟨[], []⟩) → ALoopU Try.prog B 0 19 (hold c .mk) ⟨[(0, .arr (List.map Vl.Ty.c s)), (1, .fn (.func 89) [] [.rptr [.arr (List.map Vl.Data.c k0)] 0]), (7, .lit (.int .i64 (s.length : Int))), (8, .lit (.int .i64 (i : Int)))], []⟩ (hold Q .mk))
    ?_
  · intro _f_slices_IndexFunc_Type__impl_ctorOk_1_l1 ih_slices_IndexFunc_Type__impl_ctorOk_1_l1 i o hF
    intro c hc Q hq
    obtain rfl : c = _ := navEq hc rfl
    refine ALoopU.know fun hk hs => ?_
    have b0 := hk 0
    simp -dsimp at b0
    clear hk hs
    refine ALoopU.enter ?_
    simp -dsimp
    repeat (refine chk.go (by first | omega | assumption | (simp_all; done) | (simp_all; omega)) ?_; simp -dsimp)
    refine abr.split (fun h1 => ?_) (fun h1 => ?_)
    · have q2 : (i < s.length) := by first | exact h1 | omega | (simpa using h1) | (simp at h1 ⊢; omega) | simp_all
      have z3 : ((i : Int) < (s.length : Int)) := by first | omega | simp_all
      rw [if_pos q2] at hF
      have hF := ob hF; obtain ⟨x, e4, hF⟩ := hF
      have le4 := lt_of_get e4
      simp -dsimp [h1, z3, ↓e4]
      repeat (refine chk.go (by first | omega | assumption | (simp_all; done) | (simp_all; omega)) ?_; simp -dsimp [h1, z3, ↓e4])
      have hF := ob hF; obtain ⟨v, e5, hF⟩ := hF
      refine ((C.impl_ctorOk_1 B hB1 hB2 x k0 v e5)).goW (by first | (simp; done) | (simp [h1, z3, ↓e4]; done) | simp_all) (by simp) ?_
      simp -dsimp [h1, z3, ↓e4]
      repeat (refine chk.go (by first | omega | assumption | (simp_all; done) | (simp_all; omega)) ?_; simp -dsimp [h1, z3, ↓e4])
      refine abr.split (fun h6 => ?_) (fun h6 => ?_)
      · have q7 : (v = true) := by first | exact h6 | omega | (simpa using h6) | (simp at h6 ⊢; omega) | simp_all
        rw [if_pos q7] at hF
        cases hF
        simp -dsimp [h1, z3, ↓e4, h6]
        repeat (refine chk.go (by first | omega | assumption | (simp_all; done) | (simp_all; omega)) ?_; simp -dsimp [h1, z3, ↓e4, h6])
        refine Leave.go _ (Gh.refl _) (hq _ ?_)
        simp -dsimp [h1, z3, ↓e4, h6]
        repeat (refine chk.go (by first | omega | assumption | (simp_all; done) | (simp_all; omega)) ?_; simp -dsimp [h1, z3, ↓e4, h6])
      · have q7 : ¬ (v = true) := by first | exact h6 | omega | (simpa using h6) | (simp at h6 ⊢; omega) | simp_all
        rw [if_neg q7] at hF
        have w8 : IntKind.i64.wrap ((i : Int) + 1) = (i : Int) + 1 := wrap_in (by omega) (by omega)
        simp -dsimp [h1, z3, ↓e4, h6, q7, w8]
        repeat (refine chk.go (by first | omega | assumption | (simp_all; done) | (simp_all; omega)) ?_; simp -dsimp [h1, z3, ↓e4, h6, q7, w8])
        refine Again.go ⟨[(0, .arr (List.map Vl.Ty.c s)), (1, .fn (.func 89) [] [.rptr [.arr (List.map Vl.Data.c k0)] 0]), (7, .lit (.int .i64 (s.length : Int))), (8, .lit (.int .i64 ((i + 1) : Int)))], []⟩ (Gh.to (by simp) (by first | (simp -dsimp; done) | (simp -dsimp [h1, z3, ↓e4, h6, q7, w8]; done) | simp_all) (by first | (simp -dsimp; done) | (simp -dsimp [h1, z3, ↓e4, h6, q7, w8]; done) | simp_all) (by first | (simp -dsimp; done) | (simp -dsimp [h1, z3, ↓e4, h6, q7, w8]; done) | simp_all)) ?_
        exact (ih_slices_IndexFunc_Type__impl_ctorOk_1_l1 (i + 1) o hF) _ rfl _ hq
    · have q2 : ¬ (i < s.length) := by first | exact h1 | omega | (simpa using h1) | (simp at h1 ⊢; omega) | simp_all
      have z3 : ¬ ((i : Int) < (s.length : Int)) := by first | omega | simp_all
      rw [if_neg q2] at hF
      cases hF
      simp -dsimp [h1, q2, z3]
      repeat (refine chk.go (by first | omega | assumption | (simp_all; done) | (simp_all; omega)) ?_; simp -dsimp [h1, q2, z3])
      refine Leave.go ⟨[], []⟩ (Gh.to (by simp) (by first | (simp -dsimp; done) | (simp -dsimp [h1, q2, z3]; done) | simp_all) (by first | (simp -dsimp; done) | (simp -dsimp [h1, q2, z3]; done) | simp_all) (by first | (simp -dsimp; done) | (simp -dsimp [h1, q2, z3]; done) | simp_all)) ?_
      exact hq

theorem C.slices_IndexFunc_Type__impl_ctorOk_1_l1 (B : Nat) (hB1 : 67108864 ≤ B) (hB2 : B ≤ 9223372036854775807) (s : List Vl.Ty) (k0 : List Vl.Data) (i : Nat) (o : Lo Int Unit) (hF : F.slices_IndexFunc_Type__impl_ctorOk_1_l1 s k0 i = some o) : ∀ (c : Code), navO [1, 0, 1, 0, 0] (bodyOf Try.f95) = some c → ∀ (Q : Exit → ASt → Prop), o.post (fun r => ∀ st, Post Try.prog Try.f95 (fun r' _ => r'.le (.lit (.int .i64 r))) .ret st → Q .ret st) (fun s => Q (.exit 0) ⟨[], []⟩) → ALoopU Try.prog B 0 19 (hold c .mk) ⟨[(0, .arr (List.map Vl.Ty.c s)), (1, .fn (.func 89) [] [.rptr [.arr (List.map Vl.Data.c k0)] 0]), (7, .lit (.int .i64 (s.length : Int))), (8, .lit (.int .i64 (i : Int)))], []⟩ (hold Q .mk) :=
  (CC.slices_IndexFunc_Type__impl_ctorOk_1_l1 B hB1 hB2 s k0) i o hF

set_option maxRecDepth 100000 in
set_option maxHeartbeats 400000 in
theorem C.slices_IndexFunc_Type__impl_ctorOk_1 (B : Nat) (hB1 : 67108864 ≤ B) (hB2 : B ≤ 9223372036854775807) (s : List Vl.Ty) (k0 : List Vl.Data) (r : Int) (hF : F.slices_IndexFunc_Type__impl_ctorOk_1 s k0 = some r) : PureCall Try.prog B 95 [.arr (List.map Vl.Ty.c s), .fn (.func 89) [] [.rptr [.arr (List.map Vl.Data.c k0)] 0]] (.lit (.int .i64 r)) := by
  unfold F.slices_IndexFunc_Type__impl_ctorOk_1 at hF
  refine PureCall.enterLe Try.func95 (by kernel_rfl) rfl Try.ntmps95 (by simp) (by simp) ?_
  simp -dsimp
  repeat (refine chk.go (by first | omega | assumption | (simp_all; done) | (simp_all; omega)) ?_; simp -dsimp)
  have hF := ob hF; obtain ⟨o, ho9, hF⟩ := hF
  refine ALoop.goU ⟨[(0, .arr (List.map Vl.Ty.c s)), (1, .fn (.func 89) [] [.rptr [.arr (List.map Vl.Data.c k0)] 0]), (7, .lit (.int .i64 (s.length : Int))), (8, .lit (.int .i64 (0 : Int)))], []⟩ (Gh.to (by simp) (by simp -dsimp) (by simp -dsimp) (by simp -dsimp)) ?_
  refine (C.slices_IndexFunc_Type__impl_ctorOk_1_l1 B hB1 hB2 s k0 0 o ho9) _ rfl _ ?_
  rcases o with r0 | s10
  · dsimp only at hF
    cases hF
    intro st h
    simpa using h
  · dsimp only at hF
    cases hF
    simp -dsimp
    repeat (refine chk.go (by first | omega | assumption | (simp_all; done) | (simp_all; omega)) ?_; simp -dsimp)

set_option maxRecDepth 100000 in
set_option maxHeartbeats 400000 in
theorem C.slices_ContainsFunc_Type__impl_ctorOk_1 (B : Nat) (hB1 : 67108864 ≤ B) (hB2 : B ≤ 9223372036854775807) (s : List Vl.Ty) (k0 : List Vl.Data) (r : Bool) (hF : F.slices_ContainsFunc_Type__impl_ctorOk_1 s k0 = some r) : PureCall Try.prog B 88 [.arr (List.map Vl.Ty.c s), .fn (.func 89) [] [.rptr [.arr (List.map Vl.Data.c k0)] 0]] (.lit (.bool r)) := by
  unfold F.slices_ContainsFunc_Type__impl_ctorOk_1 at hF
  refine PureCall.enterLe Try.func88 (by kernel_rfl) rfl Try.ntmps88 (by simp) (by simp) ?_
  simp -dsimp
  repeat (refine chk.go (by first | omega | assumption | (simp_all; done) | (simp_all; omega)) ?_; simp -dsimp)
  have hF := ob hF; obtain ⟨v, e1, hF⟩ := hF
  refine ((C.slices_IndexFunc_Type__impl_ctorOk_1 B hB1 hB2 s k0 v e1)).goW (by simp) (by simp) ?_
  cases hF
  simp -dsimp
  repeat (refine chk.go (by first | omega | assumption | (simp_all; done) | (simp_all; omega)) ?_; simp -dsimp)

set_option maxRecDepth 100000 in
set_option maxHeartbeats 400000 in
theorem C.impl_ctorOk (B : Nat) (hB1 : 67108864 ≤ B) (hB2 : B ≤ 9223372036854775807) (w : List Vl.Data) (c' : Vl.Ctor) (r : Bool) (hF : F.impl_ctorOk w c' = some r) : PureCall Try.prog B 74 [.arr (List.map Vl.Data.c w), .agg [.lit (.string c'.name), .arr (List.map Vl.Ty.c c'.args), .lit (.int .i64 c'.index)]] (.lit (.bool r)) := by
  unfold F.impl_ctorOk at hF
  refine PureCall.enterLe Try.func74 (by kernel_rfl) rfl Try.ntmps74 (by simp) (by simp) ?_
  simp -dsimp
  repeat (refine chk.go (by first | omega | assumption | (simp_all; done) | (simp_all; omega)) ?_; simp -dsimp)
  have hF := ob hF; obtain ⟨v, e1, hF⟩ := hF
  refine ((C.impl_NameValid B hB1 hB2 c'.name v e1)).goW (by simp) (by simp) ?_
  simp -dsimp
  repeat (refine chk.go (by first | omega | assumption | (simp_all; done) | (simp_all; omega)) ?_; simp -dsimp)
  refine abr.split (fun h2 => ?_) (fun h2 => ?_)
  · have q3 : (v = true) := by first | exact h2 | omega | (simpa using h2) | (simp at h2 ⊢; omega) | simp_all
    rw [if_pos q3] at hF
    simp -dsimp [h2]
    repeat (refine chk.go (by first | omega | assumption | (simp_all; done) | (simp_all; omega)) ?_; simp -dsimp [h2])
    refine abr.split (fun h4 => ?_) (fun h4 => ?_)
    · have q5 : (c'.args.length ≤ 3) := by first | exact h4 | omega | (simpa using h4) | (simp at h4 ⊢; omega) | simp_all
      have z6 : ((c'.args.length : Int) ≤ (3 : Int)) := by first | omega | simp_all
      rw [if_pos q5] at hF
      simp -dsimp [h2, h4, z6]
      repeat (refine chk.go (by first | omega | assumption | (simp_all; done) | (simp_all; omega)) ?_; simp -dsimp [h2, h4, z6])
      have hF := ob hF; obtain ⟨v7, e8, hF⟩ := hF
      refine ((C.impl_within B hB1 hB2 c'.index (0 : Int) (3 : Int) v7 e8)).goW (by first | (simp; done) | (simp [h2, h4, z6]; done) | simp_all) (by simp) ?_
      simp -dsimp [h2, h4, z6]
      repeat (refine chk.go (by first | omega | assumption | (simp_all; done) | (simp_all; omega)) ?_; simp -dsimp [h2, h4, z6])
      refine abr.split (fun h9 => ?_) (fun h9 => ?_)
      · have q10 : (v7 = true) := by first | exact h9 | omega | (simpa using h9) | (simp at h9 ⊢; omega) | simp_all
        rw [if_pos q10] at hF
        simp -dsimp [h2, h4, z6, h9]
        repeat (refine chk.go (by first | omega | assumption | (simp_all; done) | (simp_all; omega)) ?_; simp -dsimp [h2, h4, z6, h9])
        have hF := ob hF; obtain ⟨v11, e12, hF⟩ := hF
        refine ((C.slices_ContainsFunc_Type__impl_ctorOk_1 B hB1 hB2 c'.args w v11 e12)).lend (by first | (simp -dsimp; done) | (simp -dsimp [h2, h4, z6, h9]; done) | simp_all) (by simp -dsimp) ?_
        cases hF
        simp -dsimp [h2, h4, z6, h9]
        repeat (refine chk.go (by first | omega | assumption | (simp_all; done) | (simp_all; omega)) ?_; simp -dsimp [h2, h4, z6, h9])
      · have q10 : ¬ (v7 = true) := by first | exact h9 | omega | (simpa using h9) | (simp at h9 ⊢; omega) | simp_all
        rw [if_neg q10] at hF
        cases hF
        simp -dsimp [h2, h4, z6, h9, q10]
        repeat (refine chk.go (by first | omega | assumption | (simp_all; done) | (simp_all; omega)) ?_; simp -dsimp [h2, h4, z6, h9, q10])
    · have q5 : ¬ (c'.args.length ≤ 3) := by first | exact h4 | omega | (simpa using h4) | (simp at h4 ⊢; omega) | simp_all
      have z6 : ¬ ((c'.args.length : Int) ≤ (3 : Int)) := by first | omega | simp_all
      rw [if_neg q5] at hF
      cases hF
      simp -dsimp [h2, h4, q5, z6]
      repeat (refine chk.go (by first | omega | assumption | (simp_all; done) | (simp_all; omega)) ?_; simp -dsimp [h2, h4, q5, z6])
  · have q3 : ¬ (v = true) := by first | exact h2 | omega | (simpa using h2) | (simp at h2 ⊢; omega) | simp_all
    rw [if_neg q3] at hF
    cases hF
    simp -dsimp [h2, q3]
    repeat (refine chk.go (by first | omega | assumption | (simp_all; done) | (simp_all; omega)) ?_; simp -dsimp [h2, q3])

set_option maxRecDepth 100000 in
set_option maxHeartbeats 400000 in
theorem CC.impl_WorldValid_l2 (B : Nat) (hB1 : 67108864 ≤ B) (hB2 : B ≤ 9223372036854775807) (w : List Vl.Data) (met4 : List ByteArray) (i : Nat) (x : Vl.Data) : (∀ (met26 : List ByteArray) (i27 : Nat) (o : Lo Bool (List ByteArray)), F.impl_WorldValid_l2 w met4 i x met26 i27 = some o → ∀ (b1 b2 : Nat), ¬ b1 = b2 → ∀ (c : Code), navO [1, 1, 1, 1, 0, 1, 0, 0, 1, 1, 0, 0, 1, 1, 1, 1, 0, 0] (bodyOf Try.f49) = some c → ∀ (Q : Exit → ASt → Ms → Prop), o.post (fun r => ∀ st, Post Try.prog Try.f49 (fun r' _ => r' = (.lit (.bool r))) .ret st → ∀ ms, Q .ret st ms) (fun s => Q (.exit 2) ⟨[(0, .arr (List.map Vl.Data.c w)), (3, .lit (.map (some b1))), (4, .lit (.map (some b2))), (14, .arr (List.map Vl.Data.c w)), (15, .lit (.int .i64 (w.length : Int))), (16, .lit (.int .i64 (i : Int)))], []⟩ [(b1, s), (b2, msIns met4 x.name)]) → MLoop Try.prog B 79 (hold c .mk) ⟨[(0, .arr (List.map Vl.Data.c w)), (3, .lit (.map (some b1))), (4, .lit (.map (some b2))), (14, .arr (List.map Vl.Data.c w)), (15, .lit (.int .i64 (w.length : Int))), (16, .lit (.int .i64 (i : Int))), (58, .arr (List.map Vl.Ctor.c x.ctors)), (59, .lit (.int .i64 (x.ctors.length : Int))), (60, .lit (.int .i64 (i27 : Int)))], []⟩ [(b1, met26), (b2, msIns met4 x.name)] (hold Q .mk)) := by
  refine F.impl_WorldValid_l2.partial_correctness w met4 i x
    (fun met26 i27 o => ∀ (b1 b2 : Nat), ¬ b1 = b2 → ∀ (c : Code), navO [1, 1, 1, 1, 0, 1, 0, 0, 1, 1, 0, 0, 1, 1, 1, 1, 0, 0] (bodyOf Try.f49) = some c → ∀ (Q : Exit → ASt → Ms → Prop), o.post (fun r => ∀ st, Post Try.prog Try.f49 (fun r' _ => r' = (.lit (.bool r))) .ret st → ∀ ms, Q .ret st ms) (fun s => Q (.exit 2) ⟨[(0, .arr (List.map Vl.Data.c w)), (3, .lit (.map (some b1))), (4, .lit (.map (some b2))), (14, .arr (List.map Vl.Data.c w)), (15, .lit (.int .i64 (w.length : Int))), (16, .lit (.int .i64 (i : Int)))], []⟩ [(b1, s), (b2, msIns met4 x.name)]) → MLoop Try.prog B 79 (hold c .mk) ⟨[(0, .arr (List.map Vl.Data.c w)), (3, .lit (.map (some b1))), (4, .lit (.map (some b2))), (14, .arr (List.map Vl.Data.c w)), (15, .lit (.int .i64 (w.length : Int))), (16, .lit (.int .i64 (i : Int))), (58, .arr (List.map Vl.Ctor.c x.ctors)), (59, .lit (.int .i64 (x.ctors.length : Int))), (60, .lit (.int .i64 (i27 : Int)))], []⟩ [(b1, met26), (b2, msIns met4 x.name)] (hold Q .mk))
    ?_
  · intro _f_impl_WorldValid_l2 ih_impl_WorldValid_l2 met26 i27 o hF
    intro b1 b2 hb2 c hc Q hq
    obtain rfl : c = _ := navEq hc rfl
    refine MLoop.know fun hk hs => ?_
    have b0 := hk 0
    simp -dsimp at b0
    have b14 := hk 14
    simp -dsimp at b14
    have b58 := hk 58
    simp -dsimp at b58
    clear hk hs
    refine MLoop.enter ?_
    simp -dsimp [hb2]
    repeat (refine chk.go (by first | omega | assumption | (simp_all; done) | (simp_all; omega)) ?_; simp -dsimp [hb2])
    refine abr.split (fun h28 => ?_) (fun h28 => ?_)
    · have q29 : (i27 < x.ctors.length) := by first | exact h28 | omega | (simpa using h28) | (simp at h28 ⊢; omega) | simp_all
      have z30 : ((i27 : Int) < (x.ctors.length : Int)) := by first | omega | simp_all
      rw [if_pos q29] at hF
      have hF := ob hF; obtain ⟨x31, e32, hF⟩ := hF
      have le32 := lt_of_get e32
      simp -dsimp [hb2, h28, z30, ↓e32]
      repeat (refine chk.go (by first | omega | assumption | (simp_all; done) | (simp_all; omega)) ?_; simp -dsimp [hb2, h28, z30, ↓e32])
      have hF := ob hF; obtain ⟨v33, e34, hF⟩ := hF
      refine ((C.impl_ctorOk B hB1 hB2 w x31 v33 e34)).goW (by first | (simp; done) | (simp [hb2, h28, z30, ↓e32]; done) | simp_all) (by simp) ?_
      simp -dsimp [hb2, h28, z30, ↓e32]
      repeat (refine chk.go (by first | omega | assumption | (simp_all; done) | (simp_all; omega)) ?_; simp -dsimp [hb2, h28, z30, ↓e32])
      refine abr.split (fun h35 => ?_) (fun h35 => ?_)
      · have q36 : (v33 = true) := by first | exact h35 | omega | (simpa using h35) | (simp at h35 ⊢; omega) | simp_all
        rw [if_pos q36] at hF
        simp -dsimp [hb2, h28, z30, ↓e32, h35]
        repeat (refine chk.go (by first | omega | assumption | (simp_all; done) | (simp_all; omega)) ?_; simp -dsimp [hb2, h28, z30, ↓e32, h35])
        refine abr.split (fun h37 => ?_) (fun h37 => ?_)
        · have q38 : (dec (x31.name ∈ met26) = true) := by first | exact h37 | omega | (simpa using h37) | (simp at h37 ⊢; omega) | simp_all
          rw [if_pos q38] at hF
          cases hF
          simp -dsimp [hb2, h28, z30, ↓e32, h35, h37]
          repeat (refine chk.go (by first | omega | assumption | (simp_all; done) | (simp_all; omega)) ?_; simp -dsimp [hb2, h28, z30, ↓e32, h35, h37])
          refine LeaveM.go _ (Gh.refl _) (hq _ ?_ _)
          simp -dsimp [hb2, h28, z30, ↓e32, h35, h37]
          repeat (refine chk.go (by first | omega | assumption | (simp_all; done) | (simp_all; omega)) ?_; simp -dsimp [hb2, h28, z30, ↓e32, h35, h37])
        · have q38 : ¬ (dec (x31.name ∈ met26) = true) := by first | exact h37 | omega | (simpa using h37) | (simp at h37 ⊢; omega) | simp_all
          rw [if_neg q38] at hF
          have w39 : IntKind.i64.wrap ((i27 : Int) + 1) = (i27 : Int) + 1 := wrap_in (by omega) (by omega)
          simp -dsimp [hb2, h28, z30, ↓e32, h35, h37, q38, w39]
          repeat (refine chk.go (by first | omega | assumption | (simp_all; done) | (simp_all; omega)) ?_; simp -dsimp [hb2, h28, z30, ↓e32, h35, h37, q38, w39])
          refine AgainM.go ⟨[(0, .arr (List.map Vl.Data.c w)), (3, .lit (.map (some b1))), (4, .lit (.map (some b2))), (14, .arr (List.map Vl.Data.c w)), (15, .lit (.int .i64 (w.length : Int))), (16, .lit (.int .i64 (i : Int))), (58, .arr (List.map Vl.Ctor.c x.ctors)), (59, .lit (.int .i64 (x.ctors.length : Int))), (60, .lit (.int .i64 ((i27 + 1) : Int)))], []⟩ (Gh.to (by simp) (by first | (simp -dsimp; done) | (simp -dsimp [hb2, h28, z30, ↓e32, h35, h37, q38, w39]; done) | simp_all) (by first | (simp -dsimp; done) | (simp -dsimp [hb2, h28, z30, ↓e32, h35, h37, q38, w39]; done) | simp_all) (by first | (simp -dsimp; done) | (simp -dsimp [hb2, h28, z30, ↓e32, h35, h37, q38, w39]; done) | simp_all)) ?_
          exact (ih_impl_WorldValid_l2 (msIns met26 x31.name) (i27 + 1) o hF) b1 b2 hb2 _ rfl _ hq
      · have q36 : ¬ (v33 = true) := by first | exact h35 | omega | (simpa using h35) | (simp at h35 ⊢; omega) | simp_all
        rw [if_neg q36] at hF
        cases hF
        simp -dsimp [hb2, h28, z30, ↓e32, h35, q36]
        repeat (refine chk.go (by first | omega | assumption | (simp_all; done) | (simp_all; omega)) ?_; simp -dsimp [hb2, h28, z30, ↓e32, h35, q36])
        refine LeaveM.go _ (Gh.refl _) (hq _ ?_ _)
        simp -dsimp [hb2, h28, z30, ↓e32, h35, q36]
        repeat (refine chk.go (by first | omega | assumption | (simp_all; done) | (simp_all; omega)) ?_; simp -dsimp [hb2, h28, z30, ↓e32, h35, q36])
    · have q29 : ¬ (i27 < x.ctors.length) := by first | exact h28 | omega | (simpa using h28) | (simp at h28 ⊢; omega) | simp_all
      have z30 : ¬ ((i27 : Int) < (x.ctors.length : Int)) := by first | omega | simp_all
      rw [if_neg q29] at hF
      cases hF
      simp -dsimp [hb2, h28, q29, z30]
      repeat (refine chk.go (by first | omega | assumption | (simp_all; done) | (simp_all; omega)) ?_; simp -dsimp [hb2, h28, q29, z30])
      refine LeaveM.go ⟨[(0, .arr (List.map Vl.Data.c w)), (3, .lit (.map (some b1))), (4, .lit (.map (some b2))), (14, .arr (List.map Vl.Data.c w)), (15, .lit (.int .i64 (w.length : Int))), (16, .lit (.int .i64 (i : Int)))], []⟩ (Gh.to (by simp) (by first | (simp -dsimp; done) | (simp -dsimp [hb2, h28, q29, z30]; done) | simp_all) (by first | (simp -dsimp; done) | (simp -dsimp [hb2, h28, q29, z30]; done) | simp_all) (by first | (simp -dsimp; done) | (simp -dsimp [hb2, h28, q29, z30]; done) | simp_all)) ?_
      exact hq

theorem C.impl_WorldValid_l2 (B : Nat) (hB1 : 67108864 ≤ B) (hB2 : B ≤ 9223372036854775807) (w : List Vl.Data) (met4 : List ByteArray) (i : Nat) (x : Vl.Data) (met26 : List ByteArray) (i27 : Nat) (o : Lo Bool (List ByteArray)) (hF : F.impl_WorldValid_l2 w met4 i x met26 i27 = some o) : ∀ (b1 b2 : Nat), ¬ b1 = b2 → ∀ (c : Code), navO [1, 1, 1, 1, 0, 1, 0, 0, 1, 1, 0, 0, 1, 1, 1, 1, 0, 0] (bodyOf Try.f49) = some c → ∀ (Q : Exit → ASt → Ms → Prop), o.post (fun r => ∀ st, Post Try.prog Try.f49 (fun r' _ => r' = (.lit (.bool r))) .ret st → ∀ ms, Q .ret st ms) (fun s => Q (.exit 2) ⟨[(0, .arr (List.map Vl.Data.c w)), (3, .lit (.map (some b1))), (4, .lit (.map (some b2))), (14, .arr (List.map Vl.Data.c w)), (15, .lit (.int .i64 (w.length : Int))), (16, .lit (.int .i64 (i : Int)))], []⟩ [(b1, s), (b2, msIns met4 x.name)]) → MLoop Try.prog B 79 (hold c .mk) ⟨[(0, .arr (List.map Vl.Data.c w)), (3, .lit (.map (some b1))), (4, .lit (.map (some b2))), (14, .arr (List.map Vl.Data.c w)), (15, .lit (.int .i64 (w.length : Int))), (16, .lit (.int .i64 (i : Int))), (58, .arr (List.map Vl.Ctor.c x.ctors)), (59, .lit (.int .i64 (x.ctors.length : Int))), (60, .lit (.int .i64 (i27 : Int)))], []⟩ [(b1, met26), (b2, msIns met4 x.name)] (hold Q .mk) :=
  (CC.impl_WorldValid_l2 B hB1 hB2 w met4 i x) met26 i27 o hF

set_option maxRecDepth 100000 in
set_option maxHeartbeats 400000 in
theorem CC.impl_WorldValid_l1 (B : Nat) (hB1 : 67108864 ≤ B) (hB2 : B ≤ 9223372036854775807) (w : List Vl.Data) : (∀ (met : List ByteArray) (met4 : List ByteArray) (i : Nat) (o : Lo Bool ((List ByteArray) × (List ByteArray))), F.impl_WorldValid_l1 w met met4 i = some o → ∀ (b1 b2 : Nat), ¬ b1 = b2 → ∀ (c : Code), navO [1, 1, 1, 1, 0, 1, 0, 0] (bodyOf Try.f49) = some c → ∀ (Q : Exit → ASt → Ms → Prop), o.post (fun r => ∀ st, Post Try.prog Try.f49 (fun r' _ => r' = (.lit (.bool r))) .ret st → ∀ ms, Q .ret st ms) (fun s => Q (.exit 0) ⟨[], []⟩ [(b1, s.1), (b2, s.2)]) → MLoop Try.prog B 79 (hold c .mk) ⟨[(0, .arr (List.map Vl.Data.c w)), (3, .lit (.map (some b1))), (4, .lit (.map (some b2))), (14, .arr (List.map Vl.Data.c w)), (15, .lit (.int .i64 (w.length : Int))), (16, .lit (.int .i64 (i : Int)))], []⟩ [(b1, met), (b2, met4)] (hold Q .mk)) := by
  refine F.impl_WorldValid_l1.partial_correctness w
    (fun met met4 i o => ∀ (b1 b2 : Nat), ¬ b1 = b2 → ∀ (c : Code), navO [1, 1, 1, 1, 0, 1, 0, 0] (bodyOf Try.f49) = some c → ∀ (Q : Exit → ASt → Ms → Prop), o.post (fun r => ∀ st, Post Try.prog Try.f49 (fun r' _ => r' = (.lit (.bool r))) .ret st → ∀ ms, Q .ret st ms) (fun s => Q (.exit 0) ⟨[], []⟩ [(b1, s.1), (b2, s.2)]) → MLoop Try.prog B 79 (hold c .mk) ⟨[(0, .arr (List.map Vl.Data.c w)), (3, .lit (.map (some b1))), (4, .lit (.map (some b2))), (14, .arr (List.map Vl.Data.c w)), (15, .lit (.int .i64 (w.length : Int))), (16, .lit (.int .i64 (i : Int)))], []⟩ [(b1, met), (b2, met4)] (hold Q .mk))
    ?_
  · intro _f_impl_WorldValid_l1 ih_impl_WorldValid_l1 met met4 i o hF
    intro b1 b2 hb2 c hc Q hq
    obtain rfl : c = _ := navEq hc rfl
    refine MLoop.know fun hk hs => ?_
    have b0 := hk 0
    simp -dsimp at b0
    have b14 := hk 14
    simp -dsimp at b14
    clear hk hs
    refine MLoop.enter ?_
    simp -dsimp [hb2]
    repeat (refine chk.go (by first | omega | assumption | (simp_all; done) | (simp_all; omega)) ?_; simp -dsimp [hb2])
    refine abr.split (fun h5 => ?_) (fun h5 => ?_)
    · have q6 : (i < w.length) := by first | exact h5 | omega | (simpa using h5) | (simp at h5 ⊢; omega) | simp_all
      have z7 : ((i : Int) < (w.length : Int)) := by first | omega | simp_all
      rw [if_pos q6] at hF
      have hF := ob hF; obtain ⟨x, e8, hF⟩ := hF
      have le8 := lt_of_get e8
      simp -dsimp [hb2, h5, z7, ↓e8]
      repeat (refine chk.go (by first | omega | assumption | (simp_all; done) | (simp_all; omega)) ?_; simp -dsimp [hb2, h5, z7, ↓e8])
      refine abr.split (fun h9 => ?_) (fun h9 => ?_)
      · have q10 : (x.name.size = 1) := by first | exact h9 | omega | (simpa using h9) | (simp at h9 ⊢; omega) | simp_all
        have z11 : ((x.name.size : Int) = (1 : Int)) := by first | omega | simp_all
        rw [if_pos q10] at hF
        have hF := oc hF; obtain ⟨c12, hF⟩ := hF
        simp -dsimp [hb2, h5, z7, ↓e8, h9, z11]
        repeat (refine chk.go (by first | omega | assumption | (simp_all; done) | (simp_all; omega)) ?_; simp -dsimp [hb2, h5, z7, ↓e8, h9, z11])
        refine abr.split (fun h13 => ?_) (fun h13 => ?_)
        · have q14 : ¬ (byteAt x.name 0 < 65) := by first | exact h13 | omega | (simpa using h13) | (simp at h13 ⊢; omega) | simp_all
          have z15 : ¬ (((byteAt x.name 0 : Nat) : Int) < (65 : Int)) := by first | omega | simp_all
          rw [if_neg q14] at hF
          simp -dsimp [hb2, h5, z7, ↓e8, h9, z11, h13, q14, z15]
          repeat (refine chk.go (by first | omega | assumption | (simp_all; done) | (simp_all; omega)) ?_; simp -dsimp [hb2, h5, z7, ↓e8, h9, z11, h13, q14, z15])
          refine abr.split (fun h16 => ?_) (fun h16 => ?_)
          · have q17 : ¬ (90 < byteAt x.name 0) := by first | exact h16 | omega | (simpa using h16) | (simp at h16 ⊢; omega) | simp_all
            have z18 : ¬ ((90 : Int) < ((byteAt x.name 0 : Nat) : Int)) := by first | omega | simp_all
            rw [if_neg q17] at hF
            simp -dsimp [hb2, h5, z7, ↓e8, h9, z11, h13, q14, z15, h16, q17, z18]
            repeat (refine chk.go (by first | omega | assumption | (simp_all; done) | (simp_all; omega)) ?_; simp -dsimp [hb2, h5, z7, ↓e8, h9, z11, h13, q14, z15, h16, q17, z18])
            refine abr.split (fun h19 => ?_) (fun h19 => ?_)
            · have q20 : ¬ (x.name.toList = (⟨#[73]⟩ : ByteArray).toList) := by first | exact h19 | omega | (simpa using h19) | (simp at h19 ⊢; omega) | simp_all
              rw [if_neg q20] at hF
              simp -dsimp [hb2, h5, z7, ↓e8, h9, z11, h13, q14, z15, h16, q17, z18, h19, q20]
              repeat (refine chk.go (by first | omega | assumption | (simp_all; done) | (simp_all; omega)) ?_; simp -dsimp [hb2, h5, z7, ↓e8, h9, z11, h13, q14, z15, h16, q17, z18, h19, q20])
              refine abr.split (fun h21 => ?_) (fun h21 => ?_)
              · have q22 : ¬ (dec (x.name ∈ met4) = true) := by first | exact h21 | omega | (simpa using h21) | (simp at h21 ⊢; omega) | simp_all
                rw [if_neg q22] at hF
                simp -dsimp [hb2, h5, z7, ↓e8, h9, z11, h13, q14, z15, h16, q17, z18, h19, q20, h21, q22]
                repeat (refine chk.go (by first | omega | assumption | (simp_all; done) | (simp_all; omega)) ?_; simp -dsimp [hb2, h5, z7, ↓e8, h9, z11, h13, q14, z15, h16, q17, z18, h19, q20, h21, q22])
                have hF := ob hF; obtain ⟨v, e23, hF⟩ := hF
                refine ((C.impl_within B hB1 hB2 (x.ctors.length : Int) (1 : Int) (4 : Int) v e23)).goW (by first | (simp; done) | (simp [hb2, h5, z7, ↓e8, h9, z11, h13, q14, z15, h16, q17, z18, h19, q20, h21, q22]; done) | simp_all) (by simp) ?_
                simp -dsimp [hb2, h5, z7, ↓e8, h9, z11, h13, q14, z15, h16, q17, z18, h19, q20, h21, q22]
                repeat (refine chk.go (by first | omega | assumption | (simp_all; done) | (simp_all; omega)) ?_; simp -dsimp [hb2, h5, z7, ↓e8, h9, z11, h13, q14, z15, h16, q17, z18, h19, q20, h21, q22])
                refine abr.split (fun h24 => ?_) (fun h24 => ?_)
                · have q25 : ¬ (v = true) := by first | exact h24 | omega | (simpa using h24) | (simp at h24 ⊢; omega) | simp_all
                  rw [if_neg q25] at hF
                  cases hF
                  simp -dsimp [hb2, h5, z7, ↓e8, h9, z11, h13, q14, z15, h16, q17, z18, h19, q20, h21, q22, h24, q25]
                  repeat (refine chk.go (by first | omega | assumption | (simp_all; done) | (simp_all; omega)) ?_; simp -dsimp [hb2, h5, z7, ↓e8, h9, z11, h13, q14, z15, h16, q17, z18, h19, q20, h21, q22, h24, q25])
                  refine LeaveM.go _ (Gh.refl _) (hq _ ?_ _)
                  simp -dsimp [hb2, h5, z7, ↓e8, h9, z11, h13, q14, z15, h16, q17, z18, h19, q20, h21, q22, h24, q25]
                  repeat (refine chk.go (by first | omega | assumption | (simp_all; done) | (simp_all; omega)) ?_; simp -dsimp [hb2, h5, z7, ↓e8, h9, z11, h13, q14, z15, h16, q17, z18, h19, q20, h21, q22, h24, q25])
                · have q25 : (v = true) := by first | exact h24 | omega | (simpa using h24) | (simp at h24 ⊢; omega) | simp_all
                  rw [if_pos q25] at hF
                  simp -dsimp [hb2, h5, z7, ↓e8, h9, z11, h13, q14, z15, h16, q17, z18, h19, q20, h21, q22, h24, q25]
                  repeat (refine chk.go (by first | omega | assumption | (simp_all; done) | (simp_all; omega)) ?_; simp -dsimp [hb2, h5, z7, ↓e8, h9, z11, h13, q14, z15, h16, q17, z18, h19, q20, h21, q22, h24, q25])
                  have hF := ob hF; obtain ⟨o, ho40, hF⟩ := hF
                  refine MLoop.goU ⟨[(0, .arr (List.map Vl.Data.c w)), (3, .lit (.map (some b1))), (4, .lit (.map (some b2))), (14, .arr (List.map Vl.Data.c w)), (15, .lit (.int .i64 (w.length : Int))), (16, .lit (.int .i64 (i : Int))), (58, .arr (List.map Vl.Ctor.c x.ctors)), (59, .lit (.int .i64 (x.ctors.length : Int))), (60, .lit (.int .i64 (0 : Int)))], []⟩ (Gh.to (by simp) (by first | (simp -dsimp; done) | (simp -dsimp [hb2, h5, z7, ↓e8, h9, z11, h13, q14, z15, h16, q17, z18, h19, q20, h21, q22, h24, q25]; done) | simp_all) (by first | (simp -dsimp; done) | (simp -dsimp [hb2, h5, z7, ↓e8, h9, z11, h13, q14, z15, h16, q17, z18, h19, q20, h21, q22, h24, q25]; done) | simp_all) (by first | (simp -dsimp; done) | (simp -dsimp [hb2, h5, z7, ↓e8, h9, z11, h13, q14, z15, h16, q17, z18, h19, q20, h21, q22, h24, q25]; done) | simp_all)) ?_
                  refine (C.impl_WorldValid_l2 B hB1 hB2 w met4 i x met 0 o ho40) b1 b2 hb2 _ rfl _ ?_
                  rcases o with r0 | s
                  · dsimp only at hF
                    cases hF
                    intro st h ms
                    simp -dsimp
                    refine LeaveM.go st (Gh.refl _) (hq st h ms)
                  · dsimp only at hF
                    have hF := oc hF; obtain ⟨c41, hF⟩ := hF
                    have w42 : IntKind.i64.wrap ((i : Int) + 1) = (i : Int) + 1 := wrap_in (by omega) (by omega)
                    simp -dsimp [w42]
                    repeat (refine chk.go (by first | omega | assumption | (simp_all; done) | (simp_all; omega)) ?_; simp -dsimp [w42])
                    refine AgainM.go ⟨[(0, .arr (List.map Vl.Data.c w)), (3, .lit (.map (some b1))), (4, .lit (.map (some b2))), (14, .arr (List.map Vl.Data.c w)), (15, .lit (.int .i64 (w.length : Int))), (16, .lit (.int .i64 ((i + 1) : Int)))], []⟩ (Gh.to (by simp) (by first | (simp -dsimp; done) | (simp -dsimp [w42]; done) | simp_all) (by first | (simp -dsimp; done) | (simp -dsimp [w42]; done) | simp_all) (by first | (simp -dsimp; done) | (simp -dsimp [w42]; done) | simp_all)) ?_
                    exact (ih_impl_WorldValid_l1 s (msIns met4 x.name) (i + 1) o hF) b1 b2 hb2 _ rfl _ hq
              · have q22 : (dec (x.name ∈ met4) = true) := by first | exact h21 | omega | (simpa using h21) | (simp at h21 ⊢; omega) | simp_all
                rw [if_pos q22] at hF
                cases hF
                simp -dsimp [hb2, h5, z7, ↓e8, h9, z11, h13, q14, z15, h16, q17, z18, h19, q20, h21, q22]
                repeat (refine chk.go (by first | omega | assumption | (simp_all; done) | (simp_all; omega)) ?_; simp -dsimp [hb2, h5, z7, ↓e8, h9, z11, h13, q14, z15, h16, q17, z18, h19, q20, h21, q22])
                refine LeaveM.go _ (Gh.refl _) (hq _ ?_ _)
                simp -dsimp [hb2, h5, z7, ↓e8, h9, z11, h13, q14, z15, h16, q17, z18, h19, q20, h21, q22]
                repeat (refine chk.go (by first | omega | assumption | (simp_all; done) | (simp_all; omega)) ?_; simp -dsimp [hb2, h5, z7, ↓e8, h9, z11, h13, q14, z15, h16, q17, z18, h19, q20, h21, q22])
            · have q20 : (x.name.toList = (⟨#[73]⟩ : ByteArray).toList) := by first | exact h19 | omega | (simpa using h19) | (simp at h19 ⊢; omega) | simp_all
              rw [if_pos q20] at hF
              cases hF
              simp -dsimp [hb2, h5, z7, ↓e8, h9, z11, h13, q14, z15, h16, q17, z18, h19, q20]
              repeat (refine chk.go (by first | omega | assumption | (simp_all; done) | (simp_all; omega)) ?_; simp -dsimp [hb2, h5, z7, ↓e8, h9, z11, h13, q14, z15, h16, q17, z18, h19, q20])
              refine LeaveM.go _ (Gh.refl _) (hq _ ?_ _)
              simp -dsimp [hb2, h5, z7, ↓e8, h9, z11, h13, q14, z15, h16, q17, z18, h19, q20]
              repeat (refine chk.go (by first | omega | assumption | (simp_all; done) | (simp_all; omega)) ?_; simp -dsimp [hb2, h5, z7, ↓e8, h9, z11, h13, q14, z15, h16, q17, z18, h19, q20])
          · have q17 : (90 < byteAt x.name 0) := by first | exact h16 | omega | (simpa using h16) | (simp at h16 ⊢; omega) | simp_all
            have z18 : ((90 : Int) < ((byteAt x.name 0 : Nat) : Int)) := by first | omega | simp_all
            rw [if_pos q17] at hF
            cases hF
            simp -dsimp [hb2, h5, z7, ↓e8, h9, z11, h13, q14, z15, h16, q17, z18]
            repeat (refine chk.go (by first | omega | assumption | (simp_all; done) | (simp_all; omega)) ?_; simp -dsimp [hb2, h5, z7, ↓e8, h9, z11, h13, q14, z15, h16, q17, z18])
            refine LeaveM.go _ (Gh.refl _) (hq _ ?_ _)
            simp -dsimp [hb2, h5, z7, ↓e8, h9, z11, h13, q14, z15, h16, q17, z18]
            repeat (refine chk.go (by first | omega | assumption | (simp_all; done) | (simp_all; omega)) ?_; simp -dsimp [hb2, h5, z7, ↓e8, h9, z11, h13, q14, z15, h16, q17, z18])
        · have q14 : (byteAt x.name 0 < 65) := by first | exact h13 | omega | (simpa using h13) | (simp at h13 ⊢; omega) | simp_all
          have z15 : (((byteAt x.name 0 : Nat) : Int) < (65 : Int)) := by first | omega | simp_all
          rw [if_pos q14] at hF
          cases hF
          simp -dsimp [hb2, h5, z7, ↓e8, h9, z11, h13, q14, z15]
          repeat (refine chk.go (by first | omega | assumption | (simp_all; done) | (simp_all; omega)) ?_; simp -dsimp [hb2, h5, z7, ↓e8, h9, z11, h13, q14, z15])
          refine LeaveM.go _ (Gh.refl _) (hq _ ?_ _)
          simp -dsimp [hb2, h5, z7, ↓e8, h9, z11, h13, q14, z15]
          repeat (refine chk.go (by first | omega | assumption | (simp_all; done) | (simp_all; omega)) ?_; simp -dsimp [hb2, h5, z7, ↓e8, h9, z11, h13, q14, z15])
      · have q10 : ¬ (x.name.size = 1) := by first | exact h9 | omega | (simpa using h9) | (simp at h9 ⊢; omega) | simp_all
        have z11 : ¬ ((x.name.size : Int) = (1 : Int)) := by first | omega | simp_all
        rw [if_neg q10] at hF
        cases hF
        simp -dsimp [hb2, h5, z7, ↓e8, h9, q10, z11]
        repeat (refine chk.go (by first | omega | assumption | (simp_all; done) | (simp_all; omega)) ?_; simp -dsimp [hb2, h5, z7, ↓e8, h9, q10, z11])
        refine LeaveM.go _ (Gh.refl _) (hq _ ?_ _)
        simp -dsimp [hb2, h5, z7, ↓e8, h9, q10, z11]
        repeat (refine chk.go (by first | omega | assumption | (simp_all; done) | (simp_all; omega)) ?_; simp -dsimp [hb2, h5, z7, ↓e8, h9, q10, z11])
    · have q6 : ¬ (i < w.length) := by first | exact h5 | omega | (simpa using h5) | (simp at h5 ⊢; omega) | simp_all
      have z7 : ¬ ((i : Int) < (w.length : Int)) := by first | omega | simp_all
      rw [if_neg q6] at hF
      cases hF
      simp -dsimp [hb2, h5, q6, z7]
      repeat (refine chk.go (by first | omega | assumption | (simp_all; done) | (simp_all; omega)) ?_; simp -dsimp [hb2, h5, q6, z7])
      refine LeaveM.go ⟨[], []⟩ (Gh.to (by simp) (by first | (simp -dsimp; done) | (simp -dsimp [hb2, h5, q6, z7]; done) | simp_all) (by first | (simp -dsimp; done) | (simp -dsimp [hb2, h5, q6, z7]; done) | simp_all) (by first | (simp -dsimp; done) | (simp -dsimp [hb2, h5, q6, z7]; done) | simp_all)) ?_
      exact hq

theorem C.impl_WorldValid_l1 (B : Nat) (hB1 : 67108864 ≤ B) (hB2 : B ≤ 9223372036854775807) (w : List Vl.Data) (met : List ByteArray) (met4 : List ByteArray) (i : Nat) (o : Lo Bool ((List ByteArray) × (List ByteArray))) (hF : F.impl_WorldValid_l1 w met met4 i = some o) : ∀ (b1 b2 : Nat), ¬ b1 = b2 → ∀ (c : Code), navO [1, 1, 1, 1, 0, 1, 0, 0] (bodyOf Try.f49) = some c → ∀ (Q : Exit → ASt → Ms → Prop), o.post (fun r => ∀ st, Post Try.prog Try.f49 (fun r' _ => r' = (.lit (.bool r))) .ret st → ∀ ms, Q .ret st ms) (fun s => Q (.exit 0) ⟨[], []⟩ [(b1, s.1), (b2, s.2)]) → MLoop Try.prog B 79 (hold c .mk) ⟨[(0, .arr (List.map Vl.Data.c w)), (3, .lit (.map (some b1))), (4, .lit (.map (some b2))), (14, .arr (List.map Vl.Data.c w)), (15, .lit (.int .i64 (w.length : Int))), (16, .lit (.int .i64 (i : Int)))], []⟩ [(b1, met), (b2, met4)] (hold Q .mk) :=
  (CC.impl_WorldValid_l1 B hB1 hB2 w) met met4 i o hF

set_option maxRecDepth 100000 in
set_option maxHeartbeats 400000 in
theorem C.impl_WorldValid (B : Nat) (hB1 : 67108864 ≤ B) (hB2 : B ≤ 9223372036854775807) (w : List Vl.Data) (r : Bool) (hF : F.impl_WorldValid w = some r) : PureCall Try.prog B 49 [.arr (List.map Vl.Data.c w)] (.lit (.bool r)) := by
  unfold F.impl_WorldValid at hF
  refine PureCall.enterM Try.func49 (by kernel_rfl) rfl Try.ntmps49 (by simp) ?_
  simp -dsimp
  repeat (refine chk.go (by first | omega | assumption | (simp_all; done) | (simp_all; omega)) ?_; simp -dsimp)
  refine abr.split (fun h1 => ?_) (fun h1 => ?_)
  · have q2 : (4 < w.length) := by first | exact h1 | omega | (simpa using h1) | (simp at h1 ⊢; omega) | simp_all
    have z3 : ((4 : Int) < (w.length : Int)) := by first | omega | simp_all
    rw [if_pos q2] at hF
    cases hF
    simp -dsimp [h1, z3]
    repeat (refine chk.go (by first | omega | assumption | (simp_all; done) | (simp_all; omega)) ?_; simp -dsimp [h1, z3])
  · have q2 : ¬ (4 < w.length) := by first | exact h1 | omega | (simpa using h1) | (simp at h1 ⊢; omega) | simp_all
    have z3 : ¬ ((4 : Int) < (w.length : Int)) := by first | omega | simp_all
    rw [if_neg q2] at hF
    simp -dsimp [h1, q2, z3]
    repeat (refine chk.go (by first | omega | assumption | (simp_all; done) | (simp_all; omega)) ?_; simp -dsimp [h1, q2, z3])
    refine AMake.go fun b1 hb1 => ?_
    simp -dsimp [h1, q2, z3]
    repeat (refine chk.go (by first | omega | assumption | (simp_all; done) | (simp_all; omega)) ?_; simp -dsimp [h1, q2, z3])
    refine AMake.go fun b2 hb2 => ?_
    simp at hb2
    simp -dsimp [h1, q2, z3, hb2]
    repeat (refine chk.go (by first | omega | assumption | (simp_all; done) | (simp_all; omega)) ?_; simp -dsimp [h1, q2, z3, hb2])
    have hF := ob hF; obtain ⟨o44, ho43, hF⟩ := hF
    refine MLoop.goU ⟨[(0, .arr (List.map Vl.Data.c w)), (3, .lit (.map (some b1))), (4, .lit (.map (some b2))), (14, .arr (List.map Vl.Data.c w)), (15, .lit (.int .i64 (w.length : Int))), (16, .lit (.int .i64 (0 : Int)))], []⟩ (Gh.to (by simp) (by first | (simp -dsimp; done) | (simp -dsimp [h1, q2, z3, hb2]; done) | simp_all) (by first | (simp -dsimp; done) | (simp -dsimp [h1, q2, z3, hb2]; done) | simp_all) (by first | (simp -dsimp; done) | (simp -dsimp [h1, q2, z3, hb2]; done) | simp_all)) ?_
    refine (C.impl_WorldValid_l1 B hB1 hB2 w [] [] 0 o44 ho43) b1 b2 hb2 _ rfl _ ?_
    rcases o44 with r046 | s45
    · dsimp only at hF
      cases hF
      intro st h ms
      simpa using h
    · dsimp only at hF
      cases hF
      simp -dsimp
      repeat (refine chk.go (by first | omega | assumption | (simp_all; done) | (simp_all; omega)) ?_; simp -dsimp)

set_option maxRecDepth 100000 in
set_option maxHeartbeats 400000 in
theorem C.impl_typeOk (B : Nat) (hB1 : 67108864 ≤ B) (hB2 : B ≤ 9223372036854775807) (w : List Vl.Data) (t : Vl.Ty) (r : Bool) (hF : F.impl_typeOk w t = some r) : PureCall Try.prog B 50 [.arr (List.map Vl.Data.c w), .agg [.lit (.int .i64 t.data), .lit (.int .i64 t.index)]] (.lit (.bool r)) := by
  unfold F.impl_typeOk at hF
  refine PureCall.enterLe Try.func50 (by kernel_rfl) rfl Try.ntmps50 (by simp) (by simp) ?_
  simp -dsimp
  repeat (refine chk.go (by first | omega | assumption | (simp_all; done) | (simp_all; omega)) ?_; simp -dsimp)
  refine abr.split (fun h1 => ?_) (fun h1 => ?_)
  · have q2 : ¬ (dec (eq2 (t.data, t.index) ((-1), 0)) = true) := by first | exact h1 | omega | (simpa using h1) | (simp at h1 ⊢; omega) | simp_all
    rw [if_neg q2] at hF
    simp -dsimp [h1, q2]
    repeat (refine chk.go (by first | omega | assumption | (simp_all; done) | (simp_all; omega)) ?_; simp -dsimp [h1, q2])
    have hF := ob hF; obtain ⟨v, e3, hF⟩ := hF
    refine ((C.impl_within B hB1 hB2 t.data (0 : Int) (IntKind.i64.wrap ((w.length : Int) - 1)) v e3)).goW (by first | (simp; done) | (simp [h1, q2]; done) | simp_all) (by simp) ?_
    simp -dsimp [h1, q2]
    repeat (refine chk.go (by first | omega | assumption | (simp_all; done) | (simp_all; omega)) ?_; simp -dsimp [h1, q2])
    refine abr.split (fun h4 => ?_) (fun h4 => ?_)
    · have q5 : (v = true) := by first | exact h4 | omega | (simpa using h4) | (simp at h4 ⊢; omega) | simp_all
      rw [if_pos q5] at hF
      simp -dsimp [h1, q2, h4]
      repeat (refine chk.go (by first | omega | assumption | (simp_all; done) | (simp_all; omega)) ?_; simp -dsimp [h1, q2, h4])
      have hF := ob hF; obtain ⟨v6, e7, hF⟩ := hF
      refine ((C.impl_within B hB1 hB2 t.index (0 : Int) (3 : Int) v6 e7)).goW (by first | (simp; done) | (simp [h1, q2, h4]; done) | simp_all) (by simp) ?_
      cases hF
      simp -dsimp [h1, q2, h4]
      repeat (refine chk.go (by first | omega | assumption | (simp_all; done) | (simp_all; omega)) ?_; simp -dsimp [h1, q2, h4])
    · have q5 : ¬ (v = true) := by first | exact h4 | omega | (simpa using h4) | (simp at h4 ⊢; omega) | simp_all
      rw [if_neg q5] at hF
      cases hF
      simp -dsimp [h1, q2, h4, q5]
      repeat (refine chk.go (by first | omega | assumption | (simp_all; done) | (simp_all; omega)) ?_; simp -dsimp [h1, q2, h4, q5])
  · have q2 : (dec (eq2 (t.data, t.index) ((-1), 0)) = true) := by first | exact h1 | omega | (simpa using h1) | (simp at h1 ⊢; omega) | simp_all
    rw [if_pos q2] at hF
    cases hF
    simp -dsimp [h1, q2]
    repeat (refine chk.go (by first | omega | assumption | (simp_all; done) | (simp_all; omega)) ?_; simp -dsimp [h1, q2])

set_option maxRecDepth 100000 in
set_option maxHeartbeats 400000 in
theorem C.impl_TypeValid (B : Nat) (hB1 : 67108864 ≤ B) (hB2 : B ≤ 9223372036854775807) (w : List Vl.Data) (t : Vl.Ty) (r : Bool) (hF : F.impl_TypeValid w t = some r) : PureCall Try.prog B 29 [.arr (List.map Vl.Data.c w), .agg [.lit (.int .i64 t.data), .lit (.int .i64 t.index)]] (.lit (.bool r)) := by
  unfold F.impl_TypeValid at hF
  refine PureCall.enterLe Try.func29 (by kernel_rfl) rfl Try.ntmps29 (by simp) (by simp) ?_
  simp -dsimp
  repeat (refine chk.go (by first | omega | assumption | (simp_all; done) | (simp_all; omega)) ?_; simp -dsimp)
  have hF := ob hF; obtain ⟨v, e1, hF⟩ := hF
  refine ((C.impl_WorldValid B hB1 hB2 w v e1)).goW (by simp) (by simp) ?_
  simp -dsimp
  repeat (refine chk.go (by first | omega | assumption | (simp_all; done) | (simp_all; omega)) ?_; simp -dsimp)
  refine abr.split (fun h2 => ?_) (fun h2 => ?_)
  · have q3 : (v = true) := by first | exact h2 | omega | (simpa using h2) | (simp at h2 ⊢; omega) | simp_all
    rw [if_pos q3] at hF
    simp -dsimp [h2]
    repeat (refine chk.go (by first | omega | assumption | (simp_all; done) | (simp_all; omega)) ?_; simp -dsimp [h2])
    have hF := ob hF; obtain ⟨v4, e5, hF⟩ := hF
    refine ((C.impl_typeOk B hB1 hB2 w t v4 e5)).goW (by first | (simp; done) | (simp [h2]; done) | simp_all) (by simp) ?_
    cases hF
    simp -dsimp [h2]
    repeat (refine chk.go (by first | omega | assumption | (simp_all; done) | (simp_all; omega)) ?_; simp -dsimp [h2])
  · have q3 : ¬ (v = true) := by first | exact h2 | omega | (simpa using h2) | (simp at h2 ⊢; omega) | simp_all
    rw [if_neg q3] at hF
    cases hF
    simp -dsimp [h2, q3]
    repeat (refine chk.go (by first | omega | assumption | (simp_all; done) | (simp_all; omega)) ?_; simp -dsimp [h2, q3])

set_option maxRecDepth 100000 in
set_option maxHeartbeats 400000 in
theorem CC.impl_ctorsOf_l1 (B : Nat) (hB1 : 67108864 ≤ B) (hB2 : B ≤ 9223372036854775807) (t : Vl.Ty) (x : Vl.Data) : (∀ (i : Nat) (out : List Int) (o : List Int), F.impl_ctorsOf_l1 t x i out = some o → ∀ (c : Code), navO [1, 1, 0, 1, 0, 1, 0, 0] (bodyOf Try.f53) = some c → ∀ (Q : Exit → ASt → Prop), Q (.exit 0) ⟨[(5, .own 1 (List.length (α := Int) o))], [.dead, .elems 1 (List.map cI o)]⟩ → ALoopU Try.prog B 0 44 (hold c .mk) ⟨[(3, .ptr 0 0), (5, .own 1 (List.length (α := Int) out)), (16, .arr (List.map Vl.Ctor.c x.ctors)), (17, .lit (.int .i64 (x.ctors.length : Int))), (18, .lit (.int .i64 (i : Int)))], [.cells [.lit (.int .i64 t.data), .lit (.int .i64 t.index)], .elems 1 (List.map cI out)]⟩ (hold Q .mk)) := by
  refine F.impl_ctorsOf_l1.partial_correctness t x
    (fun i out o => ∀ (c : Code), navO [1, 1, 0, 1, 0, 1, 0, 0] (bodyOf Try.f53) = some c → ∀ (Q : Exit → ASt → Prop), Q (.exit 0) ⟨[(5, .own 1 (List.length (α := Int) o))], [.dead, .elems 1 (List.map cI o)]⟩ → ALoopU Try.prog B 0 44 (hold c .mk) ⟨[(3, .ptr 0 0), (5, .own 1 (List.length (α := Int) out)), (16, .arr (List.map Vl.Ctor.c x.ctors)), (17, .lit (.int .i64 (x.ctors.length : Int))), (18, .lit (.int .i64 (i : Int)))], [.cells [.lit (.int .i64 t.data), .lit (.int .i64 t.index)], .elems 1 (List.map cI out)]⟩ (hold Q .mk))
    ?_
  · intro _f_impl_ctorsOf_l1 ih_impl_ctorsOf_l1 i out o hF
    intro c hc Q hq
    obtain rfl : c = _ := navEq hc rfl
    refine ALoopU.know fun hk hs => ?_
    have b16 := hk 16
    simp -dsimp at b16
    have d1 := hs 1 _ rfl
    simp -dsimp [Blk.bnd] at d1
    clear hk hs
    refine ALoopU.enter ?_
    simp -dsimp
    repeat (refine chk.go (by first | omega | assumption | (simp_all; done) | (simp_all; omega)) ?_; simp -dsimp)
    refine abr.split (fun h4 => ?_) (fun h4 => ?_)
    · have q5 : (i < x.ctors.length) := by first | exact h4 | omega | (simpa using h4) | (simp at h4 ⊢; omega) | simp_all
      have z6 : ((i : Int) < (x.ctors.length : Int)) := by first | omega | simp_all
      rw [if_pos q5] at hF
      have hF := ob hF; obtain ⟨x7, e8, hF⟩ := hF
      have le8 := lt_of_get e8
      simp -dsimp [h4, z6, ↓e8]
      repeat (refine chk.go (by first | omega | assumption | (simp_all; done) | (simp_all; omega)) ?_; simp -dsimp [h4, z6, ↓e8])
      refine abr.split (fun h9 => ?_) (fun h9 => ?_)
      · have q10 : ¬ (t.index = 0) := by first | exact h9 | omega | (simpa using h9) | (simp at h9 ⊢; omega) | simp_all
        rw [if_neg q10] at hF
        simp -dsimp [h4, z6, ↓e8, h9, q10]
        repeat (refine chk.go (by first | omega | assumption | (simp_all; done) | (simp_all; omega)) ?_; simp -dsimp [h4, z6, ↓e8, h9, q10])
        refine abr.split (fun h11 => ?_) (fun h11 => ?_)
        · have q12 : ¬ (x7.index = 0) := by first | exact h11 | omega | (simpa using h11) | (simp at h11 ⊢; omega) | simp_all
          rw [if_neg q12] at hF
          simp -dsimp [h4, z6, ↓e8, h9, q10, h11, q12]
          repeat (refine chk.go (by first | omega | assumption | (simp_all; done) | (simp_all; omega)) ?_; simp -dsimp [h4, z6, ↓e8, h9, q10, h11, q12])
          refine abr.split (fun h13 => ?_) (fun h13 => ?_)
          · have q14 : (x7.index = t.index) := by first | exact h13 | omega | (simpa using h13) | (simp at h13 ⊢; omega) | simp_all
            rw [if_pos q14] at hF
            have hF := oc hF; obtain ⟨c15, hF⟩ := hF
            have w16 : IntKind.i64.wrap ((i : Int) + 1) = (i : Int) + 1 := wrap_in (by omega) (by omega)
            simp -dsimp [h4, z6, ↓e8, h9, q10, h11, q12, h13, w16]
            repeat (refine chk.go (by first | omega | assumption | (simp_all; done) | (simp_all; omega)) ?_; simp -dsimp [h4, z6, ↓e8, h9, q10, h11, q12, h13, w16])
            refine Again.go ⟨[(3, .ptr 0 0), (5, .own 1 (List.length (α := Int) (out ++ [(i : Int)]))), (16, .arr (List.map Vl.Ctor.c x.ctors)), (17, .lit (.int .i64 (x.ctors.length : Int))), (18, .lit (.int .i64 ((i + 1) : Int)))], [.cells [.lit (.int .i64 t.data), .lit (.int .i64 t.index)], .elems 1 (List.map cI (out ++ [(i : Int)]))]⟩ (Gh.to (by simp) (by first | (simp -dsimp; done) | (simp -dsimp [h4, z6, ↓e8, h9, q10, h11, q12, h13, w16]; done) | simp_all) (by first | (simp -dsimp; done) | (simp -dsimp [h4, z6, ↓e8, h9, q10, h11, q12, h13, w16]; done) | simp_all) (by first | (simp -dsimp; done) | (simp -dsimp [h4, z6, ↓e8, h9, q10, h11, q12, h13, w16]; done) | simp_all)) ?_
            exact (ih_impl_ctorsOf_l1 (i + 1) (out ++ [(i : Int)]) o hF) _ rfl _ hq
          · have q14 : ¬ (x7.index = t.index) := by first | exact h13 | omega | (simpa using h13) | (simp at h13 ⊢; omega) | simp_all
            rw [if_neg q14] at hF
            have w17 : IntKind.i64.wrap ((i : Int) + 1) = (i : Int) + 1 := wrap_in (by omega) (by omega)
            simp -dsimp [h4, z6, ↓e8, h9, q10, h11, q12, h13, q14, w17]
            repeat (refine chk.go (by first | omega | assumption | (simp_all; done) | (simp_all; omega)) ?_; simp -dsimp [h4, z6, ↓e8, h9, q10, h11, q12, h13, q14, w17])
            refine Again.go ⟨[(3, .ptr 0 0), (5, .own 1 (List.length (α := Int) out)), (16, .arr (List.map Vl.Ctor.c x.ctors)), (17, .lit (.int .i64 (x.ctors.length : Int))), (18, .lit (.int .i64 ((i + 1) : Int)))], [.cells [.lit (.int .i64 t.data), .lit (.int .i64 t.index)], .elems 1 (List.map cI out)]⟩ (Gh.to (by simp) (by first | (simp -dsimp; done) | (simp -dsimp [h4, z6, ↓e8, h9, q10, h11, q12, h13, q14, w17]; done) | simp_all) (by first | (simp -dsimp; done) | (simp -dsimp [h4, z6, ↓e8, h9, q10, h11, q12, h13, q14, w17]; done) | simp_all) (by first | (simp -dsimp; done) | (simp -dsimp [h4, z6, ↓e8, h9, q10, h11, q12, h13, q14, w17]; done) | simp_all)) ?_
            exact (ih_impl_ctorsOf_l1 (i + 1) out o hF) _ rfl _ hq
        · have q12 : (x7.index = 0) := by first | exact h11 | omega | (simpa using h11) | (simp at h11 ⊢; omega) | simp_all
          rw [if_pos q12] at hF
          have hF := oc hF; obtain ⟨c18, hF⟩ := hF
          have w19 : IntKind.i64.wrap ((i : Int) + 1) = (i : Int) + 1 := wrap_in (by omega) (by omega)
          simp -dsimp [h4, z6, ↓e8, h9, q10, h11, q12, w19]
          repeat (refine chk.go (by first | omega | assumption | (simp_all; done) | (simp_all; omega)) ?_; simp -dsimp [h4, z6, ↓e8, h9, q10, h11, q12, w19])
          refine Again.go ⟨[(3, .ptr 0 0), (5, .own 1 (List.length (α := Int) (out ++ [(i : Int)]))), (16, .arr (List.map Vl.Ctor.c x.ctors)), (17, .lit (.int .i64 (x.ctors.length : Int))), (18, .lit (.int .i64 ((i + 1) : Int)))], [.cells [.lit (.int .i64 t.data), .lit (.int .i64 t.index)], .elems 1 (List.map cI (out ++ [(i : Int)]))]⟩ (Gh.to (by simp) (by first | (simp -dsimp; done) | (simp -dsimp [h4, z6, ↓e8, h9, q10, h11, q12, w19]; done) | simp_all) (by first | (simp -dsimp; done) | (simp -dsimp [h4, z6, ↓e8, h9, q10, h11, q12, w19]; done) | simp_all) (by first | (simp -dsimp; done) | (simp -dsimp [h4, z6, ↓e8, h9, q10, h11, q12, w19]; done) | simp_all)) ?_
          exact (ih_impl_ctorsOf_l1 (i + 1) (out ++ [(i : Int)]) o hF) _ rfl _ hq
      · have q10 : (t.index = 0) := by first | exact h9 | omega | (simpa using h9) | (simp at h9 ⊢; omega) | simp_all
        rw [if_pos q10] at hF
        have hF := oc hF; obtain ⟨c20, hF⟩ := hF
        have w21 : IntKind.i64.wrap ((i : Int) + 1) = (i : Int) + 1 := wrap_in (by omega) (by omega)
        simp -dsimp [h4, z6, ↓e8, h9, q10, w21]
        repeat (refine chk.go (by first | omega | assumption | (simp_all; done) | (simp_all; omega)) ?_; simp -dsimp [h4, z6, ↓e8, h9, q10, w21])
        refine Again.go ⟨[(3, .ptr 0 0), (5, .own 1 (List.length (α := Int) (out ++ [(i : Int)]))), (16, .arr (List.map Vl.Ctor.c x.ctors)), (17, .lit (.int .i64 (x.ctors.length : Int))), (18, .lit (.int .i64 ((i + 1) : Int)))], [.cells [.lit (.int .i64 t.data), .lit (.int .i64 t.index)], .elems 1 (List.map cI (out ++ [(i : Int)]))]⟩ (Gh.to (by simp) (by first | (simp -dsimp; done) | (simp -dsimp [h4, z6, ↓e8, h9, q10, w21]; done) | simp_all) (by first | (simp -dsimp; done) | (simp -dsimp [h4, z6, ↓e8, h9, q10, w21]; done) | simp_all) (by first | (simp -dsimp; done) | (simp -dsimp [h4, z6, ↓e8, h9, q10, w21]; done) | simp_all)) ?_
        exact (ih_impl_ctorsOf_l1 (i + 1) (out ++ [(i : Int)]) o hF) _ rfl _ hq
    · have q5 : ¬ (i < x.ctors.length) := by first | exact h4 | omega | (simpa using h4) | (simp at h4 ⊢; omega) | simp_all
      have z6 : ¬ ((i : Int) < (x.ctors.length : Int)) := by first | omega | simp_all
      rw [if_neg q5] at hF
      cases hF
      simp -dsimp [h4, q5, z6]
      repeat (refine chk.go (by first | omega | assumption | (simp_all; done) | (simp_all; omega)) ?_; simp -dsimp [h4, q5, z6])
      refine Leave.go ⟨[(5, .own 1 (List.length (α := Int) out))], [.dead, .elems 1 (List.map cI out)]⟩ (Gh.to (by simp) (by first | (simp -dsimp; done) | (simp -dsimp [h4, q5, z6]; done) | simp_all) (by first | (simp -dsimp; done) | (simp -dsimp [h4, q5, z6]; done) | simp_all) (by first | (simp -dsimp; done) | (simp -dsimp [h4, q5, z6]; done) | simp_all)) ?_
      exact hq

theorem C.impl_ctorsOf_l1 (B : Nat) (hB1 : 67108864 ≤ B) (hB2 : B ≤ 9223372036854775807) (t : Vl.Ty) (x : Vl.Data) (i : Nat) (out : List Int) (o : List Int) (hF : F.impl_ctorsOf_l1 t x i out = some o) : ∀ (c : Code), navO [1, 1, 0, 1, 0, 1, 0, 0] (bodyOf Try.f53) = some c → ∀ (Q : Exit → ASt → Prop), Q (.exit 0) ⟨[(5, .own 1 (List.length (α := Int) o))], [.dead, .elems 1 (List.map cI o)]⟩ → ALoopU Try.prog B 0 44 (hold c .mk) ⟨[(3, .ptr 0 0), (5, .own 1 (List.length (α := Int) out)), (16, .arr (List.map Vl.Ctor.c x.ctors)), (17, .lit (.int .i64 (x.ctors.length : Int))), (18, .lit (.int .i64 (i : Int)))], [.cells [.lit (.int .i64 t.data), .lit (.int .i64 t.index)], .elems 1 (List.map cI out)]⟩ (hold Q .mk) :=
  (CC.impl_ctorsOf_l1 B hB1 hB2 t x) i out o hF

set_option maxRecDepth 100000 in
set_option maxHeartbeats 400000 in
theorem C.impl_ctorsOf (B : Nat) (hB1 : 67108864 ≤ B) (hB2 : B ≤ 9223372036854775807) (w : List Vl.Data) (t : Vl.Ty) (r : List Int) (hF : F.impl_ctorsOf w t = some r) : PureCall Try.prog B 53 [.arr (List.map Vl.Data.c w), .agg [.lit (.int .i64 t.data), .lit (.int .i64 t.index)]] (.arr (List.map cI r)) := by
  unfold F.impl_ctorsOf at hF
  refine PureCall.enterLe Try.func53 (by kernel_rfl) rfl Try.ntmps53 (by simp) (by simp) ?_
  simp -dsimp
  repeat (refine chk.go (by first | omega | assumption | (simp_all; done) | (simp_all; omega)) ?_; simp -dsimp)
  refine abr.split (fun h1 => ?_) (fun h1 => ?_)
  · have q2 : ¬ (t.data = (-1)) := by first | exact h1 | omega | (simpa using h1) | (simp at h1 ⊢; omega) | simp_all
    rw [if_neg q2] at hF
    have hF := ob hF; obtain ⟨x, e3a, hF⟩ := hF
    have e3a := at_some e3a; obtain ⟨ne3, e3⟩ := e3a
    have le3 := lt_of_get e3
    simp -dsimp [h1, q2, ↓e3]
    repeat (refine chk.go (by first | omega | assumption | (simp_all; done) | (simp_all; omega)) ?_; simp -dsimp [h1, q2, ↓e3])
    have hF := ob hF; obtain ⟨o, ho22, hF⟩ := hF
    refine ALoop.goU ⟨[(3, .ptr 0 0), (5, .own 1 (List.length (α := Int) [])), (16, .arr (List.map Vl.Ctor.c x.ctors)), (17, .lit (.int .i64 (x.ctors.length : Int))), (18, .lit (.int .i64 (0 : Int)))], [.cells [.lit (.int .i64 t.data), .lit (.int .i64 t.index)], .elems 1 (List.map cI [])]⟩ ((Gh.nil 5 1 (by simp -dsimp)).trans (Gh.to (by simp) (by first | (simp -dsimp; done) | (simp -dsimp [h1, q2, ↓e3]; done) | simp_all) (by first | (simp -dsimp; done) | (simp -dsimp [h1, q2, ↓e3]; done) | simp_all) (by first | (simp -dsimp; done) | (simp -dsimp [h1, q2, ↓e3]; done) | simp_all))) ?_
    refine (C.impl_ctorsOf_l1 B hB1 hB2 t x 0 [] o ho22) _ rfl _ ?_
    cases hF
    simp -dsimp
    repeat (refine chk.go (by first | omega | assumption | (simp_all; done) | (simp_all; omega)) ?_; simp -dsimp)
  · have q2 : (t.data = (-1)) := by first | exact h1 | omega | (simpa using h1) | (simp at h1 ⊢; omega) | simp_all
    rw [if_pos q2] at hF
    cases hF
    simp -dsimp [h1, q2]
    repeat (refine chk.go (by first | omega | assumption | (simp_all; done) | (simp_all; omega)) ?_; simp -dsimp [h1, q2])

set_option maxRecDepth 100000 in
set_option maxHeartbeats 400000 in
theorem CC.slices_Index_int_l1 (B : Nat) (hB1 : 67108864 ≤ B) (hB2 : B ≤ 9223372036854775807) (s : List Int) (v : Int) : (∀ (i : Nat) (o : Lo Int Unit), F.slices_Index_int_l1 s v i = some o → ∀ (c : Code), navO [1, 0, 1, 0, 0] (bodyOf Try.f75) = some c → ∀ (Q : Exit → ASt → Prop), o.post (fun r => ∀ st, Post Try.prog Try.f75 (fun r' _ => r'.le (.lit (.int .i64 r))) .ret st → Q .ret st) (fun s => Q (.exit 0) ⟨[], []⟩) → ALoopU Try.prog B 0 19 (hold c .mk) ⟨[(0, .arr (List.map cI s)), (1, .lit (.int .i64 v)), (7, .lit (.int .i64 (s.length : Int))), (8, .lit (.int .i64 (i : Int)))], []⟩ (hold Q .mk)) := by
  refine F.slices_Index_int_l1.partial_correctness s v
    (fun i o => ∀ (c : Code), navO [1, 0, 1, 0, 0] (bodyOf Try.f75) = some c → ∀ (Q : Exit → ASt → Prop), o.post (fun r => ∀ st, Post Try.prog Try.f75 (fun r' _ => r'.le (.lit (.int .i64 r))) .ret st → Q .ret st) (fun s => Q (.exit 0) ⟨[], []⟩) → ALoopU Try.prog B 0 19 (hold c .mk) ⟨[(0, .arr (List.map cI s)), (1, .lit (.int .i64 v)), (7, .lit (.int .i64 (s.length : Int))), (8, .lit (.int .i64 (i : Int)))], []⟩ (hold Q .mk))
    ?_
  · intro _f_slices_Index_int_l1 ih_slices_Index_int_l1 i o hF
    intro c hc Q hq
    obtain rfl : c = _ := navEq hc rfl
    refine ALoopU.know fun hk hs => ?_
    have b0 := hk 0
    simp -dsimp at b0
    clear hk hs
    refine ALoopU.enter ?_
    simp -dsimp
    repeat (refine chk.go (by first | omega | assumption | (simp_all; done) | (simp_all; omega)) ?_; simp -dsimp)
    refine abr.split (fun h1 => ?_) (fun h1 => ?_)
    · have q2 : (i < s.length) := by first | exact h1 | omega | (simpa using h1) | (simp at h1 ⊢; omega) | simp_all
      have z3 : ((i : Int) < (s.length : Int)) := by first | omega | simp_all
      rw [if_pos q2] at hF
      have hF := ob hF; obtain ⟨x, e4, hF⟩ := hF
      have le4 := lt_of_get e4
      simp -dsimp [h1, z3, ↓e4]
      repeat (refine chk.go (by first | omega | assumption | (simp_all; done) | (simp_all; omega)) ?_; simp -dsimp [h1, z3, ↓e4])
      refine abr.split (fun h5 => ?_) (fun h5 => ?_)
      · have q6 : (v = x) := by first | exact h5 | omega | (simpa using h5) | (simp at h5 ⊢; omega) | simp_all
        rw [if_pos q6] at hF
        cases hF
        simp -dsimp [h1, z3, ↓e4, h5]
        repeat (refine chk.go (by first | omega | assumption | (simp_all; done) | (simp_all; omega)) ?_; simp -dsimp [h1, z3, ↓e4, h5])
        refine Leave.go _ (Gh.refl _) (hq _ ?_)
        simp -dsimp [h1, z3, ↓e4, h5]
        repeat (refine chk.go (by first | omega | assumption | (simp_all; done) | (simp_all; omega)) ?_; simp -dsimp [h1, z3, ↓e4, h5])
      · have q6 : ¬ (v = x) := by first | exact h5 | omega | (simpa using h5) | (simp at h5 ⊢; omega) | simp_all
        rw [if_neg q6] at hF
        have w7 : IntKind.i64.wrap ((i : Int) + 1) = (i : Int) + 1 := wrap_in (by omega) (by omega)
        simp -dsimp [h1, z3, ↓e4, h5, q6, w7]
        repeat (refine chk.go (by first | omega | assumption | (simp_all; done) | (simp_all; omega)) ?_; simp -dsimp [h1, z3, ↓e4, h5, q6, w7])
        refine Again.go ⟨[(0, .arr (List.map cI s)), (1, .lit (.int .i64 v)), (7, .lit (.int .i64 (s.length : Int))), (8, .lit (.int .i64 ((i + 1) : Int)))], []⟩ (Gh.to (by simp) (by first | (simp -dsimp; done) | (simp -dsimp [h1, z3, ↓e4, h5, q6, w7]; done) | simp_all) (by first | (simp -dsimp; done) | (simp -dsimp [h1, z3, ↓e4, h5, q6, w7]; done) | simp_all) (by first | (simp -dsimp; done) | (simp -dsimp [h1, z3, ↓e4, h5, q6, w7]; done) | simp_all)) ?_
        exact (ih_slices_Index_int_l1 (i + 1) o hF) _ rfl _ hq
    · have q2 : ¬ (i < s.length) := by first | exact h1 | omega | (simpa using h1) | (simp at h1 ⊢; omega) | simp_all
      have z3 : ¬ ((i : Int) < (s.length : Int)) := by first | omega | simp_all
      rw [if_neg q2] at hF
      cases hF
      simp -dsimp [h1, q2, z3]
      repeat (refine chk.go (by first | omega | assumption | (simp_all; done) | (simp_all; omega)) ?_; simp -dsimp [h1, q2, z3])
      refine Leave.go ⟨[], []⟩ (Gh.to (by simp) (by first | (simp -dsimp; done) | (simp -dsimp [h1, q2, z3]; done) | simp_all) (by first | (simp -dsimp; done) | (simp -dsimp [h1, q2, z3]; done) | simp_all) (by first | (simp -dsimp; done) | (simp -dsimp [h1, q2, z3]; done) | simp_all)) ?_
      exact hq

theorem C.slices_Index_int_l1 (B : Nat) (hB1 : 67108864 ≤ B) (hB2 : B ≤ 9223372036854775807) (s : List Int) (v : Int) (i : Nat) (o : Lo Int Unit) (hF : F.slices_Index_int_l1 s v i = some o) : ∀ (c : Code), navO [1, 0, 1, 0, 0] (bodyOf Try.f75) = some c → ∀ (Q : Exit → ASt → Prop), o.post (fun r => ∀ st, Post Try.prog Try.f75 (fun r' _ => r'.le (.lit (.int .i64 r))) .ret st → Q .ret st) (fun s => Q (.exit 0) ⟨[], []⟩) → ALoopU Try.prog B 0 19 (hold c .mk) ⟨[(0, .arr (List.map cI s)), (1, .lit (.int .i64 v)), (7, .lit (.int .i64 (s.length : Int))), (8, .lit (.int .i64 (i : Int)))], []⟩ (hold Q .mk) :=
  (CC.slices_Index_int_l1 B hB1 hB2 s v) i o hF

set_option maxRecDepth 100000 in
set_option maxHeartbeats 400000 in
theorem C.slices_Index_int (B : Nat) (hB1 : 67108864 ≤ B) (hB2 : B ≤ 9223372036854775807) (s : List Int) (v : Int) (r : Int) (hF : F.slices_Index_int s v = some r) : PureCall Try.prog B 75 [.arr (List.map cI s), .lit (.int .i64 v)] (.lit (.int .i64 r)) := by
  unfold F.slices_Index_int at hF
  refine PureCall.enterLe Try.func75 (by kernel_rfl) rfl Try.ntmps75 (by simp) (by simp) ?_
  simp -dsimp
  repeat (refine chk.go (by first | omega | assumption | (simp_all; done) | (simp_all; omega)) ?_; simp -dsimp)
  have hF := ob hF; obtain ⟨o, ho8, hF⟩ := hF
  refine ALoop.goU ⟨[(0, .arr (List.map cI s)), (1, .lit (.int .i64 v)), (7, .lit (.int .i64 (s.length : Int))), (8, .lit (.int .i64 (0 : Int)))], []⟩ (Gh.to (by simp) (by simp -dsimp) (by simp -dsimp) (by simp -dsimp)) ?_
  refine (C.slices_Index_int_l1 B hB1 hB2 s v 0 o ho8) _ rfl _ ?_
  rcases o with r0 | s9
  · dsimp only at hF
    cases hF
    intro st h
    simpa using h
  · dsimp only at hF
    cases hF
    simp -dsimp
    repeat (refine chk.go (by first | omega | assumption | (simp_all; done) | (simp_all; omega)) ?_; simp -dsimp)

set_option maxRecDepth 100000 in
set_option maxHeartbeats 400000 in
theorem C.slices_Contains_int (B : Nat) (hB1 : 67108864 ≤ B) (hB2 : B ≤ 9223372036854775807) (s : List Int) (v : Int) (r : Bool) (hF : F.slices_Contains_int s v = some r) : PureCall Try.prog B 52 [.arr (List.map cI s), .lit (.int .i64 v)] (.lit (.bool r)) := by
  unfold F.slices_Contains_int at hF
  refine PureCall.enterLe Try.func52 (by kernel_rfl) rfl Try.ntmps52 (by simp) (by simp) ?_
  simp -dsimp
  repeat (refine chk.go (by first | omega | assumption | (simp_all; done) | (simp_all; omega)) ?_; simp -dsimp)
  have hF := ob hF; obtain ⟨v1, e2, hF⟩ := hF
  refine ((C.slices_Index_int B hB1 hB2 s v v1 e2)).goW (by simp) (by simp) ?_
  cases hF
  simp -dsimp
  repeat (refine chk.go (by first | omega | assumption | (simp_all; done) | (simp_all; omega)) ?_; simp -dsimp)

set_option maxRecDepth 100000 in
set_option maxHeartbeats 400000 in
theorem CC.impl_argTypes_l1 (B : Nat) (hB1 : 67108864 ≤ B) (hB2 : B ≤ 9223372036854775807) (t : Vl.Ty) (x2 : Vl.Ctor) : (∀ (i : Nat) (out : List Vl.Ty) (o : List Vl.Ty), F.impl_argTypes_l1 t x2 i out = some o → ∀ (c : Code), navO [1, 1, 1, 1, 1, 0, 1, 0, 0] (bodyOf Try.f54) = some c → ∀ (Q : Exit → ASt → Prop), Q (.exit 0) ⟨[(9, .own 2 (List.length (α := Vl.Ty) o))], [.dead, .dead, .elems 2 (List.map Vl.Ty.c o)]⟩ → ALoopU Try.prog B 0 45 (hold c .mk) ⟨[(8, .lit (.int .i64 t.index)), (9, .own 2 (List.length (α := Vl.Ty) out)), (28, .arr (List.map Vl.Ty.c x2.args)), (29, .lit (.int .i64 (x2.args.length : Int))), (30, .lit (.int .i64 (i : Int)))], [.dead, .dead, .elems 2 (List.map Vl.Ty.c out)]⟩ (hold Q .mk)) := by
  refine F.impl_argTypes_l1.partial_correctness t x2
    (fun i out o => ∀ (c : Code), navO [1, 1, 1, 1, 1, 0, 1, 0, 0] (bodyOf Try.f54) = some c → ∀ (Q : Exit → ASt → Prop), Q (.exit 0) ⟨[(9, .own 2 (List.length (α := Vl.Ty) o))], [.dead, .dead, .elems 2 (List.map Vl.Ty.c o)]⟩ → ALoopU Try.prog B 0 45 (hold c .mk) ⟨[(8, .lit (.int .i64 t.index)), (9, .own 2 (List.length (α := Vl.Ty) out)), (28, .arr (List.map Vl.Ty.c x2.args)), (29, .lit (.int .i64 (x2.args.length : Int))), (30, .lit (.int .i64 (i : Int)))], [.dead, .dead, .elems 2 (List.map Vl.Ty.c out)]⟩ (hold Q .mk))
    ?_
  · intro _f_impl_argTypes_l1 ih_impl_argTypes_l1 i out o hF
    intro c hc Q hq
    obtain rfl : c = _ := navEq hc rfl
    refine ALoopU.know fun hk hs => ?_
    have b28 := hk 28
    simp -dsimp at b28
    have d2 := hs 2 _ rfl
    simp -dsimp [Blk.bnd] at d2
    clear hk hs
    refine ALoopU.enter ?_
    simp -dsimp
    repeat (refine chk.go (by first | omega | assumption | (simp_all; done) | (simp_all; omega)) ?_; simp -dsimp)
    refine abr.split (fun h6 => ?_) (fun h6 => ?_)
    · have q7 : (i < x2.args.length) := by first | exact h6 | omega | (simpa using h6) | (simp at h6 ⊢; omega) | simp_all
      have z8 : ((i : Int) < (x2.args.length : Int)) := by first | omega | simp_all
      rw [if_pos q7] at hF
      have hF := ob hF; obtain ⟨x9, e10, hF⟩ := hF
      have le10 := lt_of_get e10
      simp -dsimp [h6, z8, ↓e10]
      repeat (refine chk.go (by first | omega | assumption | (simp_all; done) | (simp_all; omega)) ?_; simp -dsimp [h6, z8, ↓e10])
      refine abr.split (fun h11 => ?_) (fun h11 => ?_)
      · have q12 : (x9.index = (-1)) := by first | exact h11 | omega | (simpa using h11) | (simp at h11 ⊢; omega) | simp_all
        rw [if_pos q12] at hF
        have hF := oc hF; obtain ⟨c13, hF⟩ := hF
        have w14 : IntKind.i64.wrap ((i : Int) + 1) = (i : Int) + 1 := wrap_in (by omega) (by omega)
        simp -dsimp [h6, z8, ↓e10, h11, w14]
        repeat (refine chk.go (by first | omega | assumption | (simp_all; done) | (simp_all; omega)) ?_; simp -dsimp [h6, z8, ↓e10, h11, w14])
        refine Again.go ⟨[(8, .lit (.int .i64 t.index)), (9, .own 2 (List.length (α := Vl.Ty) (out ++ [(⟨x9.data, t.index⟩ : Vl.Ty)]))), (28, .arr (List.map Vl.Ty.c x2.args)), (29, .lit (.int .i64 (x2.args.length : Int))), (30, .lit (.int .i64 ((i + 1) : Int)))], [.dead, .dead, .elems 2 (List.map Vl.Ty.c (out ++ [(⟨x9.data, t.index⟩ : Vl.Ty)]))]⟩ (Gh.to (by simp) (by first | (simp -dsimp; done) | (simp -dsimp [h6, z8, ↓e10, h11, w14]; done) | simp_all) (by first | (simp -dsimp; done) | (simp -dsimp [h6, z8, ↓e10, h11, w14]; done) | simp_all) (by first | (simp -dsimp; done) | (simp -dsimp [h6, z8, ↓e10, h11, w14]; done) | simp_all)) ?_
        exact (ih_impl_argTypes_l1 (i + 1) (out ++ [(⟨x9.data, t.index⟩ : Vl.Ty)]) o hF) _ rfl _ hq
      · have q12 : ¬ (x9.index = (-1)) := by first | exact h11 | omega | (simpa using h11) | (simp at h11 ⊢; omega) | simp_all
        rw [if_neg q12] at hF
        have hF := oc hF; obtain ⟨c15, hF⟩ := hF
        have w16 : IntKind.i64.wrap ((i : Int) + 1) = (i : Int) + 1 := wrap_in (by omega) (by omega)
        simp -dsimp [h6, z8, ↓e10, h11, q12, w16]
        repeat (refine chk.go (by first | omega | assumption | (simp_all; done) | (simp_all; omega)) ?_; simp -dsimp [h6, z8, ↓e10, h11, q12, w16])
        refine Again.go ⟨[(8, .lit (.int .i64 t.index)), (9, .own 2 (List.length (α := Vl.Ty) (out ++ [x9]))), (28, .arr (List.map Vl.Ty.c x2.args)), (29, .lit (.int .i64 (x2.args.length : Int))), (30, .lit (.int .i64 ((i + 1) : Int)))], [.dead, .dead, .elems 2 (List.map Vl.Ty.c (out ++ [x9]))]⟩ (Gh.to (by simp) (by first | (simp -dsimp; done) | (simp -dsimp [h6, z8, ↓e10, h11, q12, w16]; done) | simp_all) (by first | (simp -dsimp; done) | (simp -dsimp [h6, z8, ↓e10, h11, q12, w16]; done) | simp_all) (by first | (simp -dsimp; done) | (simp -dsimp [h6, z8, ↓e10, h11, q12, w16]; done) | simp_all)) ?_
        exact (ih_impl_argTypes_l1 (i + 1) (out ++ [x9]) o hF) _ rfl _ hq
    · have q7 : ¬ (i < x2.args.length) := by first | exact h6 | omega | (simpa using h6) | (simp at h6 ⊢; omega) | simp_all
      have z8 : ¬ ((i : Int) < (x2.args.length : Int)) := by first | omega | simp_all
      rw [if_neg q7] at hF
      cases hF
      simp -dsimp [h6, q7, z8]
      repeat (refine chk.go (by first | omega | assumption | (simp_all; done) | (simp_all; omega)) ?_; simp -dsimp [h6, q7, z8])
      refine Leave.go ⟨[(9, .own 2 (List.length (α := Vl.Ty) out))], [.dead, .dead, .elems 2 (List.map Vl.Ty.c out)]⟩ (Gh.to (by simp) (by first | (simp -dsimp; done) | (simp -dsimp [h6, q7, z8]; done) | simp_all) (by first | (simp -dsimp; done) | (simp -dsimp [h6, q7, z8]; done) | simp_all) (by first | (simp -dsimp; done) | (simp -dsimp [h6, q7, z8]; done) | simp_all)) ?_
      exact hq

theorem C.impl_argTypes_l1 (B : Nat) (hB1 : 67108864 ≤ B) (hB2 : B ≤ 9223372036854775807) (t : Vl.Ty) (x2 : Vl.Ctor) (i : Nat) (out : List Vl.Ty) (o : List Vl.Ty) (hF : F.impl_argTypes_l1 t x2 i out = some o) : ∀ (c : Code), navO [1, 1, 1, 1, 1, 0, 1, 0, 0] (bodyOf Try.f54) = some c → ∀ (Q : Exit → ASt → Prop), Q (.exit 0) ⟨[(9, .own 2 (List.length (α := Vl.Ty) o))], [.dead, .dead, .elems 2 (List.map Vl.Ty.c o)]⟩ → ALoopU Try.prog B 0 45 (hold c .mk) ⟨[(8, .lit (.int .i64 t.index)), (9, .own 2 (List.length (α := Vl.Ty) out)), (28, .arr (List.map Vl.Ty.c x2.args)), (29, .lit (.int .i64 (x2.args.length : Int))), (30, .lit (.int .i64 (i : Int)))], [.dead, .dead, .elems 2 (List.map Vl.Ty.c out)]⟩ (hold Q .mk) :=
  (CC.impl_argTypes_l1 B hB1 hB2 t x2) i out o hF

set_option maxRecDepth 100000 in
set_option maxHeartbeats 400000 in
theorem CC.impl_argTypes_l2 (B : Nat) (hB1 : 67108864 ≤ B) (hB2 : B ≤ 9223372036854775807) (x2 : Vl.Ctor) : (∀ (i18 : Nat) (out19 : List Vl.Ty) (o : List Vl.Ty), F.impl_argTypes_l2 x2 i18 out19 = some o → ∀ (c : Code), navO [1, 1, 1, 1, 1, 0, 1, 0, 0] (bodyOf Try.f54) = some c → ∀ (Q : Exit → ASt → Prop), Q (.exit 0) ⟨[(9, .own 2 (List.length (α := Vl.Ty) o))], [.dead, .dead, .elems 2 (List.map Vl.Ty.c o)]⟩ → ALoopU Try.prog B 0 45 (hold c .mk) ⟨[(8, .lit (.int .i64 x2.index)), (9, .own 2 (List.length (α := Vl.Ty) out19)), (28, .arr (List.map Vl.Ty.c x2.args)), (29, .lit (.int .i64 (x2.args.length : Int))), (30, .lit (.int .i64 (i18 : Int)))], [.dead, .dead, .elems 2 (List.map Vl.Ty.c out19)]⟩ (hold Q .mk)) := by
  refine F.impl_argTypes_l2.partial_correctness x2
    (fun i18 out19 o => ∀ (c : Code), navO [1, 1, 1, 1, 1, 0, 1, 0, 0] (bodyOf Try.f54) = some c → ∀ (Q : Exit → ASt → Prop), Q (.exit 0) ⟨[(9, .own 2 (List.length (α := Vl.Ty) o))], [.dead, .dead, .elems 2 (List.map Vl.Ty.c o)]⟩ → ALoopU Try.prog B 0 45 (hold c .mk) ⟨[(8, .lit (.int .i64 x2.index)), (9, .own 2 (List.length (α := Vl.Ty) out19)), (28, .arr (List.map Vl.Ty.c x2.args)), (29, .lit (.int .i64 (x2.args.length : Int))), (30, .lit (.int .i64 (i18 : Int)))], [.dead, .dead, .elems 2 (List.map Vl.Ty.c out19)]⟩ (hold Q .mk))
    ?_
  · intro _f_impl_argTypes_l2 ih_impl_argTypes_l2 i18 out19 o hF
    intro c hc Q hq
    obtain rfl : c = _ := navEq hc rfl
    refine ALoopU.know fun hk hs => ?_
    have b28 := hk 28
    simp -dsimp at b28
    have d2 := hs 2 _ rfl
    simp -dsimp [Blk.bnd] at d2
    clear hk hs
    refine ALoopU.enter ?_
    simp -dsimp
    repeat (refine chk.go (by first | omega | assumption | (simp_all; done) | (simp_all; omega)) ?_; simp -dsimp)
    refine abr.split (fun h20 => ?_) (fun h20 => ?_)
    · have q21 : (i18 < x2.args.length) := by first | exact h20 | omega | (simpa using h20) | (simp at h20 ⊢; omega) | simp_all
      have z22 : ((i18 : Int) < (x2.args.length : Int)) := by first | omega | simp_all
      rw [if_pos q21] at hF
      have hF := ob hF; obtain ⟨x23, e24, hF⟩ := hF
      have le24 := lt_of_get e24
      simp -dsimp [h20, z22, ↓e24]
      repeat (refine chk.go (by first | omega | assumption | (simp_all; done) | (simp_all; omega)) ?_; simp -dsimp [h20, z22, ↓e24])
      refine abr.split (fun h25 => ?_) (fun h25 => ?_)
      · have q26 : (x23.index = (-1)) := by first | exact h25 | omega | (simpa using h25) | (simp at h25 ⊢; omega) | simp_all
        rw [if_pos q26] at hF
        have hF := oc hF; obtain ⟨c27, hF⟩ := hF
        have w28 : IntKind.i64.wrap ((i18 : Int) + 1) = (i18 : Int) + 1 := wrap_in (by omega) (by omega)
        simp -dsimp [h20, z22, ↓e24, h25, w28]
        repeat (refine chk.go (by first | omega | assumption | (simp_all; done) | (simp_all; omega)) ?_; simp -dsimp [h20, z22, ↓e24, h25, w28])
        refine Again.go ⟨[(8, .lit (.int .i64 x2.index)), (9, .own 2 (List.length (α := Vl.Ty) (out19 ++ [(⟨x23.data, x2.index⟩ : Vl.Ty)]))), (28, .arr (List.map Vl.Ty.c x2.args)), (29, .lit (.int .i64 (x2.args.length : Int))), (30, .lit (.int .i64 ((i18 + 1) : Int)))], [.dead, .dead, .elems 2 (List.map Vl.Ty.c (out19 ++ [(⟨x23.data, x2.index⟩ : Vl.Ty)]))]⟩ (Gh.to (by simp) (by first | (simp -dsimp; done) | (simp -dsimp [h20, z22, ↓e24, h25, w28]; done) | simp_all) (by first | (simp -dsimp; done) | (simp -dsimp [h20, z22, ↓e24, h25, w28]; done) | simp_all) (by first | (simp -dsimp; done) | (simp -dsimp [h20, z22, ↓e24, h25, w28]; done) | simp_all)) ?_
        exact (ih_impl_argTypes_l2 (i18 + 1) (out19 ++ [(⟨x23.data, x2.index⟩ : Vl.Ty)]) o hF) _ rfl _ hq
      · have q26 : ¬ (x23.index = (-1)) := by first | exact h25 | omega | (simpa using h25) | (simp at h25 ⊢; omega) | simp_all
        rw [if_neg q26] at hF
        have hF := oc hF; obtain ⟨c29, hF⟩ := hF
        have w30 : IntKind.i64.wrap ((i18 : Int) + 1) = (i18 : Int) + 1 := wrap_in (by omega) (by omega)
        simp -dsimp [h20, z22, ↓e24, h25, q26, w30]
        repeat (refine chk.go (by first | omega | assumption | (simp_all; done) | (simp_all; omega)) ?_; simp -dsimp [h20, z22, ↓e24, h25, q26, w30])
        refine Again.go ⟨[(8, .lit (.int .i64 x2.index)), (9, .own 2 (List.length (α := Vl.Ty) (out19 ++ [x23]))), (28, .arr (List.map Vl.Ty.c x2.args)), (29, .lit (.int .i64 (x2.args.length : Int))), (30, .lit (.int .i64 ((i18 + 1) : Int)))], [.dead, .dead, .elems 2 (List.map Vl.Ty.c (out19 ++ [x23]))]⟩ (Gh.to (by simp) (by first | (simp -dsimp; done) | (simp -dsimp [h20, z22, ↓e24, h25, q26, w30]; done) | simp_all) (by first | (simp -dsimp; done) | (simp -dsimp [h20, z22, ↓e24, h25, q26, w30]; done) | simp_all) (by first | (simp -dsimp; done) | (simp -dsimp [h20, z22, ↓e24, h25, q26, w30]; done) | simp_all)) ?_
        exact (ih_impl_argTypes_l2 (i18 + 1) (out19 ++ [x23]) o hF) _ rfl _ hq
    · have q21 : ¬ (i18 < x2.args.length) := by first | exact h20 | omega | (simpa using h20) | (simp at h20 ⊢; omega) | simp_all
      have z22 : ¬ ((i18 : Int) < (x2.args.length : Int)) := by first | omega | simp_all
      rw [if_neg q21] at hF
      cases hF
      simp -dsimp [h20, q21, z22]
      repeat (refine chk.go (by first | omega | assumption | (simp_all; done) | (simp_all; omega)) ?_; simp -dsimp [h20, q21, z22])
      refine Leave.go ⟨[(9, .own 2 (List.length (α := Vl.Ty) out19))], [.dead, .dead, .elems 2 (List.map Vl.Ty.c out19)]⟩ (Gh.to (by simp) (by first | (simp -dsimp; done) | (simp -dsimp [h20, q21, z22]; done) | simp_all) (by first | (simp -dsimp; done) | (simp -dsimp [h20, q21, z22]; done) | simp_all) (by first | (simp -dsimp; done) | (simp -dsimp [h20, q21, z22]; done) | simp_all)) ?_
      exact hq

theorem C.impl_argTypes_l2 (B : Nat) (hB1 : 67108864 ≤ B) (hB2 : B ≤ 9223372036854775807) (x2 : Vl.Ctor) (i18 : Nat) (out19 : List Vl.Ty) (o : List Vl.Ty) (hF : F.impl_argTypes_l2 x2 i18 out19 = some o) : ∀ (c : Code), navO [1, 1, 1, 1, 1, 0, 1, 0, 0] (bodyOf Try.f54) = some c → ∀ (Q : Exit → ASt → Prop), Q (.exit 0) ⟨[(9, .own 2 (List.length (α := Vl.Ty) o))], [.dead, .dead, .elems 2 (List.map Vl.Ty.c o)]⟩ → ALoopU Try.prog B 0 45 (hold c .mk) ⟨[(8, .lit (.int .i64 x2.index)), (9, .own 2 (List.length (α := Vl.Ty) out19)), (28, .arr (List.map Vl.Ty.c x2.args)), (29, .lit (.int .i64 (x2.args.length : Int))), (30, .lit (.int .i64 (i18 : Int)))], [.dead, .dead, .elems 2 (List.map Vl.Ty.c out19)]⟩ (hold Q .mk) :=
  (CC.impl_argTypes_l2 B hB1 hB2 x2) i18 out19 o hF

set_option maxRecDepth 100000 in
set_option maxHeartbeats 400000 in
theorem C.impl_argTypes (B : Nat) (hB1 : 67108864 ≤ B) (hB2 : B ≤ 9223372036854775807) (w : List Vl.Data) (t : Vl.Ty) (ctor : Int) (r : List Vl.Ty) (hF : F.impl_argTypes w t ctor = some r) : PureCall Try.prog B 54 [.arr (List.map Vl.Data.c w), .agg [.lit (.int .i64 t.data), .lit (.int .i64 t.index)], .lit (.int .i64 ctor)] (.arr (List.map Vl.Ty.c r)) := by
  unfold F.impl_argTypes at hF
  refine PureCall.enterLe Try.func54 (by kernel_rfl) rfl Try.ntmps54 (by simp) (by simp) ?_
  have hF := ob hF; obtain ⟨x, e1a, hF⟩ := hF
  have e1a := at_some e1a; obtain ⟨ne1, e1⟩ := e1a
  have le1 := lt_of_get e1
  have hF := ob hF; obtain ⟨x2, e3a, hF⟩ := hF
  have e3a := at_some e3a; obtain ⟨ne3, e3⟩ := e3a
  have le3 := lt_of_get e3
  simp -dsimp [↓e1, ↓e3]
  repeat (refine chk.go (by first | omega | assumption | (simp_all; done) | (simp_all; omega)) ?_; simp -dsimp [↓e1, ↓e3])
  refine abr.split (fun h4 => ?_) (fun h4 => ?_)
  · have q5 : (x2.index = 0) := by first | exact h4 | omega | (simpa using h4) | (simp at h4 ⊢; omega) | simp_all
    rw [if_pos q5] at hF
    simp -dsimp [↓e1, ↓e3, h4]
    repeat (refine chk.go (by first | omega | assumption | (simp_all; done) | (simp_all; omega)) ?_; simp -dsimp [↓e1, ↓e3, h4])
    have hF := ob hF; obtain ⟨o, ho17, hF⟩ := hF
    refine ALoop.goU ⟨[(8, .lit (.int .i64 t.index)), (9, .own 2 (List.length (α := Vl.Ty) [])), (28, .arr (List.map Vl.Ty.c x2.args)), (29, .lit (.int .i64 (x2.args.length : Int))), (30, .lit (.int .i64 (0 : Int)))], [.dead, .dead, .elems 2 (List.map Vl.Ty.c [])]⟩ ((Gh.nil 9 2 (by simp -dsimp)).trans (Gh.to (by simp) (by first | (simp -dsimp; done) | (simp -dsimp [↓e1, ↓e3, h4]; done) | simp_all) (by first | (simp -dsimp; done) | (simp -dsimp [↓e1, ↓e3, h4]; done) | simp_all) (by first | (simp -dsimp; done) | (simp -dsimp [↓e1, ↓e3, h4]; done) | simp_all))) ?_
    refine (C.impl_argTypes_l1 B hB1 hB2 t x2 0 [] o ho17) _ rfl _ ?_
    cases hF
    simp -dsimp
    repeat (refine chk.go (by first | omega | assumption | (simp_all; done) | (simp_all; omega)) ?_; simp -dsimp)
  · have q5 : ¬ (x2.index = 0) := by first | exact h4 | omega | (simpa using h4) | (simp at h4 ⊢; omega) | simp_all
    rw [if_neg q5] at hF
    simp -dsimp [↓e1, ↓e3, h4, q5]
    repeat (refine chk.go (by first | omega | assumption | (simp_all; done) | (simp_all; omega)) ?_; simp -dsimp [↓e1, ↓e3, h4, q5])
    have hF := ob hF; obtain ⟨o32, ho31, hF⟩ := hF
    refine ALoop.goU ⟨[(8, .lit (.int .i64 x2.index)), (9, .own 2 (List.length (α := Vl.Ty) [])), (28, .arr (List.map Vl.Ty.c x2.args)), (29, .lit (.int .i64 (x2.args.length : Int))), (30, .lit (.int .i64 (0 : Int)))], [.dead, .dead, .elems 2 (List.map Vl.Ty.c [])]⟩ ((Gh.nil 9 2 (by simp -dsimp)).trans (Gh.to (by simp) (by first | (simp -dsimp; done) | (simp -dsimp [↓e1, ↓e3, h4, q5]; done) | simp_all) (by first | (simp -dsimp; done) | (simp -dsimp [↓e1, ↓e3, h4, q5]; done) | simp_all) (by first | (simp -dsimp; done) | (simp -dsimp [↓e1, ↓e3, h4, q5]; done) | simp_all))) ?_
    refine (C.impl_argTypes_l2 B hB1 hB2 x2 0 [] o32 ho31) _ rfl _ ?_
    cases hF
    simp -dsimp
    repeat (refine chk.go (by first | omega | assumption | (simp_all; done) | (simp_all; omega)) ?_; simp -dsimp)

set_option maxRecDepth 100000 in
set_option maxHeartbeats 400000 in
theorem CC.impl_valueScan (B : Nat) (hB1 : 67108864 ≤ B) (hB2 : B ≤ 9223372036854775807) (w : List Vl.Data) (holes : Bool) : (∀ (t : Vl.Ty) (v : Vl.Value) (deep : Int) (count : Int) (r : Bool × Int), F.impl_valueScan w t v deep holes count = some r → MutCall Try.prog B 30 [.lit (.int .i64 count)] [.arr (List.map Vl.Data.c w), .agg [.lit (.int .i64 t.data), .lit (.int .i64 t.index)], .agg [.lit (.int .i64 v.ctor), .lit (.int .i64 v.n), .arr (List.map Vl.Value.c v.kids)], .lit (.int .i64 deep), .lit (.bool holes), .ptr 0 0] (.lit (.bool r.1)) [.lit (.int .i64 r.2)]) ∧
    (∀ (v : Vl.Value) (deep : Int) (v60 : List Vl.Ty) (z65 : Int) (i66 : Nat) (o : Lo (Bool × Int) Int), F.impl_valueScan_l2 w v deep holes v60 z65 i66 = some o → ∀ (c : Code), navO [1, 1, 1, 1, 1, 1, 0, 1, 0, 0] (bodyOf Try.f30) = some c → ∀ (Q : Exit → ASt → Prop), o.post (fun r => ∀ st, Post Try.prog Try.f30 (fun r' σ' => r'.le (.lit (.bool r.1)) ∧ mcell σ' [.lit (.int .i64 r.2)]) .ret st → Q .ret st) (fun s => Q (.exit 1) ⟨[], [.cells [.lit (.int .i64 s)]]⟩) → ALoopU Try.prog B 1 108 (hold c .mk) ⟨[(0, .arr (List.map Vl.Data.c w)), (3, .lit (.int .i64 deep)), (4, .lit (.bool holes)), (5, .ptr 0 0), (13, .arr (List.map Vl.Ty.c v60)), (88, .arr (List.map Vl.Value.c v.kids)), (89, .lit (.int .i64 (v.kids.length : Int))), (90, .lit (.int .i64 (i66 : Int)))], [.cells [.lit (.int .i64 z65)]]⟩ (hold Q .mk)) ∧
    (∀ (v : Vl.Value) (deep : Int) (v27 : List Vl.Ty) (z : Int) (i : Nat) (o : Lo (Bool × Int) Int), F.impl_valueScan_l1 w v deep holes v27 z i = some o → ∀ (c : Code), navO [1, 1, 1, 1, 1, 1, 0, 1, 0, 0] (bodyOf Try.f30) = some c → ∀ (Q : Exit → ASt → Prop), o.post (fun r => ∀ st, Post Try.prog Try.f30 (fun r' σ' => r'.le (.lit (.bool r.1)) ∧ mcell σ' [.lit (.int .i64 r.2)]) .ret st → Q .ret st) (fun s => Q (.exit 1) ⟨[], [.cells [.lit (.int .i64 s)]]⟩) → ALoopU Try.prog B 1 108 (hold c .mk) ⟨[(0, .arr (List.map Vl.Data.c w)), (3, .lit (.int .i64 deep)), (4, .lit (.bool holes)), (5, .ptr 0 0), (13, .arr (List.map Vl.Ty.c v27)), (88, .arr (List.map Vl.Value.c v.kids)), (89, .lit (.int .i64 (v.kids.length : Int))), (90, .lit (.int .i64 (i : Int)))], [.cells [.lit (.int .i64 z)]]⟩ (hold Q .mk)) := by
  refine F.impl_valueScan.mutual_partial_correctness w holes
    (fun t v deep count r => MutCall Try.prog B 30 [.lit (.int .i64 count)] [.arr (List.map Vl.Data.c w), .agg [.lit (.int .i64 t.data), .lit (.int .i64 t.index)], .agg [.lit (.int .i64 v.ctor), .lit (.int .i64 v.n), .arr (List.map Vl.Value.c v.kids)], .lit (.int .i64 deep), .lit (.bool holes), .ptr 0 0] (.lit (.bool r.1)) [.lit (.int .i64 r.2)])
    (fun v deep v60 z65 i66 o => ∀ (c : Code), navO [1, 1, 1, 1, 1, 1, 0, 1, 0, 0] (bodyOf Try.f30) = some c → ∀ (Q : Exit → ASt → Prop), o.post (fun r => ∀ st, Post Try.prog Try.f30 (fun r' σ' => r'.le (.lit (.bool r.1)) ∧ mcell σ' [.lit (.int .i64 r.2)]) .ret st → Q .ret st) (fun s => Q (.exit 1) ⟨[], [.cells [.lit (.int .i64 s)]]⟩) → ALoopU Try.prog B 1 108 (hold c .mk) ⟨[(0, .arr (List.map Vl.Data.c w)), (3, .lit (.int .i64 deep)), (4, .lit (.bool holes)), (5, .ptr 0 0), (13, .arr (List.map Vl.Ty.c v60)), (88, .arr (List.map Vl.Value.c v.kids)), (89, .lit (.int .i64 (v.kids.length : Int))), (90, .lit (.int .i64 (i66 : Int)))], [.cells [.lit (.int .i64 z65)]]⟩ (hold Q .mk))
    (fun v deep v27 z i o => ∀ (c : Code), navO [1, 1, 1, 1, 1, 1, 0, 1, 0, 0] (bodyOf Try.f30) = some c → ∀ (Q : Exit → ASt → Prop), o.post (fun r => ∀ st, Post Try.prog Try.f30 (fun r' σ' => r'.le (.lit (.bool r.1)) ∧ mcell σ' [.lit (.int .i64 r.2)]) .ret st → Q .ret st) (fun s => Q (.exit 1) ⟨[], [.cells [.lit (.int .i64 s)]]⟩) → ALoopU Try.prog B 1 108 (hold c .mk) ⟨[(0, .arr (List.map Vl.Data.c w)), (3, .lit (.int .i64 deep)), (4, .lit (.bool holes)), (5, .ptr 0 0), (13, .arr (List.map Vl.Ty.c v27)), (88, .arr (List.map Vl.Value.c v.kids)), (89, .lit (.int .i64 (v.kids.length : Int))), (90, .lit (.int .i64 (i : Int)))], [.cells [.lit (.int .i64 z)]]⟩ (hold Q .mk))
    ?_ ?_ ?_
  · intro _f_impl_valueScan_l2 _f_impl_valueScan_l1 ih_impl_valueScan_l2 ih_impl_valueScan_l1 t v deep count r hF
    refine MutCall.enter Try.func30 (by kernel_rfl) rfl Try.ntmps30 (by simp) (by simp) (by simp) (by simp) ?_
    simp -dsimp
    repeat (refine chk.go (by first | omega | assumption | (simp_all; done) | (simp_all; omega)) ?_; simp -dsimp)
    refine abr.split (fun h1 => ?_) (fun h1 => ?_)
    · have q2 : ¬ (60 < IntKind.i64.wrap (count + 1)) := by first | exact h1 | omega | (simpa using h1) | (simp at h1 ⊢; omega) | simp_all
      rw [if_neg q2] at hF
      simp -dsimp [h1, q2]
      repeat (refine chk.go (by first | omega | assumption | (simp_all; done) | (simp_all; omega)) ?_; simp -dsimp [h1, q2])
      refine abr.split (fun h3 => ?_) (fun h3 => ?_)
      · have q4 : (10 < deep) := by first | exact h3 | omega | (simpa using h3) | (simp at h3 ⊢; omega) | simp_all
        rw [if_pos q4] at hF
        cases hF
        simp -dsimp [h1, q2, h3]
        repeat (refine chk.go (by first | omega | assumption | (simp_all; done) | (simp_all; omega)) ?_; simp -dsimp [h1, q2, h3])
      · have q4 : ¬ (10 < deep) := by first | exact h3 | omega | (simpa using h3) | (simp at h3 ⊢; omega) | simp_all
        rw [if_neg q4] at hF
        simp -dsimp [h1, q2, h3, q4]
        repeat (refine chk.go (by first | omega | assumption | (simp_all; done) | (simp_all; omega)) ?_; simp -dsimp [h1, q2, h3, q4])
        refine abr.split (fun h5 => ?_) (fun h5 => ?_)
        · have q6 : (holes = true) := by first | exact h5 | omega | (simpa using h5) | (simp at h5 ⊢; omega) | simp_all
          rw [if_pos q6] at hF
          simp -dsimp [h1, q2, h3, q4, h5]
          repeat (refine chk.go (by first | omega | assumption | (simp_all; done) | (simp_all; omega)) ?_; simp -dsimp [h1, q2, h3, q4, h5])
          refine abr.split (fun h7 => ?_) (fun h7 => ?_)
          · have q8 : (v.ctor = (-2)) := by first | exact h7 | omega | (simpa using h7) | (simp at h7 ⊢; omega) | simp_all
            rw [if_pos q8] at hF
            simp -dsimp [h1, q2, h3, q4, h5, h7]
            repeat (refine chk.go (by first | omega | assumption | (simp_all; done) | (simp_all; omega)) ?_; simp -dsimp [h1, q2, h3, q4, h5, h7])
            refine abr.split (fun h9 => ?_) (fun h9 => ?_)
            · have q10 : (v.n = 0) := by first | exact h9 | omega | (simpa using h9) | (simp at h9 ⊢; omega) | simp_all
              rw [if_pos q10] at hF
              cases hF
              simp -dsimp [h1, q2, h3, q4, h5, h7, h9]
              repeat (refine chk.go (by first | omega | assumption | (simp_all; done) | (simp_all; omega)) ?_; simp -dsimp [h1, q2, h3, q4, h5, h7, h9])
            · have q10 : ¬ (v.n = 0) := by first | exact h9 | omega | (simpa using h9) | (simp at h9 ⊢; omega) | simp_all
              rw [if_neg q10] at hF
              cases hF
              simp -dsimp [h1, q2, h3, q4, h5, h7, h9, q10]
              repeat (refine chk.go (by first | omega | assumption | (simp_all; done) | (simp_all; omega)) ?_; simp -dsimp [h1, q2, h3, q4, h5, h7, h9, q10])
          · have q8 : ¬ (v.ctor = (-2)) := by first | exact h7 | omega | (simpa using h7) | (simp at h7 ⊢; omega) | simp_all
            rw [if_neg q8] at hF
            simp -dsimp [h1, q2, h3, q4, h5, h7, q8]
            repeat (refine chk.go (by first | omega | assumption | (simp_all; done) | (simp_all; omega)) ?_; simp -dsimp [h1, q2, h3, q4, h5, h7, q8])
            refine abr.split (fun h11 => ?_) (fun h11 => ?_)
            · have q12 : (t.data = (-1)) := by first | exact h11 | omega | (simpa using h11) | (simp at h11 ⊢; omega) | simp_all
              rw [if_pos q12] at hF
              simp -dsimp [h1, q2, h3, q4, h5, h7, q8, h11]
              repeat (refine chk.go (by first | omega | assumption | (simp_all; done) | (simp_all; omega)) ?_; simp -dsimp [h1, q2, h3, q4, h5, h7, q8, h11])
              refine abr.split (fun h13 => ?_) (fun h13 => ?_)
              · have q14 : (v.ctor = (-1)) := by first | exact h13 | omega | (simpa using h13) | (simp at h13 ⊢; omega) | simp_all
                rw [if_pos q14] at hF
                simp -dsimp [h1, q2, h3, q4, h5, h7, q8, h11, h13]
                repeat (refine chk.go (by first | omega | assumption | (simp_all; done) | (simp_all; omega)) ?_; simp -dsimp [h1, q2, h3, q4, h5, h7, q8, h11, h13])
                have hF := ob hF; obtain ⟨v15, e16, hF⟩ := hF
                refine ((C.impl_within B hB1 hB2 v.n (0 : Int) (9 : Int) v15 e16)).goW (by first | (simp; done) | (simp [h1, q2, h3, q4, h5, h7, q8, h11, h13]; done) | simp_all) (by simp) ?_
                simp -dsimp [h1, q2, h3, q4, h5, h7, q8, h11, h13]
                repeat (refine chk.go (by first | omega | assumption | (simp_all; done) | (simp_all; omega)) ?_; simp -dsimp [h1, q2, h3, q4, h5, h7, q8, h11, h13])
                refine abr.split (fun h17 => ?_) (fun h17 => ?_)
                · have q18 : (v15 = true) := by first | exact h17 | omega | (simpa using h17) | (simp at h17 ⊢; omega) | simp_all
                  rw [if_pos q18] at hF
                  cases hF
                  simp -dsimp [h1, q2, h3, q4, h5, h7, q8, h11, h13, h17]
                  repeat (refine chk.go (by first | omega | assumption | (simp_all; done) | (simp_all; omega)) ?_; simp -dsimp [h1, q2, h3, q4, h5, h7, q8, h11, h13, h17])
                · have q18 : ¬ (v15 = true) := by first | exact h17 | omega | (simpa using h17) | (simp at h17 ⊢; omega) | simp_all
                  rw [if_neg q18] at hF
                  cases hF
                  simp -dsimp [h1, q2, h3, q4, h5, h7, q8, h11, h13, h17, q18]
                  repeat (refine chk.go (by first | omega | assumption | (simp_all; done) | (simp_all; omega)) ?_; simp -dsimp [h1, q2, h3, q4, h5, h7, q8, h11, h13, h17, q18])
              · have q14 : ¬ (v.ctor = (-1)) := by first | exact h13 | omega | (simpa using h13) | (simp at h13 ⊢; omega) | simp_all
                rw [if_neg q14] at hF
                cases hF
                simp -dsimp [h1, q2, h3, q4, h5, h7, q8, h11, h13, q14]
                repeat (refine chk.go (by first | omega | assumption | (simp_all; done) | (simp_all; omega)) ?_; simp -dsimp [h1, q2, h3, q4, h5, h7, q8, h11, h13, q14])
            · have q12 : ¬ (t.data = (-1)) := by first | exact h11 | omega | (simpa using h11) | (simp at h11 ⊢; omega) | simp_all
              rw [if_neg q12] at hF
              simp -dsimp [h1, q2, h3, q4, h5, h7, q8, h11, q12]
              repeat (refine chk.go (by first | omega | assumption | (simp_all; done) | (simp_all; omega)) ?_; simp -dsimp [h1, q2, h3, q4, h5, h7, q8, h11, q12])
              refine ADraw.simple follows (by kernel_rfl) (by kernel_rfl) ?_
              simp -dsimp [h1, q2, h3, q4, h5, h7, q8, h11, q12]
              repeat (refine chk.go (by first | omega | assumption | (simp_all; done) | (simp_all; omega)) ?_; simp -dsimp [h1, q2, h3, q4, h5, h7, q8, h11, q12])
              refine abr.split (fun h19 => ?_) (fun h19 => ?_)
              · have q20 : (v.n = 0) := by first | exact h19 | omega | (simpa using h19) | (simp at h19 ⊢; omega) | simp_all
                rw [if_pos q20] at hF
                simp -dsimp [h1, q2, h3, q4, h5, h7, q8, h11, q12, h19]
                repeat (refine chk.go (by first | omega | assumption | (simp_all; done) | (simp_all; omega)) ?_; simp -dsimp [h1, q2, h3, q4, h5, h7, q8, h11, q12, h19])
                have hF := ob hF; obtain ⟨v21, e22, hF⟩ := hF
                refine ((C.impl_ctorsOf B hB1 hB2 w t v21 e22)).pgoW (by first | (simp; done) | (simp [h1, q2, h3, q4, h5, h7, q8, h11, q12, h19]; done) | simp_all) (by simp) ?_
                simp -dsimp [h1, q2, h3, q4, h5, h7, q8, h11, q12, h19]
                repeat (refine chk.go (by first | omega | assumption | (simp_all; done) | (simp_all; omega)) ?_; simp -dsimp [h1, q2, h3, q4, h5, h7, q8, h11, q12, h19])
                have hF := ob hF; obtain ⟨v23, e24, hF⟩ := hF
                refine ((C.slices_Contains_int B hB1 hB2 v21 v.ctor v23 e24)).pgoW (by first | (simp; done) | (simp [h1, q2, h3, q4, h5, h7, q8, h11, q12, h19]; done) | simp_all) (by simp) ?_
                simp -dsimp [h1, q2, h3, q4, h5, h7, q8, h11, q12, h19]
                repeat (refine chk.go (by first | omega | assumption | (simp_all; done) | (simp_all; omega)) ?_; simp -dsimp [h1, q2, h3, q4, h5, h7, q8, h11, q12, h19])
                refine abr.split (fun h25 => ?_) (fun h25 => ?_)
                · have q26 : ¬ (v23 = true) := by first | exact h25 | omega | (simpa using h25) | (simp at h25 ⊢; omega) | simp_all
                  rw [if_neg q26] at hF
                  cases hF
                  simp -dsimp [h1, q2, h3, q4, h5, h7, q8, h11, q12, h19, h25, q26]
                  repeat (refine chk.go (by first | omega | assumption | (simp_all; done) | (simp_all; omega)) ?_; simp -dsimp [h1, q2, h3, q4, h5, h7, q8, h11, q12, h19, h25, q26])
                · have q26 : (v23 = true) := by first | exact h25 | omega | (simpa using h25) | (simp at h25 ⊢; omega) | simp_all
                  rw [if_pos q26] at hF
                  simp -dsimp [h1, q2, h3, q4, h5, h7, q8, h11, q12, h19, h25, q26]
                  repeat (refine chk.go (by first | omega | assumption | (simp_all; done) | (simp_all; omega)) ?_; simp -dsimp [h1, q2, h3, q4, h5, h7, q8, h11, q12, h19, h25, q26])
                  have hF := ob hF; obtain ⟨v27, e28, hF⟩ := hF
                  refine ((C.impl_argTypes B hB1 hB2 w t v.ctor v27 e28)).goW (by first | (simp; done) | (simp [h1, q2, h3, q4, h5, h7, q8, h11, q12, h19, h25, q26]; done) | simp_all) (by simp) ?_
                  simp -dsimp [h1, q2, h3, q4, h5, h7, q8, h11, q12, h19, h25, q26]
                  repeat (refine chk.go (by first | omega | assumption | (simp_all; done) | (simp_all; omega)) ?_; simp -dsimp [h1, q2, h3, q4, h5, h7, q8, h11, q12, h19, h25, q26])
                  refine abr.split (fun h29 => ?_) (fun h29 => ?_)
                  · have q30 : ¬ (v27.length = v.kids.length) := by first | exact h29 | omega | (simpa using h29) | (simp at h29 ⊢; omega) | simp_all
                    have z31 : ¬ ((v27.length : Int) = (v.kids.length : Int)) := by first | omega | simp_all
                    rw [if_neg q30] at hF
                    cases hF
                    simp -dsimp [h1, q2, h3, q4, h5, h7, q8, h11, q12, h19, h25, q26, h29, q30, z31]
                    repeat (refine chk.go (by first | omega | assumption | (simp_all; done) | (simp_all; omega)) ?_; simp -dsimp [h1, q2, h3, q4, h5, h7, q8, h11, q12, h19, h25, q26, h29, q30, z31])
                  · have q30 : (v27.length = v.kids.length) := by first | exact h29 | omega | (simpa using h29) | (simp at h29 ⊢; omega) | simp_all
                    have z31 : ((v27.length : Int) = (v.kids.length : Int)) := by first | omega | simp_all
                    rw [if_pos q30] at hF
                    simp -dsimp [h1, q2, h3, q4, h5, h7, q8, h11, q12, h19, h25, q26, h29, q30, z31]
                    repeat (refine chk.go (by first | omega | assumption | (simp_all; done) | (simp_all; omega)) ?_; simp -dsimp [h1, q2, h3, q4, h5, h7, q8, h11, q12, h19, h25, q26, h29, q30, z31])
                    have hF := ob hF; obtain ⟨o, ho43, hF⟩ := hF
                    refine ALoop.goU ⟨[(0, .arr (List.map Vl.Data.c w)), (3, .lit (.int .i64 deep)), (4, .lit (.bool holes)), (5, .ptr 0 0), (13, .arr (List.map Vl.Ty.c v27)), (88, .arr (List.map Vl.Value.c v.kids)), (89, .lit (.int .i64 (v.kids.length : Int))), (90, .lit (.int .i64 (0 : Int)))], [.cells [.lit (.int .i64 (IntKind.i64.wrap (count + 1)))]]⟩ (Gh.to (by simp) (by first | (simp -dsimp; done) | (simp -dsimp [h1, q2, h3, q4, h5, h7, q8, h11, q12, h19, h25, q26, h29, q30, z31]; done) | simp_all) (by first | (simp -dsimp; done) | (simp -dsimp [h1, q2, h3, q4, h5, h7, q8, h11, q12, h19, h25, q26, h29, q30, z31]; done) | simp_all) (by first | (simp -dsimp; done) | (simp -dsimp [h1, q2, h3, q4, h5, h7, q8, h11, q12, h19, h25, q26, h29, q30, z31]; done) | simp_all)) ?_
                    refine (ih_impl_valueScan_l1 v deep v27 (IntKind.i64.wrap (count + 1)) 0 o ho43) _ rfl _ ?_
                    rcases o with r0 | s
                    · dsimp only at hF
                      cases hF
                      intro st h
                      simpa using h
                    · dsimp only at hF
                      cases hF
                      simp -dsimp
                      repeat (refine chk.go (by first | omega | assumption | (simp_all; done) | (simp_all; omega)) ?_; simp -dsimp)
              · have q20 : ¬ (v.n = 0) := by first | exact h19 | omega | (simpa using h19) | (simp at h19 ⊢; omega) | simp_all
                rw [if_neg q20] at hF
                cases hF
                simp -dsimp [h1, q2, h3, q4, h5, h7, q8, h11, q12, h19, q20]
                repeat (refine chk.go (by first | omega | assumption | (simp_all; done) | (simp_all; omega)) ?_; simp -dsimp [h1, q2, h3, q4, h5, h7, q8, h11, q12, h19, q20])
        · have q6 : ¬ (holes = true) := by first | exact h5 | omega | (simpa using h5) | (simp at h5 ⊢; omega) | simp_all
          rw [if_neg q6] at hF
          simp -dsimp [h1, q2, h3, q4, h5, q6]
          repeat (refine chk.go (by first | omega | assumption | (simp_all; done) | (simp_all; omega)) ?_; simp -dsimp [h1, q2, h3, q4, h5, q6])
          refine abr.split (fun h44 => ?_) (fun h44 => ?_)
          · have q45 : (t.data = (-1)) := by first | exact h44 | omega | (simpa using h44) | (simp at h44 ⊢; omega) | simp_all
            rw [if_pos q45] at hF
            simp -dsimp [h1, q2, h3, q4, h5, q6, h44]
            repeat (refine chk.go (by first | omega | assumption | (simp_all; done) | (simp_all; omega)) ?_; simp -dsimp [h1, q2, h3, q4, h5, q6, h44])
            refine abr.split (fun h46 => ?_) (fun h46 => ?_)
            · have q47 : (v.ctor = (-1)) := by first | exact h46 | omega | (simpa using h46) | (simp at h46 ⊢; omega) | simp_all
              rw [if_pos q47] at hF
              simp -dsimp [h1, q2, h3, q4, h5, q6, h44, h46]
              repeat (refine chk.go (by first | omega | assumption | (simp_all; done) | (simp_all; omega)) ?_; simp -dsimp [h1, q2, h3, q4, h5, q6, h44, h46])
              have hF := ob hF; obtain ⟨v48, e49, hF⟩ := hF
              refine ((C.impl_within B hB1 hB2 v.n (0 : Int) (9 : Int) v48 e49)).goW (by first | (simp; done) | (simp [h1, q2, h3, q4, h5, q6, h44, h46]; done) | simp_all) (by simp) ?_
              simp -dsimp [h1, q2, h3, q4, h5, q6, h44, h46]
              repeat (refine chk.go (by first | omega | assumption | (simp_all; done) | (simp_all; omega)) ?_; simp -dsimp [h1, q2, h3, q4, h5, q6, h44, h46])
              refine abr.split (fun h50 => ?_) (fun h50 => ?_)
              · have q51 : (v48 = true) := by first | exact h50 | omega | (simpa using h50) | (simp at h50 ⊢; omega) | simp_all
                rw [if_pos q51] at hF
                cases hF
                simp -dsimp [h1, q2, h3, q4, h5, q6, h44, h46, h50]
                repeat (refine chk.go (by first | omega | assumption | (simp_all; done) | (simp_all; omega)) ?_; simp -dsimp [h1, q2, h3, q4, h5, q6, h44, h46, h50])
              · have q51 : ¬ (v48 = true) := by first | exact h50 | omega | (simpa using h50) | (simp at h50 ⊢; omega) | simp_all
                rw [if_neg q51] at hF
                cases hF
                simp -dsimp [h1, q2, h3, q4, h5, q6, h44, h46, h50, q51]
                repeat (refine chk.go (by first | omega | assumption | (simp_all; done) | (simp_all; omega)) ?_; simp -dsimp [h1, q2, h3, q4, h5, q6, h44, h46, h50, q51])
            · have q47 : ¬ (v.ctor = (-1)) := by first | exact h46 | omega | (simpa using h46) | (simp at h46 ⊢; omega) | simp_all
              rw [if_neg q47] at hF
              cases hF
              simp -dsimp [h1, q2, h3, q4, h5, q6, h44, h46, q47]
              repeat (refine chk.go (by first | omega | assumption | (simp_all; done) | (simp_all; omega)) ?_; simp -dsimp [h1, q2, h3, q4, h5, q6, h44, h46, q47])
          · have q45 : ¬ (t.data = (-1)) := by first | exact h44 | omega | (simpa using h44) | (simp at h44 ⊢; omega) | simp_all
            rw [if_neg q45] at hF
            simp -dsimp [h1, q2, h3, q4, h5, q6, h44, q45]
            repeat (refine chk.go (by first | omega | assumption | (simp_all; done) | (simp_all; omega)) ?_; simp -dsimp [h1, q2, h3, q4, h5, q6, h44, q45])
            refine ADraw.simple follows (by kernel_rfl) (by kernel_rfl) ?_
            simp -dsimp [h1, q2, h3, q4, h5, q6, h44, q45]
            repeat (refine chk.go (by first | omega | assumption | (simp_all; done) | (simp_all; omega)) ?_; simp -dsimp [h1, q2, h3, q4, h5, q6, h44, q45])
            refine abr.split (fun h52 => ?_) (fun h52 => ?_)
            · have q53 : (v.n = 0) := by first | exact h52 | omega | (simpa using h52) | (simp at h52 ⊢; omega) | simp_all
              rw [if_pos q53] at hF
              simp -dsimp [h1, q2, h3, q4, h5, q6, h44, q45, h52]
              repeat (refine chk.go (by first | omega | assumption | (simp_all; done) | (simp_all; omega)) ?_; simp -dsimp [h1, q2, h3, q4, h5, q6, h44, q45, h52])
              have hF := ob hF; obtain ⟨v54, e55, hF⟩ := hF
              refine ((C.impl_ctorsOf B hB1 hB2 w t v54 e55)).pgoW (by first | (simp; done) | (simp [h1, q2, h3, q4, h5, q6, h44, q45, h52]; done) | simp_all) (by simp) ?_
              simp -dsimp [h1, q2, h3, q4, h5, q6, h44, q45, h52]
              repeat (refine chk.go (by first | omega | assumption | (simp_all; done) | (simp_all; omega)) ?_; simp -dsimp [h1, q2, h3, q4, h5, q6, h44, q45, h52])
              have hF := ob hF; obtain ⟨v56, e57, hF⟩ := hF
              refine ((C.slices_Contains_int B hB1 hB2 v54 v.ctor v56 e57)).pgoW (by first | (simp; done) | (simp [h1, q2, h3, q4, h5, q6, h44, q45, h52]; done) | simp_all) (by simp) ?_
              simp -dsimp [h1, q2, h3, q4, h5, q6, h44, q45, h52]
              repeat (refine chk.go (by first | omega | assumption | (simp_all; done) | (simp_all; omega)) ?_; simp -dsimp [h1, q2, h3, q4, h5, q6, h44, q45, h52])
              refine abr.split (fun h58 => ?_) (fun h58 => ?_)
              · have q59 : ¬ (v56 = true) := by first | exact h58 | omega | (simpa using h58) | (simp at h58 ⊢; omega) | simp_all
                rw [if_neg q59] at hF
                cases hF
                simp -dsimp [h1, q2, h3, q4, h5, q6, h44, q45, h52, h58, q59]
                repeat (refine chk.go (by first | omega | assumption | (simp_all; done) | (simp_all; omega)) ?_; simp -dsimp [h1, q2, h3, q4, h5, q6, h44, q45, h52, h58, q59])
              · have q59 : (v56 = true) := by first | exact h58 | omega | (simpa using h58) | (simp at h58 ⊢; omega) | simp_all
                rw [if_pos q59] at hF
                simp -dsimp [h1, q2, h3, q4, h5, q6, h44, q45, h52, h58, q59]
                repeat (refine chk.go (by first | omega | assumption | (simp_all; done) | (simp_all; omega)) ?_; simp -dsimp [h1, q2, h3, q4, h5, q6, h44, q45, h52, h58, q59])
                have hF := ob hF; obtain ⟨v60, e61, hF⟩ := hF
                refine ((C.impl_argTypes B hB1 hB2 w t v.ctor v60 e61)).goW (by first | (simp; done) | (simp [h1, q2, h3, q4, h5, q6, h44, q45, h52, h58, q59]; done) | simp_all) (by simp) ?_
                simp -dsimp [h1, q2, h3, q4, h5, q6, h44, q45, h52, h58, q59]
                repeat (refine chk.go (by first | omega | assumption | (simp_all; done) | (simp_all; omega)) ?_; simp -dsimp [h1, q2, h3, q4, h5, q6, h44, q45, h52, h58, q59])
                refine abr.split (fun h62 => ?_) (fun h62 => ?_)
                · have q63 : ¬ (v60.length = v.kids.length) := by first | exact h62 | omega | (simpa using h62) | (simp at h62 ⊢; omega) | simp_all
                  have z64 : ¬ ((v60.length : Int) = (v.kids.length : Int)) := by first | omega | simp_all
                  rw [if_neg q63] at hF
                  cases hF
                  simp -dsimp [h1, q2, h3, q4, h5, q6, h44, q45, h52, h58, q59, h62, q63, z64]
                  repeat (refine chk.go (by first | omega | assumption | (simp_all; done) | (simp_all; omega)) ?_; simp -dsimp [h1, q2, h3, q4, h5, q6, h44, q45, h52, h58, q59, h62, q63, z64])
                · have q63 : (v60.length = v.kids.length) := by first | exact h62 | omega | (simpa using h62) | (simp at h62 ⊢; omega) | simp_all
                  have z64 : ((v60.length : Int) = (v.kids.length : Int)) := by first | omega | simp_all
                  rw [if_pos q63] at hF
                  simp -dsimp [h1, q2, h3, q4, h5, q6, h44, q45, h52, h58, q59, h62, q63, z64]
                  repeat (refine chk.go (by first | omega | assumption | (simp_all; done) | (simp_all; omega)) ?_; simp -dsimp [h1, q2, h3, q4, h5, q6, h44, q45, h52, h58, q59, h62, q63, z64])
                  have hF := ob hF; obtain ⟨o80, ho79, hF⟩ := hF
                  refine ALoop.goU ⟨[(0, .arr (List.map Vl.Data.c w)), (3, .lit (.int .i64 deep)), (4, .lit (.bool holes)), (5, .ptr 0 0), (13, .arr (List.map Vl.Ty.c v60)), (88, .arr (List.map Vl.Value.c v.kids)), (89, .lit (.int .i64 (v.kids.length : Int))), (90, .lit (.int .i64 (0 : Int)))], [.cells [.lit (.int .i64 (IntKind.i64.wrap (count + 1)))]]⟩ (Gh.to (by simp) (by first | (simp -dsimp; done) | (simp -dsimp [h1, q2, h3, q4, h5, q6, h44, q45, h52, h58, q59, h62, q63, z64]; done) | simp_all) (by first | (simp -dsimp; done) | (simp -dsimp [h1, q2, h3, q4, h5, q6, h44, q45, h52, h58, q59, h62, q63, z64]; done) | simp_all) (by first | (simp -dsimp; done) | (simp -dsimp [h1, q2, h3, q4, h5, q6, h44, q45, h52, h58, q59, h62, q63, z64]; done) | simp_all)) ?_
                  refine (ih_impl_valueScan_l2 v deep v60 (IntKind.i64.wrap (count + 1)) 0 o80 ho79) _ rfl _ ?_
                  rcases o80 with r082 | s81
                  · dsimp only at hF
                    cases hF
                    intro st h
                    simpa using h
                  · dsimp only at hF
                    cases hF
                    simp -dsimp
                    repeat (refine chk.go (by first | omega | assumption | (simp_all; done) | (simp_all; omega)) ?_; simp -dsimp)
            · have q53 : ¬ (v.n = 0) := by first | exact h52 | omega | (simpa using h52) | (simp at h52 ⊢; omega) | simp_all
              rw [if_neg q53] at hF
              cases hF
              simp -dsimp [h1, q2, h3, q4, h5, q6, h44, q45, h52, q53]
              repeat (refine chk.go (by first | omega | assumption | (simp_all; done) | (simp_all; omega)) ?_; simp -dsimp [h1, q2, h3, q4, h5, q6, h44, q45, h52, q53])
    · have q2 : (60 < IntKind.i64.wrap (count + 1)) := by first | exact h1 | omega | (simpa using h1) | (simp at h1 ⊢; omega) | simp_all
      rw [if_pos q2] at hF
      cases hF
      simp -dsimp [h1, q2]
      repeat (refine chk.go (by first | omega | assumption | (simp_all; done) | (simp_all; omega)) ?_; simp -dsimp [h1, q2])
  · intro _f_impl_valueScan _f_impl_valueScan_l2 ih_impl_valueScan ih_impl_valueScan_l2 v deep v60 z65 i66 o hF
    intro c hc Q hq
    obtain rfl : c = _ := navEq hc rfl
    refine ALoopU.know fun hk hs => ?_
    have b0 := hk 0
    simp -dsimp at b0
    have b13 := hk 13
    simp -dsimp at b13
    have b88 := hk 88
    simp -dsimp at b88
    clear hk hs
    refine ALoopU.enter ?_
    simp -dsimp
    repeat (refine chk.go (by first | omega | assumption | (simp_all; done) | (simp_all; omega)) ?_; simp -dsimp)
    refine abr.split (fun h67 => ?_) (fun h67 => ?_)
    · have q68 : (i66 < v.kids.length) := by first | exact h67 | omega | (simpa using h67) | (simp at h67 ⊢; omega) | simp_all
      have z69 : ((i66 : Int) < (v.kids.length : Int)) := by first | omega | simp_all
      rw [if_pos q68] at hF
      have hF := ob hF; obtain ⟨x70, e71, hF⟩ := hF
      have le71 := lt_of_get e71
      simp -dsimp [h67, z69, ↓e71]
      repeat (refine chk.go (by first | omega | assumption | (simp_all; done) | (simp_all; omega)) ?_; simp -dsimp [h67, z69, ↓e71])
      refine ADraw.eff [30] [(0, 0), (0, 1), (0, 1), (0, 1), (0, 0), (0, 0), (0, 1), (0, 0), (0, 0), (0, 0), (0, 1), (1, 1)] [true, true, true, false, true, true, true, true, true, true, true, true] follows (by kernel_rfl) (by kernel_rfl) (by kernel_rfl) ?_
      have hF := ob hF; obtain ⟨x72, e73, hF⟩ := hF
      have le73 := lt_of_get e73
      simp -dsimp [h67, z69, ↓e71, ↓e73]
      repeat (refine chk.go (by first | omega | assumption | (simp_all; done) | (simp_all; omega)) ?_; simp -dsimp [h67, z69, ↓e71, ↓e73])
      have hF := ob hF; obtain ⟨v74, e75, hF⟩ := hF
      refine ((ih_impl_valueScan x72 x70 (IntKind.i64.wrap (deep + 1)) z65 v74 e75)).ego 0 rfl (by first | (simp; done) | (simp [h67, z69, ↓e71, ↓e73]; done) | simp_all) (by simp) (by first | (simp; done) | (simp [h67, z69, ↓e71, ↓e73]; done) | simp_all) ?_
      simp -dsimp [h67, z69, ↓e71, ↓e73]
      repeat (refine chk.go (by first | omega | assumption | (simp_all; done) | (simp_all; omega)) ?_; simp -dsimp [h67, z69, ↓e71, ↓e73])
      refine abr.split (fun h76 => ?_) (fun h76 => ?_)
      · have q77 : ¬ (v74.1 = true) := by first | exact h76 | omega | (simpa using h76) | (simp at h76 ⊢; omega) | simp_all
        rw [if_neg q77] at hF
        cases hF
        simp -dsimp [h67, z69, ↓e71, ↓e73, h76, q77]
        repeat (refine chk.go (by first | omega | assumption | (simp_all; done) | (simp_all; omega)) ?_; simp -dsimp [h67, z69, ↓e71, ↓e73, h76, q77])
        refine Leave.go _ (Gh.refl _) (hq _ ?_)
        simp -dsimp [h67, z69, ↓e71, ↓e73, h76, q77]
        repeat (refine chk.go (by first | omega | assumption | (simp_all; done) | (simp_all; omega)) ?_; simp -dsimp [h67, z69, ↓e71, ↓e73, h76, q77])
      · have q77 : (v74.1 = true) := by first | exact h76 | omega | (simpa using h76) | (simp at h76 ⊢; omega) | simp_all
        rw [if_pos q77] at hF
        have w78 : IntKind.i64.wrap ((i66 : Int) + 1) = (i66 : Int) + 1 := wrap_in (by omega) (by omega)
        simp -dsimp [h67, z69, ↓e71, ↓e73, h76, q77, w78]
        repeat (refine chk.go (by first | omega | assumption | (simp_all; done) | (simp_all; omega)) ?_; simp -dsimp [h67, z69, ↓e71, ↓e73, h76, q77, w78])
        refine Again.go ⟨[(0, .arr (List.map Vl.Data.c w)), (3, .lit (.int .i64 deep)), (4, .lit (.bool holes)), (5, .ptr 0 0), (13, .arr (List.map Vl.Ty.c v60)), (88, .arr (List.map Vl.Value.c v.kids)), (89, .lit (.int .i64 (v.kids.length : Int))), (90, .lit (.int .i64 ((i66 + 1) : Int)))], [.cells [.lit (.int .i64 v74.2)]]⟩ (Gh.to (by simp) (by first | (simp -dsimp; done) | (simp -dsimp [h67, z69, ↓e71, ↓e73, h76, q77, w78]; done) | simp_all) (by first | (simp -dsimp; done) | (simp -dsimp [h67, z69, ↓e71, ↓e73, h76, q77, w78]; done) | simp_all) (by first | (simp -dsimp; done) | (simp -dsimp [h67, z69, ↓e71, ↓e73, h76, q77, w78]; done) | simp_all)) ?_
        exact (ih_impl_valueScan_l2 v deep v60 v74.2 (i66 + 1) o hF) _ rfl _ hq
    · have q68 : ¬ (i66 < v.kids.length) := by first | exact h67 | omega | (simpa using h67) | (simp at h67 ⊢; omega) | simp_all
      have z69 : ¬ ((i66 : Int) < (v.kids.length : Int)) := by first | omega | simp_all
      rw [if_neg q68] at hF
      cases hF
      simp -dsimp [h67, q68, z69]
      repeat (refine chk.go (by first | omega | assumption | (simp_all; done) | (simp_all; omega)) ?_; simp -dsimp [h67, q68, z69])
      refine Leave.go ⟨[], [.cells [.lit (.int .i64 z65)]]⟩ (Gh.to (by simp) (by first | (simp -dsimp; done) | (simp -dsimp [h67, q68, z69]; done) | simp_all) (by first | (simp -dsimp; done) | (simp -dsimp [h67, q68, z69]; done) | simp_all) (by first | (simp -dsimp; done) | (simp -dsimp [h67, q68, z69]; done) | simp_all)) ?_
      exact hq
  · intro _f_impl_valueScan _f_impl_valueScan_l1 ih_impl_valueScan ih_impl_valueScan_l1 v deep v27 z i o hF
    intro c hc Q hq
    obtain rfl : c = _ := navEq hc rfl
    refine ALoopU.know fun hk hs => ?_
    have b0 := hk 0
    simp -dsimp at b0
    have b13 := hk 13
    simp -dsimp at b13
    have b88 := hk 88
    simp -dsimp at b88
    clear hk hs
    refine ALoopU.enter ?_
    simp -dsimp
    repeat (refine chk.go (by first | omega | assumption | (simp_all; done) | (simp_all; omega)) ?_; simp -dsimp)
    refine abr.split (fun h32 => ?_) (fun h32 => ?_)
    · have q33 : (i < v.kids.length) := by first | exact h32 | omega | (simpa using h32) | (simp at h32 ⊢; omega) | simp_all
      have z34 : ((i : Int) < (v.kids.length : Int)) := by first | omega | simp_all
      rw [if_pos q33] at hF
      have hF := ob hF; obtain ⟨x, e35, hF⟩ := hF
      have le35 := lt_of_get e35
      simp -dsimp [h32, z34, ↓e35]
      repeat (refine chk.go (by first | omega | assumption | (simp_all; done) | (simp_all; omega)) ?_; simp -dsimp [h32, z34, ↓e35])
      refine ADraw.eff [30] [(0, 0), (0, 1), (0, 1), (0, 1), (0, 0), (0, 0), (0, 1), (0, 0), (0, 0), (0, 0), (0, 1), (1, 1)] [true, true, true, false, true, true, true, true, true, true, true, true] follows (by kernel_rfl) (by kernel_rfl) (by kernel_rfl) ?_
      have hF := ob hF; obtain ⟨x36, e37, hF⟩ := hF
      have le37 := lt_of_get e37
      simp -dsimp [h32, z34, ↓e35, ↓e37]
      repeat (refine chk.go (by first | omega | assumption | (simp_all; done) | (simp_all; omega)) ?_; simp -dsimp [h32, z34, ↓e35, ↓e37])
      have hF := ob hF; obtain ⟨v38, e39, hF⟩ := hF
      refine ((ih_impl_valueScan x36 x (IntKind.i64.wrap (deep + 1)) z v38 e39)).ego 0 rfl (by first | (simp; done) | (simp [h32, z34, ↓e35, ↓e37]; done) | simp_all) (by simp) (by first | (simp; done) | (simp [h32, z34, ↓e35, ↓e37]; done) | simp_all) ?_
      simp -dsimp [h32, z34, ↓e35, ↓e37]
      repeat (refine chk.go (by first | omega | assumption | (simp_all; done) | (simp_all; omega)) ?_; simp -dsimp [h32, z34, ↓e35, ↓e37])
      refine abr.split (fun h40 => ?_) (fun h40 => ?_)
      · have q41 : ¬ (v38.1 = true) := by first | exact h40 | omega | (simpa using h40) | (simp at h40 ⊢; omega) | simp_all
        rw [if_neg q41] at hF
        cases hF
        simp -dsimp [h32, z34, ↓e35, ↓e37, h40, q41]
        repeat (refine chk.go (by first | omega | assumption | (simp_all; done) | (simp_all; omega)) ?_; simp -dsimp [h32, z34, ↓e35, ↓e37, h40, q41])
        refine Leave.go _ (Gh.refl _) (hq _ ?_)
        simp -dsimp [h32, z34, ↓e35, ↓e37, h40, q41]
        repeat (refine chk.go (by first | omega | assumption | (simp_all; done) | (simp_all; omega)) ?_; simp -dsimp [h32, z34, ↓e35, ↓e37, h40, q41])
      · have q41 : (v38.1 = true) := by first | exact h40 | omega | (simpa using h40) | (simp at h40 ⊢; omega) | simp_all
        rw [if_pos q41] at hF
        have w42 : IntKind.i64.wrap ((i : Int) + 1) = (i : Int) + 1 := wrap_in (by omega) (by omega)
        simp -dsimp [h32, z34, ↓e35, ↓e37, h40, q41, w42]
        repeat (refine chk.go (by first | omega | assumption | (simp_all; done) | (simp_all; omega)) ?_; simp -dsimp [h32, z34, ↓e35, ↓e37, h40, q41, w42])
        refine Again.go ⟨[(0, .arr (List.map Vl.Data.c w)), (3, .lit (.int .i64 deep)), (4, .lit (.bool holes)), (5, .ptr 0 0), (13, .arr (List.map Vl.Ty.c v27)), (88, .arr (List.map Vl.Value.c v.kids)), (89, .lit (.int .i64 (v.kids.length : Int))), (90, .lit (.int .i64 ((i + 1) : Int)))], [.cells [.lit (.int .i64 v38.2)]]⟩ (Gh.to (by simp) (by first | (simp -dsimp; done) | (simp -dsimp [h32, z34, ↓e35, ↓e37, h40, q41, w42]; done) | simp_all) (by first | (simp -dsimp; done) | (simp -dsimp [h32, z34, ↓e35, ↓e37, h40, q41, w42]; done) | simp_all) (by first | (simp -dsimp; done) | (simp -dsimp [h32, z34, ↓e35, ↓e37, h40, q41, w42]; done) | simp_all)) ?_
        exact (ih_impl_valueScan_l1 v deep v27 v38.2 (i + 1) o hF) _ rfl _ hq
    · have q33 : ¬ (i < v.kids.length) := by first | exact h32 | omega | (simpa using h32) | (simp at h32 ⊢; omega) | simp_all
      have z34 : ¬ ((i : Int) < (v.kids.length : Int)) := by first | omega | simp_all
      rw [if_neg q33] at hF
      cases hF
      simp -dsimp [h32, q33, z34]
      repeat (refine chk.go (by first | omega | assumption | (simp_all; done) | (simp_all; omega)) ?_; simp -dsimp [h32, q33, z34])
      refine Leave.go ⟨[], [.cells [.lit (.int .i64 z)]]⟩ (Gh.to (by simp) (by first | (simp -dsimp; done) | (simp -dsimp [h32, q33, z34]; done) | simp_all) (by first | (simp -dsimp; done) | (simp -dsimp [h32, q33, z34]; done) | simp_all) (by first | (simp -dsimp; done) | (simp -dsimp [h32, q33, z34]; done) | simp_all)) ?_
      exact hq

theorem C.impl_valueScan (B : Nat) (hB1 : 67108864 ≤ B) (hB2 : B ≤ 9223372036854775807) (w : List Vl.Data) (t : Vl.Ty) (v : Vl.Value) (deep : Int) (holes : Bool) (count : Int) (r : Bool × Int) (hF : F.impl_valueScan w t v deep holes count = some r) : MutCall Try.prog B 30 [.lit (.int .i64 count)] [.arr (List.map Vl.Data.c w), .agg [.lit (.int .i64 t.data), .lit (.int .i64 t.index)], .agg [.lit (.int .i64 v.ctor), .lit (.int .i64 v.n), .arr (List.map Vl.Value.c v.kids)], .lit (.int .i64 deep), .lit (.bool holes), .ptr 0 0] (.lit (.bool r.1)) [.lit (.int .i64 r.2)] :=
  (CC.impl_valueScan B hB1 hB2 w holes).1 t v deep count r hF

theorem C.impl_valueScan_l2 (B : Nat) (hB1 : 67108864 ≤ B) (hB2 : B ≤ 9223372036854775807) (w : List Vl.Data) (v : Vl.Value) (deep : Int) (holes : Bool) (v60 : List Vl.Ty) (z65 : Int) (i66 : Nat) (o : Lo (Bool × Int) Int) (hF : F.impl_valueScan_l2 w v deep holes v60 z65 i66 = some o) : ∀ (c : Code), navO [1, 1, 1, 1, 1, 1, 0, 1, 0, 0] (bodyOf Try.f30) = some c → ∀ (Q : Exit → ASt → Prop), o.post (fun r => ∀ st, Post Try.prog Try.f30 (fun r' σ' => r'.le (.lit (.bool r.1)) ∧ mcell σ' [.lit (.int .i64 r.2)]) .ret st → Q .ret st) (fun s => Q (.exit 1) ⟨[], [.cells [.lit (.int .i64 s)]]⟩) → ALoopU Try.prog B 1 108 (hold c .mk) ⟨[(0, .arr (List.map Vl.Data.c w)), (3, .lit (.int .i64 deep)), (4, .lit (.bool holes)), (5, .ptr 0 0), (13, .arr (List.map Vl.Ty.c v60)), (88, .arr (List.map Vl.Value.c v.kids)), (89, .lit (.int .i64 (v.kids.length : Int))), (90, .lit (.int .i64 (i66 : Int)))], [.cells [.lit (.int .i64 z65)]]⟩ (hold Q .mk) :=
  (CC.impl_valueScan B hB1 hB2 w holes).2.1 v deep v60 z65 i66 o hF

theorem C.impl_valueScan_l1 (B : Nat) (hB1 : 67108864 ≤ B) (hB2 : B ≤ 9223372036854775807) (w : List Vl.Data) (v : Vl.Value) (deep : Int) (holes : Bool) (v27 : List Vl.Ty) (z : Int) (i : Nat) (o : Lo (Bool × Int) Int) (hF : F.impl_valueScan_l1 w v deep holes v27 z i = some o) : ∀ (c : Code), navO [1, 1, 1, 1, 1, 1, 0, 1, 0, 0] (bodyOf Try.f30) = some c → ∀ (Q : Exit → ASt → Prop), o.post (fun r => ∀ st, Post Try.prog Try.f30 (fun r' σ' => r'.le (.lit (.bool r.1)) ∧ mcell σ' [.lit (.int .i64 r.2)]) .ret st → Q .ret st) (fun s => Q (.exit 1) ⟨[], [.cells [.lit (.int .i64 s)]]⟩) → ALoopU Try.prog B 1 108 (hold c .mk) ⟨[(0, .arr (List.map Vl.Data.c w)), (3, .lit (.int .i64 deep)), (4, .lit (.bool holes)), (5, .ptr 0 0), (13, .arr (List.map Vl.Ty.c v27)), (88, .arr (List.map Vl.Value.c v.kids)), (89, .lit (.int .i64 (v.kids.length : Int))), (90, .lit (.int .i64 (i : Int)))], [.cells [.lit (.int .i64 z)]]⟩ (hold Q .mk) :=
  (CC.impl_valueScan B hB1 hB2 w holes).2.2 v deep v27 z i o hF

set_option maxRecDepth 100000 in
set_option maxHeartbeats 400000 in
theorem C.impl_PartialValid (B : Nat) (hB1 : 67108864 ≤ B) (hB2 : B ≤ 9223372036854775807) (w : List Vl.Data) (t : Vl.Ty) (v : Vl.Value) (r : Bool) (hF : F.impl_PartialValid w t v = some r) : PureCall Try.prog B 13 [.arr (List.map Vl.Data.c w), .agg [.lit (.int .i64 t.data), .lit (.int .i64 t.index)], .agg [.lit (.int .i64 v.ctor), .lit (.int .i64 v.n), .arr (List.map Vl.Value.c v.kids)]] (.lit (.bool r)) := by
  unfold F.impl_PartialValid at hF
  refine PureCall.enterLe Try.func13 (by kernel_rfl) rfl Try.ntmps13 (by simp) (by simp) ?_
  simp -dsimp
  repeat (refine chk.go (by first | omega | assumption | (simp_all; done) | (simp_all; omega)) ?_; simp -dsimp)
  have hF := ob hF; obtain ⟨v1, e2, hF⟩ := hF
  refine ((C.impl_TypeValid B hB1 hB2 w t v1 e2)).goW (by simp) (by simp) ?_
  simp -dsimp
  repeat (refine chk.go (by first | omega | assumption | (simp_all; done) | (simp_all; omega)) ?_; simp -dsimp)
  refine abr.split (fun h3 => ?_) (fun h3 => ?_)
  · have q4 : (v1 = true) := by first | exact h3 | omega | (simpa using h3) | (simp at h3 ⊢; omega) | simp_all
    rw [if_pos q4] at hF
    simp -dsimp [h3]
    repeat (refine chk.go (by first | omega | assumption | (simp_all; done) | (simp_all; omega)) ?_; simp -dsimp [h3])
    have hF := ob hF; obtain ⟨v5, e6, hF⟩ := hF
    refine ((C.impl_valueScan B hB1 hB2 w t v (1 : Int) true (0 : Int) v5 e6)).go 2 rfl (by first | (simp; done) | (simp [h3]; done) | simp_all) (by simp) (by first | (simp; done) | (simp [h3]; done) | simp_all) ?_
    cases hF
    simp -dsimp [h3]
    repeat (refine chk.go (by first | omega | assumption | (simp_all; done) | (simp_all; omega)) ?_; simp -dsimp [h3])
  · have q4 : ¬ (v1 = true) := by first | exact h3 | omega | (simpa using h3) | (simp at h3 ⊢; omega) | simp_all
    rw [if_neg q4] at hF
    cases hF
    simp -dsimp [h3, q4]
    repeat (refine chk.go (by first | omega | assumption | (simp_all; done) | (simp_all; omega)) ?_; simp -dsimp [h3, q4])

set_option maxRecDepth 100000 in
set_option maxHeartbeats 400000 in
theorem CC.impl_more (B : Nat) (hB1 : 67108864 ≤ B) (hB2 : B ≤ 9223372036854775807)  : (∀ (a : Vl.Value) (b : Vl.Value) (r : Bool), F.impl_more a b = some r → PureCall Try.prog B 34 [.agg [.lit (.int .i64 a.ctor), .lit (.int .i64 a.n), .arr (List.map Vl.Value.c a.kids)], .agg [.lit (.int .i64 b.ctor), .lit (.int .i64 b.n), .arr (List.map Vl.Value.c b.kids)]] (.lit (.bool r))) ∧
    (∀ (a : Vl.Value) (b : Vl.Value) (i : Nat) (o : Lo Bool Unit), F.impl_more_l1 a b i = some o → ∀ (c : Code), navO [1, 1, 1, 0, 1, 0, 0] (bodyOf Try.f34) = some c → ∀ (Q : Exit → ASt → Prop), o.post (fun r => ∀ st, Post Try.prog Try.f34 (fun r' _ => r'.le (.lit (.bool r))) .ret st → Q .ret st) (fun s => Q (.exit 0) ⟨[], []⟩) → ALoopU Try.prog B 0 49 (hold c .mk) ⟨[(2, .ptr 0 0), (3, .ptr 1 0), (32, .lit (.int .i64 (b.kids.length : Int))), (33, .lit (.int .i64 (i : Int)))], [.cells [.lit (.int .i64 a.ctor), .lit (.int .i64 a.n), .arr (List.map Vl.Value.c a.kids)], .cells [.lit (.int .i64 b.ctor), .lit (.int .i64 b.n), .arr (List.map Vl.Value.c b.kids)]]⟩ (hold Q .mk)) := by
  refine F.impl_more.mutual_partial_correctness 
    (fun a b r => PureCall Try.prog B 34 [.agg [.lit (.int .i64 a.ctor), .lit (.int .i64 a.n), .arr (List.map Vl.Value.c a.kids)], .agg [.lit (.int .i64 b.ctor), .lit (.int .i64 b.n), .arr (List.map Vl.Value.c b.kids)]] (.lit (.bool r)))
    (fun a b i o => ∀ (c : Code), navO [1, 1, 1, 0, 1, 0, 0] (bodyOf Try.f34) = some c → ∀ (Q : Exit → ASt → Prop), o.post (fun r => ∀ st, Post Try.prog Try.f34 (fun r' _ => r'.le (.lit (.bool r))) .ret st → Q .ret st) (fun s => Q (.exit 0) ⟨[], []⟩) → ALoopU Try.prog B 0 49 (hold c .mk) ⟨[(2, .ptr 0 0), (3, .ptr 1 0), (32, .lit (.int .i64 (b.kids.length : Int))), (33, .lit (.int .i64 (i : Int)))], [.cells [.lit (.int .i64 a.ctor), .lit (.int .i64 a.n), .arr (List.map Vl.Value.c a.kids)], .cells [.lit (.int .i64 b.ctor), .lit (.int .i64 b.n), .arr (List.map Vl.Value.c b.kids)]]⟩ (hold Q .mk))
    ?_ ?_
  · intro _f_impl_more_l1 ih_impl_more_l1 a b r hF
    refine PureCall.enterLe Try.func34 (by kernel_rfl) rfl Try.ntmps34 (by simp) (by simp) ?_
    simp -dsimp
    repeat (refine chk.go (by first | omega | assumption | (simp_all; done) | (simp_all; omega)) ?_; simp -dsimp)
    refine abr.split (fun h1 => ?_) (fun h1 => ?_)
    · have q2 : (b.ctor = (-2)) := by first | exact h1 | omega | (simpa using h1) | (simp at h1 ⊢; omega) | simp_all
      rw [if_pos q2] at hF
      cases hF
      simp -dsimp [h1]
      repeat (refine chk.go (by first | omega | assumption | (simp_all; done) | (simp_all; omega)) ?_; simp -dsimp [h1])
    · have q2 : ¬ (b.ctor = (-2)) := by first | exact h1 | omega | (simpa using h1) | (simp at h1 ⊢; omega) | simp_all
      rw [if_neg q2] at hF
      simp -dsimp [h1, q2]
      repeat (refine chk.go (by first | omega | assumption | (simp_all; done) | (simp_all; omega)) ?_; simp -dsimp [h1, q2])
      refine abr.split (fun h3 => ?_) (fun h3 => ?_)
      · have q4 : (a.ctor = b.ctor) := by first | exact h3 | omega | (simpa using h3) | (simp at h3 ⊢; omega) | simp_all
        rw [if_pos q4] at hF
        simp -dsimp [h1, q2, h3]
        repeat (refine chk.go (by first | omega | assumption | (simp_all; done) | (simp_all; omega)) ?_; simp -dsimp [h1, q2, h3])
        refine abr.split (fun h5 => ?_) (fun h5 => ?_)
        · have q6 : (a.n = b.n) := by first | exact h5 | omega | (simpa using h5) | (simp at h5 ⊢; omega) | simp_all
          rw [if_pos q6] at hF
          simp -dsimp [h1, q2, h3, h5]
          repeat (refine chk.go (by first | omega | assumption | (simp_all; done) | (simp_all; omega)) ?_; simp -dsimp [h1, q2, h3, h5])
          refine abr.split (fun h7 => ?_) (fun h7 => ?_)
          · have q8 : ¬ (a.kids.length = b.kids.length) := by first | exact h7 | omega | (simpa using h7) | (simp at h7 ⊢; omega) | simp_all
            have z9 : ¬ ((a.kids.length : Int) = (b.kids.length : Int)) := by first | omega | simp_all
            rw [if_neg q8] at hF
            cases hF
            simp -dsimp [h1, q2, h3, h5, h7, q8, z9]
            repeat (refine chk.go (by first | omega | assumption | (simp_all; done) | (simp_all; omega)) ?_; simp -dsimp [h1, q2, h3, h5, h7, q8, z9])
          · have q8 : (a.kids.length = b.kids.length) := by first | exact h7 | omega | (simpa using h7) | (simp at h7 ⊢; omega) | simp_all
            have z9 : ((a.kids.length : Int) = (b.kids.length : Int)) := by first | omega | simp_all
            rw [if_pos q8] at hF
            simp -dsimp [h1, q2, h3, h5, h7, q8, z9]
            repeat (refine chk.go (by first | omega | assumption | (simp_all; done) | (simp_all; omega)) ?_; simp -dsimp [h1, q2, h3, h5, h7, q8, z9])
            have hF := ob hF; obtain ⟨o, ho20, hF⟩ := hF
            refine ALoop.goU ⟨[(2, .ptr 0 0), (3, .ptr 1 0), (32, .lit (.int .i64 (b.kids.length : Int))), (33, .lit (.int .i64 (0 : Int)))], [.cells [.lit (.int .i64 a.ctor), .lit (.int .i64 a.n), .arr (List.map Vl.Value.c a.kids)], .cells [.lit (.int .i64 b.ctor), .lit (.int .i64 b.n), .arr (List.map Vl.Value.c b.kids)]]⟩ (Gh.to (by simp) (by first | (simp -dsimp; done) | (simp -dsimp [h1, q2, h3, h5, h7, q8, z9]; done) | simp_all) (by first | (simp -dsimp; done) | (simp -dsimp [h1, q2, h3, h5, h7, q8, z9]; done) | simp_all) (by first | (simp -dsimp; done) | (simp -dsimp [h1, q2, h3, h5, h7, q8, z9]; done) | simp_all)) ?_
            refine (ih_impl_more_l1 a b 0 o ho20) _ rfl _ ?_
            rcases o with r0 | s
            · dsimp only at hF
              cases hF
              intro st h
              simpa using h
            · dsimp only at hF
              cases hF
              simp -dsimp
              repeat (refine chk.go (by first | omega | assumption | (simp_all; done) | (simp_all; omega)) ?_; simp -dsimp)
        · have q6 : ¬ (a.n = b.n) := by first | exact h5 | omega | (simpa using h5) | (simp at h5 ⊢; omega) | simp_all
          rw [if_neg q6] at hF
          cases hF
          simp -dsimp [h1, q2, h3, h5, q6]
          repeat (refine chk.go (by first | omega | assumption | (simp_all; done) | (simp_all; omega)) ?_; simp -dsimp [h1, q2, h3, h5, q6])
      · have q4 : ¬ (a.ctor = b.ctor) := by first | exact h3 | omega | (simpa using h3) | (simp at h3 ⊢; omega) | simp_all
        rw [if_neg q4] at hF
        cases hF
        simp -dsimp [h1, q2, h3, q4]
        repeat (refine chk.go (by first | omega | assumption | (simp_all; done) | (simp_all; omega)) ?_; simp -dsimp [h1, q2, h3, q4])
  · intro _f_impl_more _f_impl_more_l1 ih_impl_more ih_impl_more_l1 a b i o hF
    intro c hc Q hq
    obtain rfl : c = _ := navEq hc rfl
    refine ALoopU.know fun hk hs => ?_
    have d0 := hs 0 _ rfl
    simp -dsimp [Blk.bnd] at d0
    have d1 := hs 1 _ rfl
    simp -dsimp [Blk.bnd] at d1
    clear hk hs
    refine ALoopU.enter ?_
    simp -dsimp
    repeat (refine chk.go (by first | omega | assumption | (simp_all; done) | (simp_all; omega)) ?_; simp -dsimp)
    refine abr.split (fun h10 => ?_) (fun h10 => ?_)
    · have q11 : (i < b.kids.length) := by first | exact h10 | omega | (simpa using h10) | (simp at h10 ⊢; omega) | simp_all
      have z12 : ((i : Int) < (b.kids.length : Int)) := by first | omega | simp_all
      rw [if_pos q11] at hF
      simp -dsimp [h10, z12]
      repeat (refine chk.go (by first | omega | assumption | (simp_all; done) | (simp_all; omega)) ?_; simp -dsimp [h10, z12])
      refine ADraw.simple follows (by kernel_rfl) (by kernel_rfl) ?_
      have hF := ob hF; obtain ⟨x, e13, hF⟩ := hF
      have le13 := lt_of_get e13
      have hF := ob hF; obtain ⟨x14, e15, hF⟩ := hF
      have le15 := lt_of_get e15
      simp -dsimp [h10, z12, ↓e13, ↓e15]
      repeat (refine chk.go (by first | omega | assumption | (simp_all; done) | (simp_all; omega)) ?_; simp -dsimp [h10, z12, ↓e13, ↓e15])
      have hF := ob hF; obtain ⟨v, e16, hF⟩ := hF
      refine ((ih_impl_more x x14 v e16)).pgoW (by first | (simp; done) | (simp [h10, z12, ↓e13, ↓e15]; done) | simp_all) (by simp) ?_
      simp -dsimp [h10, z12, ↓e13, ↓e15]
      repeat (refine chk.go (by first | omega | assumption | (simp_all; done) | (simp_all; omega)) ?_; simp -dsimp [h10, z12, ↓e13, ↓e15])
      refine abr.split (fun h17 => ?_) (fun h17 => ?_)
      · have q18 : ¬ (v = true) := by first | exact h17 | omega | (simpa using h17) | (simp at h17 ⊢; omega) | simp_all
        rw [if_neg q18] at hF
        cases hF
        simp -dsimp [h10, z12, ↓e13, ↓e15, h17, q18]
        repeat (refine chk.go (by first | omega | assumption | (simp_all; done) | (simp_all; omega)) ?_; simp -dsimp [h10, z12, ↓e13, ↓e15, h17, q18])
        refine Leave.go _ (Gh.refl _) (hq _ ?_)
        simp -dsimp [h10, z12, ↓e13, ↓e15, h17, q18]
        repeat (refine chk.go (by first | omega | assumption | (simp_all; done) | (simp_all; omega)) ?_; simp -dsimp [h10, z12, ↓e13, ↓e15, h17, q18])
      · have q18 : (v = true) := by first | exact h17 | omega | (simpa using h17) | (simp at h17 ⊢; omega) | simp_all
        rw [if_pos q18] at hF
        have w19 : IntKind.i64.wrap ((i : Int) + 1) = (i : Int) + 1 := wrap_in (by omega) (by omega)
        simp -dsimp [h10, z12, ↓e13, ↓e15, h17, q18, w19]
        repeat (refine chk.go (by first | omega | assumption | (simp_all; done) | (simp_all; omega)) ?_; simp -dsimp [h10, z12, ↓e13, ↓e15, h17, q18, w19])
        refine Again.go ⟨[(2, .ptr 0 0), (3, .ptr 1 0), (32, .lit (.int .i64 (b.kids.length : Int))), (33, .lit (.int .i64 ((i + 1) : Int)))], [.cells [.lit (.int .i64 a.ctor), .lit (.int .i64 a.n), .arr (List.map Vl.Value.c a.kids)], .cells [.lit (.int .i64 b.ctor), .lit (.int .i64 b.n), .arr (List.map Vl.Value.c b.kids)]]⟩ (Gh.to (by simp) (by first | (simp -dsimp; done) | (simp -dsimp [h10, z12, ↓e13, ↓e15, h17, q18, w19]; done) | simp_all) (by first | (simp -dsimp; done) | (simp -dsimp [h10, z12, ↓e13, ↓e15, h17, q18, w19]; done) | simp_all) (by first | (simp -dsimp; done) | (simp -dsimp [h10, z12, ↓e13, ↓e15, h17, q18, w19]; done) | simp_all)) ?_
        exact (ih_impl_more_l1 a b (i + 1) o hF) _ rfl _ hq
    · have q11 : ¬ (i < b.kids.length) := by first | exact h10 | omega | (simpa using h10) | (simp at h10 ⊢; omega) | simp_all
      have z12 : ¬ ((i : Int) < (b.kids.length : Int)) := by first | omega | simp_all
      rw [if_neg q11] at hF
      cases hF
      simp -dsimp [h10, q11, z12]
      repeat (refine chk.go (by first | omega | assumption | (simp_all; done) | (simp_all; omega)) ?_; simp -dsimp [h10, q11, z12])
      refine Leave.go ⟨[], []⟩ (Gh.to (by simp) (by first | (simp -dsimp; done) | (simp -dsimp [h10, q11, z12]; done) | simp_all) (by first | (simp -dsimp; done) | (simp -dsimp [h10, q11, z12]; done) | simp_all) (by first | (simp -dsimp; done) | (simp -dsimp [h10, q11, z12]; done) | simp_all)) ?_
      exact hq

theorem C.impl_more (B : Nat) (hB1 : 67108864 ≤ B) (hB2 : B ≤ 9223372036854775807) (a : Vl.Value) (b : Vl.Value) (r : Bool) (hF : F.impl_more a b = some r) : PureCall Try.prog B 34 [.agg [.lit (.int .i64 a.ctor), .lit (.int .i64 a.n), .arr (List.map Vl.Value.c a.kids)], .agg [.lit (.int .i64 b.ctor), .lit (.int .i64 b.n), .arr (List.map Vl.Value.c b.kids)]] (.lit (.bool r)) :=
  (CC.impl_more B hB1 hB2 ).1 a b r hF

theorem C.impl_more_l1 (B : Nat) (hB1 : 67108864 ≤ B) (hB2 : B ≤ 9223372036854775807) (a : Vl.Value) (b : Vl.Value) (i : Nat) (o : Lo Bool Unit) (hF : F.impl_more_l1 a b i = some o) : ∀ (c : Code), navO [1, 1, 1, 0, 1, 0, 0] (bodyOf Try.f34) = some c → ∀ (Q : Exit → ASt → Prop), o.post (fun r => ∀ st, Post Try.prog Try.f34 (fun r' _ => r'.le (.lit (.bool r))) .ret st → Q .ret st) (fun s => Q (.exit 0) ⟨[], []⟩) → ALoopU Try.prog B 0 49 (hold c .mk) ⟨[(2, .ptr 0 0), (3, .ptr 1 0), (32, .lit (.int .i64 (b.kids.length : Int))), (33, .lit (.int .i64 (i : Int)))], [.cells [.lit (.int .i64 a.ctor), .lit (.int .i64 a.n), .arr (List.map Vl.Value.c a.kids)], .cells [.lit (.int .i64 b.ctor), .lit (.int .i64 b.n), .arr (List.map Vl.Value.c b.kids)]]⟩ (hold Q .mk) :=
  (CC.impl_more B hB1 hB2 ).2 a b i o hF

set_option maxRecDepth 100000 in
set_option maxHeartbeats 400000 in
theorem C.impl_KnownMore (B : Nat) (hB1 : 67108864 ≤ B) (hB2 : B ≤ 9223372036854775807) (w : List Vl.Data) (t : Vl.Ty) (a : Vl.Value) (b : Vl.Value) (r : Bool) (hF : F.impl_KnownMore w t a b = some r) : PureCall Try.prog B 17 [.arr (List.map Vl.Data.c w), .agg [.lit (.int .i64 t.data), .lit (.int .i64 t.index)], .agg [.lit (.int .i64 a.ctor), .lit (.int .i64 a.n), .arr (List.map Vl.Value.c a.kids)], .agg [.lit (.int .i64 b.ctor), .lit (.int .i64 b.n), .arr (List.map Vl.Value.c b.kids)]] (.lit (.bool r)) := by
  unfold F.impl_KnownMore at hF
  refine PureCall.enterLe Try.func17 (by kernel_rfl) rfl Try.ntmps17 (by simp) (by simp) ?_
  simp -dsimp
  repeat (refine chk.go (by first | omega | assumption | (simp_all; done) | (simp_all; omega)) ?_; simp -dsimp)
  have hF := ob hF; obtain ⟨v, e1, hF⟩ := hF
  refine ((C.impl_PartialValid B hB1 hB2 w t a v e1)).goW (by simp) (by simp) ?_
  simp -dsimp
  repeat (refine chk.go (by first | omega | assumption | (simp_all; done) | (simp_all; omega)) ?_; simp -dsimp)
  refine abr.split (fun h2 => ?_) (fun h2 => ?_)
  · have q3 : (v = true) := by first | exact h2 | omega | (simpa using h2) | (simp at h2 ⊢; omega) | simp_all
    rw [if_pos q3] at hF
    simp -dsimp [h2]
    repeat (refine chk.go (by first | omega | assumption | (simp_all; done) | (simp_all; omega)) ?_; simp -dsimp [h2])
    have hF := ob hF; obtain ⟨v4, e5, hF⟩ := hF
    refine ((C.impl_PartialValid B hB1 hB2 w t b v4 e5)).goW (by first | (simp; done) | (simp [h2]; done) | simp_all) (by simp) ?_
    simp -dsimp [h2]
    repeat (refine chk.go (by first | omega | assumption | (simp_all; done) | (simp_all; omega)) ?_; simp -dsimp [h2])
    refine abr.split (fun h6 => ?_) (fun h6 => ?_)
    · have q7 : (v4 = true) := by first | exact h6 | omega | (simpa using h6) | (simp at h6 ⊢; omega) | simp_all
      rw [if_pos q7] at hF
      simp -dsimp [h2, h6]
      repeat (refine chk.go (by first | omega | assumption | (simp_all; done) | (simp_all; omega)) ?_; simp -dsimp [h2, h6])
      have hF := ob hF; obtain ⟨v8, e9, hF⟩ := hF
      refine ((C.impl_more B hB1 hB2 a b v8 e9)).goW (by first | (simp; done) | (simp [h2, h6]; done) | simp_all) (by simp) ?_
      cases hF
      simp -dsimp [h2, h6]
      repeat (refine chk.go (by first | omega | assumption | (simp_all; done) | (simp_all; omega)) ?_; simp -dsimp [h2, h6])
    · have q7 : ¬ (v4 = true) := by first | exact h6 | omega | (simpa using h6) | (simp at h6 ⊢; omega) | simp_all
      rw [if_neg q7] at hF
      cases hF
      simp -dsimp [h2, h6, q7]
      repeat (refine chk.go (by first | omega | assumption | (simp_all; done) | (simp_all; omega)) ?_; simp -dsimp [h2, h6, q7])
  · have q3 : ¬ (v = true) := by first | exact h2 | omega | (simpa using h2) | (simp at h2 ⊢; omega) | simp_all
    rw [if_neg q3] at hF
    cases hF
    simp -dsimp [h2, q3]
    repeat (refine chk.go (by first | omega | assumption | (simp_all; done) | (simp_all; omega)) ?_; simp -dsimp [h2, q3])

set_option maxRecDepth 100000 in
set_option maxHeartbeats 400000 in
theorem C.laws_eqType (B : Nat) (hB1 : 67108864 ≤ B) (hB2 : B ≤ 9223372036854775807) (a : Vl.Ty) (b : Vl.Ty) (r : Bool) (hF : F.laws_eqType a b = some r) : PureCall Try.prog B 96 [.agg [.lit (.int .i64 a.data), .lit (.int .i64 a.index)], .agg [.lit (.int .i64 b.data), .lit (.int .i64 b.index)]] (.lit (.bool r)) := by
  unfold F.laws_eqType at hF
  refine PureCall.enterLe Try.func96 (by kernel_rfl) rfl Try.ntmps96 (by simp) (by simp) ?_
  simp -dsimp
  repeat (refine chk.go (by first | omega | assumption | (simp_all; done) | (simp_all; omega)) ?_; simp -dsimp)
  refine abr.split (fun h1 => ?_) (fun h1 => ?_)
  · have q2 : ¬ (a.data = b.data) := by first | exact h1 | omega | (simpa using h1) | (simp at h1 ⊢; omega) | simp_all
    rw [if_neg q2] at hF
    cases hF
    simp -dsimp [h1, q2]
    repeat (refine chk.go (by first | omega | assumption | (simp_all; done) | (simp_all; omega)) ?_; simp -dsimp [h1, q2])
  · have q2 : (a.data = b.data) := by first | exact h1 | omega | (simpa using h1) | (simp at h1 ⊢; omega) | simp_all
    rw [if_pos q2] at hF
    simp -dsimp [h1, q2]
    repeat (refine chk.go (by first | omega | assumption | (simp_all; done) | (simp_all; omega)) ?_; simp -dsimp [h1, q2])
    refine abr.split (fun h3 => ?_) (fun h3 => ?_)
    · have q4 : ¬ (a.index = b.index) := by first | exact h3 | omega | (simpa using h3) | (simp at h3 ⊢; omega) | simp_all
      rw [if_neg q4] at hF
      cases hF
      simp -dsimp [h1, q2, h3, q4]
      repeat (refine chk.go (by first | omega | assumption | (simp_all; done) | (simp_all; omega)) ?_; simp -dsimp [h1, q2, h3, q4])
    · have q4 : (a.index = b.index) := by first | exact h3 | omega | (simpa using h3) | (simp at h3 ⊢; omega) | simp_all
      rw [if_pos q4] at hF
      cases hF
      simp -dsimp [h1, q2, h3, q4]
      repeat (refine chk.go (by first | omega | assumption | (simp_all; done) | (simp_all; omega)) ?_; simp -dsimp [h1, q2, h3, q4])

set_option maxRecDepth 100000 in
set_option maxHeartbeats 400000 in
theorem CC.laws_eqTypeS_l1 (B : Nat) (hB1 : 67108864 ≤ B) (hB2 : B ≤ 9223372036854775807) (a : List Vl.Ty) (b : List Vl.Ty) : (∀ (i : Nat) (o : Lo Bool Unit), F.laws_eqTypeS_l1 a b i = some o → ∀ (c : Code), navO [1, 1, 0, 1, 0, 0] (bodyOf Try.f91) = some c → ∀ (Q : Exit → ASt → Prop), o.post (fun r => ∀ st, Post Try.prog Try.f91 (fun r' _ => r'.le (.lit (.bool r))) .ret st → Q .ret st) (fun s => Q (.exit 0) ⟨[], []⟩) → ALoopU Try.prog B 0 27 (hold c .mk) ⟨[(0, .arr (List.map Vl.Ty.c a)), (1, .arr (List.map Vl.Ty.c b)), (5, .lit (.int .i64 (i : Int)))], []⟩ (hold Q .mk)) := by
  refine F.laws_eqTypeS_l1.partial_correctness a b
    (fun i o => ∀ (c : Code), navO [1, 1, 0, 1, 0, 0] (bodyOf Try.f91) = some c → ∀ (Q : Exit → ASt → Prop), o.post (fun r => ∀ st, Post Try.prog Try.f91 (fun r' _ => r'.le (.lit (.bool r))) .ret st → Q .ret st) (fun s => Q (.exit 0) ⟨[], []⟩) → ALoopU Try.prog B 0 27 (hold c .mk) ⟨[(0, .arr (List.map Vl.Ty.c a)), (1, .arr (List.map Vl.Ty.c b)), (5, .lit (.int .i64 (i : Int)))], []⟩ (hold Q .mk))
    ?_
  · intro _f_laws_eqTypeS_l1 ih_laws_eqTypeS_l1 i o hF
    intro c hc Q hq
    obtain rfl : c = _ := navEq hc rfl
    refine ALoopU.know fun hk hs => ?_
    have b0 := hk 0
    simp -dsimp at b0
    have b1 := hk 1
    simp -dsimp at b1
    clear hk hs
    refine ALoopU.enter ?_
    simp -dsimp
    repeat (refine chk.go (by first | omega | assumption | (simp_all; done) | (simp_all; omega)) ?_; simp -dsimp)
    refine abr.split (fun h4 => ?_) (fun h4 => ?_)
    · have q5 : (i < a.length) := by first | exact h4 | omega | (simpa using h4) | (simp at h4 ⊢; omega) | simp_all
      have z6 : ((i : Int) < (a.length : Int)) := by first | omega | simp_all
      rw [if_pos q5] at hF
      simp -dsimp [h4, z6]
      repeat (refine chk.go (by first | omega | assumption | (simp_all; done) | (simp_all; omega)) ?_; simp -dsimp [h4, z6])
      refine ADraw.simple follows (by kernel_rfl) (by kernel_rfl) ?_
      have hF := ob hF; obtain ⟨x, e7, hF⟩ := hF
      have le7 := lt_of_get e7
      have hF := ob hF; obtain ⟨x8, e9, hF⟩ := hF
      have le9 := lt_of_get e9
      simp -dsimp [h4, z6, ↓e7, ↓e9]
      repeat (refine chk.go (by first | omega | assumption | (simp_all; done) | (simp_all; omega)) ?_; simp -dsimp [h4, z6, ↓e7, ↓e9])
      have hF := ob hF; obtain ⟨v, e10, hF⟩ := hF
      refine ((C.laws_eqType B hB1 hB2 x x8 v e10)).pgoW (by first | (simp; done) | (simp [h4, z6, ↓e7, ↓e9]; done) | simp_all) (by simp) ?_
      simp -dsimp [h4, z6, ↓e7, ↓e9]
      repeat (refine chk.go (by first | omega | assumption | (simp_all; done) | (simp_all; omega)) ?_; simp -dsimp [h4, z6, ↓e7, ↓e9])
      refine abr.split (fun h11 => ?_) (fun h11 => ?_)
      · have q12 : ¬ (v = true) := by first | exact h11 | omega | (simpa using h11) | (simp at h11 ⊢; omega) | simp_all
        rw [if_neg q12] at hF
        cases hF
        simp -dsimp [h4, z6, ↓e7, ↓e9, h11, q12]
        repeat (refine chk.go (by first | omega | assumption | (simp_all; done) | (simp_all; omega)) ?_; simp -dsimp [h4, z6, ↓e7, ↓e9, h11, q12])
        refine Leave.go _ (Gh.refl _) (hq _ ?_)
        simp -dsimp [h4, z6, ↓e7, ↓e9, h11, q12]
        repeat (refine chk.go (by first | omega | assumption | (simp_all; done) | (simp_all; omega)) ?_; simp -dsimp [h4, z6, ↓e7, ↓e9, h11, q12])
      · have q12 : (v = true) := by first | exact h11 | omega | (simpa using h11) | (simp at h11 ⊢; omega) | simp_all
        rw [if_pos q12] at hF
        have w13 : IntKind.i64.wrap ((i : Int) + 1) = (i : Int) + 1 := wrap_in (by omega) (by omega)
        simp -dsimp [h4, z6, ↓e7, ↓e9, h11, q12, w13]
        repeat (refine chk.go (by first | omega | assumption | (simp_all; done) | (simp_all; omega)) ?_; simp -dsimp [h4, z6, ↓e7, ↓e9, h11, q12, w13])
        refine Again.go ⟨[(0, .arr (List.map Vl.Ty.c a)), (1, .arr (List.map Vl.Ty.c b)), (5, .lit (.int .i64 ((i + 1) : Int)))], []⟩ (Gh.to (by simp) (by first | (simp -dsimp; done) | (simp -dsimp [h4, z6, ↓e7, ↓e9, h11, q12, w13]; done) | simp_all) (by first | (simp -dsimp; done) | (simp -dsimp [h4, z6, ↓e7, ↓e9, h11, q12, w13]; done) | simp_all) (by first | (simp -dsimp; done) | (simp -dsimp [h4, z6, ↓e7, ↓e9, h11, q12, w13]; done) | simp_all)) ?_
        exact (ih_laws_eqTypeS_l1 (i + 1) o hF) _ rfl _ hq
    · have q5 : ¬ (i < a.length) := by first | exact h4 | omega | (simpa using h4) | (simp at h4 ⊢; omega) | simp_all
      have z6 : ¬ ((i : Int) < (a.length : Int)) := by first | omega | simp_all
      rw [if_neg q5] at hF
      cases hF
      simp -dsimp [h4, q5, z6]
      repeat (refine chk.go (by first | omega | assumption | (simp_all; done) | (simp_all; omega)) ?_; simp -dsimp [h4, q5, z6])
      refine Leave.go ⟨[], []⟩ (Gh.to (by simp) (by first | (simp -dsimp; done) | (simp -dsimp [h4, q5, z6]; done) | simp_all) (by first | (simp -dsimp; done) | (simp -dsimp [h4, q5, z6]; done) | simp_all) (by first | (simp -dsimp; done) | (simp -dsimp [h4, q5, z6]; done) | simp_all)) ?_
      exact hq

theorem C.laws_eqTypeS_l1 (B : Nat) (hB1 : 67108864 ≤ B) (hB2 : B ≤ 9223372036854775807) (a : List Vl.Ty) (b : List Vl.Ty) (i : Nat) (o : Lo Bool Unit) (hF : F.laws_eqTypeS_l1 a b i = some o) : ∀ (c : Code), navO [1, 1, 0, 1, 0, 0] (bodyOf Try.f91) = some c → ∀ (Q : Exit → ASt → Prop), o.post (fun r => ∀ st, Post Try.prog Try.f91 (fun r' _ => r'.le (.lit (.bool r))) .ret st → Q .ret st) (fun s => Q (.exit 0) ⟨[], []⟩) → ALoopU Try.prog B 0 27 (hold c .mk) ⟨[(0, .arr (List.map Vl.Ty.c a)), (1, .arr (List.map Vl.Ty.c b)), (5, .lit (.int .i64 (i : Int)))], []⟩ (hold Q .mk) :=
  (CC.laws_eqTypeS_l1 B hB1 hB2 a b) i o hF

set_option maxRecDepth 100000 in
set_option maxHeartbeats 400000 in
theorem C.laws_eqTypeS (B : Nat) (hB1 : 67108864 ≤ B) (hB2 : B ≤ 9223372036854775807) (a : List Vl.Ty) (b : List Vl.Ty) (r : Bool) (hF : F.laws_eqTypeS a b = some r) : PureCall Try.prog B 91 [.arr (List.map Vl.Ty.c a), .arr (List.map Vl.Ty.c b)] (.lit (.bool r)) := by
  unfold F.laws_eqTypeS at hF
  refine PureCall.enterLe Try.func91 (by kernel_rfl) rfl Try.ntmps91 (by simp) (by simp) ?_
  simp -dsimp
  repeat (refine chk.go (by first | omega | assumption | (simp_all; done) | (simp_all; omega)) ?_; simp -dsimp)
  refine abr.split (fun h1 => ?_) (fun h1 => ?_)
  · have q2 : ¬ (a.length = b.length) := by first | exact h1 | omega | (simpa using h1) | (simp at h1 ⊢; omega) | simp_all
    have z3 : ¬ ((a.length : Int) = (b.length : Int)) := by first | omega | simp_all
    rw [if_neg q2] at hF
    cases hF
    simp -dsimp [h1, q2, z3]
    repeat (refine chk.go (by first | omega | assumption | (simp_all; done) | (simp_all; omega)) ?_; simp -dsimp [h1, q2, z3])
  · have q2 : (a.length = b.length) := by first | exact h1 | omega | (simpa using h1) | (simp at h1 ⊢; omega) | simp_all
    have z3 : ((a.length : Int) = (b.length : Int)) := by first | omega | simp_all
    rw [if_pos q2] at hF
    simp -dsimp [h1, q2, z3]
    repeat (refine chk.go (by first | omega | assumption | (simp_all; done) | (simp_all; omega)) ?_; simp -dsimp [h1, q2, z3])
    have hF := ob hF; obtain ⟨o, ho14, hF⟩ := hF
    refine ALoop.goU ⟨[(0, .arr (List.map Vl.Ty.c a)), (1, .arr (List.map Vl.Ty.c b)), (5, .lit (.int .i64 (0 : Int)))], []⟩ (Gh.to (by simp) (by first | (simp -dsimp; done) | (simp -dsimp [h1, q2, z3]; done) | simp_all) (by first | (simp -dsimp; done) | (simp -dsimp [h1, q2, z3]; done) | simp_all) (by first | (simp -dsimp; done) | (simp -dsimp [h1, q2, z3]; done) | simp_all)) ?_
    refine (C.laws_eqTypeS_l1 B hB1 hB2 a b 0 o ho14) _ rfl _ ?_
    rcases o with r0 | s
    · dsimp only at hF
      cases hF
      intro st h
      simpa using h
    · dsimp only at hF
      cases hF
      simp -dsimp
      repeat (refine chk.go (by first | omega | assumption | (simp_all; done) | (simp_all; omega)) ?_; simp -dsimp)

set_option maxRecDepth 100000 in
set_option maxHeartbeats 400000 in
theorem C.laws_eqCtor (B : Nat) (hB1 : 67108864 ≤ B) (hB2 : B ≤ 9223372036854775807) (a : Vl.Ctor) (b : Vl.Ctor) (r : Bool) (hF : F.laws_eqCtor a b = some r) : PureCall Try.prog B 76 [.agg [.lit (.string a.name), .arr (List.map Vl.Ty.c a.args), .lit (.int .i64 a.index)], .agg [.lit (.string b.name), .arr (List.map Vl.Ty.c b.args), .lit (.int .i64 b.index)]] (.lit (.bool r)) := by
  unfold F.laws_eqCtor at hF
  refine PureCall.enterLe Try.func76 (by kernel_rfl) rfl Try.ntmps76 (by simp) (by simp) ?_
  simp -dsimp
  repeat (refine chk.go (by first | omega | assumption | (simp_all; done) | (simp_all; omega)) ?_; simp -dsimp)
  refine abr.split (fun h1 => ?_) (fun h1 => ?_)
  · have q2 : ¬ (a.name.toList = b.name.toList) := by first | exact h1 | omega | (simpa using h1) | (simp at h1 ⊢; omega) | simp_all
    rw [if_neg q2] at hF
    cases hF
    simp -dsimp [h1, q2]
    repeat (refine chk.go (by first | omega | assumption | (simp_all; done) | (simp_all; omega)) ?_; simp -dsimp [h1, q2])
  · have q2 : (a.name.toList = b.name.toList) := by first | exact h1 | omega | (simpa using h1) | (simp at h1 ⊢; omega) | simp_all
    rw [if_pos q2] at hF
    simp -dsimp [h1, q2]
    repeat (refine chk.go (by first | omega | assumption | (simp_all; done) | (simp_all; omega)) ?_; simp -dsimp [h1, q2])
    have hF := ob hF; obtain ⟨v, e3, hF⟩ := hF
    refine ((C.laws_eqTypeS B hB1 hB2 a.args b.args v e3)).goW (by first | (simp; done) | (simp [h1, q2]; done) | simp_all) (by simp) ?_
    simp -dsimp [h1, q2]
    repeat (refine chk.go (by first | omega | assumption | (simp_all; done) | (simp_all; omega)) ?_; simp -dsimp [h1, q2])
    refine abr.split (fun h4 => ?_) (fun h4 => ?_)
    · have q5 : ¬ (v = true) := by first | exact h4 | omega | (simpa using h4) | (simp at h4 ⊢; omega) | simp_all
      rw [if_neg q5] at hF
      cases hF
      simp -dsimp [h1, q2, h4, q5]
      repeat (refine chk.go (by first | omega | assumption | (simp_all; done) | (simp_all; omega)) ?_; simp -dsimp [h1, q2, h4, q5])
    · have q5 : (v = true) := by first | exact h4 | omega | (simpa using h4) | (simp at h4 ⊢; omega) | simp_all
      rw [if_pos q5] at hF
      simp -dsimp [h1, q2, h4, q5]
      repeat (refine chk.go (by first | omega | assumption | (simp_all; done) | (simp_all; omega)) ?_; simp -dsimp [h1, q2, h4, q5])
      refine abr.split (fun h6 => ?_) (fun h6 => ?_)
      · have q7 : ¬ (a.index = b.index) := by first | exact h6 | omega | (simpa using h6) | (simp at h6 ⊢; omega) | simp_all
        rw [if_neg q7] at hF
        cases hF
        simp -dsimp [h1, q2, h4, q5, h6, q7]
        repeat (refine chk.go (by first | omega | assumption | (simp_all; done) | (simp_all; omega)) ?_; simp -dsimp [h1, q2, h4, q5, h6, q7])
      · have q7 : (a.index = b.index) := by first | exact h6 | omega | (simpa using h6) | (simp at h6 ⊢; omega) | simp_all
        rw [if_pos q7] at hF
        cases hF
        simp -dsimp [h1, q2, h4, q5, h6, q7]
        repeat (refine chk.go (by first | omega | assumption | (simp_all; done) | (simp_all; omega)) ?_; simp -dsimp [h1, q2, h4, q5, h6, q7])

set_option maxRecDepth 100000 in
set_option maxHeartbeats 400000 in
theorem CC.laws_eqCtorS_l1 (B : Nat) (hB1 : 67108864 ≤ B) (hB2 : B ≤ 9223372036854775807) (a : List Vl.Ctor) (b : List Vl.Ctor) : (∀ (i : Nat) (o : Lo Bool Unit), F.laws_eqCtorS_l1 a b i = some o → ∀ (c : Code), navO [1, 1, 0, 1, 0, 0] (bodyOf Try.f55) = some c → ∀ (Q : Exit → ASt → Prop), o.post (fun r => ∀ st, Post Try.prog Try.f55 (fun r' _ => r'.le (.lit (.bool r))) .ret st → Q .ret st) (fun s => Q (.exit 0) ⟨[], []⟩) → ALoopU Try.prog B 0 27 (hold c .mk) ⟨[(0, .arr (List.map Vl.Ctor.c a)), (1, .arr (List.map Vl.Ctor.c b)), (5, .lit (.int .i64 (i : Int)))], []⟩ (hold Q .mk)) := by
  refine F.laws_eqCtorS_l1.partial_correctness a b
    (fun i o => ∀ (c : Code), navO [1, 1, 0, 1, 0, 0] (bodyOf Try.f55) = some c → ∀ (Q : Exit → ASt → Prop), o.post (fun r => ∀ st, Post Try.prog Try.f55 (fun r' _ => r'.le (.lit (.bool r))) .ret st → Q .ret st) (fun s => Q (.exit 0) ⟨[], []⟩) → ALoopU Try.prog B 0 27 (hold c .mk) ⟨[(0, .arr (List.map Vl.Ctor.c a)), (1, .arr (List.map Vl.Ctor.c b)), (5, .lit (.int .i64 (i : Int)))], []⟩ (hold Q .mk))
    ?_
  · intro _f_laws_eqCtorS_l1 ih_laws_eqCtorS_l1 i o hF
    intro c hc Q hq
    obtain rfl : c = _ := navEq hc rfl
    refine ALoopU.know fun hk hs => ?_
    have b0 := hk 0
    simp -dsimp at b0
    have b1 := hk 1
    simp -dsimp at b1
    clear hk hs
    refine ALoopU.enter ?_
    simp -dsimp
    repeat (refine chk.go (by first | omega | assumption | (simp_all; done) | (simp_all; omega)) ?_; simp -dsimp)
    refine abr.split (fun h4 => ?_) (fun h4 => ?_)
    · have q5 : (i < a.length) := by first | exact h4 | omega | (simpa using h4) | (simp at h4 ⊢; omega) | simp_all
      have z6 : ((i : Int) < (a.length : Int)) := by first | omega | simp_all
      rw [if_pos q5] at hF
      simp -dsimp [h4, z6]
      repeat (refine chk.go (by first | omega | assumption | (simp_all; done) | (simp_all; omega)) ?_; simp -dsimp [h4, z6])
      refine ADraw.simple follows (by kernel_rfl) (by kernel_rfl) ?_
      have hF := ob hF; obtain ⟨x, e7, hF⟩ := hF
      have le7 := lt_of_get e7
      have hF := ob hF; obtain ⟨x8, e9, hF⟩ := hF
      have le9 := lt_of_get e9
      simp -dsimp [h4, z6, ↓e7, ↓e9]
      repeat (refine chk.go (by first | omega | assumption | (simp_all; done) | (simp_all; omega)) ?_; simp -dsimp [h4, z6, ↓e7, ↓e9])
      have hF := ob hF; obtain ⟨v, e10, hF⟩ := hF
      refine ((C.laws_eqCtor B hB1 hB2 x x8 v e10)).pgoW (by first | (simp; done) | (simp [h4, z6, ↓e7, ↓e9]; done) | simp_all) (by simp) ?_
      simp -dsimp [h4, z6, ↓e7, ↓e9]
      repeat (refine chk.go (by first | omega | assumption | (simp_all; done) | (simp_all; omega)) ?_; simp -dsimp [h4, z6, ↓e7, ↓e9])
      refine abr.split (fun h11 => ?_) (fun h11 => ?_)
      · have q12 : ¬ (v = true) := by first | exact h11 | omega | (simpa using h11) | (simp at h11 ⊢; omega) | simp_all
        rw [if_neg q12] at hF
        cases hF
        simp -dsimp [h4, z6, ↓e7, ↓e9, h11, q12]
        repeat (refine chk.go (by first | omega | assumption | (simp_all; done) | (simp_all; omega)) ?_; simp -dsimp [h4, z6, ↓e7, ↓e9, h11, q12])
        refine Leave.go _ (Gh.refl _) (hq _ ?_)
        simp -dsimp [h4, z6, ↓e7, ↓e9, h11, q12]
        repeat (refine chk.go (by first | omega | assumption | (simp_all; done) | (simp_all; omega)) ?_; simp -dsimp [h4, z6, ↓e7, ↓e9, h11, q12])
      · have q12 : (v = true) := by first | exact h11 | omega | (simpa using h11) | (simp at h11 ⊢; omega) | simp_all
        rw [if_pos q12] at hF
        have w13 : IntKind.i64.wrap ((i : Int) + 1) = (i : Int) + 1 := wrap_in (by omega) (by omega)
        simp -dsimp [h4, z6, ↓e7, ↓e9, h11, q12, w13]
        repeat (refine chk.go (by first | omega | assumption | (simp_all; done) | (simp_all; omega)) ?_; simp -dsimp [h4, z6, ↓e7, ↓e9, h11, q12, w13])
        refine Again.go ⟨[(0, .arr (List.map Vl.Ctor.c a)), (1, .arr (List.map Vl.Ctor.c b)), (5, .lit (.int .i64 ((i + 1) : Int)))], []⟩ (Gh.to (by simp) (by first | (simp -dsimp; done) | (simp -dsimp [h4, z6, ↓e7, ↓e9, h11, q12, w13]; done) | simp_all) (by first | (simp -dsimp; done) | (simp -dsimp [h4, z6, ↓e7, ↓e9, h11, q12, w13]; done) | simp_all) (by first | (simp -dsimp; done) | (simp -dsimp [h4, z6, ↓e7, ↓e9, h11, q12, w13]; done) | simp_all)) ?_
        exact (ih_laws_eqCtorS_l1 (i + 1) o hF) _ rfl _ hq
    · have q5 : ¬ (i < a.length) := by first | exact h4 | omega | (simpa using h4) | (simp at h4 ⊢; omega) | simp_all
      have z6 : ¬ ((i : Int) < (a.length : Int)) := by first | omega | simp_all
      rw [if_neg q5] at hF
      cases hF
      simp -dsimp [h4, q5, z6]
      repeat (refine chk.go (by first | omega | assumption | (simp_all; done) | (simp_all; omega)) ?_; simp -dsimp [h4, q5, z6])
      refine Leave.go ⟨[], []⟩ (Gh.to (by simp) (by first | (simp -dsimp; done) | (simp -dsimp [h4, q5, z6]; done) | simp_all) (by first | (simp -dsimp; done) | (simp -dsimp [h4, q5, z6]; done) | simp_all) (by first | (simp -dsimp; done) | (simp -dsimp [h4, q5, z6]; done) | simp_all)) ?_
      exact hq

theorem C.laws_eqCtorS_l1 (B : Nat) (hB1 : 67108864 ≤ B) (hB2 : B ≤ 9223372036854775807) (a : List Vl.Ctor) (b : List Vl.Ctor) (i : Nat) (o : Lo Bool Unit) (hF : F.laws_eqCtorS_l1 a b i = some o) : ∀ (c : Code), navO [1, 1, 0, 1, 0, 0] (bodyOf Try.f55) = some c → ∀ (Q : Exit → ASt → Prop), o.post (fun r => ∀ st, Post Try.prog Try.f55 (fun r' _ => r'.le (.lit (.bool r))) .ret st → Q .ret st) (fun s => Q (.exit 0) ⟨[], []⟩) → ALoopU Try.prog B 0 27 (hold c .mk) ⟨[(0, .arr (List.map Vl.Ctor.c a)), (1, .arr (List.map Vl.Ctor.c b)), (5, .lit (.int .i64 (i : Int)))], []⟩ (hold Q .mk) :=
  (CC.laws_eqCtorS_l1 B hB1 hB2 a b) i o hF

set_option maxRecDepth 100000 in
set_option maxHeartbeats 400000 in
theorem C.laws_eqCtorS (B : Nat) (hB1 : 67108864 ≤ B) (hB2 : B ≤ 9223372036854775807) (a : List Vl.Ctor) (b : List Vl.Ctor) (r : Bool) (hF : F.laws_eqCtorS a b = some r) : PureCall Try.prog B 55 [.arr (List.map Vl.Ctor.c a), .arr (List.map Vl.Ctor.c b)] (.lit (.bool r)) := by
  unfold F.laws_eqCtorS at hF
  refine PureCall.enterLe Try.func55 (by kernel_rfl) rfl Try.ntmps55 (by simp) (by simp) ?_
  simp -dsimp
  repeat (refine chk.go (by first | omega | assumption | (simp_all; done) | (simp_all; omega)) ?_; simp -dsimp)
  refine abr.split (fun h1 => ?_) (fun h1 => ?_)
  · have q2 : ¬ (a.length = b.length) := by first | exact h1 | omega | (simpa using h1) | (simp at h1 ⊢; omega) | simp_all
    have z3 : ¬ ((a.length : Int) = (b.length : Int)) := by first | omega | simp_all
    rw [if_neg q2] at hF
    cases hF
    simp -dsimp [h1, q2, z3]
    repeat (refine chk.go (by first | omega | assumption | (simp_all; done) | (simp_all; omega)) ?_; simp -dsimp [h1, q2, z3])
  · have q2 : (a.length = b.length) := by first | exact h1 | omega | (simpa using h1) | (simp at h1 ⊢; omega) | simp_all
    have z3 : ((a.length : Int) = (b.length : Int)) := by first | omega | simp_all
    rw [if_pos q2] at hF
    simp -dsimp [h1, q2, z3]
    repeat (refine chk.go (by first | omega | assumption | (simp_all; done) | (simp_all; omega)) ?_; simp -dsimp [h1, q2, z3])
    have hF := ob hF; obtain ⟨o, ho14, hF⟩ := hF
    refine ALoop.goU ⟨[(0, .arr (List.map Vl.Ctor.c a)), (1, .arr (List.map Vl.Ctor.c b)), (5, .lit (.int .i64 (0 : Int)))], []⟩ (Gh.to (by simp) (by first | (simp -dsimp; done) | (simp -dsimp [h1, q2, z3]; done) | simp_all) (by first | (simp -dsimp; done) | (simp -dsimp [h1, q2, z3]; done) | simp_all) (by first | (simp -dsimp; done) | (simp -dsimp [h1, q2, z3]; done) | simp_all)) ?_
    refine (C.laws_eqCtorS_l1 B hB1 hB2 a b 0 o ho14) _ rfl _ ?_
    rcases o with r0 | s
    · dsimp only at hF
      cases hF
      intro st h
      simpa using h
    · dsimp only at hF
      cases hF
      simp -dsimp
      repeat (refine chk.go (by first | omega | assumption | (simp_all; done) | (simp_all; omega)) ?_; simp -dsimp)

set_option maxRecDepth 100000 in
set_option maxHeartbeats 400000 in
theorem C.laws_eqData (B : Nat) (hB1 : 67108864 ≤ B) (hB2 : B ≤ 9223372036854775807) (a : Vl.Data) (b : Vl.Data) (r : Bool) (hF : F.laws_eqData a b = some r) : PureCall Try.prog B 31 [.agg [.lit (.string a.name), .arr (List.map Vl.Ctor.c a.ctors)], .agg [.lit (.string b.name), .arr (List.map Vl.Ctor.c b.ctors)]] (.lit (.bool r)) := by
  unfold F.laws_eqData at hF
  refine PureCall.enterLe Try.func31 (by kernel_rfl) rfl Try.ntmps31 (by simp) (by simp) ?_
  simp -dsimp
  repeat (refine chk.go (by first | omega | assumption | (simp_all; done) | (simp_all; omega)) ?_; simp -dsimp)
  refine abr.split (fun h1 => ?_) (fun h1 => ?_)
  · have q2 : ¬ (a.name.toList = b.name.toList) := by first | exact h1 | omega | (simpa using h1) | (simp at h1 ⊢; omega) | simp_all
    rw [if_neg q2] at hF
    cases hF
    simp -dsimp [h1, q2]
    repeat (refine chk.go (by first | omega | assumption | (simp_all; done) | (simp_all; omega)) ?_; simp -dsimp [h1, q2])
  · have q2 : (a.name.toList = b.name.toList) := by first | exact h1 | omega | (simpa using h1) | (simp at h1 ⊢; omega) | simp_all
    rw [if_pos q2] at hF
    simp -dsimp [h1, q2]
    repeat (refine chk.go (by first | omega | assumption | (simp_all; done) | (simp_all; omega)) ?_; simp -dsimp [h1, q2])
    have hF := ob hF; obtain ⟨v, e3, hF⟩ := hF
    refine ((C.laws_eqCtorS B hB1 hB2 a.ctors b.ctors v e3)).goW (by first | (simp; done) | (simp [h1, q2]; done) | simp_all) (by simp) ?_
    simp -dsimp [h1, q2]
    repeat (refine chk.go (by first | omega | assumption | (simp_all; done) | (simp_all; omega)) ?_; simp -dsimp [h1, q2])
    refine abr.split (fun h4 => ?_) (fun h4 => ?_)
    · have q5 : ¬ (v = true) := by first | exact h4 | omega | (simpa using h4) | (simp at h4 ⊢; omega) | simp_all
      rw [if_neg q5] at hF
      cases hF
      simp -dsimp [h1, q2, h4, q5]
      repeat (refine chk.go (by first | omega | assumption | (simp_all; done) | (simp_all; omega)) ?_; simp -dsimp [h1, q2, h4, q5])
    · have q5 : (v = true) := by first | exact h4 | omega | (simpa using h4) | (simp at h4 ⊢; omega) | simp_all
      rw [if_pos q5] at hF
      cases hF
      simp -dsimp [h1, q2, h4, q5]
      repeat (refine chk.go (by first | omega | assumption | (simp_all; done) | (simp_all; omega)) ?_; simp -dsimp [h1, q2, h4, q5])

set_option maxRecDepth 100000 in
set_option maxHeartbeats 400000 in
theorem CC.laws_eqDataS_l1 (B : Nat) (hB1 : 67108864 ≤ B) (hB2 : B ≤ 9223372036854775807) (a : List Vl.Data) (b : List Vl.Data) : (∀ (i : Nat) (o : Lo Bool Unit), F.laws_eqDataS_l1 a b i = some o → ∀ (c : Code), navO [1, 1, 0, 1, 0, 0] (bodyOf Try.f14) = some c → ∀ (Q : Exit → ASt → Prop), o.post (fun r => ∀ st, Post Try.prog Try.f14 (fun r' _ => r'.le (.lit (.bool r))) .ret st → Q .ret st) (fun s => Q (.exit 0) ⟨[], []⟩) → ALoopU Try.prog B 0 27 (hold c .mk) ⟨[(0, .arr (List.map Vl.Data.c a)), (1, .arr (List.map Vl.Data.c b)), (5, .lit (.int .i64 (i : Int)))], []⟩ (hold Q .mk)) := by
  refine F.laws_eqDataS_l1.partial_correctness a b
    (fun i o => ∀ (c : Code), navO [1, 1, 0, 1, 0, 0] (bodyOf Try.f14) = some c → ∀ (Q : Exit → ASt → Prop), o.post (fun r => ∀ st, Post Try.prog Try.f14 (fun r' _ => r'.le (.lit (.bool r))) .ret st → Q .ret st) (fun s => Q (.exit 0) ⟨[], []⟩) → ALoopU Try.prog B 0 27 (hold c .mk) ⟨[(0, .arr (List.map Vl.Data.c a)), (1, .arr (List.map Vl.Data.c b)), (5, .lit (.int .i64 (i : Int)))], []⟩ (hold Q .mk))
    ?_
  · intro _f_laws_eqDataS_l1 ih_laws_eqDataS_l1 i o hF
    intro c hc Q hq
    obtain rfl : c = _ := navEq hc rfl
    refine ALoopU.know fun hk hs => ?_
    have b0 := hk 0
    simp -dsimp at b0
    have b1 := hk 1
    simp -dsimp at b1
    clear hk hs
    refine ALoopU.enter ?_
    simp -dsimp
    repeat (refine chk.go (by first | omega | assumption | (simp_all; done) | (simp_all; omega)) ?_; simp -dsimp)
    refine abr.split (fun h4 => ?_) (fun h4 => ?_)
    · have q5 : (i < a.length) := by first | exact h4 | omega | (simpa using h4) | (simp at h4 ⊢; omega) | simp_all
      have z6 : ((i : Int) < (a.length : Int)) := by first | omega | simp_all
      rw [if_pos q5] at hF
      simp -dsimp [h4, z6]
      repeat (refine chk.go (by first | omega | assumption | (simp_all; done) | (simp_all; omega)) ?_; simp -dsimp [h4, z6])
      refine ADraw.simple follows (by kernel_rfl) (by kernel_rfl) ?_
      have hF := ob hF; obtain ⟨x, e7, hF⟩ := hF
      have le7 := lt_of_get e7
      have hF := ob hF; obtain ⟨x8, e9, hF⟩ := hF
      have le9 := lt_of_get e9
      simp -dsimp [h4, z6, ↓e7, ↓e9]
      repeat (refine chk.go (by first | omega | assumption | (simp_all; done) | (simp_all; omega)) ?_; simp -dsimp [h4, z6, ↓e7, ↓e9])
      have hF := ob hF; obtain ⟨v, e10, hF⟩ := hF
      refine ((C.laws_eqData B hB1 hB2 x x8 v e10)).pgoW (by first | (simp; done) | (simp [h4, z6, ↓e7, ↓e9]; done) | simp_all) (by simp) ?_
      simp -dsimp [h4, z6, ↓e7, ↓e9]
      repeat (refine chk.go (by first | omega | assumption | (simp_all; done) | (simp_all; omega)) ?_; simp -dsimp [h4, z6, ↓e7, ↓e9])
      refine abr.split (fun h11 => ?_) (fun h11 => ?_)
      · have q12 : ¬ (v = true) := by first | exact h11 | omega | (simpa using h11) | (simp at h11 ⊢; omega) | simp_all
        rw [if_neg q12] at hF
        cases hF
        simp -dsimp [h4, z6, ↓e7, ↓e9, h11, q12]
        repeat (refine chk.go (by first | omega | assumption | (simp_all; done) | (simp_all; omega)) ?_; simp -dsimp [h4, z6, ↓e7, ↓e9, h11, q12])
        refine Leave.go _ (Gh.refl _) (hq _ ?_)
        simp -dsimp [h4, z6, ↓e7, ↓e9, h11, q12]
        repeat (refine chk.go (by first | omega | assumption | (simp_all; done) | (simp_all; omega)) ?_; simp -dsimp [h4, z6, ↓e7, ↓e9, h11, q12])
      · have q12 : (v = true) := by first | exact h11 | omega | (simpa using h11) | (simp at h11 ⊢; omega) | simp_all
        rw [if_pos q12] at hF
        have w13 : IntKind.i64.wrap ((i : Int) + 1) = (i : Int) + 1 := wrap_in (by omega) (by omega)
        simp -dsimp [h4, z6, ↓e7, ↓e9, h11, q12, w13]
        repeat (refine chk.go (by first | omega | assumption | (simp_all; done) | (simp_all; omega)) ?_; simp -dsimp [h4, z6, ↓e7, ↓e9, h11, q12, w13])
        refine Again.go ⟨[(0, .arr (List.map Vl.Data.c a)), (1, .arr (List.map Vl.Data.c b)), (5, .lit (.int .i64 ((i + 1) : Int)))], []⟩ (Gh.to (by simp) (by first | (simp -dsimp; done) | (simp -dsimp [h4, z6, ↓e7, ↓e9, h11, q12, w13]; done) | simp_all) (by first | (simp -dsimp; done) | (simp -dsimp [h4, z6, ↓e7, ↓e9, h11, q12, w13]; done) | simp_all) (by first | (simp -dsimp; done) | (simp -dsimp [h4, z6, ↓e7, ↓e9, h11, q12, w13]; done) | simp_all)) ?_
        exact (ih_laws_eqDataS_l1 (i + 1) o hF) _ rfl _ hq
    · have q5 : ¬ (i < a.length) := by first | exact h4 | omega | (simpa using h4) | (simp at h4 ⊢; omega) | simp_all
      have z6 : ¬ ((i : Int) < (a.length : Int)) := by first | omega | simp_all
      rw [if_neg q5] at hF
      cases hF
      simp -dsimp [h4, q5, z6]
      repeat (refine chk.go (by first | omega | assumption | (simp_all; done) | (simp_all; omega)) ?_; simp -dsimp [h4, q5, z6])
      refine Leave.go ⟨[], []⟩ (Gh.to (by simp) (by first | (simp -dsimp; done) | (simp -dsimp [h4, q5, z6]; done) | simp_all) (by first | (simp -dsimp; done) | (simp -dsimp [h4, q5, z6]; done) | simp_all) (by first | (simp -dsimp; done) | (simp -dsimp [h4, q5, z6]; done) | simp_all)) ?_
      exact hq

theorem C.laws_eqDataS_l1 (B : Nat) (hB1 : 67108864 ≤ B) (hB2 : B ≤ 9223372036854775807) (a : List Vl.Data) (b : List Vl.Data) (i : Nat) (o : Lo Bool Unit) (hF : F.laws_eqDataS_l1 a b i = some o) : ∀ (c : Code), navO [1, 1, 0, 1, 0, 0] (bodyOf Try.f14) = some c → ∀ (Q : Exit → ASt → Prop), o.post (fun r => ∀ st, Post Try.prog Try.f14 (fun r' _ => r'.le (.lit (.bool r))) .ret st → Q .ret st) (fun s => Q (.exit 0) ⟨[], []⟩) → ALoopU Try.prog B 0 27 (hold c .mk) ⟨[(0, .arr (List.map Vl.Data.c a)), (1, .arr (List.map Vl.Data.c b)), (5, .lit (.int .i64 (i : Int)))], []⟩ (hold Q .mk) :=
  (CC.laws_eqDataS_l1 B hB1 hB2 a b) i o hF

set_option maxRecDepth 100000 in
set_option maxHeartbeats 400000 in
theorem C.laws_eqDataS (B : Nat) (hB1 : 67108864 ≤ B) (hB2 : B ≤ 9223372036854775807) (a : List Vl.Data) (b : List Vl.Data) (r : Bool) (hF : F.laws_eqDataS a b = some r) : PureCall Try.prog B 14 [.arr (List.map Vl.Data.c a), .arr (List.map Vl.Data.c b)] (.lit (.bool r)) := by
  unfold F.laws_eqDataS at hF
  refine PureCall.enterLe Try.func14 (by kernel_rfl) rfl Try.ntmps14 (by simp) (by simp) ?_
  simp -dsimp
  repeat (refine chk.go (by first | omega | assumption | (simp_all; done) | (simp_all; omega)) ?_; simp -dsimp)
  refine abr.split (fun h1 => ?_) (fun h1 => ?_)
  · have q2 : ¬ (a.length = b.length) := by first | exact h1 | omega | (simpa using h1) | (simp at h1 ⊢; omega) | simp_all
    have z3 : ¬ ((a.length : Int) = (b.length : Int)) := by first | omega | simp_all
    rw [if_neg q2] at hF
    cases hF
    simp -dsimp [h1, q2, z3]
    repeat (refine chk.go (by first | omega | assumption | (simp_all; done) | (simp_all; omega)) ?_; simp -dsimp [h1, q2, z3])
  · have q2 : (a.length = b.length) := by first | exact h1 | omega | (simpa using h1) | (simp at h1 ⊢; omega) | simp_all
    have z3 : ((a.length : Int) = (b.length : Int)) := by first | omega | simp_all
    rw [if_pos q2] at hF
    simp -dsimp [h1, q2, z3]
    repeat (refine chk.go (by first | omega | assumption | (simp_all; done) | (simp_all; omega)) ?_; simp -dsimp [h1, q2, z3])
    have hF := ob hF; obtain ⟨o, ho14, hF⟩ := hF
    refine ALoop.goU ⟨[(0, .arr (List.map Vl.Data.c a)), (1, .arr (List.map Vl.Data.c b)), (5, .lit (.int .i64 (0 : Int)))], []⟩ (Gh.to (by simp) (by first | (simp -dsimp; done) | (simp -dsimp [h1, q2, z3]; done) | simp_all) (by first | (simp -dsimp; done) | (simp -dsimp [h1, q2, z3]; done) | simp_all) (by first | (simp -dsimp; done) | (simp -dsimp [h1, q2, z3]; done) | simp_all)) ?_
    refine (C.laws_eqDataS_l1 B hB1 hB2 a b 0 o ho14) _ rfl _ ?_
    rcases o with r0 | s
    · dsimp only at hF
      cases hF
      intro st h
      simpa using h
    · dsimp only at hF
      cases hF
      simp -dsimp
      repeat (refine chk.go (by first | omega | assumption | (simp_all; done) | (simp_all; omega)) ?_; simp -dsimp)

set_option maxRecDepth 100000 in
set_option maxHeartbeats 400000 in
theorem CC.laws_eqValue (B : Nat) (hB1 : 67108864 ≤ B) (hB2 : B ≤ 9223372036854775807)  : (∀ (a : Vl.Value) (b : Vl.Value) (r : Bool), F.laws_eqValue a b = some r → PureCall Try.prog B 15 [.agg [.lit (.int .i64 a.ctor), .lit (.int .i64 a.n), .arr (List.map Vl.Value.c a.kids)], .agg [.lit (.int .i64 b.ctor), .lit (.int .i64 b.n), .arr (List.map Vl.Value.c b.kids)]] (.lit (.bool r))) ∧
    (∀ (a : List Vl.Value) (b : List Vl.Value) (r : Bool), F.laws_eqValueS a b = some r → PureCall Try.prog B 32 [.arr (List.map Vl.Value.c a), .arr (List.map Vl.Value.c b)] (.lit (.bool r))) ∧
    (∀ (a : List Vl.Value) (b : List Vl.Value) (i : Nat) (o : Lo Bool Unit), F.laws_eqValueS_l1 a b i = some o → ∀ (c : Code), navO [1, 1, 0, 1, 0, 0] (bodyOf Try.f32) = some c → ∀ (Q : Exit → ASt → Prop), o.post (fun r => ∀ st, Post Try.prog Try.f32 (fun r' _ => r'.le (.lit (.bool r))) .ret st → Q .ret st) (fun s => Q (.exit 0) ⟨[], []⟩) → ALoopU Try.prog B 0 27 (hold c .mk) ⟨[(0, .arr (List.map Vl.Value.c a)), (1, .arr (List.map Vl.Value.c b)), (5, .lit (.int .i64 (i : Int)))], []⟩ (hold Q .mk)) := by
  refine F.laws_eqValue.mutual_partial_correctness 
    (fun a b r => PureCall Try.prog B 15 [.agg [.lit (.int .i64 a.ctor), .lit (.int .i64 a.n), .arr (List.map Vl.Value.c a.kids)], .agg [.lit (.int .i64 b.ctor), .lit (.int .i64 b.n), .arr (List.map Vl.Value.c b.kids)]] (.lit (.bool r)))
    (fun a b r => PureCall Try.prog B 32 [.arr (List.map Vl.Value.c a), .arr (List.map Vl.Value.c b)] (.lit (.bool r)))
    (fun a b i o => ∀ (c : Code), navO [1, 1, 0, 1, 0, 0] (bodyOf Try.f32) = some c → ∀ (Q : Exit → ASt → Prop), o.post (fun r => ∀ st, Post Try.prog Try.f32 (fun r' _ => r'.le (.lit (.bool r))) .ret st → Q .ret st) (fun s => Q (.exit 0) ⟨[], []⟩) → ALoopU Try.prog B 0 27 (hold c .mk) ⟨[(0, .arr (List.map Vl.Value.c a)), (1, .arr (List.map Vl.Value.c b)), (5, .lit (.int .i64 (i : Int)))], []⟩ (hold Q .mk))
    ?_ ?_ ?_
  · intro _f_laws_eqValueS ih_laws_eqValueS a b r hF
    refine PureCall.enterLe Try.func15 (by kernel_rfl) rfl Try.ntmps15 (by simp) (by simp) ?_
    simp -dsimp
    repeat (refine chk.go (by first | omega | assumption | (simp_all; done) | (simp_all; omega)) ?_; simp -dsimp)
    refine abr.split (fun h1 => ?_) (fun h1 => ?_)
    · have q2 : ¬ (a.ctor = b.ctor) := by first | exact h1 | omega | (simpa using h1) | (simp at h1 ⊢; omega) | simp_all
      rw [if_neg q2] at hF
      cases hF
      simp -dsimp [h1, q2]
      repeat (refine chk.go (by first | omega | assumption | (simp_all; done) | (simp_all; omega)) ?_; simp -dsimp [h1, q2])
    · have q2 : (a.ctor = b.ctor) := by first | exact h1 | omega | (simpa using h1) | (simp at h1 ⊢; omega) | simp_all
      rw [if_pos q2] at hF
      simp -dsimp [h1, q2]
      repeat (refine chk.go (by first | omega | assumption | (simp_all; done) | (simp_all; omega)) ?_; simp -dsimp [h1, q2])
      refine abr.split (fun h3 => ?_) (fun h3 => ?_)
      · have q4 : ¬ (a.n = b.n) := by first | exact h3 | omega | (simpa using h3) | (simp at h3 ⊢; omega) | simp_all
        rw [if_neg q4] at hF
        cases hF
        simp -dsimp [h1, q2, h3, q4]
        repeat (refine chk.go (by first | omega | assumption | (simp_all; done) | (simp_all; omega)) ?_; simp -dsimp [h1, q2, h3, q4])
      · have q4 : (a.n = b.n) := by first | exact h3 | omega | (simpa using h3) | (simp at h3 ⊢; omega) | simp_all
        rw [if_pos q4] at hF
        simp -dsimp [h1, q2, h3, q4]
        repeat (refine chk.go (by first | omega | assumption | (simp_all; done) | (simp_all; omega)) ?_; simp -dsimp [h1, q2, h3, q4])
        have hF := ob hF; obtain ⟨v, e5, hF⟩ := hF
        refine ((ih_laws_eqValueS a.kids b.kids v e5)).goW (by first | (simp; done) | (simp [h1, q2, h3, q4]; done) | simp_all) (by simp) ?_
        simp -dsimp [h1, q2, h3, q4]
        repeat (refine chk.go (by first | omega | assumption | (simp_all; done) | (simp_all; omega)) ?_; simp -dsimp [h1, q2, h3, q4])
        refine abr.split (fun h6 => ?_) (fun h6 => ?_)
        · have q7 : ¬ (v = true) := by first | exact h6 | omega | (simpa using h6) | (simp at h6 ⊢; omega) | simp_all
          rw [if_neg q7] at hF
          cases hF
          simp -dsimp [h1, q2, h3, q4, h6, q7]
          repeat (refine chk.go (by first | omega | assumption | (simp_all; done) | (simp_all; omega)) ?_; simp -dsimp [h1, q2, h3, q4, h6, q7])
        · have q7 : (v = true) := by first | exact h6 | omega | (simpa using h6) | (simp at h6 ⊢; omega) | simp_all
          rw [if_pos q7] at hF
          cases hF
          simp -dsimp [h1, q2, h3, q4, h6, q7]
          repeat (refine chk.go (by first | omega | assumption | (simp_all; done) | (simp_all; omega)) ?_; simp -dsimp [h1, q2, h3, q4, h6, q7])
  · intro _f_laws_eqValueS_l1 ih_laws_eqValueS_l1 a b r hF
    refine PureCall.enterLe Try.func32 (by kernel_rfl) rfl Try.ntmps32 (by simp) (by simp) ?_
    simp -dsimp
    repeat (refine chk.go (by first | omega | assumption | (simp_all; done) | (simp_all; omega)) ?_; simp -dsimp)
    refine abr.split (fun h1 => ?_) (fun h1 => ?_)
    · have q2 : ¬ (a.length = b.length) := by first | exact h1 | omega | (simpa using h1) | (simp at h1 ⊢; omega) | simp_all
      have z3 : ¬ ((a.length : Int) = (b.length : Int)) := by first | omega | simp_all
      rw [if_neg q2] at hF
      cases hF
      simp -dsimp [h1, q2, z3]
      repeat (refine chk.go (by first | omega | assumption | (simp_all; done) | (simp_all; omega)) ?_; simp -dsimp [h1, q2, z3])
    · have q2 : (a.length = b.length) := by first | exact h1 | omega | (simpa using h1) | (simp at h1 ⊢; omega) | simp_all
      have z3 : ((a.length : Int) = (b.length : Int)) := by first | omega | simp_all
      rw [if_pos q2] at hF
      simp -dsimp [h1, q2, z3]
      repeat (refine chk.go (by first | omega | assumption | (simp_all; done) | (simp_all; omega)) ?_; simp -dsimp [h1, q2, z3])
      have hF := ob hF; obtain ⟨o, ho14, hF⟩ := hF
      refine ALoop.goU ⟨[(0, .arr (List.map Vl.Value.c a)), (1, .arr (List.map Vl.Value.c b)), (5, .lit (.int .i64 (0 : Int)))], []⟩ (Gh.to (by simp) (by first | (simp -dsimp; done) | (simp -dsimp [h1, q2, z3]; done) | simp_all) (by first | (simp -dsimp; done) | (simp -dsimp [h1, q2, z3]; done) | simp_all) (by first | (simp -dsimp; done) | (simp -dsimp [h1, q2, z3]; done) | simp_all)) ?_
      refine (ih_laws_eqValueS_l1 a b 0 o ho14) _ rfl _ ?_
      rcases o with r0 | s
      · dsimp only at hF
        cases hF
        intro st h
        simpa using h
      · dsimp only at hF
        cases hF
        simp -dsimp
        repeat (refine chk.go (by first | omega | assumption | (simp_all; done) | (simp_all; omega)) ?_; simp -dsimp)
  · intro _f_laws_eqValue _f_laws_eqValueS_l1 ih_laws_eqValue ih_laws_eqValueS_l1 a b i o hF
    intro c hc Q hq
    obtain rfl : c = _ := navEq hc rfl
    refine ALoopU.know fun hk hs => ?_
    have b0 := hk 0
    simp -dsimp at b0
    have b1 := hk 1
    simp -dsimp at b1
    clear hk hs
    refine ALoopU.enter ?_
    simp -dsimp
    repeat (refine chk.go (by first | omega | assumption | (simp_all; done) | (simp_all; omega)) ?_; simp -dsimp)
    refine abr.split (fun h4 => ?_) (fun h4 => ?_)
    · have q5 : (i < a.length) := by first | exact h4 | omega | (simpa using h4) | (simp at h4 ⊢; omega) | simp_all
      have z6 : ((i : Int) < (a.length : Int)) := by first | omega | simp_all
      rw [if_pos q5] at hF
      simp -dsimp [h4, z6]
      repeat (refine chk.go (by first | omega | assumption | (simp_all; done) | (simp_all; omega)) ?_; simp -dsimp [h4, z6])
      refine ADraw.simple follows (by kernel_rfl) (by kernel_rfl) ?_
      have hF := ob hF; obtain ⟨x, e7, hF⟩ := hF
      have le7 := lt_of_get e7
      have hF := ob hF; obtain ⟨x8, e9, hF⟩ := hF
      have le9 := lt_of_get e9
      simp -dsimp [h4, z6, ↓e7, ↓e9]
      repeat (refine chk.go (by first | omega | assumption | (simp_all; done) | (simp_all; omega)) ?_; simp -dsimp [h4, z6, ↓e7, ↓e9])
      have hF := ob hF; obtain ⟨v, e10, hF⟩ := hF
      refine ((ih_laws_eqValue x x8 v e10)).pgoW (by first | (simp; done) | (simp [h4, z6, ↓e7, ↓e9]; done) | simp_all) (by simp) ?_
      simp -dsimp [h4, z6, ↓e7, ↓e9]
      repeat (refine chk.go (by first | omega | assumption | (simp_all; done) | (simp_all; omega)) ?_; simp -dsimp [h4, z6, ↓e7, ↓e9])
      refine abr.split (fun h11 => ?_) (fun h11 => ?_)
      · have q12 : ¬ (v = true) := by first | exact h11 | omega | (simpa using h11) | (simp at h11 ⊢; omega) | simp_all
        rw [if_neg q12] at hF
        cases hF
        simp -dsimp [h4, z6, ↓e7, ↓e9, h11, q12]
        repeat (refine chk.go (by first | omega | assumption | (simp_all; done) | (simp_all; omega)) ?_; simp -dsimp [h4, z6, ↓e7, ↓e9, h11, q12])
        refine Leave.go _ (Gh.refl _) (hq _ ?_)
        simp -dsimp [h4, z6, ↓e7, ↓e9, h11, q12]
        repeat (refine chk.go (by first | omega | assumption | (simp_all; done) | (simp_all; omega)) ?_; simp -dsimp [h4, z6, ↓e7, ↓e9, h11, q12])
      · have q12 : (v = true) := by first | exact h11 | omega | (simpa using h11) | (simp at h11 ⊢; omega) | simp_all
        rw [if_pos q12] at hF
        have w13 : IntKind.i64.wrap ((i : Int) + 1) = (i : Int) + 1 := wrap_in (by omega) (by omega)
        simp -dsimp [h4, z6, ↓e7, ↓e9, h11, q12, w13]
        repeat (refine chk.go (by first | omega | assumption | (simp_all; done) | (simp_all; omega)) ?_; simp -dsimp [h4, z6, ↓e7, ↓e9, h11, q12, w13])
        refine Again.go ⟨[(0, .arr (List.map Vl.Value.c a)), (1, .arr (List.map Vl.Value.c b)), (5, .lit (.int .i64 ((i + 1) : Int)))], []⟩ (Gh.to (by simp) (by first | (simp -dsimp; done) | (simp -dsimp [h4, z6, ↓e7, ↓e9, h11, q12, w13]; done) | simp_all) (by first | (simp -dsimp; done) | (simp -dsimp [h4, z6, ↓e7, ↓e9, h11, q12, w13]; done) | simp_all) (by first | (simp -dsimp; done) | (simp -dsimp [h4, z6, ↓e7, ↓e9, h11, q12, w13]; done) | simp_all)) ?_
        exact (ih_laws_eqValueS_l1 a b (i + 1) o hF) _ rfl _ hq
    · have q5 : ¬ (i < a.length) := by first | exact h4 | omega | (simpa using h4) | (simp at h4 ⊢; omega) | simp_all
      have z6 : ¬ ((i : Int) < (a.length : Int)) := by first | omega | simp_all
      rw [if_neg q5] at hF
      cases hF
      simp -dsimp [h4, q5, z6]
      repeat (refine chk.go (by first | omega | assumption | (simp_all; done) | (simp_all; omega)) ?_; simp -dsimp [h4, q5, z6])
      refine Leave.go ⟨[], []⟩ (Gh.to (by simp) (by first | (simp -dsimp; done) | (simp -dsimp [h4, q5, z6]; done) | simp_all) (by first | (simp -dsimp; done) | (simp -dsimp [h4, q5, z6]; done) | simp_all) (by first | (simp -dsimp; done) | (simp -dsimp [h4, q5, z6]; done) | simp_all)) ?_
      exact hq

theorem C.laws_eqValue (B : Nat) (hB1 : 67108864 ≤ B) (hB2 : B ≤ 9223372036854775807) (a : Vl.Value) (b : Vl.Value) (r : Bool) (hF : F.laws_eqValue a b = some r) : PureCall Try.prog B 15 [.agg [.lit (.int .i64 a.ctor), .lit (.int .i64 a.n), .arr (List.map Vl.Value.c a.kids)], .agg [.lit (.int .i64 b.ctor), .lit (.int .i64 b.n), .arr (List.map Vl.Value.c b.kids)]] (.lit (.bool r)) :=
  (CC.laws_eqValue B hB1 hB2 ).1 a b r hF

theorem C.laws_eqValueS (B : Nat) (hB1 : 67108864 ≤ B) (hB2 : B ≤ 9223372036854775807) (a : List Vl.Value) (b : List Vl.Value) (r : Bool) (hF : F.laws_eqValueS a b = some r) : PureCall Try.prog B 32 [.arr (List.map Vl.Value.c a), .arr (List.map Vl.Value.c b)] (.lit (.bool r)) :=
  (CC.laws_eqValue B hB1 hB2 ).2.1 a b r hF

theorem C.laws_eqValueS_l1 (B : Nat) (hB1 : 67108864 ≤ B) (hB2 : B ≤ 9223372036854775807) (a : List Vl.Value) (b : List Vl.Value) (i : Nat) (o : Lo Bool Unit) (hF : F.laws_eqValueS_l1 a b i = some o) : ∀ (c : Code), navO [1, 1, 0, 1, 0, 0] (bodyOf Try.f32) = some c → ∀ (Q : Exit → ASt → Prop), o.post (fun r => ∀ st, Post Try.prog Try.f32 (fun r' _ => r'.le (.lit (.bool r))) .ret st → Q .ret st) (fun s => Q (.exit 0) ⟨[], []⟩) → ALoopU Try.prog B 0 27 (hold c .mk) ⟨[(0, .arr (List.map Vl.Value.c a)), (1, .arr (List.map Vl.Value.c b)), (5, .lit (.int .i64 (i : Int)))], []⟩ (hold Q .mk) :=
  (CC.laws_eqValue B hB1 hB2 ).2.2 a b i o hF

set_option maxRecDepth 100000 in
set_option maxHeartbeats 400000 in
theorem C.laws_FnExactKnownMore (B : Nat) (hB1 : 67108864 ≤ B) (hB2 : B ≤ 9223372036854775807) (aW : List Vl.Data) (aT : Vl.Ty) (aA : Vl.Value) (aB : Vl.Value) (r : Bool) (hF : F.laws_FnExactKnownMore aW aT aA aB = some r) : PureCall Try.prog B 4 [.arr (List.map Vl.Data.c aW), .agg [.lit (.int .i64 aT.data), .lit (.int .i64 aT.index)], .agg [.lit (.int .i64 aA.ctor), .lit (.int .i64 aA.n), .arr (List.map Vl.Value.c aA.kids)], .agg [.lit (.int .i64 aB.ctor), .lit (.int .i64 aB.n), .arr (List.map Vl.Value.c aB.kids)]] (.lit (.bool r)) := by
  unfold F.laws_FnExactKnownMore at hF
  refine PureCall.enterLe Try.func4 (by kernel_rfl) rfl Try.ntmps4 (by simp) (by simp) ?_
  simp -dsimp
  repeat (refine chk.go (by first | omega | assumption | (simp_all; done) | (simp_all; omega)) ?_; simp -dsimp)
  have hF := ob hF; obtain ⟨v, e1, hF⟩ := hF
  refine ((C.laws_szDataS B hB1 hB2 aW (1048576 : Int) v e1)).goW (by simp) (by simp) ?_
  simp -dsimp
  repeat (refine chk.go (by first | omega | assumption | (simp_all; done) | (simp_all; omega)) ?_; simp -dsimp)
  refine abr.split (fun h2 => ?_) (fun h2 => ?_)
  · have q3 : (v < 0) := by first | exact h2 | omega | (simpa using h2) | (simp at h2 ⊢; omega) | simp_all
    rw [if_pos q3] at hF
    cases hF
    simp -dsimp [h2]
    repeat (refine chk.go (by first | omega | assumption | (simp_all; done) | (simp_all; omega)) ?_; simp -dsimp [h2])
  · have q3 : ¬ (v < 0) := by first | exact h2 | omega | (simpa using h2) | (simp at h2 ⊢; omega) | simp_all
    rw [if_neg q3] at hF
    simp -dsimp [h2, q3]
    repeat (refine chk.go (by first | omega | assumption | (simp_all; done) | (simp_all; omega)) ?_; simp -dsimp [h2, q3])
    have hF := ob hF; obtain ⟨v4, e5, hF⟩ := hF
    refine ((C.laws_szValue B hB1 hB2 aA v v4 e5)).goW (by first | (simp; done) | (simp [h2, q3]; done) | simp_all) (by simp) ?_
    simp -dsimp [h2, q3]
    repeat (refine chk.go (by first | omega | assumption | (simp_all; done) | (simp_all; omega)) ?_; simp -dsimp [h2, q3])
    refine abr.split (fun h6 => ?_) (fun h6 => ?_)
    · have q7 : (v4 < 0) := by first | exact h6 | omega | (simpa using h6) | (simp at h6 ⊢; omega) | simp_all
      rw [if_pos q7] at hF
      cases hF
      simp -dsimp [h2, q3, h6]
      repeat (refine chk.go (by first | omega | assumption | (simp_all; done) | (simp_all; omega)) ?_; simp -dsimp [h2, q3, h6])
    · have q7 : ¬ (v4 < 0) := by first | exact h6 | omega | (simpa using h6) | (simp at h6 ⊢; omega) | simp_all
      rw [if_neg q7] at hF
      simp -dsimp [h2, q3, h6, q7]
      repeat (refine chk.go (by first | omega | assumption | (simp_all; done) | (simp_all; omega)) ?_; simp -dsimp [h2, q3, h6, q7])
      have hF := ob hF; obtain ⟨v8, e9, hF⟩ := hF
      refine ((C.laws_szValue B hB1 hB2 aB v4 v8 e9)).goW (by first | (simp; done) | (simp [h2, q3, h6, q7]; done) | simp_all) (by simp) ?_
      simp -dsimp [h2, q3, h6, q7]
      repeat (refine chk.go (by first | omega | assumption | (simp_all; done) | (simp_all; omega)) ?_; simp -dsimp [h2, q3, h6, q7])
      refine abr.split (fun h10 => ?_) (fun h10 => ?_)
      · have q11 : (v8 < 0) := by first | exact h10 | omega | (simpa using h10) | (simp at h10 ⊢; omega) | simp_all
        rw [if_pos q11] at hF
        cases hF
        simp -dsimp [h2, q3, h6, q7, h10]
        repeat (refine chk.go (by first | omega | assumption | (simp_all; done) | (simp_all; omega)) ?_; simp -dsimp [h2, q3, h6, q7, h10])
      · have q11 : ¬ (v8 < 0) := by first | exact h10 | omega | (simpa using h10) | (simp at h10 ⊢; omega) | simp_all
        rw [if_neg q11] at hF
        simp -dsimp [h2, q3, h6, q7, h10, q11]
        repeat (refine chk.go (by first | omega | assumption | (simp_all; done) | (simp_all; omega)) ?_; simp -dsimp [h2, q3, h6, q7, h10, q11])
        refine ADraw.simple follows (by kernel_rfl) (by kernel_rfl) ?_
        simp -dsimp [h2, q3, h6, q7, h10, q11]
        repeat (refine chk.go (by first | omega | assumption | (simp_all; done) | (simp_all; omega)) ?_; simp -dsimp [h2, q3, h6, q7, h10, q11])
        have hF := ob hF; obtain ⟨v12, e13, hF⟩ := hF
        refine ((C.laws_toDataS B hB1 hB2 aW v12 e13)).pgoW (by first | (simp; done) | (simp [h2, q3, h6, q7, h10, q11]; done) | simp_all) (by simp) ?_
        simp -dsimp [h2, q3, h6, q7, h10, q11]
        repeat (refine chk.go (by first | omega | assumption | (simp_all; done) | (simp_all; omega)) ?_; simp -dsimp [h2, q3, h6, q7, h10, q11])
        have hF := ob hF; obtain ⟨v14, e15, hF⟩ := hF
        refine ((C.laws_toType B hB1 hB2 aT v14 e15)).pgoW (by first | (simp; done) | (simp [h2, q3, h6, q7, h10, q11]; done) | simp_all) (by simp) ?_
        simp -dsimp [h2, q3, h6, q7, h10, q11]
        repeat (refine chk.go (by first | omega | assumption | (simp_all; done) | (simp_all; omega)) ?_; simp -dsimp [h2, q3, h6, q7, h10, q11])
        have hF := ob hF; obtain ⟨v16, e17, hF⟩ := hF
        refine ((C.laws_toValue B hB1 hB2 aA v16 e17)).pgoW (by first | (simp; done) | (simp [h2, q3, h6, q7, h10, q11]; done) | simp_all) (by simp) ?_
        simp -dsimp [h2, q3, h6, q7, h10, q11]
        repeat (refine chk.go (by first | omega | assumption | (simp_all; done) | (simp_all; omega)) ?_; simp -dsimp [h2, q3, h6, q7, h10, q11])
        have hF := ob hF; obtain ⟨v18, e19, hF⟩ := hF
        refine ((C.laws_toValue B hB1 hB2 aB v18 e19)).pgoW (by first | (simp; done) | (simp [h2, q3, h6, q7, h10, q11]; done) | simp_all) (by simp) ?_
        simp -dsimp [h2, q3, h6, q7, h10, q11]
        repeat (refine chk.go (by first | omega | assumption | (simp_all; done) | (simp_all; omega)) ?_; simp -dsimp [h2, q3, h6, q7, h10, q11])
        have hF := ob hF; obtain ⟨v20, e21, hF⟩ := hF
        refine ((C.spec_KnownMore B hB1 hB2 v12 v14 v16 v18 v20 e21)).pgoW (by first | (simp; done) | (simp [h2, q3, h6, q7, h10, q11]; done) | simp_all) (by simp) ?_
        simp -dsimp [h2, q3, h6, q7, h10, q11]
        repeat (refine chk.go (by first | omega | assumption | (simp_all; done) | (simp_all; omega)) ?_; simp -dsimp [h2, q3, h6, q7, h10, q11])
        have hF := ob hF; obtain ⟨v22, e23, hF⟩ := hF
        refine ((C.laws_toDataS B hB1 hB2 aW v22 e23)).goW (by first | (simp; done) | (simp [h2, q3, h6, q7, h10, q11]; done) | simp_all) (by simp) ?_
        simp -dsimp [h2, q3, h6, q7, h10, q11]
        repeat (refine chk.go (by first | omega | assumption | (simp_all; done) | (simp_all; omega)) ?_; simp -dsimp [h2, q3, h6, q7, h10, q11])
        have hF := ob hF; obtain ⟨v24, e25, hF⟩ := hF
        refine ((C.laws_toValue B hB1 hB2 aA v24 e25)).goW (by first | (simp; done) | (simp [h2, q3, h6, q7, h10, q11]; done) | simp_all) (by simp) ?_
        simp -dsimp [h2, q3, h6, q7, h10, q11]
        repeat (refine chk.go (by first | omega | assumption | (simp_all; done) | (simp_all; omega)) ?_; simp -dsimp [h2, q3, h6, q7, h10, q11])
        have hF := ob hF; obtain ⟨v26, e27, hF⟩ := hF
        refine ((C.laws_toValue B hB1 hB2 aB v26 e27)).goW (by first | (simp; done) | (simp [h2, q3, h6, q7, h10, q11]; done) | simp_all) (by simp) ?_
        simp -dsimp [h2, q3, h6, q7, h10, q11]
        repeat (refine chk.go (by first | omega | assumption | (simp_all; done) | (simp_all; omega)) ?_; simp -dsimp [h2, q3, h6, q7, h10, q11])
        refine ADraw.simple follows (by kernel_rfl) (by kernel_rfl) ?_
        simp -dsimp [h2, q3, h6, q7, h10, q11]
        repeat (refine chk.go (by first | omega | assumption | (simp_all; done) | (simp_all; omega)) ?_; simp -dsimp [h2, q3, h6, q7, h10, q11])
        have hF := ob hF; obtain ⟨v28, e29, hF⟩ := hF
        refine ((C.laws_toType B hB1 hB2 aT v28 e29)).pgoW (by first | (simp; done) | (simp [h2, q3, h6, q7, h10, q11]; done) | simp_all) (by simp) ?_
        simp -dsimp [h2, q3, h6, q7, h10, q11]
        repeat (refine chk.go (by first | omega | assumption | (simp_all; done) | (simp_all; omega)) ?_; simp -dsimp [h2, q3, h6, q7, h10, q11])
        have hF := ob hF; obtain ⟨v30, e31, hF⟩ := hF
        refine ((C.impl_KnownMore B hB1 hB2 v22 v28 v24 v26 v30 e31)).pgoW (by first | (simp; done) | (simp [h2, q3, h6, q7, h10, q11]; done) | simp_all) (by simp) ?_
        simp -dsimp [h2, q3, h6, q7, h10, q11]
        repeat (refine chk.go (by first | omega | assumption | (simp_all; done) | (simp_all; omega)) ?_; simp -dsimp [h2, q3, h6, q7, h10, q11])
        refine abr.split (fun h32 => ?_) (fun h32 => ?_)
        · have q33 : ¬ (v30 = v20) := by first | exact h32 | omega | (simpa using h32) | (simp at h32 ⊢; omega) | simp_all
          rw [if_neg q33] at hF
          cases hF
          simp -dsimp [h2, q3, h6, q7, h10, q11, h32, q33]
          repeat (refine chk.go (by first | omega | assumption | (simp_all; done) | (simp_all; omega)) ?_; simp -dsimp [h2, q3, h6, q7, h10, q11, h32, q33])
        · have q33 : (v30 = v20) := by first | exact h32 | omega | (simpa using h32) | (simp at h32 ⊢; omega) | simp_all
          rw [if_pos q33] at hF
          simp -dsimp [h2, q3, h6, q7, h10, q11, h32, q33]
          repeat (refine chk.go (by first | omega | assumption | (simp_all; done) | (simp_all; omega)) ?_; simp -dsimp [h2, q3, h6, q7, h10, q11, h32, q33])
          have hF := ob hF; obtain ⟨v34, e35, hF⟩ := hF
          refine ((C.laws_toDataS B hB1 hB2 aW v34 e35)).goW (by first | (simp; done) | (simp [h2, q3, h6, q7, h10, q11, h32, q33]; done) | simp_all) (by simp) ?_
          simp -dsimp [h2, q3, h6, q7, h10, q11, h32, q33]
          repeat (refine chk.go (by first | omega | assumption | (simp_all; done) | (simp_all; omega)) ?_; simp -dsimp [h2, q3, h6, q7, h10, q11, h32, q33])
          have hF := ob hF; obtain ⟨v36, e37, hF⟩ := hF
          refine ((C.laws_eqDataS B hB1 hB2 v22 v34 v36 e37)).goW (by first | (simp; done) | (simp [h2, q3, h6, q7, h10, q11, h32, q33]; done) | simp_all) (by simp) ?_
          simp -dsimp [h2, q3, h6, q7, h10, q11, h32, q33]
          repeat (refine chk.go (by first | omega | assumption | (simp_all; done) | (simp_all; omega)) ?_; simp -dsimp [h2, q3, h6, q7, h10, q11, h32, q33])
          refine abr.split (fun h38 => ?_) (fun h38 => ?_)
          · have q39 : ¬ (v36 = true) := by first | exact h38 | omega | (simpa using h38) | (simp at h38 ⊢; omega) | simp_all
            rw [if_neg q39] at hF
            cases hF
            simp -dsimp [h2, q3, h6, q7, h10, q11, h32, q33, h38, q39]
            repeat (refine chk.go (by first | omega | assumption | (simp_all; done) | (simp_all; omega)) ?_; simp -dsimp [h2, q3, h6, q7, h10, q11, h32, q33, h38, q39])
          · have q39 : (v36 = true) := by first | exact h38 | omega | (simpa using h38) | (simp at h38 ⊢; omega) | simp_all
            rw [if_pos q39] at hF
            simp -dsimp [h2, q3, h6, q7, h10, q11, h32, q33, h38, q39]
            repeat (refine chk.go (by first | omega | assumption | (simp_all; done) | (simp_all; omega)) ?_; simp -dsimp [h2, q3, h6, q7, h10, q11, h32, q33, h38, q39])
            refine ADraw.simple follows (by kernel_rfl) (by kernel_rfl) ?_
            simp -dsimp [h2, q3, h6, q7, h10, q11, h32, q33, h38, q39]
            repeat (refine chk.go (by first | omega | assumption | (simp_all; done) | (simp_all; omega)) ?_; simp -dsimp [h2, q3, h6, q7, h10, q11, h32, q33, h38, q39])
            have hF := ob hF; obtain ⟨v40, e41, hF⟩ := hF
            refine ((C.laws_toValue B hB1 hB2 aA v40 e41)).pgoW (by first | (simp; done) | (simp [h2, q3, h6, q7, h10, q11, h32, q33, h38, q39]; done) | simp_all) (by simp) ?_
            simp -dsimp [h2, q3, h6, q7, h10, q11, h32, q33, h38, q39]
            repeat (refine chk.go (by first | omega | assumption | (simp_all; done) | (simp_all; omega)) ?_; simp -dsimp [h2, q3, h6, q7, h10, q11, h32, q33, h38, q39])
            have hF := ob hF; obtain ⟨v42, e43, hF⟩ := hF
            refine ((C.laws_eqValue B hB1 hB2 v24 v40 v42 e43)).pgoW (by first | (simp; done) | (simp [h2, q3, h6, q7, h10, q11, h32, q33, h38, q39]; done) | simp_all) (by simp) ?_
            simp -dsimp [h2, q3, h6, q7, h10, q11, h32, q33, h38, q39]
            repeat (refine chk.go (by first | omega | assumption | (simp_all; done) | (simp_all; omega)) ?_; simp -dsimp [h2, q3, h6, q7, h10, q11, h32, q33, h38, q39])
            refine abr.split (fun h44 => ?_) (fun h44 => ?_)
            · have q45 : ¬ (v42 = true) := by first | exact h44 | omega | (simpa using h44) | (simp at h44 ⊢; omega) | simp_all
              rw [if_neg q45] at hF
              cases hF
              simp -dsimp [h2, q3, h6, q7, h10, q11, h32, q33, h38, q39, h44, q45]
              repeat (refine chk.go (by first | omega | assumption | (simp_all; done) | (simp_all; omega)) ?_; simp -dsimp [h2, q3, h6, q7, h10, q11, h32, q33, h38, q39, h44, q45])
            · have q45 : (v42 = true) := by first | exact h44 | omega | (simpa using h44) | (simp at h44 ⊢; omega) | simp_all
              rw [if_pos q45] at hF
              simp -dsimp [h2, q3, h6, q7, h10, q11, h32, q33, h38, q39, h44, q45]
              repeat (refine chk.go (by first | omega | assumption | (simp_all; done) | (simp_all; omega)) ?_; simp -dsimp [h2, q3, h6, q7, h10, q11, h32, q33, h38, q39, h44, q45])
              refine ADraw.simple follows (by kernel_rfl) (by kernel_rfl) ?_
              simp -dsimp [h2, q3, h6, q7, h10, q11, h32, q33, h38, q39, h44, q45]
              repeat (refine chk.go (by first | omega | assumption | (simp_all; done) | (simp_all; omega)) ?_; simp -dsimp [h2, q3, h6, q7, h10, q11, h32, q33, h38, q39, h44, q45])
              have hF := ob hF; obtain ⟨v46, e47, hF⟩ := hF
              refine ((C.laws_toValue B hB1 hB2 aB v46 e47)).pgoW (by first | (simp; done) | (simp [h2, q3, h6, q7, h10, q11, h32, q33, h38, q39, h44, q45]; done) | simp_all) (by simp) ?_
              simp -dsimp [h2, q3, h6, q7, h10, q11, h32, q33, h38, q39, h44, q45]
              repeat (refine chk.go (by first | omega | assumption | (simp_all; done) | (simp_all; omega)) ?_; simp -dsimp [h2, q3, h6, q7, h10, q11, h32, q33, h38, q39, h44, q45])
              have hF := ob hF; obtain ⟨v48, e49, hF⟩ := hF
              refine ((C.laws_eqValue B hB1 hB2 v26 v46 v48 e49)).pgoW (by first | (simp; done) | (simp [h2, q3, h6, q7, h10, q11, h32, q33, h38, q39, h44, q45]; done) | simp_all) (by simp) ?_
              simp -dsimp [h2, q3, h6, q7, h10, q11, h32, q33, h38, q39, h44, q45]
              repeat (refine chk.go (by first | omega | assumption | (simp_all; done) | (simp_all; omega)) ?_; simp -dsimp [h2, q3, h6, q7, h10, q11, h32, q33, h38, q39, h44, q45])
              refine abr.split (fun h50 => ?_) (fun h50 => ?_)
              · have q51 : ¬ (v48 = true) := by first | exact h50 | omega | (simpa using h50) | (simp at h50 ⊢; omega) | simp_all
                rw [if_neg q51] at hF
                cases hF
                simp -dsimp [h2, q3, h6, q7, h10, q11, h32, q33, h38, q39, h44, q45, h50, q51]
                repeat (refine chk.go (by first | omega | assumption | (simp_all; done) | (simp_all; omega)) ?_; simp -dsimp [h2, q3, h6, q7, h10, q11, h32, q33, h38, q39, h44, q45, h50, q51])
              · have q51 : (v48 = true) := by first | exact h50 | omega | (simpa using h50) | (simp at h50 ⊢; omega) | simp_all
                rw [if_pos q51] at hF
                cases hF
                simp -dsimp [h2, q3, h6, q7, h10, q11, h32, q33, h38, q39, h44, q45, h50, q51]
                repeat (refine chk.go (by first | omega | assumption | (simp_all; done) | (simp_all; omega)) ?_; simp -dsimp [h2, q3, h6, q7, h10, q11, h32, q33, h38, q39, h44, q45, h50, q51])

end Go.Proofs.Ytgjgeeeeafbckaa
