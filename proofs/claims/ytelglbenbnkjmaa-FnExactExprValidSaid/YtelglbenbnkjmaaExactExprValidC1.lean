/- The contracts: the code computes the functions (printed by gen.py). -/
import Derived.Test.YtelglbenbnkjmaaProg
import Derived.Test.YtelglbenbnkjmaaExactExprValidF
namespace Go.Proofs.Ytelglbenbnkjmaa
open Go Go.Proofs Go.Vl
set_option linter.unusedSimpArgs false
set_option linter.unusedVariables false

attribute [local irreducible] ECallA aL AMake MLoop AgainM LeaveM awpM aopsM MutCall BCall chk abr ACall ALoop ALoopU ADraw Again Leave PCallA PCall Post awp aops PureCall hold

theorem follows : Try.prog.follows .mixedOrders = true := by kernel_rfl
@[simp] theorem ti2 : tiOf Try.prog 2 = some ⟨.word, 1, [.int .i64 0]⟩ := by kernel_rfl
@[simp] theorem ti3 : tiOf Try.prog 3 = some ⟨.word, 1, [.int .i64 0]⟩ := by kernel_rfl
@[simp] theorem ti4 : tiOf Try.prog 4 = some ⟨.word, 1, [.bool false]⟩ := by kernel_rfl
@[simp] theorem ti5 : tiOf Try.prog 5 = some ⟨.word, 1, [.int .u8 0]⟩ := by kernel_rfl
@[simp] theorem ti9 : tiOf Try.prog 9 = some ⟨.word, 1, [.string ByteArray.empty]⟩ := by kernel_rfl
@[simp] theorem ti22 : tiOf Try.prog 22 = some ⟨.slice 2 40 [.string ByteArray.empty, .slice none 0 0], 1, [.slice none 0 0]⟩ := by kernel_rfl
@[simp] theorem sl22 : isSl Try.prog 22 = true := by kernel_rfl
@[simp] theorem ti23 : tiOf Try.prog 23 = some ⟨.slice 4 32 [.int .i64 0, .int .i64 0, .int .i64 0, .int .i64 0], 1, [.slice none 0 0]⟩ := by kernel_rfl
@[simp] theorem sl23 : isSl Try.prog 23 = true := by kernel_rfl
@[simp] theorem ti24 : tiOf Try.prog 24 = some ⟨.slice 3 24 [.int .i64 0, .int .i64 0, .int .i64 0], 1, [.slice none 0 0]⟩ := by kernel_rfl
@[simp] theorem sl24 : isSl Try.prog 24 = true := by kernel_rfl
@[simp] theorem ti26 : tiOf Try.prog 26 = some ⟨.struct [(0, 1), (1, 1)], 2, [.int .i64 0, .int .i64 0]⟩ := by kernel_rfl
@[simp] theorem pr26 : pair2B Try.prog 26 = true := by kernel_rfl
@[simp] theorem ti27 : tiOf Try.prog 27 = some ⟨.slice 4 48 [.int .i64 0, .int .i64 0, .int .i64 0, .slice none 0 0], 1, [.slice none 0 0]⟩ := by kernel_rfl
@[simp] theorem sl27 : isSl Try.prog 27 = true := by kernel_rfl
@[simp] theorem ti29 : tiOf Try.prog 29 = some ⟨.struct [(0, 1), (1, 1), (2, 1), (3, 1)], 4, [.int .i64 0, .int .i64 0, .int .i64 0, .slice none 0 0]⟩ := by kernel_rfl
@[simp] theorem ti35 : tiOf Try.prog 35 = some ⟨.slice 2 40 [.string ByteArray.empty, .slice none 0 0], 1, [.slice none 0 0]⟩ := by kernel_rfl
@[simp] theorem sl35 : isSl Try.prog 35 = true := by kernel_rfl
@[simp] theorem ti37 : tiOf Try.prog 37 = some ⟨.slice 4 32 [.int .i64 0, .int .i64 0, .int .i64 0, .int .i64 0], 1, [.slice none 0 0]⟩ := by kernel_rfl
@[simp] theorem sl37 : isSl Try.prog 37 = true := by kernel_rfl
@[simp] theorem ti39 : tiOf Try.prog 39 = some ⟨.slice 3 24 [.int .i64 0, .int .i64 0, .int .i64 0], 1, [.slice none 0 0]⟩ := by kernel_rfl
@[simp] theorem sl39 : isSl Try.prog 39 = true := by kernel_rfl
@[simp] theorem ti41 : tiOf Try.prog 41 = some ⟨.struct [(0, 1), (1, 1)], 2, [.int .i64 0, .int .i64 0]⟩ := by kernel_rfl
@[simp] theorem pr41 : pair2B Try.prog 41 = true := by kernel_rfl
@[simp] theorem ti43 : tiOf Try.prog 43 = some ⟨.slice 4 48 [.int .i64 0, .int .i64 0, .int .i64 0, .slice none 0 0], 1, [.slice none 0 0]⟩ := by kernel_rfl
@[simp] theorem sl43 : isSl Try.prog 43 = true := by kernel_rfl
@[simp] theorem ti45 : tiOf Try.prog 45 = some ⟨.struct [(0, 1), (1, 1), (2, 1), (3, 1)], 4, [.int .i64 0, .int .i64 0, .int .i64 0, .slice none 0 0]⟩ := by kernel_rfl
@[simp] theorem ti103 : tiOf Try.prog 103 = some ⟨.slice 3 48 [.string ByteArray.empty, .slice none 0 0, .int .i64 0], 1, [.slice none 0 0]⟩ := by kernel_rfl
@[simp] theorem sl103 : isSl Try.prog 103 = true := by kernel_rfl
@[simp] theorem ti105 : tiOf Try.prog 105 = some ⟨.struct [(0, 1), (1, 1)], 2, [.string ByteArray.empty, .slice none 0 0]⟩ := by kernel_rfl
@[simp] theorem ti108 : tiOf Try.prog 108 = some ⟨.slice 3 48 [.string ByteArray.empty, .slice none 0 0, .int .i64 0], 1, [.slice none 0 0]⟩ := by kernel_rfl
@[simp] theorem sl108 : isSl Try.prog 108 = true := by kernel_rfl
@[simp] theorem ti110 : tiOf Try.prog 110 = some ⟨.struct [(0, 1), (1, 1)], 2, [.string ByteArray.empty, .slice none 0 0]⟩ := by kernel_rfl
@[simp] theorem ti113 : tiOf Try.prog 113 = some ⟨.struct [(0, 2), (2, 2)], 4, [.int .i64 0, .int .i64 0, .int .i64 0, .int .i64 0]⟩ := by kernel_rfl
@[simp] theorem ti116 : tiOf Try.prog 116 = some ⟨.struct [(0, 2), (2, 2)], 4, [.int .i64 0, .int .i64 0, .int .i64 0, .int .i64 0]⟩ := by kernel_rfl
@[simp] theorem ti118 : tiOf Try.prog 118 = some ⟨.struct [(0, 1), (1, 2)], 3, [.int .i64 0, .int .i64 0, .int .i64 0]⟩ := by kernel_rfl
@[simp] theorem ti121 : tiOf Try.prog 121 = some ⟨.struct [(0, 1), (1, 2)], 3, [.int .i64 0, .int .i64 0, .int .i64 0]⟩ := by kernel_rfl
@[simp] theorem ti124 : tiOf Try.prog 124 = some ⟨.struct [(0, 1), (1, 1), (2, 1)], 3, [.slice none 0 0, .slice none 0 0, .slice none 0 0]⟩ := by kernel_rfl
@[simp] theorem ti134 : tiOf Try.prog 134 = some ⟨.slice 1 8 [.int .i64 0], 1, [.slice none 0 0]⟩ := by kernel_rfl
@[simp] theorem sl134 : isSl Try.prog 134 = true := by kernel_rfl
@[simp] theorem ti179 : tiOf Try.prog 179 = some ⟨.array 6 1, 6, [.bool false, .bool false, .bool false, .bool false, .bool false, .bool false]⟩ := by kernel_rfl
@[simp] theorem ti185 : tiOf Try.prog 185 = some ⟨.slice 2 16 [.int .i64 0, .int .i64 0], 1, [.slice none 0 0]⟩ := by kernel_rfl
@[simp] theorem sl185 : isSl Try.prog 185 = true := by kernel_rfl
@[simp] theorem ti208 : tiOf Try.prog 208 = some ⟨.struct [(0, 1), (1, 1), (2, 1)], 3, [.string ByteArray.empty, .slice none 0 0, .int .i64 0]⟩ := by kernel_rfl
@[simp] theorem ti215 : tiOf Try.prog 215 = some ⟨.slice 2 16 [.int .i64 0, .int .i64 0], 1, [.slice none 0 0]⟩ := by kernel_rfl
@[simp] theorem sl215 : isSl Try.prog 215 = true := by kernel_rfl
@[simp] theorem ti217 : tiOf Try.prog 217 = some ⟨.struct [(0, 1), (1, 1), (2, 1)], 3, [.string ByteArray.empty, .slice none 0 0, .int .i64 0]⟩ := by kernel_rfl
@[simp] theorem ti222 : mapB Try.prog 222 = true := by kernel_rfl
attribute [simp] Try.underlying2 Try.underlying3 Try.underlying4 Try.underlying5 Try.underlying9 Try.underlying22 Try.underlying23 Try.underlying24 Try.underlying27 Try.underlying35 Try.underlying37 Try.underlying39 Try.underlying43 Try.underlying103 Try.underlying108 Try.underlying134 Try.underlying179 Try.underlying185 Try.underlying215 Try.results3 Try.results9 Try.results10 Try.results11 Try.results12 Try.results13 Try.results14 Try.results15 Try.results16 Try.results17 Try.results18 Try.results19 Try.results20 Try.results21 Try.results22 Try.results23 Try.results52 Try.results53 Try.results54 Try.results55 Try.results56 Try.results57 Try.results58 Try.results59 Try.results60 Try.results61 Try.results62 Try.results63 Try.results64 Try.results65 Try.results66 Try.results89 Try.results90 Try.results112 Try.results113 Try.results114 Try.results115 Try.results116 Try.results117 Try.results118 Try.results119 Try.results120 Try.results121 Try.results122 Try.results123 Try.results124 Try.results125 Try.results128 Try.results129 Try.results143 Try.results145 Try.results156 Try.results157 Try.results158 Try.results159 Try.results160 Try.results161 Try.results162 Try.results163 Try.results164 Try.results165 Try.results170 Try.results171 Try.results173 Try.results187 Try.results188 Try.results192 Try.results193 Try.results194 Try.results195 Try.results196 Try.results197 Try.results198 Try.results199 Try.results200 Try.results201 Try.results202 Try.results203 Try.results204 Try.results215 Try.results217 Try.results218 Try.results219 Try.results220 Try.results221

set_option maxRecDepth 100000 in
set_option maxHeartbeats 400000 in
theorem C.laws_szTypeS (B : Nat) (hB1 : 67108864 ≤ B) (hB2 : B ≤ 9223372036854775807) (a : List Vl.Ty) (left' : Int) (r : Int) (hF : F.laws_szTypeS a left' = some r) : PureCall Try.prog B 192 [.arr (List.map Vl.Ty.c a), .lit (.int .i64 left')] (.lit (.int .i64 r)) := by
  unfold F.laws_szTypeS at hF
  refine PureCall.enterLe Try.func192 (by kernel_rfl) rfl Try.ntmps192 (by simp) (by simp) ?_
  simp -dsimp
  repeat (refine chk.go (by first | omega | assumption | (simp_all; done) | (simp_all; omega)) ?_; try simp -dsimp)
  refine abr.split (fun h1 => ?_) (fun h1 => ?_)
  · have q2 : (IntKind.i64.wrap (left' - (a.length : Int)) < 0) := by first | exact h1 | omega | (simpa using h1) | (simp at h1 ⊢; omega) | simp_all
    rw [if_pos q2] at hF
    cases hF
    simp -dsimp [h1]
    repeat (refine chk.go (by first | omega | assumption | (simp_all; done) | (simp_all; omega)) ?_; try simp -dsimp [h1])
    all_goals (try omega)
  · have q2 : ¬ (IntKind.i64.wrap (left' - (a.length : Int)) < 0) := by first | exact h1 | omega | (simpa using h1) | (simp at h1 ⊢; omega) | simp_all
    rw [if_neg q2] at hF
    cases hF
    simp -dsimp [h1, q2]
    repeat (refine chk.go (by first | omega | assumption | (simp_all; done) | (simp_all; omega)) ?_; try simp -dsimp [h1, q2])
    all_goals (try omega)

set_option maxRecDepth 100000 in
set_option maxHeartbeats 400000 in
theorem C.laws_szCtor (B : Nat) (hB1 : 67108864 ≤ B) (hB2 : B ≤ 9223372036854775807) (a : Vl.Ctor) (left' : Int) (r : Int) (hF : F.laws_szCtor a left' = some r) : PureCall Try.prog B 156 [.agg [.lit (.string a.name), .arr (List.map Vl.Ty.c a.args), .lit (.int .i64 a.index)], .lit (.int .i64 left')] (.lit (.int .i64 r)) := by
  unfold F.laws_szCtor at hF
  refine PureCall.enterLe Try.func156 (by kernel_rfl) rfl Try.ntmps156 (by simp) (by simp) ?_
  simp -dsimp
  repeat (refine chk.go (by first | omega | assumption | (simp_all; done) | (simp_all; omega)) ?_; try simp -dsimp)
  refine abr.split (fun h1 => ?_) (fun h1 => ?_)
  · have q2 : (IntKind.i64.wrap (left' - (a.name.size : Int)) < 0) := by first | exact h1 | omega | (simpa using h1) | (simp at h1 ⊢; omega) | simp_all
    rw [if_pos q2] at hF
    cases hF
    simp -dsimp [h1]
    repeat (refine chk.go (by first | omega | assumption | (simp_all; done) | (simp_all; omega)) ?_; try simp -dsimp [h1])
    all_goals (try omega)
  · have q2 : ¬ (IntKind.i64.wrap (left' - (a.name.size : Int)) < 0) := by first | exact h1 | omega | (simpa using h1) | (simp at h1 ⊢; omega) | simp_all
    rw [if_neg q2] at hF
    simp -dsimp [h1, q2]
    repeat (refine chk.go (by first | omega | assumption | (simp_all; done) | (simp_all; omega)) ?_; try simp -dsimp [h1, q2])
    have hF := ob hF; obtain ⟨v, e3, hF⟩ := hF
    refine ((C.laws_szTypeS B hB1 hB2 a.args (IntKind.i64.wrap (left' - (a.name.size : Int))) v e3)).goW (by first | (simp; done) | (simp [h1, q2]; done) | simp_all) (by simp) ?_
    simp -dsimp [h1, q2]
    repeat (refine chk.go (by first | omega | assumption | (simp_all; done) | (simp_all; omega)) ?_; try simp -dsimp [h1, q2])
    refine abr.split (fun h4 => ?_) (fun h4 => ?_)
    · have q5 : (v < 0) := by first | exact h4 | omega | (simpa using h4) | (simp at h4 ⊢; omega) | simp_all
      rw [if_pos q5] at hF
      cases hF
      simp -dsimp [h1, q2, h4]
      repeat (refine chk.go (by first | omega | assumption | (simp_all; done) | (simp_all; omega)) ?_; try simp -dsimp [h1, q2, h4])
      all_goals (try omega)
    · have q5 : ¬ (v < 0) := by first | exact h4 | omega | (simpa using h4) | (simp at h4 ⊢; omega) | simp_all
      rw [if_neg q5] at hF
      cases hF
      simp -dsimp [h1, q2, h4, q5]
      repeat (refine chk.go (by first | omega | assumption | (simp_all; done) | (simp_all; omega)) ?_; try simp -dsimp [h1, q2, h4, q5])
      all_goals (try omega)

set_option maxRecDepth 100000 in
set_option maxHeartbeats 400000 in
theorem CC.laws_szCtorS_l1 (B : Nat) (hB1 : 67108864 ≤ B) (hB2 : B ≤ 9223372036854775807) (a : List Vl.Ctor) : (∀ (left'3 : Int) (i : Nat) (o : Lo Int Int), F.laws_szCtorS_l1 a left'3 i = some o → ∀ (c : Code), navO [1, 1, 1, 0, 1, 0, 0] (bodyOf Try.f112) = some c → ∀ (Q : Exit → ASt → Prop), o.post (fun r => ∀ st, Post Try.prog Try.f112 (fun r' _ => r'.le (.lit (.int .i64 r))) .ret st → Q .ret st) (fun s => Q (.exit 0) ⟨[(1, .lit (.int .i64 s))], []⟩) → ALoopU Try.prog B 0 27 (hold c .mk) ⟨[(0, .arr (List.map Vl.Ctor.c a)), (1, .lit (.int .i64 left'3)), (5, .lit (.int .i64 (i : Int)))], []⟩ (hold Q .mk)) := by
  refine F.laws_szCtorS_l1.partial_correctness a
    (fun left'3 i o => ∀ (c : Code), navO [1, 1, 1, 0, 1, 0, 0] (bodyOf Try.f112) = some c → ∀ (Q : Exit → ASt → Prop), o.post (fun r => ∀ st, Post Try.prog Try.f112 (fun r' _ => r'.le (.lit (.int .i64 r))) .ret st → Q .ret st) (fun s => Q (.exit 0) ⟨[(1, .lit (.int .i64 s))], []⟩) → ALoopU Try.prog B 0 27 (hold c .mk) ⟨[(0, .arr (List.map Vl.Ctor.c a)), (1, .lit (.int .i64 left'3)), (5, .lit (.int .i64 (i : Int)))], []⟩ (hold Q .mk))
    ?_
  · intro _f_laws_szCtorS_l1 ih_laws_szCtorS_l1 left'3 i o hF
    intro c hc Q hq
    obtain rfl : c = _ := navEq hc rfl
    refine ALoopU.know fun hk hs => ?_
    have b0 := hk 0
    simp -dsimp at b0
    clear hk hs
    refine ALoopU.enter ?_
    simp -dsimp
    repeat (refine chk.go (by first | omega | assumption | (simp_all; done) | (simp_all; omega)) ?_; try simp -dsimp)
    refine abr.split (fun h4 => ?_) (fun h4 => ?_)
    · have q5 : (i < a.length) := by first | exact h4 | omega | (simpa using h4) | (simp at h4 ⊢; omega) | simp_all
      have z6 : ((i : Int) < (a.length : Int)) := by first | omega | simp_all
      rw [if_pos q5] at hF
      have hF := ob hF; obtain ⟨x, e7, hF⟩ := hF
      have le7 := lt_of_get e7
      simp -dsimp [h4, z6, ↓e7]
      repeat (refine chk.go (by first | omega | assumption | (simp_all; done) | (simp_all; omega)) ?_; try simp -dsimp [h4, z6, ↓e7])
      have hF := ob hF; obtain ⟨v, e8, hF⟩ := hF
      refine ((C.laws_szCtor B hB1 hB2 x left'3 v e8)).goW (by first | (simp; done) | (simp [h4, z6, ↓e7]; done) | simp_all) (by simp) ?_
      simp -dsimp [h4, z6, ↓e7]
      repeat (refine chk.go (by first | omega | assumption | (simp_all; done) | (simp_all; omega)) ?_; try simp -dsimp [h4, z6, ↓e7])
      refine abr.split (fun h9 => ?_) (fun h9 => ?_)
      · have q10 : (v < 0) := by first | exact h9 | omega | (simpa using h9) | (simp at h9 ⊢; omega) | simp_all
        rw [if_pos q10] at hF
        cases hF
        simp -dsimp [h4, z6, ↓e7, h9]
        repeat (refine chk.go (by first | omega | assumption | (simp_all; done) | (simp_all; omega)) ?_; try simp -dsimp [h4, z6, ↓e7, h9])
        refine Leave.go _ (Gh.refl _) (hq _ ?_)
        simp -dsimp [h4, z6, ↓e7, h9]
        repeat (refine chk.go (by first | omega | assumption | (simp_all; done) | (simp_all; omega)) ?_; try simp -dsimp [h4, z6, ↓e7, h9])
      · have q10 : ¬ (v < 0) := by first | exact h9 | omega | (simpa using h9) | (simp at h9 ⊢; omega) | simp_all
        rw [if_neg q10] at hF
        have w11 : IntKind.i64.wrap ((i : Int) + 1) = (i : Int) + 1 := wrap_in (by omega) (by omega)
        simp -dsimp [h4, z6, ↓e7, h9, q10, w11]
        repeat (refine chk.go (by first | omega | assumption | (simp_all; done) | (simp_all; omega)) ?_; try simp -dsimp [h4, z6, ↓e7, h9, q10, w11])
        refine Again.go ⟨[(0, .arr (List.map Vl.Ctor.c a)), (1, .lit (.int .i64 v)), (5, .lit (.int .i64 ((i + 1) : Int)))], []⟩ (Gh.to (by simp) (by first | (simp -dsimp; done) | (simp -dsimp [h4, z6, ↓e7, h9, q10, w11]; done) | simp_all) (by first | (simp -dsimp; done) | (simp -dsimp [h4, z6, ↓e7, h9, q10, w11]; done) | simp_all) (by first | (simp -dsimp; done) | (simp -dsimp [h4, z6, ↓e7, h9, q10, w11]; done) | simp_all)) ?_
        exact (ih_laws_szCtorS_l1 v (i + 1) o hF) _ rfl _ hq
    · have q5 : ¬ (i < a.length) := by first | exact h4 | omega | (simpa using h4) | (simp at h4 ⊢; omega) | simp_all
      have z6 : ¬ ((i : Int) < (a.length : Int)) := by first | omega | simp_all
      rw [if_neg q5] at hF
      cases hF
      simp -dsimp [h4, q5, z6]
      repeat (refine chk.go (by first | omega | assumption | (simp_all; done) | (simp_all; omega)) ?_; try simp -dsimp [h4, q5, z6])
      refine Leave.go ⟨[(1, .lit (.int .i64 left'3))], []⟩ (Gh.to (by simp) (by first | (simp -dsimp; done) | (simp -dsimp [h4, q5, z6]; done) | simp_all) (by first | (simp -dsimp; done) | (simp -dsimp [h4, q5, z6]; done) | simp_all) (by first | (simp -dsimp; done) | (simp -dsimp [h4, q5, z6]; done) | simp_all)) ?_
      exact hq

theorem C.laws_szCtorS_l1 (B : Nat) (hB1 : 67108864 ≤ B) (hB2 : B ≤ 9223372036854775807) (a : List Vl.Ctor) (left'3 : Int) (i : Nat) (o : Lo Int Int) (hF : F.laws_szCtorS_l1 a left'3 i = some o) : ∀ (c : Code), navO [1, 1, 1, 0, 1, 0, 0] (bodyOf Try.f112) = some c → ∀ (Q : Exit → ASt → Prop), o.post (fun r => ∀ st, Post Try.prog Try.f112 (fun r' _ => r'.le (.lit (.int .i64 r))) .ret st → Q .ret st) (fun s => Q (.exit 0) ⟨[(1, .lit (.int .i64 s))], []⟩) → ALoopU Try.prog B 0 27 (hold c .mk) ⟨[(0, .arr (List.map Vl.Ctor.c a)), (1, .lit (.int .i64 left'3)), (5, .lit (.int .i64 (i : Int)))], []⟩ (hold Q .mk) :=
  (CC.laws_szCtorS_l1 B hB1 hB2 a) left'3 i o hF

set_option maxRecDepth 100000 in
set_option maxHeartbeats 400000 in
theorem C.laws_szCtorS (B : Nat) (hB1 : 67108864 ≤ B) (hB2 : B ≤ 9223372036854775807) (a : List Vl.Ctor) (left' : Int) (r : Int) (hF : F.laws_szCtorS a left' = some r) : PureCall Try.prog B 112 [.arr (List.map Vl.Ctor.c a), .lit (.int .i64 left')] (.lit (.int .i64 r)) := by
  unfold F.laws_szCtorS at hF
  refine PureCall.enterLe Try.func112 (by kernel_rfl) rfl Try.ntmps112 (by simp) (by simp) ?_
  simp -dsimp
  repeat (refine chk.go (by first | omega | assumption | (simp_all; done) | (simp_all; omega)) ?_; try simp -dsimp)
  refine abr.split (fun h1 => ?_) (fun h1 => ?_)
  · have q2 : (IntKind.i64.wrap (left' - (a.length : Int)) < 0) := by first | exact h1 | omega | (simpa using h1) | (simp at h1 ⊢; omega) | simp_all
    rw [if_pos q2] at hF
    cases hF
    simp -dsimp [h1]
    repeat (refine chk.go (by first | omega | assumption | (simp_all; done) | (simp_all; omega)) ?_; try simp -dsimp [h1])
    all_goals (try omega)
  · have q2 : ¬ (IntKind.i64.wrap (left' - (a.length : Int)) < 0) := by first | exact h1 | omega | (simpa using h1) | (simp at h1 ⊢; omega) | simp_all
    rw [if_neg q2] at hF
    simp -dsimp [h1, q2]
    repeat (refine chk.go (by first | omega | assumption | (simp_all; done) | (simp_all; omega)) ?_; try simp -dsimp [h1, q2])
    have hF := ob hF; obtain ⟨o', ho12, hF⟩ := hF
    refine ALoop.goU ⟨[(0, .arr (List.map Vl.Ctor.c a)), (1, .lit (.int .i64 (IntKind.i64.wrap (left' - (a.length : Int))))), (5, .lit (.int .i64 (0 : Int)))], []⟩ (Gh.to (by simp) (by first | (simp -dsimp; done) | (simp -dsimp [h1, q2]; done) | simp_all) (by first | (simp -dsimp; done) | (simp -dsimp [h1, q2]; done) | simp_all) (by first | (simp -dsimp; done) | (simp -dsimp [h1, q2]; done) | simp_all)) ?_
    refine (C.laws_szCtorS_l1 B hB1 hB2 a (IntKind.i64.wrap (left' - (a.length : Int))) 0 o' ho12) _ rfl _ ?_
    rcases o' with r0 | s
    · dsimp only at hF
      cases hF
      intro st h
      simpa using h
    · dsimp only at hF
      cases hF
      simp -dsimp
      repeat (refine chk.go (by first | omega | assumption | (simp_all; done) | (simp_all; omega)) ?_; try simp -dsimp)
      all_goals (try omega)

set_option maxRecDepth 100000 in
set_option maxHeartbeats 400000 in
theorem C.laws_szData (B : Nat) (hB1 : 67108864 ≤ B) (hB2 : B ≤ 9223372036854775807) (a : Vl.Data) (left' : Int) (r : Int) (hF : F.laws_szData a left' = some r) : PureCall Try.prog B 52 [.agg [.lit (.string a.name), .arr (List.map Vl.Ctor.c a.ctors)], .lit (.int .i64 left')] (.lit (.int .i64 r)) := by
  unfold F.laws_szData at hF
  refine PureCall.enterLe Try.func52 (by kernel_rfl) rfl Try.ntmps52 (by simp) (by simp) ?_
  simp -dsimp
  repeat (refine chk.go (by first | omega | assumption | (simp_all; done) | (simp_all; omega)) ?_; try simp -dsimp)
  refine abr.split (fun h1 => ?_) (fun h1 => ?_)
  · have q2 : (IntKind.i64.wrap (left' - (a.name.size : Int)) < 0) := by first | exact h1 | omega | (simpa using h1) | (simp at h1 ⊢; omega) | simp_all
    rw [if_pos q2] at hF
    cases hF
    simp -dsimp [h1]
    repeat (refine chk.go (by first | omega | assumption | (simp_all; done) | (simp_all; omega)) ?_; try simp -dsimp [h1])
    all_goals (try omega)
  · have q2 : ¬ (IntKind.i64.wrap (left' - (a.name.size : Int)) < 0) := by first | exact h1 | omega | (simpa using h1) | (simp at h1 ⊢; omega) | simp_all
    rw [if_neg q2] at hF
    simp -dsimp [h1, q2]
    repeat (refine chk.go (by first | omega | assumption | (simp_all; done) | (simp_all; omega)) ?_; try simp -dsimp [h1, q2])
    have hF := ob hF; obtain ⟨v, e3, hF⟩ := hF
    refine ((C.laws_szCtorS B hB1 hB2 a.ctors (IntKind.i64.wrap (left' - (a.name.size : Int))) v e3)).goW (by first | (simp; done) | (simp [h1, q2]; done) | simp_all) (by simp) ?_
    simp -dsimp [h1, q2]
    repeat (refine chk.go (by first | omega | assumption | (simp_all; done) | (simp_all; omega)) ?_; try simp -dsimp [h1, q2])
    refine abr.split (fun h4 => ?_) (fun h4 => ?_)
    · have q5 : (v < 0) := by first | exact h4 | omega | (simpa using h4) | (simp at h4 ⊢; omega) | simp_all
      rw [if_pos q5] at hF
      cases hF
      simp -dsimp [h1, q2, h4]
      repeat (refine chk.go (by first | omega | assumption | (simp_all; done) | (simp_all; omega)) ?_; try simp -dsimp [h1, q2, h4])
      all_goals (try omega)
    · have q5 : ¬ (v < 0) := by first | exact h4 | omega | (simpa using h4) | (simp at h4 ⊢; omega) | simp_all
      rw [if_neg q5] at hF
      cases hF
      simp -dsimp [h1, q2, h4, q5]
      repeat (refine chk.go (by first | omega | assumption | (simp_all; done) | (simp_all; omega)) ?_; try simp -dsimp [h1, q2, h4, q5])
      all_goals (try omega)

set_option maxRecDepth 100000 in
set_option maxHeartbeats 400000 in
theorem CC.laws_szDataS_l1 (B : Nat) (hB1 : 67108864 ≤ B) (hB2 : B ≤ 9223372036854775807) (a : List Vl.Data) : (∀ (left'3 : Int) (i : Nat) (o : Lo Int Int), F.laws_szDataS_l1 a left'3 i = some o → ∀ (c : Code), navO [1, 1, 1, 0, 1, 0, 0] (bodyOf Try.f9) = some c → ∀ (Q : Exit → ASt → Prop), o.post (fun r => ∀ st, Post Try.prog Try.f9 (fun r' _ => r'.le (.lit (.int .i64 r))) .ret st → Q .ret st) (fun s => Q (.exit 0) ⟨[(1, .lit (.int .i64 s))], []⟩) → ALoopU Try.prog B 0 27 (hold c .mk) ⟨[(0, .arr (List.map Vl.Data.c a)), (1, .lit (.int .i64 left'3)), (5, .lit (.int .i64 (i : Int)))], []⟩ (hold Q .mk)) := by
  refine F.laws_szDataS_l1.partial_correctness a
    (fun left'3 i o => ∀ (c : Code), navO [1, 1, 1, 0, 1, 0, 0] (bodyOf Try.f9) = some c → ∀ (Q : Exit → ASt → Prop), o.post (fun r => ∀ st, Post Try.prog Try.f9 (fun r' _ => r'.le (.lit (.int .i64 r))) .ret st → Q .ret st) (fun s => Q (.exit 0) ⟨[(1, .lit (.int .i64 s))], []⟩) → ALoopU Try.prog B 0 27 (hold c .mk) ⟨[(0, .arr (List.map Vl.Data.c a)), (1, .lit (.int .i64 left'3)), (5, .lit (.int .i64 (i : Int)))], []⟩ (hold Q .mk))
    ?_
  · intro _f_laws_szDataS_l1 ih_laws_szDataS_l1 left'3 i o hF
    intro c hc Q hq
    obtain rfl : c = _ := navEq hc rfl
    refine ALoopU.know fun hk hs => ?_
    have b0 := hk 0
    simp -dsimp at b0
    clear hk hs
    refine ALoopU.enter ?_
    simp -dsimp
    repeat (refine chk.go (by first | omega | assumption | (simp_all; done) | (simp_all; omega)) ?_; try simp -dsimp)
    refine abr.split (fun h4 => ?_) (fun h4 => ?_)
    · have q5 : (i < a.length) := by first | exact h4 | omega | (simpa using h4) | (simp at h4 ⊢; omega) | simp_all
      have z6 : ((i : Int) < (a.length : Int)) := by first | omega | simp_all
      rw [if_pos q5] at hF
      have hF := ob hF; obtain ⟨x, e7, hF⟩ := hF
      have le7 := lt_of_get e7
      simp -dsimp [h4, z6, ↓e7]
      repeat (refine chk.go (by first | omega | assumption | (simp_all; done) | (simp_all; omega)) ?_; try simp -dsimp [h4, z6, ↓e7])
      have hF := ob hF; obtain ⟨v, e8, hF⟩ := hF
      refine ((C.laws_szData B hB1 hB2 x left'3 v e8)).goW (by first | (simp; done) | (simp [h4, z6, ↓e7]; done) | simp_all) (by simp) ?_
      simp -dsimp [h4, z6, ↓e7]
      repeat (refine chk.go (by first | omega | assumption | (simp_all; done) | (simp_all; omega)) ?_; try simp -dsimp [h4, z6, ↓e7])
      refine abr.split (fun h9 => ?_) (fun h9 => ?_)
      · have q10 : (v < 0) := by first | exact h9 | omega | (simpa using h9) | (simp at h9 ⊢; omega) | simp_all
        rw [if_pos q10] at hF
        cases hF
        simp -dsimp [h4, z6, ↓e7, h9]
        repeat (refine chk.go (by first | omega | assumption | (simp_all; done) | (simp_all; omega)) ?_; try simp -dsimp [h4, z6, ↓e7, h9])
        refine Leave.go _ (Gh.refl _) (hq _ ?_)
        simp -dsimp [h4, z6, ↓e7, h9]
        repeat (refine chk.go (by first | omega | assumption | (simp_all; done) | (simp_all; omega)) ?_; try simp -dsimp [h4, z6, ↓e7, h9])
      · have q10 : ¬ (v < 0) := by first | exact h9 | omega | (simpa using h9) | (simp at h9 ⊢; omega) | simp_all
        rw [if_neg q10] at hF
        have w11 : IntKind.i64.wrap ((i : Int) + 1) = (i : Int) + 1 := wrap_in (by omega) (by omega)
        simp -dsimp [h4, z6, ↓e7, h9, q10, w11]
        repeat (refine chk.go (by first | omega | assumption | (simp_all; done) | (simp_all; omega)) ?_; try simp -dsimp [h4, z6, ↓e7, h9, q10, w11])
        refine Again.go ⟨[(0, .arr (List.map Vl.Data.c a)), (1, .lit (.int .i64 v)), (5, .lit (.int .i64 ((i + 1) : Int)))], []⟩ (Gh.to (by simp) (by first | (simp -dsimp; done) | (simp -dsimp [h4, z6, ↓e7, h9, q10, w11]; done) | simp_all) (by first | (simp -dsimp; done) | (simp -dsimp [h4, z6, ↓e7, h9, q10, w11]; done) | simp_all) (by first | (simp -dsimp; done) | (simp -dsimp [h4, z6, ↓e7, h9, q10, w11]; done) | simp_all)) ?_
        exact (ih_laws_szDataS_l1 v (i + 1) o hF) _ rfl _ hq
    · have q5 : ¬ (i < a.length) := by first | exact h4 | omega | (simpa using h4) | (simp at h4 ⊢; omega) | simp_all
      have z6 : ¬ ((i : Int) < (a.length : Int)) := by first | omega | simp_all
      rw [if_neg q5] at hF
      cases hF
      simp -dsimp [h4, q5, z6]
      repeat (refine chk.go (by first | omega | assumption | (simp_all; done) | (simp_all; omega)) ?_; try simp -dsimp [h4, q5, z6])
      refine Leave.go ⟨[(1, .lit (.int .i64 left'3))], []⟩ (Gh.to (by simp) (by first | (simp -dsimp; done) | (simp -dsimp [h4, q5, z6]; done) | simp_all) (by first | (simp -dsimp; done) | (simp -dsimp [h4, q5, z6]; done) | simp_all) (by first | (simp -dsimp; done) | (simp -dsimp [h4, q5, z6]; done) | simp_all)) ?_
      exact hq

theorem C.laws_szDataS_l1 (B : Nat) (hB1 : 67108864 ≤ B) (hB2 : B ≤ 9223372036854775807) (a : List Vl.Data) (left'3 : Int) (i : Nat) (o : Lo Int Int) (hF : F.laws_szDataS_l1 a left'3 i = some o) : ∀ (c : Code), navO [1, 1, 1, 0, 1, 0, 0] (bodyOf Try.f9) = some c → ∀ (Q : Exit → ASt → Prop), o.post (fun r => ∀ st, Post Try.prog Try.f9 (fun r' _ => r'.le (.lit (.int .i64 r))) .ret st → Q .ret st) (fun s => Q (.exit 0) ⟨[(1, .lit (.int .i64 s))], []⟩) → ALoopU Try.prog B 0 27 (hold c .mk) ⟨[(0, .arr (List.map Vl.Data.c a)), (1, .lit (.int .i64 left'3)), (5, .lit (.int .i64 (i : Int)))], []⟩ (hold Q .mk) :=
  (CC.laws_szDataS_l1 B hB1 hB2 a) left'3 i o hF

set_option maxRecDepth 100000 in
set_option maxHeartbeats 400000 in
theorem C.laws_szDataS (B : Nat) (hB1 : 67108864 ≤ B) (hB2 : B ≤ 9223372036854775807) (a : List Vl.Data) (left' : Int) (r : Int) (hF : F.laws_szDataS a left' = some r) : PureCall Try.prog B 9 [.arr (List.map Vl.Data.c a), .lit (.int .i64 left')] (.lit (.int .i64 r)) := by
  unfold F.laws_szDataS at hF
  refine PureCall.enterLe Try.func9 (by kernel_rfl) rfl Try.ntmps9 (by simp) (by simp) ?_
  simp -dsimp
  repeat (refine chk.go (by first | omega | assumption | (simp_all; done) | (simp_all; omega)) ?_; try simp -dsimp)
  refine abr.split (fun h1 => ?_) (fun h1 => ?_)
  · have q2 : (IntKind.i64.wrap (left' - (a.length : Int)) < 0) := by first | exact h1 | omega | (simpa using h1) | (simp at h1 ⊢; omega) | simp_all
    rw [if_pos q2] at hF
    cases hF
    simp -dsimp [h1]
    repeat (refine chk.go (by first | omega | assumption | (simp_all; done) | (simp_all; omega)) ?_; try simp -dsimp [h1])
    all_goals (try omega)
  · have q2 : ¬ (IntKind.i64.wrap (left' - (a.length : Int)) < 0) := by first | exact h1 | omega | (simpa using h1) | (simp at h1 ⊢; omega) | simp_all
    rw [if_neg q2] at hF
    simp -dsimp [h1, q2]
    repeat (refine chk.go (by first | omega | assumption | (simp_all; done) | (simp_all; omega)) ?_; try simp -dsimp [h1, q2])
    have hF := ob hF; obtain ⟨o', ho12, hF⟩ := hF
    refine ALoop.goU ⟨[(0, .arr (List.map Vl.Data.c a)), (1, .lit (.int .i64 (IntKind.i64.wrap (left' - (a.length : Int))))), (5, .lit (.int .i64 (0 : Int)))], []⟩ (Gh.to (by simp) (by first | (simp -dsimp; done) | (simp -dsimp [h1, q2]; done) | simp_all) (by first | (simp -dsimp; done) | (simp -dsimp [h1, q2]; done) | simp_all) (by first | (simp -dsimp; done) | (simp -dsimp [h1, q2]; done) | simp_all)) ?_
    refine (C.laws_szDataS_l1 B hB1 hB2 a (IntKind.i64.wrap (left' - (a.length : Int))) 0 o' ho12) _ rfl _ ?_
    rcases o' with r0 | s
    · dsimp only at hF
      cases hF
      intro st h
      simpa using h
    · dsimp only at hF
      cases hF
      simp -dsimp
      repeat (refine chk.go (by first | omega | assumption | (simp_all; done) | (simp_all; omega)) ?_; try simp -dsimp)
      all_goals (try omega)

set_option maxRecDepth 100000 in
set_option maxHeartbeats 400000 in
theorem C.laws_szFunTypeS (B : Nat) (hB1 : 67108864 ≤ B) (hB2 : B ≤ 9223372036854775807) (a : List Vl.FunType) (left' : Int) (r : Int) (hF : F.laws_szFunTypeS a left' = some r) : PureCall Try.prog B 10 [.arr (List.map Vl.FunType.c a), .lit (.int .i64 left')] (.lit (.int .i64 r)) := by
  unfold F.laws_szFunTypeS at hF
  refine PureCall.enterLe Try.func10 (by kernel_rfl) rfl Try.ntmps10 (by simp) (by simp) ?_
  simp -dsimp
  repeat (refine chk.go (by first | omega | assumption | (simp_all; done) | (simp_all; omega)) ?_; try simp -dsimp)
  refine abr.split (fun h1 => ?_) (fun h1 => ?_)
  · have q2 : (IntKind.i64.wrap (left' - (a.length : Int)) < 0) := by first | exact h1 | omega | (simpa using h1) | (simp at h1 ⊢; omega) | simp_all
    rw [if_pos q2] at hF
    cases hF
    simp -dsimp [h1]
    repeat (refine chk.go (by first | omega | assumption | (simp_all; done) | (simp_all; omega)) ?_; try simp -dsimp [h1])
    all_goals (try omega)
  · have q2 : ¬ (IntKind.i64.wrap (left' - (a.length : Int)) < 0) := by first | exact h1 | omega | (simpa using h1) | (simp at h1 ⊢; omega) | simp_all
    rw [if_neg q2] at hF
    cases hF
    simp -dsimp [h1, q2]
    repeat (refine chk.go (by first | omega | assumption | (simp_all; done) | (simp_all; omega)) ?_; try simp -dsimp [h1, q2])
    all_goals (try omega)

set_option maxRecDepth 100000 in
set_option maxHeartbeats 400000 in
theorem C.laws_szVarTypeS (B : Nat) (hB1 : 67108864 ≤ B) (hB2 : B ≤ 9223372036854775807) (a : List Vl.VarType) (left' : Int) (r : Int) (hF : F.laws_szVarTypeS a left' = some r) : PureCall Try.prog B 11 [.arr (List.map Vl.VarType.c a), .lit (.int .i64 left')] (.lit (.int .i64 r)) := by
  unfold F.laws_szVarTypeS at hF
  refine PureCall.enterLe Try.func11 (by kernel_rfl) rfl Try.ntmps11 (by simp) (by simp) ?_
  simp -dsimp
  repeat (refine chk.go (by first | omega | assumption | (simp_all; done) | (simp_all; omega)) ?_; try simp -dsimp)
  refine abr.split (fun h1 => ?_) (fun h1 => ?_)
  · have q2 : (IntKind.i64.wrap (left' - (a.length : Int)) < 0) := by first | exact h1 | omega | (simpa using h1) | (simp at h1 ⊢; omega) | simp_all
    rw [if_pos q2] at hF
    cases hF
    simp -dsimp [h1]
    repeat (refine chk.go (by first | omega | assumption | (simp_all; done) | (simp_all; omega)) ?_; try simp -dsimp [h1])
    all_goals (try omega)
  · have q2 : ¬ (IntKind.i64.wrap (left' - (a.length : Int)) < 0) := by first | exact h1 | omega | (simpa using h1) | (simp at h1 ⊢; omega) | simp_all
    rw [if_neg q2] at hF
    cases hF
    simp -dsimp [h1, q2]
    repeat (refine chk.go (by first | omega | assumption | (simp_all; done) | (simp_all; omega)) ?_; try simp -dsimp [h1, q2])
    all_goals (try omega)

set_option maxRecDepth 100000 in
set_option maxHeartbeats 400000 in
theorem CC.laws_szExpr (B : Nat) (hB1 : 67108864 ≤ B) (hB2 : B ≤ 9223372036854775807)  : (∀ (a : Vl.Expr) (left' : Int) (r : Int), F.laws_szExpr a left' = some r → PureCall Try.prog B 12 [.agg [.lit (.int .i64 a.op), .lit (.int .i64 a.n), .lit (.int .i64 a.ctor), .arr (List.map Vl.Expr.c a.kids)], .lit (.int .i64 left')] (.lit (.int .i64 r))) ∧
    (∀ (a : List Vl.Expr) (left' : Int) (r : Int), F.laws_szExprS a left' = some r → PureCall Try.prog B 53 [.arr (List.map Vl.Expr.c a), .lit (.int .i64 left')] (.lit (.int .i64 r))) ∧
    (∀ (a : List Vl.Expr) (left'3 : Int) (i : Nat) (o : Lo Int Int), F.laws_szExprS_l1 a left'3 i = some o → ∀ (c : Code), navO [1, 1, 1, 0, 1, 0, 0] (bodyOf Try.f53) = some c → ∀ (Q : Exit → ASt → Prop), o.post (fun r => ∀ st, Post Try.prog Try.f53 (fun r' _ => r'.le (.lit (.int .i64 r))) .ret st → Q .ret st) (fun s => Q (.exit 0) ⟨[(1, .lit (.int .i64 s))], []⟩) → ALoopU Try.prog B 0 27 (hold c .mk) ⟨[(0, .arr (List.map Vl.Expr.c a)), (1, .lit (.int .i64 left'3)), (5, .lit (.int .i64 (i : Int)))], []⟩ (hold Q .mk)) := by
  refine F.laws_szExpr.mutual_partial_correctness 
    (fun a left' r => PureCall Try.prog B 12 [.agg [.lit (.int .i64 a.op), .lit (.int .i64 a.n), .lit (.int .i64 a.ctor), .arr (List.map Vl.Expr.c a.kids)], .lit (.int .i64 left')] (.lit (.int .i64 r)))
    (fun a left' r => PureCall Try.prog B 53 [.arr (List.map Vl.Expr.c a), .lit (.int .i64 left')] (.lit (.int .i64 r)))
    (fun a left'3 i o => ∀ (c : Code), navO [1, 1, 1, 0, 1, 0, 0] (bodyOf Try.f53) = some c → ∀ (Q : Exit → ASt → Prop), o.post (fun r => ∀ st, Post Try.prog Try.f53 (fun r' _ => r'.le (.lit (.int .i64 r))) .ret st → Q .ret st) (fun s => Q (.exit 0) ⟨[(1, .lit (.int .i64 s))], []⟩) → ALoopU Try.prog B 0 27 (hold c .mk) ⟨[(0, .arr (List.map Vl.Expr.c a)), (1, .lit (.int .i64 left'3)), (5, .lit (.int .i64 (i : Int)))], []⟩ (hold Q .mk))
    ?_ ?_ ?_
  · intro _f_laws_szExprS ih_laws_szExprS a left' r hF
    refine PureCall.enterLe Try.func12 (by kernel_rfl) rfl Try.ntmps12 (by simp) (by simp) ?_
    simp -dsimp
    repeat (refine chk.go (by first | omega | assumption | (simp_all; done) | (simp_all; omega)) ?_; try simp -dsimp)
    have hF := ob hF; obtain ⟨v, e1, hF⟩ := hF
    refine ((ih_laws_szExprS a.kids left' v e1)).goW (by simp) (by simp) ?_
    simp -dsimp
    repeat (refine chk.go (by first | omega | assumption | (simp_all; done) | (simp_all; omega)) ?_; try simp -dsimp)
    refine abr.split (fun h2 => ?_) (fun h2 => ?_)
    · have q3 : (v < 0) := by first | exact h2 | omega | (simpa using h2) | (simp at h2 ⊢; omega) | simp_all
      rw [if_pos q3] at hF
      cases hF
      simp -dsimp [h2]
      repeat (refine chk.go (by first | omega | assumption | (simp_all; done) | (simp_all; omega)) ?_; try simp -dsimp [h2])
      all_goals (try omega)
    · have q3 : ¬ (v < 0) := by first | exact h2 | omega | (simpa using h2) | (simp at h2 ⊢; omega) | simp_all
      rw [if_neg q3] at hF
      cases hF
      simp -dsimp [h2, q3]
      repeat (refine chk.go (by first | omega | assumption | (simp_all; done) | (simp_all; omega)) ?_; try simp -dsimp [h2, q3])
      all_goals (try omega)
  · intro _f_laws_szExprS_l1 ih_laws_szExprS_l1 a left' r hF
    refine PureCall.enterLe Try.func53 (by kernel_rfl) rfl Try.ntmps53 (by simp) (by simp) ?_
    simp -dsimp
    repeat (refine chk.go (by first | omega | assumption | (simp_all; done) | (simp_all; omega)) ?_; try simp -dsimp)
    refine abr.split (fun h1 => ?_) (fun h1 => ?_)
    · have q2 : (IntKind.i64.wrap (left' - (a.length : Int)) < 0) := by first | exact h1 | omega | (simpa using h1) | (simp at h1 ⊢; omega) | simp_all
      rw [if_pos q2] at hF
      cases hF
      simp -dsimp [h1]
      repeat (refine chk.go (by first | omega | assumption | (simp_all; done) | (simp_all; omega)) ?_; try simp -dsimp [h1])
      all_goals (try omega)
    · have q2 : ¬ (IntKind.i64.wrap (left' - (a.length : Int)) < 0) := by first | exact h1 | omega | (simpa using h1) | (simp at h1 ⊢; omega) | simp_all
      rw [if_neg q2] at hF
      simp -dsimp [h1, q2]
      repeat (refine chk.go (by first | omega | assumption | (simp_all; done) | (simp_all; omega)) ?_; try simp -dsimp [h1, q2])
      have hF := ob hF; obtain ⟨o', ho12, hF⟩ := hF
      refine ALoop.goU ⟨[(0, .arr (List.map Vl.Expr.c a)), (1, .lit (.int .i64 (IntKind.i64.wrap (left' - (a.length : Int))))), (5, .lit (.int .i64 (0 : Int)))], []⟩ (Gh.to (by simp) (by first | (simp -dsimp; done) | (simp -dsimp [h1, q2]; done) | simp_all) (by first | (simp -dsimp; done) | (simp -dsimp [h1, q2]; done) | simp_all) (by first | (simp -dsimp; done) | (simp -dsimp [h1, q2]; done) | simp_all)) ?_
      refine (ih_laws_szExprS_l1 a (IntKind.i64.wrap (left' - (a.length : Int))) 0 o' ho12) _ rfl _ ?_
      rcases o' with r0 | s
      · dsimp only at hF
        cases hF
        intro st h
        simpa using h
      · dsimp only at hF
        cases hF
        simp -dsimp
        repeat (refine chk.go (by first | omega | assumption | (simp_all; done) | (simp_all; omega)) ?_; try simp -dsimp)
        all_goals (try omega)
  · intro _f_laws_szExpr _f_laws_szExprS_l1 ih_laws_szExpr ih_laws_szExprS_l1 a left'3 i o hF
    intro c hc Q hq
    obtain rfl : c = _ := navEq hc rfl
    refine ALoopU.know fun hk hs => ?_
    have b0 := hk 0
    simp -dsimp at b0
    clear hk hs
    refine ALoopU.enter ?_
    simp -dsimp
    repeat (refine chk.go (by first | omega | assumption | (simp_all; done) | (simp_all; omega)) ?_; try simp -dsimp)
    refine abr.split (fun h4 => ?_) (fun h4 => ?_)
    · have q5 : (i < a.length) := by first | exact h4 | omega | (simpa using h4) | (simp at h4 ⊢; omega) | simp_all
      have z6 : ((i : Int) < (a.length : Int)) := by first | omega | simp_all
      rw [if_pos q5] at hF
      have hF := ob hF; obtain ⟨x, e7, hF⟩ := hF
      have le7 := lt_of_get e7
      simp -dsimp [h4, z6, ↓e7]
      repeat (refine chk.go (by first | omega | assumption | (simp_all; done) | (simp_all; omega)) ?_; try simp -dsimp [h4, z6, ↓e7])
      have hF := ob hF; obtain ⟨v, e8, hF⟩ := hF
      refine ((ih_laws_szExpr x left'3 v e8)).goW (by first | (simp; done) | (simp [h4, z6, ↓e7]; done) | simp_all) (by simp) ?_
      simp -dsimp [h4, z6, ↓e7]
      repeat (refine chk.go (by first | omega | assumption | (simp_all; done) | (simp_all; omega)) ?_; try simp -dsimp [h4, z6, ↓e7])
      refine abr.split (fun h9 => ?_) (fun h9 => ?_)
      · have q10 : (v < 0) := by first | exact h9 | omega | (simpa using h9) | (simp at h9 ⊢; omega) | simp_all
        rw [if_pos q10] at hF
        cases hF
        simp -dsimp [h4, z6, ↓e7, h9]
        repeat (refine chk.go (by first | omega | assumption | (simp_all; done) | (simp_all; omega)) ?_; try simp -dsimp [h4, z6, ↓e7, h9])
        refine Leave.go _ (Gh.refl _) (hq _ ?_)
        simp -dsimp [h4, z6, ↓e7, h9]
        repeat (refine chk.go (by first | omega | assumption | (simp_all; done) | (simp_all; omega)) ?_; try simp -dsimp [h4, z6, ↓e7, h9])
      · have q10 : ¬ (v < 0) := by first | exact h9 | omega | (simpa using h9) | (simp at h9 ⊢; omega) | simp_all
        rw [if_neg q10] at hF
        have w11 : IntKind.i64.wrap ((i : Int) + 1) = (i : Int) + 1 := wrap_in (by omega) (by omega)
        simp -dsimp [h4, z6, ↓e7, h9, q10, w11]
        repeat (refine chk.go (by first | omega | assumption | (simp_all; done) | (simp_all; omega)) ?_; try simp -dsimp [h4, z6, ↓e7, h9, q10, w11])
        refine Again.go ⟨[(0, .arr (List.map Vl.Expr.c a)), (1, .lit (.int .i64 v)), (5, .lit (.int .i64 ((i + 1) : Int)))], []⟩ (Gh.to (by simp) (by first | (simp -dsimp; done) | (simp -dsimp [h4, z6, ↓e7, h9, q10, w11]; done) | simp_all) (by first | (simp -dsimp; done) | (simp -dsimp [h4, z6, ↓e7, h9, q10, w11]; done) | simp_all) (by first | (simp -dsimp; done) | (simp -dsimp [h4, z6, ↓e7, h9, q10, w11]; done) | simp_all)) ?_
        exact (ih_laws_szExprS_l1 a v (i + 1) o hF) _ rfl _ hq
    · have q5 : ¬ (i < a.length) := by first | exact h4 | omega | (simpa using h4) | (simp at h4 ⊢; omega) | simp_all
      have z6 : ¬ ((i : Int) < (a.length : Int)) := by first | omega | simp_all
      rw [if_neg q5] at hF
      cases hF
      simp -dsimp [h4, q5, z6]
      repeat (refine chk.go (by first | omega | assumption | (simp_all; done) | (simp_all; omega)) ?_; try simp -dsimp [h4, q5, z6])
      refine Leave.go ⟨[(1, .lit (.int .i64 left'3))], []⟩ (Gh.to (by simp) (by first | (simp -dsimp; done) | (simp -dsimp [h4, q5, z6]; done) | simp_all) (by first | (simp -dsimp; done) | (simp -dsimp [h4, q5, z6]; done) | simp_all) (by first | (simp -dsimp; done) | (simp -dsimp [h4, q5, z6]; done) | simp_all)) ?_
      exact hq

theorem C.laws_szExpr (B : Nat) (hB1 : 67108864 ≤ B) (hB2 : B ≤ 9223372036854775807) (a : Vl.Expr) (left' : Int) (r : Int) (hF : F.laws_szExpr a left' = some r) : PureCall Try.prog B 12 [.agg [.lit (.int .i64 a.op), .lit (.int .i64 a.n), .lit (.int .i64 a.ctor), .arr (List.map Vl.Expr.c a.kids)], .lit (.int .i64 left')] (.lit (.int .i64 r)) :=
  (CC.laws_szExpr B hB1 hB2 ).1 a left' r hF

theorem C.laws_szExprS (B : Nat) (hB1 : 67108864 ≤ B) (hB2 : B ≤ 9223372036854775807) (a : List Vl.Expr) (left' : Int) (r : Int) (hF : F.laws_szExprS a left' = some r) : PureCall Try.prog B 53 [.arr (List.map Vl.Expr.c a), .lit (.int .i64 left')] (.lit (.int .i64 r)) :=
  (CC.laws_szExpr B hB1 hB2 ).2.1 a left' r hF

theorem C.laws_szExprS_l1 (B : Nat) (hB1 : 67108864 ≤ B) (hB2 : B ≤ 9223372036854775807) (a : List Vl.Expr) (left'3 : Int) (i : Nat) (o : Lo Int Int) (hF : F.laws_szExprS_l1 a left'3 i = some o) : ∀ (c : Code), navO [1, 1, 1, 0, 1, 0, 0] (bodyOf Try.f53) = some c → ∀ (Q : Exit → ASt → Prop), o.post (fun r => ∀ st, Post Try.prog Try.f53 (fun r' _ => r'.le (.lit (.int .i64 r))) .ret st → Q .ret st) (fun s => Q (.exit 0) ⟨[(1, .lit (.int .i64 s))], []⟩) → ALoopU Try.prog B 0 27 (hold c .mk) ⟨[(0, .arr (List.map Vl.Expr.c a)), (1, .lit (.int .i64 left'3)), (5, .lit (.int .i64 (i : Int)))], []⟩ (hold Q .mk) :=
  (CC.laws_szExpr B hB1 hB2 ).2.2 a left'3 i o hF

set_option maxRecDepth 100000 in
set_option maxHeartbeats 400000 in
theorem C.laws_toType (B : Nat) (hB1 : 67108864 ≤ B) (hB2 : B ≤ 9223372036854775807) (a : Vl.Ty) (r : Vl.Ty) (hF : F.laws_toType a = some r) : PureCall Try.prog B 17 [.agg [.lit (.int .i64 a.data), .lit (.int .i64 a.index)]] (.agg [.lit (.int .i64 r.data), .lit (.int .i64 r.index)]) := by
  unfold F.laws_toType at hF
  refine PureCall.enterLe Try.func17 (by kernel_rfl) rfl Try.ntmps17 (by simp) (by simp) ?_
  cases hF
  simp -dsimp
  repeat (refine chk.go (by first | omega | assumption | (simp_all; done) | (simp_all; omega)) ?_; try simp -dsimp)
  all_goals (try omega)

set_option maxRecDepth 100000 in
set_option maxHeartbeats 400000 in
theorem CC.laws_toTypeS_l1 (B : Nat) (hB1 : 67108864 ≤ B) (hB2 : B ≤ 9223372036854775807) (a : List Vl.Ty) : (∀ (out : List Vl.Ty) (i : Nat) (o : List Vl.Ty), F.laws_toTypeS_l1 a out i = some o → ∀ (c : Code), navO [1, 1, 0, 1, 0, 0] (bodyOf Try.f198) = some c → ∀ (Q : Exit → ASt → Prop), Q (.exit 0) ⟨[(3, .own 0 (List.length (α := Vl.Ty) o))], [.elems 2 (List.map Vl.Ty.c o)]⟩ → ALoopU Try.prog B 0 23 (hold c .mk) ⟨[(0, .arr (List.map Vl.Ty.c a)), (3, .own 0 (List.length (α := Vl.Ty) out)), (4, .lit (.int .i64 (i : Int)))], [.elems 2 (List.map Vl.Ty.c out)]⟩ (hold Q .mk)) := by
  refine F.laws_toTypeS_l1.partial_correctness a
    (fun out i o => ∀ (c : Code), navO [1, 1, 0, 1, 0, 0] (bodyOf Try.f198) = some c → ∀ (Q : Exit → ASt → Prop), Q (.exit 0) ⟨[(3, .own 0 (List.length (α := Vl.Ty) o))], [.elems 2 (List.map Vl.Ty.c o)]⟩ → ALoopU Try.prog B 0 23 (hold c .mk) ⟨[(0, .arr (List.map Vl.Ty.c a)), (3, .own 0 (List.length (α := Vl.Ty) out)), (4, .lit (.int .i64 (i : Int)))], [.elems 2 (List.map Vl.Ty.c out)]⟩ (hold Q .mk))
    ?_
  · intro _f_laws_toTypeS_l1 ih_laws_toTypeS_l1 out i o hF
    intro c hc Q hq
    obtain rfl : c = _ := navEq hc rfl
    refine ALoopU.know fun hk hs => ?_
    have b0 := hk 0
    simp -dsimp at b0
    have d0 := hs 0 _ rfl
    simp -dsimp [Blk.bnd] at d0
    clear hk hs
    refine ALoopU.enter ?_
    simp -dsimp
    repeat (refine chk.go (by first | omega | assumption | (simp_all; done) | (simp_all; omega)) ?_; try simp -dsimp)
    refine abr.split (fun h2 => ?_) (fun h2 => ?_)
    · have q3 : (i < a.length) := by first | exact h2 | omega | (simpa using h2) | (simp at h2 ⊢; omega) | simp_all
      have z4 : ((i : Int) < (a.length : Int)) := by first | omega | simp_all
      rw [if_pos q3] at hF
      have hF := ob hF; obtain ⟨x, e5, hF⟩ := hF
      have le5 := lt_of_get e5
      simp -dsimp [h2, z4, ↓e5]
      repeat (refine chk.go (by first | omega | assumption | (simp_all; done) | (simp_all; omega)) ?_; try simp -dsimp [h2, z4, ↓e5])
      have hF := ob hF; obtain ⟨v, e6, hF⟩ := hF
      refine ((C.laws_toType B hB1 hB2 x v e6)).goW (by first | (simp; done) | (simp [h2, z4, ↓e5]; done) | simp_all) (by simp) ?_
      have hF := ob hF; obtain ⟨x7, e8, hF⟩ := hF
      have le8 := lt_of_get e8
      have w9 : IntKind.i64.wrap ((i : Int) + 1) = (i : Int) + 1 := wrap_in (by omega) (by omega)
      simp -dsimp [h2, z4, ↓e5, ↓e8, w9]
      repeat (refine chk.go (by first | omega | assumption | (simp_all; done) | (simp_all; omega)) ?_; try simp -dsimp [h2, z4, ↓e5, ↓e8, w9])
      refine Again.go ⟨[(0, .arr (List.map Vl.Ty.c a)), (3, .own 0 (List.length (α := Vl.Ty) (out.set i v))), (4, .lit (.int .i64 ((i + 1) : Int)))], [.elems 2 (List.map Vl.Ty.c (out.set i v))]⟩ (Gh.to (by simp) (by first | (simp -dsimp; done) | (simp -dsimp [h2, z4, ↓e5, ↓e8, w9]; done) | simp_all) (by first | (simp -dsimp; done) | (simp -dsimp [h2, z4, ↓e5, ↓e8, w9]; done) | simp_all) (by first | (simp -dsimp; done) | (simp -dsimp [h2, z4, ↓e5, ↓e8, w9]; done) | simp_all)) ?_
      exact (ih_laws_toTypeS_l1 (out.set i v) (i + 1) o hF) _ rfl _ hq
    · have q3 : ¬ (i < a.length) := by first | exact h2 | omega | (simpa using h2) | (simp at h2 ⊢; omega) | simp_all
      have z4 : ¬ ((i : Int) < (a.length : Int)) := by first | omega | simp_all
      rw [if_neg q3] at hF
      cases hF
      simp -dsimp [h2, q3, z4]
      repeat (refine chk.go (by first | omega | assumption | (simp_all; done) | (simp_all; omega)) ?_; try simp -dsimp [h2, q3, z4])
      refine Leave.go ⟨[(3, .own 0 (List.length (α := Vl.Ty) out))], [.elems 2 (List.map Vl.Ty.c out)]⟩ (Gh.to (by simp) (by first | (simp -dsimp; done) | (simp -dsimp [h2, q3, z4]; done) | simp_all) (by first | (simp -dsimp; done) | (simp -dsimp [h2, q3, z4]; done) | simp_all) (by first | (simp -dsimp; done) | (simp -dsimp [h2, q3, z4]; done) | simp_all)) ?_
      exact hq

theorem C.laws_toTypeS_l1 (B : Nat) (hB1 : 67108864 ≤ B) (hB2 : B ≤ 9223372036854775807) (a : List Vl.Ty) (out : List Vl.Ty) (i : Nat) (o : List Vl.Ty) (hF : F.laws_toTypeS_l1 a out i = some o) : ∀ (c : Code), navO [1, 1, 0, 1, 0, 0] (bodyOf Try.f198) = some c → ∀ (Q : Exit → ASt → Prop), Q (.exit 0) ⟨[(3, .own 0 (List.length (α := Vl.Ty) o))], [.elems 2 (List.map Vl.Ty.c o)]⟩ → ALoopU Try.prog B 0 23 (hold c .mk) ⟨[(0, .arr (List.map Vl.Ty.c a)), (3, .own 0 (List.length (α := Vl.Ty) out)), (4, .lit (.int .i64 (i : Int)))], [.elems 2 (List.map Vl.Ty.c out)]⟩ (hold Q .mk) :=
  (CC.laws_toTypeS_l1 B hB1 hB2 a) out i o hF

set_option maxRecDepth 100000 in
set_option maxHeartbeats 400000 in
theorem C.laws_toTypeS (B : Nat) (hB1 : 67108864 ≤ B) (hB2 : B ≤ 9223372036854775807) (a : List Vl.Ty) (r : List Vl.Ty) (hF : F.laws_toTypeS a = some r) : PureCall Try.prog B 198 [.arr (List.map Vl.Ty.c a)] (.arr (List.map Vl.Ty.c r)) := by
  unfold F.laws_toTypeS at hF
  refine PureCall.enterLe Try.func198 (by kernel_rfl) rfl Try.ntmps198 (by simp) (by simp) ?_
  have hF := oc hF; obtain ⟨c1, hF⟩ := hF
  simp -dsimp
  repeat (refine chk.go (by first | omega | assumption | (simp_all; done) | (simp_all; omega)) ?_; try simp -dsimp)
  have hF := ob hF; obtain ⟨o', ho10, hF⟩ := hF
  refine ALoop.goU ⟨[(0, .arr (List.map Vl.Ty.c a)), (3, .own 0 (List.length (α := Vl.Ty) (List.replicate a.length Vl.Ty.z))), (4, .lit (.int .i64 (0 : Int)))], [.elems 2 (List.map Vl.Ty.c (List.replicate a.length Vl.Ty.z))]⟩ (Gh.to (by simp) (by simp -dsimp) (by simp -dsimp) (by simp -dsimp)) ?_
  refine (C.laws_toTypeS_l1 B hB1 hB2 a (List.replicate a.length Vl.Ty.z) 0 o' ho10) _ rfl _ ?_
  cases hF
  simp -dsimp
  repeat (refine chk.go (by first | omega | assumption | (simp_all; done) | (simp_all; omega)) ?_; try simp -dsimp)
  all_goals (try omega)

set_option maxRecDepth 100000 in
set_option maxHeartbeats 400000 in
theorem C.laws_toCtor (B : Nat) (hB1 : 67108864 ≤ B) (hB2 : B ≤ 9223372036854775807) (a : Vl.Ctor) (r : Vl.Ctor) (hF : F.laws_toCtor a = some r) : PureCall Try.prog B 161 [.agg [.lit (.string a.name), .arr (List.map Vl.Ty.c a.args), .lit (.int .i64 a.index)]] (.agg [.lit (.string r.name), .arr (List.map Vl.Ty.c r.args), .lit (.int .i64 r.index)]) := by
  unfold F.laws_toCtor at hF
  refine PureCall.enterLe Try.func161 (by kernel_rfl) rfl Try.ntmps161 (by simp) (by simp) ?_
  simp -dsimp
  repeat (refine chk.go (by first | omega | assumption | (simp_all; done) | (simp_all; omega)) ?_; try simp -dsimp)
  have hF := ob hF; obtain ⟨v, e1, hF⟩ := hF
  refine ((C.laws_toTypeS B hB1 hB2 a.args v e1)).goW (by simp) (by simp) ?_
  cases hF
  simp -dsimp
  repeat (refine chk.go (by first | omega | assumption | (simp_all; done) | (simp_all; omega)) ?_; try simp -dsimp)
  all_goals (try omega)

set_option maxRecDepth 100000 in
set_option maxHeartbeats 400000 in
theorem CC.laws_toCtorS_l1 (B : Nat) (hB1 : 67108864 ≤ B) (hB2 : B ≤ 9223372036854775807) (a : List Vl.Ctor) : (∀ (out : List Vl.Ctor) (i : Nat) (o : List Vl.Ctor), F.laws_toCtorS_l1 a out i = some o → ∀ (c : Code), navO [1, 1, 0, 1, 0, 0] (bodyOf Try.f118) = some c → ∀ (Q : Exit → ASt → Prop), Q (.exit 0) ⟨[(3, .own 0 (List.length (α := Vl.Ctor) o))], [.elems 3 (List.map Vl.Ctor.c o)]⟩ → ALoopU Try.prog B 0 23 (hold c .mk) ⟨[(0, .arr (List.map Vl.Ctor.c a)), (3, .own 0 (List.length (α := Vl.Ctor) out)), (4, .lit (.int .i64 (i : Int)))], [.elems 3 (List.map Vl.Ctor.c out)]⟩ (hold Q .mk)) := by
  refine F.laws_toCtorS_l1.partial_correctness a
    (fun out i o => ∀ (c : Code), navO [1, 1, 0, 1, 0, 0] (bodyOf Try.f118) = some c → ∀ (Q : Exit → ASt → Prop), Q (.exit 0) ⟨[(3, .own 0 (List.length (α := Vl.Ctor) o))], [.elems 3 (List.map Vl.Ctor.c o)]⟩ → ALoopU Try.prog B 0 23 (hold c .mk) ⟨[(0, .arr (List.map Vl.Ctor.c a)), (3, .own 0 (List.length (α := Vl.Ctor) out)), (4, .lit (.int .i64 (i : Int)))], [.elems 3 (List.map Vl.Ctor.c out)]⟩ (hold Q .mk))
    ?_
  · intro _f_laws_toCtorS_l1 ih_laws_toCtorS_l1 out i o hF
    intro c hc Q hq
    obtain rfl : c = _ := navEq hc rfl
    refine ALoopU.know fun hk hs => ?_
    have b0 := hk 0
    simp -dsimp at b0
    have d0 := hs 0 _ rfl
    simp -dsimp [Blk.bnd] at d0
    clear hk hs
    refine ALoopU.enter ?_
    simp -dsimp
    repeat (refine chk.go (by first | omega | assumption | (simp_all; done) | (simp_all; omega)) ?_; try simp -dsimp)
    refine abr.split (fun h2 => ?_) (fun h2 => ?_)
    · have q3 : (i < a.length) := by first | exact h2 | omega | (simpa using h2) | (simp at h2 ⊢; omega) | simp_all
      have z4 : ((i : Int) < (a.length : Int)) := by first | omega | simp_all
      rw [if_pos q3] at hF
      have hF := ob hF; obtain ⟨x, e5, hF⟩ := hF
      have le5 := lt_of_get e5
      simp -dsimp [h2, z4, ↓e5]
      repeat (refine chk.go (by first | omega | assumption | (simp_all; done) | (simp_all; omega)) ?_; try simp -dsimp [h2, z4, ↓e5])
      have hF := ob hF; obtain ⟨v, e6, hF⟩ := hF
      refine ((C.laws_toCtor B hB1 hB2 x v e6)).goW (by first | (simp; done) | (simp [h2, z4, ↓e5]; done) | simp_all) (by simp) ?_
      have hF := ob hF; obtain ⟨x7, e8, hF⟩ := hF
      have le8 := lt_of_get e8
      have w9 : IntKind.i64.wrap ((i : Int) + 1) = (i : Int) + 1 := wrap_in (by omega) (by omega)
      simp -dsimp [h2, z4, ↓e5, ↓e8, w9]
      repeat (refine chk.go (by first | omega | assumption | (simp_all; done) | (simp_all; omega)) ?_; try simp -dsimp [h2, z4, ↓e5, ↓e8, w9])
      refine Again.go ⟨[(0, .arr (List.map Vl.Ctor.c a)), (3, .own 0 (List.length (α := Vl.Ctor) (out.set i v))), (4, .lit (.int .i64 ((i + 1) : Int)))], [.elems 3 (List.map Vl.Ctor.c (out.set i v))]⟩ (Gh.to (by simp) (by first | (simp -dsimp; done) | (simp -dsimp [h2, z4, ↓e5, ↓e8, w9]; done) | simp_all) (by first | (simp -dsimp; done) | (simp -dsimp [h2, z4, ↓e5, ↓e8, w9]; done) | simp_all) (by first | (simp -dsimp; done) | (simp -dsimp [h2, z4, ↓e5, ↓e8, w9]; done) | simp_all)) ?_
      exact (ih_laws_toCtorS_l1 (out.set i v) (i + 1) o hF) _ rfl _ hq
    · have q3 : ¬ (i < a.length) := by first | exact h2 | omega | (simpa using h2) | (simp at h2 ⊢; omega) | simp_all
      have z4 : ¬ ((i : Int) < (a.length : Int)) := by first | omega | simp_all
      rw [if_neg q3] at hF
      cases hF
      simp -dsimp [h2, q3, z4]
      repeat (refine chk.go (by first | omega | assumption | (simp_all; done) | (simp_all; omega)) ?_; try simp -dsimp [h2, q3, z4])
      refine Leave.go ⟨[(3, .own 0 (List.length (α := Vl.Ctor) out))], [.elems 3 (List.map Vl.Ctor.c out)]⟩ (Gh.to (by simp) (by first | (simp -dsimp; done) | (simp -dsimp [h2, q3, z4]; done) | simp_all) (by first | (simp -dsimp; done) | (simp -dsimp [h2, q3, z4]; done) | simp_all) (by first | (simp -dsimp; done) | (simp -dsimp [h2, q3, z4]; done) | simp_all)) ?_
      exact hq

theorem C.laws_toCtorS_l1 (B : Nat) (hB1 : 67108864 ≤ B) (hB2 : B ≤ 9223372036854775807) (a : List Vl.Ctor) (out : List Vl.Ctor) (i : Nat) (o : List Vl.Ctor) (hF : F.laws_toCtorS_l1 a out i = some o) : ∀ (c : Code), navO [1, 1, 0, 1, 0, 0] (bodyOf Try.f118) = some c → ∀ (Q : Exit → ASt → Prop), Q (.exit 0) ⟨[(3, .own 0 (List.length (α := Vl.Ctor) o))], [.elems 3 (List.map Vl.Ctor.c o)]⟩ → ALoopU Try.prog B 0 23 (hold c .mk) ⟨[(0, .arr (List.map Vl.Ctor.c a)), (3, .own 0 (List.length (α := Vl.Ctor) out)), (4, .lit (.int .i64 (i : Int)))], [.elems 3 (List.map Vl.Ctor.c out)]⟩ (hold Q .mk) :=
  (CC.laws_toCtorS_l1 B hB1 hB2 a) out i o hF

set_option maxRecDepth 100000 in
set_option maxHeartbeats 400000 in
theorem C.laws_toCtorS (B : Nat) (hB1 : 67108864 ≤ B) (hB2 : B ≤ 9223372036854775807) (a : List Vl.Ctor) (r : List Vl.Ctor) (hF : F.laws_toCtorS a = some r) : PureCall Try.prog B 118 [.arr (List.map Vl.Ctor.c a)] (.arr (List.map Vl.Ctor.c r)) := by
  unfold F.laws_toCtorS at hF
  refine PureCall.enterLe Try.func118 (by kernel_rfl) rfl Try.ntmps118 (by simp) (by simp) ?_
  have hF := oc hF; obtain ⟨c1, hF⟩ := hF
  simp -dsimp
  repeat (refine chk.go (by first | omega | assumption | (simp_all; done) | (simp_all; omega)) ?_; try simp -dsimp)
  have hF := ob hF; obtain ⟨o', ho10, hF⟩ := hF
  refine ALoop.goU ⟨[(0, .arr (List.map Vl.Ctor.c a)), (3, .own 0 (List.length (α := Vl.Ctor) (List.replicate a.length Vl.Ctor.z))), (4, .lit (.int .i64 (0 : Int)))], [.elems 3 (List.map Vl.Ctor.c (List.replicate a.length Vl.Ctor.z))]⟩ (Gh.to (by simp) (by simp -dsimp) (by simp -dsimp) (by simp -dsimp)) ?_
  refine (C.laws_toCtorS_l1 B hB1 hB2 a (List.replicate a.length Vl.Ctor.z) 0 o' ho10) _ rfl _ ?_
  cases hF
  simp -dsimp
  repeat (refine chk.go (by first | omega | assumption | (simp_all; done) | (simp_all; omega)) ?_; try simp -dsimp)
  all_goals (try omega)

set_option maxRecDepth 100000 in
set_option maxHeartbeats 400000 in
theorem C.laws_toData (B : Nat) (hB1 : 67108864 ≤ B) (hB2 : B ≤ 9223372036854775807) (a : Vl.Data) (r : Vl.Data) (hF : F.laws_toData a = some r) : PureCall Try.prog B 56 [.agg [.lit (.string a.name), .arr (List.map Vl.Ctor.c a.ctors)]] (.agg [.lit (.string r.name), .arr (List.map Vl.Ctor.c r.ctors)]) := by
  unfold F.laws_toData at hF
  refine PureCall.enterLe Try.func56 (by kernel_rfl) rfl Try.ntmps56 (by simp) (by simp) ?_
  simp -dsimp
  repeat (refine chk.go (by first | omega | assumption | (simp_all; done) | (simp_all; omega)) ?_; try simp -dsimp)
  have hF := ob hF; obtain ⟨v, e1, hF⟩ := hF
  refine ((C.laws_toCtorS B hB1 hB2 a.ctors v e1)).goW (by simp) (by simp) ?_
  cases hF
  simp -dsimp
  repeat (refine chk.go (by first | omega | assumption | (simp_all; done) | (simp_all; omega)) ?_; try simp -dsimp)
  all_goals (try omega)

set_option maxRecDepth 100000 in
set_option maxHeartbeats 400000 in
theorem CC.laws_toDataS_l1 (B : Nat) (hB1 : 67108864 ≤ B) (hB2 : B ≤ 9223372036854775807) (a : List Vl.Data) : (∀ (out : List Vl.Data) (i : Nat) (o : List Vl.Data), F.laws_toDataS_l1 a out i = some o → ∀ (c : Code), navO [1, 1, 0, 1, 0, 0] (bodyOf Try.f14) = some c → ∀ (Q : Exit → ASt → Prop), Q (.exit 0) ⟨[(3, .own 0 (List.length (α := Vl.Data) o))], [.elems 2 (List.map Vl.Data.c o)]⟩ → ALoopU Try.prog B 0 23 (hold c .mk) ⟨[(0, .arr (List.map Vl.Data.c a)), (3, .own 0 (List.length (α := Vl.Data) out)), (4, .lit (.int .i64 (i : Int)))], [.elems 2 (List.map Vl.Data.c out)]⟩ (hold Q .mk)) := by
  refine F.laws_toDataS_l1.partial_correctness a
    (fun out i o => ∀ (c : Code), navO [1, 1, 0, 1, 0, 0] (bodyOf Try.f14) = some c → ∀ (Q : Exit → ASt → Prop), Q (.exit 0) ⟨[(3, .own 0 (List.length (α := Vl.Data) o))], [.elems 2 (List.map Vl.Data.c o)]⟩ → ALoopU Try.prog B 0 23 (hold c .mk) ⟨[(0, .arr (List.map Vl.Data.c a)), (3, .own 0 (List.length (α := Vl.Data) out)), (4, .lit (.int .i64 (i : Int)))], [.elems 2 (List.map Vl.Data.c out)]⟩ (hold Q .mk))
    ?_
  · intro _f_laws_toDataS_l1 ih_laws_toDataS_l1 out i o hF
    intro c hc Q hq
    obtain rfl : c = _ := navEq hc rfl
    refine ALoopU.know fun hk hs => ?_
    have b0 := hk 0
    simp -dsimp at b0
    have d0 := hs 0 _ rfl
    simp -dsimp [Blk.bnd] at d0
    clear hk hs
    refine ALoopU.enter ?_
    simp -dsimp
    repeat (refine chk.go (by first | omega | assumption | (simp_all; done) | (simp_all; omega)) ?_; try simp -dsimp)
    refine abr.split (fun h2 => ?_) (fun h2 => ?_)
    · have q3 : (i < a.length) := by first | exact h2 | omega | (simpa using h2) | (simp at h2 ⊢; omega) | simp_all
      have z4 : ((i : Int) < (a.length : Int)) := by first | omega | simp_all
      rw [if_pos q3] at hF
      have hF := ob hF; obtain ⟨x, e5, hF⟩ := hF
      have le5 := lt_of_get e5
      simp -dsimp [h2, z4, ↓e5]
      repeat (refine chk.go (by first | omega | assumption | (simp_all; done) | (simp_all; omega)) ?_; try simp -dsimp [h2, z4, ↓e5])
      have hF := ob hF; obtain ⟨v, e6, hF⟩ := hF
      refine ((C.laws_toData B hB1 hB2 x v e6)).goW (by first | (simp; done) | (simp [h2, z4, ↓e5]; done) | simp_all) (by simp) ?_
      have hF := ob hF; obtain ⟨x7, e8, hF⟩ := hF
      have le8 := lt_of_get e8
      have w9 : IntKind.i64.wrap ((i : Int) + 1) = (i : Int) + 1 := wrap_in (by omega) (by omega)
      simp -dsimp [h2, z4, ↓e5, ↓e8, w9]
      repeat (refine chk.go (by first | omega | assumption | (simp_all; done) | (simp_all; omega)) ?_; try simp -dsimp [h2, z4, ↓e5, ↓e8, w9])
      refine Again.go ⟨[(0, .arr (List.map Vl.Data.c a)), (3, .own 0 (List.length (α := Vl.Data) (out.set i v))), (4, .lit (.int .i64 ((i + 1) : Int)))], [.elems 2 (List.map Vl.Data.c (out.set i v))]⟩ (Gh.to (by simp) (by first | (simp -dsimp; done) | (simp -dsimp [h2, z4, ↓e5, ↓e8, w9]; done) | simp_all) (by first | (simp -dsimp; done) | (simp -dsimp [h2, z4, ↓e5, ↓e8, w9]; done) | simp_all) (by first | (simp -dsimp; done) | (simp -dsimp [h2, z4, ↓e5, ↓e8, w9]; done) | simp_all)) ?_
      exact (ih_laws_toDataS_l1 (out.set i v) (i + 1) o hF) _ rfl _ hq
    · have q3 : ¬ (i < a.length) := by first | exact h2 | omega | (simpa using h2) | (simp at h2 ⊢; omega) | simp_all
      have z4 : ¬ ((i : Int) < (a.length : Int)) := by first | omega | simp_all
      rw [if_neg q3] at hF
      cases hF
      simp -dsimp [h2, q3, z4]
      repeat (refine chk.go (by first | omega | assumption | (simp_all; done) | (simp_all; omega)) ?_; try simp -dsimp [h2, q3, z4])
      refine Leave.go ⟨[(3, .own 0 (List.length (α := Vl.Data) out))], [.elems 2 (List.map Vl.Data.c out)]⟩ (Gh.to (by simp) (by first | (simp -dsimp; done) | (simp -dsimp [h2, q3, z4]; done) | simp_all) (by first | (simp -dsimp; done) | (simp -dsimp [h2, q3, z4]; done) | simp_all) (by first | (simp -dsimp; done) | (simp -dsimp [h2, q3, z4]; done) | simp_all)) ?_
      exact hq

theorem C.laws_toDataS_l1 (B : Nat) (hB1 : 67108864 ≤ B) (hB2 : B ≤ 9223372036854775807) (a : List Vl.Data) (out : List Vl.Data) (i : Nat) (o : List Vl.Data) (hF : F.laws_toDataS_l1 a out i = some o) : ∀ (c : Code), navO [1, 1, 0, 1, 0, 0] (bodyOf Try.f14) = some c → ∀ (Q : Exit → ASt → Prop), Q (.exit 0) ⟨[(3, .own 0 (List.length (α := Vl.Data) o))], [.elems 2 (List.map Vl.Data.c o)]⟩ → ALoopU Try.prog B 0 23 (hold c .mk) ⟨[(0, .arr (List.map Vl.Data.c a)), (3, .own 0 (List.length (α := Vl.Data) out)), (4, .lit (.int .i64 (i : Int)))], [.elems 2 (List.map Vl.Data.c out)]⟩ (hold Q .mk) :=
  (CC.laws_toDataS_l1 B hB1 hB2 a) out i o hF

set_option maxRecDepth 100000 in
set_option maxHeartbeats 400000 in
theorem C.laws_toDataS (B : Nat) (hB1 : 67108864 ≤ B) (hB2 : B ≤ 9223372036854775807) (a : List Vl.Data) (r : List Vl.Data) (hF : F.laws_toDataS a = some r) : PureCall Try.prog B 14 [.arr (List.map Vl.Data.c a)] (.arr (List.map Vl.Data.c r)) := by
  unfold F.laws_toDataS at hF
  refine PureCall.enterLe Try.func14 (by kernel_rfl) rfl Try.ntmps14 (by simp) (by simp) ?_
  have hF := oc hF; obtain ⟨c1, hF⟩ := hF
  simp -dsimp
  repeat (refine chk.go (by first | omega | assumption | (simp_all; done) | (simp_all; omega)) ?_; try simp -dsimp)
  have hF := ob hF; obtain ⟨o', ho10, hF⟩ := hF
  refine ALoop.goU ⟨[(0, .arr (List.map Vl.Data.c a)), (3, .own 0 (List.length (α := Vl.Data) (List.replicate a.length Vl.Data.z))), (4, .lit (.int .i64 (0 : Int)))], [.elems 2 (List.map Vl.Data.c (List.replicate a.length Vl.Data.z))]⟩ (Gh.to (by simp) (by simp -dsimp) (by simp -dsimp) (by simp -dsimp)) ?_
  refine (C.laws_toDataS_l1 B hB1 hB2 a (List.replicate a.length Vl.Data.z) 0 o' ho10) _ rfl _ ?_
  cases hF
  simp -dsimp
  repeat (refine chk.go (by first | omega | assumption | (simp_all; done) | (simp_all; omega)) ?_; try simp -dsimp)
  all_goals (try omega)

set_option maxRecDepth 100000 in
set_option maxHeartbeats 400000 in
theorem C.laws_toFunType (B : Nat) (hB1 : 67108864 ≤ B) (hB2 : B ≤ 9223372036854775807) (a : Vl.FunType) (r : Vl.FunType) (hF : F.laws_toFunType a = some r) : PureCall Try.prog B 57 [.agg [.lit (.int .i64 a.arg.data), .lit (.int .i64 a.arg.index), .lit (.int .i64 a.res.data), .lit (.int .i64 a.res.index)]] (.agg [.lit (.int .i64 r.arg.data), .lit (.int .i64 r.arg.index), .lit (.int .i64 r.res.data), .lit (.int .i64 r.res.index)]) := by
  unfold F.laws_toFunType at hF
  refine PureCall.enterLe Try.func57 (by kernel_rfl) rfl Try.ntmps57 (by simp) (by simp) ?_
  simp -dsimp
  repeat (refine chk.go (by first | omega | assumption | (simp_all; done) | (simp_all; omega)) ?_; try simp -dsimp)
  have hF := ob hF; obtain ⟨v, e1, hF⟩ := hF
  refine ((C.laws_toType B hB1 hB2 a.arg v e1)).goW (by simp) (by simp) ?_
  simp -dsimp
  repeat (refine chk.go (by first | omega | assumption | (simp_all; done) | (simp_all; omega)) ?_; try simp -dsimp)
  have hF := ob hF; obtain ⟨v2, e3, hF⟩ := hF
  refine ((C.laws_toType B hB1 hB2 a.res v2 e3)).goW (by simp) (by simp) ?_
  cases hF
  simp -dsimp
  repeat (refine chk.go (by first | omega | assumption | (simp_all; done) | (simp_all; omega)) ?_; try simp -dsimp)
  all_goals (try omega)

set_option maxRecDepth 100000 in
set_option maxHeartbeats 400000 in
theorem CC.laws_toFunTypeS_l1 (B : Nat) (hB1 : 67108864 ≤ B) (hB2 : B ≤ 9223372036854775807) (a : List Vl.FunType) : (∀ (out : List Vl.FunType) (i : Nat) (o : List Vl.FunType), F.laws_toFunTypeS_l1 a out i = some o → ∀ (c : Code), navO [1, 1, 0, 1, 0, 0] (bodyOf Try.f15) = some c → ∀ (Q : Exit → ASt → Prop), Q (.exit 0) ⟨[(3, .own 0 (List.length (α := Vl.FunType) o))], [.elems 4 (List.map Vl.FunType.c o)]⟩ → ALoopU Try.prog B 0 23 (hold c .mk) ⟨[(0, .arr (List.map Vl.FunType.c a)), (3, .own 0 (List.length (α := Vl.FunType) out)), (4, .lit (.int .i64 (i : Int)))], [.elems 4 (List.map Vl.FunType.c out)]⟩ (hold Q .mk)) := by
  refine F.laws_toFunTypeS_l1.partial_correctness a
    (fun out i o => ∀ (c : Code), navO [1, 1, 0, 1, 0, 0] (bodyOf Try.f15) = some c → ∀ (Q : Exit → ASt → Prop), Q (.exit 0) ⟨[(3, .own 0 (List.length (α := Vl.FunType) o))], [.elems 4 (List.map Vl.FunType.c o)]⟩ → ALoopU Try.prog B 0 23 (hold c .mk) ⟨[(0, .arr (List.map Vl.FunType.c a)), (3, .own 0 (List.length (α := Vl.FunType) out)), (4, .lit (.int .i64 (i : Int)))], [.elems 4 (List.map Vl.FunType.c out)]⟩ (hold Q .mk))
    ?_
  · intro _f_laws_toFunTypeS_l1 ih_laws_toFunTypeS_l1 out i o hF
    intro c hc Q hq
    obtain rfl : c = _ := navEq hc rfl
    refine ALoopU.know fun hk hs => ?_
    have b0 := hk 0
    simp -dsimp at b0
    have d0 := hs 0 _ rfl
    simp -dsimp [Blk.bnd] at d0
    clear hk hs
    refine ALoopU.enter ?_
    simp -dsimp
    repeat (refine chk.go (by first | omega | assumption | (simp_all; done) | (simp_all; omega)) ?_; try simp -dsimp)
    refine abr.split (fun h2 => ?_) (fun h2 => ?_)
    · have q3 : (i < a.length) := by first | exact h2 | omega | (simpa using h2) | (simp at h2 ⊢; omega) | simp_all
      have z4 : ((i : Int) < (a.length : Int)) := by first | omega | simp_all
      rw [if_pos q3] at hF
      have hF := ob hF; obtain ⟨x, e5, hF⟩ := hF
      have le5 := lt_of_get e5
      simp -dsimp [h2, z4, ↓e5]
      repeat (refine chk.go (by first | omega | assumption | (simp_all; done) | (simp_all; omega)) ?_; try simp -dsimp [h2, z4, ↓e5])
      have hF := ob hF; obtain ⟨v, e6, hF⟩ := hF
      refine ((C.laws_toFunType B hB1 hB2 x v e6)).goW (by first | (simp; done) | (simp [h2, z4, ↓e5]; done) | simp_all) (by simp) ?_
      have hF := ob hF; obtain ⟨x7, e8, hF⟩ := hF
      have le8 := lt_of_get e8
      have w9 : IntKind.i64.wrap ((i : Int) + 1) = (i : Int) + 1 := wrap_in (by omega) (by omega)
      simp -dsimp [h2, z4, ↓e5, ↓e8, w9]
      repeat (refine chk.go (by first | omega | assumption | (simp_all; done) | (simp_all; omega)) ?_; try simp -dsimp [h2, z4, ↓e5, ↓e8, w9])
      refine Again.go ⟨[(0, .arr (List.map Vl.FunType.c a)), (3, .own 0 (List.length (α := Vl.FunType) (out.set i v))), (4, .lit (.int .i64 ((i + 1) : Int)))], [.elems 4 (List.map Vl.FunType.c (out.set i v))]⟩ (Gh.to (by simp) (by first | (simp -dsimp; done) | (simp -dsimp [h2, z4, ↓e5, ↓e8, w9]; done) | simp_all) (by first | (simp -dsimp; done) | (simp -dsimp [h2, z4, ↓e5, ↓e8, w9]; done) | simp_all) (by first | (simp -dsimp; done) | (simp -dsimp [h2, z4, ↓e5, ↓e8, w9]; done) | simp_all)) ?_
      exact (ih_laws_toFunTypeS_l1 (out.set i v) (i + 1) o hF) _ rfl _ hq
    · have q3 : ¬ (i < a.length) := by first | exact h2 | omega | (simpa using h2) | (simp at h2 ⊢; omega) | simp_all
      have z4 : ¬ ((i : Int) < (a.length : Int)) := by first | omega | simp_all
      rw [if_neg q3] at hF
      cases hF
      simp -dsimp [h2, q3, z4]
      repeat (refine chk.go (by first | omega | assumption | (simp_all; done) | (simp_all; omega)) ?_; try simp -dsimp [h2, q3, z4])
      refine Leave.go ⟨[(3, .own 0 (List.length (α := Vl.FunType) out))], [.elems 4 (List.map Vl.FunType.c out)]⟩ (Gh.to (by simp) (by first | (simp -dsimp; done) | (simp -dsimp [h2, q3, z4]; done) | simp_all) (by first | (simp -dsimp; done) | (simp -dsimp [h2, q3, z4]; done) | simp_all) (by first | (simp -dsimp; done) | (simp -dsimp [h2, q3, z4]; done) | simp_all)) ?_
      exact hq

theorem C.laws_toFunTypeS_l1 (B : Nat) (hB1 : 67108864 ≤ B) (hB2 : B ≤ 9223372036854775807) (a : List Vl.FunType) (out : List Vl.FunType) (i : Nat) (o : List Vl.FunType) (hF : F.laws_toFunTypeS_l1 a out i = some o) : ∀ (c : Code), navO [1, 1, 0, 1, 0, 0] (bodyOf Try.f15) = some c → ∀ (Q : Exit → ASt → Prop), Q (.exit 0) ⟨[(3, .own 0 (List.length (α := Vl.FunType) o))], [.elems 4 (List.map Vl.FunType.c o)]⟩ → ALoopU Try.prog B 0 23 (hold c .mk) ⟨[(0, .arr (List.map Vl.FunType.c a)), (3, .own 0 (List.length (α := Vl.FunType) out)), (4, .lit (.int .i64 (i : Int)))], [.elems 4 (List.map Vl.FunType.c out)]⟩ (hold Q .mk) :=
  (CC.laws_toFunTypeS_l1 B hB1 hB2 a) out i o hF

set_option maxRecDepth 100000 in
set_option maxHeartbeats 400000 in
theorem C.laws_toFunTypeS (B : Nat) (hB1 : 67108864 ≤ B) (hB2 : B ≤ 9223372036854775807) (a : List Vl.FunType) (r : List Vl.FunType) (hF : F.laws_toFunTypeS a = some r) : PureCall Try.prog B 15 [.arr (List.map Vl.FunType.c a)] (.arr (List.map Vl.FunType.c r)) := by
  unfold F.laws_toFunTypeS at hF
  refine PureCall.enterLe Try.func15 (by kernel_rfl) rfl Try.ntmps15 (by simp) (by simp) ?_
  have hF := oc hF; obtain ⟨c1, hF⟩ := hF
  simp -dsimp
  repeat (refine chk.go (by first | omega | assumption | (simp_all; done) | (simp_all; omega)) ?_; try simp -dsimp)
  have hF := ob hF; obtain ⟨o', ho10, hF⟩ := hF
  refine ALoop.goU ⟨[(0, .arr (List.map Vl.FunType.c a)), (3, .own 0 (List.length (α := Vl.FunType) (List.replicate a.length Vl.FunType.z))), (4, .lit (.int .i64 (0 : Int)))], [.elems 4 (List.map Vl.FunType.c (List.replicate a.length Vl.FunType.z))]⟩ (Gh.to (by simp) (by simp -dsimp) (by simp -dsimp) (by simp -dsimp)) ?_
  refine (C.laws_toFunTypeS_l1 B hB1 hB2 a (List.replicate a.length Vl.FunType.z) 0 o' ho10) _ rfl _ ?_
  cases hF
  simp -dsimp
  repeat (refine chk.go (by first | omega | assumption | (simp_all; done) | (simp_all; omega)) ?_; try simp -dsimp)
  all_goals (try omega)

set_option maxRecDepth 100000 in
set_option maxHeartbeats 400000 in
theorem C.laws_toVarType (B : Nat) (hB1 : 67108864 ≤ B) (hB2 : B ≤ 9223372036854775807) (a : Vl.VarType) (r : Vl.VarType) (hF : F.laws_toVarType a = some r) : PureCall Try.prog B 58 [.agg [.lit (.int .i64 a.var), .lit (.int .i64 a.type.data), .lit (.int .i64 a.type.index)]] (.agg [.lit (.int .i64 r.var), .lit (.int .i64 r.type.data), .lit (.int .i64 r.type.index)]) := by
  unfold F.laws_toVarType at hF
  refine PureCall.enterLe Try.func58 (by kernel_rfl) rfl Try.ntmps58 (by simp) (by simp) ?_
  simp -dsimp
  repeat (refine chk.go (by first | omega | assumption | (simp_all; done) | (simp_all; omega)) ?_; try simp -dsimp)
  have hF := ob hF; obtain ⟨v, e1, hF⟩ := hF
  refine ((C.laws_toType B hB1 hB2 a.type v e1)).goW (by simp) (by simp) ?_
  cases hF
  simp -dsimp
  repeat (refine chk.go (by first | omega | assumption | (simp_all; done) | (simp_all; omega)) ?_; try simp -dsimp)
  all_goals (try omega)

set_option maxRecDepth 100000 in
set_option maxHeartbeats 400000 in
theorem CC.laws_toVarTypeS_l1 (B : Nat) (hB1 : 67108864 ≤ B) (hB2 : B ≤ 9223372036854775807) (a : List Vl.VarType) : (∀ (out : List Vl.VarType) (i : Nat) (o : List Vl.VarType), F.laws_toVarTypeS_l1 a out i = some o → ∀ (c : Code), navO [1, 1, 0, 1, 0, 0] (bodyOf Try.f16) = some c → ∀ (Q : Exit → ASt → Prop), Q (.exit 0) ⟨[(3, .own 0 (List.length (α := Vl.VarType) o))], [.elems 3 (List.map Vl.VarType.c o)]⟩ → ALoopU Try.prog B 0 23 (hold c .mk) ⟨[(0, .arr (List.map Vl.VarType.c a)), (3, .own 0 (List.length (α := Vl.VarType) out)), (4, .lit (.int .i64 (i : Int)))], [.elems 3 (List.map Vl.VarType.c out)]⟩ (hold Q .mk)) := by
  refine F.laws_toVarTypeS_l1.partial_correctness a
    (fun out i o => ∀ (c : Code), navO [1, 1, 0, 1, 0, 0] (bodyOf Try.f16) = some c → ∀ (Q : Exit → ASt → Prop), Q (.exit 0) ⟨[(3, .own 0 (List.length (α := Vl.VarType) o))], [.elems 3 (List.map Vl.VarType.c o)]⟩ → ALoopU Try.prog B 0 23 (hold c .mk) ⟨[(0, .arr (List.map Vl.VarType.c a)), (3, .own 0 (List.length (α := Vl.VarType) out)), (4, .lit (.int .i64 (i : Int)))], [.elems 3 (List.map Vl.VarType.c out)]⟩ (hold Q .mk))
    ?_
  · intro _f_laws_toVarTypeS_l1 ih_laws_toVarTypeS_l1 out i o hF
    intro c hc Q hq
    obtain rfl : c = _ := navEq hc rfl
    refine ALoopU.know fun hk hs => ?_
    have b0 := hk 0
    simp -dsimp at b0
    have d0 := hs 0 _ rfl
    simp -dsimp [Blk.bnd] at d0
    clear hk hs
    refine ALoopU.enter ?_
    simp -dsimp
    repeat (refine chk.go (by first | omega | assumption | (simp_all; done) | (simp_all; omega)) ?_; try simp -dsimp)
    refine abr.split (fun h2 => ?_) (fun h2 => ?_)
    · have q3 : (i < a.length) := by first | exact h2 | omega | (simpa using h2) | (simp at h2 ⊢; omega) | simp_all
      have z4 : ((i : Int) < (a.length : Int)) := by first | omega | simp_all
      rw [if_pos q3] at hF
      have hF := ob hF; obtain ⟨x, e5, hF⟩ := hF
      have le5 := lt_of_get e5
      simp -dsimp [h2, z4, ↓e5]
      repeat (refine chk.go (by first | omega | assumption | (simp_all; done) | (simp_all; omega)) ?_; try simp -dsimp [h2, z4, ↓e5])
      have hF := ob hF; obtain ⟨v, e6, hF⟩ := hF
      refine ((C.laws_toVarType B hB1 hB2 x v e6)).goW (by first | (simp; done) | (simp [h2, z4, ↓e5]; done) | simp_all) (by simp) ?_
      have hF := ob hF; obtain ⟨x7, e8, hF⟩ := hF
      have le8 := lt_of_get e8
      have w9 : IntKind.i64.wrap ((i : Int) + 1) = (i : Int) + 1 := wrap_in (by omega) (by omega)
      simp -dsimp [h2, z4, ↓e5, ↓e8, w9]
      repeat (refine chk.go (by first | omega | assumption | (simp_all; done) | (simp_all; omega)) ?_; try simp -dsimp [h2, z4, ↓e5, ↓e8, w9])
      refine Again.go ⟨[(0, .arr (List.map Vl.VarType.c a)), (3, .own 0 (List.length (α := Vl.VarType) (out.set i v))), (4, .lit (.int .i64 ((i + 1) : Int)))], [.elems 3 (List.map Vl.VarType.c (out.set i v))]⟩ (Gh.to (by simp) (by first | (simp -dsimp; done) | (simp -dsimp [h2, z4, ↓e5, ↓e8, w9]; done) | simp_all) (by first | (simp -dsimp; done) | (simp -dsimp [h2, z4, ↓e5, ↓e8, w9]; done) | simp_all) (by first | (simp -dsimp; done) | (simp -dsimp [h2, z4, ↓e5, ↓e8, w9]; done) | simp_all)) ?_
      exact (ih_laws_toVarTypeS_l1 (out.set i v) (i + 1) o hF) _ rfl _ hq
    · have q3 : ¬ (i < a.length) := by first | exact h2 | omega | (simpa using h2) | (simp at h2 ⊢; omega) | simp_all
      have z4 : ¬ ((i : Int) < (a.length : Int)) := by first | omega | simp_all
      rw [if_neg q3] at hF
      cases hF
      simp -dsimp [h2, q3, z4]
      repeat (refine chk.go (by first | omega | assumption | (simp_all; done) | (simp_all; omega)) ?_; try simp -dsimp [h2, q3, z4])
      refine Leave.go ⟨[(3, .own 0 (List.length (α := Vl.VarType) out))], [.elems 3 (List.map Vl.VarType.c out)]⟩ (Gh.to (by simp) (by first | (simp -dsimp; done) | (simp -dsimp [h2, q3, z4]; done) | simp_all) (by first | (simp -dsimp; done) | (simp -dsimp [h2, q3, z4]; done) | simp_all) (by first | (simp -dsimp; done) | (simp -dsimp [h2, q3, z4]; done) | simp_all)) ?_
      exact hq

theorem C.laws_toVarTypeS_l1 (B : Nat) (hB1 : 67108864 ≤ B) (hB2 : B ≤ 9223372036854775807) (a : List Vl.VarType) (out : List Vl.VarType) (i : Nat) (o : List Vl.VarType) (hF : F.laws_toVarTypeS_l1 a out i = some o) : ∀ (c : Code), navO [1, 1, 0, 1, 0, 0] (bodyOf Try.f16) = some c → ∀ (Q : Exit → ASt → Prop), Q (.exit 0) ⟨[(3, .own 0 (List.length (α := Vl.VarType) o))], [.elems 3 (List.map Vl.VarType.c o)]⟩ → ALoopU Try.prog B 0 23 (hold c .mk) ⟨[(0, .arr (List.map Vl.VarType.c a)), (3, .own 0 (List.length (α := Vl.VarType) out)), (4, .lit (.int .i64 (i : Int)))], [.elems 3 (List.map Vl.VarType.c out)]⟩ (hold Q .mk) :=
  (CC.laws_toVarTypeS_l1 B hB1 hB2 a) out i o hF

set_option maxRecDepth 100000 in
set_option maxHeartbeats 400000 in
theorem C.laws_toVarTypeS (B : Nat) (hB1 : 67108864 ≤ B) (hB2 : B ≤ 9223372036854775807) (a : List Vl.VarType) (r : List Vl.VarType) (hF : F.laws_toVarTypeS a = some r) : PureCall Try.prog B 16 [.arr (List.map Vl.VarType.c a)] (.arr (List.map Vl.VarType.c r)) := by
  unfold F.laws_toVarTypeS at hF
  refine PureCall.enterLe Try.func16 (by kernel_rfl) rfl Try.ntmps16 (by simp) (by simp) ?_
  have hF := oc hF; obtain ⟨c1, hF⟩ := hF
  simp -dsimp
  repeat (refine chk.go (by first | omega | assumption | (simp_all; done) | (simp_all; omega)) ?_; try simp -dsimp)
  have hF := ob hF; obtain ⟨o', ho10, hF⟩ := hF
  refine ALoop.goU ⟨[(0, .arr (List.map Vl.VarType.c a)), (3, .own 0 (List.length (α := Vl.VarType) (List.replicate a.length Vl.VarType.z))), (4, .lit (.int .i64 (0 : Int)))], [.elems 3 (List.map Vl.VarType.c (List.replicate a.length Vl.VarType.z))]⟩ (Gh.to (by simp) (by simp -dsimp) (by simp -dsimp) (by simp -dsimp)) ?_
  refine (C.laws_toVarTypeS_l1 B hB1 hB2 a (List.replicate a.length Vl.VarType.z) 0 o' ho10) _ rfl _ ?_
  cases hF
  simp -dsimp
  repeat (refine chk.go (by first | omega | assumption | (simp_all; done) | (simp_all; omega)) ?_; try simp -dsimp)
  all_goals (try omega)

set_option maxRecDepth 100000 in
set_option maxHeartbeats 400000 in
theorem CC.laws_toExpr (B : Nat) (hB1 : 67108864 ≤ B) (hB2 : B ≤ 9223372036854775807)  : (∀ (a : Vl.Expr) (r : Vl.Expr), F.laws_toExpr a = some r → PureCall Try.prog B 18 [.agg [.lit (.int .i64 a.op), .lit (.int .i64 a.n), .lit (.int .i64 a.ctor), .arr (List.map Vl.Expr.c a.kids)]] (.agg [.lit (.int .i64 r.op), .lit (.int .i64 r.n), .lit (.int .i64 r.ctor), .arr (List.map Vl.Expr.c r.kids)])) ∧
    (∀ (a : List Vl.Expr) (r : List Vl.Expr), F.laws_toExprS a = some r → PureCall Try.prog B 59 [.arr (List.map Vl.Expr.c a)] (.arr (List.map Vl.Expr.c r))) ∧
    (∀ (a : List Vl.Expr) (out : List Vl.Expr) (i : Nat) (o : List Vl.Expr), F.laws_toExprS_l1 a out i = some o → ∀ (c : Code), navO [1, 1, 0, 1, 0, 0] (bodyOf Try.f59) = some c → ∀ (Q : Exit → ASt → Prop), Q (.exit 0) ⟨[(3, .own 0 (List.length (α := Vl.Expr) o))], [.elems 4 (List.map Vl.Expr.c o)]⟩ → ALoopU Try.prog B 0 23 (hold c .mk) ⟨[(0, .arr (List.map Vl.Expr.c a)), (3, .own 0 (List.length (α := Vl.Expr) out)), (4, .lit (.int .i64 (i : Int)))], [.elems 4 (List.map Vl.Expr.c out)]⟩ (hold Q .mk)) := by
  refine F.laws_toExpr.mutual_partial_correctness 
    (fun a r => PureCall Try.prog B 18 [.agg [.lit (.int .i64 a.op), .lit (.int .i64 a.n), .lit (.int .i64 a.ctor), .arr (List.map Vl.Expr.c a.kids)]] (.agg [.lit (.int .i64 r.op), .lit (.int .i64 r.n), .lit (.int .i64 r.ctor), .arr (List.map Vl.Expr.c r.kids)]))
    (fun a r => PureCall Try.prog B 59 [.arr (List.map Vl.Expr.c a)] (.arr (List.map Vl.Expr.c r)))
    (fun a out i o => ∀ (c : Code), navO [1, 1, 0, 1, 0, 0] (bodyOf Try.f59) = some c → ∀ (Q : Exit → ASt → Prop), Q (.exit 0) ⟨[(3, .own 0 (List.length (α := Vl.Expr) o))], [.elems 4 (List.map Vl.Expr.c o)]⟩ → ALoopU Try.prog B 0 23 (hold c .mk) ⟨[(0, .arr (List.map Vl.Expr.c a)), (3, .own 0 (List.length (α := Vl.Expr) out)), (4, .lit (.int .i64 (i : Int)))], [.elems 4 (List.map Vl.Expr.c out)]⟩ (hold Q .mk))
    ?_ ?_ ?_
  · intro _f_laws_toExprS ih_laws_toExprS a r hF
    refine PureCall.enterLe Try.func18 (by kernel_rfl) rfl Try.ntmps18 (by simp) (by simp) ?_
    simp -dsimp
    repeat (refine chk.go (by first | omega | assumption | (simp_all; done) | (simp_all; omega)) ?_; try simp -dsimp)
    have hF := ob hF; obtain ⟨v, e1, hF⟩ := hF
    refine ((ih_laws_toExprS a.kids v e1)).goW (by simp) (by simp) ?_
    cases hF
    simp -dsimp
    repeat (refine chk.go (by first | omega | assumption | (simp_all; done) | (simp_all; omega)) ?_; try simp -dsimp)
    all_goals (try omega)
  · intro _f_laws_toExprS_l1 ih_laws_toExprS_l1 a r hF
    refine PureCall.enterLe Try.func59 (by kernel_rfl) rfl Try.ntmps59 (by simp) (by simp) ?_
    have hF := oc hF; obtain ⟨c1, hF⟩ := hF
    simp -dsimp
    repeat (refine chk.go (by first | omega | assumption | (simp_all; done) | (simp_all; omega)) ?_; try simp -dsimp)
    have hF := ob hF; obtain ⟨o', ho10, hF⟩ := hF
    refine ALoop.goU ⟨[(0, .arr (List.map Vl.Expr.c a)), (3, .own 0 (List.length (α := Vl.Expr) (List.replicate a.length Vl.Expr.z))), (4, .lit (.int .i64 (0 : Int)))], [.elems 4 (List.map Vl.Expr.c (List.replicate a.length Vl.Expr.z))]⟩ (Gh.to (by simp) (by simp -dsimp) (by simp -dsimp) (by simp -dsimp)) ?_
    refine (ih_laws_toExprS_l1 a (List.replicate a.length Vl.Expr.z) 0 o' ho10) _ rfl _ ?_
    cases hF
    simp -dsimp
    repeat (refine chk.go (by first | omega | assumption | (simp_all; done) | (simp_all; omega)) ?_; try simp -dsimp)
    all_goals (try omega)
  · intro _f_laws_toExpr _f_laws_toExprS_l1 ih_laws_toExpr ih_laws_toExprS_l1 a out i o hF
    intro c hc Q hq
    obtain rfl : c = _ := navEq hc rfl
    refine ALoopU.know fun hk hs => ?_
    have b0 := hk 0
    simp -dsimp at b0
    have d0 := hs 0 _ rfl
    simp -dsimp [Blk.bnd] at d0
    clear hk hs
    refine ALoopU.enter ?_
    simp -dsimp
    repeat (refine chk.go (by first | omega | assumption | (simp_all; done) | (simp_all; omega)) ?_; try simp -dsimp)
    refine abr.split (fun h2 => ?_) (fun h2 => ?_)
    · have q3 : (i < a.length) := by first | exact h2 | omega | (simpa using h2) | (simp at h2 ⊢; omega) | simp_all
      have z4 : ((i : Int) < (a.length : Int)) := by first | omega | simp_all
      rw [if_pos q3] at hF
      have hF := ob hF; obtain ⟨x, e5, hF⟩ := hF
      have le5 := lt_of_get e5
      simp -dsimp [h2, z4, ↓e5]
      repeat (refine chk.go (by first | omega | assumption | (simp_all; done) | (simp_all; omega)) ?_; try simp -dsimp [h2, z4, ↓e5])
      have hF := ob hF; obtain ⟨v, e6, hF⟩ := hF
      refine ((ih_laws_toExpr x v e6)).goW (by first | (simp; done) | (simp [h2, z4, ↓e5]; done) | simp_all) (by simp) ?_
      have hF := ob hF; obtain ⟨x7, e8, hF⟩ := hF
      have le8 := lt_of_get e8
      have w9 : IntKind.i64.wrap ((i : Int) + 1) = (i : Int) + 1 := wrap_in (by omega) (by omega)
      simp -dsimp [h2, z4, ↓e5, ↓e8, w9]
      repeat (refine chk.go (by first | omega | assumption | (simp_all; done) | (simp_all; omega)) ?_; try simp -dsimp [h2, z4, ↓e5, ↓e8, w9])
      refine Again.go ⟨[(0, .arr (List.map Vl.Expr.c a)), (3, .own 0 (List.length (α := Vl.Expr) (out.set i v))), (4, .lit (.int .i64 ((i + 1) : Int)))], [.elems 4 (List.map Vl.Expr.c (out.set i v))]⟩ (Gh.to (by simp) (by first | (simp -dsimp; done) | (simp -dsimp [h2, z4, ↓e5, ↓e8, w9]; done) | simp_all) (by first | (simp -dsimp; done) | (simp -dsimp [h2, z4, ↓e5, ↓e8, w9]; done) | simp_all) (by first | (simp -dsimp; done) | (simp -dsimp [h2, z4, ↓e5, ↓e8, w9]; done) | simp_all)) ?_
      exact (ih_laws_toExprS_l1 a (out.set i v) (i + 1) o hF) _ rfl _ hq
    · have q3 : ¬ (i < a.length) := by first | exact h2 | omega | (simpa using h2) | (simp at h2 ⊢; omega) | simp_all
      have z4 : ¬ ((i : Int) < (a.length : Int)) := by first | omega | simp_all
      rw [if_neg q3] at hF
      cases hF
      simp -dsimp [h2, q3, z4]
      repeat (refine chk.go (by first | omega | assumption | (simp_all; done) | (simp_all; omega)) ?_; try simp -dsimp [h2, q3, z4])
      refine Leave.go ⟨[(3, .own 0 (List.length (α := Vl.Expr) out))], [.elems 4 (List.map Vl.Expr.c out)]⟩ (Gh.to (by simp) (by first | (simp -dsimp; done) | (simp -dsimp [h2, q3, z4]; done) | simp_all) (by first | (simp -dsimp; done) | (simp -dsimp [h2, q3, z4]; done) | simp_all) (by first | (simp -dsimp; done) | (simp -dsimp [h2, q3, z4]; done) | simp_all)) ?_
      exact hq

theorem C.laws_toExpr (B : Nat) (hB1 : 67108864 ≤ B) (hB2 : B ≤ 9223372036854775807) (a : Vl.Expr) (r : Vl.Expr) (hF : F.laws_toExpr a = some r) : PureCall Try.prog B 18 [.agg [.lit (.int .i64 a.op), .lit (.int .i64 a.n), .lit (.int .i64 a.ctor), .arr (List.map Vl.Expr.c a.kids)]] (.agg [.lit (.int .i64 r.op), .lit (.int .i64 r.n), .lit (.int .i64 r.ctor), .arr (List.map Vl.Expr.c r.kids)]) :=
  (CC.laws_toExpr B hB1 hB2 ).1 a r hF

theorem C.laws_toExprS (B : Nat) (hB1 : 67108864 ≤ B) (hB2 : B ≤ 9223372036854775807) (a : List Vl.Expr) (r : List Vl.Expr) (hF : F.laws_toExprS a = some r) : PureCall Try.prog B 59 [.arr (List.map Vl.Expr.c a)] (.arr (List.map Vl.Expr.c r)) :=
  (CC.laws_toExpr B hB1 hB2 ).2.1 a r hF

theorem C.laws_toExprS_l1 (B : Nat) (hB1 : 67108864 ≤ B) (hB2 : B ≤ 9223372036854775807) (a : List Vl.Expr) (out : List Vl.Expr) (i : Nat) (o : List Vl.Expr) (hF : F.laws_toExprS_l1 a out i = some o) : ∀ (c : Code), navO [1, 1, 0, 1, 0, 0] (bodyOf Try.f59) = some c → ∀ (Q : Exit → ASt → Prop), Q (.exit 0) ⟨[(3, .own 0 (List.length (α := Vl.Expr) o))], [.elems 4 (List.map Vl.Expr.c o)]⟩ → ALoopU Try.prog B 0 23 (hold c .mk) ⟨[(0, .arr (List.map Vl.Expr.c a)), (3, .own 0 (List.length (α := Vl.Expr) out)), (4, .lit (.int .i64 (i : Int)))], [.elems 4 (List.map Vl.Expr.c out)]⟩ (hold Q .mk) :=
  (CC.laws_toExpr B hB1 hB2 ).2.2 a out i o hF

set_option maxRecDepth 100000 in
set_option maxHeartbeats 400000 in
theorem C.spec_l1Big (B : Nat) (hB1 : 67108864 ≤ B) (hB2 : B ≤ 9223372036854775807) (c' : Int) (r : Bool) (hF : F.spec_l1Big c' = some r) : PureCall Try.prog B 217 [.lit (.int .u8 c')] (.lit (.bool r)) := by
  unfold F.spec_l1Big at hF
  refine PureCall.enterLe Try.func217 (by kernel_rfl) rfl Try.ntmps217 (by simp) (by simp) ?_
  simp -dsimp
  repeat (refine chk.go (by first | omega | assumption | (simp_all; done) | (simp_all; omega)) ?_; try simp -dsimp)
  refine abr.split (fun h1 => ?_) (fun h1 => ?_)
  · have q2 : (65 ≤ c') := by first | exact h1 | omega | (simpa using h1) | (simp at h1 ⊢; omega) | simp_all
    rw [if_pos q2] at hF
    cases hF
    simp -dsimp [h1]
    repeat (refine chk.go (by first | omega | assumption | (simp_all; done) | (simp_all; omega)) ?_; try simp -dsimp [h1])
    all_goals (try omega)
  · have q2 : ¬ (65 ≤ c') := by first | exact h1 | omega | (simpa using h1) | (simp at h1 ⊢; omega) | simp_all
    rw [if_neg q2] at hF
    cases hF
    simp -dsimp [h1, q2]
    repeat (refine chk.go (by first | omega | assumption | (simp_all; done) | (simp_all; omega)) ?_; try simp -dsimp [h1, q2])
    all_goals (try omega)

set_option maxRecDepth 100000 in
set_option maxHeartbeats 400000 in
theorem C.spec_l1Data (B : Nat) (hB1 : 67108864 ≤ B) (hB2 : B ≤ 9223372036854775807) (s : ByteArray) (r : Bool) (hF : F.spec_l1Data s = some r) : PureCall Try.prog B 193 [.lit (.string s)] (.lit (.bool r)) := by
  unfold F.spec_l1Data at hF
  refine PureCall.enterLe Try.func193 (by kernel_rfl) rfl Try.ntmps193 (by simp) (by simp) ?_
  simp -dsimp
  repeat (refine chk.go (by first | omega | assumption | (simp_all; done) | (simp_all; omega)) ?_; try simp -dsimp)
  refine abr.split (fun h1 => ?_) (fun h1 => ?_)
  · have q2 : (s.size = 1) := by first | exact h1 | omega | (simpa using h1) | (simp at h1 ⊢; omega) | simp_all
    have z3 : ((s.size : Int) = (1 : Int)) := by first | omega | simp_all
    rw [if_pos q2] at hF
    have hF := oc hF; obtain ⟨c4, hF⟩ := hF
    simp -dsimp [h1, z3]
    repeat (refine chk.go (by first | omega | assumption | (simp_all; done) | (simp_all; omega)) ?_; try simp -dsimp [h1, z3])
    have hF := ob hF; obtain ⟨v, e5, hF⟩ := hF
    refine ((C.spec_l1Big B hB1 hB2 ((byteAt s 0 : Nat) : Int) v e5)).goW (by first | (simp; done) | (simp [h1, z3]; done) | simp_all) (by simp) ?_
    simp -dsimp [h1, z3]
    repeat (refine chk.go (by first | omega | assumption | (simp_all; done) | (simp_all; omega)) ?_; try simp -dsimp [h1, z3])
    refine abr.split (fun h6 => ?_) (fun h6 => ?_)
    · have q7 : (v = true) := by first | exact h6 | omega | (simpa using h6) | (simp at h6 ⊢; omega) | simp_all
      rw [if_pos q7] at hF
      cases hF
      simp -dsimp [h1, z3, h6]
      repeat (refine chk.go (by first | omega | assumption | (simp_all; done) | (simp_all; omega)) ?_; try simp -dsimp [h1, z3, h6])
      all_goals (try omega)
    · have q7 : ¬ (v = true) := by first | exact h6 | omega | (simpa using h6) | (simp at h6 ⊢; omega) | simp_all
      rw [if_neg q7] at hF
      cases hF
      simp -dsimp [h1, z3, h6, q7]
      repeat (refine chk.go (by first | omega | assumption | (simp_all; done) | (simp_all; omega)) ?_; try simp -dsimp [h1, z3, h6, q7])
      all_goals (try omega)
  · have q2 : ¬ (s.size = 1) := by first | exact h1 | omega | (simpa using h1) | (simp at h1 ⊢; omega) | simp_all
    have z3 : ¬ ((s.size : Int) = (1 : Int)) := by first | omega | simp_all
    rw [if_neg q2] at hF
    cases hF
    simp -dsimp [h1, q2, z3]
    repeat (refine chk.go (by first | omega | assumption | (simp_all; done) | (simp_all; omega)) ?_; try simp -dsimp [h1, q2, z3])
    all_goals (try omega)

set_option maxRecDepth 100000 in
set_option maxHeartbeats 400000 in
theorem CC.spec_NameValid_l1 (B : Nat) (hB1 : 67108864 ≤ B) (hB2 : B ≤ 9223372036854775807) (s : ByteArray) : (∀ (i : Nat) (o : Lo Bool Unit), F.spec_NameValid_l1 s i = some o → ∀ (c : Code), navO [1, 1, 0, 1, 0, 0] (bodyOf Try.f218) = some c → ∀ (Q : Exit → ASt → Prop), o.post (fun r => ∀ st, Post Try.prog Try.f218 (fun r' _ => r'.le (.lit (.bool r))) .ret st → Q .ret st) (fun s => Q (.exit 0) ⟨[], []⟩) → ALoopU Try.prog B 0 34 (hold c .mk) ⟨[(0, .lit (.string s)), (3, .lit (.int .i64 (i : Int)))], []⟩ (hold Q .mk)) := by
  refine F.spec_NameValid_l1.partial_correctness s
    (fun i o => ∀ (c : Code), navO [1, 1, 0, 1, 0, 0] (bodyOf Try.f218) = some c → ∀ (Q : Exit → ASt → Prop), o.post (fun r => ∀ st, Post Try.prog Try.f218 (fun r' _ => r'.le (.lit (.bool r))) .ret st → Q .ret st) (fun s => Q (.exit 0) ⟨[], []⟩) → ALoopU Try.prog B 0 34 (hold c .mk) ⟨[(0, .lit (.string s)), (3, .lit (.int .i64 (i : Int)))], []⟩ (hold Q .mk))
    ?_
  · intro _f_spec_NameValid_l1 ih_spec_NameValid_l1 i o hF
    intro c hc Q hq
    obtain rfl : c = _ := navEq hc rfl
    refine ALoopU.know fun hk hs => ?_
    clear hk hs
    refine ALoopU.enter ?_
    simp -dsimp
    repeat (refine chk.go (by first | omega | assumption | (simp_all; done) | (simp_all; omega)) ?_; try simp -dsimp)
    refine abr.split (fun h11 => ?_) (fun h11 => ?_)
    · have q12 : (i < s.size) := by first | exact h11 | omega | (simpa using h11) | (simp at h11 ⊢; omega) | simp_all
      have z13 : ((i : Int) < (s.size : Int)) := by first | omega | simp_all
      rw [if_pos q12] at hF
      simp -dsimp [h11, z13]
      repeat (refine chk.go (by first | omega | assumption | (simp_all; done) | (simp_all; omega)) ?_; try simp -dsimp [h11, z13])
      refine abr.split (fun h14 => ?_) (fun h14 => ?_)
      · have q15 : ¬ (byteAt s i < 97) := by first | exact h14 | omega | (simpa using h14) | (simp at h14 ⊢; omega) | simp_all
        have z16 : ¬ (((byteAt s i : Nat) : Int) < (97 : Int)) := by first | omega | simp_all
        rw [if_neg q15] at hF
        simp -dsimp [h11, z13, h14, q15, z16]
        repeat (refine chk.go (by first | omega | assumption | (simp_all; done) | (simp_all; omega)) ?_; try simp -dsimp [h11, z13, h14, q15, z16])
        refine abr.split (fun h17 => ?_) (fun h17 => ?_)
        · have q18 : (122 < byteAt s i) := by first | exact h17 | omega | (simpa using h17) | (simp at h17 ⊢; omega) | simp_all
          have z19 : ((122 : Int) < ((byteAt s i : Nat) : Int)) := by first | omega | simp_all
          rw [if_pos q18] at hF
          cases hF
          simp -dsimp [h11, z13, h14, q15, z16, h17, z19]
          repeat (refine chk.go (by first | omega | assumption | (simp_all; done) | (simp_all; omega)) ?_; try simp -dsimp [h11, z13, h14, q15, z16, h17, z19])
          refine Leave.go _ (Gh.refl _) (hq _ ?_)
          simp -dsimp [h11, z13, h14, q15, z16, h17, z19]
          repeat (refine chk.go (by first | omega | assumption | (simp_all; done) | (simp_all; omega)) ?_; try simp -dsimp [h11, z13, h14, q15, z16, h17, z19])
        · have q18 : ¬ (122 < byteAt s i) := by first | exact h17 | omega | (simpa using h17) | (simp at h17 ⊢; omega) | simp_all
          have z19 : ¬ ((122 : Int) < ((byteAt s i : Nat) : Int)) := by first | omega | simp_all
          rw [if_neg q18] at hF
          have hF := oc hF; obtain ⟨c20, hF⟩ := hF
          have w21 : IntKind.i64.wrap ((i : Int) + 1) = (i : Int) + 1 := wrap_in (by omega) (by omega)
          simp -dsimp [h11, z13, h14, q15, z16, h17, q18, z19, w21]
          repeat (refine chk.go (by first | omega | assumption | (simp_all; done) | (simp_all; omega)) ?_; try simp -dsimp [h11, z13, h14, q15, z16, h17, q18, z19, w21])
          refine Again.go ⟨[(0, .lit (.string s)), (3, .lit (.int .i64 ((i + 1) : Int)))], []⟩ (Gh.to (by simp) (by first | (simp -dsimp; done) | (simp -dsimp [h11, z13, h14, q15, z16, h17, q18, z19, w21]; done) | simp_all) (by first | (simp -dsimp; done) | (simp -dsimp [h11, z13, h14, q15, z16, h17, q18, z19, w21]; done) | simp_all) (by first | (simp -dsimp; done) | (simp -dsimp [h11, z13, h14, q15, z16, h17, q18, z19, w21]; done) | simp_all)) ?_
          exact (ih_spec_NameValid_l1 (i + 1) o hF) _ rfl _ hq
      · have q15 : (byteAt s i < 97) := by first | exact h14 | omega | (simpa using h14) | (simp at h14 ⊢; omega) | simp_all
        have z16 : (((byteAt s i : Nat) : Int) < (97 : Int)) := by first | omega | simp_all
        rw [if_pos q15] at hF
        cases hF
        simp -dsimp [h11, z13, h14, q15, z16]
        repeat (refine chk.go (by first | omega | assumption | (simp_all; done) | (simp_all; omega)) ?_; try simp -dsimp [h11, z13, h14, q15, z16])
        refine Leave.go _ (Gh.refl _) (hq _ ?_)
        simp -dsimp [h11, z13, h14, q15, z16]
        repeat (refine chk.go (by first | omega | assumption | (simp_all; done) | (simp_all; omega)) ?_; try simp -dsimp [h11, z13, h14, q15, z16])
    · have q12 : ¬ (i < s.size) := by first | exact h11 | omega | (simpa using h11) | (simp at h11 ⊢; omega) | simp_all
      have z13 : ¬ ((i : Int) < (s.size : Int)) := by first | omega | simp_all
      rw [if_neg q12] at hF
      cases hF
      simp -dsimp [h11, q12, z13]
      repeat (refine chk.go (by first | omega | assumption | (simp_all; done) | (simp_all; omega)) ?_; try simp -dsimp [h11, q12, z13])
      refine Leave.go ⟨[], []⟩ (Gh.to (by simp) (by first | (simp -dsimp; done) | (simp -dsimp [h11, q12, z13]; done) | simp_all) (by first | (simp -dsimp; done) | (simp -dsimp [h11, q12, z13]; done) | simp_all) (by first | (simp -dsimp; done) | (simp -dsimp [h11, q12, z13]; done) | simp_all)) ?_
      exact hq

theorem C.spec_NameValid_l1 (B : Nat) (hB1 : 67108864 ≤ B) (hB2 : B ≤ 9223372036854775807) (s : ByteArray) (i : Nat) (o : Lo Bool Unit) (hF : F.spec_NameValid_l1 s i = some o) : ∀ (c : Code), navO [1, 1, 0, 1, 0, 0] (bodyOf Try.f218) = some c → ∀ (Q : Exit → ASt → Prop), o.post (fun r => ∀ st, Post Try.prog Try.f218 (fun r' _ => r'.le (.lit (.bool r))) .ret st → Q .ret st) (fun s => Q (.exit 0) ⟨[], []⟩) → ALoopU Try.prog B 0 34 (hold c .mk) ⟨[(0, .lit (.string s)), (3, .lit (.int .i64 (i : Int)))], []⟩ (hold Q .mk) :=
  (CC.spec_NameValid_l1 B hB1 hB2 s) i o hF

set_option maxRecDepth 100000 in
set_option maxHeartbeats 400000 in
theorem C.spec_NameValid (B : Nat) (hB1 : 67108864 ≤ B) (hB2 : B ≤ 9223372036854775807) (s : ByteArray) (r : Bool) (hF : F.spec_NameValid s = some r) : PureCall Try.prog B 218 [.lit (.string s)] (.lit (.bool r)) := by
  unfold F.spec_NameValid at hF
  refine PureCall.enterLe Try.func218 (by kernel_rfl) rfl Try.ntmps218 (by simp) (by simp) ?_
  simp -dsimp
  repeat (refine chk.go (by first | omega | assumption | (simp_all; done) | (simp_all; omega)) ?_; try simp -dsimp)
  refine abr.split (fun h1 => ?_) (fun h1 => ?_)
  · have q2 : ¬ (s.size = 0) := by first | exact h1 | omega | (simpa using h1) | (simp at h1 ⊢; omega) | simp_all
    have z3 : ¬ ((s.size : Int) = (0 : Int)) := by first | omega | simp_all
    rw [if_neg q2] at hF
    simp -dsimp [h1, q2, z3]
    repeat (refine chk.go (by first | omega | assumption | (simp_all; done) | (simp_all; omega)) ?_; try simp -dsimp [h1, q2, z3])
    refine abr.split (fun h4 => ?_) (fun h4 => ?_)
    · have q5 : ¬ (5 < s.size) := by first | exact h4 | omega | (simpa using h4) | (simp at h4 ⊢; omega) | simp_all
      have z6 : ¬ ((5 : Int) < (s.size : Int)) := by first | omega | simp_all
      rw [if_neg q5] at hF
      have hF := oc hF; obtain ⟨c7, hF⟩ := hF
      simp -dsimp [h1, q2, z3, h4, q5, z6]
      repeat (refine chk.go (by first | omega | assumption | (simp_all; done) | (simp_all; omega)) ?_; try simp -dsimp [h1, q2, z3, h4, q5, z6])
      have hF := ob hF; obtain ⟨v, e8, hF⟩ := hF
      refine ((C.spec_l1Big B hB1 hB2 ((byteAt s 0 : Nat) : Int) v e8)).goW (by first | (simp; done) | (simp [h1, q2, z3, h4, q5, z6]; done) | simp_all) (by simp) ?_
      simp -dsimp [h1, q2, z3, h4, q5, z6]
      repeat (refine chk.go (by first | omega | assumption | (simp_all; done) | (simp_all; omega)) ?_; try simp -dsimp [h1, q2, z3, h4, q5, z6])
      refine abr.split (fun h9 => ?_) (fun h9 => ?_)
      · have q10 : ¬ (v = true) := by first | exact h9 | omega | (simpa using h9) | (simp at h9 ⊢; omega) | simp_all
        rw [if_neg q10] at hF
        cases hF
        simp -dsimp [h1, q2, z3, h4, q5, z6, h9, q10]
        repeat (refine chk.go (by first | omega | assumption | (simp_all; done) | (simp_all; omega)) ?_; try simp -dsimp [h1, q2, z3, h4, q5, z6, h9, q10])
        all_goals (try omega)
      · have q10 : (v = true) := by first | exact h9 | omega | (simpa using h9) | (simp at h9 ⊢; omega) | simp_all
        rw [if_pos q10] at hF
        simp -dsimp [h1, q2, z3, h4, q5, z6, h9, q10]
        repeat (refine chk.go (by first | omega | assumption | (simp_all; done) | (simp_all; omega)) ?_; try simp -dsimp [h1, q2, z3, h4, q5, z6, h9, q10])
        have hF := ob hF; obtain ⟨o', ho22, hF⟩ := hF
        refine ALoop.goU ⟨[(0, .lit (.string s)), (3, .lit (.int .i64 (1 : Int)))], []⟩ (Gh.to (by simp) (by first | (simp -dsimp; done) | (simp -dsimp [h1, q2, z3, h4, q5, z6, h9, q10]; done) | simp_all) (by first | (simp -dsimp; done) | (simp -dsimp [h1, q2, z3, h4, q5, z6, h9, q10]; done) | simp_all) (by first | (simp -dsimp; done) | (simp -dsimp [h1, q2, z3, h4, q5, z6, h9, q10]; done) | simp_all)) ?_
        refine (C.spec_NameValid_l1 B hB1 hB2 s 1 o' ho22) _ rfl _ ?_
        rcases o' with r0 | s23
        · dsimp only at hF
          cases hF
          intro st h
          simpa using h
        · dsimp only at hF
          cases hF
          simp -dsimp
          repeat (refine chk.go (by first | omega | assumption | (simp_all; done) | (simp_all; omega)) ?_; try simp -dsimp)
          all_goals (try omega)
    · have q5 : (5 < s.size) := by first | exact h4 | omega | (simpa using h4) | (simp at h4 ⊢; omega) | simp_all
      have z6 : ((5 : Int) < (s.size : Int)) := by first | omega | simp_all
      rw [if_pos q5] at hF
      cases hF
      simp -dsimp [h1, q2, z3, h4, q5, z6]
      repeat (refine chk.go (by first | omega | assumption | (simp_all; done) | (simp_all; omega)) ?_; try simp -dsimp [h1, q2, z3, h4, q5, z6])
      all_goals (try omega)
  · have q2 : (s.size = 0) := by first | exact h1 | omega | (simpa using h1) | (simp at h1 ⊢; omega) | simp_all
    have z3 : ((s.size : Int) = (0 : Int)) := by first | omega | simp_all
    rw [if_pos q2] at hF
    cases hF
    simp -dsimp [h1, q2, z3]
    repeat (refine chk.go (by first | omega | assumption | (simp_all; done) | (simp_all; omega)) ?_; try simp -dsimp [h1, q2, z3])
    all_goals (try omega)

set_option maxRecDepth 100000 in
set_option maxHeartbeats 400000 in
theorem C.spec_l1Arg (B : Nat) (hB1 : 67108864 ≤ B) (hB2 : B ≤ 9223372036854775807) (n : Int) (t : Vl.Ty) (r : Bool) (hF : F.spec_l1Arg n t = some r) : PureCall Try.prog B 196 [.lit (.int .i64 n), .agg [.lit (.int .i64 t.data), .lit (.int .i64 t.index)]] (.lit (.bool r)) := by
  unfold F.spec_l1Arg at hF
  refine PureCall.enterLe Try.func196 (by kernel_rfl) rfl Try.ntmps196 (by simp) (by simp) ?_
  simp -dsimp
  repeat (refine chk.go (by first | omega | assumption | (simp_all; done) | (simp_all; omega)) ?_; try simp -dsimp)
  refine abr.split (fun h1 => ?_) (fun h1 => ?_)
  · have q2 : (t.data = (-1)) := by first | exact h1 | omega | (simpa using h1) | (simp at h1 ⊢; omega) | simp_all
    rw [if_pos q2] at hF
    cases hF
    simp -dsimp [h1]
    repeat (refine chk.go (by first | omega | assumption | (simp_all; done) | (simp_all; omega)) ?_; try simp -dsimp [h1])
    all_goals (try omega)
  · have q2 : ¬ (t.data = (-1)) := by first | exact h1 | omega | (simpa using h1) | (simp at h1 ⊢; omega) | simp_all
    rw [if_neg q2] at hF
    simp -dsimp [h1, q2]
    repeat (refine chk.go (by first | omega | assumption | (simp_all; done) | (simp_all; omega)) ?_; try simp -dsimp [h1, q2])
    refine abr.split (fun h3 => ?_) (fun h3 => ?_)
    · have q4 : (0 ≤ t.data) := by first | exact h3 | omega | (simpa using h3) | (simp at h3 ⊢; omega) | simp_all
      rw [if_pos q4] at hF
      simp -dsimp [h1, q2, h3]
      repeat (refine chk.go (by first | omega | assumption | (simp_all; done) | (simp_all; omega)) ?_; try simp -dsimp [h1, q2, h3])
      refine abr.split (fun h5 => ?_) (fun h5 => ?_)
      · have q6 : (t.data < n) := by first | exact h5 | omega | (simpa using h5) | (simp at h5 ⊢; omega) | simp_all
        rw [if_pos q6] at hF
        simp -dsimp [h1, q2, h3, h5]
        repeat (refine chk.go (by first | omega | assumption | (simp_all; done) | (simp_all; omega)) ?_; try simp -dsimp [h1, q2, h3, h5])
        refine abr.split (fun h7 => ?_) (fun h7 => ?_)
        · have q8 : ((-1) ≤ t.index) := by first | exact h7 | omega | (simpa using h7) | (simp at h7 ⊢; omega) | simp_all
          rw [if_pos q8] at hF
          cases hF
          simp -dsimp [h1, q2, h3, h5, h7]
          repeat (refine chk.go (by first | omega | assumption | (simp_all; done) | (simp_all; omega)) ?_; try simp -dsimp [h1, q2, h3, h5, h7])
          all_goals (try omega)
        · have q8 : ¬ ((-1) ≤ t.index) := by first | exact h7 | omega | (simpa using h7) | (simp at h7 ⊢; omega) | simp_all
          rw [if_neg q8] at hF
          cases hF
          simp -dsimp [h1, q2, h3, h5, h7, q8]
          repeat (refine chk.go (by first | omega | assumption | (simp_all; done) | (simp_all; omega)) ?_; try simp -dsimp [h1, q2, h3, h5, h7, q8])
          all_goals (try omega)
      · have q6 : ¬ (t.data < n) := by first | exact h5 | omega | (simpa using h5) | (simp at h5 ⊢; omega) | simp_all
        rw [if_neg q6] at hF
        cases hF
        simp -dsimp [h1, q2, h3, h5, q6]
        repeat (refine chk.go (by first | omega | assumption | (simp_all; done) | (simp_all; omega)) ?_; try simp -dsimp [h1, q2, h3, h5, q6])
        all_goals (try omega)
    · have q4 : ¬ (0 ≤ t.data) := by first | exact h3 | omega | (simpa using h3) | (simp at h3 ⊢; omega) | simp_all
      rw [if_neg q4] at hF
      cases hF
      simp -dsimp [h1, q2, h3, q4]
      repeat (refine chk.go (by first | omega | assumption | (simp_all; done) | (simp_all; omega)) ?_; try simp -dsimp [h1, q2, h3, q4])
      all_goals (try omega)

set_option maxRecDepth 100000 in
set_option maxHeartbeats 400000 in
theorem CC.spec_l1Ctor_l1 (B : Nat) (hB1 : 67108864 ≤ B) (hB2 : B ≤ 9223372036854775807) (n : Int) (c' : Vl.Ctor) : (∀ (i : Nat) (o : Lo Bool Unit), F.spec_l1Ctor_l1 n c' i = some o → ∀ (c : Code), navO [1, 1, 0, 1, 0, 0] (bodyOf Try.f194) = some c → ∀ (Q : Exit → ASt → Prop), o.post (fun r => ∀ st, Post Try.prog Try.f194 (fun r' _ => r'.le (.lit (.bool r))) .ret st → Q .ret st) (fun s => Q (.exit 0) ⟨[], []⟩) → ALoopU Try.prog B 0 41 (hold c .mk) ⟨[(0, .lit (.int .i64 n)), (3, .ptr 0 0), (5, .lit (.int .i64 (i : Int)))], [.cells [.lit (.string c'.name), .arr (List.map Vl.Ty.c c'.args), .lit (.int .i64 c'.index)]]⟩ (hold Q .mk)) := by
  refine F.spec_l1Ctor_l1.partial_correctness n c'
    (fun i o => ∀ (c : Code), navO [1, 1, 0, 1, 0, 0] (bodyOf Try.f194) = some c → ∀ (Q : Exit → ASt → Prop), o.post (fun r => ∀ st, Post Try.prog Try.f194 (fun r' _ => r'.le (.lit (.bool r))) .ret st → Q .ret st) (fun s => Q (.exit 0) ⟨[], []⟩) → ALoopU Try.prog B 0 41 (hold c .mk) ⟨[(0, .lit (.int .i64 n)), (3, .ptr 0 0), (5, .lit (.int .i64 (i : Int)))], [.cells [.lit (.string c'.name), .arr (List.map Vl.Ty.c c'.args), .lit (.int .i64 c'.index)]]⟩ (hold Q .mk))
    ?_
  · intro _f_spec_l1Ctor_l1 ih_spec_l1Ctor_l1 i o hF
    intro c hc Q hq
    obtain rfl : c = _ := navEq hc rfl
    refine ALoopU.know fun hk hs => ?_
    have d0 := hs 0 _ rfl
    simp -dsimp [Blk.bnd] at d0
    clear hk hs
    refine ALoopU.enter ?_
    simp -dsimp
    repeat (refine chk.go (by first | omega | assumption | (simp_all; done) | (simp_all; omega)) ?_; try simp -dsimp)
    refine abr.split (fun h11 => ?_) (fun h11 => ?_)
    · have q12 : (i < c'.args.length) := by first | exact h11 | omega | (simpa using h11) | (simp at h11 ⊢; omega) | simp_all
      have z13 : ((i : Int) < (c'.args.length : Int)) := by first | omega | simp_all
      rw [if_pos q12] at hF
      have hF := ob hF; obtain ⟨x, e14, hF⟩ := hF
      have le14 := lt_of_get e14
      simp -dsimp [h11, z13, ↓e14]
      repeat (refine chk.go (by first | omega | assumption | (simp_all; done) | (simp_all; omega)) ?_; try simp -dsimp [h11, z13, ↓e14])
      have hF := ob hF; obtain ⟨v15, e16, hF⟩ := hF
      refine ((C.spec_l1Arg B hB1 hB2 n x v15 e16)).goW (by first | (simp; done) | (simp [h11, z13, ↓e14]; done) | simp_all) (by simp) ?_
      simp -dsimp [h11, z13, ↓e14]
      repeat (refine chk.go (by first | omega | assumption | (simp_all; done) | (simp_all; omega)) ?_; try simp -dsimp [h11, z13, ↓e14])
      refine abr.split (fun h17 => ?_) (fun h17 => ?_)
      · have q18 : ¬ (v15 = true) := by first | exact h17 | omega | (simpa using h17) | (simp at h17 ⊢; omega) | simp_all
        rw [if_neg q18] at hF
        cases hF
        simp -dsimp [h11, z13, ↓e14, h17, q18]
        repeat (refine chk.go (by first | omega | assumption | (simp_all; done) | (simp_all; omega)) ?_; try simp -dsimp [h11, z13, ↓e14, h17, q18])
        refine Leave.go _ (Gh.refl _) (hq _ ?_)
        simp -dsimp [h11, z13, ↓e14, h17, q18]
        repeat (refine chk.go (by first | omega | assumption | (simp_all; done) | (simp_all; omega)) ?_; try simp -dsimp [h11, z13, ↓e14, h17, q18])
      · have q18 : (v15 = true) := by first | exact h17 | omega | (simpa using h17) | (simp at h17 ⊢; omega) | simp_all
        rw [if_pos q18] at hF
        have w19 : IntKind.i64.wrap ((i : Int) + 1) = (i : Int) + 1 := wrap_in (by omega) (by omega)
        simp -dsimp [h11, z13, ↓e14, h17, q18, w19]
        repeat (refine chk.go (by first | omega | assumption | (simp_all; done) | (simp_all; omega)) ?_; try simp -dsimp [h11, z13, ↓e14, h17, q18, w19])
        refine Again.go ⟨[(0, .lit (.int .i64 n)), (3, .ptr 0 0), (5, .lit (.int .i64 ((i + 1) : Int)))], [.cells [.lit (.string c'.name), .arr (List.map Vl.Ty.c c'.args), .lit (.int .i64 c'.index)]]⟩ (Gh.to (by simp) (by first | (simp -dsimp; done) | (simp -dsimp [h11, z13, ↓e14, h17, q18, w19]; done) | simp_all) (by first | (simp -dsimp; done) | (simp -dsimp [h11, z13, ↓e14, h17, q18, w19]; done) | simp_all) (by first | (simp -dsimp; done) | (simp -dsimp [h11, z13, ↓e14, h17, q18, w19]; done) | simp_all)) ?_
        exact (ih_spec_l1Ctor_l1 (i + 1) o hF) _ rfl _ hq
    · have q12 : ¬ (i < c'.args.length) := by first | exact h11 | omega | (simpa using h11) | (simp at h11 ⊢; omega) | simp_all
      have z13 : ¬ ((i : Int) < (c'.args.length : Int)) := by first | omega | simp_all
      rw [if_neg q12] at hF
      cases hF
      simp -dsimp [h11, q12, z13]
      repeat (refine chk.go (by first | omega | assumption | (simp_all; done) | (simp_all; omega)) ?_; try simp -dsimp [h11, q12, z13])
      refine Leave.go ⟨[], []⟩ (Gh.to (by simp) (by first | (simp -dsimp; done) | (simp -dsimp [h11, q12, z13]; done) | simp_all) (by first | (simp -dsimp; done) | (simp -dsimp [h11, q12, z13]; done) | simp_all) (by first | (simp -dsimp; done) | (simp -dsimp [h11, q12, z13]; done) | simp_all)) ?_
      exact hq

theorem C.spec_l1Ctor_l1 (B : Nat) (hB1 : 67108864 ≤ B) (hB2 : B ≤ 9223372036854775807) (n : Int) (c' : Vl.Ctor) (i : Nat) (o : Lo Bool Unit) (hF : F.spec_l1Ctor_l1 n c' i = some o) : ∀ (c : Code), navO [1, 1, 0, 1, 0, 0] (bodyOf Try.f194) = some c → ∀ (Q : Exit → ASt → Prop), o.post (fun r => ∀ st, Post Try.prog Try.f194 (fun r' _ => r'.le (.lit (.bool r))) .ret st → Q .ret st) (fun s => Q (.exit 0) ⟨[], []⟩) → ALoopU Try.prog B 0 41 (hold c .mk) ⟨[(0, .lit (.int .i64 n)), (3, .ptr 0 0), (5, .lit (.int .i64 (i : Int)))], [.cells [.lit (.string c'.name), .arr (List.map Vl.Ty.c c'.args), .lit (.int .i64 c'.index)]]⟩ (hold Q .mk) :=
  (CC.spec_l1Ctor_l1 B hB1 hB2 n c') i o hF

set_option maxRecDepth 100000 in
set_option maxHeartbeats 400000 in
theorem C.spec_l1Ctor (B : Nat) (hB1 : 67108864 ≤ B) (hB2 : B ≤ 9223372036854775807) (n : Int) (c' : Vl.Ctor) (r : Bool) (hF : F.spec_l1Ctor n c' = some r) : PureCall Try.prog B 194 [.lit (.int .i64 n), .agg [.lit (.string c'.name), .arr (List.map Vl.Ty.c c'.args), .lit (.int .i64 c'.index)]] (.lit (.bool r)) := by
  unfold F.spec_l1Ctor at hF
  refine PureCall.enterLe Try.func194 (by kernel_rfl) rfl Try.ntmps194 (by simp) (by simp) ?_
  simp -dsimp
  repeat (refine chk.go (by first | omega | assumption | (simp_all; done) | (simp_all; omega)) ?_; try simp -dsimp)
  have hF := ob hF; obtain ⟨v, e1, hF⟩ := hF
  refine ((C.spec_NameValid B hB1 hB2 c'.name v e1)).goW (by simp) (by simp) ?_
  simp -dsimp
  repeat (refine chk.go (by first | omega | assumption | (simp_all; done) | (simp_all; omega)) ?_; try simp -dsimp)
  refine abr.split (fun h2 => ?_) (fun h2 => ?_)
  · have q3 : (v = true) := by first | exact h2 | omega | (simpa using h2) | (simp at h2 ⊢; omega) | simp_all
    rw [if_pos q3] at hF
    simp -dsimp [h2]
    repeat (refine chk.go (by first | omega | assumption | (simp_all; done) | (simp_all; omega)) ?_; try simp -dsimp [h2])
    refine abr.split (fun h4 => ?_) (fun h4 => ?_)
    · have q5 : ¬ (3 < c'.args.length) := by first | exact h4 | omega | (simpa using h4) | (simp at h4 ⊢; omega) | simp_all
      have z6 : ¬ ((3 : Int) < (c'.args.length : Int)) := by first | omega | simp_all
      rw [if_neg q5] at hF
      simp -dsimp [h2, h4, q5, z6]
      repeat (refine chk.go (by first | omega | assumption | (simp_all; done) | (simp_all; omega)) ?_; try simp -dsimp [h2, h4, q5, z6])
      refine abr.split (fun h7 => ?_) (fun h7 => ?_)
      · have q8 : ¬ (c'.index < 0) := by first | exact h7 | omega | (simpa using h7) | (simp at h7 ⊢; omega) | simp_all
        rw [if_neg q8] at hF
        simp -dsimp [h2, h4, q5, z6, h7, q8]
        repeat (refine chk.go (by first | omega | assumption | (simp_all; done) | (simp_all; omega)) ?_; try simp -dsimp [h2, h4, q5, z6, h7, q8])
        refine abr.split (fun h9 => ?_) (fun h9 => ?_)
        · have q10 : (3 < c'.index) := by first | exact h9 | omega | (simpa using h9) | (simp at h9 ⊢; omega) | simp_all
          rw [if_pos q10] at hF
          cases hF
          simp -dsimp [h2, h4, q5, z6, h7, q8, h9]
          repeat (refine chk.go (by first | omega | assumption | (simp_all; done) | (simp_all; omega)) ?_; try simp -dsimp [h2, h4, q5, z6, h7, q8, h9])
          all_goals (try omega)
        · have q10 : ¬ (3 < c'.index) := by first | exact h9 | omega | (simpa using h9) | (simp at h9 ⊢; omega) | simp_all
          rw [if_neg q10] at hF
          simp -dsimp [h2, h4, q5, z6, h7, q8, h9, q10]
          repeat (refine chk.go (by first | omega | assumption | (simp_all; done) | (simp_all; omega)) ?_; try simp -dsimp [h2, h4, q5, z6, h7, q8, h9, q10])
          have hF := ob hF; obtain ⟨o', ho20, hF⟩ := hF
          refine ALoop.goU ⟨[(0, .lit (.int .i64 n)), (3, .ptr 0 0), (5, .lit (.int .i64 (0 : Int)))], [.cells [.lit (.string c'.name), .arr (List.map Vl.Ty.c c'.args), .lit (.int .i64 c'.index)]]⟩ (Gh.to (by simp) (by first | (simp -dsimp; done) | (simp -dsimp [h2, h4, q5, z6, h7, q8, h9, q10]; done) | simp_all) (by first | (simp -dsimp; done) | (simp -dsimp [h2, h4, q5, z6, h7, q8, h9, q10]; done) | simp_all) (by first | (simp -dsimp; done) | (simp -dsimp [h2, h4, q5, z6, h7, q8, h9, q10]; done) | simp_all)) ?_
          refine (C.spec_l1Ctor_l1 B hB1 hB2 n c' 0 o' ho20) _ rfl _ ?_
          rcases o' with r0 | s
          · dsimp only at hF
            cases hF
            intro st h
            simpa using h
          · dsimp only at hF
            cases hF
            simp -dsimp
            repeat (refine chk.go (by first | omega | assumption | (simp_all; done) | (simp_all; omega)) ?_; try simp -dsimp)
            all_goals (try omega)
      · have q8 : (c'.index < 0) := by first | exact h7 | omega | (simpa using h7) | (simp at h7 ⊢; omega) | simp_all
        rw [if_pos q8] at hF
        cases hF
        simp -dsimp [h2, h4, q5, z6, h7, q8]
        repeat (refine chk.go (by first | omega | assumption | (simp_all; done) | (simp_all; omega)) ?_; try simp -dsimp [h2, h4, q5, z6, h7, q8])
        all_goals (try omega)
    · have q5 : (3 < c'.args.length) := by first | exact h4 | omega | (simpa using h4) | (simp at h4 ⊢; omega) | simp_all
      have z6 : ((3 : Int) < (c'.args.length : Int)) := by first | omega | simp_all
      rw [if_pos q5] at hF
      cases hF
      simp -dsimp [h2, h4, q5, z6]
      repeat (refine chk.go (by first | omega | assumption | (simp_all; done) | (simp_all; omega)) ?_; try simp -dsimp [h2, h4, q5, z6])
      all_goals (try omega)
  · have q3 : ¬ (v = true) := by first | exact h2 | omega | (simpa using h2) | (simp at h2 ⊢; omega) | simp_all
    rw [if_neg q3] at hF
    cases hF
    simp -dsimp [h2, q3]
    repeat (refine chk.go (by first | omega | assumption | (simp_all; done) | (simp_all; omega)) ?_; try simp -dsimp [h2, q3])
    all_goals (try omega)

set_option maxRecDepth 100000 in
set_option maxHeartbeats 400000 in
theorem CC.spec_l1Twice_l2 (B : Nat) (hB1 : 67108864 ≤ B) (hB2 : B ≤ 9223372036854775807) (w : List Vl.Data) (d : Int) (k : Int) (i : Nat) : (∀ (j : Nat) (o : Lo Bool Unit), F.spec_l1Twice_l2 w d k i j = some o → ∀ (c : Code), navO [1, 0, 1, 0, 0, 1, 0, 0, 1, 1, 0, 0] (bodyOf Try.f195) = some c → ∀ (Q : Exit → ASt → Prop), o.post (fun r => ∀ st, Post Try.prog Try.f195 (fun r' _ => r'.le (.lit (.bool r))) .ret st → Q .ret st) (fun s => Q (.exit 2) ⟨[(0, .arr (List.map Vl.Data.c w)), (1, .lit (.int .i64 d)), (2, .lit (.int .i64 k)), (7, .lit (.int .i64 (i : Int)))], []⟩) → ALoopU Try.prog B 0 79 (hold c .mk) ⟨[(0, .arr (List.map Vl.Data.c w)), (1, .lit (.int .i64 d)), (2, .lit (.int .i64 k)), (7, .lit (.int .i64 (i : Int))), (8, .lit (.int .i64 (j : Int)))], []⟩ (hold Q .mk)) := by
  refine F.spec_l1Twice_l2.partial_correctness w d k i
    (fun j o => ∀ (c : Code), navO [1, 0, 1, 0, 0, 1, 0, 0, 1, 1, 0, 0] (bodyOf Try.f195) = some c → ∀ (Q : Exit → ASt → Prop), o.post (fun r => ∀ st, Post Try.prog Try.f195 (fun r' _ => r'.le (.lit (.bool r))) .ret st → Q .ret st) (fun s => Q (.exit 2) ⟨[(0, .arr (List.map Vl.Data.c w)), (1, .lit (.int .i64 d)), (2, .lit (.int .i64 k)), (7, .lit (.int .i64 (i : Int)))], []⟩) → ALoopU Try.prog B 0 79 (hold c .mk) ⟨[(0, .arr (List.map Vl.Data.c w)), (1, .lit (.int .i64 d)), (2, .lit (.int .i64 k)), (7, .lit (.int .i64 (i : Int))), (8, .lit (.int .i64 (j : Int)))], []⟩ (hold Q .mk))
    ?_
  · intro _f_spec_l1Twice_l2 ih_spec_l1Twice_l2 j o hF
    intro c hc Q hq
    obtain rfl : c = _ := navEq hc rfl
    refine ALoopU.know fun hk hs => ?_
    have b0 := hk 0
    simp -dsimp at b0
    clear hk hs
    refine ALoopU.enter ?_
    have hF := ob hF; obtain ⟨x10, e11, hF⟩ := hF
    have le11 := lt_of_get e11
    simp -dsimp [↓e11]
    repeat (refine chk.go (by first | omega | assumption | (simp_all; done) | (simp_all; omega)) ?_; try simp -dsimp [↓e11])
    refine abr.split (fun h12 => ?_) (fun h12 => ?_)
    · have q13 : (j < x10.ctors.length) := by first | exact h12 | omega | (simpa using h12) | (simp at h12 ⊢; omega) | simp_all
      have z14 : ((j : Int) < (x10.ctors.length : Int)) := by first | omega | simp_all
      rw [if_pos q13] at hF
      simp -dsimp [↓e11, h12, z14]
      repeat (refine chk.go (by first | omega | assumption | (simp_all; done) | (simp_all; omega)) ?_; try simp -dsimp [↓e11, h12, z14])
      refine abr.split (fun h15 => ?_) (fun h15 => ?_)
      · have q16 : ¬ ((i : Int) < d) := by first | exact h15 | omega | (simpa using h15) | (simp at h15 ⊢; omega) | simp_all
        rw [if_neg q16] at hF
        simp -dsimp [↓e11, h12, z14, h15, q16]
        repeat (refine chk.go (by first | omega | assumption | (simp_all; done) | (simp_all; omega)) ?_; try simp -dsimp [↓e11, h12, z14, h15, q16])
        refine abr.split (fun h17 => ?_) (fun h17 => ?_)
        · have q18 : ((j : Int) < k) := by first | exact h17 | omega | (simpa using h17) | (simp at h17 ⊢; omega) | simp_all
          rw [if_pos q18] at hF
          simp -dsimp [↓e11, h12, z14, h15, q16, h17]
          repeat (refine chk.go (by first | omega | assumption | (simp_all; done) | (simp_all; omega)) ?_; try simp -dsimp [↓e11, h12, z14, h15, q16, h17])
          refine ADraw.simple follows (by kernel_rfl) (by kernel_rfl) ?_
          have hF := ob hF; obtain ⟨x19, e20a, hF⟩ := hF
          have e20a := at_some e20a; obtain ⟨ne20, e20⟩ := e20a
          have le20 := lt_of_get e20
          simp -dsimp [↓e11, h12, z14, h15, q16, h17, ↓e20]
          repeat (refine chk.go (by first | omega | assumption | (simp_all; done) | (simp_all; omega)) ?_; try simp -dsimp [↓e11, h12, z14, h15, q16, h17, ↓e20])
          refine abr.split (fun h21 => ?_) (fun h21 => ?_)
          · have q22 : (k < (x19.ctors.length : Int)) := by first | exact h21 | omega | (simpa using h21) | (simp at h21 ⊢; omega) | simp_all
            rw [if_pos q22] at hF
            have hF := ob hF; obtain ⟨x23, e24, hF⟩ := hF
            have le24 := lt_of_get e24
            have hF := ob hF; obtain ⟨x25, e26a, hF⟩ := hF
            have e26a := at_some e26a; obtain ⟨ne26, e26⟩ := e26a
            have le26 := lt_of_get e26
            simp -dsimp [↓e11, h12, z14, h15, q16, h17, ↓e20, h21, ↓e24, ↓e26]
            repeat (refine chk.go (by first | omega | assumption | (simp_all; done) | (simp_all; omega)) ?_; try simp -dsimp [↓e11, h12, z14, h15, q16, h17, ↓e20, h21, ↓e24, ↓e26])
            refine abr.split (fun h27 => ?_) (fun h27 => ?_)
            · have q28 : (x23.name.toList = x25.name.toList) := by first | exact h27 | omega | (simpa using h27) | (simp at h27 ⊢; omega) | simp_all
              rw [if_pos q28] at hF
              cases hF
              simp -dsimp [↓e11, h12, z14, h15, q16, h17, ↓e20, h21, ↓e24, ↓e26, h27]
              repeat (refine chk.go (by first | omega | assumption | (simp_all; done) | (simp_all; omega)) ?_; try simp -dsimp [↓e11, h12, z14, h15, q16, h17, ↓e20, h21, ↓e24, ↓e26, h27])
              refine Leave.go _ (Gh.refl _) (hq _ ?_)
              simp -dsimp [↓e11, h12, z14, h15, q16, h17, ↓e20, h21, ↓e24, ↓e26, h27]
              repeat (refine chk.go (by first | omega | assumption | (simp_all; done) | (simp_all; omega)) ?_; try simp -dsimp [↓e11, h12, z14, h15, q16, h17, ↓e20, h21, ↓e24, ↓e26, h27])
            · have q28 : ¬ (x23.name.toList = x25.name.toList) := by first | exact h27 | omega | (simpa using h27) | (simp at h27 ⊢; omega) | simp_all
              rw [if_neg q28] at hF
              have hF := oc hF; obtain ⟨c29, hF⟩ := hF
              have w30 : IntKind.i64.wrap ((j : Int) + 1) = (j : Int) + 1 := wrap_in (by omega) (by omega)
              simp -dsimp [↓e11, h12, z14, h15, q16, h17, ↓e20, h21, ↓e24, ↓e26, h27, q28, w30]
              repeat (refine chk.go (by first | omega | assumption | (simp_all; done) | (simp_all; omega)) ?_; try simp -dsimp [↓e11, h12, z14, h15, q16, h17, ↓e20, h21, ↓e24, ↓e26, h27, q28, w30])
              refine Again.go ⟨[(0, .arr (List.map Vl.Data.c w)), (1, .lit (.int .i64 d)), (2, .lit (.int .i64 k)), (7, .lit (.int .i64 (i : Int))), (8, .lit (.int .i64 ((j + 1) : Int)))], []⟩ (Gh.to (by simp) (by first | (simp -dsimp; done) | (simp -dsimp [↓e11, h12, z14, h15, q16, h17, ↓e20, h21, ↓e24, ↓e26, h27, q28, w30]; done) | simp_all) (by first | (simp -dsimp; done) | (simp -dsimp [↓e11, h12, z14, h15, q16, h17, ↓e20, h21, ↓e24, ↓e26, h27, q28, w30]; done) | simp_all) (by first | (simp -dsimp; done) | (simp -dsimp [↓e11, h12, z14, h15, q16, h17, ↓e20, h21, ↓e24, ↓e26, h27, q28, w30]; done) | simp_all)) ?_
              exact (ih_spec_l1Twice_l2 (j + 1) o hF) _ rfl _ hq
          · have q22 : ¬ (k < (x19.ctors.length : Int)) := by first | exact h21 | omega | (simpa using h21) | (simp at h21 ⊢; omega) | simp_all
            rw [if_neg q22] at hF
            have hF := oc hF; obtain ⟨c31, hF⟩ := hF
            have w32 : IntKind.i64.wrap ((j : Int) + 1) = (j : Int) + 1 := wrap_in (by omega) (by omega)
            simp -dsimp [↓e11, h12, z14, h15, q16, h17, ↓e20, h21, q22, w32]
            repeat (refine chk.go (by first | omega | assumption | (simp_all; done) | (simp_all; omega)) ?_; try simp -dsimp [↓e11, h12, z14, h15, q16, h17, ↓e20, h21, q22, w32])
            refine Again.go ⟨[(0, .arr (List.map Vl.Data.c w)), (1, .lit (.int .i64 d)), (2, .lit (.int .i64 k)), (7, .lit (.int .i64 (i : Int))), (8, .lit (.int .i64 ((j + 1) : Int)))], []⟩ (Gh.to (by simp) (by first | (simp -dsimp; done) | (simp -dsimp [↓e11, h12, z14, h15, q16, h17, ↓e20, h21, q22, w32]; done) | simp_all) (by first | (simp -dsimp; done) | (simp -dsimp [↓e11, h12, z14, h15, q16, h17, ↓e20, h21, q22, w32]; done) | simp_all) (by first | (simp -dsimp; done) | (simp -dsimp [↓e11, h12, z14, h15, q16, h17, ↓e20, h21, q22, w32]; done) | simp_all)) ?_
            exact (ih_spec_l1Twice_l2 (j + 1) o hF) _ rfl _ hq
        · have q18 : ¬ ((j : Int) < k) := by first | exact h17 | omega | (simpa using h17) | (simp at h17 ⊢; omega) | simp_all
          rw [if_neg q18] at hF
          cases hF
          simp -dsimp [↓e11, h12, z14, h15, q16, h17, q18]
          repeat (refine chk.go (by first | omega | assumption | (simp_all; done) | (simp_all; omega)) ?_; try simp -dsimp [↓e11, h12, z14, h15, q16, h17, q18])
          refine Leave.go ⟨[(0, .arr (List.map Vl.Data.c w)), (1, .lit (.int .i64 d)), (2, .lit (.int .i64 k)), (7, .lit (.int .i64 (i : Int)))], []⟩ (Gh.to (by simp) (by first | (simp -dsimp; done) | (simp -dsimp [↓e11, h12, z14, h15, q16, h17, q18]; done) | simp_all) (by first | (simp -dsimp; done) | (simp -dsimp [↓e11, h12, z14, h15, q16, h17, q18]; done) | simp_all) (by first | (simp -dsimp; done) | (simp -dsimp [↓e11, h12, z14, h15, q16, h17, q18]; done) | simp_all)) ?_
          exact hq
      · have q16 : ((i : Int) < d) := by first | exact h15 | omega | (simpa using h15) | (simp at h15 ⊢; omega) | simp_all
        rw [if_pos q16] at hF
        simp -dsimp [↓e11, h12, z14, h15, q16]
        repeat (refine chk.go (by first | omega | assumption | (simp_all; done) | (simp_all; omega)) ?_; try simp -dsimp [↓e11, h12, z14, h15, q16])
        refine ADraw.simple follows (by kernel_rfl) (by kernel_rfl) ?_
        have hF := ob hF; obtain ⟨x33, e34a, hF⟩ := hF
        have e34a := at_some e34a; obtain ⟨ne34, e34⟩ := e34a
        have le34 := lt_of_get e34
        simp -dsimp [↓e11, h12, z14, h15, q16, ↓e34]
        repeat (refine chk.go (by first | omega | assumption | (simp_all; done) | (simp_all; omega)) ?_; try simp -dsimp [↓e11, h12, z14, h15, q16, ↓e34])
        refine abr.split (fun h35 => ?_) (fun h35 => ?_)
        · have q36 : (k < (x33.ctors.length : Int)) := by first | exact h35 | omega | (simpa using h35) | (simp at h35 ⊢; omega) | simp_all
          rw [if_pos q36] at hF
          have hF := ob hF; obtain ⟨x37, e38, hF⟩ := hF
          have le38 := lt_of_get e38
          have hF := ob hF; obtain ⟨x39, e40a, hF⟩ := hF
          have e40a := at_some e40a; obtain ⟨ne40, e40⟩ := e40a
          have le40 := lt_of_get e40
          simp -dsimp [↓e11, h12, z14, h15, q16, ↓e34, h35, ↓e38, ↓e40]
          repeat (refine chk.go (by first | omega | assumption | (simp_all; done) | (simp_all; omega)) ?_; try simp -dsimp [↓e11, h12, z14, h15, q16, ↓e34, h35, ↓e38, ↓e40])
          refine abr.split (fun h41 => ?_) (fun h41 => ?_)
          · have q42 : (x37.name.toList = x39.name.toList) := by first | exact h41 | omega | (simpa using h41) | (simp at h41 ⊢; omega) | simp_all
            rw [if_pos q42] at hF
            cases hF
            simp -dsimp [↓e11, h12, z14, h15, q16, ↓e34, h35, ↓e38, ↓e40, h41]
            repeat (refine chk.go (by first | omega | assumption | (simp_all; done) | (simp_all; omega)) ?_; try simp -dsimp [↓e11, h12, z14, h15, q16, ↓e34, h35, ↓e38, ↓e40, h41])
            refine Leave.go _ (Gh.refl _) (hq _ ?_)
            simp -dsimp [↓e11, h12, z14, h15, q16, ↓e34, h35, ↓e38, ↓e40, h41]
            repeat (refine chk.go (by first | omega | assumption | (simp_all; done) | (simp_all; omega)) ?_; try simp -dsimp [↓e11, h12, z14, h15, q16, ↓e34, h35, ↓e38, ↓e40, h41])
          · have q42 : ¬ (x37.name.toList = x39.name.toList) := by first | exact h41 | omega | (simpa using h41) | (simp at h41 ⊢; omega) | simp_all
            rw [if_neg q42] at hF
            have hF := oc hF; obtain ⟨c43, hF⟩ := hF
            have w44 : IntKind.i64.wrap ((j : Int) + 1) = (j : Int) + 1 := wrap_in (by omega) (by omega)
            simp -dsimp [↓e11, h12, z14, h15, q16, ↓e34, h35, ↓e38, ↓e40, h41, q42, w44]
            repeat (refine chk.go (by first | omega | assumption | (simp_all; done) | (simp_all; omega)) ?_; try simp -dsimp [↓e11, h12, z14, h15, q16, ↓e34, h35, ↓e38, ↓e40, h41, q42, w44])
            refine Again.go ⟨[(0, .arr (List.map Vl.Data.c w)), (1, .lit (.int .i64 d)), (2, .lit (.int .i64 k)), (7, .lit (.int .i64 (i : Int))), (8, .lit (.int .i64 ((j + 1) : Int)))], []⟩ (Gh.to (by simp) (by first | (simp -dsimp; done) | (simp -dsimp [↓e11, h12, z14, h15, q16, ↓e34, h35, ↓e38, ↓e40, h41, q42, w44]; done) | simp_all) (by first | (simp -dsimp; done) | (simp -dsimp [↓e11, h12, z14, h15, q16, ↓e34, h35, ↓e38, ↓e40, h41, q42, w44]; done) | simp_all) (by first | (simp -dsimp; done) | (simp -dsimp [↓e11, h12, z14, h15, q16, ↓e34, h35, ↓e38, ↓e40, h41, q42, w44]; done) | simp_all)) ?_
            exact (ih_spec_l1Twice_l2 (j + 1) o hF) _ rfl _ hq
        · have q36 : ¬ (k < (x33.ctors.length : Int)) := by first | exact h35 | omega | (simpa using h35) | (simp at h35 ⊢; omega) | simp_all
          rw [if_neg q36] at hF
          have hF := oc hF; obtain ⟨c45, hF⟩ := hF
          have w46 : IntKind.i64.wrap ((j : Int) + 1) = (j : Int) + 1 := wrap_in (by omega) (by omega)
          simp -dsimp [↓e11, h12, z14, h15, q16, ↓e34, h35, q36, w46]
          repeat (refine chk.go (by first | omega | assumption | (simp_all; done) | (simp_all; omega)) ?_; try simp -dsimp [↓e11, h12, z14, h15, q16, ↓e34, h35, q36, w46])
          refine Again.go ⟨[(0, .arr (List.map Vl.Data.c w)), (1, .lit (.int .i64 d)), (2, .lit (.int .i64 k)), (7, .lit (.int .i64 (i : Int))), (8, .lit (.int .i64 ((j + 1) : Int)))], []⟩ (Gh.to (by simp) (by first | (simp -dsimp; done) | (simp -dsimp [↓e11, h12, z14, h15, q16, ↓e34, h35, q36, w46]; done) | simp_all) (by first | (simp -dsimp; done) | (simp -dsimp [↓e11, h12, z14, h15, q16, ↓e34, h35, q36, w46]; done) | simp_all) (by first | (simp -dsimp; done) | (simp -dsimp [↓e11, h12, z14, h15, q16, ↓e34, h35, q36, w46]; done) | simp_all)) ?_
          exact (ih_spec_l1Twice_l2 (j + 1) o hF) _ rfl _ hq
    · have q13 : ¬ (j < x10.ctors.length) := by first | exact h12 | omega | (simpa using h12) | (simp at h12 ⊢; omega) | simp_all
      have z14 : ¬ ((j : Int) < (x10.ctors.length : Int)) := by first | omega | simp_all
      rw [if_neg q13] at hF
      cases hF
      simp -dsimp [↓e11, h12, q13, z14]
      repeat (refine chk.go (by first | omega | assumption | (simp_all; done) | (simp_all; omega)) ?_; try simp -dsimp [↓e11, h12, q13, z14])
      refine Leave.go ⟨[(0, .arr (List.map Vl.Data.c w)), (1, .lit (.int .i64 d)), (2, .lit (.int .i64 k)), (7, .lit (.int .i64 (i : Int)))], []⟩ (Gh.to (by simp) (by first | (simp -dsimp; done) | (simp -dsimp [↓e11, h12, q13, z14]; done) | simp_all) (by first | (simp -dsimp; done) | (simp -dsimp [↓e11, h12, q13, z14]; done) | simp_all) (by first | (simp -dsimp; done) | (simp -dsimp [↓e11, h12, q13, z14]; done) | simp_all)) ?_
      exact hq

theorem C.spec_l1Twice_l2 (B : Nat) (hB1 : 67108864 ≤ B) (hB2 : B ≤ 9223372036854775807) (w : List Vl.Data) (d : Int) (k : Int) (i : Nat) (j : Nat) (o : Lo Bool Unit) (hF : F.spec_l1Twice_l2 w d k i j = some o) : ∀ (c : Code), navO [1, 0, 1, 0, 0, 1, 0, 0, 1, 1, 0, 0] (bodyOf Try.f195) = some c → ∀ (Q : Exit → ASt → Prop), o.post (fun r => ∀ st, Post Try.prog Try.f195 (fun r' _ => r'.le (.lit (.bool r))) .ret st → Q .ret st) (fun s => Q (.exit 2) ⟨[(0, .arr (List.map Vl.Data.c w)), (1, .lit (.int .i64 d)), (2, .lit (.int .i64 k)), (7, .lit (.int .i64 (i : Int)))], []⟩) → ALoopU Try.prog B 0 79 (hold c .mk) ⟨[(0, .arr (List.map Vl.Data.c w)), (1, .lit (.int .i64 d)), (2, .lit (.int .i64 k)), (7, .lit (.int .i64 (i : Int))), (8, .lit (.int .i64 (j : Int)))], []⟩ (hold Q .mk) :=
  (CC.spec_l1Twice_l2 B hB1 hB2 w d k i) j o hF

set_option maxRecDepth 100000 in
set_option maxHeartbeats 400000 in
theorem CC.spec_l1Twice_l3 (B : Nat) (hB1 : 67108864 ≤ B) (hB2 : B ≤ 9223372036854775807) (w : List Vl.Data) (d : Int) (k : Int) (i : Nat) : (∀ (j50 : Nat) (o : Lo Bool Unit), F.spec_l1Twice_l3 w d k i j50 = some o → ∀ (c : Code), navO [1, 0, 1, 0, 0, 1, 0, 0, 1, 1, 0, 0] (bodyOf Try.f195) = some c → ∀ (Q : Exit → ASt → Prop), o.post (fun r => ∀ st, Post Try.prog Try.f195 (fun r' _ => r'.le (.lit (.bool r))) .ret st → Q .ret st) (fun s => Q (.exit 2) ⟨[(0, .arr (List.map Vl.Data.c w)), (1, .lit (.int .i64 d)), (2, .lit (.int .i64 k)), (7, .lit (.int .i64 (i : Int)))], []⟩) → ALoopU Try.prog B 0 79 (hold c .mk) ⟨[(0, .arr (List.map Vl.Data.c w)), (1, .lit (.int .i64 d)), (2, .lit (.int .i64 k)), (7, .lit (.int .i64 (i : Int))), (8, .lit (.int .i64 (j50 : Int)))], []⟩ (hold Q .mk)) := by
  refine F.spec_l1Twice_l3.partial_correctness w d k i
    (fun j50 o => ∀ (c : Code), navO [1, 0, 1, 0, 0, 1, 0, 0, 1, 1, 0, 0] (bodyOf Try.f195) = some c → ∀ (Q : Exit → ASt → Prop), o.post (fun r => ∀ st, Post Try.prog Try.f195 (fun r' _ => r'.le (.lit (.bool r))) .ret st → Q .ret st) (fun s => Q (.exit 2) ⟨[(0, .arr (List.map Vl.Data.c w)), (1, .lit (.int .i64 d)), (2, .lit (.int .i64 k)), (7, .lit (.int .i64 (i : Int)))], []⟩) → ALoopU Try.prog B 0 79 (hold c .mk) ⟨[(0, .arr (List.map Vl.Data.c w)), (1, .lit (.int .i64 d)), (2, .lit (.int .i64 k)), (7, .lit (.int .i64 (i : Int))), (8, .lit (.int .i64 (j50 : Int)))], []⟩ (hold Q .mk))
    ?_
  · intro _f_spec_l1Twice_l3 ih_spec_l1Twice_l3 j50 o hF
    intro c hc Q hq
    obtain rfl : c = _ := navEq hc rfl
    refine ALoopU.know fun hk hs => ?_
    have b0 := hk 0
    simp -dsimp at b0
    clear hk hs
    refine ALoopU.enter ?_
    have hF := ob hF; obtain ⟨x51, e52, hF⟩ := hF
    have le52 := lt_of_get e52
    simp -dsimp [↓e52]
    repeat (refine chk.go (by first | omega | assumption | (simp_all; done) | (simp_all; omega)) ?_; try simp -dsimp [↓e52])
    refine abr.split (fun h53 => ?_) (fun h53 => ?_)
    · have q54 : (j50 < x51.ctors.length) := by first | exact h53 | omega | (simpa using h53) | (simp at h53 ⊢; omega) | simp_all
      have z55 : ((j50 : Int) < (x51.ctors.length : Int)) := by first | omega | simp_all
      rw [if_pos q54] at hF
      simp -dsimp [↓e52, h53, z55]
      repeat (refine chk.go (by first | omega | assumption | (simp_all; done) | (simp_all; omega)) ?_; try simp -dsimp [↓e52, h53, z55])
      refine abr.split (fun h56 => ?_) (fun h56 => ?_)
      · have q57 : ¬ ((i : Int) < d) := by first | exact h56 | omega | (simpa using h56) | (simp at h56 ⊢; omega) | simp_all
        rw [if_neg q57] at hF
        simp -dsimp [↓e52, h53, z55, h56, q57]
        repeat (refine chk.go (by first | omega | assumption | (simp_all; done) | (simp_all; omega)) ?_; try simp -dsimp [↓e52, h53, z55, h56, q57])
        refine abr.split (fun h58 => ?_) (fun h58 => ?_)
        · have q59 : ((j50 : Int) < k) := by first | exact h58 | omega | (simpa using h58) | (simp at h58 ⊢; omega) | simp_all
          rw [if_pos q59] at hF
          simp -dsimp [↓e52, h53, z55, h56, q57, h58]
          repeat (refine chk.go (by first | omega | assumption | (simp_all; done) | (simp_all; omega)) ?_; try simp -dsimp [↓e52, h53, z55, h56, q57, h58])
          refine ADraw.simple follows (by kernel_rfl) (by kernel_rfl) ?_
          have hF := ob hF; obtain ⟨x60, e61a, hF⟩ := hF
          have e61a := at_some e61a; obtain ⟨ne61, e61⟩ := e61a
          have le61 := lt_of_get e61
          simp -dsimp [↓e52, h53, z55, h56, q57, h58, ↓e61]
          repeat (refine chk.go (by first | omega | assumption | (simp_all; done) | (simp_all; omega)) ?_; try simp -dsimp [↓e52, h53, z55, h56, q57, h58, ↓e61])
          refine abr.split (fun h62 => ?_) (fun h62 => ?_)
          · have q63 : (k < (x60.ctors.length : Int)) := by first | exact h62 | omega | (simpa using h62) | (simp at h62 ⊢; omega) | simp_all
            rw [if_pos q63] at hF
            have hF := ob hF; obtain ⟨x64, e65, hF⟩ := hF
            have le65 := lt_of_get e65
            have hF := ob hF; obtain ⟨x66, e67a, hF⟩ := hF
            have e67a := at_some e67a; obtain ⟨ne67, e67⟩ := e67a
            have le67 := lt_of_get e67
            simp -dsimp [↓e52, h53, z55, h56, q57, h58, ↓e61, h62, ↓e65, ↓e67]
            repeat (refine chk.go (by first | omega | assumption | (simp_all; done) | (simp_all; omega)) ?_; try simp -dsimp [↓e52, h53, z55, h56, q57, h58, ↓e61, h62, ↓e65, ↓e67])
            refine abr.split (fun h68 => ?_) (fun h68 => ?_)
            · have q69 : (x64.name.toList = x66.name.toList) := by first | exact h68 | omega | (simpa using h68) | (simp at h68 ⊢; omega) | simp_all
              rw [if_pos q69] at hF
              cases hF
              simp -dsimp [↓e52, h53, z55, h56, q57, h58, ↓e61, h62, ↓e65, ↓e67, h68]
              repeat (refine chk.go (by first | omega | assumption | (simp_all; done) | (simp_all; omega)) ?_; try simp -dsimp [↓e52, h53, z55, h56, q57, h58, ↓e61, h62, ↓e65, ↓e67, h68])
              refine Leave.go _ (Gh.refl _) (hq _ ?_)
              simp -dsimp [↓e52, h53, z55, h56, q57, h58, ↓e61, h62, ↓e65, ↓e67, h68]
              repeat (refine chk.go (by first | omega | assumption | (simp_all; done) | (simp_all; omega)) ?_; try simp -dsimp [↓e52, h53, z55, h56, q57, h58, ↓e61, h62, ↓e65, ↓e67, h68])
            · have q69 : ¬ (x64.name.toList = x66.name.toList) := by first | exact h68 | omega | (simpa using h68) | (simp at h68 ⊢; omega) | simp_all
              rw [if_neg q69] at hF
              have hF := oc hF; obtain ⟨c70, hF⟩ := hF
              have w71 : IntKind.i64.wrap ((j50 : Int) + 1) = (j50 : Int) + 1 := wrap_in (by omega) (by omega)
              simp -dsimp [↓e52, h53, z55, h56, q57, h58, ↓e61, h62, ↓e65, ↓e67, h68, q69, w71]
              repeat (refine chk.go (by first | omega | assumption | (simp_all; done) | (simp_all; omega)) ?_; try simp -dsimp [↓e52, h53, z55, h56, q57, h58, ↓e61, h62, ↓e65, ↓e67, h68, q69, w71])
              refine Again.go ⟨[(0, .arr (List.map Vl.Data.c w)), (1, .lit (.int .i64 d)), (2, .lit (.int .i64 k)), (7, .lit (.int .i64 (i : Int))), (8, .lit (.int .i64 ((j50 + 1) : Int)))], []⟩ (Gh.to (by simp) (by first | (simp -dsimp; done) | (simp -dsimp [↓e52, h53, z55, h56, q57, h58, ↓e61, h62, ↓e65, ↓e67, h68, q69, w71]; done) | simp_all) (by first | (simp -dsimp; done) | (simp -dsimp [↓e52, h53, z55, h56, q57, h58, ↓e61, h62, ↓e65, ↓e67, h68, q69, w71]; done) | simp_all) (by first | (simp -dsimp; done) | (simp -dsimp [↓e52, h53, z55, h56, q57, h58, ↓e61, h62, ↓e65, ↓e67, h68, q69, w71]; done) | simp_all)) ?_
              exact (ih_spec_l1Twice_l3 (j50 + 1) o hF) _ rfl _ hq
          · have q63 : ¬ (k < (x60.ctors.length : Int)) := by first | exact h62 | omega | (simpa using h62) | (simp at h62 ⊢; omega) | simp_all
            rw [if_neg q63] at hF
            have hF := oc hF; obtain ⟨c72, hF⟩ := hF
            have w73 : IntKind.i64.wrap ((j50 : Int) + 1) = (j50 : Int) + 1 := wrap_in (by omega) (by omega)
            simp -dsimp [↓e52, h53, z55, h56, q57, h58, ↓e61, h62, q63, w73]
            repeat (refine chk.go (by first | omega | assumption | (simp_all; done) | (simp_all; omega)) ?_; try simp -dsimp [↓e52, h53, z55, h56, q57, h58, ↓e61, h62, q63, w73])
            refine Again.go ⟨[(0, .arr (List.map Vl.Data.c w)), (1, .lit (.int .i64 d)), (2, .lit (.int .i64 k)), (7, .lit (.int .i64 (i : Int))), (8, .lit (.int .i64 ((j50 + 1) : Int)))], []⟩ (Gh.to (by simp) (by first | (simp -dsimp; done) | (simp -dsimp [↓e52, h53, z55, h56, q57, h58, ↓e61, h62, q63, w73]; done) | simp_all) (by first | (simp -dsimp; done) | (simp -dsimp [↓e52, h53, z55, h56, q57, h58, ↓e61, h62, q63, w73]; done) | simp_all) (by first | (simp -dsimp; done) | (simp -dsimp [↓e52, h53, z55, h56, q57, h58, ↓e61, h62, q63, w73]; done) | simp_all)) ?_
            exact (ih_spec_l1Twice_l3 (j50 + 1) o hF) _ rfl _ hq
        · have q59 : ¬ ((j50 : Int) < k) := by first | exact h58 | omega | (simpa using h58) | (simp at h58 ⊢; omega) | simp_all
          rw [if_neg q59] at hF
          cases hF
          simp -dsimp [↓e52, h53, z55, h56, q57, h58, q59]
          repeat (refine chk.go (by first | omega | assumption | (simp_all; done) | (simp_all; omega)) ?_; try simp -dsimp [↓e52, h53, z55, h56, q57, h58, q59])
          refine Leave.go ⟨[(0, .arr (List.map Vl.Data.c w)), (1, .lit (.int .i64 d)), (2, .lit (.int .i64 k)), (7, .lit (.int .i64 (i : Int)))], []⟩ (Gh.to (by simp) (by first | (simp -dsimp; done) | (simp -dsimp [↓e52, h53, z55, h56, q57, h58, q59]; done) | simp_all) (by first | (simp -dsimp; done) | (simp -dsimp [↓e52, h53, z55, h56, q57, h58, q59]; done) | simp_all) (by first | (simp -dsimp; done) | (simp -dsimp [↓e52, h53, z55, h56, q57, h58, q59]; done) | simp_all)) ?_
          exact hq
      · have q57 : ((i : Int) < d) := by first | exact h56 | omega | (simpa using h56) | (simp at h56 ⊢; omega) | simp_all
        rw [if_pos q57] at hF
        simp -dsimp [↓e52, h53, z55, h56, q57]
        repeat (refine chk.go (by first | omega | assumption | (simp_all; done) | (simp_all; omega)) ?_; try simp -dsimp [↓e52, h53, z55, h56, q57])
        refine ADraw.simple follows (by kernel_rfl) (by kernel_rfl) ?_
        have hF := ob hF; obtain ⟨x74, e75a, hF⟩ := hF
        have e75a := at_some e75a; obtain ⟨ne75, e75⟩ := e75a
        have le75 := lt_of_get e75
        simp -dsimp [↓e52, h53, z55, h56, q57, ↓e75]
        repeat (refine chk.go (by first | omega | assumption | (simp_all; done) | (simp_all; omega)) ?_; try simp -dsimp [↓e52, h53, z55, h56, q57, ↓e75])
        refine abr.split (fun h76 => ?_) (fun h76 => ?_)
        · have q77 : (k < (x74.ctors.length : Int)) := by first | exact h76 | omega | (simpa using h76) | (simp at h76 ⊢; omega) | simp_all
          rw [if_pos q77] at hF
          have hF := ob hF; obtain ⟨x78, e79, hF⟩ := hF
          have le79 := lt_of_get e79
          have hF := ob hF; obtain ⟨x80, e81a, hF⟩ := hF
          have e81a := at_some e81a; obtain ⟨ne81, e81⟩ := e81a
          have le81 := lt_of_get e81
          simp -dsimp [↓e52, h53, z55, h56, q57, ↓e75, h76, ↓e79, ↓e81]
          repeat (refine chk.go (by first | omega | assumption | (simp_all; done) | (simp_all; omega)) ?_; try simp -dsimp [↓e52, h53, z55, h56, q57, ↓e75, h76, ↓e79, ↓e81])
          refine abr.split (fun h82 => ?_) (fun h82 => ?_)
          · have q83 : (x78.name.toList = x80.name.toList) := by first | exact h82 | omega | (simpa using h82) | (simp at h82 ⊢; omega) | simp_all
            rw [if_pos q83] at hF
            cases hF
            simp -dsimp [↓e52, h53, z55, h56, q57, ↓e75, h76, ↓e79, ↓e81, h82]
            repeat (refine chk.go (by first | omega | assumption | (simp_all; done) | (simp_all; omega)) ?_; try simp -dsimp [↓e52, h53, z55, h56, q57, ↓e75, h76, ↓e79, ↓e81, h82])
            refine Leave.go _ (Gh.refl _) (hq _ ?_)
            simp -dsimp [↓e52, h53, z55, h56, q57, ↓e75, h76, ↓e79, ↓e81, h82]
            repeat (refine chk.go (by first | omega | assumption | (simp_all; done) | (simp_all; omega)) ?_; try simp -dsimp [↓e52, h53, z55, h56, q57, ↓e75, h76, ↓e79, ↓e81, h82])
          · have q83 : ¬ (x78.name.toList = x80.name.toList) := by first | exact h82 | omega | (simpa using h82) | (simp at h82 ⊢; omega) | simp_all
            rw [if_neg q83] at hF
            have hF := oc hF; obtain ⟨c84, hF⟩ := hF
            have w85 : IntKind.i64.wrap ((j50 : Int) + 1) = (j50 : Int) + 1 := wrap_in (by omega) (by omega)
            simp -dsimp [↓e52, h53, z55, h56, q57, ↓e75, h76, ↓e79, ↓e81, h82, q83, w85]
            repeat (refine chk.go (by first | omega | assumption | (simp_all; done) | (simp_all; omega)) ?_; try simp -dsimp [↓e52, h53, z55, h56, q57, ↓e75, h76, ↓e79, ↓e81, h82, q83, w85])
            refine Again.go ⟨[(0, .arr (List.map Vl.Data.c w)), (1, .lit (.int .i64 d)), (2, .lit (.int .i64 k)), (7, .lit (.int .i64 (i : Int))), (8, .lit (.int .i64 ((j50 + 1) : Int)))], []⟩ (Gh.to (by simp) (by first | (simp -dsimp; done) | (simp -dsimp [↓e52, h53, z55, h56, q57, ↓e75, h76, ↓e79, ↓e81, h82, q83, w85]; done) | simp_all) (by first | (simp -dsimp; done) | (simp -dsimp [↓e52, h53, z55, h56, q57, ↓e75, h76, ↓e79, ↓e81, h82, q83, w85]; done) | simp_all) (by first | (simp -dsimp; done) | (simp -dsimp [↓e52, h53, z55, h56, q57, ↓e75, h76, ↓e79, ↓e81, h82, q83, w85]; done) | simp_all)) ?_
            exact (ih_spec_l1Twice_l3 (j50 + 1) o hF) _ rfl _ hq
        · have q77 : ¬ (k < (x74.ctors.length : Int)) := by first | exact h76 | omega | (simpa using h76) | (simp at h76 ⊢; omega) | simp_all
          rw [if_neg q77] at hF
          have hF := oc hF; obtain ⟨c86, hF⟩ := hF
          have w87 : IntKind.i64.wrap ((j50 : Int) + 1) = (j50 : Int) + 1 := wrap_in (by omega) (by omega)
          simp -dsimp [↓e52, h53, z55, h56, q57, ↓e75, h76, q77, w87]
          repeat (refine chk.go (by first | omega | assumption | (simp_all; done) | (simp_all; omega)) ?_; try simp -dsimp [↓e52, h53, z55, h56, q57, ↓e75, h76, q77, w87])
          refine Again.go ⟨[(0, .arr (List.map Vl.Data.c w)), (1, .lit (.int .i64 d)), (2, .lit (.int .i64 k)), (7, .lit (.int .i64 (i : Int))), (8, .lit (.int .i64 ((j50 + 1) : Int)))], []⟩ (Gh.to (by simp) (by first | (simp -dsimp; done) | (simp -dsimp [↓e52, h53, z55, h56, q57, ↓e75, h76, q77, w87]; done) | simp_all) (by first | (simp -dsimp; done) | (simp -dsimp [↓e52, h53, z55, h56, q57, ↓e75, h76, q77, w87]; done) | simp_all) (by first | (simp -dsimp; done) | (simp -dsimp [↓e52, h53, z55, h56, q57, ↓e75, h76, q77, w87]; done) | simp_all)) ?_
          exact (ih_spec_l1Twice_l3 (j50 + 1) o hF) _ rfl _ hq
    · have q54 : ¬ (j50 < x51.ctors.length) := by first | exact h53 | omega | (simpa using h53) | (simp at h53 ⊢; omega) | simp_all
      have z55 : ¬ ((j50 : Int) < (x51.ctors.length : Int)) := by first | omega | simp_all
      rw [if_neg q54] at hF
      cases hF
      simp -dsimp [↓e52, h53, q54, z55]
      repeat (refine chk.go (by first | omega | assumption | (simp_all; done) | (simp_all; omega)) ?_; try simp -dsimp [↓e52, h53, q54, z55])
      refine Leave.go ⟨[(0, .arr (List.map Vl.Data.c w)), (1, .lit (.int .i64 d)), (2, .lit (.int .i64 k)), (7, .lit (.int .i64 (i : Int)))], []⟩ (Gh.to (by simp) (by first | (simp -dsimp; done) | (simp -dsimp [↓e52, h53, q54, z55]; done) | simp_all) (by first | (simp -dsimp; done) | (simp -dsimp [↓e52, h53, q54, z55]; done) | simp_all) (by first | (simp -dsimp; done) | (simp -dsimp [↓e52, h53, q54, z55]; done) | simp_all)) ?_
      exact hq

theorem C.spec_l1Twice_l3 (B : Nat) (hB1 : 67108864 ≤ B) (hB2 : B ≤ 9223372036854775807) (w : List Vl.Data) (d : Int) (k : Int) (i : Nat) (j50 : Nat) (o : Lo Bool Unit) (hF : F.spec_l1Twice_l3 w d k i j50 = some o) : ∀ (c : Code), navO [1, 0, 1, 0, 0, 1, 0, 0, 1, 1, 0, 0] (bodyOf Try.f195) = some c → ∀ (Q : Exit → ASt → Prop), o.post (fun r => ∀ st, Post Try.prog Try.f195 (fun r' _ => r'.le (.lit (.bool r))) .ret st → Q .ret st) (fun s => Q (.exit 2) ⟨[(0, .arr (List.map Vl.Data.c w)), (1, .lit (.int .i64 d)), (2, .lit (.int .i64 k)), (7, .lit (.int .i64 (i : Int)))], []⟩) → ALoopU Try.prog B 0 79 (hold c .mk) ⟨[(0, .arr (List.map Vl.Data.c w)), (1, .lit (.int .i64 d)), (2, .lit (.int .i64 k)), (7, .lit (.int .i64 (i : Int))), (8, .lit (.int .i64 (j50 : Int)))], []⟩ (hold Q .mk) :=
  (CC.spec_l1Twice_l3 B hB1 hB2 w d k i) j50 o hF

set_option maxRecDepth 100000 in
set_option maxHeartbeats 400000 in
theorem CC.spec_l1Twice_l1 (B : Nat) (hB1 : 67108864 ≤ B) (hB2 : B ≤ 9223372036854775807) (w : List Vl.Data) (d : Int) (k : Int) : (∀ (i : Nat) (o : Lo Bool Unit), F.spec_l1Twice_l1 w d k i = some o → ∀ (c : Code), navO [1, 0, 1, 0, 0] (bodyOf Try.f195) = some c → ∀ (Q : Exit → ASt → Prop), o.post (fun r => ∀ st, Post Try.prog Try.f195 (fun r' _ => r'.le (.lit (.bool r))) .ret st → Q .ret st) (fun s => Q (.exit 0) ⟨[], []⟩) → ALoopU Try.prog B 0 79 (hold c .mk) ⟨[(0, .arr (List.map Vl.Data.c w)), (1, .lit (.int .i64 d)), (2, .lit (.int .i64 k)), (7, .lit (.int .i64 (i : Int)))], []⟩ (hold Q .mk)) := by
  refine F.spec_l1Twice_l1.partial_correctness w d k
    (fun i o => ∀ (c : Code), navO [1, 0, 1, 0, 0] (bodyOf Try.f195) = some c → ∀ (Q : Exit → ASt → Prop), o.post (fun r => ∀ st, Post Try.prog Try.f195 (fun r' _ => r'.le (.lit (.bool r))) .ret st → Q .ret st) (fun s => Q (.exit 0) ⟨[], []⟩) → ALoopU Try.prog B 0 79 (hold c .mk) ⟨[(0, .arr (List.map Vl.Data.c w)), (1, .lit (.int .i64 d)), (2, .lit (.int .i64 k)), (7, .lit (.int .i64 (i : Int)))], []⟩ (hold Q .mk))
    ?_
  · intro _f_spec_l1Twice_l1 ih_spec_l1Twice_l1 i o hF
    intro c hc Q hq
    obtain rfl : c = _ := navEq hc rfl
    refine ALoopU.know fun hk hs => ?_
    have b0 := hk 0
    simp -dsimp at b0
    clear hk hs
    refine ALoopU.enter ?_
    simp -dsimp
    repeat (refine chk.go (by first | omega | assumption | (simp_all; done) | (simp_all; omega)) ?_; try simp -dsimp)
    refine abr.split (fun h1 => ?_) (fun h1 => ?_)
    · have q2 : ((i : Int) ≤ d) := by first | exact h1 | omega | (simpa using h1) | (simp at h1 ⊢; omega) | simp_all
      rw [if_pos q2] at hF
      simp -dsimp [h1]
      repeat (refine chk.go (by first | omega | assumption | (simp_all; done) | (simp_all; omega)) ?_; try simp -dsimp [h1])
      refine ADraw.simple follows (by kernel_rfl) (by kernel_rfl) ?_
      simp -dsimp [h1]
      repeat (refine chk.go (by first | omega | assumption | (simp_all; done) | (simp_all; omega)) ?_; try simp -dsimp [h1])
      refine abr.split (fun h3 => ?_) (fun h3 => ?_)
      · have q4 : ((i : Int) < d) := by first | exact h3 | omega | (simpa using h3) | (simp at h3 ⊢; omega) | simp_all
        rw [if_pos q4] at hF
        have hF := ob hF; obtain ⟨x, e5, hF⟩ := hF
        have le5 := lt_of_get e5
        have hF := ob hF; obtain ⟨x6, e7a, hF⟩ := hF
        have e7a := at_some e7a; obtain ⟨ne7, e7⟩ := e7a
        have le7 := lt_of_get e7
        simp -dsimp [h1, h3, ↓e5, ↓e7]
        repeat (refine chk.go (by first | omega | assumption | (simp_all; done) | (simp_all; omega)) ?_; try simp -dsimp [h1, h3, ↓e5, ↓e7])
        refine abr.split (fun h8 => ?_) (fun h8 => ?_)
        · have q9 : (x.name.toList = x6.name.toList) := by first | exact h8 | omega | (simpa using h8) | (simp at h8 ⊢; omega) | simp_all
          rw [if_pos q9] at hF
          cases hF
          simp -dsimp [h1, h3, ↓e5, ↓e7, h8]
          repeat (refine chk.go (by first | omega | assumption | (simp_all; done) | (simp_all; omega)) ?_; try simp -dsimp [h1, h3, ↓e5, ↓e7, h8])
          refine Leave.go _ (Gh.refl _) (hq _ ?_)
          simp -dsimp [h1, h3, ↓e5, ↓e7, h8]
          repeat (refine chk.go (by first | omega | assumption | (simp_all; done) | (simp_all; omega)) ?_; try simp -dsimp [h1, h3, ↓e5, ↓e7, h8])
        · have q9 : ¬ (x.name.toList = x6.name.toList) := by first | exact h8 | omega | (simpa using h8) | (simp at h8 ⊢; omega) | simp_all
          rw [if_neg q9] at hF
          simp -dsimp [h1, h3, ↓e5, ↓e7, h8, q9]
          repeat (refine chk.go (by first | omega | assumption | (simp_all; done) | (simp_all; omega)) ?_; try simp -dsimp [h1, h3, ↓e5, ↓e7, h8, q9])
          have hF := ob hF; obtain ⟨o', ho47, hF⟩ := hF
          refine ALoop.goU ⟨[(0, .arr (List.map Vl.Data.c w)), (1, .lit (.int .i64 d)), (2, .lit (.int .i64 k)), (7, .lit (.int .i64 (i : Int))), (8, .lit (.int .i64 (0 : Int)))], []⟩ (Gh.to (by simp) (by first | (simp -dsimp; done) | (simp -dsimp [h1, h3, ↓e5, ↓e7, h8, q9]; done) | simp_all) (by first | (simp -dsimp; done) | (simp -dsimp [h1, h3, ↓e5, ↓e7, h8, q9]; done) | simp_all) (by first | (simp -dsimp; done) | (simp -dsimp [h1, h3, ↓e5, ↓e7, h8, q9]; done) | simp_all)) ?_
          refine (C.spec_l1Twice_l2 B hB1 hB2 w d k i 0 o' ho47) _ rfl _ ?_
          rcases o' with r0 | s
          · dsimp only at hF
            cases hF
            intro st h
            simp -dsimp
            refine Leave.go st (Gh.refl _) (hq st h)
          · dsimp only at hF
            have hF := oc hF; obtain ⟨c48, hF⟩ := hF
            have w49 : IntKind.i64.wrap ((i : Int) + 1) = (i : Int) + 1 := wrap_in (by omega) (by omega)
            simp -dsimp [w49]
            repeat (refine chk.go (by first | omega | assumption | (simp_all; done) | (simp_all; omega)) ?_; try simp -dsimp [w49])
            refine Again.go ⟨[(0, .arr (List.map Vl.Data.c w)), (1, .lit (.int .i64 d)), (2, .lit (.int .i64 k)), (7, .lit (.int .i64 ((i + 1) : Int)))], []⟩ (Gh.to (by simp) (by first | (simp -dsimp; done) | (simp -dsimp [w49]; done) | simp_all) (by first | (simp -dsimp; done) | (simp -dsimp [w49]; done) | simp_all) (by first | (simp -dsimp; done) | (simp -dsimp [w49]; done) | simp_all)) ?_
            exact (ih_spec_l1Twice_l1 (i + 1) o hF) _ rfl _ hq
      · have q4 : ¬ ((i : Int) < d) := by first | exact h3 | omega | (simpa using h3) | (simp at h3 ⊢; omega) | simp_all
        rw [if_neg q4] at hF
        simp -dsimp [h1, h3, q4]
        repeat (refine chk.go (by first | omega | assumption | (simp_all; done) | (simp_all; omega)) ?_; try simp -dsimp [h1, h3, q4])
        have hF := ob hF; obtain ⟨o'89, ho88, hF⟩ := hF
        refine ALoop.goU ⟨[(0, .arr (List.map Vl.Data.c w)), (1, .lit (.int .i64 d)), (2, .lit (.int .i64 k)), (7, .lit (.int .i64 (i : Int))), (8, .lit (.int .i64 (0 : Int)))], []⟩ (Gh.to (by simp) (by first | (simp -dsimp; done) | (simp -dsimp [h1, h3, q4]; done) | simp_all) (by first | (simp -dsimp; done) | (simp -dsimp [h1, h3, q4]; done) | simp_all) (by first | (simp -dsimp; done) | (simp -dsimp [h1, h3, q4]; done) | simp_all)) ?_
        refine (C.spec_l1Twice_l3 B hB1 hB2 w d k i 0 o'89 ho88) _ rfl _ ?_
        rcases o'89 with r093 | s90
        · dsimp only at hF
          cases hF
          intro st h
          simp -dsimp
          refine Leave.go st (Gh.refl _) (hq st h)
        · dsimp only at hF
          have hF := oc hF; obtain ⟨c91, hF⟩ := hF
          have w92 : IntKind.i64.wrap ((i : Int) + 1) = (i : Int) + 1 := wrap_in (by omega) (by omega)
          simp -dsimp [w92]
          repeat (refine chk.go (by first | omega | assumption | (simp_all; done) | (simp_all; omega)) ?_; try simp -dsimp [w92])
          refine Again.go ⟨[(0, .arr (List.map Vl.Data.c w)), (1, .lit (.int .i64 d)), (2, .lit (.int .i64 k)), (7, .lit (.int .i64 ((i + 1) : Int)))], []⟩ (Gh.to (by simp) (by first | (simp -dsimp; done) | (simp -dsimp [w92]; done) | simp_all) (by first | (simp -dsimp; done) | (simp -dsimp [w92]; done) | simp_all) (by first | (simp -dsimp; done) | (simp -dsimp [w92]; done) | simp_all)) ?_
          exact (ih_spec_l1Twice_l1 (i + 1) o hF) _ rfl _ hq
    · have q2 : ¬ ((i : Int) ≤ d) := by first | exact h1 | omega | (simpa using h1) | (simp at h1 ⊢; omega) | simp_all
      rw [if_neg q2] at hF
      cases hF
      simp -dsimp [h1, q2]
      repeat (refine chk.go (by first | omega | assumption | (simp_all; done) | (simp_all; omega)) ?_; try simp -dsimp [h1, q2])
      refine Leave.go ⟨[], []⟩ (Gh.to (by simp) (by first | (simp -dsimp; done) | (simp -dsimp [h1, q2]; done) | simp_all) (by first | (simp -dsimp; done) | (simp -dsimp [h1, q2]; done) | simp_all) (by first | (simp -dsimp; done) | (simp -dsimp [h1, q2]; done) | simp_all)) ?_
      exact hq

theorem C.spec_l1Twice_l1 (B : Nat) (hB1 : 67108864 ≤ B) (hB2 : B ≤ 9223372036854775807) (w : List Vl.Data) (d : Int) (k : Int) (i : Nat) (o : Lo Bool Unit) (hF : F.spec_l1Twice_l1 w d k i = some o) : ∀ (c : Code), navO [1, 0, 1, 0, 0] (bodyOf Try.f195) = some c → ∀ (Q : Exit → ASt → Prop), o.post (fun r => ∀ st, Post Try.prog Try.f195 (fun r' _ => r'.le (.lit (.bool r))) .ret st → Q .ret st) (fun s => Q (.exit 0) ⟨[], []⟩) → ALoopU Try.prog B 0 79 (hold c .mk) ⟨[(0, .arr (List.map Vl.Data.c w)), (1, .lit (.int .i64 d)), (2, .lit (.int .i64 k)), (7, .lit (.int .i64 (i : Int)))], []⟩ (hold Q .mk) :=
  (CC.spec_l1Twice_l1 B hB1 hB2 w d k) i o hF

set_option maxRecDepth 100000 in
set_option maxHeartbeats 400000 in
theorem C.spec_l1Twice (B : Nat) (hB1 : 67108864 ≤ B) (hB2 : B ≤ 9223372036854775807) (w : List Vl.Data) (d : Int) (k : Int) (r : Bool) (hF : F.spec_l1Twice w d k = some r) : PureCall Try.prog B 195 [.arr (List.map Vl.Data.c w), .lit (.int .i64 d), .lit (.int .i64 k)] (.lit (.bool r)) := by
  unfold F.spec_l1Twice at hF
  refine PureCall.enterLe Try.func195 (by kernel_rfl) rfl Try.ntmps195 (by simp) (by simp) ?_
  simp -dsimp
  repeat (refine chk.go (by first | omega | assumption | (simp_all; done) | (simp_all; omega)) ?_; try simp -dsimp)
  have hF := ob hF; obtain ⟨o'95, ho94, hF⟩ := hF
  refine ALoop.goU ⟨[(0, .arr (List.map Vl.Data.c w)), (1, .lit (.int .i64 d)), (2, .lit (.int .i64 k)), (7, .lit (.int .i64 (0 : Int)))], []⟩ (Gh.to (by simp) (by simp -dsimp) (by simp -dsimp) (by simp -dsimp)) ?_
  refine (C.spec_l1Twice_l1 B hB1 hB2 w d k 0 o'95 ho94) _ rfl _ ?_
  rcases o'95 with r097 | s96
  · dsimp only at hF
    cases hF
    intro st h
    simpa using h
  · dsimp only at hF
    cases hF
    simp -dsimp
    repeat (refine chk.go (by first | omega | assumption | (simp_all; done) | (simp_all; omega)) ?_; try simp -dsimp)
    all_goals (try omega)

set_option maxRecDepth 100000 in
set_option maxHeartbeats 400000 in
theorem CC.spec_WorldValid_l2 (B : Nat) (hB1 : 67108864 ≤ B) (hB2 : B ≤ 9223372036854775807) (w : List Vl.Data) (d : Nat) : (∀ (k : Nat) (o : Lo Bool Unit), F.spec_WorldValid_l2 w d k = some o → ∀ (c : Code), navO [1, 1, 0, 1, 0, 0, 1, 0, 0, 1, 1, 0, 0] (bodyOf Try.f157) = some c → ∀ (Q : Exit → ASt → Prop), o.post (fun r => ∀ st, Post Try.prog Try.f157 (fun r' _ => r'.le (.lit (.bool r))) .ret st → Q .ret st) (fun s => Q (.exit 2) ⟨[(0, .arr (List.map Vl.Data.c w)), (3, .lit (.int .i64 (d : Int)))], []⟩) → ALoopU Try.prog B 0 67 (hold c .mk) ⟨[(0, .arr (List.map Vl.Data.c w)), (3, .lit (.int .i64 (d : Int))), (4, .lit (.int .i64 (k : Int)))], []⟩ (hold Q .mk)) := by
  refine F.spec_WorldValid_l2.partial_correctness w d
    (fun k o => ∀ (c : Code), navO [1, 1, 0, 1, 0, 0, 1, 0, 0, 1, 1, 0, 0] (bodyOf Try.f157) = some c → ∀ (Q : Exit → ASt → Prop), o.post (fun r => ∀ st, Post Try.prog Try.f157 (fun r' _ => r'.le (.lit (.bool r))) .ret st → Q .ret st) (fun s => Q (.exit 2) ⟨[(0, .arr (List.map Vl.Data.c w)), (3, .lit (.int .i64 (d : Int)))], []⟩) → ALoopU Try.prog B 0 67 (hold c .mk) ⟨[(0, .arr (List.map Vl.Data.c w)), (3, .lit (.int .i64 (d : Int))), (4, .lit (.int .i64 (k : Int)))], []⟩ (hold Q .mk))
    ?_
  · intro _f_spec_WorldValid_l2 ih_spec_WorldValid_l2 k o hF
    intro c hc Q hq
    obtain rfl : c = _ := navEq hc rfl
    refine ALoopU.know fun hk hs => ?_
    have b0 := hk 0
    simp -dsimp at b0
    clear hk hs
    refine ALoopU.enter ?_
    have hF := ob hF; obtain ⟨x17, e18, hF⟩ := hF
    have le18 := lt_of_get e18
    simp -dsimp [↓e18]
    repeat (refine chk.go (by first | omega | assumption | (simp_all; done) | (simp_all; omega)) ?_; try simp -dsimp [↓e18])
    refine abr.split (fun h19 => ?_) (fun h19 => ?_)
    · have q20 : (k < x17.ctors.length) := by first | exact h19 | omega | (simpa using h19) | (simp at h19 ⊢; omega) | simp_all
      have z21 : ((k : Int) < (x17.ctors.length : Int)) := by first | omega | simp_all
      rw [if_pos q20] at hF
      have hF := ob hF; obtain ⟨x22, e23, hF⟩ := hF
      have le23 := lt_of_get e23
      simp -dsimp [↓e18, h19, z21, ↓e23]
      repeat (refine chk.go (by first | omega | assumption | (simp_all; done) | (simp_all; omega)) ?_; try simp -dsimp [↓e18, h19, z21, ↓e23])
      have hF := ob hF; obtain ⟨v24, e25, hF⟩ := hF
      refine ((C.spec_l1Ctor B hB1 hB2 (w.length : Int) x22 v24 e25)).goW (by first | (simp; done) | (simp [↓e18, h19, z21, ↓e23]; done) | simp_all) (by simp) ?_
      simp -dsimp [↓e18, h19, z21, ↓e23]
      repeat (refine chk.go (by first | omega | assumption | (simp_all; done) | (simp_all; omega)) ?_; try simp -dsimp [↓e18, h19, z21, ↓e23])
      refine abr.split (fun h26 => ?_) (fun h26 => ?_)
      · have q27 : (v24 = true) := by first | exact h26 | omega | (simpa using h26) | (simp at h26 ⊢; omega) | simp_all
        rw [if_pos q27] at hF
        simp -dsimp [↓e18, h19, z21, ↓e23, h26]
        repeat (refine chk.go (by first | omega | assumption | (simp_all; done) | (simp_all; omega)) ?_; try simp -dsimp [↓e18, h19, z21, ↓e23, h26])
        have hF := ob hF; obtain ⟨v28, e29, hF⟩ := hF
        refine ((C.spec_l1Twice B hB1 hB2 w (d : Int) (k : Int) v28 e29)).goW (by first | (simp; done) | (simp [↓e18, h19, z21, ↓e23, h26]; done) | simp_all) (by simp) ?_
        simp -dsimp [↓e18, h19, z21, ↓e23, h26]
        repeat (refine chk.go (by first | omega | assumption | (simp_all; done) | (simp_all; omega)) ?_; try simp -dsimp [↓e18, h19, z21, ↓e23, h26])
        refine abr.split (fun h30 => ?_) (fun h30 => ?_)
        · have q31 : (v28 = true) := by first | exact h30 | omega | (simpa using h30) | (simp at h30 ⊢; omega) | simp_all
          rw [if_pos q31] at hF
          cases hF
          simp -dsimp [↓e18, h19, z21, ↓e23, h26, h30]
          repeat (refine chk.go (by first | omega | assumption | (simp_all; done) | (simp_all; omega)) ?_; try simp -dsimp [↓e18, h19, z21, ↓e23, h26, h30])
          refine Leave.go _ (Gh.refl _) (hq _ ?_)
          simp -dsimp [↓e18, h19, z21, ↓e23, h26, h30]
          repeat (refine chk.go (by first | omega | assumption | (simp_all; done) | (simp_all; omega)) ?_; try simp -dsimp [↓e18, h19, z21, ↓e23, h26, h30])
        · have q31 : ¬ (v28 = true) := by first | exact h30 | omega | (simpa using h30) | (simp at h30 ⊢; omega) | simp_all
          rw [if_neg q31] at hF
          have hF := oc hF; obtain ⟨c32, hF⟩ := hF
          have w33 : IntKind.i64.wrap ((k : Int) + 1) = (k : Int) + 1 := wrap_in (by omega) (by omega)
          simp -dsimp [↓e18, h19, z21, ↓e23, h26, h30, q31, w33]
          repeat (refine chk.go (by first | omega | assumption | (simp_all; done) | (simp_all; omega)) ?_; try simp -dsimp [↓e18, h19, z21, ↓e23, h26, h30, q31, w33])
          refine Again.go ⟨[(0, .arr (List.map Vl.Data.c w)), (3, .lit (.int .i64 (d : Int))), (4, .lit (.int .i64 ((k + 1) : Int)))], []⟩ (Gh.to (by simp) (by first | (simp -dsimp; done) | (simp -dsimp [↓e18, h19, z21, ↓e23, h26, h30, q31, w33]; done) | simp_all) (by first | (simp -dsimp; done) | (simp -dsimp [↓e18, h19, z21, ↓e23, h26, h30, q31, w33]; done) | simp_all) (by first | (simp -dsimp; done) | (simp -dsimp [↓e18, h19, z21, ↓e23, h26, h30, q31, w33]; done) | simp_all)) ?_
          exact (ih_spec_WorldValid_l2 (k + 1) o hF) _ rfl _ hq
      · have q27 : ¬ (v24 = true) := by first | exact h26 | omega | (simpa using h26) | (simp at h26 ⊢; omega) | simp_all
        rw [if_neg q27] at hF
        cases hF
        simp -dsimp [↓e18, h19, z21, ↓e23, h26, q27]
        repeat (refine chk.go (by first | omega | assumption | (simp_all; done) | (simp_all; omega)) ?_; try simp -dsimp [↓e18, h19, z21, ↓e23, h26, q27])
        refine Leave.go _ (Gh.refl _) (hq _ ?_)
        simp -dsimp [↓e18, h19, z21, ↓e23, h26, q27]
        repeat (refine chk.go (by first | omega | assumption | (simp_all; done) | (simp_all; omega)) ?_; try simp -dsimp [↓e18, h19, z21, ↓e23, h26, q27])
    · have q20 : ¬ (k < x17.ctors.length) := by first | exact h19 | omega | (simpa using h19) | (simp at h19 ⊢; omega) | simp_all
      have z21 : ¬ ((k : Int) < (x17.ctors.length : Int)) := by first | omega | simp_all
      rw [if_neg q20] at hF
      cases hF
      simp -dsimp [↓e18, h19, q20, z21]
      repeat (refine chk.go (by first | omega | assumption | (simp_all; done) | (simp_all; omega)) ?_; try simp -dsimp [↓e18, h19, q20, z21])
      refine Leave.go ⟨[(0, .arr (List.map Vl.Data.c w)), (3, .lit (.int .i64 (d : Int)))], []⟩ (Gh.to (by simp) (by first | (simp -dsimp; done) | (simp -dsimp [↓e18, h19, q20, z21]; done) | simp_all) (by first | (simp -dsimp; done) | (simp -dsimp [↓e18, h19, q20, z21]; done) | simp_all) (by first | (simp -dsimp; done) | (simp -dsimp [↓e18, h19, q20, z21]; done) | simp_all)) ?_
      exact hq

theorem C.spec_WorldValid_l2 (B : Nat) (hB1 : 67108864 ≤ B) (hB2 : B ≤ 9223372036854775807) (w : List Vl.Data) (d : Nat) (k : Nat) (o : Lo Bool Unit) (hF : F.spec_WorldValid_l2 w d k = some o) : ∀ (c : Code), navO [1, 1, 0, 1, 0, 0, 1, 0, 0, 1, 1, 0, 0] (bodyOf Try.f157) = some c → ∀ (Q : Exit → ASt → Prop), o.post (fun r => ∀ st, Post Try.prog Try.f157 (fun r' _ => r'.le (.lit (.bool r))) .ret st → Q .ret st) (fun s => Q (.exit 2) ⟨[(0, .arr (List.map Vl.Data.c w)), (3, .lit (.int .i64 (d : Int)))], []⟩) → ALoopU Try.prog B 0 67 (hold c .mk) ⟨[(0, .arr (List.map Vl.Data.c w)), (3, .lit (.int .i64 (d : Int))), (4, .lit (.int .i64 (k : Int)))], []⟩ (hold Q .mk) :=
  (CC.spec_WorldValid_l2 B hB1 hB2 w d) k o hF

set_option maxRecDepth 100000 in
set_option maxHeartbeats 400000 in
theorem CC.spec_WorldValid_l1 (B : Nat) (hB1 : 67108864 ≤ B) (hB2 : B ≤ 9223372036854775807) (w : List Vl.Data) : (∀ (d : Nat) (o : Lo Bool Unit), F.spec_WorldValid_l1 w d = some o → ∀ (c : Code), navO [1, 1, 0, 1, 0, 0] (bodyOf Try.f157) = some c → ∀ (Q : Exit → ASt → Prop), o.post (fun r => ∀ st, Post Try.prog Try.f157 (fun r' _ => r'.le (.lit (.bool r))) .ret st → Q .ret st) (fun s => Q (.exit 0) ⟨[], []⟩) → ALoopU Try.prog B 0 67 (hold c .mk) ⟨[(0, .arr (List.map Vl.Data.c w)), (3, .lit (.int .i64 (d : Int)))], []⟩ (hold Q .mk)) := by
  refine F.spec_WorldValid_l1.partial_correctness w
    (fun d o => ∀ (c : Code), navO [1, 1, 0, 1, 0, 0] (bodyOf Try.f157) = some c → ∀ (Q : Exit → ASt → Prop), o.post (fun r => ∀ st, Post Try.prog Try.f157 (fun r' _ => r'.le (.lit (.bool r))) .ret st → Q .ret st) (fun s => Q (.exit 0) ⟨[], []⟩) → ALoopU Try.prog B 0 67 (hold c .mk) ⟨[(0, .arr (List.map Vl.Data.c w)), (3, .lit (.int .i64 (d : Int)))], []⟩ (hold Q .mk))
    ?_
  · intro _f_spec_WorldValid_l1 ih_spec_WorldValid_l1 d o hF
    intro c hc Q hq
    obtain rfl : c = _ := navEq hc rfl
    refine ALoopU.know fun hk hs => ?_
    have b0 := hk 0
    simp -dsimp at b0
    clear hk hs
    refine ALoopU.enter ?_
    simp -dsimp
    repeat (refine chk.go (by first | omega | assumption | (simp_all; done) | (simp_all; omega)) ?_; try simp -dsimp)
    refine abr.split (fun h4 => ?_) (fun h4 => ?_)
    · have q5 : (d < w.length) := by first | exact h4 | omega | (simpa using h4) | (simp at h4 ⊢; omega) | simp_all
      have z6 : ((d : Int) < (w.length : Int)) := by first | omega | simp_all
      rw [if_pos q5] at hF
      have hF := ob hF; obtain ⟨x, e7, hF⟩ := hF
      have le7 := lt_of_get e7
      simp -dsimp [h4, z6, ↓e7]
      repeat (refine chk.go (by first | omega | assumption | (simp_all; done) | (simp_all; omega)) ?_; try simp -dsimp [h4, z6, ↓e7])
      have hF := ob hF; obtain ⟨v, e8, hF⟩ := hF
      refine ((C.spec_l1Data B hB1 hB2 x.name v e8)).goW (by first | (simp; done) | (simp [h4, z6, ↓e7]; done) | simp_all) (by simp) ?_
      simp -dsimp [h4, z6, ↓e7]
      repeat (refine chk.go (by first | omega | assumption | (simp_all; done) | (simp_all; omega)) ?_; try simp -dsimp [h4, z6, ↓e7])
      refine abr.split (fun h9 => ?_) (fun h9 => ?_)
      · have q10 : (v = true) := by first | exact h9 | omega | (simpa using h9) | (simp at h9 ⊢; omega) | simp_all
        rw [if_pos q10] at hF
        simp -dsimp [h4, z6, ↓e7, h9]
        repeat (refine chk.go (by first | omega | assumption | (simp_all; done) | (simp_all; omega)) ?_; try simp -dsimp [h4, z6, ↓e7, h9])
        refine abr.split (fun h11 => ?_) (fun h11 => ?_)
        · have q12 : ¬ (x.ctors.length = 0) := by first | exact h11 | omega | (simpa using h11) | (simp at h11 ⊢; omega) | simp_all
          have z13 : ¬ ((x.ctors.length : Int) = (0 : Int)) := by first | omega | simp_all
          rw [if_neg q12] at hF
          simp -dsimp [h4, z6, ↓e7, h9, h11, q12, z13]
          repeat (refine chk.go (by first | omega | assumption | (simp_all; done) | (simp_all; omega)) ?_; try simp -dsimp [h4, z6, ↓e7, h9, h11, q12, z13])
          refine abr.split (fun h14 => ?_) (fun h14 => ?_)
          · have q15 : (4 < x.ctors.length) := by first | exact h14 | omega | (simpa using h14) | (simp at h14 ⊢; omega) | simp_all
            have z16 : ((4 : Int) < (x.ctors.length : Int)) := by first | omega | simp_all
            rw [if_pos q15] at hF
            cases hF
            simp -dsimp [h4, z6, ↓e7, h9, h11, q12, z13, h14, z16]
            repeat (refine chk.go (by first | omega | assumption | (simp_all; done) | (simp_all; omega)) ?_; try simp -dsimp [h4, z6, ↓e7, h9, h11, q12, z13, h14, z16])
            refine Leave.go _ (Gh.refl _) (hq _ ?_)
            simp -dsimp [h4, z6, ↓e7, h9, h11, q12, z13, h14, z16]
            repeat (refine chk.go (by first | omega | assumption | (simp_all; done) | (simp_all; omega)) ?_; try simp -dsimp [h4, z6, ↓e7, h9, h11, q12, z13, h14, z16])
          · have q15 : ¬ (4 < x.ctors.length) := by first | exact h14 | omega | (simpa using h14) | (simp at h14 ⊢; omega) | simp_all
            have z16 : ¬ ((4 : Int) < (x.ctors.length : Int)) := by first | omega | simp_all
            rw [if_neg q15] at hF
            simp -dsimp [h4, z6, ↓e7, h9, h11, q12, z13, h14, q15, z16]
            repeat (refine chk.go (by first | omega | assumption | (simp_all; done) | (simp_all; omega)) ?_; try simp -dsimp [h4, z6, ↓e7, h9, h11, q12, z13, h14, q15, z16])
            have hF := ob hF; obtain ⟨o', ho34, hF⟩ := hF
            refine ALoop.goU ⟨[(0, .arr (List.map Vl.Data.c w)), (3, .lit (.int .i64 (d : Int))), (4, .lit (.int .i64 (0 : Int)))], []⟩ (Gh.to (by simp) (by first | (simp -dsimp; done) | (simp -dsimp [h4, z6, ↓e7, h9, h11, q12, z13, h14, q15, z16]; done) | simp_all) (by first | (simp -dsimp; done) | (simp -dsimp [h4, z6, ↓e7, h9, h11, q12, z13, h14, q15, z16]; done) | simp_all) (by first | (simp -dsimp; done) | (simp -dsimp [h4, z6, ↓e7, h9, h11, q12, z13, h14, q15, z16]; done) | simp_all)) ?_
            refine (C.spec_WorldValid_l2 B hB1 hB2 w d 0 o' ho34) _ rfl _ ?_
            rcases o' with r0 | s
            · dsimp only at hF
              cases hF
              intro st h
              simp -dsimp
              refine Leave.go st (Gh.refl _) (hq st h)
            · dsimp only at hF
              have hF := oc hF; obtain ⟨c35, hF⟩ := hF
              have w36 : IntKind.i64.wrap ((d : Int) + 1) = (d : Int) + 1 := wrap_in (by omega) (by omega)
              simp -dsimp [w36]
              repeat (refine chk.go (by first | omega | assumption | (simp_all; done) | (simp_all; omega)) ?_; try simp -dsimp [w36])
              refine Again.go ⟨[(0, .arr (List.map Vl.Data.c w)), (3, .lit (.int .i64 ((d + 1) : Int)))], []⟩ (Gh.to (by simp) (by first | (simp -dsimp; done) | (simp -dsimp [w36]; done) | simp_all) (by first | (simp -dsimp; done) | (simp -dsimp [w36]; done) | simp_all) (by first | (simp -dsimp; done) | (simp -dsimp [w36]; done) | simp_all)) ?_
              exact (ih_spec_WorldValid_l1 (d + 1) o hF) _ rfl _ hq
        · have q12 : (x.ctors.length = 0) := by first | exact h11 | omega | (simpa using h11) | (simp at h11 ⊢; omega) | simp_all
          have z13 : ((x.ctors.length : Int) = (0 : Int)) := by first | omega | simp_all
          rw [if_pos q12] at hF
          cases hF
          simp -dsimp [h4, z6, ↓e7, h9, h11, q12, z13]
          repeat (refine chk.go (by first | omega | assumption | (simp_all; done) | (simp_all; omega)) ?_; try simp -dsimp [h4, z6, ↓e7, h9, h11, q12, z13])
          refine Leave.go _ (Gh.refl _) (hq _ ?_)
          simp -dsimp [h4, z6, ↓e7, h9, h11, q12, z13]
          repeat (refine chk.go (by first | omega | assumption | (simp_all; done) | (simp_all; omega)) ?_; try simp -dsimp [h4, z6, ↓e7, h9, h11, q12, z13])
      · have q10 : ¬ (v = true) := by first | exact h9 | omega | (simpa using h9) | (simp at h9 ⊢; omega) | simp_all
        rw [if_neg q10] at hF
        cases hF
        simp -dsimp [h4, z6, ↓e7, h9, q10]
        repeat (refine chk.go (by first | omega | assumption | (simp_all; done) | (simp_all; omega)) ?_; try simp -dsimp [h4, z6, ↓e7, h9, q10])
        refine Leave.go _ (Gh.refl _) (hq _ ?_)
        simp -dsimp [h4, z6, ↓e7, h9, q10]
        repeat (refine chk.go (by first | omega | assumption | (simp_all; done) | (simp_all; omega)) ?_; try simp -dsimp [h4, z6, ↓e7, h9, q10])
    · have q5 : ¬ (d < w.length) := by first | exact h4 | omega | (simpa using h4) | (simp at h4 ⊢; omega) | simp_all
      have z6 : ¬ ((d : Int) < (w.length : Int)) := by first | omega | simp_all
      rw [if_neg q5] at hF
      cases hF
      simp -dsimp [h4, q5, z6]
      repeat (refine chk.go (by first | omega | assumption | (simp_all; done) | (simp_all; omega)) ?_; try simp -dsimp [h4, q5, z6])
      refine Leave.go ⟨[], []⟩ (Gh.to (by simp) (by first | (simp -dsimp; done) | (simp -dsimp [h4, q5, z6]; done) | simp_all) (by first | (simp -dsimp; done) | (simp -dsimp [h4, q5, z6]; done) | simp_all) (by first | (simp -dsimp; done) | (simp -dsimp [h4, q5, z6]; done) | simp_all)) ?_
      exact hq

theorem C.spec_WorldValid_l1 (B : Nat) (hB1 : 67108864 ≤ B) (hB2 : B ≤ 9223372036854775807) (w : List Vl.Data) (d : Nat) (o : Lo Bool Unit) (hF : F.spec_WorldValid_l1 w d = some o) : ∀ (c : Code), navO [1, 1, 0, 1, 0, 0] (bodyOf Try.f157) = some c → ∀ (Q : Exit → ASt → Prop), o.post (fun r => ∀ st, Post Try.prog Try.f157 (fun r' _ => r'.le (.lit (.bool r))) .ret st → Q .ret st) (fun s => Q (.exit 0) ⟨[], []⟩) → ALoopU Try.prog B 0 67 (hold c .mk) ⟨[(0, .arr (List.map Vl.Data.c w)), (3, .lit (.int .i64 (d : Int)))], []⟩ (hold Q .mk) :=
  (CC.spec_WorldValid_l1 B hB1 hB2 w) d o hF

set_option maxRecDepth 100000 in
set_option maxHeartbeats 400000 in
theorem C.spec_WorldValid (B : Nat) (hB1 : 67108864 ≤ B) (hB2 : B ≤ 9223372036854775807) (w : List Vl.Data) (r : Bool) (hF : F.spec_WorldValid w = some r) : PureCall Try.prog B 157 [.arr (List.map Vl.Data.c w)] (.lit (.bool r)) := by
  unfold F.spec_WorldValid at hF
  refine PureCall.enterLe Try.func157 (by kernel_rfl) rfl Try.ntmps157 (by simp) (by simp) ?_
  simp -dsimp
  repeat (refine chk.go (by first | omega | assumption | (simp_all; done) | (simp_all; omega)) ?_; try simp -dsimp)
  refine abr.split (fun h1 => ?_) (fun h1 => ?_)
  · have q2 : (4 < w.length) := by first | exact h1 | omega | (simpa using h1) | (simp at h1 ⊢; omega) | simp_all
    have z3 : ((4 : Int) < (w.length : Int)) := by first | omega | simp_all
    rw [if_pos q2] at hF
    cases hF
    simp -dsimp [h1, z3]
    repeat (refine chk.go (by first | omega | assumption | (simp_all; done) | (simp_all; omega)) ?_; try simp -dsimp [h1, z3])
    all_goals (try omega)
  · have q2 : ¬ (4 < w.length) := by first | exact h1 | omega | (simpa using h1) | (simp at h1 ⊢; omega) | simp_all
    have z3 : ¬ ((4 : Int) < (w.length : Int)) := by first | omega | simp_all
    rw [if_neg q2] at hF
    simp -dsimp [h1, q2, z3]
    repeat (refine chk.go (by first | omega | assumption | (simp_all; done) | (simp_all; omega)) ?_; try simp -dsimp [h1, q2, z3])
    have hF := ob hF; obtain ⟨o'38, ho37, hF⟩ := hF
    refine ALoop.goU ⟨[(0, .arr (List.map Vl.Data.c w)), (3, .lit (.int .i64 (0 : Int)))], []⟩ (Gh.to (by simp) (by first | (simp -dsimp; done) | (simp -dsimp [h1, q2, z3]; done) | simp_all) (by first | (simp -dsimp; done) | (simp -dsimp [h1, q2, z3]; done) | simp_all) (by first | (simp -dsimp; done) | (simp -dsimp [h1, q2, z3]; done) | simp_all)) ?_
    refine (C.spec_WorldValid_l1 B hB1 hB2 w 0 o'38 ho37) _ rfl _ ?_
    rcases o'38 with r040 | s39
    · dsimp only at hF
      cases hF
      intro st h
      simpa using h
    · dsimp only at hF
      cases hF
      simp -dsimp
      repeat (refine chk.go (by first | omega | assumption | (simp_all; done) | (simp_all; omega)) ?_; try simp -dsimp)
      all_goals (try omega)

set_option maxRecDepth 100000 in
set_option maxHeartbeats 400000 in
theorem C.spec_l1Is (B : Nat) (hB1 : 67108864 ≤ B) (hB2 : B ≤ 9223372036854775807) (w : List Vl.Data) (t : Vl.Ty) (r : Bool) (hF : F.spec_l1Is w t = some r) : PureCall Try.prog B 158 [.arr (List.map Vl.Data.c w), .agg [.lit (.int .i64 t.data), .lit (.int .i64 t.index)]] (.lit (.bool r)) := by
  unfold F.spec_l1Is at hF
  refine PureCall.enterLe Try.func158 (by kernel_rfl) rfl Try.ntmps158 (by simp) (by simp) ?_
  simp -dsimp
  repeat (refine chk.go (by first | omega | assumption | (simp_all; done) | (simp_all; omega)) ?_; try simp -dsimp)
  have hF := ob hF; obtain ⟨v, e1, hF⟩ := hF
  refine ((C.spec_l1Arg B hB1 hB2 (w.length : Int) t v e1)).goW (by simp) (by simp) ?_
  simp -dsimp
  repeat (refine chk.go (by first | omega | assumption | (simp_all; done) | (simp_all; omega)) ?_; try simp -dsimp)
  refine abr.split (fun h2 => ?_) (fun h2 => ?_)
  · have q3 : (v = true) := by first | exact h2 | omega | (simpa using h2) | (simp at h2 ⊢; omega) | simp_all
    rw [if_pos q3] at hF
    cases hF
    simp -dsimp [h2]
    repeat (refine chk.go (by first | omega | assumption | (simp_all; done) | (simp_all; omega)) ?_; try simp -dsimp [h2])
    all_goals (try omega)
  · have q3 : ¬ (v = true) := by first | exact h2 | omega | (simpa using h2) | (simp at h2 ⊢; omega) | simp_all
    rw [if_neg q3] at hF
    cases hF
    simp -dsimp [h2, q3]
    repeat (refine chk.go (by first | omega | assumption | (simp_all; done) | (simp_all; omega)) ?_; try simp -dsimp [h2, q3])
    all_goals (try omega)

set_option maxRecDepth 100000 in
set_option maxHeartbeats 400000 in
theorem C.spec_TypeValid (B : Nat) (hB1 : 67108864 ≤ B) (hB2 : B ≤ 9223372036854775807) (w : List Vl.Data) (t : Vl.Ty) (r : Bool) (hF : F.spec_TypeValid w t = some r) : PureCall Try.prog B 113 [.arr (List.map Vl.Data.c w), .agg [.lit (.int .i64 t.data), .lit (.int .i64 t.index)]] (.lit (.bool r)) := by
  unfold F.spec_TypeValid at hF
  refine PureCall.enterLe Try.func113 (by kernel_rfl) rfl Try.ntmps113 (by simp) (by simp) ?_
  simp -dsimp
  repeat (refine chk.go (by first | omega | assumption | (simp_all; done) | (simp_all; omega)) ?_; try simp -dsimp)
  have hF := ob hF; obtain ⟨v, e1, hF⟩ := hF
  refine ((C.spec_WorldValid B hB1 hB2 w v e1)).goW (by simp) (by simp) ?_
  simp -dsimp
  repeat (refine chk.go (by first | omega | assumption | (simp_all; done) | (simp_all; omega)) ?_; try simp -dsimp)
  refine abr.split (fun h2 => ?_) (fun h2 => ?_)
  · have q3 : (v = true) := by first | exact h2 | omega | (simpa using h2) | (simp at h2 ⊢; omega) | simp_all
    rw [if_pos q3] at hF
    simp -dsimp [h2]
    repeat (refine chk.go (by first | omega | assumption | (simp_all; done) | (simp_all; omega)) ?_; try simp -dsimp [h2])
    have hF := ob hF; obtain ⟨v4, e5, hF⟩ := hF
    refine ((C.spec_l1Is B hB1 hB2 w t v4 e5)).goW (by first | (simp; done) | (simp [h2]; done) | simp_all) (by simp) ?_
    cases hF
    simp -dsimp [h2]
    repeat (refine chk.go (by first | omega | assumption | (simp_all; done) | (simp_all; omega)) ?_; try simp -dsimp [h2])
    all_goals (try omega)
  · have q3 : ¬ (v = true) := by first | exact h2 | omega | (simpa using h2) | (simp at h2 ⊢; omega) | simp_all
    rw [if_neg q3] at hF
    cases hF
    simp -dsimp [h2, q3]
    repeat (refine chk.go (by first | omega | assumption | (simp_all; done) | (simp_all; omega)) ?_; try simp -dsimp [h2, q3])
    all_goals (try omega)

set_option maxRecDepth 100000 in
set_option maxHeartbeats 400000 in
theorem CC.spec_l12Funs_l1 (B : Nat) (hB1 : 67108864 ≤ B) (hB2 : B ≤ 9223372036854775807) (w : List Vl.Data) (funs : List Vl.FunType) : (∀ (i : Nat) (o : Lo Bool Unit), F.spec_l12Funs_l1 w funs i = some o → ∀ (c : Code), navO [1, 0, 1, 0, 0] (bodyOf Try.f114) = some c → ∀ (Q : Exit → ASt → Prop), o.post (fun r => ∀ st, Post Try.prog Try.f114 (fun r' _ => r'.le (.lit (.bool r))) .ret st → Q .ret st) (fun s => Q (.exit 0) ⟨[(1, .arr (List.map Vl.FunType.c funs))], []⟩) → ALoopU Try.prog B 0 37 (hold c .mk) ⟨[(0, .arr (List.map Vl.Data.c w)), (1, .arr (List.map Vl.FunType.c funs)), (5, .lit (.int .i64 (i : Int)))], []⟩ (hold Q .mk)) := by
  refine F.spec_l12Funs_l1.partial_correctness w funs
    (fun i o => ∀ (c : Code), navO [1, 0, 1, 0, 0] (bodyOf Try.f114) = some c → ∀ (Q : Exit → ASt → Prop), o.post (fun r => ∀ st, Post Try.prog Try.f114 (fun r' _ => r'.le (.lit (.bool r))) .ret st → Q .ret st) (fun s => Q (.exit 0) ⟨[(1, .arr (List.map Vl.FunType.c funs))], []⟩) → ALoopU Try.prog B 0 37 (hold c .mk) ⟨[(0, .arr (List.map Vl.Data.c w)), (1, .arr (List.map Vl.FunType.c funs)), (5, .lit (.int .i64 (i : Int)))], []⟩ (hold Q .mk))
    ?_
  · intro _f_spec_l12Funs_l1 ih_spec_l12Funs_l1 i o hF
    intro c hc Q hq
    obtain rfl : c = _ := navEq hc rfl
    refine ALoopU.know fun hk hs => ?_
    have b0 := hk 0
    simp -dsimp at b0
    have b1 := hk 1
    simp -dsimp at b1
    clear hk hs
    refine ALoopU.enter ?_
    simp -dsimp
    repeat (refine chk.go (by first | omega | assumption | (simp_all; done) | (simp_all; omega)) ?_; try simp -dsimp)
    refine abr.split (fun h1 => ?_) (fun h1 => ?_)
    · have q2 : (i < funs.length) := by first | exact h1 | omega | (simpa using h1) | (simp at h1 ⊢; omega) | simp_all
      have z3 : ((i : Int) < (funs.length : Int)) := by first | omega | simp_all
      rw [if_pos q2] at hF
      simp -dsimp [h1, z3]
      repeat (refine chk.go (by first | omega | assumption | (simp_all; done) | (simp_all; omega)) ?_; try simp -dsimp [h1, z3])
      refine abr.split (fun h4 => ?_) (fun h4 => ?_)
      · have q5 : (i ≤ 4) := by first | exact h4 | omega | (simpa using h4) | (simp at h4 ⊢; omega) | simp_all
        have z6 : ((i : Int) ≤ (4 : Int)) := by first | omega | simp_all
        rw [if_pos q5] at hF
        have hF := ob hF; obtain ⟨x, e7, hF⟩ := hF
        have le7 := lt_of_get e7
        simp -dsimp [h1, z3, h4, z6, ↓e7]
        repeat (refine chk.go (by first | omega | assumption | (simp_all; done) | (simp_all; omega)) ?_; try simp -dsimp [h1, z3, h4, z6, ↓e7])
        have hF := ob hF; obtain ⟨v, e8, hF⟩ := hF
        refine ((C.spec_l1Is B hB1 hB2 w x.arg v e8)).goW (by first | (simp; done) | (simp [h1, z3, h4, z6, ↓e7]; done) | simp_all) (by simp) ?_
        simp -dsimp [h1, z3, h4, z6, ↓e7]
        repeat (refine chk.go (by first | omega | assumption | (simp_all; done) | (simp_all; omega)) ?_; try simp -dsimp [h1, z3, h4, z6, ↓e7])
        refine abr.split (fun h9 => ?_) (fun h9 => ?_)
        · have q10 : (v = true) := by first | exact h9 | omega | (simpa using h9) | (simp at h9 ⊢; omega) | simp_all
          rw [if_pos q10] at hF
          simp -dsimp [h1, z3, h4, z6, ↓e7, h9]
          repeat (refine chk.go (by first | omega | assumption | (simp_all; done) | (simp_all; omega)) ?_; try simp -dsimp [h1, z3, h4, z6, ↓e7, h9])
          have hF := ob hF; obtain ⟨v11, e12, hF⟩ := hF
          refine ((C.spec_l1Is B hB1 hB2 w x.res v11 e12)).goW (by first | (simp; done) | (simp [h1, z3, h4, z6, ↓e7, h9]; done) | simp_all) (by simp) ?_
          simp -dsimp [h1, z3, h4, z6, ↓e7, h9]
          repeat (refine chk.go (by first | omega | assumption | (simp_all; done) | (simp_all; omega)) ?_; try simp -dsimp [h1, z3, h4, z6, ↓e7, h9])
          refine abr.split (fun h13 => ?_) (fun h13 => ?_)
          · have q14 : ¬ (v11 = true) := by first | exact h13 | omega | (simpa using h13) | (simp at h13 ⊢; omega) | simp_all
            rw [if_neg q14] at hF
            cases hF
            simp -dsimp [h1, z3, h4, z6, ↓e7, h9, h13, q14]
            repeat (refine chk.go (by first | omega | assumption | (simp_all; done) | (simp_all; omega)) ?_; try simp -dsimp [h1, z3, h4, z6, ↓e7, h9, h13, q14])
            refine Leave.go _ (Gh.refl _) (hq _ ?_)
            simp -dsimp [h1, z3, h4, z6, ↓e7, h9, h13, q14]
            repeat (refine chk.go (by first | omega | assumption | (simp_all; done) | (simp_all; omega)) ?_; try simp -dsimp [h1, z3, h4, z6, ↓e7, h9, h13, q14])
          · have q14 : (v11 = true) := by first | exact h13 | omega | (simpa using h13) | (simp at h13 ⊢; omega) | simp_all
            rw [if_pos q14] at hF
            have w15 : IntKind.i64.wrap ((i : Int) + 1) = (i : Int) + 1 := wrap_in (by omega) (by omega)
            simp -dsimp [h1, z3, h4, z6, ↓e7, h9, h13, q14, w15]
            repeat (refine chk.go (by first | omega | assumption | (simp_all; done) | (simp_all; omega)) ?_; try simp -dsimp [h1, z3, h4, z6, ↓e7, h9, h13, q14, w15])
            refine Again.go ⟨[(0, .arr (List.map Vl.Data.c w)), (1, .arr (List.map Vl.FunType.c funs)), (5, .lit (.int .i64 ((i + 1) : Int)))], []⟩ (Gh.to (by simp) (by first | (simp -dsimp; done) | (simp -dsimp [h1, z3, h4, z6, ↓e7, h9, h13, q14, w15]; done) | simp_all) (by first | (simp -dsimp; done) | (simp -dsimp [h1, z3, h4, z6, ↓e7, h9, h13, q14, w15]; done) | simp_all) (by first | (simp -dsimp; done) | (simp -dsimp [h1, z3, h4, z6, ↓e7, h9, h13, q14, w15]; done) | simp_all)) ?_
            exact (ih_spec_l12Funs_l1 (i + 1) o hF) _ rfl _ hq
        · have q10 : ¬ (v = true) := by first | exact h9 | omega | (simpa using h9) | (simp at h9 ⊢; omega) | simp_all
          rw [if_neg q10] at hF
          cases hF
          simp -dsimp [h1, z3, h4, z6, ↓e7, h9, q10]
          repeat (refine chk.go (by first | omega | assumption | (simp_all; done) | (simp_all; omega)) ?_; try simp -dsimp [h1, z3, h4, z6, ↓e7, h9, q10])
          refine Leave.go _ (Gh.refl _) (hq _ ?_)
          simp -dsimp [h1, z3, h4, z6, ↓e7, h9, q10]
          repeat (refine chk.go (by first | omega | assumption | (simp_all; done) | (simp_all; omega)) ?_; try simp -dsimp [h1, z3, h4, z6, ↓e7, h9, q10])
      · have q5 : ¬ (i ≤ 4) := by first | exact h4 | omega | (simpa using h4) | (simp at h4 ⊢; omega) | simp_all
        have z6 : ¬ ((i : Int) ≤ (4 : Int)) := by first | omega | simp_all
        rw [if_neg q5] at hF
        cases hF
        simp -dsimp [h1, z3, h4, q5, z6]
        repeat (refine chk.go (by first | omega | assumption | (simp_all; done) | (simp_all; omega)) ?_; try simp -dsimp [h1, z3, h4, q5, z6])
        refine Leave.go ⟨[(1, .arr (List.map Vl.FunType.c funs))], []⟩ (Gh.to (by simp) (by first | (simp -dsimp; done) | (simp -dsimp [h1, z3, h4, q5, z6]; done) | simp_all) (by first | (simp -dsimp; done) | (simp -dsimp [h1, z3, h4, q5, z6]; done) | simp_all) (by first | (simp -dsimp; done) | (simp -dsimp [h1, z3, h4, q5, z6]; done) | simp_all)) ?_
        exact hq
    · have q2 : ¬ (i < funs.length) := by first | exact h1 | omega | (simpa using h1) | (simp at h1 ⊢; omega) | simp_all
      have z3 : ¬ ((i : Int) < (funs.length : Int)) := by first | omega | simp_all
      rw [if_neg q2] at hF
      cases hF
      simp -dsimp [h1, q2, z3]
      repeat (refine chk.go (by first | omega | assumption | (simp_all; done) | (simp_all; omega)) ?_; try simp -dsimp [h1, q2, z3])
      refine Leave.go ⟨[(1, .arr (List.map Vl.FunType.c funs))], []⟩ (Gh.to (by simp) (by first | (simp -dsimp; done) | (simp -dsimp [h1, q2, z3]; done) | simp_all) (by first | (simp -dsimp; done) | (simp -dsimp [h1, q2, z3]; done) | simp_all) (by first | (simp -dsimp; done) | (simp -dsimp [h1, q2, z3]; done) | simp_all)) ?_
      exact hq

theorem C.spec_l12Funs_l1 (B : Nat) (hB1 : 67108864 ≤ B) (hB2 : B ≤ 9223372036854775807) (w : List Vl.Data) (funs : List Vl.FunType) (i : Nat) (o : Lo Bool Unit) (hF : F.spec_l12Funs_l1 w funs i = some o) : ∀ (c : Code), navO [1, 0, 1, 0, 0] (bodyOf Try.f114) = some c → ∀ (Q : Exit → ASt → Prop), o.post (fun r => ∀ st, Post Try.prog Try.f114 (fun r' _ => r'.le (.lit (.bool r))) .ret st → Q .ret st) (fun s => Q (.exit 0) ⟨[(1, .arr (List.map Vl.FunType.c funs))], []⟩) → ALoopU Try.prog B 0 37 (hold c .mk) ⟨[(0, .arr (List.map Vl.Data.c w)), (1, .arr (List.map Vl.FunType.c funs)), (5, .lit (.int .i64 (i : Int)))], []⟩ (hold Q .mk) :=
  (CC.spec_l12Funs_l1 B hB1 hB2 w funs) i o hF

set_option maxRecDepth 100000 in
set_option maxHeartbeats 400000 in
theorem C.spec_l12Funs (B : Nat) (hB1 : 67108864 ≤ B) (hB2 : B ≤ 9223372036854775807) (w : List Vl.Data) (funs : List Vl.FunType) (r : Bool) (hF : F.spec_l12Funs w funs = some r) : PureCall Try.prog B 114 [.arr (List.map Vl.Data.c w), .arr (List.map Vl.FunType.c funs)] (.lit (.bool r)) := by
  unfold F.spec_l12Funs at hF
  refine PureCall.enterLe Try.func114 (by kernel_rfl) rfl Try.ntmps114 (by simp) (by simp) ?_
  simp -dsimp
  repeat (refine chk.go (by first | omega | assumption | (simp_all; done) | (simp_all; omega)) ?_; try simp -dsimp)
  have hF := ob hF; obtain ⟨o', ho16, hF⟩ := hF
  refine ALoop.goU ⟨[(0, .arr (List.map Vl.Data.c w)), (1, .arr (List.map Vl.FunType.c funs)), (5, .lit (.int .i64 (0 : Int)))], []⟩ (Gh.to (by simp) (by simp -dsimp) (by simp -dsimp) (by simp -dsimp)) ?_
  refine (C.spec_l12Funs_l1 B hB1 hB2 w funs 0 o' ho16) _ rfl _ ?_
  rcases o' with r0 | s
  · dsimp only at hF
    cases hF
    intro st h
    simpa using h
  · dsimp only at hF
    cases hF
    simp -dsimp
    repeat (refine chk.go (by first | omega | assumption | (simp_all; done) | (simp_all; omega)) ?_; try simp -dsimp)
    all_goals (try omega)

set_option maxRecDepth 100000 in
set_option maxHeartbeats 400000 in
theorem CC.spec_l3Find_l1 (B : Nat) (hB1 : 67108864 ≤ B) (hB2 : B ≤ 9223372036854775807) (list : List Vl.VarType) (n : Int) : (∀ (i : Nat) (o : Lo Int Unit), F.spec_l3Find_l1 list n i = some o → ∀ (c : Code), navO [1, 0, 1, 0, 0] (bodyOf Try.f159) = some c → ∀ (Q : Exit → ASt → Prop), o.post (fun r => ∀ st, Post Try.prog Try.f159 (fun r' _ => r'.le (.lit (.int .i64 r))) .ret st → Q .ret st) (fun s => Q (.exit 0) ⟨[], []⟩) → ALoopU Try.prog B 0 20 (hold c .mk) ⟨[(0, .arr (List.map Vl.VarType.c list)), (1, .lit (.int .i64 n)), (5, .lit (.int .i64 (i : Int)))], []⟩ (hold Q .mk)) := by
  refine F.spec_l3Find_l1.partial_correctness list n
    (fun i o => ∀ (c : Code), navO [1, 0, 1, 0, 0] (bodyOf Try.f159) = some c → ∀ (Q : Exit → ASt → Prop), o.post (fun r => ∀ st, Post Try.prog Try.f159 (fun r' _ => r'.le (.lit (.int .i64 r))) .ret st → Q .ret st) (fun s => Q (.exit 0) ⟨[], []⟩) → ALoopU Try.prog B 0 20 (hold c .mk) ⟨[(0, .arr (List.map Vl.VarType.c list)), (1, .lit (.int .i64 n)), (5, .lit (.int .i64 (i : Int)))], []⟩ (hold Q .mk))
    ?_
  · intro _f_spec_l3Find_l1 ih_spec_l3Find_l1 i o hF
    intro c hc Q hq
    obtain rfl : c = _ := navEq hc rfl
    refine ALoopU.know fun hk hs => ?_
    have b0 := hk 0
    simp -dsimp at b0
    clear hk hs
    refine ALoopU.enter ?_
    simp -dsimp
    repeat (refine chk.go (by first | omega | assumption | (simp_all; done) | (simp_all; omega)) ?_; try simp -dsimp)
    refine abr.split (fun h1 => ?_) (fun h1 => ?_)
    · have q2 : (i < list.length) := by first | exact h1 | omega | (simpa using h1) | (simp at h1 ⊢; omega) | simp_all
      have z3 : ((i : Int) < (list.length : Int)) := by first | omega | simp_all
      rw [if_pos q2] at hF
      have hF := ob hF; obtain ⟨x, e4, hF⟩ := hF
      have le4 := lt_of_get e4
      simp -dsimp [h1, z3, ↓e4]
      repeat (refine chk.go (by first | omega | assumption | (simp_all; done) | (simp_all; omega)) ?_; try simp -dsimp [h1, z3, ↓e4])
      refine abr.split (fun h5 => ?_) (fun h5 => ?_)
      · have q6 : (x.var = n) := by first | exact h5 | omega | (simpa using h5) | (simp at h5 ⊢; omega) | simp_all
        rw [if_pos q6] at hF
        cases hF
        simp -dsimp [h1, z3, ↓e4, h5]
        repeat (refine chk.go (by first | omega | assumption | (simp_all; done) | (simp_all; omega)) ?_; try simp -dsimp [h1, z3, ↓e4, h5])
        refine Leave.go _ (Gh.refl _) (hq _ ?_)
        simp -dsimp [h1, z3, ↓e4, h5]
        repeat (refine chk.go (by first | omega | assumption | (simp_all; done) | (simp_all; omega)) ?_; try simp -dsimp [h1, z3, ↓e4, h5])
      · have q6 : ¬ (x.var = n) := by first | exact h5 | omega | (simpa using h5) | (simp at h5 ⊢; omega) | simp_all
        rw [if_neg q6] at hF
        have w7 : IntKind.i64.wrap ((i : Int) + 1) = (i : Int) + 1 := wrap_in (by omega) (by omega)
        simp -dsimp [h1, z3, ↓e4, h5, q6, w7]
        repeat (refine chk.go (by first | omega | assumption | (simp_all; done) | (simp_all; omega)) ?_; try simp -dsimp [h1, z3, ↓e4, h5, q6, w7])
        refine Again.go ⟨[(0, .arr (List.map Vl.VarType.c list)), (1, .lit (.int .i64 n)), (5, .lit (.int .i64 ((i + 1) : Int)))], []⟩ (Gh.to (by simp) (by first | (simp -dsimp; done) | (simp -dsimp [h1, z3, ↓e4, h5, q6, w7]; done) | simp_all) (by first | (simp -dsimp; done) | (simp -dsimp [h1, z3, ↓e4, h5, q6, w7]; done) | simp_all) (by first | (simp -dsimp; done) | (simp -dsimp [h1, z3, ↓e4, h5, q6, w7]; done) | simp_all)) ?_
        exact (ih_spec_l3Find_l1 (i + 1) o hF) _ rfl _ hq
    · have q2 : ¬ (i < list.length) := by first | exact h1 | omega | (simpa using h1) | (simp at h1 ⊢; omega) | simp_all
      have z3 : ¬ ((i : Int) < (list.length : Int)) := by first | omega | simp_all
      rw [if_neg q2] at hF
      cases hF
      simp -dsimp [h1, q2, z3]
      repeat (refine chk.go (by first | omega | assumption | (simp_all; done) | (simp_all; omega)) ?_; try simp -dsimp [h1, q2, z3])
      refine Leave.go ⟨[], []⟩ (Gh.to (by simp) (by first | (simp -dsimp; done) | (simp -dsimp [h1, q2, z3]; done) | simp_all) (by first | (simp -dsimp; done) | (simp -dsimp [h1, q2, z3]; done) | simp_all) (by first | (simp -dsimp; done) | (simp -dsimp [h1, q2, z3]; done) | simp_all)) ?_
      exact hq

theorem C.spec_l3Find_l1 (B : Nat) (hB1 : 67108864 ≤ B) (hB2 : B ≤ 9223372036854775807) (list : List Vl.VarType) (n : Int) (i : Nat) (o : Lo Int Unit) (hF : F.spec_l3Find_l1 list n i = some o) : ∀ (c : Code), navO [1, 0, 1, 0, 0] (bodyOf Try.f159) = some c → ∀ (Q : Exit → ASt → Prop), o.post (fun r => ∀ st, Post Try.prog Try.f159 (fun r' _ => r'.le (.lit (.int .i64 r))) .ret st → Q .ret st) (fun s => Q (.exit 0) ⟨[], []⟩) → ALoopU Try.prog B 0 20 (hold c .mk) ⟨[(0, .arr (List.map Vl.VarType.c list)), (1, .lit (.int .i64 n)), (5, .lit (.int .i64 (i : Int)))], []⟩ (hold Q .mk) :=
  (CC.spec_l3Find_l1 B hB1 hB2 list n) i o hF

set_option maxRecDepth 100000 in
set_option maxHeartbeats 400000 in
theorem C.spec_l3Find (B : Nat) (hB1 : 67108864 ≤ B) (hB2 : B ≤ 9223372036854775807) (list : List Vl.VarType) (n : Int) (r : Int) (hF : F.spec_l3Find list n = some r) : PureCall Try.prog B 159 [.arr (List.map Vl.VarType.c list), .lit (.int .i64 n)] (.lit (.int .i64 r)) := by
  unfold F.spec_l3Find at hF
  refine PureCall.enterLe Try.func159 (by kernel_rfl) rfl Try.ntmps159 (by simp) (by simp) ?_
  simp -dsimp
  repeat (refine chk.go (by first | omega | assumption | (simp_all; done) | (simp_all; omega)) ?_; try simp -dsimp)
  have hF := ob hF; obtain ⟨o', ho8, hF⟩ := hF
  refine ALoop.goU ⟨[(0, .arr (List.map Vl.VarType.c list)), (1, .lit (.int .i64 n)), (5, .lit (.int .i64 (0 : Int)))], []⟩ (Gh.to (by simp) (by simp -dsimp) (by simp -dsimp) (by simp -dsimp)) ?_
  refine (C.spec_l3Find_l1 B hB1 hB2 list n 0 o' ho8) _ rfl _ ?_
  rcases o' with r0 | s
  · dsimp only at hF
    cases hF
    intro st h
    simpa using h
  · dsimp only at hF
    cases hF
    simp -dsimp
    repeat (refine chk.go (by first | omega | assumption | (simp_all; done) | (simp_all; omega)) ?_; try simp -dsimp)
    all_goals (try omega)

set_option maxRecDepth 100000 in
set_option maxHeartbeats 400000 in
theorem CC.spec_l12Vars_l1 (B : Nat) (hB1 : 67108864 ≤ B) (hB2 : B ≤ 9223372036854775807) (w : List Vl.Data) (vars : List Vl.VarType) : (∀ (i : Nat) (o : Lo Bool Unit), F.spec_l12Vars_l1 w vars i = some o → ∀ (c : Code), navO [1, 0, 1, 0, 0] (bodyOf Try.f115) = some c → ∀ (Q : Exit → ASt → Prop), o.post (fun r => ∀ st, Post Try.prog Try.f115 (fun r' _ => r'.le (.lit (.bool r))) .ret st → Q .ret st) (fun s => Q (.exit 0) ⟨[], []⟩) → ALoopU Try.prog B 0 47 (hold c .mk) ⟨[(0, .arr (List.map Vl.Data.c w)), (1, .arr (List.map Vl.VarType.c vars)), (5, .lit (.int .i64 (i : Int)))], []⟩ (hold Q .mk)) := by
  refine F.spec_l12Vars_l1.partial_correctness w vars
    (fun i o => ∀ (c : Code), navO [1, 0, 1, 0, 0] (bodyOf Try.f115) = some c → ∀ (Q : Exit → ASt → Prop), o.post (fun r => ∀ st, Post Try.prog Try.f115 (fun r' _ => r'.le (.lit (.bool r))) .ret st → Q .ret st) (fun s => Q (.exit 0) ⟨[], []⟩) → ALoopU Try.prog B 0 47 (hold c .mk) ⟨[(0, .arr (List.map Vl.Data.c w)), (1, .arr (List.map Vl.VarType.c vars)), (5, .lit (.int .i64 (i : Int)))], []⟩ (hold Q .mk))
    ?_
  · intro _f_spec_l12Vars_l1 ih_spec_l12Vars_l1 i o hF
    intro c hc Q hq
    obtain rfl : c = _ := navEq hc rfl
    refine ALoopU.know fun hk hs => ?_
    have b0 := hk 0
    simp -dsimp at b0
    have b1 := hk 1
    simp -dsimp at b1
    clear hk hs
    refine ALoopU.enter ?_
    simp -dsimp
    repeat (refine chk.go (by first | omega | assumption | (simp_all; done) | (simp_all; omega)) ?_; try simp -dsimp)
    refine abr.split (fun h1 => ?_) (fun h1 => ?_)
    · have q2 : (i < vars.length) := by first | exact h1 | omega | (simpa using h1) | (simp at h1 ⊢; omega) | simp_all
      have z3 : ((i : Int) < (vars.length : Int)) := by first | omega | simp_all
      rw [if_pos q2] at hF
      have hF := ob hF; obtain ⟨x, e4, hF⟩ := hF
      have le4 := lt_of_get e4
      simp -dsimp [h1, z3, ↓e4]
      repeat (refine chk.go (by first | omega | assumption | (simp_all; done) | (simp_all; omega)) ?_; try simp -dsimp [h1, z3, ↓e4])
      refine abr.split (fun h5 => ?_) (fun h5 => ?_)
      · have q6 : ¬ (x.var < 0) := by first | exact h5 | omega | (simpa using h5) | (simp at h5 ⊢; omega) | simp_all
        rw [if_neg q6] at hF
        simp -dsimp [h1, z3, ↓e4, h5, q6]
        repeat (refine chk.go (by first | omega | assumption | (simp_all; done) | (simp_all; omega)) ?_; try simp -dsimp [h1, z3, ↓e4, h5, q6])
        refine abr.split (fun h7 => ?_) (fun h7 => ?_)
        · have q8 : ¬ (5 < x.var) := by first | exact h7 | omega | (simpa using h7) | (simp at h7 ⊢; omega) | simp_all
          rw [if_neg q8] at hF
          simp -dsimp [h1, z3, ↓e4, h5, q6, h7, q8]
          repeat (refine chk.go (by first | omega | assumption | (simp_all; done) | (simp_all; omega)) ?_; try simp -dsimp [h1, z3, ↓e4, h5, q6, h7, q8])
          have hF := ob hF; obtain ⟨v, e9, hF⟩ := hF
          refine ((C.spec_l1Is B hB1 hB2 w x.type v e9)).goW (by first | (simp; done) | (simp [h1, z3, ↓e4, h5, q6, h7, q8]; done) | simp_all) (by simp) ?_
          simp -dsimp [h1, z3, ↓e4, h5, q6, h7, q8]
          repeat (refine chk.go (by first | omega | assumption | (simp_all; done) | (simp_all; omega)) ?_; try simp -dsimp [h1, z3, ↓e4, h5, q6, h7, q8])
          refine abr.split (fun h10 => ?_) (fun h10 => ?_)
          · have q11 : (v = true) := by first | exact h10 | omega | (simpa using h10) | (simp at h10 ⊢; omega) | simp_all
            rw [if_pos q11] at hF
            simp -dsimp [h1, z3, ↓e4, h5, q6, h7, q8, h10]
            repeat (refine chk.go (by first | omega | assumption | (simp_all; done) | (simp_all; omega)) ?_; try simp -dsimp [h1, z3, ↓e4, h5, q6, h7, q8, h10])
            have hF := ob hF; obtain ⟨v12, e13, hF⟩ := hF
            refine ((C.spec_l3Find B hB1 hB2 vars x.var v12 e13)).goW (by first | (simp; done) | (simp [h1, z3, ↓e4, h5, q6, h7, q8, h10]; done) | simp_all) (by simp) ?_
            simp -dsimp [h1, z3, ↓e4, h5, q6, h7, q8, h10]
            repeat (refine chk.go (by first | omega | assumption | (simp_all; done) | (simp_all; omega)) ?_; try simp -dsimp [h1, z3, ↓e4, h5, q6, h7, q8, h10])
            refine abr.split (fun h14 => ?_) (fun h14 => ?_)
            · have q15 : ¬ (v12 = (i : Int)) := by first | exact h14 | omega | (simpa using h14) | (simp at h14 ⊢; omega) | simp_all
              rw [if_neg q15] at hF
              cases hF
              simp -dsimp [h1, z3, ↓e4, h5, q6, h7, q8, h10, h14, q15]
              repeat (refine chk.go (by first | omega | assumption | (simp_all; done) | (simp_all; omega)) ?_; try simp -dsimp [h1, z3, ↓e4, h5, q6, h7, q8, h10, h14, q15])
              refine Leave.go _ (Gh.refl _) (hq _ ?_)
              simp -dsimp [h1, z3, ↓e4, h5, q6, h7, q8, h10, h14, q15]
              repeat (refine chk.go (by first | omega | assumption | (simp_all; done) | (simp_all; omega)) ?_; try simp -dsimp [h1, z3, ↓e4, h5, q6, h7, q8, h10, h14, q15])
            · have q15 : (v12 = (i : Int)) := by first | exact h14 | omega | (simpa using h14) | (simp at h14 ⊢; omega) | simp_all
              rw [if_pos q15] at hF
              have w16 : IntKind.i64.wrap ((i : Int) + 1) = (i : Int) + 1 := wrap_in (by omega) (by omega)
              simp -dsimp [h1, z3, ↓e4, h5, q6, h7, q8, h10, h14, q15, w16]
              repeat (refine chk.go (by first | omega | assumption | (simp_all; done) | (simp_all; omega)) ?_; try simp -dsimp [h1, z3, ↓e4, h5, q6, h7, q8, h10, h14, q15, w16])
              refine Again.go ⟨[(0, .arr (List.map Vl.Data.c w)), (1, .arr (List.map Vl.VarType.c vars)), (5, .lit (.int .i64 ((i + 1) : Int)))], []⟩ (Gh.to (by simp) (by first | (simp -dsimp; done) | (simp -dsimp [h1, z3, ↓e4, h5, q6, h7, q8, h10, h14, q15, w16]; done) | simp_all) (by first | (simp -dsimp; done) | (simp -dsimp [h1, z3, ↓e4, h5, q6, h7, q8, h10, h14, q15, w16]; done) | simp_all) (by first | (simp -dsimp; done) | (simp -dsimp [h1, z3, ↓e4, h5, q6, h7, q8, h10, h14, q15, w16]; done) | simp_all)) ?_
              exact (ih_spec_l12Vars_l1 (i + 1) o hF) _ rfl _ hq
          · have q11 : ¬ (v = true) := by first | exact h10 | omega | (simpa using h10) | (simp at h10 ⊢; omega) | simp_all
            rw [if_neg q11] at hF
            cases hF
            simp -dsimp [h1, z3, ↓e4, h5, q6, h7, q8, h10, q11]
            repeat (refine chk.go (by first | omega | assumption | (simp_all; done) | (simp_all; omega)) ?_; try simp -dsimp [h1, z3, ↓e4, h5, q6, h7, q8, h10, q11])
            refine Leave.go _ (Gh.refl _) (hq _ ?_)
            simp -dsimp [h1, z3, ↓e4, h5, q6, h7, q8, h10, q11]
            repeat (refine chk.go (by first | omega | assumption | (simp_all; done) | (simp_all; omega)) ?_; try simp -dsimp [h1, z3, ↓e4, h5, q6, h7, q8, h10, q11])
        · have q8 : (5 < x.var) := by first | exact h7 | omega | (simpa using h7) | (simp at h7 ⊢; omega) | simp_all
          rw [if_pos q8] at hF
          cases hF
          simp -dsimp [h1, z3, ↓e4, h5, q6, h7, q8]
          repeat (refine chk.go (by first | omega | assumption | (simp_all; done) | (simp_all; omega)) ?_; try simp -dsimp [h1, z3, ↓e4, h5, q6, h7, q8])
          refine Leave.go _ (Gh.refl _) (hq _ ?_)
          simp -dsimp [h1, z3, ↓e4, h5, q6, h7, q8]
          repeat (refine chk.go (by first | omega | assumption | (simp_all; done) | (simp_all; omega)) ?_; try simp -dsimp [h1, z3, ↓e4, h5, q6, h7, q8])
      · have q6 : (x.var < 0) := by first | exact h5 | omega | (simpa using h5) | (simp at h5 ⊢; omega) | simp_all
        rw [if_pos q6] at hF
        cases hF
        simp -dsimp [h1, z3, ↓e4, h5, q6]
        repeat (refine chk.go (by first | omega | assumption | (simp_all; done) | (simp_all; omega)) ?_; try simp -dsimp [h1, z3, ↓e4, h5, q6])
        refine Leave.go _ (Gh.refl _) (hq _ ?_)
        simp -dsimp [h1, z3, ↓e4, h5, q6]
        repeat (refine chk.go (by first | omega | assumption | (simp_all; done) | (simp_all; omega)) ?_; try simp -dsimp [h1, z3, ↓e4, h5, q6])
    · have q2 : ¬ (i < vars.length) := by first | exact h1 | omega | (simpa using h1) | (simp at h1 ⊢; omega) | simp_all
      have z3 : ¬ ((i : Int) < (vars.length : Int)) := by first | omega | simp_all
      rw [if_neg q2] at hF
      cases hF
      simp -dsimp [h1, q2, z3]
      repeat (refine chk.go (by first | omega | assumption | (simp_all; done) | (simp_all; omega)) ?_; try simp -dsimp [h1, q2, z3])
      refine Leave.go ⟨[], []⟩ (Gh.to (by simp) (by first | (simp -dsimp; done) | (simp -dsimp [h1, q2, z3]; done) | simp_all) (by first | (simp -dsimp; done) | (simp -dsimp [h1, q2, z3]; done) | simp_all) (by first | (simp -dsimp; done) | (simp -dsimp [h1, q2, z3]; done) | simp_all)) ?_
      exact hq

theorem C.spec_l12Vars_l1 (B : Nat) (hB1 : 67108864 ≤ B) (hB2 : B ≤ 9223372036854775807) (w : List Vl.Data) (vars : List Vl.VarType) (i : Nat) (o : Lo Bool Unit) (hF : F.spec_l12Vars_l1 w vars i = some o) : ∀ (c : Code), navO [1, 0, 1, 0, 0] (bodyOf Try.f115) = some c → ∀ (Q : Exit → ASt → Prop), o.post (fun r => ∀ st, Post Try.prog Try.f115 (fun r' _ => r'.le (.lit (.bool r))) .ret st → Q .ret st) (fun s => Q (.exit 0) ⟨[], []⟩) → ALoopU Try.prog B 0 47 (hold c .mk) ⟨[(0, .arr (List.map Vl.Data.c w)), (1, .arr (List.map Vl.VarType.c vars)), (5, .lit (.int .i64 (i : Int)))], []⟩ (hold Q .mk) :=
  (CC.spec_l12Vars_l1 B hB1 hB2 w vars) i o hF

set_option maxRecDepth 100000 in
set_option maxHeartbeats 400000 in
theorem C.spec_l12Vars (B : Nat) (hB1 : 67108864 ≤ B) (hB2 : B ≤ 9223372036854775807) (w : List Vl.Data) (vars : List Vl.VarType) (r : Bool) (hF : F.spec_l12Vars w vars = some r) : PureCall Try.prog B 115 [.arr (List.map Vl.Data.c w), .arr (List.map Vl.VarType.c vars)] (.lit (.bool r)) := by
  unfold F.spec_l12Vars at hF
  refine PureCall.enterLe Try.func115 (by kernel_rfl) rfl Try.ntmps115 (by simp) (by simp) ?_
  simp -dsimp
  repeat (refine chk.go (by first | omega | assumption | (simp_all; done) | (simp_all; omega)) ?_; try simp -dsimp)
  have hF := ob hF; obtain ⟨o', ho17, hF⟩ := hF
  refine ALoop.goU ⟨[(0, .arr (List.map Vl.Data.c w)), (1, .arr (List.map Vl.VarType.c vars)), (5, .lit (.int .i64 (0 : Int)))], []⟩ (Gh.to (by simp) (by simp -dsimp) (by simp -dsimp) (by simp -dsimp)) ?_
  refine (C.spec_l12Vars_l1 B hB1 hB2 w vars 0 o' ho17) _ rfl _ ?_
  rcases o' with r0 | s
  · dsimp only at hF
    cases hF
    intro st h
    simpa using h
  · dsimp only at hF
    cases hF
    simp -dsimp
    repeat (refine chk.go (by first | omega | assumption | (simp_all; done) | (simp_all; omega)) ?_; try simp -dsimp)
    all_goals (try omega)

set_option maxRecDepth 100000 in
set_option maxHeartbeats 400000 in
theorem C.spec_l12Right (B : Nat) (hB1 : 67108864 ≤ B) (hB2 : B ≤ 9223372036854775807) (w : List Vl.Data) (funs : List Vl.FunType) (vars : List Vl.VarType) (t : Vl.Ty) (r : Bool) (hF : F.spec_l12Right w funs vars t = some r) : PureCall Try.prog B 54 [.arr (List.map Vl.Data.c w), .arr (List.map Vl.FunType.c funs), .arr (List.map Vl.VarType.c vars), .agg [.lit (.int .i64 t.data), .lit (.int .i64 t.index)]] (.lit (.bool r)) := by
  unfold F.spec_l12Right at hF
  refine PureCall.enterLe Try.func54 (by kernel_rfl) rfl Try.ntmps54 (by simp) (by simp) ?_
  simp -dsimp
  repeat (refine chk.go (by first | omega | assumption | (simp_all; done) | (simp_all; omega)) ?_; try simp -dsimp)
  have hF := ob hF; obtain ⟨v, e1, hF⟩ := hF
  refine ((C.spec_TypeValid B hB1 hB2 w t v e1)).goW (by simp) (by simp) ?_
  simp -dsimp
  repeat (refine chk.go (by first | omega | assumption | (simp_all; done) | (simp_all; omega)) ?_; try simp -dsimp)
  refine abr.split (fun h2 => ?_) (fun h2 => ?_)
  · have q3 : (v = true) := by first | exact h2 | omega | (simpa using h2) | (simp at h2 ⊢; omega) | simp_all
    rw [if_pos q3] at hF
    simp -dsimp [h2]
    repeat (refine chk.go (by first | omega | assumption | (simp_all; done) | (simp_all; omega)) ?_; try simp -dsimp [h2])
    have hF := ob hF; obtain ⟨v4, e5, hF⟩ := hF
    refine ((C.spec_l12Funs B hB1 hB2 w funs v4 e5)).goW (by first | (simp; done) | (simp [h2]; done) | simp_all) (by simp) ?_
    simp -dsimp [h2]
    repeat (refine chk.go (by first | omega | assumption | (simp_all; done) | (simp_all; omega)) ?_; try simp -dsimp [h2])
    refine abr.split (fun h6 => ?_) (fun h6 => ?_)
    · have q7 : (v4 = true) := by first | exact h6 | omega | (simpa using h6) | (simp at h6 ⊢; omega) | simp_all
      rw [if_pos q7] at hF
      simp -dsimp [h2, h6]
      repeat (refine chk.go (by first | omega | assumption | (simp_all; done) | (simp_all; omega)) ?_; try simp -dsimp [h2, h6])
      have hF := ob hF; obtain ⟨v8, e9, hF⟩ := hF
      refine ((C.spec_l12Vars B hB1 hB2 w vars v8 e9)).goW (by first | (simp; done) | (simp [h2, h6]; done) | simp_all) (by simp) ?_
      cases hF
      simp -dsimp [h2, h6]
      repeat (refine chk.go (by first | omega | assumption | (simp_all; done) | (simp_all; omega)) ?_; try simp -dsimp [h2, h6])
      all_goals (try omega)
    · have q7 : ¬ (v4 = true) := by first | exact h6 | omega | (simpa using h6) | (simp at h6 ⊢; omega) | simp_all
      rw [if_neg q7] at hF
      cases hF
      simp -dsimp [h2, h6, q7]
      repeat (refine chk.go (by first | omega | assumption | (simp_all; done) | (simp_all; omega)) ?_; try simp -dsimp [h2, h6, q7])
      all_goals (try omega)
  · have q3 : ¬ (v = true) := by first | exact h2 | omega | (simpa using h2) | (simp at h2 ⊢; omega) | simp_all
    rw [if_neg q3] at hF
    cases hF
    simp -dsimp [h2, q3]
    repeat (refine chk.go (by first | omega | assumption | (simp_all; done) | (simp_all; omega)) ?_; try simp -dsimp [h2, q3])
    all_goals (try omega)

set_option maxRecDepth 100000 in
set_option maxHeartbeats 400000 in
theorem C.spec_l12Fits (B : Nat) (hB1 : 67108864 ≤ B) (hB2 : B ≤ 9223372036854775807) (a : Vl.Ty) (b : Vl.Ty) (r : Bool) (hF : F.spec_l12Fits a b = some r) : PureCall Try.prog B 143 [.agg [.lit (.int .i64 a.data), .lit (.int .i64 a.index)], .agg [.lit (.int .i64 b.data), .lit (.int .i64 b.index)]] (.lit (.bool r)) := by
  unfold F.spec_l12Fits at hF
  refine PureCall.enterLe Try.func143 (by kernel_rfl) rfl Try.ntmps143 (by simp) (by simp) ?_
  simp -dsimp
  repeat (refine chk.go (by first | omega | assumption | (simp_all; done) | (simp_all; omega)) ?_; try simp -dsimp)
  refine abr.split (fun h1 => ?_) (fun h1 => ?_)
  · have q2 : (a.data = b.data) := by first | exact h1 | omega | (simpa using h1) | (simp at h1 ⊢; omega) | simp_all
    rw [if_pos q2] at hF
    simp -dsimp [h1]
    repeat (refine chk.go (by first | omega | assumption | (simp_all; done) | (simp_all; omega)) ?_; try simp -dsimp [h1])
    refine abr.split (fun h3 => ?_) (fun h3 => ?_)
    · have q4 : ¬ (b.index = 0) := by first | exact h3 | omega | (simpa using h3) | (simp at h3 ⊢; omega) | simp_all
      rw [if_neg q4] at hF
      cases hF
      simp -dsimp [h1, h3, q4]
      repeat (refine chk.go (by first | omega | assumption | (simp_all; done) | (simp_all; omega)) ?_; try simp -dsimp [h1, h3, q4])
      all_goals (try omega)
    · have q4 : (b.index = 0) := by first | exact h3 | omega | (simpa using h3) | (simp at h3 ⊢; omega) | simp_all
      rw [if_pos q4] at hF
      cases hF
      simp -dsimp [h1, h3, q4]
      repeat (refine chk.go (by first | omega | assumption | (simp_all; done) | (simp_all; omega)) ?_; try simp -dsimp [h1, h3, q4])
      all_goals (try omega)
  · have q2 : ¬ (a.data = b.data) := by first | exact h1 | omega | (simpa using h1) | (simp at h1 ⊢; omega) | simp_all
    rw [if_neg q2] at hF
    cases hF
    simp -dsimp [h1, q2]
    repeat (refine chk.go (by first | omega | assumption | (simp_all; done) | (simp_all; omega)) ?_; try simp -dsimp [h1, q2])
    all_goals (try omega)

set_option maxRecDepth 100000 in
set_option maxHeartbeats 400000 in
theorem C.spec_l1Fits (B : Nat) (hB1 : 67108864 ≤ B) (hB2 : B ≤ 9223372036854775807) (c' : Vl.Ctor) (index' : Int) (r : Bool) (hF : F.spec_l1Fits c' index' = some r) : PureCall Try.prog B 171 [.agg [.lit (.string c'.name), .arr (List.map Vl.Ty.c c'.args), .lit (.int .i64 c'.index)], .lit (.int .i64 index')] (.lit (.bool r)) := by
  unfold F.spec_l1Fits at hF
  refine PureCall.enterLe Try.func171 (by kernel_rfl) rfl Try.ntmps171 (by simp) (by simp) ?_
  simp -dsimp
  repeat (refine chk.go (by first | omega | assumption | (simp_all; done) | (simp_all; omega)) ?_; try simp -dsimp)
  refine abr.split (fun h1 => ?_) (fun h1 => ?_)
  · have q2 : ¬ (c'.index = 0) := by first | exact h1 | omega | (simpa using h1) | (simp at h1 ⊢; omega) | simp_all
    rw [if_neg q2] at hF
    simp -dsimp [h1, q2]
    repeat (refine chk.go (by first | omega | assumption | (simp_all; done) | (simp_all; omega)) ?_; try simp -dsimp [h1, q2])
    refine abr.split (fun h3 => ?_) (fun h3 => ?_)
    · have q4 : ¬ (index' = 0) := by first | exact h3 | omega | (simpa using h3) | (simp at h3 ⊢; omega) | simp_all
      rw [if_neg q4] at hF
      cases hF
      simp -dsimp [h1, q2, h3, q4]
      repeat (refine chk.go (by first | omega | assumption | (simp_all; done) | (simp_all; omega)) ?_; try simp -dsimp [h1, q2, h3, q4])
      all_goals (try omega)
    · have q4 : (index' = 0) := by first | exact h3 | omega | (simpa using h3) | (simp at h3 ⊢; omega) | simp_all
      rw [if_pos q4] at hF
      cases hF
      simp -dsimp [h1, q2, eq_true h3, eq_true q4]
      repeat (refine chk.go (by first | omega | assumption | (simp_all; done) | (simp_all; omega)) ?_; try simp -dsimp [h1, q2, eq_true h3, eq_true q4])
      all_goals (try omega)
  · have q2 : (c'.index = 0) := by first | exact h1 | omega | (simpa using h1) | (simp at h1 ⊢; omega) | simp_all
    rw [if_pos q2] at hF
    cases hF
    simp -dsimp [h1, q2]
    repeat (refine chk.go (by first | omega | assumption | (simp_all; done) | (simp_all; omega)) ?_; try simp -dsimp [h1, q2])
    all_goals (try omega)

set_option maxRecDepth 100000 in
set_option maxHeartbeats 400000 in
theorem CC.spec_l1Ctors_l1 (B : Nat) (hB1 : 67108864 ≤ B) (hB2 : B ≤ 9223372036854775807) (w : List Vl.Data) (t : Vl.Ty) : (∀ (out : List Int) (k : Nat) (o : List Int), F.spec_l1Ctors_l1 w t out k = some o → ∀ (c : Code), navO [1, 1, 1, 0, 1, 0, 0] (bodyOf Try.f129) = some c → ∀ (Q : Exit → ASt → Prop), Q (.exit 0) ⟨[(5, .own 1 (List.length (α := Int) o))], [.dead, .elems 1 (List.map cI o)]⟩ → ALoopU Try.prog B 0 40 (hold c .mk) ⟨[(0, .arr (List.map Vl.Data.c w)), (3, .ptr 0 0), (5, .own 1 (List.length (α := Int) out)), (6, .lit (.int .i64 (k : Int)))], [.cells [.lit (.int .i64 t.data), .lit (.int .i64 t.index)], .elems 1 (List.map cI out)]⟩ (hold Q .mk)) := by
  refine F.spec_l1Ctors_l1.partial_correctness w t
    (fun out k o => ∀ (c : Code), navO [1, 1, 1, 0, 1, 0, 0] (bodyOf Try.f129) = some c → ∀ (Q : Exit → ASt → Prop), Q (.exit 0) ⟨[(5, .own 1 (List.length (α := Int) o))], [.dead, .elems 1 (List.map cI o)]⟩ → ALoopU Try.prog B 0 40 (hold c .mk) ⟨[(0, .arr (List.map Vl.Data.c w)), (3, .ptr 0 0), (5, .own 1 (List.length (α := Int) out)), (6, .lit (.int .i64 (k : Int)))], [.cells [.lit (.int .i64 t.data), .lit (.int .i64 t.index)], .elems 1 (List.map cI out)]⟩ (hold Q .mk))
    ?_
  · intro _f_spec_l1Ctors_l1 ih_spec_l1Ctors_l1 out k o hF
    intro c hc Q hq
    obtain rfl : c = _ := navEq hc rfl
    refine ALoopU.know fun hk hs => ?_
    have b0 := hk 0
    simp -dsimp at b0
    have d1 := hs 1 _ rfl
    simp -dsimp [Blk.bnd] at d1
    clear hk hs
    refine ALoopU.enter ?_
    have hF := ob hF; obtain ⟨x, e3a, hF⟩ := hF
    have e3a := at_some e3a; obtain ⟨ne3, e3⟩ := e3a
    have le3 := lt_of_get e3
    simp -dsimp [↓e3]
    repeat (refine chk.go (by first | omega | assumption | (simp_all; done) | (simp_all; omega)) ?_; try simp -dsimp [↓e3])
    refine abr.split (fun h4 => ?_) (fun h4 => ?_)
    · have q5 : (k < x.ctors.length) := by first | exact h4 | omega | (simpa using h4) | (simp at h4 ⊢; omega) | simp_all
      have z6 : ((k : Int) < (x.ctors.length : Int)) := by first | omega | simp_all
      rw [if_pos q5] at hF
      simp -dsimp [↓e3, h4, z6]
      repeat (refine chk.go (by first | omega | assumption | (simp_all; done) | (simp_all; omega)) ?_; try simp -dsimp [↓e3, h4, z6])
      refine ADraw.simple follows (by kernel_rfl) (by kernel_rfl) ?_
      have hF := ob hF; obtain ⟨x7, e8, hF⟩ := hF
      have le8 := lt_of_get e8
      simp -dsimp [↓e3, h4, z6, ↓e8]
      repeat (refine chk.go (by first | omega | assumption | (simp_all; done) | (simp_all; omega)) ?_; try simp -dsimp [↓e3, h4, z6, ↓e8])
      have hF := ob hF; obtain ⟨v, e9, hF⟩ := hF
      refine ((C.spec_l1Fits B hB1 hB2 x7 t.index v e9)).pgoW (by first | (simp; done) | (simp [↓e3, h4, z6, ↓e8]; done) | simp_all) (by simp) ?_
      simp -dsimp [↓e3, h4, z6, ↓e8]
      repeat (refine chk.go (by first | omega | assumption | (simp_all; done) | (simp_all; omega)) ?_; try simp -dsimp [↓e3, h4, z6, ↓e8])
      refine abr.split (fun h10 => ?_) (fun h10 => ?_)
      · have q11 : (v = true) := by first | exact h10 | omega | (simpa using h10) | (simp at h10 ⊢; omega) | simp_all
        rw [if_pos q11] at hF
        have hF := oc hF; obtain ⟨c12, hF⟩ := hF
        have hF := oc hF; obtain ⟨c13, hF⟩ := hF
        have w14 : IntKind.i64.wrap ((k : Int) + 1) = (k : Int) + 1 := wrap_in (by omega) (by omega)
        simp -dsimp [↓e3, h4, z6, ↓e8, h10, w14]
        repeat (refine chk.go (by first | omega | assumption | (simp_all; done) | (simp_all; omega)) ?_; try simp -dsimp [↓e3, h4, z6, ↓e8, h10, w14])
        refine Again.go ⟨[(0, .arr (List.map Vl.Data.c w)), (3, .ptr 0 0), (5, .own 1 (List.length (α := Int) (out ++ [(k : Int)]))), (6, .lit (.int .i64 ((k + 1) : Int)))], [.cells [.lit (.int .i64 t.data), .lit (.int .i64 t.index)], .elems 1 (List.map cI (out ++ [(k : Int)]))]⟩ (Gh.to (by simp) (by first | (simp -dsimp; done) | (simp -dsimp [↓e3, h4, z6, ↓e8, h10, w14]; done) | simp_all) (by first | (simp -dsimp; done) | (simp -dsimp [↓e3, h4, z6, ↓e8, h10, w14]; done) | simp_all) (by first | (simp -dsimp; done) | (simp -dsimp [↓e3, h4, z6, ↓e8, h10, w14]; done) | simp_all)) ?_
        exact (ih_spec_l1Ctors_l1 (out ++ [(k : Int)]) (k + 1) o hF) _ rfl _ hq
      · have q11 : ¬ (v = true) := by first | exact h10 | omega | (simpa using h10) | (simp at h10 ⊢; omega) | simp_all
        rw [if_neg q11] at hF
        have hF := oc hF; obtain ⟨c15, hF⟩ := hF
        have w16 : IntKind.i64.wrap ((k : Int) + 1) = (k : Int) + 1 := wrap_in (by omega) (by omega)
        simp -dsimp [↓e3, h4, z6, ↓e8, h10, q11, w16]
        repeat (refine chk.go (by first | omega | assumption | (simp_all; done) | (simp_all; omega)) ?_; try simp -dsimp [↓e3, h4, z6, ↓e8, h10, q11, w16])
        refine Again.go ⟨[(0, .arr (List.map Vl.Data.c w)), (3, .ptr 0 0), (5, .own 1 (List.length (α := Int) out)), (6, .lit (.int .i64 ((k + 1) : Int)))], [.cells [.lit (.int .i64 t.data), .lit (.int .i64 t.index)], .elems 1 (List.map cI out)]⟩ (Gh.to (by simp) (by first | (simp -dsimp; done) | (simp -dsimp [↓e3, h4, z6, ↓e8, h10, q11, w16]; done) | simp_all) (by first | (simp -dsimp; done) | (simp -dsimp [↓e3, h4, z6, ↓e8, h10, q11, w16]; done) | simp_all) (by first | (simp -dsimp; done) | (simp -dsimp [↓e3, h4, z6, ↓e8, h10, q11, w16]; done) | simp_all)) ?_
        exact (ih_spec_l1Ctors_l1 out (k + 1) o hF) _ rfl _ hq
    · have q5 : ¬ (k < x.ctors.length) := by first | exact h4 | omega | (simpa using h4) | (simp at h4 ⊢; omega) | simp_all
      have z6 : ¬ ((k : Int) < (x.ctors.length : Int)) := by first | omega | simp_all
      rw [if_neg q5] at hF
      cases hF
      simp -dsimp [↓e3, h4, q5, z6]
      repeat (refine chk.go (by first | omega | assumption | (simp_all; done) | (simp_all; omega)) ?_; try simp -dsimp [↓e3, h4, q5, z6])
      refine Leave.go ⟨[(5, .own 1 (List.length (α := Int) out))], [.dead, .elems 1 (List.map cI out)]⟩ (Gh.to (by simp) (by first | (simp -dsimp; done) | (simp -dsimp [↓e3, h4, q5, z6]; done) | simp_all) (by first | (simp -dsimp; done) | (simp -dsimp [↓e3, h4, q5, z6]; done) | simp_all) (by first | (simp -dsimp; done) | (simp -dsimp [↓e3, h4, q5, z6]; done) | simp_all)) ?_
      exact hq

theorem C.spec_l1Ctors_l1 (B : Nat) (hB1 : 67108864 ≤ B) (hB2 : B ≤ 9223372036854775807) (w : List Vl.Data) (t : Vl.Ty) (out : List Int) (k : Nat) (o : List Int) (hF : F.spec_l1Ctors_l1 w t out k = some o) : ∀ (c : Code), navO [1, 1, 1, 0, 1, 0, 0] (bodyOf Try.f129) = some c → ∀ (Q : Exit → ASt → Prop), Q (.exit 0) ⟨[(5, .own 1 (List.length (α := Int) o))], [.dead, .elems 1 (List.map cI o)]⟩ → ALoopU Try.prog B 0 40 (hold c .mk) ⟨[(0, .arr (List.map Vl.Data.c w)), (3, .ptr 0 0), (5, .own 1 (List.length (α := Int) out)), (6, .lit (.int .i64 (k : Int)))], [.cells [.lit (.int .i64 t.data), .lit (.int .i64 t.index)], .elems 1 (List.map cI out)]⟩ (hold Q .mk) :=
  (CC.spec_l1Ctors_l1 B hB1 hB2 w t) out k o hF

set_option maxRecDepth 100000 in
set_option maxHeartbeats 400000 in
theorem C.spec_l1Ctors (B : Nat) (hB1 : 67108864 ≤ B) (hB2 : B ≤ 9223372036854775807) (w : List Vl.Data) (t : Vl.Ty) (r : List Int) (hF : F.spec_l1Ctors w t = some r) : PureCall Try.prog B 129 [.arr (List.map Vl.Data.c w), .agg [.lit (.int .i64 t.data), .lit (.int .i64 t.index)]] (.arr (List.map cI r)) := by
  unfold F.spec_l1Ctors at hF
  refine PureCall.enterLe Try.func129 (by kernel_rfl) rfl Try.ntmps129 (by simp) (by simp) ?_
  simp -dsimp
  repeat (refine chk.go (by first | omega | assumption | (simp_all; done) | (simp_all; omega)) ?_; try simp -dsimp)
  refine abr.split (fun h1 => ?_) (fun h1 => ?_)
  · have q2 : (t.data = (-1)) := by first | exact h1 | omega | (simpa using h1) | (simp at h1 ⊢; omega) | simp_all
    rw [if_pos q2] at hF
    cases hF
    simp -dsimp [h1]
    repeat (refine chk.go (by first | omega | assumption | (simp_all; done) | (simp_all; omega)) ?_; try simp -dsimp [h1])
    all_goals (try omega)
  · have q2 : ¬ (t.data = (-1)) := by first | exact h1 | omega | (simpa using h1) | (simp at h1 ⊢; omega) | simp_all
    rw [if_neg q2] at hF
    simp -dsimp [h1, q2]
    repeat (refine chk.go (by first | omega | assumption | (simp_all; done) | (simp_all; omega)) ?_; try simp -dsimp [h1, q2])
    have hF := ob hF; obtain ⟨o', ho17, hF⟩ := hF
    refine ALoop.goU ⟨[(0, .arr (List.map Vl.Data.c w)), (3, .ptr 0 0), (5, .own 1 (List.length (α := Int) [])), (6, .lit (.int .i64 (0 : Int)))], [.cells [.lit (.int .i64 t.data), .lit (.int .i64 t.index)], .elems 1 (List.map cI [])]⟩ (Gh.to (by simp) (by first | (simp -dsimp; done) | (simp -dsimp [h1, q2]; done) | simp_all) (by first | (simp -dsimp; done) | (simp -dsimp [h1, q2]; done) | simp_all) (by first | (simp -dsimp; done) | (simp -dsimp [h1, q2]; done) | simp_all)) ?_
    refine (C.spec_l1Ctors_l1 B hB1 hB2 w t [] 0 o' ho17) _ rfl _ ?_
    cases hF
    simp -dsimp
    repeat (refine chk.go (by first | omega | assumption | (simp_all; done) | (simp_all; omega)) ?_; try simp -dsimp)
    all_goals (try omega)

set_option maxRecDepth 100000 in
set_option maxHeartbeats 400000 in
theorem CC.spec_l1Has_l1 (B : Nat) (hB1 : 67108864 ≤ B) (hB2 : B ≤ 9223372036854775807) (list : List Int) (n : Int) : (∀ (i : Nat) (o : Lo Bool Unit), F.spec_l1Has_l1 list n i = some o → ∀ (c : Code), navO [1, 0, 1, 0, 0] (bodyOf Try.f197) = some c → ∀ (Q : Exit → ASt → Prop), o.post (fun r => ∀ st, Post Try.prog Try.f197 (fun r' _ => r'.le (.lit (.bool r))) .ret st → Q .ret st) (fun s => Q (.exit 0) ⟨[], []⟩) → ALoopU Try.prog B 0 18 (hold c .mk) ⟨[(0, .arr (List.map cI list)), (1, .lit (.int .i64 n)), (5, .lit (.int .i64 (i : Int)))], []⟩ (hold Q .mk)) := by
  refine F.spec_l1Has_l1.partial_correctness list n
    (fun i o => ∀ (c : Code), navO [1, 0, 1, 0, 0] (bodyOf Try.f197) = some c → ∀ (Q : Exit → ASt → Prop), o.post (fun r => ∀ st, Post Try.prog Try.f197 (fun r' _ => r'.le (.lit (.bool r))) .ret st → Q .ret st) (fun s => Q (.exit 0) ⟨[], []⟩) → ALoopU Try.prog B 0 18 (hold c .mk) ⟨[(0, .arr (List.map cI list)), (1, .lit (.int .i64 n)), (5, .lit (.int .i64 (i : Int)))], []⟩ (hold Q .mk))
    ?_
  · intro _f_spec_l1Has_l1 ih_spec_l1Has_l1 i o hF
    intro c hc Q hq
    obtain rfl : c = _ := navEq hc rfl
    refine ALoopU.know fun hk hs => ?_
    have b0 := hk 0
    simp -dsimp at b0
    clear hk hs
    refine ALoopU.enter ?_
    simp -dsimp
    repeat (refine chk.go (by first | omega | assumption | (simp_all; done) | (simp_all; omega)) ?_; try simp -dsimp)
    refine abr.split (fun h1 => ?_) (fun h1 => ?_)
    · have q2 : (i < list.length) := by first | exact h1 | omega | (simpa using h1) | (simp at h1 ⊢; omega) | simp_all
      have z3 : ((i : Int) < (list.length : Int)) := by first | omega | simp_all
      rw [if_pos q2] at hF
      have hF := ob hF; obtain ⟨x, e4, hF⟩ := hF
      have le4 := lt_of_get e4
      simp -dsimp [h1, z3, ↓e4]
      repeat (refine chk.go (by first | omega | assumption | (simp_all; done) | (simp_all; omega)) ?_; try simp -dsimp [h1, z3, ↓e4])
      refine abr.split (fun h5 => ?_) (fun h5 => ?_)
      · have q6 : (x = n) := by first | exact h5 | omega | (simpa using h5) | (simp at h5 ⊢; omega) | simp_all
        rw [if_pos q6] at hF
        cases hF
        simp -dsimp [h1, z3, ↓e4, h5]
        repeat (refine chk.go (by first | omega | assumption | (simp_all; done) | (simp_all; omega)) ?_; try simp -dsimp [h1, z3, ↓e4, h5])
        refine Leave.go _ (Gh.refl _) (hq _ ?_)
        simp -dsimp [h1, z3, ↓e4, h5]
        repeat (refine chk.go (by first | omega | assumption | (simp_all; done) | (simp_all; omega)) ?_; try simp -dsimp [h1, z3, ↓e4, h5])
      · have q6 : ¬ (x = n) := by first | exact h5 | omega | (simpa using h5) | (simp at h5 ⊢; omega) | simp_all
        rw [if_neg q6] at hF
        have w7 : IntKind.i64.wrap ((i : Int) + 1) = (i : Int) + 1 := wrap_in (by omega) (by omega)
        simp -dsimp [h1, z3, ↓e4, h5, q6, w7]
        repeat (refine chk.go (by first | omega | assumption | (simp_all; done) | (simp_all; omega)) ?_; try simp -dsimp [h1, z3, ↓e4, h5, q6, w7])
        refine Again.go ⟨[(0, .arr (List.map cI list)), (1, .lit (.int .i64 n)), (5, .lit (.int .i64 ((i + 1) : Int)))], []⟩ (Gh.to (by simp) (by first | (simp -dsimp; done) | (simp -dsimp [h1, z3, ↓e4, h5, q6, w7]; done) | simp_all) (by first | (simp -dsimp; done) | (simp -dsimp [h1, z3, ↓e4, h5, q6, w7]; done) | simp_all) (by first | (simp -dsimp; done) | (simp -dsimp [h1, z3, ↓e4, h5, q6, w7]; done) | simp_all)) ?_
        exact (ih_spec_l1Has_l1 (i + 1) o hF) _ rfl _ hq
    · have q2 : ¬ (i < list.length) := by first | exact h1 | omega | (simpa using h1) | (simp at h1 ⊢; omega) | simp_all
      have z3 : ¬ ((i : Int) < (list.length : Int)) := by first | omega | simp_all
      rw [if_neg q2] at hF
      cases hF
      simp -dsimp [h1, q2, z3]
      repeat (refine chk.go (by first | omega | assumption | (simp_all; done) | (simp_all; omega)) ?_; try simp -dsimp [h1, q2, z3])
      refine Leave.go ⟨[], []⟩ (Gh.to (by simp) (by first | (simp -dsimp; done) | (simp -dsimp [h1, q2, z3]; done) | simp_all) (by first | (simp -dsimp; done) | (simp -dsimp [h1, q2, z3]; done) | simp_all) (by first | (simp -dsimp; done) | (simp -dsimp [h1, q2, z3]; done) | simp_all)) ?_
      exact hq

theorem C.spec_l1Has_l1 (B : Nat) (hB1 : 67108864 ≤ B) (hB2 : B ≤ 9223372036854775807) (list : List Int) (n : Int) (i : Nat) (o : Lo Bool Unit) (hF : F.spec_l1Has_l1 list n i = some o) : ∀ (c : Code), navO [1, 0, 1, 0, 0] (bodyOf Try.f197) = some c → ∀ (Q : Exit → ASt → Prop), o.post (fun r => ∀ st, Post Try.prog Try.f197 (fun r' _ => r'.le (.lit (.bool r))) .ret st → Q .ret st) (fun s => Q (.exit 0) ⟨[], []⟩) → ALoopU Try.prog B 0 18 (hold c .mk) ⟨[(0, .arr (List.map cI list)), (1, .lit (.int .i64 n)), (5, .lit (.int .i64 (i : Int)))], []⟩ (hold Q .mk) :=
  (CC.spec_l1Has_l1 B hB1 hB2 list n) i o hF

set_option maxRecDepth 100000 in
set_option maxHeartbeats 400000 in
theorem C.spec_l1Has (B : Nat) (hB1 : 67108864 ≤ B) (hB2 : B ≤ 9223372036854775807) (list : List Int) (n : Int) (r : Bool) (hF : F.spec_l1Has list n = some r) : PureCall Try.prog B 197 [.arr (List.map cI list), .lit (.int .i64 n)] (.lit (.bool r)) := by
  unfold F.spec_l1Has at hF
  refine PureCall.enterLe Try.func197 (by kernel_rfl) rfl Try.ntmps197 (by simp) (by simp) ?_
  simp -dsimp
  repeat (refine chk.go (by first | omega | assumption | (simp_all; done) | (simp_all; omega)) ?_; try simp -dsimp)
  have hF := ob hF; obtain ⟨o', ho8, hF⟩ := hF
  refine ALoop.goU ⟨[(0, .arr (List.map cI list)), (1, .lit (.int .i64 n)), (5, .lit (.int .i64 (0 : Int)))], []⟩ (Gh.to (by simp) (by simp -dsimp) (by simp -dsimp) (by simp -dsimp)) ?_
  refine (C.spec_l1Has_l1 B hB1 hB2 list n 0 o' ho8) _ rfl _ ?_
  rcases o' with r0 | s
  · dsimp only at hF
    cases hF
    intro st h
    simpa using h
  · dsimp only at hF
    cases hF
    simp -dsimp
    repeat (refine chk.go (by first | omega | assumption | (simp_all; done) | (simp_all; omega)) ?_; try simp -dsimp)
    all_goals (try omega)

set_option maxRecDepth 100000 in
set_option maxHeartbeats 400000 in
theorem C.spec_l1Result (B : Nat) (hB1 : 67108864 ≤ B) (hB2 : B ≤ 9223372036854775807) (c' : Vl.Ctor) (index' : Int) (r : Int) (hF : F.spec_l1Result c' index' = some r) : PureCall Try.prog B 170 [.agg [.lit (.string c'.name), .arr (List.map Vl.Ty.c c'.args), .lit (.int .i64 c'.index)], .lit (.int .i64 index')] (.lit (.int .i64 r)) := by
  unfold F.spec_l1Result at hF
  refine PureCall.enterLe Try.func170 (by kernel_rfl) rfl Try.ntmps170 (by simp) (by simp) ?_
  simp -dsimp
  repeat (refine chk.go (by first | omega | assumption | (simp_all; done) | (simp_all; omega)) ?_; try simp -dsimp)
  refine abr.split (fun h1 => ?_) (fun h1 => ?_)
  · have q2 : (c'.index = 0) := by first | exact h1 | omega | (simpa using h1) | (simp at h1 ⊢; omega) | simp_all
    rw [if_pos q2] at hF
    cases hF
    simp -dsimp [h1]
    repeat (refine chk.go (by first | omega | assumption | (simp_all; done) | (simp_all; omega)) ?_; try simp -dsimp [h1])
    all_goals (try omega)
  · have q2 : ¬ (c'.index = 0) := by first | exact h1 | omega | (simpa using h1) | (simp at h1 ⊢; omega) | simp_all
    rw [if_neg q2] at hF
    cases hF
    simp -dsimp [h1, q2]
    repeat (refine chk.go (by first | omega | assumption | (simp_all; done) | (simp_all; omega)) ?_; try simp -dsimp [h1, q2])
    all_goals (try omega)

end Go.Proofs.Ytelglbenbnkjmaa
