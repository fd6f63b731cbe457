/- The contracts: the code computes the functions (printed by gen.py). -/
import Derived.Test.YtoacjahdkkdffaaProg
import Derived.Test.YtoacjahdkkdffaaExactTypeFitsF
namespace Go.Proofs.Ytoacjahdkkdffaa
open Go Go.Proofs Go.Vl
set_option linter.unusedSimpArgs false
set_option linter.unusedVariables false

attribute [local irreducible] AMake MLoop AgainM LeaveM awpM aopsM MutCall chk abr ACall ALoop ALoopU ADraw Again Leave PCallA PCall Post awp aops PureCall hold

theorem follows : Try.prog.follows .mixedOrders = true := by kernel_rfl
@[simp] theorem ti2 : tiOf Try.prog 2 = some ⟨.word, 1, [.int .i64 0]⟩ := by kernel_rfl
@[simp] theorem ti3 : tiOf Try.prog 3 = some ⟨.word, 1, [.int .i64 0]⟩ := by kernel_rfl
@[simp] theorem ti4 : tiOf Try.prog 4 = some ⟨.word, 1, [.bool false]⟩ := by kernel_rfl
@[simp] theorem ti5 : tiOf Try.prog 5 = some ⟨.word, 1, [.int .u8 0]⟩ := by kernel_rfl
@[simp] theorem ti9 : tiOf Try.prog 9 = some ⟨.word, 1, [.string ByteArray.empty]⟩ := by kernel_rfl
@[simp] theorem ti38 : tiOf Try.prog 38 = some ⟨.slice 2 40 [.string ByteArray.empty, .slice none 0 0], 1, [.slice none 0 0]⟩ := by kernel_rfl
@[simp] theorem ti40 : tiOf Try.prog 40 = some ⟨.struct [(0, 1), (1, 1)], 2, [.int .i64 0, .int .i64 0]⟩ := by kernel_rfl
@[simp] theorem pr40 : pair2B Try.prog 40 = true := by kernel_rfl
@[simp] theorem ti43 : tiOf Try.prog 43 = some ⟨.slice 2 40 [.string ByteArray.empty, .slice none 0 0], 1, [.slice none 0 0]⟩ := by kernel_rfl
@[simp] theorem ti45 : tiOf Try.prog 45 = some ⟨.struct [(0, 1), (1, 1)], 2, [.int .i64 0, .int .i64 0]⟩ := by kernel_rfl
@[simp] theorem pr45 : pair2B Try.prog 45 = true := by kernel_rfl
@[simp] theorem ti80 : tiOf Try.prog 80 = some ⟨.slice 3 48 [.string ByteArray.empty, .slice none 0 0, .int .i64 0], 1, [.slice none 0 0]⟩ := by kernel_rfl
@[simp] theorem ti82 : tiOf Try.prog 82 = some ⟨.struct [(0, 1), (1, 1)], 2, [.string ByteArray.empty, .slice none 0 0]⟩ := by kernel_rfl
@[simp] theorem ti84 : tiOf Try.prog 84 = some ⟨.slice 3 48 [.string ByteArray.empty, .slice none 0 0, .int .i64 0], 1, [.slice none 0 0]⟩ := by kernel_rfl
@[simp] theorem ti86 : tiOf Try.prog 86 = some ⟨.struct [(0, 1), (1, 1)], 2, [.string ByteArray.empty, .slice none 0 0]⟩ := by kernel_rfl
@[simp] theorem ti132 : mapB Try.prog 132 = true := by kernel_rfl
@[simp] theorem ti133 : tiOf Try.prog 133 = some ⟨.slice 2 16 [.int .i64 0, .int .i64 0], 1, [.slice none 0 0]⟩ := by kernel_rfl
@[simp] theorem ti135 : tiOf Try.prog 135 = some ⟨.struct [(0, 1), (1, 1), (2, 1)], 3, [.string ByteArray.empty, .slice none 0 0, .int .i64 0]⟩ := by kernel_rfl
@[simp] theorem ti152 : tiOf Try.prog 152 = some ⟨.slice 2 16 [.int .i64 0, .int .i64 0], 1, [.slice none 0 0]⟩ := by kernel_rfl
@[simp] theorem ti154 : tiOf Try.prog 154 = some ⟨.struct [(0, 1), (1, 1), (2, 1)], 3, [.string ByteArray.empty, .slice none 0 0, .int .i64 0]⟩ := by kernel_rfl
attribute [simp] Try.underlying2 Try.underlying3 Try.underlying4 Try.underlying5 Try.underlying9 Try.underlying38 Try.underlying43 Try.underlying80 Try.underlying84 Try.underlying133 Try.underlying152 Try.results4 Try.results14 Try.results15 Try.results16 Try.results17 Try.results18 Try.results19 Try.results27 Try.results45 Try.results46 Try.results47 Try.results48 Try.results49 Try.results50 Try.results51 Try.results62 Try.results74 Try.results75 Try.results76 Try.results77 Try.results78 Try.results79 Try.results82 Try.results89 Try.results90 Try.results91 Try.results92 Try.results93 Try.results94 Try.results95 Try.results99 Try.results100 Try.results101 Try.results102 Try.results107 Try.results108 Try.results109 Try.results110 Try.results111 Try.results114 Try.results116

set_option maxRecDepth 100000 in
set_option maxHeartbeats 400000 in
theorem C.laws_szTypeS (B : Nat) (hB1 : 67108864 ≤ B) (hB2 : B ≤ 9223372036854775807) (a : List Vl.Ty) (left' : Int) (r : Int) (hF : F.laws_szTypeS a left' = some r) : PureCall Try.prog B 107 [.arr (List.map Vl.Ty.c a), .lit (.int .i64 left')] (.lit (.int .i64 r)) := by
  unfold F.laws_szTypeS at hF
  refine PureCall.enterLe Try.func107 (by kernel_rfl) rfl Try.ntmps107 (by simp) (by simp) ?_
  simp -dsimp
  repeat (refine chk.go (by first | omega | assumption | (simp_all; done) | (simp_all; omega)) ?_; simp -dsimp)
  refine abr.split (fun h1 => ?_) (fun h1 => ?_)
  · have q2 : (IntKind.i64.wrap (left' - (a.length : Int)) < 0) := by first | exact h1 | omega | (simpa using h1) | (simp at h1 ⊢; omega) | simp_all
    rw [if_pos q2] at hF
    cases hF
    simp -dsimp [h1]
    repeat (refine chk.go (by first | omega | assumption | (simp_all; done) | (simp_all; omega)) ?_; simp -dsimp [h1])
  · have q2 : ¬ (IntKind.i64.wrap (left' - (a.length : Int)) < 0) := by first | exact h1 | omega | (simpa using h1) | (simp at h1 ⊢; omega) | simp_all
    rw [if_neg q2] at hF
    cases hF
    simp -dsimp [h1, q2]
    repeat (refine chk.go (by first | omega | assumption | (simp_all; done) | (simp_all; omega)) ?_; simp -dsimp [h1, q2])

set_option maxRecDepth 100000 in
set_option maxHeartbeats 400000 in
theorem C.laws_szCtor (B : Nat) (hB1 : 67108864 ≤ B) (hB2 : B ≤ 9223372036854775807) (a : Vl.Ctor) (left' : Int) (r : Int) (hF : F.laws_szCtor a left' = some r) : PureCall Try.prog B 89 [.agg [.lit (.string a.name), .arr (List.map Vl.Ty.c a.args), .lit (.int .i64 a.index)], .lit (.int .i64 left')] (.lit (.int .i64 r)) := by
  unfold F.laws_szCtor at hF
  refine PureCall.enterLe Try.func89 (by kernel_rfl) rfl Try.ntmps89 (by simp) (by simp) ?_
  simp -dsimp
  repeat (refine chk.go (by first | omega | assumption | (simp_all; done) | (simp_all; omega)) ?_; simp -dsimp)
  refine abr.split (fun h1 => ?_) (fun h1 => ?_)
  · have q2 : (IntKind.i64.wrap (left' - (a.name.size : Int)) < 0) := by first | exact h1 | omega | (simpa using h1) | (simp at h1 ⊢; omega) | simp_all
    rw [if_pos q2] at hF
    cases hF
    simp -dsimp [h1]
    repeat (refine chk.go (by first | omega | assumption | (simp_all; done) | (simp_all; omega)) ?_; simp -dsimp [h1])
  · have q2 : ¬ (IntKind.i64.wrap (left' - (a.name.size : Int)) < 0) := by first | exact h1 | omega | (simpa using h1) | (simp at h1 ⊢; omega) | simp_all
    rw [if_neg q2] at hF
    simp -dsimp [h1, q2]
    repeat (refine chk.go (by first | omega | assumption | (simp_all; done) | (simp_all; omega)) ?_; simp -dsimp [h1, q2])
    have hF := ob hF; obtain ⟨v, e3, hF⟩ := hF
    refine ((C.laws_szTypeS B hB1 hB2 a.args (IntKind.i64.wrap (left' - (a.name.size : Int))) v e3)).goW (by simp) (by simp) ?_
    simp -dsimp [h1, q2]
    repeat (refine chk.go (by first | omega | assumption | (simp_all; done) | (simp_all; omega)) ?_; simp -dsimp [h1, q2])
    refine abr.split (fun h4 => ?_) (fun h4 => ?_)
    · have q5 : (v < 0) := by first | exact h4 | omega | (simpa using h4) | (simp at h4 ⊢; omega) | simp_all
      rw [if_pos q5] at hF
      cases hF
      simp -dsimp [h1, q2, h4]
      repeat (refine chk.go (by first | omega | assumption | (simp_all; done) | (simp_all; omega)) ?_; simp -dsimp [h1, q2, h4])
    · have q5 : ¬ (v < 0) := by first | exact h4 | omega | (simpa using h4) | (simp at h4 ⊢; omega) | simp_all
      rw [if_neg q5] at hF
      cases hF
      simp -dsimp [h1, q2, h4, q5]
      repeat (refine chk.go (by first | omega | assumption | (simp_all; done) | (simp_all; omega)) ?_; simp -dsimp [h1, q2, h4, q5])

set_option maxRecDepth 100000 in
set_option maxHeartbeats 400000 in
theorem CC.laws_szCtorS_l1 (B : Nat) (hB1 : 67108864 ≤ B) (hB2 : B ≤ 9223372036854775807) (a : List Vl.Ctor) : (∀ (left'3 : Int) (i : Nat) (o : Lo Int Int), F.laws_szCtorS_l1 a left'3 i = some o → ∀ (c : Code), navO [1, 1, 1, 0, 1, 0, 0] (bodyOf Try.f74) = some c → ∀ (Q : Exit → ASt → Prop), o.post (fun r => ∀ st, Post Try.prog Try.f74 (fun r' _ => r'.le (.lit (.int .i64 r))) .ret st → Q .ret st) (fun s => Q (.exit 0) ⟨[(1, .lit (.int .i64 s))], []⟩) → ALoopU Try.prog B 0 27 (hold c .mk) ⟨[(0, .arr (List.map Vl.Ctor.c a)), (1, .lit (.int .i64 left'3)), (5, .lit (.int .i64 (i : Int)))], []⟩ (hold Q .mk)) := by
  refine F.laws_szCtorS_l1.partial_correctness a
    (fun left'3 i o => ∀ (c : Code), navO [1, 1, 1, 0, 1, 0, 0] (bodyOf Try.f74) = some c → ∀ (Q : Exit → ASt → Prop), o.post (fun r => ∀ st, Post Try.prog Try.f74 (fun r' _ => r'.le (.lit (.int .i64 r))) .ret st → Q .ret st) (fun s => Q (.exit 0) ⟨[(1, .lit (.int .i64 s))], []⟩) → ALoopU Try.prog B 0 27 (hold c .mk) ⟨[(0, .arr (List.map Vl.Ctor.c a)), (1, .lit (.int .i64 left'3)), (5, .lit (.int .i64 (i : Int)))], []⟩ (hold Q .mk))
    ?_
  · intro _f_laws_szCtorS_l1 ih_laws_szCtorS_l1 left'3 i o hF
    intro c hc Q hq
    obtain rfl : c = _ := navEq hc rfl
    refine ALoopU.know fun hk hs => ?_
    have b0 := hk 0
    simp -dsimp at b0
    clear hk hs
    refine ALoopU.enter ?_
    simp -dsimp
    repeat (refine chk.go (by first | omega | assumption | (simp_all; done) | (simp_all; omega)) ?_; simp -dsimp)
    refine abr.split (fun h4 => ?_) (fun h4 => ?_)
    · have q5 : (i < a.length) := by first | exact h4 | omega | (simpa using h4) | (simp at h4 ⊢; omega) | simp_all
      have z6 : ((i : Int) < (a.length : Int)) := by first | omega | simp_all
      rw [if_pos q5] at hF
      have hF := ob hF; obtain ⟨x, e7, hF⟩ := hF
      have le7 := lt_of_get e7
      simp -dsimp [h4, z6, ↓e7]
      repeat (refine chk.go (by first | omega | assumption | (simp_all; done) | (simp_all; omega)) ?_; simp -dsimp [h4, z6, ↓e7])
      have hF := ob hF; obtain ⟨v, e8, hF⟩ := hF
      refine ((C.laws_szCtor B hB1 hB2 x left'3 v e8)).goW (by simp) (by simp) ?_
      simp -dsimp [h4, z6, ↓e7]
      repeat (refine chk.go (by first | omega | assumption | (simp_all; done) | (simp_all; omega)) ?_; simp -dsimp [h4, z6, ↓e7])
      refine abr.split (fun h9 => ?_) (fun h9 => ?_)
      · have q10 : (v < 0) := by first | exact h9 | omega | (simpa using h9) | (simp at h9 ⊢; omega) | simp_all
        rw [if_pos q10] at hF
        cases hF
        simp -dsimp [h4, z6, ↓e7, h9]
        repeat (refine chk.go (by first | omega | assumption | (simp_all; done) | (simp_all; omega)) ?_; simp -dsimp [h4, z6, ↓e7, h9])
        refine Leave.go _ (Gh.refl _) (hq _ ?_)
        simp -dsimp [h4, z6, ↓e7, h9]
        repeat (refine chk.go (by first | omega | assumption | (simp_all; done) | (simp_all; omega)) ?_; simp -dsimp [h4, z6, ↓e7, h9])
      · have q10 : ¬ (v < 0) := by first | exact h9 | omega | (simpa using h9) | (simp at h9 ⊢; omega) | simp_all
        rw [if_neg q10] at hF
        have w11 : IntKind.i64.wrap ((i : Int) + 1) = (i : Int) + 1 := wrap_in (by omega) (by omega)
        simp -dsimp [h4, z6, ↓e7, h9, q10, w11]
        repeat (refine chk.go (by first | omega | assumption | (simp_all; done) | (simp_all; omega)) ?_; simp -dsimp [h4, z6, ↓e7, h9, q10, w11])
        refine Again.go ⟨[(0, .arr (List.map Vl.Ctor.c a)), (1, .lit (.int .i64 v)), (5, .lit (.int .i64 ((i + 1) : Int)))], []⟩ (Gh.to (by simp) (by simp -dsimp) (by simp -dsimp) (by simp -dsimp)) ?_
        exact (ih_laws_szCtorS_l1 v (i + 1) o hF) _ rfl _ hq
    · have q5 : ¬ (i < a.length) := by first | exact h4 | omega | (simpa using h4) | (simp at h4 ⊢; omega) | simp_all
      have z6 : ¬ ((i : Int) < (a.length : Int)) := by first | omega | simp_all
      rw [if_neg q5] at hF
      cases hF
      simp -dsimp [h4, q5, z6]
      repeat (refine chk.go (by first | omega | assumption | (simp_all; done) | (simp_all; omega)) ?_; simp -dsimp [h4, q5, z6])
      refine Leave.go ⟨[(1, .lit (.int .i64 left'3))], []⟩ (Gh.to (by simp) (by simp -dsimp) (by simp -dsimp) (by simp -dsimp)) ?_
      exact hq

theorem C.laws_szCtorS_l1 (B : Nat) (hB1 : 67108864 ≤ B) (hB2 : B ≤ 9223372036854775807) (a : List Vl.Ctor) (left'3 : Int) (i : Nat) (o : Lo Int Int) (hF : F.laws_szCtorS_l1 a left'3 i = some o) : ∀ (c : Code), navO [1, 1, 1, 0, 1, 0, 0] (bodyOf Try.f74) = some c → ∀ (Q : Exit → ASt → Prop), o.post (fun r => ∀ st, Post Try.prog Try.f74 (fun r' _ => r'.le (.lit (.int .i64 r))) .ret st → Q .ret st) (fun s => Q (.exit 0) ⟨[(1, .lit (.int .i64 s))], []⟩) → ALoopU Try.prog B 0 27 (hold c .mk) ⟨[(0, .arr (List.map Vl.Ctor.c a)), (1, .lit (.int .i64 left'3)), (5, .lit (.int .i64 (i : Int)))], []⟩ (hold Q .mk) :=
  (CC.laws_szCtorS_l1 B hB1 hB2 a) left'3 i o hF

set_option maxRecDepth 100000 in
set_option maxHeartbeats 400000 in
theorem C.laws_szCtorS (B : Nat) (hB1 : 67108864 ≤ B) (hB2 : B ≤ 9223372036854775807) (a : List Vl.Ctor) (left' : Int) (r : Int) (hF : F.laws_szCtorS a left' = some r) : PureCall Try.prog B 74 [.arr (List.map Vl.Ctor.c a), .lit (.int .i64 left')] (.lit (.int .i64 r)) := by
  unfold F.laws_szCtorS at hF
  refine PureCall.enterLe Try.func74 (by kernel_rfl) rfl Try.ntmps74 (by simp) (by simp) ?_
  simp -dsimp
  repeat (refine chk.go (by first | omega | assumption | (simp_all; done) | (simp_all; omega)) ?_; simp -dsimp)
  refine abr.split (fun h1 => ?_) (fun h1 => ?_)
  · have q2 : (IntKind.i64.wrap (left' - (a.length : Int)) < 0) := by first | exact h1 | omega | (simpa using h1) | (simp at h1 ⊢; omega) | simp_all
    rw [if_pos q2] at hF
    cases hF
    simp -dsimp [h1]
    repeat (refine chk.go (by first | omega | assumption | (simp_all; done) | (simp_all; omega)) ?_; simp -dsimp [h1])
  · have q2 : ¬ (IntKind.i64.wrap (left' - (a.length : Int)) < 0) := by first | exact h1 | omega | (simpa using h1) | (simp at h1 ⊢; omega) | simp_all
    rw [if_neg q2] at hF
    simp -dsimp [h1, q2]
    repeat (refine chk.go (by first | omega | assumption | (simp_all; done) | (simp_all; omega)) ?_; simp -dsimp [h1, q2])
    have hF := ob hF; obtain ⟨o, ho12, hF⟩ := hF
    refine ALoop.goU ⟨[(0, .arr (List.map Vl.Ctor.c a)), (1, .lit (.int .i64 (IntKind.i64.wrap (left' - (a.length : Int))))), (5, .lit (.int .i64 (0 : Int)))], []⟩ (Gh.to (by simp) (by simp -dsimp) (by simp -dsimp) (by simp -dsimp)) ?_
    refine (C.laws_szCtorS_l1 B hB1 hB2 a (IntKind.i64.wrap (left' - (a.length : Int))) 0 o ho12) _ rfl _ ?_
    rcases o with r0 | s
    · dsimp only at hF
      cases hF
      intro st h
      simpa using h
    · dsimp only at hF
      cases hF
      simp -dsimp
      repeat (refine chk.go (by first | omega | assumption | (simp_all; done) | (simp_all; omega)) ?_; simp -dsimp)

set_option maxRecDepth 100000 in
set_option maxHeartbeats 400000 in
theorem C.laws_szData (B : Nat) (hB1 : 67108864 ≤ B) (hB2 : B ≤ 9223372036854775807) (a : Vl.Data) (left' : Int) (r : Int) (hF : F.laws_szData a left' = some r) : PureCall Try.prog B 45 [.agg [.lit (.string a.name), .arr (List.map Vl.Ctor.c a.ctors)], .lit (.int .i64 left')] (.lit (.int .i64 r)) := by
  unfold F.laws_szData at hF
  refine PureCall.enterLe Try.func45 (by kernel_rfl) rfl Try.ntmps45 (by simp) (by simp) ?_
  simp -dsimp
  repeat (refine chk.go (by first | omega | assumption | (simp_all; done) | (simp_all; omega)) ?_; simp -dsimp)
  refine abr.split (fun h1 => ?_) (fun h1 => ?_)
  · have q2 : (IntKind.i64.wrap (left' - (a.name.size : Int)) < 0) := by first | exact h1 | omega | (simpa using h1) | (simp at h1 ⊢; omega) | simp_all
    rw [if_pos q2] at hF
    cases hF
    simp -dsimp [h1]
    repeat (refine chk.go (by first | omega | assumption | (simp_all; done) | (simp_all; omega)) ?_; simp -dsimp [h1])
  · have q2 : ¬ (IntKind.i64.wrap (left' - (a.name.size : Int)) < 0) := by first | exact h1 | omega | (simpa using h1) | (simp at h1 ⊢; omega) | simp_all
    rw [if_neg q2] at hF
    simp -dsimp [h1, q2]
    repeat (refine chk.go (by first | omega | assumption | (simp_all; done) | (simp_all; omega)) ?_; simp -dsimp [h1, q2])
    have hF := ob hF; obtain ⟨v, e3, hF⟩ := hF
    refine ((C.laws_szCtorS B hB1 hB2 a.ctors (IntKind.i64.wrap (left' - (a.name.size : Int))) v e3)).goW (by simp) (by simp) ?_
    simp -dsimp [h1, q2]
    repeat (refine chk.go (by first | omega | assumption | (simp_all; done) | (simp_all; omega)) ?_; simp -dsimp [h1, q2])
    refine abr.split (fun h4 => ?_) (fun h4 => ?_)
    · have q5 : (v < 0) := by first | exact h4 | omega | (simpa using h4) | (simp at h4 ⊢; omega) | simp_all
      rw [if_pos q5] at hF
      cases hF
      simp -dsimp [h1, q2, h4]
      repeat (refine chk.go (by first | omega | assumption | (simp_all; done) | (simp_all; omega)) ?_; simp -dsimp [h1, q2, h4])
    · have q5 : ¬ (v < 0) := by first | exact h4 | omega | (simpa using h4) | (simp at h4 ⊢; omega) | simp_all
      rw [if_neg q5] at hF
      cases hF
      simp -dsimp [h1, q2, h4, q5]
      repeat (refine chk.go (by first | omega | assumption | (simp_all; done) | (simp_all; omega)) ?_; simp -dsimp [h1, q2, h4, q5])

set_option maxRecDepth 100000 in
set_option maxHeartbeats 400000 in
theorem CC.laws_szDataS_l1 (B : Nat) (hB1 : 67108864 ≤ B) (hB2 : B ≤ 9223372036854775807) (a : List Vl.Data) : (∀ (left'3 : Int) (i : Nat) (o : Lo Int Int), F.laws_szDataS_l1 a left'3 i = some o → ∀ (c : Code), navO [1, 1, 1, 0, 1, 0, 0] (bodyOf Try.f14) = some c → ∀ (Q : Exit → ASt → Prop), o.post (fun r => ∀ st, Post Try.prog Try.f14 (fun r' _ => r'.le (.lit (.int .i64 r))) .ret st → Q .ret st) (fun s => Q (.exit 0) ⟨[(1, .lit (.int .i64 s))], []⟩) → ALoopU Try.prog B 0 27 (hold c .mk) ⟨[(0, .arr (List.map Vl.Data.c a)), (1, .lit (.int .i64 left'3)), (5, .lit (.int .i64 (i : Int)))], []⟩ (hold Q .mk)) := by
  refine F.laws_szDataS_l1.partial_correctness a
    (fun left'3 i o => ∀ (c : Code), navO [1, 1, 1, 0, 1, 0, 0] (bodyOf Try.f14) = some c → ∀ (Q : Exit → ASt → Prop), o.post (fun r => ∀ st, Post Try.prog Try.f14 (fun r' _ => r'.le (.lit (.int .i64 r))) .ret st → Q .ret st) (fun s => Q (.exit 0) ⟨[(1, .lit (.int .i64 s))], []⟩) → ALoopU Try.prog B 0 27 (hold c .mk) ⟨[(0, .arr (List.map Vl.Data.c a)), (1, .lit (.int .i64 left'3)), (5, .lit (.int .i64 (i : Int)))], []⟩ (hold Q .mk))
    ?_
  · intro _f_laws_szDataS_l1 ih_laws_szDataS_l1 left'3 i o hF
    intro c hc Q hq
    obtain rfl : c = _ := navEq hc rfl
    refine ALoopU.know fun hk hs => ?_
    have b0 := hk 0
    simp -dsimp at b0
    clear hk hs
    refine ALoopU.enter ?_
    simp -dsimp
    repeat (refine chk.go (by first | omega | assumption | (simp_all; done) | (simp_all; omega)) ?_; simp -dsimp)
    refine abr.split (fun h4 => ?_) (fun h4 => ?_)
    · have q5 : (i < a.length) := by first | exact h4 | omega | (simpa using h4) | (simp at h4 ⊢; omega) | simp_all
      have z6 : ((i : Int) < (a.length : Int)) := by first | omega | simp_all
      rw [if_pos q5] at hF
      have hF := ob hF; obtain ⟨x, e7, hF⟩ := hF
      have le7 := lt_of_get e7
      simp -dsimp [h4, z6, ↓e7]
      repeat (refine chk.go (by first | omega | assumption | (simp_all; done) | (simp_all; omega)) ?_; simp -dsimp [h4, z6, ↓e7])
      have hF := ob hF; obtain ⟨v, e8, hF⟩ := hF
      refine ((C.laws_szData B hB1 hB2 x left'3 v e8)).goW (by simp) (by simp) ?_
      simp -dsimp [h4, z6, ↓e7]
      repeat (refine chk.go (by first | omega | assumption | (simp_all; done) | (simp_all; omega)) ?_; simp -dsimp [h4, z6, ↓e7])
      refine abr.split (fun h9 => ?_) (fun h9 => ?_)
      · have q10 : (v < 0) := by first | exact h9 | omega | (simpa using h9) | (simp at h9 ⊢; omega) | simp_all
        rw [if_pos q10] at hF
        cases hF
        simp -dsimp [h4, z6, ↓e7, h9]
        repeat (refine chk.go (by first | omega | assumption | (simp_all; done) | (simp_all; omega)) ?_; simp -dsimp [h4, z6, ↓e7, h9])
        refine Leave.go _ (Gh.refl _) (hq _ ?_)
        simp -dsimp [h4, z6, ↓e7, h9]
        repeat (refine chk.go (by first | omega | assumption | (simp_all; done) | (simp_all; omega)) ?_; simp -dsimp [h4, z6, ↓e7, h9])
      · have q10 : ¬ (v < 0) := by first | exact h9 | omega | (simpa using h9) | (simp at h9 ⊢; omega) | simp_all
        rw [if_neg q10] at hF
        have w11 : IntKind.i64.wrap ((i : Int) + 1) = (i : Int) + 1 := wrap_in (by omega) (by omega)
        simp -dsimp [h4, z6, ↓e7, h9, q10, w11]
        repeat (refine chk.go (by first | omega | assumption | (simp_all; done) | (simp_all; omega)) ?_; simp -dsimp [h4, z6, ↓e7, h9, q10, w11])
        refine Again.go ⟨[(0, .arr (List.map Vl.Data.c a)), (1, .lit (.int .i64 v)), (5, .lit (.int .i64 ((i + 1) : Int)))], []⟩ (Gh.to (by simp) (by simp -dsimp) (by simp -dsimp) (by simp -dsimp)) ?_
        exact (ih_laws_szDataS_l1 v (i + 1) o hF) _ rfl _ hq
    · have q5 : ¬ (i < a.length) := by first | exact h4 | omega | (simpa using h4) | (simp at h4 ⊢; omega) | simp_all
      have z6 : ¬ ((i : Int) < (a.length : Int)) := by first | omega | simp_all
      rw [if_neg q5] at hF
      cases hF
      simp -dsimp [h4, q5, z6]
      repeat (refine chk.go (by first | omega | assumption | (simp_all; done) | (simp_all; omega)) ?_; simp -dsimp [h4, q5, z6])
      refine Leave.go ⟨[(1, .lit (.int .i64 left'3))], []⟩ (Gh.to (by simp) (by simp -dsimp) (by simp -dsimp) (by simp -dsimp)) ?_
      exact hq

theorem C.laws_szDataS_l1 (B : Nat) (hB1 : 67108864 ≤ B) (hB2 : B ≤ 9223372036854775807) (a : List Vl.Data) (left'3 : Int) (i : Nat) (o : Lo Int Int) (hF : F.laws_szDataS_l1 a left'3 i = some o) : ∀ (c : Code), navO [1, 1, 1, 0, 1, 0, 0] (bodyOf Try.f14) = some c → ∀ (Q : Exit → ASt → Prop), o.post (fun r => ∀ st, Post Try.prog Try.f14 (fun r' _ => r'.le (.lit (.int .i64 r))) .ret st → Q .ret st) (fun s => Q (.exit 0) ⟨[(1, .lit (.int .i64 s))], []⟩) → ALoopU Try.prog B 0 27 (hold c .mk) ⟨[(0, .arr (List.map Vl.Data.c a)), (1, .lit (.int .i64 left'3)), (5, .lit (.int .i64 (i : Int)))], []⟩ (hold Q .mk) :=
  (CC.laws_szDataS_l1 B hB1 hB2 a) left'3 i o hF

set_option maxRecDepth 100000 in
set_option maxHeartbeats 400000 in
theorem C.laws_szDataS (B : Nat) (hB1 : 67108864 ≤ B) (hB2 : B ≤ 9223372036854775807) (a : List Vl.Data) (left' : Int) (r : Int) (hF : F.laws_szDataS a left' = some r) : PureCall Try.prog B 14 [.arr (List.map Vl.Data.c a), .lit (.int .i64 left')] (.lit (.int .i64 r)) := by
  unfold F.laws_szDataS at hF
  refine PureCall.enterLe Try.func14 (by kernel_rfl) rfl Try.ntmps14 (by simp) (by simp) ?_
  simp -dsimp
  repeat (refine chk.go (by first | omega | assumption | (simp_all; done) | (simp_all; omega)) ?_; simp -dsimp)
  refine abr.split (fun h1 => ?_) (fun h1 => ?_)
  · have q2 : (IntKind.i64.wrap (left' - (a.length : Int)) < 0) := by first | exact h1 | omega | (simpa using h1) | (simp at h1 ⊢; omega) | simp_all
    rw [if_pos q2] at hF
    cases hF
    simp -dsimp [h1]
    repeat (refine chk.go (by first | omega | assumption | (simp_all; done) | (simp_all; omega)) ?_; simp -dsimp [h1])
  · have q2 : ¬ (IntKind.i64.wrap (left' - (a.length : Int)) < 0) := by first | exact h1 | omega | (simpa using h1) | (simp at h1 ⊢; omega) | simp_all
    rw [if_neg q2] at hF
    simp -dsimp [h1, q2]
    repeat (refine chk.go (by first | omega | assumption | (simp_all; done) | (simp_all; omega)) ?_; simp -dsimp [h1, q2])
    have hF := ob hF; obtain ⟨o, ho12, hF⟩ := hF
    refine ALoop.goU ⟨[(0, .arr (List.map Vl.Data.c a)), (1, .lit (.int .i64 (IntKind.i64.wrap (left' - (a.length : Int))))), (5, .lit (.int .i64 (0 : Int)))], []⟩ (Gh.to (by simp) (by simp -dsimp) (by simp -dsimp) (by simp -dsimp)) ?_
    refine (C.laws_szDataS_l1 B hB1 hB2 a (IntKind.i64.wrap (left' - (a.length : Int))) 0 o ho12) _ rfl _ ?_
    rcases o with r0 | s
    · dsimp only at hF
      cases hF
      intro st h
      simpa using h
    · dsimp only at hF
      cases hF
      simp -dsimp
      repeat (refine chk.go (by first | omega | assumption | (simp_all; done) | (simp_all; omega)) ?_; simp -dsimp)

set_option maxRecDepth 100000 in
set_option maxHeartbeats 400000 in
theorem C.laws_toType (B : Nat) (hB1 : 67108864 ≤ B) (hB2 : B ≤ 9223372036854775807) (a : Vl.Ty) (r : Vl.Ty) (hF : F.laws_toType a = some r) : PureCall Try.prog B 17 [.agg [.lit (.int .i64 a.data), .lit (.int .i64 a.index)]] (.agg [.lit (.int .i64 r.data), .lit (.int .i64 r.index)]) := by
  unfold F.laws_toType at hF
  refine PureCall.enterLe Try.func17 (by kernel_rfl) rfl Try.ntmps17 (by simp) (by simp) ?_
  cases hF
  simp -dsimp
  repeat (refine chk.go (by first | omega | assumption | (simp_all; done) | (simp_all; omega)) ?_; simp -dsimp)

set_option maxRecDepth 100000 in
set_option maxHeartbeats 400000 in
theorem CC.laws_toTypeS_l1 (B : Nat) (hB1 : 67108864 ≤ B) (hB2 : B ≤ 9223372036854775807) (a : List Vl.Ty) : (∀ (out : List Vl.Ty) (i : Nat) (o : List Vl.Ty), F.laws_toTypeS_l1 a out i = some o → ∀ (c : Code), navO [1, 1, 0, 1, 0, 0] (bodyOf Try.f110) = some c → ∀ (Q : Exit → ASt → Prop), Q (.exit 0) ⟨[(3, .own 0 (List.length (α := Vl.Ty) o))], [.elems 2 (List.map Vl.Ty.c o)]⟩ → ALoopU Try.prog B 0 23 (hold c .mk) ⟨[(0, .arr (List.map Vl.Ty.c a)), (3, .own 0 (List.length (α := Vl.Ty) out)), (4, .lit (.int .i64 (i : Int)))], [.elems 2 (List.map Vl.Ty.c out)]⟩ (hold Q .mk)) := by
  refine F.laws_toTypeS_l1.partial_correctness a
    (fun out i o => ∀ (c : Code), navO [1, 1, 0, 1, 0, 0] (bodyOf Try.f110) = some c → ∀ (Q : Exit → ASt → Prop), Q (.exit 0) ⟨[(3, .own 0 (List.length (α := Vl.Ty) o))], [.elems 2 (List.map Vl.Ty.c o)]⟩ → ALoopU Try.prog B 0 23 (hold c .mk) ⟨[(0, .arr (List.map Vl.Ty.c a)), (3, .own 0 (List.length (α := Vl.Ty) out)), (4, .lit (.int .i64 (i : Int)))], [.elems 2 (List.map Vl.Ty.c out)]⟩ (hold Q .mk))
    ?_
  · intro _f_laws_toTypeS_l1 ih_laws_toTypeS_l1 out i o hF
    intro c hc Q hq
    obtain rfl : c = _ := navEq hc rfl
    refine ALoopU.know fun hk hs => ?_
    have b0 := hk 0
    simp -dsimp at b0
    have d0 := hs 0 _ rfl
    simp -dsimp [Blk.bnd] at d0
    clear hk hs
    refine ALoopU.enter ?_
    simp -dsimp
    repeat (refine chk.go (by first | omega | assumption | (simp_all; done) | (simp_all; omega)) ?_; simp -dsimp)
    refine abr.split (fun h2 => ?_) (fun h2 => ?_)
    · have q3 : (i < a.length) := by first | exact h2 | omega | (simpa using h2) | (simp at h2 ⊢; omega) | simp_all
      have z4 : ((i : Int) < (a.length : Int)) := by first | omega | simp_all
      rw [if_pos q3] at hF
      have hF := ob hF; obtain ⟨x, e5, hF⟩ := hF
      have le5 := lt_of_get e5
      simp -dsimp [h2, z4, ↓e5]
      repeat (refine chk.go (by first | omega | assumption | (simp_all; done) | (simp_all; omega)) ?_; simp -dsimp [h2, z4, ↓e5])
      have hF := ob hF; obtain ⟨v, e6, hF⟩ := hF
      refine ((C.laws_toType B hB1 hB2 x v e6)).goW (by simp) (by simp) ?_
      have hF := ob hF; obtain ⟨x7, e8, hF⟩ := hF
      have le8 := lt_of_get e8
      have w9 : IntKind.i64.wrap ((i : Int) + 1) = (i : Int) + 1 := wrap_in (by omega) (by omega)
      simp -dsimp [h2, z4, ↓e5, ↓e8, w9]
      repeat (refine chk.go (by first | omega | assumption | (simp_all; done) | (simp_all; omega)) ?_; simp -dsimp [h2, z4, ↓e5, ↓e8, w9])
      refine Again.go ⟨[(0, .arr (List.map Vl.Ty.c a)), (3, .own 0 (List.length (α := Vl.Ty) (out.set i v))), (4, .lit (.int .i64 ((i + 1) : Int)))], [.elems 2 (List.map Vl.Ty.c (out.set i v))]⟩ (Gh.to (by simp) (by simp -dsimp) (by simp -dsimp) (by simp -dsimp)) ?_
      exact (ih_laws_toTypeS_l1 (out.set i v) (i + 1) o hF) _ rfl _ hq
    · have q3 : ¬ (i < a.length) := by first | exact h2 | omega | (simpa using h2) | (simp at h2 ⊢; omega) | simp_all
      have z4 : ¬ ((i : Int) < (a.length : Int)) := by first | omega | simp_all
      rw [if_neg q3] at hF
      cases hF
      simp -dsimp [h2, q3, z4]
      repeat (refine chk.go (by first | omega | assumption | (simp_all; done) | (simp_all; omega)) ?_; simp -dsimp [h2, q3, z4])
      refine Leave.go ⟨[(3, .own 0 (List.length (α := Vl.Ty) out))], [.elems 2 (List.map Vl.Ty.c out)]⟩ (Gh.to (by simp) (by simp -dsimp) (by simp -dsimp) (by simp -dsimp)) ?_
      exact hq

theorem C.laws_toTypeS_l1 (B : Nat) (hB1 : 67108864 ≤ B) (hB2 : B ≤ 9223372036854775807) (a : List Vl.Ty) (out : List Vl.Ty) (i : Nat) (o : List Vl.Ty) (hF : F.laws_toTypeS_l1 a out i = some o) : ∀ (c : Code), navO [1, 1, 0, 1, 0, 0] (bodyOf Try.f110) = some c → ∀ (Q : Exit → ASt → Prop), Q (.exit 0) ⟨[(3, .own 0 (List.length (α := Vl.Ty) o))], [.elems 2 (List.map Vl.Ty.c o)]⟩ → ALoopU Try.prog B 0 23 (hold c .mk) ⟨[(0, .arr (List.map Vl.Ty.c a)), (3, .own 0 (List.length (α := Vl.Ty) out)), (4, .lit (.int .i64 (i : Int)))], [.elems 2 (List.map Vl.Ty.c out)]⟩ (hold Q .mk) :=
  (CC.laws_toTypeS_l1 B hB1 hB2 a) out i o hF

set_option maxRecDepth 100000 in
set_option maxHeartbeats 400000 in
theorem C.laws_toTypeS (B : Nat) (hB1 : 67108864 ≤ B) (hB2 : B ≤ 9223372036854775807) (a : List Vl.Ty) (r : List Vl.Ty) (hF : F.laws_toTypeS a = some r) : PureCall Try.prog B 110 [.arr (List.map Vl.Ty.c a)] (.arr (List.map Vl.Ty.c r)) := by
  unfold F.laws_toTypeS at hF
  refine PureCall.enterLe Try.func110 (by kernel_rfl) rfl Try.ntmps110 (by simp) (by simp) ?_
  have hF := oc hF; obtain ⟨c1, hF⟩ := hF
  simp -dsimp
  repeat (refine chk.go (by first | omega | assumption | (simp_all; done) | (simp_all; omega)) ?_; simp -dsimp)
  have hF := ob hF; obtain ⟨o, ho10, hF⟩ := hF
  refine ALoop.goU ⟨[(0, .arr (List.map Vl.Ty.c a)), (3, .own 0 (List.length (α := Vl.Ty) (List.replicate a.length Vl.Ty.z))), (4, .lit (.int .i64 (0 : Int)))], [.elems 2 (List.map Vl.Ty.c (List.replicate a.length Vl.Ty.z))]⟩ (Gh.to (by simp) (by simp -dsimp) (by simp -dsimp) (by simp -dsimp)) ?_
  refine (C.laws_toTypeS_l1 B hB1 hB2 a (List.replicate a.length Vl.Ty.z) 0 o ho10) _ rfl _ ?_
  cases hF
  simp -dsimp
  repeat (refine chk.go (by first | omega | assumption | (simp_all; done) | (simp_all; omega)) ?_; simp -dsimp)

set_option maxRecDepth 100000 in
set_option maxHeartbeats 400000 in
theorem C.laws_toCtor (B : Nat) (hB1 : 67108864 ≤ B) (hB2 : B ≤ 9223372036854775807) (a : Vl.Ctor) (r : Vl.Ctor) (hF : F.laws_toCtor a = some r) : PureCall Try.prog B 94 [.agg [.lit (.string a.name), .arr (List.map Vl.Ty.c a.args), .lit (.int .i64 a.index)]] (.agg [.lit (.string r.name), .arr (List.map Vl.Ty.c r.args), .lit (.int .i64 r.index)]) := by
  unfold F.laws_toCtor at hF
  refine PureCall.enterLe Try.func94 (by kernel_rfl) rfl Try.ntmps94 (by simp) (by simp) ?_
  simp -dsimp
  repeat (refine chk.go (by first | omega | assumption | (simp_all; done) | (simp_all; omega)) ?_; simp -dsimp)
  have hF := ob hF; obtain ⟨v, e1, hF⟩ := hF
  refine ((C.laws_toTypeS B hB1 hB2 a.args v e1)).goW (by simp) (by simp) ?_
  cases hF
  simp -dsimp
  repeat (refine chk.go (by first | omega | assumption | (simp_all; done) | (simp_all; omega)) ?_; simp -dsimp)

set_option maxRecDepth 100000 in
set_option maxHeartbeats 400000 in
theorem CC.laws_toCtorS_l1 (B : Nat) (hB1 : 67108864 ≤ B) (hB2 : B ≤ 9223372036854775807) (a : List Vl.Ctor) : (∀ (out : List Vl.Ctor) (i : Nat) (o : List Vl.Ctor), F.laws_toCtorS_l1 a out i = some o → ∀ (c : Code), navO [1, 1, 0, 1, 0, 0] (bodyOf Try.f77) = some c → ∀ (Q : Exit → ASt → Prop), Q (.exit 0) ⟨[(3, .own 0 (List.length (α := Vl.Ctor) o))], [.elems 3 (List.map Vl.Ctor.c o)]⟩ → ALoopU Try.prog B 0 23 (hold c .mk) ⟨[(0, .arr (List.map Vl.Ctor.c a)), (3, .own 0 (List.length (α := Vl.Ctor) out)), (4, .lit (.int .i64 (i : Int)))], [.elems 3 (List.map Vl.Ctor.c out)]⟩ (hold Q .mk)) := by
  refine F.laws_toCtorS_l1.partial_correctness a
    (fun out i o => ∀ (c : Code), navO [1, 1, 0, 1, 0, 0] (bodyOf Try.f77) = some c → ∀ (Q : Exit → ASt → Prop), Q (.exit 0) ⟨[(3, .own 0 (List.length (α := Vl.Ctor) o))], [.elems 3 (List.map Vl.Ctor.c o)]⟩ → ALoopU Try.prog B 0 23 (hold c .mk) ⟨[(0, .arr (List.map Vl.Ctor.c a)), (3, .own 0 (List.length (α := Vl.Ctor) out)), (4, .lit (.int .i64 (i : Int)))], [.elems 3 (List.map Vl.Ctor.c out)]⟩ (hold Q .mk))
    ?_
  · intro _f_laws_toCtorS_l1 ih_laws_toCtorS_l1 out i o hF
    intro c hc Q hq
    obtain rfl : c = _ := navEq hc rfl
    refine ALoopU.know fun hk hs => ?_
    have b0 := hk 0
    simp -dsimp at b0
    have d0 := hs 0 _ rfl
    simp -dsimp [Blk.bnd] at d0
    clear hk hs
    refine ALoopU.enter ?_
    simp -dsimp
    repeat (refine chk.go (by first | omega | assumption | (simp_all; done) | (simp_all; omega)) ?_; simp -dsimp)
    refine abr.split (fun h2 => ?_) (fun h2 => ?_)
    · have q3 : (i < a.length) := by first | exact h2 | omega | (simpa using h2) | (simp at h2 ⊢; omega) | simp_all
      have z4 : ((i : Int) < (a.length : Int)) := by first | omega | simp_all
      rw [if_pos q3] at hF
      have hF := ob hF; obtain ⟨x, e5, hF⟩ := hF
      have le5 := lt_of_get e5
      simp -dsimp [h2, z4, ↓e5]
      repeat (refine chk.go (by first | omega | assumption | (simp_all; done) | (simp_all; omega)) ?_; simp -dsimp [h2, z4, ↓e5])
      have hF := ob hF; obtain ⟨v, e6, hF⟩ := hF
      refine ((C.laws_toCtor B hB1 hB2 x v e6)).goW (by simp) (by simp) ?_
      have hF := ob hF; obtain ⟨x7, e8, hF⟩ := hF
      have le8 := lt_of_get e8
      have w9 : IntKind.i64.wrap ((i : Int) + 1) = (i : Int) + 1 := wrap_in (by omega) (by omega)
      simp -dsimp [h2, z4, ↓e5, ↓e8, w9]
      repeat (refine chk.go (by first | omega | assumption | (simp_all; done) | (simp_all; omega)) ?_; simp -dsimp [h2, z4, ↓e5, ↓e8, w9])
      refine Again.go ⟨[(0, .arr (List.map Vl.Ctor.c a)), (3, .own 0 (List.length (α := Vl.Ctor) (out.set i v))), (4, .lit (.int .i64 ((i + 1) : Int)))], [.elems 3 (List.map Vl.Ctor.c (out.set i v))]⟩ (Gh.to (by simp) (by simp -dsimp) (by simp -dsimp) (by simp -dsimp)) ?_
      exact (ih_laws_toCtorS_l1 (out.set i v) (i + 1) o hF) _ rfl _ hq
    · have q3 : ¬ (i < a.length) := by first | exact h2 | omega | (simpa using h2) | (simp at h2 ⊢; omega) | simp_all
      have z4 : ¬ ((i : Int) < (a.length : Int)) := by first | omega | simp_all
      rw [if_neg q3] at hF
      cases hF
      simp -dsimp [h2, q3, z4]
      repeat (refine chk.go (by first | omega | assumption | (simp_all; done) | (simp_all; omega)) ?_; simp -dsimp [h2, q3, z4])
      refine Leave.go ⟨[(3, .own 0 (List.length (α := Vl.Ctor) out))], [.elems 3 (List.map Vl.Ctor.c out)]⟩ (Gh.to (by simp) (by simp -dsimp) (by simp -dsimp) (by simp -dsimp)) ?_
      exact hq

theorem C.laws_toCtorS_l1 (B : Nat) (hB1 : 67108864 ≤ B) (hB2 : B ≤ 9223372036854775807) (a : List Vl.Ctor) (out : List Vl.Ctor) (i : Nat) (o : List Vl.Ctor) (hF : F.laws_toCtorS_l1 a out i = some o) : ∀ (c : Code), navO [1, 1, 0, 1, 0, 0] (bodyOf Try.f77) = some c → ∀ (Q : Exit → ASt → Prop), Q (.exit 0) ⟨[(3, .own 0 (List.length (α := Vl.Ctor) o))], [.elems 3 (List.map Vl.Ctor.c o)]⟩ → ALoopU Try.prog B 0 23 (hold c .mk) ⟨[(0, .arr (List.map Vl.Ctor.c a)), (3, .own 0 (List.length (α := Vl.Ctor) out)), (4, .lit (.int .i64 (i : Int)))], [.elems 3 (List.map Vl.Ctor.c out)]⟩ (hold Q .mk) :=
  (CC.laws_toCtorS_l1 B hB1 hB2 a) out i o hF

set_option maxRecDepth 100000 in
set_option maxHeartbeats 400000 in
theorem C.laws_toCtorS (B : Nat) (hB1 : 67108864 ≤ B) (hB2 : B ≤ 9223372036854775807) (a : List Vl.Ctor) (r : List Vl.Ctor) (hF : F.laws_toCtorS a = some r) : PureCall Try.prog B 77 [.arr (List.map Vl.Ctor.c a)] (.arr (List.map Vl.Ctor.c r)) := by
  unfold F.laws_toCtorS at hF
  refine PureCall.enterLe Try.func77 (by kernel_rfl) rfl Try.ntmps77 (by simp) (by simp) ?_
  have hF := oc hF; obtain ⟨c1, hF⟩ := hF
  simp -dsimp
  repeat (refine chk.go (by first | omega | assumption | (simp_all; done) | (simp_all; omega)) ?_; simp -dsimp)
  have hF := ob hF; obtain ⟨o, ho10, hF⟩ := hF
  refine ALoop.goU ⟨[(0, .arr (List.map Vl.Ctor.c a)), (3, .own 0 (List.length (α := Vl.Ctor) (List.replicate a.length Vl.Ctor.z))), (4, .lit (.int .i64 (0 : Int)))], [.elems 3 (List.map Vl.Ctor.c (List.replicate a.length Vl.Ctor.z))]⟩ (Gh.to (by simp) (by simp -dsimp) (by simp -dsimp) (by simp -dsimp)) ?_
  refine (C.laws_toCtorS_l1 B hB1 hB2 a (List.replicate a.length Vl.Ctor.z) 0 o ho10) _ rfl _ ?_
  cases hF
  simp -dsimp
  repeat (refine chk.go (by first | omega | assumption | (simp_all; done) | (simp_all; omega)) ?_; simp -dsimp)

set_option maxRecDepth 100000 in
set_option maxHeartbeats 400000 in
theorem C.laws_toData (B : Nat) (hB1 : 67108864 ≤ B) (hB2 : B ≤ 9223372036854775807) (a : Vl.Data) (r : Vl.Data) (hF : F.laws_toData a = some r) : PureCall Try.prog B 48 [.agg [.lit (.string a.name), .arr (List.map Vl.Ctor.c a.ctors)]] (.agg [.lit (.string r.name), .arr (List.map Vl.Ctor.c r.ctors)]) := by
  unfold F.laws_toData at hF
  refine PureCall.enterLe Try.func48 (by kernel_rfl) rfl Try.ntmps48 (by simp) (by simp) ?_
  simp -dsimp
  repeat (refine chk.go (by first | omega | assumption | (simp_all; done) | (simp_all; omega)) ?_; simp -dsimp)
  have hF := ob hF; obtain ⟨v, e1, hF⟩ := hF
  refine ((C.laws_toCtorS B hB1 hB2 a.ctors v e1)).goW (by simp) (by simp) ?_
  cases hF
  simp -dsimp
  repeat (refine chk.go (by first | omega | assumption | (simp_all; done) | (simp_all; omega)) ?_; simp -dsimp)

set_option maxRecDepth 100000 in
set_option maxHeartbeats 400000 in
theorem CC.laws_toDataS_l1 (B : Nat) (hB1 : 67108864 ≤ B) (hB2 : B ≤ 9223372036854775807) (a : List Vl.Data) : (∀ (out : List Vl.Data) (i : Nat) (o : List Vl.Data), F.laws_toDataS_l1 a out i = some o → ∀ (c : Code), navO [1, 1, 0, 1, 0, 0] (bodyOf Try.f16) = some c → ∀ (Q : Exit → ASt → Prop), Q (.exit 0) ⟨[(3, .own 0 (List.length (α := Vl.Data) o))], [.elems 2 (List.map Vl.Data.c o)]⟩ → ALoopU Try.prog B 0 23 (hold c .mk) ⟨[(0, .arr (List.map Vl.Data.c a)), (3, .own 0 (List.length (α := Vl.Data) out)), (4, .lit (.int .i64 (i : Int)))], [.elems 2 (List.map Vl.Data.c out)]⟩ (hold Q .mk)) := by
  refine F.laws_toDataS_l1.partial_correctness a
    (fun out i o => ∀ (c : Code), navO [1, 1, 0, 1, 0, 0] (bodyOf Try.f16) = some c → ∀ (Q : Exit → ASt → Prop), Q (.exit 0) ⟨[(3, .own 0 (List.length (α := Vl.Data) o))], [.elems 2 (List.map Vl.Data.c o)]⟩ → ALoopU Try.prog B 0 23 (hold c .mk) ⟨[(0, .arr (List.map Vl.Data.c a)), (3, .own 0 (List.length (α := Vl.Data) out)), (4, .lit (.int .i64 (i : Int)))], [.elems 2 (List.map Vl.Data.c out)]⟩ (hold Q .mk))
    ?_
  · intro _f_laws_toDataS_l1 ih_laws_toDataS_l1 out i o hF
    intro c hc Q hq
    obtain rfl : c = _ := navEq hc rfl
    refine ALoopU.know fun hk hs => ?_
    have b0 := hk 0
    simp -dsimp at b0
    have d0 := hs 0 _ rfl
    simp -dsimp [Blk.bnd] at d0
    clear hk hs
    refine ALoopU.enter ?_
    simp -dsimp
    repeat (refine chk.go (by first | omega | assumption | (simp_all; done) | (simp_all; omega)) ?_; simp -dsimp)
    refine abr.split (fun h2 => ?_) (fun h2 => ?_)
    · have q3 : (i < a.length) := by first | exact h2 | omega | (simpa using h2) | (simp at h2 ⊢; omega) | simp_all
      have z4 : ((i : Int) < (a.length : Int)) := by first | omega | simp_all
      rw [if_pos q3] at hF
      have hF := ob hF; obtain ⟨x, e5, hF⟩ := hF
      have le5 := lt_of_get e5
      simp -dsimp [h2, z4, ↓e5]
      repeat (refine chk.go (by first | omega | assumption | (simp_all; done) | (simp_all; omega)) ?_; simp -dsimp [h2, z4, ↓e5])
      have hF := ob hF; obtain ⟨v, e6, hF⟩ := hF
      refine ((C.laws_toData B hB1 hB2 x v e6)).goW (by simp) (by simp) ?_
      have hF := ob hF; obtain ⟨x7, e8, hF⟩ := hF
      have le8 := lt_of_get e8
      have w9 : IntKind.i64.wrap ((i : Int) + 1) = (i : Int) + 1 := wrap_in (by omega) (by omega)
      simp -dsimp [h2, z4, ↓e5, ↓e8, w9]
      repeat (refine chk.go (by first | omega | assumption | (simp_all; done) | (simp_all; omega)) ?_; simp -dsimp [h2, z4, ↓e5, ↓e8, w9])
      refine Again.go ⟨[(0, .arr (List.map Vl.Data.c a)), (3, .own 0 (List.length (α := Vl.Data) (out.set i v))), (4, .lit (.int .i64 ((i + 1) : Int)))], [.elems 2 (List.map Vl.Data.c (out.set i v))]⟩ (Gh.to (by simp) (by simp -dsimp) (by simp -dsimp) (by simp -dsimp)) ?_
      exact (ih_laws_toDataS_l1 (out.set i v) (i + 1) o hF) _ rfl _ hq
    · have q3 : ¬ (i < a.length) := by first | exact h2 | omega | (simpa using h2) | (simp at h2 ⊢; omega) | simp_all
      have z4 : ¬ ((i : Int) < (a.length : Int)) := by first | omega | simp_all
      rw [if_neg q3] at hF
      cases hF
      simp -dsimp [h2, q3, z4]
      repeat (refine chk.go (by first | omega | assumption | (simp_all; done) | (simp_all; omega)) ?_; simp -dsimp [h2, q3, z4])
      refine Leave.go ⟨[(3, .own 0 (List.length (α := Vl.Data) out))], [.elems 2 (List.map Vl.Data.c out)]⟩ (Gh.to (by simp) (by simp -dsimp) (by simp -dsimp) (by simp -dsimp)) ?_
      exact hq

theorem C.laws_toDataS_l1 (B : Nat) (hB1 : 67108864 ≤ B) (hB2 : B ≤ 9223372036854775807) (a : List Vl.Data) (out : List Vl.Data) (i : Nat) (o : List Vl.Data) (hF : F.laws_toDataS_l1 a out i = some o) : ∀ (c : Code), navO [1, 1, 0, 1, 0, 0] (bodyOf Try.f16) = some c → ∀ (Q : Exit → ASt → Prop), Q (.exit 0) ⟨[(3, .own 0 (List.length (α := Vl.Data) o))], [.elems 2 (List.map Vl.Data.c o)]⟩ → ALoopU Try.prog B 0 23 (hold c .mk) ⟨[(0, .arr (List.map Vl.Data.c a)), (3, .own 0 (List.length (α := Vl.Data) out)), (4, .lit (.int .i64 (i : Int)))], [.elems 2 (List.map Vl.Data.c out)]⟩ (hold Q .mk) :=
  (CC.laws_toDataS_l1 B hB1 hB2 a) out i o hF

set_option maxRecDepth 100000 in
set_option maxHeartbeats 400000 in
theorem C.laws_toDataS (B : Nat) (hB1 : 67108864 ≤ B) (hB2 : B ≤ 9223372036854775807) (a : List Vl.Data) (r : List Vl.Data) (hF : F.laws_toDataS a = some r) : PureCall Try.prog B 16 [.arr (List.map Vl.Data.c a)] (.arr (List.map Vl.Data.c r)) := by
  unfold F.laws_toDataS at hF
  refine PureCall.enterLe Try.func16 (by kernel_rfl) rfl Try.ntmps16 (by simp) (by simp) ?_
  have hF := oc hF; obtain ⟨c1, hF⟩ := hF
  simp -dsimp
  repeat (refine chk.go (by first | omega | assumption | (simp_all; done) | (simp_all; omega)) ?_; simp -dsimp)
  have hF := ob hF; obtain ⟨o, ho10, hF⟩ := hF
  refine ALoop.goU ⟨[(0, .arr (List.map Vl.Data.c a)), (3, .own 0 (List.length (α := Vl.Data) (List.replicate a.length Vl.Data.z))), (4, .lit (.int .i64 (0 : Int)))], [.elems 2 (List.map Vl.Data.c (List.replicate a.length Vl.Data.z))]⟩ (Gh.to (by simp) (by simp -dsimp) (by simp -dsimp) (by simp -dsimp)) ?_
  refine (C.laws_toDataS_l1 B hB1 hB2 a (List.replicate a.length Vl.Data.z) 0 o ho10) _ rfl _ ?_
  cases hF
  simp -dsimp
  repeat (refine chk.go (by first | omega | assumption | (simp_all; done) | (simp_all; omega)) ?_; simp -dsimp)

set_option maxRecDepth 100000 in
set_option maxHeartbeats 400000 in
theorem C.spec_l1Big (B : Nat) (hB1 : 67108864 ≤ B) (hB2 : B ≤ 9223372036854775807) (c' : Int) (r : Bool) (hF : F.spec_l1Big c' = some r) : PureCall Try.prog B 108 [.lit (.int .u8 c')] (.lit (.bool r)) := by
  unfold F.spec_l1Big at hF
  refine PureCall.enterLe Try.func108 (by kernel_rfl) rfl Try.ntmps108 (by simp) (by simp) ?_
  simp -dsimp
  repeat (refine chk.go (by first | omega | assumption | (simp_all; done) | (simp_all; omega)) ?_; simp -dsimp)
  refine abr.split (fun h1 => ?_) (fun h1 => ?_)
  · have q2 : (65 ≤ c') := by first | exact h1 | omega | (simpa using h1) | (simp at h1 ⊢; omega) | simp_all
    rw [if_pos q2] at hF
    cases hF
    simp -dsimp [h1]
    repeat (refine chk.go (by first | omega | assumption | (simp_all; done) | (simp_all; omega)) ?_; simp -dsimp [h1])
  · have q2 : ¬ (65 ≤ c') := by first | exact h1 | omega | (simpa using h1) | (simp at h1 ⊢; omega) | simp_all
    rw [if_neg q2] at hF
    cases hF
    simp -dsimp [h1, q2]
    repeat (refine chk.go (by first | omega | assumption | (simp_all; done) | (simp_all; omega)) ?_; simp -dsimp [h1, q2])

set_option maxRecDepth 100000 in
set_option maxHeartbeats 400000 in
theorem C.spec_l1Data (B : Nat) (hB1 : 67108864 ≤ B) (hB2 : B ≤ 9223372036854775807) (s : ByteArray) (r : Bool) (hF : F.spec_l1Data s = some r) : PureCall Try.prog B 90 [.lit (.string s)] (.lit (.bool r)) := by
  unfold F.spec_l1Data at hF
  refine PureCall.enterLe Try.func90 (by kernel_rfl) rfl Try.ntmps90 (by simp) (by simp) ?_
  simp -dsimp
  repeat (refine chk.go (by first | omega | assumption | (simp_all; done) | (simp_all; omega)) ?_; simp -dsimp)
  refine abr.split (fun h1 => ?_) (fun h1 => ?_)
  · have q2 : (s.size = 1) := by first | exact h1 | omega | (simpa using h1) | (simp at h1 ⊢; omega) | simp_all
    have z3 : ((s.size : Int) = (1 : Int)) := by first | omega | simp_all
    rw [if_pos q2] at hF
    have hF := oc hF; obtain ⟨c4, hF⟩ := hF
    simp -dsimp [h1, z3]
    repeat (refine chk.go (by first | omega | assumption | (simp_all; done) | (simp_all; omega)) ?_; simp -dsimp [h1, z3])
    have hF := ob hF; obtain ⟨v, e5, hF⟩ := hF
    refine ((C.spec_l1Big B hB1 hB2 ((byteAt s 0 : Nat) : Int) v e5)).goW (by simp) (by simp) ?_
    simp -dsimp [h1, z3]
    repeat (refine chk.go (by first | omega | assumption | (simp_all; done) | (simp_all; omega)) ?_; simp -dsimp [h1, z3])
    refine abr.split (fun h6 => ?_) (fun h6 => ?_)
    · have q7 : (v = true) := by first | exact h6 | omega | (simpa using h6) | (simp at h6 ⊢; omega) | simp_all
      rw [if_pos q7] at hF
      cases hF
      simp -dsimp [h1, z3, h6]
      repeat (refine chk.go (by first | omega | assumption | (simp_all; done) | (simp_all; omega)) ?_; simp -dsimp [h1, z3, h6])
    · have q7 : ¬ (v = true) := by first | exact h6 | omega | (simpa using h6) | (simp at h6 ⊢; omega) | simp_all
      rw [if_neg q7] at hF
      cases hF
      simp -dsimp [h1, z3, h6, q7]
      repeat (refine chk.go (by first | omega | assumption | (simp_all; done) | (simp_all; omega)) ?_; simp -dsimp [h1, z3, h6, q7])
  · have q2 : ¬ (s.size = 1) := by first | exact h1 | omega | (simpa using h1) | (simp at h1 ⊢; omega) | simp_all
    have z3 : ¬ ((s.size : Int) = (1 : Int)) := by first | omega | simp_all
    rw [if_neg q2] at hF
    cases hF
    simp -dsimp [h1, q2, z3]
    repeat (refine chk.go (by first | omega | assumption | (simp_all; done) | (simp_all; omega)) ?_; simp -dsimp [h1, q2, z3])

set_option maxRecDepth 100000 in
set_option maxHeartbeats 400000 in
theorem CC.spec_NameValid_l1 (B : Nat) (hB1 : 67108864 ≤ B) (hB2 : B ≤ 9223372036854775807) (s : ByteArray) : (∀ (i : Nat) (o : Lo Bool Unit), F.spec_NameValid_l1 s i = some o → ∀ (c : Code), navO [1, 1, 0, 1, 0, 0] (bodyOf Try.f109) = some c → ∀ (Q : Exit → ASt → Prop), o.post (fun r => ∀ st, Post Try.prog Try.f109 (fun r' _ => r'.le (.lit (.bool r))) .ret st → Q .ret st) (fun s => Q (.exit 0) ⟨[], []⟩) → ALoopU Try.prog B 0 34 (hold c .mk) ⟨[(0, .lit (.string s)), (3, .lit (.int .i64 (i : Int)))], []⟩ (hold Q .mk)) := by
  refine F.spec_NameValid_l1.partial_correctness s
    (fun i o => ∀ (c : Code), navO [1, 1, 0, 1, 0, 0] (bodyOf Try.f109) = some c → ∀ (Q : Exit → ASt → Prop), o.post (fun r => ∀ st, Post Try.prog Try.f109 (fun r' _ => r'.le (.lit (.bool r))) .ret st → Q .ret st) (fun s => Q (.exit 0) ⟨[], []⟩) → ALoopU Try.prog B 0 34 (hold c .mk) ⟨[(0, .lit (.string s)), (3, .lit (.int .i64 (i : Int)))], []⟩ (hold Q .mk))
    ?_
  · intro _f_spec_NameValid_l1 ih_spec_NameValid_l1 i o hF
    intro c hc Q hq
    obtain rfl : c = _ := navEq hc rfl
    refine ALoopU.know fun hk hs => ?_
    clear hk hs
    refine ALoopU.enter ?_
    simp -dsimp
    repeat (refine chk.go (by first | omega | assumption | (simp_all; done) | (simp_all; omega)) ?_; simp -dsimp)
    refine abr.split (fun h11 => ?_) (fun h11 => ?_)
    · have q12 : (i < s.size) := by first | exact h11 | omega | (simpa using h11) | (simp at h11 ⊢; omega) | simp_all
      have z13 : ((i : Int) < (s.size : Int)) := by first | omega | simp_all
      rw [if_pos q12] at hF
      simp -dsimp [h11, z13]
      repeat (refine chk.go (by first | omega | assumption | (simp_all; done) | (simp_all; omega)) ?_; simp -dsimp [h11, z13])
      refine abr.split (fun h14 => ?_) (fun h14 => ?_)
      · have q15 : ¬ (byteAt s i < 97) := by first | exact h14 | omega | (simpa using h14) | (simp at h14 ⊢; omega) | simp_all
        have z16 : ¬ (((byteAt s i : Nat) : Int) < (97 : Int)) := by first | omega | simp_all
        rw [if_neg q15] at hF
        simp -dsimp [h11, z13, h14, q15, z16]
        repeat (refine chk.go (by first | omega | assumption | (simp_all; done) | (simp_all; omega)) ?_; simp -dsimp [h11, z13, h14, q15, z16])
        refine abr.split (fun h17 => ?_) (fun h17 => ?_)
        · have q18 : (122 < byteAt s i) := by first | exact h17 | omega | (simpa using h17) | (simp at h17 ⊢; omega) | simp_all
          have z19 : ((122 : Int) < ((byteAt s i : Nat) : Int)) := by first | omega | simp_all
          rw [if_pos q18] at hF
          cases hF
          simp -dsimp [h11, z13, h14, q15, z16, h17, z19]
          repeat (refine chk.go (by first | omega | assumption | (simp_all; done) | (simp_all; omega)) ?_; simp -dsimp [h11, z13, h14, q15, z16, h17, z19])
          refine Leave.go _ (Gh.refl _) (hq _ ?_)
          simp -dsimp [h11, z13, h14, q15, z16, h17, z19]
          repeat (refine chk.go (by first | omega | assumption | (simp_all; done) | (simp_all; omega)) ?_; simp -dsimp [h11, z13, h14, q15, z16, h17, z19])
        · have q18 : ¬ (122 < byteAt s i) := by first | exact h17 | omega | (simpa using h17) | (simp at h17 ⊢; omega) | simp_all
          have z19 : ¬ ((122 : Int) < ((byteAt s i : Nat) : Int)) := by first | omega | simp_all
          rw [if_neg q18] at hF
          have hF := oc hF; obtain ⟨c20, hF⟩ := hF
          have w21 : IntKind.i64.wrap ((i : Int) + 1) = (i : Int) + 1 := wrap_in (by omega) (by omega)
          simp -dsimp [h11, z13, h14, q15, z16, h17, q18, z19, w21]
          repeat (refine chk.go (by first | omega | assumption | (simp_all; done) | (simp_all; omega)) ?_; simp -dsimp [h11, z13, h14, q15, z16, h17, q18, z19, w21])
          refine Again.go ⟨[(0, .lit (.string s)), (3, .lit (.int .i64 ((i + 1) : Int)))], []⟩ (Gh.to (by simp) (by simp -dsimp) (by simp -dsimp) (by simp -dsimp)) ?_
          exact (ih_spec_NameValid_l1 (i + 1) o hF) _ rfl _ hq
      · have q15 : (byteAt s i < 97) := by first | exact h14 | omega | (simpa using h14) | (simp at h14 ⊢; omega) | simp_all
        have z16 : (((byteAt s i : Nat) : Int) < (97 : Int)) := by first | omega | simp_all
        rw [if_pos q15] at hF
        cases hF
        simp -dsimp [h11, z13, h14, q15, z16]
        repeat (refine chk.go (by first | omega | assumption | (simp_all; done) | (simp_all; omega)) ?_; simp -dsimp [h11, z13, h14, q15, z16])
        refine Leave.go _ (Gh.refl _) (hq _ ?_)
        simp -dsimp [h11, z13, h14, q15, z16]
        repeat (refine chk.go (by first | omega | assumption | (simp_all; done) | (simp_all; omega)) ?_; simp -dsimp [h11, z13, h14, q15, z16])
    · have q12 : ¬ (i < s.size) := by first | exact h11 | omega | (simpa using h11) | (simp at h11 ⊢; omega) | simp_all
      have z13 : ¬ ((i : Int) < (s.size : Int)) := by first | omega | simp_all
      rw [if_neg q12] at hF
      cases hF
      simp -dsimp [h11, q12, z13]
      repeat (refine chk.go (by first | omega | assumption | (simp_all; done) | (simp_all; omega)) ?_; simp -dsimp [h11, q12, z13])
      refine Leave.go ⟨[], []⟩ (Gh.to (by simp) (by simp -dsimp) (by simp -dsimp) (by simp -dsimp)) ?_
      exact hq

theorem C.spec_NameValid_l1 (B : Nat) (hB1 : 67108864 ≤ B) (hB2 : B ≤ 9223372036854775807) (s : ByteArray) (i : Nat) (o : Lo Bool Unit) (hF : F.spec_NameValid_l1 s i = some o) : ∀ (c : Code), navO [1, 1, 0, 1, 0, 0] (bodyOf Try.f109) = some c → ∀ (Q : Exit → ASt → Prop), o.post (fun r => ∀ st, Post Try.prog Try.f109 (fun r' _ => r'.le (.lit (.bool r))) .ret st → Q .ret st) (fun s => Q (.exit 0) ⟨[], []⟩) → ALoopU Try.prog B 0 34 (hold c .mk) ⟨[(0, .lit (.string s)), (3, .lit (.int .i64 (i : Int)))], []⟩ (hold Q .mk) :=
  (CC.spec_NameValid_l1 B hB1 hB2 s) i o hF

set_option maxRecDepth 100000 in
set_option maxHeartbeats 400000 in
theorem C.spec_NameValid (B : Nat) (hB1 : 67108864 ≤ B) (hB2 : B ≤ 9223372036854775807) (s : ByteArray) (r : Bool) (hF : F.spec_NameValid s = some r) : PureCall Try.prog B 109 [.lit (.string s)] (.lit (.bool r)) := by
  unfold F.spec_NameValid at hF
  refine PureCall.enterLe Try.func109 (by kernel_rfl) rfl Try.ntmps109 (by simp) (by simp) ?_
  simp -dsimp
  repeat (refine chk.go (by first | omega | assumption | (simp_all; done) | (simp_all; omega)) ?_; simp -dsimp)
  refine abr.split (fun h1 => ?_) (fun h1 => ?_)
  · have q2 : ¬ (s.size = 0) := by first | exact h1 | omega | (simpa using h1) | (simp at h1 ⊢; omega) | simp_all
    have z3 : ¬ ((s.size : Int) = (0 : Int)) := by first | omega | simp_all
    rw [if_neg q2] at hF
    simp -dsimp [h1, q2, z3]
    repeat (refine chk.go (by first | omega | assumption | (simp_all; done) | (simp_all; omega)) ?_; simp -dsimp [h1, q2, z3])
    refine abr.split (fun h4 => ?_) (fun h4 => ?_)
    · have q5 : ¬ (5 < s.size) := by first | exact h4 | omega | (simpa using h4) | (simp at h4 ⊢; omega) | simp_all
      have z6 : ¬ ((5 : Int) < (s.size : Int)) := by first | omega | simp_all
      rw [if_neg q5] at hF
      have hF := oc hF; obtain ⟨c7, hF⟩ := hF
      simp -dsimp [h1, q2, z3, h4, q5, z6]
      repeat (refine chk.go (by first | omega | assumption | (simp_all; done) | (simp_all; omega)) ?_; simp -dsimp [h1, q2, z3, h4, q5, z6])
      have hF := ob hF; obtain ⟨v, e8, hF⟩ := hF
      refine ((C.spec_l1Big B hB1 hB2 ((byteAt s 0 : Nat) : Int) v e8)).goW (by simp) (by simp) ?_
      simp -dsimp [h1, q2, z3, h4, q5, z6]
      repeat (refine chk.go (by first | omega | assumption | (simp_all; done) | (simp_all; omega)) ?_; simp -dsimp [h1, q2, z3, h4, q5, z6])
      refine abr.split (fun h9 => ?_) (fun h9 => ?_)
      · have q10 : ¬ (v = true) := by first | exact h9 | omega | (simpa using h9) | (simp at h9 ⊢; omega) | simp_all
        rw [if_neg q10] at hF
        cases hF
        simp -dsimp [h1, q2, z3, h4, q5, z6, h9, q10]
        repeat (refine chk.go (by first | omega | assumption | (simp_all; done) | (simp_all; omega)) ?_; simp -dsimp [h1, q2, z3, h4, q5, z6, h9, q10])
      · have q10 : (v = true) := by first | exact h9 | omega | (simpa using h9) | (simp at h9 ⊢; omega) | simp_all
        rw [if_pos q10] at hF
        simp -dsimp [h1, q2, z3, h4, q5, z6, h9, q10]
        repeat (refine chk.go (by first | omega | assumption | (simp_all; done) | (simp_all; omega)) ?_; simp -dsimp [h1, q2, z3, h4, q5, z6, h9, q10])
        have hF := ob hF; obtain ⟨o, ho22, hF⟩ := hF
        refine ALoop.goU ⟨[(0, .lit (.string s)), (3, .lit (.int .i64 (1 : Int)))], []⟩ (Gh.to (by simp) (by simp -dsimp) (by simp -dsimp) (by simp -dsimp)) ?_
        refine (C.spec_NameValid_l1 B hB1 hB2 s 1 o ho22) _ rfl _ ?_
        rcases o with r0 | s23
        · dsimp only at hF
          cases hF
          intro st h
          simpa using h
        · dsimp only at hF
          cases hF
          simp -dsimp
          repeat (refine chk.go (by first | omega | assumption | (simp_all; done) | (simp_all; omega)) ?_; simp -dsimp)
    · have q5 : (5 < s.size) := by first | exact h4 | omega | (simpa using h4) | (simp at h4 ⊢; omega) | simp_all
      have z6 : ((5 : Int) < (s.size : Int)) := by first | omega | simp_all
      rw [if_pos q5] at hF
      cases hF
      simp -dsimp [h1, q2, z3, h4, q5, z6]
      repeat (refine chk.go (by first | omega | assumption | (simp_all; done) | (simp_all; omega)) ?_; simp -dsimp [h1, q2, z3, h4, q5, z6])
  · have q2 : (s.size = 0) := by first | exact h1 | omega | (simpa using h1) | (simp at h1 ⊢; omega) | simp_all
    have z3 : ((s.size : Int) = (0 : Int)) := by first | omega | simp_all
    rw [if_pos q2] at hF
    cases hF
    simp -dsimp [h1, q2, z3]
    repeat (refine chk.go (by first | omega | assumption | (simp_all; done) | (simp_all; omega)) ?_; simp -dsimp [h1, q2, z3])

set_option maxRecDepth 100000 in
set_option maxHeartbeats 400000 in
theorem C.spec_l1Arg (B : Nat) (hB1 : 67108864 ≤ B) (hB2 : B ≤ 9223372036854775807) (n : Int) (t : Vl.Ty) (r : Bool) (hF : F.spec_l1Arg n t = some r) : PureCall Try.prog B 93 [.lit (.int .i64 n), .agg [.lit (.int .i64 t.data), .lit (.int .i64 t.index)]] (.lit (.bool r)) := by
  unfold F.spec_l1Arg at hF
  refine PureCall.enterLe Try.func93 (by kernel_rfl) rfl Try.ntmps93 (by simp) (by simp) ?_
  simp -dsimp
  repeat (refine chk.go (by first | omega | assumption | (simp_all; done) | (simp_all; omega)) ?_; simp -dsimp)
  refine abr.split (fun h1 => ?_) (fun h1 => ?_)
  · have q2 : (t.data = (-1)) := by first | exact h1 | omega | (simpa using h1) | (simp at h1 ⊢; omega) | simp_all
    rw [if_pos q2] at hF
    cases hF
    simp -dsimp [h1]
    repeat (refine chk.go (by first | omega | assumption | (simp_all; done) | (simp_all; omega)) ?_; simp -dsimp [h1])
  · have q2 : ¬ (t.data = (-1)) := by first | exact h1 | omega | (simpa using h1) | (simp at h1 ⊢; omega) | simp_all
    rw [if_neg q2] at hF
    simp -dsimp [h1, q2]
    repeat (refine chk.go (by first | omega | assumption | (simp_all; done) | (simp_all; omega)) ?_; simp -dsimp [h1, q2])
    refine abr.split (fun h3 => ?_) (fun h3 => ?_)
    · have q4 : (0 ≤ t.data) := by first | exact h3 | omega | (simpa using h3) | (simp at h3 ⊢; omega) | simp_all
      rw [if_pos q4] at hF
      simp -dsimp [h1, q2, h3]
      repeat (refine chk.go (by first | omega | assumption | (simp_all; done) | (simp_all; omega)) ?_; simp -dsimp [h1, q2, h3])
      refine abr.split (fun h5 => ?_) (fun h5 => ?_)
      · have q6 : (t.data < n) := by first | exact h5 | omega | (simpa using h5) | (simp at h5 ⊢; omega) | simp_all
        rw [if_pos q6] at hF
        simp -dsimp [h1, q2, h3, h5]
        repeat (refine chk.go (by first | omega | assumption | (simp_all; done) | (simp_all; omega)) ?_; simp -dsimp [h1, q2, h3, h5])
        refine abr.split (fun h7 => ?_) (fun h7 => ?_)
        · have q8 : ((-1) ≤ t.index) := by first | exact h7 | omega | (simpa using h7) | (simp at h7 ⊢; omega) | simp_all
          rw [if_pos q8] at hF
          cases hF
          simp -dsimp [h1, q2, h3, h5, h7]
          repeat (refine chk.go (by first | omega | assumption | (simp_all; done) | (simp_all; omega)) ?_; simp -dsimp [h1, q2, h3, h5, h7])
        · have q8 : ¬ ((-1) ≤ t.index) := by first | exact h7 | omega | (simpa using h7) | (simp at h7 ⊢; omega) | simp_all
          rw [if_neg q8] at hF
          cases hF
          simp -dsimp [h1, q2, h3, h5, h7, q8]
          repeat (refine chk.go (by first | omega | assumption | (simp_all; done) | (simp_all; omega)) ?_; simp -dsimp [h1, q2, h3, h5, h7, q8])
      · have q6 : ¬ (t.data < n) := by first | exact h5 | omega | (simpa using h5) | (simp at h5 ⊢; omega) | simp_all
        rw [if_neg q6] at hF
        cases hF
        simp -dsimp [h1, q2, h3, h5, q6]
        repeat (refine chk.go (by first | omega | assumption | (simp_all; done) | (simp_all; omega)) ?_; simp -dsimp [h1, q2, h3, h5, q6])
    · have q4 : ¬ (0 ≤ t.data) := by first | exact h3 | omega | (simpa using h3) | (simp at h3 ⊢; omega) | simp_all
      rw [if_neg q4] at hF
      cases hF
      simp -dsimp [h1, q2, h3, q4]
      repeat (refine chk.go (by first | omega | assumption | (simp_all; done) | (simp_all; omega)) ?_; simp -dsimp [h1, q2, h3, q4])

set_option maxRecDepth 100000 in
set_option maxHeartbeats 400000 in
theorem CC.spec_l1Ctor_l1 (B : Nat) (hB1 : 67108864 ≤ B) (hB2 : B ≤ 9223372036854775807) (n : Int) (c' : Vl.Ctor) : (∀ (i : Nat) (o : Lo Bool Unit), F.spec_l1Ctor_l1 n c' i = some o → ∀ (c : Code), navO [1, 1, 0, 1, 0, 0] (bodyOf Try.f91) = some c → ∀ (Q : Exit → ASt → Prop), o.post (fun r => ∀ st, Post Try.prog Try.f91 (fun r' _ => r'.le (.lit (.bool r))) .ret st → Q .ret st) (fun s => Q (.exit 0) ⟨[], []⟩) → ALoopU Try.prog B 0 41 (hold c .mk) ⟨[(0, .lit (.int .i64 n)), (3, .ptr 0 0), (5, .lit (.int .i64 (i : Int)))], [.cells [.lit (.string c'.name), .arr (List.map Vl.Ty.c c'.args), .lit (.int .i64 c'.index)]]⟩ (hold Q .mk)) := by
  refine F.spec_l1Ctor_l1.partial_correctness n c'
    (fun i o => ∀ (c : Code), navO [1, 1, 0, 1, 0, 0] (bodyOf Try.f91) = some c → ∀ (Q : Exit → ASt → Prop), o.post (fun r => ∀ st, Post Try.prog Try.f91 (fun r' _ => r'.le (.lit (.bool r))) .ret st → Q .ret st) (fun s => Q (.exit 0) ⟨[], []⟩) → ALoopU Try.prog B 0 41 (hold c .mk) ⟨[(0, .lit (.int .i64 n)), (3, .ptr 0 0), (5, .lit (.int .i64 (i : Int)))], [.cells [.lit (.string c'.name), .arr (List.map Vl.Ty.c c'.args), .lit (.int .i64 c'.index)]]⟩ (hold Q .mk))
    ?_
  · intro _f_spec_l1Ctor_l1 ih_spec_l1Ctor_l1 i o hF
    intro c hc Q hq
    obtain rfl : c = _ := navEq hc rfl
    refine ALoopU.know fun hk hs => ?_
    have d0 := hs 0 _ rfl
    simp -dsimp [Blk.bnd] at d0
    clear hk hs
    refine ALoopU.enter ?_
    simp -dsimp
    repeat (refine chk.go (by first | omega | assumption | (simp_all; done) | (simp_all; omega)) ?_; simp -dsimp)
    refine abr.split (fun h11 => ?_) (fun h11 => ?_)
    · have q12 : (i < c'.args.length) := by first | exact h11 | omega | (simpa using h11) | (simp at h11 ⊢; omega) | simp_all
      have z13 : ((i : Int) < (c'.args.length : Int)) := by first | omega | simp_all
      rw [if_pos q12] at hF
      have hF := ob hF; obtain ⟨x, e14, hF⟩ := hF
      have le14 := lt_of_get e14
      simp -dsimp [h11, z13, ↓e14]
      repeat (refine chk.go (by first | omega | assumption | (simp_all; done) | (simp_all; omega)) ?_; simp -dsimp [h11, z13, ↓e14])
      have hF := ob hF; obtain ⟨v15, e16, hF⟩ := hF
      refine ((C.spec_l1Arg B hB1 hB2 n x v15 e16)).goW (by simp) (by simp) ?_
      simp -dsimp [h11, z13, ↓e14]
      repeat (refine chk.go (by first | omega | assumption | (simp_all; done) | (simp_all; omega)) ?_; simp -dsimp [h11, z13, ↓e14])
      refine abr.split (fun h17 => ?_) (fun h17 => ?_)
      · have q18 : ¬ (v15 = true) := by first | exact h17 | omega | (simpa using h17) | (simp at h17 ⊢; omega) | simp_all
        rw [if_neg q18] at hF
        cases hF
        simp -dsimp [h11, z13, ↓e14, h17, q18]
        repeat (refine chk.go (by first | omega | assumption | (simp_all; done) | (simp_all; omega)) ?_; simp -dsimp [h11, z13, ↓e14, h17, q18])
        refine Leave.go _ (Gh.refl _) (hq _ ?_)
        simp -dsimp [h11, z13, ↓e14, h17, q18]
        repeat (refine chk.go (by first | omega | assumption | (simp_all; done) | (simp_all; omega)) ?_; simp -dsimp [h11, z13, ↓e14, h17, q18])
      · have q18 : (v15 = true) := by first | exact h17 | omega | (simpa using h17) | (simp at h17 ⊢; omega) | simp_all
        rw [if_pos q18] at hF
        have w19 : IntKind.i64.wrap ((i : Int) + 1) = (i : Int) + 1 := wrap_in (by omega) (by omega)
        simp -dsimp [h11, z13, ↓e14, h17, q18, w19]
        repeat (refine chk.go (by first | omega | assumption | (simp_all; done) | (simp_all; omega)) ?_; simp -dsimp [h11, z13, ↓e14, h17, q18, w19])
        refine Again.go ⟨[(0, .lit (.int .i64 n)), (3, .ptr 0 0), (5, .lit (.int .i64 ((i + 1) : Int)))], [.cells [.lit (.string c'.name), .arr (List.map Vl.Ty.c c'.args), .lit (.int .i64 c'.index)]]⟩ (Gh.to (by simp) (by simp -dsimp) (by simp -dsimp) (by simp -dsimp)) ?_
        exact (ih_spec_l1Ctor_l1 (i + 1) o hF) _ rfl _ hq
    · have q12 : ¬ (i < c'.args.length) := by first | exact h11 | omega | (simpa using h11) | (simp at h11 ⊢; omega) | simp_all
      have z13 : ¬ ((i : Int) < (c'.args.length : Int)) := by first | omega | simp_all
      rw [if_neg q12] at hF
      cases hF
      simp -dsimp [h11, q12, z13]
      repeat (refine chk.go (by first | omega | assumption | (simp_all; done) | (simp_all; omega)) ?_; simp -dsimp [h11, q12, z13])
      refine Leave.go ⟨[], []⟩ (Gh.to (by simp) (by simp -dsimp) (by simp -dsimp) (by simp -dsimp)) ?_
      exact hq

theorem C.spec_l1Ctor_l1 (B : Nat) (hB1 : 67108864 ≤ B) (hB2 : B ≤ 9223372036854775807) (n : Int) (c' : Vl.Ctor) (i : Nat) (o : Lo Bool Unit) (hF : F.spec_l1Ctor_l1 n c' i = some o) : ∀ (c : Code), navO [1, 1, 0, 1, 0, 0] (bodyOf Try.f91) = some c → ∀ (Q : Exit → ASt → Prop), o.post (fun r => ∀ st, Post Try.prog Try.f91 (fun r' _ => r'.le (.lit (.bool r))) .ret st → Q .ret st) (fun s => Q (.exit 0) ⟨[], []⟩) → ALoopU Try.prog B 0 41 (hold c .mk) ⟨[(0, .lit (.int .i64 n)), (3, .ptr 0 0), (5, .lit (.int .i64 (i : Int)))], [.cells [.lit (.string c'.name), .arr (List.map Vl.Ty.c c'.args), .lit (.int .i64 c'.index)]]⟩ (hold Q .mk) :=
  (CC.spec_l1Ctor_l1 B hB1 hB2 n c') i o hF

set_option maxRecDepth 100000 in
set_option maxHeartbeats 400000 in
theorem C.spec_l1Ctor (B : Nat) (hB1 : 67108864 ≤ B) (hB2 : B ≤ 9223372036854775807) (n : Int) (c' : Vl.Ctor) (r : Bool) (hF : F.spec_l1Ctor n c' = some r) : PureCall Try.prog B 91 [.lit (.int .i64 n), .agg [.lit (.string c'.name), .arr (List.map Vl.Ty.c c'.args), .lit (.int .i64 c'.index)]] (.lit (.bool r)) := by
  unfold F.spec_l1Ctor at hF
  refine PureCall.enterLe Try.func91 (by kernel_rfl) rfl Try.ntmps91 (by simp) (by simp) ?_
  simp -dsimp
  repeat (refine chk.go (by first | omega | assumption | (simp_all; done) | (simp_all; omega)) ?_; simp -dsimp)
  have hF := ob hF; obtain ⟨v, e1, hF⟩ := hF
  refine ((C.spec_NameValid B hB1 hB2 c'.name v e1)).goW (by simp) (by simp) ?_
  simp -dsimp
  repeat (refine chk.go (by first | omega | assumption | (simp_all; done) | (simp_all; omega)) ?_; simp -dsimp)
  refine abr.split (fun h2 => ?_) (fun h2 => ?_)
  · have q3 : (v = true) := by first | exact h2 | omega | (simpa using h2) | (simp at h2 ⊢; omega) | simp_all
    rw [if_pos q3] at hF
    simp -dsimp [h2]
    repeat (refine chk.go (by first | omega | assumption | (simp_all; done) | (simp_all; omega)) ?_; simp -dsimp [h2])
    refine abr.split (fun h4 => ?_) (fun h4 => ?_)
    · have q5 : ¬ (3 < c'.args.length) := by first | exact h4 | omega | (simpa using h4) | (simp at h4 ⊢; omega) | simp_all
      have z6 : ¬ ((3 : Int) < (c'.args.length : Int)) := by first | omega | simp_all
      rw [if_neg q5] at hF
      simp -dsimp [h2, h4, q5, z6]
      repeat (refine chk.go (by first | omega | assumption | (simp_all; done) | (simp_all; omega)) ?_; simp -dsimp [h2, h4, q5, z6])
      refine abr.split (fun h7 => ?_) (fun h7 => ?_)
      · have q8 : ¬ (c'.index < 0) := by first | exact h7 | omega | (simpa using h7) | (simp at h7 ⊢; omega) | simp_all
        rw [if_neg q8] at hF
        simp -dsimp [h2, h4, q5, z6, h7, q8]
        repeat (refine chk.go (by first | omega | assumption | (simp_all; done) | (simp_all; omega)) ?_; simp -dsimp [h2, h4, q5, z6, h7, q8])
        refine abr.split (fun h9 => ?_) (fun h9 => ?_)
        · have q10 : (3 < c'.index) := by first | exact h9 | omega | (simpa using h9) | (simp at h9 ⊢; omega) | simp_all
          rw [if_pos q10] at hF
          cases hF
          simp -dsimp [h2, h4, q5, z6, h7, q8, h9]
          repeat (refine chk.go (by first | omega | assumption | (simp_all; done) | (simp_all; omega)) ?_; simp -dsimp [h2, h4, q5, z6, h7, q8, h9])
        · have q10 : ¬ (3 < c'.index) := by first | exact h9 | omega | (simpa using h9) | (simp at h9 ⊢; omega) | simp_all
          rw [if_neg q10] at hF
          simp -dsimp [h2, h4, q5, z6, h7, q8, h9, q10]
          repeat (refine chk.go (by first | omega | assumption | (simp_all; done) | (simp_all; omega)) ?_; simp -dsimp [h2, h4, q5, z6, h7, q8, h9, q10])
          have hF := ob hF; obtain ⟨o, ho20, hF⟩ := hF
          refine ALoop.goU ⟨[(0, .lit (.int .i64 n)), (3, .ptr 0 0), (5, .lit (.int .i64 (0 : Int)))], [.cells [.lit (.string c'.name), .arr (List.map Vl.Ty.c c'.args), .lit (.int .i64 c'.index)]]⟩ (Gh.to (by simp) (by simp -dsimp) (by simp -dsimp) (by simp -dsimp)) ?_
          refine (C.spec_l1Ctor_l1 B hB1 hB2 n c' 0 o ho20) _ rfl _ ?_
          rcases o with r0 | s
          · dsimp only at hF
            cases hF
            intro st h
            simpa using h
          · dsimp only at hF
            cases hF
            simp -dsimp
            repeat (refine chk.go (by first | omega | assumption | (simp_all; done) | (simp_all; omega)) ?_; simp -dsimp)
      · have q8 : (c'.index < 0) := by first | exact h7 | omega | (simpa using h7) | (simp at h7 ⊢; omega) | simp_all
        rw [if_pos q8] at hF
        cases hF
        simp -dsimp [h2, h4, q5, z6, h7, q8]
        repeat (refine chk.go (by first | omega | assumption | (simp_all; done) | (simp_all; omega)) ?_; simp -dsimp [h2, h4, q5, z6, h7, q8])
    · have q5 : (3 < c'.args.length) := by first | exact h4 | omega | (simpa using h4) | (simp at h4 ⊢; omega) | simp_all
      have z6 : ((3 : Int) < (c'.args.length : Int)) := by first | omega | simp_all
      rw [if_pos q5] at hF
      cases hF
      simp -dsimp [h2, h4, q5, z6]
      repeat (refine chk.go (by first | omega | assumption | (simp_all; done) | (simp_all; omega)) ?_; simp -dsimp [h2, h4, q5, z6])
  · have q3 : ¬ (v = true) := by first | exact h2 | omega | (simpa using h2) | (simp at h2 ⊢; omega) | simp_all
    rw [if_neg q3] at hF
    cases hF
    simp -dsimp [h2, q3]
    repeat (refine chk.go (by first | omega | assumption | (simp_all; done) | (simp_all; omega)) ?_; simp -dsimp [h2, q3])

set_option maxRecDepth 100000 in
set_option maxHeartbeats 400000 in
theorem CC.spec_l1Twice_l2 (B : Nat) (hB1 : 67108864 ≤ B) (hB2 : B ≤ 9223372036854775807) (w : List Vl.Data) (d : Int) (k : Int) (i : Nat) : (∀ (j : Nat) (o : Lo Bool Unit), F.spec_l1Twice_l2 w d k i j = some o → ∀ (c : Code), navO [1, 0, 1, 0, 0, 1, 0, 0, 1, 1, 0, 0] (bodyOf Try.f92) = some c → ∀ (Q : Exit → ASt → Prop), o.post (fun r => ∀ st, Post Try.prog Try.f92 (fun r' _ => r'.le (.lit (.bool r))) .ret st → Q .ret st) (fun s => Q (.exit 2) ⟨[(0, .arr (List.map Vl.Data.c w)), (1, .lit (.int .i64 d)), (2, .lit (.int .i64 k)), (7, .lit (.int .i64 (i : Int)))], []⟩) → ALoopU Try.prog B 0 79 (hold c .mk) ⟨[(0, .arr (List.map Vl.Data.c w)), (1, .lit (.int .i64 d)), (2, .lit (.int .i64 k)), (7, .lit (.int .i64 (i : Int))), (8, .lit (.int .i64 (j : Int)))], []⟩ (hold Q .mk)) := by
  refine F.spec_l1Twice_l2.partial_correctness w d k i
    (fun j o => ∀ (c : Code), navO [1, 0, 1, 0, 0, 1, 0, 0, 1, 1, 0, 0] (bodyOf Try.f92) = some c → ∀ (Q : Exit → ASt → Prop), o.post (fun r => ∀ st, Post Try.prog Try.f92 (fun r' _ => r'.le (.lit (.bool r))) .ret st → Q .ret st) (fun s => Q (.exit 2) ⟨[(0, .arr (List.map Vl.Data.c w)), (1, .lit (.int .i64 d)), (2, .lit (.int .i64 k)), (7, .lit (.int .i64 (i : Int)))], []⟩) → ALoopU Try.prog B 0 79 (hold c .mk) ⟨[(0, .arr (List.map Vl.Data.c w)), (1, .lit (.int .i64 d)), (2, .lit (.int .i64 k)), (7, .lit (.int .i64 (i : Int))), (8, .lit (.int .i64 (j : Int)))], []⟩ (hold Q .mk))
    ?_
  · intro _f_spec_l1Twice_l2 ih_spec_l1Twice_l2 j o hF
    intro c hc Q hq
    obtain rfl : c = _ := navEq hc rfl
    refine ALoopU.know fun hk hs => ?_
    have b0 := hk 0
    simp -dsimp at b0
    clear hk hs
    refine ALoopU.enter ?_
    have hF := ob hF; obtain ⟨x10, e11, hF⟩ := hF
    have le11 := lt_of_get e11
    simp -dsimp [↓e11]
    repeat (refine chk.go (by first | omega | assumption | (simp_all; done) | (simp_all; omega)) ?_; simp -dsimp [↓e11])
    refine abr.split (fun h12 => ?_) (fun h12 => ?_)
    · have q13 : (j < x10.ctors.length) := by first | exact h12 | omega | (simpa using h12) | (simp at h12 ⊢; omega) | simp_all
      have z14 : ((j : Int) < (x10.ctors.length : Int)) := by first | omega | simp_all
      rw [if_pos q13] at hF
      simp -dsimp [↓e11, h12, z14]
      repeat (refine chk.go (by first | omega | assumption | (simp_all; done) | (simp_all; omega)) ?_; simp -dsimp [↓e11, h12, z14])
      refine abr.split (fun h15 => ?_) (fun h15 => ?_)
      · have q16 : ¬ ((i : Int) < d) := by first | exact h15 | omega | (simpa using h15) | (simp at h15 ⊢; omega) | simp_all
        rw [if_neg q16] at hF
        simp -dsimp [↓e11, h12, z14, h15, q16]
        repeat (refine chk.go (by first | omega | assumption | (simp_all; done) | (simp_all; omega)) ?_; simp -dsimp [↓e11, h12, z14, h15, q16])
        refine abr.split (fun h17 => ?_) (fun h17 => ?_)
        · have q18 : ((j : Int) < k) := by first | exact h17 | omega | (simpa using h17) | (simp at h17 ⊢; omega) | simp_all
          rw [if_pos q18] at hF
          simp -dsimp [↓e11, h12, z14, h15, q16, h17]
          repeat (refine chk.go (by first | omega | assumption | (simp_all; done) | (simp_all; omega)) ?_; simp -dsimp [↓e11, h12, z14, h15, q16, h17])
          refine ADraw.simple follows (by kernel_rfl) (by kernel_rfl) ?_
          have hF := ob hF; obtain ⟨x19, e20a, hF⟩ := hF
          have e20a := at_some e20a; obtain ⟨ne20, e20⟩ := e20a
          have le20 := lt_of_get e20
          simp -dsimp [↓e11, h12, z14, h15, q16, h17, ↓e20]
          repeat (refine chk.go (by first | omega | assumption | (simp_all; done) | (simp_all; omega)) ?_; simp -dsimp [↓e11, h12, z14, h15, q16, h17, ↓e20])
          refine abr.split (fun h21 => ?_) (fun h21 => ?_)
          · have q22 : (k < (x19.ctors.length : Int)) := by first | exact h21 | omega | (simpa using h21) | (simp at h21 ⊢; omega) | simp_all
            rw [if_pos q22] at hF
            have hF := ob hF; obtain ⟨x23, e24, hF⟩ := hF
            have le24 := lt_of_get e24
            have hF := ob hF; obtain ⟨x25, e26a, hF⟩ := hF
            have e26a := at_some e26a; obtain ⟨ne26, e26⟩ := e26a
            have le26 := lt_of_get e26
            simp -dsimp [↓e11, h12, z14, h15, q16, h17, ↓e20, h21, ↓e24, ↓e26]
            repeat (refine chk.go (by first | omega | assumption | (simp_all; done) | (simp_all; omega)) ?_; simp -dsimp [↓e11, h12, z14, h15, q16, h17, ↓e20, h21, ↓e24, ↓e26])
            refine abr.split (fun h27 => ?_) (fun h27 => ?_)
            · have q28 : (x23.name.toList = x25.name.toList) := by first | exact h27 | omega | (simpa using h27) | (simp at h27 ⊢; omega) | simp_all
              rw [if_pos q28] at hF
              cases hF
              simp -dsimp [↓e11, h12, z14, h15, q16, h17, ↓e20, h21, ↓e24, ↓e26, h27]
              repeat (refine chk.go (by first | omega | assumption | (simp_all; done) | (simp_all; omega)) ?_; simp -dsimp [↓e11, h12, z14, h15, q16, h17, ↓e20, h21, ↓e24, ↓e26, h27])
              refine Leave.go _ (Gh.refl _) (hq _ ?_)
              simp -dsimp [↓e11, h12, z14, h15, q16, h17, ↓e20, h21, ↓e24, ↓e26, h27]
              repeat (refine chk.go (by first | omega | assumption | (simp_all; done) | (simp_all; omega)) ?_; simp -dsimp [↓e11, h12, z14, h15, q16, h17, ↓e20, h21, ↓e24, ↓e26, h27])
            · have q28 : ¬ (x23.name.toList = x25.name.toList) := by first | exact h27 | omega | (simpa using h27) | (simp at h27 ⊢; omega) | simp_all
              rw [if_neg q28] at hF
              have hF := oc hF; obtain ⟨c29, hF⟩ := hF
              have w30 : IntKind.i64.wrap ((j : Int) + 1) = (j : Int) + 1 := wrap_in (by omega) (by omega)
              simp -dsimp [↓e11, h12, z14, h15, q16, h17, ↓e20, h21, ↓e24, ↓e26, h27, q28, w30]
              repeat (refine chk.go (by first | omega | assumption | (simp_all; done) | (simp_all; omega)) ?_; simp -dsimp [↓e11, h12, z14, h15, q16, h17, ↓e20, h21, ↓e24, ↓e26, h27, q28, w30])
              refine Again.go ⟨[(0, .arr (List.map Vl.Data.c w)), (1, .lit (.int .i64 d)), (2, .lit (.int .i64 k)), (7, .lit (.int .i64 (i : Int))), (8, .lit (.int .i64 ((j + 1) : Int)))], []⟩ (Gh.to (by simp) (by simp -dsimp) (by simp -dsimp) (by simp -dsimp)) ?_
              exact (ih_spec_l1Twice_l2 (j + 1) o hF) _ rfl _ hq
          · have q22 : ¬ (k < (x19.ctors.length : Int)) := by first | exact h21 | omega | (simpa using h21) | (simp at h21 ⊢; omega) | simp_all
            rw [if_neg q22] at hF
            have hF := oc hF; obtain ⟨c31, hF⟩ := hF
            have w32 : IntKind.i64.wrap ((j : Int) + 1) = (j : Int) + 1 := wrap_in (by omega) (by omega)
            simp -dsimp [↓e11, h12, z14, h15, q16, h17, ↓e20, h21, q22, w32]
            repeat (refine chk.go (by first | omega | assumption | (simp_all; done) | (simp_all; omega)) ?_; simp -dsimp [↓e11, h12, z14, h15, q16, h17, ↓e20, h21, q22, w32])
            refine Again.go ⟨[(0, .arr (List.map Vl.Data.c w)), (1, .lit (.int .i64 d)), (2, .lit (.int .i64 k)), (7, .lit (.int .i64 (i : Int))), (8, .lit (.int .i64 ((j + 1) : Int)))], []⟩ (Gh.to (by simp) (by simp -dsimp) (by simp -dsimp) (by simp -dsimp)) ?_
            exact (ih_spec_l1Twice_l2 (j + 1) o hF) _ rfl _ hq
        · have q18 : ¬ ((j : Int) < k) := by first | exact h17 | omega | (simpa using h17) | (simp at h17 ⊢; omega) | simp_all
          rw [if_neg q18] at hF
          cases hF
          simp -dsimp [↓e11, h12, z14, h15, q16, h17, q18]
          repeat (refine chk.go (by first | omega | assumption | (simp_all; done) | (simp_all; omega)) ?_; simp -dsimp [↓e11, h12, z14, h15, q16, h17, q18])
          refine Leave.go ⟨[(0, .arr (List.map Vl.Data.c w)), (1, .lit (.int .i64 d)), (2, .lit (.int .i64 k)), (7, .lit (.int .i64 (i : Int)))], []⟩ (Gh.to (by simp) (by simp -dsimp) (by simp -dsimp) (by simp -dsimp)) ?_
          exact hq
      · have q16 : ((i : Int) < d) := by first | exact h15 | omega | (simpa using h15) | (simp at h15 ⊢; omega) | simp_all
        rw [if_pos q16] at hF
        simp -dsimp [↓e11, h12, z14, h15, q16]
        repeat (refine chk.go (by first | omega | assumption | (simp_all; done) | (simp_all; omega)) ?_; simp -dsimp [↓e11, h12, z14, h15, q16])
        refine ADraw.simple follows (by kernel_rfl) (by kernel_rfl) ?_
        have hF := ob hF; obtain ⟨x33, e34a, hF⟩ := hF
        have e34a := at_some e34a; obtain ⟨ne34, e34⟩ := e34a
        have le34 := lt_of_get e34
        simp -dsimp [↓e11, h12, z14, h15, q16, ↓e34]
        repeat (refine chk.go (by first | omega | assumption | (simp_all; done) | (simp_all; omega)) ?_; simp -dsimp [↓e11, h12, z14, h15, q16, ↓e34])
        refine abr.split (fun h35 => ?_) (fun h35 => ?_)
        · have q36 : (k < (x33.ctors.length : Int)) := by first | exact h35 | omega | (simpa using h35) | (simp at h35 ⊢; omega) | simp_all
          rw [if_pos q36] at hF
          have hF := ob hF; obtain ⟨x37, e38, hF⟩ := hF
          have le38 := lt_of_get e38
          have hF := ob hF; obtain ⟨x39, e40a, hF⟩ := hF
          have e40a := at_some e40a; obtain ⟨ne40, e40⟩ := e40a
          have le40 := lt_of_get e40
          simp -dsimp [↓e11, h12, z14, h15, q16, ↓e34, h35, ↓e38, ↓e40]
          repeat (refine chk.go (by first | omega | assumption | (simp_all; done) | (simp_all; omega)) ?_; simp -dsimp [↓e11, h12, z14, h15, q16, ↓e34, h35, ↓e38, ↓e40])
          refine abr.split (fun h41 => ?_) (fun h41 => ?_)
          · have q42 : (x37.name.toList = x39.name.toList) := by first | exact h41 | omega | (simpa using h41) | (simp at h41 ⊢; omega) | simp_all
            rw [if_pos q42] at hF
            cases hF
            simp -dsimp [↓e11, h12, z14, h15, q16, ↓e34, h35, ↓e38, ↓e40, h41]
            repeat (refine chk.go (by first | omega | assumption | (simp_all; done) | (simp_all; omega)) ?_; simp -dsimp [↓e11, h12, z14, h15, q16, ↓e34, h35, ↓e38, ↓e40, h41])
            refine Leave.go _ (Gh.refl _) (hq _ ?_)
            simp -dsimp [↓e11, h12, z14, h15, q16, ↓e34, h35, ↓e38, ↓e40, h41]
            repeat (refine chk.go (by first | omega | assumption | (simp_all; done) | (simp_all; omega)) ?_; simp -dsimp [↓e11, h12, z14, h15, q16, ↓e34, h35, ↓e38, ↓e40, h41])
          · have q42 : ¬ (x37.name.toList = x39.name.toList) := by first | exact h41 | omega | (simpa using h41) | (simp at h41 ⊢; omega) | simp_all
            rw [if_neg q42] at hF
            have hF := oc hF; obtain ⟨c43, hF⟩ := hF
            have w44 : IntKind.i64.wrap ((j : Int) + 1) = (j : Int) + 1 := wrap_in (by omega) (by omega)
            simp -dsimp [↓e11, h12, z14, h15, q16, ↓e34, h35, ↓e38, ↓e40, h41, q42, w44]
            repeat (refine chk.go (by first | omega | assumption | (simp_all; done) | (simp_all; omega)) ?_; simp -dsimp [↓e11, h12, z14, h15, q16, ↓e34, h35, ↓e38, ↓e40, h41, q42, w44])
            refine Again.go ⟨[(0, .arr (List.map Vl.Data.c w)), (1, .lit (.int .i64 d)), (2, .lit (.int .i64 k)), (7, .lit (.int .i64 (i : Int))), (8, .lit (.int .i64 ((j + 1) : Int)))], []⟩ (Gh.to (by simp) (by simp -dsimp) (by simp -dsimp) (by simp -dsimp)) ?_
            exact (ih_spec_l1Twice_l2 (j + 1) o hF) _ rfl _ hq
        · have q36 : ¬ (k < (x33.ctors.length : Int)) := by first | exact h35 | omega | (simpa using h35) | (simp at h35 ⊢; omega) | simp_all
          rw [if_neg q36] at hF
          have hF := oc hF; obtain ⟨c45, hF⟩ := hF
          have w46 : IntKind.i64.wrap ((j : Int) + 1) = (j : Int) + 1 := wrap_in (by omega) (by omega)
          simp -dsimp [↓e11, h12, z14, h15, q16, ↓e34, h35, q36, w46]
          repeat (refine chk.go (by first | omega | assumption | (simp_all; done) | (simp_all; omega)) ?_; simp -dsimp [↓e11, h12, z14, h15, q16, ↓e34, h35, q36, w46])
          refine Again.go ⟨[(0, .arr (List.map Vl.Data.c w)), (1, .lit (.int .i64 d)), (2, .lit (.int .i64 k)), (7, .lit (.int .i64 (i : Int))), (8, .lit (.int .i64 ((j + 1) : Int)))], []⟩ (Gh.to (by simp) (by simp -dsimp) (by simp -dsimp) (by simp -dsimp)) ?_
          exact (ih_spec_l1Twice_l2 (j + 1) o hF) _ rfl _ hq
    · have q13 : ¬ (j < x10.ctors.length) := by first | exact h12 | omega | (simpa using h12) | (simp at h12 ⊢; omega) | simp_all
      have z14 : ¬ ((j : Int) < (x10.ctors.length : Int)) := by first | omega | simp_all
      rw [if_neg q13] at hF
      cases hF
      simp -dsimp [↓e11, h12, q13, z14]
      repeat (refine chk.go (by first | omega | assumption | (simp_all; done) | (simp_all; omega)) ?_; simp -dsimp [↓e11, h12, q13, z14])
      refine Leave.go ⟨[(0, .arr (List.map Vl.Data.c w)), (1, .lit (.int .i64 d)), (2, .lit (.int .i64 k)), (7, .lit (.int .i64 (i : Int)))], []⟩ (Gh.to (by simp) (by simp -dsimp) (by simp -dsimp) (by simp -dsimp)) ?_
      exact hq

theorem C.spec_l1Twice_l2 (B : Nat) (hB1 : 67108864 ≤ B) (hB2 : B ≤ 9223372036854775807) (w : List Vl.Data) (d : Int) (k : Int) (i : Nat) (j : Nat) (o : Lo Bool Unit) (hF : F.spec_l1Twice_l2 w d k i j = some o) : ∀ (c : Code), navO [1, 0, 1, 0, 0, 1, 0, 0, 1, 1, 0, 0] (bodyOf Try.f92) = some c → ∀ (Q : Exit → ASt → Prop), o.post (fun r => ∀ st, Post Try.prog Try.f92 (fun r' _ => r'.le (.lit (.bool r))) .ret st → Q .ret st) (fun s => Q (.exit 2) ⟨[(0, .arr (List.map Vl.Data.c w)), (1, .lit (.int .i64 d)), (2, .lit (.int .i64 k)), (7, .lit (.int .i64 (i : Int)))], []⟩) → ALoopU Try.prog B 0 79 (hold c .mk) ⟨[(0, .arr (List.map Vl.Data.c w)), (1, .lit (.int .i64 d)), (2, .lit (.int .i64 k)), (7, .lit (.int .i64 (i : Int))), (8, .lit (.int .i64 (j : Int)))], []⟩ (hold Q .mk) :=
  (CC.spec_l1Twice_l2 B hB1 hB2 w d k i) j o hF

set_option maxRecDepth 100000 in
set_option maxHeartbeats 400000 in
theorem CC.spec_l1Twice_l3 (B : Nat) (hB1 : 67108864 ≤ B) (hB2 : B ≤ 9223372036854775807) (w : List Vl.Data) (d : Int) (k : Int) (i : Nat) : (∀ (j50 : Nat) (o : Lo Bool Unit), F.spec_l1Twice_l3 w d k i j50 = some o → ∀ (c : Code), navO [1, 0, 1, 0, 0, 1, 0, 0, 1, 1, 0, 0] (bodyOf Try.f92) = some c → ∀ (Q : Exit → ASt → Prop), o.post (fun r => ∀ st, Post Try.prog Try.f92 (fun r' _ => r'.le (.lit (.bool r))) .ret st → Q .ret st) (fun s => Q (.exit 2) ⟨[(0, .arr (List.map Vl.Data.c w)), (1, .lit (.int .i64 d)), (2, .lit (.int .i64 k)), (7, .lit (.int .i64 (i : Int)))], []⟩) → ALoopU Try.prog B 0 79 (hold c .mk) ⟨[(0, .arr (List.map Vl.Data.c w)), (1, .lit (.int .i64 d)), (2, .lit (.int .i64 k)), (7, .lit (.int .i64 (i : Int))), (8, .lit (.int .i64 (j50 : Int)))], []⟩ (hold Q .mk)) := by
  refine F.spec_l1Twice_l3.partial_correctness w d k i
    (fun j50 o => ∀ (c : Code), navO [1, 0, 1, 0, 0, 1, 0, 0, 1, 1, 0, 0] (bodyOf Try.f92) = some c → ∀ (Q : Exit → ASt → Prop), o.post (fun r => ∀ st, Post Try.prog Try.f92 (fun r' _ => r'.le (.lit (.bool r))) .ret st → Q .ret st) (fun s => Q (.exit 2) ⟨[(0, .arr (List.map Vl.Data.c w)), (1, .lit (.int .i64 d)), (2, .lit (.int .i64 k)), (7, .lit (.int .i64 (i : Int)))], []⟩) → ALoopU Try.prog B 0 79 (hold c .mk) ⟨[(0, .arr (List.map Vl.Data.c w)), (1, .lit (.int .i64 d)), (2, .lit (.int .i64 k)), (7, .lit (.int .i64 (i : Int))), (8, .lit (.int .i64 (j50 : Int)))], []⟩ (hold Q .mk))
    ?_
  · intro _f_spec_l1Twice_l3 ih_spec_l1Twice_l3 j50 o hF
    intro c hc Q hq
    obtain rfl : c = _ := navEq hc rfl
    refine ALoopU.know fun hk hs => ?_
    have b0 := hk 0
    simp -dsimp at b0
    clear hk hs
    refine ALoopU.enter ?_
    have hF := ob hF; obtain ⟨x51, e52, hF⟩ := hF
    have le52 := lt_of_get e52
    simp -dsimp [↓e52]
    repeat (refine chk.go (by first | omega | assumption | (simp_all; done) | (simp_all; omega)) ?_; simp -dsimp [↓e52])
    refine abr.split (fun h53 => ?_) (fun h53 => ?_)
    · have q54 : (j50 < x51.ctors.length) := by first | exact h53 | omega | (simpa using h53) | (simp at h53 ⊢; omega) | simp_all
      have z55 : ((j50 : Int) < (x51.ctors.length : Int)) := by first | omega | simp_all
      rw [if_pos q54] at hF
      simp -dsimp [↓e52, h53, z55]
      repeat (refine chk.go (by first | omega | assumption | (simp_all; done) | (simp_all; omega)) ?_; simp -dsimp [↓e52, h53, z55])
      refine abr.split (fun h56 => ?_) (fun h56 => ?_)
      · have q57 : ¬ ((i : Int) < d) := by first | exact h56 | omega | (simpa using h56) | (simp at h56 ⊢; omega) | simp_all
        rw [if_neg q57] at hF
        simp -dsimp [↓e52, h53, z55, h56, q57]
        repeat (refine chk.go (by first | omega | assumption | (simp_all; done) | (simp_all; omega)) ?_; simp -dsimp [↓e52, h53, z55, h56, q57])
        refine abr.split (fun h58 => ?_) (fun h58 => ?_)
        · have q59 : ((j50 : Int) < k) := by first | exact h58 | omega | (simpa using h58) | (simp at h58 ⊢; omega) | simp_all
          rw [if_pos q59] at hF
          simp -dsimp [↓e52, h53, z55, h56, q57, h58]
          repeat (refine chk.go (by first | omega | assumption | (simp_all; done) | (simp_all; omega)) ?_; simp -dsimp [↓e52, h53, z55, h56, q57, h58])
          refine ADraw.simple follows (by kernel_rfl) (by kernel_rfl) ?_
          have hF := ob hF; obtain ⟨x60, e61a, hF⟩ := hF
          have e61a := at_some e61a; obtain ⟨ne61, e61⟩ := e61a
          have le61 := lt_of_get e61
          simp -dsimp [↓e52, h53, z55, h56, q57, h58, ↓e61]
          repeat (refine chk.go (by first | omega | assumption | (simp_all; done) | (simp_all; omega)) ?_; simp -dsimp [↓e52, h53, z55, h56, q57, h58, ↓e61])
          refine abr.split (fun h62 => ?_) (fun h62 => ?_)
          · have q63 : (k < (x60.ctors.length : Int)) := by first | exact h62 | omega | (simpa using h62) | (simp at h62 ⊢; omega) | simp_all
            rw [if_pos q63] at hF
            have hF := ob hF; obtain ⟨x64, e65, hF⟩ := hF
            have le65 := lt_of_get e65
            have hF := ob hF; obtain ⟨x66, e67a, hF⟩ := hF
            have e67a := at_some e67a; obtain ⟨ne67, e67⟩ := e67a
            have le67 := lt_of_get e67
            simp -dsimp [↓e52, h53, z55, h56, q57, h58, ↓e61, h62, ↓e65, ↓e67]
            repeat (refine chk.go (by first | omega | assumption | (simp_all; done) | (simp_all; omega)) ?_; simp -dsimp [↓e52, h53, z55, h56, q57, h58, ↓e61, h62, ↓e65, ↓e67])
            refine abr.split (fun h68 => ?_) (fun h68 => ?_)
            · have q69 : (x64.name.toList = x66.name.toList) := by first | exact h68 | omega | (simpa using h68) | (simp at h68 ⊢; omega) | simp_all
              rw [if_pos q69] at hF
              cases hF
              simp -dsimp [↓e52, h53, z55, h56, q57, h58, ↓e61, h62, ↓e65, ↓e67, h68]
              repeat (refine chk.go (by first | omega | assumption | (simp_all; done) | (simp_all; omega)) ?_; simp -dsimp [↓e52, h53, z55, h56, q57, h58, ↓e61, h62, ↓e65, ↓e67, h68])
              refine Leave.go _ (Gh.refl _) (hq _ ?_)
              simp -dsimp [↓e52, h53, z55, h56, q57, h58, ↓e61, h62, ↓e65, ↓e67, h68]
              repeat (refine chk.go (by first | omega | assumption | (simp_all; done) | (simp_all; omega)) ?_; simp -dsimp [↓e52, h53, z55, h56, q57, h58, ↓e61, h62, ↓e65, ↓e67, h68])
            · have q69 : ¬ (x64.name.toList = x66.name.toList) := by first | exact h68 | omega | (simpa using h68) | (simp at h68 ⊢; omega) | simp_all
              rw [if_neg q69] at hF
              have hF := oc hF; obtain ⟨c70, hF⟩ := hF
              have w71 : IntKind.i64.wrap ((j50 : Int) + 1) = (j50 : Int) + 1 := wrap_in (by omega) (by omega)
              simp -dsimp [↓e52, h53, z55, h56, q57, h58, ↓e61, h62, ↓e65, ↓e67, h68, q69, w71]
              repeat (refine chk.go (by first | omega | assumption | (simp_all; done) | (simp_all; omega)) ?_; simp -dsimp [↓e52, h53, z55, h56, q57, h58, ↓e61, h62, ↓e65, ↓e67, h68, q69, w71])
              refine Again.go ⟨[(0, .arr (List.map Vl.Data.c w)), (1, .lit (.int .i64 d)), (2, .lit (.int .i64 k)), (7, .lit (.int .i64 (i : Int))), (8, .lit (.int .i64 ((j50 + 1) : Int)))], []⟩ (Gh.to (by simp) (by simp -dsimp) (by simp -dsimp) (by simp -dsimp)) ?_
              exact (ih_spec_l1Twice_l3 (j50 + 1) o hF) _ rfl _ hq
          · have q63 : ¬ (k < (x60.ctors.length : Int)) := by first | exact h62 | omega | (simpa using h62) | (simp at h62 ⊢; omega) | simp_all
            rw [if_neg q63] at hF
            have hF := oc hF; obtain ⟨c72, hF⟩ := hF
            have w73 : IntKind.i64.wrap ((j50 : Int) + 1) = (j50 : Int) + 1 := wrap_in (by omega) (by omega)
            simp -dsimp [↓e52, h53, z55, h56, q57, h58, ↓e61, h62, q63, w73]
            repeat (refine chk.go (by first | omega | assumption | (simp_all; done) | (simp_all; omega)) ?_; simp -dsimp [↓e52, h53, z55, h56, q57, h58, ↓e61, h62, q63, w73])
            refine Again.go ⟨[(0, .arr (List.map Vl.Data.c w)), (1, .lit (.int .i64 d)), (2, .lit (.int .i64 k)), (7, .lit (.int .i64 (i : Int))), (8, .lit (.int .i64 ((j50 + 1) : Int)))], []⟩ (Gh.to (by simp) (by simp -dsimp) (by simp -dsimp) (by simp -dsimp)) ?_
            exact (ih_spec_l1Twice_l3 (j50 + 1) o hF) _ rfl _ hq
        · have q59 : ¬ ((j50 : Int) < k) := by first | exact h58 | omega | (simpa using h58) | (simp at h58 ⊢; omega) | simp_all
          rw [if_neg q59] at hF
          cases hF
          simp -dsimp [↓e52, h53, z55, h56, q57, h58, q59]
          repeat (refine chk.go (by first | omega | assumption | (simp_all; done) | (simp_all; omega)) ?_; simp -dsimp [↓e52, h53, z55, h56, q57, h58, q59])
          refine Leave.go ⟨[(0, .arr (List.map Vl.Data.c w)), (1, .lit (.int .i64 d)), (2, .lit (.int .i64 k)), (7, .lit (.int .i64 (i : Int)))], []⟩ (Gh.to (by simp) (by simp -dsimp) (by simp -dsimp) (by simp -dsimp)) ?_
          exact hq
      · have q57 : ((i : Int) < d) := by first | exact h56 | omega | (simpa using h56) | (simp at h56 ⊢; omega) | simp_all
        rw [if_pos q57] at hF
        simp -dsimp [↓e52, h53, z55, h56, q57]
        repeat (refine chk.go (by first | omega | assumption | (simp_all; done) | (simp_all; omega)) ?_; simp -dsimp [↓e52, h53, z55, h56, q57])
        refine ADraw.simple follows (by kernel_rfl) (by kernel_rfl) ?_
        have hF := ob hF; obtain ⟨x74, e75a, hF⟩ := hF
        have e75a := at_some e75a; obtain ⟨ne75, e75⟩ := e75a
        have le75 := lt_of_get e75
        simp -dsimp [↓e52, h53, z55, h56, q57, ↓e75]
        repeat (refine chk.go (by first | omega | assumption | (simp_all; done) | (simp_all; omega)) ?_; simp -dsimp [↓e52, h53, z55, h56, q57, ↓e75])
        refine abr.split (fun h76 => ?_) (fun h76 => ?_)
        · have q77 : (k < (x74.ctors.length : Int)) := by first | exact h76 | omega | (simpa using h76) | (simp at h76 ⊢; omega) | simp_all
          rw [if_pos q77] at hF
          have hF := ob hF; obtain ⟨x78, e79, hF⟩ := hF
          have le79 := lt_of_get e79
          have hF := ob hF; obtain ⟨x80, e81a, hF⟩ := hF
          have e81a := at_some e81a; obtain ⟨ne81, e81⟩ := e81a
          have le81 := lt_of_get e81
          simp -dsimp [↓e52, h53, z55, h56, q57, ↓e75, h76, ↓e79, ↓e81]
          repeat (refine chk.go (by first | omega | assumption | (simp_all; done) | (simp_all; omega)) ?_; simp -dsimp [↓e52, h53, z55, h56, q57, ↓e75, h76, ↓e79, ↓e81])
          refine abr.split (fun h82 => ?_) (fun h82 => ?_)
          · have q83 : (x78.name.toList = x80.name.toList) := by first | exact h82 | omega | (simpa using h82) | (simp at h82 ⊢; omega) | simp_all
            rw [if_pos q83] at hF
            cases hF
            simp -dsimp [↓e52, h53, z55, h56, q57, ↓e75, h76, ↓e79, ↓e81, h82]
            repeat (refine chk.go (by first | omega | assumption | (simp_all; done) | (simp_all; omega)) ?_; simp -dsimp [↓e52, h53, z55, h56, q57, ↓e75, h76, ↓e79, ↓e81, h82])
            refine Leave.go _ (Gh.refl _) (hq _ ?_)
            simp -dsimp [↓e52, h53, z55, h56, q57, ↓e75, h76, ↓e79, ↓e81, h82]
            repeat (refine chk.go (by first | omega | assumption | (simp_all; done) | (simp_all; omega)) ?_; simp -dsimp [↓e52, h53, z55, h56, q57, ↓e75, h76, ↓e79, ↓e81, h82])
          · have q83 : ¬ (x78.name.toList = x80.name.toList) := by first | exact h82 | omega | (simpa using h82) | (simp at h82 ⊢; omega) | simp_all
            rw [if_neg q83] at hF
            have hF := oc hF; obtain ⟨c84, hF⟩ := hF
            have w85 : IntKind.i64.wrap ((j50 : Int) + 1) = (j50 : Int) + 1 := wrap_in (by omega) (by omega)
            simp -dsimp [↓e52, h53, z55, h56, q57, ↓e75, h76, ↓e79, ↓e81, h82, q83, w85]
            repeat (refine chk.go (by first | omega | assumption | (simp_all; done) | (simp_all; omega)) ?_; simp -dsimp [↓e52, h53, z55, h56, q57, ↓e75, h76, ↓e79, ↓e81, h82, q83, w85])
            refine Again.go ⟨[(0, .arr (List.map Vl.Data.c w)), (1, .lit (.int .i64 d)), (2, .lit (.int .i64 k)), (7, .lit (.int .i64 (i : Int))), (8, .lit (.int .i64 ((j50 + 1) : Int)))], []⟩ (Gh.to (by simp) (by simp -dsimp) (by simp -dsimp) (by simp -dsimp)) ?_
            exact (ih_spec_l1Twice_l3 (j50 + 1) o hF) _ rfl _ hq
        · have q77 : ¬ (k < (x74.ctors.length : Int)) := by first | exact h76 | omega | (simpa using h76) | (simp at h76 ⊢; omega) | simp_all
          rw [if_neg q77] at hF
          have hF := oc hF; obtain ⟨c86, hF⟩ := hF
          have w87 : IntKind.i64.wrap ((j50 : Int) + 1) = (j50 : Int) + 1 := wrap_in (by omega) (by omega)
          simp -dsimp [↓e52, h53, z55, h56, q57, ↓e75, h76, q77, w87]
          repeat (refine chk.go (by first | omega | assumption | (simp_all; done) | (simp_all; omega)) ?_; simp -dsimp [↓e52, h53, z55, h56, q57, ↓e75, h76, q77, w87])
          refine Again.go ⟨[(0, .arr (List.map Vl.Data.c w)), (1, .lit (.int .i64 d)), (2, .lit (.int .i64 k)), (7, .lit (.int .i64 (i : Int))), (8, .lit (.int .i64 ((j50 + 1) : Int)))], []⟩ (Gh.to (by simp) (by simp -dsimp) (by simp -dsimp) (by simp -dsimp)) ?_
          exact (ih_spec_l1Twice_l3 (j50 + 1) o hF) _ rfl _ hq
    · have q54 : ¬ (j50 < x51.ctors.length) := by first | exact h53 | omega | (simpa using h53) | (simp at h53 ⊢; omega) | simp_all
      have z55 : ¬ ((j50 : Int) < (x51.ctors.length : Int)) := by first | omega | simp_all
      rw [if_neg q54] at hF
      cases hF
      simp -dsimp [↓e52, h53, q54, z55]
      repeat (refine chk.go (by first | omega | assumption | (simp_all; done) | (simp_all; omega)) ?_; simp -dsimp [↓e52, h53, q54, z55])
      refine Leave.go ⟨[(0, .arr (List.map Vl.Data.c w)), (1, .lit (.int .i64 d)), (2, .lit (.int .i64 k)), (7, .lit (.int .i64 (i : Int)))], []⟩ (Gh.to (by simp) (by simp -dsimp) (by simp -dsimp) (by simp -dsimp)) ?_
      exact hq

theorem C.spec_l1Twice_l3 (B : Nat) (hB1 : 67108864 ≤ B) (hB2 : B ≤ 9223372036854775807) (w : List Vl.Data) (d : Int) (k : Int) (i : Nat) (j50 : Nat) (o : Lo Bool Unit) (hF : F.spec_l1Twice_l3 w d k i j50 = some o) : ∀ (c : Code), navO [1, 0, 1, 0, 0, 1, 0, 0, 1, 1, 0, 0] (bodyOf Try.f92) = some c → ∀ (Q : Exit → ASt → Prop), o.post (fun r => ∀ st, Post Try.prog Try.f92 (fun r' _ => r'.le (.lit (.bool r))) .ret st → Q .ret st) (fun s => Q (.exit 2) ⟨[(0, .arr (List.map Vl.Data.c w)), (1, .lit (.int .i64 d)), (2, .lit (.int .i64 k)), (7, .lit (.int .i64 (i : Int)))], []⟩) → ALoopU Try.prog B 0 79 (hold c .mk) ⟨[(0, .arr (List.map Vl.Data.c w)), (1, .lit (.int .i64 d)), (2, .lit (.int .i64 k)), (7, .lit (.int .i64 (i : Int))), (8, .lit (.int .i64 (j50 : Int)))], []⟩ (hold Q .mk) :=
  (CC.spec_l1Twice_l3 B hB1 hB2 w d k i) j50 o hF

set_option maxRecDepth 100000 in
set_option maxHeartbeats 400000 in
theorem CC.spec_l1Twice_l1 (B : Nat) (hB1 : 67108864 ≤ B) (hB2 : B ≤ 9223372036854775807) (w : List Vl.Data) (d : Int) (k : Int) : (∀ (i : Nat) (o : Lo Bool Unit), F.spec_l1Twice_l1 w d k i = some o → ∀ (c : Code), navO [1, 0, 1, 0, 0] (bodyOf Try.f92) = some c → ∀ (Q : Exit → ASt → Prop), o.post (fun r => ∀ st, Post Try.prog Try.f92 (fun r' _ => r'.le (.lit (.bool r))) .ret st → Q .ret st) (fun s => Q (.exit 0) ⟨[], []⟩) → ALoopU Try.prog B 0 79 (hold c .mk) ⟨[(0, .arr (List.map Vl.Data.c w)), (1, .lit (.int .i64 d)), (2, .lit (.int .i64 k)), (7, .lit (.int .i64 (i : Int)))], []⟩ (hold Q .mk)) := by
  refine F.spec_l1Twice_l1.partial_correctness w d k
    (fun i o => ∀ (c : Code), navO [1, 0, 1, 0, 0] (bodyOf Try.f92) = some c → ∀ (Q : Exit → ASt → Prop), o.post (fun r => ∀ st, Post Try.prog Try.f92 (fun r' _ => r'.le (.lit (.bool r))) .ret st → Q .ret st) (fun s => Q (.exit 0) ⟨[], []⟩) → ALoopU Try.prog B 0 79 (hold c .mk) ⟨[(0, .arr (List.map Vl.Data.c w)), (1, .lit (.int .i64 d)), (2, .lit (.int .i64 k)), (7, .lit (.int .i64 (i : Int)))], []⟩ (hold Q .mk))
    ?_
  · intro _f_spec_l1Twice_l1 ih_spec_l1Twice_l1 i o hF
    intro c hc Q hq
    obtain rfl : c = _ := navEq hc rfl
    refine ALoopU.know fun hk hs => ?_
    have b0 := hk 0
    simp -dsimp at b0
    clear hk hs
    refine ALoopU.enter ?_
    simp -dsimp
    repeat (refine chk.go (by first | omega | assumption | (simp_all; done) | (simp_all; omega)) ?_; simp -dsimp)
    refine abr.split (fun h1 => ?_) (fun h1 => ?_)
    · have q2 : ((i : Int) ≤ d) := by first | exact h1 | omega | (simpa using h1) | (simp at h1 ⊢; omega) | simp_all
      rw [if_pos q2] at hF
      simp -dsimp [h1]
      repeat (refine chk.go (by first | omega | assumption | (simp_all; done) | (simp_all; omega)) ?_; simp -dsimp [h1])
      refine ADraw.simple follows (by kernel_rfl) (by kernel_rfl) ?_
      simp -dsimp [h1]
      repeat (refine chk.go (by first | omega | assumption | (simp_all; done) | (simp_all; omega)) ?_; simp -dsimp [h1])
      refine abr.split (fun h3 => ?_) (fun h3 => ?_)
      · have q4 : ((i : Int) < d) := by first | exact h3 | omega | (simpa using h3) | (simp at h3 ⊢; omega) | simp_all
        rw [if_pos q4] at hF
        have hF := ob hF; obtain ⟨x, e5, hF⟩ := hF
        have le5 := lt_of_get e5
        have hF := ob hF; obtain ⟨x6, e7a, hF⟩ := hF
        have e7a := at_some e7a; obtain ⟨ne7, e7⟩ := e7a
        have le7 := lt_of_get e7
        simp -dsimp [h1, h3, ↓e5, ↓e7]
        repeat (refine chk.go (by first | omega | assumption | (simp_all; done) | (simp_all; omega)) ?_; simp -dsimp [h1, h3, ↓e5, ↓e7])
        refine abr.split (fun h8 => ?_) (fun h8 => ?_)
        · have q9 : (x.name.toList = x6.name.toList) := by first | exact h8 | omega | (simpa using h8) | (simp at h8 ⊢; omega) | simp_all
          rw [if_pos q9] at hF
          cases hF
          simp -dsimp [h1, h3, ↓e5, ↓e7, h8]
          repeat (refine chk.go (by first | omega | assumption | (simp_all; done) | (simp_all; omega)) ?_; simp -dsimp [h1, h3, ↓e5, ↓e7, h8])
          refine Leave.go _ (Gh.refl _) (hq _ ?_)
          simp -dsimp [h1, h3, ↓e5, ↓e7, h8]
          repeat (refine chk.go (by first | omega | assumption | (simp_all; done) | (simp_all; omega)) ?_; simp -dsimp [h1, h3, ↓e5, ↓e7, h8])
        · have q9 : ¬ (x.name.toList = x6.name.toList) := by first | exact h8 | omega | (simpa using h8) | (simp at h8 ⊢; omega) | simp_all
          rw [if_neg q9] at hF
          simp -dsimp [h1, h3, ↓e5, ↓e7, h8, q9]
          repeat (refine chk.go (by first | omega | assumption | (simp_all; done) | (simp_all; omega)) ?_; simp -dsimp [h1, h3, ↓e5, ↓e7, h8, q9])
          have hF := ob hF; obtain ⟨o, ho47, hF⟩ := hF
          refine ALoop.goU ⟨[(0, .arr (List.map Vl.Data.c w)), (1, .lit (.int .i64 d)), (2, .lit (.int .i64 k)), (7, .lit (.int .i64 (i : Int))), (8, .lit (.int .i64 (0 : Int)))], []⟩ (Gh.to (by simp) (by simp -dsimp) (by simp -dsimp) (by simp -dsimp)) ?_
          refine (C.spec_l1Twice_l2 B hB1 hB2 w d k i 0 o ho47) _ rfl _ ?_
          rcases o with r0 | s
          · dsimp only at hF
            cases hF
            intro st h
            simp -dsimp
            refine Leave.go st (Gh.refl _) (hq st h)
          · dsimp only at hF
            have hF := oc hF; obtain ⟨c48, hF⟩ := hF
            have w49 : IntKind.i64.wrap ((i : Int) + 1) = (i : Int) + 1 := wrap_in (by omega) (by omega)
            simp -dsimp [w49]
            repeat (refine chk.go (by first | omega | assumption | (simp_all; done) | (simp_all; omega)) ?_; simp -dsimp [w49])
            refine Again.go ⟨[(0, .arr (List.map Vl.Data.c w)), (1, .lit (.int .i64 d)), (2, .lit (.int .i64 k)), (7, .lit (.int .i64 ((i + 1) : Int)))], []⟩ (Gh.to (by simp) (by simp -dsimp) (by simp -dsimp) (by simp -dsimp)) ?_
            exact (ih_spec_l1Twice_l1 (i + 1) o hF) _ rfl _ hq
      · have q4 : ¬ ((i : Int) < d) := by first | exact h3 | omega | (simpa using h3) | (simp at h3 ⊢; omega) | simp_all
        rw [if_neg q4] at hF
        simp -dsimp [h1, h3, q4]
        repeat (refine chk.go (by first | omega | assumption | (simp_all; done) | (simp_all; omega)) ?_; simp -dsimp [h1, h3, q4])
        have hF := ob hF; obtain ⟨o89, ho88, hF⟩ := hF
        refine ALoop.goU ⟨[(0, .arr (List.map Vl.Data.c w)), (1, .lit (.int .i64 d)), (2, .lit (.int .i64 k)), (7, .lit (.int .i64 (i : Int))), (8, .lit (.int .i64 (0 : Int)))], []⟩ (Gh.to (by simp) (by simp -dsimp) (by simp -dsimp) (by simp -dsimp)) ?_
        refine (C.spec_l1Twice_l3 B hB1 hB2 w d k i 0 o89 ho88) _ rfl _ ?_
        rcases o89 with r093 | s90
        · dsimp only at hF
          cases hF
          intro st h
          simp -dsimp
          refine Leave.go st (Gh.refl _) (hq st h)
        · dsimp only at hF
          have hF := oc hF; obtain ⟨c91, hF⟩ := hF
          have w92 : IntKind.i64.wrap ((i : Int) + 1) = (i : Int) + 1 := wrap_in (by omega) (by omega)
          simp -dsimp [w92]
          repeat (refine chk.go (by first | omega | assumption | (simp_all; done) | (simp_all; omega)) ?_; simp -dsimp [w92])
          refine Again.go ⟨[(0, .arr (List.map Vl.Data.c w)), (1, .lit (.int .i64 d)), (2, .lit (.int .i64 k)), (7, .lit (.int .i64 ((i + 1) : Int)))], []⟩ (Gh.to (by simp) (by simp -dsimp) (by simp -dsimp) (by simp -dsimp)) ?_
          exact (ih_spec_l1Twice_l1 (i + 1) o hF) _ rfl _ hq
    · have q2 : ¬ ((i : Int) ≤ d) := by first | exact h1 | omega | (simpa using h1) | (simp at h1 ⊢; omega) | simp_all
      rw [if_neg q2] at hF
      cases hF
      simp -dsimp [h1, q2]
      repeat (refine chk.go (by first | omega | assumption | (simp_all; done) | (simp_all; omega)) ?_; simp -dsimp [h1, q2])
      refine Leave.go ⟨[], []⟩ (Gh.to (by simp) (by simp -dsimp) (by simp -dsimp) (by simp -dsimp)) ?_
      exact hq

theorem C.spec_l1Twice_l1 (B : Nat) (hB1 : 67108864 ≤ B) (hB2 : B ≤ 9223372036854775807) (w : List Vl.Data) (d : Int) (k : Int) (i : Nat) (o : Lo Bool Unit) (hF : F.spec_l1Twice_l1 w d k i = some o) : ∀ (c : Code), navO [1, 0, 1, 0, 0] (bodyOf Try.f92) = some c → ∀ (Q : Exit → ASt → Prop), o.post (fun r => ∀ st, Post Try.prog Try.f92 (fun r' _ => r'.le (.lit (.bool r))) .ret st → Q .ret st) (fun s => Q (.exit 0) ⟨[], []⟩) → ALoopU Try.prog B 0 79 (hold c .mk) ⟨[(0, .arr (List.map Vl.Data.c w)), (1, .lit (.int .i64 d)), (2, .lit (.int .i64 k)), (7, .lit (.int .i64 (i : Int)))], []⟩ (hold Q .mk) :=
  (CC.spec_l1Twice_l1 B hB1 hB2 w d k) i o hF

set_option maxRecDepth 100000 in
set_option maxHeartbeats 400000 in
theorem C.spec_l1Twice (B : Nat) (hB1 : 67108864 ≤ B) (hB2 : B ≤ 9223372036854775807) (w : List Vl.Data) (d : Int) (k : Int) (r : Bool) (hF : F.spec_l1Twice w d k = some r) : PureCall Try.prog B 92 [.arr (List.map Vl.Data.c w), .lit (.int .i64 d), .lit (.int .i64 k)] (.lit (.bool r)) := by
  unfold F.spec_l1Twice at hF
  refine PureCall.enterLe Try.func92 (by kernel_rfl) rfl Try.ntmps92 (by simp) (by simp) ?_
  simp -dsimp
  repeat (refine chk.go (by first | omega | assumption | (simp_all; done) | (simp_all; omega)) ?_; simp -dsimp)
  have hF := ob hF; obtain ⟨o95, ho94, hF⟩ := hF
  refine ALoop.goU ⟨[(0, .arr (List.map Vl.Data.c w)), (1, .lit (.int .i64 d)), (2, .lit (.int .i64 k)), (7, .lit (.int .i64 (0 : Int)))], []⟩ (Gh.to (by simp) (by simp -dsimp) (by simp -dsimp) (by simp -dsimp)) ?_
  refine (C.spec_l1Twice_l1 B hB1 hB2 w d k 0 o95 ho94) _ rfl _ ?_
  rcases o95 with r097 | s96
  · dsimp only at hF
    cases hF
    intro st h
    simpa using h
  · dsimp only at hF
    cases hF
    simp -dsimp
    repeat (refine chk.go (by first | omega | assumption | (simp_all; done) | (simp_all; omega)) ?_; simp -dsimp)

set_option maxRecDepth 100000 in
set_option maxHeartbeats 400000 in
theorem CC.spec_WorldValid_l2 (B : Nat) (hB1 : 67108864 ≤ B) (hB2 : B ≤ 9223372036854775807) (w : List Vl.Data) (d : Nat) : (∀ (k : Nat) (o : Lo Bool Unit), F.spec_WorldValid_l2 w d k = some o → ∀ (c : Code), navO [1, 1, 0, 1, 0, 0, 1, 0, 0, 1, 1, 0, 0] (bodyOf Try.f75) = some c → ∀ (Q : Exit → ASt → Prop), o.post (fun r => ∀ st, Post Try.prog Try.f75 (fun r' _ => r'.le (.lit (.bool r))) .ret st → Q .ret st) (fun s => Q (.exit 2) ⟨[(0, .arr (List.map Vl.Data.c w)), (3, .lit (.int .i64 (d : Int)))], []⟩) → ALoopU Try.prog B 0 67 (hold c .mk) ⟨[(0, .arr (List.map Vl.Data.c w)), (3, .lit (.int .i64 (d : Int))), (4, .lit (.int .i64 (k : Int)))], []⟩ (hold Q .mk)) := by
  refine F.spec_WorldValid_l2.partial_correctness w d
    (fun k o => ∀ (c : Code), navO [1, 1, 0, 1, 0, 0, 1, 0, 0, 1, 1, 0, 0] (bodyOf Try.f75) = some c → ∀ (Q : Exit → ASt → Prop), o.post (fun r => ∀ st, Post Try.prog Try.f75 (fun r' _ => r'.le (.lit (.bool r))) .ret st → Q .ret st) (fun s => Q (.exit 2) ⟨[(0, .arr (List.map Vl.Data.c w)), (3, .lit (.int .i64 (d : Int)))], []⟩) → ALoopU Try.prog B 0 67 (hold c .mk) ⟨[(0, .arr (List.map Vl.Data.c w)), (3, .lit (.int .i64 (d : Int))), (4, .lit (.int .i64 (k : Int)))], []⟩ (hold Q .mk))
    ?_
  · intro _f_spec_WorldValid_l2 ih_spec_WorldValid_l2 k o hF
    intro c hc Q hq
    obtain rfl : c = _ := navEq hc rfl
    refine ALoopU.know fun hk hs => ?_
    have b0 := hk 0
    simp -dsimp at b0
    clear hk hs
    refine ALoopU.enter ?_
    have hF := ob hF; obtain ⟨x17, e18, hF⟩ := hF
    have le18 := lt_of_get e18
    simp -dsimp [↓e18]
    repeat (refine chk.go (by first | omega | assumption | (simp_all; done) | (simp_all; omega)) ?_; simp -dsimp [↓e18])
    refine abr.split (fun h19 => ?_) (fun h19 => ?_)
    · have q20 : (k < x17.ctors.length) := by first | exact h19 | omega | (simpa using h19) | (simp at h19 ⊢; omega) | simp_all
      have z21 : ((k : Int) < (x17.ctors.length : Int)) := by first | omega | simp_all
      rw [if_pos q20] at hF
      have hF := ob hF; obtain ⟨x22, e23, hF⟩ := hF
      have le23 := lt_of_get e23
      simp -dsimp [↓e18, h19, z21, ↓e23]
      repeat (refine chk.go (by first | omega | assumption | (simp_all; done) | (simp_all; omega)) ?_; simp -dsimp [↓e18, h19, z21, ↓e23])
      have hF := ob hF; obtain ⟨v24, e25, hF⟩ := hF
      refine ((C.spec_l1Ctor B hB1 hB2 (w.length : Int) x22 v24 e25)).goW (by simp) (by simp) ?_
      simp -dsimp [↓e18, h19, z21, ↓e23]
      repeat (refine chk.go (by first | omega | assumption | (simp_all; done) | (simp_all; omega)) ?_; simp -dsimp [↓e18, h19, z21, ↓e23])
      refine abr.split (fun h26 => ?_) (fun h26 => ?_)
      · have q27 : (v24 = true) := by first | exact h26 | omega | (simpa using h26) | (simp at h26 ⊢; omega) | simp_all
        rw [if_pos q27] at hF
        simp -dsimp [↓e18, h19, z21, ↓e23, h26]
        repeat (refine chk.go (by first | omega | assumption | (simp_all; done) | (simp_all; omega)) ?_; simp -dsimp [↓e18, h19, z21, ↓e23, h26])
        have hF := ob hF; obtain ⟨v28, e29, hF⟩ := hF
        refine ((C.spec_l1Twice B hB1 hB2 w (d : Int) (k : Int) v28 e29)).goW (by simp) (by simp) ?_
        simp -dsimp [↓e18, h19, z21, ↓e23, h26]
        repeat (refine chk.go (by first | omega | assumption | (simp_all; done) | (simp_all; omega)) ?_; simp -dsimp [↓e18, h19, z21, ↓e23, h26])
        refine abr.split (fun h30 => ?_) (fun h30 => ?_)
        · have q31 : (v28 = true) := by first | exact h30 | omega | (simpa using h30) | (simp at h30 ⊢; omega) | simp_all
          rw [if_pos q31] at hF
          cases hF
          simp -dsimp [↓e18, h19, z21, ↓e23, h26, h30]
          repeat (refine chk.go (by first | omega | assumption | (simp_all; done) | (simp_all; omega)) ?_; simp -dsimp [↓e18, h19, z21, ↓e23, h26, h30])
          refine Leave.go _ (Gh.refl _) (hq _ ?_)
          simp -dsimp [↓e18, h19, z21, ↓e23, h26, h30]
          repeat (refine chk.go (by first | omega | assumption | (simp_all; done) | (simp_all; omega)) ?_; simp -dsimp [↓e18, h19, z21, ↓e23, h26, h30])
        · have q31 : ¬ (v28 = true) := by first | exact h30 | omega | (simpa using h30) | (simp at h30 ⊢; omega) | simp_all
          rw [if_neg q31] at hF
          have hF := oc hF; obtain ⟨c32, hF⟩ := hF
          have w33 : IntKind.i64.wrap ((k : Int) + 1) = (k : Int) + 1 := wrap_in (by omega) (by omega)
          simp -dsimp [↓e18, h19, z21, ↓e23, h26, h30, q31, w33]
          repeat (refine chk.go (by first | omega | assumption | (simp_all; done) | (simp_all; omega)) ?_; simp -dsimp [↓e18, h19, z21, ↓e23, h26, h30, q31, w33])
          refine Again.go ⟨[(0, .arr (List.map Vl.Data.c w)), (3, .lit (.int .i64 (d : Int))), (4, .lit (.int .i64 ((k + 1) : Int)))], []⟩ (Gh.to (by simp) (by simp -dsimp) (by simp -dsimp) (by simp -dsimp)) ?_
          exact (ih_spec_WorldValid_l2 (k + 1) o hF) _ rfl _ hq
      · have q27 : ¬ (v24 = true) := by first | exact h26 | omega | (simpa using h26) | (simp at h26 ⊢; omega) | simp_all
        rw [if_neg q27] at hF
        cases hF
        simp -dsimp [↓e18, h19, z21, ↓e23, h26, q27]
        repeat (refine chk.go (by first | omega | assumption | (simp_all; done) | (simp_all; omega)) ?_; simp -dsimp [↓e18, h19, z21, ↓e23, h26, q27])
        refine Leave.go _ (Gh.refl _) (hq _ ?_)
        simp -dsimp [↓e18, h19, z21, ↓e23, h26, q27]
        repeat (refine chk.go (by first | omega | assumption | (simp_all; done) | (simp_all; omega)) ?_; simp -dsimp [↓e18, h19, z21, ↓e23, h26, q27])
    · have q20 : ¬ (k < x17.ctors.length) := by first | exact h19 | omega | (simpa using h19) | (simp at h19 ⊢; omega) | simp_all
      have z21 : ¬ ((k : Int) < (x17.ctors.length : Int)) := by first | omega | simp_all
      rw [if_neg q20] at hF
      cases hF
      simp -dsimp [↓e18, h19, q20, z21]
      repeat (refine chk.go (by first | omega | assumption | (simp_all; done) | (simp_all; omega)) ?_; simp -dsimp [↓e18, h19, q20, z21])
      refine Leave.go ⟨[(0, .arr (List.map Vl.Data.c w)), (3, .lit (.int .i64 (d : Int)))], []⟩ (Gh.to (by simp) (by simp -dsimp) (by simp -dsimp) (by simp -dsimp)) ?_
      exact hq

theorem C.spec_WorldValid_l2 (B : Nat) (hB1 : 67108864 ≤ B) (hB2 : B ≤ 9223372036854775807) (w : List Vl.Data) (d : Nat) (k : Nat) (o : Lo Bool Unit) (hF : F.spec_WorldValid_l2 w d k = some o) : ∀ (c : Code), navO [1, 1, 0, 1, 0, 0, 1, 0, 0, 1, 1, 0, 0] (bodyOf Try.f75) = some c → ∀ (Q : Exit → ASt → Prop), o.post (fun r => ∀ st, Post Try.prog Try.f75 (fun r' _ => r'.le (.lit (.bool r))) .ret st → Q .ret st) (fun s => Q (.exit 2) ⟨[(0, .arr (List.map Vl.Data.c w)), (3, .lit (.int .i64 (d : Int)))], []⟩) → ALoopU Try.prog B 0 67 (hold c .mk) ⟨[(0, .arr (List.map Vl.Data.c w)), (3, .lit (.int .i64 (d : Int))), (4, .lit (.int .i64 (k : Int)))], []⟩ (hold Q .mk) :=
  (CC.spec_WorldValid_l2 B hB1 hB2 w d) k o hF

set_option maxRecDepth 100000 in
set_option maxHeartbeats 400000 in
theorem CC.spec_WorldValid_l1 (B : Nat) (hB1 : 67108864 ≤ B) (hB2 : B ≤ 9223372036854775807) (w : List Vl.Data) : (∀ (d : Nat) (o : Lo Bool Unit), F.spec_WorldValid_l1 w d = some o → ∀ (c : Code), navO [1, 1, 0, 1, 0, 0] (bodyOf Try.f75) = some c → ∀ (Q : Exit → ASt → Prop), o.post (fun r => ∀ st, Post Try.prog Try.f75 (fun r' _ => r'.le (.lit (.bool r))) .ret st → Q .ret st) (fun s => Q (.exit 0) ⟨[], []⟩) → ALoopU Try.prog B 0 67 (hold c .mk) ⟨[(0, .arr (List.map Vl.Data.c w)), (3, .lit (.int .i64 (d : Int)))], []⟩ (hold Q .mk)) := by
  refine F.spec_WorldValid_l1.partial_correctness w
    (fun d o => ∀ (c : Code), navO [1, 1, 0, 1, 0, 0] (bodyOf Try.f75) = some c → ∀ (Q : Exit → ASt → Prop), o.post (fun r => ∀ st, Post Try.prog Try.f75 (fun r' _ => r'.le (.lit (.bool r))) .ret st → Q .ret st) (fun s => Q (.exit 0) ⟨[], []⟩) → ALoopU Try.prog B 0 67 (hold c .mk) ⟨[(0, .arr (List.map Vl.Data.c w)), (3, .lit (.int .i64 (d : Int)))], []⟩ (hold Q .mk))
    ?_
  · intro _f_spec_WorldValid_l1 ih_spec_WorldValid_l1 d o hF
    intro c hc Q hq
    obtain rfl : c = _ := navEq hc rfl
    refine ALoopU.know fun hk hs => ?_
    have b0 := hk 0
    simp -dsimp at b0
    clear hk hs
    refine ALoopU.enter ?_
    simp -dsimp
    repeat (refine chk.go (by first | omega | assumption | (simp_all; done) | (simp_all; omega)) ?_; simp -dsimp)
    refine abr.split (fun h4 => ?_) (fun h4 => ?_)
    · have q5 : (d < w.length) := by first | exact h4 | omega | (simpa using h4) | (simp at h4 ⊢; omega) | simp_all
      have z6 : ((d : Int) < (w.length : Int)) := by first | omega | simp_all
      rw [if_pos q5] at hF
      have hF := ob hF; obtain ⟨x, e7, hF⟩ := hF
      have le7 := lt_of_get e7
      simp -dsimp [h4, z6, ↓e7]
      repeat (refine chk.go (by first | omega | assumption | (simp_all; done) | (simp_all; omega)) ?_; simp -dsimp [h4, z6, ↓e7])
      have hF := ob hF; obtain ⟨v, e8, hF⟩ := hF
      refine ((C.spec_l1Data B hB1 hB2 x.name v e8)).goW (by simp) (by simp) ?_
      simp -dsimp [h4, z6, ↓e7]
      repeat (refine chk.go (by first | omega | assumption | (simp_all; done) | (simp_all; omega)) ?_; simp -dsimp [h4, z6, ↓e7])
      refine abr.split (fun h9 => ?_) (fun h9 => ?_)
      · have q10 : (v = true) := by first | exact h9 | omega | (simpa using h9) | (simp at h9 ⊢; omega) | simp_all
        rw [if_pos q10] at hF
        simp -dsimp [h4, z6, ↓e7, h9]
        repeat (refine chk.go (by first | omega | assumption | (simp_all; done) | (simp_all; omega)) ?_; simp -dsimp [h4, z6, ↓e7, h9])
        refine abr.split (fun h11 => ?_) (fun h11 => ?_)
        · have q12 : ¬ (x.ctors.length = 0) := by first | exact h11 | omega | (simpa using h11) | (simp at h11 ⊢; omega) | simp_all
          have z13 : ¬ ((x.ctors.length : Int) = (0 : Int)) := by first | omega | simp_all
          rw [if_neg q12] at hF
          simp -dsimp [h4, z6, ↓e7, h9, h11, q12, z13]
          repeat (refine chk.go (by first | omega | assumption | (simp_all; done) | (simp_all; omega)) ?_; simp -dsimp [h4, z6, ↓e7, h9, h11, q12, z13])
          refine abr.split (fun h14 => ?_) (fun h14 => ?_)
          · have q15 : (4 < x.ctors.length) := by first | exact h14 | omega | (simpa using h14) | (simp at h14 ⊢; omega) | simp_all
            have z16 : ((4 : Int) < (x.ctors.length : Int)) := by first | omega | simp_all
            rw [if_pos q15] at hF
            cases hF
            simp -dsimp [h4, z6, ↓e7, h9, h11, q12, z13, h14, z16]
            repeat (refine chk.go (by first | omega | assumption | (simp_all; done) | (simp_all; omega)) ?_; simp -dsimp [h4, z6, ↓e7, h9, h11, q12, z13, h14, z16])
            refine Leave.go _ (Gh.refl _) (hq _ ?_)
            simp -dsimp [h4, z6, ↓e7, h9, h11, q12, z13, h14, z16]
            repeat (refine chk.go (by first | omega | assumption | (simp_all; done) | (simp_all; omega)) ?_; simp -dsimp [h4, z6, ↓e7, h9, h11, q12, z13, h14, z16])
          · have q15 : ¬ (4 < x.ctors.length) := by first | exact h14 | omega | (simpa using h14) | (simp at h14 ⊢; omega) | simp_all
            have z16 : ¬ ((4 : Int) < (x.ctors.length : Int)) := by first | omega | simp_all
            rw [if_neg q15] at hF
            simp -dsimp [h4, z6, ↓e7, h9, h11, q12, z13, h14, q15, z16]
            repeat (refine chk.go (by first | omega | assumption | (simp_all; done) | (simp_all; omega)) ?_; simp -dsimp [h4, z6, ↓e7, h9, h11, q12, z13, h14, q15, z16])
            have hF := ob hF; obtain ⟨o, ho34, hF⟩ := hF
            refine ALoop.goU ⟨[(0, .arr (List.map Vl.Data.c w)), (3, .lit (.int .i64 (d : Int))), (4, .lit (.int .i64 (0 : Int)))], []⟩ (Gh.to (by simp) (by simp -dsimp) (by simp -dsimp) (by simp -dsimp)) ?_
            refine (C.spec_WorldValid_l2 B hB1 hB2 w d 0 o ho34) _ rfl _ ?_
            rcases o with r0 | s
            · dsimp only at hF
              cases hF
              intro st h
              simp -dsimp
              refine Leave.go st (Gh.refl _) (hq st h)
            · dsimp only at hF
              have hF := oc hF; obtain ⟨c35, hF⟩ := hF
              have w36 : IntKind.i64.wrap ((d : Int) + 1) = (d : Int) + 1 := wrap_in (by omega) (by omega)
              simp -dsimp [w36]
              repeat (refine chk.go (by first | omega | assumption | (simp_all; done) | (simp_all; omega)) ?_; simp -dsimp [w36])
              refine Again.go ⟨[(0, .arr (List.map Vl.Data.c w)), (3, .lit (.int .i64 ((d + 1) : Int)))], []⟩ (Gh.to (by simp) (by simp -dsimp) (by simp -dsimp) (by simp -dsimp)) ?_
              exact (ih_spec_WorldValid_l1 (d + 1) o hF) _ rfl _ hq
        · have q12 : (x.ctors.length = 0) := by first | exact h11 | omega | (simpa using h11) | (simp at h11 ⊢; omega) | simp_all
          have z13 : ((x.ctors.length : Int) = (0 : Int)) := by first | omega | simp_all
          rw [if_pos q12] at hF
          cases hF
          simp -dsimp [h4, z6, ↓e7, h9, h11, q12, z13]
          repeat (refine chk.go (by first | omega | assumption | (simp_all; done) | (simp_all; omega)) ?_; simp -dsimp [h4, z6, ↓e7, h9, h11, q12, z13])
          refine Leave.go _ (Gh.refl _) (hq _ ?_)
          simp -dsimp [h4, z6, ↓e7, h9, h11, q12, z13]
          repeat (refine chk.go (by first | omega | assumption | (simp_all; done) | (simp_all; omega)) ?_; simp -dsimp [h4, z6, ↓e7, h9, h11, q12, z13])
      · have q10 : ¬ (v = true) := by first | exact h9 | omega | (simpa using h9) | (simp at h9 ⊢; omega) | simp_all
        rw [if_neg q10] at hF
        cases hF
        simp -dsimp [h4, z6, ↓e7, h9, q10]
        repeat (refine chk.go (by first | omega | assumption | (simp_all; done) | (simp_all; omega)) ?_; simp -dsimp [h4, z6, ↓e7, h9, q10])
        refine Leave.go _ (Gh.refl _) (hq _ ?_)
        simp -dsimp [h4, z6, ↓e7, h9, q10]
        repeat (refine chk.go (by first | omega | assumption | (simp_all; done) | (simp_all; omega)) ?_; simp -dsimp [h4, z6, ↓e7, h9, q10])
    · have q5 : ¬ (d < w.length) := by first | exact h4 | omega | (simpa using h4) | (simp at h4 ⊢; omega) | simp_all
      have z6 : ¬ ((d : Int) < (w.length : Int)) := by first | omega | simp_all
      rw [if_neg q5] at hF
      cases hF
      simp -dsimp [h4, q5, z6]
      repeat (refine chk.go (by first | omega | assumption | (simp_all; done) | (simp_all; omega)) ?_; simp -dsimp [h4, q5, z6])
      refine Leave.go ⟨[], []⟩ (Gh.to (by simp) (by simp -dsimp) (by simp -dsimp) (by simp -dsimp)) ?_
      exact hq

theorem C.spec_WorldValid_l1 (B : Nat) (hB1 : 67108864 ≤ B) (hB2 : B ≤ 9223372036854775807) (w : List Vl.Data) (d : Nat) (o : Lo Bool Unit) (hF : F.spec_WorldValid_l1 w d = some o) : ∀ (c : Code), navO [1, 1, 0, 1, 0, 0] (bodyOf Try.f75) = some c → ∀ (Q : Exit → ASt → Prop), o.post (fun r => ∀ st, Post Try.prog Try.f75 (fun r' _ => r'.le (.lit (.bool r))) .ret st → Q .ret st) (fun s => Q (.exit 0) ⟨[], []⟩) → ALoopU Try.prog B 0 67 (hold c .mk) ⟨[(0, .arr (List.map Vl.Data.c w)), (3, .lit (.int .i64 (d : Int)))], []⟩ (hold Q .mk) :=
  (CC.spec_WorldValid_l1 B hB1 hB2 w) d o hF

set_option maxRecDepth 100000 in
set_option maxHeartbeats 400000 in
theorem C.spec_WorldValid (B : Nat) (hB1 : 67108864 ≤ B) (hB2 : B ≤ 9223372036854775807) (w : List Vl.Data) (r : Bool) (hF : F.spec_WorldValid w = some r) : PureCall Try.prog B 75 [.arr (List.map Vl.Data.c w)] (.lit (.bool r)) := by
  unfold F.spec_WorldValid at hF
  refine PureCall.enterLe Try.func75 (by kernel_rfl) rfl Try.ntmps75 (by simp) (by simp) ?_
  simp -dsimp
  repeat (refine chk.go (by first | omega | assumption | (simp_all; done) | (simp_all; omega)) ?_; simp -dsimp)
  refine abr.split (fun h1 => ?_) (fun h1 => ?_)
  · have q2 : (4 < w.length) := by first | exact h1 | omega | (simpa using h1) | (simp at h1 ⊢; omega) | simp_all
    have z3 : ((4 : Int) < (w.length : Int)) := by first | omega | simp_all
    rw [if_pos q2] at hF
    cases hF
    simp -dsimp [h1, z3]
    repeat (refine chk.go (by first | omega | assumption | (simp_all; done) | (simp_all; omega)) ?_; simp -dsimp [h1, z3])
  · have q2 : ¬ (4 < w.length) := by first | exact h1 | omega | (simpa using h1) | (simp at h1 ⊢; omega) | simp_all
    have z3 : ¬ ((4 : Int) < (w.length : Int)) := by first | omega | simp_all
    rw [if_neg q2] at hF
    simp -dsimp [h1, q2, z3]
    repeat (refine chk.go (by first | omega | assumption | (simp_all; done) | (simp_all; omega)) ?_; simp -dsimp [h1, q2, z3])
    have hF := ob hF; obtain ⟨o38, ho37, hF⟩ := hF
    refine ALoop.goU ⟨[(0, .arr (List.map Vl.Data.c w)), (3, .lit (.int .i64 (0 : Int)))], []⟩ (Gh.to (by simp) (by simp -dsimp) (by simp -dsimp) (by simp -dsimp)) ?_
    refine (C.spec_WorldValid_l1 B hB1 hB2 w 0 o38 ho37) _ rfl _ ?_
    rcases o38 with r040 | s39
    · dsimp only at hF
      cases hF
      intro st h
      simpa using h
    · dsimp only at hF
      cases hF
      simp -dsimp
      repeat (refine chk.go (by first | omega | assumption | (simp_all; done) | (simp_all; omega)) ?_; simp -dsimp)

set_option maxRecDepth 100000 in
set_option maxHeartbeats 400000 in
theorem C.spec_l1Is (B : Nat) (hB1 : 67108864 ≤ B) (hB2 : B ≤ 9223372036854775807) (w : List Vl.Data) (t : Vl.Ty) (r : Bool) (hF : F.spec_l1Is w t = some r) : PureCall Try.prog B 76 [.arr (List.map Vl.Data.c w), .agg [.lit (.int .i64 t.data), .lit (.int .i64 t.index)]] (.lit (.bool r)) := by
  unfold F.spec_l1Is at hF
  refine PureCall.enterLe Try.func76 (by kernel_rfl) rfl Try.ntmps76 (by simp) (by simp) ?_
  simp -dsimp
  repeat (refine chk.go (by first | omega | assumption | (simp_all; done) | (simp_all; omega)) ?_; simp -dsimp)
  have hF := ob hF; obtain ⟨v, e1, hF⟩ := hF
  refine ((C.spec_l1Arg B hB1 hB2 (w.length : Int) t v e1)).goW (by simp) (by simp) ?_
  simp -dsimp
  repeat (refine chk.go (by first | omega | assumption | (simp_all; done) | (simp_all; omega)) ?_; simp -dsimp)
  refine abr.split (fun h2 => ?_) (fun h2 => ?_)
  · have q3 : (v = true) := by first | exact h2 | omega | (simpa using h2) | (simp at h2 ⊢; omega) | simp_all
    rw [if_pos q3] at hF
    cases hF
    simp -dsimp [h2]
    repeat (refine chk.go (by first | omega | assumption | (simp_all; done) | (simp_all; omega)) ?_; simp -dsimp [h2])
  · have q3 : ¬ (v = true) := by first | exact h2 | omega | (simpa using h2) | (simp at h2 ⊢; omega) | simp_all
    rw [if_neg q3] at hF
    cases hF
    simp -dsimp [h2, q3]
    repeat (refine chk.go (by first | omega | assumption | (simp_all; done) | (simp_all; omega)) ?_; simp -dsimp [h2, q3])

set_option maxRecDepth 100000 in
set_option maxHeartbeats 400000 in
theorem C.spec_TypeValid (B : Nat) (hB1 : 67108864 ≤ B) (hB2 : B ≤ 9223372036854775807) (w : List Vl.Data) (t : Vl.Ty) (r : Bool) (hF : F.spec_TypeValid w t = some r) : PureCall Try.prog B 46 [.arr (List.map Vl.Data.c w), .agg [.lit (.int .i64 t.data), .lit (.int .i64 t.index)]] (.lit (.bool r)) := by
  unfold F.spec_TypeValid at hF
  refine PureCall.enterLe Try.func46 (by kernel_rfl) rfl Try.ntmps46 (by simp) (by simp) ?_
  simp -dsimp
  repeat (refine chk.go (by first | omega | assumption | (simp_all; done) | (simp_all; omega)) ?_; simp -dsimp)
  have hF := ob hF; obtain ⟨v, e1, hF⟩ := hF
  refine ((C.spec_WorldValid B hB1 hB2 w v e1)).goW (by simp) (by simp) ?_
  simp -dsimp
  repeat (refine chk.go (by first | omega | assumption | (simp_all; done) | (simp_all; omega)) ?_; simp -dsimp)
  refine abr.split (fun h2 => ?_) (fun h2 => ?_)
  · have q3 : (v = true) := by first | exact h2 | omega | (simpa using h2) | (simp at h2 ⊢; omega) | simp_all
    rw [if_pos q3] at hF
    simp -dsimp [h2]
    repeat (refine chk.go (by first | omega | assumption | (simp_all; done) | (simp_all; omega)) ?_; simp -dsimp [h2])
    have hF := ob hF; obtain ⟨v4, e5, hF⟩ := hF
    refine ((C.spec_l1Is B hB1 hB2 w t v4 e5)).goW (by simp) (by simp) ?_
    cases hF
    simp -dsimp [h2]
    repeat (refine chk.go (by first | omega | assumption | (simp_all; done) | (simp_all; omega)) ?_; simp -dsimp [h2])
  · have q3 : ¬ (v = true) := by first | exact h2 | omega | (simpa using h2) | (simp at h2 ⊢; omega) | simp_all
    rw [if_neg q3] at hF
    cases hF
    simp -dsimp [h2, q3]
    repeat (refine chk.go (by first | omega | assumption | (simp_all; done) | (simp_all; omega)) ?_; simp -dsimp [h2, q3])

set_option maxRecDepth 100000 in
set_option maxHeartbeats 400000 in
theorem C.spec_l12Fits (B : Nat) (hB1 : 67108864 ≤ B) (hB2 : B ≤ 9223372036854775807) (a : Vl.Ty) (b : Vl.Ty) (r : Bool) (hF : F.spec_l12Fits a b = some r) : PureCall Try.prog B 47 [.agg [.lit (.int .i64 a.data), .lit (.int .i64 a.index)], .agg [.lit (.int .i64 b.data), .lit (.int .i64 b.index)]] (.lit (.bool r)) := by
  unfold F.spec_l12Fits at hF
  refine PureCall.enterLe Try.func47 (by kernel_rfl) rfl Try.ntmps47 (by simp) (by simp) ?_
  simp -dsimp
  repeat (refine chk.go (by first | omega | assumption | (simp_all; done) | (simp_all; omega)) ?_; simp -dsimp)
  refine abr.split (fun h1 => ?_) (fun h1 => ?_)
  · have q2 : (a.data = b.data) := by first | exact h1 | omega | (simpa using h1) | (simp at h1 ⊢; omega) | simp_all
    rw [if_pos q2] at hF
    simp -dsimp [h1]
    repeat (refine chk.go (by first | omega | assumption | (simp_all; done) | (simp_all; omega)) ?_; simp -dsimp [h1])
    refine abr.split (fun h3 => ?_) (fun h3 => ?_)
    · have q4 : ¬ (b.index = 0) := by first | exact h3 | omega | (simpa using h3) | (simp at h3 ⊢; omega) | simp_all
      rw [if_neg q4] at hF
      cases hF
      simp -dsimp [h1, h3, q4]
      repeat (refine chk.go (by first | omega | assumption | (simp_all; done) | (simp_all; omega)) ?_; simp -dsimp [h1, h3, q4])
    · have q4 : (b.index = 0) := by first | exact h3 | omega | (simpa using h3) | (simp at h3 ⊢; omega) | simp_all
      rw [if_pos q4] at hF
      cases hF
      simp -dsimp [h1, h3, q4]
      repeat (refine chk.go (by first | omega | assumption | (simp_all; done) | (simp_all; omega)) ?_; simp -dsimp [h1, h3, q4])
  · have q2 : ¬ (a.data = b.data) := by first | exact h1 | omega | (simpa using h1) | (simp at h1 ⊢; omega) | simp_all
    rw [if_neg q2] at hF
    cases hF
    simp -dsimp [h1, q2]
    repeat (refine chk.go (by first | omega | assumption | (simp_all; done) | (simp_all; omega)) ?_; simp -dsimp [h1, q2])

set_option maxRecDepth 100000 in
set_option maxHeartbeats 400000 in
theorem C.spec_TypeFits (B : Nat) (hB1 : 67108864 ≤ B) (hB2 : B ≤ 9223372036854775807) (w : List Vl.Data) (a : Vl.Ty) (b : Vl.Ty) (r : Bool) (hF : F.spec_TypeFits w a b = some r) : PureCall Try.prog B 15 [.arr (List.map Vl.Data.c w), .agg [.lit (.int .i64 a.data), .lit (.int .i64 a.index)], .agg [.lit (.int .i64 b.data), .lit (.int .i64 b.index)]] (.lit (.bool r)) := by
  unfold F.spec_TypeFits at hF
  refine PureCall.enterLe Try.func15 (by kernel_rfl) rfl Try.ntmps15 (by simp) (by simp) ?_
  simp -dsimp
  repeat (refine chk.go (by first | omega | assumption | (simp_all; done) | (simp_all; omega)) ?_; simp -dsimp)
  have hF := ob hF; obtain ⟨v, e1, hF⟩ := hF
  refine ((C.spec_TypeValid B hB1 hB2 w a v e1)).goW (by simp) (by simp) ?_
  simp -dsimp
  repeat (refine chk.go (by first | omega | assumption | (simp_all; done) | (simp_all; omega)) ?_; simp -dsimp)
  refine abr.split (fun h2 => ?_) (fun h2 => ?_)
  · have q3 : (v = true) := by first | exact h2 | omega | (simpa using h2) | (simp at h2 ⊢; omega) | simp_all
    rw [if_pos q3] at hF
    simp -dsimp [h2]
    repeat (refine chk.go (by first | omega | assumption | (simp_all; done) | (simp_all; omega)) ?_; simp -dsimp [h2])
    have hF := ob hF; obtain ⟨v4, e5, hF⟩ := hF
    refine ((C.spec_TypeValid B hB1 hB2 w b v4 e5)).goW (by simp) (by simp) ?_
    simp -dsimp [h2]
    repeat (refine chk.go (by first | omega | assumption | (simp_all; done) | (simp_all; omega)) ?_; simp -dsimp [h2])
    refine abr.split (fun h6 => ?_) (fun h6 => ?_)
    · have q7 : (v4 = true) := by first | exact h6 | omega | (simpa using h6) | (simp at h6 ⊢; omega) | simp_all
      rw [if_pos q7] at hF
      simp -dsimp [h2, h6]
      repeat (refine chk.go (by first | omega | assumption | (simp_all; done) | (simp_all; omega)) ?_; simp -dsimp [h2, h6])
      have hF := ob hF; obtain ⟨v8, e9, hF⟩ := hF
      refine ((C.spec_l12Fits B hB1 hB2 a b v8 e9)).goW (by simp) (by simp) ?_
      cases hF
      simp -dsimp [h2, h6]
      repeat (refine chk.go (by first | omega | assumption | (simp_all; done) | (simp_all; omega)) ?_; simp -dsimp [h2, h6])
    · have q7 : ¬ (v4 = true) := by first | exact h6 | omega | (simpa using h6) | (simp at h6 ⊢; omega) | simp_all
      rw [if_neg q7] at hF
      cases hF
      simp -dsimp [h2, h6, q7]
      repeat (refine chk.go (by first | omega | assumption | (simp_all; done) | (simp_all; omega)) ?_; simp -dsimp [h2, h6, q7])
  · have q3 : ¬ (v = true) := by first | exact h2 | omega | (simpa using h2) | (simp at h2 ⊢; omega) | simp_all
    rw [if_neg q3] at hF
    cases hF
    simp -dsimp [h2, q3]
    repeat (refine chk.go (by first | omega | assumption | (simp_all; done) | (simp_all; omega)) ?_; simp -dsimp [h2, q3])

set_option maxRecDepth 100000 in
set_option maxHeartbeats 400000 in
theorem C.impl_within (B : Nat) (hB1 : 67108864 ≤ B) (hB2 : B ≤ 9223372036854775807) (n : Int) (low : Int) (high : Int) (r : Bool) (hF : F.impl_within n low high = some r) : PureCall Try.prog B 78 [.lit (.int .i64 n), .lit (.int .i64 low), .lit (.int .i64 high)] (.lit (.bool r)) := by
  unfold F.impl_within at hF
  refine PureCall.enterLe Try.func78 (by kernel_rfl) rfl Try.ntmps78 (by simp) (by simp) ?_
  simp -dsimp
  repeat (refine chk.go (by first | omega | assumption | (simp_all; done) | (simp_all; omega)) ?_; simp -dsimp)
  refine abr.split (fun h1 => ?_) (fun h1 => ?_)
  · have q2 : (low ≤ n) := by first | exact h1 | omega | (simpa using h1) | (simp at h1 ⊢; omega) | simp_all
    rw [if_pos q2] at hF
    cases hF
    simp -dsimp [h1]
    repeat (refine chk.go (by first | omega | assumption | (simp_all; done) | (simp_all; omega)) ?_; simp -dsimp [h1])
  · have q2 : ¬ (low ≤ n) := by first | exact h1 | omega | (simpa using h1) | (simp at h1 ⊢; omega) | simp_all
    rw [if_neg q2] at hF
    cases hF
    simp -dsimp [h1, q2]
    repeat (refine chk.go (by first | omega | assumption | (simp_all; done) | (simp_all; omega)) ?_; simp -dsimp [h1, q2])

set_option maxRecDepth 100000 in
set_option maxHeartbeats 400000 in
theorem CC.impl_NameValid_l1 (B : Nat) (hB1 : 67108864 ≤ B) (hB2 : B ≤ 9223372036854775807) (s : ByteArray) : (∀ (i : Nat) (o : Lo Bool Unit), F.impl_NameValid_l1 s i = some o → ∀ (c : Code), navO [1, 1, 0, 1, 0, 0] (bodyOf Try.f99) = some c → ∀ (Q : Exit → ASt → Prop), o.post (fun r => ∀ st, Post Try.prog Try.f99 (fun r' _ => r'.le (.lit (.bool r))) .ret st → Q .ret st) (fun s => Q (.exit 0) ⟨[], []⟩) → ALoopU Try.prog B 0 34 (hold c .mk) ⟨[(0, .lit (.string s)), (3, .lit (.int .i64 (i : Int)))], []⟩ (hold Q .mk)) := by
  refine F.impl_NameValid_l1.partial_correctness s
    (fun i o => ∀ (c : Code), navO [1, 1, 0, 1, 0, 0] (bodyOf Try.f99) = some c → ∀ (Q : Exit → ASt → Prop), o.post (fun r => ∀ st, Post Try.prog Try.f99 (fun r' _ => r'.le (.lit (.bool r))) .ret st → Q .ret st) (fun s => Q (.exit 0) ⟨[], []⟩) → ALoopU Try.prog B 0 34 (hold c .mk) ⟨[(0, .lit (.string s)), (3, .lit (.int .i64 (i : Int)))], []⟩ (hold Q .mk))
    ?_
  · intro _f_impl_NameValid_l1 ih_impl_NameValid_l1 i o hF
    intro c hc Q hq
    obtain rfl : c = _ := navEq hc rfl
    refine ALoopU.know fun hk hs => ?_
    clear hk hs
    refine ALoopU.enter ?_
    simp -dsimp
    repeat (refine chk.go (by first | omega | assumption | (simp_all; done) | (simp_all; omega)) ?_; simp -dsimp)
    refine abr.split (fun h11 => ?_) (fun h11 => ?_)
    · have q12 : (i < s.size) := by first | exact h11 | omega | (simpa using h11) | (simp at h11 ⊢; omega) | simp_all
      have z13 : ((i : Int) < (s.size : Int)) := by first | omega | simp_all
      rw [if_pos q12] at hF
      simp -dsimp [h11, z13]
      repeat (refine chk.go (by first | omega | assumption | (simp_all; done) | (simp_all; omega)) ?_; simp -dsimp [h11, z13])
      refine abr.split (fun h14 => ?_) (fun h14 => ?_)
      · have q15 : ¬ (byteAt s i < 97) := by first | exact h14 | omega | (simpa using h14) | (simp at h14 ⊢; omega) | simp_all
        have z16 : ¬ (((byteAt s i : Nat) : Int) < (97 : Int)) := by first | omega | simp_all
        rw [if_neg q15] at hF
        simp -dsimp [h11, z13, h14, q15, z16]
        repeat (refine chk.go (by first | omega | assumption | (simp_all; done) | (simp_all; omega)) ?_; simp -dsimp [h11, z13, h14, q15, z16])
        refine abr.split (fun h17 => ?_) (fun h17 => ?_)
        · have q18 : (122 < byteAt s i) := by first | exact h17 | omega | (simpa using h17) | (simp at h17 ⊢; omega) | simp_all
          have z19 : ((122 : Int) < ((byteAt s i : Nat) : Int)) := by first | omega | simp_all
          rw [if_pos q18] at hF
          cases hF
          simp -dsimp [h11, z13, h14, q15, z16, h17, z19]
          repeat (refine chk.go (by first | omega | assumption | (simp_all; done) | (simp_all; omega)) ?_; simp -dsimp [h11, z13, h14, q15, z16, h17, z19])
          refine Leave.go _ (Gh.refl _) (hq _ ?_)
          simp -dsimp [h11, z13, h14, q15, z16, h17, z19]
          repeat (refine chk.go (by first | omega | assumption | (simp_all; done) | (simp_all; omega)) ?_; simp -dsimp [h11, z13, h14, q15, z16, h17, z19])
        · have q18 : ¬ (122 < byteAt s i) := by first | exact h17 | omega | (simpa using h17) | (simp at h17 ⊢; omega) | simp_all
          have z19 : ¬ ((122 : Int) < ((byteAt s i : Nat) : Int)) := by first | omega | simp_all
          rw [if_neg q18] at hF
          have hF := oc hF; obtain ⟨c20, hF⟩ := hF
          have w21 : IntKind.i64.wrap ((i : Int) + 1) = (i : Int) + 1 := wrap_in (by omega) (by omega)
          simp -dsimp [h11, z13, h14, q15, z16, h17, q18, z19, w21]
          repeat (refine chk.go (by first | omega | assumption | (simp_all; done) | (simp_all; omega)) ?_; simp -dsimp [h11, z13, h14, q15, z16, h17, q18, z19, w21])
          refine Again.go ⟨[(0, .lit (.string s)), (3, .lit (.int .i64 ((i + 1) : Int)))], []⟩ (Gh.to (by simp) (by simp -dsimp) (by simp -dsimp) (by simp -dsimp)) ?_
          exact (ih_impl_NameValid_l1 (i + 1) o hF) _ rfl _ hq
      · have q15 : (byteAt s i < 97) := by first | exact h14 | omega | (simpa using h14) | (simp at h14 ⊢; omega) | simp_all
        have z16 : (((byteAt s i : Nat) : Int) < (97 : Int)) := by first | omega | simp_all
        rw [if_pos q15] at hF
        cases hF
        simp -dsimp [h11, z13, h14, q15, z16]
        repeat (refine chk.go (by first | omega | assumption | (simp_all; done) | (simp_all; omega)) ?_; simp -dsimp [h11, z13, h14, q15, z16])
        refine Leave.go _ (Gh.refl _) (hq _ ?_)
        simp -dsimp [h11, z13, h14, q15, z16]
        repeat (refine chk.go (by first | omega | assumption | (simp_all; done) | (simp_all; omega)) ?_; simp -dsimp [h11, z13, h14, q15, z16])
    · have q12 : ¬ (i < s.size) := by first | exact h11 | omega | (simpa using h11) | (simp at h11 ⊢; omega) | simp_all
      have z13 : ¬ ((i : Int) < (s.size : Int)) := by first | omega | simp_all
      rw [if_neg q12] at hF
      cases hF
      simp -dsimp [h11, q12, z13]
      repeat (refine chk.go (by first | omega | assumption | (simp_all; done) | (simp_all; omega)) ?_; simp -dsimp [h11, q12, z13])
      refine Leave.go ⟨[], []⟩ (Gh.to (by simp) (by simp -dsimp) (by simp -dsimp) (by simp -dsimp)) ?_
      exact hq

theorem C.impl_NameValid_l1 (B : Nat) (hB1 : 67108864 ≤ B) (hB2 : B ≤ 9223372036854775807) (s : ByteArray) (i : Nat) (o : Lo Bool Unit) (hF : F.impl_NameValid_l1 s i = some o) : ∀ (c : Code), navO [1, 1, 0, 1, 0, 0] (bodyOf Try.f99) = some c → ∀ (Q : Exit → ASt → Prop), o.post (fun r => ∀ st, Post Try.prog Try.f99 (fun r' _ => r'.le (.lit (.bool r))) .ret st → Q .ret st) (fun s => Q (.exit 0) ⟨[], []⟩) → ALoopU Try.prog B 0 34 (hold c .mk) ⟨[(0, .lit (.string s)), (3, .lit (.int .i64 (i : Int)))], []⟩ (hold Q .mk) :=
  (CC.impl_NameValid_l1 B hB1 hB2 s) i o hF

set_option maxRecDepth 100000 in
set_option maxHeartbeats 400000 in
theorem C.impl_NameValid (B : Nat) (hB1 : 67108864 ≤ B) (hB2 : B ≤ 9223372036854775807) (s : ByteArray) (r : Bool) (hF : F.impl_NameValid s = some r) : PureCall Try.prog B 99 [.lit (.string s)] (.lit (.bool r)) := by
  unfold F.impl_NameValid at hF
  refine PureCall.enterLe Try.func99 (by kernel_rfl) rfl Try.ntmps99 (by simp) (by simp) ?_
  simp -dsimp
  repeat (refine chk.go (by first | omega | assumption | (simp_all; done) | (simp_all; omega)) ?_; simp -dsimp)
  have hF := ob hF; obtain ⟨v, e1, hF⟩ := hF
  refine ((C.impl_within B hB1 hB2 (s.size : Int) (1 : Int) (5 : Int) v e1)).goW (by simp) (by simp) ?_
  simp -dsimp
  repeat (refine chk.go (by first | omega | assumption | (simp_all; done) | (simp_all; omega)) ?_; simp -dsimp)
  refine abr.split (fun h2 => ?_) (fun h2 => ?_)
  · have q3 : (v = true) := by first | exact h2 | omega | (simpa using h2) | (simp at h2 ⊢; omega) | simp_all
    rw [if_pos q3] at hF
    have hF := oc hF; obtain ⟨c4, hF⟩ := hF
    simp -dsimp [h2]
    repeat (refine chk.go (by first | omega | assumption | (simp_all; done) | (simp_all; omega)) ?_; simp -dsimp [h2])
    refine abr.split (fun h5 => ?_) (fun h5 => ?_)
    · have q6 : ¬ (byteAt s 0 < 65) := by first | exact h5 | omega | (simpa using h5) | (simp at h5 ⊢; omega) | simp_all
      have z7 : ¬ (((byteAt s 0 : Nat) : Int) < (65 : Int)) := by first | omega | simp_all
      rw [if_neg q6] at hF
      simp -dsimp [h2, h5, q6, z7]
      repeat (refine chk.go (by first | omega | assumption | (simp_all; done) | (simp_all; omega)) ?_; simp -dsimp [h2, h5, q6, z7])
      refine abr.split (fun h8 => ?_) (fun h8 => ?_)
      · have q9 : (90 < byteAt s 0) := by first | exact h8 | omega | (simpa using h8) | (simp at h8 ⊢; omega) | simp_all
        have z10 : ((90 : Int) < ((byteAt s 0 : Nat) : Int)) := by first | omega | simp_all
        rw [if_pos q9] at hF
        cases hF
        simp -dsimp [h2, h5, q6, z7, h8, z10]
        repeat (refine chk.go (by first | omega | assumption | (simp_all; done) | (simp_all; omega)) ?_; simp -dsimp [h2, h5, q6, z7, h8, z10])
      · have q9 : ¬ (90 < byteAt s 0) := by first | exact h8 | omega | (simpa using h8) | (simp at h8 ⊢; omega) | simp_all
        have z10 : ¬ ((90 : Int) < ((byteAt s 0 : Nat) : Int)) := by first | omega | simp_all
        rw [if_neg q9] at hF
        simp -dsimp [h2, h5, q6, z7, h8, q9, z10]
        repeat (refine chk.go (by first | omega | assumption | (simp_all; done) | (simp_all; omega)) ?_; simp -dsimp [h2, h5, q6, z7, h8, q9, z10])
        have hF := ob hF; obtain ⟨o, ho22, hF⟩ := hF
        refine ALoop.goU ⟨[(0, .lit (.string s)), (3, .lit (.int .i64 (1 : Int)))], []⟩ (Gh.to (by simp) (by simp -dsimp) (by simp -dsimp) (by simp -dsimp)) ?_
        refine (C.impl_NameValid_l1 B hB1 hB2 s 1 o ho22) _ rfl _ ?_
        rcases o with r0 | s23
        · dsimp only at hF
          cases hF
          intro st h
          simpa using h
        · dsimp only at hF
          cases hF
          simp -dsimp
          repeat (refine chk.go (by first | omega | assumption | (simp_all; done) | (simp_all; omega)) ?_; simp -dsimp)
    · have q6 : (byteAt s 0 < 65) := by first | exact h5 | omega | (simpa using h5) | (simp at h5 ⊢; omega) | simp_all
      have z7 : (((byteAt s 0 : Nat) : Int) < (65 : Int)) := by first | omega | simp_all
      rw [if_pos q6] at hF
      cases hF
      simp -dsimp [h2, h5, q6, z7]
      repeat (refine chk.go (by first | omega | assumption | (simp_all; done) | (simp_all; omega)) ?_; simp -dsimp [h2, h5, q6, z7])
  · have q3 : ¬ (v = true) := by first | exact h2 | omega | (simpa using h2) | (simp at h2 ⊢; omega) | simp_all
    rw [if_neg q3] at hF
    cases hF
    simp -dsimp [h2, q3]
    repeat (refine chk.go (by first | omega | assumption | (simp_all; done) | (simp_all; omega)) ?_; simp -dsimp [h2, q3])

set_option maxRecDepth 100000 in
set_option maxHeartbeats 400000 in
theorem C.impl_argOk (B : Nat) (hB1 : 67108864 ≤ B) (hB2 : B ≤ 9223372036854775807) (w : List Vl.Data) (t : Vl.Ty) (r : Bool) (hF : F.impl_argOk w t = some r) : PureCall Try.prog B 102 [.arr (List.map Vl.Data.c w), .agg [.lit (.int .i64 t.data), .lit (.int .i64 t.index)]] (.lit (.bool r)) := by
  unfold F.impl_argOk at hF
  refine PureCall.enterLe Try.func102 (by kernel_rfl) rfl Try.ntmps102 (by simp) (by simp) ?_
  simp -dsimp
  repeat (refine chk.go (by first | omega | assumption | (simp_all; done) | (simp_all; omega)) ?_; simp -dsimp)
  refine abr.split (fun h1 => ?_) (fun h1 => ?_)
  · have q2 : ¬ (dec (eq2 (t.data, t.index) ((-1), 0)) = true) := by first | exact h1 | omega | (simpa using h1) | (simp at h1 ⊢; omega) | simp_all
    rw [if_neg q2] at hF
    simp -dsimp [h1, q2]
    repeat (refine chk.go (by first | omega | assumption | (simp_all; done) | (simp_all; omega)) ?_; simp -dsimp [h1, q2])
    have hF := ob hF; obtain ⟨v, e3, hF⟩ := hF
    refine ((C.impl_within B hB1 hB2 t.data (0 : Int) (IntKind.i64.wrap ((w.length : Int) - 1)) v e3)).goW (by simp) (by simp) ?_
    simp -dsimp [h1, q2]
    repeat (refine chk.go (by first | omega | assumption | (simp_all; done) | (simp_all; omega)) ?_; simp -dsimp [h1, q2])
    refine abr.split (fun h4 => ?_) (fun h4 => ?_)
    · have q5 : (v = true) := by first | exact h4 | omega | (simpa using h4) | (simp at h4 ⊢; omega) | simp_all
      rw [if_pos q5] at hF
      simp -dsimp [h1, q2, h4]
      repeat (refine chk.go (by first | omega | assumption | (simp_all; done) | (simp_all; omega)) ?_; simp -dsimp [h1, q2, h4])
      have hF := ob hF; obtain ⟨v6, e7, hF⟩ := hF
      refine ((C.impl_within B hB1 hB2 t.index (-1 : Int) (3 : Int) v6 e7)).goW (by simp) (by simp) ?_
      cases hF
      simp -dsimp [h1, q2, h4]
      repeat (refine chk.go (by first | omega | assumption | (simp_all; done) | (simp_all; omega)) ?_; simp -dsimp [h1, q2, h4])
    · have q5 : ¬ (v = true) := by first | exact h4 | omega | (simpa using h4) | (simp at h4 ⊢; omega) | simp_all
      rw [if_neg q5] at hF
      cases hF
      simp -dsimp [h1, q2, h4, q5]
      repeat (refine chk.go (by first | omega | assumption | (simp_all; done) | (simp_all; omega)) ?_; simp -dsimp [h1, q2, h4, q5])
  · have q2 : (dec (eq2 (t.data, t.index) ((-1), 0)) = true) := by first | exact h1 | omega | (simpa using h1) | (simp at h1 ⊢; omega) | simp_all
    rw [if_pos q2] at hF
    cases hF
    simp -dsimp [h1, q2]
    repeat (refine chk.go (by first | omega | assumption | (simp_all; done) | (simp_all; omega)) ?_; simp -dsimp [h1, q2])

set_option maxRecDepth 100000 in
set_option maxHeartbeats 400000 in
theorem C.impl_ctorOk_1 (B : Nat) (hB1 : 67108864 ≤ B) (hB2 : B ≤ 9223372036854775807) (t : Vl.Ty) (a1 : List Vl.Data) (r : Bool) (hF : F.impl_ctorOk_1 t a1 = some r) : PureCall Try.prog B 101 [.agg [.lit (.int .i64 t.data), .lit (.int .i64 t.index)], .rptr [.arr (List.map Vl.Data.c a1)] 0] (.lit (.bool r)) := by
  unfold F.impl_ctorOk_1 at hF
  refine PureCall.enterLe Try.func101 (by kernel_rfl) rfl Try.ntmps101 (by simp) (by simp) ?_
  simp -dsimp
  repeat (refine chk.go (by first | omega | assumption | (simp_all; done) | (simp_all; omega)) ?_; simp -dsimp)
  have hF := ob hF; obtain ⟨v, e1, hF⟩ := hF
  refine ((C.impl_argOk B hB1 hB2 a1 t v e1)).goW (by simp) (by simp) ?_
  cases hF
  simp -dsimp
  repeat (refine chk.go (by first | omega | assumption | (simp_all; done) | (simp_all; omega)) ?_; simp -dsimp)

set_option maxRecDepth 100000 in
set_option maxHeartbeats 400000 in
theorem CC.slices_IndexFunc_Type__impl_ctorOk_1_l1 (B : Nat) (hB1 : 67108864 ≤ B) (hB2 : B ≤ 9223372036854775807) (s : List Vl.Ty) (k0 : List Vl.Data) : (∀ (i : Nat) (o : Lo Int Unit), F.slices_IndexFunc_Type__impl_ctorOk_1_l1 s k0 i = some o → ∀ (c : Code), navO [1, 0, 1, 0, 0] (bodyOf Try.f114) = some c → ∀ (Q : Exit → ASt → Prop), o.post (fun r => ∀ st, Post Try.prog Try.f114 (fun r' _ => r'.le (.lit (.int .i64 r))) .ret st → Q .ret st) (fun s => Q (.exit 0) ⟨[], []⟩) → ALoopU Try.prog B 0 19 (hold c .mk) ⟨[(0, .arr (List.map Vl.Ty.c s)), (1, .fn (.func 101) [] [.rptr [.arr (List.map Vl.Data.c k0)] 0]), (7, .lit (.int .i64 (s.length : Int))), (8, .lit (.int .i64 (i : Int)))], []⟩ (hold Q .mk)) := by
  refine F.slices_IndexFunc_Type__impl_ctorOk_1_l1.partial_correctness s k0
    (fun i o => ∀ (c : Code), navO [1, 0, 1, 0, 0] (bodyOf Try.f114) = some c → ∀ (Q : Exit → ASt → Prop), o.post (fun r => ∀ st, Post Try.prog Try.f114 (fun r' _ => r'.le (.lit (.int .i64 r))) .ret st → Q .ret st) (fun s => Q (.exit 0) ⟨[], []⟩) → ALoopU Try.prog B 0 19 (hold c .mk) ⟨[(0, .arr (List.map Vl.Ty.c s)), (1, .fn (.func 101) [] [.rptr [.arr (List.map Vl.Data.c k0)] 0]), (7, .lit (.int .i64 (s.length : Int))), (8, .lit (.int .i64 (i : Int)))], []⟩ (hold Q .mk))
    ?_
  · intro _f_slices_IndexFunc_Type__impl_ctorOk_1_l1 ih_slices_IndexFunc_Type__impl_ctorOk_1_l1 i o hF
    intro c hc Q hq
    obtain rfl : c = _ := navEq hc rfl
    refine ALoopU.know fun hk hs => ?_
    have b0 := hk 0
    simp -dsimp at b0
    clear hk hs
    refine ALoopU.enter ?_
    simp -dsimp
    repeat (refine chk.go (by first | omega | assumption | (simp_all; done) | (simp_all; omega)) ?_; simp -dsimp)
    refine abr.split (fun h1 => ?_) (fun h1 => ?_)
    · have q2 : (i < s.length) := by first | exact h1 | omega | (simpa using h1) | (simp at h1 ⊢; omega) | simp_all
      have z3 : ((i : Int) < (s.length : Int)) := by first | omega | simp_all
      rw [if_pos q2] at hF
      have hF := ob hF; obtain ⟨x, e4, hF⟩ := hF
      have le4 := lt_of_get e4
      simp -dsimp [h1, z3, ↓e4]
      repeat (refine chk.go (by first | omega | assumption | (simp_all; done) | (simp_all; omega)) ?_; simp -dsimp [h1, z3, ↓e4])
      have hF := ob hF; obtain ⟨v, e5, hF⟩ := hF
      refine ((C.impl_ctorOk_1 B hB1 hB2 x k0 v e5)).goW (by simp) (by simp) ?_
      simp -dsimp [h1, z3, ↓e4]
      repeat (refine chk.go (by first | omega | assumption | (simp_all; done) | (simp_all; omega)) ?_; simp -dsimp [h1, z3, ↓e4])
      refine abr.split (fun h6 => ?_) (fun h6 => ?_)
      · have q7 : (v = true) := by first | exact h6 | omega | (simpa using h6) | (simp at h6 ⊢; omega) | simp_all
        rw [if_pos q7] at hF
        cases hF
        simp -dsimp [h1, z3, ↓e4, h6]
        repeat (refine chk.go (by first | omega | assumption | (simp_all; done) | (simp_all; omega)) ?_; simp -dsimp [h1, z3, ↓e4, h6])
        refine Leave.go _ (Gh.refl _) (hq _ ?_)
        simp -dsimp [h1, z3, ↓e4, h6]
        repeat (refine chk.go (by first | omega | assumption | (simp_all; done) | (simp_all; omega)) ?_; simp -dsimp [h1, z3, ↓e4, h6])
      · have q7 : ¬ (v = true) := by first | exact h6 | omega | (simpa using h6) | (simp at h6 ⊢; omega) | simp_all
        rw [if_neg q7] at hF
        have w8 : IntKind.i64.wrap ((i : Int) + 1) = (i : Int) + 1 := wrap_in (by omega) (by omega)
        simp -dsimp [h1, z3, ↓e4, h6, q7, w8]
        repeat (refine chk.go (by first | omega | assumption | (simp_all; done) | (simp_all; omega)) ?_; simp -dsimp [h1, z3, ↓e4, h6, q7, w8])
        refine Again.go ⟨[(0, .arr (List.map Vl.Ty.c s)), (1, .fn (.func 101) [] [.rptr [.arr (List.map Vl.Data.c k0)] 0]), (7, .lit (.int .i64 (s.length : Int))), (8, .lit (.int .i64 ((i + 1) : Int)))], []⟩ (Gh.to (by simp) (by simp -dsimp) (by simp -dsimp) (by simp -dsimp)) ?_
        exact (ih_slices_IndexFunc_Type__impl_ctorOk_1_l1 (i + 1) o hF) _ rfl _ hq
    · have q2 : ¬ (i < s.length) := by first | exact h1 | omega | (simpa using h1) | (simp at h1 ⊢; omega) | simp_all
      have z3 : ¬ ((i : Int) < (s.length : Int)) := by first | omega | simp_all
      rw [if_neg q2] at hF
      cases hF
      simp -dsimp [h1, q2, z3]
      repeat (refine chk.go (by first | omega | assumption | (simp_all; done) | (simp_all; omega)) ?_; simp -dsimp [h1, q2, z3])
      refine Leave.go ⟨[], []⟩ (Gh.to (by simp) (by simp -dsimp) (by simp -dsimp) (by simp -dsimp)) ?_
      exact hq

theorem C.slices_IndexFunc_Type__impl_ctorOk_1_l1 (B : Nat) (hB1 : 67108864 ≤ B) (hB2 : B ≤ 9223372036854775807) (s : List Vl.Ty) (k0 : List Vl.Data) (i : Nat) (o : Lo Int Unit) (hF : F.slices_IndexFunc_Type__impl_ctorOk_1_l1 s k0 i = some o) : ∀ (c : Code), navO [1, 0, 1, 0, 0] (bodyOf Try.f114) = some c → ∀ (Q : Exit → ASt → Prop), o.post (fun r => ∀ st, Post Try.prog Try.f114 (fun r' _ => r'.le (.lit (.int .i64 r))) .ret st → Q .ret st) (fun s => Q (.exit 0) ⟨[], []⟩) → ALoopU Try.prog B 0 19 (hold c .mk) ⟨[(0, .arr (List.map Vl.Ty.c s)), (1, .fn (.func 101) [] [.rptr [.arr (List.map Vl.Data.c k0)] 0]), (7, .lit (.int .i64 (s.length : Int))), (8, .lit (.int .i64 (i : Int)))], []⟩ (hold Q .mk) :=
  (CC.slices_IndexFunc_Type__impl_ctorOk_1_l1 B hB1 hB2 s k0) i o hF

set_option maxRecDepth 100000 in
set_option maxHeartbeats 400000 in
theorem C.slices_IndexFunc_Type__impl_ctorOk_1 (B : Nat) (hB1 : 67108864 ≤ B) (hB2 : B ≤ 9223372036854775807) (s : List Vl.Ty) (k0 : List Vl.Data) (r : Int) (hF : F.slices_IndexFunc_Type__impl_ctorOk_1 s k0 = some r) : PureCall Try.prog B 114 [.arr (List.map Vl.Ty.c s), .fn (.func 101) [] [.rptr [.arr (List.map Vl.Data.c k0)] 0]] (.lit (.int .i64 r)) := by
  unfold F.slices_IndexFunc_Type__impl_ctorOk_1 at hF
  refine PureCall.enterLe Try.func114 (by kernel_rfl) rfl Try.ntmps114 (by simp) (by simp) ?_
  simp -dsimp
  repeat (refine chk.go (by first | omega | assumption | (simp_all; done) | (simp_all; omega)) ?_; simp -dsimp)
  have hF := ob hF; obtain ⟨o, ho9, hF⟩ := hF
  refine ALoop.goU ⟨[(0, .arr (List.map Vl.Ty.c s)), (1, .fn (.func 101) [] [.rptr [.arr (List.map Vl.Data.c k0)] 0]), (7, .lit (.int .i64 (s.length : Int))), (8, .lit (.int .i64 (0 : Int)))], []⟩ (Gh.to (by simp) (by simp -dsimp) (by simp -dsimp) (by simp -dsimp)) ?_
  refine (C.slices_IndexFunc_Type__impl_ctorOk_1_l1 B hB1 hB2 s k0 0 o ho9) _ rfl _ ?_
  rcases o with r0 | s10
  · dsimp only at hF
    cases hF
    intro st h
    simpa using h
  · dsimp only at hF
    cases hF
    simp -dsimp
    repeat (refine chk.go (by first | omega | assumption | (simp_all; done) | (simp_all; omega)) ?_; simp -dsimp)

set_option maxRecDepth 100000 in
set_option maxHeartbeats 400000 in
theorem C.slices_ContainsFunc_Type__impl_ctorOk_1 (B : Nat) (hB1 : 67108864 ≤ B) (hB2 : B ≤ 9223372036854775807) (s : List Vl.Ty) (k0 : List Vl.Data) (r : Bool) (hF : F.slices_ContainsFunc_Type__impl_ctorOk_1 s k0 = some r) : PureCall Try.prog B 100 [.arr (List.map Vl.Ty.c s), .fn (.func 101) [] [.rptr [.arr (List.map Vl.Data.c k0)] 0]] (.lit (.bool r)) := by
  unfold F.slices_ContainsFunc_Type__impl_ctorOk_1 at hF
  refine PureCall.enterLe Try.func100 (by kernel_rfl) rfl Try.ntmps100 (by simp) (by simp) ?_
  simp -dsimp
  repeat (refine chk.go (by first | omega | assumption | (simp_all; done) | (simp_all; omega)) ?_; simp -dsimp)
  have hF := ob hF; obtain ⟨v, e1, hF⟩ := hF
  refine ((C.slices_IndexFunc_Type__impl_ctorOk_1 B hB1 hB2 s k0 v e1)).goW (by simp) (by simp) ?_
  cases hF
  simp -dsimp
  repeat (refine chk.go (by first | omega | assumption | (simp_all; done) | (simp_all; omega)) ?_; simp -dsimp)

set_option maxRecDepth 100000 in
set_option maxHeartbeats 400000 in
theorem C.impl_ctorOk (B : Nat) (hB1 : 67108864 ≤ B) (hB2 : B ≤ 9223372036854775807) (w : List Vl.Data) (c' : Vl.Ctor) (r : Bool) (hF : F.impl_ctorOk w c' = some r) : PureCall Try.prog B 82 [.arr (List.map Vl.Data.c w), .agg [.lit (.string c'.name), .arr (List.map Vl.Ty.c c'.args), .lit (.int .i64 c'.index)]] (.lit (.bool r)) := by
  unfold F.impl_ctorOk at hF
  refine PureCall.enterLe Try.func82 (by kernel_rfl) rfl Try.ntmps82 (by simp) (by simp) ?_
  simp -dsimp
  repeat (refine chk.go (by first | omega | assumption | (simp_all; done) | (simp_all; omega)) ?_; simp -dsimp)
  have hF := ob hF; obtain ⟨v, e1, hF⟩ := hF
  refine ((C.impl_NameValid B hB1 hB2 c'.name v e1)).goW (by simp) (by simp) ?_
  simp -dsimp
  repeat (refine chk.go (by first | omega | assumption | (simp_all; done) | (simp_all; omega)) ?_; simp -dsimp)
  refine abr.split (fun h2 => ?_) (fun h2 => ?_)
  · have q3 : (v = true) := by first | exact h2 | omega | (simpa using h2) | (simp at h2 ⊢; omega) | simp_all
    rw [if_pos q3] at hF
    simp -dsimp [h2]
    repeat (refine chk.go (by first | omega | assumption | (simp_all; done) | (simp_all; omega)) ?_; simp -dsimp [h2])
    refine abr.split (fun h4 => ?_) (fun h4 => ?_)
    · have q5 : (c'.args.length ≤ 3) := by first | exact h4 | omega | (simpa using h4) | (simp at h4 ⊢; omega) | simp_all
      have z6 : ((c'.args.length : Int) ≤ (3 : Int)) := by first | omega | simp_all
      rw [if_pos q5] at hF
      simp -dsimp [h2, h4, z6]
      repeat (refine chk.go (by first | omega | assumption | (simp_all; done) | (simp_all; omega)) ?_; simp -dsimp [h2, h4, z6])
      have hF := ob hF; obtain ⟨v7, e8, hF⟩ := hF
      refine ((C.impl_within B hB1 hB2 c'.index (0 : Int) (3 : Int) v7 e8)).goW (by simp) (by simp) ?_
      simp -dsimp [h2, h4, z6]
      repeat (refine chk.go (by first | omega | assumption | (simp_all; done) | (simp_all; omega)) ?_; simp -dsimp [h2, h4, z6])
      refine abr.split (fun h9 => ?_) (fun h9 => ?_)
      · have q10 : (v7 = true) := by first | exact h9 | omega | (simpa using h9) | (simp at h9 ⊢; omega) | simp_all
        rw [if_pos q10] at hF
        simp -dsimp [h2, h4, z6, h9]
        repeat (refine chk.go (by first | omega | assumption | (simp_all; done) | (simp_all; omega)) ?_; simp -dsimp [h2, h4, z6, h9])
        have hF := ob hF; obtain ⟨v11, e12, hF⟩ := hF
        refine ((C.slices_ContainsFunc_Type__impl_ctorOk_1 B hB1 hB2 c'.args w v11 e12)).lend (by simp -dsimp) (by simp -dsimp) ?_
        cases hF
        simp -dsimp [h2, h4, z6, h9]
        repeat (refine chk.go (by first | omega | assumption | (simp_all; done) | (simp_all; omega)) ?_; simp -dsimp [h2, h4, z6, h9])
      · have q10 : ¬ (v7 = true) := by first | exact h9 | omega | (simpa using h9) | (simp at h9 ⊢; omega) | simp_all
        rw [if_neg q10] at hF
        cases hF
        simp -dsimp [h2, h4, z6, h9, q10]
        repeat (refine chk.go (by first | omega | assumption | (simp_all; done) | (simp_all; omega)) ?_; simp -dsimp [h2, h4, z6, h9, q10])
    · have q5 : ¬ (c'.args.length ≤ 3) := by first | exact h4 | omega | (simpa using h4) | (simp at h4 ⊢; omega) | simp_all
      have z6 : ¬ ((c'.args.length : Int) ≤ (3 : Int)) := by first | omega | simp_all
      rw [if_neg q5] at hF
      cases hF
      simp -dsimp [h2, h4, q5, z6]
      repeat (refine chk.go (by first | omega | assumption | (simp_all; done) | (simp_all; omega)) ?_; simp -dsimp [h2, h4, q5, z6])
  · have q3 : ¬ (v = true) := by first | exact h2 | omega | (simpa using h2) | (simp at h2 ⊢; omega) | simp_all
    rw [if_neg q3] at hF
    cases hF
    simp -dsimp [h2, q3]
    repeat (refine chk.go (by first | omega | assumption | (simp_all; done) | (simp_all; omega)) ?_; simp -dsimp [h2, q3])

set_option maxRecDepth 100000 in
set_option maxHeartbeats 400000 in
theorem CC.impl_WorldValid_l2 (B : Nat) (hB1 : 67108864 ≤ B) (hB2 : B ≤ 9223372036854775807) (w : List Vl.Data) (met4 : List ByteArray) (i : Nat) (x : Vl.Data) : (∀ (met26 : List ByteArray) (i27 : Nat) (o : Lo Bool (List ByteArray)), F.impl_WorldValid_l2 w met4 i x met26 i27 = some o → ∀ (b1 b2 : Nat), ¬ b1 = b2 → ∀ (c : Code), navO [1, 1, 1, 1, 0, 1, 0, 0, 1, 1, 0, 0, 1, 1, 1, 1, 0, 0] (bodyOf Try.f62) = some c → ∀ (Q : Exit → ASt → Ms → Prop), o.post (fun r => ∀ st, Post Try.prog Try.f62 (fun r' _ => r' = (.lit (.bool r))) .ret st → ∀ ms, Q .ret st ms) (fun s => Q (.exit 2) ⟨[(0, .arr (List.map Vl.Data.c w)), (3, .lit (.map (some b1))), (4, .lit (.map (some b2))), (14, .arr (List.map Vl.Data.c w)), (15, .lit (.int .i64 (w.length : Int))), (16, .lit (.int .i64 (i : Int)))], []⟩ [(b1, s), (b2, msIns met4 x.name)]) → MLoop Try.prog B 79 (hold c .mk) ⟨[(0, .arr (List.map Vl.Data.c w)), (3, .lit (.map (some b1))), (4, .lit (.map (some b2))), (14, .arr (List.map Vl.Data.c w)), (15, .lit (.int .i64 (w.length : Int))), (16, .lit (.int .i64 (i : Int))), (58, .arr (List.map Vl.Ctor.c x.ctors)), (59, .lit (.int .i64 (x.ctors.length : Int))), (60, .lit (.int .i64 (i27 : Int)))], []⟩ [(b1, met26), (b2, msIns met4 x.name)] (hold Q .mk)) := by
  refine F.impl_WorldValid_l2.partial_correctness w met4 i x
    (fun met26 i27 o => ∀ (b1 b2 : Nat), ¬ b1 = b2 → ∀ (c : Code), navO [1, 1, 1, 1, 0, 1, 0, 0, 1, 1, 0, 0, 1, 1, 1, 1, 0, 0] (bodyOf Try.f62) = some c → ∀ (Q : Exit → ASt → Ms → Prop), o.post (fun r => ∀ st, Post Try.prog Try.f62 (fun r' _ => r' = (.lit (.bool r))) .ret st → ∀ ms, Q .ret st ms) (fun s => Q (.exit 2) ⟨[(0, .arr (List.map Vl.Data.c w)), (3, .lit (.map (some b1))), (4, .lit (.map (some b2))), (14, .arr (List.map Vl.Data.c w)), (15, .lit (.int .i64 (w.length : Int))), (16, .lit (.int .i64 (i : Int)))], []⟩ [(b1, s), (b2, msIns met4 x.name)]) → MLoop Try.prog B 79 (hold c .mk) ⟨[(0, .arr (List.map Vl.Data.c w)), (3, .lit (.map (some b1))), (4, .lit (.map (some b2))), (14, .arr (List.map Vl.Data.c w)), (15, .lit (.int .i64 (w.length : Int))), (16, .lit (.int .i64 (i : Int))), (58, .arr (List.map Vl.Ctor.c x.ctors)), (59, .lit (.int .i64 (x.ctors.length : Int))), (60, .lit (.int .i64 (i27 : Int)))], []⟩ [(b1, met26), (b2, msIns met4 x.name)] (hold Q .mk))
    ?_
  · intro _f_impl_WorldValid_l2 ih_impl_WorldValid_l2 met26 i27 o hF
    intro b1 b2 hb2 c hc Q hq
    obtain rfl : c = _ := navEq hc rfl
    refine MLoop.know fun hk hs => ?_
    have b0 := hk 0
    simp -dsimp at b0
    have b14 := hk 14
    simp -dsimp at b14
    have b58 := hk 58
    simp -dsimp at b58
    clear hk hs
    refine MLoop.enter ?_
    simp -dsimp [hb2]
    repeat (refine chk.go (by first | omega | assumption | (simp_all; done) | (simp_all; omega)) ?_; simp -dsimp [hb2])
    refine abr.split (fun h28 => ?_) (fun h28 => ?_)
    · have q29 : (i27 < x.ctors.length) := by first | exact h28 | omega | (simpa using h28) | (simp at h28 ⊢; omega) | simp_all
      have z30 : ((i27 : Int) < (x.ctors.length : Int)) := by first | omega | simp_all
      rw [if_pos q29] at hF
      have hF := ob hF; obtain ⟨x31, e32, hF⟩ := hF
      have le32 := lt_of_get e32
      simp -dsimp [hb2, h28, z30, ↓e32]
      repeat (refine chk.go (by first | omega | assumption | (simp_all; done) | (simp_all; omega)) ?_; simp -dsimp [hb2, h28, z30, ↓e32])
      have hF := ob hF; obtain ⟨v33, e34, hF⟩ := hF
      refine ((C.impl_ctorOk B hB1 hB2 w x31 v33 e34)).goW (by simp) (by simp) ?_
      simp -dsimp [hb2, h28, z30, ↓e32]
      repeat (refine chk.go (by first | omega | assumption | (simp_all; done) | (simp_all; omega)) ?_; simp -dsimp [hb2, h28, z30, ↓e32])
      refine abr.split (fun h35 => ?_) (fun h35 => ?_)
      · have q36 : (v33 = true) := by first | exact h35 | omega | (simpa using h35) | (simp at h35 ⊢; omega) | simp_all
        rw [if_pos q36] at hF
        simp -dsimp [hb2, h28, z30, ↓e32, h35]
        repeat (refine chk.go (by first | omega | assumption | (simp_all; done) | (simp_all; omega)) ?_; simp -dsimp [hb2, h28, z30, ↓e32, h35])
        refine abr.split (fun h37 => ?_) (fun h37 => ?_)
        · have q38 : (dec (x31.name ∈ met26) = true) := by first | exact h37 | omega | (simpa using h37) | (simp at h37 ⊢; omega) | simp_all
          rw [if_pos q38] at hF
          cases hF
          simp -dsimp [hb2, h28, z30, ↓e32, h35, h37]
          repeat (refine chk.go (by first | omega | assumption | (simp_all; done) | (simp_all; omega)) ?_; simp -dsimp [hb2, h28, z30, ↓e32, h35, h37])
          refine LeaveM.go _ (Gh.refl _) (hq _ ?_ _)
          simp -dsimp [hb2, h28, z30, ↓e32, h35, h37]
          repeat (refine chk.go (by first | omega | assumption | (simp_all; done) | (simp_all; omega)) ?_; simp -dsimp [hb2, h28, z30, ↓e32, h35, h37])
        · have q38 : ¬ (dec (x31.name ∈ met26) = true) := by first | exact h37 | omega | (simpa using h37) | (simp at h37 ⊢; omega) | simp_all
          rw [if_neg q38] at hF
          have w39 : IntKind.i64.wrap ((i27 : Int) + 1) = (i27 : Int) + 1 := wrap_in (by omega) (by omega)
          simp -dsimp [hb2, h28, z30, ↓e32, h35, h37, q38, w39]
          repeat (refine chk.go (by first | omega | assumption | (simp_all; done) | (simp_all; omega)) ?_; simp -dsimp [hb2, h28, z30, ↓e32, h35, h37, q38, w39])
          refine AgainM.go ⟨[(0, .arr (List.map Vl.Data.c w)), (3, .lit (.map (some b1))), (4, .lit (.map (some b2))), (14, .arr (List.map Vl.Data.c w)), (15, .lit (.int .i64 (w.length : Int))), (16, .lit (.int .i64 (i : Int))), (58, .arr (List.map Vl.Ctor.c x.ctors)), (59, .lit (.int .i64 (x.ctors.length : Int))), (60, .lit (.int .i64 ((i27 + 1) : Int)))], []⟩ (Gh.to (by simp) (by simp -dsimp) (by simp -dsimp) (by simp -dsimp)) ?_
          exact (ih_impl_WorldValid_l2 (msIns met26 x31.name) (i27 + 1) o hF) b1 b2 hb2 _ rfl _ hq
      · have q36 : ¬ (v33 = true) := by first | exact h35 | omega | (simpa using h35) | (simp at h35 ⊢; omega) | simp_all
        rw [if_neg q36] at hF
        cases hF
        simp -dsimp [hb2, h28, z30, ↓e32, h35, q36]
        repeat (refine chk.go (by first | omega | assumption | (simp_all; done) | (simp_all; omega)) ?_; simp -dsimp [hb2, h28, z30, ↓e32, h35, q36])
        refine LeaveM.go _ (Gh.refl _) (hq _ ?_ _)
        simp -dsimp [hb2, h28, z30, ↓e32, h35, q36]
        repeat (refine chk.go (by first | omega | assumption | (simp_all; done) | (simp_all; omega)) ?_; simp -dsimp [hb2, h28, z30, ↓e32, h35, q36])
    · have q29 : ¬ (i27 < x.ctors.length) := by first | exact h28 | omega | (simpa using h28) | (simp at h28 ⊢; omega) | simp_all
      have z30 : ¬ ((i27 : Int) < (x.ctors.length : Int)) := by first | omega | simp_all
      rw [if_neg q29] at hF
      cases hF
      simp -dsimp [hb2, h28, q29, z30]
      repeat (refine chk.go (by first | omega | assumption | (simp_all; done) | (simp_all; omega)) ?_; simp -dsimp [hb2, h28, q29, z30])
      refine LeaveM.go ⟨[(0, .arr (List.map Vl.Data.c w)), (3, .lit (.map (some b1))), (4, .lit (.map (some b2))), (14, .arr (List.map Vl.Data.c w)), (15, .lit (.int .i64 (w.length : Int))), (16, .lit (.int .i64 (i : Int)))], []⟩ (Gh.to (by simp) (by simp -dsimp) (by simp -dsimp) (by simp -dsimp)) ?_
      exact hq

theorem C.impl_WorldValid_l2 (B : Nat) (hB1 : 67108864 ≤ B) (hB2 : B ≤ 9223372036854775807) (w : List Vl.Data) (met4 : List ByteArray) (i : Nat) (x : Vl.Data) (met26 : List ByteArray) (i27 : Nat) (o : Lo Bool (List ByteArray)) (hF : F.impl_WorldValid_l2 w met4 i x met26 i27 = some o) : ∀ (b1 b2 : Nat), ¬ b1 = b2 → ∀ (c : Code), navO [1, 1, 1, 1, 0, 1, 0, 0, 1, 1, 0, 0, 1, 1, 1, 1, 0, 0] (bodyOf Try.f62) = some c → ∀ (Q : Exit → ASt → Ms → Prop), o.post (fun r => ∀ st, Post Try.prog Try.f62 (fun r' _ => r' = (.lit (.bool r))) .ret st → ∀ ms, Q .ret st ms) (fun s => Q (.exit 2) ⟨[(0, .arr (List.map Vl.Data.c w)), (3, .lit (.map (some b1))), (4, .lit (.map (some b2))), (14, .arr (List.map Vl.Data.c w)), (15, .lit (.int .i64 (w.length : Int))), (16, .lit (.int .i64 (i : Int)))], []⟩ [(b1, s), (b2, msIns met4 x.name)]) → MLoop Try.prog B 79 (hold c .mk) ⟨[(0, .arr (List.map Vl.Data.c w)), (3, .lit (.map (some b1))), (4, .lit (.map (some b2))), (14, .arr (List.map Vl.Data.c w)), (15, .lit (.int .i64 (w.length : Int))), (16, .lit (.int .i64 (i : Int))), (58, .arr (List.map Vl.Ctor.c x.ctors)), (59, .lit (.int .i64 (x.ctors.length : Int))), (60, .lit (.int .i64 (i27 : Int)))], []⟩ [(b1, met26), (b2, msIns met4 x.name)] (hold Q .mk) :=
  (CC.impl_WorldValid_l2 B hB1 hB2 w met4 i x) met26 i27 o hF

set_option maxRecDepth 100000 in
set_option maxHeartbeats 400000 in
theorem CC.impl_WorldValid_l1 (B : Nat) (hB1 : 67108864 ≤ B) (hB2 : B ≤ 9223372036854775807) (w : List Vl.Data) : (∀ (met : List ByteArray) (met4 : List ByteArray) (i : Nat) (o : Lo Bool ((List ByteArray) × (List ByteArray))), F.impl_WorldValid_l1 w met met4 i = some o → ∀ (b1 b2 : Nat), ¬ b1 = b2 → ∀ (c : Code), navO [1, 1, 1, 1, 0, 1, 0, 0] (bodyOf Try.f62) = some c → ∀ (Q : Exit → ASt → Ms → Prop), o.post (fun r => ∀ st, Post Try.prog Try.f62 (fun r' _ => r' = (.lit (.bool r))) .ret st → ∀ ms, Q .ret st ms) (fun s => Q (.exit 0) ⟨[], []⟩ [(b1, s.1), (b2, s.2)]) → MLoop Try.prog B 79 (hold c .mk) ⟨[(0, .arr (List.map Vl.Data.c w)), (3, .lit (.map (some b1))), (4, .lit (.map (some b2))), (14, .arr (List.map Vl.Data.c w)), (15, .lit (.int .i64 (w.length : Int))), (16, .lit (.int .i64 (i : Int)))], []⟩ [(b1, met), (b2, met4)] (hold Q .mk)) := by
  refine F.impl_WorldValid_l1.partial_correctness w
    (fun met met4 i o => ∀ (b1 b2 : Nat), ¬ b1 = b2 → ∀ (c : Code), navO [1, 1, 1, 1, 0, 1, 0, 0] (bodyOf Try.f62) = some c → ∀ (Q : Exit → ASt → Ms → Prop), o.post (fun r => ∀ st, Post Try.prog Try.f62 (fun r' _ => r' = (.lit (.bool r))) .ret st → ∀ ms, Q .ret st ms) (fun s => Q (.exit 0) ⟨[], []⟩ [(b1, s.1), (b2, s.2)]) → MLoop Try.prog B 79 (hold c .mk) ⟨[(0, .arr (List.map Vl.Data.c w)), (3, .lit (.map (some b1))), (4, .lit (.map (some b2))), (14, .arr (List.map Vl.Data.c w)), (15, .lit (.int .i64 (w.length : Int))), (16, .lit (.int .i64 (i : Int)))], []⟩ [(b1, met), (b2, met4)] (hold Q .mk))
    ?_
  · intro _f_impl_WorldValid_l1 ih_impl_WorldValid_l1 met met4 i o hF
    intro b1 b2 hb2 c hc Q hq
    obtain rfl : c = _ := navEq hc rfl
    refine MLoop.know fun hk hs => ?_
    have b0 := hk 0
    simp -dsimp at b0
    have b14 := hk 14
    simp -dsimp at b14
    clear hk hs
    refine MLoop.enter ?_
    simp -dsimp [hb2]
    repeat (refine chk.go (by first | omega | assumption | (simp_all; done) | (simp_all; omega)) ?_; simp -dsimp [hb2])
    refine abr.split (fun h5 => ?_) (fun h5 => ?_)
    · have q6 : (i < w.length) := by first | exact h5 | omega | (simpa using h5) | (simp at h5 ⊢; omega) | simp_all
      have z7 : ((i : Int) < (w.length : Int)) := by first | omega | simp_all
      rw [if_pos q6] at hF
      have hF := ob hF; obtain ⟨x, e8, hF⟩ := hF
      have le8 := lt_of_get e8
      simp -dsimp [hb2, h5, z7, ↓e8]
      repeat (refine chk.go (by first | omega | assumption | (simp_all; done) | (simp_all; omega)) ?_; simp -dsimp [hb2, h5, z7, ↓e8])
      refine abr.split (fun h9 => ?_) (fun h9 => ?_)
      · have q10 : (x.name.size = 1) := by first | exact h9 | omega | (simpa using h9) | (simp at h9 ⊢; omega) | simp_all
        have z11 : ((x.name.size : Int) = (1 : Int)) := by first | omega | simp_all
        rw [if_pos q10] at hF
        have hF := oc hF; obtain ⟨c12, hF⟩ := hF
        simp -dsimp [hb2, h5, z7, ↓e8, h9, z11]
        repeat (refine chk.go (by first | omega | assumption | (simp_all; done) | (simp_all; omega)) ?_; simp -dsimp [hb2, h5, z7, ↓e8, h9, z11])
        refine abr.split (fun h13 => ?_) (fun h13 => ?_)
        · have q14 : ¬ (byteAt x.name 0 < 65) := by first | exact h13 | omega | (simpa using h13) | (simp at h13 ⊢; omega) | simp_all
          have z15 : ¬ (((byteAt x.name 0 : Nat) : Int) < (65 : Int)) := by first | omega | simp_all
          rw [if_neg q14] at hF
          simp -dsimp [hb2, h5, z7, ↓e8, h9, z11, h13, q14, z15]
          repeat (refine chk.go (by first | omega | assumption | (simp_all; done) | (simp_all; omega)) ?_; simp -dsimp [hb2, h5, z7, ↓e8, h9, z11, h13, q14, z15])
          refine abr.split (fun h16 => ?_) (fun h16 => ?_)
          · have q17 : ¬ (90 < byteAt x.name 0) := by first | exact h16 | omega | (simpa using h16) | (simp at h16 ⊢; omega) | simp_all
            have z18 : ¬ ((90 : Int) < ((byteAt x.name 0 : Nat) : Int)) := by first | omega | simp_all
            rw [if_neg q17] at hF
            simp -dsimp [hb2, h5, z7, ↓e8, h9, z11, h13, q14, z15, h16, q17, z18]
            repeat (refine chk.go (by first | omega | assumption | (simp_all; done) | (simp_all; omega)) ?_; simp -dsimp [hb2, h5, z7, ↓e8, h9, z11, h13, q14, z15, h16, q17, z18])
            refine abr.split (fun h19 => ?_) (fun h19 => ?_)
            · have q20 : ¬ (x.name.toList = (⟨#[73]⟩ : ByteArray).toList) := by first | exact h19 | omega | (simpa using h19) | (simp at h19 ⊢; omega) | simp_all
              rw [if_neg q20] at hF
              simp -dsimp [hb2, h5, z7, ↓e8, h9, z11, h13, q14, z15, h16, q17, z18, h19, q20]
              repeat (refine chk.go (by first | omega | assumption | (simp_all; done) | (simp_all; omega)) ?_; simp -dsimp [hb2, h5, z7, ↓e8, h9, z11, h13, q14, z15, h16, q17, z18, h19, q20])
              refine abr.split (fun h21 => ?_) (fun h21 => ?_)
              · have q22 : ¬ (dec (x.name ∈ met4) = true) := by first | exact h21 | omega | (simpa using h21) | (simp at h21 ⊢; omega) | simp_all
                rw [if_neg q22] at hF
                simp -dsimp [hb2, h5, z7, ↓e8, h9, z11, h13, q14, z15, h16, q17, z18, h19, q20, h21, q22]
                repeat (refine chk.go (by first | omega | assumption | (simp_all; done) | (simp_all; omega)) ?_; simp -dsimp [hb2, h5, z7, ↓e8, h9, z11, h13, q14, z15, h16, q17, z18, h19, q20, h21, q22])
                have hF := ob hF; obtain ⟨v, e23, hF⟩ := hF
                refine ((C.impl_within B hB1 hB2 (x.ctors.length : Int) (1 : Int) (4 : Int) v e23)).goW (by simp) (by simp) ?_
                simp -dsimp [hb2, h5, z7, ↓e8, h9, z11, h13, q14, z15, h16, q17, z18, h19, q20, h21, q22]
                repeat (refine chk.go (by first | omega | assumption | (simp_all; done) | (simp_all; omega)) ?_; simp -dsimp [hb2, h5, z7, ↓e8, h9, z11, h13, q14, z15, h16, q17, z18, h19, q20, h21, q22])
                refine abr.split (fun h24 => ?_) (fun h24 => ?_)
                · have q25 : ¬ (v = true) := by first | exact h24 | omega | (simpa using h24) | (simp at h24 ⊢; omega) | simp_all
                  rw [if_neg q25] at hF
                  cases hF
                  simp -dsimp [hb2, h5, z7, ↓e8, h9, z11, h13, q14, z15, h16, q17, z18, h19, q20, h21, q22, h24, q25]
                  repeat (refine chk.go (by first | omega | assumption | (simp_all; done) | (simp_all; omega)) ?_; simp -dsimp [hb2, h5, z7, ↓e8, h9, z11, h13, q14, z15, h16, q17, z18, h19, q20, h21, q22, h24, q25])
                  refine LeaveM.go _ (Gh.refl _) (hq _ ?_ _)
                  simp -dsimp [hb2, h5, z7, ↓e8, h9, z11, h13, q14, z15, h16, q17, z18, h19, q20, h21, q22, h24, q25]
                  repeat (refine chk.go (by first | omega | assumption | (simp_all; done) | (simp_all; omega)) ?_; simp -dsimp [hb2, h5, z7, ↓e8, h9, z11, h13, q14, z15, h16, q17, z18, h19, q20, h21, q22, h24, q25])
                · have q25 : (v = true) := by first | exact h24 | omega | (simpa using h24) | (simp at h24 ⊢; omega) | simp_all
                  rw [if_pos q25] at hF
                  simp -dsimp [hb2, h5, z7, ↓e8, h9, z11, h13, q14, z15, h16, q17, z18, h19, q20, h21, q22, h24, q25]
                  repeat (refine chk.go (by first | omega | assumption | (simp_all; done) | (simp_all; omega)) ?_; simp -dsimp [hb2, h5, z7, ↓e8, h9, z11, h13, q14, z15, h16, q17, z18, h19, q20, h21, q22, h24, q25])
                  have hF := ob hF; obtain ⟨o, ho40, hF⟩ := hF
                  refine MLoop.goU ⟨[(0, .arr (List.map Vl.Data.c w)), (3, .lit (.map (some b1))), (4, .lit (.map (some b2))), (14, .arr (List.map Vl.Data.c w)), (15, .lit (.int .i64 (w.length : Int))), (16, .lit (.int .i64 (i : Int))), (58, .arr (List.map Vl.Ctor.c x.ctors)), (59, .lit (.int .i64 (x.ctors.length : Int))), (60, .lit (.int .i64 (0 : Int)))], []⟩ (Gh.to (by simp) (by simp -dsimp) (by simp -dsimp) (by simp -dsimp)) ?_
                  refine (C.impl_WorldValid_l2 B hB1 hB2 w met4 i x met 0 o ho40) b1 b2 hb2 _ rfl _ ?_
                  rcases o with r0 | s
                  · dsimp only at hF
                    cases hF
                    intro st h ms
                    simp -dsimp
                    refine LeaveM.go st (Gh.refl _) (hq st h ms)
                  · dsimp only at hF
                    have hF := oc hF; obtain ⟨c41, hF⟩ := hF
                    have w42 : IntKind.i64.wrap ((i : Int) + 1) = (i : Int) + 1 := wrap_in (by omega) (by omega)
                    simp -dsimp [w42]
                    repeat (refine chk.go (by first | omega | assumption | (simp_all; done) | (simp_all; omega)) ?_; simp -dsimp [w42])
                    refine AgainM.go ⟨[(0, .arr (List.map Vl.Data.c w)), (3, .lit (.map (some b1))), (4, .lit (.map (some b2))), (14, .arr (List.map Vl.Data.c w)), (15, .lit (.int .i64 (w.length : Int))), (16, .lit (.int .i64 ((i + 1) : Int)))], []⟩ (Gh.to (by simp) (by simp -dsimp) (by simp -dsimp) (by simp -dsimp)) ?_
                    exact (ih_impl_WorldValid_l1 s (msIns met4 x.name) (i + 1) o hF) b1 b2 hb2 _ rfl _ hq
              · have q22 : (dec (x.name ∈ met4) = true) := by first | exact h21 | omega | (simpa using h21) | (simp at h21 ⊢; omega) | simp_all
                rw [if_pos q22] at hF
                cases hF
                simp -dsimp [hb2, h5, z7, ↓e8, h9, z11, h13, q14, z15, h16, q17, z18, h19, q20, h21, q22]
                repeat (refine chk.go (by first | omega | assumption | (simp_all; done) | (simp_all; omega)) ?_; simp -dsimp [hb2, h5, z7, ↓e8, h9, z11, h13, q14, z15, h16, q17, z18, h19, q20, h21, q22])
                refine LeaveM.go _ (Gh.refl _) (hq _ ?_ _)
                simp -dsimp [hb2, h5, z7, ↓e8, h9, z11, h13, q14, z15, h16, q17, z18, h19, q20, h21, q22]
                repeat (refine chk.go (by first | omega | assumption | (simp_all; done) | (simp_all; omega)) ?_; simp -dsimp [hb2, h5, z7, ↓e8, h9, z11, h13, q14, z15, h16, q17, z18, h19, q20, h21, q22])
            · have q20 : (x.name.toList = (⟨#[73]⟩ : ByteArray).toList) := by first | exact h19 | omega | (simpa using h19) | (simp at h19 ⊢; omega) | simp_all
              rw [if_pos q20] at hF
              cases hF
              simp -dsimp [hb2, h5, z7, ↓e8, h9, z11, h13, q14, z15, h16, q17, z18, h19, q20]
              repeat (refine chk.go (by first | omega | assumption | (simp_all; done) | (simp_all; omega)) ?_; simp -dsimp [hb2, h5, z7, ↓e8, h9, z11, h13, q14, z15, h16, q17, z18, h19, q20])
              refine LeaveM.go _ (Gh.refl _) (hq _ ?_ _)
              simp -dsimp [hb2, h5, z7, ↓e8, h9, z11, h13, q14, z15, h16, q17, z18, h19, q20]
              repeat (refine chk.go (by first | omega | assumption | (simp_all; done) | (simp_all; omega)) ?_; simp -dsimp [hb2, h5, z7, ↓e8, h9, z11, h13, q14, z15, h16, q17, z18, h19, q20])
          · have q17 : (90 < byteAt x.name 0) := by first | exact h16 | omega | (simpa using h16) | (simp at h16 ⊢; omega) | simp_all
            have z18 : ((90 : Int) < ((byteAt x.name 0 : Nat) : Int)) := by first | omega | simp_all
            rw [if_pos q17] at hF
            cases hF
            simp -dsimp [hb2, h5, z7, ↓e8, h9, z11, h13, q14, z15, h16, q17, z18]
            repeat (refine chk.go (by first | omega | assumption | (simp_all; done) | (simp_all; omega)) ?_; simp -dsimp [hb2, h5, z7, ↓e8, h9, z11, h13, q14, z15, h16, q17, z18])
            refine LeaveM.go _ (Gh.refl _) (hq _ ?_ _)
            simp -dsimp [hb2, h5, z7, ↓e8, h9, z11, h13, q14, z15, h16, q17, z18]
            repeat (refine chk.go (by first | omega | assumption | (simp_all; done) | (simp_all; omega)) ?_; simp -dsimp [hb2, h5, z7, ↓e8, h9, z11, h13, q14, z15, h16, q17, z18])
        · have q14 : (byteAt x.name 0 < 65) := by first | exact h13 | omega | (simpa using h13) | (simp at h13 ⊢; omega) | simp_all
          have z15 : (((byteAt x.name 0 : Nat) : Int) < (65 : Int)) := by first | omega | simp_all
          rw [if_pos q14] at hF
          cases hF
          simp -dsimp [hb2, h5, z7, ↓e8, h9, z11, h13, q14, z15]
          repeat (refine chk.go (by first | omega | assumption | (simp_all; done) | (simp_all; omega)) ?_; simp -dsimp [hb2, h5, z7, ↓e8, h9, z11, h13, q14, z15])
          refine LeaveM.go _ (Gh.refl _) (hq _ ?_ _)
          simp -dsimp [hb2, h5, z7, ↓e8, h9, z11, h13, q14, z15]
          repeat (refine chk.go (by first | omega | assumption | (simp_all; done) | (simp_all; omega)) ?_; simp -dsimp [hb2, h5, z7, ↓e8, h9, z11, h13, q14, z15])
      · have q10 : ¬ (x.name.size = 1) := by first | exact h9 | omega | (simpa using h9) | (simp at h9 ⊢; omega) | simp_all
        have z11 : ¬ ((x.name.size : Int) = (1 : Int)) := by first | omega | simp_all
        rw [if_neg q10] at hF
        cases hF
        simp -dsimp [hb2, h5, z7, ↓e8, h9, q10, z11]
        repeat (refine chk.go (by first | omega | assumption | (simp_all; done) | (simp_all; omega)) ?_; simp -dsimp [hb2, h5, z7, ↓e8, h9, q10, z11])
        refine LeaveM.go _ (Gh.refl _) (hq _ ?_ _)
        simp -dsimp [hb2, h5, z7, ↓e8, h9, q10, z11]
        repeat (refine chk.go (by first | omega | assumption | (simp_all; done) | (simp_all; omega)) ?_; simp -dsimp [hb2, h5, z7, ↓e8, h9, q10, z11])
    · have q6 : ¬ (i < w.length) := by first | exact h5 | omega | (simpa using h5) | (simp at h5 ⊢; omega) | simp_all
      have z7 : ¬ ((i : Int) < (w.length : Int)) := by first | omega | simp_all
      rw [if_neg q6] at hF
      cases hF
      simp -dsimp [hb2, h5, q6, z7]
      repeat (refine chk.go (by first | omega | assumption | (simp_all; done) | (simp_all; omega)) ?_; simp -dsimp [hb2, h5, q6, z7])
      refine LeaveM.go ⟨[], []⟩ (Gh.to (by simp) (by simp -dsimp) (by simp -dsimp) (by simp -dsimp)) ?_
      exact hq

theorem C.impl_WorldValid_l1 (B : Nat) (hB1 : 67108864 ≤ B) (hB2 : B ≤ 9223372036854775807) (w : List Vl.Data) (met : List ByteArray) (met4 : List ByteArray) (i : Nat) (o : Lo Bool ((List ByteArray) × (List ByteArray))) (hF : F.impl_WorldValid_l1 w met met4 i = some o) : ∀ (b1 b2 : Nat), ¬ b1 = b2 → ∀ (c : Code), navO [1, 1, 1, 1, 0, 1, 0, 0] (bodyOf Try.f62) = some c → ∀ (Q : Exit → ASt → Ms → Prop), o.post (fun r => ∀ st, Post Try.prog Try.f62 (fun r' _ => r' = (.lit (.bool r))) .ret st → ∀ ms, Q .ret st ms) (fun s => Q (.exit 0) ⟨[], []⟩ [(b1, s.1), (b2, s.2)]) → MLoop Try.prog B 79 (hold c .mk) ⟨[(0, .arr (List.map Vl.Data.c w)), (3, .lit (.map (some b1))), (4, .lit (.map (some b2))), (14, .arr (List.map Vl.Data.c w)), (15, .lit (.int .i64 (w.length : Int))), (16, .lit (.int .i64 (i : Int)))], []⟩ [(b1, met), (b2, met4)] (hold Q .mk) :=
  (CC.impl_WorldValid_l1 B hB1 hB2 w) met met4 i o hF

set_option maxRecDepth 100000 in
set_option maxHeartbeats 400000 in
theorem C.impl_WorldValid (B : Nat) (hB1 : 67108864 ≤ B) (hB2 : B ≤ 9223372036854775807) (w : List Vl.Data) (r : Bool) (hF : F.impl_WorldValid w = some r) : PureCall Try.prog B 62 [.arr (List.map Vl.Data.c w)] (.lit (.bool r)) := by
  unfold F.impl_WorldValid at hF
  refine PureCall.enterM Try.func62 (by kernel_rfl) rfl Try.ntmps62 (by simp) ?_
  simp -dsimp
  repeat (refine chk.go (by first | omega | assumption | (simp_all; done) | (simp_all; omega)) ?_; simp -dsimp)
  refine abr.split (fun h1 => ?_) (fun h1 => ?_)
  · have q2 : (4 < w.length) := by first | exact h1 | omega | (simpa using h1) | (simp at h1 ⊢; omega) | simp_all
    have z3 : ((4 : Int) < (w.length : Int)) := by first | omega | simp_all
    rw [if_pos q2] at hF
    cases hF
    simp -dsimp [h1, z3]
    repeat (refine chk.go (by first | omega | assumption | (simp_all; done) | (simp_all; omega)) ?_; simp -dsimp [h1, z3])
  · have q2 : ¬ (4 < w.length) := by first | exact h1 | omega | (simpa using h1) | (simp at h1 ⊢; omega) | simp_all
    have z3 : ¬ ((4 : Int) < (w.length : Int)) := by first | omega | simp_all
    rw [if_neg q2] at hF
    simp -dsimp [h1, q2, z3]
    repeat (refine chk.go (by first | omega | assumption | (simp_all; done) | (simp_all; omega)) ?_; simp -dsimp [h1, q2, z3])
    refine AMake.go fun b1 hb1 => ?_
    simp -dsimp [h1, q2, z3]
    repeat (refine chk.go (by first | omega | assumption | (simp_all; done) | (simp_all; omega)) ?_; simp -dsimp [h1, q2, z3])
    refine AMake.go fun b2 hb2 => ?_
    simp at hb2
    simp -dsimp [h1, q2, z3, hb2]
    repeat (refine chk.go (by first | omega | assumption | (simp_all; done) | (simp_all; omega)) ?_; simp -dsimp [h1, q2, z3, hb2])
    have hF := ob hF; obtain ⟨o44, ho43, hF⟩ := hF
    refine MLoop.goU ⟨[(0, .arr (List.map Vl.Data.c w)), (3, .lit (.map (some b1))), (4, .lit (.map (some b2))), (14, .arr (List.map Vl.Data.c w)), (15, .lit (.int .i64 (w.length : Int))), (16, .lit (.int .i64 (0 : Int)))], []⟩ (Gh.to (by simp) (by simp -dsimp) (by simp -dsimp) (by simp -dsimp)) ?_
    refine (C.impl_WorldValid_l1 B hB1 hB2 w [] [] 0 o44 ho43) b1 b2 hb2 _ rfl _ ?_
    rcases o44 with r046 | s45
    · dsimp only at hF
      cases hF
      intro st h ms
      simpa using h
    · dsimp only at hF
      cases hF
      simp -dsimp
      repeat (refine chk.go (by first | omega | assumption | (simp_all; done) | (simp_all; omega)) ?_; simp -dsimp)

set_option maxRecDepth 100000 in
set_option maxHeartbeats 400000 in
theorem C.impl_typeOk (B : Nat) (hB1 : 67108864 ≤ B) (hB2 : B ≤ 9223372036854775807) (w : List Vl.Data) (t : Vl.Ty) (r : Bool) (hF : F.impl_typeOk w t = some r) : PureCall Try.prog B 49 [.arr (List.map Vl.Data.c w), .agg [.lit (.int .i64 t.data), .lit (.int .i64 t.index)]] (.lit (.bool r)) := by
  unfold F.impl_typeOk at hF
  refine PureCall.enterLe Try.func49 (by kernel_rfl) rfl Try.ntmps49 (by simp) (by simp) ?_
  simp -dsimp
  repeat (refine chk.go (by first | omega | assumption | (simp_all; done) | (simp_all; omega)) ?_; simp -dsimp)
  refine abr.split (fun h1 => ?_) (fun h1 => ?_)
  · have q2 : ¬ (dec (eq2 (t.data, t.index) ((-1), 0)) = true) := by first | exact h1 | omega | (simpa using h1) | (simp at h1 ⊢; omega) | simp_all
    rw [if_neg q2] at hF
    simp -dsimp [h1, q2]
    repeat (refine chk.go (by first | omega | assumption | (simp_all; done) | (simp_all; omega)) ?_; simp -dsimp [h1, q2])
    have hF := ob hF; obtain ⟨v, e3, hF⟩ := hF
    refine ((C.impl_within B hB1 hB2 t.data (0 : Int) (IntKind.i64.wrap ((w.length : Int) - 1)) v e3)).goW (by simp) (by simp) ?_
    simp -dsimp [h1, q2]
    repeat (refine chk.go (by first | omega | assumption | (simp_all; done) | (simp_all; omega)) ?_; simp -dsimp [h1, q2])
    refine abr.split (fun h4 => ?_) (fun h4 => ?_)
    · have q5 : (v = true) := by first | exact h4 | omega | (simpa using h4) | (simp at h4 ⊢; omega) | simp_all
      rw [if_pos q5] at hF
      simp -dsimp [h1, q2, h4]
      repeat (refine chk.go (by first | omega | assumption | (simp_all; done) | (simp_all; omega)) ?_; simp -dsimp [h1, q2, h4])
      have hF := ob hF; obtain ⟨v6, e7, hF⟩ := hF
      refine ((C.impl_within B hB1 hB2 t.index (0 : Int) (3 : Int) v6 e7)).goW (by simp) (by simp) ?_
      cases hF
      simp -dsimp [h1, q2, h4]
      repeat (refine chk.go (by first | omega | assumption | (simp_all; done) | (simp_all; omega)) ?_; simp -dsimp [h1, q2, h4])
    · have q5 : ¬ (v = true) := by first | exact h4 | omega | (simpa using h4) | (simp at h4 ⊢; omega) | simp_all
      rw [if_neg q5] at hF
      cases hF
      simp -dsimp [h1, q2, h4, q5]
      repeat (refine chk.go (by first | omega | assumption | (simp_all; done) | (simp_all; omega)) ?_; simp -dsimp [h1, q2, h4, q5])
  · have q2 : (dec (eq2 (t.data, t.index) ((-1), 0)) = true) := by first | exact h1 | omega | (simpa using h1) | (simp at h1 ⊢; omega) | simp_all
    rw [if_pos q2] at hF
    cases hF
    simp -dsimp [h1, q2]
    repeat (refine chk.go (by first | omega | assumption | (simp_all; done) | (simp_all; omega)) ?_; simp -dsimp [h1, q2])

set_option maxRecDepth 100000 in
set_option maxHeartbeats 400000 in
theorem C.impl_TypeValid (B : Nat) (hB1 : 67108864 ≤ B) (hB2 : B ≤ 9223372036854775807) (w : List Vl.Data) (t : Vl.Ty) (r : Bool) (hF : F.impl_TypeValid w t = some r) : PureCall Try.prog B 27 [.arr (List.map Vl.Data.c w), .agg [.lit (.int .i64 t.data), .lit (.int .i64 t.index)]] (.lit (.bool r)) := by
  unfold F.impl_TypeValid at hF
  refine PureCall.enterLe Try.func27 (by kernel_rfl) rfl Try.ntmps27 (by simp) (by simp) ?_
  simp -dsimp
  repeat (refine chk.go (by first | omega | assumption | (simp_all; done) | (simp_all; omega)) ?_; simp -dsimp)
  have hF := ob hF; obtain ⟨v, e1, hF⟩ := hF
  refine ((C.impl_WorldValid B hB1 hB2 w v e1)).goW (by simp) (by simp) ?_
  simp -dsimp
  repeat (refine chk.go (by first | omega | assumption | (simp_all; done) | (simp_all; omega)) ?_; simp -dsimp)
  refine abr.split (fun h2 => ?_) (fun h2 => ?_)
  · have q3 : (v = true) := by first | exact h2 | omega | (simpa using h2) | (simp at h2 ⊢; omega) | simp_all
    rw [if_pos q3] at hF
    simp -dsimp [h2]
    repeat (refine chk.go (by first | omega | assumption | (simp_all; done) | (simp_all; omega)) ?_; simp -dsimp [h2])
    have hF := ob hF; obtain ⟨v4, e5, hF⟩ := hF
    refine ((C.impl_typeOk B hB1 hB2 w t v4 e5)).goW (by simp) (by simp) ?_
    cases hF
    simp -dsimp [h2]
    repeat (refine chk.go (by first | omega | assumption | (simp_all; done) | (simp_all; omega)) ?_; simp -dsimp [h2])
  · have q3 : ¬ (v = true) := by first | exact h2 | omega | (simpa using h2) | (simp at h2 ⊢; omega) | simp_all
    rw [if_neg q3] at hF
    cases hF
    simp -dsimp [h2, q3]
    repeat (refine chk.go (by first | omega | assumption | (simp_all; done) | (simp_all; omega)) ?_; simp -dsimp [h2, q3])

set_option maxRecDepth 100000 in
set_option maxHeartbeats 400000 in
theorem C.impl_fits (B : Nat) (hB1 : 67108864 ≤ B) (hB2 : B ≤ 9223372036854775807) (a : Vl.Ty) (b : Vl.Ty) (r : Bool) (hF : F.impl_fits a b = some r) : PureCall Try.prog B 50 [.agg [.lit (.int .i64 a.data), .lit (.int .i64 a.index)], .agg [.lit (.int .i64 b.data), .lit (.int .i64 b.index)]] (.lit (.bool r)) := by
  unfold F.impl_fits at hF
  refine PureCall.enterLe Try.func50 (by kernel_rfl) rfl Try.ntmps50 (by simp) (by simp) ?_
  simp -dsimp
  repeat (refine chk.go (by first | omega | assumption | (simp_all; done) | (simp_all; omega)) ?_; simp -dsimp)
  refine abr.split (fun h1 => ?_) (fun h1 => ?_)
  · have q2 : (a.data = b.data) := by first | exact h1 | omega | (simpa using h1) | (simp at h1 ⊢; omega) | simp_all
    rw [if_pos q2] at hF
    simp -dsimp [h1]
    repeat (refine chk.go (by first | omega | assumption | (simp_all; done) | (simp_all; omega)) ?_; simp -dsimp [h1])
    refine abr.split (fun h3 => ?_) (fun h3 => ?_)
    · have q4 : ¬ (b.index = 0) := by first | exact h3 | omega | (simpa using h3) | (simp at h3 ⊢; omega) | simp_all
      rw [if_neg q4] at hF
      cases hF
      simp -dsimp [h1, h3, q4]
      repeat (refine chk.go (by first | omega | assumption | (simp_all; done) | (simp_all; omega)) ?_; simp -dsimp [h1, h3, q4])
    · have q4 : (b.index = 0) := by first | exact h3 | omega | (simpa using h3) | (simp at h3 ⊢; omega) | simp_all
      rw [if_pos q4] at hF
      cases hF
      simp -dsimp [h1, h3, q4]
      repeat (refine chk.go (by first | omega | assumption | (simp_all; done) | (simp_all; omega)) ?_; simp -dsimp [h1, h3, q4])
  · have q2 : ¬ (a.data = b.data) := by first | exact h1 | omega | (simpa using h1) | (simp at h1 ⊢; omega) | simp_all
    rw [if_neg q2] at hF
    cases hF
    simp -dsimp [h1, q2]
    repeat (refine chk.go (by first | omega | assumption | (simp_all; done) | (simp_all; omega)) ?_; simp -dsimp [h1, q2])

set_option maxRecDepth 100000 in
set_option maxHeartbeats 400000 in
theorem C.impl_TypeFits (B : Nat) (hB1 : 67108864 ≤ B) (hB2 : B ≤ 9223372036854775807) (w : List Vl.Data) (a : Vl.Ty) (b : Vl.Ty) (r : Bool) (hF : F.impl_TypeFits w a b = some r) : PureCall Try.prog B 18 [.arr (List.map Vl.Data.c w), .agg [.lit (.int .i64 a.data), .lit (.int .i64 a.index)], .agg [.lit (.int .i64 b.data), .lit (.int .i64 b.index)]] (.lit (.bool r)) := by
  unfold F.impl_TypeFits at hF
  refine PureCall.enterLe Try.func18 (by kernel_rfl) rfl Try.ntmps18 (by simp) (by simp) ?_
  simp -dsimp
  repeat (refine chk.go (by first | omega | assumption | (simp_all; done) | (simp_all; omega)) ?_; simp -dsimp)
  have hF := ob hF; obtain ⟨v, e1, hF⟩ := hF
  refine ((C.impl_TypeValid B hB1 hB2 w a v e1)).goW (by simp) (by simp) ?_
  simp -dsimp
  repeat (refine chk.go (by first | omega | assumption | (simp_all; done) | (simp_all; omega)) ?_; simp -dsimp)
  refine abr.split (fun h2 => ?_) (fun h2 => ?_)
  · have q3 : (v = true) := by first | exact h2 | omega | (simpa using h2) | (simp at h2 ⊢; omega) | simp_all
    rw [if_pos q3] at hF
    simp -dsimp [h2]
    repeat (refine chk.go (by first | omega | assumption | (simp_all; done) | (simp_all; omega)) ?_; simp -dsimp [h2])
    have hF := ob hF; obtain ⟨v4, e5, hF⟩ := hF
    refine ((C.impl_typeOk B hB1 hB2 w b v4 e5)).goW (by simp) (by simp) ?_
    simp -dsimp [h2]
    repeat (refine chk.go (by first | omega | assumption | (simp_all; done) | (simp_all; omega)) ?_; simp -dsimp [h2])
    refine abr.split (fun h6 => ?_) (fun h6 => ?_)
    · have q7 : (v4 = true) := by first | exact h6 | omega | (simpa using h6) | (simp at h6 ⊢; omega) | simp_all
      rw [if_pos q7] at hF
      simp -dsimp [h2, h6]
      repeat (refine chk.go (by first | omega | assumption | (simp_all; done) | (simp_all; omega)) ?_; simp -dsimp [h2, h6])
      have hF := ob hF; obtain ⟨v8, e9, hF⟩ := hF
      refine ((C.impl_fits B hB1 hB2 a b v8 e9)).goW (by simp) (by simp) ?_
      cases hF
      simp -dsimp [h2, h6]
      repeat (refine chk.go (by first | omega | assumption | (simp_all; done) | (simp_all; omega)) ?_; simp -dsimp [h2, h6])
    · have q7 : ¬ (v4 = true) := by first | exact h6 | omega | (simpa using h6) | (simp at h6 ⊢; omega) | simp_all
      rw [if_neg q7] at hF
      cases hF
      simp -dsimp [h2, h6, q7]
      repeat (refine chk.go (by first | omega | assumption | (simp_all; done) | (simp_all; omega)) ?_; simp -dsimp [h2, h6, q7])
  · have q3 : ¬ (v = true) := by first | exact h2 | omega | (simpa using h2) | (simp at h2 ⊢; omega) | simp_all
    rw [if_neg q3] at hF
    cases hF
    simp -dsimp [h2, q3]
    repeat (refine chk.go (by first | omega | assumption | (simp_all; done) | (simp_all; omega)) ?_; simp -dsimp [h2, q3])

set_option maxRecDepth 100000 in
set_option maxHeartbeats 400000 in
theorem C.laws_eqType (B : Nat) (hB1 : 67108864 ≤ B) (hB2 : B ≤ 9223372036854775807) (a : Vl.Ty) (b : Vl.Ty) (r : Bool) (hF : F.laws_eqType a b = some r) : PureCall Try.prog B 116 [.agg [.lit (.int .i64 a.data), .lit (.int .i64 a.index)], .agg [.lit (.int .i64 b.data), .lit (.int .i64 b.index)]] (.lit (.bool r)) := by
  unfold F.laws_eqType at hF
  refine PureCall.enterLe Try.func116 (by kernel_rfl) rfl Try.ntmps116 (by simp) (by simp) ?_
  simp -dsimp
  repeat (refine chk.go (by first | omega | assumption | (simp_all; done) | (simp_all; omega)) ?_; simp -dsimp)
  refine abr.split (fun h1 => ?_) (fun h1 => ?_)
  · have q2 : ¬ (a.data = b.data) := by first | exact h1 | omega | (simpa using h1) | (simp at h1 ⊢; omega) | simp_all
    rw [if_neg q2] at hF
    cases hF
    simp -dsimp [h1, q2]
    repeat (refine chk.go (by first | omega | assumption | (simp_all; done) | (simp_all; omega)) ?_; simp -dsimp [h1, q2])
  · have q2 : (a.data = b.data) := by first | exact h1 | omega | (simpa using h1) | (simp at h1 ⊢; omega) | simp_all
    rw [if_pos q2] at hF
    simp -dsimp [h1, q2]
    repeat (refine chk.go (by first | omega | assumption | (simp_all; done) | (simp_all; omega)) ?_; simp -dsimp [h1, q2])
    refine abr.split (fun h3 => ?_) (fun h3 => ?_)
    · have q4 : ¬ (a.index = b.index) := by first | exact h3 | omega | (simpa using h3) | (simp at h3 ⊢; omega) | simp_all
      rw [if_neg q4] at hF
      cases hF
      simp -dsimp [h1, q2, h3, q4]
      repeat (refine chk.go (by first | omega | assumption | (simp_all; done) | (simp_all; omega)) ?_; simp -dsimp [h1, q2, h3, q4])
    · have q4 : (a.index = b.index) := by first | exact h3 | omega | (simpa using h3) | (simp at h3 ⊢; omega) | simp_all
      rw [if_pos q4] at hF
      cases hF
      simp -dsimp [h1, q2, h3, q4]
      repeat (refine chk.go (by first | omega | assumption | (simp_all; done) | (simp_all; omega)) ?_; simp -dsimp [h1, q2, h3, q4])

set_option maxRecDepth 100000 in
set_option maxHeartbeats 400000 in
theorem CC.laws_eqTypeS_l1 (B : Nat) (hB1 : 67108864 ≤ B) (hB2 : B ≤ 9223372036854775807) (a : List Vl.Ty) (b : List Vl.Ty) : (∀ (i : Nat) (o : Lo Bool Unit), F.laws_eqTypeS_l1 a b i = some o → ∀ (c : Code), navO [1, 1, 0, 1, 0, 0] (bodyOf Try.f111) = some c → ∀ (Q : Exit → ASt → Prop), o.post (fun r => ∀ st, Post Try.prog Try.f111 (fun r' _ => r'.le (.lit (.bool r))) .ret st → Q .ret st) (fun s => Q (.exit 0) ⟨[], []⟩) → ALoopU Try.prog B 0 27 (hold c .mk) ⟨[(0, .arr (List.map Vl.Ty.c a)), (1, .arr (List.map Vl.Ty.c b)), (5, .lit (.int .i64 (i : Int)))], []⟩ (hold Q .mk)) := by
  refine F.laws_eqTypeS_l1.partial_correctness a b
    (fun i o => ∀ (c : Code), navO [1, 1, 0, 1, 0, 0] (bodyOf Try.f111) = some c → ∀ (Q : Exit → ASt → Prop), o.post (fun r => ∀ st, Post Try.prog Try.f111 (fun r' _ => r'.le (.lit (.bool r))) .ret st → Q .ret st) (fun s => Q (.exit 0) ⟨[], []⟩) → ALoopU Try.prog B 0 27 (hold c .mk) ⟨[(0, .arr (List.map Vl.Ty.c a)), (1, .arr (List.map Vl.Ty.c b)), (5, .lit (.int .i64 (i : Int)))], []⟩ (hold Q .mk))
    ?_
  · intro _f_laws_eqTypeS_l1 ih_laws_eqTypeS_l1 i o hF
    intro c hc Q hq
    obtain rfl : c = _ := navEq hc rfl
    refine ALoopU.know fun hk hs => ?_
    have b0 := hk 0
    simp -dsimp at b0
    have b1 := hk 1
    simp -dsimp at b1
    clear hk hs
    refine ALoopU.enter ?_
    simp -dsimp
    repeat (refine chk.go (by first | omega | assumption | (simp_all; done) | (simp_all; omega)) ?_; simp -dsimp)
    refine abr.split (fun h4 => ?_) (fun h4 => ?_)
    · have q5 : (i < a.length) := by first | exact h4 | omega | (simpa using h4) | (simp at h4 ⊢; omega) | simp_all
      have z6 : ((i : Int) < (a.length : Int)) := by first | omega | simp_all
      rw [if_pos q5] at hF
      simp -dsimp [h4, z6]
      repeat (refine chk.go (by first | omega | assumption | (simp_all; done) | (simp_all; omega)) ?_; simp -dsimp [h4, z6])
      refine ADraw.simple follows (by kernel_rfl) (by kernel_rfl) ?_
      have hF := ob hF; obtain ⟨x, e7, hF⟩ := hF
      have le7 := lt_of_get e7
      have hF := ob hF; obtain ⟨x8, e9, hF⟩ := hF
      have le9 := lt_of_get e9
      simp -dsimp [h4, z6, ↓e7, ↓e9]
      repeat (refine chk.go (by first | omega | assumption | (simp_all; done) | (simp_all; omega)) ?_; simp -dsimp [h4, z6, ↓e7, ↓e9])
      have hF := ob hF; obtain ⟨v, e10, hF⟩ := hF
      refine ((C.laws_eqType B hB1 hB2 x x8 v e10)).pgoW (by simp) (by simp) ?_
      simp -dsimp [h4, z6, ↓e7, ↓e9]
      repeat (refine chk.go (by first | omega | assumption | (simp_all; done) | (simp_all; omega)) ?_; simp -dsimp [h4, z6, ↓e7, ↓e9])
      refine abr.split (fun h11 => ?_) (fun h11 => ?_)
      · have q12 : ¬ (v = true) := by first | exact h11 | omega | (simpa using h11) | (simp at h11 ⊢; omega) | simp_all
        rw [if_neg q12] at hF
        cases hF
        simp -dsimp [h4, z6, ↓e7, ↓e9, h11, q12]
        repeat (refine chk.go (by first | omega | assumption | (simp_all; done) | (simp_all; omega)) ?_; simp -dsimp [h4, z6, ↓e7, ↓e9, h11, q12])
        refine Leave.go _ (Gh.refl _) (hq _ ?_)
        simp -dsimp [h4, z6, ↓e7, ↓e9, h11, q12]
        repeat (refine chk.go (by first | omega | assumption | (simp_all; done) | (simp_all; omega)) ?_; simp -dsimp [h4, z6, ↓e7, ↓e9, h11, q12])
      · have q12 : (v = true) := by first | exact h11 | omega | (simpa using h11) | (simp at h11 ⊢; omega) | simp_all
        rw [if_pos q12] at hF
        have w13 : IntKind.i64.wrap ((i : Int) + 1) = (i : Int) + 1 := wrap_in (by omega) (by omega)
        simp -dsimp [h4, z6, ↓e7, ↓e9, h11, q12, w13]
        repeat (refine chk.go (by first | omega | assumption | (simp_all; done) | (simp_all; omega)) ?_; simp -dsimp [h4, z6, ↓e7, ↓e9, h11, q12, w13])
        refine Again.go ⟨[(0, .arr (List.map Vl.Ty.c a)), (1, .arr (List.map Vl.Ty.c b)), (5, .lit (.int .i64 ((i + 1) : Int)))], []⟩ (Gh.to (by simp) (by simp -dsimp) (by simp -dsimp) (by simp -dsimp)) ?_
        exact (ih_laws_eqTypeS_l1 (i + 1) o hF) _ rfl _ hq
    · have q5 : ¬ (i < a.length) := by first | exact h4 | omega | (simpa using h4) | (simp at h4 ⊢; omega) | simp_all
      have z6 : ¬ ((i : Int) < (a.length : Int)) := by first | omega | simp_all
      rw [if_neg q5] at hF
      cases hF
      simp -dsimp [h4, q5, z6]
      repeat (refine chk.go (by first | omega | assumption | (simp_all; done) | (simp_all; omega)) ?_; simp -dsimp [h4, q5, z6])
      refine Leave.go ⟨[], []⟩ (Gh.to (by simp) (by simp -dsimp) (by simp -dsimp) (by simp -dsimp)) ?_
      exact hq

theorem C.laws_eqTypeS_l1 (B : Nat) (hB1 : 67108864 ≤ B) (hB2 : B ≤ 9223372036854775807) (a : List Vl.Ty) (b : List Vl.Ty) (i : Nat) (o : Lo Bool Unit) (hF : F.laws_eqTypeS_l1 a b i = some o) : ∀ (c : Code), navO [1, 1, 0, 1, 0, 0] (bodyOf Try.f111) = some c → ∀ (Q : Exit → ASt → Prop), o.post (fun r => ∀ st, Post Try.prog Try.f111 (fun r' _ => r'.le (.lit (.bool r))) .ret st → Q .ret st) (fun s => Q (.exit 0) ⟨[], []⟩) → ALoopU Try.prog B 0 27 (hold c .mk) ⟨[(0, .arr (List.map Vl.Ty.c a)), (1, .arr (List.map Vl.Ty.c b)), (5, .lit (.int .i64 (i : Int)))], []⟩ (hold Q .mk) :=
  (CC.laws_eqTypeS_l1 B hB1 hB2 a b) i o hF

set_option maxRecDepth 100000 in
set_option maxHeartbeats 400000 in
theorem C.laws_eqTypeS (B : Nat) (hB1 : 67108864 ≤ B) (hB2 : B ≤ 9223372036854775807) (a : List Vl.Ty) (b : List Vl.Ty) (r : Bool) (hF : F.laws_eqTypeS a b = some r) : PureCall Try.prog B 111 [.arr (List.map Vl.Ty.c a), .arr (List.map Vl.Ty.c b)] (.lit (.bool r)) := by
  unfold F.laws_eqTypeS at hF
  refine PureCall.enterLe Try.func111 (by kernel_rfl) rfl Try.ntmps111 (by simp) (by simp) ?_
  simp -dsimp
  repeat (refine chk.go (by first | omega | assumption | (simp_all; done) | (simp_all; omega)) ?_; simp -dsimp)
  refine abr.split (fun h1 => ?_) (fun h1 => ?_)
  · have q2 : ¬ (a.length = b.length) := by first | exact h1 | omega | (simpa using h1) | (simp at h1 ⊢; omega) | simp_all
    have z3 : ¬ ((a.length : Int) = (b.length : Int)) := by first | omega | simp_all
    rw [if_neg q2] at hF
    cases hF
    simp -dsimp [h1, q2, z3]
    repeat (refine chk.go (by first | omega | assumption | (simp_all; done) | (simp_all; omega)) ?_; simp -dsimp [h1, q2, z3])
  · have q2 : (a.length = b.length) := by first | exact h1 | omega | (simpa using h1) | (simp at h1 ⊢; omega) | simp_all
    have z3 : ((a.length : Int) = (b.length : Int)) := by first | omega | simp_all
    rw [if_pos q2] at hF
    simp -dsimp [h1, q2, z3]
    repeat (refine chk.go (by first | omega | assumption | (simp_all; done) | (simp_all; omega)) ?_; simp -dsimp [h1, q2, z3])
    have hF := ob hF; obtain ⟨o, ho14, hF⟩ := hF
    refine ALoop.goU ⟨[(0, .arr (List.map Vl.Ty.c a)), (1, .arr (List.map Vl.Ty.c b)), (5, .lit (.int .i64 (0 : Int)))], []⟩ (Gh.to (by simp) (by simp -dsimp) (by simp -dsimp) (by simp -dsimp)) ?_
    refine (C.laws_eqTypeS_l1 B hB1 hB2 a b 0 o ho14) _ rfl _ ?_
    rcases o with r0 | s
    · dsimp only at hF
      cases hF
      intro st h
      simpa using h
    · dsimp only at hF
      cases hF
      simp -dsimp
      repeat (refine chk.go (by first | omega | assumption | (simp_all; done) | (simp_all; omega)) ?_; simp -dsimp)

set_option maxRecDepth 100000 in
set_option maxHeartbeats 400000 in
theorem C.laws_eqCtor (B : Nat) (hB1 : 67108864 ≤ B) (hB2 : B ≤ 9223372036854775807) (a : Vl.Ctor) (b : Vl.Ctor) (r : Bool) (hF : F.laws_eqCtor a b = some r) : PureCall Try.prog B 95 [.agg [.lit (.string a.name), .arr (List.map Vl.Ty.c a.args), .lit (.int .i64 a.index)], .agg [.lit (.string b.name), .arr (List.map Vl.Ty.c b.args), .lit (.int .i64 b.index)]] (.lit (.bool r)) := by
  unfold F.laws_eqCtor at hF
  refine PureCall.enterLe Try.func95 (by kernel_rfl) rfl Try.ntmps95 (by simp) (by simp) ?_
  simp -dsimp
  repeat (refine chk.go (by first | omega | assumption | (simp_all; done) | (simp_all; omega)) ?_; simp -dsimp)
  refine abr.split (fun h1 => ?_) (fun h1 => ?_)
  · have q2 : ¬ (a.name.toList = b.name.toList) := by first | exact h1 | omega | (simpa using h1) | (simp at h1 ⊢; omega) | simp_all
    rw [if_neg q2] at hF
    cases hF
    simp -dsimp [h1, q2]
    repeat (refine chk.go (by first | omega | assumption | (simp_all; done) | (simp_all; omega)) ?_; simp -dsimp [h1, q2])
  · have q2 : (a.name.toList = b.name.toList) := by first | exact h1 | omega | (simpa using h1) | (simp at h1 ⊢; omega) | simp_all
    rw [if_pos q2] at hF
    simp -dsimp [h1, q2]
    repeat (refine chk.go (by first | omega | assumption | (simp_all; done) | (simp_all; omega)) ?_; simp -dsimp [h1, q2])
    have hF := ob hF; obtain ⟨v, e3, hF⟩ := hF
    refine ((C.laws_eqTypeS B hB1 hB2 a.args b.args v e3)).goW (by simp) (by simp) ?_
    simp -dsimp [h1, q2]
    repeat (refine chk.go (by first | omega | assumption | (simp_all; done) | (simp_all; omega)) ?_; simp -dsimp [h1, q2])
    refine abr.split (fun h4 => ?_) (fun h4 => ?_)
    · have q5 : ¬ (v = true) := by first | exact h4 | omega | (simpa using h4) | (simp at h4 ⊢; omega) | simp_all
      rw [if_neg q5] at hF
      cases hF
      simp -dsimp [h1, q2, h4, q5]
      repeat (refine chk.go (by first | omega | assumption | (simp_all; done) | (simp_all; omega)) ?_; simp -dsimp [h1, q2, h4, q5])
    · have q5 : (v = true) := by first | exact h4 | omega | (simpa using h4) | (simp at h4 ⊢; omega) | simp_all
      rw [if_pos q5] at hF
      simp -dsimp [h1, q2, h4, q5]
      repeat (refine chk.go (by first | omega | assumption | (simp_all; done) | (simp_all; omega)) ?_; simp -dsimp [h1, q2, h4, q5])
      refine abr.split (fun h6 => ?_) (fun h6 => ?_)
      · have q7 : ¬ (a.index = b.index) := by first | exact h6 | omega | (simpa using h6) | (simp at h6 ⊢; omega) | simp_all
        rw [if_neg q7] at hF
        cases hF
        simp -dsimp [h1, q2, h4, q5, h6, q7]
        repeat (refine chk.go (by first | omega | assumption | (simp_all; done) | (simp_all; omega)) ?_; simp -dsimp [h1, q2, h4, q5, h6, q7])
      · have q7 : (a.index = b.index) := by first | exact h6 | omega | (simpa using h6) | (simp at h6 ⊢; omega) | simp_all
        rw [if_pos q7] at hF
        cases hF
        simp -dsimp [h1, q2, h4, q5, h6, q7]
        repeat (refine chk.go (by first | omega | assumption | (simp_all; done) | (simp_all; omega)) ?_; simp -dsimp [h1, q2, h4, q5, h6, q7])

set_option maxRecDepth 100000 in
set_option maxHeartbeats 400000 in
theorem CC.laws_eqCtorS_l1 (B : Nat) (hB1 : 67108864 ≤ B) (hB2 : B ≤ 9223372036854775807) (a : List Vl.Ctor) (b : List Vl.Ctor) : (∀ (i : Nat) (o : Lo Bool Unit), F.laws_eqCtorS_l1 a b i = some o → ∀ (c : Code), navO [1, 1, 0, 1, 0, 0] (bodyOf Try.f79) = some c → ∀ (Q : Exit → ASt → Prop), o.post (fun r => ∀ st, Post Try.prog Try.f79 (fun r' _ => r'.le (.lit (.bool r))) .ret st → Q .ret st) (fun s => Q (.exit 0) ⟨[], []⟩) → ALoopU Try.prog B 0 27 (hold c .mk) ⟨[(0, .arr (List.map Vl.Ctor.c a)), (1, .arr (List.map Vl.Ctor.c b)), (5, .lit (.int .i64 (i : Int)))], []⟩ (hold Q .mk)) := by
  refine F.laws_eqCtorS_l1.partial_correctness a b
    (fun i o => ∀ (c : Code), navO [1, 1, 0, 1, 0, 0] (bodyOf Try.f79) = some c → ∀ (Q : Exit → ASt → Prop), o.post (fun r => ∀ st, Post Try.prog Try.f79 (fun r' _ => r'.le (.lit (.bool r))) .ret st → Q .ret st) (fun s => Q (.exit 0) ⟨[], []⟩) → ALoopU Try.prog B 0 27 (hold c .mk) ⟨[(0, .arr (List.map Vl.Ctor.c a)), (1, .arr (List.map Vl.Ctor.c b)), (5, .lit (.int .i64 (i : Int)))], []⟩ (hold Q .mk))
    ?_
  · intro _f_laws_eqCtorS_l1 ih_laws_eqCtorS_l1 i o hF
    intro c hc Q hq
    obtain rfl : c = _ := navEq hc rfl
    refine ALoopU.know fun hk hs => ?_
    have b0 := hk 0
    simp -dsimp at b0
    have b1 := hk 1
    simp -dsimp at b1
    clear hk hs
    refine ALoopU.enter ?_
    simp -dsimp
    repeat (refine chk.go (by first | omega | assumption | (simp_all; done) | (simp_all; omega)) ?_; simp -dsimp)
    refine abr.split (fun h4 => ?_) (fun h4 => ?_)
    · have q5 : (i < a.length) := by first | exact h4 | omega | (simpa using h4) | (simp at h4 ⊢; omega) | simp_all
      have z6 : ((i : Int) < (a.length : Int)) := by first | omega | simp_all
      rw [if_pos q5] at hF
      simp -dsimp [h4, z6]
      repeat (refine chk.go (by first | omega | assumption | (simp_all; done) | (simp_all; omega)) ?_; simp -dsimp [h4, z6])
      refine ADraw.simple follows (by kernel_rfl) (by kernel_rfl) ?_
      have hF := ob hF; obtain ⟨x, e7, hF⟩ := hF
      have le7 := lt_of_get e7
      have hF := ob hF; obtain ⟨x8, e9, hF⟩ := hF
      have le9 := lt_of_get e9
      simp -dsimp [h4, z6, ↓e7, ↓e9]
      repeat (refine chk.go (by first | omega | assumption | (simp_all; done) | (simp_all; omega)) ?_; simp -dsimp [h4, z6, ↓e7, ↓e9])
      have hF := ob hF; obtain ⟨v, e10, hF⟩ := hF
      refine ((C.laws_eqCtor B hB1 hB2 x x8 v e10)).pgoW (by simp) (by simp) ?_
      simp -dsimp [h4, z6, ↓e7, ↓e9]
      repeat (refine chk.go (by first | omega | assumption | (simp_all; done) | (simp_all; omega)) ?_; simp -dsimp [h4, z6, ↓e7, ↓e9])
      refine abr.split (fun h11 => ?_) (fun h11 => ?_)
      · have q12 : ¬ (v = true) := by first | exact h11 | omega | (simpa using h11) | (simp at h11 ⊢; omega) | simp_all
        rw [if_neg q12] at hF
        cases hF
        simp -dsimp [h4, z6, ↓e7, ↓e9, h11, q12]
        repeat (refine chk.go (by first | omega | assumption | (simp_all; done) | (simp_all; omega)) ?_; simp -dsimp [h4, z6, ↓e7, ↓e9, h11, q12])
        refine Leave.go _ (Gh.refl _) (hq _ ?_)
        simp -dsimp [h4, z6, ↓e7, ↓e9, h11, q12]
        repeat (refine chk.go (by first | omega | assumption | (simp_all; done) | (simp_all; omega)) ?_; simp -dsimp [h4, z6, ↓e7, ↓e9, h11, q12])
      · have q12 : (v = true) := by first | exact h11 | omega | (simpa using h11) | (simp at h11 ⊢; omega) | simp_all
        rw [if_pos q12] at hF
        have w13 : IntKind.i64.wrap ((i : Int) + 1) = (i : Int) + 1 := wrap_in (by omega) (by omega)
        simp -dsimp [h4, z6, ↓e7, ↓e9, h11, q12, w13]
        repeat (refine chk.go (by first | omega | assumption | (simp_all; done) | (simp_all; omega)) ?_; simp -dsimp [h4, z6, ↓e7, ↓e9, h11, q12, w13])
        refine Again.go ⟨[(0, .arr (List.map Vl.Ctor.c a)), (1, .arr (List.map Vl.Ctor.c b)), (5, .lit (.int .i64 ((i + 1) : Int)))], []⟩ (Gh.to (by simp) (by simp -dsimp) (by simp -dsimp) (by simp -dsimp)) ?_
        exact (ih_laws_eqCtorS_l1 (i + 1) o hF) _ rfl _ hq
    · have q5 : ¬ (i < a.length) := by first | exact h4 | omega | (simpa using h4) | (simp at h4 ⊢; omega) | simp_all
      have z6 : ¬ ((i : Int) < (a.length : Int)) := by first | omega | simp_all
      rw [if_neg q5] at hF
      cases hF
      simp -dsimp [h4, q5, z6]
      repeat (refine chk.go (by first | omega | assumption | (simp_all; done) | (simp_all; omega)) ?_; simp -dsimp [h4, q5, z6])
      refine Leave.go ⟨[], []⟩ (Gh.to (by simp) (by simp -dsimp) (by simp -dsimp) (by simp -dsimp)) ?_
      exact hq

theorem C.laws_eqCtorS_l1 (B : Nat) (hB1 : 67108864 ≤ B) (hB2 : B ≤ 9223372036854775807) (a : List Vl.Ctor) (b : List Vl.Ctor) (i : Nat) (o : Lo Bool Unit) (hF : F.laws_eqCtorS_l1 a b i = some o) : ∀ (c : Code), navO [1, 1, 0, 1, 0, 0] (bodyOf Try.f79) = some c → ∀ (Q : Exit → ASt → Prop), o.post (fun r => ∀ st, Post Try.prog Try.f79 (fun r' _ => r'.le (.lit (.bool r))) .ret st → Q .ret st) (fun s => Q (.exit 0) ⟨[], []⟩) → ALoopU Try.prog B 0 27 (hold c .mk) ⟨[(0, .arr (List.map Vl.Ctor.c a)), (1, .arr (List.map Vl.Ctor.c b)), (5, .lit (.int .i64 (i : Int)))], []⟩ (hold Q .mk) :=
  (CC.laws_eqCtorS_l1 B hB1 hB2 a b) i o hF

set_option maxRecDepth 100000 in
set_option maxHeartbeats 400000 in
theorem C.laws_eqCtorS (B : Nat) (hB1 : 67108864 ≤ B) (hB2 : B ≤ 9223372036854775807) (a : List Vl.Ctor) (b : List Vl.Ctor) (r : Bool) (hF : F.laws_eqCtorS a b = some r) : PureCall Try.prog B 79 [.arr (List.map Vl.Ctor.c a), .arr (List.map Vl.Ctor.c b)] (.lit (.bool r)) := by
  unfold F.laws_eqCtorS at hF
  refine PureCall.enterLe Try.func79 (by kernel_rfl) rfl Try.ntmps79 (by simp) (by simp) ?_
  simp -dsimp
  repeat (refine chk.go (by first | omega | assumption | (simp_all; done) | (simp_all; omega)) ?_; simp -dsimp)
  refine abr.split (fun h1 => ?_) (fun h1 => ?_)
  · have q2 : ¬ (a.length = b.length) := by first | exact h1 | omega | (simpa using h1) | (simp at h1 ⊢; omega) | simp_all
    have z3 : ¬ ((a.length : Int) = (b.length : Int)) := by first | omega | simp_all
    rw [if_neg q2] at hF
    cases hF
    simp -dsimp [h1, q2, z3]
    repeat (refine chk.go (by first | omega | assumption | (simp_all; done) | (simp_all; omega)) ?_; simp -dsimp [h1, q2, z3])
  · have q2 : (a.length = b.length) := by first | exact h1 | omega | (simpa using h1) | (simp at h1 ⊢; omega) | simp_all
    have z3 : ((a.length : Int) = (b.length : Int)) := by first | omega | simp_all
    rw [if_pos q2] at hF
    simp -dsimp [h1, q2, z3]
    repeat (refine chk.go (by first | omega | assumption | (simp_all; done) | (simp_all; omega)) ?_; simp -dsimp [h1, q2, z3])
    have hF := ob hF; obtain ⟨o, ho14, hF⟩ := hF
    refine ALoop.goU ⟨[(0, .arr (List.map Vl.Ctor.c a)), (1, .arr (List.map Vl.Ctor.c b)), (5, .lit (.int .i64 (0 : Int)))], []⟩ (Gh.to (by simp) (by simp -dsimp) (by simp -dsimp) (by simp -dsimp)) ?_
    refine (C.laws_eqCtorS_l1 B hB1 hB2 a b 0 o ho14) _ rfl _ ?_
    rcases o with r0 | s
    · dsimp only at hF
      cases hF
      intro st h
      simpa using h
    · dsimp only at hF
      cases hF
      simp -dsimp
      repeat (refine chk.go (by first | omega | assumption | (simp_all; done) | (simp_all; omega)) ?_; simp -dsimp)

set_option maxRecDepth 100000 in
set_option maxHeartbeats 400000 in
theorem C.laws_eqData (B : Nat) (hB1 : 67108864 ≤ B) (hB2 : B ≤ 9223372036854775807) (a : Vl.Data) (b : Vl.Data) (r : Bool) (hF : F.laws_eqData a b = some r) : PureCall Try.prog B 51 [.agg [.lit (.string a.name), .arr (List.map Vl.Ctor.c a.ctors)], .agg [.lit (.string b.name), .arr (List.map Vl.Ctor.c b.ctors)]] (.lit (.bool r)) := by
  unfold F.laws_eqData at hF
  refine PureCall.enterLe Try.func51 (by kernel_rfl) rfl Try.ntmps51 (by simp) (by simp) ?_
  simp -dsimp
  repeat (refine chk.go (by first | omega | assumption | (simp_all; done) | (simp_all; omega)) ?_; simp -dsimp)
  refine abr.split (fun h1 => ?_) (fun h1 => ?_)
  · have q2 : ¬ (a.name.toList = b.name.toList) := by first | exact h1 | omega | (simpa using h1) | (simp at h1 ⊢; omega) | simp_all
    rw [if_neg q2] at hF
    cases hF
    simp -dsimp [h1, q2]
    repeat (refine chk.go (by first | omega | assumption | (simp_all; done) | (simp_all; omega)) ?_; simp -dsimp [h1, q2])
  · have q2 : (a.name.toList = b.name.toList) := by first | exact h1 | omega | (simpa using h1) | (simp at h1 ⊢; omega) | simp_all
    rw [if_pos q2] at hF
    simp -dsimp [h1, q2]
    repeat (refine chk.go (by first | omega | assumption | (simp_all; done) | (simp_all; omega)) ?_; simp -dsimp [h1, q2])
    have hF := ob hF; obtain ⟨v, e3, hF⟩ := hF
    refine ((C.laws_eqCtorS B hB1 hB2 a.ctors b.ctors v e3)).goW (by simp) (by simp) ?_
    simp -dsimp [h1, q2]
    repeat (refine chk.go (by first | omega | assumption | (simp_all; done) | (simp_all; omega)) ?_; simp -dsimp [h1, q2])
    refine abr.split (fun h4 => ?_) (fun h4 => ?_)
    · have q5 : ¬ (v = true) := by first | exact h4 | omega | (simpa using h4) | (simp at h4 ⊢; omega) | simp_all
      rw [if_neg q5] at hF
      cases hF
      simp -dsimp [h1, q2, h4, q5]
      repeat (refine chk.go (by first | omega | assumption | (simp_all; done) | (simp_all; omega)) ?_; simp -dsimp [h1, q2, h4, q5])
    · have q5 : (v = true) := by first | exact h4 | omega | (simpa using h4) | (simp at h4 ⊢; omega) | simp_all
      rw [if_pos q5] at hF
      cases hF
      simp -dsimp [h1, q2, h4, q5]
      repeat (refine chk.go (by first | omega | assumption | (simp_all; done) | (simp_all; omega)) ?_; simp -dsimp [h1, q2, h4, q5])

set_option maxRecDepth 100000 in
set_option maxHeartbeats 400000 in
theorem CC.laws_eqDataS_l1 (B : Nat) (hB1 : 67108864 ≤ B) (hB2 : B ≤ 9223372036854775807) (a : List Vl.Data) (b : List Vl.Data) : (∀ (i : Nat) (o : Lo Bool Unit), F.laws_eqDataS_l1 a b i = some o → ∀ (c : Code), navO [1, 1, 0, 1, 0, 0] (bodyOf Try.f19) = some c → ∀ (Q : Exit → ASt → Prop), o.post (fun r => ∀ st, Post Try.prog Try.f19 (fun r' _ => r'.le (.lit (.bool r))) .ret st → Q .ret st) (fun s => Q (.exit 0) ⟨[], []⟩) → ALoopU Try.prog B 0 27 (hold c .mk) ⟨[(0, .arr (List.map Vl.Data.c a)), (1, .arr (List.map Vl.Data.c b)), (5, .lit (.int .i64 (i : Int)))], []⟩ (hold Q .mk)) := by
  refine F.laws_eqDataS_l1.partial_correctness a b
    (fun i o => ∀ (c : Code), navO [1, 1, 0, 1, 0, 0] (bodyOf Try.f19) = some c → ∀ (Q : Exit → ASt → Prop), o.post (fun r => ∀ st, Post Try.prog Try.f19 (fun r' _ => r'.le (.lit (.bool r))) .ret st → Q .ret st) (fun s => Q (.exit 0) ⟨[], []⟩) → ALoopU Try.prog B 0 27 (hold c .mk) ⟨[(0, .arr (List.map Vl.Data.c a)), (1, .arr (List.map Vl.Data.c b)), (5, .lit (.int .i64 (i : Int)))], []⟩ (hold Q .mk))
    ?_
  · intro _f_laws_eqDataS_l1 ih_laws_eqDataS_l1 i o hF
    intro c hc Q hq
    obtain rfl : c = _ := navEq hc rfl
    refine ALoopU.know fun hk hs => ?_
    have b0 := hk 0
    simp -dsimp at b0
    have b1 := hk 1
    simp -dsimp at b1
    clear hk hs
    refine ALoopU.enter ?_
    simp -dsimp
    repeat (refine chk.go (by first | omega | assumption | (simp_all; done) | (simp_all; omega)) ?_; simp -dsimp)
    refine abr.split (fun h4 => ?_) (fun h4 => ?_)
    · have q5 : (i < a.length) := by first | exact h4 | omega | (simpa using h4) | (simp at h4 ⊢; omega) | simp_all
      have z6 : ((i : Int) < (a.length : Int)) := by first | omega | simp_all
      rw [if_pos q5] at hF
      simp -dsimp [h4, z6]
      repeat (refine chk.go (by first | omega | assumption | (simp_all; done) | (simp_all; omega)) ?_; simp -dsimp [h4, z6])
      refine ADraw.simple follows (by kernel_rfl) (by kernel_rfl) ?_
      have hF := ob hF; obtain ⟨x, e7, hF⟩ := hF
      have le7 := lt_of_get e7
      have hF := ob hF; obtain ⟨x8, e9, hF⟩ := hF
      have le9 := lt_of_get e9
      simp -dsimp [h4, z6, ↓e7, ↓e9]
      repeat (refine chk.go (by first | omega | assumption | (simp_all; done) | (simp_all; omega)) ?_; simp -dsimp [h4, z6, ↓e7, ↓e9])
      have hF := ob hF; obtain ⟨v, e10, hF⟩ := hF
      refine ((C.laws_eqData B hB1 hB2 x x8 v e10)).pgoW (by simp) (by simp) ?_
      simp -dsimp [h4, z6, ↓e7, ↓e9]
      repeat (refine chk.go (by first | omega | assumption | (simp_all; done) | (simp_all; omega)) ?_; simp -dsimp [h4, z6, ↓e7, ↓e9])
      refine abr.split (fun h11 => ?_) (fun h11 => ?_)
      · have q12 : ¬ (v = true) := by first | exact h11 | omega | (simpa using h11) | (simp at h11 ⊢; omega) | simp_all
        rw [if_neg q12] at hF
        cases hF
        simp -dsimp [h4, z6, ↓e7, ↓e9, h11, q12]
        repeat (refine chk.go (by first | omega | assumption | (simp_all; done) | (simp_all; omega)) ?_; simp -dsimp [h4, z6, ↓e7, ↓e9, h11, q12])
        refine Leave.go _ (Gh.refl _) (hq _ ?_)
        simp -dsimp [h4, z6, ↓e7, ↓e9, h11, q12]
        repeat (refine chk.go (by first | omega | assumption | (simp_all; done) | (simp_all; omega)) ?_; simp -dsimp [h4, z6, ↓e7, ↓e9, h11, q12])
      · have q12 : (v = true) := by first | exact h11 | omega | (simpa using h11) | (simp at h11 ⊢; omega) | simp_all
        rw [if_pos q12] at hF
        have w13 : IntKind.i64.wrap ((i : Int) + 1) = (i : Int) + 1 := wrap_in (by omega) (by omega)
        simp -dsimp [h4, z6, ↓e7, ↓e9, h11, q12, w13]
        repeat (refine chk.go (by first | omega | assumption | (simp_all; done) | (simp_all; omega)) ?_; simp -dsimp [h4, z6, ↓e7, ↓e9, h11, q12, w13])
        refine Again.go ⟨[(0, .arr (List.map Vl.Data.c a)), (1, .arr (List.map Vl.Data.c b)), (5, .lit (.int .i64 ((i + 1) : Int)))], []⟩ (Gh.to (by simp) (by simp -dsimp) (by simp -dsimp) (by simp -dsimp)) ?_
        exact (ih_laws_eqDataS_l1 (i + 1) o hF) _ rfl _ hq
    · have q5 : ¬ (i < a.length) := by first | exact h4 | omega | (simpa using h4) | (simp at h4 ⊢; omega) | simp_all
      have z6 : ¬ ((i : Int) < (a.length : Int)) := by first | omega | simp_all
      rw [if_neg q5] at hF
      cases hF
      simp -dsimp [h4, q5, z6]
      repeat (refine chk.go (by first | omega | assumption | (simp_all; done) | (simp_all; omega)) ?_; simp -dsimp [h4, q5, z6])
      refine Leave.go ⟨[], []⟩ (Gh.to (by simp) (by simp -dsimp) (by simp -dsimp) (by simp -dsimp)) ?_
      exact hq

theorem C.laws_eqDataS_l1 (B : Nat) (hB1 : 67108864 ≤ B) (hB2 : B ≤ 9223372036854775807) (a : List Vl.Data) (b : List Vl.Data) (i : Nat) (o : Lo Bool Unit) (hF : F.laws_eqDataS_l1 a b i = some o) : ∀ (c : Code), navO [1, 1, 0, 1, 0, 0] (bodyOf Try.f19) = some c → ∀ (Q : Exit → ASt → Prop), o.post (fun r => ∀ st, Post Try.prog Try.f19 (fun r' _ => r'.le (.lit (.bool r))) .ret st → Q .ret st) (fun s => Q (.exit 0) ⟨[], []⟩) → ALoopU Try.prog B 0 27 (hold c .mk) ⟨[(0, .arr (List.map Vl.Data.c a)), (1, .arr (List.map Vl.Data.c b)), (5, .lit (.int .i64 (i : Int)))], []⟩ (hold Q .mk) :=
  (CC.laws_eqDataS_l1 B hB1 hB2 a b) i o hF

set_option maxRecDepth 100000 in
set_option maxHeartbeats 400000 in
theorem C.laws_eqDataS (B : Nat) (hB1 : 67108864 ≤ B) (hB2 : B ≤ 9223372036854775807) (a : List Vl.Data) (b : List Vl.Data) (r : Bool) (hF : F.laws_eqDataS a b = some r) : PureCall Try.prog B 19 [.arr (List.map Vl.Data.c a), .arr (List.map Vl.Data.c b)] (.lit (.bool r)) := by
  unfold F.laws_eqDataS at hF
  refine PureCall.enterLe Try.func19 (by kernel_rfl) rfl Try.ntmps19 (by simp) (by simp) ?_
  simp -dsimp
  repeat (refine chk.go (by first | omega | assumption | (simp_all; done) | (simp_all; omega)) ?_; simp -dsimp)
  refine abr.split (fun h1 => ?_) (fun h1 => ?_)
  · have q2 : ¬ (a.length = b.length) := by first | exact h1 | omega | (simpa using h1) | (simp at h1 ⊢; omega) | simp_all
    have z3 : ¬ ((a.length : Int) = (b.length : Int)) := by first | omega | simp_all
    rw [if_neg q2] at hF
    cases hF
    simp -dsimp [h1, q2, z3]
    repeat (refine chk.go (by first | omega | assumption | (simp_all; done) | (simp_all; omega)) ?_; simp -dsimp [h1, q2, z3])
  · have q2 : (a.length = b.length) := by first | exact h1 | omega | (simpa using h1) | (simp at h1 ⊢; omega) | simp_all
    have z3 : ((a.length : Int) = (b.length : Int)) := by first | omega | simp_all
    rw [if_pos q2] at hF
    simp -dsimp [h1, q2, z3]
    repeat (refine chk.go (by first | omega | assumption | (simp_all; done) | (simp_all; omega)) ?_; simp -dsimp [h1, q2, z3])
    have hF := ob hF; obtain ⟨o, ho14, hF⟩ := hF
    refine ALoop.goU ⟨[(0, .arr (List.map Vl.Data.c a)), (1, .arr (List.map Vl.Data.c b)), (5, .lit (.int .i64 (0 : Int)))], []⟩ (Gh.to (by simp) (by simp -dsimp) (by simp -dsimp) (by simp -dsimp)) ?_
    refine (C.laws_eqDataS_l1 B hB1 hB2 a b 0 o ho14) _ rfl _ ?_
    rcases o with r0 | s
    · dsimp only at hF
      cases hF
      intro st h
      simpa using h
    · dsimp only at hF
      cases hF
      simp -dsimp
      repeat (refine chk.go (by first | omega | assumption | (simp_all; done) | (simp_all; omega)) ?_; simp -dsimp)

set_option maxRecDepth 100000 in
set_option maxHeartbeats 400000 in
theorem C.laws_FnExactTypeFits (B : Nat) (hB1 : 67108864 ≤ B) (hB2 : B ≤ 9223372036854775807) (aW : List Vl.Data) (aA : Vl.Ty) (aB : Vl.Ty) (r : Bool) (hF : F.laws_FnExactTypeFits aW aA aB = some r) : PureCall Try.prog B 4 [.arr (List.map Vl.Data.c aW), .agg [.lit (.int .i64 aA.data), .lit (.int .i64 aA.index)], .agg [.lit (.int .i64 aB.data), .lit (.int .i64 aB.index)]] (.lit (.bool r)) := by
  unfold F.laws_FnExactTypeFits at hF
  refine PureCall.enterLe Try.func4 (by kernel_rfl) rfl Try.ntmps4 (by simp) (by simp) ?_
  simp -dsimp
  repeat (refine chk.go (by first | omega | assumption | (simp_all; done) | (simp_all; omega)) ?_; simp -dsimp)
  have hF := ob hF; obtain ⟨v, e1, hF⟩ := hF
  refine ((C.laws_szDataS B hB1 hB2 aW (1048576 : Int) v e1)).goW (by simp) (by simp) ?_
  simp -dsimp
  repeat (refine chk.go (by first | omega | assumption | (simp_all; done) | (simp_all; omega)) ?_; simp -dsimp)
  refine abr.split (fun h2 => ?_) (fun h2 => ?_)
  · have q3 : (v < 0) := by first | exact h2 | omega | (simpa using h2) | (simp at h2 ⊢; omega) | simp_all
    rw [if_pos q3] at hF
    cases hF
    simp -dsimp [h2]
    repeat (refine chk.go (by first | omega | assumption | (simp_all; done) | (simp_all; omega)) ?_; simp -dsimp [h2])
  · have q3 : ¬ (v < 0) := by first | exact h2 | omega | (simpa using h2) | (simp at h2 ⊢; omega) | simp_all
    rw [if_neg q3] at hF
    simp -dsimp [h2, q3]
    repeat (refine chk.go (by first | omega | assumption | (simp_all; done) | (simp_all; omega)) ?_; simp -dsimp [h2, q3])
    refine ADraw.simple follows (by kernel_rfl) (by kernel_rfl) ?_
    simp -dsimp [h2, q3]
    repeat (refine chk.go (by first | omega | assumption | (simp_all; done) | (simp_all; omega)) ?_; simp -dsimp [h2, q3])
    have hF := ob hF; obtain ⟨v4, e5, hF⟩ := hF
    refine ((C.laws_toDataS B hB1 hB2 aW v4 e5)).pgoW (by simp) (by simp) ?_
    simp -dsimp [h2, q3]
    repeat (refine chk.go (by first | omega | assumption | (simp_all; done) | (simp_all; omega)) ?_; simp -dsimp [h2, q3])
    have hF := ob hF; obtain ⟨v6, e7, hF⟩ := hF
    refine ((C.laws_toType B hB1 hB2 aA v6 e7)).pgoW (by simp) (by simp) ?_
    simp -dsimp [h2, q3]
    repeat (refine chk.go (by first | omega | assumption | (simp_all; done) | (simp_all; omega)) ?_; simp -dsimp [h2, q3])
    have hF := ob hF; obtain ⟨v8, e9, hF⟩ := hF
    refine ((C.laws_toType B hB1 hB2 aB v8 e9)).pgoW (by simp) (by simp) ?_
    simp -dsimp [h2, q3]
    repeat (refine chk.go (by first | omega | assumption | (simp_all; done) | (simp_all; omega)) ?_; simp -dsimp [h2, q3])
    have hF := ob hF; obtain ⟨v10, e11, hF⟩ := hF
    refine ((C.spec_TypeFits B hB1 hB2 v4 v6 v8 v10 e11)).pgoW (by simp) (by simp) ?_
    simp -dsimp [h2, q3]
    repeat (refine chk.go (by first | omega | assumption | (simp_all; done) | (simp_all; omega)) ?_; simp -dsimp [h2, q3])
    have hF := ob hF; obtain ⟨v12, e13, hF⟩ := hF
    refine ((C.laws_toDataS B hB1 hB2 aW v12 e13)).goW (by simp) (by simp) ?_
    simp -dsimp [h2, q3]
    repeat (refine chk.go (by first | omega | assumption | (simp_all; done) | (simp_all; omega)) ?_; simp -dsimp [h2, q3])
    refine ADraw.simple follows (by kernel_rfl) (by kernel_rfl) ?_
    simp -dsimp [h2, q3]
    repeat (refine chk.go (by first | omega | assumption | (simp_all; done) | (simp_all; omega)) ?_; simp -dsimp [h2, q3])
    have hF := ob hF; obtain ⟨v14, e15, hF⟩ := hF
    refine ((C.laws_toType B hB1 hB2 aA v14 e15)).pgoW (by simp) (by simp) ?_
    simp -dsimp [h2, q3]
    repeat (refine chk.go (by first | omega | assumption | (simp_all; done) | (simp_all; omega)) ?_; simp -dsimp [h2, q3])
    have hF := ob hF; obtain ⟨v16, e17, hF⟩ := hF
    refine ((C.laws_toType B hB1 hB2 aB v16 e17)).pgoW (by simp) (by simp) ?_
    simp -dsimp [h2, q3]
    repeat (refine chk.go (by first | omega | assumption | (simp_all; done) | (simp_all; omega)) ?_; simp -dsimp [h2, q3])
    have hF := ob hF; obtain ⟨v18, e19, hF⟩ := hF
    refine ((C.impl_TypeFits B hB1 hB2 v12 v14 v16 v18 e19)).pgoW (by simp) (by simp) ?_
    simp -dsimp [h2, q3]
    repeat (refine chk.go (by first | omega | assumption | (simp_all; done) | (simp_all; omega)) ?_; simp -dsimp [h2, q3])
    refine abr.split (fun h20 => ?_) (fun h20 => ?_)
    · have q21 : ¬ (v18 = v10) := by first | exact h20 | omega | (simpa using h20) | (simp at h20 ⊢; omega) | simp_all
      rw [if_neg q21] at hF
      cases hF
      simp -dsimp [h2, q3, h20, q21]
      repeat (refine chk.go (by first | omega | assumption | (simp_all; done) | (simp_all; omega)) ?_; simp -dsimp [h2, q3, h20, q21])
    · have q21 : (v18 = v10) := by first | exact h20 | omega | (simpa using h20) | (simp at h20 ⊢; omega) | simp_all
      rw [if_pos q21] at hF
      simp -dsimp [h2, q3, h20, q21]
      repeat (refine chk.go (by first | omega | assumption | (simp_all; done) | (simp_all; omega)) ?_; simp -dsimp [h2, q3, h20, q21])
      have hF := ob hF; obtain ⟨v22, e23, hF⟩ := hF
      refine ((C.laws_toDataS B hB1 hB2 aW v22 e23)).goW (by simp) (by simp) ?_
      simp -dsimp [h2, q3, h20, q21]
      repeat (refine chk.go (by first | omega | assumption | (simp_all; done) | (simp_all; omega)) ?_; simp -dsimp [h2, q3, h20, q21])
      have hF := ob hF; obtain ⟨v24, e25, hF⟩ := hF
      refine ((C.laws_eqDataS B hB1 hB2 v12 v22 v24 e25)).goW (by simp) (by simp) ?_
      simp -dsimp [h2, q3, h20, q21]
      repeat (refine chk.go (by first | omega | assumption | (simp_all; done) | (simp_all; omega)) ?_; simp -dsimp [h2, q3, h20, q21])
      refine abr.split (fun h26 => ?_) (fun h26 => ?_)
      · have q27 : ¬ (v24 = true) := by first | exact h26 | omega | (simpa using h26) | (simp at h26 ⊢; omega) | simp_all
        rw [if_neg q27] at hF
        cases hF
        simp -dsimp [h2, q3, h20, q21, h26, q27]
        repeat (refine chk.go (by first | omega | assumption | (simp_all; done) | (simp_all; omega)) ?_; simp -dsimp [h2, q3, h20, q21, h26, q27])
      · have q27 : (v24 = true) := by first | exact h26 | omega | (simpa using h26) | (simp at h26 ⊢; omega) | simp_all
        rw [if_pos q27] at hF
        cases hF
        simp -dsimp [h2, q3, h20, q21, h26, q27]
        repeat (refine chk.go (by first | omega | assumption | (simp_all; done) | (simp_all; omega)) ?_; simp -dsimp [h2, q3, h20, q21, h26, q27])
end Go.Proofs.Ytoacjahdkkdffaa
