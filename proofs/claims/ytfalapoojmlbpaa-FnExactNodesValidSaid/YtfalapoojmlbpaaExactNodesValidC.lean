/- The contracts: the code computes the functions (printed by gen.py). -/
import Derived.Test.YtfalapoojmlbpaaProg
import Derived.Test.YtfalapoojmlbpaaExactNodesValidF
namespace Go.Proofs.Ytfalapoojmlbpaa
open Go Go.Proofs Go.Vl
set_option linter.unusedSimpArgs false
set_option linter.unusedVariables false

attribute [local irreducible] chk abr ACall ALoop ALoopU ADraw Again Leave PCallA PCall Post awp aops PureCall hold

theorem follows : Try.prog.follows .mixedOrders = true := by kernel_rfl
@[simp] theorem ti2 : tiOf Try.prog 2 = some ⟨.word, 1, [.int .i64 0]⟩ := by kernel_rfl
@[simp] theorem ti3 : tiOf Try.prog 3 = some ⟨.word, 1, [.int .i64 0]⟩ := by kernel_rfl
@[simp] theorem ti4 : tiOf Try.prog 4 = some ⟨.word, 1, [.bool false]⟩ := by kernel_rfl
@[simp] theorem ti5 : tiOf Try.prog 5 = some ⟨.word, 1, [.int .u8 0]⟩ := by kernel_rfl
@[simp] theorem ti32 : tiOf Try.prog 32 = some ⟨.slice 1 8 [.int .i64 0], 1, [.slice none 0 0]⟩ := by kernel_rfl
@[simp] theorem ti50 : tiOf Try.prog 50 = some ⟨.slice 6 96 [.int .i64 0, .int .i64 0, .slice none 0 0, .slice none 0 0, .slice none 0 0, .int .i64 0], 1, [.slice none 0 0]⟩ := by kernel_rfl
@[simp] theorem ti53 : tiOf Try.prog 53 = some ⟨.slice 6 96 [.int .i64 0, .int .i64 0, .slice none 0 0, .slice none 0 0, .slice none 0 0, .int .i64 0], 1, [.slice none 0 0]⟩ := by kernel_rfl
@[simp] theorem ti57 : tiOf Try.prog 57 = some ⟨.slice 2 32 [.int .i64 0, .slice none 0 0], 1, [.slice none 0 0]⟩ := by kernel_rfl
@[simp] theorem ti64 : tiOf Try.prog 64 = some ⟨.slice 2 32 [.int .i64 0, .slice none 0 0], 1, [.slice none 0 0]⟩ := by kernel_rfl
@[simp] theorem ti88 : tiOf Try.prog 88 = some ⟨.slice 4 32 [.int .i64 0, .int .i64 0, .int .i64 0, .int .i64 0], 1, [.slice none 0 0]⟩ := by kernel_rfl
@[simp] theorem ti90 : tiOf Try.prog 90 = some ⟨.struct [(0, 1), (1, 1), (2, 1), (3, 1), (4, 1), (5, 1)], 6, [.int .i64 0, .int .i64 0, .slice none 0 0, .slice none 0 0, .slice none 0 0, .int .i64 0]⟩ := by kernel_rfl
@[simp] theorem ti91 : tiOf Try.prog 91 = some ⟨.slice 4 32 [.int .i64 0, .int .i64 0, .int .i64 0, .int .i64 0], 1, [.slice none 0 0]⟩ := by kernel_rfl
@[simp] theorem ti93 : tiOf Try.prog 93 = some ⟨.struct [(0, 1), (1, 1), (2, 1), (3, 1), (4, 1), (5, 1)], 6, [.int .i64 0, .int .i64 0, .slice none 0 0, .slice none 0 0, .slice none 0 0, .int .i64 0]⟩ := by kernel_rfl
@[simp] theorem ti96 : tiOf Try.prog 96 = some ⟨.struct [(0, 1), (1, 1), (2, 1), (3, 1)], 4, [.int .i64 0, .int .i64 0, .int .i64 0, .int .i64 0]⟩ := by kernel_rfl
@[simp] theorem ti121 : tiOf Try.prog 121 = some ⟨.struct [(0, 1), (1, 1)], 2, [.int .i64 0, .slice none 0 0]⟩ := by kernel_rfl
@[simp] theorem ti125 : tiOf Try.prog 125 = some ⟨.struct [(0, 1), (1, 1)], 2, [.int .i64 0, .slice none 0 0]⟩ := by kernel_rfl
@[simp] theorem ti131 : tiOf Try.prog 131 = some ⟨.struct [(0, 1), (1, 1), (2, 1), (3, 1)], 4, [.int .i64 0, .int .i64 0, .int .i64 0, .int .i64 0]⟩ := by kernel_rfl
attribute [simp] Try.underlying2 Try.underlying3 Try.underlying4 Try.underlying5 Try.underlying32 Try.underlying50 Try.underlying53 Try.underlying57 Try.underlying64 Try.underlying88 Try.underlying91 Try.results6 Try.results15 Try.results26 Try.results27 Try.results28 Try.results29 Try.results30 Try.results49 Try.results50 Try.results51 Try.results52 Try.results53 Try.results54 Try.results55 Try.results56 Try.results57 Try.results60 Try.results61 Try.results65 Try.results68 Try.results69 Try.results70 Try.results71 Try.results72 Try.results74 Try.results76 Try.results78 Try.results79

set_option maxRecDepth 100000 in
set_option maxHeartbeats 400000 in
theorem C.laws_szIntS (B : Nat) (hB1 : 67108864 ≤ B) (hB2 : B ≤ 9223372036854775807) (a : List Int) (left' : Int) (r : Int) (hF : F.laws_szIntS a left' = some r) : PureCall Try.prog B 57 [.arr (List.map cI a), .lit (.int .i64 left')] (.lit (.int .i64 r)) := by
  unfold F.laws_szIntS at hF
  refine PureCall.enterLe Try.func57 (by kernel_rfl) rfl Try.ntmps57 (by simp) (by simp) ?_
  simp -dsimp
  repeat (refine chk.go (by first | omega | assumption | (simp_all; done) | (simp_all; omega)) ?_; simp -dsimp)
  refine abr.split (fun h1 => ?_) (fun h1 => ?_)
  · have q2 : (IntKind.i64.wrap (left' - (a.length : Int)) < 0) := by first | exact h1 | omega | (simpa using h1) | (simp at h1 ⊢; omega) | simp_all
    rw [if_pos q2] at hF
    cases hF
    simp -dsimp [h1]
    repeat (refine chk.go (by first | omega | assumption | (simp_all; done) | (simp_all; omega)) ?_; simp -dsimp [h1])
  · have q2 : ¬ (IntKind.i64.wrap (left' - (a.length : Int)) < 0) := by first | exact h1 | omega | (simpa using h1) | (simp at h1 ⊢; omega) | simp_all
    rw [if_neg q2] at hF
    cases hF
    simp -dsimp [h1, q2]
    repeat (refine chk.go (by first | omega | assumption | (simp_all; done) | (simp_all; omega)) ?_; simp -dsimp [h1, q2])

set_option maxRecDepth 100000 in
set_option maxHeartbeats 400000 in
theorem C.laws_szPathBind (B : Nat) (hB1 : 67108864 ≤ B) (hB2 : B ≤ 9223372036854775807) (a : Vl.PathBind) (left' : Int) (r : Int) (hF : F.laws_szPathBind a left' = some r) : PureCall Try.prog B 72 [.agg [.lit (.int .i64 a.var), .arr (List.map cI a.path)], .lit (.int .i64 left')] (.lit (.int .i64 r)) := by
  unfold F.laws_szPathBind at hF
  refine PureCall.enterLe Try.func72 (by kernel_rfl) rfl Try.ntmps72 (by simp) (by simp) ?_
  simp -dsimp
  repeat (refine chk.go (by first | omega | assumption | (simp_all; done) | (simp_all; omega)) ?_; simp -dsimp)
  have hF := ob hF; obtain ⟨v, e1, hF⟩ := hF
  refine ((C.laws_szIntS B hB1 hB2 a.path left' v e1)).goW (by simp) (by simp) ?_
  simp -dsimp
  repeat (refine chk.go (by first | omega | assumption | (simp_all; done) | (simp_all; omega)) ?_; simp -dsimp)
  refine abr.split (fun h2 => ?_) (fun h2 => ?_)
  · have q3 : (v < 0) := by first | exact h2 | omega | (simpa using h2) | (simp at h2 ⊢; omega) | simp_all
    rw [if_pos q3] at hF
    cases hF
    simp -dsimp [h2]
    repeat (refine chk.go (by first | omega | assumption | (simp_all; done) | (simp_all; omega)) ?_; simp -dsimp [h2])
  · have q3 : ¬ (v < 0) := by first | exact h2 | omega | (simpa using h2) | (simp at h2 ⊢; omega) | simp_all
    rw [if_neg q3] at hF
    cases hF
    simp -dsimp [h2, q3]
    repeat (refine chk.go (by first | omega | assumption | (simp_all; done) | (simp_all; omega)) ?_; simp -dsimp [h2, q3])

set_option maxRecDepth 100000 in
set_option maxHeartbeats 400000 in
theorem CC.laws_szPathBindS_l1 (B : Nat) (hB1 : 67108864 ≤ B) (hB2 : B ≤ 9223372036854775807) (a : List Vl.PathBind) : (∀ (left'3 : Int) (i : Nat) (o : Lo Int Int), F.laws_szPathBindS_l1 a left'3 i = some o → ∀ (c : Code), navO [1, 1, 1, 0, 1, 0, 0] (bodyOf Try.f56) = some c → ∀ (Q : Exit → ASt → Prop), o.post (fun r => ∀ st, Post Try.prog Try.f56 (fun r' _ => r'.le (.lit (.int .i64 r))) .ret st → Q .ret st) (fun s => Q (.exit 0) ⟨[(1, .lit (.int .i64 s))], []⟩) → ALoopU Try.prog B 0 27 (hold c .mk) ⟨[(0, .arr (List.map Vl.PathBind.c a)), (1, .lit (.int .i64 left'3)), (5, .lit (.int .i64 (i : Int)))], []⟩ (hold Q .mk)) := by
  refine F.laws_szPathBindS_l1.partial_correctness a
    (fun left'3 i o => ∀ (c : Code), navO [1, 1, 1, 0, 1, 0, 0] (bodyOf Try.f56) = some c → ∀ (Q : Exit → ASt → Prop), o.post (fun r => ∀ st, Post Try.prog Try.f56 (fun r' _ => r'.le (.lit (.int .i64 r))) .ret st → Q .ret st) (fun s => Q (.exit 0) ⟨[(1, .lit (.int .i64 s))], []⟩) → ALoopU Try.prog B 0 27 (hold c .mk) ⟨[(0, .arr (List.map Vl.PathBind.c a)), (1, .lit (.int .i64 left'3)), (5, .lit (.int .i64 (i : Int)))], []⟩ (hold Q .mk))
    ?_
  · intro _f_laws_szPathBindS_l1 ih_laws_szPathBindS_l1 left'3 i o hF
    intro c hc Q hq
    obtain rfl : c = _ := navEq hc rfl
    refine ALoopU.know fun hk hs => ?_
    have b0 := hk 0
    simp -dsimp at b0
    clear hk hs
    refine ALoopU.enter ?_
    simp -dsimp
    repeat (refine chk.go (by first | omega | assumption | (simp_all; done) | (simp_all; omega)) ?_; simp -dsimp)
    refine abr.split (fun h4 => ?_) (fun h4 => ?_)
    · have q5 : (i < a.length) := by first | exact h4 | omega | (simpa using h4) | (simp at h4 ⊢; omega) | simp_all
      have z6 : ((i : Int) < (a.length : Int)) := by first | omega | simp_all
      rw [if_pos q5] at hF
      have hF := ob hF; obtain ⟨x, e7, hF⟩ := hF
      have le7 := lt_of_get e7
      simp -dsimp [h4, z6, ↓e7]
      repeat (refine chk.go (by first | omega | assumption | (simp_all; done) | (simp_all; omega)) ?_; simp -dsimp [h4, z6, ↓e7])
      have hF := ob hF; obtain ⟨v, e8, hF⟩ := hF
      refine ((C.laws_szPathBind B hB1 hB2 x left'3 v e8)).goW (by simp) (by simp) ?_
      simp -dsimp [h4, z6, ↓e7]
      repeat (refine chk.go (by first | omega | assumption | (simp_all; done) | (simp_all; omega)) ?_; simp -dsimp [h4, z6, ↓e7])
      refine abr.split (fun h9 => ?_) (fun h9 => ?_)
      · have q10 : (v < 0) := by first | exact h9 | omega | (simpa using h9) | (simp at h9 ⊢; omega) | simp_all
        rw [if_pos q10] at hF
        cases hF
        simp -dsimp [h4, z6, ↓e7, h9]
        repeat (refine chk.go (by first | omega | assumption | (simp_all; done) | (simp_all; omega)) ?_; simp -dsimp [h4, z6, ↓e7, h9])
        refine Leave.go _ (Gh.refl _) (hq _ ?_)
        simp -dsimp [h4, z6, ↓e7, h9]
        repeat (refine chk.go (by first | omega | assumption | (simp_all; done) | (simp_all; omega)) ?_; simp -dsimp [h4, z6, ↓e7, h9])
      · have q10 : ¬ (v < 0) := by first | exact h9 | omega | (simpa using h9) | (simp at h9 ⊢; omega) | simp_all
        rw [if_neg q10] at hF
        have w11 : IntKind.i64.wrap ((i : Int) + 1) = (i : Int) + 1 := wrap_in (by omega) (by omega)
        simp -dsimp [h4, z6, ↓e7, h9, q10, w11]
        repeat (refine chk.go (by first | omega | assumption | (simp_all; done) | (simp_all; omega)) ?_; simp -dsimp [h4, z6, ↓e7, h9, q10, w11])
        refine Again.go ⟨[(0, .arr (List.map Vl.PathBind.c a)), (1, .lit (.int .i64 v)), (5, .lit (.int .i64 ((i + 1) : Int)))], []⟩ (Gh.to (by simp) (by simp -dsimp) (by simp -dsimp) (by simp -dsimp)) ?_
        exact (ih_laws_szPathBindS_l1 v (i + 1) o hF) _ rfl _ hq
    · have q5 : ¬ (i < a.length) := by first | exact h4 | omega | (simpa using h4) | (simp at h4 ⊢; omega) | simp_all
      have z6 : ¬ ((i : Int) < (a.length : Int)) := by first | omega | simp_all
      rw [if_neg q5] at hF
      cases hF
      simp -dsimp [h4, q5, z6]
      repeat (refine chk.go (by first | omega | assumption | (simp_all; done) | (simp_all; omega)) ?_; simp -dsimp [h4, q5, z6])
      refine Leave.go ⟨[(1, .lit (.int .i64 left'3))], []⟩ (Gh.to (by simp) (by simp -dsimp) (by simp -dsimp) (by simp -dsimp)) ?_
      exact hq

theorem C.laws_szPathBindS_l1 (B : Nat) (hB1 : 67108864 ≤ B) (hB2 : B ≤ 9223372036854775807) (a : List Vl.PathBind) (left'3 : Int) (i : Nat) (o : Lo Int Int) (hF : F.laws_szPathBindS_l1 a left'3 i = some o) : ∀ (c : Code), navO [1, 1, 1, 0, 1, 0, 0] (bodyOf Try.f56) = some c → ∀ (Q : Exit → ASt → Prop), o.post (fun r => ∀ st, Post Try.prog Try.f56 (fun r' _ => r'.le (.lit (.int .i64 r))) .ret st → Q .ret st) (fun s => Q (.exit 0) ⟨[(1, .lit (.int .i64 s))], []⟩) → ALoopU Try.prog B 0 27 (hold c .mk) ⟨[(0, .arr (List.map Vl.PathBind.c a)), (1, .lit (.int .i64 left'3)), (5, .lit (.int .i64 (i : Int)))], []⟩ (hold Q .mk) :=
  (CC.laws_szPathBindS_l1 B hB1 hB2 a) left'3 i o hF

set_option maxRecDepth 100000 in
set_option maxHeartbeats 400000 in
theorem C.laws_szPathBindS (B : Nat) (hB1 : 67108864 ≤ B) (hB2 : B ≤ 9223372036854775807) (a : List Vl.PathBind) (left' : Int) (r : Int) (hF : F.laws_szPathBindS a left' = some r) : PureCall Try.prog B 56 [.arr (List.map Vl.PathBind.c a), .lit (.int .i64 left')] (.lit (.int .i64 r)) := by
  unfold F.laws_szPathBindS at hF
  refine PureCall.enterLe Try.func56 (by kernel_rfl) rfl Try.ntmps56 (by simp) (by simp) ?_
  simp -dsimp
  repeat (refine chk.go (by first | omega | assumption | (simp_all; done) | (simp_all; omega)) ?_; simp -dsimp)
  refine abr.split (fun h1 => ?_) (fun h1 => ?_)
  · have q2 : (IntKind.i64.wrap (left' - (a.length : Int)) < 0) := by first | exact h1 | omega | (simpa using h1) | (simp at h1 ⊢; omega) | simp_all
    rw [if_pos q2] at hF
    cases hF
    simp -dsimp [h1]
    repeat (refine chk.go (by first | omega | assumption | (simp_all; done) | (simp_all; omega)) ?_; simp -dsimp [h1])
  · have q2 : ¬ (IntKind.i64.wrap (left' - (a.length : Int)) < 0) := by first | exact h1 | omega | (simpa using h1) | (simp at h1 ⊢; omega) | simp_all
    rw [if_neg q2] at hF
    simp -dsimp [h1, q2]
    repeat (refine chk.go (by first | omega | assumption | (simp_all; done) | (simp_all; omega)) ?_; simp -dsimp [h1, q2])
    have hF := ob hF; obtain ⟨o, ho12, hF⟩ := hF
    refine ALoop.goU ⟨[(0, .arr (List.map Vl.PathBind.c a)), (1, .lit (.int .i64 (IntKind.i64.wrap (left' - (a.length : Int))))), (5, .lit (.int .i64 (0 : Int)))], []⟩ (Gh.to (by simp) (by simp -dsimp) (by simp -dsimp) (by simp -dsimp)) ?_
    refine (C.laws_szPathBindS_l1 B hB1 hB2 a (IntKind.i64.wrap (left' - (a.length : Int))) 0 o ho12) _ rfl _ ?_
    rcases o with r0 | s
    · dsimp only at hF
      cases hF
      intro st h
      simpa using h
    · dsimp only at hF
      cases hF
      simp -dsimp
      repeat (refine chk.go (by first | omega | assumption | (simp_all; done) | (simp_all; omega)) ?_; simp -dsimp)

set_option maxRecDepth 100000 in
set_option maxHeartbeats 400000 in
theorem C.laws_szEdgeS (B : Nat) (hB1 : 67108864 ≤ B) (hB2 : B ≤ 9223372036854775807) (a : List Vl.Edge) (left' : Int) (r : Int) (hF : F.laws_szEdgeS a left' = some r) : PureCall Try.prog B 68 [.arr (List.map Vl.Edge.c a), .lit (.int .i64 left')] (.lit (.int .i64 r)) := by
  unfold F.laws_szEdgeS at hF
  refine PureCall.enterLe Try.func68 (by kernel_rfl) rfl Try.ntmps68 (by simp) (by simp) ?_
  simp -dsimp
  repeat (refine chk.go (by first | omega | assumption | (simp_all; done) | (simp_all; omega)) ?_; simp -dsimp)
  refine abr.split (fun h1 => ?_) (fun h1 => ?_)
  · have q2 : (IntKind.i64.wrap (left' - (a.length : Int)) < 0) := by first | exact h1 | omega | (simpa using h1) | (simp at h1 ⊢; omega) | simp_all
    rw [if_pos q2] at hF
    cases hF
    simp -dsimp [h1]
    repeat (refine chk.go (by first | omega | assumption | (simp_all; done) | (simp_all; omega)) ?_; simp -dsimp [h1])
  · have q2 : ¬ (IntKind.i64.wrap (left' - (a.length : Int)) < 0) := by first | exact h1 | omega | (simpa using h1) | (simp at h1 ⊢; omega) | simp_all
    rw [if_neg q2] at hF
    cases hF
    simp -dsimp [h1, q2]
    repeat (refine chk.go (by first | omega | assumption | (simp_all; done) | (simp_all; omega)) ?_; simp -dsimp [h1, q2])

set_option maxRecDepth 100000 in
set_option maxHeartbeats 400000 in
theorem C.laws_szNode (B : Nat) (hB1 : 67108864 ≤ B) (hB2 : B ≤ 9223372036854775807) (a : Vl.Node) (left' : Int) (r : Int) (hF : F.laws_szNode a left' = some r) : PureCall Try.prog B 49 [.agg [.lit (.int .i64 a.op), .lit (.int .i64 a.clause), .arr (List.map Vl.PathBind.c a.binds), .arr (List.map cI a.path), .arr (List.map Vl.Edge.c a.edges), .lit (.int .i64 a.els)], .lit (.int .i64 left')] (.lit (.int .i64 r)) := by
  unfold F.laws_szNode at hF
  refine PureCall.enterLe Try.func49 (by kernel_rfl) rfl Try.ntmps49 (by simp) (by simp) ?_
  simp -dsimp
  repeat (refine chk.go (by first | omega | assumption | (simp_all; done) | (simp_all; omega)) ?_; simp -dsimp)
  have hF := ob hF; obtain ⟨v, e1, hF⟩ := hF
  refine ((C.laws_szPathBindS B hB1 hB2 a.binds left' v e1)).goW (by simp) (by simp) ?_
  simp -dsimp
  repeat (refine chk.go (by first | omega | assumption | (simp_all; done) | (simp_all; omega)) ?_; simp -dsimp)
  refine abr.split (fun h2 => ?_) (fun h2 => ?_)
  · have q3 : (v < 0) := by first | exact h2 | omega | (simpa using h2) | (simp at h2 ⊢; omega) | simp_all
    rw [if_pos q3] at hF
    cases hF
    simp -dsimp [h2]
    repeat (refine chk.go (by first | omega | assumption | (simp_all; done) | (simp_all; omega)) ?_; simp -dsimp [h2])
  · have q3 : ¬ (v < 0) := by first | exact h2 | omega | (simpa using h2) | (simp at h2 ⊢; omega) | simp_all
    rw [if_neg q3] at hF
    simp -dsimp [h2, q3]
    repeat (refine chk.go (by first | omega | assumption | (simp_all; done) | (simp_all; omega)) ?_; simp -dsimp [h2, q3])
    have hF := ob hF; obtain ⟨v4, e5, hF⟩ := hF
    refine ((C.laws_szIntS B hB1 hB2 a.path v v4 e5)).goW (by simp) (by simp) ?_
    simp -dsimp [h2, q3]
    repeat (refine chk.go (by first | omega | assumption | (simp_all; done) | (simp_all; omega)) ?_; simp -dsimp [h2, q3])
    refine abr.split (fun h6 => ?_) (fun h6 => ?_)
    · have q7 : (v4 < 0) := by first | exact h6 | omega | (simpa using h6) | (simp at h6 ⊢; omega) | simp_all
      rw [if_pos q7] at hF
      cases hF
      simp -dsimp [h2, q3, h6]
      repeat (refine chk.go (by first | omega | assumption | (simp_all; done) | (simp_all; omega)) ?_; simp -dsimp [h2, q3, h6])
    · have q7 : ¬ (v4 < 0) := by first | exact h6 | omega | (simpa using h6) | (simp at h6 ⊢; omega) | simp_all
      rw [if_neg q7] at hF
      simp -dsimp [h2, q3, h6, q7]
      repeat (refine chk.go (by first | omega | assumption | (simp_all; done) | (simp_all; omega)) ?_; simp -dsimp [h2, q3, h6, q7])
      have hF := ob hF; obtain ⟨v8, e9, hF⟩ := hF
      refine ((C.laws_szEdgeS B hB1 hB2 a.edges v4 v8 e9)).goW (by simp) (by simp) ?_
      simp -dsimp [h2, q3, h6, q7]
      repeat (refine chk.go (by first | omega | assumption | (simp_all; done) | (simp_all; omega)) ?_; simp -dsimp [h2, q3, h6, q7])
      refine abr.split (fun h10 => ?_) (fun h10 => ?_)
      · have q11 : (v8 < 0) := by first | exact h10 | omega | (simpa using h10) | (simp at h10 ⊢; omega) | simp_all
        rw [if_pos q11] at hF
        cases hF
        simp -dsimp [h2, q3, h6, q7, h10]
        repeat (refine chk.go (by first | omega | assumption | (simp_all; done) | (simp_all; omega)) ?_; simp -dsimp [h2, q3, h6, q7, h10])
      · have q11 : ¬ (v8 < 0) := by first | exact h10 | omega | (simpa using h10) | (simp at h10 ⊢; omega) | simp_all
        rw [if_neg q11] at hF
        cases hF
        simp -dsimp [h2, q3, h6, q7, h10, q11]
        repeat (refine chk.go (by first | omega | assumption | (simp_all; done) | (simp_all; omega)) ?_; simp -dsimp [h2, q3, h6, q7, h10, q11])

set_option maxRecDepth 100000 in
set_option maxHeartbeats 400000 in
theorem CC.laws_szNodeS_l1 (B : Nat) (hB1 : 67108864 ≤ B) (hB2 : B ≤ 9223372036854775807) (a : List Vl.Node) : (∀ (left'3 : Int) (i : Nat) (o : Lo Int Int), F.laws_szNodeS_l1 a left'3 i = some o → ∀ (c : Code), navO [1, 1, 1, 0, 1, 0, 0] (bodyOf Try.f26) = some c → ∀ (Q : Exit → ASt → Prop), o.post (fun r => ∀ st, Post Try.prog Try.f26 (fun r' _ => r'.le (.lit (.int .i64 r))) .ret st → Q .ret st) (fun s => Q (.exit 0) ⟨[(1, .lit (.int .i64 s))], []⟩) → ALoopU Try.prog B 0 27 (hold c .mk) ⟨[(0, .arr (List.map Vl.Node.c a)), (1, .lit (.int .i64 left'3)), (5, .lit (.int .i64 (i : Int)))], []⟩ (hold Q .mk)) := by
  refine F.laws_szNodeS_l1.partial_correctness a
    (fun left'3 i o => ∀ (c : Code), navO [1, 1, 1, 0, 1, 0, 0] (bodyOf Try.f26) = some c → ∀ (Q : Exit → ASt → Prop), o.post (fun r => ∀ st, Post Try.prog Try.f26 (fun r' _ => r'.le (.lit (.int .i64 r))) .ret st → Q .ret st) (fun s => Q (.exit 0) ⟨[(1, .lit (.int .i64 s))], []⟩) → ALoopU Try.prog B 0 27 (hold c .mk) ⟨[(0, .arr (List.map Vl.Node.c a)), (1, .lit (.int .i64 left'3)), (5, .lit (.int .i64 (i : Int)))], []⟩ (hold Q .mk))
    ?_
  · intro _f_laws_szNodeS_l1 ih_laws_szNodeS_l1 left'3 i o hF
    intro c hc Q hq
    obtain rfl : c = _ := navEq hc rfl
    refine ALoopU.know fun hk hs => ?_
    have b0 := hk 0
    simp -dsimp at b0
    clear hk hs
    refine ALoopU.enter ?_
    simp -dsimp
    repeat (refine chk.go (by first | omega | assumption | (simp_all; done) | (simp_all; omega)) ?_; simp -dsimp)
    refine abr.split (fun h4 => ?_) (fun h4 => ?_)
    · have q5 : (i < a.length) := by first | exact h4 | omega | (simpa using h4) | (simp at h4 ⊢; omega) | simp_all
      have z6 : ((i : Int) < (a.length : Int)) := by first | omega | simp_all
      rw [if_pos q5] at hF
      have hF := ob hF; obtain ⟨x, e7, hF⟩ := hF
      have le7 := lt_of_get e7
      simp -dsimp [h4, z6, ↓e7]
      repeat (refine chk.go (by first | omega | assumption | (simp_all; done) | (simp_all; omega)) ?_; simp -dsimp [h4, z6, ↓e7])
      have hF := ob hF; obtain ⟨v, e8, hF⟩ := hF
      refine ((C.laws_szNode B hB1 hB2 x left'3 v e8)).goW (by simp) (by simp) ?_
      simp -dsimp [h4, z6, ↓e7]
      repeat (refine chk.go (by first | omega | assumption | (simp_all; done) | (simp_all; omega)) ?_; simp -dsimp [h4, z6, ↓e7])
      refine abr.split (fun h9 => ?_) (fun h9 => ?_)
      · have q10 : (v < 0) := by first | exact h9 | omega | (simpa using h9) | (simp at h9 ⊢; omega) | simp_all
        rw [if_pos q10] at hF
        cases hF
        simp -dsimp [h4, z6, ↓e7, h9]
        repeat (refine chk.go (by first | omega | assumption | (simp_all; done) | (simp_all; omega)) ?_; simp -dsimp [h4, z6, ↓e7, h9])
        refine Leave.go _ (Gh.refl _) (hq _ ?_)
        simp -dsimp [h4, z6, ↓e7, h9]
        repeat (refine chk.go (by first | omega | assumption | (simp_all; done) | (simp_all; omega)) ?_; simp -dsimp [h4, z6, ↓e7, h9])
      · have q10 : ¬ (v < 0) := by first | exact h9 | omega | (simpa using h9) | (simp at h9 ⊢; omega) | simp_all
        rw [if_neg q10] at hF
        have w11 : IntKind.i64.wrap ((i : Int) + 1) = (i : Int) + 1 := wrap_in (by omega) (by omega)
        simp -dsimp [h4, z6, ↓e7, h9, q10, w11]
        repeat (refine chk.go (by first | omega | assumption | (simp_all; done) | (simp_all; omega)) ?_; simp -dsimp [h4, z6, ↓e7, h9, q10, w11])
        refine Again.go ⟨[(0, .arr (List.map Vl.Node.c a)), (1, .lit (.int .i64 v)), (5, .lit (.int .i64 ((i + 1) : Int)))], []⟩ (Gh.to (by simp) (by simp -dsimp) (by simp -dsimp) (by simp -dsimp)) ?_
        exact (ih_laws_szNodeS_l1 v (i + 1) o hF) _ rfl _ hq
    · have q5 : ¬ (i < a.length) := by first | exact h4 | omega | (simpa using h4) | (simp at h4 ⊢; omega) | simp_all
      have z6 : ¬ ((i : Int) < (a.length : Int)) := by first | omega | simp_all
      rw [if_neg q5] at hF
      cases hF
      simp -dsimp [h4, q5, z6]
      repeat (refine chk.go (by first | omega | assumption | (simp_all; done) | (simp_all; omega)) ?_; simp -dsimp [h4, q5, z6])
      refine Leave.go ⟨[(1, .lit (.int .i64 left'3))], []⟩ (Gh.to (by simp) (by simp -dsimp) (by simp -dsimp) (by simp -dsimp)) ?_
      exact hq

theorem C.laws_szNodeS_l1 (B : Nat) (hB1 : 67108864 ≤ B) (hB2 : B ≤ 9223372036854775807) (a : List Vl.Node) (left'3 : Int) (i : Nat) (o : Lo Int Int) (hF : F.laws_szNodeS_l1 a left'3 i = some o) : ∀ (c : Code), navO [1, 1, 1, 0, 1, 0, 0] (bodyOf Try.f26) = some c → ∀ (Q : Exit → ASt → Prop), o.post (fun r => ∀ st, Post Try.prog Try.f26 (fun r' _ => r'.le (.lit (.int .i64 r))) .ret st → Q .ret st) (fun s => Q (.exit 0) ⟨[(1, .lit (.int .i64 s))], []⟩) → ALoopU Try.prog B 0 27 (hold c .mk) ⟨[(0, .arr (List.map Vl.Node.c a)), (1, .lit (.int .i64 left'3)), (5, .lit (.int .i64 (i : Int)))], []⟩ (hold Q .mk) :=
  (CC.laws_szNodeS_l1 B hB1 hB2 a) left'3 i o hF

set_option maxRecDepth 100000 in
set_option maxHeartbeats 400000 in
theorem C.laws_szNodeS (B : Nat) (hB1 : 67108864 ≤ B) (hB2 : B ≤ 9223372036854775807) (a : List Vl.Node) (left' : Int) (r : Int) (hF : F.laws_szNodeS a left' = some r) : PureCall Try.prog B 26 [.arr (List.map Vl.Node.c a), .lit (.int .i64 left')] (.lit (.int .i64 r)) := by
  unfold F.laws_szNodeS at hF
  refine PureCall.enterLe Try.func26 (by kernel_rfl) rfl Try.ntmps26 (by simp) (by simp) ?_
  simp -dsimp
  repeat (refine chk.go (by first | omega | assumption | (simp_all; done) | (simp_all; omega)) ?_; simp -dsimp)
  refine abr.split (fun h1 => ?_) (fun h1 => ?_)
  · have q2 : (IntKind.i64.wrap (left' - (a.length : Int)) < 0) := by first | exact h1 | omega | (simpa using h1) | (simp at h1 ⊢; omega) | simp_all
    rw [if_pos q2] at hF
    cases hF
    simp -dsimp [h1]
    repeat (refine chk.go (by first | omega | assumption | (simp_all; done) | (simp_all; omega)) ?_; simp -dsimp [h1])
  · have q2 : ¬ (IntKind.i64.wrap (left' - (a.length : Int)) < 0) := by first | exact h1 | omega | (simpa using h1) | (simp at h1 ⊢; omega) | simp_all
    rw [if_neg q2] at hF
    simp -dsimp [h1, q2]
    repeat (refine chk.go (by first | omega | assumption | (simp_all; done) | (simp_all; omega)) ?_; simp -dsimp [h1, q2])
    have hF := ob hF; obtain ⟨o, ho12, hF⟩ := hF
    refine ALoop.goU ⟨[(0, .arr (List.map Vl.Node.c a)), (1, .lit (.int .i64 (IntKind.i64.wrap (left' - (a.length : Int))))), (5, .lit (.int .i64 (0 : Int)))], []⟩ (Gh.to (by simp) (by simp -dsimp) (by simp -dsimp) (by simp -dsimp)) ?_
    refine (C.laws_szNodeS_l1 B hB1 hB2 a (IntKind.i64.wrap (left' - (a.length : Int))) 0 o ho12) _ rfl _ ?_
    rcases o with r0 | s
    · dsimp only at hF
      cases hF
      intro st h
      simpa using h
    · dsimp only at hF
      cases hF
      simp -dsimp
      repeat (refine chk.go (by first | omega | assumption | (simp_all; done) | (simp_all; omega)) ?_; simp -dsimp)

set_option maxRecDepth 100000 in
set_option maxHeartbeats 400000 in
theorem CC.laws_toIntS_l1 (B : Nat) (hB1 : 67108864 ≤ B) (hB2 : B ≤ 9223372036854775807) (a : List Int) : (∀ (out : List Int) (i : Nat) (o : List Int), F.laws_toIntS_l1 a out i = some o → ∀ (c : Code), navO [1, 1, 0, 1, 0, 0] (bodyOf Try.f61) = some c → ∀ (Q : Exit → ASt → Prop), Q (.exit 0) ⟨[(3, .own 0 (List.length (α := Int) o))], [.elems 1 (List.map cI o)]⟩ → ALoopU Try.prog B 0 22 (hold c .mk) ⟨[(0, .arr (List.map cI a)), (3, .own 0 (List.length (α := Int) out)), (4, .lit (.int .i64 (i : Int)))], [.elems 1 (List.map cI out)]⟩ (hold Q .mk)) := by
  refine F.laws_toIntS_l1.partial_correctness a
    (fun out i o => ∀ (c : Code), navO [1, 1, 0, 1, 0, 0] (bodyOf Try.f61) = some c → ∀ (Q : Exit → ASt → Prop), Q (.exit 0) ⟨[(3, .own 0 (List.length (α := Int) o))], [.elems 1 (List.map cI o)]⟩ → ALoopU Try.prog B 0 22 (hold c .mk) ⟨[(0, .arr (List.map cI a)), (3, .own 0 (List.length (α := Int) out)), (4, .lit (.int .i64 (i : Int)))], [.elems 1 (List.map cI out)]⟩ (hold Q .mk))
    ?_
  · intro _f_laws_toIntS_l1 ih_laws_toIntS_l1 out i o hF
    intro c hc Q hq
    obtain rfl : c = _ := navEq hc rfl
    refine ALoopU.know fun hk hs => ?_
    have b0 := hk 0
    simp -dsimp at b0
    have d0 := hs 0 _ rfl
    simp -dsimp [Blk.bnd] at d0
    clear hk hs
    refine ALoopU.enter ?_
    simp -dsimp
    repeat (refine chk.go (by first | omega | assumption | (simp_all; done) | (simp_all; omega)) ?_; simp -dsimp)
    refine abr.split (fun h2 => ?_) (fun h2 => ?_)
    · have q3 : (i < a.length) := by first | exact h2 | omega | (simpa using h2) | (simp at h2 ⊢; omega) | simp_all
      have z4 : ((i : Int) < (a.length : Int)) := by first | omega | simp_all
      rw [if_pos q3] at hF
      have hF := ob hF; obtain ⟨x, e5, hF⟩ := hF
      have le5 := lt_of_get e5
      have hF := ob hF; obtain ⟨x6, e7, hF⟩ := hF
      have le7 := lt_of_get e7
      have w8 : IntKind.i64.wrap ((i : Int) + 1) = (i : Int) + 1 := wrap_in (by omega) (by omega)
      simp -dsimp [h2, z4, ↓e5, ↓e7, w8]
      repeat (refine chk.go (by first | omega | assumption | (simp_all; done) | (simp_all; omega)) ?_; simp -dsimp [h2, z4, ↓e5, ↓e7, w8])
      refine Again.go ⟨[(0, .arr (List.map cI a)), (3, .own 0 (List.length (α := Int) (out.set i x))), (4, .lit (.int .i64 ((i + 1) : Int)))], [.elems 1 (List.map cI (out.set i x))]⟩ (Gh.to (by simp) (by simp -dsimp) (by simp -dsimp) (by simp -dsimp)) ?_
      exact (ih_laws_toIntS_l1 (out.set i x) (i + 1) o hF) _ rfl _ hq
    · have q3 : ¬ (i < a.length) := by first | exact h2 | omega | (simpa using h2) | (simp at h2 ⊢; omega) | simp_all
      have z4 : ¬ ((i : Int) < (a.length : Int)) := by first | omega | simp_all
      rw [if_neg q3] at hF
      cases hF
      simp -dsimp [h2, q3, z4]
      repeat (refine chk.go (by first | omega | assumption | (simp_all; done) | (simp_all; omega)) ?_; simp -dsimp [h2, q3, z4])
      refine Leave.go ⟨[(3, .own 0 (List.length (α := Int) out))], [.elems 1 (List.map cI out)]⟩ (Gh.to (by simp) (by simp -dsimp) (by simp -dsimp) (by simp -dsimp)) ?_
      exact hq

theorem C.laws_toIntS_l1 (B : Nat) (hB1 : 67108864 ≤ B) (hB2 : B ≤ 9223372036854775807) (a : List Int) (out : List Int) (i : Nat) (o : List Int) (hF : F.laws_toIntS_l1 a out i = some o) : ∀ (c : Code), navO [1, 1, 0, 1, 0, 0] (bodyOf Try.f61) = some c → ∀ (Q : Exit → ASt → Prop), Q (.exit 0) ⟨[(3, .own 0 (List.length (α := Int) o))], [.elems 1 (List.map cI o)]⟩ → ALoopU Try.prog B 0 22 (hold c .mk) ⟨[(0, .arr (List.map cI a)), (3, .own 0 (List.length (α := Int) out)), (4, .lit (.int .i64 (i : Int)))], [.elems 1 (List.map cI out)]⟩ (hold Q .mk) :=
  (CC.laws_toIntS_l1 B hB1 hB2 a) out i o hF

set_option maxRecDepth 100000 in
set_option maxHeartbeats 400000 in
theorem C.laws_toIntS (B : Nat) (hB1 : 67108864 ≤ B) (hB2 : B ≤ 9223372036854775807) (a : List Int) (r : List Int) (hF : F.laws_toIntS a = some r) : PureCall Try.prog B 61 [.arr (List.map cI a)] (.arr (List.map cI r)) := by
  unfold F.laws_toIntS at hF
  refine PureCall.enterLe Try.func61 (by kernel_rfl) rfl Try.ntmps61 (by simp) (by simp) ?_
  have hF := oc hF; obtain ⟨c1, hF⟩ := hF
  simp -dsimp
  repeat (refine chk.go (by first | omega | assumption | (simp_all; done) | (simp_all; omega)) ?_; simp -dsimp)
  have hF := ob hF; obtain ⟨o, ho9, hF⟩ := hF
  refine ALoop.goU ⟨[(0, .arr (List.map cI a)), (3, .own 0 (List.length (α := Int) (List.replicate a.length (0 : Int)))), (4, .lit (.int .i64 (0 : Int)))], [.elems 1 (List.map cI (List.replicate a.length (0 : Int)))]⟩ (Gh.to (by simp) (by simp -dsimp) (by simp -dsimp) (by simp -dsimp)) ?_
  refine (C.laws_toIntS_l1 B hB1 hB2 a (List.replicate a.length (0 : Int)) 0 o ho9) _ rfl _ ?_
  cases hF
  simp -dsimp
  repeat (refine chk.go (by first | omega | assumption | (simp_all; done) | (simp_all; omega)) ?_; simp -dsimp)

set_option maxRecDepth 100000 in
set_option maxHeartbeats 400000 in
theorem C.laws_toPathBind (B : Nat) (hB1 : 67108864 ≤ B) (hB2 : B ≤ 9223372036854775807) (a : Vl.PathBind) (r : Vl.PathBind) (hF : F.laws_toPathBind a = some r) : PureCall Try.prog B 74 [.agg [.lit (.int .i64 a.var), .arr (List.map cI a.path)]] (.agg [.lit (.int .i64 r.var), .arr (List.map cI r.path)]) := by
  unfold F.laws_toPathBind at hF
  refine PureCall.enterLe Try.func74 (by kernel_rfl) rfl Try.ntmps74 (by simp) (by simp) ?_
  simp -dsimp
  repeat (refine chk.go (by first | omega | assumption | (simp_all; done) | (simp_all; omega)) ?_; simp -dsimp)
  have hF := ob hF; obtain ⟨v, e1, hF⟩ := hF
  refine ((C.laws_toIntS B hB1 hB2 a.path v e1)).goW (by simp) (by simp) ?_
  cases hF
  simp -dsimp
  repeat (refine chk.go (by first | omega | assumption | (simp_all; done) | (simp_all; omega)) ?_; simp -dsimp)

set_option maxRecDepth 100000 in
set_option maxHeartbeats 400000 in
theorem CC.laws_toPathBindS_l1 (B : Nat) (hB1 : 67108864 ≤ B) (hB2 : B ≤ 9223372036854775807) (a : List Vl.PathBind) : (∀ (out : List Vl.PathBind) (i : Nat) (o : List Vl.PathBind), F.laws_toPathBindS_l1 a out i = some o → ∀ (c : Code), navO [1, 1, 0, 1, 0, 0] (bodyOf Try.f60) = some c → ∀ (Q : Exit → ASt → Prop), Q (.exit 0) ⟨[(3, .own 0 (List.length (α := Vl.PathBind) o))], [.elems 2 (List.map Vl.PathBind.c o)]⟩ → ALoopU Try.prog B 0 23 (hold c .mk) ⟨[(0, .arr (List.map Vl.PathBind.c a)), (3, .own 0 (List.length (α := Vl.PathBind) out)), (4, .lit (.int .i64 (i : Int)))], [.elems 2 (List.map Vl.PathBind.c out)]⟩ (hold Q .mk)) := by
  refine F.laws_toPathBindS_l1.partial_correctness a
    (fun out i o => ∀ (c : Code), navO [1, 1, 0, 1, 0, 0] (bodyOf Try.f60) = some c → ∀ (Q : Exit → ASt → Prop), Q (.exit 0) ⟨[(3, .own 0 (List.length (α := Vl.PathBind) o))], [.elems 2 (List.map Vl.PathBind.c o)]⟩ → ALoopU Try.prog B 0 23 (hold c .mk) ⟨[(0, .arr (List.map Vl.PathBind.c a)), (3, .own 0 (List.length (α := Vl.PathBind) out)), (4, .lit (.int .i64 (i : Int)))], [.elems 2 (List.map Vl.PathBind.c out)]⟩ (hold Q .mk))
    ?_
  · intro _f_laws_toPathBindS_l1 ih_laws_toPathBindS_l1 out i o hF
    intro c hc Q hq
    obtain rfl : c = _ := navEq hc rfl
    refine ALoopU.know fun hk hs => ?_
    have b0 := hk 0
    simp -dsimp at b0
    have d0 := hs 0 _ rfl
    simp -dsimp [Blk.bnd] at d0
    clear hk hs
    refine ALoopU.enter ?_
    simp -dsimp
    repeat (refine chk.go (by first | omega | assumption | (simp_all; done) | (simp_all; omega)) ?_; simp -dsimp)
    refine abr.split (fun h2 => ?_) (fun h2 => ?_)
    · have q3 : (i < a.length) := by first | exact h2 | omega | (simpa using h2) | (simp at h2 ⊢; omega) | simp_all
      have z4 : ((i : Int) < (a.length : Int)) := by first | omega | simp_all
      rw [if_pos q3] at hF
      have hF := ob hF; obtain ⟨x, e5, hF⟩ := hF
      have le5 := lt_of_get e5
      simp -dsimp [h2, z4, ↓e5]
      repeat (refine chk.go (by first | omega | assumption | (simp_all; done) | (simp_all; omega)) ?_; simp -dsimp [h2, z4, ↓e5])
      have hF := ob hF; obtain ⟨v, e6, hF⟩ := hF
      refine ((C.laws_toPathBind B hB1 hB2 x v e6)).goW (by simp) (by simp) ?_
      have hF := ob hF; obtain ⟨x7, e8, hF⟩ := hF
      have le8 := lt_of_get e8
      have w9 : IntKind.i64.wrap ((i : Int) + 1) = (i : Int) + 1 := wrap_in (by omega) (by omega)
      simp -dsimp [h2, z4, ↓e5, ↓e8, w9]
      repeat (refine chk.go (by first | omega | assumption | (simp_all; done) | (simp_all; omega)) ?_; simp -dsimp [h2, z4, ↓e5, ↓e8, w9])
      refine Again.go ⟨[(0, .arr (List.map Vl.PathBind.c a)), (3, .own 0 (List.length (α := Vl.PathBind) (out.set i v))), (4, .lit (.int .i64 ((i + 1) : Int)))], [.elems 2 (List.map Vl.PathBind.c (out.set i v))]⟩ (Gh.to (by simp) (by simp -dsimp) (by simp -dsimp) (by simp -dsimp)) ?_
      exact (ih_laws_toPathBindS_l1 (out.set i v) (i + 1) o hF) _ rfl _ hq
    · have q3 : ¬ (i < a.length) := by first | exact h2 | omega | (simpa using h2) | (simp at h2 ⊢; omega) | simp_all
      have z4 : ¬ ((i : Int) < (a.length : Int)) := by first | omega | simp_all
      rw [if_neg q3] at hF
      cases hF
      simp -dsimp [h2, q3, z4]
      repeat (refine chk.go (by first | omega | assumption | (simp_all; done) | (simp_all; omega)) ?_; simp -dsimp [h2, q3, z4])
      refine Leave.go ⟨[(3, .own 0 (List.length (α := Vl.PathBind) out))], [.elems 2 (List.map Vl.PathBind.c out)]⟩ (Gh.to (by simp) (by simp -dsimp) (by simp -dsimp) (by simp -dsimp)) ?_
      exact hq

theorem C.laws_toPathBindS_l1 (B : Nat) (hB1 : 67108864 ≤ B) (hB2 : B ≤ 9223372036854775807) (a : List Vl.PathBind) (out : List Vl.PathBind) (i : Nat) (o : List Vl.PathBind) (hF : F.laws_toPathBindS_l1 a out i = some o) : ∀ (c : Code), navO [1, 1, 0, 1, 0, 0] (bodyOf Try.f60) = some c → ∀ (Q : Exit → ASt → Prop), Q (.exit 0) ⟨[(3, .own 0 (List.length (α := Vl.PathBind) o))], [.elems 2 (List.map Vl.PathBind.c o)]⟩ → ALoopU Try.prog B 0 23 (hold c .mk) ⟨[(0, .arr (List.map Vl.PathBind.c a)), (3, .own 0 (List.length (α := Vl.PathBind) out)), (4, .lit (.int .i64 (i : Int)))], [.elems 2 (List.map Vl.PathBind.c out)]⟩ (hold Q .mk) :=
  (CC.laws_toPathBindS_l1 B hB1 hB2 a) out i o hF

set_option maxRecDepth 100000 in
set_option maxHeartbeats 400000 in
theorem C.laws_toPathBindS (B : Nat) (hB1 : 67108864 ≤ B) (hB2 : B ≤ 9223372036854775807) (a : List Vl.PathBind) (r : List Vl.PathBind) (hF : F.laws_toPathBindS a = some r) : PureCall Try.prog B 60 [.arr (List.map Vl.PathBind.c a)] (.arr (List.map Vl.PathBind.c r)) := by
  unfold F.laws_toPathBindS at hF
  refine PureCall.enterLe Try.func60 (by kernel_rfl) rfl Try.ntmps60 (by simp) (by simp) ?_
  have hF := oc hF; obtain ⟨c1, hF⟩ := hF
  simp -dsimp
  repeat (refine chk.go (by first | omega | assumption | (simp_all; done) | (simp_all; omega)) ?_; simp -dsimp)
  have hF := ob hF; obtain ⟨o, ho10, hF⟩ := hF
  refine ALoop.goU ⟨[(0, .arr (List.map Vl.PathBind.c a)), (3, .own 0 (List.length (α := Vl.PathBind) (List.replicate a.length Vl.PathBind.z))), (4, .lit (.int .i64 (0 : Int)))], [.elems 2 (List.map Vl.PathBind.c (List.replicate a.length Vl.PathBind.z))]⟩ (Gh.to (by simp) (by simp -dsimp) (by simp -dsimp) (by simp -dsimp)) ?_
  refine (C.laws_toPathBindS_l1 B hB1 hB2 a (List.replicate a.length Vl.PathBind.z) 0 o ho10) _ rfl _ ?_
  cases hF
  simp -dsimp
  repeat (refine chk.go (by first | omega | assumption | (simp_all; done) | (simp_all; omega)) ?_; simp -dsimp)

set_option maxRecDepth 100000 in
set_option maxHeartbeats 400000 in
theorem C.laws_toEdge (B : Nat) (hB1 : 67108864 ≤ B) (hB2 : B ≤ 9223372036854775807) (a : Vl.Edge) (r : Vl.Edge) (hF : F.laws_toEdge a = some r) : PureCall Try.prog B 78 [.agg [.lit (.int .i64 a.ctor), .lit (.int .i64 a.n), .lit (.int .i64 a.m), .lit (.int .i64 a.to)]] (.agg [.lit (.int .i64 r.ctor), .lit (.int .i64 r.n), .lit (.int .i64 r.m), .lit (.int .i64 r.to)]) := by
  unfold F.laws_toEdge at hF
  refine PureCall.enterLe Try.func78 (by kernel_rfl) rfl Try.ntmps78 (by simp) (by simp) ?_
  cases hF
  simp -dsimp
  repeat (refine chk.go (by first | omega | assumption | (simp_all; done) | (simp_all; omega)) ?_; simp -dsimp)

set_option maxRecDepth 100000 in
set_option maxHeartbeats 400000 in
theorem CC.laws_toEdgeS_l1 (B : Nat) (hB1 : 67108864 ≤ B) (hB2 : B ≤ 9223372036854775807) (a : List Vl.Edge) : (∀ (out : List Vl.Edge) (i : Nat) (o : List Vl.Edge), F.laws_toEdgeS_l1 a out i = some o → ∀ (c : Code), navO [1, 1, 0, 1, 0, 0] (bodyOf Try.f69) = some c → ∀ (Q : Exit → ASt → Prop), Q (.exit 0) ⟨[(3, .own 0 (List.length (α := Vl.Edge) o))], [.elems 4 (List.map Vl.Edge.c o)]⟩ → ALoopU Try.prog B 0 23 (hold c .mk) ⟨[(0, .arr (List.map Vl.Edge.c a)), (3, .own 0 (List.length (α := Vl.Edge) out)), (4, .lit (.int .i64 (i : Int)))], [.elems 4 (List.map Vl.Edge.c out)]⟩ (hold Q .mk)) := by
  refine F.laws_toEdgeS_l1.partial_correctness a
    (fun out i o => ∀ (c : Code), navO [1, 1, 0, 1, 0, 0] (bodyOf Try.f69) = some c → ∀ (Q : Exit → ASt → Prop), Q (.exit 0) ⟨[(3, .own 0 (List.length (α := Vl.Edge) o))], [.elems 4 (List.map Vl.Edge.c o)]⟩ → ALoopU Try.prog B 0 23 (hold c .mk) ⟨[(0, .arr (List.map Vl.Edge.c a)), (3, .own 0 (List.length (α := Vl.Edge) out)), (4, .lit (.int .i64 (i : Int)))], [.elems 4 (List.map Vl.Edge.c out)]⟩ (hold Q .mk))
    ?_
  · intro _f_laws_toEdgeS_l1 ih_laws_toEdgeS_l1 out i o hF
    intro c hc Q hq
    obtain rfl : c = _ := navEq hc rfl
    refine ALoopU.know fun hk hs => ?_
    have b0 := hk 0
    simp -dsimp at b0
    have d0 := hs 0 _ rfl
    simp -dsimp [Blk.bnd] at d0
    clear hk hs
    refine ALoopU.enter ?_
    simp -dsimp
    repeat (refine chk.go (by first | omega | assumption | (simp_all; done) | (simp_all; omega)) ?_; simp -dsimp)
    refine abr.split (fun h2 => ?_) (fun h2 => ?_)
    · have q3 : (i < a.length) := by first | exact h2 | omega | (simpa using h2) | (simp at h2 ⊢; omega) | simp_all
      have z4 : ((i : Int) < (a.length : Int)) := by first | omega | simp_all
      rw [if_pos q3] at hF
      have hF := ob hF; obtain ⟨x, e5, hF⟩ := hF
      have le5 := lt_of_get e5
      simp -dsimp [h2, z4, ↓e5]
      repeat (refine chk.go (by first | omega | assumption | (simp_all; done) | (simp_all; omega)) ?_; simp -dsimp [h2, z4, ↓e5])
      have hF := ob hF; obtain ⟨v, e6, hF⟩ := hF
      refine ((C.laws_toEdge B hB1 hB2 x v e6)).goW (by simp) (by simp) ?_
      have hF := ob hF; obtain ⟨x7, e8, hF⟩ := hF
      have le8 := lt_of_get e8
      have w9 : IntKind.i64.wrap ((i : Int) + 1) = (i : Int) + 1 := wrap_in (by omega) (by omega)
      simp -dsimp [h2, z4, ↓e5, ↓e8, w9]
      repeat (refine chk.go (by first | omega | assumption | (simp_all; done) | (simp_all; omega)) ?_; simp -dsimp [h2, z4, ↓e5, ↓e8, w9])
      refine Again.go ⟨[(0, .arr (List.map Vl.Edge.c a)), (3, .own 0 (List.length (α := Vl.Edge) (out.set i v))), (4, .lit (.int .i64 ((i + 1) : Int)))], [.elems 4 (List.map Vl.Edge.c (out.set i v))]⟩ (Gh.to (by simp) (by simp -dsimp) (by simp -dsimp) (by simp -dsimp)) ?_
      exact (ih_laws_toEdgeS_l1 (out.set i v) (i + 1) o hF) _ rfl _ hq
    · have q3 : ¬ (i < a.length) := by first | exact h2 | omega | (simpa using h2) | (simp at h2 ⊢; omega) | simp_all
      have z4 : ¬ ((i : Int) < (a.length : Int)) := by first | omega | simp_all
      rw [if_neg q3] at hF
      cases hF
      simp -dsimp [h2, q3, z4]
      repeat (refine chk.go (by first | omega | assumption | (simp_all; done) | (simp_all; omega)) ?_; simp -dsimp [h2, q3, z4])
      refine Leave.go ⟨[(3, .own 0 (List.length (α := Vl.Edge) out))], [.elems 4 (List.map Vl.Edge.c out)]⟩ (Gh.to (by simp) (by simp -dsimp) (by simp -dsimp) (by simp -dsimp)) ?_
      exact hq

theorem C.laws_toEdgeS_l1 (B : Nat) (hB1 : 67108864 ≤ B) (hB2 : B ≤ 9223372036854775807) (a : List Vl.Edge) (out : List Vl.Edge) (i : Nat) (o : List Vl.Edge) (hF : F.laws_toEdgeS_l1 a out i = some o) : ∀ (c : Code), navO [1, 1, 0, 1, 0, 0] (bodyOf Try.f69) = some c → ∀ (Q : Exit → ASt → Prop), Q (.exit 0) ⟨[(3, .own 0 (List.length (α := Vl.Edge) o))], [.elems 4 (List.map Vl.Edge.c o)]⟩ → ALoopU Try.prog B 0 23 (hold c .mk) ⟨[(0, .arr (List.map Vl.Edge.c a)), (3, .own 0 (List.length (α := Vl.Edge) out)), (4, .lit (.int .i64 (i : Int)))], [.elems 4 (List.map Vl.Edge.c out)]⟩ (hold Q .mk) :=
  (CC.laws_toEdgeS_l1 B hB1 hB2 a) out i o hF

set_option maxRecDepth 100000 in
set_option maxHeartbeats 400000 in
theorem C.laws_toEdgeS (B : Nat) (hB1 : 67108864 ≤ B) (hB2 : B ≤ 9223372036854775807) (a : List Vl.Edge) (r : List Vl.Edge) (hF : F.laws_toEdgeS a = some r) : PureCall Try.prog B 69 [.arr (List.map Vl.Edge.c a)] (.arr (List.map Vl.Edge.c r)) := by
  unfold F.laws_toEdgeS at hF
  refine PureCall.enterLe Try.func69 (by kernel_rfl) rfl Try.ntmps69 (by simp) (by simp) ?_
  have hF := oc hF; obtain ⟨c1, hF⟩ := hF
  simp -dsimp
  repeat (refine chk.go (by first | omega | assumption | (simp_all; done) | (simp_all; omega)) ?_; simp -dsimp)
  have hF := ob hF; obtain ⟨o, ho10, hF⟩ := hF
  refine ALoop.goU ⟨[(0, .arr (List.map Vl.Edge.c a)), (3, .own 0 (List.length (α := Vl.Edge) (List.replicate a.length Vl.Edge.z))), (4, .lit (.int .i64 (0 : Int)))], [.elems 4 (List.map Vl.Edge.c (List.replicate a.length Vl.Edge.z))]⟩ (Gh.to (by simp) (by simp -dsimp) (by simp -dsimp) (by simp -dsimp)) ?_
  refine (C.laws_toEdgeS_l1 B hB1 hB2 a (List.replicate a.length Vl.Edge.z) 0 o ho10) _ rfl _ ?_
  cases hF
  simp -dsimp
  repeat (refine chk.go (by first | omega | assumption | (simp_all; done) | (simp_all; omega)) ?_; simp -dsimp)

set_option maxRecDepth 100000 in
set_option maxHeartbeats 400000 in
theorem C.laws_toNode (B : Nat) (hB1 : 67108864 ≤ B) (hB2 : B ≤ 9223372036854775807) (a : Vl.Node) (r : Vl.Node) (hF : F.laws_toNode a = some r) : PureCall Try.prog B 51 [.agg [.lit (.int .i64 a.op), .lit (.int .i64 a.clause), .arr (List.map Vl.PathBind.c a.binds), .arr (List.map cI a.path), .arr (List.map Vl.Edge.c a.edges), .lit (.int .i64 a.els)]] (.agg [.lit (.int .i64 r.op), .lit (.int .i64 r.clause), .arr (List.map Vl.PathBind.c r.binds), .arr (List.map cI r.path), .arr (List.map Vl.Edge.c r.edges), .lit (.int .i64 r.els)]) := by
  unfold F.laws_toNode at hF
  refine PureCall.enterLe Try.func51 (by kernel_rfl) rfl Try.ntmps51 (by simp) (by simp) ?_
  simp -dsimp
  repeat (refine chk.go (by first | omega | assumption | (simp_all; done) | (simp_all; omega)) ?_; simp -dsimp)
  have hF := ob hF; obtain ⟨v, e1, hF⟩ := hF
  refine ((C.laws_toPathBindS B hB1 hB2 a.binds v e1)).goW (by simp) (by simp) ?_
  simp -dsimp
  repeat (refine chk.go (by first | omega | assumption | (simp_all; done) | (simp_all; omega)) ?_; simp -dsimp)
  have hF := ob hF; obtain ⟨v2, e3, hF⟩ := hF
  refine ((C.laws_toIntS B hB1 hB2 a.path v2 e3)).goW (by simp) (by simp) ?_
  simp -dsimp
  repeat (refine chk.go (by first | omega | assumption | (simp_all; done) | (simp_all; omega)) ?_; simp -dsimp)
  have hF := ob hF; obtain ⟨v4, e5, hF⟩ := hF
  refine ((C.laws_toEdgeS B hB1 hB2 a.edges v4 e5)).goW (by simp) (by simp) ?_
  cases hF
  simp -dsimp
  repeat (refine chk.go (by first | omega | assumption | (simp_all; done) | (simp_all; omega)) ?_; simp -dsimp)

set_option maxRecDepth 100000 in
set_option maxHeartbeats 400000 in
theorem CC.laws_toNodeS_l1 (B : Nat) (hB1 : 67108864 ≤ B) (hB2 : B ≤ 9223372036854775807) (a : List Vl.Node) : (∀ (out : List Vl.Node) (i : Nat) (o : List Vl.Node), F.laws_toNodeS_l1 a out i = some o → ∀ (c : Code), navO [1, 1, 0, 1, 0, 0] (bodyOf Try.f28) = some c → ∀ (Q : Exit → ASt → Prop), Q (.exit 0) ⟨[(3, .own 0 (List.length (α := Vl.Node) o))], [.elems 6 (List.map Vl.Node.c o)]⟩ → ALoopU Try.prog B 0 23 (hold c .mk) ⟨[(0, .arr (List.map Vl.Node.c a)), (3, .own 0 (List.length (α := Vl.Node) out)), (4, .lit (.int .i64 (i : Int)))], [.elems 6 (List.map Vl.Node.c out)]⟩ (hold Q .mk)) := by
  refine F.laws_toNodeS_l1.partial_correctness a
    (fun out i o => ∀ (c : Code), navO [1, 1, 0, 1, 0, 0] (bodyOf Try.f28) = some c → ∀ (Q : Exit → ASt → Prop), Q (.exit 0) ⟨[(3, .own 0 (List.length (α := Vl.Node) o))], [.elems 6 (List.map Vl.Node.c o)]⟩ → ALoopU Try.prog B 0 23 (hold c .mk) ⟨[(0, .arr (List.map Vl.Node.c a)), (3, .own 0 (List.length (α := Vl.Node) out)), (4, .lit (.int .i64 (i : Int)))], [.elems 6 (List.map Vl.Node.c out)]⟩ (hold Q .mk))
    ?_
  · intro _f_laws_toNodeS_l1 ih_laws_toNodeS_l1 out i o hF
    intro c hc Q hq
    obtain rfl : c = _ := navEq hc rfl
    refine ALoopU.know fun hk hs => ?_
    have b0 := hk 0
    simp -dsimp at b0
    have d0 := hs 0 _ rfl
    simp -dsimp [Blk.bnd] at d0
    clear hk hs
    refine ALoopU.enter ?_
    simp -dsimp
    repeat (refine chk.go (by first | omega | assumption | (simp_all; done) | (simp_all; omega)) ?_; simp -dsimp)
    refine abr.split (fun h2 => ?_) (fun h2 => ?_)
    · have q3 : (i < a.length) := by first | exact h2 | omega | (simpa using h2) | (simp at h2 ⊢; omega) | simp_all
      have z4 : ((i : Int) < (a.length : Int)) := by first | omega | simp_all
      rw [if_pos q3] at hF
      have hF := ob hF; obtain ⟨x, e5, hF⟩ := hF
      have le5 := lt_of_get e5
      simp -dsimp [h2, z4, ↓e5]
      repeat (refine chk.go (by first | omega | assumption | (simp_all; done) | (simp_all; omega)) ?_; simp -dsimp [h2, z4, ↓e5])
      have hF := ob hF; obtain ⟨v, e6, hF⟩ := hF
      refine ((C.laws_toNode B hB1 hB2 x v e6)).goW (by simp) (by simp) ?_
      have hF := ob hF; obtain ⟨x7, e8, hF⟩ := hF
      have le8 := lt_of_get e8
      have w9 : IntKind.i64.wrap ((i : Int) + 1) = (i : Int) + 1 := wrap_in (by omega) (by omega)
      simp -dsimp [h2, z4, ↓e5, ↓e8, w9]
      repeat (refine chk.go (by first | omega | assumption | (simp_all; done) | (simp_all; omega)) ?_; simp -dsimp [h2, z4, ↓e5, ↓e8, w9])
      refine Again.go ⟨[(0, .arr (List.map Vl.Node.c a)), (3, .own 0 (List.length (α := Vl.Node) (out.set i v))), (4, .lit (.int .i64 ((i + 1) : Int)))], [.elems 6 (List.map Vl.Node.c (out.set i v))]⟩ (Gh.to (by simp) (by simp -dsimp) (by simp -dsimp) (by simp -dsimp)) ?_
      exact (ih_laws_toNodeS_l1 (out.set i v) (i + 1) o hF) _ rfl _ hq
    · have q3 : ¬ (i < a.length) := by first | exact h2 | omega | (simpa using h2) | (simp at h2 ⊢; omega) | simp_all
      have z4 : ¬ ((i : Int) < (a.length : Int)) := by first | omega | simp_all
      rw [if_neg q3] at hF
      cases hF
      simp -dsimp [h2, q3, z4]
      repeat (refine chk.go (by first | omega | assumption | (simp_all; done) | (simp_all; omega)) ?_; simp -dsimp [h2, q3, z4])
      refine Leave.go ⟨[(3, .own 0 (List.length (α := Vl.Node) out))], [.elems 6 (List.map Vl.Node.c out)]⟩ (Gh.to (by simp) (by simp -dsimp) (by simp -dsimp) (by simp -dsimp)) ?_
      exact hq

theorem C.laws_toNodeS_l1 (B : Nat) (hB1 : 67108864 ≤ B) (hB2 : B ≤ 9223372036854775807) (a : List Vl.Node) (out : List Vl.Node) (i : Nat) (o : List Vl.Node) (hF : F.laws_toNodeS_l1 a out i = some o) : ∀ (c : Code), navO [1, 1, 0, 1, 0, 0] (bodyOf Try.f28) = some c → ∀ (Q : Exit → ASt → Prop), Q (.exit 0) ⟨[(3, .own 0 (List.length (α := Vl.Node) o))], [.elems 6 (List.map Vl.Node.c o)]⟩ → ALoopU Try.prog B 0 23 (hold c .mk) ⟨[(0, .arr (List.map Vl.Node.c a)), (3, .own 0 (List.length (α := Vl.Node) out)), (4, .lit (.int .i64 (i : Int)))], [.elems 6 (List.map Vl.Node.c out)]⟩ (hold Q .mk) :=
  (CC.laws_toNodeS_l1 B hB1 hB2 a) out i o hF

set_option maxRecDepth 100000 in
set_option maxHeartbeats 400000 in
theorem C.laws_toNodeS (B : Nat) (hB1 : 67108864 ≤ B) (hB2 : B ≤ 9223372036854775807) (a : List Vl.Node) (r : List Vl.Node) (hF : F.laws_toNodeS a = some r) : PureCall Try.prog B 28 [.arr (List.map Vl.Node.c a)] (.arr (List.map Vl.Node.c r)) := by
  unfold F.laws_toNodeS at hF
  refine PureCall.enterLe Try.func28 (by kernel_rfl) rfl Try.ntmps28 (by simp) (by simp) ?_
  have hF := oc hF; obtain ⟨c1, hF⟩ := hF
  simp -dsimp
  repeat (refine chk.go (by first | omega | assumption | (simp_all; done) | (simp_all; omega)) ?_; simp -dsimp)
  have hF := ob hF; obtain ⟨o, ho10, hF⟩ := hF
  refine ALoop.goU ⟨[(0, .arr (List.map Vl.Node.c a)), (3, .own 0 (List.length (α := Vl.Node) (List.replicate a.length Vl.Node.z))), (4, .lit (.int .i64 (0 : Int)))], [.elems 6 (List.map Vl.Node.c (List.replicate a.length Vl.Node.z))]⟩ (Gh.to (by simp) (by simp -dsimp) (by simp -dsimp) (by simp -dsimp)) ?_
  refine (C.laws_toNodeS_l1 B hB1 hB2 a (List.replicate a.length Vl.Node.z) 0 o ho10) _ rfl _ ?_
  cases hF
  simp -dsimp
  repeat (refine chk.go (by first | omega | assumption | (simp_all; done) | (simp_all; omega)) ?_; simp -dsimp)

set_option maxRecDepth 100000 in
set_option maxHeartbeats 400000 in
theorem C.spec_l8None (B : Nat) (hB1 : 67108864 ≤ B) (hB2 : B ≤ 9223372036854775807)  (r : Int) (hF : F.spec_l8None  = some r) : PureCall Try.prog B 50 [] (.lit (.int .i64 r)) := by
  unfold F.spec_l8None at hF
  refine PureCall.enterLe Try.func50 (by kernel_rfl) rfl Try.ntmps50 (by simp) (by simp) ?_
  cases hF
  simp -dsimp
  repeat (refine chk.go (by first | omega | assumption | (simp_all; done) | (simp_all; omega)) ?_; simp -dsimp)

set_option maxRecDepth 100000 in
set_option maxHeartbeats 400000 in
theorem CC.spec_NodesValid_l2 (B : Nat) (hB1 : 67108864 ≤ B) (hB2 : B ≤ 9223372036854775807) (list : List Vl.Node) (i : Int) (x : Vl.Node) : (∀ (k : Nat) (o : Lo Bool Unit), F.spec_NodesValid_l2 list i x k = some o → ∀ (c : Code), navO [1, 1, 0, 1, 0, 0, 1, 0, 0, 1, 1, 1, 0, 0] (bodyOf Try.f27) = some c → ∀ (Q : Exit → ASt → Prop), o.post (fun r => ∀ st, Post Try.prog Try.f27 (fun r' _ => r'.le (.lit (.bool r))) .ret st → Q .ret st) (fun s => Q (.exit 2) ⟨[(0, .arr (List.map Vl.Node.c list)), (3, .lit (.int .i64 i))], []⟩) → ALoopU Try.prog B 0 74 (hold c .mk) ⟨[(0, .arr (List.map Vl.Node.c list)), (3, .lit (.int .i64 i)), (4, .ptr 0 0), (5, .lit (.int .i64 (k : Int)))], [.cells [.lit (.int .i64 x.op), .lit (.int .i64 x.clause), .arr (List.map Vl.PathBind.c x.binds), .arr (List.map cI x.path), .arr (List.map Vl.Edge.c x.edges), .lit (.int .i64 x.els)]]⟩ (hold Q .mk)) := by
  refine F.spec_NodesValid_l2.partial_correctness list i x
    (fun k o => ∀ (c : Code), navO [1, 1, 0, 1, 0, 0, 1, 0, 0, 1, 1, 1, 0, 0] (bodyOf Try.f27) = some c → ∀ (Q : Exit → ASt → Prop), o.post (fun r => ∀ st, Post Try.prog Try.f27 (fun r' _ => r'.le (.lit (.bool r))) .ret st → Q .ret st) (fun s => Q (.exit 2) ⟨[(0, .arr (List.map Vl.Node.c list)), (3, .lit (.int .i64 i))], []⟩) → ALoopU Try.prog B 0 74 (hold c .mk) ⟨[(0, .arr (List.map Vl.Node.c list)), (3, .lit (.int .i64 i)), (4, .ptr 0 0), (5, .lit (.int .i64 (k : Int)))], [.cells [.lit (.int .i64 x.op), .lit (.int .i64 x.clause), .arr (List.map Vl.PathBind.c x.binds), .arr (List.map cI x.path), .arr (List.map Vl.Edge.c x.edges), .lit (.int .i64 x.els)]]⟩ (hold Q .mk))
    ?_
  · intro _f_spec_NodesValid_l2 ih_spec_NodesValid_l2 k o hF
    intro c hc Q hq
    obtain rfl : c = _ := navEq hc rfl
    refine ALoopU.know fun hk hs => ?_
    have b0 := hk 0
    simp -dsimp at b0
    have d0 := hs 0 _ rfl
    simp -dsimp [Blk.bnd] at d0
    clear hk hs
    refine ALoopU.enter ?_
    simp -dsimp
    repeat (refine chk.go (by first | omega | assumption | (simp_all; done) | (simp_all; omega)) ?_; simp -dsimp)
    refine abr.split (fun h22 => ?_) (fun h22 => ?_)
    · have q23 : (k < x.edges.length) := by first | exact h22 | omega | (simpa using h22) | (simp at h22 ⊢; omega) | simp_all
      have z24 : ((k : Int) < (x.edges.length : Int)) := by first | omega | simp_all
      rw [if_pos q23] at hF
      have hF := ob hF; obtain ⟨x25, e26, hF⟩ := hF
      have le26 := lt_of_get e26
      simp -dsimp [h22, z24, ↓e26]
      repeat (refine chk.go (by first | omega | assumption | (simp_all; done) | (simp_all; omega)) ?_; simp -dsimp [h22, z24, ↓e26])
      refine abr.split (fun h27 => ?_) (fun h27 => ?_)
      · have q28 : ¬ (x25.to < 0) := by first | exact h27 | omega | (simpa using h27) | (simp at h27 ⊢; omega) | simp_all
        rw [if_neg q28] at hF
        simp -dsimp [h22, z24, ↓e26, h27, q28]
        repeat (refine chk.go (by first | omega | assumption | (simp_all; done) | (simp_all; omega)) ?_; simp -dsimp [h22, z24, ↓e26, h27, q28])
        refine abr.split (fun h29 => ?_) (fun h29 => ?_)
        · have q30 : (i ≤ x25.to) := by first | exact h29 | omega | (simpa using h29) | (simp at h29 ⊢; omega) | simp_all
          rw [if_pos q30] at hF
          cases hF
          simp -dsimp [h22, z24, ↓e26, h27, q28, h29]
          repeat (refine chk.go (by first | omega | assumption | (simp_all; done) | (simp_all; omega)) ?_; simp -dsimp [h22, z24, ↓e26, h27, q28, h29])
          refine Leave.go _ (Gh.refl _) (hq _ ?_)
          simp -dsimp [h22, z24, ↓e26, h27, q28, h29]
          repeat (refine chk.go (by first | omega | assumption | (simp_all; done) | (simp_all; omega)) ?_; simp -dsimp [h22, z24, ↓e26, h27, q28, h29])
        · have q30 : ¬ (i ≤ x25.to) := by first | exact h29 | omega | (simpa using h29) | (simp at h29 ⊢; omega) | simp_all
          rw [if_neg q30] at hF
          have w31 : IntKind.i64.wrap ((k : Int) + 1) = (k : Int) + 1 := wrap_in (by omega) (by omega)
          simp -dsimp [h22, z24, ↓e26, h27, q28, h29, q30, w31]
          repeat (refine chk.go (by first | omega | assumption | (simp_all; done) | (simp_all; omega)) ?_; simp -dsimp [h22, z24, ↓e26, h27, q28, h29, q30, w31])
          refine Again.go ⟨[(0, .arr (List.map Vl.Node.c list)), (3, .lit (.int .i64 i)), (4, .ptr 0 0), (5, .lit (.int .i64 ((k + 1) : Int)))], [.cells [.lit (.int .i64 x.op), .lit (.int .i64 x.clause), .arr (List.map Vl.PathBind.c x.binds), .arr (List.map cI x.path), .arr (List.map Vl.Edge.c x.edges), .lit (.int .i64 x.els)]]⟩ (Gh.to (by simp) (by simp -dsimp) (by simp -dsimp) (by simp -dsimp)) ?_
          exact (ih_spec_NodesValid_l2 (k + 1) o hF) _ rfl _ hq
      · have q28 : (x25.to < 0) := by first | exact h27 | omega | (simpa using h27) | (simp at h27 ⊢; omega) | simp_all
        rw [if_pos q28] at hF
        cases hF
        simp -dsimp [h22, z24, ↓e26, h27, q28]
        repeat (refine chk.go (by first | omega | assumption | (simp_all; done) | (simp_all; omega)) ?_; simp -dsimp [h22, z24, ↓e26, h27, q28])
        refine Leave.go _ (Gh.refl _) (hq _ ?_)
        simp -dsimp [h22, z24, ↓e26, h27, q28]
        repeat (refine chk.go (by first | omega | assumption | (simp_all; done) | (simp_all; omega)) ?_; simp -dsimp [h22, z24, ↓e26, h27, q28])
    · have q23 : ¬ (k < x.edges.length) := by first | exact h22 | omega | (simpa using h22) | (simp at h22 ⊢; omega) | simp_all
      have z24 : ¬ ((k : Int) < (x.edges.length : Int)) := by first | omega | simp_all
      rw [if_neg q23] at hF
      cases hF
      simp -dsimp [h22, q23, z24]
      repeat (refine chk.go (by first | omega | assumption | (simp_all; done) | (simp_all; omega)) ?_; simp -dsimp [h22, q23, z24])
      refine Leave.go ⟨[(0, .arr (List.map Vl.Node.c list)), (3, .lit (.int .i64 i))], []⟩ (Gh.to (by simp) (by simp -dsimp) (by simp -dsimp) (by simp -dsimp)) ?_
      exact hq

theorem C.spec_NodesValid_l2 (B : Nat) (hB1 : 67108864 ≤ B) (hB2 : B ≤ 9223372036854775807) (list : List Vl.Node) (i : Int) (x : Vl.Node) (k : Nat) (o : Lo Bool Unit) (hF : F.spec_NodesValid_l2 list i x k = some o) : ∀ (c : Code), navO [1, 1, 0, 1, 0, 0, 1, 0, 0, 1, 1, 1, 0, 0] (bodyOf Try.f27) = some c → ∀ (Q : Exit → ASt → Prop), o.post (fun r => ∀ st, Post Try.prog Try.f27 (fun r' _ => r'.le (.lit (.bool r))) .ret st → Q .ret st) (fun s => Q (.exit 2) ⟨[(0, .arr (List.map Vl.Node.c list)), (3, .lit (.int .i64 i))], []⟩) → ALoopU Try.prog B 0 74 (hold c .mk) ⟨[(0, .arr (List.map Vl.Node.c list)), (3, .lit (.int .i64 i)), (4, .ptr 0 0), (5, .lit (.int .i64 (k : Int)))], [.cells [.lit (.int .i64 x.op), .lit (.int .i64 x.clause), .arr (List.map Vl.PathBind.c x.binds), .arr (List.map cI x.path), .arr (List.map Vl.Edge.c x.edges), .lit (.int .i64 x.els)]]⟩ (hold Q .mk) :=
  (CC.spec_NodesValid_l2 B hB1 hB2 list i x) k o hF

set_option maxRecDepth 100000 in
set_option maxHeartbeats 400000 in
theorem CC.spec_NodesValid_l1 (B : Nat) (hB1 : 67108864 ≤ B) (hB2 : B ≤ 9223372036854775807) (list : List Vl.Node) : (∀ (i : Int) (o : Lo Bool Unit), F.spec_NodesValid_l1 list i = some o → ∀ (c : Code), navO [1, 1, 0, 1, 0, 0] (bodyOf Try.f27) = some c → ∀ (Q : Exit → ASt → Prop), o.post (fun r => ∀ st, Post Try.prog Try.f27 (fun r' _ => r'.le (.lit (.bool r))) .ret st → Q .ret st) (fun s => Q (.exit 0) ⟨[], []⟩) → ALoopU Try.prog B 0 74 (hold c .mk) ⟨[(0, .arr (List.map Vl.Node.c list)), (3, .lit (.int .i64 i))], []⟩ (hold Q .mk)) := by
  refine F.spec_NodesValid_l1.partial_correctness list
    (fun i o => ∀ (c : Code), navO [1, 1, 0, 1, 0, 0] (bodyOf Try.f27) = some c → ∀ (Q : Exit → ASt → Prop), o.post (fun r => ∀ st, Post Try.prog Try.f27 (fun r' _ => r'.le (.lit (.bool r))) .ret st → Q .ret st) (fun s => Q (.exit 0) ⟨[], []⟩) → ALoopU Try.prog B 0 74 (hold c .mk) ⟨[(0, .arr (List.map Vl.Node.c list)), (3, .lit (.int .i64 i))], []⟩ (hold Q .mk))
    ?_
  · intro _f_spec_NodesValid_l1 ih_spec_NodesValid_l1 i o hF
    intro c hc Q hq
    obtain rfl : c = _ := navEq hc rfl
    refine ALoopU.know fun hk hs => ?_
    have b0 := hk 0
    simp -dsimp at b0
    clear hk hs
    refine ALoopU.enter ?_
    simp -dsimp
    repeat (refine chk.go (by first | omega | assumption | (simp_all; done) | (simp_all; omega)) ?_; simp -dsimp)
    refine abr.split (fun h7 => ?_) (fun h7 => ?_)
    · have q8 : (i < (list.length : Int)) := by first | exact h7 | omega | (simpa using h7) | (simp at h7 ⊢; omega) | simp_all
      rw [if_pos q8] at hF
      have hF := ob hF; obtain ⟨x, e9a, hF⟩ := hF
      have e9a := at_some e9a; obtain ⟨ne9, e9⟩ := e9a
      have le9 := lt_of_get e9
      simp -dsimp [h7, ↓e9]
      repeat (refine chk.go (by first | omega | assumption | (simp_all; done) | (simp_all; omega)) ?_; simp -dsimp [h7, ↓e9])
      refine ADraw.simple follows (by kernel_rfl) (by kernel_rfl) ?_
      simp -dsimp [h7, ↓e9]
      repeat (refine chk.go (by first | omega | assumption | (simp_all; done) | (simp_all; omega)) ?_; simp -dsimp [h7, ↓e9])
      refine abr.split (fun h10 => ?_) (fun h10 => ?_)
      · have q11 : ¬ (x.op < 0) := by first | exact h10 | omega | (simpa using h10) | (simp at h10 ⊢; omega) | simp_all
        rw [if_neg q11] at hF
        simp -dsimp [h7, ↓e9, h10, q11]
        repeat (refine chk.go (by first | omega | assumption | (simp_all; done) | (simp_all; omega)) ?_; simp -dsimp [h7, ↓e9, h10, q11])
        refine abr.split (fun h12 => ?_) (fun h12 => ?_)
        · have q13 : ¬ (2 < x.op) := by first | exact h12 | omega | (simpa using h12) | (simp at h12 ⊢; omega) | simp_all
          rw [if_neg q13] at hF
          simp -dsimp [h7, ↓e9, h10, q11, h12, q13]
          repeat (refine chk.go (by first | omega | assumption | (simp_all; done) | (simp_all; omega)) ?_; simp -dsimp [h7, ↓e9, h10, q11, h12, q13])
          have hF := ob hF; obtain ⟨v, e14, hF⟩ := hF
          refine ((C.spec_l8None B hB1 hB2 v e14)).pgoW (by simp) (by simp) ?_
          simp -dsimp [h7, ↓e9, h10, q11, h12, q13]
          repeat (refine chk.go (by first | omega | assumption | (simp_all; done) | (simp_all; omega)) ?_; simp -dsimp [h7, ↓e9, h10, q11, h12, q13])
          refine abr.split (fun h15 => ?_) (fun h15 => ?_)
          · have q16 : ¬ (x.els < v) := by first | exact h15 | omega | (simpa using h15) | (simp at h15 ⊢; omega) | simp_all
            rw [if_neg q16] at hF
            simp -dsimp [h7, ↓e9, h10, q11, h12, q13, h15, q16]
            repeat (refine chk.go (by first | omega | assumption | (simp_all; done) | (simp_all; omega)) ?_; simp -dsimp [h7, ↓e9, h10, q11, h12, q13, h15, q16])
            refine abr.split (fun h17 => ?_) (fun h17 => ?_)
            · have q18 : ¬ (i ≤ x.els) := by first | exact h17 | omega | (simpa using h17) | (simp at h17 ⊢; omega) | simp_all
              rw [if_neg q18] at hF
              simp -dsimp [h7, ↓e9, h10, q11, h12, q13, h15, q16, h17, q18]
              repeat (refine chk.go (by first | omega | assumption | (simp_all; done) | (simp_all; omega)) ?_; simp -dsimp [h7, ↓e9, h10, q11, h12, q13, h15, q16, h17, q18])
              refine abr.split (fun h19 => ?_) (fun h19 => ?_)
              · have q20 : (10 < x.edges.length) := by first | exact h19 | omega | (simpa using h19) | (simp at h19 ⊢; omega) | simp_all
                have z21 : ((10 : Int) < (x.edges.length : Int)) := by first | omega | simp_all
                rw [if_pos q20] at hF
                cases hF
                simp -dsimp [h7, ↓e9, h10, q11, h12, q13, h15, q16, h17, q18, h19, z21]
                repeat (refine chk.go (by first | omega | assumption | (simp_all; done) | (simp_all; omega)) ?_; simp -dsimp [h7, ↓e9, h10, q11, h12, q13, h15, q16, h17, q18, h19, z21])
                refine Leave.go _ (Gh.refl _) (hq _ ?_)
                simp -dsimp [h7, ↓e9, h10, q11, h12, q13, h15, q16, h17, q18, h19, z21]
                repeat (refine chk.go (by first | omega | assumption | (simp_all; done) | (simp_all; omega)) ?_; simp -dsimp [h7, ↓e9, h10, q11, h12, q13, h15, q16, h17, q18, h19, z21])
              · have q20 : ¬ (10 < x.edges.length) := by first | exact h19 | omega | (simpa using h19) | (simp at h19 ⊢; omega) | simp_all
                have z21 : ¬ ((10 : Int) < (x.edges.length : Int)) := by first | omega | simp_all
                rw [if_neg q20] at hF
                simp -dsimp [h7, ↓e9, h10, q11, h12, q13, h15, q16, h17, q18, h19, q20, z21]
                repeat (refine chk.go (by first | omega | assumption | (simp_all; done) | (simp_all; omega)) ?_; simp -dsimp [h7, ↓e9, h10, q11, h12, q13, h15, q16, h17, q18, h19, q20, z21])
                have hF := ob hF; obtain ⟨o, ho32, hF⟩ := hF
                refine ALoop.goU ⟨[(0, .arr (List.map Vl.Node.c list)), (3, .lit (.int .i64 i)), (4, .ptr 0 0), (5, .lit (.int .i64 (0 : Int)))], [.cells [.lit (.int .i64 x.op), .lit (.int .i64 x.clause), .arr (List.map Vl.PathBind.c x.binds), .arr (List.map cI x.path), .arr (List.map Vl.Edge.c x.edges), .lit (.int .i64 x.els)]]⟩ (Gh.to (by simp) (by simp -dsimp) (by simp -dsimp) (by simp -dsimp)) ?_
                refine (C.spec_NodesValid_l2 B hB1 hB2 list i x 0 o ho32) _ rfl _ ?_
                rcases o with r0 | s
                · dsimp only at hF
                  cases hF
                  intro st h
                  simp -dsimp
                  refine Leave.go st (Gh.refl _) (hq st h)
                · dsimp only at hF
                  simp -dsimp
                  repeat (refine chk.go (by first | omega | assumption | (simp_all; done) | (simp_all; omega)) ?_; simp -dsimp)
                  refine Again.go ⟨[(0, .arr (List.map Vl.Node.c list)), (3, .lit (.int .i64 (IntKind.i64.wrap (i + 1))))], []⟩ (Gh.to (by simp) (by simp -dsimp) (by simp -dsimp) (by simp -dsimp)) ?_
                  exact (ih_spec_NodesValid_l1 (IntKind.i64.wrap (i + 1)) o hF) _ rfl _ hq
            · have q18 : (i ≤ x.els) := by first | exact h17 | omega | (simpa using h17) | (simp at h17 ⊢; omega) | simp_all
              rw [if_pos q18] at hF
              cases hF
              simp -dsimp [h7, ↓e9, h10, q11, h12, q13, h15, q16, h17, q18]
              repeat (refine chk.go (by first | omega | assumption | (simp_all; done) | (simp_all; omega)) ?_; simp -dsimp [h7, ↓e9, h10, q11, h12, q13, h15, q16, h17, q18])
              refine Leave.go _ (Gh.refl _) (hq _ ?_)
              simp -dsimp [h7, ↓e9, h10, q11, h12, q13, h15, q16, h17, q18]
              repeat (refine chk.go (by first | omega | assumption | (simp_all; done) | (simp_all; omega)) ?_; simp -dsimp [h7, ↓e9, h10, q11, h12, q13, h15, q16, h17, q18])
          · have q16 : (x.els < v) := by first | exact h15 | omega | (simpa using h15) | (simp at h15 ⊢; omega) | simp_all
            rw [if_pos q16] at hF
            cases hF
            simp -dsimp [h7, ↓e9, h10, q11, h12, q13, h15, q16]
            repeat (refine chk.go (by first | omega | assumption | (simp_all; done) | (simp_all; omega)) ?_; simp -dsimp [h7, ↓e9, h10, q11, h12, q13, h15, q16])
            refine Leave.go _ (Gh.refl _) (hq _ ?_)
            simp -dsimp [h7, ↓e9, h10, q11, h12, q13, h15, q16]
            repeat (refine chk.go (by first | omega | assumption | (simp_all; done) | (simp_all; omega)) ?_; simp -dsimp [h7, ↓e9, h10, q11, h12, q13, h15, q16])
        · have q13 : (2 < x.op) := by first | exact h12 | omega | (simpa using h12) | (simp at h12 ⊢; omega) | simp_all
          rw [if_pos q13] at hF
          cases hF
          simp -dsimp [h7, ↓e9, h10, q11, h12, q13]
          repeat (refine chk.go (by first | omega | assumption | (simp_all; done) | (simp_all; omega)) ?_; simp -dsimp [h7, ↓e9, h10, q11, h12, q13])
          refine Leave.go _ (Gh.refl _) (hq _ ?_)
          simp -dsimp [h7, ↓e9, h10, q11, h12, q13]
          repeat (refine chk.go (by first | omega | assumption | (simp_all; done) | (simp_all; omega)) ?_; simp -dsimp [h7, ↓e9, h10, q11, h12, q13])
      · have q11 : (x.op < 0) := by first | exact h10 | omega | (simpa using h10) | (simp at h10 ⊢; omega) | simp_all
        rw [if_pos q11] at hF
        cases hF
        simp -dsimp [h7, ↓e9, h10, q11]
        repeat (refine chk.go (by first | omega | assumption | (simp_all; done) | (simp_all; omega)) ?_; simp -dsimp [h7, ↓e9, h10, q11])
        refine Leave.go _ (Gh.refl _) (hq _ ?_)
        simp -dsimp [h7, ↓e9, h10, q11]
        repeat (refine chk.go (by first | omega | assumption | (simp_all; done) | (simp_all; omega)) ?_; simp -dsimp [h7, ↓e9, h10, q11])
    · have q8 : ¬ (i < (list.length : Int)) := by first | exact h7 | omega | (simpa using h7) | (simp at h7 ⊢; omega) | simp_all
      rw [if_neg q8] at hF
      cases hF
      simp -dsimp [h7, q8]
      repeat (refine chk.go (by first | omega | assumption | (simp_all; done) | (simp_all; omega)) ?_; simp -dsimp [h7, q8])
      refine Leave.go ⟨[], []⟩ (Gh.to (by simp) (by simp -dsimp) (by simp -dsimp) (by simp -dsimp)) ?_
      exact hq

theorem C.spec_NodesValid_l1 (B : Nat) (hB1 : 67108864 ≤ B) (hB2 : B ≤ 9223372036854775807) (list : List Vl.Node) (i : Int) (o : Lo Bool Unit) (hF : F.spec_NodesValid_l1 list i = some o) : ∀ (c : Code), navO [1, 1, 0, 1, 0, 0] (bodyOf Try.f27) = some c → ∀ (Q : Exit → ASt → Prop), o.post (fun r => ∀ st, Post Try.prog Try.f27 (fun r' _ => r'.le (.lit (.bool r))) .ret st → Q .ret st) (fun s => Q (.exit 0) ⟨[], []⟩) → ALoopU Try.prog B 0 74 (hold c .mk) ⟨[(0, .arr (List.map Vl.Node.c list)), (3, .lit (.int .i64 i))], []⟩ (hold Q .mk) :=
  (CC.spec_NodesValid_l1 B hB1 hB2 list) i o hF

set_option maxRecDepth 100000 in
set_option maxHeartbeats 400000 in
theorem C.spec_NodesValid (B : Nat) (hB1 : 67108864 ≤ B) (hB2 : B ≤ 9223372036854775807) (list : List Vl.Node) (r : Bool) (hF : F.spec_NodesValid list = some r) : PureCall Try.prog B 27 [.arr (List.map Vl.Node.c list)] (.lit (.bool r)) := by
  unfold F.spec_NodesValid at hF
  refine PureCall.enterLe Try.func27 (by kernel_rfl) rfl Try.ntmps27 (by simp) (by simp) ?_
  simp -dsimp
  repeat (refine chk.go (by first | omega | assumption | (simp_all; done) | (simp_all; omega)) ?_; simp -dsimp)
  refine abr.split (fun h1 => ?_) (fun h1 => ?_)
  · have q2 : ¬ (list.length = 0) := by first | exact h1 | omega | (simpa using h1) | (simp at h1 ⊢; omega) | simp_all
    have z3 : ¬ ((list.length : Int) = (0 : Int)) := by first | omega | simp_all
    rw [if_neg q2] at hF
    simp -dsimp [h1, q2, z3]
    repeat (refine chk.go (by first | omega | assumption | (simp_all; done) | (simp_all; omega)) ?_; simp -dsimp [h1, q2, z3])
    refine abr.split (fun h4 => ?_) (fun h4 => ?_)
    · have q5 : (300 < list.length) := by first | exact h4 | omega | (simpa using h4) | (simp at h4 ⊢; omega) | simp_all
      have z6 : ((300 : Int) < (list.length : Int)) := by first | omega | simp_all
      rw [if_pos q5] at hF
      cases hF
      simp -dsimp [h1, q2, z3, h4, z6]
      repeat (refine chk.go (by first | omega | assumption | (simp_all; done) | (simp_all; omega)) ?_; simp -dsimp [h1, q2, z3, h4, z6])
    · have q5 : ¬ (300 < list.length) := by first | exact h4 | omega | (simpa using h4) | (simp at h4 ⊢; omega) | simp_all
      have z6 : ¬ ((300 : Int) < (list.length : Int)) := by first | omega | simp_all
      rw [if_neg q5] at hF
      simp -dsimp [h1, q2, z3, h4, q5, z6]
      repeat (refine chk.go (by first | omega | assumption | (simp_all; done) | (simp_all; omega)) ?_; simp -dsimp [h1, q2, z3, h4, q5, z6])
      have hF := ob hF; obtain ⟨o34, ho33, hF⟩ := hF
      refine ALoop.goU ⟨[(0, .arr (List.map Vl.Node.c list)), (3, .lit (.int .i64 (0 : Int)))], []⟩ (Gh.to (by simp) (by simp -dsimp) (by simp -dsimp) (by simp -dsimp)) ?_
      refine (C.spec_NodesValid_l1 B hB1 hB2 list (0 : Int) o34 ho33) _ rfl _ ?_
      rcases o34 with r036 | s35
      · dsimp only at hF
        cases hF
        intro st h
        simpa using h
      · dsimp only at hF
        cases hF
        simp -dsimp
        repeat (refine chk.go (by first | omega | assumption | (simp_all; done) | (simp_all; omega)) ?_; simp -dsimp)
  · have q2 : (list.length = 0) := by first | exact h1 | omega | (simpa using h1) | (simp at h1 ⊢; omega) | simp_all
    have z3 : ((list.length : Int) = (0 : Int)) := by first | omega | simp_all
    rw [if_pos q2] at hF
    cases hF
    simp -dsimp [h1, q2, z3]
    repeat (refine chk.go (by first | omega | assumption | (simp_all; done) | (simp_all; omega)) ?_; simp -dsimp [h1, q2, z3])

set_option maxRecDepth 100000 in
set_option maxHeartbeats 400000 in
theorem C.impl_within (B : Nat) (hB1 : 67108864 ≤ B) (hB2 : B ≤ 9223372036854775807) (n : Int) (low : Int) (high : Int) (r : Bool) (hF : F.impl_within n low high = some r) : PureCall Try.prog B 52 [.lit (.int .i64 n), .lit (.int .i64 low), .lit (.int .i64 high)] (.lit (.bool r)) := by
  unfold F.impl_within at hF
  refine PureCall.enterLe Try.func52 (by kernel_rfl) rfl Try.ntmps52 (by simp) (by simp) ?_
  simp -dsimp
  repeat (refine chk.go (by first | omega | assumption | (simp_all; done) | (simp_all; omega)) ?_; simp -dsimp)
  refine abr.split (fun h1 => ?_) (fun h1 => ?_)
  · have q2 : (low ≤ n) := by first | exact h1 | omega | (simpa using h1) | (simp at h1 ⊢; omega) | simp_all
    rw [if_pos q2] at hF
    cases hF
    simp -dsimp [h1]
    repeat (refine chk.go (by first | omega | assumption | (simp_all; done) | (simp_all; omega)) ?_; simp -dsimp [h1])
  · have q2 : ¬ (low ≤ n) := by first | exact h1 | omega | (simpa using h1) | (simp at h1 ⊢; omega) | simp_all
    rw [if_neg q2] at hF
    cases hF
    simp -dsimp [h1, q2]
    repeat (refine chk.go (by first | omega | assumption | (simp_all; done) | (simp_all; omega)) ?_; simp -dsimp [h1, q2])

set_option maxRecDepth 100000 in
set_option maxHeartbeats 400000 in
theorem C.impl_NodesValid_1 (B : Nat) (hB1 : 67108864 ≤ B) (hB2 : B ≤ 9223372036854775807) (e : Vl.Edge) (a1 : Int) (r : Bool) (hF : F.impl_NodesValid_1 e a1 = some r) : PureCall Try.prog B 54 [.agg [.lit (.int .i64 e.ctor), .lit (.int .i64 e.n), .lit (.int .i64 e.m), .lit (.int .i64 e.to)], .rptr [.lit (.int .i64 a1)] 0] (.lit (.bool r)) := by
  unfold F.impl_NodesValid_1 at hF
  refine PureCall.enterLe Try.func54 (by kernel_rfl) rfl Try.ntmps54 (by simp) (by simp) ?_
  simp -dsimp
  repeat (refine chk.go (by first | omega | assumption | (simp_all; done) | (simp_all; omega)) ?_; simp -dsimp)
  have hF := ob hF; obtain ⟨v, e1, hF⟩ := hF
  refine ((C.impl_within B hB1 hB2 e.to (0 : Int) (IntKind.i64.wrap (a1 - 1)) v e1)).goW (by simp) (by simp) ?_
  cases hF
  simp -dsimp
  repeat (refine chk.go (by first | omega | assumption | (simp_all; done) | (simp_all; omega)) ?_; simp -dsimp)

set_option maxRecDepth 100000 in
set_option maxHeartbeats 400000 in
theorem CC.slices_IndexFunc_Edge__impl_NodesValid_1_l1 (B : Nat) (hB1 : 67108864 ≤ B) (hB2 : B ≤ 9223372036854775807) (s : List Vl.Edge) (k0 : Int) : (∀ (i : Nat) (o : Lo Int Unit), F.slices_IndexFunc_Edge__impl_NodesValid_1_l1 s k0 i = some o → ∀ (c : Code), navO [1, 0, 1, 0, 0] (bodyOf Try.f70) = some c → ∀ (Q : Exit → ASt → Prop), o.post (fun r => ∀ st, Post Try.prog Try.f70 (fun r' _ => r'.le (.lit (.int .i64 r))) .ret st → Q .ret st) (fun s => Q (.exit 0) ⟨[], []⟩) → ALoopU Try.prog B 0 19 (hold c .mk) ⟨[(0, .arr (List.map Vl.Edge.c s)), (1, .fn (.func 54) [] [.rptr [.lit (.int .i64 k0)] 0]), (7, .lit (.int .i64 (s.length : Int))), (8, .lit (.int .i64 (i : Int)))], []⟩ (hold Q .mk)) := by
  refine F.slices_IndexFunc_Edge__impl_NodesValid_1_l1.partial_correctness s k0
    (fun i o => ∀ (c : Code), navO [1, 0, 1, 0, 0] (bodyOf Try.f70) = some c → ∀ (Q : Exit → ASt → Prop), o.post (fun r => ∀ st, Post Try.prog Try.f70 (fun r' _ => r'.le (.lit (.int .i64 r))) .ret st → Q .ret st) (fun s => Q (.exit 0) ⟨[], []⟩) → ALoopU Try.prog B 0 19 (hold c .mk) ⟨[(0, .arr (List.map Vl.Edge.c s)), (1, .fn (.func 54) [] [.rptr [.lit (.int .i64 k0)] 0]), (7, .lit (.int .i64 (s.length : Int))), (8, .lit (.int .i64 (i : Int)))], []⟩ (hold Q .mk))
    ?_
  · intro _f_slices_IndexFunc_Edge__impl_NodesValid_1_l1 ih_slices_IndexFunc_Edge__impl_NodesValid_1_l1 i o hF
    intro c hc Q hq
    obtain rfl : c = _ := navEq hc rfl
    refine ALoopU.know fun hk hs => ?_
    have b0 := hk 0
    simp -dsimp at b0
    clear hk hs
    refine ALoopU.enter ?_
    simp -dsimp
    repeat (refine chk.go (by first | omega | assumption | (simp_all; done) | (simp_all; omega)) ?_; simp -dsimp)
    refine abr.split (fun h1 => ?_) (fun h1 => ?_)
    · have q2 : (i < s.length) := by first | exact h1 | omega | (simpa using h1) | (simp at h1 ⊢; omega) | simp_all
      have z3 : ((i : Int) < (s.length : Int)) := by first | omega | simp_all
      rw [if_pos q2] at hF
      have hF := ob hF; obtain ⟨x, e4, hF⟩ := hF
      have le4 := lt_of_get e4
      simp -dsimp [h1, z3, ↓e4]
      repeat (refine chk.go (by first | omega | assumption | (simp_all; done) | (simp_all; omega)) ?_; simp -dsimp [h1, z3, ↓e4])
      have hF := ob hF; obtain ⟨v, e5, hF⟩ := hF
      refine ((C.impl_NodesValid_1 B hB1 hB2 x k0 v e5)).goW (by simp) (by simp) ?_
      simp -dsimp [h1, z3, ↓e4]
      repeat (refine chk.go (by first | omega | assumption | (simp_all; done) | (simp_all; omega)) ?_; simp -dsimp [h1, z3, ↓e4])
      refine abr.split (fun h6 => ?_) (fun h6 => ?_)
      · have q7 : (v = true) := by first | exact h6 | omega | (simpa using h6) | (simp at h6 ⊢; omega) | simp_all
        rw [if_pos q7] at hF
        cases hF
        simp -dsimp [h1, z3, ↓e4, h6]
        repeat (refine chk.go (by first | omega | assumption | (simp_all; done) | (simp_all; omega)) ?_; simp -dsimp [h1, z3, ↓e4, h6])
        refine Leave.go _ (Gh.refl _) (hq _ ?_)
        simp -dsimp [h1, z3, ↓e4, h6]
        repeat (refine chk.go (by first | omega | assumption | (simp_all; done) | (simp_all; omega)) ?_; simp -dsimp [h1, z3, ↓e4, h6])
      · have q7 : ¬ (v = true) := by first | exact h6 | omega | (simpa using h6) | (simp at h6 ⊢; omega) | simp_all
        rw [if_neg q7] at hF
        have w8 : IntKind.i64.wrap ((i : Int) + 1) = (i : Int) + 1 := wrap_in (by omega) (by omega)
        simp -dsimp [h1, z3, ↓e4, h6, q7, w8]
        repeat (refine chk.go (by first | omega | assumption | (simp_all; done) | (simp_all; omega)) ?_; simp -dsimp [h1, z3, ↓e4, h6, q7, w8])
        refine Again.go ⟨[(0, .arr (List.map Vl.Edge.c s)), (1, .fn (.func 54) [] [.rptr [.lit (.int .i64 k0)] 0]), (7, .lit (.int .i64 (s.length : Int))), (8, .lit (.int .i64 ((i + 1) : Int)))], []⟩ (Gh.to (by simp) (by simp -dsimp) (by simp -dsimp) (by simp -dsimp)) ?_
        exact (ih_slices_IndexFunc_Edge__impl_NodesValid_1_l1 (i + 1) o hF) _ rfl _ hq
    · have q2 : ¬ (i < s.length) := by first | exact h1 | omega | (simpa using h1) | (simp at h1 ⊢; omega) | simp_all
      have z3 : ¬ ((i : Int) < (s.length : Int)) := by first | omega | simp_all
      rw [if_neg q2] at hF
      cases hF
      simp -dsimp [h1, q2, z3]
      repeat (refine chk.go (by first | omega | assumption | (simp_all; done) | (simp_all; omega)) ?_; simp -dsimp [h1, q2, z3])
      refine Leave.go ⟨[], []⟩ (Gh.to (by simp) (by simp -dsimp) (by simp -dsimp) (by simp -dsimp)) ?_
      exact hq

theorem C.slices_IndexFunc_Edge__impl_NodesValid_1_l1 (B : Nat) (hB1 : 67108864 ≤ B) (hB2 : B ≤ 9223372036854775807) (s : List Vl.Edge) (k0 : Int) (i : Nat) (o : Lo Int Unit) (hF : F.slices_IndexFunc_Edge__impl_NodesValid_1_l1 s k0 i = some o) : ∀ (c : Code), navO [1, 0, 1, 0, 0] (bodyOf Try.f70) = some c → ∀ (Q : Exit → ASt → Prop), o.post (fun r => ∀ st, Post Try.prog Try.f70 (fun r' _ => r'.le (.lit (.int .i64 r))) .ret st → Q .ret st) (fun s => Q (.exit 0) ⟨[], []⟩) → ALoopU Try.prog B 0 19 (hold c .mk) ⟨[(0, .arr (List.map Vl.Edge.c s)), (1, .fn (.func 54) [] [.rptr [.lit (.int .i64 k0)] 0]), (7, .lit (.int .i64 (s.length : Int))), (8, .lit (.int .i64 (i : Int)))], []⟩ (hold Q .mk) :=
  (CC.slices_IndexFunc_Edge__impl_NodesValid_1_l1 B hB1 hB2 s k0) i o hF

set_option maxRecDepth 100000 in
set_option maxHeartbeats 400000 in
theorem C.slices_IndexFunc_Edge__impl_NodesValid_1 (B : Nat) (hB1 : 67108864 ≤ B) (hB2 : B ≤ 9223372036854775807) (s : List Vl.Edge) (k0 : Int) (r : Int) (hF : F.slices_IndexFunc_Edge__impl_NodesValid_1 s k0 = some r) : PureCall Try.prog B 70 [.arr (List.map Vl.Edge.c s), .fn (.func 54) [] [.rptr [.lit (.int .i64 k0)] 0]] (.lit (.int .i64 r)) := by
  unfold F.slices_IndexFunc_Edge__impl_NodesValid_1 at hF
  refine PureCall.enterLe Try.func70 (by kernel_rfl) rfl Try.ntmps70 (by simp) (by simp) ?_
  simp -dsimp
  repeat (refine chk.go (by first | omega | assumption | (simp_all; done) | (simp_all; omega)) ?_; simp -dsimp)
  have hF := ob hF; obtain ⟨o, ho9, hF⟩ := hF
  refine ALoop.goU ⟨[(0, .arr (List.map Vl.Edge.c s)), (1, .fn (.func 54) [] [.rptr [.lit (.int .i64 k0)] 0]), (7, .lit (.int .i64 (s.length : Int))), (8, .lit (.int .i64 (0 : Int)))], []⟩ (Gh.to (by simp) (by simp -dsimp) (by simp -dsimp) (by simp -dsimp)) ?_
  refine (C.slices_IndexFunc_Edge__impl_NodesValid_1_l1 B hB1 hB2 s k0 0 o ho9) _ rfl _ ?_
  rcases o with r0 | s10
  · dsimp only at hF
    cases hF
    intro st h
    simpa using h
  · dsimp only at hF
    cases hF
    simp -dsimp
    repeat (refine chk.go (by first | omega | assumption | (simp_all; done) | (simp_all; omega)) ?_; simp -dsimp)

set_option maxRecDepth 100000 in
set_option maxHeartbeats 400000 in
theorem C.slices_ContainsFunc_Edge__impl_NodesValid_1 (B : Nat) (hB1 : 67108864 ≤ B) (hB2 : B ≤ 9223372036854775807) (s : List Vl.Edge) (k0 : Int) (r : Bool) (hF : F.slices_ContainsFunc_Edge__impl_NodesValid_1 s k0 = some r) : PureCall Try.prog B 53 [.arr (List.map Vl.Edge.c s), .fn (.func 54) [] [.rptr [.lit (.int .i64 k0)] 0]] (.lit (.bool r)) := by
  unfold F.slices_ContainsFunc_Edge__impl_NodesValid_1 at hF
  refine PureCall.enterLe Try.func53 (by kernel_rfl) rfl Try.ntmps53 (by simp) (by simp) ?_
  simp -dsimp
  repeat (refine chk.go (by first | omega | assumption | (simp_all; done) | (simp_all; omega)) ?_; simp -dsimp)
  have hF := ob hF; obtain ⟨v, e1, hF⟩ := hF
  refine ((C.slices_IndexFunc_Edge__impl_NodesValid_1 B hB1 hB2 s k0 v e1)).goW (by simp) (by simp) ?_
  cases hF
  simp -dsimp
  repeat (refine chk.go (by first | omega | assumption | (simp_all; done) | (simp_all; omega)) ?_; simp -dsimp)

set_option maxRecDepth 100000 in
set_option maxHeartbeats 400000 in
theorem CC.impl_NodesValid_l1 (B : Nat) (hB1 : 67108864 ≤ B) (hB2 : B ≤ 9223372036854775807) (list : List Vl.Node) : (∀ (i : Nat) (o : Lo Bool Unit), F.impl_NodesValid_l1 list i = some o → ∀ (c : Code), navO [1, 0, 1, 0, 0] (bodyOf Try.f29) = some c → ∀ (Q : Exit → ASt → Prop), o.post (fun r => ∀ st, Post Try.prog Try.f29 (fun r' _ => r'.le (.lit (.bool r))) .ret st → Q .ret st) (fun s => Q (.exit 0) ⟨[(0, .arr (List.map Vl.Node.c list))], []⟩) → ALoopU Try.prog B 0 40 (hold c .mk) ⟨[(0, .arr (List.map Vl.Node.c list)), (5, .arr (List.map Vl.Node.c list)), (6, .lit (.int .i64 (list.length : Int))), (7, .lit (.int .i64 (i : Int)))], []⟩ (hold Q .mk)) := by
  refine F.impl_NodesValid_l1.partial_correctness list
    (fun i o => ∀ (c : Code), navO [1, 0, 1, 0, 0] (bodyOf Try.f29) = some c → ∀ (Q : Exit → ASt → Prop), o.post (fun r => ∀ st, Post Try.prog Try.f29 (fun r' _ => r'.le (.lit (.bool r))) .ret st → Q .ret st) (fun s => Q (.exit 0) ⟨[(0, .arr (List.map Vl.Node.c list))], []⟩) → ALoopU Try.prog B 0 40 (hold c .mk) ⟨[(0, .arr (List.map Vl.Node.c list)), (5, .arr (List.map Vl.Node.c list)), (6, .lit (.int .i64 (list.length : Int))), (7, .lit (.int .i64 (i : Int)))], []⟩ (hold Q .mk))
    ?_
  · intro _f_impl_NodesValid_l1 ih_impl_NodesValid_l1 i o hF
    intro c hc Q hq
    obtain rfl : c = _ := navEq hc rfl
    refine ALoopU.know fun hk hs => ?_
    have b0 := hk 0
    simp -dsimp at b0
    have b5 := hk 5
    simp -dsimp at b5
    clear hk hs
    refine ALoopU.enter ?_
    simp -dsimp
    repeat (refine chk.go (by first | omega | assumption | (simp_all; done) | (simp_all; omega)) ?_; simp -dsimp)
    refine abr.split (fun h1 => ?_) (fun h1 => ?_)
    · have q2 : (i < list.length) := by first | exact h1 | omega | (simpa using h1) | (simp at h1 ⊢; omega) | simp_all
      have z3 : ((i : Int) < (list.length : Int)) := by first | omega | simp_all
      rw [if_pos q2] at hF
      have hF := ob hF; obtain ⟨x, e4, hF⟩ := hF
      have le4 := lt_of_get e4
      simp -dsimp [h1, z3, ↓e4]
      repeat (refine chk.go (by first | omega | assumption | (simp_all; done) | (simp_all; omega)) ?_; simp -dsimp [h1, z3, ↓e4])
      have hF := ob hF; obtain ⟨v, e5, hF⟩ := hF
      refine ((C.impl_within B hB1 hB2 x.op (0 : Int) (2 : Int) v e5)).goW (by simp) (by simp) ?_
      simp -dsimp [h1, z3, ↓e4]
      repeat (refine chk.go (by first | omega | assumption | (simp_all; done) | (simp_all; omega)) ?_; simp -dsimp [h1, z3, ↓e4])
      refine abr.split (fun h6 => ?_) (fun h6 => ?_)
      · have q7 : (v = true) := by first | exact h6 | omega | (simpa using h6) | (simp at h6 ⊢; omega) | simp_all
        rw [if_pos q7] at hF
        simp -dsimp [h1, z3, ↓e4, h6]
        repeat (refine chk.go (by first | omega | assumption | (simp_all; done) | (simp_all; omega)) ?_; simp -dsimp [h1, z3, ↓e4, h6])
        refine abr.split (fun h8 => ?_) (fun h8 => ?_)
        · have q9 : ¬ (10 < x.edges.length) := by first | exact h8 | omega | (simpa using h8) | (simp at h8 ⊢; omega) | simp_all
          have z10 : ¬ ((10 : Int) < (x.edges.length : Int)) := by first | omega | simp_all
          rw [if_neg q9] at hF
          simp -dsimp [h1, z3, ↓e4, h6, h8, q9, z10]
          repeat (refine chk.go (by first | omega | assumption | (simp_all; done) | (simp_all; omega)) ?_; simp -dsimp [h1, z3, ↓e4, h6, h8, q9, z10])
          have hF := ob hF; obtain ⟨v11, e12, hF⟩ := hF
          refine ((C.impl_within B hB1 hB2 x.els (-1 : Int) (IntKind.i64.wrap ((i : Int) - 1)) v11 e12)).goW (by simp) (by simp) ?_
          simp -dsimp [h1, z3, ↓e4, h6, h8, q9, z10]
          repeat (refine chk.go (by first | omega | assumption | (simp_all; done) | (simp_all; omega)) ?_; simp -dsimp [h1, z3, ↓e4, h6, h8, q9, z10])
          refine abr.split (fun h13 => ?_) (fun h13 => ?_)
          · have q14 : (v11 = true) := by first | exact h13 | omega | (simpa using h13) | (simp at h13 ⊢; omega) | simp_all
            rw [if_pos q14] at hF
            simp -dsimp [h1, z3, ↓e4, h6, h8, q9, z10, h13]
            repeat (refine chk.go (by first | omega | assumption | (simp_all; done) | (simp_all; omega)) ?_; simp -dsimp [h1, z3, ↓e4, h6, h8, q9, z10, h13])
            have hF := ob hF; obtain ⟨v15, e16, hF⟩ := hF
            refine ((C.slices_ContainsFunc_Edge__impl_NodesValid_1 B hB1 hB2 x.edges (i : Int) v15 e16)).lend (by simp -dsimp) (by simp -dsimp) ?_
            simp -dsimp [h1, z3, ↓e4, h6, h8, q9, z10, h13]
            repeat (refine chk.go (by first | omega | assumption | (simp_all; done) | (simp_all; omega)) ?_; simp -dsimp [h1, z3, ↓e4, h6, h8, q9, z10, h13])
            refine abr.split (fun h17 => ?_) (fun h17 => ?_)
            · have q18 : (v15 = true) := by first | exact h17 | omega | (simpa using h17) | (simp at h17 ⊢; omega) | simp_all
              rw [if_pos q18] at hF
              cases hF
              simp -dsimp [h1, z3, ↓e4, h6, h8, q9, z10, h13, h17]
              repeat (refine chk.go (by first | omega | assumption | (simp_all; done) | (simp_all; omega)) ?_; simp -dsimp [h1, z3, ↓e4, h6, h8, q9, z10, h13, h17])
              refine Leave.go _ (Gh.refl _) (hq _ ?_)
              simp -dsimp [h1, z3, ↓e4, h6, h8, q9, z10, h13, h17]
              repeat (refine chk.go (by first | omega | assumption | (simp_all; done) | (simp_all; omega)) ?_; simp -dsimp [h1, z3, ↓e4, h6, h8, q9, z10, h13, h17])
            · have q18 : ¬ (v15 = true) := by first | exact h17 | omega | (simpa using h17) | (simp at h17 ⊢; omega) | simp_all
              rw [if_neg q18] at hF
              have w19 : IntKind.i64.wrap ((i : Int) + 1) = (i : Int) + 1 := wrap_in (by omega) (by omega)
              simp -dsimp [h1, z3, ↓e4, h6, h8, q9, z10, h13, h17, q18, w19]
              repeat (refine chk.go (by first | omega | assumption | (simp_all; done) | (simp_all; omega)) ?_; simp -dsimp [h1, z3, ↓e4, h6, h8, q9, z10, h13, h17, q18, w19])
              refine Again.go ⟨[(0, .arr (List.map Vl.Node.c list)), (5, .arr (List.map Vl.Node.c list)), (6, .lit (.int .i64 (list.length : Int))), (7, .lit (.int .i64 ((i + 1) : Int)))], []⟩ (Gh.to (by simp) (by simp -dsimp) (by simp -dsimp) (by simp -dsimp)) ?_
              exact (ih_impl_NodesValid_l1 (i + 1) o hF) _ rfl _ hq
          · have q14 : ¬ (v11 = true) := by first | exact h13 | omega | (simpa using h13) | (simp at h13 ⊢; omega) | simp_all
            rw [if_neg q14] at hF
            cases hF
            simp -dsimp [h1, z3, ↓e4, h6, h8, q9, z10, h13, q14]
            repeat (refine chk.go (by first | omega | assumption | (simp_all; done) | (simp_all; omega)) ?_; simp -dsimp [h1, z3, ↓e4, h6, h8, q9, z10, h13, q14])
            refine Leave.go _ (Gh.refl _) (hq _ ?_)
            simp -dsimp [h1, z3, ↓e4, h6, h8, q9, z10, h13, q14]
            repeat (refine chk.go (by first | omega | assumption | (simp_all; done) | (simp_all; omega)) ?_; simp -dsimp [h1, z3, ↓e4, h6, h8, q9, z10, h13, q14])
        · have q9 : (10 < x.edges.length) := by first | exact h8 | omega | (simpa using h8) | (simp at h8 ⊢; omega) | simp_all
          have z10 : ((10 : Int) < (x.edges.length : Int)) := by first | omega | simp_all
          rw [if_pos q9] at hF
          cases hF
          simp -dsimp [h1, z3, ↓e4, h6, h8, q9, z10]
          repeat (refine chk.go (by first | omega | assumption | (simp_all; done) | (simp_all; omega)) ?_; simp -dsimp [h1, z3, ↓e4, h6, h8, q9, z10])
          refine Leave.go _ (Gh.refl _) (hq _ ?_)
          simp -dsimp [h1, z3, ↓e4, h6, h8, q9, z10]
          repeat (refine chk.go (by first | omega | assumption | (simp_all; done) | (simp_all; omega)) ?_; simp -dsimp [h1, z3, ↓e4, h6, h8, q9, z10])
      · have q7 : ¬ (v = true) := by first | exact h6 | omega | (simpa using h6) | (simp at h6 ⊢; omega) | simp_all
        rw [if_neg q7] at hF
        cases hF
        simp -dsimp [h1, z3, ↓e4, h6, q7]
        repeat (refine chk.go (by first | omega | assumption | (simp_all; done) | (simp_all; omega)) ?_; simp -dsimp [h1, z3, ↓e4, h6, q7])
        refine Leave.go _ (Gh.refl _) (hq _ ?_)
        simp -dsimp [h1, z3, ↓e4, h6, q7]
        repeat (refine chk.go (by first | omega | assumption | (simp_all; done) | (simp_all; omega)) ?_; simp -dsimp [h1, z3, ↓e4, h6, q7])
    · have q2 : ¬ (i < list.length) := by first | exact h1 | omega | (simpa using h1) | (simp at h1 ⊢; omega) | simp_all
      have z3 : ¬ ((i : Int) < (list.length : Int)) := by first | omega | simp_all
      rw [if_neg q2] at hF
      cases hF
      simp -dsimp [h1, q2, z3]
      repeat (refine chk.go (by first | omega | assumption | (simp_all; done) | (simp_all; omega)) ?_; simp -dsimp [h1, q2, z3])
      refine Leave.go ⟨[(0, .arr (List.map Vl.Node.c list))], []⟩ (Gh.to (by simp) (by simp -dsimp) (by simp -dsimp) (by simp -dsimp)) ?_
      exact hq

theorem C.impl_NodesValid_l1 (B : Nat) (hB1 : 67108864 ≤ B) (hB2 : B ≤ 9223372036854775807) (list : List Vl.Node) (i : Nat) (o : Lo Bool Unit) (hF : F.impl_NodesValid_l1 list i = some o) : ∀ (c : Code), navO [1, 0, 1, 0, 0] (bodyOf Try.f29) = some c → ∀ (Q : Exit → ASt → Prop), o.post (fun r => ∀ st, Post Try.prog Try.f29 (fun r' _ => r'.le (.lit (.bool r))) .ret st → Q .ret st) (fun s => Q (.exit 0) ⟨[(0, .arr (List.map Vl.Node.c list))], []⟩) → ALoopU Try.prog B 0 40 (hold c .mk) ⟨[(0, .arr (List.map Vl.Node.c list)), (5, .arr (List.map Vl.Node.c list)), (6, .lit (.int .i64 (list.length : Int))), (7, .lit (.int .i64 (i : Int)))], []⟩ (hold Q .mk) :=
  (CC.impl_NodesValid_l1 B hB1 hB2 list) i o hF

set_option maxRecDepth 100000 in
set_option maxHeartbeats 400000 in
theorem C.impl_NodesValid (B : Nat) (hB1 : 67108864 ≤ B) (hB2 : B ≤ 9223372036854775807) (list : List Vl.Node) (r : Bool) (hF : F.impl_NodesValid list = some r) : PureCall Try.prog B 29 [.arr (List.map Vl.Node.c list)] (.lit (.bool r)) := by
  unfold F.impl_NodesValid at hF
  refine PureCall.enterLe Try.func29 (by kernel_rfl) rfl Try.ntmps29 (by simp) (by simp) ?_
  simp -dsimp
  repeat (refine chk.go (by first | omega | assumption | (simp_all; done) | (simp_all; omega)) ?_; simp -dsimp)
  have hF := ob hF; obtain ⟨o, ho20, hF⟩ := hF
  refine ALoop.goU ⟨[(0, .arr (List.map Vl.Node.c list)), (5, .arr (List.map Vl.Node.c list)), (6, .lit (.int .i64 (list.length : Int))), (7, .lit (.int .i64 (0 : Int)))], []⟩ (Gh.to (by simp) (by simp -dsimp) (by simp -dsimp) (by simp -dsimp)) ?_
  refine (C.impl_NodesValid_l1 B hB1 hB2 list 0 o ho20) _ rfl _ ?_
  rcases o with r0 | s
  · dsimp only at hF
    cases hF
    intro st h
    simpa using h
  · dsimp only at hF
    simp -dsimp
    repeat (refine chk.go (by first | omega | assumption | (simp_all; done) | (simp_all; omega)) ?_; simp -dsimp)
    have hF := ob hF; obtain ⟨v21, e22, hF⟩ := hF
    refine ((C.impl_within B hB1 hB2 (list.length : Int) (1 : Int) (300 : Int) v21 e22)).goW (by simp) (by simp) ?_
    cases hF
    simp -dsimp
    repeat (refine chk.go (by first | omega | assumption | (simp_all; done) | (simp_all; omega)) ?_; simp -dsimp)

set_option maxRecDepth 100000 in
set_option maxHeartbeats 400000 in
theorem CC.laws_eqIntS_l1 (B : Nat) (hB1 : 67108864 ≤ B) (hB2 : B ≤ 9223372036854775807) (a : List Int) (b : List Int) : (∀ (i : Nat) (o : Lo Bool Unit), F.laws_eqIntS_l1 a b i = some o → ∀ (c : Code), navO [1, 1, 0, 1, 0, 0] (bodyOf Try.f15) = some c → ∀ (Q : Exit → ASt → Prop), o.post (fun r => ∀ st, Post Try.prog Try.f15 (fun r' _ => r'.le (.lit (.bool r))) .ret st → Q .ret st) (fun s => Q (.exit 0) ⟨[], []⟩) → ALoopU Try.prog B 0 26 (hold c .mk) ⟨[(0, .arr (List.map cI a)), (1, .arr (List.map cI b)), (5, .lit (.int .i64 (i : Int)))], []⟩ (hold Q .mk)) := by
  refine F.laws_eqIntS_l1.partial_correctness a b
    (fun i o => ∀ (c : Code), navO [1, 1, 0, 1, 0, 0] (bodyOf Try.f15) = some c → ∀ (Q : Exit → ASt → Prop), o.post (fun r => ∀ st, Post Try.prog Try.f15 (fun r' _ => r'.le (.lit (.bool r))) .ret st → Q .ret st) (fun s => Q (.exit 0) ⟨[], []⟩) → ALoopU Try.prog B 0 26 (hold c .mk) ⟨[(0, .arr (List.map cI a)), (1, .arr (List.map cI b)), (5, .lit (.int .i64 (i : Int)))], []⟩ (hold Q .mk))
    ?_
  · intro _f_laws_eqIntS_l1 ih_laws_eqIntS_l1 i o hF
    intro c hc Q hq
    obtain rfl : c = _ := navEq hc rfl
    refine ALoopU.know fun hk hs => ?_
    have b0 := hk 0
    simp -dsimp at b0
    have b1 := hk 1
    simp -dsimp at b1
    clear hk hs
    refine ALoopU.enter ?_
    simp -dsimp
    repeat (refine chk.go (by first | omega | assumption | (simp_all; done) | (simp_all; omega)) ?_; simp -dsimp)
    refine abr.split (fun h4 => ?_) (fun h4 => ?_)
    · have q5 : (i < a.length) := by first | exact h4 | omega | (simpa using h4) | (simp at h4 ⊢; omega) | simp_all
      have z6 : ((i : Int) < (a.length : Int)) := by first | omega | simp_all
      rw [if_pos q5] at hF
      simp -dsimp [h4, z6]
      repeat (refine chk.go (by first | omega | assumption | (simp_all; done) | (simp_all; omega)) ?_; simp -dsimp [h4, z6])
      refine ADraw.simple follows (by kernel_rfl) (by kernel_rfl) ?_
      have hF := ob hF; obtain ⟨x, e7, hF⟩ := hF
      have le7 := lt_of_get e7
      have hF := ob hF; obtain ⟨x8, e9, hF⟩ := hF
      have le9 := lt_of_get e9
      simp -dsimp [h4, z6, ↓e7, ↓e9]
      repeat (refine chk.go (by first | omega | assumption | (simp_all; done) | (simp_all; omega)) ?_; simp -dsimp [h4, z6, ↓e7, ↓e9])
      refine abr.split (fun h10 => ?_) (fun h10 => ?_)
      · have q11 : ¬ (x = x8) := by first | exact h10 | omega | (simpa using h10) | (simp at h10 ⊢; omega) | simp_all
        rw [if_neg q11] at hF
        cases hF
        simp -dsimp [h4, z6, ↓e7, ↓e9, h10, q11]
        repeat (refine chk.go (by first | omega | assumption | (simp_all; done) | (simp_all; omega)) ?_; simp -dsimp [h4, z6, ↓e7, ↓e9, h10, q11])
        refine Leave.go _ (Gh.refl _) (hq _ ?_)
        simp -dsimp [h4, z6, ↓e7, ↓e9, h10, q11]
        repeat (refine chk.go (by first | omega | assumption | (simp_all; done) | (simp_all; omega)) ?_; simp -dsimp [h4, z6, ↓e7, ↓e9, h10, q11])
      · have q11 : (x = x8) := by first | exact h10 | omega | (simpa using h10) | (simp at h10 ⊢; omega) | simp_all
        rw [if_pos q11] at hF
        have w12 : IntKind.i64.wrap ((i : Int) + 1) = (i : Int) + 1 := wrap_in (by omega) (by omega)
        simp -dsimp [h4, z6, ↓e7, ↓e9, h10, q11, w12]
        repeat (refine chk.go (by first | omega | assumption | (simp_all; done) | (simp_all; omega)) ?_; simp -dsimp [h4, z6, ↓e7, ↓e9, h10, q11, w12])
        refine Again.go ⟨[(0, .arr (List.map cI a)), (1, .arr (List.map cI b)), (5, .lit (.int .i64 ((i + 1) : Int)))], []⟩ (Gh.to (by simp) (by simp -dsimp) (by simp -dsimp) (by simp -dsimp)) ?_
        exact (ih_laws_eqIntS_l1 (i + 1) o hF) _ rfl _ hq
    · have q5 : ¬ (i < a.length) := by first | exact h4 | omega | (simpa using h4) | (simp at h4 ⊢; omega) | simp_all
      have z6 : ¬ ((i : Int) < (a.length : Int)) := by first | omega | simp_all
      rw [if_neg q5] at hF
      cases hF
      simp -dsimp [h4, q5, z6]
      repeat (refine chk.go (by first | omega | assumption | (simp_all; done) | (simp_all; omega)) ?_; simp -dsimp [h4, q5, z6])
      refine Leave.go ⟨[], []⟩ (Gh.to (by simp) (by simp -dsimp) (by simp -dsimp) (by simp -dsimp)) ?_
      exact hq

theorem C.laws_eqIntS_l1 (B : Nat) (hB1 : 67108864 ≤ B) (hB2 : B ≤ 9223372036854775807) (a : List Int) (b : List Int) (i : Nat) (o : Lo Bool Unit) (hF : F.laws_eqIntS_l1 a b i = some o) : ∀ (c : Code), navO [1, 1, 0, 1, 0, 0] (bodyOf Try.f15) = some c → ∀ (Q : Exit → ASt → Prop), o.post (fun r => ∀ st, Post Try.prog Try.f15 (fun r' _ => r'.le (.lit (.bool r))) .ret st → Q .ret st) (fun s => Q (.exit 0) ⟨[], []⟩) → ALoopU Try.prog B 0 26 (hold c .mk) ⟨[(0, .arr (List.map cI a)), (1, .arr (List.map cI b)), (5, .lit (.int .i64 (i : Int)))], []⟩ (hold Q .mk) :=
  (CC.laws_eqIntS_l1 B hB1 hB2 a b) i o hF

set_option maxRecDepth 100000 in
set_option maxHeartbeats 400000 in
theorem C.laws_eqIntS (B : Nat) (hB1 : 67108864 ≤ B) (hB2 : B ≤ 9223372036854775807) (a : List Int) (b : List Int) (r : Bool) (hF : F.laws_eqIntS a b = some r) : PureCall Try.prog B 15 [.arr (List.map cI a), .arr (List.map cI b)] (.lit (.bool r)) := by
  unfold F.laws_eqIntS at hF
  refine PureCall.enterLe Try.func15 (by kernel_rfl) rfl Try.ntmps15 (by simp) (by simp) ?_
  simp -dsimp
  repeat (refine chk.go (by first | omega | assumption | (simp_all; done) | (simp_all; omega)) ?_; simp -dsimp)
  refine abr.split (fun h1 => ?_) (fun h1 => ?_)
  · have q2 : ¬ (a.length = b.length) := by first | exact h1 | omega | (simpa using h1) | (simp at h1 ⊢; omega) | simp_all
    have z3 : ¬ ((a.length : Int) = (b.length : Int)) := by first | omega | simp_all
    rw [if_neg q2] at hF
    cases hF
    simp -dsimp [h1, q2, z3]
    repeat (refine chk.go (by first | omega | assumption | (simp_all; done) | (simp_all; omega)) ?_; simp -dsimp [h1, q2, z3])
  · have q2 : (a.length = b.length) := by first | exact h1 | omega | (simpa using h1) | (simp at h1 ⊢; omega) | simp_all
    have z3 : ((a.length : Int) = (b.length : Int)) := by first | omega | simp_all
    rw [if_pos q2] at hF
    simp -dsimp [h1, q2, z3]
    repeat (refine chk.go (by first | omega | assumption | (simp_all; done) | (simp_all; omega)) ?_; simp -dsimp [h1, q2, z3])
    have hF := ob hF; obtain ⟨o, ho13, hF⟩ := hF
    refine ALoop.goU ⟨[(0, .arr (List.map cI a)), (1, .arr (List.map cI b)), (5, .lit (.int .i64 (0 : Int)))], []⟩ (Gh.to (by simp) (by simp -dsimp) (by simp -dsimp) (by simp -dsimp)) ?_
    refine (C.laws_eqIntS_l1 B hB1 hB2 a b 0 o ho13) _ rfl _ ?_
    rcases o with r0 | s
    · dsimp only at hF
      cases hF
      intro st h
      simpa using h
    · dsimp only at hF
      cases hF
      simp -dsimp
      repeat (refine chk.go (by first | omega | assumption | (simp_all; done) | (simp_all; omega)) ?_; simp -dsimp)

set_option maxRecDepth 100000 in
set_option maxHeartbeats 400000 in
theorem C.laws_eqPathBind (B : Nat) (hB1 : 67108864 ≤ B) (hB2 : B ≤ 9223372036854775807) (a : Vl.PathBind) (b : Vl.PathBind) (r : Bool) (hF : F.laws_eqPathBind a b = some r) : PureCall Try.prog B 76 [.agg [.lit (.int .i64 a.var), .arr (List.map cI a.path)], .agg [.lit (.int .i64 b.var), .arr (List.map cI b.path)]] (.lit (.bool r)) := by
  unfold F.laws_eqPathBind at hF
  refine PureCall.enterLe Try.func76 (by kernel_rfl) rfl Try.ntmps76 (by simp) (by simp) ?_
  simp -dsimp
  repeat (refine chk.go (by first | omega | assumption | (simp_all; done) | (simp_all; omega)) ?_; simp -dsimp)
  refine abr.split (fun h1 => ?_) (fun h1 => ?_)
  · have q2 : ¬ (a.var = b.var) := by first | exact h1 | omega | (simpa using h1) | (simp at h1 ⊢; omega) | simp_all
    rw [if_neg q2] at hF
    cases hF
    simp -dsimp [h1, q2]
    repeat (refine chk.go (by first | omega | assumption | (simp_all; done) | (simp_all; omega)) ?_; simp -dsimp [h1, q2])
  · have q2 : (a.var = b.var) := by first | exact h1 | omega | (simpa using h1) | (simp at h1 ⊢; omega) | simp_all
    rw [if_pos q2] at hF
    simp -dsimp [h1, q2]
    repeat (refine chk.go (by first | omega | assumption | (simp_all; done) | (simp_all; omega)) ?_; simp -dsimp [h1, q2])
    have hF := ob hF; obtain ⟨v, e3, hF⟩ := hF
    refine ((C.laws_eqIntS B hB1 hB2 a.path b.path v e3)).goW (by simp) (by simp) ?_
    simp -dsimp [h1, q2]
    repeat (refine chk.go (by first | omega | assumption | (simp_all; done) | (simp_all; omega)) ?_; simp -dsimp [h1, q2])
    refine abr.split (fun h4 => ?_) (fun h4 => ?_)
    · have q5 : ¬ (v = true) := by first | exact h4 | omega | (simpa using h4) | (simp at h4 ⊢; omega) | simp_all
      rw [if_neg q5] at hF
      cases hF
      simp -dsimp [h1, q2, h4, q5]
      repeat (refine chk.go (by first | omega | assumption | (simp_all; done) | (simp_all; omega)) ?_; simp -dsimp [h1, q2, h4, q5])
    · have q5 : (v = true) := by first | exact h4 | omega | (simpa using h4) | (simp at h4 ⊢; omega) | simp_all
      rw [if_pos q5] at hF
      cases hF
      simp -dsimp [h1, q2, h4, q5]
      repeat (refine chk.go (by first | omega | assumption | (simp_all; done) | (simp_all; omega)) ?_; simp -dsimp [h1, q2, h4, q5])

set_option maxRecDepth 100000 in
set_option maxHeartbeats 400000 in
theorem CC.laws_eqPathBindS_l1 (B : Nat) (hB1 : 67108864 ≤ B) (hB2 : B ≤ 9223372036854775807) (a : List Vl.PathBind) (b : List Vl.PathBind) : (∀ (i : Nat) (o : Lo Bool Unit), F.laws_eqPathBindS_l1 a b i = some o → ∀ (c : Code), navO [1, 1, 0, 1, 0, 0] (bodyOf Try.f65) = some c → ∀ (Q : Exit → ASt → Prop), o.post (fun r => ∀ st, Post Try.prog Try.f65 (fun r' _ => r'.le (.lit (.bool r))) .ret st → Q .ret st) (fun s => Q (.exit 0) ⟨[], []⟩) → ALoopU Try.prog B 0 27 (hold c .mk) ⟨[(0, .arr (List.map Vl.PathBind.c a)), (1, .arr (List.map Vl.PathBind.c b)), (5, .lit (.int .i64 (i : Int)))], []⟩ (hold Q .mk)) := by
  refine F.laws_eqPathBindS_l1.partial_correctness a b
    (fun i o => ∀ (c : Code), navO [1, 1, 0, 1, 0, 0] (bodyOf Try.f65) = some c → ∀ (Q : Exit → ASt → Prop), o.post (fun r => ∀ st, Post Try.prog Try.f65 (fun r' _ => r'.le (.lit (.bool r))) .ret st → Q .ret st) (fun s => Q (.exit 0) ⟨[], []⟩) → ALoopU Try.prog B 0 27 (hold c .mk) ⟨[(0, .arr (List.map Vl.PathBind.c a)), (1, .arr (List.map Vl.PathBind.c b)), (5, .lit (.int .i64 (i : Int)))], []⟩ (hold Q .mk))
    ?_
  · intro _f_laws_eqPathBindS_l1 ih_laws_eqPathBindS_l1 i o hF
    intro c hc Q hq
    obtain rfl : c = _ := navEq hc rfl
    refine ALoopU.know fun hk hs => ?_
    have b0 := hk 0
    simp -dsimp at b0
    have b1 := hk 1
    simp -dsimp at b1
    clear hk hs
    refine ALoopU.enter ?_
    simp -dsimp
    repeat (refine chk.go (by first | omega | assumption | (simp_all; done) | (simp_all; omega)) ?_; simp -dsimp)
    refine abr.split (fun h4 => ?_) (fun h4 => ?_)
    · have q5 : (i < a.length) := by first | exact h4 | omega | (simpa using h4) | (simp at h4 ⊢; omega) | simp_all
      have z6 : ((i : Int) < (a.length : Int)) := by first | omega | simp_all
      rw [if_pos q5] at hF
      simp -dsimp [h4, z6]
      repeat (refine chk.go (by first | omega | assumption | (simp_all; done) | (simp_all; omega)) ?_; simp -dsimp [h4, z6])
      refine ADraw.simple follows (by kernel_rfl) (by kernel_rfl) ?_
      have hF := ob hF; obtain ⟨x, e7, hF⟩ := hF
      have le7 := lt_of_get e7
      have hF := ob hF; obtain ⟨x8, e9, hF⟩ := hF
      have le9 := lt_of_get e9
      simp -dsimp [h4, z6, ↓e7, ↓e9]
      repeat (refine chk.go (by first | omega | assumption | (simp_all; done) | (simp_all; omega)) ?_; simp -dsimp [h4, z6, ↓e7, ↓e9])
      have hF := ob hF; obtain ⟨v, e10, hF⟩ := hF
      refine ((C.laws_eqPathBind B hB1 hB2 x x8 v e10)).pgoW (by simp) (by simp) ?_
      simp -dsimp [h4, z6, ↓e7, ↓e9]
      repeat (refine chk.go (by first | omega | assumption | (simp_all; done) | (simp_all; omega)) ?_; simp -dsimp [h4, z6, ↓e7, ↓e9])
      refine abr.split (fun h11 => ?_) (fun h11 => ?_)
      · have q12 : ¬ (v = true) := by first | exact h11 | omega | (simpa using h11) | (simp at h11 ⊢; omega) | simp_all
        rw [if_neg q12] at hF
        cases hF
        simp -dsimp [h4, z6, ↓e7, ↓e9, h11, q12]
        repeat (refine chk.go (by first | omega | assumption | (simp_all; done) | (simp_all; omega)) ?_; simp -dsimp [h4, z6, ↓e7, ↓e9, h11, q12])
        refine Leave.go _ (Gh.refl _) (hq _ ?_)
        simp -dsimp [h4, z6, ↓e7, ↓e9, h11, q12]
        repeat (refine chk.go (by first | omega | assumption | (simp_all; done) | (simp_all; omega)) ?_; simp -dsimp [h4, z6, ↓e7, ↓e9, h11, q12])
      · have q12 : (v = true) := by first | exact h11 | omega | (simpa using h11) | (simp at h11 ⊢; omega) | simp_all
        rw [if_pos q12] at hF
        have w13 : IntKind.i64.wrap ((i : Int) + 1) = (i : Int) + 1 := wrap_in (by omega) (by omega)
        simp -dsimp [h4, z6, ↓e7, ↓e9, h11, q12, w13]
        repeat (refine chk.go (by first | omega | assumption | (simp_all; done) | (simp_all; omega)) ?_; simp -dsimp [h4, z6, ↓e7, ↓e9, h11, q12, w13])
        refine Again.go ⟨[(0, .arr (List.map Vl.PathBind.c a)), (1, .arr (List.map Vl.PathBind.c b)), (5, .lit (.int .i64 ((i + 1) : Int)))], []⟩ (Gh.to (by simp) (by simp -dsimp) (by simp -dsimp) (by simp -dsimp)) ?_
        exact (ih_laws_eqPathBindS_l1 (i + 1) o hF) _ rfl _ hq
    · have q5 : ¬ (i < a.length) := by first | exact h4 | omega | (simpa using h4) | (simp at h4 ⊢; omega) | simp_all
      have z6 : ¬ ((i : Int) < (a.length : Int)) := by first | omega | simp_all
      rw [if_neg q5] at hF
      cases hF
      simp -dsimp [h4, q5, z6]
      repeat (refine chk.go (by first | omega | assumption | (simp_all; done) | (simp_all; omega)) ?_; simp -dsimp [h4, q5, z6])
      refine Leave.go ⟨[], []⟩ (Gh.to (by simp) (by simp -dsimp) (by simp -dsimp) (by simp -dsimp)) ?_
      exact hq

theorem C.laws_eqPathBindS_l1 (B : Nat) (hB1 : 67108864 ≤ B) (hB2 : B ≤ 9223372036854775807) (a : List Vl.PathBind) (b : List Vl.PathBind) (i : Nat) (o : Lo Bool Unit) (hF : F.laws_eqPathBindS_l1 a b i = some o) : ∀ (c : Code), navO [1, 1, 0, 1, 0, 0] (bodyOf Try.f65) = some c → ∀ (Q : Exit → ASt → Prop), o.post (fun r => ∀ st, Post Try.prog Try.f65 (fun r' _ => r'.le (.lit (.bool r))) .ret st → Q .ret st) (fun s => Q (.exit 0) ⟨[], []⟩) → ALoopU Try.prog B 0 27 (hold c .mk) ⟨[(0, .arr (List.map Vl.PathBind.c a)), (1, .arr (List.map Vl.PathBind.c b)), (5, .lit (.int .i64 (i : Int)))], []⟩ (hold Q .mk) :=
  (CC.laws_eqPathBindS_l1 B hB1 hB2 a b) i o hF

set_option maxRecDepth 100000 in
set_option maxHeartbeats 400000 in
theorem C.laws_eqPathBindS (B : Nat) (hB1 : 67108864 ≤ B) (hB2 : B ≤ 9223372036854775807) (a : List Vl.PathBind) (b : List Vl.PathBind) (r : Bool) (hF : F.laws_eqPathBindS a b = some r) : PureCall Try.prog B 65 [.arr (List.map Vl.PathBind.c a), .arr (List.map Vl.PathBind.c b)] (.lit (.bool r)) := by
  unfold F.laws_eqPathBindS at hF
  refine PureCall.enterLe Try.func65 (by kernel_rfl) rfl Try.ntmps65 (by simp) (by simp) ?_
  simp -dsimp
  repeat (refine chk.go (by first | omega | assumption | (simp_all; done) | (simp_all; omega)) ?_; simp -dsimp)
  refine abr.split (fun h1 => ?_) (fun h1 => ?_)
  · have q2 : ¬ (a.length = b.length) := by first | exact h1 | omega | (simpa using h1) | (simp at h1 ⊢; omega) | simp_all
    have z3 : ¬ ((a.length : Int) = (b.length : Int)) := by first | omega | simp_all
    rw [if_neg q2] at hF
    cases hF
    simp -dsimp [h1, q2, z3]
    repeat (refine chk.go (by first | omega | assumption | (simp_all; done) | (simp_all; omega)) ?_; simp -dsimp [h1, q2, z3])
  · have q2 : (a.length = b.length) := by first | exact h1 | omega | (simpa using h1) | (simp at h1 ⊢; omega) | simp_all
    have z3 : ((a.length : Int) = (b.length : Int)) := by first | omega | simp_all
    rw [if_pos q2] at hF
    simp -dsimp [h1, q2, z3]
    repeat (refine chk.go (by first | omega | assumption | (simp_all; done) | (simp_all; omega)) ?_; simp -dsimp [h1, q2, z3])
    have hF := ob hF; obtain ⟨o, ho14, hF⟩ := hF
    refine ALoop.goU ⟨[(0, .arr (List.map Vl.PathBind.c a)), (1, .arr (List.map Vl.PathBind.c b)), (5, .lit (.int .i64 (0 : Int)))], []⟩ (Gh.to (by simp) (by simp -dsimp) (by simp -dsimp) (by simp -dsimp)) ?_
    refine (C.laws_eqPathBindS_l1 B hB1 hB2 a b 0 o ho14) _ rfl _ ?_
    rcases o with r0 | s
    · dsimp only at hF
      cases hF
      intro st h
      simpa using h
    · dsimp only at hF
      cases hF
      simp -dsimp
      repeat (refine chk.go (by first | omega | assumption | (simp_all; done) | (simp_all; omega)) ?_; simp -dsimp)

set_option maxRecDepth 100000 in
set_option maxHeartbeats 400000 in
theorem C.laws_eqEdge (B : Nat) (hB1 : 67108864 ≤ B) (hB2 : B ≤ 9223372036854775807) (a : Vl.Edge) (b : Vl.Edge) (r : Bool) (hF : F.laws_eqEdge a b = some r) : PureCall Try.prog B 79 [.agg [.lit (.int .i64 a.ctor), .lit (.int .i64 a.n), .lit (.int .i64 a.m), .lit (.int .i64 a.to)], .agg [.lit (.int .i64 b.ctor), .lit (.int .i64 b.n), .lit (.int .i64 b.m), .lit (.int .i64 b.to)]] (.lit (.bool r)) := by
  unfold F.laws_eqEdge at hF
  refine PureCall.enterLe Try.func79 (by kernel_rfl) rfl Try.ntmps79 (by simp) (by simp) ?_
  simp -dsimp
  repeat (refine chk.go (by first | omega | assumption | (simp_all; done) | (simp_all; omega)) ?_; simp -dsimp)
  refine abr.split (fun h1 => ?_) (fun h1 => ?_)
  · have q2 : ¬ (a.ctor = b.ctor) := by first | exact h1 | omega | (simpa using h1) | (simp at h1 ⊢; omega) | simp_all
    rw [if_neg q2] at hF
    cases hF
    simp -dsimp [h1, q2]
    repeat (refine chk.go (by first | omega | assumption | (simp_all; done) | (simp_all; omega)) ?_; simp -dsimp [h1, q2])
  · have q2 : (a.ctor = b.ctor) := by first | exact h1 | omega | (simpa using h1) | (simp at h1 ⊢; omega) | simp_all
    rw [if_pos q2] at hF
    simp -dsimp [h1, q2]
    repeat (refine chk.go (by first | omega | assumption | (simp_all; done) | (simp_all; omega)) ?_; simp -dsimp [h1, q2])
    refine abr.split (fun h3 => ?_) (fun h3 => ?_)
    · have q4 : ¬ (a.n = b.n) := by first | exact h3 | omega | (simpa using h3) | (simp at h3 ⊢; omega) | simp_all
      rw [if_neg q4] at hF
      cases hF
      simp -dsimp [h1, q2, h3, q4]
      repeat (refine chk.go (by first | omega | assumption | (simp_all; done) | (simp_all; omega)) ?_; simp -dsimp [h1, q2, h3, q4])
    · have q4 : (a.n = b.n) := by first | exact h3 | omega | (simpa using h3) | (simp at h3 ⊢; omega) | simp_all
      rw [if_pos q4] at hF
      simp -dsimp [h1, q2, h3, q4]
      repeat (refine chk.go (by first | omega | assumption | (simp_all; done) | (simp_all; omega)) ?_; simp -dsimp [h1, q2, h3, q4])
      refine abr.split (fun h5 => ?_) (fun h5 => ?_)
      · have q6 : ¬ (a.m = b.m) := by first | exact h5 | omega | (simpa using h5) | (simp at h5 ⊢; omega) | simp_all
        rw [if_neg q6] at hF
        cases hF
        simp -dsimp [h1, q2, h3, q4, h5, q6]
        repeat (refine chk.go (by first | omega | assumption | (simp_all; done) | (simp_all; omega)) ?_; simp -dsimp [h1, q2, h3, q4, h5, q6])
      · have q6 : (a.m = b.m) := by first | exact h5 | omega | (simpa using h5) | (simp at h5 ⊢; omega) | simp_all
        rw [if_pos q6] at hF
        simp -dsimp [h1, q2, h3, q4, h5, q6]
        repeat (refine chk.go (by first | omega | assumption | (simp_all; done) | (simp_all; omega)) ?_; simp -dsimp [h1, q2, h3, q4, h5, q6])
        refine abr.split (fun h7 => ?_) (fun h7 => ?_)
        · have q8 : ¬ (a.to = b.to) := by first | exact h7 | omega | (simpa using h7) | (simp at h7 ⊢; omega) | simp_all
          rw [if_neg q8] at hF
          cases hF
          simp -dsimp [h1, q2, h3, q4, h5, q6, h7, q8]
          repeat (refine chk.go (by first | omega | assumption | (simp_all; done) | (simp_all; omega)) ?_; simp -dsimp [h1, q2, h3, q4, h5, q6, h7, q8])
        · have q8 : (a.to = b.to) := by first | exact h7 | omega | (simpa using h7) | (simp at h7 ⊢; omega) | simp_all
          rw [if_pos q8] at hF
          cases hF
          simp -dsimp [h1, q2, h3, q4, h5, q6, h7, q8]
          repeat (refine chk.go (by first | omega | assumption | (simp_all; done) | (simp_all; omega)) ?_; simp -dsimp [h1, q2, h3, q4, h5, q6, h7, q8])

set_option maxRecDepth 100000 in
set_option maxHeartbeats 400000 in
theorem CC.laws_eqEdgeS_l1 (B : Nat) (hB1 : 67108864 ≤ B) (hB2 : B ≤ 9223372036854775807) (a : List Vl.Edge) (b : List Vl.Edge) : (∀ (i : Nat) (o : Lo Bool Unit), F.laws_eqEdgeS_l1 a b i = some o → ∀ (c : Code), navO [1, 1, 0, 1, 0, 0] (bodyOf Try.f71) = some c → ∀ (Q : Exit → ASt → Prop), o.post (fun r => ∀ st, Post Try.prog Try.f71 (fun r' _ => r'.le (.lit (.bool r))) .ret st → Q .ret st) (fun s => Q (.exit 0) ⟨[], []⟩) → ALoopU Try.prog B 0 27 (hold c .mk) ⟨[(0, .arr (List.map Vl.Edge.c a)), (1, .arr (List.map Vl.Edge.c b)), (5, .lit (.int .i64 (i : Int)))], []⟩ (hold Q .mk)) := by
  refine F.laws_eqEdgeS_l1.partial_correctness a b
    (fun i o => ∀ (c : Code), navO [1, 1, 0, 1, 0, 0] (bodyOf Try.f71) = some c → ∀ (Q : Exit → ASt → Prop), o.post (fun r => ∀ st, Post Try.prog Try.f71 (fun r' _ => r'.le (.lit (.bool r))) .ret st → Q .ret st) (fun s => Q (.exit 0) ⟨[], []⟩) → ALoopU Try.prog B 0 27 (hold c .mk) ⟨[(0, .arr (List.map Vl.Edge.c a)), (1, .arr (List.map Vl.Edge.c b)), (5, .lit (.int .i64 (i : Int)))], []⟩ (hold Q .mk))
    ?_
  · intro _f_laws_eqEdgeS_l1 ih_laws_eqEdgeS_l1 i o hF
    intro c hc Q hq
    obtain rfl : c = _ := navEq hc rfl
    refine ALoopU.know fun hk hs => ?_
    have b0 := hk 0
    simp -dsimp at b0
    have b1 := hk 1
    simp -dsimp at b1
    clear hk hs
    refine ALoopU.enter ?_
    simp -dsimp
    repeat (refine chk.go (by first | omega | assumption | (simp_all; done) | (simp_all; omega)) ?_; simp -dsimp)
    refine abr.split (fun h4 => ?_) (fun h4 => ?_)
    · have q5 : (i < a.length) := by first | exact h4 | omega | (simpa using h4) | (simp at h4 ⊢; omega) | simp_all
      have z6 : ((i : Int) < (a.length : Int)) := by first | omega | simp_all
      rw [if_pos q5] at hF
      simp -dsimp [h4, z6]
      repeat (refine chk.go (by first | omega | assumption | (simp_all; done) | (simp_all; omega)) ?_; simp -dsimp [h4, z6])
      refine ADraw.simple follows (by kernel_rfl) (by kernel_rfl) ?_
      have hF := ob hF; obtain ⟨x, e7, hF⟩ := hF
      have le7 := lt_of_get e7
      have hF := ob hF; obtain ⟨x8, e9, hF⟩ := hF
      have le9 := lt_of_get e9
      simp -dsimp [h4, z6, ↓e7, ↓e9]
      repeat (refine chk.go (by first | omega | assumption | (simp_all; done) | (simp_all; omega)) ?_; simp -dsimp [h4, z6, ↓e7, ↓e9])
      have hF := ob hF; obtain ⟨v, e10, hF⟩ := hF
      refine ((C.laws_eqEdge B hB1 hB2 x x8 v e10)).pgoW (by simp) (by simp) ?_
      simp -dsimp [h4, z6, ↓e7, ↓e9]
      repeat (refine chk.go (by first | omega | assumption | (simp_all; done) | (simp_all; omega)) ?_; simp -dsimp [h4, z6, ↓e7, ↓e9])
      refine abr.split (fun h11 => ?_) (fun h11 => ?_)
      · have q12 : ¬ (v = true) := by first | exact h11 | omega | (simpa using h11) | (simp at h11 ⊢; omega) | simp_all
        rw [if_neg q12] at hF
        cases hF
        simp -dsimp [h4, z6, ↓e7, ↓e9, h11, q12]
        repeat (refine chk.go (by first | omega | assumption | (simp_all; done) | (simp_all; omega)) ?_; simp -dsimp [h4, z6, ↓e7, ↓e9, h11, q12])
        refine Leave.go _ (Gh.refl _) (hq _ ?_)
        simp -dsimp [h4, z6, ↓e7, ↓e9, h11, q12]
        repeat (refine chk.go (by first | omega | assumption | (simp_all; done) | (simp_all; omega)) ?_; simp -dsimp [h4, z6, ↓e7, ↓e9, h11, q12])
      · have q12 : (v = true) := by first | exact h11 | omega | (simpa using h11) | (simp at h11 ⊢; omega) | simp_all
        rw [if_pos q12] at hF
        have w13 : IntKind.i64.wrap ((i : Int) + 1) = (i : Int) + 1 := wrap_in (by omega) (by omega)
        simp -dsimp [h4, z6, ↓e7, ↓e9, h11, q12, w13]
        repeat (refine chk.go (by first | omega | assumption | (simp_all; done) | (simp_all; omega)) ?_; simp -dsimp [h4, z6, ↓e7, ↓e9, h11, q12, w13])
        refine Again.go ⟨[(0, .arr (List.map Vl.Edge.c a)), (1, .arr (List.map Vl.Edge.c b)), (5, .lit (.int .i64 ((i + 1) : Int)))], []⟩ (Gh.to (by simp) (by simp -dsimp) (by simp -dsimp) (by simp -dsimp)) ?_
        exact (ih_laws_eqEdgeS_l1 (i + 1) o hF) _ rfl _ hq
    · have q5 : ¬ (i < a.length) := by first | exact h4 | omega | (simpa using h4) | (simp at h4 ⊢; omega) | simp_all
      have z6 : ¬ ((i : Int) < (a.length : Int)) := by first | omega | simp_all
      rw [if_neg q5] at hF
      cases hF
      simp -dsimp [h4, q5, z6]
      repeat (refine chk.go (by first | omega | assumption | (simp_all; done) | (simp_all; omega)) ?_; simp -dsimp [h4, q5, z6])
      refine Leave.go ⟨[], []⟩ (Gh.to (by simp) (by simp -dsimp) (by simp -dsimp) (by simp -dsimp)) ?_
      exact hq

theorem C.laws_eqEdgeS_l1 (B : Nat) (hB1 : 67108864 ≤ B) (hB2 : B ≤ 9223372036854775807) (a : List Vl.Edge) (b : List Vl.Edge) (i : Nat) (o : Lo Bool Unit) (hF : F.laws_eqEdgeS_l1 a b i = some o) : ∀ (c : Code), navO [1, 1, 0, 1, 0, 0] (bodyOf Try.f71) = some c → ∀ (Q : Exit → ASt → Prop), o.post (fun r => ∀ st, Post Try.prog Try.f71 (fun r' _ => r'.le (.lit (.bool r))) .ret st → Q .ret st) (fun s => Q (.exit 0) ⟨[], []⟩) → ALoopU Try.prog B 0 27 (hold c .mk) ⟨[(0, .arr (List.map Vl.Edge.c a)), (1, .arr (List.map Vl.Edge.c b)), (5, .lit (.int .i64 (i : Int)))], []⟩ (hold Q .mk) :=
  (CC.laws_eqEdgeS_l1 B hB1 hB2 a b) i o hF

set_option maxRecDepth 100000 in
set_option maxHeartbeats 400000 in
theorem C.laws_eqEdgeS (B : Nat) (hB1 : 67108864 ≤ B) (hB2 : B ≤ 9223372036854775807) (a : List Vl.Edge) (b : List Vl.Edge) (r : Bool) (hF : F.laws_eqEdgeS a b = some r) : PureCall Try.prog B 71 [.arr (List.map Vl.Edge.c a), .arr (List.map Vl.Edge.c b)] (.lit (.bool r)) := by
  unfold F.laws_eqEdgeS at hF
  refine PureCall.enterLe Try.func71 (by kernel_rfl) rfl Try.ntmps71 (by simp) (by simp) ?_
  simp -dsimp
  repeat (refine chk.go (by first | omega | assumption | (simp_all; done) | (simp_all; omega)) ?_; simp -dsimp)
  refine abr.split (fun h1 => ?_) (fun h1 => ?_)
  · have q2 : ¬ (a.length = b.length) := by first | exact h1 | omega | (simpa using h1) | (simp at h1 ⊢; omega) | simp_all
    have z3 : ¬ ((a.length : Int) = (b.length : Int)) := by first | omega | simp_all
    rw [if_neg q2] at hF
    cases hF
    simp -dsimp [h1, q2, z3]
    repeat (refine chk.go (by first | omega | assumption | (simp_all; done) | (simp_all; omega)) ?_; simp -dsimp [h1, q2, z3])
  · have q2 : (a.length = b.length) := by first | exact h1 | omega | (simpa using h1) | (simp at h1 ⊢; omega) | simp_all
    have z3 : ((a.length : Int) = (b.length : Int)) := by first | omega | simp_all
    rw [if_pos q2] at hF
    simp -dsimp [h1, q2, z3]
    repeat (refine chk.go (by first | omega | assumption | (simp_all; done) | (simp_all; omega)) ?_; simp -dsimp [h1, q2, z3])
    have hF := ob hF; obtain ⟨o, ho14, hF⟩ := hF
    refine ALoop.goU ⟨[(0, .arr (List.map Vl.Edge.c a)), (1, .arr (List.map Vl.Edge.c b)), (5, .lit (.int .i64 (0 : Int)))], []⟩ (Gh.to (by simp) (by simp -dsimp) (by simp -dsimp) (by simp -dsimp)) ?_
    refine (C.laws_eqEdgeS_l1 B hB1 hB2 a b 0 o ho14) _ rfl _ ?_
    rcases o with r0 | s
    · dsimp only at hF
      cases hF
      intro st h
      simpa using h
    · dsimp only at hF
      cases hF
      simp -dsimp
      repeat (refine chk.go (by first | omega | assumption | (simp_all; done) | (simp_all; omega)) ?_; simp -dsimp)

set_option maxRecDepth 100000 in
set_option maxHeartbeats 400000 in
theorem C.laws_eqNode (B : Nat) (hB1 : 67108864 ≤ B) (hB2 : B ≤ 9223372036854775807) (a : Vl.Node) (b : Vl.Node) (r : Bool) (hF : F.laws_eqNode a b = some r) : PureCall Try.prog B 55 [.agg [.lit (.int .i64 a.op), .lit (.int .i64 a.clause), .arr (List.map Vl.PathBind.c a.binds), .arr (List.map cI a.path), .arr (List.map Vl.Edge.c a.edges), .lit (.int .i64 a.els)], .agg [.lit (.int .i64 b.op), .lit (.int .i64 b.clause), .arr (List.map Vl.PathBind.c b.binds), .arr (List.map cI b.path), .arr (List.map Vl.Edge.c b.edges), .lit (.int .i64 b.els)]] (.lit (.bool r)) := by
  unfold F.laws_eqNode at hF
  refine PureCall.enterLe Try.func55 (by kernel_rfl) rfl Try.ntmps55 (by simp) (by simp) ?_
  simp -dsimp
  repeat (refine chk.go (by first | omega | assumption | (simp_all; done) | (simp_all; omega)) ?_; simp -dsimp)
  refine abr.split (fun h1 => ?_) (fun h1 => ?_)
  · have q2 : ¬ (a.op = b.op) := by first | exact h1 | omega | (simpa using h1) | (simp at h1 ⊢; omega) | simp_all
    rw [if_neg q2] at hF
    cases hF
    simp -dsimp [h1, q2]
    repeat (refine chk.go (by first | omega | assumption | (simp_all; done) | (simp_all; omega)) ?_; simp -dsimp [h1, q2])
  · have q2 : (a.op = b.op) := by first | exact h1 | omega | (simpa using h1) | (simp at h1 ⊢; omega) | simp_all
    rw [if_pos q2] at hF
    simp -dsimp [h1, q2]
    repeat (refine chk.go (by first | omega | assumption | (simp_all; done) | (simp_all; omega)) ?_; simp -dsimp [h1, q2])
    refine abr.split (fun h3 => ?_) (fun h3 => ?_)
    · have q4 : ¬ (a.clause = b.clause) := by first | exact h3 | omega | (simpa using h3) | (simp at h3 ⊢; omega) | simp_all
      rw [if_neg q4] at hF
      cases hF
      simp -dsimp [h1, q2, h3, q4]
      repeat (refine chk.go (by first | omega | assumption | (simp_all; done) | (simp_all; omega)) ?_; simp -dsimp [h1, q2, h3, q4])
    · have q4 : (a.clause = b.clause) := by first | exact h3 | omega | (simpa using h3) | (simp at h3 ⊢; omega) | simp_all
      rw [if_pos q4] at hF
      simp -dsimp [h1, q2, h3, q4]
      repeat (refine chk.go (by first | omega | assumption | (simp_all; done) | (simp_all; omega)) ?_; simp -dsimp [h1, q2, h3, q4])
      have hF := ob hF; obtain ⟨v, e5, hF⟩ := hF
      refine ((C.laws_eqPathBindS B hB1 hB2 a.binds b.binds v e5)).goW (by simp) (by simp) ?_
      simp -dsimp [h1, q2, h3, q4]
      repeat (refine chk.go (by first | omega | assumption | (simp_all; done) | (simp_all; omega)) ?_; simp -dsimp [h1, q2, h3, q4])
      refine abr.split (fun h6 => ?_) (fun h6 => ?_)
      · have q7 : ¬ (v = true) := by first | exact h6 | omega | (simpa using h6) | (simp at h6 ⊢; omega) | simp_all
        rw [if_neg q7] at hF
        cases hF
        simp -dsimp [h1, q2, h3, q4, h6, q7]
        repeat (refine chk.go (by first | omega | assumption | (simp_all; done) | (simp_all; omega)) ?_; simp -dsimp [h1, q2, h3, q4, h6, q7])
      · have q7 : (v = true) := by first | exact h6 | omega | (simpa using h6) | (simp at h6 ⊢; omega) | simp_all
        rw [if_pos q7] at hF
        simp -dsimp [h1, q2, h3, q4, h6, q7]
        repeat (refine chk.go (by first | omega | assumption | (simp_all; done) | (simp_all; omega)) ?_; simp -dsimp [h1, q2, h3, q4, h6, q7])
        have hF := ob hF; obtain ⟨v8, e9, hF⟩ := hF
        refine ((C.laws_eqIntS B hB1 hB2 a.path b.path v8 e9)).goW (by simp) (by simp) ?_
        simp -dsimp [h1, q2, h3, q4, h6, q7]
        repeat (refine chk.go (by first | omega | assumption | (simp_all; done) | (simp_all; omega)) ?_; simp -dsimp [h1, q2, h3, q4, h6, q7])
        refine abr.split (fun h10 => ?_) (fun h10 => ?_)
        · have q11 : ¬ (v8 = true) := by first | exact h10 | omega | (simpa using h10) | (simp at h10 ⊢; omega) | simp_all
          rw [if_neg q11] at hF
          cases hF
          simp -dsimp [h1, q2, h3, q4, h6, q7, h10, q11]
          repeat (refine chk.go (by first | omega | assumption | (simp_all; done) | (simp_all; omega)) ?_; simp -dsimp [h1, q2, h3, q4, h6, q7, h10, q11])
        · have q11 : (v8 = true) := by first | exact h10 | omega | (simpa using h10) | (simp at h10 ⊢; omega) | simp_all
          rw [if_pos q11] at hF
          simp -dsimp [h1, q2, h3, q4, h6, q7, h10, q11]
          repeat (refine chk.go (by first | omega | assumption | (simp_all; done) | (simp_all; omega)) ?_; simp -dsimp [h1, q2, h3, q4, h6, q7, h10, q11])
          have hF := ob hF; obtain ⟨v12, e13, hF⟩ := hF
          refine ((C.laws_eqEdgeS B hB1 hB2 a.edges b.edges v12 e13)).goW (by simp) (by simp) ?_
          simp -dsimp [h1, q2, h3, q4, h6, q7, h10, q11]
          repeat (refine chk.go (by first | omega | assumption | (simp_all; done) | (simp_all; omega)) ?_; simp -dsimp [h1, q2, h3, q4, h6, q7, h10, q11])
          refine abr.split (fun h14 => ?_) (fun h14 => ?_)
          · have q15 : ¬ (v12 = true) := by first | exact h14 | omega | (simpa using h14) | (simp at h14 ⊢; omega) | simp_all
            rw [if_neg q15] at hF
            cases hF
            simp -dsimp [h1, q2, h3, q4, h6, q7, h10, q11, h14, q15]
            repeat (refine chk.go (by first | omega | assumption | (simp_all; done) | (simp_all; omega)) ?_; simp -dsimp [h1, q2, h3, q4, h6, q7, h10, q11, h14, q15])
          · have q15 : (v12 = true) := by first | exact h14 | omega | (simpa using h14) | (simp at h14 ⊢; omega) | simp_all
            rw [if_pos q15] at hF
            simp -dsimp [h1, q2, h3, q4, h6, q7, h10, q11, h14, q15]
            repeat (refine chk.go (by first | omega | assumption | (simp_all; done) | (simp_all; omega)) ?_; simp -dsimp [h1, q2, h3, q4, h6, q7, h10, q11, h14, q15])
            refine abr.split (fun h16 => ?_) (fun h16 => ?_)
            · have q17 : ¬ (a.els = b.els) := by first | exact h16 | omega | (simpa using h16) | (simp at h16 ⊢; omega) | simp_all
              rw [if_neg q17] at hF
              cases hF
              simp -dsimp [h1, q2, h3, q4, h6, q7, h10, q11, h14, q15, h16, q17]
              repeat (refine chk.go (by first | omega | assumption | (simp_all; done) | (simp_all; omega)) ?_; simp -dsimp [h1, q2, h3, q4, h6, q7, h10, q11, h14, q15, h16, q17])
            · have q17 : (a.els = b.els) := by first | exact h16 | omega | (simpa using h16) | (simp at h16 ⊢; omega) | simp_all
              rw [if_pos q17] at hF
              cases hF
              simp -dsimp [h1, q2, h3, q4, h6, q7, h10, q11, h14, q15, h16, q17]
              repeat (refine chk.go (by first | omega | assumption | (simp_all; done) | (simp_all; omega)) ?_; simp -dsimp [h1, q2, h3, q4, h6, q7, h10, q11, h14, q15, h16, q17])

set_option maxRecDepth 100000 in
set_option maxHeartbeats 400000 in
theorem CC.laws_eqNodeS_l1 (B : Nat) (hB1 : 67108864 ≤ B) (hB2 : B ≤ 9223372036854775807) (a : List Vl.Node) (b : List Vl.Node) : (∀ (i : Nat) (o : Lo Bool Unit), F.laws_eqNodeS_l1 a b i = some o → ∀ (c : Code), navO [1, 1, 0, 1, 0, 0] (bodyOf Try.f30) = some c → ∀ (Q : Exit → ASt → Prop), o.post (fun r => ∀ st, Post Try.prog Try.f30 (fun r' _ => r'.le (.lit (.bool r))) .ret st → Q .ret st) (fun s => Q (.exit 0) ⟨[], []⟩) → ALoopU Try.prog B 0 27 (hold c .mk) ⟨[(0, .arr (List.map Vl.Node.c a)), (1, .arr (List.map Vl.Node.c b)), (5, .lit (.int .i64 (i : Int)))], []⟩ (hold Q .mk)) := by
  refine F.laws_eqNodeS_l1.partial_correctness a b
    (fun i o => ∀ (c : Code), navO [1, 1, 0, 1, 0, 0] (bodyOf Try.f30) = some c → ∀ (Q : Exit → ASt → Prop), o.post (fun r => ∀ st, Post Try.prog Try.f30 (fun r' _ => r'.le (.lit (.bool r))) .ret st → Q .ret st) (fun s => Q (.exit 0) ⟨[], []⟩) → ALoopU Try.prog B 0 27 (hold c .mk) ⟨[(0, .arr (List.map Vl.Node.c a)), (1, .arr (List.map Vl.Node.c b)), (5, .lit (.int .i64 (i : Int)))], []⟩ (hold Q .mk))
    ?_
  · intro _f_laws_eqNodeS_l1 ih_laws_eqNodeS_l1 i o hF
    intro c hc Q hq
    obtain rfl : c = _ := navEq hc rfl
    refine ALoopU.know fun hk hs => ?_
    have b0 := hk 0
    simp -dsimp at b0
    have b1 := hk 1
    simp -dsimp at b1
    clear hk hs
    refine ALoopU.enter ?_
    simp -dsimp
    repeat (refine chk.go (by first | omega | assumption | (simp_all; done) | (simp_all; omega)) ?_; simp -dsimp)
    refine abr.split (fun h4 => ?_) (fun h4 => ?_)
    · have q5 : (i < a.length) := by first | exact h4 | omega | (simpa using h4) | (simp at h4 ⊢; omega) | simp_all
      have z6 : ((i : Int) < (a.length : Int)) := by first | omega | simp_all
      rw [if_pos q5] at hF
      simp -dsimp [h4, z6]
      repeat (refine chk.go (by first | omega | assumption | (simp_all; done) | (simp_all; omega)) ?_; simp -dsimp [h4, z6])
      refine ADraw.simple follows (by kernel_rfl) (by kernel_rfl) ?_
      have hF := ob hF; obtain ⟨x, e7, hF⟩ := hF
      have le7 := lt_of_get e7
      have hF := ob hF; obtain ⟨x8, e9, hF⟩ := hF
      have le9 := lt_of_get e9
      simp -dsimp [h4, z6, ↓e7, ↓e9]
      repeat (refine chk.go (by first | omega | assumption | (simp_all; done) | (simp_all; omega)) ?_; simp -dsimp [h4, z6, ↓e7, ↓e9])
      have hF := ob hF; obtain ⟨v, e10, hF⟩ := hF
      refine ((C.laws_eqNode B hB1 hB2 x x8 v e10)).pgoW (by simp) (by simp) ?_
      simp -dsimp [h4, z6, ↓e7, ↓e9]
      repeat (refine chk.go (by first | omega | assumption | (simp_all; done) | (simp_all; omega)) ?_; simp -dsimp [h4, z6, ↓e7, ↓e9])
      refine abr.split (fun h11 => ?_) (fun h11 => ?_)
      · have q12 : ¬ (v = true) := by first | exact h11 | omega | (simpa using h11) | (simp at h11 ⊢; omega) | simp_all
        rw [if_neg q12] at hF
        cases hF
        simp -dsimp [h4, z6, ↓e7, ↓e9, h11, q12]
        repeat (refine chk.go (by first | omega | assumption | (simp_all; done) | (simp_all; omega)) ?_; simp -dsimp [h4, z6, ↓e7, ↓e9, h11, q12])
        refine Leave.go _ (Gh.refl _) (hq _ ?_)
        simp -dsimp [h4, z6, ↓e7, ↓e9, h11, q12]
        repeat (refine chk.go (by first | omega | assumption | (simp_all; done) | (simp_all; omega)) ?_; simp -dsimp [h4, z6, ↓e7, ↓e9, h11, q12])
      · have q12 : (v = true) := by first | exact h11 | omega | (simpa using h11) | (simp at h11 ⊢; omega) | simp_all
        rw [if_pos q12] at hF
        have w13 : IntKind.i64.wrap ((i : Int) + 1) = (i : Int) + 1 := wrap_in (by omega) (by omega)
        simp -dsimp [h4, z6, ↓e7, ↓e9, h11, q12, w13]
        repeat (refine chk.go (by first | omega | assumption | (simp_all; done) | (simp_all; omega)) ?_; simp -dsimp [h4, z6, ↓e7, ↓e9, h11, q12, w13])
        refine Again.go ⟨[(0, .arr (List.map Vl.Node.c a)), (1, .arr (List.map Vl.Node.c b)), (5, .lit (.int .i64 ((i + 1) : Int)))], []⟩ (Gh.to (by simp) (by simp -dsimp) (by simp -dsimp) (by simp -dsimp)) ?_
        exact (ih_laws_eqNodeS_l1 (i + 1) o hF) _ rfl _ hq
    · have q5 : ¬ (i < a.length) := by first | exact h4 | omega | (simpa using h4) | (simp at h4 ⊢; omega) | simp_all
      have z6 : ¬ ((i : Int) < (a.length : Int)) := by first | omega | simp_all
      rw [if_neg q5] at hF
      cases hF
      simp -dsimp [h4, q5, z6]
      repeat (refine chk.go (by first | omega | assumption | (simp_all; done) | (simp_all; omega)) ?_; simp -dsimp [h4, q5, z6])
      refine Leave.go ⟨[], []⟩ (Gh.to (by simp) (by simp -dsimp) (by simp -dsimp) (by simp -dsimp)) ?_
      exact hq

theorem C.laws_eqNodeS_l1 (B : Nat) (hB1 : 67108864 ≤ B) (hB2 : B ≤ 9223372036854775807) (a : List Vl.Node) (b : List Vl.Node) (i : Nat) (o : Lo Bool Unit) (hF : F.laws_eqNodeS_l1 a b i = some o) : ∀ (c : Code), navO [1, 1, 0, 1, 0, 0] (bodyOf Try.f30) = some c → ∀ (Q : Exit → ASt → Prop), o.post (fun r => ∀ st, Post Try.prog Try.f30 (fun r' _ => r'.le (.lit (.bool r))) .ret st → Q .ret st) (fun s => Q (.exit 0) ⟨[], []⟩) → ALoopU Try.prog B 0 27 (hold c .mk) ⟨[(0, .arr (List.map Vl.Node.c a)), (1, .arr (List.map Vl.Node.c b)), (5, .lit (.int .i64 (i : Int)))], []⟩ (hold Q .mk) :=
  (CC.laws_eqNodeS_l1 B hB1 hB2 a b) i o hF

set_option maxRecDepth 100000 in
set_option maxHeartbeats 400000 in
theorem C.laws_eqNodeS (B : Nat) (hB1 : 67108864 ≤ B) (hB2 : B ≤ 9223372036854775807) (a : List Vl.Node) (b : List Vl.Node) (r : Bool) (hF : F.laws_eqNodeS a b = some r) : PureCall Try.prog B 30 [.arr (List.map Vl.Node.c a), .arr (List.map Vl.Node.c b)] (.lit (.bool r)) := by
  unfold F.laws_eqNodeS at hF
  refine PureCall.enterLe Try.func30 (by kernel_rfl) rfl Try.ntmps30 (by simp) (by simp) ?_
  simp -dsimp
  repeat (refine chk.go (by first | omega | assumption | (simp_all; done) | (simp_all; omega)) ?_; simp -dsimp)
  refine abr.split (fun h1 => ?_) (fun h1 => ?_)
  · have q2 : ¬ (a.length = b.length) := by first | exact h1 | omega | (simpa using h1) | (simp at h1 ⊢; omega) | simp_all
    have z3 : ¬ ((a.length : Int) = (b.length : Int)) := by first | omega | simp_all
    rw [if_neg q2] at hF
    cases hF
    simp -dsimp [h1, q2, z3]
    repeat (refine chk.go (by first | omega | assumption | (simp_all; done) | (simp_all; omega)) ?_; simp -dsimp [h1, q2, z3])
  · have q2 : (a.length = b.length) := by first | exact h1 | omega | (simpa using h1) | (simp at h1 ⊢; omega) | simp_all
    have z3 : ((a.length : Int) = (b.length : Int)) := by first | omega | simp_all
    rw [if_pos q2] at hF
    simp -dsimp [h1, q2, z3]
    repeat (refine chk.go (by first | omega | assumption | (simp_all; done) | (simp_all; omega)) ?_; simp -dsimp [h1, q2, z3])
    have hF := ob hF; obtain ⟨o, ho14, hF⟩ := hF
    refine ALoop.goU ⟨[(0, .arr (List.map Vl.Node.c a)), (1, .arr (List.map Vl.Node.c b)), (5, .lit (.int .i64 (0 : Int)))], []⟩ (Gh.to (by simp) (by simp -dsimp) (by simp -dsimp) (by simp -dsimp)) ?_
    refine (C.laws_eqNodeS_l1 B hB1 hB2 a b 0 o ho14) _ rfl _ ?_
    rcases o with r0 | s
    · dsimp only at hF
      cases hF
      intro st h
      simpa using h
    · dsimp only at hF
      cases hF
      simp -dsimp
      repeat (refine chk.go (by first | omega | assumption | (simp_all; done) | (simp_all; omega)) ?_; simp -dsimp)

set_option maxRecDepth 100000 in
set_option maxHeartbeats 400000 in
theorem C.laws_FnExactNodesValid (B : Nat) (hB1 : 67108864 ≤ B) (hB2 : B ≤ 9223372036854775807) (aList : List Vl.Node) (r : Bool) (hF : F.laws_FnExactNodesValid aList = some r) : PureCall Try.prog B 6 [.arr (List.map Vl.Node.c aList)] (.lit (.bool r)) := by
  unfold F.laws_FnExactNodesValid at hF
  refine PureCall.enterLe Try.func6 (by kernel_rfl) rfl Try.ntmps6 (by simp) (by simp) ?_
  simp -dsimp
  repeat (refine chk.go (by first | omega | assumption | (simp_all; done) | (simp_all; omega)) ?_; simp -dsimp)
  have hF := ob hF; obtain ⟨v, e1, hF⟩ := hF
  refine ((C.laws_szNodeS B hB1 hB2 aList (1048576 : Int) v e1)).goW (by simp) (by simp) ?_
  simp -dsimp
  repeat (refine chk.go (by first | omega | assumption | (simp_all; done) | (simp_all; omega)) ?_; simp -dsimp)
  refine abr.split (fun h2 => ?_) (fun h2 => ?_)
  · have q3 : (v < 0) := by first | exact h2 | omega | (simpa using h2) | (simp at h2 ⊢; omega) | simp_all
    rw [if_pos q3] at hF
    cases hF
    simp -dsimp [h2]
    repeat (refine chk.go (by first | omega | assumption | (simp_all; done) | (simp_all; omega)) ?_; simp -dsimp [h2])
  · have q3 : ¬ (v < 0) := by first | exact h2 | omega | (simpa using h2) | (simp at h2 ⊢; omega) | simp_all
    rw [if_neg q3] at hF
    simp -dsimp [h2, q3]
    repeat (refine chk.go (by first | omega | assumption | (simp_all; done) | (simp_all; omega)) ?_; simp -dsimp [h2, q3])
    have hF := ob hF; obtain ⟨v4, e5, hF⟩ := hF
    refine ((C.laws_toNodeS B hB1 hB2 aList v4 e5)).goW (by simp) (by simp) ?_
    simp -dsimp [h2, q3]
    repeat (refine chk.go (by first | omega | assumption | (simp_all; done) | (simp_all; omega)) ?_; simp -dsimp [h2, q3])
    have hF := ob hF; obtain ⟨v6, e7, hF⟩ := hF
    refine ((C.spec_NodesValid B hB1 hB2 v4 v6 e7)).goW (by simp) (by simp) ?_
    simp -dsimp [h2, q3]
    repeat (refine chk.go (by first | omega | assumption | (simp_all; done) | (simp_all; omega)) ?_; simp -dsimp [h2, q3])
    have hF := ob hF; obtain ⟨v8, e9, hF⟩ := hF
    refine ((C.laws_toNodeS B hB1 hB2 aList v8 e9)).goW (by simp) (by simp) ?_
    simp -dsimp [h2, q3]
    repeat (refine chk.go (by first | omega | assumption | (simp_all; done) | (simp_all; omega)) ?_; simp -dsimp [h2, q3])
    have hF := ob hF; obtain ⟨v10, e11, hF⟩ := hF
    refine ((C.impl_NodesValid B hB1 hB2 v8 v10 e11)).goW (by simp) (by simp) ?_
    simp -dsimp [h2, q3]
    repeat (refine chk.go (by first | omega | assumption | (simp_all; done) | (simp_all; omega)) ?_; simp -dsimp [h2, q3])
    refine abr.split (fun h12 => ?_) (fun h12 => ?_)
    · have q13 : ¬ (v10 = v6) := by first | exact h12 | omega | (simpa using h12) | (simp at h12 ⊢; omega) | simp_all
      rw [if_neg q13] at hF
      cases hF
      simp -dsimp [h2, q3, h12, q13]
      repeat (refine chk.go (by first | omega | assumption | (simp_all; done) | (simp_all; omega)) ?_; simp -dsimp [h2, q3, h12, q13])
    · have q13 : (v10 = v6) := by first | exact h12 | omega | (simpa using h12) | (simp at h12 ⊢; omega) | simp_all
      rw [if_pos q13] at hF
      simp -dsimp [h2, q3, h12, q13]
      repeat (refine chk.go (by first | omega | assumption | (simp_all; done) | (simp_all; omega)) ?_; simp -dsimp [h2, q3, h12, q13])
      have hF := ob hF; obtain ⟨v14, e15, hF⟩ := hF
      refine ((C.laws_toNodeS B hB1 hB2 aList v14 e15)).goW (by simp) (by simp) ?_
      simp -dsimp [h2, q3, h12, q13]
      repeat (refine chk.go (by first | omega | assumption | (simp_all; done) | (simp_all; omega)) ?_; simp -dsimp [h2, q3, h12, q13])
      have hF := ob hF; obtain ⟨v16, e17, hF⟩ := hF
      refine ((C.laws_eqNodeS B hB1 hB2 v8 v14 v16 e17)).goW (by simp) (by simp) ?_
      simp -dsimp [h2, q3, h12, q13]
      repeat (refine chk.go (by first | omega | assumption | (simp_all; done) | (simp_all; omega)) ?_; simp -dsimp [h2, q3, h12, q13])
      refine abr.split (fun h18 => ?_) (fun h18 => ?_)
      · have q19 : ¬ (v16 = true) := by first | exact h18 | omega | (simpa using h18) | (simp at h18 ⊢; omega) | simp_all
        rw [if_neg q19] at hF
        cases hF
        simp -dsimp [h2, q3, h12, q13, h18, q19]
        repeat (refine chk.go (by first | omega | assumption | (simp_all; done) | (simp_all; omega)) ?_; simp -dsimp [h2, q3, h12, q13, h18, q19])
      · have q19 : (v16 = true) := by first | exact h18 | omega | (simpa using h18) | (simp at h18 ⊢; omega) | simp_all
        rw [if_pos q19] at hF
        cases hF
        simp -dsimp [h2, q3, h12, q13, h18, q19]
        repeat (refine chk.go (by first | omega | assumption | (simp_all; done) | (simp_all; omega)) ?_; simp -dsimp [h2, q3, h12, q13, h18, q19])
end Go.Proofs.Ytfalapoojmlbpaa
