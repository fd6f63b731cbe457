/- The contracts: the code computes the functions (printed by gen.py). -/
import Derived.Test.YtfalapoojmlbpaaProg
import Derived.Test.YtfalapoojmlbpaaExactTreeSizeF
set_option linter.unusedSimpArgs false
set_option linter.unusedVariables false
namespace Go.Proofs.Ytfalapoojmlbpaa
open Go Go.Proofs Go.Vl

attribute [local irreducible] chk abr ACall ALoop ALoopU ADraw Again Leave PCallA PCall Post awp aops PureCall hold

theorem follows : Try.prog.follows .mixedOrders = true := by kernel_rfl
@[simp] theorem ti2 : tiOf Try.prog 2 = some ⟨.word, 1, [.int .i64 0]⟩ := by kernel_rfl
@[simp] theorem ti3 : tiOf Try.prog 3 = some ⟨.word, 1, [.int .i64 0]⟩ := by kernel_rfl
@[simp] theorem ti4 : tiOf Try.prog 4 = some ⟨.word, 1, [.bool false]⟩ := by kernel_rfl
@[simp] theorem ti5 : tiOf Try.prog 5 = some ⟨.word, 1, [.int .u8 0]⟩ := by kernel_rfl
@[simp] theorem ti32 : tiOf Try.prog 32 = some ⟨.slice 1 8 [.int .i64 0], 1, [.slice none 0 0]⟩ := by kernel_rfl
@[simp] theorem ti57 : tiOf Try.prog 57 = some ⟨.slice 2 32 [.int .i64 0, .slice none 0 0], 1, [.slice none 0 0]⟩ := by kernel_rfl
@[simp] theorem ti58 : tiOf Try.prog 58 = some ⟨.slice 9 136 [.int .i64 0, .int .i64 0, .int .i64 0, .int .i64 0, .int .i64 0, .slice none 0 0, .slice none 0 0, .slice none 0 0, .slice none 0 0], 1, [.slice none 0 0]⟩ := by kernel_rfl
@[simp] theorem ti59 : tiOf Try.prog 59 = some ⟨.slice 6 112 [.int .i64 0, .int .i64 0, .slice none 0 0, .slice none 0 0, .slice none 0 0, .slice none 0 0], 1, [.slice none 0 0]⟩ := by kernel_rfl
@[simp] theorem ti61 : tiOf Try.prog 61 = some ⟨.struct [(0, 1), (1, 1), (2, 1), (3, 1), (4, 1), (5, 1)], 6, [.int .i64 0, .int .i64 0, .slice none 0 0, .slice none 0 0, .slice none 0 0, .slice none 0 0]⟩ := by kernel_rfl
@[simp] theorem ti64 : tiOf Try.prog 64 = some ⟨.slice 2 32 [.int .i64 0, .slice none 0 0], 1, [.slice none 0 0]⟩ := by kernel_rfl
@[simp] theorem ti65 : tiOf Try.prog 65 = some ⟨.slice 9 136 [.int .i64 0, .int .i64 0, .int .i64 0, .int .i64 0, .int .i64 0, .slice none 0 0, .slice none 0 0, .slice none 0 0, .slice none 0 0], 1, [.slice none 0 0]⟩ := by kernel_rfl
@[simp] theorem ti66 : tiOf Try.prog 66 = some ⟨.slice 6 112 [.int .i64 0, .int .i64 0, .slice none 0 0, .slice none 0 0, .slice none 0 0, .slice none 0 0], 1, [.slice none 0 0]⟩ := by kernel_rfl
@[simp] theorem ti68 : tiOf Try.prog 68 = some ⟨.struct [(0, 1), (1, 1), (2, 1), (3, 1), (4, 1), (5, 1)], 6, [.int .i64 0, .int .i64 0, .slice none 0 0, .slice none 0 0, .slice none 0 0, .slice none 0 0]⟩ := by kernel_rfl
@[simp] theorem ti106 : tiOf Try.prog 106 = some ⟨.struct [(0, 1), (1, 1), (2, 1), (3, 6)], 9, [.int .i64 0, .int .i64 0, .int .i64 0, .int .i64 0, .int .i64 0, .slice none 0 0, .slice none 0 0, .slice none 0 0, .slice none 0 0]⟩ := by kernel_rfl
@[simp] theorem ti121 : tiOf Try.prog 121 = some ⟨.struct [(0, 1), (1, 1)], 2, [.int .i64 0, .slice none 0 0]⟩ := by kernel_rfl
@[simp] theorem ti124 : tiOf Try.prog 124 = some ⟨.struct [(0, 1), (1, 1), (2, 1), (3, 6)], 9, [.int .i64 0, .int .i64 0, .int .i64 0, .int .i64 0, .int .i64 0, .slice none 0 0, .slice none 0 0, .slice none 0 0, .slice none 0 0]⟩ := by kernel_rfl
@[simp] theorem ti125 : tiOf Try.prog 125 = some ⟨.struct [(0, 1), (1, 1)], 2, [.int .i64 0, .slice none 0 0]⟩ := by kernel_rfl
attribute [simp] Try.underlying2 Try.underlying3 Try.underlying4 Try.underlying5 Try.underlying32 Try.underlying57 Try.underlying58 Try.underlying59 Try.underlying64 Try.underlying65 Try.underlying66 Try.results7 Try.results15 Try.results31 Try.results32 Try.results33 Try.results34 Try.results35 Try.results56 Try.results57 Try.results58 Try.results59 Try.results60 Try.results61 Try.results62 Try.results63 Try.results64 Try.results65 Try.results66 Try.results67 Try.results72 Try.results73 Try.results74 Try.results75 Try.results76 Try.results77

set_option maxRecDepth 100000 in
set_option maxHeartbeats 400000 in
theorem C.laws_szIntS (B : Nat) (hB1 : 67108864 ≤ B) (hB2 : B ≤ 9223372036854775807) (a : List Int) (left' : Int) (r : Int) (hF : F.laws_szIntS a left' = some r) : PureCall Try.prog B 57 [.arr (List.map cI a), .lit (.int .i64 left')] (.lit (.int .i64 r)) := by
  unfold F.laws_szIntS at hF
  refine PureCall.enterLe Try.func57 (by kernel_rfl) rfl Try.ntmps57 (by simp) (by simp) ?_
  simp -dsimp
  repeat (refine chk.go (by first | omega | assumption | (simp_all; done) | (simp_all; omega)) ?_; simp -dsimp)
  refine abr.split (fun h1 => ?_) (fun h1 => ?_)
  · have q2 : (IntKind.i64.wrap (left' - (a.length : Int)) < 0) := by first | exact h1 | omega | (simpa using h1) | (simp at h1 ⊢; omega) | simp_all
    rw [if_pos q2] at hF
    cases hF
    simp -dsimp [h1]
    repeat (refine chk.go (by first | omega | assumption | (simp_all; done) | (simp_all; omega)) ?_; simp -dsimp [h1])
  · have q2 : ¬ (IntKind.i64.wrap (left' - (a.length : Int)) < 0) := by first | exact h1 | omega | (simpa using h1) | (simp at h1 ⊢; omega) | simp_all
    rw [if_neg q2] at hF
    cases hF
    simp -dsimp [h1]
    repeat (refine chk.go (by first | omega | assumption | (simp_all; done) | (simp_all; omega)) ?_; simp -dsimp [h1])

set_option maxRecDepth 100000 in
set_option maxHeartbeats 400000 in
theorem C.laws_szPathBind (B : Nat) (hB1 : 67108864 ≤ B) (hB2 : B ≤ 9223372036854775807) (a : PathBind) (left' : Int) (r : Int) (hF : F.laws_szPathBind a left' = some r) : PureCall Try.prog B 72 [.agg [.lit (.int .i64 a.var), .arr (List.map cI a.path)], .lit (.int .i64 left')] (.lit (.int .i64 r)) := by
  unfold F.laws_szPathBind at hF
  refine PureCall.enterLe Try.func72 (by kernel_rfl) rfl Try.ntmps72 (by simp) (by simp) ?_
  simp -dsimp
  repeat (refine chk.go (by first | omega | assumption | (simp_all; done) | (simp_all; omega)) ?_; simp -dsimp)
  have hF := ob hF; obtain ⟨v, e1, hF⟩ := hF
  refine ((C.laws_szIntS B hB1 hB2 a.path left' v e1)).goW (by simp) (by simp) ?_
  simp -dsimp
  repeat (refine chk.go (by first | omega | assumption | (simp_all; done) | (simp_all; omega)) ?_; simp -dsimp)
  refine abr.split (fun h2 => ?_) (fun h2 => ?_)
  · have q3 : (v < 0) := by first | exact h2 | omega | (simpa using h2) | (simp at h2 ⊢; omega) | simp_all
    rw [if_pos q3] at hF
    cases hF
    simp -dsimp [h2]
    repeat (refine chk.go (by first | omega | assumption | (simp_all; done) | (simp_all; omega)) ?_; simp -dsimp [h2])
  · have q3 : ¬ (v < 0) := by first | exact h2 | omega | (simpa using h2) | (simp at h2 ⊢; omega) | simp_all
    rw [if_neg q3] at hF
    cases hF
    simp -dsimp [h2]
    repeat (refine chk.go (by first | omega | assumption | (simp_all; done) | (simp_all; omega)) ?_; simp -dsimp [h2])

set_option maxRecDepth 100000 in
set_option maxHeartbeats 400000 in
theorem CC.laws_szPathBindS_l1 (B : Nat) (hB1 : 67108864 ≤ B) (hB2 : B ≤ 9223372036854775807) (a : List PathBind) : (∀ (left'3 : Int) (i : Nat) (o : Lo Int Int), F.laws_szPathBindS_l1 a left'3 i = some o → ∀ (c : Code), navO [1, 1, 1, 0, 1, 0, 0] (bodyOf Try.f56) = some c → ∀ (Q : Exit → ASt → Prop), o.post (fun r => ∀ st, Post Try.prog Try.f56 (fun r' _ => r'.le (.lit (.int .i64 r))) .ret st → Q .ret st) (fun s => Q (.exit 0) ⟨[(1, .lit (.int .i64 s))], []⟩) → ALoopU Try.prog B 0 27 (hold c .mk) ⟨[(0, .arr (List.map PathBind.c a)), (1, .lit (.int .i64 left'3)), (5, .lit (.int .i64 (i : Int)))], []⟩ (hold Q .mk)) := by
  refine F.laws_szPathBindS_l1.partial_correctness a
    (fun left'3 i o => ∀ (c : Code), navO [1, 1, 1, 0, 1, 0, 0] (bodyOf Try.f56) = some c → ∀ (Q : Exit → ASt → Prop), o.post (fun r => ∀ st, Post Try.prog Try.f56 (fun r' _ => r'.le (.lit (.int .i64 r))) .ret st → Q .ret st) (fun s => Q (.exit 0) ⟨[(1, .lit (.int .i64 s))], []⟩) → ALoopU Try.prog B 0 27 (hold c .mk) ⟨[(0, .arr (List.map PathBind.c a)), (1, .lit (.int .i64 left'3)), (5, .lit (.int .i64 (i : Int)))], []⟩ (hold Q .mk))
    ?_
  · intro _f_laws_szPathBindS_l1 ih_laws_szPathBindS_l1 left'3 i o hF
    intro c hc Q hq
    obtain rfl : c = _ := navEq hc rfl
    refine ALoopU.know fun hk hs => ?_
    have b0 := hk 0
    simp -dsimp at b0
    clear hk hs
    refine ALoopU.enter ?_
    simp -dsimp
    repeat (refine chk.go (by first | omega | assumption | (simp_all; done) | (simp_all; omega)) ?_; simp -dsimp)
    refine abr.split (fun h4 => ?_) (fun h4 => ?_)
    · have q5 : (i < a.length) := by first | exact h4 | omega | (simpa using h4) | (simp at h4 ⊢; omega) | simp_all
      rw [if_pos q5] at hF
      have hF := ob hF; obtain ⟨x, e6, hF⟩ := hF
      have le6 := lt_of_get e6
      simp -dsimp [h4, ↓e6]
      repeat (refine chk.go (by first | omega | assumption | (simp_all; done) | (simp_all; omega)) ?_; simp -dsimp [h4, ↓e6])
      have hF := ob hF; obtain ⟨v, e7, hF⟩ := hF
      refine ((C.laws_szPathBind B hB1 hB2 x left'3 v e7)).goW (by simp) (by simp) ?_
      simp -dsimp [h4, ↓e6]
      repeat (refine chk.go (by first | omega | assumption | (simp_all; done) | (simp_all; omega)) ?_; simp -dsimp [h4, ↓e6])
      refine abr.split (fun h8 => ?_) (fun h8 => ?_)
      · have q9 : (v < 0) := by first | exact h8 | omega | (simpa using h8) | (simp at h8 ⊢; omega) | simp_all
        rw [if_pos q9] at hF
        cases hF
        simp -dsimp [h4, ↓e6, h8]
        repeat (refine chk.go (by first | omega | assumption | (simp_all; done) | (simp_all; omega)) ?_; simp -dsimp [h4, ↓e6, h8])
        refine Leave.go _ (Gh.refl _) (hq _ ?_)
        simp -dsimp [h4, ↓e6, h8]
        repeat (refine chk.go (by first | omega | assumption | (simp_all; done) | (simp_all; omega)) ?_; simp -dsimp [h4, ↓e6, h8])
      · have q9 : ¬ (v < 0) := by first | exact h8 | omega | (simpa using h8) | (simp at h8 ⊢; omega) | simp_all
        rw [if_neg q9] at hF
        have w10 : IntKind.i64.wrap ((i : Int) + 1) = (i : Int) + 1 := wrap_in (by omega) (by omega)
        simp -dsimp [h4, ↓e6, h8, w10]
        repeat (refine chk.go (by first | omega | assumption | (simp_all; done) | (simp_all; omega)) ?_; simp -dsimp [h4, ↓e6, h8, w10])
        refine Again.go ⟨[(0, .arr (List.map PathBind.c a)), (1, .lit (.int .i64 v)), (5, .lit (.int .i64 ((i + 1) : Int)))], []⟩ (Gh.to (by simp) (by simp -dsimp) (by simp -dsimp) (by simp -dsimp)) ?_
        exact (ih_laws_szPathBindS_l1 v (i + 1) o hF) _ rfl _ hq
    · have q5 : ¬ (i < a.length) := by first | exact h4 | omega | (simpa using h4) | (simp at h4 ⊢; omega) | simp_all
      rw [if_neg q5] at hF
      cases hF
      simp -dsimp [h4]
      repeat (refine chk.go (by first | omega | assumption | (simp_all; done) | (simp_all; omega)) ?_; simp -dsimp [h4])
      refine Leave.go ⟨[(1, .lit (.int .i64 left'3))], []⟩ (Gh.to (by simp) (by simp -dsimp) (by simp -dsimp) (by simp -dsimp)) ?_
      exact hq

theorem C.laws_szPathBindS_l1 (B : Nat) (hB1 : 67108864 ≤ B) (hB2 : B ≤ 9223372036854775807) (a : List PathBind) (left'3 : Int) (i : Nat) (o : Lo Int Int) (hF : F.laws_szPathBindS_l1 a left'3 i = some o) : ∀ (c : Code), navO [1, 1, 1, 0, 1, 0, 0] (bodyOf Try.f56) = some c → ∀ (Q : Exit → ASt → Prop), o.post (fun r => ∀ st, Post Try.prog Try.f56 (fun r' _ => r'.le (.lit (.int .i64 r))) .ret st → Q .ret st) (fun s => Q (.exit 0) ⟨[(1, .lit (.int .i64 s))], []⟩) → ALoopU Try.prog B 0 27 (hold c .mk) ⟨[(0, .arr (List.map PathBind.c a)), (1, .lit (.int .i64 left'3)), (5, .lit (.int .i64 (i : Int)))], []⟩ (hold Q .mk) :=
  (CC.laws_szPathBindS_l1 B hB1 hB2 a) left'3 i o hF

set_option maxRecDepth 100000 in
set_option maxHeartbeats 400000 in
theorem C.laws_szPathBindS (B : Nat) (hB1 : 67108864 ≤ B) (hB2 : B ≤ 9223372036854775807) (a : List PathBind) (left' : Int) (r : Int) (hF : F.laws_szPathBindS a left' = some r) : PureCall Try.prog B 56 [.arr (List.map PathBind.c a), .lit (.int .i64 left')] (.lit (.int .i64 r)) := by
  unfold F.laws_szPathBindS at hF
  refine PureCall.enterLe Try.func56 (by kernel_rfl) rfl Try.ntmps56 (by simp) (by simp) ?_
  simp -dsimp
  repeat (refine chk.go (by first | omega | assumption | (simp_all; done) | (simp_all; omega)) ?_; simp -dsimp)
  refine abr.split (fun h1 => ?_) (fun h1 => ?_)
  · have q2 : (IntKind.i64.wrap (left' - (a.length : Int)) < 0) := by first | exact h1 | omega | (simpa using h1) | (simp at h1 ⊢; omega) | simp_all
    rw [if_pos q2] at hF
    cases hF
    simp -dsimp [h1]
    repeat (refine chk.go (by first | omega | assumption | (simp_all; done) | (simp_all; omega)) ?_; simp -dsimp [h1])
  · have q2 : ¬ (IntKind.i64.wrap (left' - (a.length : Int)) < 0) := by first | exact h1 | omega | (simpa using h1) | (simp at h1 ⊢; omega) | simp_all
    rw [if_neg q2] at hF
    simp -dsimp [h1]
    repeat (refine chk.go (by first | omega | assumption | (simp_all; done) | (simp_all; omega)) ?_; simp -dsimp [h1])
    have hF := ob hF; obtain ⟨o, ho11, hF⟩ := hF
    refine ALoop.goU ⟨[(0, .arr (List.map PathBind.c a)), (1, .lit (.int .i64 (IntKind.i64.wrap (left' - (a.length : Int))))), (5, .lit (.int .i64 (0 : Int)))], []⟩ (Gh.to (by simp) (by simp -dsimp) (by simp -dsimp) (by simp -dsimp)) ?_
    refine (C.laws_szPathBindS_l1 B hB1 hB2 a (IntKind.i64.wrap (left' - (a.length : Int))) 0 o ho11) _ rfl _ ?_
    rcases o with r0 | s
    · dsimp only at hF
      cases hF
      intro st h
      simpa using h
    · dsimp only at hF
      cases hF
      simp -dsimp
      repeat (refine chk.go (by first | omega | assumption | (simp_all; done) | (simp_all; omega)) ?_; simp -dsimp)

set_option maxRecDepth 100000 in
set_option maxHeartbeats 400000 in
theorem CC.laws_szBranch (B : Nat) (hB1 : 67108864 ≤ B) (hB2 : B ≤ 9223372036854775807)  : (∀ (a : Branch) (left' : Int) (r : Int), F.laws_szBranch a left' = some r → PureCall Try.prog B 73 [.agg [.lit (.int .i64 a.ctor), .lit (.int .i64 a.n), .lit (.int .i64 a.m), .lit (.int .i64 a.tree.op), .lit (.int .i64 a.tree.clause), .arr (List.map PathBind.c a.tree.binds), .arr (List.map cI a.tree.path), .arr (List.map Branch.c a.tree.branches), .arr (List.map Tree.c a.tree.els)], .lit (.int .i64 left')] (.lit (.int .i64 r))) ∧
    (∀ (a : Tree) (left' : Int) (r : Int), F.laws_szTree a left' = some r → PureCall Try.prog B 31 [.agg [.lit (.int .i64 a.op), .lit (.int .i64 a.clause), .arr (List.map PathBind.c a.binds), .arr (List.map cI a.path), .arr (List.map Branch.c a.branches), .arr (List.map Tree.c a.els)], .lit (.int .i64 left')] (.lit (.int .i64 r))) ∧
    (∀ (a : List Tree) (left' : Int) (r : Int), F.laws_szTreeS a left' = some r → PureCall Try.prog B 59 [.arr (List.map Tree.c a), .lit (.int .i64 left')] (.lit (.int .i64 r))) ∧
    (∀ (a : List Tree) (left'3 : Int) (i : Nat) (o : Lo Int Int), F.laws_szTreeS_l1 a left'3 i = some o → ∀ (c : Code), navO [1, 1, 1, 0, 1, 0, 0] (bodyOf Try.f59) = some c → ∀ (Q : Exit → ASt → Prop), o.post (fun r => ∀ st, Post Try.prog Try.f59 (fun r' _ => r'.le (.lit (.int .i64 r))) .ret st → Q .ret st) (fun s => Q (.exit 0) ⟨[(1, .lit (.int .i64 s))], []⟩) → ALoopU Try.prog B 0 27 (hold c .mk) ⟨[(0, .arr (List.map Tree.c a)), (1, .lit (.int .i64 left'3)), (5, .lit (.int .i64 (i : Int)))], []⟩ (hold Q .mk)) ∧
    (∀ (a : List Branch) (left' : Int) (r : Int), F.laws_szBranchS a left' = some r → PureCall Try.prog B 58 [.arr (List.map Branch.c a), .lit (.int .i64 left')] (.lit (.int .i64 r))) ∧
    (∀ (a : List Branch) (left'3 : Int) (i : Nat) (o : Lo Int Int), F.laws_szBranchS_l1 a left'3 i = some o → ∀ (c : Code), navO [1, 1, 1, 0, 1, 0, 0] (bodyOf Try.f58) = some c → ∀ (Q : Exit → ASt → Prop), o.post (fun r => ∀ st, Post Try.prog Try.f58 (fun r' _ => r'.le (.lit (.int .i64 r))) .ret st → Q .ret st) (fun s => Q (.exit 0) ⟨[(1, .lit (.int .i64 s))], []⟩) → ALoopU Try.prog B 0 27 (hold c .mk) ⟨[(0, .arr (List.map Branch.c a)), (1, .lit (.int .i64 left'3)), (5, .lit (.int .i64 (i : Int)))], []⟩ (hold Q .mk)) := by
  refine F.laws_szBranch.mutual_partial_correctness 
    (fun a left' r => PureCall Try.prog B 73 [.agg [.lit (.int .i64 a.ctor), .lit (.int .i64 a.n), .lit (.int .i64 a.m), .lit (.int .i64 a.tree.op), .lit (.int .i64 a.tree.clause), .arr (List.map PathBind.c a.tree.binds), .arr (List.map cI a.tree.path), .arr (List.map Branch.c a.tree.branches), .arr (List.map Tree.c a.tree.els)], .lit (.int .i64 left')] (.lit (.int .i64 r)))
    (fun a left' r => PureCall Try.prog B 31 [.agg [.lit (.int .i64 a.op), .lit (.int .i64 a.clause), .arr (List.map PathBind.c a.binds), .arr (List.map cI a.path), .arr (List.map Branch.c a.branches), .arr (List.map Tree.c a.els)], .lit (.int .i64 left')] (.lit (.int .i64 r)))
    (fun a left' r => PureCall Try.prog B 59 [.arr (List.map Tree.c a), .lit (.int .i64 left')] (.lit (.int .i64 r)))
    (fun a left'3 i o => ∀ (c : Code), navO [1, 1, 1, 0, 1, 0, 0] (bodyOf Try.f59) = some c → ∀ (Q : Exit → ASt → Prop), o.post (fun r => ∀ st, Post Try.prog Try.f59 (fun r' _ => r'.le (.lit (.int .i64 r))) .ret st → Q .ret st) (fun s => Q (.exit 0) ⟨[(1, .lit (.int .i64 s))], []⟩) → ALoopU Try.prog B 0 27 (hold c .mk) ⟨[(0, .arr (List.map Tree.c a)), (1, .lit (.int .i64 left'3)), (5, .lit (.int .i64 (i : Int)))], []⟩ (hold Q .mk))
    (fun a left' r => PureCall Try.prog B 58 [.arr (List.map Branch.c a), .lit (.int .i64 left')] (.lit (.int .i64 r)))
    (fun a left'3 i o => ∀ (c : Code), navO [1, 1, 1, 0, 1, 0, 0] (bodyOf Try.f58) = some c → ∀ (Q : Exit → ASt → Prop), o.post (fun r => ∀ st, Post Try.prog Try.f58 (fun r' _ => r'.le (.lit (.int .i64 r))) .ret st → Q .ret st) (fun s => Q (.exit 0) ⟨[(1, .lit (.int .i64 s))], []⟩) → ALoopU Try.prog B 0 27 (hold c .mk) ⟨[(0, .arr (List.map Branch.c a)), (1, .lit (.int .i64 left'3)), (5, .lit (.int .i64 (i : Int)))], []⟩ (hold Q .mk))
    ?_ ?_ ?_ ?_ ?_ ?_
  · intro _f_laws_szTree ih_laws_szTree a left' r hF
    refine PureCall.enterLe Try.func73 (by kernel_rfl) rfl Try.ntmps73 (by simp) (by simp) ?_
    simp -dsimp
    repeat (refine chk.go (by first | omega | assumption | (simp_all; done) | (simp_all; omega)) ?_; simp -dsimp)
    have hF := ob hF; obtain ⟨v, e1, hF⟩ := hF
    refine ((ih_laws_szTree a.tree left' v e1)).goW (by simp) (by simp) ?_
    simp -dsimp
    repeat (refine chk.go (by first | omega | assumption | (simp_all; done) | (simp_all; omega)) ?_; simp -dsimp)
    refine abr.split (fun h2 => ?_) (fun h2 => ?_)
    · have q3 : (v < 0) := by first | exact h2 | omega | (simpa using h2) | (simp at h2 ⊢; omega) | simp_all
      rw [if_pos q3] at hF
      cases hF
      simp -dsimp [h2]
      repeat (refine chk.go (by first | omega | assumption | (simp_all; done) | (simp_all; omega)) ?_; simp -dsimp [h2])
    · have q3 : ¬ (v < 0) := by first | exact h2 | omega | (simpa using h2) | (simp at h2 ⊢; omega) | simp_all
      rw [if_neg q3] at hF
      cases hF
      simp -dsimp [h2]
      repeat (refine chk.go (by first | omega | assumption | (simp_all; done) | (simp_all; omega)) ?_; simp -dsimp [h2])
  · intro _f_laws_szTreeS _f_laws_szBranchS ih_laws_szTreeS ih_laws_szBranchS a left' r hF
    refine PureCall.enterLe Try.func31 (by kernel_rfl) rfl Try.ntmps31 (by simp) (by simp) ?_
    simp -dsimp
    repeat (refine chk.go (by first | omega | assumption | (simp_all; done) | (simp_all; omega)) ?_; simp -dsimp)
    have hF := ob hF; obtain ⟨v, e1, hF⟩ := hF
    refine ((C.laws_szPathBindS B hB1 hB2 a.binds left' v e1)).goW (by simp) (by simp) ?_
    simp -dsimp
    repeat (refine chk.go (by first | omega | assumption | (simp_all; done) | (simp_all; omega)) ?_; simp -dsimp)
    refine abr.split (fun h2 => ?_) (fun h2 => ?_)
    · have q3 : (v < 0) := by first | exact h2 | omega | (simpa using h2) | (simp at h2 ⊢; omega) | simp_all
      rw [if_pos q3] at hF
      cases hF
      simp -dsimp [h2]
      repeat (refine chk.go (by first | omega | assumption | (simp_all; done) | (simp_all; omega)) ?_; simp -dsimp [h2])
    · have q3 : ¬ (v < 0) := by first | exact h2 | omega | (simpa using h2) | (simp at h2 ⊢; omega) | simp_all
      rw [if_neg q3] at hF
      simp -dsimp [h2]
      repeat (refine chk.go (by first | omega | assumption | (simp_all; done) | (simp_all; omega)) ?_; simp -dsimp [h2])
      have hF := ob hF; obtain ⟨v4, e5, hF⟩ := hF
      refine ((C.laws_szIntS B hB1 hB2 a.path v v4 e5)).goW (by simp) (by simp) ?_
      simp -dsimp [h2]
      repeat (refine chk.go (by first | omega | assumption | (simp_all; done) | (simp_all; omega)) ?_; simp -dsimp [h2])
      refine abr.split (fun h6 => ?_) (fun h6 => ?_)
      · have q7 : (v4 < 0) := by first | exact h6 | omega | (simpa using h6) | (simp at h6 ⊢; omega) | simp_all
        rw [if_pos q7] at hF
        cases hF
        simp -dsimp [h2, h6]
        repeat (refine chk.go (by first | omega | assumption | (simp_all; done) | (simp_all; omega)) ?_; simp -dsimp [h2, h6])
      · have q7 : ¬ (v4 < 0) := by first | exact h6 | omega | (simpa using h6) | (simp at h6 ⊢; omega) | simp_all
        rw [if_neg q7] at hF
        simp -dsimp [h2, h6]
        repeat (refine chk.go (by first | omega | assumption | (simp_all; done) | (simp_all; omega)) ?_; simp -dsimp [h2, h6])
        have hF := ob hF; obtain ⟨v8, e9, hF⟩ := hF
        refine ((ih_laws_szBranchS a.branches v4 v8 e9)).goW (by simp) (by simp) ?_
        simp -dsimp [h2, h6]
        repeat (refine chk.go (by first | omega | assumption | (simp_all; done) | (simp_all; omega)) ?_; simp -dsimp [h2, h6])
        refine abr.split (fun h10 => ?_) (fun h10 => ?_)
        · have q11 : (v8 < 0) := by first | exact h10 | omega | (simpa using h10) | (simp at h10 ⊢; omega) | simp_all
          rw [if_pos q11] at hF
          cases hF
          simp -dsimp [h2, h6, h10]
          repeat (refine chk.go (by first | omega | assumption | (simp_all; done) | (simp_all; omega)) ?_; simp -dsimp [h2, h6, h10])
        · have q11 : ¬ (v8 < 0) := by first | exact h10 | omega | (simpa using h10) | (simp at h10 ⊢; omega) | simp_all
          rw [if_neg q11] at hF
          simp -dsimp [h2, h6, h10]
          repeat (refine chk.go (by first | omega | assumption | (simp_all; done) | (simp_all; omega)) ?_; simp -dsimp [h2, h6, h10])
          have hF := ob hF; obtain ⟨v12, e13, hF⟩ := hF
          refine ((ih_laws_szTreeS a.els v8 v12 e13)).goW (by simp) (by simp) ?_
          simp -dsimp [h2, h6, h10]
          repeat (refine chk.go (by first | omega | assumption | (simp_all; done) | (simp_all; omega)) ?_; simp -dsimp [h2, h6, h10])
          refine abr.split (fun h14 => ?_) (fun h14 => ?_)
          · have q15 : (v12 < 0) := by first | exact h14 | omega | (simpa using h14) | (simp at h14 ⊢; omega) | simp_all
            rw [if_pos q15] at hF
            cases hF
            simp -dsimp [h2, h6, h10, h14]
            repeat (refine chk.go (by first | omega | assumption | (simp_all; done) | (simp_all; omega)) ?_; simp -dsimp [h2, h6, h10, h14])
          · have q15 : ¬ (v12 < 0) := by first | exact h14 | omega | (simpa using h14) | (simp at h14 ⊢; omega) | simp_all
            rw [if_neg q15] at hF
            cases hF
            simp -dsimp [h2, h6, h10, h14]
            repeat (refine chk.go (by first | omega | assumption | (simp_all; done) | (simp_all; omega)) ?_; simp -dsimp [h2, h6, h10, h14])
  · intro _f_laws_szTreeS_l1 ih_laws_szTreeS_l1 a left' r hF
    refine PureCall.enterLe Try.func59 (by kernel_rfl) rfl Try.ntmps59 (by simp) (by simp) ?_
    simp -dsimp
    repeat (refine chk.go (by first | omega | assumption | (simp_all; done) | (simp_all; omega)) ?_; simp -dsimp)
    refine abr.split (fun h1 => ?_) (fun h1 => ?_)
    · have q2 : (IntKind.i64.wrap (left' - (a.length : Int)) < 0) := by first | exact h1 | omega | (simpa using h1) | (simp at h1 ⊢; omega) | simp_all
      rw [if_pos q2] at hF
      cases hF
      simp -dsimp [h1]
      repeat (refine chk.go (by first | omega | assumption | (simp_all; done) | (simp_all; omega)) ?_; simp -dsimp [h1])
    · have q2 : ¬ (IntKind.i64.wrap (left' - (a.length : Int)) < 0) := by first | exact h1 | omega | (simpa using h1) | (simp at h1 ⊢; omega) | simp_all
      rw [if_neg q2] at hF
      simp -dsimp [h1]
      repeat (refine chk.go (by first | omega | assumption | (simp_all; done) | (simp_all; omega)) ?_; simp -dsimp [h1])
      have hF := ob hF; obtain ⟨o, ho11, hF⟩ := hF
      refine ALoop.goU ⟨[(0, .arr (List.map Tree.c a)), (1, .lit (.int .i64 (IntKind.i64.wrap (left' - (a.length : Int))))), (5, .lit (.int .i64 (0 : Int)))], []⟩ (Gh.to (by simp) (by simp -dsimp) (by simp -dsimp) (by simp -dsimp)) ?_
      refine (ih_laws_szTreeS_l1 a (IntKind.i64.wrap (left' - (a.length : Int))) 0 o ho11) _ rfl _ ?_
      rcases o with r0 | s
      · dsimp only at hF
        cases hF
        intro st h
        simpa using h
      · dsimp only at hF
        cases hF
        simp -dsimp
        repeat (refine chk.go (by first | omega | assumption | (simp_all; done) | (simp_all; omega)) ?_; simp -dsimp)
  · intro _f_laws_szTree _f_laws_szTreeS_l1 ih_laws_szTree ih_laws_szTreeS_l1 a left'3 i o hF
    intro c hc Q hq
    obtain rfl : c = _ := navEq hc rfl
    refine ALoopU.know fun hk hs => ?_
    have b0 := hk 0
    simp -dsimp at b0
    clear hk hs
    refine ALoopU.enter ?_
    simp -dsimp
    repeat (refine chk.go (by first | omega | assumption | (simp_all; done) | (simp_all; omega)) ?_; simp -dsimp)
    refine abr.split (fun h4 => ?_) (fun h4 => ?_)
    · have q5 : (i < a.length) := by first | exact h4 | omega | (simpa using h4) | (simp at h4 ⊢; omega) | simp_all
      rw [if_pos q5] at hF
      have hF := ob hF; obtain ⟨x, e6, hF⟩ := hF
      have le6 := lt_of_get e6
      simp -dsimp [h4, ↓e6]
      repeat (refine chk.go (by first | omega | assumption | (simp_all; done) | (simp_all; omega)) ?_; simp -dsimp [h4, ↓e6])
      have hF := ob hF; obtain ⟨v, e7, hF⟩ := hF
      refine ((ih_laws_szTree x left'3 v e7)).goW (by simp) (by simp) ?_
      simp -dsimp [h4, ↓e6]
      repeat (refine chk.go (by first | omega | assumption | (simp_all; done) | (simp_all; omega)) ?_; simp -dsimp [h4, ↓e6])
      refine abr.split (fun h8 => ?_) (fun h8 => ?_)
      · have q9 : (v < 0) := by first | exact h8 | omega | (simpa using h8) | (simp at h8 ⊢; omega) | simp_all
        rw [if_pos q9] at hF
        cases hF
        simp -dsimp [h4, ↓e6, h8]
        repeat (refine chk.go (by first | omega | assumption | (simp_all; done) | (simp_all; omega)) ?_; simp -dsimp [h4, ↓e6, h8])
        refine Leave.go _ (Gh.refl _) (hq _ ?_)
        simp -dsimp [h4, ↓e6, h8]
        repeat (refine chk.go (by first | omega | assumption | (simp_all; done) | (simp_all; omega)) ?_; simp -dsimp [h4, ↓e6, h8])
      · have q9 : ¬ (v < 0) := by first | exact h8 | omega | (simpa using h8) | (simp at h8 ⊢; omega) | simp_all
        rw [if_neg q9] at hF
        have w10 : IntKind.i64.wrap ((i : Int) + 1) = (i : Int) + 1 := wrap_in (by omega) (by omega)
        simp -dsimp [h4, ↓e6, h8, w10]
        repeat (refine chk.go (by first | omega | assumption | (simp_all; done) | (simp_all; omega)) ?_; simp -dsimp [h4, ↓e6, h8, w10])
        refine Again.go ⟨[(0, .arr (List.map Tree.c a)), (1, .lit (.int .i64 v)), (5, .lit (.int .i64 ((i + 1) : Int)))], []⟩ (Gh.to (by simp) (by simp -dsimp) (by simp -dsimp) (by simp -dsimp)) ?_
        exact (ih_laws_szTreeS_l1 a v (i + 1) o hF) _ rfl _ hq
    · have q5 : ¬ (i < a.length) := by first | exact h4 | omega | (simpa using h4) | (simp at h4 ⊢; omega) | simp_all
      rw [if_neg q5] at hF
      cases hF
      simp -dsimp [h4]
      repeat (refine chk.go (by first | omega | assumption | (simp_all; done) | (simp_all; omega)) ?_; simp -dsimp [h4])
      refine Leave.go ⟨[(1, .lit (.int .i64 left'3))], []⟩ (Gh.to (by simp) (by simp -dsimp) (by simp -dsimp) (by simp -dsimp)) ?_
      exact hq
  · intro _f_laws_szBranchS_l1 ih_laws_szBranchS_l1 a left' r hF
    refine PureCall.enterLe Try.func58 (by kernel_rfl) rfl Try.ntmps58 (by simp) (by simp) ?_
    simp -dsimp
    repeat (refine chk.go (by first | omega | assumption | (simp_all; done) | (simp_all; omega)) ?_; simp -dsimp)
    refine abr.split (fun h1 => ?_) (fun h1 => ?_)
    · have q2 : (IntKind.i64.wrap (left' - (a.length : Int)) < 0) := by first | exact h1 | omega | (simpa using h1) | (simp at h1 ⊢; omega) | simp_all
      rw [if_pos q2] at hF
      cases hF
      simp -dsimp [h1]
      repeat (refine chk.go (by first | omega | assumption | (simp_all; done) | (simp_all; omega)) ?_; simp -dsimp [h1])
    · have q2 : ¬ (IntKind.i64.wrap (left' - (a.length : Int)) < 0) := by first | exact h1 | omega | (simpa using h1) | (simp at h1 ⊢; omega) | simp_all
      rw [if_neg q2] at hF
      simp -dsimp [h1]
      repeat (refine chk.go (by first | omega | assumption | (simp_all; done) | (simp_all; omega)) ?_; simp -dsimp [h1])
      have hF := ob hF; obtain ⟨o, ho11, hF⟩ := hF
      refine ALoop.goU ⟨[(0, .arr (List.map Branch.c a)), (1, .lit (.int .i64 (IntKind.i64.wrap (left' - (a.length : Int))))), (5, .lit (.int .i64 (0 : Int)))], []⟩ (Gh.to (by simp) (by simp -dsimp) (by simp -dsimp) (by simp -dsimp)) ?_
      refine (ih_laws_szBranchS_l1 a (IntKind.i64.wrap (left' - (a.length : Int))) 0 o ho11) _ rfl _ ?_
      rcases o with r0 | s
      · dsimp only at hF
        cases hF
        intro st h
        simpa using h
      · dsimp only at hF
        cases hF
        simp -dsimp
        repeat (refine chk.go (by first | omega | assumption | (simp_all; done) | (simp_all; omega)) ?_; simp -dsimp)
  · intro _f_laws_szBranch _f_laws_szBranchS_l1 ih_laws_szBranch ih_laws_szBranchS_l1 a left'3 i o hF
    intro c hc Q hq
    obtain rfl : c = _ := navEq hc rfl
    refine ALoopU.know fun hk hs => ?_
    have b0 := hk 0
    simp -dsimp at b0
    clear hk hs
    refine ALoopU.enter ?_
    simp -dsimp
    repeat (refine chk.go (by first | omega | assumption | (simp_all; done) | (simp_all; omega)) ?_; simp -dsimp)
    refine abr.split (fun h4 => ?_) (fun h4 => ?_)
    · have q5 : (i < a.length) := by first | exact h4 | omega | (simpa using h4) | (simp at h4 ⊢; omega) | simp_all
      rw [if_pos q5] at hF
      have hF := ob hF; obtain ⟨x, e6, hF⟩ := hF
      have le6 := lt_of_get e6
      simp -dsimp [h4, ↓e6]
      repeat (refine chk.go (by first | omega | assumption | (simp_all; done) | (simp_all; omega)) ?_; simp -dsimp [h4, ↓e6])
      have hF := ob hF; obtain ⟨v, e7, hF⟩ := hF
      refine ((ih_laws_szBranch x left'3 v e7)).goW (by simp) (by simp) ?_
      simp -dsimp [h4, ↓e6]
      repeat (refine chk.go (by first | omega | assumption | (simp_all; done) | (simp_all; omega)) ?_; simp -dsimp [h4, ↓e6])
      refine abr.split (fun h8 => ?_) (fun h8 => ?_)
      · have q9 : (v < 0) := by first | exact h8 | omega | (simpa using h8) | (simp at h8 ⊢; omega) | simp_all
        rw [if_pos q9] at hF
        cases hF
        simp -dsimp [h4, ↓e6, h8]
        repeat (refine chk.go (by first | omega | assumption | (simp_all; done) | (simp_all; omega)) ?_; simp -dsimp [h4, ↓e6, h8])
        refine Leave.go _ (Gh.refl _) (hq _ ?_)
        simp -dsimp [h4, ↓e6, h8]
        repeat (refine chk.go (by first | omega | assumption | (simp_all; done) | (simp_all; omega)) ?_; simp -dsimp [h4, ↓e6, h8])
      · have q9 : ¬ (v < 0) := by first | exact h8 | omega | (simpa using h8) | (simp at h8 ⊢; omega) | simp_all
        rw [if_neg q9] at hF
        have w10 : IntKind.i64.wrap ((i : Int) + 1) = (i : Int) + 1 := wrap_in (by omega) (by omega)
        simp -dsimp [h4, ↓e6, h8, w10]
        repeat (refine chk.go (by first | omega | assumption | (simp_all; done) | (simp_all; omega)) ?_; simp -dsimp [h4, ↓e6, h8, w10])
        refine Again.go ⟨[(0, .arr (List.map Branch.c a)), (1, .lit (.int .i64 v)), (5, .lit (.int .i64 ((i + 1) : Int)))], []⟩ (Gh.to (by simp) (by simp -dsimp) (by simp -dsimp) (by simp -dsimp)) ?_
        exact (ih_laws_szBranchS_l1 a v (i + 1) o hF) _ rfl _ hq
    · have q5 : ¬ (i < a.length) := by first | exact h4 | omega | (simpa using h4) | (simp at h4 ⊢; omega) | simp_all
      rw [if_neg q5] at hF
      cases hF
      simp -dsimp [h4]
      repeat (refine chk.go (by first | omega | assumption | (simp_all; done) | (simp_all; omega)) ?_; simp -dsimp [h4])
      refine Leave.go ⟨[(1, .lit (.int .i64 left'3))], []⟩ (Gh.to (by simp) (by simp -dsimp) (by simp -dsimp) (by simp -dsimp)) ?_
      exact hq

theorem C.laws_szBranch (B : Nat) (hB1 : 67108864 ≤ B) (hB2 : B ≤ 9223372036854775807) (a : Branch) (left' : Int) (r : Int) (hF : F.laws_szBranch a left' = some r) : PureCall Try.prog B 73 [.agg [.lit (.int .i64 a.ctor), .lit (.int .i64 a.n), .lit (.int .i64 a.m), .lit (.int .i64 a.tree.op), .lit (.int .i64 a.tree.clause), .arr (List.map PathBind.c a.tree.binds), .arr (List.map cI a.tree.path), .arr (List.map Branch.c a.tree.branches), .arr (List.map Tree.c a.tree.els)], .lit (.int .i64 left')] (.lit (.int .i64 r)) :=
  (CC.laws_szBranch B hB1 hB2 ).1 a left' r hF

theorem C.laws_szTree (B : Nat) (hB1 : 67108864 ≤ B) (hB2 : B ≤ 9223372036854775807) (a : Tree) (left' : Int) (r : Int) (hF : F.laws_szTree a left' = some r) : PureCall Try.prog B 31 [.agg [.lit (.int .i64 a.op), .lit (.int .i64 a.clause), .arr (List.map PathBind.c a.binds), .arr (List.map cI a.path), .arr (List.map Branch.c a.branches), .arr (List.map Tree.c a.els)], .lit (.int .i64 left')] (.lit (.int .i64 r)) :=
  (CC.laws_szBranch B hB1 hB2 ).2.1 a left' r hF

theorem C.laws_szTreeS (B : Nat) (hB1 : 67108864 ≤ B) (hB2 : B ≤ 9223372036854775807) (a : List Tree) (left' : Int) (r : Int) (hF : F.laws_szTreeS a left' = some r) : PureCall Try.prog B 59 [.arr (List.map Tree.c a), .lit (.int .i64 left')] (.lit (.int .i64 r)) :=
  (CC.laws_szBranch B hB1 hB2 ).2.2.1 a left' r hF

theorem C.laws_szTreeS_l1 (B : Nat) (hB1 : 67108864 ≤ B) (hB2 : B ≤ 9223372036854775807) (a : List Tree) (left'3 : Int) (i : Nat) (o : Lo Int Int) (hF : F.laws_szTreeS_l1 a left'3 i = some o) : ∀ (c : Code), navO [1, 1, 1, 0, 1, 0, 0] (bodyOf Try.f59) = some c → ∀ (Q : Exit → ASt → Prop), o.post (fun r => ∀ st, Post Try.prog Try.f59 (fun r' _ => r'.le (.lit (.int .i64 r))) .ret st → Q .ret st) (fun s => Q (.exit 0) ⟨[(1, .lit (.int .i64 s))], []⟩) → ALoopU Try.prog B 0 27 (hold c .mk) ⟨[(0, .arr (List.map Tree.c a)), (1, .lit (.int .i64 left'3)), (5, .lit (.int .i64 (i : Int)))], []⟩ (hold Q .mk) :=
  (CC.laws_szBranch B hB1 hB2 ).2.2.2.1 a left'3 i o hF

theorem C.laws_szBranchS (B : Nat) (hB1 : 67108864 ≤ B) (hB2 : B ≤ 9223372036854775807) (a : List Branch) (left' : Int) (r : Int) (hF : F.laws_szBranchS a left' = some r) : PureCall Try.prog B 58 [.arr (List.map Branch.c a), .lit (.int .i64 left')] (.lit (.int .i64 r)) :=
  (CC.laws_szBranch B hB1 hB2 ).2.2.2.2.1 a left' r hF

theorem C.laws_szBranchS_l1 (B : Nat) (hB1 : 67108864 ≤ B) (hB2 : B ≤ 9223372036854775807) (a : List Branch) (left'3 : Int) (i : Nat) (o : Lo Int Int) (hF : F.laws_szBranchS_l1 a left'3 i = some o) : ∀ (c : Code), navO [1, 1, 1, 0, 1, 0, 0] (bodyOf Try.f58) = some c → ∀ (Q : Exit → ASt → Prop), o.post (fun r => ∀ st, Post Try.prog Try.f58 (fun r' _ => r'.le (.lit (.int .i64 r))) .ret st → Q .ret st) (fun s => Q (.exit 0) ⟨[(1, .lit (.int .i64 s))], []⟩) → ALoopU Try.prog B 0 27 (hold c .mk) ⟨[(0, .arr (List.map Branch.c a)), (1, .lit (.int .i64 left'3)), (5, .lit (.int .i64 (i : Int)))], []⟩ (hold Q .mk) :=
  (CC.laws_szBranch B hB1 hB2 ).2.2.2.2.2 a left'3 i o hF

set_option maxRecDepth 100000 in
set_option maxHeartbeats 400000 in
theorem CC.laws_toIntS_l1 (B : Nat) (hB1 : 67108864 ≤ B) (hB2 : B ≤ 9223372036854775807) (a : List Int) : (∀ (out : List Int) (i : Nat) (o : List Int), F.laws_toIntS_l1 a out i = some o → ∀ (c : Code), navO [1, 1, 0, 1, 0, 0] (bodyOf Try.f61) = some c → ∀ (Q : Exit → ASt → Prop), Q (.exit 0) ⟨[(3, .own 0 (List.length (α := Int) o))], [.elems 1 (List.map cI o)]⟩ → ALoopU Try.prog B 0 22 (hold c .mk) ⟨[(0, .arr (List.map cI a)), (3, .own 0 (List.length (α := Int) out)), (4, .lit (.int .i64 (i : Int)))], [.elems 1 (List.map cI out)]⟩ (hold Q .mk)) := by
  refine F.laws_toIntS_l1.partial_correctness a
    (fun out i o => ∀ (c : Code), navO [1, 1, 0, 1, 0, 0] (bodyOf Try.f61) = some c → ∀ (Q : Exit → ASt → Prop), Q (.exit 0) ⟨[(3, .own 0 (List.length (α := Int) o))], [.elems 1 (List.map cI o)]⟩ → ALoopU Try.prog B 0 22 (hold c .mk) ⟨[(0, .arr (List.map cI a)), (3, .own 0 (List.length (α := Int) out)), (4, .lit (.int .i64 (i : Int)))], [.elems 1 (List.map cI out)]⟩ (hold Q .mk))
    ?_
  · intro _f_laws_toIntS_l1 ih_laws_toIntS_l1 out i o hF
    intro c hc Q hq
    obtain rfl : c = _ := navEq hc rfl
    refine ALoopU.know fun hk hs => ?_
    have b0 := hk 0
    simp -dsimp at b0
    have d0 := hs 0 _ rfl
    simp -dsimp [Blk.bnd] at d0
    clear hk hs
    refine ALoopU.enter ?_
    simp -dsimp
    repeat (refine chk.go (by first | omega | assumption | (simp_all; done) | (simp_all; omega)) ?_; simp -dsimp)
    refine abr.split (fun h2 => ?_) (fun h2 => ?_)
    · have q3 : (i < a.length) := by first | exact h2 | omega | (simpa using h2) | (simp at h2 ⊢; omega) | simp_all
      rw [if_pos q3] at hF
      have hF := ob hF; obtain ⟨x, e4, hF⟩ := hF
      have le4 := lt_of_get e4
      have hF := ob hF; obtain ⟨x5, e6, hF⟩ := hF
      have le6 := lt_of_get e6
      have w7 : IntKind.i64.wrap ((i : Int) + 1) = (i : Int) + 1 := wrap_in (by omega) (by omega)
      simp -dsimp [h2, ↓e4, ↓e6, w7]
      repeat (refine chk.go (by first | omega | assumption | (simp_all; done) | (simp_all; omega)) ?_; simp -dsimp [h2, ↓e4, ↓e6, w7])
      refine Again.go ⟨[(0, .arr (List.map cI a)), (3, .own 0 (List.length (α := Int) (out.set i x))), (4, .lit (.int .i64 ((i + 1) : Int)))], [.elems 1 (List.map cI (out.set i x))]⟩ (Gh.to (by simp) (by simp -dsimp) (by simp -dsimp) (by simp -dsimp)) ?_
      exact (ih_laws_toIntS_l1 (out.set i x) (i + 1) o hF) _ rfl _ hq
    · have q3 : ¬ (i < a.length) := by first | exact h2 | omega | (simpa using h2) | (simp at h2 ⊢; omega) | simp_all
      rw [if_neg q3] at hF
      cases hF
      simp -dsimp [h2]
      repeat (refine chk.go (by first | omega | assumption | (simp_all; done) | (simp_all; omega)) ?_; simp -dsimp [h2])
      refine Leave.go ⟨[(3, .own 0 (List.length (α := Int) out))], [.elems 1 (List.map cI out)]⟩ (Gh.to (by simp) (by simp -dsimp) (by simp -dsimp) (by simp -dsimp)) ?_
      exact hq

theorem C.laws_toIntS_l1 (B : Nat) (hB1 : 67108864 ≤ B) (hB2 : B ≤ 9223372036854775807) (a : List Int) (out : List Int) (i : Nat) (o : List Int) (hF : F.laws_toIntS_l1 a out i = some o) : ∀ (c : Code), navO [1, 1, 0, 1, 0, 0] (bodyOf Try.f61) = some c → ∀ (Q : Exit → ASt → Prop), Q (.exit 0) ⟨[(3, .own 0 (List.length (α := Int) o))], [.elems 1 (List.map cI o)]⟩ → ALoopU Try.prog B 0 22 (hold c .mk) ⟨[(0, .arr (List.map cI a)), (3, .own 0 (List.length (α := Int) out)), (4, .lit (.int .i64 (i : Int)))], [.elems 1 (List.map cI out)]⟩ (hold Q .mk) :=
  (CC.laws_toIntS_l1 B hB1 hB2 a) out i o hF

set_option maxRecDepth 100000 in
set_option maxHeartbeats 400000 in
theorem C.laws_toIntS (B : Nat) (hB1 : 67108864 ≤ B) (hB2 : B ≤ 9223372036854775807) (a : List Int) (r : List Int) (hF : F.laws_toIntS a = some r) : PureCall Try.prog B 61 [.arr (List.map cI a)] (.arr (List.map cI r)) := by
  unfold F.laws_toIntS at hF
  refine PureCall.enterLe Try.func61 (by kernel_rfl) rfl Try.ntmps61 (by simp) (by simp) ?_
  have hF := oc hF; obtain ⟨c1, hF⟩ := hF
  simp -dsimp
  repeat (refine chk.go (by first | omega | assumption | (simp_all; done) | (simp_all; omega)) ?_; simp -dsimp)
  have hF := ob hF; obtain ⟨o, ho8, hF⟩ := hF
  refine ALoop.goU ⟨[(0, .arr (List.map cI a)), (3, .own 0 (List.length (α := Int) (List.replicate a.length (0 : Int)))), (4, .lit (.int .i64 (0 : Int)))], [.elems 1 (List.map cI (List.replicate a.length (0 : Int)))]⟩ (Gh.to (by simp) (by simp -dsimp) (by simp -dsimp) (by simp -dsimp)) ?_
  refine (C.laws_toIntS_l1 B hB1 hB2 a (List.replicate a.length (0 : Int)) 0 o ho8) _ rfl _ ?_
  cases hF
  simp -dsimp
  repeat (refine chk.go (by first | omega | assumption | (simp_all; done) | (simp_all; omega)) ?_; simp -dsimp)

set_option maxRecDepth 100000 in
set_option maxHeartbeats 400000 in
theorem C.laws_toPathBind (B : Nat) (hB1 : 67108864 ≤ B) (hB2 : B ≤ 9223372036854775807) (a : PathBind) (r : PathBind) (hF : F.laws_toPathBind a = some r) : PureCall Try.prog B 74 [.agg [.lit (.int .i64 a.var), .arr (List.map cI a.path)]] (.agg [.lit (.int .i64 r.var), .arr (List.map cI r.path)]) := by
  unfold F.laws_toPathBind at hF
  refine PureCall.enterLe Try.func74 (by kernel_rfl) rfl Try.ntmps74 (by simp) (by simp) ?_
  simp -dsimp
  repeat (refine chk.go (by first | omega | assumption | (simp_all; done) | (simp_all; omega)) ?_; simp -dsimp)
  have hF := ob hF; obtain ⟨v, e1, hF⟩ := hF
  refine ((C.laws_toIntS B hB1 hB2 a.path v e1)).goW (by simp) (by simp) ?_
  cases hF
  simp -dsimp
  repeat (refine chk.go (by first | omega | assumption | (simp_all; done) | (simp_all; omega)) ?_; simp -dsimp)

set_option maxRecDepth 100000 in
set_option maxHeartbeats 400000 in
theorem CC.laws_toPathBindS_l1 (B : Nat) (hB1 : 67108864 ≤ B) (hB2 : B ≤ 9223372036854775807) (a : List PathBind) : (∀ (out : List PathBind) (i : Nat) (o : List PathBind), F.laws_toPathBindS_l1 a out i = some o → ∀ (c : Code), navO [1, 1, 0, 1, 0, 0] (bodyOf Try.f60) = some c → ∀ (Q : Exit → ASt → Prop), Q (.exit 0) ⟨[(3, .own 0 (List.length (α := PathBind) o))], [.elems 2 (List.map PathBind.c o)]⟩ → ALoopU Try.prog B 0 23 (hold c .mk) ⟨[(0, .arr (List.map PathBind.c a)), (3, .own 0 (List.length (α := PathBind) out)), (4, .lit (.int .i64 (i : Int)))], [.elems 2 (List.map PathBind.c out)]⟩ (hold Q .mk)) := by
  refine F.laws_toPathBindS_l1.partial_correctness a
    (fun out i o => ∀ (c : Code), navO [1, 1, 0, 1, 0, 0] (bodyOf Try.f60) = some c → ∀ (Q : Exit → ASt → Prop), Q (.exit 0) ⟨[(3, .own 0 (List.length (α := PathBind) o))], [.elems 2 (List.map PathBind.c o)]⟩ → ALoopU Try.prog B 0 23 (hold c .mk) ⟨[(0, .arr (List.map PathBind.c a)), (3, .own 0 (List.length (α := PathBind) out)), (4, .lit (.int .i64 (i : Int)))], [.elems 2 (List.map PathBind.c out)]⟩ (hold Q .mk))
    ?_
  · intro _f_laws_toPathBindS_l1 ih_laws_toPathBindS_l1 out i o hF
    intro c hc Q hq
    obtain rfl : c = _ := navEq hc rfl
    refine ALoopU.know fun hk hs => ?_
    have b0 := hk 0
    simp -dsimp at b0
    have d0 := hs 0 _ rfl
    simp -dsimp [Blk.bnd] at d0
    clear hk hs
    refine ALoopU.enter ?_
    simp -dsimp
    repeat (refine chk.go (by first | omega | assumption | (simp_all; done) | (simp_all; omega)) ?_; simp -dsimp)
    refine abr.split (fun h2 => ?_) (fun h2 => ?_)
    · have q3 : (i < a.length) := by first | exact h2 | omega | (simpa using h2) | (simp at h2 ⊢; omega) | simp_all
      rw [if_pos q3] at hF
      have hF := ob hF; obtain ⟨x, e4, hF⟩ := hF
      have le4 := lt_of_get e4
      simp -dsimp [h2, ↓e4]
      repeat (refine chk.go (by first | omega | assumption | (simp_all; done) | (simp_all; omega)) ?_; simp -dsimp [h2, ↓e4])
      have hF := ob hF; obtain ⟨v, e5, hF⟩ := hF
      refine ((C.laws_toPathBind B hB1 hB2 x v e5)).goW (by simp) (by simp) ?_
      have hF := ob hF; obtain ⟨x6, e7, hF⟩ := hF
      have le7 := lt_of_get e7
      have w8 : IntKind.i64.wrap ((i : Int) + 1) = (i : Int) + 1 := wrap_in (by omega) (by omega)
      simp -dsimp [h2, ↓e4, ↓e7, w8]
      repeat (refine chk.go (by first | omega | assumption | (simp_all; done) | (simp_all; omega)) ?_; simp -dsimp [h2, ↓e4, ↓e7, w8])
      refine Again.go ⟨[(0, .arr (List.map PathBind.c a)), (3, .own 0 (List.length (α := PathBind) (out.set i v))), (4, .lit (.int .i64 ((i + 1) : Int)))], [.elems 2 (List.map PathBind.c (out.set i v))]⟩ (Gh.to (by simp) (by simp -dsimp) (by simp -dsimp) (by simp -dsimp)) ?_
      exact (ih_laws_toPathBindS_l1 (out.set i v) (i + 1) o hF) _ rfl _ hq
    · have q3 : ¬ (i < a.length) := by first | exact h2 | omega | (simpa using h2) | (simp at h2 ⊢; omega) | simp_all
      rw [if_neg q3] at hF
      cases hF
      simp -dsimp [h2]
      repeat (refine chk.go (by first | omega | assumption | (simp_all; done) | (simp_all; omega)) ?_; simp -dsimp [h2])
      refine Leave.go ⟨[(3, .own 0 (List.length (α := PathBind) out))], [.elems 2 (List.map PathBind.c out)]⟩ (Gh.to (by simp) (by simp -dsimp) (by simp -dsimp) (by simp -dsimp)) ?_
      exact hq

theorem C.laws_toPathBindS_l1 (B : Nat) (hB1 : 67108864 ≤ B) (hB2 : B ≤ 9223372036854775807) (a : List PathBind) (out : List PathBind) (i : Nat) (o : List PathBind) (hF : F.laws_toPathBindS_l1 a out i = some o) : ∀ (c : Code), navO [1, 1, 0, 1, 0, 0] (bodyOf Try.f60) = some c → ∀ (Q : Exit → ASt → Prop), Q (.exit 0) ⟨[(3, .own 0 (List.length (α := PathBind) o))], [.elems 2 (List.map PathBind.c o)]⟩ → ALoopU Try.prog B 0 23 (hold c .mk) ⟨[(0, .arr (List.map PathBind.c a)), (3, .own 0 (List.length (α := PathBind) out)), (4, .lit (.int .i64 (i : Int)))], [.elems 2 (List.map PathBind.c out)]⟩ (hold Q .mk) :=
  (CC.laws_toPathBindS_l1 B hB1 hB2 a) out i o hF

set_option maxRecDepth 100000 in
set_option maxHeartbeats 400000 in
theorem C.laws_toPathBindS (B : Nat) (hB1 : 67108864 ≤ B) (hB2 : B ≤ 9223372036854775807) (a : List PathBind) (r : List PathBind) (hF : F.laws_toPathBindS a = some r) : PureCall Try.prog B 60 [.arr (List.map PathBind.c a)] (.arr (List.map PathBind.c r)) := by
  unfold F.laws_toPathBindS at hF
  refine PureCall.enterLe Try.func60 (by kernel_rfl) rfl Try.ntmps60 (by simp) (by simp) ?_
  have hF := oc hF; obtain ⟨c1, hF⟩ := hF
  simp -dsimp
  repeat (refine chk.go (by first | omega | assumption | (simp_all; done) | (simp_all; omega)) ?_; simp -dsimp)
  have hF := ob hF; obtain ⟨o, ho9, hF⟩ := hF
  refine ALoop.goU ⟨[(0, .arr (List.map PathBind.c a)), (3, .own 0 (List.length (α := PathBind) (List.replicate a.length PathBind.z))), (4, .lit (.int .i64 (0 : Int)))], [.elems 2 (List.map PathBind.c (List.replicate a.length PathBind.z))]⟩ (Gh.to (by simp) (by simp -dsimp) (by simp -dsimp) (by simp -dsimp)) ?_
  refine (C.laws_toPathBindS_l1 B hB1 hB2 a (List.replicate a.length PathBind.z) 0 o ho9) _ rfl _ ?_
  cases hF
  simp -dsimp
  repeat (refine chk.go (by first | omega | assumption | (simp_all; done) | (simp_all; omega)) ?_; simp -dsimp)

set_option maxRecDepth 100000 in
set_option maxHeartbeats 400000 in
theorem CC.laws_toBranch (B : Nat) (hB1 : 67108864 ≤ B) (hB2 : B ≤ 9223372036854775807)  : (∀ (a : Branch) (r : Branch), F.laws_toBranch a = some r → PureCall Try.prog B 75 [.agg [.lit (.int .i64 a.ctor), .lit (.int .i64 a.n), .lit (.int .i64 a.m), .lit (.int .i64 a.tree.op), .lit (.int .i64 a.tree.clause), .arr (List.map PathBind.c a.tree.binds), .arr (List.map cI a.tree.path), .arr (List.map Branch.c a.tree.branches), .arr (List.map Tree.c a.tree.els)]] (.agg [.lit (.int .i64 r.ctor), .lit (.int .i64 r.n), .lit (.int .i64 r.m), .lit (.int .i64 r.tree.op), .lit (.int .i64 r.tree.clause), .arr (List.map PathBind.c r.tree.binds), .arr (List.map cI r.tree.path), .arr (List.map Branch.c r.tree.branches), .arr (List.map Tree.c r.tree.els)])) ∧
    (∀ (a : Tree) (r : Tree), F.laws_toTree a = some r → PureCall Try.prog B 33 [.agg [.lit (.int .i64 a.op), .lit (.int .i64 a.clause), .arr (List.map PathBind.c a.binds), .arr (List.map cI a.path), .arr (List.map Branch.c a.branches), .arr (List.map Tree.c a.els)]] (.agg [.lit (.int .i64 r.op), .lit (.int .i64 r.clause), .arr (List.map PathBind.c r.binds), .arr (List.map cI r.path), .arr (List.map Branch.c r.branches), .arr (List.map Tree.c r.els)])) ∧
    (∀ (a : List Tree) (r : List Tree), F.laws_toTreeS a = some r → PureCall Try.prog B 63 [.arr (List.map Tree.c a)] (.arr (List.map Tree.c r))) ∧
    (∀ (a : List Tree) (out : List Tree) (i : Nat) (o : List Tree), F.laws_toTreeS_l1 a out i = some o → ∀ (c : Code), navO [1, 1, 0, 1, 0, 0] (bodyOf Try.f63) = some c → ∀ (Q : Exit → ASt → Prop), Q (.exit 0) ⟨[(3, .own 0 (List.length (α := Tree) o))], [.elems 6 (List.map Tree.c o)]⟩ → ALoopU Try.prog B 0 23 (hold c .mk) ⟨[(0, .arr (List.map Tree.c a)), (3, .own 0 (List.length (α := Tree) out)), (4, .lit (.int .i64 (i : Int)))], [.elems 6 (List.map Tree.c out)]⟩ (hold Q .mk)) ∧
    (∀ (a : List Branch) (r : List Branch), F.laws_toBranchS a = some r → PureCall Try.prog B 62 [.arr (List.map Branch.c a)] (.arr (List.map Branch.c r))) ∧
    (∀ (a : List Branch) (out : List Branch) (i : Nat) (o : List Branch), F.laws_toBranchS_l1 a out i = some o → ∀ (c : Code), navO [1, 1, 0, 1, 0, 0] (bodyOf Try.f62) = some c → ∀ (Q : Exit → ASt → Prop), Q (.exit 0) ⟨[(3, .own 0 (List.length (α := Branch) o))], [.elems 9 (List.map Branch.c o)]⟩ → ALoopU Try.prog B 0 23 (hold c .mk) ⟨[(0, .arr (List.map Branch.c a)), (3, .own 0 (List.length (α := Branch) out)), (4, .lit (.int .i64 (i : Int)))], [.elems 9 (List.map Branch.c out)]⟩ (hold Q .mk)) := by
  refine F.laws_toBranch.mutual_partial_correctness 
    (fun a r => PureCall Try.prog B 75 [.agg [.lit (.int .i64 a.ctor), .lit (.int .i64 a.n), .lit (.int .i64 a.m), .lit (.int .i64 a.tree.op), .lit (.int .i64 a.tree.clause), .arr (List.map PathBind.c a.tree.binds), .arr (List.map cI a.tree.path), .arr (List.map Branch.c a.tree.branches), .arr (List.map Tree.c a.tree.els)]] (.agg [.lit (.int .i64 r.ctor), .lit (.int .i64 r.n), .lit (.int .i64 r.m), .lit (.int .i64 r.tree.op), .lit (.int .i64 r.tree.clause), .arr (List.map PathBind.c r.tree.binds), .arr (List.map cI r.tree.path), .arr (List.map Branch.c r.tree.branches), .arr (List.map Tree.c r.tree.els)]))
    (fun a r => PureCall Try.prog B 33 [.agg [.lit (.int .i64 a.op), .lit (.int .i64 a.clause), .arr (List.map PathBind.c a.binds), .arr (List.map cI a.path), .arr (List.map Branch.c a.branches), .arr (List.map Tree.c a.els)]] (.agg [.lit (.int .i64 r.op), .lit (.int .i64 r.clause), .arr (List.map PathBind.c r.binds), .arr (List.map cI r.path), .arr (List.map Branch.c r.branches), .arr (List.map Tree.c r.els)]))
    (fun a r => PureCall Try.prog B 63 [.arr (List.map Tree.c a)] (.arr (List.map Tree.c r)))
    (fun a out i o => ∀ (c : Code), navO [1, 1, 0, 1, 0, 0] (bodyOf Try.f63) = some c → ∀ (Q : Exit → ASt → Prop), Q (.exit 0) ⟨[(3, .own 0 (List.length (α := Tree) o))], [.elems 6 (List.map Tree.c o)]⟩ → ALoopU Try.prog B 0 23 (hold c .mk) ⟨[(0, .arr (List.map Tree.c a)), (3, .own 0 (List.length (α := Tree) out)), (4, .lit (.int .i64 (i : Int)))], [.elems 6 (List.map Tree.c out)]⟩ (hold Q .mk))
    (fun a r => PureCall Try.prog B 62 [.arr (List.map Branch.c a)] (.arr (List.map Branch.c r)))
    (fun a out i o => ∀ (c : Code), navO [1, 1, 0, 1, 0, 0] (bodyOf Try.f62) = some c → ∀ (Q : Exit → ASt → Prop), Q (.exit 0) ⟨[(3, .own 0 (List.length (α := Branch) o))], [.elems 9 (List.map Branch.c o)]⟩ → ALoopU Try.prog B 0 23 (hold c .mk) ⟨[(0, .arr (List.map Branch.c a)), (3, .own 0 (List.length (α := Branch) out)), (4, .lit (.int .i64 (i : Int)))], [.elems 9 (List.map Branch.c out)]⟩ (hold Q .mk))
    ?_ ?_ ?_ ?_ ?_ ?_
  · intro _f_laws_toTree ih_laws_toTree a r hF
    refine PureCall.enterLe Try.func75 (by kernel_rfl) rfl Try.ntmps75 (by simp) (by simp) ?_
    simp -dsimp
    repeat (refine chk.go (by first | omega | assumption | (simp_all; done) | (simp_all; omega)) ?_; simp -dsimp)
    have hF := ob hF; obtain ⟨v, e1, hF⟩ := hF
    refine ((ih_laws_toTree a.tree v e1)).goW (by simp) (by simp) ?_
    cases hF
    simp -dsimp
    repeat (refine chk.go (by first | omega | assumption | (simp_all; done) | (simp_all; omega)) ?_; simp -dsimp)
  · intro _f_laws_toTreeS _f_laws_toBranchS ih_laws_toTreeS ih_laws_toBranchS a r hF
    refine PureCall.enterLe Try.func33 (by kernel_rfl) rfl Try.ntmps33 (by simp) (by simp) ?_
    simp -dsimp
    repeat (refine chk.go (by first | omega | assumption | (simp_all; done) | (simp_all; omega)) ?_; simp -dsimp)
    have hF := ob hF; obtain ⟨v, e1, hF⟩ := hF
    refine ((C.laws_toPathBindS B hB1 hB2 a.binds v e1)).goW (by simp) (by simp) ?_
    simp -dsimp
    repeat (refine chk.go (by first | omega | assumption | (simp_all; done) | (simp_all; omega)) ?_; simp -dsimp)
    have hF := ob hF; obtain ⟨v2, e3, hF⟩ := hF
    refine ((C.laws_toIntS B hB1 hB2 a.path v2 e3)).goW (by simp) (by simp) ?_
    simp -dsimp
    repeat (refine chk.go (by first | omega | assumption | (simp_all; done) | (simp_all; omega)) ?_; simp -dsimp)
    have hF := ob hF; obtain ⟨v4, e5, hF⟩ := hF
    refine ((ih_laws_toBranchS a.branches v4 e5)).goW (by simp) (by simp) ?_
    simp -dsimp
    repeat (refine chk.go (by first | omega | assumption | (simp_all; done) | (simp_all; omega)) ?_; simp -dsimp)
    have hF := ob hF; obtain ⟨v6, e7, hF⟩ := hF
    refine ((ih_laws_toTreeS a.els v6 e7)).goW (by simp) (by simp) ?_
    cases hF
    simp -dsimp
    repeat (refine chk.go (by first | omega | assumption | (simp_all; done) | (simp_all; omega)) ?_; simp -dsimp)
  · intro _f_laws_toTreeS_l1 ih_laws_toTreeS_l1 a r hF
    refine PureCall.enterLe Try.func63 (by kernel_rfl) rfl Try.ntmps63 (by simp) (by simp) ?_
    have hF := oc hF; obtain ⟨c1, hF⟩ := hF
    simp -dsimp
    repeat (refine chk.go (by first | omega | assumption | (simp_all; done) | (simp_all; omega)) ?_; simp -dsimp)
    have hF := ob hF; obtain ⟨o, ho9, hF⟩ := hF
    refine ALoop.goU ⟨[(0, .arr (List.map Tree.c a)), (3, .own 0 (List.length (α := Tree) (List.replicate a.length Tree.z))), (4, .lit (.int .i64 (0 : Int)))], [.elems 6 (List.map Tree.c (List.replicate a.length Tree.z))]⟩ (Gh.to (by simp) (by simp -dsimp) (by simp -dsimp) (by simp -dsimp)) ?_
    refine (ih_laws_toTreeS_l1 a (List.replicate a.length Tree.z) 0 o ho9) _ rfl _ ?_
    cases hF
    simp -dsimp
    repeat (refine chk.go (by first | omega | assumption | (simp_all; done) | (simp_all; omega)) ?_; simp -dsimp)
  · intro _f_laws_toTree _f_laws_toTreeS_l1 ih_laws_toTree ih_laws_toTreeS_l1 a out i o hF
    intro c hc Q hq
    obtain rfl : c = _ := navEq hc rfl
    refine ALoopU.know fun hk hs => ?_
    have b0 := hk 0
    simp -dsimp at b0
    have d0 := hs 0 _ rfl
    simp -dsimp [Blk.bnd] at d0
    clear hk hs
    refine ALoopU.enter ?_
    simp -dsimp
    repeat (refine chk.go (by first | omega | assumption | (simp_all; done) | (simp_all; omega)) ?_; simp -dsimp)
    refine abr.split (fun h2 => ?_) (fun h2 => ?_)
    · have q3 : (i < a.length) := by first | exact h2 | omega | (simpa using h2) | (simp at h2 ⊢; omega) | simp_all
      rw [if_pos q3] at hF
      have hF := ob hF; obtain ⟨x, e4, hF⟩ := hF
      have le4 := lt_of_get e4
      simp -dsimp [h2, ↓e4]
      repeat (refine chk.go (by first | omega | assumption | (simp_all; done) | (simp_all; omega)) ?_; simp -dsimp [h2, ↓e4])
      have hF := ob hF; obtain ⟨v, e5, hF⟩ := hF
      refine ((ih_laws_toTree x v e5)).goW (by simp) (by simp) ?_
      have hF := ob hF; obtain ⟨x6, e7, hF⟩ := hF
      have le7 := lt_of_get e7
      have w8 : IntKind.i64.wrap ((i : Int) + 1) = (i : Int) + 1 := wrap_in (by omega) (by omega)
      simp -dsimp [h2, ↓e4, ↓e7, w8]
      repeat (refine chk.go (by first | omega | assumption | (simp_all; done) | (simp_all; omega)) ?_; simp -dsimp [h2, ↓e4, ↓e7, w8])
      refine Again.go ⟨[(0, .arr (List.map Tree.c a)), (3, .own 0 (List.length (α := Tree) (out.set i v))), (4, .lit (.int .i64 ((i + 1) : Int)))], [.elems 6 (List.map Tree.c (out.set i v))]⟩ (Gh.to (by simp) (by simp -dsimp) (by simp -dsimp) (by simp -dsimp)) ?_
      exact (ih_laws_toTreeS_l1 a (out.set i v) (i + 1) o hF) _ rfl _ hq
    · have q3 : ¬ (i < a.length) := by first | exact h2 | omega | (simpa using h2) | (simp at h2 ⊢; omega) | simp_all
      rw [if_neg q3] at hF
      cases hF
      simp -dsimp [h2]
      repeat (refine chk.go (by first | omega | assumption | (simp_all; done) | (simp_all; omega)) ?_; simp -dsimp [h2])
      refine Leave.go ⟨[(3, .own 0 (List.length (α := Tree) out))], [.elems 6 (List.map Tree.c out)]⟩ (Gh.to (by simp) (by simp -dsimp) (by simp -dsimp) (by simp -dsimp)) ?_
      exact hq
  · intro _f_laws_toBranchS_l1 ih_laws_toBranchS_l1 a r hF
    refine PureCall.enterLe Try.func62 (by kernel_rfl) rfl Try.ntmps62 (by simp) (by simp) ?_
    have hF := oc hF; obtain ⟨c1, hF⟩ := hF
    simp -dsimp
    repeat (refine chk.go (by first | omega | assumption | (simp_all; done) | (simp_all; omega)) ?_; simp -dsimp)
    have hF := ob hF; obtain ⟨o, ho9, hF⟩ := hF
    refine ALoop.goU ⟨[(0, .arr (List.map Branch.c a)), (3, .own 0 (List.length (α := Branch) (List.replicate a.length Branch.z))), (4, .lit (.int .i64 (0 : Int)))], [.elems 9 (List.map Branch.c (List.replicate a.length Branch.z))]⟩ (Gh.to (by simp) (by simp -dsimp) (by simp -dsimp) (by simp -dsimp)) ?_
    refine (ih_laws_toBranchS_l1 a (List.replicate a.length Branch.z) 0 o ho9) _ rfl _ ?_
    cases hF
    simp -dsimp
    repeat (refine chk.go (by first | omega | assumption | (simp_all; done) | (simp_all; omega)) ?_; simp -dsimp)
  · intro _f_laws_toBranch _f_laws_toBranchS_l1 ih_laws_toBranch ih_laws_toBranchS_l1 a out i o hF
    intro c hc Q hq
    obtain rfl : c = _ := navEq hc rfl
    refine ALoopU.know fun hk hs => ?_
    have b0 := hk 0
    simp -dsimp at b0
    have d0 := hs 0 _ rfl
    simp -dsimp [Blk.bnd] at d0
    clear hk hs
    refine ALoopU.enter ?_
    simp -dsimp
    repeat (refine chk.go (by first | omega | assumption | (simp_all; done) | (simp_all; omega)) ?_; simp -dsimp)
    refine abr.split (fun h2 => ?_) (fun h2 => ?_)
    · have q3 : (i < a.length) := by first | exact h2 | omega | (simpa using h2) | (simp at h2 ⊢; omega) | simp_all
      rw [if_pos q3] at hF
      have hF := ob hF; obtain ⟨x, e4, hF⟩ := hF
      have le4 := lt_of_get e4
      simp -dsimp [h2, ↓e4]
      repeat (refine chk.go (by first | omega | assumption | (simp_all; done) | (simp_all; omega)) ?_; simp -dsimp [h2, ↓e4])
      have hF := ob hF; obtain ⟨v, e5, hF⟩ := hF
      refine ((ih_laws_toBranch x v e5)).goW (by simp) (by simp) ?_
      have hF := ob hF; obtain ⟨x6, e7, hF⟩ := hF
      have le7 := lt_of_get e7
      have w8 : IntKind.i64.wrap ((i : Int) + 1) = (i : Int) + 1 := wrap_in (by omega) (by omega)
      simp -dsimp [h2, ↓e4, ↓e7, w8]
      repeat (refine chk.go (by first | omega | assumption | (simp_all; done) | (simp_all; omega)) ?_; simp -dsimp [h2, ↓e4, ↓e7, w8])
      refine Again.go ⟨[(0, .arr (List.map Branch.c a)), (3, .own 0 (List.length (α := Branch) (out.set i v))), (4, .lit (.int .i64 ((i + 1) : Int)))], [.elems 9 (List.map Branch.c (out.set i v))]⟩ (Gh.to (by simp) (by simp -dsimp) (by simp -dsimp) (by simp -dsimp)) ?_
      exact (ih_laws_toBranchS_l1 a (out.set i v) (i + 1) o hF) _ rfl _ hq
    · have q3 : ¬ (i < a.length) := by first | exact h2 | omega | (simpa using h2) | (simp at h2 ⊢; omega) | simp_all
      rw [if_neg q3] at hF
      cases hF
      simp -dsimp [h2]
      repeat (refine chk.go (by first | omega | assumption | (simp_all; done) | (simp_all; omega)) ?_; simp -dsimp [h2])
      refine Leave.go ⟨[(3, .own 0 (List.length (α := Branch) out))], [.elems 9 (List.map Branch.c out)]⟩ (Gh.to (by simp) (by simp -dsimp) (by simp -dsimp) (by simp -dsimp)) ?_
      exact hq

theorem C.laws_toBranch (B : Nat) (hB1 : 67108864 ≤ B) (hB2 : B ≤ 9223372036854775807) (a : Branch) (r : Branch) (hF : F.laws_toBranch a = some r) : PureCall Try.prog B 75 [.agg [.lit (.int .i64 a.ctor), .lit (.int .i64 a.n), .lit (.int .i64 a.m), .lit (.int .i64 a.tree.op), .lit (.int .i64 a.tree.clause), .arr (List.map PathBind.c a.tree.binds), .arr (List.map cI a.tree.path), .arr (List.map Branch.c a.tree.branches), .arr (List.map Tree.c a.tree.els)]] (.agg [.lit (.int .i64 r.ctor), .lit (.int .i64 r.n), .lit (.int .i64 r.m), .lit (.int .i64 r.tree.op), .lit (.int .i64 r.tree.clause), .arr (List.map PathBind.c r.tree.binds), .arr (List.map cI r.tree.path), .arr (List.map Branch.c r.tree.branches), .arr (List.map Tree.c r.tree.els)]) :=
  (CC.laws_toBranch B hB1 hB2 ).1 a r hF

theorem C.laws_toTree (B : Nat) (hB1 : 67108864 ≤ B) (hB2 : B ≤ 9223372036854775807) (a : Tree) (r : Tree) (hF : F.laws_toTree a = some r) : PureCall Try.prog B 33 [.agg [.lit (.int .i64 a.op), .lit (.int .i64 a.clause), .arr (List.map PathBind.c a.binds), .arr (List.map cI a.path), .arr (List.map Branch.c a.branches), .arr (List.map Tree.c a.els)]] (.agg [.lit (.int .i64 r.op), .lit (.int .i64 r.clause), .arr (List.map PathBind.c r.binds), .arr (List.map cI r.path), .arr (List.map Branch.c r.branches), .arr (List.map Tree.c r.els)]) :=
  (CC.laws_toBranch B hB1 hB2 ).2.1 a r hF

theorem C.laws_toTreeS (B : Nat) (hB1 : 67108864 ≤ B) (hB2 : B ≤ 9223372036854775807) (a : List Tree) (r : List Tree) (hF : F.laws_toTreeS a = some r) : PureCall Try.prog B 63 [.arr (List.map Tree.c a)] (.arr (List.map Tree.c r)) :=
  (CC.laws_toBranch B hB1 hB2 ).2.2.1 a r hF

theorem C.laws_toTreeS_l1 (B : Nat) (hB1 : 67108864 ≤ B) (hB2 : B ≤ 9223372036854775807) (a : List Tree) (out : List Tree) (i : Nat) (o : List Tree) (hF : F.laws_toTreeS_l1 a out i = some o) : ∀ (c : Code), navO [1, 1, 0, 1, 0, 0] (bodyOf Try.f63) = some c → ∀ (Q : Exit → ASt → Prop), Q (.exit 0) ⟨[(3, .own 0 (List.length (α := Tree) o))], [.elems 6 (List.map Tree.c o)]⟩ → ALoopU Try.prog B 0 23 (hold c .mk) ⟨[(0, .arr (List.map Tree.c a)), (3, .own 0 (List.length (α := Tree) out)), (4, .lit (.int .i64 (i : Int)))], [.elems 6 (List.map Tree.c out)]⟩ (hold Q .mk) :=
  (CC.laws_toBranch B hB1 hB2 ).2.2.2.1 a out i o hF

theorem C.laws_toBranchS (B : Nat) (hB1 : 67108864 ≤ B) (hB2 : B ≤ 9223372036854775807) (a : List Branch) (r : List Branch) (hF : F.laws_toBranchS a = some r) : PureCall Try.prog B 62 [.arr (List.map Branch.c a)] (.arr (List.map Branch.c r)) :=
  (CC.laws_toBranch B hB1 hB2 ).2.2.2.2.1 a r hF

theorem C.laws_toBranchS_l1 (B : Nat) (hB1 : 67108864 ≤ B) (hB2 : B ≤ 9223372036854775807) (a : List Branch) (out : List Branch) (i : Nat) (o : List Branch) (hF : F.laws_toBranchS_l1 a out i = some o) : ∀ (c : Code), navO [1, 1, 0, 1, 0, 0] (bodyOf Try.f62) = some c → ∀ (Q : Exit → ASt → Prop), Q (.exit 0) ⟨[(3, .own 0 (List.length (α := Branch) o))], [.elems 9 (List.map Branch.c o)]⟩ → ALoopU Try.prog B 0 23 (hold c .mk) ⟨[(0, .arr (List.map Branch.c a)), (3, .own 0 (List.length (α := Branch) out)), (4, .lit (.int .i64 (i : Int)))], [.elems 9 (List.map Branch.c out)]⟩ (hold Q .mk) :=
  (CC.laws_toBranch B hB1 hB2 ).2.2.2.2.2 a out i o hF

set_option maxRecDepth 100000 in
set_option maxHeartbeats 400000 in
theorem CC.spec_TreeSize (B : Nat) (hB1 : 67108864 ≤ B) (hB2 : B ≤ 9223372036854775807)  : (∀ (x : Tree) (r : Int), F.spec_TreeSize x = some r → PureCall Try.prog B 32 [.agg [.lit (.int .i64 x.op), .lit (.int .i64 x.clause), .arr (List.map PathBind.c x.binds), .arr (List.map cI x.path), .arr (List.map Branch.c x.branches), .arr (List.map Tree.c x.els)]] (.lit (.int .i64 r))) ∧
    (∀ (x : Tree) (n8 : Int) (i9 : Nat) (o : Int), F.spec_TreeSize_l2 x n8 i9 = some o → ∀ (c : Code), navO [1, 1, 1, 0, 1, 0, 0] (bodyOf Try.f32) = some c → ∀ (Q : Exit → ASt → Prop), Q (.exit 2) ⟨[(3, .lit (.int .i64 o))], []⟩ → ALoopU Try.prog B 0 38 (hold c .mk) ⟨[(1, .ptr 0 0), (3, .lit (.int .i64 n8)), (5, .lit (.int .i64 (i9 : Int)))], [.cells [.lit (.int .i64 x.op), .lit (.int .i64 x.clause), .arr (List.map PathBind.c x.binds), .arr (List.map cI x.path), .arr (List.map Branch.c x.branches), .arr (List.map Tree.c x.els)]]⟩ (hold Q .mk)) ∧
    (∀ (x : Tree) (n : Int) (i : Nat) (o : Int), F.spec_TreeSize_l1 x n i = some o → ∀ (c : Code), navO [1, 1, 0, 1, 0, 0] (bodyOf Try.f32) = some c → ∀ (Q : Exit → ASt → Prop), Q (.exit 0) ⟨[(1, .ptr 0 0), (3, .lit (.int .i64 o))], [.cells [.lit (.int .i64 x.op), .lit (.int .i64 x.clause), .arr (List.map PathBind.c x.binds), .arr (List.map cI x.path), .arr (List.map Branch.c x.branches), .arr (List.map Tree.c x.els)]]⟩ → ALoopU Try.prog B 0 38 (hold c .mk) ⟨[(1, .ptr 0 0), (3, .lit (.int .i64 n)), (4, .lit (.int .i64 (i : Int)))], [.cells [.lit (.int .i64 x.op), .lit (.int .i64 x.clause), .arr (List.map PathBind.c x.binds), .arr (List.map cI x.path), .arr (List.map Branch.c x.branches), .arr (List.map Tree.c x.els)]]⟩ (hold Q .mk)) := by
  refine F.spec_TreeSize.mutual_partial_correctness 
    (fun x r => PureCall Try.prog B 32 [.agg [.lit (.int .i64 x.op), .lit (.int .i64 x.clause), .arr (List.map PathBind.c x.binds), .arr (List.map cI x.path), .arr (List.map Branch.c x.branches), .arr (List.map Tree.c x.els)]] (.lit (.int .i64 r)))
    (fun x n8 i9 o => ∀ (c : Code), navO [1, 1, 1, 0, 1, 0, 0] (bodyOf Try.f32) = some c → ∀ (Q : Exit → ASt → Prop), Q (.exit 2) ⟨[(3, .lit (.int .i64 o))], []⟩ → ALoopU Try.prog B 0 38 (hold c .mk) ⟨[(1, .ptr 0 0), (3, .lit (.int .i64 n8)), (5, .lit (.int .i64 (i9 : Int)))], [.cells [.lit (.int .i64 x.op), .lit (.int .i64 x.clause), .arr (List.map PathBind.c x.binds), .arr (List.map cI x.path), .arr (List.map Branch.c x.branches), .arr (List.map Tree.c x.els)]]⟩ (hold Q .mk))
    (fun x n i o => ∀ (c : Code), navO [1, 1, 0, 1, 0, 0] (bodyOf Try.f32) = some c → ∀ (Q : Exit → ASt → Prop), Q (.exit 0) ⟨[(1, .ptr 0 0), (3, .lit (.int .i64 o))], [.cells [.lit (.int .i64 x.op), .lit (.int .i64 x.clause), .arr (List.map PathBind.c x.binds), .arr (List.map cI x.path), .arr (List.map Branch.c x.branches), .arr (List.map Tree.c x.els)]]⟩ → ALoopU Try.prog B 0 38 (hold c .mk) ⟨[(1, .ptr 0 0), (3, .lit (.int .i64 n)), (4, .lit (.int .i64 (i : Int)))], [.cells [.lit (.int .i64 x.op), .lit (.int .i64 x.clause), .arr (List.map PathBind.c x.binds), .arr (List.map cI x.path), .arr (List.map Branch.c x.branches), .arr (List.map Tree.c x.els)]]⟩ (hold Q .mk))
    ?_ ?_ ?_
  · intro _f_spec_TreeSize_l2 _f_spec_TreeSize_l1 ih_spec_TreeSize_l2 ih_spec_TreeSize_l1 x r hF
    refine PureCall.enterLe Try.func32 (by kernel_rfl) rfl Try.ntmps32 (by simp) (by simp) ?_
    simp -dsimp
    repeat (refine chk.go (by first | omega | assumption | (simp_all; done) | (simp_all; omega)) ?_; simp -dsimp)
    have hF := ob hF; obtain ⟨o, ho7, hF⟩ := hF
    refine ALoop.goU ⟨[(1, .ptr 0 0), (3, .lit (.int .i64 (1 : Int))), (4, .lit (.int .i64 (0 : Int)))], [.cells [.lit (.int .i64 x.op), .lit (.int .i64 x.clause), .arr (List.map PathBind.c x.binds), .arr (List.map cI x.path), .arr (List.map Branch.c x.branches), .arr (List.map Tree.c x.els)]]⟩ (Gh.to (by simp) (by simp -dsimp) (by simp -dsimp) (by simp -dsimp)) ?_
    refine (ih_spec_TreeSize_l1 x (1 : Int) 0 o ho7) _ rfl _ ?_
    simp -dsimp
    repeat (refine chk.go (by first | omega | assumption | (simp_all; done) | (simp_all; omega)) ?_; simp -dsimp)
    have hF := ob hF; obtain ⟨o18, ho17, hF⟩ := hF
    refine ALoop.goU ⟨[(1, .ptr 0 0), (3, .lit (.int .i64 o)), (5, .lit (.int .i64 (0 : Int)))], [.cells [.lit (.int .i64 x.op), .lit (.int .i64 x.clause), .arr (List.map PathBind.c x.binds), .arr (List.map cI x.path), .arr (List.map Branch.c x.branches), .arr (List.map Tree.c x.els)]]⟩ (Gh.to (by simp) (by simp -dsimp) (by simp -dsimp) (by simp -dsimp)) ?_
    refine (ih_spec_TreeSize_l2 x o 0 o18 ho17) _ rfl _ ?_
    cases hF
    simp -dsimp
    repeat (refine chk.go (by first | omega | assumption | (simp_all; done) | (simp_all; omega)) ?_; simp -dsimp)
  · intro _f_spec_TreeSize _f_spec_TreeSize_l2 ih_spec_TreeSize ih_spec_TreeSize_l2 x n8 i9 o hF
    intro c hc Q hq
    obtain rfl : c = _ := navEq hc rfl
    refine ALoopU.know fun hk hs => ?_
    have d0 := hs 0 _ rfl
    simp -dsimp [Blk.bnd] at d0
    clear hk hs
    refine ALoopU.enter ?_
    simp -dsimp
    repeat (refine chk.go (by first | omega | assumption | (simp_all; done) | (simp_all; omega)) ?_; simp -dsimp)
    refine abr.split (fun h10 => ?_) (fun h10 => ?_)
    · have q11 : (i9 < x.els.length) := by first | exact h10 | omega | (simpa using h10) | (simp at h10 ⊢; omega) | simp_all
      rw [if_pos q11] at hF
      have hF := ob hF; obtain ⟨x12, e13, hF⟩ := hF
      have le13 := lt_of_get e13
      simp -dsimp [h10, ↓e13]
      repeat (refine chk.go (by first | omega | assumption | (simp_all; done) | (simp_all; omega)) ?_; simp -dsimp [h10, ↓e13])
      have hF := ob hF; obtain ⟨v14, e15, hF⟩ := hF
      refine ((ih_spec_TreeSize x12 v14 e15)).goW (by simp) (by simp) ?_
      have w16 : IntKind.i64.wrap ((i9 : Int) + 1) = (i9 : Int) + 1 := wrap_in (by omega) (by omega)
      simp -dsimp [h10, ↓e13, w16]
      repeat (refine chk.go (by first | omega | assumption | (simp_all; done) | (simp_all; omega)) ?_; simp -dsimp [h10, ↓e13, w16])
      refine Again.go ⟨[(1, .ptr 0 0), (3, .lit (.int .i64 (IntKind.i64.wrap (n8 + v14)))), (5, .lit (.int .i64 ((i9 + 1) : Int)))], [.cells [.lit (.int .i64 x.op), .lit (.int .i64 x.clause), .arr (List.map PathBind.c x.binds), .arr (List.map cI x.path), .arr (List.map Branch.c x.branches), .arr (List.map Tree.c x.els)]]⟩ (Gh.to (by simp) (by simp -dsimp) (by simp -dsimp) (by simp -dsimp)) ?_
      exact (ih_spec_TreeSize_l2 x (IntKind.i64.wrap (n8 + v14)) (i9 + 1) o hF) _ rfl _ hq
    · have q11 : ¬ (i9 < x.els.length) := by first | exact h10 | omega | (simpa using h10) | (simp at h10 ⊢; omega) | simp_all
      rw [if_neg q11] at hF
      cases hF
      simp -dsimp [h10]
      repeat (refine chk.go (by first | omega | assumption | (simp_all; done) | (simp_all; omega)) ?_; simp -dsimp [h10])
      refine Leave.go ⟨[(3, .lit (.int .i64 n8))], []⟩ (Gh.to (by simp) (by simp -dsimp) (by simp -dsimp) (by simp -dsimp)) ?_
      exact hq
  · intro _f_spec_TreeSize _f_spec_TreeSize_l1 ih_spec_TreeSize ih_spec_TreeSize_l1 x n i o hF
    intro c hc Q hq
    obtain rfl : c = _ := navEq hc rfl
    refine ALoopU.know fun hk hs => ?_
    have d0 := hs 0 _ rfl
    simp -dsimp [Blk.bnd] at d0
    clear hk hs
    refine ALoopU.enter ?_
    simp -dsimp
    repeat (refine chk.go (by first | omega | assumption | (simp_all; done) | (simp_all; omega)) ?_; simp -dsimp)
    refine abr.split (fun h1 => ?_) (fun h1 => ?_)
    · have q2 : (i < x.branches.length) := by first | exact h1 | omega | (simpa using h1) | (simp at h1 ⊢; omega) | simp_all
      rw [if_pos q2] at hF
      have hF := ob hF; obtain ⟨x3, e4, hF⟩ := hF
      have le4 := lt_of_get e4
      simp -dsimp [h1, ↓e4]
      repeat (refine chk.go (by first | omega | assumption | (simp_all; done) | (simp_all; omega)) ?_; simp -dsimp [h1, ↓e4])
      have hF := ob hF; obtain ⟨v, e5, hF⟩ := hF
      refine ((ih_spec_TreeSize x3.tree v e5)).goW (by simp) (by simp) ?_
      have w6 : IntKind.i64.wrap ((i : Int) + 1) = (i : Int) + 1 := wrap_in (by omega) (by omega)
      simp -dsimp [h1, ↓e4, w6]
      repeat (refine chk.go (by first | omega | assumption | (simp_all; done) | (simp_all; omega)) ?_; simp -dsimp [h1, ↓e4, w6])
      refine Again.go ⟨[(1, .ptr 0 0), (3, .lit (.int .i64 (IntKind.i64.wrap (n + v)))), (4, .lit (.int .i64 ((i + 1) : Int)))], [.cells [.lit (.int .i64 x.op), .lit (.int .i64 x.clause), .arr (List.map PathBind.c x.binds), .arr (List.map cI x.path), .arr (List.map Branch.c x.branches), .arr (List.map Tree.c x.els)]]⟩ (Gh.to (by simp) (by simp -dsimp) (by simp -dsimp) (by simp -dsimp)) ?_
      exact (ih_spec_TreeSize_l1 x (IntKind.i64.wrap (n + v)) (i + 1) o hF) _ rfl _ hq
    · have q2 : ¬ (i < x.branches.length) := by first | exact h1 | omega | (simpa using h1) | (simp at h1 ⊢; omega) | simp_all
      rw [if_neg q2] at hF
      cases hF
      simp -dsimp [h1]
      repeat (refine chk.go (by first | omega | assumption | (simp_all; done) | (simp_all; omega)) ?_; simp -dsimp [h1])
      refine Leave.go ⟨[(1, .ptr 0 0), (3, .lit (.int .i64 n))], [.cells [.lit (.int .i64 x.op), .lit (.int .i64 x.clause), .arr (List.map PathBind.c x.binds), .arr (List.map cI x.path), .arr (List.map Branch.c x.branches), .arr (List.map Tree.c x.els)]]⟩ (Gh.to (by simp) (by simp -dsimp) (by simp -dsimp) (by simp -dsimp)) ?_
      exact hq

theorem C.spec_TreeSize (B : Nat) (hB1 : 67108864 ≤ B) (hB2 : B ≤ 9223372036854775807) (x : Tree) (r : Int) (hF : F.spec_TreeSize x = some r) : PureCall Try.prog B 32 [.agg [.lit (.int .i64 x.op), .lit (.int .i64 x.clause), .arr (List.map PathBind.c x.binds), .arr (List.map cI x.path), .arr (List.map Branch.c x.branches), .arr (List.map Tree.c x.els)]] (.lit (.int .i64 r)) :=
  (CC.spec_TreeSize B hB1 hB2 ).1 x r hF

theorem C.spec_TreeSize_l2 (B : Nat) (hB1 : 67108864 ≤ B) (hB2 : B ≤ 9223372036854775807) (x : Tree) (n8 : Int) (i9 : Nat) (o : Int) (hF : F.spec_TreeSize_l2 x n8 i9 = some o) : ∀ (c : Code), navO [1, 1, 1, 0, 1, 0, 0] (bodyOf Try.f32) = some c → ∀ (Q : Exit → ASt → Prop), Q (.exit 2) ⟨[(3, .lit (.int .i64 o))], []⟩ → ALoopU Try.prog B 0 38 (hold c .mk) ⟨[(1, .ptr 0 0), (3, .lit (.int .i64 n8)), (5, .lit (.int .i64 (i9 : Int)))], [.cells [.lit (.int .i64 x.op), .lit (.int .i64 x.clause), .arr (List.map PathBind.c x.binds), .arr (List.map cI x.path), .arr (List.map Branch.c x.branches), .arr (List.map Tree.c x.els)]]⟩ (hold Q .mk) :=
  (CC.spec_TreeSize B hB1 hB2 ).2.1 x n8 i9 o hF

theorem C.spec_TreeSize_l1 (B : Nat) (hB1 : 67108864 ≤ B) (hB2 : B ≤ 9223372036854775807) (x : Tree) (n : Int) (i : Nat) (o : Int) (hF : F.spec_TreeSize_l1 x n i = some o) : ∀ (c : Code), navO [1, 1, 0, 1, 0, 0] (bodyOf Try.f32) = some c → ∀ (Q : Exit → ASt → Prop), Q (.exit 0) ⟨[(1, .ptr 0 0), (3, .lit (.int .i64 o))], [.cells [.lit (.int .i64 x.op), .lit (.int .i64 x.clause), .arr (List.map PathBind.c x.binds), .arr (List.map cI x.path), .arr (List.map Branch.c x.branches), .arr (List.map Tree.c x.els)]]⟩ → ALoopU Try.prog B 0 38 (hold c .mk) ⟨[(1, .ptr 0 0), (3, .lit (.int .i64 n)), (4, .lit (.int .i64 (i : Int)))], [.cells [.lit (.int .i64 x.op), .lit (.int .i64 x.clause), .arr (List.map PathBind.c x.binds), .arr (List.map cI x.path), .arr (List.map Branch.c x.branches), .arr (List.map Tree.c x.els)]]⟩ (hold Q .mk) :=
  (CC.spec_TreeSize B hB1 hB2 ).2.2 x n i o hF

set_option maxRecDepth 100000 in
set_option maxHeartbeats 400000 in
theorem CC.impl_subtrees_l1 (B : Nat) (hB1 : 67108864 ≤ B) (hB2 : B ≤ 9223372036854775807) (x : Tree) : (∀ (out : List Tree) (i : Nat) (o : List Tree), F.impl_subtrees_l1 x out i = some o → ∀ (c : Code), navO [1, 1, 0, 1, 0, 0] (bodyOf Try.f64) = some c → ∀ (Q : Exit → ASt → Prop), Q (.exit 0) ⟨[(1, .ptr 0 0), (3, .own 1 (List.length (α := Tree) o))], [.cells [.lit (.int .i64 x.op), .lit (.int .i64 x.clause), .arr (List.map PathBind.c x.binds), .arr (List.map cI x.path), .arr (List.map Branch.c x.branches), .arr (List.map Tree.c x.els)], .elems 6 (List.map Tree.c o)]⟩ → ALoopU Try.prog B 0 23 (hold c .mk) ⟨[(1, .ptr 0 0), (3, .own 1 (List.length (α := Tree) out)), (7, .arr (List.map Branch.c x.branches)), (8, .lit (.int .i64 (x.branches.length : Int))), (9, .lit (.int .i64 (i : Int)))], [.cells [.lit (.int .i64 x.op), .lit (.int .i64 x.clause), .arr (List.map PathBind.c x.binds), .arr (List.map cI x.path), .arr (List.map Branch.c x.branches), .arr (List.map Tree.c x.els)], .elems 6 (List.map Tree.c out)]⟩ (hold Q .mk)) := by
  refine F.impl_subtrees_l1.partial_correctness x
    (fun out i o => ∀ (c : Code), navO [1, 1, 0, 1, 0, 0] (bodyOf Try.f64) = some c → ∀ (Q : Exit → ASt → Prop), Q (.exit 0) ⟨[(1, .ptr 0 0), (3, .own 1 (List.length (α := Tree) o))], [.cells [.lit (.int .i64 x.op), .lit (.int .i64 x.clause), .arr (List.map PathBind.c x.binds), .arr (List.map cI x.path), .arr (List.map Branch.c x.branches), .arr (List.map Tree.c x.els)], .elems 6 (List.map Tree.c o)]⟩ → ALoopU Try.prog B 0 23 (hold c .mk) ⟨[(1, .ptr 0 0), (3, .own 1 (List.length (α := Tree) out)), (7, .arr (List.map Branch.c x.branches)), (8, .lit (.int .i64 (x.branches.length : Int))), (9, .lit (.int .i64 (i : Int)))], [.cells [.lit (.int .i64 x.op), .lit (.int .i64 x.clause), .arr (List.map PathBind.c x.binds), .arr (List.map cI x.path), .arr (List.map Branch.c x.branches), .arr (List.map Tree.c x.els)], .elems 6 (List.map Tree.c out)]⟩ (hold Q .mk))
    ?_
  · intro _f_impl_subtrees_l1 ih_impl_subtrees_l1 out i o hF
    intro c hc Q hq
    obtain rfl : c = _ := navEq hc rfl
    refine ALoopU.know fun hk hs => ?_
    have b7 := hk 7
    simp -dsimp at b7
    have d0 := hs 0 _ rfl
    simp -dsimp [Blk.bnd] at d0
    have d1 := hs 1 _ rfl
    simp -dsimp [Blk.bnd] at d1
    clear hk hs
    refine ALoopU.enter ?_
    simp -dsimp
    repeat (refine chk.go (by first | omega | assumption | (simp_all; done) | (simp_all; omega)) ?_; simp -dsimp)
    refine abr.split (fun h1 => ?_) (fun h1 => ?_)
    · have q2 : (i < x.branches.length) := by first | exact h1 | omega | (simpa using h1) | (simp at h1 ⊢; omega) | simp_all
      rw [if_pos q2] at hF
      have hF := ob hF; obtain ⟨x3, e4, hF⟩ := hF
      have le4 := lt_of_get e4
      have hF := oc hF; obtain ⟨c5, hF⟩ := hF
      have w6 : IntKind.i64.wrap ((i : Int) + 1) = (i : Int) + 1 := wrap_in (by omega) (by omega)
      simp -dsimp [h1, ↓e4, w6]
      repeat (refine chk.go (by first | omega | assumption | (simp_all; done) | (simp_all; omega)) ?_; simp -dsimp [h1, ↓e4, w6])
      refine Again.go ⟨[(1, .ptr 0 0), (3, .own 1 (List.length (α := Tree) (out ++ [x3.tree]))), (7, .arr (List.map Branch.c x.branches)), (8, .lit (.int .i64 (x.branches.length : Int))), (9, .lit (.int .i64 ((i + 1) : Int)))], [.cells [.lit (.int .i64 x.op), .lit (.int .i64 x.clause), .arr (List.map PathBind.c x.binds), .arr (List.map cI x.path), .arr (List.map Branch.c x.branches), .arr (List.map Tree.c x.els)], .elems 6 (List.map Tree.c (out ++ [x3.tree]))]⟩ (Gh.to (by simp) (by simp -dsimp) (by simp -dsimp) (by simp -dsimp)) ?_
      exact (ih_impl_subtrees_l1 (out ++ [x3.tree]) (i + 1) o hF) _ rfl _ hq
    · have q2 : ¬ (i < x.branches.length) := by first | exact h1 | omega | (simpa using h1) | (simp at h1 ⊢; omega) | simp_all
      rw [if_neg q2] at hF
      cases hF
      simp -dsimp [h1]
      repeat (refine chk.go (by first | omega | assumption | (simp_all; done) | (simp_all; omega)) ?_; simp -dsimp [h1])
      refine Leave.go ⟨[(1, .ptr 0 0), (3, .own 1 (List.length (α := Tree) out))], [.cells [.lit (.int .i64 x.op), .lit (.int .i64 x.clause), .arr (List.map PathBind.c x.binds), .arr (List.map cI x.path), .arr (List.map Branch.c x.branches), .arr (List.map Tree.c x.els)], .elems 6 (List.map Tree.c out)]⟩ (Gh.to (by simp) (by simp -dsimp) (by simp -dsimp) (by simp -dsimp)) ?_
      exact hq

theorem C.impl_subtrees_l1 (B : Nat) (hB1 : 67108864 ≤ B) (hB2 : B ≤ 9223372036854775807) (x : Tree) (out : List Tree) (i : Nat) (o : List Tree) (hF : F.impl_subtrees_l1 x out i = some o) : ∀ (c : Code), navO [1, 1, 0, 1, 0, 0] (bodyOf Try.f64) = some c → ∀ (Q : Exit → ASt → Prop), Q (.exit 0) ⟨[(1, .ptr 0 0), (3, .own 1 (List.length (α := Tree) o))], [.cells [.lit (.int .i64 x.op), .lit (.int .i64 x.clause), .arr (List.map PathBind.c x.binds), .arr (List.map cI x.path), .arr (List.map Branch.c x.branches), .arr (List.map Tree.c x.els)], .elems 6 (List.map Tree.c o)]⟩ → ALoopU Try.prog B 0 23 (hold c .mk) ⟨[(1, .ptr 0 0), (3, .own 1 (List.length (α := Tree) out)), (7, .arr (List.map Branch.c x.branches)), (8, .lit (.int .i64 (x.branches.length : Int))), (9, .lit (.int .i64 (i : Int)))], [.cells [.lit (.int .i64 x.op), .lit (.int .i64 x.clause), .arr (List.map PathBind.c x.binds), .arr (List.map cI x.path), .arr (List.map Branch.c x.branches), .arr (List.map Tree.c x.els)], .elems 6 (List.map Tree.c out)]⟩ (hold Q .mk) :=
  (CC.impl_subtrees_l1 B hB1 hB2 x) out i o hF

set_option maxRecDepth 100000 in
set_option maxHeartbeats 400000 in
theorem C.impl_subtrees (B : Nat) (hB1 : 67108864 ≤ B) (hB2 : B ≤ 9223372036854775807) (x : Tree) (r : List Tree) (hF : F.impl_subtrees x = some r) : PureCall Try.prog B 64 [.agg [.lit (.int .i64 x.op), .lit (.int .i64 x.clause), .arr (List.map PathBind.c x.binds), .arr (List.map cI x.path), .arr (List.map Branch.c x.branches), .arr (List.map Tree.c x.els)]] (.arr (List.map Tree.c r)) := by
  unfold F.impl_subtrees at hF
  refine PureCall.enterLe Try.func64 (by kernel_rfl) rfl Try.ntmps64 (by simp) (by simp) ?_
  simp -dsimp
  repeat (refine chk.go (by first | omega | assumption | (simp_all; done) | (simp_all; omega)) ?_; simp -dsimp)
  have hF := ob hF; obtain ⟨o, ho7, hF⟩ := hF
  refine ALoop.goU ⟨[(1, .ptr 0 0), (3, .own 1 (List.length (α := Tree) [])), (7, .arr (List.map Branch.c x.branches)), (8, .lit (.int .i64 (x.branches.length : Int))), (9, .lit (.int .i64 (0 : Int)))], [.cells [.lit (.int .i64 x.op), .lit (.int .i64 x.clause), .arr (List.map PathBind.c x.binds), .arr (List.map cI x.path), .arr (List.map Branch.c x.branches), .arr (List.map Tree.c x.els)], .elems 6 (List.map Tree.c [])]⟩ ((Gh.nil 3 6 (by simp -dsimp)).trans (Gh.to (by simp) (by simp -dsimp) (by simp -dsimp) (by simp -dsimp))) ?_
  refine (C.impl_subtrees_l1 B hB1 hB2 x [] 0 o ho7) _ rfl _ ?_
  have hF := oc hF; obtain ⟨c8, hF⟩ := hF
  cases hF
  simp -dsimp
  repeat (refine chk.go (by first | omega | assumption | (simp_all; done) | (simp_all; omega)) ?_; simp -dsimp)

set_option maxRecDepth 100000 in
set_option maxHeartbeats 400000 in
theorem CC.impl_TreeSize (B : Nat) (hB1 : 67108864 ≤ B) (hB2 : B ≤ 9223372036854775807)  : (∀ (x : Tree) (r : Int), F.impl_TreeSize x = some r → PureCall Try.prog B 34 [.agg [.lit (.int .i64 x.op), .lit (.int .i64 x.clause), .arr (List.map PathBind.c x.binds), .arr (List.map cI x.path), .arr (List.map Branch.c x.branches), .arr (List.map Tree.c x.els)]] (.lit (.int .i64 r))) ∧
    (∀ (v : List Tree) (n : Int) (i : Nat) (o : Int), F.impl_TreeSize_l1 v n i = some o → ∀ (c : Code), navO [1, 1, 0, 1, 0, 0] (bodyOf Try.f34) = some c → ∀ (Q : Exit → ASt → Prop), Q (.exit 0) ⟨[(3, .lit (.int .i64 o))], []⟩ → ALoopU Try.prog B 0 19 (hold c .mk) ⟨[(3, .lit (.int .i64 n)), (7, .arr (List.map Tree.c v)), (8, .lit (.int .i64 (v.length : Int))), (9, .lit (.int .i64 (i : Int)))], []⟩ (hold Q .mk)) := by
  refine F.impl_TreeSize.mutual_partial_correctness 
    (fun x r => PureCall Try.prog B 34 [.agg [.lit (.int .i64 x.op), .lit (.int .i64 x.clause), .arr (List.map PathBind.c x.binds), .arr (List.map cI x.path), .arr (List.map Branch.c x.branches), .arr (List.map Tree.c x.els)]] (.lit (.int .i64 r)))
    (fun v n i o => ∀ (c : Code), navO [1, 1, 0, 1, 0, 0] (bodyOf Try.f34) = some c → ∀ (Q : Exit → ASt → Prop), Q (.exit 0) ⟨[(3, .lit (.int .i64 o))], []⟩ → ALoopU Try.prog B 0 19 (hold c .mk) ⟨[(3, .lit (.int .i64 n)), (7, .arr (List.map Tree.c v)), (8, .lit (.int .i64 (v.length : Int))), (9, .lit (.int .i64 (i : Int)))], []⟩ (hold Q .mk))
    ?_ ?_
  · intro _f_impl_TreeSize_l1 ih_impl_TreeSize_l1 x r hF
    refine PureCall.enterLe Try.func34 (by kernel_rfl) rfl Try.ntmps34 (by simp) (by simp) ?_
    simp -dsimp
    repeat (refine chk.go (by first | omega | assumption | (simp_all; done) | (simp_all; omega)) ?_; simp -dsimp)
    have hF := ob hF; obtain ⟨v, e1, hF⟩ := hF
    refine ((C.impl_subtrees B hB1 hB2 x v e1)).goW (by simp) (by simp) ?_
    simp -dsimp
    repeat (refine chk.go (by first | omega | assumption | (simp_all; done) | (simp_all; omega)) ?_; simp -dsimp)
    have hF := ob hF; obtain ⟨o, ho9, hF⟩ := hF
    refine ALoop.goU ⟨[(3, .lit (.int .i64 (1 : Int))), (7, .arr (List.map Tree.c v)), (8, .lit (.int .i64 (v.length : Int))), (9, .lit (.int .i64 (0 : Int)))], []⟩ (Gh.to (by simp) (by simp -dsimp) (by simp -dsimp) (by simp -dsimp)) ?_
    refine (ih_impl_TreeSize_l1 v (1 : Int) 0 o ho9) _ rfl _ ?_
    cases hF
    simp -dsimp
    repeat (refine chk.go (by first | omega | assumption | (simp_all; done) | (simp_all; omega)) ?_; simp -dsimp)
  · intro _f_impl_TreeSize _f_impl_TreeSize_l1 ih_impl_TreeSize ih_impl_TreeSize_l1 v n i o hF
    intro c hc Q hq
    obtain rfl : c = _ := navEq hc rfl
    refine ALoopU.know fun hk hs => ?_
    have b7 := hk 7
    simp -dsimp at b7
    clear hk hs
    refine ALoopU.enter ?_
    simp -dsimp
    repeat (refine chk.go (by first | omega | assumption | (simp_all; done) | (simp_all; omega)) ?_; simp -dsimp)
    refine abr.split (fun h2 => ?_) (fun h2 => ?_)
    · have q3 : (i < v.length) := by first | exact h2 | omega | (simpa using h2) | (simp at h2 ⊢; omega) | simp_all
      rw [if_pos q3] at hF
      have hF := ob hF; obtain ⟨x4, e5, hF⟩ := hF
      have le5 := lt_of_get e5
      simp -dsimp [h2, ↓e5]
      repeat (refine chk.go (by first | omega | assumption | (simp_all; done) | (simp_all; omega)) ?_; simp -dsimp [h2, ↓e5])
      have hF := ob hF; obtain ⟨v6, e7, hF⟩ := hF
      refine ((ih_impl_TreeSize x4 v6 e7)).goW (by simp) (by simp) ?_
      have w8 : IntKind.i64.wrap ((i : Int) + 1) = (i : Int) + 1 := wrap_in (by omega) (by omega)
      simp -dsimp [h2, ↓e5, w8]
      repeat (refine chk.go (by first | omega | assumption | (simp_all; done) | (simp_all; omega)) ?_; simp -dsimp [h2, ↓e5, w8])
      refine Again.go ⟨[(3, .lit (.int .i64 (IntKind.i64.wrap (n + v6)))), (7, .arr (List.map Tree.c v)), (8, .lit (.int .i64 (v.length : Int))), (9, .lit (.int .i64 ((i + 1) : Int)))], []⟩ (Gh.to (by simp) (by simp -dsimp) (by simp -dsimp) (by simp -dsimp)) ?_
      exact (ih_impl_TreeSize_l1 v (IntKind.i64.wrap (n + v6)) (i + 1) o hF) _ rfl _ hq
    · have q3 : ¬ (i < v.length) := by first | exact h2 | omega | (simpa using h2) | (simp at h2 ⊢; omega) | simp_all
      rw [if_neg q3] at hF
      cases hF
      simp -dsimp [h2]
      repeat (refine chk.go (by first | omega | assumption | (simp_all; done) | (simp_all; omega)) ?_; simp -dsimp [h2])
      refine Leave.go ⟨[(3, .lit (.int .i64 n))], []⟩ (Gh.to (by simp) (by simp -dsimp) (by simp -dsimp) (by simp -dsimp)) ?_
      exact hq

theorem C.impl_TreeSize (B : Nat) (hB1 : 67108864 ≤ B) (hB2 : B ≤ 9223372036854775807) (x : Tree) (r : Int) (hF : F.impl_TreeSize x = some r) : PureCall Try.prog B 34 [.agg [.lit (.int .i64 x.op), .lit (.int .i64 x.clause), .arr (List.map PathBind.c x.binds), .arr (List.map cI x.path), .arr (List.map Branch.c x.branches), .arr (List.map Tree.c x.els)]] (.lit (.int .i64 r)) :=
  (CC.impl_TreeSize B hB1 hB2 ).1 x r hF

theorem C.impl_TreeSize_l1 (B : Nat) (hB1 : 67108864 ≤ B) (hB2 : B ≤ 9223372036854775807) (v : List Tree) (n : Int) (i : Nat) (o : Int) (hF : F.impl_TreeSize_l1 v n i = some o) : ∀ (c : Code), navO [1, 1, 0, 1, 0, 0] (bodyOf Try.f34) = some c → ∀ (Q : Exit → ASt → Prop), Q (.exit 0) ⟨[(3, .lit (.int .i64 o))], []⟩ → ALoopU Try.prog B 0 19 (hold c .mk) ⟨[(3, .lit (.int .i64 n)), (7, .arr (List.map Tree.c v)), (8, .lit (.int .i64 (v.length : Int))), (9, .lit (.int .i64 (i : Int)))], []⟩ (hold Q .mk) :=
  (CC.impl_TreeSize B hB1 hB2 ).2 v n i o hF

set_option maxRecDepth 100000 in
set_option maxHeartbeats 400000 in
theorem CC.laws_eqIntS_l1 (B : Nat) (hB1 : 67108864 ≤ B) (hB2 : B ≤ 9223372036854775807) (a : List Int) (b : List Int) : (∀ (i : Nat) (o : Lo Bool Unit), F.laws_eqIntS_l1 a b i = some o → ∀ (c : Code), navO [1, 1, 0, 1, 0, 0] (bodyOf Try.f15) = some c → ∀ (Q : Exit → ASt → Prop), o.post (fun r => ∀ st, Post Try.prog Try.f15 (fun r' _ => r'.le (.lit (.bool r))) .ret st → Q .ret st) (fun s => Q (.exit 0) ⟨[], []⟩) → ALoopU Try.prog B 0 26 (hold c .mk) ⟨[(0, .arr (List.map cI a)), (1, .arr (List.map cI b)), (5, .lit (.int .i64 (i : Int)))], []⟩ (hold Q .mk)) := by
  refine F.laws_eqIntS_l1.partial_correctness a b
    (fun i o => ∀ (c : Code), navO [1, 1, 0, 1, 0, 0] (bodyOf Try.f15) = some c → ∀ (Q : Exit → ASt → Prop), o.post (fun r => ∀ st, Post Try.prog Try.f15 (fun r' _ => r'.le (.lit (.bool r))) .ret st → Q .ret st) (fun s => Q (.exit 0) ⟨[], []⟩) → ALoopU Try.prog B 0 26 (hold c .mk) ⟨[(0, .arr (List.map cI a)), (1, .arr (List.map cI b)), (5, .lit (.int .i64 (i : Int)))], []⟩ (hold Q .mk))
    ?_
  · intro _f_laws_eqIntS_l1 ih_laws_eqIntS_l1 i o hF
    intro c hc Q hq
    obtain rfl : c = _ := navEq hc rfl
    refine ALoopU.know fun hk hs => ?_
    have b0 := hk 0
    simp -dsimp at b0
    have b1 := hk 1
    simp -dsimp at b1
    clear hk hs
    refine ALoopU.enter ?_
    simp -dsimp
    repeat (refine chk.go (by first | omega | assumption | (simp_all; done) | (simp_all; omega)) ?_; simp -dsimp)
    refine abr.split (fun h3 => ?_) (fun h3 => ?_)
    · have q4 : (i < a.length) := by first | exact h3 | omega | (simpa using h3) | (simp at h3 ⊢; omega) | simp_all
      rw [if_pos q4] at hF
      simp -dsimp [h3]
      repeat (refine chk.go (by first | omega | assumption | (simp_all; done) | (simp_all; omega)) ?_; simp -dsimp [h3])
      refine ADraw.simple follows (by kernel_rfl) (by kernel_rfl) ?_
      have hF := ob hF; obtain ⟨x, e5, hF⟩ := hF
      have le5 := lt_of_get e5
      have hF := ob hF; obtain ⟨x6, e7, hF⟩ := hF
      have le7 := lt_of_get e7
      simp -dsimp [h3, ↓e5, ↓e7]
      repeat (refine chk.go (by first | omega | assumption | (simp_all; done) | (simp_all; omega)) ?_; simp -dsimp [h3, ↓e5, ↓e7])
      refine abr.split (fun h8 => ?_) (fun h8 => ?_)
      · have q9 : ¬ (x = x6) := by first | exact h8 | omega | (simpa using h8) | (simp at h8 ⊢; omega) | simp_all
        rw [if_neg q9] at hF
        cases hF
        simp -dsimp [h3, ↓e5, ↓e7, h8]
        repeat (refine chk.go (by first | omega | assumption | (simp_all; done) | (simp_all; omega)) ?_; simp -dsimp [h3, ↓e5, ↓e7, h8])
        refine Leave.go _ (Gh.refl _) (hq _ ?_)
        simp -dsimp [h3, ↓e5, ↓e7, h8]
        repeat (refine chk.go (by first | omega | assumption | (simp_all; done) | (simp_all; omega)) ?_; simp -dsimp [h3, ↓e5, ↓e7, h8])
      · have q9 : (x = x6) := by first | exact h8 | omega | (simpa using h8) | (simp at h8 ⊢; omega) | simp_all
        rw [if_pos q9] at hF
        have w10 : IntKind.i64.wrap ((i : Int) + 1) = (i : Int) + 1 := wrap_in (by omega) (by omega)
        simp -dsimp [h3, ↓e5, ↓e7, h8, w10]
        repeat (refine chk.go (by first | omega | assumption | (simp_all; done) | (simp_all; omega)) ?_; simp -dsimp [h3, ↓e5, ↓e7, h8, w10])
        refine Again.go ⟨[(0, .arr (List.map cI a)), (1, .arr (List.map cI b)), (5, .lit (.int .i64 ((i + 1) : Int)))], []⟩ (Gh.to (by simp) (by simp -dsimp) (by simp -dsimp) (by simp -dsimp)) ?_
        exact (ih_laws_eqIntS_l1 (i + 1) o hF) _ rfl _ hq
    · have q4 : ¬ (i < a.length) := by first | exact h3 | omega | (simpa using h3) | (simp at h3 ⊢; omega) | simp_all
      rw [if_neg q4] at hF
      cases hF
      simp -dsimp [h3]
      repeat (refine chk.go (by first | omega | assumption | (simp_all; done) | (simp_all; omega)) ?_; simp -dsimp [h3])
      refine Leave.go ⟨[], []⟩ (Gh.to (by simp) (by simp -dsimp) (by simp -dsimp) (by simp -dsimp)) ?_
      exact hq

theorem C.laws_eqIntS_l1 (B : Nat) (hB1 : 67108864 ≤ B) (hB2 : B ≤ 9223372036854775807) (a : List Int) (b : List Int) (i : Nat) (o : Lo Bool Unit) (hF : F.laws_eqIntS_l1 a b i = some o) : ∀ (c : Code), navO [1, 1, 0, 1, 0, 0] (bodyOf Try.f15) = some c → ∀ (Q : Exit → ASt → Prop), o.post (fun r => ∀ st, Post Try.prog Try.f15 (fun r' _ => r'.le (.lit (.bool r))) .ret st → Q .ret st) (fun s => Q (.exit 0) ⟨[], []⟩) → ALoopU Try.prog B 0 26 (hold c .mk) ⟨[(0, .arr (List.map cI a)), (1, .arr (List.map cI b)), (5, .lit (.int .i64 (i : Int)))], []⟩ (hold Q .mk) :=
  (CC.laws_eqIntS_l1 B hB1 hB2 a b) i o hF

set_option maxRecDepth 100000 in
set_option maxHeartbeats 400000 in
theorem C.laws_eqIntS (B : Nat) (hB1 : 67108864 ≤ B) (hB2 : B ≤ 9223372036854775807) (a : List Int) (b : List Int) (r : Bool) (hF : F.laws_eqIntS a b = some r) : PureCall Try.prog B 15 [.arr (List.map cI a), .arr (List.map cI b)] (.lit (.bool r)) := by
  unfold F.laws_eqIntS at hF
  refine PureCall.enterLe Try.func15 (by kernel_rfl) rfl Try.ntmps15 (by simp) (by simp) ?_
  simp -dsimp
  repeat (refine chk.go (by first | omega | assumption | (simp_all; done) | (simp_all; omega)) ?_; simp -dsimp)
  refine abr.split (fun h1 => ?_) (fun h1 => ?_)
  · have q2 : ¬ (a.length = b.length) := by first | exact h1 | omega | (simpa using h1) | (simp at h1 ⊢; omega) | simp_all
    rw [if_neg q2] at hF
    cases hF
    simp -dsimp [h1]
    repeat (refine chk.go (by first | omega | assumption | (simp_all; done) | (simp_all; omega)) ?_; simp -dsimp [h1])
  · have q2 : (a.length = b.length) := by first | exact h1 | omega | (simpa using h1) | (simp at h1 ⊢; omega) | simp_all
    rw [if_pos q2] at hF
    simp -dsimp [h1]
    repeat (refine chk.go (by first | omega | assumption | (simp_all; done) | (simp_all; omega)) ?_; simp -dsimp [h1])
    have hF := ob hF; obtain ⟨o, ho11, hF⟩ := hF
    refine ALoop.goU ⟨[(0, .arr (List.map cI a)), (1, .arr (List.map cI b)), (5, .lit (.int .i64 (0 : Int)))], []⟩ (Gh.to (by simp) (by simp -dsimp) (by simp -dsimp) (by simp -dsimp)) ?_
    refine (C.laws_eqIntS_l1 B hB1 hB2 a b 0 o ho11) _ rfl _ ?_
    rcases o with r0 | s
    · dsimp only at hF
      cases hF
      intro st h
      simpa using h
    · dsimp only at hF
      cases hF
      simp -dsimp
      repeat (refine chk.go (by first | omega | assumption | (simp_all; done) | (simp_all; omega)) ?_; simp -dsimp)

set_option maxRecDepth 100000 in
set_option maxHeartbeats 400000 in
theorem C.laws_eqPathBind (B : Nat) (hB1 : 67108864 ≤ B) (hB2 : B ≤ 9223372036854775807) (a : PathBind) (b : PathBind) (r : Bool) (hF : F.laws_eqPathBind a b = some r) : PureCall Try.prog B 76 [.agg [.lit (.int .i64 a.var), .arr (List.map cI a.path)], .agg [.lit (.int .i64 b.var), .arr (List.map cI b.path)]] (.lit (.bool r)) := by
  unfold F.laws_eqPathBind at hF
  refine PureCall.enterLe Try.func76 (by kernel_rfl) rfl Try.ntmps76 (by simp) (by simp) ?_
  simp -dsimp
  repeat (refine chk.go (by first | omega | assumption | (simp_all; done) | (simp_all; omega)) ?_; simp -dsimp)
  refine abr.split (fun h1 => ?_) (fun h1 => ?_)
  · have q2 : ¬ (a.var = b.var) := by first | exact h1 | omega | (simpa using h1) | (simp at h1 ⊢; omega) | simp_all
    rw [if_neg q2] at hF
    cases hF
    simp -dsimp [h1]
    repeat (refine chk.go (by first | omega | assumption | (simp_all; done) | (simp_all; omega)) ?_; simp -dsimp [h1])
  · have q2 : (a.var = b.var) := by first | exact h1 | omega | (simpa using h1) | (simp at h1 ⊢; omega) | simp_all
    rw [if_pos q2] at hF
    simp -dsimp [h1]
    repeat (refine chk.go (by first | omega | assumption | (simp_all; done) | (simp_all; omega)) ?_; simp -dsimp [h1])
    have hF := ob hF; obtain ⟨v, e3, hF⟩ := hF
    refine ((C.laws_eqIntS B hB1 hB2 a.path b.path v e3)).goW (by simp) (by simp) ?_
    simp -dsimp [h1]
    repeat (refine chk.go (by first | omega | assumption | (simp_all; done) | (simp_all; omega)) ?_; simp -dsimp [h1])
    refine abr.split (fun h4 => ?_) (fun h4 => ?_)
    · have q5 : ¬ (v = true) := by first | exact h4 | omega | (simpa using h4) | (simp at h4 ⊢; omega) | simp_all
      rw [if_neg q5] at hF
      cases hF
      simp -dsimp [h1, h4]
      repeat (refine chk.go (by first | omega | assumption | (simp_all; done) | (simp_all; omega)) ?_; simp -dsimp [h1, h4])
    · have q5 : (v = true) := by first | exact h4 | omega | (simpa using h4) | (simp at h4 ⊢; omega) | simp_all
      rw [if_pos q5] at hF
      cases hF
      simp -dsimp [h1, h4]
      repeat (refine chk.go (by first | omega | assumption | (simp_all; done) | (simp_all; omega)) ?_; simp -dsimp [h1, h4])

set_option maxRecDepth 100000 in
set_option maxHeartbeats 400000 in
theorem CC.laws_eqPathBindS_l1 (B : Nat) (hB1 : 67108864 ≤ B) (hB2 : B ≤ 9223372036854775807) (a : List PathBind) (b : List PathBind) : (∀ (i : Nat) (o : Lo Bool Unit), F.laws_eqPathBindS_l1 a b i = some o → ∀ (c : Code), navO [1, 1, 0, 1, 0, 0] (bodyOf Try.f65) = some c → ∀ (Q : Exit → ASt → Prop), o.post (fun r => ∀ st, Post Try.prog Try.f65 (fun r' _ => r'.le (.lit (.bool r))) .ret st → Q .ret st) (fun s => Q (.exit 0) ⟨[], []⟩) → ALoopU Try.prog B 0 27 (hold c .mk) ⟨[(0, .arr (List.map PathBind.c a)), (1, .arr (List.map PathBind.c b)), (5, .lit (.int .i64 (i : Int)))], []⟩ (hold Q .mk)) := by
  refine F.laws_eqPathBindS_l1.partial_correctness a b
    (fun i o => ∀ (c : Code), navO [1, 1, 0, 1, 0, 0] (bodyOf Try.f65) = some c → ∀ (Q : Exit → ASt → Prop), o.post (fun r => ∀ st, Post Try.prog Try.f65 (fun r' _ => r'.le (.lit (.bool r))) .ret st → Q .ret st) (fun s => Q (.exit 0) ⟨[], []⟩) → ALoopU Try.prog B 0 27 (hold c .mk) ⟨[(0, .arr (List.map PathBind.c a)), (1, .arr (List.map PathBind.c b)), (5, .lit (.int .i64 (i : Int)))], []⟩ (hold Q .mk))
    ?_
  · intro _f_laws_eqPathBindS_l1 ih_laws_eqPathBindS_l1 i o hF
    intro c hc Q hq
    obtain rfl : c = _ := navEq hc rfl
    refine ALoopU.know fun hk hs => ?_
    have b0 := hk 0
    simp -dsimp at b0
    have b1 := hk 1
    simp -dsimp at b1
    clear hk hs
    refine ALoopU.enter ?_
    simp -dsimp
    repeat (refine chk.go (by first | omega | assumption | (simp_all; done) | (simp_all; omega)) ?_; simp -dsimp)
    refine abr.split (fun h3 => ?_) (fun h3 => ?_)
    · have q4 : (i < a.length) := by first | exact h3 | omega | (simpa using h3) | (simp at h3 ⊢; omega) | simp_all
      rw [if_pos q4] at hF
      simp -dsimp [h3]
      repeat (refine chk.go (by first | omega | assumption | (simp_all; done) | (simp_all; omega)) ?_; simp -dsimp [h3])
      refine ADraw.simple follows (by kernel_rfl) (by kernel_rfl) ?_
      have hF := ob hF; obtain ⟨x, e5, hF⟩ := hF
      have le5 := lt_of_get e5
      have hF := ob hF; obtain ⟨x6, e7, hF⟩ := hF
      have le7 := lt_of_get e7
      simp -dsimp [h3, ↓e5, ↓e7]
      repeat (refine chk.go (by first | omega | assumption | (simp_all; done) | (simp_all; omega)) ?_; simp -dsimp [h3, ↓e5, ↓e7])
      have hF := ob hF; obtain ⟨v, e8, hF⟩ := hF
      refine ((C.laws_eqPathBind B hB1 hB2 x x6 v e8)).pgoW (by simp) (by simp) ?_
      simp -dsimp [h3, ↓e5, ↓e7]
      repeat (refine chk.go (by first | omega | assumption | (simp_all; done) | (simp_all; omega)) ?_; simp -dsimp [h3, ↓e5, ↓e7])
      refine abr.split (fun h9 => ?_) (fun h9 => ?_)
      · have q10 : ¬ (v = true) := by first | exact h9 | omega | (simpa using h9) | (simp at h9 ⊢; omega) | simp_all
        rw [if_neg q10] at hF
        cases hF
        simp -dsimp [h3, ↓e5, ↓e7, h9]
        repeat (refine chk.go (by first | omega | assumption | (simp_all; done) | (simp_all; omega)) ?_; simp -dsimp [h3, ↓e5, ↓e7, h9])
        refine Leave.go _ (Gh.refl _) (hq _ ?_)
        simp -dsimp [h3, ↓e5, ↓e7, h9]
        repeat (refine chk.go (by first | omega | assumption | (simp_all; done) | (simp_all; omega)) ?_; simp -dsimp [h3, ↓e5, ↓e7, h9])
      · have q10 : (v = true) := by first | exact h9 | omega | (simpa using h9) | (simp at h9 ⊢; omega) | simp_all
        rw [if_pos q10] at hF
        have w11 : IntKind.i64.wrap ((i : Int) + 1) = (i : Int) + 1 := wrap_in (by omega) (by omega)
        simp -dsimp [h3, ↓e5, ↓e7, h9, w11]
        repeat (refine chk.go (by first | omega | assumption | (simp_all; done) | (simp_all; omega)) ?_; simp -dsimp [h3, ↓e5, ↓e7, h9, w11])
        refine Again.go ⟨[(0, .arr (List.map PathBind.c a)), (1, .arr (List.map PathBind.c b)), (5, .lit (.int .i64 ((i + 1) : Int)))], []⟩ (Gh.to (by simp) (by simp -dsimp) (by simp -dsimp) (by simp -dsimp)) ?_
        exact (ih_laws_eqPathBindS_l1 (i + 1) o hF) _ rfl _ hq
    · have q4 : ¬ (i < a.length) := by first | exact h3 | omega | (simpa using h3) | (simp at h3 ⊢; omega) | simp_all
      rw [if_neg q4] at hF
      cases hF
      simp -dsimp [h3]
      repeat (refine chk.go (by first | omega | assumption | (simp_all; done) | (simp_all; omega)) ?_; simp -dsimp [h3])
      refine Leave.go ⟨[], []⟩ (Gh.to (by simp) (by simp -dsimp) (by simp -dsimp) (by simp -dsimp)) ?_
      exact hq

theorem C.laws_eqPathBindS_l1 (B : Nat) (hB1 : 67108864 ≤ B) (hB2 : B ≤ 9223372036854775807) (a : List PathBind) (b : List PathBind) (i : Nat) (o : Lo Bool Unit) (hF : F.laws_eqPathBindS_l1 a b i = some o) : ∀ (c : Code), navO [1, 1, 0, 1, 0, 0] (bodyOf Try.f65) = some c → ∀ (Q : Exit → ASt → Prop), o.post (fun r => ∀ st, Post Try.prog Try.f65 (fun r' _ => r'.le (.lit (.bool r))) .ret st → Q .ret st) (fun s => Q (.exit 0) ⟨[], []⟩) → ALoopU Try.prog B 0 27 (hold c .mk) ⟨[(0, .arr (List.map PathBind.c a)), (1, .arr (List.map PathBind.c b)), (5, .lit (.int .i64 (i : Int)))], []⟩ (hold Q .mk) :=
  (CC.laws_eqPathBindS_l1 B hB1 hB2 a b) i o hF

set_option maxRecDepth 100000 in
set_option maxHeartbeats 400000 in
theorem C.laws_eqPathBindS (B : Nat) (hB1 : 67108864 ≤ B) (hB2 : B ≤ 9223372036854775807) (a : List PathBind) (b : List PathBind) (r : Bool) (hF : F.laws_eqPathBindS a b = some r) : PureCall Try.prog B 65 [.arr (List.map PathBind.c a), .arr (List.map PathBind.c b)] (.lit (.bool r)) := by
  unfold F.laws_eqPathBindS at hF
  refine PureCall.enterLe Try.func65 (by kernel_rfl) rfl Try.ntmps65 (by simp) (by simp) ?_
  simp -dsimp
  repeat (refine chk.go (by first | omega | assumption | (simp_all; done) | (simp_all; omega)) ?_; simp -dsimp)
  refine abr.split (fun h1 => ?_) (fun h1 => ?_)
  · have q2 : ¬ (a.length = b.length) := by first | exact h1 | omega | (simpa using h1) | (simp at h1 ⊢; omega) | simp_all
    rw [if_neg q2] at hF
    cases hF
    simp -dsimp [h1]
    repeat (refine chk.go (by first | omega | assumption | (simp_all; done) | (simp_all; omega)) ?_; simp -dsimp [h1])
  · have q2 : (a.length = b.length) := by first | exact h1 | omega | (simpa using h1) | (simp at h1 ⊢; omega) | simp_all
    rw [if_pos q2] at hF
    simp -dsimp [h1]
    repeat (refine chk.go (by first | omega | assumption | (simp_all; done) | (simp_all; omega)) ?_; simp -dsimp [h1])
    have hF := ob hF; obtain ⟨o, ho12, hF⟩ := hF
    refine ALoop.goU ⟨[(0, .arr (List.map PathBind.c a)), (1, .arr (List.map PathBind.c b)), (5, .lit (.int .i64 (0 : Int)))], []⟩ (Gh.to (by simp) (by simp -dsimp) (by simp -dsimp) (by simp -dsimp)) ?_
    refine (C.laws_eqPathBindS_l1 B hB1 hB2 a b 0 o ho12) _ rfl _ ?_
    rcases o with r0 | s
    · dsimp only at hF
      cases hF
      intro st h
      simpa using h
    · dsimp only at hF
      cases hF
      simp -dsimp
      repeat (refine chk.go (by first | omega | assumption | (simp_all; done) | (simp_all; omega)) ?_; simp -dsimp)

set_option maxRecDepth 100000 in
set_option maxHeartbeats 400000 in
theorem CC.laws_eqBranch (B : Nat) (hB1 : 67108864 ≤ B) (hB2 : B ≤ 9223372036854775807)  : (∀ (a : Branch) (b : Branch) (r : Bool), F.laws_eqBranch a b = some r → PureCall Try.prog B 77 [.agg [.lit (.int .i64 a.ctor), .lit (.int .i64 a.n), .lit (.int .i64 a.m), .lit (.int .i64 a.tree.op), .lit (.int .i64 a.tree.clause), .arr (List.map PathBind.c a.tree.binds), .arr (List.map cI a.tree.path), .arr (List.map Branch.c a.tree.branches), .arr (List.map Tree.c a.tree.els)], .agg [.lit (.int .i64 b.ctor), .lit (.int .i64 b.n), .lit (.int .i64 b.m), .lit (.int .i64 b.tree.op), .lit (.int .i64 b.tree.clause), .arr (List.map PathBind.c b.tree.binds), .arr (List.map cI b.tree.path), .arr (List.map Branch.c b.tree.branches), .arr (List.map Tree.c b.tree.els)]] (.lit (.bool r))) ∧
    (∀ (a : Tree) (b : Tree) (r : Bool), F.laws_eqTree a b = some r → PureCall Try.prog B 35 [.agg [.lit (.int .i64 a.op), .lit (.int .i64 a.clause), .arr (List.map PathBind.c a.binds), .arr (List.map cI a.path), .arr (List.map Branch.c a.branches), .arr (List.map Tree.c a.els)], .agg [.lit (.int .i64 b.op), .lit (.int .i64 b.clause), .arr (List.map PathBind.c b.binds), .arr (List.map cI b.path), .arr (List.map Branch.c b.branches), .arr (List.map Tree.c b.els)]] (.lit (.bool r))) ∧
    (∀ (a : List Tree) (b : List Tree) (r : Bool), F.laws_eqTreeS a b = some r → PureCall Try.prog B 67 [.arr (List.map Tree.c a), .arr (List.map Tree.c b)] (.lit (.bool r))) ∧
    (∀ (a : List Tree) (b : List Tree) (i : Nat) (o : Lo Bool Unit), F.laws_eqTreeS_l1 a b i = some o → ∀ (c : Code), navO [1, 1, 0, 1, 0, 0] (bodyOf Try.f67) = some c → ∀ (Q : Exit → ASt → Prop), o.post (fun r => ∀ st, Post Try.prog Try.f67 (fun r' _ => r'.le (.lit (.bool r))) .ret st → Q .ret st) (fun s => Q (.exit 0) ⟨[], []⟩) → ALoopU Try.prog B 0 27 (hold c .mk) ⟨[(0, .arr (List.map Tree.c a)), (1, .arr (List.map Tree.c b)), (5, .lit (.int .i64 (i : Int)))], []⟩ (hold Q .mk)) ∧
    (∀ (a : List Branch) (b : List Branch) (r : Bool), F.laws_eqBranchS a b = some r → PureCall Try.prog B 66 [.arr (List.map Branch.c a), .arr (List.map Branch.c b)] (.lit (.bool r))) ∧
    (∀ (a : List Branch) (b : List Branch) (i : Nat) (o : Lo Bool Unit), F.laws_eqBranchS_l1 a b i = some o → ∀ (c : Code), navO [1, 1, 0, 1, 0, 0] (bodyOf Try.f66) = some c → ∀ (Q : Exit → ASt → Prop), o.post (fun r => ∀ st, Post Try.prog Try.f66 (fun r' _ => r'.le (.lit (.bool r))) .ret st → Q .ret st) (fun s => Q (.exit 0) ⟨[], []⟩) → ALoopU Try.prog B 0 27 (hold c .mk) ⟨[(0, .arr (List.map Branch.c a)), (1, .arr (List.map Branch.c b)), (5, .lit (.int .i64 (i : Int)))], []⟩ (hold Q .mk)) := by
  refine F.laws_eqBranch.mutual_partial_correctness 
    (fun a b r => PureCall Try.prog B 77 [.agg [.lit (.int .i64 a.ctor), .lit (.int .i64 a.n), .lit (.int .i64 a.m), .lit (.int .i64 a.tree.op), .lit (.int .i64 a.tree.clause), .arr (List.map PathBind.c a.tree.binds), .arr (List.map cI a.tree.path), .arr (List.map Branch.c a.tree.branches), .arr (List.map Tree.c a.tree.els)], .agg [.lit (.int .i64 b.ctor), .lit (.int .i64 b.n), .lit (.int .i64 b.m), .lit (.int .i64 b.tree.op), .lit (.int .i64 b.tree.clause), .arr (List.map PathBind.c b.tree.binds), .arr (List.map cI b.tree.path), .arr (List.map Branch.c b.tree.branches), .arr (List.map Tree.c b.tree.els)]] (.lit (.bool r)))
    (fun a b r => PureCall Try.prog B 35 [.agg [.lit (.int .i64 a.op), .lit (.int .i64 a.clause), .arr (List.map PathBind.c a.binds), .arr (List.map cI a.path), .arr (List.map Branch.c a.branches), .arr (List.map Tree.c a.els)], .agg [.lit (.int .i64 b.op), .lit (.int .i64 b.clause), .arr (List.map PathBind.c b.binds), .arr (List.map cI b.path), .arr (List.map Branch.c b.branches), .arr (List.map Tree.c b.els)]] (.lit (.bool r)))
    (fun a b r => PureCall Try.prog B 67 [.arr (List.map Tree.c a), .arr (List.map Tree.c b)] (.lit (.bool r)))
    (fun a b i o => ∀ (c : Code), navO [1, 1, 0, 1, 0, 0] (bodyOf Try.f67) = some c → ∀ (Q : Exit → ASt → Prop), o.post (fun r => ∀ st, Post Try.prog Try.f67 (fun r' _ => r'.le (.lit (.bool r))) .ret st → Q .ret st) (fun s => Q (.exit 0) ⟨[], []⟩) → ALoopU Try.prog B 0 27 (hold c .mk) ⟨[(0, .arr (List.map Tree.c a)), (1, .arr (List.map Tree.c b)), (5, .lit (.int .i64 (i : Int)))], []⟩ (hold Q .mk))
    (fun a b r => PureCall Try.prog B 66 [.arr (List.map Branch.c a), .arr (List.map Branch.c b)] (.lit (.bool r)))
    (fun a b i o => ∀ (c : Code), navO [1, 1, 0, 1, 0, 0] (bodyOf Try.f66) = some c → ∀ (Q : Exit → ASt → Prop), o.post (fun r => ∀ st, Post Try.prog Try.f66 (fun r' _ => r'.le (.lit (.bool r))) .ret st → Q .ret st) (fun s => Q (.exit 0) ⟨[], []⟩) → ALoopU Try.prog B 0 27 (hold c .mk) ⟨[(0, .arr (List.map Branch.c a)), (1, .arr (List.map Branch.c b)), (5, .lit (.int .i64 (i : Int)))], []⟩ (hold Q .mk))
    ?_ ?_ ?_ ?_ ?_ ?_
  · intro _f_laws_eqTree ih_laws_eqTree a b r hF
    refine PureCall.enterLe Try.func77 (by kernel_rfl) rfl Try.ntmps77 (by simp) (by simp) ?_
    simp -dsimp
    repeat (refine chk.go (by first | omega | assumption | (simp_all; done) | (simp_all; omega)) ?_; simp -dsimp)
    refine abr.split (fun h1 => ?_) (fun h1 => ?_)
    · have q2 : ¬ (a.ctor = b.ctor) := by first | exact h1 | omega | (simpa using h1) | (simp at h1 ⊢; omega) | simp_all
      rw [if_neg q2] at hF
      cases hF
      simp -dsimp [h1]
      repeat (refine chk.go (by first | omega | assumption | (simp_all; done) | (simp_all; omega)) ?_; simp -dsimp [h1])
    · have q2 : (a.ctor = b.ctor) := by first | exact h1 | omega | (simpa using h1) | (simp at h1 ⊢; omega) | simp_all
      rw [if_pos q2] at hF
      simp -dsimp [h1]
      repeat (refine chk.go (by first | omega | assumption | (simp_all; done) | (simp_all; omega)) ?_; simp -dsimp [h1])
      refine abr.split (fun h3 => ?_) (fun h3 => ?_)
      · have q4 : ¬ (a.n = b.n) := by first | exact h3 | omega | (simpa using h3) | (simp at h3 ⊢; omega) | simp_all
        rw [if_neg q4] at hF
        cases hF
        simp -dsimp [h1, h3]
        repeat (refine chk.go (by first | omega | assumption | (simp_all; done) | (simp_all; omega)) ?_; simp -dsimp [h1, h3])
      · have q4 : (a.n = b.n) := by first | exact h3 | omega | (simpa using h3) | (simp at h3 ⊢; omega) | simp_all
        rw [if_pos q4] at hF
        simp -dsimp [h1, h3]
        repeat (refine chk.go (by first | omega | assumption | (simp_all; done) | (simp_all; omega)) ?_; simp -dsimp [h1, h3])
        refine abr.split (fun h5 => ?_) (fun h5 => ?_)
        · have q6 : ¬ (a.m = b.m) := by first | exact h5 | omega | (simpa using h5) | (simp at h5 ⊢; omega) | simp_all
          rw [if_neg q6] at hF
          cases hF
          simp -dsimp [h1, h3, h5]
          repeat (refine chk.go (by first | omega | assumption | (simp_all; done) | (simp_all; omega)) ?_; simp -dsimp [h1, h3, h5])
        · have q6 : (a.m = b.m) := by first | exact h5 | omega | (simpa using h5) | (simp at h5 ⊢; omega) | simp_all
          rw [if_pos q6] at hF
          simp -dsimp [h1, h3, h5]
          repeat (refine chk.go (by first | omega | assumption | (simp_all; done) | (simp_all; omega)) ?_; simp -dsimp [h1, h3, h5])
          have hF := ob hF; obtain ⟨v, e7, hF⟩ := hF
          refine ((ih_laws_eqTree a.tree b.tree v e7)).goW (by simp) (by simp) ?_
          simp -dsimp [h1, h3, h5]
          repeat (refine chk.go (by first | omega | assumption | (simp_all; done) | (simp_all; omega)) ?_; simp -dsimp [h1, h3, h5])
          refine abr.split (fun h8 => ?_) (fun h8 => ?_)
          · have q9 : ¬ (v = true) := by first | exact h8 | omega | (simpa using h8) | (simp at h8 ⊢; omega) | simp_all
            rw [if_neg q9] at hF
            cases hF
            simp -dsimp [h1, h3, h5, h8]
            repeat (refine chk.go (by first | omega | assumption | (simp_all; done) | (simp_all; omega)) ?_; simp -dsimp [h1, h3, h5, h8])
          · have q9 : (v = true) := by first | exact h8 | omega | (simpa using h8) | (simp at h8 ⊢; omega) | simp_all
            rw [if_pos q9] at hF
            cases hF
            simp -dsimp [h1, h3, h5, h8]
            repeat (refine chk.go (by first | omega | assumption | (simp_all; done) | (simp_all; omega)) ?_; simp -dsimp [h1, h3, h5, h8])
  · intro _f_laws_eqTreeS _f_laws_eqBranchS ih_laws_eqTreeS ih_laws_eqBranchS a b r hF
    refine PureCall.enterLe Try.func35 (by kernel_rfl) rfl Try.ntmps35 (by simp) (by simp) ?_
    simp -dsimp
    repeat (refine chk.go (by first | omega | assumption | (simp_all; done) | (simp_all; omega)) ?_; simp -dsimp)
    refine abr.split (fun h1 => ?_) (fun h1 => ?_)
    · have q2 : ¬ (a.op = b.op) := by first | exact h1 | omega | (simpa using h1) | (simp at h1 ⊢; omega) | simp_all
      rw [if_neg q2] at hF
      cases hF
      simp -dsimp [h1]
      repeat (refine chk.go (by first | omega | assumption | (simp_all; done) | (simp_all; omega)) ?_; simp -dsimp [h1])
    · have q2 : (a.op = b.op) := by first | exact h1 | omega | (simpa using h1) | (simp at h1 ⊢; omega) | simp_all
      rw [if_pos q2] at hF
      simp -dsimp [h1]
      repeat (refine chk.go (by first | omega | assumption | (simp_all; done) | (simp_all; omega)) ?_; simp -dsimp [h1])
      refine abr.split (fun h3 => ?_) (fun h3 => ?_)
      · have q4 : ¬ (a.clause = b.clause) := by first | exact h3 | omega | (simpa using h3) | (simp at h3 ⊢; omega) | simp_all
        rw [if_neg q4] at hF
        cases hF
        simp -dsimp [h1, h3]
        repeat (refine chk.go (by first | omega | assumption | (simp_all; done) | (simp_all; omega)) ?_; simp -dsimp [h1, h3])
      · have q4 : (a.clause = b.clause) := by first | exact h3 | omega | (simpa using h3) | (simp at h3 ⊢; omega) | simp_all
        rw [if_pos q4] at hF
        simp -dsimp [h1, h3]
        repeat (refine chk.go (by first | omega | assumption | (simp_all; done) | (simp_all; omega)) ?_; simp -dsimp [h1, h3])
        have hF := ob hF; obtain ⟨v, e5, hF⟩ := hF
        refine ((C.laws_eqPathBindS B hB1 hB2 a.binds b.binds v e5)).goW (by simp) (by simp) ?_
        simp -dsimp [h1, h3]
        repeat (refine chk.go (by first | omega | assumption | (simp_all; done) | (simp_all; omega)) ?_; simp -dsimp [h1, h3])
        refine abr.split (fun h6 => ?_) (fun h6 => ?_)
        · have q7 : ¬ (v = true) := by first | exact h6 | omega | (simpa using h6) | (simp at h6 ⊢; omega) | simp_all
          rw [if_neg q7] at hF
          cases hF
          simp -dsimp [h1, h3, h6]
          repeat (refine chk.go (by first | omega | assumption | (simp_all; done) | (simp_all; omega)) ?_; simp -dsimp [h1, h3, h6])
        · have q7 : (v = true) := by first | exact h6 | omega | (simpa using h6) | (simp at h6 ⊢; omega) | simp_all
          rw [if_pos q7] at hF
          simp -dsimp [h1, h3, h6]
          repeat (refine chk.go (by first | omega | assumption | (simp_all; done) | (simp_all; omega)) ?_; simp -dsimp [h1, h3, h6])
          have hF := ob hF; obtain ⟨v8, e9, hF⟩ := hF
          refine ((C.laws_eqIntS B hB1 hB2 a.path b.path v8 e9)).goW (by simp) (by simp) ?_
          simp -dsimp [h1, h3, h6]
          repeat (refine chk.go (by first | omega | assumption | (simp_all; done) | (simp_all; omega)) ?_; simp -dsimp [h1, h3, h6])
          refine abr.split (fun h10 => ?_) (fun h10 => ?_)
          · have q11 : ¬ (v8 = true) := by first | exact h10 | omega | (simpa using h10) | (simp at h10 ⊢; omega) | simp_all
            rw [if_neg q11] at hF
            cases hF
            simp -dsimp [h1, h3, h6, h10]
            repeat (refine chk.go (by first | omega | assumption | (simp_all; done) | (simp_all; omega)) ?_; simp -dsimp [h1, h3, h6, h10])
          · have q11 : (v8 = true) := by first | exact h10 | omega | (simpa using h10) | (simp at h10 ⊢; omega) | simp_all
            rw [if_pos q11] at hF
            simp -dsimp [h1, h3, h6, h10]
            repeat (refine chk.go (by first | omega | assumption | (simp_all; done) | (simp_all; omega)) ?_; simp -dsimp [h1, h3, h6, h10])
            have hF := ob hF; obtain ⟨v12, e13, hF⟩ := hF
            refine ((ih_laws_eqBranchS a.branches b.branches v12 e13)).goW (by simp) (by simp) ?_
            simp -dsimp [h1, h3, h6, h10]
            repeat (refine chk.go (by first | omega | assumption | (simp_all; done) | (simp_all; omega)) ?_; simp -dsimp [h1, h3, h6, h10])
            refine abr.split (fun h14 => ?_) (fun h14 => ?_)
            · have q15 : ¬ (v12 = true) := by first | exact h14 | omega | (simpa using h14) | (simp at h14 ⊢; omega) | simp_all
              rw [if_neg q15] at hF
              cases hF
              simp -dsimp [h1, h3, h6, h10, h14]
              repeat (refine chk.go (by first | omega | assumption | (simp_all; done) | (simp_all; omega)) ?_; simp -dsimp [h1, h3, h6, h10, h14])
            · have q15 : (v12 = true) := by first | exact h14 | omega | (simpa using h14) | (simp at h14 ⊢; omega) | simp_all
              rw [if_pos q15] at hF
              simp -dsimp [h1, h3, h6, h10, h14]
              repeat (refine chk.go (by first | omega | assumption | (simp_all; done) | (simp_all; omega)) ?_; simp -dsimp [h1, h3, h6, h10, h14])
              have hF := ob hF; obtain ⟨v16, e17, hF⟩ := hF
              refine ((ih_laws_eqTreeS a.els b.els v16 e17)).goW (by simp) (by simp) ?_
              simp -dsimp [h1, h3, h6, h10, h14]
              repeat (refine chk.go (by first | omega | assumption | (simp_all; done) | (simp_all; omega)) ?_; simp -dsimp [h1, h3, h6, h10, h14])
              refine abr.split (fun h18 => ?_) (fun h18 => ?_)
              · have q19 : ¬ (v16 = true) := by first | exact h18 | omega | (simpa using h18) | (simp at h18 ⊢; omega) | simp_all
                rw [if_neg q19] at hF
                cases hF
                simp -dsimp [h1, h3, h6, h10, h14, h18]
                repeat (refine chk.go (by first | omega | assumption | (simp_all; done) | (simp_all; omega)) ?_; simp -dsimp [h1, h3, h6, h10, h14, h18])
              · have q19 : (v16 = true) := by first | exact h18 | omega | (simpa using h18) | (simp at h18 ⊢; omega) | simp_all
                rw [if_pos q19] at hF
                cases hF
                simp -dsimp [h1, h3, h6, h10, h14, h18]
                repeat (refine chk.go (by first | omega | assumption | (simp_all; done) | (simp_all; omega)) ?_; simp -dsimp [h1, h3, h6, h10, h14, h18])
  · intro _f_laws_eqTreeS_l1 ih_laws_eqTreeS_l1 a b r hF
    refine PureCall.enterLe Try.func67 (by kernel_rfl) rfl Try.ntmps67 (by simp) (by simp) ?_
    simp -dsimp
    repeat (refine chk.go (by first | omega | assumption | (simp_all; done) | (simp_all; omega)) ?_; simp -dsimp)
    refine abr.split (fun h1 => ?_) (fun h1 => ?_)
    · have q2 : ¬ (a.length = b.length) := by first | exact h1 | omega | (simpa using h1) | (simp at h1 ⊢; omega) | simp_all
      rw [if_neg q2] at hF
      cases hF
      simp -dsimp [h1]
      repeat (refine chk.go (by first | omega | assumption | (simp_all; done) | (simp_all; omega)) ?_; simp -dsimp [h1])
    · have q2 : (a.length = b.length) := by first | exact h1 | omega | (simpa using h1) | (simp at h1 ⊢; omega) | simp_all
      rw [if_pos q2] at hF
      simp -dsimp [h1]
      repeat (refine chk.go (by first | omega | assumption | (simp_all; done) | (simp_all; omega)) ?_; simp -dsimp [h1])
      have hF := ob hF; obtain ⟨o, ho12, hF⟩ := hF
      refine ALoop.goU ⟨[(0, .arr (List.map Tree.c a)), (1, .arr (List.map Tree.c b)), (5, .lit (.int .i64 (0 : Int)))], []⟩ (Gh.to (by simp) (by simp -dsimp) (by simp -dsimp) (by simp -dsimp)) ?_
      refine (ih_laws_eqTreeS_l1 a b 0 o ho12) _ rfl _ ?_
      rcases o with r0 | s
      · dsimp only at hF
        cases hF
        intro st h
        simpa using h
      · dsimp only at hF
        cases hF
        simp -dsimp
        repeat (refine chk.go (by first | omega | assumption | (simp_all; done) | (simp_all; omega)) ?_; simp -dsimp)
  · intro _f_laws_eqTree _f_laws_eqTreeS_l1 ih_laws_eqTree ih_laws_eqTreeS_l1 a b i o hF
    intro c hc Q hq
    obtain rfl : c = _ := navEq hc rfl
    refine ALoopU.know fun hk hs => ?_
    have b0 := hk 0
    simp -dsimp at b0
    have b1 := hk 1
    simp -dsimp at b1
    clear hk hs
    refine ALoopU.enter ?_
    simp -dsimp
    repeat (refine chk.go (by first | omega | assumption | (simp_all; done) | (simp_all; omega)) ?_; simp -dsimp)
    refine abr.split (fun h3 => ?_) (fun h3 => ?_)
    · have q4 : (i < a.length) := by first | exact h3 | omega | (simpa using h3) | (simp at h3 ⊢; omega) | simp_all
      rw [if_pos q4] at hF
      simp -dsimp [h3]
      repeat (refine chk.go (by first | omega | assumption | (simp_all; done) | (simp_all; omega)) ?_; simp -dsimp [h3])
      refine ADraw.simple follows (by kernel_rfl) (by kernel_rfl) ?_
      have hF := ob hF; obtain ⟨x, e5, hF⟩ := hF
      have le5 := lt_of_get e5
      have hF := ob hF; obtain ⟨x6, e7, hF⟩ := hF
      have le7 := lt_of_get e7
      simp -dsimp [h3, ↓e5, ↓e7]
      repeat (refine chk.go (by first | omega | assumption | (simp_all; done) | (simp_all; omega)) ?_; simp -dsimp [h3, ↓e5, ↓e7])
      have hF := ob hF; obtain ⟨v, e8, hF⟩ := hF
      refine ((ih_laws_eqTree x x6 v e8)).pgoW (by simp) (by simp) ?_
      simp -dsimp [h3, ↓e5, ↓e7]
      repeat (refine chk.go (by first | omega | assumption | (simp_all; done) | (simp_all; omega)) ?_; simp -dsimp [h3, ↓e5, ↓e7])
      refine abr.split (fun h9 => ?_) (fun h9 => ?_)
      · have q10 : ¬ (v = true) := by first | exact h9 | omega | (simpa using h9) | (simp at h9 ⊢; omega) | simp_all
        rw [if_neg q10] at hF
        cases hF
        simp -dsimp [h3, ↓e5, ↓e7, h9]
        repeat (refine chk.go (by first | omega | assumption | (simp_all; done) | (simp_all; omega)) ?_; simp -dsimp [h3, ↓e5, ↓e7, h9])
        refine Leave.go _ (Gh.refl _) (hq _ ?_)
        simp -dsimp [h3, ↓e5, ↓e7, h9]
        repeat (refine chk.go (by first | omega | assumption | (simp_all; done) | (simp_all; omega)) ?_; simp -dsimp [h3, ↓e5, ↓e7, h9])
      · have q10 : (v = true) := by first | exact h9 | omega | (simpa using h9) | (simp at h9 ⊢; omega) | simp_all
        rw [if_pos q10] at hF
        have w11 : IntKind.i64.wrap ((i : Int) + 1) = (i : Int) + 1 := wrap_in (by omega) (by omega)
        simp -dsimp [h3, ↓e5, ↓e7, h9, w11]
        repeat (refine chk.go (by first | omega | assumption | (simp_all; done) | (simp_all; omega)) ?_; simp -dsimp [h3, ↓e5, ↓e7, h9, w11])
        refine Again.go ⟨[(0, .arr (List.map Tree.c a)), (1, .arr (List.map Tree.c b)), (5, .lit (.int .i64 ((i + 1) : Int)))], []⟩ (Gh.to (by simp) (by simp -dsimp) (by simp -dsimp) (by simp -dsimp)) ?_
        exact (ih_laws_eqTreeS_l1 a b (i + 1) o hF) _ rfl _ hq
    · have q4 : ¬ (i < a.length) := by first | exact h3 | omega | (simpa using h3) | (simp at h3 ⊢; omega) | simp_all
      rw [if_neg q4] at hF
      cases hF
      simp -dsimp [h3]
      repeat (refine chk.go (by first | omega | assumption | (simp_all; done) | (simp_all; omega)) ?_; simp -dsimp [h3])
      refine Leave.go ⟨[], []⟩ (Gh.to (by simp) (by simp -dsimp) (by simp -dsimp) (by simp -dsimp)) ?_
      exact hq
  · intro _f_laws_eqBranchS_l1 ih_laws_eqBranchS_l1 a b r hF
    refine PureCall.enterLe Try.func66 (by kernel_rfl) rfl Try.ntmps66 (by simp) (by simp) ?_
    simp -dsimp
    repeat (refine chk.go (by first | omega | assumption | (simp_all; done) | (simp_all; omega)) ?_; simp -dsimp)
    refine abr.split (fun h1 => ?_) (fun h1 => ?_)
    · have q2 : ¬ (a.length = b.length) := by first | exact h1 | omega | (simpa using h1) | (simp at h1 ⊢; omega) | simp_all
      rw [if_neg q2] at hF
      cases hF
      simp -dsimp [h1]
      repeat (refine chk.go (by first | omega | assumption | (simp_all; done) | (simp_all; omega)) ?_; simp -dsimp [h1])
    · have q2 : (a.length = b.length) := by first | exact h1 | omega | (simpa using h1) | (simp at h1 ⊢; omega) | simp_all
      rw [if_pos q2] at hF
      simp -dsimp [h1]
      repeat (refine chk.go (by first | omega | assumption | (simp_all; done) | (simp_all; omega)) ?_; simp -dsimp [h1])
      have hF := ob hF; obtain ⟨o, ho12, hF⟩ := hF
      refine ALoop.goU ⟨[(0, .arr (List.map Branch.c a)), (1, .arr (List.map Branch.c b)), (5, .lit (.int .i64 (0 : Int)))], []⟩ (Gh.to (by simp) (by simp -dsimp) (by simp -dsimp) (by simp -dsimp)) ?_
      refine (ih_laws_eqBranchS_l1 a b 0 o ho12) _ rfl _ ?_
      rcases o with r0 | s
      · dsimp only at hF
        cases hF
        intro st h
        simpa using h
      · dsimp only at hF
        cases hF
        simp -dsimp
        repeat (refine chk.go (by first | omega | assumption | (simp_all; done) | (simp_all; omega)) ?_; simp -dsimp)
  · intro _f_laws_eqBranch _f_laws_eqBranchS_l1 ih_laws_eqBranch ih_laws_eqBranchS_l1 a b i o hF
    intro c hc Q hq
    obtain rfl : c = _ := navEq hc rfl
    refine ALoopU.know fun hk hs => ?_
    have b0 := hk 0
    simp -dsimp at b0
    have b1 := hk 1
    simp -dsimp at b1
    clear hk hs
    refine ALoopU.enter ?_
    simp -dsimp
    repeat (refine chk.go (by first | omega | assumption | (simp_all; done) | (simp_all; omega)) ?_; simp -dsimp)
    refine abr.split (fun h3 => ?_) (fun h3 => ?_)
    · have q4 : (i < a.length) := by first | exact h3 | omega | (simpa using h3) | (simp at h3 ⊢; omega) | simp_all
      rw [if_pos q4] at hF
      simp -dsimp [h3]
      repeat (refine chk.go (by first | omega | assumption | (simp_all; done) | (simp_all; omega)) ?_; simp -dsimp [h3])
      refine ADraw.simple follows (by kernel_rfl) (by kernel_rfl) ?_
      have hF := ob hF; obtain ⟨x, e5, hF⟩ := hF
      have le5 := lt_of_get e5
      have hF := ob hF; obtain ⟨x6, e7, hF⟩ := hF
      have le7 := lt_of_get e7
      simp -dsimp [h3, ↓e5, ↓e7]
      repeat (refine chk.go (by first | omega | assumption | (simp_all; done) | (simp_all; omega)) ?_; simp -dsimp [h3, ↓e5, ↓e7])
      have hF := ob hF; obtain ⟨v, e8, hF⟩ := hF
      refine ((ih_laws_eqBranch x x6 v e8)).pgoW (by simp) (by simp) ?_
      simp -dsimp [h3, ↓e5, ↓e7]
      repeat (refine chk.go (by first | omega | assumption | (simp_all; done) | (simp_all; omega)) ?_; simp -dsimp [h3, ↓e5, ↓e7])
      refine abr.split (fun h9 => ?_) (fun h9 => ?_)
      · have q10 : ¬ (v = true) := by first | exact h9 | omega | (simpa using h9) | (simp at h9 ⊢; omega) | simp_all
        rw [if_neg q10] at hF
        cases hF
        simp -dsimp [h3, ↓e5, ↓e7, h9]
        repeat (refine chk.go (by first | omega | assumption | (simp_all; done) | (simp_all; omega)) ?_; simp -dsimp [h3, ↓e5, ↓e7, h9])
        refine Leave.go _ (Gh.refl _) (hq _ ?_)
        simp -dsimp [h3, ↓e5, ↓e7, h9]
        repeat (refine chk.go (by first | omega | assumption | (simp_all; done) | (simp_all; omega)) ?_; simp -dsimp [h3, ↓e5, ↓e7, h9])
      · have q10 : (v = true) := by first | exact h9 | omega | (simpa using h9) | (simp at h9 ⊢; omega) | simp_all
        rw [if_pos q10] at hF
        have w11 : IntKind.i64.wrap ((i : Int) + 1) = (i : Int) + 1 := wrap_in (by omega) (by omega)
        simp -dsimp [h3, ↓e5, ↓e7, h9, w11]
        repeat (refine chk.go (by first | omega | assumption | (simp_all; done) | (simp_all; omega)) ?_; simp -dsimp [h3, ↓e5, ↓e7, h9, w11])
        refine Again.go ⟨[(0, .arr (List.map Branch.c a)), (1, .arr (List.map Branch.c b)), (5, .lit (.int .i64 ((i + 1) : Int)))], []⟩ (Gh.to (by simp) (by simp -dsimp) (by simp -dsimp) (by simp -dsimp)) ?_
        exact (ih_laws_eqBranchS_l1 a b (i + 1) o hF) _ rfl _ hq
    · have q4 : ¬ (i < a.length) := by first | exact h3 | omega | (simpa using h3) | (simp at h3 ⊢; omega) | simp_all
      rw [if_neg q4] at hF
      cases hF
      simp -dsimp [h3]
      repeat (refine chk.go (by first | omega | assumption | (simp_all; done) | (simp_all; omega)) ?_; simp -dsimp [h3])
      refine Leave.go ⟨[], []⟩ (Gh.to (by simp) (by simp -dsimp) (by simp -dsimp) (by simp -dsimp)) ?_
      exact hq

theorem C.laws_eqBranch (B : Nat) (hB1 : 67108864 ≤ B) (hB2 : B ≤ 9223372036854775807) (a : Branch) (b : Branch) (r : Bool) (hF : F.laws_eqBranch a b = some r) : PureCall Try.prog B 77 [.agg [.lit (.int .i64 a.ctor), .lit (.int .i64 a.n), .lit (.int .i64 a.m), .lit (.int .i64 a.tree.op), .lit (.int .i64 a.tree.clause), .arr (List.map PathBind.c a.tree.binds), .arr (List.map cI a.tree.path), .arr (List.map Branch.c a.tree.branches), .arr (List.map Tree.c a.tree.els)], .agg [.lit (.int .i64 b.ctor), .lit (.int .i64 b.n), .lit (.int .i64 b.m), .lit (.int .i64 b.tree.op), .lit (.int .i64 b.tree.clause), .arr (List.map PathBind.c b.tree.binds), .arr (List.map cI b.tree.path), .arr (List.map Branch.c b.tree.branches), .arr (List.map Tree.c b.tree.els)]] (.lit (.bool r)) :=
  (CC.laws_eqBranch B hB1 hB2 ).1 a b r hF

theorem C.laws_eqTree (B : Nat) (hB1 : 67108864 ≤ B) (hB2 : B ≤ 9223372036854775807) (a : Tree) (b : Tree) (r : Bool) (hF : F.laws_eqTree a b = some r) : PureCall Try.prog B 35 [.agg [.lit (.int .i64 a.op), .lit (.int .i64 a.clause), .arr (List.map PathBind.c a.binds), .arr (List.map cI a.path), .arr (List.map Branch.c a.branches), .arr (List.map Tree.c a.els)], .agg [.lit (.int .i64 b.op), .lit (.int .i64 b.clause), .arr (List.map PathBind.c b.binds), .arr (List.map cI b.path), .arr (List.map Branch.c b.branches), .arr (List.map Tree.c b.els)]] (.lit (.bool r)) :=
  (CC.laws_eqBranch B hB1 hB2 ).2.1 a b r hF

theorem C.laws_eqTreeS (B : Nat) (hB1 : 67108864 ≤ B) (hB2 : B ≤ 9223372036854775807) (a : List Tree) (b : List Tree) (r : Bool) (hF : F.laws_eqTreeS a b = some r) : PureCall Try.prog B 67 [.arr (List.map Tree.c a), .arr (List.map Tree.c b)] (.lit (.bool r)) :=
  (CC.laws_eqBranch B hB1 hB2 ).2.2.1 a b r hF

theorem C.laws_eqTreeS_l1 (B : Nat) (hB1 : 67108864 ≤ B) (hB2 : B ≤ 9223372036854775807) (a : List Tree) (b : List Tree) (i : Nat) (o : Lo Bool Unit) (hF : F.laws_eqTreeS_l1 a b i = some o) : ∀ (c : Code), navO [1, 1, 0, 1, 0, 0] (bodyOf Try.f67) = some c → ∀ (Q : Exit → ASt → Prop), o.post (fun r => ∀ st, Post Try.prog Try.f67 (fun r' _ => r'.le (.lit (.bool r))) .ret st → Q .ret st) (fun s => Q (.exit 0) ⟨[], []⟩) → ALoopU Try.prog B 0 27 (hold c .mk) ⟨[(0, .arr (List.map Tree.c a)), (1, .arr (List.map Tree.c b)), (5, .lit (.int .i64 (i : Int)))], []⟩ (hold Q .mk) :=
  (CC.laws_eqBranch B hB1 hB2 ).2.2.2.1 a b i o hF

theorem C.laws_eqBranchS (B : Nat) (hB1 : 67108864 ≤ B) (hB2 : B ≤ 9223372036854775807) (a : List Branch) (b : List Branch) (r : Bool) (hF : F.laws_eqBranchS a b = some r) : PureCall Try.prog B 66 [.arr (List.map Branch.c a), .arr (List.map Branch.c b)] (.lit (.bool r)) :=
  (CC.laws_eqBranch B hB1 hB2 ).2.2.2.2.1 a b r hF

theorem C.laws_eqBranchS_l1 (B : Nat) (hB1 : 67108864 ≤ B) (hB2 : B ≤ 9223372036854775807) (a : List Branch) (b : List Branch) (i : Nat) (o : Lo Bool Unit) (hF : F.laws_eqBranchS_l1 a b i = some o) : ∀ (c : Code), navO [1, 1, 0, 1, 0, 0] (bodyOf Try.f66) = some c → ∀ (Q : Exit → ASt → Prop), o.post (fun r => ∀ st, Post Try.prog Try.f66 (fun r' _ => r'.le (.lit (.bool r))) .ret st → Q .ret st) (fun s => Q (.exit 0) ⟨[], []⟩) → ALoopU Try.prog B 0 27 (hold c .mk) ⟨[(0, .arr (List.map Branch.c a)), (1, .arr (List.map Branch.c b)), (5, .lit (.int .i64 (i : Int)))], []⟩ (hold Q .mk) :=
  (CC.laws_eqBranch B hB1 hB2 ).2.2.2.2.2 a b i o hF

set_option maxRecDepth 100000 in
set_option maxHeartbeats 400000 in
theorem C.laws_FnExactTreeSize (B : Nat) (hB1 : 67108864 ≤ B) (hB2 : B ≤ 9223372036854775807) (aX : Tree) (r : Bool) (hF : F.laws_FnExactTreeSize aX = some r) : PureCall Try.prog B 7 [.agg [.lit (.int .i64 aX.op), .lit (.int .i64 aX.clause), .arr (List.map PathBind.c aX.binds), .arr (List.map cI aX.path), .arr (List.map Branch.c aX.branches), .arr (List.map Tree.c aX.els)]] (.lit (.bool r)) := by
  unfold F.laws_FnExactTreeSize at hF
  refine PureCall.enterLe Try.func7 (by kernel_rfl) rfl Try.ntmps7 (by simp) (by simp) ?_
  simp -dsimp
  repeat (refine chk.go (by first | omega | assumption | (simp_all; done) | (simp_all; omega)) ?_; simp -dsimp)
  have hF := ob hF; obtain ⟨v, e1, hF⟩ := hF
  refine ((C.laws_szTree B hB1 hB2 aX (1048576 : Int) v e1)).goW (by simp) (by simp) ?_
  simp -dsimp
  repeat (refine chk.go (by first | omega | assumption | (simp_all; done) | (simp_all; omega)) ?_; simp -dsimp)
  refine abr.split (fun h2 => ?_) (fun h2 => ?_)
  · have q3 : (v < 0) := by first | exact h2 | omega | (simpa using h2) | (simp at h2 ⊢; omega) | simp_all
    rw [if_pos q3] at hF
    cases hF
    simp -dsimp [h2]
    repeat (refine chk.go (by first | omega | assumption | (simp_all; done) | (simp_all; omega)) ?_; simp -dsimp [h2])
  · have q3 : ¬ (v < 0) := by first | exact h2 | omega | (simpa using h2) | (simp at h2 ⊢; omega) | simp_all
    rw [if_neg q3] at hF
    simp -dsimp [h2]
    repeat (refine chk.go (by first | omega | assumption | (simp_all; done) | (simp_all; omega)) ?_; simp -dsimp [h2])
    have hF := ob hF; obtain ⟨v4, e5, hF⟩ := hF
    refine ((C.laws_toTree B hB1 hB2 aX v4 e5)).goW (by simp) (by simp) ?_
    simp -dsimp [h2]
    repeat (refine chk.go (by first | omega | assumption | (simp_all; done) | (simp_all; omega)) ?_; simp -dsimp [h2])
    have hF := ob hF; obtain ⟨v6, e7, hF⟩ := hF
    refine ((C.spec_TreeSize B hB1 hB2 v4 v6 e7)).goW (by simp) (by simp) ?_
    simp -dsimp [h2]
    repeat (refine chk.go (by first | omega | assumption | (simp_all; done) | (simp_all; omega)) ?_; simp -dsimp [h2])
    have hF := ob hF; obtain ⟨v8, e9, hF⟩ := hF
    refine ((C.laws_toTree B hB1 hB2 aX v8 e9)).goW (by simp) (by simp) ?_
    simp -dsimp [h2]
    repeat (refine chk.go (by first | omega | assumption | (simp_all; done) | (simp_all; omega)) ?_; simp -dsimp [h2])
    have hF := ob hF; obtain ⟨v10, e11, hF⟩ := hF
    refine ((C.impl_TreeSize B hB1 hB2 v8 v10 e11)).goW (by simp) (by simp) ?_
    simp -dsimp [h2]
    repeat (refine chk.go (by first | omega | assumption | (simp_all; done) | (simp_all; omega)) ?_; simp -dsimp [h2])
    refine abr.split (fun h12 => ?_) (fun h12 => ?_)
    · have q13 : ¬ (v10 = v6) := by first | exact h12 | omega | (simpa using h12) | (simp at h12 ⊢; omega) | simp_all
      rw [if_neg q13] at hF
      cases hF
      simp -dsimp [h2, h12]
      repeat (refine chk.go (by first | omega | assumption | (simp_all; done) | (simp_all; omega)) ?_; simp -dsimp [h2, h12])
    · have q13 : (v10 = v6) := by first | exact h12 | omega | (simpa using h12) | (simp at h12 ⊢; omega) | simp_all
      rw [if_pos q13] at hF
      simp -dsimp [h2, h12]
      repeat (refine chk.go (by first | omega | assumption | (simp_all; done) | (simp_all; omega)) ?_; simp -dsimp [h2, h12])
      refine ADraw.simple follows (by kernel_rfl) (by kernel_rfl) ?_
      simp -dsimp [h2, h12]
      repeat (refine chk.go (by first | omega | assumption | (simp_all; done) | (simp_all; omega)) ?_; simp -dsimp [h2, h12])
      have hF := ob hF; obtain ⟨v14, e15, hF⟩ := hF
      refine ((C.laws_toTree B hB1 hB2 aX v14 e15)).pgoW (by simp) (by simp) ?_
      simp -dsimp [h2, h12]
      repeat (refine chk.go (by first | omega | assumption | (simp_all; done) | (simp_all; omega)) ?_; simp -dsimp [h2, h12])
      have hF := ob hF; obtain ⟨v16, e17, hF⟩ := hF
      refine ((C.laws_eqTree B hB1 hB2 v8 v14 v16 e17)).pgoW (by simp) (by simp) ?_
      simp -dsimp [h2, h12]
      repeat (refine chk.go (by first | omega | assumption | (simp_all; done) | (simp_all; omega)) ?_; simp -dsimp [h2, h12])
      refine abr.split (fun h18 => ?_) (fun h18 => ?_)
      · have q19 : ¬ (v16 = true) := by first | exact h18 | omega | (simpa using h18) | (simp at h18 ⊢; omega) | simp_all
        rw [if_neg q19] at hF
        cases hF
        simp -dsimp [h2, h12, h18]
        repeat (refine chk.go (by first | omega | assumption | (simp_all; done) | (simp_all; omega)) ?_; simp -dsimp [h2, h12, h18])
      · have q19 : (v16 = true) := by first | exact h18 | omega | (simpa using h18) | (simp at h18 ⊢; omega) | simp_all
        rw [if_pos q19] at hF
        cases hF
        simp -dsimp [h2, h12, h18]
        repeat (refine chk.go (by first | omega | assumption | (simp_all; done) | (simp_all; omega)) ?_; simp -dsimp [h2, h12, h18])
end Go.Proofs.Ytfalapoojmlbpaa
