/- The contracts: the code computes the functions (printed by gen.py). -/
import Derived.Test.YtoacjahdkkdffaaProg
import Derived.Test.YtoacjahdkkdffaaExactTreeTestsF
namespace Go.Proofs.Ytoacjahdkkdffaa
open Go Go.Proofs Go.Vl
set_option linter.unusedSimpArgs false
set_option linter.unusedVariables false

attribute [local irreducible] chk abr ACall ALoop ALoopU ADraw Again Leave PCallA PCall Post awp aops PureCall hold

theorem follows : Try.prog.follows .mixedOrders = true := by kernel_rfl
@[simp] theorem ti2 : tiOf Try.prog 2 = some ⟨.word, 1, [.int .i64 0]⟩ := by kernel_rfl
@[simp] theorem ti3 : tiOf Try.prog 3 = some ⟨.word, 1, [.int .i64 0]⟩ := by kernel_rfl
@[simp] theorem ti4 : tiOf Try.prog 4 = some ⟨.word, 1, [.bool false]⟩ := by kernel_rfl
@[simp] theorem ti5 : tiOf Try.prog 5 = some ⟨.word, 1, [.int .u8 0]⟩ := by kernel_rfl
@[simp] theorem ti22 : tiOf Try.prog 22 = some ⟨.slice 2 32 [.int .i64 0, .slice none 0 0], 1, [.slice none 0 0]⟩ := by kernel_rfl
@[simp] theorem ti23 : tiOf Try.prog 23 = some ⟨.slice 1 8 [.int .i64 0], 1, [.slice none 0 0]⟩ := by kernel_rfl
@[simp] theorem ti24 : tiOf Try.prog 24 = some ⟨.slice 9 136 [.int .i64 0, .int .i64 0, .int .i64 0, .int .i64 0, .int .i64 0, .slice none 0 0, .slice none 0 0, .slice none 0 0, .slice none 0 0], 1, [.slice none 0 0]⟩ := by kernel_rfl
@[simp] theorem ti25 : tiOf Try.prog 25 = some ⟨.slice 6 112 [.int .i64 0, .int .i64 0, .slice none 0 0, .slice none 0 0, .slice none 0 0, .slice none 0 0], 1, [.slice none 0 0]⟩ := by kernel_rfl
@[simp] theorem ti27 : tiOf Try.prog 27 = some ⟨.struct [(0, 1), (1, 1), (2, 1), (3, 1), (4, 1), (5, 1)], 6, [.int .i64 0, .int .i64 0, .slice none 0 0, .slice none 0 0, .slice none 0 0, .slice none 0 0]⟩ := by kernel_rfl
@[simp] theorem ti30 : tiOf Try.prog 30 = some ⟨.slice 2 32 [.int .i64 0, .slice none 0 0], 1, [.slice none 0 0]⟩ := by kernel_rfl
@[simp] theorem ti31 : tiOf Try.prog 31 = some ⟨.slice 9 136 [.int .i64 0, .int .i64 0, .int .i64 0, .int .i64 0, .int .i64 0, .slice none 0 0, .slice none 0 0, .slice none 0 0, .slice none 0 0], 1, [.slice none 0 0]⟩ := by kernel_rfl
@[simp] theorem ti32 : tiOf Try.prog 32 = some ⟨.slice 6 112 [.int .i64 0, .int .i64 0, .slice none 0 0, .slice none 0 0, .slice none 0 0, .slice none 0 0], 1, [.slice none 0 0]⟩ := by kernel_rfl
@[simp] theorem ti34 : tiOf Try.prog 34 = some ⟨.struct [(0, 1), (1, 1), (2, 1), (3, 1), (4, 1), (5, 1)], 6, [.int .i64 0, .int .i64 0, .slice none 0 0, .slice none 0 0, .slice none 0 0, .slice none 0 0]⟩ := by kernel_rfl
@[simp] theorem ti70 : tiOf Try.prog 70 = some ⟨.struct [(0, 1), (1, 1), (2, 1), (3, 6)], 9, [.int .i64 0, .int .i64 0, .int .i64 0, .int .i64 0, .int .i64 0, .slice none 0 0, .slice none 0 0, .slice none 0 0, .slice none 0 0]⟩ := by kernel_rfl
@[simp] theorem ti113 : tiOf Try.prog 113 = some ⟨.struct [(0, 1), (1, 1)], 2, [.int .i64 0, .slice none 0 0]⟩ := by kernel_rfl
@[simp] theorem ti116 : tiOf Try.prog 116 = some ⟨.struct [(0, 1), (1, 1), (2, 1), (3, 6)], 9, [.int .i64 0, .int .i64 0, .int .i64 0, .int .i64 0, .int .i64 0, .slice none 0 0, .slice none 0 0, .slice none 0 0, .slice none 0 0]⟩ := by kernel_rfl
@[simp] theorem ti117 : tiOf Try.prog 117 = some ⟨.struct [(0, 1), (1, 1)], 2, [.int .i64 0, .slice none 0 0]⟩ := by kernel_rfl
attribute [simp] Try.underlying2 Try.underlying3 Try.underlying4 Try.underlying5 Try.underlying22 Try.underlying23 Try.underlying24 Try.underlying25 Try.underlying30 Try.underlying31 Try.underlying32 Try.results3 Try.results9 Try.results10 Try.results11 Try.results12 Try.results13 Try.results23 Try.results33 Try.results34 Try.results35 Try.results36 Try.results37 Try.results38 Try.results39 Try.results40 Try.results41 Try.results42 Try.results43 Try.results44 Try.results68 Try.results69 Try.results70 Try.results71 Try.results72 Try.results73

set_option maxRecDepth 100000 in
set_option maxHeartbeats 400000 in
theorem C.laws_szIntS (B : Nat) (hB1 : 67108864 ≤ B) (hB2 : B ≤ 9223372036854775807) (a : List Int) (left' : Int) (r : Int) (hF : F.laws_szIntS a left' = some r) : PureCall Try.prog B 34 [.arr (List.map cI a), .lit (.int .i64 left')] (.lit (.int .i64 r)) := by
  unfold F.laws_szIntS at hF
  refine PureCall.enterLe Try.func34 (by kernel_rfl) rfl Try.ntmps34 (by simp) (by simp) ?_
  simp -dsimp
  repeat (refine chk.go (by first | omega | assumption | (simp_all; done) | (simp_all; omega)) ?_; simp -dsimp)
  refine abr.split (fun h1 => ?_) (fun h1 => ?_)
  · have q2 : (IntKind.i64.wrap (left' - (a.length : Int)) < 0) := by first | exact h1 | omega | (simpa using h1) | (simp at h1 ⊢; omega) | simp_all
    rw [if_pos q2] at hF
    cases hF
    simp -dsimp [h1]
    repeat (refine chk.go (by first | omega | assumption | (simp_all; done) | (simp_all; omega)) ?_; simp -dsimp [h1])
  · have q2 : ¬ (IntKind.i64.wrap (left' - (a.length : Int)) < 0) := by first | exact h1 | omega | (simpa using h1) | (simp at h1 ⊢; omega) | simp_all
    rw [if_neg q2] at hF
    cases hF
    simp -dsimp [h1, q2]
    repeat (refine chk.go (by first | omega | assumption | (simp_all; done) | (simp_all; omega)) ?_; simp -dsimp [h1, q2])

set_option maxRecDepth 100000 in
set_option maxHeartbeats 400000 in
theorem C.laws_szPathBind (B : Nat) (hB1 : 67108864 ≤ B) (hB2 : B ≤ 9223372036854775807) (a : Vl.PathBind) (left' : Int) (r : Int) (hF : F.laws_szPathBind a left' = some r) : PureCall Try.prog B 68 [.agg [.lit (.int .i64 a.var), .arr (List.map cI a.path)], .lit (.int .i64 left')] (.lit (.int .i64 r)) := by
  unfold F.laws_szPathBind at hF
  refine PureCall.enterLe Try.func68 (by kernel_rfl) rfl Try.ntmps68 (by simp) (by simp) ?_
  simp -dsimp
  repeat (refine chk.go (by first | omega | assumption | (simp_all; done) | (simp_all; omega)) ?_; simp -dsimp)
  have hF := ob hF; obtain ⟨v, e1, hF⟩ := hF
  refine ((C.laws_szIntS B hB1 hB2 a.path left' v e1)).goW (by simp) (by simp) ?_
  simp -dsimp
  repeat (refine chk.go (by first | omega | assumption | (simp_all; done) | (simp_all; omega)) ?_; simp -dsimp)
  refine abr.split (fun h2 => ?_) (fun h2 => ?_)
  · have q3 : (v < 0) := by first | exact h2 | omega | (simpa using h2) | (simp at h2 ⊢; omega) | simp_all
    rw [if_pos q3] at hF
    cases hF
    simp -dsimp [h2]
    repeat (refine chk.go (by first | omega | assumption | (simp_all; done) | (simp_all; omega)) ?_; simp -dsimp [h2])
  · have q3 : ¬ (v < 0) := by first | exact h2 | omega | (simpa using h2) | (simp at h2 ⊢; omega) | simp_all
    rw [if_neg q3] at hF
    cases hF
    simp -dsimp [h2, q3]
    repeat (refine chk.go (by first | omega | assumption | (simp_all; done) | (simp_all; omega)) ?_; simp -dsimp [h2, q3])

set_option maxRecDepth 100000 in
set_option maxHeartbeats 400000 in
theorem CC.laws_szPathBindS_l1 (B : Nat) (hB1 : 67108864 ≤ B) (hB2 : B ≤ 9223372036854775807) (a : List Vl.PathBind) : (∀ (left'3 : Int) (i : Nat) (o : Lo Int Int), F.laws_szPathBindS_l1 a left'3 i = some o → ∀ (c : Code), navO [1, 1, 1, 0, 1, 0, 0] (bodyOf Try.f33) = some c → ∀ (Q : Exit → ASt → Prop), o.post (fun r => ∀ st, Post Try.prog Try.f33 (fun r' _ => r'.le (.lit (.int .i64 r))) .ret st → Q .ret st) (fun s => Q (.exit 0) ⟨[(1, .lit (.int .i64 s))], []⟩) → ALoopU Try.prog B 0 27 (hold c .mk) ⟨[(0, .arr (List.map Vl.PathBind.c a)), (1, .lit (.int .i64 left'3)), (5, .lit (.int .i64 (i : Int)))], []⟩ (hold Q .mk)) := by
  refine F.laws_szPathBindS_l1.partial_correctness a
    (fun left'3 i o => ∀ (c : Code), navO [1, 1, 1, 0, 1, 0, 0] (bodyOf Try.f33) = some c → ∀ (Q : Exit → ASt → Prop), o.post (fun r => ∀ st, Post Try.prog Try.f33 (fun r' _ => r'.le (.lit (.int .i64 r))) .ret st → Q .ret st) (fun s => Q (.exit 0) ⟨[(1, .lit (.int .i64 s))], []⟩) → ALoopU Try.prog B 0 27 (hold c .mk) ⟨[(0, .arr (List.map Vl.PathBind.c a)), (1, .lit (.int .i64 left'3)), (5, .lit (.int .i64 (i : Int)))], []⟩ (hold Q .mk))
    ?_
  · intro _f_laws_szPathBindS_l1 ih_laws_szPathBindS_l1 left'3 i o hF
    intro c hc Q hq
    obtain rfl : c = _ := navEq hc rfl
    refine ALoopU.know fun hk hs => ?_
    have b0 := hk 0
    simp -dsimp at b0
    clear hk hs
    refine ALoopU.enter ?_
    simp -dsimp
    repeat (refine chk.go (by first | omega | assumption | (simp_all; done) | (simp_all; omega)) ?_; simp -dsimp)
    refine abr.split (fun h4 => ?_) (fun h4 => ?_)
    · have q5 : (i < a.length) := by first | exact h4 | omega | (simpa using h4) | (simp at h4 ⊢; omega) | simp_all
      have z6 : ((i : Int) < (a.length : Int)) := by first | omega | simp_all
      rw [if_pos q5] at hF
      have hF := ob hF; obtain ⟨x, e7, hF⟩ := hF
      have le7 := lt_of_get e7
      simp -dsimp [h4, z6, ↓e7]
      repeat (refine chk.go (by first | omega | assumption | (simp_all; done) | (simp_all; omega)) ?_; simp -dsimp [h4, z6, ↓e7])
      have hF := ob hF; obtain ⟨v, e8, hF⟩ := hF
      refine ((C.laws_szPathBind B hB1 hB2 x left'3 v e8)).goW (by simp) (by simp) ?_
      simp -dsimp [h4, z6, ↓e7]
      repeat (refine chk.go (by first | omega | assumption | (simp_all; done) | (simp_all; omega)) ?_; simp -dsimp [h4, z6, ↓e7])
      refine abr.split (fun h9 => ?_) (fun h9 => ?_)
      · have q10 : (v < 0) := by first | exact h9 | omega | (simpa using h9) | (simp at h9 ⊢; omega) | simp_all
        rw [if_pos q10] at hF
        cases hF
        simp -dsimp [h4, z6, ↓e7, h9]
        repeat (refine chk.go (by first | omega | assumption | (simp_all; done) | (simp_all; omega)) ?_; simp -dsimp [h4, z6, ↓e7, h9])
        refine Leave.go _ (Gh.refl _) (hq _ ?_)
        simp -dsimp [h4, z6, ↓e7, h9]
        repeat (refine chk.go (by first | omega | assumption | (simp_all; done) | (simp_all; omega)) ?_; simp -dsimp [h4, z6, ↓e7, h9])
      · have q10 : ¬ (v < 0) := by first | exact h9 | omega | (simpa using h9) | (simp at h9 ⊢; omega) | simp_all
        rw [if_neg q10] at hF
        have w11 : IntKind.i64.wrap ((i : Int) + 1) = (i : Int) + 1 := wrap_in (by omega) (by omega)
        simp -dsimp [h4, z6, ↓e7, h9, q10, w11]
        repeat (refine chk.go (by first | omega | assumption | (simp_all; done) | (simp_all; omega)) ?_; simp -dsimp [h4, z6, ↓e7, h9, q10, w11])
        refine Again.go ⟨[(0, .arr (List.map Vl.PathBind.c a)), (1, .lit (.int .i64 v)), (5, .lit (.int .i64 ((i + 1) : Int)))], []⟩ (Gh.to (by simp) (by simp -dsimp) (by simp -dsimp) (by simp -dsimp)) ?_
        exact (ih_laws_szPathBindS_l1 v (i + 1) o hF) _ rfl _ hq
    · have q5 : ¬ (i < a.length) := by first | exact h4 | omega | (simpa using h4) | (simp at h4 ⊢; omega) | simp_all
      have z6 : ¬ ((i : Int) < (a.length : Int)) := by first | omega | simp_all
      rw [if_neg q5] at hF
      cases hF
      simp -dsimp [h4, q5, z6]
      repeat (refine chk.go (by first | omega | assumption | (simp_all; done) | (simp_all; omega)) ?_; simp -dsimp [h4, q5, z6])
      refine Leave.go ⟨[(1, .lit (.int .i64 left'3))], []⟩ (Gh.to (by simp) (by simp -dsimp) (by simp -dsimp) (by simp -dsimp)) ?_
      exact hq

theorem C.laws_szPathBindS_l1 (B : Nat) (hB1 : 67108864 ≤ B) (hB2 : B ≤ 9223372036854775807) (a : List Vl.PathBind) (left'3 : Int) (i : Nat) (o : Lo Int Int) (hF : F.laws_szPathBindS_l1 a left'3 i = some o) : ∀ (c : Code), navO [1, 1, 1, 0, 1, 0, 0] (bodyOf Try.f33) = some c → ∀ (Q : Exit → ASt → Prop), o.post (fun r => ∀ st, Post Try.prog Try.f33 (fun r' _ => r'.le (.lit (.int .i64 r))) .ret st → Q .ret st) (fun s => Q (.exit 0) ⟨[(1, .lit (.int .i64 s))], []⟩) → ALoopU Try.prog B 0 27 (hold c .mk) ⟨[(0, .arr (List.map Vl.PathBind.c a)), (1, .lit (.int .i64 left'3)), (5, .lit (.int .i64 (i : Int)))], []⟩ (hold Q .mk) :=
  (CC.laws_szPathBindS_l1 B hB1 hB2 a) left'3 i o hF

set_option maxRecDepth 100000 in
set_option maxHeartbeats 400000 in
theorem C.laws_szPathBindS (B : Nat) (hB1 : 67108864 ≤ B) (hB2 : B ≤ 9223372036854775807) (a : List Vl.PathBind) (left' : Int) (r : Int) (hF : F.laws_szPathBindS a left' = some r) : PureCall Try.prog B 33 [.arr (List.map Vl.PathBind.c a), .lit (.int .i64 left')] (.lit (.int .i64 r)) := by
  unfold F.laws_szPathBindS at hF
  refine PureCall.enterLe Try.func33 (by kernel_rfl) rfl Try.ntmps33 (by simp) (by simp) ?_
  simp -dsimp
  repeat (refine chk.go (by first | omega | assumption | (simp_all; done) | (simp_all; omega)) ?_; simp -dsimp)
  refine abr.split (fun h1 => ?_) (fun h1 => ?_)
  · have q2 : (IntKind.i64.wrap (left' - (a.length : Int)) < 0) := by first | exact h1 | omega | (simpa using h1) | (simp at h1 ⊢; omega) | simp_all
    rw [if_pos q2] at hF
    cases hF
    simp -dsimp [h1]
    repeat (refine chk.go (by first | omega | assumption | (simp_all; done) | (simp_all; omega)) ?_; simp -dsimp [h1])
  · have q2 : ¬ (IntKind.i64.wrap (left' - (a.length : Int)) < 0) := by first | exact h1 | omega | (simpa using h1) | (simp at h1 ⊢; omega) | simp_all
    rw [if_neg q2] at hF
    simp -dsimp [h1, q2]
    repeat (refine chk.go (by first | omega | assumption | (simp_all; done) | (simp_all; omega)) ?_; simp -dsimp [h1, q2])
    have hF := ob hF; obtain ⟨o, ho12, hF⟩ := hF
    refine ALoop.goU ⟨[(0, .arr (List.map Vl.PathBind.c a)), (1, .lit (.int .i64 (IntKind.i64.wrap (left' - (a.length : Int))))), (5, .lit (.int .i64 (0 : Int)))], []⟩ (Gh.to (by simp) (by simp -dsimp) (by simp -dsimp) (by simp -dsimp)) ?_
    refine (C.laws_szPathBindS_l1 B hB1 hB2 a (IntKind.i64.wrap (left' - (a.length : Int))) 0 o ho12) _ rfl _ ?_
    rcases o with r0 | s
    · dsimp only at hF
      cases hF
      intro st h
      simpa using h
    · dsimp only at hF
      cases hF
      simp -dsimp
      repeat (refine chk.go (by first | omega | assumption | (simp_all; done) | (simp_all; omega)) ?_; simp -dsimp)

set_option maxRecDepth 100000 in
set_option maxHeartbeats 400000 in
theorem CC.laws_szBranch (B : Nat) (hB1 : 67108864 ≤ B) (hB2 : B ≤ 9223372036854775807)  : (∀ (a : Vl.Branch) (left' : Int) (r : Int), F.laws_szBranch a left' = some r → PureCall Try.prog B 69 [.agg [.lit (.int .i64 a.ctor), .lit (.int .i64 a.n), .lit (.int .i64 a.m), .lit (.int .i64 a.tree.op), .lit (.int .i64 a.tree.clause), .arr (List.map Vl.PathBind.c a.tree.binds), .arr (List.map cI a.tree.path), .arr (List.map Vl.Branch.c a.tree.branches), .arr (List.map Vl.Tree.c a.tree.els)], .lit (.int .i64 left')] (.lit (.int .i64 r))) ∧
    (∀ (a : Vl.Tree) (left' : Int) (r : Int), F.laws_szTree a left' = some r → PureCall Try.prog B 9 [.agg [.lit (.int .i64 a.op), .lit (.int .i64 a.clause), .arr (List.map Vl.PathBind.c a.binds), .arr (List.map cI a.path), .arr (List.map Vl.Branch.c a.branches), .arr (List.map Vl.Tree.c a.els)], .lit (.int .i64 left')] (.lit (.int .i64 r))) ∧
    (∀ (a : List Vl.Tree) (left' : Int) (r : Int), F.laws_szTreeS a left' = some r → PureCall Try.prog B 36 [.arr (List.map Vl.Tree.c a), .lit (.int .i64 left')] (.lit (.int .i64 r))) ∧
    (∀ (a : List Vl.Tree) (left'3 : Int) (i : Nat) (o : Lo Int Int), F.laws_szTreeS_l1 a left'3 i = some o → ∀ (c : Code), navO [1, 1, 1, 0, 1, 0, 0] (bodyOf Try.f36) = some c → ∀ (Q : Exit → ASt → Prop), o.post (fun r => ∀ st, Post Try.prog Try.f36 (fun r' _ => r'.le (.lit (.int .i64 r))) .ret st → Q .ret st) (fun s => Q (.exit 0) ⟨[(1, .lit (.int .i64 s))], []⟩) → ALoopU Try.prog B 0 27 (hold c .mk) ⟨[(0, .arr (List.map Vl.Tree.c a)), (1, .lit (.int .i64 left'3)), (5, .lit (.int .i64 (i : Int)))], []⟩ (hold Q .mk)) ∧
    (∀ (a : List Vl.Branch) (left' : Int) (r : Int), F.laws_szBranchS a left' = some r → PureCall Try.prog B 35 [.arr (List.map Vl.Branch.c a), .lit (.int .i64 left')] (.lit (.int .i64 r))) ∧
    (∀ (a : List Vl.Branch) (left'3 : Int) (i : Nat) (o : Lo Int Int), F.laws_szBranchS_l1 a left'3 i = some o → ∀ (c : Code), navO [1, 1, 1, 0, 1, 0, 0] (bodyOf Try.f35) = some c → ∀ (Q : Exit → ASt → Prop), o.post (fun r => ∀ st, Post Try.prog Try.f35 (fun r' _ => r'.le (.lit (.int .i64 r))) .ret st → Q .ret st) (fun s => Q (.exit 0) ⟨[(1, .lit (.int .i64 s))], []⟩) → ALoopU Try.prog B 0 27 (hold c .mk) ⟨[(0, .arr (List.map Vl.Branch.c a)), (1, .lit (.int .i64 left'3)), (5, .lit (.int .i64 (i : Int)))], []⟩ (hold Q .mk)) := by
  refine F.laws_szBranch.mutual_partial_correctness 
    (fun a left' r => PureCall Try.prog B 69 [.agg [.lit (.int .i64 a.ctor), .lit (.int .i64 a.n), .lit (.int .i64 a.m), .lit (.int .i64 a.tree.op), .lit (.int .i64 a.tree.clause), .arr (List.map Vl.PathBind.c a.tree.binds), .arr (List.map cI a.tree.path), .arr (List.map Vl.Branch.c a.tree.branches), .arr (List.map Vl.Tree.c a.tree.els)], .lit (.int .i64 left')] (.lit (.int .i64 r)))
    (fun a left' r => PureCall Try.prog B 9 [.agg [.lit (.int .i64 a.op), .lit (.int .i64 a.clause), .arr (List.map Vl.PathBind.c a.binds), .arr (List.map cI a.path), .arr (List.map Vl.Branch.c a.branches), .arr (List.map Vl.Tree.c a.els)], .lit (.int .i64 left')] (.lit (.int .i64 r)))
    (fun a left' r => PureCall Try.prog B 36 [.arr (List.map Vl.Tree.c a), .lit (.int .i64 left')] (.lit (.int .i64 r)))
    (fun a left'3 i o => ∀ (c : Code), navO [1, 1, 1, 0, 1, 0, 0] (bodyOf Try.f36) = some c → ∀ (Q : Exit → ASt → Prop), o.post (fun r => ∀ st, Post Try.prog Try.f36 (fun r' _ => r'.le (.lit (.int .i64 r))) .ret st → Q .ret st) (fun s => Q (.exit 0) ⟨[(1, .lit (.int .i64 s))], []⟩) → ALoopU Try.prog B 0 27 (hold c .mk) ⟨[(0, .arr (List.map Vl.Tree.c a)), (1, .lit (.int .i64 left'3)), (5, .lit (.int .i64 (i : Int)))], []⟩ (hold Q .mk))
    (fun a left' r => PureCall Try.prog B 35 [.arr (List.map Vl.Branch.c a), .lit (.int .i64 left')] (.lit (.int .i64 r)))
    (fun a left'3 i o => ∀ (c : Code), navO [1, 1, 1, 0, 1, 0, 0] (bodyOf Try.f35) = some c → ∀ (Q : Exit → ASt → Prop), o.post (fun r => ∀ st, Post Try.prog Try.f35 (fun r' _ => r'.le (.lit (.int .i64 r))) .ret st → Q .ret st) (fun s => Q (.exit 0) ⟨[(1, .lit (.int .i64 s))], []⟩) → ALoopU Try.prog B 0 27 (hold c .mk) ⟨[(0, .arr (List.map Vl.Branch.c a)), (1, .lit (.int .i64 left'3)), (5, .lit (.int .i64 (i : Int)))], []⟩ (hold Q .mk))
    ?_ ?_ ?_ ?_ ?_ ?_
  · intro _f_laws_szTree ih_laws_szTree a left' r hF
    refine PureCall.enterLe Try.func69 (by kernel_rfl) rfl Try.ntmps69 (by simp) (by simp) ?_
    simp -dsimp
    repeat (refine chk.go (by first | omega | assumption | (simp_all; done) | (simp_all; omega)) ?_; simp -dsimp)
    have hF := ob hF; obtain ⟨v, e1, hF⟩ := hF
    refine ((ih_laws_szTree a.tree left' v e1)).goW (by simp) (by simp) ?_
    simp -dsimp
    repeat (refine chk.go (by first | omega | assumption | (simp_all; done) | (simp_all; omega)) ?_; simp -dsimp)
    refine abr.split (fun h2 => ?_) (fun h2 => ?_)
    · have q3 : (v < 0) := by first | exact h2 | omega | (simpa using h2) | (simp at h2 ⊢; omega) | simp_all
      rw [if_pos q3] at hF
      cases hF
      simp -dsimp [h2]
      repeat (refine chk.go (by first | omega | assumption | (simp_all; done) | (simp_all; omega)) ?_; simp -dsimp [h2])
    · have q3 : ¬ (v < 0) := by first | exact h2 | omega | (simpa using h2) | (simp at h2 ⊢; omega) | simp_all
      rw [if_neg q3] at hF
      cases hF
      simp -dsimp [h2, q3]
      repeat (refine chk.go (by first | omega | assumption | (simp_all; done) | (simp_all; omega)) ?_; simp -dsimp [h2, q3])
  · intro _f_laws_szTreeS _f_laws_szBranchS ih_laws_szTreeS ih_laws_szBranchS a left' r hF
    refine PureCall.enterLe Try.func9 (by kernel_rfl) rfl Try.ntmps9 (by simp) (by simp) ?_
    simp -dsimp
    repeat (refine chk.go (by first | omega | assumption | (simp_all; done) | (simp_all; omega)) ?_; simp -dsimp)
    have hF := ob hF; obtain ⟨v, e1, hF⟩ := hF
    refine ((C.laws_szPathBindS B hB1 hB2 a.binds left' v e1)).goW (by simp) (by simp) ?_
    simp -dsimp
    repeat (refine chk.go (by first | omega | assumption | (simp_all; done) | (simp_all; omega)) ?_; simp -dsimp)
    refine abr.split (fun h2 => ?_) (fun h2 => ?_)
    · have q3 : (v < 0) := by first | exact h2 | omega | (simpa using h2) | (simp at h2 ⊢; omega) | simp_all
      rw [if_pos q3] at hF
      cases hF
      simp -dsimp [h2]
      repeat (refine chk.go (by first | omega | assumption | (simp_all; done) | (simp_all; omega)) ?_; simp -dsimp [h2])
    · have q3 : ¬ (v < 0) := by first | exact h2 | omega | (simpa using h2) | (simp at h2 ⊢; omega) | simp_all
      rw [if_neg q3] at hF
      simp -dsimp [h2, q3]
      repeat (refine chk.go (by first | omega | assumption | (simp_all; done) | (simp_all; omega)) ?_; simp -dsimp [h2, q3])
      have hF := ob hF; obtain ⟨v4, e5, hF⟩ := hF
      refine ((C.laws_szIntS B hB1 hB2 a.path v v4 e5)).goW (by simp) (by simp) ?_
      simp -dsimp [h2, q3]
      repeat (refine chk.go (by first | omega | assumption | (simp_all; done) | (simp_all; omega)) ?_; simp -dsimp [h2, q3])
      refine abr.split (fun h6 => ?_) (fun h6 => ?_)
      · have q7 : (v4 < 0) := by first | exact h6 | omega | (simpa using h6) | (simp at h6 ⊢; omega) | simp_all
        rw [if_pos q7] at hF
        cases hF
        simp -dsimp [h2, q3, h6]
        repeat (refine chk.go (by first | omega | assumption | (simp_all; done) | (simp_all; omega)) ?_; simp -dsimp [h2, q3, h6])
      · have q7 : ¬ (v4 < 0) := by first | exact h6 | omega | (simpa using h6) | (simp at h6 ⊢; omega) | simp_all
        rw [if_neg q7] at hF
        simp -dsimp [h2, q3, h6, q7]
        repeat (refine chk.go (by first | omega | assumption | (simp_all; done) | (simp_all; omega)) ?_; simp -dsimp [h2, q3, h6, q7])
        have hF := ob hF; obtain ⟨v8, e9, hF⟩ := hF
        refine ((ih_laws_szBranchS a.branches v4 v8 e9)).goW (by simp) (by simp) ?_
        simp -dsimp [h2, q3, h6, q7]
        repeat (refine chk.go (by first | omega | assumption | (simp_all; done) | (simp_all; omega)) ?_; simp -dsimp [h2, q3, h6, q7])
        refine abr.split (fun h10 => ?_) (fun h10 => ?_)
        · have q11 : (v8 < 0) := by first | exact h10 | omega | (simpa using h10) | (simp at h10 ⊢; omega) | simp_all
          rw [if_pos q11] at hF
          cases hF
          simp -dsimp [h2, q3, h6, q7, h10]
          repeat (refine chk.go (by first | omega | assumption | (simp_all; done) | (simp_all; omega)) ?_; simp -dsimp [h2, q3, h6, q7, h10])
        · have q11 : ¬ (v8 < 0) := by first | exact h10 | omega | (simpa using h10) | (simp at h10 ⊢; omega) | simp_all
          rw [if_neg q11] at hF
          simp -dsimp [h2, q3, h6, q7, h10, q11]
          repeat (refine chk.go (by first | omega | assumption | (simp_all; done) | (simp_all; omega)) ?_; simp -dsimp [h2, q3, h6, q7, h10, q11])
          have hF := ob hF; obtain ⟨v12, e13, hF⟩ := hF
          refine ((ih_laws_szTreeS a.els v8 v12 e13)).goW (by simp) (by simp) ?_
          simp -dsimp [h2, q3, h6, q7, h10, q11]
          repeat (refine chk.go (by first | omega | assumption | (simp_all; done) | (simp_all; omega)) ?_; simp -dsimp [h2, q3, h6, q7, h10, q11])
          refine abr.split (fun h14 => ?_) (fun h14 => ?_)
          · have q15 : (v12 < 0) := by first | exact h14 | omega | (simpa using h14) | (simp at h14 ⊢; omega) | simp_all
            rw [if_pos q15] at hF
            cases hF
            simp -dsimp [h2, q3, h6, q7, h10, q11, h14]
            repeat (refine chk.go (by first | omega | assumption | (simp_all; done) | (simp_all; omega)) ?_; simp -dsimp [h2, q3, h6, q7, h10, q11, h14])
          · have q15 : ¬ (v12 < 0) := by first | exact h14 | omega | (simpa using h14) | (simp at h14 ⊢; omega) | simp_all
            rw [if_neg q15] at hF
            cases hF
            simp -dsimp [h2, q3, h6, q7, h10, q11, h14, q15]
            repeat (refine chk.go (by first | omega | assumption | (simp_all; done) | (simp_all; omega)) ?_; simp -dsimp [h2, q3, h6, q7, h10, q11, h14, q15])
  · intro _f_laws_szTreeS_l1 ih_laws_szTreeS_l1 a left' r hF
    refine PureCall.enterLe Try.func36 (by kernel_rfl) rfl Try.ntmps36 (by simp) (by simp) ?_
    simp -dsimp
    repeat (refine chk.go (by first | omega | assumption | (simp_all; done) | (simp_all; omega)) ?_; simp -dsimp)
    refine abr.split (fun h1 => ?_) (fun h1 => ?_)
    · have q2 : (IntKind.i64.wrap (left' - (a.length : Int)) < 0) := by first | exact h1 | omega | (simpa using h1) | (simp at h1 ⊢; omega) | simp_all
      rw [if_pos q2] at hF
      cases hF
      simp -dsimp [h1]
      repeat (refine chk.go (by first | omega | assumption | (simp_all; done) | (simp_all; omega)) ?_; simp -dsimp [h1])
    · have q2 : ¬ (IntKind.i64.wrap (left' - (a.length : Int)) < 0) := by first | exact h1 | omega | (simpa using h1) | (simp at h1 ⊢; omega) | simp_all
      rw [if_neg q2] at hF
      simp -dsimp [h1, q2]
      repeat (refine chk.go (by first | omega | assumption | (simp_all; done) | (simp_all; omega)) ?_; simp -dsimp [h1, q2])
      have hF := ob hF; obtain ⟨o, ho12, hF⟩ := hF
      refine ALoop.goU ⟨[(0, .arr (List.map Vl.Tree.c a)), (1, .lit (.int .i64 (IntKind.i64.wrap (left' - (a.length : Int))))), (5, .lit (.int .i64 (0 : Int)))], []⟩ (Gh.to (by simp) (by simp -dsimp) (by simp -dsimp) (by simp -dsimp)) ?_
      refine (ih_laws_szTreeS_l1 a (IntKind.i64.wrap (left' - (a.length : Int))) 0 o ho12) _ rfl _ ?_
      rcases o with r0 | s
      · dsimp only at hF
        cases hF
        intro st h
        simpa using h
      · dsimp only at hF
        cases hF
        simp -dsimp
        repeat (refine chk.go (by first | omega | assumption | (simp_all; done) | (simp_all; omega)) ?_; simp -dsimp)
  · intro _f_laws_szTree _f_laws_szTreeS_l1 ih_laws_szTree ih_laws_szTreeS_l1 a left'3 i o hF
    intro c hc Q hq
    obtain rfl : c = _ := navEq hc rfl
    refine ALoopU.know fun hk hs => ?_
    have b0 := hk 0
    simp -dsimp at b0
    clear hk hs
    refine ALoopU.enter ?_
    simp -dsimp
    repeat (refine chk.go (by first | omega | assumption | (simp_all; done) | (simp_all; omega)) ?_; simp -dsimp)
    refine abr.split (fun h4 => ?_) (fun h4 => ?_)
    · have q5 : (i < a.length) := by first | exact h4 | omega | (simpa using h4) | (simp at h4 ⊢; omega) | simp_all
      have z6 : ((i : Int) < (a.length : Int)) := by first | omega | simp_all
      rw [if_pos q5] at hF
      have hF := ob hF; obtain ⟨x, e7, hF⟩ := hF
      have le7 := lt_of_get e7
      simp -dsimp [h4, z6, ↓e7]
      repeat (refine chk.go (by first | omega | assumption | (simp_all; done) | (simp_all; omega)) ?_; simp -dsimp [h4, z6, ↓e7])
      have hF := ob hF; obtain ⟨v, e8, hF⟩ := hF
      refine ((ih_laws_szTree x left'3 v e8)).goW (by simp) (by simp) ?_
      simp -dsimp [h4, z6, ↓e7]
      repeat (refine chk.go (by first | omega | assumption | (simp_all; done) | (simp_all; omega)) ?_; simp -dsimp [h4, z6, ↓e7])
      refine abr.split (fun h9 => ?_) (fun h9 => ?_)
      · have q10 : (v < 0) := by first | exact h9 | omega | (simpa using h9) | (simp at h9 ⊢; omega) | simp_all
        rw [if_pos q10] at hF
        cases hF
        simp -dsimp [h4, z6, ↓e7, h9]
        repeat (refine chk.go (by first | omega | assumption | (simp_all; done) | (simp_all; omega)) ?_; simp -dsimp [h4, z6, ↓e7, h9])
        refine Leave.go _ (Gh.refl _) (hq _ ?_)
        simp -dsimp [h4, z6, ↓e7, h9]
        repeat (refine chk.go (by first | omega | assumption | (simp_all; done) | (simp_all; omega)) ?_; simp -dsimp [h4, z6, ↓e7, h9])
      · have q10 : ¬ (v < 0) := by first | exact h9 | omega | (simpa using h9) | (simp at h9 ⊢; omega) | simp_all
        rw [if_neg q10] at hF
        have w11 : IntKind.i64.wrap ((i : Int) + 1) = (i : Int) + 1 := wrap_in (by omega) (by omega)
        simp -dsimp [h4, z6, ↓e7, h9, q10, w11]
        repeat (refine chk.go (by first | omega | assumption | (simp_all; done) | (simp_all; omega)) ?_; simp -dsimp [h4, z6, ↓e7, h9, q10, w11])
        refine Again.go ⟨[(0, .arr (List.map Vl.Tree.c a)), (1, .lit (.int .i64 v)), (5, .lit (.int .i64 ((i + 1) : Int)))], []⟩ (Gh.to (by simp) (by simp -dsimp) (by simp -dsimp) (by simp -dsimp)) ?_
        exact (ih_laws_szTreeS_l1 a v (i + 1) o hF) _ rfl _ hq
    · have q5 : ¬ (i < a.length) := by first | exact h4 | omega | (simpa using h4) | (simp at h4 ⊢; omega) | simp_all
      have z6 : ¬ ((i : Int) < (a.length : Int)) := by first | omega | simp_all
      rw [if_neg q5] at hF
      cases hF
      simp -dsimp [h4, q5, z6]
      repeat (refine chk.go (by first | omega | assumption | (simp_all; done) | (simp_all; omega)) ?_; simp -dsimp [h4, q5, z6])
      refine Leave.go ⟨[(1, .lit (.int .i64 left'3))], []⟩ (Gh.to (by simp) (by simp -dsimp) (by simp -dsimp) (by simp -dsimp)) ?_
      exact hq
  · intro _f_laws_szBranchS_l1 ih_laws_szBranchS_l1 a left' r hF
    refine PureCall.enterLe Try.func35 (by kernel_rfl) rfl Try.ntmps35 (by simp) (by simp) ?_
    simp -dsimp
    repeat (refine chk.go (by first | omega | assumption | (simp_all; done) | (simp_all; omega)) ?_; simp -dsimp)
    refine abr.split (fun h1 => ?_) (fun h1 => ?_)
    · have q2 : (IntKind.i64.wrap (left' - (a.length : Int)) < 0) := by first | exact h1 | omega | (simpa using h1) | (simp at h1 ⊢; omega) | simp_all
      rw [if_pos q2] at hF
      cases hF
      simp -dsimp [h1]
      repeat (refine chk.go (by first | omega | assumption | (simp_all; done) | (simp_all; omega)) ?_; simp -dsimp [h1])
    · have q2 : ¬ (IntKind.i64.wrap (left' - (a.length : Int)) < 0) := by first | exact h1 | omega | (simpa using h1) | (simp at h1 ⊢; omega) | simp_all
      rw [if_neg q2] at hF
      simp -dsimp [h1, q2]
      repeat (refine chk.go (by first | omega | assumption | (simp_all; done) | (simp_all; omega)) ?_; simp -dsimp [h1, q2])
      have hF := ob hF; obtain ⟨o, ho12, hF⟩ := hF
      refine ALoop.goU ⟨[(0, .arr (List.map Vl.Branch.c a)), (1, .lit (.int .i64 (IntKind.i64.wrap (left' - (a.length : Int))))), (5, .lit (.int .i64 (0 : Int)))], []⟩ (Gh.to (by simp) (by simp -dsimp) (by simp -dsimp) (by simp -dsimp)) ?_
      refine (ih_laws_szBranchS_l1 a (IntKind.i64.wrap (left' - (a.length : Int))) 0 o ho12) _ rfl _ ?_
      rcases o with r0 | s
      · dsimp only at hF
        cases hF
        intro st h
        simpa using h
      · dsimp only at hF
        cases hF
        simp -dsimp
        repeat (refine chk.go (by first | omega | assumption | (simp_all; done) | (simp_all; omega)) ?_; simp -dsimp)
  · intro _f_laws_szBranch _f_laws_szBranchS_l1 ih_laws_szBranch ih_laws_szBranchS_l1 a left'3 i o hF
    intro c hc Q hq
    obtain rfl : c = _ := navEq hc rfl
    refine ALoopU.know fun hk hs => ?_
    have b0 := hk 0
    simp -dsimp at b0
    clear hk hs
    refine ALoopU.enter ?_
    simp -dsimp
    repeat (refine chk.go (by first | omega | assumption | (simp_all; done) | (simp_all; omega)) ?_; simp -dsimp)
    refine abr.split (fun h4 => ?_) (fun h4 => ?_)
    · have q5 : (i < a.length) := by first | exact h4 | omega | (simpa using h4) | (simp at h4 ⊢; omega) | simp_all
      have z6 : ((i : Int) < (a.length : Int)) := by first | omega | simp_all
      rw [if_pos q5] at hF
      have hF := ob hF; obtain ⟨x, e7, hF⟩ := hF
      have le7 := lt_of_get e7
      simp -dsimp [h4, z6, ↓e7]
      repeat (refine chk.go (by first | omega | assumption | (simp_all; done) | (simp_all; omega)) ?_; simp -dsimp [h4, z6, ↓e7])
      have hF := ob hF; obtain ⟨v, e8, hF⟩ := hF
      refine ((ih_laws_szBranch x left'3 v e8)).goW (by simp) (by simp) ?_
      simp -dsimp [h4, z6, ↓e7]
      repeat (refine chk.go (by first | omega | assumption | (simp_all; done) | (simp_all; omega)) ?_; simp -dsimp [h4, z6, ↓e7])
      refine abr.split (fun h9 => ?_) (fun h9 => ?_)
      · have q10 : (v < 0) := by first | exact h9 | omega | (simpa using h9) | (simp at h9 ⊢; omega) | simp_all
        rw [if_pos q10] at hF
        cases hF
        simp -dsimp [h4, z6, ↓e7, h9]
        repeat (refine chk.go (by first | omega | assumption | (simp_all; done) | (simp_all; omega)) ?_; simp -dsimp [h4, z6, ↓e7, h9])
        refine Leave.go _ (Gh.refl _) (hq _ ?_)
        simp -dsimp [h4, z6, ↓e7, h9]
        repeat (refine chk.go (by first | omega | assumption | (simp_all; done) | (simp_all; omega)) ?_; simp -dsimp [h4, z6, ↓e7, h9])
      · have q10 : ¬ (v < 0) := by first | exact h9 | omega | (simpa using h9) | (simp at h9 ⊢; omega) | simp_all
        rw [if_neg q10] at hF
        have w11 : IntKind.i64.wrap ((i : Int) + 1) = (i : Int) + 1 := wrap_in (by omega) (by omega)
        simp -dsimp [h4, z6, ↓e7, h9, q10, w11]
        repeat (refine chk.go (by first | omega | assumption | (simp_all; done) | (simp_all; omega)) ?_; simp -dsimp [h4, z6, ↓e7, h9, q10, w11])
        refine Again.go ⟨[(0, .arr (List.map Vl.Branch.c a)), (1, .lit (.int .i64 v)), (5, .lit (.int .i64 ((i + 1) : Int)))], []⟩ (Gh.to (by simp) (by simp -dsimp) (by simp -dsimp) (by simp -dsimp)) ?_
        exact (ih_laws_szBranchS_l1 a v (i + 1) o hF) _ rfl _ hq
    · have q5 : ¬ (i < a.length) := by first | exact h4 | omega | (simpa using h4) | (simp at h4 ⊢; omega) | simp_all
      have z6 : ¬ ((i : Int) < (a.length : Int)) := by first | omega | simp_all
      rw [if_neg q5] at hF
      cases hF
      simp -dsimp [h4, q5, z6]
      repeat (refine chk.go (by first | omega | assumption | (simp_all; done) | (simp_all; omega)) ?_; simp -dsimp [h4, q5, z6])
      refine Leave.go ⟨[(1, .lit (.int .i64 left'3))], []⟩ (Gh.to (by simp) (by simp -dsimp) (by simp -dsimp) (by simp -dsimp)) ?_
      exact hq

theorem C.laws_szBranch (B : Nat) (hB1 : 67108864 ≤ B) (hB2 : B ≤ 9223372036854775807) (a : Vl.Branch) (left' : Int) (r : Int) (hF : F.laws_szBranch a left' = some r) : PureCall Try.prog B 69 [.agg [.lit (.int .i64 a.ctor), .lit (.int .i64 a.n), .lit (.int .i64 a.m), .lit (.int .i64 a.tree.op), .lit (.int .i64 a.tree.clause), .arr (List.map Vl.PathBind.c a.tree.binds), .arr (List.map cI a.tree.path), .arr (List.map Vl.Branch.c a.tree.branches), .arr (List.map Vl.Tree.c a.tree.els)], .lit (.int .i64 left')] (.lit (.int .i64 r)) :=
  (CC.laws_szBranch B hB1 hB2 ).1 a left' r hF

theorem C.laws_szTree (B : Nat) (hB1 : 67108864 ≤ B) (hB2 : B ≤ 9223372036854775807) (a : Vl.Tree) (left' : Int) (r : Int) (hF : F.laws_szTree a left' = some r) : PureCall Try.prog B 9 [.agg [.lit (.int .i64 a.op), .lit (.int .i64 a.clause), .arr (List.map Vl.PathBind.c a.binds), .arr (List.map cI a.path), .arr (List.map Vl.Branch.c a.branches), .arr (List.map Vl.Tree.c a.els)], .lit (.int .i64 left')] (.lit (.int .i64 r)) :=
  (CC.laws_szBranch B hB1 hB2 ).2.1 a left' r hF

theorem C.laws_szTreeS (B : Nat) (hB1 : 67108864 ≤ B) (hB2 : B ≤ 9223372036854775807) (a : List Vl.Tree) (left' : Int) (r : Int) (hF : F.laws_szTreeS a left' = some r) : PureCall Try.prog B 36 [.arr (List.map Vl.Tree.c a), .lit (.int .i64 left')] (.lit (.int .i64 r)) :=
  (CC.laws_szBranch B hB1 hB2 ).2.2.1 a left' r hF

theorem C.laws_szTreeS_l1 (B : Nat) (hB1 : 67108864 ≤ B) (hB2 : B ≤ 9223372036854775807) (a : List Vl.Tree) (left'3 : Int) (i : Nat) (o : Lo Int Int) (hF : F.laws_szTreeS_l1 a left'3 i = some o) : ∀ (c : Code), navO [1, 1, 1, 0, 1, 0, 0] (bodyOf Try.f36) = some c → ∀ (Q : Exit → ASt → Prop), o.post (fun r => ∀ st, Post Try.prog Try.f36 (fun r' _ => r'.le (.lit (.int .i64 r))) .ret st → Q .ret st) (fun s => Q (.exit 0) ⟨[(1, .lit (.int .i64 s))], []⟩) → ALoopU Try.prog B 0 27 (hold c .mk) ⟨[(0, .arr (List.map Vl.Tree.c a)), (1, .lit (.int .i64 left'3)), (5, .lit (.int .i64 (i : Int)))], []⟩ (hold Q .mk) :=
  (CC.laws_szBranch B hB1 hB2 ).2.2.2.1 a left'3 i o hF

theorem C.laws_szBranchS (B : Nat) (hB1 : 67108864 ≤ B) (hB2 : B ≤ 9223372036854775807) (a : List Vl.Branch) (left' : Int) (r : Int) (hF : F.laws_szBranchS a left' = some r) : PureCall Try.prog B 35 [.arr (List.map Vl.Branch.c a), .lit (.int .i64 left')] (.lit (.int .i64 r)) :=
  (CC.laws_szBranch B hB1 hB2 ).2.2.2.2.1 a left' r hF

theorem C.laws_szBranchS_l1 (B : Nat) (hB1 : 67108864 ≤ B) (hB2 : B ≤ 9223372036854775807) (a : List Vl.Branch) (left'3 : Int) (i : Nat) (o : Lo Int Int) (hF : F.laws_szBranchS_l1 a left'3 i = some o) : ∀ (c : Code), navO [1, 1, 1, 0, 1, 0, 0] (bodyOf Try.f35) = some c → ∀ (Q : Exit → ASt → Prop), o.post (fun r => ∀ st, Post Try.prog Try.f35 (fun r' _ => r'.le (.lit (.int .i64 r))) .ret st → Q .ret st) (fun s => Q (.exit 0) ⟨[(1, .lit (.int .i64 s))], []⟩) → ALoopU Try.prog B 0 27 (hold c .mk) ⟨[(0, .arr (List.map Vl.Branch.c a)), (1, .lit (.int .i64 left'3)), (5, .lit (.int .i64 (i : Int)))], []⟩ (hold Q .mk) :=
  (CC.laws_szBranch B hB1 hB2 ).2.2.2.2.2 a left'3 i o hF

set_option maxRecDepth 100000 in
set_option maxHeartbeats 400000 in
theorem CC.laws_toIntS_l1 (B : Nat) (hB1 : 67108864 ≤ B) (hB2 : B ≤ 9223372036854775807) (a : List Int) : (∀ (out : List Int) (i : Nat) (o : List Int), F.laws_toIntS_l1 a out i = some o → ∀ (c : Code), navO [1, 1, 0, 1, 0, 0] (bodyOf Try.f38) = some c → ∀ (Q : Exit → ASt → Prop), Q (.exit 0) ⟨[(3, .own 0 (List.length (α := Int) o))], [.elems 1 (List.map cI o)]⟩ → ALoopU Try.prog B 0 22 (hold c .mk) ⟨[(0, .arr (List.map cI a)), (3, .own 0 (List.length (α := Int) out)), (4, .lit (.int .i64 (i : Int)))], [.elems 1 (List.map cI out)]⟩ (hold Q .mk)) := by
  refine F.laws_toIntS_l1.partial_correctness a
    (fun out i o => ∀ (c : Code), navO [1, 1, 0, 1, 0, 0] (bodyOf Try.f38) = some c → ∀ (Q : Exit → ASt → Prop), Q (.exit 0) ⟨[(3, .own 0 (List.length (α := Int) o))], [.elems 1 (List.map cI o)]⟩ → ALoopU Try.prog B 0 22 (hold c .mk) ⟨[(0, .arr (List.map cI a)), (3, .own 0 (List.length (α := Int) out)), (4, .lit (.int .i64 (i : Int)))], [.elems 1 (List.map cI out)]⟩ (hold Q .mk))
    ?_
  · intro _f_laws_toIntS_l1 ih_laws_toIntS_l1 out i o hF
    intro c hc Q hq
    obtain rfl : c = _ := navEq hc rfl
    refine ALoopU.know fun hk hs => ?_
    have b0 := hk 0
    simp -dsimp at b0
    have d0 := hs 0 _ rfl
    simp -dsimp [Blk.bnd] at d0
    clear hk hs
    refine ALoopU.enter ?_
    simp -dsimp
    repeat (refine chk.go (by first | omega | assumption | (simp_all; done) | (simp_all; omega)) ?_; simp -dsimp)
    refine abr.split (fun h2 => ?_) (fun h2 => ?_)
    · have q3 : (i < a.length) := by first | exact h2 | omega | (simpa using h2) | (simp at h2 ⊢; omega) | simp_all
      have z4 : ((i : Int) < (a.length : Int)) := by first | omega | simp_all
      rw [if_pos q3] at hF
      have hF := ob hF; obtain ⟨x, e5, hF⟩ := hF
      have le5 := lt_of_get e5
      have hF := ob hF; obtain ⟨x6, e7, hF⟩ := hF
      have le7 := lt_of_get e7
      have w8 : IntKind.i64.wrap ((i : Int) + 1) = (i : Int) + 1 := wrap_in (by omega) (by omega)
      simp -dsimp [h2, z4, ↓e5, ↓e7, w8]
      repeat (refine chk.go (by first | omega | assumption | (simp_all; done) | (simp_all; omega)) ?_; simp -dsimp [h2, z4, ↓e5, ↓e7, w8])
      refine Again.go ⟨[(0, .arr (List.map cI a)), (3, .own 0 (List.length (α := Int) (out.set i x))), (4, .lit (.int .i64 ((i + 1) : Int)))], [.elems 1 (List.map cI (out.set i x))]⟩ (Gh.to (by simp) (by simp -dsimp) (by simp -dsimp) (by simp -dsimp)) ?_
      exact (ih_laws_toIntS_l1 (out.set i x) (i + 1) o hF) _ rfl _ hq
    · have q3 : ¬ (i < a.length) := by first | exact h2 | omega | (simpa using h2) | (simp at h2 ⊢; omega) | simp_all
      have z4 : ¬ ((i : Int) < (a.length : Int)) := by first | omega | simp_all
      rw [if_neg q3] at hF
      cases hF
      simp -dsimp [h2, q3, z4]
      repeat (refine chk.go (by first | omega | assumption | (simp_all; done) | (simp_all; omega)) ?_; simp -dsimp [h2, q3, z4])
      refine Leave.go ⟨[(3, .own 0 (List.length (α := Int) out))], [.elems 1 (List.map cI out)]⟩ (Gh.to (by simp) (by simp -dsimp) (by simp -dsimp) (by simp -dsimp)) ?_
      exact hq

theorem C.laws_toIntS_l1 (B : Nat) (hB1 : 67108864 ≤ B) (hB2 : B ≤ 9223372036854775807) (a : List Int) (out : List Int) (i : Nat) (o : List Int) (hF : F.laws_toIntS_l1 a out i = some o) : ∀ (c : Code), navO [1, 1, 0, 1, 0, 0] (bodyOf Try.f38) = some c → ∀ (Q : Exit → ASt → Prop), Q (.exit 0) ⟨[(3, .own 0 (List.length (α := Int) o))], [.elems 1 (List.map cI o)]⟩ → ALoopU Try.prog B 0 22 (hold c .mk) ⟨[(0, .arr (List.map cI a)), (3, .own 0 (List.length (α := Int) out)), (4, .lit (.int .i64 (i : Int)))], [.elems 1 (List.map cI out)]⟩ (hold Q .mk) :=
  (CC.laws_toIntS_l1 B hB1 hB2 a) out i o hF

set_option maxRecDepth 100000 in
set_option maxHeartbeats 400000 in
theorem C.laws_toIntS (B : Nat) (hB1 : 67108864 ≤ B) (hB2 : B ≤ 9223372036854775807) (a : List Int) (r : List Int) (hF : F.laws_toIntS a = some r) : PureCall Try.prog B 38 [.arr (List.map cI a)] (.arr (List.map cI r)) := by
  unfold F.laws_toIntS at hF
  refine PureCall.enterLe Try.func38 (by kernel_rfl) rfl Try.ntmps38 (by simp) (by simp) ?_
  have hF := oc hF; obtain ⟨c1, hF⟩ := hF
  simp -dsimp
  repeat (refine chk.go (by first | omega | assumption | (simp_all; done) | (simp_all; omega)) ?_; simp -dsimp)
  have hF := ob hF; obtain ⟨o, ho9, hF⟩ := hF
  refine ALoop.goU ⟨[(0, .arr (List.map cI a)), (3, .own 0 (List.length (α := Int) (List.replicate a.length (0 : Int)))), (4, .lit (.int .i64 (0 : Int)))], [.elems 1 (List.map cI (List.replicate a.length (0 : Int)))]⟩ (Gh.to (by simp) (by simp -dsimp) (by simp -dsimp) (by simp -dsimp)) ?_
  refine (C.laws_toIntS_l1 B hB1 hB2 a (List.replicate a.length (0 : Int)) 0 o ho9) _ rfl _ ?_
  cases hF
  simp -dsimp
  repeat (refine chk.go (by first | omega | assumption | (simp_all; done) | (simp_all; omega)) ?_; simp -dsimp)

set_option maxRecDepth 100000 in
set_option maxHeartbeats 400000 in
theorem C.laws_toPathBind (B : Nat) (hB1 : 67108864 ≤ B) (hB2 : B ≤ 9223372036854775807) (a : Vl.PathBind) (r : Vl.PathBind) (hF : F.laws_toPathBind a = some r) : PureCall Try.prog B 70 [.agg [.lit (.int .i64 a.var), .arr (List.map cI a.path)]] (.agg [.lit (.int .i64 r.var), .arr (List.map cI r.path)]) := by
  unfold F.laws_toPathBind at hF
  refine PureCall.enterLe Try.func70 (by kernel_rfl) rfl Try.ntmps70 (by simp) (by simp) ?_
  simp -dsimp
  repeat (refine chk.go (by first | omega | assumption | (simp_all; done) | (simp_all; omega)) ?_; simp -dsimp)
  have hF := ob hF; obtain ⟨v, e1, hF⟩ := hF
  refine ((C.laws_toIntS B hB1 hB2 a.path v e1)).goW (by simp) (by simp) ?_
  cases hF
  simp -dsimp
  repeat (refine chk.go (by first | omega | assumption | (simp_all; done) | (simp_all; omega)) ?_; simp -dsimp)

set_option maxRecDepth 100000 in
set_option maxHeartbeats 400000 in
theorem CC.laws_toPathBindS_l1 (B : Nat) (hB1 : 67108864 ≤ B) (hB2 : B ≤ 9223372036854775807) (a : List Vl.PathBind) : (∀ (out : List Vl.PathBind) (i : Nat) (o : List Vl.PathBind), F.laws_toPathBindS_l1 a out i = some o → ∀ (c : Code), navO [1, 1, 0, 1, 0, 0] (bodyOf Try.f37) = some c → ∀ (Q : Exit → ASt → Prop), Q (.exit 0) ⟨[(3, .own 0 (List.length (α := Vl.PathBind) o))], [.elems 2 (List.map Vl.PathBind.c o)]⟩ → ALoopU Try.prog B 0 23 (hold c .mk) ⟨[(0, .arr (List.map Vl.PathBind.c a)), (3, .own 0 (List.length (α := Vl.PathBind) out)), (4, .lit (.int .i64 (i : Int)))], [.elems 2 (List.map Vl.PathBind.c out)]⟩ (hold Q .mk)) := by
  refine F.laws_toPathBindS_l1.partial_correctness a
    (fun out i o => ∀ (c : Code), navO [1, 1, 0, 1, 0, 0] (bodyOf Try.f37) = some c → ∀ (Q : Exit → ASt → Prop), Q (.exit 0) ⟨[(3, .own 0 (List.length (α := Vl.PathBind) o))], [.elems 2 (List.map Vl.PathBind.c o)]⟩ → ALoopU Try.prog B 0 23 (hold c .mk) ⟨[(0, .arr (List.map Vl.PathBind.c a)), (3, .own 0 (List.length (α := Vl.PathBind) out)), (4, .lit (.int .i64 (i : Int)))], [.elems 2 (List.map Vl.PathBind.c out)]⟩ (hold Q .mk))
    ?_
  · intro _f_laws_toPathBindS_l1 ih_laws_toPathBindS_l1 out i o hF
    intro c hc Q hq
    obtain rfl : c = _ := navEq hc rfl
    refine ALoopU.know fun hk hs => ?_
    have b0 := hk 0
    simp -dsimp at b0
    have d0 := hs 0 _ rfl
    simp -dsimp [Blk.bnd] at d0
    clear hk hs
    refine ALoopU.enter ?_
    simp -dsimp
    repeat (refine chk.go (by first | omega | assumption | (simp_all; done) | (simp_all; omega)) ?_; simp -dsimp)
    refine abr.split (fun h2 => ?_) (fun h2 => ?_)
    · have q3 : (i < a.length) := by first | exact h2 | omega | (simpa using h2) | (simp at h2 ⊢; omega) | simp_all
      have z4 : ((i : Int) < (a.length : Int)) := by first | omega | simp_all
      rw [if_pos q3] at hF
      have hF := ob hF; obtain ⟨x, e5, hF⟩ := hF
      have le5 := lt_of_get e5
      simp -dsimp [h2, z4, ↓e5]
      repeat (refine chk.go (by first | omega | assumption | (simp_all; done) | (simp_all; omega)) ?_; simp -dsimp [h2, z4, ↓e5])
      have hF := ob hF; obtain ⟨v, e6, hF⟩ := hF
      refine ((C.laws_toPathBind B hB1 hB2 x v e6)).goW (by simp) (by simp) ?_
      have hF := ob hF; obtain ⟨x7, e8, hF⟩ := hF
      have le8 := lt_of_get e8
      have w9 : IntKind.i64.wrap ((i : Int) + 1) = (i : Int) + 1 := wrap_in (by omega) (by omega)
      simp -dsimp [h2, z4, ↓e5, ↓e8, w9]
      repeat (refine chk.go (by first | omega | assumption | (simp_all; done) | (simp_all; omega)) ?_; simp -dsimp [h2, z4, ↓e5, ↓e8, w9])
      refine Again.go ⟨[(0, .arr (List.map Vl.PathBind.c a)), (3, .own 0 (List.length (α := Vl.PathBind) (out.set i v))), (4, .lit (.int .i64 ((i + 1) : Int)))], [.elems 2 (List.map Vl.PathBind.c (out.set i v))]⟩ (Gh.to (by simp) (by simp -dsimp) (by simp -dsimp) (by simp -dsimp)) ?_
      exact (ih_laws_toPathBindS_l1 (out.set i v) (i + 1) o hF) _ rfl _ hq
    · have q3 : ¬ (i < a.length) := by first | exact h2 | omega | (simpa using h2) | (simp at h2 ⊢; omega) | simp_all
      have z4 : ¬ ((i : Int) < (a.length : Int)) := by first | omega | simp_all
      rw [if_neg q3] at hF
      cases hF
      simp -dsimp [h2, q3, z4]
      repeat (refine chk.go (by first | omega | assumption | (simp_all; done) | (simp_all; omega)) ?_; simp -dsimp [h2, q3, z4])
      refine Leave.go ⟨[(3, .own 0 (List.length (α := Vl.PathBind) out))], [.elems 2 (List.map Vl.PathBind.c out)]⟩ (Gh.to (by simp) (by simp -dsimp) (by simp -dsimp) (by simp -dsimp)) ?_
      exact hq

theorem C.laws_toPathBindS_l1 (B : Nat) (hB1 : 67108864 ≤ B) (hB2 : B ≤ 9223372036854775807) (a : List Vl.PathBind) (out : List Vl.PathBind) (i : Nat) (o : List Vl.PathBind) (hF : F.laws_toPathBindS_l1 a out i = some o) : ∀ (c : Code), navO [1, 1, 0, 1, 0, 0] (bodyOf Try.f37) = some c → ∀ (Q : Exit → ASt → Prop), Q (.exit 0) ⟨[(3, .own 0 (List.length (α := Vl.PathBind) o))], [.elems 2 (List.map Vl.PathBind.c o)]⟩ → ALoopU Try.prog B 0 23 (hold c .mk) ⟨[(0, .arr (List.map Vl.PathBind.c a)), (3, .own 0 (List.length (α := Vl.PathBind) out)), (4, .lit (.int .i64 (i : Int)))], [.elems 2 (List.map Vl.PathBind.c out)]⟩ (hold Q .mk) :=
  (CC.laws_toPathBindS_l1 B hB1 hB2 a) out i o hF

set_option maxRecDepth 100000 in
set_option maxHeartbeats 400000 in
theorem C.laws_toPathBindS (B : Nat) (hB1 : 67108864 ≤ B) (hB2 : B ≤ 9223372036854775807) (a : List Vl.PathBind) (r : List Vl.PathBind) (hF : F.laws_toPathBindS a = some r) : PureCall Try.prog B 37 [.arr (List.map Vl.PathBind.c a)] (.arr (List.map Vl.PathBind.c r)) := by
  unfold F.laws_toPathBindS at hF
  refine PureCall.enterLe Try.func37 (by kernel_rfl) rfl Try.ntmps37 (by simp) (by simp) ?_
  have hF := oc hF; obtain ⟨c1, hF⟩ := hF
  simp -dsimp
  repeat (refine chk.go (by first | omega | assumption | (simp_all; done) | (simp_all; omega)) ?_; simp -dsimp)
  have hF := ob hF; obtain ⟨o, ho10, hF⟩ := hF
  refine ALoop.goU ⟨[(0, .arr (List.map Vl.PathBind.c a)), (3, .own 0 (List.length (α := Vl.PathBind) (List.replicate a.length Vl.PathBind.z))), (4, .lit (.int .i64 (0 : Int)))], [.elems 2 (List.map Vl.PathBind.c (List.replicate a.length Vl.PathBind.z))]⟩ (Gh.to (by simp) (by simp -dsimp) (by simp -dsimp) (by simp -dsimp)) ?_
  refine (C.laws_toPathBindS_l1 B hB1 hB2 a (List.replicate a.length Vl.PathBind.z) 0 o ho10) _ rfl _ ?_
  cases hF
  simp -dsimp
  repeat (refine chk.go (by first | omega | assumption | (simp_all; done) | (simp_all; omega)) ?_; simp -dsimp)

set_option maxRecDepth 100000 in
set_option maxHeartbeats 400000 in
theorem CC.laws_toBranch (B : Nat) (hB1 : 67108864 ≤ B) (hB2 : B ≤ 9223372036854775807)  : (∀ (a : Vl.Branch) (r : Vl.Branch), F.laws_toBranch a = some r → PureCall Try.prog B 71 [.agg [.lit (.int .i64 a.ctor), .lit (.int .i64 a.n), .lit (.int .i64 a.m), .lit (.int .i64 a.tree.op), .lit (.int .i64 a.tree.clause), .arr (List.map Vl.PathBind.c a.tree.binds), .arr (List.map cI a.tree.path), .arr (List.map Vl.Branch.c a.tree.branches), .arr (List.map Vl.Tree.c a.tree.els)]] (.agg [.lit (.int .i64 r.ctor), .lit (.int .i64 r.n), .lit (.int .i64 r.m), .lit (.int .i64 r.tree.op), .lit (.int .i64 r.tree.clause), .arr (List.map Vl.PathBind.c r.tree.binds), .arr (List.map cI r.tree.path), .arr (List.map Vl.Branch.c r.tree.branches), .arr (List.map Vl.Tree.c r.tree.els)])) ∧
    (∀ (a : Vl.Tree) (r : Vl.Tree), F.laws_toTree a = some r → PureCall Try.prog B 11 [.agg [.lit (.int .i64 a.op), .lit (.int .i64 a.clause), .arr (List.map Vl.PathBind.c a.binds), .arr (List.map cI a.path), .arr (List.map Vl.Branch.c a.branches), .arr (List.map Vl.Tree.c a.els)]] (.agg [.lit (.int .i64 r.op), .lit (.int .i64 r.clause), .arr (List.map Vl.PathBind.c r.binds), .arr (List.map cI r.path), .arr (List.map Vl.Branch.c r.branches), .arr (List.map Vl.Tree.c r.els)])) ∧
    (∀ (a : List Vl.Tree) (r : List Vl.Tree), F.laws_toTreeS a = some r → PureCall Try.prog B 40 [.arr (List.map Vl.Tree.c a)] (.arr (List.map Vl.Tree.c r))) ∧
    (∀ (a : List Vl.Tree) (out : List Vl.Tree) (i : Nat) (o : List Vl.Tree), F.laws_toTreeS_l1 a out i = some o → ∀ (c : Code), navO [1, 1, 0, 1, 0, 0] (bodyOf Try.f40) = some c → ∀ (Q : Exit → ASt → Prop), Q (.exit 0) ⟨[(3, .own 0 (List.length (α := Vl.Tree) o))], [.elems 6 (List.map Vl.Tree.c o)]⟩ → ALoopU Try.prog B 0 23 (hold c .mk) ⟨[(0, .arr (List.map Vl.Tree.c a)), (3, .own 0 (List.length (α := Vl.Tree) out)), (4, .lit (.int .i64 (i : Int)))], [.elems 6 (List.map Vl.Tree.c out)]⟩ (hold Q .mk)) ∧
    (∀ (a : List Vl.Branch) (r : List Vl.Branch), F.laws_toBranchS a = some r → PureCall Try.prog B 39 [.arr (List.map Vl.Branch.c a)] (.arr (List.map Vl.Branch.c r))) ∧
    (∀ (a : List Vl.Branch) (out : List Vl.Branch) (i : Nat) (o : List Vl.Branch), F.laws_toBranchS_l1 a out i = some o → ∀ (c : Code), navO [1, 1, 0, 1, 0, 0] (bodyOf Try.f39) = some c → ∀ (Q : Exit → ASt → Prop), Q (.exit 0) ⟨[(3, .own 0 (List.length (α := Vl.Branch) o))], [.elems 9 (List.map Vl.Branch.c o)]⟩ → ALoopU Try.prog B 0 23 (hold c .mk) ⟨[(0, .arr (List.map Vl.Branch.c a)), (3, .own 0 (List.length (α := Vl.Branch) out)), (4, .lit (.int .i64 (i : Int)))], [.elems 9 (List.map Vl.Branch.c out)]⟩ (hold Q .mk)) := by
  refine F.laws_toBranch.mutual_partial_correctness 
    (fun a r => PureCall Try.prog B 71 [.agg [.lit (.int .i64 a.ctor), .lit (.int .i64 a.n), .lit (.int .i64 a.m), .lit (.int .i64 a.tree.op), .lit (.int .i64 a.tree.clause), .arr (List.map Vl.PathBind.c a.tree.binds), .arr (List.map cI a.tree.path), .arr (List.map Vl.Branch.c a.tree.branches), .arr (List.map Vl.Tree.c a.tree.els)]] (.agg [.lit (.int .i64 r.ctor), .lit (.int .i64 r.n), .lit (.int .i64 r.m), .lit (.int .i64 r.tree.op), .lit (.int .i64 r.tree.clause), .arr (List.map Vl.PathBind.c r.tree.binds), .arr (List.map cI r.tree.path), .arr (List.map Vl.Branch.c r.tree.branches), .arr (List.map Vl.Tree.c r.tree.els)]))
    (fun a r => PureCall Try.prog B 11 [.agg [.lit (.int .i64 a.op), .lit (.int .i64 a.clause), .arr (List.map Vl.PathBind.c a.binds), .arr (List.map cI a.path), .arr (List.map Vl.Branch.c a.branches), .arr (List.map Vl.Tree.c a.els)]] (.agg [.lit (.int .i64 r.op), .lit (.int .i64 r.clause), .arr (List.map Vl.PathBind.c r.binds), .arr (List.map cI r.path), .arr (List.map Vl.Branch.c r.branches), .arr (List.map Vl.Tree.c r.els)]))
    (fun a r => PureCall Try.prog B 40 [.arr (List.map Vl.Tree.c a)] (.arr (List.map Vl.Tree.c r)))
    (fun a out i o => ∀ (c : Code), navO [1, 1, 0, 1, 0, 0] (bodyOf Try.f40) = some c → ∀ (Q : Exit → ASt → Prop), Q (.exit 0) ⟨[(3, .own 0 (List.length (α := Vl.Tree) o))], [.elems 6 (List.map Vl.Tree.c o)]⟩ → ALoopU Try.prog B 0 23 (hold c .mk) ⟨[(0, .arr (List.map Vl.Tree.c a)), (3, .own 0 (List.length (α := Vl.Tree) out)), (4, .lit (.int .i64 (i : Int)))], [.elems 6 (List.map Vl.Tree.c out)]⟩ (hold Q .mk))
    (fun a r => PureCall Try.prog B 39 [.arr (List.map Vl.Branch.c a)] (.arr (List.map Vl.Branch.c r)))
    (fun a out i o => ∀ (c : Code), navO [1, 1, 0, 1, 0, 0] (bodyOf Try.f39) = some c → ∀ (Q : Exit → ASt → Prop), Q (.exit 0) ⟨[(3, .own 0 (List.length (α := Vl.Branch) o))], [.elems 9 (List.map Vl.Branch.c o)]⟩ → ALoopU Try.prog B 0 23 (hold c .mk) ⟨[(0, .arr (List.map Vl.Branch.c a)), (3, .own 0 (List.length (α := Vl.Branch) out)), (4, .lit (.int .i64 (i : Int)))], [.elems 9 (List.map Vl.Branch.c out)]⟩ (hold Q .mk))
    ?_ ?_ ?_ ?_ ?_ ?_
  · intro _f_laws_toTree ih_laws_toTree a r hF
    refine PureCall.enterLe Try.func71 (by kernel_rfl) rfl Try.ntmps71 (by simp) (by simp) ?_
    simp -dsimp
    repeat (refine chk.go (by first | omega | assumption | (simp_all; done) | (simp_all; omega)) ?_; simp -dsimp)
    have hF := ob hF; obtain ⟨v, e1, hF⟩ := hF
    refine ((ih_laws_toTree a.tree v e1)).goW (by simp) (by simp) ?_
    cases hF
    simp -dsimp
    repeat (refine chk.go (by first | omega | assumption | (simp_all; done) | (simp_all; omega)) ?_; simp -dsimp)
  · intro _f_laws_toTreeS _f_laws_toBranchS ih_laws_toTreeS ih_laws_toBranchS a r hF
    refine PureCall.enterLe Try.func11 (by kernel_rfl) rfl Try.ntmps11 (by simp) (by simp) ?_
    simp -dsimp
    repeat (refine chk.go (by first | omega | assumption | (simp_all; done) | (simp_all; omega)) ?_; simp -dsimp)
    have hF := ob hF; obtain ⟨v, e1, hF⟩ := hF
    refine ((C.laws_toPathBindS B hB1 hB2 a.binds v e1)).goW (by simp) (by simp) ?_
    simp -dsimp
    repeat (refine chk.go (by first | omega | assumption | (simp_all; done) | (simp_all; omega)) ?_; simp -dsimp)
    have hF := ob hF; obtain ⟨v2, e3, hF⟩ := hF
    refine ((C.laws_toIntS B hB1 hB2 a.path v2 e3)).goW (by simp) (by simp) ?_
    simp -dsimp
    repeat (refine chk.go (by first | omega | assumption | (simp_all; done) | (simp_all; omega)) ?_; simp -dsimp)
    have hF := ob hF; obtain ⟨v4, e5, hF⟩ := hF
    refine ((ih_laws_toBranchS a.branches v4 e5)).goW (by simp) (by simp) ?_
    simp -dsimp
    repeat (refine chk.go (by first | omega | assumption | (simp_all; done) | (simp_all; omega)) ?_; simp -dsimp)
    have hF := ob hF; obtain ⟨v6, e7, hF⟩ := hF
    refine ((ih_laws_toTreeS a.els v6 e7)).goW (by simp) (by simp) ?_
    cases hF
    simp -dsimp
    repeat (refine chk.go (by first | omega | assumption | (simp_all; done) | (simp_all; omega)) ?_; simp -dsimp)
  · intro _f_laws_toTreeS_l1 ih_laws_toTreeS_l1 a r hF
    refine PureCall.enterLe Try.func40 (by kernel_rfl) rfl Try.ntmps40 (by simp) (by simp) ?_
    have hF := oc hF; obtain ⟨c1, hF⟩ := hF
    simp -dsimp
    repeat (refine chk.go (by first | omega | assumption | (simp_all; done) | (simp_all; omega)) ?_; simp -dsimp)
    have hF := ob hF; obtain ⟨o, ho10, hF⟩ := hF
    refine ALoop.goU ⟨[(0, .arr (List.map Vl.Tree.c a)), (3, .own 0 (List.length (α := Vl.Tree) (List.replicate a.length Vl.Tree.z))), (4, .lit (.int .i64 (0 : Int)))], [.elems 6 (List.map Vl.Tree.c (List.replicate a.length Vl.Tree.z))]⟩ (Gh.to (by simp) (by simp -dsimp) (by simp -dsimp) (by simp -dsimp)) ?_
    refine (ih_laws_toTreeS_l1 a (List.replicate a.length Vl.Tree.z) 0 o ho10) _ rfl _ ?_
    cases hF
    simp -dsimp
    repeat (refine chk.go (by first | omega | assumption | (simp_all; done) | (simp_all; omega)) ?_; simp -dsimp)
  · intro _f_laws_toTree _f_laws_toTreeS_l1 ih_laws_toTree ih_laws_toTreeS_l1 a out i o hF
    intro c hc Q hq
    obtain rfl : c = _ := navEq hc rfl
    refine ALoopU.know fun hk hs => ?_
    have b0 := hk 0
    simp -dsimp at b0
    have d0 := hs 0 _ rfl
    simp -dsimp [Blk.bnd] at d0
    clear hk hs
    refine ALoopU.enter ?_
    simp -dsimp
    repeat (refine chk.go (by first | omega | assumption | (simp_all; done) | (simp_all; omega)) ?_; simp -dsimp)
    refine abr.split (fun h2 => ?_) (fun h2 => ?_)
    · have q3 : (i < a.length) := by first | exact h2 | omega | (simpa using h2) | (simp at h2 ⊢; omega) | simp_all
      have z4 : ((i : Int) < (a.length : Int)) := by first | omega | simp_all
      rw [if_pos q3] at hF
      have hF := ob hF; obtain ⟨x, e5, hF⟩ := hF
      have le5 := lt_of_get e5
      simp -dsimp [h2, z4, ↓e5]
      repeat (refine chk.go (by first | omega | assumption | (simp_all; done) | (simp_all; omega)) ?_; simp -dsimp [h2, z4, ↓e5])
      have hF := ob hF; obtain ⟨v, e6, hF⟩ := hF
      refine ((ih_laws_toTree x v e6)).goW (by simp) (by simp) ?_
      have hF := ob hF; obtain ⟨x7, e8, hF⟩ := hF
      have le8 := lt_of_get e8
      have w9 : IntKind.i64.wrap ((i : Int) + 1) = (i : Int) + 1 := wrap_in (by omega) (by omega)
      simp -dsimp [h2, z4, ↓e5, ↓e8, w9]
      repeat (refine chk.go (by first | omega | assumption | (simp_all; done) | (simp_all; omega)) ?_; simp -dsimp [h2, z4, ↓e5, ↓e8, w9])
      refine Again.go ⟨[(0, .arr (List.map Vl.Tree.c a)), (3, .own 0 (List.length (α := Vl.Tree) (out.set i v))), (4, .lit (.int .i64 ((i + 1) : Int)))], [.elems 6 (List.map Vl.Tree.c (out.set i v))]⟩ (Gh.to (by simp) (by simp -dsimp) (by simp -dsimp) (by simp -dsimp)) ?_
      exact (ih_laws_toTreeS_l1 a (out.set i v) (i + 1) o hF) _ rfl _ hq
    · have q3 : ¬ (i < a.length) := by first | exact h2 | omega | (simpa using h2) | (simp at h2 ⊢; omega) | simp_all
      have z4 : ¬ ((i : Int) < (a.length : Int)) := by first | omega | simp_all
      rw [if_neg q3] at hF
      cases hF
      simp -dsimp [h2, q3, z4]
      repeat (refine chk.go (by first | omega | assumption | (simp_all; done) | (simp_all; omega)) ?_; simp -dsimp [h2, q3, z4])
      refine Leave.go ⟨[(3, .own 0 (List.length (α := Vl.Tree) out))], [.elems 6 (List.map Vl.Tree.c out)]⟩ (Gh.to (by simp) (by simp -dsimp) (by simp -dsimp) (by simp -dsimp)) ?_
      exact hq
  · intro _f_laws_toBranchS_l1 ih_laws_toBranchS_l1 a r hF
    refine PureCall.enterLe Try.func39 (by kernel_rfl) rfl Try.ntmps39 (by simp) (by simp) ?_
    have hF := oc hF; obtain ⟨c1, hF⟩ := hF
    simp -dsimp
    repeat (refine chk.go (by first | omega | assumption | (simp_all; done) | (simp_all; omega)) ?_; simp -dsimp)
    have hF := ob hF; obtain ⟨o, ho10, hF⟩ := hF
    refine ALoop.goU ⟨[(0, .arr (List.map Vl.Branch.c a)), (3, .own 0 (List.length (α := Vl.Branch) (List.replicate a.length Vl.Branch.z))), (4, .lit (.int .i64 (0 : Int)))], [.elems 9 (List.map Vl.Branch.c (List.replicate a.length Vl.Branch.z))]⟩ (Gh.to (by simp) (by simp -dsimp) (by simp -dsimp) (by simp -dsimp)) ?_
    refine (ih_laws_toBranchS_l1 a (List.replicate a.length Vl.Branch.z) 0 o ho10) _ rfl _ ?_
    cases hF
    simp -dsimp
    repeat (refine chk.go (by first | omega | assumption | (simp_all; done) | (simp_all; omega)) ?_; simp -dsimp)
  · intro _f_laws_toBranch _f_laws_toBranchS_l1 ih_laws_toBranch ih_laws_toBranchS_l1 a out i o hF
    intro c hc Q hq
    obtain rfl : c = _ := navEq hc rfl
    refine ALoopU.know fun hk hs => ?_
    have b0 := hk 0
    simp -dsimp at b0
    have d0 := hs 0 _ rfl
    simp -dsimp [Blk.bnd] at d0
    clear hk hs
    refine ALoopU.enter ?_
    simp -dsimp
    repeat (refine chk.go (by first | omega | assumption | (simp_all; done) | (simp_all; omega)) ?_; simp -dsimp)
    refine abr.split (fun h2 => ?_) (fun h2 => ?_)
    · have q3 : (i < a.length) := by first | exact h2 | omega | (simpa using h2) | (simp at h2 ⊢; omega) | simp_all
      have z4 : ((i : Int) < (a.length : Int)) := by first | omega | simp_all
      rw [if_pos q3] at hF
      have hF := ob hF; obtain ⟨x, e5, hF⟩ := hF
      have le5 := lt_of_get e5
      simp -dsimp [h2, z4, ↓e5]
      repeat (refine chk.go (by first | omega | assumption | (simp_all; done) | (simp_all; omega)) ?_; simp -dsimp [h2, z4, ↓e5])
      have hF := ob hF; obtain ⟨v, e6, hF⟩ := hF
      refine ((ih_laws_toBranch x v e6)).goW (by simp) (by simp) ?_
      have hF := ob hF; obtain ⟨x7, e8, hF⟩ := hF
      have le8 := lt_of_get e8
      have w9 : IntKind.i64.wrap ((i : Int) + 1) = (i : Int) + 1 := wrap_in (by omega) (by omega)
      simp -dsimp [h2, z4, ↓e5, ↓e8, w9]
      repeat (refine chk.go (by first | omega | assumption | (simp_all; done) | (simp_all; omega)) ?_; simp -dsimp [h2, z4, ↓e5, ↓e8, w9])
      refine Again.go ⟨[(0, .arr (List.map Vl.Branch.c a)), (3, .own 0 (List.length (α := Vl.Branch) (out.set i v))), (4, .lit (.int .i64 ((i + 1) : Int)))], [.elems 9 (List.map Vl.Branch.c (out.set i v))]⟩ (Gh.to (by simp) (by simp -dsimp) (by simp -dsimp) (by simp -dsimp)) ?_
      exact (ih_laws_toBranchS_l1 a (out.set i v) (i + 1) o hF) _ rfl _ hq
    · have q3 : ¬ (i < a.length) := by first | exact h2 | omega | (simpa using h2) | (simp at h2 ⊢; omega) | simp_all
      have z4 : ¬ ((i : Int) < (a.length : Int)) := by first | omega | simp_all
      rw [if_neg q3] at hF
      cases hF
      simp -dsimp [h2, q3, z4]
      repeat (refine chk.go (by first | omega | assumption | (simp_all; done) | (simp_all; omega)) ?_; simp -dsimp [h2, q3, z4])
      refine Leave.go ⟨[(3, .own 0 (List.length (α := Vl.Branch) out))], [.elems 9 (List.map Vl.Branch.c out)]⟩ (Gh.to (by simp) (by simp -dsimp) (by simp -dsimp) (by simp -dsimp)) ?_
      exact hq

theorem C.laws_toBranch (B : Nat) (hB1 : 67108864 ≤ B) (hB2 : B ≤ 9223372036854775807) (a : Vl.Branch) (r : Vl.Branch) (hF : F.laws_toBranch a = some r) : PureCall Try.prog B 71 [.agg [.lit (.int .i64 a.ctor), .lit (.int .i64 a.n), .lit (.int .i64 a.m), .lit (.int .i64 a.tree.op), .lit (.int .i64 a.tree.clause), .arr (List.map Vl.PathBind.c a.tree.binds), .arr (List.map cI a.tree.path), .arr (List.map Vl.Branch.c a.tree.branches), .arr (List.map Vl.Tree.c a.tree.els)]] (.agg [.lit (.int .i64 r.ctor), .lit (.int .i64 r.n), .lit (.int .i64 r.m), .lit (.int .i64 r.tree.op), .lit (.int .i64 r.tree.clause), .arr (List.map Vl.PathBind.c r.tree.binds), .arr (List.map cI r.tree.path), .arr (List.map Vl.Branch.c r.tree.branches), .arr (List.map Vl.Tree.c r.tree.els)]) :=
  (CC.laws_toBranch B hB1 hB2 ).1 a r hF

theorem C.laws_toTree (B : Nat) (hB1 : 67108864 ≤ B) (hB2 : B ≤ 9223372036854775807) (a : Vl.Tree) (r : Vl.Tree) (hF : F.laws_toTree a = some r) : PureCall Try.prog B 11 [.agg [.lit (.int .i64 a.op), .lit (.int .i64 a.clause), .arr (List.map Vl.PathBind.c a.binds), .arr (List.map cI a.path), .arr (List.map Vl.Branch.c a.branches), .arr (List.map Vl.Tree.c a.els)]] (.agg [.lit (.int .i64 r.op), .lit (.int .i64 r.clause), .arr (List.map Vl.PathBind.c r.binds), .arr (List.map cI r.path), .arr (List.map Vl.Branch.c r.branches), .arr (List.map Vl.Tree.c r.els)]) :=
  (CC.laws_toBranch B hB1 hB2 ).2.1 a r hF

theorem C.laws_toTreeS (B : Nat) (hB1 : 67108864 ≤ B) (hB2 : B ≤ 9223372036854775807) (a : List Vl.Tree) (r : List Vl.Tree) (hF : F.laws_toTreeS a = some r) : PureCall Try.prog B 40 [.arr (List.map Vl.Tree.c a)] (.arr (List.map Vl.Tree.c r)) :=
  (CC.laws_toBranch B hB1 hB2 ).2.2.1 a r hF

theorem C.laws_toTreeS_l1 (B : Nat) (hB1 : 67108864 ≤ B) (hB2 : B ≤ 9223372036854775807) (a : List Vl.Tree) (out : List Vl.Tree) (i : Nat) (o : List Vl.Tree) (hF : F.laws_toTreeS_l1 a out i = some o) : ∀ (c : Code), navO [1, 1, 0, 1, 0, 0] (bodyOf Try.f40) = some c → ∀ (Q : Exit → ASt → Prop), Q (.exit 0) ⟨[(3, .own 0 (List.length (α := Vl.Tree) o))], [.elems 6 (List.map Vl.Tree.c o)]⟩ → ALoopU Try.prog B 0 23 (hold c .mk) ⟨[(0, .arr (List.map Vl.Tree.c a)), (3, .own 0 (List.length (α := Vl.Tree) out)), (4, .lit (.int .i64 (i : Int)))], [.elems 6 (List.map Vl.Tree.c out)]⟩ (hold Q .mk) :=
  (CC.laws_toBranch B hB1 hB2 ).2.2.2.1 a out i o hF

theorem C.laws_toBranchS (B : Nat) (hB1 : 67108864 ≤ B) (hB2 : B ≤ 9223372036854775807) (a : List Vl.Branch) (r : List Vl.Branch) (hF : F.laws_toBranchS a = some r) : PureCall Try.prog B 39 [.arr (List.map Vl.Branch.c a)] (.arr (List.map Vl.Branch.c r)) :=
  (CC.laws_toBranch B hB1 hB2 ).2.2.2.2.1 a r hF

theorem C.laws_toBranchS_l1 (B : Nat) (hB1 : 67108864 ≤ B) (hB2 : B ≤ 9223372036854775807) (a : List Vl.Branch) (out : List Vl.Branch) (i : Nat) (o : List Vl.Branch) (hF : F.laws_toBranchS_l1 a out i = some o) : ∀ (c : Code), navO [1, 1, 0, 1, 0, 0] (bodyOf Try.f39) = some c → ∀ (Q : Exit → ASt → Prop), Q (.exit 0) ⟨[(3, .own 0 (List.length (α := Vl.Branch) o))], [.elems 9 (List.map Vl.Branch.c o)]⟩ → ALoopU Try.prog B 0 23 (hold c .mk) ⟨[(0, .arr (List.map Vl.Branch.c a)), (3, .own 0 (List.length (α := Vl.Branch) out)), (4, .lit (.int .i64 (i : Int)))], [.elems 9 (List.map Vl.Branch.c out)]⟩ (hold Q .mk) :=
  (CC.laws_toBranch B hB1 hB2 ).2.2.2.2.2 a out i o hF

set_option maxRecDepth 100000 in
set_option maxHeartbeats 400000 in
theorem CC.spec_TreeTests (B : Nat) (hB1 : 67108864 ≤ B) (hB2 : B ≤ 9223372036854775807)  : (∀ (x : Vl.Tree) (r : Int), F.spec_TreeTests x = some r → PureCall Try.prog B 10 [.agg [.lit (.int .i64 x.op), .lit (.int .i64 x.clause), .arr (List.map Vl.PathBind.c x.binds), .arr (List.map cI x.path), .arr (List.map Vl.Branch.c x.branches), .arr (List.map Vl.Tree.c x.els)]] (.lit (.int .i64 r))) ∧
    (∀ (x : Vl.Tree) (most12 : Int) (i13 : Nat) (o : Int), F.spec_TreeTests_l2 x most12 i13 = some o → ∀ (c : Code), navO [1, 1, 1, 0, 1, 0, 0] (bodyOf Try.f10) = some c → ∀ (Q : Exit → ASt → Prop), Q (.exit 2) ⟨[(1, .ptr 0 0), (3, .lit (.int .i64 o))], [.cells [.lit (.int .i64 x.op), .lit (.int .i64 x.clause), .arr (List.map Vl.PathBind.c x.binds), .arr (List.map cI x.path), .arr (List.map Vl.Branch.c x.branches), .arr (List.map Vl.Tree.c x.els)]]⟩ → ALoopU Try.prog B 0 49 (hold c .mk) ⟨[(1, .ptr 0 0), (3, .lit (.int .i64 most12)), (6, .lit (.int .i64 (i13 : Int)))], [.cells [.lit (.int .i64 x.op), .lit (.int .i64 x.clause), .arr (List.map Vl.PathBind.c x.binds), .arr (List.map cI x.path), .arr (List.map Vl.Branch.c x.branches), .arr (List.map Vl.Tree.c x.els)]]⟩ (hold Q .mk)) ∧
    (∀ (x : Vl.Tree) (most : Int) (i : Nat) (o : Int), F.spec_TreeTests_l1 x most i = some o → ∀ (c : Code), navO [1, 1, 0, 1, 0, 0] (bodyOf Try.f10) = some c → ∀ (Q : Exit → ASt → Prop), Q (.exit 0) ⟨[(1, .ptr 0 0), (3, .lit (.int .i64 o))], [.cells [.lit (.int .i64 x.op), .lit (.int .i64 x.clause), .arr (List.map Vl.PathBind.c x.binds), .arr (List.map cI x.path), .arr (List.map Vl.Branch.c x.branches), .arr (List.map Vl.Tree.c x.els)]]⟩ → ALoopU Try.prog B 0 49 (hold c .mk) ⟨[(1, .ptr 0 0), (3, .lit (.int .i64 most)), (4, .lit (.int .i64 (i : Int)))], [.cells [.lit (.int .i64 x.op), .lit (.int .i64 x.clause), .arr (List.map Vl.PathBind.c x.binds), .arr (List.map cI x.path), .arr (List.map Vl.Branch.c x.branches), .arr (List.map Vl.Tree.c x.els)]]⟩ (hold Q .mk)) := by
  refine F.spec_TreeTests.mutual_partial_correctness 
    (fun x r => PureCall Try.prog B 10 [.agg [.lit (.int .i64 x.op), .lit (.int .i64 x.clause), .arr (List.map Vl.PathBind.c x.binds), .arr (List.map cI x.path), .arr (List.map Vl.Branch.c x.branches), .arr (List.map Vl.Tree.c x.els)]] (.lit (.int .i64 r)))
    (fun x most12 i13 o => ∀ (c : Code), navO [1, 1, 1, 0, 1, 0, 0] (bodyOf Try.f10) = some c → ∀ (Q : Exit → ASt → Prop), Q (.exit 2) ⟨[(1, .ptr 0 0), (3, .lit (.int .i64 o))], [.cells [.lit (.int .i64 x.op), .lit (.int .i64 x.clause), .arr (List.map Vl.PathBind.c x.binds), .arr (List.map cI x.path), .arr (List.map Vl.Branch.c x.branches), .arr (List.map Vl.Tree.c x.els)]]⟩ → ALoopU Try.prog B 0 49 (hold c .mk) ⟨[(1, .ptr 0 0), (3, .lit (.int .i64 most12)), (6, .lit (.int .i64 (i13 : Int)))], [.cells [.lit (.int .i64 x.op), .lit (.int .i64 x.clause), .arr (List.map Vl.PathBind.c x.binds), .arr (List.map cI x.path), .arr (List.map Vl.Branch.c x.branches), .arr (List.map Vl.Tree.c x.els)]]⟩ (hold Q .mk))
    (fun x most i o => ∀ (c : Code), navO [1, 1, 0, 1, 0, 0] (bodyOf Try.f10) = some c → ∀ (Q : Exit → ASt → Prop), Q (.exit 0) ⟨[(1, .ptr 0 0), (3, .lit (.int .i64 o))], [.cells [.lit (.int .i64 x.op), .lit (.int .i64 x.clause), .arr (List.map Vl.PathBind.c x.binds), .arr (List.map cI x.path), .arr (List.map Vl.Branch.c x.branches), .arr (List.map Vl.Tree.c x.els)]]⟩ → ALoopU Try.prog B 0 49 (hold c .mk) ⟨[(1, .ptr 0 0), (3, .lit (.int .i64 most)), (4, .lit (.int .i64 (i : Int)))], [.cells [.lit (.int .i64 x.op), .lit (.int .i64 x.clause), .arr (List.map Vl.PathBind.c x.binds), .arr (List.map cI x.path), .arr (List.map Vl.Branch.c x.branches), .arr (List.map Vl.Tree.c x.els)]]⟩ (hold Q .mk))
    ?_ ?_ ?_
  · intro _f_spec_TreeTests_l2 _f_spec_TreeTests_l1 ih_spec_TreeTests_l2 ih_spec_TreeTests_l1 x r hF
    refine PureCall.enterLe Try.func10 (by kernel_rfl) rfl Try.ntmps10 (by simp) (by simp) ?_
    simp -dsimp
    repeat (refine chk.go (by first | omega | assumption | (simp_all; done) | (simp_all; omega)) ?_; simp -dsimp)
    have hF := ob hF; obtain ⟨o, ho11, hF⟩ := hF
    refine ALoop.goU ⟨[(1, .ptr 0 0), (3, .lit (.int .i64 (0 : Int))), (4, .lit (.int .i64 (0 : Int)))], [.cells [.lit (.int .i64 x.op), .lit (.int .i64 x.clause), .arr (List.map Vl.PathBind.c x.binds), .arr (List.map cI x.path), .arr (List.map Vl.Branch.c x.branches), .arr (List.map Vl.Tree.c x.els)]]⟩ (Gh.to (by simp) (by simp -dsimp) (by simp -dsimp) (by simp -dsimp)) ?_
    refine (ih_spec_TreeTests_l1 x (0 : Int) 0 o ho11) _ rfl _ ?_
    simp -dsimp
    repeat (refine chk.go (by first | omega | assumption | (simp_all; done) | (simp_all; omega)) ?_; simp -dsimp)
    have hF := ob hF; obtain ⟨o26, ho25, hF⟩ := hF
    refine ALoop.goU ⟨[(1, .ptr 0 0), (3, .lit (.int .i64 o)), (6, .lit (.int .i64 (0 : Int)))], [.cells [.lit (.int .i64 x.op), .lit (.int .i64 x.clause), .arr (List.map Vl.PathBind.c x.binds), .arr (List.map cI x.path), .arr (List.map Vl.Branch.c x.branches), .arr (List.map Vl.Tree.c x.els)]]⟩ (Gh.to (by simp) (by simp -dsimp) (by simp -dsimp) (by simp -dsimp)) ?_
    refine (ih_spec_TreeTests_l2 x o 0 o26 ho25) _ rfl _ ?_
    simp -dsimp
    repeat (refine chk.go (by first | omega | assumption | (simp_all; done) | (simp_all; omega)) ?_; simp -dsimp)
    refine abr.split (fun h27 => ?_) (fun h27 => ?_)
    · have q28 : (x.op = 2) := by first | exact h27 | omega | (simpa using h27) | (simp at h27 ⊢; omega) | simp_all
      rw [if_pos q28] at hF
      cases hF
      simp -dsimp [h27]
      repeat (refine chk.go (by first | omega | assumption | (simp_all; done) | (simp_all; omega)) ?_; simp -dsimp [h27])
    · have q28 : ¬ (x.op = 2) := by first | exact h27 | omega | (simpa using h27) | (simp at h27 ⊢; omega) | simp_all
      rw [if_neg q28] at hF
      cases hF
      simp -dsimp [h27, q28]
      repeat (refine chk.go (by first | omega | assumption | (simp_all; done) | (simp_all; omega)) ?_; simp -dsimp [h27, q28])
  · intro _f_spec_TreeTests _f_spec_TreeTests_l2 ih_spec_TreeTests ih_spec_TreeTests_l2 x most12 i13 o hF
    intro c hc Q hq
    obtain rfl : c = _ := navEq hc rfl
    refine ALoopU.know fun hk hs => ?_
    have d0 := hs 0 _ rfl
    simp -dsimp [Blk.bnd] at d0
    clear hk hs
    refine ALoopU.enter ?_
    simp -dsimp
    repeat (refine chk.go (by first | omega | assumption | (simp_all; done) | (simp_all; omega)) ?_; simp -dsimp)
    refine abr.split (fun h14 => ?_) (fun h14 => ?_)
    · have q15 : (i13 < x.els.length) := by first | exact h14 | omega | (simpa using h14) | (simp at h14 ⊢; omega) | simp_all
      have z16 : ((i13 : Int) < (x.els.length : Int)) := by first | omega | simp_all
      rw [if_pos q15] at hF
      have hF := ob hF; obtain ⟨x17, e18, hF⟩ := hF
      have le18 := lt_of_get e18
      simp -dsimp [h14, z16, ↓e18]
      repeat (refine chk.go (by first | omega | assumption | (simp_all; done) | (simp_all; omega)) ?_; simp -dsimp [h14, z16, ↓e18])
      have hF := ob hF; obtain ⟨v19, e20, hF⟩ := hF
      refine ((ih_spec_TreeTests x17 v19 e20)).goW (by simp) (by simp) ?_
      simp -dsimp [h14, z16, ↓e18]
      repeat (refine chk.go (by first | omega | assumption | (simp_all; done) | (simp_all; omega)) ?_; simp -dsimp [h14, z16, ↓e18])
      refine abr.split (fun h21 => ?_) (fun h21 => ?_)
      · have q22 : (most12 < v19) := by first | exact h21 | omega | (simpa using h21) | (simp at h21 ⊢; omega) | simp_all
        rw [if_pos q22] at hF
        have w23 : IntKind.i64.wrap ((i13 : Int) + 1) = (i13 : Int) + 1 := wrap_in (by omega) (by omega)
        simp -dsimp [h14, z16, ↓e18, h21, w23]
        repeat (refine chk.go (by first | omega | assumption | (simp_all; done) | (simp_all; omega)) ?_; simp -dsimp [h14, z16, ↓e18, h21, w23])
        refine Again.go ⟨[(1, .ptr 0 0), (3, .lit (.int .i64 v19)), (6, .lit (.int .i64 ((i13 + 1) : Int)))], [.cells [.lit (.int .i64 x.op), .lit (.int .i64 x.clause), .arr (List.map Vl.PathBind.c x.binds), .arr (List.map cI x.path), .arr (List.map Vl.Branch.c x.branches), .arr (List.map Vl.Tree.c x.els)]]⟩ (Gh.to (by simp) (by simp -dsimp) (by simp -dsimp) (by simp -dsimp)) ?_
        exact (ih_spec_TreeTests_l2 x v19 (i13 + 1) o hF) _ rfl _ hq
      · have q22 : ¬ (most12 < v19) := by first | exact h21 | omega | (simpa using h21) | (simp at h21 ⊢; omega) | simp_all
        rw [if_neg q22] at hF
        have w24 : IntKind.i64.wrap ((i13 : Int) + 1) = (i13 : Int) + 1 := wrap_in (by omega) (by omega)
        simp -dsimp [h14, z16, ↓e18, h21, q22, w24]
        repeat (refine chk.go (by first | omega | assumption | (simp_all; done) | (simp_all; omega)) ?_; simp -dsimp [h14, z16, ↓e18, h21, q22, w24])
        refine Again.go ⟨[(1, .ptr 0 0), (3, .lit (.int .i64 most12)), (6, .lit (.int .i64 ((i13 + 1) : Int)))], [.cells [.lit (.int .i64 x.op), .lit (.int .i64 x.clause), .arr (List.map Vl.PathBind.c x.binds), .arr (List.map cI x.path), .arr (List.map Vl.Branch.c x.branches), .arr (List.map Vl.Tree.c x.els)]]⟩ (Gh.to (by simp) (by simp -dsimp) (by simp -dsimp) (by simp -dsimp)) ?_
        exact (ih_spec_TreeTests_l2 x most12 (i13 + 1) o hF) _ rfl _ hq
    · have q15 : ¬ (i13 < x.els.length) := by first | exact h14 | omega | (simpa using h14) | (simp at h14 ⊢; omega) | simp_all
      have z16 : ¬ ((i13 : Int) < (x.els.length : Int)) := by first | omega | simp_all
      rw [if_neg q15] at hF
      cases hF
      simp -dsimp [h14, q15, z16]
      repeat (refine chk.go (by first | omega | assumption | (simp_all; done) | (simp_all; omega)) ?_; simp -dsimp [h14, q15, z16])
      refine Leave.go ⟨[(1, .ptr 0 0), (3, .lit (.int .i64 most12))], [.cells [.lit (.int .i64 x.op), .lit (.int .i64 x.clause), .arr (List.map Vl.PathBind.c x.binds), .arr (List.map cI x.path), .arr (List.map Vl.Branch.c x.branches), .arr (List.map Vl.Tree.c x.els)]]⟩ (Gh.to (by simp) (by simp -dsimp) (by simp -dsimp) (by simp -dsimp)) ?_
      exact hq
  · intro _f_spec_TreeTests _f_spec_TreeTests_l1 ih_spec_TreeTests ih_spec_TreeTests_l1 x most i o hF
    intro c hc Q hq
    obtain rfl : c = _ := navEq hc rfl
    refine ALoopU.know fun hk hs => ?_
    have d0 := hs 0 _ rfl
    simp -dsimp [Blk.bnd] at d0
    clear hk hs
    refine ALoopU.enter ?_
    simp -dsimp
    repeat (refine chk.go (by first | omega | assumption | (simp_all; done) | (simp_all; omega)) ?_; simp -dsimp)
    refine abr.split (fun h1 => ?_) (fun h1 => ?_)
    · have q2 : (i < x.branches.length) := by first | exact h1 | omega | (simpa using h1) | (simp at h1 ⊢; omega) | simp_all
      have z3 : ((i : Int) < (x.branches.length : Int)) := by first | omega | simp_all
      rw [if_pos q2] at hF
      have hF := ob hF; obtain ⟨x4, e5, hF⟩ := hF
      have le5 := lt_of_get e5
      simp -dsimp [h1, z3, ↓e5]
      repeat (refine chk.go (by first | omega | assumption | (simp_all; done) | (simp_all; omega)) ?_; simp -dsimp [h1, z3, ↓e5])
      have hF := ob hF; obtain ⟨v, e6, hF⟩ := hF
      refine ((ih_spec_TreeTests x4.tree v e6)).goW (by simp) (by simp) ?_
      simp -dsimp [h1, z3, ↓e5]
      repeat (refine chk.go (by first | omega | assumption | (simp_all; done) | (simp_all; omega)) ?_; simp -dsimp [h1, z3, ↓e5])
      refine abr.split (fun h7 => ?_) (fun h7 => ?_)
      · have q8 : (most < v) := by first | exact h7 | omega | (simpa using h7) | (simp at h7 ⊢; omega) | simp_all
        rw [if_pos q8] at hF
        have w9 : IntKind.i64.wrap ((i : Int) + 1) = (i : Int) + 1 := wrap_in (by omega) (by omega)
        simp -dsimp [h1, z3, ↓e5, h7, w9]
        repeat (refine chk.go (by first | omega | assumption | (simp_all; done) | (simp_all; omega)) ?_; simp -dsimp [h1, z3, ↓e5, h7, w9])
        refine Again.go ⟨[(1, .ptr 0 0), (3, .lit (.int .i64 v)), (4, .lit (.int .i64 ((i + 1) : Int)))], [.cells [.lit (.int .i64 x.op), .lit (.int .i64 x.clause), .arr (List.map Vl.PathBind.c x.binds), .arr (List.map cI x.path), .arr (List.map Vl.Branch.c x.branches), .arr (List.map Vl.Tree.c x.els)]]⟩ (Gh.to (by simp) (by simp -dsimp) (by simp -dsimp) (by simp -dsimp)) ?_
        exact (ih_spec_TreeTests_l1 x v (i + 1) o hF) _ rfl _ hq
      · have q8 : ¬ (most < v) := by first | exact h7 | omega | (simpa using h7) | (simp at h7 ⊢; omega) | simp_all
        rw [if_neg q8] at hF
        have w10 : IntKind.i64.wrap ((i : Int) + 1) = (i : Int) + 1 := wrap_in (by omega) (by omega)
        simp -dsimp [h1, z3, ↓e5, h7, q8, w10]
        repeat (refine chk.go (by first | omega | assumption | (simp_all; done) | (simp_all; omega)) ?_; simp -dsimp [h1, z3, ↓e5, h7, q8, w10])
        refine Again.go ⟨[(1, .ptr 0 0), (3, .lit (.int .i64 most)), (4, .lit (.int .i64 ((i + 1) : Int)))], [.cells [.lit (.int .i64 x.op), .lit (.int .i64 x.clause), .arr (List.map Vl.PathBind.c x.binds), .arr (List.map cI x.path), .arr (List.map Vl.Branch.c x.branches), .arr (List.map Vl.Tree.c x.els)]]⟩ (Gh.to (by simp) (by simp -dsimp) (by simp -dsimp) (by simp -dsimp)) ?_
        exact (ih_spec_TreeTests_l1 x most (i + 1) o hF) _ rfl _ hq
    · have q2 : ¬ (i < x.branches.length) := by first | exact h1 | omega | (simpa using h1) | (simp at h1 ⊢; omega) | simp_all
      have z3 : ¬ ((i : Int) < (x.branches.length : Int)) := by first | omega | simp_all
      rw [if_neg q2] at hF
      cases hF
      simp -dsimp [h1, q2, z3]
      repeat (refine chk.go (by first | omega | assumption | (simp_all; done) | (simp_all; omega)) ?_; simp -dsimp [h1, q2, z3])
      refine Leave.go ⟨[(1, .ptr 0 0), (3, .lit (.int .i64 most))], [.cells [.lit (.int .i64 x.op), .lit (.int .i64 x.clause), .arr (List.map Vl.PathBind.c x.binds), .arr (List.map cI x.path), .arr (List.map Vl.Branch.c x.branches), .arr (List.map Vl.Tree.c x.els)]]⟩ (Gh.to (by simp) (by simp -dsimp) (by simp -dsimp) (by simp -dsimp)) ?_
      exact hq

theorem C.spec_TreeTests (B : Nat) (hB1 : 67108864 ≤ B) (hB2 : B ≤ 9223372036854775807) (x : Vl.Tree) (r : Int) (hF : F.spec_TreeTests x = some r) : PureCall Try.prog B 10 [.agg [.lit (.int .i64 x.op), .lit (.int .i64 x.clause), .arr (List.map Vl.PathBind.c x.binds), .arr (List.map cI x.path), .arr (List.map Vl.Branch.c x.branches), .arr (List.map Vl.Tree.c x.els)]] (.lit (.int .i64 r)) :=
  (CC.spec_TreeTests B hB1 hB2 ).1 x r hF

theorem C.spec_TreeTests_l2 (B : Nat) (hB1 : 67108864 ≤ B) (hB2 : B ≤ 9223372036854775807) (x : Vl.Tree) (most12 : Int) (i13 : Nat) (o : Int) (hF : F.spec_TreeTests_l2 x most12 i13 = some o) : ∀ (c : Code), navO [1, 1, 1, 0, 1, 0, 0] (bodyOf Try.f10) = some c → ∀ (Q : Exit → ASt → Prop), Q (.exit 2) ⟨[(1, .ptr 0 0), (3, .lit (.int .i64 o))], [.cells [.lit (.int .i64 x.op), .lit (.int .i64 x.clause), .arr (List.map Vl.PathBind.c x.binds), .arr (List.map cI x.path), .arr (List.map Vl.Branch.c x.branches), .arr (List.map Vl.Tree.c x.els)]]⟩ → ALoopU Try.prog B 0 49 (hold c .mk) ⟨[(1, .ptr 0 0), (3, .lit (.int .i64 most12)), (6, .lit (.int .i64 (i13 : Int)))], [.cells [.lit (.int .i64 x.op), .lit (.int .i64 x.clause), .arr (List.map Vl.PathBind.c x.binds), .arr (List.map cI x.path), .arr (List.map Vl.Branch.c x.branches), .arr (List.map Vl.Tree.c x.els)]]⟩ (hold Q .mk) :=
  (CC.spec_TreeTests B hB1 hB2 ).2.1 x most12 i13 o hF

theorem C.spec_TreeTests_l1 (B : Nat) (hB1 : 67108864 ≤ B) (hB2 : B ≤ 9223372036854775807) (x : Vl.Tree) (most : Int) (i : Nat) (o : Int) (hF : F.spec_TreeTests_l1 x most i = some o) : ∀ (c : Code), navO [1, 1, 0, 1, 0, 0] (bodyOf Try.f10) = some c → ∀ (Q : Exit → ASt → Prop), Q (.exit 0) ⟨[(1, .ptr 0 0), (3, .lit (.int .i64 o))], [.cells [.lit (.int .i64 x.op), .lit (.int .i64 x.clause), .arr (List.map Vl.PathBind.c x.binds), .arr (List.map cI x.path), .arr (List.map Vl.Branch.c x.branches), .arr (List.map Vl.Tree.c x.els)]]⟩ → ALoopU Try.prog B 0 49 (hold c .mk) ⟨[(1, .ptr 0 0), (3, .lit (.int .i64 most)), (4, .lit (.int .i64 (i : Int)))], [.cells [.lit (.int .i64 x.op), .lit (.int .i64 x.clause), .arr (List.map Vl.PathBind.c x.binds), .arr (List.map cI x.path), .arr (List.map Vl.Branch.c x.branches), .arr (List.map Vl.Tree.c x.els)]]⟩ (hold Q .mk) :=
  (CC.spec_TreeTests B hB1 hB2 ).2.2 x most i o hF

set_option maxRecDepth 100000 in
set_option maxHeartbeats 400000 in
theorem CC.impl_subtrees_l1 (B : Nat) (hB1 : 67108864 ≤ B) (hB2 : B ≤ 9223372036854775807) (x : Vl.Tree) : (∀ (out : List Vl.Tree) (i : Nat) (o : List Vl.Tree), F.impl_subtrees_l1 x out i = some o → ∀ (c : Code), navO [1, 1, 0, 1, 0, 0] (bodyOf Try.f41) = some c → ∀ (Q : Exit → ASt → Prop), Q (.exit 0) ⟨[(1, .ptr 0 0), (3, .own 1 (List.length (α := Vl.Tree) o))], [.cells [.lit (.int .i64 x.op), .lit (.int .i64 x.clause), .arr (List.map Vl.PathBind.c x.binds), .arr (List.map cI x.path), .arr (List.map Vl.Branch.c x.branches), .arr (List.map Vl.Tree.c x.els)], .elems 6 (List.map Vl.Tree.c o)]⟩ → ALoopU Try.prog B 0 23 (hold c .mk) ⟨[(1, .ptr 0 0), (3, .own 1 (List.length (α := Vl.Tree) out)), (7, .arr (List.map Vl.Branch.c x.branches)), (8, .lit (.int .i64 (x.branches.length : Int))), (9, .lit (.int .i64 (i : Int)))], [.cells [.lit (.int .i64 x.op), .lit (.int .i64 x.clause), .arr (List.map Vl.PathBind.c x.binds), .arr (List.map cI x.path), .arr (List.map Vl.Branch.c x.branches), .arr (List.map Vl.Tree.c x.els)], .elems 6 (List.map Vl.Tree.c out)]⟩ (hold Q .mk)) := by
  refine F.impl_subtrees_l1.partial_correctness x
    (fun out i o => ∀ (c : Code), navO [1, 1, 0, 1, 0, 0] (bodyOf Try.f41) = some c → ∀ (Q : Exit → ASt → Prop), Q (.exit 0) ⟨[(1, .ptr 0 0), (3, .own 1 (List.length (α := Vl.Tree) o))], [.cells [.lit (.int .i64 x.op), .lit (.int .i64 x.clause), .arr (List.map Vl.PathBind.c x.binds), .arr (List.map cI x.path), .arr (List.map Vl.Branch.c x.branches), .arr (List.map Vl.Tree.c x.els)], .elems 6 (List.map Vl.Tree.c o)]⟩ → ALoopU Try.prog B 0 23 (hold c .mk) ⟨[(1, .ptr 0 0), (3, .own 1 (List.length (α := Vl.Tree) out)), (7, .arr (List.map Vl.Branch.c x.branches)), (8, .lit (.int .i64 (x.branches.length : Int))), (9, .lit (.int .i64 (i : Int)))], [.cells [.lit (.int .i64 x.op), .lit (.int .i64 x.clause), .arr (List.map Vl.PathBind.c x.binds), .arr (List.map cI x.path), .arr (List.map Vl.Branch.c x.branches), .arr (List.map Vl.Tree.c x.els)], .elems 6 (List.map Vl.Tree.c out)]⟩ (hold Q .mk))
    ?_
  · intro _f_impl_subtrees_l1 ih_impl_subtrees_l1 out i o hF
    intro c hc Q hq
    obtain rfl : c = _ := navEq hc rfl
    refine ALoopU.know fun hk hs => ?_
    have b7 := hk 7
    simp -dsimp at b7
    have d0 := hs 0 _ rfl
    simp -dsimp [Blk.bnd] at d0
    have d1 := hs 1 _ rfl
    simp -dsimp [Blk.bnd] at d1
    clear hk hs
    refine ALoopU.enter ?_
    simp -dsimp
    repeat (refine chk.go (by first | omega | assumption | (simp_all; done) | (simp_all; omega)) ?_; simp -dsimp)
    refine abr.split (fun h1 => ?_) (fun h1 => ?_)
    · have q2 : (i < x.branches.length) := by first | exact h1 | omega | (simpa using h1) | (simp at h1 ⊢; omega) | simp_all
      have z3 : ((i : Int) < (x.branches.length : Int)) := by first | omega | simp_all
      rw [if_pos q2] at hF
      have hF := ob hF; obtain ⟨x4, e5, hF⟩ := hF
      have le5 := lt_of_get e5
      have hF := oc hF; obtain ⟨c6, hF⟩ := hF
      have w7 : IntKind.i64.wrap ((i : Int) + 1) = (i : Int) + 1 := wrap_in (by omega) (by omega)
      simp -dsimp [h1, z3, ↓e5, w7]
      repeat (refine chk.go (by first | omega | assumption | (simp_all; done) | (simp_all; omega)) ?_; simp -dsimp [h1, z3, ↓e5, w7])
      refine Again.go ⟨[(1, .ptr 0 0), (3, .own 1 (List.length (α := Vl.Tree) (out ++ [x4.tree]))), (7, .arr (List.map Vl.Branch.c x.branches)), (8, .lit (.int .i64 (x.branches.length : Int))), (9, .lit (.int .i64 ((i + 1) : Int)))], [.cells [.lit (.int .i64 x.op), .lit (.int .i64 x.clause), .arr (List.map Vl.PathBind.c x.binds), .arr (List.map cI x.path), .arr (List.map Vl.Branch.c x.branches), .arr (List.map Vl.Tree.c x.els)], .elems 6 (List.map Vl.Tree.c (out ++ [x4.tree]))]⟩ (Gh.to (by simp) (by simp -dsimp) (by simp -dsimp) (by simp -dsimp)) ?_
      exact (ih_impl_subtrees_l1 (out ++ [x4.tree]) (i + 1) o hF) _ rfl _ hq
    · have q2 : ¬ (i < x.branches.length) := by first | exact h1 | omega | (simpa using h1) | (simp at h1 ⊢; omega) | simp_all
      have z3 : ¬ ((i : Int) < (x.branches.length : Int)) := by first | omega | simp_all
      rw [if_neg q2] at hF
      cases hF
      simp -dsimp [h1, q2, z3]
      repeat (refine chk.go (by first | omega | assumption | (simp_all; done) | (simp_all; omega)) ?_; simp -dsimp [h1, q2, z3])
      refine Leave.go ⟨[(1, .ptr 0 0), (3, .own 1 (List.length (α := Vl.Tree) out))], [.cells [.lit (.int .i64 x.op), .lit (.int .i64 x.clause), .arr (List.map Vl.PathBind.c x.binds), .arr (List.map cI x.path), .arr (List.map Vl.Branch.c x.branches), .arr (List.map Vl.Tree.c x.els)], .elems 6 (List.map Vl.Tree.c out)]⟩ (Gh.to (by simp) (by simp -dsimp) (by simp -dsimp) (by simp -dsimp)) ?_
      exact hq

theorem C.impl_subtrees_l1 (B : Nat) (hB1 : 67108864 ≤ B) (hB2 : B ≤ 9223372036854775807) (x : Vl.Tree) (out : List Vl.Tree) (i : Nat) (o : List Vl.Tree) (hF : F.impl_subtrees_l1 x out i = some o) : ∀ (c : Code), navO [1, 1, 0, 1, 0, 0] (bodyOf Try.f41) = some c → ∀ (Q : Exit → ASt → Prop), Q (.exit 0) ⟨[(1, .ptr 0 0), (3, .own 1 (List.length (α := Vl.Tree) o))], [.cells [.lit (.int .i64 x.op), .lit (.int .i64 x.clause), .arr (List.map Vl.PathBind.c x.binds), .arr (List.map cI x.path), .arr (List.map Vl.Branch.c x.branches), .arr (List.map Vl.Tree.c x.els)], .elems 6 (List.map Vl.Tree.c o)]⟩ → ALoopU Try.prog B 0 23 (hold c .mk) ⟨[(1, .ptr 0 0), (3, .own 1 (List.length (α := Vl.Tree) out)), (7, .arr (List.map Vl.Branch.c x.branches)), (8, .lit (.int .i64 (x.branches.length : Int))), (9, .lit (.int .i64 (i : Int)))], [.cells [.lit (.int .i64 x.op), .lit (.int .i64 x.clause), .arr (List.map Vl.PathBind.c x.binds), .arr (List.map cI x.path), .arr (List.map Vl.Branch.c x.branches), .arr (List.map Vl.Tree.c x.els)], .elems 6 (List.map Vl.Tree.c out)]⟩ (hold Q .mk) :=
  (CC.impl_subtrees_l1 B hB1 hB2 x) out i o hF

set_option maxRecDepth 100000 in
set_option maxHeartbeats 400000 in
theorem C.impl_subtrees (B : Nat) (hB1 : 67108864 ≤ B) (hB2 : B ≤ 9223372036854775807) (x : Vl.Tree) (r : List Vl.Tree) (hF : F.impl_subtrees x = some r) : PureCall Try.prog B 41 [.agg [.lit (.int .i64 x.op), .lit (.int .i64 x.clause), .arr (List.map Vl.PathBind.c x.binds), .arr (List.map cI x.path), .arr (List.map Vl.Branch.c x.branches), .arr (List.map Vl.Tree.c x.els)]] (.arr (List.map Vl.Tree.c r)) := by
  unfold F.impl_subtrees at hF
  refine PureCall.enterLe Try.func41 (by kernel_rfl) rfl Try.ntmps41 (by simp) (by simp) ?_
  simp -dsimp
  repeat (refine chk.go (by first | omega | assumption | (simp_all; done) | (simp_all; omega)) ?_; simp -dsimp)
  have hF := ob hF; obtain ⟨o, ho8, hF⟩ := hF
  refine ALoop.goU ⟨[(1, .ptr 0 0), (3, .own 1 (List.length (α := Vl.Tree) [])), (7, .arr (List.map Vl.Branch.c x.branches)), (8, .lit (.int .i64 (x.branches.length : Int))), (9, .lit (.int .i64 (0 : Int)))], [.cells [.lit (.int .i64 x.op), .lit (.int .i64 x.clause), .arr (List.map Vl.PathBind.c x.binds), .arr (List.map cI x.path), .arr (List.map Vl.Branch.c x.branches), .arr (List.map Vl.Tree.c x.els)], .elems 6 (List.map Vl.Tree.c [])]⟩ ((Gh.nil 3 6 (by simp -dsimp)).trans (Gh.to (by simp) (by simp -dsimp) (by simp -dsimp) (by simp -dsimp))) ?_
  refine (C.impl_subtrees_l1 B hB1 hB2 x [] 0 o ho8) _ rfl _ ?_
  have hF := oc hF; obtain ⟨c9, hF⟩ := hF
  cases hF
  simp -dsimp
  repeat (refine chk.go (by first | omega | assumption | (simp_all; done) | (simp_all; omega)) ?_; simp -dsimp)

set_option maxRecDepth 100000 in
set_option maxHeartbeats 400000 in
theorem CC.impl_TreeTests (B : Nat) (hB1 : 67108864 ≤ B) (hB2 : B ≤ 9223372036854775807)  : (∀ (x : Vl.Tree) (r : Int), F.impl_TreeTests x = some r → PureCall Try.prog B 12 [.agg [.lit (.int .i64 x.op), .lit (.int .i64 x.clause), .arr (List.map Vl.PathBind.c x.binds), .arr (List.map cI x.path), .arr (List.map Vl.Branch.c x.branches), .arr (List.map Vl.Tree.c x.els)]] (.lit (.int .i64 r))) ∧
    (∀ (x : Vl.Tree) (v : List Vl.Tree) (n : Int) (i : Nat) (o : Int), F.impl_TreeTests_l1 x v n i = some o → ∀ (c : Code), navO [1, 1, 0, 1, 0, 0] (bodyOf Try.f12) = some c → ∀ (Q : Exit → ASt → Prop), Q (.exit 0) ⟨[(1, .ptr 0 0), (3, .lit (.int .i64 o))], [.cells [.lit (.int .i64 x.op), .lit (.int .i64 x.clause), .arr (List.map Vl.PathBind.c x.binds), .arr (List.map cI x.path), .arr (List.map Vl.Branch.c x.branches), .arr (List.map Vl.Tree.c x.els)]]⟩ → ALoopU Try.prog B 0 24 (hold c .mk) ⟨[(1, .ptr 0 0), (3, .lit (.int .i64 n)), (7, .arr (List.map Vl.Tree.c v)), (8, .lit (.int .i64 (v.length : Int))), (9, .lit (.int .i64 (i : Int)))], [.cells [.lit (.int .i64 x.op), .lit (.int .i64 x.clause), .arr (List.map Vl.PathBind.c x.binds), .arr (List.map cI x.path), .arr (List.map Vl.Branch.c x.branches), .arr (List.map Vl.Tree.c x.els)]]⟩ (hold Q .mk)) := by
  refine F.impl_TreeTests.mutual_partial_correctness 
    (fun x r => PureCall Try.prog B 12 [.agg [.lit (.int .i64 x.op), .lit (.int .i64 x.clause), .arr (List.map Vl.PathBind.c x.binds), .arr (List.map cI x.path), .arr (List.map Vl.Branch.c x.branches), .arr (List.map Vl.Tree.c x.els)]] (.lit (.int .i64 r)))
    (fun x v n i o => ∀ (c : Code), navO [1, 1, 0, 1, 0, 0] (bodyOf Try.f12) = some c → ∀ (Q : Exit → ASt → Prop), Q (.exit 0) ⟨[(1, .ptr 0 0), (3, .lit (.int .i64 o))], [.cells [.lit (.int .i64 x.op), .lit (.int .i64 x.clause), .arr (List.map Vl.PathBind.c x.binds), .arr (List.map cI x.path), .arr (List.map Vl.Branch.c x.branches), .arr (List.map Vl.Tree.c x.els)]]⟩ → ALoopU Try.prog B 0 24 (hold c .mk) ⟨[(1, .ptr 0 0), (3, .lit (.int .i64 n)), (7, .arr (List.map Vl.Tree.c v)), (8, .lit (.int .i64 (v.length : Int))), (9, .lit (.int .i64 (i : Int)))], [.cells [.lit (.int .i64 x.op), .lit (.int .i64 x.clause), .arr (List.map Vl.PathBind.c x.binds), .arr (List.map cI x.path), .arr (List.map Vl.Branch.c x.branches), .arr (List.map Vl.Tree.c x.els)]]⟩ (hold Q .mk))
    ?_ ?_
  · intro _f_impl_TreeTests_l1 ih_impl_TreeTests_l1 x r hF
    refine PureCall.enterLe Try.func12 (by kernel_rfl) rfl Try.ntmps12 (by simp) (by simp) ?_
    simp -dsimp
    repeat (refine chk.go (by first | omega | assumption | (simp_all; done) | (simp_all; omega)) ?_; simp -dsimp)
    have hF := ob hF; obtain ⟨v, e1, hF⟩ := hF
    refine ((C.impl_subtrees B hB1 hB2 x v e1)).goW (by simp) (by simp) ?_
    simp -dsimp
    repeat (refine chk.go (by first | omega | assumption | (simp_all; done) | (simp_all; omega)) ?_; simp -dsimp)
    have hF := ob hF; obtain ⟨o, ho10, hF⟩ := hF
    refine ALoop.goU ⟨[(1, .ptr 0 0), (3, .lit (.int .i64 (0 : Int))), (7, .arr (List.map Vl.Tree.c v)), (8, .lit (.int .i64 (v.length : Int))), (9, .lit (.int .i64 (0 : Int)))], [.cells [.lit (.int .i64 x.op), .lit (.int .i64 x.clause), .arr (List.map Vl.PathBind.c x.binds), .arr (List.map cI x.path), .arr (List.map Vl.Branch.c x.branches), .arr (List.map Vl.Tree.c x.els)]]⟩ (Gh.to (by simp) (by simp -dsimp) (by simp -dsimp) (by simp -dsimp)) ?_
    refine (ih_impl_TreeTests_l1 x v (0 : Int) 0 o ho10) _ rfl _ ?_
    simp -dsimp
    repeat (refine chk.go (by first | omega | assumption | (simp_all; done) | (simp_all; omega)) ?_; simp -dsimp)
    refine abr.split (fun h11 => ?_) (fun h11 => ?_)
    · have q12 : (x.op = 2) := by first | exact h11 | omega | (simpa using h11) | (simp at h11 ⊢; omega) | simp_all
      rw [if_pos q12] at hF
      cases hF
      simp -dsimp [h11]
      repeat (refine chk.go (by first | omega | assumption | (simp_all; done) | (simp_all; omega)) ?_; simp -dsimp [h11])
    · have q12 : ¬ (x.op = 2) := by first | exact h11 | omega | (simpa using h11) | (simp at h11 ⊢; omega) | simp_all
      rw [if_neg q12] at hF
      cases hF
      simp -dsimp [h11, q12]
      repeat (refine chk.go (by first | omega | assumption | (simp_all; done) | (simp_all; omega)) ?_; simp -dsimp [h11, q12])
  · intro _f_impl_TreeTests _f_impl_TreeTests_l1 ih_impl_TreeTests ih_impl_TreeTests_l1 x v n i o hF
    intro c hc Q hq
    obtain rfl : c = _ := navEq hc rfl
    refine ALoopU.know fun hk hs => ?_
    have b7 := hk 7
    simp -dsimp at b7
    have d0 := hs 0 _ rfl
    simp -dsimp [Blk.bnd] at d0
    clear hk hs
    refine ALoopU.enter ?_
    simp -dsimp
    repeat (refine chk.go (by first | omega | assumption | (simp_all; done) | (simp_all; omega)) ?_; simp -dsimp)
    refine abr.split (fun h2 => ?_) (fun h2 => ?_)
    · have q3 : (i < v.length) := by first | exact h2 | omega | (simpa using h2) | (simp at h2 ⊢; omega) | simp_all
      have z4 : ((i : Int) < (v.length : Int)) := by first | omega | simp_all
      rw [if_pos q3] at hF
      have hF := ob hF; obtain ⟨x5, e6, hF⟩ := hF
      have le6 := lt_of_get e6
      simp -dsimp [h2, z4, ↓e6]
      repeat (refine chk.go (by first | omega | assumption | (simp_all; done) | (simp_all; omega)) ?_; simp -dsimp [h2, z4, ↓e6])
      have hF := ob hF; obtain ⟨v7, e8, hF⟩ := hF
      refine ((ih_impl_TreeTests x5 v7 e8)).goW (by simp) (by simp) ?_
      have w9 : IntKind.i64.wrap ((i : Int) + 1) = (i : Int) + 1 := wrap_in (by omega) (by omega)
      simp -dsimp [h2, z4, ↓e6, w9]
      repeat (refine chk.go (by first | omega | assumption | (simp_all; done) | (simp_all; omega)) ?_; simp -dsimp [h2, z4, ↓e6, w9])
      refine Again.go ⟨[(1, .ptr 0 0), (3, .lit (.int .i64 (if v7 > n then v7 else n))), (7, .arr (List.map Vl.Tree.c v)), (8, .lit (.int .i64 (v.length : Int))), (9, .lit (.int .i64 ((i + 1) : Int)))], [.cells [.lit (.int .i64 x.op), .lit (.int .i64 x.clause), .arr (List.map Vl.PathBind.c x.binds), .arr (List.map cI x.path), .arr (List.map Vl.Branch.c x.branches), .arr (List.map Vl.Tree.c x.els)]]⟩ (Gh.to (by simp) (by simp -dsimp) (by simp -dsimp) (by simp -dsimp)) ?_
      exact (ih_impl_TreeTests_l1 x v (if v7 > n then v7 else n) (i + 1) o hF) _ rfl _ hq
    · have q3 : ¬ (i < v.length) := by first | exact h2 | omega | (simpa using h2) | (simp at h2 ⊢; omega) | simp_all
      have z4 : ¬ ((i : Int) < (v.length : Int)) := by first | omega | simp_all
      rw [if_neg q3] at hF
      cases hF
      simp -dsimp [h2, q3, z4]
      repeat (refine chk.go (by first | omega | assumption | (simp_all; done) | (simp_all; omega)) ?_; simp -dsimp [h2, q3, z4])
      refine Leave.go ⟨[(1, .ptr 0 0), (3, .lit (.int .i64 n))], [.cells [.lit (.int .i64 x.op), .lit (.int .i64 x.clause), .arr (List.map Vl.PathBind.c x.binds), .arr (List.map cI x.path), .arr (List.map Vl.Branch.c x.branches), .arr (List.map Vl.Tree.c x.els)]]⟩ (Gh.to (by simp) (by simp -dsimp) (by simp -dsimp) (by simp -dsimp)) ?_
      exact hq

theorem C.impl_TreeTests (B : Nat) (hB1 : 67108864 ≤ B) (hB2 : B ≤ 9223372036854775807) (x : Vl.Tree) (r : Int) (hF : F.impl_TreeTests x = some r) : PureCall Try.prog B 12 [.agg [.lit (.int .i64 x.op), .lit (.int .i64 x.clause), .arr (List.map Vl.PathBind.c x.binds), .arr (List.map cI x.path), .arr (List.map Vl.Branch.c x.branches), .arr (List.map Vl.Tree.c x.els)]] (.lit (.int .i64 r)) :=
  (CC.impl_TreeTests B hB1 hB2 ).1 x r hF

theorem C.impl_TreeTests_l1 (B : Nat) (hB1 : 67108864 ≤ B) (hB2 : B ≤ 9223372036854775807) (x : Vl.Tree) (v : List Vl.Tree) (n : Int) (i : Nat) (o : Int) (hF : F.impl_TreeTests_l1 x v n i = some o) : ∀ (c : Code), navO [1, 1, 0, 1, 0, 0] (bodyOf Try.f12) = some c → ∀ (Q : Exit → ASt → Prop), Q (.exit 0) ⟨[(1, .ptr 0 0), (3, .lit (.int .i64 o))], [.cells [.lit (.int .i64 x.op), .lit (.int .i64 x.clause), .arr (List.map Vl.PathBind.c x.binds), .arr (List.map cI x.path), .arr (List.map Vl.Branch.c x.branches), .arr (List.map Vl.Tree.c x.els)]]⟩ → ALoopU Try.prog B 0 24 (hold c .mk) ⟨[(1, .ptr 0 0), (3, .lit (.int .i64 n)), (7, .arr (List.map Vl.Tree.c v)), (8, .lit (.int .i64 (v.length : Int))), (9, .lit (.int .i64 (i : Int)))], [.cells [.lit (.int .i64 x.op), .lit (.int .i64 x.clause), .arr (List.map Vl.PathBind.c x.binds), .arr (List.map cI x.path), .arr (List.map Vl.Branch.c x.branches), .arr (List.map Vl.Tree.c x.els)]]⟩ (hold Q .mk) :=
  (CC.impl_TreeTests B hB1 hB2 ).2 x v n i o hF

set_option maxRecDepth 100000 in
set_option maxHeartbeats 400000 in
theorem CC.laws_eqIntS_l1 (B : Nat) (hB1 : 67108864 ≤ B) (hB2 : B ≤ 9223372036854775807) (a : List Int) (b : List Int) : (∀ (i : Nat) (o : Lo Bool Unit), F.laws_eqIntS_l1 a b i = some o → ∀ (c : Code), navO [1, 1, 0, 1, 0, 0] (bodyOf Try.f23) = some c → ∀ (Q : Exit → ASt → Prop), o.post (fun r => ∀ st, Post Try.prog Try.f23 (fun r' _ => r'.le (.lit (.bool r))) .ret st → Q .ret st) (fun s => Q (.exit 0) ⟨[], []⟩) → ALoopU Try.prog B 0 26 (hold c .mk) ⟨[(0, .arr (List.map cI a)), (1, .arr (List.map cI b)), (5, .lit (.int .i64 (i : Int)))], []⟩ (hold Q .mk)) := by
  refine F.laws_eqIntS_l1.partial_correctness a b
    (fun i o => ∀ (c : Code), navO [1, 1, 0, 1, 0, 0] (bodyOf Try.f23) = some c → ∀ (Q : Exit → ASt → Prop), o.post (fun r => ∀ st, Post Try.prog Try.f23 (fun r' _ => r'.le (.lit (.bool r))) .ret st → Q .ret st) (fun s => Q (.exit 0) ⟨[], []⟩) → ALoopU Try.prog B 0 26 (hold c .mk) ⟨[(0, .arr (List.map cI a)), (1, .arr (List.map cI b)), (5, .lit (.int .i64 (i : Int)))], []⟩ (hold Q .mk))
    ?_
  · intro _f_laws_eqIntS_l1 ih_laws_eqIntS_l1 i o hF
    intro c hc Q hq
    obtain rfl : c = _ := navEq hc rfl
    refine ALoopU.know fun hk hs => ?_
    have b0 := hk 0
    simp -dsimp at b0
    have b1 := hk 1
    simp -dsimp at b1
    clear hk hs
    refine ALoopU.enter ?_
    simp -dsimp
    repeat (refine chk.go (by first | omega | assumption | (simp_all; done) | (simp_all; omega)) ?_; simp -dsimp)
    refine abr.split (fun h4 => ?_) (fun h4 => ?_)
    · have q5 : (i < a.length) := by first | exact h4 | omega | (simpa using h4) | (simp at h4 ⊢; omega) | simp_all
      have z6 : ((i : Int) < (a.length : Int)) := by first | omega | simp_all
      rw [if_pos q5] at hF
      simp -dsimp [h4, z6]
      repeat (refine chk.go (by first | omega | assumption | (simp_all; done) | (simp_all; omega)) ?_; simp -dsimp [h4, z6])
      refine ADraw.simple follows (by kernel_rfl) (by kernel_rfl) ?_
      have hF := ob hF; obtain ⟨x, e7, hF⟩ := hF
      have le7 := lt_of_get e7
      have hF := ob hF; obtain ⟨x8, e9, hF⟩ := hF
      have le9 := lt_of_get e9
      simp -dsimp [h4, z6, ↓e7, ↓e9]
      repeat (refine chk.go (by first | omega | assumption | (simp_all; done) | (simp_all; omega)) ?_; simp -dsimp [h4, z6, ↓e7, ↓e9])
      refine abr.split (fun h10 => ?_) (fun h10 => ?_)
      · have q11 : ¬ (x = x8) := by first | exact h10 | omega | (simpa using h10) | (simp at h10 ⊢; omega) | simp_all
        rw [if_neg q11] at hF
        cases hF
        simp -dsimp [h4, z6, ↓e7, ↓e9, h10, q11]
        repeat (refine chk.go (by first | omega | assumption | (simp_all; done) | (simp_all; omega)) ?_; simp -dsimp [h4, z6, ↓e7, ↓e9, h10, q11])
        refine Leave.go _ (Gh.refl _) (hq _ ?_)
        simp -dsimp [h4, z6, ↓e7, ↓e9, h10, q11]
        repeat (refine chk.go (by first | omega | assumption | (simp_all; done) | (simp_all; omega)) ?_; simp -dsimp [h4, z6, ↓e7, ↓e9, h10, q11])
      · have q11 : (x = x8) := by first | exact h10 | omega | (simpa using h10) | (simp at h10 ⊢; omega) | simp_all
        rw [if_pos q11] at hF
        have w12 : IntKind.i64.wrap ((i : Int) + 1) = (i : Int) + 1 := wrap_in (by omega) (by omega)
        simp -dsimp [h4, z6, ↓e7, ↓e9, h10, q11, w12]
        repeat (refine chk.go (by first | omega | assumption | (simp_all; done) | (simp_all; omega)) ?_; simp -dsimp [h4, z6, ↓e7, ↓e9, h10, q11, w12])
        refine Again.go ⟨[(0, .arr (List.map cI a)), (1, .arr (List.map cI b)), (5, .lit (.int .i64 ((i + 1) : Int)))], []⟩ (Gh.to (by simp) (by simp -dsimp) (by simp -dsimp) (by simp -dsimp)) ?_
        exact (ih_laws_eqIntS_l1 (i + 1) o hF) _ rfl _ hq
    · have q5 : ¬ (i < a.length) := by first | exact h4 | omega | (simpa using h4) | (simp at h4 ⊢; omega) | simp_all
      have z6 : ¬ ((i : Int) < (a.length : Int)) := by first | omega | simp_all
      rw [if_neg q5] at hF
      cases hF
      simp -dsimp [h4, q5, z6]
      repeat (refine chk.go (by first | omega | assumption | (simp_all; done) | (simp_all; omega)) ?_; simp -dsimp [h4, q5, z6])
      refine Leave.go ⟨[], []⟩ (Gh.to (by simp) (by simp -dsimp) (by simp -dsimp) (by simp -dsimp)) ?_
      exact hq

theorem C.laws_eqIntS_l1 (B : Nat) (hB1 : 67108864 ≤ B) (hB2 : B ≤ 9223372036854775807) (a : List Int) (b : List Int) (i : Nat) (o : Lo Bool Unit) (hF : F.laws_eqIntS_l1 a b i = some o) : ∀ (c : Code), navO [1, 1, 0, 1, 0, 0] (bodyOf Try.f23) = some c → ∀ (Q : Exit → ASt → Prop), o.post (fun r => ∀ st, Post Try.prog Try.f23 (fun r' _ => r'.le (.lit (.bool r))) .ret st → Q .ret st) (fun s => Q (.exit 0) ⟨[], []⟩) → ALoopU Try.prog B 0 26 (hold c .mk) ⟨[(0, .arr (List.map cI a)), (1, .arr (List.map cI b)), (5, .lit (.int .i64 (i : Int)))], []⟩ (hold Q .mk) :=
  (CC.laws_eqIntS_l1 B hB1 hB2 a b) i o hF

set_option maxRecDepth 100000 in
set_option maxHeartbeats 400000 in
theorem C.laws_eqIntS (B : Nat) (hB1 : 67108864 ≤ B) (hB2 : B ≤ 9223372036854775807) (a : List Int) (b : List Int) (r : Bool) (hF : F.laws_eqIntS a b = some r) : PureCall Try.prog B 23 [.arr (List.map cI a), .arr (List.map cI b)] (.lit (.bool r)) := by
  unfold F.laws_eqIntS at hF
  refine PureCall.enterLe Try.func23 (by kernel_rfl) rfl Try.ntmps23 (by simp) (by simp) ?_
  simp -dsimp
  repeat (refine chk.go (by first | omega | assumption | (simp_all; done) | (simp_all; omega)) ?_; simp -dsimp)
  refine abr.split (fun h1 => ?_) (fun h1 => ?_)
  · have q2 : ¬ (a.length = b.length) := by first | exact h1 | omega | (simpa using h1) | (simp at h1 ⊢; omega) | simp_all
    have z3 : ¬ ((a.length : Int) = (b.length : Int)) := by first | omega | simp_all
    rw [if_neg q2] at hF
    cases hF
    simp -dsimp [h1, q2, z3]
    repeat (refine chk.go (by first | omega | assumption | (simp_all; done) | (simp_all; omega)) ?_; simp -dsimp [h1, q2, z3])
  · have q2 : (a.length = b.length) := by first | exact h1 | omega | (simpa using h1) | (simp at h1 ⊢; omega) | simp_all
    have z3 : ((a.length : Int) = (b.length : Int)) := by first | omega | simp_all
    rw [if_pos q2] at hF
    simp -dsimp [h1, q2, z3]
    repeat (refine chk.go (by first | omega | assumption | (simp_all; done) | (simp_all; omega)) ?_; simp -dsimp [h1, q2, z3])
    have hF := ob hF; obtain ⟨o, ho13, hF⟩ := hF
    refine ALoop.goU ⟨[(0, .arr (List.map cI a)), (1, .arr (List.map cI b)), (5, .lit (.int .i64 (0 : Int)))], []⟩ (Gh.to (by simp) (by simp -dsimp) (by simp -dsimp) (by simp -dsimp)) ?_
    refine (C.laws_eqIntS_l1 B hB1 hB2 a b 0 o ho13) _ rfl _ ?_
    rcases o with r0 | s
    · dsimp only at hF
      cases hF
      intro st h
      simpa using h
    · dsimp only at hF
      cases hF
      simp -dsimp
      repeat (refine chk.go (by first | omega | assumption | (simp_all; done) | (simp_all; omega)) ?_; simp -dsimp)

set_option maxRecDepth 100000 in
set_option maxHeartbeats 400000 in
theorem C.laws_eqPathBind (B : Nat) (hB1 : 67108864 ≤ B) (hB2 : B ≤ 9223372036854775807) (a : Vl.PathBind) (b : Vl.PathBind) (r : Bool) (hF : F.laws_eqPathBind a b = some r) : PureCall Try.prog B 72 [.agg [.lit (.int .i64 a.var), .arr (List.map cI a.path)], .agg [.lit (.int .i64 b.var), .arr (List.map cI b.path)]] (.lit (.bool r)) := by
  unfold F.laws_eqPathBind at hF
  refine PureCall.enterLe Try.func72 (by kernel_rfl) rfl Try.ntmps72 (by simp) (by simp) ?_
  simp -dsimp
  repeat (refine chk.go (by first | omega | assumption | (simp_all; done) | (simp_all; omega)) ?_; simp -dsimp)
  refine abr.split (fun h1 => ?_) (fun h1 => ?_)
  · have q2 : ¬ (a.var = b.var) := by first | exact h1 | omega | (simpa using h1) | (simp at h1 ⊢; omega) | simp_all
    rw [if_neg q2] at hF
    cases hF
    simp -dsimp [h1, q2]
    repeat (refine chk.go (by first | omega | assumption | (simp_all; done) | (simp_all; omega)) ?_; simp -dsimp [h1, q2])
  · have q2 : (a.var = b.var) := by first | exact h1 | omega | (simpa using h1) | (simp at h1 ⊢; omega) | simp_all
    rw [if_pos q2] at hF
    simp -dsimp [h1, q2]
    repeat (refine chk.go (by first | omega | assumption | (simp_all; done) | (simp_all; omega)) ?_; simp -dsimp [h1, q2])
    have hF := ob hF; obtain ⟨v, e3, hF⟩ := hF
    refine ((C.laws_eqIntS B hB1 hB2 a.path b.path v e3)).goW (by simp) (by simp) ?_
    simp -dsimp [h1, q2]
    repeat (refine chk.go (by first | omega | assumption | (simp_all; done) | (simp_all; omega)) ?_; simp -dsimp [h1, q2])
    refine abr.split (fun h4 => ?_) (fun h4 => ?_)
    · have q5 : ¬ (v = true) := by first | exact h4 | omega | (simpa using h4) | (simp at h4 ⊢; omega) | simp_all
      rw [if_neg q5] at hF
      cases hF
      simp -dsimp [h1, q2, h4, q5]
      repeat (refine chk.go (by first | omega | assumption | (simp_all; done) | (simp_all; omega)) ?_; simp -dsimp [h1, q2, h4, q5])
    · have q5 : (v = true) := by first | exact h4 | omega | (simpa using h4) | (simp at h4 ⊢; omega) | simp_all
      rw [if_pos q5] at hF
      cases hF
      simp -dsimp [h1, q2, h4, q5]
      repeat (refine chk.go (by first | omega | assumption | (simp_all; done) | (simp_all; omega)) ?_; simp -dsimp [h1, q2, h4, q5])

set_option maxRecDepth 100000 in
set_option maxHeartbeats 400000 in
theorem CC.laws_eqPathBindS_l1 (B : Nat) (hB1 : 67108864 ≤ B) (hB2 : B ≤ 9223372036854775807) (a : List Vl.PathBind) (b : List Vl.PathBind) : (∀ (i : Nat) (o : Lo Bool Unit), F.laws_eqPathBindS_l1 a b i = some o → ∀ (c : Code), navO [1, 1, 0, 1, 0, 0] (bodyOf Try.f42) = some c → ∀ (Q : Exit → ASt → Prop), o.post (fun r => ∀ st, Post Try.prog Try.f42 (fun r' _ => r'.le (.lit (.bool r))) .ret st → Q .ret st) (fun s => Q (.exit 0) ⟨[], []⟩) → ALoopU Try.prog B 0 27 (hold c .mk) ⟨[(0, .arr (List.map Vl.PathBind.c a)), (1, .arr (List.map Vl.PathBind.c b)), (5, .lit (.int .i64 (i : Int)))], []⟩ (hold Q .mk)) := by
  refine F.laws_eqPathBindS_l1.partial_correctness a b
    (fun i o => ∀ (c : Code), navO [1, 1, 0, 1, 0, 0] (bodyOf Try.f42) = some c → ∀ (Q : Exit → ASt → Prop), o.post (fun r => ∀ st, Post Try.prog Try.f42 (fun r' _ => r'.le (.lit (.bool r))) .ret st → Q .ret st) (fun s => Q (.exit 0) ⟨[], []⟩) → ALoopU Try.prog B 0 27 (hold c .mk) ⟨[(0, .arr (List.map Vl.PathBind.c a)), (1, .arr (List.map Vl.PathBind.c b)), (5, .lit (.int .i64 (i : Int)))], []⟩ (hold Q .mk))
    ?_
  · intro _f_laws_eqPathBindS_l1 ih_laws_eqPathBindS_l1 i o hF
    intro c hc Q hq
    obtain rfl : c = _ := navEq hc rfl
    refine ALoopU.know fun hk hs => ?_
    have b0 := hk 0
    simp -dsimp at b0
    have b1 := hk 1
    simp -dsimp at b1
    clear hk hs
    refine ALoopU.enter ?_
    simp -dsimp
    repeat (refine chk.go (by first | omega | assumption | (simp_all; done) | (simp_all; omega)) ?_; simp -dsimp)
    refine abr.split (fun h4 => ?_) (fun h4 => ?_)
    · have q5 : (i < a.length) := by first | exact h4 | omega | (simpa using h4) | (simp at h4 ⊢; omega) | simp_all
      have z6 : ((i : Int) < (a.length : Int)) := by first | omega | simp_all
      rw [if_pos q5] at hF
      simp -dsimp [h4, z6]
      repeat (refine chk.go (by first | omega | assumption | (simp_all; done) | (simp_all; omega)) ?_; simp -dsimp [h4, z6])
      refine ADraw.simple follows (by kernel_rfl) (by kernel_rfl) ?_
      have hF := ob hF; obtain ⟨x, e7, hF⟩ := hF
      have le7 := lt_of_get e7
      have hF := ob hF; obtain ⟨x8, e9, hF⟩ := hF
      have le9 := lt_of_get e9
      simp -dsimp [h4, z6, ↓e7, ↓e9]
      repeat (refine chk.go (by first | omega | assumption | (simp_all; done) | (simp_all; omega)) ?_; simp -dsimp [h4, z6, ↓e7, ↓e9])
      have hF := ob hF; obtain ⟨v, e10, hF⟩ := hF
      refine ((C.laws_eqPathBind B hB1 hB2 x x8 v e10)).pgoW (by simp) (by simp) ?_
      simp -dsimp [h4, z6, ↓e7, ↓e9]
      repeat (refine chk.go (by first | omega | assumption | (simp_all; done) | (simp_all; omega)) ?_; simp -dsimp [h4, z6, ↓e7, ↓e9])
      refine abr.split (fun h11 => ?_) (fun h11 => ?_)
      · have q12 : ¬ (v = true) := by first | exact h11 | omega | (simpa using h11) | (simp at h11 ⊢; omega) | simp_all
        rw [if_neg q12] at hF
        cases hF
        simp -dsimp [h4, z6, ↓e7, ↓e9, h11, q12]
        repeat (refine chk.go (by first | omega | assumption | (simp_all; done) | (simp_all; omega)) ?_; simp -dsimp [h4, z6, ↓e7, ↓e9, h11, q12])
        refine Leave.go _ (Gh.refl _) (hq _ ?_)
        simp -dsimp [h4, z6, ↓e7, ↓e9, h11, q12]
        repeat (refine chk.go (by first | omega | assumption | (simp_all; done) | (simp_all; omega)) ?_; simp -dsimp [h4, z6, ↓e7, ↓e9, h11, q12])
      · have q12 : (v = true) := by first | exact h11 | omega | (simpa using h11) | (simp at h11 ⊢; omega) | simp_all
        rw [if_pos q12] at hF
        have w13 : IntKind.i64.wrap ((i : Int) + 1) = (i : Int) + 1 := wrap_in (by omega) (by omega)
        simp -dsimp [h4, z6, ↓e7, ↓e9, h11, q12, w13]
        repeat (refine chk.go (by first | omega | assumption | (simp_all; done) | (simp_all; omega)) ?_; simp -dsimp [h4, z6, ↓e7, ↓e9, h11, q12, w13])
        refine Again.go ⟨[(0, .arr (List.map Vl.PathBind.c a)), (1, .arr (List.map Vl.PathBind.c b)), (5, .lit (.int .i64 ((i + 1) : Int)))], []⟩ (Gh.to (by simp) (by simp -dsimp) (by simp -dsimp) (by simp -dsimp)) ?_
        exact (ih_laws_eqPathBindS_l1 (i + 1) o hF) _ rfl _ hq
    · have q5 : ¬ (i < a.length) := by first | exact h4 | omega | (simpa using h4) | (simp at h4 ⊢; omega) | simp_all
      have z6 : ¬ ((i : Int) < (a.length : Int)) := by first | omega | simp_all
      rw [if_neg q5] at hF
      cases hF
      simp -dsimp [h4, q5, z6]
      repeat (refine chk.go (by first | omega | assumption | (simp_all; done) | (simp_all; omega)) ?_; simp -dsimp [h4, q5, z6])
      refine Leave.go ⟨[], []⟩ (Gh.to (by simp) (by simp -dsimp) (by simp -dsimp) (by simp -dsimp)) ?_
      exact hq

theorem C.laws_eqPathBindS_l1 (B : Nat) (hB1 : 67108864 ≤ B) (hB2 : B ≤ 9223372036854775807) (a : List Vl.PathBind) (b : List Vl.PathBind) (i : Nat) (o : Lo Bool Unit) (hF : F.laws_eqPathBindS_l1 a b i = some o) : ∀ (c : Code), navO [1, 1, 0, 1, 0, 0] (bodyOf Try.f42) = some c → ∀ (Q : Exit → ASt → Prop), o.post (fun r => ∀ st, Post Try.prog Try.f42 (fun r' _ => r'.le (.lit (.bool r))) .ret st → Q .ret st) (fun s => Q (.exit 0) ⟨[], []⟩) → ALoopU Try.prog B 0 27 (hold c .mk) ⟨[(0, .arr (List.map Vl.PathBind.c a)), (1, .arr (List.map Vl.PathBind.c b)), (5, .lit (.int .i64 (i : Int)))], []⟩ (hold Q .mk) :=
  (CC.laws_eqPathBindS_l1 B hB1 hB2 a b) i o hF

set_option maxRecDepth 100000 in
set_option maxHeartbeats 400000 in
theorem C.laws_eqPathBindS (B : Nat) (hB1 : 67108864 ≤ B) (hB2 : B ≤ 9223372036854775807) (a : List Vl.PathBind) (b : List Vl.PathBind) (r : Bool) (hF : F.laws_eqPathBindS a b = some r) : PureCall Try.prog B 42 [.arr (List.map Vl.PathBind.c a), .arr (List.map Vl.PathBind.c b)] (.lit (.bool r)) := by
  unfold F.laws_eqPathBindS at hF
  refine PureCall.enterLe Try.func42 (by kernel_rfl) rfl Try.ntmps42 (by simp) (by simp) ?_
  simp -dsimp
  repeat (refine chk.go (by first | omega | assumption | (simp_all; done) | (simp_all; omega)) ?_; simp -dsimp)
  refine abr.split (fun h1 => ?_) (fun h1 => ?_)
  · have q2 : ¬ (a.length = b.length) := by first | exact h1 | omega | (simpa using h1) | (simp at h1 ⊢; omega) | simp_all
    have z3 : ¬ ((a.length : Int) = (b.length : Int)) := by first | omega | simp_all
    rw [if_neg q2] at hF
    cases hF
    simp -dsimp [h1, q2, z3]
    repeat (refine chk.go (by first | omega | assumption | (simp_all; done) | (simp_all; omega)) ?_; simp -dsimp [h1, q2, z3])
  · have q2 : (a.length = b.length) := by first | exact h1 | omega | (simpa using h1) | (simp at h1 ⊢; omega) | simp_all
    have z3 : ((a.length : Int) = (b.length : Int)) := by first | omega | simp_all
    rw [if_pos q2] at hF
    simp -dsimp [h1, q2, z3]
    repeat (refine chk.go (by first | omega | assumption | (simp_all; done) | (simp_all; omega)) ?_; simp -dsimp [h1, q2, z3])
    have hF := ob hF; obtain ⟨o, ho14, hF⟩ := hF
    refine ALoop.goU ⟨[(0, .arr (List.map Vl.PathBind.c a)), (1, .arr (List.map Vl.PathBind.c b)), (5, .lit (.int .i64 (0 : Int)))], []⟩ (Gh.to (by simp) (by simp -dsimp) (by simp -dsimp) (by simp -dsimp)) ?_
    refine (C.laws_eqPathBindS_l1 B hB1 hB2 a b 0 o ho14) _ rfl _ ?_
    rcases o with r0 | s
    · dsimp only at hF
      cases hF
      intro st h
      simpa using h
    · dsimp only at hF
      cases hF
      simp -dsimp
      repeat (refine chk.go (by first | omega | assumption | (simp_all; done) | (simp_all; omega)) ?_; simp -dsimp)

set_option maxRecDepth 100000 in
set_option maxHeartbeats 400000 in
theorem CC.laws_eqBranch (B : Nat) (hB1 : 67108864 ≤ B) (hB2 : B ≤ 9223372036854775807)  : (∀ (a : Vl.Branch) (b : Vl.Branch) (r : Bool), F.laws_eqBranch a b = some r → PureCall Try.prog B 73 [.agg [.lit (.int .i64 a.ctor), .lit (.int .i64 a.n), .lit (.int .i64 a.m), .lit (.int .i64 a.tree.op), .lit (.int .i64 a.tree.clause), .arr (List.map Vl.PathBind.c a.tree.binds), .arr (List.map cI a.tree.path), .arr (List.map Vl.Branch.c a.tree.branches), .arr (List.map Vl.Tree.c a.tree.els)], .agg [.lit (.int .i64 b.ctor), .lit (.int .i64 b.n), .lit (.int .i64 b.m), .lit (.int .i64 b.tree.op), .lit (.int .i64 b.tree.clause), .arr (List.map Vl.PathBind.c b.tree.binds), .arr (List.map cI b.tree.path), .arr (List.map Vl.Branch.c b.tree.branches), .arr (List.map Vl.Tree.c b.tree.els)]] (.lit (.bool r))) ∧
    (∀ (a : Vl.Tree) (b : Vl.Tree) (r : Bool), F.laws_eqTree a b = some r → PureCall Try.prog B 13 [.agg [.lit (.int .i64 a.op), .lit (.int .i64 a.clause), .arr (List.map Vl.PathBind.c a.binds), .arr (List.map cI a.path), .arr (List.map Vl.Branch.c a.branches), .arr (List.map Vl.Tree.c a.els)], .agg [.lit (.int .i64 b.op), .lit (.int .i64 b.clause), .arr (List.map Vl.PathBind.c b.binds), .arr (List.map cI b.path), .arr (List.map Vl.Branch.c b.branches), .arr (List.map Vl.Tree.c b.els)]] (.lit (.bool r))) ∧
    (∀ (a : List Vl.Tree) (b : List Vl.Tree) (r : Bool), F.laws_eqTreeS a b = some r → PureCall Try.prog B 44 [.arr (List.map Vl.Tree.c a), .arr (List.map Vl.Tree.c b)] (.lit (.bool r))) ∧
    (∀ (a : List Vl.Tree) (b : List Vl.Tree) (i : Nat) (o : Lo Bool Unit), F.laws_eqTreeS_l1 a b i = some o → ∀ (c : Code), navO [1, 1, 0, 1, 0, 0] (bodyOf Try.f44) = some c → ∀ (Q : Exit → ASt → Prop), o.post (fun r => ∀ st, Post Try.prog Try.f44 (fun r' _ => r'.le (.lit (.bool r))) .ret st → Q .ret st) (fun s => Q (.exit 0) ⟨[], []⟩) → ALoopU Try.prog B 0 27 (hold c .mk) ⟨[(0, .arr (List.map Vl.Tree.c a)), (1, .arr (List.map Vl.Tree.c b)), (5, .lit (.int .i64 (i : Int)))], []⟩ (hold Q .mk)) ∧
    (∀ (a : List Vl.Branch) (b : List Vl.Branch) (r : Bool), F.laws_eqBranchS a b = some r → PureCall Try.prog B 43 [.arr (List.map Vl.Branch.c a), .arr (List.map Vl.Branch.c b)] (.lit (.bool r))) ∧
    (∀ (a : List Vl.Branch) (b : List Vl.Branch) (i : Nat) (o : Lo Bool Unit), F.laws_eqBranchS_l1 a b i = some o → ∀ (c : Code), navO [1, 1, 0, 1, 0, 0] (bodyOf Try.f43) = some c → ∀ (Q : Exit → ASt → Prop), o.post (fun r => ∀ st, Post Try.prog Try.f43 (fun r' _ => r'.le (.lit (.bool r))) .ret st → Q .ret st) (fun s => Q (.exit 0) ⟨[], []⟩) → ALoopU Try.prog B 0 27 (hold c .mk) ⟨[(0, .arr (List.map Vl.Branch.c a)), (1, .arr (List.map Vl.Branch.c b)), (5, .lit (.int .i64 (i : Int)))], []⟩ (hold Q .mk)) := by
  refine F.laws_eqBranch.mutual_partial_correctness 
    (fun a b r => PureCall Try.prog B 73 [.agg [.lit (.int .i64 a.ctor), .lit (.int .i64 a.n), .lit (.int .i64 a.m), .lit (.int .i64 a.tree.op), .lit (.int .i64 a.tree.clause), .arr (List.map Vl.PathBind.c a.tree.binds), .arr (List.map cI a.tree.path), .arr (List.map Vl.Branch.c a.tree.branches), .arr (List.map Vl.Tree.c a.tree.els)], .agg [.lit (.int .i64 b.ctor), .lit (.int .i64 b.n), .lit (.int .i64 b.m), .lit (.int .i64 b.tree.op), .lit (.int .i64 b.tree.clause), .arr (List.map Vl.PathBind.c b.tree.binds), .arr (List.map cI b.tree.path), .arr (List.map Vl.Branch.c b.tree.branches), .arr (List.map Vl.Tree.c b.tree.els)]] (.lit (.bool r)))
    (fun a b r => PureCall Try.prog B 13 [.agg [.lit (.int .i64 a.op), .lit (.int .i64 a.clause), .arr (List.map Vl.PathBind.c a.binds), .arr (List.map cI a.path), .arr (List.map Vl.Branch.c a.branches), .arr (List.map Vl.Tree.c a.els)], .agg [.lit (.int .i64 b.op), .lit (.int .i64 b.clause), .arr (List.map Vl.PathBind.c b.binds), .arr (List.map cI b.path), .arr (List.map Vl.Branch.c b.branches), .arr (List.map Vl.Tree.c b.els)]] (.lit (.bool r)))
    (fun a b r => PureCall Try.prog B 44 [.arr (List.map Vl.Tree.c a), .arr (List.map Vl.Tree.c b)] (.lit (.bool r)))
    (fun a b i o => ∀ (c : Code), navO [1, 1, 0, 1, 0, 0] (bodyOf Try.f44) = some c → ∀ (Q : Exit → ASt → Prop), o.post (fun r => ∀ st, Post Try.prog Try.f44 (fun r' _ => r'.le (.lit (.bool r))) .ret st → Q .ret st) (fun s => Q (.exit 0) ⟨[], []⟩) → ALoopU Try.prog B 0 27 (hold c .mk) ⟨[(0, .arr (List.map Vl.Tree.c a)), (1, .arr (List.map Vl.Tree.c b)), (5, .lit (.int .i64 (i : Int)))], []⟩ (hold Q .mk))
    (fun a b r => PureCall Try.prog B 43 [.arr (List.map Vl.Branch.c a), .arr (List.map Vl.Branch.c b)] (.lit (.bool r)))
    (fun a b i o => ∀ (c : Code), navO [1, 1, 0, 1, 0, 0] (bodyOf Try.f43) = some c → ∀ (Q : Exit → ASt → Prop), o.post (fun r => ∀ st, Post Try.prog Try.f43 (fun r' _ => r'.le (.lit (.bool r))) .ret st → Q .ret st) (fun s => Q (.exit 0) ⟨[], []⟩) → ALoopU Try.prog B 0 27 (hold c .mk) ⟨[(0, .arr (List.map Vl.Branch.c a)), (1, .arr (List.map Vl.Branch.c b)), (5, .lit (.int .i64 (i : Int)))], []⟩ (hold Q .mk))
    ?_ ?_ ?_ ?_ ?_ ?_
  · intro _f_laws_eqTree ih_laws_eqTree a b r hF
    refine PureCall.enterLe Try.func73 (by kernel_rfl) rfl Try.ntmps73 (by simp) (by simp) ?_
    simp -dsimp
    repeat (refine chk.go (by first | omega | assumption | (simp_all; done) | (simp_all; omega)) ?_; simp -dsimp)
    refine abr.split (fun h1 => ?_) (fun h1 => ?_)
    · have q2 : ¬ (a.ctor = b.ctor) := by first | exact h1 | omega | (simpa using h1) | (simp at h1 ⊢; omega) | simp_all
      rw [if_neg q2] at hF
      cases hF
      simp -dsimp [h1, q2]
      repeat (refine chk.go (by first | omega | assumption | (simp_all; done) | (simp_all; omega)) ?_; simp -dsimp [h1, q2])
    · have q2 : (a.ctor = b.ctor) := by first | exact h1 | omega | (simpa using h1) | (simp at h1 ⊢; omega) | simp_all
      rw [if_pos q2] at hF
      simp -dsimp [h1, q2]
      repeat (refine chk.go (by first | omega | assumption | (simp_all; done) | (simp_all; omega)) ?_; simp -dsimp [h1, q2])
      refine abr.split (fun h3 => ?_) (fun h3 => ?_)
      · have q4 : ¬ (a.n = b.n) := by first | exact h3 | omega | (simpa using h3) | (simp at h3 ⊢; omega) | simp_all
        rw [if_neg q4] at hF
        cases hF
        simp -dsimp [h1, q2, h3, q4]
        repeat (refine chk.go (by first | omega | assumption | (simp_all; done) | (simp_all; omega)) ?_; simp -dsimp [h1, q2, h3, q4])
      · have q4 : (a.n = b.n) := by first | exact h3 | omega | (simpa using h3) | (simp at h3 ⊢; omega) | simp_all
        rw [if_pos q4] at hF
        simp -dsimp [h1, q2, h3, q4]
        repeat (refine chk.go (by first | omega | assumption | (simp_all; done) | (simp_all; omega)) ?_; simp -dsimp [h1, q2, h3, q4])
        refine abr.split (fun h5 => ?_) (fun h5 => ?_)
        · have q6 : ¬ (a.m = b.m) := by first | exact h5 | omega | (simpa using h5) | (simp at h5 ⊢; omega) | simp_all
          rw [if_neg q6] at hF
          cases hF
          simp -dsimp [h1, q2, h3, q4, h5, q6]
          repeat (refine chk.go (by first | omega | assumption | (simp_all; done) | (simp_all; omega)) ?_; simp -dsimp [h1, q2, h3, q4, h5, q6])
        · have q6 : (a.m = b.m) := by first | exact h5 | omega | (simpa using h5) | (simp at h5 ⊢; omega) | simp_all
          rw [if_pos q6] at hF
          simp -dsimp [h1, q2, h3, q4, h5, q6]
          repeat (refine chk.go (by first | omega | assumption | (simp_all; done) | (simp_all; omega)) ?_; simp -dsimp [h1, q2, h3, q4, h5, q6])
          have hF := ob hF; obtain ⟨v, e7, hF⟩ := hF
          refine ((ih_laws_eqTree a.tree b.tree v e7)).goW (by simp) (by simp) ?_
          simp -dsimp [h1, q2, h3, q4, h5, q6]
          repeat (refine chk.go (by first | omega | assumption | (simp_all; done) | (simp_all; omega)) ?_; simp -dsimp [h1, q2, h3, q4, h5, q6])
          refine abr.split (fun h8 => ?_) (fun h8 => ?_)
          · have q9 : ¬ (v = true) := by first | exact h8 | omega | (simpa using h8) | (simp at h8 ⊢; omega) | simp_all
            rw [if_neg q9] at hF
            cases hF
            simp -dsimp [h1, q2, h3, q4, h5, q6, h8, q9]
            repeat (refine chk.go (by first | omega | assumption | (simp_all; done) | (simp_all; omega)) ?_; simp -dsimp [h1, q2, h3, q4, h5, q6, h8, q9])
          · have q9 : (v = true) := by first | exact h8 | omega | (simpa using h8) | (simp at h8 ⊢; omega) | simp_all
            rw [if_pos q9] at hF
            cases hF
            simp -dsimp [h1, q2, h3, q4, h5, q6, h8, q9]
            repeat (refine chk.go (by first | omega | assumption | (simp_all; done) | (simp_all; omega)) ?_; simp -dsimp [h1, q2, h3, q4, h5, q6, h8, q9])
  · intro _f_laws_eqTreeS _f_laws_eqBranchS ih_laws_eqTreeS ih_laws_eqBranchS a b r hF
    refine PureCall.enterLe Try.func13 (by kernel_rfl) rfl Try.ntmps13 (by simp) (by simp) ?_
    simp -dsimp
    repeat (refine chk.go (by first | omega | assumption | (simp_all; done) | (simp_all; omega)) ?_; simp -dsimp)
    refine abr.split (fun h1 => ?_) (fun h1 => ?_)
    · have q2 : ¬ (a.op = b.op) := by first | exact h1 | omega | (simpa using h1) | (simp at h1 ⊢; omega) | simp_all
      rw [if_neg q2] at hF
      cases hF
      simp -dsimp [h1, q2]
      repeat (refine chk.go (by first | omega | assumption | (simp_all; done) | (simp_all; omega)) ?_; simp -dsimp [h1, q2])
    · have q2 : (a.op = b.op) := by first | exact h1 | omega | (simpa using h1) | (simp at h1 ⊢; omega) | simp_all
      rw [if_pos q2] at hF
      simp -dsimp [h1, q2]
      repeat (refine chk.go (by first | omega | assumption | (simp_all; done) | (simp_all; omega)) ?_; simp -dsimp [h1, q2])
      refine abr.split (fun h3 => ?_) (fun h3 => ?_)
      · have q4 : ¬ (a.clause = b.clause) := by first | exact h3 | omega | (simpa using h3) | (simp at h3 ⊢; omega) | simp_all
        rw [if_neg q4] at hF
        cases hF
        simp -dsimp [h1, q2, h3, q4]
        repeat (refine chk.go (by first | omega | assumption | (simp_all; done) | (simp_all; omega)) ?_; simp -dsimp [h1, q2, h3, q4])
      · have q4 : (a.clause = b.clause) := by first | exact h3 | omega | (simpa using h3) | (simp at h3 ⊢; omega) | simp_all
        rw [if_pos q4] at hF
        simp -dsimp [h1, q2, h3, q4]
        repeat (refine chk.go (by first | omega | assumption | (simp_all; done) | (simp_all; omega)) ?_; simp -dsimp [h1, q2, h3, q4])
        have hF := ob hF; obtain ⟨v, e5, hF⟩ := hF
        refine ((C.laws_eqPathBindS B hB1 hB2 a.binds b.binds v e5)).goW (by simp) (by simp) ?_
        simp -dsimp [h1, q2, h3, q4]
        repeat (refine chk.go (by first | omega | assumption | (simp_all; done) | (simp_all; omega)) ?_; simp -dsimp [h1, q2, h3, q4])
        refine abr.split (fun h6 => ?_) (fun h6 => ?_)
        · have q7 : ¬ (v = true) := by first | exact h6 | omega | (simpa using h6) | (simp at h6 ⊢; omega) | simp_all
          rw [if_neg q7] at hF
          cases hF
          simp -dsimp [h1, q2, h3, q4, h6, q7]
          repeat (refine chk.go (by first | omega | assumption | (simp_all; done) | (simp_all; omega)) ?_; simp -dsimp [h1, q2, h3, q4, h6, q7])
        · have q7 : (v = true) := by first | exact h6 | omega | (simpa using h6) | (simp at h6 ⊢; omega) | simp_all
          rw [if_pos q7] at hF
          simp -dsimp [h1, q2, h3, q4, h6, q7]
          repeat (refine chk.go (by first | omega | assumption | (simp_all; done) | (simp_all; omega)) ?_; simp -dsimp [h1, q2, h3, q4, h6, q7])
          have hF := ob hF; obtain ⟨v8, e9, hF⟩ := hF
          refine ((C.laws_eqIntS B hB1 hB2 a.path b.path v8 e9)).goW (by simp) (by simp) ?_
          simp -dsimp [h1, q2, h3, q4, h6, q7]
          repeat (refine chk.go (by first | omega | assumption | (simp_all; done) | (simp_all; omega)) ?_; simp -dsimp [h1, q2, h3, q4, h6, q7])
          refine abr.split (fun h10 => ?_) (fun h10 => ?_)
          · have q11 : ¬ (v8 = true) := by first | exact h10 | omega | (simpa using h10) | (simp at h10 ⊢; omega) | simp_all
            rw [if_neg q11] at hF
            cases hF
            simp -dsimp [h1, q2, h3, q4, h6, q7, h10, q11]
            repeat (refine chk.go (by first | omega | assumption | (simp_all; done) | (simp_all; omega)) ?_; simp -dsimp [h1, q2, h3, q4, h6, q7, h10, q11])
          · have q11 : (v8 = true) := by first | exact h10 | omega | (simpa using h10) | (simp at h10 ⊢; omega) | simp_all
            rw [if_pos q11] at hF
            simp -dsimp [h1, q2, h3, q4, h6, q7, h10, q11]
            repeat (refine chk.go (by first | omega | assumption | (simp_all; done) | (simp_all; omega)) ?_; simp -dsimp [h1, q2, h3, q4, h6, q7, h10, q11])
            have hF := ob hF; obtain ⟨v12, e13, hF⟩ := hF
            refine ((ih_laws_eqBranchS a.branches b.branches v12 e13)).goW (by simp) (by simp) ?_
            simp -dsimp [h1, q2, h3, q4, h6, q7, h10, q11]
            repeat (refine chk.go (by first | omega | assumption | (simp_all; done) | (simp_all; omega)) ?_; simp -dsimp [h1, q2, h3, q4, h6, q7, h10, q11])
            refine abr.split (fun h14 => ?_) (fun h14 => ?_)
            · have q15 : ¬ (v12 = true) := by first | exact h14 | omega | (simpa using h14) | (simp at h14 ⊢; omega) | simp_all
              rw [if_neg q15] at hF
              cases hF
              simp -dsimp [h1, q2, h3, q4, h6, q7, h10, q11, h14, q15]
              repeat (refine chk.go (by first | omega | assumption | (simp_all; done) | (simp_all; omega)) ?_; simp -dsimp [h1, q2, h3, q4, h6, q7, h10, q11, h14, q15])
            · have q15 : (v12 = true) := by first | exact h14 | omega | (simpa using h14) | (simp at h14 ⊢; omega) | simp_all
              rw [if_pos q15] at hF
              simp -dsimp [h1, q2, h3, q4, h6, q7, h10, q11, h14, q15]
              repeat (refine chk.go (by first | omega | assumption | (simp_all; done) | (simp_all; omega)) ?_; simp -dsimp [h1, q2, h3, q4, h6, q7, h10, q11, h14, q15])
              have hF := ob hF; obtain ⟨v16, e17, hF⟩ := hF
              refine ((ih_laws_eqTreeS a.els b.els v16 e17)).goW (by simp) (by simp) ?_
              simp -dsimp [h1, q2, h3, q4, h6, q7, h10, q11, h14, q15]
              repeat (refine chk.go (by first | omega | assumption | (simp_all; done) | (simp_all; omega)) ?_; simp -dsimp [h1, q2, h3, q4, h6, q7, h10, q11, h14, q15])
              refine abr.split (fun h18 => ?_) (fun h18 => ?_)
              · have q19 : ¬ (v16 = true) := by first | exact h18 | omega | (simpa using h18) | (simp at h18 ⊢; omega) | simp_all
                rw [if_neg q19] at hF
                cases hF
                simp -dsimp [h1, q2, h3, q4, h6, q7, h10, q11, h14, q15, h18, q19]
                repeat (refine chk.go (by first | omega | assumption | (simp_all; done) | (simp_all; omega)) ?_; simp -dsimp [h1, q2, h3, q4, h6, q7, h10, q11, h14, q15, h18, q19])
              · have q19 : (v16 = true) := by first | exact h18 | omega | (simpa using h18) | (simp at h18 ⊢; omega) | simp_all
                rw [if_pos q19] at hF
                cases hF
                simp -dsimp [h1, q2, h3, q4, h6, q7, h10, q11, h14, q15, h18, q19]
                repeat (refine chk.go (by first | omega | assumption | (simp_all; done) | (simp_all; omega)) ?_; simp -dsimp [h1, q2, h3, q4, h6, q7, h10, q11, h14, q15, h18, q19])
  · intro _f_laws_eqTreeS_l1 ih_laws_eqTreeS_l1 a b r hF
    refine PureCall.enterLe Try.func44 (by kernel_rfl) rfl Try.ntmps44 (by simp) (by simp) ?_
    simp -dsimp
    repeat (refine chk.go (by first | omega | assumption | (simp_all; done) | (simp_all; omega)) ?_; simp -dsimp)
    refine abr.split (fun h1 => ?_) (fun h1 => ?_)
    · have q2 : ¬ (a.length = b.length) := by first | exact h1 | omega | (simpa using h1) | (simp at h1 ⊢; omega) | simp_all
      have z3 : ¬ ((a.length : Int) = (b.length : Int)) := by first | omega | simp_all
      rw [if_neg q2] at hF
      cases hF
      simp -dsimp [h1, q2, z3]
      repeat (refine chk.go (by first | omega | assumption | (simp_all; done) | (simp_all; omega)) ?_; simp -dsimp [h1, q2, z3])
    · have q2 : (a.length = b.length) := by first | exact h1 | omega | (simpa using h1) | (simp at h1 ⊢; omega) | simp_all
      have z3 : ((a.length : Int) = (b.length : Int)) := by first | omega | simp_all
      rw [if_pos q2] at hF
      simp -dsimp [h1, q2, z3]
      repeat (refine chk.go (by first | omega | assumption | (simp_all; done) | (simp_all; omega)) ?_; simp -dsimp [h1, q2, z3])
      have hF := ob hF; obtain ⟨o, ho14, hF⟩ := hF
      refine ALoop.goU ⟨[(0, .arr (List.map Vl.Tree.c a)), (1, .arr (List.map Vl.Tree.c b)), (5, .lit (.int .i64 (0 : Int)))], []⟩ (Gh.to (by simp) (by simp -dsimp) (by simp -dsimp) (by simp -dsimp)) ?_
      refine (ih_laws_eqTreeS_l1 a b 0 o ho14) _ rfl _ ?_
      rcases o with r0 | s
      · dsimp only at hF
        cases hF
        intro st h
        simpa using h
      · dsimp only at hF
        cases hF
        simp -dsimp
        repeat (refine chk.go (by first | omega | assumption | (simp_all; done) | (simp_all; omega)) ?_; simp -dsimp)
  · intro _f_laws_eqTree _f_laws_eqTreeS_l1 ih_laws_eqTree ih_laws_eqTreeS_l1 a b i o hF
    intro c hc Q hq
    obtain rfl : c = _ := navEq hc rfl
    refine ALoopU.know fun hk hs => ?_
    have b0 := hk 0
    simp -dsimp at b0
    have b1 := hk 1
    simp -dsimp at b1
    clear hk hs
    refine ALoopU.enter ?_
    simp -dsimp
    repeat (refine chk.go (by first | omega | assumption | (simp_all; done) | (simp_all; omega)) ?_; simp -dsimp)
    refine abr.split (fun h4 => ?_) (fun h4 => ?_)
    · have q5 : (i < a.length) := by first | exact h4 | omega | (simpa using h4) | (simp at h4 ⊢; omega) | simp_all
      have z6 : ((i : Int) < (a.length : Int)) := by first | omega | simp_all
      rw [if_pos q5] at hF
      simp -dsimp [h4, z6]
      repeat (refine chk.go (by first | omega | assumption | (simp_all; done) | (simp_all; omega)) ?_; simp -dsimp [h4, z6])
      refine ADraw.simple follows (by kernel_rfl) (by kernel_rfl) ?_
      have hF := ob hF; obtain ⟨x, e7, hF⟩ := hF
      have le7 := lt_of_get e7
      have hF := ob hF; obtain ⟨x8, e9, hF⟩ := hF
      have le9 := lt_of_get e9
      simp -dsimp [h4, z6, ↓e7, ↓e9]
      repeat (refine chk.go (by first | omega | assumption | (simp_all; done) | (simp_all; omega)) ?_; simp -dsimp [h4, z6, ↓e7, ↓e9])
      have hF := ob hF; obtain ⟨v, e10, hF⟩ := hF
      refine ((ih_laws_eqTree x x8 v e10)).pgoW (by simp) (by simp) ?_
      simp -dsimp [h4, z6, ↓e7, ↓e9]
      repeat (refine chk.go (by first | omega | assumption | (simp_all; done) | (simp_all; omega)) ?_; simp -dsimp [h4, z6, ↓e7, ↓e9])
      refine abr.split (fun h11 => ?_) (fun h11 => ?_)
      · have q12 : ¬ (v = true) := by first | exact h11 | omega | (simpa using h11) | (simp at h11 ⊢; omega) | simp_all
        rw [if_neg q12] at hF
        cases hF
        simp -dsimp [h4, z6, ↓e7, ↓e9, h11, q12]
        repeat (refine chk.go (by first | omega | assumption | (simp_all; done) | (simp_all; omega)) ?_; simp -dsimp [h4, z6, ↓e7, ↓e9, h11, q12])
        refine Leave.go _ (Gh.refl _) (hq _ ?_)
        simp -dsimp [h4, z6, ↓e7, ↓e9, h11, q12]
        repeat (refine chk.go (by first | omega | assumption | (simp_all; done) | (simp_all; omega)) ?_; simp -dsimp [h4, z6, ↓e7, ↓e9, h11, q12])
      · have q12 : (v = true) := by first | exact h11 | omega | (simpa using h11) | (simp at h11 ⊢; omega) | simp_all
        rw [if_pos q12] at hF
        have w13 : IntKind.i64.wrap ((i : Int) + 1) = (i : Int) + 1 := wrap_in (by omega) (by omega)
        simp -dsimp [h4, z6, ↓e7, ↓e9, h11, q12, w13]
        repeat (refine chk.go (by first | omega | assumption | (simp_all; done) | (simp_all; omega)) ?_; simp -dsimp [h4, z6, ↓e7, ↓e9, h11, q12, w13])
        refine Again.go ⟨[(0, .arr (List.map Vl.Tree.c a)), (1, .arr (List.map Vl.Tree.c b)), (5, .lit (.int .i64 ((i + 1) : Int)))], []⟩ (Gh.to (by simp) (by simp -dsimp) (by simp -dsimp) (by simp -dsimp)) ?_
        exact (ih_laws_eqTreeS_l1 a b (i + 1) o hF) _ rfl _ hq
    · have q5 : ¬ (i < a.length) := by first | exact h4 | omega | (simpa using h4) | (simp at h4 ⊢; omega) | simp_all
      have z6 : ¬ ((i : Int) < (a.length : Int)) := by first | omega | simp_all
      rw [if_neg q5] at hF
      cases hF
      simp -dsimp [h4, q5, z6]
      repeat (refine chk.go (by first | omega | assumption | (simp_all; done) | (simp_all; omega)) ?_; simp -dsimp [h4, q5, z6])
      refine Leave.go ⟨[], []⟩ (Gh.to (by simp) (by simp -dsimp) (by simp -dsimp) (by simp -dsimp)) ?_
      exact hq
  · intro _f_laws_eqBranchS_l1 ih_laws_eqBranchS_l1 a b r hF
    refine PureCall.enterLe Try.func43 (by kernel_rfl) rfl Try.ntmps43 (by simp) (by simp) ?_
    simp -dsimp
    repeat (refine chk.go (by first | omega | assumption | (simp_all; done) | (simp_all; omega)) ?_; simp -dsimp)
    refine abr.split (fun h1 => ?_) (fun h1 => ?_)
    · have q2 : ¬ (a.length = b.length) := by first | exact h1 | omega | (simpa using h1) | (simp at h1 ⊢; omega) | simp_all
      have z3 : ¬ ((a.length : Int) = (b.length : Int)) := by first | omega | simp_all
      rw [if_neg q2] at hF
      cases hF
      simp -dsimp [h1, q2, z3]
      repeat (refine chk.go (by first | omega | assumption | (simp_all; done) | (simp_all; omega)) ?_; simp -dsimp [h1, q2, z3])
    · have q2 : (a.length = b.length) := by first | exact h1 | omega | (simpa using h1) | (simp at h1 ⊢; omega) | simp_all
      have z3 : ((a.length : Int) = (b.length : Int)) := by first | omega | simp_all
      rw [if_pos q2] at hF
      simp -dsimp [h1, q2, z3]
      repeat (refine chk.go (by first | omega | assumption | (simp_all; done) | (simp_all; omega)) ?_; simp -dsimp [h1, q2, z3])
      have hF := ob hF; obtain ⟨o, ho14, hF⟩ := hF
      refine ALoop.goU ⟨[(0, .arr (List.map Vl.Branch.c a)), (1, .arr (List.map Vl.Branch.c b)), (5, .lit (.int .i64 (0 : Int)))], []⟩ (Gh.to (by simp) (by simp -dsimp) (by simp -dsimp) (by simp -dsimp)) ?_
      refine (ih_laws_eqBranchS_l1 a b 0 o ho14) _ rfl _ ?_
      rcases o with r0 | s
      · dsimp only at hF
        cases hF
        intro st h
        simpa using h
      · dsimp only at hF
        cases hF
        simp -dsimp
        repeat (refine chk.go (by first | omega | assumption | (simp_all; done) | (simp_all; omega)) ?_; simp -dsimp)
  · intro _f_laws_eqBranch _f_laws_eqBranchS_l1 ih_laws_eqBranch ih_laws_eqBranchS_l1 a b i o hF
    intro c hc Q hq
    obtain rfl : c = _ := navEq hc rfl
    refine ALoopU.know fun hk hs => ?_
    have b0 := hk 0
    simp -dsimp at b0
    have b1 := hk 1
    simp -dsimp at b1
    clear hk hs
    refine ALoopU.enter ?_
    simp -dsimp
    repeat (refine chk.go (by first | omega | assumption | (simp_all; done) | (simp_all; omega)) ?_; simp -dsimp)
    refine abr.split (fun h4 => ?_) (fun h4 => ?_)
    · have q5 : (i < a.length) := by first | exact h4 | omega | (simpa using h4) | (simp at h4 ⊢; omega) | simp_all
      have z6 : ((i : Int) < (a.length : Int)) := by first | omega | simp_all
      rw [if_pos q5] at hF
      simp -dsimp [h4, z6]
      repeat (refine chk.go (by first | omega | assumption | (simp_all; done) | (simp_all; omega)) ?_; simp -dsimp [h4, z6])
      refine ADraw.simple follows (by kernel_rfl) (by kernel_rfl) ?_
      have hF := ob hF; obtain ⟨x, e7, hF⟩ := hF
      have le7 := lt_of_get e7
      have hF := ob hF; obtain ⟨x8, e9, hF⟩ := hF
      have le9 := lt_of_get e9
      simp -dsimp [h4, z6, ↓e7, ↓e9]
      repeat (refine chk.go (by first | omega | assumption | (simp_all; done) | (simp_all; omega)) ?_; simp -dsimp [h4, z6, ↓e7, ↓e9])
      have hF := ob hF; obtain ⟨v, e10, hF⟩ := hF
      refine ((ih_laws_eqBranch x x8 v e10)).pgoW (by simp) (by simp) ?_
      simp -dsimp [h4, z6, ↓e7, ↓e9]
      repeat (refine chk.go (by first | omega | assumption | (simp_all; done) | (simp_all; omega)) ?_; simp -dsimp [h4, z6, ↓e7, ↓e9])
      refine abr.split (fun h11 => ?_) (fun h11 => ?_)
      · have q12 : ¬ (v = true) := by first | exact h11 | omega | (simpa using h11) | (simp at h11 ⊢; omega) | simp_all
        rw [if_neg q12] at hF
        cases hF
        simp -dsimp [h4, z6, ↓e7, ↓e9, h11, q12]
        repeat (refine chk.go (by first | omega | assumption | (simp_all; done) | (simp_all; omega)) ?_; simp -dsimp [h4, z6, ↓e7, ↓e9, h11, q12])
        refine Leave.go _ (Gh.refl _) (hq _ ?_)
        simp -dsimp [h4, z6, ↓e7, ↓e9, h11, q12]
        repeat (refine chk.go (by first | omega | assumption | (simp_all; done) | (simp_all; omega)) ?_; simp -dsimp [h4, z6, ↓e7, ↓e9, h11, q12])
      · have q12 : (v = true) := by first | exact h11 | omega | (simpa using h11) | (simp at h11 ⊢; omega) | simp_all
        rw [if_pos q12] at hF
        have w13 : IntKind.i64.wrap ((i : Int) + 1) = (i : Int) + 1 := wrap_in (by omega) (by omega)
        simp -dsimp [h4, z6, ↓e7, ↓e9, h11, q12, w13]
        repeat (refine chk.go (by first | omega | assumption | (simp_all; done) | (simp_all; omega)) ?_; simp -dsimp [h4, z6, ↓e7, ↓e9, h11, q12, w13])
        refine Again.go ⟨[(0, .arr (List.map Vl.Branch.c a)), (1, .arr (List.map Vl.Branch.c b)), (5, .lit (.int .i64 ((i + 1) : Int)))], []⟩ (Gh.to (by simp) (by simp -dsimp) (by simp -dsimp) (by simp -dsimp)) ?_
        exact (ih_laws_eqBranchS_l1 a b (i + 1) o hF) _ rfl _ hq
    · have q5 : ¬ (i < a.length) := by first | exact h4 | omega | (simpa using h4) | (simp at h4 ⊢; omega) | simp_all
      have z6 : ¬ ((i : Int) < (a.length : Int)) := by first | omega | simp_all
      rw [if_neg q5] at hF
      cases hF
      simp -dsimp [h4, q5, z6]
      repeat (refine chk.go (by first | omega | assumption | (simp_all; done) | (simp_all; omega)) ?_; simp -dsimp [h4, q5, z6])
      refine Leave.go ⟨[], []⟩ (Gh.to (by simp) (by simp -dsimp) (by simp -dsimp) (by simp -dsimp)) ?_
      exact hq

theorem C.laws_eqBranch (B : Nat) (hB1 : 67108864 ≤ B) (hB2 : B ≤ 9223372036854775807) (a : Vl.Branch) (b : Vl.Branch) (r : Bool) (hF : F.laws_eqBranch a b = some r) : PureCall Try.prog B 73 [.agg [.lit (.int .i64 a.ctor), .lit (.int .i64 a.n), .lit (.int .i64 a.m), .lit (.int .i64 a.tree.op), .lit (.int .i64 a.tree.clause), .arr (List.map Vl.PathBind.c a.tree.binds), .arr (List.map cI a.tree.path), .arr (List.map Vl.Branch.c a.tree.branches), .arr (List.map Vl.Tree.c a.tree.els)], .agg [.lit (.int .i64 b.ctor), .lit (.int .i64 b.n), .lit (.int .i64 b.m), .lit (.int .i64 b.tree.op), .lit (.int .i64 b.tree.clause), .arr (List.map Vl.PathBind.c b.tree.binds), .arr (List.map cI b.tree.path), .arr (List.map Vl.Branch.c b.tree.branches), .arr (List.map Vl.Tree.c b.tree.els)]] (.lit (.bool r)) :=
  (CC.laws_eqBranch B hB1 hB2 ).1 a b r hF

theorem C.laws_eqTree (B : Nat) (hB1 : 67108864 ≤ B) (hB2 : B ≤ 9223372036854775807) (a : Vl.Tree) (b : Vl.Tree) (r : Bool) (hF : F.laws_eqTree a b = some r) : PureCall Try.prog B 13 [.agg [.lit (.int .i64 a.op), .lit (.int .i64 a.clause), .arr (List.map Vl.PathBind.c a.binds), .arr (List.map cI a.path), .arr (List.map Vl.Branch.c a.branches), .arr (List.map Vl.Tree.c a.els)], .agg [.lit (.int .i64 b.op), .lit (.int .i64 b.clause), .arr (List.map Vl.PathBind.c b.binds), .arr (List.map cI b.path), .arr (List.map Vl.Branch.c b.branches), .arr (List.map Vl.Tree.c b.els)]] (.lit (.bool r)) :=
  (CC.laws_eqBranch B hB1 hB2 ).2.1 a b r hF

theorem C.laws_eqTreeS (B : Nat) (hB1 : 67108864 ≤ B) (hB2 : B ≤ 9223372036854775807) (a : List Vl.Tree) (b : List Vl.Tree) (r : Bool) (hF : F.laws_eqTreeS a b = some r) : PureCall Try.prog B 44 [.arr (List.map Vl.Tree.c a), .arr (List.map Vl.Tree.c b)] (.lit (.bool r)) :=
  (CC.laws_eqBranch B hB1 hB2 ).2.2.1 a b r hF

theorem C.laws_eqTreeS_l1 (B : Nat) (hB1 : 67108864 ≤ B) (hB2 : B ≤ 9223372036854775807) (a : List Vl.Tree) (b : List Vl.Tree) (i : Nat) (o : Lo Bool Unit) (hF : F.laws_eqTreeS_l1 a b i = some o) : ∀ (c : Code), navO [1, 1, 0, 1, 0, 0] (bodyOf Try.f44) = some c → ∀ (Q : Exit → ASt → Prop), o.post (fun r => ∀ st, Post Try.prog Try.f44 (fun r' _ => r'.le (.lit (.bool r))) .ret st → Q .ret st) (fun s => Q (.exit 0) ⟨[], []⟩) → ALoopU Try.prog B 0 27 (hold c .mk) ⟨[(0, .arr (List.map Vl.Tree.c a)), (1, .arr (List.map Vl.Tree.c b)), (5, .lit (.int .i64 (i : Int)))], []⟩ (hold Q .mk) :=
  (CC.laws_eqBranch B hB1 hB2 ).2.2.2.1 a b i o hF

theorem C.laws_eqBranchS (B : Nat) (hB1 : 67108864 ≤ B) (hB2 : B ≤ 9223372036854775807) (a : List Vl.Branch) (b : List Vl.Branch) (r : Bool) (hF : F.laws_eqBranchS a b = some r) : PureCall Try.prog B 43 [.arr (List.map Vl.Branch.c a), .arr (List.map Vl.Branch.c b)] (.lit (.bool r)) :=
  (CC.laws_eqBranch B hB1 hB2 ).2.2.2.2.1 a b r hF

theorem C.laws_eqBranchS_l1 (B : Nat) (hB1 : 67108864 ≤ B) (hB2 : B ≤ 9223372036854775807) (a : List Vl.Branch) (b : List Vl.Branch) (i : Nat) (o : Lo Bool Unit) (hF : F.laws_eqBranchS_l1 a b i = some o) : ∀ (c : Code), navO [1, 1, 0, 1, 0, 0] (bodyOf Try.f43) = some c → ∀ (Q : Exit → ASt → Prop), o.post (fun r => ∀ st, Post Try.prog Try.f43 (fun r' _ => r'.le (.lit (.bool r))) .ret st → Q .ret st) (fun s => Q (.exit 0) ⟨[], []⟩) → ALoopU Try.prog B 0 27 (hold c .mk) ⟨[(0, .arr (List.map Vl.Branch.c a)), (1, .arr (List.map Vl.Branch.c b)), (5, .lit (.int .i64 (i : Int)))], []⟩ (hold Q .mk) :=
  (CC.laws_eqBranch B hB1 hB2 ).2.2.2.2.2 a b i o hF

set_option maxRecDepth 100000 in
set_option maxHeartbeats 400000 in
theorem C.laws_FnExactTreeTests (B : Nat) (hB1 : 67108864 ≤ B) (hB2 : B ≤ 9223372036854775807) (aX : Vl.Tree) (r : Bool) (hF : F.laws_FnExactTreeTests aX = some r) : PureCall Try.prog B 3 [.agg [.lit (.int .i64 aX.op), .lit (.int .i64 aX.clause), .arr (List.map Vl.PathBind.c aX.binds), .arr (List.map cI aX.path), .arr (List.map Vl.Branch.c aX.branches), .arr (List.map Vl.Tree.c aX.els)]] (.lit (.bool r)) := by
  unfold F.laws_FnExactTreeTests at hF
  refine PureCall.enterLe Try.func3 (by kernel_rfl) rfl Try.ntmps3 (by simp) (by simp) ?_
  simp -dsimp
  repeat (refine chk.go (by first | omega | assumption | (simp_all; done) | (simp_all; omega)) ?_; simp -dsimp)
  have hF := ob hF; obtain ⟨v, e1, hF⟩ := hF
  refine ((C.laws_szTree B hB1 hB2 aX (1048576 : Int) v e1)).goW (by simp) (by simp) ?_
  simp -dsimp
  repeat (refine chk.go (by first | omega | assumption | (simp_all; done) | (simp_all; omega)) ?_; simp -dsimp)
  refine abr.split (fun h2 => ?_) (fun h2 => ?_)
  · have q3 : (v < 0) := by first | exact h2 | omega | (simpa using h2) | (simp at h2 ⊢; omega) | simp_all
    rw [if_pos q3] at hF
    cases hF
    simp -dsimp [h2]
    repeat (refine chk.go (by first | omega | assumption | (simp_all; done) | (simp_all; omega)) ?_; simp -dsimp [h2])
  · have q3 : ¬ (v < 0) := by first | exact h2 | omega | (simpa using h2) | (simp at h2 ⊢; omega) | simp_all
    rw [if_neg q3] at hF
    simp -dsimp [h2, q3]
    repeat (refine chk.go (by first | omega | assumption | (simp_all; done) | (simp_all; omega)) ?_; simp -dsimp [h2, q3])
    have hF := ob hF; obtain ⟨v4, e5, hF⟩ := hF
    refine ((C.laws_toTree B hB1 hB2 aX v4 e5)).goW (by simp) (by simp) ?_
    simp -dsimp [h2, q3]
    repeat (refine chk.go (by first | omega | assumption | (simp_all; done) | (simp_all; omega)) ?_; simp -dsimp [h2, q3])
    have hF := ob hF; obtain ⟨v6, e7, hF⟩ := hF
    refine ((C.spec_TreeTests B hB1 hB2 v4 v6 e7)).goW (by simp) (by simp) ?_
    simp -dsimp [h2, q3]
    repeat (refine chk.go (by first | omega | assumption | (simp_all; done) | (simp_all; omega)) ?_; simp -dsimp [h2, q3])
    have hF := ob hF; obtain ⟨v8, e9, hF⟩ := hF
    refine ((C.laws_toTree B hB1 hB2 aX v8 e9)).goW (by simp) (by simp) ?_
    simp -dsimp [h2, q3]
    repeat (refine chk.go (by first | omega | assumption | (simp_all; done) | (simp_all; omega)) ?_; simp -dsimp [h2, q3])
    have hF := ob hF; obtain ⟨v10, e11, hF⟩ := hF
    refine ((C.impl_TreeTests B hB1 hB2 v8 v10 e11)).goW (by simp) (by simp) ?_
    simp -dsimp [h2, q3]
    repeat (refine chk.go (by first | omega | assumption | (simp_all; done) | (simp_all; omega)) ?_; simp -dsimp [h2, q3])
    refine abr.split (fun h12 => ?_) (fun h12 => ?_)
    · have q13 : ¬ (v10 = v6) := by first | exact h12 | omega | (simpa using h12) | (simp at h12 ⊢; omega) | simp_all
      rw [if_neg q13] at hF
      cases hF
      simp -dsimp [h2, q3, h12, q13]
      repeat (refine chk.go (by first | omega | assumption | (simp_all; done) | (simp_all; omega)) ?_; simp -dsimp [h2, q3, h12, q13])
    · have q13 : (v10 = v6) := by first | exact h12 | omega | (simpa using h12) | (simp at h12 ⊢; omega) | simp_all
      rw [if_pos q13] at hF
      simp -dsimp [h2, q3, h12, q13]
      repeat (refine chk.go (by first | omega | assumption | (simp_all; done) | (simp_all; omega)) ?_; simp -dsimp [h2, q3, h12, q13])
      refine ADraw.simple follows (by kernel_rfl) (by kernel_rfl) ?_
      simp -dsimp [h2, q3, h12, q13]
      repeat (refine chk.go (by first | omega | assumption | (simp_all; done) | (simp_all; omega)) ?_; simp -dsimp [h2, q3, h12, q13])
      have hF := ob hF; obtain ⟨v14, e15, hF⟩ := hF
      refine ((C.laws_toTree B hB1 hB2 aX v14 e15)).pgoW (by simp) (by simp) ?_
      simp -dsimp [h2, q3, h12, q13]
      repeat (refine chk.go (by first | omega | assumption | (simp_all; done) | (simp_all; omega)) ?_; simp -dsimp [h2, q3, h12, q13])
      have hF := ob hF; obtain ⟨v16, e17, hF⟩ := hF
      refine ((C.laws_eqTree B hB1 hB2 v8 v14 v16 e17)).pgoW (by simp) (by simp) ?_
      simp -dsimp [h2, q3, h12, q13]
      repeat (refine chk.go (by first | omega | assumption | (simp_all; done) | (simp_all; omega)) ?_; simp -dsimp [h2, q3, h12, q13])
      refine abr.split (fun h18 => ?_) (fun h18 => ?_)
      · have q19 : ¬ (v16 = true) := by first | exact h18 | omega | (simpa using h18) | (simp at h18 ⊢; omega) | simp_all
        rw [if_neg q19] at hF
        cases hF
        simp -dsimp [h2, q3, h12, q13, h18, q19]
        repeat (refine chk.go (by first | omega | assumption | (simp_all; done) | (simp_all; omega)) ?_; simp -dsimp [h2, q3, h12, q13, h18, q19])
      · have q19 : (v16 = true) := by first | exact h18 | omega | (simpa using h18) | (simp at h18 ⊢; omega) | simp_all
        rw [if_pos q19] at hF
        cases hF
        simp -dsimp [h2, q3, h12, q13, h18, q19]
        repeat (refine chk.go (by first | omega | assumption | (simp_all; done) | (simp_all; omega)) ?_; simp -dsimp [h2, q3, h12, q13, h18, q19])
end Go.Proofs.Ytoacjahdkkdffaa
