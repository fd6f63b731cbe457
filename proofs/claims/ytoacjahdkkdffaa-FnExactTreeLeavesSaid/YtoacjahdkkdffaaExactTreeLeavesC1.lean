/- The contracts: the code computes the functions (printed by gen.py). -/
import Derived.Test.YtoacjahdkkdffaaProg
import Derived.Test.YtoacjahdkkdffaaExactTreeLeavesF
namespace Go.Proofs.Ytoacjahdkkdffaa
open Go Go.Proofs Go.Vl
set_option linter.unusedSimpArgs false
set_option linter.unusedVariables false

attribute [local irreducible] ECallA NCallA aL aLg AMake MLoop AgainM LeaveM awpM aopsM MutCall BCall chk abr ACall ALoop ALoopU ADraw Again Leave PCallA PCall Post awp aops PureCall hold

theorem follows : Try.prog.follows .mixedOrders = true := by kernel_rfl
@[simp] theorem ti2 : tiOf Try.prog 2 = some ⟨.word, 1, [.int .i64 0]⟩ := by kernel_rfl
@[simp] theorem ti3 : tiOf Try.prog 3 = some ⟨.word, 1, [.int .i64 0]⟩ := by kernel_rfl
@[simp] theorem ti4 : tiOf Try.prog 4 = some ⟨.word, 1, [.bool false]⟩ := by kernel_rfl
@[simp] theorem ti5 : tiOf Try.prog 5 = some ⟨.word, 1, [.int .u8 0]⟩ := by kernel_rfl
@[simp] theorem ti22 : tiOf Try.prog 22 = some ⟨.slice 2 32 [.int .i64 0, .slice none 0 0], 1, [.slice none 0 0]⟩ := by kernel_rfl
@[simp] theorem sl22 : isSl Try.prog 22 = true := by kernel_rfl
@[simp] theorem ti23 : tiOf Try.prog 23 = some ⟨.slice 1 8 [.int .i64 0], 1, [.slice none 0 0]⟩ := by kernel_rfl
@[simp] theorem sl23 : isSl Try.prog 23 = true := by kernel_rfl
@[simp] theorem ti24 : tiOf Try.prog 24 = some ⟨.slice 9 136 [.int .i64 0, .int .i64 0, .int .i64 0, .int .i64 0, .int .i64 0, .slice none 0 0, .slice none 0 0, .slice none 0 0, .slice none 0 0], 1, [.slice none 0 0]⟩ := by kernel_rfl
@[simp] theorem sl24 : isSl Try.prog 24 = true := by kernel_rfl
@[simp] theorem ti25 : tiOf Try.prog 25 = some ⟨.slice 6 112 [.int .i64 0, .int .i64 0, .slice none 0 0, .slice none 0 0, .slice none 0 0, .slice none 0 0], 1, [.slice none 0 0]⟩ := by kernel_rfl
@[simp] theorem sl25 : isSl Try.prog 25 = true := by kernel_rfl
@[simp] theorem ti27 : tiOf Try.prog 27 = some ⟨.struct [(0, 1), (1, 1), (2, 1), (3, 1), (4, 1), (5, 1)], 6, [.int .i64 0, .int .i64 0, .slice none 0 0, .slice none 0 0, .slice none 0 0, .slice none 0 0]⟩ := by kernel_rfl
@[simp] theorem ti30 : tiOf Try.prog 30 = some ⟨.slice 2 32 [.int .i64 0, .slice none 0 0], 1, [.slice none 0 0]⟩ := by kernel_rfl
@[simp] theorem sl30 : isSl Try.prog 30 = true := by kernel_rfl
@[simp] theorem ti31 : tiOf Try.prog 31 = some ⟨.slice 9 136 [.int .i64 0, .int .i64 0, .int .i64 0, .int .i64 0, .int .i64 0, .slice none 0 0, .slice none 0 0, .slice none 0 0, .slice none 0 0], 1, [.slice none 0 0]⟩ := by kernel_rfl
@[simp] theorem sl31 : isSl Try.prog 31 = true := by kernel_rfl
@[simp] theorem ti32 : tiOf Try.prog 32 = some ⟨.slice 6 112 [.int .i64 0, .int .i64 0, .slice none 0 0, .slice none 0 0, .slice none 0 0, .slice none 0 0], 1, [.slice none 0 0]⟩ := by kernel_rfl
@[simp] theorem sl32 : isSl Try.prog 32 = true := by kernel_rfl
@[simp] theorem ti34 : tiOf Try.prog 34 = some ⟨.struct [(0, 1), (1, 1), (2, 1), (3, 1), (4, 1), (5, 1)], 6, [.int .i64 0, .int .i64 0, .slice none 0 0, .slice none 0 0, .slice none 0 0, .slice none 0 0]⟩ := by kernel_rfl
@[simp] theorem ti70 : tiOf Try.prog 70 = some ⟨.struct [(0, 1), (1, 1), (2, 1), (3, 6)], 9, [.int .i64 0, .int .i64 0, .int .i64 0, .int .i64 0, .int .i64 0, .slice none 0 0, .slice none 0 0, .slice none 0 0, .slice none 0 0]⟩ := by kernel_rfl
@[simp] theorem ti95 : tiOf Try.prog 95 = some ⟨.slice 1 1 [.bool false], 1, [.slice none 0 0]⟩ := by kernel_rfl
@[simp] theorem sl95 : isSl Try.prog 95 = true := by kernel_rfl
@[simp] theorem ti97 : tiOf Try.prog 97 = some ⟨.array 8 1, 8, [.bool false, .bool false, .bool false, .bool false, .bool false, .bool false, .bool false, .bool false]⟩ := by kernel_rfl
@[simp] theorem ti113 : tiOf Try.prog 113 = some ⟨.struct [(0, 1), (1, 1)], 2, [.int .i64 0, .slice none 0 0]⟩ := by kernel_rfl
@[simp] theorem ti116 : tiOf Try.prog 116 = some ⟨.struct [(0, 1), (1, 1), (2, 1), (3, 6)], 9, [.int .i64 0, .int .i64 0, .int .i64 0, .int .i64 0, .int .i64 0, .slice none 0 0, .slice none 0 0, .slice none 0 0, .slice none 0 0]⟩ := by kernel_rfl
@[simp] theorem ti117 : tiOf Try.prog 117 = some ⟨.struct [(0, 1), (1, 1)], 2, [.int .i64 0, .slice none 0 0]⟩ := by kernel_rfl
attribute [simp] Try.underlying2 Try.underlying3 Try.underlying4 Try.underlying5 Try.underlying22 Try.underlying23 Try.underlying24 Try.underlying25 Try.underlying30 Try.underlying31 Try.underlying32 Try.underlying95 Try.underlying97 Try.results6 Try.results9 Try.results11 Try.results13 Try.results21 Try.results22 Try.results23 Try.results24 Try.results25 Try.results26 Try.results33 Try.results34 Try.results35 Try.results36 Try.results37 Try.results38 Try.results39 Try.results40 Try.results41 Try.results42 Try.results43 Try.results44 Try.results57 Try.results58 Try.results59 Try.results60 Try.results61 Try.results68 Try.results69 Try.results70 Try.results71 Try.results72 Try.results73 Try.results78

set_option maxRecDepth 100000 in
set_option maxHeartbeats 4000000 in
theorem C.laws_szIntS (B : Nat) (hB1 : 67108864 ≤ B) (hB2 : B ≤ 9223372036854775807) (a : List Int) (left' : Int) (r : Int) (hF : F.laws_szIntS a left' = some r) : PureCall Try.prog B 34 [.arr (List.map cI a), .lit (.int .i64 left')] (.lit (.int .i64 r)) := by
 unfold F.laws_szIntS at hF
 refine PureCall.enterLe Try.func34 (by kernel_rfl) rfl Try.ntmps34 (by simp) (by simp) ?_
 repeat (first | refine chk.ga ?_ | simp -dsimp)
 refine abr.split (fun h1 => ?_) (fun h1 => ?_)
 ·have q2 : (IntKind.i64.wrap (left' - (a.length : Int)) < 0) := auq h1
  rw [if_pos q2] at hF
  cases hF
  repeat (first | refine chk.ga ?_ | simp -dsimp [h1])
  all_goals (try omega)
 ·have q2 : ¬ (IntKind.i64.wrap (left' - (a.length : Int)) < 0) := auq h1
  rw [if_neg q2] at hF
  cases hF
  repeat (first | refine chk.ga ?_ | simp -dsimp [h1, q2])
  all_goals (try omega)

set_option maxRecDepth 100000 in
set_option maxHeartbeats 4000000 in
theorem C.laws_szPathBind (B : Nat) (hB1 : 67108864 ≤ B) (hB2 : B ≤ 9223372036854775807) (a : Vl.PathBind) (left' : Int) (r : Int) (hF : F.laws_szPathBind a left' = some r) : PureCall Try.prog B 68 [.agg [.lit (.int .i64 a.var), .arr (List.map cI a.path)], .lit (.int .i64 left')] (.lit (.int .i64 r)) := by
 unfold F.laws_szPathBind at hF
 refine PureCall.enterLe Try.func68 (by kernel_rfl) rfl Try.ntmps68 (by simp) (by simp) ?_
 repeat (first | refine chk.ga ?_ | simp -dsimp)
 have hF := ob hF; obtain ⟨v, e1, hF⟩ := hF
 refine ((C.laws_szIntS B hB1 hB2 a.path left' v e1)).goW (by simp) (by simp) ?_
 repeat (first | refine chk.ga ?_ | simp -dsimp)
 refine abr.split (fun h2 => ?_) (fun h2 => ?_)
 ·have q3 : (v < 0) := auq h2
  rw [if_pos q3] at hF
  cases hF
  repeat (first | refine chk.ga ?_ | simp -dsimp [h2])
  all_goals (try omega)
 ·have q3 : ¬ (v < 0) := auq h2
  rw [if_neg q3] at hF
  cases hF
  repeat (first | refine chk.ga ?_ | simp -dsimp [h2, q3])
  all_goals (try omega)

set_option maxRecDepth 100000 in
set_option maxHeartbeats 4000000 in
theorem CC.laws_szPathBindS_l1 (B : Nat) (hB1 : 67108864 ≤ B) (hB2 : B ≤ 9223372036854775807) (a : List Vl.PathBind) : (∀ (left'3 : Int) (i : Nat) (o : Lo Int Int), F.laws_szPathBindS_l1 a left'3 i = some o → ∀ (c : Code), navO [1, 1, 1, 0, 1, 0, 0] (bodyOf Try.f33) = some c → ∀ (Q : Exit → ASt → Prop), o.post (fun r => ∀ st, Post Try.prog Try.f33 (fun r' _ => r'.le (.lit (.int .i64 r))) .ret st → Q .ret st) (fun s => Q (.exit 0) ⟨[(1, .lit (.int .i64 s))], []⟩) → ALoopU Try.prog B 0 27 (hold c .mk) ⟨[(0, .arr (List.map Vl.PathBind.c a)), (1, .lit (.int .i64 left'3)), (5, .lit (.int .i64 (i : Int)))], []⟩ (hold Q .mk)) := by
 refine F.laws_szPathBindS_l1.partial_correctness a
  (fun left'3 i o => ∀ (c : Code), navO [1, 1, 1, 0, 1, 0, 0] (bodyOf Try.f33) = some c → ∀ (Q : Exit → ASt → Prop), o.post (fun r => ∀ st, Post Try.prog Try.f33 (fun r' _ => r'.le (.lit (.int .i64 r))) .ret st → Q .ret st) (fun s => Q (.exit 0) ⟨[(1, .lit (.int .i64 s))], []⟩) → ALoopU Try.prog B 0 27 (hold c .mk) ⟨[(0, .arr (List.map Vl.PathBind.c a)), (1, .lit (.int .i64 left'3)), (5, .lit (.int .i64 (i : Int)))], []⟩ (hold Q .mk))
  ?_
 ·intro _f_laws_szPathBindS_l1 ih_laws_szPathBindS_l1 left'3 i o hF
  intro c hc Q hq
  obtain rfl : c = _ := navEq hc rfl
  refine ALoopU.know fun hk hs => ?_
  have b0 := hk 0
  simp -dsimp at b0
  clear hk hs
  refine ALoopU.enter ?_
  repeat (first | refine chk.ga ?_ | simp -dsimp)
  refine abr.split (fun h4 => ?_) (fun h4 => ?_)
  ·have q5 : (i < a.length) := auq h4
   have z6 : ((i : Int) < (a.length : Int)) := auz
   rw [if_pos q5] at hF
   have hF := ob hF; obtain ⟨x, e7, hF⟩ := hF
   have le7 := lt_of_get e7
   repeat (first | refine chk.ga ?_ | simp -dsimp [h4, z6, ↓e7])
   have hF := ob hF; obtain ⟨v, e8, hF⟩ := hF
   refine ((C.laws_szPathBind B hB1 hB2 x left'3 v e8)).goW (by first | simp [h4, z6, ↓e7]; done | simp_all) (by simp) ?_
   repeat (first | refine chk.ga ?_ | simp -dsimp [h4, z6, ↓e7])
   refine abr.split (fun h9 => ?_) (fun h9 => ?_)
   ·have q10 : (v < 0) := auq h9
    rw [if_pos q10] at hF
    cases hF
    repeat (first | refine chk.ga ?_ | simp -dsimp [h4, z6, ↓e7, h9])
    refine Leave.go _ (Gh.refl _) (hq _ ?_)
    repeat (first | refine chk.ga ?_ | simp -dsimp [h4, z6, ↓e7, h9])
   ·have q10 : ¬ (v < 0) := auq h9
    rw [if_neg q10] at hF
    have w11 : IntKind.i64.wrap ((i : Int) + 1) = (i : Int) + 1 := wrap_in (by omega) (by omega)
    repeat (first | refine chk.ga ?_ | simp -dsimp [h4, z6, ↓e7, h9, q10, w11])
    refine Again.go ⟨[(0, .arr (List.map Vl.PathBind.c a)), (1, .lit (.int .i64 v)), (5, .lit (.int .i64 ((i + 1) : Int)))], []⟩ (Gh.to3 (by simp) (by first | simp -dsimp [h4, z6, ↓e7, h9, q10, w11]; done | simp_all)) ?_
    exact (ih_laws_szPathBindS_l1 v (i + 1) o hF) _ rfl _ hq
  ·have q5 : ¬ (i < a.length) := auq h4
   have z6 : ¬ ((i : Int) < (a.length : Int)) := auz
   rw [if_neg q5] at hF
   cases hF
   repeat (first | refine chk.ga ?_ | simp -dsimp [h4, q5, z6])
   refine Leave.go ⟨[(1, .lit (.int .i64 left'3))], []⟩ (Gh.to3 (by simp) (by first | simp -dsimp [h4, q5, z6]; done | simp_all)) ?_
   exact hq

theorem C.laws_szPathBindS_l1 (B : Nat) (hB1 : 67108864 ≤ B) (hB2 : B ≤ 9223372036854775807) (a : List Vl.PathBind) (left'3 : Int) (i : Nat) (o : Lo Int Int) (hF : F.laws_szPathBindS_l1 a left'3 i = some o) : ∀ (c : Code), navO [1, 1, 1, 0, 1, 0, 0] (bodyOf Try.f33) = some c → ∀ (Q : Exit → ASt → Prop), o.post (fun r => ∀ st, Post Try.prog Try.f33 (fun r' _ => r'.le (.lit (.int .i64 r))) .ret st → Q .ret st) (fun s => Q (.exit 0) ⟨[(1, .lit (.int .i64 s))], []⟩) → ALoopU Try.prog B 0 27 (hold c .mk) ⟨[(0, .arr (List.map Vl.PathBind.c a)), (1, .lit (.int .i64 left'3)), (5, .lit (.int .i64 (i : Int)))], []⟩ (hold Q .mk) :=
 (CC.laws_szPathBindS_l1 B hB1 hB2 a) left'3 i o hF

set_option maxRecDepth 100000 in
set_option maxHeartbeats 4000000 in
theorem C.laws_szPathBindS (B : Nat) (hB1 : 67108864 ≤ B) (hB2 : B ≤ 9223372036854775807) (a : List Vl.PathBind) (left' : Int) (r : Int) (hF : F.laws_szPathBindS a left' = some r) : PureCall Try.prog B 33 [.arr (List.map Vl.PathBind.c a), .lit (.int .i64 left')] (.lit (.int .i64 r)) := by
 unfold F.laws_szPathBindS at hF
 refine PureCall.enterLe Try.func33 (by kernel_rfl) rfl Try.ntmps33 (by simp) (by simp) ?_
 repeat (first | refine chk.ga ?_ | simp -dsimp)
 refine abr.split (fun h1 => ?_) (fun h1 => ?_)
 ·have q2 : (IntKind.i64.wrap (left' - (a.length : Int)) < 0) := auq h1
  rw [if_pos q2] at hF
  cases hF
  repeat (first | refine chk.ga ?_ | simp -dsimp [h1])
  all_goals (try omega)
 ·have q2 : ¬ (IntKind.i64.wrap (left' - (a.length : Int)) < 0) := auq h1
  rw [if_neg q2] at hF
  repeat (first | refine chk.ga ?_ | simp -dsimp [h1, q2])
  have hF := ob hF; obtain ⟨o', ho12, hF⟩ := hF
  refine ALoop.goU ⟨[(0, .arr (List.map Vl.PathBind.c a)), (1, .lit (.int .i64 (IntKind.i64.wrap (left' - (a.length : Int))))), (5, .lit (.int .i64 (0 : Int)))], []⟩ (Gh.to3 (by simp) (by first | simp -dsimp [h1, q2]; done | simp_all)) ?_
  refine (C.laws_szPathBindS_l1 B hB1 hB2 a (IntKind.i64.wrap (left' - (a.length : Int))) 0 o' ho12) _ rfl _ ?_
  rcases o' with r0 | sx
  ·dsimp only at hF
   cases hF
   intro st h
   simpa using h
  ·dsimp only at hF
   cases hF
   repeat (first | refine chk.ga ?_ | simp -dsimp)
   all_goals (try omega)

set_option maxRecDepth 100000 in
set_option maxHeartbeats 4000000 in
theorem CC.laws_szBranch (B : Nat) (hB1 : 67108864 ≤ B) (hB2 : B ≤ 9223372036854775807)  : (∀ (a : Vl.Branch) (left' : Int) (r : Int), F.laws_szBranch a left' = some r → PureCall Try.prog B 69 [.agg [.lit (.int .i64 a.ctor), .lit (.int .i64 a.n), .lit (.int .i64 a.m), .lit (.int .i64 a.tree.op), .lit (.int .i64 a.tree.clause), .arr (List.map Vl.PathBind.c a.tree.binds), .arr (List.map cI a.tree.path), .arr (List.map Vl.Branch.c a.tree.branches), .arr (List.map Vl.Tree.c a.tree.els)], .lit (.int .i64 left')] (.lit (.int .i64 r))) ∧
  (∀ (a : Vl.Tree) (left' : Int) (r : Int), F.laws_szTree a left' = some r → PureCall Try.prog B 9 [.agg [.lit (.int .i64 a.op), .lit (.int .i64 a.clause), .arr (List.map Vl.PathBind.c a.binds), .arr (List.map cI a.path), .arr (List.map Vl.Branch.c a.branches), .arr (List.map Vl.Tree.c a.els)], .lit (.int .i64 left')] (.lit (.int .i64 r))) ∧
  (∀ (a : List Vl.Tree) (left' : Int) (r : Int), F.laws_szTreeS a left' = some r → PureCall Try.prog B 36 [.arr (List.map Vl.Tree.c a), .lit (.int .i64 left')] (.lit (.int .i64 r))) ∧
  (∀ (a : List Vl.Tree) (left'3 : Int) (i : Nat) (o : Lo Int Int), F.laws_szTreeS_l1 a left'3 i = some o → ∀ (c : Code), navO [1, 1, 1, 0, 1, 0, 0] (bodyOf Try.f36) = some c → ∀ (Q : Exit → ASt → Prop), o.post (fun r => ∀ st, Post Try.prog Try.f36 (fun r' _ => r'.le (.lit (.int .i64 r))) .ret st → Q .ret st) (fun s => Q (.exit 0) ⟨[(1, .lit (.int .i64 s))], []⟩) → ALoopU Try.prog B 0 27 (hold c .mk) ⟨[(0, .arr (List.map Vl.Tree.c a)), (1, .lit (.int .i64 left'3)), (5, .lit (.int .i64 (i : Int)))], []⟩ (hold Q .mk)) ∧
  (∀ (a : List Vl.Branch) (left' : Int) (r : Int), F.laws_szBranchS a left' = some r → PureCall Try.prog B 35 [.arr (List.map Vl.Branch.c a), .lit (.int .i64 left')] (.lit (.int .i64 r))) ∧
  (∀ (a : List Vl.Branch) (left'3 : Int) (i : Nat) (o : Lo Int Int), F.laws_szBranchS_l1 a left'3 i = some o → ∀ (c : Code), navO [1, 1, 1, 0, 1, 0, 0] (bodyOf Try.f35) = some c → ∀ (Q : Exit → ASt → Prop), o.post (fun r => ∀ st, Post Try.prog Try.f35 (fun r' _ => r'.le (.lit (.int .i64 r))) .ret st → Q .ret st) (fun s => Q (.exit 0) ⟨[(1, .lit (.int .i64 s))], []⟩) → ALoopU Try.prog B 0 27 (hold c .mk) ⟨[(0, .arr (List.map Vl.Branch.c a)), (1, .lit (.int .i64 left'3)), (5, .lit (.int .i64 (i : Int)))], []⟩ (hold Q .mk)) := by
 refine F.laws_szBranch.mutual_partial_correctness 
  (fun a left' r => PureCall Try.prog B 69 [.agg [.lit (.int .i64 a.ctor), .lit (.int .i64 a.n), .lit (.int .i64 a.m), .lit (.int .i64 a.tree.op), .lit (.int .i64 a.tree.clause), .arr (List.map Vl.PathBind.c a.tree.binds), .arr (List.map cI a.tree.path), .arr (List.map Vl.Branch.c a.tree.branches), .arr (List.map Vl.Tree.c a.tree.els)], .lit (.int .i64 left')] (.lit (.int .i64 r)))
  (fun a left' r => PureCall Try.prog B 9 [.agg [.lit (.int .i64 a.op), .lit (.int .i64 a.clause), .arr (List.map Vl.PathBind.c a.binds), .arr (List.map cI a.path), .arr (List.map Vl.Branch.c a.branches), .arr (List.map Vl.Tree.c a.els)], .lit (.int .i64 left')] (.lit (.int .i64 r)))
  (fun a left' r => PureCall Try.prog B 36 [.arr (List.map Vl.Tree.c a), .lit (.int .i64 left')] (.lit (.int .i64 r)))
  (fun a left'3 i o => ∀ (c : Code), navO [1, 1, 1, 0, 1, 0, 0] (bodyOf Try.f36) = some c → ∀ (Q : Exit → ASt → Prop), o.post (fun r => ∀ st, Post Try.prog Try.f36 (fun r' _ => r'.le (.lit (.int .i64 r))) .ret st → Q .ret st) (fun s => Q (.exit 0) ⟨[(1, .lit (.int .i64 s))], []⟩) → ALoopU Try.prog B 0 27 (hold c .mk) ⟨[(0, .arr (List.map Vl.Tree.c a)), (1, .lit (.int .i64 left'3)), (5, .lit (.int .i64 (i : Int)))], []⟩ (hold Q .mk))
  (fun a left' r => PureCall Try.prog B 35 [.arr (List.map Vl.Branch.c a), .lit (.int .i64 left')] (.lit (.int .i64 r)))
  (fun a left'3 i o => ∀ (c : Code), navO [1, 1, 1, 0, 1, 0, 0] (bodyOf Try.f35) = some c → ∀ (Q : Exit → ASt → Prop), o.post (fun r => ∀ st, Post Try.prog Try.f35 (fun r' _ => r'.le (.lit (.int .i64 r))) .ret st → Q .ret st) (fun s => Q (.exit 0) ⟨[(1, .lit (.int .i64 s))], []⟩) → ALoopU Try.prog B 0 27 (hold c .mk) ⟨[(0, .arr (List.map Vl.Branch.c a)), (1, .lit (.int .i64 left'3)), (5, .lit (.int .i64 (i : Int)))], []⟩ (hold Q .mk))
  ?_ ?_ ?_ ?_ ?_ ?_
 ·intro _f_laws_szTree ih_laws_szTree a left' r hF
  refine PureCall.enterLe Try.func69 (by kernel_rfl) rfl Try.ntmps69 (by simp) (by simp) ?_
  repeat (first | refine chk.ga ?_ | simp -dsimp)
  have hF := ob hF; obtain ⟨v, e1, hF⟩ := hF
  refine ((ih_laws_szTree a.tree left' v e1)).goW (by simp) (by simp) ?_
  repeat (first | refine chk.ga ?_ | simp -dsimp)
  refine abr.split (fun h2 => ?_) (fun h2 => ?_)
  ·have q3 : (v < 0) := auq h2
   rw [if_pos q3] at hF
   cases hF
   repeat (first | refine chk.ga ?_ | simp -dsimp [h2])
   all_goals (try omega)
  ·have q3 : ¬ (v < 0) := auq h2
   rw [if_neg q3] at hF
   cases hF
   repeat (first | refine chk.ga ?_ | simp -dsimp [h2, q3])
   all_goals (try omega)
 ·intro _f_laws_szTreeS _f_laws_szBranchS ih_laws_szTreeS ih_laws_szBranchS a left' r hF
  refine PureCall.enterLe Try.func9 (by kernel_rfl) rfl Try.ntmps9 (by simp) (by simp) ?_
  repeat (first | refine chk.ga ?_ | simp -dsimp)
  have hF := ob hF; obtain ⟨v, e1, hF⟩ := hF
  refine ((C.laws_szPathBindS B hB1 hB2 a.binds left' v e1)).goW (by simp) (by simp) ?_
  repeat (first | refine chk.ga ?_ | simp -dsimp)
  refine abr.split (fun h2 => ?_) (fun h2 => ?_)
  ·have q3 : (v < 0) := auq h2
   rw [if_pos q3] at hF
   cases hF
   repeat (first | refine chk.ga ?_ | simp -dsimp [h2])
   all_goals (try omega)
  ·have q3 : ¬ (v < 0) := auq h2
   rw [if_neg q3] at hF
   repeat (first | refine chk.ga ?_ | simp -dsimp [h2, q3])
   have hF := ob hF; obtain ⟨v4, e5, hF⟩ := hF
   refine ((C.laws_szIntS B hB1 hB2 a.path v v4 e5)).goW (by first | simp [h2, q3]; done | simp_all) (by simp) ?_
   repeat (first | refine chk.ga ?_ | simp -dsimp [h2, q3])
   refine abr.split (fun h6 => ?_) (fun h6 => ?_)
   ·have q7 : (v4 < 0) := auq h6
    rw [if_pos q7] at hF
    cases hF
    repeat (first | refine chk.ga ?_ | simp -dsimp [h2, q3, h6])
    all_goals (try omega)
   ·have q7 : ¬ (v4 < 0) := auq h6
    rw [if_neg q7] at hF
    repeat (first | refine chk.ga ?_ | simp -dsimp [h2, q3, h6, q7])
    have hF := ob hF; obtain ⟨v8, e9, hF⟩ := hF
    refine ((ih_laws_szBranchS a.branches v4 v8 e9)).goW (by first | simp [h2, q3, h6, q7]; done | simp_all) (by simp) ?_
    repeat (first | refine chk.ga ?_ | simp -dsimp [h2, q3, h6, q7])
    refine abr.split (fun h10 => ?_) (fun h10 => ?_)
    ·have q11 : (v8 < 0) := auq h10
     rw [if_pos q11] at hF
     cases hF
     repeat (first | refine chk.ga ?_ | simp -dsimp [h2, q3, h6, q7, h10])
     all_goals (try omega)
    ·have q11 : ¬ (v8 < 0) := auq h10
     rw [if_neg q11] at hF
     repeat (first | refine chk.ga ?_ | simp -dsimp [h2, q3, h6, q7, h10, q11])
     have hF := ob hF; obtain ⟨v12, e13, hF⟩ := hF
     refine ((ih_laws_szTreeS a.els v8 v12 e13)).goW (by first | simp [h2, q3, h6, q7, h10, q11]; done | simp_all) (by simp) ?_
     repeat (first | refine chk.ga ?_ | simp -dsimp [h2, q3, h6, q7, h10, q11])
     refine abr.split (fun h14 => ?_) (fun h14 => ?_)
     ·have q15 : (v12 < 0) := auq h14
      rw [if_pos q15] at hF
      cases hF
      repeat (first | refine chk.ga ?_ | simp -dsimp [h2, q3, h6, q7, h10, q11, h14])
      all_goals (try omega)
     ·have q15 : ¬ (v12 < 0) := auq h14
      rw [if_neg q15] at hF
      cases hF
      repeat (first | refine chk.ga ?_ | simp -dsimp [h2, q3, h6, q7, h10, q11, h14, q15])
      all_goals (try omega)
 ·intro _f_laws_szTreeS_l1 ih_laws_szTreeS_l1 a left' r hF
  refine PureCall.enterLe Try.func36 (by kernel_rfl) rfl Try.ntmps36 (by simp) (by simp) ?_
  repeat (first | refine chk.ga ?_ | simp -dsimp)
  refine abr.split (fun h1 => ?_) (fun h1 => ?_)
  ·have q2 : (IntKind.i64.wrap (left' - (a.length : Int)) < 0) := auq h1
   rw [if_pos q2] at hF
   cases hF
   repeat (first | refine chk.ga ?_ | simp -dsimp [h1])
   all_goals (try omega)
  ·have q2 : ¬ (IntKind.i64.wrap (left' - (a.length : Int)) < 0) := auq h1
   rw [if_neg q2] at hF
   repeat (first | refine chk.ga ?_ | simp -dsimp [h1, q2])
   have hF := ob hF; obtain ⟨o', ho12, hF⟩ := hF
   refine ALoop.goU ⟨[(0, .arr (List.map Vl.Tree.c a)), (1, .lit (.int .i64 (IntKind.i64.wrap (left' - (a.length : Int))))), (5, .lit (.int .i64 (0 : Int)))], []⟩ (Gh.to3 (by simp) (by first | simp -dsimp [h1, q2]; done | simp_all)) ?_
   refine (ih_laws_szTreeS_l1 a (IntKind.i64.wrap (left' - (a.length : Int))) 0 o' ho12) _ rfl _ ?_
   rcases o' with r0 | sx
   ·dsimp only at hF
    cases hF
    intro st h
    simpa using h
   ·dsimp only at hF
    cases hF
    repeat (first | refine chk.ga ?_ | simp -dsimp)
    all_goals (try omega)
 ·intro _f_laws_szTree _f_laws_szTreeS_l1 ih_laws_szTree ih_laws_szTreeS_l1 a left'3 i o hF
  intro c hc Q hq
  obtain rfl : c = _ := navEq hc rfl
  refine ALoopU.know fun hk hs => ?_
  have b0 := hk 0
  simp -dsimp at b0
  clear hk hs
  refine ALoopU.enter ?_
  repeat (first | refine chk.ga ?_ | simp -dsimp)
  refine abr.split (fun h4 => ?_) (fun h4 => ?_)
  ·have q5 : (i < a.length) := auq h4
   have z6 : ((i : Int) < (a.length : Int)) := auz
   rw [if_pos q5] at hF
   have hF := ob hF; obtain ⟨x, e7, hF⟩ := hF
   have le7 := lt_of_get e7
   repeat (first | refine chk.ga ?_ | simp -dsimp [h4, z6, ↓e7])
   have hF := ob hF; obtain ⟨v, e8, hF⟩ := hF
   refine ((ih_laws_szTree x left'3 v e8)).goW (by first | simp [h4, z6, ↓e7]; done | simp_all) (by simp) ?_
   repeat (first | refine chk.ga ?_ | simp -dsimp [h4, z6, ↓e7])
   refine abr.split (fun h9 => ?_) (fun h9 => ?_)
   ·have q10 : (v < 0) := auq h9
    rw [if_pos q10] at hF
    cases hF
    repeat (first | refine chk.ga ?_ | simp -dsimp [h4, z6, ↓e7, h9])
    refine Leave.go _ (Gh.refl _) (hq _ ?_)
    repeat (first | refine chk.ga ?_ | simp -dsimp [h4, z6, ↓e7, h9])
   ·have q10 : ¬ (v < 0) := auq h9
    rw [if_neg q10] at hF
    have w11 : IntKind.i64.wrap ((i : Int) + 1) = (i : Int) + 1 := wrap_in (by omega) (by omega)
    repeat (first | refine chk.ga ?_ | simp -dsimp [h4, z6, ↓e7, h9, q10, w11])
    refine Again.go ⟨[(0, .arr (List.map Vl.Tree.c a)), (1, .lit (.int .i64 v)), (5, .lit (.int .i64 ((i + 1) : Int)))], []⟩ (Gh.to3 (by simp) (by first | simp -dsimp [h4, z6, ↓e7, h9, q10, w11]; done | simp_all)) ?_
    exact (ih_laws_szTreeS_l1 a v (i + 1) o hF) _ rfl _ hq
  ·have q5 : ¬ (i < a.length) := auq h4
   have z6 : ¬ ((i : Int) < (a.length : Int)) := auz
   rw [if_neg q5] at hF
   cases hF
   repeat (first | refine chk.ga ?_ | simp -dsimp [h4, q5, z6])
   refine Leave.go ⟨[(1, .lit (.int .i64 left'3))], []⟩ (Gh.to3 (by simp) (by first | simp -dsimp [h4, q5, z6]; done | simp_all)) ?_
   exact hq
 ·intro _f_laws_szBranchS_l1 ih_laws_szBranchS_l1 a left' r hF
  refine PureCall.enterLe Try.func35 (by kernel_rfl) rfl Try.ntmps35 (by simp) (by simp) ?_
  repeat (first | refine chk.ga ?_ | simp -dsimp)
  refine abr.split (fun h1 => ?_) (fun h1 => ?_)
  ·have q2 : (IntKind.i64.wrap (left' - (a.length : Int)) < 0) := auq h1
   rw [if_pos q2] at hF
   cases hF
   repeat (first | refine chk.ga ?_ | simp -dsimp [h1])
   all_goals (try omega)
  ·have q2 : ¬ (IntKind.i64.wrap (left' - (a.length : Int)) < 0) := auq h1
   rw [if_neg q2] at hF
   repeat (first | refine chk.ga ?_ | simp -dsimp [h1, q2])
   have hF := ob hF; obtain ⟨o', ho12, hF⟩ := hF
   refine ALoop.goU ⟨[(0, .arr (List.map Vl.Branch.c a)), (1, .lit (.int .i64 (IntKind.i64.wrap (left' - (a.length : Int))))), (5, .lit (.int .i64 (0 : Int)))], []⟩ (Gh.to3 (by simp) (by first | simp -dsimp [h1, q2]; done | simp_all)) ?_
   refine (ih_laws_szBranchS_l1 a (IntKind.i64.wrap (left' - (a.length : Int))) 0 o' ho12) _ rfl _ ?_
   rcases o' with r0 | sx
   ·dsimp only at hF
    cases hF
    intro st h
    simpa using h
   ·dsimp only at hF
    cases hF
    repeat (first | refine chk.ga ?_ | simp -dsimp)
    all_goals (try omega)
 ·intro _f_laws_szBranch _f_laws_szBranchS_l1 ih_laws_szBranch ih_laws_szBranchS_l1 a left'3 i o hF
  intro c hc Q hq
  obtain rfl : c = _ := navEq hc rfl
  refine ALoopU.know fun hk hs => ?_
  have b0 := hk 0
  simp -dsimp at b0
  clear hk hs
  refine ALoopU.enter ?_
  repeat (first | refine chk.ga ?_ | simp -dsimp)
  refine abr.split (fun h4 => ?_) (fun h4 => ?_)
  ·have q5 : (i < a.length) := auq h4
   have z6 : ((i : Int) < (a.length : Int)) := auz
   rw [if_pos q5] at hF
   have hF := ob hF; obtain ⟨x, e7, hF⟩ := hF
   have le7 := lt_of_get e7
   repeat (first | refine chk.ga ?_ | simp -dsimp [h4, z6, ↓e7])
   have hF := ob hF; obtain ⟨v, e8, hF⟩ := hF
   refine ((ih_laws_szBranch x left'3 v e8)).goW (by first | simp [h4, z6, ↓e7]; done | simp_all) (by simp) ?_
   repeat (first | refine chk.ga ?_ | simp -dsimp [h4, z6, ↓e7])
   refine abr.split (fun h9 => ?_) (fun h9 => ?_)
   ·have q10 : (v < 0) := auq h9
    rw [if_pos q10] at hF
    cases hF
    repeat (first | refine chk.ga ?_ | simp -dsimp [h4, z6, ↓e7, h9])
    refine Leave.go _ (Gh.refl _) (hq _ ?_)
    repeat (first | refine chk.ga ?_ | simp -dsimp [h4, z6, ↓e7, h9])
   ·have q10 : ¬ (v < 0) := auq h9
    rw [if_neg q10] at hF
    have w11 : IntKind.i64.wrap ((i : Int) + 1) = (i : Int) + 1 := wrap_in (by omega) (by omega)
    repeat (first | refine chk.ga ?_ | simp -dsimp [h4, z6, ↓e7, h9, q10, w11])
    refine Again.go ⟨[(0, .arr (List.map Vl.Branch.c a)), (1, .lit (.int .i64 v)), (5, .lit (.int .i64 ((i + 1) : Int)))], []⟩ (Gh.to3 (by simp) (by first | simp -dsimp [h4, z6, ↓e7, h9, q10, w11]; done | simp_all)) ?_
    exact (ih_laws_szBranchS_l1 a v (i + 1) o hF) _ rfl _ hq
  ·have q5 : ¬ (i < a.length) := auq h4
   have z6 : ¬ ((i : Int) < (a.length : Int)) := auz
   rw [if_neg q5] at hF
   cases hF
   repeat (first | refine chk.ga ?_ | simp -dsimp [h4, q5, z6])
   refine Leave.go ⟨[(1, .lit (.int .i64 left'3))], []⟩ (Gh.to3 (by simp) (by first | simp -dsimp [h4, q5, z6]; done | simp_all)) ?_
   exact hq

theorem C.laws_szBranch (B : Nat) (hB1 : 67108864 ≤ B) (hB2 : B ≤ 9223372036854775807) (a : Vl.Branch) (left' : Int) (r : Int) (hF : F.laws_szBranch a left' = some r) : PureCall Try.prog B 69 [.agg [.lit (.int .i64 a.ctor), .lit (.int .i64 a.n), .lit (.int .i64 a.m), .lit (.int .i64 a.tree.op), .lit (.int .i64 a.tree.clause), .arr (List.map Vl.PathBind.c a.tree.binds), .arr (List.map cI a.tree.path), .arr (List.map Vl.Branch.c a.tree.branches), .arr (List.map Vl.Tree.c a.tree.els)], .lit (.int .i64 left')] (.lit (.int .i64 r)) :=
 (CC.laws_szBranch B hB1 hB2 ).1 a left' r hF

theorem C.laws_szTree (B : Nat) (hB1 : 67108864 ≤ B) (hB2 : B ≤ 9223372036854775807) (a : Vl.Tree) (left' : Int) (r : Int) (hF : F.laws_szTree a left' = some r) : PureCall Try.prog B 9 [.agg [.lit (.int .i64 a.op), .lit (.int .i64 a.clause), .arr (List.map Vl.PathBind.c a.binds), .arr (List.map cI a.path), .arr (List.map Vl.Branch.c a.branches), .arr (List.map Vl.Tree.c a.els)], .lit (.int .i64 left')] (.lit (.int .i64 r)) :=
 (CC.laws_szBranch B hB1 hB2 ).2.1 a left' r hF

theorem C.laws_szTreeS (B : Nat) (hB1 : 67108864 ≤ B) (hB2 : B ≤ 9223372036854775807) (a : List Vl.Tree) (left' : Int) (r : Int) (hF : F.laws_szTreeS a left' = some r) : PureCall Try.prog B 36 [.arr (List.map Vl.Tree.c a), .lit (.int .i64 left')] (.lit (.int .i64 r)) :=
 (CC.laws_szBranch B hB1 hB2 ).2.2.1 a left' r hF

theorem C.laws_szTreeS_l1 (B : Nat) (hB1 : 67108864 ≤ B) (hB2 : B ≤ 9223372036854775807) (a : List Vl.Tree) (left'3 : Int) (i : Nat) (o : Lo Int Int) (hF : F.laws_szTreeS_l1 a left'3 i = some o) : ∀ (c : Code), navO [1, 1, 1, 0, 1, 0, 0] (bodyOf Try.f36) = some c → ∀ (Q : Exit → ASt → Prop), o.post (fun r => ∀ st, Post Try.prog Try.f36 (fun r' _ => r'.le (.lit (.int .i64 r))) .ret st → Q .ret st) (fun s => Q (.exit 0) ⟨[(1, .lit (.int .i64 s))], []⟩) → ALoopU Try.prog B 0 27 (hold c .mk) ⟨[(0, .arr (List.map Vl.Tree.c a)), (1, .lit (.int .i64 left'3)), (5, .lit (.int .i64 (i : Int)))], []⟩ (hold Q .mk) :=
 (CC.laws_szBranch B hB1 hB2 ).2.2.2.1 a left'3 i o hF

theorem C.laws_szBranchS (B : Nat) (hB1 : 67108864 ≤ B) (hB2 : B ≤ 9223372036854775807) (a : List Vl.Branch) (left' : Int) (r : Int) (hF : F.laws_szBranchS a left' = some r) : PureCall Try.prog B 35 [.arr (List.map Vl.Branch.c a), .lit (.int .i64 left')] (.lit (.int .i64 r)) :=
 (CC.laws_szBranch B hB1 hB2 ).2.2.2.2.1 a left' r hF

theorem C.laws_szBranchS_l1 (B : Nat) (hB1 : 67108864 ≤ B) (hB2 : B ≤ 9223372036854775807) (a : List Vl.Branch) (left'3 : Int) (i : Nat) (o : Lo Int Int) (hF : F.laws_szBranchS_l1 a left'3 i = some o) : ∀ (c : Code), navO [1, 1, 1, 0, 1, 0, 0] (bodyOf Try.f35) = some c → ∀ (Q : Exit → ASt → Prop), o.post (fun r => ∀ st, Post Try.prog Try.f35 (fun r' _ => r'.le (.lit (.int .i64 r))) .ret st → Q .ret st) (fun s => Q (.exit 0) ⟨[(1, .lit (.int .i64 s))], []⟩) → ALoopU Try.prog B 0 27 (hold c .mk) ⟨[(0, .arr (List.map Vl.Branch.c a)), (1, .lit (.int .i64 left'3)), (5, .lit (.int .i64 (i : Int)))], []⟩ (hold Q .mk) :=
 (CC.laws_szBranch B hB1 hB2 ).2.2.2.2.2 a left'3 i o hF

set_option maxRecDepth 100000 in
set_option maxHeartbeats 4000000 in
theorem CC.laws_toIntS_l1 (B : Nat) (hB1 : 67108864 ≤ B) (hB2 : B ≤ 9223372036854775807) (a : List Int) : (∀ (out : List Int) (i : Nat) (o : List Int), F.laws_toIntS_l1 a out i = some o → ∀ (c : Code), navO [1, 1, 0, 1, 0, 0] (bodyOf Try.f38) = some c → ∀ (Q : Exit → ASt → Prop), (Q (.exit 0) ⟨[(3, .own 0 (List.length (α := Int) o))], [.elems 1 (List.map cI o)]⟩) → ALoopU Try.prog B 0 22 (hold c .mk) ⟨[(0, .arr (List.map cI a)), (3, .own 0 (List.length (α := Int) out)), (4, .lit (.int .i64 (i : Int)))], [.elems 1 (List.map cI out)]⟩ (hold Q .mk)) := by
 refine F.laws_toIntS_l1.partial_correctness a
  (fun out i o => ∀ (c : Code), navO [1, 1, 0, 1, 0, 0] (bodyOf Try.f38) = some c → ∀ (Q : Exit → ASt → Prop), (Q (.exit 0) ⟨[(3, .own 0 (List.length (α := Int) o))], [.elems 1 (List.map cI o)]⟩) → ALoopU Try.prog B 0 22 (hold c .mk) ⟨[(0, .arr (List.map cI a)), (3, .own 0 (List.length (α := Int) out)), (4, .lit (.int .i64 (i : Int)))], [.elems 1 (List.map cI out)]⟩ (hold Q .mk))
  ?_
 ·intro _f_laws_toIntS_l1 ih_laws_toIntS_l1 out i o hF
  intro c hc Q hq
  obtain rfl : c = _ := navEq hc rfl
  refine ALoopU.know fun hk hs => ?_
  have b0 := hk 0
  simp -dsimp at b0
  have d0 := hs 0 _ rfl
  simp -dsimp [Blk.bnd] at d0
  clear hk hs
  refine ALoopU.enter ?_
  repeat (first | refine chk.ga ?_ | simp -dsimp)
  refine abr.split (fun h2 => ?_) (fun h2 => ?_)
  ·have q3 : (i < a.length) := auq h2
   have z4 : ((i : Int) < (a.length : Int)) := auz
   rw [if_pos q3] at hF
   have hF := ob hF; obtain ⟨x, e5, hF⟩ := hF
   have le5 := lt_of_get e5
   have hF := ob hF; obtain ⟨x6, e7, hF⟩ := hF
   have le7 := lt_of_get e7
   have w8 : IntKind.i64.wrap ((i : Int) + 1) = (i : Int) + 1 := wrap_in (by omega) (by omega)
   repeat (first | refine chk.ga ?_ | simp -dsimp [h2, z4, ↓e5, ↓e7, w8])
   refine Again.go ⟨[(0, .arr (List.map cI a)), (3, .own 0 (List.length (α := Int) (out.set i x))), (4, .lit (.int .i64 ((i + 1) : Int)))], [.elems 1 (List.map cI (out.set i x))]⟩ (Gh.to3 (by simp) (by first | simp -dsimp [h2, z4, ↓e5, ↓e7, w8]; done | simp_all)) ?_
   exact (ih_laws_toIntS_l1 (out.set i x) (i + 1) o hF) _ rfl _ hq
  ·have q3 : ¬ (i < a.length) := auq h2
   have z4 : ¬ ((i : Int) < (a.length : Int)) := auz
   rw [if_neg q3] at hF
   cases hF
   repeat (first | refine chk.ga ?_ | simp -dsimp [h2, q3, z4])
   refine Leave.go ⟨[(3, .own 0 (List.length (α := Int) out))], [.elems 1 (List.map cI out)]⟩ (Gh.to3 (by simp) (by first | simp -dsimp [h2, q3, z4]; done | simp_all)) ?_
   exact hq

theorem C.laws_toIntS_l1 (B : Nat) (hB1 : 67108864 ≤ B) (hB2 : B ≤ 9223372036854775807) (a : List Int) (out : List Int) (i : Nat) (o : List Int) (hF : F.laws_toIntS_l1 a out i = some o) : ∀ (c : Code), navO [1, 1, 0, 1, 0, 0] (bodyOf Try.f38) = some c → ∀ (Q : Exit → ASt → Prop), (Q (.exit 0) ⟨[(3, .own 0 (List.length (α := Int) o))], [.elems 1 (List.map cI o)]⟩) → ALoopU Try.prog B 0 22 (hold c .mk) ⟨[(0, .arr (List.map cI a)), (3, .own 0 (List.length (α := Int) out)), (4, .lit (.int .i64 (i : Int)))], [.elems 1 (List.map cI out)]⟩ (hold Q .mk) :=
 (CC.laws_toIntS_l1 B hB1 hB2 a) out i o hF

set_option maxRecDepth 100000 in
set_option maxHeartbeats 4000000 in
theorem C.laws_toIntS (B : Nat) (hB1 : 67108864 ≤ B) (hB2 : B ≤ 9223372036854775807) (a : List Int) (r : List Int) (hF : F.laws_toIntS a = some r) : PureCall Try.prog B 38 [.arr (List.map cI a)] (.arr (List.map cI r)) := by
 unfold F.laws_toIntS at hF
 refine PureCall.enterLe Try.func38 (by kernel_rfl) rfl Try.ntmps38 (by simp) (by simp) ?_
 have hF := oc hF; obtain ⟨c1, hF⟩ := hF
 repeat (first | refine chk.ga ?_ | simp -dsimp)
 have hF := ob hF; obtain ⟨o', ho9, hF⟩ := hF
 refine ALoop.goU ⟨[(0, .arr (List.map cI a)), (3, .own 0 (List.length (α := Int) (List.replicate a.length (0 : Int)))), (4, .lit (.int .i64 (0 : Int)))], [.elems 1 (List.map cI (List.replicate a.length (0 : Int)))]⟩ (Gh.to3 (by simp) (by simp -dsimp)) ?_
 refine (C.laws_toIntS_l1 B hB1 hB2 a (List.replicate a.length (0 : Int)) 0 o' ho9) _ rfl _ ?_
 cases hF
 repeat (first | refine chk.ga ?_ | simp -dsimp)
 all_goals (try omega)

set_option maxRecDepth 100000 in
set_option maxHeartbeats 4000000 in
theorem C.laws_toPathBind (B : Nat) (hB1 : 67108864 ≤ B) (hB2 : B ≤ 9223372036854775807) (a : Vl.PathBind) (r : Vl.PathBind) (hF : F.laws_toPathBind a = some r) : PureCall Try.prog B 70 [.agg [.lit (.int .i64 a.var), .arr (List.map cI a.path)]] (.agg [.lit (.int .i64 r.var), .arr (List.map cI r.path)]) := by
 unfold F.laws_toPathBind at hF
 refine PureCall.enterLe Try.func70 (by kernel_rfl) rfl Try.ntmps70 (by simp) (by simp) ?_
 repeat (first | refine chk.ga ?_ | simp -dsimp)
 have hF := ob hF; obtain ⟨v, e1, hF⟩ := hF
 refine ((C.laws_toIntS B hB1 hB2 a.path v e1)).goW (by simp) (by simp) ?_
 cases hF
 repeat (first | refine chk.ga ?_ | simp -dsimp)
 all_goals (try omega)

set_option maxRecDepth 100000 in
set_option maxHeartbeats 4000000 in
theorem CC.laws_toPathBindS_l1 (B : Nat) (hB1 : 67108864 ≤ B) (hB2 : B ≤ 9223372036854775807) (a : List Vl.PathBind) : (∀ (out : List Vl.PathBind) (i : Nat) (o : List Vl.PathBind), F.laws_toPathBindS_l1 a out i = some o → ∀ (c : Code), navO [1, 1, 0, 1, 0, 0] (bodyOf Try.f37) = some c → ∀ (Q : Exit → ASt → Prop), (Q (.exit 0) ⟨[(3, .own 0 (List.length (α := Vl.PathBind) o))], [.elems 2 (List.map Vl.PathBind.c o)]⟩) → ALoopU Try.prog B 0 23 (hold c .mk) ⟨[(0, .arr (List.map Vl.PathBind.c a)), (3, .own 0 (List.length (α := Vl.PathBind) out)), (4, .lit (.int .i64 (i : Int)))], [.elems 2 (List.map Vl.PathBind.c out)]⟩ (hold Q .mk)) := by
 refine F.laws_toPathBindS_l1.partial_correctness a
  (fun out i o => ∀ (c : Code), navO [1, 1, 0, 1, 0, 0] (bodyOf Try.f37) = some c → ∀ (Q : Exit → ASt → Prop), (Q (.exit 0) ⟨[(3, .own 0 (List.length (α := Vl.PathBind) o))], [.elems 2 (List.map Vl.PathBind.c o)]⟩) → ALoopU Try.prog B 0 23 (hold c .mk) ⟨[(0, .arr (List.map Vl.PathBind.c a)), (3, .own 0 (List.length (α := Vl.PathBind) out)), (4, .lit (.int .i64 (i : Int)))], [.elems 2 (List.map Vl.PathBind.c out)]⟩ (hold Q .mk))
  ?_
 ·intro _f_laws_toPathBindS_l1 ih_laws_toPathBindS_l1 out i o hF
  intro c hc Q hq
  obtain rfl : c = _ := navEq hc rfl
  refine ALoopU.know fun hk hs => ?_
  have b0 := hk 0
  simp -dsimp at b0
  have d0 := hs 0 _ rfl
  simp -dsimp [Blk.bnd] at d0
  clear hk hs
  refine ALoopU.enter ?_
  repeat (first | refine chk.ga ?_ | simp -dsimp)
  refine abr.split (fun h2 => ?_) (fun h2 => ?_)
  ·have q3 : (i < a.length) := auq h2
   have z4 : ((i : Int) < (a.length : Int)) := auz
   rw [if_pos q3] at hF
   have hF := ob hF; obtain ⟨x, e5, hF⟩ := hF
   have le5 := lt_of_get e5
   repeat (first | refine chk.ga ?_ | simp -dsimp [h2, z4, ↓e5])
   have hF := ob hF; obtain ⟨v, e6, hF⟩ := hF
   refine ((C.laws_toPathBind B hB1 hB2 x v e6)).goW (by first | simp [h2, z4, ↓e5]; done | simp_all) (by simp) ?_
   have hF := ob hF; obtain ⟨x7, e8, hF⟩ := hF
   have le8 := lt_of_get e8
   have w9 : IntKind.i64.wrap ((i : Int) + 1) = (i : Int) + 1 := wrap_in (by omega) (by omega)
   repeat (first | refine chk.ga ?_ | simp -dsimp [h2, z4, ↓e5, ↓e8, w9])
   refine Again.go ⟨[(0, .arr (List.map Vl.PathBind.c a)), (3, .own 0 (List.length (α := Vl.PathBind) (out.set i v))), (4, .lit (.int .i64 ((i + 1) : Int)))], [.elems 2 (List.map Vl.PathBind.c (out.set i v))]⟩ (Gh.to3 (by simp) (by first | simp -dsimp [h2, z4, ↓e5, ↓e8, w9]; done | simp_all)) ?_
   exact (ih_laws_toPathBindS_l1 (out.set i v) (i + 1) o hF) _ rfl _ hq
  ·have q3 : ¬ (i < a.length) := auq h2
   have z4 : ¬ ((i : Int) < (a.length : Int)) := auz
   rw [if_neg q3] at hF
   cases hF
   repeat (first | refine chk.ga ?_ | simp -dsimp [h2, q3, z4])
   refine Leave.go ⟨[(3, .own 0 (List.length (α := Vl.PathBind) out))], [.elems 2 (List.map Vl.PathBind.c out)]⟩ (Gh.to3 (by simp) (by first | simp -dsimp [h2, q3, z4]; done | simp_all)) ?_
   exact hq

theorem C.laws_toPathBindS_l1 (B : Nat) (hB1 : 67108864 ≤ B) (hB2 : B ≤ 9223372036854775807) (a : List Vl.PathBind) (out : List Vl.PathBind) (i : Nat) (o : List Vl.PathBind) (hF : F.laws_toPathBindS_l1 a out i = some o) : ∀ (c : Code), navO [1, 1, 0, 1, 0, 0] (bodyOf Try.f37) = some c → ∀ (Q : Exit → ASt → Prop), (Q (.exit 0) ⟨[(3, .own 0 (List.length (α := Vl.PathBind) o))], [.elems 2 (List.map Vl.PathBind.c o)]⟩) → ALoopU Try.prog B 0 23 (hold c .mk) ⟨[(0, .arr (List.map Vl.PathBind.c a)), (3, .own 0 (List.length (α := Vl.PathBind) out)), (4, .lit (.int .i64 (i : Int)))], [.elems 2 (List.map Vl.PathBind.c out)]⟩ (hold Q .mk) :=
 (CC.laws_toPathBindS_l1 B hB1 hB2 a) out i o hF

set_option maxRecDepth 100000 in
set_option maxHeartbeats 4000000 in
theorem C.laws_toPathBindS (B : Nat) (hB1 : 67108864 ≤ B) (hB2 : B ≤ 9223372036854775807) (a : List Vl.PathBind) (r : List Vl.PathBind) (hF : F.laws_toPathBindS a = some r) : PureCall Try.prog B 37 [.arr (List.map Vl.PathBind.c a)] (.arr (List.map Vl.PathBind.c r)) := by
 unfold F.laws_toPathBindS at hF
 refine PureCall.enterLe Try.func37 (by kernel_rfl) rfl Try.ntmps37 (by simp) (by simp) ?_
 have hF := oc hF; obtain ⟨c1, hF⟩ := hF
 repeat (first | refine chk.ga ?_ | simp -dsimp)
 have hF := ob hF; obtain ⟨o', ho10, hF⟩ := hF
 refine ALoop.goU ⟨[(0, .arr (List.map Vl.PathBind.c a)), (3, .own 0 (List.length (α := Vl.PathBind) (List.replicate a.length Vl.PathBind.z))), (4, .lit (.int .i64 (0 : Int)))], [.elems 2 (List.map Vl.PathBind.c (List.replicate a.length Vl.PathBind.z))]⟩ (Gh.to3 (by simp) (by simp -dsimp)) ?_
 refine (C.laws_toPathBindS_l1 B hB1 hB2 a (List.replicate a.length Vl.PathBind.z) 0 o' ho10) _ rfl _ ?_
 cases hF
 repeat (first | refine chk.ga ?_ | simp -dsimp)
 all_goals (try omega)

set_option maxRecDepth 100000 in
set_option maxHeartbeats 4000000 in
theorem CC.laws_toBranch (B : Nat) (hB1 : 67108864 ≤ B) (hB2 : B ≤ 9223372036854775807)  : (∀ (a : Vl.Branch) (r : Vl.Branch), F.laws_toBranch a = some r → PureCall Try.prog B 71 [.agg [.lit (.int .i64 a.ctor), .lit (.int .i64 a.n), .lit (.int .i64 a.m), .lit (.int .i64 a.tree.op), .lit (.int .i64 a.tree.clause), .arr (List.map Vl.PathBind.c a.tree.binds), .arr (List.map cI a.tree.path), .arr (List.map Vl.Branch.c a.tree.branches), .arr (List.map Vl.Tree.c a.tree.els)]] (.agg [.lit (.int .i64 r.ctor), .lit (.int .i64 r.n), .lit (.int .i64 r.m), .lit (.int .i64 r.tree.op), .lit (.int .i64 r.tree.clause), .arr (List.map Vl.PathBind.c r.tree.binds), .arr (List.map cI r.tree.path), .arr (List.map Vl.Branch.c r.tree.branches), .arr (List.map Vl.Tree.c r.tree.els)])) ∧
  (∀ (a : Vl.Tree) (r : Vl.Tree), F.laws_toTree a = some r → PureCall Try.prog B 11 [.agg [.lit (.int .i64 a.op), .lit (.int .i64 a.clause), .arr (List.map Vl.PathBind.c a.binds), .arr (List.map cI a.path), .arr (List.map Vl.Branch.c a.branches), .arr (List.map Vl.Tree.c a.els)]] (.agg [.lit (.int .i64 r.op), .lit (.int .i64 r.clause), .arr (List.map Vl.PathBind.c r.binds), .arr (List.map cI r.path), .arr (List.map Vl.Branch.c r.branches), .arr (List.map Vl.Tree.c r.els)])) ∧
  (∀ (a : List Vl.Tree) (r : List Vl.Tree), F.laws_toTreeS a = some r → PureCall Try.prog B 40 [.arr (List.map Vl.Tree.c a)] (.arr (List.map Vl.Tree.c r))) ∧
  (∀ (a : List Vl.Tree) (out : List Vl.Tree) (i : Nat) (o : List Vl.Tree), F.laws_toTreeS_l1 a out i = some o → ∀ (c : Code), navO [1, 1, 0, 1, 0, 0] (bodyOf Try.f40) = some c → ∀ (Q : Exit → ASt → Prop), (Q (.exit 0) ⟨[(3, .own 0 (List.length (α := Vl.Tree) o))], [.elems 6 (List.map Vl.Tree.c o)]⟩) → ALoopU Try.prog B 0 23 (hold c .mk) ⟨[(0, .arr (List.map Vl.Tree.c a)), (3, .own 0 (List.length (α := Vl.Tree) out)), (4, .lit (.int .i64 (i : Int)))], [.elems 6 (List.map Vl.Tree.c out)]⟩ (hold Q .mk)) ∧
  (∀ (a : List Vl.Branch) (r : List Vl.Branch), F.laws_toBranchS a = some r → PureCall Try.prog B 39 [.arr (List.map Vl.Branch.c a)] (.arr (List.map Vl.Branch.c r))) ∧
  (∀ (a : List Vl.Branch) (out : List Vl.Branch) (i : Nat) (o : List Vl.Branch), F.laws_toBranchS_l1 a out i = some o → ∀ (c : Code), navO [1, 1, 0, 1, 0, 0] (bodyOf Try.f39) = some c → ∀ (Q : Exit → ASt → Prop), (Q (.exit 0) ⟨[(3, .own 0 (List.length (α := Vl.Branch) o))], [.elems 9 (List.map Vl.Branch.c o)]⟩) → ALoopU Try.prog B 0 23 (hold c .mk) ⟨[(0, .arr (List.map Vl.Branch.c a)), (3, .own 0 (List.length (α := Vl.Branch) out)), (4, .lit (.int .i64 (i : Int)))], [.elems 9 (List.map Vl.Branch.c out)]⟩ (hold Q .mk)) := by
 refine F.laws_toBranch.mutual_partial_correctness 
  (fun a r => PureCall Try.prog B 71 [.agg [.lit (.int .i64 a.ctor), .lit (.int .i64 a.n), .lit (.int .i64 a.m), .lit (.int .i64 a.tree.op), .lit (.int .i64 a.tree.clause), .arr (List.map Vl.PathBind.c a.tree.binds), .arr (List.map cI a.tree.path), .arr (List.map Vl.Branch.c a.tree.branches), .arr (List.map Vl.Tree.c a.tree.els)]] (.agg [.lit (.int .i64 r.ctor), .lit (.int .i64 r.n), .lit (.int .i64 r.m), .lit (.int .i64 r.tree.op), .lit (.int .i64 r.tree.clause), .arr (List.map Vl.PathBind.c r.tree.binds), .arr (List.map cI r.tree.path), .arr (List.map Vl.Branch.c r.tree.branches), .arr (List.map Vl.Tree.c r.tree.els)]))
  (fun a r => PureCall Try.prog B 11 [.agg [.lit (.int .i64 a.op), .lit (.int .i64 a.clause), .arr (List.map Vl.PathBind.c a.binds), .arr (List.map cI a.path), .arr (List.map Vl.Branch.c a.branches), .arr (List.map Vl.Tree.c a.els)]] (.agg [.lit (.int .i64 r.op), .lit (.int .i64 r.clause), .arr (List.map Vl.PathBind.c r.binds), .arr (List.map cI r.path), .arr (List.map Vl.Branch.c r.branches), .arr (List.map Vl.Tree.c r.els)]))
  (fun a r => PureCall Try.prog B 40 [.arr (List.map Vl.Tree.c a)] (.arr (List.map Vl.Tree.c r)))
  (fun a out i o => ∀ (c : Code), navO [1, 1, 0, 1, 0, 0] (bodyOf Try.f40) = some c → ∀ (Q : Exit → ASt → Prop), (Q (.exit 0) ⟨[(3, .own 0 (List.length (α := Vl.Tree) o))], [.elems 6 (List.map Vl.Tree.c o)]⟩) → ALoopU Try.prog B 0 23 (hold c .mk) ⟨[(0, .arr (List.map Vl.Tree.c a)), (3, .own 0 (List.length (α := Vl.Tree) out)), (4, .lit (.int .i64 (i : Int)))], [.elems 6 (List.map Vl.Tree.c out)]⟩ (hold Q .mk))
  (fun a r => PureCall Try.prog B 39 [.arr (List.map Vl.Branch.c a)] (.arr (List.map Vl.Branch.c r)))
  (fun a out i o => ∀ (c : Code), navO [1, 1, 0, 1, 0, 0] (bodyOf Try.f39) = some c → ∀ (Q : Exit → ASt → Prop), (Q (.exit 0) ⟨[(3, .own 0 (List.length (α := Vl.Branch) o))], [.elems 9 (List.map Vl.Branch.c o)]⟩) → ALoopU Try.prog B 0 23 (hold c .mk) ⟨[(0, .arr (List.map Vl.Branch.c a)), (3, .own 0 (List.length (α := Vl.Branch) out)), (4, .lit (.int .i64 (i : Int)))], [.elems 9 (List.map Vl.Branch.c out)]⟩ (hold Q .mk))
  ?_ ?_ ?_ ?_ ?_ ?_
 ·intro _f_laws_toTree ih_laws_toTree a r hF
  refine PureCall.enterLe Try.func71 (by kernel_rfl) rfl Try.ntmps71 (by simp) (by simp) ?_
  repeat (first | refine chk.ga ?_ | simp -dsimp)
  have hF := ob hF; obtain ⟨v, e1, hF⟩ := hF
  refine ((ih_laws_toTree a.tree v e1)).goW (by simp) (by simp) ?_
  cases hF
  repeat (first | refine chk.ga ?_ | simp -dsimp)
  all_goals (try omega)
 ·intro _f_laws_toTreeS _f_laws_toBranchS ih_laws_toTreeS ih_laws_toBranchS a r hF
  refine PureCall.enterLe Try.func11 (by kernel_rfl) rfl Try.ntmps11 (by simp) (by simp) ?_
  repeat (first | refine chk.ga ?_ | simp -dsimp)
  have hF := ob hF; obtain ⟨v, e1, hF⟩ := hF
  refine ((C.laws_toPathBindS B hB1 hB2 a.binds v e1)).goW (by simp) (by simp) ?_
  repeat (first | refine chk.ga ?_ | simp -dsimp)
  have hF := ob hF; obtain ⟨v2, e3, hF⟩ := hF
  refine ((C.laws_toIntS B hB1 hB2 a.path v2 e3)).goW (by simp) (by simp) ?_
  repeat (first | refine chk.ga ?_ | simp -dsimp)
  have hF := ob hF; obtain ⟨v4, e5, hF⟩ := hF
  refine ((ih_laws_toBranchS a.branches v4 e5)).goW (by simp) (by simp) ?_
  repeat (first | refine chk.ga ?_ | simp -dsimp)
  have hF := ob hF; obtain ⟨v6, e7, hF⟩ := hF
  refine ((ih_laws_toTreeS a.els v6 e7)).goW (by simp) (by simp) ?_
  cases hF
  repeat (first | refine chk.ga ?_ | simp -dsimp)
  all_goals (try omega)
 ·intro _f_laws_toTreeS_l1 ih_laws_toTreeS_l1 a r hF
  refine PureCall.enterLe Try.func40 (by kernel_rfl) rfl Try.ntmps40 (by simp) (by simp) ?_
  have hF := oc hF; obtain ⟨c1, hF⟩ := hF
  repeat (first | refine chk.ga ?_ | simp -dsimp)
  have hF := ob hF; obtain ⟨o', ho10, hF⟩ := hF
  refine ALoop.goU ⟨[(0, .arr (List.map Vl.Tree.c a)), (3, .own 0 (List.length (α := Vl.Tree) (List.replicate a.length Vl.Tree.z))), (4, .lit (.int .i64 (0 : Int)))], [.elems 6 (List.map Vl.Tree.c (List.replicate a.length Vl.Tree.z))]⟩ (Gh.to3 (by simp) (by simp -dsimp)) ?_
  refine (ih_laws_toTreeS_l1 a (List.replicate a.length Vl.Tree.z) 0 o' ho10) _ rfl _ ?_
  cases hF
  repeat (first | refine chk.ga ?_ | simp -dsimp)
  all_goals (try omega)
 ·intro _f_laws_toTree _f_laws_toTreeS_l1 ih_laws_toTree ih_laws_toTreeS_l1 a out i o hF
  intro c hc Q hq
  obtain rfl : c = _ := navEq hc rfl
  refine ALoopU.know fun hk hs => ?_
  have b0 := hk 0
  simp -dsimp at b0
  have d0 := hs 0 _ rfl
  simp -dsimp [Blk.bnd] at d0
  clear hk hs
  refine ALoopU.enter ?_
  repeat (first | refine chk.ga ?_ | simp -dsimp)
  refine abr.split (fun h2 => ?_) (fun h2 => ?_)
  ·have q3 : (i < a.length) := auq h2
   have z4 : ((i : Int) < (a.length : Int)) := auz
   rw [if_pos q3] at hF
   have hF := ob hF; obtain ⟨x, e5, hF⟩ := hF
   have le5 := lt_of_get e5
   repeat (first | refine chk.ga ?_ | simp -dsimp [h2, z4, ↓e5])
   have hF := ob hF; obtain ⟨v, e6, hF⟩ := hF
   refine ((ih_laws_toTree x v e6)).goW (by first | simp [h2, z4, ↓e5]; done | simp_all) (by simp) ?_
   have hF := ob hF; obtain ⟨x7, e8, hF⟩ := hF
   have le8 := lt_of_get e8
   have w9 : IntKind.i64.wrap ((i : Int) + 1) = (i : Int) + 1 := wrap_in (by omega) (by omega)
   repeat (first | refine chk.ga ?_ | simp -dsimp [h2, z4, ↓e5, ↓e8, w9])
   refine Again.go ⟨[(0, .arr (List.map Vl.Tree.c a)), (3, .own 0 (List.length (α := Vl.Tree) (out.set i v))), (4, .lit (.int .i64 ((i + 1) : Int)))], [.elems 6 (List.map Vl.Tree.c (out.set i v))]⟩ (Gh.to3 (by simp) (by first | simp -dsimp [h2, z4, ↓e5, ↓e8, w9]; done | simp_all)) ?_
   exact (ih_laws_toTreeS_l1 a (out.set i v) (i + 1) o hF) _ rfl _ hq
  ·have q3 : ¬ (i < a.length) := auq h2
   have z4 : ¬ ((i : Int) < (a.length : Int)) := auz
   rw [if_neg q3] at hF
   cases hF
   repeat (first | refine chk.ga ?_ | simp -dsimp [h2, q3, z4])
   refine Leave.go ⟨[(3, .own 0 (List.length (α := Vl.Tree) out))], [.elems 6 (List.map Vl.Tree.c out)]⟩ (Gh.to3 (by simp) (by first | simp -dsimp [h2, q3, z4]; done | simp_all)) ?_
   exact hq
 ·intro _f_laws_toBranchS_l1 ih_laws_toBranchS_l1 a r hF
  refine PureCall.enterLe Try.func39 (by kernel_rfl) rfl Try.ntmps39 (by simp) (by simp) ?_
  have hF := oc hF; obtain ⟨c1, hF⟩ := hF
  repeat (first | refine chk.ga ?_ | simp -dsimp)
  have hF := ob hF; obtain ⟨o', ho10, hF⟩ := hF
  refine ALoop.goU ⟨[(0, .arr (List.map Vl.Branch.c a)), (3, .own 0 (List.length (α := Vl.Branch) (List.replicate a.length Vl.Branch.z))), (4, .lit (.int .i64 (0 : Int)))], [.elems 9 (List.map Vl.Branch.c (List.replicate a.length Vl.Branch.z))]⟩ (Gh.to3 (by simp) (by simp -dsimp)) ?_
  refine (ih_laws_toBranchS_l1 a (List.replicate a.length Vl.Branch.z) 0 o' ho10) _ rfl _ ?_
  cases hF
  repeat (first | refine chk.ga ?_ | simp -dsimp)
  all_goals (try omega)
 ·intro _f_laws_toBranch _f_laws_toBranchS_l1 ih_laws_toBranch ih_laws_toBranchS_l1 a out i o hF
  intro c hc Q hq
  obtain rfl : c = _ := navEq hc rfl
  refine ALoopU.know fun hk hs => ?_
  have b0 := hk 0
  simp -dsimp at b0
  have d0 := hs 0 _ rfl
  simp -dsimp [Blk.bnd] at d0
  clear hk hs
  refine ALoopU.enter ?_
  repeat (first | refine chk.ga ?_ | simp -dsimp)
  refine abr.split (fun h2 => ?_) (fun h2 => ?_)
  ·have q3 : (i < a.length) := auq h2
   have z4 : ((i : Int) < (a.length : Int)) := auz
   rw [if_pos q3] at hF
   have hF := ob hF; obtain ⟨x, e5, hF⟩ := hF
   have le5 := lt_of_get e5
   repeat (first | refine chk.ga ?_ | simp -dsimp [h2, z4, ↓e5])
   have hF := ob hF; obtain ⟨v, e6, hF⟩ := hF
   refine ((ih_laws_toBranch x v e6)).goW (by first | simp [h2, z4, ↓e5]; done | simp_all) (by simp) ?_
   have hF := ob hF; obtain ⟨x7, e8, hF⟩ := hF
   have le8 := lt_of_get e8
   have w9 : IntKind.i64.wrap ((i : Int) + 1) = (i : Int) + 1 := wrap_in (by omega) (by omega)
   repeat (first | refine chk.ga ?_ | simp -dsimp [h2, z4, ↓e5, ↓e8, w9])
   refine Again.go ⟨[(0, .arr (List.map Vl.Branch.c a)), (3, .own 0 (List.length (α := Vl.Branch) (out.set i v))), (4, .lit (.int .i64 ((i + 1) : Int)))], [.elems 9 (List.map Vl.Branch.c (out.set i v))]⟩ (Gh.to3 (by simp) (by first | simp -dsimp [h2, z4, ↓e5, ↓e8, w9]; done | simp_all)) ?_
   exact (ih_laws_toBranchS_l1 a (out.set i v) (i + 1) o hF) _ rfl _ hq
  ·have q3 : ¬ (i < a.length) := auq h2
   have z4 : ¬ ((i : Int) < (a.length : Int)) := auz
   rw [if_neg q3] at hF
   cases hF
   repeat (first | refine chk.ga ?_ | simp -dsimp [h2, q3, z4])
   refine Leave.go ⟨[(3, .own 0 (List.length (α := Vl.Branch) out))], [.elems 9 (List.map Vl.Branch.c out)]⟩ (Gh.to3 (by simp) (by first | simp -dsimp [h2, q3, z4]; done | simp_all)) ?_
   exact hq

theorem C.laws_toBranch (B : Nat) (hB1 : 67108864 ≤ B) (hB2 : B ≤ 9223372036854775807) (a : Vl.Branch) (r : Vl.Branch) (hF : F.laws_toBranch a = some r) : PureCall Try.prog B 71 [.agg [.lit (.int .i64 a.ctor), .lit (.int .i64 a.n), .lit (.int .i64 a.m), .lit (.int .i64 a.tree.op), .lit (.int .i64 a.tree.clause), .arr (List.map Vl.PathBind.c a.tree.binds), .arr (List.map cI a.tree.path), .arr (List.map Vl.Branch.c a.tree.branches), .arr (List.map Vl.Tree.c a.tree.els)]] (.agg [.lit (.int .i64 r.ctor), .lit (.int .i64 r.n), .lit (.int .i64 r.m), .lit (.int .i64 r.tree.op), .lit (.int .i64 r.tree.clause), .arr (List.map Vl.PathBind.c r.tree.binds), .arr (List.map cI r.tree.path), .arr (List.map Vl.Branch.c r.tree.branches), .arr (List.map Vl.Tree.c r.tree.els)]) :=
 (CC.laws_toBranch B hB1 hB2 ).1 a r hF

theorem C.laws_toTree (B : Nat) (hB1 : 67108864 ≤ B) (hB2 : B ≤ 9223372036854775807) (a : Vl.Tree) (r : Vl.Tree) (hF : F.laws_toTree a = some r) : PureCall Try.prog B 11 [.agg [.lit (.int .i64 a.op), .lit (.int .i64 a.clause), .arr (List.map Vl.PathBind.c a.binds), .arr (List.map cI a.path), .arr (List.map Vl.Branch.c a.branches), .arr (List.map Vl.Tree.c a.els)]] (.agg [.lit (.int .i64 r.op), .lit (.int .i64 r.clause), .arr (List.map Vl.PathBind.c r.binds), .arr (List.map cI r.path), .arr (List.map Vl.Branch.c r.branches), .arr (List.map Vl.Tree.c r.els)]) :=
 (CC.laws_toBranch B hB1 hB2 ).2.1 a r hF

theorem C.laws_toTreeS (B : Nat) (hB1 : 67108864 ≤ B) (hB2 : B ≤ 9223372036854775807) (a : List Vl.Tree) (r : List Vl.Tree) (hF : F.laws_toTreeS a = some r) : PureCall Try.prog B 40 [.arr (List.map Vl.Tree.c a)] (.arr (List.map Vl.Tree.c r)) :=
 (CC.laws_toBranch B hB1 hB2 ).2.2.1 a r hF

theorem C.laws_toTreeS_l1 (B : Nat) (hB1 : 67108864 ≤ B) (hB2 : B ≤ 9223372036854775807) (a : List Vl.Tree) (out : List Vl.Tree) (i : Nat) (o : List Vl.Tree) (hF : F.laws_toTreeS_l1 a out i = some o) : ∀ (c : Code), navO [1, 1, 0, 1, 0, 0] (bodyOf Try.f40) = some c → ∀ (Q : Exit → ASt → Prop), (Q (.exit 0) ⟨[(3, .own 0 (List.length (α := Vl.Tree) o))], [.elems 6 (List.map Vl.Tree.c o)]⟩) → ALoopU Try.prog B 0 23 (hold c .mk) ⟨[(0, .arr (List.map Vl.Tree.c a)), (3, .own 0 (List.length (α := Vl.Tree) out)), (4, .lit (.int .i64 (i : Int)))], [.elems 6 (List.map Vl.Tree.c out)]⟩ (hold Q .mk) :=
 (CC.laws_toBranch B hB1 hB2 ).2.2.2.1 a out i o hF

theorem C.laws_toBranchS (B : Nat) (hB1 : 67108864 ≤ B) (hB2 : B ≤ 9223372036854775807) (a : List Vl.Branch) (r : List Vl.Branch) (hF : F.laws_toBranchS a = some r) : PureCall Try.prog B 39 [.arr (List.map Vl.Branch.c a)] (.arr (List.map Vl.Branch.c r)) :=
 (CC.laws_toBranch B hB1 hB2 ).2.2.2.2.1 a r hF

theorem C.laws_toBranchS_l1 (B : Nat) (hB1 : 67108864 ≤ B) (hB2 : B ≤ 9223372036854775807) (a : List Vl.Branch) (out : List Vl.Branch) (i : Nat) (o : List Vl.Branch) (hF : F.laws_toBranchS_l1 a out i = some o) : ∀ (c : Code), navO [1, 1, 0, 1, 0, 0] (bodyOf Try.f39) = some c → ∀ (Q : Exit → ASt → Prop), (Q (.exit 0) ⟨[(3, .own 0 (List.length (α := Vl.Branch) o))], [.elems 9 (List.map Vl.Branch.c o)]⟩) → ALoopU Try.prog B 0 23 (hold c .mk) ⟨[(0, .arr (List.map Vl.Branch.c a)), (3, .own 0 (List.length (α := Vl.Branch) out)), (4, .lit (.int .i64 (i : Int)))], [.elems 9 (List.map Vl.Branch.c out)]⟩ (hold Q .mk) :=
 (CC.laws_toBranch B hB1 hB2 ).2.2.2.2.2 a out i o hF

set_option maxRecDepth 100000 in
set_option maxHeartbeats 4000000 in
theorem CC.spec_l7Leaves (B : Nat) (hB1 : 67108864 ≤ B) (hB2 : B ≤ 9223372036854775807)  : (∀ (flags : List Bool) (x : Vl.Tree) (r : List Bool), F.spec_l7Leaves flags x = some r → BCall Try.prog B 57 [.elems 1 (List.map cB flags)] [.own 0 (List.length (α := Bool) flags), .agg [.lit (.int .i64 x.op), .lit (.int .i64 x.clause), .arr (List.map Vl.PathBind.c x.binds), .arr (List.map cI x.path), .arr (List.map Vl.Branch.c x.branches), .arr (List.map Vl.Tree.c x.els)]] (.own 0 (List.length (α := Bool) r)) [.elems 1 (List.map cB r)]) ∧
  (∀ (x : Vl.Tree) (flags90 : List Bool) (i91 : Nat) (o : List Bool), F.spec_l7Leaves_l8 x flags90 i91 = some o → ∀ (c : Code), navO [1, 1, 1, 0, 1, 0, 0] (bodyOf Try.f57) = some c → ∀ (Q : Exit → ASt → Prop), (Q (.exit 2) ⟨[(0, .own 0 (List.length (α := Bool) o))], [.elems 1 (List.map cB o)]⟩) → ALoopU Try.prog B 1 56 (hold c .mk) ⟨[(0, .own 0 (List.length (α := Bool) flags90)), (3, .ptr 1 0), (6, .lit (.int .i64 (i91 : Int)))], [.elems 1 (List.map cB flags90), .cells [.lit (.int .i64 x.op), .lit (.int .i64 x.clause), .arr (List.map Vl.PathBind.c x.binds), .arr (List.map cI x.path), .arr (List.map Vl.Branch.c x.branches), .arr (List.map Vl.Tree.c x.els)]]⟩ (hold Q .mk)) ∧
  (∀ (x : Vl.Tree) (flags78 : List Bool) (i79 : Nat) (o : List Bool), F.spec_l7Leaves_l7 x flags78 i79 = some o → ∀ (c : Code), navO [1, 1, 0, 1, 0, 0] (bodyOf Try.f57) = some c → ∀ (Q : Exit → ASt → Prop), (Q (.exit 0) ⟨[(0, .own 0 (List.length (α := Bool) o)), (3, .ptr 1 0)], [.elems 1 (List.map cB o), .cells [.lit (.int .i64 x.op), .lit (.int .i64 x.clause), .arr (List.map Vl.PathBind.c x.binds), .arr (List.map cI x.path), .arr (List.map Vl.Branch.c x.branches), .arr (List.map Vl.Tree.c x.els)]]⟩) → ALoopU Try.prog B 1 56 (hold c .mk) ⟨[(0, .own 0 (List.length (α := Bool) flags78)), (3, .ptr 1 0), (5, .lit (.int .i64 (i79 : Int)))], [.elems 1 (List.map cB flags78), .cells [.lit (.int .i64 x.op), .lit (.int .i64 x.clause), .arr (List.map Vl.PathBind.c x.binds), .arr (List.map cI x.path), .arr (List.map Vl.Branch.c x.branches), .arr (List.map Vl.Tree.c x.els)]]⟩ (hold Q .mk)) ∧
  (∀ (x : Vl.Tree) (flags66 : List Bool) (i67 : Nat) (o : List Bool), F.spec_l7Leaves_l6 x flags66 i67 = some o → ∀ (c : Code), navO [1, 1, 1, 0, 1, 0, 0] (bodyOf Try.f57) = some c → ∀ (Q : Exit → ASt → Prop), (Q (.exit 2) ⟨[(0, .own 0 (List.length (α := Bool) o))], [.elems 1 (List.map cB o)]⟩) → ALoopU Try.prog B 1 56 (hold c .mk) ⟨[(0, .own 0 (List.length (α := Bool) flags66)), (3, .ptr 1 0), (6, .lit (.int .i64 (i67 : Int)))], [.elems 1 (List.map cB flags66), .cells [.lit (.int .i64 x.op), .lit (.int .i64 x.clause), .arr (List.map Vl.PathBind.c x.binds), .arr (List.map cI x.path), .arr (List.map Vl.Branch.c x.branches), .arr (List.map Vl.Tree.c x.els)]]⟩ (hold Q .mk)) ∧
  (∀ (x : Vl.Tree) (flags54 : List Bool) (i55 : Nat) (o : List Bool), F.spec_l7Leaves_l5 x flags54 i55 = some o → ∀ (c : Code), navO [1, 1, 0, 1, 0, 0] (bodyOf Try.f57) = some c → ∀ (Q : Exit → ASt → Prop), (Q (.exit 0) ⟨[(0, .own 0 (List.length (α := Bool) o)), (3, .ptr 1 0)], [.elems 1 (List.map cB o), .cells [.lit (.int .i64 x.op), .lit (.int .i64 x.clause), .arr (List.map Vl.PathBind.c x.binds), .arr (List.map cI x.path), .arr (List.map Vl.Branch.c x.branches), .arr (List.map Vl.Tree.c x.els)]]⟩) → ALoopU Try.prog B 1 56 (hold c .mk) ⟨[(0, .own 0 (List.length (α := Bool) flags54)), (3, .ptr 1 0), (5, .lit (.int .i64 (i55 : Int)))], [.elems 1 (List.map cB flags54), .cells [.lit (.int .i64 x.op), .lit (.int .i64 x.clause), .arr (List.map Vl.PathBind.c x.binds), .arr (List.map cI x.path), .arr (List.map Vl.Branch.c x.branches), .arr (List.map Vl.Tree.c x.els)]]⟩ (hold Q .mk)) ∧
  (∀ (x : Vl.Tree) (flags42 : List Bool) (i43 : Nat) (o : List Bool), F.spec_l7Leaves_l4 x flags42 i43 = some o → ∀ (c : Code), navO [1, 1, 1, 0, 1, 0, 0] (bodyOf Try.f57) = some c → ∀ (Q : Exit → ASt → Prop), (Q (.exit 2) ⟨[(0, .own 0 (List.length (α := Bool) o))], [.elems 1 (List.map cB o)]⟩) → ALoopU Try.prog B 1 56 (hold c .mk) ⟨[(0, .own 0 (List.length (α := Bool) flags42)), (3, .ptr 1 0), (6, .lit (.int .i64 (i43 : Int)))], [.elems 1 (List.map cB flags42), .cells [.lit (.int .i64 x.op), .lit (.int .i64 x.clause), .arr (List.map Vl.PathBind.c x.binds), .arr (List.map cI x.path), .arr (List.map Vl.Branch.c x.branches), .arr (List.map Vl.Tree.c x.els)]]⟩ (hold Q .mk)) ∧
  (∀ (x : Vl.Tree) (flags30 : List Bool) (i31 : Nat) (o : List Bool), F.spec_l7Leaves_l3 x flags30 i31 = some o → ∀ (c : Code), navO [1, 1, 0, 1, 0, 0] (bodyOf Try.f57) = some c → ∀ (Q : Exit → ASt → Prop), (Q (.exit 0) ⟨[(0, .own 0 (List.length (α := Bool) o)), (3, .ptr 1 0)], [.elems 1 (List.map cB o), .cells [.lit (.int .i64 x.op), .lit (.int .i64 x.clause), .arr (List.map Vl.PathBind.c x.binds), .arr (List.map cI x.path), .arr (List.map Vl.Branch.c x.branches), .arr (List.map Vl.Tree.c x.els)]]⟩) → ALoopU Try.prog B 1 56 (hold c .mk) ⟨[(0, .own 0 (List.length (α := Bool) flags30)), (3, .ptr 1 0), (5, .lit (.int .i64 (i31 : Int)))], [.elems 1 (List.map cB flags30), .cells [.lit (.int .i64 x.op), .lit (.int .i64 x.clause), .arr (List.map Vl.PathBind.c x.binds), .arr (List.map cI x.path), .arr (List.map Vl.Branch.c x.branches), .arr (List.map Vl.Tree.c x.els)]]⟩ (hold Q .mk)) ∧
  (∀ (x : Vl.Tree) (flags18 : List Bool) (i19 : Nat) (o : List Bool), F.spec_l7Leaves_l2 x flags18 i19 = some o → ∀ (c : Code), navO [1, 1, 1, 0, 1, 0, 0] (bodyOf Try.f57) = some c → ∀ (Q : Exit → ASt → Prop), (Q (.exit 2) ⟨[(0, .own 0 (List.length (α := Bool) o))], [.elems 1 (List.map cB o)]⟩) → ALoopU Try.prog B 1 56 (hold c .mk) ⟨[(0, .own 0 (List.length (α := Bool) flags18)), (3, .ptr 1 0), (6, .lit (.int .i64 (i19 : Int)))], [.elems 1 (List.map cB flags18), .cells [.lit (.int .i64 x.op), .lit (.int .i64 x.clause), .arr (List.map Vl.PathBind.c x.binds), .arr (List.map cI x.path), .arr (List.map Vl.Branch.c x.branches), .arr (List.map Vl.Tree.c x.els)]]⟩ (hold Q .mk)) ∧
  (∀ (x : Vl.Tree) (flags9 : List Bool) (i : Nat) (o : List Bool), F.spec_l7Leaves_l1 x flags9 i = some o → ∀ (c : Code), navO [1, 1, 0, 1, 0, 0] (bodyOf Try.f57) = some c → ∀ (Q : Exit → ASt → Prop), (Q (.exit 0) ⟨[(0, .own 0 (List.length (α := Bool) o)), (3, .ptr 1 0)], [.elems 1 (List.map cB o), .cells [.lit (.int .i64 x.op), .lit (.int .i64 x.clause), .arr (List.map Vl.PathBind.c x.binds), .arr (List.map cI x.path), .arr (List.map Vl.Branch.c x.branches), .arr (List.map Vl.Tree.c x.els)]]⟩) → ALoopU Try.prog B 1 56 (hold c .mk) ⟨[(0, .own 0 (List.length (α := Bool) flags9)), (3, .ptr 1 0), (5, .lit (.int .i64 (i : Int)))], [.elems 1 (List.map cB flags9), .cells [.lit (.int .i64 x.op), .lit (.int .i64 x.clause), .arr (List.map Vl.PathBind.c x.binds), .arr (List.map cI x.path), .arr (List.map Vl.Branch.c x.branches), .arr (List.map Vl.Tree.c x.els)]]⟩ (hold Q .mk)) := by
 refine F.spec_l7Leaves.mutual_partial_correctness 
  (fun flags x r => BCall Try.prog B 57 [.elems 1 (List.map cB flags)] [.own 0 (List.length (α := Bool) flags), .agg [.lit (.int .i64 x.op), .lit (.int .i64 x.clause), .arr (List.map Vl.PathBind.c x.binds), .arr (List.map cI x.path), .arr (List.map Vl.Branch.c x.branches), .arr (List.map Vl.Tree.c x.els)]] (.own 0 (List.length (α := Bool) r)) [.elems 1 (List.map cB r)])
  (fun x flags90 i91 o => ∀ (c : Code), navO [1, 1, 1, 0, 1, 0, 0] (bodyOf Try.f57) = some c → ∀ (Q : Exit → ASt → Prop), (Q (.exit 2) ⟨[(0, .own 0 (List.length (α := Bool) o))], [.elems 1 (List.map cB o)]⟩) → ALoopU Try.prog B 1 56 (hold c .mk) ⟨[(0, .own 0 (List.length (α := Bool) flags90)), (3, .ptr 1 0), (6, .lit (.int .i64 (i91 : Int)))], [.elems 1 (List.map cB flags90), .cells [.lit (.int .i64 x.op), .lit (.int .i64 x.clause), .arr (List.map Vl.PathBind.c x.binds), .arr (List.map cI x.path), .arr (List.map Vl.Branch.c x.branches), .arr (List.map Vl.Tree.c x.els)]]⟩ (hold Q .mk))
  (fun x flags78 i79 o => ∀ (c : Code), navO [1, 1, 0, 1, 0, 0] (bodyOf Try.f57) = some c → ∀ (Q : Exit → ASt → Prop), (Q (.exit 0) ⟨[(0, .own 0 (List.length (α := Bool) o)), (3, .ptr 1 0)], [.elems 1 (List.map cB o), .cells [.lit (.int .i64 x.op), .lit (.int .i64 x.clause), .arr (List.map Vl.PathBind.c x.binds), .arr (List.map cI x.path), .arr (List.map Vl.Branch.c x.branches), .arr (List.map Vl.Tree.c x.els)]]⟩) → ALoopU Try.prog B 1 56 (hold c .mk) ⟨[(0, .own 0 (List.length (α := Bool) flags78)), (3, .ptr 1 0), (5, .lit (.int .i64 (i79 : Int)))], [.elems 1 (List.map cB flags78), .cells [.lit (.int .i64 x.op), .lit (.int .i64 x.clause), .arr (List.map Vl.PathBind.c x.binds), .arr (List.map cI x.path), .arr (List.map Vl.Branch.c x.branches), .arr (List.map Vl.Tree.c x.els)]]⟩ (hold Q .mk))
  (fun x flags66 i67 o => ∀ (c : Code), navO [1, 1, 1, 0, 1, 0, 0] (bodyOf Try.f57) = some c → ∀ (Q : Exit → ASt → Prop), (Q (.exit 2) ⟨[(0, .own 0 (List.length (α := Bool) o))], [.elems 1 (List.map cB o)]⟩) → ALoopU Try.prog B 1 56 (hold c .mk) ⟨[(0, .own 0 (List.length (α := Bool) flags66)), (3, .ptr 1 0), (6, .lit (.int .i64 (i67 : Int)))], [.elems 1 (List.map cB flags66), .cells [.lit (.int .i64 x.op), .lit (.int .i64 x.clause), .arr (List.map Vl.PathBind.c x.binds), .arr (List.map cI x.path), .arr (List.map Vl.Branch.c x.branches), .arr (List.map Vl.Tree.c x.els)]]⟩ (hold Q .mk))
  (fun x flags54 i55 o => ∀ (c : Code), navO [1, 1, 0, 1, 0, 0] (bodyOf Try.f57) = some c → ∀ (Q : Exit → ASt → Prop), (Q (.exit 0) ⟨[(0, .own 0 (List.length (α := Bool) o)), (3, .ptr 1 0)], [.elems 1 (List.map cB o), .cells [.lit (.int .i64 x.op), .lit (.int .i64 x.clause), .arr (List.map Vl.PathBind.c x.binds), .arr (List.map cI x.path), .arr (List.map Vl.Branch.c x.branches), .arr (List.map Vl.Tree.c x.els)]]⟩) → ALoopU Try.prog B 1 56 (hold c .mk) ⟨[(0, .own 0 (List.length (α := Bool) flags54)), (3, .ptr 1 0), (5, .lit (.int .i64 (i55 : Int)))], [.elems 1 (List.map cB flags54), .cells [.lit (.int .i64 x.op), .lit (.int .i64 x.clause), .arr (List.map Vl.PathBind.c x.binds), .arr (List.map cI x.path), .arr (List.map Vl.Branch.c x.branches), .arr (List.map Vl.Tree.c x.els)]]⟩ (hold Q .mk))
  (fun x flags42 i43 o => ∀ (c : Code), navO [1, 1, 1, 0, 1, 0, 0] (bodyOf Try.f57) = some c → ∀ (Q : Exit → ASt → Prop), (Q (.exit 2) ⟨[(0, .own 0 (List.length (α := Bool) o))], [.elems 1 (List.map cB o)]⟩) → ALoopU Try.prog B 1 56 (hold c .mk) ⟨[(0, .own 0 (List.length (α := Bool) flags42)), (3, .ptr 1 0), (6, .lit (.int .i64 (i43 : Int)))], [.elems 1 (List.map cB flags42), .cells [.lit (.int .i64 x.op), .lit (.int .i64 x.clause), .arr (List.map Vl.PathBind.c x.binds), .arr (List.map cI x.path), .arr (List.map Vl.Branch.c x.branches), .arr (List.map Vl.Tree.c x.els)]]⟩ (hold Q .mk))
  (fun x flags30 i31 o => ∀ (c : Code), navO [1, 1, 0, 1, 0, 0] (bodyOf Try.f57) = some c → ∀ (Q : Exit → ASt → Prop), (Q (.exit 0) ⟨[(0, .own 0 (List.length (α := Bool) o)), (3, .ptr 1 0)], [.elems 1 (List.map cB o), .cells [.lit (.int .i64 x.op), .lit (.int .i64 x.clause), .arr (List.map Vl.PathBind.c x.binds), .arr (List.map cI x.path), .arr (List.map Vl.Branch.c x.branches), .arr (List.map Vl.Tree.c x.els)]]⟩) → ALoopU Try.prog B 1 56 (hold c .mk) ⟨[(0, .own 0 (List.length (α := Bool) flags30)), (3, .ptr 1 0), (5, .lit (.int .i64 (i31 : Int)))], [.elems 1 (List.map cB flags30), .cells [.lit (.int .i64 x.op), .lit (.int .i64 x.clause), .arr (List.map Vl.PathBind.c x.binds), .arr (List.map cI x.path), .arr (List.map Vl.Branch.c x.branches), .arr (List.map Vl.Tree.c x.els)]]⟩ (hold Q .mk))
  (fun x flags18 i19 o => ∀ (c : Code), navO [1, 1, 1, 0, 1, 0, 0] (bodyOf Try.f57) = some c → ∀ (Q : Exit → ASt → Prop), (Q (.exit 2) ⟨[(0, .own 0 (List.length (α := Bool) o))], [.elems 1 (List.map cB o)]⟩) → ALoopU Try.prog B 1 56 (hold c .mk) ⟨[(0, .own 0 (List.length (α := Bool) flags18)), (3, .ptr 1 0), (6, .lit (.int .i64 (i19 : Int)))], [.elems 1 (List.map cB flags18), .cells [.lit (.int .i64 x.op), .lit (.int .i64 x.clause), .arr (List.map Vl.PathBind.c x.binds), .arr (List.map cI x.path), .arr (List.map Vl.Branch.c x.branches), .arr (List.map Vl.Tree.c x.els)]]⟩ (hold Q .mk))
  (fun x flags9 i o => ∀ (c : Code), navO [1, 1, 0, 1, 0, 0] (bodyOf Try.f57) = some c → ∀ (Q : Exit → ASt → Prop), (Q (.exit 0) ⟨[(0, .own 0 (List.length (α := Bool) o)), (3, .ptr 1 0)], [.elems 1 (List.map cB o), .cells [.lit (.int .i64 x.op), .lit (.int .i64 x.clause), .arr (List.map Vl.PathBind.c x.binds), .arr (List.map cI x.path), .arr (List.map Vl.Branch.c x.branches), .arr (List.map Vl.Tree.c x.els)]]⟩) → ALoopU Try.prog B 1 56 (hold c .mk) ⟨[(0, .own 0 (List.length (α := Bool) flags9)), (3, .ptr 1 0), (5, .lit (.int .i64 (i : Int)))], [.elems 1 (List.map cB flags9), .cells [.lit (.int .i64 x.op), .lit (.int .i64 x.clause), .arr (List.map Vl.PathBind.c x.binds), .arr (List.map cI x.path), .arr (List.map Vl.Branch.c x.branches), .arr (List.map Vl.Tree.c x.els)]]⟩ (hold Q .mk))
  ?_ ?_ ?_ ?_ ?_ ?_ ?_ ?_ ?_
 ·intro _f_spec_l7Leaves_l8 _f_spec_l7Leaves_l7 _f_spec_l7Leaves_l6 _f_spec_l7Leaves_l5 _f_spec_l7Leaves_l4 _f_spec_l7Leaves_l3 _f_spec_l7Leaves_l2 _f_spec_l7Leaves_l1 ih_spec_l7Leaves_l8 ih_spec_l7Leaves_l7 ih_spec_l7Leaves_l6 ih_spec_l7Leaves_l5 ih_spec_l7Leaves_l4 ih_spec_l7Leaves_l3 ih_spec_l7Leaves_l2 ih_spec_l7Leaves_l1 flags x r hF
  refine BCall.enter Try.func57 (by kernel_rfl) rfl Try.ntmps57 (by simp) rfl (by simp) (by simp) (by simp) (by simp) (by simp) (Gh.refl _) ?_
  repeat (first | refine chk.ga ?_ | simp -dsimp)
  refine abr.split (fun h1 => ?_) (fun h1 => ?_)
  ·have q2 : (x.op = 1) := auq h1
   rw [if_pos q2] at hF
   repeat (first | refine chk.ga ?_ | simp -dsimp [h1])
   refine abr.split (fun h3 => ?_) (fun h3 => ?_)
   ·have q4 : (0 ≤ x.clause) := auq h3
    rw [if_pos q4] at hF
    repeat (first | refine chk.ga ?_ | simp -dsimp [h1, h3])
    refine abr.split (fun h5 => ?_) (fun h5 => ?_)
    ·have q6 : (x.clause < (flags.length : Int)) := auq h5
     rw [if_pos q6] at hF
     have hF := ob hF; obtain ⟨x7, e8a, hF⟩ := hF
     have e8a := at_some e8a; obtain ⟨ne8, e8⟩ := e8a
     have le8 := lt_of_get e8
     repeat (first | refine chk.ga ?_ | simp -dsimp [h1, h3, h5, ↓e8])
     have hF := ob hF; obtain ⟨o', ho17, hF⟩ := hF
     refine ALoop.goU ⟨[(0, .own 0 (List.length (α := Bool) (flags.set x.clause.toNat true))), (3, .ptr 1 0), (5, .lit (.int .i64 (0 : Int)))], [.elems 1 (List.map cB (flags.set x.clause.toNat true)), .cells [.lit (.int .i64 x.op), .lit (.int .i64 x.clause), .arr (List.map Vl.PathBind.c x.binds), .arr (List.map cI x.path), .arr (List.map Vl.Branch.c x.branches), .arr (List.map Vl.Tree.c x.els)]]⟩ (Gh.to3 (by simp) (by first | simp -dsimp [h1, h3, h5, ↓e8]; done | simp_all)) ?_
     refine (ih_spec_l7Leaves_l1 x (flags.set x.clause.toNat true) 0 o' ho17) _ rfl _ ?_
     repeat (first | refine chk.ga ?_ | simp -dsimp)
     have hF := ob hF; obtain ⟨o'29, ho28, hF⟩ := hF
     refine ALoop.goU ⟨[(0, .own 0 (List.length (α := Bool) o')), (3, .ptr 1 0), (6, .lit (.int .i64 (0 : Int)))], [.elems 1 (List.map cB o'), .cells [.lit (.int .i64 x.op), .lit (.int .i64 x.clause), .arr (List.map Vl.PathBind.c x.binds), .arr (List.map cI x.path), .arr (List.map Vl.Branch.c x.branches), .arr (List.map Vl.Tree.c x.els)]]⟩ (Gh.to3 (by simp) (by simp -dsimp)) ?_
     refine (ih_spec_l7Leaves_l2 x o' 0 o'29 ho28) _ rfl _ ?_
     cases hF
     repeat (first | refine chk.ga ?_ | simp -dsimp)
     all_goals (try omega)
    ·have q6 : ¬ (x.clause < (flags.length : Int)) := auq h5
     rw [if_neg q6] at hF
     repeat (first | refine chk.ga ?_ | simp -dsimp [h1, h3, h5, q6])
     have hF := ob hF; obtain ⟨o'41, ho40, hF⟩ := hF
     refine ALoop.goU ⟨[(0, .own 0 (List.length (α := Bool) flags)), (3, .ptr 1 0), (5, .lit (.int .i64 (0 : Int)))], [.elems 1 (List.map cB flags), .cells [.lit (.int .i64 x.op), .lit (.int .i64 x.clause), .arr (List.map Vl.PathBind.c x.binds), .arr (List.map cI x.path), .arr (List.map Vl.Branch.c x.branches), .arr (List.map Vl.Tree.c x.els)]]⟩ (Gh.to3 (by simp) (by first | simp -dsimp [h1, h3, h5, q6]; done | simp_all)) ?_
     refine (ih_spec_l7Leaves_l3 x flags 0 o'41 ho40) _ rfl _ ?_
     repeat (first | refine chk.ga ?_ | simp -dsimp)
     have hF := ob hF; obtain ⟨o'53, ho52, hF⟩ := hF
     refine ALoop.goU ⟨[(0, .own 0 (List.length (α := Bool) o'41)), (3, .ptr 1 0), (6, .lit (.int .i64 (0 : Int)))], [.elems 1 (List.map cB o'41), .cells [.lit (.int .i64 x.op), .lit (.int .i64 x.clause), .arr (List.map Vl.PathBind.c x.binds), .arr (List.map cI x.path), .arr (List.map Vl.Branch.c x.branches), .arr (List.map Vl.Tree.c x.els)]]⟩ (Gh.to3 (by simp) (by simp -dsimp)) ?_
     refine (ih_spec_l7Leaves_l4 x o'41 0 o'53 ho52) _ rfl _ ?_
     cases hF
     repeat (first | refine chk.ga ?_ | simp -dsimp)
     all_goals (try omega)
   ·have q4 : ¬ (0 ≤ x.clause) := auq h3
    rw [if_neg q4] at hF
    repeat (first | refine chk.ga ?_ | simp -dsimp [h1, h3, q4])
    have hF := ob hF; obtain ⟨o'65, ho64, hF⟩ := hF
    refine ALoop.goU ⟨[(0, .own 0 (List.length (α := Bool) flags)), (3, .ptr 1 0), (5, .lit (.int .i64 (0 : Int)))], [.elems 1 (List.map cB flags), .cells [.lit (.int .i64 x.op), .lit (.int .i64 x.clause), .arr (List.map Vl.PathBind.c x.binds), .arr (List.map cI x.path), .arr (List.map Vl.Branch.c x.branches), .arr (List.map Vl.Tree.c x.els)]]⟩ (Gh.to3 (by simp) (by first | simp -dsimp [h1, h3, q4]; done | simp_all)) ?_
    refine (ih_spec_l7Leaves_l5 x flags 0 o'65 ho64) _ rfl _ ?_
    repeat (first | refine chk.ga ?_ | simp -dsimp)
    have hF := ob hF; obtain ⟨o'77, ho76, hF⟩ := hF
    refine ALoop.goU ⟨[(0, .own 0 (List.length (α := Bool) o'65)), (3, .ptr 1 0), (6, .lit (.int .i64 (0 : Int)))], [.elems 1 (List.map cB o'65), .cells [.lit (.int .i64 x.op), .lit (.int .i64 x.clause), .arr (List.map Vl.PathBind.c x.binds), .arr (List.map cI x.path), .arr (List.map Vl.Branch.c x.branches), .arr (List.map Vl.Tree.c x.els)]]⟩ (Gh.to3 (by simp) (by simp -dsimp)) ?_
    refine (ih_spec_l7Leaves_l6 x o'65 0 o'77 ho76) _ rfl _ ?_
    cases hF
    repeat (first | refine chk.ga ?_ | simp -dsimp)
    all_goals (try omega)
  ·have q2 : ¬ (x.op = 1) := auq h1
   rw [if_neg q2] at hF
   repeat (first | refine chk.ga ?_ | simp -dsimp [h1, q2])
   have hF := ob hF; obtain ⟨o'89, ho88, hF⟩ := hF
   refine ALoop.goU ⟨[(0, .own 0 (List.length (α := Bool) flags)), (3, .ptr 1 0), (5, .lit (.int .i64 (0 : Int)))], [.elems 1 (List.map cB flags), .cells [.lit (.int .i64 x.op), .lit (.int .i64 x.clause), .arr (List.map Vl.PathBind.c x.binds), .arr (List.map cI x.path), .arr (List.map Vl.Branch.c x.branches), .arr (List.map Vl.Tree.c x.els)]]⟩ (Gh.to3 (by simp) (by first | simp -dsimp [h1, q2]; done | simp_all)) ?_
   refine (ih_spec_l7Leaves_l7 x flags 0 o'89 ho88) _ rfl _ ?_
   repeat (first | refine chk.ga ?_ | simp -dsimp)
   have hF := ob hF; obtain ⟨o'101, ho100, hF⟩ := hF
   refine ALoop.goU ⟨[(0, .own 0 (List.length (α := Bool) o'89)), (3, .ptr 1 0), (6, .lit (.int .i64 (0 : Int)))], [.elems 1 (List.map cB o'89), .cells [.lit (.int .i64 x.op), .lit (.int .i64 x.clause), .arr (List.map Vl.PathBind.c x.binds), .arr (List.map cI x.path), .arr (List.map Vl.Branch.c x.branches), .arr (List.map Vl.Tree.c x.els)]]⟩ (Gh.to3 (by simp) (by simp -dsimp)) ?_
   refine (ih_spec_l7Leaves_l8 x o'89 0 o'101 ho100) _ rfl _ ?_
   cases hF
   repeat (first | refine chk.ga ?_ | simp -dsimp)
   all_goals (try omega)
 ·intro _f_spec_l7Leaves _f_spec_l7Leaves_l8 ih_spec_l7Leaves ih_spec_l7Leaves_l8 x flags90 i91 o hF
  intro c hc Q hq
  obtain rfl : c = _ := navEq hc rfl
  refine ALoopU.know fun hk hs => ?_
  have d0 := hs 0 _ rfl
  simp -dsimp [Blk.bnd] at d0
  have d1 := hs 1 _ rfl
  simp -dsimp [Blk.bnd] at d1
  clear hk hs
  refine ALoopU.enter ?_
  repeat (first | refine chk.ga ?_ | simp -dsimp)
  refine abr.split (fun h92 => ?_) (fun h92 => ?_)
  ·have q93 : (i91 < x.els.length) := auq h92
   have z94 : ((i91 : Int) < (x.els.length : Int)) := auz
   rw [if_pos q93] at hF
   have hF := ob hF; obtain ⟨x95, e96, hF⟩ := hF
   have le96 := lt_of_get e96
   repeat (first | refine chk.ga ?_ | simp -dsimp [h92, z94, ↓e96])
   have hF := ob hF; obtain ⟨v97, e98, hF⟩ := hF
   refine ((ih_spec_l7Leaves flags90 x95 v97 e98)).go (pl [0]) (by simp) (by simp) (plInj _ rfl (by decide)) (by intro i hi hi'; simp at hi hi'; first | omega | (subst hi'; simp [pl])) (by first | simp [h92, z94, ↓e96]; done | simp_all) (by first | simp [h92, z94, ↓e96]; done | simp_all) ?_
   have w99 : IntKind.i64.wrap ((i91 : Int) + 1) = (i91 : Int) + 1 := wrap_in (by omega) (by omega)
   repeat (first | refine chk.ga ?_ | simp -dsimp [h92, z94, ↓e96, w99])
   refine Again.go ⟨[(0, .own 0 (List.length (α := Bool) v97)), (3, .ptr 1 0), (6, .lit (.int .i64 ((i91 + 1) : Int)))], [.elems 1 (List.map cB v97), .cells [.lit (.int .i64 x.op), .lit (.int .i64 x.clause), .arr (List.map Vl.PathBind.c x.binds), .arr (List.map cI x.path), .arr (List.map Vl.Branch.c x.branches), .arr (List.map Vl.Tree.c x.els)]]⟩ (Gh.to3 (by simp) (by first | simp -dsimp [h92, z94, ↓e96, w99]; done | simp_all)) ?_
   exact (ih_spec_l7Leaves_l8 x v97 (i91 + 1) o hF) _ rfl _ hq
  ·have q93 : ¬ (i91 < x.els.length) := auq h92
   have z94 : ¬ ((i91 : Int) < (x.els.length : Int)) := auz
   rw [if_neg q93] at hF
   cases hF
   repeat (first | refine chk.ga ?_ | simp -dsimp [h92, q93, z94])
   refine Leave.go ⟨[(0, .own 0 (List.length (α := Bool) flags90))], [.elems 1 (List.map cB flags90)]⟩ (Gh.to3 (by simp) (by first | simp -dsimp [h92, q93, z94]; done | simp_all)) ?_
   exact hq
 ·intro _f_spec_l7Leaves _f_spec_l7Leaves_l7 ih_spec_l7Leaves ih_spec_l7Leaves_l7 x flags78 i79 o hF
  intro c hc Q hq
  obtain rfl : c = _ := navEq hc rfl
  refine ALoopU.know fun hk hs => ?_
  have d0 := hs 0 _ rfl
  simp -dsimp [Blk.bnd] at d0
  have d1 := hs 1 _ rfl
  simp -dsimp [Blk.bnd] at d1
  clear hk hs
  refine ALoopU.enter ?_
  repeat (first | refine chk.ga ?_ | simp -dsimp)
  refine abr.split (fun h80 => ?_) (fun h80 => ?_)
  ·have q81 : (i79 < x.branches.length) := auq h80
   have z82 : ((i79 : Int) < (x.branches.length : Int)) := auz
   rw [if_pos q81] at hF
   have hF := ob hF; obtain ⟨x83, e84, hF⟩ := hF
   have le84 := lt_of_get e84
   repeat (first | refine chk.ga ?_ | simp -dsimp [h80, z82, ↓e84])
   have hF := ob hF; obtain ⟨v85, e86, hF⟩ := hF
   refine ((ih_spec_l7Leaves flags78 x83.tree v85 e86)).go (pl [0]) (by simp) (by simp) (plInj _ rfl (by decide)) (by intro i hi hi'; simp at hi hi'; first | omega | (subst hi'; simp [pl])) (by first | simp [h80, z82, ↓e84]; done | simp_all) (by first | simp [h80, z82, ↓e84]; done | simp_all) ?_
   have w87 : IntKind.i64.wrap ((i79 : Int) + 1) = (i79 : Int) + 1 := wrap_in (by omega) (by omega)
   repeat (first | refine chk.ga ?_ | simp -dsimp [h80, z82, ↓e84, w87])
   refine Again.go ⟨[(0, .own 0 (List.length (α := Bool) v85)), (3, .ptr 1 0), (5, .lit (.int .i64 ((i79 + 1) : Int)))], [.elems 1 (List.map cB v85), .cells [.lit (.int .i64 x.op), .lit (.int .i64 x.clause), .arr (List.map Vl.PathBind.c x.binds), .arr (List.map cI x.path), .arr (List.map Vl.Branch.c x.branches), .arr (List.map Vl.Tree.c x.els)]]⟩ (Gh.to3 (by simp) (by first | simp -dsimp [h80, z82, ↓e84, w87]; done | simp_all)) ?_
   exact (ih_spec_l7Leaves_l7 x v85 (i79 + 1) o hF) _ rfl _ hq
  ·have q81 : ¬ (i79 < x.branches.length) := auq h80
   have z82 : ¬ ((i79 : Int) < (x.branches.length : Int)) := auz
   rw [if_neg q81] at hF
   cases hF
   repeat (first | refine chk.ga ?_ | simp -dsimp [h80, q81, z82])
   refine Leave.go ⟨[(0, .own 0 (List.length (α := Bool) flags78)), (3, .ptr 1 0)], [.elems 1 (List.map cB flags78), .cells [.lit (.int .i64 x.op), .lit (.int .i64 x.clause), .arr (List.map Vl.PathBind.c x.binds), .arr (List.map cI x.path), .arr (List.map Vl.Branch.c x.branches), .arr (List.map Vl.Tree.c x.els)]]⟩ (Gh.to3 (by simp) (by first | simp -dsimp [h80, q81, z82]; done | simp_all)) ?_
   exact hq
 ·intro _f_spec_l7Leaves _f_spec_l7Leaves_l6 ih_spec_l7Leaves ih_spec_l7Leaves_l6 x flags66 i67 o hF
  intro c hc Q hq
  obtain rfl : c = _ := navEq hc rfl
  refine ALoopU.know fun hk hs => ?_
  have d0 := hs 0 _ rfl
  simp -dsimp [Blk.bnd] at d0
  have d1 := hs 1 _ rfl
  simp -dsimp [Blk.bnd] at d1
  clear hk hs
  refine ALoopU.enter ?_
  repeat (first | refine chk.ga ?_ | simp -dsimp)
  refine abr.split (fun h68 => ?_) (fun h68 => ?_)
  ·have q69 : (i67 < x.els.length) := auq h68
   have z70 : ((i67 : Int) < (x.els.length : Int)) := auz
   rw [if_pos q69] at hF
   have hF := ob hF; obtain ⟨x71, e72, hF⟩ := hF
   have le72 := lt_of_get e72
   repeat (first | refine chk.ga ?_ | simp -dsimp [h68, z70, ↓e72])
   have hF := ob hF; obtain ⟨v73, e74, hF⟩ := hF
   refine ((ih_spec_l7Leaves flags66 x71 v73 e74)).go (pl [0]) (by simp) (by simp) (plInj _ rfl (by decide)) (by intro i hi hi'; simp at hi hi'; first | omega | (subst hi'; simp [pl])) (by first | simp [h68, z70, ↓e72]; done | simp_all) (by first | simp [h68, z70, ↓e72]; done | simp_all) ?_
   have w75 : IntKind.i64.wrap ((i67 : Int) + 1) = (i67 : Int) + 1 := wrap_in (by omega) (by omega)
   repeat (first | refine chk.ga ?_ | simp -dsimp [h68, z70, ↓e72, w75])
   refine Again.go ⟨[(0, .own 0 (List.length (α := Bool) v73)), (3, .ptr 1 0), (6, .lit (.int .i64 ((i67 + 1) : Int)))], [.elems 1 (List.map cB v73), .cells [.lit (.int .i64 x.op), .lit (.int .i64 x.clause), .arr (List.map Vl.PathBind.c x.binds), .arr (List.map cI x.path), .arr (List.map Vl.Branch.c x.branches), .arr (List.map Vl.Tree.c x.els)]]⟩ (Gh.to3 (by simp) (by first | simp -dsimp [h68, z70, ↓e72, w75]; done | simp_all)) ?_
   exact (ih_spec_l7Leaves_l6 x v73 (i67 + 1) o hF) _ rfl _ hq
  ·have q69 : ¬ (i67 < x.els.length) := auq h68
   have z70 : ¬ ((i67 : Int) < (x.els.length : Int)) := auz
   rw [if_neg q69] at hF
   cases hF
   repeat (first | refine chk.ga ?_ | simp -dsimp [h68, q69, z70])
   refine Leave.go ⟨[(0, .own 0 (List.length (α := Bool) flags66))], [.elems 1 (List.map cB flags66)]⟩ (Gh.to3 (by simp) (by first | simp -dsimp [h68, q69, z70]; done | simp_all)) ?_
   exact hq
 ·intro _f_spec_l7Leaves _f_spec_l7Leaves_l5 ih_spec_l7Leaves ih_spec_l7Leaves_l5 x flags54 i55 o hF
  intro c hc Q hq
  obtain rfl : c = _ := navEq hc rfl
  refine ALoopU.know fun hk hs => ?_
  have d0 := hs 0 _ rfl
  simp -dsimp [Blk.bnd] at d0
  have d1 := hs 1 _ rfl
  simp -dsimp [Blk.bnd] at d1
  clear hk hs
  refine ALoopU.enter ?_
  repeat (first | refine chk.ga ?_ | simp -dsimp)
  refine abr.split (fun h56 => ?_) (fun h56 => ?_)
  ·have q57 : (i55 < x.branches.length) := auq h56
   have z58 : ((i55 : Int) < (x.branches.length : Int)) := auz
   rw [if_pos q57] at hF
   have hF := ob hF; obtain ⟨x59, e60, hF⟩ := hF
   have le60 := lt_of_get e60
   repeat (first | refine chk.ga ?_ | simp -dsimp [h56, z58, ↓e60])
   have hF := ob hF; obtain ⟨v61, e62, hF⟩ := hF
   refine ((ih_spec_l7Leaves flags54 x59.tree v61 e62)).go (pl [0]) (by simp) (by simp) (plInj _ rfl (by decide)) (by intro i hi hi'; simp at hi hi'; first | omega | (subst hi'; simp [pl])) (by first | simp [h56, z58, ↓e60]; done | simp_all) (by first | simp [h56, z58, ↓e60]; done | simp_all) ?_
   have w63 : IntKind.i64.wrap ((i55 : Int) + 1) = (i55 : Int) + 1 := wrap_in (by omega) (by omega)
   repeat (first | refine chk.ga ?_ | simp -dsimp [h56, z58, ↓e60, w63])
   refine Again.go ⟨[(0, .own 0 (List.length (α := Bool) v61)), (3, .ptr 1 0), (5, .lit (.int .i64 ((i55 + 1) : Int)))], [.elems 1 (List.map cB v61), .cells [.lit (.int .i64 x.op), .lit (.int .i64 x.clause), .arr (List.map Vl.PathBind.c x.binds), .arr (List.map cI x.path), .arr (List.map Vl.Branch.c x.branches), .arr (List.map Vl.Tree.c x.els)]]⟩ (Gh.to3 (by simp) (by first | simp -dsimp [h56, z58, ↓e60, w63]; done | simp_all)) ?_
   exact (ih_spec_l7Leaves_l5 x v61 (i55 + 1) o hF) _ rfl _ hq
  ·have q57 : ¬ (i55 < x.branches.length) := auq h56
   have z58 : ¬ ((i55 : Int) < (x.branches.length : Int)) := auz
   rw [if_neg q57] at hF
   cases hF
   repeat (first | refine chk.ga ?_ | simp -dsimp [h56, q57, z58])
   refine Leave.go ⟨[(0, .own 0 (List.length (α := Bool) flags54)), (3, .ptr 1 0)], [.elems 1 (List.map cB flags54), .cells [.lit (.int .i64 x.op), .lit (.int .i64 x.clause), .arr (List.map Vl.PathBind.c x.binds), .arr (List.map cI x.path), .arr (List.map Vl.Branch.c x.branches), .arr (List.map Vl.Tree.c x.els)]]⟩ (Gh.to3 (by simp) (by first | simp -dsimp [h56, q57, z58]; done | simp_all)) ?_
   exact hq
 ·intro _f_spec_l7Leaves _f_spec_l7Leaves_l4 ih_spec_l7Leaves ih_spec_l7Leaves_l4 x flags42 i43 o hF
  intro c hc Q hq
  obtain rfl : c = _ := navEq hc rfl
  refine ALoopU.know fun hk hs => ?_
  have d0 := hs 0 _ rfl
  simp -dsimp [Blk.bnd] at d0
  have d1 := hs 1 _ rfl
  simp -dsimp [Blk.bnd] at d1
  clear hk hs
  refine ALoopU.enter ?_
  repeat (first | refine chk.ga ?_ | simp -dsimp)
  refine abr.split (fun h44 => ?_) (fun h44 => ?_)
  ·have q45 : (i43 < x.els.length) := auq h44
   have z46 : ((i43 : Int) < (x.els.length : Int)) := auz
   rw [if_pos q45] at hF
   have hF := ob hF; obtain ⟨x47, e48, hF⟩ := hF
   have le48 := lt_of_get e48
   repeat (first | refine chk.ga ?_ | simp -dsimp [h44, z46, ↓e48])
   have hF := ob hF; obtain ⟨v49, e50, hF⟩ := hF
   refine ((ih_spec_l7Leaves flags42 x47 v49 e50)).go (pl [0]) (by simp) (by simp) (plInj _ rfl (by decide)) (by intro i hi hi'; simp at hi hi'; first | omega | (subst hi'; simp [pl])) (by first | simp [h44, z46, ↓e48]; done | simp_all) (by first | simp [h44, z46, ↓e48]; done | simp_all) ?_
   have w51 : IntKind.i64.wrap ((i43 : Int) + 1) = (i43 : Int) + 1 := wrap_in (by omega) (by omega)
   repeat (first | refine chk.ga ?_ | simp -dsimp [h44, z46, ↓e48, w51])
   refine Again.go ⟨[(0, .own 0 (List.length (α := Bool) v49)), (3, .ptr 1 0), (6, .lit (.int .i64 ((i43 + 1) : Int)))], [.elems 1 (List.map cB v49), .cells [.lit (.int .i64 x.op), .lit (.int .i64 x.clause), .arr (List.map Vl.PathBind.c x.binds), .arr (List.map cI x.path), .arr (List.map Vl.Branch.c x.branches), .arr (List.map Vl.Tree.c x.els)]]⟩ (Gh.to3 (by simp) (by first | simp -dsimp [h44, z46, ↓e48, w51]; done | simp_all)) ?_
   exact (ih_spec_l7Leaves_l4 x v49 (i43 + 1) o hF) _ rfl _ hq
  ·have q45 : ¬ (i43 < x.els.length) := auq h44
   have z46 : ¬ ((i43 : Int) < (x.els.length : Int)) := auz
   rw [if_neg q45] at hF
   cases hF
   repeat (first | refine chk.ga ?_ | simp -dsimp [h44, q45, z46])
   refine Leave.go ⟨[(0, .own 0 (List.length (α := Bool) flags42))], [.elems 1 (List.map cB flags42)]⟩ (Gh.to3 (by simp) (by first | simp -dsimp [h44, q45, z46]; done | simp_all)) ?_
   exact hq
 ·intro _f_spec_l7Leaves _f_spec_l7Leaves_l3 ih_spec_l7Leaves ih_spec_l7Leaves_l3 x flags30 i31 o hF
  intro c hc Q hq
  obtain rfl : c = _ := navEq hc rfl
  refine ALoopU.know fun hk hs => ?_
  have d0 := hs 0 _ rfl
  simp -dsimp [Blk.bnd] at d0
  have d1 := hs 1 _ rfl
  simp -dsimp [Blk.bnd] at d1
  clear hk hs
  refine ALoopU.enter ?_
  repeat (first | refine chk.ga ?_ | simp -dsimp)
  refine abr.split (fun h32 => ?_) (fun h32 => ?_)
  ·have q33 : (i31 < x.branches.length) := auq h32
   have z34 : ((i31 : Int) < (x.branches.length : Int)) := auz
   rw [if_pos q33] at hF
   have hF := ob hF; obtain ⟨x35, e36, hF⟩ := hF
   have le36 := lt_of_get e36
   repeat (first | refine chk.ga ?_ | simp -dsimp [h32, z34, ↓e36])
   have hF := ob hF; obtain ⟨v37, e38, hF⟩ := hF
   refine ((ih_spec_l7Leaves flags30 x35.tree v37 e38)).go (pl [0]) (by simp) (by simp) (plInj _ rfl (by decide)) (by intro i hi hi'; simp at hi hi'; first | omega | (subst hi'; simp [pl])) (by first | simp [h32, z34, ↓e36]; done | simp_all) (by first | simp [h32, z34, ↓e36]; done | simp_all) ?_
   have w39 : IntKind.i64.wrap ((i31 : Int) + 1) = (i31 : Int) + 1 := wrap_in (by omega) (by omega)
   repeat (first | refine chk.ga ?_ | simp -dsimp [h32, z34, ↓e36, w39])
   refine Again.go ⟨[(0, .own 0 (List.length (α := Bool) v37)), (3, .ptr 1 0), (5, .lit (.int .i64 ((i31 + 1) : Int)))], [.elems 1 (List.map cB v37), .cells [.lit (.int .i64 x.op), .lit (.int .i64 x.clause), .arr (List.map Vl.PathBind.c x.binds), .arr (List.map cI x.path), .arr (List.map Vl.Branch.c x.branches), .arr (List.map Vl.Tree.c x.els)]]⟩ (Gh.to3 (by simp) (by first | simp -dsimp [h32, z34, ↓e36, w39]; done | simp_all)) ?_
   exact (ih_spec_l7Leaves_l3 x v37 (i31 + 1) o hF) _ rfl _ hq
  ·have q33 : ¬ (i31 < x.branches.length) := auq h32
   have z34 : ¬ ((i31 : Int) < (x.branches.length : Int)) := auz
   rw [if_neg q33] at hF
   cases hF
   repeat (first | refine chk.ga ?_ | simp -dsimp [h32, q33, z34])
   refine Leave.go ⟨[(0, .own 0 (List.length (α := Bool) flags30)), (3, .ptr 1 0)], [.elems 1 (List.map cB flags30), .cells [.lit (.int .i64 x.op), .lit (.int .i64 x.clause), .arr (List.map Vl.PathBind.c x.binds), .arr (List.map cI x.path), .arr (List.map Vl.Branch.c x.branches), .arr (List.map Vl.Tree.c x.els)]]⟩ (Gh.to3 (by simp) (by first | simp -dsimp [h32, q33, z34]; done | simp_all)) ?_
   exact hq
 ·intro _f_spec_l7Leaves _f_spec_l7Leaves_l2 ih_spec_l7Leaves ih_spec_l7Leaves_l2 x flags18 i19 o hF
  intro c hc Q hq
  obtain rfl : c = _ := navEq hc rfl
  refine ALoopU.know fun hk hs => ?_
  have d0 := hs 0 _ rfl
  simp -dsimp [Blk.bnd] at d0
  have d1 := hs 1 _ rfl
  simp -dsimp [Blk.bnd] at d1
  clear hk hs
  refine ALoopU.enter ?_
  repeat (first | refine chk.ga ?_ | simp -dsimp)
  refine abr.split (fun h20 => ?_) (fun h20 => ?_)
  ·have q21 : (i19 < x.els.length) := auq h20
   have z22 : ((i19 : Int) < (x.els.length : Int)) := auz
   rw [if_pos q21] at hF
   have hF := ob hF; obtain ⟨x23, e24, hF⟩ := hF
   have le24 := lt_of_get e24
   repeat (first | refine chk.ga ?_ | simp -dsimp [h20, z22, ↓e24])
   have hF := ob hF; obtain ⟨v25, e26, hF⟩ := hF
   refine ((ih_spec_l7Leaves flags18 x23 v25 e26)).go (pl [0]) (by simp) (by simp) (plInj _ rfl (by decide)) (by intro i hi hi'; simp at hi hi'; first | omega | (subst hi'; simp [pl])) (by first | simp [h20, z22, ↓e24]; done | simp_all) (by first | simp [h20, z22, ↓e24]; done | simp_all) ?_
   have w27 : IntKind.i64.wrap ((i19 : Int) + 1) = (i19 : Int) + 1 := wrap_in (by omega) (by omega)
   repeat (first | refine chk.ga ?_ | simp -dsimp [h20, z22, ↓e24, w27])
   refine Again.go ⟨[(0, .own 0 (List.length (α := Bool) v25)), (3, .ptr 1 0), (6, .lit (.int .i64 ((i19 + 1) : Int)))], [.elems 1 (List.map cB v25), .cells [.lit (.int .i64 x.op), .lit (.int .i64 x.clause), .arr (List.map Vl.PathBind.c x.binds), .arr (List.map cI x.path), .arr (List.map Vl.Branch.c x.branches), .arr (List.map Vl.Tree.c x.els)]]⟩ (Gh.to3 (by simp) (by first | simp -dsimp [h20, z22, ↓e24, w27]; done | simp_all)) ?_
   exact (ih_spec_l7Leaves_l2 x v25 (i19 + 1) o hF) _ rfl _ hq
  ·have q21 : ¬ (i19 < x.els.length) := auq h20
   have z22 : ¬ ((i19 : Int) < (x.els.length : Int)) := auz
   rw [if_neg q21] at hF
   cases hF
   repeat (first | refine chk.ga ?_ | simp -dsimp [h20, q21, z22])
   refine Leave.go ⟨[(0, .own 0 (List.length (α := Bool) flags18))], [.elems 1 (List.map cB flags18)]⟩ (Gh.to3 (by simp) (by first | simp -dsimp [h20, q21, z22]; done | simp_all)) ?_
   exact hq
 ·intro _f_spec_l7Leaves _f_spec_l7Leaves_l1 ih_spec_l7Leaves ih_spec_l7Leaves_l1 x flags9 i o hF
  intro c hc Q hq
  obtain rfl : c = _ := navEq hc rfl
  refine ALoopU.know fun hk hs => ?_
  have d0 := hs 0 _ rfl
  simp -dsimp [Blk.bnd] at d0
  have d1 := hs 1 _ rfl
  simp -dsimp [Blk.bnd] at d1
  clear hk hs
  refine ALoopU.enter ?_
  repeat (first | refine chk.ga ?_ | simp -dsimp)
  refine abr.split (fun h10 => ?_) (fun h10 => ?_)
  ·have q11 : (i < x.branches.length) := auq h10
   have z12 : ((i : Int) < (x.branches.length : Int)) := auz
   rw [if_pos q11] at hF
   have hF := ob hF; obtain ⟨x13, e14, hF⟩ := hF
   have le14 := lt_of_get e14
   repeat (first | refine chk.ga ?_ | simp -dsimp [h10, z12, ↓e14])
   have hF := ob hF; obtain ⟨v, e15, hF⟩ := hF
   refine ((ih_spec_l7Leaves flags9 x13.tree v e15)).go (pl [0]) (by simp) (by simp) (plInj _ rfl (by decide)) (by intro i hi hi'; simp at hi hi'; first | omega | (subst hi'; simp [pl])) (by first | simp [h10, z12, ↓e14]; done | simp_all) (by first | simp [h10, z12, ↓e14]; done | simp_all) ?_
   have w16 : IntKind.i64.wrap ((i : Int) + 1) = (i : Int) + 1 := wrap_in (by omega) (by omega)
   repeat (first | refine chk.ga ?_ | simp -dsimp [h10, z12, ↓e14, w16])
   refine Again.go ⟨[(0, .own 0 (List.length (α := Bool) v)), (3, .ptr 1 0), (5, .lit (.int .i64 ((i + 1) : Int)))], [.elems 1 (List.map cB v), .cells [.lit (.int .i64 x.op), .lit (.int .i64 x.clause), .arr (List.map Vl.PathBind.c x.binds), .arr (List.map cI x.path), .arr (List.map Vl.Branch.c x.branches), .arr (List.map Vl.Tree.c x.els)]]⟩ (Gh.to3 (by simp) (by first | simp -dsimp [h10, z12, ↓e14, w16]; done | simp_all)) ?_
   exact (ih_spec_l7Leaves_l1 x v (i + 1) o hF) _ rfl _ hq
  ·have q11 : ¬ (i < x.branches.length) := auq h10
   have z12 : ¬ ((i : Int) < (x.branches.length : Int)) := auz
   rw [if_neg q11] at hF
   cases hF
   repeat (first | refine chk.ga ?_ | simp -dsimp [h10, q11, z12])
   refine Leave.go ⟨[(0, .own 0 (List.length (α := Bool) flags9)), (3, .ptr 1 0)], [.elems 1 (List.map cB flags9), .cells [.lit (.int .i64 x.op), .lit (.int .i64 x.clause), .arr (List.map Vl.PathBind.c x.binds), .arr (List.map cI x.path), .arr (List.map Vl.Branch.c x.branches), .arr (List.map Vl.Tree.c x.els)]]⟩ (Gh.to3 (by simp) (by first | simp -dsimp [h10, q11, z12]; done | simp_all)) ?_
   exact hq

theorem C.spec_l7Leaves (B : Nat) (hB1 : 67108864 ≤ B) (hB2 : B ≤ 9223372036854775807) (flags : List Bool) (x : Vl.Tree) (r : List Bool) (hF : F.spec_l7Leaves flags x = some r) : BCall Try.prog B 57 [.elems 1 (List.map cB flags)] [.own 0 (List.length (α := Bool) flags), .agg [.lit (.int .i64 x.op), .lit (.int .i64 x.clause), .arr (List.map Vl.PathBind.c x.binds), .arr (List.map cI x.path), .arr (List.map Vl.Branch.c x.branches), .arr (List.map Vl.Tree.c x.els)]] (.own 0 (List.length (α := Bool) r)) [.elems 1 (List.map cB r)] :=
 (CC.spec_l7Leaves B hB1 hB2 ).1 flags x r hF

theorem C.spec_l7Leaves_l8 (B : Nat) (hB1 : 67108864 ≤ B) (hB2 : B ≤ 9223372036854775807) (x : Vl.Tree) (flags90 : List Bool) (i91 : Nat) (o : List Bool) (hF : F.spec_l7Leaves_l8 x flags90 i91 = some o) : ∀ (c : Code), navO [1, 1, 1, 0, 1, 0, 0] (bodyOf Try.f57) = some c → ∀ (Q : Exit → ASt → Prop), (Q (.exit 2) ⟨[(0, .own 0 (List.length (α := Bool) o))], [.elems 1 (List.map cB o)]⟩) → ALoopU Try.prog B 1 56 (hold c .mk) ⟨[(0, .own 0 (List.length (α := Bool) flags90)), (3, .ptr 1 0), (6, .lit (.int .i64 (i91 : Int)))], [.elems 1 (List.map cB flags90), .cells [.lit (.int .i64 x.op), .lit (.int .i64 x.clause), .arr (List.map Vl.PathBind.c x.binds), .arr (List.map cI x.path), .arr (List.map Vl.Branch.c x.branches), .arr (List.map Vl.Tree.c x.els)]]⟩ (hold Q .mk) :=
 (CC.spec_l7Leaves B hB1 hB2 ).2.1 x flags90 i91 o hF

theorem C.spec_l7Leaves_l7 (B : Nat) (hB1 : 67108864 ≤ B) (hB2 : B ≤ 9223372036854775807) (x : Vl.Tree) (flags78 : List Bool) (i79 : Nat) (o : List Bool) (hF : F.spec_l7Leaves_l7 x flags78 i79 = some o) : ∀ (c : Code), navO [1, 1, 0, 1, 0, 0] (bodyOf Try.f57) = some c → ∀ (Q : Exit → ASt → Prop), (Q (.exit 0) ⟨[(0, .own 0 (List.length (α := Bool) o)), (3, .ptr 1 0)], [.elems 1 (List.map cB o), .cells [.lit (.int .i64 x.op), .lit (.int .i64 x.clause), .arr (List.map Vl.PathBind.c x.binds), .arr (List.map cI x.path), .arr (List.map Vl.Branch.c x.branches), .arr (List.map Vl.Tree.c x.els)]]⟩) → ALoopU Try.prog B 1 56 (hold c .mk) ⟨[(0, .own 0 (List.length (α := Bool) flags78)), (3, .ptr 1 0), (5, .lit (.int .i64 (i79 : Int)))], [.elems 1 (List.map cB flags78), .cells [.lit (.int .i64 x.op), .lit (.int .i64 x.clause), .arr (List.map Vl.PathBind.c x.binds), .arr (List.map cI x.path), .arr (List.map Vl.Branch.c x.branches), .arr (List.map Vl.Tree.c x.els)]]⟩ (hold Q .mk) :=
 (CC.spec_l7Leaves B hB1 hB2 ).2.2.1 x flags78 i79 o hF

theorem C.spec_l7Leaves_l6 (B : Nat) (hB1 : 67108864 ≤ B) (hB2 : B ≤ 9223372036854775807) (x : Vl.Tree) (flags66 : List Bool) (i67 : Nat) (o : List Bool) (hF : F.spec_l7Leaves_l6 x flags66 i67 = some o) : ∀ (c : Code), navO [1, 1, 1, 0, 1, 0, 0] (bodyOf Try.f57) = some c → ∀ (Q : Exit → ASt → Prop), (Q (.exit 2) ⟨[(0, .own 0 (List.length (α := Bool) o))], [.elems 1 (List.map cB o)]⟩) → ALoopU Try.prog B 1 56 (hold c .mk) ⟨[(0, .own 0 (List.length (α := Bool) flags66)), (3, .ptr 1 0), (6, .lit (.int .i64 (i67 : Int)))], [.elems 1 (List.map cB flags66), .cells [.lit (.int .i64 x.op), .lit (.int .i64 x.clause), .arr (List.map Vl.PathBind.c x.binds), .arr (List.map cI x.path), .arr (List.map Vl.Branch.c x.branches), .arr (List.map Vl.Tree.c x.els)]]⟩ (hold Q .mk) :=
 (CC.spec_l7Leaves B hB1 hB2 ).2.2.2.1 x flags66 i67 o hF

theorem C.spec_l7Leaves_l5 (B : Nat) (hB1 : 67108864 ≤ B) (hB2 : B ≤ 9223372036854775807) (x : Vl.Tree) (flags54 : List Bool) (i55 : Nat) (o : List Bool) (hF : F.spec_l7Leaves_l5 x flags54 i55 = some o) : ∀ (c : Code), navO [1, 1, 0, 1, 0, 0] (bodyOf Try.f57) = some c → ∀ (Q : Exit → ASt → Prop), (Q (.exit 0) ⟨[(0, .own 0 (List.length (α := Bool) o)), (3, .ptr 1 0)], [.elems 1 (List.map cB o), .cells [.lit (.int .i64 x.op), .lit (.int .i64 x.clause), .arr (List.map Vl.PathBind.c x.binds), .arr (List.map cI x.path), .arr (List.map Vl.Branch.c x.branches), .arr (List.map Vl.Tree.c x.els)]]⟩) → ALoopU Try.prog B 1 56 (hold c .mk) ⟨[(0, .own 0 (List.length (α := Bool) flags54)), (3, .ptr 1 0), (5, .lit (.int .i64 (i55 : Int)))], [.elems 1 (List.map cB flags54), .cells [.lit (.int .i64 x.op), .lit (.int .i64 x.clause), .arr (List.map Vl.PathBind.c x.binds), .arr (List.map cI x.path), .arr (List.map Vl.Branch.c x.branches), .arr (List.map Vl.Tree.c x.els)]]⟩ (hold Q .mk) :=
 (CC.spec_l7Leaves B hB1 hB2 ).2.2.2.2.1 x flags54 i55 o hF

theorem C.spec_l7Leaves_l4 (B : Nat) (hB1 : 67108864 ≤ B) (hB2 : B ≤ 9223372036854775807) (x : Vl.Tree) (flags42 : List Bool) (i43 : Nat) (o : List Bool) (hF : F.spec_l7Leaves_l4 x flags42 i43 = some o) : ∀ (c : Code), navO [1, 1, 1, 0, 1, 0, 0] (bodyOf Try.f57) = some c → ∀ (Q : Exit → ASt → Prop), (Q (.exit 2) ⟨[(0, .own 0 (List.length (α := Bool) o))], [.elems 1 (List.map cB o)]⟩) → ALoopU Try.prog B 1 56 (hold c .mk) ⟨[(0, .own 0 (List.length (α := Bool) flags42)), (3, .ptr 1 0), (6, .lit (.int .i64 (i43 : Int)))], [.elems 1 (List.map cB flags42), .cells [.lit (.int .i64 x.op), .lit (.int .i64 x.clause), .arr (List.map Vl.PathBind.c x.binds), .arr (List.map cI x.path), .arr (List.map Vl.Branch.c x.branches), .arr (List.map Vl.Tree.c x.els)]]⟩ (hold Q .mk) :=
 (CC.spec_l7Leaves B hB1 hB2 ).2.2.2.2.2.1 x flags42 i43 o hF

theorem C.spec_l7Leaves_l3 (B : Nat) (hB1 : 67108864 ≤ B) (hB2 : B ≤ 9223372036854775807) (x : Vl.Tree) (flags30 : List Bool) (i31 : Nat) (o : List Bool) (hF : F.spec_l7Leaves_l3 x flags30 i31 = some o) : ∀ (c : Code), navO [1, 1, 0, 1, 0, 0] (bodyOf Try.f57) = some c → ∀ (Q : Exit → ASt → Prop), (Q (.exit 0) ⟨[(0, .own 0 (List.length (α := Bool) o)), (3, .ptr 1 0)], [.elems 1 (List.map cB o), .cells [.lit (.int .i64 x.op), .lit (.int .i64 x.clause), .arr (List.map Vl.PathBind.c x.binds), .arr (List.map cI x.path), .arr (List.map Vl.Branch.c x.branches), .arr (List.map Vl.Tree.c x.els)]]⟩) → ALoopU Try.prog B 1 56 (hold c .mk) ⟨[(0, .own 0 (List.length (α := Bool) flags30)), (3, .ptr 1 0), (5, .lit (.int .i64 (i31 : Int)))], [.elems 1 (List.map cB flags30), .cells [.lit (.int .i64 x.op), .lit (.int .i64 x.clause), .arr (List.map Vl.PathBind.c x.binds), .arr (List.map cI x.path), .arr (List.map Vl.Branch.c x.branches), .arr (List.map Vl.Tree.c x.els)]]⟩ (hold Q .mk) :=
 (CC.spec_l7Leaves B hB1 hB2 ).2.2.2.2.2.2.1 x flags30 i31 o hF

theorem C.spec_l7Leaves_l2 (B : Nat) (hB1 : 67108864 ≤ B) (hB2 : B ≤ 9223372036854775807) (x : Vl.Tree) (flags18 : List Bool) (i19 : Nat) (o : List Bool) (hF : F.spec_l7Leaves_l2 x flags18 i19 = some o) : ∀ (c : Code), navO [1, 1, 1, 0, 1, 0, 0] (bodyOf Try.f57) = some c → ∀ (Q : Exit → ASt → Prop), (Q (.exit 2) ⟨[(0, .own 0 (List.length (α := Bool) o))], [.elems 1 (List.map cB o)]⟩) → ALoopU Try.prog B 1 56 (hold c .mk) ⟨[(0, .own 0 (List.length (α := Bool) flags18)), (3, .ptr 1 0), (6, .lit (.int .i64 (i19 : Int)))], [.elems 1 (List.map cB flags18), .cells [.lit (.int .i64 x.op), .lit (.int .i64 x.clause), .arr (List.map Vl.PathBind.c x.binds), .arr (List.map cI x.path), .arr (List.map Vl.Branch.c x.branches), .arr (List.map Vl.Tree.c x.els)]]⟩ (hold Q .mk) :=
 (CC.spec_l7Leaves B hB1 hB2 ).2.2.2.2.2.2.2.1 x flags18 i19 o hF

theorem C.spec_l7Leaves_l1 (B : Nat) (hB1 : 67108864 ≤ B) (hB2 : B ≤ 9223372036854775807) (x : Vl.Tree) (flags9 : List Bool) (i : Nat) (o : List Bool) (hF : F.spec_l7Leaves_l1 x flags9 i = some o) : ∀ (c : Code), navO [1, 1, 0, 1, 0, 0] (bodyOf Try.f57) = some c → ∀ (Q : Exit → ASt → Prop), (Q (.exit 0) ⟨[(0, .own 0 (List.length (α := Bool) o)), (3, .ptr 1 0)], [.elems 1 (List.map cB o), .cells [.lit (.int .i64 x.op), .lit (.int .i64 x.clause), .arr (List.map Vl.PathBind.c x.binds), .arr (List.map cI x.path), .arr (List.map Vl.Branch.c x.branches), .arr (List.map Vl.Tree.c x.els)]]⟩) → ALoopU Try.prog B 1 56 (hold c .mk) ⟨[(0, .own 0 (List.length (α := Bool) flags9)), (3, .ptr 1 0), (5, .lit (.int .i64 (i : Int)))], [.elems 1 (List.map cB flags9), .cells [.lit (.int .i64 x.op), .lit (.int .i64 x.clause), .arr (List.map Vl.PathBind.c x.binds), .arr (List.map cI x.path), .arr (List.map Vl.Branch.c x.branches), .arr (List.map Vl.Tree.c x.els)]]⟩ (hold Q .mk) :=
 (CC.spec_l7Leaves B hB1 hB2 ).2.2.2.2.2.2.2.2 x flags9 i o hF

set_option maxRecDepth 100000 in
set_option maxHeartbeats 4000000 in
theorem CC.spec_TreeLeaves_l1 (B : Nat) (hB1 : 67108864 ≤ B) (hB2 : B ≤ 9223372036854775807) (v : List Bool) : (∀ (out : List Int) (i : Nat) (o : List Int), F.spec_TreeLeaves_l1 v out i = some o → ∀ (c : Code), navO [1, 1, 1, 0, 1, 0, 0] (bodyOf Try.f21) = some c → ∀ (Q : Exit → ASt → Prop), (Q (.exit 0) ⟨[(3, .own 1 (List.length (α := Int) o))], [.dead, .elems 1 (List.map cI o)]⟩) → ALoopU Try.prog B 0 25 (hold c .mk) ⟨[(3, .own 1 (List.length (α := Int) out)), (4, .own 2 (List.length (α := Bool) v)), (5, .lit (.int .i64 (i : Int)))], [.dead, .elems 1 (List.map cI out), .elems 1 (List.map cB v)]⟩ (hold Q .mk)) := by
 refine F.spec_TreeLeaves_l1.partial_correctness v
  (fun out i o => ∀ (c : Code), navO [1, 1, 1, 0, 1, 0, 0] (bodyOf Try.f21) = some c → ∀ (Q : Exit → ASt → Prop), (Q (.exit 0) ⟨[(3, .own 1 (List.length (α := Int) o))], [.dead, .elems 1 (List.map cI o)]⟩) → ALoopU Try.prog B 0 25 (hold c .mk) ⟨[(3, .own 1 (List.length (α := Int) out)), (4, .own 2 (List.length (α := Bool) v)), (5, .lit (.int .i64 (i : Int)))], [.dead, .elems 1 (List.map cI out), .elems 1 (List.map cB v)]⟩ (hold Q .mk))
  ?_
 ·intro _f_spec_TreeLeaves_l1 ih_spec_TreeLeaves_l1 out i o hF
  intro c hc Q hq
  obtain rfl : c = _ := navEq hc rfl
  refine ALoopU.know fun hk hs => ?_
  have d1 := hs 1 _ rfl
  simp -dsimp [Blk.bnd] at d1
  have d2 := hs 2 _ rfl
  simp -dsimp [Blk.bnd] at d2
  clear hk hs
  refine ALoopU.enter ?_
  repeat (first | refine chk.ga ?_ | simp -dsimp)
  refine abr.split (fun h3 => ?_) (fun h3 => ?_)
  ·have q4 : (i < v.length) := auq h3
   have z5 : ((i : Int) < (v.length : Int)) := auz
   rw [if_pos q4] at hF
   have hF := ob hF; obtain ⟨x6, e7, hF⟩ := hF
   have le7 := lt_of_get e7
   repeat (first | refine chk.ga ?_ | simp -dsimp [h3, z5, ↓e7])
   refine abr.split (fun h8 => ?_) (fun h8 => ?_)
   ·have q9 : (x6 = true) := auq h8
    rw [if_pos q9] at hF
    have hF := oc hF; obtain ⟨c10, hF⟩ := hF
    have w11 : IntKind.i64.wrap ((i : Int) + 1) = (i : Int) + 1 := wrap_in (by omega) (by omega)
    repeat (first | refine chk.ga ?_ | simp -dsimp [h3, z5, ↓e7, h8, w11])
    refine Again.go ⟨[(3, .own 1 (List.length (α := Int) (out ++ [(i : Int)]))), (4, .own 2 (List.length (α := Bool) v)), (5, .lit (.int .i64 ((i + 1) : Int)))], [.dead, .elems 1 (List.map cI (out ++ [(i : Int)])), .elems 1 (List.map cB v)]⟩ (Gh.to3 (by simp) (by first | simp -dsimp [h3, z5, ↓e7, h8, w11]; done | simp_all)) ?_
    exact (ih_spec_TreeLeaves_l1 (out ++ [(i : Int)]) (i + 1) o hF) _ rfl _ hq
   ·have q9 : ¬ (x6 = true) := auq h8
    rw [if_neg q9] at hF
    have w12 : IntKind.i64.wrap ((i : Int) + 1) = (i : Int) + 1 := wrap_in (by omega) (by omega)
    repeat (first | refine chk.ga ?_ | simp -dsimp [h3, z5, ↓e7, h8, q9, w12])
    refine Again.go ⟨[(3, .own 1 (List.length (α := Int) out)), (4, .own 2 (List.length (α := Bool) v)), (5, .lit (.int .i64 ((i + 1) : Int)))], [.dead, .elems 1 (List.map cI out), .elems 1 (List.map cB v)]⟩ (Gh.to3 (by simp) (by first | simp -dsimp [h3, z5, ↓e7, h8, q9, w12]; done | simp_all)) ?_
    exact (ih_spec_TreeLeaves_l1 out (i + 1) o hF) _ rfl _ hq
  ·have q4 : ¬ (i < v.length) := auq h3
   have z5 : ¬ ((i : Int) < (v.length : Int)) := auz
   rw [if_neg q4] at hF
   cases hF
   repeat (first | refine chk.ga ?_ | simp -dsimp [h3, q4, z5])
   refine Leave.go ⟨[(3, .own 1 (List.length (α := Int) out))], [.dead, .elems 1 (List.map cI out)]⟩ (Gh.to3 (by simp) (by first | simp -dsimp [h3, q4, z5]; done | simp_all)) ?_
   exact hq

theorem C.spec_TreeLeaves_l1 (B : Nat) (hB1 : 67108864 ≤ B) (hB2 : B ≤ 9223372036854775807) (v : List Bool) (out : List Int) (i : Nat) (o : List Int) (hF : F.spec_TreeLeaves_l1 v out i = some o) : ∀ (c : Code), navO [1, 1, 1, 0, 1, 0, 0] (bodyOf Try.f21) = some c → ∀ (Q : Exit → ASt → Prop), (Q (.exit 0) ⟨[(3, .own 1 (List.length (α := Int) o))], [.dead, .elems 1 (List.map cI o)]⟩) → ALoopU Try.prog B 0 25 (hold c .mk) ⟨[(3, .own 1 (List.length (α := Int) out)), (4, .own 2 (List.length (α := Bool) v)), (5, .lit (.int .i64 (i : Int)))], [.dead, .elems 1 (List.map cI out), .elems 1 (List.map cB v)]⟩ (hold Q .mk) :=
 (CC.spec_TreeLeaves_l1 B hB1 hB2 v) out i o hF

set_option maxRecDepth 100000 in
set_option maxHeartbeats 4000000 in
theorem C.spec_TreeLeaves (B : Nat) (hB1 : 67108864 ≤ B) (hB2 : B ≤ 9223372036854775807) (x : Vl.Tree) (r : List Int) (hF : F.spec_TreeLeaves x = some r) : PureCall Try.prog B 21 [.agg [.lit (.int .i64 x.op), .lit (.int .i64 x.clause), .arr (List.map Vl.PathBind.c x.binds), .arr (List.map cI x.path), .arr (List.map Vl.Branch.c x.branches), .arr (List.map Vl.Tree.c x.els)]] (.arr (List.map cI r)) := by
 unfold F.spec_TreeLeaves at hF
 refine PureCall.enterLe Try.func21 (by kernel_rfl) rfl Try.ntmps21 (by simp) (by simp) ?_
 repeat (first | refine chk.ga ?_ | simp -dsimp)
 refine ADraw.eff [57] [(0, 2), (0, 1), (0, 2), (2, 2)] [1, 2, 1, 1] follows (by kernel_rfl) (by kernel_rfl) (by kernel_rfl) ?_
 have hF := oc hF; obtain ⟨c1, hF⟩ := hF
 repeat (first | refine chk.ga ?_ | simp -dsimp)
 have hF := ob hF; obtain ⟨v, e2, hF⟩ := hF
 refine ((C.spec_l7Leaves B hB1 hB2 (List.replicate 8 false) x v e2)).ego (pl [2]) (by simp) (by simp) (plInj _ rfl (by decide)) (by intro i hi hi'; simp at hi hi'; first | omega | (subst hi'; simp [pl])) (by simp) (by simp) ?_
 repeat (first | refine chk.ga ?_ | simp -dsimp)
 have hF := ob hF; obtain ⟨o', ho13, hF⟩ := hF
 refine ALoop.goU ⟨[(3, .own 1 (List.length (α := Int) [])), (4, .own 2 (List.length (α := Bool) v)), (5, .lit (.int .i64 (0 : Int)))], [.dead, .elems 1 (List.map cI []), .elems 1 (List.map cB v)]⟩ (Gh.to3 (by simp) (by simp -dsimp)) ?_
 refine (C.spec_TreeLeaves_l1 B hB1 hB2 v [] 0 o' ho13) _ rfl _ ?_
 cases hF
 repeat (first | refine chk.ga ?_ | simp -dsimp)
 all_goals (try omega)

set_option maxRecDepth 100000 in
set_option maxHeartbeats 4000000 in
theorem CC.laws_toIntS__f_l1 (B : Nat) (hB1 : 67108864 ≤ B) (hB2 : B ≤ 9223372036854775807) (a : List Int) : (∀ (out : List Int) (i : Nat) (o : List Int), F.laws_toIntS_l1 a out i = some o → ∀ (c : Code), navO [1, 1, 0, 1, 0, 0] (bodyOf Try.f38) = some c → ∀ (Q : Exit → ASt → Prop), (Q (.exit 0) ⟨[(3, .own 1 (List.length (α := Int) o))], [.pack [] [], .elems 1 (List.map cI o)]⟩) → ALoopU Try.prog B 0 22 (hold c .mk) ⟨[(0, .arr (List.map cI a)), (3, .own 1 (List.length (α := Int) out)), (4, .lit (.int .i64 (i : Int)))], [.pack [] [], .elems 1 (List.map cI out)]⟩ (hold Q .mk)) := by
 refine F.laws_toIntS_l1.partial_correctness a
  (fun out i o => ∀ (c : Code), navO [1, 1, 0, 1, 0, 0] (bodyOf Try.f38) = some c → ∀ (Q : Exit → ASt → Prop), (Q (.exit 0) ⟨[(3, .own 1 (List.length (α := Int) o))], [.pack [] [], .elems 1 (List.map cI o)]⟩) → ALoopU Try.prog B 0 22 (hold c .mk) ⟨[(0, .arr (List.map cI a)), (3, .own 1 (List.length (α := Int) out)), (4, .lit (.int .i64 (i : Int)))], [.pack [] [], .elems 1 (List.map cI out)]⟩ (hold Q .mk))
  ?_
 ·intro _f_laws_toIntS__f_l1 ih_laws_toIntS__f_l1 out i o hF
  intro c hc Q hq
  obtain rfl : c = _ := navEq hc rfl
  refine ALoopU.know fun hk hs => ?_
  have b0 := hk 0
  simp -dsimp at b0
  have d1 := hs 1 _ rfl
  simp -dsimp [Blk.bnd] at d1
  clear hk hs
  refine ALoopU.enter ?_
  repeat (first | refine chk.ga ?_ | simp -dsimp)
  refine abr.split (fun h2 => ?_) (fun h2 => ?_)
  ·have q3 : (i < a.length) := auq h2
   have z4 : ((i : Int) < (a.length : Int)) := auz
   rw [if_pos q3] at hF
   have hF := ob hF; obtain ⟨x, e5, hF⟩ := hF
   have le5 := lt_of_get e5
   have hF := ob hF; obtain ⟨x6, e7, hF⟩ := hF
   have le7 := lt_of_get e7
   have w8 : IntKind.i64.wrap ((i : Int) + 1) = (i : Int) + 1 := wrap_in (by omega) (by omega)
   repeat (first | refine chk.ga ?_ | simp -dsimp [h2, z4, ↓e5, ↓e7, w8])
   refine Again.go ⟨[(0, .arr (List.map cI a)), (3, .own 1 (List.length (α := Int) (out.set i x))), (4, .lit (.int .i64 ((i + 1) : Int)))], [.pack [] [], .elems 1 (List.map cI (out.set i x))]⟩ (Gh.to3 (by simp) (by first | simp -dsimp [h2, z4, ↓e5, ↓e7, w8]; done | simp_all)) ?_
   exact (ih_laws_toIntS__f_l1 (out.set i x) (i + 1) o hF) _ rfl _ hq
  ·have q3 : ¬ (i < a.length) := auq h2
   have z4 : ¬ ((i : Int) < (a.length : Int)) := auz
   rw [if_neg q3] at hF
   cases hF
   repeat (first | refine chk.ga ?_ | simp -dsimp [h2, q3, z4])
   refine Leave.go ⟨[(3, .own 1 (List.length (α := Int) out))], [.pack [] [], .elems 1 (List.map cI out)]⟩ (Gh.to3 (by simp) (by first | simp -dsimp [h2, q3, z4]; done | simp_all)) ?_
   exact hq

theorem C.laws_toIntS__f_l1 (B : Nat) (hB1 : 67108864 ≤ B) (hB2 : B ≤ 9223372036854775807) (a : List Int) (out : List Int) (i : Nat) (o : List Int) (hF : F.laws_toIntS_l1 a out i = some o) : ∀ (c : Code), navO [1, 1, 0, 1, 0, 0] (bodyOf Try.f38) = some c → ∀ (Q : Exit → ASt → Prop), (Q (.exit 0) ⟨[(3, .own 1 (List.length (α := Int) o))], [.pack [] [], .elems 1 (List.map cI o)]⟩) → ALoopU Try.prog B 0 22 (hold c .mk) ⟨[(0, .arr (List.map cI a)), (3, .own 1 (List.length (α := Int) out)), (4, .lit (.int .i64 (i : Int)))], [.pack [] [], .elems 1 (List.map cI out)]⟩ (hold Q .mk) :=
 (CC.laws_toIntS__f_l1 B hB1 hB2 a) out i o hF

set_option maxRecDepth 100000 in
set_option maxHeartbeats 4000000 in
theorem C.laws_toIntS__f (B : Nat) (hB1 : 67108864 ≤ B) (hB2 : B ≤ 9223372036854775807) (a : List Int) (r : List Int) (hF : F.laws_toIntS a = some r) : FCall Try.prog B 38 [.arr (List.map cI a)] (.arr (List.map cI r)) := by
 unfold F.laws_toIntS at hF
 refine FCall.enterG Try.func38 (by kernel_rfl) rfl Try.ntmps38 (by simp) (Gh.packZ .nil) ?_
 have hF := oc hF; obtain ⟨c1, hF⟩ := hF
 repeat (first | refine chk.ga ?_ | simp -dsimp)
 have hF := ob hF; obtain ⟨o', ho9, hF⟩ := hF
 refine ALoop.goU ⟨[(0, .arr (List.map cI a)), (3, .own 1 (List.length (α := Int) (List.replicate a.length (0 : Int)))), (4, .lit (.int .i64 (0 : Int)))], [.pack [] [], .elems 1 (List.map cI (List.replicate a.length (0 : Int)))]⟩ (Gh.to3 (by simp) (by simp -dsimp)) ?_
 refine (C.laws_toIntS__f_l1 B hB1 hB2 a (List.replicate a.length (0 : Int)) 0 o' ho9) _ rfl _ ?_
 cases hF
 repeat (first | refine chk.ga ?_ | simp -dsimp)
 exact ⟨_, by decide, (.cell (CD.ownE 1 _ 1 rfl (lits_cI _) (by simp) .nil) .nil : CT _ _ _ _)⟩

set_option maxRecDepth 100000 in
set_option maxHeartbeats 4000000 in
theorem C.laws_toPathBind__f (B : Nat) (hB1 : 67108864 ≤ B) (hB2 : B ≤ 9223372036854775807) (a : Vl.PathBind) (r : Vl.PathBind) (hF : F.laws_toPathBind a = some r) : FCall Try.prog B 70 [.agg [.lit (.int .i64 a.var), .arr (List.map cI a.path)]] (.agg [.lit (.int .i64 r.var), .arr (List.map cI r.path)]) := by
 unfold F.laws_toPathBind at hF
 refine FCall.enterG Try.func70 (by kernel_rfl) rfl Try.ntmps70 (by simp) (Gh.packZ .nil) ?_
 repeat (first | refine chk.ga ?_ | simp -dsimp)
 have hF := ob hF; obtain ⟨v, e1, hF⟩ := hF
 refine ((C.laws_toIntS__f B hB1 hB2 a.path v e1)).go1 (by simp -dsimp) (by simp) (fun h o_h => ?_)
 cases hF
 repeat (first | refine chk.ga ?_ | simp -dsimp [o_h])
 exact ⟨_, by decide, (.agg (.lit _ (.pk 4 rfl .nil)) .nil : CT _ _ _ _)⟩

set_option maxRecDepth 100000 in
set_option maxHeartbeats 4000000 in
theorem CC.laws_toPathBindS__f_l1 (B : Nat) (hB1 : 67108864 ≤ B) (hB2 : B ≤ 9223372036854775807) (a : List Vl.PathBind) : (∀ (out : List Vl.PathBind) (i : Nat) (o : List Vl.PathBind), F.laws_toPathBindS_l1 a out i = some o → ∀ (R : List (List AV)), ∀ (U : List Value), RW 2 (List.length (α := Vl.PathBind) out) R U → ∀ (c : Code), navO [1, 1, 0, 1, 0, 0] (bodyOf Try.f37) = some c → ∀ (Q : Exit → ASt → Prop), (∀ (Rq : List (List AV)) (Uq : List Value), RW 2 (List.length (α := Vl.PathBind) o) Rq Uq → Q (.exit 0) ⟨[(3, .own 1 (List.length (α := Vl.PathBind) o))], [.pack [] [], .elems 2 Rq, .pack (List.flatten (List.map Vl.PathBind.c o)) Uq]⟩) → ALoopU Try.prog B 0 23 (hold c .mk) ⟨[(0, .arr (List.map Vl.PathBind.c a)), (3, .own 1 (List.length (α := Vl.PathBind) out)), (4, .lit (.int .i64 (i : Int)))], [.pack [] [], .elems 2 R, .pack (List.flatten (List.map Vl.PathBind.c out)) U]⟩ (hold Q .mk)) := by
 refine F.laws_toPathBindS_l1.partial_correctness a
  (fun out i o => ∀ (R : List (List AV)), ∀ (U : List Value), RW 2 (List.length (α := Vl.PathBind) out) R U → ∀ (c : Code), navO [1, 1, 0, 1, 0, 0] (bodyOf Try.f37) = some c → ∀ (Q : Exit → ASt → Prop), (∀ (Rq : List (List AV)) (Uq : List Value), RW 2 (List.length (α := Vl.PathBind) o) Rq Uq → Q (.exit 0) ⟨[(3, .own 1 (List.length (α := Vl.PathBind) o))], [.pack [] [], .elems 2 Rq, .pack (List.flatten (List.map Vl.PathBind.c o)) Uq]⟩) → ALoopU Try.prog B 0 23 (hold c .mk) ⟨[(0, .arr (List.map Vl.PathBind.c a)), (3, .own 1 (List.length (α := Vl.PathBind) out)), (4, .lit (.int .i64 (i : Int)))], [.pack [] [], .elems 2 R, .pack (List.flatten (List.map Vl.PathBind.c out)) U]⟩ (hold Q .mk))
  ?_
 ·intro _f_laws_toPathBindS__f_l1 ih_laws_toPathBindS__f_l1 out i o hF
  intro R U H2 c hc Q hq
  obtain rfl : c = _ := navEq hc rfl
  refine ALoopU.know fun hk hs => ?_
  have b0 := hk 0
  simp -dsimp at b0
  have d1 := hs 1 _ rfl
  simp -dsimp [Blk.bnd] at d1
  clear hk hs
  refine ALoopU.enter ?_
  repeat (first | refine chk.ga ?_ | simp -dsimp [RW.len H2, RW.closed H2])
  refine abr.split (fun h4 => ?_) (fun h4 => ?_)
  ·have q5 : (i < a.length) := auq h4
   have z6 : ((i : Int) < (a.length : Int)) := auz
   rw [if_pos q5] at hF
   have hF := ob hF; obtain ⟨x, e7, hF⟩ := hF
   have le7 := lt_of_get e7
   repeat (first | refine chk.ga ?_ | simp -dsimp [RW.len H2, RW.closed H2, h4, z6, ↓e7])
   have hF := ob hF; obtain ⟨v, e8, hF⟩ := hF
   refine ((C.laws_toPathBind__f B hB1 hB2 x v e8)).go1 (by first | simp -dsimp [RW.len H2, RW.closed H2, h4, z6, ↓e7]; done | simp_all) (by simp) (fun h o_h => ?_)
   have hF := ob hF; obtain ⟨x9, e10, hF⟩ := hF
   have le10 := lt_of_get e10
   obtain ⟨row11, hrow11, lrow11⟩ := RW.row H2 le10
   have w12 : IntKind.i64.wrap ((i : Int) + 1) = (i : Int) + 1 := wrap_in (by omega) (by omega)
   repeat (first | refine chk.ga ?_ | simp -dsimp [RW.len H2, RW.closed H2, h4, z6, ↓e7, o_h, ↓e10, hrow11, lrow11, w12])
   refine Again.go ⟨[(0, .arr (List.map Vl.PathBind.c a)), (3, .own 1 (List.length (α := Vl.PathBind) (out.set i v))), (4, .lit (.int .i64 ((i + 1) : Int)))], [.pack [] [], .elems 2 (R.set i [.lit (.int .i64 v.var), .lit h]), .pack (List.flatten (List.map Vl.PathBind.c (out.set i v))) (setU 2 i U [.int .i64 v.var, h])]⟩ (by refine Gh.trans (Gh.setRow (c := Vl.PathBind.c) (y := v) 2 [3] (by exact rfl) e10 (by simp) H2 (by simp) (.lit (.int .i64 v.var) (.pk 3 (by exact rfl) .nil)) (by simp) (by decide)) ?_; exact (Gh.to3 (by simp) (by first | simp -dsimp [RW.len H2, RW.closed H2, h4, z6, ↓e7, o_h, ↓e10, hrow11, lrow11, w12]; done | simp_all))) ?_
   exact (ih_laws_toPathBindS__f_l1 (out.set i v) (i + 1) o hF) (R.set i [.lit (.int .i64 v.var), .lit h]) (setU 2 i U [.int .i64 v.var, h]) ((RW.set H2 le10 [.int .i64 v.var, h] rfl).cong (by simp) (by simp) rfl) _ rfl _ hq
  ·have q5 : ¬ (i < a.length) := auq h4
   have z6 : ¬ ((i : Int) < (a.length : Int)) := auz
   rw [if_neg q5] at hF
   cases hF
   repeat (first | refine chk.ga ?_ | simp -dsimp [RW.len H2, RW.closed H2, h4, q5, z6])
   refine Leave.go ⟨[(3, .own 1 (List.length (α := Vl.PathBind) out))], [.pack [] [], .elems 2 R, .pack (List.flatten (List.map Vl.PathBind.c out)) U]⟩ (Gh.to3 (by simp) (by first | simp -dsimp [RW.len H2, RW.closed H2, h4, q5, z6]; done | simp_all)) ?_
   exact hq R U H2

theorem C.laws_toPathBindS__f_l1 (B : Nat) (hB1 : 67108864 ≤ B) (hB2 : B ≤ 9223372036854775807) (a : List Vl.PathBind) (out : List Vl.PathBind) (i : Nat) (o : List Vl.PathBind) (hF : F.laws_toPathBindS_l1 a out i = some o) : ∀ (R : List (List AV)), ∀ (U : List Value), RW 2 (List.length (α := Vl.PathBind) out) R U → ∀ (c : Code), navO [1, 1, 0, 1, 0, 0] (bodyOf Try.f37) = some c → ∀ (Q : Exit → ASt → Prop), (∀ (Rq : List (List AV)) (Uq : List Value), RW 2 (List.length (α := Vl.PathBind) o) Rq Uq → Q (.exit 0) ⟨[(3, .own 1 (List.length (α := Vl.PathBind) o))], [.pack [] [], .elems 2 Rq, .pack (List.flatten (List.map Vl.PathBind.c o)) Uq]⟩) → ALoopU Try.prog B 0 23 (hold c .mk) ⟨[(0, .arr (List.map Vl.PathBind.c a)), (3, .own 1 (List.length (α := Vl.PathBind) out)), (4, .lit (.int .i64 (i : Int)))], [.pack [] [], .elems 2 R, .pack (List.flatten (List.map Vl.PathBind.c out)) U]⟩ (hold Q .mk) :=
 (CC.laws_toPathBindS__f_l1 B hB1 hB2 a) out i o hF

set_option maxRecDepth 100000 in
set_option maxHeartbeats 4000000 in
theorem C.laws_toPathBindS__f (B : Nat) (hB1 : 67108864 ≤ B) (hB2 : B ≤ 9223372036854775807) (a : List Vl.PathBind) (r : List Vl.PathBind) (hF : F.laws_toPathBindS a = some r) : FCall Try.prog B 37 [.arr (List.map Vl.PathBind.c a)] (.arr (List.map Vl.PathBind.c r)) := by
 unfold F.laws_toPathBindS at hF
 refine FCall.enterG Try.func37 (by kernel_rfl) rfl Try.ntmps37 (by simp) (Gh.packZ .nil) ?_
 have hF := oc hF; obtain ⟨c1, hF⟩ := hF
 repeat (first | refine chk.ga ?_ | simp -dsimp)
 have hF := ob hF; obtain ⟨o', ho13, hF⟩ := hF
 refine ALoop.goU ⟨[(0, .arr (List.map Vl.PathBind.c a)), (3, .own 1 (List.length (α := Vl.PathBind) (List.replicate a.length Vl.PathBind.z))), (4, .lit (.int .i64 (0 : Int)))], [.pack [] [], .elems 2 (List.replicate a.length [.lit (.int .i64 0), .lit (.slice none 0 0)]), .pack (List.flatten (List.map Vl.PathBind.c (List.replicate a.length Vl.PathBind.z))) (List.flatten (List.replicate a.length [.int .i64 0, .slice none 0 0]))]⟩ (by refine Gh.trans (Gh.packZ (ZC.rep (.lit (.int .i64 0) (.emp none 0 .nil)) a.length)) ?_; exact (Gh.to3 (by simp) (by simp -dsimp))) ?_
 refine (C.laws_toPathBindS__f_l1 B hB1 hB2 a (List.replicate a.length Vl.PathBind.z) 0 o' ho13) (List.replicate a.length [.lit (.int .i64 0), .lit (.slice none 0 0)]) (List.flatten (List.replicate a.length [.int .i64 0, .slice none 0 0])) ((RW.rep a.length [.int .i64 0, .slice none 0 0]).cong (by simp) (by simp) rfl) _ rfl _ ?_
 intro Rq Uq Hq3
 cases hF
 repeat (first | refine chk.ga ?_ | simp -dsimp [RW.len Hq3, RW.closed Hq3])
 exact ⟨_, by decide, (.cell (.ownP 1 _ 2 rfl (by simp) (.blk 2 rfl .nil) (by simp [Hq3.2.2]) (by simp [Hq3.1]) (by simp) (by simp) .nil) .nil : CT _ _ _ _)⟩

set_option maxRecDepth 100000 in
set_option maxHeartbeats 4000000 in
theorem CC.laws_toBranch__f (B : Nat) (hB1 : 67108864 ≤ B) (hB2 : B ≤ 9223372036854775807)  : (∀ (a : Vl.Branch) (r : Vl.Branch), F.laws_toBranch a = some r → FCall Try.prog B 71 [.agg [.lit (.int .i64 a.ctor), .lit (.int .i64 a.n), .lit (.int .i64 a.m), .lit (.int .i64 a.tree.op), .lit (.int .i64 a.tree.clause), .arr (List.map Vl.PathBind.c a.tree.binds), .arr (List.map cI a.tree.path), .arr (List.map Vl.Branch.c a.tree.branches), .arr (List.map Vl.Tree.c a.tree.els)]] (.agg [.lit (.int .i64 r.ctor), .lit (.int .i64 r.n), .lit (.int .i64 r.m), .lit (.int .i64 r.tree.op), .lit (.int .i64 r.tree.clause), .arr (List.map Vl.PathBind.c r.tree.binds), .arr (List.map cI r.tree.path), .arr (List.map Vl.Branch.c r.tree.branches), .arr (List.map Vl.Tree.c r.tree.els)])) ∧
  (∀ (a : Vl.Tree) (r : Vl.Tree), F.laws_toTree a = some r → FCall Try.prog B 11 [.agg [.lit (.int .i64 a.op), .lit (.int .i64 a.clause), .arr (List.map Vl.PathBind.c a.binds), .arr (List.map cI a.path), .arr (List.map Vl.Branch.c a.branches), .arr (List.map Vl.Tree.c a.els)]] (.agg [.lit (.int .i64 r.op), .lit (.int .i64 r.clause), .arr (List.map Vl.PathBind.c r.binds), .arr (List.map cI r.path), .arr (List.map Vl.Branch.c r.branches), .arr (List.map Vl.Tree.c r.els)])) ∧
  (∀ (a : List Vl.Tree) (r : List Vl.Tree), F.laws_toTreeS a = some r → FCall Try.prog B 40 [.arr (List.map Vl.Tree.c a)] (.arr (List.map Vl.Tree.c r))) ∧
  (∀ (a : List Vl.Tree) (out : List Vl.Tree) (i : Nat) (o : List Vl.Tree), F.laws_toTreeS_l1 a out i = some o → ∀ (R : List (List AV)), ∀ (U : List Value), RW 6 (List.length (α := Vl.Tree) out) R U → ∀ (c : Code), navO [1, 1, 0, 1, 0, 0] (bodyOf Try.f40) = some c → ∀ (Q : Exit → ASt → Prop), (∀ (Rq : List (List AV)) (Uq : List Value), RW 6 (List.length (α := Vl.Tree) o) Rq Uq → Q (.exit 0) ⟨[(3, .own 1 (List.length (α := Vl.Tree) o))], [.pack [] [], .elems 6 Rq, .pack (List.flatten (List.map Vl.Tree.c o)) Uq]⟩) → ALoopU Try.prog B 0 23 (hold c .mk) ⟨[(0, .arr (List.map Vl.Tree.c a)), (3, .own 1 (List.length (α := Vl.Tree) out)), (4, .lit (.int .i64 (i : Int)))], [.pack [] [], .elems 6 R, .pack (List.flatten (List.map Vl.Tree.c out)) U]⟩ (hold Q .mk)) ∧
  (∀ (a : List Vl.Branch) (r : List Vl.Branch), F.laws_toBranchS a = some r → FCall Try.prog B 39 [.arr (List.map Vl.Branch.c a)] (.arr (List.map Vl.Branch.c r))) ∧
  (∀ (a : List Vl.Branch) (out : List Vl.Branch) (i : Nat) (o : List Vl.Branch), F.laws_toBranchS_l1 a out i = some o → ∀ (R : List (List AV)), ∀ (U : List Value), RW 9 (List.length (α := Vl.Branch) out) R U → ∀ (c : Code), navO [1, 1, 0, 1, 0, 0] (bodyOf Try.f39) = some c → ∀ (Q : Exit → ASt → Prop), (∀ (Rq : List (List AV)) (Uq : List Value), RW 9 (List.length (α := Vl.Branch) o) Rq Uq → Q (.exit 0) ⟨[(3, .own 1 (List.length (α := Vl.Branch) o))], [.pack [] [], .elems 9 Rq, .pack (List.flatten (List.map Vl.Branch.c o)) Uq]⟩) → ALoopU Try.prog B 0 23 (hold c .mk) ⟨[(0, .arr (List.map Vl.Branch.c a)), (3, .own 1 (List.length (α := Vl.Branch) out)), (4, .lit (.int .i64 (i : Int)))], [.pack [] [], .elems 9 R, .pack (List.flatten (List.map Vl.Branch.c out)) U]⟩ (hold Q .mk)) := by
 refine F.laws_toBranch.mutual_partial_correctness 
  (fun a r => FCall Try.prog B 71 [.agg [.lit (.int .i64 a.ctor), .lit (.int .i64 a.n), .lit (.int .i64 a.m), .lit (.int .i64 a.tree.op), .lit (.int .i64 a.tree.clause), .arr (List.map Vl.PathBind.c a.tree.binds), .arr (List.map cI a.tree.path), .arr (List.map Vl.Branch.c a.tree.branches), .arr (List.map Vl.Tree.c a.tree.els)]] (.agg [.lit (.int .i64 r.ctor), .lit (.int .i64 r.n), .lit (.int .i64 r.m), .lit (.int .i64 r.tree.op), .lit (.int .i64 r.tree.clause), .arr (List.map Vl.PathBind.c r.tree.binds), .arr (List.map cI r.tree.path), .arr (List.map Vl.Branch.c r.tree.branches), .arr (List.map Vl.Tree.c r.tree.els)]))
  (fun a r => FCall Try.prog B 11 [.agg [.lit (.int .i64 a.op), .lit (.int .i64 a.clause), .arr (List.map Vl.PathBind.c a.binds), .arr (List.map cI a.path), .arr (List.map Vl.Branch.c a.branches), .arr (List.map Vl.Tree.c a.els)]] (.agg [.lit (.int .i64 r.op), .lit (.int .i64 r.clause), .arr (List.map Vl.PathBind.c r.binds), .arr (List.map cI r.path), .arr (List.map Vl.Branch.c r.branches), .arr (List.map Vl.Tree.c r.els)]))
  (fun a r => FCall Try.prog B 40 [.arr (List.map Vl.Tree.c a)] (.arr (List.map Vl.Tree.c r)))
  (fun a out i o => ∀ (R : List (List AV)), ∀ (U : List Value), RW 6 (List.length (α := Vl.Tree) out) R U → ∀ (c : Code), navO [1, 1, 0, 1, 0, 0] (bodyOf Try.f40) = some c → ∀ (Q : Exit → ASt → Prop), (∀ (Rq : List (List AV)) (Uq : List Value), RW 6 (List.length (α := Vl.Tree) o) Rq Uq → Q (.exit 0) ⟨[(3, .own 1 (List.length (α := Vl.Tree) o))], [.pack [] [], .elems 6 Rq, .pack (List.flatten (List.map Vl.Tree.c o)) Uq]⟩) → ALoopU Try.prog B 0 23 (hold c .mk) ⟨[(0, .arr (List.map Vl.Tree.c a)), (3, .own 1 (List.length (α := Vl.Tree) out)), (4, .lit (.int .i64 (i : Int)))], [.pack [] [], .elems 6 R, .pack (List.flatten (List.map Vl.Tree.c out)) U]⟩ (hold Q .mk))
  (fun a r => FCall Try.prog B 39 [.arr (List.map Vl.Branch.c a)] (.arr (List.map Vl.Branch.c r)))
  (fun a out i o => ∀ (R : List (List AV)), ∀ (U : List Value), RW 9 (List.length (α := Vl.Branch) out) R U → ∀ (c : Code), navO [1, 1, 0, 1, 0, 0] (bodyOf Try.f39) = some c → ∀ (Q : Exit → ASt → Prop), (∀ (Rq : List (List AV)) (Uq : List Value), RW 9 (List.length (α := Vl.Branch) o) Rq Uq → Q (.exit 0) ⟨[(3, .own 1 (List.length (α := Vl.Branch) o))], [.pack [] [], .elems 9 Rq, .pack (List.flatten (List.map Vl.Branch.c o)) Uq]⟩) → ALoopU Try.prog B 0 23 (hold c .mk) ⟨[(0, .arr (List.map Vl.Branch.c a)), (3, .own 1 (List.length (α := Vl.Branch) out)), (4, .lit (.int .i64 (i : Int)))], [.pack [] [], .elems 9 R, .pack (List.flatten (List.map Vl.Branch.c out)) U]⟩ (hold Q .mk))
  ?_ ?_ ?_ ?_ ?_ ?_
 ·intro _f_laws_toTree__f ih_laws_toTree__f a r hF
  refine FCall.enterG Try.func71 (by kernel_rfl) rfl Try.ntmps71 (by simp) (Gh.packZ .nil) ?_
  repeat (first | refine chk.ga ?_ | simp -dsimp)
  have hF := ob hF; obtain ⟨v, e1, hF⟩ := hF
  refine ((ih_laws_toTree__f a.tree v e1)).go4 (by simp -dsimp) (by simp) (fun h h2 h3 h4 o_h o_h2 o_h3 o_h4 => ?_)
  cases hF
  repeat (first | refine chk.ga ?_ | simp -dsimp [o_h, o_h2, o_h3, o_h4])
  exact ⟨_, by decide, (.agg (.lit _ (.lit _ (.lit _ (.lit _ (.lit _ (.pk 4 rfl (.pk 5 rfl (.pk 6 rfl (.pk 7 rfl .nil))))))))) .nil : CT _ _ _ _)⟩
 ·intro _f_laws_toTreeS__f _f_laws_toBranchS__f ih_laws_toTreeS__f ih_laws_toBranchS__f a r hF
  refine FCall.enterG Try.func11 (by kernel_rfl) rfl Try.ntmps11 (by simp) (Gh.packZ .nil) ?_
  repeat (first | refine chk.ga ?_ | simp -dsimp)
  have hF := ob hF; obtain ⟨v, e1, hF⟩ := hF
  refine ((C.laws_toPathBindS__f B hB1 hB2 a.binds v e1)).go1 (by simp -dsimp) (by simp) (fun h o_h => ?_)
  repeat (first | refine chk.ga ?_ | simp -dsimp [o_h])
  have hF := ob hF; obtain ⟨v2, e3, hF⟩ := hF
  refine ((C.laws_toIntS__f B hB1 hB2 a.path v2 e3)).go1 (by first | simp -dsimp [o_h]; done | simp_all) (by simp) (fun h4 o_h4 => ?_)
  repeat (first | refine chk.ga ?_ | simp -dsimp [o_h, o_h4])
  have hF := ob hF; obtain ⟨v5, e6, hF⟩ := hF
  refine ((ih_laws_toBranchS__f a.branches v5 e6)).go1 (by first | simp -dsimp [o_h, o_h4]; done | simp_all) (by simp) (fun h7 o_h7 => ?_)
  repeat (first | refine chk.ga ?_ | simp -dsimp [o_h, o_h4, o_h7])
  have hF := ob hF; obtain ⟨v8, e9, hF⟩ := hF
  refine ((ih_laws_toTreeS__f a.els v8 e9)).go1 (by first | simp -dsimp [o_h, o_h4, o_h7]; done | simp_all) (by simp) (fun h10 o_h10 => ?_)
  cases hF
  repeat (first | refine chk.ga ?_ | simp -dsimp [o_h, o_h4, o_h7, o_h10])
  exact ⟨_, by decide, (.agg (.lit _ (.lit _ (.pk 4 rfl (.pk 5 rfl (.pk 6 rfl (.pk 7 rfl .nil)))))) .nil : CT _ _ _ _)⟩
 ·intro _f_laws_toTreeS__f_l1 ih_laws_toTreeS__f_l1 a r hF
  refine FCall.enterG Try.func40 (by kernel_rfl) rfl Try.ntmps40 (by simp) (Gh.packZ .nil) ?_
  have hF := oc hF; obtain ⟨c1, hF⟩ := hF
  repeat (first | refine chk.ga ?_ | simp -dsimp)
  have hF := ob hF; obtain ⟨o', ho16, hF⟩ := hF
  refine ALoop.goU ⟨[(0, .arr (List.map Vl.Tree.c a)), (3, .own 1 (List.length (α := Vl.Tree) (List.replicate a.length Vl.Tree.z))), (4, .lit (.int .i64 (0 : Int)))], [.pack [] [], .elems 6 (List.replicate a.length [.lit (.int .i64 0), .lit (.int .i64 0), .lit (.slice none 0 0), .lit (.slice none 0 0), .lit (.slice none 0 0), .lit (.slice none 0 0)]), .pack (List.flatten (List.map Vl.Tree.c (List.replicate a.length Vl.Tree.z))) (List.flatten (List.replicate a.length [.int .i64 0, .int .i64 0, .slice none 0 0, .slice none 0 0, .slice none 0 0, .slice none 0 0]))]⟩ (by refine Gh.trans (Gh.packZ (ZC.rep (.lit (.int .i64 0) (.lit (.int .i64 0) (.emp none 0 (.emp none 0 (.emp none 0 (.emp none 0 .nil)))))) a.length)) ?_; exact (Gh.to3 (by simp) (by simp -dsimp))) ?_
  refine (ih_laws_toTreeS__f_l1 a (List.replicate a.length Vl.Tree.z) 0 o' ho16) (List.replicate a.length [.lit (.int .i64 0), .lit (.int .i64 0), .lit (.slice none 0 0), .lit (.slice none 0 0), .lit (.slice none 0 0), .lit (.slice none 0 0)]) (List.flatten (List.replicate a.length [.int .i64 0, .int .i64 0, .slice none 0 0, .slice none 0 0, .slice none 0 0, .slice none 0 0])) ((RW.rep a.length [.int .i64 0, .int .i64 0, .slice none 0 0, .slice none 0 0, .slice none 0 0, .slice none 0 0]).cong (by simp) (by simp) rfl) _ rfl _ ?_
  intro Rq Uq Hq3
  cases hF
  repeat (first | refine chk.ga ?_ | simp -dsimp [RW.len Hq3, RW.closed Hq3])
  exact ⟨_, by decide, (.cell (.ownP 1 _ 6 rfl (by simp) (.blk 2 rfl .nil) (by simp [Hq3.2.2]) (by simp [Hq3.1]) (by simp) (by simp) .nil) .nil : CT _ _ _ _)⟩
 ·intro _f_laws_toTree__f _f_laws_toTreeS__f_l1 ih_laws_toTree__f ih_laws_toTreeS__f_l1 a out i o hF
  intro R U H2 c hc Q hq
  obtain rfl : c = _ := navEq hc rfl
  refine ALoopU.know fun hk hs => ?_
  have b0 := hk 0
  simp -dsimp at b0
  have d1 := hs 1 _ rfl
  simp -dsimp [Blk.bnd] at d1
  clear hk hs
  refine ALoopU.enter ?_
  repeat (first | refine chk.ga ?_ | simp -dsimp [RW.len H2, RW.closed H2])
  refine abr.split (fun h4 => ?_) (fun h4 => ?_)
  ·have q5 : (i < a.length) := auq h4
   have z6 : ((i : Int) < (a.length : Int)) := auz
   rw [if_pos q5] at hF
   have hF := ob hF; obtain ⟨x, e7, hF⟩ := hF
   have le7 := lt_of_get e7
   repeat (first | refine chk.ga ?_ | simp -dsimp [RW.len H2, RW.closed H2, h4, z6, ↓e7])
   have hF := ob hF; obtain ⟨v, e8, hF⟩ := hF
   refine ((ih_laws_toTree__f x v e8)).go4 (by first | simp -dsimp [RW.len H2, RW.closed H2, h4, z6, ↓e7]; done | simp_all) (by simp) (fun h h9 h10 h11 o_h o_h9 o_h10 o_h11 => ?_)
   have hF := ob hF; obtain ⟨x12, e13, hF⟩ := hF
   have le13 := lt_of_get e13
   obtain ⟨row14, hrow14, lrow14⟩ := RW.row H2 le13
   have w15 : IntKind.i64.wrap ((i : Int) + 1) = (i : Int) + 1 := wrap_in (by omega) (by omega)
   repeat (first | refine chk.ga ?_ | simp -dsimp [RW.len H2, RW.closed H2, h4, z6, ↓e7, o_h, o_h9, o_h10, o_h11, ↓e13, hrow14, lrow14, w15])
   refine Again.go ⟨[(0, .arr (List.map Vl.Tree.c a)), (3, .own 1 (List.length (α := Vl.Tree) (out.set i v))), (4, .lit (.int .i64 ((i + 1) : Int)))], [.pack [] [], .elems 6 (R.set i [.lit (.int .i64 v.op), .lit (.int .i64 v.clause), .lit h, .lit h9, .lit h10, .lit h11]), .pack (List.flatten (List.map Vl.Tree.c (out.set i v))) (setU 6 i U [.int .i64 v.op, .int .i64 v.clause, h, h9, h10, h11])]⟩ (by refine Gh.trans (Gh.setRow (c := Vl.Tree.c) (y := v) 2 [3, 4, 5, 6] (by exact rfl) e13 (by simp) H2 (by simp) (.lit (.int .i64 v.op) (.lit (.int .i64 v.clause) (.pk 3 (by exact rfl) (.pk 4 (by exact rfl) (.pk 5 (by exact rfl) (.pk 6 (by exact rfl) .nil)))))) (by simp) (by decide)) ?_; exact (Gh.to3 (by simp) (by first | simp -dsimp [RW.len H2, RW.closed H2, h4, z6, ↓e7, o_h, o_h9, o_h10, o_h11, ↓e13, hrow14, lrow14, w15]; done | simp_all))) ?_
   exact (ih_laws_toTreeS__f_l1 a (out.set i v) (i + 1) o hF) (R.set i [.lit (.int .i64 v.op), .lit (.int .i64 v.clause), .lit h, .lit h9, .lit h10, .lit h11]) (setU 6 i U [.int .i64 v.op, .int .i64 v.clause, h, h9, h10, h11]) ((RW.set H2 le13 [.int .i64 v.op, .int .i64 v.clause, h, h9, h10, h11] rfl).cong (by simp) (by simp) rfl) _ rfl _ hq
  ·have q5 : ¬ (i < a.length) := auq h4
   have z6 : ¬ ((i : Int) < (a.length : Int)) := auz
   rw [if_neg q5] at hF
   cases hF
   repeat (first | refine chk.ga ?_ | simp -dsimp [RW.len H2, RW.closed H2, h4, q5, z6])
   refine Leave.go ⟨[(3, .own 1 (List.length (α := Vl.Tree) out))], [.pack [] [], .elems 6 R, .pack (List.flatten (List.map Vl.Tree.c out)) U]⟩ (Gh.to3 (by simp) (by first | simp -dsimp [RW.len H2, RW.closed H2, h4, q5, z6]; done | simp_all)) ?_
   exact hq R U H2
 ·intro _f_laws_toBranchS__f_l1 ih_laws_toBranchS__f_l1 a r hF
  refine FCall.enterG Try.func39 (by kernel_rfl) rfl Try.ntmps39 (by simp) (Gh.packZ .nil) ?_
  have hF := oc hF; obtain ⟨c1, hF⟩ := hF
  repeat (first | refine chk.ga ?_ | simp -dsimp)
  have hF := ob hF; obtain ⟨o', ho16, hF⟩ := hF
  refine ALoop.goU ⟨[(0, .arr (List.map Vl.Branch.c a)), (3, .own 1 (List.length (α := Vl.Branch) (List.replicate a.length Vl.Branch.z))), (4, .lit (.int .i64 (0 : Int)))], [.pack [] [], .elems 9 (List.replicate a.length [.lit (.int .i64 0), .lit (.int .i64 0), .lit (.int .i64 0), .lit (.int .i64 0), .lit (.int .i64 0), .lit (.slice none 0 0), .lit (.slice none 0 0), .lit (.slice none 0 0), .lit (.slice none 0 0)]), .pack (List.flatten (List.map Vl.Branch.c (List.replicate a.length Vl.Branch.z))) (List.flatten (List.replicate a.length [.int .i64 0, .int .i64 0, .int .i64 0, .int .i64 0, .int .i64 0, .slice none 0 0, .slice none 0 0, .slice none 0 0, .slice none 0 0]))]⟩ (by refine Gh.trans (Gh.packZ (ZC.rep (.lit (.int .i64 0) (.lit (.int .i64 0) (.lit (.int .i64 0) (.lit (.int .i64 0) (.lit (.int .i64 0) (.emp none 0 (.emp none 0 (.emp none 0 (.emp none 0 .nil))))))))) a.length)) ?_; exact (Gh.to3 (by simp) (by simp -dsimp))) ?_
  refine (ih_laws_toBranchS__f_l1 a (List.replicate a.length Vl.Branch.z) 0 o' ho16) (List.replicate a.length [.lit (.int .i64 0), .lit (.int .i64 0), .lit (.int .i64 0), .lit (.int .i64 0), .lit (.int .i64 0), .lit (.slice none 0 0), .lit (.slice none 0 0), .lit (.slice none 0 0), .lit (.slice none 0 0)]) (List.flatten (List.replicate a.length [.int .i64 0, .int .i64 0, .int .i64 0, .int .i64 0, .int .i64 0, .slice none 0 0, .slice none 0 0, .slice none 0 0, .slice none 0 0])) ((RW.rep a.length [.int .i64 0, .int .i64 0, .int .i64 0, .int .i64 0, .int .i64 0, .slice none 0 0, .slice none 0 0, .slice none 0 0, .slice none 0 0]).cong (by simp) (by simp) rfl) _ rfl _ ?_
  intro Rq Uq Hq3
  cases hF
  repeat (first | refine chk.ga ?_ | simp -dsimp [RW.len Hq3, RW.closed Hq3])
  exact ⟨_, by decide, (.cell (.ownP 1 _ 9 rfl (by simp) (.blk 2 rfl .nil) (by simp [Hq3.2.2]) (by simp [Hq3.1]) (by simp) (by simp) .nil) .nil : CT _ _ _ _)⟩
 ·intro _f_laws_toBranch__f _f_laws_toBranchS__f_l1 ih_laws_toBranch__f ih_laws_toBranchS__f_l1 a out i o hF
  intro R U H2 c hc Q hq
  obtain rfl : c = _ := navEq hc rfl
  refine ALoopU.know fun hk hs => ?_
  have b0 := hk 0
  simp -dsimp at b0
  have d1 := hs 1 _ rfl
  simp -dsimp [Blk.bnd] at d1
  clear hk hs
  refine ALoopU.enter ?_
  repeat (first | refine chk.ga ?_ | simp -dsimp [RW.len H2, RW.closed H2])
  refine abr.split (fun h4 => ?_) (fun h4 => ?_)
  ·have q5 : (i < a.length) := auq h4
   have z6 : ((i : Int) < (a.length : Int)) := auz
   rw [if_pos q5] at hF
   have hF := ob hF; obtain ⟨x, e7, hF⟩ := hF
   have le7 := lt_of_get e7
   repeat (first | refine chk.ga ?_ | simp -dsimp [RW.len H2, RW.closed H2, h4, z6, ↓e7])
   have hF := ob hF; obtain ⟨v, e8, hF⟩ := hF
   refine ((ih_laws_toBranch__f x v e8)).go4 (by first | simp -dsimp [RW.len H2, RW.closed H2, h4, z6, ↓e7]; done | simp_all) (by simp) (fun h h9 h10 h11 o_h o_h9 o_h10 o_h11 => ?_)
   have hF := ob hF; obtain ⟨x12, e13, hF⟩ := hF
   have le13 := lt_of_get e13
   obtain ⟨row14, hrow14, lrow14⟩ := RW.row H2 le13
   have w15 : IntKind.i64.wrap ((i : Int) + 1) = (i : Int) + 1 := wrap_in (by omega) (by omega)
   repeat (first | refine chk.ga ?_ | simp -dsimp [RW.len H2, RW.closed H2, h4, z6, ↓e7, o_h, o_h9, o_h10, o_h11, ↓e13, hrow14, lrow14, w15])
   refine Again.go ⟨[(0, .arr (List.map Vl.Branch.c a)), (3, .own 1 (List.length (α := Vl.Branch) (out.set i v))), (4, .lit (.int .i64 ((i + 1) : Int)))], [.pack [] [], .elems 9 (R.set i [.lit (.int .i64 v.ctor), .lit (.int .i64 v.n), .lit (.int .i64 v.m), .lit (.int .i64 v.tree.op), .lit (.int .i64 v.tree.clause), .lit h, .lit h9, .lit h10, .lit h11]), .pack (List.flatten (List.map Vl.Branch.c (out.set i v))) (setU 9 i U [.int .i64 v.ctor, .int .i64 v.n, .int .i64 v.m, .int .i64 v.tree.op, .int .i64 v.tree.clause, h, h9, h10, h11])]⟩ (by refine Gh.trans (Gh.setRow (c := Vl.Branch.c) (y := v) 2 [3, 4, 5, 6] (by exact rfl) e13 (by simp) H2 (by simp) (.lit (.int .i64 v.ctor) (.lit (.int .i64 v.n) (.lit (.int .i64 v.m) (.lit (.int .i64 v.tree.op) (.lit (.int .i64 v.tree.clause) (.pk 3 (by exact rfl) (.pk 4 (by exact rfl) (.pk 5 (by exact rfl) (.pk 6 (by exact rfl) .nil))))))))) (by simp) (by decide)) ?_; exact (Gh.to3 (by simp) (by first | simp -dsimp [RW.len H2, RW.closed H2, h4, z6, ↓e7, o_h, o_h9, o_h10, o_h11, ↓e13, hrow14, lrow14, w15]; done | simp_all))) ?_
   exact (ih_laws_toBranchS__f_l1 a (out.set i v) (i + 1) o hF) (R.set i [.lit (.int .i64 v.ctor), .lit (.int .i64 v.n), .lit (.int .i64 v.m), .lit (.int .i64 v.tree.op), .lit (.int .i64 v.tree.clause), .lit h, .lit h9, .lit h10, .lit h11]) (setU 9 i U [.int .i64 v.ctor, .int .i64 v.n, .int .i64 v.m, .int .i64 v.tree.op, .int .i64 v.tree.clause, h, h9, h10, h11]) ((RW.set H2 le13 [.int .i64 v.ctor, .int .i64 v.n, .int .i64 v.m, .int .i64 v.tree.op, .int .i64 v.tree.clause, h, h9, h10, h11] rfl).cong (by simp) (by simp) rfl) _ rfl _ hq
  ·have q5 : ¬ (i < a.length) := auq h4
   have z6 : ¬ ((i : Int) < (a.length : Int)) := auz
   rw [if_neg q5] at hF
   cases hF
   repeat (first | refine chk.ga ?_ | simp -dsimp [RW.len H2, RW.closed H2, h4, q5, z6])
   refine Leave.go ⟨[(3, .own 1 (List.length (α := Vl.Branch) out))], [.pack [] [], .elems 9 R, .pack (List.flatten (List.map Vl.Branch.c out)) U]⟩ (Gh.to3 (by simp) (by first | simp -dsimp [RW.len H2, RW.closed H2, h4, q5, z6]; done | simp_all)) ?_
   exact hq R U H2

theorem C.laws_toBranch__f (B : Nat) (hB1 : 67108864 ≤ B) (hB2 : B ≤ 9223372036854775807) (a : Vl.Branch) (r : Vl.Branch) (hF : F.laws_toBranch a = some r) : FCall Try.prog B 71 [.agg [.lit (.int .i64 a.ctor), .lit (.int .i64 a.n), .lit (.int .i64 a.m), .lit (.int .i64 a.tree.op), .lit (.int .i64 a.tree.clause), .arr (List.map Vl.PathBind.c a.tree.binds), .arr (List.map cI a.tree.path), .arr (List.map Vl.Branch.c a.tree.branches), .arr (List.map Vl.Tree.c a.tree.els)]] (.agg [.lit (.int .i64 r.ctor), .lit (.int .i64 r.n), .lit (.int .i64 r.m), .lit (.int .i64 r.tree.op), .lit (.int .i64 r.tree.clause), .arr (List.map Vl.PathBind.c r.tree.binds), .arr (List.map cI r.tree.path), .arr (List.map Vl.Branch.c r.tree.branches), .arr (List.map Vl.Tree.c r.tree.els)]) :=
 (CC.laws_toBranch__f B hB1 hB2 ).1 a r hF

theorem C.laws_toTree__f (B : Nat) (hB1 : 67108864 ≤ B) (hB2 : B ≤ 9223372036854775807) (a : Vl.Tree) (r : Vl.Tree) (hF : F.laws_toTree a = some r) : FCall Try.prog B 11 [.agg [.lit (.int .i64 a.op), .lit (.int .i64 a.clause), .arr (List.map Vl.PathBind.c a.binds), .arr (List.map cI a.path), .arr (List.map Vl.Branch.c a.branches), .arr (List.map Vl.Tree.c a.els)]] (.agg [.lit (.int .i64 r.op), .lit (.int .i64 r.clause), .arr (List.map Vl.PathBind.c r.binds), .arr (List.map cI r.path), .arr (List.map Vl.Branch.c r.branches), .arr (List.map Vl.Tree.c r.els)]) :=
 (CC.laws_toBranch__f B hB1 hB2 ).2.1 a r hF

theorem C.laws_toTreeS__f (B : Nat) (hB1 : 67108864 ≤ B) (hB2 : B ≤ 9223372036854775807) (a : List Vl.Tree) (r : List Vl.Tree) (hF : F.laws_toTreeS a = some r) : FCall Try.prog B 40 [.arr (List.map Vl.Tree.c a)] (.arr (List.map Vl.Tree.c r)) :=
 (CC.laws_toBranch__f B hB1 hB2 ).2.2.1 a r hF

theorem C.laws_toTreeS__f_l1 (B : Nat) (hB1 : 67108864 ≤ B) (hB2 : B ≤ 9223372036854775807) (a : List Vl.Tree) (out : List Vl.Tree) (i : Nat) (o : List Vl.Tree) (hF : F.laws_toTreeS_l1 a out i = some o) : ∀ (R : List (List AV)), ∀ (U : List Value), RW 6 (List.length (α := Vl.Tree) out) R U → ∀ (c : Code), navO [1, 1, 0, 1, 0, 0] (bodyOf Try.f40) = some c → ∀ (Q : Exit → ASt → Prop), (∀ (Rq : List (List AV)) (Uq : List Value), RW 6 (List.length (α := Vl.Tree) o) Rq Uq → Q (.exit 0) ⟨[(3, .own 1 (List.length (α := Vl.Tree) o))], [.pack [] [], .elems 6 Rq, .pack (List.flatten (List.map Vl.Tree.c o)) Uq]⟩) → ALoopU Try.prog B 0 23 (hold c .mk) ⟨[(0, .arr (List.map Vl.Tree.c a)), (3, .own 1 (List.length (α := Vl.Tree) out)), (4, .lit (.int .i64 (i : Int)))], [.pack [] [], .elems 6 R, .pack (List.flatten (List.map Vl.Tree.c out)) U]⟩ (hold Q .mk) :=
 (CC.laws_toBranch__f B hB1 hB2 ).2.2.2.1 a out i o hF

theorem C.laws_toBranchS__f (B : Nat) (hB1 : 67108864 ≤ B) (hB2 : B ≤ 9223372036854775807) (a : List Vl.Branch) (r : List Vl.Branch) (hF : F.laws_toBranchS a = some r) : FCall Try.prog B 39 [.arr (List.map Vl.Branch.c a)] (.arr (List.map Vl.Branch.c r)) :=
 (CC.laws_toBranch__f B hB1 hB2 ).2.2.2.2.1 a r hF

theorem C.laws_toBranchS__f_l1 (B : Nat) (hB1 : 67108864 ≤ B) (hB2 : B ≤ 9223372036854775807) (a : List Vl.Branch) (out : List Vl.Branch) (i : Nat) (o : List Vl.Branch) (hF : F.laws_toBranchS_l1 a out i = some o) : ∀ (R : List (List AV)), ∀ (U : List Value), RW 9 (List.length (α := Vl.Branch) out) R U → ∀ (c : Code), navO [1, 1, 0, 1, 0, 0] (bodyOf Try.f39) = some c → ∀ (Q : Exit → ASt → Prop), (∀ (Rq : List (List AV)) (Uq : List Value), RW 9 (List.length (α := Vl.Branch) o) Rq Uq → Q (.exit 0) ⟨[(3, .own 1 (List.length (α := Vl.Branch) o))], [.pack [] [], .elems 9 Rq, .pack (List.flatten (List.map Vl.Branch.c o)) Uq]⟩) → ALoopU Try.prog B 0 23 (hold c .mk) ⟨[(0, .arr (List.map Vl.Branch.c a)), (3, .own 1 (List.length (α := Vl.Branch) out)), (4, .lit (.int .i64 (i : Int)))], [.pack [] [], .elems 9 R, .pack (List.flatten (List.map Vl.Branch.c out)) U]⟩ (hold Q .mk) :=
 (CC.laws_toBranch__f B hB1 hB2 ).2.2.2.2.2 a out i o hF

set_option maxRecDepth 100000 in
set_option maxHeartbeats 4000000 in
theorem C.impl_within (B : Nat) (hB1 : 67108864 ≤ B) (hB2 : B ≤ 9223372036854775807) (n : Int) (low : Int) (high : Int) (r : Bool) (hF : F.impl_within n low high = some r) : PureCall Try.prog B 78 [.lit (.int .i64 n), .lit (.int .i64 low), .lit (.int .i64 high)] (.lit (.bool r)) := by
 unfold F.impl_within at hF
 refine PureCall.enterLe Try.func78 (by kernel_rfl) rfl Try.ntmps78 (by simp) (by simp) ?_
 repeat (first | refine chk.ga ?_ | simp -dsimp)
 refine abr.split (fun h1 => ?_) (fun h1 => ?_)
 ·have q2 : (low ≤ n) := auq h1
  rw [if_pos q2] at hF
  cases hF
  repeat (first | refine chk.ga ?_ | simp -dsimp [h1])
  all_goals (try omega)
 ·have q2 : ¬ (low ≤ n) := auq h1
  rw [if_neg q2] at hF
  cases hF
  repeat (first | refine chk.ga ?_ | simp -dsimp [h1, q2])
  all_goals (try omega)

set_option maxRecDepth 100000 in
set_option maxHeartbeats 4000000 in
theorem CC.impl_subtrees_l1 (B : Nat) (hB1 : 67108864 ≤ B) (hB2 : B ≤ 9223372036854775807) (x : Vl.Tree) : (∀ (out : List Vl.Tree) (i : Nat) (o : List Vl.Tree), F.impl_subtrees_l1 x out i = some o → ∀ (c : Code), navO [1, 1, 0, 1, 0, 0] (bodyOf Try.f41) = some c → ∀ (Q : Exit → ASt → Prop), (Q (.exit 0) ⟨[(1, .ptr 0 0), (3, .own 1 (List.length (α := Vl.Tree) o))], [.cells [.lit (.int .i64 x.op), .lit (.int .i64 x.clause), .arr (List.map Vl.PathBind.c x.binds), .arr (List.map cI x.path), .arr (List.map Vl.Branch.c x.branches), .arr (List.map Vl.Tree.c x.els)], .elems 6 (List.map Vl.Tree.c o)]⟩) → ALoopU Try.prog B 0 23 (hold c .mk) ⟨[(1, .ptr 0 0), (3, .own 1 (List.length (α := Vl.Tree) out)), (7, .arr (List.map Vl.Branch.c x.branches)), (8, .lit (.int .i64 (x.branches.length : Int))), (9, .lit (.int .i64 (i : Int)))], [.cells [.lit (.int .i64 x.op), .lit (.int .i64 x.clause), .arr (List.map Vl.PathBind.c x.binds), .arr (List.map cI x.path), .arr (List.map Vl.Branch.c x.branches), .arr (List.map Vl.Tree.c x.els)], .elems 6 (List.map Vl.Tree.c out)]⟩ (hold Q .mk)) := by
 refine F.impl_subtrees_l1.partial_correctness x
  (fun out i o => ∀ (c : Code), navO [1, 1, 0, 1, 0, 0] (bodyOf Try.f41) = some c → ∀ (Q : Exit → ASt → Prop), (Q (.exit 0) ⟨[(1, .ptr 0 0), (3, .own 1 (List.length (α := Vl.Tree) o))], [.cells [.lit (.int .i64 x.op), .lit (.int .i64 x.clause), .arr (List.map Vl.PathBind.c x.binds), .arr (List.map cI x.path), .arr (List.map Vl.Branch.c x.branches), .arr (List.map Vl.Tree.c x.els)], .elems 6 (List.map Vl.Tree.c o)]⟩) → ALoopU Try.prog B 0 23 (hold c .mk) ⟨[(1, .ptr 0 0), (3, .own 1 (List.length (α := Vl.Tree) out)), (7, .arr (List.map Vl.Branch.c x.branches)), (8, .lit (.int .i64 (x.branches.length : Int))), (9, .lit (.int .i64 (i : Int)))], [.cells [.lit (.int .i64 x.op), .lit (.int .i64 x.clause), .arr (List.map Vl.PathBind.c x.binds), .arr (List.map cI x.path), .arr (List.map Vl.Branch.c x.branches), .arr (List.map Vl.Tree.c x.els)], .elems 6 (List.map Vl.Tree.c out)]⟩ (hold Q .mk))
  ?_
 ·intro _f_impl_subtrees_l1 ih_impl_subtrees_l1 out i o hF
  intro c hc Q hq
  obtain rfl : c = _ := navEq hc rfl
  refine ALoopU.know fun hk hs => ?_
  have b7 := hk 7
  simp -dsimp at b7
  have d0 := hs 0 _ rfl
  simp -dsimp [Blk.bnd] at d0
  have d1 := hs 1 _ rfl
  simp -dsimp [Blk.bnd] at d1
  clear hk hs
  refine ALoopU.enter ?_
  repeat (first | refine chk.ga ?_ | simp -dsimp)
  refine abr.split (fun h1 => ?_) (fun h1 => ?_)
  ·have q2 : (i < x.branches.length) := auq h1
   have z3 : ((i : Int) < (x.branches.length : Int)) := auz
   rw [if_pos q2] at hF
   have hF := ob hF; obtain ⟨x4, e5, hF⟩ := hF
   have le5 := lt_of_get e5
   have hF := oc hF; obtain ⟨c6, hF⟩ := hF
   have w7 : IntKind.i64.wrap ((i : Int) + 1) = (i : Int) + 1 := wrap_in (by omega) (by omega)
   repeat (first | refine chk.ga ?_ | simp -dsimp [h1, z3, ↓e5, w7])
   refine Again.go ⟨[(1, .ptr 0 0), (3, .own 1 (List.length (α := Vl.Tree) (out ++ [x4.tree]))), (7, .arr (List.map Vl.Branch.c x.branches)), (8, .lit (.int .i64 (x.branches.length : Int))), (9, .lit (.int .i64 ((i + 1) : Int)))], [.cells [.lit (.int .i64 x.op), .lit (.int .i64 x.clause), .arr (List.map Vl.PathBind.c x.binds), .arr (List.map cI x.path), .arr (List.map Vl.Branch.c x.branches), .arr (List.map Vl.Tree.c x.els)], .elems 6 (List.map Vl.Tree.c (out ++ [x4.tree]))]⟩ (Gh.to3 (by simp) (by first | simp -dsimp [h1, z3, ↓e5, w7]; done | simp_all)) ?_
   exact (ih_impl_subtrees_l1 (out ++ [x4.tree]) (i + 1) o hF) _ rfl _ hq
  ·have q2 : ¬ (i < x.branches.length) := auq h1
   have z3 : ¬ ((i : Int) < (x.branches.length : Int)) := auz
   rw [if_neg q2] at hF
   cases hF
   repeat (first | refine chk.ga ?_ | simp -dsimp [h1, q2, z3])
   refine Leave.go ⟨[(1, .ptr 0 0), (3, .own 1 (List.length (α := Vl.Tree) out))], [.cells [.lit (.int .i64 x.op), .lit (.int .i64 x.clause), .arr (List.map Vl.PathBind.c x.binds), .arr (List.map cI x.path), .arr (List.map Vl.Branch.c x.branches), .arr (List.map Vl.Tree.c x.els)], .elems 6 (List.map Vl.Tree.c out)]⟩ (Gh.to3 (by simp) (by first | simp -dsimp [h1, q2, z3]; done | simp_all)) ?_
   exact hq

theorem C.impl_subtrees_l1 (B : Nat) (hB1 : 67108864 ≤ B) (hB2 : B ≤ 9223372036854775807) (x : Vl.Tree) (out : List Vl.Tree) (i : Nat) (o : List Vl.Tree) (hF : F.impl_subtrees_l1 x out i = some o) : ∀ (c : Code), navO [1, 1, 0, 1, 0, 0] (bodyOf Try.f41) = some c → ∀ (Q : Exit → ASt → Prop), (Q (.exit 0) ⟨[(1, .ptr 0 0), (3, .own 1 (List.length (α := Vl.Tree) o))], [.cells [.lit (.int .i64 x.op), .lit (.int .i64 x.clause), .arr (List.map Vl.PathBind.c x.binds), .arr (List.map cI x.path), .arr (List.map Vl.Branch.c x.branches), .arr (List.map Vl.Tree.c x.els)], .elems 6 (List.map Vl.Tree.c o)]⟩) → ALoopU Try.prog B 0 23 (hold c .mk) ⟨[(1, .ptr 0 0), (3, .own 1 (List.length (α := Vl.Tree) out)), (7, .arr (List.map Vl.Branch.c x.branches)), (8, .lit (.int .i64 (x.branches.length : Int))), (9, .lit (.int .i64 (i : Int)))], [.cells [.lit (.int .i64 x.op), .lit (.int .i64 x.clause), .arr (List.map Vl.PathBind.c x.binds), .arr (List.map cI x.path), .arr (List.map Vl.Branch.c x.branches), .arr (List.map Vl.Tree.c x.els)], .elems 6 (List.map Vl.Tree.c out)]⟩ (hold Q .mk) :=
 (CC.impl_subtrees_l1 B hB1 hB2 x) out i o hF

set_option maxRecDepth 100000 in
set_option maxHeartbeats 4000000 in
theorem C.impl_subtrees (B : Nat) (hB1 : 67108864 ≤ B) (hB2 : B ≤ 9223372036854775807) (x : Vl.Tree) (r : List Vl.Tree) (hF : F.impl_subtrees x = some r) : PureCall Try.prog B 41 [.agg [.lit (.int .i64 x.op), .lit (.int .i64 x.clause), .arr (List.map Vl.PathBind.c x.binds), .arr (List.map cI x.path), .arr (List.map Vl.Branch.c x.branches), .arr (List.map Vl.Tree.c x.els)]] (.arr (List.map Vl.Tree.c r)) := by
 unfold F.impl_subtrees at hF
 refine PureCall.enterLe Try.func41 (by kernel_rfl) rfl Try.ntmps41 (by simp) (by simp) ?_
 repeat (first | refine chk.ga ?_ | simp -dsimp)
 have hF := ob hF; obtain ⟨o', ho8, hF⟩ := hF
 refine ALoop.goU ⟨[(1, .ptr 0 0), (3, .own 1 (List.length (α := Vl.Tree) [])), (7, .arr (List.map Vl.Branch.c x.branches)), (8, .lit (.int .i64 (x.branches.length : Int))), (9, .lit (.int .i64 (0 : Int)))], [.cells [.lit (.int .i64 x.op), .lit (.int .i64 x.clause), .arr (List.map Vl.PathBind.c x.binds), .arr (List.map cI x.path), .arr (List.map Vl.Branch.c x.branches), .arr (List.map Vl.Tree.c x.els)], .elems 6 (List.map Vl.Tree.c [])]⟩ (by refine Gh.trans (Gh.nil 3 6 (by simp -dsimp)) ?_; exact (Gh.to3 (by simp) (by simp -dsimp))) ?_
 refine (C.impl_subtrees_l1 B hB1 hB2 x [] 0 o' ho8) _ rfl _ ?_
 have hF := oc hF; obtain ⟨c9, hF⟩ := hF
 cases hF
 repeat (first | refine chk.ga ?_ | simp -dsimp)
 all_goals (try omega)

set_option maxRecDepth 100000 in
set_option maxHeartbeats 4000000 in
theorem CC.impl_leaves (B : Nat) (hB1 : 67108864 ≤ B) (hB2 : B ≤ 9223372036854775807)  : (∀ (x : Vl.Tree) (set' : Nat → Bool) (r : Nat → Bool), F.impl_leaves x set' = some r → MutCall Try.prog B 58 (fcB 8 set') [.agg [.lit (.int .i64 x.op), .lit (.int .i64 x.clause), .arr (List.map Vl.PathBind.c x.binds), .arr (List.map cI x.path), .arr (List.map Vl.Branch.c x.branches), .arr (List.map Vl.Tree.c x.els)], .ptr 0 0] (.tup []) (fcB 8 r)) ∧
  (∀ (v33 : List Vl.Tree) (set'35 : Nat → Bool) (i36 : Nat) (o : Nat → Bool), F.impl_leaves_l3 v33 set'35 i36 = some o → ∀ (c : Code), navO [1, 1, 1, 0, 0] (bodyOf Try.f58) = some c → ∀ (Q : Exit → ASt → Prop), (Q (.exit 0) ⟨[], [.cells (fcB 8 o)]⟩) → ALoopU Try.prog B 1 30 (hold c .mk) ⟨[(1, .ptr 0 0), (20, .arr (List.map Vl.Tree.c v33)), (21, .lit (.int .i64 (v33.length : Int))), (22, .lit (.int .i64 (i36 : Int)))], [.cells (fcB 8 set'35)]⟩ (hold Q .mk)) ∧
  (∀ (v19 : List Vl.Tree) (set'21 : Nat → Bool) (i22 : Nat) (o : Nat → Bool), F.impl_leaves_l2 v19 set'21 i22 = some o → ∀ (c : Code), navO [1, 1, 1, 0, 0] (bodyOf Try.f58) = some c → ∀ (Q : Exit → ASt → Prop), (Q (.exit 0) ⟨[], [.cells (fcB 8 o)]⟩) → ALoopU Try.prog B 1 30 (hold c .mk) ⟨[(1, .ptr 0 0), (20, .arr (List.map Vl.Tree.c v19)), (21, .lit (.int .i64 (v19.length : Int))), (22, .lit (.int .i64 (i22 : Int)))], [.cells (fcB 8 set'21)]⟩ (hold Q .mk)) ∧
  (∀ (v7 : List Vl.Tree) (set'9 : Nat → Bool) (i : Nat) (o : Nat → Bool), F.impl_leaves_l1 v7 set'9 i = some o → ∀ (c : Code), navO [1, 1, 1, 0, 0] (bodyOf Try.f58) = some c → ∀ (Q : Exit → ASt → Prop), (Q (.exit 0) ⟨[], [.cells (fcB 8 o)]⟩) → ALoopU Try.prog B 1 30 (hold c .mk) ⟨[(1, .ptr 0 0), (20, .arr (List.map Vl.Tree.c v7)), (21, .lit (.int .i64 (v7.length : Int))), (22, .lit (.int .i64 (i : Int)))], [.cells (fcB 8 set'9)]⟩ (hold Q .mk)) := by
 refine F.impl_leaves.mutual_partial_correctness 
  (fun x set' r => MutCall Try.prog B 58 (fcB 8 set') [.agg [.lit (.int .i64 x.op), .lit (.int .i64 x.clause), .arr (List.map Vl.PathBind.c x.binds), .arr (List.map cI x.path), .arr (List.map Vl.Branch.c x.branches), .arr (List.map Vl.Tree.c x.els)], .ptr 0 0] (.tup []) (fcB 8 r))
  (fun v33 set'35 i36 o => ∀ (c : Code), navO [1, 1, 1, 0, 0] (bodyOf Try.f58) = some c → ∀ (Q : Exit → ASt → Prop), (Q (.exit 0) ⟨[], [.cells (fcB 8 o)]⟩) → ALoopU Try.prog B 1 30 (hold c .mk) ⟨[(1, .ptr 0 0), (20, .arr (List.map Vl.Tree.c v33)), (21, .lit (.int .i64 (v33.length : Int))), (22, .lit (.int .i64 (i36 : Int)))], [.cells (fcB 8 set'35)]⟩ (hold Q .mk))
  (fun v19 set'21 i22 o => ∀ (c : Code), navO [1, 1, 1, 0, 0] (bodyOf Try.f58) = some c → ∀ (Q : Exit → ASt → Prop), (Q (.exit 0) ⟨[], [.cells (fcB 8 o)]⟩) → ALoopU Try.prog B 1 30 (hold c .mk) ⟨[(1, .ptr 0 0), (20, .arr (List.map Vl.Tree.c v19)), (21, .lit (.int .i64 (v19.length : Int))), (22, .lit (.int .i64 (i22 : Int)))], [.cells (fcB 8 set'21)]⟩ (hold Q .mk))
  (fun v7 set'9 i o => ∀ (c : Code), navO [1, 1, 1, 0, 0] (bodyOf Try.f58) = some c → ∀ (Q : Exit → ASt → Prop), (Q (.exit 0) ⟨[], [.cells (fcB 8 o)]⟩) → ALoopU Try.prog B 1 30 (hold c .mk) ⟨[(1, .ptr 0 0), (20, .arr (List.map Vl.Tree.c v7)), (21, .lit (.int .i64 (v7.length : Int))), (22, .lit (.int .i64 (i : Int)))], [.cells (fcB 8 set'9)]⟩ (hold Q .mk))
  ?_ ?_ ?_ ?_
 ·intro _f_impl_leaves_l3 _f_impl_leaves_l2 _f_impl_leaves_l1 ih_impl_leaves_l3 ih_impl_leaves_l2 ih_impl_leaves_l1 x set' r hF
  refine MutCall.enter Try.func58 (by kernel_rfl) rfl Try.ntmps58 (by simp) (by simp) (by simp) (by simp) ?_
  repeat (first | refine chk.ga ?_ | simp -dsimp)
  refine abr.split (fun h1 => ?_) (fun h1 => ?_)
  ·have q2 : (x.op = 1) := auq h1
   rw [if_pos q2] at hF
   repeat (first | refine chk.ga ?_ | simp -dsimp [h1])
   have hF := ob hF; obtain ⟨v, e3, hF⟩ := hF
   refine ((C.impl_within B hB1 hB2 x.clause (0 : Int) (7 : Int) v e3)).goW (by first | simp [h1]; done | simp_all) (by simp) ?_
   repeat (first | refine chk.ga ?_ | simp -dsimp [h1])
   refine abr.split (fun h4 => ?_) (fun h4 => ?_)
   ·have q5 : (v = true) := auq h4
    rw [if_pos q5] at hF
    repeat (first | refine chk.ga ?_ | simp -dsimp [h1, h4])
    refine ADraw.eff [] [(0, 0), (0, 0), (0, 0), (0, 0), (0, 0), (0, 1)] [1, 1, 1, 1, 1, 1] follows (by kernel_rfl) (by kernel_rfl) (by kernel_rfl) ?_
    have hF := oc hF; obtain ⟨c6, hF⟩ := hF
    repeat (first | refine chk.ga ?_ | simp -dsimp [h1, h4, c6])
    have hF := ob hF; obtain ⟨v7, e8, hF⟩ := hF
    refine ((C.impl_subtrees B hB1 hB2 x v7 e8)).goW (by first | simp [h1, h4, c6]; done | simp_all) (by simp) ?_
    repeat (first | refine chk.ga ?_ | simp -dsimp [h1, h4, c6])
    have hF := ob hF; obtain ⟨o', ho18, hF⟩ := hF
    refine ALoop.goU ⟨[(1, .ptr 0 0), (20, .arr (List.map Vl.Tree.c v7)), (21, .lit (.int .i64 (v7.length : Int))), (22, .lit (.int .i64 (0 : Int)))], [.cells (fcB 8 (updF set' x.clause.toNat true))]⟩ (Gh.to3 (by simp) (by first | simp -dsimp [h1, h4, c6]; done | simp_all)) ?_
    refine (ih_impl_leaves_l1 v7 (updF set' x.clause.toNat true) 0 o' ho18) _ rfl _ ?_
    cases hF
    repeat (first | refine chk.ga ?_ | simp -dsimp)
    all_goals (try omega)
   ·have q5 : ¬ (v = true) := auq h4
    rw [if_neg q5] at hF
    repeat (first | refine chk.ga ?_ | simp -dsimp [h1, h4, q5])
    have hF := ob hF; obtain ⟨v19, e20, hF⟩ := hF
    refine ((C.impl_subtrees B hB1 hB2 x v19 e20)).goW (by first | simp [h1, h4, q5]; done | simp_all) (by simp) ?_
    repeat (first | refine chk.ga ?_ | simp -dsimp [h1, h4, q5])
    have hF := ob hF; obtain ⟨o'32, ho31, hF⟩ := hF
    refine ALoop.goU ⟨[(1, .ptr 0 0), (20, .arr (List.map Vl.Tree.c v19)), (21, .lit (.int .i64 (v19.length : Int))), (22, .lit (.int .i64 (0 : Int)))], [.cells (fcB 8 set')]⟩ (Gh.to3 (by simp) (by first | simp -dsimp [h1, h4, q5]; done | simp_all)) ?_
    refine (ih_impl_leaves_l2 v19 set' 0 o'32 ho31) _ rfl _ ?_
    cases hF
    repeat (first | refine chk.ga ?_ | simp -dsimp)
    all_goals (try omega)
  ·have q2 : ¬ (x.op = 1) := auq h1
   rw [if_neg q2] at hF
   repeat (first | refine chk.ga ?_ | simp -dsimp [h1, q2])
   have hF := ob hF; obtain ⟨v33, e34, hF⟩ := hF
   refine ((C.impl_subtrees B hB1 hB2 x v33 e34)).goW (by first | simp [h1, q2]; done | simp_all) (by simp) ?_
   repeat (first | refine chk.ga ?_ | simp -dsimp [h1, q2])
   have hF := ob hF; obtain ⟨o'46, ho45, hF⟩ := hF
   refine ALoop.goU ⟨[(1, .ptr 0 0), (20, .arr (List.map Vl.Tree.c v33)), (21, .lit (.int .i64 (v33.length : Int))), (22, .lit (.int .i64 (0 : Int)))], [.cells (fcB 8 set')]⟩ (Gh.to3 (by simp) (by first | simp -dsimp [h1, q2]; done | simp_all)) ?_
   refine (ih_impl_leaves_l3 v33 set' 0 o'46 ho45) _ rfl _ ?_
   cases hF
   repeat (first | refine chk.ga ?_ | simp -dsimp)
   all_goals (try omega)
 ·intro _f_impl_leaves _f_impl_leaves_l3 ih_impl_leaves ih_impl_leaves_l3 v33 set'35 i36 o hF
  intro c hc Q hq
  obtain rfl : c = _ := navEq hc rfl
  refine ALoopU.know fun hk hs => ?_
  have b20 := hk 20
  simp -dsimp at b20
  clear hk hs
  refine ALoopU.enter ?_
  repeat (first | refine chk.ga ?_ | simp -dsimp)
  refine abr.split (fun h37 => ?_) (fun h37 => ?_)
  ·have q38 : (i36 < v33.length) := auq h37
   have z39 : ((i36 : Int) < (v33.length : Int)) := auz
   rw [if_pos q38] at hF
   have hF := ob hF; obtain ⟨x40, e41, hF⟩ := hF
   have le41 := lt_of_get e41
   repeat (first | refine chk.ga ?_ | simp -dsimp [h37, z39, ↓e41])
   have hF := ob hF; obtain ⟨v42, e43, hF⟩ := hF
   refine ((ih_impl_leaves x40 set'35 v42 e43)).go 0 rfl (by first | simp [h37, z39, ↓e41]; done | simp_all) (by simp) (by first | simp [h37, z39, ↓e41]; done | simp_all) ?_
   have w44 : IntKind.i64.wrap ((i36 : Int) + 1) = (i36 : Int) + 1 := wrap_in (by omega) (by omega)
   repeat (first | refine chk.ga ?_ | simp -dsimp [h37, z39, ↓e41, w44])
   refine Again.go ⟨[(1, .ptr 0 0), (20, .arr (List.map Vl.Tree.c v33)), (21, .lit (.int .i64 (v33.length : Int))), (22, .lit (.int .i64 ((i36 + 1) : Int)))], [.cells (fcB 8 v42)]⟩ (Gh.to3 (by simp) (by first | simp -dsimp [h37, z39, ↓e41, w44]; done | simp_all)) ?_
   exact (ih_impl_leaves_l3 v33 v42 (i36 + 1) o hF) _ rfl _ hq
  ·have q38 : ¬ (i36 < v33.length) := auq h37
   have z39 : ¬ ((i36 : Int) < (v33.length : Int)) := auz
   rw [if_neg q38] at hF
   cases hF
   repeat (first | refine chk.ga ?_ | simp -dsimp [h37, q38, z39])
   refine Leave.go ⟨[], [.cells (fcB 8 set'35)]⟩ (Gh.to3 (by simp) (by first | simp -dsimp [h37, q38, z39]; done | simp_all)) ?_
   exact hq
 ·intro _f_impl_leaves _f_impl_leaves_l2 ih_impl_leaves ih_impl_leaves_l2 v19 set'21 i22 o hF
  intro c hc Q hq
  obtain rfl : c = _ := navEq hc rfl
  refine ALoopU.know fun hk hs => ?_
  have b20 := hk 20
  simp -dsimp at b20
  clear hk hs
  refine ALoopU.enter ?_
  repeat (first | refine chk.ga ?_ | simp -dsimp)
  refine abr.split (fun h23 => ?_) (fun h23 => ?_)
  ·have q24 : (i22 < v19.length) := auq h23
   have z25 : ((i22 : Int) < (v19.length : Int)) := auz
   rw [if_pos q24] at hF
   have hF := ob hF; obtain ⟨x26, e27, hF⟩ := hF
   have le27 := lt_of_get e27
   repeat (first | refine chk.ga ?_ | simp -dsimp [h23, z25, ↓e27])
   have hF := ob hF; obtain ⟨v28, e29, hF⟩ := hF
   refine ((ih_impl_leaves x26 set'21 v28 e29)).go 0 rfl (by first | simp [h23, z25, ↓e27]; done | simp_all) (by simp) (by first | simp [h23, z25, ↓e27]; done | simp_all) ?_
   have w30 : IntKind.i64.wrap ((i22 : Int) + 1) = (i22 : Int) + 1 := wrap_in (by omega) (by omega)
   repeat (first | refine chk.ga ?_ | simp -dsimp [h23, z25, ↓e27, w30])
   refine Again.go ⟨[(1, .ptr 0 0), (20, .arr (List.map Vl.Tree.c v19)), (21, .lit (.int .i64 (v19.length : Int))), (22, .lit (.int .i64 ((i22 + 1) : Int)))], [.cells (fcB 8 v28)]⟩ (Gh.to3 (by simp) (by first | simp -dsimp [h23, z25, ↓e27, w30]; done | simp_all)) ?_
   exact (ih_impl_leaves_l2 v19 v28 (i22 + 1) o hF) _ rfl _ hq
  ·have q24 : ¬ (i22 < v19.length) := auq h23
   have z25 : ¬ ((i22 : Int) < (v19.length : Int)) := auz
   rw [if_neg q24] at hF
   cases hF
   repeat (first | refine chk.ga ?_ | simp -dsimp [h23, q24, z25])
   refine Leave.go ⟨[], [.cells (fcB 8 set'21)]⟩ (Gh.to3 (by simp) (by first | simp -dsimp [h23, q24, z25]; done | simp_all)) ?_
   exact hq
 ·intro _f_impl_leaves _f_impl_leaves_l1 ih_impl_leaves ih_impl_leaves_l1 v7 set'9 i o hF
  intro c hc Q hq
  obtain rfl : c = _ := navEq hc rfl
  refine ALoopU.know fun hk hs => ?_
  have b20 := hk 20
  simp -dsimp at b20
  clear hk hs
  refine ALoopU.enter ?_
  repeat (first | refine chk.ga ?_ | simp -dsimp)
  refine abr.split (fun h10 => ?_) (fun h10 => ?_)
  ·have q11 : (i < v7.length) := auq h10
   have z12 : ((i : Int) < (v7.length : Int)) := auz
   rw [if_pos q11] at hF
   have hF := ob hF; obtain ⟨x13, e14, hF⟩ := hF
   have le14 := lt_of_get e14
   repeat (first | refine chk.ga ?_ | simp -dsimp [h10, z12, ↓e14])
   have hF := ob hF; obtain ⟨v15, e16, hF⟩ := hF
   refine ((ih_impl_leaves x13 set'9 v15 e16)).go 0 rfl (by first | simp [h10, z12, ↓e14]; done | simp_all) (by simp) (by first | simp [h10, z12, ↓e14]; done | simp_all) ?_
   have w17 : IntKind.i64.wrap ((i : Int) + 1) = (i : Int) + 1 := wrap_in (by omega) (by omega)
   repeat (first | refine chk.ga ?_ | simp -dsimp [h10, z12, ↓e14, w17])
   refine Again.go ⟨[(1, .ptr 0 0), (20, .arr (List.map Vl.Tree.c v7)), (21, .lit (.int .i64 (v7.length : Int))), (22, .lit (.int .i64 ((i + 1) : Int)))], [.cells (fcB 8 v15)]⟩ (Gh.to3 (by simp) (by first | simp -dsimp [h10, z12, ↓e14, w17]; done | simp_all)) ?_
   exact (ih_impl_leaves_l1 v7 v15 (i + 1) o hF) _ rfl _ hq
  ·have q11 : ¬ (i < v7.length) := auq h10
   have z12 : ¬ ((i : Int) < (v7.length : Int)) := auz
   rw [if_neg q11] at hF
   cases hF
   repeat (first | refine chk.ga ?_ | simp -dsimp [h10, q11, z12])
   refine Leave.go ⟨[], [.cells (fcB 8 set'9)]⟩ (Gh.to3 (by simp) (by first | simp -dsimp [h10, q11, z12]; done | simp_all)) ?_
   exact hq

theorem C.impl_leaves (B : Nat) (hB1 : 67108864 ≤ B) (hB2 : B ≤ 9223372036854775807) (x : Vl.Tree) (set' : Nat → Bool) (r : Nat → Bool) (hF : F.impl_leaves x set' = some r) : MutCall Try.prog B 58 (fcB 8 set') [.agg [.lit (.int .i64 x.op), .lit (.int .i64 x.clause), .arr (List.map Vl.PathBind.c x.binds), .arr (List.map cI x.path), .arr (List.map Vl.Branch.c x.branches), .arr (List.map Vl.Tree.c x.els)], .ptr 0 0] (.tup []) (fcB 8 r) :=
 (CC.impl_leaves B hB1 hB2 ).1 x set' r hF

theorem C.impl_leaves_l3 (B : Nat) (hB1 : 67108864 ≤ B) (hB2 : B ≤ 9223372036854775807) (v33 : List Vl.Tree) (set'35 : Nat → Bool) (i36 : Nat) (o : Nat → Bool) (hF : F.impl_leaves_l3 v33 set'35 i36 = some o) : ∀ (c : Code), navO [1, 1, 1, 0, 0] (bodyOf Try.f58) = some c → ∀ (Q : Exit → ASt → Prop), (Q (.exit 0) ⟨[], [.cells (fcB 8 o)]⟩) → ALoopU Try.prog B 1 30 (hold c .mk) ⟨[(1, .ptr 0 0), (20, .arr (List.map Vl.Tree.c v33)), (21, .lit (.int .i64 (v33.length : Int))), (22, .lit (.int .i64 (i36 : Int)))], [.cells (fcB 8 set'35)]⟩ (hold Q .mk) :=
 (CC.impl_leaves B hB1 hB2 ).2.1 v33 set'35 i36 o hF

theorem C.impl_leaves_l2 (B : Nat) (hB1 : 67108864 ≤ B) (hB2 : B ≤ 9223372036854775807) (v19 : List Vl.Tree) (set'21 : Nat → Bool) (i22 : Nat) (o : Nat → Bool) (hF : F.impl_leaves_l2 v19 set'21 i22 = some o) : ∀ (c : Code), navO [1, 1, 1, 0, 0] (bodyOf Try.f58) = some c → ∀ (Q : Exit → ASt → Prop), (Q (.exit 0) ⟨[], [.cells (fcB 8 o)]⟩) → ALoopU Try.prog B 1 30 (hold c .mk) ⟨[(1, .ptr 0 0), (20, .arr (List.map Vl.Tree.c v19)), (21, .lit (.int .i64 (v19.length : Int))), (22, .lit (.int .i64 (i22 : Int)))], [.cells (fcB 8 set'21)]⟩ (hold Q .mk) :=
 (CC.impl_leaves B hB1 hB2 ).2.2.1 v19 set'21 i22 o hF

theorem C.impl_leaves_l1 (B : Nat) (hB1 : 67108864 ≤ B) (hB2 : B ≤ 9223372036854775807) (v7 : List Vl.Tree) (set'9 : Nat → Bool) (i : Nat) (o : Nat → Bool) (hF : F.impl_leaves_l1 v7 set'9 i = some o) : ∀ (c : Code), navO [1, 1, 1, 0, 0] (bodyOf Try.f58) = some c → ∀ (Q : Exit → ASt → Prop), (Q (.exit 0) ⟨[], [.cells (fcB 8 o)]⟩) → ALoopU Try.prog B 1 30 (hold c .mk) ⟨[(1, .ptr 0 0), (20, .arr (List.map Vl.Tree.c v7)), (21, .lit (.int .i64 (v7.length : Int))), (22, .lit (.int .i64 (i : Int)))], [.cells (fcB 8 set'9)]⟩ (hold Q .mk) :=
 (CC.impl_leaves B hB1 hB2 ).2.2.2 v7 set'9 i o hF

set_option maxRecDepth 100000 in
set_option maxHeartbeats 4000000 in
theorem CC.impl_TreeLeaves__f_l1 (B : Nat) (hB1 : 67108864 ≤ B) (hB2 : B ≤ 9223372036854775807) (v : Nat → Bool) : (∀ (i : Nat) (out : List Int) (o : List Int), F.impl_TreeLeaves_l1 v i out = some o → ∀ (c : Code), navO [1, 1, 1, 1, 0, 1, 0, 0] (bodyOf Try.f22) = some c → ∀ (Q : Exit → ASt → Prop), (Q (.exit 0) ⟨[(4, .own 3 (List.length (α := Int) o))], [.pack [] [], .dead, .dead, .elems 1 (List.map cI o)]⟩) → ALoopU Try.prog B 0 21 (hold c .mk) ⟨[(4, .own 3 (List.length (α := Int) out)), (9, .agg (fcB 8 v)), (10, .lit (.int .i64 (i : Int)))], [.pack [] [], .dead, .dead, .elems 1 (List.map cI out)]⟩ (hold Q .mk)) := by
 refine F.impl_TreeLeaves_l1.partial_correctness v
  (fun i out o => ∀ (c : Code), navO [1, 1, 1, 1, 0, 1, 0, 0] (bodyOf Try.f22) = some c → ∀ (Q : Exit → ASt → Prop), (Q (.exit 0) ⟨[(4, .own 3 (List.length (α := Int) o))], [.pack [] [], .dead, .dead, .elems 1 (List.map cI o)]⟩) → ALoopU Try.prog B 0 21 (hold c .mk) ⟨[(4, .own 3 (List.length (α := Int) out)), (9, .agg (fcB 8 v)), (10, .lit (.int .i64 (i : Int)))], [.pack [] [], .dead, .dead, .elems 1 (List.map cI out)]⟩ (hold Q .mk))
  ?_
 ·intro _f_impl_TreeLeaves__f_l1 ih_impl_TreeLeaves__f_l1 i out o hF
  intro c hc Q hq
  obtain rfl : c = _ := navEq hc rfl
  refine ALoopU.know fun hk hs => ?_
  have d3 := hs 3 _ rfl
  simp -dsimp [Blk.bnd] at d3
  clear hk hs
  refine ALoopU.enter ?_
  repeat (first | refine chk.ga ?_ | simp -dsimp)
  refine abr.split (fun h2 => ?_) (fun h2 => ?_)
  ·have q3 : (i < 8) := auq h2
   have z4 : ((i : Int) < (8 : Int)) := auz
   rw [if_pos q3] at hF
   have c5 : i < 8 := by assumption
   repeat (first | refine chk.ga ?_ | simp -dsimp [h2, z4, c5])
   refine abr.split (fun h6 => ?_) (fun h6 => ?_)
   ·have q7 : (v i = true) := auq h6
    rw [if_pos q7] at hF
    have hF := oc hF; obtain ⟨c8, hF⟩ := hF
    have hF := oc hF; obtain ⟨c9, hF⟩ := hF
    have w10 : IntKind.i64.wrap ((i : Int) + 1) = (i : Int) + 1 := wrap_in (by omega) (by omega)
    repeat (first | refine chk.ga ?_ | simp -dsimp [h2, z4, c5, h6, w10])
    refine Again.go ⟨[(4, .own 3 (List.length (α := Int) (out ++ [(i : Int)]))), (9, .agg (fcB 8 v)), (10, .lit (.int .i64 ((i + 1) : Int)))], [.pack [] [], .dead, .dead, .elems 1 (List.map cI (out ++ [(i : Int)]))]⟩ (Gh.to3 (by simp) (by first | simp -dsimp [h2, z4, c5, h6, w10]; done | simp_all)) ?_
    exact (ih_impl_TreeLeaves__f_l1 (i + 1) (out ++ [(i : Int)]) o hF) _ rfl _ hq
   ·have q7 : ¬ (v i = true) := auq h6
    rw [if_neg q7] at hF
    have hF := oc hF; obtain ⟨c11, hF⟩ := hF
    have w12 : IntKind.i64.wrap ((i : Int) + 1) = (i : Int) + 1 := wrap_in (by omega) (by omega)
    repeat (first | refine chk.ga ?_ | simp -dsimp [h2, z4, c5, h6, q7, w12])
    refine Again.go ⟨[(4, .own 3 (List.length (α := Int) out)), (9, .agg (fcB 8 v)), (10, .lit (.int .i64 ((i + 1) : Int)))], [.pack [] [], .dead, .dead, .elems 1 (List.map cI out)]⟩ (Gh.to3 (by simp) (by first | simp -dsimp [h2, z4, c5, h6, q7, w12]; done | simp_all)) ?_
    exact (ih_impl_TreeLeaves__f_l1 (i + 1) out o hF) _ rfl _ hq
  ·have q3 : ¬ (i < 8) := auq h2
   have z4 : ¬ ((i : Int) < (8 : Int)) := auz
   rw [if_neg q3] at hF
   cases hF
   repeat (first | refine chk.ga ?_ | simp -dsimp [h2, q3, z4])
   refine Leave.go ⟨[(4, .own 3 (List.length (α := Int) out))], [.pack [] [], .dead, .dead, .elems 1 (List.map cI out)]⟩ (Gh.to3 (by simp) (by first | simp -dsimp [h2, q3, z4]; done | simp_all)) ?_
   exact hq

theorem C.impl_TreeLeaves__f_l1 (B : Nat) (hB1 : 67108864 ≤ B) (hB2 : B ≤ 9223372036854775807) (v : Nat → Bool) (i : Nat) (out : List Int) (o : List Int) (hF : F.impl_TreeLeaves_l1 v i out = some o) : ∀ (c : Code), navO [1, 1, 1, 1, 0, 1, 0, 0] (bodyOf Try.f22) = some c → ∀ (Q : Exit → ASt → Prop), (Q (.exit 0) ⟨[(4, .own 3 (List.length (α := Int) o))], [.pack [] [], .dead, .dead, .elems 1 (List.map cI o)]⟩) → ALoopU Try.prog B 0 21 (hold c .mk) ⟨[(4, .own 3 (List.length (α := Int) out)), (9, .agg (fcB 8 v)), (10, .lit (.int .i64 (i : Int)))], [.pack [] [], .dead, .dead, .elems 1 (List.map cI out)]⟩ (hold Q .mk) :=
 (CC.impl_TreeLeaves__f_l1 B hB1 hB2 v) i out o hF

set_option maxRecDepth 100000 in
set_option maxHeartbeats 4000000 in
theorem C.impl_TreeLeaves__f (B : Nat) (hB1 : 67108864 ≤ B) (hB2 : B ≤ 9223372036854775807) (x : Vl.Tree) (r : List Int) (hF : F.impl_TreeLeaves x = some r) : FCall Try.prog B 22 [.agg [.lit (.int .i64 x.op), .lit (.int .i64 x.clause), .arr (List.map Vl.PathBind.c x.binds), .arr (List.map cI x.path), .arr (List.map Vl.Branch.c x.branches), .arr (List.map Vl.Tree.c x.els)]] (.arr (List.map cI r)) := by
 unfold F.impl_TreeLeaves at hF
 refine FCall.enterG Try.func22 (by kernel_rfl) rfl Try.ntmps22 (by simp) (Gh.packZ .nil) ?_
 repeat (first | refine chk.ga ?_ | simp -dsimp)
 have hF := ob hF; obtain ⟨v, e1, hF⟩ := hF
 refine ((C.impl_leaves B hB1 hB2 x (fun _ => false) v e1)).go 2 rfl (by simp) (by simp) (by simp) ?_
 repeat (first | refine chk.ga ?_ | simp -dsimp)
 have hF := ob hF; obtain ⟨o', ho13, hF⟩ := hF
 refine ALoop.goU ⟨[(4, .own 3 (List.length (α := Int) [])), (9, .agg (fcB 8 v)), (10, .lit (.int .i64 (0 : Int)))], [.pack [] [], .dead, .dead, .elems 1 (List.map cI [])]⟩ (by refine Gh.trans (Gh.nil 4 1 (by simp -dsimp)) ?_; exact (Gh.to3 (by simp) (by simp -dsimp))) ?_
 refine (C.impl_TreeLeaves__f_l1 B hB1 hB2 v 0 [] o' ho13) _ rfl _ ?_
 cases hF
 repeat (first | refine chk.ga ?_ | simp -dsimp)
 exact ⟨_, by decide, (.cell (CD.ownE 3 _ 1 rfl (lits_cI _) (by simp) .nil) .nil : CT _ _ _ _)⟩

set_option maxRecDepth 100000 in
set_option maxHeartbeats 4000000 in
theorem CC.laws_eqIntS_l1 (B : Nat) (hB1 : 67108864 ≤ B) (hB2 : B ≤ 9223372036854775807) (a : List Int) (b : List Int) : (∀ (i : Nat) (o : Lo Bool Unit), F.laws_eqIntS_l1 a b i = some o → ∀ (c : Code), navO [1, 1, 0, 1, 0, 0] (bodyOf Try.f23) = some c → ∀ (Q : Exit → ASt → Prop), o.post (fun r => ∀ st, Post Try.prog Try.f23 (fun r' _ => r'.le (.lit (.bool r))) .ret st → Q .ret st) (fun s => Q (.exit 0) ⟨[], []⟩) → ALoopU Try.prog B 0 26 (hold c .mk) ⟨[(0, .arr (List.map cI a)), (1, .arr (List.map cI b)), (5, .lit (.int .i64 (i : Int)))], []⟩ (hold Q .mk)) := by
 refine F.laws_eqIntS_l1.partial_correctness a b
  (fun i o => ∀ (c : Code), navO [1, 1, 0, 1, 0, 0] (bodyOf Try.f23) = some c → ∀ (Q : Exit → ASt → Prop), o.post (fun r => ∀ st, Post Try.prog Try.f23 (fun r' _ => r'.le (.lit (.bool r))) .ret st → Q .ret st) (fun s => Q (.exit 0) ⟨[], []⟩) → ALoopU Try.prog B 0 26 (hold c .mk) ⟨[(0, .arr (List.map cI a)), (1, .arr (List.map cI b)), (5, .lit (.int .i64 (i : Int)))], []⟩ (hold Q .mk))
  ?_
 ·intro _f_laws_eqIntS_l1 ih_laws_eqIntS_l1 i o hF
  intro c hc Q hq
  obtain rfl : c = _ := navEq hc rfl
  refine ALoopU.know fun hk hs => ?_
  have b0 := hk 0
  simp -dsimp at b0
  have b1 := hk 1
  simp -dsimp at b1
  clear hk hs
  refine ALoopU.enter ?_
  repeat (first | refine chk.ga ?_ | simp -dsimp)
  refine abr.split (fun h4 => ?_) (fun h4 => ?_)
  ·have q5 : (i < a.length) := auq h4
   have z6 : ((i : Int) < (a.length : Int)) := auz
   rw [if_pos q5] at hF
   repeat (first | refine chk.ga ?_ | simp -dsimp [h4, z6])
   refine ADraw.simple follows (by kernel_rfl) (by kernel_rfl) ?_
   have hF := ob hF; obtain ⟨x, e7, hF⟩ := hF
   have le7 := lt_of_get e7
   have hF := ob hF; obtain ⟨x8, e9, hF⟩ := hF
   have le9 := lt_of_get e9
   repeat (first | refine chk.ga ?_ | simp -dsimp [h4, z6, ↓e7, ↓e9])
   refine abr.split (fun h10 => ?_) (fun h10 => ?_)
   ·have q11 : ¬ (x = x8) := auq h10
    rw [if_neg q11] at hF
    cases hF
    repeat (first | refine chk.ga ?_ | simp -dsimp [h4, z6, ↓e7, ↓e9, h10, q11])
    refine Leave.go _ (Gh.refl _) (hq _ ?_)
    repeat (first | refine chk.ga ?_ | simp -dsimp [h4, z6, ↓e7, ↓e9, h10, q11])
   ·have q11 : (x = x8) := auq h10
    rw [if_pos q11] at hF
    have w12 : IntKind.i64.wrap ((i : Int) + 1) = (i : Int) + 1 := wrap_in (by omega) (by omega)
    repeat (first | refine chk.ga ?_ | simp -dsimp [h4, z6, ↓e7, ↓e9, h10, q11, w12])
    refine Again.go ⟨[(0, .arr (List.map cI a)), (1, .arr (List.map cI b)), (5, .lit (.int .i64 ((i + 1) : Int)))], []⟩ (Gh.to3 (by simp) (by first | simp -dsimp [h4, z6, ↓e7, ↓e9, h10, q11, w12]; done | simp_all)) ?_
    exact (ih_laws_eqIntS_l1 (i + 1) o hF) _ rfl _ hq
  ·have q5 : ¬ (i < a.length) := auq h4
   have z6 : ¬ ((i : Int) < (a.length : Int)) := auz
   rw [if_neg q5] at hF
   cases hF
   repeat (first | refine chk.ga ?_ | simp -dsimp [h4, q5, z6])
   refine Leave.go ⟨[], []⟩ (Gh.to3 (by simp) (by first | simp -dsimp [h4, q5, z6]; done | simp_all)) ?_
   exact hq

theorem C.laws_eqIntS_l1 (B : Nat) (hB1 : 67108864 ≤ B) (hB2 : B ≤ 9223372036854775807) (a : List Int) (b : List Int) (i : Nat) (o : Lo Bool Unit) (hF : F.laws_eqIntS_l1 a b i = some o) : ∀ (c : Code), navO [1, 1, 0, 1, 0, 0] (bodyOf Try.f23) = some c → ∀ (Q : Exit → ASt → Prop), o.post (fun r => ∀ st, Post Try.prog Try.f23 (fun r' _ => r'.le (.lit (.bool r))) .ret st → Q .ret st) (fun s => Q (.exit 0) ⟨[], []⟩) → ALoopU Try.prog B 0 26 (hold c .mk) ⟨[(0, .arr (List.map cI a)), (1, .arr (List.map cI b)), (5, .lit (.int .i64 (i : Int)))], []⟩ (hold Q .mk) :=
 (CC.laws_eqIntS_l1 B hB1 hB2 a b) i o hF

set_option maxRecDepth 100000 in
set_option maxHeartbeats 4000000 in
theorem C.laws_eqIntS (B : Nat) (hB1 : 67108864 ≤ B) (hB2 : B ≤ 9223372036854775807) (a : List Int) (b : List Int) (r : Bool) (hF : F.laws_eqIntS a b = some r) : PureCall Try.prog B 23 [.arr (List.map cI a), .arr (List.map cI b)] (.lit (.bool r)) := by
 unfold F.laws_eqIntS at hF
 refine PureCall.enterLe Try.func23 (by kernel_rfl) rfl Try.ntmps23 (by simp) (by simp) ?_
 repeat (first | refine chk.ga ?_ | simp -dsimp)
 refine abr.split (fun h1 => ?_) (fun h1 => ?_)
 ·have q2 : ¬ (a.length = b.length) := auq h1
  have z3 : ¬ ((a.length : Int) = (b.length : Int)) := auz
  rw [if_neg q2] at hF
  cases hF
  repeat (first | refine chk.ga ?_ | simp -dsimp [h1, q2, z3])
  all_goals (try omega)
 ·have q2 : (a.length = b.length) := auq h1
  have z3 : ((a.length : Int) = (b.length : Int)) := auz
  rw [if_pos q2] at hF
  repeat (first | refine chk.ga ?_ | simp -dsimp [h1, q2, z3])
  have hF := ob hF; obtain ⟨o', ho13, hF⟩ := hF
  refine ALoop.goU ⟨[(0, .arr (List.map cI a)), (1, .arr (List.map cI b)), (5, .lit (.int .i64 (0 : Int)))], []⟩ (Gh.to3 (by simp) (by first | simp -dsimp [h1, q2, z3]; done | simp_all)) ?_
  refine (C.laws_eqIntS_l1 B hB1 hB2 a b 0 o' ho13) _ rfl _ ?_
  rcases o' with r0 | sx
  ·dsimp only at hF
   cases hF
   intro st h
   simpa using h
  ·dsimp only at hF
   cases hF
   repeat (first | refine chk.ga ?_ | simp -dsimp)
   all_goals (try omega)

set_option maxRecDepth 100000 in
set_option maxHeartbeats 4000000 in
theorem C.laws_eqPathBind (B : Nat) (hB1 : 67108864 ≤ B) (hB2 : B ≤ 9223372036854775807) (a : Vl.PathBind) (b : Vl.PathBind) (r : Bool) (hF : F.laws_eqPathBind a b = some r) : PureCall Try.prog B 72 [.agg [.lit (.int .i64 a.var), .arr (List.map cI a.path)], .agg [.lit (.int .i64 b.var), .arr (List.map cI b.path)]] (.lit (.bool r)) := by
 unfold F.laws_eqPathBind at hF
 refine PureCall.enterLe Try.func72 (by kernel_rfl) rfl Try.ntmps72 (by simp) (by simp) ?_
 repeat (first | refine chk.ga ?_ | simp -dsimp)
 refine abr.split (fun h1 => ?_) (fun h1 => ?_)
 ·have q2 : ¬ (a.var = b.var) := auq h1
  rw [if_neg q2] at hF
  cases hF
  repeat (first | refine chk.ga ?_ | simp -dsimp [h1, q2])
  all_goals (try omega)
 ·have q2 : (a.var = b.var) := auq h1
  rw [if_pos q2] at hF
  repeat (first | refine chk.ga ?_ | simp -dsimp [h1, q2])
  have hF := ob hF; obtain ⟨v, e3, hF⟩ := hF
  refine ((C.laws_eqIntS B hB1 hB2 a.path b.path v e3)).goW (by first | simp [h1, q2]; done | simp_all) (by simp) ?_
  repeat (first | refine chk.ga ?_ | simp -dsimp [h1, q2])
  refine abr.split (fun h4 => ?_) (fun h4 => ?_)
  ·have q5 : ¬ (v = true) := auq h4
   rw [if_neg q5] at hF
   cases hF
   repeat (first | refine chk.ga ?_ | simp -dsimp [h1, q2, h4, q5])
   all_goals (try omega)
  ·have q5 : (v = true) := auq h4
   rw [if_pos q5] at hF
   cases hF
   repeat (first | refine chk.ga ?_ | simp -dsimp [h1, q2, h4, q5])
   all_goals (try omega)

set_option maxRecDepth 100000 in
set_option maxHeartbeats 4000000 in
theorem CC.laws_eqPathBindS_l1 (B : Nat) (hB1 : 67108864 ≤ B) (hB2 : B ≤ 9223372036854775807) (a : List Vl.PathBind) (b : List Vl.PathBind) : (∀ (i : Nat) (o : Lo Bool Unit), F.laws_eqPathBindS_l1 a b i = some o → ∀ (c : Code), navO [1, 1, 0, 1, 0, 0] (bodyOf Try.f42) = some c → ∀ (Q : Exit → ASt → Prop), o.post (fun r => ∀ st, Post Try.prog Try.f42 (fun r' _ => r'.le (.lit (.bool r))) .ret st → Q .ret st) (fun s => Q (.exit 0) ⟨[], []⟩) → ALoopU Try.prog B 0 27 (hold c .mk) ⟨[(0, .arr (List.map Vl.PathBind.c a)), (1, .arr (List.map Vl.PathBind.c b)), (5, .lit (.int .i64 (i : Int)))], []⟩ (hold Q .mk)) := by
 refine F.laws_eqPathBindS_l1.partial_correctness a b
  (fun i o => ∀ (c : Code), navO [1, 1, 0, 1, 0, 0] (bodyOf Try.f42) = some c → ∀ (Q : Exit → ASt → Prop), o.post (fun r => ∀ st, Post Try.prog Try.f42 (fun r' _ => r'.le (.lit (.bool r))) .ret st → Q .ret st) (fun s => Q (.exit 0) ⟨[], []⟩) → ALoopU Try.prog B 0 27 (hold c .mk) ⟨[(0, .arr (List.map Vl.PathBind.c a)), (1, .arr (List.map Vl.PathBind.c b)), (5, .lit (.int .i64 (i : Int)))], []⟩ (hold Q .mk))
  ?_
 ·intro _f_laws_eqPathBindS_l1 ih_laws_eqPathBindS_l1 i o hF
  intro c hc Q hq
  obtain rfl : c = _ := navEq hc rfl
  refine ALoopU.know fun hk hs => ?_
  have b0 := hk 0
  simp -dsimp at b0
  have b1 := hk 1
  simp -dsimp at b1
  clear hk hs
  refine ALoopU.enter ?_
  repeat (first | refine chk.ga ?_ | simp -dsimp)
  refine abr.split (fun h4 => ?_) (fun h4 => ?_)
  ·have q5 : (i < a.length) := auq h4
   have z6 : ((i : Int) < (a.length : Int)) := auz
   rw [if_pos q5] at hF
   repeat (first | refine chk.ga ?_ | simp -dsimp [h4, z6])
   refine ADraw.simple follows (by kernel_rfl) (by kernel_rfl) ?_
   have hF := ob hF; obtain ⟨x, e7, hF⟩ := hF
   have le7 := lt_of_get e7
   have hF := ob hF; obtain ⟨x8, e9, hF⟩ := hF
   have le9 := lt_of_get e9
   repeat (first | refine chk.ga ?_ | simp -dsimp [h4, z6, ↓e7, ↓e9])
   have hF := ob hF; obtain ⟨v, e10, hF⟩ := hF
   refine ((C.laws_eqPathBind B hB1 hB2 x x8 v e10)).pgoW (by first | simp [h4, z6, ↓e7, ↓e9]; done | simp_all) (by simp) ?_
   repeat (first | refine chk.ga ?_ | simp -dsimp [h4, z6, ↓e7, ↓e9])
   refine abr.split (fun h11 => ?_) (fun h11 => ?_)
   ·have q12 : ¬ (v = true) := auq h11
    rw [if_neg q12] at hF
    cases hF
    repeat (first | refine chk.ga ?_ | simp -dsimp [h4, z6, ↓e7, ↓e9, h11, q12])
    refine Leave.go _ (Gh.refl _) (hq _ ?_)
    repeat (first | refine chk.ga ?_ | simp -dsimp [h4, z6, ↓e7, ↓e9, h11, q12])
   ·have q12 : (v = true) := auq h11
    rw [if_pos q12] at hF
    have w13 : IntKind.i64.wrap ((i : Int) + 1) = (i : Int) + 1 := wrap_in (by omega) (by omega)
    repeat (first | refine chk.ga ?_ | simp -dsimp [h4, z6, ↓e7, ↓e9, h11, q12, w13])
    refine Again.go ⟨[(0, .arr (List.map Vl.PathBind.c a)), (1, .arr (List.map Vl.PathBind.c b)), (5, .lit (.int .i64 ((i + 1) : Int)))], []⟩ (Gh.to3 (by simp) (by first | simp -dsimp [h4, z6, ↓e7, ↓e9, h11, q12, w13]; done | simp_all)) ?_
    exact (ih_laws_eqPathBindS_l1 (i + 1) o hF) _ rfl _ hq
  ·have q5 : ¬ (i < a.length) := auq h4
   have z6 : ¬ ((i : Int) < (a.length : Int)) := auz
   rw [if_neg q5] at hF
   cases hF
   repeat (first | refine chk.ga ?_ | simp -dsimp [h4, q5, z6])
   refine Leave.go ⟨[], []⟩ (Gh.to3 (by simp) (by first | simp -dsimp [h4, q5, z6]; done | simp_all)) ?_
   exact hq

theorem C.laws_eqPathBindS_l1 (B : Nat) (hB1 : 67108864 ≤ B) (hB2 : B ≤ 9223372036854775807) (a : List Vl.PathBind) (b : List Vl.PathBind) (i : Nat) (o : Lo Bool Unit) (hF : F.laws_eqPathBindS_l1 a b i = some o) : ∀ (c : Code), navO [1, 1, 0, 1, 0, 0] (bodyOf Try.f42) = some c → ∀ (Q : Exit → ASt → Prop), o.post (fun r => ∀ st, Post Try.prog Try.f42 (fun r' _ => r'.le (.lit (.bool r))) .ret st → Q .ret st) (fun s => Q (.exit 0) ⟨[], []⟩) → ALoopU Try.prog B 0 27 (hold c .mk) ⟨[(0, .arr (List.map Vl.PathBind.c a)), (1, .arr (List.map Vl.PathBind.c b)), (5, .lit (.int .i64 (i : Int)))], []⟩ (hold Q .mk) :=
 (CC.laws_eqPathBindS_l1 B hB1 hB2 a b) i o hF

set_option maxRecDepth 100000 in
set_option maxHeartbeats 4000000 in
theorem C.laws_eqPathBindS (B : Nat) (hB1 : 67108864 ≤ B) (hB2 : B ≤ 9223372036854775807) (a : List Vl.PathBind) (b : List Vl.PathBind) (r : Bool) (hF : F.laws_eqPathBindS a b = some r) : PureCall Try.prog B 42 [.arr (List.map Vl.PathBind.c a), .arr (List.map Vl.PathBind.c b)] (.lit (.bool r)) := by
 unfold F.laws_eqPathBindS at hF
 refine PureCall.enterLe Try.func42 (by kernel_rfl) rfl Try.ntmps42 (by simp) (by simp) ?_
 repeat (first | refine chk.ga ?_ | simp -dsimp)
 refine abr.split (fun h1 => ?_) (fun h1 => ?_)
 ·have q2 : ¬ (a.length = b.length) := auq h1
  have z3 : ¬ ((a.length : Int) = (b.length : Int)) := auz
  rw [if_neg q2] at hF
  cases hF
  repeat (first | refine chk.ga ?_ | simp -dsimp [h1, q2, z3])
  all_goals (try omega)
 ·have q2 : (a.length = b.length) := auq h1
  have z3 : ((a.length : Int) = (b.length : Int)) := auz
  rw [if_pos q2] at hF
  repeat (first | refine chk.ga ?_ | simp -dsimp [h1, q2, z3])
  have hF := ob hF; obtain ⟨o', ho14, hF⟩ := hF
  refine ALoop.goU ⟨[(0, .arr (List.map Vl.PathBind.c a)), (1, .arr (List.map Vl.PathBind.c b)), (5, .lit (.int .i64 (0 : Int)))], []⟩ (Gh.to3 (by simp) (by first | simp -dsimp [h1, q2, z3]; done | simp_all)) ?_
  refine (C.laws_eqPathBindS_l1 B hB1 hB2 a b 0 o' ho14) _ rfl _ ?_
  rcases o' with r0 | sx
  ·dsimp only at hF
   cases hF
   intro st h
   simpa using h
  ·dsimp only at hF
   cases hF
   repeat (first | refine chk.ga ?_ | simp -dsimp)
   all_goals (try omega)

set_option maxRecDepth 100000 in
set_option maxHeartbeats 4000000 in
theorem CC.laws_eqBranch (B : Nat) (hB1 : 67108864 ≤ B) (hB2 : B ≤ 9223372036854775807)  : (∀ (a : Vl.Branch) (b : Vl.Branch) (r : Bool), F.laws_eqBranch a b = some r → PureCall Try.prog B 73 [.agg [.lit (.int .i64 a.ctor), .lit (.int .i64 a.n), .lit (.int .i64 a.m), .lit (.int .i64 a.tree.op), .lit (.int .i64 a.tree.clause), .arr (List.map Vl.PathBind.c a.tree.binds), .arr (List.map cI a.tree.path), .arr (List.map Vl.Branch.c a.tree.branches), .arr (List.map Vl.Tree.c a.tree.els)], .agg [.lit (.int .i64 b.ctor), .lit (.int .i64 b.n), .lit (.int .i64 b.m), .lit (.int .i64 b.tree.op), .lit (.int .i64 b.tree.clause), .arr (List.map Vl.PathBind.c b.tree.binds), .arr (List.map cI b.tree.path), .arr (List.map Vl.Branch.c b.tree.branches), .arr (List.map Vl.Tree.c b.tree.els)]] (.lit (.bool r))) ∧
  (∀ (a : Vl.Tree) (b : Vl.Tree) (r : Bool), F.laws_eqTree a b = some r → PureCall Try.prog B 13 [.agg [.lit (.int .i64 a.op), .lit (.int .i64 a.clause), .arr (List.map Vl.PathBind.c a.binds), .arr (List.map cI a.path), .arr (List.map Vl.Branch.c a.branches), .arr (List.map Vl.Tree.c a.els)], .agg [.lit (.int .i64 b.op), .lit (.int .i64 b.clause), .arr (List.map Vl.PathBind.c b.binds), .arr (List.map cI b.path), .arr (List.map Vl.Branch.c b.branches), .arr (List.map Vl.Tree.c b.els)]] (.lit (.bool r))) ∧
  (∀ (a : List Vl.Tree) (b : List Vl.Tree) (r : Bool), F.laws_eqTreeS a b = some r → PureCall Try.prog B 44 [.arr (List.map Vl.Tree.c a), .arr (List.map Vl.Tree.c b)] (.lit (.bool r))) ∧
  (∀ (a : List Vl.Tree) (b : List Vl.Tree) (i : Nat) (o : Lo Bool Unit), F.laws_eqTreeS_l1 a b i = some o → ∀ (c : Code), navO [1, 1, 0, 1, 0, 0] (bodyOf Try.f44) = some c → ∀ (Q : Exit → ASt → Prop), o.post (fun r => ∀ st, Post Try.prog Try.f44 (fun r' _ => r'.le (.lit (.bool r))) .ret st → Q .ret st) (fun s => Q (.exit 0) ⟨[], []⟩) → ALoopU Try.prog B 0 27 (hold c .mk) ⟨[(0, .arr (List.map Vl.Tree.c a)), (1, .arr (List.map Vl.Tree.c b)), (5, .lit (.int .i64 (i : Int)))], []⟩ (hold Q .mk)) ∧
  (∀ (a : List Vl.Branch) (b : List Vl.Branch) (r : Bool), F.laws_eqBranchS a b = some r → PureCall Try.prog B 43 [.arr (List.map Vl.Branch.c a), .arr (List.map Vl.Branch.c b)] (.lit (.bool r))) ∧
  (∀ (a : List Vl.Branch) (b : List Vl.Branch) (i : Nat) (o : Lo Bool Unit), F.laws_eqBranchS_l1 a b i = some o → ∀ (c : Code), navO [1, 1, 0, 1, 0, 0] (bodyOf Try.f43) = some c → ∀ (Q : Exit → ASt → Prop), o.post (fun r => ∀ st, Post Try.prog Try.f43 (fun r' _ => r'.le (.lit (.bool r))) .ret st → Q .ret st) (fun s => Q (.exit 0) ⟨[], []⟩) → ALoopU Try.prog B 0 27 (hold c .mk) ⟨[(0, .arr (List.map Vl.Branch.c a)), (1, .arr (List.map Vl.Branch.c b)), (5, .lit (.int .i64 (i : Int)))], []⟩ (hold Q .mk)) := by
 refine F.laws_eqBranch.mutual_partial_correctness 
  (fun a b r => PureCall Try.prog B 73 [.agg [.lit (.int .i64 a.ctor), .lit (.int .i64 a.n), .lit (.int .i64 a.m), .lit (.int .i64 a.tree.op), .lit (.int .i64 a.tree.clause), .arr (List.map Vl.PathBind.c a.tree.binds), .arr (List.map cI a.tree.path), .arr (List.map Vl.Branch.c a.tree.branches), .arr (List.map Vl.Tree.c a.tree.els)], .agg [.lit (.int .i64 b.ctor), .lit (.int .i64 b.n), .lit (.int .i64 b.m), .lit (.int .i64 b.tree.op), .lit (.int .i64 b.tree.clause), .arr (List.map Vl.PathBind.c b.tree.binds), .arr (List.map cI b.tree.path), .arr (List.map Vl.Branch.c b.tree.branches), .arr (List.map Vl.Tree.c b.tree.els)]] (.lit (.bool r)))
  (fun a b r => PureCall Try.prog B 13 [.agg [.lit (.int .i64 a.op), .lit (.int .i64 a.clause), .arr (List.map Vl.PathBind.c a.binds), .arr (List.map cI a.path), .arr (List.map Vl.Branch.c a.branches), .arr (List.map Vl.Tree.c a.els)], .agg [.lit (.int .i64 b.op), .lit (.int .i64 b.clause), .arr (List.map Vl.PathBind.c b.binds), .arr (List.map cI b.path), .arr (List.map Vl.Branch.c b.branches), .arr (List.map Vl.Tree.c b.els)]] (.lit (.bool r)))
  (fun a b r => PureCall Try.prog B 44 [.arr (List.map Vl.Tree.c a), .arr (List.map Vl.Tree.c b)] (.lit (.bool r)))
  (fun a b i o => ∀ (c : Code), navO [1, 1, 0, 1, 0, 0] (bodyOf Try.f44) = some c → ∀ (Q : Exit → ASt → Prop), o.post (fun r => ∀ st, Post Try.prog Try.f44 (fun r' _ => r'.le (.lit (.bool r))) .ret st → Q .ret st) (fun s => Q (.exit 0) ⟨[], []⟩) → ALoopU Try.prog B 0 27 (hold c .mk) ⟨[(0, .arr (List.map Vl.Tree.c a)), (1, .arr (List.map Vl.Tree.c b)), (5, .lit (.int .i64 (i : Int)))], []⟩ (hold Q .mk))
  (fun a b r => PureCall Try.prog B 43 [.arr (List.map Vl.Branch.c a), .arr (List.map Vl.Branch.c b)] (.lit (.bool r)))
  (fun a b i o => ∀ (c : Code), navO [1, 1, 0, 1, 0, 0] (bodyOf Try.f43) = some c → ∀ (Q : Exit → ASt → Prop), o.post (fun r => ∀ st, Post Try.prog Try.f43 (fun r' _ => r'.le (.lit (.bool r))) .ret st → Q .ret st) (fun s => Q (.exit 0) ⟨[], []⟩) → ALoopU Try.prog B 0 27 (hold c .mk) ⟨[(0, .arr (List.map Vl.Branch.c a)), (1, .arr (List.map Vl.Branch.c b)), (5, .lit (.int .i64 (i : Int)))], []⟩ (hold Q .mk))
  ?_ ?_ ?_ ?_ ?_ ?_
 ·intro _f_laws_eqTree ih_laws_eqTree a b r hF
  refine PureCall.enterLe Try.func73 (by kernel_rfl) rfl Try.ntmps73 (by simp) (by simp) ?_
  repeat (first | refine chk.ga ?_ | simp -dsimp)
  refine abr.split (fun h1 => ?_) (fun h1 => ?_)
  ·have q2 : ¬ (a.ctor = b.ctor) := auq h1
   rw [if_neg q2] at hF
   cases hF
   repeat (first | refine chk.ga ?_ | simp -dsimp [h1, q2])
   all_goals (try omega)
  ·have q2 : (a.ctor = b.ctor) := auq h1
   rw [if_pos q2] at hF
   repeat (first | refine chk.ga ?_ | simp -dsimp [h1, q2])
   refine abr.split (fun h3 => ?_) (fun h3 => ?_)
   ·have q4 : ¬ (a.n = b.n) := auq h3
    rw [if_neg q4] at hF
    cases hF
    repeat (first | refine chk.ga ?_ | simp -dsimp [h1, q2, h3, q4])
    all_goals (try omega)
   ·have q4 : (a.n = b.n) := auq h3
    rw [if_pos q4] at hF
    repeat (first | refine chk.ga ?_ | simp -dsimp [h1, q2, h3, q4])
    refine abr.split (fun h5 => ?_) (fun h5 => ?_)
    ·have q6 : ¬ (a.m = b.m) := auq h5
     rw [if_neg q6] at hF
     cases hF
     repeat (first | refine chk.ga ?_ | simp -dsimp [h1, q2, h3, q4, h5, q6])
     all_goals (try omega)
    ·have q6 : (a.m = b.m) := auq h5
     rw [if_pos q6] at hF
     repeat (first | refine chk.ga ?_ | simp -dsimp [h1, q2, h3, q4, h5, q6])
     have hF := ob hF; obtain ⟨v, e7, hF⟩ := hF
     refine ((ih_laws_eqTree a.tree b.tree v e7)).goW (by first | simp [h1, q2, h3, q4, h5, q6]; done | simp_all) (by simp) ?_
     repeat (first | refine chk.ga ?_ | simp -dsimp [h1, q2, h3, q4, h5, q6])
     refine abr.split (fun h8 => ?_) (fun h8 => ?_)
     ·have q9 : ¬ (v = true) := auq h8
      rw [if_neg q9] at hF
      cases hF
      repeat (first | refine chk.ga ?_ | simp -dsimp [h1, q2, h3, q4, h5, q6, h8, q9])
      all_goals (try omega)
     ·have q9 : (v = true) := auq h8
      rw [if_pos q9] at hF
      cases hF
      repeat (first | refine chk.ga ?_ | simp -dsimp [h1, q2, h3, q4, h5, q6, h8, q9])
      all_goals (try omega)
 ·intro _f_laws_eqTreeS _f_laws_eqBranchS ih_laws_eqTreeS ih_laws_eqBranchS a b r hF
  refine PureCall.enterLe Try.func13 (by kernel_rfl) rfl Try.ntmps13 (by simp) (by simp) ?_
  repeat (first | refine chk.ga ?_ | simp -dsimp)
  refine abr.split (fun h1 => ?_) (fun h1 => ?_)
  ·have q2 : ¬ (a.op = b.op) := auq h1
   rw [if_neg q2] at hF
   cases hF
   repeat (first | refine chk.ga ?_ | simp -dsimp [h1, q2])
   all_goals (try omega)
  ·have q2 : (a.op = b.op) := auq h1
   rw [if_pos q2] at hF
   repeat (first | refine chk.ga ?_ | simp -dsimp [h1, q2])
   refine abr.split (fun h3 => ?_) (fun h3 => ?_)
   ·have q4 : ¬ (a.clause = b.clause) := auq h3
    rw [if_neg q4] at hF
    cases hF
    repeat (first | refine chk.ga ?_ | simp -dsimp [h1, q2, h3, q4])
    all_goals (try omega)
   ·have q4 : (a.clause = b.clause) := auq h3
    rw [if_pos q4] at hF
    repeat (first | refine chk.ga ?_ | simp -dsimp [h1, q2, h3, q4])
    have hF := ob hF; obtain ⟨v, e5, hF⟩ := hF
    refine ((C.laws_eqPathBindS B hB1 hB2 a.binds b.binds v e5)).goW (by first | simp [h1, q2, h3, q4]; done | simp_all) (by simp) ?_
    repeat (first | refine chk.ga ?_ | simp -dsimp [h1, q2, h3, q4])
    refine abr.split (fun h6 => ?_) (fun h6 => ?_)
    ·have q7 : ¬ (v = true) := auq h6
     rw [if_neg q7] at hF
     cases hF
     repeat (first | refine chk.ga ?_ | simp -dsimp [h1, q2, h3, q4, h6, q7])
     all_goals (try omega)
    ·have q7 : (v = true) := auq h6
     rw [if_pos q7] at hF
     repeat (first | refine chk.ga ?_ | simp -dsimp [h1, q2, h3, q4, h6, q7])
     have hF := ob hF; obtain ⟨v8, e9, hF⟩ := hF
     refine ((C.laws_eqIntS B hB1 hB2 a.path b.path v8 e9)).goW (by first | simp [h1, q2, h3, q4, h6, q7]; done | simp_all) (by simp) ?_
     repeat (first | refine chk.ga ?_ | simp -dsimp [h1, q2, h3, q4, h6, q7])
     refine abr.split (fun h10 => ?_) (fun h10 => ?_)
     ·have q11 : ¬ (v8 = true) := auq h10
      rw [if_neg q11] at hF
      cases hF
      repeat (first | refine chk.ga ?_ | simp -dsimp [h1, q2, h3, q4, h6, q7, h10, q11])
      all_goals (try omega)
     ·have q11 : (v8 = true) := auq h10
      rw [if_pos q11] at hF
      repeat (first | refine chk.ga ?_ | simp -dsimp [h1, q2, h3, q4, h6, q7, h10, q11])
      have hF := ob hF; obtain ⟨v12, e13, hF⟩ := hF
      refine ((ih_laws_eqBranchS a.branches b.branches v12 e13)).goW (by first | simp [h1, q2, h3, q4, h6, q7, h10, q11]; done | simp_all) (by simp) ?_
      repeat (first | refine chk.ga ?_ | simp -dsimp [h1, q2, h3, q4, h6, q7, h10, q11])
      refine abr.split (fun h14 => ?_) (fun h14 => ?_)
      ·have q15 : ¬ (v12 = true) := auq h14
       rw [if_neg q15] at hF
       cases hF
       repeat (first | refine chk.ga ?_ | simp -dsimp [h1, q2, h3, q4, h6, q7, h10, q11, h14, q15])
       all_goals (try omega)
      ·have q15 : (v12 = true) := auq h14
       rw [if_pos q15] at hF
       repeat (first | refine chk.ga ?_ | simp -dsimp [h1, q2, h3, q4, h6, q7, h10, q11, h14, q15])
       have hF := ob hF; obtain ⟨v16, e17, hF⟩ := hF
       refine ((ih_laws_eqTreeS a.els b.els v16 e17)).goW (by first | simp [h1, q2, h3, q4, h6, q7, h10, q11, h14, q15]; done | simp_all) (by simp) ?_
       repeat (first | refine chk.ga ?_ | simp -dsimp [h1, q2, h3, q4, h6, q7, h10, q11, h14, q15])
       refine abr.split (fun h18 => ?_) (fun h18 => ?_)
       ·have q19 : ¬ (v16 = true) := auq h18
        rw [if_neg q19] at hF
        cases hF
        repeat (first | refine chk.ga ?_ | simp -dsimp [h1, q2, h3, q4, h6, q7, h10, q11, h14, q15, h18, q19])
        all_goals (try omega)
       ·have q19 : (v16 = true) := auq h18
        rw [if_pos q19] at hF
        cases hF
        repeat (first | refine chk.ga ?_ | simp -dsimp [h1, q2, h3, q4, h6, q7, h10, q11, h14, q15, h18, q19])
        all_goals (try omega)
 ·intro _f_laws_eqTreeS_l1 ih_laws_eqTreeS_l1 a b r hF
  refine PureCall.enterLe Try.func44 (by kernel_rfl) rfl Try.ntmps44 (by simp) (by simp) ?_
  repeat (first | refine chk.ga ?_ | simp -dsimp)
  refine abr.split (fun h1 => ?_) (fun h1 => ?_)
  ·have q2 : ¬ (a.length = b.length) := auq h1
   have z3 : ¬ ((a.length : Int) = (b.length : Int)) := auz
   rw [if_neg q2] at hF
   cases hF
   repeat (first | refine chk.ga ?_ | simp -dsimp [h1, q2, z3])
   all_goals (try omega)
  ·have q2 : (a.length = b.length) := auq h1
   have z3 : ((a.length : Int) = (b.length : Int)) := auz
   rw [if_pos q2] at hF
   repeat (first | refine chk.ga ?_ | simp -dsimp [h1, q2, z3])
   have hF := ob hF; obtain ⟨o', ho14, hF⟩ := hF
   refine ALoop.goU ⟨[(0, .arr (List.map Vl.Tree.c a)), (1, .arr (List.map Vl.Tree.c b)), (5, .lit (.int .i64 (0 : Int)))], []⟩ (Gh.to3 (by simp) (by first | simp -dsimp [h1, q2, z3]; done | simp_all)) ?_
   refine (ih_laws_eqTreeS_l1 a b 0 o' ho14) _ rfl _ ?_
   rcases o' with r0 | sx
   ·dsimp only at hF
    cases hF
    intro st h
    simpa using h
   ·dsimp only at hF
    cases hF
    repeat (first | refine chk.ga ?_ | simp -dsimp)
    all_goals (try omega)
 ·intro _f_laws_eqTree _f_laws_eqTreeS_l1 ih_laws_eqTree ih_laws_eqTreeS_l1 a b i o hF
  intro c hc Q hq
  obtain rfl : c = _ := navEq hc rfl
  refine ALoopU.know fun hk hs => ?_
  have b0 := hk 0
  simp -dsimp at b0
  have b1 := hk 1
  simp -dsimp at b1
  clear hk hs
  refine ALoopU.enter ?_
  repeat (first | refine chk.ga ?_ | simp -dsimp)
  refine abr.split (fun h4 => ?_) (fun h4 => ?_)
  ·have q5 : (i < a.length) := auq h4
   have z6 : ((i : Int) < (a.length : Int)) := auz
   rw [if_pos q5] at hF
   repeat (first | refine chk.ga ?_ | simp -dsimp [h4, z6])
   refine ADraw.simple follows (by kernel_rfl) (by kernel_rfl) ?_
   have hF := ob hF; obtain ⟨x, e7, hF⟩ := hF
   have le7 := lt_of_get e7
   have hF := ob hF; obtain ⟨x8, e9, hF⟩ := hF
   have le9 := lt_of_get e9
   repeat (first | refine chk.ga ?_ | simp -dsimp [h4, z6, ↓e7, ↓e9])
   have hF := ob hF; obtain ⟨v, e10, hF⟩ := hF
   refine ((ih_laws_eqTree x x8 v e10)).pgoW (by first | simp [h4, z6, ↓e7, ↓e9]; done | simp_all) (by simp) ?_
   repeat (first | refine chk.ga ?_ | simp -dsimp [h4, z6, ↓e7, ↓e9])
   refine abr.split (fun h11 => ?_) (fun h11 => ?_)
   ·have q12 : ¬ (v = true) := auq h11
    rw [if_neg q12] at hF
    cases hF
    repeat (first | refine chk.ga ?_ | simp -dsimp [h4, z6, ↓e7, ↓e9, h11, q12])
    refine Leave.go _ (Gh.refl _) (hq _ ?_)
    repeat (first | refine chk.ga ?_ | simp -dsimp [h4, z6, ↓e7, ↓e9, h11, q12])
   ·have q12 : (v = true) := auq h11
    rw [if_pos q12] at hF
    have w13 : IntKind.i64.wrap ((i : Int) + 1) = (i : Int) + 1 := wrap_in (by omega) (by omega)
    repeat (first | refine chk.ga ?_ | simp -dsimp [h4, z6, ↓e7, ↓e9, h11, q12, w13])
    refine Again.go ⟨[(0, .arr (List.map Vl.Tree.c a)), (1, .arr (List.map Vl.Tree.c b)), (5, .lit (.int .i64 ((i + 1) : Int)))], []⟩ (Gh.to3 (by simp) (by first | simp -dsimp [h4, z6, ↓e7, ↓e9, h11, q12, w13]; done | simp_all)) ?_
    exact (ih_laws_eqTreeS_l1 a b (i + 1) o hF) _ rfl _ hq
  ·have q5 : ¬ (i < a.length) := auq h4
   have z6 : ¬ ((i : Int) < (a.length : Int)) := auz
   rw [if_neg q5] at hF
   cases hF
   repeat (first | refine chk.ga ?_ | simp -dsimp [h4, q5, z6])
   refine Leave.go ⟨[], []⟩ (Gh.to3 (by simp) (by first | simp -dsimp [h4, q5, z6]; done | simp_all)) ?_
   exact hq
 ·intro _f_laws_eqBranchS_l1 ih_laws_eqBranchS_l1 a b r hF
  refine PureCall.enterLe Try.func43 (by kernel_rfl) rfl Try.ntmps43 (by simp) (by simp) ?_
  repeat (first | refine chk.ga ?_ | simp -dsimp)
  refine abr.split (fun h1 => ?_) (fun h1 => ?_)
  ·have q2 : ¬ (a.length = b.length) := auq h1
   have z3 : ¬ ((a.length : Int) = (b.length : Int)) := auz
   rw [if_neg q2] at hF
   cases hF
   repeat (first | refine chk.ga ?_ | simp -dsimp [h1, q2, z3])
   all_goals (try omega)
  ·have q2 : (a.length = b.length) := auq h1
   have z3 : ((a.length : Int) = (b.length : Int)) := auz
   rw [if_pos q2] at hF
   repeat (first | refine chk.ga ?_ | simp -dsimp [h1, q2, z3])
   have hF := ob hF; obtain ⟨o', ho14, hF⟩ := hF
   refine ALoop.goU ⟨[(0, .arr (List.map Vl.Branch.c a)), (1, .arr (List.map Vl.Branch.c b)), (5, .lit (.int .i64 (0 : Int)))], []⟩ (Gh.to3 (by simp) (by first | simp -dsimp [h1, q2, z3]; done | simp_all)) ?_
   refine (ih_laws_eqBranchS_l1 a b 0 o' ho14) _ rfl _ ?_
   rcases o' with r0 | sx
   ·dsimp only at hF
    cases hF
    intro st h
    simpa using h
   ·dsimp only at hF
    cases hF
    repeat (first | refine chk.ga ?_ | simp -dsimp)
    all_goals (try omega)
 ·intro _f_laws_eqBranch _f_laws_eqBranchS_l1 ih_laws_eqBranch ih_laws_eqBranchS_l1 a b i o hF
  intro c hc Q hq
  obtain rfl : c = _ := navEq hc rfl
  refine ALoopU.know fun hk hs => ?_
  have b0 := hk 0
  simp -dsimp at b0
  have b1 := hk 1
  simp -dsimp at b1
  clear hk hs
  refine ALoopU.enter ?_
  repeat (first | refine chk.ga ?_ | simp -dsimp)
  refine abr.split (fun h4 => ?_) (fun h4 => ?_)
  ·have q5 : (i < a.length) := auq h4
   have z6 : ((i : Int) < (a.length : Int)) := auz
   rw [if_pos q5] at hF
   repeat (first | refine chk.ga ?_ | simp -dsimp [h4, z6])
   refine ADraw.simple follows (by kernel_rfl) (by kernel_rfl) ?_
   have hF := ob hF; obtain ⟨x, e7, hF⟩ := hF
   have le7 := lt_of_get e7
   have hF := ob hF; obtain ⟨x8, e9, hF⟩ := hF
   have le9 := lt_of_get e9
   repeat (first | refine chk.ga ?_ | simp -dsimp [h4, z6, ↓e7, ↓e9])
   have hF := ob hF; obtain ⟨v, e10, hF⟩ := hF
   refine ((ih_laws_eqBranch x x8 v e10)).pgoW (by first | simp [h4, z6, ↓e7, ↓e9]; done | simp_all) (by simp) ?_
   repeat (first | refine chk.ga ?_ | simp -dsimp [h4, z6, ↓e7, ↓e9])
   refine abr.split (fun h11 => ?_) (fun h11 => ?_)
   ·have q12 : ¬ (v = true) := auq h11
    rw [if_neg q12] at hF
    cases hF
    repeat (first | refine chk.ga ?_ | simp -dsimp [h4, z6, ↓e7, ↓e9, h11, q12])
    refine Leave.go _ (Gh.refl _) (hq _ ?_)
    repeat (first | refine chk.ga ?_ | simp -dsimp [h4, z6, ↓e7, ↓e9, h11, q12])
   ·have q12 : (v = true) := auq h11
    rw [if_pos q12] at hF
    have w13 : IntKind.i64.wrap ((i : Int) + 1) = (i : Int) + 1 := wrap_in (by omega) (by omega)
    repeat (first | refine chk.ga ?_ | simp -dsimp [h4, z6, ↓e7, ↓e9, h11, q12, w13])
    refine Again.go ⟨[(0, .arr (List.map Vl.Branch.c a)), (1, .arr (List.map Vl.Branch.c b)), (5, .lit (.int .i64 ((i + 1) : Int)))], []⟩ (Gh.to3 (by simp) (by first | simp -dsimp [h4, z6, ↓e7, ↓e9, h11, q12, w13]; done | simp_all)) ?_
    exact (ih_laws_eqBranchS_l1 a b (i + 1) o hF) _ rfl _ hq
  ·have q5 : ¬ (i < a.length) := auq h4
   have z6 : ¬ ((i : Int) < (a.length : Int)) := auz
   rw [if_neg q5] at hF
   cases hF
   repeat (first | refine chk.ga ?_ | simp -dsimp [h4, q5, z6])
   refine Leave.go ⟨[], []⟩ (Gh.to3 (by simp) (by first | simp -dsimp [h4, q5, z6]; done | simp_all)) ?_
   exact hq

theorem C.laws_eqBranch (B : Nat) (hB1 : 67108864 ≤ B) (hB2 : B ≤ 9223372036854775807) (a : Vl.Branch) (b : Vl.Branch) (r : Bool) (hF : F.laws_eqBranch a b = some r) : PureCall Try.prog B 73 [.agg [.lit (.int .i64 a.ctor), .lit (.int .i64 a.n), .lit (.int .i64 a.m), .lit (.int .i64 a.tree.op), .lit (.int .i64 a.tree.clause), .arr (List.map Vl.PathBind.c a.tree.binds), .arr (List.map cI a.tree.path), .arr (List.map Vl.Branch.c a.tree.branches), .arr (List.map Vl.Tree.c a.tree.els)], .agg [.lit (.int .i64 b.ctor), .lit (.int .i64 b.n), .lit (.int .i64 b.m), .lit (.int .i64 b.tree.op), .lit (.int .i64 b.tree.clause), .arr (List.map Vl.PathBind.c b.tree.binds), .arr (List.map cI b.tree.path), .arr (List.map Vl.Branch.c b.tree.branches), .arr (List.map Vl.Tree.c b.tree.els)]] (.lit (.bool r)) :=
 (CC.laws_eqBranch B hB1 hB2 ).1 a b r hF

theorem C.laws_eqTree (B : Nat) (hB1 : 67108864 ≤ B) (hB2 : B ≤ 9223372036854775807) (a : Vl.Tree) (b : Vl.Tree) (r : Bool) (hF : F.laws_eqTree a b = some r) : PureCall Try.prog B 13 [.agg [.lit (.int .i64 a.op), .lit (.int .i64 a.clause), .arr (List.map Vl.PathBind.c a.binds), .arr (List.map cI a.path), .arr (List.map Vl.Branch.c a.branches), .arr (List.map Vl.Tree.c a.els)], .agg [.lit (.int .i64 b.op), .lit (.int .i64 b.clause), .arr (List.map Vl.PathBind.c b.binds), .arr (List.map cI b.path), .arr (List.map Vl.Branch.c b.branches), .arr (List.map Vl.Tree.c b.els)]] (.lit (.bool r)) :=
 (CC.laws_eqBranch B hB1 hB2 ).2.1 a b r hF

theorem C.laws_eqTreeS (B : Nat) (hB1 : 67108864 ≤ B) (hB2 : B ≤ 9223372036854775807) (a : List Vl.Tree) (b : List Vl.Tree) (r : Bool) (hF : F.laws_eqTreeS a b = some r) : PureCall Try.prog B 44 [.arr (List.map Vl.Tree.c a), .arr (List.map Vl.Tree.c b)] (.lit (.bool r)) :=
 (CC.laws_eqBranch B hB1 hB2 ).2.2.1 a b r hF

theorem C.laws_eqTreeS_l1 (B : Nat) (hB1 : 67108864 ≤ B) (hB2 : B ≤ 9223372036854775807) (a : List Vl.Tree) (b : List Vl.Tree) (i : Nat) (o : Lo Bool Unit) (hF : F.laws_eqTreeS_l1 a b i = some o) : ∀ (c : Code), navO [1, 1, 0, 1, 0, 0] (bodyOf Try.f44) = some c → ∀ (Q : Exit → ASt → Prop), o.post (fun r => ∀ st, Post Try.prog Try.f44 (fun r' _ => r'.le (.lit (.bool r))) .ret st → Q .ret st) (fun s => Q (.exit 0) ⟨[], []⟩) → ALoopU Try.prog B 0 27 (hold c .mk) ⟨[(0, .arr (List.map Vl.Tree.c a)), (1, .arr (List.map Vl.Tree.c b)), (5, .lit (.int .i64 (i : Int)))], []⟩ (hold Q .mk) :=
 (CC.laws_eqBranch B hB1 hB2 ).2.2.2.1 a b i o hF

theorem C.laws_eqBranchS (B : Nat) (hB1 : 67108864 ≤ B) (hB2 : B ≤ 9223372036854775807) (a : List Vl.Branch) (b : List Vl.Branch) (r : Bool) (hF : F.laws_eqBranchS a b = some r) : PureCall Try.prog B 43 [.arr (List.map Vl.Branch.c a), .arr (List.map Vl.Branch.c b)] (.lit (.bool r)) :=
 (CC.laws_eqBranch B hB1 hB2 ).2.2.2.2.1 a b r hF

theorem C.laws_eqBranchS_l1 (B : Nat) (hB1 : 67108864 ≤ B) (hB2 : B ≤ 9223372036854775807) (a : List Vl.Branch) (b : List Vl.Branch) (i : Nat) (o : Lo Bool Unit) (hF : F.laws_eqBranchS_l1 a b i = some o) : ∀ (c : Code), navO [1, 1, 0, 1, 0, 0] (bodyOf Try.f43) = some c → ∀ (Q : Exit → ASt → Prop), o.post (fun r => ∀ st, Post Try.prog Try.f43 (fun r' _ => r'.le (.lit (.bool r))) .ret st → Q .ret st) (fun s => Q (.exit 0) ⟨[], []⟩) → ALoopU Try.prog B 0 27 (hold c .mk) ⟨[(0, .arr (List.map Vl.Branch.c a)), (1, .arr (List.map Vl.Branch.c b)), (5, .lit (.int .i64 (i : Int)))], []⟩ (hold Q .mk) :=
 (CC.laws_eqBranch B hB1 hB2 ).2.2.2.2.2 a b i o hF

set_option maxRecDepth 100000 in
set_option maxHeartbeats 4000000 in
theorem CC.laws_heldIntS_l1 (B : Nat) (hB1 : 67108864 ≤ B) (hB2 : B ≤ 9223372036854775807) (a : List Int) : (∀ (k1 : Int) (i : Nat) (o : Lo Int Int), F.laws_heldIntS_l1 a k1 i = some o → ∀ (c : Code), navO [1, 0, 1, 0, 0] (bodyOf Try.f26) = some c → ∀ (Q : Exit → ASt → Prop), o.post (fun r => ∀ st, Post Try.prog Try.f26 (fun r' _ => r'.le (.lit (.int .i64 r))) .ret st → Q .ret st) (fun s => Q (.exit 0) ⟨[(1, .lit (.int .i64 s))], []⟩) → ALoopU Try.prog B 0 21 (hold c .mk) ⟨[(0, .arr (List.map cI a)), (1, .lit (.int .i64 k1)), (5, .lit (.int .i64 (i : Int)))], []⟩ (hold Q .mk)) := by
 refine F.laws_heldIntS_l1.partial_correctness a
  (fun k1 i o => ∀ (c : Code), navO [1, 0, 1, 0, 0] (bodyOf Try.f26) = some c → ∀ (Q : Exit → ASt → Prop), o.post (fun r => ∀ st, Post Try.prog Try.f26 (fun r' _ => r'.le (.lit (.int .i64 r))) .ret st → Q .ret st) (fun s => Q (.exit 0) ⟨[(1, .lit (.int .i64 s))], []⟩) → ALoopU Try.prog B 0 21 (hold c .mk) ⟨[(0, .arr (List.map cI a)), (1, .lit (.int .i64 k1)), (5, .lit (.int .i64 (i : Int)))], []⟩ (hold Q .mk))
  ?_
 ·intro _f_laws_heldIntS_l1 ih_laws_heldIntS_l1 k1 i o hF
  intro c hc Q hq
  obtain rfl : c = _ := navEq hc rfl
  refine ALoopU.know fun hk hs => ?_
  have b0 := hk 0
  simp -dsimp at b0
  clear hk hs
  refine ALoopU.enter ?_
  repeat (first | refine chk.ga ?_ | simp -dsimp)
  refine abr.split (fun h2 => ?_) (fun h2 => ?_)
  ·have q3 : (i < a.length) := auq h2
   have z4 : ((i : Int) < (a.length : Int)) := auz
   rw [if_pos q3] at hF
   have hF := ob hF; obtain ⟨x, e5, hF⟩ := hF
   have le5 := lt_of_get e5
   repeat (first | refine chk.ga ?_ | simp -dsimp [h2, z4, ↓e5])
   refine abr.split (fun h6 => ?_) (fun h6 => ?_)
   ·have q7 : ¬ (x = k1) := auq h6
    rw [if_neg q7] at hF
    cases hF
    repeat (first | refine chk.ga ?_ | simp -dsimp [h2, z4, ↓e5, h6, q7])
    refine Leave.go _ (Gh.refl _) (hq _ ?_)
    repeat (first | refine chk.ga ?_ | simp -dsimp [h2, z4, ↓e5, h6, q7])
   ·have q7 : (x = k1) := auq h6
    rw [if_pos q7] at hF
    have w8 : IntKind.i64.wrap ((i : Int) + 1) = (i : Int) + 1 := wrap_in (by omega) (by omega)
    repeat (first | refine chk.ga ?_ | simp -dsimp [h2, z4, ↓e5, h6, q7, w8])
    refine Again.go ⟨[(0, .arr (List.map cI a)), (1, .lit (.int .i64 (IntKind.i64.wrap (k1 + 1)))), (5, .lit (.int .i64 ((i + 1) : Int)))], []⟩ (Gh.to3 (by simp) (by first | simp -dsimp [h2, z4, ↓e5, h6, q7, w8]; done | simp_all)) ?_
    exact (ih_laws_heldIntS_l1 (IntKind.i64.wrap (k1 + 1)) (i + 1) o hF) _ rfl _ hq
  ·have q3 : ¬ (i < a.length) := auq h2
   have z4 : ¬ ((i : Int) < (a.length : Int)) := auz
   rw [if_neg q3] at hF
   cases hF
   repeat (first | refine chk.ga ?_ | simp -dsimp [h2, q3, z4])
   refine Leave.go ⟨[(1, .lit (.int .i64 k1))], []⟩ (Gh.to3 (by simp) (by first | simp -dsimp [h2, q3, z4]; done | simp_all)) ?_
   exact hq

theorem C.laws_heldIntS_l1 (B : Nat) (hB1 : 67108864 ≤ B) (hB2 : B ≤ 9223372036854775807) (a : List Int) (k1 : Int) (i : Nat) (o : Lo Int Int) (hF : F.laws_heldIntS_l1 a k1 i = some o) : ∀ (c : Code), navO [1, 0, 1, 0, 0] (bodyOf Try.f26) = some c → ∀ (Q : Exit → ASt → Prop), o.post (fun r => ∀ st, Post Try.prog Try.f26 (fun r' _ => r'.le (.lit (.int .i64 r))) .ret st → Q .ret st) (fun s => Q (.exit 0) ⟨[(1, .lit (.int .i64 s))], []⟩) → ALoopU Try.prog B 0 21 (hold c .mk) ⟨[(0, .arr (List.map cI a)), (1, .lit (.int .i64 k1)), (5, .lit (.int .i64 (i : Int)))], []⟩ (hold Q .mk) :=
 (CC.laws_heldIntS_l1 B hB1 hB2 a) k1 i o hF

set_option maxRecDepth 100000 in
set_option maxHeartbeats 4000000 in
theorem C.laws_heldIntS (B : Nat) (hB1 : 67108864 ≤ B) (hB2 : B ≤ 9223372036854775807) (a : List Int) (k : Int) (r : Int) (hF : F.laws_heldIntS a k = some r) : PureCall Try.prog B 26 [.arr (List.map cI a), .lit (.int .i64 k)] (.lit (.int .i64 r)) := by
 unfold F.laws_heldIntS at hF
 refine PureCall.enterLe Try.func26 (by kernel_rfl) rfl Try.ntmps26 (by simp) (by simp) ?_
 repeat (first | refine chk.ga ?_ | simp -dsimp)
 have hF := ob hF; obtain ⟨o', ho9, hF⟩ := hF
 refine ALoop.goU ⟨[(0, .arr (List.map cI a)), (1, .lit (.int .i64 k)), (5, .lit (.int .i64 (0 : Int)))], []⟩ (Gh.to3 (by simp) (by simp -dsimp)) ?_
 refine (C.laws_heldIntS_l1 B hB1 hB2 a k 0 o' ho9) _ rfl _ ?_
 rcases o' with r0 | sx
 ·dsimp only at hF
  cases hF
  intro st h
  simpa using h
 ·dsimp only at hF
  cases hF
  repeat (first | refine chk.ga ?_ | simp -dsimp)
  all_goals (try omega)

set_option maxRecDepth 100000 in
set_option maxHeartbeats 4000000 in
theorem CM.laws_markIntS (B : Nat) (hB1 : 67108864 ≤ B) (hB2 : B ≤ 9223372036854775807) : ∀ m : Nat, (∀ (a : List Int) (k : Int), SizeOf.sizeOf a < m → MCall Try.prog B 25 (List.map cI a) [.int .i64 k] (List.map cI (mkI a k).1) (.int .i64 (mkI a k).2)) := by
 intro m
 induction m with
 | zero => exact fun a k h => absurd h (Nat.not_lt_zero _)
 | succ m ih =>
  intro a0 k0 hm
  have hz0 : ∀ x, x ∈ a0 → SizeOf.sizeOf x < m := fun x hx => by have := List.sizeOf_lt_of_mem hx; omega
  have loop : ∀ (rest D : List Int) (k : Int) (i n : Nat) (rows : List (List AV)) (us : List Go.Value), (∀ x, x ∈ rest → SizeOf.sizeOf x < m) → i = D.length → n = i + rest.length → RW 1 n rows us →
    ∀ (c : Code), navO [1, 0, 1, 0, 0] (bodyOf Try.f25) = some c → ∀ (Q : Exit → ASt → Prop),
    (∀ (R : List (List AV)) (U : List Go.Value), RW 1 n R U → Q (.exit 0) ⟨[(1, .lit (.int .i64 (mkI rest k).2))], [.elems 1 R, .pack (List.flatten (List.map cI (D ++ (mkI rest k).1))) U]⟩) →
    ALoopU Try.prog B 2 19 (hold c .mk) ⟨[(0, .own 0 n), (1, .lit (.int .i64 k)), (5, .lit (.int .i64 (i : Int)))], [.elems 1 rows, .pack (List.flatten (List.map cI (D ++ rest))) us]⟩ (hold Q .mk) := by
   intro rest
   induction rest with
   | nil =>
    intro D k i n rows us hz hi hn H c hc Q hq
    obtain rfl : c = _ := navEq hc rfl
    have hn' : n = i := by simpa using hn
    subst hn'
    refine ALoopU.enter ?_
    repeat (first | refine chk.ga ?_ | simp -dsimp [RW.len H])
    refine Leave.go ⟨[(1, .lit (.int .i64 k))], [.elems 1 rows, .pack (List.flatten (List.map cI D)) us]⟩ (Gh.to3 (by simp) (by simp -dsimp [RW.closed H])) ?_
    simpa [mkI] using hq rows us H
   | cons x r ihr =>
    intro D k i n rows us hz hi hn H c hc Q hq
    refine ALoopU.opnAt 1 (List.flatten (List.map cI D)) (cI x) (List.flatten (List.map cI r)) rfl (by simp) ?_
    intro hs vs UA UC hl ho hlt hU hlA
    have hs0 : hs = [] := List.length_eq_zero_iff.1 (by simpa using hl)
    subst hs0
    have hv : vs = [.int .i64 x] := by apply lits_inj; rw [← hlt]; simp
    subst hv hU
    have hUA : UA.length = i * 1 := by rw [hlA, flatc_len cI_len, hi]
    have hin : i < n := by simp at hn; omega
    have hrow : rows[i]? = some [.lit (.int .i64 x)] := by simpa using H.at hin rfl hUA rfl
    have hne : ¬ rows = [] := by intro e; rw [e] at hrow; simp at hrow
    have hrl := RW.len H
    have hrow' : ∀ (h : i < rows.length), rows[i] = [.lit (.int .i64 x)] := fun h => by rw [List.getElem?_eq_getElem h] at hrow; exact Option.some.inj hrow
    have hset : ∀ a, (rows.set i a)[i]? = some a := fun a => List.getElem?_set_self (by omega)
    clear hlt
    refine ALoopU.know fun hk hs => ?_
    have d0 := hs 0 _ rfl
    simp -dsimp [Blk.bnd] at d0
    clear hk hs
    obtain rfl : c = _ := navEq hc rfl
    have w1 : IntKind.i64.wrap ((i : Int) + 1) = (i : Int) + 1 := wrap_in (by omega) (by omega)
    refine ALoopU.enter ?_
    repeat (first | refine chk.ga ?_ | simp -dsimp [hne, hrow, hrow', hset, hrl, hin, w1, List.set_set])
    refine Again.go ⟨[(0, .own 0 n), (1, .lit (.int .i64 (IntKind.i64.wrap (k + 1)))), (5, .lit (.int .i64 ((i + 1 : Nat) : Int)))], [.elems 1 (rows.set i [.lit (.int .i64 k)]), .pack (List.flatten (List.map cI ((D ++ [k]) ++ r))) (UA ++ ([.int .i64 k] ++ UC))]⟩
     (by refine Gh.trans (Gh.setAt 1 [] (XA := List.flatten (List.map cI D)) (old := [.lit (.int .i64 x)]) (XC := List.flatten (List.map cI r)) (UA := UA) (uo := [.int .i64 x]) (UC := UC) (by exact rfl) (by simp) (by simp) hlA rfl (.lit (.int .i64 k) .nil) (by decide)) ?_; exact Gh.to3 (by simp) (by simp -dsimp [RW.closed H])) ?_
    have he : mkI (x :: r) k = (k :: (mkI r (IntKind.i64.wrap (k + 1))).1, (mkI r (IntKind.i64.wrap (k + 1))).2) := by rfl
    rw [he] at hq
    refine ihr (D ++ [k]) _ (i + 1) n _ _ (fun y hy => hz y (List.mem_cons_of_mem _ hy)) (by simp [hi]) (by simp at hn; omega) (by simpa using H.setAt hin hUA rfl [.int .i64 k] rfl) _ rfl _ fun R U hR => ?_
    simpa using hq R U hR
  refine MCall.enter 1 Try.func25 (by kernel_rfl) rfl Try.ntmps25 (by simp) (by simp [mkI_len]) (fun e he => by obtain ⟨x, _, rfl⟩ := List.mem_map.1 he; exact cI_len x) ?_ ?_
  ·intro he
   have he : a0 = [] := by simpa using he
   subst he
   repeat (first | refine chk.ga ?_ | simp -dsimp)
   refine ALoop.goU ⟨[(0, .arr []), (1, .lit (.int .i64 k0)), (5, .lit (.int .i64 0))], []⟩ (Gh.to3 (by simp) (by simp -dsimp)) ?_
   refine ALoopU.enter ?_
   repeat (first | refine chk.ga ?_ | simp -dsimp)
   refine Leave.go _ (Gh.refl _) ?_
   repeat (first | refine chk.ga ?_ | simp -dsimp)
   all_goals (try simp [mkI])
  ·intro hne rows us e1 e2 e3 e4
   have H : RW 1 a0.length rows us := ⟨by simpa using e2, e3, e1⟩
   repeat (first | refine chk.ga ?_ | simp -dsimp)
   refine ALoop.goU ⟨[(0, .own 0 a0.length), (1, .lit (.int .i64 k0)), (5, .lit (.int .i64 ((0 : Nat) : Int)))], [.elems 1 rows, .pack (List.flatten (List.map cI ([] ++ a0))) us]⟩ (Gh.to3 (by simp) (by simp -dsimp [RW.closed H])) ?_
   refine loop a0 [] k0 0 a0.length rows us hz0 rfl (by simp) H _ rfl _ ?_
   intro R U hR
   repeat (first | refine chk.ga ?_ | simp -dsimp)
   exact ⟨rfl, R, U, rfl, ⟨1, by simp⟩, hR.2.2, by rw [hR.1]; simp [mkI_len], fun x hx => by obtain ⟨y, _, rfl⟩ := List.mem_map.1 hx; exact cI_len y⟩

theorem C.laws_markIntS (B : Nat) (hB1 : 67108864 ≤ B) (hB2 : B ≤ 9223372036854775807) (a : List Int) (k : Int) (v : List Int × Int) (hF : F.laws_markIntS a k = some v) : MCall Try.prog B 25 (List.map cI a) [.int .i64 k] (List.map cI v.1) (.int .i64 v.2) := by
 obtain rfl := Option.some.inj hF
 exact (CM.laws_markIntS B hB1 hB2 (SizeOf.sizeOf a + 1)) a k (Nat.lt_succ_self _)

set_option maxRecDepth 100000 in
set_option maxHeartbeats 4000000 in
theorem CM.laws_markPathBindS (B : Nat) (hB1 : 67108864 ≤ B) (hB2 : B ≤ 9223372036854775807) : ∀ m : Nat, (∀ (a : List Vl.PathBind) (k : Int), SizeOf.sizeOf a < m → MCall Try.prog B 59 (List.map Vl.PathBind.c a) [.int .i64 k] (List.map Vl.PathBind.c (Vl.PathBind.mkL a k).1) (.int .i64 (Vl.PathBind.mkL a k).2)) := by
 intro m
 induction m with
 | zero => exact fun a k h => absurd h (Nat.not_lt_zero _)
 | succ m ih =>
  intro a0 k0 hm
  have hz0 : ∀ x, x ∈ a0 → SizeOf.sizeOf x < m := fun x hx => by have := List.sizeOf_lt_of_mem hx; omega
  have loop : ∀ (rest D : List Vl.PathBind) (k : Int) (i n : Nat) (rows : List (List AV)) (us : List Go.Value), (∀ x, x ∈ rest → SizeOf.sizeOf x < m) → i = D.length → n = i + rest.length → RW 2 n rows us →
    ∀ (c : Code), navO [1, 0, 1, 0, 0] (bodyOf Try.f59) = some c → ∀ (Q : Exit → ASt → Prop),
    (∀ (R : List (List AV)) (U : List Go.Value), RW 2 n R U → Q (.exit 0) ⟨[(1, .lit (.int .i64 (Vl.PathBind.mkL rest k).2))], [.elems 2 R, .pack (List.flatten (List.map Vl.PathBind.c (D ++ (Vl.PathBind.mkL rest k).1))) U]⟩) →
    ALoopU Try.prog B 2 27 (hold c .mk) ⟨[(0, .own 0 n), (1, .lit (.int .i64 k)), (5, .lit (.int .i64 (i : Int)))], [.elems 2 rows, .pack (List.flatten (List.map Vl.PathBind.c (D ++ rest))) us]⟩ (hold Q .mk) := by
   intro rest
   induction rest with
   | nil =>
    intro D k i n rows us hz hi hn H c hc Q hq
    obtain rfl : c = _ := navEq hc rfl
    have hn' : n = i := by simpa using hn
    subst hn'
    refine ALoopU.enter ?_
    repeat (first | refine chk.ga ?_ | simp -dsimp [RW.len H])
    refine Leave.go ⟨[(1, .lit (.int .i64 k))], [.elems 2 rows, .pack (List.flatten (List.map Vl.PathBind.c D)) us]⟩ (Gh.to3 (by simp) (by simp -dsimp [RW.closed H])) ?_
    simpa [Vl.PathBind.mkL] using hq rows us H
   | cons x r ihr =>
    intro D k i n rows us hz hi hn H c hc Q hq
    refine ALoopU.opnAt1 1 (List.flatten (List.map Vl.PathBind.c D)) (Vl.PathBind.c x) (List.flatten (List.map Vl.PathBind.c r)) rfl (by simp) (by simp) ?_
    intro h1 vs UA UC o_h1 hlt hU hlA
    have hv : vs = [.int .i64 x.var, h1] := by apply lits_inj; rw [← hlt]; simp
    subst hv hU
    have hUA : UA.length = i * 2 := by rw [hlA, flatc_len Vl.PathBind.c_len, hi]
    have hin : i < n := by simp at hn; omega
    have hrow : rows[i]? = some [.lit (.int .i64 x.var), .lit h1] := by simpa using H.at hin rfl hUA rfl
    have hne : ¬ rows = [] := by intro e; rw [e] at hrow; simp at hrow
    have hrl := RW.len H
    have hrow' : ∀ (h : i < rows.length), rows[i] = [.lit (.int .i64 x.var), .lit h1] := fun h => by rw [List.getElem?_eq_getElem h] at hrow; exact Option.some.inj hrow
    have hset : ∀ a, (rows.set i a)[i]? = some a := fun a => List.getElem?_set_self (by omega)
    clear hlt
    refine ALoopU.know fun hk hs => ?_
    have d0 := hs 0 _ rfl
    simp -dsimp [Blk.bnd] at d0
    clear hk hs
    obtain rfl : c = _ := navEq hc rfl
    have w1 : IntKind.i64.wrap ((i : Int) + 1) = (i : Int) + 1 := wrap_in (by omega) (by omega)
    refine ALoopU.enter ?_
    repeat (first | refine chk.ga ?_ | simp -dsimp [hne, hrow, hrow', hset, hrl, hin, w1, List.set_set, o_h1])
    refine (C.laws_markIntS B hB1 hB2 x.path (IntKind.i64.wrap (k + 1)) _ rfl).go 2 rfl (by simp) ?_
    repeat (first | refine chk.ga ?_ | simp -dsimp [hne, hrow, hrow', hset, hrl, hin, w1, List.set_set, o_h1])
    refine Again.go ⟨[(0, .own 0 n), (1, .lit (.int .i64 ((mkI x.path (IntKind.i64.wrap (k + 1))).2))), (5, .lit (.int .i64 ((i + 1 : Nat) : Int)))], [.elems 2 (rows.set i [.lit (.int .i64 k), .lit h1]), .pack (List.flatten (List.map Vl.PathBind.c ((D ++ [(⟨k, (mkI x.path (IntKind.i64.wrap (k + 1))).1⟩ : Vl.PathBind)]) ++ r))) (UA ++ ([.int .i64 k, h1] ++ UC))]⟩
     (by refine Gh.trans (Gh.setAt 1 [2] (XA := List.flatten (List.map Vl.PathBind.c D)) (old := [.lit (.int .i64 x.var), .lit h1]) (XC := List.flatten (List.map Vl.PathBind.c r)) (UA := UA) (uo := [.int .i64 x.var, h1]) (UC := UC) (by exact rfl) (by simp) (by simp) hlA rfl (.lit (.int .i64 k) (.pk 2 (by exact rfl) .nil)) (by decide)) ?_; exact Gh.to3 (by simp) (by simp -dsimp [RW.closed H])) ?_
    have he : Vl.PathBind.mkL (x :: r) k = ((⟨k, (mkI x.path (IntKind.i64.wrap (k + 1))).1⟩ : Vl.PathBind) :: (Vl.PathBind.mkL r ((mkI x.path (IntKind.i64.wrap (k + 1))).2)).1, (Vl.PathBind.mkL r ((mkI x.path (IntKind.i64.wrap (k + 1))).2)).2) := by (first | rfl | (cases x; simp [Vl.PathBind.mkL, Vl.PathBind.mkE]))
    rw [he] at hq
    refine ihr (D ++ [(⟨k, (mkI x.path (IntKind.i64.wrap (k + 1))).1⟩ : Vl.PathBind)]) _ (i + 1) n _ _ (fun y hy => hz y (List.mem_cons_of_mem _ hy)) (by simp [hi]) (by simp at hn; omega) (by simpa using H.setAt hin hUA rfl [.int .i64 k, h1] rfl) _ rfl _ fun R U hR => ?_
    simpa using hq R U hR
  refine MCall.enter 2 Try.func59 (by kernel_rfl) rfl Try.ntmps59 (by simp) (by simp [Vl.PathBind.mkL_len]) (fun e he => by obtain ⟨x, _, rfl⟩ := List.mem_map.1 he; exact Vl.PathBind.c_len x) ?_ ?_
  ·intro he
   have he : a0 = [] := by simpa using he
   subst he
   repeat (first | refine chk.ga ?_ | simp -dsimp)
   refine ALoop.goU ⟨[(0, .arr []), (1, .lit (.int .i64 k0)), (5, .lit (.int .i64 0))], []⟩ (Gh.to3 (by simp) (by simp -dsimp)) ?_
   refine ALoopU.enter ?_
   repeat (first | refine chk.ga ?_ | simp -dsimp)
   refine Leave.go _ (Gh.refl _) ?_
   repeat (first | refine chk.ga ?_ | simp -dsimp)
   all_goals (try simp [Vl.PathBind.mkL])
  ·intro hne rows us e1 e2 e3 e4
   have H : RW 2 a0.length rows us := ⟨by simpa using e2, e3, e1⟩
   repeat (first | refine chk.ga ?_ | simp -dsimp)
   refine ALoop.goU ⟨[(0, .own 0 a0.length), (1, .lit (.int .i64 k0)), (5, .lit (.int .i64 ((0 : Nat) : Int)))], [.elems 2 rows, .pack (List.flatten (List.map Vl.PathBind.c ([] ++ a0))) us]⟩ (Gh.to3 (by simp) (by simp -dsimp [RW.closed H])) ?_
   refine loop a0 [] k0 0 a0.length rows us hz0 rfl (by simp) H _ rfl _ ?_
   intro R U hR
   repeat (first | refine chk.ga ?_ | simp -dsimp)
   exact ⟨rfl, R, U, rfl, ⟨1, by simp⟩, hR.2.2, by rw [hR.1]; simp [Vl.PathBind.mkL_len], fun x hx => by obtain ⟨y, _, rfl⟩ := List.mem_map.1 hx; exact Vl.PathBind.c_len y⟩

theorem C.laws_markPathBindS (B : Nat) (hB1 : 67108864 ≤ B) (hB2 : B ≤ 9223372036854775807) (a : List Vl.PathBind) (k : Int) (v : List Vl.PathBind × Int) (hF : F.laws_markPathBindS a k = some v) : MCall Try.prog B 59 (List.map Vl.PathBind.c a) [.int .i64 k] (List.map Vl.PathBind.c v.1) (.int .i64 v.2) := by
 obtain rfl := Option.some.inj hF
 exact (CM.laws_markPathBindS B hB1 hB2 (SizeOf.sizeOf a + 1)) a k (Nat.lt_succ_self _)

end Go.Proofs.Ytoacjahdkkdffaa
