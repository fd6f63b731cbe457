/- The contracts: the code computes the functions (printed by gen.py). -/
import Derived.Test.YtfalapoojmlbpaaProg
import Derived.Test.YtfalapoojmlbpaaExactCallsOfF
namespace Go.Proofs.Ytfalapoojmlbpaa
open Go Go.Proofs Go.Vl
set_option linter.unusedSimpArgs false
set_option linter.unusedVariables false

attribute [local irreducible] ECallA aL AMake MLoop AgainM LeaveM awpM aopsM MutCall BCall chk abr ACall ALoop ALoopU ADraw Again Leave PCallA PCall Post awp aops PureCall hold

theorem follows : Try.prog.follows .mixedOrders = true := by kernel_rfl
@[simp] theorem ti2 : tiOf Try.prog 2 = some ⟨.word, 1, [.int .i64 0]⟩ := by kernel_rfl
@[simp] theorem ti3 : tiOf Try.prog 3 = some ⟨.word, 1, [.int .i64 0]⟩ := by kernel_rfl
@[simp] theorem ti4 : tiOf Try.prog 4 = some ⟨.word, 1, [.bool false]⟩ := by kernel_rfl
@[simp] theorem ti22 : tiOf Try.prog 22 = some ⟨.slice 4 48 [.int .i64 0, .int .i64 0, .int .i64 0, .slice none 0 0], 1, [.slice none 0 0]⟩ := by kernel_rfl
@[simp] theorem sl22 : isSl Try.prog 22 = true := by kernel_rfl
@[simp] theorem ti24 : tiOf Try.prog 24 = some ⟨.struct [(0, 1), (1, 1), (2, 1), (3, 1)], 4, [.int .i64 0, .int .i64 0, .int .i64 0, .slice none 0 0]⟩ := by kernel_rfl
@[simp] theorem ti27 : tiOf Try.prog 27 = some ⟨.slice 4 48 [.int .i64 0, .int .i64 0, .int .i64 0, .slice none 0 0], 1, [.slice none 0 0]⟩ := by kernel_rfl
@[simp] theorem sl27 : isSl Try.prog 27 = true := by kernel_rfl
@[simp] theorem ti29 : tiOf Try.prog 29 = some ⟨.struct [(0, 1), (1, 1), (2, 1), (3, 1)], 4, [.int .i64 0, .int .i64 0, .int .i64 0, .slice none 0 0]⟩ := by kernel_rfl
@[simp] theorem ti32 : tiOf Try.prog 32 = some ⟨.slice 1 8 [.int .i64 0], 1, [.slice none 0 0]⟩ := by kernel_rfl
@[simp] theorem sl32 : isSl Try.prog 32 = true := by kernel_rfl
@[simp] theorem ti76 : tiOf Try.prog 76 = some ⟨.slice 1 1 [.bool false], 1, [.slice none 0 0]⟩ := by kernel_rfl
@[simp] theorem sl76 : isSl Try.prog 76 = true := by kernel_rfl
@[simp] theorem ti78 : tiOf Try.prog 78 = some ⟨.array 4 1, 4, [.bool false, .bool false, .bool false, .bool false]⟩ := by kernel_rfl
attribute [simp] Try.underlying2 Try.underlying3 Try.underlying4 Try.underlying22 Try.underlying27 Try.underlying32 Try.underlying76 Try.underlying78 Try.results4 Try.results8 Try.results10 Try.results12 Try.results13 Try.results14 Try.results15 Try.results16 Try.results17 Try.results18 Try.results36 Try.results37 Try.results39 Try.results40 Try.results41 Try.results42 Try.results52

set_option maxRecDepth 100000 in
set_option maxHeartbeats 4000000 in
theorem CC.laws_szExpr (B : Nat) (hB1 : 67108864 ≤ B) (hB2 : B ≤ 9223372036854775807)  : (∀ (a : Vl.Expr) (left' : Int) (r : Int), F.laws_szExpr a left' = some r → PureCall Try.prog B 8 [.agg [.lit (.int .i64 a.op), .lit (.int .i64 a.n), .lit (.int .i64 a.ctor), .arr (List.map Vl.Expr.c a.kids)], .lit (.int .i64 left')] (.lit (.int .i64 r))) ∧
  (∀ (a : List Vl.Expr) (left' : Int) (r : Int), F.laws_szExprS a left' = some r → PureCall Try.prog B 36 [.arr (List.map Vl.Expr.c a), .lit (.int .i64 left')] (.lit (.int .i64 r))) ∧
  (∀ (a : List Vl.Expr) (left'3 : Int) (i : Nat) (o : Lo Int Int), F.laws_szExprS_l1 a left'3 i = some o → ∀ (c : Code), navO [1, 1, 1, 0, 1, 0, 0] (bodyOf Try.f36) = some c → ∀ (Q : Exit → ASt → Prop), o.post (fun r => ∀ st, Post Try.prog Try.f36 (fun r' _ => r'.le (.lit (.int .i64 r))) .ret st → Q .ret st) (fun s => Q (.exit 0) ⟨[(1, .lit (.int .i64 s))], []⟩) → ALoopU Try.prog B 0 27 (hold c .mk) ⟨[(0, .arr (List.map Vl.Expr.c a)), (1, .lit (.int .i64 left'3)), (5, .lit (.int .i64 (i : Int)))], []⟩ (hold Q .mk)) := by
 refine F.laws_szExpr.mutual_partial_correctness 
  (fun a left' r => PureCall Try.prog B 8 [.agg [.lit (.int .i64 a.op), .lit (.int .i64 a.n), .lit (.int .i64 a.ctor), .arr (List.map Vl.Expr.c a.kids)], .lit (.int .i64 left')] (.lit (.int .i64 r)))
  (fun a left' r => PureCall Try.prog B 36 [.arr (List.map Vl.Expr.c a), .lit (.int .i64 left')] (.lit (.int .i64 r)))
  (fun a left'3 i o => ∀ (c : Code), navO [1, 1, 1, 0, 1, 0, 0] (bodyOf Try.f36) = some c → ∀ (Q : Exit → ASt → Prop), o.post (fun r => ∀ st, Post Try.prog Try.f36 (fun r' _ => r'.le (.lit (.int .i64 r))) .ret st → Q .ret st) (fun s => Q (.exit 0) ⟨[(1, .lit (.int .i64 s))], []⟩) → ALoopU Try.prog B 0 27 (hold c .mk) ⟨[(0, .arr (List.map Vl.Expr.c a)), (1, .lit (.int .i64 left'3)), (5, .lit (.int .i64 (i : Int)))], []⟩ (hold Q .mk))
  ?_ ?_ ?_
 ·intro _f_laws_szExprS ih_laws_szExprS a left' r hF
  refine PureCall.enterLe Try.func8 (by kernel_rfl) rfl Try.ntmps8 (by simp) (by simp) ?_
  repeat (first | refine chk.ga ?_ | simp -dsimp)
  have hF := ob hF; obtain ⟨v, e1, hF⟩ := hF
  refine ((ih_laws_szExprS a.kids left' v e1)).goW (by simp) (by simp) ?_
  repeat (first | refine chk.ga ?_ | simp -dsimp)
  refine abr.split (fun h2 => ?_) (fun h2 => ?_)
  ·have q3 : (v < 0) := auq h2
   rw [if_pos q3] at hF
   cases hF
   repeat (first | refine chk.ga ?_ | simp -dsimp [h2])
   all_goals (try omega)
  ·have q3 : ¬ (v < 0) := auq h2
   rw [if_neg q3] at hF
   cases hF
   repeat (first | refine chk.ga ?_ | simp -dsimp [h2, q3])
   all_goals (try omega)
 ·intro _f_laws_szExprS_l1 ih_laws_szExprS_l1 a left' r hF
  refine PureCall.enterLe Try.func36 (by kernel_rfl) rfl Try.ntmps36 (by simp) (by simp) ?_
  repeat (first | refine chk.ga ?_ | simp -dsimp)
  refine abr.split (fun h1 => ?_) (fun h1 => ?_)
  ·have q2 : (IntKind.i64.wrap (left' - (a.length : Int)) < 0) := auq h1
   rw [if_pos q2] at hF
   cases hF
   repeat (first | refine chk.ga ?_ | simp -dsimp [h1])
   all_goals (try omega)
  ·have q2 : ¬ (IntKind.i64.wrap (left' - (a.length : Int)) < 0) := auq h1
   rw [if_neg q2] at hF
   repeat (first | refine chk.ga ?_ | simp -dsimp [h1, q2])
   have hF := ob hF; obtain ⟨o', ho12, hF⟩ := hF
   refine ALoop.goU ⟨[(0, .arr (List.map Vl.Expr.c a)), (1, .lit (.int .i64 (IntKind.i64.wrap (left' - (a.length : Int))))), (5, .lit (.int .i64 (0 : Int)))], []⟩ (Gh.to3 (by simp) (by first | simp -dsimp [h1, q2]; done | simp_all)) ?_
   refine (ih_laws_szExprS_l1 a (IntKind.i64.wrap (left' - (a.length : Int))) 0 o' ho12) _ rfl _ ?_
   rcases o' with r0 | sx
   ·dsimp only at hF
    cases hF
    intro st h
    simpa using h
   ·dsimp only at hF
    cases hF
    repeat (first | refine chk.ga ?_ | simp -dsimp)
    all_goals (try omega)
 ·intro _f_laws_szExpr _f_laws_szExprS_l1 ih_laws_szExpr ih_laws_szExprS_l1 a left'3 i o hF
  intro c hc Q hq
  obtain rfl : c = _ := navEq hc rfl
  refine ALoopU.know fun hk hs => ?_
  have b0 := hk 0
  simp -dsimp at b0
  clear hk hs
  refine ALoopU.enter ?_
  repeat (first | refine chk.ga ?_ | simp -dsimp)
  refine abr.split (fun h4 => ?_) (fun h4 => ?_)
  ·have q5 : (i < a.length) := auq h4
   have z6 : ((i : Int) < (a.length : Int)) := auz
   rw [if_pos q5] at hF
   have hF := ob hF; obtain ⟨x, e7, hF⟩ := hF
   have le7 := lt_of_get e7
   repeat (first | refine chk.ga ?_ | simp -dsimp [h4, z6, ↓e7])
   have hF := ob hF; obtain ⟨v, e8, hF⟩ := hF
   refine ((ih_laws_szExpr x left'3 v e8)).goW (by first | simp [h4, z6, ↓e7]; done | simp_all) (by simp) ?_
   repeat (first | refine chk.ga ?_ | simp -dsimp [h4, z6, ↓e7])
   refine abr.split (fun h9 => ?_) (fun h9 => ?_)
   ·have q10 : (v < 0) := auq h9
    rw [if_pos q10] at hF
    cases hF
    repeat (first | refine chk.ga ?_ | simp -dsimp [h4, z6, ↓e7, h9])
    refine Leave.go _ (Gh.refl _) (hq _ ?_)
    repeat (first | refine chk.ga ?_ | simp -dsimp [h4, z6, ↓e7, h9])
   ·have q10 : ¬ (v < 0) := auq h9
    rw [if_neg q10] at hF
    have w11 : IntKind.i64.wrap ((i : Int) + 1) = (i : Int) + 1 := wrap_in (by omega) (by omega)
    repeat (first | refine chk.ga ?_ | simp -dsimp [h4, z6, ↓e7, h9, q10, w11])
    refine Again.go ⟨[(0, .arr (List.map Vl.Expr.c a)), (1, .lit (.int .i64 v)), (5, .lit (.int .i64 ((i + 1) : Int)))], []⟩ (Gh.to3 (by simp) (by first | simp -dsimp [h4, z6, ↓e7, h9, q10, w11]; done | simp_all)) ?_
    exact (ih_laws_szExprS_l1 a v (i + 1) o hF) _ rfl _ hq
  ·have q5 : ¬ (i < a.length) := auq h4
   have z6 : ¬ ((i : Int) < (a.length : Int)) := auz
   rw [if_neg q5] at hF
   cases hF
   repeat (first | refine chk.ga ?_ | simp -dsimp [h4, q5, z6])
   refine Leave.go ⟨[(1, .lit (.int .i64 left'3))], []⟩ (Gh.to3 (by simp) (by first | simp -dsimp [h4, q5, z6]; done | simp_all)) ?_
   exact hq

theorem C.laws_szExpr (B : Nat) (hB1 : 67108864 ≤ B) (hB2 : B ≤ 9223372036854775807) (a : Vl.Expr) (left' : Int) (r : Int) (hF : F.laws_szExpr a left' = some r) : PureCall Try.prog B 8 [.agg [.lit (.int .i64 a.op), .lit (.int .i64 a.n), .lit (.int .i64 a.ctor), .arr (List.map Vl.Expr.c a.kids)], .lit (.int .i64 left')] (.lit (.int .i64 r)) :=
 (CC.laws_szExpr B hB1 hB2 ).1 a left' r hF

theorem C.laws_szExprS (B : Nat) (hB1 : 67108864 ≤ B) (hB2 : B ≤ 9223372036854775807) (a : List Vl.Expr) (left' : Int) (r : Int) (hF : F.laws_szExprS a left' = some r) : PureCall Try.prog B 36 [.arr (List.map Vl.Expr.c a), .lit (.int .i64 left')] (.lit (.int .i64 r)) :=
 (CC.laws_szExpr B hB1 hB2 ).2.1 a left' r hF

theorem C.laws_szExprS_l1 (B : Nat) (hB1 : 67108864 ≤ B) (hB2 : B ≤ 9223372036854775807) (a : List Vl.Expr) (left'3 : Int) (i : Nat) (o : Lo Int Int) (hF : F.laws_szExprS_l1 a left'3 i = some o) : ∀ (c : Code), navO [1, 1, 1, 0, 1, 0, 0] (bodyOf Try.f36) = some c → ∀ (Q : Exit → ASt → Prop), o.post (fun r => ∀ st, Post Try.prog Try.f36 (fun r' _ => r'.le (.lit (.int .i64 r))) .ret st → Q .ret st) (fun s => Q (.exit 0) ⟨[(1, .lit (.int .i64 s))], []⟩) → ALoopU Try.prog B 0 27 (hold c .mk) ⟨[(0, .arr (List.map Vl.Expr.c a)), (1, .lit (.int .i64 left'3)), (5, .lit (.int .i64 (i : Int)))], []⟩ (hold Q .mk) :=
 (CC.laws_szExpr B hB1 hB2 ).2.2 a left'3 i o hF

set_option maxRecDepth 100000 in
set_option maxHeartbeats 4000000 in
theorem CC.laws_toExpr (B : Nat) (hB1 : 67108864 ≤ B) (hB2 : B ≤ 9223372036854775807)  : (∀ (a : Vl.Expr) (r : Vl.Expr), F.laws_toExpr a = some r → PureCall Try.prog B 10 [.agg [.lit (.int .i64 a.op), .lit (.int .i64 a.n), .lit (.int .i64 a.ctor), .arr (List.map Vl.Expr.c a.kids)]] (.agg [.lit (.int .i64 r.op), .lit (.int .i64 r.n), .lit (.int .i64 r.ctor), .arr (List.map Vl.Expr.c r.kids)])) ∧
  (∀ (a : List Vl.Expr) (r : List Vl.Expr), F.laws_toExprS a = some r → PureCall Try.prog B 37 [.arr (List.map Vl.Expr.c a)] (.arr (List.map Vl.Expr.c r))) ∧
  (∀ (a : List Vl.Expr) (out : List Vl.Expr) (i : Nat) (o : List Vl.Expr), F.laws_toExprS_l1 a out i = some o → ∀ (c : Code), navO [1, 1, 0, 1, 0, 0] (bodyOf Try.f37) = some c → ∀ (Q : Exit → ASt → Prop), (Q (.exit 0) ⟨[(3, .own 0 (List.length (α := Vl.Expr) o))], [.elems 4 (List.map Vl.Expr.c o)]⟩) → ALoopU Try.prog B 0 23 (hold c .mk) ⟨[(0, .arr (List.map Vl.Expr.c a)), (3, .own 0 (List.length (α := Vl.Expr) out)), (4, .lit (.int .i64 (i : Int)))], [.elems 4 (List.map Vl.Expr.c out)]⟩ (hold Q .mk)) := by
 refine F.laws_toExpr.mutual_partial_correctness 
  (fun a r => PureCall Try.prog B 10 [.agg [.lit (.int .i64 a.op), .lit (.int .i64 a.n), .lit (.int .i64 a.ctor), .arr (List.map Vl.Expr.c a.kids)]] (.agg [.lit (.int .i64 r.op), .lit (.int .i64 r.n), .lit (.int .i64 r.ctor), .arr (List.map Vl.Expr.c r.kids)]))
  (fun a r => PureCall Try.prog B 37 [.arr (List.map Vl.Expr.c a)] (.arr (List.map Vl.Expr.c r)))
  (fun a out i o => ∀ (c : Code), navO [1, 1, 0, 1, 0, 0] (bodyOf Try.f37) = some c → ∀ (Q : Exit → ASt → Prop), (Q (.exit 0) ⟨[(3, .own 0 (List.length (α := Vl.Expr) o))], [.elems 4 (List.map Vl.Expr.c o)]⟩) → ALoopU Try.prog B 0 23 (hold c .mk) ⟨[(0, .arr (List.map Vl.Expr.c a)), (3, .own 0 (List.length (α := Vl.Expr) out)), (4, .lit (.int .i64 (i : Int)))], [.elems 4 (List.map Vl.Expr.c out)]⟩ (hold Q .mk))
  ?_ ?_ ?_
 ·intro _f_laws_toExprS ih_laws_toExprS a r hF
  refine PureCall.enterLe Try.func10 (by kernel_rfl) rfl Try.ntmps10 (by simp) (by simp) ?_
  repeat (first | refine chk.ga ?_ | simp -dsimp)
  have hF := ob hF; obtain ⟨v, e1, hF⟩ := hF
  refine ((ih_laws_toExprS a.kids v e1)).goW (by simp) (by simp) ?_
  cases hF
  repeat (first | refine chk.ga ?_ | simp -dsimp)
  all_goals (try omega)
 ·intro _f_laws_toExprS_l1 ih_laws_toExprS_l1 a r hF
  refine PureCall.enterLe Try.func37 (by kernel_rfl) rfl Try.ntmps37 (by simp) (by simp) ?_
  have hF := oc hF; obtain ⟨c1, hF⟩ := hF
  repeat (first | refine chk.ga ?_ | simp -dsimp)
  have hF := ob hF; obtain ⟨o', ho10, hF⟩ := hF
  refine ALoop.goU ⟨[(0, .arr (List.map Vl.Expr.c a)), (3, .own 0 (List.length (α := Vl.Expr) (List.replicate a.length Vl.Expr.z))), (4, .lit (.int .i64 (0 : Int)))], [.elems 4 (List.map Vl.Expr.c (List.replicate a.length Vl.Expr.z))]⟩ (Gh.to3 (by simp) (by simp -dsimp)) ?_
  refine (ih_laws_toExprS_l1 a (List.replicate a.length Vl.Expr.z) 0 o' ho10) _ rfl _ ?_
  cases hF
  repeat (first | refine chk.ga ?_ | simp -dsimp)
  all_goals (try omega)
 ·intro _f_laws_toExpr _f_laws_toExprS_l1 ih_laws_toExpr ih_laws_toExprS_l1 a out i o hF
  intro c hc Q hq
  obtain rfl : c = _ := navEq hc rfl
  refine ALoopU.know fun hk hs => ?_
  have b0 := hk 0
  simp -dsimp at b0
  have d0 := hs 0 _ rfl
  simp -dsimp [Blk.bnd] at d0
  clear hk hs
  refine ALoopU.enter ?_
  repeat (first | refine chk.ga ?_ | simp -dsimp)
  refine abr.split (fun h2 => ?_) (fun h2 => ?_)
  ·have q3 : (i < a.length) := auq h2
   have z4 : ((i : Int) < (a.length : Int)) := auz
   rw [if_pos q3] at hF
   have hF := ob hF; obtain ⟨x, e5, hF⟩ := hF
   have le5 := lt_of_get e5
   repeat (first | refine chk.ga ?_ | simp -dsimp [h2, z4, ↓e5])
   have hF := ob hF; obtain ⟨v, e6, hF⟩ := hF
   refine ((ih_laws_toExpr x v e6)).goW (by first | simp [h2, z4, ↓e5]; done | simp_all) (by simp) ?_
   have hF := ob hF; obtain ⟨x7, e8, hF⟩ := hF
   have le8 := lt_of_get e8
   have w9 : IntKind.i64.wrap ((i : Int) + 1) = (i : Int) + 1 := wrap_in (by omega) (by omega)
   repeat (first | refine chk.ga ?_ | simp -dsimp [h2, z4, ↓e5, ↓e8, w9])
   refine Again.go ⟨[(0, .arr (List.map Vl.Expr.c a)), (3, .own 0 (List.length (α := Vl.Expr) (out.set i v))), (4, .lit (.int .i64 ((i + 1) : Int)))], [.elems 4 (List.map Vl.Expr.c (out.set i v))]⟩ (Gh.to3 (by simp) (by first | simp -dsimp [h2, z4, ↓e5, ↓e8, w9]; done | simp_all)) ?_
   exact (ih_laws_toExprS_l1 a (out.set i v) (i + 1) o hF) _ rfl _ hq
  ·have q3 : ¬ (i < a.length) := auq h2
   have z4 : ¬ ((i : Int) < (a.length : Int)) := auz
   rw [if_neg q3] at hF
   cases hF
   repeat (first | refine chk.ga ?_ | simp -dsimp [h2, q3, z4])
   refine Leave.go ⟨[(3, .own 0 (List.length (α := Vl.Expr) out))], [.elems 4 (List.map Vl.Expr.c out)]⟩ (Gh.to3 (by simp) (by first | simp -dsimp [h2, q3, z4]; done | simp_all)) ?_
   exact hq

theorem C.laws_toExpr (B : Nat) (hB1 : 67108864 ≤ B) (hB2 : B ≤ 9223372036854775807) (a : Vl.Expr) (r : Vl.Expr) (hF : F.laws_toExpr a = some r) : PureCall Try.prog B 10 [.agg [.lit (.int .i64 a.op), .lit (.int .i64 a.n), .lit (.int .i64 a.ctor), .arr (List.map Vl.Expr.c a.kids)]] (.agg [.lit (.int .i64 r.op), .lit (.int .i64 r.n), .lit (.int .i64 r.ctor), .arr (List.map Vl.Expr.c r.kids)]) :=
 (CC.laws_toExpr B hB1 hB2 ).1 a r hF

theorem C.laws_toExprS (B : Nat) (hB1 : 67108864 ≤ B) (hB2 : B ≤ 9223372036854775807) (a : List Vl.Expr) (r : List Vl.Expr) (hF : F.laws_toExprS a = some r) : PureCall Try.prog B 37 [.arr (List.map Vl.Expr.c a)] (.arr (List.map Vl.Expr.c r)) :=
 (CC.laws_toExpr B hB1 hB2 ).2.1 a r hF

theorem C.laws_toExprS_l1 (B : Nat) (hB1 : 67108864 ≤ B) (hB2 : B ≤ 9223372036854775807) (a : List Vl.Expr) (out : List Vl.Expr) (i : Nat) (o : List Vl.Expr) (hF : F.laws_toExprS_l1 a out i = some o) : ∀ (c : Code), navO [1, 1, 0, 1, 0, 0] (bodyOf Try.f37) = some c → ∀ (Q : Exit → ASt → Prop), (Q (.exit 0) ⟨[(3, .own 0 (List.length (α := Vl.Expr) o))], [.elems 4 (List.map Vl.Expr.c o)]⟩) → ALoopU Try.prog B 0 23 (hold c .mk) ⟨[(0, .arr (List.map Vl.Expr.c a)), (3, .own 0 (List.length (α := Vl.Expr) out)), (4, .lit (.int .i64 (i : Int)))], [.elems 4 (List.map Vl.Expr.c out)]⟩ (hold Q .mk) :=
 (CC.laws_toExpr B hB1 hB2 ).2.2 a out i o hF

set_option maxRecDepth 100000 in
set_option maxHeartbeats 4000000 in
theorem CC.spec_l12Calls (B : Nat) (hB1 : 67108864 ≤ B) (hB2 : B ≤ 9223372036854775807)  : (∀ (flags : List Bool) (e : Vl.Expr) (r : List Bool), F.spec_l12Calls flags e = some r → BCall Try.prog B 40 [.elems 1 (List.map cB flags)] [.own 0 (List.length (α := Bool) flags), .agg [.lit (.int .i64 e.op), .lit (.int .i64 e.n), .lit (.int .i64 e.ctor), .arr (List.map Vl.Expr.c e.kids)]] (.own 0 (List.length (α := Bool) r)) [.elems 1 (List.map cB r)]) ∧
  (∀ (e : Vl.Expr) (flags41 : List Bool) (i42 : Nat) (o : List Bool), F.spec_l12Calls_l4 e flags41 i42 = some o → ∀ (c : Code), navO [1, 1, 0, 1, 0, 0] (bodyOf Try.f40) = some c → ∀ (Q : Exit → ASt → Prop), (Q (.exit 0) ⟨[(0, .own 0 (List.length (α := Bool) o))], [.elems 1 (List.map cB o)]⟩) → ALoopU Try.prog B 1 40 (hold c .mk) ⟨[(0, .own 0 (List.length (α := Bool) flags41)), (3, .ptr 1 0), (5, .lit (.int .i64 (i42 : Int)))], [.elems 1 (List.map cB flags41), .cells [.lit (.int .i64 e.op), .lit (.int .i64 e.n), .lit (.int .i64 e.ctor), .arr (List.map Vl.Expr.c e.kids)]]⟩ (hold Q .mk)) ∧
  (∀ (e : Vl.Expr) (flags29 : List Bool) (i30 : Nat) (o : List Bool), F.spec_l12Calls_l3 e flags29 i30 = some o → ∀ (c : Code), navO [1, 1, 0, 1, 0, 0] (bodyOf Try.f40) = some c → ∀ (Q : Exit → ASt → Prop), (Q (.exit 0) ⟨[(0, .own 0 (List.length (α := Bool) o))], [.elems 1 (List.map cB o)]⟩) → ALoopU Try.prog B 1 40 (hold c .mk) ⟨[(0, .own 0 (List.length (α := Bool) flags29)), (3, .ptr 1 0), (5, .lit (.int .i64 (i30 : Int)))], [.elems 1 (List.map cB flags29), .cells [.lit (.int .i64 e.op), .lit (.int .i64 e.n), .lit (.int .i64 e.ctor), .arr (List.map Vl.Expr.c e.kids)]]⟩ (hold Q .mk)) ∧
  (∀ (e : Vl.Expr) (flags17 : List Bool) (i18 : Nat) (o : List Bool), F.spec_l12Calls_l2 e flags17 i18 = some o → ∀ (c : Code), navO [1, 1, 0, 1, 0, 0] (bodyOf Try.f40) = some c → ∀ (Q : Exit → ASt → Prop), (Q (.exit 0) ⟨[(0, .own 0 (List.length (α := Bool) o))], [.elems 1 (List.map cB o)]⟩) → ALoopU Try.prog B 1 40 (hold c .mk) ⟨[(0, .own 0 (List.length (α := Bool) flags17)), (3, .ptr 1 0), (5, .lit (.int .i64 (i18 : Int)))], [.elems 1 (List.map cB flags17), .cells [.lit (.int .i64 e.op), .lit (.int .i64 e.n), .lit (.int .i64 e.ctor), .arr (List.map Vl.Expr.c e.kids)]]⟩ (hold Q .mk)) ∧
  (∀ (e : Vl.Expr) (flags8 : List Bool) (i : Nat) (o : List Bool), F.spec_l12Calls_l1 e flags8 i = some o → ∀ (c : Code), navO [1, 1, 0, 1, 0, 0] (bodyOf Try.f40) = some c → ∀ (Q : Exit → ASt → Prop), (Q (.exit 0) ⟨[(0, .own 0 (List.length (α := Bool) o))], [.elems 1 (List.map cB o)]⟩) → ALoopU Try.prog B 1 40 (hold c .mk) ⟨[(0, .own 0 (List.length (α := Bool) flags8)), (3, .ptr 1 0), (5, .lit (.int .i64 (i : Int)))], [.elems 1 (List.map cB flags8), .cells [.lit (.int .i64 e.op), .lit (.int .i64 e.n), .lit (.int .i64 e.ctor), .arr (List.map Vl.Expr.c e.kids)]]⟩ (hold Q .mk)) := by
 refine F.spec_l12Calls.mutual_partial_correctness 
  (fun flags e r => BCall Try.prog B 40 [.elems 1 (List.map cB flags)] [.own 0 (List.length (α := Bool) flags), .agg [.lit (.int .i64 e.op), .lit (.int .i64 e.n), .lit (.int .i64 e.ctor), .arr (List.map Vl.Expr.c e.kids)]] (.own 0 (List.length (α := Bool) r)) [.elems 1 (List.map cB r)])
  (fun e flags41 i42 o => ∀ (c : Code), navO [1, 1, 0, 1, 0, 0] (bodyOf Try.f40) = some c → ∀ (Q : Exit → ASt → Prop), (Q (.exit 0) ⟨[(0, .own 0 (List.length (α := Bool) o))], [.elems 1 (List.map cB o)]⟩) → ALoopU Try.prog B 1 40 (hold c .mk) ⟨[(0, .own 0 (List.length (α := Bool) flags41)), (3, .ptr 1 0), (5, .lit (.int .i64 (i42 : Int)))], [.elems 1 (List.map cB flags41), .cells [.lit (.int .i64 e.op), .lit (.int .i64 e.n), .lit (.int .i64 e.ctor), .arr (List.map Vl.Expr.c e.kids)]]⟩ (hold Q .mk))
  (fun e flags29 i30 o => ∀ (c : Code), navO [1, 1, 0, 1, 0, 0] (bodyOf Try.f40) = some c → ∀ (Q : Exit → ASt → Prop), (Q (.exit 0) ⟨[(0, .own 0 (List.length (α := Bool) o))], [.elems 1 (List.map cB o)]⟩) → ALoopU Try.prog B 1 40 (hold c .mk) ⟨[(0, .own 0 (List.length (α := Bool) flags29)), (3, .ptr 1 0), (5, .lit (.int .i64 (i30 : Int)))], [.elems 1 (List.map cB flags29), .cells [.lit (.int .i64 e.op), .lit (.int .i64 e.n), .lit (.int .i64 e.ctor), .arr (List.map Vl.Expr.c e.kids)]]⟩ (hold Q .mk))
  (fun e flags17 i18 o => ∀ (c : Code), navO [1, 1, 0, 1, 0, 0] (bodyOf Try.f40) = some c → ∀ (Q : Exit → ASt → Prop), (Q (.exit 0) ⟨[(0, .own 0 (List.length (α := Bool) o))], [.elems 1 (List.map cB o)]⟩) → ALoopU Try.prog B 1 40 (hold c .mk) ⟨[(0, .own 0 (List.length (α := Bool) flags17)), (3, .ptr 1 0), (5, .lit (.int .i64 (i18 : Int)))], [.elems 1 (List.map cB flags17), .cells [.lit (.int .i64 e.op), .lit (.int .i64 e.n), .lit (.int .i64 e.ctor), .arr (List.map Vl.Expr.c e.kids)]]⟩ (hold Q .mk))
  (fun e flags8 i o => ∀ (c : Code), navO [1, 1, 0, 1, 0, 0] (bodyOf Try.f40) = some c → ∀ (Q : Exit → ASt → Prop), (Q (.exit 0) ⟨[(0, .own 0 (List.length (α := Bool) o))], [.elems 1 (List.map cB o)]⟩) → ALoopU Try.prog B 1 40 (hold c .mk) ⟨[(0, .own 0 (List.length (α := Bool) flags8)), (3, .ptr 1 0), (5, .lit (.int .i64 (i : Int)))], [.elems 1 (List.map cB flags8), .cells [.lit (.int .i64 e.op), .lit (.int .i64 e.n), .lit (.int .i64 e.ctor), .arr (List.map Vl.Expr.c e.kids)]]⟩ (hold Q .mk))
  ?_ ?_ ?_ ?_ ?_
 ·intro _f_spec_l12Calls_l4 _f_spec_l12Calls_l3 _f_spec_l12Calls_l2 _f_spec_l12Calls_l1 ih_spec_l12Calls_l4 ih_spec_l12Calls_l3 ih_spec_l12Calls_l2 ih_spec_l12Calls_l1 flags e r hF
  refine BCall.enter Try.func40 (by kernel_rfl) rfl Try.ntmps40 (by simp) rfl (by simp) (by simp) (by simp) (by simp) (by simp) (Gh.refl _) ?_
  repeat (first | refine chk.ga ?_ | simp -dsimp)
  refine abr.split (fun h1 => ?_) (fun h1 => ?_)
  ·have q2 : (e.op = 5) := auq h1
   rw [if_pos q2] at hF
   repeat (first | refine chk.ga ?_ | simp -dsimp [h1])
   refine abr.split (fun h3 => ?_) (fun h3 => ?_)
   ·have q4 : (0 ≤ e.n) := auq h3
    rw [if_pos q4] at hF
    repeat (first | refine chk.ga ?_ | simp -dsimp [h1, h3])
    refine abr.split (fun h5 => ?_) (fun h5 => ?_)
    ·have q6 : (e.n < (flags.length : Int)) := auq h5
     rw [if_pos q6] at hF
     have hF := ob hF; obtain ⟨x, e7a, hF⟩ := hF
     have e7a := at_some e7a; obtain ⟨ne7, e7⟩ := e7a
     have le7 := lt_of_get e7
     repeat (first | refine chk.ga ?_ | simp -dsimp [h1, h3, h5, ↓e7])
     have hF := ob hF; obtain ⟨o', ho16, hF⟩ := hF
     refine ALoop.goU ⟨[(0, .own 0 (List.length (α := Bool) (flags.set e.n.toNat true))), (3, .ptr 1 0), (5, .lit (.int .i64 (0 : Int)))], [.elems 1 (List.map cB (flags.set e.n.toNat true)), .cells [.lit (.int .i64 e.op), .lit (.int .i64 e.n), .lit (.int .i64 e.ctor), .arr (List.map Vl.Expr.c e.kids)]]⟩ (Gh.to3 (by simp) (by first | simp -dsimp [h1, h3, h5, ↓e7]; done | simp_all)) ?_
     refine (ih_spec_l12Calls_l1 e (flags.set e.n.toNat true) 0 o' ho16) _ rfl _ ?_
     cases hF
     repeat (first | refine chk.ga ?_ | simp -dsimp)
     all_goals (try omega)
    ·have q6 : ¬ (e.n < (flags.length : Int)) := auq h5
     rw [if_neg q6] at hF
     repeat (first | refine chk.ga ?_ | simp -dsimp [h1, h3, h5, q6])
     have hF := ob hF; obtain ⟨o'28, ho27, hF⟩ := hF
     refine ALoop.goU ⟨[(0, .own 0 (List.length (α := Bool) flags)), (3, .ptr 1 0), (5, .lit (.int .i64 (0 : Int)))], [.elems 1 (List.map cB flags), .cells [.lit (.int .i64 e.op), .lit (.int .i64 e.n), .lit (.int .i64 e.ctor), .arr (List.map Vl.Expr.c e.kids)]]⟩ (Gh.to3 (by simp) (by first | simp -dsimp [h1, h3, h5, q6]; done | simp_all)) ?_
     refine (ih_spec_l12Calls_l2 e flags 0 o'28 ho27) _ rfl _ ?_
     cases hF
     repeat (first | refine chk.ga ?_ | simp -dsimp)
     all_goals (try omega)
   ·have q4 : ¬ (0 ≤ e.n) := auq h3
    rw [if_neg q4] at hF
    repeat (first | refine chk.ga ?_ | simp -dsimp [h1, h3, q4])
    have hF := ob hF; obtain ⟨o'40, ho39, hF⟩ := hF
    refine ALoop.goU ⟨[(0, .own 0 (List.length (α := Bool) flags)), (3, .ptr 1 0), (5, .lit (.int .i64 (0 : Int)))], [.elems 1 (List.map cB flags), .cells [.lit (.int .i64 e.op), .lit (.int .i64 e.n), .lit (.int .i64 e.ctor), .arr (List.map Vl.Expr.c e.kids)]]⟩ (Gh.to3 (by simp) (by first | simp -dsimp [h1, h3, q4]; done | simp_all)) ?_
    refine (ih_spec_l12Calls_l3 e flags 0 o'40 ho39) _ rfl _ ?_
    cases hF
    repeat (first | refine chk.ga ?_ | simp -dsimp)
    all_goals (try omega)
  ·have q2 : ¬ (e.op = 5) := auq h1
   rw [if_neg q2] at hF
   repeat (first | refine chk.ga ?_ | simp -dsimp [h1, q2])
   have hF := ob hF; obtain ⟨o'52, ho51, hF⟩ := hF
   refine ALoop.goU ⟨[(0, .own 0 (List.length (α := Bool) flags)), (3, .ptr 1 0), (5, .lit (.int .i64 (0 : Int)))], [.elems 1 (List.map cB flags), .cells [.lit (.int .i64 e.op), .lit (.int .i64 e.n), .lit (.int .i64 e.ctor), .arr (List.map Vl.Expr.c e.kids)]]⟩ (Gh.to3 (by simp) (by first | simp -dsimp [h1, q2]; done | simp_all)) ?_
   refine (ih_spec_l12Calls_l4 e flags 0 o'52 ho51) _ rfl _ ?_
   cases hF
   repeat (first | refine chk.ga ?_ | simp -dsimp)
   all_goals (try omega)
 ·intro _f_spec_l12Calls _f_spec_l12Calls_l4 ih_spec_l12Calls ih_spec_l12Calls_l4 e flags41 i42 o hF
  intro c hc Q hq
  obtain rfl : c = _ := navEq hc rfl
  refine ALoopU.know fun hk hs => ?_
  have d0 := hs 0 _ rfl
  simp -dsimp [Blk.bnd] at d0
  have d1 := hs 1 _ rfl
  simp -dsimp [Blk.bnd] at d1
  clear hk hs
  refine ALoopU.enter ?_
  repeat (first | refine chk.ga ?_ | simp -dsimp)
  refine abr.split (fun h43 => ?_) (fun h43 => ?_)
  ·have q44 : (i42 < e.kids.length) := auq h43
   have z45 : ((i42 : Int) < (e.kids.length : Int)) := auz
   rw [if_pos q44] at hF
   have hF := ob hF; obtain ⟨x46, e47, hF⟩ := hF
   have le47 := lt_of_get e47
   repeat (first | refine chk.ga ?_ | simp -dsimp [h43, z45, ↓e47])
   have hF := ob hF; obtain ⟨v48, e49, hF⟩ := hF
   refine ((ih_spec_l12Calls flags41 x46 v48 e49)).go (pl [0]) (by simp) (by simp) (plInj _ rfl (by decide)) (by intro i hi hi'; simp at hi hi'; first | omega | (subst hi'; simp [pl])) (by first | simp [h43, z45, ↓e47]; done | simp_all) (by first | simp [h43, z45, ↓e47]; done | simp_all) ?_
   have w50 : IntKind.i64.wrap ((i42 : Int) + 1) = (i42 : Int) + 1 := wrap_in (by omega) (by omega)
   repeat (first | refine chk.ga ?_ | simp -dsimp [h43, z45, ↓e47, w50])
   refine Again.go ⟨[(0, .own 0 (List.length (α := Bool) v48)), (3, .ptr 1 0), (5, .lit (.int .i64 ((i42 + 1) : Int)))], [.elems 1 (List.map cB v48), .cells [.lit (.int .i64 e.op), .lit (.int .i64 e.n), .lit (.int .i64 e.ctor), .arr (List.map Vl.Expr.c e.kids)]]⟩ (Gh.to3 (by simp) (by first | simp -dsimp [h43, z45, ↓e47, w50]; done | simp_all)) ?_
   exact (ih_spec_l12Calls_l4 e v48 (i42 + 1) o hF) _ rfl _ hq
  ·have q44 : ¬ (i42 < e.kids.length) := auq h43
   have z45 : ¬ ((i42 : Int) < (e.kids.length : Int)) := auz
   rw [if_neg q44] at hF
   cases hF
   repeat (first | refine chk.ga ?_ | simp -dsimp [h43, q44, z45])
   refine Leave.go ⟨[(0, .own 0 (List.length (α := Bool) flags41))], [.elems 1 (List.map cB flags41)]⟩ (Gh.to3 (by simp) (by first | simp -dsimp [h43, q44, z45]; done | simp_all)) ?_
   exact hq
 ·intro _f_spec_l12Calls _f_spec_l12Calls_l3 ih_spec_l12Calls ih_spec_l12Calls_l3 e flags29 i30 o hF
  intro c hc Q hq
  obtain rfl : c = _ := navEq hc rfl
  refine ALoopU.know fun hk hs => ?_
  have d0 := hs 0 _ rfl
  simp -dsimp [Blk.bnd] at d0
  have d1 := hs 1 _ rfl
  simp -dsimp [Blk.bnd] at d1
  clear hk hs
  refine ALoopU.enter ?_
  repeat (first | refine chk.ga ?_ | simp -dsimp)
  refine abr.split (fun h31 => ?_) (fun h31 => ?_)
  ·have q32 : (i30 < e.kids.length) := auq h31
   have z33 : ((i30 : Int) < (e.kids.length : Int)) := auz
   rw [if_pos q32] at hF
   have hF := ob hF; obtain ⟨x34, e35, hF⟩ := hF
   have le35 := lt_of_get e35
   repeat (first | refine chk.ga ?_ | simp -dsimp [h31, z33, ↓e35])
   have hF := ob hF; obtain ⟨v36, e37, hF⟩ := hF
   refine ((ih_spec_l12Calls flags29 x34 v36 e37)).go (pl [0]) (by simp) (by simp) (plInj _ rfl (by decide)) (by intro i hi hi'; simp at hi hi'; first | omega | (subst hi'; simp [pl])) (by first | simp [h31, z33, ↓e35]; done | simp_all) (by first | simp [h31, z33, ↓e35]; done | simp_all) ?_
   have w38 : IntKind.i64.wrap ((i30 : Int) + 1) = (i30 : Int) + 1 := wrap_in (by omega) (by omega)
   repeat (first | refine chk.ga ?_ | simp -dsimp [h31, z33, ↓e35, w38])
   refine Again.go ⟨[(0, .own 0 (List.length (α := Bool) v36)), (3, .ptr 1 0), (5, .lit (.int .i64 ((i30 + 1) : Int)))], [.elems 1 (List.map cB v36), .cells [.lit (.int .i64 e.op), .lit (.int .i64 e.n), .lit (.int .i64 e.ctor), .arr (List.map Vl.Expr.c e.kids)]]⟩ (Gh.to3 (by simp) (by first | simp -dsimp [h31, z33, ↓e35, w38]; done | simp_all)) ?_
   exact (ih_spec_l12Calls_l3 e v36 (i30 + 1) o hF) _ rfl _ hq
  ·have q32 : ¬ (i30 < e.kids.length) := auq h31
   have z33 : ¬ ((i30 : Int) < (e.kids.length : Int)) := auz
   rw [if_neg q32] at hF
   cases hF
   repeat (first | refine chk.ga ?_ | simp -dsimp [h31, q32, z33])
   refine Leave.go ⟨[(0, .own 0 (List.length (α := Bool) flags29))], [.elems 1 (List.map cB flags29)]⟩ (Gh.to3 (by simp) (by first | simp -dsimp [h31, q32, z33]; done | simp_all)) ?_
   exact hq
 ·intro _f_spec_l12Calls _f_spec_l12Calls_l2 ih_spec_l12Calls ih_spec_l12Calls_l2 e flags17 i18 o hF
  intro c hc Q hq
  obtain rfl : c = _ := navEq hc rfl
  refine ALoopU.know fun hk hs => ?_
  have d0 := hs 0 _ rfl
  simp -dsimp [Blk.bnd] at d0
  have d1 := hs 1 _ rfl
  simp -dsimp [Blk.bnd] at d1
  clear hk hs
  refine ALoopU.enter ?_
  repeat (first | refine chk.ga ?_ | simp -dsimp)
  refine abr.split (fun h19 => ?_) (fun h19 => ?_)
  ·have q20 : (i18 < e.kids.length) := auq h19
   have z21 : ((i18 : Int) < (e.kids.length : Int)) := auz
   rw [if_pos q20] at hF
   have hF := ob hF; obtain ⟨x22, e23, hF⟩ := hF
   have le23 := lt_of_get e23
   repeat (first | refine chk.ga ?_ | simp -dsimp [h19, z21, ↓e23])
   have hF := ob hF; obtain ⟨v24, e25, hF⟩ := hF
   refine ((ih_spec_l12Calls flags17 x22 v24 e25)).go (pl [0]) (by simp) (by simp) (plInj _ rfl (by decide)) (by intro i hi hi'; simp at hi hi'; first | omega | (subst hi'; simp [pl])) (by first | simp [h19, z21, ↓e23]; done | simp_all) (by first | simp [h19, z21, ↓e23]; done | simp_all) ?_
   have w26 : IntKind.i64.wrap ((i18 : Int) + 1) = (i18 : Int) + 1 := wrap_in (by omega) (by omega)
   repeat (first | refine chk.ga ?_ | simp -dsimp [h19, z21, ↓e23, w26])
   refine Again.go ⟨[(0, .own 0 (List.length (α := Bool) v24)), (3, .ptr 1 0), (5, .lit (.int .i64 ((i18 + 1) : Int)))], [.elems 1 (List.map cB v24), .cells [.lit (.int .i64 e.op), .lit (.int .i64 e.n), .lit (.int .i64 e.ctor), .arr (List.map Vl.Expr.c e.kids)]]⟩ (Gh.to3 (by simp) (by first | simp -dsimp [h19, z21, ↓e23, w26]; done | simp_all)) ?_
   exact (ih_spec_l12Calls_l2 e v24 (i18 + 1) o hF) _ rfl _ hq
  ·have q20 : ¬ (i18 < e.kids.length) := auq h19
   have z21 : ¬ ((i18 : Int) < (e.kids.length : Int)) := auz
   rw [if_neg q20] at hF
   cases hF
   repeat (first | refine chk.ga ?_ | simp -dsimp [h19, q20, z21])
   refine Leave.go ⟨[(0, .own 0 (List.length (α := Bool) flags17))], [.elems 1 (List.map cB flags17)]⟩ (Gh.to3 (by simp) (by first | simp -dsimp [h19, q20, z21]; done | simp_all)) ?_
   exact hq
 ·intro _f_spec_l12Calls _f_spec_l12Calls_l1 ih_spec_l12Calls ih_spec_l12Calls_l1 e flags8 i o hF
  intro c hc Q hq
  obtain rfl : c = _ := navEq hc rfl
  refine ALoopU.know fun hk hs => ?_
  have d0 := hs 0 _ rfl
  simp -dsimp [Blk.bnd] at d0
  have d1 := hs 1 _ rfl
  simp -dsimp [Blk.bnd] at d1
  clear hk hs
  refine ALoopU.enter ?_
  repeat (first | refine chk.ga ?_ | simp -dsimp)
  refine abr.split (fun h9 => ?_) (fun h9 => ?_)
  ·have q10 : (i < e.kids.length) := auq h9
   have z11 : ((i : Int) < (e.kids.length : Int)) := auz
   rw [if_pos q10] at hF
   have hF := ob hF; obtain ⟨x12, e13, hF⟩ := hF
   have le13 := lt_of_get e13
   repeat (first | refine chk.ga ?_ | simp -dsimp [h9, z11, ↓e13])
   have hF := ob hF; obtain ⟨v, e14, hF⟩ := hF
   refine ((ih_spec_l12Calls flags8 x12 v e14)).go (pl [0]) (by simp) (by simp) (plInj _ rfl (by decide)) (by intro i hi hi'; simp at hi hi'; first | omega | (subst hi'; simp [pl])) (by first | simp [h9, z11, ↓e13]; done | simp_all) (by first | simp [h9, z11, ↓e13]; done | simp_all) ?_
   have w15 : IntKind.i64.wrap ((i : Int) + 1) = (i : Int) + 1 := wrap_in (by omega) (by omega)
   repeat (first | refine chk.ga ?_ | simp -dsimp [h9, z11, ↓e13, w15])
   refine Again.go ⟨[(0, .own 0 (List.length (α := Bool) v)), (3, .ptr 1 0), (5, .lit (.int .i64 ((i + 1) : Int)))], [.elems 1 (List.map cB v), .cells [.lit (.int .i64 e.op), .lit (.int .i64 e.n), .lit (.int .i64 e.ctor), .arr (List.map Vl.Expr.c e.kids)]]⟩ (Gh.to3 (by simp) (by first | simp -dsimp [h9, z11, ↓e13, w15]; done | simp_all)) ?_
   exact (ih_spec_l12Calls_l1 e v (i + 1) o hF) _ rfl _ hq
  ·have q10 : ¬ (i < e.kids.length) := auq h9
   have z11 : ¬ ((i : Int) < (e.kids.length : Int)) := auz
   rw [if_neg q10] at hF
   cases hF
   repeat (first | refine chk.ga ?_ | simp -dsimp [h9, q10, z11])
   refine Leave.go ⟨[(0, .own 0 (List.length (α := Bool) flags8))], [.elems 1 (List.map cB flags8)]⟩ (Gh.to3 (by simp) (by first | simp -dsimp [h9, q10, z11]; done | simp_all)) ?_
   exact hq

theorem C.spec_l12Calls (B : Nat) (hB1 : 67108864 ≤ B) (hB2 : B ≤ 9223372036854775807) (flags : List Bool) (e : Vl.Expr) (r : List Bool) (hF : F.spec_l12Calls flags e = some r) : BCall Try.prog B 40 [.elems 1 (List.map cB flags)] [.own 0 (List.length (α := Bool) flags), .agg [.lit (.int .i64 e.op), .lit (.int .i64 e.n), .lit (.int .i64 e.ctor), .arr (List.map Vl.Expr.c e.kids)]] (.own 0 (List.length (α := Bool) r)) [.elems 1 (List.map cB r)] :=
 (CC.spec_l12Calls B hB1 hB2 ).1 flags e r hF

theorem C.spec_l12Calls_l4 (B : Nat) (hB1 : 67108864 ≤ B) (hB2 : B ≤ 9223372036854775807) (e : Vl.Expr) (flags41 : List Bool) (i42 : Nat) (o : List Bool) (hF : F.spec_l12Calls_l4 e flags41 i42 = some o) : ∀ (c : Code), navO [1, 1, 0, 1, 0, 0] (bodyOf Try.f40) = some c → ∀ (Q : Exit → ASt → Prop), (Q (.exit 0) ⟨[(0, .own 0 (List.length (α := Bool) o))], [.elems 1 (List.map cB o)]⟩) → ALoopU Try.prog B 1 40 (hold c .mk) ⟨[(0, .own 0 (List.length (α := Bool) flags41)), (3, .ptr 1 0), (5, .lit (.int .i64 (i42 : Int)))], [.elems 1 (List.map cB flags41), .cells [.lit (.int .i64 e.op), .lit (.int .i64 e.n), .lit (.int .i64 e.ctor), .arr (List.map Vl.Expr.c e.kids)]]⟩ (hold Q .mk) :=
 (CC.spec_l12Calls B hB1 hB2 ).2.1 e flags41 i42 o hF

theorem C.spec_l12Calls_l3 (B : Nat) (hB1 : 67108864 ≤ B) (hB2 : B ≤ 9223372036854775807) (e : Vl.Expr) (flags29 : List Bool) (i30 : Nat) (o : List Bool) (hF : F.spec_l12Calls_l3 e flags29 i30 = some o) : ∀ (c : Code), navO [1, 1, 0, 1, 0, 0] (bodyOf Try.f40) = some c → ∀ (Q : Exit → ASt → Prop), (Q (.exit 0) ⟨[(0, .own 0 (List.length (α := Bool) o))], [.elems 1 (List.map cB o)]⟩) → ALoopU Try.prog B 1 40 (hold c .mk) ⟨[(0, .own 0 (List.length (α := Bool) flags29)), (3, .ptr 1 0), (5, .lit (.int .i64 (i30 : Int)))], [.elems 1 (List.map cB flags29), .cells [.lit (.int .i64 e.op), .lit (.int .i64 e.n), .lit (.int .i64 e.ctor), .arr (List.map Vl.Expr.c e.kids)]]⟩ (hold Q .mk) :=
 (CC.spec_l12Calls B hB1 hB2 ).2.2.1 e flags29 i30 o hF

theorem C.spec_l12Calls_l2 (B : Nat) (hB1 : 67108864 ≤ B) (hB2 : B ≤ 9223372036854775807) (e : Vl.Expr) (flags17 : List Bool) (i18 : Nat) (o : List Bool) (hF : F.spec_l12Calls_l2 e flags17 i18 = some o) : ∀ (c : Code), navO [1, 1, 0, 1, 0, 0] (bodyOf Try.f40) = some c → ∀ (Q : Exit → ASt → Prop), (Q (.exit 0) ⟨[(0, .own 0 (List.length (α := Bool) o))], [.elems 1 (List.map cB o)]⟩) → ALoopU Try.prog B 1 40 (hold c .mk) ⟨[(0, .own 0 (List.length (α := Bool) flags17)), (3, .ptr 1 0), (5, .lit (.int .i64 (i18 : Int)))], [.elems 1 (List.map cB flags17), .cells [.lit (.int .i64 e.op), .lit (.int .i64 e.n), .lit (.int .i64 e.ctor), .arr (List.map Vl.Expr.c e.kids)]]⟩ (hold Q .mk) :=
 (CC.spec_l12Calls B hB1 hB2 ).2.2.2.1 e flags17 i18 o hF

theorem C.spec_l12Calls_l1 (B : Nat) (hB1 : 67108864 ≤ B) (hB2 : B ≤ 9223372036854775807) (e : Vl.Expr) (flags8 : List Bool) (i : Nat) (o : List Bool) (hF : F.spec_l12Calls_l1 e flags8 i = some o) : ∀ (c : Code), navO [1, 1, 0, 1, 0, 0] (bodyOf Try.f40) = some c → ∀ (Q : Exit → ASt → Prop), (Q (.exit 0) ⟨[(0, .own 0 (List.length (α := Bool) o))], [.elems 1 (List.map cB o)]⟩) → ALoopU Try.prog B 1 40 (hold c .mk) ⟨[(0, .own 0 (List.length (α := Bool) flags8)), (3, .ptr 1 0), (5, .lit (.int .i64 (i : Int)))], [.elems 1 (List.map cB flags8), .cells [.lit (.int .i64 e.op), .lit (.int .i64 e.n), .lit (.int .i64 e.ctor), .arr (List.map Vl.Expr.c e.kids)]]⟩ (hold Q .mk) :=
 (CC.spec_l12Calls B hB1 hB2 ).2.2.2.2 e flags8 i o hF

set_option maxRecDepth 100000 in
set_option maxHeartbeats 4000000 in
theorem CC.spec_CallsOf_l1 (B : Nat) (hB1 : 67108864 ≤ B) (hB2 : B ≤ 9223372036854775807) (v : List Bool) : (∀ (out : List Int) (i : Nat) (o : List Int), F.spec_CallsOf_l1 v out i = some o → ∀ (c : Code), navO [1, 1, 1, 0, 1, 0, 0] (bodyOf Try.f13) = some c → ∀ (Q : Exit → ASt → Prop), (Q (.exit 0) ⟨[(3, .own 1 (List.length (α := Int) o))], [.dead, .elems 1 (List.map cI o)]⟩) → ALoopU Try.prog B 0 25 (hold c .mk) ⟨[(3, .own 1 (List.length (α := Int) out)), (4, .own 2 (List.length (α := Bool) v)), (5, .lit (.int .i64 (i : Int)))], [.dead, .elems 1 (List.map cI out), .elems 1 (List.map cB v)]⟩ (hold Q .mk)) := by
 refine F.spec_CallsOf_l1.partial_correctness v
  (fun out i o => ∀ (c : Code), navO [1, 1, 1, 0, 1, 0, 0] (bodyOf Try.f13) = some c → ∀ (Q : Exit → ASt → Prop), (Q (.exit 0) ⟨[(3, .own 1 (List.length (α := Int) o))], [.dead, .elems 1 (List.map cI o)]⟩) → ALoopU Try.prog B 0 25 (hold c .mk) ⟨[(3, .own 1 (List.length (α := Int) out)), (4, .own 2 (List.length (α := Bool) v)), (5, .lit (.int .i64 (i : Int)))], [.dead, .elems 1 (List.map cI out), .elems 1 (List.map cB v)]⟩ (hold Q .mk))
  ?_
 ·intro _f_spec_CallsOf_l1 ih_spec_CallsOf_l1 out i o hF
  intro c hc Q hq
  obtain rfl : c = _ := navEq hc rfl
  refine ALoopU.know fun hk hs => ?_
  have d1 := hs 1 _ rfl
  simp -dsimp [Blk.bnd] at d1
  have d2 := hs 2 _ rfl
  simp -dsimp [Blk.bnd] at d2
  clear hk hs
  refine ALoopU.enter ?_
  repeat (first | refine chk.ga ?_ | simp -dsimp)
  refine abr.split (fun h3 => ?_) (fun h3 => ?_)
  ·have q4 : (i < v.length) := auq h3
   have z5 : ((i : Int) < (v.length : Int)) := auz
   rw [if_pos q4] at hF
   have hF := ob hF; obtain ⟨x, e6, hF⟩ := hF
   have le6 := lt_of_get e6
   repeat (first | refine chk.ga ?_ | simp -dsimp [h3, z5, ↓e6])
   refine abr.split (fun h7 => ?_) (fun h7 => ?_)
   ·have q8 : (x = true) := auq h7
    rw [if_pos q8] at hF
    have hF := oc hF; obtain ⟨c9, hF⟩ := hF
    have w10 : IntKind.i64.wrap ((i : Int) + 1) = (i : Int) + 1 := wrap_in (by omega) (by omega)
    repeat (first | refine chk.ga ?_ | simp -dsimp [h3, z5, ↓e6, h7, w10])
    refine Again.go ⟨[(3, .own 1 (List.length (α := Int) (out ++ [(i : Int)]))), (4, .own 2 (List.length (α := Bool) v)), (5, .lit (.int .i64 ((i + 1) : Int)))], [.dead, .elems 1 (List.map cI (out ++ [(i : Int)])), .elems 1 (List.map cB v)]⟩ (Gh.to3 (by simp) (by first | simp -dsimp [h3, z5, ↓e6, h7, w10]; done | simp_all)) ?_
    exact (ih_spec_CallsOf_l1 (out ++ [(i : Int)]) (i + 1) o hF) _ rfl _ hq
   ·have q8 : ¬ (x = true) := auq h7
    rw [if_neg q8] at hF
    have w11 : IntKind.i64.wrap ((i : Int) + 1) = (i : Int) + 1 := wrap_in (by omega) (by omega)
    repeat (first | refine chk.ga ?_ | simp -dsimp [h3, z5, ↓e6, h7, q8, w11])
    refine Again.go ⟨[(3, .own 1 (List.length (α := Int) out)), (4, .own 2 (List.length (α := Bool) v)), (5, .lit (.int .i64 ((i + 1) : Int)))], [.dead, .elems 1 (List.map cI out), .elems 1 (List.map cB v)]⟩ (Gh.to3 (by simp) (by first | simp -dsimp [h3, z5, ↓e6, h7, q8, w11]; done | simp_all)) ?_
    exact (ih_spec_CallsOf_l1 out (i + 1) o hF) _ rfl _ hq
  ·have q4 : ¬ (i < v.length) := auq h3
   have z5 : ¬ ((i : Int) < (v.length : Int)) := auz
   rw [if_neg q4] at hF
   cases hF
   repeat (first | refine chk.ga ?_ | simp -dsimp [h3, q4, z5])
   refine Leave.go ⟨[(3, .own 1 (List.length (α := Int) out))], [.dead, .elems 1 (List.map cI out)]⟩ (Gh.to3 (by simp) (by first | simp -dsimp [h3, q4, z5]; done | simp_all)) ?_
   exact hq

theorem C.spec_CallsOf_l1 (B : Nat) (hB1 : 67108864 ≤ B) (hB2 : B ≤ 9223372036854775807) (v : List Bool) (out : List Int) (i : Nat) (o : List Int) (hF : F.spec_CallsOf_l1 v out i = some o) : ∀ (c : Code), navO [1, 1, 1, 0, 1, 0, 0] (bodyOf Try.f13) = some c → ∀ (Q : Exit → ASt → Prop), (Q (.exit 0) ⟨[(3, .own 1 (List.length (α := Int) o))], [.dead, .elems 1 (List.map cI o)]⟩) → ALoopU Try.prog B 0 25 (hold c .mk) ⟨[(3, .own 1 (List.length (α := Int) out)), (4, .own 2 (List.length (α := Bool) v)), (5, .lit (.int .i64 (i : Int)))], [.dead, .elems 1 (List.map cI out), .elems 1 (List.map cB v)]⟩ (hold Q .mk) :=
 (CC.spec_CallsOf_l1 B hB1 hB2 v) out i o hF

set_option maxRecDepth 100000 in
set_option maxHeartbeats 4000000 in
theorem C.spec_CallsOf (B : Nat) (hB1 : 67108864 ≤ B) (hB2 : B ≤ 9223372036854775807) (e : Vl.Expr) (r : List Int) (hF : F.spec_CallsOf e = some r) : PureCall Try.prog B 13 [.agg [.lit (.int .i64 e.op), .lit (.int .i64 e.n), .lit (.int .i64 e.ctor), .arr (List.map Vl.Expr.c e.kids)]] (.arr (List.map cI r)) := by
 unfold F.spec_CallsOf at hF
 refine PureCall.enterLe Try.func13 (by kernel_rfl) rfl Try.ntmps13 (by simp) (by simp) ?_
 repeat (first | refine chk.ga ?_ | simp -dsimp)
 refine ADraw.eff [40] [(0, 2), (0, 1), (0, 2), (2, 2)] [1, 2, 1, 1] follows (by kernel_rfl) (by kernel_rfl) (by kernel_rfl) ?_
 have hF := oc hF; obtain ⟨c1, hF⟩ := hF
 repeat (first | refine chk.ga ?_ | simp -dsimp)
 have hF := ob hF; obtain ⟨v, e2, hF⟩ := hF
 refine ((C.spec_l12Calls B hB1 hB2 (List.replicate 4 false) e v e2)).ego (pl [2]) (by simp) (by simp) (plInj _ rfl (by decide)) (by intro i hi hi'; simp at hi hi'; first | omega | (subst hi'; simp [pl])) (by simp) (by simp) ?_
 repeat (first | refine chk.ga ?_ | simp -dsimp)
 have hF := ob hF; obtain ⟨o', ho12, hF⟩ := hF
 refine ALoop.goU ⟨[(3, .own 1 (List.length (α := Int) [])), (4, .own 2 (List.length (α := Bool) v)), (5, .lit (.int .i64 (0 : Int)))], [.dead, .elems 1 (List.map cI []), .elems 1 (List.map cB v)]⟩ (Gh.to3 (by simp) (by simp -dsimp)) ?_
 refine (C.spec_CallsOf_l1 B hB1 hB2 v [] 0 o' ho12) _ rfl _ ?_
 cases hF
 repeat (first | refine chk.ga ?_ | simp -dsimp)
 all_goals (try omega)

set_option maxRecDepth 100000 in
set_option maxHeartbeats 4000000 in
theorem CC.laws_toExpr__f (B : Nat) (hB1 : 67108864 ≤ B) (hB2 : B ≤ 9223372036854775807)  : (∀ (a : Vl.Expr) (r : Vl.Expr), F.laws_toExpr a = some r → FCall Try.prog B 10 [.agg [.lit (.int .i64 a.op), .lit (.int .i64 a.n), .lit (.int .i64 a.ctor), .arr (List.map Vl.Expr.c a.kids)]] (.agg [.lit (.int .i64 r.op), .lit (.int .i64 r.n), .lit (.int .i64 r.ctor), .arr (List.map Vl.Expr.c r.kids)])) ∧
  (∀ (a : List Vl.Expr) (r : List Vl.Expr), F.laws_toExprS a = some r → FCall Try.prog B 37 [.arr (List.map Vl.Expr.c a)] (.arr (List.map Vl.Expr.c r))) ∧
  (∀ (a : List Vl.Expr) (out : List Vl.Expr) (i : Nat) (o : List Vl.Expr), F.laws_toExprS_l1 a out i = some o → ∀ (R : List (List AV)), ∀ (U : List Value), RW 4 (List.length (α := Vl.Expr) out) R U → ∀ (c : Code), navO [1, 1, 0, 1, 0, 0] (bodyOf Try.f37) = some c → ∀ (Q : Exit → ASt → Prop), (∀ (Rq : List (List AV)) (Uq : List Value), RW 4 (List.length (α := Vl.Expr) o) Rq Uq → Q (.exit 0) ⟨[(3, .own 1 (List.length (α := Vl.Expr) o))], [.pack [] [], .elems 4 Rq, .pack (List.flatten (List.map Vl.Expr.c o)) Uq]⟩) → ALoopU Try.prog B 0 23 (hold c .mk) ⟨[(0, .arr (List.map Vl.Expr.c a)), (3, .own 1 (List.length (α := Vl.Expr) out)), (4, .lit (.int .i64 (i : Int)))], [.pack [] [], .elems 4 R, .pack (List.flatten (List.map Vl.Expr.c out)) U]⟩ (hold Q .mk)) := by
 refine F.laws_toExpr.mutual_partial_correctness 
  (fun a r => FCall Try.prog B 10 [.agg [.lit (.int .i64 a.op), .lit (.int .i64 a.n), .lit (.int .i64 a.ctor), .arr (List.map Vl.Expr.c a.kids)]] (.agg [.lit (.int .i64 r.op), .lit (.int .i64 r.n), .lit (.int .i64 r.ctor), .arr (List.map Vl.Expr.c r.kids)]))
  (fun a r => FCall Try.prog B 37 [.arr (List.map Vl.Expr.c a)] (.arr (List.map Vl.Expr.c r)))
  (fun a out i o => ∀ (R : List (List AV)), ∀ (U : List Value), RW 4 (List.length (α := Vl.Expr) out) R U → ∀ (c : Code), navO [1, 1, 0, 1, 0, 0] (bodyOf Try.f37) = some c → ∀ (Q : Exit → ASt → Prop), (∀ (Rq : List (List AV)) (Uq : List Value), RW 4 (List.length (α := Vl.Expr) o) Rq Uq → Q (.exit 0) ⟨[(3, .own 1 (List.length (α := Vl.Expr) o))], [.pack [] [], .elems 4 Rq, .pack (List.flatten (List.map Vl.Expr.c o)) Uq]⟩) → ALoopU Try.prog B 0 23 (hold c .mk) ⟨[(0, .arr (List.map Vl.Expr.c a)), (3, .own 1 (List.length (α := Vl.Expr) out)), (4, .lit (.int .i64 (i : Int)))], [.pack [] [], .elems 4 R, .pack (List.flatten (List.map Vl.Expr.c out)) U]⟩ (hold Q .mk))
  ?_ ?_ ?_
 ·intro _f_laws_toExprS__f ih_laws_toExprS__f a r hF
  refine FCall.enterG Try.func10 (by kernel_rfl) rfl Try.ntmps10 (by simp) (Gh.packZ .nil) ?_
  repeat (first | refine chk.ga ?_ | simp -dsimp)
  have hF := ob hF; obtain ⟨v, e1, hF⟩ := hF
  refine ((ih_laws_toExprS__f a.kids v e1)).go1 (by simp -dsimp) (by simp) (fun h o_h => ?_)
  cases hF
  repeat (first | refine chk.ga ?_ | simp -dsimp [o_h])
  exact ⟨_, by decide, (.agg (.lit _ (.lit _ (.lit _ (.pk 4 rfl .nil)))) .nil : CT _ _ _ _)⟩
 ·intro _f_laws_toExprS__f_l1 ih_laws_toExprS__f_l1 a r hF
  refine FCall.enterG Try.func37 (by kernel_rfl) rfl Try.ntmps37 (by simp) (Gh.packZ .nil) ?_
  have hF := oc hF; obtain ⟨c1, hF⟩ := hF
  repeat (first | refine chk.ga ?_ | simp -dsimp)
  have hF := ob hF; obtain ⟨o', ho13, hF⟩ := hF
  refine ALoop.goU ⟨[(0, .arr (List.map Vl.Expr.c a)), (3, .own 1 (List.length (α := Vl.Expr) (List.replicate a.length Vl.Expr.z))), (4, .lit (.int .i64 (0 : Int)))], [.pack [] [], .elems 4 (List.replicate a.length [.lit (.int .i64 0), .lit (.int .i64 0), .lit (.int .i64 0), .lit (.slice none 0 0)]), .pack (List.flatten (List.map Vl.Expr.c (List.replicate a.length Vl.Expr.z))) (List.flatten (List.replicate a.length [.int .i64 0, .int .i64 0, .int .i64 0, .slice none 0 0]))]⟩ (by refine Gh.trans (Gh.packZ (ZC.rep (.lit (.int .i64 0) (.lit (.int .i64 0) (.lit (.int .i64 0) (.emp none 0 .nil)))) a.length)) ?_; exact (Gh.to3 (by simp) (by simp -dsimp))) ?_
  refine (ih_laws_toExprS__f_l1 a (List.replicate a.length Vl.Expr.z) 0 o' ho13) (List.replicate a.length [.lit (.int .i64 0), .lit (.int .i64 0), .lit (.int .i64 0), .lit (.slice none 0 0)]) (List.flatten (List.replicate a.length [.int .i64 0, .int .i64 0, .int .i64 0, .slice none 0 0])) ((RW.rep a.length [.int .i64 0, .int .i64 0, .int .i64 0, .slice none 0 0]).cong (by simp) (by simp) rfl) _ rfl _ ?_
  intro Rq Uq Hq3
  cases hF
  repeat (first | refine chk.ga ?_ | simp -dsimp [RW.len Hq3, RW.closed Hq3])
  exact ⟨_, by decide, (.cell (.ownP 1 _ 4 rfl (by simp) (.blk 2 rfl .nil) (by simp [Hq3.2.2]) (by simp [Hq3.1]) (by simp) (by simp) .nil) .nil : CT _ _ _ _)⟩
 ·intro _f_laws_toExpr__f _f_laws_toExprS__f_l1 ih_laws_toExpr__f ih_laws_toExprS__f_l1 a out i o hF
  intro R U H2 c hc Q hq
  obtain rfl : c = _ := navEq hc rfl
  refine ALoopU.know fun hk hs => ?_
  have b0 := hk 0
  simp -dsimp at b0
  have d1 := hs 1 _ rfl
  simp -dsimp [Blk.bnd] at d1
  clear hk hs
  refine ALoopU.enter ?_
  repeat (first | refine chk.ga ?_ | simp -dsimp [RW.len H2, RW.closed H2])
  refine abr.split (fun h4 => ?_) (fun h4 => ?_)
  ·have q5 : (i < a.length) := auq h4
   have z6 : ((i : Int) < (a.length : Int)) := auz
   rw [if_pos q5] at hF
   have hF := ob hF; obtain ⟨x, e7, hF⟩ := hF
   have le7 := lt_of_get e7
   repeat (first | refine chk.ga ?_ | simp -dsimp [RW.len H2, RW.closed H2, h4, z6, ↓e7])
   have hF := ob hF; obtain ⟨v, e8, hF⟩ := hF
   refine ((ih_laws_toExpr__f x v e8)).go1 (by first | simp -dsimp [RW.len H2, RW.closed H2, h4, z6, ↓e7]; done | simp_all) (by simp) (fun h o_h => ?_)
   have hF := ob hF; obtain ⟨x9, e10, hF⟩ := hF
   have le10 := lt_of_get e10
   obtain ⟨row11, hrow11, lrow11⟩ := RW.row H2 le10
   have w12 : IntKind.i64.wrap ((i : Int) + 1) = (i : Int) + 1 := wrap_in (by omega) (by omega)
   repeat (first | refine chk.ga ?_ | simp -dsimp [RW.len H2, RW.closed H2, h4, z6, ↓e7, o_h, ↓e10, hrow11, lrow11, w12])
   refine Again.go ⟨[(0, .arr (List.map Vl.Expr.c a)), (3, .own 1 (List.length (α := Vl.Expr) (out.set i v))), (4, .lit (.int .i64 ((i + 1) : Int)))], [.pack [] [], .elems 4 (R.set i [.lit (.int .i64 v.op), .lit (.int .i64 v.n), .lit (.int .i64 v.ctor), .lit h]), .pack (List.flatten (List.map Vl.Expr.c (out.set i v))) (setU 4 i U [.int .i64 v.op, .int .i64 v.n, .int .i64 v.ctor, h])]⟩ (by refine Gh.trans (Gh.setRow (c := Vl.Expr.c) (y := v) 2 [3] (by exact rfl) e10 (by simp) H2 (by simp) (.lit (.int .i64 v.op) (.lit (.int .i64 v.n) (.lit (.int .i64 v.ctor) (.pk 3 (by exact rfl) .nil)))) (by simp) (by decide)) ?_; exact (Gh.to3 (by simp) (by first | simp -dsimp [RW.len H2, RW.closed H2, h4, z6, ↓e7, o_h, ↓e10, hrow11, lrow11, w12]; done | simp_all))) ?_
   exact (ih_laws_toExprS__f_l1 a (out.set i v) (i + 1) o hF) (R.set i [.lit (.int .i64 v.op), .lit (.int .i64 v.n), .lit (.int .i64 v.ctor), .lit h]) (setU 4 i U [.int .i64 v.op, .int .i64 v.n, .int .i64 v.ctor, h]) ((RW.set H2 le10 [.int .i64 v.op, .int .i64 v.n, .int .i64 v.ctor, h] rfl).cong (by simp) (by simp) rfl) _ rfl _ hq
  ·have q5 : ¬ (i < a.length) := auq h4
   have z6 : ¬ ((i : Int) < (a.length : Int)) := auz
   rw [if_neg q5] at hF
   cases hF
   repeat (first | refine chk.ga ?_ | simp -dsimp [RW.len H2, RW.closed H2, h4, q5, z6])
   refine Leave.go ⟨[(3, .own 1 (List.length (α := Vl.Expr) out))], [.pack [] [], .elems 4 R, .pack (List.flatten (List.map Vl.Expr.c out)) U]⟩ (Gh.to3 (by simp) (by first | simp -dsimp [RW.len H2, RW.closed H2, h4, q5, z6]; done | simp_all)) ?_
   exact hq R U H2

theorem C.laws_toExpr__f (B : Nat) (hB1 : 67108864 ≤ B) (hB2 : B ≤ 9223372036854775807) (a : Vl.Expr) (r : Vl.Expr) (hF : F.laws_toExpr a = some r) : FCall Try.prog B 10 [.agg [.lit (.int .i64 a.op), .lit (.int .i64 a.n), .lit (.int .i64 a.ctor), .arr (List.map Vl.Expr.c a.kids)]] (.agg [.lit (.int .i64 r.op), .lit (.int .i64 r.n), .lit (.int .i64 r.ctor), .arr (List.map Vl.Expr.c r.kids)]) :=
 (CC.laws_toExpr__f B hB1 hB2 ).1 a r hF

theorem C.laws_toExprS__f (B : Nat) (hB1 : 67108864 ≤ B) (hB2 : B ≤ 9223372036854775807) (a : List Vl.Expr) (r : List Vl.Expr) (hF : F.laws_toExprS a = some r) : FCall Try.prog B 37 [.arr (List.map Vl.Expr.c a)] (.arr (List.map Vl.Expr.c r)) :=
 (CC.laws_toExpr__f B hB1 hB2 ).2.1 a r hF

theorem C.laws_toExprS__f_l1 (B : Nat) (hB1 : 67108864 ≤ B) (hB2 : B ≤ 9223372036854775807) (a : List Vl.Expr) (out : List Vl.Expr) (i : Nat) (o : List Vl.Expr) (hF : F.laws_toExprS_l1 a out i = some o) : ∀ (R : List (List AV)), ∀ (U : List Value), RW 4 (List.length (α := Vl.Expr) out) R U → ∀ (c : Code), navO [1, 1, 0, 1, 0, 0] (bodyOf Try.f37) = some c → ∀ (Q : Exit → ASt → Prop), (∀ (Rq : List (List AV)) (Uq : List Value), RW 4 (List.length (α := Vl.Expr) o) Rq Uq → Q (.exit 0) ⟨[(3, .own 1 (List.length (α := Vl.Expr) o))], [.pack [] [], .elems 4 Rq, .pack (List.flatten (List.map Vl.Expr.c o)) Uq]⟩) → ALoopU Try.prog B 0 23 (hold c .mk) ⟨[(0, .arr (List.map Vl.Expr.c a)), (3, .own 1 (List.length (α := Vl.Expr) out)), (4, .lit (.int .i64 (i : Int)))], [.pack [] [], .elems 4 R, .pack (List.flatten (List.map Vl.Expr.c out)) U]⟩ (hold Q .mk) :=
 (CC.laws_toExpr__f B hB1 hB2 ).2.2 a out i o hF

set_option maxRecDepth 100000 in
set_option maxHeartbeats 4000000 in
theorem C.impl_within (B : Nat) (hB1 : 67108864 ≤ B) (hB2 : B ≤ 9223372036854775807) (n : Int) (low : Int) (high : Int) (r : Bool) (hF : F.impl_within n low high = some r) : PureCall Try.prog B 52 [.lit (.int .i64 n), .lit (.int .i64 low), .lit (.int .i64 high)] (.lit (.bool r)) := by
 unfold F.impl_within at hF
 refine PureCall.enterLe Try.func52 (by kernel_rfl) rfl Try.ntmps52 (by simp) (by simp) ?_
 repeat (first | refine chk.ga ?_ | simp -dsimp)
 refine abr.split (fun h1 => ?_) (fun h1 => ?_)
 ·have q2 : (low ≤ n) := auq h1
  rw [if_pos q2] at hF
  cases hF
  repeat (first | refine chk.ga ?_ | simp -dsimp [h1])
  all_goals (try omega)
 ·have q2 : ¬ (low ≤ n) := auq h1
  rw [if_neg q2] at hF
  cases hF
  repeat (first | refine chk.ga ?_ | simp -dsimp [h1, q2])
  all_goals (try omega)

set_option maxRecDepth 100000 in
set_option maxHeartbeats 4000000 in
theorem CC.impl_calls (B : Nat) (hB1 : 67108864 ≤ B) (hB2 : B ≤ 9223372036854775807)  : (∀ (e : Vl.Expr) (set' : Nat → Bool) (r : Nat → Bool), F.impl_calls e set' = some r → MutCall Try.prog B 41 (fcB 4 set') [.agg [.lit (.int .i64 e.op), .lit (.int .i64 e.n), .lit (.int .i64 e.ctor), .arr (List.map Vl.Expr.c e.kids)], .ptr 0 0] (.tup []) (fcB 4 r)) ∧
  (∀ (e : Vl.Expr) (set'28 : Nat → Bool) (i29 : Nat) (o : Nat → Bool), F.impl_calls_l3 e set'28 i29 = some o → ∀ (c : Code), navO [1, 1, 1, 0, 0] (bodyOf Try.f41) = some c → ∀ (Q : Exit → ASt → Prop), (Q (.exit 0) ⟨[], [.cells (fcB 4 o)]⟩) → ALoopU Try.prog B 1 30 (hold c .mk) ⟨[(1, .ptr 0 0), (20, .arr (List.map Vl.Expr.c e.kids)), (21, .lit (.int .i64 (e.kids.length : Int))), (22, .lit (.int .i64 (i29 : Int)))], [.cells (fcB 4 set'28)]⟩ (hold Q .mk)) ∧
  (∀ (e : Vl.Expr) (set'16 : Nat → Bool) (i17 : Nat) (o : Nat → Bool), F.impl_calls_l2 e set'16 i17 = some o → ∀ (c : Code), navO [1, 1, 1, 0, 0] (bodyOf Try.f41) = some c → ∀ (Q : Exit → ASt → Prop), (Q (.exit 0) ⟨[], [.cells (fcB 4 o)]⟩) → ALoopU Try.prog B 1 30 (hold c .mk) ⟨[(1, .ptr 0 0), (20, .arr (List.map Vl.Expr.c e.kids)), (21, .lit (.int .i64 (e.kids.length : Int))), (22, .lit (.int .i64 (i17 : Int)))], [.cells (fcB 4 set'16)]⟩ (hold Q .mk)) ∧
  (∀ (e : Vl.Expr) (set'7 : Nat → Bool) (i : Nat) (o : Nat → Bool), F.impl_calls_l1 e set'7 i = some o → ∀ (c : Code), navO [1, 1, 1, 0, 0] (bodyOf Try.f41) = some c → ∀ (Q : Exit → ASt → Prop), (Q (.exit 0) ⟨[], [.cells (fcB 4 o)]⟩) → ALoopU Try.prog B 1 30 (hold c .mk) ⟨[(1, .ptr 0 0), (20, .arr (List.map Vl.Expr.c e.kids)), (21, .lit (.int .i64 (e.kids.length : Int))), (22, .lit (.int .i64 (i : Int)))], [.cells (fcB 4 set'7)]⟩ (hold Q .mk)) := by
 refine F.impl_calls.mutual_partial_correctness 
  (fun e set' r => MutCall Try.prog B 41 (fcB 4 set') [.agg [.lit (.int .i64 e.op), .lit (.int .i64 e.n), .lit (.int .i64 e.ctor), .arr (List.map Vl.Expr.c e.kids)], .ptr 0 0] (.tup []) (fcB 4 r))
  (fun e set'28 i29 o => ∀ (c : Code), navO [1, 1, 1, 0, 0] (bodyOf Try.f41) = some c → ∀ (Q : Exit → ASt → Prop), (Q (.exit 0) ⟨[], [.cells (fcB 4 o)]⟩) → ALoopU Try.prog B 1 30 (hold c .mk) ⟨[(1, .ptr 0 0), (20, .arr (List.map Vl.Expr.c e.kids)), (21, .lit (.int .i64 (e.kids.length : Int))), (22, .lit (.int .i64 (i29 : Int)))], [.cells (fcB 4 set'28)]⟩ (hold Q .mk))
  (fun e set'16 i17 o => ∀ (c : Code), navO [1, 1, 1, 0, 0] (bodyOf Try.f41) = some c → ∀ (Q : Exit → ASt → Prop), (Q (.exit 0) ⟨[], [.cells (fcB 4 o)]⟩) → ALoopU Try.prog B 1 30 (hold c .mk) ⟨[(1, .ptr 0 0), (20, .arr (List.map Vl.Expr.c e.kids)), (21, .lit (.int .i64 (e.kids.length : Int))), (22, .lit (.int .i64 (i17 : Int)))], [.cells (fcB 4 set'16)]⟩ (hold Q .mk))
  (fun e set'7 i o => ∀ (c : Code), navO [1, 1, 1, 0, 0] (bodyOf Try.f41) = some c → ∀ (Q : Exit → ASt → Prop), (Q (.exit 0) ⟨[], [.cells (fcB 4 o)]⟩) → ALoopU Try.prog B 1 30 (hold c .mk) ⟨[(1, .ptr 0 0), (20, .arr (List.map Vl.Expr.c e.kids)), (21, .lit (.int .i64 (e.kids.length : Int))), (22, .lit (.int .i64 (i : Int)))], [.cells (fcB 4 set'7)]⟩ (hold Q .mk))
  ?_ ?_ ?_ ?_
 ·intro _f_impl_calls_l3 _f_impl_calls_l2 _f_impl_calls_l1 ih_impl_calls_l3 ih_impl_calls_l2 ih_impl_calls_l1 e set' r hF
  refine MutCall.enter Try.func41 (by kernel_rfl) rfl Try.ntmps41 (by simp) (by simp) (by simp) (by simp) ?_
  repeat (first | refine chk.ga ?_ | simp -dsimp)
  refine abr.split (fun h1 => ?_) (fun h1 => ?_)
  ·have q2 : (e.op = 5) := auq h1
   rw [if_pos q2] at hF
   repeat (first | refine chk.ga ?_ | simp -dsimp [h1])
   have hF := ob hF; obtain ⟨v, e3, hF⟩ := hF
   refine ((C.impl_within B hB1 hB2 e.n (0 : Int) (3 : Int) v e3)).goW (by first | simp [h1]; done | simp_all) (by simp) ?_
   repeat (first | refine chk.ga ?_ | simp -dsimp [h1])
   refine abr.split (fun h4 => ?_) (fun h4 => ?_)
   ·have q5 : (v = true) := auq h4
    rw [if_pos q5] at hF
    repeat (first | refine chk.ga ?_ | simp -dsimp [h1, h4])
    refine ADraw.eff [] [(0, 0), (0, 0), (0, 0), (0, 0), (0, 0), (0, 1)] [1, 1, 1, 1, 1, 1] follows (by kernel_rfl) (by kernel_rfl) (by kernel_rfl) ?_
    have hF := oc hF; obtain ⟨c6, hF⟩ := hF
    repeat (first | refine chk.ga ?_ | simp -dsimp [h1, h4, c6])
    have hF := ob hF; obtain ⟨o', ho15, hF⟩ := hF
    refine ALoop.goU ⟨[(1, .ptr 0 0), (20, .arr (List.map Vl.Expr.c e.kids)), (21, .lit (.int .i64 (e.kids.length : Int))), (22, .lit (.int .i64 (0 : Int)))], [.cells (fcB 4 (updF set' e.n.toNat true))]⟩ (Gh.to3 (by simp) (by first | simp -dsimp [h1, h4, c6]; done | simp_all)) ?_
    refine (ih_impl_calls_l1 e (updF set' e.n.toNat true) 0 o' ho15) _ rfl _ ?_
    cases hF
    repeat (first | refine chk.ga ?_ | simp -dsimp)
    all_goals (try omega)
   ·have q5 : ¬ (v = true) := auq h4
    rw [if_neg q5] at hF
    repeat (first | refine chk.ga ?_ | simp -dsimp [h1, h4, q5])
    have hF := ob hF; obtain ⟨o'27, ho26, hF⟩ := hF
    refine ALoop.goU ⟨[(1, .ptr 0 0), (20, .arr (List.map Vl.Expr.c e.kids)), (21, .lit (.int .i64 (e.kids.length : Int))), (22, .lit (.int .i64 (0 : Int)))], [.cells (fcB 4 set')]⟩ (Gh.to3 (by simp) (by first | simp -dsimp [h1, h4, q5]; done | simp_all)) ?_
    refine (ih_impl_calls_l2 e set' 0 o'27 ho26) _ rfl _ ?_
    cases hF
    repeat (first | refine chk.ga ?_ | simp -dsimp)
    all_goals (try omega)
  ·have q2 : ¬ (e.op = 5) := auq h1
   rw [if_neg q2] at hF
   repeat (first | refine chk.ga ?_ | simp -dsimp [h1, q2])
   have hF := ob hF; obtain ⟨o'39, ho38, hF⟩ := hF
   refine ALoop.goU ⟨[(1, .ptr 0 0), (20, .arr (List.map Vl.Expr.c e.kids)), (21, .lit (.int .i64 (e.kids.length : Int))), (22, .lit (.int .i64 (0 : Int)))], [.cells (fcB 4 set')]⟩ (Gh.to3 (by simp) (by first | simp -dsimp [h1, q2]; done | simp_all)) ?_
   refine (ih_impl_calls_l3 e set' 0 o'39 ho38) _ rfl _ ?_
   cases hF
   repeat (first | refine chk.ga ?_ | simp -dsimp)
   all_goals (try omega)
 ·intro _f_impl_calls _f_impl_calls_l3 ih_impl_calls ih_impl_calls_l3 e set'28 i29 o hF
  intro c hc Q hq
  obtain rfl : c = _ := navEq hc rfl
  refine ALoopU.know fun hk hs => ?_
  have b20 := hk 20
  simp -dsimp at b20
  clear hk hs
  refine ALoopU.enter ?_
  repeat (first | refine chk.ga ?_ | simp -dsimp)
  refine abr.split (fun h30 => ?_) (fun h30 => ?_)
  ·have q31 : (i29 < e.kids.length) := auq h30
   have z32 : ((i29 : Int) < (e.kids.length : Int)) := auz
   rw [if_pos q31] at hF
   have hF := ob hF; obtain ⟨x33, e34, hF⟩ := hF
   have le34 := lt_of_get e34
   repeat (first | refine chk.ga ?_ | simp -dsimp [h30, z32, ↓e34])
   have hF := ob hF; obtain ⟨v35, e36, hF⟩ := hF
   refine ((ih_impl_calls x33 set'28 v35 e36)).go 0 rfl (by first | simp [h30, z32, ↓e34]; done | simp_all) (by simp) (by first | simp [h30, z32, ↓e34]; done | simp_all) ?_
   have w37 : IntKind.i64.wrap ((i29 : Int) + 1) = (i29 : Int) + 1 := wrap_in (by omega) (by omega)
   repeat (first | refine chk.ga ?_ | simp -dsimp [h30, z32, ↓e34, w37])
   refine Again.go ⟨[(1, .ptr 0 0), (20, .arr (List.map Vl.Expr.c e.kids)), (21, .lit (.int .i64 (e.kids.length : Int))), (22, .lit (.int .i64 ((i29 + 1) : Int)))], [.cells (fcB 4 v35)]⟩ (Gh.to3 (by simp) (by first | simp -dsimp [h30, z32, ↓e34, w37]; done | simp_all)) ?_
   exact (ih_impl_calls_l3 e v35 (i29 + 1) o hF) _ rfl _ hq
  ·have q31 : ¬ (i29 < e.kids.length) := auq h30
   have z32 : ¬ ((i29 : Int) < (e.kids.length : Int)) := auz
   rw [if_neg q31] at hF
   cases hF
   repeat (first | refine chk.ga ?_ | simp -dsimp [h30, q31, z32])
   refine Leave.go ⟨[], [.cells (fcB 4 set'28)]⟩ (Gh.to3 (by simp) (by first | simp -dsimp [h30, q31, z32]; done | simp_all)) ?_
   exact hq
 ·intro _f_impl_calls _f_impl_calls_l2 ih_impl_calls ih_impl_calls_l2 e set'16 i17 o hF
  intro c hc Q hq
  obtain rfl : c = _ := navEq hc rfl
  refine ALoopU.know fun hk hs => ?_
  have b20 := hk 20
  simp -dsimp at b20
  clear hk hs
  refine ALoopU.enter ?_
  repeat (first | refine chk.ga ?_ | simp -dsimp)
  refine abr.split (fun h18 => ?_) (fun h18 => ?_)
  ·have q19 : (i17 < e.kids.length) := auq h18
   have z20 : ((i17 : Int) < (e.kids.length : Int)) := auz
   rw [if_pos q19] at hF
   have hF := ob hF; obtain ⟨x21, e22, hF⟩ := hF
   have le22 := lt_of_get e22
   repeat (first | refine chk.ga ?_ | simp -dsimp [h18, z20, ↓e22])
   have hF := ob hF; obtain ⟨v23, e24, hF⟩ := hF
   refine ((ih_impl_calls x21 set'16 v23 e24)).go 0 rfl (by first | simp [h18, z20, ↓e22]; done | simp_all) (by simp) (by first | simp [h18, z20, ↓e22]; done | simp_all) ?_
   have w25 : IntKind.i64.wrap ((i17 : Int) + 1) = (i17 : Int) + 1 := wrap_in (by omega) (by omega)
   repeat (first | refine chk.ga ?_ | simp -dsimp [h18, z20, ↓e22, w25])
   refine Again.go ⟨[(1, .ptr 0 0), (20, .arr (List.map Vl.Expr.c e.kids)), (21, .lit (.int .i64 (e.kids.length : Int))), (22, .lit (.int .i64 ((i17 + 1) : Int)))], [.cells (fcB 4 v23)]⟩ (Gh.to3 (by simp) (by first | simp -dsimp [h18, z20, ↓e22, w25]; done | simp_all)) ?_
   exact (ih_impl_calls_l2 e v23 (i17 + 1) o hF) _ rfl _ hq
  ·have q19 : ¬ (i17 < e.kids.length) := auq h18
   have z20 : ¬ ((i17 : Int) < (e.kids.length : Int)) := auz
   rw [if_neg q19] at hF
   cases hF
   repeat (first | refine chk.ga ?_ | simp -dsimp [h18, q19, z20])
   refine Leave.go ⟨[], [.cells (fcB 4 set'16)]⟩ (Gh.to3 (by simp) (by first | simp -dsimp [h18, q19, z20]; done | simp_all)) ?_
   exact hq
 ·intro _f_impl_calls _f_impl_calls_l1 ih_impl_calls ih_impl_calls_l1 e set'7 i o hF
  intro c hc Q hq
  obtain rfl : c = _ := navEq hc rfl
  refine ALoopU.know fun hk hs => ?_
  have b20 := hk 20
  simp -dsimp at b20
  clear hk hs
  refine ALoopU.enter ?_
  repeat (first | refine chk.ga ?_ | simp -dsimp)
  refine abr.split (fun h8 => ?_) (fun h8 => ?_)
  ·have q9 : (i < e.kids.length) := auq h8
   have z10 : ((i : Int) < (e.kids.length : Int)) := auz
   rw [if_pos q9] at hF
   have hF := ob hF; obtain ⟨x, e11, hF⟩ := hF
   have le11 := lt_of_get e11
   repeat (first | refine chk.ga ?_ | simp -dsimp [h8, z10, ↓e11])
   have hF := ob hF; obtain ⟨v12, e13, hF⟩ := hF
   refine ((ih_impl_calls x set'7 v12 e13)).go 0 rfl (by first | simp [h8, z10, ↓e11]; done | simp_all) (by simp) (by first | simp [h8, z10, ↓e11]; done | simp_all) ?_
   have w14 : IntKind.i64.wrap ((i : Int) + 1) = (i : Int) + 1 := wrap_in (by omega) (by omega)
   repeat (first | refine chk.ga ?_ | simp -dsimp [h8, z10, ↓e11, w14])
   refine Again.go ⟨[(1, .ptr 0 0), (20, .arr (List.map Vl.Expr.c e.kids)), (21, .lit (.int .i64 (e.kids.length : Int))), (22, .lit (.int .i64 ((i + 1) : Int)))], [.cells (fcB 4 v12)]⟩ (Gh.to3 (by simp) (by first | simp -dsimp [h8, z10, ↓e11, w14]; done | simp_all)) ?_
   exact (ih_impl_calls_l1 e v12 (i + 1) o hF) _ rfl _ hq
  ·have q9 : ¬ (i < e.kids.length) := auq h8
   have z10 : ¬ ((i : Int) < (e.kids.length : Int)) := auz
   rw [if_neg q9] at hF
   cases hF
   repeat (first | refine chk.ga ?_ | simp -dsimp [h8, q9, z10])
   refine Leave.go ⟨[], [.cells (fcB 4 set'7)]⟩ (Gh.to3 (by simp) (by first | simp -dsimp [h8, q9, z10]; done | simp_all)) ?_
   exact hq

theorem C.impl_calls (B : Nat) (hB1 : 67108864 ≤ B) (hB2 : B ≤ 9223372036854775807) (e : Vl.Expr) (set' : Nat → Bool) (r : Nat → Bool) (hF : F.impl_calls e set' = some r) : MutCall Try.prog B 41 (fcB 4 set') [.agg [.lit (.int .i64 e.op), .lit (.int .i64 e.n), .lit (.int .i64 e.ctor), .arr (List.map Vl.Expr.c e.kids)], .ptr 0 0] (.tup []) (fcB 4 r) :=
 (CC.impl_calls B hB1 hB2 ).1 e set' r hF

theorem C.impl_calls_l3 (B : Nat) (hB1 : 67108864 ≤ B) (hB2 : B ≤ 9223372036854775807) (e : Vl.Expr) (set'28 : Nat → Bool) (i29 : Nat) (o : Nat → Bool) (hF : F.impl_calls_l3 e set'28 i29 = some o) : ∀ (c : Code), navO [1, 1, 1, 0, 0] (bodyOf Try.f41) = some c → ∀ (Q : Exit → ASt → Prop), (Q (.exit 0) ⟨[], [.cells (fcB 4 o)]⟩) → ALoopU Try.prog B 1 30 (hold c .mk) ⟨[(1, .ptr 0 0), (20, .arr (List.map Vl.Expr.c e.kids)), (21, .lit (.int .i64 (e.kids.length : Int))), (22, .lit (.int .i64 (i29 : Int)))], [.cells (fcB 4 set'28)]⟩ (hold Q .mk) :=
 (CC.impl_calls B hB1 hB2 ).2.1 e set'28 i29 o hF

theorem C.impl_calls_l2 (B : Nat) (hB1 : 67108864 ≤ B) (hB2 : B ≤ 9223372036854775807) (e : Vl.Expr) (set'16 : Nat → Bool) (i17 : Nat) (o : Nat → Bool) (hF : F.impl_calls_l2 e set'16 i17 = some o) : ∀ (c : Code), navO [1, 1, 1, 0, 0] (bodyOf Try.f41) = some c → ∀ (Q : Exit → ASt → Prop), (Q (.exit 0) ⟨[], [.cells (fcB 4 o)]⟩) → ALoopU Try.prog B 1 30 (hold c .mk) ⟨[(1, .ptr 0 0), (20, .arr (List.map Vl.Expr.c e.kids)), (21, .lit (.int .i64 (e.kids.length : Int))), (22, .lit (.int .i64 (i17 : Int)))], [.cells (fcB 4 set'16)]⟩ (hold Q .mk) :=
 (CC.impl_calls B hB1 hB2 ).2.2.1 e set'16 i17 o hF

theorem C.impl_calls_l1 (B : Nat) (hB1 : 67108864 ≤ B) (hB2 : B ≤ 9223372036854775807) (e : Vl.Expr) (set'7 : Nat → Bool) (i : Nat) (o : Nat → Bool) (hF : F.impl_calls_l1 e set'7 i = some o) : ∀ (c : Code), navO [1, 1, 1, 0, 0] (bodyOf Try.f41) = some c → ∀ (Q : Exit → ASt → Prop), (Q (.exit 0) ⟨[], [.cells (fcB 4 o)]⟩) → ALoopU Try.prog B 1 30 (hold c .mk) ⟨[(1, .ptr 0 0), (20, .arr (List.map Vl.Expr.c e.kids)), (21, .lit (.int .i64 (e.kids.length : Int))), (22, .lit (.int .i64 (i : Int)))], [.cells (fcB 4 set'7)]⟩ (hold Q .mk) :=
 (CC.impl_calls B hB1 hB2 ).2.2.2 e set'7 i o hF

set_option maxRecDepth 100000 in
set_option maxHeartbeats 4000000 in
theorem CC.impl_CallsOf__f_l1 (B : Nat) (hB1 : 67108864 ≤ B) (hB2 : B ≤ 9223372036854775807) (v : Nat → Bool) : (∀ (i : Nat) (out : List Int) (o : List Int), F.impl_CallsOf_l1 v i out = some o → ∀ (c : Code), navO [1, 1, 1, 1, 0, 1, 0, 0] (bodyOf Try.f14) = some c → ∀ (Q : Exit → ASt → Prop), (Q (.exit 0) ⟨[(4, .own 3 (List.length (α := Int) o))], [.pack [] [], .dead, .dead, .elems 1 (List.map cI o)]⟩) → ALoopU Try.prog B 0 21 (hold c .mk) ⟨[(4, .own 3 (List.length (α := Int) out)), (9, .agg (fcB 4 v)), (10, .lit (.int .i64 (i : Int)))], [.pack [] [], .dead, .dead, .elems 1 (List.map cI out)]⟩ (hold Q .mk)) := by
 refine F.impl_CallsOf_l1.partial_correctness v
  (fun i out o => ∀ (c : Code), navO [1, 1, 1, 1, 0, 1, 0, 0] (bodyOf Try.f14) = some c → ∀ (Q : Exit → ASt → Prop), (Q (.exit 0) ⟨[(4, .own 3 (List.length (α := Int) o))], [.pack [] [], .dead, .dead, .elems 1 (List.map cI o)]⟩) → ALoopU Try.prog B 0 21 (hold c .mk) ⟨[(4, .own 3 (List.length (α := Int) out)), (9, .agg (fcB 4 v)), (10, .lit (.int .i64 (i : Int)))], [.pack [] [], .dead, .dead, .elems 1 (List.map cI out)]⟩ (hold Q .mk))
  ?_
 ·intro _f_impl_CallsOf__f_l1 ih_impl_CallsOf__f_l1 i out o hF
  intro c hc Q hq
  obtain rfl : c = _ := navEq hc rfl
  refine ALoopU.know fun hk hs => ?_
  have d3 := hs 3 _ rfl
  simp -dsimp [Blk.bnd] at d3
  clear hk hs
  refine ALoopU.enter ?_
  repeat (first | refine chk.ga ?_ | simp -dsimp)
  refine abr.split (fun h2 => ?_) (fun h2 => ?_)
  ·have q3 : (i < 4) := auq h2
   have z4 : ((i : Int) < (4 : Int)) := auz
   rw [if_pos q3] at hF
   have c5 : i < 4 := by assumption
   repeat (first | refine chk.ga ?_ | simp -dsimp [h2, z4, c5])
   refine abr.split (fun h6 => ?_) (fun h6 => ?_)
   ·have q7 : (v i = true) := auq h6
    rw [if_pos q7] at hF
    have hF := oc hF; obtain ⟨c8, hF⟩ := hF
    have hF := oc hF; obtain ⟨c9, hF⟩ := hF
    have w10 : IntKind.i64.wrap ((i : Int) + 1) = (i : Int) + 1 := wrap_in (by omega) (by omega)
    repeat (first | refine chk.ga ?_ | simp -dsimp [h2, z4, c5, h6, w10])
    refine Again.go ⟨[(4, .own 3 (List.length (α := Int) (out ++ [(i : Int)]))), (9, .agg (fcB 4 v)), (10, .lit (.int .i64 ((i + 1) : Int)))], [.pack [] [], .dead, .dead, .elems 1 (List.map cI (out ++ [(i : Int)]))]⟩ (Gh.to3 (by simp) (by first | simp -dsimp [h2, z4, c5, h6, w10]; done | simp_all)) ?_
    exact (ih_impl_CallsOf__f_l1 (i + 1) (out ++ [(i : Int)]) o hF) _ rfl _ hq
   ·have q7 : ¬ (v i = true) := auq h6
    rw [if_neg q7] at hF
    have hF := oc hF; obtain ⟨c11, hF⟩ := hF
    have w12 : IntKind.i64.wrap ((i : Int) + 1) = (i : Int) + 1 := wrap_in (by omega) (by omega)
    repeat (first | refine chk.ga ?_ | simp -dsimp [h2, z4, c5, h6, q7, w12])
    refine Again.go ⟨[(4, .own 3 (List.length (α := Int) out)), (9, .agg (fcB 4 v)), (10, .lit (.int .i64 ((i + 1) : Int)))], [.pack [] [], .dead, .dead, .elems 1 (List.map cI out)]⟩ (Gh.to3 (by simp) (by first | simp -dsimp [h2, z4, c5, h6, q7, w12]; done | simp_all)) ?_
    exact (ih_impl_CallsOf__f_l1 (i + 1) out o hF) _ rfl _ hq
  ·have q3 : ¬ (i < 4) := auq h2
   have z4 : ¬ ((i : Int) < (4 : Int)) := auz
   rw [if_neg q3] at hF
   cases hF
   repeat (first | refine chk.ga ?_ | simp -dsimp [h2, q3, z4])
   refine Leave.go ⟨[(4, .own 3 (List.length (α := Int) out))], [.pack [] [], .dead, .dead, .elems 1 (List.map cI out)]⟩ (Gh.to3 (by simp) (by first | simp -dsimp [h2, q3, z4]; done | simp_all)) ?_
   exact hq

theorem C.impl_CallsOf__f_l1 (B : Nat) (hB1 : 67108864 ≤ B) (hB2 : B ≤ 9223372036854775807) (v : Nat → Bool) (i : Nat) (out : List Int) (o : List Int) (hF : F.impl_CallsOf_l1 v i out = some o) : ∀ (c : Code), navO [1, 1, 1, 1, 0, 1, 0, 0] (bodyOf Try.f14) = some c → ∀ (Q : Exit → ASt → Prop), (Q (.exit 0) ⟨[(4, .own 3 (List.length (α := Int) o))], [.pack [] [], .dead, .dead, .elems 1 (List.map cI o)]⟩) → ALoopU Try.prog B 0 21 (hold c .mk) ⟨[(4, .own 3 (List.length (α := Int) out)), (9, .agg (fcB 4 v)), (10, .lit (.int .i64 (i : Int)))], [.pack [] [], .dead, .dead, .elems 1 (List.map cI out)]⟩ (hold Q .mk) :=
 (CC.impl_CallsOf__f_l1 B hB1 hB2 v) i out o hF

set_option maxRecDepth 100000 in
set_option maxHeartbeats 4000000 in
theorem C.impl_CallsOf__f (B : Nat) (hB1 : 67108864 ≤ B) (hB2 : B ≤ 9223372036854775807) (e : Vl.Expr) (r : List Int) (hF : F.impl_CallsOf e = some r) : FCall Try.prog B 14 [.agg [.lit (.int .i64 e.op), .lit (.int .i64 e.n), .lit (.int .i64 e.ctor), .arr (List.map Vl.Expr.c e.kids)]] (.arr (List.map cI r)) := by
 unfold F.impl_CallsOf at hF
 refine FCall.enterG Try.func14 (by kernel_rfl) rfl Try.ntmps14 (by simp) (Gh.packZ .nil) ?_
 repeat (first | refine chk.ga ?_ | simp -dsimp)
 have hF := ob hF; obtain ⟨v, e1, hF⟩ := hF
 refine ((C.impl_calls B hB1 hB2 e (fun _ => false) v e1)).go 2 rfl (by simp) (by simp) (by simp) ?_
 repeat (first | refine chk.ga ?_ | simp -dsimp)
 have hF := ob hF; obtain ⟨o', ho13, hF⟩ := hF
 refine ALoop.goU ⟨[(4, .own 3 (List.length (α := Int) [])), (9, .agg (fcB 4 v)), (10, .lit (.int .i64 (0 : Int)))], [.pack [] [], .dead, .dead, .elems 1 (List.map cI [])]⟩ (by refine Gh.trans (Gh.nil 4 1 (by simp -dsimp)) ?_; exact (Gh.to3 (by simp) (by simp -dsimp))) ?_
 refine (C.impl_CallsOf__f_l1 B hB1 hB2 v 0 [] o' ho13) _ rfl _ ?_
 cases hF
 repeat (first | refine chk.ga ?_ | simp -dsimp)
 exact ⟨_, by decide, (.cell (CD.ownE 3 _ 1 rfl (lits_cI _) (by simp) .nil) .nil : CT _ _ _ _)⟩

set_option maxRecDepth 100000 in
set_option maxHeartbeats 4000000 in
theorem CC.laws_eqIntS_l1 (B : Nat) (hB1 : 67108864 ≤ B) (hB2 : B ≤ 9223372036854775807) (a : List Int) (b : List Int) : (∀ (i : Nat) (o : Lo Bool Unit), F.laws_eqIntS_l1 a b i = some o → ∀ (c : Code), navO [1, 1, 0, 1, 0, 0] (bodyOf Try.f15) = some c → ∀ (Q : Exit → ASt → Prop), o.post (fun r => ∀ st, Post Try.prog Try.f15 (fun r' _ => r'.le (.lit (.bool r))) .ret st → Q .ret st) (fun s => Q (.exit 0) ⟨[], []⟩) → ALoopU Try.prog B 0 26 (hold c .mk) ⟨[(0, .arr (List.map cI a)), (1, .arr (List.map cI b)), (5, .lit (.int .i64 (i : Int)))], []⟩ (hold Q .mk)) := by
 refine F.laws_eqIntS_l1.partial_correctness a b
  (fun i o => ∀ (c : Code), navO [1, 1, 0, 1, 0, 0] (bodyOf Try.f15) = some c → ∀ (Q : Exit → ASt → Prop), o.post (fun r => ∀ st, Post Try.prog Try.f15 (fun r' _ => r'.le (.lit (.bool r))) .ret st → Q .ret st) (fun s => Q (.exit 0) ⟨[], []⟩) → ALoopU Try.prog B 0 26 (hold c .mk) ⟨[(0, .arr (List.map cI a)), (1, .arr (List.map cI b)), (5, .lit (.int .i64 (i : Int)))], []⟩ (hold Q .mk))
  ?_
 ·intro _f_laws_eqIntS_l1 ih_laws_eqIntS_l1 i o hF
  intro c hc Q hq
  obtain rfl : c = _ := navEq hc rfl
  refine ALoopU.know fun hk hs => ?_
  have b0 := hk 0
  simp -dsimp at b0
  have b1 := hk 1
  simp -dsimp at b1
  clear hk hs
  refine ALoopU.enter ?_
  repeat (first | refine chk.ga ?_ | simp -dsimp)
  refine abr.split (fun h4 => ?_) (fun h4 => ?_)
  ·have q5 : (i < a.length) := auq h4
   have z6 : ((i : Int) < (a.length : Int)) := auz
   rw [if_pos q5] at hF
   repeat (first | refine chk.ga ?_ | simp -dsimp [h4, z6])
   refine ADraw.simple follows (by kernel_rfl) (by kernel_rfl) ?_
   have hF := ob hF; obtain ⟨x, e7, hF⟩ := hF
   have le7 := lt_of_get e7
   have hF := ob hF; obtain ⟨x8, e9, hF⟩ := hF
   have le9 := lt_of_get e9
   repeat (first | refine chk.ga ?_ | simp -dsimp [h4, z6, ↓e7, ↓e9])
   refine abr.split (fun h10 => ?_) (fun h10 => ?_)
   ·have q11 : ¬ (x = x8) := auq h10
    rw [if_neg q11] at hF
    cases hF
    repeat (first | refine chk.ga ?_ | simp -dsimp [h4, z6, ↓e7, ↓e9, h10, q11])
    refine Leave.go _ (Gh.refl _) (hq _ ?_)
    repeat (first | refine chk.ga ?_ | simp -dsimp [h4, z6, ↓e7, ↓e9, h10, q11])
   ·have q11 : (x = x8) := auq h10
    rw [if_pos q11] at hF
    have w12 : IntKind.i64.wrap ((i : Int) + 1) = (i : Int) + 1 := wrap_in (by omega) (by omega)
    repeat (first | refine chk.ga ?_ | simp -dsimp [h4, z6, ↓e7, ↓e9, h10, q11, w12])
    refine Again.go ⟨[(0, .arr (List.map cI a)), (1, .arr (List.map cI b)), (5, .lit (.int .i64 ((i + 1) : Int)))], []⟩ (Gh.to3 (by simp) (by first | simp -dsimp [h4, z6, ↓e7, ↓e9, h10, q11, w12]; done | simp_all)) ?_
    exact (ih_laws_eqIntS_l1 (i + 1) o hF) _ rfl _ hq
  ·have q5 : ¬ (i < a.length) := auq h4
   have z6 : ¬ ((i : Int) < (a.length : Int)) := auz
   rw [if_neg q5] at hF
   cases hF
   repeat (first | refine chk.ga ?_ | simp -dsimp [h4, q5, z6])
   refine Leave.go ⟨[], []⟩ (Gh.to3 (by simp) (by first | simp -dsimp [h4, q5, z6]; done | simp_all)) ?_
   exact hq

theorem C.laws_eqIntS_l1 (B : Nat) (hB1 : 67108864 ≤ B) (hB2 : B ≤ 9223372036854775807) (a : List Int) (b : List Int) (i : Nat) (o : Lo Bool Unit) (hF : F.laws_eqIntS_l1 a b i = some o) : ∀ (c : Code), navO [1, 1, 0, 1, 0, 0] (bodyOf Try.f15) = some c → ∀ (Q : Exit → ASt → Prop), o.post (fun r => ∀ st, Post Try.prog Try.f15 (fun r' _ => r'.le (.lit (.bool r))) .ret st → Q .ret st) (fun s => Q (.exit 0) ⟨[], []⟩) → ALoopU Try.prog B 0 26 (hold c .mk) ⟨[(0, .arr (List.map cI a)), (1, .arr (List.map cI b)), (5, .lit (.int .i64 (i : Int)))], []⟩ (hold Q .mk) :=
 (CC.laws_eqIntS_l1 B hB1 hB2 a b) i o hF

set_option maxRecDepth 100000 in
set_option maxHeartbeats 4000000 in
theorem C.laws_eqIntS (B : Nat) (hB1 : 67108864 ≤ B) (hB2 : B ≤ 9223372036854775807) (a : List Int) (b : List Int) (r : Bool) (hF : F.laws_eqIntS a b = some r) : PureCall Try.prog B 15 [.arr (List.map cI a), .arr (List.map cI b)] (.lit (.bool r)) := by
 unfold F.laws_eqIntS at hF
 refine PureCall.enterLe Try.func15 (by kernel_rfl) rfl Try.ntmps15 (by simp) (by simp) ?_
 repeat (first | refine chk.ga ?_ | simp -dsimp)
 refine abr.split (fun h1 => ?_) (fun h1 => ?_)
 ·have q2 : ¬ (a.length = b.length) := auq h1
  have z3 : ¬ ((a.length : Int) = (b.length : Int)) := auz
  rw [if_neg q2] at hF
  cases hF
  repeat (first | refine chk.ga ?_ | simp -dsimp [h1, q2, z3])
  all_goals (try omega)
 ·have q2 : (a.length = b.length) := auq h1
  have z3 : ((a.length : Int) = (b.length : Int)) := auz
  rw [if_pos q2] at hF
  repeat (first | refine chk.ga ?_ | simp -dsimp [h1, q2, z3])
  have hF := ob hF; obtain ⟨o', ho13, hF⟩ := hF
  refine ALoop.goU ⟨[(0, .arr (List.map cI a)), (1, .arr (List.map cI b)), (5, .lit (.int .i64 (0 : Int)))], []⟩ (Gh.to3 (by simp) (by first | simp -dsimp [h1, q2, z3]; done | simp_all)) ?_
  refine (C.laws_eqIntS_l1 B hB1 hB2 a b 0 o' ho13) _ rfl _ ?_
  rcases o' with r0 | sx
  ·dsimp only at hF
   cases hF
   intro st h
   simpa using h
  ·dsimp only at hF
   cases hF
   repeat (first | refine chk.ga ?_ | simp -dsimp)
   all_goals (try omega)

set_option maxRecDepth 100000 in
set_option maxHeartbeats 4000000 in
theorem CC.laws_eqExpr (B : Nat) (hB1 : 67108864 ≤ B) (hB2 : B ≤ 9223372036854775807)  : (∀ (a : Vl.Expr) (b : Vl.Expr) (r : Bool), F.laws_eqExpr a b = some r → PureCall Try.prog B 12 [.agg [.lit (.int .i64 a.op), .lit (.int .i64 a.n), .lit (.int .i64 a.ctor), .arr (List.map Vl.Expr.c a.kids)], .agg [.lit (.int .i64 b.op), .lit (.int .i64 b.n), .lit (.int .i64 b.ctor), .arr (List.map Vl.Expr.c b.kids)]] (.lit (.bool r))) ∧
  (∀ (a : List Vl.Expr) (b : List Vl.Expr) (r : Bool), F.laws_eqExprS a b = some r → PureCall Try.prog B 39 [.arr (List.map Vl.Expr.c a), .arr (List.map Vl.Expr.c b)] (.lit (.bool r))) ∧
  (∀ (a : List Vl.Expr) (b : List Vl.Expr) (i : Nat) (o : Lo Bool Unit), F.laws_eqExprS_l1 a b i = some o → ∀ (c : Code), navO [1, 1, 0, 1, 0, 0] (bodyOf Try.f39) = some c → ∀ (Q : Exit → ASt → Prop), o.post (fun r => ∀ st, Post Try.prog Try.f39 (fun r' _ => r'.le (.lit (.bool r))) .ret st → Q .ret st) (fun s => Q (.exit 0) ⟨[], []⟩) → ALoopU Try.prog B 0 27 (hold c .mk) ⟨[(0, .arr (List.map Vl.Expr.c a)), (1, .arr (List.map Vl.Expr.c b)), (5, .lit (.int .i64 (i : Int)))], []⟩ (hold Q .mk)) := by
 refine F.laws_eqExpr.mutual_partial_correctness 
  (fun a b r => PureCall Try.prog B 12 [.agg [.lit (.int .i64 a.op), .lit (.int .i64 a.n), .lit (.int .i64 a.ctor), .arr (List.map Vl.Expr.c a.kids)], .agg [.lit (.int .i64 b.op), .lit (.int .i64 b.n), .lit (.int .i64 b.ctor), .arr (List.map Vl.Expr.c b.kids)]] (.lit (.bool r)))
  (fun a b r => PureCall Try.prog B 39 [.arr (List.map Vl.Expr.c a), .arr (List.map Vl.Expr.c b)] (.lit (.bool r)))
  (fun a b i o => ∀ (c : Code), navO [1, 1, 0, 1, 0, 0] (bodyOf Try.f39) = some c → ∀ (Q : Exit → ASt → Prop), o.post (fun r => ∀ st, Post Try.prog Try.f39 (fun r' _ => r'.le (.lit (.bool r))) .ret st → Q .ret st) (fun s => Q (.exit 0) ⟨[], []⟩) → ALoopU Try.prog B 0 27 (hold c .mk) ⟨[(0, .arr (List.map Vl.Expr.c a)), (1, .arr (List.map Vl.Expr.c b)), (5, .lit (.int .i64 (i : Int)))], []⟩ (hold Q .mk))
  ?_ ?_ ?_
 ·intro _f_laws_eqExprS ih_laws_eqExprS a b r hF
  refine PureCall.enterLe Try.func12 (by kernel_rfl) rfl Try.ntmps12 (by simp) (by simp) ?_
  repeat (first | refine chk.ga ?_ | simp -dsimp)
  refine abr.split (fun h1 => ?_) (fun h1 => ?_)
  ·have q2 : ¬ (a.op = b.op) := auq h1
   rw [if_neg q2] at hF
   cases hF
   repeat (first | refine chk.ga ?_ | simp -dsimp [h1, q2])
   all_goals (try omega)
  ·have q2 : (a.op = b.op) := auq h1
   rw [if_pos q2] at hF
   repeat (first | refine chk.ga ?_ | simp -dsimp [h1, q2])
   refine abr.split (fun h3 => ?_) (fun h3 => ?_)
   ·have q4 : ¬ (a.n = b.n) := auq h3
    rw [if_neg q4] at hF
    cases hF
    repeat (first | refine chk.ga ?_ | simp -dsimp [h1, q2, h3, q4])
    all_goals (try omega)
   ·have q4 : (a.n = b.n) := auq h3
    rw [if_pos q4] at hF
    repeat (first | refine chk.ga ?_ | simp -dsimp [h1, q2, h3, q4])
    refine abr.split (fun h5 => ?_) (fun h5 => ?_)
    ·have q6 : ¬ (a.ctor = b.ctor) := auq h5
     rw [if_neg q6] at hF
     cases hF
     repeat (first | refine chk.ga ?_ | simp -dsimp [h1, q2, h3, q4, h5, q6])
     all_goals (try omega)
    ·have q6 : (a.ctor = b.ctor) := auq h5
     rw [if_pos q6] at hF
     repeat (first | refine chk.ga ?_ | simp -dsimp [h1, q2, h3, q4, h5, q6])
     have hF := ob hF; obtain ⟨v, e7, hF⟩ := hF
     refine ((ih_laws_eqExprS a.kids b.kids v e7)).goW (by first | simp [h1, q2, h3, q4, h5, q6]; done | simp_all) (by simp) ?_
     repeat (first | refine chk.ga ?_ | simp -dsimp [h1, q2, h3, q4, h5, q6])
     refine abr.split (fun h8 => ?_) (fun h8 => ?_)
     ·have q9 : ¬ (v = true) := auq h8
      rw [if_neg q9] at hF
      cases hF
      repeat (first | refine chk.ga ?_ | simp -dsimp [h1, q2, h3, q4, h5, q6, h8, q9])
      all_goals (try omega)
     ·have q9 : (v = true) := auq h8
      rw [if_pos q9] at hF
      cases hF
      repeat (first | refine chk.ga ?_ | simp -dsimp [h1, q2, h3, q4, h5, q6, h8, q9])
      all_goals (try omega)
 ·intro _f_laws_eqExprS_l1 ih_laws_eqExprS_l1 a b r hF
  refine PureCall.enterLe Try.func39 (by kernel_rfl) rfl Try.ntmps39 (by simp) (by simp) ?_
  repeat (first | refine chk.ga ?_ | simp -dsimp)
  refine abr.split (fun h1 => ?_) (fun h1 => ?_)
  ·have q2 : ¬ (a.length = b.length) := auq h1
   have z3 : ¬ ((a.length : Int) = (b.length : Int)) := auz
   rw [if_neg q2] at hF
   cases hF
   repeat (first | refine chk.ga ?_ | simp -dsimp [h1, q2, z3])
   all_goals (try omega)
  ·have q2 : (a.length = b.length) := auq h1
   have z3 : ((a.length : Int) = (b.length : Int)) := auz
   rw [if_pos q2] at hF
   repeat (first | refine chk.ga ?_ | simp -dsimp [h1, q2, z3])
   have hF := ob hF; obtain ⟨o', ho14, hF⟩ := hF
   refine ALoop.goU ⟨[(0, .arr (List.map Vl.Expr.c a)), (1, .arr (List.map Vl.Expr.c b)), (5, .lit (.int .i64 (0 : Int)))], []⟩ (Gh.to3 (by simp) (by first | simp -dsimp [h1, q2, z3]; done | simp_all)) ?_
   refine (ih_laws_eqExprS_l1 a b 0 o' ho14) _ rfl _ ?_
   rcases o' with r0 | sx
   ·dsimp only at hF
    cases hF
    intro st h
    simpa using h
   ·dsimp only at hF
    cases hF
    repeat (first | refine chk.ga ?_ | simp -dsimp)
    all_goals (try omega)
 ·intro _f_laws_eqExpr _f_laws_eqExprS_l1 ih_laws_eqExpr ih_laws_eqExprS_l1 a b i o hF
  intro c hc Q hq
  obtain rfl : c = _ := navEq hc rfl
  refine ALoopU.know fun hk hs => ?_
  have b0 := hk 0
  simp -dsimp at b0
  have b1 := hk 1
  simp -dsimp at b1
  clear hk hs
  refine ALoopU.enter ?_
  repeat (first | refine chk.ga ?_ | simp -dsimp)
  refine abr.split (fun h4 => ?_) (fun h4 => ?_)
  ·have q5 : (i < a.length) := auq h4
   have z6 : ((i : Int) < (a.length : Int)) := auz
   rw [if_pos q5] at hF
   repeat (first | refine chk.ga ?_ | simp -dsimp [h4, z6])
   refine ADraw.simple follows (by kernel_rfl) (by kernel_rfl) ?_
   have hF := ob hF; obtain ⟨x, e7, hF⟩ := hF
   have le7 := lt_of_get e7
   have hF := ob hF; obtain ⟨x8, e9, hF⟩ := hF
   have le9 := lt_of_get e9
   repeat (first | refine chk.ga ?_ | simp -dsimp [h4, z6, ↓e7, ↓e9])
   have hF := ob hF; obtain ⟨v, e10, hF⟩ := hF
   refine ((ih_laws_eqExpr x x8 v e10)).pgoW (by first | simp [h4, z6, ↓e7, ↓e9]; done | simp_all) (by simp) ?_
   repeat (first | refine chk.ga ?_ | simp -dsimp [h4, z6, ↓e7, ↓e9])
   refine abr.split (fun h11 => ?_) (fun h11 => ?_)
   ·have q12 : ¬ (v = true) := auq h11
    rw [if_neg q12] at hF
    cases hF
    repeat (first | refine chk.ga ?_ | simp -dsimp [h4, z6, ↓e7, ↓e9, h11, q12])
    refine Leave.go _ (Gh.refl _) (hq _ ?_)
    repeat (first | refine chk.ga ?_ | simp -dsimp [h4, z6, ↓e7, ↓e9, h11, q12])
   ·have q12 : (v = true) := auq h11
    rw [if_pos q12] at hF
    have w13 : IntKind.i64.wrap ((i : Int) + 1) = (i : Int) + 1 := wrap_in (by omega) (by omega)
    repeat (first | refine chk.ga ?_ | simp -dsimp [h4, z6, ↓e7, ↓e9, h11, q12, w13])
    refine Again.go ⟨[(0, .arr (List.map Vl.Expr.c a)), (1, .arr (List.map Vl.Expr.c b)), (5, .lit (.int .i64 ((i + 1) : Int)))], []⟩ (Gh.to3 (by simp) (by first | simp -dsimp [h4, z6, ↓e7, ↓e9, h11, q12, w13]; done | simp_all)) ?_
    exact (ih_laws_eqExprS_l1 a b (i + 1) o hF) _ rfl _ hq
  ·have q5 : ¬ (i < a.length) := auq h4
   have z6 : ¬ ((i : Int) < (a.length : Int)) := auz
   rw [if_neg q5] at hF
   cases hF
   repeat (first | refine chk.ga ?_ | simp -dsimp [h4, q5, z6])
   refine Leave.go ⟨[], []⟩ (Gh.to3 (by simp) (by first | simp -dsimp [h4, q5, z6]; done | simp_all)) ?_
   exact hq

theorem C.laws_eqExpr (B : Nat) (hB1 : 67108864 ≤ B) (hB2 : B ≤ 9223372036854775807) (a : Vl.Expr) (b : Vl.Expr) (r : Bool) (hF : F.laws_eqExpr a b = some r) : PureCall Try.prog B 12 [.agg [.lit (.int .i64 a.op), .lit (.int .i64 a.n), .lit (.int .i64 a.ctor), .arr (List.map Vl.Expr.c a.kids)], .agg [.lit (.int .i64 b.op), .lit (.int .i64 b.n), .lit (.int .i64 b.ctor), .arr (List.map Vl.Expr.c b.kids)]] (.lit (.bool r)) :=
 (CC.laws_eqExpr B hB1 hB2 ).1 a b r hF

theorem C.laws_eqExprS (B : Nat) (hB1 : 67108864 ≤ B) (hB2 : B ≤ 9223372036854775807) (a : List Vl.Expr) (b : List Vl.Expr) (r : Bool) (hF : F.laws_eqExprS a b = some r) : PureCall Try.prog B 39 [.arr (List.map Vl.Expr.c a), .arr (List.map Vl.Expr.c b)] (.lit (.bool r)) :=
 (CC.laws_eqExpr B hB1 hB2 ).2.1 a b r hF

theorem C.laws_eqExprS_l1 (B : Nat) (hB1 : 67108864 ≤ B) (hB2 : B ≤ 9223372036854775807) (a : List Vl.Expr) (b : List Vl.Expr) (i : Nat) (o : Lo Bool Unit) (hF : F.laws_eqExprS_l1 a b i = some o) : ∀ (c : Code), navO [1, 1, 0, 1, 0, 0] (bodyOf Try.f39) = some c → ∀ (Q : Exit → ASt → Prop), o.post (fun r => ∀ st, Post Try.prog Try.f39 (fun r' _ => r'.le (.lit (.bool r))) .ret st → Q .ret st) (fun s => Q (.exit 0) ⟨[], []⟩) → ALoopU Try.prog B 0 27 (hold c .mk) ⟨[(0, .arr (List.map Vl.Expr.c a)), (1, .arr (List.map Vl.Expr.c b)), (5, .lit (.int .i64 (i : Int)))], []⟩ (hold Q .mk) :=
 (CC.laws_eqExpr B hB1 hB2 ).2.2 a b i o hF

set_option maxRecDepth 100000 in
set_option maxHeartbeats 4000000 in
theorem CC.laws_heldIntS_l1 (B : Nat) (hB1 : 67108864 ≤ B) (hB2 : B ≤ 9223372036854775807) (a : List Int) : (∀ (k1 : Int) (i : Nat) (o : Lo Int Int), F.laws_heldIntS_l1 a k1 i = some o → ∀ (c : Code), navO [1, 0, 1, 0, 0] (bodyOf Try.f18) = some c → ∀ (Q : Exit → ASt → Prop), o.post (fun r => ∀ st, Post Try.prog Try.f18 (fun r' _ => r'.le (.lit (.int .i64 r))) .ret st → Q .ret st) (fun s => Q (.exit 0) ⟨[(1, .lit (.int .i64 s))], []⟩) → ALoopU Try.prog B 0 21 (hold c .mk) ⟨[(0, .arr (List.map cI a)), (1, .lit (.int .i64 k1)), (5, .lit (.int .i64 (i : Int)))], []⟩ (hold Q .mk)) := by
 refine F.laws_heldIntS_l1.partial_correctness a
  (fun k1 i o => ∀ (c : Code), navO [1, 0, 1, 0, 0] (bodyOf Try.f18) = some c → ∀ (Q : Exit → ASt → Prop), o.post (fun r => ∀ st, Post Try.prog Try.f18 (fun r' _ => r'.le (.lit (.int .i64 r))) .ret st → Q .ret st) (fun s => Q (.exit 0) ⟨[(1, .lit (.int .i64 s))], []⟩) → ALoopU Try.prog B 0 21 (hold c .mk) ⟨[(0, .arr (List.map cI a)), (1, .lit (.int .i64 k1)), (5, .lit (.int .i64 (i : Int)))], []⟩ (hold Q .mk))
  ?_
 ·intro _f_laws_heldIntS_l1 ih_laws_heldIntS_l1 k1 i o hF
  intro c hc Q hq
  obtain rfl : c = _ := navEq hc rfl
  refine ALoopU.know fun hk hs => ?_
  have b0 := hk 0
  simp -dsimp at b0
  clear hk hs
  refine ALoopU.enter ?_
  repeat (first | refine chk.ga ?_ | simp -dsimp)
  refine abr.split (fun h2 => ?_) (fun h2 => ?_)
  ·have q3 : (i < a.length) := auq h2
   have z4 : ((i : Int) < (a.length : Int)) := auz
   rw [if_pos q3] at hF
   have hF := ob hF; obtain ⟨x, e5, hF⟩ := hF
   have le5 := lt_of_get e5
   repeat (first | refine chk.ga ?_ | simp -dsimp [h2, z4, ↓e5])
   refine abr.split (fun h6 => ?_) (fun h6 => ?_)
   ·have q7 : ¬ (x = k1) := auq h6
    rw [if_neg q7] at hF
    cases hF
    repeat (first | refine chk.ga ?_ | simp -dsimp [h2, z4, ↓e5, h6, q7])
    refine Leave.go _ (Gh.refl _) (hq _ ?_)
    repeat (first | refine chk.ga ?_ | simp -dsimp [h2, z4, ↓e5, h6, q7])
   ·have q7 : (x = k1) := auq h6
    rw [if_pos q7] at hF
    have w8 : IntKind.i64.wrap ((i : Int) + 1) = (i : Int) + 1 := wrap_in (by omega) (by omega)
    repeat (first | refine chk.ga ?_ | simp -dsimp [h2, z4, ↓e5, h6, q7, w8])
    refine Again.go ⟨[(0, .arr (List.map cI a)), (1, .lit (.int .i64 (IntKind.i64.wrap (k1 + 1)))), (5, .lit (.int .i64 ((i + 1) : Int)))], []⟩ (Gh.to3 (by simp) (by first | simp -dsimp [h2, z4, ↓e5, h6, q7, w8]; done | simp_all)) ?_
    exact (ih_laws_heldIntS_l1 (IntKind.i64.wrap (k1 + 1)) (i + 1) o hF) _ rfl _ hq
  ·have q3 : ¬ (i < a.length) := auq h2
   have z4 : ¬ ((i : Int) < (a.length : Int)) := auz
   rw [if_neg q3] at hF
   cases hF
   repeat (first | refine chk.ga ?_ | simp -dsimp [h2, q3, z4])
   refine Leave.go ⟨[(1, .lit (.int .i64 k1))], []⟩ (Gh.to3 (by simp) (by first | simp -dsimp [h2, q3, z4]; done | simp_all)) ?_
   exact hq

theorem C.laws_heldIntS_l1 (B : Nat) (hB1 : 67108864 ≤ B) (hB2 : B ≤ 9223372036854775807) (a : List Int) (k1 : Int) (i : Nat) (o : Lo Int Int) (hF : F.laws_heldIntS_l1 a k1 i = some o) : ∀ (c : Code), navO [1, 0, 1, 0, 0] (bodyOf Try.f18) = some c → ∀ (Q : Exit → ASt → Prop), o.post (fun r => ∀ st, Post Try.prog Try.f18 (fun r' _ => r'.le (.lit (.int .i64 r))) .ret st → Q .ret st) (fun s => Q (.exit 0) ⟨[(1, .lit (.int .i64 s))], []⟩) → ALoopU Try.prog B 0 21 (hold c .mk) ⟨[(0, .arr (List.map cI a)), (1, .lit (.int .i64 k1)), (5, .lit (.int .i64 (i : Int)))], []⟩ (hold Q .mk) :=
 (CC.laws_heldIntS_l1 B hB1 hB2 a) k1 i o hF

set_option maxRecDepth 100000 in
set_option maxHeartbeats 4000000 in
theorem C.laws_heldIntS (B : Nat) (hB1 : 67108864 ≤ B) (hB2 : B ≤ 9223372036854775807) (a : List Int) (k : Int) (r : Int) (hF : F.laws_heldIntS a k = some r) : PureCall Try.prog B 18 [.arr (List.map cI a), .lit (.int .i64 k)] (.lit (.int .i64 r)) := by
 unfold F.laws_heldIntS at hF
 refine PureCall.enterLe Try.func18 (by kernel_rfl) rfl Try.ntmps18 (by simp) (by simp) ?_
 repeat (first | refine chk.ga ?_ | simp -dsimp)
 have hF := ob hF; obtain ⟨o', ho9, hF⟩ := hF
 refine ALoop.goU ⟨[(0, .arr (List.map cI a)), (1, .lit (.int .i64 k)), (5, .lit (.int .i64 (0 : Int)))], []⟩ (Gh.to3 (by simp) (by simp -dsimp)) ?_
 refine (C.laws_heldIntS_l1 B hB1 hB2 a k 0 o' ho9) _ rfl _ ?_
 rcases o' with r0 | sx
 ·dsimp only at hF
  cases hF
  intro st h
  simpa using h
 ·dsimp only at hF
  cases hF
  repeat (first | refine chk.ga ?_ | simp -dsimp)
  all_goals (try omega)

set_option maxRecDepth 100000 in
set_option maxHeartbeats 4000000 in
theorem CM.laws_markExprS (B : Nat) (hB1 : 67108864 ≤ B) (hB2 : B ≤ 9223372036854775807) : ∀ m : Nat, (∀ (a : List Vl.Expr) (k : Int), SizeOf.sizeOf a < m → MCall Try.prog B 42 (List.map Vl.Expr.c a) [.int .i64 k] (List.map Vl.Expr.c (Vl.Expr.mkL a k).1) (.int .i64 (Vl.Expr.mkL a k).2)) := by
 intro m
 induction m with
 | zero => exact fun a k h => absurd h (Nat.not_lt_zero _)
 | succ m ih =>
  intro a0 k0 hm
  have hz0 : ∀ x, x ∈ a0 → SizeOf.sizeOf x < m := fun x hx => by have := List.sizeOf_lt_of_mem hx; omega
  have loop : ∀ (rest D : List Vl.Expr) (k : Int) (i n : Nat) (rows : List (List AV)) (us : List Go.Value), (∀ x, x ∈ rest → SizeOf.sizeOf x < m) → i = D.length → n = i + rest.length → RW 4 n rows us →
    ∀ (c : Code), navO [1, 0, 1, 0, 0] (bodyOf Try.f42) = some c → ∀ (Q : Exit → ASt → Prop),
    (∀ (R : List (List AV)) (U : List Go.Value), RW 4 n R U → Q (.exit 0) ⟨[(1, .lit (.int .i64 (Vl.Expr.mkL rest k).2))], [.elems 4 R, .pack (List.flatten (List.map Vl.Expr.c (D ++ (Vl.Expr.mkL rest k).1))) U]⟩) →
    ALoopU Try.prog B 2 41 (hold c .mk) ⟨[(0, .own 0 n), (1, .lit (.int .i64 k)), (5, .lit (.int .i64 (i : Int)))], [.elems 4 rows, .pack (List.flatten (List.map Vl.Expr.c (D ++ rest))) us]⟩ (hold Q .mk) := by
   intro rest
   induction rest with
   | nil =>
    intro D k i n rows us hz hi hn H c hc Q hq
    obtain rfl : c = _ := navEq hc rfl
    have hn' : n = i := by simpa using hn
    subst hn'
    refine ALoopU.enter ?_
    repeat (first | refine chk.ga ?_ | simp -dsimp [RW.len H])
    refine Leave.go ⟨[(1, .lit (.int .i64 k))], [.elems 4 rows, .pack (List.flatten (List.map Vl.Expr.c D)) us]⟩ (Gh.to3 (by simp) (by simp -dsimp [RW.closed H])) ?_
    simpa [Vl.Expr.mkL] using hq rows us H
   | cons x r ihr =>
    intro D k i n rows us hz hi hn H c hc Q hq
    refine ALoopU.opnAt1 1 (List.flatten (List.map Vl.Expr.c D)) (Vl.Expr.c x) (List.flatten (List.map Vl.Expr.c r)) rfl (by simp) (by simp) ?_
    intro h1 vs UA UC o_h1 hlt hU hlA
    have hv : vs = [.int .i64 x.op, .int .i64 x.n, .int .i64 x.ctor, h1] := by apply lits_inj; rw [← hlt]; simp
    subst hv hU
    have hUA : UA.length = i * 4 := by rw [hlA, flatc_len Vl.Expr.c_len, hi]
    have hin : i < n := by simp at hn; omega
    have hrow : rows[i]? = some [.lit (.int .i64 x.op), .lit (.int .i64 x.n), .lit (.int .i64 x.ctor), .lit h1] := by simpa using H.at hin rfl hUA rfl
    have hne : ¬ rows = [] := by intro e; rw [e] at hrow; simp at hrow
    have hrl := RW.len H
    have hrow' : ∀ (h : i < rows.length), rows[i] = [.lit (.int .i64 x.op), .lit (.int .i64 x.n), .lit (.int .i64 x.ctor), .lit h1] := fun h => by rw [List.getElem?_eq_getElem h] at hrow; exact Option.some.inj hrow
    have hset : ∀ a, (rows.set i a)[i]? = some a := fun a => List.getElem?_set_self (by omega)
    clear hlt
    refine ALoopU.know fun hk hs => ?_
    have d0 := hs 0 _ rfl
    simp -dsimp [Blk.bnd] at d0
    clear hk hs
    obtain rfl : c = _ := navEq hc rfl
    have w1 : IntKind.i64.wrap ((i : Int) + 1) = (i : Int) + 1 := wrap_in (by omega) (by omega)
    refine ALoopU.enter ?_
    repeat (first | refine chk.ga ?_ | simp -dsimp [hne, hrow, hrow', hset, hrl, hin, w1, List.set_set, o_h1])
    have sz0 : SizeOf.sizeOf x.kids < m := by have h0 := hz x (by simp); cases x; simp at h0 ⊢; omega
    refine (ih x.kids (IntKind.i64.wrap ((IntKind.i64.wrap ((IntKind.i64.wrap (k + 1)) + 1)) + 1)) sz0).go 2 rfl (by simp) ?_
    repeat (first | refine chk.ga ?_ | simp -dsimp [hne, hrow, hrow', hset, hrl, hin, w1, List.set_set, o_h1])
    refine Again.go ⟨[(0, .own 0 n), (1, .lit (.int .i64 ((Vl.Expr.mkL x.kids (IntKind.i64.wrap ((IntKind.i64.wrap ((IntKind.i64.wrap (k + 1)) + 1)) + 1))).2))), (5, .lit (.int .i64 ((i + 1 : Nat) : Int)))], [.elems 4 (rows.set i [.lit (.int .i64 k), .lit (.int .i64 (IntKind.i64.wrap (k + 1))), .lit (.int .i64 (IntKind.i64.wrap ((IntKind.i64.wrap (k + 1)) + 1))), .lit h1]), .pack (List.flatten (List.map Vl.Expr.c ((D ++ [(⟨k, IntKind.i64.wrap (k + 1), IntKind.i64.wrap ((IntKind.i64.wrap (k + 1)) + 1), (Vl.Expr.mkL x.kids (IntKind.i64.wrap ((IntKind.i64.wrap ((IntKind.i64.wrap (k + 1)) + 1)) + 1))).1⟩ : Vl.Expr)]) ++ r))) (UA ++ ([.int .i64 k, .int .i64 (IntKind.i64.wrap (k + 1)), .int .i64 (IntKind.i64.wrap ((IntKind.i64.wrap (k + 1)) + 1)), h1] ++ UC))]⟩
     (by refine Gh.trans (Gh.setAt 1 [2] (XA := List.flatten (List.map Vl.Expr.c D)) (old := [.lit (.int .i64 x.op), .lit (.int .i64 x.n), .lit (.int .i64 x.ctor), .lit h1]) (XC := List.flatten (List.map Vl.Expr.c r)) (UA := UA) (uo := [.int .i64 x.op, .int .i64 x.n, .int .i64 x.ctor, h1]) (UC := UC) (by exact rfl) (by simp) (by simp) hlA rfl (.lit (.int .i64 k) (.lit (.int .i64 (IntKind.i64.wrap (k + 1))) (.lit (.int .i64 (IntKind.i64.wrap ((IntKind.i64.wrap (k + 1)) + 1))) (.pk 2 (by exact rfl) .nil)))) (by decide)) ?_; exact Gh.to3 (by simp) (by simp -dsimp [RW.closed H])) ?_
    have he : Vl.Expr.mkL (x :: r) k = ((⟨k, IntKind.i64.wrap (k + 1), IntKind.i64.wrap ((IntKind.i64.wrap (k + 1)) + 1), (Vl.Expr.mkL x.kids (IntKind.i64.wrap ((IntKind.i64.wrap ((IntKind.i64.wrap (k + 1)) + 1)) + 1))).1⟩ : Vl.Expr) :: (Vl.Expr.mkL r ((Vl.Expr.mkL x.kids (IntKind.i64.wrap ((IntKind.i64.wrap ((IntKind.i64.wrap (k + 1)) + 1)) + 1))).2)).1, (Vl.Expr.mkL r ((Vl.Expr.mkL x.kids (IntKind.i64.wrap ((IntKind.i64.wrap ((IntKind.i64.wrap (k + 1)) + 1)) + 1))).2)).2) := by (first | rfl | (cases x; simp [Vl.Expr.mkL, Vl.Expr.mkE]))
    rw [he] at hq
    refine ihr (D ++ [(⟨k, IntKind.i64.wrap (k + 1), IntKind.i64.wrap ((IntKind.i64.wrap (k + 1)) + 1), (Vl.Expr.mkL x.kids (IntKind.i64.wrap ((IntKind.i64.wrap ((IntKind.i64.wrap (k + 1)) + 1)) + 1))).1⟩ : Vl.Expr)]) _ (i + 1) n _ _ (fun y hy => hz y (List.mem_cons_of_mem _ hy)) (by simp [hi]) (by simp at hn; omega) (by simpa using H.setAt hin hUA rfl [.int .i64 k, .int .i64 (IntKind.i64.wrap (k + 1)), .int .i64 (IntKind.i64.wrap ((IntKind.i64.wrap (k + 1)) + 1)), h1] rfl) _ rfl _ fun R U hR => ?_
    simpa using hq R U hR
  refine MCall.enter 4 Try.func42 (by kernel_rfl) rfl Try.ntmps42 (by simp) (by simp [Vl.Expr.mkL_len]) (fun e he => by obtain ⟨x, _, rfl⟩ := List.mem_map.1 he; exact Vl.Expr.c_len x) ?_ ?_
  ·intro he
   have he : a0 = [] := by simpa using he
   subst he
   repeat (first | refine chk.ga ?_ | simp -dsimp)
   refine ALoop.goU ⟨[(0, .arr []), (1, .lit (.int .i64 k0)), (5, .lit (.int .i64 0))], []⟩ (Gh.to3 (by simp) (by simp -dsimp)) ?_
   refine ALoopU.enter ?_
   repeat (first | refine chk.ga ?_ | simp -dsimp)
   refine Leave.go _ (Gh.refl _) ?_
   repeat (first | refine chk.ga ?_ | simp -dsimp)
   all_goals (try simp [Vl.Expr.mkL])
  ·intro hne rows us e1 e2 e3 e4
   have H : RW 4 a0.length rows us := ⟨by simpa using e2, e3, e1⟩
   repeat (first | refine chk.ga ?_ | simp -dsimp)
   refine ALoop.goU ⟨[(0, .own 0 a0.length), (1, .lit (.int .i64 k0)), (5, .lit (.int .i64 ((0 : Nat) : Int)))], [.elems 4 rows, .pack (List.flatten (List.map Vl.Expr.c ([] ++ a0))) us]⟩ (Gh.to3 (by simp) (by simp -dsimp [RW.closed H])) ?_
   refine loop a0 [] k0 0 a0.length rows us hz0 rfl (by simp) H _ rfl _ ?_
   intro R U hR
   repeat (first | refine chk.ga ?_ | simp -dsimp)
   exact ⟨rfl, R, U, rfl, ⟨1, by simp⟩, hR.2.2, by rw [hR.1]; simp [Vl.Expr.mkL_len], fun x hx => by obtain ⟨y, _, rfl⟩ := List.mem_map.1 hx; exact Vl.Expr.c_len y⟩

theorem C.laws_markExprS (B : Nat) (hB1 : 67108864 ≤ B) (hB2 : B ≤ 9223372036854775807) (a : List Vl.Expr) (k : Int) (v : List Vl.Expr × Int) (hF : F.laws_markExprS a k = some v) : MCall Try.prog B 42 (List.map Vl.Expr.c a) [.int .i64 k] (List.map Vl.Expr.c v.1) (.int .i64 v.2) := by
 obtain rfl := Option.some.inj hF
 exact (CM.laws_markExprS B hB1 hB2 (SizeOf.sizeOf a + 1)) a k (Nat.lt_succ_self _)

set_option maxRecDepth 100000 in
set_option maxHeartbeats 4000000 in
theorem CM.laws_markIntS (B : Nat) (hB1 : 67108864 ≤ B) (hB2 : B ≤ 9223372036854775807) : ∀ m : Nat, (∀ (a : List Int) (k : Int), SizeOf.sizeOf a < m → MCall Try.prog B 17 (List.map cI a) [.int .i64 k] (List.map cI (mkI a k).1) (.int .i64 (mkI a k).2)) := by
 intro m
 induction m with
 | zero => exact fun a k h => absurd h (Nat.not_lt_zero _)
 | succ m ih =>
  intro a0 k0 hm
  have hz0 : ∀ x, x ∈ a0 → SizeOf.sizeOf x < m := fun x hx => by have := List.sizeOf_lt_of_mem hx; omega
  have loop : ∀ (rest D : List Int) (k : Int) (i n : Nat) (rows : List (List AV)) (us : List Go.Value), (∀ x, x ∈ rest → SizeOf.sizeOf x < m) → i = D.length → n = i + rest.length → RW 1 n rows us →
    ∀ (c : Code), navO [1, 0, 1, 0, 0] (bodyOf Try.f17) = some c → ∀ (Q : Exit → ASt → Prop),
    (∀ (R : List (List AV)) (U : List Go.Value), RW 1 n R U → Q (.exit 0) ⟨[(1, .lit (.int .i64 (mkI rest k).2))], [.elems 1 R, .pack (List.flatten (List.map cI (D ++ (mkI rest k).1))) U]⟩) →
    ALoopU Try.prog B 2 19 (hold c .mk) ⟨[(0, .own 0 n), (1, .lit (.int .i64 k)), (5, .lit (.int .i64 (i : Int)))], [.elems 1 rows, .pack (List.flatten (List.map cI (D ++ rest))) us]⟩ (hold Q .mk) := by
   intro rest
   induction rest with
   | nil =>
    intro D k i n rows us hz hi hn H c hc Q hq
    obtain rfl : c = _ := navEq hc rfl
    have hn' : n = i := by simpa using hn
    subst hn'
    refine ALoopU.enter ?_
    repeat (first | refine chk.ga ?_ | simp -dsimp [RW.len H])
    refine Leave.go ⟨[(1, .lit (.int .i64 k))], [.elems 1 rows, .pack (List.flatten (List.map cI D)) us]⟩ (Gh.to3 (by simp) (by simp -dsimp [RW.closed H])) ?_
    simpa [mkI] using hq rows us H
   | cons x r ihr =>
    intro D k i n rows us hz hi hn H c hc Q hq
    refine ALoopU.opnAt 1 (List.flatten (List.map cI D)) (cI x) (List.flatten (List.map cI r)) rfl (by simp) ?_
    intro hs vs UA UC hl ho hlt hU hlA
    have hs0 : hs = [] := List.length_eq_zero_iff.1 (by simpa using hl)
    subst hs0
    have hv : vs = [.int .i64 x] := by apply lits_inj; rw [← hlt]; simp
    subst hv hU
    have hUA : UA.length = i * 1 := by rw [hlA, flatc_len cI_len, hi]
    have hin : i < n := by simp at hn; omega
    have hrow : rows[i]? = some [.lit (.int .i64 x)] := by simpa using H.at hin rfl hUA rfl
    have hne : ¬ rows = [] := by intro e; rw [e] at hrow; simp at hrow
    have hrl := RW.len H
    have hrow' : ∀ (h : i < rows.length), rows[i] = [.lit (.int .i64 x)] := fun h => by rw [List.getElem?_eq_getElem h] at hrow; exact Option.some.inj hrow
    have hset : ∀ a, (rows.set i a)[i]? = some a := fun a => List.getElem?_set_self (by omega)
    clear hlt
    refine ALoopU.know fun hk hs => ?_
    have d0 := hs 0 _ rfl
    simp -dsimp [Blk.bnd] at d0
    clear hk hs
    obtain rfl : c = _ := navEq hc rfl
    have w1 : IntKind.i64.wrap ((i : Int) + 1) = (i : Int) + 1 := wrap_in (by omega) (by omega)
    refine ALoopU.enter ?_
    repeat (first | refine chk.ga ?_ | simp -dsimp [hne, hrow, hrow', hset, hrl, hin, w1, List.set_set])
    refine Again.go ⟨[(0, .own 0 n), (1, .lit (.int .i64 (IntKind.i64.wrap (k + 1)))), (5, .lit (.int .i64 ((i + 1 : Nat) : Int)))], [.elems 1 (rows.set i [.lit (.int .i64 k)]), .pack (List.flatten (List.map cI ((D ++ [k]) ++ r))) (UA ++ ([.int .i64 k] ++ UC))]⟩
     (by refine Gh.trans (Gh.setAt 1 [] (XA := List.flatten (List.map cI D)) (old := [.lit (.int .i64 x)]) (XC := List.flatten (List.map cI r)) (UA := UA) (uo := [.int .i64 x]) (UC := UC) (by exact rfl) (by simp) (by simp) hlA rfl (.lit (.int .i64 k) .nil) (by decide)) ?_; exact Gh.to3 (by simp) (by simp -dsimp [RW.closed H])) ?_
    have he : mkI (x :: r) k = (k :: (mkI r (IntKind.i64.wrap (k + 1))).1, (mkI r (IntKind.i64.wrap (k + 1))).2) := by rfl
    rw [he] at hq
    refine ihr (D ++ [k]) _ (i + 1) n _ _ (fun y hy => hz y (List.mem_cons_of_mem _ hy)) (by simp [hi]) (by simp at hn; omega) (by simpa using H.setAt hin hUA rfl [.int .i64 k] rfl) _ rfl _ fun R U hR => ?_
    simpa using hq R U hR
  refine MCall.enter 1 Try.func17 (by kernel_rfl) rfl Try.ntmps17 (by simp) (by simp [mkI_len]) (fun e he => by obtain ⟨x, _, rfl⟩ := List.mem_map.1 he; exact cI_len x) ?_ ?_
  ·intro he
   have he : a0 = [] := by simpa using he
   subst he
   repeat (first | refine chk.ga ?_ | simp -dsimp)
   refine ALoop.goU ⟨[(0, .arr []), (1, .lit (.int .i64 k0)), (5, .lit (.int .i64 0))], []⟩ (Gh.to3 (by simp) (by simp -dsimp)) ?_
   refine ALoopU.enter ?_
   repeat (first | refine chk.ga ?_ | simp -dsimp)
   refine Leave.go _ (Gh.refl _) ?_
   repeat (first | refine chk.ga ?_ | simp -dsimp)
   all_goals (try simp [mkI])
  ·intro hne rows us e1 e2 e3 e4
   have H : RW 1 a0.length rows us := ⟨by simpa using e2, e3, e1⟩
   repeat (first | refine chk.ga ?_ | simp -dsimp)
   refine ALoop.goU ⟨[(0, .own 0 a0.length), (1, .lit (.int .i64 k0)), (5, .lit (.int .i64 ((0 : Nat) : Int)))], [.elems 1 rows, .pack (List.flatten (List.map cI ([] ++ a0))) us]⟩ (Gh.to3 (by simp) (by simp -dsimp [RW.closed H])) ?_
   refine loop a0 [] k0 0 a0.length rows us hz0 rfl (by simp) H _ rfl _ ?_
   intro R U hR
   repeat (first | refine chk.ga ?_ | simp -dsimp)
   exact ⟨rfl, R, U, rfl, ⟨1, by simp⟩, hR.2.2, by rw [hR.1]; simp [mkI_len], fun x hx => by obtain ⟨y, _, rfl⟩ := List.mem_map.1 hx; exact cI_len y⟩

theorem C.laws_markIntS (B : Nat) (hB1 : 67108864 ≤ B) (hB2 : B ≤ 9223372036854775807) (a : List Int) (k : Int) (v : List Int × Int) (hF : F.laws_markIntS a k = some v) : MCall Try.prog B 17 (List.map cI a) [.int .i64 k] (List.map cI v.1) (.int .i64 v.2) := by
 obtain rfl := Option.some.inj hF
 exact (CM.laws_markIntS B hB1 hB2 (SizeOf.sizeOf a + 1)) a k (Nat.lt_succ_self _)

set_option maxRecDepth 100000 in
set_option maxHeartbeats 4000000 in
theorem C.laws_FnExactCallsOf (B : Nat) (hB1 : 67108864 ≤ B) (hB2 : B ≤ 9223372036854775807) (aE : Vl.Expr) (r : Bool) (hF : F.laws_FnExactCallsOf aE = some r) : PureCall Try.prog B 4 [.agg [.lit (.int .i64 aE.op), .lit (.int .i64 aE.n), .lit (.int .i64 aE.ctor), .arr (List.map Vl.Expr.c aE.kids)]] (.lit (.bool r)) := by
 unfold F.laws_FnExactCallsOf at hF
 refine PureCall.enterLe Try.func4 (by kernel_rfl) rfl Try.ntmps4 (by simp) (by simp) ?_
 repeat (first | refine chk.ga ?_ | simp -dsimp)
 have hF := ob hF; obtain ⟨v, e1, hF⟩ := hF
 refine ((C.laws_szExpr B hB1 hB2 aE (1048576 : Int) v e1)).goW (by simp) (by simp) ?_
 repeat (first | refine chk.ga ?_ | simp -dsimp)
 refine abr.split (fun h2 => ?_) (fun h2 => ?_)
 ·have q3 : (v < 0) := auq h2
  rw [if_pos q3] at hF
  cases hF
  repeat (first | refine chk.ga ?_ | simp -dsimp [h2])
  all_goals (try omega)
 ·have q3 : ¬ (v < 0) := auq h2
  rw [if_neg q3] at hF
  repeat (first | refine chk.ga ?_ | simp -dsimp [h2, q3])
  have hF := ob hF; obtain ⟨v4, e5, hF⟩ := hF
  refine ((C.laws_toExpr B hB1 hB2 aE v4 e5)).goW (by first | simp [h2, q3]; done | simp_all) (by simp) ?_
  repeat (first | refine chk.ga ?_ | simp -dsimp [h2, q3])
  have hF := ob hF; obtain ⟨v6, e7, hF⟩ := hF
  refine ((C.spec_CallsOf B hB1 hB2 v4 v6 e7)).goW (by first | simp [h2, q3]; done | simp_all) (by simp) ?_
  repeat (first | refine chk.ga ?_ | simp -dsimp [h2, q3])
  have hF := ob hF; obtain ⟨v8, e9, hF⟩ := hF
  refine ((C.laws_toExpr__f B hB1 hB2 aE v8 e9)).go1 (by first | simp -dsimp [h2, q3]; done | simp_all) (by simp) (fun h o_h => ?_)
  repeat (first | refine chk.ga ?_ | simp -dsimp [h2, q3, o_h])
  have hF := ob hF; obtain ⟨v10, e11, hF⟩ := hF
  refine ((C.impl_CallsOf__f B hB1 hB2 v8 v10 e11)).go1 (by first | simp -dsimp [h2, q3, o_h]; done | simp_all) (by simp) (fun h12 o_h12 => ?_)
  repeat (first | refine chk.ga ?_ | simp -dsimp [h2, q3, o_h, o_h12])
  have hF := ob hF; obtain ⟨v13, e14, hF⟩ := hF
  refine ((C.laws_eqIntS B hB1 hB2 v10 v6 v13 e14)).lend (by first | simp -dsimp [h2, q3, o_h, o_h12]; done | simp_all) (by simp -dsimp) ?_
  repeat (first | refine chk.ga ?_ | simp -dsimp [h2, q3, o_h, o_h12])
  refine abr.split (fun h15 => ?_) (fun h15 => ?_)
  ·have q16 : ¬ (v13 = true) := auq h15
   rw [if_neg q16] at hF
   cases hF
   repeat (first | refine chk.ga ?_ | simp -dsimp [h2, q3, o_h, o_h12, h15, q16])
   all_goals (try omega)
  ·have q16 : (v13 = true) := auq h15
   rw [if_pos q16] at hF
   repeat (first | refine chk.ga ?_ | simp -dsimp [h2, q3, o_h, o_h12, h15, q16])
   refine ADraw.eff [12] [(0, 0), (0, 0), (0, 1), (0, 1), (1, 1)] [1, 1, 1, 1, 1] follows (by kernel_rfl) (by kernel_rfl) (by kernel_rfl) ?_
   repeat (first | refine chk.ga ?_ | simp -dsimp [h2, q3, o_h, o_h12, h15, q16])
   have hF := ob hF; obtain ⟨v17, e18, hF⟩ := hF
   refine ((C.laws_toExpr B hB1 hB2 aE v17 e18)).pgoW (by first | simp [h2, q3, o_h, o_h12, h15, q16]; done | simp_all) (by simp) ?_
   repeat (first | refine chk.ga ?_ | simp -dsimp [h2, q3, o_h, o_h12, h15, q16])
   have hF := ob hF; obtain ⟨v19, e20, hF⟩ := hF
   refine ((C.laws_eqExpr B hB1 hB2 v8 v17 v19 e20)).elend (by first | simp -dsimp [h2, q3, o_h, o_h12, h15, q16]; done | simp_all) (by simp -dsimp) ?_
   repeat (first | refine chk.ga ?_ | simp -dsimp [h2, q3, o_h, o_h12, h15, q16])
   refine abr.split (fun h21 => ?_) (fun h21 => ?_)
   ·have q22 : ¬ (v19 = true) := auq h21
    rw [if_neg q22] at hF
    cases hF
    repeat (first | refine chk.ga ?_ | simp -dsimp [h2, q3, o_h, o_h12, h15, q16, h21, q22])
    all_goals (try omega)
   ·have q22 : (v19 = true) := auq h21
    rw [if_pos q22] at hF
    repeat (first | refine chk.ga ?_ | simp -dsimp [h2, q3, o_h, o_h12, h15, q16, h21, q22])
    refine ACall.inl Try.func16 (by kernel_rfl) rfl Try.ntmps16 (by simp) ?_
    repeat (first | refine chk.ga ?_ | simp -dsimp [h2, q3, o_h, o_h12, h15, q16, h21, q22])
    have hF := ob hF; obtain ⟨v23, e24, hF⟩ := hF
    refine ((C.laws_markExprS B hB1 hB2 v8.kids 1 v23 e24)).go 1 rfl (by simp) ?_
    repeat (first | refine chk.ga ?_ | simp -dsimp [h2, q3, o_h, o_h12, h15, q16, h21, q22])
    refine abr.split (fun h25 => ?_) (fun h25 => ?_)
    ·have q26 : ¬ (v23.2 < 0) := auq h25
     rw [if_neg q26] at hF
     repeat (first | refine chk.ga ?_ | simp -dsimp [h2, q3, o_h, o_h12, h15, q16, h21, q22, h25, q26])
     have hF := ob hF; obtain ⟨v27, e28, hF⟩ := hF
     refine ((C.laws_eqIntS B hB1 hB2 v10 v6 v27 e28)).lend (by first | simp -dsimp [h2, q3, o_h, o_h12, h15, q16, h21, q22, h25, q26]; done | simp_all) (by simp -dsimp) ?_
     repeat (first | refine chk.ga ?_ | simp -dsimp [h2, q3, o_h, o_h12, h15, q16, h21, q22, h25, q26])
     refine abr.split (fun h29 => ?_) (fun h29 => ?_)
     ·have q30 : ¬ (v27 = true) := auq h29
      rw [if_neg q30] at hF
      cases hF
      repeat (first | refine chk.ga ?_ | simp -dsimp [h2, q3, o_h, o_h12, h15, q16, h21, q22, h25, q26, h29, q30])
      all_goals (try omega)
     ·have q30 : (v27 = true) := auq h29
      rw [if_pos q30] at hF
      repeat (first | refine chk.ga ?_ | simp -dsimp [h2, q3, o_h, o_h12, h15, q16, h21, q22, h25, q26, h29, q30])
      have hF := ob hF; obtain ⟨v31, e32, hF⟩ := hF
      refine ((C.laws_markIntS B hB1 hB2 v10 1 v31 e32)).go 3 rfl (by simp) ?_
      repeat (first | refine chk.ga ?_ | simp -dsimp [h2, q3, o_h, o_h12, h15, q16, h21, q22, h25, q26, h29, q30])
      have hF := ob hF; obtain ⟨v33, e34, hF⟩ := hF
      refine ((C.laws_heldIntS B hB1 hB2 v31.1 (1 : Int) v33 e34)).lend (by first | simp -dsimp [h2, q3, o_h, o_h12, h15, q16, h21, q22, h25, q26, h29, q30]; done | simp_all) (by simp -dsimp) ?_
      repeat (first | refine chk.ga ?_ | simp -dsimp [h2, q3, o_h, o_h12, h15, q16, h21, q22, h25, q26, h29, q30])
      refine abr.split (fun h35 => ?_) (fun h35 => ?_)
      ·have q36 : (v33 < 0) := auq h35
       rw [if_pos q36] at hF
       cases hF
       repeat (first | refine chk.ga ?_ | simp -dsimp [h2, q3, o_h, o_h12, h15, q16, h21, q22, h25, q26, h29, q30, h35])
       all_goals (try omega)
      ·have q36 : ¬ (v33 < 0) := auq h35
       rw [if_neg q36] at hF
       repeat (first | refine chk.ga ?_ | simp -dsimp [h2, q3, o_h, o_h12, h15, q16, h21, q22, h25, q26, h29, q30, h35, q36])
       refine abr.split (fun h37 => ?_) (fun h37 => ?_)
       ·have q38 : ¬ (v33 = v31.2) := auq h37
        rw [if_neg q38] at hF
        cases hF
        repeat (first | refine chk.ga ?_ | simp -dsimp [h2, q3, o_h, o_h12, h15, q16, h21, q22, h25, q26, h29, q30, h35, q36, h37, q38])
        all_goals (try omega)
       ·have q38 : (v33 = v31.2) := auq h37
        rw [if_pos q38] at hF
        repeat (first | refine chk.ga ?_ | simp -dsimp [h2, q3, o_h, o_h12, h15, q16, h21, q22, h25, q26, h29, q30, h35, q36, h37, q38])
        have hF := ob hF; obtain ⟨v39, e40, hF⟩ := hF
        refine ((C.laws_toExpr B hB1 hB2 aE v39 e40)).goW (by first | simp [h2, q3, o_h, o_h12, h15, q16, h21, q22, h25, q26, h29, q30, h35, q36, h37, q38]; done | simp_all) (by simp) ?_
        repeat (first | refine chk.ga ?_ | simp -dsimp [h2, q3, o_h, o_h12, h15, q16, h21, q22, h25, q26, h29, q30, h35, q36, h37, q38])
        have hF := ob hF; obtain ⟨v41, e42, hF⟩ := hF
        refine ((C.impl_CallsOf__f B hB1 hB2 v39 v41 e42)).go1 (by first | simp -dsimp [h2, q3, o_h, o_h12, h15, q16, h21, q22, h25, q26, h29, q30, h35, q36, h37, q38]; done | simp_all) (by simp) (fun h43 o_h43 => ?_)
        repeat (first | refine chk.ga ?_ | simp -dsimp [h2, q3, o_h, o_h12, h15, q16, h21, q22, h25, q26, h29, q30, h35, q36, h37, q38, o_h43])
        have hF := ob hF; obtain ⟨v44, e45, hF⟩ := hF
        refine ((C.laws_eqIntS B hB1 hB2 v41 v6 v44 e45)).lend (by first | simp -dsimp [h2, q3, o_h, o_h12, h15, q16, h21, q22, h25, q26, h29, q30, h35, q36, h37, q38, o_h43]; done | simp_all) (by simp -dsimp) ?_
        repeat (first | refine chk.ga ?_ | simp -dsimp [h2, q3, o_h, o_h12, h15, q16, h21, q22, h25, q26, h29, q30, h35, q36, h37, q38, o_h43])
        refine abr.split (fun h46 => ?_) (fun h46 => ?_)
        ·have q47 : ¬ (v44 = true) := auq h46
         rw [if_neg q47] at hF
         cases hF
         repeat (first | refine chk.ga ?_ | simp -dsimp [h2, q3, o_h, o_h12, h15, q16, h21, q22, h25, q26, h29, q30, h35, q36, h37, q38, o_h43, h46, q47])
         all_goals (try omega)
        ·have q47 : (v44 = true) := auq h46
         rw [if_pos q47] at hF
         repeat (first | refine chk.ga ?_ | simp -dsimp [h2, q3, o_h, o_h12, h15, q16, h21, q22, h25, q26, h29, q30, h35, q36, h37, q38, o_h43, h46, q47])
         have hF := ob hF; obtain ⟨v48, e49, hF⟩ := hF
         refine ((C.laws_heldIntS B hB1 hB2 v31.1 (1 : Int) v48 e49)).lend (by first | simp -dsimp [h2, q3, o_h, o_h12, h15, q16, h21, q22, h25, q26, h29, q30, h35, q36, h37, q38, o_h43, h46, q47]; done | simp_all) (by simp -dsimp) ?_
         repeat (first | refine chk.ga ?_ | simp -dsimp [h2, q3, o_h, o_h12, h15, q16, h21, q22, h25, q26, h29, q30, h35, q36, h37, q38, o_h43, h46, q47])
         refine abr.split (fun h50 => ?_) (fun h50 => ?_)
         ·have q51 : (v48 < 0) := auq h50
          rw [if_pos q51] at hF
          cases hF
          repeat (first | refine chk.ga ?_ | simp -dsimp [h2, q3, o_h, o_h12, h15, q16, h21, q22, h25, q26, h29, q30, h35, q36, h37, q38, o_h43, h46, q47, h50])
          all_goals (try omega)
         ·have q51 : ¬ (v48 < 0) := auq h50
          rw [if_neg q51] at hF
          repeat (first | refine chk.ga ?_ | simp -dsimp [h2, q3, o_h, o_h12, h15, q16, h21, q22, h25, q26, h29, q30, h35, q36, h37, q38, o_h43, h46, q47, h50, q51])
          refine abr.split (fun h52 => ?_) (fun h52 => ?_)
          ·have q53 : ¬ (v48 = v31.2) := auq h52
           rw [if_neg q53] at hF
           cases hF
           repeat (first | refine chk.ga ?_ | simp -dsimp [h2, q3, o_h, o_h12, h15, q16, h21, q22, h25, q26, h29, q30, h35, q36, h37, q38, o_h43, h46, q47, h50, q51, h52, q53])
           all_goals (try omega)
          ·have q53 : (v48 = v31.2) := auq h52
           rw [if_pos q53] at hF
           cases hF
           repeat (first | refine chk.ga ?_ | simp -dsimp [h2, q3, o_h, o_h12, h15, q16, h21, q22, h25, q26, h29, q30, h35, q36, h37, q38, o_h43, h46, q47, h50, q51, h52, q53])
           all_goals (try omega)
    ·have q26 : (v23.2 < 0) := auq h25
     rw [if_pos q26] at hF
     cases hF
     repeat (first | refine chk.ga ?_ | simp -dsimp [h2, q3, o_h, o_h12, h15, q16, h21, q22, h25, q26])
     all_goals (try omega)

end Go.Proofs.Ytfalapoojmlbpaa
