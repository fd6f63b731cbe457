/- The contracts: the code computes the functions (printed by gen.py). -/
import Derived.Test.YtfalapoojmlbpaaProg
import Derived.Test.YtfalapoojmlbpaaExactBarePatternF
namespace Go.Proofs.Ytfalapoojmlbpaa
open Go Go.Proofs Go.Vl
set_option linter.unusedSimpArgs false
set_option linter.unusedVariables false

attribute [local irreducible] ECallA NCallA aL aLg AMake MLoop AgainM LeaveM awpM aopsM MutCall BCall chk abr ACall ALoop ALoopU ADraw Again Leave PCallA PCall Post awp aops PureCall hold

theorem follows : Try.prog.follows .mixedOrders = true := by kernel_rfl
@[simp] theorem ti2 : tiOf Try.prog 2 = some ⟨.word, 1, [.int .i64 0]⟩ := by kernel_rfl
@[simp] theorem ti3 : tiOf Try.prog 3 = some ⟨.word, 1, [.int .i64 0]⟩ := by kernel_rfl
@[simp] theorem ti4 : tiOf Try.prog 4 = some ⟨.word, 1, [.bool false]⟩ := by kernel_rfl
@[simp] theorem ti5 : tiOf Try.prog 5 = some ⟨.word, 1, [.int .u8 0]⟩ := by kernel_rfl
@[simp] theorem ti38 : tiOf Try.prog 38 = some ⟨.slice 6 64 [.int .i64 0, .int .i64 0, .int .i64 0, .int .i64 0, .int .i64 0, .slice none 0 0], 1, [.slice none 0 0]⟩ := by kernel_rfl
@[simp] theorem sl38 : isSl Try.prog 38 = true := by kernel_rfl
@[simp] theorem ti40 : tiOf Try.prog 40 = some ⟨.struct [(0, 1), (1, 1), (2, 1), (3, 1), (4, 1), (5, 1)], 6, [.int .i64 0, .int .i64 0, .int .i64 0, .int .i64 0, .int .i64 0, .slice none 0 0]⟩ := by kernel_rfl
@[simp] theorem ti42 : tiOf Try.prog 42 = some ⟨.slice 6 64 [.int .i64 0, .int .i64 0, .int .i64 0, .int .i64 0, .int .i64 0, .slice none 0 0], 1, [.slice none 0 0]⟩ := by kernel_rfl
@[simp] theorem sl42 : isSl Try.prog 42 = true := by kernel_rfl
@[simp] theorem ti44 : tiOf Try.prog 44 = some ⟨.struct [(0, 1), (1, 1), (2, 1), (3, 1), (4, 1), (5, 1)], 6, [.int .i64 0, .int .i64 0, .int .i64 0, .int .i64 0, .int .i64 0, .slice none 0 0]⟩ := by kernel_rfl
attribute [simp] Try.underlying2 Try.underlying3 Try.underlying4 Try.underlying5 Try.underlying38 Try.underlying42 Try.results5 Try.results19 Try.results20 Try.results21 Try.results22 Try.results23 Try.results24 Try.results25 Try.results43 Try.results44 Try.results45 Try.results46 Try.results47 Try.results48

set_option maxRecDepth 100000 in
set_option maxHeartbeats 4000000 in
theorem CC.laws_szPattern (B : Nat) (hB1 : 67108864 ≤ B) (hB2 : B ≤ 9223372036854775807)  : (∀ (a : Vl.Pattern) (left' : Int) (r : Int), F.laws_szPattern a left' = some r → PureCall Try.prog B 19 [.agg [.lit (.int .i64 a.op), .lit (.int .i64 a.ctor), .lit (.int .i64 a.n), .lit (.int .i64 a.m), .lit (.int .i64 a.var), .arr (List.map Vl.Pattern.c a.kids)], .lit (.int .i64 left')] (.lit (.int .i64 r))) ∧
  (∀ (a : List Vl.Pattern) (left' : Int) (r : Int), F.laws_szPatternS a left' = some r → PureCall Try.prog B 43 [.arr (List.map Vl.Pattern.c a), .lit (.int .i64 left')] (.lit (.int .i64 r))) ∧
  (∀ (a : List Vl.Pattern) (left'3 : Int) (i : Nat) (o : Lo Int Int), F.laws_szPatternS_l1 a left'3 i = some o → ∀ (c : Code), navO [1, 1, 1, 0, 1, 0, 0] (bodyOf Try.f43) = some c → ∀ (Q : Exit → ASt → Prop), o.post (fun r => ∀ st, Post Try.prog Try.f43 (fun r' _ => r'.le (.lit (.int .i64 r))) .ret st → Q .ret st) (fun s => Q (.exit 0) ⟨[(1, .lit (.int .i64 s))], []⟩) → ALoopU Try.prog B 0 27 (hold c .mk) ⟨[(0, .arr (List.map Vl.Pattern.c a)), (1, .lit (.int .i64 left'3)), (5, .lit (.int .i64 (i : Int)))], []⟩ (hold Q .mk)) := by
 refine F.laws_szPattern.mutual_partial_correctness 
  (fun a left' r => PureCall Try.prog B 19 [.agg [.lit (.int .i64 a.op), .lit (.int .i64 a.ctor), .lit (.int .i64 a.n), .lit (.int .i64 a.m), .lit (.int .i64 a.var), .arr (List.map Vl.Pattern.c a.kids)], .lit (.int .i64 left')] (.lit (.int .i64 r)))
  (fun a left' r => PureCall Try.prog B 43 [.arr (List.map Vl.Pattern.c a), .lit (.int .i64 left')] (.lit (.int .i64 r)))
  (fun a left'3 i o => ∀ (c : Code), navO [1, 1, 1, 0, 1, 0, 0] (bodyOf Try.f43) = some c → ∀ (Q : Exit → ASt → Prop), o.post (fun r => ∀ st, Post Try.prog Try.f43 (fun r' _ => r'.le (.lit (.int .i64 r))) .ret st → Q .ret st) (fun s => Q (.exit 0) ⟨[(1, .lit (.int .i64 s))], []⟩) → ALoopU Try.prog B 0 27 (hold c .mk) ⟨[(0, .arr (List.map Vl.Pattern.c a)), (1, .lit (.int .i64 left'3)), (5, .lit (.int .i64 (i : Int)))], []⟩ (hold Q .mk))
  ?_ ?_ ?_
 ·intro _f_laws_szPatternS ih_laws_szPatternS a left' r hF
  refine PureCall.enterLe Try.func19 (by kernel_rfl) rfl Try.ntmps19 (by simp) (by simp) ?_
  repeat (first | refine chk.ga ?_ | simp -dsimp)
  have hF := ob hF; obtain ⟨v, e1, hF⟩ := hF
  refine ((ih_laws_szPatternS a.kids left' v e1)).goW (by simp) (by simp) ?_
  repeat (first | refine chk.ga ?_ | simp -dsimp)
  refine abr.split (fun h2 => ?_) (fun h2 => ?_)
  ·have q3 : (v < 0) := auq h2
   rw [if_pos q3] at hF
   cases hF
   repeat (first | refine chk.ga ?_ | simp -dsimp [h2])
   all_goals (try omega)
  ·have q3 : ¬ (v < 0) := auq h2
   rw [if_neg q3] at hF
   cases hF
   repeat (first | refine chk.ga ?_ | simp -dsimp [h2, q3])
   all_goals (try omega)
 ·intro _f_laws_szPatternS_l1 ih_laws_szPatternS_l1 a left' r hF
  refine PureCall.enterLe Try.func43 (by kernel_rfl) rfl Try.ntmps43 (by simp) (by simp) ?_
  repeat (first | refine chk.ga ?_ | simp -dsimp)
  refine abr.split (fun h1 => ?_) (fun h1 => ?_)
  ·have q2 : (IntKind.i64.wrap (left' - (a.length : Int)) < 0) := auq h1
   rw [if_pos q2] at hF
   cases hF
   repeat (first | refine chk.ga ?_ | simp -dsimp [h1])
   all_goals (try omega)
  ·have q2 : ¬ (IntKind.i64.wrap (left' - (a.length : Int)) < 0) := auq h1
   rw [if_neg q2] at hF
   repeat (first | refine chk.ga ?_ | simp -dsimp [h1, q2])
   have hF := ob hF; obtain ⟨o', ho12, hF⟩ := hF
   refine ALoop.goU ⟨[(0, .arr (List.map Vl.Pattern.c a)), (1, .lit (.int .i64 (IntKind.i64.wrap (left' - (a.length : Int))))), (5, .lit (.int .i64 (0 : Int)))], []⟩ (Gh.to3 (by simp) (by first | simp -dsimp [h1, q2]; done | simp_all)) ?_
   refine (ih_laws_szPatternS_l1 a (IntKind.i64.wrap (left' - (a.length : Int))) 0 o' ho12) _ rfl _ ?_
   rcases o' with r0 | sx
   ·dsimp only at hF
    cases hF
    intro st h
    simpa using h
   ·dsimp only at hF
    cases hF
    repeat (first | refine chk.ga ?_ | simp -dsimp)
    all_goals (try omega)
 ·intro _f_laws_szPattern _f_laws_szPatternS_l1 ih_laws_szPattern ih_laws_szPatternS_l1 a left'3 i o hF
  intro c hc Q hq
  obtain rfl : c = _ := navEq hc rfl
  refine ALoopU.know fun hk hs => ?_
  have b0 := hk 0
  simp -dsimp at b0
  clear hk hs
  refine ALoopU.enter ?_
  repeat (first | refine chk.ga ?_ | simp -dsimp)
  refine abr.split (fun h4 => ?_) (fun h4 => ?_)
  ·have q5 : (i < a.length) := auq h4
   have z6 : ((i : Int) < (a.length : Int)) := auz
   rw [if_pos q5] at hF
   have hF := ob hF; obtain ⟨x, e7, hF⟩ := hF
   have le7 := lt_of_get e7
   repeat (first | refine chk.ga ?_ | simp -dsimp [h4, z6, ↓e7])
   have hF := ob hF; obtain ⟨v, e8, hF⟩ := hF
   refine ((ih_laws_szPattern x left'3 v e8)).goW (by first | simp [h4, z6, ↓e7]; done | simp_all) (by simp) ?_
   repeat (first | refine chk.ga ?_ | simp -dsimp [h4, z6, ↓e7])
   refine abr.split (fun h9 => ?_) (fun h9 => ?_)
   ·have q10 : (v < 0) := auq h9
    rw [if_pos q10] at hF
    cases hF
    repeat (first | refine chk.ga ?_ | simp -dsimp [h4, z6, ↓e7, h9])
    refine Leave.go _ (Gh.refl _) (hq _ ?_)
    repeat (first | refine chk.ga ?_ | simp -dsimp [h4, z6, ↓e7, h9])
   ·have q10 : ¬ (v < 0) := auq h9
    rw [if_neg q10] at hF
    have w11 : IntKind.i64.wrap ((i : Int) + 1) = (i : Int) + 1 := wrap_in (by omega) (by omega)
    repeat (first | refine chk.ga ?_ | simp -dsimp [h4, z6, ↓e7, h9, q10, w11])
    refine Again.go ⟨[(0, .arr (List.map Vl.Pattern.c a)), (1, .lit (.int .i64 v)), (5, .lit (.int .i64 ((i + 1) : Int)))], []⟩ (Gh.to3 (by simp) (by first | simp -dsimp [h4, z6, ↓e7, h9, q10, w11]; done | simp_all)) ?_
    exact (ih_laws_szPatternS_l1 a v (i + 1) o hF) _ rfl _ hq
  ·have q5 : ¬ (i < a.length) := auq h4
   have z6 : ¬ ((i : Int) < (a.length : Int)) := auz
   rw [if_neg q5] at hF
   cases hF
   repeat (first | refine chk.ga ?_ | simp -dsimp [h4, q5, z6])
   refine Leave.go ⟨[(1, .lit (.int .i64 left'3))], []⟩ (Gh.to3 (by simp) (by first | simp -dsimp [h4, q5, z6]; done | simp_all)) ?_
   exact hq

theorem C.laws_szPattern (B : Nat) (hB1 : 67108864 ≤ B) (hB2 : B ≤ 9223372036854775807) (a : Vl.Pattern) (left' : Int) (r : Int) (hF : F.laws_szPattern a left' = some r) : PureCall Try.prog B 19 [.agg [.lit (.int .i64 a.op), .lit (.int .i64 a.ctor), .lit (.int .i64 a.n), .lit (.int .i64 a.m), .lit (.int .i64 a.var), .arr (List.map Vl.Pattern.c a.kids)], .lit (.int .i64 left')] (.lit (.int .i64 r)) :=
 (CC.laws_szPattern B hB1 hB2 ).1 a left' r hF

theorem C.laws_szPatternS (B : Nat) (hB1 : 67108864 ≤ B) (hB2 : B ≤ 9223372036854775807) (a : List Vl.Pattern) (left' : Int) (r : Int) (hF : F.laws_szPatternS a left' = some r) : PureCall Try.prog B 43 [.arr (List.map Vl.Pattern.c a), .lit (.int .i64 left')] (.lit (.int .i64 r)) :=
 (CC.laws_szPattern B hB1 hB2 ).2.1 a left' r hF

theorem C.laws_szPatternS_l1 (B : Nat) (hB1 : 67108864 ≤ B) (hB2 : B ≤ 9223372036854775807) (a : List Vl.Pattern) (left'3 : Int) (i : Nat) (o : Lo Int Int) (hF : F.laws_szPatternS_l1 a left'3 i = some o) : ∀ (c : Code), navO [1, 1, 1, 0, 1, 0, 0] (bodyOf Try.f43) = some c → ∀ (Q : Exit → ASt → Prop), o.post (fun r => ∀ st, Post Try.prog Try.f43 (fun r' _ => r'.le (.lit (.int .i64 r))) .ret st → Q .ret st) (fun s => Q (.exit 0) ⟨[(1, .lit (.int .i64 s))], []⟩) → ALoopU Try.prog B 0 27 (hold c .mk) ⟨[(0, .arr (List.map Vl.Pattern.c a)), (1, .lit (.int .i64 left'3)), (5, .lit (.int .i64 (i : Int)))], []⟩ (hold Q .mk) :=
 (CC.laws_szPattern B hB1 hB2 ).2.2 a left'3 i o hF

set_option maxRecDepth 100000 in
set_option maxHeartbeats 4000000 in
theorem CC.laws_toPattern (B : Nat) (hB1 : 67108864 ≤ B) (hB2 : B ≤ 9223372036854775807)  : (∀ (a : Vl.Pattern) (r : Vl.Pattern), F.laws_toPattern a = some r → PureCall Try.prog B 21 [.agg [.lit (.int .i64 a.op), .lit (.int .i64 a.ctor), .lit (.int .i64 a.n), .lit (.int .i64 a.m), .lit (.int .i64 a.var), .arr (List.map Vl.Pattern.c a.kids)]] (.agg [.lit (.int .i64 r.op), .lit (.int .i64 r.ctor), .lit (.int .i64 r.n), .lit (.int .i64 r.m), .lit (.int .i64 r.var), .arr (List.map Vl.Pattern.c r.kids)])) ∧
  (∀ (a : List Vl.Pattern) (r : List Vl.Pattern), F.laws_toPatternS a = some r → PureCall Try.prog B 44 [.arr (List.map Vl.Pattern.c a)] (.arr (List.map Vl.Pattern.c r))) ∧
  (∀ (a : List Vl.Pattern) (out : List Vl.Pattern) (i : Nat) (o : List Vl.Pattern), F.laws_toPatternS_l1 a out i = some o → ∀ (c : Code), navO [1, 1, 0, 1, 0, 0] (bodyOf Try.f44) = some c → ∀ (Q : Exit → ASt → Prop), (Q (.exit 0) ⟨[(3, .own 0 (List.length (α := Vl.Pattern) o))], [.elems 6 (List.map Vl.Pattern.c o)]⟩) → ALoopU Try.prog B 0 23 (hold c .mk) ⟨[(0, .arr (List.map Vl.Pattern.c a)), (3, .own 0 (List.length (α := Vl.Pattern) out)), (4, .lit (.int .i64 (i : Int)))], [.elems 6 (List.map Vl.Pattern.c out)]⟩ (hold Q .mk)) := by
 refine F.laws_toPattern.mutual_partial_correctness 
  (fun a r => PureCall Try.prog B 21 [.agg [.lit (.int .i64 a.op), .lit (.int .i64 a.ctor), .lit (.int .i64 a.n), .lit (.int .i64 a.m), .lit (.int .i64 a.var), .arr (List.map Vl.Pattern.c a.kids)]] (.agg [.lit (.int .i64 r.op), .lit (.int .i64 r.ctor), .lit (.int .i64 r.n), .lit (.int .i64 r.m), .lit (.int .i64 r.var), .arr (List.map Vl.Pattern.c r.kids)]))
  (fun a r => PureCall Try.prog B 44 [.arr (List.map Vl.Pattern.c a)] (.arr (List.map Vl.Pattern.c r)))
  (fun a out i o => ∀ (c : Code), navO [1, 1, 0, 1, 0, 0] (bodyOf Try.f44) = some c → ∀ (Q : Exit → ASt → Prop), (Q (.exit 0) ⟨[(3, .own 0 (List.length (α := Vl.Pattern) o))], [.elems 6 (List.map Vl.Pattern.c o)]⟩) → ALoopU Try.prog B 0 23 (hold c .mk) ⟨[(0, .arr (List.map Vl.Pattern.c a)), (3, .own 0 (List.length (α := Vl.Pattern) out)), (4, .lit (.int .i64 (i : Int)))], [.elems 6 (List.map Vl.Pattern.c out)]⟩ (hold Q .mk))
  ?_ ?_ ?_
 ·intro _f_laws_toPatternS ih_laws_toPatternS a r hF
  refine PureCall.enterLe Try.func21 (by kernel_rfl) rfl Try.ntmps21 (by simp) (by simp) ?_
  repeat (first | refine chk.ga ?_ | simp -dsimp)
  have hF := ob hF; obtain ⟨v, e1, hF⟩ := hF
  refine ((ih_laws_toPatternS a.kids v e1)).goW (by simp) (by simp) ?_
  cases hF
  repeat (first | refine chk.ga ?_ | simp -dsimp)
  all_goals (try omega)
 ·intro _f_laws_toPatternS_l1 ih_laws_toPatternS_l1 a r hF
  refine PureCall.enterLe Try.func44 (by kernel_rfl) rfl Try.ntmps44 (by simp) (by simp) ?_
  have hF := oc hF; obtain ⟨c1, hF⟩ := hF
  repeat (first | refine chk.ga ?_ | simp -dsimp)
  have hF := ob hF; obtain ⟨o', ho10, hF⟩ := hF
  refine ALoop.goU ⟨[(0, .arr (List.map Vl.Pattern.c a)), (3, .own 0 (List.length (α := Vl.Pattern) (List.replicate a.length Vl.Pattern.z))), (4, .lit (.int .i64 (0 : Int)))], [.elems 6 (List.map Vl.Pattern.c (List.replicate a.length Vl.Pattern.z))]⟩ (Gh.to3 (by simp) (by simp -dsimp)) ?_
  refine (ih_laws_toPatternS_l1 a (List.replicate a.length Vl.Pattern.z) 0 o' ho10) _ rfl _ ?_
  cases hF
  repeat (first | refine chk.ga ?_ | simp -dsimp)
  all_goals (try omega)
 ·intro _f_laws_toPattern _f_laws_toPatternS_l1 ih_laws_toPattern ih_laws_toPatternS_l1 a out i o hF
  intro c hc Q hq
  obtain rfl : c = _ := navEq hc rfl
  refine ALoopU.know fun hk hs => ?_
  have b0 := hk 0
  simp -dsimp at b0
  have d0 := hs 0 _ rfl
  simp -dsimp [Blk.bnd] at d0
  clear hk hs
  refine ALoopU.enter ?_
  repeat (first | refine chk.ga ?_ | simp -dsimp)
  refine abr.split (fun h2 => ?_) (fun h2 => ?_)
  ·have q3 : (i < a.length) := auq h2
   have z4 : ((i : Int) < (a.length : Int)) := auz
   rw [if_pos q3] at hF
   have hF := ob hF; obtain ⟨x, e5, hF⟩ := hF
   have le5 := lt_of_get e5
   repeat (first | refine chk.ga ?_ | simp -dsimp [h2, z4, ↓e5])
   have hF := ob hF; obtain ⟨v, e6, hF⟩ := hF
   refine ((ih_laws_toPattern x v e6)).goW (by first | simp [h2, z4, ↓e5]; done | simp_all) (by simp) ?_
   have hF := ob hF; obtain ⟨x7, e8, hF⟩ := hF
   have le8 := lt_of_get e8
   have w9 : IntKind.i64.wrap ((i : Int) + 1) = (i : Int) + 1 := wrap_in (by omega) (by omega)
   repeat (first | refine chk.ga ?_ | simp -dsimp [h2, z4, ↓e5, ↓e8, w9])
   refine Again.go ⟨[(0, .arr (List.map Vl.Pattern.c a)), (3, .own 0 (List.length (α := Vl.Pattern) (out.set i v))), (4, .lit (.int .i64 ((i + 1) : Int)))], [.elems 6 (List.map Vl.Pattern.c (out.set i v))]⟩ (Gh.to3 (by simp) (by first | simp -dsimp [h2, z4, ↓e5, ↓e8, w9]; done | simp_all)) ?_
   exact (ih_laws_toPatternS_l1 a (out.set i v) (i + 1) o hF) _ rfl _ hq
  ·have q3 : ¬ (i < a.length) := auq h2
   have z4 : ¬ ((i : Int) < (a.length : Int)) := auz
   rw [if_neg q3] at hF
   cases hF
   repeat (first | refine chk.ga ?_ | simp -dsimp [h2, q3, z4])
   refine Leave.go ⟨[(3, .own 0 (List.length (α := Vl.Pattern) out))], [.elems 6 (List.map Vl.Pattern.c out)]⟩ (Gh.to3 (by simp) (by first | simp -dsimp [h2, q3, z4]; done | simp_all)) ?_
   exact hq

theorem C.laws_toPattern (B : Nat) (hB1 : 67108864 ≤ B) (hB2 : B ≤ 9223372036854775807) (a : Vl.Pattern) (r : Vl.Pattern) (hF : F.laws_toPattern a = some r) : PureCall Try.prog B 21 [.agg [.lit (.int .i64 a.op), .lit (.int .i64 a.ctor), .lit (.int .i64 a.n), .lit (.int .i64 a.m), .lit (.int .i64 a.var), .arr (List.map Vl.Pattern.c a.kids)]] (.agg [.lit (.int .i64 r.op), .lit (.int .i64 r.ctor), .lit (.int .i64 r.n), .lit (.int .i64 r.m), .lit (.int .i64 r.var), .arr (List.map Vl.Pattern.c r.kids)]) :=
 (CC.laws_toPattern B hB1 hB2 ).1 a r hF

theorem C.laws_toPatternS (B : Nat) (hB1 : 67108864 ≤ B) (hB2 : B ≤ 9223372036854775807) (a : List Vl.Pattern) (r : List Vl.Pattern) (hF : F.laws_toPatternS a = some r) : PureCall Try.prog B 44 [.arr (List.map Vl.Pattern.c a)] (.arr (List.map Vl.Pattern.c r)) :=
 (CC.laws_toPattern B hB1 hB2 ).2.1 a r hF

theorem C.laws_toPatternS_l1 (B : Nat) (hB1 : 67108864 ≤ B) (hB2 : B ≤ 9223372036854775807) (a : List Vl.Pattern) (out : List Vl.Pattern) (i : Nat) (o : List Vl.Pattern) (hF : F.laws_toPatternS_l1 a out i = some o) : ∀ (c : Code), navO [1, 1, 0, 1, 0, 0] (bodyOf Try.f44) = some c → ∀ (Q : Exit → ASt → Prop), (Q (.exit 0) ⟨[(3, .own 0 (List.length (α := Vl.Pattern) o))], [.elems 6 (List.map Vl.Pattern.c o)]⟩) → ALoopU Try.prog B 0 23 (hold c .mk) ⟨[(0, .arr (List.map Vl.Pattern.c a)), (3, .own 0 (List.length (α := Vl.Pattern) out)), (4, .lit (.int .i64 (i : Int)))], [.elems 6 (List.map Vl.Pattern.c out)]⟩ (hold Q .mk) :=
 (CC.laws_toPattern B hB1 hB2 ).2.2 a out i o hF

set_option maxRecDepth 100000 in
set_option maxHeartbeats 4000000 in
theorem CC.spec_BarePattern (B : Nat) (hB1 : 67108864 ≤ B) (hB2 : B ≤ 9223372036854775807)  : (∀ (p : Vl.Pattern) (r : Vl.Pattern), F.spec_BarePattern p = some r → PureCall Try.prog B 20 [.agg [.lit (.int .i64 p.op), .lit (.int .i64 p.ctor), .lit (.int .i64 p.n), .lit (.int .i64 p.m), .lit (.int .i64 p.var), .arr (List.map Vl.Pattern.c p.kids)]] (.agg [.lit (.int .i64 r.op), .lit (.int .i64 r.ctor), .lit (.int .i64 r.n), .lit (.int .i64 r.m), .lit (.int .i64 r.var), .arr (List.map Vl.Pattern.c r.kids)])) ∧
  (∀ (p : Vl.Pattern) (out20 : List Vl.Pattern) (i21 : Nat) (o : List Vl.Pattern), F.spec_BarePattern_l2 p out20 i21 = some o → ∀ (c : Code), navO [1, 1, 1, 1, 0, 1, 0, 0] (bodyOf Try.f20) = some c → ∀ (Q : Exit → ASt → Prop), (Q (.exit 1) ⟨[(2, .ptr 1 0), (3, .ptr 2 0)], [.dead, .cells [.lit (.int .i64 0), .lit (.int .i64 0), .lit (.int .i64 0), .lit (.int .i64 0), .lit (.int .i64 0), .lit (.slice none 0 0)], .cells [.lit (.int .i64 p.op), .lit (.int .i64 p.ctor), .lit (.int .i64 p.n), .lit (.int .i64 p.m), .lit (.int .i64 p.var), .own 3 (List.length (α := Vl.Pattern) o)], .elems 6 (List.map Vl.Pattern.c o)]⟩) → ALoopU Try.prog B 0 42 (hold c .mk) ⟨[(1, .ptr 0 0), (2, .ptr 1 0), (3, .ptr 2 0), (4, .lit (.int .i64 (i21 : Int)))], [.cells [.lit (.int .i64 p.op), .lit (.int .i64 p.ctor), .lit (.int .i64 p.n), .lit (.int .i64 p.m), .lit (.int .i64 p.var), .arr (List.map Vl.Pattern.c p.kids)], .cells [.lit (.int .i64 0), .lit (.int .i64 0), .lit (.int .i64 0), .lit (.int .i64 0), .lit (.int .i64 0), .lit (.slice none 0 0)], .cells [.lit (.int .i64 p.op), .lit (.int .i64 p.ctor), .lit (.int .i64 p.n), .lit (.int .i64 p.m), .lit (.int .i64 p.var), .own 3 (List.length (α := Vl.Pattern) out20)], .elems 6 (List.map Vl.Pattern.c out20)]⟩ (hold Q .mk)) ∧
  (∀ (p : Vl.Pattern) (out : List Vl.Pattern) (i : Nat) (o : List Vl.Pattern), F.spec_BarePattern_l1 p out i = some o → ∀ (c : Code), navO [1, 1, 1, 1, 0, 1, 0, 0] (bodyOf Try.f20) = some c → ∀ (Q : Exit → ASt → Prop), (Q (.exit 1) ⟨[(2, .ptr 1 0), (3, .ptr 2 0)], [.dead, .cells [.lit (.int .i64 0), .lit (.int .i64 0), .lit (.int .i64 0), .lit (.int .i64 0), .lit (.int .i64 0), .lit (.slice none 0 0)], .cells [.lit (.int .i64 p.op), .lit (.int .i64 p.ctor), .lit (.int .i64 p.n), .lit (.int .i64 p.m), .lit (.int .i64 p.var), .own 3 (List.length (α := Vl.Pattern) o)], .elems 6 (List.map Vl.Pattern.c o)]⟩) → ALoopU Try.prog B 0 42 (hold c .mk) ⟨[(1, .ptr 0 0), (2, .ptr 1 0), (3, .ptr 2 0), (4, .lit (.int .i64 (i : Int)))], [.cells [.lit (.int .i64 p.op), .lit (.int .i64 p.ctor), .lit (.int .i64 p.n), .lit (.int .i64 p.m), .lit (.int .i64 p.var), .arr (List.map Vl.Pattern.c p.kids)], .cells [.lit (.int .i64 0), .lit (.int .i64 0), .lit (.int .i64 0), .lit (.int .i64 0), .lit (.int .i64 0), .lit (.slice none 0 0)], .cells [.lit (.int .i64 p.op), .lit (.int .i64 p.ctor), .lit (.int .i64 p.n), .lit (.int .i64 p.m), .lit (.int .i64 p.var), .own 3 (List.length (α := Vl.Pattern) out)], .elems 6 (List.map Vl.Pattern.c out)]⟩ (hold Q .mk)) := by
 refine F.spec_BarePattern.mutual_partial_correctness 
  (fun p r => PureCall Try.prog B 20 [.agg [.lit (.int .i64 p.op), .lit (.int .i64 p.ctor), .lit (.int .i64 p.n), .lit (.int .i64 p.m), .lit (.int .i64 p.var), .arr (List.map Vl.Pattern.c p.kids)]] (.agg [.lit (.int .i64 r.op), .lit (.int .i64 r.ctor), .lit (.int .i64 r.n), .lit (.int .i64 r.m), .lit (.int .i64 r.var), .arr (List.map Vl.Pattern.c r.kids)]))
  (fun p out20 i21 o => ∀ (c : Code), navO [1, 1, 1, 1, 0, 1, 0, 0] (bodyOf Try.f20) = some c → ∀ (Q : Exit → ASt → Prop), (Q (.exit 1) ⟨[(2, .ptr 1 0), (3, .ptr 2 0)], [.dead, .cells [.lit (.int .i64 0), .lit (.int .i64 0), .lit (.int .i64 0), .lit (.int .i64 0), .lit (.int .i64 0), .lit (.slice none 0 0)], .cells [.lit (.int .i64 p.op), .lit (.int .i64 p.ctor), .lit (.int .i64 p.n), .lit (.int .i64 p.m), .lit (.int .i64 p.var), .own 3 (List.length (α := Vl.Pattern) o)], .elems 6 (List.map Vl.Pattern.c o)]⟩) → ALoopU Try.prog B 0 42 (hold c .mk) ⟨[(1, .ptr 0 0), (2, .ptr 1 0), (3, .ptr 2 0), (4, .lit (.int .i64 (i21 : Int)))], [.cells [.lit (.int .i64 p.op), .lit (.int .i64 p.ctor), .lit (.int .i64 p.n), .lit (.int .i64 p.m), .lit (.int .i64 p.var), .arr (List.map Vl.Pattern.c p.kids)], .cells [.lit (.int .i64 0), .lit (.int .i64 0), .lit (.int .i64 0), .lit (.int .i64 0), .lit (.int .i64 0), .lit (.slice none 0 0)], .cells [.lit (.int .i64 p.op), .lit (.int .i64 p.ctor), .lit (.int .i64 p.n), .lit (.int .i64 p.m), .lit (.int .i64 p.var), .own 3 (List.length (α := Vl.Pattern) out20)], .elems 6 (List.map Vl.Pattern.c out20)]⟩ (hold Q .mk))
  (fun p out i o => ∀ (c : Code), navO [1, 1, 1, 1, 0, 1, 0, 0] (bodyOf Try.f20) = some c → ∀ (Q : Exit → ASt → Prop), (Q (.exit 1) ⟨[(2, .ptr 1 0), (3, .ptr 2 0)], [.dead, .cells [.lit (.int .i64 0), .lit (.int .i64 0), .lit (.int .i64 0), .lit (.int .i64 0), .lit (.int .i64 0), .lit (.slice none 0 0)], .cells [.lit (.int .i64 p.op), .lit (.int .i64 p.ctor), .lit (.int .i64 p.n), .lit (.int .i64 p.m), .lit (.int .i64 p.var), .own 3 (List.length (α := Vl.Pattern) o)], .elems 6 (List.map Vl.Pattern.c o)]⟩) → ALoopU Try.prog B 0 42 (hold c .mk) ⟨[(1, .ptr 0 0), (2, .ptr 1 0), (3, .ptr 2 0), (4, .lit (.int .i64 (i : Int)))], [.cells [.lit (.int .i64 p.op), .lit (.int .i64 p.ctor), .lit (.int .i64 p.n), .lit (.int .i64 p.m), .lit (.int .i64 p.var), .arr (List.map Vl.Pattern.c p.kids)], .cells [.lit (.int .i64 0), .lit (.int .i64 0), .lit (.int .i64 0), .lit (.int .i64 0), .lit (.int .i64 0), .lit (.slice none 0 0)], .cells [.lit (.int .i64 p.op), .lit (.int .i64 p.ctor), .lit (.int .i64 p.n), .lit (.int .i64 p.m), .lit (.int .i64 p.var), .own 3 (List.length (α := Vl.Pattern) out)], .elems 6 (List.map Vl.Pattern.c out)]⟩ (hold Q .mk))
  ?_ ?_ ?_
 ·intro _f_spec_BarePattern _f_spec_BarePattern_l2 _f_spec_BarePattern_l1 ih_spec_BarePattern ih_spec_BarePattern_l2 ih_spec_BarePattern_l1 p r hF
  refine PureCall.enterLe Try.func20 (by kernel_rfl) rfl Try.ntmps20 (by simp) (by simp) ?_
  repeat (first | refine chk.ga ?_ | simp -dsimp)
  refine abr.split (fun h1 => ?_) (fun h1 => ?_)
  ·have q2 : (p.op = 2) := auq h1
   rw [if_pos q2] at hF
   cases hF
   repeat (first | refine chk.ga ?_ | simp -dsimp [h1])
   all_goals (try omega)
  ·have q2 : ¬ (p.op = 2) := auq h1
   rw [if_neg q2] at hF
   repeat (first | refine chk.ga ?_ | simp -dsimp [h1, q2])
   refine abr.split (fun h3 => ?_) (fun h3 => ?_)
   ·have q4 : (p.op = 6) := auq h3
    rw [if_pos q4] at hF
    repeat (first | refine chk.ga ?_ | simp -dsimp [h1, q2, h3])
    refine abr.split (fun h5 => ?_) (fun h5 => ?_)
    ·have q6 : (0 < p.kids.length) := auq h5
     have z7 : ((0 : Int) < (p.kids.length : Int)) := auz
     rw [if_pos q6] at hF
     have hF := ob hF; obtain ⟨x, e8, hF⟩ := hF
     have le8 := lt_of_get e8
     repeat (first | refine chk.ga ?_ | simp -dsimp [h1, q2, h3, h5, z7, ↓e8])
     have hF := ob hF; obtain ⟨v, e9, hF⟩ := hF
     refine ((ih_spec_BarePattern x v e9)).goW (by first | simp [h1, q2, h3, h5, z7, ↓e8]; done | simp_all) (by simp) ?_
     cases hF
     repeat (first | refine chk.ga ?_ | simp -dsimp [h1, q2, h3, h5, z7, ↓e8])
     all_goals (try omega)
    ·have q6 : ¬ (0 < p.kids.length) := auq h5
     have z7 : ¬ ((0 : Int) < (p.kids.length : Int)) := auz
     rw [if_neg q6] at hF
     repeat (first | refine chk.ga ?_ | simp -dsimp [h1, q2, h3, h5, q6, z7])
     have hF := ob hF; obtain ⟨o', ho19, hF⟩ := hF
     refine ALoop.goU ⟨[(1, .ptr 0 0), (2, .ptr 1 0), (3, .ptr 2 0), (4, .lit (.int .i64 (0 : Int)))], [.cells [.lit (.int .i64 p.op), .lit (.int .i64 p.ctor), .lit (.int .i64 p.n), .lit (.int .i64 p.m), .lit (.int .i64 p.var), .arr (List.map Vl.Pattern.c p.kids)], .cells [.lit (.int .i64 0), .lit (.int .i64 0), .lit (.int .i64 0), .lit (.int .i64 0), .lit (.int .i64 0), .lit (.slice none 0 0)], .cells [.lit (.int .i64 p.op), .lit (.int .i64 p.ctor), .lit (.int .i64 p.n), .lit (.int .i64 p.m), .lit (.int .i64 p.var), .own 3 (List.length (α := Vl.Pattern) [])], .elems 6 (List.map Vl.Pattern.c [])]⟩ (by refine Gh.trans (Gh.nilCell 2 5 6 (by simp -dsimp; rfl) (by simp -dsimp)) ?_; exact (Gh.to3 (by simp) (by first | simp -dsimp [h1, q2, h3, h5, q6, z7]; done | simp_all))) ?_
     refine (ih_spec_BarePattern_l1 p [] 0 o' ho19) _ rfl _ ?_
     cases hF
     repeat (first | refine chk.ga ?_ | simp -dsimp)
     all_goals (try omega)
   ·have q4 : ¬ (p.op = 6) := auq h3
    rw [if_neg q4] at hF
    repeat (first | refine chk.ga ?_ | simp -dsimp [h1, q2, h3, q4])
    have hF := ob hF; obtain ⟨o'32, ho31, hF⟩ := hF
    refine ALoop.goU ⟨[(1, .ptr 0 0), (2, .ptr 1 0), (3, .ptr 2 0), (4, .lit (.int .i64 (0 : Int)))], [.cells [.lit (.int .i64 p.op), .lit (.int .i64 p.ctor), .lit (.int .i64 p.n), .lit (.int .i64 p.m), .lit (.int .i64 p.var), .arr (List.map Vl.Pattern.c p.kids)], .cells [.lit (.int .i64 0), .lit (.int .i64 0), .lit (.int .i64 0), .lit (.int .i64 0), .lit (.int .i64 0), .lit (.slice none 0 0)], .cells [.lit (.int .i64 p.op), .lit (.int .i64 p.ctor), .lit (.int .i64 p.n), .lit (.int .i64 p.m), .lit (.int .i64 p.var), .own 3 (List.length (α := Vl.Pattern) [])], .elems 6 (List.map Vl.Pattern.c [])]⟩ (by refine Gh.trans (Gh.nilCell 2 5 6 (by simp -dsimp; rfl) (by simp -dsimp)) ?_; exact (Gh.to3 (by simp) (by first | simp -dsimp [h1, q2, h3, q4]; done | simp_all))) ?_
    refine (ih_spec_BarePattern_l2 p [] 0 o'32 ho31) _ rfl _ ?_
    cases hF
    repeat (first | refine chk.ga ?_ | simp -dsimp)
    all_goals (try omega)
 ·intro _f_spec_BarePattern _f_spec_BarePattern_l2 ih_spec_BarePattern ih_spec_BarePattern_l2 p out20 i21 o hF
  intro c hc Q hq
  obtain rfl : c = _ := navEq hc rfl
  refine ALoopU.know fun hk hs => ?_
  have d0 := hs 0 _ rfl
  simp -dsimp [Blk.bnd] at d0
  have d3 := hs 3 _ rfl
  simp -dsimp [Blk.bnd] at d3
  clear hk hs
  refine ALoopU.enter ?_
  repeat (first | refine chk.ga ?_ | simp -dsimp)
  refine abr.split (fun h22 => ?_) (fun h22 => ?_)
  ·have q23 : (i21 < p.kids.length) := auq h22
   have z24 : ((i21 : Int) < (p.kids.length : Int)) := auz
   rw [if_pos q23] at hF
   repeat (first | refine chk.ga ?_ | simp -dsimp [h22, z24])
   refine ADraw.eff [] [(0, 1), (0, 1), (0, 0), (0, 0), (0, 0), (0, 0), (0, 0), (0, 3), (0, 3), (0, 3), (2, 2), (0, 3)] [0, 2, 1, 1, 1, 1, 1, 1, 1, 1, 1, 1] follows (by kernel_rfl) (by kernel_rfl) (by kernel_rfl) ?_
   have hF := ob hF; obtain ⟨x25, e26, hF⟩ := hF
   have le26 := lt_of_get e26
   repeat (first | refine chk.ga ?_ | simp -dsimp [h22, z24, ↓e26])
   have hF := ob hF; obtain ⟨v27, e28, hF⟩ := hF
   refine ((ih_spec_BarePattern x25 v27 e28)).pgoW (by first | simp [h22, z24, ↓e26]; done | simp_all) (by simp) ?_
   have hF := oc hF; obtain ⟨c29, hF⟩ := hF
   have w30 : IntKind.i64.wrap ((i21 : Int) + 1) = (i21 : Int) + 1 := wrap_in (by omega) (by omega)
   repeat (first | refine chk.ga ?_ | simp -dsimp [h22, z24, ↓e26, w30])
   refine Again.go ⟨[(1, .ptr 0 0), (2, .ptr 1 0), (3, .ptr 2 0), (4, .lit (.int .i64 ((i21 + 1) : Int)))], [.cells [.lit (.int .i64 p.op), .lit (.int .i64 p.ctor), .lit (.int .i64 p.n), .lit (.int .i64 p.m), .lit (.int .i64 p.var), .arr (List.map Vl.Pattern.c p.kids)], .cells [.lit (.int .i64 0), .lit (.int .i64 0), .lit (.int .i64 0), .lit (.int .i64 0), .lit (.int .i64 0), .lit (.slice none 0 0)], .cells [.lit (.int .i64 p.op), .lit (.int .i64 p.ctor), .lit (.int .i64 p.n), .lit (.int .i64 p.m), .lit (.int .i64 p.var), .own 3 (List.length (α := Vl.Pattern) (out20 ++ [v27]))], .elems 6 (List.map Vl.Pattern.c (out20 ++ [v27]))]⟩ (Gh.to3 (by simp) (by first | simp -dsimp [h22, z24, ↓e26, w30]; done | simp_all)) ?_
   exact (ih_spec_BarePattern_l2 p (out20 ++ [v27]) (i21 + 1) o hF) _ rfl _ hq
  ·have q23 : ¬ (i21 < p.kids.length) := auq h22
   have z24 : ¬ ((i21 : Int) < (p.kids.length : Int)) := auz
   rw [if_neg q23] at hF
   cases hF
   repeat (first | refine chk.ga ?_ | simp -dsimp [h22, q23, z24])
   refine Leave.go ⟨[(2, .ptr 1 0), (3, .ptr 2 0)], [.dead, .cells [.lit (.int .i64 0), .lit (.int .i64 0), .lit (.int .i64 0), .lit (.int .i64 0), .lit (.int .i64 0), .lit (.slice none 0 0)], .cells [.lit (.int .i64 p.op), .lit (.int .i64 p.ctor), .lit (.int .i64 p.n), .lit (.int .i64 p.m), .lit (.int .i64 p.var), .own 3 (List.length (α := Vl.Pattern) out20)], .elems 6 (List.map Vl.Pattern.c out20)]⟩ (Gh.to3 (by simp) (by first | simp -dsimp [h22, q23, z24]; done | simp_all)) ?_
   exact hq
 ·intro _f_spec_BarePattern _f_spec_BarePattern_l1 ih_spec_BarePattern ih_spec_BarePattern_l1 p out i o hF
  intro c hc Q hq
  obtain rfl : c = _ := navEq hc rfl
  refine ALoopU.know fun hk hs => ?_
  have d0 := hs 0 _ rfl
  simp -dsimp [Blk.bnd] at d0
  have d3 := hs 3 _ rfl
  simp -dsimp [Blk.bnd] at d3
  clear hk hs
  refine ALoopU.enter ?_
  repeat (first | refine chk.ga ?_ | simp -dsimp)
  refine abr.split (fun h10 => ?_) (fun h10 => ?_)
  ·have q11 : (i < p.kids.length) := auq h10
   have z12 : ((i : Int) < (p.kids.length : Int)) := auz
   rw [if_pos q11] at hF
   repeat (first | refine chk.ga ?_ | simp -dsimp [h10, z12])
   refine ADraw.eff [] [(0, 1), (0, 1), (0, 0), (0, 0), (0, 0), (0, 0), (0, 0), (0, 3), (0, 3), (0, 3), (2, 2), (0, 3)] [0, 2, 1, 1, 1, 1, 1, 1, 1, 1, 1, 1] follows (by kernel_rfl) (by kernel_rfl) (by kernel_rfl) ?_
   have hF := ob hF; obtain ⟨x13, e14, hF⟩ := hF
   have le14 := lt_of_get e14
   repeat (first | refine chk.ga ?_ | simp -dsimp [h10, z12, ↓e14])
   have hF := ob hF; obtain ⟨v15, e16, hF⟩ := hF
   refine ((ih_spec_BarePattern x13 v15 e16)).pgoW (by first | simp [h10, z12, ↓e14]; done | simp_all) (by simp) ?_
   have hF := oc hF; obtain ⟨c17, hF⟩ := hF
   have w18 : IntKind.i64.wrap ((i : Int) + 1) = (i : Int) + 1 := wrap_in (by omega) (by omega)
   repeat (first | refine chk.ga ?_ | simp -dsimp [h10, z12, ↓e14, w18])
   refine Again.go ⟨[(1, .ptr 0 0), (2, .ptr 1 0), (3, .ptr 2 0), (4, .lit (.int .i64 ((i + 1) : Int)))], [.cells [.lit (.int .i64 p.op), .lit (.int .i64 p.ctor), .lit (.int .i64 p.n), .lit (.int .i64 p.m), .lit (.int .i64 p.var), .arr (List.map Vl.Pattern.c p.kids)], .cells [.lit (.int .i64 0), .lit (.int .i64 0), .lit (.int .i64 0), .lit (.int .i64 0), .lit (.int .i64 0), .lit (.slice none 0 0)], .cells [.lit (.int .i64 p.op), .lit (.int .i64 p.ctor), .lit (.int .i64 p.n), .lit (.int .i64 p.m), .lit (.int .i64 p.var), .own 3 (List.length (α := Vl.Pattern) (out ++ [v15]))], .elems 6 (List.map Vl.Pattern.c (out ++ [v15]))]⟩ (Gh.to3 (by simp) (by first | simp -dsimp [h10, z12, ↓e14, w18]; done | simp_all)) ?_
   exact (ih_spec_BarePattern_l1 p (out ++ [v15]) (i + 1) o hF) _ rfl _ hq
  ·have q11 : ¬ (i < p.kids.length) := auq h10
   have z12 : ¬ ((i : Int) < (p.kids.length : Int)) := auz
   rw [if_neg q11] at hF
   cases hF
   repeat (first | refine chk.ga ?_ | simp -dsimp [h10, q11, z12])
   refine Leave.go ⟨[(2, .ptr 1 0), (3, .ptr 2 0)], [.dead, .cells [.lit (.int .i64 0), .lit (.int .i64 0), .lit (.int .i64 0), .lit (.int .i64 0), .lit (.int .i64 0), .lit (.slice none 0 0)], .cells [.lit (.int .i64 p.op), .lit (.int .i64 p.ctor), .lit (.int .i64 p.n), .lit (.int .i64 p.m), .lit (.int .i64 p.var), .own 3 (List.length (α := Vl.Pattern) out)], .elems 6 (List.map Vl.Pattern.c out)]⟩ (Gh.to3 (by simp) (by first | simp -dsimp [h10, q11, z12]; done | simp_all)) ?_
   exact hq

theorem C.spec_BarePattern (B : Nat) (hB1 : 67108864 ≤ B) (hB2 : B ≤ 9223372036854775807) (p : Vl.Pattern) (r : Vl.Pattern) (hF : F.spec_BarePattern p = some r) : PureCall Try.prog B 20 [.agg [.lit (.int .i64 p.op), .lit (.int .i64 p.ctor), .lit (.int .i64 p.n), .lit (.int .i64 p.m), .lit (.int .i64 p.var), .arr (List.map Vl.Pattern.c p.kids)]] (.agg [.lit (.int .i64 r.op), .lit (.int .i64 r.ctor), .lit (.int .i64 r.n), .lit (.int .i64 r.m), .lit (.int .i64 r.var), .arr (List.map Vl.Pattern.c r.kids)]) :=
 (CC.spec_BarePattern B hB1 hB2 ).1 p r hF

theorem C.spec_BarePattern_l2 (B : Nat) (hB1 : 67108864 ≤ B) (hB2 : B ≤ 9223372036854775807) (p : Vl.Pattern) (out20 : List Vl.Pattern) (i21 : Nat) (o : List Vl.Pattern) (hF : F.spec_BarePattern_l2 p out20 i21 = some o) : ∀ (c : Code), navO [1, 1, 1, 1, 0, 1, 0, 0] (bodyOf Try.f20) = some c → ∀ (Q : Exit → ASt → Prop), (Q (.exit 1) ⟨[(2, .ptr 1 0), (3, .ptr 2 0)], [.dead, .cells [.lit (.int .i64 0), .lit (.int .i64 0), .lit (.int .i64 0), .lit (.int .i64 0), .lit (.int .i64 0), .lit (.slice none 0 0)], .cells [.lit (.int .i64 p.op), .lit (.int .i64 p.ctor), .lit (.int .i64 p.n), .lit (.int .i64 p.m), .lit (.int .i64 p.var), .own 3 (List.length (α := Vl.Pattern) o)], .elems 6 (List.map Vl.Pattern.c o)]⟩) → ALoopU Try.prog B 0 42 (hold c .mk) ⟨[(1, .ptr 0 0), (2, .ptr 1 0), (3, .ptr 2 0), (4, .lit (.int .i64 (i21 : Int)))], [.cells [.lit (.int .i64 p.op), .lit (.int .i64 p.ctor), .lit (.int .i64 p.n), .lit (.int .i64 p.m), .lit (.int .i64 p.var), .arr (List.map Vl.Pattern.c p.kids)], .cells [.lit (.int .i64 0), .lit (.int .i64 0), .lit (.int .i64 0), .lit (.int .i64 0), .lit (.int .i64 0), .lit (.slice none 0 0)], .cells [.lit (.int .i64 p.op), .lit (.int .i64 p.ctor), .lit (.int .i64 p.n), .lit (.int .i64 p.m), .lit (.int .i64 p.var), .own 3 (List.length (α := Vl.Pattern) out20)], .elems 6 (List.map Vl.Pattern.c out20)]⟩ (hold Q .mk) :=
 (CC.spec_BarePattern B hB1 hB2 ).2.1 p out20 i21 o hF

theorem C.spec_BarePattern_l1 (B : Nat) (hB1 : 67108864 ≤ B) (hB2 : B ≤ 9223372036854775807) (p : Vl.Pattern) (out : List Vl.Pattern) (i : Nat) (o : List Vl.Pattern) (hF : F.spec_BarePattern_l1 p out i = some o) : ∀ (c : Code), navO [1, 1, 1, 1, 0, 1, 0, 0] (bodyOf Try.f20) = some c → ∀ (Q : Exit → ASt → Prop), (Q (.exit 1) ⟨[(2, .ptr 1 0), (3, .ptr 2 0)], [.dead, .cells [.lit (.int .i64 0), .lit (.int .i64 0), .lit (.int .i64 0), .lit (.int .i64 0), .lit (.int .i64 0), .lit (.slice none 0 0)], .cells [.lit (.int .i64 p.op), .lit (.int .i64 p.ctor), .lit (.int .i64 p.n), .lit (.int .i64 p.m), .lit (.int .i64 p.var), .own 3 (List.length (α := Vl.Pattern) o)], .elems 6 (List.map Vl.Pattern.c o)]⟩) → ALoopU Try.prog B 0 42 (hold c .mk) ⟨[(1, .ptr 0 0), (2, .ptr 1 0), (3, .ptr 2 0), (4, .lit (.int .i64 (i : Int)))], [.cells [.lit (.int .i64 p.op), .lit (.int .i64 p.ctor), .lit (.int .i64 p.n), .lit (.int .i64 p.m), .lit (.int .i64 p.var), .arr (List.map Vl.Pattern.c p.kids)], .cells [.lit (.int .i64 0), .lit (.int .i64 0), .lit (.int .i64 0), .lit (.int .i64 0), .lit (.int .i64 0), .lit (.slice none 0 0)], .cells [.lit (.int .i64 p.op), .lit (.int .i64 p.ctor), .lit (.int .i64 p.n), .lit (.int .i64 p.m), .lit (.int .i64 p.var), .own 3 (List.length (α := Vl.Pattern) out)], .elems 6 (List.map Vl.Pattern.c out)]⟩ (hold Q .mk) :=
 (CC.spec_BarePattern B hB1 hB2 ).2.2 p out i o hF

set_option maxRecDepth 100000 in
set_option maxHeartbeats 4000000 in
theorem CC.laws_toPattern__f (B : Nat) (hB1 : 67108864 ≤ B) (hB2 : B ≤ 9223372036854775807)  : (∀ (a : Vl.Pattern) (r : Vl.Pattern), F.laws_toPattern a = some r → FCall Try.prog B 21 [.agg [.lit (.int .i64 a.op), .lit (.int .i64 a.ctor), .lit (.int .i64 a.n), .lit (.int .i64 a.m), .lit (.int .i64 a.var), .arr (List.map Vl.Pattern.c a.kids)]] (.agg [.lit (.int .i64 r.op), .lit (.int .i64 r.ctor), .lit (.int .i64 r.n), .lit (.int .i64 r.m), .lit (.int .i64 r.var), .arr (List.map Vl.Pattern.c r.kids)])) ∧
  (∀ (a : List Vl.Pattern) (r : List Vl.Pattern), F.laws_toPatternS a = some r → FCall Try.prog B 44 [.arr (List.map Vl.Pattern.c a)] (.arr (List.map Vl.Pattern.c r))) ∧
  (∀ (a : List Vl.Pattern) (out : List Vl.Pattern) (i : Nat) (o : List Vl.Pattern), F.laws_toPatternS_l1 a out i = some o → ∀ (R : List (List AV)), ∀ (U : List Value), RW 6 (List.length (α := Vl.Pattern) out) R U → ∀ (c : Code), navO [1, 1, 0, 1, 0, 0] (bodyOf Try.f44) = some c → ∀ (Q : Exit → ASt → Prop), (∀ (Rq : List (List AV)) (Uq : List Value), RW 6 (List.length (α := Vl.Pattern) o) Rq Uq → Q (.exit 0) ⟨[(3, .own 1 (List.length (α := Vl.Pattern) o))], [.pack [] [], .elems 6 Rq, .pack (List.flatten (List.map Vl.Pattern.c o)) Uq]⟩) → ALoopU Try.prog B 0 23 (hold c .mk) ⟨[(0, .arr (List.map Vl.Pattern.c a)), (3, .own 1 (List.length (α := Vl.Pattern) out)), (4, .lit (.int .i64 (i : Int)))], [.pack [] [], .elems 6 R, .pack (List.flatten (List.map Vl.Pattern.c out)) U]⟩ (hold Q .mk)) := by
 refine F.laws_toPattern.mutual_partial_correctness 
  (fun a r => FCall Try.prog B 21 [.agg [.lit (.int .i64 a.op), .lit (.int .i64 a.ctor), .lit (.int .i64 a.n), .lit (.int .i64 a.m), .lit (.int .i64 a.var), .arr (List.map Vl.Pattern.c a.kids)]] (.agg [.lit (.int .i64 r.op), .lit (.int .i64 r.ctor), .lit (.int .i64 r.n), .lit (.int .i64 r.m), .lit (.int .i64 r.var), .arr (List.map Vl.Pattern.c r.kids)]))
  (fun a r => FCall Try.prog B 44 [.arr (List.map Vl.Pattern.c a)] (.arr (List.map Vl.Pattern.c r)))
  (fun a out i o => ∀ (R : List (List AV)), ∀ (U : List Value), RW 6 (List.length (α := Vl.Pattern) out) R U → ∀ (c : Code), navO [1, 1, 0, 1, 0, 0] (bodyOf Try.f44) = some c → ∀ (Q : Exit → ASt → Prop), (∀ (Rq : List (List AV)) (Uq : List Value), RW 6 (List.length (α := Vl.Pattern) o) Rq Uq → Q (.exit 0) ⟨[(3, .own 1 (List.length (α := Vl.Pattern) o))], [.pack [] [], .elems 6 Rq, .pack (List.flatten (List.map Vl.Pattern.c o)) Uq]⟩) → ALoopU Try.prog B 0 23 (hold c .mk) ⟨[(0, .arr (List.map Vl.Pattern.c a)), (3, .own 1 (List.length (α := Vl.Pattern) out)), (4, .lit (.int .i64 (i : Int)))], [.pack [] [], .elems 6 R, .pack (List.flatten (List.map Vl.Pattern.c out)) U]⟩ (hold Q .mk))
  ?_ ?_ ?_
 ·intro _f_laws_toPatternS__f ih_laws_toPatternS__f a r hF
  refine FCall.enterG Try.func21 (by kernel_rfl) rfl Try.ntmps21 (by simp) (Gh.packZ .nil) ?_
  repeat (first | refine chk.ga ?_ | simp -dsimp)
  have hF := ob hF; obtain ⟨v, e1, hF⟩ := hF
  refine ((ih_laws_toPatternS__f a.kids v e1)).go1 (by simp -dsimp) (by simp) (fun h o_h => ?_)
  cases hF
  repeat (first | refine chk.ga ?_ | simp -dsimp [o_h])
  exact ⟨_, by decide, (.agg (.lit _ (.lit _ (.lit _ (.lit _ (.lit _ (.pk 4 rfl .nil)))))) .nil : CT _ _ _ _)⟩
 ·intro _f_laws_toPatternS__f_l1 ih_laws_toPatternS__f_l1 a r hF
  refine FCall.enterG Try.func44 (by kernel_rfl) rfl Try.ntmps44 (by simp) (Gh.packZ .nil) ?_
  have hF := oc hF; obtain ⟨c1, hF⟩ := hF
  repeat (first | refine chk.ga ?_ | simp -dsimp)
  have hF := ob hF; obtain ⟨o', ho13, hF⟩ := hF
  refine ALoop.goU ⟨[(0, .arr (List.map Vl.Pattern.c a)), (3, .own 1 (List.length (α := Vl.Pattern) (List.replicate a.length Vl.Pattern.z))), (4, .lit (.int .i64 (0 : Int)))], [.pack [] [], .elems 6 (List.replicate a.length [.lit (.int .i64 0), .lit (.int .i64 0), .lit (.int .i64 0), .lit (.int .i64 0), .lit (.int .i64 0), .lit (.slice none 0 0)]), .pack (List.flatten (List.map Vl.Pattern.c (List.replicate a.length Vl.Pattern.z))) (List.flatten (List.replicate a.length [.int .i64 0, .int .i64 0, .int .i64 0, .int .i64 0, .int .i64 0, .slice none 0 0]))]⟩ (by refine Gh.trans (Gh.packZ (ZC.rep (.lit (.int .i64 0) (.lit (.int .i64 0) (.lit (.int .i64 0) (.lit (.int .i64 0) (.lit (.int .i64 0) (.emp none 0 .nil)))))) a.length)) ?_; exact (Gh.to3 (by simp) (by simp -dsimp))) ?_
  refine (ih_laws_toPatternS__f_l1 a (List.replicate a.length Vl.Pattern.z) 0 o' ho13) (List.replicate a.length [.lit (.int .i64 0), .lit (.int .i64 0), .lit (.int .i64 0), .lit (.int .i64 0), .lit (.int .i64 0), .lit (.slice none 0 0)]) (List.flatten (List.replicate a.length [.int .i64 0, .int .i64 0, .int .i64 0, .int .i64 0, .int .i64 0, .slice none 0 0])) ((RW.rep a.length [.int .i64 0, .int .i64 0, .int .i64 0, .int .i64 0, .int .i64 0, .slice none 0 0]).cong (by simp) (by simp) rfl) _ rfl _ ?_
  intro Rq Uq Hq3
  cases hF
  repeat (first | refine chk.ga ?_ | simp -dsimp [RW.len Hq3, RW.closed Hq3])
  exact ⟨_, by decide, (.cell (.ownP 1 _ 6 rfl (by simp) (.blk 2 rfl .nil) (by simp [Hq3.2.2]) (by simp [Hq3.1]) (by simp) (by simp) .nil) .nil : CT _ _ _ _)⟩
 ·intro _f_laws_toPattern__f _f_laws_toPatternS__f_l1 ih_laws_toPattern__f ih_laws_toPatternS__f_l1 a out i o hF
  intro R U H2 c hc Q hq
  obtain rfl : c = _ := navEq hc rfl
  refine ALoopU.know fun hk hs => ?_
  have b0 := hk 0
  simp -dsimp at b0
  have d1 := hs 1 _ rfl
  simp -dsimp [Blk.bnd] at d1
  clear hk hs
  refine ALoopU.enter ?_
  repeat (first | refine chk.ga ?_ | simp -dsimp [RW.len H2, RW.closed H2])
  refine abr.split (fun h4 => ?_) (fun h4 => ?_)
  ·have q5 : (i < a.length) := auq h4
   have z6 : ((i : Int) < (a.length : Int)) := auz
   rw [if_pos q5] at hF
   have hF := ob hF; obtain ⟨x, e7, hF⟩ := hF
   have le7 := lt_of_get e7
   repeat (first | refine chk.ga ?_ | simp -dsimp [RW.len H2, RW.closed H2, h4, z6, ↓e7])
   have hF := ob hF; obtain ⟨v, e8, hF⟩ := hF
   refine ((ih_laws_toPattern__f x v e8)).go1 (by first | simp -dsimp [RW.len H2, RW.closed H2, h4, z6, ↓e7]; done | simp_all) (by simp) (fun h o_h => ?_)
   have hF := ob hF; obtain ⟨x9, e10, hF⟩ := hF
   have le10 := lt_of_get e10
   obtain ⟨row11, hrow11, lrow11⟩ := RW.row H2 le10
   have w12 : IntKind.i64.wrap ((i : Int) + 1) = (i : Int) + 1 := wrap_in (by omega) (by omega)
   repeat (first | refine chk.ga ?_ | simp -dsimp [RW.len H2, RW.closed H2, h4, z6, ↓e7, o_h, ↓e10, hrow11, lrow11, w12])
   refine Again.go ⟨[(0, .arr (List.map Vl.Pattern.c a)), (3, .own 1 (List.length (α := Vl.Pattern) (out.set i v))), (4, .lit (.int .i64 ((i + 1) : Int)))], [.pack [] [], .elems 6 (R.set i [.lit (.int .i64 v.op), .lit (.int .i64 v.ctor), .lit (.int .i64 v.n), .lit (.int .i64 v.m), .lit (.int .i64 v.var), .lit h]), .pack (List.flatten (List.map Vl.Pattern.c (out.set i v))) (setU 6 i U [.int .i64 v.op, .int .i64 v.ctor, .int .i64 v.n, .int .i64 v.m, .int .i64 v.var, h])]⟩ (by refine Gh.trans (Gh.setRow (c := Vl.Pattern.c) (y := v) 2 [3] (by exact rfl) e10 (by simp) H2 (by simp) (.lit (.int .i64 v.op) (.lit (.int .i64 v.ctor) (.lit (.int .i64 v.n) (.lit (.int .i64 v.m) (.lit (.int .i64 v.var) (.pk 3 (by exact rfl) .nil)))))) (by simp) (by decide)) ?_; exact (Gh.to3 (by simp) (by first | simp -dsimp [RW.len H2, RW.closed H2, h4, z6, ↓e7, o_h, ↓e10, hrow11, lrow11, w12]; done | simp_all))) ?_
   exact (ih_laws_toPatternS__f_l1 a (out.set i v) (i + 1) o hF) (R.set i [.lit (.int .i64 v.op), .lit (.int .i64 v.ctor), .lit (.int .i64 v.n), .lit (.int .i64 v.m), .lit (.int .i64 v.var), .lit h]) (setU 6 i U [.int .i64 v.op, .int .i64 v.ctor, .int .i64 v.n, .int .i64 v.m, .int .i64 v.var, h]) ((RW.set H2 le10 [.int .i64 v.op, .int .i64 v.ctor, .int .i64 v.n, .int .i64 v.m, .int .i64 v.var, h] rfl).cong (by simp) (by simp) rfl) _ rfl _ hq
  ·have q5 : ¬ (i < a.length) := auq h4
   have z6 : ¬ ((i : Int) < (a.length : Int)) := auz
   rw [if_neg q5] at hF
   cases hF
   repeat (first | refine chk.ga ?_ | simp -dsimp [RW.len H2, RW.closed H2, h4, q5, z6])
   refine Leave.go ⟨[(3, .own 1 (List.length (α := Vl.Pattern) out))], [.pack [] [], .elems 6 R, .pack (List.flatten (List.map Vl.Pattern.c out)) U]⟩ (Gh.to3 (by simp) (by first | simp -dsimp [RW.len H2, RW.closed H2, h4, q5, z6]; done | simp_all)) ?_
   exact hq R U H2

theorem C.laws_toPattern__f (B : Nat) (hB1 : 67108864 ≤ B) (hB2 : B ≤ 9223372036854775807) (a : Vl.Pattern) (r : Vl.Pattern) (hF : F.laws_toPattern a = some r) : FCall Try.prog B 21 [.agg [.lit (.int .i64 a.op), .lit (.int .i64 a.ctor), .lit (.int .i64 a.n), .lit (.int .i64 a.m), .lit (.int .i64 a.var), .arr (List.map Vl.Pattern.c a.kids)]] (.agg [.lit (.int .i64 r.op), .lit (.int .i64 r.ctor), .lit (.int .i64 r.n), .lit (.int .i64 r.m), .lit (.int .i64 r.var), .arr (List.map Vl.Pattern.c r.kids)]) :=
 (CC.laws_toPattern__f B hB1 hB2 ).1 a r hF

theorem C.laws_toPatternS__f (B : Nat) (hB1 : 67108864 ≤ B) (hB2 : B ≤ 9223372036854775807) (a : List Vl.Pattern) (r : List Vl.Pattern) (hF : F.laws_toPatternS a = some r) : FCall Try.prog B 44 [.arr (List.map Vl.Pattern.c a)] (.arr (List.map Vl.Pattern.c r)) :=
 (CC.laws_toPattern__f B hB1 hB2 ).2.1 a r hF

theorem C.laws_toPatternS__f_l1 (B : Nat) (hB1 : 67108864 ≤ B) (hB2 : B ≤ 9223372036854775807) (a : List Vl.Pattern) (out : List Vl.Pattern) (i : Nat) (o : List Vl.Pattern) (hF : F.laws_toPatternS_l1 a out i = some o) : ∀ (R : List (List AV)), ∀ (U : List Value), RW 6 (List.length (α := Vl.Pattern) out) R U → ∀ (c : Code), navO [1, 1, 0, 1, 0, 0] (bodyOf Try.f44) = some c → ∀ (Q : Exit → ASt → Prop), (∀ (Rq : List (List AV)) (Uq : List Value), RW 6 (List.length (α := Vl.Pattern) o) Rq Uq → Q (.exit 0) ⟨[(3, .own 1 (List.length (α := Vl.Pattern) o))], [.pack [] [], .elems 6 Rq, .pack (List.flatten (List.map Vl.Pattern.c o)) Uq]⟩) → ALoopU Try.prog B 0 23 (hold c .mk) ⟨[(0, .arr (List.map Vl.Pattern.c a)), (3, .own 1 (List.length (α := Vl.Pattern) out)), (4, .lit (.int .i64 (i : Int)))], [.pack [] [], .elems 6 R, .pack (List.flatten (List.map Vl.Pattern.c out)) U]⟩ (hold Q .mk) :=
 (CC.laws_toPattern__f B hB1 hB2 ).2.2 a out i o hF

set_option maxRecDepth 100000 in
set_option maxHeartbeats 4000000 in
theorem C.impl_anyPattern__f (B : Nat) (hB1 : 67108864 ≤ B) (hB2 : B ≤ 9223372036854775807)  (r : Vl.Pattern) (hF : F.impl_anyPattern  = some r) : FCall Try.prog B 45 [] (.agg [.lit (.int .i64 r.op), .lit (.int .i64 r.ctor), .lit (.int .i64 r.n), .lit (.int .i64 r.m), .lit (.int .i64 r.var), .arr (List.map Vl.Pattern.c r.kids)]) := by
 unfold F.impl_anyPattern at hF
 refine FCall.enterG Try.func45 (by kernel_rfl) rfl Try.ntmps45 (by simp) (Gh.packZ .nil) ?_
 cases hF
 repeat (first | refine chk.ga ?_ | simp -dsimp)
 exact ⟨_, by decide, (.agg (.lit _ (.lit _ (.lit _ (.lit _ (.lit _ (.nilS none 0 .nil)))))) .nil : CT _ _ _ _)⟩

set_option maxRecDepth 100000 in
set_option maxHeartbeats 4000000 in
theorem CC.impl_BarePattern__f (B : Nat) (hB1 : 67108864 ≤ B) (hB2 : B ≤ 9223372036854775807)  : (∀ (p : Vl.Pattern) (r : Vl.Pattern), F.impl_BarePattern p = some r → FCall Try.prog B 22 [.agg [.lit (.int .i64 p.op), .lit (.int .i64 p.ctor), .lit (.int .i64 p.n), .lit (.int .i64 p.m), .lit (.int .i64 p.var), .arr (List.map Vl.Pattern.c p.kids)]] (.agg [.lit (.int .i64 r.op), .lit (.int .i64 r.ctor), .lit (.int .i64 r.n), .lit (.int .i64 r.m), .lit (.int .i64 r.var), .arr (List.map Vl.Pattern.c r.kids)])) ∧
  (∀ (p : Vl.Pattern) (out26 : List Vl.Pattern) (i30 : Nat) (o : List Vl.Pattern), F.impl_BarePattern_l2 p out26 i30 = some o → ∀ (R27 : List (List AV)), ∀ (U28 : List Value), RW 6 (List.length (α := Vl.Pattern) out26) R27 U28 → ∀ (c : Code), navO [1, 1, 1, 1, 0, 1, 0, 0] (bodyOf Try.f22) = some c → ∀ (Q : Exit → ASt → Prop), (∀ (Rq31 : List (List AV)) (Uq32 : List Value), RW 6 (List.length (α := Vl.Pattern) o) Rq31 Uq32 → Q (.exit 1) ⟨[(1, .ptr 1 0), (2, .ptr 2 0)], [.pack [] [], .cells [.lit (.int .i64 p.op), .lit (.int .i64 p.ctor), .lit (.int .i64 p.n), .lit (.int .i64 p.m), .lit (.int .i64 p.var), .own 3 (List.length (α := Vl.Pattern) o)], .cells [.lit (.int .i64 0), .lit (.int .i64 0), .lit (.int .i64 0), .lit (.int .i64 0), .lit (.int .i64 0), .lit (.slice none 0 0)], .elems 6 Rq31, .pack (List.flatten (List.map Vl.Pattern.c o)) Uq32]⟩) → ALoopU Try.prog B 0 44 (hold c .mk) ⟨[(1, .ptr 1 0), (2, .ptr 2 0), (29, .arr (List.map Vl.Pattern.c p.kids)), (30, .lit (.int .i64 (p.kids.length : Int))), (31, .lit (.int .i64 (i30 : Int)))], [.pack [] [], .cells [.lit (.int .i64 p.op), .lit (.int .i64 p.ctor), .lit (.int .i64 p.n), .lit (.int .i64 p.m), .lit (.int .i64 p.var), .own 3 (List.length (α := Vl.Pattern) out26)], .cells [.lit (.int .i64 0), .lit (.int .i64 0), .lit (.int .i64 0), .lit (.int .i64 0), .lit (.int .i64 0), .lit (.slice none 0 0)], .elems 6 R27, .pack (List.flatten (List.map Vl.Pattern.c out26)) U28]⟩ (hold Q .mk)) ∧
  (∀ (p : Vl.Pattern) (out : List Vl.Pattern) (i : Nat) (o : List Vl.Pattern), F.impl_BarePattern_l1 p out i = some o → ∀ (R : List (List AV)), ∀ (U : List Value), RW 6 (List.length (α := Vl.Pattern) out) R U → ∀ (c : Code), navO [1, 1, 1, 1, 0, 1, 0, 0] (bodyOf Try.f22) = some c → ∀ (Q : Exit → ASt → Prop), (∀ (Rq : List (List AV)) (Uq : List Value), RW 6 (List.length (α := Vl.Pattern) o) Rq Uq → Q (.exit 1) ⟨[(1, .ptr 1 0), (2, .ptr 2 0)], [.pack [] [], .cells [.lit (.int .i64 p.op), .lit (.int .i64 p.ctor), .lit (.int .i64 p.n), .lit (.int .i64 p.m), .lit (.int .i64 p.var), .own 3 (List.length (α := Vl.Pattern) o)], .cells [.lit (.int .i64 0), .lit (.int .i64 0), .lit (.int .i64 0), .lit (.int .i64 0), .lit (.int .i64 0), .lit (.slice none 0 0)], .elems 6 Rq, .pack (List.flatten (List.map Vl.Pattern.c o)) Uq]⟩) → ALoopU Try.prog B 0 44 (hold c .mk) ⟨[(1, .ptr 1 0), (2, .ptr 2 0), (29, .arr (List.map Vl.Pattern.c p.kids)), (30, .lit (.int .i64 (p.kids.length : Int))), (31, .lit (.int .i64 (i : Int)))], [.pack [] [], .cells [.lit (.int .i64 p.op), .lit (.int .i64 p.ctor), .lit (.int .i64 p.n), .lit (.int .i64 p.m), .lit (.int .i64 p.var), .own 3 (List.length (α := Vl.Pattern) out)], .cells [.lit (.int .i64 0), .lit (.int .i64 0), .lit (.int .i64 0), .lit (.int .i64 0), .lit (.int .i64 0), .lit (.slice none 0 0)], .elems 6 R, .pack (List.flatten (List.map Vl.Pattern.c out)) U]⟩ (hold Q .mk)) := by
 refine F.impl_BarePattern.mutual_partial_correctness 
  (fun p r => FCall Try.prog B 22 [.agg [.lit (.int .i64 p.op), .lit (.int .i64 p.ctor), .lit (.int .i64 p.n), .lit (.int .i64 p.m), .lit (.int .i64 p.var), .arr (List.map Vl.Pattern.c p.kids)]] (.agg [.lit (.int .i64 r.op), .lit (.int .i64 r.ctor), .lit (.int .i64 r.n), .lit (.int .i64 r.m), .lit (.int .i64 r.var), .arr (List.map Vl.Pattern.c r.kids)]))
  (fun p out26 i30 o => ∀ (R27 : List (List AV)), ∀ (U28 : List Value), RW 6 (List.length (α := Vl.Pattern) out26) R27 U28 → ∀ (c : Code), navO [1, 1, 1, 1, 0, 1, 0, 0] (bodyOf Try.f22) = some c → ∀ (Q : Exit → ASt → Prop), (∀ (Rq31 : List (List AV)) (Uq32 : List Value), RW 6 (List.length (α := Vl.Pattern) o) Rq31 Uq32 → Q (.exit 1) ⟨[(1, .ptr 1 0), (2, .ptr 2 0)], [.pack [] [], .cells [.lit (.int .i64 p.op), .lit (.int .i64 p.ctor), .lit (.int .i64 p.n), .lit (.int .i64 p.m), .lit (.int .i64 p.var), .own 3 (List.length (α := Vl.Pattern) o)], .cells [.lit (.int .i64 0), .lit (.int .i64 0), .lit (.int .i64 0), .lit (.int .i64 0), .lit (.int .i64 0), .lit (.slice none 0 0)], .elems 6 Rq31, .pack (List.flatten (List.map Vl.Pattern.c o)) Uq32]⟩) → ALoopU Try.prog B 0 44 (hold c .mk) ⟨[(1, .ptr 1 0), (2, .ptr 2 0), (29, .arr (List.map Vl.Pattern.c p.kids)), (30, .lit (.int .i64 (p.kids.length : Int))), (31, .lit (.int .i64 (i30 : Int)))], [.pack [] [], .cells [.lit (.int .i64 p.op), .lit (.int .i64 p.ctor), .lit (.int .i64 p.n), .lit (.int .i64 p.m), .lit (.int .i64 p.var), .own 3 (List.length (α := Vl.Pattern) out26)], .cells [.lit (.int .i64 0), .lit (.int .i64 0), .lit (.int .i64 0), .lit (.int .i64 0), .lit (.int .i64 0), .lit (.slice none 0 0)], .elems 6 R27, .pack (List.flatten (List.map Vl.Pattern.c out26)) U28]⟩ (hold Q .mk))
  (fun p out i o => ∀ (R : List (List AV)), ∀ (U : List Value), RW 6 (List.length (α := Vl.Pattern) out) R U → ∀ (c : Code), navO [1, 1, 1, 1, 0, 1, 0, 0] (bodyOf Try.f22) = some c → ∀ (Q : Exit → ASt → Prop), (∀ (Rq : List (List AV)) (Uq : List Value), RW 6 (List.length (α := Vl.Pattern) o) Rq Uq → Q (.exit 1) ⟨[(1, .ptr 1 0), (2, .ptr 2 0)], [.pack [] [], .cells [.lit (.int .i64 p.op), .lit (.int .i64 p.ctor), .lit (.int .i64 p.n), .lit (.int .i64 p.m), .lit (.int .i64 p.var), .own 3 (List.length (α := Vl.Pattern) o)], .cells [.lit (.int .i64 0), .lit (.int .i64 0), .lit (.int .i64 0), .lit (.int .i64 0), .lit (.int .i64 0), .lit (.slice none 0 0)], .elems 6 Rq, .pack (List.flatten (List.map Vl.Pattern.c o)) Uq]⟩) → ALoopU Try.prog B 0 44 (hold c .mk) ⟨[(1, .ptr 1 0), (2, .ptr 2 0), (29, .arr (List.map Vl.Pattern.c p.kids)), (30, .lit (.int .i64 (p.kids.length : Int))), (31, .lit (.int .i64 (i : Int)))], [.pack [] [], .cells [.lit (.int .i64 p.op), .lit (.int .i64 p.ctor), .lit (.int .i64 p.n), .lit (.int .i64 p.m), .lit (.int .i64 p.var), .own 3 (List.length (α := Vl.Pattern) out)], .cells [.lit (.int .i64 0), .lit (.int .i64 0), .lit (.int .i64 0), .lit (.int .i64 0), .lit (.int .i64 0), .lit (.slice none 0 0)], .elems 6 R, .pack (List.flatten (List.map Vl.Pattern.c out)) U]⟩ (hold Q .mk))
  ?_ ?_ ?_
 ·intro _f_impl_BarePattern__f _f_impl_BarePattern__f_l2 _f_impl_BarePattern__f_l1 ih_impl_BarePattern__f ih_impl_BarePattern__f_l2 ih_impl_BarePattern__f_l1 p r hF
  refine FCall.enterG Try.func22 (by kernel_rfl) rfl Try.ntmps22 (by simp) (Gh.packZ .nil) ?_
  repeat (first | refine chk.ga ?_ | simp -dsimp)
  refine abr.split (fun h1 => ?_) (fun h1 => ?_)
  ·have q2 : (p.op = 2) := auq h1
   rw [if_pos q2] at hF
   repeat (first | refine chk.ga ?_ | simp -dsimp [h1])
   have hF := ob hF; obtain ⟨v, e3, hF⟩ := hF
   refine ((C.impl_anyPattern__f B hB1 hB2 v e3)).go1 (by first | simp -dsimp [h1]; done | simp_all) (by simp) (fun h o_h => ?_)
   cases hF
   repeat (first | refine chk.ga ?_ | simp -dsimp [h1, o_h])
   exact ⟨_, by decide, (.agg (.lit _ (.lit _ (.lit _ (.lit _ (.lit _ (.pk 3 rfl .nil)))))) .nil : CT _ _ _ _)⟩
  ·have q2 : ¬ (p.op = 2) := auq h1
   rw [if_neg q2] at hF
   repeat (first | refine chk.ga ?_ | simp -dsimp [h1, q2])
   refine abr.split (fun h4 => ?_) (fun h4 => ?_)
   ·have q5 : (p.op = 6) := auq h4
    rw [if_pos q5] at hF
    repeat (first | refine chk.ga ?_ | simp -dsimp [h1, q2, h4])
    refine abr.split (fun h6 => ?_) (fun h6 => ?_)
    ·have q7 : (0 < p.kids.length) := auq h6
     have z8 : ((0 : Int) < (p.kids.length : Int)) := auz
     rw [if_pos q7] at hF
     have hF := ob hF; obtain ⟨x, e9, hF⟩ := hF
     have le9 := lt_of_get e9
     repeat (first | refine chk.ga ?_ | simp -dsimp [h1, q2, h4, h6, z8, ↓e9])
     have hF := ob hF; obtain ⟨v10, e11, hF⟩ := hF
     refine ((ih_impl_BarePattern__f x v10 e11)).go1 (by first | simp -dsimp [h1, q2, h4, h6, z8, ↓e9]; done | simp_all) (by simp) (fun h12 o_h12 => ?_)
     cases hF
     repeat (first | refine chk.ga ?_ | simp -dsimp [h1, q2, h4, h6, z8, ↓e9, o_h12])
     exact ⟨_, by decide, (.agg (.lit _ (.lit _ (.lit _ (.lit _ (.lit _ (.pk 3 rfl .nil)))))) .nil : CT _ _ _ _)⟩
    ·have q7 : ¬ (0 < p.kids.length) := auq h6
     have z8 : ¬ ((0 : Int) < (p.kids.length : Int)) := auz
     rw [if_neg q7] at hF
     repeat (first | refine chk.ga ?_ | simp -dsimp [h1, q2, h4, h6, q7, z8])
     have hF := ob hF; obtain ⟨o', ho25, hF⟩ := hF
     refine ALoop.goU ⟨[(1, .ptr 1 0), (2, .ptr 2 0), (29, .arr (List.map Vl.Pattern.c p.kids)), (30, .lit (.int .i64 (p.kids.length : Int))), (31, .lit (.int .i64 (0 : Int)))], [.pack [] [], .cells [.lit (.int .i64 p.op), .lit (.int .i64 p.ctor), .lit (.int .i64 p.n), .lit (.int .i64 p.m), .lit (.int .i64 p.var), .own 3 (List.length (α := Vl.Pattern) [])], .cells [.lit (.int .i64 0), .lit (.int .i64 0), .lit (.int .i64 0), .lit (.int .i64 0), .lit (.int .i64 0), .lit (.slice none 0 0)], .elems 6 [], .pack (List.flatten (List.map Vl.Pattern.c [])) []]⟩ (by refine Gh.trans (Gh.nilCell 1 5 6 (by simp -dsimp; rfl) (by simp -dsimp)) ?_; refine Gh.trans (Gh.packZ .nil) ?_; exact (Gh.to3 (by simp) (by first | simp -dsimp [h1, q2, h4, h6, q7, z8]; done | simp_all))) ?_
     refine (ih_impl_BarePattern__f_l1 p [] 0 o' ho25) [] [] RW.nil _ rfl _ ?_
     intro Rq Uq Hq14
     cases hF
     repeat (first | refine chk.ga ?_ | simp -dsimp [RW.len Hq14, RW.closed Hq14])
     exact ⟨_, by decide, (.agg (.lit _ (.lit _ (.lit _ (.lit _ (.lit _ (.ownP 3 _ 6 rfl (by simp) (.blk 4 rfl .nil) (by simp [Hq14.2.2]) (by simp [Hq14.1]) (by simp) (by simp) .nil)))))) .nil : CT _ _ _ _)⟩
   ·have q5 : ¬ (p.op = 6) := auq h4
    rw [if_neg q5] at hF
    repeat (first | refine chk.ga ?_ | simp -dsimp [h1, q2, h4, q5])
    have hF := ob hF; obtain ⟨o'45, ho44, hF⟩ := hF
    refine ALoop.goU ⟨[(1, .ptr 1 0), (2, .ptr 2 0), (29, .arr (List.map Vl.Pattern.c p.kids)), (30, .lit (.int .i64 (p.kids.length : Int))), (31, .lit (.int .i64 (0 : Int)))], [.pack [] [], .cells [.lit (.int .i64 p.op), .lit (.int .i64 p.ctor), .lit (.int .i64 p.n), .lit (.int .i64 p.m), .lit (.int .i64 p.var), .own 3 (List.length (α := Vl.Pattern) [])], .cells [.lit (.int .i64 0), .lit (.int .i64 0), .lit (.int .i64 0), .lit (.int .i64 0), .lit (.int .i64 0), .lit (.slice none 0 0)], .elems 6 [], .pack (List.flatten (List.map Vl.Pattern.c [])) []]⟩ (by refine Gh.trans (Gh.nilCell 1 5 6 (by simp -dsimp; rfl) (by simp -dsimp)) ?_; refine Gh.trans (Gh.packZ .nil) ?_; exact (Gh.to3 (by simp) (by first | simp -dsimp [h1, q2, h4, q5]; done | simp_all))) ?_
    refine (ih_impl_BarePattern__f_l2 p [] 0 o'45 ho44) [] [] RW.nil _ rfl _ ?_
    intro Rq31 Uq32 Hq33
    cases hF
    repeat (first | refine chk.ga ?_ | simp -dsimp [RW.len Hq33, RW.closed Hq33])
    exact ⟨_, by decide, (.agg (.lit _ (.lit _ (.lit _ (.lit _ (.lit _ (.ownP 3 _ 6 rfl (by simp) (.blk 4 rfl .nil) (by simp [Hq33.2.2]) (by simp [Hq33.1]) (by simp) (by simp) .nil)))))) .nil : CT _ _ _ _)⟩
 ·intro _f_impl_BarePattern__f _f_impl_BarePattern__f_l2 ih_impl_BarePattern__f ih_impl_BarePattern__f_l2 p out26 i30 o hF
  intro R27 U28 H29 c hc Q hq
  obtain rfl : c = _ := navEq hc rfl
  refine ALoopU.know fun hk hs => ?_
  have b29 := hk 29
  simp -dsimp at b29
  have d3 := hs 3 _ rfl
  simp -dsimp [Blk.bnd] at d3
  clear hk hs
  refine ALoopU.enter ?_
  repeat (first | refine chk.ga ?_ | simp -dsimp [RW.len H29, RW.closed H29])
  refine abr.split (fun h34 => ?_) (fun h34 => ?_)
  ·have q35 : (i30 < p.kids.length) := auq h34
   have z36 : ((i30 : Int) < (p.kids.length : Int)) := auz
   rw [if_pos q35] at hF
   have hF := ob hF; obtain ⟨x37, e38, hF⟩ := hF
   have le38 := lt_of_get e38
   repeat (first | refine chk.ga ?_ | simp -dsimp [RW.len H29, RW.closed H29, h34, z36, ↓e38])
   refine ADraw.effN2 [22] [(0, 2), (0, 2), (0, 0), (0, 4), (0, 4), (0, 4), (3, 3), (0, 4)] [0, 2, 1, 1, 1, 1, 1, 1] 3 (by decide) follows (by kernel_rfl) (by kernel_rfl) (by kernel_rfl) (by kernel_rfl) (by kernel_rfl) rfl ?_
   repeat (first | refine chk.ga ?_ | simp -dsimp [RW.len H29, RW.closed H29, h34, z36, ↓e38])
   have hF := ob hF; obtain ⟨v39, e40, hF⟩ := hF
   refine ((ih_impl_BarePattern__f x37 v39 e40)).ngo1 (by first | simp -dsimp [RW.len H29, RW.closed H29, h34, z36, ↓e38]; done | simp_all) (by simp) (fun h41 o_h41 => ?_)
   have hF := oc hF; obtain ⟨c42, hF⟩ := hF
   have w43 : IntKind.i64.wrap ((i30 : Int) + 1) = (i30 : Int) + 1 := wrap_in (by omega) (by omega)
   repeat (first | refine chk.ga ?_ | simp -dsimp [RW.len H29, RW.closed H29, h34, z36, ↓e38, o_h41, w43])
   refine Again.go ⟨[(1, .ptr 1 0), (2, .ptr 2 0), (29, .arr (List.map Vl.Pattern.c p.kids)), (30, .lit (.int .i64 (p.kids.length : Int))), (31, .lit (.int .i64 ((i30 + 1) : Int)))], [.pack [] [], .cells [.lit (.int .i64 p.op), .lit (.int .i64 p.ctor), .lit (.int .i64 p.n), .lit (.int .i64 p.m), .lit (.int .i64 p.var), .own 3 (List.length (α := Vl.Pattern) (out26 ++ [v39]))], .cells [.lit (.int .i64 0), .lit (.int .i64 0), .lit (.int .i64 0), .lit (.int .i64 0), .lit (.int .i64 0), .lit (.slice none 0 0)], .elems 6 (R27 ++ [[.lit (.int .i64 v39.op), .lit (.int .i64 v39.ctor), .lit (.int .i64 v39.n), .lit (.int .i64 v39.m), .lit (.int .i64 v39.var), .lit h41]]), .pack (List.flatten (List.map Vl.Pattern.c (out26 ++ [v39]))) (U28 ++ [.int .i64 v39.op, .int .i64 v39.ctor, .int .i64 v39.n, .int .i64 v39.m, .int .i64 v39.var, h41])]⟩ (by refine Gh.trans (Gh.absorb 4 [6] (by exact rfl) (.lit (.int .i64 v39.op) (.lit (.int .i64 v39.ctor) (.lit (.int .i64 v39.n) (.lit (.int .i64 v39.m) (.lit (.int .i64 v39.var) (.pk 6 (by exact rfl) .nil)))))) (by decide)) ?_; exact (Gh.to3 (by simp) (by first | simp -dsimp [RW.len H29, RW.closed H29, h34, z36, ↓e38, o_h41, w43]; done | simp_all))) ?_
   exact (ih_impl_BarePattern__f_l2 p (out26 ++ [v39]) (i30 + 1) o hF) (R27 ++ [[.lit (.int .i64 v39.op), .lit (.int .i64 v39.ctor), .lit (.int .i64 v39.n), .lit (.int .i64 v39.m), .lit (.int .i64 v39.var), .lit h41]]) (U28 ++ [.int .i64 v39.op, .int .i64 v39.ctor, .int .i64 v39.n, .int .i64 v39.m, .int .i64 v39.var, h41]) ((RW.snoc H29 [.int .i64 v39.op, .int .i64 v39.ctor, .int .i64 v39.n, .int .i64 v39.m, .int .i64 v39.var, h41] rfl).cong (by simp) (by simp) rfl) _ rfl _ hq
  ·have q35 : ¬ (i30 < p.kids.length) := auq h34
   have z36 : ¬ ((i30 : Int) < (p.kids.length : Int)) := auz
   rw [if_neg q35] at hF
   cases hF
   repeat (first | refine chk.ga ?_ | simp -dsimp [RW.len H29, RW.closed H29, h34, q35, z36])
   refine Leave.go ⟨[(1, .ptr 1 0), (2, .ptr 2 0)], [.pack [] [], .cells [.lit (.int .i64 p.op), .lit (.int .i64 p.ctor), .lit (.int .i64 p.n), .lit (.int .i64 p.m), .lit (.int .i64 p.var), .own 3 (List.length (α := Vl.Pattern) out26)], .cells [.lit (.int .i64 0), .lit (.int .i64 0), .lit (.int .i64 0), .lit (.int .i64 0), .lit (.int .i64 0), .lit (.slice none 0 0)], .elems 6 R27, .pack (List.flatten (List.map Vl.Pattern.c out26)) U28]⟩ (Gh.to3 (by simp) (by first | simp -dsimp [RW.len H29, RW.closed H29, h34, q35, z36]; done | simp_all)) ?_
   exact hq R27 U28 H29
 ·intro _f_impl_BarePattern__f _f_impl_BarePattern__f_l1 ih_impl_BarePattern__f ih_impl_BarePattern__f_l1 p out i o hF
  intro R U H13 c hc Q hq
  obtain rfl : c = _ := navEq hc rfl
  refine ALoopU.know fun hk hs => ?_
  have b29 := hk 29
  simp -dsimp at b29
  have d3 := hs 3 _ rfl
  simp -dsimp [Blk.bnd] at d3
  clear hk hs
  refine ALoopU.enter ?_
  repeat (first | refine chk.ga ?_ | simp -dsimp [RW.len H13, RW.closed H13])
  refine abr.split (fun h15 => ?_) (fun h15 => ?_)
  ·have q16 : (i < p.kids.length) := auq h15
   have z17 : ((i : Int) < (p.kids.length : Int)) := auz
   rw [if_pos q16] at hF
   have hF := ob hF; obtain ⟨x18, e19, hF⟩ := hF
   have le19 := lt_of_get e19
   repeat (first | refine chk.ga ?_ | simp -dsimp [RW.len H13, RW.closed H13, h15, z17, ↓e19])
   refine ADraw.effN2 [22] [(0, 2), (0, 2), (0, 0), (0, 4), (0, 4), (0, 4), (3, 3), (0, 4)] [0, 2, 1, 1, 1, 1, 1, 1] 3 (by decide) follows (by kernel_rfl) (by kernel_rfl) (by kernel_rfl) (by kernel_rfl) (by kernel_rfl) rfl ?_
   repeat (first | refine chk.ga ?_ | simp -dsimp [RW.len H13, RW.closed H13, h15, z17, ↓e19])
   have hF := ob hF; obtain ⟨v20, e21, hF⟩ := hF
   refine ((ih_impl_BarePattern__f x18 v20 e21)).ngo1 (by first | simp -dsimp [RW.len H13, RW.closed H13, h15, z17, ↓e19]; done | simp_all) (by simp) (fun h22 o_h22 => ?_)
   have hF := oc hF; obtain ⟨c23, hF⟩ := hF
   have w24 : IntKind.i64.wrap ((i : Int) + 1) = (i : Int) + 1 := wrap_in (by omega) (by omega)
   repeat (first | refine chk.ga ?_ | simp -dsimp [RW.len H13, RW.closed H13, h15, z17, ↓e19, o_h22, w24])
   refine Again.go ⟨[(1, .ptr 1 0), (2, .ptr 2 0), (29, .arr (List.map Vl.Pattern.c p.kids)), (30, .lit (.int .i64 (p.kids.length : Int))), (31, .lit (.int .i64 ((i + 1) : Int)))], [.pack [] [], .cells [.lit (.int .i64 p.op), .lit (.int .i64 p.ctor), .lit (.int .i64 p.n), .lit (.int .i64 p.m), .lit (.int .i64 p.var), .own 3 (List.length (α := Vl.Pattern) (out ++ [v20]))], .cells [.lit (.int .i64 0), .lit (.int .i64 0), .lit (.int .i64 0), .lit (.int .i64 0), .lit (.int .i64 0), .lit (.slice none 0 0)], .elems 6 (R ++ [[.lit (.int .i64 v20.op), .lit (.int .i64 v20.ctor), .lit (.int .i64 v20.n), .lit (.int .i64 v20.m), .lit (.int .i64 v20.var), .lit h22]]), .pack (List.flatten (List.map Vl.Pattern.c (out ++ [v20]))) (U ++ [.int .i64 v20.op, .int .i64 v20.ctor, .int .i64 v20.n, .int .i64 v20.m, .int .i64 v20.var, h22])]⟩ (by refine Gh.trans (Gh.absorb 4 [6] (by exact rfl) (.lit (.int .i64 v20.op) (.lit (.int .i64 v20.ctor) (.lit (.int .i64 v20.n) (.lit (.int .i64 v20.m) (.lit (.int .i64 v20.var) (.pk 6 (by exact rfl) .nil)))))) (by decide)) ?_; exact (Gh.to3 (by simp) (by first | simp -dsimp [RW.len H13, RW.closed H13, h15, z17, ↓e19, o_h22, w24]; done | simp_all))) ?_
   exact (ih_impl_BarePattern__f_l1 p (out ++ [v20]) (i + 1) o hF) (R ++ [[.lit (.int .i64 v20.op), .lit (.int .i64 v20.ctor), .lit (.int .i64 v20.n), .lit (.int .i64 v20.m), .lit (.int .i64 v20.var), .lit h22]]) (U ++ [.int .i64 v20.op, .int .i64 v20.ctor, .int .i64 v20.n, .int .i64 v20.m, .int .i64 v20.var, h22]) ((RW.snoc H13 [.int .i64 v20.op, .int .i64 v20.ctor, .int .i64 v20.n, .int .i64 v20.m, .int .i64 v20.var, h22] rfl).cong (by simp) (by simp) rfl) _ rfl _ hq
  ·have q16 : ¬ (i < p.kids.length) := auq h15
   have z17 : ¬ ((i : Int) < (p.kids.length : Int)) := auz
   rw [if_neg q16] at hF
   cases hF
   repeat (first | refine chk.ga ?_ | simp -dsimp [RW.len H13, RW.closed H13, h15, q16, z17])
   refine Leave.go ⟨[(1, .ptr 1 0), (2, .ptr 2 0)], [.pack [] [], .cells [.lit (.int .i64 p.op), .lit (.int .i64 p.ctor), .lit (.int .i64 p.n), .lit (.int .i64 p.m), .lit (.int .i64 p.var), .own 3 (List.length (α := Vl.Pattern) out)], .cells [.lit (.int .i64 0), .lit (.int .i64 0), .lit (.int .i64 0), .lit (.int .i64 0), .lit (.int .i64 0), .lit (.slice none 0 0)], .elems 6 R, .pack (List.flatten (List.map Vl.Pattern.c out)) U]⟩ (Gh.to3 (by simp) (by first | simp -dsimp [RW.len H13, RW.closed H13, h15, q16, z17]; done | simp_all)) ?_
   exact hq R U H13

theorem C.impl_BarePattern__f (B : Nat) (hB1 : 67108864 ≤ B) (hB2 : B ≤ 9223372036854775807) (p : Vl.Pattern) (r : Vl.Pattern) (hF : F.impl_BarePattern p = some r) : FCall Try.prog B 22 [.agg [.lit (.int .i64 p.op), .lit (.int .i64 p.ctor), .lit (.int .i64 p.n), .lit (.int .i64 p.m), .lit (.int .i64 p.var), .arr (List.map Vl.Pattern.c p.kids)]] (.agg [.lit (.int .i64 r.op), .lit (.int .i64 r.ctor), .lit (.int .i64 r.n), .lit (.int .i64 r.m), .lit (.int .i64 r.var), .arr (List.map Vl.Pattern.c r.kids)]) :=
 (CC.impl_BarePattern__f B hB1 hB2 ).1 p r hF

theorem C.impl_BarePattern__f_l2 (B : Nat) (hB1 : 67108864 ≤ B) (hB2 : B ≤ 9223372036854775807) (p : Vl.Pattern) (out26 : List Vl.Pattern) (i30 : Nat) (o : List Vl.Pattern) (hF : F.impl_BarePattern_l2 p out26 i30 = some o) : ∀ (R27 : List (List AV)), ∀ (U28 : List Value), RW 6 (List.length (α := Vl.Pattern) out26) R27 U28 → ∀ (c : Code), navO [1, 1, 1, 1, 0, 1, 0, 0] (bodyOf Try.f22) = some c → ∀ (Q : Exit → ASt → Prop), (∀ (Rq31 : List (List AV)) (Uq32 : List Value), RW 6 (List.length (α := Vl.Pattern) o) Rq31 Uq32 → Q (.exit 1) ⟨[(1, .ptr 1 0), (2, .ptr 2 0)], [.pack [] [], .cells [.lit (.int .i64 p.op), .lit (.int .i64 p.ctor), .lit (.int .i64 p.n), .lit (.int .i64 p.m), .lit (.int .i64 p.var), .own 3 (List.length (α := Vl.Pattern) o)], .cells [.lit (.int .i64 0), .lit (.int .i64 0), .lit (.int .i64 0), .lit (.int .i64 0), .lit (.int .i64 0), .lit (.slice none 0 0)], .elems 6 Rq31, .pack (List.flatten (List.map Vl.Pattern.c o)) Uq32]⟩) → ALoopU Try.prog B 0 44 (hold c .mk) ⟨[(1, .ptr 1 0), (2, .ptr 2 0), (29, .arr (List.map Vl.Pattern.c p.kids)), (30, .lit (.int .i64 (p.kids.length : Int))), (31, .lit (.int .i64 (i30 : Int)))], [.pack [] [], .cells [.lit (.int .i64 p.op), .lit (.int .i64 p.ctor), .lit (.int .i64 p.n), .lit (.int .i64 p.m), .lit (.int .i64 p.var), .own 3 (List.length (α := Vl.Pattern) out26)], .cells [.lit (.int .i64 0), .lit (.int .i64 0), .lit (.int .i64 0), .lit (.int .i64 0), .lit (.int .i64 0), .lit (.slice none 0 0)], .elems 6 R27, .pack (List.flatten (List.map Vl.Pattern.c out26)) U28]⟩ (hold Q .mk) :=
 (CC.impl_BarePattern__f B hB1 hB2 ).2.1 p out26 i30 o hF

theorem C.impl_BarePattern__f_l1 (B : Nat) (hB1 : 67108864 ≤ B) (hB2 : B ≤ 9223372036854775807) (p : Vl.Pattern) (out : List Vl.Pattern) (i : Nat) (o : List Vl.Pattern) (hF : F.impl_BarePattern_l1 p out i = some o) : ∀ (R : List (List AV)), ∀ (U : List Value), RW 6 (List.length (α := Vl.Pattern) out) R U → ∀ (c : Code), navO [1, 1, 1, 1, 0, 1, 0, 0] (bodyOf Try.f22) = some c → ∀ (Q : Exit → ASt → Prop), (∀ (Rq : List (List AV)) (Uq : List Value), RW 6 (List.length (α := Vl.Pattern) o) Rq Uq → Q (.exit 1) ⟨[(1, .ptr 1 0), (2, .ptr 2 0)], [.pack [] [], .cells [.lit (.int .i64 p.op), .lit (.int .i64 p.ctor), .lit (.int .i64 p.n), .lit (.int .i64 p.m), .lit (.int .i64 p.var), .own 3 (List.length (α := Vl.Pattern) o)], .cells [.lit (.int .i64 0), .lit (.int .i64 0), .lit (.int .i64 0), .lit (.int .i64 0), .lit (.int .i64 0), .lit (.slice none 0 0)], .elems 6 Rq, .pack (List.flatten (List.map Vl.Pattern.c o)) Uq]⟩) → ALoopU Try.prog B 0 44 (hold c .mk) ⟨[(1, .ptr 1 0), (2, .ptr 2 0), (29, .arr (List.map Vl.Pattern.c p.kids)), (30, .lit (.int .i64 (p.kids.length : Int))), (31, .lit (.int .i64 (i : Int)))], [.pack [] [], .cells [.lit (.int .i64 p.op), .lit (.int .i64 p.ctor), .lit (.int .i64 p.n), .lit (.int .i64 p.m), .lit (.int .i64 p.var), .own 3 (List.length (α := Vl.Pattern) out)], .cells [.lit (.int .i64 0), .lit (.int .i64 0), .lit (.int .i64 0), .lit (.int .i64 0), .lit (.int .i64 0), .lit (.slice none 0 0)], .elems 6 R, .pack (List.flatten (List.map Vl.Pattern.c out)) U]⟩ (hold Q .mk) :=
 (CC.impl_BarePattern__f B hB1 hB2 ).2.2 p out i o hF

set_option maxRecDepth 100000 in
set_option maxHeartbeats 4000000 in
theorem CC.laws_eqPattern (B : Nat) (hB1 : 67108864 ≤ B) (hB2 : B ≤ 9223372036854775807)  : (∀ (a : Vl.Pattern) (b : Vl.Pattern) (r : Bool), F.laws_eqPattern a b = some r → PureCall Try.prog B 23 [.agg [.lit (.int .i64 a.op), .lit (.int .i64 a.ctor), .lit (.int .i64 a.n), .lit (.int .i64 a.m), .lit (.int .i64 a.var), .arr (List.map Vl.Pattern.c a.kids)], .agg [.lit (.int .i64 b.op), .lit (.int .i64 b.ctor), .lit (.int .i64 b.n), .lit (.int .i64 b.m), .lit (.int .i64 b.var), .arr (List.map Vl.Pattern.c b.kids)]] (.lit (.bool r))) ∧
  (∀ (a : List Vl.Pattern) (b : List Vl.Pattern) (r : Bool), F.laws_eqPatternS a b = some r → PureCall Try.prog B 46 [.arr (List.map Vl.Pattern.c a), .arr (List.map Vl.Pattern.c b)] (.lit (.bool r))) ∧
  (∀ (a : List Vl.Pattern) (b : List Vl.Pattern) (i : Nat) (o : Lo Bool Unit), F.laws_eqPatternS_l1 a b i = some o → ∀ (c : Code), navO [1, 1, 0, 1, 0, 0] (bodyOf Try.f46) = some c → ∀ (Q : Exit → ASt → Prop), o.post (fun r => ∀ st, Post Try.prog Try.f46 (fun r' _ => r'.le (.lit (.bool r))) .ret st → Q .ret st) (fun s => Q (.exit 0) ⟨[], []⟩) → ALoopU Try.prog B 0 27 (hold c .mk) ⟨[(0, .arr (List.map Vl.Pattern.c a)), (1, .arr (List.map Vl.Pattern.c b)), (5, .lit (.int .i64 (i : Int)))], []⟩ (hold Q .mk)) := by
 refine F.laws_eqPattern.mutual_partial_correctness 
  (fun a b r => PureCall Try.prog B 23 [.agg [.lit (.int .i64 a.op), .lit (.int .i64 a.ctor), .lit (.int .i64 a.n), .lit (.int .i64 a.m), .lit (.int .i64 a.var), .arr (List.map Vl.Pattern.c a.kids)], .agg [.lit (.int .i64 b.op), .lit (.int .i64 b.ctor), .lit (.int .i64 b.n), .lit (.int .i64 b.m), .lit (.int .i64 b.var), .arr (List.map Vl.Pattern.c b.kids)]] (.lit (.bool r)))
  (fun a b r => PureCall Try.prog B 46 [.arr (List.map Vl.Pattern.c a), .arr (List.map Vl.Pattern.c b)] (.lit (.bool r)))
  (fun a b i o => ∀ (c : Code), navO [1, 1, 0, 1, 0, 0] (bodyOf Try.f46) = some c → ∀ (Q : Exit → ASt → Prop), o.post (fun r => ∀ st, Post Try.prog Try.f46 (fun r' _ => r'.le (.lit (.bool r))) .ret st → Q .ret st) (fun s => Q (.exit 0) ⟨[], []⟩) → ALoopU Try.prog B 0 27 (hold c .mk) ⟨[(0, .arr (List.map Vl.Pattern.c a)), (1, .arr (List.map Vl.Pattern.c b)), (5, .lit (.int .i64 (i : Int)))], []⟩ (hold Q .mk))
  ?_ ?_ ?_
 ·intro _f_laws_eqPatternS ih_laws_eqPatternS a b r hF
  refine PureCall.enterLe Try.func23 (by kernel_rfl) rfl Try.ntmps23 (by simp) (by simp) ?_
  repeat (first | refine chk.ga ?_ | simp -dsimp)
  refine abr.split (fun h1 => ?_) (fun h1 => ?_)
  ·have q2 : ¬ (a.op = b.op) := auq h1
   rw [if_neg q2] at hF
   cases hF
   repeat (first | refine chk.ga ?_ | simp -dsimp [h1, q2])
   all_goals (try omega)
  ·have q2 : (a.op = b.op) := auq h1
   rw [if_pos q2] at hF
   repeat (first | refine chk.ga ?_ | simp -dsimp [h1, q2])
   refine abr.split (fun h3 => ?_) (fun h3 => ?_)
   ·have q4 : ¬ (a.ctor = b.ctor) := auq h3
    rw [if_neg q4] at hF
    cases hF
    repeat (first | refine chk.ga ?_ | simp -dsimp [h1, q2, h3, q4])
    all_goals (try omega)
   ·have q4 : (a.ctor = b.ctor) := auq h3
    rw [if_pos q4] at hF
    repeat (first | refine chk.ga ?_ | simp -dsimp [h1, q2, h3, q4])
    refine abr.split (fun h5 => ?_) (fun h5 => ?_)
    ·have q6 : ¬ (a.n = b.n) := auq h5
     rw [if_neg q6] at hF
     cases hF
     repeat (first | refine chk.ga ?_ | simp -dsimp [h1, q2, h3, q4, h5, q6])
     all_goals (try omega)
    ·have q6 : (a.n = b.n) := auq h5
     rw [if_pos q6] at hF
     repeat (first | refine chk.ga ?_ | simp -dsimp [h1, q2, h3, q4, h5, q6])
     refine abr.split (fun h7 => ?_) (fun h7 => ?_)
     ·have q8 : ¬ (a.m = b.m) := auq h7
      rw [if_neg q8] at hF
      cases hF
      repeat (first | refine chk.ga ?_ | simp -dsimp [h1, q2, h3, q4, h5, q6, h7, q8])
      all_goals (try omega)
     ·have q8 : (a.m = b.m) := auq h7
      rw [if_pos q8] at hF
      repeat (first | refine chk.ga ?_ | simp -dsimp [h1, q2, h3, q4, h5, q6, h7, q8])
      refine abr.split (fun h9 => ?_) (fun h9 => ?_)
      ·have q10 : ¬ (a.var = b.var) := auq h9
       rw [if_neg q10] at hF
       cases hF
       repeat (first | refine chk.ga ?_ | simp -dsimp [h1, q2, h3, q4, h5, q6, h7, q8, h9, q10])
       all_goals (try omega)
      ·have q10 : (a.var = b.var) := auq h9
       rw [if_pos q10] at hF
       repeat (first | refine chk.ga ?_ | simp -dsimp [h1, q2, h3, q4, h5, q6, h7, q8, h9, q10])
       have hF := ob hF; obtain ⟨v, e11, hF⟩ := hF
       refine ((ih_laws_eqPatternS a.kids b.kids v e11)).goW (by first | simp [h1, q2, h3, q4, h5, q6, h7, q8, h9, q10]; done | simp_all) (by simp) ?_
       repeat (first | refine chk.ga ?_ | simp -dsimp [h1, q2, h3, q4, h5, q6, h7, q8, h9, q10])
       refine abr.split (fun h12 => ?_) (fun h12 => ?_)
       ·have q13 : ¬ (v = true) := auq h12
        rw [if_neg q13] at hF
        cases hF
        repeat (first | refine chk.ga ?_ | simp -dsimp [h1, q2, h3, q4, h5, q6, h7, q8, h9, q10, h12, q13])
        all_goals (try omega)
       ·have q13 : (v = true) := auq h12
        rw [if_pos q13] at hF
        cases hF
        repeat (first | refine chk.ga ?_ | simp -dsimp [h1, q2, h3, q4, h5, q6, h7, q8, h9, q10, h12, q13])
        all_goals (try omega)
 ·intro _f_laws_eqPatternS_l1 ih_laws_eqPatternS_l1 a b r hF
  refine PureCall.enterLe Try.func46 (by kernel_rfl) rfl Try.ntmps46 (by simp) (by simp) ?_
  repeat (first | refine chk.ga ?_ | simp -dsimp)
  refine abr.split (fun h1 => ?_) (fun h1 => ?_)
  ·have q2 : ¬ (a.length = b.length) := auq h1
   have z3 : ¬ ((a.length : Int) = (b.length : Int)) := auz
   rw [if_neg q2] at hF
   cases hF
   repeat (first | refine chk.ga ?_ | simp -dsimp [h1, q2, z3])
   all_goals (try omega)
  ·have q2 : (a.length = b.length) := auq h1
   have z3 : ((a.length : Int) = (b.length : Int)) := auz
   rw [if_pos q2] at hF
   repeat (first | refine chk.ga ?_ | simp -dsimp [h1, q2, z3])
   have hF := ob hF; obtain ⟨o', ho14, hF⟩ := hF
   refine ALoop.goU ⟨[(0, .arr (List.map Vl.Pattern.c a)), (1, .arr (List.map Vl.Pattern.c b)), (5, .lit (.int .i64 (0 : Int)))], []⟩ (Gh.to3 (by simp) (by first | simp -dsimp [h1, q2, z3]; done | simp_all)) ?_
   refine (ih_laws_eqPatternS_l1 a b 0 o' ho14) _ rfl _ ?_
   rcases o' with r0 | sx
   ·dsimp only at hF
    cases hF
    intro st h
    simpa using h
   ·dsimp only at hF
    cases hF
    repeat (first | refine chk.ga ?_ | simp -dsimp)
    all_goals (try omega)
 ·intro _f_laws_eqPattern _f_laws_eqPatternS_l1 ih_laws_eqPattern ih_laws_eqPatternS_l1 a b i o hF
  intro c hc Q hq
  obtain rfl : c = _ := navEq hc rfl
  refine ALoopU.know fun hk hs => ?_
  have b0 := hk 0
  simp -dsimp at b0
  have b1 := hk 1
  simp -dsimp at b1
  clear hk hs
  refine ALoopU.enter ?_
  repeat (first | refine chk.ga ?_ | simp -dsimp)
  refine abr.split (fun h4 => ?_) (fun h4 => ?_)
  ·have q5 : (i < a.length) := auq h4
   have z6 : ((i : Int) < (a.length : Int)) := auz
   rw [if_pos q5] at hF
   repeat (first | refine chk.ga ?_ | simp -dsimp [h4, z6])
   refine ADraw.simple follows (by kernel_rfl) (by kernel_rfl) ?_
   have hF := ob hF; obtain ⟨x, e7, hF⟩ := hF
   have le7 := lt_of_get e7
   have hF := ob hF; obtain ⟨x8, e9, hF⟩ := hF
   have le9 := lt_of_get e9
   repeat (first | refine chk.ga ?_ | simp -dsimp [h4, z6, ↓e7, ↓e9])
   have hF := ob hF; obtain ⟨v, e10, hF⟩ := hF
   refine ((ih_laws_eqPattern x x8 v e10)).pgoW (by first | simp [h4, z6, ↓e7, ↓e9]; done | simp_all) (by simp) ?_
   repeat (first | refine chk.ga ?_ | simp -dsimp [h4, z6, ↓e7, ↓e9])
   refine abr.split (fun h11 => ?_) (fun h11 => ?_)
   ·have q12 : ¬ (v = true) := auq h11
    rw [if_neg q12] at hF
    cases hF
    repeat (first | refine chk.ga ?_ | simp -dsimp [h4, z6, ↓e7, ↓e9, h11, q12])
    refine Leave.go _ (Gh.refl _) (hq _ ?_)
    repeat (first | refine chk.ga ?_ | simp -dsimp [h4, z6, ↓e7, ↓e9, h11, q12])
   ·have q12 : (v = true) := auq h11
    rw [if_pos q12] at hF
    have w13 : IntKind.i64.wrap ((i : Int) + 1) = (i : Int) + 1 := wrap_in (by omega) (by omega)
    repeat (first | refine chk.ga ?_ | simp -dsimp [h4, z6, ↓e7, ↓e9, h11, q12, w13])
    refine Again.go ⟨[(0, .arr (List.map Vl.Pattern.c a)), (1, .arr (List.map Vl.Pattern.c b)), (5, .lit (.int .i64 ((i + 1) : Int)))], []⟩ (Gh.to3 (by simp) (by first | simp -dsimp [h4, z6, ↓e7, ↓e9, h11, q12, w13]; done | simp_all)) ?_
    exact (ih_laws_eqPatternS_l1 a b (i + 1) o hF) _ rfl _ hq
  ·have q5 : ¬ (i < a.length) := auq h4
   have z6 : ¬ ((i : Int) < (a.length : Int)) := auz
   rw [if_neg q5] at hF
   cases hF
   repeat (first | refine chk.ga ?_ | simp -dsimp [h4, q5, z6])
   refine Leave.go ⟨[], []⟩ (Gh.to3 (by simp) (by first | simp -dsimp [h4, q5, z6]; done | simp_all)) ?_
   exact hq

theorem C.laws_eqPattern (B : Nat) (hB1 : 67108864 ≤ B) (hB2 : B ≤ 9223372036854775807) (a : Vl.Pattern) (b : Vl.Pattern) (r : Bool) (hF : F.laws_eqPattern a b = some r) : PureCall Try.prog B 23 [.agg [.lit (.int .i64 a.op), .lit (.int .i64 a.ctor), .lit (.int .i64 a.n), .lit (.int .i64 a.m), .lit (.int .i64 a.var), .arr (List.map Vl.Pattern.c a.kids)], .agg [.lit (.int .i64 b.op), .lit (.int .i64 b.ctor), .lit (.int .i64 b.n), .lit (.int .i64 b.m), .lit (.int .i64 b.var), .arr (List.map Vl.Pattern.c b.kids)]] (.lit (.bool r)) :=
 (CC.laws_eqPattern B hB1 hB2 ).1 a b r hF

theorem C.laws_eqPatternS (B : Nat) (hB1 : 67108864 ≤ B) (hB2 : B ≤ 9223372036854775807) (a : List Vl.Pattern) (b : List Vl.Pattern) (r : Bool) (hF : F.laws_eqPatternS a b = some r) : PureCall Try.prog B 46 [.arr (List.map Vl.Pattern.c a), .arr (List.map Vl.Pattern.c b)] (.lit (.bool r)) :=
 (CC.laws_eqPattern B hB1 hB2 ).2.1 a b r hF

theorem C.laws_eqPatternS_l1 (B : Nat) (hB1 : 67108864 ≤ B) (hB2 : B ≤ 9223372036854775807) (a : List Vl.Pattern) (b : List Vl.Pattern) (i : Nat) (o : Lo Bool Unit) (hF : F.laws_eqPatternS_l1 a b i = some o) : ∀ (c : Code), navO [1, 1, 0, 1, 0, 0] (bodyOf Try.f46) = some c → ∀ (Q : Exit → ASt → Prop), o.post (fun r => ∀ st, Post Try.prog Try.f46 (fun r' _ => r'.le (.lit (.bool r))) .ret st → Q .ret st) (fun s => Q (.exit 0) ⟨[], []⟩) → ALoopU Try.prog B 0 27 (hold c .mk) ⟨[(0, .arr (List.map Vl.Pattern.c a)), (1, .arr (List.map Vl.Pattern.c b)), (5, .lit (.int .i64 (i : Int)))], []⟩ (hold Q .mk) :=
 (CC.laws_eqPattern B hB1 hB2 ).2.2 a b i o hF

set_option maxRecDepth 100000 in
set_option maxHeartbeats 4000000 in
theorem CC.laws_heldPatternS (B : Nat) (hB1 : 67108864 ≤ B) (hB2 : B ≤ 9223372036854775807)  : (∀ (a : List Vl.Pattern) (k : Int) (r : Int), F.laws_heldPatternS a k = some r → PureCall Try.prog B 48 [.arr (List.map Vl.Pattern.c a), .lit (.int .i64 k)] (.lit (.int .i64 r))) ∧
  (∀ (a : List Vl.Pattern) (k1 : Int) (i : Nat) (o : Lo Int Int), F.laws_heldPatternS_l1 a k1 i = some o → ∀ (c : Code), navO [1, 0, 1, 0, 0] (bodyOf Try.f48) = some c → ∀ (Q : Exit → ASt → Prop), o.post (fun r => ∀ st, Post Try.prog Try.f48 (fun r' _ => r'.le (.lit (.int .i64 r))) .ret st → Q .ret st) (fun s => Q (.exit 0) ⟨[(1, .lit (.int .i64 s))], []⟩) → ALoopU Try.prog B 0 67 (hold c .mk) ⟨[(0, .arr (List.map Vl.Pattern.c a)), (1, .lit (.int .i64 k1)), (5, .lit (.int .i64 (i : Int)))], []⟩ (hold Q .mk)) := by
 refine F.laws_heldPatternS.mutual_partial_correctness 
  (fun a k r => PureCall Try.prog B 48 [.arr (List.map Vl.Pattern.c a), .lit (.int .i64 k)] (.lit (.int .i64 r)))
  (fun a k1 i o => ∀ (c : Code), navO [1, 0, 1, 0, 0] (bodyOf Try.f48) = some c → ∀ (Q : Exit → ASt → Prop), o.post (fun r => ∀ st, Post Try.prog Try.f48 (fun r' _ => r'.le (.lit (.int .i64 r))) .ret st → Q .ret st) (fun s => Q (.exit 0) ⟨[(1, .lit (.int .i64 s))], []⟩) → ALoopU Try.prog B 0 67 (hold c .mk) ⟨[(0, .arr (List.map Vl.Pattern.c a)), (1, .lit (.int .i64 k1)), (5, .lit (.int .i64 (i : Int)))], []⟩ (hold Q .mk))
  ?_ ?_
 ·intro _f_laws_heldPatternS_l1 ih_laws_heldPatternS_l1 a k r hF
  refine PureCall.enterLe Try.func48 (by kernel_rfl) rfl Try.ntmps48 (by simp) (by simp) ?_
  repeat (first | refine chk.ga ?_ | simp -dsimp)
  have hF := ob hF; obtain ⟨o', ho20, hF⟩ := hF
  refine ALoop.goU ⟨[(0, .arr (List.map Vl.Pattern.c a)), (1, .lit (.int .i64 k)), (5, .lit (.int .i64 (0 : Int)))], []⟩ (Gh.to3 (by simp) (by simp -dsimp)) ?_
  refine (ih_laws_heldPatternS_l1 a k 0 o' ho20) _ rfl _ ?_
  rcases o' with r0 | sx
  ·dsimp only at hF
   cases hF
   intro st h
   simpa using h
  ·dsimp only at hF
   cases hF
   repeat (first | refine chk.ga ?_ | simp -dsimp)
   all_goals (try omega)
 ·intro _f_laws_heldPatternS _f_laws_heldPatternS_l1 ih_laws_heldPatternS ih_laws_heldPatternS_l1 a k1 i o hF
  intro c hc Q hq
  obtain rfl : c = _ := navEq hc rfl
  refine ALoopU.know fun hk hs => ?_
  have b0 := hk 0
  simp -dsimp at b0
  clear hk hs
  refine ALoopU.enter ?_
  repeat (first | refine chk.ga ?_ | simp -dsimp)
  refine abr.split (fun h2 => ?_) (fun h2 => ?_)
  ·have q3 : (i < a.length) := auq h2
   have z4 : ((i : Int) < (a.length : Int)) := auz
   rw [if_pos q3] at hF
   have hF := ob hF; obtain ⟨x, e5, hF⟩ := hF
   have le5 := lt_of_get e5
   repeat (first | refine chk.ga ?_ | simp -dsimp [h2, z4, ↓e5])
   refine abr.split (fun h6 => ?_) (fun h6 => ?_)
   ·have q7 : ¬ (x.op = k1) := auq h6
    rw [if_neg q7] at hF
    cases hF
    repeat (first | refine chk.ga ?_ | simp -dsimp [h2, z4, ↓e5, h6, q7])
    refine Leave.go _ (Gh.refl _) (hq _ ?_)
    repeat (first | refine chk.ga ?_ | simp -dsimp [h2, z4, ↓e5, h6, q7])
   ·have q7 : (x.op = k1) := auq h6
    rw [if_pos q7] at hF
    repeat (first | refine chk.ga ?_ | simp -dsimp [h2, z4, ↓e5, h6, q7])
    refine abr.split (fun h8 => ?_) (fun h8 => ?_)
    ·have q9 : ¬ (x.ctor = IntKind.i64.wrap (k1 + 1)) := auq h8
     rw [if_neg q9] at hF
     cases hF
     repeat (first | refine chk.ga ?_ | simp -dsimp [h2, z4, ↓e5, h6, q7, h8, q9])
     refine Leave.go _ (Gh.refl _) (hq _ ?_)
     repeat (first | refine chk.ga ?_ | simp -dsimp [h2, z4, ↓e5, h6, q7, h8, q9])
    ·have q9 : (x.ctor = IntKind.i64.wrap (k1 + 1)) := auq h8
     rw [if_pos q9] at hF
     repeat (first | refine chk.ga ?_ | simp -dsimp [h2, z4, ↓e5, h6, q7, h8, q9])
     refine abr.split (fun h10 => ?_) (fun h10 => ?_)
     ·have q11 : ¬ (x.n = IntKind.i64.wrap (IntKind.i64.wrap (k1 + 1) + 1)) := auq h10
      rw [if_neg q11] at hF
      cases hF
      repeat (first | refine chk.ga ?_ | simp -dsimp [h2, z4, ↓e5, h6, q7, h8, q9, h10, q11])
      refine Leave.go _ (Gh.refl _) (hq _ ?_)
      repeat (first | refine chk.ga ?_ | simp -dsimp [h2, z4, ↓e5, h6, q7, h8, q9, h10, q11])
     ·have q11 : (x.n = IntKind.i64.wrap (IntKind.i64.wrap (k1 + 1) + 1)) := auq h10
      rw [if_pos q11] at hF
      repeat (first | refine chk.ga ?_ | simp -dsimp [h2, z4, ↓e5, h6, q7, h8, q9, h10, q11])
      refine abr.split (fun h12 => ?_) (fun h12 => ?_)
      ·have q13 : ¬ (x.m = IntKind.i64.wrap (IntKind.i64.wrap (IntKind.i64.wrap (k1 + 1) + 1) + 1)) := auq h12
       rw [if_neg q13] at hF
       cases hF
       repeat (first | refine chk.ga ?_ | simp -dsimp [h2, z4, ↓e5, h6, q7, h8, q9, h10, q11, h12, q13])
       refine Leave.go _ (Gh.refl _) (hq _ ?_)
       repeat (first | refine chk.ga ?_ | simp -dsimp [h2, z4, ↓e5, h6, q7, h8, q9, h10, q11, h12, q13])
      ·have q13 : (x.m = IntKind.i64.wrap (IntKind.i64.wrap (IntKind.i64.wrap (k1 + 1) + 1) + 1)) := auq h12
       rw [if_pos q13] at hF
       repeat (first | refine chk.ga ?_ | simp -dsimp [h2, z4, ↓e5, h6, q7, h8, q9, h10, q11, h12, q13])
       refine abr.split (fun h14 => ?_) (fun h14 => ?_)
       ·have q15 : ¬ (x.var = IntKind.i64.wrap (IntKind.i64.wrap (IntKind.i64.wrap (IntKind.i64.wrap (k1 + 1) + 1) + 1) + 1)) := auq h14
        rw [if_neg q15] at hF
        cases hF
        repeat (first | refine chk.ga ?_ | simp -dsimp [h2, z4, ↓e5, h6, q7, h8, q9, h10, q11, h12, q13, h14, q15])
        refine Leave.go _ (Gh.refl _) (hq _ ?_)
        repeat (first | refine chk.ga ?_ | simp -dsimp [h2, z4, ↓e5, h6, q7, h8, q9, h10, q11, h12, q13, h14, q15])
       ·have q15 : (x.var = IntKind.i64.wrap (IntKind.i64.wrap (IntKind.i64.wrap (IntKind.i64.wrap (k1 + 1) + 1) + 1) + 1)) := auq h14
        rw [if_pos q15] at hF
        repeat (first | refine chk.ga ?_ | simp -dsimp [h2, z4, ↓e5, h6, q7, h8, q9, h10, q11, h12, q13, h14, q15])
        have hF := ob hF; obtain ⟨v, e16, hF⟩ := hF
        refine ((ih_laws_heldPatternS x.kids (IntKind.i64.wrap (IntKind.i64.wrap (IntKind.i64.wrap (IntKind.i64.wrap (IntKind.i64.wrap (k1 + 1) + 1) + 1) + 1) + 1)) v e16)).goW (by first | simp [h2, z4, ↓e5, h6, q7, h8, q9, h10, q11, h12, q13, h14, q15]; done | simp_all) (by simp) ?_
        repeat (first | refine chk.ga ?_ | simp -dsimp [h2, z4, ↓e5, h6, q7, h8, q9, h10, q11, h12, q13, h14, q15])
        refine abr.split (fun h17 => ?_) (fun h17 => ?_)
        ·have q18 : (v < 0) := auq h17
         rw [if_pos q18] at hF
         cases hF
         repeat (first | refine chk.ga ?_ | simp -dsimp [h2, z4, ↓e5, h6, q7, h8, q9, h10, q11, h12, q13, h14, q15, h17])
         refine Leave.go _ (Gh.refl _) (hq _ ?_)
         repeat (first | refine chk.ga ?_ | simp -dsimp [h2, z4, ↓e5, h6, q7, h8, q9, h10, q11, h12, q13, h14, q15, h17])
        ·have q18 : ¬ (v < 0) := auq h17
         rw [if_neg q18] at hF
         have w19 : IntKind.i64.wrap ((i : Int) + 1) = (i : Int) + 1 := wrap_in (by omega) (by omega)
         repeat (first | refine chk.ga ?_ | simp -dsimp [h2, z4, ↓e5, h6, q7, h8, q9, h10, q11, h12, q13, h14, q15, h17, q18, w19])
         refine Again.go ⟨[(0, .arr (List.map Vl.Pattern.c a)), (1, .lit (.int .i64 v)), (5, .lit (.int .i64 ((i + 1) : Int)))], []⟩ (Gh.to3 (by simp) (by first | simp -dsimp [h2, z4, ↓e5, h6, q7, h8, q9, h10, q11, h12, q13, h14, q15, h17, q18, w19]; done | simp_all)) ?_
         exact (ih_laws_heldPatternS_l1 a v (i + 1) o hF) _ rfl _ hq
  ·have q3 : ¬ (i < a.length) := auq h2
   have z4 : ¬ ((i : Int) < (a.length : Int)) := auz
   rw [if_neg q3] at hF
   cases hF
   repeat (first | refine chk.ga ?_ | simp -dsimp [h2, q3, z4])
   refine Leave.go ⟨[(1, .lit (.int .i64 k1))], []⟩ (Gh.to3 (by simp) (by first | simp -dsimp [h2, q3, z4]; done | simp_all)) ?_
   exact hq

theorem C.laws_heldPatternS (B : Nat) (hB1 : 67108864 ≤ B) (hB2 : B ≤ 9223372036854775807) (a : List Vl.Pattern) (k : Int) (r : Int) (hF : F.laws_heldPatternS a k = some r) : PureCall Try.prog B 48 [.arr (List.map Vl.Pattern.c a), .lit (.int .i64 k)] (.lit (.int .i64 r)) :=
 (CC.laws_heldPatternS B hB1 hB2 ).1 a k r hF

theorem C.laws_heldPatternS_l1 (B : Nat) (hB1 : 67108864 ≤ B) (hB2 : B ≤ 9223372036854775807) (a : List Vl.Pattern) (k1 : Int) (i : Nat) (o : Lo Int Int) (hF : F.laws_heldPatternS_l1 a k1 i = some o) : ∀ (c : Code), navO [1, 0, 1, 0, 0] (bodyOf Try.f48) = some c → ∀ (Q : Exit → ASt → Prop), o.post (fun r => ∀ st, Post Try.prog Try.f48 (fun r' _ => r'.le (.lit (.int .i64 r))) .ret st → Q .ret st) (fun s => Q (.exit 0) ⟨[(1, .lit (.int .i64 s))], []⟩) → ALoopU Try.prog B 0 67 (hold c .mk) ⟨[(0, .arr (List.map Vl.Pattern.c a)), (1, .lit (.int .i64 k1)), (5, .lit (.int .i64 (i : Int)))], []⟩ (hold Q .mk) :=
 (CC.laws_heldPatternS B hB1 hB2 ).2 a k1 i o hF

set_option maxRecDepth 100000 in
set_option maxHeartbeats 4000000 in
theorem C.laws_heldPattern (B : Nat) (hB1 : 67108864 ≤ B) (hB2 : B ≤ 9223372036854775807) (a : Vl.Pattern) (k : Int) (r : Int) (hF : F.laws_heldPattern a k = some r) : PureCall Try.prog B 25 [.agg [.lit (.int .i64 a.op), .lit (.int .i64 a.ctor), .lit (.int .i64 a.n), .lit (.int .i64 a.m), .lit (.int .i64 a.var), .arr (List.map Vl.Pattern.c a.kids)], .lit (.int .i64 k)] (.lit (.int .i64 r)) := by
 unfold F.laws_heldPattern at hF
 refine PureCall.enterLe Try.func25 (by kernel_rfl) rfl Try.ntmps25 (by simp) (by simp) ?_
 repeat (first | refine chk.ga ?_ | simp -dsimp)
 have hF := ob hF; obtain ⟨v, e1, hF⟩ := hF
 refine ((C.laws_heldPatternS B hB1 hB2 a.kids k v e1)).goW (by simp) (by simp) ?_
 repeat (first | refine chk.ga ?_ | simp -dsimp)
 refine abr.split (fun h2 => ?_) (fun h2 => ?_)
 ·have q3 : (v < 0) := auq h2
  rw [if_pos q3] at hF
  cases hF
  repeat (first | refine chk.ga ?_ | simp -dsimp [h2])
  all_goals (try omega)
 ·have q3 : ¬ (v < 0) := auq h2
  rw [if_neg q3] at hF
  cases hF
  repeat (first | refine chk.ga ?_ | simp -dsimp [h2, q3])
  all_goals (try omega)

set_option maxRecDepth 100000 in
set_option maxHeartbeats 4000000 in
theorem CM.laws_markPatternS (B : Nat) (hB1 : 67108864 ≤ B) (hB2 : B ≤ 9223372036854775807) : ∀ m : Nat, (∀ (a : List Vl.Pattern) (k : Int), SizeOf.sizeOf a < m → MCall Try.prog B 47 (List.map Vl.Pattern.c a) [.int .i64 k] (List.map Vl.Pattern.c (Vl.Pattern.mkL a k).1) (.int .i64 (Vl.Pattern.mkL a k).2)) := by
 intro m
 induction m with
 | zero => exact fun a k h => absurd h (Nat.not_lt_zero _)
 | succ m ih =>
  intro a0 k0 hm
  have hz0 : ∀ x, x ∈ a0 → SizeOf.sizeOf x < m := fun x hx => by have := List.sizeOf_lt_of_mem hx; omega
  have loop : ∀ (rest D : List Vl.Pattern) (k : Int) (i n : Nat) (rows : List (List AV)) (us : List Go.Value), (∀ x, x ∈ rest → SizeOf.sizeOf x < m) → i = D.length → n = i + rest.length → RW 6 n rows us →
    ∀ (c : Code), navO [1, 0, 1, 0, 0] (bodyOf Try.f47) = some c → ∀ (Q : Exit → ASt → Prop),
    (∀ (R : List (List AV)) (U : List Go.Value), RW 6 n R U → Q (.exit 0) ⟨[(1, .lit (.int .i64 (Vl.Pattern.mkL rest k).2))], [.elems 6 R, .pack (List.flatten (List.map Vl.Pattern.c (D ++ (Vl.Pattern.mkL rest k).1))) U]⟩) →
    ALoopU Try.prog B 2 55 (hold c .mk) ⟨[(0, .own 0 n), (1, .lit (.int .i64 k)), (5, .lit (.int .i64 (i : Int)))], [.elems 6 rows, .pack (List.flatten (List.map Vl.Pattern.c (D ++ rest))) us]⟩ (hold Q .mk) := by
   intro rest
   induction rest with
   | nil =>
    intro D k i n rows us hz hi hn H c hc Q hq
    obtain rfl : c = _ := navEq hc rfl
    have hn' : n = i := by simpa using hn
    subst hn'
    refine ALoopU.enter ?_
    repeat (first | refine chk.ga ?_ | simp -dsimp [RW.len H])
    refine Leave.go ⟨[(1, .lit (.int .i64 k))], [.elems 6 rows, .pack (List.flatten (List.map Vl.Pattern.c D)) us]⟩ (Gh.to3 (by simp) (by simp -dsimp [RW.closed H])) ?_
    simpa [Vl.Pattern.mkL] using hq rows us H
   | cons x r ihr =>
    intro D k i n rows us hz hi hn H c hc Q hq
    refine ALoopU.opnAt1 1 (List.flatten (List.map Vl.Pattern.c D)) (Vl.Pattern.c x) (List.flatten (List.map Vl.Pattern.c r)) rfl (by simp) (by simp) ?_
    intro h1 vs UA UC o_h1 hlt hU hlA
    have hv : vs = [.int .i64 x.op, .int .i64 x.ctor, .int .i64 x.n, .int .i64 x.m, .int .i64 x.var, h1] := by apply lits_inj; rw [← hlt]; simp
    subst hv hU
    have hUA : UA.length = i * 6 := by rw [hlA, flatc_len Vl.Pattern.c_len, hi]
    have hin : i < n := by simp at hn; omega
    have hrow : rows[i]? = some [.lit (.int .i64 x.op), .lit (.int .i64 x.ctor), .lit (.int .i64 x.n), .lit (.int .i64 x.m), .lit (.int .i64 x.var), .lit h1] := by simpa using H.at hin rfl hUA rfl
    have hne : ¬ rows = [] := by intro e; rw [e] at hrow; simp at hrow
    have hrl := RW.len H
    have hrow' : ∀ (h : i < rows.length), rows[i] = [.lit (.int .i64 x.op), .lit (.int .i64 x.ctor), .lit (.int .i64 x.n), .lit (.int .i64 x.m), .lit (.int .i64 x.var), .lit h1] := fun h => by rw [List.getElem?_eq_getElem h] at hrow; exact Option.some.inj hrow
    have hset : ∀ a, (rows.set i a)[i]? = some a := fun a => List.getElem?_set_self (by omega)
    clear hlt
    refine ALoopU.know fun hk hs => ?_
    have d0 := hs 0 _ rfl
    simp -dsimp [Blk.bnd] at d0
    clear hk hs
    obtain rfl : c = _ := navEq hc rfl
    have w1 : IntKind.i64.wrap ((i : Int) + 1) = (i : Int) + 1 := wrap_in (by omega) (by omega)
    refine ALoopU.enter ?_
    repeat (first | refine chk.ga ?_ | simp -dsimp [hne, hrow, hrow', hset, hrl, hin, w1, List.set_set, o_h1])
    have sz0 : SizeOf.sizeOf x.kids < m := by have h0 := hz x (by simp); cases x; simp at h0 ⊢; omega
    refine (ih x.kids (IntKind.i64.wrap ((IntKind.i64.wrap ((IntKind.i64.wrap ((IntKind.i64.wrap ((IntKind.i64.wrap (k + 1)) + 1)) + 1)) + 1)) + 1)) sz0).go 2 rfl (by simp) ?_
    repeat (first | refine chk.ga ?_ | simp -dsimp [hne, hrow, hrow', hset, hrl, hin, w1, List.set_set, o_h1])
    refine Again.go ⟨[(0, .own 0 n), (1, .lit (.int .i64 ((Vl.Pattern.mkL x.kids (IntKind.i64.wrap ((IntKind.i64.wrap ((IntKind.i64.wrap ((IntKind.i64.wrap ((IntKind.i64.wrap (k + 1)) + 1)) + 1)) + 1)) + 1))).2))), (5, .lit (.int .i64 ((i + 1 : Nat) : Int)))], [.elems 6 (rows.set i [.lit (.int .i64 k), .lit (.int .i64 (IntKind.i64.wrap (k + 1))), .lit (.int .i64 (IntKind.i64.wrap ((IntKind.i64.wrap (k + 1)) + 1))), .lit (.int .i64 (IntKind.i64.wrap ((IntKind.i64.wrap ((IntKind.i64.wrap (k + 1)) + 1)) + 1))), .lit (.int .i64 (IntKind.i64.wrap ((IntKind.i64.wrap ((IntKind.i64.wrap ((IntKind.i64.wrap (k + 1)) + 1)) + 1)) + 1))), .lit h1]), .pack (List.flatten (List.map Vl.Pattern.c ((D ++ [(⟨k, IntKind.i64.wrap (k + 1), IntKind.i64.wrap ((IntKind.i64.wrap (k + 1)) + 1), IntKind.i64.wrap ((IntKind.i64.wrap ((IntKind.i64.wrap (k + 1)) + 1)) + 1), IntKind.i64.wrap ((IntKind.i64.wrap ((IntKind.i64.wrap ((IntKind.i64.wrap (k + 1)) + 1)) + 1)) + 1), (Vl.Pattern.mkL x.kids (IntKind.i64.wrap ((IntKind.i64.wrap ((IntKind.i64.wrap ((IntKind.i64.wrap ((IntKind.i64.wrap (k + 1)) + 1)) + 1)) + 1)) + 1))).1⟩ : Vl.Pattern)]) ++ r))) (UA ++ ([.int .i64 k, .int .i64 (IntKind.i64.wrap (k + 1)), .int .i64 (IntKind.i64.wrap ((IntKind.i64.wrap (k + 1)) + 1)), .int .i64 (IntKind.i64.wrap ((IntKind.i64.wrap ((IntKind.i64.wrap (k + 1)) + 1)) + 1)), .int .i64 (IntKind.i64.wrap ((IntKind.i64.wrap ((IntKind.i64.wrap ((IntKind.i64.wrap (k + 1)) + 1)) + 1)) + 1)), h1] ++ UC))]⟩
     (by refine Gh.trans (Gh.setAt 1 [2] (XA := List.flatten (List.map Vl.Pattern.c D)) (old := [.lit (.int .i64 x.op), .lit (.int .i64 x.ctor), .lit (.int .i64 x.n), .lit (.int .i64 x.m), .lit (.int .i64 x.var), .lit h1]) (XC := List.flatten (List.map Vl.Pattern.c r)) (UA := UA) (uo := [.int .i64 x.op, .int .i64 x.ctor, .int .i64 x.n, .int .i64 x.m, .int .i64 x.var, h1]) (UC := UC) (by exact rfl) (by simp) (by simp) hlA rfl (.lit (.int .i64 k) (.lit (.int .i64 (IntKind.i64.wrap (k + 1))) (.lit (.int .i64 (IntKind.i64.wrap ((IntKind.i64.wrap (k + 1)) + 1))) (.lit (.int .i64 (IntKind.i64.wrap ((IntKind.i64.wrap ((IntKind.i64.wrap (k + 1)) + 1)) + 1))) (.lit (.int .i64 (IntKind.i64.wrap ((IntKind.i64.wrap ((IntKind.i64.wrap ((IntKind.i64.wrap (k + 1)) + 1)) + 1)) + 1))) (.pk 2 (by exact rfl) .nil)))))) (by decide)) ?_; exact Gh.to3 (by simp) (by simp -dsimp [RW.closed H])) ?_
    have he : Vl.Pattern.mkL (x :: r) k = ((⟨k, IntKind.i64.wrap (k + 1), IntKind.i64.wrap ((IntKind.i64.wrap (k + 1)) + 1), IntKind.i64.wrap ((IntKind.i64.wrap ((IntKind.i64.wrap (k + 1)) + 1)) + 1), IntKind.i64.wrap ((IntKind.i64.wrap ((IntKind.i64.wrap ((IntKind.i64.wrap (k + 1)) + 1)) + 1)) + 1), (Vl.Pattern.mkL x.kids (IntKind.i64.wrap ((IntKind.i64.wrap ((IntKind.i64.wrap ((IntKind.i64.wrap ((IntKind.i64.wrap (k + 1)) + 1)) + 1)) + 1)) + 1))).1⟩ : Vl.Pattern) :: (Vl.Pattern.mkL r ((Vl.Pattern.mkL x.kids (IntKind.i64.wrap ((IntKind.i64.wrap ((IntKind.i64.wrap ((IntKind.i64.wrap ((IntKind.i64.wrap (k + 1)) + 1)) + 1)) + 1)) + 1))).2)).1, (Vl.Pattern.mkL r ((Vl.Pattern.mkL x.kids (IntKind.i64.wrap ((IntKind.i64.wrap ((IntKind.i64.wrap ((IntKind.i64.wrap ((IntKind.i64.wrap (k + 1)) + 1)) + 1)) + 1)) + 1))).2)).2) := by (first | rfl | (cases x; simp [Vl.Pattern.mkL, Vl.Pattern.mkE]))
    rw [he] at hq
    refine ihr (D ++ [(⟨k, IntKind.i64.wrap (k + 1), IntKind.i64.wrap ((IntKind.i64.wrap (k + 1)) + 1), IntKind.i64.wrap ((IntKind.i64.wrap ((IntKind.i64.wrap (k + 1)) + 1)) + 1), IntKind.i64.wrap ((IntKind.i64.wrap ((IntKind.i64.wrap ((IntKind.i64.wrap (k + 1)) + 1)) + 1)) + 1), (Vl.Pattern.mkL x.kids (IntKind.i64.wrap ((IntKind.i64.wrap ((IntKind.i64.wrap ((IntKind.i64.wrap ((IntKind.i64.wrap (k + 1)) + 1)) + 1)) + 1)) + 1))).1⟩ : Vl.Pattern)]) _ (i + 1) n _ _ (fun y hy => hz y (List.mem_cons_of_mem _ hy)) (by simp [hi]) (by simp at hn; omega) (by simpa using H.setAt hin hUA rfl [.int .i64 k, .int .i64 (IntKind.i64.wrap (k + 1)), .int .i64 (IntKind.i64.wrap ((IntKind.i64.wrap (k + 1)) + 1)), .int .i64 (IntKind.i64.wrap ((IntKind.i64.wrap ((IntKind.i64.wrap (k + 1)) + 1)) + 1)), .int .i64 (IntKind.i64.wrap ((IntKind.i64.wrap ((IntKind.i64.wrap ((IntKind.i64.wrap (k + 1)) + 1)) + 1)) + 1)), h1] rfl) _ rfl _ fun R U hR => ?_
    simpa using hq R U hR
  refine MCall.enter 6 Try.func47 (by kernel_rfl) rfl Try.ntmps47 (by simp) (by simp [Vl.Pattern.mkL_len]) (fun e he => by obtain ⟨x, _, rfl⟩ := List.mem_map.1 he; exact Vl.Pattern.c_len x) ?_ ?_
  ·intro he
   have he : a0 = [] := by simpa using he
   subst he
   repeat (first | refine chk.ga ?_ | simp -dsimp)
   refine ALoop.goU ⟨[(0, .arr []), (1, .lit (.int .i64 k0)), (5, .lit (.int .i64 0))], []⟩ (Gh.to3 (by simp) (by simp -dsimp)) ?_
   refine ALoopU.enter ?_
   repeat (first | refine chk.ga ?_ | simp -dsimp)
   refine Leave.go _ (Gh.refl _) ?_
   repeat (first | refine chk.ga ?_ | simp -dsimp)
   all_goals (try simp [Vl.Pattern.mkL])
  ·intro hne rows us e1 e2 e3 e4
   have H : RW 6 a0.length rows us := ⟨by simpa using e2, e3, e1⟩
   repeat (first | refine chk.ga ?_ | simp -dsimp)
   refine ALoop.goU ⟨[(0, .own 0 a0.length), (1, .lit (.int .i64 k0)), (5, .lit (.int .i64 ((0 : Nat) : Int)))], [.elems 6 rows, .pack (List.flatten (List.map Vl.Pattern.c ([] ++ a0))) us]⟩ (Gh.to3 (by simp) (by simp -dsimp [RW.closed H])) ?_
   refine loop a0 [] k0 0 a0.length rows us hz0 rfl (by simp) H _ rfl _ ?_
   intro R U hR
   repeat (first | refine chk.ga ?_ | simp -dsimp)
   exact ⟨rfl, R, U, rfl, ⟨1, by simp⟩, hR.2.2, by rw [hR.1]; simp [Vl.Pattern.mkL_len], fun x hx => by obtain ⟨y, _, rfl⟩ := List.mem_map.1 hx; exact Vl.Pattern.c_len y⟩

theorem C.laws_markPatternS (B : Nat) (hB1 : 67108864 ≤ B) (hB2 : B ≤ 9223372036854775807) (a : List Vl.Pattern) (k : Int) (v : List Vl.Pattern × Int) (hF : F.laws_markPatternS a k = some v) : MCall Try.prog B 47 (List.map Vl.Pattern.c a) [.int .i64 k] (List.map Vl.Pattern.c v.1) (.int .i64 v.2) := by
 obtain rfl := Option.some.inj hF
 exact (CM.laws_markPatternS B hB1 hB2 (SizeOf.sizeOf a + 1)) a k (Nat.lt_succ_self _)

set_option maxRecDepth 100000 in
set_option maxHeartbeats 4000000 in
theorem C.laws_FnExactBarePattern (B : Nat) (hB1 : 67108864 ≤ B) (hB2 : B ≤ 9223372036854775807) (aP : Vl.Pattern) (r : Bool) (hF : F.laws_FnExactBarePattern aP = some r) : PureCall Try.prog B 5 [.agg [.lit (.int .i64 aP.op), .lit (.int .i64 aP.ctor), .lit (.int .i64 aP.n), .lit (.int .i64 aP.m), .lit (.int .i64 aP.var), .arr (List.map Vl.Pattern.c aP.kids)]] (.lit (.bool r)) := by
 unfold F.laws_FnExactBarePattern at hF
 refine PureCall.enterLe Try.func5 (by kernel_rfl) rfl Try.ntmps5 (by simp) (by simp) ?_
 repeat (first | refine chk.ga ?_ | simp -dsimp)
 have hF := ob hF; obtain ⟨v, e1, hF⟩ := hF
 refine ((C.laws_szPattern B hB1 hB2 aP (1048576 : Int) v e1)).goW (by simp) (by simp) ?_
 repeat (first | refine chk.ga ?_ | simp -dsimp)
 refine abr.split (fun h2 => ?_) (fun h2 => ?_)
 ·have q3 : (v < 0) := auq h2
  rw [if_pos q3] at hF
  cases hF
  repeat (first | refine chk.ga ?_ | simp -dsimp [h2])
  all_goals (try omega)
 ·have q3 : ¬ (v < 0) := auq h2
  rw [if_neg q3] at hF
  repeat (first | refine chk.ga ?_ | simp -dsimp [h2, q3])
  have hF := ob hF; obtain ⟨v4, e5, hF⟩ := hF
  refine ((C.laws_toPattern B hB1 hB2 aP v4 e5)).goW (by first | simp [h2, q3]; done | simp_all) (by simp) ?_
  repeat (first | refine chk.ga ?_ | simp -dsimp [h2, q3])
  have hF := ob hF; obtain ⟨v6, e7, hF⟩ := hF
  refine ((C.spec_BarePattern B hB1 hB2 v4 v6 e7)).goW (by first | simp [h2, q3]; done | simp_all) (by simp) ?_
  repeat (first | refine chk.ga ?_ | simp -dsimp [h2, q3])
  have hF := ob hF; obtain ⟨v8, e9, hF⟩ := hF
  refine ((C.laws_toPattern__f B hB1 hB2 aP v8 e9)).go1 (by first | simp -dsimp [h2, q3]; done | simp_all) (by simp) (fun h o_h => ?_)
  repeat (first | refine chk.ga ?_ | simp -dsimp [h2, q3, o_h])
  have hF := ob hF; obtain ⟨v10, e11, hF⟩ := hF
  refine ((C.impl_BarePattern__f B hB1 hB2 v8 v10 e11)).go1 (by first | simp -dsimp [h2, q3, o_h]; done | simp_all) (by simp) (fun h12 o_h12 => ?_)
  repeat (first | refine chk.ga ?_ | simp -dsimp [h2, q3, o_h, o_h12])
  have hF := ob hF; obtain ⟨v13, e14, hF⟩ := hF
  refine ((C.laws_eqPattern B hB1 hB2 v10 v6 v13 e14)).lend (by first | simp -dsimp [h2, q3, o_h, o_h12]; done | simp_all) (by simp -dsimp) ?_
  repeat (first | refine chk.ga ?_ | simp -dsimp [h2, q3, o_h, o_h12])
  refine abr.split (fun h15 => ?_) (fun h15 => ?_)
  ·have q16 : ¬ (v13 = true) := auq h15
   rw [if_neg q16] at hF
   cases hF
   repeat (first | refine chk.ga ?_ | simp -dsimp [h2, q3, o_h, o_h12, h15, q16])
   all_goals (try omega)
  ·have q16 : (v13 = true) := auq h15
   rw [if_pos q16] at hF
   repeat (first | refine chk.ga ?_ | simp -dsimp [h2, q3, o_h, o_h12, h15, q16])
   refine ADraw.eff [23] [(0, 0), (0, 0), (0, 1), (0, 1), (1, 1)] [1, 1, 1, 1, 1] follows (by kernel_rfl) (by kernel_rfl) (by kernel_rfl) ?_
   repeat (first | refine chk.ga ?_ | simp -dsimp [h2, q3, o_h, o_h12, h15, q16])
   have hF := ob hF; obtain ⟨v17, e18, hF⟩ := hF
   refine ((C.laws_toPattern B hB1 hB2 aP v17 e18)).pgoW (by first | simp [h2, q3, o_h, o_h12, h15, q16]; done | simp_all) (by simp) ?_
   repeat (first | refine chk.ga ?_ | simp -dsimp [h2, q3, o_h, o_h12, h15, q16])
   have hF := ob hF; obtain ⟨v19, e20, hF⟩ := hF
   refine ((C.laws_eqPattern B hB1 hB2 v8 v17 v19 e20)).elend (by first | simp -dsimp [h2, q3, o_h, o_h12, h15, q16]; done | simp_all) (by simp -dsimp) ?_
   repeat (first | refine chk.ga ?_ | simp -dsimp [h2, q3, o_h, o_h12, h15, q16])
   refine abr.split (fun h21 => ?_) (fun h21 => ?_)
   ·have q22 : ¬ (v19 = true) := auq h21
    rw [if_neg q22] at hF
    cases hF
    repeat (first | refine chk.ga ?_ | simp -dsimp [h2, q3, o_h, o_h12, h15, q16, h21, q22])
    all_goals (try omega)
   ·have q22 : (v19 = true) := auq h21
    rw [if_pos q22] at hF
    repeat (first | refine chk.ga ?_ | simp -dsimp [h2, q3, o_h, o_h12, h15, q16, h21, q22])
    refine ACall.inl Try.func24 (by kernel_rfl) rfl Try.ntmps24 (by simp) ?_
    repeat (first | refine chk.ga ?_ | simp -dsimp [h2, q3, o_h, o_h12, h15, q16, h21, q22])
    have hF := ob hF; obtain ⟨v23, e24, hF⟩ := hF
    refine ((C.laws_markPatternS B hB1 hB2 v8.kids 1 v23 e24)).go 2 rfl (by simp) ?_
    repeat (first | refine chk.ga ?_ | simp -dsimp [h2, q3, o_h, o_h12, h15, q16, h21, q22])
    refine abr.split (fun h25 => ?_) (fun h25 => ?_)
    ·have q26 : ¬ (v23.2 < 0) := auq h25
     rw [if_neg q26] at hF
     repeat (first | refine chk.ga ?_ | simp -dsimp [h2, q3, o_h, o_h12, h15, q16, h21, q22, h25, q26])
     have hF := ob hF; obtain ⟨v27, e28, hF⟩ := hF
     refine ((C.laws_eqPattern B hB1 hB2 v10 v6 v27 e28)).lend (by first | simp -dsimp [h2, q3, o_h, o_h12, h15, q16, h21, q22, h25, q26]; done | simp_all) (by simp -dsimp) ?_
     repeat (first | refine chk.ga ?_ | simp -dsimp [h2, q3, o_h, o_h12, h15, q16, h21, q22, h25, q26])
     refine abr.split (fun h29 => ?_) (fun h29 => ?_)
     ·have q30 : ¬ (v27 = true) := auq h29
      rw [if_neg q30] at hF
      cases hF
      repeat (first | refine chk.ga ?_ | simp -dsimp [h2, q3, o_h, o_h12, h15, q16, h21, q22, h25, q26, h29, q30])
      all_goals (try omega)
     ·have q30 : (v27 = true) := auq h29
      rw [if_pos q30] at hF
      repeat (first | refine chk.ga ?_ | simp -dsimp [h2, q3, o_h, o_h12, h15, q16, h21, q22, h25, q26, h29, q30])
      refine ACall.inl Try.func24 (by kernel_rfl) rfl Try.ntmps24 (by simp) ?_
      repeat (first | refine chk.ga ?_ | simp -dsimp [h2, q3, o_h, o_h12, h15, q16, h21, q22, h25, q26, h29, q30])
      have hF := ob hF; obtain ⟨v31, e32, hF⟩ := hF
      refine ((C.laws_markPatternS B hB1 hB2 v10.kids 1 v31 e32)).go 4 rfl (by simp) ?_
      repeat (first | refine chk.ga ?_ | simp -dsimp [h2, q3, o_h, o_h12, h15, q16, h21, q22, h25, q26, h29, q30])
      have hF := ob hF; obtain ⟨v33, e34, hF⟩ := hF
      refine ((C.laws_heldPattern B hB1 hB2 (⟨v10.op, v10.ctor, v10.n, v10.m, v10.var, v31.1⟩ : Vl.Pattern) (1 : Int) v33 e34)).lend (by first | simp -dsimp [h2, q3, o_h, o_h12, h15, q16, h21, q22, h25, q26, h29, q30]; done | simp_all) (by simp -dsimp) ?_
      repeat (first | refine chk.ga ?_ | simp -dsimp [h2, q3, o_h, o_h12, h15, q16, h21, q22, h25, q26, h29, q30])
      refine abr.split (fun h35 => ?_) (fun h35 => ?_)
      ·have q36 : (v33 < 0) := auq h35
       rw [if_pos q36] at hF
       cases hF
       repeat (first | refine chk.ga ?_ | simp -dsimp [h2, q3, o_h, o_h12, h15, q16, h21, q22, h25, q26, h29, q30, h35])
       all_goals (try omega)
      ·have q36 : ¬ (v33 < 0) := auq h35
       rw [if_neg q36] at hF
       repeat (first | refine chk.ga ?_ | simp -dsimp [h2, q3, o_h, o_h12, h15, q16, h21, q22, h25, q26, h29, q30, h35, q36])
       refine abr.split (fun h37 => ?_) (fun h37 => ?_)
       ·have q38 : ¬ (v33 = v31.2) := auq h37
        rw [if_neg q38] at hF
        cases hF
        repeat (first | refine chk.ga ?_ | simp -dsimp [h2, q3, o_h, o_h12, h15, q16, h21, q22, h25, q26, h29, q30, h35, q36, h37, q38])
        all_goals (try omega)
       ·have q38 : (v33 = v31.2) := auq h37
        rw [if_pos q38] at hF
        repeat (first | refine chk.ga ?_ | simp -dsimp [h2, q3, o_h, o_h12, h15, q16, h21, q22, h25, q26, h29, q30, h35, q36, h37, q38])
        have hF := ob hF; obtain ⟨v39, e40, hF⟩ := hF
        refine ((C.laws_toPattern B hB1 hB2 aP v39 e40)).goW (by first | simp [h2, q3, o_h, o_h12, h15, q16, h21, q22, h25, q26, h29, q30, h35, q36, h37, q38]; done | simp_all) (by simp) ?_
        repeat (first | refine chk.ga ?_ | simp -dsimp [h2, q3, o_h, o_h12, h15, q16, h21, q22, h25, q26, h29, q30, h35, q36, h37, q38])
        have hF := ob hF; obtain ⟨v41, e42, hF⟩ := hF
        refine ((C.impl_BarePattern__f B hB1 hB2 v39 v41 e42)).go1 (by first | simp -dsimp [h2, q3, o_h, o_h12, h15, q16, h21, q22, h25, q26, h29, q30, h35, q36, h37, q38]; done | simp_all) (by simp) (fun h43 o_h43 => ?_)
        repeat (first | refine chk.ga ?_ | simp -dsimp [h2, q3, o_h, o_h12, h15, q16, h21, q22, h25, q26, h29, q30, h35, q36, h37, q38, o_h43])
        have hF := ob hF; obtain ⟨v44, e45, hF⟩ := hF
        refine ((C.laws_eqPattern B hB1 hB2 v41 v6 v44 e45)).lend (by first | simp -dsimp [h2, q3, o_h, o_h12, h15, q16, h21, q22, h25, q26, h29, q30, h35, q36, h37, q38, o_h43]; done | simp_all) (by simp -dsimp) ?_
        repeat (first | refine chk.ga ?_ | simp -dsimp [h2, q3, o_h, o_h12, h15, q16, h21, q22, h25, q26, h29, q30, h35, q36, h37, q38, o_h43])
        refine abr.split (fun h46 => ?_) (fun h46 => ?_)
        ·have q47 : ¬ (v44 = true) := auq h46
         rw [if_neg q47] at hF
         cases hF
         repeat (first | refine chk.ga ?_ | simp -dsimp [h2, q3, o_h, o_h12, h15, q16, h21, q22, h25, q26, h29, q30, h35, q36, h37, q38, o_h43, h46, q47])
         all_goals (try omega)
        ·have q47 : (v44 = true) := auq h46
         rw [if_pos q47] at hF
         repeat (first | refine chk.ga ?_ | simp -dsimp [h2, q3, o_h, o_h12, h15, q16, h21, q22, h25, q26, h29, q30, h35, q36, h37, q38, o_h43, h46, q47])
         have hF := ob hF; obtain ⟨v48, e49, hF⟩ := hF
         refine ((C.laws_heldPattern B hB1 hB2 (⟨v10.op, v10.ctor, v10.n, v10.m, v10.var, v31.1⟩ : Vl.Pattern) (1 : Int) v48 e49)).lend (by first | simp -dsimp [h2, q3, o_h, o_h12, h15, q16, h21, q22, h25, q26, h29, q30, h35, q36, h37, q38, o_h43, h46, q47]; done | simp_all) (by simp -dsimp) ?_
         repeat (first | refine chk.ga ?_ | simp -dsimp [h2, q3, o_h, o_h12, h15, q16, h21, q22, h25, q26, h29, q30, h35, q36, h37, q38, o_h43, h46, q47])
         refine abr.split (fun h50 => ?_) (fun h50 => ?_)
         ·have q51 : (v48 < 0) := auq h50
          rw [if_pos q51] at hF
          cases hF
          repeat (first | refine chk.ga ?_ | simp -dsimp [h2, q3, o_h, o_h12, h15, q16, h21, q22, h25, q26, h29, q30, h35, q36, h37, q38, o_h43, h46, q47, h50])
          all_goals (try omega)
         ·have q51 : ¬ (v48 < 0) := auq h50
          rw [if_neg q51] at hF
          repeat (first | refine chk.ga ?_ | simp -dsimp [h2, q3, o_h, o_h12, h15, q16, h21, q22, h25, q26, h29, q30, h35, q36, h37, q38, o_h43, h46, q47, h50, q51])
          refine abr.split (fun h52 => ?_) (fun h52 => ?_)
          ·have q53 : ¬ (v48 = v31.2) := auq h52
           rw [if_neg q53] at hF
           cases hF
           repeat (first | refine chk.ga ?_ | simp -dsimp [h2, q3, o_h, o_h12, h15, q16, h21, q22, h25, q26, h29, q30, h35, q36, h37, q38, o_h43, h46, q47, h50, q51, h52, q53])
           all_goals (try omega)
          ·have q53 : (v48 = v31.2) := auq h52
           rw [if_pos q53] at hF
           cases hF
           repeat (first | refine chk.ga ?_ | simp -dsimp [h2, q3, o_h, o_h12, h15, q16, h21, q22, h25, q26, h29, q30, h35, q36, h37, q38, o_h43, h46, q47, h50, q51, h52, q53])
           all_goals (try omega)
    ·have q26 : (v23.2 < 0) := auq h25
     rw [if_pos q26] at hF
     cases hF
     repeat (first | refine chk.ga ?_ | simp -dsimp [h2, q3, o_h, o_h12, h15, q16, h21, q22, h25, q26])
     all_goals (try omega)

end Go.Proofs.Ytfalapoojmlbpaa
