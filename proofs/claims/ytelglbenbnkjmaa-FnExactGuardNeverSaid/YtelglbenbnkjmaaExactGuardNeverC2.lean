/- The contracts: the code computes the functions (printed by gen.py). -/
import Derived.Test.YtelglbenbnkjmaaProg
import Derived.Test.YtelglbenbnkjmaaExactGuardNeverF
import Derived.Test.YtelglbenbnkjmaaExactGuardNeverC1
namespace Go.Proofs.Ytelglbenbnkjmaa
open Go Go.Proofs Go.Vl
set_option linter.unusedSimpArgs false
set_option linter.unusedVariables false

attribute [local irreducible] ECallA aL AMake MLoop AgainM LeaveM awpM aopsM MutCall BCall chk abr ACall ALoop ALoopU ADraw Again Leave PCallA PCall Post awp aops PureCall hold

set_option maxRecDepth 100000 in
set_option maxHeartbeats 4000000 in
theorem C.spec_l3Is (B : Nat) (hB1 : 67108864 ≤ B) (hB2 : B ≤ 9223372036854775807) (w : List Vl.Data) (t : Vl.Ty) (p : Vl.Pattern) (r : Bool) (hF : F.spec_l3Is w t p = some r) : PureCall Try.prog B 126 [.arr (List.map Vl.Data.c w), .agg [.lit (.int .i64 t.data), .lit (.int .i64 t.index)], .agg [.lit (.int .i64 p.op), .lit (.int .i64 p.ctor), .lit (.int .i64 p.n), .lit (.int .i64 p.m), .lit (.int .i64 p.var), .arr (List.map Vl.Pattern.c p.kids)]] (.lit (.bool r)) := by
 unfold F.spec_l3Is at hF
 refine PureCall.enterLe Try.func126 (by kernel_rfl) rfl Try.ntmps126 (by simp) (by simp) ?_
 repeat (first | refine chk.ga ?_ | simp -dsimp)
 have hF := ob hF; obtain ⟨v, e1, hF⟩ := hF
 refine ((C.spec_l3Shape B hB1 hB2 w t p (10 : Int) v e1)).goW (by simp) (by simp) ?_
 repeat (first | refine chk.ga ?_ | simp -dsimp)
 refine abr.split (fun h2 => ?_) (fun h2 => ?_)
 ·have q3 : (v = true) := auq h2
  rw [if_pos q3] at hF
  repeat (first | refine chk.ga ?_ | simp -dsimp [h2])
  have hF := ob hF; obtain ⟨v4, e5, hF⟩ := hF
  refine ((C.spec_l3Count B hB1 hB2 p (60 : Int) v4 e5)).goW (by first | simp [h2]; done | simp_all) (by simp) ?_
  repeat (first | refine chk.ga ?_ | simp -dsimp [h2])
  refine abr.split (fun h6 => ?_) (fun h6 => ?_)
  ·have q7 : (v4 ≤ 60) := auq h6
   rw [if_pos q7] at hF
   repeat (first | refine chk.ga ?_ | simp -dsimp [h2, h6])
   have hF := ob hF; obtain ⟨v8, e9, hF⟩ := hF
   refine ((C.spec_l3Linear B hB1 hB2 w t p v8 e9)).goW (by first | simp [h2, h6]; done | simp_all) (by simp) ?_
   cases hF
   repeat (first | refine chk.ga ?_ | simp -dsimp [h2, h6])
   all_goals (try omega)
  ·have q7 : ¬ (v4 ≤ 60) := auq h6
   rw [if_neg q7] at hF
   cases hF
   repeat (first | refine chk.ga ?_ | simp -dsimp [h2, h6, q7])
   all_goals (try omega)
 ·have q3 : ¬ (v = true) := auq h2
  rw [if_neg q3] at hF
  cases hF
  repeat (first | refine chk.ga ?_ | simp -dsimp [h2, q3])
  all_goals (try omega)

set_option maxRecDepth 100000 in
set_option maxHeartbeats 4000000 in
theorem C.spec_l4Guard (B : Nat) (hB1 : 67108864 ≤ B) (hB2 : B ≤ 9223372036854775807) (g : Vl.Guard) (vars : List Vl.VarType) (r : Bool) (hF : F.spec_l4Guard g vars = some r) : PureCall Try.prog B 176 [.agg [.lit (.int .i64 g.op), .lit (.int .i64 g.var), .lit (.int .i64 g.n)], .arr (List.map Vl.VarType.c vars)] (.lit (.bool r)) := by
 unfold F.spec_l4Guard at hF
 refine PureCall.enterLe Try.func176 (by kernel_rfl) rfl Try.ntmps176 (by simp) (by simp) ?_
 repeat (first | refine chk.ga ?_ | simp -dsimp)
 refine abr.split (fun h1 => ?_) (fun h1 => ?_)
 ·have q2 : (g.op = 0) := auq h1
  rw [if_pos q2] at hF
  repeat (first | refine chk.ga ?_ | simp -dsimp [h1])
  refine abr.split (fun h3 => ?_) (fun h3 => ?_)
  ·have q4 : (g.var = 0) := auq h3
   rw [if_pos q4] at hF
   cases hF
   repeat (first | refine chk.ga ?_ | simp -dsimp [h1, h3])
   all_goals (try omega)
  ·have q4 : ¬ (g.var = 0) := auq h3
   rw [if_neg q4] at hF
   cases hF
   repeat (first | refine chk.ga ?_ | simp -dsimp [h1, h3, q4])
   all_goals (try omega)
 ·have q2 : ¬ (g.op = 0) := auq h1
  rw [if_neg q2] at hF
  repeat (first | refine chk.ga ?_ | simp -dsimp [h1, q2])
  refine abr.split (fun h5 => ?_) (fun h5 => ?_)
  ·have q6 : ¬ (g.op = 1) := auq h5
   rw [if_neg q6] at hF
   repeat (first | refine chk.ga ?_ | simp -dsimp [h1, q2, h5, q6])
   refine abr.split (fun h7 => ?_) (fun h7 => ?_)
   ·have q8 : (g.op = 2) := auq h7
    rw [if_pos q8] at hF
    repeat (first | refine chk.ga ?_ | simp -dsimp [h1, q2, h5, q6, h7])
    refine abr.split (fun h9 => ?_) (fun h9 => ?_)
    ·have q10 : ¬ (g.n < 0) := auq h9
     rw [if_neg q10] at hF
     repeat (first | refine chk.ga ?_ | simp -dsimp [h1, q2, h5, q6, h7, h9, q10])
     refine abr.split (fun h11 => ?_) (fun h11 => ?_)
     ·have q12 : (9 < g.n) := auq h11
      rw [if_pos q12] at hF
      cases hF
      repeat (first | refine chk.ga ?_ | simp -dsimp [h1, q2, h5, q6, h7, h9, q10, h11])
      all_goals (try omega)
     ·have q12 : ¬ (9 < g.n) := auq h11
      rw [if_neg q12] at hF
      repeat (first | refine chk.ga ?_ | simp -dsimp [h1, q2, h5, q6, h7, h9, q10, h11, q12])
      have hF := ob hF; obtain ⟨v, e13, hF⟩ := hF
      refine ((C.spec_l3Find B hB1 hB2 vars g.var v e13)).goW (by first | simp [h1, q2, h5, q6, h7, h9, q10, h11, q12]; done | simp_all) (by simp) ?_
      repeat (first | refine chk.ga ?_ | simp -dsimp [h1, q2, h5, q6, h7, h9, q10, h11, q12])
      refine abr.split (fun h14 => ?_) (fun h14 => ?_)
      ·have q15 : (0 ≤ v) := auq h14
       rw [if_pos q15] at hF
       have hF := ob hF; obtain ⟨x, e16a, hF⟩ := hF
       have e16a := at_some e16a; obtain ⟨ne16, e16⟩ := e16a
       have le16 := lt_of_get e16
       cases hF
       repeat (first | refine chk.ga ?_ | simp -dsimp [h1, q2, h5, q6, h7, h9, q10, h11, q12, h14, ↓e16])
       all_goals (try omega)
      ·have q15 : ¬ (0 ≤ v) := auq h14
       rw [if_neg q15] at hF
       cases hF
       repeat (first | refine chk.ga ?_ | simp -dsimp [h1, q2, h5, q6, h7, h9, q10, h11, q12, h14, q15])
       all_goals (try omega)
    ·have q10 : (g.n < 0) := auq h9
     rw [if_pos q10] at hF
     cases hF
     repeat (first | refine chk.ga ?_ | simp -dsimp [h1, q2, h5, q6, h7, h9, q10])
     all_goals (try omega)
   ·have q8 : ¬ (g.op = 2) := auq h7
    rw [if_neg q8] at hF
    cases hF
    repeat (first | refine chk.ga ?_ | simp -dsimp [h1, q2, h5, q6, h7, q8])
    all_goals (try omega)
  ·have q6 : (g.op = 1) := auq h5
   rw [if_pos q6] at hF
   repeat (first | refine chk.ga ?_ | simp -dsimp [h1, q2, h5, q6])
   refine abr.split (fun h17 => ?_) (fun h17 => ?_)
   ·have q18 : ¬ (g.n < 0) := auq h17
    rw [if_neg q18] at hF
    repeat (first | refine chk.ga ?_ | simp -dsimp [h1, q2, h5, q6, h17, q18])
    refine abr.split (fun h19 => ?_) (fun h19 => ?_)
    ·have q20 : (9 < g.n) := auq h19
     rw [if_pos q20] at hF
     cases hF
     repeat (first | refine chk.ga ?_ | simp -dsimp [h1, q2, h5, q6, h17, q18, h19])
     all_goals (try omega)
    ·have q20 : ¬ (9 < g.n) := auq h19
     rw [if_neg q20] at hF
     repeat (first | refine chk.ga ?_ | simp -dsimp [h1, q2, h5, q6, h17, q18, h19, q20])
     have hF := ob hF; obtain ⟨v21, e22, hF⟩ := hF
     refine ((C.spec_l3Find B hB1 hB2 vars g.var v21 e22)).goW (by first | simp [h1, q2, h5, q6, h17, q18, h19, q20]; done | simp_all) (by simp) ?_
     repeat (first | refine chk.ga ?_ | simp -dsimp [h1, q2, h5, q6, h17, q18, h19, q20])
     refine abr.split (fun h23 => ?_) (fun h23 => ?_)
     ·have q24 : (0 ≤ v21) := auq h23
      rw [if_pos q24] at hF
      have hF := ob hF; obtain ⟨x25, e26a, hF⟩ := hF
      have e26a := at_some e26a; obtain ⟨ne26, e26⟩ := e26a
      have le26 := lt_of_get e26
      cases hF
      repeat (first | refine chk.ga ?_ | simp -dsimp [h1, q2, h5, q6, h17, q18, h19, q20, h23, ↓e26])
      all_goals (try omega)
     ·have q24 : ¬ (0 ≤ v21) := auq h23
      rw [if_neg q24] at hF
      cases hF
      repeat (first | refine chk.ga ?_ | simp -dsimp [h1, q2, h5, q6, h17, q18, h19, q20, h23, q24])
      all_goals (try omega)
   ·have q18 : (g.n < 0) := auq h17
    rw [if_pos q18] at hF
    cases hF
    repeat (first | refine chk.ga ?_ | simp -dsimp [h1, q2, h5, q6, h17, q18])
    all_goals (try omega)

set_option maxRecDepth 100000 in
set_option maxHeartbeats 4000000 in
theorem C.spec_l4Is (B : Nat) (hB1 : 67108864 ≤ B) (hB2 : B ≤ 9223372036854775807) (w : List Vl.Data) (t : Vl.Ty) (c' : Vl.Clause) (r : Bool) (hF : F.spec_l4Is w t c' = some r) : PureCall Try.prog B 135 [.arr (List.map Vl.Data.c w), .agg [.lit (.int .i64 t.data), .lit (.int .i64 t.index)], .agg [.lit (.int .i64 c'.pat.op), .lit (.int .i64 c'.pat.ctor), .lit (.int .i64 c'.pat.n), .lit (.int .i64 c'.pat.m), .lit (.int .i64 c'.pat.var), .arr (List.map Vl.Pattern.c c'.pat.kids), .lit (.int .i64 c'.guard.op), .lit (.int .i64 c'.guard.var), .lit (.int .i64 c'.guard.n)]] (.lit (.bool r)) := by
 unfold F.spec_l4Is at hF
 refine PureCall.enterLe Try.func135 (by kernel_rfl) rfl Try.ntmps135 (by simp) (by simp) ?_
 repeat (first | refine chk.ga ?_ | simp -dsimp)
 refine ADraw.eff [176, 177] [(0, 0), (0, 0), (0, 0), (0, 0), (0, 2), (0, 0), (0, 1), (0, 1), (0, 0), (0, 0), (0, 0), (0, 0), (0, 2), (0, 2), (2, 2), (2, 2)] [1, 1, 1, 1, 1, 1, 0, 2, 1, 1, 1, 1, 1, 1, 1, 1] follows (by kernel_rfl) (by kernel_rfl) (by kernel_rfl) ?_
 repeat (first | refine chk.ga ?_ | simp -dsimp)
 have hF := ob hF; obtain ⟨v, e1, hF⟩ := hF
 refine ((C.spec_l3Is B hB1 hB2 w t c'.pat v e1)).pgoW (by simp) (by simp) ?_
 repeat (first | refine chk.ga ?_ | simp -dsimp)
 refine abr.split (fun h2 => ?_) (fun h2 => ?_)
 ·have q3 : (v = true) := auq h2
  rw [if_pos q3] at hF
  repeat (first | refine chk.ga ?_ | simp -dsimp [h2])
  have hF := ob hF; obtain ⟨v4, e5, hF⟩ := hF
  refine ECallA.nilArg 0 3 (by simp) ?_
  repeat (first | refine chk.ga ?_ | simp -dsimp [h2])
  refine ((C.spec_l3Vars B hB1 hB2 [] w t c'.pat v4 e5)).ego (pl [2]) (by simp) (by simp) (plInj _ rfl (by decide)) (by intro i hi hi'; simp at hi hi'; first | omega | (subst hi'; simp [pl])) (by first | simp [h2]; done | simp_all) (by first | simp [h2]; done | simp_all) ?_
  repeat (first | refine chk.ga ?_ | simp -dsimp [h2])
  have hF := ob hF; obtain ⟨v6, e7, hF⟩ := hF
  refine ((C.spec_l4Guard B hB1 hB2 c'.guard v4 v6 e7)).elend (by first | simp -dsimp [h2]; done | simp_all) (by simp -dsimp) ?_
  cases hF
  repeat (first | refine chk.ga ?_ | simp -dsimp [h2])
  all_goals (try omega)
 ·have q3 : ¬ (v = true) := auq h2
  rw [if_neg q3] at hF
  cases hF
  repeat (first | refine chk.ga ?_ | simp -dsimp [h2, q3])
  all_goals (try omega)

set_option maxRecDepth 100000 in
set_option maxHeartbeats 4000000 in
theorem C.spec_ClauseValid (B : Nat) (hB1 : 67108864 ≤ B) (hB2 : B ≤ 9223372036854775807) (w : List Vl.Data) (t : Vl.Ty) (c' : Vl.Clause) (r : Bool) (hF : F.spec_ClauseValid w t c' = some r) : PureCall Try.prog B 76 [.arr (List.map Vl.Data.c w), .agg [.lit (.int .i64 t.data), .lit (.int .i64 t.index)], .agg [.lit (.int .i64 c'.pat.op), .lit (.int .i64 c'.pat.ctor), .lit (.int .i64 c'.pat.n), .lit (.int .i64 c'.pat.m), .lit (.int .i64 c'.pat.var), .arr (List.map Vl.Pattern.c c'.pat.kids), .lit (.int .i64 c'.guard.op), .lit (.int .i64 c'.guard.var), .lit (.int .i64 c'.guard.n)]] (.lit (.bool r)) := by
 unfold F.spec_ClauseValid at hF
 refine PureCall.enterLe Try.func76 (by kernel_rfl) rfl Try.ntmps76 (by simp) (by simp) ?_
 repeat (first | refine chk.ga ?_ | simp -dsimp)
 have hF := ob hF; obtain ⟨v, e1, hF⟩ := hF
 refine ((C.spec_TypeValid B hB1 hB2 w t v e1)).goW (by simp) (by simp) ?_
 repeat (first | refine chk.ga ?_ | simp -dsimp)
 refine abr.split (fun h2 => ?_) (fun h2 => ?_)
 ·have q3 : (v = true) := auq h2
  rw [if_pos q3] at hF
  repeat (first | refine chk.ga ?_ | simp -dsimp [h2])
  have hF := ob hF; obtain ⟨v4, e5, hF⟩ := hF
  refine ((C.spec_l4Is B hB1 hB2 w t c' v4 e5)).goW (by first | simp [h2]; done | simp_all) (by simp) ?_
  cases hF
  repeat (first | refine chk.ga ?_ | simp -dsimp [h2])
  all_goals (try omega)
 ·have q3 : ¬ (v = true) := auq h2
  rw [if_neg q3] at hF
  cases hF
  repeat (first | refine chk.ga ?_ | simp -dsimp [h2, q3])
  all_goals (try omega)

set_option maxRecDepth 100000 in
set_option maxHeartbeats 4000000 in
theorem CC.spec_l11Has (B : Nat) (hB1 : 67108864 ≤ B) (hB2 : B ≤ 9223372036854775807) (v : Int) : (∀ (p : Vl.Pattern) (r : Bool), F.spec_l11Has p v = some r → PureCall Try.prog B 136 [.agg [.lit (.int .i64 p.op), .lit (.int .i64 p.ctor), .lit (.int .i64 p.n), .lit (.int .i64 p.m), .lit (.int .i64 p.var), .arr (List.map Vl.Pattern.c p.kids)], .lit (.int .i64 v)] (.lit (.bool r))) ∧
  (∀ (p : Vl.Pattern) (i : Nat) (o : Lo Bool Unit), F.spec_l11Has_l1 p v i = some o → ∀ (c : Code), navO [1, 0, 1, 0, 0] (bodyOf Try.f136) = some c → ∀ (Q : Exit → ASt → Prop), o.post (fun r => ∀ st, Post Try.prog Try.f136 (fun r' _ => r'.le (.lit (.bool r))) .ret st → Q .ret st) (fun s => Q (.exit 0) ⟨[(1, .lit (.int .i64 v)), (2, .ptr 0 0)], [.cells [.lit (.int .i64 p.op), .lit (.int .i64 p.ctor), .lit (.int .i64 p.n), .lit (.int .i64 p.m), .lit (.int .i64 p.var), .arr (List.map Vl.Pattern.c p.kids)]]⟩) → ALoopU Try.prog B 0 34 (hold c .mk) ⟨[(1, .lit (.int .i64 v)), (2, .ptr 0 0), (5, .lit (.int .i64 (i : Int)))], [.cells [.lit (.int .i64 p.op), .lit (.int .i64 p.ctor), .lit (.int .i64 p.n), .lit (.int .i64 p.m), .lit (.int .i64 p.var), .arr (List.map Vl.Pattern.c p.kids)]]⟩ (hold Q .mk)) := by
 refine F.spec_l11Has.mutual_partial_correctness v
  (fun p r => PureCall Try.prog B 136 [.agg [.lit (.int .i64 p.op), .lit (.int .i64 p.ctor), .lit (.int .i64 p.n), .lit (.int .i64 p.m), .lit (.int .i64 p.var), .arr (List.map Vl.Pattern.c p.kids)], .lit (.int .i64 v)] (.lit (.bool r)))
  (fun p i o => ∀ (c : Code), navO [1, 0, 1, 0, 0] (bodyOf Try.f136) = some c → ∀ (Q : Exit → ASt → Prop), o.post (fun r => ∀ st, Post Try.prog Try.f136 (fun r' _ => r'.le (.lit (.bool r))) .ret st → Q .ret st) (fun s => Q (.exit 0) ⟨[(1, .lit (.int .i64 v)), (2, .ptr 0 0)], [.cells [.lit (.int .i64 p.op), .lit (.int .i64 p.ctor), .lit (.int .i64 p.n), .lit (.int .i64 p.m), .lit (.int .i64 p.var), .arr (List.map Vl.Pattern.c p.kids)]]⟩) → ALoopU Try.prog B 0 34 (hold c .mk) ⟨[(1, .lit (.int .i64 v)), (2, .ptr 0 0), (5, .lit (.int .i64 (i : Int)))], [.cells [.lit (.int .i64 p.op), .lit (.int .i64 p.ctor), .lit (.int .i64 p.n), .lit (.int .i64 p.m), .lit (.int .i64 p.var), .arr (List.map Vl.Pattern.c p.kids)]]⟩ (hold Q .mk))
  ?_ ?_
 ·intro _f_spec_l11Has_l1 ih_spec_l11Has_l1 p r hF
  refine PureCall.enterLe Try.func136 (by kernel_rfl) rfl Try.ntmps136 (by simp) (by simp) ?_
  repeat (first | refine chk.ga ?_ | simp -dsimp)
  have hF := ob hF; obtain ⟨o', ho10, hF⟩ := hF
  refine ALoop.goU ⟨[(1, .lit (.int .i64 v)), (2, .ptr 0 0), (5, .lit (.int .i64 (0 : Int)))], [.cells [.lit (.int .i64 p.op), .lit (.int .i64 p.ctor), .lit (.int .i64 p.n), .lit (.int .i64 p.m), .lit (.int .i64 p.var), .arr (List.map Vl.Pattern.c p.kids)]]⟩ (Gh.to3 (by simp) (by simp -dsimp)) ?_
  refine (ih_spec_l11Has_l1 p 0 o' ho10) _ rfl _ ?_
  rcases o' with r0 | sx
  ·dsimp only at hF
   cases hF
   intro st h
   simpa using h
  ·dsimp only at hF
   repeat (first | refine chk.ga ?_ | simp -dsimp)
   refine abr.split (fun h11 => ?_) (fun h11 => ?_)
   ·have q12 : ¬ (p.op = 2) := auq h11
    rw [if_neg q12] at hF
    repeat (first | refine chk.ga ?_ | simp -dsimp [h11, q12])
    refine abr.split (fun h13 => ?_) (fun h13 => ?_)
    ·have q14 : (p.op = 6) := auq h13
     rw [if_pos q14] at hF
     cases hF
     repeat (first | refine chk.ga ?_ | simp -dsimp [h11, q12, h13])
     all_goals (try omega)
    ·have q14 : ¬ (p.op = 6) := auq h13
     rw [if_neg q14] at hF
     cases hF
     repeat (first | refine chk.ga ?_ | simp -dsimp [h11, q12, h13, q14])
     all_goals (try omega)
   ·have q12 : (p.op = 2) := auq h11
    rw [if_pos q12] at hF
    cases hF
    repeat (first | refine chk.ga ?_ | simp -dsimp [h11, q12])
    all_goals (try omega)
 ·intro _f_spec_l11Has _f_spec_l11Has_l1 ih_spec_l11Has ih_spec_l11Has_l1 p i o hF
  intro c hc Q hq
  obtain rfl : c = _ := navEq hc rfl
  refine ALoopU.know fun hk hs => ?_
  have d0 := hs 0 _ rfl
  simp -dsimp [Blk.bnd] at d0
  clear hk hs
  refine ALoopU.enter ?_
  repeat (first | refine chk.ga ?_ | simp -dsimp)
  refine abr.split (fun h1 => ?_) (fun h1 => ?_)
  ·have q2 : (i < p.kids.length) := auq h1
   have z3 : ((i : Int) < (p.kids.length : Int)) := auz
   rw [if_pos q2] at hF
   have hF := ob hF; obtain ⟨x, e4, hF⟩ := hF
   have le4 := lt_of_get e4
   repeat (first | refine chk.ga ?_ | simp -dsimp [h1, z3, ↓e4])
   have hF := ob hF; obtain ⟨v5, e6, hF⟩ := hF
   refine ((ih_spec_l11Has x v5 e6)).goW (by first | simp [h1, z3, ↓e4]; done | simp_all) (by simp) ?_
   repeat (first | refine chk.ga ?_ | simp -dsimp [h1, z3, ↓e4])
   refine abr.split (fun h7 => ?_) (fun h7 => ?_)
   ·have q8 : (v5 = true) := auq h7
    rw [if_pos q8] at hF
    cases hF
    repeat (first | refine chk.ga ?_ | simp -dsimp [h1, z3, ↓e4, h7])
    refine Leave.go _ (Gh.refl _) (hq _ ?_)
    repeat (first | refine chk.ga ?_ | simp -dsimp [h1, z3, ↓e4, h7])
   ·have q8 : ¬ (v5 = true) := auq h7
    rw [if_neg q8] at hF
    have w9 : IntKind.i64.wrap ((i : Int) + 1) = (i : Int) + 1 := wrap_in (by omega) (by omega)
    repeat (first | refine chk.ga ?_ | simp -dsimp [h1, z3, ↓e4, h7, q8, w9])
    refine Again.go ⟨[(1, .lit (.int .i64 v)), (2, .ptr 0 0), (5, .lit (.int .i64 ((i + 1) : Int)))], [.cells [.lit (.int .i64 p.op), .lit (.int .i64 p.ctor), .lit (.int .i64 p.n), .lit (.int .i64 p.m), .lit (.int .i64 p.var), .arr (List.map Vl.Pattern.c p.kids)]]⟩ (Gh.to3 (by simp) (by first | simp -dsimp [h1, z3, ↓e4, h7, q8, w9]; done | simp_all)) ?_
    exact (ih_spec_l11Has_l1 p (i + 1) o hF) _ rfl _ hq
  ·have q2 : ¬ (i < p.kids.length) := auq h1
   have z3 : ¬ ((i : Int) < (p.kids.length : Int)) := auz
   rw [if_neg q2] at hF
   cases hF
   repeat (first | refine chk.ga ?_ | simp -dsimp [h1, q2, z3])
   refine Leave.go ⟨[(1, .lit (.int .i64 v)), (2, .ptr 0 0)], [.cells [.lit (.int .i64 p.op), .lit (.int .i64 p.ctor), .lit (.int .i64 p.n), .lit (.int .i64 p.m), .lit (.int .i64 p.var), .arr (List.map Vl.Pattern.c p.kids)]]⟩ (Gh.to3 (by simp) (by first | simp -dsimp [h1, q2, z3]; done | simp_all)) ?_
   exact hq

theorem C.spec_l11Has (B : Nat) (hB1 : 67108864 ≤ B) (hB2 : B ≤ 9223372036854775807) (p : Vl.Pattern) (v : Int) (r : Bool) (hF : F.spec_l11Has p v = some r) : PureCall Try.prog B 136 [.agg [.lit (.int .i64 p.op), .lit (.int .i64 p.ctor), .lit (.int .i64 p.n), .lit (.int .i64 p.m), .lit (.int .i64 p.var), .arr (List.map Vl.Pattern.c p.kids)], .lit (.int .i64 v)] (.lit (.bool r)) :=
 (CC.spec_l11Has B hB1 hB2 v).1 p r hF

theorem C.spec_l11Has_l1 (B : Nat) (hB1 : 67108864 ≤ B) (hB2 : B ≤ 9223372036854775807) (p : Vl.Pattern) (v : Int) (i : Nat) (o : Lo Bool Unit) (hF : F.spec_l11Has_l1 p v i = some o) : ∀ (c : Code), navO [1, 0, 1, 0, 0] (bodyOf Try.f136) = some c → ∀ (Q : Exit → ASt → Prop), o.post (fun r => ∀ st, Post Try.prog Try.f136 (fun r' _ => r'.le (.lit (.bool r))) .ret st → Q .ret st) (fun s => Q (.exit 0) ⟨[(1, .lit (.int .i64 v)), (2, .ptr 0 0)], [.cells [.lit (.int .i64 p.op), .lit (.int .i64 p.ctor), .lit (.int .i64 p.n), .lit (.int .i64 p.m), .lit (.int .i64 p.var), .arr (List.map Vl.Pattern.c p.kids)]]⟩) → ALoopU Try.prog B 0 34 (hold c .mk) ⟨[(1, .lit (.int .i64 v)), (2, .ptr 0 0), (5, .lit (.int .i64 (i : Int)))], [.cells [.lit (.int .i64 p.op), .lit (.int .i64 p.ctor), .lit (.int .i64 p.n), .lit (.int .i64 p.m), .lit (.int .i64 p.var), .arr (List.map Vl.Pattern.c p.kids)]]⟩ (hold Q .mk) :=
 (CC.spec_l11Has B hB1 hB2 v).2 p i o hF

set_option maxRecDepth 100000 in
set_option maxHeartbeats 4000000 in
theorem CC.spec_l11Under (B : Nat) (hB1 : 67108864 ≤ B) (hB2 : B ≤ 9223372036854775807) (v : Int) : (∀ (p : Vl.Pattern) (r : Bool), F.spec_l11Under p v = some r → PureCall Try.prog B 77 [.agg [.lit (.int .i64 p.op), .lit (.int .i64 p.ctor), .lit (.int .i64 p.n), .lit (.int .i64 p.m), .lit (.int .i64 p.var), .arr (List.map Vl.Pattern.c p.kids)], .lit (.int .i64 v)] (.lit (.bool r))) ∧
  (∀ (p : Vl.Pattern) (i : Nat) (o : Lo Bool Unit), F.spec_l11Under_l1 p v i = some o → ∀ (c : Code), navO [1, 0, 1, 0, 0] (bodyOf Try.f77) = some c → ∀ (Q : Exit → ASt → Prop), o.post (fun r => ∀ st, Post Try.prog Try.f77 (fun r' _ => r'.le (.lit (.bool r))) .ret st → Q .ret st) (fun s => Q (.exit 0) ⟨[], []⟩) → ALoopU Try.prog B 0 34 (hold c .mk) ⟨[(1, .lit (.int .i64 v)), (2, .ptr 0 0), (5, .lit (.int .i64 (i : Int)))], [.cells [.lit (.int .i64 p.op), .lit (.int .i64 p.ctor), .lit (.int .i64 p.n), .lit (.int .i64 p.m), .lit (.int .i64 p.var), .arr (List.map Vl.Pattern.c p.kids)]]⟩ (hold Q .mk)) := by
 refine F.spec_l11Under.mutual_partial_correctness v
  (fun p r => PureCall Try.prog B 77 [.agg [.lit (.int .i64 p.op), .lit (.int .i64 p.ctor), .lit (.int .i64 p.n), .lit (.int .i64 p.m), .lit (.int .i64 p.var), .arr (List.map Vl.Pattern.c p.kids)], .lit (.int .i64 v)] (.lit (.bool r)))
  (fun p i o => ∀ (c : Code), navO [1, 0, 1, 0, 0] (bodyOf Try.f77) = some c → ∀ (Q : Exit → ASt → Prop), o.post (fun r => ∀ st, Post Try.prog Try.f77 (fun r' _ => r'.le (.lit (.bool r))) .ret st → Q .ret st) (fun s => Q (.exit 0) ⟨[], []⟩) → ALoopU Try.prog B 0 34 (hold c .mk) ⟨[(1, .lit (.int .i64 v)), (2, .ptr 0 0), (5, .lit (.int .i64 (i : Int)))], [.cells [.lit (.int .i64 p.op), .lit (.int .i64 p.ctor), .lit (.int .i64 p.n), .lit (.int .i64 p.m), .lit (.int .i64 p.var), .arr (List.map Vl.Pattern.c p.kids)]]⟩ (hold Q .mk))
  ?_ ?_
 ·intro _f_spec_l11Under_l1 ih_spec_l11Under_l1 p r hF
  refine PureCall.enterLe Try.func77 (by kernel_rfl) rfl Try.ntmps77 (by simp) (by simp) ?_
  repeat (first | refine chk.ga ?_ | simp -dsimp)
  have hF := ob hF; obtain ⟨o', ho23, hF⟩ := hF
  refine ALoop.goU ⟨[(1, .lit (.int .i64 v)), (2, .ptr 0 0), (5, .lit (.int .i64 (0 : Int)))], [.cells [.lit (.int .i64 p.op), .lit (.int .i64 p.ctor), .lit (.int .i64 p.n), .lit (.int .i64 p.m), .lit (.int .i64 p.var), .arr (List.map Vl.Pattern.c p.kids)]]⟩ (Gh.to3 (by simp) (by simp -dsimp)) ?_
  refine (ih_spec_l11Under_l1 p 0 o' ho23) _ rfl _ ?_
  rcases o' with r0 | sx
  ·dsimp only at hF
   cases hF
   intro st h
   simpa using h
  ·dsimp only at hF
   cases hF
   repeat (first | refine chk.ga ?_ | simp -dsimp)
   all_goals (try omega)
 ·intro _f_spec_l11Under _f_spec_l11Under_l1 ih_spec_l11Under ih_spec_l11Under_l1 p i o hF
  intro c hc Q hq
  obtain rfl : c = _ := navEq hc rfl
  refine ALoopU.know fun hk hs => ?_
  have d0 := hs 0 _ rfl
  simp -dsimp [Blk.bnd] at d0
  clear hk hs
  refine ALoopU.enter ?_
  repeat (first | refine chk.ga ?_ | simp -dsimp)
  refine abr.split (fun h1 => ?_) (fun h1 => ?_)
  ·have q2 : (i < p.kids.length) := auq h1
   have z3 : ((i : Int) < (p.kids.length : Int)) := auz
   rw [if_pos q2] at hF
   repeat (first | refine chk.ga ?_ | simp -dsimp [h1, z3])
   refine abr.split (fun h4 => ?_) (fun h4 => ?_)
   ·have q5 : (p.op = 5) := auq h4
    rw [if_pos q5] at hF
    have hF := ob hF; obtain ⟨x, e6, hF⟩ := hF
    have le6 := lt_of_get e6
    repeat (first | refine chk.ga ?_ | simp -dsimp [h1, z3, h4, ↓e6])
    have hF := ob hF; obtain ⟨v7, e8, hF⟩ := hF
    refine ((C.spec_l11Has B hB1 hB2 x v v7 e8)).goW (by first | simp [h1, z3, h4, ↓e6]; done | simp_all) (by simp) ?_
    repeat (first | refine chk.ga ?_ | simp -dsimp [h1, z3, h4, ↓e6])
    refine abr.split (fun h9 => ?_) (fun h9 => ?_)
    ·have q10 : ¬ (v7 = true) := auq h9
     rw [if_neg q10] at hF
     repeat (first | refine chk.ga ?_ | simp -dsimp [h1, z3, h4, ↓e6, h9, q10])
     have hF := ob hF; obtain ⟨v11, e12, hF⟩ := hF
     refine ((ih_spec_l11Under x v11 e12)).goW (by first | simp [h1, z3, h4, ↓e6, h9, q10]; done | simp_all) (by simp) ?_
     repeat (first | refine chk.ga ?_ | simp -dsimp [h1, z3, h4, ↓e6, h9, q10])
     refine abr.split (fun h13 => ?_) (fun h13 => ?_)
     ·have q14 : (v11 = true) := auq h13
      rw [if_pos q14] at hF
      cases hF
      repeat (first | refine chk.ga ?_ | simp -dsimp [h1, z3, h4, ↓e6, h9, q10, h13])
      refine Leave.go _ (Gh.refl _) (hq _ ?_)
      repeat (first | refine chk.ga ?_ | simp -dsimp [h1, z3, h4, ↓e6, h9, q10, h13])
     ·have q14 : ¬ (v11 = true) := auq h13
      rw [if_neg q14] at hF
      have w15 : IntKind.i64.wrap ((i : Int) + 1) = (i : Int) + 1 := wrap_in (by omega) (by omega)
      repeat (first | refine chk.ga ?_ | simp -dsimp [h1, z3, h4, ↓e6, h9, q10, h13, q14, w15])
      refine Again.go ⟨[(1, .lit (.int .i64 v)), (2, .ptr 0 0), (5, .lit (.int .i64 ((i + 1) : Int)))], [.cells [.lit (.int .i64 p.op), .lit (.int .i64 p.ctor), .lit (.int .i64 p.n), .lit (.int .i64 p.m), .lit (.int .i64 p.var), .arr (List.map Vl.Pattern.c p.kids)]]⟩ (Gh.to3 (by simp) (by first | simp -dsimp [h1, z3, h4, ↓e6, h9, q10, h13, q14, w15]; done | simp_all)) ?_
      exact (ih_spec_l11Under_l1 p (i + 1) o hF) _ rfl _ hq
    ·have q10 : (v7 = true) := auq h9
     rw [if_pos q10] at hF
     cases hF
     repeat (first | refine chk.ga ?_ | simp -dsimp [h1, z3, h4, ↓e6, h9, q10])
     refine Leave.go _ (Gh.refl _) (hq _ ?_)
     repeat (first | refine chk.ga ?_ | simp -dsimp [h1, z3, h4, ↓e6, h9, q10])
   ·have q5 : ¬ (p.op = 5) := auq h4
    rw [if_neg q5] at hF
    have hF := ob hF; obtain ⟨x16, e17, hF⟩ := hF
    have le17 := lt_of_get e17
    repeat (first | refine chk.ga ?_ | simp -dsimp [h1, z3, h4, q5, ↓e17])
    have hF := ob hF; obtain ⟨v18, e19, hF⟩ := hF
    refine ((ih_spec_l11Under x16 v18 e19)).goW (by first | simp [h1, z3, h4, q5, ↓e17]; done | simp_all) (by simp) ?_
    repeat (first | refine chk.ga ?_ | simp -dsimp [h1, z3, h4, q5, ↓e17])
    refine abr.split (fun h20 => ?_) (fun h20 => ?_)
    ·have q21 : (v18 = true) := auq h20
     rw [if_pos q21] at hF
     cases hF
     repeat (first | refine chk.ga ?_ | simp -dsimp [h1, z3, h4, q5, ↓e17, h20])
     refine Leave.go _ (Gh.refl _) (hq _ ?_)
     repeat (first | refine chk.ga ?_ | simp -dsimp [h1, z3, h4, q5, ↓e17, h20])
    ·have q21 : ¬ (v18 = true) := auq h20
     rw [if_neg q21] at hF
     have w22 : IntKind.i64.wrap ((i : Int) + 1) = (i : Int) + 1 := wrap_in (by omega) (by omega)
     repeat (first | refine chk.ga ?_ | simp -dsimp [h1, z3, h4, q5, ↓e17, h20, q21, w22])
     refine Again.go ⟨[(1, .lit (.int .i64 v)), (2, .ptr 0 0), (5, .lit (.int .i64 ((i + 1) : Int)))], [.cells [.lit (.int .i64 p.op), .lit (.int .i64 p.ctor), .lit (.int .i64 p.n), .lit (.int .i64 p.m), .lit (.int .i64 p.var), .arr (List.map Vl.Pattern.c p.kids)]]⟩ (Gh.to3 (by simp) (by first | simp -dsimp [h1, z3, h4, q5, ↓e17, h20, q21, w22]; done | simp_all)) ?_
     exact (ih_spec_l11Under_l1 p (i + 1) o hF) _ rfl _ hq
  ·have q2 : ¬ (i < p.kids.length) := auq h1
   have z3 : ¬ ((i : Int) < (p.kids.length : Int)) := auz
   rw [if_neg q2] at hF
   cases hF
   repeat (first | refine chk.ga ?_ | simp -dsimp [h1, q2, z3])
   refine Leave.go ⟨[], []⟩ (Gh.to3 (by simp) (by first | simp -dsimp [h1, q2, z3]; done | simp_all)) ?_
   exact hq

theorem C.spec_l11Under (B : Nat) (hB1 : 67108864 ≤ B) (hB2 : B ≤ 9223372036854775807) (p : Vl.Pattern) (v : Int) (r : Bool) (hF : F.spec_l11Under p v = some r) : PureCall Try.prog B 77 [.agg [.lit (.int .i64 p.op), .lit (.int .i64 p.ctor), .lit (.int .i64 p.n), .lit (.int .i64 p.m), .lit (.int .i64 p.var), .arr (List.map Vl.Pattern.c p.kids)], .lit (.int .i64 v)] (.lit (.bool r)) :=
 (CC.spec_l11Under B hB1 hB2 v).1 p r hF

theorem C.spec_l11Under_l1 (B : Nat) (hB1 : 67108864 ≤ B) (hB2 : B ≤ 9223372036854775807) (p : Vl.Pattern) (v : Int) (i : Nat) (o : Lo Bool Unit) (hF : F.spec_l11Under_l1 p v i = some o) : ∀ (c : Code), navO [1, 0, 1, 0, 0] (bodyOf Try.f77) = some c → ∀ (Q : Exit → ASt → Prop), o.post (fun r => ∀ st, Post Try.prog Try.f77 (fun r' _ => r'.le (.lit (.bool r))) .ret st → Q .ret st) (fun s => Q (.exit 0) ⟨[], []⟩) → ALoopU Try.prog B 0 34 (hold c .mk) ⟨[(1, .lit (.int .i64 v)), (2, .ptr 0 0), (5, .lit (.int .i64 (i : Int)))], [.cells [.lit (.int .i64 p.op), .lit (.int .i64 p.ctor), .lit (.int .i64 p.n), .lit (.int .i64 p.m), .lit (.int .i64 p.var), .arr (List.map Vl.Pattern.c p.kids)]]⟩ (hold Q .mk) :=
 (CC.spec_l11Under B hB1 hB2 v).2 p i o hF

set_option maxRecDepth 100000 in
set_option maxHeartbeats 4000000 in
theorem CC.spec_l3Copy (B : Nat) (hB1 : 67108864 ≤ B) (hB2 : B ≤ 9223372036854775807)  : (∀ (p : Vl.Pattern) (r : Vl.Pattern), F.spec_l3Copy p = some r → PureCall Try.prog B 137 [.agg [.lit (.int .i64 p.op), .lit (.int .i64 p.ctor), .lit (.int .i64 p.n), .lit (.int .i64 p.m), .lit (.int .i64 p.var), .arr (List.map Vl.Pattern.c p.kids)]] (.agg [.lit (.int .i64 r.op), .lit (.int .i64 r.ctor), .lit (.int .i64 r.n), .lit (.int .i64 r.m), .lit (.int .i64 r.var), .arr (List.map Vl.Pattern.c r.kids)])) ∧
  (∀ (p : Vl.Pattern) (out : List Vl.Pattern) (i : Nat) (o : List Vl.Pattern), F.spec_l3Copy_l1 p out i = some o → ∀ (c : Code), navO [1, 1, 1, 0, 1, 0, 0] (bodyOf Try.f137) = some c → ∀ (Q : Exit → ASt → Prop), Q (.exit 0) ⟨[(2, .ptr 1 0), (3, .ptr 2 0)], [.dead, .cells [.lit (.int .i64 0), .lit (.int .i64 0), .lit (.int .i64 0), .lit (.int .i64 0), .lit (.int .i64 0), .lit (.slice none 0 0)], .cells [.lit (.int .i64 p.op), .lit (.int .i64 p.ctor), .lit (.int .i64 p.n), .lit (.int .i64 p.m), .lit (.int .i64 p.var), .own 3 (List.length (α := Vl.Pattern) o)], .elems 6 (List.map Vl.Pattern.c o)]⟩ → ALoopU Try.prog B 0 26 (hold c .mk) ⟨[(1, .ptr 0 0), (2, .ptr 1 0), (3, .ptr 2 0), (4, .lit (.int .i64 (i : Int)))], [.cells [.lit (.int .i64 p.op), .lit (.int .i64 p.ctor), .lit (.int .i64 p.n), .lit (.int .i64 p.m), .lit (.int .i64 p.var), .arr (List.map Vl.Pattern.c p.kids)], .cells [.lit (.int .i64 0), .lit (.int .i64 0), .lit (.int .i64 0), .lit (.int .i64 0), .lit (.int .i64 0), .lit (.slice none 0 0)], .cells [.lit (.int .i64 p.op), .lit (.int .i64 p.ctor), .lit (.int .i64 p.n), .lit (.int .i64 p.m), .lit (.int .i64 p.var), .own 3 (List.length (α := Vl.Pattern) out)], .elems 6 (List.map Vl.Pattern.c out)]⟩ (hold Q .mk)) := by
 refine F.spec_l3Copy.mutual_partial_correctness 
  (fun p r => PureCall Try.prog B 137 [.agg [.lit (.int .i64 p.op), .lit (.int .i64 p.ctor), .lit (.int .i64 p.n), .lit (.int .i64 p.m), .lit (.int .i64 p.var), .arr (List.map Vl.Pattern.c p.kids)]] (.agg [.lit (.int .i64 r.op), .lit (.int .i64 r.ctor), .lit (.int .i64 r.n), .lit (.int .i64 r.m), .lit (.int .i64 r.var), .arr (List.map Vl.Pattern.c r.kids)]))
  (fun p out i o => ∀ (c : Code), navO [1, 1, 1, 0, 1, 0, 0] (bodyOf Try.f137) = some c → ∀ (Q : Exit → ASt → Prop), Q (.exit 0) ⟨[(2, .ptr 1 0), (3, .ptr 2 0)], [.dead, .cells [.lit (.int .i64 0), .lit (.int .i64 0), .lit (.int .i64 0), .lit (.int .i64 0), .lit (.int .i64 0), .lit (.slice none 0 0)], .cells [.lit (.int .i64 p.op), .lit (.int .i64 p.ctor), .lit (.int .i64 p.n), .lit (.int .i64 p.m), .lit (.int .i64 p.var), .own 3 (List.length (α := Vl.Pattern) o)], .elems 6 (List.map Vl.Pattern.c o)]⟩ → ALoopU Try.prog B 0 26 (hold c .mk) ⟨[(1, .ptr 0 0), (2, .ptr 1 0), (3, .ptr 2 0), (4, .lit (.int .i64 (i : Int)))], [.cells [.lit (.int .i64 p.op), .lit (.int .i64 p.ctor), .lit (.int .i64 p.n), .lit (.int .i64 p.m), .lit (.int .i64 p.var), .arr (List.map Vl.Pattern.c p.kids)], .cells [.lit (.int .i64 0), .lit (.int .i64 0), .lit (.int .i64 0), .lit (.int .i64 0), .lit (.int .i64 0), .lit (.slice none 0 0)], .cells [.lit (.int .i64 p.op), .lit (.int .i64 p.ctor), .lit (.int .i64 p.n), .lit (.int .i64 p.m), .lit (.int .i64 p.var), .own 3 (List.length (α := Vl.Pattern) out)], .elems 6 (List.map Vl.Pattern.c out)]⟩ (hold Q .mk))
  ?_ ?_
 ·intro _f_spec_l3Copy_l1 ih_spec_l3Copy_l1 p r hF
  refine PureCall.enterLe Try.func137 (by kernel_rfl) rfl Try.ntmps137 (by simp) (by simp) ?_
  repeat (first | refine chk.ga ?_ | simp -dsimp)
  have hF := ob hF; obtain ⟨o', ho8, hF⟩ := hF
  refine ALoop.goU ⟨[(1, .ptr 0 0), (2, .ptr 1 0), (3, .ptr 2 0), (4, .lit (.int .i64 (0 : Int)))], [.cells [.lit (.int .i64 p.op), .lit (.int .i64 p.ctor), .lit (.int .i64 p.n), .lit (.int .i64 p.m), .lit (.int .i64 p.var), .arr (List.map Vl.Pattern.c p.kids)], .cells [.lit (.int .i64 0), .lit (.int .i64 0), .lit (.int .i64 0), .lit (.int .i64 0), .lit (.int .i64 0), .lit (.slice none 0 0)], .cells [.lit (.int .i64 p.op), .lit (.int .i64 p.ctor), .lit (.int .i64 p.n), .lit (.int .i64 p.m), .lit (.int .i64 p.var), .own 3 (List.length (α := Vl.Pattern) [])], .elems 6 (List.map Vl.Pattern.c [])]⟩ ((Gh.nilCell 2 5 6 (by simp -dsimp; rfl) (by simp -dsimp)).trans (Gh.to3 (by simp) (by simp -dsimp))) ?_
  refine (ih_spec_l3Copy_l1 p [] 0 o' ho8) _ rfl _ ?_
  cases hF
  repeat (first | refine chk.ga ?_ | simp -dsimp)
  all_goals (try omega)
 ·intro _f_spec_l3Copy _f_spec_l3Copy_l1 ih_spec_l3Copy ih_spec_l3Copy_l1 p out i o hF
  intro c hc Q hq
  obtain rfl : c = _ := navEq hc rfl
  refine ALoopU.know fun hk hs => ?_
  have d0 := hs 0 _ rfl
  simp -dsimp [Blk.bnd] at d0
  have d3 := hs 3 _ rfl
  simp -dsimp [Blk.bnd] at d3
  clear hk hs
  refine ALoopU.enter ?_
  repeat (first | refine chk.ga ?_ | simp -dsimp)
  refine abr.split (fun h1 => ?_) (fun h1 => ?_)
  ·have q2 : (i < p.kids.length) := auq h1
   have z3 : ((i : Int) < (p.kids.length : Int)) := auz
   rw [if_pos q2] at hF
   repeat (first | refine chk.ga ?_ | simp -dsimp [h1, z3])
   refine ADraw.eff [] [(0, 1), (0, 1), (0, 0), (0, 0), (0, 0), (0, 0), (0, 0), (0, 3), (0, 3), (0, 3), (2, 2), (0, 3)] [0, 2, 1, 1, 1, 1, 1, 1, 1, 1, 1, 1] follows (by kernel_rfl) (by kernel_rfl) (by kernel_rfl) ?_
   have hF := ob hF; obtain ⟨x, e4, hF⟩ := hF
   have le4 := lt_of_get e4
   repeat (first | refine chk.ga ?_ | simp -dsimp [h1, z3, ↓e4])
   have hF := ob hF; obtain ⟨v, e5, hF⟩ := hF
   refine ((ih_spec_l3Copy x v e5)).pgoW (by first | simp [h1, z3, ↓e4]; done | simp_all) (by simp) ?_
   have hF := oc hF; obtain ⟨c6, hF⟩ := hF
   have w7 : IntKind.i64.wrap ((i : Int) + 1) = (i : Int) + 1 := wrap_in (by omega) (by omega)
   repeat (first | refine chk.ga ?_ | simp -dsimp [h1, z3, ↓e4, w7])
   refine Again.go ⟨[(1, .ptr 0 0), (2, .ptr 1 0), (3, .ptr 2 0), (4, .lit (.int .i64 ((i + 1) : Int)))], [.cells [.lit (.int .i64 p.op), .lit (.int .i64 p.ctor), .lit (.int .i64 p.n), .lit (.int .i64 p.m), .lit (.int .i64 p.var), .arr (List.map Vl.Pattern.c p.kids)], .cells [.lit (.int .i64 0), .lit (.int .i64 0), .lit (.int .i64 0), .lit (.int .i64 0), .lit (.int .i64 0), .lit (.slice none 0 0)], .cells [.lit (.int .i64 p.op), .lit (.int .i64 p.ctor), .lit (.int .i64 p.n), .lit (.int .i64 p.m), .lit (.int .i64 p.var), .own 3 (List.length (α := Vl.Pattern) (out ++ [v]))], .elems 6 (List.map Vl.Pattern.c (out ++ [v]))]⟩ (Gh.to3 (by simp) (by first | simp -dsimp [h1, z3, ↓e4, w7]; done | simp_all)) ?_
   exact (ih_spec_l3Copy_l1 p (out ++ [v]) (i + 1) o hF) _ rfl _ hq
  ·have q2 : ¬ (i < p.kids.length) := auq h1
   have z3 : ¬ ((i : Int) < (p.kids.length : Int)) := auz
   rw [if_neg q2] at hF
   cases hF
   repeat (first | refine chk.ga ?_ | simp -dsimp [h1, q2, z3])
   refine Leave.go ⟨[(2, .ptr 1 0), (3, .ptr 2 0)], [.dead, .cells [.lit (.int .i64 0), .lit (.int .i64 0), .lit (.int .i64 0), .lit (.int .i64 0), .lit (.int .i64 0), .lit (.slice none 0 0)], .cells [.lit (.int .i64 p.op), .lit (.int .i64 p.ctor), .lit (.int .i64 p.n), .lit (.int .i64 p.m), .lit (.int .i64 p.var), .own 3 (List.length (α := Vl.Pattern) out)], .elems 6 (List.map Vl.Pattern.c out)]⟩ (Gh.to3 (by simp) (by first | simp -dsimp [h1, q2, z3]; done | simp_all)) ?_
   exact hq

theorem C.spec_l3Copy (B : Nat) (hB1 : 67108864 ≤ B) (hB2 : B ≤ 9223372036854775807) (p : Vl.Pattern) (r : Vl.Pattern) (hF : F.spec_l3Copy p = some r) : PureCall Try.prog B 137 [.agg [.lit (.int .i64 p.op), .lit (.int .i64 p.ctor), .lit (.int .i64 p.n), .lit (.int .i64 p.m), .lit (.int .i64 p.var), .arr (List.map Vl.Pattern.c p.kids)]] (.agg [.lit (.int .i64 r.op), .lit (.int .i64 r.ctor), .lit (.int .i64 r.n), .lit (.int .i64 r.m), .lit (.int .i64 r.var), .arr (List.map Vl.Pattern.c r.kids)]) :=
 (CC.spec_l3Copy B hB1 hB2 ).1 p r hF

theorem C.spec_l3Copy_l1 (B : Nat) (hB1 : 67108864 ≤ B) (hB2 : B ≤ 9223372036854775807) (p : Vl.Pattern) (out : List Vl.Pattern) (i : Nat) (o : List Vl.Pattern) (hF : F.spec_l3Copy_l1 p out i = some o) : ∀ (c : Code), navO [1, 1, 1, 0, 1, 0, 0] (bodyOf Try.f137) = some c → ∀ (Q : Exit → ASt → Prop), Q (.exit 0) ⟨[(2, .ptr 1 0), (3, .ptr 2 0)], [.dead, .cells [.lit (.int .i64 0), .lit (.int .i64 0), .lit (.int .i64 0), .lit (.int .i64 0), .lit (.int .i64 0), .lit (.slice none 0 0)], .cells [.lit (.int .i64 p.op), .lit (.int .i64 p.ctor), .lit (.int .i64 p.n), .lit (.int .i64 p.m), .lit (.int .i64 p.var), .own 3 (List.length (α := Vl.Pattern) o)], .elems 6 (List.map Vl.Pattern.c o)]⟩ → ALoopU Try.prog B 0 26 (hold c .mk) ⟨[(1, .ptr 0 0), (2, .ptr 1 0), (3, .ptr 2 0), (4, .lit (.int .i64 (i : Int)))], [.cells [.lit (.int .i64 p.op), .lit (.int .i64 p.ctor), .lit (.int .i64 p.n), .lit (.int .i64 p.m), .lit (.int .i64 p.var), .arr (List.map Vl.Pattern.c p.kids)], .cells [.lit (.int .i64 0), .lit (.int .i64 0), .lit (.int .i64 0), .lit (.int .i64 0), .lit (.int .i64 0), .lit (.slice none 0 0)], .cells [.lit (.int .i64 p.op), .lit (.int .i64 p.ctor), .lit (.int .i64 p.n), .lit (.int .i64 p.m), .lit (.int .i64 p.var), .own 3 (List.length (α := Vl.Pattern) out)], .elems 6 (List.map Vl.Pattern.c out)]⟩ (hold Q .mk) :=
 (CC.spec_l3Copy B hB1 hB2 ).2 p out i o hF

set_option maxRecDepth 100000 in
set_option maxHeartbeats 4000000 in
theorem C.spec_l11Range (B : Nat) (hB1 : 67108864 ≤ B) (hB2 : B ≤ 9223372036854775807) (g : Vl.Guard) (r : Int × Int) (hF : F.spec_l11Range g = some r) : PureCall Try.prog B 138 [.agg [.lit (.int .i64 g.op), .lit (.int .i64 g.var), .lit (.int .i64 g.n)]] (.tup [.lit (.int .i64 r.1), .lit (.int .i64 r.2)]) := by
 unfold F.spec_l11Range at hF
 refine PureCall.enterLe Try.func138 (by kernel_rfl) rfl Try.ntmps138 (by simp) (by simp) ?_
 repeat (first | refine chk.ga ?_ | simp -dsimp)
 refine abr.split (fun h1 => ?_) (fun h1 => ?_)
 ·have q2 : (g.op = 1) := auq h1
  rw [if_pos q2] at hF
  repeat (first | refine chk.ga ?_ | simp -dsimp [h1])
  refine ADraw.simple follows (by kernel_rfl) (by kernel_rfl) ?_
  cases hF
  repeat (first | refine chk.ga ?_ | simp -dsimp [h1])
  all_goals (try omega)
 ·have q2 : ¬ (g.op = 1) := auq h1
  rw [if_neg q2] at hF
  repeat (first | refine chk.ga ?_ | simp -dsimp [h1, q2])
  refine ADraw.simple follows (by kernel_rfl) (by kernel_rfl) ?_
  cases hF
  repeat (first | refine chk.ga ?_ | simp -dsimp [h1, q2])
  all_goals (try omega)

set_option maxRecDepth 100000 in
set_option maxHeartbeats 4000000 in
theorem CC.spec_l5Meet (B : Nat) (hB1 : 67108864 ≤ B) (hB2 : B ≤ 9223372036854775807)  : (∀ (a : Vl.Pattern) (b : Vl.Pattern) (r : Vl.Pattern × Bool), F.spec_l5Meet a b = some r → PureCall Try.prog B 210 [.agg [.lit (.int .i64 a.op), .lit (.int .i64 a.ctor), .lit (.int .i64 a.n), .lit (.int .i64 a.m), .lit (.int .i64 a.var), .arr (List.map Vl.Pattern.c a.kids)], .agg [.lit (.int .i64 b.op), .lit (.int .i64 b.ctor), .lit (.int .i64 b.n), .lit (.int .i64 b.m), .lit (.int .i64 b.var), .arr (List.map Vl.Pattern.c b.kids)]] (.tup [.agg [.lit (.int .i64 r.1.op), .lit (.int .i64 r.1.ctor), .lit (.int .i64 r.1.n), .lit (.int .i64 r.1.m), .lit (.int .i64 r.1.var), .arr (List.map Vl.Pattern.c r.1.kids)], .lit (.bool r.2)])) ∧
  (∀ (a : Vl.Pattern) (b : Vl.Pattern) (out : List Vl.Pattern) (i : Nat) (o : Lo (Vl.Pattern × Bool) (List Vl.Pattern)), F.spec_l5Meet_l1 a b out i = some o → ∀ (c : Code), navO [1, 1, 1, 0, 1, 0, 0] (bodyOf Try.f210) = some c → ∀ (Q : Exit → ASt → Prop), o.post (fun r => ∀ st, Post Try.prog Try.f210 (fun r' _ => r'.le (.tup [.agg [.lit (.int .i64 r.1.op), .lit (.int .i64 r.1.ctor), .lit (.int .i64 r.1.n), .lit (.int .i64 r.1.m), .lit (.int .i64 r.1.var), .arr (List.map Vl.Pattern.c r.1.kids)], .lit (.bool r.2)])) .ret st → Q .ret st) (fun s => Q (.exit 1) ⟨[(4, .ptr 2 0), (8, .ptr 3 0)], [.dead, .dead, .cells [.lit (.int .i64 0), .lit (.int .i64 0), .lit (.int .i64 0), .lit (.int .i64 0), .lit (.int .i64 0), .lit (.slice none 0 0)], .cells [.lit (.int .i64 4), .lit (.int .i64 a.ctor), .lit (.int .i64 0), .lit (.int .i64 0), .lit (.int .i64 0), .own 4 (List.length (α := Vl.Pattern) s)], .elems 6 (List.map Vl.Pattern.c s)]⟩) → ALoopU Try.prog B 0 89 (hold c .mk) ⟨[(2, .ptr 0 0), (3, .ptr 1 0), (4, .ptr 2 0), (8, .ptr 3 0), (9, .lit (.int .i64 (i : Int)))], [.cells [.lit (.int .i64 a.op), .lit (.int .i64 a.ctor), .lit (.int .i64 a.n), .lit (.int .i64 a.m), .lit (.int .i64 a.var), .arr (List.map Vl.Pattern.c a.kids)], .cells [.lit (.int .i64 b.op), .lit (.int .i64 b.ctor), .lit (.int .i64 b.n), .lit (.int .i64 b.m), .lit (.int .i64 b.var), .arr (List.map Vl.Pattern.c b.kids)], .cells [.lit (.int .i64 0), .lit (.int .i64 0), .lit (.int .i64 0), .lit (.int .i64 0), .lit (.int .i64 0), .lit (.slice none 0 0)], .cells [.lit (.int .i64 4), .lit (.int .i64 a.ctor), .lit (.int .i64 0), .lit (.int .i64 0), .lit (.int .i64 0), .own 4 (List.length (α := Vl.Pattern) out)], .elems 6 (List.map Vl.Pattern.c out)]⟩ (hold Q .mk)) := by
 refine F.spec_l5Meet.mutual_partial_correctness 
  (fun a b r => PureCall Try.prog B 210 [.agg [.lit (.int .i64 a.op), .lit (.int .i64 a.ctor), .lit (.int .i64 a.n), .lit (.int .i64 a.m), .lit (.int .i64 a.var), .arr (List.map Vl.Pattern.c a.kids)], .agg [.lit (.int .i64 b.op), .lit (.int .i64 b.ctor), .lit (.int .i64 b.n), .lit (.int .i64 b.m), .lit (.int .i64 b.var), .arr (List.map Vl.Pattern.c b.kids)]] (.tup [.agg [.lit (.int .i64 r.1.op), .lit (.int .i64 r.1.ctor), .lit (.int .i64 r.1.n), .lit (.int .i64 r.1.m), .lit (.int .i64 r.1.var), .arr (List.map Vl.Pattern.c r.1.kids)], .lit (.bool r.2)]))
  (fun a b out i o => ∀ (c : Code), navO [1, 1, 1, 0, 1, 0, 0] (bodyOf Try.f210) = some c → ∀ (Q : Exit → ASt → Prop), o.post (fun r => ∀ st, Post Try.prog Try.f210 (fun r' _ => r'.le (.tup [.agg [.lit (.int .i64 r.1.op), .lit (.int .i64 r.1.ctor), .lit (.int .i64 r.1.n), .lit (.int .i64 r.1.m), .lit (.int .i64 r.1.var), .arr (List.map Vl.Pattern.c r.1.kids)], .lit (.bool r.2)])) .ret st → Q .ret st) (fun s => Q (.exit 1) ⟨[(4, .ptr 2 0), (8, .ptr 3 0)], [.dead, .dead, .cells [.lit (.int .i64 0), .lit (.int .i64 0), .lit (.int .i64 0), .lit (.int .i64 0), .lit (.int .i64 0), .lit (.slice none 0 0)], .cells [.lit (.int .i64 4), .lit (.int .i64 a.ctor), .lit (.int .i64 0), .lit (.int .i64 0), .lit (.int .i64 0), .own 4 (List.length (α := Vl.Pattern) s)], .elems 6 (List.map Vl.Pattern.c s)]⟩) → ALoopU Try.prog B 0 89 (hold c .mk) ⟨[(2, .ptr 0 0), (3, .ptr 1 0), (4, .ptr 2 0), (8, .ptr 3 0), (9, .lit (.int .i64 (i : Int)))], [.cells [.lit (.int .i64 a.op), .lit (.int .i64 a.ctor), .lit (.int .i64 a.n), .lit (.int .i64 a.m), .lit (.int .i64 a.var), .arr (List.map Vl.Pattern.c a.kids)], .cells [.lit (.int .i64 b.op), .lit (.int .i64 b.ctor), .lit (.int .i64 b.n), .lit (.int .i64 b.m), .lit (.int .i64 b.var), .arr (List.map Vl.Pattern.c b.kids)], .cells [.lit (.int .i64 0), .lit (.int .i64 0), .lit (.int .i64 0), .lit (.int .i64 0), .lit (.int .i64 0), .lit (.slice none 0 0)], .cells [.lit (.int .i64 4), .lit (.int .i64 a.ctor), .lit (.int .i64 0), .lit (.int .i64 0), .lit (.int .i64 0), .own 4 (List.length (α := Vl.Pattern) out)], .elems 6 (List.map Vl.Pattern.c out)]⟩ (hold Q .mk))
  ?_ ?_
 ·intro _f_spec_l5Meet_l1 ih_spec_l5Meet_l1 a b r hF
  refine PureCall.enterLe Try.func210 (by kernel_rfl) rfl Try.ntmps210 (by simp) (by simp) ?_
  repeat (first | refine chk.ga ?_ | simp -dsimp)
  refine abr.split (fun h1 => ?_) (fun h1 => ?_)
  ·have q2 : (a.op = 1) := auq h1
   rw [if_pos q2] at hF
   cases hF
   repeat (first | refine chk.ga ?_ | simp -dsimp [h1])
   all_goals (try omega)
  ·have q2 : ¬ (a.op = 1) := auq h1
   rw [if_neg q2] at hF
   repeat (first | refine chk.ga ?_ | simp -dsimp [h1, q2])
   refine abr.split (fun h3 => ?_) (fun h3 => ?_)
   ·have q4 : (b.op = 1) := auq h3
    rw [if_pos q4] at hF
    cases hF
    repeat (first | refine chk.ga ?_ | simp -dsimp [h1, q2, h3])
    all_goals (try omega)
   ·have q4 : ¬ (b.op = 1) := auq h3
    rw [if_neg q4] at hF
    repeat (first | refine chk.ga ?_ | simp -dsimp [h1, q2, h3, q4])
    refine abr.split (fun h5 => ?_) (fun h5 => ?_)
    ·have q6 : (a.op = 3) := auq h5
     rw [if_pos q6] at hF
     repeat (first | refine chk.ga ?_ | simp -dsimp [h1, q2, h3, q4, h5])
     refine abr.split (fun h7 => ?_) (fun h7 => ?_)
     ·have q8 : (a.n < b.n) := auq h7
      rw [if_pos q8] at hF
      repeat (first | refine chk.ga ?_ | simp -dsimp [h1, q2, h3, q4, h5, h7])
      refine abr.split (fun h9 => ?_) (fun h9 => ?_)
      ·have q10 : (b.m < a.m) := auq h9
       rw [if_pos q10] at hF
       cases hF
       repeat (first | refine chk.ga ?_ | simp -dsimp [h1, q2, h3, q4, h5, h7, h9])
       all_goals (try omega)
      ·have q10 : ¬ (b.m < a.m) := auq h9
       rw [if_neg q10] at hF
       cases hF
       repeat (first | refine chk.ga ?_ | simp -dsimp [h1, q2, h3, q4, h5, h7, h9, q10])
       all_goals (try omega)
     ·have q8 : ¬ (a.n < b.n) := auq h7
      rw [if_neg q8] at hF
      repeat (first | refine chk.ga ?_ | simp -dsimp [h1, q2, h3, q4, h5, h7, q8])
      refine abr.split (fun h11 => ?_) (fun h11 => ?_)
      ·have q12 : (b.m < a.m) := auq h11
       rw [if_pos q12] at hF
       cases hF
       repeat (first | refine chk.ga ?_ | simp -dsimp [h1, q2, h3, q4, h5, h7, q8, h11])
       all_goals (try omega)
      ·have q12 : ¬ (b.m < a.m) := auq h11
       rw [if_neg q12] at hF
       cases hF
       repeat (first | refine chk.ga ?_ | simp -dsimp [h1, q2, h3, q4, h5, h7, q8, h11, q12])
       all_goals (try omega)
    ·have q6 : ¬ (a.op = 3) := auq h5
     rw [if_neg q6] at hF
     repeat (first | refine chk.ga ?_ | simp -dsimp [h1, q2, h3, q4, h5, q6])
     refine abr.split (fun h13 => ?_) (fun h13 => ?_)
     ·have q14 : ¬ (a.ctor = b.ctor) := auq h13
      rw [if_neg q14] at hF
      cases hF
      repeat (first | refine chk.ga ?_ | simp -dsimp [h1, q2, h3, q4, h5, q6, h13, q14])
      all_goals (try omega)
     ·have q14 : (a.ctor = b.ctor) := auq h13
      rw [if_pos q14] at hF
      repeat (first | refine chk.ga ?_ | simp -dsimp [h1, q2, h3, q4, h5, q6, h13, q14])
      have hF := ob hF; obtain ⟨o', ho26, hF⟩ := hF
      refine ALoop.goU ⟨[(2, .ptr 0 0), (3, .ptr 1 0), (4, .ptr 2 0), (8, .ptr 3 0), (9, .lit (.int .i64 (0 : Int)))], [.cells [.lit (.int .i64 a.op), .lit (.int .i64 a.ctor), .lit (.int .i64 a.n), .lit (.int .i64 a.m), .lit (.int .i64 a.var), .arr (List.map Vl.Pattern.c a.kids)], .cells [.lit (.int .i64 b.op), .lit (.int .i64 b.ctor), .lit (.int .i64 b.n), .lit (.int .i64 b.m), .lit (.int .i64 b.var), .arr (List.map Vl.Pattern.c b.kids)], .cells [.lit (.int .i64 0), .lit (.int .i64 0), .lit (.int .i64 0), .lit (.int .i64 0), .lit (.int .i64 0), .lit (.slice none 0 0)], .cells [.lit (.int .i64 4), .lit (.int .i64 a.ctor), .lit (.int .i64 0), .lit (.int .i64 0), .lit (.int .i64 0), .own 4 (List.length (α := Vl.Pattern) [])], .elems 6 (List.map Vl.Pattern.c [])]⟩ ((Gh.nilCell 3 5 6 (by simp -dsimp; rfl) (by simp -dsimp)).trans (Gh.to3 (by simp) (by first | simp -dsimp [h1, q2, h3, q4, h5, q6, h13, q14]; done | simp_all))) ?_
      refine (ih_spec_l5Meet_l1 a b [] 0 o' ho26) _ rfl _ ?_
      rcases o' with r0 | sx
      ·dsimp only at hF
       cases hF
       intro st h
       simpa using h
      ·dsimp only at hF
       cases hF
       repeat (first | refine chk.ga ?_ | simp -dsimp)
       all_goals (try omega)
 ·intro _f_spec_l5Meet _f_spec_l5Meet_l1 ih_spec_l5Meet ih_spec_l5Meet_l1 a b out i o hF
  intro c hc Q hq
  obtain rfl : c = _ := navEq hc rfl
  refine ALoopU.know fun hk hs => ?_
  have d0 := hs 0 _ rfl
  simp -dsimp [Blk.bnd] at d0
  have d1 := hs 1 _ rfl
  simp -dsimp [Blk.bnd] at d1
  have d4 := hs 4 _ rfl
  simp -dsimp [Blk.bnd] at d4
  clear hk hs
  refine ALoopU.enter ?_
  repeat (first | refine chk.ga ?_ | simp -dsimp)
  refine abr.split (fun h15 => ?_) (fun h15 => ?_)
  ·have q16 : (i < a.kids.length) := auq h15
   have z17 : ((i : Int) < (a.kids.length : Int)) := auz
   rw [if_pos q16] at hF
   repeat (first | refine chk.ga ?_ | simp -dsimp [h15, z17])
   refine ADraw.eff [] [(0, 1), (0, 1), (0, 1), (0, 1), (0, 1), (0, 1), (0, 1), (0, 1), (0, 1), (0, 1), (0, 2), (0, 1), (0, 1), (0, 2), (0, 2), (0, 2), (2, 2)] [0, 2, 1, 0, 0, 0, 2, 1, 0, 0, 1, 1, 0, 0, 1, 1, 1] follows (by kernel_rfl) (by kernel_rfl) (by kernel_rfl) ?_
   have hF := ob hF; obtain ⟨x, e18, hF⟩ := hF
   have le18 := lt_of_get e18
   have hF := ob hF; obtain ⟨x19, e20, hF⟩ := hF
   have le20 := lt_of_get e20
   repeat (first | refine chk.ga ?_ | simp -dsimp [h15, z17, ↓e18, ↓e20])
   have hF := ob hF; obtain ⟨v, e21, hF⟩ := hF
   refine ((ih_spec_l5Meet x x19 v e21)).pgoW (by first | simp [h15, z17, ↓e18, ↓e20]; done | simp_all) (by simp) ?_
   repeat (first | refine chk.ga ?_ | simp -dsimp [h15, z17, ↓e18, ↓e20])
   refine abr.split (fun h22 => ?_) (fun h22 => ?_)
   ·have q23 : ¬ (v.2 = true) := auq h22
    rw [if_neg q23] at hF
    cases hF
    repeat (first | refine chk.ga ?_ | simp -dsimp [h15, z17, ↓e18, ↓e20, h22, q23])
    refine Leave.go _ (Gh.refl _) (hq _ ?_)
    repeat (first | refine chk.ga ?_ | simp -dsimp [h15, z17, ↓e18, ↓e20, h22, q23])
   ·have q23 : (v.2 = true) := auq h22
    rw [if_pos q23] at hF
    have hF := oc hF; obtain ⟨c24, hF⟩ := hF
    have w25 : IntKind.i64.wrap ((i : Int) + 1) = (i : Int) + 1 := wrap_in (by omega) (by omega)
    repeat (first | refine chk.ga ?_ | simp -dsimp [h15, z17, ↓e18, ↓e20, h22, q23, w25])
    refine Again.go ⟨[(2, .ptr 0 0), (3, .ptr 1 0), (4, .ptr 2 0), (8, .ptr 3 0), (9, .lit (.int .i64 ((i + 1) : Int)))], [.cells [.lit (.int .i64 a.op), .lit (.int .i64 a.ctor), .lit (.int .i64 a.n), .lit (.int .i64 a.m), .lit (.int .i64 a.var), .arr (List.map Vl.Pattern.c a.kids)], .cells [.lit (.int .i64 b.op), .lit (.int .i64 b.ctor), .lit (.int .i64 b.n), .lit (.int .i64 b.m), .lit (.int .i64 b.var), .arr (List.map Vl.Pattern.c b.kids)], .cells [.lit (.int .i64 0), .lit (.int .i64 0), .lit (.int .i64 0), .lit (.int .i64 0), .lit (.int .i64 0), .lit (.slice none 0 0)], .cells [.lit (.int .i64 4), .lit (.int .i64 a.ctor), .lit (.int .i64 0), .lit (.int .i64 0), .lit (.int .i64 0), .own 4 (List.length (α := Vl.Pattern) (out ++ [v.1]))], .elems 6 (List.map Vl.Pattern.c (out ++ [v.1]))]⟩ (Gh.to3 (by simp) (by first | simp -dsimp [h15, z17, ↓e18, ↓e20, h22, q23, w25]; done | simp_all)) ?_
    exact (ih_spec_l5Meet_l1 a b (out ++ [v.1]) (i + 1) o hF) _ rfl _ hq
  ·have q16 : ¬ (i < a.kids.length) := auq h15
   have z17 : ¬ ((i : Int) < (a.kids.length : Int)) := auz
   rw [if_neg q16] at hF
   cases hF
   repeat (first | refine chk.ga ?_ | simp -dsimp [h15, q16, z17])
   refine Leave.go ⟨[(4, .ptr 2 0), (8, .ptr 3 0)], [.dead, .dead, .cells [.lit (.int .i64 0), .lit (.int .i64 0), .lit (.int .i64 0), .lit (.int .i64 0), .lit (.int .i64 0), .lit (.slice none 0 0)], .cells [.lit (.int .i64 4), .lit (.int .i64 a.ctor), .lit (.int .i64 0), .lit (.int .i64 0), .lit (.int .i64 0), .own 4 (List.length (α := Vl.Pattern) out)], .elems 6 (List.map Vl.Pattern.c out)]⟩ (Gh.to3 (by simp) (by first | simp -dsimp [h15, q16, z17]; done | simp_all)) ?_
   exact hq

theorem C.spec_l5Meet (B : Nat) (hB1 : 67108864 ≤ B) (hB2 : B ≤ 9223372036854775807) (a : Vl.Pattern) (b : Vl.Pattern) (r : Vl.Pattern × Bool) (hF : F.spec_l5Meet a b = some r) : PureCall Try.prog B 210 [.agg [.lit (.int .i64 a.op), .lit (.int .i64 a.ctor), .lit (.int .i64 a.n), .lit (.int .i64 a.m), .lit (.int .i64 a.var), .arr (List.map Vl.Pattern.c a.kids)], .agg [.lit (.int .i64 b.op), .lit (.int .i64 b.ctor), .lit (.int .i64 b.n), .lit (.int .i64 b.m), .lit (.int .i64 b.var), .arr (List.map Vl.Pattern.c b.kids)]] (.tup [.agg [.lit (.int .i64 r.1.op), .lit (.int .i64 r.1.ctor), .lit (.int .i64 r.1.n), .lit (.int .i64 r.1.m), .lit (.int .i64 r.1.var), .arr (List.map Vl.Pattern.c r.1.kids)], .lit (.bool r.2)]) :=
 (CC.spec_l5Meet B hB1 hB2 ).1 a b r hF

theorem C.spec_l5Meet_l1 (B : Nat) (hB1 : 67108864 ≤ B) (hB2 : B ≤ 9223372036854775807) (a : Vl.Pattern) (b : Vl.Pattern) (out : List Vl.Pattern) (i : Nat) (o : Lo (Vl.Pattern × Bool) (List Vl.Pattern)) (hF : F.spec_l5Meet_l1 a b out i = some o) : ∀ (c : Code), navO [1, 1, 1, 0, 1, 0, 0] (bodyOf Try.f210) = some c → ∀ (Q : Exit → ASt → Prop), o.post (fun r => ∀ st, Post Try.prog Try.f210 (fun r' _ => r'.le (.tup [.agg [.lit (.int .i64 r.1.op), .lit (.int .i64 r.1.ctor), .lit (.int .i64 r.1.n), .lit (.int .i64 r.1.m), .lit (.int .i64 r.1.var), .arr (List.map Vl.Pattern.c r.1.kids)], .lit (.bool r.2)])) .ret st → Q .ret st) (fun s => Q (.exit 1) ⟨[(4, .ptr 2 0), (8, .ptr 3 0)], [.dead, .dead, .cells [.lit (.int .i64 0), .lit (.int .i64 0), .lit (.int .i64 0), .lit (.int .i64 0), .lit (.int .i64 0), .lit (.slice none 0 0)], .cells [.lit (.int .i64 4), .lit (.int .i64 a.ctor), .lit (.int .i64 0), .lit (.int .i64 0), .lit (.int .i64 0), .own 4 (List.length (α := Vl.Pattern) s)], .elems 6 (List.map Vl.Pattern.c s)]⟩) → ALoopU Try.prog B 0 89 (hold c .mk) ⟨[(2, .ptr 0 0), (3, .ptr 1 0), (4, .ptr 2 0), (8, .ptr 3 0), (9, .lit (.int .i64 (i : Int)))], [.cells [.lit (.int .i64 a.op), .lit (.int .i64 a.ctor), .lit (.int .i64 a.n), .lit (.int .i64 a.m), .lit (.int .i64 a.var), .arr (List.map Vl.Pattern.c a.kids)], .cells [.lit (.int .i64 b.op), .lit (.int .i64 b.ctor), .lit (.int .i64 b.n), .lit (.int .i64 b.m), .lit (.int .i64 b.var), .arr (List.map Vl.Pattern.c b.kids)], .cells [.lit (.int .i64 0), .lit (.int .i64 0), .lit (.int .i64 0), .lit (.int .i64 0), .lit (.int .i64 0), .lit (.slice none 0 0)], .cells [.lit (.int .i64 4), .lit (.int .i64 a.ctor), .lit (.int .i64 0), .lit (.int .i64 0), .lit (.int .i64 0), .own 4 (List.length (α := Vl.Pattern) out)], .elems 6 (List.map Vl.Pattern.c out)]⟩ (hold Q .mk) :=
 (CC.spec_l5Meet B hB1 hB2 ).2 a b out i o hF

set_option maxRecDepth 100000 in
set_option maxHeartbeats 4000000 in
theorem CC.spec_l11Narrow (B : Nat) (hB1 : 67108864 ≤ B) (hB2 : B ≤ 9223372036854775807) (n : Int) (m : Int) : (∀ (p : Vl.Pattern) (r : Vl.Pattern × Bool), F.spec_l11Narrow p n m = some r → PureCall Try.prog B 178 [.agg [.lit (.int .i64 p.op), .lit (.int .i64 p.ctor), .lit (.int .i64 p.n), .lit (.int .i64 p.m), .lit (.int .i64 p.var), .arr (List.map Vl.Pattern.c p.kids)], .lit (.int .i64 n), .lit (.int .i64 m)] (.tup [.agg [.lit (.int .i64 r.1.op), .lit (.int .i64 r.1.ctor), .lit (.int .i64 r.1.n), .lit (.int .i64 r.1.m), .lit (.int .i64 r.1.var), .arr (List.map Vl.Pattern.c r.1.kids)], .lit (.bool r.2)])) := by
 refine F.spec_l11Narrow.partial_correctness n m
  (fun p r => PureCall Try.prog B 178 [.agg [.lit (.int .i64 p.op), .lit (.int .i64 p.ctor), .lit (.int .i64 p.n), .lit (.int .i64 p.m), .lit (.int .i64 p.var), .arr (List.map Vl.Pattern.c p.kids)], .lit (.int .i64 n), .lit (.int .i64 m)] (.tup [.agg [.lit (.int .i64 r.1.op), .lit (.int .i64 r.1.ctor), .lit (.int .i64 r.1.n), .lit (.int .i64 r.1.m), .lit (.int .i64 r.1.var), .arr (List.map Vl.Pattern.c r.1.kids)], .lit (.bool r.2)]))
  ?_
 ·intro _f_spec_l11Narrow ih_spec_l11Narrow p r hF
  refine PureCall.enterLe Try.func178 (by kernel_rfl) rfl Try.ntmps178 (by simp) (by simp) ?_
  repeat (first | refine chk.ga ?_ | simp -dsimp)
  refine abr.split (fun h1 => ?_) (fun h1 => ?_)
  ·have q2 : (p.op = 1) := auq h1
   rw [if_pos q2] at hF
   cases hF
   repeat (first | refine chk.ga ?_ | simp -dsimp [h1])
   all_goals (try omega)
  ·have q2 : ¬ (p.op = 1) := auq h1
   rw [if_neg q2] at hF
   repeat (first | refine chk.ga ?_ | simp -dsimp [h1, q2])
   refine abr.split (fun h3 => ?_) (fun h3 => ?_)
   ·have q4 : (p.op = 2) := auq h3
    rw [if_pos q4] at hF
    cases hF
    repeat (first | refine chk.ga ?_ | simp -dsimp [h1, q2, h3])
    all_goals (try omega)
   ·have q4 : ¬ (p.op = 2) := auq h3
    rw [if_neg q4] at hF
    repeat (first | refine chk.ga ?_ | simp -dsimp [h1, q2, h3, q4])
    refine abr.split (fun h5 => ?_) (fun h5 => ?_)
    ·have q6 : (p.op = 6) := auq h5
     rw [if_pos q6] at hF
     have hF := ob hF; obtain ⟨x, e7, hF⟩ := hF
     have le7 := lt_of_get e7
     repeat (first | refine chk.ga ?_ | simp -dsimp [h1, q2, h3, q4, h5, ↓e7])
     have hF := ob hF; obtain ⟨v, e8, hF⟩ := hF
     refine ((ih_spec_l11Narrow x v e8)).goW (by first | simp [h1, q2, h3, q4, h5, ↓e7]; done | simp_all) (by simp) ?_
     cases hF
     repeat (first | refine chk.ga ?_ | simp -dsimp [h1, q2, h3, q4, h5, ↓e7])
     all_goals (try omega)
    ·have q6 : ¬ (p.op = 6) := auq h5
     rw [if_neg q6] at hF
     repeat (first | refine chk.ga ?_ | simp -dsimp [h1, q2, h3, q4, h5, q6])
     refine abr.split (fun h9 => ?_) (fun h9 => ?_)
     ·have q10 : (p.op = 5) := auq h9
      rw [if_pos q10] at hF
      have hF := ob hF; obtain ⟨x11, e12, hF⟩ := hF
      have le12 := lt_of_get e12
      repeat (first | refine chk.ga ?_ | simp -dsimp [h1, q2, h3, q4, h5, q6, h9, ↓e12])
      have hF := ob hF; obtain ⟨v13, e14, hF⟩ := hF
      refine ((ih_spec_l11Narrow x11 v13 e14)).goW (by first | simp [h1, q2, h3, q4, h5, q6, h9, ↓e12]; done | simp_all) (by simp) ?_
      have hF := ob hF; obtain ⟨x15, e16, hF⟩ := hF
      have le16 := lt_of_get e16
      repeat (first | refine chk.ga ?_ | simp -dsimp [h1, q2, h3, q4, h5, q6, h9, ↓e12, ↓e16])
      have hF := ob hF; obtain ⟨v17, e18, hF⟩ := hF
      refine ((ih_spec_l11Narrow x15 v17 e18)).goW (by first | simp [h1, q2, h3, q4, h5, q6, h9, ↓e12, ↓e16]; done | simp_all) (by simp) ?_
      repeat (first | refine chk.ga ?_ | simp -dsimp [h1, q2, h3, q4, h5, q6, h9, ↓e12, ↓e16])
      refine abr.split (fun h19 => ?_) (fun h19 => ?_)
      ·have q20 : (v13.2 = true) := auq h19
       rw [if_pos q20] at hF
       repeat (first | refine chk.ga ?_ | simp -dsimp [h1, q2, h3, q4, h5, q6, h9, ↓e12, ↓e16, h19])
       refine abr.split (fun h21 => ?_) (fun h21 => ?_)
       ·have q22 : (v17.2 = true) := auq h21
        rw [if_pos q22] at hF
        cases hF
        repeat (first | refine chk.ga ?_ | simp -dsimp [h1, q2, h3, q4, h5, q6, h9, ↓e12, ↓e16, h19, h21])
        all_goals (try omega)
       ·have q22 : ¬ (v17.2 = true) := auq h21
        rw [if_neg q22] at hF
        cases hF
        repeat (first | refine chk.ga ?_ | simp -dsimp [h1, q2, h3, q4, h5, q6, h9, ↓e12, ↓e16, h19, h21, q22])
        all_goals (try omega)
      ·have q20 : ¬ (v13.2 = true) := auq h19
       rw [if_neg q20] at hF
       cases hF
       repeat (first | refine chk.ga ?_ | simp -dsimp [h1, q2, h3, q4, h5, q6, h9, ↓e12, ↓e16, h19, q20])
       all_goals (try omega)
     ·have q10 : ¬ (p.op = 5) := auq h9
      rw [if_neg q10] at hF
      repeat (first | refine chk.ga ?_ | simp -dsimp [h1, q2, h3, q4, h5, q6, h9, q10])
      have hF := ob hF; obtain ⟨v23, e24, hF⟩ := hF
      refine ((C.spec_l5Meet B hB1 hB2 p (⟨(3 : Int), (0 : Int), n, m, (0 : Int), []⟩ : Vl.Pattern) v23 e24)).goW (by first | simp [h1, q2, h3, q4, h5, q6, h9, q10]; done | simp_all) (by simp) ?_
      cases hF
      repeat (first | refine chk.ga ?_ | simp -dsimp [h1, q2, h3, q4, h5, q6, h9, q10])
      all_goals (try omega)

theorem C.spec_l11Narrow (B : Nat) (hB1 : 67108864 ≤ B) (hB2 : B ≤ 9223372036854775807) (p : Vl.Pattern) (n : Int) (m : Int) (r : Vl.Pattern × Bool) (hF : F.spec_l11Narrow p n m = some r) : PureCall Try.prog B 178 [.agg [.lit (.int .i64 p.op), .lit (.int .i64 p.ctor), .lit (.int .i64 p.n), .lit (.int .i64 p.m), .lit (.int .i64 p.var), .arr (List.map Vl.Pattern.c p.kids)], .lit (.int .i64 n), .lit (.int .i64 m)] (.tup [.agg [.lit (.int .i64 r.1.op), .lit (.int .i64 r.1.ctor), .lit (.int .i64 r.1.n), .lit (.int .i64 r.1.m), .lit (.int .i64 r.1.var), .arr (List.map Vl.Pattern.c r.1.kids)], .lit (.bool r.2)]) :=
 (CC.spec_l11Narrow B hB1 hB2 n m) p r hF

set_option maxRecDepth 100000 in
set_option maxHeartbeats 4000000 in
theorem CC.spec_l11Put (B : Nat) (hB1 : 67108864 ≤ B) (hB2 : B ≤ 9223372036854775807) (v : Int) (n : Int) (m : Int) : (∀ (p : Vl.Pattern) (r : Vl.Pattern × Bool), F.spec_l11Put p v n m = some r → PureCall Try.prog B 139 [.agg [.lit (.int .i64 p.op), .lit (.int .i64 p.ctor), .lit (.int .i64 p.n), .lit (.int .i64 p.m), .lit (.int .i64 p.var), .arr (List.map Vl.Pattern.c p.kids)], .lit (.int .i64 v), .lit (.int .i64 n), .lit (.int .i64 m)] (.tup [.agg [.lit (.int .i64 r.1.op), .lit (.int .i64 r.1.ctor), .lit (.int .i64 r.1.n), .lit (.int .i64 r.1.m), .lit (.int .i64 r.1.var), .arr (List.map Vl.Pattern.c r.1.kids)], .lit (.bool r.2)])) ∧
  (∀ (p : Vl.Pattern) (out20 : List Vl.Pattern) (i21 : Nat) (o : Lo (Vl.Pattern × Bool) (List Vl.Pattern)), F.spec_l11Put_l2 p v n m out20 i21 = some o → ∀ (c : Code), navO [1, 1, 1, 1, 0, 1, 0, 0] (bodyOf Try.f139) = some c → ∀ (Q : Exit → ASt → Prop), o.post (fun r => ∀ st, Post Try.prog Try.f139 (fun r' _ => r'.le (.tup [.agg [.lit (.int .i64 r.1.op), .lit (.int .i64 r.1.ctor), .lit (.int .i64 r.1.n), .lit (.int .i64 r.1.m), .lit (.int .i64 r.1.var), .arr (List.map Vl.Pattern.c r.1.kids)], .lit (.bool r.2)])) .ret st → Q .ret st) (fun s => Q (.exit 0) ⟨[(8, .ptr 1 0), (10, .ptr 2 0)], [.dead, .cells [.lit (.int .i64 0), .lit (.int .i64 0), .lit (.int .i64 0), .lit (.int .i64 0), .lit (.int .i64 0), .lit (.slice none 0 0)], .cells [.lit (.int .i64 p.op), .lit (.int .i64 p.ctor), .lit (.int .i64 p.n), .lit (.int .i64 p.m), .lit (.int .i64 p.var), .own 3 (List.length (α := Vl.Pattern) s)], .elems 6 (List.map Vl.Pattern.c s)]⟩) → ALoopU Try.prog B 0 65 (hold c .mk) ⟨[(1, .lit (.int .i64 v)), (2, .lit (.int .i64 n)), (3, .lit (.int .i64 m)), (4, .ptr 0 0), (8, .ptr 1 0), (10, .ptr 2 0), (11, .lit (.int .i64 (i21 : Int)))], [.cells [.lit (.int .i64 p.op), .lit (.int .i64 p.ctor), .lit (.int .i64 p.n), .lit (.int .i64 p.m), .lit (.int .i64 p.var), .arr (List.map Vl.Pattern.c p.kids)], .cells [.lit (.int .i64 0), .lit (.int .i64 0), .lit (.int .i64 0), .lit (.int .i64 0), .lit (.int .i64 0), .lit (.slice none 0 0)], .cells [.lit (.int .i64 p.op), .lit (.int .i64 p.ctor), .lit (.int .i64 p.n), .lit (.int .i64 p.m), .lit (.int .i64 p.var), .own 3 (List.length (α := Vl.Pattern) out20)], .elems 6 (List.map Vl.Pattern.c out20)]⟩ (hold Q .mk)) ∧
  (∀ (p : Vl.Pattern) (out : List Vl.Pattern) (i : Nat) (o : Lo (Vl.Pattern × Bool) (List Vl.Pattern)), F.spec_l11Put_l1 p v n m out i = some o → ∀ (c : Code), navO [1, 1, 1, 1, 0, 1, 0, 0] (bodyOf Try.f139) = some c → ∀ (Q : Exit → ASt → Prop), o.post (fun r => ∀ st, Post Try.prog Try.f139 (fun r' _ => r'.le (.tup [.agg [.lit (.int .i64 r.1.op), .lit (.int .i64 r.1.ctor), .lit (.int .i64 r.1.n), .lit (.int .i64 r.1.m), .lit (.int .i64 r.1.var), .arr (List.map Vl.Pattern.c r.1.kids)], .lit (.bool r.2)])) .ret st → Q .ret st) (fun s => Q (.exit 0) ⟨[(8, .ptr 1 0), (10, .ptr 2 0)], [.dead, .cells [.lit (.int .i64 0), .lit (.int .i64 0), .lit (.int .i64 0), .lit (.int .i64 0), .lit (.int .i64 0), .lit (.slice none 0 0)], .cells [.lit (.int .i64 p.op), .lit (.int .i64 p.ctor), .lit (.int .i64 p.n), .lit (.int .i64 p.m), .lit (.int .i64 p.var), .own 3 (List.length (α := Vl.Pattern) s)], .elems 6 (List.map Vl.Pattern.c s)]⟩) → ALoopU Try.prog B 0 65 (hold c .mk) ⟨[(1, .lit (.int .i64 v)), (2, .lit (.int .i64 n)), (3, .lit (.int .i64 m)), (4, .ptr 0 0), (8, .ptr 1 0), (10, .ptr 2 0), (11, .lit (.int .i64 (i : Int)))], [.cells [.lit (.int .i64 p.op), .lit (.int .i64 p.ctor), .lit (.int .i64 p.n), .lit (.int .i64 p.m), .lit (.int .i64 p.var), .arr (List.map Vl.Pattern.c p.kids)], .cells [.lit (.int .i64 0), .lit (.int .i64 0), .lit (.int .i64 0), .lit (.int .i64 0), .lit (.int .i64 0), .lit (.slice none 0 0)], .cells [.lit (.int .i64 p.op), .lit (.int .i64 p.ctor), .lit (.int .i64 p.n), .lit (.int .i64 p.m), .lit (.int .i64 p.var), .own 3 (List.length (α := Vl.Pattern) out)], .elems 6 (List.map Vl.Pattern.c out)]⟩ (hold Q .mk)) ∧
  (∀ (p : Vl.Pattern) (out41 : List Vl.Pattern) (i42 : Nat) (o : Lo (Vl.Pattern × Bool) (List Vl.Pattern)), F.spec_l11Put_l3 p v n m out41 i42 = some o → ∀ (c : Code), navO [1, 1, 1, 1, 0, 1, 0, 0] (bodyOf Try.f139) = some c → ∀ (Q : Exit → ASt → Prop), o.post (fun r => ∀ st, Post Try.prog Try.f139 (fun r' _ => r'.le (.tup [.agg [.lit (.int .i64 r.1.op), .lit (.int .i64 r.1.ctor), .lit (.int .i64 r.1.n), .lit (.int .i64 r.1.m), .lit (.int .i64 r.1.var), .arr (List.map Vl.Pattern.c r.1.kids)], .lit (.bool r.2)])) .ret st → Q .ret st) (fun s => Q (.exit 0) ⟨[(8, .ptr 1 0), (10, .ptr 2 0)], [.dead, .cells [.lit (.int .i64 0), .lit (.int .i64 0), .lit (.int .i64 0), .lit (.int .i64 0), .lit (.int .i64 0), .lit (.slice none 0 0)], .cells [.lit (.int .i64 p.op), .lit (.int .i64 p.ctor), .lit (.int .i64 p.n), .lit (.int .i64 p.m), .lit (.int .i64 p.var), .own 3 (List.length (α := Vl.Pattern) s)], .elems 6 (List.map Vl.Pattern.c s)]⟩) → ALoopU Try.prog B 0 65 (hold c .mk) ⟨[(1, .lit (.int .i64 v)), (2, .lit (.int .i64 n)), (3, .lit (.int .i64 m)), (4, .ptr 0 0), (8, .ptr 1 0), (10, .ptr 2 0), (11, .lit (.int .i64 (i42 : Int)))], [.cells [.lit (.int .i64 p.op), .lit (.int .i64 p.ctor), .lit (.int .i64 p.n), .lit (.int .i64 p.m), .lit (.int .i64 p.var), .arr (List.map Vl.Pattern.c p.kids)], .cells [.lit (.int .i64 0), .lit (.int .i64 0), .lit (.int .i64 0), .lit (.int .i64 0), .lit (.int .i64 0), .lit (.slice none 0 0)], .cells [.lit (.int .i64 p.op), .lit (.int .i64 p.ctor), .lit (.int .i64 p.n), .lit (.int .i64 p.m), .lit (.int .i64 p.var), .own 3 (List.length (α := Vl.Pattern) out41)], .elems 6 (List.map Vl.Pattern.c out41)]⟩ (hold Q .mk)) := by
 refine F.spec_l11Put.mutual_partial_correctness v n m
  (fun p r => PureCall Try.prog B 139 [.agg [.lit (.int .i64 p.op), .lit (.int .i64 p.ctor), .lit (.int .i64 p.n), .lit (.int .i64 p.m), .lit (.int .i64 p.var), .arr (List.map Vl.Pattern.c p.kids)], .lit (.int .i64 v), .lit (.int .i64 n), .lit (.int .i64 m)] (.tup [.agg [.lit (.int .i64 r.1.op), .lit (.int .i64 r.1.ctor), .lit (.int .i64 r.1.n), .lit (.int .i64 r.1.m), .lit (.int .i64 r.1.var), .arr (List.map Vl.Pattern.c r.1.kids)], .lit (.bool r.2)]))
  (fun p out20 i21 o => ∀ (c : Code), navO [1, 1, 1, 1, 0, 1, 0, 0] (bodyOf Try.f139) = some c → ∀ (Q : Exit → ASt → Prop), o.post (fun r => ∀ st, Post Try.prog Try.f139 (fun r' _ => r'.le (.tup [.agg [.lit (.int .i64 r.1.op), .lit (.int .i64 r.1.ctor), .lit (.int .i64 r.1.n), .lit (.int .i64 r.1.m), .lit (.int .i64 r.1.var), .arr (List.map Vl.Pattern.c r.1.kids)], .lit (.bool r.2)])) .ret st → Q .ret st) (fun s => Q (.exit 0) ⟨[(8, .ptr 1 0), (10, .ptr 2 0)], [.dead, .cells [.lit (.int .i64 0), .lit (.int .i64 0), .lit (.int .i64 0), .lit (.int .i64 0), .lit (.int .i64 0), .lit (.slice none 0 0)], .cells [.lit (.int .i64 p.op), .lit (.int .i64 p.ctor), .lit (.int .i64 p.n), .lit (.int .i64 p.m), .lit (.int .i64 p.var), .own 3 (List.length (α := Vl.Pattern) s)], .elems 6 (List.map Vl.Pattern.c s)]⟩) → ALoopU Try.prog B 0 65 (hold c .mk) ⟨[(1, .lit (.int .i64 v)), (2, .lit (.int .i64 n)), (3, .lit (.int .i64 m)), (4, .ptr 0 0), (8, .ptr 1 0), (10, .ptr 2 0), (11, .lit (.int .i64 (i21 : Int)))], [.cells [.lit (.int .i64 p.op), .lit (.int .i64 p.ctor), .lit (.int .i64 p.n), .lit (.int .i64 p.m), .lit (.int .i64 p.var), .arr (List.map Vl.Pattern.c p.kids)], .cells [.lit (.int .i64 0), .lit (.int .i64 0), .lit (.int .i64 0), .lit (.int .i64 0), .lit (.int .i64 0), .lit (.slice none 0 0)], .cells [.lit (.int .i64 p.op), .lit (.int .i64 p.ctor), .lit (.int .i64 p.n), .lit (.int .i64 p.m), .lit (.int .i64 p.var), .own 3 (List.length (α := Vl.Pattern) out20)], .elems 6 (List.map Vl.Pattern.c out20)]⟩ (hold Q .mk))
  (fun p out i o => ∀ (c : Code), navO [1, 1, 1, 1, 0, 1, 0, 0] (bodyOf Try.f139) = some c → ∀ (Q : Exit → ASt → Prop), o.post (fun r => ∀ st, Post Try.prog Try.f139 (fun r' _ => r'.le (.tup [.agg [.lit (.int .i64 r.1.op), .lit (.int .i64 r.1.ctor), .lit (.int .i64 r.1.n), .lit (.int .i64 r.1.m), .lit (.int .i64 r.1.var), .arr (List.map Vl.Pattern.c r.1.kids)], .lit (.bool r.2)])) .ret st → Q .ret st) (fun s => Q (.exit 0) ⟨[(8, .ptr 1 0), (10, .ptr 2 0)], [.dead, .cells [.lit (.int .i64 0), .lit (.int .i64 0), .lit (.int .i64 0), .lit (.int .i64 0), .lit (.int .i64 0), .lit (.slice none 0 0)], .cells [.lit (.int .i64 p.op), .lit (.int .i64 p.ctor), .lit (.int .i64 p.n), .lit (.int .i64 p.m), .lit (.int .i64 p.var), .own 3 (List.length (α := Vl.Pattern) s)], .elems 6 (List.map Vl.Pattern.c s)]⟩) → ALoopU Try.prog B 0 65 (hold c .mk) ⟨[(1, .lit (.int .i64 v)), (2, .lit (.int .i64 n)), (3, .lit (.int .i64 m)), (4, .ptr 0 0), (8, .ptr 1 0), (10, .ptr 2 0), (11, .lit (.int .i64 (i : Int)))], [.cells [.lit (.int .i64 p.op), .lit (.int .i64 p.ctor), .lit (.int .i64 p.n), .lit (.int .i64 p.m), .lit (.int .i64 p.var), .arr (List.map Vl.Pattern.c p.kids)], .cells [.lit (.int .i64 0), .lit (.int .i64 0), .lit (.int .i64 0), .lit (.int .i64 0), .lit (.int .i64 0), .lit (.slice none 0 0)], .cells [.lit (.int .i64 p.op), .lit (.int .i64 p.ctor), .lit (.int .i64 p.n), .lit (.int .i64 p.m), .lit (.int .i64 p.var), .own 3 (List.length (α := Vl.Pattern) out)], .elems 6 (List.map Vl.Pattern.c out)]⟩ (hold Q .mk))
  (fun p out41 i42 o => ∀ (c : Code), navO [1, 1, 1, 1, 0, 1, 0, 0] (bodyOf Try.f139) = some c → ∀ (Q : Exit → ASt → Prop), o.post (fun r => ∀ st, Post Try.prog Try.f139 (fun r' _ => r'.le (.tup [.agg [.lit (.int .i64 r.1.op), .lit (.int .i64 r.1.ctor), .lit (.int .i64 r.1.n), .lit (.int .i64 r.1.m), .lit (.int .i64 r.1.var), .arr (List.map Vl.Pattern.c r.1.kids)], .lit (.bool r.2)])) .ret st → Q .ret st) (fun s => Q (.exit 0) ⟨[(8, .ptr 1 0), (10, .ptr 2 0)], [.dead, .cells [.lit (.int .i64 0), .lit (.int .i64 0), .lit (.int .i64 0), .lit (.int .i64 0), .lit (.int .i64 0), .lit (.slice none 0 0)], .cells [.lit (.int .i64 p.op), .lit (.int .i64 p.ctor), .lit (.int .i64 p.n), .lit (.int .i64 p.m), .lit (.int .i64 p.var), .own 3 (List.length (α := Vl.Pattern) s)], .elems 6 (List.map Vl.Pattern.c s)]⟩) → ALoopU Try.prog B 0 65 (hold c .mk) ⟨[(1, .lit (.int .i64 v)), (2, .lit (.int .i64 n)), (3, .lit (.int .i64 m)), (4, .ptr 0 0), (8, .ptr 1 0), (10, .ptr 2 0), (11, .lit (.int .i64 (i42 : Int)))], [.cells [.lit (.int .i64 p.op), .lit (.int .i64 p.ctor), .lit (.int .i64 p.n), .lit (.int .i64 p.m), .lit (.int .i64 p.var), .arr (List.map Vl.Pattern.c p.kids)], .cells [.lit (.int .i64 0), .lit (.int .i64 0), .lit (.int .i64 0), .lit (.int .i64 0), .lit (.int .i64 0), .lit (.slice none 0 0)], .cells [.lit (.int .i64 p.op), .lit (.int .i64 p.ctor), .lit (.int .i64 p.n), .lit (.int .i64 p.m), .lit (.int .i64 p.var), .own 3 (List.length (α := Vl.Pattern) out41)], .elems 6 (List.map Vl.Pattern.c out41)]⟩ (hold Q .mk))
  ?_ ?_ ?_ ?_
 ·intro _f_spec_l11Put_l2 _f_spec_l11Put_l1 _f_spec_l11Put_l3 ih_spec_l11Put_l2 ih_spec_l11Put_l1 ih_spec_l11Put_l3 p r hF
  refine PureCall.enterLe Try.func139 (by kernel_rfl) rfl Try.ntmps139 (by simp) (by simp) ?_
  repeat (first | refine chk.ga ?_ | simp -dsimp)
  refine abr.split (fun h1 => ?_) (fun h1 => ?_)
  ·have q2 : ¬ (p.op = 2) := auq h1
   rw [if_neg q2] at hF
   repeat (first | refine chk.ga ?_ | simp -dsimp [h1, q2])
   refine abr.split (fun h3 => ?_) (fun h3 => ?_)
   ·have q4 : (p.op = 6) := auq h3
    rw [if_pos q4] at hF
    repeat (first | refine chk.ga ?_ | simp -dsimp [h1, q2, h3])
    refine abr.split (fun h5 => ?_) (fun h5 => ?_)
    ·have q6 : (p.var = v) := auq h5
     rw [if_pos q6] at hF
     repeat (first | refine chk.ga ?_ | simp -dsimp [h1, q2, h3, h5])
     have hF := ob hF; obtain ⟨v7, e8, hF⟩ := hF
     refine ((C.spec_l11Narrow B hB1 hB2 p n m v7 e8)).goW (by first | simp [h1, q2, h3, h5]; done | simp_all) (by simp) ?_
     cases hF
     repeat (first | refine chk.ga ?_ | simp -dsimp [h1, q2, h3, h5])
     all_goals (try omega)
    ·have q6 : ¬ (p.var = v) := auq h5
     rw [if_neg q6] at hF
     repeat (first | refine chk.ga ?_ | simp -dsimp [h1, q2, h3, h5, q6])
     have hF := ob hF; obtain ⟨o', ho19, hF⟩ := hF
     refine ALoop.goU ⟨[(1, .lit (.int .i64 v)), (2, .lit (.int .i64 n)), (3, .lit (.int .i64 m)), (4, .ptr 0 0), (8, .ptr 1 0), (10, .ptr 2 0), (11, .lit (.int .i64 (0 : Int)))], [.cells [.lit (.int .i64 p.op), .lit (.int .i64 p.ctor), .lit (.int .i64 p.n), .lit (.int .i64 p.m), .lit (.int .i64 p.var), .arr (List.map Vl.Pattern.c p.kids)], .cells [.lit (.int .i64 0), .lit (.int .i64 0), .lit (.int .i64 0), .lit (.int .i64 0), .lit (.int .i64 0), .lit (.slice none 0 0)], .cells [.lit (.int .i64 p.op), .lit (.int .i64 p.ctor), .lit (.int .i64 p.n), .lit (.int .i64 p.m), .lit (.int .i64 p.var), .own 3 (List.length (α := Vl.Pattern) [])], .elems 6 (List.map Vl.Pattern.c [])]⟩ ((Gh.nilCell 2 5 6 (by simp -dsimp; rfl) (by simp -dsimp)).trans (Gh.to3 (by simp) (by first | simp -dsimp [h1, q2, h3, h5, q6]; done | simp_all))) ?_
     refine (ih_spec_l11Put_l1 p [] 0 o' ho19) _ rfl _ ?_
     rcases o' with r0 | sx
     ·dsimp only at hF
      cases hF
      intro st h
      simpa using h
     ·dsimp only at hF
      cases hF
      repeat (first | refine chk.ga ?_ | simp -dsimp)
      all_goals (try omega)
   ·have q4 : ¬ (p.op = 6) := auq h3
    rw [if_neg q4] at hF
    repeat (first | refine chk.ga ?_ | simp -dsimp [h1, q2, h3, q4])
    have hF := ob hF; obtain ⟨o'34, ho33, hF⟩ := hF
    refine ALoop.goU ⟨[(1, .lit (.int .i64 v)), (2, .lit (.int .i64 n)), (3, .lit (.int .i64 m)), (4, .ptr 0 0), (8, .ptr 1 0), (10, .ptr 2 0), (11, .lit (.int .i64 (0 : Int)))], [.cells [.lit (.int .i64 p.op), .lit (.int .i64 p.ctor), .lit (.int .i64 p.n), .lit (.int .i64 p.m), .lit (.int .i64 p.var), .arr (List.map Vl.Pattern.c p.kids)], .cells [.lit (.int .i64 0), .lit (.int .i64 0), .lit (.int .i64 0), .lit (.int .i64 0), .lit (.int .i64 0), .lit (.slice none 0 0)], .cells [.lit (.int .i64 p.op), .lit (.int .i64 p.ctor), .lit (.int .i64 p.n), .lit (.int .i64 p.m), .lit (.int .i64 p.var), .own 3 (List.length (α := Vl.Pattern) [])], .elems 6 (List.map Vl.Pattern.c [])]⟩ ((Gh.nilCell 2 5 6 (by simp -dsimp; rfl) (by simp -dsimp)).trans (Gh.to3 (by simp) (by first | simp -dsimp [h1, q2, h3, q4]; done | simp_all))) ?_
    refine (ih_spec_l11Put_l2 p [] 0 o'34 ho33) _ rfl _ ?_
    rcases o'34 with r036 | sx35
    ·dsimp only at hF
     cases hF
     intro st h
     simpa using h
    ·dsimp only at hF
     cases hF
     repeat (first | refine chk.ga ?_ | simp -dsimp)
     all_goals (try omega)
  ·have q2 : (p.op = 2) := auq h1
   rw [if_pos q2] at hF
   repeat (first | refine chk.ga ?_ | simp -dsimp [h1, q2])
   refine abr.split (fun h37 => ?_) (fun h37 => ?_)
   ·have q38 : (p.var = v) := auq h37
    rw [if_pos q38] at hF
    repeat (first | refine chk.ga ?_ | simp -dsimp [h1, q2, h37])
    have hF := ob hF; obtain ⟨v39, e40, hF⟩ := hF
    refine ((C.spec_l11Narrow B hB1 hB2 p n m v39 e40)).goW (by first | simp [h1, q2, h37]; done | simp_all) (by simp) ?_
    cases hF
    repeat (first | refine chk.ga ?_ | simp -dsimp [h1, q2, h37])
    all_goals (try omega)
   ·have q38 : ¬ (p.var = v) := auq h37
    rw [if_neg q38] at hF
    repeat (first | refine chk.ga ?_ | simp -dsimp [h1, q2, h37, q38])
    have hF := ob hF; obtain ⟨o'55, ho54, hF⟩ := hF
    refine ALoop.goU ⟨[(1, .lit (.int .i64 v)), (2, .lit (.int .i64 n)), (3, .lit (.int .i64 m)), (4, .ptr 0 0), (8, .ptr 1 0), (10, .ptr 2 0), (11, .lit (.int .i64 (0 : Int)))], [.cells [.lit (.int .i64 p.op), .lit (.int .i64 p.ctor), .lit (.int .i64 p.n), .lit (.int .i64 p.m), .lit (.int .i64 p.var), .arr (List.map Vl.Pattern.c p.kids)], .cells [.lit (.int .i64 0), .lit (.int .i64 0), .lit (.int .i64 0), .lit (.int .i64 0), .lit (.int .i64 0), .lit (.slice none 0 0)], .cells [.lit (.int .i64 p.op), .lit (.int .i64 p.ctor), .lit (.int .i64 p.n), .lit (.int .i64 p.m), .lit (.int .i64 p.var), .own 3 (List.length (α := Vl.Pattern) [])], .elems 6 (List.map Vl.Pattern.c [])]⟩ ((Gh.nilCell 2 5 6 (by simp -dsimp; rfl) (by simp -dsimp)).trans (Gh.to3 (by simp) (by first | simp -dsimp [h1, q2, h37, q38]; done | simp_all))) ?_
    refine (ih_spec_l11Put_l3 p [] 0 o'55 ho54) _ rfl _ ?_
    rcases o'55 with r057 | sx56
    ·dsimp only at hF
     cases hF
     intro st h
     simpa using h
    ·dsimp only at hF
     cases hF
     repeat (first | refine chk.ga ?_ | simp -dsimp)
     all_goals (try omega)
 ·intro _f_spec_l11Put _f_spec_l11Put_l2 ih_spec_l11Put ih_spec_l11Put_l2 p out20 i21 o hF
  intro c hc Q hq
  obtain rfl : c = _ := navEq hc rfl
  refine ALoopU.know fun hk hs => ?_
  have d0 := hs 0 _ rfl
  simp -dsimp [Blk.bnd] at d0
  have d3 := hs 3 _ rfl
  simp -dsimp [Blk.bnd] at d3
  clear hk hs
  refine ALoopU.enter ?_
  repeat (first | refine chk.ga ?_ | simp -dsimp)
  refine abr.split (fun h22 => ?_) (fun h22 => ?_)
  ·have q23 : (i21 < p.kids.length) := auq h22
   have z24 : ((i21 : Int) < (p.kids.length : Int)) := auz
   rw [if_pos q23] at hF
   have hF := ob hF; obtain ⟨x25, e26, hF⟩ := hF
   have le26 := lt_of_get e26
   repeat (first | refine chk.ga ?_ | simp -dsimp [h22, z24, ↓e26])
   have hF := ob hF; obtain ⟨v27, e28, hF⟩ := hF
   refine ((ih_spec_l11Put x25 v27 e28)).goW (by first | simp [h22, z24, ↓e26]; done | simp_all) (by simp) ?_
   repeat (first | refine chk.ga ?_ | simp -dsimp [h22, z24, ↓e26])
   refine abr.split (fun h29 => ?_) (fun h29 => ?_)
   ·have q30 : ¬ (v27.2 = true) := auq h29
    rw [if_neg q30] at hF
    cases hF
    repeat (first | refine chk.ga ?_ | simp -dsimp [h22, z24, ↓e26, h29, q30])
    refine Leave.go _ (Gh.refl _) (hq _ ?_)
    repeat (first | refine chk.ga ?_ | simp -dsimp [h22, z24, ↓e26, h29, q30])
   ·have q30 : (v27.2 = true) := auq h29
    rw [if_pos q30] at hF
    have hF := oc hF; obtain ⟨c31, hF⟩ := hF
    have w32 : IntKind.i64.wrap ((i21 : Int) + 1) = (i21 : Int) + 1 := wrap_in (by omega) (by omega)
    repeat (first | refine chk.ga ?_ | simp -dsimp [h22, z24, ↓e26, h29, q30, w32])
    refine Again.go ⟨[(1, .lit (.int .i64 v)), (2, .lit (.int .i64 n)), (3, .lit (.int .i64 m)), (4, .ptr 0 0), (8, .ptr 1 0), (10, .ptr 2 0), (11, .lit (.int .i64 ((i21 + 1) : Int)))], [.cells [.lit (.int .i64 p.op), .lit (.int .i64 p.ctor), .lit (.int .i64 p.n), .lit (.int .i64 p.m), .lit (.int .i64 p.var), .arr (List.map Vl.Pattern.c p.kids)], .cells [.lit (.int .i64 0), .lit (.int .i64 0), .lit (.int .i64 0), .lit (.int .i64 0), .lit (.int .i64 0), .lit (.slice none 0 0)], .cells [.lit (.int .i64 p.op), .lit (.int .i64 p.ctor), .lit (.int .i64 p.n), .lit (.int .i64 p.m), .lit (.int .i64 p.var), .own 3 (List.length (α := Vl.Pattern) (out20 ++ [v27.1]))], .elems 6 (List.map Vl.Pattern.c (out20 ++ [v27.1]))]⟩ (Gh.to3 (by simp) (by first | simp -dsimp [h22, z24, ↓e26, h29, q30, w32]; done | simp_all)) ?_
    exact (ih_spec_l11Put_l2 p (out20 ++ [v27.1]) (i21 + 1) o hF) _ rfl _ hq
  ·have q23 : ¬ (i21 < p.kids.length) := auq h22
   have z24 : ¬ ((i21 : Int) < (p.kids.length : Int)) := auz
   rw [if_neg q23] at hF
   cases hF
   repeat (first | refine chk.ga ?_ | simp -dsimp [h22, q23, z24])
   refine Leave.go ⟨[(8, .ptr 1 0), (10, .ptr 2 0)], [.dead, .cells [.lit (.int .i64 0), .lit (.int .i64 0), .lit (.int .i64 0), .lit (.int .i64 0), .lit (.int .i64 0), .lit (.slice none 0 0)], .cells [.lit (.int .i64 p.op), .lit (.int .i64 p.ctor), .lit (.int .i64 p.n), .lit (.int .i64 p.m), .lit (.int .i64 p.var), .own 3 (List.length (α := Vl.Pattern) out20)], .elems 6 (List.map Vl.Pattern.c out20)]⟩ (Gh.to3 (by simp) (by first | simp -dsimp [h22, q23, z24]; done | simp_all)) ?_
   exact hq
 ·intro _f_spec_l11Put _f_spec_l11Put_l1 ih_spec_l11Put ih_spec_l11Put_l1 p out i o hF
  intro c hc Q hq
  obtain rfl : c = _ := navEq hc rfl
  refine ALoopU.know fun hk hs => ?_
  have d0 := hs 0 _ rfl
  simp -dsimp [Blk.bnd] at d0
  have d3 := hs 3 _ rfl
  simp -dsimp [Blk.bnd] at d3
  clear hk hs
  refine ALoopU.enter ?_
  repeat (first | refine chk.ga ?_ | simp -dsimp)
  refine abr.split (fun h9 => ?_) (fun h9 => ?_)
  ·have q10 : (i < p.kids.length) := auq h9
   have z11 : ((i : Int) < (p.kids.length : Int)) := auz
   rw [if_pos q10] at hF
   have hF := ob hF; obtain ⟨x, e12, hF⟩ := hF
   have le12 := lt_of_get e12
   repeat (first | refine chk.ga ?_ | simp -dsimp [h9, z11, ↓e12])
   have hF := ob hF; obtain ⟨v13, e14, hF⟩ := hF
   refine ((ih_spec_l11Put x v13 e14)).goW (by first | simp [h9, z11, ↓e12]; done | simp_all) (by simp) ?_
   repeat (first | refine chk.ga ?_ | simp -dsimp [h9, z11, ↓e12])
   refine abr.split (fun h15 => ?_) (fun h15 => ?_)
   ·have q16 : ¬ (v13.2 = true) := auq h15
    rw [if_neg q16] at hF
    cases hF
    repeat (first | refine chk.ga ?_ | simp -dsimp [h9, z11, ↓e12, h15, q16])
    refine Leave.go _ (Gh.refl _) (hq _ ?_)
    repeat (first | refine chk.ga ?_ | simp -dsimp [h9, z11, ↓e12, h15, q16])
   ·have q16 : (v13.2 = true) := auq h15
    rw [if_pos q16] at hF
    have hF := oc hF; obtain ⟨c17, hF⟩ := hF
    have w18 : IntKind.i64.wrap ((i : Int) + 1) = (i : Int) + 1 := wrap_in (by omega) (by omega)
    repeat (first | refine chk.ga ?_ | simp -dsimp [h9, z11, ↓e12, h15, q16, w18])
    refine Again.go ⟨[(1, .lit (.int .i64 v)), (2, .lit (.int .i64 n)), (3, .lit (.int .i64 m)), (4, .ptr 0 0), (8, .ptr 1 0), (10, .ptr 2 0), (11, .lit (.int .i64 ((i + 1) : Int)))], [.cells [.lit (.int .i64 p.op), .lit (.int .i64 p.ctor), .lit (.int .i64 p.n), .lit (.int .i64 p.m), .lit (.int .i64 p.var), .arr (List.map Vl.Pattern.c p.kids)], .cells [.lit (.int .i64 0), .lit (.int .i64 0), .lit (.int .i64 0), .lit (.int .i64 0), .lit (.int .i64 0), .lit (.slice none 0 0)], .cells [.lit (.int .i64 p.op), .lit (.int .i64 p.ctor), .lit (.int .i64 p.n), .lit (.int .i64 p.m), .lit (.int .i64 p.var), .own 3 (List.length (α := Vl.Pattern) (out ++ [v13.1]))], .elems 6 (List.map Vl.Pattern.c (out ++ [v13.1]))]⟩ (Gh.to3 (by simp) (by first | simp -dsimp [h9, z11, ↓e12, h15, q16, w18]; done | simp_all)) ?_
    exact (ih_spec_l11Put_l1 p (out ++ [v13.1]) (i + 1) o hF) _ rfl _ hq
  ·have q10 : ¬ (i < p.kids.length) := auq h9
   have z11 : ¬ ((i : Int) < (p.kids.length : Int)) := auz
   rw [if_neg q10] at hF
   cases hF
   repeat (first | refine chk.ga ?_ | simp -dsimp [h9, q10, z11])
   refine Leave.go ⟨[(8, .ptr 1 0), (10, .ptr 2 0)], [.dead, .cells [.lit (.int .i64 0), .lit (.int .i64 0), .lit (.int .i64 0), .lit (.int .i64 0), .lit (.int .i64 0), .lit (.slice none 0 0)], .cells [.lit (.int .i64 p.op), .lit (.int .i64 p.ctor), .lit (.int .i64 p.n), .lit (.int .i64 p.m), .lit (.int .i64 p.var), .own 3 (List.length (α := Vl.Pattern) out)], .elems 6 (List.map Vl.Pattern.c out)]⟩ (Gh.to3 (by simp) (by first | simp -dsimp [h9, q10, z11]; done | simp_all)) ?_
   exact hq
 ·intro _f_spec_l11Put _f_spec_l11Put_l3 ih_spec_l11Put ih_spec_l11Put_l3 p out41 i42 o hF
  intro c hc Q hq
  obtain rfl : c = _ := navEq hc rfl
  refine ALoopU.know fun hk hs => ?_
  have d0 := hs 0 _ rfl
  simp -dsimp [Blk.bnd] at d0
  have d3 := hs 3 _ rfl
  simp -dsimp [Blk.bnd] at d3
  clear hk hs
  refine ALoopU.enter ?_
  repeat (first | refine chk.ga ?_ | simp -dsimp)
  refine abr.split (fun h43 => ?_) (fun h43 => ?_)
  ·have q44 : (i42 < p.kids.length) := auq h43
   have z45 : ((i42 : Int) < (p.kids.length : Int)) := auz
   rw [if_pos q44] at hF
   have hF := ob hF; obtain ⟨x46, e47, hF⟩ := hF
   have le47 := lt_of_get e47
   repeat (first | refine chk.ga ?_ | simp -dsimp [h43, z45, ↓e47])
   have hF := ob hF; obtain ⟨v48, e49, hF⟩ := hF
   refine ((ih_spec_l11Put x46 v48 e49)).goW (by first | simp [h43, z45, ↓e47]; done | simp_all) (by simp) ?_
   repeat (first | refine chk.ga ?_ | simp -dsimp [h43, z45, ↓e47])
   refine abr.split (fun h50 => ?_) (fun h50 => ?_)
   ·have q51 : ¬ (v48.2 = true) := auq h50
    rw [if_neg q51] at hF
    cases hF
    repeat (first | refine chk.ga ?_ | simp -dsimp [h43, z45, ↓e47, h50, q51])
    refine Leave.go _ (Gh.refl _) (hq _ ?_)
    repeat (first | refine chk.ga ?_ | simp -dsimp [h43, z45, ↓e47, h50, q51])
   ·have q51 : (v48.2 = true) := auq h50
    rw [if_pos q51] at hF
    have hF := oc hF; obtain ⟨c52, hF⟩ := hF
    have w53 : IntKind.i64.wrap ((i42 : Int) + 1) = (i42 : Int) + 1 := wrap_in (by omega) (by omega)
    repeat (first | refine chk.ga ?_ | simp -dsimp [h43, z45, ↓e47, h50, q51, w53])
    refine Again.go ⟨[(1, .lit (.int .i64 v)), (2, .lit (.int .i64 n)), (3, .lit (.int .i64 m)), (4, .ptr 0 0), (8, .ptr 1 0), (10, .ptr 2 0), (11, .lit (.int .i64 ((i42 + 1) : Int)))], [.cells [.lit (.int .i64 p.op), .lit (.int .i64 p.ctor), .lit (.int .i64 p.n), .lit (.int .i64 p.m), .lit (.int .i64 p.var), .arr (List.map Vl.Pattern.c p.kids)], .cells [.lit (.int .i64 0), .lit (.int .i64 0), .lit (.int .i64 0), .lit (.int .i64 0), .lit (.int .i64 0), .lit (.slice none 0 0)], .cells [.lit (.int .i64 p.op), .lit (.int .i64 p.ctor), .lit (.int .i64 p.n), .lit (.int .i64 p.m), .lit (.int .i64 p.var), .own 3 (List.length (α := Vl.Pattern) (out41 ++ [v48.1]))], .elems 6 (List.map Vl.Pattern.c (out41 ++ [v48.1]))]⟩ (Gh.to3 (by simp) (by first | simp -dsimp [h43, z45, ↓e47, h50, q51, w53]; done | simp_all)) ?_
    exact (ih_spec_l11Put_l3 p (out41 ++ [v48.1]) (i42 + 1) o hF) _ rfl _ hq
  ·have q44 : ¬ (i42 < p.kids.length) := auq h43
   have z45 : ¬ ((i42 : Int) < (p.kids.length : Int)) := auz
   rw [if_neg q44] at hF
   cases hF
   repeat (first | refine chk.ga ?_ | simp -dsimp [h43, q44, z45])
   refine Leave.go ⟨[(8, .ptr 1 0), (10, .ptr 2 0)], [.dead, .cells [.lit (.int .i64 0), .lit (.int .i64 0), .lit (.int .i64 0), .lit (.int .i64 0), .lit (.int .i64 0), .lit (.slice none 0 0)], .cells [.lit (.int .i64 p.op), .lit (.int .i64 p.ctor), .lit (.int .i64 p.n), .lit (.int .i64 p.m), .lit (.int .i64 p.var), .own 3 (List.length (α := Vl.Pattern) out41)], .elems 6 (List.map Vl.Pattern.c out41)]⟩ (Gh.to3 (by simp) (by first | simp -dsimp [h43, q44, z45]; done | simp_all)) ?_
   exact hq

theorem C.spec_l11Put (B : Nat) (hB1 : 67108864 ≤ B) (hB2 : B ≤ 9223372036854775807) (p : Vl.Pattern) (v : Int) (n : Int) (m : Int) (r : Vl.Pattern × Bool) (hF : F.spec_l11Put p v n m = some r) : PureCall Try.prog B 139 [.agg [.lit (.int .i64 p.op), .lit (.int .i64 p.ctor), .lit (.int .i64 p.n), .lit (.int .i64 p.m), .lit (.int .i64 p.var), .arr (List.map Vl.Pattern.c p.kids)], .lit (.int .i64 v), .lit (.int .i64 n), .lit (.int .i64 m)] (.tup [.agg [.lit (.int .i64 r.1.op), .lit (.int .i64 r.1.ctor), .lit (.int .i64 r.1.n), .lit (.int .i64 r.1.m), .lit (.int .i64 r.1.var), .arr (List.map Vl.Pattern.c r.1.kids)], .lit (.bool r.2)]) :=
 (CC.spec_l11Put B hB1 hB2 v n m).1 p r hF

theorem C.spec_l11Put_l2 (B : Nat) (hB1 : 67108864 ≤ B) (hB2 : B ≤ 9223372036854775807) (p : Vl.Pattern) (v : Int) (n : Int) (m : Int) (out20 : List Vl.Pattern) (i21 : Nat) (o : Lo (Vl.Pattern × Bool) (List Vl.Pattern)) (hF : F.spec_l11Put_l2 p v n m out20 i21 = some o) : ∀ (c : Code), navO [1, 1, 1, 1, 0, 1, 0, 0] (bodyOf Try.f139) = some c → ∀ (Q : Exit → ASt → Prop), o.post (fun r => ∀ st, Post Try.prog Try.f139 (fun r' _ => r'.le (.tup [.agg [.lit (.int .i64 r.1.op), .lit (.int .i64 r.1.ctor), .lit (.int .i64 r.1.n), .lit (.int .i64 r.1.m), .lit (.int .i64 r.1.var), .arr (List.map Vl.Pattern.c r.1.kids)], .lit (.bool r.2)])) .ret st → Q .ret st) (fun s => Q (.exit 0) ⟨[(8, .ptr 1 0), (10, .ptr 2 0)], [.dead, .cells [.lit (.int .i64 0), .lit (.int .i64 0), .lit (.int .i64 0), .lit (.int .i64 0), .lit (.int .i64 0), .lit (.slice none 0 0)], .cells [.lit (.int .i64 p.op), .lit (.int .i64 p.ctor), .lit (.int .i64 p.n), .lit (.int .i64 p.m), .lit (.int .i64 p.var), .own 3 (List.length (α := Vl.Pattern) s)], .elems 6 (List.map Vl.Pattern.c s)]⟩) → ALoopU Try.prog B 0 65 (hold c .mk) ⟨[(1, .lit (.int .i64 v)), (2, .lit (.int .i64 n)), (3, .lit (.int .i64 m)), (4, .ptr 0 0), (8, .ptr 1 0), (10, .ptr 2 0), (11, .lit (.int .i64 (i21 : Int)))], [.cells [.lit (.int .i64 p.op), .lit (.int .i64 p.ctor), .lit (.int .i64 p.n), .lit (.int .i64 p.m), .lit (.int .i64 p.var), .arr (List.map Vl.Pattern.c p.kids)], .cells [.lit (.int .i64 0), .lit (.int .i64 0), .lit (.int .i64 0), .lit (.int .i64 0), .lit (.int .i64 0), .lit (.slice none 0 0)], .cells [.lit (.int .i64 p.op), .lit (.int .i64 p.ctor), .lit (.int .i64 p.n), .lit (.int .i64 p.m), .lit (.int .i64 p.var), .own 3 (List.length (α := Vl.Pattern) out20)], .elems 6 (List.map Vl.Pattern.c out20)]⟩ (hold Q .mk) :=
 (CC.spec_l11Put B hB1 hB2 v n m).2.1 p out20 i21 o hF

theorem C.spec_l11Put_l1 (B : Nat) (hB1 : 67108864 ≤ B) (hB2 : B ≤ 9223372036854775807) (p : Vl.Pattern) (v : Int) (n : Int) (m : Int) (out : List Vl.Pattern) (i : Nat) (o : Lo (Vl.Pattern × Bool) (List Vl.Pattern)) (hF : F.spec_l11Put_l1 p v n m out i = some o) : ∀ (c : Code), navO [1, 1, 1, 1, 0, 1, 0, 0] (bodyOf Try.f139) = some c → ∀ (Q : Exit → ASt → Prop), o.post (fun r => ∀ st, Post Try.prog Try.f139 (fun r' _ => r'.le (.tup [.agg [.lit (.int .i64 r.1.op), .lit (.int .i64 r.1.ctor), .lit (.int .i64 r.1.n), .lit (.int .i64 r.1.m), .lit (.int .i64 r.1.var), .arr (List.map Vl.Pattern.c r.1.kids)], .lit (.bool r.2)])) .ret st → Q .ret st) (fun s => Q (.exit 0) ⟨[(8, .ptr 1 0), (10, .ptr 2 0)], [.dead, .cells [.lit (.int .i64 0), .lit (.int .i64 0), .lit (.int .i64 0), .lit (.int .i64 0), .lit (.int .i64 0), .lit (.slice none 0 0)], .cells [.lit (.int .i64 p.op), .lit (.int .i64 p.ctor), .lit (.int .i64 p.n), .lit (.int .i64 p.m), .lit (.int .i64 p.var), .own 3 (List.length (α := Vl.Pattern) s)], .elems 6 (List.map Vl.Pattern.c s)]⟩) → ALoopU Try.prog B 0 65 (hold c .mk) ⟨[(1, .lit (.int .i64 v)), (2, .lit (.int .i64 n)), (3, .lit (.int .i64 m)), (4, .ptr 0 0), (8, .ptr 1 0), (10, .ptr 2 0), (11, .lit (.int .i64 (i : Int)))], [.cells [.lit (.int .i64 p.op), .lit (.int .i64 p.ctor), .lit (.int .i64 p.n), .lit (.int .i64 p.m), .lit (.int .i64 p.var), .arr (List.map Vl.Pattern.c p.kids)], .cells [.lit (.int .i64 0), .lit (.int .i64 0), .lit (.int .i64 0), .lit (.int .i64 0), .lit (.int .i64 0), .lit (.slice none 0 0)], .cells [.lit (.int .i64 p.op), .lit (.int .i64 p.ctor), .lit (.int .i64 p.n), .lit (.int .i64 p.m), .lit (.int .i64 p.var), .own 3 (List.length (α := Vl.Pattern) out)], .elems 6 (List.map Vl.Pattern.c out)]⟩ (hold Q .mk) :=
 (CC.spec_l11Put B hB1 hB2 v n m).2.2.1 p out i o hF

theorem C.spec_l11Put_l3 (B : Nat) (hB1 : 67108864 ≤ B) (hB2 : B ≤ 9223372036854775807) (p : Vl.Pattern) (v : Int) (n : Int) (m : Int) (out41 : List Vl.Pattern) (i42 : Nat) (o : Lo (Vl.Pattern × Bool) (List Vl.Pattern)) (hF : F.spec_l11Put_l3 p v n m out41 i42 = some o) : ∀ (c : Code), navO [1, 1, 1, 1, 0, 1, 0, 0] (bodyOf Try.f139) = some c → ∀ (Q : Exit → ASt → Prop), o.post (fun r => ∀ st, Post Try.prog Try.f139 (fun r' _ => r'.le (.tup [.agg [.lit (.int .i64 r.1.op), .lit (.int .i64 r.1.ctor), .lit (.int .i64 r.1.n), .lit (.int .i64 r.1.m), .lit (.int .i64 r.1.var), .arr (List.map Vl.Pattern.c r.1.kids)], .lit (.bool r.2)])) .ret st → Q .ret st) (fun s => Q (.exit 0) ⟨[(8, .ptr 1 0), (10, .ptr 2 0)], [.dead, .cells [.lit (.int .i64 0), .lit (.int .i64 0), .lit (.int .i64 0), .lit (.int .i64 0), .lit (.int .i64 0), .lit (.slice none 0 0)], .cells [.lit (.int .i64 p.op), .lit (.int .i64 p.ctor), .lit (.int .i64 p.n), .lit (.int .i64 p.m), .lit (.int .i64 p.var), .own 3 (List.length (α := Vl.Pattern) s)], .elems 6 (List.map Vl.Pattern.c s)]⟩) → ALoopU Try.prog B 0 65 (hold c .mk) ⟨[(1, .lit (.int .i64 v)), (2, .lit (.int .i64 n)), (3, .lit (.int .i64 m)), (4, .ptr 0 0), (8, .ptr 1 0), (10, .ptr 2 0), (11, .lit (.int .i64 (i42 : Int)))], [.cells [.lit (.int .i64 p.op), .lit (.int .i64 p.ctor), .lit (.int .i64 p.n), .lit (.int .i64 p.m), .lit (.int .i64 p.var), .arr (List.map Vl.Pattern.c p.kids)], .cells [.lit (.int .i64 0), .lit (.int .i64 0), .lit (.int .i64 0), .lit (.int .i64 0), .lit (.int .i64 0), .lit (.slice none 0 0)], .cells [.lit (.int .i64 p.op), .lit (.int .i64 p.ctor), .lit (.int .i64 p.n), .lit (.int .i64 p.m), .lit (.int .i64 p.var), .own 3 (List.length (α := Vl.Pattern) out41)], .elems 6 (List.map Vl.Pattern.c out41)]⟩ (hold Q .mk) :=
 (CC.spec_l11Put B hB1 hB2 v n m).2.2.2 p out41 i42 o hF

set_option maxRecDepth 100000 in
set_option maxHeartbeats 4000000 in
theorem C.spec_l11Guard (B : Nat) (hB1 : 67108864 ≤ B) (hB2 : B ≤ 9223372036854775807) (c' : Vl.Clause) (r : Vl.Clause × Bool) (hF : F.spec_l11Guard c' = some r) : PureCall Try.prog B 78 [.agg [.lit (.int .i64 c'.pat.op), .lit (.int .i64 c'.pat.ctor), .lit (.int .i64 c'.pat.n), .lit (.int .i64 c'.pat.m), .lit (.int .i64 c'.pat.var), .arr (List.map Vl.Pattern.c c'.pat.kids), .lit (.int .i64 c'.guard.op), .lit (.int .i64 c'.guard.var), .lit (.int .i64 c'.guard.n)]] (.tup [.agg [.lit (.int .i64 r.1.pat.op), .lit (.int .i64 r.1.pat.ctor), .lit (.int .i64 r.1.pat.n), .lit (.int .i64 r.1.pat.m), .lit (.int .i64 r.1.pat.var), .arr (List.map Vl.Pattern.c r.1.pat.kids), .lit (.int .i64 r.1.guard.op), .lit (.int .i64 r.1.guard.var), .lit (.int .i64 r.1.guard.n)], .lit (.bool r.2)]) := by
 unfold F.spec_l11Guard at hF
 refine PureCall.enterLe Try.func78 (by kernel_rfl) rfl Try.ntmps78 (by simp) (by simp) ?_
 repeat (first | refine chk.ga ?_ | simp -dsimp)
 refine abr.split (fun h1 => ?_) (fun h1 => ?_)
 ·have q2 : (c'.guard.op = 0) := auq h1
  rw [if_pos q2] at hF
  repeat (first | refine chk.ga ?_ | simp -dsimp [h1])
  have hF := ob hF; obtain ⟨v, e3, hF⟩ := hF
  refine ((C.spec_l3Copy B hB1 hB2 c'.pat v e3)).goW (by first | simp [h1]; done | simp_all) (by simp) ?_
  cases hF
  repeat (first | refine chk.ga ?_ | simp -dsimp [h1])
  all_goals (try omega)
 ·have q2 : ¬ (c'.guard.op = 0) := auq h1
  rw [if_neg q2] at hF
  repeat (first | refine chk.ga ?_ | simp -dsimp [h1, q2])
  have hF := ob hF; obtain ⟨v4, e5, hF⟩ := hF
  refine ((C.spec_l11Range B hB1 hB2 c'.guard v4 e5)).goW (by first | simp [h1, q2]; done | simp_all) (by simp) ?_
  repeat (first | refine chk.ga ?_ | simp -dsimp [h1, q2])
  have hF := ob hF; obtain ⟨v6, e7, hF⟩ := hF
  refine ((C.spec_l11Put B hB1 hB2 c'.pat c'.guard.var v4.1 v4.2 v6 e7)).goW (by first | simp [h1, q2]; done | simp_all) (by simp) ?_
  repeat (first | refine chk.ga ?_ | simp -dsimp [h1, q2])
  have hF := ob hF; obtain ⟨v8, e9, hF⟩ := hF
  refine ((C.spec_l3Copy B hB1 hB2 v6.1 v8 e9)).goW (by first | simp [h1, q2]; done | simp_all) (by simp) ?_
  cases hF
  repeat (first | refine chk.ga ?_ | simp -dsimp [h1, q2])
  all_goals (try omega)

set_option maxRecDepth 100000 in
set_option maxHeartbeats 4000000 in
theorem C.spec_GuardNever (B : Nat) (hB1 : 67108864 ≤ B) (hB2 : B ≤ 9223372036854775807) (w : List Vl.Data) (t : Vl.Ty) (c' : Vl.Clause) (r : Bool) (hF : F.spec_GuardNever w t c' = some r) : PureCall Try.prog B 30 [.arr (List.map Vl.Data.c w), .agg [.lit (.int .i64 t.data), .lit (.int .i64 t.index)], .agg [.lit (.int .i64 c'.pat.op), .lit (.int .i64 c'.pat.ctor), .lit (.int .i64 c'.pat.n), .lit (.int .i64 c'.pat.m), .lit (.int .i64 c'.pat.var), .arr (List.map Vl.Pattern.c c'.pat.kids), .lit (.int .i64 c'.guard.op), .lit (.int .i64 c'.guard.var), .lit (.int .i64 c'.guard.n)]] (.lit (.bool r)) := by
 unfold F.spec_GuardNever at hF
 refine PureCall.enterLe Try.func30 (by kernel_rfl) rfl Try.ntmps30 (by simp) (by simp) ?_
 repeat (first | refine chk.ga ?_ | simp -dsimp)
 have hF := ob hF; obtain ⟨v, e1, hF⟩ := hF
 refine ((C.spec_ClauseValid B hB1 hB2 w t c' v e1)).goW (by simp) (by simp) ?_
 repeat (first | refine chk.ga ?_ | simp -dsimp)
 refine abr.split (fun h2 => ?_) (fun h2 => ?_)
 ·have q3 : (v = true) := auq h2
  rw [if_pos q3] at hF
  repeat (first | refine chk.ga ?_ | simp -dsimp [h2])
  refine abr.split (fun h4 => ?_) (fun h4 => ?_)
  ·have q5 : ¬ (c'.guard.op = 0) := auq h4
   rw [if_neg q5] at hF
   repeat (first | refine chk.ga ?_ | simp -dsimp [h2, h4, q5])
   have hF := ob hF; obtain ⟨v6, e7, hF⟩ := hF
   refine ((C.spec_l11Under B hB1 hB2 c'.pat c'.guard.var v6 e7)).goW (by first | simp [h2, h4, q5]; done | simp_all) (by simp) ?_
   repeat (first | refine chk.ga ?_ | simp -dsimp [h2, h4, q5])
   refine abr.split (fun h8 => ?_) (fun h8 => ?_)
   ·have q9 : (v6 = true) := auq h8
    rw [if_pos q9] at hF
    cases hF
    repeat (first | refine chk.ga ?_ | simp -dsimp [h2, h4, q5, h8])
    all_goals (try omega)
   ·have q9 : ¬ (v6 = true) := auq h8
    rw [if_neg q9] at hF
    repeat (first | refine chk.ga ?_ | simp -dsimp [h2, h4, q5, h8, q9])
    have hF := ob hF; obtain ⟨v10, e11, hF⟩ := hF
    refine ((C.spec_l11Guard B hB1 hB2 c' v10 e11)).goW (by first | simp [h2, h4, q5, h8, q9]; done | simp_all) (by simp) ?_
    cases hF
    repeat (first | refine chk.ga ?_ | simp -dsimp [h2, h4, q5, h8, q9])
    all_goals (try omega)
  ·have q5 : (c'.guard.op = 0) := auq h4
   rw [if_pos q5] at hF
   cases hF
   repeat (first | refine chk.ga ?_ | simp -dsimp [h2, h4, q5])
   all_goals (try omega)
 ·have q3 : ¬ (v = true) := auq h2
  rw [if_neg q3] at hF
  cases hF
  repeat (first | refine chk.ga ?_ | simp -dsimp [h2, q3])
  all_goals (try omega)

set_option maxRecDepth 100000 in
set_option maxHeartbeats 4000000 in
theorem C.impl_within (B : Nat) (hB1 : 67108864 ≤ B) (hB2 : B ≤ 9223372036854775807) (n : Int) (low : Int) (high : Int) (r : Bool) (hF : F.impl_within n low high = some r) : PureCall Try.prog B 145 [.lit (.int .i64 n), .lit (.int .i64 low), .lit (.int .i64 high)] (.lit (.bool r)) := by
 unfold F.impl_within at hF
 refine PureCall.enterLe Try.func145 (by kernel_rfl) rfl Try.ntmps145 (by simp) (by simp) ?_
 repeat (first | refine chk.ga ?_ | simp -dsimp)
 refine abr.split (fun h1 => ?_) (fun h1 => ?_)
 ·have q2 : (low ≤ n) := auq h1
  rw [if_pos q2] at hF
  cases hF
  repeat (first | refine chk.ga ?_ | simp -dsimp [h1])
  all_goals (try omega)
 ·have q2 : ¬ (low ≤ n) := auq h1
  rw [if_neg q2] at hF
  cases hF
  repeat (first | refine chk.ga ?_ | simp -dsimp [h1, q2])
  all_goals (try omega)

set_option maxRecDepth 100000 in
set_option maxHeartbeats 4000000 in
theorem CC.impl_NameValid_l1 (B : Nat) (hB1 : 67108864 ≤ B) (hB2 : B ≤ 9223372036854775807) (s : ByteArray) : (∀ (i : Nat) (o : Lo Bool Unit), F.impl_NameValid_l1 s i = some o → ∀ (c : Code), navO [1, 1, 0, 1, 0, 0] (bodyOf Try.f199) = some c → ∀ (Q : Exit → ASt → Prop), o.post (fun r => ∀ st, Post Try.prog Try.f199 (fun r' _ => r'.le (.lit (.bool r))) .ret st → Q .ret st) (fun s => Q (.exit 0) ⟨[], []⟩) → ALoopU Try.prog B 0 34 (hold c .mk) ⟨[(0, .lit (.string s)), (3, .lit (.int .i64 (i : Int)))], []⟩ (hold Q .mk)) := by
 refine F.impl_NameValid_l1.partial_correctness s
  (fun i o => ∀ (c : Code), navO [1, 1, 0, 1, 0, 0] (bodyOf Try.f199) = some c → ∀ (Q : Exit → ASt → Prop), o.post (fun r => ∀ st, Post Try.prog Try.f199 (fun r' _ => r'.le (.lit (.bool r))) .ret st → Q .ret st) (fun s => Q (.exit 0) ⟨[], []⟩) → ALoopU Try.prog B 0 34 (hold c .mk) ⟨[(0, .lit (.string s)), (3, .lit (.int .i64 (i : Int)))], []⟩ (hold Q .mk))
  ?_
 ·intro _f_impl_NameValid_l1 ih_impl_NameValid_l1 i o hF
  intro c hc Q hq
  obtain rfl : c = _ := navEq hc rfl
  refine ALoopU.know fun hk hs => ?_
  clear hk hs
  refine ALoopU.enter ?_
  repeat (first | refine chk.ga ?_ | simp -dsimp)
  refine abr.split (fun h11 => ?_) (fun h11 => ?_)
  ·have q12 : (i < s.size) := auq h11
   have z13 : ((i : Int) < (s.size : Int)) := auz
   rw [if_pos q12] at hF
   repeat (first | refine chk.ga ?_ | simp -dsimp [h11, z13])
   refine abr.split (fun h14 => ?_) (fun h14 => ?_)
   ·have q15 : ¬ (byteAt s i < 97) := auq h14
    have z16 : ¬ (((byteAt s i : Nat) : Int) < (97 : Int)) := auz
    rw [if_neg q15] at hF
    repeat (first | refine chk.ga ?_ | simp -dsimp [h11, z13, h14, q15, z16])
    refine abr.split (fun h17 => ?_) (fun h17 => ?_)
    ·have q18 : (122 < byteAt s i) := auq h17
     have z19 : ((122 : Int) < ((byteAt s i : Nat) : Int)) := auz
     rw [if_pos q18] at hF
     cases hF
     repeat (first | refine chk.ga ?_ | simp -dsimp [h11, z13, h14, q15, z16, h17, z19])
     refine Leave.go _ (Gh.refl _) (hq _ ?_)
     repeat (first | refine chk.ga ?_ | simp -dsimp [h11, z13, h14, q15, z16, h17, z19])
    ·have q18 : ¬ (122 < byteAt s i) := auq h17
     have z19 : ¬ ((122 : Int) < ((byteAt s i : Nat) : Int)) := auz
     rw [if_neg q18] at hF
     have hF := oc hF; obtain ⟨c20, hF⟩ := hF
     have w21 : IntKind.i64.wrap ((i : Int) + 1) = (i : Int) + 1 := wrap_in (by omega) (by omega)
     repeat (first | refine chk.ga ?_ | simp -dsimp [h11, z13, h14, q15, z16, h17, q18, z19, w21])
     refine Again.go ⟨[(0, .lit (.string s)), (3, .lit (.int .i64 ((i + 1) : Int)))], []⟩ (Gh.to3 (by simp) (by first | simp -dsimp [h11, z13, h14, q15, z16, h17, q18, z19, w21]; done | simp_all)) ?_
     exact (ih_impl_NameValid_l1 (i + 1) o hF) _ rfl _ hq
   ·have q15 : (byteAt s i < 97) := auq h14
    have z16 : (((byteAt s i : Nat) : Int) < (97 : Int)) := auz
    rw [if_pos q15] at hF
    cases hF
    repeat (first | refine chk.ga ?_ | simp -dsimp [h11, z13, h14, q15, z16])
    refine Leave.go _ (Gh.refl _) (hq _ ?_)
    repeat (first | refine chk.ga ?_ | simp -dsimp [h11, z13, h14, q15, z16])
  ·have q12 : ¬ (i < s.size) := auq h11
   have z13 : ¬ ((i : Int) < (s.size : Int)) := auz
   rw [if_neg q12] at hF
   cases hF
   repeat (first | refine chk.ga ?_ | simp -dsimp [h11, q12, z13])
   refine Leave.go ⟨[], []⟩ (Gh.to3 (by simp) (by first | simp -dsimp [h11, q12, z13]; done | simp_all)) ?_
   exact hq

theorem C.impl_NameValid_l1 (B : Nat) (hB1 : 67108864 ≤ B) (hB2 : B ≤ 9223372036854775807) (s : ByteArray) (i : Nat) (o : Lo Bool Unit) (hF : F.impl_NameValid_l1 s i = some o) : ∀ (c : Code), navO [1, 1, 0, 1, 0, 0] (bodyOf Try.f199) = some c → ∀ (Q : Exit → ASt → Prop), o.post (fun r => ∀ st, Post Try.prog Try.f199 (fun r' _ => r'.le (.lit (.bool r))) .ret st → Q .ret st) (fun s => Q (.exit 0) ⟨[], []⟩) → ALoopU Try.prog B 0 34 (hold c .mk) ⟨[(0, .lit (.string s)), (3, .lit (.int .i64 (i : Int)))], []⟩ (hold Q .mk) :=
 (CC.impl_NameValid_l1 B hB1 hB2 s) i o hF

set_option maxRecDepth 100000 in
set_option maxHeartbeats 4000000 in
theorem C.impl_NameValid (B : Nat) (hB1 : 67108864 ≤ B) (hB2 : B ≤ 9223372036854775807) (s : ByteArray) (r : Bool) (hF : F.impl_NameValid s = some r) : PureCall Try.prog B 199 [.lit (.string s)] (.lit (.bool r)) := by
 unfold F.impl_NameValid at hF
 refine PureCall.enterLe Try.func199 (by kernel_rfl) rfl Try.ntmps199 (by simp) (by simp) ?_
 repeat (first | refine chk.ga ?_ | simp -dsimp)
 have hF := ob hF; obtain ⟨v, e1, hF⟩ := hF
 refine ((C.impl_within B hB1 hB2 (s.size : Int) (1 : Int) (5 : Int) v e1)).goW (by simp) (by simp) ?_
 repeat (first | refine chk.ga ?_ | simp -dsimp)
 refine abr.split (fun h2 => ?_) (fun h2 => ?_)
 ·have q3 : (v = true) := auq h2
  rw [if_pos q3] at hF
  have hF := oc hF; obtain ⟨c4, hF⟩ := hF
  repeat (first | refine chk.ga ?_ | simp -dsimp [h2])
  refine abr.split (fun h5 => ?_) (fun h5 => ?_)
  ·have q6 : ¬ (byteAt s 0 < 65) := auq h5
   have z7 : ¬ (((byteAt s 0 : Nat) : Int) < (65 : Int)) := auz
   rw [if_neg q6] at hF
   repeat (first | refine chk.ga ?_ | simp -dsimp [h2, h5, q6, z7])
   refine abr.split (fun h8 => ?_) (fun h8 => ?_)
   ·have q9 : (90 < byteAt s 0) := auq h8
    have z10 : ((90 : Int) < ((byteAt s 0 : Nat) : Int)) := auz
    rw [if_pos q9] at hF
    cases hF
    repeat (first | refine chk.ga ?_ | simp -dsimp [h2, h5, q6, z7, h8, z10])
    all_goals (try omega)
   ·have q9 : ¬ (90 < byteAt s 0) := auq h8
    have z10 : ¬ ((90 : Int) < ((byteAt s 0 : Nat) : Int)) := auz
    rw [if_neg q9] at hF
    repeat (first | refine chk.ga ?_ | simp -dsimp [h2, h5, q6, z7, h8, q9, z10])
    have hF := ob hF; obtain ⟨o', ho22, hF⟩ := hF
    refine ALoop.goU ⟨[(0, .lit (.string s)), (3, .lit (.int .i64 (1 : Int)))], []⟩ (Gh.to3 (by simp) (by first | simp -dsimp [h2, h5, q6, z7, h8, q9, z10]; done | simp_all)) ?_
    refine (C.impl_NameValid_l1 B hB1 hB2 s 1 o' ho22) _ rfl _ ?_
    rcases o' with r0 | sx
    ·dsimp only at hF
     cases hF
     intro st h
     simpa using h
    ·dsimp only at hF
     cases hF
     repeat (first | refine chk.ga ?_ | simp -dsimp)
     all_goals (try omega)
  ·have q6 : (byteAt s 0 < 65) := auq h5
   have z7 : (((byteAt s 0 : Nat) : Int) < (65 : Int)) := auz
   rw [if_pos q6] at hF
   cases hF
   repeat (first | refine chk.ga ?_ | simp -dsimp [h2, h5, q6, z7])
   all_goals (try omega)
 ·have q3 : ¬ (v = true) := auq h2
  rw [if_neg q3] at hF
  cases hF
  repeat (first | refine chk.ga ?_ | simp -dsimp [h2, q3])
  all_goals (try omega)

set_option maxRecDepth 100000 in
set_option maxHeartbeats 4000000 in
theorem C.impl_argOk (B : Nat) (hB1 : 67108864 ≤ B) (hB2 : B ≤ 9223372036854775807) (w : List Vl.Data) (t : Vl.Ty) (r : Bool) (hF : F.impl_argOk w t = some r) : PureCall Try.prog B 202 [.arr (List.map Vl.Data.c w), .agg [.lit (.int .i64 t.data), .lit (.int .i64 t.index)]] (.lit (.bool r)) := by
 unfold F.impl_argOk at hF
 refine PureCall.enterLe Try.func202 (by kernel_rfl) rfl Try.ntmps202 (by simp) (by simp) ?_
 repeat (first | refine chk.ga ?_ | simp -dsimp)
 refine abr.split (fun h1 => ?_) (fun h1 => ?_)
 ·have q2 : ¬ (dec (eq2 (t.data, t.index) ((-1), 0)) = true) := auq h1
  rw [if_neg q2] at hF
  repeat (first | refine chk.ga ?_ | simp -dsimp [h1, q2])
  have hF := ob hF; obtain ⟨v, e3, hF⟩ := hF
  refine ((C.impl_within B hB1 hB2 t.data (0 : Int) (IntKind.i64.wrap ((w.length : Int) - 1)) v e3)).goW (by first | simp [h1, q2]; done | simp_all) (by simp) ?_
  repeat (first | refine chk.ga ?_ | simp -dsimp [h1, q2])
  refine abr.split (fun h4 => ?_) (fun h4 => ?_)
  ·have q5 : (v = true) := auq h4
   rw [if_pos q5] at hF
   repeat (first | refine chk.ga ?_ | simp -dsimp [h1, q2, h4])
   have hF := ob hF; obtain ⟨v6, e7, hF⟩ := hF
   refine ((C.impl_within B hB1 hB2 t.index (-1 : Int) (3 : Int) v6 e7)).goW (by first | simp [h1, q2, h4]; done | simp_all) (by simp) ?_
   cases hF
   repeat (first | refine chk.ga ?_ | simp -dsimp [h1, q2, h4])
   all_goals (try omega)
  ·have q5 : ¬ (v = true) := auq h4
   rw [if_neg q5] at hF
   cases hF
   repeat (first | refine chk.ga ?_ | simp -dsimp [h1, q2, h4, q5])
   all_goals (try omega)
 ·have q2 : (dec (eq2 (t.data, t.index) ((-1), 0)) = true) := auq h1
  rw [if_pos q2] at hF
  cases hF
  repeat (first | refine chk.ga ?_ | simp -dsimp [h1, q2])
  all_goals (try omega)

set_option maxRecDepth 100000 in
set_option maxHeartbeats 4000000 in
theorem C.impl_ctorOk_1 (B : Nat) (hB1 : 67108864 ≤ B) (hB2 : B ≤ 9223372036854775807) (t : Vl.Ty) (a1 : List Vl.Data) (r : Bool) (hF : F.impl_ctorOk_1 t a1 = some r) : PureCall Try.prog B 201 [.agg [.lit (.int .i64 t.data), .lit (.int .i64 t.index)], .rptr [.arr (List.map Vl.Data.c a1)] 0] (.lit (.bool r)) := by
 unfold F.impl_ctorOk_1 at hF
 refine PureCall.enterLe Try.func201 (by kernel_rfl) rfl Try.ntmps201 (by simp) (by simp) ?_
 repeat (first | refine chk.ga ?_ | simp -dsimp)
 have hF := ob hF; obtain ⟨v, e1, hF⟩ := hF
 refine ((C.impl_argOk B hB1 hB2 a1 t v e1)).goW (by simp) (by simp) ?_
 cases hF
 repeat (first | refine chk.ga ?_ | simp -dsimp)
 all_goals (try omega)

set_option maxRecDepth 100000 in
set_option maxHeartbeats 4000000 in
theorem CC.slices_IndexFunc_Type__impl_ctorOk_1_l1 (B : Nat) (hB1 : 67108864 ≤ B) (hB2 : B ≤ 9223372036854775807) (s : List Vl.Ty) (k0 : List Vl.Data) : (∀ (i : Nat) (o : Lo Int Unit), F.slices_IndexFunc_Type__impl_ctorOk_1_l1 s k0 i = some o → ∀ (c : Code), navO [1, 0, 1, 0, 0] (bodyOf Try.f219) = some c → ∀ (Q : Exit → ASt → Prop), o.post (fun r => ∀ st, Post Try.prog Try.f219 (fun r' _ => r'.le (.lit (.int .i64 r))) .ret st → Q .ret st) (fun s => Q (.exit 0) ⟨[], []⟩) → ALoopU Try.prog B 0 19 (hold c .mk) ⟨[(0, .arr (List.map Vl.Ty.c s)), (1, .fn (.func 201) [] [.rptr [.arr (List.map Vl.Data.c k0)] 0]), (7, .lit (.int .i64 (s.length : Int))), (8, .lit (.int .i64 (i : Int)))], []⟩ (hold Q .mk)) := by
 refine F.slices_IndexFunc_Type__impl_ctorOk_1_l1.partial_correctness s k0
  (fun i o => ∀ (c : Code), navO [1, 0, 1, 0, 0] (bodyOf Try.f219) = some c → ∀ (Q : Exit → ASt → Prop), o.post (fun r => ∀ st, Post Try.prog Try.f219 (fun r' _ => r'.le (.lit (.int .i64 r))) .ret st → Q .ret st) (fun s => Q (.exit 0) ⟨[], []⟩) → ALoopU Try.prog B 0 19 (hold c .mk) ⟨[(0, .arr (List.map Vl.Ty.c s)), (1, .fn (.func 201) [] [.rptr [.arr (List.map Vl.Data.c k0)] 0]), (7, .lit (.int .i64 (s.length : Int))), (8, .lit (.int .i64 (i : Int)))], []⟩ (hold Q .mk))
  ?_
 ·intro _f_slices_IndexFunc_Type__impl_ctorOk_1_l1 ih_slices_IndexFunc_Type__impl_ctorOk_1_l1 i o hF
  intro c hc Q hq
  obtain rfl : c = _ := navEq hc rfl
  refine ALoopU.know fun hk hs => ?_
  have b0 := hk 0
  simp -dsimp at b0
  clear hk hs
  refine ALoopU.enter ?_
  repeat (first | refine chk.ga ?_ | simp -dsimp)
  refine abr.split (fun h1 => ?_) (fun h1 => ?_)
  ·have q2 : (i < s.length) := auq h1
   have z3 : ((i : Int) < (s.length : Int)) := auz
   rw [if_pos q2] at hF
   have hF := ob hF; obtain ⟨x, e4, hF⟩ := hF
   have le4 := lt_of_get e4
   repeat (first | refine chk.ga ?_ | simp -dsimp [h1, z3, ↓e4])
   have hF := ob hF; obtain ⟨v, e5, hF⟩ := hF
   refine ((C.impl_ctorOk_1 B hB1 hB2 x k0 v e5)).goW (by first | simp [h1, z3, ↓e4]; done | simp_all) (by simp) ?_
   repeat (first | refine chk.ga ?_ | simp -dsimp [h1, z3, ↓e4])
   refine abr.split (fun h6 => ?_) (fun h6 => ?_)
   ·have q7 : (v = true) := auq h6
    rw [if_pos q7] at hF
    cases hF
    repeat (first | refine chk.ga ?_ | simp -dsimp [h1, z3, ↓e4, h6])
    refine Leave.go _ (Gh.refl _) (hq _ ?_)
    repeat (first | refine chk.ga ?_ | simp -dsimp [h1, z3, ↓e4, h6])
   ·have q7 : ¬ (v = true) := auq h6
    rw [if_neg q7] at hF
    have w8 : IntKind.i64.wrap ((i : Int) + 1) = (i : Int) + 1 := wrap_in (by omega) (by omega)
    repeat (first | refine chk.ga ?_ | simp -dsimp [h1, z3, ↓e4, h6, q7, w8])
    refine Again.go ⟨[(0, .arr (List.map Vl.Ty.c s)), (1, .fn (.func 201) [] [.rptr [.arr (List.map Vl.Data.c k0)] 0]), (7, .lit (.int .i64 (s.length : Int))), (8, .lit (.int .i64 ((i + 1) : Int)))], []⟩ (Gh.to3 (by simp) (by first | simp -dsimp [h1, z3, ↓e4, h6, q7, w8]; done | simp_all)) ?_
    exact (ih_slices_IndexFunc_Type__impl_ctorOk_1_l1 (i + 1) o hF) _ rfl _ hq
  ·have q2 : ¬ (i < s.length) := auq h1
   have z3 : ¬ ((i : Int) < (s.length : Int)) := auz
   rw [if_neg q2] at hF
   cases hF
   repeat (first | refine chk.ga ?_ | simp -dsimp [h1, q2, z3])
   refine Leave.go ⟨[], []⟩ (Gh.to3 (by simp) (by first | simp -dsimp [h1, q2, z3]; done | simp_all)) ?_
   exact hq

theorem C.slices_IndexFunc_Type__impl_ctorOk_1_l1 (B : Nat) (hB1 : 67108864 ≤ B) (hB2 : B ≤ 9223372036854775807) (s : List Vl.Ty) (k0 : List Vl.Data) (i : Nat) (o : Lo Int Unit) (hF : F.slices_IndexFunc_Type__impl_ctorOk_1_l1 s k0 i = some o) : ∀ (c : Code), navO [1, 0, 1, 0, 0] (bodyOf Try.f219) = some c → ∀ (Q : Exit → ASt → Prop), o.post (fun r => ∀ st, Post Try.prog Try.f219 (fun r' _ => r'.le (.lit (.int .i64 r))) .ret st → Q .ret st) (fun s => Q (.exit 0) ⟨[], []⟩) → ALoopU Try.prog B 0 19 (hold c .mk) ⟨[(0, .arr (List.map Vl.Ty.c s)), (1, .fn (.func 201) [] [.rptr [.arr (List.map Vl.Data.c k0)] 0]), (7, .lit (.int .i64 (s.length : Int))), (8, .lit (.int .i64 (i : Int)))], []⟩ (hold Q .mk) :=
 (CC.slices_IndexFunc_Type__impl_ctorOk_1_l1 B hB1 hB2 s k0) i o hF

set_option maxRecDepth 100000 in
set_option maxHeartbeats 4000000 in
theorem C.slices_IndexFunc_Type__impl_ctorOk_1 (B : Nat) (hB1 : 67108864 ≤ B) (hB2 : B ≤ 9223372036854775807) (s : List Vl.Ty) (k0 : List Vl.Data) (r : Int) (hF : F.slices_IndexFunc_Type__impl_ctorOk_1 s k0 = some r) : PureCall Try.prog B 219 [.arr (List.map Vl.Ty.c s), .fn (.func 201) [] [.rptr [.arr (List.map Vl.Data.c k0)] 0]] (.lit (.int .i64 r)) := by
 unfold F.slices_IndexFunc_Type__impl_ctorOk_1 at hF
 refine PureCall.enterLe Try.func219 (by kernel_rfl) rfl Try.ntmps219 (by simp) (by simp) ?_
 repeat (first | refine chk.ga ?_ | simp -dsimp)
 have hF := ob hF; obtain ⟨o', ho9, hF⟩ := hF
 refine ALoop.goU ⟨[(0, .arr (List.map Vl.Ty.c s)), (1, .fn (.func 201) [] [.rptr [.arr (List.map Vl.Data.c k0)] 0]), (7, .lit (.int .i64 (s.length : Int))), (8, .lit (.int .i64 (0 : Int)))], []⟩ (Gh.to3 (by simp) (by simp -dsimp)) ?_
 refine (C.slices_IndexFunc_Type__impl_ctorOk_1_l1 B hB1 hB2 s k0 0 o' ho9) _ rfl _ ?_
 rcases o' with r0 | sx
 ·dsimp only at hF
  cases hF
  intro st h
  simpa using h
 ·dsimp only at hF
  cases hF
  repeat (first | refine chk.ga ?_ | simp -dsimp)
  all_goals (try omega)

set_option maxRecDepth 100000 in
set_option maxHeartbeats 4000000 in
theorem C.slices_ContainsFunc_Type__impl_ctorOk_1 (B : Nat) (hB1 : 67108864 ≤ B) (hB2 : B ≤ 9223372036854775807) (s : List Vl.Ty) (k0 : List Vl.Data) (r : Bool) (hF : F.slices_ContainsFunc_Type__impl_ctorOk_1 s k0 = some r) : PureCall Try.prog B 200 [.arr (List.map Vl.Ty.c s), .fn (.func 201) [] [.rptr [.arr (List.map Vl.Data.c k0)] 0]] (.lit (.bool r)) := by
 unfold F.slices_ContainsFunc_Type__impl_ctorOk_1 at hF
 refine PureCall.enterLe Try.func200 (by kernel_rfl) rfl Try.ntmps200 (by simp) (by simp) ?_
 repeat (first | refine chk.ga ?_ | simp -dsimp)
 have hF := ob hF; obtain ⟨v, e1, hF⟩ := hF
 refine ((C.slices_IndexFunc_Type__impl_ctorOk_1 B hB1 hB2 s k0 v e1)).goW (by simp) (by simp) ?_
 cases hF
 repeat (first | refine chk.ga ?_ | simp -dsimp)
 all_goals (try omega)

set_option maxRecDepth 100000 in
set_option maxHeartbeats 4000000 in
theorem C.impl_ctorOk (B : Nat) (hB1 : 67108864 ≤ B) (hB2 : B ≤ 9223372036854775807) (w : List Vl.Data) (c' : Vl.Ctor) (r : Bool) (hF : F.impl_ctorOk w c' = some r) : PureCall Try.prog B 162 [.arr (List.map Vl.Data.c w), .agg [.lit (.string c'.name), .arr (List.map Vl.Ty.c c'.args), .lit (.int .i64 c'.index)]] (.lit (.bool r)) := by
 unfold F.impl_ctorOk at hF
 refine PureCall.enterLe Try.func162 (by kernel_rfl) rfl Try.ntmps162 (by simp) (by simp) ?_
 repeat (first | refine chk.ga ?_ | simp -dsimp)
 have hF := ob hF; obtain ⟨v, e1, hF⟩ := hF
 refine ((C.impl_NameValid B hB1 hB2 c'.name v e1)).goW (by simp) (by simp) ?_
 repeat (first | refine chk.ga ?_ | simp -dsimp)
 refine abr.split (fun h2 => ?_) (fun h2 => ?_)
 ·have q3 : (v = true) := auq h2
  rw [if_pos q3] at hF
  repeat (first | refine chk.ga ?_ | simp -dsimp [h2])
  refine abr.split (fun h4 => ?_) (fun h4 => ?_)
  ·have q5 : (c'.args.length ≤ 3) := auq h4
   have z6 : ((c'.args.length : Int) ≤ (3 : Int)) := auz
   rw [if_pos q5] at hF
   repeat (first | refine chk.ga ?_ | simp -dsimp [h2, h4, z6])
   have hF := ob hF; obtain ⟨v7, e8, hF⟩ := hF
   refine ((C.impl_within B hB1 hB2 c'.index (0 : Int) (3 : Int) v7 e8)).goW (by first | simp [h2, h4, z6]; done | simp_all) (by simp) ?_
   repeat (first | refine chk.ga ?_ | simp -dsimp [h2, h4, z6])
   refine abr.split (fun h9 => ?_) (fun h9 => ?_)
   ·have q10 : (v7 = true) := auq h9
    rw [if_pos q10] at hF
    repeat (first | refine chk.ga ?_ | simp -dsimp [h2, h4, z6, h9])
    have hF := ob hF; obtain ⟨v11, e12, hF⟩ := hF
    refine ((C.slices_ContainsFunc_Type__impl_ctorOk_1 B hB1 hB2 c'.args w v11 e12)).lend (by first | simp -dsimp [h2, h4, z6, h9]; done | simp_all) (by simp -dsimp) ?_
    cases hF
    repeat (first | refine chk.ga ?_ | simp -dsimp [h2, h4, z6, h9])
    all_goals (try omega)
   ·have q10 : ¬ (v7 = true) := auq h9
    rw [if_neg q10] at hF
    cases hF
    repeat (first | refine chk.ga ?_ | simp -dsimp [h2, h4, z6, h9, q10])
    all_goals (try omega)
  ·have q5 : ¬ (c'.args.length ≤ 3) := auq h4
   have z6 : ¬ ((c'.args.length : Int) ≤ (3 : Int)) := auz
   rw [if_neg q5] at hF
   cases hF
   repeat (first | refine chk.ga ?_ | simp -dsimp [h2, h4, q5, z6])
   all_goals (try omega)
 ·have q3 : ¬ (v = true) := auq h2
  rw [if_neg q3] at hF
  cases hF
  repeat (first | refine chk.ga ?_ | simp -dsimp [h2, q3])
  all_goals (try omega)

set_option maxRecDepth 100000 in
set_option maxHeartbeats 4000000 in
theorem CC.impl_WorldValid_l2 (B : Nat) (hB1 : 67108864 ≤ B) (hB2 : B ≤ 9223372036854775807) (w : List Vl.Data) (met4 : List ByteArray) (i : Nat) (x : Vl.Data) : (∀ (met26 : List ByteArray) (i27 : Nat) (o : Lo Bool (List ByteArray)), F.impl_WorldValid_l2 w met4 i x met26 i27 = some o → ∀ (b1 b2 : Nat), ¬ b1 = b2 → ∀ (c : Code), navO [1, 1, 1, 1, 0, 1, 0, 0, 1, 1, 0, 0, 1, 1, 1, 1, 0, 0] (bodyOf Try.f119) = some c → ∀ (Q : Exit → ASt → Ms → Prop), o.post (fun r => ∀ st, Post Try.prog Try.f119 (fun r' _ => r' = (.lit (.bool r))) .ret st → ∀ ms, Q .ret st ms) (fun s => Q (.exit 2) ⟨[(0, .arr (List.map Vl.Data.c w)), (3, .lit (.map (some b1))), (4, .lit (.map (some b2))), (14, .arr (List.map Vl.Data.c w)), (15, .lit (.int .i64 (w.length : Int))), (16, .lit (.int .i64 (i : Int)))], []⟩ [(b1, s), (b2, msIns met4 x.name)]) → MLoop Try.prog B 79 (hold c .mk) ⟨[(0, .arr (List.map Vl.Data.c w)), (3, .lit (.map (some b1))), (4, .lit (.map (some b2))), (14, .arr (List.map Vl.Data.c w)), (15, .lit (.int .i64 (w.length : Int))), (16, .lit (.int .i64 (i : Int))), (58, .arr (List.map Vl.Ctor.c x.ctors)), (59, .lit (.int .i64 (x.ctors.length : Int))), (60, .lit (.int .i64 (i27 : Int)))], []⟩ [(b1, met26), (b2, msIns met4 x.name)] (hold Q .mk)) := by
 refine F.impl_WorldValid_l2.partial_correctness w met4 i x
  (fun met26 i27 o => ∀ (b1 b2 : Nat), ¬ b1 = b2 → ∀ (c : Code), navO [1, 1, 1, 1, 0, 1, 0, 0, 1, 1, 0, 0, 1, 1, 1, 1, 0, 0] (bodyOf Try.f119) = some c → ∀ (Q : Exit → ASt → Ms → Prop), o.post (fun r => ∀ st, Post Try.prog Try.f119 (fun r' _ => r' = (.lit (.bool r))) .ret st → ∀ ms, Q .ret st ms) (fun s => Q (.exit 2) ⟨[(0, .arr (List.map Vl.Data.c w)), (3, .lit (.map (some b1))), (4, .lit (.map (some b2))), (14, .arr (List.map Vl.Data.c w)), (15, .lit (.int .i64 (w.length : Int))), (16, .lit (.int .i64 (i : Int)))], []⟩ [(b1, s), (b2, msIns met4 x.name)]) → MLoop Try.prog B 79 (hold c .mk) ⟨[(0, .arr (List.map Vl.Data.c w)), (3, .lit (.map (some b1))), (4, .lit (.map (some b2))), (14, .arr (List.map Vl.Data.c w)), (15, .lit (.int .i64 (w.length : Int))), (16, .lit (.int .i64 (i : Int))), (58, .arr (List.map Vl.Ctor.c x.ctors)), (59, .lit (.int .i64 (x.ctors.length : Int))), (60, .lit (.int .i64 (i27 : Int)))], []⟩ [(b1, met26), (b2, msIns met4 x.name)] (hold Q .mk))
  ?_
 ·intro _f_impl_WorldValid_l2 ih_impl_WorldValid_l2 met26 i27 o hF
  intro b1 b2 hb2 c hc Q hq
  obtain rfl : c = _ := navEq hc rfl
  refine MLoop.know fun hk hs => ?_
  have b0 := hk 0
  simp -dsimp at b0
  have b14 := hk 14
  simp -dsimp at b14
  have b58 := hk 58
  simp -dsimp at b58
  clear hk hs
  refine MLoop.enter ?_
  repeat (first | refine chk.ga ?_ | simp -dsimp [hb2])
  refine abr.split (fun h28 => ?_) (fun h28 => ?_)
  ·have q29 : (i27 < x.ctors.length) := auq h28
   have z30 : ((i27 : Int) < (x.ctors.length : Int)) := auz
   rw [if_pos q29] at hF
   have hF := ob hF; obtain ⟨x31, e32, hF⟩ := hF
   have le32 := lt_of_get e32
   repeat (first | refine chk.ga ?_ | simp -dsimp [hb2, h28, z30, ↓e32])
   have hF := ob hF; obtain ⟨v33, e34, hF⟩ := hF
   refine ((C.impl_ctorOk B hB1 hB2 w x31 v33 e34)).goW (by first | simp [hb2, h28, z30, ↓e32]; done | simp_all) (by simp) ?_
   repeat (first | refine chk.ga ?_ | simp -dsimp [hb2, h28, z30, ↓e32])
   refine abr.split (fun h35 => ?_) (fun h35 => ?_)
   ·have q36 : (v33 = true) := auq h35
    rw [if_pos q36] at hF
    repeat (first | refine chk.ga ?_ | simp -dsimp [hb2, h28, z30, ↓e32, h35])
    refine abr.split (fun h37 => ?_) (fun h37 => ?_)
    ·have q38 : (dec (x31.name ∈ met26) = true) := auq h37
     rw [if_pos q38] at hF
     cases hF
     repeat (first | refine chk.ga ?_ | simp -dsimp [hb2, h28, z30, ↓e32, h35, h37])
     refine LeaveM.go _ (Gh.refl _) (hq _ ?_ _)
     repeat (first | refine chk.ga ?_ | simp -dsimp [hb2, h28, z30, ↓e32, h35, h37])
    ·have q38 : ¬ (dec (x31.name ∈ met26) = true) := auq h37
     rw [if_neg q38] at hF
     have w39 : IntKind.i64.wrap ((i27 : Int) + 1) = (i27 : Int) + 1 := wrap_in (by omega) (by omega)
     repeat (first | refine chk.ga ?_ | simp -dsimp [hb2, h28, z30, ↓e32, h35, h37, q38, w39])
     refine AgainM.go ⟨[(0, .arr (List.map Vl.Data.c w)), (3, .lit (.map (some b1))), (4, .lit (.map (some b2))), (14, .arr (List.map Vl.Data.c w)), (15, .lit (.int .i64 (w.length : Int))), (16, .lit (.int .i64 (i : Int))), (58, .arr (List.map Vl.Ctor.c x.ctors)), (59, .lit (.int .i64 (x.ctors.length : Int))), (60, .lit (.int .i64 ((i27 + 1) : Int)))], []⟩ (Gh.to3 (by simp) (by first | simp -dsimp [hb2, h28, z30, ↓e32, h35, h37, q38, w39]; done | simp_all)) ?_
     exact (ih_impl_WorldValid_l2 (msIns met26 x31.name) (i27 + 1) o hF) b1 b2 hb2 _ rfl _ hq
   ·have q36 : ¬ (v33 = true) := auq h35
    rw [if_neg q36] at hF
    cases hF
    repeat (first | refine chk.ga ?_ | simp -dsimp [hb2, h28, z30, ↓e32, h35, q36])
    refine LeaveM.go _ (Gh.refl _) (hq _ ?_ _)
    repeat (first | refine chk.ga ?_ | simp -dsimp [hb2, h28, z30, ↓e32, h35, q36])
  ·have q29 : ¬ (i27 < x.ctors.length) := auq h28
   have z30 : ¬ ((i27 : Int) < (x.ctors.length : Int)) := auz
   rw [if_neg q29] at hF
   cases hF
   repeat (first | refine chk.ga ?_ | simp -dsimp [hb2, h28, q29, z30])
   refine LeaveM.go ⟨[(0, .arr (List.map Vl.Data.c w)), (3, .lit (.map (some b1))), (4, .lit (.map (some b2))), (14, .arr (List.map Vl.Data.c w)), (15, .lit (.int .i64 (w.length : Int))), (16, .lit (.int .i64 (i : Int)))], []⟩ (Gh.to3 (by simp) (by first | simp -dsimp [hb2, h28, q29, z30]; done | simp_all)) ?_
   exact hq

theorem C.impl_WorldValid_l2 (B : Nat) (hB1 : 67108864 ≤ B) (hB2 : B ≤ 9223372036854775807) (w : List Vl.Data) (met4 : List ByteArray) (i : Nat) (x : Vl.Data) (met26 : List ByteArray) (i27 : Nat) (o : Lo Bool (List ByteArray)) (hF : F.impl_WorldValid_l2 w met4 i x met26 i27 = some o) : ∀ (b1 b2 : Nat), ¬ b1 = b2 → ∀ (c : Code), navO [1, 1, 1, 1, 0, 1, 0, 0, 1, 1, 0, 0, 1, 1, 1, 1, 0, 0] (bodyOf Try.f119) = some c → ∀ (Q : Exit → ASt → Ms → Prop), o.post (fun r => ∀ st, Post Try.prog Try.f119 (fun r' _ => r' = (.lit (.bool r))) .ret st → ∀ ms, Q .ret st ms) (fun s => Q (.exit 2) ⟨[(0, .arr (List.map Vl.Data.c w)), (3, .lit (.map (some b1))), (4, .lit (.map (some b2))), (14, .arr (List.map Vl.Data.c w)), (15, .lit (.int .i64 (w.length : Int))), (16, .lit (.int .i64 (i : Int)))], []⟩ [(b1, s), (b2, msIns met4 x.name)]) → MLoop Try.prog B 79 (hold c .mk) ⟨[(0, .arr (List.map Vl.Data.c w)), (3, .lit (.map (some b1))), (4, .lit (.map (some b2))), (14, .arr (List.map Vl.Data.c w)), (15, .lit (.int .i64 (w.length : Int))), (16, .lit (.int .i64 (i : Int))), (58, .arr (List.map Vl.Ctor.c x.ctors)), (59, .lit (.int .i64 (x.ctors.length : Int))), (60, .lit (.int .i64 (i27 : Int)))], []⟩ [(b1, met26), (b2, msIns met4 x.name)] (hold Q .mk) :=
 (CC.impl_WorldValid_l2 B hB1 hB2 w met4 i x) met26 i27 o hF

set_option maxRecDepth 100000 in
set_option maxHeartbeats 4000000 in
theorem CC.impl_WorldValid_l1 (B : Nat) (hB1 : 67108864 ≤ B) (hB2 : B ≤ 9223372036854775807) (w : List Vl.Data) : (∀ (met : List ByteArray) (met4 : List ByteArray) (i : Nat) (o : Lo Bool ((List ByteArray) × (List ByteArray))), F.impl_WorldValid_l1 w met met4 i = some o → ∀ (b1 b2 : Nat), ¬ b1 = b2 → ∀ (c : Code), navO [1, 1, 1, 1, 0, 1, 0, 0] (bodyOf Try.f119) = some c → ∀ (Q : Exit → ASt → Ms → Prop), o.post (fun r => ∀ st, Post Try.prog Try.f119 (fun r' _ => r' = (.lit (.bool r))) .ret st → ∀ ms, Q .ret st ms) (fun s => Q (.exit 0) ⟨[], []⟩ [(b1, s.1), (b2, s.2)]) → MLoop Try.prog B 79 (hold c .mk) ⟨[(0, .arr (List.map Vl.Data.c w)), (3, .lit (.map (some b1))), (4, .lit (.map (some b2))), (14, .arr (List.map Vl.Data.c w)), (15, .lit (.int .i64 (w.length : Int))), (16, .lit (.int .i64 (i : Int)))], []⟩ [(b1, met), (b2, met4)] (hold Q .mk)) := by
 refine F.impl_WorldValid_l1.partial_correctness w
  (fun met met4 i o => ∀ (b1 b2 : Nat), ¬ b1 = b2 → ∀ (c : Code), navO [1, 1, 1, 1, 0, 1, 0, 0] (bodyOf Try.f119) = some c → ∀ (Q : Exit → ASt → Ms → Prop), o.post (fun r => ∀ st, Post Try.prog Try.f119 (fun r' _ => r' = (.lit (.bool r))) .ret st → ∀ ms, Q .ret st ms) (fun s => Q (.exit 0) ⟨[], []⟩ [(b1, s.1), (b2, s.2)]) → MLoop Try.prog B 79 (hold c .mk) ⟨[(0, .arr (List.map Vl.Data.c w)), (3, .lit (.map (some b1))), (4, .lit (.map (some b2))), (14, .arr (List.map Vl.Data.c w)), (15, .lit (.int .i64 (w.length : Int))), (16, .lit (.int .i64 (i : Int)))], []⟩ [(b1, met), (b2, met4)] (hold Q .mk))
  ?_
 ·intro _f_impl_WorldValid_l1 ih_impl_WorldValid_l1 met met4 i o hF
  intro b1 b2 hb2 c hc Q hq
  obtain rfl : c = _ := navEq hc rfl
  refine MLoop.know fun hk hs => ?_
  have b0 := hk 0
  simp -dsimp at b0
  have b14 := hk 14
  simp -dsimp at b14
  clear hk hs
  refine MLoop.enter ?_
  repeat (first | refine chk.ga ?_ | simp -dsimp [hb2])
  refine abr.split (fun h5 => ?_) (fun h5 => ?_)
  ·have q6 : (i < w.length) := auq h5
   have z7 : ((i : Int) < (w.length : Int)) := auz
   rw [if_pos q6] at hF
   have hF := ob hF; obtain ⟨x, e8, hF⟩ := hF
   have le8 := lt_of_get e8
   repeat (first | refine chk.ga ?_ | simp -dsimp [hb2, h5, z7, ↓e8])
   refine abr.split (fun h9 => ?_) (fun h9 => ?_)
   ·have q10 : (x.name.size = 1) := auq h9
    have z11 : ((x.name.size : Int) = (1 : Int)) := auz
    rw [if_pos q10] at hF
    have hF := oc hF; obtain ⟨c12, hF⟩ := hF
    repeat (first | refine chk.ga ?_ | simp -dsimp [hb2, h5, z7, ↓e8, h9, z11])
    refine abr.split (fun h13 => ?_) (fun h13 => ?_)
    ·have q14 : ¬ (byteAt x.name 0 < 65) := auq h13
     have z15 : ¬ (((byteAt x.name 0 : Nat) : Int) < (65 : Int)) := auz
     rw [if_neg q14] at hF
     repeat (first | refine chk.ga ?_ | simp -dsimp [hb2, h5, z7, ↓e8, h9, z11, h13, q14, z15])
     refine abr.split (fun h16 => ?_) (fun h16 => ?_)
     ·have q17 : ¬ (90 < byteAt x.name 0) := auq h16
      have z18 : ¬ ((90 : Int) < ((byteAt x.name 0 : Nat) : Int)) := auz
      rw [if_neg q17] at hF
      repeat (first | refine chk.ga ?_ | simp -dsimp [hb2, h5, z7, ↓e8, h9, z11, h13, q14, z15, h16, q17, z18])
      refine abr.split (fun h19 => ?_) (fun h19 => ?_)
      ·have q20 : ¬ (x.name.toList = (⟨#[73]⟩ : ByteArray).toList) := auq h19
       rw [if_neg q20] at hF
       repeat (first | refine chk.ga ?_ | simp -dsimp [hb2, h5, z7, ↓e8, h9, z11, h13, q14, z15, h16, q17, z18, h19, q20])
       refine abr.split (fun h21 => ?_) (fun h21 => ?_)
       ·have q22 : ¬ (dec (x.name ∈ met4) = true) := auq h21
        rw [if_neg q22] at hF
        repeat (first | refine chk.ga ?_ | simp -dsimp [hb2, h5, z7, ↓e8, h9, z11, h13, q14, z15, h16, q17, z18, h19, q20, h21, q22])
        have hF := ob hF; obtain ⟨v, e23, hF⟩ := hF
        refine ((C.impl_within B hB1 hB2 (x.ctors.length : Int) (1 : Int) (4 : Int) v e23)).goW (by first | simp [hb2, h5, z7, ↓e8, h9, z11, h13, q14, z15, h16, q17, z18, h19, q20, h21, q22]; done | simp_all) (by simp) ?_
        repeat (first | refine chk.ga ?_ | simp -dsimp [hb2, h5, z7, ↓e8, h9, z11, h13, q14, z15, h16, q17, z18, h19, q20, h21, q22])
        refine abr.split (fun h24 => ?_) (fun h24 => ?_)
        ·have q25 : ¬ (v = true) := auq h24
         rw [if_neg q25] at hF
         cases hF
         repeat (first | refine chk.ga ?_ | simp -dsimp [hb2, h5, z7, ↓e8, h9, z11, h13, q14, z15, h16, q17, z18, h19, q20, h21, q22, h24, q25])
         refine LeaveM.go _ (Gh.refl _) (hq _ ?_ _)
         repeat (first | refine chk.ga ?_ | simp -dsimp [hb2, h5, z7, ↓e8, h9, z11, h13, q14, z15, h16, q17, z18, h19, q20, h21, q22, h24, q25])
        ·have q25 : (v = true) := auq h24
         rw [if_pos q25] at hF
         repeat (first | refine chk.ga ?_ | simp -dsimp [hb2, h5, z7, ↓e8, h9, z11, h13, q14, z15, h16, q17, z18, h19, q20, h21, q22, h24, q25])
         have hF := ob hF; obtain ⟨o', ho40, hF⟩ := hF
         refine MLoop.goU ⟨[(0, .arr (List.map Vl.Data.c w)), (3, .lit (.map (some b1))), (4, .lit (.map (some b2))), (14, .arr (List.map Vl.Data.c w)), (15, .lit (.int .i64 (w.length : Int))), (16, .lit (.int .i64 (i : Int))), (58, .arr (List.map Vl.Ctor.c x.ctors)), (59, .lit (.int .i64 (x.ctors.length : Int))), (60, .lit (.int .i64 (0 : Int)))], []⟩ (Gh.to3 (by simp) (by first | simp -dsimp [hb2, h5, z7, ↓e8, h9, z11, h13, q14, z15, h16, q17, z18, h19, q20, h21, q22, h24, q25]; done | simp_all)) ?_
         refine (C.impl_WorldValid_l2 B hB1 hB2 w met4 i x met 0 o' ho40) b1 b2 hb2 _ rfl _ ?_
         rcases o' with r0 | sx
         ·dsimp only at hF
          cases hF
          intro st h ms
          simp -dsimp
          refine LeaveM.go st (Gh.refl _) (hq st h ms)
         ·dsimp only at hF
          have hF := oc hF; obtain ⟨c41, hF⟩ := hF
          have w42 : IntKind.i64.wrap ((i : Int) + 1) = (i : Int) + 1 := wrap_in (by omega) (by omega)
          repeat (first | refine chk.ga ?_ | simp -dsimp [w42])
          refine AgainM.go ⟨[(0, .arr (List.map Vl.Data.c w)), (3, .lit (.map (some b1))), (4, .lit (.map (some b2))), (14, .arr (List.map Vl.Data.c w)), (15, .lit (.int .i64 (w.length : Int))), (16, .lit (.int .i64 ((i + 1) : Int)))], []⟩ (Gh.to3 (by simp) (by first | simp -dsimp [w42]; done | simp_all)) ?_
          exact (ih_impl_WorldValid_l1 sx (msIns met4 x.name) (i + 1) o hF) b1 b2 hb2 _ rfl _ hq
       ·have q22 : (dec (x.name ∈ met4) = true) := auq h21
        rw [if_pos q22] at hF
        cases hF
        repeat (first | refine chk.ga ?_ | simp -dsimp [hb2, h5, z7, ↓e8, h9, z11, h13, q14, z15, h16, q17, z18, h19, q20, h21, q22])
        refine LeaveM.go _ (Gh.refl _) (hq _ ?_ _)
        repeat (first | refine chk.ga ?_ | simp -dsimp [hb2, h5, z7, ↓e8, h9, z11, h13, q14, z15, h16, q17, z18, h19, q20, h21, q22])
      ·have q20 : (x.name.toList = (⟨#[73]⟩ : ByteArray).toList) := auq h19
       rw [if_pos q20] at hF
       cases hF
       repeat (first | refine chk.ga ?_ | simp -dsimp [hb2, h5, z7, ↓e8, h9, z11, h13, q14, z15, h16, q17, z18, h19, q20])
       refine LeaveM.go _ (Gh.refl _) (hq _ ?_ _)
       repeat (first | refine chk.ga ?_ | simp -dsimp [hb2, h5, z7, ↓e8, h9, z11, h13, q14, z15, h16, q17, z18, h19, q20])
     ·have q17 : (90 < byteAt x.name 0) := auq h16
      have z18 : ((90 : Int) < ((byteAt x.name 0 : Nat) : Int)) := auz
      rw [if_pos q17] at hF
      cases hF
      repeat (first | refine chk.ga ?_ | simp -dsimp [hb2, h5, z7, ↓e8, h9, z11, h13, q14, z15, h16, q17, z18])
      refine LeaveM.go _ (Gh.refl _) (hq _ ?_ _)
      repeat (first | refine chk.ga ?_ | simp -dsimp [hb2, h5, z7, ↓e8, h9, z11, h13, q14, z15, h16, q17, z18])
    ·have q14 : (byteAt x.name 0 < 65) := auq h13
     have z15 : (((byteAt x.name 0 : Nat) : Int) < (65 : Int)) := auz
     rw [if_pos q14] at hF
     cases hF
     repeat (first | refine chk.ga ?_ | simp -dsimp [hb2, h5, z7, ↓e8, h9, z11, h13, q14, z15])
     refine LeaveM.go _ (Gh.refl _) (hq _ ?_ _)
     repeat (first | refine chk.ga ?_ | simp -dsimp [hb2, h5, z7, ↓e8, h9, z11, h13, q14, z15])
   ·have q10 : ¬ (x.name.size = 1) := auq h9
    have z11 : ¬ ((x.name.size : Int) = (1 : Int)) := auz
    rw [if_neg q10] at hF
    cases hF
    repeat (first | refine chk.ga ?_ | simp -dsimp [hb2, h5, z7, ↓e8, h9, q10, z11])
    refine LeaveM.go _ (Gh.refl _) (hq _ ?_ _)
    repeat (first | refine chk.ga ?_ | simp -dsimp [hb2, h5, z7, ↓e8, h9, q10, z11])
  ·have q6 : ¬ (i < w.length) := auq h5
   have z7 : ¬ ((i : Int) < (w.length : Int)) := auz
   rw [if_neg q6] at hF
   cases hF
   repeat (first | refine chk.ga ?_ | simp -dsimp [hb2, h5, q6, z7])
   refine LeaveM.go ⟨[], []⟩ (Gh.to3 (by simp) (by first | simp -dsimp [hb2, h5, q6, z7]; done | simp_all)) ?_
   exact hq

theorem C.impl_WorldValid_l1 (B : Nat) (hB1 : 67108864 ≤ B) (hB2 : B ≤ 9223372036854775807) (w : List Vl.Data) (met : List ByteArray) (met4 : List ByteArray) (i : Nat) (o : Lo Bool ((List ByteArray) × (List ByteArray))) (hF : F.impl_WorldValid_l1 w met met4 i = some o) : ∀ (b1 b2 : Nat), ¬ b1 = b2 → ∀ (c : Code), navO [1, 1, 1, 1, 0, 1, 0, 0] (bodyOf Try.f119) = some c → ∀ (Q : Exit → ASt → Ms → Prop), o.post (fun r => ∀ st, Post Try.prog Try.f119 (fun r' _ => r' = (.lit (.bool r))) .ret st → ∀ ms, Q .ret st ms) (fun s => Q (.exit 0) ⟨[], []⟩ [(b1, s.1), (b2, s.2)]) → MLoop Try.prog B 79 (hold c .mk) ⟨[(0, .arr (List.map Vl.Data.c w)), (3, .lit (.map (some b1))), (4, .lit (.map (some b2))), (14, .arr (List.map Vl.Data.c w)), (15, .lit (.int .i64 (w.length : Int))), (16, .lit (.int .i64 (i : Int)))], []⟩ [(b1, met), (b2, met4)] (hold Q .mk) :=
 (CC.impl_WorldValid_l1 B hB1 hB2 w) met met4 i o hF

set_option maxRecDepth 100000 in
set_option maxHeartbeats 4000000 in
theorem C.impl_WorldValid (B : Nat) (hB1 : 67108864 ≤ B) (hB2 : B ≤ 9223372036854775807) (w : List Vl.Data) (r : Bool) (hF : F.impl_WorldValid w = some r) : PureCall Try.prog B 119 [.arr (List.map Vl.Data.c w)] (.lit (.bool r)) := by
 unfold F.impl_WorldValid at hF
 refine PureCall.enterM Try.func119 (by kernel_rfl) rfl Try.ntmps119 (by simp) ?_
 repeat (first | refine chk.ga ?_ | simp -dsimp)
 refine abr.split (fun h1 => ?_) (fun h1 => ?_)
 ·have q2 : (4 < w.length) := auq h1
  have z3 : ((4 : Int) < (w.length : Int)) := auz
  rw [if_pos q2] at hF
  cases hF
  repeat (first | refine chk.ga ?_ | simp -dsimp [h1, z3])
  all_goals (try omega)
 ·have q2 : ¬ (4 < w.length) := auq h1
  have z3 : ¬ ((4 : Int) < (w.length : Int)) := auz
  rw [if_neg q2] at hF
  repeat (first | refine chk.ga ?_ | simp -dsimp [h1, q2, z3])
  refine AMake.go fun b1 hb1 => ?_
  repeat (first | refine chk.ga ?_ | simp -dsimp [h1, q2, z3])
  refine AMake.go fun b2 hb2 => ?_
  simp at hb2
  repeat (first | refine chk.ga ?_ | simp -dsimp [h1, q2, z3, hb2])
  have hF := ob hF; obtain ⟨o'44, ho43, hF⟩ := hF
  refine MLoop.goU ⟨[(0, .arr (List.map Vl.Data.c w)), (3, .lit (.map (some b1))), (4, .lit (.map (some b2))), (14, .arr (List.map Vl.Data.c w)), (15, .lit (.int .i64 (w.length : Int))), (16, .lit (.int .i64 (0 : Int)))], []⟩ (Gh.to3 (by simp) (by first | simp -dsimp [h1, q2, z3, hb2]; done | simp_all)) ?_
  refine (C.impl_WorldValid_l1 B hB1 hB2 w [] [] 0 o'44 ho43) b1 b2 hb2 _ rfl _ ?_
  rcases o'44 with r046 | sx45
  ·dsimp only at hF
   cases hF
   intro st h ms
   simpa using h
  ·dsimp only at hF
   cases hF
   repeat (first | refine chk.ga ?_ | simp -dsimp)
   all_goals (try omega)

set_option maxRecDepth 100000 in
set_option maxHeartbeats 4000000 in
theorem C.impl_typeOk (B : Nat) (hB1 : 67108864 ≤ B) (hB2 : B ≤ 9223372036854775807) (w : List Vl.Data) (t : Vl.Ty) (r : Bool) (hF : F.impl_typeOk w t = some r) : PureCall Try.prog B 89 [.arr (List.map Vl.Data.c w), .agg [.lit (.int .i64 t.data), .lit (.int .i64 t.index)]] (.lit (.bool r)) := by
 unfold F.impl_typeOk at hF
 refine PureCall.enterLe Try.func89 (by kernel_rfl) rfl Try.ntmps89 (by simp) (by simp) ?_
 repeat (first | refine chk.ga ?_ | simp -dsimp)
 refine abr.split (fun h1 => ?_) (fun h1 => ?_)
 ·have q2 : ¬ (dec (eq2 (t.data, t.index) ((-1), 0)) = true) := auq h1
  rw [if_neg q2] at hF
  repeat (first | refine chk.ga ?_ | simp -dsimp [h1, q2])
  have hF := ob hF; obtain ⟨v, e3, hF⟩ := hF
  refine ((C.impl_within B hB1 hB2 t.data (0 : Int) (IntKind.i64.wrap ((w.length : Int) - 1)) v e3)).goW (by first | simp [h1, q2]; done | simp_all) (by simp) ?_
  repeat (first | refine chk.ga ?_ | simp -dsimp [h1, q2])
  refine abr.split (fun h4 => ?_) (fun h4 => ?_)
  ·have q5 : (v = true) := auq h4
   rw [if_pos q5] at hF
   repeat (first | refine chk.ga ?_ | simp -dsimp [h1, q2, h4])
   have hF := ob hF; obtain ⟨v6, e7, hF⟩ := hF
   refine ((C.impl_within B hB1 hB2 t.index (0 : Int) (3 : Int) v6 e7)).goW (by first | simp [h1, q2, h4]; done | simp_all) (by simp) ?_
   cases hF
   repeat (first | refine chk.ga ?_ | simp -dsimp [h1, q2, h4])
   all_goals (try omega)
  ·have q5 : ¬ (v = true) := auq h4
   rw [if_neg q5] at hF
   cases hF
   repeat (first | refine chk.ga ?_ | simp -dsimp [h1, q2, h4, q5])
   all_goals (try omega)
 ·have q2 : (dec (eq2 (t.data, t.index) ((-1), 0)) = true) := auq h1
  rw [if_pos q2] at hF
  cases hF
  repeat (first | refine chk.ga ?_ | simp -dsimp [h1, q2])
  all_goals (try omega)

set_option maxRecDepth 100000 in
set_option maxHeartbeats 4000000 in
theorem C.impl_TypeValid (B : Nat) (hB1 : 67108864 ≤ B) (hB2 : B ≤ 9223372036854775807) (w : List Vl.Data) (t : Vl.Ty) (r : Bool) (hF : F.impl_TypeValid w t = some r) : PureCall Try.prog B 60 [.arr (List.map Vl.Data.c w), .agg [.lit (.int .i64 t.data), .lit (.int .i64 t.index)]] (.lit (.bool r)) := by
 unfold F.impl_TypeValid at hF
 refine PureCall.enterLe Try.func60 (by kernel_rfl) rfl Try.ntmps60 (by simp) (by simp) ?_
 repeat (first | refine chk.ga ?_ | simp -dsimp)
 have hF := ob hF; obtain ⟨v, e1, hF⟩ := hF
 refine ((C.impl_WorldValid B hB1 hB2 w v e1)).goW (by simp) (by simp) ?_
 repeat (first | refine chk.ga ?_ | simp -dsimp)
 refine abr.split (fun h2 => ?_) (fun h2 => ?_)
 ·have q3 : (v = true) := auq h2
  rw [if_pos q3] at hF
  repeat (first | refine chk.ga ?_ | simp -dsimp [h2])
  have hF := ob hF; obtain ⟨v4, e5, hF⟩ := hF
  refine ((C.impl_typeOk B hB1 hB2 w t v4 e5)).goW (by first | simp [h2]; done | simp_all) (by simp) ?_
  cases hF
  repeat (first | refine chk.ga ?_ | simp -dsimp [h2])
  all_goals (try omega)
 ·have q3 : ¬ (v = true) := auq h2
  rw [if_neg q3] at hF
  cases hF
  repeat (first | refine chk.ga ?_ | simp -dsimp [h2, q3])
  all_goals (try omega)

set_option maxRecDepth 100000 in
set_option maxHeartbeats 4000000 in
theorem C.impl_only (B : Nat) (hB1 : 67108864 ≤ B) (hB2 : B ≤ 9223372036854775807) (p : Vl.Pattern) (ctor : Bool) (numbers : Bool) (variable' : Bool) (kids : Int) (r : Bool) (hF : F.impl_only p ctor numbers variable' kids = some r) : PureCall Try.prog B 209 [.agg [.lit (.int .i64 p.op), .lit (.int .i64 p.ctor), .lit (.int .i64 p.n), .lit (.int .i64 p.m), .lit (.int .i64 p.var), .arr (List.map Vl.Pattern.c p.kids)], .lit (.bool ctor), .lit (.bool numbers), .lit (.bool variable'), .lit (.int .i64 kids)] (.lit (.bool r)) := by
 unfold F.impl_only at hF
 refine PureCall.enterLe Try.func209 (by kernel_rfl) rfl Try.ntmps209 (by simp) (by simp) ?_
 repeat (first | refine chk.ga ?_ | simp -dsimp)
 refine abr.split (fun h1 => ?_) (fun h1 => ?_)
 ·have q2 : ¬ (ctor = true) := auq h1
  rw [if_neg q2] at hF
  repeat (first | refine chk.ga ?_ | simp -dsimp [h1, q2])
  refine abr.split (fun h3 => ?_) (fun h3 => ?_)
  ·have q4 : (p.ctor = 0) := auq h3
   rw [if_pos q4] at hF
   repeat (first | refine chk.ga ?_ | simp -dsimp [h1, q2, h3])
   refine abr.split (fun h5 => ?_) (fun h5 => ?_)
   ·have q6 : ¬ (numbers = true) := auq h5
    rw [if_neg q6] at hF
    repeat (first | refine chk.ga ?_ | simp -dsimp [h1, q2, h3, h5, q6])
    refine abr.split (fun h7 => ?_) (fun h7 => ?_)
    ·have q8 : (p.n = 0) := auq h7
     rw [if_pos q8] at hF
     repeat (first | refine chk.ga ?_ | simp -dsimp [h1, q2, h3, h5, q6, h7])
     refine abr.split (fun h9 => ?_) (fun h9 => ?_)
     ·have q10 : (p.m = 0) := auq h9
      rw [if_pos q10] at hF
      repeat (first | refine chk.ga ?_ | simp -dsimp [h1, q2, h3, h5, q6, h7, h9])
      refine abr.split (fun h11 => ?_) (fun h11 => ?_)
      ·have q12 : ¬ (variable' = true) := auq h11
       rw [if_neg q12] at hF
       repeat (first | refine chk.ga ?_ | simp -dsimp [h1, q2, h3, h5, q6, h7, h9, h11, q12])
       refine abr.split (fun h13 => ?_) (fun h13 => ?_)
       ·have q14 : (p.var = 0) := auq h13
        rw [if_pos q14] at hF
        cases hF
        repeat (first | refine chk.ga ?_ | simp -dsimp [h1, q2, h3, h5, q6, h7, h9, h11, q12, h13])
        all_goals (try omega)
       ·have q14 : ¬ (p.var = 0) := auq h13
        rw [if_neg q14] at hF
        cases hF
        repeat (first | refine chk.ga ?_ | simp -dsimp [h1, q2, h3, h5, q6, h7, h9, h11, q12, h13, q14])
        all_goals (try omega)
      ·have q12 : (variable' = true) := auq h11
       rw [if_pos q12] at hF
       cases hF
       repeat (first | refine chk.ga ?_ | simp -dsimp [h1, q2, h3, h5, q6, h7, h9, h11, q12])
       all_goals (try omega)
     ·have q10 : ¬ (p.m = 0) := auq h9
      rw [if_neg q10] at hF
      cases hF
      repeat (first | refine chk.ga ?_ | simp -dsimp [h1, q2, h3, h5, q6, h7, h9, q10])
      all_goals (try omega)
    ·have q8 : ¬ (p.n = 0) := auq h7
     rw [if_neg q8] at hF
     cases hF
     repeat (first | refine chk.ga ?_ | simp -dsimp [h1, q2, h3, h5, q6, h7, q8])
     all_goals (try omega)
   ·have q6 : (numbers = true) := auq h5
    rw [if_pos q6] at hF
    repeat (first | refine chk.ga ?_ | simp -dsimp [h1, q2, h3, h5, q6])
    refine abr.split (fun h15 => ?_) (fun h15 => ?_)
    ·have q16 : ¬ (variable' = true) := auq h15
     rw [if_neg q16] at hF
     repeat (first | refine chk.ga ?_ | simp -dsimp [h1, q2, h3, h5, q6, h15, q16])
     refine abr.split (fun h17 => ?_) (fun h17 => ?_)
     ·have q18 : (p.var = 0) := auq h17
      rw [if_pos q18] at hF
      cases hF
      repeat (first | refine chk.ga ?_ | simp -dsimp [h1, q2, h3, h5, q6, h15, q16, h17])
      all_goals (try omega)
     ·have q18 : ¬ (p.var = 0) := auq h17
      rw [if_neg q18] at hF
      cases hF
      repeat (first | refine chk.ga ?_ | simp -dsimp [h1, q2, h3, h5, q6, h15, q16, h17, q18])
      all_goals (try omega)
    ·have q16 : (variable' = true) := auq h15
     rw [if_pos q16] at hF
     cases hF
     repeat (first | refine chk.ga ?_ | simp -dsimp [h1, q2, h3, h5, q6, h15, q16])
     all_goals (try omega)
  ·have q4 : ¬ (p.ctor = 0) := auq h3
   rw [if_neg q4] at hF
   cases hF
   repeat (first | refine chk.ga ?_ | simp -dsimp [h1, q2, h3, q4])
   all_goals (try omega)
 ·have q2 : (ctor = true) := auq h1
  rw [if_pos q2] at hF
  repeat (first | refine chk.ga ?_ | simp -dsimp [h1, q2])
  refine abr.split (fun h19 => ?_) (fun h19 => ?_)
  ·have q20 : ¬ (numbers = true) := auq h19
   rw [if_neg q20] at hF
   repeat (first | refine chk.ga ?_ | simp -dsimp [h1, q2, h19, q20])
   refine abr.split (fun h21 => ?_) (fun h21 => ?_)
   ·have q22 : (p.n = 0) := auq h21
    rw [if_pos q22] at hF
    repeat (first | refine chk.ga ?_ | simp -dsimp [h1, q2, h19, q20, h21])
    refine abr.split (fun h23 => ?_) (fun h23 => ?_)
    ·have q24 : (p.m = 0) := auq h23
     rw [if_pos q24] at hF
     repeat (first | refine chk.ga ?_ | simp -dsimp [h1, q2, h19, q20, h21, h23])
     refine abr.split (fun h25 => ?_) (fun h25 => ?_)
     ·have q26 : ¬ (variable' = true) := auq h25
      rw [if_neg q26] at hF
      repeat (first | refine chk.ga ?_ | simp -dsimp [h1, q2, h19, q20, h21, h23, h25, q26])
      refine abr.split (fun h27 => ?_) (fun h27 => ?_)
      ·have q28 : (p.var = 0) := auq h27
       rw [if_pos q28] at hF
       cases hF
       repeat (first | refine chk.ga ?_ | simp -dsimp [h1, q2, h19, q20, h21, h23, h25, q26, h27])
       all_goals (try omega)
      ·have q28 : ¬ (p.var = 0) := auq h27
       rw [if_neg q28] at hF
       cases hF
       repeat (first | refine chk.ga ?_ | simp -dsimp [h1, q2, h19, q20, h21, h23, h25, q26, h27, q28])
       all_goals (try omega)
     ·have q26 : (variable' = true) := auq h25
      rw [if_pos q26] at hF
      cases hF
      repeat (first | refine chk.ga ?_ | simp -dsimp [h1, q2, h19, q20, h21, h23, h25, q26])
      all_goals (try omega)
    ·have q24 : ¬ (p.m = 0) := auq h23
     rw [if_neg q24] at hF
     cases hF
     repeat (first | refine chk.ga ?_ | simp -dsimp [h1, q2, h19, q20, h21, h23, q24])
     all_goals (try omega)
   ·have q22 : ¬ (p.n = 0) := auq h21
    rw [if_neg q22] at hF
    cases hF
    repeat (first | refine chk.ga ?_ | simp -dsimp [h1, q2, h19, q20, h21, q22])
    all_goals (try omega)
  ·have q20 : (numbers = true) := auq h19
   rw [if_pos q20] at hF
   repeat (first | refine chk.ga ?_ | simp -dsimp [h1, q2, h19, q20])
   refine abr.split (fun h29 => ?_) (fun h29 => ?_)
   ·have q30 : ¬ (variable' = true) := auq h29
    rw [if_neg q30] at hF
    repeat (first | refine chk.ga ?_ | simp -dsimp [h1, q2, h19, q20, h29, q30])
    refine abr.split (fun h31 => ?_) (fun h31 => ?_)
    ·have q32 : (p.var = 0) := auq h31
     rw [if_pos q32] at hF
     cases hF
     repeat (first | refine chk.ga ?_ | simp -dsimp [h1, q2, h19, q20, h29, q30, h31])
     all_goals (try omega)
    ·have q32 : ¬ (p.var = 0) := auq h31
     rw [if_neg q32] at hF
     cases hF
     repeat (first | refine chk.ga ?_ | simp -dsimp [h1, q2, h19, q20, h29, q30, h31, q32])
     all_goals (try omega)
   ·have q30 : (variable' = true) := auq h29
    rw [if_pos q30] at hF
    cases hF
    repeat (first | refine chk.ga ?_ | simp -dsimp [h1, q2, h19, q20, h29, q30])
    all_goals (try omega)

set_option maxRecDepth 100000 in
set_option maxHeartbeats 4000000 in
theorem C.impl_isVar (B : Nat) (hB1 : 67108864 ≤ B) (hB2 : B ≤ 9223372036854775807) (v : Int) (r : Bool) (hF : F.impl_isVar v = some r) : PureCall Try.prog B 122 [.lit (.int .i64 v)] (.lit (.bool r)) := by
 unfold F.impl_isVar at hF
 refine PureCall.enterLe Try.func122 (by kernel_rfl) rfl Try.ntmps122 (by simp) (by simp) ?_
 repeat (first | refine chk.ga ?_ | simp -dsimp)
 have hF := ob hF; obtain ⟨v1, e2, hF⟩ := hF
 refine ((C.impl_within B hB1 hB2 v (0 : Int) (5 : Int) v1 e2)).goW (by simp) (by simp) ?_
 cases hF
 repeat (first | refine chk.ga ?_ | simp -dsimp)
 all_goals (try omega)

set_option maxRecDepth 100000 in
set_option maxHeartbeats 4000000 in
theorem CC.impl_ctorsOf_l1 (B : Nat) (hB1 : 67108864 ≤ B) (hB2 : B ≤ 9223372036854775807) (t : Vl.Ty) (x : Vl.Data) : (∀ (i : Nat) (out : List Int) (o : List Int), F.impl_ctorsOf_l1 t x i out = some o → ∀ (c : Code), navO [1, 1, 0, 1, 0, 1, 0, 0] (bodyOf Try.f173) = some c → ∀ (Q : Exit → ASt → Prop), Q (.exit 0) ⟨[(5, .own 1 (List.length (α := Int) o))], [.dead, .elems 1 (List.map cI o)]⟩ → ALoopU Try.prog B 0 44 (hold c .mk) ⟨[(3, .ptr 0 0), (5, .own 1 (List.length (α := Int) out)), (16, .arr (List.map Vl.Ctor.c x.ctors)), (17, .lit (.int .i64 (x.ctors.length : Int))), (18, .lit (.int .i64 (i : Int)))], [.cells [.lit (.int .i64 t.data), .lit (.int .i64 t.index)], .elems 1 (List.map cI out)]⟩ (hold Q .mk)) := by
 refine F.impl_ctorsOf_l1.partial_correctness t x
  (fun i out o => ∀ (c : Code), navO [1, 1, 0, 1, 0, 1, 0, 0] (bodyOf Try.f173) = some c → ∀ (Q : Exit → ASt → Prop), Q (.exit 0) ⟨[(5, .own 1 (List.length (α := Int) o))], [.dead, .elems 1 (List.map cI o)]⟩ → ALoopU Try.prog B 0 44 (hold c .mk) ⟨[(3, .ptr 0 0), (5, .own 1 (List.length (α := Int) out)), (16, .arr (List.map Vl.Ctor.c x.ctors)), (17, .lit (.int .i64 (x.ctors.length : Int))), (18, .lit (.int .i64 (i : Int)))], [.cells [.lit (.int .i64 t.data), .lit (.int .i64 t.index)], .elems 1 (List.map cI out)]⟩ (hold Q .mk))
  ?_
 ·intro _f_impl_ctorsOf_l1 ih_impl_ctorsOf_l1 i out o hF
  intro c hc Q hq
  obtain rfl : c = _ := navEq hc rfl
  refine ALoopU.know fun hk hs => ?_
  have b16 := hk 16
  simp -dsimp at b16
  have d1 := hs 1 _ rfl
  simp -dsimp [Blk.bnd] at d1
  clear hk hs
  refine ALoopU.enter ?_
  repeat (first | refine chk.ga ?_ | simp -dsimp)
  refine abr.split (fun h4 => ?_) (fun h4 => ?_)
  ·have q5 : (i < x.ctors.length) := auq h4
   have z6 : ((i : Int) < (x.ctors.length : Int)) := auz
   rw [if_pos q5] at hF
   have hF := ob hF; obtain ⟨x7, e8, hF⟩ := hF
   have le8 := lt_of_get e8
   repeat (first | refine chk.ga ?_ | simp -dsimp [h4, z6, ↓e8])
   refine abr.split (fun h9 => ?_) (fun h9 => ?_)
   ·have q10 : ¬ (t.index = 0) := auq h9
    rw [if_neg q10] at hF
    repeat (first | refine chk.ga ?_ | simp -dsimp [h4, z6, ↓e8, h9, q10])
    refine abr.split (fun h11 => ?_) (fun h11 => ?_)
    ·have q12 : ¬ (x7.index = 0) := auq h11
     rw [if_neg q12] at hF
     repeat (first | refine chk.ga ?_ | simp -dsimp [h4, z6, ↓e8, h9, q10, h11, q12])
     refine abr.split (fun h13 => ?_) (fun h13 => ?_)
     ·have q14 : (x7.index = t.index) := auq h13
      rw [if_pos q14] at hF
      have hF := oc hF; obtain ⟨c15, hF⟩ := hF
      have w16 : IntKind.i64.wrap ((i : Int) + 1) = (i : Int) + 1 := wrap_in (by omega) (by omega)
      repeat (first | refine chk.ga ?_ | simp -dsimp [h4, z6, ↓e8, h9, q10, h11, q12, h13, w16])
      refine Again.go ⟨[(3, .ptr 0 0), (5, .own 1 (List.length (α := Int) (out ++ [(i : Int)]))), (16, .arr (List.map Vl.Ctor.c x.ctors)), (17, .lit (.int .i64 (x.ctors.length : Int))), (18, .lit (.int .i64 ((i + 1) : Int)))], [.cells [.lit (.int .i64 t.data), .lit (.int .i64 t.index)], .elems 1 (List.map cI (out ++ [(i : Int)]))]⟩ (Gh.to3 (by simp) (by first | simp -dsimp [h4, z6, ↓e8, h9, q10, h11, q12, h13, w16]; done | simp_all)) ?_
      exact (ih_impl_ctorsOf_l1 (i + 1) (out ++ [(i : Int)]) o hF) _ rfl _ hq
     ·have q14 : ¬ (x7.index = t.index) := auq h13
      rw [if_neg q14] at hF
      have w17 : IntKind.i64.wrap ((i : Int) + 1) = (i : Int) + 1 := wrap_in (by omega) (by omega)
      repeat (first | refine chk.ga ?_ | simp -dsimp [h4, z6, ↓e8, h9, q10, h11, q12, h13, q14, w17])
      refine Again.go ⟨[(3, .ptr 0 0), (5, .own 1 (List.length (α := Int) out)), (16, .arr (List.map Vl.Ctor.c x.ctors)), (17, .lit (.int .i64 (x.ctors.length : Int))), (18, .lit (.int .i64 ((i + 1) : Int)))], [.cells [.lit (.int .i64 t.data), .lit (.int .i64 t.index)], .elems 1 (List.map cI out)]⟩ (Gh.to3 (by simp) (by first | simp -dsimp [h4, z6, ↓e8, h9, q10, h11, q12, h13, q14, w17]; done | simp_all)) ?_
      exact (ih_impl_ctorsOf_l1 (i + 1) out o hF) _ rfl _ hq
    ·have q12 : (x7.index = 0) := auq h11
     rw [if_pos q12] at hF
     have hF := oc hF; obtain ⟨c18, hF⟩ := hF
     have w19 : IntKind.i64.wrap ((i : Int) + 1) = (i : Int) + 1 := wrap_in (by omega) (by omega)
     repeat (first | refine chk.ga ?_ | simp -dsimp [h4, z6, ↓e8, h9, q10, h11, q12, w19])
     refine Again.go ⟨[(3, .ptr 0 0), (5, .own 1 (List.length (α := Int) (out ++ [(i : Int)]))), (16, .arr (List.map Vl.Ctor.c x.ctors)), (17, .lit (.int .i64 (x.ctors.length : Int))), (18, .lit (.int .i64 ((i + 1) : Int)))], [.cells [.lit (.int .i64 t.data), .lit (.int .i64 t.index)], .elems 1 (List.map cI (out ++ [(i : Int)]))]⟩ (Gh.to3 (by simp) (by first | simp -dsimp [h4, z6, ↓e8, h9, q10, h11, q12, w19]; done | simp_all)) ?_
     exact (ih_impl_ctorsOf_l1 (i + 1) (out ++ [(i : Int)]) o hF) _ rfl _ hq
   ·have q10 : (t.index = 0) := auq h9
    rw [if_pos q10] at hF
    have hF := oc hF; obtain ⟨c20, hF⟩ := hF
    have w21 : IntKind.i64.wrap ((i : Int) + 1) = (i : Int) + 1 := wrap_in (by omega) (by omega)
    repeat (first | refine chk.ga ?_ | simp -dsimp [h4, z6, ↓e8, h9, q10, w21])
    refine Again.go ⟨[(3, .ptr 0 0), (5, .own 1 (List.length (α := Int) (out ++ [(i : Int)]))), (16, .arr (List.map Vl.Ctor.c x.ctors)), (17, .lit (.int .i64 (x.ctors.length : Int))), (18, .lit (.int .i64 ((i + 1) : Int)))], [.cells [.lit (.int .i64 t.data), .lit (.int .i64 t.index)], .elems 1 (List.map cI (out ++ [(i : Int)]))]⟩ (Gh.to3 (by simp) (by first | simp -dsimp [h4, z6, ↓e8, h9, q10, w21]; done | simp_all)) ?_
    exact (ih_impl_ctorsOf_l1 (i + 1) (out ++ [(i : Int)]) o hF) _ rfl _ hq
  ·have q5 : ¬ (i < x.ctors.length) := auq h4
   have z6 : ¬ ((i : Int) < (x.ctors.length : Int)) := auz
   rw [if_neg q5] at hF
   cases hF
   repeat (first | refine chk.ga ?_ | simp -dsimp [h4, q5, z6])
   refine Leave.go ⟨[(5, .own 1 (List.length (α := Int) out))], [.dead, .elems 1 (List.map cI out)]⟩ (Gh.to3 (by simp) (by first | simp -dsimp [h4, q5, z6]; done | simp_all)) ?_
   exact hq

theorem C.impl_ctorsOf_l1 (B : Nat) (hB1 : 67108864 ≤ B) (hB2 : B ≤ 9223372036854775807) (t : Vl.Ty) (x : Vl.Data) (i : Nat) (out : List Int) (o : List Int) (hF : F.impl_ctorsOf_l1 t x i out = some o) : ∀ (c : Code), navO [1, 1, 0, 1, 0, 1, 0, 0] (bodyOf Try.f173) = some c → ∀ (Q : Exit → ASt → Prop), Q (.exit 0) ⟨[(5, .own 1 (List.length (α := Int) o))], [.dead, .elems 1 (List.map cI o)]⟩ → ALoopU Try.prog B 0 44 (hold c .mk) ⟨[(3, .ptr 0 0), (5, .own 1 (List.length (α := Int) out)), (16, .arr (List.map Vl.Ctor.c x.ctors)), (17, .lit (.int .i64 (x.ctors.length : Int))), (18, .lit (.int .i64 (i : Int)))], [.cells [.lit (.int .i64 t.data), .lit (.int .i64 t.index)], .elems 1 (List.map cI out)]⟩ (hold Q .mk) :=
 (CC.impl_ctorsOf_l1 B hB1 hB2 t x) i out o hF

set_option maxRecDepth 100000 in
set_option maxHeartbeats 4000000 in
theorem C.impl_ctorsOf (B : Nat) (hB1 : 67108864 ≤ B) (hB2 : B ≤ 9223372036854775807) (w : List Vl.Data) (t : Vl.Ty) (r : List Int) (hF : F.impl_ctorsOf w t = some r) : PureCall Try.prog B 173 [.arr (List.map Vl.Data.c w), .agg [.lit (.int .i64 t.data), .lit (.int .i64 t.index)]] (.arr (List.map cI r)) := by
 unfold F.impl_ctorsOf at hF
 refine PureCall.enterLe Try.func173 (by kernel_rfl) rfl Try.ntmps173 (by simp) (by simp) ?_
 repeat (first | refine chk.ga ?_ | simp -dsimp)
 refine abr.split (fun h1 => ?_) (fun h1 => ?_)
 ·have q2 : ¬ (t.data = (-1)) := auq h1
  rw [if_neg q2] at hF
  have hF := ob hF; obtain ⟨x, e3a, hF⟩ := hF
  have e3a := at_some e3a; obtain ⟨ne3, e3⟩ := e3a
  have le3 := lt_of_get e3
  repeat (first | refine chk.ga ?_ | simp -dsimp [h1, q2, ↓e3])
  have hF := ob hF; obtain ⟨o', ho22, hF⟩ := hF
  refine ALoop.goU ⟨[(3, .ptr 0 0), (5, .own 1 (List.length (α := Int) [])), (16, .arr (List.map Vl.Ctor.c x.ctors)), (17, .lit (.int .i64 (x.ctors.length : Int))), (18, .lit (.int .i64 (0 : Int)))], [.cells [.lit (.int .i64 t.data), .lit (.int .i64 t.index)], .elems 1 (List.map cI [])]⟩ ((Gh.nil 5 1 (by simp -dsimp)).trans (Gh.to3 (by simp) (by first | simp -dsimp [h1, q2, ↓e3]; done | simp_all))) ?_
  refine (C.impl_ctorsOf_l1 B hB1 hB2 t x 0 [] o' ho22) _ rfl _ ?_
  cases hF
  repeat (first | refine chk.ga ?_ | simp -dsimp)
  all_goals (try omega)
 ·have q2 : (t.data = (-1)) := auq h1
  rw [if_pos q2] at hF
  cases hF
  repeat (first | refine chk.ga ?_ | simp -dsimp [h1, q2])
  all_goals (try omega)

set_option maxRecDepth 100000 in
set_option maxHeartbeats 4000000 in
theorem CC.slices_Index_int_l1 (B : Nat) (hB1 : 67108864 ≤ B) (hB2 : B ≤ 9223372036854775807) (s : List Int) (v : Int) : (∀ (i : Nat) (o : Lo Int Unit), F.slices_Index_int_l1 s v i = some o → ∀ (c : Code), navO [1, 0, 1, 0, 0] (bodyOf Try.f215) = some c → ∀ (Q : Exit → ASt → Prop), o.post (fun r => ∀ st, Post Try.prog Try.f215 (fun r' _ => r'.le (.lit (.int .i64 r))) .ret st → Q .ret st) (fun s => Q (.exit 0) ⟨[], []⟩) → ALoopU Try.prog B 0 19 (hold c .mk) ⟨[(0, .arr (List.map cI s)), (1, .lit (.int .i64 v)), (7, .lit (.int .i64 (s.length : Int))), (8, .lit (.int .i64 (i : Int)))], []⟩ (hold Q .mk)) := by
 refine F.slices_Index_int_l1.partial_correctness s v
  (fun i o => ∀ (c : Code), navO [1, 0, 1, 0, 0] (bodyOf Try.f215) = some c → ∀ (Q : Exit → ASt → Prop), o.post (fun r => ∀ st, Post Try.prog Try.f215 (fun r' _ => r'.le (.lit (.int .i64 r))) .ret st → Q .ret st) (fun s => Q (.exit 0) ⟨[], []⟩) → ALoopU Try.prog B 0 19 (hold c .mk) ⟨[(0, .arr (List.map cI s)), (1, .lit (.int .i64 v)), (7, .lit (.int .i64 (s.length : Int))), (8, .lit (.int .i64 (i : Int)))], []⟩ (hold Q .mk))
  ?_
 ·intro _f_slices_Index_int_l1 ih_slices_Index_int_l1 i o hF
  intro c hc Q hq
  obtain rfl : c = _ := navEq hc rfl
  refine ALoopU.know fun hk hs => ?_
  have b0 := hk 0
  simp -dsimp at b0
  clear hk hs
  refine ALoopU.enter ?_
  repeat (first | refine chk.ga ?_ | simp -dsimp)
  refine abr.split (fun h1 => ?_) (fun h1 => ?_)
  ·have q2 : (i < s.length) := auq h1
   have z3 : ((i : Int) < (s.length : Int)) := auz
   rw [if_pos q2] at hF
   have hF := ob hF; obtain ⟨x, e4, hF⟩ := hF
   have le4 := lt_of_get e4
   repeat (first | refine chk.ga ?_ | simp -dsimp [h1, z3, ↓e4])
   refine abr.split (fun h5 => ?_) (fun h5 => ?_)
   ·have q6 : (v = x) := auq h5
    rw [if_pos q6] at hF
    cases hF
    repeat (first | refine chk.ga ?_ | simp -dsimp [h1, z3, ↓e4, h5])
    refine Leave.go _ (Gh.refl _) (hq _ ?_)
    repeat (first | refine chk.ga ?_ | simp -dsimp [h1, z3, ↓e4, h5])
   ·have q6 : ¬ (v = x) := auq h5
    rw [if_neg q6] at hF
    have w7 : IntKind.i64.wrap ((i : Int) + 1) = (i : Int) + 1 := wrap_in (by omega) (by omega)
    repeat (first | refine chk.ga ?_ | simp -dsimp [h1, z3, ↓e4, h5, q6, w7])
    refine Again.go ⟨[(0, .arr (List.map cI s)), (1, .lit (.int .i64 v)), (7, .lit (.int .i64 (s.length : Int))), (8, .lit (.int .i64 ((i + 1) : Int)))], []⟩ (Gh.to3 (by simp) (by first | simp -dsimp [h1, z3, ↓e4, h5, q6, w7]; done | simp_all)) ?_
    exact (ih_slices_Index_int_l1 (i + 1) o hF) _ rfl _ hq
  ·have q2 : ¬ (i < s.length) := auq h1
   have z3 : ¬ ((i : Int) < (s.length : Int)) := auz
   rw [if_neg q2] at hF
   cases hF
   repeat (first | refine chk.ga ?_ | simp -dsimp [h1, q2, z3])
   refine Leave.go ⟨[], []⟩ (Gh.to3 (by simp) (by first | simp -dsimp [h1, q2, z3]; done | simp_all)) ?_
   exact hq

theorem C.slices_Index_int_l1 (B : Nat) (hB1 : 67108864 ≤ B) (hB2 : B ≤ 9223372036854775807) (s : List Int) (v : Int) (i : Nat) (o : Lo Int Unit) (hF : F.slices_Index_int_l1 s v i = some o) : ∀ (c : Code), navO [1, 0, 1, 0, 0] (bodyOf Try.f215) = some c → ∀ (Q : Exit → ASt → Prop), o.post (fun r => ∀ st, Post Try.prog Try.f215 (fun r' _ => r'.le (.lit (.int .i64 r))) .ret st → Q .ret st) (fun s => Q (.exit 0) ⟨[], []⟩) → ALoopU Try.prog B 0 19 (hold c .mk) ⟨[(0, .arr (List.map cI s)), (1, .lit (.int .i64 v)), (7, .lit (.int .i64 (s.length : Int))), (8, .lit (.int .i64 (i : Int)))], []⟩ (hold Q .mk) :=
 (CC.slices_Index_int_l1 B hB1 hB2 s v) i o hF

set_option maxRecDepth 100000 in
set_option maxHeartbeats 4000000 in
theorem C.slices_Index_int (B : Nat) (hB1 : 67108864 ≤ B) (hB2 : B ≤ 9223372036854775807) (s : List Int) (v : Int) (r : Int) (hF : F.slices_Index_int s v = some r) : PureCall Try.prog B 215 [.arr (List.map cI s), .lit (.int .i64 v)] (.lit (.int .i64 r)) := by
 unfold F.slices_Index_int at hF
 refine PureCall.enterLe Try.func215 (by kernel_rfl) rfl Try.ntmps215 (by simp) (by simp) ?_
 repeat (first | refine chk.ga ?_ | simp -dsimp)
 have hF := ob hF; obtain ⟨o', ho8, hF⟩ := hF
 refine ALoop.goU ⟨[(0, .arr (List.map cI s)), (1, .lit (.int .i64 v)), (7, .lit (.int .i64 (s.length : Int))), (8, .lit (.int .i64 (0 : Int)))], []⟩ (Gh.to3 (by simp) (by simp -dsimp)) ?_
 refine (C.slices_Index_int_l1 B hB1 hB2 s v 0 o' ho8) _ rfl _ ?_
 rcases o' with r0 | sx
 ·dsimp only at hF
  cases hF
  intro st h
  simpa using h
 ·dsimp only at hF
  cases hF
  repeat (first | refine chk.ga ?_ | simp -dsimp)
  all_goals (try omega)

set_option maxRecDepth 100000 in
set_option maxHeartbeats 4000000 in
theorem C.slices_Contains_int (B : Nat) (hB1 : 67108864 ≤ B) (hB2 : B ≤ 9223372036854775807) (s : List Int) (v : Int) (r : Bool) (hF : F.slices_Contains_int s v = some r) : PureCall Try.prog B 187 [.arr (List.map cI s), .lit (.int .i64 v)] (.lit (.bool r)) := by
 unfold F.slices_Contains_int at hF
 refine PureCall.enterLe Try.func187 (by kernel_rfl) rfl Try.ntmps187 (by simp) (by simp) ?_
 repeat (first | refine chk.ga ?_ | simp -dsimp)
 have hF := ob hF; obtain ⟨v1, e2, hF⟩ := hF
 refine ((C.slices_Index_int B hB1 hB2 s v v1 e2)).goW (by simp) (by simp) ?_
 cases hF
 repeat (first | refine chk.ga ?_ | simp -dsimp)
 all_goals (try omega)

set_option maxRecDepth 100000 in
set_option maxHeartbeats 4000000 in
theorem CC.impl_argTypes_l1 (B : Nat) (hB1 : 67108864 ≤ B) (hB2 : B ≤ 9223372036854775807) (t : Vl.Ty) (x2 : Vl.Ctor) : (∀ (i : Nat) (out : List Vl.Ty) (o : List Vl.Ty), F.impl_argTypes_l1 t x2 i out = some o → ∀ (c : Code), navO [1, 1, 1, 1, 1, 0, 1, 0, 0] (bodyOf Try.f188) = some c → ∀ (Q : Exit → ASt → Prop), Q (.exit 0) ⟨[(9, .own 2 (List.length (α := Vl.Ty) o))], [.dead, .dead, .elems 2 (List.map Vl.Ty.c o)]⟩ → ALoopU Try.prog B 0 45 (hold c .mk) ⟨[(8, .lit (.int .i64 t.index)), (9, .own 2 (List.length (α := Vl.Ty) out)), (28, .arr (List.map Vl.Ty.c x2.args)), (29, .lit (.int .i64 (x2.args.length : Int))), (30, .lit (.int .i64 (i : Int)))], [.dead, .dead, .elems 2 (List.map Vl.Ty.c out)]⟩ (hold Q .mk)) := by
 refine F.impl_argTypes_l1.partial_correctness t x2
  (fun i out o => ∀ (c : Code), navO [1, 1, 1, 1, 1, 0, 1, 0, 0] (bodyOf Try.f188) = some c → ∀ (Q : Exit → ASt → Prop), Q (.exit 0) ⟨[(9, .own 2 (List.length (α := Vl.Ty) o))], [.dead, .dead, .elems 2 (List.map Vl.Ty.c o)]⟩ → ALoopU Try.prog B 0 45 (hold c .mk) ⟨[(8, .lit (.int .i64 t.index)), (9, .own 2 (List.length (α := Vl.Ty) out)), (28, .arr (List.map Vl.Ty.c x2.args)), (29, .lit (.int .i64 (x2.args.length : Int))), (30, .lit (.int .i64 (i : Int)))], [.dead, .dead, .elems 2 (List.map Vl.Ty.c out)]⟩ (hold Q .mk))
  ?_
 ·intro _f_impl_argTypes_l1 ih_impl_argTypes_l1 i out o hF
  intro c hc Q hq
  obtain rfl : c = _ := navEq hc rfl
  refine ALoopU.know fun hk hs => ?_
  have b28 := hk 28
  simp -dsimp at b28
  have d2 := hs 2 _ rfl
  simp -dsimp [Blk.bnd] at d2
  clear hk hs
  refine ALoopU.enter ?_
  repeat (first | refine chk.ga ?_ | simp -dsimp)
  refine abr.split (fun h6 => ?_) (fun h6 => ?_)
  ·have q7 : (i < x2.args.length) := auq h6
   have z8 : ((i : Int) < (x2.args.length : Int)) := auz
   rw [if_pos q7] at hF
   have hF := ob hF; obtain ⟨x9, e10, hF⟩ := hF
   have le10 := lt_of_get e10
   repeat (first | refine chk.ga ?_ | simp -dsimp [h6, z8, ↓e10])
   refine abr.split (fun h11 => ?_) (fun h11 => ?_)
   ·have q12 : (x9.index = (-1)) := auq h11
    rw [if_pos q12] at hF
    have hF := oc hF; obtain ⟨c13, hF⟩ := hF
    have w14 : IntKind.i64.wrap ((i : Int) + 1) = (i : Int) + 1 := wrap_in (by omega) (by omega)
    repeat (first | refine chk.ga ?_ | simp -dsimp [h6, z8, ↓e10, h11, w14])
    refine Again.go ⟨[(8, .lit (.int .i64 t.index)), (9, .own 2 (List.length (α := Vl.Ty) (out ++ [(⟨x9.data, t.index⟩ : Vl.Ty)]))), (28, .arr (List.map Vl.Ty.c x2.args)), (29, .lit (.int .i64 (x2.args.length : Int))), (30, .lit (.int .i64 ((i + 1) : Int)))], [.dead, .dead, .elems 2 (List.map Vl.Ty.c (out ++ [(⟨x9.data, t.index⟩ : Vl.Ty)]))]⟩ (Gh.to3 (by simp) (by first | simp -dsimp [h6, z8, ↓e10, h11, w14]; done | simp_all)) ?_
    exact (ih_impl_argTypes_l1 (i + 1) (out ++ [(⟨x9.data, t.index⟩ : Vl.Ty)]) o hF) _ rfl _ hq
   ·have q12 : ¬ (x9.index = (-1)) := auq h11
    rw [if_neg q12] at hF
    have hF := oc hF; obtain ⟨c15, hF⟩ := hF
    have w16 : IntKind.i64.wrap ((i : Int) + 1) = (i : Int) + 1 := wrap_in (by omega) (by omega)
    repeat (first | refine chk.ga ?_ | simp -dsimp [h6, z8, ↓e10, h11, q12, w16])
    refine Again.go ⟨[(8, .lit (.int .i64 t.index)), (9, .own 2 (List.length (α := Vl.Ty) (out ++ [x9]))), (28, .arr (List.map Vl.Ty.c x2.args)), (29, .lit (.int .i64 (x2.args.length : Int))), (30, .lit (.int .i64 ((i + 1) : Int)))], [.dead, .dead, .elems 2 (List.map Vl.Ty.c (out ++ [x9]))]⟩ (Gh.to3 (by simp) (by first | simp -dsimp [h6, z8, ↓e10, h11, q12, w16]; done | simp_all)) ?_
    exact (ih_impl_argTypes_l1 (i + 1) (out ++ [x9]) o hF) _ rfl _ hq
  ·have q7 : ¬ (i < x2.args.length) := auq h6
   have z8 : ¬ ((i : Int) < (x2.args.length : Int)) := auz
   rw [if_neg q7] at hF
   cases hF
   repeat (first | refine chk.ga ?_ | simp -dsimp [h6, q7, z8])
   refine Leave.go ⟨[(9, .own 2 (List.length (α := Vl.Ty) out))], [.dead, .dead, .elems 2 (List.map Vl.Ty.c out)]⟩ (Gh.to3 (by simp) (by first | simp -dsimp [h6, q7, z8]; done | simp_all)) ?_
   exact hq

theorem C.impl_argTypes_l1 (B : Nat) (hB1 : 67108864 ≤ B) (hB2 : B ≤ 9223372036854775807) (t : Vl.Ty) (x2 : Vl.Ctor) (i : Nat) (out : List Vl.Ty) (o : List Vl.Ty) (hF : F.impl_argTypes_l1 t x2 i out = some o) : ∀ (c : Code), navO [1, 1, 1, 1, 1, 0, 1, 0, 0] (bodyOf Try.f188) = some c → ∀ (Q : Exit → ASt → Prop), Q (.exit 0) ⟨[(9, .own 2 (List.length (α := Vl.Ty) o))], [.dead, .dead, .elems 2 (List.map Vl.Ty.c o)]⟩ → ALoopU Try.prog B 0 45 (hold c .mk) ⟨[(8, .lit (.int .i64 t.index)), (9, .own 2 (List.length (α := Vl.Ty) out)), (28, .arr (List.map Vl.Ty.c x2.args)), (29, .lit (.int .i64 (x2.args.length : Int))), (30, .lit (.int .i64 (i : Int)))], [.dead, .dead, .elems 2 (List.map Vl.Ty.c out)]⟩ (hold Q .mk) :=
 (CC.impl_argTypes_l1 B hB1 hB2 t x2) i out o hF

set_option maxRecDepth 100000 in
set_option maxHeartbeats 4000000 in
theorem CC.impl_argTypes_l2 (B : Nat) (hB1 : 67108864 ≤ B) (hB2 : B ≤ 9223372036854775807) (x2 : Vl.Ctor) : (∀ (i18 : Nat) (out19 : List Vl.Ty) (o : List Vl.Ty), F.impl_argTypes_l2 x2 i18 out19 = some o → ∀ (c : Code), navO [1, 1, 1, 1, 1, 0, 1, 0, 0] (bodyOf Try.f188) = some c → ∀ (Q : Exit → ASt → Prop), Q (.exit 0) ⟨[(9, .own 2 (List.length (α := Vl.Ty) o))], [.dead, .dead, .elems 2 (List.map Vl.Ty.c o)]⟩ → ALoopU Try.prog B 0 45 (hold c .mk) ⟨[(8, .lit (.int .i64 x2.index)), (9, .own 2 (List.length (α := Vl.Ty) out19)), (28, .arr (List.map Vl.Ty.c x2.args)), (29, .lit (.int .i64 (x2.args.length : Int))), (30, .lit (.int .i64 (i18 : Int)))], [.dead, .dead, .elems 2 (List.map Vl.Ty.c out19)]⟩ (hold Q .mk)) := by
 refine F.impl_argTypes_l2.partial_correctness x2
  (fun i18 out19 o => ∀ (c : Code), navO [1, 1, 1, 1, 1, 0, 1, 0, 0] (bodyOf Try.f188) = some c → ∀ (Q : Exit → ASt → Prop), Q (.exit 0) ⟨[(9, .own 2 (List.length (α := Vl.Ty) o))], [.dead, .dead, .elems 2 (List.map Vl.Ty.c o)]⟩ → ALoopU Try.prog B 0 45 (hold c .mk) ⟨[(8, .lit (.int .i64 x2.index)), (9, .own 2 (List.length (α := Vl.Ty) out19)), (28, .arr (List.map Vl.Ty.c x2.args)), (29, .lit (.int .i64 (x2.args.length : Int))), (30, .lit (.int .i64 (i18 : Int)))], [.dead, .dead, .elems 2 (List.map Vl.Ty.c out19)]⟩ (hold Q .mk))
  ?_
 ·intro _f_impl_argTypes_l2 ih_impl_argTypes_l2 i18 out19 o hF
  intro c hc Q hq
  obtain rfl : c = _ := navEq hc rfl
  refine ALoopU.know fun hk hs => ?_
  have b28 := hk 28
  simp -dsimp at b28
  have d2 := hs 2 _ rfl
  simp -dsimp [Blk.bnd] at d2
  clear hk hs
  refine ALoopU.enter ?_
  repeat (first | refine chk.ga ?_ | simp -dsimp)
  refine abr.split (fun h20 => ?_) (fun h20 => ?_)
  ·have q21 : (i18 < x2.args.length) := auq h20
   have z22 : ((i18 : Int) < (x2.args.length : Int)) := auz
   rw [if_pos q21] at hF
   have hF := ob hF; obtain ⟨x23, e24, hF⟩ := hF
   have le24 := lt_of_get e24
   repeat (first | refine chk.ga ?_ | simp -dsimp [h20, z22, ↓e24])
   refine abr.split (fun h25 => ?_) (fun h25 => ?_)
   ·have q26 : (x23.index = (-1)) := auq h25
    rw [if_pos q26] at hF
    have hF := oc hF; obtain ⟨c27, hF⟩ := hF
    have w28 : IntKind.i64.wrap ((i18 : Int) + 1) = (i18 : Int) + 1 := wrap_in (by omega) (by omega)
    repeat (first | refine chk.ga ?_ | simp -dsimp [h20, z22, ↓e24, h25, w28])
    refine Again.go ⟨[(8, .lit (.int .i64 x2.index)), (9, .own 2 (List.length (α := Vl.Ty) (out19 ++ [(⟨x23.data, x2.index⟩ : Vl.Ty)]))), (28, .arr (List.map Vl.Ty.c x2.args)), (29, .lit (.int .i64 (x2.args.length : Int))), (30, .lit (.int .i64 ((i18 + 1) : Int)))], [.dead, .dead, .elems 2 (List.map Vl.Ty.c (out19 ++ [(⟨x23.data, x2.index⟩ : Vl.Ty)]))]⟩ (Gh.to3 (by simp) (by first | simp -dsimp [h20, z22, ↓e24, h25, w28]; done | simp_all)) ?_
    exact (ih_impl_argTypes_l2 (i18 + 1) (out19 ++ [(⟨x23.data, x2.index⟩ : Vl.Ty)]) o hF) _ rfl _ hq
   ·have q26 : ¬ (x23.index = (-1)) := auq h25
    rw [if_neg q26] at hF
    have hF := oc hF; obtain ⟨c29, hF⟩ := hF
    have w30 : IntKind.i64.wrap ((i18 : Int) + 1) = (i18 : Int) + 1 := wrap_in (by omega) (by omega)
    repeat (first | refine chk.ga ?_ | simp -dsimp [h20, z22, ↓e24, h25, q26, w30])
    refine Again.go ⟨[(8, .lit (.int .i64 x2.index)), (9, .own 2 (List.length (α := Vl.Ty) (out19 ++ [x23]))), (28, .arr (List.map Vl.Ty.c x2.args)), (29, .lit (.int .i64 (x2.args.length : Int))), (30, .lit (.int .i64 ((i18 + 1) : Int)))], [.dead, .dead, .elems 2 (List.map Vl.Ty.c (out19 ++ [x23]))]⟩ (Gh.to3 (by simp) (by first | simp -dsimp [h20, z22, ↓e24, h25, q26, w30]; done | simp_all)) ?_
    exact (ih_impl_argTypes_l2 (i18 + 1) (out19 ++ [x23]) o hF) _ rfl _ hq
  ·have q21 : ¬ (i18 < x2.args.length) := auq h20
   have z22 : ¬ ((i18 : Int) < (x2.args.length : Int)) := auz
   rw [if_neg q21] at hF
   cases hF
   repeat (first | refine chk.ga ?_ | simp -dsimp [h20, q21, z22])
   refine Leave.go ⟨[(9, .own 2 (List.length (α := Vl.Ty) out19))], [.dead, .dead, .elems 2 (List.map Vl.Ty.c out19)]⟩ (Gh.to3 (by simp) (by first | simp -dsimp [h20, q21, z22]; done | simp_all)) ?_
   exact hq

theorem C.impl_argTypes_l2 (B : Nat) (hB1 : 67108864 ≤ B) (hB2 : B ≤ 9223372036854775807) (x2 : Vl.Ctor) (i18 : Nat) (out19 : List Vl.Ty) (o : List Vl.Ty) (hF : F.impl_argTypes_l2 x2 i18 out19 = some o) : ∀ (c : Code), navO [1, 1, 1, 1, 1, 0, 1, 0, 0] (bodyOf Try.f188) = some c → ∀ (Q : Exit → ASt → Prop), Q (.exit 0) ⟨[(9, .own 2 (List.length (α := Vl.Ty) o))], [.dead, .dead, .elems 2 (List.map Vl.Ty.c o)]⟩ → ALoopU Try.prog B 0 45 (hold c .mk) ⟨[(8, .lit (.int .i64 x2.index)), (9, .own 2 (List.length (α := Vl.Ty) out19)), (28, .arr (List.map Vl.Ty.c x2.args)), (29, .lit (.int .i64 (x2.args.length : Int))), (30, .lit (.int .i64 (i18 : Int)))], [.dead, .dead, .elems 2 (List.map Vl.Ty.c out19)]⟩ (hold Q .mk) :=
 (CC.impl_argTypes_l2 B hB1 hB2 x2) i18 out19 o hF

set_option maxRecDepth 100000 in
set_option maxHeartbeats 4000000 in
theorem C.impl_argTypes (B : Nat) (hB1 : 67108864 ≤ B) (hB2 : B ≤ 9223372036854775807) (w : List Vl.Data) (t : Vl.Ty) (ctor : Int) (r : List Vl.Ty) (hF : F.impl_argTypes w t ctor = some r) : PureCall Try.prog B 188 [.arr (List.map Vl.Data.c w), .agg [.lit (.int .i64 t.data), .lit (.int .i64 t.index)], .lit (.int .i64 ctor)] (.arr (List.map Vl.Ty.c r)) := by
 unfold F.impl_argTypes at hF
 refine PureCall.enterLe Try.func188 (by kernel_rfl) rfl Try.ntmps188 (by simp) (by simp) ?_
 have hF := ob hF; obtain ⟨x, e1a, hF⟩ := hF
 have e1a := at_some e1a; obtain ⟨ne1, e1⟩ := e1a
 have le1 := lt_of_get e1
 have hF := ob hF; obtain ⟨x2, e3a, hF⟩ := hF
 have e3a := at_some e3a; obtain ⟨ne3, e3⟩ := e3a
 have le3 := lt_of_get e3
 repeat (first | refine chk.ga ?_ | simp -dsimp [↓e1, ↓e3])
 refine abr.split (fun h4 => ?_) (fun h4 => ?_)
 ·have q5 : (x2.index = 0) := auq h4
  rw [if_pos q5] at hF
  repeat (first | refine chk.ga ?_ | simp -dsimp [↓e1, ↓e3, h4])
  have hF := ob hF; obtain ⟨o', ho17, hF⟩ := hF
  refine ALoop.goU ⟨[(8, .lit (.int .i64 t.index)), (9, .own 2 (List.length (α := Vl.Ty) [])), (28, .arr (List.map Vl.Ty.c x2.args)), (29, .lit (.int .i64 (x2.args.length : Int))), (30, .lit (.int .i64 (0 : Int)))], [.dead, .dead, .elems 2 (List.map Vl.Ty.c [])]⟩ ((Gh.nil 9 2 (by simp -dsimp)).trans (Gh.to3 (by simp) (by first | simp -dsimp [↓e1, ↓e3, h4]; done | simp_all))) ?_
  refine (C.impl_argTypes_l1 B hB1 hB2 t x2 0 [] o' ho17) _ rfl _ ?_
  cases hF
  repeat (first | refine chk.ga ?_ | simp -dsimp)
  all_goals (try omega)
 ·have q5 : ¬ (x2.index = 0) := auq h4
  rw [if_neg q5] at hF
  repeat (first | refine chk.ga ?_ | simp -dsimp [↓e1, ↓e3, h4, q5])
  have hF := ob hF; obtain ⟨o'32, ho31, hF⟩ := hF
  refine ALoop.goU ⟨[(8, .lit (.int .i64 x2.index)), (9, .own 2 (List.length (α := Vl.Ty) [])), (28, .arr (List.map Vl.Ty.c x2.args)), (29, .lit (.int .i64 (x2.args.length : Int))), (30, .lit (.int .i64 (0 : Int)))], [.dead, .dead, .elems 2 (List.map Vl.Ty.c [])]⟩ ((Gh.nil 9 2 (by simp -dsimp)).trans (Gh.to3 (by simp) (by first | simp -dsimp [↓e1, ↓e3, h4, q5]; done | simp_all))) ?_
  refine (C.impl_argTypes_l2 B hB1 hB2 x2 0 [] o'32 ho31) _ rfl _ ?_
  cases hF
  repeat (first | refine chk.ga ?_ | simp -dsimp)
  all_goals (try omega)

set_option maxRecDepth 100000 in
set_option maxHeartbeats 4000000 in
theorem C.impl_shape (B : Nat) (hB1 : 67108864 ≤ B) (hB2 : B ≤ 9223372036854775807) (w : List Vl.Data) (t : Vl.Ty) (p : Vl.Pattern) (r : (List Vl.Ty) × Bool) (hF : F.impl_shape w t p = some r) : PureCall Try.prog B 175 [.arr (List.map Vl.Data.c w), .agg [.lit (.int .i64 t.data), .lit (.int .i64 t.index)], .agg [.lit (.int .i64 p.op), .lit (.int .i64 p.ctor), .lit (.int .i64 p.n), .lit (.int .i64 p.m), .lit (.int .i64 p.var), .arr (List.map Vl.Pattern.c p.kids)]] (.tup [.arr (List.map Vl.Ty.c r.1), .lit (.bool r.2)]) := by
 unfold F.impl_shape at hF
 refine PureCall.enterLe Try.func175 (by kernel_rfl) rfl Try.ntmps175 (by simp) (by simp) ?_
 repeat (first | refine chk.ga ?_ | simp -dsimp)
 refine abr.split (fun h1 => ?_) (fun h1 => ?_)
 ·have q2 : (p.op = 1) := auq h1
  rw [if_pos q2] at hF
  repeat (first | refine chk.ga ?_ | simp -dsimp [h1])
  have hF := ob hF; obtain ⟨v, e3, hF⟩ := hF
  refine ((C.impl_only B hB1 hB2 p false false false (0 : Int) v e3)).goW (by first | simp [h1]; done | simp_all) (by simp) ?_
  cases hF
  repeat (first | refine chk.ga ?_ | simp -dsimp [h1])
  all_goals (try omega)
 ·have q2 : ¬ (p.op = 1) := auq h1
  rw [if_neg q2] at hF
  repeat (first | refine chk.ga ?_ | simp -dsimp [h1, q2])
  refine abr.split (fun h4 => ?_) (fun h4 => ?_)
  ·have q5 : (p.op = 2) := auq h4
   rw [if_pos q5] at hF
   repeat (first | refine chk.ga ?_ | simp -dsimp [h1, q2, h4])
   have hF := ob hF; obtain ⟨v6, e7, hF⟩ := hF
   refine ((C.impl_only B hB1 hB2 p false false true (0 : Int) v6 e7)).goW (by first | simp [h1, q2, h4]; done | simp_all) (by simp) ?_
   repeat (first | refine chk.ga ?_ | simp -dsimp [h1, q2, h4])
   refine abr.split (fun h8 => ?_) (fun h8 => ?_)
   ·have q9 : (v6 = true) := auq h8
    rw [if_pos q9] at hF
    repeat (first | refine chk.ga ?_ | simp -dsimp [h1, q2, h4, h8])
    have hF := ob hF; obtain ⟨v10, e11, hF⟩ := hF
    refine ((C.impl_isVar B hB1 hB2 p.var v10 e11)).goW (by first | simp [h1, q2, h4, h8]; done | simp_all) (by simp) ?_
    cases hF
    repeat (first | refine chk.ga ?_ | simp -dsimp [h1, q2, h4, h8])
    all_goals (try omega)
   ·have q9 : ¬ (v6 = true) := auq h8
    rw [if_neg q9] at hF
    cases hF
    repeat (first | refine chk.ga ?_ | simp -dsimp [h1, q2, h4, h8, q9])
    all_goals (try omega)
  ·have q5 : ¬ (p.op = 2) := auq h4
   rw [if_neg q5] at hF
   repeat (first | refine chk.ga ?_ | simp -dsimp [h1, q2, h4, q5])
   refine abr.split (fun h12 => ?_) (fun h12 => ?_)
   ·have q13 : (p.op = 3) := auq h12
    rw [if_pos q13] at hF
    repeat (first | refine chk.ga ?_ | simp -dsimp [h1, q2, h4, q5, h12])
    refine ADraw.simple follows (by kernel_rfl) (by kernel_rfl) ?_
    repeat (first | refine chk.ga ?_ | simp -dsimp [h1, q2, h4, q5, h12])
    refine abr.split (fun h14 => ?_) (fun h14 => ?_)
    ·have q15 : (t.data = (-1)) := auq h14
     rw [if_pos q15] at hF
     repeat (first | refine chk.ga ?_ | simp -dsimp [h1, q2, h4, q5, h12, h14])
     have hF := ob hF; obtain ⟨v16, e17, hF⟩ := hF
     refine ((C.impl_only B hB1 hB2 p false true false (0 : Int) v16 e17)).pgoW (by first | simp [h1, q2, h4, q5, h12, h14]; done | simp_all) (by simp) ?_
     repeat (first | refine chk.ga ?_ | simp -dsimp [h1, q2, h4, q5, h12, h14])
     refine abr.split (fun h18 => ?_) (fun h18 => ?_)
     ·have q19 : (v16 = true) := auq h18
      rw [if_pos q19] at hF
      repeat (first | refine chk.ga ?_ | simp -dsimp [h1, q2, h4, q5, h12, h14, h18])
      refine abr.split (fun h20 => ?_) (fun h20 => ?_)
      ·have q21 : (0 ≤ p.n) := auq h20
       rw [if_pos q21] at hF
       repeat (first | refine chk.ga ?_ | simp -dsimp [h1, q2, h4, q5, h12, h14, h18, h20])
       refine abr.split (fun h22 => ?_) (fun h22 => ?_)
       ·have q23 : (p.n ≤ p.m) := auq h22
        rw [if_pos q23] at hF
        cases hF
        repeat (first | refine chk.ga ?_ | simp -dsimp [h1, q2, h4, q5, h12, h14, h18, h20, h22])
        all_goals (try omega)
       ·have q23 : ¬ (p.n ≤ p.m) := auq h22
        rw [if_neg q23] at hF
        cases hF
        repeat (first | refine chk.ga ?_ | simp -dsimp [h1, q2, h4, q5, h12, h14, h18, h20, h22, q23])
        all_goals (try omega)
      ·have q21 : ¬ (0 ≤ p.n) := auq h20
       rw [if_neg q21] at hF
       cases hF
       repeat (first | refine chk.ga ?_ | simp -dsimp [h1, q2, h4, q5, h12, h14, h18, h20, q21])
       all_goals (try omega)
     ·have q19 : ¬ (v16 = true) := auq h18
      rw [if_neg q19] at hF
      cases hF
      repeat (first | refine chk.ga ?_ | simp -dsimp [h1, q2, h4, q5, h12, h14, h18, q19])
      all_goals (try omega)
    ·have q15 : ¬ (t.data = (-1)) := auq h14
     rw [if_neg q15] at hF
     cases hF
     repeat (first | refine chk.ga ?_ | simp -dsimp [h1, q2, h4, q5, h12, h14, q15])
     all_goals (try omega)
   ·have q13 : ¬ (p.op = 3) := auq h12
    rw [if_neg q13] at hF
    repeat (first | refine chk.ga ?_ | simp -dsimp [h1, q2, h4, q5, h12, q13])
    refine abr.split (fun h24 => ?_) (fun h24 => ?_)
    ·have q25 : (p.op = 4) := auq h24
     rw [if_pos q25] at hF
     repeat (first | refine chk.ga ?_ | simp -dsimp [h1, q2, h4, q5, h12, q13, h24])
     refine ADraw.simple follows (by kernel_rfl) (by kernel_rfl) ?_
     repeat (first | refine chk.ga ?_ | simp -dsimp [h1, q2, h4, q5, h12, q13, h24])
     have hF := ob hF; obtain ⟨v26, e27, hF⟩ := hF
     refine ((C.impl_ctorsOf B hB1 hB2 w t v26 e27)).pgoW (by first | simp [h1, q2, h4, q5, h12, q13, h24]; done | simp_all) (by simp) ?_
     repeat (first | refine chk.ga ?_ | simp -dsimp [h1, q2, h4, q5, h12, q13, h24])
     have hF := ob hF; obtain ⟨v28, e29, hF⟩ := hF
     refine ((C.slices_Contains_int B hB1 hB2 v26 p.ctor v28 e29)).pgoW (by first | simp [h1, q2, h4, q5, h12, q13, h24]; done | simp_all) (by simp) ?_
     repeat (first | refine chk.ga ?_ | simp -dsimp [h1, q2, h4, q5, h12, q13, h24])
     refine abr.split (fun h30 => ?_) (fun h30 => ?_)
     ·have q31 : ¬ (v28 = true) := auq h30
      rw [if_neg q31] at hF
      cases hF
      repeat (first | refine chk.ga ?_ | simp -dsimp [h1, q2, h4, q5, h12, q13, h24, h30, q31])
      all_goals (try omega)
     ·have q31 : (v28 = true) := auq h30
      rw [if_pos q31] at hF
      repeat (first | refine chk.ga ?_ | simp -dsimp [h1, q2, h4, q5, h12, q13, h24, h30, q31])
      have hF := ob hF; obtain ⟨v32, e33, hF⟩ := hF
      refine ((C.impl_argTypes B hB1 hB2 w t p.ctor v32 e33)).goW (by first | simp [h1, q2, h4, q5, h12, q13, h24, h30, q31]; done | simp_all) (by simp) ?_
      repeat (first | refine chk.ga ?_ | simp -dsimp [h1, q2, h4, q5, h12, q13, h24, h30, q31])
      have hF := ob hF; obtain ⟨v34, e35, hF⟩ := hF
      refine ((C.impl_only B hB1 hB2 p true false false (v32.length : Int) v34 e35)).goW (by first | simp [h1, q2, h4, q5, h12, q13, h24, h30, q31]; done | simp_all) (by simp) ?_
      cases hF
      repeat (first | refine chk.ga ?_ | simp -dsimp [h1, q2, h4, q5, h12, q13, h24, h30, q31])
      all_goals (try omega)
    ·have q25 : ¬ (p.op = 4) := auq h24
     rw [if_neg q25] at hF
     repeat (first | refine chk.ga ?_ | simp -dsimp [h1, q2, h4, q5, h12, q13, h24, q25])
     refine abr.split (fun h36 => ?_) (fun h36 => ?_)
     ·have q37 : (p.op = 5) := auq h36
      rw [if_pos q37] at hF
      repeat (first | refine chk.ga ?_ | simp -dsimp [h1, q2, h4, q5, h12, q13, h24, q25, h36])
      refine ADraw.eff [] [(0, 0), (0, 0), (0, 1), (0, 1), (0, 1), (1, 1), (1, 1)] [1, 1, 1, 2, 1, 1, 1] follows (by kernel_rfl) (by kernel_rfl) (by kernel_rfl) ?_
      repeat (first | refine chk.ga ?_ | simp -dsimp [h1, q2, h4, q5, h12, q13, h24, q25, h36])
      have hF := ob hF; obtain ⟨v38, e39, hF⟩ := hF
      refine ((C.impl_only B hB1 hB2 p false false false (2 : Int) v38 e39)).pgoW (by first | simp [h1, q2, h4, q5, h12, q13, h24, q25, h36]; done | simp_all) (by simp) ?_
      cases hF
      repeat (first | refine chk.ga ?_ | simp -dsimp [h1, q2, h4, q5, h12, q13, h24, q25, h36])
      all_goals (try omega)
     ·have q37 : ¬ (p.op = 5) := auq h36
      rw [if_neg q37] at hF
      repeat (first | refine chk.ga ?_ | simp -dsimp [h1, q2, h4, q5, h12, q13, h24, q25, h36, q37])
      refine abr.split (fun h40 => ?_) (fun h40 => ?_)
      ·have q41 : (p.op = 6) := auq h40
       rw [if_pos q41] at hF
       repeat (first | refine chk.ga ?_ | simp -dsimp [h1, q2, h4, q5, h12, q13, h24, q25, h36, q37, h40])
       refine ADraw.eff [] [(0, 0), (0, 1), (0, 1), (0, 1), (0, 1), (0, 1), (0, 1), (0, 1), (0, 1), (1, 1), (1, 1)] [1, 1, 2, 1, 1, 0, 2, 1, 1, 1, 1] follows (by kernel_rfl) (by kernel_rfl) (by kernel_rfl) ?_
       repeat (first | refine chk.ga ?_ | simp -dsimp [h1, q2, h4, q5, h12, q13, h24, q25, h36, q37, h40])
       have hF := ob hF; obtain ⟨v42, e43, hF⟩ := hF
       refine ((C.impl_only B hB1 hB2 p false false true (1 : Int) v42 e43)).pgoW (by first | simp [h1, q2, h4, q5, h12, q13, h24, q25, h36, q37, h40]; done | simp_all) (by simp) ?_
       repeat (first | refine chk.ga ?_ | simp -dsimp [h1, q2, h4, q5, h12, q13, h24, q25, h36, q37, h40])
       refine abr.split (fun h44 => ?_) (fun h44 => ?_)
       ·have q45 : (v42 = true) := auq h44
        rw [if_pos q45] at hF
        repeat (first | refine chk.ga ?_ | simp -dsimp [h1, q2, h4, q5, h12, q13, h24, q25, h36, q37, h40, h44])
        have hF := ob hF; obtain ⟨v46, e47, hF⟩ := hF
        refine ((C.impl_isVar B hB1 hB2 p.var v46 e47)).pgoW (by first | simp [h1, q2, h4, q5, h12, q13, h24, q25, h36, q37, h40, h44]; done | simp_all) (by simp) ?_
        cases hF
        repeat (first | refine chk.ga ?_ | simp -dsimp [h1, q2, h4, q5, h12, q13, h24, q25, h36, q37, h40, h44])
        all_goals (try omega)
       ·have q45 : ¬ (v42 = true) := auq h44
        rw [if_neg q45] at hF
        cases hF
        repeat (first | refine chk.ga ?_ | simp -dsimp [h1, q2, h4, q5, h12, q13, h24, q25, h36, q37, h40, h44, q45])
        all_goals (try omega)
      ·have q41 : ¬ (p.op = 6) := auq h40
       rw [if_neg q41] at hF
       cases hF
       repeat (first | refine chk.ga ?_ | simp -dsimp [h1, q2, h4, q5, h12, q13, h24, q25, h36, q37, h40, q41])
       all_goals (try omega)

set_option maxRecDepth 100000 in
set_option maxHeartbeats 4000000 in
theorem CC.slices_Index_VarType_l1 (B : Nat) (hB1 : 67108864 ≤ B) (hB2 : B ≤ 9223372036854775807) (s : List Vl.VarType) (v : Vl.VarType) : (∀ (i : Nat) (o : Lo Int Unit), F.slices_Index_VarType_l1 s v i = some o → ∀ (c : Code), navO [1, 0, 1, 0, 0] (bodyOf Try.f224) = some c → ∀ (Q : Exit → ASt → Prop), o.post (fun r => ∀ st, Post Try.prog Try.f224 (fun r' _ => r'.le (.lit (.int .i64 r))) .ret st → Q .ret st) (fun s => Q (.exit 0) ⟨[], []⟩) → ALoopU Try.prog B 0 19 (hold c .mk) ⟨[(0, .arr (List.map Vl.VarType.c s)), (3, .ptr 0 0), (7, .lit (.int .i64 (s.length : Int))), (8, .lit (.int .i64 (i : Int)))], [.cells [.lit (.int .i64 v.var), .lit (.int .i64 v.type.data), .lit (.int .i64 v.type.index)]]⟩ (hold Q .mk)) := by
 refine F.slices_Index_VarType_l1.partial_correctness s v
  (fun i o => ∀ (c : Code), navO [1, 0, 1, 0, 0] (bodyOf Try.f224) = some c → ∀ (Q : Exit → ASt → Prop), o.post (fun r => ∀ st, Post Try.prog Try.f224 (fun r' _ => r'.le (.lit (.int .i64 r))) .ret st → Q .ret st) (fun s => Q (.exit 0) ⟨[], []⟩) → ALoopU Try.prog B 0 19 (hold c .mk) ⟨[(0, .arr (List.map Vl.VarType.c s)), (3, .ptr 0 0), (7, .lit (.int .i64 (s.length : Int))), (8, .lit (.int .i64 (i : Int)))], [.cells [.lit (.int .i64 v.var), .lit (.int .i64 v.type.data), .lit (.int .i64 v.type.index)]]⟩ (hold Q .mk))
  ?_
 ·intro _f_slices_Index_VarType_l1 ih_slices_Index_VarType_l1 i o hF
  intro c hc Q hq
  obtain rfl : c = _ := navEq hc rfl
  refine ALoopU.know fun hk hs => ?_
  have b0 := hk 0
  simp -dsimp at b0
  clear hk hs
  refine ALoopU.enter ?_
  repeat (first | refine chk.ga ?_ | simp -dsimp)
  refine abr.split (fun h1 => ?_) (fun h1 => ?_)
  ·have q2 : (i < s.length) := auq h1
   have z3 : ((i : Int) < (s.length : Int)) := auz
   rw [if_pos q2] at hF
   repeat (first | refine chk.ga ?_ | simp -dsimp [h1, z3])
   refine ADraw.simple follows (by kernel_rfl) (by kernel_rfl) ?_
   have hF := ob hF; obtain ⟨x, e4, hF⟩ := hF
   have le4 := lt_of_get e4
   repeat (first | refine chk.ga ?_ | simp -dsimp [h1, z3, ↓e4])
   refine abr.split (fun h5 => ?_) (fun h5 => ?_)
   ·have q6 : (dec (eq3 (v.var, v.type.data, v.type.index) (x.var, x.type.data, x.type.index)) = true) := auq h5
    rw [if_pos q6] at hF
    cases hF
    repeat (first | refine chk.ga ?_ | simp -dsimp [h1, z3, ↓e4, h5])
    refine Leave.go _ (Gh.refl _) (hq _ ?_)
    repeat (first | refine chk.ga ?_ | simp -dsimp [h1, z3, ↓e4, h5])
   ·have q6 : ¬ (dec (eq3 (v.var, v.type.data, v.type.index) (x.var, x.type.data, x.type.index)) = true) := auq h5
    rw [if_neg q6] at hF
    have w7 : IntKind.i64.wrap ((i : Int) + 1) = (i : Int) + 1 := wrap_in (by omega) (by omega)
    repeat (first | refine chk.ga ?_ | simp -dsimp [h1, z3, ↓e4, h5, q6, w7])
    refine Again.go ⟨[(0, .arr (List.map Vl.VarType.c s)), (3, .ptr 0 0), (7, .lit (.int .i64 (s.length : Int))), (8, .lit (.int .i64 ((i + 1) : Int)))], [.cells [.lit (.int .i64 v.var), .lit (.int .i64 v.type.data), .lit (.int .i64 v.type.index)]]⟩ (Gh.to3 (by simp) (by first | simp -dsimp [h1, z3, ↓e4, h5, q6, w7]; done | simp_all)) ?_
    exact (ih_slices_Index_VarType_l1 (i + 1) o hF) _ rfl _ hq
  ·have q2 : ¬ (i < s.length) := auq h1
   have z3 : ¬ ((i : Int) < (s.length : Int)) := auz
   rw [if_neg q2] at hF
   cases hF
   repeat (first | refine chk.ga ?_ | simp -dsimp [h1, q2, z3])
   refine Leave.go ⟨[], []⟩ (Gh.to3 (by simp) (by first | simp -dsimp [h1, q2, z3]; done | simp_all)) ?_
   exact hq

theorem C.slices_Index_VarType_l1 (B : Nat) (hB1 : 67108864 ≤ B) (hB2 : B ≤ 9223372036854775807) (s : List Vl.VarType) (v : Vl.VarType) (i : Nat) (o : Lo Int Unit) (hF : F.slices_Index_VarType_l1 s v i = some o) : ∀ (c : Code), navO [1, 0, 1, 0, 0] (bodyOf Try.f224) = some c → ∀ (Q : Exit → ASt → Prop), o.post (fun r => ∀ st, Post Try.prog Try.f224 (fun r' _ => r'.le (.lit (.int .i64 r))) .ret st → Q .ret st) (fun s => Q (.exit 0) ⟨[], []⟩) → ALoopU Try.prog B 0 19 (hold c .mk) ⟨[(0, .arr (List.map Vl.VarType.c s)), (3, .ptr 0 0), (7, .lit (.int .i64 (s.length : Int))), (8, .lit (.int .i64 (i : Int)))], [.cells [.lit (.int .i64 v.var), .lit (.int .i64 v.type.data), .lit (.int .i64 v.type.index)]]⟩ (hold Q .mk) :=
 (CC.slices_Index_VarType_l1 B hB1 hB2 s v) i o hF

set_option maxRecDepth 100000 in
set_option maxHeartbeats 4000000 in
theorem C.slices_Index_VarType (B : Nat) (hB1 : 67108864 ≤ B) (hB2 : B ≤ 9223372036854775807) (s : List Vl.VarType) (v : Vl.VarType) (r : Int) (hF : F.slices_Index_VarType s v = some r) : PureCall Try.prog B 224 [.arr (List.map Vl.VarType.c s), .agg [.lit (.int .i64 v.var), .lit (.int .i64 v.type.data), .lit (.int .i64 v.type.index)]] (.lit (.int .i64 r)) := by
 unfold F.slices_Index_VarType at hF
 refine PureCall.enterLe Try.func224 (by kernel_rfl) rfl Try.ntmps224 (by simp) (by simp) ?_
 repeat (first | refine chk.ga ?_ | simp -dsimp)
 have hF := ob hF; obtain ⟨o', ho8, hF⟩ := hF
 refine ALoop.goU ⟨[(0, .arr (List.map Vl.VarType.c s)), (3, .ptr 0 0), (7, .lit (.int .i64 (s.length : Int))), (8, .lit (.int .i64 (0 : Int)))], [.cells [.lit (.int .i64 v.var), .lit (.int .i64 v.type.data), .lit (.int .i64 v.type.index)]]⟩ (Gh.to3 (by simp) (by simp -dsimp)) ?_
 refine (C.slices_Index_VarType_l1 B hB1 hB2 s v 0 o' ho8) _ rfl _ ?_
 rcases o' with r0 | sx
 ·dsimp only at hF
  cases hF
  intro st h
  simpa using h
 ·dsimp only at hF
  cases hF
  repeat (first | refine chk.ga ?_ | simp -dsimp)
  all_goals (try omega)

set_option maxRecDepth 100000 in
set_option maxHeartbeats 4000000 in
theorem C.slices_Contains_VarType (B : Nat) (hB1 : 67108864 ≤ B) (hB2 : B ≤ 9223372036854775807) (s : List Vl.VarType) (v : Vl.VarType) (r : Bool) (hF : F.slices_Contains_VarType s v = some r) : PureCall Try.prog B 211 [.arr (List.map Vl.VarType.c s), .agg [.lit (.int .i64 v.var), .lit (.int .i64 v.type.data), .lit (.int .i64 v.type.index)]] (.lit (.bool r)) := by
 unfold F.slices_Contains_VarType at hF
 refine PureCall.enterLe Try.func211 (by kernel_rfl) rfl Try.ntmps211 (by simp) (by simp) ?_
 repeat (first | refine chk.ga ?_ | simp -dsimp)
 have hF := ob hF; obtain ⟨v1, e2, hF⟩ := hF
 refine ((C.slices_Index_VarType B hB1 hB2 s v v1 e2)).goW (by simp) (by simp) ?_
 cases hF
 repeat (first | refine chk.ga ?_ | simp -dsimp)
 all_goals (try omega)

set_option maxRecDepth 100000 in
set_option maxHeartbeats 4000000 in
theorem C.impl_sameVars_1 (B : Nat) (hB1 : 67108864 ≤ B) (hB2 : B ≤ 9223372036854775807) (v : Vl.VarType) (a1 : List Vl.VarType) (r : Bool) (hF : F.impl_sameVars_1 v a1 = some r) : PureCall Try.prog B 229 [.agg [.lit (.int .i64 v.var), .lit (.int .i64 v.type.data), .lit (.int .i64 v.type.index)], .rptr [.arr (List.map Vl.VarType.c a1)] 0] (.lit (.bool r)) := by
 unfold F.impl_sameVars_1 at hF
 refine PureCall.enterLe Try.func229 (by kernel_rfl) rfl Try.ntmps229 (by simp) (by simp) ?_
 repeat (first | refine chk.ga ?_ | simp -dsimp)
 have hF := ob hF; obtain ⟨v1, e2, hF⟩ := hF
 refine ((C.slices_Contains_VarType B hB1 hB2 a1 v v1 e2)).goW (by simp) (by simp) ?_
 cases hF
 repeat (first | refine chk.ga ?_ | simp -dsimp)
 all_goals (try omega)

set_option maxRecDepth 100000 in
set_option maxHeartbeats 4000000 in
theorem CC.slices_IndexFunc_VarType__impl_sameVars_1_l1 (B : Nat) (hB1 : 67108864 ≤ B) (hB2 : B ≤ 9223372036854775807) (s : List Vl.VarType) (k0 : List Vl.VarType) : (∀ (i : Nat) (o : Lo Int Unit), F.slices_IndexFunc_VarType__impl_sameVars_1_l1 s k0 i = some o → ∀ (c : Code), navO [1, 0, 1, 0, 0] (bodyOf Try.f220) = some c → ∀ (Q : Exit → ASt → Prop), o.post (fun r => ∀ st, Post Try.prog Try.f220 (fun r' _ => r'.le (.lit (.int .i64 r))) .ret st → Q .ret st) (fun s => Q (.exit 0) ⟨[], []⟩) → ALoopU Try.prog B 0 19 (hold c .mk) ⟨[(0, .arr (List.map Vl.VarType.c s)), (1, .fn (.func 229) [] [.rptr [.arr (List.map Vl.VarType.c k0)] 0]), (7, .lit (.int .i64 (s.length : Int))), (8, .lit (.int .i64 (i : Int)))], []⟩ (hold Q .mk)) := by
 refine F.slices_IndexFunc_VarType__impl_sameVars_1_l1.partial_correctness s k0
  (fun i o => ∀ (c : Code), navO [1, 0, 1, 0, 0] (bodyOf Try.f220) = some c → ∀ (Q : Exit → ASt → Prop), o.post (fun r => ∀ st, Post Try.prog Try.f220 (fun r' _ => r'.le (.lit (.int .i64 r))) .ret st → Q .ret st) (fun s => Q (.exit 0) ⟨[], []⟩) → ALoopU Try.prog B 0 19 (hold c .mk) ⟨[(0, .arr (List.map Vl.VarType.c s)), (1, .fn (.func 229) [] [.rptr [.arr (List.map Vl.VarType.c k0)] 0]), (7, .lit (.int .i64 (s.length : Int))), (8, .lit (.int .i64 (i : Int)))], []⟩ (hold Q .mk))
  ?_
 ·intro _f_slices_IndexFunc_VarType__impl_sameVars_1_l1 ih_slices_IndexFunc_VarType__impl_sameVars_1_l1 i o hF
  intro c hc Q hq
  obtain rfl : c = _ := navEq hc rfl
  refine ALoopU.know fun hk hs => ?_
  have b0 := hk 0
  simp -dsimp at b0
  clear hk hs
  refine ALoopU.enter ?_
  repeat (first | refine chk.ga ?_ | simp -dsimp)
  refine abr.split (fun h1 => ?_) (fun h1 => ?_)
  ·have q2 : (i < s.length) := auq h1
   have z3 : ((i : Int) < (s.length : Int)) := auz
   rw [if_pos q2] at hF
   have hF := ob hF; obtain ⟨x, e4, hF⟩ := hF
   have le4 := lt_of_get e4
   repeat (first | refine chk.ga ?_ | simp -dsimp [h1, z3, ↓e4])
   have hF := ob hF; obtain ⟨v, e5, hF⟩ := hF
   refine ((C.impl_sameVars_1 B hB1 hB2 x k0 v e5)).goW (by first | simp [h1, z3, ↓e4]; done | simp_all) (by simp) ?_
   repeat (first | refine chk.ga ?_ | simp -dsimp [h1, z3, ↓e4])
   refine abr.split (fun h6 => ?_) (fun h6 => ?_)
   ·have q7 : (v = true) := auq h6
    rw [if_pos q7] at hF
    cases hF
    repeat (first | refine chk.ga ?_ | simp -dsimp [h1, z3, ↓e4, h6])
    refine Leave.go _ (Gh.refl _) (hq _ ?_)
    repeat (first | refine chk.ga ?_ | simp -dsimp [h1, z3, ↓e4, h6])
   ·have q7 : ¬ (v = true) := auq h6
    rw [if_neg q7] at hF
    have w8 : IntKind.i64.wrap ((i : Int) + 1) = (i : Int) + 1 := wrap_in (by omega) (by omega)
    repeat (first | refine chk.ga ?_ | simp -dsimp [h1, z3, ↓e4, h6, q7, w8])
    refine Again.go ⟨[(0, .arr (List.map Vl.VarType.c s)), (1, .fn (.func 229) [] [.rptr [.arr (List.map Vl.VarType.c k0)] 0]), (7, .lit (.int .i64 (s.length : Int))), (8, .lit (.int .i64 ((i + 1) : Int)))], []⟩ (Gh.to3 (by simp) (by first | simp -dsimp [h1, z3, ↓e4, h6, q7, w8]; done | simp_all)) ?_
    exact (ih_slices_IndexFunc_VarType__impl_sameVars_1_l1 (i + 1) o hF) _ rfl _ hq
  ·have q2 : ¬ (i < s.length) := auq h1
   have z3 : ¬ ((i : Int) < (s.length : Int)) := auz
   rw [if_neg q2] at hF
   cases hF
   repeat (first | refine chk.ga ?_ | simp -dsimp [h1, q2, z3])
   refine Leave.go ⟨[], []⟩ (Gh.to3 (by simp) (by first | simp -dsimp [h1, q2, z3]; done | simp_all)) ?_
   exact hq

theorem C.slices_IndexFunc_VarType__impl_sameVars_1_l1 (B : Nat) (hB1 : 67108864 ≤ B) (hB2 : B ≤ 9223372036854775807) (s : List Vl.VarType) (k0 : List Vl.VarType) (i : Nat) (o : Lo Int Unit) (hF : F.slices_IndexFunc_VarType__impl_sameVars_1_l1 s k0 i = some o) : ∀ (c : Code), navO [1, 0, 1, 0, 0] (bodyOf Try.f220) = some c → ∀ (Q : Exit → ASt → Prop), o.post (fun r => ∀ st, Post Try.prog Try.f220 (fun r' _ => r'.le (.lit (.int .i64 r))) .ret st → Q .ret st) (fun s => Q (.exit 0) ⟨[], []⟩) → ALoopU Try.prog B 0 19 (hold c .mk) ⟨[(0, .arr (List.map Vl.VarType.c s)), (1, .fn (.func 229) [] [.rptr [.arr (List.map Vl.VarType.c k0)] 0]), (7, .lit (.int .i64 (s.length : Int))), (8, .lit (.int .i64 (i : Int)))], []⟩ (hold Q .mk) :=
 (CC.slices_IndexFunc_VarType__impl_sameVars_1_l1 B hB1 hB2 s k0) i o hF

set_option maxRecDepth 100000 in
set_option maxHeartbeats 4000000 in
theorem C.slices_IndexFunc_VarType__impl_sameVars_1 (B : Nat) (hB1 : 67108864 ≤ B) (hB2 : B ≤ 9223372036854775807) (s : List Vl.VarType) (k0 : List Vl.VarType) (r : Int) (hF : F.slices_IndexFunc_VarType__impl_sameVars_1 s k0 = some r) : PureCall Try.prog B 220 [.arr (List.map Vl.VarType.c s), .fn (.func 229) [] [.rptr [.arr (List.map Vl.VarType.c k0)] 0]] (.lit (.int .i64 r)) := by
 unfold F.slices_IndexFunc_VarType__impl_sameVars_1 at hF
 refine PureCall.enterLe Try.func220 (by kernel_rfl) rfl Try.ntmps220 (by simp) (by simp) ?_
 repeat (first | refine chk.ga ?_ | simp -dsimp)
 have hF := ob hF; obtain ⟨o', ho9, hF⟩ := hF
 refine ALoop.goU ⟨[(0, .arr (List.map Vl.VarType.c s)), (1, .fn (.func 229) [] [.rptr [.arr (List.map Vl.VarType.c k0)] 0]), (7, .lit (.int .i64 (s.length : Int))), (8, .lit (.int .i64 (0 : Int)))], []⟩ (Gh.to3 (by simp) (by simp -dsimp)) ?_
 refine (C.slices_IndexFunc_VarType__impl_sameVars_1_l1 B hB1 hB2 s k0 0 o' ho9) _ rfl _ ?_
 rcases o' with r0 | sx
 ·dsimp only at hF
  cases hF
  intro st h
  simpa using h
 ·dsimp only at hF
  cases hF
  repeat (first | refine chk.ga ?_ | simp -dsimp)
  all_goals (try omega)

set_option maxRecDepth 100000 in
set_option maxHeartbeats 4000000 in
theorem C.slices_ContainsFunc_VarType__impl_sameVars_1 (B : Nat) (hB1 : 67108864 ≤ B) (hB2 : B ≤ 9223372036854775807) (s : List Vl.VarType) (k0 : List Vl.VarType) (r : Bool) (hF : F.slices_ContainsFunc_VarType__impl_sameVars_1 s k0 = some r) : PureCall Try.prog B 228 [.arr (List.map Vl.VarType.c s), .fn (.func 229) [] [.rptr [.arr (List.map Vl.VarType.c k0)] 0]] (.lit (.bool r)) := by
 unfold F.slices_ContainsFunc_VarType__impl_sameVars_1 at hF
 refine PureCall.enterLe Try.func228 (by kernel_rfl) rfl Try.ntmps228 (by simp) (by simp) ?_
 repeat (first | refine chk.ga ?_ | simp -dsimp)
 have hF := ob hF; obtain ⟨v, e1, hF⟩ := hF
 refine ((C.slices_IndexFunc_VarType__impl_sameVars_1 B hB1 hB2 s k0 v e1)).goW (by simp) (by simp) ?_
 cases hF
 repeat (first | refine chk.ga ?_ | simp -dsimp)
 all_goals (try omega)

set_option maxRecDepth 100000 in
set_option maxHeartbeats 4000000 in
theorem C.impl_sameVars (B : Nat) (hB1 : 67108864 ≤ B) (hB2 : B ≤ 9223372036854775807) (a : List Vl.VarType) (b : List Vl.VarType) (r : Bool) (hF : F.impl_sameVars a b = some r) : PureCall Try.prog B 223 [.arr (List.map Vl.VarType.c a), .arr (List.map Vl.VarType.c b)] (.lit (.bool r)) := by
 unfold F.impl_sameVars at hF
 refine PureCall.enterLe Try.func223 (by kernel_rfl) rfl Try.ntmps223 (by simp) (by simp) ?_
 repeat (first | refine chk.ga ?_ | simp -dsimp)
 refine abr.split (fun h1 => ?_) (fun h1 => ?_)
 ·have q2 : (a.length = b.length) := auq h1
  have z3 : ((a.length : Int) = (b.length : Int)) := auz
  rw [if_pos q2] at hF
  repeat (first | refine chk.ga ?_ | simp -dsimp [h1, z3])
  have hF := ob hF; obtain ⟨v, e4, hF⟩ := hF
  refine ((C.slices_ContainsFunc_VarType__impl_sameVars_1 B hB1 hB2 a b v e4)).lend (by first | simp -dsimp [h1, z3]; done | simp_all) (by simp -dsimp) ?_
  cases hF
  repeat (first | refine chk.ga ?_ | simp -dsimp [h1, z3])
  all_goals (try omega)
 ·have q2 : ¬ (a.length = b.length) := auq h1
  have z3 : ¬ ((a.length : Int) = (b.length : Int)) := auz
  rw [if_neg q2] at hF
  cases hF
  repeat (first | refine chk.ga ?_ | simp -dsimp [h1, q2, z3])
  all_goals (try omega)

set_option maxRecDepth 100000 in
set_option maxHeartbeats 4000000 in
theorem CC.impl_patternScan_l2 (B : Nat) (hB1 : 67108864 ≤ B) (hB2 : B ≤ 9223372036854775807) (sx : Int × (List Vl.VarType)) : (∀ (set' : Nat → Bool) (i37 : Nat) (o : Lo ((List Vl.VarType) × Bool × Int) Unit), F.impl_patternScan_l2 sx set' i37 = some o → ∀ (c : Code), navO [1, 1, 1, 1, 1, 1, 1, 1, 1, 0, 1, 0, 0] (bodyOf Try.f208) = some c → ∀ (Q : Exit → ASt → Prop), o.post (fun r => ∀ st, Post Try.prog Try.f208 (fun r' σ' => r'.le (.tup [.arr (List.map Vl.VarType.c r.1), .lit (.bool r.2.1)]) ∧ mcell σ' [.lit (.int .i64 r.2.2)]) .ret st → Q .ret st) (fun s => Q (.exit 3) ⟨[(14, .own 4 (List.length (α := Vl.VarType) sx.2))], [.cells [.lit (.int .i64 sx.1)], .dead, .dead, .dead, .elems 3 (List.map Vl.VarType.c sx.2)]⟩) → ALoopU Try.prog B 1 114 (hold c .mk) ⟨[(14, .own 4 (List.length (α := Vl.VarType) sx.2)), (19, .ptr 5 0), (99, .own 4 (List.length (α := Vl.VarType) sx.2)), (100, .lit (.int .i64 (sx.2.length : Int))), (101, .lit (.int .i64 (i37 : Int)))], [.cells [.lit (.int .i64 sx.1)], .dead, .dead, .dead, .elems 3 (List.map Vl.VarType.c sx.2), .cells (fcB 6 set')]⟩ (hold Q .mk)) := by
 refine F.impl_patternScan_l2.partial_correctness sx
  (fun set' i37 o => ∀ (c : Code), navO [1, 1, 1, 1, 1, 1, 1, 1, 1, 0, 1, 0, 0] (bodyOf Try.f208) = some c → ∀ (Q : Exit → ASt → Prop), o.post (fun r => ∀ st, Post Try.prog Try.f208 (fun r' σ' => r'.le (.tup [.arr (List.map Vl.VarType.c r.1), .lit (.bool r.2.1)]) ∧ mcell σ' [.lit (.int .i64 r.2.2)]) .ret st → Q .ret st) (fun s => Q (.exit 3) ⟨[(14, .own 4 (List.length (α := Vl.VarType) sx.2))], [.cells [.lit (.int .i64 sx.1)], .dead, .dead, .dead, .elems 3 (List.map Vl.VarType.c sx.2)]⟩) → ALoopU Try.prog B 1 114 (hold c .mk) ⟨[(14, .own 4 (List.length (α := Vl.VarType) sx.2)), (19, .ptr 5 0), (99, .own 4 (List.length (α := Vl.VarType) sx.2)), (100, .lit (.int .i64 (sx.2.length : Int))), (101, .lit (.int .i64 (i37 : Int)))], [.cells [.lit (.int .i64 sx.1)], .dead, .dead, .dead, .elems 3 (List.map Vl.VarType.c sx.2), .cells (fcB 6 set')]⟩ (hold Q .mk))
  ?_
 ·intro _f_impl_patternScan_l2 ih_impl_patternScan_l2 set' i37 o hF
  intro c hc Q hq
  obtain rfl : c = _ := navEq hc rfl
  refine ALoopU.know fun hk hs => ?_
  have d4 := hs 4 _ rfl
  simp -dsimp [Blk.bnd] at d4
  clear hk hs
  refine ALoopU.enter ?_
  repeat (first | refine chk.ga ?_ | simp -dsimp)
  refine abr.split (fun h38 => ?_) (fun h38 => ?_)
  ·have q39 : (i37 < sx.2.length) := auq h38
   have z40 : ((i37 : Int) < (sx.2.length : Int)) := auz
   rw [if_pos q39] at hF
   have hF := ob hF; obtain ⟨x41, e42, hF⟩ := hF
   have le42 := lt_of_get e42
   have hF := oc hF; obtain ⟨c43, hF⟩ := hF
   repeat (first | refine chk.ga ?_ | simp -dsimp [h38, z40, ↓e42, c43])
   refine abr.split (fun h44 => ?_) (fun h44 => ?_)
   ·have q45 : (set' x41.var.toNat = true) := auq h44
    rw [if_pos q45] at hF
    cases hF
    repeat (first | refine chk.ga ?_ | simp -dsimp [h38, z40, ↓e42, c43, h44])
    refine Leave.go _ (Gh.refl _) (hq _ ?_)
    repeat (first | refine chk.ga ?_ | simp -dsimp [h38, z40, ↓e42, c43, h44])
   ·have q45 : ¬ (set' x41.var.toNat = true) := auq h44
    rw [if_neg q45] at hF
    have w46 : IntKind.i64.wrap ((i37 : Int) + 1) = (i37 : Int) + 1 := wrap_in (by omega) (by omega)
    repeat (first | refine chk.ga ?_ | simp -dsimp [h38, z40, ↓e42, c43, h44, q45, w46])
    refine Again.go ⟨[(14, .own 4 (List.length (α := Vl.VarType) sx.2)), (19, .ptr 5 0), (99, .own 4 (List.length (α := Vl.VarType) sx.2)), (100, .lit (.int .i64 (sx.2.length : Int))), (101, .lit (.int .i64 ((i37 + 1) : Int)))], [.cells [.lit (.int .i64 sx.1)], .dead, .dead, .dead, .elems 3 (List.map Vl.VarType.c sx.2), .cells (fcB 6 (updF set' x41.var.toNat true))]⟩ (Gh.to3 (by simp) (by first | simp -dsimp [h38, z40, ↓e42, c43, h44, q45, w46]; done | simp_all)) ?_
    exact (ih_impl_patternScan_l2 (updF set' x41.var.toNat true) (i37 + 1) o hF) _ rfl _ hq
  ·have q39 : ¬ (i37 < sx.2.length) := auq h38
   have z40 : ¬ ((i37 : Int) < (sx.2.length : Int)) := auz
   rw [if_neg q39] at hF
   cases hF
   repeat (first | refine chk.ga ?_ | simp -dsimp [h38, q39, z40])
   refine Leave.go ⟨[(14, .own 4 (List.length (α := Vl.VarType) sx.2))], [.cells [.lit (.int .i64 sx.1)], .dead, .dead, .dead, .elems 3 (List.map Vl.VarType.c sx.2)]⟩ (Gh.to3 (by simp) (by first | simp -dsimp [h38, q39, z40]; done | simp_all)) ?_
   exact hq

theorem C.impl_patternScan_l2 (B : Nat) (hB1 : 67108864 ≤ B) (hB2 : B ≤ 9223372036854775807) (sx : Int × (List Vl.VarType)) (set' : Nat → Bool) (i37 : Nat) (o : Lo ((List Vl.VarType) × Bool × Int) Unit) (hF : F.impl_patternScan_l2 sx set' i37 = some o) : ∀ (c : Code), navO [1, 1, 1, 1, 1, 1, 1, 1, 1, 0, 1, 0, 0] (bodyOf Try.f208) = some c → ∀ (Q : Exit → ASt → Prop), o.post (fun r => ∀ st, Post Try.prog Try.f208 (fun r' σ' => r'.le (.tup [.arr (List.map Vl.VarType.c r.1), .lit (.bool r.2.1)]) ∧ mcell σ' [.lit (.int .i64 r.2.2)]) .ret st → Q .ret st) (fun s => Q (.exit 3) ⟨[(14, .own 4 (List.length (α := Vl.VarType) sx.2))], [.cells [.lit (.int .i64 sx.1)], .dead, .dead, .dead, .elems 3 (List.map Vl.VarType.c sx.2)]⟩) → ALoopU Try.prog B 1 114 (hold c .mk) ⟨[(14, .own 4 (List.length (α := Vl.VarType) sx.2)), (19, .ptr 5 0), (99, .own 4 (List.length (α := Vl.VarType) sx.2)), (100, .lit (.int .i64 (sx.2.length : Int))), (101, .lit (.int .i64 (i37 : Int)))], [.cells [.lit (.int .i64 sx.1)], .dead, .dead, .dead, .elems 3 (List.map Vl.VarType.c sx.2), .cells (fcB 6 set')]⟩ (hold Q .mk) :=
 (CC.impl_patternScan_l2 B hB1 hB2 sx) set' i37 o hF

set_option maxRecDepth 100000 in
set_option maxHeartbeats 4000000 in
theorem CC.impl_patternScan_l4 (B : Nat) (hB1 : 67108864 ≤ B) (hB2 : B ≤ 9223372036854775807) (sx81 : Int × (List Vl.VarType)) : (∀ (set'82 : Nat → Bool) (i83 : Nat) (o : Lo ((List Vl.VarType) × Bool × Int) Unit), F.impl_patternScan_l4 sx81 set'82 i83 = some o → ∀ (c : Code), navO [1, 1, 1, 1, 1, 1, 1, 1, 1, 0, 1, 0, 0] (bodyOf Try.f208) = some c → ∀ (Q : Exit → ASt → Prop), o.post (fun r => ∀ st, Post Try.prog Try.f208 (fun r' σ' => r'.le (.tup [.arr (List.map Vl.VarType.c r.1), .lit (.bool r.2.1)]) ∧ mcell σ' [.lit (.int .i64 r.2.2)]) .ret st → Q .ret st) (fun s => Q (.exit 3) ⟨[(14, .own 3 (List.length (α := Vl.VarType) sx81.2))], [.cells [.lit (.int .i64 sx81.1)], .dead, .dead, .elems 3 (List.map Vl.VarType.c sx81.2)]⟩) → ALoopU Try.prog B 1 114 (hold c .mk) ⟨[(14, .own 3 (List.length (α := Vl.VarType) sx81.2)), (19, .ptr 4 0), (99, .own 3 (List.length (α := Vl.VarType) sx81.2)), (100, .lit (.int .i64 (sx81.2.length : Int))), (101, .lit (.int .i64 (i83 : Int)))], [.cells [.lit (.int .i64 sx81.1)], .dead, .dead, .elems 3 (List.map Vl.VarType.c sx81.2), .cells (fcB 6 set'82)]⟩ (hold Q .mk)) := by
 refine F.impl_patternScan_l4.partial_correctness sx81
  (fun set'82 i83 o => ∀ (c : Code), navO [1, 1, 1, 1, 1, 1, 1, 1, 1, 0, 1, 0, 0] (bodyOf Try.f208) = some c → ∀ (Q : Exit → ASt → Prop), o.post (fun r => ∀ st, Post Try.prog Try.f208 (fun r' σ' => r'.le (.tup [.arr (List.map Vl.VarType.c r.1), .lit (.bool r.2.1)]) ∧ mcell σ' [.lit (.int .i64 r.2.2)]) .ret st → Q .ret st) (fun s => Q (.exit 3) ⟨[(14, .own 3 (List.length (α := Vl.VarType) sx81.2))], [.cells [.lit (.int .i64 sx81.1)], .dead, .dead, .elems 3 (List.map Vl.VarType.c sx81.2)]⟩) → ALoopU Try.prog B 1 114 (hold c .mk) ⟨[(14, .own 3 (List.length (α := Vl.VarType) sx81.2)), (19, .ptr 4 0), (99, .own 3 (List.length (α := Vl.VarType) sx81.2)), (100, .lit (.int .i64 (sx81.2.length : Int))), (101, .lit (.int .i64 (i83 : Int)))], [.cells [.lit (.int .i64 sx81.1)], .dead, .dead, .elems 3 (List.map Vl.VarType.c sx81.2), .cells (fcB 6 set'82)]⟩ (hold Q .mk))
  ?_
 ·intro _f_impl_patternScan_l4 ih_impl_patternScan_l4 set'82 i83 o hF
  intro c hc Q hq
  obtain rfl : c = _ := navEq hc rfl
  refine ALoopU.know fun hk hs => ?_
  have d3 := hs 3 _ rfl
  simp -dsimp [Blk.bnd] at d3
  clear hk hs
  refine ALoopU.enter ?_
  repeat (first | refine chk.ga ?_ | simp -dsimp)
  refine abr.split (fun h84 => ?_) (fun h84 => ?_)
  ·have q85 : (i83 < sx81.2.length) := auq h84
   have z86 : ((i83 : Int) < (sx81.2.length : Int)) := auz
   rw [if_pos q85] at hF
   have hF := ob hF; obtain ⟨x87, e88, hF⟩ := hF
   have le88 := lt_of_get e88
   have hF := oc hF; obtain ⟨c89, hF⟩ := hF
   repeat (first | refine chk.ga ?_ | simp -dsimp [h84, z86, ↓e88, c89])
   refine abr.split (fun h90 => ?_) (fun h90 => ?_)
   ·have q91 : (set'82 x87.var.toNat = true) := auq h90
    rw [if_pos q91] at hF
    cases hF
    repeat (first | refine chk.ga ?_ | simp -dsimp [h84, z86, ↓e88, c89, h90])
    refine Leave.go _ (Gh.refl _) (hq _ ?_)
    repeat (first | refine chk.ga ?_ | simp -dsimp [h84, z86, ↓e88, c89, h90])
   ·have q91 : ¬ (set'82 x87.var.toNat = true) := auq h90
    rw [if_neg q91] at hF
    have w92 : IntKind.i64.wrap ((i83 : Int) + 1) = (i83 : Int) + 1 := wrap_in (by omega) (by omega)
    repeat (first | refine chk.ga ?_ | simp -dsimp [h84, z86, ↓e88, c89, h90, q91, w92])
    refine Again.go ⟨[(14, .own 3 (List.length (α := Vl.VarType) sx81.2)), (19, .ptr 4 0), (99, .own 3 (List.length (α := Vl.VarType) sx81.2)), (100, .lit (.int .i64 (sx81.2.length : Int))), (101, .lit (.int .i64 ((i83 + 1) : Int)))], [.cells [.lit (.int .i64 sx81.1)], .dead, .dead, .elems 3 (List.map Vl.VarType.c sx81.2), .cells (fcB 6 (updF set'82 x87.var.toNat true))]⟩ (Gh.to3 (by simp) (by first | simp -dsimp [h84, z86, ↓e88, c89, h90, q91, w92]; done | simp_all)) ?_
    exact (ih_impl_patternScan_l4 (updF set'82 x87.var.toNat true) (i83 + 1) o hF) _ rfl _ hq
  ·have q85 : ¬ (i83 < sx81.2.length) := auq h84
   have z86 : ¬ ((i83 : Int) < (sx81.2.length : Int)) := auz
   rw [if_neg q85] at hF
   cases hF
   repeat (first | refine chk.ga ?_ | simp -dsimp [h84, q85, z86])
   refine Leave.go ⟨[(14, .own 3 (List.length (α := Vl.VarType) sx81.2))], [.cells [.lit (.int .i64 sx81.1)], .dead, .dead, .elems 3 (List.map Vl.VarType.c sx81.2)]⟩ (Gh.to3 (by simp) (by first | simp -dsimp [h84, q85, z86]; done | simp_all)) ?_
   exact hq

theorem C.impl_patternScan_l4 (B : Nat) (hB1 : 67108864 ≤ B) (hB2 : B ≤ 9223372036854775807) (sx81 : Int × (List Vl.VarType)) (set'82 : Nat → Bool) (i83 : Nat) (o : Lo ((List Vl.VarType) × Bool × Int) Unit) (hF : F.impl_patternScan_l4 sx81 set'82 i83 = some o) : ∀ (c : Code), navO [1, 1, 1, 1, 1, 1, 1, 1, 1, 0, 1, 0, 0] (bodyOf Try.f208) = some c → ∀ (Q : Exit → ASt → Prop), o.post (fun r => ∀ st, Post Try.prog Try.f208 (fun r' σ' => r'.le (.tup [.arr (List.map Vl.VarType.c r.1), .lit (.bool r.2.1)]) ∧ mcell σ' [.lit (.int .i64 r.2.2)]) .ret st → Q .ret st) (fun s => Q (.exit 3) ⟨[(14, .own 3 (List.length (α := Vl.VarType) sx81.2))], [.cells [.lit (.int .i64 sx81.1)], .dead, .dead, .elems 3 (List.map Vl.VarType.c sx81.2)]⟩) → ALoopU Try.prog B 1 114 (hold c .mk) ⟨[(14, .own 3 (List.length (α := Vl.VarType) sx81.2)), (19, .ptr 4 0), (99, .own 3 (List.length (α := Vl.VarType) sx81.2)), (100, .lit (.int .i64 (sx81.2.length : Int))), (101, .lit (.int .i64 (i83 : Int)))], [.cells [.lit (.int .i64 sx81.1)], .dead, .dead, .elems 3 (List.map Vl.VarType.c sx81.2), .cells (fcB 6 set'82)]⟩ (hold Q .mk) :=
 (CC.impl_patternScan_l4 B hB1 hB2 sx81) set'82 i83 o hF

set_option maxRecDepth 100000 in
set_option maxHeartbeats 4000000 in
theorem CC.impl_patternScan_l6 (B : Nat) (hB1 : 67108864 ≤ B) (hB2 : B ≤ 9223372036854775807) (sx128 : Int × (List Vl.VarType)) : (∀ (set'129 : Nat → Bool) (i130 : Nat) (o : Lo ((List Vl.VarType) × Bool × Int) Unit), F.impl_patternScan_l6 sx128 set'129 i130 = some o → ∀ (c : Code), navO [1, 1, 1, 1, 1, 1, 1, 1, 1, 0, 1, 0, 0] (bodyOf Try.f208) = some c → ∀ (Q : Exit → ASt → Prop), o.post (fun r => ∀ st, Post Try.prog Try.f208 (fun r' σ' => r'.le (.tup [.arr (List.map Vl.VarType.c r.1), .lit (.bool r.2.1)]) ∧ mcell σ' [.lit (.int .i64 r.2.2)]) .ret st → Q .ret st) (fun s => Q (.exit 3) ⟨[(14, .own 4 (List.length (α := Vl.VarType) sx128.2))], [.cells [.lit (.int .i64 sx128.1)], .dead, .dead, .dead, .elems 3 (List.map Vl.VarType.c sx128.2)]⟩) → ALoopU Try.prog B 1 114 (hold c .mk) ⟨[(14, .own 4 (List.length (α := Vl.VarType) sx128.2)), (19, .ptr 5 0), (99, .own 4 (List.length (α := Vl.VarType) sx128.2)), (100, .lit (.int .i64 (sx128.2.length : Int))), (101, .lit (.int .i64 (i130 : Int)))], [.cells [.lit (.int .i64 sx128.1)], .dead, .dead, .dead, .elems 3 (List.map Vl.VarType.c sx128.2), .cells (fcB 6 set'129)]⟩ (hold Q .mk)) := by
 refine F.impl_patternScan_l6.partial_correctness sx128
  (fun set'129 i130 o => ∀ (c : Code), navO [1, 1, 1, 1, 1, 1, 1, 1, 1, 0, 1, 0, 0] (bodyOf Try.f208) = some c → ∀ (Q : Exit → ASt → Prop), o.post (fun r => ∀ st, Post Try.prog Try.f208 (fun r' σ' => r'.le (.tup [.arr (List.map Vl.VarType.c r.1), .lit (.bool r.2.1)]) ∧ mcell σ' [.lit (.int .i64 r.2.2)]) .ret st → Q .ret st) (fun s => Q (.exit 3) ⟨[(14, .own 4 (List.length (α := Vl.VarType) sx128.2))], [.cells [.lit (.int .i64 sx128.1)], .dead, .dead, .dead, .elems 3 (List.map Vl.VarType.c sx128.2)]⟩) → ALoopU Try.prog B 1 114 (hold c .mk) ⟨[(14, .own 4 (List.length (α := Vl.VarType) sx128.2)), (19, .ptr 5 0), (99, .own 4 (List.length (α := Vl.VarType) sx128.2)), (100, .lit (.int .i64 (sx128.2.length : Int))), (101, .lit (.int .i64 (i130 : Int)))], [.cells [.lit (.int .i64 sx128.1)], .dead, .dead, .dead, .elems 3 (List.map Vl.VarType.c sx128.2), .cells (fcB 6 set'129)]⟩ (hold Q .mk))
  ?_
 ·intro _f_impl_patternScan_l6 ih_impl_patternScan_l6 set'129 i130 o hF
  intro c hc Q hq
  obtain rfl : c = _ := navEq hc rfl
  refine ALoopU.know fun hk hs => ?_
  have d4 := hs 4 _ rfl
  simp -dsimp [Blk.bnd] at d4
  clear hk hs
  refine ALoopU.enter ?_
  repeat (first | refine chk.ga ?_ | simp -dsimp)
  refine abr.split (fun h131 => ?_) (fun h131 => ?_)
  ·have q132 : (i130 < sx128.2.length) := auq h131
   have z133 : ((i130 : Int) < (sx128.2.length : Int)) := auz
   rw [if_pos q132] at hF
   have hF := ob hF; obtain ⟨x134, e135, hF⟩ := hF
   have le135 := lt_of_get e135
   have hF := oc hF; obtain ⟨c136, hF⟩ := hF
   repeat (first | refine chk.ga ?_ | simp -dsimp [h131, z133, ↓e135, c136])
   refine abr.split (fun h137 => ?_) (fun h137 => ?_)
   ·have q138 : (set'129 x134.var.toNat = true) := auq h137
    rw [if_pos q138] at hF
    cases hF
    repeat (first | refine chk.ga ?_ | simp -dsimp [h131, z133, ↓e135, c136, h137])
    refine Leave.go _ (Gh.refl _) (hq _ ?_)
    repeat (first | refine chk.ga ?_ | simp -dsimp [h131, z133, ↓e135, c136, h137])
   ·have q138 : ¬ (set'129 x134.var.toNat = true) := auq h137
    rw [if_neg q138] at hF
    have w139 : IntKind.i64.wrap ((i130 : Int) + 1) = (i130 : Int) + 1 := wrap_in (by omega) (by omega)
    repeat (first | refine chk.ga ?_ | simp -dsimp [h131, z133, ↓e135, c136, h137, q138, w139])
    refine Again.go ⟨[(14, .own 4 (List.length (α := Vl.VarType) sx128.2)), (19, .ptr 5 0), (99, .own 4 (List.length (α := Vl.VarType) sx128.2)), (100, .lit (.int .i64 (sx128.2.length : Int))), (101, .lit (.int .i64 ((i130 + 1) : Int)))], [.cells [.lit (.int .i64 sx128.1)], .dead, .dead, .dead, .elems 3 (List.map Vl.VarType.c sx128.2), .cells (fcB 6 (updF set'129 x134.var.toNat true))]⟩ (Gh.to3 (by simp) (by first | simp -dsimp [h131, z133, ↓e135, c136, h137, q138, w139]; done | simp_all)) ?_
    exact (ih_impl_patternScan_l6 (updF set'129 x134.var.toNat true) (i130 + 1) o hF) _ rfl _ hq
  ·have q132 : ¬ (i130 < sx128.2.length) := auq h131
   have z133 : ¬ ((i130 : Int) < (sx128.2.length : Int)) := auz
   rw [if_neg q132] at hF
   cases hF
   repeat (first | refine chk.ga ?_ | simp -dsimp [h131, q132, z133])
   refine Leave.go ⟨[(14, .own 4 (List.length (α := Vl.VarType) sx128.2))], [.cells [.lit (.int .i64 sx128.1)], .dead, .dead, .dead, .elems 3 (List.map Vl.VarType.c sx128.2)]⟩ (Gh.to3 (by simp) (by first | simp -dsimp [h131, q132, z133]; done | simp_all)) ?_
   exact hq

theorem C.impl_patternScan_l6 (B : Nat) (hB1 : 67108864 ≤ B) (hB2 : B ≤ 9223372036854775807) (sx128 : Int × (List Vl.VarType)) (set'129 : Nat → Bool) (i130 : Nat) (o : Lo ((List Vl.VarType) × Bool × Int) Unit) (hF : F.impl_patternScan_l6 sx128 set'129 i130 = some o) : ∀ (c : Code), navO [1, 1, 1, 1, 1, 1, 1, 1, 1, 0, 1, 0, 0] (bodyOf Try.f208) = some c → ∀ (Q : Exit → ASt → Prop), o.post (fun r => ∀ st, Post Try.prog Try.f208 (fun r' σ' => r'.le (.tup [.arr (List.map Vl.VarType.c r.1), .lit (.bool r.2.1)]) ∧ mcell σ' [.lit (.int .i64 r.2.2)]) .ret st → Q .ret st) (fun s => Q (.exit 3) ⟨[(14, .own 4 (List.length (α := Vl.VarType) sx128.2))], [.cells [.lit (.int .i64 sx128.1)], .dead, .dead, .dead, .elems 3 (List.map Vl.VarType.c sx128.2)]⟩) → ALoopU Try.prog B 1 114 (hold c .mk) ⟨[(14, .own 4 (List.length (α := Vl.VarType) sx128.2)), (19, .ptr 5 0), (99, .own 4 (List.length (α := Vl.VarType) sx128.2)), (100, .lit (.int .i64 (sx128.2.length : Int))), (101, .lit (.int .i64 (i130 : Int)))], [.cells [.lit (.int .i64 sx128.1)], .dead, .dead, .dead, .elems 3 (List.map Vl.VarType.c sx128.2), .cells (fcB 6 set'129)]⟩ (hold Q .mk) :=
 (CC.impl_patternScan_l6 B hB1 hB2 sx128) set'129 i130 o hF

end Go.Proofs.Ytelglbenbnkjmaa
