/- The contracts: the code computes the functions (printed by gen.py). -/
import Derived.Test.YtipcmoamhapecaaProg
import Derived.Test.YtipcmoamhapecaaMaskAllF
import Derived.Test.YtipcmoamhapecaaMaskAllC2
namespace Go.Proofs.Ytipcmoamhapecaa
open Go Go.Proofs Go.Vl
set_option linter.unusedSimpArgs false
set_option linter.unusedVariables false

attribute [local irreducible] ECallA aL AMake MLoop AgainM LeaveM awpM aopsM MutCall BCall chk abr ACall ALoop ALoopU ADraw Again Leave PCallA PCall Post awp aops PureCall hold

theorem C.slices_EqualFunc_Value__impl_ValueSame_l1 (B : Nat) (hB1 : 67108864 ≤ B) (hB2 : B ≤ 9223372036854775807) (s1 : List Vl.Value) (s2 : List Vl.Value) (i : Nat) (o : Lo Bool Unit) (hF : F.slices_EqualFunc_Value__impl_ValueSame_l1 s1 s2 i = some o) : ∀ (c : Code), navO [1, 1, 0, 1, 0, 0] (bodyOf Try.f32) = some c → ∀ (Q : Exit → ASt → Prop), o.post (fun r => ∀ st, Post Try.prog Try.f32 (fun r' _ => r'.le (.lit (.bool r))) .ret st → Q .ret st) (fun s => Q (.exit 0) ⟨[], []⟩) → ALoopU Try.prog B 0 32 (hold c .mk) ⟨[(1, .arr (List.map Vl.Value.c s2)), (2, .fn (.func 13) [] []), (15, .arr (List.map Vl.Value.c s1)), (16, .lit (.int .i64 (s1.length : Int))), (17, .lit (.int .i64 (i : Int)))], []⟩ (hold Q .mk) :=
 (CC.impl_ValueSame B hB1 hB2 ).2.2 s1 s2 i o hF

set_option maxRecDepth 100000 in
set_option maxHeartbeats 4000000 in
theorem CC.laws_ptHole (B : Nat) (hB1 : 67108864 ≤ B) (hB2 : B ≤ 9223372036854775807)  : (∀ (v : Vl.Value) (r : Bool), F.laws_ptHole v = some r → PureCall Try.prog B 17 [.agg [.lit (.int .i64 v.ctor), .lit (.int .i64 v.n), .arr (List.map Vl.Value.c v.kids)]] (.lit (.bool r))) ∧
  (∀ (v : Vl.Value) (i : Nat) (o : Lo Bool Unit), F.laws_ptHole_l1 v i = some o → ∀ (c : Code), navO [1, 0, 1, 0, 0] (bodyOf Try.f17) = some c → ∀ (Q : Exit → ASt → Prop), o.post (fun r => ∀ st, Post Try.prog Try.f17 (fun r' _ => r'.le (.lit (.bool r))) .ret st → Q .ret st) (fun s => Q (.exit 0) ⟨[(1, .ptr 0 0)], [.cells [.lit (.int .i64 v.ctor), .lit (.int .i64 v.n), .arr (List.map Vl.Value.c v.kids)]]⟩) → ALoopU Try.prog B 0 20 (hold c .mk) ⟨[(1, .ptr 0 0), (3, .lit (.int .i64 (i : Int)))], [.cells [.lit (.int .i64 v.ctor), .lit (.int .i64 v.n), .arr (List.map Vl.Value.c v.kids)]]⟩ (hold Q .mk)) := by
 refine F.laws_ptHole.mutual_partial_correctness 
  (fun v r => PureCall Try.prog B 17 [.agg [.lit (.int .i64 v.ctor), .lit (.int .i64 v.n), .arr (List.map Vl.Value.c v.kids)]] (.lit (.bool r)))
  (fun v i o => ∀ (c : Code), navO [1, 0, 1, 0, 0] (bodyOf Try.f17) = some c → ∀ (Q : Exit → ASt → Prop), o.post (fun r => ∀ st, Post Try.prog Try.f17 (fun r' _ => r'.le (.lit (.bool r))) .ret st → Q .ret st) (fun s => Q (.exit 0) ⟨[(1, .ptr 0 0)], [.cells [.lit (.int .i64 v.ctor), .lit (.int .i64 v.n), .arr (List.map Vl.Value.c v.kids)]]⟩) → ALoopU Try.prog B 0 20 (hold c .mk) ⟨[(1, .ptr 0 0), (3, .lit (.int .i64 (i : Int)))], [.cells [.lit (.int .i64 v.ctor), .lit (.int .i64 v.n), .arr (List.map Vl.Value.c v.kids)]]⟩ (hold Q .mk))
  ?_ ?_
 ·intro _f_laws_ptHole_l1 ih_laws_ptHole_l1 v r hF
  refine PureCall.enterLe Try.func17 (by kernel_rfl) rfl Try.ntmps17 (by simp) (by simp) ?_
  repeat (first | refine chk.ga ?_ | simp -dsimp)
  have hF := ob hF; obtain ⟨o', ho10, hF⟩ := hF
  refine ALoop.goU ⟨[(1, .ptr 0 0), (3, .lit (.int .i64 (0 : Int)))], [.cells [.lit (.int .i64 v.ctor), .lit (.int .i64 v.n), .arr (List.map Vl.Value.c v.kids)]]⟩ (Gh.to3 (by simp) (by simp -dsimp)) ?_
  refine (ih_laws_ptHole_l1 v 0 o' ho10) _ rfl _ ?_
  rcases o' with r0 | sx
  ·dsimp only at hF
   cases hF
   intro st h
   simpa using h
  ·dsimp only at hF
   cases hF
   repeat (first | refine chk.ga ?_ | simp -dsimp)
   all_goals (try omega)
 ·intro _f_laws_ptHole _f_laws_ptHole_l1 ih_laws_ptHole ih_laws_ptHole_l1 v i o hF
  intro c hc Q hq
  obtain rfl : c = _ := navEq hc rfl
  refine ALoopU.know fun hk hs => ?_
  have d0 := hs 0 _ rfl
  simp -dsimp [Blk.bnd] at d0
  clear hk hs
  refine ALoopU.enter ?_
  repeat (first | refine chk.ga ?_ | simp -dsimp)
  refine abr.split (fun h1 => ?_) (fun h1 => ?_)
  ·have q2 : (i < v.kids.length) := auq h1
   have z3 : ((i : Int) < (v.kids.length : Int)) := auz
   rw [if_pos q2] at hF
   have hF := ob hF; obtain ⟨x, e4, hF⟩ := hF
   have le4 := lt_of_get e4
   repeat (first | refine chk.ga ?_ | simp -dsimp [h1, z3, ↓e4])
   have hF := ob hF; obtain ⟨v5, e6, hF⟩ := hF
   refine ((ih_laws_ptHole x v5 e6)).goW (by first | simp [h1, z3, ↓e4]; done | simp_all) (by simp) ?_
   repeat (first | refine chk.ga ?_ | simp -dsimp [h1, z3, ↓e4])
   refine abr.split (fun h7 => ?_) (fun h7 => ?_)
   ·have q8 : (v5 = true) := auq h7
    rw [if_pos q8] at hF
    cases hF
    repeat (first | refine chk.ga ?_ | simp -dsimp [h1, z3, ↓e4, h7])
    refine Leave.go _ (Gh.refl _) (hq _ ?_)
    repeat (first | refine chk.ga ?_ | simp -dsimp [h1, z3, ↓e4, h7])
   ·have q8 : ¬ (v5 = true) := auq h7
    rw [if_neg q8] at hF
    have w9 : IntKind.i64.wrap ((i : Int) + 1) = (i : Int) + 1 := wrap_in (by omega) (by omega)
    repeat (first | refine chk.ga ?_ | simp -dsimp [h1, z3, ↓e4, h7, q8, w9])
    refine Again.go ⟨[(1, .ptr 0 0), (3, .lit (.int .i64 ((i + 1) : Int)))], [.cells [.lit (.int .i64 v.ctor), .lit (.int .i64 v.n), .arr (List.map Vl.Value.c v.kids)]]⟩ (Gh.to3 (by simp) (by first | simp -dsimp [h1, z3, ↓e4, h7, q8, w9]; done | simp_all)) ?_
    exact (ih_laws_ptHole_l1 v (i + 1) o hF) _ rfl _ hq
  ·have q2 : ¬ (i < v.kids.length) := auq h1
   have z3 : ¬ ((i : Int) < (v.kids.length : Int)) := auz
   rw [if_neg q2] at hF
   cases hF
   repeat (first | refine chk.ga ?_ | simp -dsimp [h1, q2, z3])
   refine Leave.go ⟨[(1, .ptr 0 0)], [.cells [.lit (.int .i64 v.ctor), .lit (.int .i64 v.n), .arr (List.map Vl.Value.c v.kids)]]⟩ (Gh.to3 (by simp) (by first | simp -dsimp [h1, q2, z3]; done | simp_all)) ?_
   exact hq

theorem C.laws_ptHole (B : Nat) (hB1 : 67108864 ≤ B) (hB2 : B ≤ 9223372036854775807) (v : Vl.Value) (r : Bool) (hF : F.laws_ptHole v = some r) : PureCall Try.prog B 17 [.agg [.lit (.int .i64 v.ctor), .lit (.int .i64 v.n), .arr (List.map Vl.Value.c v.kids)]] (.lit (.bool r)) :=
 (CC.laws_ptHole B hB1 hB2 ).1 v r hF

theorem C.laws_ptHole_l1 (B : Nat) (hB1 : 67108864 ≤ B) (hB2 : B ≤ 9223372036854775807) (v : Vl.Value) (i : Nat) (o : Lo Bool Unit) (hF : F.laws_ptHole_l1 v i = some o) : ∀ (c : Code), navO [1, 0, 1, 0, 0] (bodyOf Try.f17) = some c → ∀ (Q : Exit → ASt → Prop), o.post (fun r => ∀ st, Post Try.prog Try.f17 (fun r' _ => r'.le (.lit (.bool r))) .ret st → Q .ret st) (fun s => Q (.exit 0) ⟨[(1, .ptr 0 0)], [.cells [.lit (.int .i64 v.ctor), .lit (.int .i64 v.n), .arr (List.map Vl.Value.c v.kids)]]⟩) → ALoopU Try.prog B 0 20 (hold c .mk) ⟨[(1, .ptr 0 0), (3, .lit (.int .i64 (i : Int)))], [.cells [.lit (.int .i64 v.ctor), .lit (.int .i64 v.n), .arr (List.map Vl.Value.c v.kids)]]⟩ (hold Q .mk) :=
 (CC.laws_ptHole B hB1 hB2 ).2 v i o hF

set_option maxRecDepth 100000 in
set_option maxHeartbeats 4000000 in
theorem C.laws_FnMaskAll (B : Nat) (hB1 : 67108864 ≤ B) (hB2 : B ≤ 9223372036854775807) (code : List Int) (r : Bool) (hF : F.laws_FnMaskAll code = some r) : PureCall Try.prog B 6 [.arr (List.map cU code)] (.lit (.bool r)) := by
 unfold F.laws_FnMaskAll at hF
 refine PureCall.enterLe Try.func6 (by kernel_rfl) rfl Try.ntmps6 (by simp) (by simp) ?_
 repeat (first | refine chk.ga ?_ | simp -dsimp)
 refine abr.split (fun h1 => ?_) (fun h1 => ?_)
 ·have q2 : (1048576 < code.length) := auq h1
  have z3 : ((1048576 : Int) < (code.length : Int)) := auz
  rw [if_pos q2] at hF
  cases hF
  repeat (first | refine chk.ga ?_ | simp -dsimp [h1, z3])
  all_goals (try omega)
 ·have q2 : ¬ (1048576 < code.length) := auq h1
  have z3 : ¬ ((1048576 : Int) < (code.length : Int)) := auz
  rw [if_neg q2] at hF
  repeat (first | refine chk.ga ?_ | simp -dsimp [h1, q2, z3])
  have hF := ob hF; obtain ⟨v, e4, hF⟩ := hF
  refine ((C.spec_DrawMaskValue B hB1 hB2 code v e4)).goW (by first | simp [h1, q2, z3]; done | simp_all) (by simp) ?_
  repeat (first | refine chk.ga ?_ | simp -dsimp [h1, q2, z3])
  have hF := ob hF; obtain ⟨v5, e6, hF⟩ := hF
  refine ((C.impl_MaskValue B hB1 hB2 v.1 v.2.1 v.2.2.1 v.2.2.2 v5 e6)).goW (by first | simp [h1, q2, z3]; done | simp_all) (by simp) ?_
  repeat (first | refine chk.ga ?_ | simp -dsimp [h1, q2, z3])
  have hF := ob hF; obtain ⟨v7, e8, hF⟩ := hF
  refine ((C.spec_MaskValue B hB1 hB2 v.1 v.2.1 v.2.2.1 v.2.2.2 v7 e8)).goW (by first | simp [h1, q2, z3]; done | simp_all) (by simp) ?_
  repeat (first | refine chk.ga ?_ | simp -dsimp [h1, q2, z3])
  have hF := ob hF; obtain ⟨v9, e10, hF⟩ := hF
  refine ((C.impl_MaskValue B hB1 hB2 v.1 v.2.1 v.2.2.1 [] v9 e10)).goW (by first | simp [h1, q2, z3]; done | simp_all) (by simp) ?_
  repeat (first | refine chk.ga ?_ | simp -dsimp [h1, q2, z3])
  refine abr.split (fun h11 => ?_) (fun h11 => ?_)
  ·have q12 : (v5.2 = v7.2) := auq h11
   rw [if_pos q12] at hF
   repeat (first | refine chk.ga ?_ | simp -dsimp [h1, q2, z3, h11])
   have hF := ob hF; obtain ⟨v13, e14, hF⟩ := hF
   refine ((C.impl_ValueSame B hB1 hB2 v5.1 v7.1 v13 e14)).goW (by first | simp [h1, q2, z3, h11]; done | simp_all) (by simp) ?_
   repeat (first | refine chk.ga ?_ | simp -dsimp [h1, q2, z3, h11])
   refine abr.split (fun h15 => ?_) (fun h15 => ?_)
   ·have q16 : (v13 = true) := auq h15
    rw [if_pos q16] at hF
    repeat (first | refine chk.ga ?_ | simp -dsimp [h1, q2, z3, h11, h15])
    refine abr.split (fun h17 => ?_) (fun h17 => ?_)
    ·have q18 : ¬ (v5.2 = true) := auq h17
     rw [if_neg q18] at hF
     repeat (first | refine chk.ga ?_ | simp -dsimp [h1, q2, z3, h11, h15, h17, q18])
     have hF := ob hF; obtain ⟨v19, e20, hF⟩ := hF
     refine ((C.impl_ValueSame B hB1 hB2 v5.1 v7.1 v19 e20)).goW (by first | simp [h1, q2, z3, h11, h15, h17, q18]; done | simp_all) (by simp) ?_
     cases hF
     repeat (first | refine chk.ga ?_ | simp -dsimp [h1, q2, z3, h11, h15, h17, q18])
     all_goals (try omega)
    ·have q18 : (v5.2 = true) := auq h17
     rw [if_pos q18] at hF
     repeat (first | refine chk.ga ?_ | simp -dsimp [h1, q2, z3, h11, h15, h17, q18])
     refine abr.split (fun h21 => ?_) (fun h21 => ?_)
     ·have q22 : (v9.2 = true) := auq h21
      rw [if_pos q22] at hF
      repeat (first | refine chk.ga ?_ | simp -dsimp [h1, q2, z3, h11, h15, h17, q18, h21])
      refine abr.split (fun h23 => ?_) (fun h23 => ?_)
      ·have q24 : (v9.1.ctor = (-2)) := auq h23
       rw [if_pos q24] at hF
       repeat (first | refine chk.ga ?_ | simp -dsimp [h1, q2, z3, h11, h15, h17, q18, h21, h23])
       refine abr.split (fun h25 => ?_) (fun h25 => ?_)
       ·have q26 : (v9.1.kids.length = 0) := auq h25
        have z27 : ((v9.1.kids.length : Int) = (0 : Int)) := auz
        rw [if_pos q26] at hF
        repeat (first | refine chk.ga ?_ | simp -dsimp [h1, q2, z3, h11, h15, h17, q18, h21, h23, h25, z27])
        have hF := ob hF; obtain ⟨v28, e29, hF⟩ := hF
        refine ((C.laws_ptHole B hB1 hB2 v5.1 v28 e29)).goW (by first | simp [h1, q2, z3, h11, h15, h17, q18, h21, h23, h25, z27]; done | simp_all) (by simp) ?_
        repeat (first | refine chk.ga ?_ | simp -dsimp [h1, q2, z3, h11, h15, h17, q18, h21, h23, h25, z27])
        refine abr.split (fun h30 => ?_) (fun h30 => ?_)
        ·have q31 : ¬ (v28 = true) := auq h30
         rw [if_neg q31] at hF
         repeat (first | refine chk.ga ?_ | simp -dsimp [h1, q2, z3, h11, h15, h17, q18, h21, h23, h25, z27, h30, q31])
         have hF := ob hF; obtain ⟨v32, e33, hF⟩ := hF
         refine ((C.impl_ValueSame B hB1 hB2 v5.1 v.2.2.1 v32 e33)).goW (by first | simp [h1, q2, z3, h11, h15, h17, q18, h21, h23, h25, z27, h30, q31]; done | simp_all) (by simp) ?_
         cases hF
         repeat (first | refine chk.ga ?_ | simp -dsimp [h1, q2, z3, h11, h15, h17, q18, h21, h23, h25, z27, h30, q31])
         all_goals (try omega)
        ·have q31 : (v28 = true) := auq h30
         rw [if_pos q31] at hF
         cases hF
         repeat (first | refine chk.ga ?_ | simp -dsimp [h1, q2, z3, h11, h15, h17, q18, h21, h23, h25, z27, h30, q31])
         all_goals (try omega)
       ·have q26 : ¬ (v9.1.kids.length = 0) := auq h25
        have z27 : ¬ ((v9.1.kids.length : Int) = (0 : Int)) := auz
        rw [if_neg q26] at hF
        cases hF
        repeat (first | refine chk.ga ?_ | simp -dsimp [h1, q2, z3, h11, h15, h17, q18, h21, h23, h25, q26, z27])
        all_goals (try omega)
      ·have q24 : ¬ (v9.1.ctor = (-2)) := auq h23
       rw [if_neg q24] at hF
       cases hF
       repeat (first | refine chk.ga ?_ | simp -dsimp [h1, q2, z3, h11, h15, h17, q18, h21, h23, q24])
       all_goals (try omega)
     ·have q22 : ¬ (v9.2 = true) := auq h21
      rw [if_neg q22] at hF
      cases hF
      repeat (first | refine chk.ga ?_ | simp -dsimp [h1, q2, z3, h11, h15, h17, q18, h21, q22])
      all_goals (try omega)
   ·have q16 : ¬ (v13 = true) := auq h15
    rw [if_neg q16] at hF
    repeat (first | refine chk.ga ?_ | simp -dsimp [h1, q2, z3, h11, h15, q16])
    have hF := ob hF; obtain ⟨v34, e35, hF⟩ := hF
    refine ((C.impl_ValueSame B hB1 hB2 v5.1 v7.1 v34 e35)).goW (by first | simp [h1, q2, z3, h11, h15, q16]; done | simp_all) (by simp) ?_
    cases hF
    repeat (first | refine chk.ga ?_ | simp -dsimp [h1, q2, z3, h11, h15, q16])
    all_goals (try omega)
  ·have q12 : ¬ (v5.2 = v7.2) := auq h11
   rw [if_neg q12] at hF
   cases hF
   repeat (first | refine chk.ga ?_ | simp -dsimp [h1, q2, z3, h11, q12])
   all_goals (try omega)

end Go.Proofs.Ytipcmoamhapecaa
