/- The contracts: the code computes the functions (printed by gen.py). -/
import Derived.Test.YtipcmoamhapecaaProg
import Derived.Test.YtipcmoamhapecaaMaskValueF
import Derived.Test.YtipcmoamhapecaaMaskValueC2
namespace Go.Proofs.Ytipcmoamhapecaa
open Go Go.Proofs Go.Vl
set_option linter.unusedSimpArgs false
set_option linter.unusedVariables false

attribute [local irreducible] ECallA aL AMake MLoop AgainM LeaveM awpM aopsM MutCall BCall chk abr ACall ALoop ALoopU ADraw Again Leave PCallA PCall Post awp aops PureCall hold

theorem C.slices_EqualFunc_Value__impl_ValueSame_l1 (B : Nat) (hB1 : 67108864 ≤ B) (hB2 : B ≤ 9223372036854775807) (s1 : List Vl.Value) (s2 : List Vl.Value) (i : Nat) (o : Lo Bool Unit) (hF : F.slices_EqualFunc_Value__impl_ValueSame_l1 s1 s2 i = some o) : ∀ (c : Code), navO [1, 1, 0, 1, 0, 0] (bodyOf Try.f32) = some c → ∀ (Q : Exit → ASt → Prop), o.post (fun r => ∀ st, Post Try.prog Try.f32 (fun r' _ => r'.le (.lit (.bool r))) .ret st → Q .ret st) (fun s => Q (.exit 0) ⟨[], []⟩) → ALoopU Try.prog B 0 32 (hold c .mk) ⟨[(1, .arr (List.map Vl.Value.c s2)), (2, .fn (.func 13) [] []), (15, .arr (List.map Vl.Value.c s1)), (16, .lit (.int .i64 (s1.length : Int))), (17, .lit (.int .i64 (i : Int)))], []⟩ (hold Q .mk) :=
 (CC.impl_ValueSame B hB1 hB2 ).2.2 s1 s2 i o hF

set_option maxRecDepth 100000 in
set_option maxHeartbeats 4000000 in
theorem CC.impl_more (B : Nat) (hB1 : 67108864 ≤ B) (hB2 : B ≤ 9223372036854775807)  : (∀ (a : Vl.Value) (b : Vl.Value) (r : Bool), F.impl_more a b = some r → PureCall Try.prog B 28 [.agg [.lit (.int .i64 a.ctor), .lit (.int .i64 a.n), .arr (List.map Vl.Value.c a.kids)], .agg [.lit (.int .i64 b.ctor), .lit (.int .i64 b.n), .arr (List.map Vl.Value.c b.kids)]] (.lit (.bool r))) ∧
  (∀ (a : Vl.Value) (b : Vl.Value) (i : Nat) (o : Lo Bool Unit), F.impl_more_l1 a b i = some o → ∀ (c : Code), navO [1, 1, 1, 0, 1, 0, 0] (bodyOf Try.f28) = some c → ∀ (Q : Exit → ASt → Prop), o.post (fun r => ∀ st, Post Try.prog Try.f28 (fun r' _ => r'.le (.lit (.bool r))) .ret st → Q .ret st) (fun s => Q (.exit 0) ⟨[], []⟩) → ALoopU Try.prog B 0 49 (hold c .mk) ⟨[(2, .ptr 0 0), (3, .ptr 1 0), (32, .lit (.int .i64 (b.kids.length : Int))), (33, .lit (.int .i64 (i : Int)))], [.cells [.lit (.int .i64 a.ctor), .lit (.int .i64 a.n), .arr (List.map Vl.Value.c a.kids)], .cells [.lit (.int .i64 b.ctor), .lit (.int .i64 b.n), .arr (List.map Vl.Value.c b.kids)]]⟩ (hold Q .mk)) := by
 refine F.impl_more.mutual_partial_correctness 
  (fun a b r => PureCall Try.prog B 28 [.agg [.lit (.int .i64 a.ctor), .lit (.int .i64 a.n), .arr (List.map Vl.Value.c a.kids)], .agg [.lit (.int .i64 b.ctor), .lit (.int .i64 b.n), .arr (List.map Vl.Value.c b.kids)]] (.lit (.bool r)))
  (fun a b i o => ∀ (c : Code), navO [1, 1, 1, 0, 1, 0, 0] (bodyOf Try.f28) = some c → ∀ (Q : Exit → ASt → Prop), o.post (fun r => ∀ st, Post Try.prog Try.f28 (fun r' _ => r'.le (.lit (.bool r))) .ret st → Q .ret st) (fun s => Q (.exit 0) ⟨[], []⟩) → ALoopU Try.prog B 0 49 (hold c .mk) ⟨[(2, .ptr 0 0), (3, .ptr 1 0), (32, .lit (.int .i64 (b.kids.length : Int))), (33, .lit (.int .i64 (i : Int)))], [.cells [.lit (.int .i64 a.ctor), .lit (.int .i64 a.n), .arr (List.map Vl.Value.c a.kids)], .cells [.lit (.int .i64 b.ctor), .lit (.int .i64 b.n), .arr (List.map Vl.Value.c b.kids)]]⟩ (hold Q .mk))
  ?_ ?_
 ·intro _f_impl_more_l1 ih_impl_more_l1 a b r hF
  refine PureCall.enterLe Try.func28 (by kernel_rfl) rfl Try.ntmps28 (by simp) (by simp) ?_
  repeat (first | refine chk.ga ?_ | simp -dsimp)
  refine abr.split (fun h1 => ?_) (fun h1 => ?_)
  ·have q2 : (b.ctor = (-2)) := auq h1
   rw [if_pos q2] at hF
   cases hF
   repeat (first | refine chk.ga ?_ | simp -dsimp [h1])
   all_goals (try omega)
  ·have q2 : ¬ (b.ctor = (-2)) := auq h1
   rw [if_neg q2] at hF
   repeat (first | refine chk.ga ?_ | simp -dsimp [h1, q2])
   refine abr.split (fun h3 => ?_) (fun h3 => ?_)
   ·have q4 : (a.ctor = b.ctor) := auq h3
    rw [if_pos q4] at hF
    repeat (first | refine chk.ga ?_ | simp -dsimp [h1, q2, h3])
    refine abr.split (fun h5 => ?_) (fun h5 => ?_)
    ·have q6 : (a.n = b.n) := auq h5
     rw [if_pos q6] at hF
     repeat (first | refine chk.ga ?_ | simp -dsimp [h1, q2, h3, h5])
     refine abr.split (fun h7 => ?_) (fun h7 => ?_)
     ·have q8 : ¬ (a.kids.length = b.kids.length) := auq h7
      have z9 : ¬ ((a.kids.length : Int) = (b.kids.length : Int)) := auz
      rw [if_neg q8] at hF
      cases hF
      repeat (first | refine chk.ga ?_ | simp -dsimp [h1, q2, h3, h5, h7, q8, z9])
      all_goals (try omega)
     ·have q8 : (a.kids.length = b.kids.length) := auq h7
      have z9 : ((a.kids.length : Int) = (b.kids.length : Int)) := auz
      rw [if_pos q8] at hF
      repeat (first | refine chk.ga ?_ | simp -dsimp [h1, q2, h3, h5, h7, q8, z9])
      have hF := ob hF; obtain ⟨o', ho20, hF⟩ := hF
      refine ALoop.goU ⟨[(2, .ptr 0 0), (3, .ptr 1 0), (32, .lit (.int .i64 (b.kids.length : Int))), (33, .lit (.int .i64 (0 : Int)))], [.cells [.lit (.int .i64 a.ctor), .lit (.int .i64 a.n), .arr (List.map Vl.Value.c a.kids)], .cells [.lit (.int .i64 b.ctor), .lit (.int .i64 b.n), .arr (List.map Vl.Value.c b.kids)]]⟩ (Gh.to3 (by simp) (by first | simp -dsimp [h1, q2, h3, h5, h7, q8, z9]; done | simp_all)) ?_
      refine (ih_impl_more_l1 a b 0 o' ho20) _ rfl _ ?_
      rcases o' with r0 | sx
      ·dsimp only at hF
       cases hF
       intro st h
       simpa using h
      ·dsimp only at hF
       cases hF
       repeat (first | refine chk.ga ?_ | simp -dsimp)
       all_goals (try omega)
    ·have q6 : ¬ (a.n = b.n) := auq h5
     rw [if_neg q6] at hF
     cases hF
     repeat (first | refine chk.ga ?_ | simp -dsimp [h1, q2, h3, h5, q6])
     all_goals (try omega)
   ·have q4 : ¬ (a.ctor = b.ctor) := auq h3
    rw [if_neg q4] at hF
    cases hF
    repeat (first | refine chk.ga ?_ | simp -dsimp [h1, q2, h3, q4])
    all_goals (try omega)
 ·intro _f_impl_more _f_impl_more_l1 ih_impl_more ih_impl_more_l1 a b i o hF
  intro c hc Q hq
  obtain rfl : c = _ := navEq hc rfl
  refine ALoopU.know fun hk hs => ?_
  have d0 := hs 0 _ rfl
  simp -dsimp [Blk.bnd] at d0
  have d1 := hs 1 _ rfl
  simp -dsimp [Blk.bnd] at d1
  clear hk hs
  refine ALoopU.enter ?_
  repeat (first | refine chk.ga ?_ | simp -dsimp)
  refine abr.split (fun h10 => ?_) (fun h10 => ?_)
  ·have q11 : (i < b.kids.length) := auq h10
   have z12 : ((i : Int) < (b.kids.length : Int)) := auz
   rw [if_pos q11] at hF
   repeat (first | refine chk.ga ?_ | simp -dsimp [h10, z12])
   refine ADraw.simple follows (by kernel_rfl) (by kernel_rfl) ?_
   have hF := ob hF; obtain ⟨x, e13, hF⟩ := hF
   have le13 := lt_of_get e13
   have hF := ob hF; obtain ⟨x14, e15, hF⟩ := hF
   have le15 := lt_of_get e15
   repeat (first | refine chk.ga ?_ | simp -dsimp [h10, z12, ↓e13, ↓e15])
   have hF := ob hF; obtain ⟨v, e16, hF⟩ := hF
   refine ((ih_impl_more x x14 v e16)).pgoW (by first | simp [h10, z12, ↓e13, ↓e15]; done | simp_all) (by simp) ?_
   repeat (first | refine chk.ga ?_ | simp -dsimp [h10, z12, ↓e13, ↓e15])
   refine abr.split (fun h17 => ?_) (fun h17 => ?_)
   ·have q18 : ¬ (v = true) := auq h17
    rw [if_neg q18] at hF
    cases hF
    repeat (first | refine chk.ga ?_ | simp -dsimp [h10, z12, ↓e13, ↓e15, h17, q18])
    refine Leave.go _ (Gh.refl _) (hq _ ?_)
    repeat (first | refine chk.ga ?_ | simp -dsimp [h10, z12, ↓e13, ↓e15, h17, q18])
   ·have q18 : (v = true) := auq h17
    rw [if_pos q18] at hF
    have w19 : IntKind.i64.wrap ((i : Int) + 1) = (i : Int) + 1 := wrap_in (by omega) (by omega)
    repeat (first | refine chk.ga ?_ | simp -dsimp [h10, z12, ↓e13, ↓e15, h17, q18, w19])
    refine Again.go ⟨[(2, .ptr 0 0), (3, .ptr 1 0), (32, .lit (.int .i64 (b.kids.length : Int))), (33, .lit (.int .i64 ((i + 1) : Int)))], [.cells [.lit (.int .i64 a.ctor), .lit (.int .i64 a.n), .arr (List.map Vl.Value.c a.kids)], .cells [.lit (.int .i64 b.ctor), .lit (.int .i64 b.n), .arr (List.map Vl.Value.c b.kids)]]⟩ (Gh.to3 (by simp) (by first | simp -dsimp [h10, z12, ↓e13, ↓e15, h17, q18, w19]; done | simp_all)) ?_
    exact (ih_impl_more_l1 a b (i + 1) o hF) _ rfl _ hq
  ·have q11 : ¬ (i < b.kids.length) := auq h10
   have z12 : ¬ ((i : Int) < (b.kids.length : Int)) := auz
   rw [if_neg q11] at hF
   cases hF
   repeat (first | refine chk.ga ?_ | simp -dsimp [h10, q11, z12])
   refine Leave.go ⟨[], []⟩ (Gh.to3 (by simp) (by first | simp -dsimp [h10, q11, z12]; done | simp_all)) ?_
   exact hq

theorem C.impl_more (B : Nat) (hB1 : 67108864 ≤ B) (hB2 : B ≤ 9223372036854775807) (a : Vl.Value) (b : Vl.Value) (r : Bool) (hF : F.impl_more a b = some r) : PureCall Try.prog B 28 [.agg [.lit (.int .i64 a.ctor), .lit (.int .i64 a.n), .arr (List.map Vl.Value.c a.kids)], .agg [.lit (.int .i64 b.ctor), .lit (.int .i64 b.n), .arr (List.map Vl.Value.c b.kids)]] (.lit (.bool r)) :=
 (CC.impl_more B hB1 hB2 ).1 a b r hF

theorem C.impl_more_l1 (B : Nat) (hB1 : 67108864 ≤ B) (hB2 : B ≤ 9223372036854775807) (a : Vl.Value) (b : Vl.Value) (i : Nat) (o : Lo Bool Unit) (hF : F.impl_more_l1 a b i = some o) : ∀ (c : Code), navO [1, 1, 1, 0, 1, 0, 0] (bodyOf Try.f28) = some c → ∀ (Q : Exit → ASt → Prop), o.post (fun r => ∀ st, Post Try.prog Try.f28 (fun r' _ => r'.le (.lit (.bool r))) .ret st → Q .ret st) (fun s => Q (.exit 0) ⟨[], []⟩) → ALoopU Try.prog B 0 49 (hold c .mk) ⟨[(2, .ptr 0 0), (3, .ptr 1 0), (32, .lit (.int .i64 (b.kids.length : Int))), (33, .lit (.int .i64 (i : Int)))], [.cells [.lit (.int .i64 a.ctor), .lit (.int .i64 a.n), .arr (List.map Vl.Value.c a.kids)], .cells [.lit (.int .i64 b.ctor), .lit (.int .i64 b.n), .arr (List.map Vl.Value.c b.kids)]]⟩ (hold Q .mk) :=
 (CC.impl_more B hB1 hB2 ).2 a b i o hF

set_option maxRecDepth 100000 in
set_option maxHeartbeats 4000000 in
theorem C.impl_KnownMore (B : Nat) (hB1 : 67108864 ≤ B) (hB2 : B ≤ 9223372036854775807) (w : List Vl.Data) (t : Vl.Ty) (a : Vl.Value) (b : Vl.Value) (r : Bool) (hF : F.impl_KnownMore w t a b = some r) : PureCall Try.prog B 10 [.arr (List.map Vl.Data.c w), .agg [.lit (.int .i64 t.data), .lit (.int .i64 t.index)], .agg [.lit (.int .i64 a.ctor), .lit (.int .i64 a.n), .arr (List.map Vl.Value.c a.kids)], .agg [.lit (.int .i64 b.ctor), .lit (.int .i64 b.n), .arr (List.map Vl.Value.c b.kids)]] (.lit (.bool r)) := by
 unfold F.impl_KnownMore at hF
 refine PureCall.enterLe Try.func10 (by kernel_rfl) rfl Try.ntmps10 (by simp) (by simp) ?_
 repeat (first | refine chk.ga ?_ | simp -dsimp)
 have hF := ob hF; obtain ⟨v, e1, hF⟩ := hF
 refine ((C.impl_PartialValid B hB1 hB2 w t a v e1)).goW (by simp) (by simp) ?_
 repeat (first | refine chk.ga ?_ | simp -dsimp)
 refine abr.split (fun h2 => ?_) (fun h2 => ?_)
 ·have q3 : (v = true) := auq h2
  rw [if_pos q3] at hF
  repeat (first | refine chk.ga ?_ | simp -dsimp [h2])
  have hF := ob hF; obtain ⟨v4, e5, hF⟩ := hF
  refine ((C.impl_PartialValid B hB1 hB2 w t b v4 e5)).goW (by first | simp [h2]; done | simp_all) (by simp) ?_
  repeat (first | refine chk.ga ?_ | simp -dsimp [h2])
  refine abr.split (fun h6 => ?_) (fun h6 => ?_)
  ·have q7 : (v4 = true) := auq h6
   rw [if_pos q7] at hF
   repeat (first | refine chk.ga ?_ | simp -dsimp [h2, h6])
   have hF := ob hF; obtain ⟨v8, e9, hF⟩ := hF
   refine ((C.impl_more B hB1 hB2 a b v8 e9)).goW (by first | simp [h2, h6]; done | simp_all) (by simp) ?_
   cases hF
   repeat (first | refine chk.ga ?_ | simp -dsimp [h2, h6])
   all_goals (try omega)
  ·have q7 : ¬ (v4 = true) := auq h6
   rw [if_neg q7] at hF
   cases hF
   repeat (first | refine chk.ga ?_ | simp -dsimp [h2, h6, q7])
   all_goals (try omega)
 ·have q3 : ¬ (v = true) := auq h2
  rw [if_neg q3] at hF
  cases hF
  repeat (first | refine chk.ga ?_ | simp -dsimp [h2, q3])
  all_goals (try omega)

set_option maxRecDepth 100000 in
set_option maxHeartbeats 4000000 in
theorem C.laws_FnMaskValue (B : Nat) (hB1 : 67108864 ≤ B) (hB2 : B ≤ 9223372036854775807) (code : List Int) (r : Bool) (hF : F.laws_FnMaskValue code = some r) : PureCall Try.prog B 7 [.arr (List.map cU code)] (.lit (.bool r)) := by
 unfold F.laws_FnMaskValue at hF
 refine PureCall.enterLe Try.func7 (by kernel_rfl) rfl Try.ntmps7 (by simp) (by simp) ?_
 repeat (first | refine chk.ga ?_ | simp -dsimp)
 refine abr.split (fun h1 => ?_) (fun h1 => ?_)
 ·have q2 : (1048576 < code.length) := auq h1
  have z3 : ((1048576 : Int) < (code.length : Int)) := auz
  rw [if_pos q2] at hF
  cases hF
  repeat (first | refine chk.ga ?_ | simp -dsimp [h1, z3])
  all_goals (try omega)
 ·have q2 : ¬ (1048576 < code.length) := auq h1
  have z3 : ¬ ((1048576 : Int) < (code.length : Int)) := auz
  rw [if_neg q2] at hF
  repeat (first | refine chk.ga ?_ | simp -dsimp [h1, q2, z3])
  have hF := ob hF; obtain ⟨v, e4, hF⟩ := hF
  refine ((C.spec_DrawMaskValue B hB1 hB2 code v e4)).goW (by first | simp [h1, q2, z3]; done | simp_all) (by simp) ?_
  repeat (first | refine chk.ga ?_ | simp -dsimp [h1, q2, z3])
  have hF := ob hF; obtain ⟨v5, e6, hF⟩ := hF
  refine ((C.impl_MaskValue B hB1 hB2 v.1 v.2.1 v.2.2.1 v.2.2.2 v5 e6)).goW (by first | simp [h1, q2, z3]; done | simp_all) (by simp) ?_
  repeat (first | refine chk.ga ?_ | simp -dsimp [h1, q2, z3])
  have hF := ob hF; obtain ⟨v7, e8, hF⟩ := hF
  refine ((C.spec_MaskValue B hB1 hB2 v.1 v.2.1 v.2.2.1 v.2.2.2 v7 e8)).goW (by first | simp [h1, q2, z3]; done | simp_all) (by simp) ?_
  repeat (first | refine chk.ga ?_ | simp -dsimp [h1, q2, z3])
  refine abr.split (fun h9 => ?_) (fun h9 => ?_)
  ·have q10 : (v5.2 = v7.2) := auq h9
   rw [if_pos q10] at hF
   repeat (first | refine chk.ga ?_ | simp -dsimp [h1, q2, z3, h9])
   have hF := ob hF; obtain ⟨v11, e12, hF⟩ := hF
   refine ((C.impl_ValueSame B hB1 hB2 v5.1 v7.1 v11 e12)).goW (by first | simp [h1, q2, z3, h9]; done | simp_all) (by simp) ?_
   repeat (first | refine chk.ga ?_ | simp -dsimp [h1, q2, z3, h9])
   refine abr.split (fun h13 => ?_) (fun h13 => ?_)
   ·have q14 : (v11 = true) := auq h13
    rw [if_pos q14] at hF
    repeat (first | refine chk.ga ?_ | simp -dsimp [h1, q2, z3, h9, h13])
    refine abr.split (fun h15 => ?_) (fun h15 => ?_)
    ·have q16 : ¬ (v5.2 = true) := auq h15
     rw [if_neg q16] at hF
     repeat (first | refine chk.ga ?_ | simp -dsimp [h1, q2, z3, h9, h13, h15, q16])
     have hF := ob hF; obtain ⟨v17, e18, hF⟩ := hF
     refine ((C.impl_ValueSame B hB1 hB2 v5.1 v7.1 v17 e18)).goW (by first | simp [h1, q2, z3, h9, h13, h15, q16]; done | simp_all) (by simp) ?_
     cases hF
     repeat (first | refine chk.ga ?_ | simp -dsimp [h1, q2, z3, h9, h13, h15, q16])
     all_goals (try omega)
    ·have q16 : (v5.2 = true) := auq h15
     rw [if_pos q16] at hF
     repeat (first | refine chk.ga ?_ | simp -dsimp [h1, q2, z3, h9, h13, h15, q16])
     have hF := ob hF; obtain ⟨v19, e20, hF⟩ := hF
     refine ((C.impl_MaskValue B hB1 hB2 v.1 v.2.1 v5.1 v.2.2.2 v19 e20)).goW (by first | simp [h1, q2, z3, h9, h13, h15, q16]; done | simp_all) (by simp) ?_
     repeat (first | refine chk.ga ?_ | simp -dsimp [h1, q2, z3, h9, h13, h15, q16])
     have hF := ob hF; obtain ⟨v21, e22, hF⟩ := hF
     refine ((C.impl_PartialValid B hB1 hB2 v.1 v.2.1 v5.1 v21 e22)).goW (by first | simp [h1, q2, z3, h9, h13, h15, q16]; done | simp_all) (by simp) ?_
     repeat (first | refine chk.ga ?_ | simp -dsimp [h1, q2, z3, h9, h13, h15, q16])
     refine abr.split (fun h23 => ?_) (fun h23 => ?_)
     ·have q24 : (v21 = true) := auq h23
      rw [if_pos q24] at hF
      repeat (first | refine chk.ga ?_ | simp -dsimp [h1, q2, z3, h9, h13, h15, q16, h23])
      have hF := ob hF; obtain ⟨v25, e26, hF⟩ := hF
      refine ((C.impl_KnownMore B hB1 hB2 v.1 v.2.1 v.2.2.1 v5.1 v25 e26)).goW (by first | simp [h1, q2, z3, h9, h13, h15, q16, h23]; done | simp_all) (by simp) ?_
      repeat (first | refine chk.ga ?_ | simp -dsimp [h1, q2, z3, h9, h13, h15, q16, h23])
      refine abr.split (fun h27 => ?_) (fun h27 => ?_)
      ·have q28 : (v25 = true) := auq h27
       rw [if_pos q28] at hF
       repeat (first | refine chk.ga ?_ | simp -dsimp [h1, q2, z3, h9, h13, h15, q16, h23, h27])
       refine abr.split (fun h29 => ?_) (fun h29 => ?_)
       ·have q30 : (v19.2 = true) := auq h29
        rw [if_pos q30] at hF
        repeat (first | refine chk.ga ?_ | simp -dsimp [h1, q2, z3, h9, h13, h15, q16, h23, h27, h29])
        have hF := ob hF; obtain ⟨v31, e32, hF⟩ := hF
        refine ((C.impl_ValueSame B hB1 hB2 v19.1 v5.1 v31 e32)).goW (by first | simp [h1, q2, z3, h9, h13, h15, q16, h23, h27, h29]; done | simp_all) (by simp) ?_
        cases hF
        repeat (first | refine chk.ga ?_ | simp -dsimp [h1, q2, z3, h9, h13, h15, q16, h23, h27, h29])
        all_goals (try omega)
       ·have q30 : ¬ (v19.2 = true) := auq h29
        rw [if_neg q30] at hF
        cases hF
        repeat (first | refine chk.ga ?_ | simp -dsimp [h1, q2, z3, h9, h13, h15, q16, h23, h27, h29, q30])
        all_goals (try omega)
      ·have q28 : ¬ (v25 = true) := auq h27
       rw [if_neg q28] at hF
       cases hF
       repeat (first | refine chk.ga ?_ | simp -dsimp [h1, q2, z3, h9, h13, h15, q16, h23, h27, q28])
       all_goals (try omega)
     ·have q24 : ¬ (v21 = true) := auq h23
      rw [if_neg q24] at hF
      cases hF
      repeat (first | refine chk.ga ?_ | simp -dsimp [h1, q2, z3, h9, h13, h15, q16, h23, q24])
      all_goals (try omega)
   ·have q14 : ¬ (v11 = true) := auq h13
    rw [if_neg q14] at hF
    repeat (first | refine chk.ga ?_ | simp -dsimp [h1, q2, z3, h9, h13, q14])
    have hF := ob hF; obtain ⟨v33, e34, hF⟩ := hF
    refine ((C.impl_ValueSame B hB1 hB2 v5.1 v7.1 v33 e34)).goW (by first | simp [h1, q2, z3, h9, h13, q14]; done | simp_all) (by simp) ?_
    cases hF
    repeat (first | refine chk.ga ?_ | simp -dsimp [h1, q2, z3, h9, h13, q14])
    all_goals (try omega)
  ·have q10 : ¬ (v5.2 = v7.2) := auq h9
   rw [if_neg q10] at hF
   cases hF
   repeat (first | refine chk.ga ?_ | simp -dsimp [h1, q2, z3, h9, q10])
   all_goals (try omega)

end Go.Proofs.Ytipcmoamhapecaa
