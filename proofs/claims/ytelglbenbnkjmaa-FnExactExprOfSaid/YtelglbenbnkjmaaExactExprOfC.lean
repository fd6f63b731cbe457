/- The contracts: the code computes the functions (printed by gen.py). -/
import Derived.Test.YtelglbenbnkjmaaProg
import Derived.Test.YtelglbenbnkjmaaExactExprOfF
import Derived.Test.YtelglbenbnkjmaaExactExprOfC1
namespace Go.Proofs.Ytelglbenbnkjmaa
open Go Go.Proofs Go.Vl
set_option linter.unusedSimpArgs false
set_option linter.unusedVariables false

attribute [local irreducible] ECallA NCallA aL aLg AMake MLoop AgainM LeaveM awpM aopsM MutCall BCall chk abr ACall ALoop ALoopU ADraw Again Leave PCallA PCall Post awp aops PureCall hold
set_option maxRecDepth 100000 in
set_option maxHeartbeats 4000000 in
theorem C.impl_WorldValid (B : Nat) (hB1 : 67108864 ≤ B) (hB2 : B ≤ 9223372036854775807) (w : List Vl.Data) (r : Bool) (hF : F.impl_WorldValid w = some r) : PureCall Try.prog B 119 [.arr (List.map Vl.Data.c w)] (.lit (.bool r)) := by
 unfold F.impl_WorldValid at hF
 refine PureCall.enterM Try.func119 (by kernel_rfl) rfl Try.ntmps119 (by simp) ?_
 repeat (first | refine chk.ga ?_ | simp -dsimp)
 refine abr.split (fun h1 => ?_) (fun h1 => ?_)
 ·have q2 : (4 < w.length) := auq h1
  have z3 : ((4 : Int) < (w.length : Int)) := auz
  rw [if_pos q2] at hF
  cases hF
  repeat (first | refine chk.ga ?_ | simp -dsimp [h1, z3])
  all_goals (try omega)
 ·have q2 : ¬ (4 < w.length) := auq h1
  have z3 : ¬ ((4 : Int) < (w.length : Int)) := auz
  rw [if_neg q2] at hF
  repeat (first | refine chk.ga ?_ | simp -dsimp [h1, q2, z3])
  refine AMake.go fun b1 hb1 => ?_
  repeat (first | refine chk.ga ?_ | simp -dsimp [h1, q2, z3])
  refine AMake.go fun b2 hb2 => ?_
  simp at hb2
  repeat (first | refine chk.ga ?_ | simp -dsimp [h1, q2, z3, hb2])
  have hF := ob hF; obtain ⟨o'44, ho43, hF⟩ := hF
  refine MLoop.goU ⟨[(0, .arr (List.map Vl.Data.c w)), (3, .lit (.map (some b1))), (4, .lit (.map (some b2))), (14, .arr (List.map Vl.Data.c w)), (15, .lit (.int .i64 (w.length : Int))), (16, .lit (.int .i64 (0 : Int)))], []⟩ (Gh.to3 (by simp) (by first | simp -dsimp [h1, q2, z3, hb2]; done | simp_all)) ?_
  refine (C.impl_WorldValid_l1 B hB1 hB2 w [] [] 0 o'44 ho43) b1 b2 hb2 _ rfl _ ?_
  rcases o'44 with r046 | sx45
  ·dsimp only at hF
   cases hF
   intro st h ms
   simpa using h
  ·dsimp only at hF
   cases hF
   repeat (first | refine chk.ga ?_ | simp -dsimp)
   all_goals (try omega)

set_option maxRecDepth 100000 in
set_option maxHeartbeats 4000000 in
theorem C.impl_typeOk (B : Nat) (hB1 : 67108864 ≤ B) (hB2 : B ≤ 9223372036854775807) (w : List Vl.Data) (t : Vl.Ty) (r : Bool) (hF : F.impl_typeOk w t = some r) : PureCall Try.prog B 89 [.arr (List.map Vl.Data.c w), .agg [.lit (.int .i64 t.data), .lit (.int .i64 t.index)]] (.lit (.bool r)) := by
 unfold F.impl_typeOk at hF
 refine PureCall.enterLe Try.func89 (by kernel_rfl) rfl Try.ntmps89 (by simp) (by simp) ?_
 repeat (first | refine chk.ga ?_ | simp -dsimp)
 refine abr.split (fun h1 => ?_) (fun h1 => ?_)
 ·have q2 : ¬ (dec (eq2 (t.data, t.index) ((-1), 0)) = true) := auq h1
  rw [if_neg q2] at hF
  repeat (first | refine chk.ga ?_ | simp -dsimp [h1, q2])
  have hF := ob hF; obtain ⟨v, e3, hF⟩ := hF
  refine ((C.impl_within B hB1 hB2 t.data (0 : Int) (IntKind.i64.wrap ((w.length : Int) - 1)) v e3)).goW (by first | simp [h1, q2]; done | simp_all) (by simp) ?_
  repeat (first | refine chk.ga ?_ | simp -dsimp [h1, q2])
  refine abr.split (fun h4 => ?_) (fun h4 => ?_)
  ·have q5 : (v = true) := auq h4
   rw [if_pos q5] at hF
   repeat (first | refine chk.ga ?_ | simp -dsimp [h1, q2, h4])
   have hF := ob hF; obtain ⟨v6, e7, hF⟩ := hF
   refine ((C.impl_within B hB1 hB2 t.index (0 : Int) (3 : Int) v6 e7)).goW (by first | simp [h1, q2, h4]; done | simp_all) (by simp) ?_
   cases hF
   repeat (first | refine chk.ga ?_ | simp -dsimp [h1, q2, h4])
   all_goals (try omega)
  ·have q5 : ¬ (v = true) := auq h4
   rw [if_neg q5] at hF
   cases hF
   repeat (first | refine chk.ga ?_ | simp -dsimp [h1, q2, h4, q5])
   all_goals (try omega)
 ·have q2 : (dec (eq2 (t.data, t.index) ((-1), 0)) = true) := auq h1
  rw [if_pos q2] at hF
  cases hF
  repeat (first | refine chk.ga ?_ | simp -dsimp [h1, q2])
  all_goals (try omega)

set_option maxRecDepth 100000 in
set_option maxHeartbeats 4000000 in
theorem C.impl_TypeValid (B : Nat) (hB1 : 67108864 ≤ B) (hB2 : B ≤ 9223372036854775807) (w : List Vl.Data) (t : Vl.Ty) (r : Bool) (hF : F.impl_TypeValid w t = some r) : PureCall Try.prog B 60 [.arr (List.map Vl.Data.c w), .agg [.lit (.int .i64 t.data), .lit (.int .i64 t.index)]] (.lit (.bool r)) := by
 unfold F.impl_TypeValid at hF
 refine PureCall.enterLe Try.func60 (by kernel_rfl) rfl Try.ntmps60 (by simp) (by simp) ?_
 repeat (first | refine chk.ga ?_ | simp -dsimp)
 have hF := ob hF; obtain ⟨v, e1, hF⟩ := hF
 refine ((C.impl_WorldValid B hB1 hB2 w v e1)).goW (by simp) (by simp) ?_
 repeat (first | refine chk.ga ?_ | simp -dsimp)
 refine abr.split (fun h2 => ?_) (fun h2 => ?_)
 ·have q3 : (v = true) := auq h2
  rw [if_pos q3] at hF
  repeat (first | refine chk.ga ?_ | simp -dsimp [h2])
  have hF := ob hF; obtain ⟨v4, e5, hF⟩ := hF
  refine ((C.impl_typeOk B hB1 hB2 w t v4 e5)).goW (by first | simp [h2]; done | simp_all) (by simp) ?_
  cases hF
  repeat (first | refine chk.ga ?_ | simp -dsimp [h2])
  all_goals (try omega)
 ·have q3 : ¬ (v = true) := auq h2
  rw [if_neg q3] at hF
  cases hF
  repeat (first | refine chk.ga ?_ | simp -dsimp [h2, q3])
  all_goals (try omega)

set_option maxRecDepth 100000 in
set_option maxHeartbeats 4000000 in
theorem CC.impl_ctorsOf_l1 (B : Nat) (hB1 : 67108864 ≤ B) (hB2 : B ≤ 9223372036854775807) (t : Vl.Ty) (x : Vl.Data) : (∀ (i : Nat) (out : List Int) (o : List Int), F.impl_ctorsOf_l1 t x i out = some o → ∀ (c : Code), navO [1, 1, 0, 1, 0, 1, 0, 0] (bodyOf Try.f173) = some c → ∀ (Q : Exit → ASt → Prop), (Q (.exit 0) ⟨[(5, .own 1 (List.length (α := Int) o))], [.dead, .elems 1 (List.map cI o)]⟩) → ALoopU Try.prog B 0 44 (hold c .mk) ⟨[(3, .ptr 0 0), (5, .own 1 (List.length (α := Int) out)), (16, .arr (List.map Vl.Ctor.c x.ctors)), (17, .lit (.int .i64 (x.ctors.length : Int))), (18, .lit (.int .i64 (i : Int)))], [.cells [.lit (.int .i64 t.data), .lit (.int .i64 t.index)], .elems 1 (List.map cI out)]⟩ (hold Q .mk)) := by
 refine F.impl_ctorsOf_l1.partial_correctness t x
  (fun i out o => ∀ (c : Code), navO [1, 1, 0, 1, 0, 1, 0, 0] (bodyOf Try.f173) = some c → ∀ (Q : Exit → ASt → Prop), (Q (.exit 0) ⟨[(5, .own 1 (List.length (α := Int) o))], [.dead, .elems 1 (List.map cI o)]⟩) → ALoopU Try.prog B 0 44 (hold c .mk) ⟨[(3, .ptr 0 0), (5, .own 1 (List.length (α := Int) out)), (16, .arr (List.map Vl.Ctor.c x.ctors)), (17, .lit (.int .i64 (x.ctors.length : Int))), (18, .lit (.int .i64 (i : Int)))], [.cells [.lit (.int .i64 t.data), .lit (.int .i64 t.index)], .elems 1 (List.map cI out)]⟩ (hold Q .mk))
  ?_
 ·intro _f_impl_ctorsOf_l1 ih_impl_ctorsOf_l1 i out o hF
  intro c hc Q hq
  obtain rfl : c = _ := navEq hc rfl
  refine ALoopU.know fun hk hs => ?_
  have b16 := hk 16
  simp -dsimp at b16
  have d1 := hs 1 _ rfl
  simp -dsimp [Blk.bnd] at d1
  clear hk hs
  refine ALoopU.enter ?_
  repeat (first | refine chk.ga ?_ | simp -dsimp)
  refine abr.split (fun h4 => ?_) (fun h4 => ?_)
  ·have q5 : (i < x.ctors.length) := auq h4
   have z6 : ((i : Int) < (x.ctors.length : Int)) := auz
   rw [if_pos q5] at hF
   have hF := ob hF; obtain ⟨x7, e8, hF⟩ := hF
   have le8 := lt_of_get e8
   repeat (first | refine chk.ga ?_ | simp -dsimp [h4, z6, ↓e8])
   refine abr.split (fun h9 => ?_) (fun h9 => ?_)
   ·have q10 : ¬ (t.index = 0) := auq h9
    rw [if_neg q10] at hF
    repeat (first | refine chk.ga ?_ | simp -dsimp [h4, z6, ↓e8, h9, q10])
    refine abr.split (fun h11 => ?_) (fun h11 => ?_)
    ·have q12 : ¬ (x7.index = 0) := auq h11
     rw [if_neg q12] at hF
     repeat (first | refine chk.ga ?_ | simp -dsimp [h4, z6, ↓e8, h9, q10, h11, q12])
     refine abr.split (fun h13 => ?_) (fun h13 => ?_)
     ·have q14 : (x7.index = t.index) := auq h13
      rw [if_pos q14] at hF
      have hF := oc hF; obtain ⟨c15, hF⟩ := hF
      have w16 : IntKind.i64.wrap ((i : Int) + 1) = (i : Int) + 1 := wrap_in (by omega) (by omega)
      repeat (first | refine chk.ga ?_ | simp -dsimp [h4, z6, ↓e8, h9, q10, h11, q12, h13, w16])
      refine Again.go ⟨[(3, .ptr 0 0), (5, .own 1 (List.length (α := Int) (out ++ [(i : Int)]))), (16, .arr (List.map Vl.Ctor.c x.ctors)), (17, .lit (.int .i64 (x.ctors.length : Int))), (18, .lit (.int .i64 ((i + 1) : Int)))], [.cells [.lit (.int .i64 t.data), .lit (.int .i64 t.index)], .elems 1 (List.map cI (out ++ [(i : Int)]))]⟩ (Gh.to3 (by simp) (by first | simp -dsimp [h4, z6, ↓e8, h9, q10, h11, q12, h13, w16]; done | simp_all)) ?_
      exact (ih_impl_ctorsOf_l1 (i + 1) (out ++ [(i : Int)]) o hF) _ rfl _ hq
     ·have q14 : ¬ (x7.index = t.index) := auq h13
      rw [if_neg q14] at hF
      have w17 : IntKind.i64.wrap ((i : Int) + 1) = (i : Int) + 1 := wrap_in (by omega) (by omega)
      repeat (first | refine chk.ga ?_ | simp -dsimp [h4, z6, ↓e8, h9, q10, h11, q12, h13, q14, w17])
      refine Again.go ⟨[(3, .ptr 0 0), (5, .own 1 (List.length (α := Int) out)), (16, .arr (List.map Vl.Ctor.c x.ctors)), (17, .lit (.int .i64 (x.ctors.length : Int))), (18, .lit (.int .i64 ((i + 1) : Int)))], [.cells [.lit (.int .i64 t.data), .lit (.int .i64 t.index)], .elems 1 (List.map cI out)]⟩ (Gh.to3 (by simp) (by first | simp -dsimp [h4, z6, ↓e8, h9, q10, h11, q12, h13, q14, w17]; done | simp_all)) ?_
      exact (ih_impl_ctorsOf_l1 (i + 1) out o hF) _ rfl _ hq
    ·have q12 : (x7.index = 0) := auq h11
     rw [if_pos q12] at hF
     have hF := oc hF; obtain ⟨c18, hF⟩ := hF
     have w19 : IntKind.i64.wrap ((i : Int) + 1) = (i : Int) + 1 := wrap_in (by omega) (by omega)
     repeat (first | refine chk.ga ?_ | simp -dsimp [h4, z6, ↓e8, h9, q10, h11, q12, w19])
     refine Again.go ⟨[(3, .ptr 0 0), (5, .own 1 (List.length (α := Int) (out ++ [(i : Int)]))), (16, .arr (List.map Vl.Ctor.c x.ctors)), (17, .lit (.int .i64 (x.ctors.length : Int))), (18, .lit (.int .i64 ((i + 1) : Int)))], [.cells [.lit (.int .i64 t.data), .lit (.int .i64 t.index)], .elems 1 (List.map cI (out ++ [(i : Int)]))]⟩ (Gh.to3 (by simp) (by first | simp -dsimp [h4, z6, ↓e8, h9, q10, h11, q12, w19]; done | simp_all)) ?_
     exact (ih_impl_ctorsOf_l1 (i + 1) (out ++ [(i : Int)]) o hF) _ rfl _ hq
   ·have q10 : (t.index = 0) := auq h9
    rw [if_pos q10] at hF
    have hF := oc hF; obtain ⟨c20, hF⟩ := hF
    have w21 : IntKind.i64.wrap ((i : Int) + 1) = (i : Int) + 1 := wrap_in (by omega) (by omega)
    repeat (first | refine chk.ga ?_ | simp -dsimp [h4, z6, ↓e8, h9, q10, w21])
    refine Again.go ⟨[(3, .ptr 0 0), (5, .own 1 (List.length (α := Int) (out ++ [(i : Int)]))), (16, .arr (List.map Vl.Ctor.c x.ctors)), (17, .lit (.int .i64 (x.ctors.length : Int))), (18, .lit (.int .i64 ((i + 1) : Int)))], [.cells [.lit (.int .i64 t.data), .lit (.int .i64 t.index)], .elems 1 (List.map cI (out ++ [(i : Int)]))]⟩ (Gh.to3 (by simp) (by first | simp -dsimp [h4, z6, ↓e8, h9, q10, w21]; done | simp_all)) ?_
    exact (ih_impl_ctorsOf_l1 (i + 1) (out ++ [(i : Int)]) o hF) _ rfl _ hq
  ·have q5 : ¬ (i < x.ctors.length) := auq h4
   have z6 : ¬ ((i : Int) < (x.ctors.length : Int)) := auz
   rw [if_neg q5] at hF
   cases hF
   repeat (first | refine chk.ga ?_ | simp -dsimp [h4, q5, z6])
   refine Leave.go ⟨[(5, .own 1 (List.length (α := Int) out))], [.dead, .elems 1 (List.map cI out)]⟩ (Gh.to3 (by simp) (by first | simp -dsimp [h4, q5, z6]; done | simp_all)) ?_
   exact hq

theorem C.impl_ctorsOf_l1 (B : Nat) (hB1 : 67108864 ≤ B) (hB2 : B ≤ 9223372036854775807) (t : Vl.Ty) (x : Vl.Data) (i : Nat) (out : List Int) (o : List Int) (hF : F.impl_ctorsOf_l1 t x i out = some o) : ∀ (c : Code), navO [1, 1, 0, 1, 0, 1, 0, 0] (bodyOf Try.f173) = some c → ∀ (Q : Exit → ASt → Prop), (Q (.exit 0) ⟨[(5, .own 1 (List.length (α := Int) o))], [.dead, .elems 1 (List.map cI o)]⟩) → ALoopU Try.prog B 0 44 (hold c .mk) ⟨[(3, .ptr 0 0), (5, .own 1 (List.length (α := Int) out)), (16, .arr (List.map Vl.Ctor.c x.ctors)), (17, .lit (.int .i64 (x.ctors.length : Int))), (18, .lit (.int .i64 (i : Int)))], [.cells [.lit (.int .i64 t.data), .lit (.int .i64 t.index)], .elems 1 (List.map cI out)]⟩ (hold Q .mk) :=
 (CC.impl_ctorsOf_l1 B hB1 hB2 t x) i out o hF

set_option maxRecDepth 100000 in
set_option maxHeartbeats 4000000 in
theorem C.impl_ctorsOf (B : Nat) (hB1 : 67108864 ≤ B) (hB2 : B ≤ 9223372036854775807) (w : List Vl.Data) (t : Vl.Ty) (r : List Int) (hF : F.impl_ctorsOf w t = some r) : PureCall Try.prog B 173 [.arr (List.map Vl.Data.c w), .agg [.lit (.int .i64 t.data), .lit (.int .i64 t.index)]] (.arr (List.map cI r)) := by
 unfold F.impl_ctorsOf at hF
 refine PureCall.enterLe Try.func173 (by kernel_rfl) rfl Try.ntmps173 (by simp) (by simp) ?_
 repeat (first | refine chk.ga ?_ | simp -dsimp)
 refine abr.split (fun h1 => ?_) (fun h1 => ?_)
 ·have q2 : ¬ (t.data = (-1)) := auq h1
  rw [if_neg q2] at hF
  have hF := ob hF; obtain ⟨x, e3a, hF⟩ := hF
  have e3a := at_some e3a; obtain ⟨ne3, e3⟩ := e3a
  have le3 := lt_of_get e3
  repeat (first | refine chk.ga ?_ | simp -dsimp [h1, q2, ↓e3])
  have hF := ob hF; obtain ⟨o', ho22, hF⟩ := hF
  refine ALoop.goU ⟨[(3, .ptr 0 0), (5, .own 1 (List.length (α := Int) [])), (16, .arr (List.map Vl.Ctor.c x.ctors)), (17, .lit (.int .i64 (x.ctors.length : Int))), (18, .lit (.int .i64 (0 : Int)))], [.cells [.lit (.int .i64 t.data), .lit (.int .i64 t.index)], .elems 1 (List.map cI [])]⟩ (by refine Gh.trans (Gh.nil 5 1 (by simp -dsimp)) ?_; exact (Gh.to3 (by simp) (by first | simp -dsimp [h1, q2, ↓e3]; done | simp_all))) ?_
  refine (C.impl_ctorsOf_l1 B hB1 hB2 t x 0 [] o' ho22) _ rfl _ ?_
  cases hF
  repeat (first | refine chk.ga ?_ | simp -dsimp)
  all_goals (try omega)
 ·have q2 : (t.data = (-1)) := auq h1
  rw [if_pos q2] at hF
  cases hF
  repeat (first | refine chk.ga ?_ | simp -dsimp [h1, q2])
  all_goals (try omega)

set_option maxRecDepth 100000 in
set_option maxHeartbeats 4000000 in
theorem CC.slices_Index_int_l1 (B : Nat) (hB1 : 67108864 ≤ B) (hB2 : B ≤ 9223372036854775807) (s : List Int) (v : Int) : (∀ (i : Nat) (o : Lo Int Unit), F.slices_Index_int_l1 s v i = some o → ∀ (c : Code), navO [1, 0, 1, 0, 0] (bodyOf Try.f215) = some c → ∀ (Q : Exit → ASt → Prop), o.post (fun r => ∀ st, Post Try.prog Try.f215 (fun r' _ => r'.le (.lit (.int .i64 r))) .ret st → Q .ret st) (fun s => Q (.exit 0) ⟨[], []⟩) → ALoopU Try.prog B 0 19 (hold c .mk) ⟨[(0, .arr (List.map cI s)), (1, .lit (.int .i64 v)), (7, .lit (.int .i64 (s.length : Int))), (8, .lit (.int .i64 (i : Int)))], []⟩ (hold Q .mk)) := by
 refine F.slices_Index_int_l1.partial_correctness s v
  (fun i o => ∀ (c : Code), navO [1, 0, 1, 0, 0] (bodyOf Try.f215) = some c → ∀ (Q : Exit → ASt → Prop), o.post (fun r => ∀ st, Post Try.prog Try.f215 (fun r' _ => r'.le (.lit (.int .i64 r))) .ret st → Q .ret st) (fun s => Q (.exit 0) ⟨[], []⟩) → ALoopU Try.prog B 0 19 (hold c .mk) ⟨[(0, .arr (List.map cI s)), (1, .lit (.int .i64 v)), (7, .lit (.int .i64 (s.length : Int))), (8, .lit (.int .i64 (i : Int)))], []⟩ (hold Q .mk))
  ?_
 ·intro _f_slices_Index_int_l1 ih_slices_Index_int_l1 i o hF
  intro c hc Q hq
  obtain rfl : c = _ := navEq hc rfl
  refine ALoopU.know fun hk hs => ?_
  have b0 := hk 0
  simp -dsimp at b0
  clear hk hs
  refine ALoopU.enter ?_
  repeat (first | refine chk.ga ?_ | simp -dsimp)
  refine abr.split (fun h1 => ?_) (fun h1 => ?_)
  ·have q2 : (i < s.length) := auq h1
   have z3 : ((i : Int) < (s.length : Int)) := auz
   rw [if_pos q2] at hF
   have hF := ob hF; obtain ⟨x, e4, hF⟩ := hF
   have le4 := lt_of_get e4
   repeat (first | refine chk.ga ?_ | simp -dsimp [h1, z3, ↓e4])
   refine abr.split (fun h5 => ?_) (fun h5 => ?_)
   ·have q6 : (v = x) := auq h5
    rw [if_pos q6] at hF
    cases hF
    repeat (first | refine chk.ga ?_ | simp -dsimp [h1, z3, ↓e4, h5])
    refine Leave.go _ (Gh.refl _) (hq _ ?_)
    repeat (first | refine chk.ga ?_ | simp -dsimp [h1, z3, ↓e4, h5])
   ·have q6 : ¬ (v = x) := auq h5
    rw [if_neg q6] at hF
    have w7 : IntKind.i64.wrap ((i : Int) + 1) = (i : Int) + 1 := wrap_in (by omega) (by omega)
    repeat (first | refine chk.ga ?_ | simp -dsimp [h1, z3, ↓e4, h5, q6, w7])
    refine Again.go ⟨[(0, .arr (List.map cI s)), (1, .lit (.int .i64 v)), (7, .lit (.int .i64 (s.length : Int))), (8, .lit (.int .i64 ((i + 1) : Int)))], []⟩ (Gh.to3 (by simp) (by first | simp -dsimp [h1, z3, ↓e4, h5, q6, w7]; done | simp_all)) ?_
    exact (ih_slices_Index_int_l1 (i + 1) o hF) _ rfl _ hq
  ·have q2 : ¬ (i < s.length) := auq h1
   have z3 : ¬ ((i : Int) < (s.length : Int)) := auz
   rw [if_neg q2] at hF
   cases hF
   repeat (first | refine chk.ga ?_ | simp -dsimp [h1, q2, z3])
   refine Leave.go ⟨[], []⟩ (Gh.to3 (by simp) (by first | simp -dsimp [h1, q2, z3]; done | simp_all)) ?_
   exact hq

theorem C.slices_Index_int_l1 (B : Nat) (hB1 : 67108864 ≤ B) (hB2 : B ≤ 9223372036854775807) (s : List Int) (v : Int) (i : Nat) (o : Lo Int Unit) (hF : F.slices_Index_int_l1 s v i = some o) : ∀ (c : Code), navO [1, 0, 1, 0, 0] (bodyOf Try.f215) = some c → ∀ (Q : Exit → ASt → Prop), o.post (fun r => ∀ st, Post Try.prog Try.f215 (fun r' _ => r'.le (.lit (.int .i64 r))) .ret st → Q .ret st) (fun s => Q (.exit 0) ⟨[], []⟩) → ALoopU Try.prog B 0 19 (hold c .mk) ⟨[(0, .arr (List.map cI s)), (1, .lit (.int .i64 v)), (7, .lit (.int .i64 (s.length : Int))), (8, .lit (.int .i64 (i : Int)))], []⟩ (hold Q .mk) :=
 (CC.slices_Index_int_l1 B hB1 hB2 s v) i o hF

set_option maxRecDepth 100000 in
set_option maxHeartbeats 4000000 in
theorem C.slices_Index_int (B : Nat) (hB1 : 67108864 ≤ B) (hB2 : B ≤ 9223372036854775807) (s : List Int) (v : Int) (r : Int) (hF : F.slices_Index_int s v = some r) : PureCall Try.prog B 215 [.arr (List.map cI s), .lit (.int .i64 v)] (.lit (.int .i64 r)) := by
 unfold F.slices_Index_int at hF
 refine PureCall.enterLe Try.func215 (by kernel_rfl) rfl Try.ntmps215 (by simp) (by simp) ?_
 repeat (first | refine chk.ga ?_ | simp -dsimp)
 have hF := ob hF; obtain ⟨o', ho8, hF⟩ := hF
 refine ALoop.goU ⟨[(0, .arr (List.map cI s)), (1, .lit (.int .i64 v)), (7, .lit (.int .i64 (s.length : Int))), (8, .lit (.int .i64 (0 : Int)))], []⟩ (Gh.to3 (by simp) (by simp -dsimp)) ?_
 refine (C.slices_Index_int_l1 B hB1 hB2 s v 0 o' ho8) _ rfl _ ?_
 rcases o' with r0 | sx
 ·dsimp only at hF
  cases hF
  intro st h
  simpa using h
 ·dsimp only at hF
  cases hF
  repeat (first | refine chk.ga ?_ | simp -dsimp)
  all_goals (try omega)

set_option maxRecDepth 100000 in
set_option maxHeartbeats 4000000 in
theorem C.slices_Contains_int (B : Nat) (hB1 : 67108864 ≤ B) (hB2 : B ≤ 9223372036854775807) (s : List Int) (v : Int) (r : Bool) (hF : F.slices_Contains_int s v = some r) : PureCall Try.prog B 187 [.arr (List.map cI s), .lit (.int .i64 v)] (.lit (.bool r)) := by
 unfold F.slices_Contains_int at hF
 refine PureCall.enterLe Try.func187 (by kernel_rfl) rfl Try.ntmps187 (by simp) (by simp) ?_
 repeat (first | refine chk.ga ?_ | simp -dsimp)
 have hF := ob hF; obtain ⟨v1, e2, hF⟩ := hF
 refine ((C.slices_Index_int B hB1 hB2 s v v1 e2)).goW (by simp) (by simp) ?_
 cases hF
 repeat (first | refine chk.ga ?_ | simp -dsimp)
 all_goals (try omega)

set_option maxRecDepth 100000 in
set_option maxHeartbeats 4000000 in
theorem CC.impl_argTypes_l1 (B : Nat) (hB1 : 67108864 ≤ B) (hB2 : B ≤ 9223372036854775807) (t : Vl.Ty) (x2 : Vl.Ctor) : (∀ (i : Nat) (out : List Vl.Ty) (o : List Vl.Ty), F.impl_argTypes_l1 t x2 i out = some o → ∀ (c : Code), navO [1, 1, 1, 1, 1, 0, 1, 0, 0] (bodyOf Try.f188) = some c → ∀ (Q : Exit → ASt → Prop), (Q (.exit 0) ⟨[(9, .own 2 (List.length (α := Vl.Ty) o))], [.dead, .dead, .elems 2 (List.map Vl.Ty.c o)]⟩) → ALoopU Try.prog B 0 45 (hold c .mk) ⟨[(8, .lit (.int .i64 t.index)), (9, .own 2 (List.length (α := Vl.Ty) out)), (28, .arr (List.map Vl.Ty.c x2.args)), (29, .lit (.int .i64 (x2.args.length : Int))), (30, .lit (.int .i64 (i : Int)))], [.dead, .dead, .elems 2 (List.map Vl.Ty.c out)]⟩ (hold Q .mk)) := by
 refine F.impl_argTypes_l1.partial_correctness t x2
  (fun i out o => ∀ (c : Code), navO [1, 1, 1, 1, 1, 0, 1, 0, 0] (bodyOf Try.f188) = some c → ∀ (Q : Exit → ASt → Prop), (Q (.exit 0) ⟨[(9, .own 2 (List.length (α := Vl.Ty) o))], [.dead, .dead, .elems 2 (List.map Vl.Ty.c o)]⟩) → ALoopU Try.prog B 0 45 (hold c .mk) ⟨[(8, .lit (.int .i64 t.index)), (9, .own 2 (List.length (α := Vl.Ty) out)), (28, .arr (List.map Vl.Ty.c x2.args)), (29, .lit (.int .i64 (x2.args.length : Int))), (30, .lit (.int .i64 (i : Int)))], [.dead, .dead, .elems 2 (List.map Vl.Ty.c out)]⟩ (hold Q .mk))
  ?_
 ·intro _f_impl_argTypes_l1 ih_impl_argTypes_l1 i out o hF
  intro c hc Q hq
  obtain rfl : c = _ := navEq hc rfl
  refine ALoopU.know fun hk hs => ?_
  have b28 := hk 28
  simp -dsimp at b28
  have d2 := hs 2 _ rfl
  simp -dsimp [Blk.bnd] at d2
  clear hk hs
  refine ALoopU.enter ?_
  repeat (first | refine chk.ga ?_ | simp -dsimp)
  refine abr.split (fun h6 => ?_) (fun h6 => ?_)
  ·have q7 : (i < x2.args.length) := auq h6
   have z8 : ((i : Int) < (x2.args.length : Int)) := auz
   rw [if_pos q7] at hF
   have hF := ob hF; obtain ⟨x9, e10, hF⟩ := hF
   have le10 := lt_of_get e10
   repeat (first | refine chk.ga ?_ | simp -dsimp [h6, z8, ↓e10])
   refine abr.split (fun h11 => ?_) (fun h11 => ?_)
   ·have q12 : (x9.index = (-1)) := auq h11
    rw [if_pos q12] at hF
    have hF := oc hF; obtain ⟨c13, hF⟩ := hF
    have w14 : IntKind.i64.wrap ((i : Int) + 1) = (i : Int) + 1 := wrap_in (by omega) (by omega)
    repeat (first | refine chk.ga ?_ | simp -dsimp [h6, z8, ↓e10, h11, w14])
    refine Again.go ⟨[(8, .lit (.int .i64 t.index)), (9, .own 2 (List.length (α := Vl.Ty) (out ++ [(⟨x9.data, t.index⟩ : Vl.Ty)]))), (28, .arr (List.map Vl.Ty.c x2.args)), (29, .lit (.int .i64 (x2.args.length : Int))), (30, .lit (.int .i64 ((i + 1) : Int)))], [.dead, .dead, .elems 2 (List.map Vl.Ty.c (out ++ [(⟨x9.data, t.index⟩ : Vl.Ty)]))]⟩ (Gh.to3 (by simp) (by first | simp -dsimp [h6, z8, ↓e10, h11, w14]; done | simp_all)) ?_
    exact (ih_impl_argTypes_l1 (i + 1) (out ++ [(⟨x9.data, t.index⟩ : Vl.Ty)]) o hF) _ rfl _ hq
   ·have q12 : ¬ (x9.index = (-1)) := auq h11
    rw [if_neg q12] at hF
    have hF := oc hF; obtain ⟨c15, hF⟩ := hF
    have w16 : IntKind.i64.wrap ((i : Int) + 1) = (i : Int) + 1 := wrap_in (by omega) (by omega)
    repeat (first | refine chk.ga ?_ | simp -dsimp [h6, z8, ↓e10, h11, q12, w16])
    refine Again.go ⟨[(8, .lit (.int .i64 t.index)), (9, .own 2 (List.length (α := Vl.Ty) (out ++ [x9]))), (28, .arr (List.map Vl.Ty.c x2.args)), (29, .lit (.int .i64 (x2.args.length : Int))), (30, .lit (.int .i64 ((i + 1) : Int)))], [.dead, .dead, .elems 2 (List.map Vl.Ty.c (out ++ [x9]))]⟩ (Gh.to3 (by simp) (by first | simp -dsimp [h6, z8, ↓e10, h11, q12, w16]; done | simp_all)) ?_
    exact (ih_impl_argTypes_l1 (i + 1) (out ++ [x9]) o hF) _ rfl _ hq
  ·have q7 : ¬ (i < x2.args.length) := auq h6
   have z8 : ¬ ((i : Int) < (x2.args.length : Int)) := auz
   rw [if_neg q7] at hF
   cases hF
   repeat (first | refine chk.ga ?_ | simp -dsimp [h6, q7, z8])
   refine Leave.go ⟨[(9, .own 2 (List.length (α := Vl.Ty) out))], [.dead, .dead, .elems 2 (List.map Vl.Ty.c out)]⟩ (Gh.to3 (by simp) (by first | simp -dsimp [h6, q7, z8]; done | simp_all)) ?_
   exact hq

theorem C.impl_argTypes_l1 (B : Nat) (hB1 : 67108864 ≤ B) (hB2 : B ≤ 9223372036854775807) (t : Vl.Ty) (x2 : Vl.Ctor) (i : Nat) (out : List Vl.Ty) (o : List Vl.Ty) (hF : F.impl_argTypes_l1 t x2 i out = some o) : ∀ (c : Code), navO [1, 1, 1, 1, 1, 0, 1, 0, 0] (bodyOf Try.f188) = some c → ∀ (Q : Exit → ASt → Prop), (Q (.exit 0) ⟨[(9, .own 2 (List.length (α := Vl.Ty) o))], [.dead, .dead, .elems 2 (List.map Vl.Ty.c o)]⟩) → ALoopU Try.prog B 0 45 (hold c .mk) ⟨[(8, .lit (.int .i64 t.index)), (9, .own 2 (List.length (α := Vl.Ty) out)), (28, .arr (List.map Vl.Ty.c x2.args)), (29, .lit (.int .i64 (x2.args.length : Int))), (30, .lit (.int .i64 (i : Int)))], [.dead, .dead, .elems 2 (List.map Vl.Ty.c out)]⟩ (hold Q .mk) :=
 (CC.impl_argTypes_l1 B hB1 hB2 t x2) i out o hF

set_option maxRecDepth 100000 in
set_option maxHeartbeats 4000000 in
theorem CC.impl_argTypes_l2 (B : Nat) (hB1 : 67108864 ≤ B) (hB2 : B ≤ 9223372036854775807) (x2 : Vl.Ctor) : (∀ (i18 : Nat) (out19 : List Vl.Ty) (o : List Vl.Ty), F.impl_argTypes_l2 x2 i18 out19 = some o → ∀ (c : Code), navO [1, 1, 1, 1, 1, 0, 1, 0, 0] (bodyOf Try.f188) = some c → ∀ (Q : Exit → ASt → Prop), (Q (.exit 0) ⟨[(9, .own 2 (List.length (α := Vl.Ty) o))], [.dead, .dead, .elems 2 (List.map Vl.Ty.c o)]⟩) → ALoopU Try.prog B 0 45 (hold c .mk) ⟨[(8, .lit (.int .i64 x2.index)), (9, .own 2 (List.length (α := Vl.Ty) out19)), (28, .arr (List.map Vl.Ty.c x2.args)), (29, .lit (.int .i64 (x2.args.length : Int))), (30, .lit (.int .i64 (i18 : Int)))], [.dead, .dead, .elems 2 (List.map Vl.Ty.c out19)]⟩ (hold Q .mk)) := by
 refine F.impl_argTypes_l2.partial_correctness x2
  (fun i18 out19 o => ∀ (c : Code), navO [1, 1, 1, 1, 1, 0, 1, 0, 0] (bodyOf Try.f188) = some c → ∀ (Q : Exit → ASt → Prop), (Q (.exit 0) ⟨[(9, .own 2 (List.length (α := Vl.Ty) o))], [.dead, .dead, .elems 2 (List.map Vl.Ty.c o)]⟩) → ALoopU Try.prog B 0 45 (hold c .mk) ⟨[(8, .lit (.int .i64 x2.index)), (9, .own 2 (List.length (α := Vl.Ty) out19)), (28, .arr (List.map Vl.Ty.c x2.args)), (29, .lit (.int .i64 (x2.args.length : Int))), (30, .lit (.int .i64 (i18 : Int)))], [.dead, .dead, .elems 2 (List.map Vl.Ty.c out19)]⟩ (hold Q .mk))
  ?_
 ·intro _f_impl_argTypes_l2 ih_impl_argTypes_l2 i18 out19 o hF
  intro c hc Q hq
  obtain rfl : c = _ := navEq hc rfl
  refine ALoopU.know fun hk hs => ?_
  have b28 := hk 28
  simp -dsimp at b28
  have d2 := hs 2 _ rfl
  simp -dsimp [Blk.bnd] at d2
  clear hk hs
  refine ALoopU.enter ?_
  repeat (first | refine chk.ga ?_ | simp -dsimp)
  refine abr.split (fun h20 => ?_) (fun h20 => ?_)
  ·have q21 : (i18 < x2.args.length) := auq h20
   have z22 : ((i18 : Int) < (x2.args.length : Int)) := auz
   rw [if_pos q21] at hF
   have hF := ob hF; obtain ⟨x23, e24, hF⟩ := hF
   have le24 := lt_of_get e24
   repeat (first | refine chk.ga ?_ | simp -dsimp [h20, z22, ↓e24])
   refine abr.split (fun h25 => ?_) (fun h25 => ?_)
   ·have q26 : (x23.index = (-1)) := auq h25
    rw [if_pos q26] at hF
    have hF := oc hF; obtain ⟨c27, hF⟩ := hF
    have w28 : IntKind.i64.wrap ((i18 : Int) + 1) = (i18 : Int) + 1 := wrap_in (by omega) (by omega)
    repeat (first | refine chk.ga ?_ | simp -dsimp [h20, z22, ↓e24, h25, w28])
    refine Again.go ⟨[(8, .lit (.int .i64 x2.index)), (9, .own 2 (List.length (α := Vl.Ty) (out19 ++ [(⟨x23.data, x2.index⟩ : Vl.Ty)]))), (28, .arr (List.map Vl.Ty.c x2.args)), (29, .lit (.int .i64 (x2.args.length : Int))), (30, .lit (.int .i64 ((i18 + 1) : Int)))], [.dead, .dead, .elems 2 (List.map Vl.Ty.c (out19 ++ [(⟨x23.data, x2.index⟩ : Vl.Ty)]))]⟩ (Gh.to3 (by simp) (by first | simp -dsimp [h20, z22, ↓e24, h25, w28]; done | simp_all)) ?_
    exact (ih_impl_argTypes_l2 (i18 + 1) (out19 ++ [(⟨x23.data, x2.index⟩ : Vl.Ty)]) o hF) _ rfl _ hq
   ·have q26 : ¬ (x23.index = (-1)) := auq h25
    rw [if_neg q26] at hF
    have hF := oc hF; obtain ⟨c29, hF⟩ := hF
    have w30 : IntKind.i64.wrap ((i18 : Int) + 1) = (i18 : Int) + 1 := wrap_in (by omega) (by omega)
    repeat (first | refine chk.ga ?_ | simp -dsimp [h20, z22, ↓e24, h25, q26, w30])
    refine Again.go ⟨[(8, .lit (.int .i64 x2.index)), (9, .own 2 (List.length (α := Vl.Ty) (out19 ++ [x23]))), (28, .arr (List.map Vl.Ty.c x2.args)), (29, .lit (.int .i64 (x2.args.length : Int))), (30, .lit (.int .i64 ((i18 + 1) : Int)))], [.dead, .dead, .elems 2 (List.map Vl.Ty.c (out19 ++ [x23]))]⟩ (Gh.to3 (by simp) (by first | simp -dsimp [h20, z22, ↓e24, h25, q26, w30]; done | simp_all)) ?_
    exact (ih_impl_argTypes_l2 (i18 + 1) (out19 ++ [x23]) o hF) _ rfl _ hq
  ·have q21 : ¬ (i18 < x2.args.length) := auq h20
   have z22 : ¬ ((i18 : Int) < (x2.args.length : Int)) := auz
   rw [if_neg q21] at hF
   cases hF
   repeat (first | refine chk.ga ?_ | simp -dsimp [h20, q21, z22])
   refine Leave.go ⟨[(9, .own 2 (List.length (α := Vl.Ty) out19))], [.dead, .dead, .elems 2 (List.map Vl.Ty.c out19)]⟩ (Gh.to3 (by simp) (by first | simp -dsimp [h20, q21, z22]; done | simp_all)) ?_
   exact hq

theorem C.impl_argTypes_l2 (B : Nat) (hB1 : 67108864 ≤ B) (hB2 : B ≤ 9223372036854775807) (x2 : Vl.Ctor) (i18 : Nat) (out19 : List Vl.Ty) (o : List Vl.Ty) (hF : F.impl_argTypes_l2 x2 i18 out19 = some o) : ∀ (c : Code), navO [1, 1, 1, 1, 1, 0, 1, 0, 0] (bodyOf Try.f188) = some c → ∀ (Q : Exit → ASt → Prop), (Q (.exit 0) ⟨[(9, .own 2 (List.length (α := Vl.Ty) o))], [.dead, .dead, .elems 2 (List.map Vl.Ty.c o)]⟩) → ALoopU Try.prog B 0 45 (hold c .mk) ⟨[(8, .lit (.int .i64 x2.index)), (9, .own 2 (List.length (α := Vl.Ty) out19)), (28, .arr (List.map Vl.Ty.c x2.args)), (29, .lit (.int .i64 (x2.args.length : Int))), (30, .lit (.int .i64 (i18 : Int)))], [.dead, .dead, .elems 2 (List.map Vl.Ty.c out19)]⟩ (hold Q .mk) :=
 (CC.impl_argTypes_l2 B hB1 hB2 x2) i18 out19 o hF

set_option maxRecDepth 100000 in
set_option maxHeartbeats 4000000 in
theorem C.impl_argTypes (B : Nat) (hB1 : 67108864 ≤ B) (hB2 : B ≤ 9223372036854775807) (w : List Vl.Data) (t : Vl.Ty) (ctor : Int) (r : List Vl.Ty) (hF : F.impl_argTypes w t ctor = some r) : PureCall Try.prog B 188 [.arr (List.map Vl.Data.c w), .agg [.lit (.int .i64 t.data), .lit (.int .i64 t.index)], .lit (.int .i64 ctor)] (.arr (List.map Vl.Ty.c r)) := by
 unfold F.impl_argTypes at hF
 refine PureCall.enterLe Try.func188 (by kernel_rfl) rfl Try.ntmps188 (by simp) (by simp) ?_
 have hF := ob hF; obtain ⟨x, e1a, hF⟩ := hF
 have e1a := at_some e1a; obtain ⟨ne1, e1⟩ := e1a
 have le1 := lt_of_get e1
 have hF := ob hF; obtain ⟨x2, e3a, hF⟩ := hF
 have e3a := at_some e3a; obtain ⟨ne3, e3⟩ := e3a
 have le3 := lt_of_get e3
 repeat (first | refine chk.ga ?_ | simp -dsimp [↓e1, ↓e3])
 refine abr.split (fun h4 => ?_) (fun h4 => ?_)
 ·have q5 : (x2.index = 0) := auq h4
  rw [if_pos q5] at hF
  repeat (first | refine chk.ga ?_ | simp -dsimp [↓e1, ↓e3, h4])
  have hF := ob hF; obtain ⟨o', ho17, hF⟩ := hF
  refine ALoop.goU ⟨[(8, .lit (.int .i64 t.index)), (9, .own 2 (List.length (α := Vl.Ty) [])), (28, .arr (List.map Vl.Ty.c x2.args)), (29, .lit (.int .i64 (x2.args.length : Int))), (30, .lit (.int .i64 (0 : Int)))], [.dead, .dead, .elems 2 (List.map Vl.Ty.c [])]⟩ (by refine Gh.trans (Gh.nil 9 2 (by simp -dsimp)) ?_; exact (Gh.to3 (by simp) (by first | simp -dsimp [↓e1, ↓e3, h4]; done | simp_all))) ?_
  refine (C.impl_argTypes_l1 B hB1 hB2 t x2 0 [] o' ho17) _ rfl _ ?_
  cases hF
  repeat (first | refine chk.ga ?_ | simp -dsimp)
  all_goals (try omega)
 ·have q5 : ¬ (x2.index = 0) := auq h4
  rw [if_neg q5] at hF
  repeat (first | refine chk.ga ?_ | simp -dsimp [↓e1, ↓e3, h4, q5])
  have hF := ob hF; obtain ⟨o'32, ho31, hF⟩ := hF
  refine ALoop.goU ⟨[(8, .lit (.int .i64 x2.index)), (9, .own 2 (List.length (α := Vl.Ty) [])), (28, .arr (List.map Vl.Ty.c x2.args)), (29, .lit (.int .i64 (x2.args.length : Int))), (30, .lit (.int .i64 (0 : Int)))], [.dead, .dead, .elems 2 (List.map Vl.Ty.c [])]⟩ (by refine Gh.trans (Gh.nil 9 2 (by simp -dsimp)) ?_; exact (Gh.to3 (by simp) (by first | simp -dsimp [↓e1, ↓e3, h4, q5]; done | simp_all))) ?_
  refine (C.impl_argTypes_l2 B hB1 hB2 x2 0 [] o'32 ho31) _ rfl _ ?_
  cases hF
  repeat (first | refine chk.ga ?_ | simp -dsimp)
  all_goals (try omega)

set_option maxRecDepth 100000 in
set_option maxHeartbeats 4000000 in
theorem CC.impl_valueScan (B : Nat) (hB1 : 67108864 ≤ B) (hB2 : B ≤ 9223372036854775807) (w : List Vl.Data) (holes : Bool) : (∀ (t : Vl.Ty) (v : Vl.Value) (deep : Int) (count : Int) (r : Bool × Int), F.impl_valueScan w t v deep holes count = some r → MutCall Try.prog B 152 [.lit (.int .i64 count)] [.arr (List.map Vl.Data.c w), .agg [.lit (.int .i64 t.data), .lit (.int .i64 t.index)], .agg [.lit (.int .i64 v.ctor), .lit (.int .i64 v.n), .arr (List.map Vl.Value.c v.kids)], .lit (.int .i64 deep), .lit (.bool holes), .ptr 0 0] (.lit (.bool r.1)) [.lit (.int .i64 r.2)]) ∧
  (∀ (v : Vl.Value) (deep : Int) (v60 : List Vl.Ty) (z65 : Int) (i66 : Nat) (o : Lo (Bool × Int) Int), F.impl_valueScan_l2 w v deep holes v60 z65 i66 = some o → ∀ (c : Code), navO [1, 1, 1, 1, 1, 1, 0, 1, 0, 0] (bodyOf Try.f152) = some c → ∀ (Q : Exit → ASt → Prop), o.post (fun r => ∀ st, Post Try.prog Try.f152 (fun r' σ' => r'.le (.lit (.bool r.1)) ∧ mcell σ' [.lit (.int .i64 r.2)]) .ret st → Q .ret st) (fun s => Q (.exit 1) ⟨[], [.cells [.lit (.int .i64 s)]]⟩) → ALoopU Try.prog B 1 108 (hold c .mk) ⟨[(0, .arr (List.map Vl.Data.c w)), (3, .lit (.int .i64 deep)), (4, .lit (.bool holes)), (5, .ptr 0 0), (13, .arr (List.map Vl.Ty.c v60)), (88, .arr (List.map Vl.Value.c v.kids)), (89, .lit (.int .i64 (v.kids.length : Int))), (90, .lit (.int .i64 (i66 : Int)))], [.cells [.lit (.int .i64 z65)]]⟩ (hold Q .mk)) ∧
  (∀ (v : Vl.Value) (deep : Int) (v27 : List Vl.Ty) (z : Int) (i : Nat) (o : Lo (Bool × Int) Int), F.impl_valueScan_l1 w v deep holes v27 z i = some o → ∀ (c : Code), navO [1, 1, 1, 1, 1, 1, 0, 1, 0, 0] (bodyOf Try.f152) = some c → ∀ (Q : Exit → ASt → Prop), o.post (fun r => ∀ st, Post Try.prog Try.f152 (fun r' σ' => r'.le (.lit (.bool r.1)) ∧ mcell σ' [.lit (.int .i64 r.2)]) .ret st → Q .ret st) (fun s => Q (.exit 1) ⟨[], [.cells [.lit (.int .i64 s)]]⟩) → ALoopU Try.prog B 1 108 (hold c .mk) ⟨[(0, .arr (List.map Vl.Data.c w)), (3, .lit (.int .i64 deep)), (4, .lit (.bool holes)), (5, .ptr 0 0), (13, .arr (List.map Vl.Ty.c v27)), (88, .arr (List.map Vl.Value.c v.kids)), (89, .lit (.int .i64 (v.kids.length : Int))), (90, .lit (.int .i64 (i : Int)))], [.cells [.lit (.int .i64 z)]]⟩ (hold Q .mk)) := by
 refine F.impl_valueScan.mutual_partial_correctness w holes
  (fun t v deep count r => MutCall Try.prog B 152 [.lit (.int .i64 count)] [.arr (List.map Vl.Data.c w), .agg [.lit (.int .i64 t.data), .lit (.int .i64 t.index)], .agg [.lit (.int .i64 v.ctor), .lit (.int .i64 v.n), .arr (List.map Vl.Value.c v.kids)], .lit (.int .i64 deep), .lit (.bool holes), .ptr 0 0] (.lit (.bool r.1)) [.lit (.int .i64 r.2)])
  (fun v deep v60 z65 i66 o => ∀ (c : Code), navO [1, 1, 1, 1, 1, 1, 0, 1, 0, 0] (bodyOf Try.f152) = some c → ∀ (Q : Exit → ASt → Prop), o.post (fun r => ∀ st, Post Try.prog Try.f152 (fun r' σ' => r'.le (.lit (.bool r.1)) ∧ mcell σ' [.lit (.int .i64 r.2)]) .ret st → Q .ret st) (fun s => Q (.exit 1) ⟨[], [.cells [.lit (.int .i64 s)]]⟩) → ALoopU Try.prog B 1 108 (hold c .mk) ⟨[(0, .arr (List.map Vl.Data.c w)), (3, .lit (.int .i64 deep)), (4, .lit (.bool holes)), (5, .ptr 0 0), (13, .arr (List.map Vl.Ty.c v60)), (88, .arr (List.map Vl.Value.c v.kids)), (89, .lit (.int .i64 (v.kids.length : Int))), (90, .lit (.int .i64 (i66 : Int)))], [.cells [.lit (.int .i64 z65)]]⟩ (hold Q .mk))
  (fun v deep v27 z i o => ∀ (c : Code), navO [1, 1, 1, 1, 1, 1, 0, 1, 0, 0] (bodyOf Try.f152) = some c → ∀ (Q : Exit → ASt → Prop), o.post (fun r => ∀ st, Post Try.prog Try.f152 (fun r' σ' => r'.le (.lit (.bool r.1)) ∧ mcell σ' [.lit (.int .i64 r.2)]) .ret st → Q .ret st) (fun s => Q (.exit 1) ⟨[], [.cells [.lit (.int .i64 s)]]⟩) → ALoopU Try.prog B 1 108 (hold c .mk) ⟨[(0, .arr (List.map Vl.Data.c w)), (3, .lit (.int .i64 deep)), (4, .lit (.bool holes)), (5, .ptr 0 0), (13, .arr (List.map Vl.Ty.c v27)), (88, .arr (List.map Vl.Value.c v.kids)), (89, .lit (.int .i64 (v.kids.length : Int))), (90, .lit (.int .i64 (i : Int)))], [.cells [.lit (.int .i64 z)]]⟩ (hold Q .mk))
  ?_ ?_ ?_
 ·intro _f_impl_valueScan_l2 _f_impl_valueScan_l1 ih_impl_valueScan_l2 ih_impl_valueScan_l1 t v deep count r hF
  refine MutCall.enter Try.func152 (by kernel_rfl) rfl Try.ntmps152 (by simp) (by simp) (by simp) (by simp) ?_
  repeat (first | refine chk.ga ?_ | simp -dsimp)
  refine abr.split (fun h1 => ?_) (fun h1 => ?_)
  ·have q2 : ¬ (60 < IntKind.i64.wrap (count + 1)) := auq h1
   rw [if_neg q2] at hF
   repeat (first | refine chk.ga ?_ | simp -dsimp [h1, q2])
   refine abr.split (fun h3 => ?_) (fun h3 => ?_)
   ·have q4 : (10 < deep) := auq h3
    rw [if_pos q4] at hF
    cases hF
    repeat (first | refine chk.ga ?_ | simp -dsimp [h1, q2, h3])
    all_goals (try omega)
   ·have q4 : ¬ (10 < deep) := auq h3
    rw [if_neg q4] at hF
    repeat (first | refine chk.ga ?_ | simp -dsimp [h1, q2, h3, q4])
    refine abr.split (fun h5 => ?_) (fun h5 => ?_)
    ·have q6 : (holes = true) := auq h5
     rw [if_pos q6] at hF
     repeat (first | refine chk.ga ?_ | simp -dsimp [h1, q2, h3, q4, h5])
     refine abr.split (fun h7 => ?_) (fun h7 => ?_)
     ·have q8 : (v.ctor = (-2)) := auq h7
      rw [if_pos q8] at hF
      repeat (first | refine chk.ga ?_ | simp -dsimp [h1, q2, h3, q4, h5, h7])
      refine abr.split (fun h9 => ?_) (fun h9 => ?_)
      ·have q10 : (v.n = 0) := auq h9
       rw [if_pos q10] at hF
       cases hF
       repeat (first | refine chk.ga ?_ | simp -dsimp [h1, q2, h3, q4, h5, h7, h9])
       all_goals (try omega)
      ·have q10 : ¬ (v.n = 0) := auq h9
       rw [if_neg q10] at hF
       cases hF
       repeat (first | refine chk.ga ?_ | simp -dsimp [h1, q2, h3, q4, h5, h7, h9, q10])
       all_goals (try omega)
     ·have q8 : ¬ (v.ctor = (-2)) := auq h7
      rw [if_neg q8] at hF
      repeat (first | refine chk.ga ?_ | simp -dsimp [h1, q2, h3, q4, h5, h7, q8])
      refine abr.split (fun h11 => ?_) (fun h11 => ?_)
      ·have q12 : (t.data = (-1)) := auq h11
       rw [if_pos q12] at hF
       repeat (first | refine chk.ga ?_ | simp -dsimp [h1, q2, h3, q4, h5, h7, q8, h11])
       refine abr.split (fun h13 => ?_) (fun h13 => ?_)
       ·have q14 : (v.ctor = (-1)) := auq h13
        rw [if_pos q14] at hF
        repeat (first | refine chk.ga ?_ | simp -dsimp [h1, q2, h3, q4, h5, h7, q8, h11, h13])
        have hF := ob hF; obtain ⟨v15, e16, hF⟩ := hF
        refine ((C.impl_within B hB1 hB2 v.n (0 : Int) (9 : Int) v15 e16)).goW (by first | simp [h1, q2, h3, q4, h5, h7, q8, h11, h13]; done | simp_all) (by simp) ?_
        repeat (first | refine chk.ga ?_ | simp -dsimp [h1, q2, h3, q4, h5, h7, q8, h11, h13])
        refine abr.split (fun h17 => ?_) (fun h17 => ?_)
        ·have q18 : (v15 = true) := auq h17
         rw [if_pos q18] at hF
         cases hF
         repeat (first | refine chk.ga ?_ | simp -dsimp [h1, q2, h3, q4, h5, h7, q8, h11, h13, h17])
         all_goals (try omega)
        ·have q18 : ¬ (v15 = true) := auq h17
         rw [if_neg q18] at hF
         cases hF
         repeat (first | refine chk.ga ?_ | simp -dsimp [h1, q2, h3, q4, h5, h7, q8, h11, h13, h17, q18])
         all_goals (try omega)
       ·have q14 : ¬ (v.ctor = (-1)) := auq h13
        rw [if_neg q14] at hF
        cases hF
        repeat (first | refine chk.ga ?_ | simp -dsimp [h1, q2, h3, q4, h5, h7, q8, h11, h13, q14])
        all_goals (try omega)
      ·have q12 : ¬ (t.data = (-1)) := auq h11
       rw [if_neg q12] at hF
       repeat (first | refine chk.ga ?_ | simp -dsimp [h1, q2, h3, q4, h5, h7, q8, h11, q12])
       refine ADraw.simple follows (by kernel_rfl) (by kernel_rfl) ?_
       repeat (first | refine chk.ga ?_ | simp -dsimp [h1, q2, h3, q4, h5, h7, q8, h11, q12])
       refine abr.split (fun h19 => ?_) (fun h19 => ?_)
       ·have q20 : (v.n = 0) := auq h19
        rw [if_pos q20] at hF
        repeat (first | refine chk.ga ?_ | simp -dsimp [h1, q2, h3, q4, h5, h7, q8, h11, q12, h19])
        have hF := ob hF; obtain ⟨v21, e22, hF⟩ := hF
        refine ((C.impl_ctorsOf B hB1 hB2 w t v21 e22)).pgoW (by first | simp [h1, q2, h3, q4, h5, h7, q8, h11, q12, h19]; done | simp_all) (by simp) ?_
        repeat (first | refine chk.ga ?_ | simp -dsimp [h1, q2, h3, q4, h5, h7, q8, h11, q12, h19])
        have hF := ob hF; obtain ⟨v23, e24, hF⟩ := hF
        refine ((C.slices_Contains_int B hB1 hB2 v21 v.ctor v23 e24)).pgoW (by first | simp [h1, q2, h3, q4, h5, h7, q8, h11, q12, h19]; done | simp_all) (by simp) ?_
        repeat (first | refine chk.ga ?_ | simp -dsimp [h1, q2, h3, q4, h5, h7, q8, h11, q12, h19])
        refine abr.split (fun h25 => ?_) (fun h25 => ?_)
        ·have q26 : ¬ (v23 = true) := auq h25
         rw [if_neg q26] at hF
         cases hF
         repeat (first | refine chk.ga ?_ | simp -dsimp [h1, q2, h3, q4, h5, h7, q8, h11, q12, h19, h25, q26])
         all_goals (try omega)
        ·have q26 : (v23 = true) := auq h25
         rw [if_pos q26] at hF
         repeat (first | refine chk.ga ?_ | simp -dsimp [h1, q2, h3, q4, h5, h7, q8, h11, q12, h19, h25, q26])
         have hF := ob hF; obtain ⟨v27, e28, hF⟩ := hF
         refine ((C.impl_argTypes B hB1 hB2 w t v.ctor v27 e28)).goW (by first | simp [h1, q2, h3, q4, h5, h7, q8, h11, q12, h19, h25, q26]; done | simp_all) (by simp) ?_
         repeat (first | refine chk.ga ?_ | simp -dsimp [h1, q2, h3, q4, h5, h7, q8, h11, q12, h19, h25, q26])
         refine abr.split (fun h29 => ?_) (fun h29 => ?_)
         ·have q30 : ¬ (v27.length = v.kids.length) := auq h29
          have z31 : ¬ ((v27.length : Int) = (v.kids.length : Int)) := auz
          rw [if_neg q30] at hF
          cases hF
          repeat (first | refine chk.ga ?_ | simp -dsimp [h1, q2, h3, q4, h5, h7, q8, h11, q12, h19, h25, q26, h29, q30, z31])
          all_goals (try omega)
         ·have q30 : (v27.length = v.kids.length) := auq h29
          have z31 : ((v27.length : Int) = (v.kids.length : Int)) := auz
          rw [if_pos q30] at hF
          repeat (first | refine chk.ga ?_ | simp -dsimp [h1, q2, h3, q4, h5, h7, q8, h11, q12, h19, h25, q26, h29, q30, z31])
          have hF := ob hF; obtain ⟨o', ho43, hF⟩ := hF
          refine ALoop.goU ⟨[(0, .arr (List.map Vl.Data.c w)), (3, .lit (.int .i64 deep)), (4, .lit (.bool holes)), (5, .ptr 0 0), (13, .arr (List.map Vl.Ty.c v27)), (88, .arr (List.map Vl.Value.c v.kids)), (89, .lit (.int .i64 (v.kids.length : Int))), (90, .lit (.int .i64 (0 : Int)))], [.cells [.lit (.int .i64 (IntKind.i64.wrap (count + 1)))]]⟩ (Gh.to3 (by simp) (by first | simp -dsimp [h1, q2, h3, q4, h5, h7, q8, h11, q12, h19, h25, q26, h29, q30, z31]; done | simp_all)) ?_
          refine (ih_impl_valueScan_l1 v deep v27 (IntKind.i64.wrap (count + 1)) 0 o' ho43) _ rfl _ ?_
          rcases o' with r0 | sx
          ·dsimp only at hF
           cases hF
           intro st h
           simpa using h
          ·dsimp only at hF
           cases hF
           repeat (first | refine chk.ga ?_ | simp -dsimp)
           all_goals (try omega)
       ·have q20 : ¬ (v.n = 0) := auq h19
        rw [if_neg q20] at hF
        cases hF
        repeat (first | refine chk.ga ?_ | simp -dsimp [h1, q2, h3, q4, h5, h7, q8, h11, q12, h19, q20])
        all_goals (try omega)
    ·have q6 : ¬ (holes = true) := auq h5
     rw [if_neg q6] at hF
     repeat (first | refine chk.ga ?_ | simp -dsimp [h1, q2, h3, q4, h5, q6])
     refine abr.split (fun h44 => ?_) (fun h44 => ?_)
     ·have q45 : (t.data = (-1)) := auq h44
      rw [if_pos q45] at hF
      repeat (first | refine chk.ga ?_ | simp -dsimp [h1, q2, h3, q4, h5, q6, h44])
      refine abr.split (fun h46 => ?_) (fun h46 => ?_)
      ·have q47 : (v.ctor = (-1)) := auq h46
       rw [if_pos q47] at hF
       repeat (first | refine chk.ga ?_ | simp -dsimp [h1, q2, h3, q4, h5, q6, h44, h46])
       have hF := ob hF; obtain ⟨v48, e49, hF⟩ := hF
       refine ((C.impl_within B hB1 hB2 v.n (0 : Int) (9 : Int) v48 e49)).goW (by first | simp [h1, q2, h3, q4, h5, q6, h44, h46]; done | simp_all) (by simp) ?_
       repeat (first | refine chk.ga ?_ | simp -dsimp [h1, q2, h3, q4, h5, q6, h44, h46])
       refine abr.split (fun h50 => ?_) (fun h50 => ?_)
       ·have q51 : (v48 = true) := auq h50
        rw [if_pos q51] at hF
        cases hF
        repeat (first | refine chk.ga ?_ | simp -dsimp [h1, q2, h3, q4, h5, q6, h44, h46, h50])
        all_goals (try omega)
       ·have q51 : ¬ (v48 = true) := auq h50
        rw [if_neg q51] at hF
        cases hF
        repeat (first | refine chk.ga ?_ | simp -dsimp [h1, q2, h3, q4, h5, q6, h44, h46, h50, q51])
        all_goals (try omega)
      ·have q47 : ¬ (v.ctor = (-1)) := auq h46
       rw [if_neg q47] at hF
       cases hF
       repeat (first | refine chk.ga ?_ | simp -dsimp [h1, q2, h3, q4, h5, q6, h44, h46, q47])
       all_goals (try omega)
     ·have q45 : ¬ (t.data = (-1)) := auq h44
      rw [if_neg q45] at hF
      repeat (first | refine chk.ga ?_ | simp -dsimp [h1, q2, h3, q4, h5, q6, h44, q45])
      refine ADraw.simple follows (by kernel_rfl) (by kernel_rfl) ?_
      repeat (first | refine chk.ga ?_ | simp -dsimp [h1, q2, h3, q4, h5, q6, h44, q45])
      refine abr.split (fun h52 => ?_) (fun h52 => ?_)
      ·have q53 : (v.n = 0) := auq h52
       rw [if_pos q53] at hF
       repeat (first | refine chk.ga ?_ | simp -dsimp [h1, q2, h3, q4, h5, q6, h44, q45, h52])
       have hF := ob hF; obtain ⟨v54, e55, hF⟩ := hF
       refine ((C.impl_ctorsOf B hB1 hB2 w t v54 e55)).pgoW (by first | simp [h1, q2, h3, q4, h5, q6, h44, q45, h52]; done | simp_all) (by simp) ?_
       repeat (first | refine chk.ga ?_ | simp -dsimp [h1, q2, h3, q4, h5, q6, h44, q45, h52])
       have hF := ob hF; obtain ⟨v56, e57, hF⟩ := hF
       refine ((C.slices_Contains_int B hB1 hB2 v54 v.ctor v56 e57)).pgoW (by first | simp [h1, q2, h3, q4, h5, q6, h44, q45, h52]; done | simp_all) (by simp) ?_
       repeat (first | refine chk.ga ?_ | simp -dsimp [h1, q2, h3, q4, h5, q6, h44, q45, h52])
       refine abr.split (fun h58 => ?_) (fun h58 => ?_)
       ·have q59 : ¬ (v56 = true) := auq h58
        rw [if_neg q59] at hF
        cases hF
        repeat (first | refine chk.ga ?_ | simp -dsimp [h1, q2, h3, q4, h5, q6, h44, q45, h52, h58, q59])
        all_goals (try omega)
       ·have q59 : (v56 = true) := auq h58
        rw [if_pos q59] at hF
        repeat (first | refine chk.ga ?_ | simp -dsimp [h1, q2, h3, q4, h5, q6, h44, q45, h52, h58, q59])
        have hF := ob hF; obtain ⟨v60, e61, hF⟩ := hF
        refine ((C.impl_argTypes B hB1 hB2 w t v.ctor v60 e61)).goW (by first | simp [h1, q2, h3, q4, h5, q6, h44, q45, h52, h58, q59]; done | simp_all) (by simp) ?_
        repeat (first | refine chk.ga ?_ | simp -dsimp [h1, q2, h3, q4, h5, q6, h44, q45, h52, h58, q59])
        refine abr.split (fun h62 => ?_) (fun h62 => ?_)
        ·have q63 : ¬ (v60.length = v.kids.length) := auq h62
         have z64 : ¬ ((v60.length : Int) = (v.kids.length : Int)) := auz
         rw [if_neg q63] at hF
         cases hF
         repeat (first | refine chk.ga ?_ | simp -dsimp [h1, q2, h3, q4, h5, q6, h44, q45, h52, h58, q59, h62, q63, z64])
         all_goals (try omega)
        ·have q63 : (v60.length = v.kids.length) := auq h62
         have z64 : ((v60.length : Int) = (v.kids.length : Int)) := auz
         rw [if_pos q63] at hF
         repeat (first | refine chk.ga ?_ | simp -dsimp [h1, q2, h3, q4, h5, q6, h44, q45, h52, h58, q59, h62, q63, z64])
         have hF := ob hF; obtain ⟨o'80, ho79, hF⟩ := hF
         refine ALoop.goU ⟨[(0, .arr (List.map Vl.Data.c w)), (3, .lit (.int .i64 deep)), (4, .lit (.bool holes)), (5, .ptr 0 0), (13, .arr (List.map Vl.Ty.c v60)), (88, .arr (List.map Vl.Value.c v.kids)), (89, .lit (.int .i64 (v.kids.length : Int))), (90, .lit (.int .i64 (0 : Int)))], [.cells [.lit (.int .i64 (IntKind.i64.wrap (count + 1)))]]⟩ (Gh.to3 (by simp) (by first | simp -dsimp [h1, q2, h3, q4, h5, q6, h44, q45, h52, h58, q59, h62, q63, z64]; done | simp_all)) ?_
         refine (ih_impl_valueScan_l2 v deep v60 (IntKind.i64.wrap (count + 1)) 0 o'80 ho79) _ rfl _ ?_
         rcases o'80 with r082 | sx81
         ·dsimp only at hF
          cases hF
          intro st h
          simpa using h
         ·dsimp only at hF
          cases hF
          repeat (first | refine chk.ga ?_ | simp -dsimp)
          all_goals (try omega)
      ·have q53 : ¬ (v.n = 0) := auq h52
       rw [if_neg q53] at hF
       cases hF
       repeat (first | refine chk.ga ?_ | simp -dsimp [h1, q2, h3, q4, h5, q6, h44, q45, h52, q53])
       all_goals (try omega)
  ·have q2 : (60 < IntKind.i64.wrap (count + 1)) := auq h1
   rw [if_pos q2] at hF
   cases hF
   repeat (first | refine chk.ga ?_ | simp -dsimp [h1, q2])
   all_goals (try omega)
 ·intro _f_impl_valueScan _f_impl_valueScan_l2 ih_impl_valueScan ih_impl_valueScan_l2 v deep v60 z65 i66 o hF
  intro c hc Q hq
  obtain rfl : c = _ := navEq hc rfl
  refine ALoopU.know fun hk hs => ?_
  have b0 := hk 0
  simp -dsimp at b0
  have b13 := hk 13
  simp -dsimp at b13
  have b88 := hk 88
  simp -dsimp at b88
  clear hk hs
  refine ALoopU.enter ?_
  repeat (first | refine chk.ga ?_ | simp -dsimp)
  refine abr.split (fun h67 => ?_) (fun h67 => ?_)
  ·have q68 : (i66 < v.kids.length) := auq h67
   have z69 : ((i66 : Int) < (v.kids.length : Int)) := auz
   rw [if_pos q68] at hF
   have hF := ob hF; obtain ⟨x70, e71, hF⟩ := hF
   have le71 := lt_of_get e71
   repeat (first | refine chk.ga ?_ | simp -dsimp [h67, z69, ↓e71])
   refine ADraw.eff [152] [(0, 0), (0, 0), (0, 0), (0, 0), (0, 0), (0, 0), (0, 0), (0, 0), (0, 0), (0, 0), (0, 1), (1, 1)] [1, 1, 1, 1, 1, 1, 1, 1, 1, 1, 1, 1] follows (by kernel_rfl) (by kernel_rfl) (by kernel_rfl) ?_
   have hF := ob hF; obtain ⟨x72, e73, hF⟩ := hF
   have le73 := lt_of_get e73
   repeat (first | refine chk.ga ?_ | simp -dsimp [h67, z69, ↓e71, ↓e73])
   have hF := ob hF; obtain ⟨v74, e75, hF⟩ := hF
   refine ((ih_impl_valueScan x72 x70 (IntKind.i64.wrap (deep + 1)) z65 v74 e75)).ego 0 rfl (by first | simp [h67, z69, ↓e71, ↓e73]; done | simp_all) (by simp) (by first | simp [h67, z69, ↓e71, ↓e73]; done | simp_all) ?_
   repeat (first | refine chk.ga ?_ | simp -dsimp [h67, z69, ↓e71, ↓e73])
   refine abr.split (fun h76 => ?_) (fun h76 => ?_)
   ·have q77 : ¬ (v74.1 = true) := auq h76
    rw [if_neg q77] at hF
    cases hF
    repeat (first | refine chk.ga ?_ | simp -dsimp [h67, z69, ↓e71, ↓e73, h76, q77])
    refine Leave.go _ (Gh.refl _) (hq _ ?_)
    repeat (first | refine chk.ga ?_ | simp -dsimp [h67, z69, ↓e71, ↓e73, h76, q77])
   ·have q77 : (v74.1 = true) := auq h76
    rw [if_pos q77] at hF
    have w78 : IntKind.i64.wrap ((i66 : Int) + 1) = (i66 : Int) + 1 := wrap_in (by omega) (by omega)
    repeat (first | refine chk.ga ?_ | simp -dsimp [h67, z69, ↓e71, ↓e73, h76, q77, w78])
    refine Again.go ⟨[(0, .arr (List.map Vl.Data.c w)), (3, .lit (.int .i64 deep)), (4, .lit (.bool holes)), (5, .ptr 0 0), (13, .arr (List.map Vl.Ty.c v60)), (88, .arr (List.map Vl.Value.c v.kids)), (89, .lit (.int .i64 (v.kids.length : Int))), (90, .lit (.int .i64 ((i66 + 1) : Int)))], [.cells [.lit (.int .i64 v74.2)]]⟩ (Gh.to3 (by simp) (by first | simp -dsimp [h67, z69, ↓e71, ↓e73, h76, q77, w78]; done | simp_all)) ?_
    exact (ih_impl_valueScan_l2 v deep v60 v74.2 (i66 + 1) o hF) _ rfl _ hq
  ·have q68 : ¬ (i66 < v.kids.length) := auq h67
   have z69 : ¬ ((i66 : Int) < (v.kids.length : Int)) := auz
   rw [if_neg q68] at hF
   cases hF
   repeat (first | refine chk.ga ?_ | simp -dsimp [h67, q68, z69])
   refine Leave.go ⟨[], [.cells [.lit (.int .i64 z65)]]⟩ (Gh.to3 (by simp) (by first | simp -dsimp [h67, q68, z69]; done | simp_all)) ?_
   exact hq
 ·intro _f_impl_valueScan _f_impl_valueScan_l1 ih_impl_valueScan ih_impl_valueScan_l1 v deep v27 z i o hF
  intro c hc Q hq
  obtain rfl : c = _ := navEq hc rfl
  refine ALoopU.know fun hk hs => ?_
  have b0 := hk 0
  simp -dsimp at b0
  have b13 := hk 13
  simp -dsimp at b13
  have b88 := hk 88
  simp -dsimp at b88
  clear hk hs
  refine ALoopU.enter ?_
  repeat (first | refine chk.ga ?_ | simp -dsimp)
  refine abr.split (fun h32 => ?_) (fun h32 => ?_)
  ·have q33 : (i < v.kids.length) := auq h32
   have z34 : ((i : Int) < (v.kids.length : Int)) := auz
   rw [if_pos q33] at hF
   have hF := ob hF; obtain ⟨x, e35, hF⟩ := hF
   have le35 := lt_of_get e35
   repeat (first | refine chk.ga ?_ | simp -dsimp [h32, z34, ↓e35])
   refine ADraw.eff [152] [(0, 0), (0, 0), (0, 0), (0, 0), (0, 0), (0, 0), (0, 0), (0, 0), (0, 0), (0, 0), (0, 1), (1, 1)] [1, 1, 1, 1, 1, 1, 1, 1, 1, 1, 1, 1] follows (by kernel_rfl) (by kernel_rfl) (by kernel_rfl) ?_
   have hF := ob hF; obtain ⟨x36, e37, hF⟩ := hF
   have le37 := lt_of_get e37
   repeat (first | refine chk.ga ?_ | simp -dsimp [h32, z34, ↓e35, ↓e37])
   have hF := ob hF; obtain ⟨v38, e39, hF⟩ := hF
   refine ((ih_impl_valueScan x36 x (IntKind.i64.wrap (deep + 1)) z v38 e39)).ego 0 rfl (by first | simp [h32, z34, ↓e35, ↓e37]; done | simp_all) (by simp) (by first | simp [h32, z34, ↓e35, ↓e37]; done | simp_all) ?_
   repeat (first | refine chk.ga ?_ | simp -dsimp [h32, z34, ↓e35, ↓e37])
   refine abr.split (fun h40 => ?_) (fun h40 => ?_)
   ·have q41 : ¬ (v38.1 = true) := auq h40
    rw [if_neg q41] at hF
    cases hF
    repeat (first | refine chk.ga ?_ | simp -dsimp [h32, z34, ↓e35, ↓e37, h40, q41])
    refine Leave.go _ (Gh.refl _) (hq _ ?_)
    repeat (first | refine chk.ga ?_ | simp -dsimp [h32, z34, ↓e35, ↓e37, h40, q41])
   ·have q41 : (v38.1 = true) := auq h40
    rw [if_pos q41] at hF
    have w42 : IntKind.i64.wrap ((i : Int) + 1) = (i : Int) + 1 := wrap_in (by omega) (by omega)
    repeat (first | refine chk.ga ?_ | simp -dsimp [h32, z34, ↓e35, ↓e37, h40, q41, w42])
    refine Again.go ⟨[(0, .arr (List.map Vl.Data.c w)), (3, .lit (.int .i64 deep)), (4, .lit (.bool holes)), (5, .ptr 0 0), (13, .arr (List.map Vl.Ty.c v27)), (88, .arr (List.map Vl.Value.c v.kids)), (89, .lit (.int .i64 (v.kids.length : Int))), (90, .lit (.int .i64 ((i + 1) : Int)))], [.cells [.lit (.int .i64 v38.2)]]⟩ (Gh.to3 (by simp) (by first | simp -dsimp [h32, z34, ↓e35, ↓e37, h40, q41, w42]; done | simp_all)) ?_
    exact (ih_impl_valueScan_l1 v deep v27 v38.2 (i + 1) o hF) _ rfl _ hq
  ·have q33 : ¬ (i < v.kids.length) := auq h32
   have z34 : ¬ ((i : Int) < (v.kids.length : Int)) := auz
   rw [if_neg q33] at hF
   cases hF
   repeat (first | refine chk.ga ?_ | simp -dsimp [h32, q33, z34])
   refine Leave.go ⟨[], [.cells [.lit (.int .i64 z)]]⟩ (Gh.to3 (by simp) (by first | simp -dsimp [h32, q33, z34]; done | simp_all)) ?_
   exact hq

theorem C.impl_valueScan (B : Nat) (hB1 : 67108864 ≤ B) (hB2 : B ≤ 9223372036854775807) (w : List Vl.Data) (t : Vl.Ty) (v : Vl.Value) (deep : Int) (holes : Bool) (count : Int) (r : Bool × Int) (hF : F.impl_valueScan w t v deep holes count = some r) : MutCall Try.prog B 152 [.lit (.int .i64 count)] [.arr (List.map Vl.Data.c w), .agg [.lit (.int .i64 t.data), .lit (.int .i64 t.index)], .agg [.lit (.int .i64 v.ctor), .lit (.int .i64 v.n), .arr (List.map Vl.Value.c v.kids)], .lit (.int .i64 deep), .lit (.bool holes), .ptr 0 0] (.lit (.bool r.1)) [.lit (.int .i64 r.2)] :=
 (CC.impl_valueScan B hB1 hB2 w holes).1 t v deep count r hF

theorem C.impl_valueScan_l2 (B : Nat) (hB1 : 67108864 ≤ B) (hB2 : B ≤ 9223372036854775807) (w : List Vl.Data) (v : Vl.Value) (deep : Int) (holes : Bool) (v60 : List Vl.Ty) (z65 : Int) (i66 : Nat) (o : Lo (Bool × Int) Int) (hF : F.impl_valueScan_l2 w v deep holes v60 z65 i66 = some o) : ∀ (c : Code), navO [1, 1, 1, 1, 1, 1, 0, 1, 0, 0] (bodyOf Try.f152) = some c → ∀ (Q : Exit → ASt → Prop), o.post (fun r => ∀ st, Post Try.prog Try.f152 (fun r' σ' => r'.le (.lit (.bool r.1)) ∧ mcell σ' [.lit (.int .i64 r.2)]) .ret st → Q .ret st) (fun s => Q (.exit 1) ⟨[], [.cells [.lit (.int .i64 s)]]⟩) → ALoopU Try.prog B 1 108 (hold c .mk) ⟨[(0, .arr (List.map Vl.Data.c w)), (3, .lit (.int .i64 deep)), (4, .lit (.bool holes)), (5, .ptr 0 0), (13, .arr (List.map Vl.Ty.c v60)), (88, .arr (List.map Vl.Value.c v.kids)), (89, .lit (.int .i64 (v.kids.length : Int))), (90, .lit (.int .i64 (i66 : Int)))], [.cells [.lit (.int .i64 z65)]]⟩ (hold Q .mk) :=
 (CC.impl_valueScan B hB1 hB2 w holes).2.1 v deep v60 z65 i66 o hF

theorem C.impl_valueScan_l1 (B : Nat) (hB1 : 67108864 ≤ B) (hB2 : B ≤ 9223372036854775807) (w : List Vl.Data) (v : Vl.Value) (deep : Int) (holes : Bool) (v27 : List Vl.Ty) (z : Int) (i : Nat) (o : Lo (Bool × Int) Int) (hF : F.impl_valueScan_l1 w v deep holes v27 z i = some o) : ∀ (c : Code), navO [1, 1, 1, 1, 1, 1, 0, 1, 0, 0] (bodyOf Try.f152) = some c → ∀ (Q : Exit → ASt → Prop), o.post (fun r => ∀ st, Post Try.prog Try.f152 (fun r' σ' => r'.le (.lit (.bool r.1)) ∧ mcell σ' [.lit (.int .i64 r.2)]) .ret st → Q .ret st) (fun s => Q (.exit 1) ⟨[], [.cells [.lit (.int .i64 s)]]⟩) → ALoopU Try.prog B 1 108 (hold c .mk) ⟨[(0, .arr (List.map Vl.Data.c w)), (3, .lit (.int .i64 deep)), (4, .lit (.bool holes)), (5, .ptr 0 0), (13, .arr (List.map Vl.Ty.c v27)), (88, .arr (List.map Vl.Value.c v.kids)), (89, .lit (.int .i64 (v.kids.length : Int))), (90, .lit (.int .i64 (i : Int)))], [.cells [.lit (.int .i64 z)]]⟩ (hold Q .mk) :=
 (CC.impl_valueScan B hB1 hB2 w holes).2.2 v deep v27 z i o hF

set_option maxRecDepth 100000 in
set_option maxHeartbeats 4000000 in
theorem C.impl_valueOk (B : Nat) (hB1 : 67108864 ≤ B) (hB2 : B ≤ 9223372036854775807) (w : List Vl.Data) (t : Vl.Ty) (v : Vl.Value) (r : Bool) (hF : F.impl_valueOk w t v = some r) : PureCall Try.prog B 147 [.arr (List.map Vl.Data.c w), .agg [.lit (.int .i64 t.data), .lit (.int .i64 t.index)], .agg [.lit (.int .i64 v.ctor), .lit (.int .i64 v.n), .arr (List.map Vl.Value.c v.kids)]] (.lit (.bool r)) := by
 unfold F.impl_valueOk at hF
 refine PureCall.enterLe Try.func147 (by kernel_rfl) rfl Try.ntmps147 (by simp) (by simp) ?_
 repeat (first | refine chk.ga ?_ | simp -dsimp)
 have hF := ob hF; obtain ⟨v1, e2, hF⟩ := hF
 refine ((C.impl_valueScan B hB1 hB2 w t v (1 : Int) false (0 : Int) v1 e2)).go 2 rfl (by simp) (by simp) (by simp) ?_
 cases hF
 repeat (first | refine chk.ga ?_ | simp -dsimp)
 all_goals (try omega)

set_option maxRecDepth 100000 in
set_option maxHeartbeats 4000000 in
theorem C.impl_ValueValid (B : Nat) (hB1 : 67108864 ≤ B) (hB2 : B ≤ 9223372036854775807) (w : List Vl.Data) (t : Vl.Ty) (v : Vl.Value) (r : Bool) (hF : F.impl_ValueValid w t v = some r) : PureCall Try.prog B 95 [.arr (List.map Vl.Data.c w), .agg [.lit (.int .i64 t.data), .lit (.int .i64 t.index)], .agg [.lit (.int .i64 v.ctor), .lit (.int .i64 v.n), .arr (List.map Vl.Value.c v.kids)]] (.lit (.bool r)) := by
 unfold F.impl_ValueValid at hF
 refine PureCall.enterLe Try.func95 (by kernel_rfl) rfl Try.ntmps95 (by simp) (by simp) ?_
 repeat (first | refine chk.ga ?_ | simp -dsimp)
 have hF := ob hF; obtain ⟨v1, e2, hF⟩ := hF
 refine ((C.impl_TypeValid B hB1 hB2 w t v1 e2)).goW (by simp) (by simp) ?_
 repeat (first | refine chk.ga ?_ | simp -dsimp)
 refine abr.split (fun h3 => ?_) (fun h3 => ?_)
 ·have q4 : (v1 = true) := auq h3
  rw [if_pos q4] at hF
  repeat (first | refine chk.ga ?_ | simp -dsimp [h3])
  have hF := ob hF; obtain ⟨v5, e6, hF⟩ := hF
  refine ((C.impl_valueOk B hB1 hB2 w t v v5 e6)).goW (by first | simp [h3]; done | simp_all) (by simp) ?_
  cases hF
  repeat (first | refine chk.ga ?_ | simp -dsimp [h3])
  all_goals (try omega)
 ·have q4 : ¬ (v1 = true) := auq h3
  rw [if_neg q4] at hF
  cases hF
  repeat (first | refine chk.ga ?_ | simp -dsimp [h3, q4])
  all_goals (try omega)

set_option maxRecDepth 100000 in
set_option maxHeartbeats 4000000 in
theorem CC.impl_exprOf__f (B : Nat) (hB1 : 67108864 ≤ B) (hB2 : B ≤ 9223372036854775807)  : (∀ (v : Vl.Value) (r : Vl.Expr), F.impl_exprOf v = some r → FCall Try.prog B 96 [.agg [.lit (.int .i64 v.ctor), .lit (.int .i64 v.n), .arr (List.map Vl.Value.c v.kids)]] (.agg [.lit (.int .i64 r.op), .lit (.int .i64 r.n), .lit (.int .i64 r.ctor), .arr (List.map Vl.Expr.c r.kids)])) ∧
  (∀ (v : Vl.Value) (out : List Vl.Expr) (i : Nat) (o : List Vl.Expr), F.impl_exprOf_l1 v out i = some o → ∀ (R : List (List AV)), ∀ (U : List Value), RW 4 (List.length (α := Vl.Expr) out) R U → ∀ (c : Code), navO [1, 1, 1, 0, 1, 0, 0] (bodyOf Try.f96) = some c → ∀ (Q : Exit → ASt → Prop), (∀ (Rq : List (List AV)) (Uq : List Value), RW 4 (List.length (α := Vl.Expr) o) Rq Uq → Q (.exit 0) ⟨[(2, .ptr 2 0), (3, .ptr 3 0)], [.pack [] [], .dead, .cells [.lit (.int .i64 0), .lit (.int .i64 0), .lit (.int .i64 0), .lit (.slice none 0 0)], .cells [.lit (.int .i64 3), .lit (.int .i64 0), .lit (.int .i64 v.ctor), .own 4 (List.length (α := Vl.Expr) o)], .elems 4 Rq, .pack (List.flatten (List.map Vl.Expr.c o)) Uq]⟩) → ALoopU Try.prog B 0 31 (hold c .mk) ⟨[(2, .ptr 2 0), (3, .ptr 3 0), (16, .arr (List.map Vl.Value.c v.kids)), (17, .lit (.int .i64 (v.kids.length : Int))), (18, .lit (.int .i64 (i : Int)))], [.pack [] [], .dead, .cells [.lit (.int .i64 0), .lit (.int .i64 0), .lit (.int .i64 0), .lit (.slice none 0 0)], .cells [.lit (.int .i64 3), .lit (.int .i64 0), .lit (.int .i64 v.ctor), .own 4 (List.length (α := Vl.Expr) out)], .elems 4 R, .pack (List.flatten (List.map Vl.Expr.c out)) U]⟩ (hold Q .mk)) := by
 refine F.impl_exprOf.mutual_partial_correctness 
  (fun v r => FCall Try.prog B 96 [.agg [.lit (.int .i64 v.ctor), .lit (.int .i64 v.n), .arr (List.map Vl.Value.c v.kids)]] (.agg [.lit (.int .i64 r.op), .lit (.int .i64 r.n), .lit (.int .i64 r.ctor), .arr (List.map Vl.Expr.c r.kids)]))
  (fun v out i o => ∀ (R : List (List AV)), ∀ (U : List Value), RW 4 (List.length (α := Vl.Expr) out) R U → ∀ (c : Code), navO [1, 1, 1, 0, 1, 0, 0] (bodyOf Try.f96) = some c → ∀ (Q : Exit → ASt → Prop), (∀ (Rq : List (List AV)) (Uq : List Value), RW 4 (List.length (α := Vl.Expr) o) Rq Uq → Q (.exit 0) ⟨[(2, .ptr 2 0), (3, .ptr 3 0)], [.pack [] [], .dead, .cells [.lit (.int .i64 0), .lit (.int .i64 0), .lit (.int .i64 0), .lit (.slice none 0 0)], .cells [.lit (.int .i64 3), .lit (.int .i64 0), .lit (.int .i64 v.ctor), .own 4 (List.length (α := Vl.Expr) o)], .elems 4 Rq, .pack (List.flatten (List.map Vl.Expr.c o)) Uq]⟩) → ALoopU Try.prog B 0 31 (hold c .mk) ⟨[(2, .ptr 2 0), (3, .ptr 3 0), (16, .arr (List.map Vl.Value.c v.kids)), (17, .lit (.int .i64 (v.kids.length : Int))), (18, .lit (.int .i64 (i : Int)))], [.pack [] [], .dead, .cells [.lit (.int .i64 0), .lit (.int .i64 0), .lit (.int .i64 0), .lit (.slice none 0 0)], .cells [.lit (.int .i64 3), .lit (.int .i64 0), .lit (.int .i64 v.ctor), .own 4 (List.length (α := Vl.Expr) out)], .elems 4 R, .pack (List.flatten (List.map Vl.Expr.c out)) U]⟩ (hold Q .mk))
  ?_ ?_
 ·intro _f_impl_exprOf__f_l1 ih_impl_exprOf__f_l1 v r hF
  refine FCall.enterG Try.func96 (by kernel_rfl) rfl Try.ntmps96 (by simp) (Gh.packZ .nil) ?_
  repeat (first | refine chk.ga ?_ | simp -dsimp)
  refine abr.split (fun h1 => ?_) (fun h1 => ?_)
  ·have q2 : (v.ctor = (-1)) := auq h1
   rw [if_pos q2] at hF
   cases hF
   repeat (first | refine chk.ga ?_ | simp -dsimp [h1])
   exact ⟨_, by decide, (.agg (.lit _ (.lit _ (.lit _ (.nilS none 0 .nil)))) .nil : CT _ _ _ _)⟩
  ·have q2 : ¬ (v.ctor = (-1)) := auq h1
   rw [if_neg q2] at hF
   repeat (first | refine chk.ga ?_ | simp -dsimp [h1, q2])
   have hF := ob hF; obtain ⟨o', ho13, hF⟩ := hF
   refine ALoop.goU ⟨[(2, .ptr 2 0), (3, .ptr 3 0), (16, .arr (List.map Vl.Value.c v.kids)), (17, .lit (.int .i64 (v.kids.length : Int))), (18, .lit (.int .i64 (0 : Int)))], [.pack [] [], .dead, .cells [.lit (.int .i64 0), .lit (.int .i64 0), .lit (.int .i64 0), .lit (.slice none 0 0)], .cells [.lit (.int .i64 3), .lit (.int .i64 0), .lit (.int .i64 v.ctor), .own 4 (List.length (α := Vl.Expr) [])], .elems 4 [], .pack (List.flatten (List.map Vl.Expr.c [])) []]⟩ (by refine Gh.trans (Gh.nilCell 3 3 4 (by simp -dsimp; rfl) (by simp -dsimp)) ?_; refine Gh.trans (Gh.packZ .nil) ?_; exact (Gh.to3 (by simp) (by first | simp -dsimp [h1, q2]; done | simp_all))) ?_
   refine (ih_impl_exprOf__f_l1 v [] 0 o' ho13) [] [] RW.nil _ rfl _ ?_
   intro Rq Uq Hq4
   cases hF
   repeat (first | refine chk.ga ?_ | simp -dsimp [RW.len Hq4, RW.closed Hq4])
   exact ⟨_, by decide, (.agg (.lit _ (.lit _ (.lit _ (.ownP 4 _ 4 rfl (by simp) (.blk 5 rfl .nil) (by simp [Hq4.2.2]) (by simp [Hq4.1]) (by simp) (by simp) .nil)))) .nil : CT _ _ _ _)⟩
 ·intro _f_impl_exprOf__f _f_impl_exprOf__f_l1 ih_impl_exprOf__f ih_impl_exprOf__f_l1 v out i o hF
  intro R U H3 c hc Q hq
  obtain rfl : c = _ := navEq hc rfl
  refine ALoopU.know fun hk hs => ?_
  have b16 := hk 16
  simp -dsimp at b16
  have d4 := hs 4 _ rfl
  simp -dsimp [Blk.bnd] at d4
  clear hk hs
  refine ALoopU.enter ?_
  repeat (first | refine chk.ga ?_ | simp -dsimp [RW.len H3, RW.closed H3])
  refine abr.split (fun h5 => ?_) (fun h5 => ?_)
  ·have q6 : (i < v.kids.length) := auq h5
   have z7 : ((i : Int) < (v.kids.length : Int)) := auz
   rw [if_pos q6] at hF
   have hF := ob hF; obtain ⟨x, e8, hF⟩ := hF
   have le8 := lt_of_get e8
   repeat (first | refine chk.ga ?_ | simp -dsimp [RW.len H3, RW.closed H3, h5, z7, ↓e8])
   refine ADraw.effN2 [96] [(0, 2), (0, 2), (0, 0), (0, 4), (0, 4), (0, 4), (3, 3), (0, 4)] [0, 2, 1, 1, 1, 1, 1, 1] 3 (by decide) follows (by kernel_rfl) (by kernel_rfl) (by kernel_rfl) (by kernel_rfl) (by kernel_rfl) rfl ?_
   repeat (first | refine chk.ga ?_ | simp -dsimp [RW.len H3, RW.closed H3, h5, z7, ↓e8])
   have hF := ob hF; obtain ⟨v9, e10, hF⟩ := hF
   refine ((ih_impl_exprOf__f x v9 e10)).ngo1 (by first | simp -dsimp [RW.len H3, RW.closed H3, h5, z7, ↓e8]; done | simp_all) (by simp) (fun h o_h => ?_)
   have hF := oc hF; obtain ⟨c11, hF⟩ := hF
   have w12 : IntKind.i64.wrap ((i : Int) + 1) = (i : Int) + 1 := wrap_in (by omega) (by omega)
   repeat (first | refine chk.ga ?_ | simp -dsimp [RW.len H3, RW.closed H3, h5, z7, ↓e8, o_h, w12])
   refine Again.go ⟨[(2, .ptr 2 0), (3, .ptr 3 0), (16, .arr (List.map Vl.Value.c v.kids)), (17, .lit (.int .i64 (v.kids.length : Int))), (18, .lit (.int .i64 ((i + 1) : Int)))], [.pack [] [], .dead, .cells [.lit (.int .i64 0), .lit (.int .i64 0), .lit (.int .i64 0), .lit (.slice none 0 0)], .cells [.lit (.int .i64 3), .lit (.int .i64 0), .lit (.int .i64 v.ctor), .own 4 (List.length (α := Vl.Expr) (out ++ [v9]))], .elems 4 (R ++ [[.lit (.int .i64 v9.op), .lit (.int .i64 v9.n), .lit (.int .i64 v9.ctor), .lit h]]), .pack (List.flatten (List.map Vl.Expr.c (out ++ [v9]))) (U ++ [.int .i64 v9.op, .int .i64 v9.n, .int .i64 v9.ctor, h])]⟩ (by refine Gh.trans (Gh.absorb 5 [7] (by exact rfl) (.lit (.int .i64 v9.op) (.lit (.int .i64 v9.n) (.lit (.int .i64 v9.ctor) (.pk 7 (by exact rfl) .nil)))) (by decide)) ?_; exact (Gh.to3 (by simp) (by first | simp -dsimp [RW.len H3, RW.closed H3, h5, z7, ↓e8, o_h, w12]; done | simp_all))) ?_
   exact (ih_impl_exprOf__f_l1 v (out ++ [v9]) (i + 1) o hF) (R ++ [[.lit (.int .i64 v9.op), .lit (.int .i64 v9.n), .lit (.int .i64 v9.ctor), .lit h]]) (U ++ [.int .i64 v9.op, .int .i64 v9.n, .int .i64 v9.ctor, h]) ((RW.snoc H3 [.int .i64 v9.op, .int .i64 v9.n, .int .i64 v9.ctor, h] rfl).cong (by simp) (by simp) rfl) _ rfl _ hq
  ·have q6 : ¬ (i < v.kids.length) := auq h5
   have z7 : ¬ ((i : Int) < (v.kids.length : Int)) := auz
   rw [if_neg q6] at hF
   cases hF
   repeat (first | refine chk.ga ?_ | simp -dsimp [RW.len H3, RW.closed H3, h5, q6, z7])
   refine Leave.go ⟨[(2, .ptr 2 0), (3, .ptr 3 0)], [.pack [] [], .dead, .cells [.lit (.int .i64 0), .lit (.int .i64 0), .lit (.int .i64 0), .lit (.slice none 0 0)], .cells [.lit (.int .i64 3), .lit (.int .i64 0), .lit (.int .i64 v.ctor), .own 4 (List.length (α := Vl.Expr) out)], .elems 4 R, .pack (List.flatten (List.map Vl.Expr.c out)) U]⟩ (Gh.to3 (by simp) (by first | simp -dsimp [RW.len H3, RW.closed H3, h5, q6, z7]; done | simp_all)) ?_
   exact hq R U H3

theorem C.impl_exprOf__f (B : Nat) (hB1 : 67108864 ≤ B) (hB2 : B ≤ 9223372036854775807) (v : Vl.Value) (r : Vl.Expr) (hF : F.impl_exprOf v = some r) : FCall Try.prog B 96 [.agg [.lit (.int .i64 v.ctor), .lit (.int .i64 v.n), .arr (List.map Vl.Value.c v.kids)]] (.agg [.lit (.int .i64 r.op), .lit (.int .i64 r.n), .lit (.int .i64 r.ctor), .arr (List.map Vl.Expr.c r.kids)]) :=
 (CC.impl_exprOf__f B hB1 hB2 ).1 v r hF

theorem C.impl_exprOf__f_l1 (B : Nat) (hB1 : 67108864 ≤ B) (hB2 : B ≤ 9223372036854775807) (v : Vl.Value) (out : List Vl.Expr) (i : Nat) (o : List Vl.Expr) (hF : F.impl_exprOf_l1 v out i = some o) : ∀ (R : List (List AV)), ∀ (U : List Value), RW 4 (List.length (α := Vl.Expr) out) R U → ∀ (c : Code), navO [1, 1, 1, 0, 1, 0, 0] (bodyOf Try.f96) = some c → ∀ (Q : Exit → ASt → Prop), (∀ (Rq : List (List AV)) (Uq : List Value), RW 4 (List.length (α := Vl.Expr) o) Rq Uq → Q (.exit 0) ⟨[(2, .ptr 2 0), (3, .ptr 3 0)], [.pack [] [], .dead, .cells [.lit (.int .i64 0), .lit (.int .i64 0), .lit (.int .i64 0), .lit (.slice none 0 0)], .cells [.lit (.int .i64 3), .lit (.int .i64 0), .lit (.int .i64 v.ctor), .own 4 (List.length (α := Vl.Expr) o)], .elems 4 Rq, .pack (List.flatten (List.map Vl.Expr.c o)) Uq]⟩) → ALoopU Try.prog B 0 31 (hold c .mk) ⟨[(2, .ptr 2 0), (3, .ptr 3 0), (16, .arr (List.map Vl.Value.c v.kids)), (17, .lit (.int .i64 (v.kids.length : Int))), (18, .lit (.int .i64 (i : Int)))], [.pack [] [], .dead, .cells [.lit (.int .i64 0), .lit (.int .i64 0), .lit (.int .i64 0), .lit (.slice none 0 0)], .cells [.lit (.int .i64 3), .lit (.int .i64 0), .lit (.int .i64 v.ctor), .own 4 (List.length (α := Vl.Expr) out)], .elems 4 R, .pack (List.flatten (List.map Vl.Expr.c out)) U]⟩ (hold Q .mk) :=
 (CC.impl_exprOf__f B hB1 hB2 ).2 v out i o hF

set_option maxRecDepth 100000 in
set_option maxHeartbeats 4000000 in
theorem C.impl_ExprOf__f (B : Nat) (hB1 : 67108864 ≤ B) (hB2 : B ≤ 9223372036854775807) (w : List Vl.Data) (t : Vl.Ty) (v : Vl.Value) (r : Vl.Expr × Bool) (hF : F.impl_ExprOf w t v = some r) : FCall Try.prog B 39 [.arr (List.map Vl.Data.c w), .agg [.lit (.int .i64 t.data), .lit (.int .i64 t.index)], .agg [.lit (.int .i64 v.ctor), .lit (.int .i64 v.n), .arr (List.map Vl.Value.c v.kids)]] (.tup [.agg [.lit (.int .i64 r.1.op), .lit (.int .i64 r.1.n), .lit (.int .i64 r.1.ctor), .arr (List.map Vl.Expr.c r.1.kids)], .lit (.bool r.2)]) := by
 unfold F.impl_ExprOf at hF
 refine FCall.enterG Try.func39 (by kernel_rfl) rfl Try.ntmps39 (by simp) (Gh.packZ .nil) ?_
 repeat (first | refine chk.ga ?_ | simp -dsimp)
 have hF := ob hF; obtain ⟨v1, e2, hF⟩ := hF
 refine ((C.impl_ValueValid B hB1 hB2 w t v v1 e2)).goW (by simp) (by simp) ?_
 repeat (first | refine chk.ga ?_ | simp -dsimp)
 refine abr.split (fun h3 => ?_) (fun h3 => ?_)
 ·have q4 : ¬ (v1 = true) := auq h3
  rw [if_neg q4] at hF
  cases hF
  repeat (first | refine chk.ga ?_ | simp -dsimp [h3, q4])
  exact ⟨_, by decide, (.agg (.lit _ (.lit _ (.lit _ (.nilS none 0 .nil)))) (.cell (.lit _ .nil) .nil) : CT _ _ _ _)⟩
 ·have q4 : (v1 = true) := auq h3
  rw [if_pos q4] at hF
  repeat (first | refine chk.ga ?_ | simp -dsimp [h3, q4])
  have hF := ob hF; obtain ⟨v5, e6, hF⟩ := hF
  refine ((C.impl_exprOf__f B hB1 hB2 v v5 e6)).go1 (by first | simp -dsimp [h3, q4]; done | simp_all) (by simp) (fun h o_h => ?_)
  cases hF
  repeat (first | refine chk.ga ?_ | simp -dsimp [h3, q4, o_h])
  exact ⟨_, by decide, (.agg (.lit _ (.lit _ (.lit _ (.pk 4 rfl .nil)))) (.cell (.lit _ .nil) .nil) : CT _ _ _ _)⟩

set_option maxRecDepth 100000 in
set_option maxHeartbeats 4000000 in
theorem CC.laws_eqExpr (B : Nat) (hB1 : 67108864 ≤ B) (hB2 : B ≤ 9223372036854775807)  : (∀ (a : Vl.Expr) (b : Vl.Expr) (r : Bool), F.laws_eqExpr a b = some r → PureCall Try.prog B 23 [.agg [.lit (.int .i64 a.op), .lit (.int .i64 a.n), .lit (.int .i64 a.ctor), .arr (List.map Vl.Expr.c a.kids)], .agg [.lit (.int .i64 b.op), .lit (.int .i64 b.n), .lit (.int .i64 b.ctor), .arr (List.map Vl.Expr.c b.kids)]] (.lit (.bool r))) ∧
  (∀ (a : List Vl.Expr) (b : List Vl.Expr) (r : Bool), F.laws_eqExprS a b = some r → PureCall Try.prog B 66 [.arr (List.map Vl.Expr.c a), .arr (List.map Vl.Expr.c b)] (.lit (.bool r))) ∧
  (∀ (a : List Vl.Expr) (b : List Vl.Expr) (i : Nat) (o : Lo Bool Unit), F.laws_eqExprS_l1 a b i = some o → ∀ (c : Code), navO [1, 1, 0, 1, 0, 0] (bodyOf Try.f66) = some c → ∀ (Q : Exit → ASt → Prop), o.post (fun r => ∀ st, Post Try.prog Try.f66 (fun r' _ => r'.le (.lit (.bool r))) .ret st → Q .ret st) (fun s => Q (.exit 0) ⟨[], []⟩) → ALoopU Try.prog B 0 27 (hold c .mk) ⟨[(0, .arr (List.map Vl.Expr.c a)), (1, .arr (List.map Vl.Expr.c b)), (5, .lit (.int .i64 (i : Int)))], []⟩ (hold Q .mk)) := by
 refine F.laws_eqExpr.mutual_partial_correctness 
  (fun a b r => PureCall Try.prog B 23 [.agg [.lit (.int .i64 a.op), .lit (.int .i64 a.n), .lit (.int .i64 a.ctor), .arr (List.map Vl.Expr.c a.kids)], .agg [.lit (.int .i64 b.op), .lit (.int .i64 b.n), .lit (.int .i64 b.ctor), .arr (List.map Vl.Expr.c b.kids)]] (.lit (.bool r)))
  (fun a b r => PureCall Try.prog B 66 [.arr (List.map Vl.Expr.c a), .arr (List.map Vl.Expr.c b)] (.lit (.bool r)))
  (fun a b i o => ∀ (c : Code), navO [1, 1, 0, 1, 0, 0] (bodyOf Try.f66) = some c → ∀ (Q : Exit → ASt → Prop), o.post (fun r => ∀ st, Post Try.prog Try.f66 (fun r' _ => r'.le (.lit (.bool r))) .ret st → Q .ret st) (fun s => Q (.exit 0) ⟨[], []⟩) → ALoopU Try.prog B 0 27 (hold c .mk) ⟨[(0, .arr (List.map Vl.Expr.c a)), (1, .arr (List.map Vl.Expr.c b)), (5, .lit (.int .i64 (i : Int)))], []⟩ (hold Q .mk))
  ?_ ?_ ?_
 ·intro _f_laws_eqExprS ih_laws_eqExprS a b r hF
  refine PureCall.enterLe Try.func23 (by kernel_rfl) rfl Try.ntmps23 (by simp) (by simp) ?_
  repeat (first | refine chk.ga ?_ | simp -dsimp)
  refine abr.split (fun h1 => ?_) (fun h1 => ?_)
  ·have q2 : ¬ (a.op = b.op) := auq h1
   rw [if_neg q2] at hF
   cases hF
   repeat (first | refine chk.ga ?_ | simp -dsimp [h1, q2])
   all_goals (try omega)
  ·have q2 : (a.op = b.op) := auq h1
   rw [if_pos q2] at hF
   repeat (first | refine chk.ga ?_ | simp -dsimp [h1, q2])
   refine abr.split (fun h3 => ?_) (fun h3 => ?_)
   ·have q4 : ¬ (a.n = b.n) := auq h3
    rw [if_neg q4] at hF
    cases hF
    repeat (first | refine chk.ga ?_ | simp -dsimp [h1, q2, h3, q4])
    all_goals (try omega)
   ·have q4 : (a.n = b.n) := auq h3
    rw [if_pos q4] at hF
    repeat (first | refine chk.ga ?_ | simp -dsimp [h1, q2, h3, q4])
    refine abr.split (fun h5 => ?_) (fun h5 => ?_)
    ·have q6 : ¬ (a.ctor = b.ctor) := auq h5
     rw [if_neg q6] at hF
     cases hF
     repeat (first | refine chk.ga ?_ | simp -dsimp [h1, q2, h3, q4, h5, q6])
     all_goals (try omega)
    ·have q6 : (a.ctor = b.ctor) := auq h5
     rw [if_pos q6] at hF
     repeat (first | refine chk.ga ?_ | simp -dsimp [h1, q2, h3, q4, h5, q6])
     have hF := ob hF; obtain ⟨v, e7, hF⟩ := hF
     refine ((ih_laws_eqExprS a.kids b.kids v e7)).goW (by first | simp [h1, q2, h3, q4, h5, q6]; done | simp_all) (by simp) ?_
     repeat (first | refine chk.ga ?_ | simp -dsimp [h1, q2, h3, q4, h5, q6])
     refine abr.split (fun h8 => ?_) (fun h8 => ?_)
     ·have q9 : ¬ (v = true) := auq h8
      rw [if_neg q9] at hF
      cases hF
      repeat (first | refine chk.ga ?_ | simp -dsimp [h1, q2, h3, q4, h5, q6, h8, q9])
      all_goals (try omega)
     ·have q9 : (v = true) := auq h8
      rw [if_pos q9] at hF
      cases hF
      repeat (first | refine chk.ga ?_ | simp -dsimp [h1, q2, h3, q4, h5, q6, h8, q9])
      all_goals (try omega)
 ·intro _f_laws_eqExprS_l1 ih_laws_eqExprS_l1 a b r hF
  refine PureCall.enterLe Try.func66 (by kernel_rfl) rfl Try.ntmps66 (by simp) (by simp) ?_
  repeat (first | refine chk.ga ?_ | simp -dsimp)
  refine abr.split (fun h1 => ?_) (fun h1 => ?_)
  ·have q2 : ¬ (a.length = b.length) := auq h1
   have z3 : ¬ ((a.length : Int) = (b.length : Int)) := auz
   rw [if_neg q2] at hF
   cases hF
   repeat (first | refine chk.ga ?_ | simp -dsimp [h1, q2, z3])
   all_goals (try omega)
  ·have q2 : (a.length = b.length) := auq h1
   have z3 : ((a.length : Int) = (b.length : Int)) := auz
   rw [if_pos q2] at hF
   repeat (first | refine chk.ga ?_ | simp -dsimp [h1, q2, z3])
   have hF := ob hF; obtain ⟨o', ho14, hF⟩ := hF
   refine ALoop.goU ⟨[(0, .arr (List.map Vl.Expr.c a)), (1, .arr (List.map Vl.Expr.c b)), (5, .lit (.int .i64 (0 : Int)))], []⟩ (Gh.to3 (by simp) (by first | simp -dsimp [h1, q2, z3]; done | simp_all)) ?_
   refine (ih_laws_eqExprS_l1 a b 0 o' ho14) _ rfl _ ?_
   rcases o' with r0 | sx
   ·dsimp only at hF
    cases hF
    intro st h
    simpa using h
   ·dsimp only at hF
    cases hF
    repeat (first | refine chk.ga ?_ | simp -dsimp)
    all_goals (try omega)
 ·intro _f_laws_eqExpr _f_laws_eqExprS_l1 ih_laws_eqExpr ih_laws_eqExprS_l1 a b i o hF
  intro c hc Q hq
  obtain rfl : c = _ := navEq hc rfl
  refine ALoopU.know fun hk hs => ?_
  have b0 := hk 0
  simp -dsimp at b0
  have b1 := hk 1
  simp -dsimp at b1
  clear hk hs
  refine ALoopU.enter ?_
  repeat (first | refine chk.ga ?_ | simp -dsimp)
  refine abr.split (fun h4 => ?_) (fun h4 => ?_)
  ·have q5 : (i < a.length) := auq h4
   have z6 : ((i : Int) < (a.length : Int)) := auz
   rw [if_pos q5] at hF
   repeat (first | refine chk.ga ?_ | simp -dsimp [h4, z6])
   refine ADraw.simple follows (by kernel_rfl) (by kernel_rfl) ?_
   have hF := ob hF; obtain ⟨x, e7, hF⟩ := hF
   have le7 := lt_of_get e7
   have hF := ob hF; obtain ⟨x8, e9, hF⟩ := hF
   have le9 := lt_of_get e9
   repeat (first | refine chk.ga ?_ | simp -dsimp [h4, z6, ↓e7, ↓e9])
   have hF := ob hF; obtain ⟨v, e10, hF⟩ := hF
   refine ((ih_laws_eqExpr x x8 v e10)).pgoW (by first | simp [h4, z6, ↓e7, ↓e9]; done | simp_all) (by simp) ?_
   repeat (first | refine chk.ga ?_ | simp -dsimp [h4, z6, ↓e7, ↓e9])
   refine abr.split (fun h11 => ?_) (fun h11 => ?_)
   ·have q12 : ¬ (v = true) := auq h11
    rw [if_neg q12] at hF
    cases hF
    repeat (first | refine chk.ga ?_ | simp -dsimp [h4, z6, ↓e7, ↓e9, h11, q12])
    refine Leave.go _ (Gh.refl _) (hq _ ?_)
    repeat (first | refine chk.ga ?_ | simp -dsimp [h4, z6, ↓e7, ↓e9, h11, q12])
   ·have q12 : (v = true) := auq h11
    rw [if_pos q12] at hF
    have w13 : IntKind.i64.wrap ((i : Int) + 1) = (i : Int) + 1 := wrap_in (by omega) (by omega)
    repeat (first | refine chk.ga ?_ | simp -dsimp [h4, z6, ↓e7, ↓e9, h11, q12, w13])
    refine Again.go ⟨[(0, .arr (List.map Vl.Expr.c a)), (1, .arr (List.map Vl.Expr.c b)), (5, .lit (.int .i64 ((i + 1) : Int)))], []⟩ (Gh.to3 (by simp) (by first | simp -dsimp [h4, z6, ↓e7, ↓e9, h11, q12, w13]; done | simp_all)) ?_
    exact (ih_laws_eqExprS_l1 a b (i + 1) o hF) _ rfl _ hq
  ·have q5 : ¬ (i < a.length) := auq h4
   have z6 : ¬ ((i : Int) < (a.length : Int)) := auz
   rw [if_neg q5] at hF
   cases hF
   repeat (first | refine chk.ga ?_ | simp -dsimp [h4, q5, z6])
   refine Leave.go ⟨[], []⟩ (Gh.to3 (by simp) (by first | simp -dsimp [h4, q5, z6]; done | simp_all)) ?_
   exact hq

theorem C.laws_eqExpr (B : Nat) (hB1 : 67108864 ≤ B) (hB2 : B ≤ 9223372036854775807) (a : Vl.Expr) (b : Vl.Expr) (r : Bool) (hF : F.laws_eqExpr a b = some r) : PureCall Try.prog B 23 [.agg [.lit (.int .i64 a.op), .lit (.int .i64 a.n), .lit (.int .i64 a.ctor), .arr (List.map Vl.Expr.c a.kids)], .agg [.lit (.int .i64 b.op), .lit (.int .i64 b.n), .lit (.int .i64 b.ctor), .arr (List.map Vl.Expr.c b.kids)]] (.lit (.bool r)) :=
 (CC.laws_eqExpr B hB1 hB2 ).1 a b r hF

theorem C.laws_eqExprS (B : Nat) (hB1 : 67108864 ≤ B) (hB2 : B ≤ 9223372036854775807) (a : List Vl.Expr) (b : List Vl.Expr) (r : Bool) (hF : F.laws_eqExprS a b = some r) : PureCall Try.prog B 66 [.arr (List.map Vl.Expr.c a), .arr (List.map Vl.Expr.c b)] (.lit (.bool r)) :=
 (CC.laws_eqExpr B hB1 hB2 ).2.1 a b r hF

theorem C.laws_eqExprS_l1 (B : Nat) (hB1 : 67108864 ≤ B) (hB2 : B ≤ 9223372036854775807) (a : List Vl.Expr) (b : List Vl.Expr) (i : Nat) (o : Lo Bool Unit) (hF : F.laws_eqExprS_l1 a b i = some o) : ∀ (c : Code), navO [1, 1, 0, 1, 0, 0] (bodyOf Try.f66) = some c → ∀ (Q : Exit → ASt → Prop), o.post (fun r => ∀ st, Post Try.prog Try.f66 (fun r' _ => r'.le (.lit (.bool r))) .ret st → Q .ret st) (fun s => Q (.exit 0) ⟨[], []⟩) → ALoopU Try.prog B 0 27 (hold c .mk) ⟨[(0, .arr (List.map Vl.Expr.c a)), (1, .arr (List.map Vl.Expr.c b)), (5, .lit (.int .i64 (i : Int)))], []⟩ (hold Q .mk) :=
 (CC.laws_eqExpr B hB1 hB2 ).2.2 a b i o hF

set_option maxRecDepth 100000 in
set_option maxHeartbeats 4000000 in
theorem C.laws_eqType (B : Nat) (hB1 : 67108864 ≤ B) (hB2 : B ≤ 9223372036854775807) (a : Vl.Ty) (b : Vl.Ty) (r : Bool) (hF : F.laws_eqType a b = some r) : PureCall Try.prog B 125 [.agg [.lit (.int .i64 a.data), .lit (.int .i64 a.index)], .agg [.lit (.int .i64 b.data), .lit (.int .i64 b.index)]] (.lit (.bool r)) := by
 unfold F.laws_eqType at hF
 refine PureCall.enterLe Try.func125 (by kernel_rfl) rfl Try.ntmps125 (by simp) (by simp) ?_
 repeat (first | refine chk.ga ?_ | simp -dsimp)
 refine abr.split (fun h1 => ?_) (fun h1 => ?_)
 ·have q2 : ¬ (a.data = b.data) := auq h1
  rw [if_neg q2] at hF
  cases hF
  repeat (first | refine chk.ga ?_ | simp -dsimp [h1, q2])
  all_goals (try omega)
 ·have q2 : (a.data = b.data) := auq h1
  rw [if_pos q2] at hF
  repeat (first | refine chk.ga ?_ | simp -dsimp [h1, q2])
  refine abr.split (fun h3 => ?_) (fun h3 => ?_)
  ·have q4 : ¬ (a.index = b.index) := auq h3
   rw [if_neg q4] at hF
   cases hF
   repeat (first | refine chk.ga ?_ | simp -dsimp [h1, q2, h3, q4])
   all_goals (try omega)
  ·have q4 : (a.index = b.index) := auq h3
   rw [if_pos q4] at hF
   cases hF
   repeat (first | refine chk.ga ?_ | simp -dsimp [h1, q2, h3, q4])
   all_goals (try omega)

set_option maxRecDepth 100000 in
set_option maxHeartbeats 4000000 in
theorem CC.laws_eqTypeS_l1 (B : Nat) (hB1 : 67108864 ≤ B) (hB2 : B ≤ 9223372036854775807) (a : List Vl.Ty) (b : List Vl.Ty) : (∀ (i : Nat) (o : Lo Bool Unit), F.laws_eqTypeS_l1 a b i = some o → ∀ (c : Code), navO [1, 1, 0, 1, 0, 0] (bodyOf Try.f204) = some c → ∀ (Q : Exit → ASt → Prop), o.post (fun r => ∀ st, Post Try.prog Try.f204 (fun r' _ => r'.le (.lit (.bool r))) .ret st → Q .ret st) (fun s => Q (.exit 0) ⟨[], []⟩) → ALoopU Try.prog B 0 27 (hold c .mk) ⟨[(0, .arr (List.map Vl.Ty.c a)), (1, .arr (List.map Vl.Ty.c b)), (5, .lit (.int .i64 (i : Int)))], []⟩ (hold Q .mk)) := by
 refine F.laws_eqTypeS_l1.partial_correctness a b
  (fun i o => ∀ (c : Code), navO [1, 1, 0, 1, 0, 0] (bodyOf Try.f204) = some c → ∀ (Q : Exit → ASt → Prop), o.post (fun r => ∀ st, Post Try.prog Try.f204 (fun r' _ => r'.le (.lit (.bool r))) .ret st → Q .ret st) (fun s => Q (.exit 0) ⟨[], []⟩) → ALoopU Try.prog B 0 27 (hold c .mk) ⟨[(0, .arr (List.map Vl.Ty.c a)), (1, .arr (List.map Vl.Ty.c b)), (5, .lit (.int .i64 (i : Int)))], []⟩ (hold Q .mk))
  ?_
 ·intro _f_laws_eqTypeS_l1 ih_laws_eqTypeS_l1 i o hF
  intro c hc Q hq
  obtain rfl : c = _ := navEq hc rfl
  refine ALoopU.know fun hk hs => ?_
  have b0 := hk 0
  simp -dsimp at b0
  have b1 := hk 1
  simp -dsimp at b1
  clear hk hs
  refine ALoopU.enter ?_
  repeat (first | refine chk.ga ?_ | simp -dsimp)
  refine abr.split (fun h4 => ?_) (fun h4 => ?_)
  ·have q5 : (i < a.length) := auq h4
   have z6 : ((i : Int) < (a.length : Int)) := auz
   rw [if_pos q5] at hF
   repeat (first | refine chk.ga ?_ | simp -dsimp [h4, z6])
   refine ADraw.simple follows (by kernel_rfl) (by kernel_rfl) ?_
   have hF := ob hF; obtain ⟨x, e7, hF⟩ := hF
   have le7 := lt_of_get e7
   have hF := ob hF; obtain ⟨x8, e9, hF⟩ := hF
   have le9 := lt_of_get e9
   repeat (first | refine chk.ga ?_ | simp -dsimp [h4, z6, ↓e7, ↓e9])
   have hF := ob hF; obtain ⟨v, e10, hF⟩ := hF
   refine ((C.laws_eqType B hB1 hB2 x x8 v e10)).pgoW (by first | simp [h4, z6, ↓e7, ↓e9]; done | simp_all) (by simp) ?_
   repeat (first | refine chk.ga ?_ | simp -dsimp [h4, z6, ↓e7, ↓e9])
   refine abr.split (fun h11 => ?_) (fun h11 => ?_)
   ·have q12 : ¬ (v = true) := auq h11
    rw [if_neg q12] at hF
    cases hF
    repeat (first | refine chk.ga ?_ | simp -dsimp [h4, z6, ↓e7, ↓e9, h11, q12])
    refine Leave.go _ (Gh.refl _) (hq _ ?_)
    repeat (first | refine chk.ga ?_ | simp -dsimp [h4, z6, ↓e7, ↓e9, h11, q12])
   ·have q12 : (v = true) := auq h11
    rw [if_pos q12] at hF
    have w13 : IntKind.i64.wrap ((i : Int) + 1) = (i : Int) + 1 := wrap_in (by omega) (by omega)
    repeat (first | refine chk.ga ?_ | simp -dsimp [h4, z6, ↓e7, ↓e9, h11, q12, w13])
    refine Again.go ⟨[(0, .arr (List.map Vl.Ty.c a)), (1, .arr (List.map Vl.Ty.c b)), (5, .lit (.int .i64 ((i + 1) : Int)))], []⟩ (Gh.to3 (by simp) (by first | simp -dsimp [h4, z6, ↓e7, ↓e9, h11, q12, w13]; done | simp_all)) ?_
    exact (ih_laws_eqTypeS_l1 (i + 1) o hF) _ rfl _ hq
  ·have q5 : ¬ (i < a.length) := auq h4
   have z6 : ¬ ((i : Int) < (a.length : Int)) := auz
   rw [if_neg q5] at hF
   cases hF
   repeat (first | refine chk.ga ?_ | simp -dsimp [h4, q5, z6])
   refine Leave.go ⟨[], []⟩ (Gh.to3 (by simp) (by first | simp -dsimp [h4, q5, z6]; done | simp_all)) ?_
   exact hq

theorem C.laws_eqTypeS_l1 (B : Nat) (hB1 : 67108864 ≤ B) (hB2 : B ≤ 9223372036854775807) (a : List Vl.Ty) (b : List Vl.Ty) (i : Nat) (o : Lo Bool Unit) (hF : F.laws_eqTypeS_l1 a b i = some o) : ∀ (c : Code), navO [1, 1, 0, 1, 0, 0] (bodyOf Try.f204) = some c → ∀ (Q : Exit → ASt → Prop), o.post (fun r => ∀ st, Post Try.prog Try.f204 (fun r' _ => r'.le (.lit (.bool r))) .ret st → Q .ret st) (fun s => Q (.exit 0) ⟨[], []⟩) → ALoopU Try.prog B 0 27 (hold c .mk) ⟨[(0, .arr (List.map Vl.Ty.c a)), (1, .arr (List.map Vl.Ty.c b)), (5, .lit (.int .i64 (i : Int)))], []⟩ (hold Q .mk) :=
 (CC.laws_eqTypeS_l1 B hB1 hB2 a b) i o hF

set_option maxRecDepth 100000 in
set_option maxHeartbeats 4000000 in
theorem C.laws_eqTypeS (B : Nat) (hB1 : 67108864 ≤ B) (hB2 : B ≤ 9223372036854775807) (a : List Vl.Ty) (b : List Vl.Ty) (r : Bool) (hF : F.laws_eqTypeS a b = some r) : PureCall Try.prog B 204 [.arr (List.map Vl.Ty.c a), .arr (List.map Vl.Ty.c b)] (.lit (.bool r)) := by
 unfold F.laws_eqTypeS at hF
 refine PureCall.enterLe Try.func204 (by kernel_rfl) rfl Try.ntmps204 (by simp) (by simp) ?_
 repeat (first | refine chk.ga ?_ | simp -dsimp)
 refine abr.split (fun h1 => ?_) (fun h1 => ?_)
 ·have q2 : ¬ (a.length = b.length) := auq h1
  have z3 : ¬ ((a.length : Int) = (b.length : Int)) := auz
  rw [if_neg q2] at hF
  cases hF
  repeat (first | refine chk.ga ?_ | simp -dsimp [h1, q2, z3])
  all_goals (try omega)
 ·have q2 : (a.length = b.length) := auq h1
  have z3 : ((a.length : Int) = (b.length : Int)) := auz
  rw [if_pos q2] at hF
  repeat (first | refine chk.ga ?_ | simp -dsimp [h1, q2, z3])
  have hF := ob hF; obtain ⟨o', ho14, hF⟩ := hF
  refine ALoop.goU ⟨[(0, .arr (List.map Vl.Ty.c a)), (1, .arr (List.map Vl.Ty.c b)), (5, .lit (.int .i64 (0 : Int)))], []⟩ (Gh.to3 (by simp) (by first | simp -dsimp [h1, q2, z3]; done | simp_all)) ?_
  refine (C.laws_eqTypeS_l1 B hB1 hB2 a b 0 o' ho14) _ rfl _ ?_
  rcases o' with r0 | sx
  ·dsimp only at hF
   cases hF
   intro st h
   simpa using h
  ·dsimp only at hF
   cases hF
   repeat (first | refine chk.ga ?_ | simp -dsimp)
   all_goals (try omega)

set_option maxRecDepth 100000 in
set_option maxHeartbeats 4000000 in
theorem C.laws_eqCtor (B : Nat) (hB1 : 67108864 ≤ B) (hB2 : B ≤ 9223372036854775807) (a : Vl.Ctor) (b : Vl.Ctor) (r : Bool) (hF : F.laws_eqCtor a b = some r) : PureCall Try.prog B 165 [.agg [.lit (.string a.name), .arr (List.map Vl.Ty.c a.args), .lit (.int .i64 a.index)], .agg [.lit (.string b.name), .arr (List.map Vl.Ty.c b.args), .lit (.int .i64 b.index)]] (.lit (.bool r)) := by
 unfold F.laws_eqCtor at hF
 refine PureCall.enterLe Try.func165 (by kernel_rfl) rfl Try.ntmps165 (by simp) (by simp) ?_
 repeat (first | refine chk.ga ?_ | simp -dsimp)
 refine abr.split (fun h1 => ?_) (fun h1 => ?_)
 ·have q2 : ¬ (a.name.toList = b.name.toList) := auq h1
  rw [if_neg q2] at hF
  cases hF
  repeat (first | refine chk.ga ?_ | simp -dsimp [h1, q2])
  all_goals (try omega)
 ·have q2 : (a.name.toList = b.name.toList) := auq h1
  rw [if_pos q2] at hF
  repeat (first | refine chk.ga ?_ | simp -dsimp [h1, q2])
  have hF := ob hF; obtain ⟨v, e3, hF⟩ := hF
  refine ((C.laws_eqTypeS B hB1 hB2 a.args b.args v e3)).goW (by first | simp [h1, q2]; done | simp_all) (by simp) ?_
  repeat (first | refine chk.ga ?_ | simp -dsimp [h1, q2])
  refine abr.split (fun h4 => ?_) (fun h4 => ?_)
  ·have q5 : ¬ (v = true) := auq h4
   rw [if_neg q5] at hF
   cases hF
   repeat (first | refine chk.ga ?_ | simp -dsimp [h1, q2, h4, q5])
   all_goals (try omega)
  ·have q5 : (v = true) := auq h4
   rw [if_pos q5] at hF
   repeat (first | refine chk.ga ?_ | simp -dsimp [h1, q2, h4, q5])
   refine abr.split (fun h6 => ?_) (fun h6 => ?_)
   ·have q7 : ¬ (a.index = b.index) := auq h6
    rw [if_neg q7] at hF
    cases hF
    repeat (first | refine chk.ga ?_ | simp -dsimp [h1, q2, h4, q5, h6, q7])
    all_goals (try omega)
   ·have q7 : (a.index = b.index) := auq h6
    rw [if_pos q7] at hF
    cases hF
    repeat (first | refine chk.ga ?_ | simp -dsimp [h1, q2, h4, q5, h6, q7])
    all_goals (try omega)

set_option maxRecDepth 100000 in
set_option maxHeartbeats 4000000 in
theorem CC.laws_eqCtorS_l1 (B : Nat) (hB1 : 67108864 ≤ B) (hB2 : B ≤ 9223372036854775807) (a : List Vl.Ctor) (b : List Vl.Ctor) : (∀ (i : Nat) (o : Lo Bool Unit), F.laws_eqCtorS_l1 a b i = some o → ∀ (c : Code), navO [1, 1, 0, 1, 0, 0] (bodyOf Try.f124) = some c → ∀ (Q : Exit → ASt → Prop), o.post (fun r => ∀ st, Post Try.prog Try.f124 (fun r' _ => r'.le (.lit (.bool r))) .ret st → Q .ret st) (fun s => Q (.exit 0) ⟨[], []⟩) → ALoopU Try.prog B 0 27 (hold c .mk) ⟨[(0, .arr (List.map Vl.Ctor.c a)), (1, .arr (List.map Vl.Ctor.c b)), (5, .lit (.int .i64 (i : Int)))], []⟩ (hold Q .mk)) := by
 refine F.laws_eqCtorS_l1.partial_correctness a b
  (fun i o => ∀ (c : Code), navO [1, 1, 0, 1, 0, 0] (bodyOf Try.f124) = some c → ∀ (Q : Exit → ASt → Prop), o.post (fun r => ∀ st, Post Try.prog Try.f124 (fun r' _ => r'.le (.lit (.bool r))) .ret st → Q .ret st) (fun s => Q (.exit 0) ⟨[], []⟩) → ALoopU Try.prog B 0 27 (hold c .mk) ⟨[(0, .arr (List.map Vl.Ctor.c a)), (1, .arr (List.map Vl.Ctor.c b)), (5, .lit (.int .i64 (i : Int)))], []⟩ (hold Q .mk))
  ?_
 ·intro _f_laws_eqCtorS_l1 ih_laws_eqCtorS_l1 i o hF
  intro c hc Q hq
  obtain rfl : c = _ := navEq hc rfl
  refine ALoopU.know fun hk hs => ?_
  have b0 := hk 0
  simp -dsimp at b0
  have b1 := hk 1
  simp -dsimp at b1
  clear hk hs
  refine ALoopU.enter ?_
  repeat (first | refine chk.ga ?_ | simp -dsimp)
  refine abr.split (fun h4 => ?_) (fun h4 => ?_)
  ·have q5 : (i < a.length) := auq h4
   have z6 : ((i : Int) < (a.length : Int)) := auz
   rw [if_pos q5] at hF
   repeat (first | refine chk.ga ?_ | simp -dsimp [h4, z6])
   refine ADraw.simple follows (by kernel_rfl) (by kernel_rfl) ?_
   have hF := ob hF; obtain ⟨x, e7, hF⟩ := hF
   have le7 := lt_of_get e7
   have hF := ob hF; obtain ⟨x8, e9, hF⟩ := hF
   have le9 := lt_of_get e9
   repeat (first | refine chk.ga ?_ | simp -dsimp [h4, z6, ↓e7, ↓e9])
   have hF := ob hF; obtain ⟨v, e10, hF⟩ := hF
   refine ((C.laws_eqCtor B hB1 hB2 x x8 v e10)).pgoW (by first | simp [h4, z6, ↓e7, ↓e9]; done | simp_all) (by simp) ?_
   repeat (first | refine chk.ga ?_ | simp -dsimp [h4, z6, ↓e7, ↓e9])
   refine abr.split (fun h11 => ?_) (fun h11 => ?_)
   ·have q12 : ¬ (v = true) := auq h11
    rw [if_neg q12] at hF
    cases hF
    repeat (first | refine chk.ga ?_ | simp -dsimp [h4, z6, ↓e7, ↓e9, h11, q12])
    refine Leave.go _ (Gh.refl _) (hq _ ?_)
    repeat (first | refine chk.ga ?_ | simp -dsimp [h4, z6, ↓e7, ↓e9, h11, q12])
   ·have q12 : (v = true) := auq h11
    rw [if_pos q12] at hF
    have w13 : IntKind.i64.wrap ((i : Int) + 1) = (i : Int) + 1 := wrap_in (by omega) (by omega)
    repeat (first | refine chk.ga ?_ | simp -dsimp [h4, z6, ↓e7, ↓e9, h11, q12, w13])
    refine Again.go ⟨[(0, .arr (List.map Vl.Ctor.c a)), (1, .arr (List.map Vl.Ctor.c b)), (5, .lit (.int .i64 ((i + 1) : Int)))], []⟩ (Gh.to3 (by simp) (by first | simp -dsimp [h4, z6, ↓e7, ↓e9, h11, q12, w13]; done | simp_all)) ?_
    exact (ih_laws_eqCtorS_l1 (i + 1) o hF) _ rfl _ hq
  ·have q5 : ¬ (i < a.length) := auq h4
   have z6 : ¬ ((i : Int) < (a.length : Int)) := auz
   rw [if_neg q5] at hF
   cases hF
   repeat (first | refine chk.ga ?_ | simp -dsimp [h4, q5, z6])
   refine Leave.go ⟨[], []⟩ (Gh.to3 (by simp) (by first | simp -dsimp [h4, q5, z6]; done | simp_all)) ?_
   exact hq

theorem C.laws_eqCtorS_l1 (B : Nat) (hB1 : 67108864 ≤ B) (hB2 : B ≤ 9223372036854775807) (a : List Vl.Ctor) (b : List Vl.Ctor) (i : Nat) (o : Lo Bool Unit) (hF : F.laws_eqCtorS_l1 a b i = some o) : ∀ (c : Code), navO [1, 1, 0, 1, 0, 0] (bodyOf Try.f124) = some c → ∀ (Q : Exit → ASt → Prop), o.post (fun r => ∀ st, Post Try.prog Try.f124 (fun r' _ => r'.le (.lit (.bool r))) .ret st → Q .ret st) (fun s => Q (.exit 0) ⟨[], []⟩) → ALoopU Try.prog B 0 27 (hold c .mk) ⟨[(0, .arr (List.map Vl.Ctor.c a)), (1, .arr (List.map Vl.Ctor.c b)), (5, .lit (.int .i64 (i : Int)))], []⟩ (hold Q .mk) :=
 (CC.laws_eqCtorS_l1 B hB1 hB2 a b) i o hF

set_option maxRecDepth 100000 in
set_option maxHeartbeats 4000000 in
theorem C.laws_eqCtorS (B : Nat) (hB1 : 67108864 ≤ B) (hB2 : B ≤ 9223372036854775807) (a : List Vl.Ctor) (b : List Vl.Ctor) (r : Bool) (hF : F.laws_eqCtorS a b = some r) : PureCall Try.prog B 124 [.arr (List.map Vl.Ctor.c a), .arr (List.map Vl.Ctor.c b)] (.lit (.bool r)) := by
 unfold F.laws_eqCtorS at hF
 refine PureCall.enterLe Try.func124 (by kernel_rfl) rfl Try.ntmps124 (by simp) (by simp) ?_
 repeat (first | refine chk.ga ?_ | simp -dsimp)
 refine abr.split (fun h1 => ?_) (fun h1 => ?_)
 ·have q2 : ¬ (a.length = b.length) := auq h1
  have z3 : ¬ ((a.length : Int) = (b.length : Int)) := auz
  rw [if_neg q2] at hF
  cases hF
  repeat (first | refine chk.ga ?_ | simp -dsimp [h1, q2, z3])
  all_goals (try omega)
 ·have q2 : (a.length = b.length) := auq h1
  have z3 : ((a.length : Int) = (b.length : Int)) := auz
  rw [if_pos q2] at hF
  repeat (first | refine chk.ga ?_ | simp -dsimp [h1, q2, z3])
  have hF := ob hF; obtain ⟨o', ho14, hF⟩ := hF
  refine ALoop.goU ⟨[(0, .arr (List.map Vl.Ctor.c a)), (1, .arr (List.map Vl.Ctor.c b)), (5, .lit (.int .i64 (0 : Int)))], []⟩ (Gh.to3 (by simp) (by first | simp -dsimp [h1, q2, z3]; done | simp_all)) ?_
  refine (C.laws_eqCtorS_l1 B hB1 hB2 a b 0 o' ho14) _ rfl _ ?_
  rcases o' with r0 | sx
  ·dsimp only at hF
   cases hF
   intro st h
   simpa using h
  ·dsimp only at hF
   cases hF
   repeat (first | refine chk.ga ?_ | simp -dsimp)
   all_goals (try omega)

set_option maxRecDepth 100000 in
set_option maxHeartbeats 4000000 in
theorem C.laws_eqData (B : Nat) (hB1 : 67108864 ≤ B) (hB2 : B ≤ 9223372036854775807) (a : Vl.Data) (b : Vl.Data) (r : Bool) (hF : F.laws_eqData a b = some r) : PureCall Try.prog B 63 [.agg [.lit (.string a.name), .arr (List.map Vl.Ctor.c a.ctors)], .agg [.lit (.string b.name), .arr (List.map Vl.Ctor.c b.ctors)]] (.lit (.bool r)) := by
 unfold F.laws_eqData at hF
 refine PureCall.enterLe Try.func63 (by kernel_rfl) rfl Try.ntmps63 (by simp) (by simp) ?_
 repeat (first | refine chk.ga ?_ | simp -dsimp)
 refine abr.split (fun h1 => ?_) (fun h1 => ?_)
 ·have q2 : ¬ (a.name.toList = b.name.toList) := auq h1
  rw [if_neg q2] at hF
  cases hF
  repeat (first | refine chk.ga ?_ | simp -dsimp [h1, q2])
  all_goals (try omega)
 ·have q2 : (a.name.toList = b.name.toList) := auq h1
  rw [if_pos q2] at hF
  repeat (first | refine chk.ga ?_ | simp -dsimp [h1, q2])
  have hF := ob hF; obtain ⟨v, e3, hF⟩ := hF
  refine ((C.laws_eqCtorS B hB1 hB2 a.ctors b.ctors v e3)).goW (by first | simp [h1, q2]; done | simp_all) (by simp) ?_
  repeat (first | refine chk.ga ?_ | simp -dsimp [h1, q2])
  refine abr.split (fun h4 => ?_) (fun h4 => ?_)
  ·have q5 : ¬ (v = true) := auq h4
   rw [if_neg q5] at hF
   cases hF
   repeat (first | refine chk.ga ?_ | simp -dsimp [h1, q2, h4, q5])
   all_goals (try omega)
  ·have q5 : (v = true) := auq h4
   rw [if_pos q5] at hF
   cases hF
   repeat (first | refine chk.ga ?_ | simp -dsimp [h1, q2, h4, q5])
   all_goals (try omega)

set_option maxRecDepth 100000 in
set_option maxHeartbeats 4000000 in
theorem CC.laws_eqDataS_l1 (B : Nat) (hB1 : 67108864 ≤ B) (hB2 : B ≤ 9223372036854775807) (a : List Vl.Data) (b : List Vl.Data) : (∀ (i : Nat) (o : Lo Bool Unit), F.laws_eqDataS_l1 a b i = some o → ∀ (c : Code), navO [1, 1, 0, 1, 0, 0] (bodyOf Try.f20) = some c → ∀ (Q : Exit → ASt → Prop), o.post (fun r => ∀ st, Post Try.prog Try.f20 (fun r' _ => r'.le (.lit (.bool r))) .ret st → Q .ret st) (fun s => Q (.exit 0) ⟨[], []⟩) → ALoopU Try.prog B 0 27 (hold c .mk) ⟨[(0, .arr (List.map Vl.Data.c a)), (1, .arr (List.map Vl.Data.c b)), (5, .lit (.int .i64 (i : Int)))], []⟩ (hold Q .mk)) := by
 refine F.laws_eqDataS_l1.partial_correctness a b
  (fun i o => ∀ (c : Code), navO [1, 1, 0, 1, 0, 0] (bodyOf Try.f20) = some c → ∀ (Q : Exit → ASt → Prop), o.post (fun r => ∀ st, Post Try.prog Try.f20 (fun r' _ => r'.le (.lit (.bool r))) .ret st → Q .ret st) (fun s => Q (.exit 0) ⟨[], []⟩) → ALoopU Try.prog B 0 27 (hold c .mk) ⟨[(0, .arr (List.map Vl.Data.c a)), (1, .arr (List.map Vl.Data.c b)), (5, .lit (.int .i64 (i : Int)))], []⟩ (hold Q .mk))
  ?_
 ·intro _f_laws_eqDataS_l1 ih_laws_eqDataS_l1 i o hF
  intro c hc Q hq
  obtain rfl : c = _ := navEq hc rfl
  refine ALoopU.know fun hk hs => ?_
  have b0 := hk 0
  simp -dsimp at b0
  have b1 := hk 1
  simp -dsimp at b1
  clear hk hs
  refine ALoopU.enter ?_
  repeat (first | refine chk.ga ?_ | simp -dsimp)
  refine abr.split (fun h4 => ?_) (fun h4 => ?_)
  ·have q5 : (i < a.length) := auq h4
   have z6 : ((i : Int) < (a.length : Int)) := auz
   rw [if_pos q5] at hF
   repeat (first | refine chk.ga ?_ | simp -dsimp [h4, z6])
   refine ADraw.simple follows (by kernel_rfl) (by kernel_rfl) ?_
   have hF := ob hF; obtain ⟨x, e7, hF⟩ := hF
   have le7 := lt_of_get e7
   have hF := ob hF; obtain ⟨x8, e9, hF⟩ := hF
   have le9 := lt_of_get e9
   repeat (first | refine chk.ga ?_ | simp -dsimp [h4, z6, ↓e7, ↓e9])
   have hF := ob hF; obtain ⟨v, e10, hF⟩ := hF
   refine ((C.laws_eqData B hB1 hB2 x x8 v e10)).pgoW (by first | simp [h4, z6, ↓e7, ↓e9]; done | simp_all) (by simp) ?_
   repeat (first | refine chk.ga ?_ | simp -dsimp [h4, z6, ↓e7, ↓e9])
   refine abr.split (fun h11 => ?_) (fun h11 => ?_)
   ·have q12 : ¬ (v = true) := auq h11
    rw [if_neg q12] at hF
    cases hF
    repeat (first | refine chk.ga ?_ | simp -dsimp [h4, z6, ↓e7, ↓e9, h11, q12])
    refine Leave.go _ (Gh.refl _) (hq _ ?_)
    repeat (first | refine chk.ga ?_ | simp -dsimp [h4, z6, ↓e7, ↓e9, h11, q12])
   ·have q12 : (v = true) := auq h11
    rw [if_pos q12] at hF
    have w13 : IntKind.i64.wrap ((i : Int) + 1) = (i : Int) + 1 := wrap_in (by omega) (by omega)
    repeat (first | refine chk.ga ?_ | simp -dsimp [h4, z6, ↓e7, ↓e9, h11, q12, w13])
    refine Again.go ⟨[(0, .arr (List.map Vl.Data.c a)), (1, .arr (List.map Vl.Data.c b)), (5, .lit (.int .i64 ((i + 1) : Int)))], []⟩ (Gh.to3 (by simp) (by first | simp -dsimp [h4, z6, ↓e7, ↓e9, h11, q12, w13]; done | simp_all)) ?_
    exact (ih_laws_eqDataS_l1 (i + 1) o hF) _ rfl _ hq
  ·have q5 : ¬ (i < a.length) := auq h4
   have z6 : ¬ ((i : Int) < (a.length : Int)) := auz
   rw [if_neg q5] at hF
   cases hF
   repeat (first | refine chk.ga ?_ | simp -dsimp [h4, q5, z6])
   refine Leave.go ⟨[], []⟩ (Gh.to3 (by simp) (by first | simp -dsimp [h4, q5, z6]; done | simp_all)) ?_
   exact hq

theorem C.laws_eqDataS_l1 (B : Nat) (hB1 : 67108864 ≤ B) (hB2 : B ≤ 9223372036854775807) (a : List Vl.Data) (b : List Vl.Data) (i : Nat) (o : Lo Bool Unit) (hF : F.laws_eqDataS_l1 a b i = some o) : ∀ (c : Code), navO [1, 1, 0, 1, 0, 0] (bodyOf Try.f20) = some c → ∀ (Q : Exit → ASt → Prop), o.post (fun r => ∀ st, Post Try.prog Try.f20 (fun r' _ => r'.le (.lit (.bool r))) .ret st → Q .ret st) (fun s => Q (.exit 0) ⟨[], []⟩) → ALoopU Try.prog B 0 27 (hold c .mk) ⟨[(0, .arr (List.map Vl.Data.c a)), (1, .arr (List.map Vl.Data.c b)), (5, .lit (.int .i64 (i : Int)))], []⟩ (hold Q .mk) :=
 (CC.laws_eqDataS_l1 B hB1 hB2 a b) i o hF

set_option maxRecDepth 100000 in
set_option maxHeartbeats 4000000 in
theorem C.laws_eqDataS (B : Nat) (hB1 : 67108864 ≤ B) (hB2 : B ≤ 9223372036854775807) (a : List Vl.Data) (b : List Vl.Data) (r : Bool) (hF : F.laws_eqDataS a b = some r) : PureCall Try.prog B 20 [.arr (List.map Vl.Data.c a), .arr (List.map Vl.Data.c b)] (.lit (.bool r)) := by
 unfold F.laws_eqDataS at hF
 refine PureCall.enterLe Try.func20 (by kernel_rfl) rfl Try.ntmps20 (by simp) (by simp) ?_
 repeat (first | refine chk.ga ?_ | simp -dsimp)
 refine abr.split (fun h1 => ?_) (fun h1 => ?_)
 ·have q2 : ¬ (a.length = b.length) := auq h1
  have z3 : ¬ ((a.length : Int) = (b.length : Int)) := auz
  rw [if_neg q2] at hF
  cases hF
  repeat (first | refine chk.ga ?_ | simp -dsimp [h1, q2, z3])
  all_goals (try omega)
 ·have q2 : (a.length = b.length) := auq h1
  have z3 : ((a.length : Int) = (b.length : Int)) := auz
  rw [if_pos q2] at hF
  repeat (first | refine chk.ga ?_ | simp -dsimp [h1, q2, z3])
  have hF := ob hF; obtain ⟨o', ho14, hF⟩ := hF
  refine ALoop.goU ⟨[(0, .arr (List.map Vl.Data.c a)), (1, .arr (List.map Vl.Data.c b)), (5, .lit (.int .i64 (0 : Int)))], []⟩ (Gh.to3 (by simp) (by first | simp -dsimp [h1, q2, z3]; done | simp_all)) ?_
  refine (C.laws_eqDataS_l1 B hB1 hB2 a b 0 o' ho14) _ rfl _ ?_
  rcases o' with r0 | sx
  ·dsimp only at hF
   cases hF
   intro st h
   simpa using h
  ·dsimp only at hF
   cases hF
   repeat (first | refine chk.ga ?_ | simp -dsimp)
   all_goals (try omega)

set_option maxRecDepth 100000 in
set_option maxHeartbeats 4000000 in
theorem CC.laws_eqValue (B : Nat) (hB1 : 67108864 ≤ B) (hB2 : B ≤ 9223372036854775807)  : (∀ (a : Vl.Value) (b : Vl.Value) (r : Bool), F.laws_eqValue a b = some r → PureCall Try.prog B 40 [.agg [.lit (.int .i64 a.ctor), .lit (.int .i64 a.n), .arr (List.map Vl.Value.c a.kids)], .agg [.lit (.int .i64 b.ctor), .lit (.int .i64 b.n), .arr (List.map Vl.Value.c b.kids)]] (.lit (.bool r))) ∧
  (∀ (a : List Vl.Value) (b : List Vl.Value) (r : Bool), F.laws_eqValueS a b = some r → PureCall Try.prog B 97 [.arr (List.map Vl.Value.c a), .arr (List.map Vl.Value.c b)] (.lit (.bool r))) ∧
  (∀ (a : List Vl.Value) (b : List Vl.Value) (i : Nat) (o : Lo Bool Unit), F.laws_eqValueS_l1 a b i = some o → ∀ (c : Code), navO [1, 1, 0, 1, 0, 0] (bodyOf Try.f97) = some c → ∀ (Q : Exit → ASt → Prop), o.post (fun r => ∀ st, Post Try.prog Try.f97 (fun r' _ => r'.le (.lit (.bool r))) .ret st → Q .ret st) (fun s => Q (.exit 0) ⟨[], []⟩) → ALoopU Try.prog B 0 27 (hold c .mk) ⟨[(0, .arr (List.map Vl.Value.c a)), (1, .arr (List.map Vl.Value.c b)), (5, .lit (.int .i64 (i : Int)))], []⟩ (hold Q .mk)) := by
 refine F.laws_eqValue.mutual_partial_correctness 
  (fun a b r => PureCall Try.prog B 40 [.agg [.lit (.int .i64 a.ctor), .lit (.int .i64 a.n), .arr (List.map Vl.Value.c a.kids)], .agg [.lit (.int .i64 b.ctor), .lit (.int .i64 b.n), .arr (List.map Vl.Value.c b.kids)]] (.lit (.bool r)))
  (fun a b r => PureCall Try.prog B 97 [.arr (List.map Vl.Value.c a), .arr (List.map Vl.Value.c b)] (.lit (.bool r)))
  (fun a b i o => ∀ (c : Code), navO [1, 1, 0, 1, 0, 0] (bodyOf Try.f97) = some c → ∀ (Q : Exit → ASt → Prop), o.post (fun r => ∀ st, Post Try.prog Try.f97 (fun r' _ => r'.le (.lit (.bool r))) .ret st → Q .ret st) (fun s => Q (.exit 0) ⟨[], []⟩) → ALoopU Try.prog B 0 27 (hold c .mk) ⟨[(0, .arr (List.map Vl.Value.c a)), (1, .arr (List.map Vl.Value.c b)), (5, .lit (.int .i64 (i : Int)))], []⟩ (hold Q .mk))
  ?_ ?_ ?_
 ·intro _f_laws_eqValueS ih_laws_eqValueS a b r hF
  refine PureCall.enterLe Try.func40 (by kernel_rfl) rfl Try.ntmps40 (by simp) (by simp) ?_
  repeat (first | refine chk.ga ?_ | simp -dsimp)
  refine abr.split (fun h1 => ?_) (fun h1 => ?_)
  ·have q2 : ¬ (a.ctor = b.ctor) := auq h1
   rw [if_neg q2] at hF
   cases hF
   repeat (first | refine chk.ga ?_ | simp -dsimp [h1, q2])
   all_goals (try omega)
  ·have q2 : (a.ctor = b.ctor) := auq h1
   rw [if_pos q2] at hF
   repeat (first | refine chk.ga ?_ | simp -dsimp [h1, q2])
   refine abr.split (fun h3 => ?_) (fun h3 => ?_)
   ·have q4 : ¬ (a.n = b.n) := auq h3
    rw [if_neg q4] at hF
    cases hF
    repeat (first | refine chk.ga ?_ | simp -dsimp [h1, q2, h3, q4])
    all_goals (try omega)
   ·have q4 : (a.n = b.n) := auq h3
    rw [if_pos q4] at hF
    repeat (first | refine chk.ga ?_ | simp -dsimp [h1, q2, h3, q4])
    have hF := ob hF; obtain ⟨v, e5, hF⟩ := hF
    refine ((ih_laws_eqValueS a.kids b.kids v e5)).goW (by first | simp [h1, q2, h3, q4]; done | simp_all) (by simp) ?_
    repeat (first | refine chk.ga ?_ | simp -dsimp [h1, q2, h3, q4])
    refine abr.split (fun h6 => ?_) (fun h6 => ?_)
    ·have q7 : ¬ (v = true) := auq h6
     rw [if_neg q7] at hF
     cases hF
     repeat (first | refine chk.ga ?_ | simp -dsimp [h1, q2, h3, q4, h6, q7])
     all_goals (try omega)
    ·have q7 : (v = true) := auq h6
     rw [if_pos q7] at hF
     cases hF
     repeat (first | refine chk.ga ?_ | simp -dsimp [h1, q2, h3, q4, h6, q7])
     all_goals (try omega)
 ·intro _f_laws_eqValueS_l1 ih_laws_eqValueS_l1 a b r hF
  refine PureCall.enterLe Try.func97 (by kernel_rfl) rfl Try.ntmps97 (by simp) (by simp) ?_
  repeat (first | refine chk.ga ?_ | simp -dsimp)
  refine abr.split (fun h1 => ?_) (fun h1 => ?_)
  ·have q2 : ¬ (a.length = b.length) := auq h1
   have z3 : ¬ ((a.length : Int) = (b.length : Int)) := auz
   rw [if_neg q2] at hF
   cases hF
   repeat (first | refine chk.ga ?_ | simp -dsimp [h1, q2, z3])
   all_goals (try omega)
  ·have q2 : (a.length = b.length) := auq h1
   have z3 : ((a.length : Int) = (b.length : Int)) := auz
   rw [if_pos q2] at hF
   repeat (first | refine chk.ga ?_ | simp -dsimp [h1, q2, z3])
   have hF := ob hF; obtain ⟨o', ho14, hF⟩ := hF
   refine ALoop.goU ⟨[(0, .arr (List.map Vl.Value.c a)), (1, .arr (List.map Vl.Value.c b)), (5, .lit (.int .i64 (0 : Int)))], []⟩ (Gh.to3 (by simp) (by first | simp -dsimp [h1, q2, z3]; done | simp_all)) ?_
   refine (ih_laws_eqValueS_l1 a b 0 o' ho14) _ rfl _ ?_
   rcases o' with r0 | sx
   ·dsimp only at hF
    cases hF
    intro st h
    simpa using h
   ·dsimp only at hF
    cases hF
    repeat (first | refine chk.ga ?_ | simp -dsimp)
    all_goals (try omega)
 ·intro _f_laws_eqValue _f_laws_eqValueS_l1 ih_laws_eqValue ih_laws_eqValueS_l1 a b i o hF
  intro c hc Q hq
  obtain rfl : c = _ := navEq hc rfl
  refine ALoopU.know fun hk hs => ?_
  have b0 := hk 0
  simp -dsimp at b0
  have b1 := hk 1
  simp -dsimp at b1
  clear hk hs
  refine ALoopU.enter ?_
  repeat (first | refine chk.ga ?_ | simp -dsimp)
  refine abr.split (fun h4 => ?_) (fun h4 => ?_)
  ·have q5 : (i < a.length) := auq h4
   have z6 : ((i : Int) < (a.length : Int)) := auz
   rw [if_pos q5] at hF
   repeat (first | refine chk.ga ?_ | simp -dsimp [h4, z6])
   refine ADraw.simple follows (by kernel_rfl) (by kernel_rfl) ?_
   have hF := ob hF; obtain ⟨x, e7, hF⟩ := hF
   have le7 := lt_of_get e7
   have hF := ob hF; obtain ⟨x8, e9, hF⟩ := hF
   have le9 := lt_of_get e9
   repeat (first | refine chk.ga ?_ | simp -dsimp [h4, z6, ↓e7, ↓e9])
   have hF := ob hF; obtain ⟨v, e10, hF⟩ := hF
   refine ((ih_laws_eqValue x x8 v e10)).pgoW (by first | simp [h4, z6, ↓e7, ↓e9]; done | simp_all) (by simp) ?_
   repeat (first | refine chk.ga ?_ | simp -dsimp [h4, z6, ↓e7, ↓e9])
   refine abr.split (fun h11 => ?_) (fun h11 => ?_)
   ·have q12 : ¬ (v = true) := auq h11
    rw [if_neg q12] at hF
    cases hF
    repeat (first | refine chk.ga ?_ | simp -dsimp [h4, z6, ↓e7, ↓e9, h11, q12])
    refine Leave.go _ (Gh.refl _) (hq _ ?_)
    repeat (first | refine chk.ga ?_ | simp -dsimp [h4, z6, ↓e7, ↓e9, h11, q12])
   ·have q12 : (v = true) := auq h11
    rw [if_pos q12] at hF
    have w13 : IntKind.i64.wrap ((i : Int) + 1) = (i : Int) + 1 := wrap_in (by omega) (by omega)
    repeat (first | refine chk.ga ?_ | simp -dsimp [h4, z6, ↓e7, ↓e9, h11, q12, w13])
    refine Again.go ⟨[(0, .arr (List.map Vl.Value.c a)), (1, .arr (List.map Vl.Value.c b)), (5, .lit (.int .i64 ((i + 1) : Int)))], []⟩ (Gh.to3 (by simp) (by first | simp -dsimp [h4, z6, ↓e7, ↓e9, h11, q12, w13]; done | simp_all)) ?_
    exact (ih_laws_eqValueS_l1 a b (i + 1) o hF) _ rfl _ hq
  ·have q5 : ¬ (i < a.length) := auq h4
   have z6 : ¬ ((i : Int) < (a.length : Int)) := auz
   rw [if_neg q5] at hF
   cases hF
   repeat (first | refine chk.ga ?_ | simp -dsimp [h4, q5, z6])
   refine Leave.go ⟨[], []⟩ (Gh.to3 (by simp) (by first | simp -dsimp [h4, q5, z6]; done | simp_all)) ?_
   exact hq

theorem C.laws_eqValue (B : Nat) (hB1 : 67108864 ≤ B) (hB2 : B ≤ 9223372036854775807) (a : Vl.Value) (b : Vl.Value) (r : Bool) (hF : F.laws_eqValue a b = some r) : PureCall Try.prog B 40 [.agg [.lit (.int .i64 a.ctor), .lit (.int .i64 a.n), .arr (List.map Vl.Value.c a.kids)], .agg [.lit (.int .i64 b.ctor), .lit (.int .i64 b.n), .arr (List.map Vl.Value.c b.kids)]] (.lit (.bool r)) :=
 (CC.laws_eqValue B hB1 hB2 ).1 a b r hF

theorem C.laws_eqValueS (B : Nat) (hB1 : 67108864 ≤ B) (hB2 : B ≤ 9223372036854775807) (a : List Vl.Value) (b : List Vl.Value) (r : Bool) (hF : F.laws_eqValueS a b = some r) : PureCall Try.prog B 97 [.arr (List.map Vl.Value.c a), .arr (List.map Vl.Value.c b)] (.lit (.bool r)) :=
 (CC.laws_eqValue B hB1 hB2 ).2.1 a b r hF

theorem C.laws_eqValueS_l1 (B : Nat) (hB1 : 67108864 ≤ B) (hB2 : B ≤ 9223372036854775807) (a : List Vl.Value) (b : List Vl.Value) (i : Nat) (o : Lo Bool Unit) (hF : F.laws_eqValueS_l1 a b i = some o) : ∀ (c : Code), navO [1, 1, 0, 1, 0, 0] (bodyOf Try.f97) = some c → ∀ (Q : Exit → ASt → Prop), o.post (fun r => ∀ st, Post Try.prog Try.f97 (fun r' _ => r'.le (.lit (.bool r))) .ret st → Q .ret st) (fun s => Q (.exit 0) ⟨[], []⟩) → ALoopU Try.prog B 0 27 (hold c .mk) ⟨[(0, .arr (List.map Vl.Value.c a)), (1, .arr (List.map Vl.Value.c b)), (5, .lit (.int .i64 (i : Int)))], []⟩ (hold Q .mk) :=
 (CC.laws_eqValue B hB1 hB2 ).2.2 a b i o hF

set_option maxRecDepth 100000 in
set_option maxHeartbeats 4000000 in
theorem CC.laws_heldExprS (B : Nat) (hB1 : 67108864 ≤ B) (hB2 : B ≤ 9223372036854775807)  : (∀ (a : List Vl.Expr) (k : Int) (r : Int), F.laws_heldExprS a k = some r → PureCall Try.prog B 102 [.arr (List.map Vl.Expr.c a), .lit (.int .i64 k)] (.lit (.int .i64 r))) ∧
  (∀ (a : List Vl.Expr) (k1 : Int) (i : Nat) (o : Lo Int Int), F.laws_heldExprS_l1 a k1 i = some o → ∀ (c : Code), navO [1, 0, 1, 0, 0] (bodyOf Try.f102) = some c → ∀ (Q : Exit → ASt → Prop), o.post (fun r => ∀ st, Post Try.prog Try.f102 (fun r' _ => r'.le (.lit (.int .i64 r))) .ret st → Q .ret st) (fun s => Q (.exit 0) ⟨[(1, .lit (.int .i64 s))], []⟩) → ALoopU Try.prog B 0 49 (hold c .mk) ⟨[(0, .arr (List.map Vl.Expr.c a)), (1, .lit (.int .i64 k1)), (5, .lit (.int .i64 (i : Int)))], []⟩ (hold Q .mk)) := by
 refine F.laws_heldExprS.mutual_partial_correctness 
  (fun a k r => PureCall Try.prog B 102 [.arr (List.map Vl.Expr.c a), .lit (.int .i64 k)] (.lit (.int .i64 r)))
  (fun a k1 i o => ∀ (c : Code), navO [1, 0, 1, 0, 0] (bodyOf Try.f102) = some c → ∀ (Q : Exit → ASt → Prop), o.post (fun r => ∀ st, Post Try.prog Try.f102 (fun r' _ => r'.le (.lit (.int .i64 r))) .ret st → Q .ret st) (fun s => Q (.exit 0) ⟨[(1, .lit (.int .i64 s))], []⟩) → ALoopU Try.prog B 0 49 (hold c .mk) ⟨[(0, .arr (List.map Vl.Expr.c a)), (1, .lit (.int .i64 k1)), (5, .lit (.int .i64 (i : Int)))], []⟩ (hold Q .mk))
  ?_ ?_
 ·intro _f_laws_heldExprS_l1 ih_laws_heldExprS_l1 a k r hF
  refine PureCall.enterLe Try.func102 (by kernel_rfl) rfl Try.ntmps102 (by simp) (by simp) ?_
  repeat (first | refine chk.ga ?_ | simp -dsimp)
  have hF := ob hF; obtain ⟨o', ho16, hF⟩ := hF
  refine ALoop.goU ⟨[(0, .arr (List.map Vl.Expr.c a)), (1, .lit (.int .i64 k)), (5, .lit (.int .i64 (0 : Int)))], []⟩ (Gh.to3 (by simp) (by simp -dsimp)) ?_
  refine (ih_laws_heldExprS_l1 a k 0 o' ho16) _ rfl _ ?_
  rcases o' with r0 | sx
  ·dsimp only at hF
   cases hF
   intro st h
   simpa using h
  ·dsimp only at hF
   cases hF
   repeat (first | refine chk.ga ?_ | simp -dsimp)
   all_goals (try omega)
 ·intro _f_laws_heldExprS _f_laws_heldExprS_l1 ih_laws_heldExprS ih_laws_heldExprS_l1 a k1 i o hF
  intro c hc Q hq
  obtain rfl : c = _ := navEq hc rfl
  refine ALoopU.know fun hk hs => ?_
  have b0 := hk 0
  simp -dsimp at b0
  clear hk hs
  refine ALoopU.enter ?_
  repeat (first | refine chk.ga ?_ | simp -dsimp)
  refine abr.split (fun h2 => ?_) (fun h2 => ?_)
  ·have q3 : (i < a.length) := auq h2
   have z4 : ((i : Int) < (a.length : Int)) := auz
   rw [if_pos q3] at hF
   have hF := ob hF; obtain ⟨x, e5, hF⟩ := hF
   have le5 := lt_of_get e5
   repeat (first | refine chk.ga ?_ | simp -dsimp [h2, z4, ↓e5])
   refine abr.split (fun h6 => ?_) (fun h6 => ?_)
   ·have q7 : ¬ (x.op = k1) := auq h6
    rw [if_neg q7] at hF
    cases hF
    repeat (first | refine chk.ga ?_ | simp -dsimp [h2, z4, ↓e5, h6, q7])
    refine Leave.go _ (Gh.refl _) (hq _ ?_)
    repeat (first | refine chk.ga ?_ | simp -dsimp [h2, z4, ↓e5, h6, q7])
   ·have q7 : (x.op = k1) := auq h6
    rw [if_pos q7] at hF
    repeat (first | refine chk.ga ?_ | simp -dsimp [h2, z4, ↓e5, h6, q7])
    refine abr.split (fun h8 => ?_) (fun h8 => ?_)
    ·have q9 : ¬ (x.n = IntKind.i64.wrap (k1 + 1)) := auq h8
     rw [if_neg q9] at hF
     cases hF
     repeat (first | refine chk.ga ?_ | simp -dsimp [h2, z4, ↓e5, h6, q7, h8, q9])
     refine Leave.go _ (Gh.refl _) (hq _ ?_)
     repeat (first | refine chk.ga ?_ | simp -dsimp [h2, z4, ↓e5, h6, q7, h8, q9])
    ·have q9 : (x.n = IntKind.i64.wrap (k1 + 1)) := auq h8
     rw [if_pos q9] at hF
     repeat (first | refine chk.ga ?_ | simp -dsimp [h2, z4, ↓e5, h6, q7, h8, q9])
     refine abr.split (fun h10 => ?_) (fun h10 => ?_)
     ·have q11 : ¬ (x.ctor = IntKind.i64.wrap (IntKind.i64.wrap (k1 + 1) + 1)) := auq h10
      rw [if_neg q11] at hF
      cases hF
      repeat (first | refine chk.ga ?_ | simp -dsimp [h2, z4, ↓e5, h6, q7, h8, q9, h10, q11])
      refine Leave.go _ (Gh.refl _) (hq _ ?_)
      repeat (first | refine chk.ga ?_ | simp -dsimp [h2, z4, ↓e5, h6, q7, h8, q9, h10, q11])
     ·have q11 : (x.ctor = IntKind.i64.wrap (IntKind.i64.wrap (k1 + 1) + 1)) := auq h10
      rw [if_pos q11] at hF
      repeat (first | refine chk.ga ?_ | simp -dsimp [h2, z4, ↓e5, h6, q7, h8, q9, h10, q11])
      have hF := ob hF; obtain ⟨v, e12, hF⟩ := hF
      refine ((ih_laws_heldExprS x.kids (IntKind.i64.wrap (IntKind.i64.wrap (IntKind.i64.wrap (k1 + 1) + 1) + 1)) v e12)).goW (by first | simp [h2, z4, ↓e5, h6, q7, h8, q9, h10, q11]; done | simp_all) (by simp) ?_
      repeat (first | refine chk.ga ?_ | simp -dsimp [h2, z4, ↓e5, h6, q7, h8, q9, h10, q11])
      refine abr.split (fun h13 => ?_) (fun h13 => ?_)
      ·have q14 : (v < 0) := auq h13
       rw [if_pos q14] at hF
       cases hF
       repeat (first | refine chk.ga ?_ | simp -dsimp [h2, z4, ↓e5, h6, q7, h8, q9, h10, q11, h13])
       refine Leave.go _ (Gh.refl _) (hq _ ?_)
       repeat (first | refine chk.ga ?_ | simp -dsimp [h2, z4, ↓e5, h6, q7, h8, q9, h10, q11, h13])
      ·have q14 : ¬ (v < 0) := auq h13
       rw [if_neg q14] at hF
       have w15 : IntKind.i64.wrap ((i : Int) + 1) = (i : Int) + 1 := wrap_in (by omega) (by omega)
       repeat (first | refine chk.ga ?_ | simp -dsimp [h2, z4, ↓e5, h6, q7, h8, q9, h10, q11, h13, q14, w15])
       refine Again.go ⟨[(0, .arr (List.map Vl.Expr.c a)), (1, .lit (.int .i64 v)), (5, .lit (.int .i64 ((i + 1) : Int)))], []⟩ (Gh.to3 (by simp) (by first | simp -dsimp [h2, z4, ↓e5, h6, q7, h8, q9, h10, q11, h13, q14, w15]; done | simp_all)) ?_
       exact (ih_laws_heldExprS_l1 a v (i + 1) o hF) _ rfl _ hq
  ·have q3 : ¬ (i < a.length) := auq h2
   have z4 : ¬ ((i : Int) < (a.length : Int)) := auz
   rw [if_neg q3] at hF
   cases hF
   repeat (first | refine chk.ga ?_ | simp -dsimp [h2, q3, z4])
   refine Leave.go ⟨[(1, .lit (.int .i64 k1))], []⟩ (Gh.to3 (by simp) (by first | simp -dsimp [h2, q3, z4]; done | simp_all)) ?_
   exact hq

theorem C.laws_heldExprS (B : Nat) (hB1 : 67108864 ≤ B) (hB2 : B ≤ 9223372036854775807) (a : List Vl.Expr) (k : Int) (r : Int) (hF : F.laws_heldExprS a k = some r) : PureCall Try.prog B 102 [.arr (List.map Vl.Expr.c a), .lit (.int .i64 k)] (.lit (.int .i64 r)) :=
 (CC.laws_heldExprS B hB1 hB2 ).1 a k r hF

theorem C.laws_heldExprS_l1 (B : Nat) (hB1 : 67108864 ≤ B) (hB2 : B ≤ 9223372036854775807) (a : List Vl.Expr) (k1 : Int) (i : Nat) (o : Lo Int Int) (hF : F.laws_heldExprS_l1 a k1 i = some o) : ∀ (c : Code), navO [1, 0, 1, 0, 0] (bodyOf Try.f102) = some c → ∀ (Q : Exit → ASt → Prop), o.post (fun r => ∀ st, Post Try.prog Try.f102 (fun r' _ => r'.le (.lit (.int .i64 r))) .ret st → Q .ret st) (fun s => Q (.exit 0) ⟨[(1, .lit (.int .i64 s))], []⟩) → ALoopU Try.prog B 0 49 (hold c .mk) ⟨[(0, .arr (List.map Vl.Expr.c a)), (1, .lit (.int .i64 k1)), (5, .lit (.int .i64 (i : Int)))], []⟩ (hold Q .mk) :=
 (CC.laws_heldExprS B hB1 hB2 ).2 a k1 i o hF

set_option maxRecDepth 100000 in
set_option maxHeartbeats 4000000 in
theorem C.laws_heldExpr (B : Nat) (hB1 : 67108864 ≤ B) (hB2 : B ≤ 9223372036854775807) (a : Vl.Expr) (k : Int) (r : Int) (hF : F.laws_heldExpr a k = some r) : PureCall Try.prog B 44 [.agg [.lit (.int .i64 a.op), .lit (.int .i64 a.n), .lit (.int .i64 a.ctor), .arr (List.map Vl.Expr.c a.kids)], .lit (.int .i64 k)] (.lit (.int .i64 r)) := by
 unfold F.laws_heldExpr at hF
 refine PureCall.enterLe Try.func44 (by kernel_rfl) rfl Try.ntmps44 (by simp) (by simp) ?_
 repeat (first | refine chk.ga ?_ | simp -dsimp)
 have hF := ob hF; obtain ⟨v, e1, hF⟩ := hF
 refine ((C.laws_heldExprS B hB1 hB2 a.kids k v e1)).goW (by simp) (by simp) ?_
 repeat (first | refine chk.ga ?_ | simp -dsimp)
 refine abr.split (fun h2 => ?_) (fun h2 => ?_)
 ·have q3 : (v < 0) := auq h2
  rw [if_pos q3] at hF
  cases hF
  repeat (first | refine chk.ga ?_ | simp -dsimp [h2])
  all_goals (try omega)
 ·have q3 : ¬ (v < 0) := auq h2
  rw [if_neg q3] at hF
  cases hF
  repeat (first | refine chk.ga ?_ | simp -dsimp [h2, q3])
  all_goals (try omega)

set_option maxRecDepth 100000 in
set_option maxHeartbeats 4000000 in
theorem CM.laws_markExprS (B : Nat) (hB1 : 67108864 ≤ B) (hB2 : B ≤ 9223372036854775807) : ∀ m : Nat, (∀ (a : List Vl.Expr) (k : Int), SizeOf.sizeOf a < m → MCall Try.prog B 101 (List.map Vl.Expr.c a) [.int .i64 k] (List.map Vl.Expr.c (Vl.Expr.mkL a k).1) (.int .i64 (Vl.Expr.mkL a k).2)) := by
 intro m
 induction m with
 | zero => exact fun a k h => absurd h (Nat.not_lt_zero _)
 | succ m ih =>
  intro a0 k0 hm
  have hz0 : ∀ x, x ∈ a0 → SizeOf.sizeOf x < m := fun x hx => by have := List.sizeOf_lt_of_mem hx; omega
  have loop : ∀ (rest D : List Vl.Expr) (k : Int) (i n : Nat) (rows : List (List AV)) (us : List Go.Value), (∀ x, x ∈ rest → SizeOf.sizeOf x < m) → i = D.length → n = i + rest.length → RW 4 n rows us →
    ∀ (c : Code), navO [1, 0, 1, 0, 0] (bodyOf Try.f101) = some c → ∀ (Q : Exit → ASt → Prop),
    (∀ (R : List (List AV)) (U : List Go.Value), RW 4 n R U → Q (.exit 0) ⟨[(1, .lit (.int .i64 (Vl.Expr.mkL rest k).2))], [.elems 4 R, .pack (List.flatten (List.map Vl.Expr.c (D ++ (Vl.Expr.mkL rest k).1))) U]⟩) →
    ALoopU Try.prog B 2 41 (hold c .mk) ⟨[(0, .own 0 n), (1, .lit (.int .i64 k)), (5, .lit (.int .i64 (i : Int)))], [.elems 4 rows, .pack (List.flatten (List.map Vl.Expr.c (D ++ rest))) us]⟩ (hold Q .mk) := by
   intro rest
   induction rest with
   | nil =>
    intro D k i n rows us hz hi hn H c hc Q hq
    obtain rfl : c = _ := navEq hc rfl
    have hn' : n = i := by simpa using hn
    subst hn'
    refine ALoopU.enter ?_
    repeat (first | refine chk.ga ?_ | simp -dsimp [RW.len H])
    refine Leave.go ⟨[(1, .lit (.int .i64 k))], [.elems 4 rows, .pack (List.flatten (List.map Vl.Expr.c D)) us]⟩ (Gh.to3 (by simp) (by simp -dsimp [RW.closed H])) ?_
    simpa [Vl.Expr.mkL] using hq rows us H
   | cons x r ihr =>
    intro D k i n rows us hz hi hn H c hc Q hq
    refine ALoopU.opnAt1 1 (List.flatten (List.map Vl.Expr.c D)) (Vl.Expr.c x) (List.flatten (List.map Vl.Expr.c r)) rfl (by simp) (by simp) ?_
    intro h1 vs UA UC o_h1 hlt hU hlA
    have hv : vs = [.int .i64 x.op, .int .i64 x.n, .int .i64 x.ctor, h1] := by apply lits_inj; rw [← hlt]; simp
    subst hv hU
    have hUA : UA.length = i * 4 := by rw [hlA, flatc_len Vl.Expr.c_len, hi]
    have hin : i < n := by simp at hn; omega
    have hrow : rows[i]? = some [.lit (.int .i64 x.op), .lit (.int .i64 x.n), .lit (.int .i64 x.ctor), .lit h1] := by simpa using H.at hin rfl hUA rfl
    have hne : ¬ rows = [] := by intro e; rw [e] at hrow; simp at hrow
    have hrl := RW.len H
    have hrow' : ∀ (h : i < rows.length), rows[i] = [.lit (.int .i64 x.op), .lit (.int .i64 x.n), .lit (.int .i64 x.ctor), .lit h1] := fun h => by rw [List.getElem?_eq_getElem h] at hrow; exact Option.some.inj hrow
    have hset : ∀ a, (rows.set i a)[i]? = some a := fun a => List.getElem?_set_self (by omega)
    clear hlt
    refine ALoopU.know fun hk hs => ?_
    have d0 := hs 0 _ rfl
    simp -dsimp [Blk.bnd] at d0
    clear hk hs
    obtain rfl : c = _ := navEq hc rfl
    have w1 : IntKind.i64.wrap ((i : Int) + 1) = (i : Int) + 1 := wrap_in (by omega) (by omega)
    refine ALoopU.enter ?_
    repeat (first | refine chk.ga ?_ | simp -dsimp [hne, hrow, hrow', hset, hrl, hin, w1, List.set_set, o_h1])
    have sz0 : SizeOf.sizeOf x.kids < m := by have h0 := hz x (by simp); cases x; simp at h0 ⊢; omega
    refine (ih x.kids (IntKind.i64.wrap ((IntKind.i64.wrap ((IntKind.i64.wrap (k + 1)) + 1)) + 1)) sz0).go 2 rfl (by simp) ?_
    repeat (first | refine chk.ga ?_ | simp -dsimp [hne, hrow, hrow', hset, hrl, hin, w1, List.set_set, o_h1])
    refine Again.go ⟨[(0, .own 0 n), (1, .lit (.int .i64 ((Vl.Expr.mkL x.kids (IntKind.i64.wrap ((IntKind.i64.wrap ((IntKind.i64.wrap (k + 1)) + 1)) + 1))).2))), (5, .lit (.int .i64 ((i + 1 : Nat) : Int)))], [.elems 4 (rows.set i [.lit (.int .i64 k), .lit (.int .i64 (IntKind.i64.wrap (k + 1))), .lit (.int .i64 (IntKind.i64.wrap ((IntKind.i64.wrap (k + 1)) + 1))), .lit h1]), .pack (List.flatten (List.map Vl.Expr.c ((D ++ [(⟨k, IntKind.i64.wrap (k + 1), IntKind.i64.wrap ((IntKind.i64.wrap (k + 1)) + 1), (Vl.Expr.mkL x.kids (IntKind.i64.wrap ((IntKind.i64.wrap ((IntKind.i64.wrap (k + 1)) + 1)) + 1))).1⟩ : Vl.Expr)]) ++ r))) (UA ++ ([.int .i64 k, .int .i64 (IntKind.i64.wrap (k + 1)), .int .i64 (IntKind.i64.wrap ((IntKind.i64.wrap (k + 1)) + 1)), h1] ++ UC))]⟩
     (by refine Gh.trans (Gh.setAt 1 [2] (XA := List.flatten (List.map Vl.Expr.c D)) (old := [.lit (.int .i64 x.op), .lit (.int .i64 x.n), .lit (.int .i64 x.ctor), .lit h1]) (XC := List.flatten (List.map Vl.Expr.c r)) (UA := UA) (uo := [.int .i64 x.op, .int .i64 x.n, .int .i64 x.ctor, h1]) (UC := UC) (by exact rfl) (by simp) (by simp) hlA rfl (.lit (.int .i64 k) (.lit (.int .i64 (IntKind.i64.wrap (k + 1))) (.lit (.int .i64 (IntKind.i64.wrap ((IntKind.i64.wrap (k + 1)) + 1))) (.pk 2 (by exact rfl) .nil)))) (by decide)) ?_; exact Gh.to3 (by simp) (by simp -dsimp [RW.closed H])) ?_
    have he : Vl.Expr.mkL (x :: r) k = ((⟨k, IntKind.i64.wrap (k + 1), IntKind.i64.wrap ((IntKind.i64.wrap (k + 1)) + 1), (Vl.Expr.mkL x.kids (IntKind.i64.wrap ((IntKind.i64.wrap ((IntKind.i64.wrap (k + 1)) + 1)) + 1))).1⟩ : Vl.Expr) :: (Vl.Expr.mkL r ((Vl.Expr.mkL x.kids (IntKind.i64.wrap ((IntKind.i64.wrap ((IntKind.i64.wrap (k + 1)) + 1)) + 1))).2)).1, (Vl.Expr.mkL r ((Vl.Expr.mkL x.kids (IntKind.i64.wrap ((IntKind.i64.wrap ((IntKind.i64.wrap (k + 1)) + 1)) + 1))).2)).2) := by (first | rfl | (cases x; simp [Vl.Expr.mkL, Vl.Expr.mkE]))
    rw [he] at hq
    refine ihr (D ++ [(⟨k, IntKind.i64.wrap (k + 1), IntKind.i64.wrap ((IntKind.i64.wrap (k + 1)) + 1), (Vl.Expr.mkL x.kids (IntKind.i64.wrap ((IntKind.i64.wrap ((IntKind.i64.wrap (k + 1)) + 1)) + 1))).1⟩ : Vl.Expr)]) _ (i + 1) n _ _ (fun y hy => hz y (List.mem_cons_of_mem _ hy)) (by simp [hi]) (by simp at hn; omega) (by simpa using H.setAt hin hUA rfl [.int .i64 k, .int .i64 (IntKind.i64.wrap (k + 1)), .int .i64 (IntKind.i64.wrap ((IntKind.i64.wrap (k + 1)) + 1)), h1] rfl) _ rfl _ fun R U hR => ?_
    simpa using hq R U hR
  refine MCall.enter 4 Try.func101 (by kernel_rfl) rfl Try.ntmps101 (by simp) (by simp [Vl.Expr.mkL_len]) (fun e he => by obtain ⟨x, _, rfl⟩ := List.mem_map.1 he; exact Vl.Expr.c_len x) ?_ ?_
  ·intro he
   have he : a0 = [] := by simpa using he
   subst he
   repeat (first | refine chk.ga ?_ | simp -dsimp)
   refine ALoop.goU ⟨[(0, .arr []), (1, .lit (.int .i64 k0)), (5, .lit (.int .i64 0))], []⟩ (Gh.to3 (by simp) (by simp -dsimp)) ?_
   refine ALoopU.enter ?_
   repeat (first | refine chk.ga ?_ | simp -dsimp)
   refine Leave.go _ (Gh.refl _) ?_
   repeat (first | refine chk.ga ?_ | simp -dsimp)
   all_goals (try simp [Vl.Expr.mkL])
  ·intro hne rows us e1 e2 e3 e4
   have H : RW 4 a0.length rows us := ⟨by simpa using e2, e3, e1⟩
   repeat (first | refine chk.ga ?_ | simp -dsimp)
   refine ALoop.goU ⟨[(0, .own 0 a0.length), (1, .lit (.int .i64 k0)), (5, .lit (.int .i64 ((0 : Nat) : Int)))], [.elems 4 rows, .pack (List.flatten (List.map Vl.Expr.c ([] ++ a0))) us]⟩ (Gh.to3 (by simp) (by simp -dsimp [RW.closed H])) ?_
   refine loop a0 [] k0 0 a0.length rows us hz0 rfl (by simp) H _ rfl _ ?_
   intro R U hR
   repeat (first | refine chk.ga ?_ | simp -dsimp)
   exact ⟨rfl, R, U, rfl, ⟨1, by simp⟩, hR.2.2, by rw [hR.1]; simp [Vl.Expr.mkL_len], fun x hx => by obtain ⟨y, _, rfl⟩ := List.mem_map.1 hx; exact Vl.Expr.c_len y⟩

theorem C.laws_markExprS (B : Nat) (hB1 : 67108864 ≤ B) (hB2 : B ≤ 9223372036854775807) (a : List Vl.Expr) (k : Int) (v : List Vl.Expr × Int) (hF : F.laws_markExprS a k = some v) : MCall Try.prog B 101 (List.map Vl.Expr.c a) [.int .i64 k] (List.map Vl.Expr.c v.1) (.int .i64 v.2) := by
 obtain rfl := Option.some.inj hF
 exact (CM.laws_markExprS B hB1 hB2 (SizeOf.sizeOf a + 1)) a k (Nat.lt_succ_self _)

set_option maxRecDepth 100000 in
set_option maxHeartbeats 4000000 in
theorem CM.laws_markTypeS (B : Nat) (hB1 : 67108864 ≤ B) (hB2 : B ≤ 9223372036854775807) : ∀ m : Nat, (∀ (a : List Vl.Ty) (k : Int), SizeOf.sizeOf a < m → MCall Try.prog B 148 (List.map Vl.Ty.c a) [.int .i64 k] (List.map Vl.Ty.c (Vl.Ty.mkL a k).1) (.int .i64 (Vl.Ty.mkL a k).2)) := by
 intro m
 induction m with
 | zero => exact fun a k h => absurd h (Nat.not_lt_zero _)
 | succ m ih =>
  intro a0 k0 hm
  have hz0 : ∀ x, x ∈ a0 → SizeOf.sizeOf x < m := fun x hx => by have := List.sizeOf_lt_of_mem hx; omega
  have loop : ∀ (rest D : List Vl.Ty) (k : Int) (i n : Nat) (rows : List (List AV)) (us : List Go.Value), (∀ x, x ∈ rest → SizeOf.sizeOf x < m) → i = D.length → n = i + rest.length → RW 2 n rows us →
    ∀ (c : Code), navO [1, 0, 1, 0, 0] (bodyOf Try.f148) = some c → ∀ (Q : Exit → ASt → Prop),
    (∀ (R : List (List AV)) (U : List Go.Value), RW 2 n R U → Q (.exit 0) ⟨[(1, .lit (.int .i64 (Vl.Ty.mkL rest k).2))], [.elems 2 R, .pack (List.flatten (List.map Vl.Ty.c (D ++ (Vl.Ty.mkL rest k).1))) U]⟩) →
    ALoopU Try.prog B 2 27 (hold c .mk) ⟨[(0, .own 0 n), (1, .lit (.int .i64 k)), (5, .lit (.int .i64 (i : Int)))], [.elems 2 rows, .pack (List.flatten (List.map Vl.Ty.c (D ++ rest))) us]⟩ (hold Q .mk) := by
   intro rest
   induction rest with
   | nil =>
    intro D k i n rows us hz hi hn H c hc Q hq
    obtain rfl : c = _ := navEq hc rfl
    have hn' : n = i := by simpa using hn
    subst hn'
    refine ALoopU.enter ?_
    repeat (first | refine chk.ga ?_ | simp -dsimp [RW.len H])
    refine Leave.go ⟨[(1, .lit (.int .i64 k))], [.elems 2 rows, .pack (List.flatten (List.map Vl.Ty.c D)) us]⟩ (Gh.to3 (by simp) (by simp -dsimp [RW.closed H])) ?_
    simpa [Vl.Ty.mkL] using hq rows us H
   | cons x r ihr =>
    intro D k i n rows us hz hi hn H c hc Q hq
    refine ALoopU.opnAt 1 (List.flatten (List.map Vl.Ty.c D)) (Vl.Ty.c x) (List.flatten (List.map Vl.Ty.c r)) rfl (by simp) ?_
    intro hs vs UA UC hl ho hlt hU hlA
    have hs0 : hs = [] := List.length_eq_zero_iff.1 (by simpa using hl)
    subst hs0
    have hv : vs = [.int .i64 x.data, .int .i64 x.index] := by apply lits_inj; rw [← hlt]; simp
    subst hv hU
    have hUA : UA.length = i * 2 := by rw [hlA, flatc_len Vl.Ty.c_len, hi]
    have hin : i < n := by simp at hn; omega
    have hrow : rows[i]? = some [.lit (.int .i64 x.data), .lit (.int .i64 x.index)] := by simpa using H.at hin rfl hUA rfl
    have hne : ¬ rows = [] := by intro e; rw [e] at hrow; simp at hrow
    have hrl := RW.len H
    have hrow' : ∀ (h : i < rows.length), rows[i] = [.lit (.int .i64 x.data), .lit (.int .i64 x.index)] := fun h => by rw [List.getElem?_eq_getElem h] at hrow; exact Option.some.inj hrow
    have hset : ∀ a, (rows.set i a)[i]? = some a := fun a => List.getElem?_set_self (by omega)
    clear hlt
    refine ALoopU.know fun hk hs => ?_
    have d0 := hs 0 _ rfl
    simp -dsimp [Blk.bnd] at d0
    clear hk hs
    obtain rfl : c = _ := navEq hc rfl
    have w1 : IntKind.i64.wrap ((i : Int) + 1) = (i : Int) + 1 := wrap_in (by omega) (by omega)
    refine ALoopU.enter ?_
    repeat (first | refine chk.ga ?_ | simp -dsimp [hne, hrow, hrow', hset, hrl, hin, w1, List.set_set])
    refine Again.go ⟨[(0, .own 0 n), (1, .lit (.int .i64 (IntKind.i64.wrap ((IntKind.i64.wrap (k + 1)) + 1)))), (5, .lit (.int .i64 ((i + 1 : Nat) : Int)))], [.elems 2 (rows.set i [.lit (.int .i64 k), .lit (.int .i64 (IntKind.i64.wrap (k + 1)))]), .pack (List.flatten (List.map Vl.Ty.c ((D ++ [(⟨k, IntKind.i64.wrap (k + 1)⟩ : Vl.Ty)]) ++ r))) (UA ++ ([.int .i64 k, .int .i64 (IntKind.i64.wrap (k + 1))] ++ UC))]⟩
     (by refine Gh.trans (Gh.setAt 1 [] (XA := List.flatten (List.map Vl.Ty.c D)) (old := [.lit (.int .i64 x.data), .lit (.int .i64 x.index)]) (XC := List.flatten (List.map Vl.Ty.c r)) (UA := UA) (uo := [.int .i64 x.data, .int .i64 x.index]) (UC := UC) (by exact rfl) (by simp) (by simp) hlA rfl (.lit (.int .i64 k) (.lit (.int .i64 (IntKind.i64.wrap (k + 1))) .nil)) (by decide)) ?_; exact Gh.to3 (by simp) (by simp -dsimp [RW.closed H])) ?_
    have he : Vl.Ty.mkL (x :: r) k = ((⟨k, IntKind.i64.wrap (k + 1)⟩ : Vl.Ty) :: (Vl.Ty.mkL r (IntKind.i64.wrap ((IntKind.i64.wrap (k + 1)) + 1))).1, (Vl.Ty.mkL r (IntKind.i64.wrap ((IntKind.i64.wrap (k + 1)) + 1))).2) := by (first | rfl | (cases x; simp [Vl.Ty.mkL, Vl.Ty.mkE]))
    rw [he] at hq
    refine ihr (D ++ [(⟨k, IntKind.i64.wrap (k + 1)⟩ : Vl.Ty)]) _ (i + 1) n _ _ (fun y hy => hz y (List.mem_cons_of_mem _ hy)) (by simp [hi]) (by simp at hn; omega) (by simpa using H.setAt hin hUA rfl [.int .i64 k, .int .i64 (IntKind.i64.wrap (k + 1))] rfl) _ rfl _ fun R U hR => ?_
    simpa using hq R U hR
  refine MCall.enter 2 Try.func148 (by kernel_rfl) rfl Try.ntmps148 (by simp) (by simp [Vl.Ty.mkL_len]) (fun e he => by obtain ⟨x, _, rfl⟩ := List.mem_map.1 he; exact Vl.Ty.c_len x) ?_ ?_
  ·intro he
   have he : a0 = [] := by simpa using he
   subst he
   repeat (first | refine chk.ga ?_ | simp -dsimp)
   refine ALoop.goU ⟨[(0, .arr []), (1, .lit (.int .i64 k0)), (5, .lit (.int .i64 0))], []⟩ (Gh.to3 (by simp) (by simp -dsimp)) ?_
   refine ALoopU.enter ?_
   repeat (first | refine chk.ga ?_ | simp -dsimp)
   refine Leave.go _ (Gh.refl _) ?_
   repeat (first | refine chk.ga ?_ | simp -dsimp)
   all_goals (try simp [Vl.Ty.mkL])
  ·intro hne rows us e1 e2 e3 e4
   have H : RW 2 a0.length rows us := ⟨by simpa using e2, e3, e1⟩
   repeat (first | refine chk.ga ?_ | simp -dsimp)
   refine ALoop.goU ⟨[(0, .own 0 a0.length), (1, .lit (.int .i64 k0)), (5, .lit (.int .i64 ((0 : Nat) : Int)))], [.elems 2 rows, .pack (List.flatten (List.map Vl.Ty.c ([] ++ a0))) us]⟩ (Gh.to3 (by simp) (by simp -dsimp [RW.closed H])) ?_
   refine loop a0 [] k0 0 a0.length rows us hz0 rfl (by simp) H _ rfl _ ?_
   intro R U hR
   repeat (first | refine chk.ga ?_ | simp -dsimp)
   exact ⟨rfl, R, U, rfl, ⟨1, by simp⟩, hR.2.2, by rw [hR.1]; simp [Vl.Ty.mkL_len], fun x hx => by obtain ⟨y, _, rfl⟩ := List.mem_map.1 hx; exact Vl.Ty.c_len y⟩

theorem C.laws_markTypeS (B : Nat) (hB1 : 67108864 ≤ B) (hB2 : B ≤ 9223372036854775807) (a : List Vl.Ty) (k : Int) (v : List Vl.Ty × Int) (hF : F.laws_markTypeS a k = some v) : MCall Try.prog B 148 (List.map Vl.Ty.c a) [.int .i64 k] (List.map Vl.Ty.c v.1) (.int .i64 v.2) := by
 obtain rfl := Option.some.inj hF
 exact (CM.laws_markTypeS B hB1 hB2 (SizeOf.sizeOf a + 1)) a k (Nat.lt_succ_self _)

set_option maxRecDepth 100000 in
set_option maxHeartbeats 4000000 in
theorem CM.laws_markCtorS (B : Nat) (hB1 : 67108864 ≤ B) (hB2 : B ≤ 9223372036854775807) : ∀ m : Nat, (∀ (a : List Vl.Ctor) (k : Int), SizeOf.sizeOf a < m → MCall Try.prog B 99 (List.map Vl.Ctor.c a) [.int .i64 k] (List.map Vl.Ctor.c (Vl.Ctor.mkL mtF a k).1) (.int .i64 (Vl.Ctor.mkL mtF a k).2)) := by
 intro m
 induction m with
 | zero => exact fun a k h => absurd h (Nat.not_lt_zero _)
 | succ m ih =>
  intro a0 k0 hm
  have hz0 : ∀ x, x ∈ a0 → SizeOf.sizeOf x < m := fun x hx => by have := List.sizeOf_lt_of_mem hx; omega
  have loop : ∀ (rest D : List Vl.Ctor) (k : Int) (i n : Nat) (rows : List (List AV)) (us : List Go.Value), (∀ x, x ∈ rest → SizeOf.sizeOf x < m) → i = D.length → n = i + rest.length → RW 3 n rows us →
    ∀ (c : Code), navO [1, 0, 1, 0, 0] (bodyOf Try.f99) = some c → ∀ (Q : Exit → ASt → Prop),
    (∀ (R : List (List AV)) (U : List Go.Value), RW 3 n R U → Q (.exit 0) ⟨[(1, .lit (.int .i64 (Vl.Ctor.mkL mtF rest k).2))], [.elems 3 R, .pack (List.flatten (List.map Vl.Ctor.c (D ++ (Vl.Ctor.mkL mtF rest k).1))) U]⟩) →
    ALoopU Try.prog B 2 35 (hold c .mk) ⟨[(0, .own 0 n), (1, .lit (.int .i64 k)), (5, .lit (.int .i64 (i : Int)))], [.elems 3 rows, .pack (List.flatten (List.map Vl.Ctor.c (D ++ rest))) us]⟩ (hold Q .mk) := by
   intro rest
   induction rest with
   | nil =>
    intro D k i n rows us hz hi hn H c hc Q hq
    obtain rfl : c = _ := navEq hc rfl
    have hn' : n = i := by simpa using hn
    subst hn'
    refine ALoopU.enter ?_
    repeat (first | refine chk.ga ?_ | simp -dsimp [RW.len H])
    refine Leave.go ⟨[(1, .lit (.int .i64 k))], [.elems 3 rows, .pack (List.flatten (List.map Vl.Ctor.c D)) us]⟩ (Gh.to3 (by simp) (by simp -dsimp [RW.closed H])) ?_
    simpa [Vl.Ctor.mkL] using hq rows us H
   | cons x r ihr =>
    intro D k i n rows us hz hi hn H c hc Q hq
    refine ALoopU.opnAt1 1 (List.flatten (List.map Vl.Ctor.c D)) (Vl.Ctor.c x) (List.flatten (List.map Vl.Ctor.c r)) rfl (by simp) (by simp) ?_
    intro h1 vs UA UC o_h1 hlt hU hlA
    have hv : vs = [.string x.name, h1, .int .i64 x.index] := by apply lits_inj; rw [← hlt]; simp
    subst hv hU
    have hUA : UA.length = i * 3 := by rw [hlA, flatc_len Vl.Ctor.c_len, hi]
    have hin : i < n := by simp at hn; omega
    have hrow : rows[i]? = some [.lit (.string x.name), .lit h1, .lit (.int .i64 x.index)] := by simpa using H.at hin rfl hUA rfl
    have hne : ¬ rows = [] := by intro e; rw [e] at hrow; simp at hrow
    have hrl := RW.len H
    have hrow' : ∀ (h : i < rows.length), rows[i] = [.lit (.string x.name), .lit h1, .lit (.int .i64 x.index)] := fun h => by rw [List.getElem?_eq_getElem h] at hrow; exact Option.some.inj hrow
    have hset : ∀ a, (rows.set i a)[i]? = some a := fun a => List.getElem?_set_self (by omega)
    clear hlt
    refine ALoopU.know fun hk hs => ?_
    have d0 := hs 0 _ rfl
    simp -dsimp [Blk.bnd] at d0
    clear hk hs
    obtain rfl : c = _ := navEq hc rfl
    have w1 : IntKind.i64.wrap ((i : Int) + 1) = (i : Int) + 1 := wrap_in (by omega) (by omega)
    refine ALoopU.enter ?_
    repeat (first | refine chk.ga ?_ | simp -dsimp [hne, hrow, hrow', hset, hrl, hin, w1, List.set_set, o_h1])
    refine (C.laws_markText B hB1 hB2 k _ (mtF_eq k)).goW (by simp) (by simp) ?_
    repeat (first | refine chk.ga ?_ | simp -dsimp [hne, hrow, hrow', hset, hrl, hin, w1, List.set_set, o_h1])
    refine (C.laws_markTypeS B hB1 hB2 x.args (IntKind.i64.wrap (k + 1)) _ rfl).go 2 rfl (by simp) ?_
    repeat (first | refine chk.ga ?_ | simp -dsimp [hne, hrow, hrow', hset, hrl, hin, w1, List.set_set, o_h1])
    refine Again.go ⟨[(0, .own 0 n), (1, .lit (.int .i64 (IntKind.i64.wrap (((Vl.Ty.mkL x.args (IntKind.i64.wrap (k + 1))).2) + 1)))), (5, .lit (.int .i64 ((i + 1 : Nat) : Int)))], [.elems 3 (rows.set i [.lit (.string (mtF k)), .lit h1, .lit (.int .i64 ((Vl.Ty.mkL x.args (IntKind.i64.wrap (k + 1))).2))]), .pack (List.flatten (List.map Vl.Ctor.c ((D ++ [(⟨mtF k, (Vl.Ty.mkL x.args (IntKind.i64.wrap (k + 1))).1, (Vl.Ty.mkL x.args (IntKind.i64.wrap (k + 1))).2⟩ : Vl.Ctor)]) ++ r))) (UA ++ ([.string (mtF k), h1, .int .i64 ((Vl.Ty.mkL x.args (IntKind.i64.wrap (k + 1))).2)] ++ UC))]⟩
     (by refine Gh.trans (Gh.setAt 1 [2] (XA := List.flatten (List.map Vl.Ctor.c D)) (old := [.lit (.string x.name), .lit h1, .lit (.int .i64 x.index)]) (XC := List.flatten (List.map Vl.Ctor.c r)) (UA := UA) (uo := [.string x.name, h1, .int .i64 x.index]) (UC := UC) (by exact rfl) (by simp) (by simp) hlA rfl (.lit (.string (mtF k)) (.pk 2 (by exact rfl) (.lit (.int .i64 ((Vl.Ty.mkL x.args (IntKind.i64.wrap (k + 1))).2)) .nil))) (by decide)) ?_; exact Gh.to3 (by simp) (by simp -dsimp [RW.closed H])) ?_
    have he : Vl.Ctor.mkL mtF (x :: r) k = ((⟨mtF k, (Vl.Ty.mkL x.args (IntKind.i64.wrap (k + 1))).1, (Vl.Ty.mkL x.args (IntKind.i64.wrap (k + 1))).2⟩ : Vl.Ctor) :: (Vl.Ctor.mkL mtF r (IntKind.i64.wrap (((Vl.Ty.mkL x.args (IntKind.i64.wrap (k + 1))).2) + 1))).1, (Vl.Ctor.mkL mtF r (IntKind.i64.wrap (((Vl.Ty.mkL x.args (IntKind.i64.wrap (k + 1))).2) + 1))).2) := by (first | rfl | (cases x; simp [Vl.Ctor.mkL, Vl.Ctor.mkE]))
    rw [he] at hq
    refine ihr (D ++ [(⟨mtF k, (Vl.Ty.mkL x.args (IntKind.i64.wrap (k + 1))).1, (Vl.Ty.mkL x.args (IntKind.i64.wrap (k + 1))).2⟩ : Vl.Ctor)]) _ (i + 1) n _ _ (fun y hy => hz y (List.mem_cons_of_mem _ hy)) (by simp [hi]) (by simp at hn; omega) (by simpa using H.setAt hin hUA rfl [.string (mtF k), h1, .int .i64 ((Vl.Ty.mkL x.args (IntKind.i64.wrap (k + 1))).2)] rfl) _ rfl _ fun R U hR => ?_
    simpa using hq R U hR
  refine MCall.enter 3 Try.func99 (by kernel_rfl) rfl Try.ntmps99 (by simp) (by simp [Vl.Ctor.mkL_len]) (fun e he => by obtain ⟨x, _, rfl⟩ := List.mem_map.1 he; exact Vl.Ctor.c_len x) ?_ ?_
  ·intro he
   have he : a0 = [] := by simpa using he
   subst he
   repeat (first | refine chk.ga ?_ | simp -dsimp)
   refine ALoop.goU ⟨[(0, .arr []), (1, .lit (.int .i64 k0)), (5, .lit (.int .i64 0))], []⟩ (Gh.to3 (by simp) (by simp -dsimp)) ?_
   refine ALoopU.enter ?_
   repeat (first | refine chk.ga ?_ | simp -dsimp)
   refine Leave.go _ (Gh.refl _) ?_
   repeat (first | refine chk.ga ?_ | simp -dsimp)
   all_goals (try simp [Vl.Ctor.mkL])
  ·intro hne rows us e1 e2 e3 e4
   have H : RW 3 a0.length rows us := ⟨by simpa using e2, e3, e1⟩
   repeat (first | refine chk.ga ?_ | simp -dsimp)
   refine ALoop.goU ⟨[(0, .own 0 a0.length), (1, .lit (.int .i64 k0)), (5, .lit (.int .i64 ((0 : Nat) : Int)))], [.elems 3 rows, .pack (List.flatten (List.map Vl.Ctor.c ([] ++ a0))) us]⟩ (Gh.to3 (by simp) (by simp -dsimp [RW.closed H])) ?_
   refine loop a0 [] k0 0 a0.length rows us hz0 rfl (by simp) H _ rfl _ ?_
   intro R U hR
   repeat (first | refine chk.ga ?_ | simp -dsimp)
   exact ⟨rfl, R, U, rfl, ⟨1, by simp⟩, hR.2.2, by rw [hR.1]; simp [Vl.Ctor.mkL_len], fun x hx => by obtain ⟨y, _, rfl⟩ := List.mem_map.1 hx; exact Vl.Ctor.c_len y⟩

theorem C.laws_markCtorS (B : Nat) (hB1 : 67108864 ≤ B) (hB2 : B ≤ 9223372036854775807) (a : List Vl.Ctor) (k : Int) (v : List Vl.Ctor × Int) (hF : F.laws_markCtorS a k = some v) : MCall Try.prog B 99 (List.map Vl.Ctor.c a) [.int .i64 k] (List.map Vl.Ctor.c v.1) (.int .i64 v.2) := by
 obtain rfl := Option.some.inj hF
 exact (CM.laws_markCtorS B hB1 hB2 (SizeOf.sizeOf a + 1)) a k (Nat.lt_succ_self _)

set_option maxRecDepth 100000 in
set_option maxHeartbeats 4000000 in
theorem CM.laws_markDataS (B : Nat) (hB1 : 67108864 ≤ B) (hB2 : B ≤ 9223372036854775807) : ∀ m : Nat, (∀ (a : List Vl.Data) (k : Int), SizeOf.sizeOf a < m → MCall Try.prog B 41 (List.map Vl.Data.c a) [.int .i64 k] (List.map Vl.Data.c (Vl.Data.mkL mtF a k).1) (.int .i64 (Vl.Data.mkL mtF a k).2)) := by
 intro m
 induction m with
 | zero => exact fun a k h => absurd h (Nat.not_lt_zero _)
 | succ m ih =>
  intro a0 k0 hm
  have hz0 : ∀ x, x ∈ a0 → SizeOf.sizeOf x < m := fun x hx => by have := List.sizeOf_lt_of_mem hx; omega
  have loop : ∀ (rest D : List Vl.Data) (k : Int) (i n : Nat) (rows : List (List AV)) (us : List Go.Value), (∀ x, x ∈ rest → SizeOf.sizeOf x < m) → i = D.length → n = i + rest.length → RW 2 n rows us →
    ∀ (c : Code), navO [1, 0, 1, 0, 0] (bodyOf Try.f41) = some c → ∀ (Q : Exit → ASt → Prop),
    (∀ (R : List (List AV)) (U : List Go.Value), RW 2 n R U → Q (.exit 0) ⟨[(1, .lit (.int .i64 (Vl.Data.mkL mtF rest k).2))], [.elems 2 R, .pack (List.flatten (List.map Vl.Data.c (D ++ (Vl.Data.mkL mtF rest k).1))) U]⟩) →
    ALoopU Try.prog B 2 28 (hold c .mk) ⟨[(0, .own 0 n), (1, .lit (.int .i64 k)), (5, .lit (.int .i64 (i : Int)))], [.elems 2 rows, .pack (List.flatten (List.map Vl.Data.c (D ++ rest))) us]⟩ (hold Q .mk) := by
   intro rest
   induction rest with
   | nil =>
    intro D k i n rows us hz hi hn H c hc Q hq
    obtain rfl : c = _ := navEq hc rfl
    have hn' : n = i := by simpa using hn
    subst hn'
    refine ALoopU.enter ?_
    repeat (first | refine chk.ga ?_ | simp -dsimp [RW.len H])
    refine Leave.go ⟨[(1, .lit (.int .i64 k))], [.elems 2 rows, .pack (List.flatten (List.map Vl.Data.c D)) us]⟩ (Gh.to3 (by simp) (by simp -dsimp [RW.closed H])) ?_
    simpa [Vl.Data.mkL] using hq rows us H
   | cons x r ihr =>
    intro D k i n rows us hz hi hn H c hc Q hq
    refine ALoopU.opnAt1 1 (List.flatten (List.map Vl.Data.c D)) (Vl.Data.c x) (List.flatten (List.map Vl.Data.c r)) rfl (by simp) (by simp) ?_
    intro h1 vs UA UC o_h1 hlt hU hlA
    have hv : vs = [.string x.name, h1] := by apply lits_inj; rw [← hlt]; simp
    subst hv hU
    have hUA : UA.length = i * 2 := by rw [hlA, flatc_len Vl.Data.c_len, hi]
    have hin : i < n := by simp at hn; omega
    have hrow : rows[i]? = some [.lit (.string x.name), .lit h1] := by simpa using H.at hin rfl hUA rfl
    have hne : ¬ rows = [] := by intro e; rw [e] at hrow; simp at hrow
    have hrl := RW.len H
    have hrow' : ∀ (h : i < rows.length), rows[i] = [.lit (.string x.name), .lit h1] := fun h => by rw [List.getElem?_eq_getElem h] at hrow; exact Option.some.inj hrow
    have hset : ∀ a, (rows.set i a)[i]? = some a := fun a => List.getElem?_set_self (by omega)
    clear hlt
    refine ALoopU.know fun hk hs => ?_
    have d0 := hs 0 _ rfl
    simp -dsimp [Blk.bnd] at d0
    clear hk hs
    obtain rfl : c = _ := navEq hc rfl
    have w1 : IntKind.i64.wrap ((i : Int) + 1) = (i : Int) + 1 := wrap_in (by omega) (by omega)
    refine ALoopU.enter ?_
    repeat (first | refine chk.ga ?_ | simp -dsimp [hne, hrow, hrow', hset, hrl, hin, w1, List.set_set, o_h1])
    refine (C.laws_markText B hB1 hB2 k _ (mtF_eq k)).goW (by simp) (by simp) ?_
    repeat (first | refine chk.ga ?_ | simp -dsimp [hne, hrow, hrow', hset, hrl, hin, w1, List.set_set, o_h1])
    refine (C.laws_markCtorS B hB1 hB2 x.ctors (IntKind.i64.wrap (k + 1)) _ rfl).go 2 rfl (by simp) ?_
    repeat (first | refine chk.ga ?_ | simp -dsimp [hne, hrow, hrow', hset, hrl, hin, w1, List.set_set, o_h1])
    refine Again.go ⟨[(0, .own 0 n), (1, .lit (.int .i64 ((Vl.Ctor.mkL mtF x.ctors (IntKind.i64.wrap (k + 1))).2))), (5, .lit (.int .i64 ((i + 1 : Nat) : Int)))], [.elems 2 (rows.set i [.lit (.string (mtF k)), .lit h1]), .pack (List.flatten (List.map Vl.Data.c ((D ++ [(⟨mtF k, (Vl.Ctor.mkL mtF x.ctors (IntKind.i64.wrap (k + 1))).1⟩ : Vl.Data)]) ++ r))) (UA ++ ([.string (mtF k), h1] ++ UC))]⟩
     (by refine Gh.trans (Gh.setAt 1 [2] (XA := List.flatten (List.map Vl.Data.c D)) (old := [.lit (.string x.name), .lit h1]) (XC := List.flatten (List.map Vl.Data.c r)) (UA := UA) (uo := [.string x.name, h1]) (UC := UC) (by exact rfl) (by simp) (by simp) hlA rfl (.lit (.string (mtF k)) (.pk 2 (by exact rfl) .nil)) (by decide)) ?_; exact Gh.to3 (by simp) (by simp -dsimp [RW.closed H])) ?_
    have he : Vl.Data.mkL mtF (x :: r) k = ((⟨mtF k, (Vl.Ctor.mkL mtF x.ctors (IntKind.i64.wrap (k + 1))).1⟩ : Vl.Data) :: (Vl.Data.mkL mtF r ((Vl.Ctor.mkL mtF x.ctors (IntKind.i64.wrap (k + 1))).2)).1, (Vl.Data.mkL mtF r ((Vl.Ctor.mkL mtF x.ctors (IntKind.i64.wrap (k + 1))).2)).2) := by (first | rfl | (cases x; simp [Vl.Data.mkL, Vl.Data.mkE]))
    rw [he] at hq
    refine ihr (D ++ [(⟨mtF k, (Vl.Ctor.mkL mtF x.ctors (IntKind.i64.wrap (k + 1))).1⟩ : Vl.Data)]) _ (i + 1) n _ _ (fun y hy => hz y (List.mem_cons_of_mem _ hy)) (by simp [hi]) (by simp at hn; omega) (by simpa using H.setAt hin hUA rfl [.string (mtF k), h1] rfl) _ rfl _ fun R U hR => ?_
    simpa using hq R U hR
  refine MCall.enter 2 Try.func41 (by kernel_rfl) rfl Try.ntmps41 (by simp) (by simp [Vl.Data.mkL_len]) (fun e he => by obtain ⟨x, _, rfl⟩ := List.mem_map.1 he; exact Vl.Data.c_len x) ?_ ?_
  ·intro he
   have he : a0 = [] := by simpa using he
   subst he
   repeat (first | refine chk.ga ?_ | simp -dsimp)
   refine ALoop.goU ⟨[(0, .arr []), (1, .lit (.int .i64 k0)), (5, .lit (.int .i64 0))], []⟩ (Gh.to3 (by simp) (by simp -dsimp)) ?_
   refine ALoopU.enter ?_
   repeat (first | refine chk.ga ?_ | simp -dsimp)
   refine Leave.go _ (Gh.refl _) ?_
   repeat (first | refine chk.ga ?_ | simp -dsimp)
   all_goals (try simp [Vl.Data.mkL])
  ·intro hne rows us e1 e2 e3 e4
   have H : RW 2 a0.length rows us := ⟨by simpa using e2, e3, e1⟩
   repeat (first | refine chk.ga ?_ | simp -dsimp)
   refine ALoop.goU ⟨[(0, .own 0 a0.length), (1, .lit (.int .i64 k0)), (5, .lit (.int .i64 ((0 : Nat) : Int)))], [.elems 2 rows, .pack (List.flatten (List.map Vl.Data.c ([] ++ a0))) us]⟩ (Gh.to3 (by simp) (by simp -dsimp [RW.closed H])) ?_
   refine loop a0 [] k0 0 a0.length rows us hz0 rfl (by simp) H _ rfl _ ?_
   intro R U hR
   repeat (first | refine chk.ga ?_ | simp -dsimp)
   exact ⟨rfl, R, U, rfl, ⟨1, by simp⟩, hR.2.2, by rw [hR.1]; simp [Vl.Data.mkL_len], fun x hx => by obtain ⟨y, _, rfl⟩ := List.mem_map.1 hx; exact Vl.Data.c_len y⟩

theorem C.laws_markDataS (B : Nat) (hB1 : 67108864 ≤ B) (hB2 : B ≤ 9223372036854775807) (a : List Vl.Data) (k : Int) (v : List Vl.Data × Int) (hF : F.laws_markDataS a k = some v) : MCall Try.prog B 41 (List.map Vl.Data.c a) [.int .i64 k] (List.map Vl.Data.c v.1) (.int .i64 v.2) := by
 obtain rfl := Option.some.inj hF
 exact (CM.laws_markDataS B hB1 hB2 (SizeOf.sizeOf a + 1)) a k (Nat.lt_succ_self _)

set_option maxRecDepth 100000 in
set_option maxHeartbeats 4000000 in
theorem CM.laws_markValueS (B : Nat) (hB1 : 67108864 ≤ B) (hB2 : B ≤ 9223372036854775807) : ∀ m : Nat, (∀ (a : List Vl.Value) (k : Int), SizeOf.sizeOf a < m → MCall Try.prog B 100 (List.map Vl.Value.c a) [.int .i64 k] (List.map Vl.Value.c (Vl.Value.mkL a k).1) (.int .i64 (Vl.Value.mkL a k).2)) := by
 intro m
 induction m with
 | zero => exact fun a k h => absurd h (Nat.not_lt_zero _)
 | succ m ih =>
  intro a0 k0 hm
  have hz0 : ∀ x, x ∈ a0 → SizeOf.sizeOf x < m := fun x hx => by have := List.sizeOf_lt_of_mem hx; omega
  have loop : ∀ (rest D : List Vl.Value) (k : Int) (i n : Nat) (rows : List (List AV)) (us : List Go.Value), (∀ x, x ∈ rest → SizeOf.sizeOf x < m) → i = D.length → n = i + rest.length → RW 3 n rows us →
    ∀ (c : Code), navO [1, 0, 1, 0, 0] (bodyOf Try.f100) = some c → ∀ (Q : Exit → ASt → Prop),
    (∀ (R : List (List AV)) (U : List Go.Value), RW 3 n R U → Q (.exit 0) ⟨[(1, .lit (.int .i64 (Vl.Value.mkL rest k).2))], [.elems 3 R, .pack (List.flatten (List.map Vl.Value.c (D ++ (Vl.Value.mkL rest k).1))) U]⟩) →
    ALoopU Try.prog B 2 34 (hold c .mk) ⟨[(0, .own 0 n), (1, .lit (.int .i64 k)), (5, .lit (.int .i64 (i : Int)))], [.elems 3 rows, .pack (List.flatten (List.map Vl.Value.c (D ++ rest))) us]⟩ (hold Q .mk) := by
   intro rest
   induction rest with
   | nil =>
    intro D k i n rows us hz hi hn H c hc Q hq
    obtain rfl : c = _ := navEq hc rfl
    have hn' : n = i := by simpa using hn
    subst hn'
    refine ALoopU.enter ?_
    repeat (first | refine chk.ga ?_ | simp -dsimp [RW.len H])
    refine Leave.go ⟨[(1, .lit (.int .i64 k))], [.elems 3 rows, .pack (List.flatten (List.map Vl.Value.c D)) us]⟩ (Gh.to3 (by simp) (by simp -dsimp [RW.closed H])) ?_
    simpa [Vl.Value.mkL] using hq rows us H
   | cons x r ihr =>
    intro D k i n rows us hz hi hn H c hc Q hq
    refine ALoopU.opnAt1 1 (List.flatten (List.map Vl.Value.c D)) (Vl.Value.c x) (List.flatten (List.map Vl.Value.c r)) rfl (by simp) (by simp) ?_
    intro h1 vs UA UC o_h1 hlt hU hlA
    have hv : vs = [.int .i64 x.ctor, .int .i64 x.n, h1] := by apply lits_inj; rw [← hlt]; simp
    subst hv hU
    have hUA : UA.length = i * 3 := by rw [hlA, flatc_len Vl.Value.c_len, hi]
    have hin : i < n := by simp at hn; omega
    have hrow : rows[i]? = some [.lit (.int .i64 x.ctor), .lit (.int .i64 x.n), .lit h1] := by simpa using H.at hin rfl hUA rfl
    have hne : ¬ rows = [] := by intro e; rw [e] at hrow; simp at hrow
    have hrl := RW.len H
    have hrow' : ∀ (h : i < rows.length), rows[i] = [.lit (.int .i64 x.ctor), .lit (.int .i64 x.n), .lit h1] := fun h => by rw [List.getElem?_eq_getElem h] at hrow; exact Option.some.inj hrow
    have hset : ∀ a, (rows.set i a)[i]? = some a := fun a => List.getElem?_set_self (by omega)
    clear hlt
    refine ALoopU.know fun hk hs => ?_
    have d0 := hs 0 _ rfl
    simp -dsimp [Blk.bnd] at d0
    clear hk hs
    obtain rfl : c = _ := navEq hc rfl
    have w1 : IntKind.i64.wrap ((i : Int) + 1) = (i : Int) + 1 := wrap_in (by omega) (by omega)
    refine ALoopU.enter ?_
    repeat (first | refine chk.ga ?_ | simp -dsimp [hne, hrow, hrow', hset, hrl, hin, w1, List.set_set, o_h1])
    have sz0 : SizeOf.sizeOf x.kids < m := by have h0 := hz x (by simp); cases x; simp at h0 ⊢; omega
    refine (ih x.kids (IntKind.i64.wrap ((IntKind.i64.wrap (k + 1)) + 1)) sz0).go 2 rfl (by simp) ?_
    repeat (first | refine chk.ga ?_ | simp -dsimp [hne, hrow, hrow', hset, hrl, hin, w1, List.set_set, o_h1])
    refine Again.go ⟨[(0, .own 0 n), (1, .lit (.int .i64 ((Vl.Value.mkL x.kids (IntKind.i64.wrap ((IntKind.i64.wrap (k + 1)) + 1))).2))), (5, .lit (.int .i64 ((i + 1 : Nat) : Int)))], [.elems 3 (rows.set i [.lit (.int .i64 k), .lit (.int .i64 (IntKind.i64.wrap (k + 1))), .lit h1]), .pack (List.flatten (List.map Vl.Value.c ((D ++ [(⟨k, IntKind.i64.wrap (k + 1), (Vl.Value.mkL x.kids (IntKind.i64.wrap ((IntKind.i64.wrap (k + 1)) + 1))).1⟩ : Vl.Value)]) ++ r))) (UA ++ ([.int .i64 k, .int .i64 (IntKind.i64.wrap (k + 1)), h1] ++ UC))]⟩
     (by refine Gh.trans (Gh.setAt 1 [2] (XA := List.flatten (List.map Vl.Value.c D)) (old := [.lit (.int .i64 x.ctor), .lit (.int .i64 x.n), .lit h1]) (XC := List.flatten (List.map Vl.Value.c r)) (UA := UA) (uo := [.int .i64 x.ctor, .int .i64 x.n, h1]) (UC := UC) (by exact rfl) (by simp) (by simp) hlA rfl (.lit (.int .i64 k) (.lit (.int .i64 (IntKind.i64.wrap (k + 1))) (.pk 2 (by exact rfl) .nil))) (by decide)) ?_; exact Gh.to3 (by simp) (by simp -dsimp [RW.closed H])) ?_
    have he : Vl.Value.mkL (x :: r) k = ((⟨k, IntKind.i64.wrap (k + 1), (Vl.Value.mkL x.kids (IntKind.i64.wrap ((IntKind.i64.wrap (k + 1)) + 1))).1⟩ : Vl.Value) :: (Vl.Value.mkL r ((Vl.Value.mkL x.kids (IntKind.i64.wrap ((IntKind.i64.wrap (k + 1)) + 1))).2)).1, (Vl.Value.mkL r ((Vl.Value.mkL x.kids (IntKind.i64.wrap ((IntKind.i64.wrap (k + 1)) + 1))).2)).2) := by (first | rfl | (cases x; simp [Vl.Value.mkL, Vl.Value.mkE]))
    rw [he] at hq
    refine ihr (D ++ [(⟨k, IntKind.i64.wrap (k + 1), (Vl.Value.mkL x.kids (IntKind.i64.wrap ((IntKind.i64.wrap (k + 1)) + 1))).1⟩ : Vl.Value)]) _ (i + 1) n _ _ (fun y hy => hz y (List.mem_cons_of_mem _ hy)) (by simp [hi]) (by simp at hn; omega) (by simpa using H.setAt hin hUA rfl [.int .i64 k, .int .i64 (IntKind.i64.wrap (k + 1)), h1] rfl) _ rfl _ fun R U hR => ?_
    simpa using hq R U hR
  refine MCall.enter 3 Try.func100 (by kernel_rfl) rfl Try.ntmps100 (by simp) (by simp [Vl.Value.mkL_len]) (fun e he => by obtain ⟨x, _, rfl⟩ := List.mem_map.1 he; exact Vl.Value.c_len x) ?_ ?_
  ·intro he
   have he : a0 = [] := by simpa using he
   subst he
   repeat (first | refine chk.ga ?_ | simp -dsimp)
   refine ALoop.goU ⟨[(0, .arr []), (1, .lit (.int .i64 k0)), (5, .lit (.int .i64 0))], []⟩ (Gh.to3 (by simp) (by simp -dsimp)) ?_
   refine ALoopU.enter ?_
   repeat (first | refine chk.ga ?_ | simp -dsimp)
   refine Leave.go _ (Gh.refl _) ?_
   repeat (first | refine chk.ga ?_ | simp -dsimp)
   all_goals (try simp [Vl.Value.mkL])
  ·intro hne rows us e1 e2 e3 e4
   have H : RW 3 a0.length rows us := ⟨by simpa using e2, e3, e1⟩
   repeat (first | refine chk.ga ?_ | simp -dsimp)
   refine ALoop.goU ⟨[(0, .own 0 a0.length), (1, .lit (.int .i64 k0)), (5, .lit (.int .i64 ((0 : Nat) : Int)))], [.elems 3 rows, .pack (List.flatten (List.map Vl.Value.c ([] ++ a0))) us]⟩ (Gh.to3 (by simp) (by simp -dsimp [RW.closed H])) ?_
   refine loop a0 [] k0 0 a0.length rows us hz0 rfl (by simp) H _ rfl _ ?_
   intro R U hR
   repeat (first | refine chk.ga ?_ | simp -dsimp)
   exact ⟨rfl, R, U, rfl, ⟨1, by simp⟩, hR.2.2, by rw [hR.1]; simp [Vl.Value.mkL_len], fun x hx => by obtain ⟨y, _, rfl⟩ := List.mem_map.1 hx; exact Vl.Value.c_len y⟩

theorem C.laws_markValueS (B : Nat) (hB1 : 67108864 ≤ B) (hB2 : B ≤ 9223372036854775807) (a : List Vl.Value) (k : Int) (v : List Vl.Value × Int) (hF : F.laws_markValueS a k = some v) : MCall Try.prog B 100 (List.map Vl.Value.c a) [.int .i64 k] (List.map Vl.Value.c v.1) (.int .i64 v.2) := by
 obtain rfl := Option.some.inj hF
 exact (CM.laws_markValueS B hB1 hB2 (SizeOf.sizeOf a + 1)) a k (Nat.lt_succ_self _)

set_option maxRecDepth 100000 in
set_option maxHeartbeats 4000000 in
theorem C.laws_FnExactExprOf (B : Nat) (hB1 : 67108864 ≤ B) (hB2 : B ≤ 9223372036854775807) (aW : List Vl.Data) (aT : Vl.Ty) (aV : Vl.Value) (r : Bool) (hF : F.laws_FnExactExprOf aW aT aV = some r) : PureCall Try.prog B 7 [.arr (List.map Vl.Data.c aW), .agg [.lit (.int .i64 aT.data), .lit (.int .i64 aT.index)], .agg [.lit (.int .i64 aV.ctor), .lit (.int .i64 aV.n), .arr (List.map Vl.Value.c aV.kids)]] (.lit (.bool r)) := by
 unfold F.laws_FnExactExprOf at hF
 refine PureCall.enterLe Try.func7 (by kernel_rfl) rfl Try.ntmps7 (by simp) (by simp) ?_
 repeat (first | refine chk.ga ?_ | simp -dsimp)
 have hF := ob hF; obtain ⟨v, e1, hF⟩ := hF
 refine ((C.laws_szDataS B hB1 hB2 aW (1048576 : Int) v e1)).goW (by simp) (by simp) ?_
 repeat (first | refine chk.ga ?_ | simp -dsimp)
 refine abr.split (fun h2 => ?_) (fun h2 => ?_)
 ·have q3 : (v < 0) := auq h2
  rw [if_pos q3] at hF
  cases hF
  repeat (first | refine chk.ga ?_ | simp -dsimp [h2])
  all_goals (try omega)
 ·have q3 : ¬ (v < 0) := auq h2
  rw [if_neg q3] at hF
  repeat (first | refine chk.ga ?_ | simp -dsimp [h2, q3])
  have hF := ob hF; obtain ⟨v4, e5, hF⟩ := hF
  refine ((C.laws_szValue B hB1 hB2 aV v v4 e5)).goW (by first | simp [h2, q3]; done | simp_all) (by simp) ?_
  repeat (first | refine chk.ga ?_ | simp -dsimp [h2, q3])
  refine abr.split (fun h6 => ?_) (fun h6 => ?_)
  ·have q7 : (v4 < 0) := auq h6
   rw [if_pos q7] at hF
   cases hF
   repeat (first | refine chk.ga ?_ | simp -dsimp [h2, q3, h6])
   all_goals (try omega)
  ·have q7 : ¬ (v4 < 0) := auq h6
   rw [if_neg q7] at hF
   repeat (first | refine chk.ga ?_ | simp -dsimp [h2, q3, h6, q7])
   refine ADraw.eff [] [(0, 1), (0, 2), (0, 1), (0, 2), (0, 1), (0, 2), (0, 2), (0, 1), (0, 1), (0, 2), (0, 2), (0, 2), (2, 2)] [1, 1, 2, 1, 2, 1, 1, 1, 0, 0, 1, 1, 1] follows (by kernel_rfl) (by kernel_rfl) (by kernel_rfl) ?_
   repeat (first | refine chk.ga ?_ | simp -dsimp [h2, q3, h6, q7])
   have hF := ob hF; obtain ⟨v8, e9, hF⟩ := hF
   refine ((C.laws_toDataS B hB1 hB2 aW v8 e9)).pgoW (by first | simp [h2, q3, h6, q7]; done | simp_all) (by simp) ?_
   repeat (first | refine chk.ga ?_ | simp -dsimp [h2, q3, h6, q7])
   have hF := ob hF; obtain ⟨v10, e11, hF⟩ := hF
   refine ((C.laws_toType B hB1 hB2 aT v10 e11)).pgoW (by first | simp [h2, q3, h6, q7]; done | simp_all) (by simp) ?_
   repeat (first | refine chk.ga ?_ | simp -dsimp [h2, q3, h6, q7])
   have hF := ob hF; obtain ⟨v12, e13, hF⟩ := hF
   refine ((C.laws_toValue B hB1 hB2 aV v12 e13)).pgoW (by first | simp [h2, q3, h6, q7]; done | simp_all) (by simp) ?_
   repeat (first | refine chk.ga ?_ | simp -dsimp [h2, q3, h6, q7])
   have hF := ob hF; obtain ⟨v14, e15, hF⟩ := hF
   refine ((C.spec_ExprOf B hB1 hB2 v8 v10 v12 v14 e15)).pgoW (by first | simp [h2, q3, h6, q7]; done | simp_all) (by simp) ?_
   repeat (first | refine chk.ga ?_ | simp -dsimp [h2, q3, h6, q7])
   have hF := ob hF; obtain ⟨v16, e17, hF⟩ := hF
   refine ((C.laws_toDataS__f B hB1 hB2 aW v16 e17)).go1 (by first | simp -dsimp [h2, q3, h6, q7]; done | simp_all) (by simp) (fun h o_h => ?_)
   repeat (first | refine chk.ga ?_ | simp -dsimp [h2, q3, h6, q7, o_h])
   have hF := ob hF; obtain ⟨v18, e19, hF⟩ := hF
   refine ((C.laws_toValue__f B hB1 hB2 aV v18 e19)).go1 (by first | simp -dsimp [h2, q3, h6, q7, o_h]; done | simp_all) (by simp) (fun h20 o_h20 => ?_)
   repeat (first | refine chk.ga ?_ | simp -dsimp [h2, q3, h6, q7, o_h, o_h20])
   refine ADraw.opn ?_
   refine ADraw.effF [] [0, 1, 2, 3, 4, 8, 5, 6, 7, 9, 10] [39] 4 [0, 1, 2, 3, 5, 4, 6, 7, 8, 9, 10] [44, 45, 46, 47] [(0, 0), (0, 0), (0, 3), (0, 0), (0, 3), (0, 3), (1, 2), (1, 2), (1, 3), (0, 3), (3, 3)] [1, 1, 1, 1, 1, 1, 1, 0, 0, 1, 1] [(0, 1), (0, 1), (0, 3), (0, 1), (0, 3), (0, 3), (2, 2), (2, 2), (2, 3), (0, 3), (3, 3)] [1, 2, 1, 2, 1, 1, 1, 1, 0, 1, 1] (by decide) follows (by kernel_rfl) (by kernel_rfl) (by kernel_rfl) (by kernel_rfl) (by kernel_rfl) (by kernel_rfl) (by kernel_rfl) (by kernel_rfl) (by kernel_rfl) (by kernel_rfl) (by kernel_rfl) (by kernel_rfl) (by kernel_rfl) (by kernel_rfl) (by kernel_rfl) rfl (by kernel_rfl) rfl ?_
   intro L hL
   simp only [permL_nil, permL_cons, List.getD_cons_zero, List.getD_cons_succ, List.toList_toArray] at hL
   subst hL
   repeat (first | refine chk.ga ?_ | simp -dsimp [h2, q3, h6, q7, o_h, o_h20])
   have hF := ob hF; obtain ⟨v21, e22, hF⟩ := hF
   refine ((C.laws_toType B hB1 hB2 aT v21 e22)).pgoW (by first | simp [h2, q3, h6, q7, o_h, o_h20]; done | simp_all) (by simp) ?_
   repeat (first | refine chk.ga ?_ | simp -dsimp [h2, q3, h6, q7, o_h, o_h20])
   refine ⟨holdI ?_, ?_⟩
   ·intro L2 hL2
    simp only [permL_nil, permL_cons, List.getD_cons_zero, List.getD_cons_succ, List.toList_toArray] at hL2
    subst hL2
    repeat (first | refine chk.ga ?_ | simp -dsimp [h2, q3, h6, q7, o_h, o_h20])
    refine ((C.laws_toType B hB1 hB2 aT v21 e22)).pgoW (by first | simp [h2, q3, h6, q7, o_h, o_h20]; done | simp_all) (by simp) ?_
    repeat (first | refine chk.ga ?_ | simp -dsimp [h2, q3, h6, q7, o_h, o_h20])
    have hF := ob hF; obtain ⟨v23, e24, hF⟩ := hF
    refine ((C.impl_ExprOf__f B hB1 hB2 v16 v21 v18 v23 e24)).ngo1 (by first | simp -dsimp [h2, q3, h6, q7, o_h, o_h20]; done | simp_all) (by simp) (fun h25 o_h25 => ?_)
    repeat (first | refine chk.ga ?_ | simp -dsimp [h2, q3, h6, q7, o_h, o_h20, o_h25])
    have hF := ob hF; obtain ⟨v26, e27, hF⟩ := hF
    refine ((C.laws_eqExpr B hB1 hB2 v23.1 v14.1 v26 e27)).lend (by first | simp -dsimp [h2, q3, h6, q7, o_h, o_h20, o_h25]; done | simp_all) (by simp -dsimp) ?_
    repeat (first | refine chk.ga ?_ | simp -dsimp [h2, q3, h6, q7, o_h, o_h20, o_h25])
    refine abr.split (fun h28 => ?_) (fun h28 => ?_)
    ·have q29 : (v26 = true) := auq h28
     rw [if_pos q29] at hF
     repeat (first | refine chk.ga ?_ | simp -dsimp [h2, q3, h6, q7, o_h, o_h20, o_h25, h28])
     refine abr.split (fun h30 => ?_) (fun h30 => ?_)
     ·have q31 : ¬ (v23.2 = v14.2) := auq h30
      rw [if_neg q31] at hF
      cases hF
      repeat (first | refine chk.ga ?_ | simp -dsimp [h2, q3, h6, q7, o_h, o_h20, o_h25, h28, h30, q31])
      all_goals (try omega)
     ·have q31 : (v23.2 = v14.2) := auq h30
      rw [if_pos q31] at hF
      repeat (first | refine chk.ga ?_ | simp -dsimp [h2, q3, h6, q7, o_h, o_h20, o_h25, h28, h30, q31])
      have hF := ob hF; obtain ⟨v32, e33, hF⟩ := hF
      refine ((C.laws_toDataS B hB1 hB2 aW v32 e33)).goW (by first | simp [h2, q3, h6, q7, o_h, o_h20, o_h25, h28, h30, q31]; done | simp_all) (by simp) ?_
      repeat (first | refine chk.ga ?_ | simp -dsimp [h2, q3, h6, q7, o_h, o_h20, o_h25, h28, h30, q31])
      have hF := ob hF; obtain ⟨v34, e35, hF⟩ := hF
      refine ((C.laws_eqDataS B hB1 hB2 v16 v32 v34 e35)).lend (by first | simp -dsimp [h2, q3, h6, q7, o_h, o_h20, o_h25, h28, h30, q31]; done | simp_all) (by simp -dsimp) ?_
      repeat (first | refine chk.ga ?_ | simp -dsimp [h2, q3, h6, q7, o_h, o_h20, o_h25, h28, h30, q31])
      refine abr.split (fun h36 => ?_) (fun h36 => ?_)
      ·have q37 : ¬ (v34 = true) := auq h36
       rw [if_neg q37] at hF
       cases hF
       repeat (first | refine chk.ga ?_ | simp -dsimp [h2, q3, h6, q7, o_h, o_h20, o_h25, h28, h30, q31, h36, q37])
       all_goals (try omega)
      ·have q37 : (v34 = true) := auq h36
       rw [if_pos q37] at hF
       repeat (first | refine chk.ga ?_ | simp -dsimp [h2, q3, h6, q7, o_h, o_h20, o_h25, h28, h30, q31, h36, q37])
       refine ADraw.eff [40] [(0, 0), (0, 0), (0, 1), (0, 1), (1, 1)] [1, 1, 1, 1, 1] follows (by kernel_rfl) (by kernel_rfl) (by kernel_rfl) ?_
       repeat (first | refine chk.ga ?_ | simp -dsimp [h2, q3, h6, q7, o_h, o_h20, o_h25, h28, h30, q31, h36, q37])
       have hF := ob hF; obtain ⟨v38, e39, hF⟩ := hF
       refine ((C.laws_toValue B hB1 hB2 aV v38 e39)).pgoW (by first | simp [h2, q3, h6, q7, o_h, o_h20, o_h25, h28, h30, q31, h36, q37]; done | simp_all) (by simp) ?_
       repeat (first | refine chk.ga ?_ | simp -dsimp [h2, q3, h6, q7, o_h, o_h20, o_h25, h28, h30, q31, h36, q37])
       have hF := ob hF; obtain ⟨v40, e41, hF⟩ := hF
       refine ((C.laws_eqValue B hB1 hB2 v18 v38 v40 e41)).elend (by first | simp -dsimp [h2, q3, h6, q7, o_h, o_h20, o_h25, h28, h30, q31, h36, q37]; done | simp_all) (by simp -dsimp) ?_
       repeat (first | refine chk.ga ?_ | simp -dsimp [h2, q3, h6, q7, o_h, o_h20, o_h25, h28, h30, q31, h36, q37])
       refine abr.split (fun h42 => ?_) (fun h42 => ?_)
       ·have q43 : ¬ (v40 = true) := auq h42
        rw [if_neg q43] at hF
        cases hF
        repeat (first | refine chk.ga ?_ | simp -dsimp [h2, q3, h6, q7, o_h, o_h20, o_h25, h28, h30, q31, h36, q37, h42, q43])
        all_goals (try omega)
       ·have q43 : (v40 = true) := auq h42
        rw [if_pos q43] at hF
        repeat (first | refine chk.ga ?_ | simp -dsimp [h2, q3, h6, q7, o_h, o_h20, o_h25, h28, h30, q31, h36, q37, h42, q43])
        have hF := ob hF; obtain ⟨v44, e45, hF⟩ := hF
        refine ((C.laws_markDataS B hB1 hB2 v16 1 v44 e45)).go 3 rfl (by simp) ?_
        repeat (first | refine chk.ga ?_ | simp -dsimp [h2, q3, h6, q7, o_h, o_h20, o_h25, h28, h30, q31, h36, q37, h42, q43])
        refine ACall.inl Try.func42 (by kernel_rfl) rfl Try.ntmps42 (by simp) ?_
        repeat (first | refine chk.ga ?_ | simp -dsimp [h2, q3, h6, q7, o_h, o_h20, o_h25, h28, h30, q31, h36, q37, h42, q43])
        have hF := ob hF; obtain ⟨v46, e47, hF⟩ := hF
        refine ((C.laws_markValueS B hB1 hB2 v18.kids v44.2 v46 e47)).go 4 rfl (by simp) ?_
        repeat (first | refine chk.ga ?_ | simp -dsimp [h2, q3, h6, q7, o_h, o_h20, o_h25, h28, h30, q31, h36, q37, h42, q43])
        refine abr.split (fun h48 => ?_) (fun h48 => ?_)
        ·have q49 : ¬ (v46.2 < 0) := auq h48
         rw [if_neg q49] at hF
         repeat (first | refine chk.ga ?_ | simp -dsimp [h2, q3, h6, q7, o_h, o_h20, o_h25, h28, h30, q31, h36, q37, h42, q43, h48, q49])
         have hF := ob hF; obtain ⟨v50, e51, hF⟩ := hF
         refine ((C.laws_eqExpr B hB1 hB2 v23.1 v14.1 v50 e51)).lend (by first | simp -dsimp [h2, q3, h6, q7, o_h, o_h20, o_h25, h28, h30, q31, h36, q37, h42, q43, h48, q49]; done | simp_all) (by simp -dsimp) ?_
         repeat (first | refine chk.ga ?_ | simp -dsimp [h2, q3, h6, q7, o_h, o_h20, o_h25, h28, h30, q31, h36, q37, h42, q43, h48, q49])
         refine abr.split (fun h52 => ?_) (fun h52 => ?_)
         ·have q53 : (v50 = true) := auq h52
          rw [if_pos q53] at hF
          repeat (first | refine chk.ga ?_ | simp -dsimp [h2, q3, h6, q7, o_h, o_h20, o_h25, h28, h30, q31, h36, q37, h42, q43, h48, q49, h52])
          refine ACall.inl Try.func43 (by kernel_rfl) rfl Try.ntmps43 (by simp) ?_
          repeat (first | refine chk.ga ?_ | simp -dsimp [h2, q3, h6, q7, o_h, o_h20, o_h25, h28, h30, q31, h36, q37, h42, q43, h48, q49, h52])
          have hF := ob hF; obtain ⟨v54, e55, hF⟩ := hF
          refine ((C.laws_markExprS B hB1 hB2 v23.1.kids 1 v54 e55)).go 7 rfl (by simp) ?_
          repeat (first | refine chk.ga ?_ | simp -dsimp [h2, q3, h6, q7, o_h, o_h20, o_h25, h28, h30, q31, h36, q37, h42, q43, h48, q49, h52])
          have hF := ob hF; obtain ⟨v56, e57, hF⟩ := hF
          refine ((C.laws_heldExpr B hB1 hB2 (⟨v23.1.op, v23.1.n, v23.1.ctor, v54.1⟩ : Vl.Expr) (1 : Int) v56 e57)).lend (by first | simp -dsimp [h2, q3, h6, q7, o_h, o_h20, o_h25, h28, h30, q31, h36, q37, h42, q43, h48, q49, h52]; done | simp_all) (by simp -dsimp) ?_
          repeat (first | refine chk.ga ?_ | simp -dsimp [h2, q3, h6, q7, o_h, o_h20, o_h25, h28, h30, q31, h36, q37, h42, q43, h48, q49, h52])
          refine abr.split (fun h58 => ?_) (fun h58 => ?_)
          ·have q59 : (v56 < 0) := auq h58
           rw [if_pos q59] at hF
           cases hF
           repeat (first | refine chk.ga ?_ | simp -dsimp [h2, q3, h6, q7, o_h, o_h20, o_h25, h28, h30, q31, h36, q37, h42, q43, h48, q49, h52, h58])
           all_goals (try omega)
          ·have q59 : ¬ (v56 < 0) := auq h58
           rw [if_neg q59] at hF
           repeat (first | refine chk.ga ?_ | simp -dsimp [h2, q3, h6, q7, o_h, o_h20, o_h25, h28, h30, q31, h36, q37, h42, q43, h48, q49, h52, h58, q59])
           refine abr.split (fun h60 => ?_) (fun h60 => ?_)
           ·have q61 : ¬ (v56 = v54.2) := auq h60
            rw [if_neg q61] at hF
            cases hF
            repeat (first | refine chk.ga ?_ | simp -dsimp [h2, q3, h6, q7, o_h, o_h20, o_h25, h28, h30, q31, h36, q37, h42, q43, h48, q49, h52, h58, q59, h60, q61])
            all_goals (try omega)
           ·have q61 : (v56 = v54.2) := auq h60
            rw [if_pos q61] at hF
            repeat (first | refine chk.ga ?_ | simp -dsimp [h2, q3, h6, q7, o_h, o_h20, o_h25, h28, h30, q31, h36, q37, h42, q43, h48, q49, h52, h58, q59, h60, q61])
            refine ADraw.opn ?_
            refine ADraw.effF [] [0, 1, 2, 3, 4, 5, 6, 10, 7, 8, 9, 11, 12] [39] 6 [0, 1, 2, 3, 4, 5, 7, 6, 8, 9, 10, 11, 12] [101, 102, 103, 104, 105, 106] [(0, 0), (0, 3), (0, 0), (0, 3), (0, 0), (0, 3), (0, 3), (0, 3), (1, 2), (1, 2), (1, 3), (0, 3), (3, 3)] [1, 1, 1, 1, 1, 1, 1, 1, 1, 0, 0, 1, 1] [(0, 1), (0, 3), (0, 1), (0, 3), (0, 1), (0, 3), (0, 3), (0, 3), (2, 2), (2, 2), (2, 3), (0, 3), (3, 3)] [1, 1, 2, 1, 2, 1, 1, 1, 1, 1, 0, 1, 1] (by decide) follows (by kernel_rfl) (by kernel_rfl) (by kernel_rfl) (by kernel_rfl) (by kernel_rfl) (by kernel_rfl) (by kernel_rfl) (by kernel_rfl) (by kernel_rfl) (by kernel_rfl) (by kernel_rfl) (by kernel_rfl) (by kernel_rfl) (by kernel_rfl) (by kernel_rfl) rfl (by kernel_rfl) rfl ?_
            intro L hL
            simp only [permL_nil, permL_cons, List.getD_cons_zero, List.getD_cons_succ, List.toList_toArray] at hL
            subst hL
            repeat (first | refine chk.ga ?_ | simp -dsimp [h2, q3, h6, q7, o_h, o_h20, o_h25, h28, h30, q31, h36, q37, h42, q43, h48, q49, h52, h58, q59, h60, q61])
            have hF := ob hF; obtain ⟨v62, e63, hF⟩ := hF
            refine ((C.laws_toDataS B hB1 hB2 aW v62 e63)).pgoW (by first | simp [h2, q3, h6, q7, o_h, o_h20, o_h25, h28, h30, q31, h36, q37, h42, q43, h48, q49, h52, h58, q59, h60, q61]; done | simp_all) (by simp) ?_
            repeat (first | refine chk.ga ?_ | simp -dsimp [h2, q3, h6, q7, o_h, o_h20, o_h25, h28, h30, q31, h36, q37, h42, q43, h48, q49, h52, h58, q59, h60, q61])
            have hF := ob hF; obtain ⟨v64, e65, hF⟩ := hF
            refine ((C.laws_toType B hB1 hB2 aT v64 e65)).pgoW (by first | simp [h2, q3, h6, q7, o_h, o_h20, o_h25, h28, h30, q31, h36, q37, h42, q43, h48, q49, h52, h58, q59, h60, q61]; done | simp_all) (by simp) ?_
            repeat (first | refine chk.ga ?_ | simp -dsimp [h2, q3, h6, q7, o_h, o_h20, o_h25, h28, h30, q31, h36, q37, h42, q43, h48, q49, h52, h58, q59, h60, q61])
            have hF := ob hF; obtain ⟨v66, e67, hF⟩ := hF
            refine ((C.laws_toValue B hB1 hB2 aV v66 e67)).pgoW (by first | simp [h2, q3, h6, q7, o_h, o_h20, o_h25, h28, h30, q31, h36, q37, h42, q43, h48, q49, h52, h58, q59, h60, q61]; done | simp_all) (by simp) ?_
            repeat (first | refine chk.ga ?_ | simp -dsimp [h2, q3, h6, q7, o_h, o_h20, o_h25, h28, h30, q31, h36, q37, h42, q43, h48, q49, h52, h58, q59, h60, q61])
            refine ⟨holdI ?_, ?_⟩
            ·intro L2 hL2
             simp only [permL_nil, permL_cons, List.getD_cons_zero, List.getD_cons_succ, List.toList_toArray] at hL2
             subst hL2
             repeat (first | refine chk.ga ?_ | simp -dsimp [h2, q3, h6, q7, o_h, o_h20, o_h25, h28, h30, q31, h36, q37, h42, q43, h48, q49, h52, h58, q59, h60, q61])
             refine ((C.laws_toDataS B hB1 hB2 aW v62 e63)).pgoW (by first | simp [h2, q3, h6, q7, o_h, o_h20, o_h25, h28, h30, q31, h36, q37, h42, q43, h48, q49, h52, h58, q59, h60, q61]; done | simp_all) (by simp) ?_
             repeat (first | refine chk.ga ?_ | simp -dsimp [h2, q3, h6, q7, o_h, o_h20, o_h25, h28, h30, q31, h36, q37, h42, q43, h48, q49, h52, h58, q59, h60, q61])
             refine ((C.laws_toType B hB1 hB2 aT v64 e65)).pgoW (by first | simp [h2, q3, h6, q7, o_h, o_h20, o_h25, h28, h30, q31, h36, q37, h42, q43, h48, q49, h52, h58, q59, h60, q61]; done | simp_all) (by simp) ?_
             repeat (first | refine chk.ga ?_ | simp -dsimp [h2, q3, h6, q7, o_h, o_h20, o_h25, h28, h30, q31, h36, q37, h42, q43, h48, q49, h52, h58, q59, h60, q61])
             refine ((C.laws_toValue B hB1 hB2 aV v66 e67)).pgoW (by first | simp [h2, q3, h6, q7, o_h, o_h20, o_h25, h28, h30, q31, h36, q37, h42, q43, h48, q49, h52, h58, q59, h60, q61]; done | simp_all) (by simp) ?_
             repeat (first | refine chk.ga ?_ | simp -dsimp [h2, q3, h6, q7, o_h, o_h20, o_h25, h28, h30, q31, h36, q37, h42, q43, h48, q49, h52, h58, q59, h60, q61])
             have hF := ob hF; obtain ⟨v68, e69, hF⟩ := hF
             refine ((C.impl_ExprOf__f B hB1 hB2 v62 v64 v66 v68 e69)).ngo1 (by first | simp -dsimp [h2, q3, h6, q7, o_h, o_h20, o_h25, h28, h30, q31, h36, q37, h42, q43, h48, q49, h52, h58, q59, h60, q61]; done | simp_all) (by simp) (fun h70 o_h70 => ?_)
             repeat (first | refine chk.ga ?_ | simp -dsimp [h2, q3, h6, q7, o_h, o_h20, o_h25, h28, h30, q31, h36, q37, h42, q43, h48, q49, h52, h58, q59, h60, q61, o_h70])
             have hF := ob hF; obtain ⟨v71, e72, hF⟩ := hF
             refine ((C.laws_eqExpr B hB1 hB2 v68.1 v14.1 v71 e72)).lend (by first | simp -dsimp [h2, q3, h6, q7, o_h, o_h20, o_h25, h28, h30, q31, h36, q37, h42, q43, h48, q49, h52, h58, q59, h60, q61, o_h70]; done | simp_all) (by simp -dsimp) ?_
             repeat (first | refine chk.ga ?_ | simp -dsimp [h2, q3, h6, q7, o_h, o_h20, o_h25, h28, h30, q31, h36, q37, h42, q43, h48, q49, h52, h58, q59, h60, q61, o_h70])
             refine abr.split (fun h73 => ?_) (fun h73 => ?_)
             ·have q74 : (v71 = true) := auq h73
              rw [if_pos q74] at hF
              repeat (first | refine chk.ga ?_ | simp -dsimp [h2, q3, h6, q7, o_h, o_h20, o_h25, h28, h30, q31, h36, q37, h42, q43, h48, q49, h52, h58, q59, h60, q61, o_h70, h73])
              refine abr.split (fun h75 => ?_) (fun h75 => ?_)
              ·have q76 : ¬ (v68.2 = v14.2) := auq h75
               rw [if_neg q76] at hF
               cases hF
               repeat (first | refine chk.ga ?_ | simp -dsimp [h2, q3, h6, q7, o_h, o_h20, o_h25, h28, h30, q31, h36, q37, h42, q43, h48, q49, h52, h58, q59, h60, q61, o_h70, h73, h75, q76])
               all_goals (try omega)
              ·have q76 : (v68.2 = v14.2) := auq h75
               rw [if_pos q76] at hF
               repeat (first | refine chk.ga ?_ | simp -dsimp [h2, q3, h6, q7, o_h, o_h20, o_h25, h28, h30, q31, h36, q37, h42, q43, h48, q49, h52, h58, q59, h60, q61, o_h70, h73, h75, q76])
               have hF := ob hF; obtain ⟨v77, e78, hF⟩ := hF
               refine ((C.laws_heldExpr B hB1 hB2 (⟨v23.1.op, v23.1.n, v23.1.ctor, v54.1⟩ : Vl.Expr) (1 : Int) v77 e78)).lend (by first | simp -dsimp [h2, q3, h6, q7, o_h, o_h20, o_h25, h28, h30, q31, h36, q37, h42, q43, h48, q49, h52, h58, q59, h60, q61, o_h70, h73, h75, q76]; done | simp_all) (by simp -dsimp) ?_
               repeat (first | refine chk.ga ?_ | simp -dsimp [h2, q3, h6, q7, o_h, o_h20, o_h25, h28, h30, q31, h36, q37, h42, q43, h48, q49, h52, h58, q59, h60, q61, o_h70, h73, h75, q76])
               refine abr.split (fun h79 => ?_) (fun h79 => ?_)
               ·have q80 : (v77 < 0) := auq h79
                rw [if_pos q80] at hF
                cases hF
                repeat (first | refine chk.ga ?_ | simp -dsimp [h2, q3, h6, q7, o_h, o_h20, o_h25, h28, h30, q31, h36, q37, h42, q43, h48, q49, h52, h58, q59, h60, q61, o_h70, h73, h75, q76, h79])
                all_goals (try omega)
               ·have q80 : ¬ (v77 < 0) := auq h79
                rw [if_neg q80] at hF
                repeat (first | refine chk.ga ?_ | simp -dsimp [h2, q3, h6, q7, o_h, o_h20, o_h25, h28, h30, q31, h36, q37, h42, q43, h48, q49, h52, h58, q59, h60, q61, o_h70, h73, h75, q76, h79, q80])
                refine abr.split (fun h81 => ?_) (fun h81 => ?_)
                ·have q82 : ¬ (v77 = v54.2) := auq h81
                 rw [if_neg q82] at hF
                 cases hF
                 repeat (first | refine chk.ga ?_ | simp -dsimp [h2, q3, h6, q7, o_h, o_h20, o_h25, h28, h30, q31, h36, q37, h42, q43, h48, q49, h52, h58, q59, h60, q61, o_h70, h73, h75, q76, h79, q80, h81, q82])
                 all_goals (try omega)
                ·have q82 : (v77 = v54.2) := auq h81
                 rw [if_pos q82] at hF
                 cases hF
                 repeat (first | refine chk.ga ?_ | simp -dsimp [h2, q3, h6, q7, o_h, o_h20, o_h25, h28, h30, q31, h36, q37, h42, q43, h48, q49, h52, h58, q59, h60, q61, o_h70, h73, h75, q76, h79, q80, h81, q82])
                 all_goals (try omega)
             ·have q74 : ¬ (v71 = true) := auq h73
              rw [if_neg q74] at hF
              cases hF
              repeat (first | refine chk.ga ?_ | simp -dsimp [h2, q3, h6, q7, o_h, o_h20, o_h25, h28, h30, q31, h36, q37, h42, q43, h48, q49, h52, h58, q59, h60, q61, o_h70, h73, q74])
              all_goals (try omega)
            ·have hF := ob hF; obtain ⟨v68, e69, hF⟩ := hF
             refine ((C.impl_ExprOf__f B hB1 hB2 v62 v64 v66 v68 e69)).ngo1 (by first | simp -dsimp [h2, q3, h6, q7, o_h, o_h20, o_h25, h28, h30, q31, h36, q37, h42, q43, h48, q49, h52, h58, q59, h60, q61]; done | simp_all) (by simp) (fun h70 o_h70 => ?_)
             repeat (first | refine chk.ga ?_ | simp -dsimp [h2, q3, h6, q7, o_h, o_h20, o_h25, h28, h30, q31, h36, q37, h42, q43, h48, q49, h52, h58, q59, h60, q61, o_h70])
             have hF := ob hF; obtain ⟨v71, e72, hF⟩ := hF
             refine ((C.laws_eqExpr B hB1 hB2 v68.1 v14.1 v71 e72)).lend (by first | simp -dsimp [h2, q3, h6, q7, o_h, o_h20, o_h25, h28, h30, q31, h36, q37, h42, q43, h48, q49, h52, h58, q59, h60, q61, o_h70]; done | simp_all) (by simp -dsimp) ?_
             repeat (first | refine chk.ga ?_ | simp -dsimp [h2, q3, h6, q7, o_h, o_h20, o_h25, h28, h30, q31, h36, q37, h42, q43, h48, q49, h52, h58, q59, h60, q61, o_h70])
             refine abr.split (fun h73 => ?_) (fun h73 => ?_)
             ·have q74 : (v71 = true) := auq h73
              rw [if_pos q74] at hF
              repeat (first | refine chk.ga ?_ | simp -dsimp [h2, q3, h6, q7, o_h, o_h20, o_h25, h28, h30, q31, h36, q37, h42, q43, h48, q49, h52, h58, q59, h60, q61, o_h70, h73])
              refine abr.split (fun h75 => ?_) (fun h75 => ?_)
              ·have q76 : ¬ (v68.2 = v14.2) := auq h75
               rw [if_neg q76] at hF
               cases hF
               repeat (first | refine chk.ga ?_ | simp -dsimp [h2, q3, h6, q7, o_h, o_h20, o_h25, h28, h30, q31, h36, q37, h42, q43, h48, q49, h52, h58, q59, h60, q61, o_h70, h73, h75, q76])
               all_goals (try omega)
              ·have q76 : (v68.2 = v14.2) := auq h75
               rw [if_pos q76] at hF
               repeat (first | refine chk.ga ?_ | simp -dsimp [h2, q3, h6, q7, o_h, o_h20, o_h25, h28, h30, q31, h36, q37, h42, q43, h48, q49, h52, h58, q59, h60, q61, o_h70, h73, h75, q76])
               have hF := ob hF; obtain ⟨v77, e78, hF⟩ := hF
               refine ((C.laws_heldExpr B hB1 hB2 (⟨v23.1.op, v23.1.n, v23.1.ctor, v54.1⟩ : Vl.Expr) (1 : Int) v77 e78)).lend (by first | simp -dsimp [h2, q3, h6, q7, o_h, o_h20, o_h25, h28, h30, q31, h36, q37, h42, q43, h48, q49, h52, h58, q59, h60, q61, o_h70, h73, h75, q76]; done | simp_all) (by simp -dsimp) ?_
               repeat (first | refine chk.ga ?_ | simp -dsimp [h2, q3, h6, q7, o_h, o_h20, o_h25, h28, h30, q31, h36, q37, h42, q43, h48, q49, h52, h58, q59, h60, q61, o_h70, h73, h75, q76])
               refine abr.split (fun h79 => ?_) (fun h79 => ?_)
               ·have q80 : (v77 < 0) := auq h79
                rw [if_pos q80] at hF
                cases hF
                repeat (first | refine chk.ga ?_ | simp -dsimp [h2, q3, h6, q7, o_h, o_h20, o_h25, h28, h30, q31, h36, q37, h42, q43, h48, q49, h52, h58, q59, h60, q61, o_h70, h73, h75, q76, h79])
                all_goals (try omega)
               ·have q80 : ¬ (v77 < 0) := auq h79
                rw [if_neg q80] at hF
                repeat (first | refine chk.ga ?_ | simp -dsimp [h2, q3, h6, q7, o_h, o_h20, o_h25, h28, h30, q31, h36, q37, h42, q43, h48, q49, h52, h58, q59, h60, q61, o_h70, h73, h75, q76, h79, q80])
                refine abr.split (fun h81 => ?_) (fun h81 => ?_)
                ·have q82 : ¬ (v77 = v54.2) := auq h81
                 rw [if_neg q82] at hF
                 cases hF
                 repeat (first | refine chk.ga ?_ | simp -dsimp [h2, q3, h6, q7, o_h, o_h20, o_h25, h28, h30, q31, h36, q37, h42, q43, h48, q49, h52, h58, q59, h60, q61, o_h70, h73, h75, q76, h79, q80, h81, q82])
                 all_goals (try omega)
                ·have q82 : (v77 = v54.2) := auq h81
                 rw [if_pos q82] at hF
                 cases hF
                 repeat (first | refine chk.ga ?_ | simp -dsimp [h2, q3, h6, q7, o_h, o_h20, o_h25, h28, h30, q31, h36, q37, h42, q43, h48, q49, h52, h58, q59, h60, q61, o_h70, h73, h75, q76, h79, q80, h81, q82])
                 all_goals (try omega)
             ·have q74 : ¬ (v71 = true) := auq h73
              rw [if_neg q74] at hF
              cases hF
              repeat (first | refine chk.ga ?_ | simp -dsimp [h2, q3, h6, q7, o_h, o_h20, o_h25, h28, h30, q31, h36, q37, h42, q43, h48, q49, h52, h58, q59, h60, q61, o_h70, h73, q74])
              all_goals (try omega)
         ·have q53 : ¬ (v50 = true) := auq h52
          rw [if_neg q53] at hF
          cases hF
          repeat (first | refine chk.ga ?_ | simp -dsimp [h2, q3, h6, q7, o_h, o_h20, o_h25, h28, h30, q31, h36, q37, h42, q43, h48, q49, h52, q53])
          all_goals (try omega)
        ·have q49 : (v46.2 < 0) := auq h48
         rw [if_pos q49] at hF
         cases hF
         repeat (first | refine chk.ga ?_ | simp -dsimp [h2, q3, h6, q7, o_h, o_h20, o_h25, h28, h30, q31, h36, q37, h42, q43, h48, q49])
         all_goals (try omega)
    ·have q29 : ¬ (v26 = true) := auq h28
     rw [if_neg q29] at hF
     cases hF
     repeat (first | refine chk.ga ?_ | simp -dsimp [h2, q3, h6, q7, o_h, o_h20, o_h25, h28, q29])
     all_goals (try omega)
   ·have hF := ob hF; obtain ⟨v23, e24, hF⟩ := hF
    refine ((C.impl_ExprOf__f B hB1 hB2 v16 v21 v18 v23 e24)).ngo1 (by first | simp -dsimp [h2, q3, h6, q7, o_h, o_h20]; done | simp_all) (by simp) (fun h25 o_h25 => ?_)
    repeat (first | refine chk.ga ?_ | simp -dsimp [h2, q3, h6, q7, o_h, o_h20, o_h25])
    have hF := ob hF; obtain ⟨v26, e27, hF⟩ := hF
    refine ((C.laws_eqExpr B hB1 hB2 v23.1 v14.1 v26 e27)).lend (by first | simp -dsimp [h2, q3, h6, q7, o_h, o_h20, o_h25]; done | simp_all) (by simp -dsimp) ?_
    repeat (first | refine chk.ga ?_ | simp -dsimp [h2, q3, h6, q7, o_h, o_h20, o_h25])
    refine abr.split (fun h28 => ?_) (fun h28 => ?_)
    ·have q29 : (v26 = true) := auq h28
     rw [if_pos q29] at hF
     repeat (first | refine chk.ga ?_ | simp -dsimp [h2, q3, h6, q7, o_h, o_h20, o_h25, h28])
     refine abr.split (fun h30 => ?_) (fun h30 => ?_)
     ·have q31 : ¬ (v23.2 = v14.2) := auq h30
      rw [if_neg q31] at hF
      cases hF
      repeat (first | refine chk.ga ?_ | simp -dsimp [h2, q3, h6, q7, o_h, o_h20, o_h25, h28, h30, q31])
      all_goals (try omega)
     ·have q31 : (v23.2 = v14.2) := auq h30
      rw [if_pos q31] at hF
      repeat (first | refine chk.ga ?_ | simp -dsimp [h2, q3, h6, q7, o_h, o_h20, o_h25, h28, h30, q31])
      have hF := ob hF; obtain ⟨v32, e33, hF⟩ := hF
      refine ((C.laws_toDataS B hB1 hB2 aW v32 e33)).goW (by first | simp [h2, q3, h6, q7, o_h, o_h20, o_h25, h28, h30, q31]; done | simp_all) (by simp) ?_
      repeat (first | refine chk.ga ?_ | simp -dsimp [h2, q3, h6, q7, o_h, o_h20, o_h25, h28, h30, q31])
      have hF := ob hF; obtain ⟨v34, e35, hF⟩ := hF
      refine ((C.laws_eqDataS B hB1 hB2 v16 v32 v34 e35)).lend (by first | simp -dsimp [h2, q3, h6, q7, o_h, o_h20, o_h25, h28, h30, q31]; done | simp_all) (by simp -dsimp) ?_
      repeat (first | refine chk.ga ?_ | simp -dsimp [h2, q3, h6, q7, o_h, o_h20, o_h25, h28, h30, q31])
      refine abr.split (fun h36 => ?_) (fun h36 => ?_)
      ·have q37 : ¬ (v34 = true) := auq h36
       rw [if_neg q37] at hF
       cases hF
       repeat (first | refine chk.ga ?_ | simp -dsimp [h2, q3, h6, q7, o_h, o_h20, o_h25, h28, h30, q31, h36, q37])
       all_goals (try omega)
      ·have q37 : (v34 = true) := auq h36
       rw [if_pos q37] at hF
       repeat (first | refine chk.ga ?_ | simp -dsimp [h2, q3, h6, q7, o_h, o_h20, o_h25, h28, h30, q31, h36, q37])
       refine ADraw.eff [40] [(0, 0), (0, 0), (0, 1), (0, 1), (1, 1)] [1, 1, 1, 1, 1] follows (by kernel_rfl) (by kernel_rfl) (by kernel_rfl) ?_
       repeat (first | refine chk.ga ?_ | simp -dsimp [h2, q3, h6, q7, o_h, o_h20, o_h25, h28, h30, q31, h36, q37])
       have hF := ob hF; obtain ⟨v38, e39, hF⟩ := hF
       refine ((C.laws_toValue B hB1 hB2 aV v38 e39)).pgoW (by first | simp [h2, q3, h6, q7, o_h, o_h20, o_h25, h28, h30, q31, h36, q37]; done | simp_all) (by simp) ?_
       repeat (first | refine chk.ga ?_ | simp -dsimp [h2, q3, h6, q7, o_h, o_h20, o_h25, h28, h30, q31, h36, q37])
       have hF := ob hF; obtain ⟨v40, e41, hF⟩ := hF
       refine ((C.laws_eqValue B hB1 hB2 v18 v38 v40 e41)).elend (by first | simp -dsimp [h2, q3, h6, q7, o_h, o_h20, o_h25, h28, h30, q31, h36, q37]; done | simp_all) (by simp -dsimp) ?_
       repeat (first | refine chk.ga ?_ | simp -dsimp [h2, q3, h6, q7, o_h, o_h20, o_h25, h28, h30, q31, h36, q37])
       refine abr.split (fun h42 => ?_) (fun h42 => ?_)
       ·have q43 : ¬ (v40 = true) := auq h42
        rw [if_neg q43] at hF
        cases hF
        repeat (first | refine chk.ga ?_ | simp -dsimp [h2, q3, h6, q7, o_h, o_h20, o_h25, h28, h30, q31, h36, q37, h42, q43])
        all_goals (try omega)
       ·have q43 : (v40 = true) := auq h42
        rw [if_pos q43] at hF
        repeat (first | refine chk.ga ?_ | simp -dsimp [h2, q3, h6, q7, o_h, o_h20, o_h25, h28, h30, q31, h36, q37, h42, q43])
        have hF := ob hF; obtain ⟨v44, e45, hF⟩ := hF
        refine ((C.laws_markDataS B hB1 hB2 v16 1 v44 e45)).go 3 rfl (by simp) ?_
        repeat (first | refine chk.ga ?_ | simp -dsimp [h2, q3, h6, q7, o_h, o_h20, o_h25, h28, h30, q31, h36, q37, h42, q43])
        refine ACall.inl Try.func42 (by kernel_rfl) rfl Try.ntmps42 (by simp) ?_
        repeat (first | refine chk.ga ?_ | simp -dsimp [h2, q3, h6, q7, o_h, o_h20, o_h25, h28, h30, q31, h36, q37, h42, q43])
        have hF := ob hF; obtain ⟨v46, e47, hF⟩ := hF
        refine ((C.laws_markValueS B hB1 hB2 v18.kids v44.2 v46 e47)).go 4 rfl (by simp) ?_
        repeat (first | refine chk.ga ?_ | simp -dsimp [h2, q3, h6, q7, o_h, o_h20, o_h25, h28, h30, q31, h36, q37, h42, q43])
        refine abr.split (fun h48 => ?_) (fun h48 => ?_)
        ·have q49 : ¬ (v46.2 < 0) := auq h48
         rw [if_neg q49] at hF
         repeat (first | refine chk.ga ?_ | simp -dsimp [h2, q3, h6, q7, o_h, o_h20, o_h25, h28, h30, q31, h36, q37, h42, q43, h48, q49])
         have hF := ob hF; obtain ⟨v50, e51, hF⟩ := hF
         refine ((C.laws_eqExpr B hB1 hB2 v23.1 v14.1 v50 e51)).lend (by first | simp -dsimp [h2, q3, h6, q7, o_h, o_h20, o_h25, h28, h30, q31, h36, q37, h42, q43, h48, q49]; done | simp_all) (by simp -dsimp) ?_
         repeat (first | refine chk.ga ?_ | simp -dsimp [h2, q3, h6, q7, o_h, o_h20, o_h25, h28, h30, q31, h36, q37, h42, q43, h48, q49])
         refine abr.split (fun h52 => ?_) (fun h52 => ?_)
         ·have q53 : (v50 = true) := auq h52
          rw [if_pos q53] at hF
          repeat (first | refine chk.ga ?_ | simp -dsimp [h2, q3, h6, q7, o_h, o_h20, o_h25, h28, h30, q31, h36, q37, h42, q43, h48, q49, h52])
          refine ACall.inl Try.func43 (by kernel_rfl) rfl Try.ntmps43 (by simp) ?_
          repeat (first | refine chk.ga ?_ | simp -dsimp [h2, q3, h6, q7, o_h, o_h20, o_h25, h28, h30, q31, h36, q37, h42, q43, h48, q49, h52])
          have hF := ob hF; obtain ⟨v54, e55, hF⟩ := hF
          refine ((C.laws_markExprS B hB1 hB2 v23.1.kids 1 v54 e55)).go 6 rfl (by simp) ?_
          repeat (first | refine chk.ga ?_ | simp -dsimp [h2, q3, h6, q7, o_h, o_h20, o_h25, h28, h30, q31, h36, q37, h42, q43, h48, q49, h52])
          have hF := ob hF; obtain ⟨v56, e57, hF⟩ := hF
          refine ((C.laws_heldExpr B hB1 hB2 (⟨v23.1.op, v23.1.n, v23.1.ctor, v54.1⟩ : Vl.Expr) (1 : Int) v56 e57)).lend (by first | simp -dsimp [h2, q3, h6, q7, o_h, o_h20, o_h25, h28, h30, q31, h36, q37, h42, q43, h48, q49, h52]; done | simp_all) (by simp -dsimp) ?_
          repeat (first | refine chk.ga ?_ | simp -dsimp [h2, q3, h6, q7, o_h, o_h20, o_h25, h28, h30, q31, h36, q37, h42, q43, h48, q49, h52])
          refine abr.split (fun h58 => ?_) (fun h58 => ?_)
          ·have q59 : (v56 < 0) := auq h58
           rw [if_pos q59] at hF
           cases hF
           repeat (first | refine chk.ga ?_ | simp -dsimp [h2, q3, h6, q7, o_h, o_h20, o_h25, h28, h30, q31, h36, q37, h42, q43, h48, q49, h52, h58])
           all_goals (try omega)
          ·have q59 : ¬ (v56 < 0) := auq h58
           rw [if_neg q59] at hF
           repeat (first | refine chk.ga ?_ | simp -dsimp [h2, q3, h6, q7, o_h, o_h20, o_h25, h28, h30, q31, h36, q37, h42, q43, h48, q49, h52, h58, q59])
           refine abr.split (fun h60 => ?_) (fun h60 => ?_)
           ·have q61 : ¬ (v56 = v54.2) := auq h60
            rw [if_neg q61] at hF
            cases hF
            repeat (first | refine chk.ga ?_ | simp -dsimp [h2, q3, h6, q7, o_h, o_h20, o_h25, h28, h30, q31, h36, q37, h42, q43, h48, q49, h52, h58, q59, h60, q61])
            all_goals (try omega)
           ·have q61 : (v56 = v54.2) := auq h60
            rw [if_pos q61] at hF
            repeat (first | refine chk.ga ?_ | simp -dsimp [h2, q3, h6, q7, o_h, o_h20, o_h25, h28, h30, q31, h36, q37, h42, q43, h48, q49, h52, h58, q59, h60, q61])
            refine ADraw.opn ?_
            refine ADraw.effF [] [0, 1, 2, 3, 4, 5, 6, 10, 7, 8, 9, 11, 12] [39] 6 [0, 1, 2, 3, 4, 5, 7, 6, 8, 9, 10, 11, 12] [101, 102, 103, 104, 105, 106] [(0, 0), (0, 3), (0, 0), (0, 3), (0, 0), (0, 3), (0, 3), (0, 3), (1, 2), (1, 2), (1, 3), (0, 3), (3, 3)] [1, 1, 1, 1, 1, 1, 1, 1, 1, 0, 0, 1, 1] [(0, 1), (0, 3), (0, 1), (0, 3), (0, 1), (0, 3), (0, 3), (0, 3), (2, 2), (2, 2), (2, 3), (0, 3), (3, 3)] [1, 1, 2, 1, 2, 1, 1, 1, 1, 1, 0, 1, 1] (by decide) follows (by kernel_rfl) (by kernel_rfl) (by kernel_rfl) (by kernel_rfl) (by kernel_rfl) (by kernel_rfl) (by kernel_rfl) (by kernel_rfl) (by kernel_rfl) (by kernel_rfl) (by kernel_rfl) (by kernel_rfl) (by kernel_rfl) (by kernel_rfl) (by kernel_rfl) rfl (by kernel_rfl) rfl ?_
            intro L hL
            simp only [permL_nil, permL_cons, List.getD_cons_zero, List.getD_cons_succ, List.toList_toArray] at hL
            subst hL
            repeat (first | refine chk.ga ?_ | simp -dsimp [h2, q3, h6, q7, o_h, o_h20, o_h25, h28, h30, q31, h36, q37, h42, q43, h48, q49, h52, h58, q59, h60, q61])
            have hF := ob hF; obtain ⟨v62, e63, hF⟩ := hF
            refine ((C.laws_toDataS B hB1 hB2 aW v62 e63)).pgoW (by first | simp [h2, q3, h6, q7, o_h, o_h20, o_h25, h28, h30, q31, h36, q37, h42, q43, h48, q49, h52, h58, q59, h60, q61]; done | simp_all) (by simp) ?_
            repeat (first | refine chk.ga ?_ | simp -dsimp [h2, q3, h6, q7, o_h, o_h20, o_h25, h28, h30, q31, h36, q37, h42, q43, h48, q49, h52, h58, q59, h60, q61])
            have hF := ob hF; obtain ⟨v64, e65, hF⟩ := hF
            refine ((C.laws_toType B hB1 hB2 aT v64 e65)).pgoW (by first | simp [h2, q3, h6, q7, o_h, o_h20, o_h25, h28, h30, q31, h36, q37, h42, q43, h48, q49, h52, h58, q59, h60, q61]; done | simp_all) (by simp) ?_
            repeat (first | refine chk.ga ?_ | simp -dsimp [h2, q3, h6, q7, o_h, o_h20, o_h25, h28, h30, q31, h36, q37, h42, q43, h48, q49, h52, h58, q59, h60, q61])
            have hF := ob hF; obtain ⟨v66, e67, hF⟩ := hF
            refine ((C.laws_toValue B hB1 hB2 aV v66 e67)).pgoW (by first | simp [h2, q3, h6, q7, o_h, o_h20, o_h25, h28, h30, q31, h36, q37, h42, q43, h48, q49, h52, h58, q59, h60, q61]; done | simp_all) (by simp) ?_
            repeat (first | refine chk.ga ?_ | simp -dsimp [h2, q3, h6, q7, o_h, o_h20, o_h25, h28, h30, q31, h36, q37, h42, q43, h48, q49, h52, h58, q59, h60, q61])
            refine ⟨holdI ?_, ?_⟩
            ·intro L2 hL2
             simp only [permL_nil, permL_cons, List.getD_cons_zero, List.getD_cons_succ, List.toList_toArray] at hL2
             subst hL2
             repeat (first | refine chk.ga ?_ | simp -dsimp [h2, q3, h6, q7, o_h, o_h20, o_h25, h28, h30, q31, h36, q37, h42, q43, h48, q49, h52, h58, q59, h60, q61])
             refine ((C.laws_toDataS B hB1 hB2 aW v62 e63)).pgoW (by first | simp [h2, q3, h6, q7, o_h, o_h20, o_h25, h28, h30, q31, h36, q37, h42, q43, h48, q49, h52, h58, q59, h60, q61]; done | simp_all) (by simp) ?_
             repeat (first | refine chk.ga ?_ | simp -dsimp [h2, q3, h6, q7, o_h, o_h20, o_h25, h28, h30, q31, h36, q37, h42, q43, h48, q49, h52, h58, q59, h60, q61])
             refine ((C.laws_toType B hB1 hB2 aT v64 e65)).pgoW (by first | simp [h2, q3, h6, q7, o_h, o_h20, o_h25, h28, h30, q31, h36, q37, h42, q43, h48, q49, h52, h58, q59, h60, q61]; done | simp_all) (by simp) ?_
             repeat (first | refine chk.ga ?_ | simp -dsimp [h2, q3, h6, q7, o_h, o_h20, o_h25, h28, h30, q31, h36, q37, h42, q43, h48, q49, h52, h58, q59, h60, q61])
             refine ((C.laws_toValue B hB1 hB2 aV v66 e67)).pgoW (by first | simp [h2, q3, h6, q7, o_h, o_h20, o_h25, h28, h30, q31, h36, q37, h42, q43, h48, q49, h52, h58, q59, h60, q61]; done | simp_all) (by simp) ?_
             repeat (first | refine chk.ga ?_ | simp -dsimp [h2, q3, h6, q7, o_h, o_h20, o_h25, h28, h30, q31, h36, q37, h42, q43, h48, q49, h52, h58, q59, h60, q61])
             have hF := ob hF; obtain ⟨v68, e69, hF⟩ := hF
             refine ((C.impl_ExprOf__f B hB1 hB2 v62 v64 v66 v68 e69)).ngo1 (by first | simp -dsimp [h2, q3, h6, q7, o_h, o_h20, o_h25, h28, h30, q31, h36, q37, h42, q43, h48, q49, h52, h58, q59, h60, q61]; done | simp_all) (by simp) (fun h70 o_h70 => ?_)
             repeat (first | refine chk.ga ?_ | simp -dsimp [h2, q3, h6, q7, o_h, o_h20, o_h25, h28, h30, q31, h36, q37, h42, q43, h48, q49, h52, h58, q59, h60, q61, o_h70])
             have hF := ob hF; obtain ⟨v71, e72, hF⟩ := hF
             refine ((C.laws_eqExpr B hB1 hB2 v68.1 v14.1 v71 e72)).lend (by first | simp -dsimp [h2, q3, h6, q7, o_h, o_h20, o_h25, h28, h30, q31, h36, q37, h42, q43, h48, q49, h52, h58, q59, h60, q61, o_h70]; done | simp_all) (by simp -dsimp) ?_
             repeat (first | refine chk.ga ?_ | simp -dsimp [h2, q3, h6, q7, o_h, o_h20, o_h25, h28, h30, q31, h36, q37, h42, q43, h48, q49, h52, h58, q59, h60, q61, o_h70])
             refine abr.split (fun h73 => ?_) (fun h73 => ?_)
             ·have q74 : (v71 = true) := auq h73
              rw [if_pos q74] at hF
              repeat (first | refine chk.ga ?_ | simp -dsimp [h2, q3, h6, q7, o_h, o_h20, o_h25, h28, h30, q31, h36, q37, h42, q43, h48, q49, h52, h58, q59, h60, q61, o_h70, h73])
              refine abr.split (fun h75 => ?_) (fun h75 => ?_)
              ·have q76 : ¬ (v68.2 = v14.2) := auq h75
               rw [if_neg q76] at hF
               cases hF
               repeat (first | refine chk.ga ?_ | simp -dsimp [h2, q3, h6, q7, o_h, o_h20, o_h25, h28, h30, q31, h36, q37, h42, q43, h48, q49, h52, h58, q59, h60, q61, o_h70, h73, h75, q76])
               all_goals (try omega)
              ·have q76 : (v68.2 = v14.2) := auq h75
               rw [if_pos q76] at hF
               repeat (first | refine chk.ga ?_ | simp -dsimp [h2, q3, h6, q7, o_h, o_h20, o_h25, h28, h30, q31, h36, q37, h42, q43, h48, q49, h52, h58, q59, h60, q61, o_h70, h73, h75, q76])
               have hF := ob hF; obtain ⟨v77, e78, hF⟩ := hF
               refine ((C.laws_heldExpr B hB1 hB2 (⟨v23.1.op, v23.1.n, v23.1.ctor, v54.1⟩ : Vl.Expr) (1 : Int) v77 e78)).lend (by first | simp -dsimp [h2, q3, h6, q7, o_h, o_h20, o_h25, h28, h30, q31, h36, q37, h42, q43, h48, q49, h52, h58, q59, h60, q61, o_h70, h73, h75, q76]; done | simp_all) (by simp -dsimp) ?_
               repeat (first | refine chk.ga ?_ | simp -dsimp [h2, q3, h6, q7, o_h, o_h20, o_h25, h28, h30, q31, h36, q37, h42, q43, h48, q49, h52, h58, q59, h60, q61, o_h70, h73, h75, q76])
               refine abr.split (fun h79 => ?_) (fun h79 => ?_)
               ·have q80 : (v77 < 0) := auq h79
                rw [if_pos q80] at hF
                cases hF
                repeat (first | refine chk.ga ?_ | simp -dsimp [h2, q3, h6, q7, o_h, o_h20, o_h25, h28, h30, q31, h36, q37, h42, q43, h48, q49, h52, h58, q59, h60, q61, o_h70, h73, h75, q76, h79])
                all_goals (try omega)
               ·have q80 : ¬ (v77 < 0) := auq h79
                rw [if_neg q80] at hF
                repeat (first | refine chk.ga ?_ | simp -dsimp [h2, q3, h6, q7, o_h, o_h20, o_h25, h28, h30, q31, h36, q37, h42, q43, h48, q49, h52, h58, q59, h60, q61, o_h70, h73, h75, q76, h79, q80])
                refine abr.split (fun h81 => ?_) (fun h81 => ?_)
                ·have q82 : ¬ (v77 = v54.2) := auq h81
                 rw [if_neg q82] at hF
                 cases hF
                 repeat (first | refine chk.ga ?_ | simp -dsimp [h2, q3, h6, q7, o_h, o_h20, o_h25, h28, h30, q31, h36, q37, h42, q43, h48, q49, h52, h58, q59, h60, q61, o_h70, h73, h75, q76, h79, q80, h81, q82])
                 all_goals (try omega)
                ·have q82 : (v77 = v54.2) := auq h81
                 rw [if_pos q82] at hF
                 cases hF
                 repeat (first | refine chk.ga ?_ | simp -dsimp [h2, q3, h6, q7, o_h, o_h20, o_h25, h28, h30, q31, h36, q37, h42, q43, h48, q49, h52, h58, q59, h60, q61, o_h70, h73, h75, q76, h79, q80, h81, q82])
                 all_goals (try omega)
             ·have q74 : ¬ (v71 = true) := auq h73
              rw [if_neg q74] at hF
              cases hF
              repeat (first | refine chk.ga ?_ | simp -dsimp [h2, q3, h6, q7, o_h, o_h20, o_h25, h28, h30, q31, h36, q37, h42, q43, h48, q49, h52, h58, q59, h60, q61, o_h70, h73, q74])
              all_goals (try omega)
            ·have hF := ob hF; obtain ⟨v68, e69, hF⟩ := hF
             refine ((C.impl_ExprOf__f B hB1 hB2 v62 v64 v66 v68 e69)).ngo1 (by first | simp -dsimp [h2, q3, h6, q7, o_h, o_h20, o_h25, h28, h30, q31, h36, q37, h42, q43, h48, q49, h52, h58, q59, h60, q61]; done | simp_all) (by simp) (fun h70 o_h70 => ?_)
             repeat (first | refine chk.ga ?_ | simp -dsimp [h2, q3, h6, q7, o_h, o_h20, o_h25, h28, h30, q31, h36, q37, h42, q43, h48, q49, h52, h58, q59, h60, q61, o_h70])
             have hF := ob hF; obtain ⟨v71, e72, hF⟩ := hF
             refine ((C.laws_eqExpr B hB1 hB2 v68.1 v14.1 v71 e72)).lend (by first | simp -dsimp [h2, q3, h6, q7, o_h, o_h20, o_h25, h28, h30, q31, h36, q37, h42, q43, h48, q49, h52, h58, q59, h60, q61, o_h70]; done | simp_all) (by simp -dsimp) ?_
             repeat (first | refine chk.ga ?_ | simp -dsimp [h2, q3, h6, q7, o_h, o_h20, o_h25, h28, h30, q31, h36, q37, h42, q43, h48, q49, h52, h58, q59, h60, q61, o_h70])
             refine abr.split (fun h73 => ?_) (fun h73 => ?_)
             ·have q74 : (v71 = true) := auq h73
              rw [if_pos q74] at hF
              repeat (first | refine chk.ga ?_ | simp -dsimp [h2, q3, h6, q7, o_h, o_h20, o_h25, h28, h30, q31, h36, q37, h42, q43, h48, q49, h52, h58, q59, h60, q61, o_h70, h73])
              refine abr.split (fun h75 => ?_) (fun h75 => ?_)
              ·have q76 : ¬ (v68.2 = v14.2) := auq h75
               rw [if_neg q76] at hF
               cases hF
               repeat (first | refine chk.ga ?_ | simp -dsimp [h2, q3, h6, q7, o_h, o_h20, o_h25, h28, h30, q31, h36, q37, h42, q43, h48, q49, h52, h58, q59, h60, q61, o_h70, h73, h75, q76])
               all_goals (try omega)
              ·have q76 : (v68.2 = v14.2) := auq h75
               rw [if_pos q76] at hF
               repeat (first | refine chk.ga ?_ | simp -dsimp [h2, q3, h6, q7, o_h, o_h20, o_h25, h28, h30, q31, h36, q37, h42, q43, h48, q49, h52, h58, q59, h60, q61, o_h70, h73, h75, q76])
               have hF := ob hF; obtain ⟨v77, e78, hF⟩ := hF
               refine ((C.laws_heldExpr B hB1 hB2 (⟨v23.1.op, v23.1.n, v23.1.ctor, v54.1⟩ : Vl.Expr) (1 : Int) v77 e78)).lend (by first | simp -dsimp [h2, q3, h6, q7, o_h, o_h20, o_h25, h28, h30, q31, h36, q37, h42, q43, h48, q49, h52, h58, q59, h60, q61, o_h70, h73, h75, q76]; done | simp_all) (by simp -dsimp) ?_
               repeat (first | refine chk.ga ?_ | simp -dsimp [h2, q3, h6, q7, o_h, o_h20, o_h25, h28, h30, q31, h36, q37, h42, q43, h48, q49, h52, h58, q59, h60, q61, o_h70, h73, h75, q76])
               refine abr.split (fun h79 => ?_) (fun h79 => ?_)
               ·have q80 : (v77 < 0) := auq h79
                rw [if_pos q80] at hF
                cases hF
                repeat (first | refine chk.ga ?_ | simp -dsimp [h2, q3, h6, q7, o_h, o_h20, o_h25, h28, h30, q31, h36, q37, h42, q43, h48, q49, h52, h58, q59, h60, q61, o_h70, h73, h75, q76, h79])
                all_goals (try omega)
               ·have q80 : ¬ (v77 < 0) := auq h79
                rw [if_neg q80] at hF
                repeat (first | refine chk.ga ?_ | simp -dsimp [h2, q3, h6, q7, o_h, o_h20, o_h25, h28, h30, q31, h36, q37, h42, q43, h48, q49, h52, h58, q59, h60, q61, o_h70, h73, h75, q76, h79, q80])
                refine abr.split (fun h81 => ?_) (fun h81 => ?_)
                ·have q82 : ¬ (v77 = v54.2) := auq h81
                 rw [if_neg q82] at hF
                 cases hF
                 repeat (first | refine chk.ga ?_ | simp -dsimp [h2, q3, h6, q7, o_h, o_h20, o_h25, h28, h30, q31, h36, q37, h42, q43, h48, q49, h52, h58, q59, h60, q61, o_h70, h73, h75, q76, h79, q80, h81, q82])
                 all_goals (try omega)
                ·have q82 : (v77 = v54.2) := auq h81
                 rw [if_pos q82] at hF
                 cases hF
                 repeat (first | refine chk.ga ?_ | simp -dsimp [h2, q3, h6, q7, o_h, o_h20, o_h25, h28, h30, q31, h36, q37, h42, q43, h48, q49, h52, h58, q59, h60, q61, o_h70, h73, h75, q76, h79, q80, h81, q82])
                 all_goals (try omega)
             ·have q74 : ¬ (v71 = true) := auq h73
              rw [if_neg q74] at hF
              cases hF
              repeat (first | refine chk.ga ?_ | simp -dsimp [h2, q3, h6, q7, o_h, o_h20, o_h25, h28, h30, q31, h36, q37, h42, q43, h48, q49, h52, h58, q59, h60, q61, o_h70, h73, q74])
              all_goals (try omega)
         ·have q53 : ¬ (v50 = true) := auq h52
          rw [if_neg q53] at hF
          cases hF
          repeat (first | refine chk.ga ?_ | simp -dsimp [h2, q3, h6, q7, o_h, o_h20, o_h25, h28, h30, q31, h36, q37, h42, q43, h48, q49, h52, q53])
          all_goals (try omega)
        ·have q49 : (v46.2 < 0) := auq h48
         rw [if_pos q49] at hF
         cases hF
         repeat (first | refine chk.ga ?_ | simp -dsimp [h2, q3, h6, q7, o_h, o_h20, o_h25, h28, h30, q31, h36, q37, h42, q43, h48, q49])
         all_goals (try omega)
    ·have q29 : ¬ (v26 = true) := auq h28
     rw [if_neg q29] at hF
     cases hF
     repeat (first | refine chk.ga ?_ | simp -dsimp [h2, q3, h6, q7, o_h, o_h20, o_h25, h28, q29])
     all_goals (try omega)

end Go.Proofs.Ytelglbenbnkjmaa
