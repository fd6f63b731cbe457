/- The contracts: the code computes the functions (printed by gen.py). -/
import Derived.Test.YtdehlcjhndoclaaGreatDoorProg
import Derived.Test.YtdehlcjhndoclaaGreatDoorExactFormatExprF
import Derived.Test.YtdehlcjhndoclaaGreatDoorExactFormatExprC1
import Derived.Test.YtdehlcjhndoclaaGreatDoorVlShelf
import Derived.Test.YtdehlcjhndoclaaGreatDoorShelf
namespace Go.Proofs.YtdehlcjhndoclaaGreatDoor
open Go Go.Proofs Go.Vl
set_option linter.unusedSimpArgs false
set_option linter.unusedVariables false
set_option linter.unusedSectionVars false
set_option maxRecDepth 100000
set_option maxHeartbeats 4000000

attribute [local irreducible] ECallA NCallA aL aLg AMake MLoop AgainM LeaveM awpM aopsM MutCall BCall chk abr ACall ALoop ALoopU ADraw Again Leave PCallA PCall Post awp aops PureCall hold

variable (B : Nat) (hB1 : 67108864 ≤ B) (hB2 : B ≤ 9223372036854775807)
include hB1 hB2

theorem CC.impl_argTypes_l2 (x2 : Vl.Ctor) : (∀ (i18 : Nat) (out19 : List Vl.Ty) (o : List Vl.Ty), F.impl_argTypes_l2 x2 i18 out19 = some o → ∀ (c : Code), navO [1, 1, 1, 1, 1, 0, 1, 0, 0] (bodyOf Tryz.f94) = some c → ∀ (Q : Exit → ASt → Prop), (Q (.exit 0) ⟨[(9, .own 2 (List.length (α := Vl.Ty) o))], [.dead, .dead, .elems 2 (List.map Vl.Ty.c o)]⟩) → ALoopU Tryz.prog B 0 45 (hold c .mk) ⟨[(8, .lit (.int .i64 x2.index)), (9, .own 2 (List.length (α := Vl.Ty) out19)), (28, .arr (List.map Vl.Ty.c x2.args)), (29, .lit (.int .i64 (x2.args.length : Int))), (30, .lit (.int .i64 (i18 : Int)))], [.dead, .dead, .elems 2 (List.map Vl.Ty.c out19)]⟩ (hold Q .mk)) := by
 refine F.impl_argTypes_l2.partial_correctness x2
  _
  ?_
 ·intro _f_impl_argTypes_l2 ih_impl_argTypes_l2 i18 out19 o hF
  intro c hc Q hq
  obtain rfl : c = _ := navEq hc rfl
  refine ALoopU.know fun hk hs => ?_
  have b28 := hk 28
  simp -dsimp at b28
  have d2 := hs 2 _ rfl
  simp -dsimp [Blk.bnd] at d2
  clear hk hs
  refine ALoopU.enter ?_
  repeat (first | refine chk.ga ?_ | simp -dsimp)
  refine abr.split (fun h20 => ?_) (fun h20 => ?_)
  ·have q21 : (i18 < x2.args.length) := auq h20
   have z22 : ((i18 : Int) < (x2.args.length : Int)) := auz
   rw [if_pos q21] at hF
   have hF := ob hF; obtain ⟨x23, e24, hF⟩ := hF
   have le24 := lt_of_get e24
   repeat (first | refine chk.ga ?_ | simp -dsimp [h20, z22, ↓e24])
   refine abr.split (fun h25 => ?_) (fun h25 => ?_)
   ·have q26 : (x23.index = (-1)) := auq h25
    rw [if_pos q26] at hF
    have hF := oc hF; obtain ⟨c27, hF⟩ := hF
    have w28 : IntKind.i64.wrap ((i18 : Int) + 1) = (i18 : Int) + 1 := wrap_in (by omega) (by omega)
    repeat (first | refine chk.ga ?_ | simp -dsimp [h20, z22, ↓e24, h25, w28])
    refine Again.go _ ?_ ((ih_impl_argTypes_l2 (i18 + 1) (out19 ++ [(⟨x23.data, x2.index⟩ : Vl.Ty)]) o hF) _ rfl _ hq)
    exact (Gh.to3 (by simp) (by first | simp -dsimp [h20, z22, ↓e24, h25, w28]; done | simp_all))
   ·have q26 : ¬ (x23.index = (-1)) := auq h25
    rw [if_neg q26] at hF
    have hF := oc hF; obtain ⟨c29, hF⟩ := hF
    have w30 : IntKind.i64.wrap ((i18 : Int) + 1) = (i18 : Int) + 1 := wrap_in (by omega) (by omega)
    repeat (first | refine chk.ga ?_ | simp -dsimp [h20, z22, ↓e24, h25, q26, w30])
    refine Again.go _ ?_ ((ih_impl_argTypes_l2 (i18 + 1) (out19 ++ [x23]) o hF) _ rfl _ hq)
    exact (Gh.to3 (by simp) (by first | simp -dsimp [h20, z22, ↓e24, h25, q26, w30]; done | simp_all))
  ·have q21 : ¬ (i18 < x2.args.length) := auq h20
   have z22 : ¬ ((i18 : Int) < (x2.args.length : Int)) := auz
   rw [if_neg q21] at hF
   cases hF
   repeat (first | refine chk.ga ?_ | simp -dsimp [h20, q21, z22])
   refine Leave.go ⟨[(9, .own 2 (List.length (α := Vl.Ty) out19))], [.dead, .dead, .elems 2 (List.map Vl.Ty.c out19)]⟩ (Gh.to3 (by simp) (by first | simp -dsimp [h20, q21, z22]; done | simp_all)) ?_
   exact hq

theorem C.impl_argTypes (w : List Vl.Data) (t : Vl.Ty) (ctor : Int) (r : List Vl.Ty) (hF : F.impl_argTypes w t ctor = some r) : PureCall Tryz.prog B 94 [.arr (List.map Vl.Data.c w), .agg [.lit (.int .i64 t.data), .lit (.int .i64 t.index)], .lit (.int .i64 ctor)] (.arr (List.map Vl.Ty.c r)) := by
 unfold F.impl_argTypes at hF
 refine PureCall.enterLe Tryz.func94 (by kernel_rfl) rfl Tryz.ntmps94 (by simp) (by simp) ?_
 have hF := ob hF; obtain ⟨x, e1a, hF⟩ := hF
 have e1a := at_some e1a; obtain ⟨ne1, e1⟩ := e1a
 have le1 := lt_of_get e1
 have hF := ob hF; obtain ⟨x2, e3a, hF⟩ := hF
 have e3a := at_some e3a; obtain ⟨ne3, e3⟩ := e3a
 have le3 := lt_of_get e3
 repeat (first | refine chk.ga ?_ | simp -dsimp [↓e1, ↓e3])
 refine abr.split (fun h4 => ?_) (fun h4 => ?_)
 ·have q5 : (x2.index = 0) := auq h4
  rw [if_pos q5] at hF
  repeat (first | refine chk.ga ?_ | simp -dsimp [↓e1, ↓e3, h4])
  have hF := ob hF; obtain ⟨o', ho17, hF⟩ := hF
  refine ALoop.goU ⟨[(8, .lit (.int .i64 t.index)), (9, .own 2 (List.length (α := Vl.Ty) [])), (28, .arr (List.map Vl.Ty.c x2.args)), (29, .lit (.int .i64 (x2.args.length : Int))), (30, .lit (.int .i64 (0 : Int)))], [.dead, .dead, .elems 2 (List.map Vl.Ty.c [])]⟩ (by refine Gh.trans (Gh.nil 9 2 (by simp -dsimp)) ?_; exact (Gh.to3 (by simp) (by first | simp -dsimp [↓e1, ↓e3, h4]; done | simp_all))) ?_
  refine ((CC.impl_argTypes_l1 B hB1 hB2 t x2) 0 [] o' ho17) _ rfl _ ?_
  cases hF
  repeat (first | refine chk.ga ?_ | simp -dsimp)
  all_goals (try first | omega | rfl)
 ·have q5 : ¬ (x2.index = 0) := auq h4
  rw [if_neg q5] at hF
  repeat (first | refine chk.ga ?_ | simp -dsimp [↓e1, ↓e3, h4, q5])
  have hF := ob hF; obtain ⟨o'32, ho31, hF⟩ := hF
  refine ALoop.goU ⟨[(8, .lit (.int .i64 x2.index)), (9, .own 2 (List.length (α := Vl.Ty) [])), (28, .arr (List.map Vl.Ty.c x2.args)), (29, .lit (.int .i64 (x2.args.length : Int))), (30, .lit (.int .i64 (0 : Int)))], [.dead, .dead, .elems 2 (List.map Vl.Ty.c [])]⟩ (by refine Gh.trans (Gh.nil 9 2 (by simp -dsimp)) ?_; exact (Gh.to3 (by simp) (by first | simp -dsimp [↓e1, ↓e3, h4, q5]; done | simp_all))) ?_
  refine ((CC.impl_argTypes_l2 B hB1 hB2 x2) 0 [] o'32 ho31) _ rfl _ ?_
  cases hF
  repeat (first | refine chk.ga ?_ | simp -dsimp)
  all_goals (try first | omega | rfl)

theorem C.impl_scope_kids (s : Vl.T_impl_scope) (t : Vl.Ty) (e : Vl.Expr) (r : (List Vl.Ty) × Bool) (hF : F.impl_scope_kids s t e = some r) : PureCall Tryz.prog B 56 [.agg [.arr (List.map Vl.Data.c s.f0), .arr (List.map Vl.FunType.c s.f1), .arr (List.map Vl.VarType.c s.f2)], .agg [.lit (.int .i64 t.data), .lit (.int .i64 t.index)], .agg [.lit (.int .i64 e.op), .lit (.int .i64 e.n), .lit (.int .i64 e.ctor), .arr (List.map Vl.Expr.c e.kids)]] (.tup [.arr (List.map Vl.Ty.c r.1), .lit (.bool r.2)]) := by
 unfold F.impl_scope_kids at hF
 refine PureCall.enterLe Tryz.func56 (by kernel_rfl) rfl Tryz.ntmps56 (by simp) (by simp) ?_
 repeat (first | refine chk.ga ?_ | simp -dsimp)
 refine abr.split (fun h1 => ?_) (fun h1 => ?_)
 ·have q2 : (e.op = 1) := auq h1
  rw [if_pos q2] at hF
  repeat (first | refine chk.ga ?_ | simp -dsimp [h1])
  refine ADraw.simple follows (by kernel_rfl) (by kernel_rfl) ?_
  repeat (first | refine chk.ga ?_ | simp -dsimp [h1])
  refine abr.split (fun h3 => ?_) (fun h3 => ?_)
  ·have q4 : (t.data = (-1)) := auq h3
   rw [if_pos q4] at hF
   repeat (first | refine chk.ga ?_ | simp -dsimp [h1, h3])
   have hF := ob hF; obtain ⟨v, e5, hF⟩ := hF
   refine ((C.impl_within B hB1 hB2 e.n (0 : Int) (9 : Int) v e5)).pgoW (by first | simp [h1, h3]; done | simp_all) (by simp) ?_
   repeat (first | refine chk.ga ?_ | simp -dsimp [h1, h3])
   refine abr.split (fun h6 => ?_) (fun h6 => ?_)
   ·have q7 : (v = true) := auq h6
    rw [if_pos q7] at hF
    cases hF
    repeat (first | refine chk.ga ?_ | simp -dsimp [h1, h3, h6])
    all_goals (try first | omega | rfl)
   ·have q7 : ¬ (v = true) := auq h6
    rw [if_neg q7] at hF
    cases hF
    repeat (first | refine chk.ga ?_ | simp -dsimp [h1, h3, h6, q7])
    all_goals (try first | omega | rfl)
  ·have q4 : ¬ (t.data = (-1)) := auq h3
   rw [if_neg q4] at hF
   cases hF
   repeat (first | refine chk.ga ?_ | simp -dsimp [h1, h3, q4])
   all_goals (try first | omega | rfl)
 ·have q2 : ¬ (e.op = 1) := auq h1
  rw [if_neg q2] at hF
  repeat (first | refine chk.ga ?_ | simp -dsimp [h1, q2])
  refine abr.split (fun h8 => ?_) (fun h8 => ?_)
  ·have q9 : (e.op = 2) := auq h8
   rw [if_pos q9] at hF
   repeat (first | refine chk.ga ?_ | simp -dsimp [h1, q2, h8])
   have hF := ob hF; obtain ⟨v10, e11, hF⟩ := hF
   refine ((C.impl_scope_typeOfVar B hB1 hB2 s e.n v10 e11)).goW (by first | simp [h1, q2, h8]; done | simp_all) (by simp) ?_
   repeat (first | refine chk.ga ?_ | simp -dsimp [h1, q2, h8])
   refine ADraw.simple follows (by kernel_rfl) (by kernel_rfl) ?_
   repeat (first | refine chk.ga ?_ | simp -dsimp [h1, q2, h8])
   refine abr.split (fun h12 => ?_) (fun h12 => ?_)
   ·have q13 : (v10.2 = true) := auq h12
    rw [if_pos q13] at hF
    repeat (first | refine chk.ga ?_ | simp -dsimp [h1, q2, h8, h12])
    have hF := ob hF; obtain ⟨v14, e15, hF⟩ := hF
    refine ((C.impl_fits B hB1 hB2 v10.1 t v14 e15)).pgoW (by first | simp [h1, q2, h8, h12]; done | simp_all) (by simp) ?_
    repeat (first | refine chk.ga ?_ | simp -dsimp [h1, q2, h8, h12])
    refine abr.split (fun h16 => ?_) (fun h16 => ?_)
    ·have q17 : (v14 = true) := auq h16
     rw [if_pos q17] at hF
     cases hF
     repeat (first | refine chk.ga ?_ | simp -dsimp [h1, q2, h8, h12, h16])
     all_goals (try first | omega | rfl)
    ·have q17 : ¬ (v14 = true) := auq h16
     rw [if_neg q17] at hF
     cases hF
     repeat (first | refine chk.ga ?_ | simp -dsimp [h1, q2, h8, h12, h16, q17])
     all_goals (try first | omega | rfl)
   ·have q13 : ¬ (v10.2 = true) := auq h12
    rw [if_neg q13] at hF
    cases hF
    repeat (first | refine chk.ga ?_ | simp -dsimp [h1, q2, h8, h12, q13])
    all_goals (try first | omega | rfl)
  ·have q9 : ¬ (e.op = 2) := auq h8
   rw [if_neg q9] at hF
   repeat (first | refine chk.ga ?_ | simp -dsimp [h1, q2, h8, q9])
   refine abr.split (fun h18 => ?_) (fun h18 => ?_)
   ·have q19 : (e.op = 3) := auq h18
    rw [if_pos q19] at hF
    repeat (first | refine chk.ga ?_ | simp -dsimp [h1, q2, h8, q9, h18])
    refine ADraw.simple follows (by kernel_rfl) (by kernel_rfl) ?_
    repeat (first | refine chk.ga ?_ | simp -dsimp [h1, q2, h8, q9, h18])
    refine abr.split (fun h20 => ?_) (fun h20 => ?_)
    ·have q21 : (e.n = 0) := auq h20
     rw [if_pos q21] at hF
     repeat (first | refine chk.ga ?_ | simp -dsimp [h1, q2, h8, q9, h18, h20])
     have hF := ob hF; obtain ⟨v22, e23, hF⟩ := hF
     refine ((C.impl_ctorsOf B hB1 hB2 s.f0 t v22 e23)).pgoW (by first | simp [h1, q2, h8, q9, h18, h20]; done | simp_all) (by simp) ?_
     repeat (first | refine chk.ga ?_ | simp -dsimp [h1, q2, h8, q9, h18, h20])
     have hF := ob hF; obtain ⟨v24, e25, hF⟩ := hF
     refine ((C.slices_Contains_int B hB1 hB2 v22 e.ctor v24 e25)).pgoW (by first | simp [h1, q2, h8, q9, h18, h20]; done | simp_all) (by simp) ?_
     repeat (first | refine chk.ga ?_ | simp -dsimp [h1, q2, h8, q9, h18, h20])
     refine abr.split (fun h26 => ?_) (fun h26 => ?_)
     ·have q27 : ¬ (v24 = true) := auq h26
      rw [if_neg q27] at hF
      cases hF
      repeat (first | refine chk.ga ?_ | simp -dsimp [h1, q2, h8, q9, h18, h20, h26, q27])
      all_goals (try first | omega | rfl)
     ·have q27 : (v24 = true) := auq h26
      rw [if_pos q27] at hF
      repeat (first | refine chk.ga ?_ | simp -dsimp [h1, q2, h8, q9, h18, h20, h26, q27])
      have hF := ob hF; obtain ⟨v28, e29, hF⟩ := hF
      refine ((C.impl_argTypes B hB1 hB2 s.f0 t e.ctor v28 e29)).goW (by first | simp [h1, q2, h8, q9, h18, h20, h26, q27]; done | simp_all) (by simp) ?_
      cases hF
      repeat (first | refine chk.ga ?_ | simp -dsimp [h1, q2, h8, q9, h18, h20, h26, q27])
      all_goals (try first | omega | rfl)
    ·have q21 : ¬ (e.n = 0) := auq h20
     rw [if_neg q21] at hF
     cases hF
     repeat (first | refine chk.ga ?_ | simp -dsimp [h1, q2, h8, q9, h18, h20, q21])
     all_goals (try first | omega | rfl)
   ·have q19 : ¬ (e.op = 3) := auq h18
    rw [if_neg q19] at hF
    repeat (first | refine chk.ga ?_ | simp -dsimp [h1, q2, h8, q9, h18, q19])
    refine abr.split (fun h30 => ?_) (fun h30 => ?_)
    ·have q31 : (e.op = 4) := auq h30
     rw [if_pos q31] at hF
     repeat (first | refine chk.ga ?_ | simp -dsimp [h1, q2, h8, q9, h18, q19, h30])
     refine ADraw.eff [] [(0, 0), (0, 0), (0, 1), (0, 1), (0, 1), (0, 1), (0, 1), (0, 1), (0, 1), (0, 1), (0, 1), (0, 1), (0, 1), (0, 1), (0, 1), (0, 1), (1, 1), (1, 1)] [1, 1, 1, 0, 2, 1, 1, 0, 2, 1, 1, 1, 0, 2, 1, 1, 1, 1] follows (by kernel_rfl) (by kernel_rfl) (by kernel_rfl) ?_
     repeat (first | refine chk.ga ?_ | simp -dsimp [h1, q2, h8, q9, h18, q19, h30])
     refine abr.split (fun h32 => ?_) (fun h32 => ?_)
     ·have q33 : (t.data = (-1)) := auq h32
      rw [if_pos q33] at hF
      repeat (first | refine chk.ga ?_ | simp -dsimp [h1, q2, h8, q9, h18, q19, h30, h32])
      refine abr.split (fun h34 => ?_) (fun h34 => ?_)
      ·have q35 : (e.n = 0) := auq h34
       rw [if_pos q35] at hF
       cases hF
       repeat (first | refine chk.ga ?_ | simp -dsimp [h1, q2, h8, q9, h18, q19, h30, h32, h34])
       all_goals (try first | omega | rfl)
      ·have q35 : ¬ (e.n = 0) := auq h34
       rw [if_neg q35] at hF
       cases hF
       repeat (first | refine chk.ga ?_ | simp -dsimp [h1, q2, h8, q9, h18, q19, h30, h32, h34, q35])
       all_goals (try first | omega | rfl)
     ·have q33 : ¬ (t.data = (-1)) := auq h32
      rw [if_neg q33] at hF
      cases hF
      repeat (first | refine chk.ga ?_ | simp -dsimp [h1, q2, h8, q9, h18, q19, h30, h32, q33])
      all_goals (try first | omega | rfl)
    ·have q31 : ¬ (e.op = 4) := auq h30
     rw [if_neg q31] at hF
     repeat (first | refine chk.ga ?_ | simp -dsimp [h1, q2, h8, q9, h18, q19, h30, q31])
     refine abr.split (fun h36 => ?_) (fun h36 => ?_)
     ·have q37 : (e.op = 5) := auq h36
      rw [if_pos q37] at hF
      repeat (first | refine chk.ga ?_ | simp -dsimp [h1, q2, h8, q9, h18, q19, h30, q31, h36])
      have hF := ob hF; obtain ⟨v38, e39, hF⟩ := hF
      refine ((C.impl_within B hB1 hB2 e.n (0 : Int) (IntKind.i64.wrap ((s.f1.length : Int) - 1)) v38 e39)).goW (by first | simp [h1, q2, h8, q9, h18, q19, h30, q31, h36]; done | simp_all) (by simp) ?_
      repeat (first | refine chk.ga ?_ | simp -dsimp [h1, q2, h8, q9, h18, q19, h30, q31, h36])
      refine abr.split (fun h40 => ?_) (fun h40 => ?_)
      ·have q41 : (v38 = true) := auq h40
       rw [if_pos q41] at hF
       repeat (first | refine chk.ga ?_ | simp -dsimp [h1, q2, h8, q9, h18, q19, h30, q31, h36, h40])
       refine abr.split (fun h42 => ?_) (fun h42 => ?_)
       ·have q43 : ¬ (e.ctor = 0) := auq h42
        rw [if_neg q43] at hF
        cases hF
        repeat (first | refine chk.ga ?_ | simp -dsimp [h1, q2, h8, q9, h18, q19, h30, q31, h36, h40, h42, q43])
        all_goals (try first | omega | rfl)
       ·have q43 : (e.ctor = 0) := auq h42
        rw [if_pos q43] at hF
        repeat (first | refine chk.ga ?_ | simp -dsimp [h1, q2, h8, q9, h18, q19, h30, q31, h36, h40, h42, q43])
        refine ADraw.eff [] [(0, 0), (0, 0), (0, 0), (0, 0), (0, 0), (0, 0), (0, 0), (0, 1), (0, 1), (0, 1), (0, 1), (0, 1), (0, 1), (0, 1), (0, 1), (0, 1), (0, 1), (1, 1), (1, 1)] [1, 1, 1, 1, 1, 1, 1, 1, 0, 2, 0, 2, 0, 0, 0, 2, 1, 1, 1] follows (by kernel_rfl) (by kernel_rfl) (by kernel_rfl) ?_
        have hF := ob hF; obtain ⟨x, e44a, hF⟩ := hF
        have e44a := at_some e44a; obtain ⟨ne44, e44⟩ := e44a
        have le44 := lt_of_get e44
        repeat (first | refine chk.ga ?_ | simp -dsimp [h1, q2, h8, q9, h18, q19, h30, q31, h36, h40, h42, q43, ↓e44])
        have hF := ob hF; obtain ⟨v45, e46, hF⟩ := hF
        refine ((C.impl_fits B hB1 hB2 x.res t v45 e46)).pgoW (by first | simp [h1, q2, h8, q9, h18, q19, h30, q31, h36, h40, h42, q43, ↓e44]; done | simp_all) (by simp) ?_
        cases hF
        repeat (first | refine chk.ga ?_ | simp -dsimp [h1, q2, h8, q9, h18, q19, h30, q31, h36, h40, h42, q43, ↓e44])
        all_goals (try first | omega | rfl)
      ·have q41 : ¬ (v38 = true) := auq h40
       rw [if_neg q41] at hF
       cases hF
       repeat (first | refine chk.ga ?_ | simp -dsimp [h1, q2, h8, q9, h18, q19, h30, q31, h36, h40, q41])
       all_goals (try first | omega | rfl)
     ·have q37 : ¬ (e.op = 5) := auq h36
      rw [if_neg q37] at hF
      cases hF
      repeat (first | refine chk.ga ?_ | simp -dsimp [h1, q2, h8, q9, h18, q19, h30, q31, h36, q37])
      all_goals (try first | omega | rfl)

theorem CC.impl_scope_scan (s : Vl.T_impl_scope) : (∀ (t : Vl.Ty) (e : Vl.Expr) (deep : Int) (count : Int) (r : Bool × Int), F.impl_scope_scan s t e deep count = some r → MutCall Tryz.prog B 88 [.lit (.int .i64 count)] [.agg [.arr (List.map Vl.Data.c s.f0), .arr (List.map Vl.FunType.c s.f1), .arr (List.map Vl.VarType.c s.f2)], .agg [.lit (.int .i64 t.data), .lit (.int .i64 t.index)], .agg [.lit (.int .i64 e.op), .lit (.int .i64 e.n), .lit (.int .i64 e.ctor), .arr (List.map Vl.Expr.c e.kids)], .lit (.int .i64 deep), .ptr 0 0] (.lit (.bool r.1)) [.lit (.int .i64 r.2)]) ∧
  (∀ (e : Vl.Expr) (deep : Int) (v : (List Vl.Ty) × Bool) (z : Int) (i : Nat) (o : Lo (Bool × Int) Int), F.impl_scope_scan_l1 s e deep v z i = some o → ∀ (c : Code), navO [1, 1, 1, 1, 1, 0, 1, 0, 0] (bodyOf Tryz.f88) = some c → ∀ (Q : Exit → ASt → Prop), o.post (fun r => ∀ st, Post Tryz.prog Tryz.f88 (fun r' σ' => r'.le (.lit (.bool r.1)) ∧ mcell σ' [.lit (.int .i64 r.2)]) .ret st → Q .ret st) (fun s => Q (.exit 0) ⟨[], [.cells [.lit (.int .i64 s)]]⟩) → ALoopU Tryz.prog B 1 65 (hold c .mk) ⟨[(3, .lit (.int .i64 deep)), (4, .ptr 0 0), (5, .ptr 1 0), (11, .arr (List.map Vl.Ty.c v.1)), (46, .arr (List.map Vl.Expr.c e.kids)), (47, .lit (.int .i64 (e.kids.length : Int))), (48, .lit (.int .i64 (i : Int)))], [.cells [.lit (.int .i64 z)], .cells [.arr (List.map Vl.Data.c s.f0), .arr (List.map Vl.FunType.c s.f1), .arr (List.map Vl.VarType.c s.f2)]]⟩ (hold Q .mk)) := by
 refine F.impl_scope_scan.mutual_partial_correctness s
  _ _
  ?_ ?_
 ·intro _f_impl_scope_scan_l1 ih_impl_scope_scan_l1 t e deep count r hF
  refine MutCall.enter Tryz.func88 (by kernel_rfl) rfl Tryz.ntmps88 (by simp) (by simp) (by simp) (by simp) ?_
  repeat (first | refine chk.ga ?_ | simp -dsimp)
  refine abr.split (fun h1 => ?_) (fun h1 => ?_)
  ·have q2 : ¬ (60 < IntKind.i64.wrap (count + 1)) := auq h1
   rw [if_neg q2] at hF
   repeat (first | refine chk.ga ?_ | simp -dsimp [h1, q2])
   refine abr.split (fun h3 => ?_) (fun h3 => ?_)
   ·have q4 : (10 < deep) := auq h3
    rw [if_pos q4] at hF
    cases hF
    repeat (first | refine chk.ga ?_ | simp -dsimp [h1, q2, h3])
    all_goals (try first | omega | rfl)
   ·have q4 : ¬ (10 < deep) := auq h3
    rw [if_neg q4] at hF
    repeat (first | refine chk.ga ?_ | simp -dsimp [h1, q2, h3, q4])
    have hF := ob hF; obtain ⟨v, e5, hF⟩ := hF
    refine ((C.impl_scope_kids B hB1 hB2 s t e v e5)).goW (by first | simp [h1, q2, h3, q4]; done | simp_all) (by simp) ?_
    repeat (first | refine chk.ga ?_ | simp -dsimp [h1, q2, h3, q4])
    refine abr.split (fun h6 => ?_) (fun h6 => ?_)
    ·have q7 : (v.2 = true) := auq h6
     rw [if_pos q7] at hF
     repeat (first | refine chk.ga ?_ | simp -dsimp [h1, q2, h3, q4, h6])
     refine abr.split (fun h8 => ?_) (fun h8 => ?_)
     ·have q9 : ¬ (v.1.length = e.kids.length) := auq h8
      have z10 : ¬ ((v.1.length : Int) = (e.kids.length : Int)) := auz
      rw [if_neg q9] at hF
      cases hF
      repeat (first | refine chk.ga ?_ | simp -dsimp [h1, q2, h3, q4, h6, h8, q9, z10])
      all_goals (try first | omega | rfl)
     ·have q9 : (v.1.length = e.kids.length) := auq h8
      have z10 : ((v.1.length : Int) = (e.kids.length : Int)) := auz
      rw [if_pos q9] at hF
      repeat (first | refine chk.ga ?_ | simp -dsimp [h1, q2, h3, q4, h6, h8, q9, z10])
      have hF := ob hF; obtain ⟨o', ho22, hF⟩ := hF
      refine ALoop.goU _ ?_ ((ih_impl_scope_scan_l1 e deep v (IntKind.i64.wrap (count + 1)) 0 o' ho22) _ rfl _ ?_)
      ·exact (Gh.to3 (by simp) (by first | simp -dsimp [h1, q2, h3, q4, h6, h8, q9, z10]; done | simp_all))
      rcases o' with r0 | sx
      ·dsimp only at hF
       cases hF
       intro st h
       simpa using h
      ·dsimp only at hF
       cases hF
       repeat (first | refine chk.ga ?_ | simp -dsimp)
       all_goals (try first | omega | rfl)
    ·have q7 : ¬ (v.2 = true) := auq h6
     rw [if_neg q7] at hF
     cases hF
     repeat (first | refine chk.ga ?_ | simp -dsimp [h1, q2, h3, q4, h6, q7])
     all_goals (try first | omega | rfl)
  ·have q2 : (60 < IntKind.i64.wrap (count + 1)) := auq h1
   rw [if_pos q2] at hF
   cases hF
   repeat (first | refine chk.ga ?_ | simp -dsimp [h1, q2])
   all_goals (try first | omega | rfl)
 ·intro _f_impl_scope_scan _f_impl_scope_scan_l1 ih_impl_scope_scan ih_impl_scope_scan_l1 e deep v z i o hF
  intro c hc Q hq
  obtain rfl : c = _ := navEq hc rfl
  refine ALoopU.know fun hk hs => ?_
  have b11 := hk 11
  simp -dsimp at b11
  have b46 := hk 46
  simp -dsimp at b46
  have d1 := hs 1 _ rfl
  simp -dsimp [Blk.bnd] at d1
  clear hk hs
  refine ALoopU.enter ?_
  repeat (first | refine chk.ga ?_ | simp -dsimp)
  refine abr.split (fun h11 => ?_) (fun h11 => ?_)
  ·have q12 : (i < e.kids.length) := auq h11
   have z13 : ((i : Int) < (e.kids.length : Int)) := auz
   rw [if_pos q12] at hF
   have hF := ob hF; obtain ⟨x, e14, hF⟩ := hF
   have le14 := lt_of_get e14
   repeat (first | refine chk.ga ?_ | simp -dsimp [h11, z13, ↓e14])
   refine ADraw.eff [88] [(0, 0), (0, 0), (0, 0), (0, 0), (0, 0), (0, 0), (0, 0), (0, 0), (0, 0), (0, 1), (1, 1)] [1, 1, 1, 1, 1, 1, 1, 1, 1, 1, 1] follows (by kernel_rfl) (by kernel_rfl) (by kernel_rfl) ?_
   have hF := ob hF; obtain ⟨x15, e16, hF⟩ := hF
   have le16 := lt_of_get e16
   repeat (first | refine chk.ga ?_ | simp -dsimp [h11, z13, ↓e14, ↓e16])
   have hF := ob hF; obtain ⟨v17, e18, hF⟩ := hF
   refine ((ih_impl_scope_scan x15 x (IntKind.i64.wrap (deep + 1)) z v17 e18)).ego 0 rfl (by first | simp [h11, z13, ↓e14, ↓e16]; done | simp_all) (by simp) (by first | simp [h11, z13, ↓e14, ↓e16]; done | simp_all) ?_
   repeat (first | refine chk.ga ?_ | simp -dsimp [h11, z13, ↓e14, ↓e16])
   refine abr.split (fun h19 => ?_) (fun h19 => ?_)
   ·have q20 : ¬ (v17.1 = true) := auq h19
    rw [if_neg q20] at hF
    cases hF
    repeat (first | refine chk.ga ?_ | simp -dsimp [h11, z13, ↓e14, ↓e16, h19, q20])
    refine Leave.go _ (Gh.refl _) (hq _ ?_)
    repeat (first | refine chk.ga ?_ | simp -dsimp [h11, z13, ↓e14, ↓e16, h19, q20])
   ·have q20 : (v17.1 = true) := auq h19
    rw [if_pos q20] at hF
    have w21 : IntKind.i64.wrap ((i : Int) + 1) = (i : Int) + 1 := wrap_in (by omega) (by omega)
    repeat (first | refine chk.ga ?_ | simp -dsimp [h11, z13, ↓e14, ↓e16, h19, q20, w21])
    refine Again.go _ ?_ ((ih_impl_scope_scan_l1 e deep v v17.2 (i + 1) o hF) _ rfl _ hq)
    exact (Gh.to3 (by simp) (by first | simp -dsimp [h11, z13, ↓e14, ↓e16, h19, q20, w21]; done | simp_all))
  ·have q12 : ¬ (i < e.kids.length) := auq h11
   have z13 : ¬ ((i : Int) < (e.kids.length : Int)) := auz
   rw [if_neg q12] at hF
   cases hF
   repeat (first | refine chk.ga ?_ | simp -dsimp [h11, q12, z13])
   refine Leave.go ⟨[], [.cells [.lit (.int .i64 z)]]⟩ (Gh.to3 (by simp) (by first | simp -dsimp [h11, q12, z13]; done | simp_all)) ?_
   exact hq

theorem C.impl_scope_expr (s : Vl.T_impl_scope) (t : Vl.Ty) (e : Vl.Expr) (r : Bool) (hF : F.impl_scope_expr s t e = some r) : PureCall Tryz.prog B 55 [.agg [.arr (List.map Vl.Data.c s.f0), .arr (List.map Vl.FunType.c s.f1), .arr (List.map Vl.VarType.c s.f2)], .agg [.lit (.int .i64 t.data), .lit (.int .i64 t.index)], .agg [.lit (.int .i64 e.op), .lit (.int .i64 e.n), .lit (.int .i64 e.ctor), .arr (List.map Vl.Expr.c e.kids)]] (.lit (.bool r)) := by
 unfold F.impl_scope_expr at hF
 refine PureCall.enterLe Tryz.func55 (by kernel_rfl) rfl Tryz.ntmps55 (by simp) (by simp) ?_
 repeat (first | refine chk.ga ?_ | simp -dsimp)
 have hF := ob hF; obtain ⟨v, e1, hF⟩ := hF
 refine (((CC.impl_scope_scan B hB1 hB2 s).1 t e (1 : Int) (0 : Int) v e1)).go 3 rfl (by simp) (by simp) (by simp) ?_
 cases hF
 repeat (first | refine chk.ga ?_ | simp -dsimp)
 all_goals (try first | omega | rfl)

theorem C.impl_ExprValid (w : List Vl.Data) (funs : List Vl.FunType) (vars : List Vl.VarType) (t : Vl.Ty) (e : Vl.Expr) (r : Bool) (hF : F.impl_ExprValid w funs vars t e = some r) : PureCall Tryz.prog B 33 [.arr (List.map Vl.Data.c w), .arr (List.map Vl.FunType.c funs), .arr (List.map Vl.VarType.c vars), .agg [.lit (.int .i64 t.data), .lit (.int .i64 t.index)], .agg [.lit (.int .i64 e.op), .lit (.int .i64 e.n), .lit (.int .i64 e.ctor), .arr (List.map Vl.Expr.c e.kids)]] (.lit (.bool r)) := by
 unfold F.impl_ExprValid at hF
 refine PureCall.enterLe Tryz.func33 (by kernel_rfl) rfl Tryz.ntmps33 (by simp) (by simp) ?_
 repeat (first | refine chk.ga ?_ | simp -dsimp)
 have hF := ob hF; obtain ⟨v, e1, hF⟩ := hF
 refine ((C.impl_TypeValid B hB1 hB2 w t v e1)).goW (by simp) (by simp) ?_
 repeat (first | refine chk.ga ?_ | simp -dsimp)
 refine abr.split (fun h2 => ?_) (fun h2 => ?_)
 ·have q3 : (v = true) := auq h2
  rw [if_pos q3] at hF
  repeat (first | refine chk.ga ?_ | simp -dsimp [h2])
  have hF := ob hF; obtain ⟨v4, e5, hF⟩ := hF
  refine ((C.impl_scope_ok B hB1 hB2 (⟨w, funs, vars⟩ : Vl.T_impl_scope) v4 e5)).goW (by first | simp [h2]; done | simp_all) (by simp) ?_
  repeat (first | refine chk.ga ?_ | simp -dsimp [h2])
  refine abr.split (fun h6 => ?_) (fun h6 => ?_)
  ·have q7 : (v4 = true) := auq h6
   rw [if_pos q7] at hF
   repeat (first | refine chk.ga ?_ | simp -dsimp [h2, h6])
   have hF := ob hF; obtain ⟨v8, e9, hF⟩ := hF
   refine ((C.impl_scope_expr B hB1 hB2 (⟨w, funs, vars⟩ : Vl.T_impl_scope) t e v8 e9)).goW (by first | simp [h2, h6]; done | simp_all) (by simp) ?_
   cases hF
   repeat (first | refine chk.ga ?_ | simp -dsimp [h2, h6])
   all_goals (try first | omega | rfl)
  ·have q7 : ¬ (v4 = true) := auq h6
   rw [if_neg q7] at hF
   cases hF
   repeat (first | refine chk.ga ?_ | simp -dsimp [h2, h6, q7])
   all_goals (try first | omega | rfl)
 ·have q3 : ¬ (v = true) := auq h2
  rw [if_neg q3] at hF
  cases hF
  repeat (first | refine chk.ga ?_ | simp -dsimp [h2, q3])
  all_goals (try first | omega | rfl)

theorem C.strconv_Itoa (i : Int) (r : ByteArray) (hF : F.strconv_Itoa i = some r) : PureCall Tryz.prog B 57 [.lit (.int .i64 i)] (.lit (.string r)) := by
 unfold F.strconv_Itoa at hF
 have hF := oc hF; obtain ⟨c1, hF⟩ := hF
 cases hF
 exact shelf_itoa Tryz.lays171 ⟨Tryz.f57, Tryz.func57, by kernel_rfl, by kernel_rfl⟩ c1.1 c1.2

theorem C.impl_letter (v : Int) (r : ByteArray) (hF : F.impl_letter v = some r) : PureCall Tryz.prog B 58 [.lit (.int .i64 v)] (.lit (.string r)) := by
 unfold F.impl_letter at hF
 refine PureCall.enterLe Tryz.func58 (by kernel_rfl) rfl Tryz.ntmps58 (by simp) (by simp) ?_
 cases hF
 repeat (first | refine chk.ga ?_ | simp -dsimp)
 all_goals (try first | omega | rfl)

theorem C.strings_Join (elems : List ByteArray) (sep : ByteArray) (r : ByteArray) (hF : F.strings_Join elems sep = some r) : PureCall Tryz.prog B 73 [.arr (List.map cS elems), .lit (.string sep)] (.lit (.string r)) := by
 unfold F.strings_Join at hF
 have hF := oc hF; obtain ⟨c1, hF⟩ := hF
 cases hF
 exact shelf_join Tryz.lays156 Tryz.Builder_Extra_156 ⟨Tryz.f73, Tryz.func73, by kernel_rfl, by kernel_rfl⟩ c1

theorem C.impl_listed (list : List ByteArray) (r : ByteArray) (hF : F.impl_listed list = some r) : PureCall Tryz.prog B 59 [.arr (List.map cS list)] (.lit (.string r)) := by
 unfold F.impl_listed at hF
 refine PureCall.enterLe Tryz.func59 (by kernel_rfl) rfl Tryz.ntmps59 (by simp) (by simp) ?_
 repeat (first | refine chk.ga ?_ | simp -dsimp)
 refine abr.split (fun h1 => ?_) (fun h1 => ?_)
 ·have q2 : (list.length = 0) := auq h1
  have z3 : ((list.length : Int) = (0 : Int)) := auz
  rw [if_pos q2] at hF
  cases hF
  repeat (first | refine chk.ga ?_ | simp -dsimp [h1, z3])
  all_goals (try first | omega | rfl)
 ·have q2 : ¬ (list.length = 0) := auq h1
  have z3 : ¬ ((list.length : Int) = (0 : Int)) := auz
  rw [if_neg q2] at hF
  repeat (first | refine chk.ga ?_ | simp -dsimp [h1, q2, z3])
  have hF := ob hF; obtain ⟨v, e4, hF⟩ := hF
  refine ((C.strings_Join B hB1 hB2 list (⟨#[44]⟩ : ByteArray) v e4)).goW (by first | simp [h1, q2, z3]; done | simp_all) (by simp) ?_
  have hF := oc hF; obtain ⟨c5, hF⟩ := hF
  have hF := oc hF; obtain ⟨c6, hF⟩ := hF
  cases hF
  repeat (first | refine chk.ga ?_ | simp -dsimp [h1, q2, z3])
  all_goals (try first | omega | rfl)

theorem CC.impl_scope_text (s : Vl.T_impl_scope) : (∀ (t : Vl.Ty) (e : Vl.Expr) (r : ByteArray), F.impl_scope_text s t e = some r → PureCall Tryz.prog B 34 [.agg [.arr (List.map Vl.Data.c s.f0), .arr (List.map Vl.FunType.c s.f1), .arr (List.map Vl.VarType.c s.f2)], .agg [.lit (.int .i64 t.data), .lit (.int .i64 t.index)], .agg [.lit (.int .i64 e.op), .lit (.int .i64 e.n), .lit (.int .i64 e.ctor), .arr (List.map Vl.Expr.c e.kids)]] (.lit (.string r))) ∧
  (∀ (t : Vl.Ty) (e : Vl.Expr) (v : (List Vl.Ty) × Bool) (i : Nat) (kids : List ByteArray) (o : List ByteArray), F.impl_scope_text_l1 s t e v i kids = some o → ∀ (c : Code), navO [1, 1, 1, 0, 1, 0, 0] (bodyOf Tryz.f34) = some c → ∀ (Q : Exit → ASt → Prop), (Q (.exit 0) ⟨[(3, .ptr 0 0), (4, .ptr 1 0), (5, .ptr 2 0), (9, .own 3 (List.length (α := ByteArray) o))], [.cells [.arr (List.map Vl.Data.c s.f0), .arr (List.map Vl.FunType.c s.f1), .arr (List.map Vl.VarType.c s.f2)], .cells [.lit (.int .i64 t.data), .lit (.int .i64 t.index)], .cells [.lit (.int .i64 e.op), .lit (.int .i64 e.n), .lit (.int .i64 e.ctor), .arr (List.map Vl.Expr.c e.kids)], .elems 1 (List.map cS o)]⟩) → ALoopU Tryz.prog B 0 79 (hold c .mk) ⟨[(3, .ptr 0 0), (4, .ptr 1 0), (5, .ptr 2 0), (7, .arr (List.map Vl.Ty.c v.1)), (9, .own 3 (List.length (α := ByteArray) kids)), (20, .arr (List.map Vl.Expr.c e.kids)), (21, .lit (.int .i64 (e.kids.length : Int))), (22, .lit (.int .i64 (i : Int)))], [.cells [.arr (List.map Vl.Data.c s.f0), .arr (List.map Vl.FunType.c s.f1), .arr (List.map Vl.VarType.c s.f2)], .cells [.lit (.int .i64 t.data), .lit (.int .i64 t.index)], .cells [.lit (.int .i64 e.op), .lit (.int .i64 e.n), .lit (.int .i64 e.ctor), .arr (List.map Vl.Expr.c e.kids)], .elems 1 (List.map cS kids)]⟩ (hold Q .mk)) := by
 refine F.impl_scope_text.mutual_partial_correctness s
  _ _
  ?_ ?_
 ·intro _f_impl_scope_text_l1 ih_impl_scope_text_l1 t e r hF
  refine PureCall.enterLe Tryz.func34 (by kernel_rfl) rfl Tryz.ntmps34 (by simp) (by simp) ?_
  repeat (first | refine chk.ga ?_ | simp -dsimp)
  have hF := ob hF; obtain ⟨v, e1, hF⟩ := hF
  refine ((C.impl_scope_kids B hB1 hB2 s t e v e1)).goW (by simp) (by simp) ?_
  repeat (first | refine chk.ga ?_ | simp -dsimp)
  have hF := ob hF; obtain ⟨o', ho12, hF⟩ := hF
  refine ALoop.goU ⟨[(3, .ptr 0 0), (4, .ptr 1 0), (5, .ptr 2 0), (7, .arr (List.map Vl.Ty.c v.1)), (9, .own 3 (List.length (α := ByteArray) [])), (20, .arr (List.map Vl.Expr.c e.kids)), (21, .lit (.int .i64 (e.kids.length : Int))), (22, .lit (.int .i64 (0 : Int)))], [.cells [.arr (List.map Vl.Data.c s.f0), .arr (List.map Vl.FunType.c s.f1), .arr (List.map Vl.VarType.c s.f2)], .cells [.lit (.int .i64 t.data), .lit (.int .i64 t.index)], .cells [.lit (.int .i64 e.op), .lit (.int .i64 e.n), .lit (.int .i64 e.ctor), .arr (List.map Vl.Expr.c e.kids)], .elems 1 (List.map cS [])]⟩ (by refine Gh.trans (Gh.nil 9 1 (by simp -dsimp)) ?_; exact (Gh.to3 (by simp) (by simp -dsimp))) ?_
  refine (ih_impl_scope_text_l1 t e v 0 [] o' ho12) _ rfl _ ?_
  repeat (first | refine chk.ga ?_ | simp -dsimp)
  refine abr.split (fun h13 => ?_) (fun h13 => ?_)
  ·have q14 : (e.op = 1) := auq h13
   rw [if_pos q14] at hF
   repeat (first | refine chk.ga ?_ | simp -dsimp [h13])
   have hF := ob hF; obtain ⟨v15, e16, hF⟩ := hF
   refine ((C.strconv_Itoa B hB1 hB2 e.n v15 e16)).goW (by first | simp [h13]; done | simp_all) (by simp) ?_
   cases hF
   repeat (first | refine chk.ga ?_ | simp -dsimp [h13])
   all_goals (try first | omega | rfl)
  ·have q14 : ¬ (e.op = 1) := auq h13
   rw [if_neg q14] at hF
   repeat (first | refine chk.ga ?_ | simp -dsimp [h13, q14])
   refine abr.split (fun h17 => ?_) (fun h17 => ?_)
   ·have q18 : (e.op = 2) := auq h17
    rw [if_pos q18] at hF
    repeat (first | refine chk.ga ?_ | simp -dsimp [h13, q14, h17])
    have hF := ob hF; obtain ⟨v19, e20, hF⟩ := hF
    refine ((C.impl_letter B hB1 hB2 e.n v19 e20)).goW (by first | simp [h13, q14, h17]; done | simp_all) (by simp) ?_
    cases hF
    repeat (first | refine chk.ga ?_ | simp -dsimp [h13, q14, h17])
    all_goals (try first | omega | rfl)
   ·have q18 : ¬ (e.op = 2) := auq h17
    rw [if_neg q18] at hF
    repeat (first | refine chk.ga ?_ | simp -dsimp [h13, q14, h17, q18])
    refine abr.split (fun h21 => ?_) (fun h21 => ?_)
    ·have q22 : (e.op = 3) := auq h21
     rw [if_pos q22] at hF
     repeat (first | refine chk.ga ?_ | simp -dsimp [h13, q14, h17, q18, h21])
     refine ADraw.eff [59] [(0, 1), (0, 1), (0, 1), (0, 1), (0, 1), (0, 1), (0, 1), (0, 1), (0, 1), (0, 1), (0, 1), (0, 1), (0, 0), (0, 1), (1, 1), (1, 1)] [0, 2, 0, 2, 0, 0, 0, 0, 2, 0, 0, 0, 1, 1, 1, 1] follows (by kernel_rfl) (by kernel_rfl) (by kernel_rfl) ?_
     have hF := ob hF; obtain ⟨x23, e24a, hF⟩ := hF
     have e24a := at_some e24a; obtain ⟨ne24, e24⟩ := e24a
     have le24 := lt_of_get e24
     have hF := ob hF; obtain ⟨x25, e26a, hF⟩ := hF
     have e26a := at_some e26a; obtain ⟨ne26, e26⟩ := e26a
     have le26 := lt_of_get e26
     repeat (first | refine chk.ga ?_ | simp -dsimp [h13, q14, h17, q18, h21, ↓e24, ↓e26])
     have hF := ob hF; obtain ⟨v27, e28, hF⟩ := hF
     refine ((C.impl_listed B hB1 hB2 o' v27 e28)).elend (by first | simp -dsimp [h13, q14, h17, q18, h21, ↓e24, ↓e26]; done | simp_all) (by simp -dsimp) ?_
     have hF := oc hF; obtain ⟨c29, hF⟩ := hF
     cases hF
     repeat (first | refine chk.ga ?_ | simp -dsimp [h13, q14, h17, q18, h21, ↓e24, ↓e26])
     all_goals (try first | omega | rfl)
    ·have q22 : ¬ (e.op = 3) := auq h21
     rw [if_neg q22] at hF
     repeat (first | refine chk.ga ?_ | simp -dsimp [h13, q14, h17, q18, h21, q22])
     refine abr.split (fun h30 => ?_) (fun h30 => ?_)
     ·have q31 : (e.op = 4) := auq h30
      rw [if_pos q31] at hF
      repeat (first | refine chk.ga ?_ | simp -dsimp [h13, q14, h17, q18, h21, q22, h30])
      have hF := ob hF; obtain ⟨v32, e33, hF⟩ := hF
      refine ((C.impl_listed B hB1 hB2 o' v32 e33)).lend (by first | simp -dsimp [h13, q14, h17, q18, h21, q22, h30]; done | simp_all) (by simp -dsimp) ?_
      have hF := oc hF; obtain ⟨c34, hF⟩ := hF
      cases hF
      repeat (first | refine chk.ga ?_ | simp -dsimp [h13, q14, h17, q18, h21, q22, h30])
      all_goals (try first | omega | rfl)
     ·have q31 : ¬ (e.op = 4) := auq h30
      rw [if_neg q31] at hF
      repeat (first | refine chk.ga ?_ | simp -dsimp [h13, q14, h17, q18, h21, q22, h30, q31])
      have hF := ob hF; obtain ⟨v35, e36, hF⟩ := hF
      refine ((C.strconv_Itoa B hB1 hB2 e.n v35 e36)).goW (by first | simp [h13, q14, h17, q18, h21, q22, h30, q31]; done | simp_all) (by simp) ?_
      have hF := oc hF; obtain ⟨c37, hF⟩ := hF
      repeat (first | refine chk.ga ?_ | simp -dsimp [h13, q14, h17, q18, h21, q22, h30, q31])
      have hF := ob hF; obtain ⟨v38, e39, hF⟩ := hF
      refine ((C.impl_listed B hB1 hB2 o' v38 e39)).lend (by first | simp -dsimp [h13, q14, h17, q18, h21, q22, h30, q31]; done | simp_all) (by simp -dsimp) ?_
      have hF := oc hF; obtain ⟨c40, hF⟩ := hF
      cases hF
      repeat (first | refine chk.ga ?_ | simp -dsimp [h13, q14, h17, q18, h21, q22, h30, q31])
      all_goals (try first | omega | rfl)
 ·intro _f_impl_scope_text _f_impl_scope_text_l1 ih_impl_scope_text ih_impl_scope_text_l1 t e v i kids o hF
  intro c hc Q hq
  obtain rfl : c = _ := navEq hc rfl
  refine ALoopU.know fun hk hs => ?_
  have b7 := hk 7
  simp -dsimp at b7
  have b20 := hk 20
  simp -dsimp at b20
  have d0 := hs 0 _ rfl
  simp -dsimp [Blk.bnd] at d0
  have d2 := hs 2 _ rfl
  simp -dsimp [Blk.bnd] at d2
  have d3 := hs 3 _ rfl
  simp -dsimp [Blk.bnd] at d3
  clear hk hs
  refine ALoopU.enter ?_
  repeat (first | refine chk.ga ?_ | simp -dsimp)
  refine abr.split (fun h2 => ?_) (fun h2 => ?_)
  ·have q3 : (i < e.kids.length) := auq h2
   have z4 : ((i : Int) < (e.kids.length : Int)) := auz
   rw [if_pos q3] at hF
   have hF := ob hF; obtain ⟨x, e5, hF⟩ := hF
   have le5 := lt_of_get e5
   repeat (first | refine chk.ga ?_ | simp -dsimp [h2, z4, ↓e5])
   refine ADraw.eff [] [(0, 1), (0, 0), (0, 0), (0, 0), (0, 0), (0, 0), (0, 0), (0, 2), (0, 2), (0, 2), (2, 2)] [1, 1, 1, 1, 1, 1, 1, 1, 1, 1, 1] follows (by kernel_rfl) (by kernel_rfl) (by kernel_rfl) ?_
   have hF := ob hF; obtain ⟨x6, e7, hF⟩ := hF
   have le7 := lt_of_get e7
   repeat (first | refine chk.ga ?_ | simp -dsimp [h2, z4, ↓e5, ↓e7])
   have hF := ob hF; obtain ⟨v8, e9, hF⟩ := hF
   refine ((ih_impl_scope_text x6 x v8 e9)).pgoW (by first | simp [h2, z4, ↓e5, ↓e7]; done | simp_all) (by simp) ?_
   have hF := oc hF; obtain ⟨c10, hF⟩ := hF
   have w11 : IntKind.i64.wrap ((i : Int) + 1) = (i : Int) + 1 := wrap_in (by omega) (by omega)
   repeat (first | refine chk.ga ?_ | simp -dsimp [h2, z4, ↓e5, ↓e7, w11])
   refine Again.go _ ?_ ((ih_impl_scope_text_l1 t e v (i + 1) (kids ++ [v8]) o hF) _ rfl _ hq)
   exact (Gh.to3 (by simp) (by first | simp -dsimp [h2, z4, ↓e5, ↓e7, w11]; done | simp_all))
  ·have q3 : ¬ (i < e.kids.length) := auq h2
   have z4 : ¬ ((i : Int) < (e.kids.length : Int)) := auz
   rw [if_neg q3] at hF
   cases hF
   repeat (first | refine chk.ga ?_ | simp -dsimp [h2, q3, z4])
   refine Leave.go ⟨[(3, .ptr 0 0), (4, .ptr 1 0), (5, .ptr 2 0), (9, .own 3 (List.length (α := ByteArray) kids))], [.cells [.arr (List.map Vl.Data.c s.f0), .arr (List.map Vl.FunType.c s.f1), .arr (List.map Vl.VarType.c s.f2)], .cells [.lit (.int .i64 t.data), .lit (.int .i64 t.index)], .cells [.lit (.int .i64 e.op), .lit (.int .i64 e.n), .lit (.int .i64 e.ctor), .arr (List.map Vl.Expr.c e.kids)], .elems 1 (List.map cS kids)]⟩ (Gh.to3 (by simp) (by first | simp -dsimp [h2, q3, z4]; done | simp_all)) ?_
   exact hq

theorem C.impl_FormatExpr (w : List Vl.Data) (funs : List Vl.FunType) (vars : List Vl.VarType) (t : Vl.Ty) (e : Vl.Expr) (r : ByteArray) (hF : F.impl_FormatExpr w funs vars t e = some r) : PureCall Tryz.prog B 15 [.arr (List.map Vl.Data.c w), .arr (List.map Vl.FunType.c funs), .arr (List.map Vl.VarType.c vars), .agg [.lit (.int .i64 t.data), .lit (.int .i64 t.index)], .agg [.lit (.int .i64 e.op), .lit (.int .i64 e.n), .lit (.int .i64 e.ctor), .arr (List.map Vl.Expr.c e.kids)]] (.lit (.string r)) := by
 unfold F.impl_FormatExpr at hF
 refine PureCall.enterLe Tryz.func15 (by kernel_rfl) rfl Tryz.ntmps15 (by simp) (by simp) ?_
 repeat (first | refine chk.ga ?_ | simp -dsimp)
 have hF := ob hF; obtain ⟨v, e1, hF⟩ := hF
 refine ((C.impl_ExprValid B hB1 hB2 w funs vars t e v e1)).goW (by simp) (by simp) ?_
 repeat (first | refine chk.ga ?_ | simp -dsimp)
 refine abr.split (fun h2 => ?_) (fun h2 => ?_)
 ·have q3 : ¬ (v = true) := auq h2
  rw [if_neg q3] at hF
  cases hF
  repeat (first | refine chk.ga ?_ | simp -dsimp [h2, q3])
  all_goals (try first | omega | rfl)
 ·have q3 : (v = true) := auq h2
  rw [if_pos q3] at hF
  repeat (first | refine chk.ga ?_ | simp -dsimp [h2, q3])
  have hF := ob hF; obtain ⟨v4, e5, hF⟩ := hF
  refine (((CC.impl_scope_text B hB1 hB2 (⟨w, funs, vars⟩ : Vl.T_impl_scope)).1 t e v4 e5)).goW (by first | simp [h2, q3]; done | simp_all) (by simp) ?_
  cases hF
  repeat (first | refine chk.ga ?_ | simp -dsimp [h2, q3])
  all_goals (try first | omega | rfl)

theorem C.laws_eqType (a : Vl.Ty) (b : Vl.Ty) (r : Bool) (hF : F.laws_eqType a b = some r) : PureCall Tryz.prog B 61 [.agg [.lit (.int .i64 a.data), .lit (.int .i64 a.index)], .agg [.lit (.int .i64 b.data), .lit (.int .i64 b.index)]] (.lit (.bool r)) := by
 unfold F.laws_eqType at hF
 refine PureCall.enterLe Tryz.func61 (by kernel_rfl) rfl Tryz.ntmps61 (by simp) (by simp) ?_
 repeat (first | refine chk.ga ?_ | simp -dsimp)
 refine abr.split (fun h1 => ?_) (fun h1 => ?_)
 ·have q2 : ¬ (a.data = b.data) := auq h1
  rw [if_neg q2] at hF
  cases hF
  repeat (first | refine chk.ga ?_ | simp -dsimp [h1, q2])
  all_goals (try first | omega | rfl)
 ·have q2 : (a.data = b.data) := auq h1
  rw [if_pos q2] at hF
  repeat (first | refine chk.ga ?_ | simp -dsimp [h1, q2])
  refine abr.split (fun h3 => ?_) (fun h3 => ?_)
  ·have q4 : ¬ (a.index = b.index) := auq h3
   rw [if_neg q4] at hF
   cases hF
   repeat (first | refine chk.ga ?_ | simp -dsimp [h1, q2, h3, q4])
   all_goals (try first | omega | rfl)
  ·have q4 : (a.index = b.index) := auq h3
   rw [if_pos q4] at hF
   cases hF
   repeat (first | refine chk.ga ?_ | simp -dsimp [h1, q2, h3, q4])
   all_goals (try first | omega | rfl)

theorem CC.laws_eqTypeS_l1 (a : List Vl.Ty) (b : List Vl.Ty) : (∀ (i : Nat) (o : Lo Bool Unit), F.laws_eqTypeS_l1 a b i = some o → ∀ (c : Code), navO [1, 1, 0, 1, 0, 0] (bodyOf Tryz.f124) = some c → ∀ (Q : Exit → ASt → Prop), o.post (fun r => ∀ st, Post Tryz.prog Tryz.f124 (fun r' _ => r'.le (.lit (.bool r))) .ret st → Q .ret st) (fun s => Q (.exit 0) ⟨[], []⟩) → ALoopU Tryz.prog B 0 27 (hold c .mk) ⟨[(0, .arr (List.map Vl.Ty.c a)), (1, .arr (List.map Vl.Ty.c b)), (5, .lit (.int .i64 (i : Int)))], []⟩ (hold Q .mk)) := by
 refine F.laws_eqTypeS_l1.partial_correctness a b
  _
  ?_
 ·intro _f_laws_eqTypeS_l1 ih_laws_eqTypeS_l1 i o hF
  intro c hc Q hq
  obtain rfl : c = _ := navEq hc rfl
  refine ALoopU.know fun hk hs => ?_
  have b0 := hk 0
  simp -dsimp at b0
  have b1 := hk 1
  simp -dsimp at b1
  clear hk hs
  refine ALoopU.enter ?_
  repeat (first | refine chk.ga ?_ | simp -dsimp)
  refine abr.split (fun h4 => ?_) (fun h4 => ?_)
  ·have q5 : (i < a.length) := auq h4
   have z6 : ((i : Int) < (a.length : Int)) := auz
   rw [if_pos q5] at hF
   repeat (first | refine chk.ga ?_ | simp -dsimp [h4, z6])
   refine ADraw.simple follows (by kernel_rfl) (by kernel_rfl) ?_
   have hF := ob hF; obtain ⟨x, e7, hF⟩ := hF
   have le7 := lt_of_get e7
   have hF := ob hF; obtain ⟨x8, e9, hF⟩ := hF
   have le9 := lt_of_get e9
   repeat (first | refine chk.ga ?_ | simp -dsimp [h4, z6, ↓e7, ↓e9])
   have hF := ob hF; obtain ⟨v, e10, hF⟩ := hF
   refine ((C.laws_eqType B hB1 hB2 x x8 v e10)).pgoW (by first | simp [h4, z6, ↓e7, ↓e9]; done | simp_all) (by simp) ?_
   repeat (first | refine chk.ga ?_ | simp -dsimp [h4, z6, ↓e7, ↓e9])
   refine abr.split (fun h11 => ?_) (fun h11 => ?_)
   ·have q12 : ¬ (v = true) := auq h11
    rw [if_neg q12] at hF
    cases hF
    repeat (first | refine chk.ga ?_ | simp -dsimp [h4, z6, ↓e7, ↓e9, h11, q12])
    refine Leave.go _ (Gh.refl _) (hq _ ?_)
    repeat (first | refine chk.ga ?_ | simp -dsimp [h4, z6, ↓e7, ↓e9, h11, q12])
   ·have q12 : (v = true) := auq h11
    rw [if_pos q12] at hF
    have w13 : IntKind.i64.wrap ((i : Int) + 1) = (i : Int) + 1 := wrap_in (by omega) (by omega)
    repeat (first | refine chk.ga ?_ | simp -dsimp [h4, z6, ↓e7, ↓e9, h11, q12, w13])
    refine Again.go _ ?_ ((ih_laws_eqTypeS_l1 (i + 1) o hF) _ rfl _ hq)
    exact (Gh.to3 (by simp) (by first | simp -dsimp [h4, z6, ↓e7, ↓e9, h11, q12, w13]; done | simp_all))
  ·have q5 : ¬ (i < a.length) := auq h4
   have z6 : ¬ ((i : Int) < (a.length : Int)) := auz
   rw [if_neg q5] at hF
   cases hF
   repeat (first | refine chk.ga ?_ | simp -dsimp [h4, q5, z6])
   refine Leave.go ⟨[], []⟩ (Gh.to3 (by simp) (by first | simp -dsimp [h4, q5, z6]; done | simp_all)) ?_
   exact hq

theorem C.laws_eqTypeS (a : List Vl.Ty) (b : List Vl.Ty) (r : Bool) (hF : F.laws_eqTypeS a b = some r) : PureCall Tryz.prog B 124 [.arr (List.map Vl.Ty.c a), .arr (List.map Vl.Ty.c b)] (.lit (.bool r)) := by
 unfold F.laws_eqTypeS at hF
 refine PureCall.enterLe Tryz.func124 (by kernel_rfl) rfl Tryz.ntmps124 (by simp) (by simp) ?_
 repeat (first | refine chk.ga ?_ | simp -dsimp)
 refine abr.split (fun h1 => ?_) (fun h1 => ?_)
 ·have q2 : ¬ (a.length = b.length) := auq h1
  have z3 : ¬ ((a.length : Int) = (b.length : Int)) := auz
  rw [if_neg q2] at hF
  cases hF
  repeat (first | refine chk.ga ?_ | simp -dsimp [h1, q2, z3])
  all_goals (try first | omega | rfl)
 ·have q2 : (a.length = b.length) := auq h1
  have z3 : ((a.length : Int) = (b.length : Int)) := auz
  rw [if_pos q2] at hF
  repeat (first | refine chk.ga ?_ | simp -dsimp [h1, q2, z3])
  have hF := ob hF; obtain ⟨o', ho14, hF⟩ := hF
  refine ALoop.goU _ ?_ (((CC.laws_eqTypeS_l1 B hB1 hB2 a b) 0 o' ho14) _ rfl _ ?_)
  ·exact (Gh.to3 (by simp) (by first | simp -dsimp [h1, q2, z3]; done | simp_all))
  rcases o' with r0 | sx
  ·dsimp only at hF
   cases hF
   intro st h
   simpa using h
  ·dsimp only at hF
   cases hF
   repeat (first | refine chk.ga ?_ | simp -dsimp)
   all_goals (try first | omega | rfl)

theorem C.laws_eqCtor (a : Vl.Ctor) (b : Vl.Ctor) (r : Bool) (hF : F.laws_eqCtor a b = some r) : PureCall Tryz.prog B 96 [.agg [.lit (.string a.name), .arr (List.map Vl.Ty.c a.args), .lit (.int .i64 a.index)], .agg [.lit (.string b.name), .arr (List.map Vl.Ty.c b.args), .lit (.int .i64 b.index)]] (.lit (.bool r)) := by
 unfold F.laws_eqCtor at hF
 refine PureCall.enterLe Tryz.func96 (by kernel_rfl) rfl Tryz.ntmps96 (by simp) (by simp) ?_
 repeat (first | refine chk.ga ?_ | simp -dsimp)
 refine abr.split (fun h1 => ?_) (fun h1 => ?_)
 ·have q2 : ¬ (a.name.toList = b.name.toList) := auq h1
  rw [if_neg q2] at hF
  cases hF
  repeat (first | refine chk.ga ?_ | simp -dsimp [h1, q2])
  all_goals (try first | omega | rfl)
 ·have q2 : (a.name.toList = b.name.toList) := auq h1
  rw [if_pos q2] at hF
  repeat (first | refine chk.ga ?_ | simp -dsimp [h1, q2])
  have hF := ob hF; obtain ⟨v, e3, hF⟩ := hF
  refine ((C.laws_eqTypeS B hB1 hB2 a.args b.args v e3)).goW (by first | simp [h1, q2]; done | simp_all) (by simp) ?_
  repeat (first | refine chk.ga ?_ | simp -dsimp [h1, q2])
  refine abr.split (fun h4 => ?_) (fun h4 => ?_)
  ·have q5 : ¬ (v = true) := auq h4
   rw [if_neg q5] at hF
   cases hF
   repeat (first | refine chk.ga ?_ | simp -dsimp [h1, q2, h4, q5])
   all_goals (try first | omega | rfl)
  ·have q5 : (v = true) := auq h4
   rw [if_pos q5] at hF
   repeat (first | refine chk.ga ?_ | simp -dsimp [h1, q2, h4, q5])
   refine abr.split (fun h6 => ?_) (fun h6 => ?_)
   ·have q7 : ¬ (a.index = b.index) := auq h6
    rw [if_neg q7] at hF
    cases hF
    repeat (first | refine chk.ga ?_ | simp -dsimp [h1, q2, h4, q5, h6, q7])
    all_goals (try first | omega | rfl)
   ·have q7 : (a.index = b.index) := auq h6
    rw [if_pos q7] at hF
    cases hF
    repeat (first | refine chk.ga ?_ | simp -dsimp [h1, q2, h4, q5, h6, q7])
    all_goals (try first | omega | rfl)

theorem CC.laws_eqCtorS_l1 (a : List Vl.Ctor) (b : List Vl.Ctor) : (∀ (i : Nat) (o : Lo Bool Unit), F.laws_eqCtorS_l1 a b i = some o → ∀ (c : Code), navO [1, 1, 0, 1, 0, 0] (bodyOf Tryz.f60) = some c → ∀ (Q : Exit → ASt → Prop), o.post (fun r => ∀ st, Post Tryz.prog Tryz.f60 (fun r' _ => r'.le (.lit (.bool r))) .ret st → Q .ret st) (fun s => Q (.exit 0) ⟨[], []⟩) → ALoopU Tryz.prog B 0 27 (hold c .mk) ⟨[(0, .arr (List.map Vl.Ctor.c a)), (1, .arr (List.map Vl.Ctor.c b)), (5, .lit (.int .i64 (i : Int)))], []⟩ (hold Q .mk)) := by
 refine F.laws_eqCtorS_l1.partial_correctness a b
  _
  ?_
 ·intro _f_laws_eqCtorS_l1 ih_laws_eqCtorS_l1 i o hF
  intro c hc Q hq
  obtain rfl : c = _ := navEq hc rfl
  refine ALoopU.know fun hk hs => ?_
  have b0 := hk 0
  simp -dsimp at b0
  have b1 := hk 1
  simp -dsimp at b1
  clear hk hs
  refine ALoopU.enter ?_
  repeat (first | refine chk.ga ?_ | simp -dsimp)
  refine abr.split (fun h4 => ?_) (fun h4 => ?_)
  ·have q5 : (i < a.length) := auq h4
   have z6 : ((i : Int) < (a.length : Int)) := auz
   rw [if_pos q5] at hF
   repeat (first | refine chk.ga ?_ | simp -dsimp [h4, z6])
   refine ADraw.simple follows (by kernel_rfl) (by kernel_rfl) ?_
   have hF := ob hF; obtain ⟨x, e7, hF⟩ := hF
   have le7 := lt_of_get e7
   have hF := ob hF; obtain ⟨x8, e9, hF⟩ := hF
   have le9 := lt_of_get e9
   repeat (first | refine chk.ga ?_ | simp -dsimp [h4, z6, ↓e7, ↓e9])
   have hF := ob hF; obtain ⟨v, e10, hF⟩ := hF
   refine ((C.laws_eqCtor B hB1 hB2 x x8 v e10)).pgoW (by first | simp [h4, z6, ↓e7, ↓e9]; done | simp_all) (by simp) ?_
   repeat (first | refine chk.ga ?_ | simp -dsimp [h4, z6, ↓e7, ↓e9])
   refine abr.split (fun h11 => ?_) (fun h11 => ?_)
   ·have q12 : ¬ (v = true) := auq h11
    rw [if_neg q12] at hF
    cases hF
    repeat (first | refine chk.ga ?_ | simp -dsimp [h4, z6, ↓e7, ↓e9, h11, q12])
    refine Leave.go _ (Gh.refl _) (hq _ ?_)
    repeat (first | refine chk.ga ?_ | simp -dsimp [h4, z6, ↓e7, ↓e9, h11, q12])
   ·have q12 : (v = true) := auq h11
    rw [if_pos q12] at hF
    have w13 : IntKind.i64.wrap ((i : Int) + 1) = (i : Int) + 1 := wrap_in (by omega) (by omega)
    repeat (first | refine chk.ga ?_ | simp -dsimp [h4, z6, ↓e7, ↓e9, h11, q12, w13])
    refine Again.go _ ?_ ((ih_laws_eqCtorS_l1 (i + 1) o hF) _ rfl _ hq)
    exact (Gh.to3 (by simp) (by first | simp -dsimp [h4, z6, ↓e7, ↓e9, h11, q12, w13]; done | simp_all))
  ·have q5 : ¬ (i < a.length) := auq h4
   have z6 : ¬ ((i : Int) < (a.length : Int)) := auz
   rw [if_neg q5] at hF
   cases hF
   repeat (first | refine chk.ga ?_ | simp -dsimp [h4, q5, z6])
   refine Leave.go ⟨[], []⟩ (Gh.to3 (by simp) (by first | simp -dsimp [h4, q5, z6]; done | simp_all)) ?_
   exact hq

theorem C.laws_eqCtorS (a : List Vl.Ctor) (b : List Vl.Ctor) (r : Bool) (hF : F.laws_eqCtorS a b = some r) : PureCall Tryz.prog B 60 [.arr (List.map Vl.Ctor.c a), .arr (List.map Vl.Ctor.c b)] (.lit (.bool r)) := by
 unfold F.laws_eqCtorS at hF
 refine PureCall.enterLe Tryz.func60 (by kernel_rfl) rfl Tryz.ntmps60 (by simp) (by simp) ?_
 repeat (first | refine chk.ga ?_ | simp -dsimp)
 refine abr.split (fun h1 => ?_) (fun h1 => ?_)
 ·have q2 : ¬ (a.length = b.length) := auq h1
  have z3 : ¬ ((a.length : Int) = (b.length : Int)) := auz
  rw [if_neg q2] at hF
  cases hF
  repeat (first | refine chk.ga ?_ | simp -dsimp [h1, q2, z3])
  all_goals (try first | omega | rfl)
 ·have q2 : (a.length = b.length) := auq h1
  have z3 : ((a.length : Int) = (b.length : Int)) := auz
  rw [if_pos q2] at hF
  repeat (first | refine chk.ga ?_ | simp -dsimp [h1, q2, z3])
  have hF := ob hF; obtain ⟨o', ho14, hF⟩ := hF
  refine ALoop.goU _ ?_ (((CC.laws_eqCtorS_l1 B hB1 hB2 a b) 0 o' ho14) _ rfl _ ?_)
  ·exact (Gh.to3 (by simp) (by first | simp -dsimp [h1, q2, z3]; done | simp_all))
  rcases o' with r0 | sx
  ·dsimp only at hF
   cases hF
   intro st h
   simpa using h
  ·dsimp only at hF
   cases hF
   repeat (first | refine chk.ga ?_ | simp -dsimp)
   all_goals (try first | omega | rfl)

theorem C.laws_eqData (a : Vl.Data) (b : Vl.Data) (r : Bool) (hF : F.laws_eqData a b = some r) : PureCall Tryz.prog B 35 [.agg [.lit (.string a.name), .arr (List.map Vl.Ctor.c a.ctors)], .agg [.lit (.string b.name), .arr (List.map Vl.Ctor.c b.ctors)]] (.lit (.bool r)) := by
 unfold F.laws_eqData at hF
 refine PureCall.enterLe Tryz.func35 (by kernel_rfl) rfl Tryz.ntmps35 (by simp) (by simp) ?_
 repeat (first | refine chk.ga ?_ | simp -dsimp)
 refine abr.split (fun h1 => ?_) (fun h1 => ?_)
 ·have q2 : ¬ (a.name.toList = b.name.toList) := auq h1
  rw [if_neg q2] at hF
  cases hF
  repeat (first | refine chk.ga ?_ | simp -dsimp [h1, q2])
  all_goals (try first | omega | rfl)
 ·have q2 : (a.name.toList = b.name.toList) := auq h1
  rw [if_pos q2] at hF
  repeat (first | refine chk.ga ?_ | simp -dsimp [h1, q2])
  have hF := ob hF; obtain ⟨v, e3, hF⟩ := hF
  refine ((C.laws_eqCtorS B hB1 hB2 a.ctors b.ctors v e3)).goW (by first | simp [h1, q2]; done | simp_all) (by simp) ?_
  repeat (first | refine chk.ga ?_ | simp -dsimp [h1, q2])
  refine abr.split (fun h4 => ?_) (fun h4 => ?_)
  ·have q5 : ¬ (v = true) := auq h4
   rw [if_neg q5] at hF
   cases hF
   repeat (first | refine chk.ga ?_ | simp -dsimp [h1, q2, h4, q5])
   all_goals (try first | omega | rfl)
  ·have q5 : (v = true) := auq h4
   rw [if_pos q5] at hF
   cases hF
   repeat (first | refine chk.ga ?_ | simp -dsimp [h1, q2, h4, q5])
   all_goals (try first | omega | rfl)

theorem CC.laws_eqDataS_l1 (a : List Vl.Data) (b : List Vl.Data) : (∀ (i : Nat) (o : Lo Bool Unit), F.laws_eqDataS_l1 a b i = some o → ∀ (c : Code), navO [1, 1, 0, 1, 0, 0] (bodyOf Tryz.f16) = some c → ∀ (Q : Exit → ASt → Prop), o.post (fun r => ∀ st, Post Tryz.prog Tryz.f16 (fun r' _ => r'.le (.lit (.bool r))) .ret st → Q .ret st) (fun s => Q (.exit 0) ⟨[], []⟩) → ALoopU Tryz.prog B 0 27 (hold c .mk) ⟨[(0, .arr (List.map Vl.Data.c a)), (1, .arr (List.map Vl.Data.c b)), (5, .lit (.int .i64 (i : Int)))], []⟩ (hold Q .mk)) := by
 refine F.laws_eqDataS_l1.partial_correctness a b
  _
  ?_
 ·intro _f_laws_eqDataS_l1 ih_laws_eqDataS_l1 i o hF
  intro c hc Q hq
  obtain rfl : c = _ := navEq hc rfl
  refine ALoopU.know fun hk hs => ?_
  have b0 := hk 0
  simp -dsimp at b0
  have b1 := hk 1
  simp -dsimp at b1
  clear hk hs
  refine ALoopU.enter ?_
  repeat (first | refine chk.ga ?_ | simp -dsimp)
  refine abr.split (fun h4 => ?_) (fun h4 => ?_)
  ·have q5 : (i < a.length) := auq h4
   have z6 : ((i : Int) < (a.length : Int)) := auz
   rw [if_pos q5] at hF
   repeat (first | refine chk.ga ?_ | simp -dsimp [h4, z6])
   refine ADraw.simple follows (by kernel_rfl) (by kernel_rfl) ?_
   have hF := ob hF; obtain ⟨x, e7, hF⟩ := hF
   have le7 := lt_of_get e7
   have hF := ob hF; obtain ⟨x8, e9, hF⟩ := hF
   have le9 := lt_of_get e9
   repeat (first | refine chk.ga ?_ | simp -dsimp [h4, z6, ↓e7, ↓e9])
   have hF := ob hF; obtain ⟨v, e10, hF⟩ := hF
   refine ((C.laws_eqData B hB1 hB2 x x8 v e10)).pgoW (by first | simp [h4, z6, ↓e7, ↓e9]; done | simp_all) (by simp) ?_
   repeat (first | refine chk.ga ?_ | simp -dsimp [h4, z6, ↓e7, ↓e9])
   refine abr.split (fun h11 => ?_) (fun h11 => ?_)
   ·have q12 : ¬ (v = true) := auq h11
    rw [if_neg q12] at hF
    cases hF
    repeat (first | refine chk.ga ?_ | simp -dsimp [h4, z6, ↓e7, ↓e9, h11, q12])
    refine Leave.go _ (Gh.refl _) (hq _ ?_)
    repeat (first | refine chk.ga ?_ | simp -dsimp [h4, z6, ↓e7, ↓e9, h11, q12])
   ·have q12 : (v = true) := auq h11
    rw [if_pos q12] at hF
    have w13 : IntKind.i64.wrap ((i : Int) + 1) = (i : Int) + 1 := wrap_in (by omega) (by omega)
    repeat (first | refine chk.ga ?_ | simp -dsimp [h4, z6, ↓e7, ↓e9, h11, q12, w13])
    refine Again.go _ ?_ ((ih_laws_eqDataS_l1 (i + 1) o hF) _ rfl _ hq)
    exact (Gh.to3 (by simp) (by first | simp -dsimp [h4, z6, ↓e7, ↓e9, h11, q12, w13]; done | simp_all))
  ·have q5 : ¬ (i < a.length) := auq h4
   have z6 : ¬ ((i : Int) < (a.length : Int)) := auz
   rw [if_neg q5] at hF
   cases hF
   repeat (first | refine chk.ga ?_ | simp -dsimp [h4, q5, z6])
   refine Leave.go ⟨[], []⟩ (Gh.to3 (by simp) (by first | simp -dsimp [h4, q5, z6]; done | simp_all)) ?_
   exact hq

theorem C.laws_eqDataS (a : List Vl.Data) (b : List Vl.Data) (r : Bool) (hF : F.laws_eqDataS a b = some r) : PureCall Tryz.prog B 16 [.arr (List.map Vl.Data.c a), .arr (List.map Vl.Data.c b)] (.lit (.bool r)) := by
 unfold F.laws_eqDataS at hF
 refine PureCall.enterLe Tryz.func16 (by kernel_rfl) rfl Tryz.ntmps16 (by simp) (by simp) ?_
 repeat (first | refine chk.ga ?_ | simp -dsimp)
 refine abr.split (fun h1 => ?_) (fun h1 => ?_)
 ·have q2 : ¬ (a.length = b.length) := auq h1
  have z3 : ¬ ((a.length : Int) = (b.length : Int)) := auz
  rw [if_neg q2] at hF
  cases hF
  repeat (first | refine chk.ga ?_ | simp -dsimp [h1, q2, z3])
  all_goals (try first | omega | rfl)
 ·have q2 : (a.length = b.length) := auq h1
  have z3 : ((a.length : Int) = (b.length : Int)) := auz
  rw [if_pos q2] at hF
  repeat (first | refine chk.ga ?_ | simp -dsimp [h1, q2, z3])
  have hF := ob hF; obtain ⟨o', ho14, hF⟩ := hF
  refine ALoop.goU _ ?_ (((CC.laws_eqDataS_l1 B hB1 hB2 a b) 0 o' ho14) _ rfl _ ?_)
  ·exact (Gh.to3 (by simp) (by first | simp -dsimp [h1, q2, z3]; done | simp_all))
  rcases o' with r0 | sx
  ·dsimp only at hF
   cases hF
   intro st h
   simpa using h
  ·dsimp only at hF
   cases hF
   repeat (first | refine chk.ga ?_ | simp -dsimp)
   all_goals (try first | omega | rfl)

theorem C.laws_eqFunType (a : Vl.FunType) (b : Vl.FunType) (r : Bool) (hF : F.laws_eqFunType a b = some r) : PureCall Tryz.prog B 36 [.agg [.lit (.int .i64 a.arg.data), .lit (.int .i64 a.arg.index), .lit (.int .i64 a.res.data), .lit (.int .i64 a.res.index)], .agg [.lit (.int .i64 b.arg.data), .lit (.int .i64 b.arg.index), .lit (.int .i64 b.res.data), .lit (.int .i64 b.res.index)]] (.lit (.bool r)) := by
 unfold F.laws_eqFunType at hF
 refine PureCall.enterLe Tryz.func36 (by kernel_rfl) rfl Tryz.ntmps36 (by simp) (by simp) ?_
 repeat (first | refine chk.ga ?_ | simp -dsimp)
 have hF := ob hF; obtain ⟨v, e1, hF⟩ := hF
 refine ((C.laws_eqType B hB1 hB2 a.arg b.arg v e1)).goW (by simp) (by simp) ?_
 repeat (first | refine chk.ga ?_ | simp -dsimp)
 refine abr.split (fun h2 => ?_) (fun h2 => ?_)
 ·have q3 : ¬ (v = true) := auq h2
  rw [if_neg q3] at hF
  cases hF
  repeat (first | refine chk.ga ?_ | simp -dsimp [h2, q3])
  all_goals (try first | omega | rfl)
 ·have q3 : (v = true) := auq h2
  rw [if_pos q3] at hF
  repeat (first | refine chk.ga ?_ | simp -dsimp [h2, q3])
  have hF := ob hF; obtain ⟨v4, e5, hF⟩ := hF
  refine ((C.laws_eqType B hB1 hB2 a.res b.res v4 e5)).goW (by first | simp [h2, q3]; done | simp_all) (by simp) ?_
  repeat (first | refine chk.ga ?_ | simp -dsimp [h2, q3])
  refine abr.split (fun h6 => ?_) (fun h6 => ?_)
  ·have q7 : ¬ (v4 = true) := auq h6
   rw [if_neg q7] at hF
   cases hF
   repeat (first | refine chk.ga ?_ | simp -dsimp [h2, q3, h6, q7])
   all_goals (try first | omega | rfl)
  ·have q7 : (v4 = true) := auq h6
   rw [if_pos q7] at hF
   cases hF
   repeat (first | refine chk.ga ?_ | simp -dsimp [h2, q3, h6, q7])
   all_goals (try first | omega | rfl)

theorem CC.laws_eqFunTypeS_l1 (a : List Vl.FunType) (b : List Vl.FunType) : (∀ (i : Nat) (o : Lo Bool Unit), F.laws_eqFunTypeS_l1 a b i = some o → ∀ (c : Code), navO [1, 1, 0, 1, 0, 0] (bodyOf Tryz.f17) = some c → ∀ (Q : Exit → ASt → Prop), o.post (fun r => ∀ st, Post Tryz.prog Tryz.f17 (fun r' _ => r'.le (.lit (.bool r))) .ret st → Q .ret st) (fun s => Q (.exit 0) ⟨[], []⟩) → ALoopU Tryz.prog B 0 27 (hold c .mk) ⟨[(0, .arr (List.map Vl.FunType.c a)), (1, .arr (List.map Vl.FunType.c b)), (5, .lit (.int .i64 (i : Int)))], []⟩ (hold Q .mk)) := by
 refine F.laws_eqFunTypeS_l1.partial_correctness a b
  _
  ?_
 ·intro _f_laws_eqFunTypeS_l1 ih_laws_eqFunTypeS_l1 i o hF
  intro c hc Q hq
  obtain rfl : c = _ := navEq hc rfl
  refine ALoopU.know fun hk hs => ?_
  have b0 := hk 0
  simp -dsimp at b0
  have b1 := hk 1
  simp -dsimp at b1
  clear hk hs
  refine ALoopU.enter ?_
  repeat (first | refine chk.ga ?_ | simp -dsimp)
  refine abr.split (fun h4 => ?_) (fun h4 => ?_)
  ·have q5 : (i < a.length) := auq h4
   have z6 : ((i : Int) < (a.length : Int)) := auz
   rw [if_pos q5] at hF
   repeat (first | refine chk.ga ?_ | simp -dsimp [h4, z6])
   refine ADraw.simple follows (by kernel_rfl) (by kernel_rfl) ?_
   have hF := ob hF; obtain ⟨x, e7, hF⟩ := hF
   have le7 := lt_of_get e7
   have hF := ob hF; obtain ⟨x8, e9, hF⟩ := hF
   have le9 := lt_of_get e9
   repeat (first | refine chk.ga ?_ | simp -dsimp [h4, z6, ↓e7, ↓e9])
   have hF := ob hF; obtain ⟨v, e10, hF⟩ := hF
   refine ((C.laws_eqFunType B hB1 hB2 x x8 v e10)).pgoW (by first | simp [h4, z6, ↓e7, ↓e9]; done | simp_all) (by simp) ?_
   repeat (first | refine chk.ga ?_ | simp -dsimp [h4, z6, ↓e7, ↓e9])
   refine abr.split (fun h11 => ?_) (fun h11 => ?_)
   ·have q12 : ¬ (v = true) := auq h11
    rw [if_neg q12] at hF
    cases hF
    repeat (first | refine chk.ga ?_ | simp -dsimp [h4, z6, ↓e7, ↓e9, h11, q12])
    refine Leave.go _ (Gh.refl _) (hq _ ?_)
    repeat (first | refine chk.ga ?_ | simp -dsimp [h4, z6, ↓e7, ↓e9, h11, q12])
   ·have q12 : (v = true) := auq h11
    rw [if_pos q12] at hF
    have w13 : IntKind.i64.wrap ((i : Int) + 1) = (i : Int) + 1 := wrap_in (by omega) (by omega)
    repeat (first | refine chk.ga ?_ | simp -dsimp [h4, z6, ↓e7, ↓e9, h11, q12, w13])
    refine Again.go _ ?_ ((ih_laws_eqFunTypeS_l1 (i + 1) o hF) _ rfl _ hq)
    exact (Gh.to3 (by simp) (by first | simp -dsimp [h4, z6, ↓e7, ↓e9, h11, q12, w13]; done | simp_all))
  ·have q5 : ¬ (i < a.length) := auq h4
   have z6 : ¬ ((i : Int) < (a.length : Int)) := auz
   rw [if_neg q5] at hF
   cases hF
   repeat (first | refine chk.ga ?_ | simp -dsimp [h4, q5, z6])
   refine Leave.go ⟨[], []⟩ (Gh.to3 (by simp) (by first | simp -dsimp [h4, q5, z6]; done | simp_all)) ?_
   exact hq

theorem C.laws_eqFunTypeS (a : List Vl.FunType) (b : List Vl.FunType) (r : Bool) (hF : F.laws_eqFunTypeS a b = some r) : PureCall Tryz.prog B 17 [.arr (List.map Vl.FunType.c a), .arr (List.map Vl.FunType.c b)] (.lit (.bool r)) := by
 unfold F.laws_eqFunTypeS at hF
 refine PureCall.enterLe Tryz.func17 (by kernel_rfl) rfl Tryz.ntmps17 (by simp) (by simp) ?_
 repeat (first | refine chk.ga ?_ | simp -dsimp)
 refine abr.split (fun h1 => ?_) (fun h1 => ?_)
 ·have q2 : ¬ (a.length = b.length) := auq h1
  have z3 : ¬ ((a.length : Int) = (b.length : Int)) := auz
  rw [if_neg q2] at hF
  cases hF
  repeat (first | refine chk.ga ?_ | simp -dsimp [h1, q2, z3])
  all_goals (try first | omega | rfl)
 ·have q2 : (a.length = b.length) := auq h1
  have z3 : ((a.length : Int) = (b.length : Int)) := auz
  rw [if_pos q2] at hF
  repeat (first | refine chk.ga ?_ | simp -dsimp [h1, q2, z3])
  have hF := ob hF; obtain ⟨o', ho14, hF⟩ := hF
  refine ALoop.goU _ ?_ (((CC.laws_eqFunTypeS_l1 B hB1 hB2 a b) 0 o' ho14) _ rfl _ ?_)
  ·exact (Gh.to3 (by simp) (by first | simp -dsimp [h1, q2, z3]; done | simp_all))
  rcases o' with r0 | sx
  ·dsimp only at hF
   cases hF
   intro st h
   simpa using h
  ·dsimp only at hF
   cases hF
   repeat (first | refine chk.ga ?_ | simp -dsimp)
   all_goals (try first | omega | rfl)

theorem C.laws_eqVarType (a : Vl.VarType) (b : Vl.VarType) (r : Bool) (hF : F.laws_eqVarType a b = some r) : PureCall Tryz.prog B 37 [.agg [.lit (.int .i64 a.var), .lit (.int .i64 a.type.data), .lit (.int .i64 a.type.index)], .agg [.lit (.int .i64 b.var), .lit (.int .i64 b.type.data), .lit (.int .i64 b.type.index)]] (.lit (.bool r)) := by
 unfold F.laws_eqVarType at hF
 refine PureCall.enterLe Tryz.func37 (by kernel_rfl) rfl Tryz.ntmps37 (by simp) (by simp) ?_
 repeat (first | refine chk.ga ?_ | simp -dsimp)
 refine abr.split (fun h1 => ?_) (fun h1 => ?_)
 ·have q2 : ¬ (a.var = b.var) := auq h1
  rw [if_neg q2] at hF
  cases hF
  repeat (first | refine chk.ga ?_ | simp -dsimp [h1, q2])
  all_goals (try first | omega | rfl)
 ·have q2 : (a.var = b.var) := auq h1
  rw [if_pos q2] at hF
  repeat (first | refine chk.ga ?_ | simp -dsimp [h1, q2])
  have hF := ob hF; obtain ⟨v, e3, hF⟩ := hF
  refine ((C.laws_eqType B hB1 hB2 a.type b.type v e3)).goW (by first | simp [h1, q2]; done | simp_all) (by simp) ?_
  repeat (first | refine chk.ga ?_ | simp -dsimp [h1, q2])
  refine abr.split (fun h4 => ?_) (fun h4 => ?_)
  ·have q5 : ¬ (v = true) := auq h4
   rw [if_neg q5] at hF
   cases hF
   repeat (first | refine chk.ga ?_ | simp -dsimp [h1, q2, h4, q5])
   all_goals (try first | omega | rfl)
  ·have q5 : (v = true) := auq h4
   rw [if_pos q5] at hF
   cases hF
   repeat (first | refine chk.ga ?_ | simp -dsimp [h1, q2, h4, q5])
   all_goals (try first | omega | rfl)

theorem CC.laws_eqVarTypeS_l1 (a : List Vl.VarType) (b : List Vl.VarType) : (∀ (i : Nat) (o : Lo Bool Unit), F.laws_eqVarTypeS_l1 a b i = some o → ∀ (c : Code), navO [1, 1, 0, 1, 0, 0] (bodyOf Tryz.f18) = some c → ∀ (Q : Exit → ASt → Prop), o.post (fun r => ∀ st, Post Tryz.prog Tryz.f18 (fun r' _ => r'.le (.lit (.bool r))) .ret st → Q .ret st) (fun s => Q (.exit 0) ⟨[], []⟩) → ALoopU Tryz.prog B 0 27 (hold c .mk) ⟨[(0, .arr (List.map Vl.VarType.c a)), (1, .arr (List.map Vl.VarType.c b)), (5, .lit (.int .i64 (i : Int)))], []⟩ (hold Q .mk)) := by
 refine F.laws_eqVarTypeS_l1.partial_correctness a b
  _
  ?_
 ·intro _f_laws_eqVarTypeS_l1 ih_laws_eqVarTypeS_l1 i o hF
  intro c hc Q hq
  obtain rfl : c = _ := navEq hc rfl
  refine ALoopU.know fun hk hs => ?_
  have b0 := hk 0
  simp -dsimp at b0
  have b1 := hk 1
  simp -dsimp at b1
  clear hk hs
  refine ALoopU.enter ?_
  repeat (first | refine chk.ga ?_ | simp -dsimp)
  refine abr.split (fun h4 => ?_) (fun h4 => ?_)
  ·have q5 : (i < a.length) := auq h4
   have z6 : ((i : Int) < (a.length : Int)) := auz
   rw [if_pos q5] at hF
   repeat (first | refine chk.ga ?_ | simp -dsimp [h4, z6])
   refine ADraw.simple follows (by kernel_rfl) (by kernel_rfl) ?_
   have hF := ob hF; obtain ⟨x, e7, hF⟩ := hF
   have le7 := lt_of_get e7
   have hF := ob hF; obtain ⟨x8, e9, hF⟩ := hF
   have le9 := lt_of_get e9
   repeat (first | refine chk.ga ?_ | simp -dsimp [h4, z6, ↓e7, ↓e9])
   have hF := ob hF; obtain ⟨v, e10, hF⟩ := hF
   refine ((C.laws_eqVarType B hB1 hB2 x x8 v e10)).pgoW (by first | simp [h4, z6, ↓e7, ↓e9]; done | simp_all) (by simp) ?_
   repeat (first | refine chk.ga ?_ | simp -dsimp [h4, z6, ↓e7, ↓e9])
   refine abr.split (fun h11 => ?_) (fun h11 => ?_)
   ·have q12 : ¬ (v = true) := auq h11
    rw [if_neg q12] at hF
    cases hF
    repeat (first | refine chk.ga ?_ | simp -dsimp [h4, z6, ↓e7, ↓e9, h11, q12])
    refine Leave.go _ (Gh.refl _) (hq _ ?_)
    repeat (first | refine chk.ga ?_ | simp -dsimp [h4, z6, ↓e7, ↓e9, h11, q12])
   ·have q12 : (v = true) := auq h11
    rw [if_pos q12] at hF
    have w13 : IntKind.i64.wrap ((i : Int) + 1) = (i : Int) + 1 := wrap_in (by omega) (by omega)
    repeat (first | refine chk.ga ?_ | simp -dsimp [h4, z6, ↓e7, ↓e9, h11, q12, w13])
    refine Again.go _ ?_ ((ih_laws_eqVarTypeS_l1 (i + 1) o hF) _ rfl _ hq)
    exact (Gh.to3 (by simp) (by first | simp -dsimp [h4, z6, ↓e7, ↓e9, h11, q12, w13]; done | simp_all))
  ·have q5 : ¬ (i < a.length) := auq h4
   have z6 : ¬ ((i : Int) < (a.length : Int)) := auz
   rw [if_neg q5] at hF
   cases hF
   repeat (first | refine chk.ga ?_ | simp -dsimp [h4, q5, z6])
   refine Leave.go ⟨[], []⟩ (Gh.to3 (by simp) (by first | simp -dsimp [h4, q5, z6]; done | simp_all)) ?_
   exact hq

theorem C.laws_eqVarTypeS (a : List Vl.VarType) (b : List Vl.VarType) (r : Bool) (hF : F.laws_eqVarTypeS a b = some r) : PureCall Tryz.prog B 18 [.arr (List.map Vl.VarType.c a), .arr (List.map Vl.VarType.c b)] (.lit (.bool r)) := by
 unfold F.laws_eqVarTypeS at hF
 refine PureCall.enterLe Tryz.func18 (by kernel_rfl) rfl Tryz.ntmps18 (by simp) (by simp) ?_
 repeat (first | refine chk.ga ?_ | simp -dsimp)
 refine abr.split (fun h1 => ?_) (fun h1 => ?_)
 ·have q2 : ¬ (a.length = b.length) := auq h1
  have z3 : ¬ ((a.length : Int) = (b.length : Int)) := auz
  rw [if_neg q2] at hF
  cases hF
  repeat (first | refine chk.ga ?_ | simp -dsimp [h1, q2, z3])
  all_goals (try first | omega | rfl)
 ·have q2 : (a.length = b.length) := auq h1
  have z3 : ((a.length : Int) = (b.length : Int)) := auz
  rw [if_pos q2] at hF
  repeat (first | refine chk.ga ?_ | simp -dsimp [h1, q2, z3])
  have hF := ob hF; obtain ⟨o', ho14, hF⟩ := hF
  refine ALoop.goU _ ?_ (((CC.laws_eqVarTypeS_l1 B hB1 hB2 a b) 0 o' ho14) _ rfl _ ?_)
  ·exact (Gh.to3 (by simp) (by first | simp -dsimp [h1, q2, z3]; done | simp_all))
  rcases o' with r0 | sx
  ·dsimp only at hF
   cases hF
   intro st h
   simpa using h
  ·dsimp only at hF
   cases hF
   repeat (first | refine chk.ga ?_ | simp -dsimp)
   all_goals (try first | omega | rfl)

theorem CC.laws_eqExpr  : (∀ (a : Vl.Expr) (b : Vl.Expr) (r : Bool), F.laws_eqExpr a b = some r → PureCall Tryz.prog B 19 [.agg [.lit (.int .i64 a.op), .lit (.int .i64 a.n), .lit (.int .i64 a.ctor), .arr (List.map Vl.Expr.c a.kids)], .agg [.lit (.int .i64 b.op), .lit (.int .i64 b.n), .lit (.int .i64 b.ctor), .arr (List.map Vl.Expr.c b.kids)]] (.lit (.bool r))) ∧
  (∀ (a : List Vl.Expr) (b : List Vl.Expr) (r : Bool), F.laws_eqExprS a b = some r → PureCall Tryz.prog B 38 [.arr (List.map Vl.Expr.c a), .arr (List.map Vl.Expr.c b)] (.lit (.bool r))) ∧
  (∀ (a : List Vl.Expr) (b : List Vl.Expr) (i : Nat) (o : Lo Bool Unit), F.laws_eqExprS_l1 a b i = some o → ∀ (c : Code), navO [1, 1, 0, 1, 0, 0] (bodyOf Tryz.f38) = some c → ∀ (Q : Exit → ASt → Prop), o.post (fun r => ∀ st, Post Tryz.prog Tryz.f38 (fun r' _ => r'.le (.lit (.bool r))) .ret st → Q .ret st) (fun s => Q (.exit 0) ⟨[], []⟩) → ALoopU Tryz.prog B 0 27 (hold c .mk) ⟨[(0, .arr (List.map Vl.Expr.c a)), (1, .arr (List.map Vl.Expr.c b)), (5, .lit (.int .i64 (i : Int)))], []⟩ (hold Q .mk)) := by
 refine F.laws_eqExpr.mutual_partial_correctness 
  _ _ _
  ?_ ?_ ?_
 ·intro _f_laws_eqExprS ih_laws_eqExprS a b r hF
  refine PureCall.enterLe Tryz.func19 (by kernel_rfl) rfl Tryz.ntmps19 (by simp) (by simp) ?_
  repeat (first | refine chk.ga ?_ | simp -dsimp)
  refine abr.split (fun h1 => ?_) (fun h1 => ?_)
  ·have q2 : ¬ (a.op = b.op) := auq h1
   rw [if_neg q2] at hF
   cases hF
   repeat (first | refine chk.ga ?_ | simp -dsimp [h1, q2])
   all_goals (try first | omega | rfl)
  ·have q2 : (a.op = b.op) := auq h1
   rw [if_pos q2] at hF
   repeat (first | refine chk.ga ?_ | simp -dsimp [h1, q2])
   refine abr.split (fun h3 => ?_) (fun h3 => ?_)
   ·have q4 : ¬ (a.n = b.n) := auq h3
    rw [if_neg q4] at hF
    cases hF
    repeat (first | refine chk.ga ?_ | simp -dsimp [h1, q2, h3, q4])
    all_goals (try first | omega | rfl)
   ·have q4 : (a.n = b.n) := auq h3
    rw [if_pos q4] at hF
    repeat (first | refine chk.ga ?_ | simp -dsimp [h1, q2, h3, q4])
    refine abr.split (fun h5 => ?_) (fun h5 => ?_)
    ·have q6 : ¬ (a.ctor = b.ctor) := auq h5
     rw [if_neg q6] at hF
     cases hF
     repeat (first | refine chk.ga ?_ | simp -dsimp [h1, q2, h3, q4, h5, q6])
     all_goals (try first | omega | rfl)
    ·have q6 : (a.ctor = b.ctor) := auq h5
     rw [if_pos q6] at hF
     repeat (first | refine chk.ga ?_ | simp -dsimp [h1, q2, h3, q4, h5, q6])
     have hF := ob hF; obtain ⟨v, e7, hF⟩ := hF
     refine ((ih_laws_eqExprS a.kids b.kids v e7)).goW (by first | simp [h1, q2, h3, q4, h5, q6]; done | simp_all) (by simp) ?_
     repeat (first | refine chk.ga ?_ | simp -dsimp [h1, q2, h3, q4, h5, q6])
     refine abr.split (fun h8 => ?_) (fun h8 => ?_)
     ·have q9 : ¬ (v = true) := auq h8
      rw [if_neg q9] at hF
      cases hF
      repeat (first | refine chk.ga ?_ | simp -dsimp [h1, q2, h3, q4, h5, q6, h8, q9])
      all_goals (try first | omega | rfl)
     ·have q9 : (v = true) := auq h8
      rw [if_pos q9] at hF
      cases hF
      repeat (first | refine chk.ga ?_ | simp -dsimp [h1, q2, h3, q4, h5, q6, h8, q9])
      all_goals (try first | omega | rfl)
 ·intro _f_laws_eqExprS_l1 ih_laws_eqExprS_l1 a b r hF
  refine PureCall.enterLe Tryz.func38 (by kernel_rfl) rfl Tryz.ntmps38 (by simp) (by simp) ?_
  repeat (first | refine chk.ga ?_ | simp -dsimp)
  refine abr.split (fun h1 => ?_) (fun h1 => ?_)
  ·have q2 : ¬ (a.length = b.length) := auq h1
   have z3 : ¬ ((a.length : Int) = (b.length : Int)) := auz
   rw [if_neg q2] at hF
   cases hF
   repeat (first | refine chk.ga ?_ | simp -dsimp [h1, q2, z3])
   all_goals (try first | omega | rfl)
  ·have q2 : (a.length = b.length) := auq h1
   have z3 : ((a.length : Int) = (b.length : Int)) := auz
   rw [if_pos q2] at hF
   repeat (first | refine chk.ga ?_ | simp -dsimp [h1, q2, z3])
   have hF := ob hF; obtain ⟨o', ho14, hF⟩ := hF
   refine ALoop.goU _ ?_ ((ih_laws_eqExprS_l1 a b 0 o' ho14) _ rfl _ ?_)
   ·exact (Gh.to3 (by simp) (by first | simp -dsimp [h1, q2, z3]; done | simp_all))
   rcases o' with r0 | sx
   ·dsimp only at hF
    cases hF
    intro st h
    simpa using h
   ·dsimp only at hF
    cases hF
    repeat (first | refine chk.ga ?_ | simp -dsimp)
    all_goals (try first | omega | rfl)
 ·intro _f_laws_eqExpr _f_laws_eqExprS_l1 ih_laws_eqExpr ih_laws_eqExprS_l1 a b i o hF
  intro c hc Q hq
  obtain rfl : c = _ := navEq hc rfl
  refine ALoopU.know fun hk hs => ?_
  have b0 := hk 0
  simp -dsimp at b0
  have b1 := hk 1
  simp -dsimp at b1
  clear hk hs
  refine ALoopU.enter ?_
  repeat (first | refine chk.ga ?_ | simp -dsimp)
  refine abr.split (fun h4 => ?_) (fun h4 => ?_)
  ·have q5 : (i < a.length) := auq h4
   have z6 : ((i : Int) < (a.length : Int)) := auz
   rw [if_pos q5] at hF
   repeat (first | refine chk.ga ?_ | simp -dsimp [h4, z6])
   refine ADraw.simple follows (by kernel_rfl) (by kernel_rfl) ?_
   have hF := ob hF; obtain ⟨x, e7, hF⟩ := hF
   have le7 := lt_of_get e7
   have hF := ob hF; obtain ⟨x8, e9, hF⟩ := hF
   have le9 := lt_of_get e9
   repeat (first | refine chk.ga ?_ | simp -dsimp [h4, z6, ↓e7, ↓e9])
   have hF := ob hF; obtain ⟨v, e10, hF⟩ := hF
   refine ((ih_laws_eqExpr x x8 v e10)).pgoW (by first | simp [h4, z6, ↓e7, ↓e9]; done | simp_all) (by simp) ?_
   repeat (first | refine chk.ga ?_ | simp -dsimp [h4, z6, ↓e7, ↓e9])
   refine abr.split (fun h11 => ?_) (fun h11 => ?_)
   ·have q12 : ¬ (v = true) := auq h11
    rw [if_neg q12] at hF
    cases hF
    repeat (first | refine chk.ga ?_ | simp -dsimp [h4, z6, ↓e7, ↓e9, h11, q12])
    refine Leave.go _ (Gh.refl _) (hq _ ?_)
    repeat (first | refine chk.ga ?_ | simp -dsimp [h4, z6, ↓e7, ↓e9, h11, q12])
   ·have q12 : (v = true) := auq h11
    rw [if_pos q12] at hF
    have w13 : IntKind.i64.wrap ((i : Int) + 1) = (i : Int) + 1 := wrap_in (by omega) (by omega)
    repeat (first | refine chk.ga ?_ | simp -dsimp [h4, z6, ↓e7, ↓e9, h11, q12, w13])
    refine Again.go _ ?_ ((ih_laws_eqExprS_l1 a b (i + 1) o hF) _ rfl _ hq)
    exact (Gh.to3 (by simp) (by first | simp -dsimp [h4, z6, ↓e7, ↓e9, h11, q12, w13]; done | simp_all))
  ·have q5 : ¬ (i < a.length) := auq h4
   have z6 : ¬ ((i : Int) < (a.length : Int)) := auz
   rw [if_neg q5] at hF
   cases hF
   repeat (first | refine chk.ga ?_ | simp -dsimp [h4, q5, z6])
   refine Leave.go ⟨[], []⟩ (Gh.to3 (by simp) (by first | simp -dsimp [h4, q5, z6]; done | simp_all)) ?_
   exact hq

theorem C.laws_FnExactFormatExpr (aW : List Vl.Data) (aFuns : List Vl.FunType) (aVars : List Vl.VarType) (aT : Vl.Ty) (aE : Vl.Expr) (r : Bool) (hF : F.laws_FnExactFormatExpr aW aFuns aVars aT aE = some r) : PureCall Tryz.prog B 3 [.arr (List.map Vl.Data.c aW), .arr (List.map Vl.FunType.c aFuns), .arr (List.map Vl.VarType.c aVars), .agg [.lit (.int .i64 aT.data), .lit (.int .i64 aT.index)], .agg [.lit (.int .i64 aE.op), .lit (.int .i64 aE.n), .lit (.int .i64 aE.ctor), .arr (List.map Vl.Expr.c aE.kids)]] (.lit (.bool r)) := by
 unfold F.laws_FnExactFormatExpr at hF
 refine PureCall.enterLe Tryz.func3 (by kernel_rfl) rfl Tryz.ntmps3 (by simp) (by simp) ?_
 repeat (first | refine chk.ga ?_ | simp -dsimp)
 have hF := ob hF; obtain ⟨v, e1, hF⟩ := hF
 refine ((C.laws_szDataS B hB1 hB2 aW (1048576 : Int) v e1)).goW (by simp) (by simp) ?_
 repeat (first | refine chk.ga ?_ | simp -dsimp)
 refine abr.split (fun h2 => ?_) (fun h2 => ?_)
 ·have q3 : (v < 0) := auq h2
  rw [if_pos q3] at hF
  cases hF
  repeat (first | refine chk.ga ?_ | simp -dsimp [h2])
  all_goals (try first | omega | rfl)
 ·have q3 : ¬ (v < 0) := auq h2
  rw [if_neg q3] at hF
  repeat (first | refine chk.ga ?_ | simp -dsimp [h2, q3])
  have hF := ob hF; obtain ⟨v4, e5, hF⟩ := hF
  refine ((C.laws_szFunTypeS B hB1 hB2 aFuns v v4 e5)).goW (by first | simp [h2, q3]; done | simp_all) (by simp) ?_
  repeat (first | refine chk.ga ?_ | simp -dsimp [h2, q3])
  refine abr.split (fun h6 => ?_) (fun h6 => ?_)
  ·have q7 : (v4 < 0) := auq h6
   rw [if_pos q7] at hF
   cases hF
   repeat (first | refine chk.ga ?_ | simp -dsimp [h2, q3, h6])
   all_goals (try first | omega | rfl)
  ·have q7 : ¬ (v4 < 0) := auq h6
   rw [if_neg q7] at hF
   repeat (first | refine chk.ga ?_ | simp -dsimp [h2, q3, h6, q7])
   have hF := ob hF; obtain ⟨v8, e9, hF⟩ := hF
   refine ((C.laws_szVarTypeS B hB1 hB2 aVars v4 v8 e9)).goW (by first | simp [h2, q3, h6, q7]; done | simp_all) (by simp) ?_
   repeat (first | refine chk.ga ?_ | simp -dsimp [h2, q3, h6, q7])
   refine abr.split (fun h10 => ?_) (fun h10 => ?_)
   ·have q11 : (v8 < 0) := auq h10
    rw [if_pos q11] at hF
    cases hF
    repeat (first | refine chk.ga ?_ | simp -dsimp [h2, q3, h6, q7, h10])
    all_goals (try first | omega | rfl)
   ·have q11 : ¬ (v8 < 0) := auq h10
    rw [if_neg q11] at hF
    repeat (first | refine chk.ga ?_ | simp -dsimp [h2, q3, h6, q7, h10, q11])
    have hF := ob hF; obtain ⟨v12, e13, hF⟩ := hF
    refine (((CC.laws_szExpr B hB1 hB2 ).1 aE v8 v12 e13)).goW (by first | simp [h2, q3, h6, q7, h10, q11]; done | simp_all) (by simp) ?_
    repeat (first | refine chk.ga ?_ | simp -dsimp [h2, q3, h6, q7, h10, q11])
    refine abr.split (fun h14 => ?_) (fun h14 => ?_)
    ·have q15 : (v12 < 0) := auq h14
     rw [if_pos q15] at hF
     cases hF
     repeat (first | refine chk.ga ?_ | simp -dsimp [h2, q3, h6, q7, h10, q11, h14])
     all_goals (try first | omega | rfl)
    ·have q15 : ¬ (v12 < 0) := auq h14
     rw [if_neg q15] at hF
     repeat (first | refine chk.ga ?_ | simp -dsimp [h2, q3, h6, q7, h10, q11, h14, q15])
     refine ADraw.simple follows (by kernel_rfl) (by kernel_rfl) ?_
     repeat (first | refine chk.ga ?_ | simp -dsimp [h2, q3, h6, q7, h10, q11, h14, q15])
     have hF := ob hF; obtain ⟨v16, e17, hF⟩ := hF
     refine ((C.laws_toDataS B hB1 hB2 aW v16 e17)).pgoW (by first | simp [h2, q3, h6, q7, h10, q11, h14, q15]; done | simp_all) (by simp) ?_
     repeat (first | refine chk.ga ?_ | simp -dsimp [h2, q3, h6, q7, h10, q11, h14, q15])
     have hF := ob hF; obtain ⟨v18, e19, hF⟩ := hF
     refine ((C.laws_toFunTypeS B hB1 hB2 aFuns v18 e19)).pgoW (by first | simp [h2, q3, h6, q7, h10, q11, h14, q15]; done | simp_all) (by simp) ?_
     repeat (first | refine chk.ga ?_ | simp -dsimp [h2, q3, h6, q7, h10, q11, h14, q15])
     have hF := ob hF; obtain ⟨v20, e21, hF⟩ := hF
     refine ((C.laws_toVarTypeS B hB1 hB2 aVars v20 e21)).pgoW (by first | simp [h2, q3, h6, q7, h10, q11, h14, q15]; done | simp_all) (by simp) ?_
     repeat (first | refine chk.ga ?_ | simp -dsimp [h2, q3, h6, q7, h10, q11, h14, q15])
     have hF := ob hF; obtain ⟨v22, e23, hF⟩ := hF
     refine ((C.laws_toType B hB1 hB2 aT v22 e23)).pgoW (by first | simp [h2, q3, h6, q7, h10, q11, h14, q15]; done | simp_all) (by simp) ?_
     repeat (first | refine chk.ga ?_ | simp -dsimp [h2, q3, h6, q7, h10, q11, h14, q15])
     have hF := ob hF; obtain ⟨v24, e25, hF⟩ := hF
     refine (((CC.laws_toExpr B hB1 hB2 ).1 aE v24 e25)).pgoW (by first | simp [h2, q3, h6, q7, h10, q11, h14, q15]; done | simp_all) (by simp) ?_
     repeat (first | refine chk.ga ?_ | simp -dsimp [h2, q3, h6, q7, h10, q11, h14, q15])
     have hF := ob hF; obtain ⟨v26, e27, hF⟩ := hF
     refine ((C.spec_FormatExpr B hB1 hB2 v16 v18 v20 v22 v24 v26 e27)).pgoW (by first | simp [h2, q3, h6, q7, h10, q11, h14, q15]; done | simp_all) (by simp) ?_
     repeat (first | refine chk.ga ?_ | simp -dsimp [h2, q3, h6, q7, h10, q11, h14, q15])
     have hF := ob hF; obtain ⟨v28, e29, hF⟩ := hF
     refine ((C.laws_toDataS B hB1 hB2 aW v28 e29)).goW (by first | simp [h2, q3, h6, q7, h10, q11, h14, q15]; done | simp_all) (by simp) ?_
     repeat (first | refine chk.ga ?_ | simp -dsimp [h2, q3, h6, q7, h10, q11, h14, q15])
     have hF := ob hF; obtain ⟨v30, e31, hF⟩ := hF
     refine ((C.laws_toFunTypeS B hB1 hB2 aFuns v30 e31)).goW (by first | simp [h2, q3, h6, q7, h10, q11, h14, q15]; done | simp_all) (by simp) ?_
     repeat (first | refine chk.ga ?_ | simp -dsimp [h2, q3, h6, q7, h10, q11, h14, q15])
     have hF := ob hF; obtain ⟨v32, e33, hF⟩ := hF
     refine ((C.laws_toVarTypeS B hB1 hB2 aVars v32 e33)).goW (by first | simp [h2, q3, h6, q7, h10, q11, h14, q15]; done | simp_all) (by simp) ?_
     repeat (first | refine chk.ga ?_ | simp -dsimp [h2, q3, h6, q7, h10, q11, h14, q15])
     have hF := ob hF; obtain ⟨v34, e35, hF⟩ := hF
     refine (((CC.laws_toExpr B hB1 hB2 ).1 aE v34 e35)).goW (by first | simp [h2, q3, h6, q7, h10, q11, h14, q15]; done | simp_all) (by simp) ?_
     repeat (first | refine chk.ga ?_ | simp -dsimp [h2, q3, h6, q7, h10, q11, h14, q15])
     refine ADraw.simple follows (by kernel_rfl) (by kernel_rfl) ?_
     repeat (first | refine chk.ga ?_ | simp -dsimp [h2, q3, h6, q7, h10, q11, h14, q15])
     have hF := ob hF; obtain ⟨v36, e37, hF⟩ := hF
     refine ((C.laws_toType B hB1 hB2 aT v36 e37)).pgoW (by first | simp [h2, q3, h6, q7, h10, q11, h14, q15]; done | simp_all) (by simp) ?_
     repeat (first | refine chk.ga ?_ | simp -dsimp [h2, q3, h6, q7, h10, q11, h14, q15])
     have hF := ob hF; obtain ⟨v38, e39, hF⟩ := hF
     refine ((C.impl_FormatExpr B hB1 hB2 v28 v30 v32 v36 v34 v38 e39)).pgoW (by first | simp [h2, q3, h6, q7, h10, q11, h14, q15]; done | simp_all) (by simp) ?_
     repeat (first | refine chk.ga ?_ | simp -dsimp [h2, q3, h6, q7, h10, q11, h14, q15])
     refine abr.split (fun h40 => ?_) (fun h40 => ?_)
     ·have q41 : ¬ (v38.toList = v26.toList) := auq h40
      rw [if_neg q41] at hF
      cases hF
      repeat (first | refine chk.ga ?_ | simp -dsimp [h2, q3, h6, q7, h10, q11, h14, q15, h40, q41])
      all_goals (try first | omega | rfl)
     ·have q41 : (v38.toList = v26.toList) := auq h40
      rw [if_pos q41] at hF
      repeat (first | refine chk.ga ?_ | simp -dsimp [h2, q3, h6, q7, h10, q11, h14, q15, h40, q41])
      have hF := ob hF; obtain ⟨v42, e43, hF⟩ := hF
      refine ((C.laws_toDataS B hB1 hB2 aW v42 e43)).goW (by first | simp [h2, q3, h6, q7, h10, q11, h14, q15, h40, q41]; done | simp_all) (by simp) ?_
      repeat (first | refine chk.ga ?_ | simp -dsimp [h2, q3, h6, q7, h10, q11, h14, q15, h40, q41])
      have hF := ob hF; obtain ⟨v44, e45, hF⟩ := hF
      refine ((C.laws_eqDataS B hB1 hB2 v28 v42 v44 e45)).goW (by first | simp [h2, q3, h6, q7, h10, q11, h14, q15, h40, q41]; done | simp_all) (by simp) ?_
      repeat (first | refine chk.ga ?_ | simp -dsimp [h2, q3, h6, q7, h10, q11, h14, q15, h40, q41])
      refine abr.split (fun h46 => ?_) (fun h46 => ?_)
      ·have q47 : ¬ (v44 = true) := auq h46
       rw [if_neg q47] at hF
       cases hF
       repeat (first | refine chk.ga ?_ | simp -dsimp [h2, q3, h6, q7, h10, q11, h14, q15, h40, q41, h46, q47])
       all_goals (try first | omega | rfl)
      ·have q47 : (v44 = true) := auq h46
       rw [if_pos q47] at hF
       repeat (first | refine chk.ga ?_ | simp -dsimp [h2, q3, h6, q7, h10, q11, h14, q15, h40, q41, h46, q47])
       have hF := ob hF; obtain ⟨v48, e49, hF⟩ := hF
       refine ((C.laws_toFunTypeS B hB1 hB2 aFuns v48 e49)).goW (by first | simp [h2, q3, h6, q7, h10, q11, h14, q15, h40, q41, h46, q47]; done | simp_all) (by simp) ?_
       repeat (first | refine chk.ga ?_ | simp -dsimp [h2, q3, h6, q7, h10, q11, h14, q15, h40, q41, h46, q47])
       have hF := ob hF; obtain ⟨v50, e51, hF⟩ := hF
       refine ((C.laws_eqFunTypeS B hB1 hB2 v30 v48 v50 e51)).goW (by first | simp [h2, q3, h6, q7, h10, q11, h14, q15, h40, q41, h46, q47]; done | simp_all) (by simp) ?_
       repeat (first | refine chk.ga ?_ | simp -dsimp [h2, q3, h6, q7, h10, q11, h14, q15, h40, q41, h46, q47])
       refine abr.split (fun h52 => ?_) (fun h52 => ?_)
       ·have q53 : ¬ (v50 = true) := auq h52
        rw [if_neg q53] at hF
        cases hF
        repeat (first | refine chk.ga ?_ | simp -dsimp [h2, q3, h6, q7, h10, q11, h14, q15, h40, q41, h46, q47, h52, q53])
        all_goals (try first | omega | rfl)
       ·have q53 : (v50 = true) := auq h52
        rw [if_pos q53] at hF
        repeat (first | refine chk.ga ?_ | simp -dsimp [h2, q3, h6, q7, h10, q11, h14, q15, h40, q41, h46, q47, h52, q53])
        have hF := ob hF; obtain ⟨v54, e55, hF⟩ := hF
        refine ((C.laws_toVarTypeS B hB1 hB2 aVars v54 e55)).goW (by first | simp [h2, q3, h6, q7, h10, q11, h14, q15, h40, q41, h46, q47, h52, q53]; done | simp_all) (by simp) ?_
        repeat (first | refine chk.ga ?_ | simp -dsimp [h2, q3, h6, q7, h10, q11, h14, q15, h40, q41, h46, q47, h52, q53])
        have hF := ob hF; obtain ⟨v56, e57, hF⟩ := hF
        refine ((C.laws_eqVarTypeS B hB1 hB2 v32 v54 v56 e57)).goW (by first | simp [h2, q3, h6, q7, h10, q11, h14, q15, h40, q41, h46, q47, h52, q53]; done | simp_all) (by simp) ?_
        repeat (first | refine chk.ga ?_ | simp -dsimp [h2, q3, h6, q7, h10, q11, h14, q15, h40, q41, h46, q47, h52, q53])
        refine abr.split (fun h58 => ?_) (fun h58 => ?_)
        ·have q59 : ¬ (v56 = true) := auq h58
         rw [if_neg q59] at hF
         cases hF
         repeat (first | refine chk.ga ?_ | simp -dsimp [h2, q3, h6, q7, h10, q11, h14, q15, h40, q41, h46, q47, h52, q53, h58, q59])
         all_goals (try first | omega | rfl)
        ·have q59 : (v56 = true) := auq h58
         rw [if_pos q59] at hF
         repeat (first | refine chk.ga ?_ | simp -dsimp [h2, q3, h6, q7, h10, q11, h14, q15, h40, q41, h46, q47, h52, q53, h58, q59])
         refine ADraw.simple follows (by kernel_rfl) (by kernel_rfl) ?_
         repeat (first | refine chk.ga ?_ | simp -dsimp [h2, q3, h6, q7, h10, q11, h14, q15, h40, q41, h46, q47, h52, q53, h58, q59])
         have hF := ob hF; obtain ⟨v60, e61, hF⟩ := hF
         refine (((CC.laws_toExpr B hB1 hB2 ).1 aE v60 e61)).pgoW (by first | simp [h2, q3, h6, q7, h10, q11, h14, q15, h40, q41, h46, q47, h52, q53, h58, q59]; done | simp_all) (by simp) ?_
         repeat (first | refine chk.ga ?_ | simp -dsimp [h2, q3, h6, q7, h10, q11, h14, q15, h40, q41, h46, q47, h52, q53, h58, q59])
         have hF := ob hF; obtain ⟨v62, e63, hF⟩ := hF
         refine (((CC.laws_eqExpr B hB1 hB2 ).1 v34 v60 v62 e63)).pgoW (by first | simp [h2, q3, h6, q7, h10, q11, h14, q15, h40, q41, h46, q47, h52, q53, h58, q59]; done | simp_all) (by simp) ?_
         repeat (first | refine chk.ga ?_ | simp -dsimp [h2, q3, h6, q7, h10, q11, h14, q15, h40, q41, h46, q47, h52, q53, h58, q59])
         refine abr.split (fun h64 => ?_) (fun h64 => ?_)
         ·have q65 : ¬ (v62 = true) := auq h64
          rw [if_neg q65] at hF
          cases hF
          repeat (first | refine chk.ga ?_ | simp -dsimp [h2, q3, h6, q7, h10, q11, h14, q15, h40, q41, h46, q47, h52, q53, h58, q59, h64, q65])
          all_goals (try first | omega | rfl)
         ·have q65 : (v62 = true) := auq h64
          rw [if_pos q65] at hF
          cases hF
          repeat (first | refine chk.ga ?_ | simp -dsimp [h2, q3, h6, q7, h10, q11, h14, q15, h40, q41, h46, q47, h52, q53, h58, q59, h64, q65])
          all_goals (try first | omega | rfl)

end Go.Proofs.YtdehlcjhndoclaaGreatDoor
