/- The contracts: the code computes the functions (printed by gen.py). -/
import Derived.Test.YtelglbenbnkjmaaProg
import Derived.Test.YtelglbenbnkjmaaExactMaskValueF
import Derived.Test.YtelglbenbnkjmaaExactMaskValueC1
namespace Go.Proofs.Ytelglbenbnkjmaa
open Go Go.Proofs Go.Vl
set_option linter.unusedSimpArgs false
set_option linter.unusedVariables false
set_option linter.unusedSectionVars false
set_option maxRecDepth 100000
set_option maxHeartbeats 4000000

attribute [local irreducible] ECallA NCallA aL aLg AMake MLoop AgainM LeaveM awpM aopsM MutCall BCall chk abr ACall ALoop ALoopU ADraw Again Leave PCallA PCall Post awp aops PureCall hold
variable (B : Nat) (hB1 : 67108864 ≤ B) (hB2 : B ≤ 9223372036854775807)
include hB1 hB2

theorem CC.impl_valueScan (w : List Vl.Data) (holes : Bool) : (∀ (t : Vl.Ty) (v : Vl.Value) (deep : Int) (count : Int) (r : Bool × Int), F.impl_valueScan w t v deep holes count = some r → MutCall Try.prog B 152 [.lit (.int .i64 count)] [.arr (List.map Vl.Data.c w), .agg [.lit (.int .i64 t.data), .lit (.int .i64 t.index)], .agg [.lit (.int .i64 v.ctor), .lit (.int .i64 v.n), .arr (List.map Vl.Value.c v.kids)], .lit (.int .i64 deep), .lit (.bool holes), .ptr 0 0] (.lit (.bool r.1)) [.lit (.int .i64 r.2)]) ∧
  (∀ (v : Vl.Value) (deep : Int) (v60 : List Vl.Ty) (z65 : Int) (i66 : Nat) (o : Lo (Bool × Int) Int), F.impl_valueScan_l2 w v deep holes v60 z65 i66 = some o → ∀ (c : Code), navO [1, 1, 1, 1, 1, 1, 0, 1, 0, 0] (bodyOf Try.f152) = some c → ∀ (Q : Exit → ASt → Prop), o.post (fun r => ∀ st, Post Try.prog Try.f152 (fun r' σ' => r'.le (.lit (.bool r.1)) ∧ mcell σ' [.lit (.int .i64 r.2)]) .ret st → Q .ret st) (fun s => Q (.exit 1) ⟨[], [.cells [.lit (.int .i64 s)]]⟩) → ALoopU Try.prog B 1 108 (hold c .mk) ⟨[(0, .arr (List.map Vl.Data.c w)), (3, .lit (.int .i64 deep)), (4, .lit (.bool holes)), (5, .ptr 0 0), (13, .arr (List.map Vl.Ty.c v60)), (88, .arr (List.map Vl.Value.c v.kids)), (89, .lit (.int .i64 (v.kids.length : Int))), (90, .lit (.int .i64 (i66 : Int)))], [.cells [.lit (.int .i64 z65)]]⟩ (hold Q .mk)) ∧
  (∀ (v : Vl.Value) (deep : Int) (v27 : List Vl.Ty) (z : Int) (i : Nat) (o : Lo (Bool × Int) Int), F.impl_valueScan_l1 w v deep holes v27 z i = some o → ∀ (c : Code), navO [1, 1, 1, 1, 1, 1, 0, 1, 0, 0] (bodyOf Try.f152) = some c → ∀ (Q : Exit → ASt → Prop), o.post (fun r => ∀ st, Post Try.prog Try.f152 (fun r' σ' => r'.le (.lit (.bool r.1)) ∧ mcell σ' [.lit (.int .i64 r.2)]) .ret st → Q .ret st) (fun s => Q (.exit 1) ⟨[], [.cells [.lit (.int .i64 s)]]⟩) → ALoopU Try.prog B 1 108 (hold c .mk) ⟨[(0, .arr (List.map Vl.Data.c w)), (3, .lit (.int .i64 deep)), (4, .lit (.bool holes)), (5, .ptr 0 0), (13, .arr (List.map Vl.Ty.c v27)), (88, .arr (List.map Vl.Value.c v.kids)), (89, .lit (.int .i64 (v.kids.length : Int))), (90, .lit (.int .i64 (i : Int)))], [.cells [.lit (.int .i64 z)]]⟩ (hold Q .mk)) := by
 refine F.impl_valueScan.mutual_partial_correctness w holes
  _ _ _
  ?_ ?_ ?_
 ·intro _f_impl_valueScan_l2 _f_impl_valueScan_l1 ih_impl_valueScan_l2 ih_impl_valueScan_l1 t v deep count r hF
  refine MutCall.enter Try.func152 (by kernel_rfl) rfl Try.ntmps152 (by simp) (by simp) (by simp) (by simp) ?_
  repeat (first | refine chk.ga ?_ | simp -dsimp)
  refine abr.split (fun h1 => ?_) (fun h1 => ?_)
  ·have q2 : ¬ (60 < IntKind.i64.wrap (count + 1)) := auq h1
   rw [if_neg q2] at hF
   repeat (first | refine chk.ga ?_ | simp -dsimp [h1, q2])
   refine abr.split (fun h3 => ?_) (fun h3 => ?_)
   ·have q4 : (10 < deep) := auq h3
    rw [if_pos q4] at hF
    cases hF
    repeat (first | refine chk.ga ?_ | simp -dsimp [h1, q2, h3])
    all_goals (try first | omega | rfl)
   ·have q4 : ¬ (10 < deep) := auq h3
    rw [if_neg q4] at hF
    repeat (first | refine chk.ga ?_ | simp -dsimp [h1, q2, h3, q4])
    refine abr.split (fun h5 => ?_) (fun h5 => ?_)
    ·have q6 : (holes = true) := auq h5
     rw [if_pos q6] at hF
     repeat (first | refine chk.ga ?_ | simp -dsimp [h1, q2, h3, q4, h5])
     refine abr.split (fun h7 => ?_) (fun h7 => ?_)
     ·have q8 : (v.ctor = (-2)) := auq h7
      rw [if_pos q8] at hF
      repeat (first | refine chk.ga ?_ | simp -dsimp [h1, q2, h3, q4, h5, h7])
      refine abr.split (fun h9 => ?_) (fun h9 => ?_)
      ·have q10 : (v.n = 0) := auq h9
       rw [if_pos q10] at hF
       cases hF
       repeat (first | refine chk.ga ?_ | simp -dsimp [h1, q2, h3, q4, h5, h7, h9])
       all_goals (try first | omega | rfl)
      ·have q10 : ¬ (v.n = 0) := auq h9
       rw [if_neg q10] at hF
       cases hF
       repeat (first | refine chk.ga ?_ | simp -dsimp [h1, q2, h3, q4, h5, h7, h9, q10])
       all_goals (try first | omega | rfl)
     ·have q8 : ¬ (v.ctor = (-2)) := auq h7
      rw [if_neg q8] at hF
      repeat (first | refine chk.ga ?_ | simp -dsimp [h1, q2, h3, q4, h5, h7, q8])
      refine abr.split (fun h11 => ?_) (fun h11 => ?_)
      ·have q12 : (t.data = (-1)) := auq h11
       rw [if_pos q12] at hF
       repeat (first | refine chk.ga ?_ | simp -dsimp [h1, q2, h3, q4, h5, h7, q8, h11])
       refine abr.split (fun h13 => ?_) (fun h13 => ?_)
       ·have q14 : (v.ctor = (-1)) := auq h13
        rw [if_pos q14] at hF
        repeat (first | refine chk.ga ?_ | simp -dsimp [h1, q2, h3, q4, h5, h7, q8, h11, h13])
        have hF := ob hF; obtain ⟨v15, e16, hF⟩ := hF
        refine ((C.impl_within B hB1 hB2 v.n (0 : Int) (9 : Int) v15 e16)).goW (by first | simp [h1, q2, h3, q4, h5, h7, q8, h11, h13]; done | simp_all) (by simp) ?_
        repeat (first | refine chk.ga ?_ | simp -dsimp [h1, q2, h3, q4, h5, h7, q8, h11, h13])
        refine abr.split (fun h17 => ?_) (fun h17 => ?_)
        ·have q18 : (v15 = true) := auq h17
         rw [if_pos q18] at hF
         cases hF
         repeat (first | refine chk.ga ?_ | simp -dsimp [h1, q2, h3, q4, h5, h7, q8, h11, h13, h17])
         all_goals (try first | omega | rfl)
        ·have q18 : ¬ (v15 = true) := auq h17
         rw [if_neg q18] at hF
         cases hF
         repeat (first | refine chk.ga ?_ | simp -dsimp [h1, q2, h3, q4, h5, h7, q8, h11, h13, h17, q18])
         all_goals (try first | omega | rfl)
       ·have q14 : ¬ (v.ctor = (-1)) := auq h13
        rw [if_neg q14] at hF
        cases hF
        repeat (first | refine chk.ga ?_ | simp -dsimp [h1, q2, h3, q4, h5, h7, q8, h11, h13, q14])
        all_goals (try first | omega | rfl)
      ·have q12 : ¬ (t.data = (-1)) := auq h11
       rw [if_neg q12] at hF
       repeat (first | refine chk.ga ?_ | simp -dsimp [h1, q2, h3, q4, h5, h7, q8, h11, q12])
       refine ADraw.simple follows (by kernel_rfl) (by kernel_rfl) ?_
       repeat (first | refine chk.ga ?_ | simp -dsimp [h1, q2, h3, q4, h5, h7, q8, h11, q12])
       refine abr.split (fun h19 => ?_) (fun h19 => ?_)
       ·have q20 : (v.n = 0) := auq h19
        rw [if_pos q20] at hF
        repeat (first | refine chk.ga ?_ | simp -dsimp [h1, q2, h3, q4, h5, h7, q8, h11, q12, h19])
        have hF := ob hF; obtain ⟨v21, e22, hF⟩ := hF
        refine ((C.impl_ctorsOf B hB1 hB2 w t v21 e22)).pgoW (by first | simp [h1, q2, h3, q4, h5, h7, q8, h11, q12, h19]; done | simp_all) (by simp) ?_
        repeat (first | refine chk.ga ?_ | simp -dsimp [h1, q2, h3, q4, h5, h7, q8, h11, q12, h19])
        have hF := ob hF; obtain ⟨v23, e24, hF⟩ := hF
        refine ((C.slices_Contains_int B hB1 hB2 v21 v.ctor v23 e24)).pgoW (by first | simp [h1, q2, h3, q4, h5, h7, q8, h11, q12, h19]; done | simp_all) (by simp) ?_
        repeat (first | refine chk.ga ?_ | simp -dsimp [h1, q2, h3, q4, h5, h7, q8, h11, q12, h19])
        refine abr.split (fun h25 => ?_) (fun h25 => ?_)
        ·have q26 : ¬ (v23 = true) := auq h25
         rw [if_neg q26] at hF
         cases hF
         repeat (first | refine chk.ga ?_ | simp -dsimp [h1, q2, h3, q4, h5, h7, q8, h11, q12, h19, h25, q26])
         all_goals (try first | omega | rfl)
        ·have q26 : (v23 = true) := auq h25
         rw [if_pos q26] at hF
         repeat (first | refine chk.ga ?_ | simp -dsimp [h1, q2, h3, q4, h5, h7, q8, h11, q12, h19, h25, q26])
         have hF := ob hF; obtain ⟨v27, e28, hF⟩ := hF
         refine ((C.impl_argTypes B hB1 hB2 w t v.ctor v27 e28)).goW (by first | simp [h1, q2, h3, q4, h5, h7, q8, h11, q12, h19, h25, q26]; done | simp_all) (by simp) ?_
         repeat (first | refine chk.ga ?_ | simp -dsimp [h1, q2, h3, q4, h5, h7, q8, h11, q12, h19, h25, q26])
         refine abr.split (fun h29 => ?_) (fun h29 => ?_)
         ·have q30 : ¬ (v27.length = v.kids.length) := auq h29
          have z31 : ¬ ((v27.length : Int) = (v.kids.length : Int)) := auz
          rw [if_neg q30] at hF
          cases hF
          repeat (first | refine chk.ga ?_ | simp -dsimp [h1, q2, h3, q4, h5, h7, q8, h11, q12, h19, h25, q26, h29, q30, z31])
          all_goals (try first | omega | rfl)
         ·have q30 : (v27.length = v.kids.length) := auq h29
          have z31 : ((v27.length : Int) = (v.kids.length : Int)) := auz
          rw [if_pos q30] at hF
          repeat (first | refine chk.ga ?_ | simp -dsimp [h1, q2, h3, q4, h5, h7, q8, h11, q12, h19, h25, q26, h29, q30, z31])
          have hF := ob hF; obtain ⟨o', ho43, hF⟩ := hF
          refine ALoop.goU _ ?_ ((ih_impl_valueScan_l1 v deep v27 (IntKind.i64.wrap (count + 1)) 0 o' ho43) _ rfl _ ?_)
          ·exact (Gh.to3 (by simp) (by first | simp -dsimp [h1, q2, h3, q4, h5, h7, q8, h11, q12, h19, h25, q26, h29, q30, z31]; done | simp_all))
          rcases o' with r0 | sx
          ·dsimp only at hF
           cases hF
           intro st h
           simpa using h
          ·dsimp only at hF
           cases hF
           repeat (first | refine chk.ga ?_ | simp -dsimp)
           all_goals (try first | omega | rfl)
       ·have q20 : ¬ (v.n = 0) := auq h19
        rw [if_neg q20] at hF
        cases hF
        repeat (first | refine chk.ga ?_ | simp -dsimp [h1, q2, h3, q4, h5, h7, q8, h11, q12, h19, q20])
        all_goals (try first | omega | rfl)
    ·have q6 : ¬ (holes = true) := auq h5
     rw [if_neg q6] at hF
     repeat (first | refine chk.ga ?_ | simp -dsimp [h1, q2, h3, q4, h5, q6])
     refine abr.split (fun h44 => ?_) (fun h44 => ?_)
     ·have q45 : (t.data = (-1)) := auq h44
      rw [if_pos q45] at hF
      repeat (first | refine chk.ga ?_ | simp -dsimp [h1, q2, h3, q4, h5, q6, h44])
      refine abr.split (fun h46 => ?_) (fun h46 => ?_)
      ·have q47 : (v.ctor = (-1)) := auq h46
       rw [if_pos q47] at hF
       repeat (first | refine chk.ga ?_ | simp -dsimp [h1, q2, h3, q4, h5, q6, h44, h46])
       have hF := ob hF; obtain ⟨v48, e49, hF⟩ := hF
       refine ((C.impl_within B hB1 hB2 v.n (0 : Int) (9 : Int) v48 e49)).goW (by first | simp [h1, q2, h3, q4, h5, q6, h44, h46]; done | simp_all) (by simp) ?_
       repeat (first | refine chk.ga ?_ | simp -dsimp [h1, q2, h3, q4, h5, q6, h44, h46])
       refine abr.split (fun h50 => ?_) (fun h50 => ?_)
       ·have q51 : (v48 = true) := auq h50
        rw [if_pos q51] at hF
        cases hF
        repeat (first | refine chk.ga ?_ | simp -dsimp [h1, q2, h3, q4, h5, q6, h44, h46, h50])
        all_goals (try first | omega | rfl)
       ·have q51 : ¬ (v48 = true) := auq h50
        rw [if_neg q51] at hF
        cases hF
        repeat (first | refine chk.ga ?_ | simp -dsimp [h1, q2, h3, q4, h5, q6, h44, h46, h50, q51])
        all_goals (try first | omega | rfl)
      ·have q47 : ¬ (v.ctor = (-1)) := auq h46
       rw [if_neg q47] at hF
       cases hF
       repeat (first | refine chk.ga ?_ | simp -dsimp [h1, q2, h3, q4, h5, q6, h44, h46, q47])
       all_goals (try first | omega | rfl)
     ·have q45 : ¬ (t.data = (-1)) := auq h44
      rw [if_neg q45] at hF
      repeat (first | refine chk.ga ?_ | simp -dsimp [h1, q2, h3, q4, h5, q6, h44, q45])
      refine ADraw.simple follows (by kernel_rfl) (by kernel_rfl) ?_
      repeat (first | refine chk.ga ?_ | simp -dsimp [h1, q2, h3, q4, h5, q6, h44, q45])
      refine abr.split (fun h52 => ?_) (fun h52 => ?_)
      ·have q53 : (v.n = 0) := auq h52
       rw [if_pos q53] at hF
       repeat (first | refine chk.ga ?_ | simp -dsimp [h1, q2, h3, q4, h5, q6, h44, q45, h52])
       have hF := ob hF; obtain ⟨v54, e55, hF⟩ := hF
       refine ((C.impl_ctorsOf B hB1 hB2 w t v54 e55)).pgoW (by first | simp [h1, q2, h3, q4, h5, q6, h44, q45, h52]; done | simp_all) (by simp) ?_
       repeat (first | refine chk.ga ?_ | simp -dsimp [h1, q2, h3, q4, h5, q6, h44, q45, h52])
       have hF := ob hF; obtain ⟨v56, e57, hF⟩ := hF
       refine ((C.slices_Contains_int B hB1 hB2 v54 v.ctor v56 e57)).pgoW (by first | simp [h1, q2, h3, q4, h5, q6, h44, q45, h52]; done | simp_all) (by simp) ?_
       repeat (first | refine chk.ga ?_ | simp -dsimp [h1, q2, h3, q4, h5, q6, h44, q45, h52])
       refine abr.split (fun h58 => ?_) (fun h58 => ?_)
       ·have q59 : ¬ (v56 = true) := auq h58
        rw [if_neg q59] at hF
        cases hF
        repeat (first | refine chk.ga ?_ | simp -dsimp [h1, q2, h3, q4, h5, q6, h44, q45, h52, h58, q59])
        all_goals (try first | omega | rfl)
       ·have q59 : (v56 = true) := auq h58
        rw [if_pos q59] at hF
        repeat (first | refine chk.ga ?_ | simp -dsimp [h1, q2, h3, q4, h5, q6, h44, q45, h52, h58, q59])
        have hF := ob hF; obtain ⟨v60, e61, hF⟩ := hF
        refine ((C.impl_argTypes B hB1 hB2 w t v.ctor v60 e61)).goW (by first | simp [h1, q2, h3, q4, h5, q6, h44, q45, h52, h58, q59]; done | simp_all) (by simp) ?_
        repeat (first | refine chk.ga ?_ | simp -dsimp [h1, q2, h3, q4, h5, q6, h44, q45, h52, h58, q59])
        refine abr.split (fun h62 => ?_) (fun h62 => ?_)
        ·have q63 : ¬ (v60.length = v.kids.length) := auq h62
         have z64 : ¬ ((v60.length : Int) = (v.kids.length : Int)) := auz
         rw [if_neg q63] at hF
         cases hF
         repeat (first | refine chk.ga ?_ | simp -dsimp [h1, q2, h3, q4, h5, q6, h44, q45, h52, h58, q59, h62, q63, z64])
         all_goals (try first | omega | rfl)
        ·have q63 : (v60.length = v.kids.length) := auq h62
         have z64 : ((v60.length : Int) = (v.kids.length : Int)) := auz
         rw [if_pos q63] at hF
         repeat (first | refine chk.ga ?_ | simp -dsimp [h1, q2, h3, q4, h5, q6, h44, q45, h52, h58, q59, h62, q63, z64])
         have hF := ob hF; obtain ⟨o'80, ho79, hF⟩ := hF
         refine ALoop.goU _ ?_ ((ih_impl_valueScan_l2 v deep v60 (IntKind.i64.wrap (count + 1)) 0 o'80 ho79) _ rfl _ ?_)
         ·exact (Gh.to3 (by simp) (by first | simp -dsimp [h1, q2, h3, q4, h5, q6, h44, q45, h52, h58, q59, h62, q63, z64]; done | simp_all))
         rcases o'80 with r082 | sx81
         ·dsimp only at hF
          cases hF
          intro st h
          simpa using h
         ·dsimp only at hF
          cases hF
          repeat (first | refine chk.ga ?_ | simp -dsimp)
          all_goals (try first | omega | rfl)
      ·have q53 : ¬ (v.n = 0) := auq h52
       rw [if_neg q53] at hF
       cases hF
       repeat (first | refine chk.ga ?_ | simp -dsimp [h1, q2, h3, q4, h5, q6, h44, q45, h52, q53])
       all_goals (try first | omega | rfl)
  ·have q2 : (60 < IntKind.i64.wrap (count + 1)) := auq h1
   rw [if_pos q2] at hF
   cases hF
   repeat (first | refine chk.ga ?_ | simp -dsimp [h1, q2])
   all_goals (try first | omega | rfl)
 ·intro _f_impl_valueScan _f_impl_valueScan_l2 ih_impl_valueScan ih_impl_valueScan_l2 v deep v60 z65 i66 o hF
  intro c hc Q hq
  obtain rfl : c = _ := navEq hc rfl
  refine ALoopU.know fun hk hs => ?_
  have b0 := hk 0
  simp -dsimp at b0
  have b13 := hk 13
  simp -dsimp at b13
  have b88 := hk 88
  simp -dsimp at b88
  clear hk hs
  refine ALoopU.enter ?_
  repeat (first | refine chk.ga ?_ | simp -dsimp)
  refine abr.split (fun h67 => ?_) (fun h67 => ?_)
  ·have q68 : (i66 < v.kids.length) := auq h67
   have z69 : ((i66 : Int) < (v.kids.length : Int)) := auz
   rw [if_pos q68] at hF
   have hF := ob hF; obtain ⟨x70, e71, hF⟩ := hF
   have le71 := lt_of_get e71
   repeat (first | refine chk.ga ?_ | simp -dsimp [h67, z69, ↓e71])
   refine ADraw.eff [152] [(0, 0), (0, 0), (0, 0), (0, 0), (0, 0), (0, 0), (0, 0), (0, 0), (0, 0), (0, 0), (0, 1), (1, 1)] [1, 1, 1, 1, 1, 1, 1, 1, 1, 1, 1, 1] follows (by kernel_rfl) (by kernel_rfl) (by kernel_rfl) ?_
   have hF := ob hF; obtain ⟨x72, e73, hF⟩ := hF
   have le73 := lt_of_get e73
   repeat (first | refine chk.ga ?_ | simp -dsimp [h67, z69, ↓e71, ↓e73])
   have hF := ob hF; obtain ⟨v74, e75, hF⟩ := hF
   refine ((ih_impl_valueScan x72 x70 (IntKind.i64.wrap (deep + 1)) z65 v74 e75)).ego 0 rfl (by first | simp [h67, z69, ↓e71, ↓e73]; done | simp_all) (by simp) (by first | simp [h67, z69, ↓e71, ↓e73]; done | simp_all) ?_
   repeat (first | refine chk.ga ?_ | simp -dsimp [h67, z69, ↓e71, ↓e73])
   refine abr.split (fun h76 => ?_) (fun h76 => ?_)
   ·have q77 : ¬ (v74.1 = true) := auq h76
    rw [if_neg q77] at hF
    cases hF
    repeat (first | refine chk.ga ?_ | simp -dsimp [h67, z69, ↓e71, ↓e73, h76, q77])
    refine Leave.go _ (Gh.refl _) (hq _ ?_)
    repeat (first | refine chk.ga ?_ | simp -dsimp [h67, z69, ↓e71, ↓e73, h76, q77])
   ·have q77 : (v74.1 = true) := auq h76
    rw [if_pos q77] at hF
    have w78 : IntKind.i64.wrap ((i66 : Int) + 1) = (i66 : Int) + 1 := wrap_in (by omega) (by omega)
    repeat (first | refine chk.ga ?_ | simp -dsimp [h67, z69, ↓e71, ↓e73, h76, q77, w78])
    refine Again.go _ ?_ ((ih_impl_valueScan_l2 v deep v60 v74.2 (i66 + 1) o hF) _ rfl _ hq)
    exact (Gh.to3 (by simp) (by first | simp -dsimp [h67, z69, ↓e71, ↓e73, h76, q77, w78]; done | simp_all))
  ·have q68 : ¬ (i66 < v.kids.length) := auq h67
   have z69 : ¬ ((i66 : Int) < (v.kids.length : Int)) := auz
   rw [if_neg q68] at hF
   cases hF
   repeat (first | refine chk.ga ?_ | simp -dsimp [h67, q68, z69])
   refine Leave.go ⟨[], [.cells [.lit (.int .i64 z65)]]⟩ (Gh.to3 (by simp) (by first | simp -dsimp [h67, q68, z69]; done | simp_all)) ?_
   exact hq
 ·intro _f_impl_valueScan _f_impl_valueScan_l1 ih_impl_valueScan ih_impl_valueScan_l1 v deep v27 z i o hF
  intro c hc Q hq
  obtain rfl : c = _ := navEq hc rfl
  refine ALoopU.know fun hk hs => ?_
  have b0 := hk 0
  simp -dsimp at b0
  have b13 := hk 13
  simp -dsimp at b13
  have b88 := hk 88
  simp -dsimp at b88
  clear hk hs
  refine ALoopU.enter ?_
  repeat (first | refine chk.ga ?_ | simp -dsimp)
  refine abr.split (fun h32 => ?_) (fun h32 => ?_)
  ·have q33 : (i < v.kids.length) := auq h32
   have z34 : ((i : Int) < (v.kids.length : Int)) := auz
   rw [if_pos q33] at hF
   have hF := ob hF; obtain ⟨x, e35, hF⟩ := hF
   have le35 := lt_of_get e35
   repeat (first | refine chk.ga ?_ | simp -dsimp [h32, z34, ↓e35])
   refine ADraw.eff [152] [(0, 0), (0, 0), (0, 0), (0, 0), (0, 0), (0, 0), (0, 0), (0, 0), (0, 0), (0, 0), (0, 1), (1, 1)] [1, 1, 1, 1, 1, 1, 1, 1, 1, 1, 1, 1] follows (by kernel_rfl) (by kernel_rfl) (by kernel_rfl) ?_
   have hF := ob hF; obtain ⟨x36, e37, hF⟩ := hF
   have le37 := lt_of_get e37
   repeat (first | refine chk.ga ?_ | simp -dsimp [h32, z34, ↓e35, ↓e37])
   have hF := ob hF; obtain ⟨v38, e39, hF⟩ := hF
   refine ((ih_impl_valueScan x36 x (IntKind.i64.wrap (deep + 1)) z v38 e39)).ego 0 rfl (by first | simp [h32, z34, ↓e35, ↓e37]; done | simp_all) (by simp) (by first | simp [h32, z34, ↓e35, ↓e37]; done | simp_all) ?_
   repeat (first | refine chk.ga ?_ | simp -dsimp [h32, z34, ↓e35, ↓e37])
   refine abr.split (fun h40 => ?_) (fun h40 => ?_)
   ·have q41 : ¬ (v38.1 = true) := auq h40
    rw [if_neg q41] at hF
    cases hF
    repeat (first | refine chk.ga ?_ | simp -dsimp [h32, z34, ↓e35, ↓e37, h40, q41])
    refine Leave.go _ (Gh.refl _) (hq _ ?_)
    repeat (first | refine chk.ga ?_ | simp -dsimp [h32, z34, ↓e35, ↓e37, h40, q41])
   ·have q41 : (v38.1 = true) := auq h40
    rw [if_pos q41] at hF
    have w42 : IntKind.i64.wrap ((i : Int) + 1) = (i : Int) + 1 := wrap_in (by omega) (by omega)
    repeat (first | refine chk.ga ?_ | simp -dsimp [h32, z34, ↓e35, ↓e37, h40, q41, w42])
    refine Again.go _ ?_ ((ih_impl_valueScan_l1 v deep v27 v38.2 (i + 1) o hF) _ rfl _ hq)
    exact (Gh.to3 (by simp) (by first | simp -dsimp [h32, z34, ↓e35, ↓e37, h40, q41, w42]; done | simp_all))
  ·have q33 : ¬ (i < v.kids.length) := auq h32
   have z34 : ¬ ((i : Int) < (v.kids.length : Int)) := auz
   rw [if_neg q33] at hF
   cases hF
   repeat (first | refine chk.ga ?_ | simp -dsimp [h32, q33, z34])
   refine Leave.go ⟨[], [.cells [.lit (.int .i64 z)]]⟩ (Gh.to3 (by simp) (by first | simp -dsimp [h32, q33, z34]; done | simp_all)) ?_
   exact hq

theorem C.impl_PartialValid (w : List Vl.Data) (t : Vl.Ty) (v : Vl.Value) (r : Bool) (hF : F.impl_PartialValid w t v = some r) : PureCall Try.prog B 107 [.arr (List.map Vl.Data.c w), .agg [.lit (.int .i64 t.data), .lit (.int .i64 t.index)], .agg [.lit (.int .i64 v.ctor), .lit (.int .i64 v.n), .arr (List.map Vl.Value.c v.kids)]] (.lit (.bool r)) := by
 unfold F.impl_PartialValid at hF
 refine PureCall.enterLe Try.func107 (by kernel_rfl) rfl Try.ntmps107 (by simp) (by simp) ?_
 repeat (first | refine chk.ga ?_ | simp -dsimp)
 have hF := ob hF; obtain ⟨v1, e2, hF⟩ := hF
 refine ((C.impl_TypeValid B hB1 hB2 w t v1 e2)).goW (by simp) (by simp) ?_
 repeat (first | refine chk.ga ?_ | simp -dsimp)
 refine abr.split (fun h3 => ?_) (fun h3 => ?_)
 ·have q4 : (v1 = true) := auq h3
  rw [if_pos q4] at hF
  repeat (first | refine chk.ga ?_ | simp -dsimp [h3])
  have hF := ob hF; obtain ⟨v5, e6, hF⟩ := hF
  refine (((CC.impl_valueScan B hB1 hB2 w true).1 t v (1 : Int) (0 : Int) v5 e6)).go 2 rfl (by first | simp [h3]; done | simp_all) (by simp) (by first | simp [h3]; done | simp_all) ?_
  cases hF
  repeat (first | refine chk.ga ?_ | simp -dsimp [h3])
  all_goals (try first | omega | rfl)
 ·have q4 : ¬ (v1 = true) := auq h3
  rw [if_neg q4] at hF
  cases hF
  repeat (first | refine chk.ga ?_ | simp -dsimp [h3, q4])
  all_goals (try first | omega | rfl)

theorem CC.slices_Equal_int_l1 (s1 : List Int) (s2 : List Int) : (∀ (i : Nat) (o : Lo Bool Unit), F.slices_Equal_int_l1 s1 s2 i = some o → ∀ (c : Code), navO [1, 1, 0, 1, 0, 0] (bodyOf Try.f191) = some c → ∀ (Q : Exit → ASt → Prop), o.post (fun r => ∀ st, Post Try.prog Try.f191 (fun r' _ => r'.le (.lit (.bool r))) .ret st → Q .ret st) (fun s => Q (.exit 0) ⟨[], []⟩) → ALoopU Try.prog B 0 26 (hold c .mk) ⟨[(0, .arr (List.map cI s1)), (1, .arr (List.map cI s2)), (12, .lit (.int .i64 (s1.length : Int))), (13, .lit (.int .i64 (i : Int)))], []⟩ (hold Q .mk)) := by
 refine F.slices_Equal_int_l1.partial_correctness s1 s2
  _
  ?_
 ·intro _f_slices_Equal_int_l1 ih_slices_Equal_int_l1 i o hF
  intro c hc Q hq
  obtain rfl : c = _ := navEq hc rfl
  refine ALoopU.know fun hk hs => ?_
  have b0 := hk 0
  simp -dsimp at b0
  have b1 := hk 1
  simp -dsimp at b1
  clear hk hs
  refine ALoopU.enter ?_
  repeat (first | refine chk.ga ?_ | simp -dsimp)
  refine abr.split (fun h4 => ?_) (fun h4 => ?_)
  ·have q5 : (i < s1.length) := auq h4
   have z6 : ((i : Int) < (s1.length : Int)) := auz
   rw [if_pos q5] at hF
   repeat (first | refine chk.ga ?_ | simp -dsimp [h4, z6])
   refine ADraw.simple follows (by kernel_rfl) (by kernel_rfl) ?_
   have hF := ob hF; obtain ⟨x, e7, hF⟩ := hF
   have le7 := lt_of_get e7
   have hF := ob hF; obtain ⟨x8, e9, hF⟩ := hF
   have le9 := lt_of_get e9
   repeat (first | refine chk.ga ?_ | simp -dsimp [h4, z6, ↓e7, ↓e9])
   refine abr.split (fun h10 => ?_) (fun h10 => ?_)
   ·have q11 : ¬ (x = x8) := auq h10
    rw [if_neg q11] at hF
    cases hF
    repeat (first | refine chk.ga ?_ | simp -dsimp [h4, z6, ↓e7, ↓e9, h10, q11])
    refine Leave.go _ (Gh.refl _) (hq _ ?_)
    repeat (first | refine chk.ga ?_ | simp -dsimp [h4, z6, ↓e7, ↓e9, h10, q11])
   ·have q11 : (x = x8) := auq h10
    rw [if_pos q11] at hF
    have w12 : IntKind.i64.wrap ((i : Int) + 1) = (i : Int) + 1 := wrap_in (by omega) (by omega)
    repeat (first | refine chk.ga ?_ | simp -dsimp [h4, z6, ↓e7, ↓e9, h10, q11, w12])
    refine Again.go _ ?_ ((ih_slices_Equal_int_l1 (i + 1) o hF) _ rfl _ hq)
    exact (Gh.to3 (by simp) (by first | simp -dsimp [h4, z6, ↓e7, ↓e9, h10, q11, w12]; done | simp_all))
  ·have q5 : ¬ (i < s1.length) := auq h4
   have z6 : ¬ ((i : Int) < (s1.length : Int)) := auz
   rw [if_neg q5] at hF
   cases hF
   repeat (first | refine chk.ga ?_ | simp -dsimp [h4, q5, z6])
   refine Leave.go ⟨[], []⟩ (Gh.to3 (by simp) (by first | simp -dsimp [h4, q5, z6]; done | simp_all)) ?_
   exact hq

theorem C.slices_Equal_int (s1 : List Int) (s2 : List Int) (r : Bool) (hF : F.slices_Equal_int s1 s2 = some r) : PureCall Try.prog B 191 [.arr (List.map cI s1), .arr (List.map cI s2)] (.lit (.bool r)) := by
 unfold F.slices_Equal_int at hF
 refine PureCall.enterLe Try.func191 (by kernel_rfl) rfl Try.ntmps191 (by simp) (by simp) ?_
 repeat (first | refine chk.ga ?_ | simp -dsimp)
 refine abr.split (fun h1 => ?_) (fun h1 => ?_)
 ·have q2 : ¬ (s1.length = s2.length) := auq h1
  have z3 : ¬ ((s1.length : Int) = (s2.length : Int)) := auz
  rw [if_neg q2] at hF
  cases hF
  repeat (first | refine chk.ga ?_ | simp -dsimp [h1, q2, z3])
  all_goals (try first | omega | rfl)
 ·have q2 : (s1.length = s2.length) := auq h1
  have z3 : ((s1.length : Int) = (s2.length : Int)) := auz
  rw [if_pos q2] at hF
  repeat (first | refine chk.ga ?_ | simp -dsimp [h1, q2, z3])
  have hF := ob hF; obtain ⟨o', ho13, hF⟩ := hF
  refine ALoop.goU _ ?_ (((CC.slices_Equal_int_l1 B hB1 hB2 s1 s2) 0 o' ho13) _ rfl _ ?_)
  ·exact (Gh.to3 (by simp) (by first | simp -dsimp [h1, q2, z3]; done | simp_all))
  rcases o' with r0 | sx
  ·dsimp only at hF
   cases hF
   intro st h
   simpa using h
  ·dsimp only at hF
   cases hF
   repeat (first | refine chk.ga ?_ | simp -dsimp)
   all_goals (try first | omega | rfl)

theorem C.impl_hasPath_1 (p : List Int) (a1 : List Int) (r : Bool) (hF : F.impl_hasPath_1 p a1 = some r) : PureCall Try.prog B 190 [.arr (List.map cI p), .rptr [.arr (List.map cI a1)] 0] (.lit (.bool r)) := by
 unfold F.impl_hasPath_1 at hF
 refine PureCall.enterLe Try.func190 (by kernel_rfl) rfl Try.ntmps190 (by simp) (by simp) ?_
 repeat (first | refine chk.ga ?_ | simp -dsimp)
 have hF := ob hF; obtain ⟨v, e1, hF⟩ := hF
 refine ((C.slices_Equal_int B hB1 hB2 p a1 v e1)).goW (by simp) (by simp) ?_
 cases hF
 repeat (first | refine chk.ga ?_ | simp -dsimp)
 all_goals (try first | omega | rfl)

theorem CC.slices_IndexFunc__int__impl_hasPath_1_l1 (s : List (List Int)) (k0 : List Int) : (∀ (i : Nat) (o : Lo Int Unit), F.slices_IndexFunc__int__impl_hasPath_1_l1 s k0 i = some o → ∀ (c : Code), navO [1, 0, 1, 0, 0] (bodyOf Try.f216) = some c → ∀ (Q : Exit → ASt → Prop), o.post (fun r => ∀ st, Post Try.prog Try.f216 (fun r' _ => r'.le (.lit (.int .i64 r))) .ret st → Q .ret st) (fun s => Q (.exit 0) ⟨[], []⟩) → ALoopU Try.prog B 0 19 (hold c .mk) ⟨[(0, .arr (List.map (cL cI) s)), (1, .fn (.func 190) [] [.rptr [.arr (List.map cI k0)] 0]), (7, .lit (.int .i64 (s.length : Int))), (8, .lit (.int .i64 (i : Int)))], []⟩ (hold Q .mk)) := by
 refine F.slices_IndexFunc__int__impl_hasPath_1_l1.partial_correctness s k0
  _
  ?_
 ·intro _f_slices_IndexFunc__int__impl_hasPath_1_l1 ih_slices_IndexFunc__int__impl_hasPath_1_l1 i o hF
  intro c hc Q hq
  obtain rfl : c = _ := navEq hc rfl
  refine ALoopU.know fun hk hs => ?_
  have b0 := hk 0
  simp -dsimp at b0
  clear hk hs
  refine ALoopU.enter ?_
  repeat (first | refine chk.ga ?_ | simp -dsimp)
  refine abr.split (fun h1 => ?_) (fun h1 => ?_)
  ·have q2 : (i < s.length) := auq h1
   have z3 : ((i : Int) < (s.length : Int)) := auz
   rw [if_pos q2] at hF
   have hF := ob hF; obtain ⟨x, e4, hF⟩ := hF
   have le4 := lt_of_get e4
   repeat (first | refine chk.ga ?_ | simp -dsimp [h1, z3, ↓e4])
   have hF := ob hF; obtain ⟨v, e5, hF⟩ := hF
   refine ((C.impl_hasPath_1 B hB1 hB2 x k0 v e5)).goW (by first | simp [h1, z3, ↓e4]; done | simp_all) (by simp) ?_
   repeat (first | refine chk.ga ?_ | simp -dsimp [h1, z3, ↓e4])
   refine abr.split (fun h6 => ?_) (fun h6 => ?_)
   ·have q7 : (v = true) := auq h6
    rw [if_pos q7] at hF
    cases hF
    repeat (first | refine chk.ga ?_ | simp -dsimp [h1, z3, ↓e4, h6])
    refine Leave.go _ (Gh.refl _) (hq _ ?_)
    repeat (first | refine chk.ga ?_ | simp -dsimp [h1, z3, ↓e4, h6])
   ·have q7 : ¬ (v = true) := auq h6
    rw [if_neg q7] at hF
    have w8 : IntKind.i64.wrap ((i : Int) + 1) = (i : Int) + 1 := wrap_in (by omega) (by omega)
    repeat (first | refine chk.ga ?_ | simp -dsimp [h1, z3, ↓e4, h6, q7, w8])
    refine Again.go _ ?_ ((ih_slices_IndexFunc__int__impl_hasPath_1_l1 (i + 1) o hF) _ rfl _ hq)
    exact (Gh.to3 (by simp) (by first | simp -dsimp [h1, z3, ↓e4, h6, q7, w8]; done | simp_all))
  ·have q2 : ¬ (i < s.length) := auq h1
   have z3 : ¬ ((i : Int) < (s.length : Int)) := auz
   rw [if_neg q2] at hF
   cases hF
   repeat (first | refine chk.ga ?_ | simp -dsimp [h1, q2, z3])
   refine Leave.go ⟨[], []⟩ (Gh.to3 (by simp) (by first | simp -dsimp [h1, q2, z3]; done | simp_all)) ?_
   exact hq

theorem C.slices_IndexFunc__int__impl_hasPath_1 (s : List (List Int)) (k0 : List Int) (r : Int) (hF : F.slices_IndexFunc__int__impl_hasPath_1 s k0 = some r) : PureCall Try.prog B 216 [.arr (List.map (cL cI) s), .fn (.func 190) [] [.rptr [.arr (List.map cI k0)] 0]] (.lit (.int .i64 r)) := by
 unfold F.slices_IndexFunc__int__impl_hasPath_1 at hF
 refine PureCall.enterLe Try.func216 (by kernel_rfl) rfl Try.ntmps216 (by simp) (by simp) ?_
 repeat (first | refine chk.ga ?_ | simp -dsimp)
 have hF := ob hF; obtain ⟨o', ho9, hF⟩ := hF
 refine ALoop.goU _ ?_ (((CC.slices_IndexFunc__int__impl_hasPath_1_l1 B hB1 hB2 s k0) 0 o' ho9) _ rfl _ ?_)
 ·exact (Gh.to3 (by simp) (by simp -dsimp))
 rcases o' with r0 | sx
 ·dsimp only at hF
  cases hF
  intro st h
  simpa using h
 ·dsimp only at hF
  cases hF
  repeat (first | refine chk.ga ?_ | simp -dsimp)
  all_goals (try first | omega | rfl)

theorem C.slices_ContainsFunc__int__impl_hasPath_1 (s : List (List Int)) (k0 : List Int) (r : Bool) (hF : F.slices_ContainsFunc__int__impl_hasPath_1 s k0 = some r) : PureCall Try.prog B 189 [.arr (List.map (cL cI) s), .fn (.func 190) [] [.rptr [.arr (List.map cI k0)] 0]] (.lit (.bool r)) := by
 unfold F.slices_ContainsFunc__int__impl_hasPath_1 at hF
 refine PureCall.enterLe Try.func189 (by kernel_rfl) rfl Try.ntmps189 (by simp) (by simp) ?_
 repeat (first | refine chk.ga ?_ | simp -dsimp)
 have hF := ob hF; obtain ⟨v, e1, hF⟩ := hF
 refine ((C.slices_IndexFunc__int__impl_hasPath_1 B hB1 hB2 s k0 v e1)).goW (by simp) (by simp) ?_
 cases hF
 repeat (first | refine chk.ga ?_ | simp -dsimp)
 all_goals (try first | omega | rfl)

theorem C.impl_hasPath (list : List (List Int)) (path : List Int) (r : Bool) (hF : F.impl_hasPath list path = some r) : PureCall Try.prog B 153 [.arr (List.map (cL cI) list), .arr (List.map cI path)] (.lit (.bool r)) := by
 unfold F.impl_hasPath at hF
 refine PureCall.enterLe Try.func153 (by kernel_rfl) rfl Try.ntmps153 (by simp) (by simp) ?_
 repeat (first | refine chk.ga ?_ | simp -dsimp)
 have hF := ob hF; obtain ⟨v, e1, hF⟩ := hF
 refine ((C.slices_ContainsFunc__int__impl_hasPath_1 B hB1 hB2 list path v e1)).lend (by simp -dsimp) (by simp -dsimp) ?_
 cases hF
 repeat (first | refine chk.ga ?_ | simp -dsimp)
 all_goals (try first | omega | rfl)

theorem C.impl_hole__f  (r : Vl.Value) (hF : F.impl_hole  = some r) : FCall Try.prog B 154 [] (.agg [.lit (.int .i64 r.ctor), .lit (.int .i64 r.n), .arr (List.map Vl.Value.c r.kids)]) := by
 unfold F.impl_hole at hF
 refine FCall.enterG Try.func154 (by kernel_rfl) rfl Try.ntmps154 (by simp) (Gh.packZ .nil) ?_
 cases hF
 repeat (first | refine chk.ga ?_ | simp -dsimp)
 exact ⟨_, by decide, (.agg (.lit _ (.lit _ (.nilS none 0 .nil))) .nil : CT _ _ _ _)⟩

theorem C.slices_Clone_int (s : List Int) (r : List Int) (hF : F.slices_Clone_int s = some r) : BCall Try.prog B 155 [] [.arr (List.map cI s)] (.own 0 (List.length (α := Int) r)) [.elems 1 (List.map cI r)] := by
 unfold F.slices_Clone_int at hF
 have hF := oc hF; obtain ⟨c1, hF⟩ := hF
 cases hF
 cases s with
 | nil =>
  refine BCall.empty1 fun a c => ?_
  cases a
  ·refine BCall.ofNil 1 (by simp) (by simp) ?_
   refine PureCall.enterLe Try.func155 (by kernel_rfl) rfl Try.ntmps155 (by simp) (by simp) ?_
   repeat (first | refine chk.ga ?_ | simp -dsimp)
  ·refine BCall.enter Try.func155 (by kernel_rfl) rfl Try.ntmps155 (by simp) rfl (by simp) (by simp) (by simp) (by simp) (by simp) (Gh.refl _) ?_
   repeat (first | refine chk.ga ?_ | simp -dsimp)
 | cons x xs =>
  have c1 : xs.length + 1 ≤ 67108864 := by simpa using c1
  refine BCall.enter Try.func155 (by kernel_rfl) rfl Try.ntmps155 (by simp) rfl (by simp) (by simp) (by simp) (by simp) (by simp) (Gh.refl _) ?_
  repeat (first | refine chk.ga ?_ | simp -dsimp)

theorem CC.impl_mask__f (paths : List (List Int)) : (∀ (v : Vl.Value) (path : List Int) (r : Vl.Value), F.impl_mask v path paths = some r → FCall Try.prog B 108 [.agg [.lit (.int .i64 v.ctor), .lit (.int .i64 v.n), .arr (List.map Vl.Value.c v.kids)], .arr (List.map cI path), .arr (List.map (cL cI) paths)] (.agg [.lit (.int .i64 r.ctor), .lit (.int .i64 r.n), .arr (List.map Vl.Value.c r.kids)])) ∧
  (∀ (v : Vl.Value) (path : List Int) (out : List Vl.Value) (i : Nat) (o : List Vl.Value), F.impl_mask_l1 v path paths out i = some o → ∀ (R : List (List AV)), ∀ (U : List Value), RW 3 (List.length (α := Vl.Value) out) R U → ∀ (c : Code), navO [1, 1, 1, 0, 1, 0, 0] (bodyOf Try.f108) = some c → ∀ (Q : Exit → ASt → Prop), (∀ (Rq : List (List AV)) (Uq : List Value), RW 3 (List.length (α := Vl.Value) o) Rq Uq → Q (.exit 0) ⟨[(6, .ptr 2 0), (7, .ptr 3 0)], [.pack [] [], .dead, .cells [.lit (.int .i64 0), .lit (.int .i64 0), .lit (.slice none 0 0)], .cells [.lit (.int .i64 v.ctor), .lit (.int .i64 v.n), .own 4 (List.length (α := Vl.Value) o)], .elems 3 Rq, .pack (List.flatten (List.map Vl.Value.c o)) Uq]⟩) → ALoopU Try.prog B 0 43 (hold c .mk) ⟨[(1, .arr (List.map cI path)), (2, .arr (List.map (cL cI) paths)), (6, .ptr 2 0), (7, .ptr 3 0), (21, .arr (List.map Vl.Value.c v.kids)), (22, .lit (.int .i64 (v.kids.length : Int))), (23, .lit (.int .i64 (i : Int)))], [.pack [] [], .dead, .cells [.lit (.int .i64 0), .lit (.int .i64 0), .lit (.slice none 0 0)], .cells [.lit (.int .i64 v.ctor), .lit (.int .i64 v.n), .own 4 (List.length (α := Vl.Value) out)], .elems 3 R, .pack (List.flatten (List.map Vl.Value.c out)) U]⟩ (hold Q .mk)) := by
 refine F.impl_mask.mutual_partial_correctness paths
  _ _
  ?_ ?_
 ·intro _f_impl_mask__f_l1 ih_impl_mask__f_l1 v path r hF
  refine FCall.enterG Try.func108 (by kernel_rfl) rfl Try.ntmps108 (by simp) (Gh.packZ .nil) ?_
  repeat (first | refine chk.ga ?_ | simp -dsimp)
  have hF := ob hF; obtain ⟨v1, e2, hF⟩ := hF
  refine ((C.impl_hasPath B hB1 hB2 paths path v1 e2)).goW (by simp) (by simp) ?_
  repeat (first | refine chk.ga ?_ | simp -dsimp)
  refine abr.split (fun h3 => ?_) (fun h3 => ?_)
  ·have q4 : ¬ (v1 = true) := auq h3
   rw [if_neg q4] at hF
   repeat (first | refine chk.ga ?_ | simp -dsimp [h3, q4])
   have hF := ob hF; obtain ⟨v5, e6, hF⟩ := hF
   refine ((C.impl_hole__f B hB1 hB2 v5 e6)).go1 (by first | simp -dsimp [h3, q4]; done | simp_all) (by simp) (fun h o_h => ?_)
   cases hF
   repeat (first | refine chk.ga ?_ | simp -dsimp [h3, q4, o_h])
   exact ⟨_, by decide, (.agg (.lit _ (.lit _ (.pk 3 rfl .nil))) .nil : CT _ _ _ _)⟩
  ·have q4 : (v1 = true) := auq h3
   rw [if_pos q4] at hF
   repeat (first | refine chk.ga ?_ | simp -dsimp [h3, q4])
   have hF := ob hF; obtain ⟨o', ho21, hF⟩ := hF
   refine ALoop.goU ⟨[(1, .arr (List.map cI path)), (2, .arr (List.map (cL cI) paths)), (6, .ptr 2 0), (7, .ptr 3 0), (21, .arr (List.map Vl.Value.c v.kids)), (22, .lit (.int .i64 (v.kids.length : Int))), (23, .lit (.int .i64 (0 : Int)))], [.pack [] [], .dead, .cells [.lit (.int .i64 0), .lit (.int .i64 0), .lit (.slice none 0 0)], .cells [.lit (.int .i64 v.ctor), .lit (.int .i64 v.n), .own 4 (List.length (α := Vl.Value) [])], .elems 3 [], .pack (List.flatten (List.map Vl.Value.c [])) []]⟩ (by refine Gh.trans (Gh.nilCell 3 2 3 (by simp -dsimp; rfl) (by simp -dsimp)) ?_; refine Gh.trans (Gh.packZ .nil) ?_; exact (Gh.to3 (by simp) (by first | simp -dsimp [h3, q4]; done | simp_all))) ?_
   refine (ih_impl_mask__f_l1 v path [] 0 o' ho21) [] [] RW.nil _ rfl _ ?_
   intro Rq Uq Hq8
   cases hF
   repeat (first | refine chk.ga ?_ | simp -dsimp [RW.len Hq8, RW.closed Hq8])
   exact ⟨_, by decide, (.agg (.lit _ (.lit _ (.ownP 4 _ 3 rfl (by simp) (.blk 5 rfl .nil) (by simp [Hq8.2.2]) (by simp [Hq8.1]) (by simp) (by simp) .nil))) .nil : CT _ _ _ _)⟩
 ·intro _f_impl_mask__f _f_impl_mask__f_l1 ih_impl_mask__f ih_impl_mask__f_l1 v path out i o hF
  intro R U H7 c hc Q hq
  obtain rfl : c = _ := navEq hc rfl
  refine ALoopU.know fun hk hs => ?_
  have b1 := hk 1
  simp -dsimp at b1
  have b2 := hk 2
  simp -dsimp at b2
  have b21 := hk 21
  simp -dsimp at b21
  have d4 := hs 4 _ rfl
  simp -dsimp [Blk.bnd] at d4
  clear hk hs
  refine ALoopU.enter ?_
  repeat (first | refine chk.ga ?_ | simp -dsimp [RW.len H7, RW.closed H7])
  refine abr.split (fun h9 => ?_) (fun h9 => ?_)
  ·have q10 : (i < v.kids.length) := auq h9
   have z11 : ((i : Int) < (v.kids.length : Int)) := auz
   rw [if_pos q10] at hF
   have hF := ob hF; obtain ⟨x, e12, hF⟩ := hF
   have le12 := lt_of_get e12
   repeat (first | refine chk.ga ?_ | simp -dsimp [RW.len H7, RW.closed H7, h9, z11, ↓e12])
   refine ADraw.opn ?_
   refine ADraw.split [] [(4, 6)] [(6, 4)] 4 6 rfl rfl (by kernel_rfl) ?_ ?_
   ·refine ADraw.effNP [(4, 6)] [0, 1, 2, 3, 4, 5, 6, 7, 8, 9, 10, 11, 12, 13] [108, 155] [(0, 5), (0, 5), (0, 3), (0, 0), (0, 7), (0, 1), (0, 7), (0, 7), (0, 3), (0, 7), (0, 7), (0, 7), (6, 6), (0, 7)] [0, 2, 2, 1, 1, 1, 1, 1, 1, 1, 1, 1, 1, 1] 9 (by decide) follows (by kernel_rfl) (by kernel_rfl) (by kernel_rfl) (by kernel_rfl) (by kernel_rfl) (by kernel_rfl) rfl ?_
    intro L hL
    simp only [permL_nil, permL_cons, List.getD_cons_zero, List.getD_cons_succ, List.toList_toArray] at hL
    subst hL
    repeat (first | refine chk.ga ?_ | simp -dsimp [RW.len H7, RW.closed H7, h9, z11, ↓e12])
    have hF := ob hF; obtain ⟨v13, e14, hF⟩ := hF
    refine ((C.slices_Clone_int B hB1 hB2 path v13 e14)).ego (pl [7]) (by simp) (by simp) (by intro i j hi; simp at hi) (by intro i hi hi'; simp at hi hi'; first | omega | (subst hi'; simp [pl])) (by first | simp [RW.len H7, RW.closed H7, h9, z11, ↓e12]; done | simp_all) (by first | simp [RW.len H7, RW.closed H7, h9, z11, ↓e12]; done | simp_all) ?_
    have hF := oc hF; obtain ⟨c15, hF⟩ := hF
    repeat (first | refine chk.ga ?_ | simp -dsimp [RW.len H7, RW.closed H7, h9, z11, ↓e12])
    have hF := ob hF; obtain ⟨v16, e17, hF⟩ := hF
    refine ((ih_impl_mask__f x (v13 ++ [(i : Int)]) v16 e17)).ngo1 (by first | simp -dsimp [RW.len H7, RW.closed H7, h9, z11, ↓e12]; done | simp_all) (by simp) (fun h18 o_h18 => ?_)
    have hF := oc hF; obtain ⟨c19, hF⟩ := hF
    have w20 : IntKind.i64.wrap ((i : Int) + 1) = (i : Int) + 1 := wrap_in (by omega) (by omega)
    repeat (first | refine chk.ga ?_ | simp -dsimp [RW.len H7, RW.closed H7, h9, z11, ↓e12, o_h18, w20])
    refine Again.go ⟨[(1, .arr (List.map cI path)), (2, .arr (List.map (cL cI) paths)), (6, .ptr 2 0), (7, .ptr 3 0), (21, .arr (List.map Vl.Value.c v.kids)), (22, .lit (.int .i64 (v.kids.length : Int))), (23, .lit (.int .i64 ((i + 1) : Int)))], [.pack [] [], .dead, .cells [.lit (.int .i64 0), .lit (.int .i64 0), .lit (.slice none 0 0)], .cells [.lit (.int .i64 v.ctor), .lit (.int .i64 v.n), .own 4 (List.length (α := Vl.Value) (out ++ [v16]))], .elems 3 (R ++ [[.lit (.int .i64 v16.ctor), .lit (.int .i64 v16.n), .lit h18]]), .pack (List.flatten (List.map Vl.Value.c (out ++ [v16]))) (U ++ [.int .i64 v16.ctor, .int .i64 v16.n, h18])]⟩ (by refine Gh.trans (Gh.absorb 5 [9] (by exact rfl) (.lit (.int .i64 v16.ctor) (.lit (.int .i64 v16.n) (.pk 9 (by exact rfl) .nil))) (by decide)) ?_; exact (Gh.to3 (by simp) (by first | simp -dsimp [RW.len H7, RW.closed H7, h9, z11, ↓e12, o_h18, w20]; done | simp_all))) ?_
    exact (ih_impl_mask__f_l1 v path (out ++ [v16]) (i + 1) o hF) (R ++ [[.lit (.int .i64 v16.ctor), .lit (.int .i64 v16.n), .lit h18]]) (U ++ [.int .i64 v16.ctor, .int .i64 v16.n, h18]) ((RW.snoc H7 [.int .i64 v16.ctor, .int .i64 v16.n, h18] rfl).cong (by simp) (by simp) rfl) _ rfl _ hq
   ·refine ADraw.effNP [(6, 4)] [0, 1, 2, 3, 5, 6, 4, 7, 8, 9, 10, 11, 12, 13] [108, 155] [(0, 5), (0, 5), (0, 3), (0, 1), (0, 0), (0, 7), (0, 7), (0, 7), (0, 3), (0, 7), (0, 7), (0, 7), (6, 6), (0, 7)] [0, 2, 2, 1, 1, 1, 1, 1, 1, 1, 1, 1, 1, 1] 9 (by decide) follows (by kernel_rfl) (by kernel_rfl) (by kernel_rfl) (by kernel_rfl) (by kernel_rfl) (by kernel_rfl) rfl ?_
    intro L hL
    simp only [permL_nil, permL_cons, List.getD_cons_zero, List.getD_cons_succ, List.toList_toArray] at hL
    subst hL
    repeat (first | refine chk.ga ?_ | simp -dsimp [RW.len H7, RW.closed H7, h9, z11, ↓e12])
    have hF := ob hF; obtain ⟨v13, e14, hF⟩ := hF
    refine ((C.slices_Clone_int B hB1 hB2 path v13 e14)).ego (pl [8]) (by simp) (by simp) (by intro i j hi; simp at hi) (by intro i hi hi'; simp at hi hi'; first | omega | (subst hi'; simp [pl])) (by first | simp [RW.len H7, RW.closed H7, h9, z11, ↓e12]; done | simp_all) (by first | simp [RW.len H7, RW.closed H7, h9, z11, ↓e12]; done | simp_all) ?_
    have hF := oc hF; obtain ⟨c15, hF⟩ := hF
    repeat (first | refine chk.ga ?_ | simp -dsimp [RW.len H7, RW.closed H7, h9, z11, ↓e12])
    have hF := ob hF; obtain ⟨v16, e17, hF⟩ := hF
    refine ((ih_impl_mask__f x (v13 ++ [(i : Int)]) v16 e17)).ngo1 (by first | simp -dsimp [RW.len H7, RW.closed H7, h9, z11, ↓e12]; done | simp_all) (by simp) (fun h18 o_h18 => ?_)
    have hF := oc hF; obtain ⟨c19, hF⟩ := hF
    have w20 : IntKind.i64.wrap ((i : Int) + 1) = (i : Int) + 1 := wrap_in (by omega) (by omega)
    repeat (first | refine chk.ga ?_ | simp -dsimp [RW.len H7, RW.closed H7, h9, z11, ↓e12, o_h18, w20])
    refine Again.go ⟨[(1, .arr (List.map cI path)), (2, .arr (List.map (cL cI) paths)), (6, .ptr 2 0), (7, .ptr 3 0), (21, .arr (List.map Vl.Value.c v.kids)), (22, .lit (.int .i64 (v.kids.length : Int))), (23, .lit (.int .i64 ((i + 1) : Int)))], [.pack [] [], .dead, .cells [.lit (.int .i64 0), .lit (.int .i64 0), .lit (.slice none 0 0)], .cells [.lit (.int .i64 v.ctor), .lit (.int .i64 v.n), .own 4 (List.length (α := Vl.Value) (out ++ [v16]))], .elems 3 (R ++ [[.lit (.int .i64 v16.ctor), .lit (.int .i64 v16.n), .lit h18]]), .pack (List.flatten (List.map Vl.Value.c (out ++ [v16]))) (U ++ [.int .i64 v16.ctor, .int .i64 v16.n, h18])]⟩ (by refine Gh.trans (Gh.absorb 5 [9] (by exact rfl) (.lit (.int .i64 v16.ctor) (.lit (.int .i64 v16.n) (.pk 9 (by exact rfl) .nil))) (by decide)) ?_; exact (Gh.to3 (by simp) (by first | simp -dsimp [RW.len H7, RW.closed H7, h9, z11, ↓e12, o_h18, w20]; done | simp_all))) ?_
    exact (ih_impl_mask__f_l1 v path (out ++ [v16]) (i + 1) o hF) (R ++ [[.lit (.int .i64 v16.ctor), .lit (.int .i64 v16.n), .lit h18]]) (U ++ [.int .i64 v16.ctor, .int .i64 v16.n, h18]) ((RW.snoc H7 [.int .i64 v16.ctor, .int .i64 v16.n, h18] rfl).cong (by simp) (by simp) rfl) _ rfl _ hq
  ·have q10 : ¬ (i < v.kids.length) := auq h9
   have z11 : ¬ ((i : Int) < (v.kids.length : Int)) := auz
   rw [if_neg q10] at hF
   cases hF
   repeat (first | refine chk.ga ?_ | simp -dsimp [RW.len H7, RW.closed H7, h9, q10, z11])
   refine Leave.go ⟨[(6, .ptr 2 0), (7, .ptr 3 0)], [.pack [] [], .dead, .cells [.lit (.int .i64 0), .lit (.int .i64 0), .lit (.slice none 0 0)], .cells [.lit (.int .i64 v.ctor), .lit (.int .i64 v.n), .own 4 (List.length (α := Vl.Value) out)], .elems 3 R, .pack (List.flatten (List.map Vl.Value.c out)) U]⟩ (Gh.to3 (by simp) (by first | simp -dsimp [RW.len H7, RW.closed H7, h9, q10, z11]; done | simp_all)) ?_
   exact hq R U H7

theorem C.impl_MaskValue__f (w : List Vl.Data) (t : Vl.Ty) (v : Vl.Value) (paths : List (List Int)) (r : Vl.Value × Bool) (hF : F.impl_MaskValue w t v paths = some r) : FCall Try.prog B 48 [.arr (List.map Vl.Data.c w), .agg [.lit (.int .i64 t.data), .lit (.int .i64 t.index)], .agg [.lit (.int .i64 v.ctor), .lit (.int .i64 v.n), .arr (List.map Vl.Value.c v.kids)], .arr (List.map (cL cI) paths)] (.tup [.agg [.lit (.int .i64 r.1.ctor), .lit (.int .i64 r.1.n), .arr (List.map Vl.Value.c r.1.kids)], .lit (.bool r.2)]) := by
 unfold F.impl_MaskValue at hF
 refine FCall.enterG Try.func48 (by kernel_rfl) rfl Try.ntmps48 (by simp) (Gh.packZ .nil) ?_
 repeat (first | refine chk.ga ?_ | simp -dsimp)
 have hF := ob hF; obtain ⟨v1, e2, hF⟩ := hF
 refine ((C.impl_PartialValid B hB1 hB2 w t v v1 e2)).goW (by simp) (by simp) ?_
 repeat (first | refine chk.ga ?_ | simp -dsimp)
 refine abr.split (fun h3 => ?_) (fun h3 => ?_)
 ·have q4 : ¬ (v1 = true) := auq h3
  rw [if_neg q4] at hF
  cases hF
  repeat (first | refine chk.ga ?_ | simp -dsimp [h3, q4])
  exact ⟨_, by decide, (.agg (.lit _ (.lit _ (.nilS none 0 .nil))) (.cell (.lit _ .nil) .nil) : CT _ _ _ _)⟩
 ·have q4 : (v1 = true) := auq h3
  rw [if_pos q4] at hF
  repeat (first | refine chk.ga ?_ | simp -dsimp [h3, q4])
  have hF := ob hF; obtain ⟨v5, e6, hF⟩ := hF
  refine (((CC.impl_mask__f B hB1 hB2 paths).1 v [] v5 e6)).go1 (by first | simp -dsimp [h3, q4]; done | simp_all) (by simp) (fun h o_h => ?_)
  cases hF
  repeat (first | refine chk.ga ?_ | simp -dsimp [h3, q4, o_h])
  exact ⟨_, by decide, (.agg (.lit _ (.lit _ (.pk 4 rfl .nil))) (.cell (.lit _ .nil) .nil) : CT _ _ _ _)⟩

theorem CC.laws_eqValue  : (∀ (a : Vl.Value) (b : Vl.Value) (r : Bool), F.laws_eqValue a b = some r → PureCall Try.prog B 40 [.agg [.lit (.int .i64 a.ctor), .lit (.int .i64 a.n), .arr (List.map Vl.Value.c a.kids)], .agg [.lit (.int .i64 b.ctor), .lit (.int .i64 b.n), .arr (List.map Vl.Value.c b.kids)]] (.lit (.bool r))) ∧
  (∀ (a : List Vl.Value) (b : List Vl.Value) (r : Bool), F.laws_eqValueS a b = some r → PureCall Try.prog B 97 [.arr (List.map Vl.Value.c a), .arr (List.map Vl.Value.c b)] (.lit (.bool r))) ∧
  (∀ (a : List Vl.Value) (b : List Vl.Value) (i : Nat) (o : Lo Bool Unit), F.laws_eqValueS_l1 a b i = some o → ∀ (c : Code), navO [1, 1, 0, 1, 0, 0] (bodyOf Try.f97) = some c → ∀ (Q : Exit → ASt → Prop), o.post (fun r => ∀ st, Post Try.prog Try.f97 (fun r' _ => r'.le (.lit (.bool r))) .ret st → Q .ret st) (fun s => Q (.exit 0) ⟨[], []⟩) → ALoopU Try.prog B 0 27 (hold c .mk) ⟨[(0, .arr (List.map Vl.Value.c a)), (1, .arr (List.map Vl.Value.c b)), (5, .lit (.int .i64 (i : Int)))], []⟩ (hold Q .mk)) := by
 refine F.laws_eqValue.mutual_partial_correctness 
  _ _ _
  ?_ ?_ ?_
 ·intro _f_laws_eqValueS ih_laws_eqValueS a b r hF
  refine PureCall.enterLe Try.func40 (by kernel_rfl) rfl Try.ntmps40 (by simp) (by simp) ?_
  repeat (first | refine chk.ga ?_ | simp -dsimp)
  refine abr.split (fun h1 => ?_) (fun h1 => ?_)
  ·have q2 : ¬ (a.ctor = b.ctor) := auq h1
   rw [if_neg q2] at hF
   cases hF
   repeat (first | refine chk.ga ?_ | simp -dsimp [h1, q2])
   all_goals (try first | omega | rfl)
  ·have q2 : (a.ctor = b.ctor) := auq h1
   rw [if_pos q2] at hF
   repeat (first | refine chk.ga ?_ | simp -dsimp [h1, q2])
   refine abr.split (fun h3 => ?_) (fun h3 => ?_)
   ·have q4 : ¬ (a.n = b.n) := auq h3
    rw [if_neg q4] at hF
    cases hF
    repeat (first | refine chk.ga ?_ | simp -dsimp [h1, q2, h3, q4])
    all_goals (try first | omega | rfl)
   ·have q4 : (a.n = b.n) := auq h3
    rw [if_pos q4] at hF
    repeat (first | refine chk.ga ?_ | simp -dsimp [h1, q2, h3, q4])
    have hF := ob hF; obtain ⟨v, e5, hF⟩ := hF
    refine ((ih_laws_eqValueS a.kids b.kids v e5)).goW (by first | simp [h1, q2, h3, q4]; done | simp_all) (by simp) ?_
    repeat (first | refine chk.ga ?_ | simp -dsimp [h1, q2, h3, q4])
    refine abr.split (fun h6 => ?_) (fun h6 => ?_)
    ·have q7 : ¬ (v = true) := auq h6
     rw [if_neg q7] at hF
     cases hF
     repeat (first | refine chk.ga ?_ | simp -dsimp [h1, q2, h3, q4, h6, q7])
     all_goals (try first | omega | rfl)
    ·have q7 : (v = true) := auq h6
     rw [if_pos q7] at hF
     cases hF
     repeat (first | refine chk.ga ?_ | simp -dsimp [h1, q2, h3, q4, h6, q7])
     all_goals (try first | omega | rfl)
 ·intro _f_laws_eqValueS_l1 ih_laws_eqValueS_l1 a b r hF
  refine PureCall.enterLe Try.func97 (by kernel_rfl) rfl Try.ntmps97 (by simp) (by simp) ?_
  repeat (first | refine chk.ga ?_ | simp -dsimp)
  refine abr.split (fun h1 => ?_) (fun h1 => ?_)
  ·have q2 : ¬ (a.length = b.length) := auq h1
   have z3 : ¬ ((a.length : Int) = (b.length : Int)) := auz
   rw [if_neg q2] at hF
   cases hF
   repeat (first | refine chk.ga ?_ | simp -dsimp [h1, q2, z3])
   all_goals (try first | omega | rfl)
  ·have q2 : (a.length = b.length) := auq h1
   have z3 : ((a.length : Int) = (b.length : Int)) := auz
   rw [if_pos q2] at hF
   repeat (first | refine chk.ga ?_ | simp -dsimp [h1, q2, z3])
   have hF := ob hF; obtain ⟨o', ho14, hF⟩ := hF
   refine ALoop.goU _ ?_ ((ih_laws_eqValueS_l1 a b 0 o' ho14) _ rfl _ ?_)
   ·exact (Gh.to3 (by simp) (by first | simp -dsimp [h1, q2, z3]; done | simp_all))
   rcases o' with r0 | sx
   ·dsimp only at hF
    cases hF
    intro st h
    simpa using h
   ·dsimp only at hF
    cases hF
    repeat (first | refine chk.ga ?_ | simp -dsimp)
    all_goals (try first | omega | rfl)
 ·intro _f_laws_eqValue _f_laws_eqValueS_l1 ih_laws_eqValue ih_laws_eqValueS_l1 a b i o hF
  intro c hc Q hq
  obtain rfl : c = _ := navEq hc rfl
  refine ALoopU.know fun hk hs => ?_
  have b0 := hk 0
  simp -dsimp at b0
  have b1 := hk 1
  simp -dsimp at b1
  clear hk hs
  refine ALoopU.enter ?_
  repeat (first | refine chk.ga ?_ | simp -dsimp)
  refine abr.split (fun h4 => ?_) (fun h4 => ?_)
  ·have q5 : (i < a.length) := auq h4
   have z6 : ((i : Int) < (a.length : Int)) := auz
   rw [if_pos q5] at hF
   repeat (first | refine chk.ga ?_ | simp -dsimp [h4, z6])
   refine ADraw.simple follows (by kernel_rfl) (by kernel_rfl) ?_
   have hF := ob hF; obtain ⟨x, e7, hF⟩ := hF
   have le7 := lt_of_get e7
   have hF := ob hF; obtain ⟨x8, e9, hF⟩ := hF
   have le9 := lt_of_get e9
   repeat (first | refine chk.ga ?_ | simp -dsimp [h4, z6, ↓e7, ↓e9])
   have hF := ob hF; obtain ⟨v, e10, hF⟩ := hF
   refine ((ih_laws_eqValue x x8 v e10)).pgoW (by first | simp [h4, z6, ↓e7, ↓e9]; done | simp_all) (by simp) ?_
   repeat (first | refine chk.ga ?_ | simp -dsimp [h4, z6, ↓e7, ↓e9])
   refine abr.split (fun h11 => ?_) (fun h11 => ?_)
   ·have q12 : ¬ (v = true) := auq h11
    rw [if_neg q12] at hF
    cases hF
    repeat (first | refine chk.ga ?_ | simp -dsimp [h4, z6, ↓e7, ↓e9, h11, q12])
    refine Leave.go _ (Gh.refl _) (hq _ ?_)
    repeat (first | refine chk.ga ?_ | simp -dsimp [h4, z6, ↓e7, ↓e9, h11, q12])
   ·have q12 : (v = true) := auq h11
    rw [if_pos q12] at hF
    have w13 : IntKind.i64.wrap ((i : Int) + 1) = (i : Int) + 1 := wrap_in (by omega) (by omega)
    repeat (first | refine chk.ga ?_ | simp -dsimp [h4, z6, ↓e7, ↓e9, h11, q12, w13])
    refine Again.go _ ?_ ((ih_laws_eqValueS_l1 a b (i + 1) o hF) _ rfl _ hq)
    exact (Gh.to3 (by simp) (by first | simp -dsimp [h4, z6, ↓e7, ↓e9, h11, q12, w13]; done | simp_all))
  ·have q5 : ¬ (i < a.length) := auq h4
   have z6 : ¬ ((i : Int) < (a.length : Int)) := auz
   rw [if_neg q5] at hF
   cases hF
   repeat (first | refine chk.ga ?_ | simp -dsimp [h4, q5, z6])
   refine Leave.go ⟨[], []⟩ (Gh.to3 (by simp) (by first | simp -dsimp [h4, q5, z6]; done | simp_all)) ?_
   exact hq

theorem C.laws_eqType (a : Vl.Ty) (b : Vl.Ty) (r : Bool) (hF : F.laws_eqType a b = some r) : PureCall Try.prog B 125 [.agg [.lit (.int .i64 a.data), .lit (.int .i64 a.index)], .agg [.lit (.int .i64 b.data), .lit (.int .i64 b.index)]] (.lit (.bool r)) := by
 unfold F.laws_eqType at hF
 refine PureCall.enterLe Try.func125 (by kernel_rfl) rfl Try.ntmps125 (by simp) (by simp) ?_
 repeat (first | refine chk.ga ?_ | simp -dsimp)
 refine abr.split (fun h1 => ?_) (fun h1 => ?_)
 ·have q2 : ¬ (a.data = b.data) := auq h1
  rw [if_neg q2] at hF
  cases hF
  repeat (first | refine chk.ga ?_ | simp -dsimp [h1, q2])
  all_goals (try first | omega | rfl)
 ·have q2 : (a.data = b.data) := auq h1
  rw [if_pos q2] at hF
  repeat (first | refine chk.ga ?_ | simp -dsimp [h1, q2])
  refine abr.split (fun h3 => ?_) (fun h3 => ?_)
  ·have q4 : ¬ (a.index = b.index) := auq h3
   rw [if_neg q4] at hF
   cases hF
   repeat (first | refine chk.ga ?_ | simp -dsimp [h1, q2, h3, q4])
   all_goals (try first | omega | rfl)
  ·have q4 : (a.index = b.index) := auq h3
   rw [if_pos q4] at hF
   cases hF
   repeat (first | refine chk.ga ?_ | simp -dsimp [h1, q2, h3, q4])
   all_goals (try first | omega | rfl)

theorem CC.laws_eqTypeS_l1 (a : List Vl.Ty) (b : List Vl.Ty) : (∀ (i : Nat) (o : Lo Bool Unit), F.laws_eqTypeS_l1 a b i = some o → ∀ (c : Code), navO [1, 1, 0, 1, 0, 0] (bodyOf Try.f204) = some c → ∀ (Q : Exit → ASt → Prop), o.post (fun r => ∀ st, Post Try.prog Try.f204 (fun r' _ => r'.le (.lit (.bool r))) .ret st → Q .ret st) (fun s => Q (.exit 0) ⟨[], []⟩) → ALoopU Try.prog B 0 27 (hold c .mk) ⟨[(0, .arr (List.map Vl.Ty.c a)), (1, .arr (List.map Vl.Ty.c b)), (5, .lit (.int .i64 (i : Int)))], []⟩ (hold Q .mk)) := by
 refine F.laws_eqTypeS_l1.partial_correctness a b
  _
  ?_
 ·intro _f_laws_eqTypeS_l1 ih_laws_eqTypeS_l1 i o hF
  intro c hc Q hq
  obtain rfl : c = _ := navEq hc rfl
  refine ALoopU.know fun hk hs => ?_
  have b0 := hk 0
  simp -dsimp at b0
  have b1 := hk 1
  simp -dsimp at b1
  clear hk hs
  refine ALoopU.enter ?_
  repeat (first | refine chk.ga ?_ | simp -dsimp)
  refine abr.split (fun h4 => ?_) (fun h4 => ?_)
  ·have q5 : (i < a.length) := auq h4
   have z6 : ((i : Int) < (a.length : Int)) := auz
   rw [if_pos q5] at hF
   repeat (first | refine chk.ga ?_ | simp -dsimp [h4, z6])
   refine ADraw.simple follows (by kernel_rfl) (by kernel_rfl) ?_
   have hF := ob hF; obtain ⟨x, e7, hF⟩ := hF
   have le7 := lt_of_get e7
   have hF := ob hF; obtain ⟨x8, e9, hF⟩ := hF
   have le9 := lt_of_get e9
   repeat (first | refine chk.ga ?_ | simp -dsimp [h4, z6, ↓e7, ↓e9])
   have hF := ob hF; obtain ⟨v, e10, hF⟩ := hF
   refine ((C.laws_eqType B hB1 hB2 x x8 v e10)).pgoW (by first | simp [h4, z6, ↓e7, ↓e9]; done | simp_all) (by simp) ?_
   repeat (first | refine chk.ga ?_ | simp -dsimp [h4, z6, ↓e7, ↓e9])
   refine abr.split (fun h11 => ?_) (fun h11 => ?_)
   ·have q12 : ¬ (v = true) := auq h11
    rw [if_neg q12] at hF
    cases hF
    repeat (first | refine chk.ga ?_ | simp -dsimp [h4, z6, ↓e7, ↓e9, h11, q12])
    refine Leave.go _ (Gh.refl _) (hq _ ?_)
    repeat (first | refine chk.ga ?_ | simp -dsimp [h4, z6, ↓e7, ↓e9, h11, q12])
   ·have q12 : (v = true) := auq h11
    rw [if_pos q12] at hF
    have w13 : IntKind.i64.wrap ((i : Int) + 1) = (i : Int) + 1 := wrap_in (by omega) (by omega)
    repeat (first | refine chk.ga ?_ | simp -dsimp [h4, z6, ↓e7, ↓e9, h11, q12, w13])
    refine Again.go _ ?_ ((ih_laws_eqTypeS_l1 (i + 1) o hF) _ rfl _ hq)
    exact (Gh.to3 (by simp) (by first | simp -dsimp [h4, z6, ↓e7, ↓e9, h11, q12, w13]; done | simp_all))
  ·have q5 : ¬ (i < a.length) := auq h4
   have z6 : ¬ ((i : Int) < (a.length : Int)) := auz
   rw [if_neg q5] at hF
   cases hF
   repeat (first | refine chk.ga ?_ | simp -dsimp [h4, q5, z6])
   refine Leave.go ⟨[], []⟩ (Gh.to3 (by simp) (by first | simp -dsimp [h4, q5, z6]; done | simp_all)) ?_
   exact hq

theorem C.laws_eqTypeS (a : List Vl.Ty) (b : List Vl.Ty) (r : Bool) (hF : F.laws_eqTypeS a b = some r) : PureCall Try.prog B 204 [.arr (List.map Vl.Ty.c a), .arr (List.map Vl.Ty.c b)] (.lit (.bool r)) := by
 unfold F.laws_eqTypeS at hF
 refine PureCall.enterLe Try.func204 (by kernel_rfl) rfl Try.ntmps204 (by simp) (by simp) ?_
 repeat (first | refine chk.ga ?_ | simp -dsimp)
 refine abr.split (fun h1 => ?_) (fun h1 => ?_)
 ·have q2 : ¬ (a.length = b.length) := auq h1
  have z3 : ¬ ((a.length : Int) = (b.length : Int)) := auz
  rw [if_neg q2] at hF
  cases hF
  repeat (first | refine chk.ga ?_ | simp -dsimp [h1, q2, z3])
  all_goals (try first | omega | rfl)
 ·have q2 : (a.length = b.length) := auq h1
  have z3 : ((a.length : Int) = (b.length : Int)) := auz
  rw [if_pos q2] at hF
  repeat (first | refine chk.ga ?_ | simp -dsimp [h1, q2, z3])
  have hF := ob hF; obtain ⟨o', ho14, hF⟩ := hF
  refine ALoop.goU _ ?_ (((CC.laws_eqTypeS_l1 B hB1 hB2 a b) 0 o' ho14) _ rfl _ ?_)
  ·exact (Gh.to3 (by simp) (by first | simp -dsimp [h1, q2, z3]; done | simp_all))
  rcases o' with r0 | sx
  ·dsimp only at hF
   cases hF
   intro st h
   simpa using h
  ·dsimp only at hF
   cases hF
   repeat (first | refine chk.ga ?_ | simp -dsimp)
   all_goals (try first | omega | rfl)

theorem C.laws_eqCtor (a : Vl.Ctor) (b : Vl.Ctor) (r : Bool) (hF : F.laws_eqCtor a b = some r) : PureCall Try.prog B 165 [.agg [.lit (.string a.name), .arr (List.map Vl.Ty.c a.args), .lit (.int .i64 a.index)], .agg [.lit (.string b.name), .arr (List.map Vl.Ty.c b.args), .lit (.int .i64 b.index)]] (.lit (.bool r)) := by
 unfold F.laws_eqCtor at hF
 refine PureCall.enterLe Try.func165 (by kernel_rfl) rfl Try.ntmps165 (by simp) (by simp) ?_
 repeat (first | refine chk.ga ?_ | simp -dsimp)
 refine abr.split (fun h1 => ?_) (fun h1 => ?_)
 ·have q2 : ¬ (a.name.toList = b.name.toList) := auq h1
  rw [if_neg q2] at hF
  cases hF
  repeat (first | refine chk.ga ?_ | simp -dsimp [h1, q2])
  all_goals (try first | omega | rfl)
 ·have q2 : (a.name.toList = b.name.toList) := auq h1
  rw [if_pos q2] at hF
  repeat (first | refine chk.ga ?_ | simp -dsimp [h1, q2])
  have hF := ob hF; obtain ⟨v, e3, hF⟩ := hF
  refine ((C.laws_eqTypeS B hB1 hB2 a.args b.args v e3)).goW (by first | simp [h1, q2]; done | simp_all) (by simp) ?_
  repeat (first | refine chk.ga ?_ | simp -dsimp [h1, q2])
  refine abr.split (fun h4 => ?_) (fun h4 => ?_)
  ·have q5 : ¬ (v = true) := auq h4
   rw [if_neg q5] at hF
   cases hF
   repeat (first | refine chk.ga ?_ | simp -dsimp [h1, q2, h4, q5])
   all_goals (try first | omega | rfl)
  ·have q5 : (v = true) := auq h4
   rw [if_pos q5] at hF
   repeat (first | refine chk.ga ?_ | simp -dsimp [h1, q2, h4, q5])
   refine abr.split (fun h6 => ?_) (fun h6 => ?_)
   ·have q7 : ¬ (a.index = b.index) := auq h6
    rw [if_neg q7] at hF
    cases hF
    repeat (first | refine chk.ga ?_ | simp -dsimp [h1, q2, h4, q5, h6, q7])
    all_goals (try first | omega | rfl)
   ·have q7 : (a.index = b.index) := auq h6
    rw [if_pos q7] at hF
    cases hF
    repeat (first | refine chk.ga ?_ | simp -dsimp [h1, q2, h4, q5, h6, q7])
    all_goals (try first | omega | rfl)

theorem CC.laws_eqCtorS_l1 (a : List Vl.Ctor) (b : List Vl.Ctor) : (∀ (i : Nat) (o : Lo Bool Unit), F.laws_eqCtorS_l1 a b i = some o → ∀ (c : Code), navO [1, 1, 0, 1, 0, 0] (bodyOf Try.f124) = some c → ∀ (Q : Exit → ASt → Prop), o.post (fun r => ∀ st, Post Try.prog Try.f124 (fun r' _ => r'.le (.lit (.bool r))) .ret st → Q .ret st) (fun s => Q (.exit 0) ⟨[], []⟩) → ALoopU Try.prog B 0 27 (hold c .mk) ⟨[(0, .arr (List.map Vl.Ctor.c a)), (1, .arr (List.map Vl.Ctor.c b)), (5, .lit (.int .i64 (i : Int)))], []⟩ (hold Q .mk)) := by
 refine F.laws_eqCtorS_l1.partial_correctness a b
  _
  ?_
 ·intro _f_laws_eqCtorS_l1 ih_laws_eqCtorS_l1 i o hF
  intro c hc Q hq
  obtain rfl : c = _ := navEq hc rfl
  refine ALoopU.know fun hk hs => ?_
  have b0 := hk 0
  simp -dsimp at b0
  have b1 := hk 1
  simp -dsimp at b1
  clear hk hs
  refine ALoopU.enter ?_
  repeat (first | refine chk.ga ?_ | simp -dsimp)
  refine abr.split (fun h4 => ?_) (fun h4 => ?_)
  ·have q5 : (i < a.length) := auq h4
   have z6 : ((i : Int) < (a.length : Int)) := auz
   rw [if_pos q5] at hF
   repeat (first | refine chk.ga ?_ | simp -dsimp [h4, z6])
   refine ADraw.simple follows (by kernel_rfl) (by kernel_rfl) ?_
   have hF := ob hF; obtain ⟨x, e7, hF⟩ := hF
   have le7 := lt_of_get e7
   have hF := ob hF; obtain ⟨x8, e9, hF⟩ := hF
   have le9 := lt_of_get e9
   repeat (first | refine chk.ga ?_ | simp -dsimp [h4, z6, ↓e7, ↓e9])
   have hF := ob hF; obtain ⟨v, e10, hF⟩ := hF
   refine ((C.laws_eqCtor B hB1 hB2 x x8 v e10)).pgoW (by first | simp [h4, z6, ↓e7, ↓e9]; done | simp_all) (by simp) ?_
   repeat (first | refine chk.ga ?_ | simp -dsimp [h4, z6, ↓e7, ↓e9])
   refine abr.split (fun h11 => ?_) (fun h11 => ?_)
   ·have q12 : ¬ (v = true) := auq h11
    rw [if_neg q12] at hF
    cases hF
    repeat (first | refine chk.ga ?_ | simp -dsimp [h4, z6, ↓e7, ↓e9, h11, q12])
    refine Leave.go _ (Gh.refl _) (hq _ ?_)
    repeat (first | refine chk.ga ?_ | simp -dsimp [h4, z6, ↓e7, ↓e9, h11, q12])
   ·have q12 : (v = true) := auq h11
    rw [if_pos q12] at hF
    have w13 : IntKind.i64.wrap ((i : Int) + 1) = (i : Int) + 1 := wrap_in (by omega) (by omega)
    repeat (first | refine chk.ga ?_ | simp -dsimp [h4, z6, ↓e7, ↓e9, h11, q12, w13])
    refine Again.go _ ?_ ((ih_laws_eqCtorS_l1 (i + 1) o hF) _ rfl _ hq)
    exact (Gh.to3 (by simp) (by first | simp -dsimp [h4, z6, ↓e7, ↓e9, h11, q12, w13]; done | simp_all))
  ·have q5 : ¬ (i < a.length) := auq h4
   have z6 : ¬ ((i : Int) < (a.length : Int)) := auz
   rw [if_neg q5] at hF
   cases hF
   repeat (first | refine chk.ga ?_ | simp -dsimp [h4, q5, z6])
   refine Leave.go ⟨[], []⟩ (Gh.to3 (by simp) (by first | simp -dsimp [h4, q5, z6]; done | simp_all)) ?_
   exact hq

theorem C.laws_eqCtorS (a : List Vl.Ctor) (b : List Vl.Ctor) (r : Bool) (hF : F.laws_eqCtorS a b = some r) : PureCall Try.prog B 124 [.arr (List.map Vl.Ctor.c a), .arr (List.map Vl.Ctor.c b)] (.lit (.bool r)) := by
 unfold F.laws_eqCtorS at hF
 refine PureCall.enterLe Try.func124 (by kernel_rfl) rfl Try.ntmps124 (by simp) (by simp) ?_
 repeat (first | refine chk.ga ?_ | simp -dsimp)
 refine abr.split (fun h1 => ?_) (fun h1 => ?_)
 ·have q2 : ¬ (a.length = b.length) := auq h1
  have z3 : ¬ ((a.length : Int) = (b.length : Int)) := auz
  rw [if_neg q2] at hF
  cases hF
  repeat (first | refine chk.ga ?_ | simp -dsimp [h1, q2, z3])
  all_goals (try first | omega | rfl)
 ·have q2 : (a.length = b.length) := auq h1
  have z3 : ((a.length : Int) = (b.length : Int)) := auz
  rw [if_pos q2] at hF
  repeat (first | refine chk.ga ?_ | simp -dsimp [h1, q2, z3])
  have hF := ob hF; obtain ⟨o', ho14, hF⟩ := hF
  refine ALoop.goU _ ?_ (((CC.laws_eqCtorS_l1 B hB1 hB2 a b) 0 o' ho14) _ rfl _ ?_)
  ·exact (Gh.to3 (by simp) (by first | simp -dsimp [h1, q2, z3]; done | simp_all))
  rcases o' with r0 | sx
  ·dsimp only at hF
   cases hF
   intro st h
   simpa using h
  ·dsimp only at hF
   cases hF
   repeat (first | refine chk.ga ?_ | simp -dsimp)
   all_goals (try first | omega | rfl)

theorem C.laws_eqData (a : Vl.Data) (b : Vl.Data) (r : Bool) (hF : F.laws_eqData a b = some r) : PureCall Try.prog B 63 [.agg [.lit (.string a.name), .arr (List.map Vl.Ctor.c a.ctors)], .agg [.lit (.string b.name), .arr (List.map Vl.Ctor.c b.ctors)]] (.lit (.bool r)) := by
 unfold F.laws_eqData at hF
 refine PureCall.enterLe Try.func63 (by kernel_rfl) rfl Try.ntmps63 (by simp) (by simp) ?_
 repeat (first | refine chk.ga ?_ | simp -dsimp)
 refine abr.split (fun h1 => ?_) (fun h1 => ?_)
 ·have q2 : ¬ (a.name.toList = b.name.toList) := auq h1
  rw [if_neg q2] at hF
  cases hF
  repeat (first | refine chk.ga ?_ | simp -dsimp [h1, q2])
  all_goals (try first | omega | rfl)
 ·have q2 : (a.name.toList = b.name.toList) := auq h1
  rw [if_pos q2] at hF
  repeat (first | refine chk.ga ?_ | simp -dsimp [h1, q2])
  have hF := ob hF; obtain ⟨v, e3, hF⟩ := hF
  refine ((C.laws_eqCtorS B hB1 hB2 a.ctors b.ctors v e3)).goW (by first | simp [h1, q2]; done | simp_all) (by simp) ?_
  repeat (first | refine chk.ga ?_ | simp -dsimp [h1, q2])
  refine abr.split (fun h4 => ?_) (fun h4 => ?_)
  ·have q5 : ¬ (v = true) := auq h4
   rw [if_neg q5] at hF
   cases hF
   repeat (first | refine chk.ga ?_ | simp -dsimp [h1, q2, h4, q5])
   all_goals (try first | omega | rfl)
  ·have q5 : (v = true) := auq h4
   rw [if_pos q5] at hF
   cases hF
   repeat (first | refine chk.ga ?_ | simp -dsimp [h1, q2, h4, q5])
   all_goals (try first | omega | rfl)

theorem CC.laws_eqDataS_l1 (a : List Vl.Data) (b : List Vl.Data) : (∀ (i : Nat) (o : Lo Bool Unit), F.laws_eqDataS_l1 a b i = some o → ∀ (c : Code), navO [1, 1, 0, 1, 0, 0] (bodyOf Try.f20) = some c → ∀ (Q : Exit → ASt → Prop), o.post (fun r => ∀ st, Post Try.prog Try.f20 (fun r' _ => r'.le (.lit (.bool r))) .ret st → Q .ret st) (fun s => Q (.exit 0) ⟨[], []⟩) → ALoopU Try.prog B 0 27 (hold c .mk) ⟨[(0, .arr (List.map Vl.Data.c a)), (1, .arr (List.map Vl.Data.c b)), (5, .lit (.int .i64 (i : Int)))], []⟩ (hold Q .mk)) := by
 refine F.laws_eqDataS_l1.partial_correctness a b
  _
  ?_
 ·intro _f_laws_eqDataS_l1 ih_laws_eqDataS_l1 i o hF
  intro c hc Q hq
  obtain rfl : c = _ := navEq hc rfl
  refine ALoopU.know fun hk hs => ?_
  have b0 := hk 0
  simp -dsimp at b0
  have b1 := hk 1
  simp -dsimp at b1
  clear hk hs
  refine ALoopU.enter ?_
  repeat (first | refine chk.ga ?_ | simp -dsimp)
  refine abr.split (fun h4 => ?_) (fun h4 => ?_)
  ·have q5 : (i < a.length) := auq h4
   have z6 : ((i : Int) < (a.length : Int)) := auz
   rw [if_pos q5] at hF
   repeat (first | refine chk.ga ?_ | simp -dsimp [h4, z6])
   refine ADraw.simple follows (by kernel_rfl) (by kernel_rfl) ?_
   have hF := ob hF; obtain ⟨x, e7, hF⟩ := hF
   have le7 := lt_of_get e7
   have hF := ob hF; obtain ⟨x8, e9, hF⟩ := hF
   have le9 := lt_of_get e9
   repeat (first | refine chk.ga ?_ | simp -dsimp [h4, z6, ↓e7, ↓e9])
   have hF := ob hF; obtain ⟨v, e10, hF⟩ := hF
   refine ((C.laws_eqData B hB1 hB2 x x8 v e10)).pgoW (by first | simp [h4, z6, ↓e7, ↓e9]; done | simp_all) (by simp) ?_
   repeat (first | refine chk.ga ?_ | simp -dsimp [h4, z6, ↓e7, ↓e9])
   refine abr.split (fun h11 => ?_) (fun h11 => ?_)
   ·have q12 : ¬ (v = true) := auq h11
    rw [if_neg q12] at hF
    cases hF
    repeat (first | refine chk.ga ?_ | simp -dsimp [h4, z6, ↓e7, ↓e9, h11, q12])
    refine Leave.go _ (Gh.refl _) (hq _ ?_)
    repeat (first | refine chk.ga ?_ | simp -dsimp [h4, z6, ↓e7, ↓e9, h11, q12])
   ·have q12 : (v = true) := auq h11
    rw [if_pos q12] at hF
    have w13 : IntKind.i64.wrap ((i : Int) + 1) = (i : Int) + 1 := wrap_in (by omega) (by omega)
    repeat (first | refine chk.ga ?_ | simp -dsimp [h4, z6, ↓e7, ↓e9, h11, q12, w13])
    refine Again.go _ ?_ ((ih_laws_eqDataS_l1 (i + 1) o hF) _ rfl _ hq)
    exact (Gh.to3 (by simp) (by first | simp -dsimp [h4, z6, ↓e7, ↓e9, h11, q12, w13]; done | simp_all))
  ·have q5 : ¬ (i < a.length) := auq h4
   have z6 : ¬ ((i : Int) < (a.length : Int)) := auz
   rw [if_neg q5] at hF
   cases hF
   repeat (first | refine chk.ga ?_ | simp -dsimp [h4, q5, z6])
   refine Leave.go ⟨[], []⟩ (Gh.to3 (by simp) (by first | simp -dsimp [h4, q5, z6]; done | simp_all)) ?_
   exact hq

theorem C.laws_eqDataS (a : List Vl.Data) (b : List Vl.Data) (r : Bool) (hF : F.laws_eqDataS a b = some r) : PureCall Try.prog B 20 [.arr (List.map Vl.Data.c a), .arr (List.map Vl.Data.c b)] (.lit (.bool r)) := by
 unfold F.laws_eqDataS at hF
 refine PureCall.enterLe Try.func20 (by kernel_rfl) rfl Try.ntmps20 (by simp) (by simp) ?_
 repeat (first | refine chk.ga ?_ | simp -dsimp)
 refine abr.split (fun h1 => ?_) (fun h1 => ?_)
 ·have q2 : ¬ (a.length = b.length) := auq h1
  have z3 : ¬ ((a.length : Int) = (b.length : Int)) := auz
  rw [if_neg q2] at hF
  cases hF
  repeat (first | refine chk.ga ?_ | simp -dsimp [h1, q2, z3])
  all_goals (try first | omega | rfl)
 ·have q2 : (a.length = b.length) := auq h1
  have z3 : ((a.length : Int) = (b.length : Int)) := auz
  rw [if_pos q2] at hF
  repeat (first | refine chk.ga ?_ | simp -dsimp [h1, q2, z3])
  have hF := ob hF; obtain ⟨o', ho14, hF⟩ := hF
  refine ALoop.goU _ ?_ (((CC.laws_eqDataS_l1 B hB1 hB2 a b) 0 o' ho14) _ rfl _ ?_)
  ·exact (Gh.to3 (by simp) (by first | simp -dsimp [h1, q2, z3]; done | simp_all))
  rcases o' with r0 | sx
  ·dsimp only at hF
   cases hF
   intro st h
   simpa using h
  ·dsimp only at hF
   cases hF
   repeat (first | refine chk.ga ?_ | simp -dsimp)
   all_goals (try first | omega | rfl)

theorem CC.laws_eqIntS_l1 (a : List Int) (b : List Int) : (∀ (i : Nat) (o : Lo Bool Unit), F.laws_eqIntS_l1 a b i = some o → ∀ (c : Code), navO [1, 1, 0, 1, 0, 0] (bodyOf Try.f109) = some c → ∀ (Q : Exit → ASt → Prop), o.post (fun r => ∀ st, Post Try.prog Try.f109 (fun r' _ => r'.le (.lit (.bool r))) .ret st → Q .ret st) (fun s => Q (.exit 0) ⟨[], []⟩) → ALoopU Try.prog B 0 26 (hold c .mk) ⟨[(0, .arr (List.map cI a)), (1, .arr (List.map cI b)), (5, .lit (.int .i64 (i : Int)))], []⟩ (hold Q .mk)) := by
 refine F.laws_eqIntS_l1.partial_correctness a b
  _
  ?_
 ·intro _f_laws_eqIntS_l1 ih_laws_eqIntS_l1 i o hF
  intro c hc Q hq
  obtain rfl : c = _ := navEq hc rfl
  refine ALoopU.know fun hk hs => ?_
  have b0 := hk 0
  simp -dsimp at b0
  have b1 := hk 1
  simp -dsimp at b1
  clear hk hs
  refine ALoopU.enter ?_
  repeat (first | refine chk.ga ?_ | simp -dsimp)
  refine abr.split (fun h4 => ?_) (fun h4 => ?_)
  ·have q5 : (i < a.length) := auq h4
   have z6 : ((i : Int) < (a.length : Int)) := auz
   rw [if_pos q5] at hF
   repeat (first | refine chk.ga ?_ | simp -dsimp [h4, z6])
   refine ADraw.simple follows (by kernel_rfl) (by kernel_rfl) ?_
   have hF := ob hF; obtain ⟨x, e7, hF⟩ := hF
   have le7 := lt_of_get e7
   have hF := ob hF; obtain ⟨x8, e9, hF⟩ := hF
   have le9 := lt_of_get e9
   repeat (first | refine chk.ga ?_ | simp -dsimp [h4, z6, ↓e7, ↓e9])
   refine abr.split (fun h10 => ?_) (fun h10 => ?_)
   ·have q11 : ¬ (x = x8) := auq h10
    rw [if_neg q11] at hF
    cases hF
    repeat (first | refine chk.ga ?_ | simp -dsimp [h4, z6, ↓e7, ↓e9, h10, q11])
    refine Leave.go _ (Gh.refl _) (hq _ ?_)
    repeat (first | refine chk.ga ?_ | simp -dsimp [h4, z6, ↓e7, ↓e9, h10, q11])
   ·have q11 : (x = x8) := auq h10
    rw [if_pos q11] at hF
    have w12 : IntKind.i64.wrap ((i : Int) + 1) = (i : Int) + 1 := wrap_in (by omega) (by omega)
    repeat (first | refine chk.ga ?_ | simp -dsimp [h4, z6, ↓e7, ↓e9, h10, q11, w12])
    refine Again.go _ ?_ ((ih_laws_eqIntS_l1 (i + 1) o hF) _ rfl _ hq)
    exact (Gh.to3 (by simp) (by first | simp -dsimp [h4, z6, ↓e7, ↓e9, h10, q11, w12]; done | simp_all))
  ·have q5 : ¬ (i < a.length) := auq h4
   have z6 : ¬ ((i : Int) < (a.length : Int)) := auz
   rw [if_neg q5] at hF
   cases hF
   repeat (first | refine chk.ga ?_ | simp -dsimp [h4, q5, z6])
   refine Leave.go ⟨[], []⟩ (Gh.to3 (by simp) (by first | simp -dsimp [h4, q5, z6]; done | simp_all)) ?_
   exact hq

theorem C.laws_eqIntS (a : List Int) (b : List Int) (r : Bool) (hF : F.laws_eqIntS a b = some r) : PureCall Try.prog B 109 [.arr (List.map cI a), .arr (List.map cI b)] (.lit (.bool r)) := by
 unfold F.laws_eqIntS at hF
 refine PureCall.enterLe Try.func109 (by kernel_rfl) rfl Try.ntmps109 (by simp) (by simp) ?_
 repeat (first | refine chk.ga ?_ | simp -dsimp)
 refine abr.split (fun h1 => ?_) (fun h1 => ?_)
 ·have q2 : ¬ (a.length = b.length) := auq h1
  have z3 : ¬ ((a.length : Int) = (b.length : Int)) := auz
  rw [if_neg q2] at hF
  cases hF
  repeat (first | refine chk.ga ?_ | simp -dsimp [h1, q2, z3])
  all_goals (try first | omega | rfl)
 ·have q2 : (a.length = b.length) := auq h1
  have z3 : ((a.length : Int) = (b.length : Int)) := auz
  rw [if_pos q2] at hF
  repeat (first | refine chk.ga ?_ | simp -dsimp [h1, q2, z3])
  have hF := ob hF; obtain ⟨o', ho13, hF⟩ := hF
  refine ALoop.goU _ ?_ (((CC.laws_eqIntS_l1 B hB1 hB2 a b) 0 o' ho13) _ rfl _ ?_)
  ·exact (Gh.to3 (by simp) (by first | simp -dsimp [h1, q2, z3]; done | simp_all))
  rcases o' with r0 | sx
  ·dsimp only at hF
   cases hF
   intro st h
   simpa using h
  ·dsimp only at hF
   cases hF
   repeat (first | refine chk.ga ?_ | simp -dsimp)
   all_goals (try first | omega | rfl)

theorem CC.laws_eqIntSS_l1 (a : List (List Int)) (b : List (List Int)) : (∀ (i : Nat) (o : Lo Bool Unit), F.laws_eqIntSS_l1 a b i = some o → ∀ (c : Code), navO [1, 1, 0, 1, 0, 0] (bodyOf Try.f49) = some c → ∀ (Q : Exit → ASt → Prop), o.post (fun r => ∀ st, Post Try.prog Try.f49 (fun r' _ => r'.le (.lit (.bool r))) .ret st → Q .ret st) (fun s => Q (.exit 0) ⟨[], []⟩) → ALoopU Try.prog B 0 27 (hold c .mk) ⟨[(0, .arr (List.map (cL cI) a)), (1, .arr (List.map (cL cI) b)), (5, .lit (.int .i64 (i : Int)))], []⟩ (hold Q .mk)) := by
 refine F.laws_eqIntSS_l1.partial_correctness a b
  _
  ?_
 ·intro _f_laws_eqIntSS_l1 ih_laws_eqIntSS_l1 i o hF
  intro c hc Q hq
  obtain rfl : c = _ := navEq hc rfl
  refine ALoopU.know fun hk hs => ?_
  have b0 := hk 0
  simp -dsimp at b0
  have b1 := hk 1
  simp -dsimp at b1
  clear hk hs
  refine ALoopU.enter ?_
  repeat (first | refine chk.ga ?_ | simp -dsimp)
  refine abr.split (fun h4 => ?_) (fun h4 => ?_)
  ·have q5 : (i < a.length) := auq h4
   have z6 : ((i : Int) < (a.length : Int)) := auz
   rw [if_pos q5] at hF
   repeat (first | refine chk.ga ?_ | simp -dsimp [h4, z6])
   refine ADraw.simple follows (by kernel_rfl) (by kernel_rfl) ?_
   have hF := ob hF; obtain ⟨x, e7, hF⟩ := hF
   have le7 := lt_of_get e7
   have hF := ob hF; obtain ⟨x8, e9, hF⟩ := hF
   have le9 := lt_of_get e9
   repeat (first | refine chk.ga ?_ | simp -dsimp [h4, z6, ↓e7, ↓e9])
   have hF := ob hF; obtain ⟨v, e10, hF⟩ := hF
   refine ((C.laws_eqIntS B hB1 hB2 x x8 v e10)).pgoW (by first | simp [h4, z6, ↓e7, ↓e9]; done | simp_all) (by simp) ?_
   repeat (first | refine chk.ga ?_ | simp -dsimp [h4, z6, ↓e7, ↓e9])
   refine abr.split (fun h11 => ?_) (fun h11 => ?_)
   ·have q12 : ¬ (v = true) := auq h11
    rw [if_neg q12] at hF
    cases hF
    repeat (first | refine chk.ga ?_ | simp -dsimp [h4, z6, ↓e7, ↓e9, h11, q12])
    refine Leave.go _ (Gh.refl _) (hq _ ?_)
    repeat (first | refine chk.ga ?_ | simp -dsimp [h4, z6, ↓e7, ↓e9, h11, q12])
   ·have q12 : (v = true) := auq h11
    rw [if_pos q12] at hF
    have w13 : IntKind.i64.wrap ((i : Int) + 1) = (i : Int) + 1 := wrap_in (by omega) (by omega)
    repeat (first | refine chk.ga ?_ | simp -dsimp [h4, z6, ↓e7, ↓e9, h11, q12, w13])
    refine Again.go _ ?_ ((ih_laws_eqIntSS_l1 (i + 1) o hF) _ rfl _ hq)
    exact (Gh.to3 (by simp) (by first | simp -dsimp [h4, z6, ↓e7, ↓e9, h11, q12, w13]; done | simp_all))
  ·have q5 : ¬ (i < a.length) := auq h4
   have z6 : ¬ ((i : Int) < (a.length : Int)) := auz
   rw [if_neg q5] at hF
   cases hF
   repeat (first | refine chk.ga ?_ | simp -dsimp [h4, q5, z6])
   refine Leave.go ⟨[], []⟩ (Gh.to3 (by simp) (by first | simp -dsimp [h4, q5, z6]; done | simp_all)) ?_
   exact hq

theorem C.laws_eqIntSS (a : List (List Int)) (b : List (List Int)) (r : Bool) (hF : F.laws_eqIntSS a b = some r) : PureCall Try.prog B 49 [.arr (List.map (cL cI) a), .arr (List.map (cL cI) b)] (.lit (.bool r)) := by
 unfold F.laws_eqIntSS at hF
 refine PureCall.enterLe Try.func49 (by kernel_rfl) rfl Try.ntmps49 (by simp) (by simp) ?_
 repeat (first | refine chk.ga ?_ | simp -dsimp)
 refine abr.split (fun h1 => ?_) (fun h1 => ?_)
 ·have q2 : ¬ (a.length = b.length) := auq h1
  have z3 : ¬ ((a.length : Int) = (b.length : Int)) := auz
  rw [if_neg q2] at hF
  cases hF
  repeat (first | refine chk.ga ?_ | simp -dsimp [h1, q2, z3])
  all_goals (try first | omega | rfl)
 ·have q2 : (a.length = b.length) := auq h1
  have z3 : ((a.length : Int) = (b.length : Int)) := auz
  rw [if_pos q2] at hF
  repeat (first | refine chk.ga ?_ | simp -dsimp [h1, q2, z3])
  have hF := ob hF; obtain ⟨o', ho14, hF⟩ := hF
  refine ALoop.goU _ ?_ (((CC.laws_eqIntSS_l1 B hB1 hB2 a b) 0 o' ho14) _ rfl _ ?_)
  ·exact (Gh.to3 (by simp) (by first | simp -dsimp [h1, q2, z3]; done | simp_all))
  rcases o' with r0 | sx
  ·dsimp only at hF
   cases hF
   intro st h
   simpa using h
  ·dsimp only at hF
   cases hF
   repeat (first | refine chk.ga ?_ | simp -dsimp)
   all_goals (try first | omega | rfl)

theorem CC.laws_heldValueS  : (∀ (a : List Vl.Value) (k : Int) (r : Int), F.laws_heldValueS a k = some r → PureCall Try.prog B 111 [.arr (List.map Vl.Value.c a), .lit (.int .i64 k)] (.lit (.int .i64 r))) ∧
  (∀ (a : List Vl.Value) (k1 : Int) (i : Nat) (o : Lo Int Int), F.laws_heldValueS_l1 a k1 i = some o → ∀ (c : Code), navO [1, 0, 1, 0, 0] (bodyOf Try.f111) = some c → ∀ (Q : Exit → ASt → Prop), o.post (fun r => ∀ st, Post Try.prog Try.f111 (fun r' _ => r'.le (.lit (.int .i64 r))) .ret st → Q .ret st) (fun s => Q (.exit 0) ⟨[(1, .lit (.int .i64 s))], []⟩) → ALoopU Try.prog B 0 40 (hold c .mk) ⟨[(0, .arr (List.map Vl.Value.c a)), (1, .lit (.int .i64 k1)), (5, .lit (.int .i64 (i : Int)))], []⟩ (hold Q .mk)) := by
 refine F.laws_heldValueS.mutual_partial_correctness 
  _ _
  ?_ ?_
 ·intro _f_laws_heldValueS_l1 ih_laws_heldValueS_l1 a k r hF
  refine PureCall.enterLe Try.func111 (by kernel_rfl) rfl Try.ntmps111 (by simp) (by simp) ?_
  repeat (first | refine chk.ga ?_ | simp -dsimp)
  have hF := ob hF; obtain ⟨o', ho14, hF⟩ := hF
  refine ALoop.goU _ ?_ ((ih_laws_heldValueS_l1 a k 0 o' ho14) _ rfl _ ?_)
  ·exact (Gh.to3 (by simp) (by simp -dsimp))
  rcases o' with r0 | sx
  ·dsimp only at hF
   cases hF
   intro st h
   simpa using h
  ·dsimp only at hF
   cases hF
   repeat (first | refine chk.ga ?_ | simp -dsimp)
   all_goals (try first | omega | rfl)
 ·intro _f_laws_heldValueS _f_laws_heldValueS_l1 ih_laws_heldValueS ih_laws_heldValueS_l1 a k1 i o hF
  intro c hc Q hq
  obtain rfl : c = _ := navEq hc rfl
  refine ALoopU.know fun hk hs => ?_
  have b0 := hk 0
  simp -dsimp at b0
  clear hk hs
  refine ALoopU.enter ?_
  repeat (first | refine chk.ga ?_ | simp -dsimp)
  refine abr.split (fun h2 => ?_) (fun h2 => ?_)
  ·have q3 : (i < a.length) := auq h2
   have z4 : ((i : Int) < (a.length : Int)) := auz
   rw [if_pos q3] at hF
   have hF := ob hF; obtain ⟨x, e5, hF⟩ := hF
   have le5 := lt_of_get e5
   repeat (first | refine chk.ga ?_ | simp -dsimp [h2, z4, ↓e5])
   refine abr.split (fun h6 => ?_) (fun h6 => ?_)
   ·have q7 : ¬ (x.ctor = k1) := auq h6
    rw [if_neg q7] at hF
    cases hF
    repeat (first | refine chk.ga ?_ | simp -dsimp [h2, z4, ↓e5, h6, q7])
    refine Leave.go _ (Gh.refl _) (hq _ ?_)
    repeat (first | refine chk.ga ?_ | simp -dsimp [h2, z4, ↓e5, h6, q7])
   ·have q7 : (x.ctor = k1) := auq h6
    rw [if_pos q7] at hF
    repeat (first | refine chk.ga ?_ | simp -dsimp [h2, z4, ↓e5, h6, q7])
    refine abr.split (fun h8 => ?_) (fun h8 => ?_)
    ·have q9 : ¬ (x.n = IntKind.i64.wrap (k1 + 1)) := auq h8
     rw [if_neg q9] at hF
     cases hF
     repeat (first | refine chk.ga ?_ | simp -dsimp [h2, z4, ↓e5, h6, q7, h8, q9])
     refine Leave.go _ (Gh.refl _) (hq _ ?_)
     repeat (first | refine chk.ga ?_ | simp -dsimp [h2, z4, ↓e5, h6, q7, h8, q9])
    ·have q9 : (x.n = IntKind.i64.wrap (k1 + 1)) := auq h8
     rw [if_pos q9] at hF
     repeat (first | refine chk.ga ?_ | simp -dsimp [h2, z4, ↓e5, h6, q7, h8, q9])
     have hF := ob hF; obtain ⟨v, e10, hF⟩ := hF
     refine ((ih_laws_heldValueS x.kids (IntKind.i64.wrap (IntKind.i64.wrap (k1 + 1) + 1)) v e10)).goW (by first | simp [h2, z4, ↓e5, h6, q7, h8, q9]; done | simp_all) (by simp) ?_
     repeat (first | refine chk.ga ?_ | simp -dsimp [h2, z4, ↓e5, h6, q7, h8, q9])
     refine abr.split (fun h11 => ?_) (fun h11 => ?_)
     ·have q12 : (v < 0) := auq h11
      rw [if_pos q12] at hF
      cases hF
      repeat (first | refine chk.ga ?_ | simp -dsimp [h2, z4, ↓e5, h6, q7, h8, q9, h11])
      refine Leave.go _ (Gh.refl _) (hq _ ?_)
      repeat (first | refine chk.ga ?_ | simp -dsimp [h2, z4, ↓e5, h6, q7, h8, q9, h11])
     ·have q12 : ¬ (v < 0) := auq h11
      rw [if_neg q12] at hF
      have w13 : IntKind.i64.wrap ((i : Int) + 1) = (i : Int) + 1 := wrap_in (by omega) (by omega)
      repeat (first | refine chk.ga ?_ | simp -dsimp [h2, z4, ↓e5, h6, q7, h8, q9, h11, q12, w13])
      refine Again.go _ ?_ ((ih_laws_heldValueS_l1 a v (i + 1) o hF) _ rfl _ hq)
      exact (Gh.to3 (by simp) (by first | simp -dsimp [h2, z4, ↓e5, h6, q7, h8, q9, h11, q12, w13]; done | simp_all))
  ·have q3 : ¬ (i < a.length) := auq h2
   have z4 : ¬ ((i : Int) < (a.length : Int)) := auz
   rw [if_neg q3] at hF
   cases hF
   repeat (first | refine chk.ga ?_ | simp -dsimp [h2, q3, z4])
   refine Leave.go ⟨[(1, .lit (.int .i64 k1))], []⟩ (Gh.to3 (by simp) (by first | simp -dsimp [h2, q3, z4]; done | simp_all)) ?_
   exact hq

theorem C.laws_heldValue (a : Vl.Value) (k : Int) (r : Int) (hF : F.laws_heldValue a k = some r) : PureCall Try.prog B 51 [.agg [.lit (.int .i64 a.ctor), .lit (.int .i64 a.n), .arr (List.map Vl.Value.c a.kids)], .lit (.int .i64 k)] (.lit (.int .i64 r)) := by
 unfold F.laws_heldValue at hF
 refine PureCall.enterLe Try.func51 (by kernel_rfl) rfl Try.ntmps51 (by simp) (by simp) ?_
 repeat (first | refine chk.ga ?_ | simp -dsimp)
 have hF := ob hF; obtain ⟨v, e1, hF⟩ := hF
 refine (((CC.laws_heldValueS B hB1 hB2 ).1 a.kids k v e1)).goW (by simp) (by simp) ?_
 repeat (first | refine chk.ga ?_ | simp -dsimp)
 refine abr.split (fun h2 => ?_) (fun h2 => ?_)
 ·have q3 : (v < 0) := auq h2
  rw [if_pos q3] at hF
  cases hF
  repeat (first | refine chk.ga ?_ | simp -dsimp [h2])
  all_goals (try first | omega | rfl)
 ·have q3 : ¬ (v < 0) := auq h2
  rw [if_neg q3] at hF
  cases hF
  repeat (first | refine chk.ga ?_ | simp -dsimp [h2, q3])
  all_goals (try first | omega | rfl)

theorem CM.laws_markIntS : ∀ m : Nat, (∀ (a : List Int) (k : Int), SizeOf.sizeOf a < m → MCall Try.prog B 110 (List.map cI a) [.int .i64 k] (List.map cI (mkI a k).1) (.int .i64 (mkI a k).2)) := by
 intro m
 induction m with
 | zero => exact fun a k h => absurd h (Nat.not_lt_zero _)
 | succ m ih =>
  intro a0 k0 hm
  have hz0 : ∀ x, x ∈ a0 → SizeOf.sizeOf x < m := fun x hx => by have := List.sizeOf_lt_of_mem hx; omega
  have loop : ∀ (rest D : List Int) (k : Int) (i n : Nat) (rows : List (List AV)) (us : List Go.Value), (∀ x, x ∈ rest → SizeOf.sizeOf x < m) → i = D.length → n = i + rest.length → RW 1 n rows us →
    ∀ (c : Code), navO [1, 0, 1, 0, 0] (bodyOf Try.f110) = some c → ∀ (Q : Exit → ASt → Prop),
    (∀ (R : List (List AV)) (U : List Go.Value), RW 1 n R U → Q (.exit 0) ⟨[(1, .lit (.int .i64 (mkI rest k).2))], [.elems 1 R, .pack (List.flatten (List.map cI (D ++ (mkI rest k).1))) U]⟩) →
    ALoopU Try.prog B 2 19 (hold c .mk) ⟨[(0, .own 0 n), (1, .lit (.int .i64 k)), (5, .lit (.int .i64 (i : Int)))], [.elems 1 rows, .pack (List.flatten (List.map cI (D ++ rest))) us]⟩ (hold Q .mk) := by
   intro rest
   induction rest with
   | nil =>
    intro D k i n rows us hz hi hn H c hc Q hq
    obtain rfl : c = _ := navEq hc rfl
    have hn' : n = i := by simpa using hn
    subst hn'
    refine ALoopU.enter ?_
    repeat (first | refine chk.ga ?_ | simp -dsimp [RW.len H])
    refine Leave.go ⟨[(1, .lit (.int .i64 k))], [.elems 1 rows, .pack (List.flatten (List.map cI D)) us]⟩ (Gh.to3 (by simp) (by simp -dsimp [RW.closed H])) ?_
    simpa [mkI] using hq rows us H
   | cons x r ihr =>
    intro D k i n rows us hz hi hn H c hc Q hq
    refine ALoopU.opnAt 1 (List.flatten (List.map cI D)) (cI x) (List.flatten (List.map cI r)) rfl (by simp) ?_
    intro hs vs UA UC hl ho hlt hU hlA
    have hs0 : hs = [] := List.length_eq_zero_iff.1 (by simpa using hl)
    subst hs0
    have hv : vs = [.int .i64 x] := by apply lits_inj; rw [← hlt]; simp
    subst hv hU
    have hUA : UA.length = i * 1 := by rw [hlA, flatc_len cI_len, hi]
    have hin : i < n := by simp at hn; omega
    have hrow : rows[i]? = some [.lit (.int .i64 x)] := by simpa using H.at hin rfl hUA rfl
    have hne : ¬ rows = [] := by intro e; rw [e] at hrow; simp at hrow
    have hrl := RW.len H
    have hrow' : ∀ (h : i < rows.length), rows[i] = [.lit (.int .i64 x)] := fun h => by rw [List.getElem?_eq_getElem h] at hrow; exact Option.some.inj hrow
    have hset : ∀ a, (rows.set i a)[i]? = some a := fun a => List.getElem?_set_self (by omega)
    clear hlt
    refine ALoopU.know fun hk hs => ?_
    have d0 := hs 0 _ rfl
    simp -dsimp [Blk.bnd] at d0
    clear hk hs
    obtain rfl : c = _ := navEq hc rfl
    have w1 : IntKind.i64.wrap ((i : Int) + 1) = (i : Int) + 1 := wrap_in (by omega) (by omega)
    refine ALoopU.enter ?_
    repeat (first | refine chk.ga ?_ | simp -dsimp [hne, hrow, hrow', hset, hrl, hin, w1, List.set_set])
    refine Again.go ⟨[(0, .own 0 n), (1, .lit (.int .i64 (IntKind.i64.wrap (k + 1)))), (5, .lit (.int .i64 ((i + 1 : Nat) : Int)))], [.elems 1 (rows.set i [.lit (.int .i64 k)]), .pack (List.flatten (List.map cI ((D ++ [k]) ++ r))) (UA ++ ([.int .i64 k] ++ UC))]⟩
     (by refine Gh.trans (Gh.setAt 1 [] (XA := List.flatten (List.map cI D)) (old := [.lit (.int .i64 x)]) (XC := List.flatten (List.map cI r)) (UA := UA) (uo := [.int .i64 x]) (UC := UC) (by exact rfl) (by simp) (by simp) hlA rfl (.lit (.int .i64 k) .nil) (by decide)) ?_; exact Gh.to3 (by simp) (by simp -dsimp [RW.closed H])) ?_
    have he : mkI (x :: r) k = (k :: (mkI r (IntKind.i64.wrap (k + 1))).1, (mkI r (IntKind.i64.wrap (k + 1))).2) := by rfl
    rw [he] at hq
    refine ihr (D ++ [k]) _ (i + 1) n _ _ (fun y hy => hz y (List.mem_cons_of_mem _ hy)) (by simp [hi]) (by simp at hn; omega) (by simpa using H.setAt hin hUA rfl [.int .i64 k] rfl) _ rfl _ fun R U hR => ?_
    simpa using hq R U hR
  refine MCall.enter 1 Try.func110 (by kernel_rfl) rfl Try.ntmps110 (by simp) (by simp [mkI_len]) (fun e he => by obtain ⟨x, _, rfl⟩ := List.mem_map.1 he; exact cI_len x) ?_ ?_
  ·intro he
   have he : a0 = [] := by simpa using he
   subst he
   repeat (first | refine chk.ga ?_ | simp -dsimp)
   refine ALoop.goU ⟨[(0, .arr []), (1, .lit (.int .i64 k0)), (5, .lit (.int .i64 0))], []⟩ (Gh.to3 (by simp) (by simp -dsimp)) ?_
   refine ALoopU.enter ?_
   repeat (first | refine chk.ga ?_ | simp -dsimp)
   refine Leave.go _ (Gh.refl _) ?_
   repeat (first | refine chk.ga ?_ | simp -dsimp)
   all_goals (try simp [mkI])
  ·intro hne rows us e1 e2 e3 e4
   have H : RW 1 a0.length rows us := ⟨by simpa using e2, e3, e1⟩
   repeat (first | refine chk.ga ?_ | simp -dsimp)
   refine ALoop.goU ⟨[(0, .own 0 a0.length), (1, .lit (.int .i64 k0)), (5, .lit (.int .i64 ((0 : Nat) : Int)))], [.elems 1 rows, .pack (List.flatten (List.map cI ([] ++ a0))) us]⟩ (Gh.to3 (by simp) (by simp -dsimp [RW.closed H])) ?_
   refine loop a0 [] k0 0 a0.length rows us hz0 rfl (by simp) H _ rfl _ ?_
   intro R U hR
   repeat (first | refine chk.ga ?_ | simp -dsimp)
   exact ⟨rfl, R, U, rfl, ⟨1, by simp⟩, hR.2.2, by rw [hR.1]; simp [mkI_len], fun x hx => by obtain ⟨y, _, rfl⟩ := List.mem_map.1 hx; exact cI_len y⟩

theorem C.laws_markIntS (a : List Int) (k : Int) (v : List Int × Int) (hF : F.laws_markIntS a k = some v) : MCall Try.prog B 110 (List.map cI a) [.int .i64 k] (List.map cI v.1) (.int .i64 v.2) := by
 obtain rfl := Option.some.inj hF
 exact (CM.laws_markIntS B hB1 hB2 (SizeOf.sizeOf a + 1)) a k (Nat.lt_succ_self _)

theorem CM.laws_markIntSS : ∀ m : Nat, (∀ (a : List (List Int)) (k : Int), SizeOf.sizeOf a < m → MCall Try.prog B 50 (List.map (cL cI) a) [.int .i64 k] (List.map (cL cI) (mkII a k).1) (.int .i64 (mkII a k).2)) := by
 intro m
 induction m with
 | zero => exact fun a k h => absurd h (Nat.not_lt_zero _)
 | succ m ih =>
  intro a0 k0 hm
  have hz0 : ∀ x, x ∈ a0 → SizeOf.sizeOf x < m := fun x hx => by have := List.sizeOf_lt_of_mem hx; omega
  have loop : ∀ (rest D : List (List Int)) (k : Int) (i n : Nat) (rows : List (List AV)) (us : List Go.Value), (∀ x, x ∈ rest → SizeOf.sizeOf x < m) → i = D.length → n = i + rest.length → RW 1 n rows us →
    ∀ (c : Code), navO [1, 0, 1, 0, 0] (bodyOf Try.f50) = some c → ∀ (Q : Exit → ASt → Prop),
    (∀ (R : List (List AV)) (U : List Go.Value), RW 1 n R U → Q (.exit 0) ⟨[(1, .lit (.int .i64 (mkII rest k).2))], [.elems 1 R, .pack (List.flatten (List.map (cL cI) (D ++ (mkII rest k).1))) U]⟩) →
    ALoopU Try.prog B 2 19 (hold c .mk) ⟨[(0, .own 0 n), (1, .lit (.int .i64 k)), (5, .lit (.int .i64 (i : Int)))], [.elems 1 rows, .pack (List.flatten (List.map (cL cI) (D ++ rest))) us]⟩ (hold Q .mk) := by
   intro rest
   induction rest with
   | nil =>
    intro D k i n rows us hz hi hn H c hc Q hq
    obtain rfl : c = _ := navEq hc rfl
    have hn' : n = i := by simpa using hn
    subst hn'
    refine ALoopU.enter ?_
    repeat (first | refine chk.ga ?_ | simp -dsimp [RW.len H])
    refine Leave.go ⟨[(1, .lit (.int .i64 k))], [.elems 1 rows, .pack (List.flatten (List.map (cL cI) D)) us]⟩ (Gh.to3 (by simp) (by simp -dsimp [RW.closed H])) ?_
    simpa [mkII] using hq rows us H
   | cons x r ihr =>
    intro D k i n rows us hz hi hn H c hc Q hq
    refine ALoopU.opnAt1 1 (List.flatten (List.map (cL cI) D)) ((cL cI) x) (List.flatten (List.map (cL cI) r)) rfl (by simp) (by simp) ?_
    intro h1 vs UA UC o_h1 hlt hU hlA
    have hv : vs = [h1] := by apply lits_inj; rw [← hlt]; simp
    subst hv hU
    have hUA : UA.length = i * 1 := by rw [hlA, flatc_len cLI_len, hi]
    have hin : i < n := by simp at hn; omega
    have hrow : rows[i]? = some [.lit h1] := by simpa using H.at hin rfl hUA rfl
    have hne : ¬ rows = [] := by intro e; rw [e] at hrow; simp at hrow
    have hrl := RW.len H
    have hrow' : ∀ (h : i < rows.length), rows[i] = [.lit h1] := fun h => by rw [List.getElem?_eq_getElem h] at hrow; exact Option.some.inj hrow
    have hset : ∀ a, (rows.set i a)[i]? = some a := fun a => List.getElem?_set_self (by omega)
    clear hlt
    refine ALoopU.know fun hk hs => ?_
    have d0 := hs 0 _ rfl
    simp -dsimp [Blk.bnd] at d0
    clear hk hs
    obtain rfl : c = _ := navEq hc rfl
    have w1 : IntKind.i64.wrap ((i : Int) + 1) = (i : Int) + 1 := wrap_in (by omega) (by omega)
    refine ALoopU.enter ?_
    repeat (first | refine chk.ga ?_ | simp -dsimp [hne, hrow, hrow', hset, hrl, hin, w1, List.set_set, o_h1])
    refine (C.laws_markIntS B hB1 hB2 x k _ rfl).go 2 rfl (by simp) ?_
    repeat (first | refine chk.ga ?_ | simp -dsimp [hne, hrow, hrow', hset, hrl, hin, w1, List.set_set, o_h1])
    have hself : rows.set i [.lit h1] = rows := by have h2 := hrow' (by omega); rw [← h2]; exact List.set_getElem_self _
    refine Again.go ⟨[(0, .own 0 n), (1, .lit (.int .i64 ((mkI x k).2))), (5, .lit (.int .i64 ((i + 1 : Nat) : Int)))], [.elems 1 (rows.set i [.lit h1]), .pack (List.flatten (List.map (cL cI) ((D ++ [(mkI x k).1]) ++ r))) (UA ++ ([h1] ++ UC))]⟩
     (by refine Gh.trans (Gh.setAt 1 [2] (XA := List.flatten (List.map (cL cI) D)) (old := [.lit h1]) (XC := List.flatten (List.map (cL cI) r)) (UA := UA) (uo := [h1]) (UC := UC) (by exact rfl) (by simp) (by simp) hlA rfl (.pk 2 (by exact rfl) .nil) (by decide)) ?_; exact Gh.to3 (by simp) (by simp -dsimp [RW.closed H, hself])) ?_
    have he : mkII (x :: r) k = ((mkI x k).1 :: (mkII r ((mkI x k).2)).1, (mkII r ((mkI x k).2)).2) := by rfl
    rw [he] at hq
    refine ihr (D ++ [(mkI x k).1]) _ (i + 1) n _ _ (fun y hy => hz y (List.mem_cons_of_mem _ hy)) (by simp [hi]) (by simp at hn; omega) (by simpa using H.setAt hin hUA rfl [h1] rfl) _ rfl _ fun R U hR => ?_
    simpa using hq R U hR
  refine MCall.enter 1 Try.func50 (by kernel_rfl) rfl Try.ntmps50 (by simp) (by simp [mkII_len]) (fun e he => by obtain ⟨x, _, rfl⟩ := List.mem_map.1 he; exact cLI_len x) ?_ ?_
  ·intro he
   have he : a0 = [] := by simpa using he
   subst he
   repeat (first | refine chk.ga ?_ | simp -dsimp)
   refine ALoop.goU ⟨[(0, .arr []), (1, .lit (.int .i64 k0)), (5, .lit (.int .i64 0))], []⟩ (Gh.to3 (by simp) (by simp -dsimp)) ?_
   refine ALoopU.enter ?_
   repeat (first | refine chk.ga ?_ | simp -dsimp)
   refine Leave.go _ (Gh.refl _) ?_
   repeat (first | refine chk.ga ?_ | simp -dsimp)
   all_goals (try simp [mkII])
  ·intro hne rows us e1 e2 e3 e4
   have H : RW 1 a0.length rows us := ⟨by simpa using e2, e3, e1⟩
   repeat (first | refine chk.ga ?_ | simp -dsimp)
   refine ALoop.goU ⟨[(0, .own 0 a0.length), (1, .lit (.int .i64 k0)), (5, .lit (.int .i64 ((0 : Nat) : Int)))], [.elems 1 rows, .pack (List.flatten (List.map (cL cI) ([] ++ a0))) us]⟩ (Gh.to3 (by simp) (by simp -dsimp [RW.closed H])) ?_
   refine loop a0 [] k0 0 a0.length rows us hz0 rfl (by simp) H _ rfl _ ?_
   intro R U hR
   repeat (first | refine chk.ga ?_ | simp -dsimp)
   exact ⟨rfl, R, U, rfl, ⟨1, by simp⟩, hR.2.2, by rw [hR.1]; simp [mkII_len], fun x hx => by obtain ⟨y, _, rfl⟩ := List.mem_map.1 hx; exact cLI_len y⟩

theorem C.laws_markIntSS (a : List (List Int)) (k : Int) (v : List (List Int) × Int) (hF : F.laws_markIntSS a k = some v) : MCall Try.prog B 50 (List.map (cL cI) a) [.int .i64 k] (List.map (cL cI) v.1) (.int .i64 v.2) := by
 obtain rfl := Option.some.inj hF
 exact (CM.laws_markIntSS B hB1 hB2 (SizeOf.sizeOf a + 1)) a k (Nat.lt_succ_self _)

theorem CM.laws_markTypeS : ∀ m : Nat, (∀ (a : List Vl.Ty) (k : Int), SizeOf.sizeOf a < m → MCall Try.prog B 148 (List.map Vl.Ty.c a) [.int .i64 k] (List.map Vl.Ty.c (Vl.Ty.mkL a k).1) (.int .i64 (Vl.Ty.mkL a k).2)) := by
 intro m
 induction m with
 | zero => exact fun a k h => absurd h (Nat.not_lt_zero _)
 | succ m ih =>
  intro a0 k0 hm
  have hz0 : ∀ x, x ∈ a0 → SizeOf.sizeOf x < m := fun x hx => by have := List.sizeOf_lt_of_mem hx; omega
  have loop : ∀ (rest D : List Vl.Ty) (k : Int) (i n : Nat) (rows : List (List AV)) (us : List Go.Value), (∀ x, x ∈ rest → SizeOf.sizeOf x < m) → i = D.length → n = i + rest.length → RW 2 n rows us →
    ∀ (c : Code), navO [1, 0, 1, 0, 0] (bodyOf Try.f148) = some c → ∀ (Q : Exit → ASt → Prop),
    (∀ (R : List (List AV)) (U : List Go.Value), RW 2 n R U → Q (.exit 0) ⟨[(1, .lit (.int .i64 (Vl.Ty.mkL rest k).2))], [.elems 2 R, .pack (List.flatten (List.map Vl.Ty.c (D ++ (Vl.Ty.mkL rest k).1))) U]⟩) →
    ALoopU Try.prog B 2 27 (hold c .mk) ⟨[(0, .own 0 n), (1, .lit (.int .i64 k)), (5, .lit (.int .i64 (i : Int)))], [.elems 2 rows, .pack (List.flatten (List.map Vl.Ty.c (D ++ rest))) us]⟩ (hold Q .mk) := by
   intro rest
   induction rest with
   | nil =>
    intro D k i n rows us hz hi hn H c hc Q hq
    obtain rfl : c = _ := navEq hc rfl
    have hn' : n = i := by simpa using hn
    subst hn'
    refine ALoopU.enter ?_
    repeat (first | refine chk.ga ?_ | simp -dsimp [RW.len H])
    refine Leave.go ⟨[(1, .lit (.int .i64 k))], [.elems 2 rows, .pack (List.flatten (List.map Vl.Ty.c D)) us]⟩ (Gh.to3 (by simp) (by simp -dsimp [RW.closed H])) ?_
    simpa [Vl.Ty.mkL] using hq rows us H
   | cons x r ihr =>
    intro D k i n rows us hz hi hn H c hc Q hq
    refine ALoopU.opnAt 1 (List.flatten (List.map Vl.Ty.c D)) (Vl.Ty.c x) (List.flatten (List.map Vl.Ty.c r)) rfl (by simp) ?_
    intro hs vs UA UC hl ho hlt hU hlA
    have hs0 : hs = [] := List.length_eq_zero_iff.1 (by simpa using hl)
    subst hs0
    have hv : vs = [.int .i64 x.data, .int .i64 x.index] := by apply lits_inj; rw [← hlt]; simp
    subst hv hU
    have hUA : UA.length = i * 2 := by rw [hlA, flatc_len Vl.Ty.c_len, hi]
    have hin : i < n := by simp at hn; omega
    have hrow : rows[i]? = some [.lit (.int .i64 x.data), .lit (.int .i64 x.index)] := by simpa using H.at hin rfl hUA rfl
    have hne : ¬ rows = [] := by intro e; rw [e] at hrow; simp at hrow
    have hrl := RW.len H
    have hrow' : ∀ (h : i < rows.length), rows[i] = [.lit (.int .i64 x.data), .lit (.int .i64 x.index)] := fun h => by rw [List.getElem?_eq_getElem h] at hrow; exact Option.some.inj hrow
    have hset : ∀ a, (rows.set i a)[i]? = some a := fun a => List.getElem?_set_self (by omega)
    clear hlt
    refine ALoopU.know fun hk hs => ?_
    have d0 := hs 0 _ rfl
    simp -dsimp [Blk.bnd] at d0
    clear hk hs
    obtain rfl : c = _ := navEq hc rfl
    have w1 : IntKind.i64.wrap ((i : Int) + 1) = (i : Int) + 1 := wrap_in (by omega) (by omega)
    refine ALoopU.enter ?_
    repeat (first | refine chk.ga ?_ | simp -dsimp [hne, hrow, hrow', hset, hrl, hin, w1, List.set_set])
    refine Again.go ⟨[(0, .own 0 n), (1, .lit (.int .i64 (IntKind.i64.wrap ((IntKind.i64.wrap (k + 1)) + 1)))), (5, .lit (.int .i64 ((i + 1 : Nat) : Int)))], [.elems 2 (rows.set i [.lit (.int .i64 k), .lit (.int .i64 (IntKind.i64.wrap (k + 1)))]), .pack (List.flatten (List.map Vl.Ty.c ((D ++ [(⟨k, IntKind.i64.wrap (k + 1)⟩ : Vl.Ty)]) ++ r))) (UA ++ ([.int .i64 k, .int .i64 (IntKind.i64.wrap (k + 1))] ++ UC))]⟩
     (by refine Gh.trans (Gh.setAt 1 [] (XA := List.flatten (List.map Vl.Ty.c D)) (old := [.lit (.int .i64 x.data), .lit (.int .i64 x.index)]) (XC := List.flatten (List.map Vl.Ty.c r)) (UA := UA) (uo := [.int .i64 x.data, .int .i64 x.index]) (UC := UC) (by exact rfl) (by simp) (by simp) hlA rfl (.lit (.int .i64 k) (.lit (.int .i64 (IntKind.i64.wrap (k + 1))) .nil)) (by decide)) ?_; exact Gh.to3 (by simp) (by simp -dsimp [RW.closed H])) ?_
    have he : Vl.Ty.mkL (x :: r) k = ((⟨k, IntKind.i64.wrap (k + 1)⟩ : Vl.Ty) :: (Vl.Ty.mkL r (IntKind.i64.wrap ((IntKind.i64.wrap (k + 1)) + 1))).1, (Vl.Ty.mkL r (IntKind.i64.wrap ((IntKind.i64.wrap (k + 1)) + 1))).2) := by (first | rfl | (cases x; simp [Vl.Ty.mkL, Vl.Ty.mkE]))
    rw [he] at hq
    refine ihr (D ++ [(⟨k, IntKind.i64.wrap (k + 1)⟩ : Vl.Ty)]) _ (i + 1) n _ _ (fun y hy => hz y (List.mem_cons_of_mem _ hy)) (by simp [hi]) (by simp at hn; omega) (by simpa using H.setAt hin hUA rfl [.int .i64 k, .int .i64 (IntKind.i64.wrap (k + 1))] rfl) _ rfl _ fun R U hR => ?_
    simpa using hq R U hR
  refine MCall.enter 2 Try.func148 (by kernel_rfl) rfl Try.ntmps148 (by simp) (by simp [Vl.Ty.mkL_len]) (fun e he => by obtain ⟨x, _, rfl⟩ := List.mem_map.1 he; exact Vl.Ty.c_len x) ?_ ?_
  ·intro he
   have he : a0 = [] := by simpa using he
   subst he
   repeat (first | refine chk.ga ?_ | simp -dsimp)
   refine ALoop.goU ⟨[(0, .arr []), (1, .lit (.int .i64 k0)), (5, .lit (.int .i64 0))], []⟩ (Gh.to3 (by simp) (by simp -dsimp)) ?_
   refine ALoopU.enter ?_
   repeat (first | refine chk.ga ?_ | simp -dsimp)
   refine Leave.go _ (Gh.refl _) ?_
   repeat (first | refine chk.ga ?_ | simp -dsimp)
   all_goals (try simp [Vl.Ty.mkL])
  ·intro hne rows us e1 e2 e3 e4
   have H : RW 2 a0.length rows us := ⟨by simpa using e2, e3, e1⟩
   repeat (first | refine chk.ga ?_ | simp -dsimp)
   refine ALoop.goU ⟨[(0, .own 0 a0.length), (1, .lit (.int .i64 k0)), (5, .lit (.int .i64 ((0 : Nat) : Int)))], [.elems 2 rows, .pack (List.flatten (List.map Vl.Ty.c ([] ++ a0))) us]⟩ (Gh.to3 (by simp) (by simp -dsimp [RW.closed H])) ?_
   refine loop a0 [] k0 0 a0.length rows us hz0 rfl (by simp) H _ rfl _ ?_
   intro R U hR
   repeat (first | refine chk.ga ?_ | simp -dsimp)
   exact ⟨rfl, R, U, rfl, ⟨1, by simp⟩, hR.2.2, by rw [hR.1]; simp [Vl.Ty.mkL_len], fun x hx => by obtain ⟨y, _, rfl⟩ := List.mem_map.1 hx; exact Vl.Ty.c_len y⟩

theorem C.laws_markTypeS (a : List Vl.Ty) (k : Int) (v : List Vl.Ty × Int) (hF : F.laws_markTypeS a k = some v) : MCall Try.prog B 148 (List.map Vl.Ty.c a) [.int .i64 k] (List.map Vl.Ty.c v.1) (.int .i64 v.2) := by
 obtain rfl := Option.some.inj hF
 exact (CM.laws_markTypeS B hB1 hB2 (SizeOf.sizeOf a + 1)) a k (Nat.lt_succ_self _)

theorem CM.laws_markCtorS : ∀ m : Nat, (∀ (a : List Vl.Ctor) (k : Int), SizeOf.sizeOf a < m → MCall Try.prog B 99 (List.map Vl.Ctor.c a) [.int .i64 k] (List.map Vl.Ctor.c (Vl.Ctor.mkL mtF a k).1) (.int .i64 (Vl.Ctor.mkL mtF a k).2)) := by
 intro m
 induction m with
 | zero => exact fun a k h => absurd h (Nat.not_lt_zero _)
 | succ m ih =>
  intro a0 k0 hm
  have hz0 : ∀ x, x ∈ a0 → SizeOf.sizeOf x < m := fun x hx => by have := List.sizeOf_lt_of_mem hx; omega
  have loop : ∀ (rest D : List Vl.Ctor) (k : Int) (i n : Nat) (rows : List (List AV)) (us : List Go.Value), (∀ x, x ∈ rest → SizeOf.sizeOf x < m) → i = D.length → n = i + rest.length → RW 3 n rows us →
    ∀ (c : Code), navO [1, 0, 1, 0, 0] (bodyOf Try.f99) = some c → ∀ (Q : Exit → ASt → Prop),
    (∀ (R : List (List AV)) (U : List Go.Value), RW 3 n R U → Q (.exit 0) ⟨[(1, .lit (.int .i64 (Vl.Ctor.mkL mtF rest k).2))], [.elems 3 R, .pack (List.flatten (List.map Vl.Ctor.c (D ++ (Vl.Ctor.mkL mtF rest k).1))) U]⟩) →
    ALoopU Try.prog B 2 35 (hold c .mk) ⟨[(0, .own 0 n), (1, .lit (.int .i64 k)), (5, .lit (.int .i64 (i : Int)))], [.elems 3 rows, .pack (List.flatten (List.map Vl.Ctor.c (D ++ rest))) us]⟩ (hold Q .mk) := by
   intro rest
   induction rest with
   | nil =>
    intro D k i n rows us hz hi hn H c hc Q hq
    obtain rfl : c = _ := navEq hc rfl
    have hn' : n = i := by simpa using hn
    subst hn'
    refine ALoopU.enter ?_
    repeat (first | refine chk.ga ?_ | simp -dsimp [RW.len H])
    refine Leave.go ⟨[(1, .lit (.int .i64 k))], [.elems 3 rows, .pack (List.flatten (List.map Vl.Ctor.c D)) us]⟩ (Gh.to3 (by simp) (by simp -dsimp [RW.closed H])) ?_
    simpa [Vl.Ctor.mkL] using hq rows us H
   | cons x r ihr =>
    intro D k i n rows us hz hi hn H c hc Q hq
    refine ALoopU.opnAt1 1 (List.flatten (List.map Vl.Ctor.c D)) (Vl.Ctor.c x) (List.flatten (List.map Vl.Ctor.c r)) rfl (by simp) (by simp) ?_
    intro h1 vs UA UC o_h1 hlt hU hlA
    have hv : vs = [.string x.name, h1, .int .i64 x.index] := by apply lits_inj; rw [← hlt]; simp
    subst hv hU
    have hUA : UA.length = i * 3 := by rw [hlA, flatc_len Vl.Ctor.c_len, hi]
    have hin : i < n := by simp at hn; omega
    have hrow : rows[i]? = some [.lit (.string x.name), .lit h1, .lit (.int .i64 x.index)] := by simpa using H.at hin rfl hUA rfl
    have hne : ¬ rows = [] := by intro e; rw [e] at hrow; simp at hrow
    have hrl := RW.len H
    have hrow' : ∀ (h : i < rows.length), rows[i] = [.lit (.string x.name), .lit h1, .lit (.int .i64 x.index)] := fun h => by rw [List.getElem?_eq_getElem h] at hrow; exact Option.some.inj hrow
    have hset : ∀ a, (rows.set i a)[i]? = some a := fun a => List.getElem?_set_self (by omega)
    clear hlt
    refine ALoopU.know fun hk hs => ?_
    have d0 := hs 0 _ rfl
    simp -dsimp [Blk.bnd] at d0
    clear hk hs
    obtain rfl : c = _ := navEq hc rfl
    have w1 : IntKind.i64.wrap ((i : Int) + 1) = (i : Int) + 1 := wrap_in (by omega) (by omega)
    refine ALoopU.enter ?_
    repeat (first | refine chk.ga ?_ | simp -dsimp [hne, hrow, hrow', hset, hrl, hin, w1, List.set_set, o_h1])
    refine (C.laws_markText B hB1 hB2 k _ (mtF_eq k)).goW (by simp) (by simp) ?_
    repeat (first | refine chk.ga ?_ | simp -dsimp [hne, hrow, hrow', hset, hrl, hin, w1, List.set_set, o_h1])
    refine (C.laws_markTypeS B hB1 hB2 x.args (IntKind.i64.wrap (k + 1)) _ rfl).go 2 rfl (by simp) ?_
    repeat (first | refine chk.ga ?_ | simp -dsimp [hne, hrow, hrow', hset, hrl, hin, w1, List.set_set, o_h1])
    refine Again.go ⟨[(0, .own 0 n), (1, .lit (.int .i64 (IntKind.i64.wrap (((Vl.Ty.mkL x.args (IntKind.i64.wrap (k + 1))).2) + 1)))), (5, .lit (.int .i64 ((i + 1 : Nat) : Int)))], [.elems 3 (rows.set i [.lit (.string (mtF k)), .lit h1, .lit (.int .i64 ((Vl.Ty.mkL x.args (IntKind.i64.wrap (k + 1))).2))]), .pack (List.flatten (List.map Vl.Ctor.c ((D ++ [(⟨mtF k, (Vl.Ty.mkL x.args (IntKind.i64.wrap (k + 1))).1, (Vl.Ty.mkL x.args (IntKind.i64.wrap (k + 1))).2⟩ : Vl.Ctor)]) ++ r))) (UA ++ ([.string (mtF k), h1, .int .i64 ((Vl.Ty.mkL x.args (IntKind.i64.wrap (k + 1))).2)] ++ UC))]⟩
     (by refine Gh.trans (Gh.setAt 1 [2] (XA := List.flatten (List.map Vl.Ctor.c D)) (old := [.lit (.string x.name), .lit h1, .lit (.int .i64 x.index)]) (XC := List.flatten (List.map Vl.Ctor.c r)) (UA := UA) (uo := [.string x.name, h1, .int .i64 x.index]) (UC := UC) (by exact rfl) (by simp) (by simp) hlA rfl (.lit (.string (mtF k)) (.pk 2 (by exact rfl) (.lit (.int .i64 ((Vl.Ty.mkL x.args (IntKind.i64.wrap (k + 1))).2)) .nil))) (by decide)) ?_; exact Gh.to3 (by simp) (by simp -dsimp [RW.closed H])) ?_
    have he : Vl.Ctor.mkL mtF (x :: r) k = ((⟨mtF k, (Vl.Ty.mkL x.args (IntKind.i64.wrap (k + 1))).1, (Vl.Ty.mkL x.args (IntKind.i64.wrap (k + 1))).2⟩ : Vl.Ctor) :: (Vl.Ctor.mkL mtF r (IntKind.i64.wrap (((Vl.Ty.mkL x.args (IntKind.i64.wrap (k + 1))).2) + 1))).1, (Vl.Ctor.mkL mtF r (IntKind.i64.wrap (((Vl.Ty.mkL x.args (IntKind.i64.wrap (k + 1))).2) + 1))).2) := by (first | rfl | (cases x; simp [Vl.Ctor.mkL, Vl.Ctor.mkE]))
    rw [he] at hq
    refine ihr (D ++ [(⟨mtF k, (Vl.Ty.mkL x.args (IntKind.i64.wrap (k + 1))).1, (Vl.Ty.mkL x.args (IntKind.i64.wrap (k + 1))).2⟩ : Vl.Ctor)]) _ (i + 1) n _ _ (fun y hy => hz y (List.mem_cons_of_mem _ hy)) (by simp [hi]) (by simp at hn; omega) (by simpa using H.setAt hin hUA rfl [.string (mtF k), h1, .int .i64 ((Vl.Ty.mkL x.args (IntKind.i64.wrap (k + 1))).2)] rfl) _ rfl _ fun R U hR => ?_
    simpa using hq R U hR
  refine MCall.enter 3 Try.func99 (by kernel_rfl) rfl Try.ntmps99 (by simp) (by simp [Vl.Ctor.mkL_len]) (fun e he => by obtain ⟨x, _, rfl⟩ := List.mem_map.1 he; exact Vl.Ctor.c_len x) ?_ ?_
  ·intro he
   have he : a0 = [] := by simpa using he
   subst he
   repeat (first | refine chk.ga ?_ | simp -dsimp)
   refine ALoop.goU ⟨[(0, .arr []), (1, .lit (.int .i64 k0)), (5, .lit (.int .i64 0))], []⟩ (Gh.to3 (by simp) (by simp -dsimp)) ?_
   refine ALoopU.enter ?_
   repeat (first | refine chk.ga ?_ | simp -dsimp)
   refine Leave.go _ (Gh.refl _) ?_
   repeat (first | refine chk.ga ?_ | simp -dsimp)
   all_goals (try simp [Vl.Ctor.mkL])
  ·intro hne rows us e1 e2 e3 e4
   have H : RW 3 a0.length rows us := ⟨by simpa using e2, e3, e1⟩
   repeat (first | refine chk.ga ?_ | simp -dsimp)
   refine ALoop.goU ⟨[(0, .own 0 a0.length), (1, .lit (.int .i64 k0)), (5, .lit (.int .i64 ((0 : Nat) : Int)))], [.elems 3 rows, .pack (List.flatten (List.map Vl.Ctor.c ([] ++ a0))) us]⟩ (Gh.to3 (by simp) (by simp -dsimp [RW.closed H])) ?_
   refine loop a0 [] k0 0 a0.length rows us hz0 rfl (by simp) H _ rfl _ ?_
   intro R U hR
   repeat (first | refine chk.ga ?_ | simp -dsimp)
   exact ⟨rfl, R, U, rfl, ⟨1, by simp⟩, hR.2.2, by rw [hR.1]; simp [Vl.Ctor.mkL_len], fun x hx => by obtain ⟨y, _, rfl⟩ := List.mem_map.1 hx; exact Vl.Ctor.c_len y⟩

theorem C.laws_markCtorS (a : List Vl.Ctor) (k : Int) (v : List Vl.Ctor × Int) (hF : F.laws_markCtorS a k = some v) : MCall Try.prog B 99 (List.map Vl.Ctor.c a) [.int .i64 k] (List.map Vl.Ctor.c v.1) (.int .i64 v.2) := by
 obtain rfl := Option.some.inj hF
 exact (CM.laws_markCtorS B hB1 hB2 (SizeOf.sizeOf a + 1)) a k (Nat.lt_succ_self _)

theorem CM.laws_markDataS : ∀ m : Nat, (∀ (a : List Vl.Data) (k : Int), SizeOf.sizeOf a < m → MCall Try.prog B 41 (List.map Vl.Data.c a) [.int .i64 k] (List.map Vl.Data.c (Vl.Data.mkL mtF a k).1) (.int .i64 (Vl.Data.mkL mtF a k).2)) := by
 intro m
 induction m with
 | zero => exact fun a k h => absurd h (Nat.not_lt_zero _)
 | succ m ih =>
  intro a0 k0 hm
  have hz0 : ∀ x, x ∈ a0 → SizeOf.sizeOf x < m := fun x hx => by have := List.sizeOf_lt_of_mem hx; omega
  have loop : ∀ (rest D : List Vl.Data) (k : Int) (i n : Nat) (rows : List (List AV)) (us : List Go.Value), (∀ x, x ∈ rest → SizeOf.sizeOf x < m) → i = D.length → n = i + rest.length → RW 2 n rows us →
    ∀ (c : Code), navO [1, 0, 1, 0, 0] (bodyOf Try.f41) = some c → ∀ (Q : Exit → ASt → Prop),
    (∀ (R : List (List AV)) (U : List Go.Value), RW 2 n R U → Q (.exit 0) ⟨[(1, .lit (.int .i64 (Vl.Data.mkL mtF rest k).2))], [.elems 2 R, .pack (List.flatten (List.map Vl.Data.c (D ++ (Vl.Data.mkL mtF rest k).1))) U]⟩) →
    ALoopU Try.prog B 2 28 (hold c .mk) ⟨[(0, .own 0 n), (1, .lit (.int .i64 k)), (5, .lit (.int .i64 (i : Int)))], [.elems 2 rows, .pack (List.flatten (List.map Vl.Data.c (D ++ rest))) us]⟩ (hold Q .mk) := by
   intro rest
   induction rest with
   | nil =>
    intro D k i n rows us hz hi hn H c hc Q hq
    obtain rfl : c = _ := navEq hc rfl
    have hn' : n = i := by simpa using hn
    subst hn'
    refine ALoopU.enter ?_
    repeat (first | refine chk.ga ?_ | simp -dsimp [RW.len H])
    refine Leave.go ⟨[(1, .lit (.int .i64 k))], [.elems 2 rows, .pack (List.flatten (List.map Vl.Data.c D)) us]⟩ (Gh.to3 (by simp) (by simp -dsimp [RW.closed H])) ?_
    simpa [Vl.Data.mkL] using hq rows us H
   | cons x r ihr =>
    intro D k i n rows us hz hi hn H c hc Q hq
    refine ALoopU.opnAt1 1 (List.flatten (List.map Vl.Data.c D)) (Vl.Data.c x) (List.flatten (List.map Vl.Data.c r)) rfl (by simp) (by simp) ?_
    intro h1 vs UA UC o_h1 hlt hU hlA
    have hv : vs = [.string x.name, h1] := by apply lits_inj; rw [← hlt]; simp
    subst hv hU
    have hUA : UA.length = i * 2 := by rw [hlA, flatc_len Vl.Data.c_len, hi]
    have hin : i < n := by simp at hn; omega
    have hrow : rows[i]? = some [.lit (.string x.name), .lit h1] := by simpa using H.at hin rfl hUA rfl
    have hne : ¬ rows = [] := by intro e; rw [e] at hrow; simp at hrow
    have hrl := RW.len H
    have hrow' : ∀ (h : i < rows.length), rows[i] = [.lit (.string x.name), .lit h1] := fun h => by rw [List.getElem?_eq_getElem h] at hrow; exact Option.some.inj hrow
    have hset : ∀ a, (rows.set i a)[i]? = some a := fun a => List.getElem?_set_self (by omega)
    clear hlt
    refine ALoopU.know fun hk hs => ?_
    have d0 := hs 0 _ rfl
    simp -dsimp [Blk.bnd] at d0
    clear hk hs
    obtain rfl : c = _ := navEq hc rfl
    have w1 : IntKind.i64.wrap ((i : Int) + 1) = (i : Int) + 1 := wrap_in (by omega) (by omega)
    refine ALoopU.enter ?_
    repeat (first | refine chk.ga ?_ | simp -dsimp [hne, hrow, hrow', hset, hrl, hin, w1, List.set_set, o_h1])
    refine (C.laws_markText B hB1 hB2 k _ (mtF_eq k)).goW (by simp) (by simp) ?_
    repeat (first | refine chk.ga ?_ | simp -dsimp [hne, hrow, hrow', hset, hrl, hin, w1, List.set_set, o_h1])
    refine (C.laws_markCtorS B hB1 hB2 x.ctors (IntKind.i64.wrap (k + 1)) _ rfl).go 2 rfl (by simp) ?_
    repeat (first | refine chk.ga ?_ | simp -dsimp [hne, hrow, hrow', hset, hrl, hin, w1, List.set_set, o_h1])
    refine Again.go ⟨[(0, .own 0 n), (1, .lit (.int .i64 ((Vl.Ctor.mkL mtF x.ctors (IntKind.i64.wrap (k + 1))).2))), (5, .lit (.int .i64 ((i + 1 : Nat) : Int)))], [.elems 2 (rows.set i [.lit (.string (mtF k)), .lit h1]), .pack (List.flatten (List.map Vl.Data.c ((D ++ [(⟨mtF k, (Vl.Ctor.mkL mtF x.ctors (IntKind.i64.wrap (k + 1))).1⟩ : Vl.Data)]) ++ r))) (UA ++ ([.string (mtF k), h1] ++ UC))]⟩
     (by refine Gh.trans (Gh.setAt 1 [2] (XA := List.flatten (List.map Vl.Data.c D)) (old := [.lit (.string x.name), .lit h1]) (XC := List.flatten (List.map Vl.Data.c r)) (UA := UA) (uo := [.string x.name, h1]) (UC := UC) (by exact rfl) (by simp) (by simp) hlA rfl (.lit (.string (mtF k)) (.pk 2 (by exact rfl) .nil)) (by decide)) ?_; exact Gh.to3 (by simp) (by simp -dsimp [RW.closed H])) ?_
    have he : Vl.Data.mkL mtF (x :: r) k = ((⟨mtF k, (Vl.Ctor.mkL mtF x.ctors (IntKind.i64.wrap (k + 1))).1⟩ : Vl.Data) :: (Vl.Data.mkL mtF r ((Vl.Ctor.mkL mtF x.ctors (IntKind.i64.wrap (k + 1))).2)).1, (Vl.Data.mkL mtF r ((Vl.Ctor.mkL mtF x.ctors (IntKind.i64.wrap (k + 1))).2)).2) := by (first | rfl | (cases x; simp [Vl.Data.mkL, Vl.Data.mkE]))
    rw [he] at hq
    refine ihr (D ++ [(⟨mtF k, (Vl.Ctor.mkL mtF x.ctors (IntKind.i64.wrap (k + 1))).1⟩ : Vl.Data)]) _ (i + 1) n _ _ (fun y hy => hz y (List.mem_cons_of_mem _ hy)) (by simp [hi]) (by simp at hn; omega) (by simpa using H.setAt hin hUA rfl [.string (mtF k), h1] rfl) _ rfl _ fun R U hR => ?_
    simpa using hq R U hR
  refine MCall.enter 2 Try.func41 (by kernel_rfl) rfl Try.ntmps41 (by simp) (by simp [Vl.Data.mkL_len]) (fun e he => by obtain ⟨x, _, rfl⟩ := List.mem_map.1 he; exact Vl.Data.c_len x) ?_ ?_
  ·intro he
   have he : a0 = [] := by simpa using he
   subst he
   repeat (first | refine chk.ga ?_ | simp -dsimp)
   refine ALoop.goU ⟨[(0, .arr []), (1, .lit (.int .i64 k0)), (5, .lit (.int .i64 0))], []⟩ (Gh.to3 (by simp) (by simp -dsimp)) ?_
   refine ALoopU.enter ?_
   repeat (first | refine chk.ga ?_ | simp -dsimp)
   refine Leave.go _ (Gh.refl _) ?_
   repeat (first | refine chk.ga ?_ | simp -dsimp)
   all_goals (try simp [Vl.Data.mkL])
  ·intro hne rows us e1 e2 e3 e4
   have H : RW 2 a0.length rows us := ⟨by simpa using e2, e3, e1⟩
   repeat (first | refine chk.ga ?_ | simp -dsimp)
   refine ALoop.goU ⟨[(0, .own 0 a0.length), (1, .lit (.int .i64 k0)), (5, .lit (.int .i64 ((0 : Nat) : Int)))], [.elems 2 rows, .pack (List.flatten (List.map Vl.Data.c ([] ++ a0))) us]⟩ (Gh.to3 (by simp) (by simp -dsimp [RW.closed H])) ?_
   refine loop a0 [] k0 0 a0.length rows us hz0 rfl (by simp) H _ rfl _ ?_
   intro R U hR
   repeat (first | refine chk.ga ?_ | simp -dsimp)
   exact ⟨rfl, R, U, rfl, ⟨1, by simp⟩, hR.2.2, by rw [hR.1]; simp [Vl.Data.mkL_len], fun x hx => by obtain ⟨y, _, rfl⟩ := List.mem_map.1 hx; exact Vl.Data.c_len y⟩

theorem C.laws_markDataS (a : List Vl.Data) (k : Int) (v : List Vl.Data × Int) (hF : F.laws_markDataS a k = some v) : MCall Try.prog B 41 (List.map Vl.Data.c a) [.int .i64 k] (List.map Vl.Data.c v.1) (.int .i64 v.2) := by
 obtain rfl := Option.some.inj hF
 exact (CM.laws_markDataS B hB1 hB2 (SizeOf.sizeOf a + 1)) a k (Nat.lt_succ_self _)

theorem CM.laws_markValueS : ∀ m : Nat, (∀ (a : List Vl.Value) (k : Int), SizeOf.sizeOf a < m → MCall Try.prog B 100 (List.map Vl.Value.c a) [.int .i64 k] (List.map Vl.Value.c (Vl.Value.mkL a k).1) (.int .i64 (Vl.Value.mkL a k).2)) := by
 intro m
 induction m with
 | zero => exact fun a k h => absurd h (Nat.not_lt_zero _)
 | succ m ih =>
  intro a0 k0 hm
  have hz0 : ∀ x, x ∈ a0 → SizeOf.sizeOf x < m := fun x hx => by have := List.sizeOf_lt_of_mem hx; omega
  have loop : ∀ (rest D : List Vl.Value) (k : Int) (i n : Nat) (rows : List (List AV)) (us : List Go.Value), (∀ x, x ∈ rest → SizeOf.sizeOf x < m) → i = D.length → n = i + rest.length → RW 3 n rows us →
    ∀ (c : Code), navO [1, 0, 1, 0, 0] (bodyOf Try.f100) = some c → ∀ (Q : Exit → ASt → Prop),
    (∀ (R : List (List AV)) (U : List Go.Value), RW 3 n R U → Q (.exit 0) ⟨[(1, .lit (.int .i64 (Vl.Value.mkL rest k).2))], [.elems 3 R, .pack (List.flatten (List.map Vl.Value.c (D ++ (Vl.Value.mkL rest k).1))) U]⟩) →
    ALoopU Try.prog B 2 34 (hold c .mk) ⟨[(0, .own 0 n), (1, .lit (.int .i64 k)), (5, .lit (.int .i64 (i : Int)))], [.elems 3 rows, .pack (List.flatten (List.map Vl.Value.c (D ++ rest))) us]⟩ (hold Q .mk) := by
   intro rest
   induction rest with
   | nil =>
    intro D k i n rows us hz hi hn H c hc Q hq
    obtain rfl : c = _ := navEq hc rfl
    have hn' : n = i := by simpa using hn
    subst hn'
    refine ALoopU.enter ?_
    repeat (first | refine chk.ga ?_ | simp -dsimp [RW.len H])
    refine Leave.go ⟨[(1, .lit (.int .i64 k))], [.elems 3 rows, .pack (List.flatten (List.map Vl.Value.c D)) us]⟩ (Gh.to3 (by simp) (by simp -dsimp [RW.closed H])) ?_
    simpa [Vl.Value.mkL] using hq rows us H
   | cons x r ihr =>
    intro D k i n rows us hz hi hn H c hc Q hq
    refine ALoopU.opnAt1 1 (List.flatten (List.map Vl.Value.c D)) (Vl.Value.c x) (List.flatten (List.map Vl.Value.c r)) rfl (by simp) (by simp) ?_
    intro h1 vs UA UC o_h1 hlt hU hlA
    have hv : vs = [.int .i64 x.ctor, .int .i64 x.n, h1] := by apply lits_inj; rw [← hlt]; simp
    subst hv hU
    have hUA : UA.length = i * 3 := by rw [hlA, flatc_len Vl.Value.c_len, hi]
    have hin : i < n := by simp at hn; omega
    have hrow : rows[i]? = some [.lit (.int .i64 x.ctor), .lit (.int .i64 x.n), .lit h1] := by simpa using H.at hin rfl hUA rfl
    have hne : ¬ rows = [] := by intro e; rw [e] at hrow; simp at hrow
    have hrl := RW.len H
    have hrow' : ∀ (h : i < rows.length), rows[i] = [.lit (.int .i64 x.ctor), .lit (.int .i64 x.n), .lit h1] := fun h => by rw [List.getElem?_eq_getElem h] at hrow; exact Option.some.inj hrow
    have hset : ∀ a, (rows.set i a)[i]? = some a := fun a => List.getElem?_set_self (by omega)
    clear hlt
    refine ALoopU.know fun hk hs => ?_
    have d0 := hs 0 _ rfl
    simp -dsimp [Blk.bnd] at d0
    clear hk hs
    obtain rfl : c = _ := navEq hc rfl
    have w1 : IntKind.i64.wrap ((i : Int) + 1) = (i : Int) + 1 := wrap_in (by omega) (by omega)
    refine ALoopU.enter ?_
    repeat (first | refine chk.ga ?_ | simp -dsimp [hne, hrow, hrow', hset, hrl, hin, w1, List.set_set, o_h1])
    have sz0 : SizeOf.sizeOf x.kids < m := by have h0 := hz x (by simp); cases x; simp at h0 ⊢; omega
    refine (ih x.kids (IntKind.i64.wrap ((IntKind.i64.wrap (k + 1)) + 1)) sz0).go 2 rfl (by simp) ?_
    repeat (first | refine chk.ga ?_ | simp -dsimp [hne, hrow, hrow', hset, hrl, hin, w1, List.set_set, o_h1])
    refine Again.go ⟨[(0, .own 0 n), (1, .lit (.int .i64 ((Vl.Value.mkL x.kids (IntKind.i64.wrap ((IntKind.i64.wrap (k + 1)) + 1))).2))), (5, .lit (.int .i64 ((i + 1 : Nat) : Int)))], [.elems 3 (rows.set i [.lit (.int .i64 k), .lit (.int .i64 (IntKind.i64.wrap (k + 1))), .lit h1]), .pack (List.flatten (List.map Vl.Value.c ((D ++ [(⟨k, IntKind.i64.wrap (k + 1), (Vl.Value.mkL x.kids (IntKind.i64.wrap ((IntKind.i64.wrap (k + 1)) + 1))).1⟩ : Vl.Value)]) ++ r))) (UA ++ ([.int .i64 k, .int .i64 (IntKind.i64.wrap (k + 1)), h1] ++ UC))]⟩
     (by refine Gh.trans (Gh.setAt 1 [2] (XA := List.flatten (List.map Vl.Value.c D)) (old := [.lit (.int .i64 x.ctor), .lit (.int .i64 x.n), .lit h1]) (XC := List.flatten (List.map Vl.Value.c r)) (UA := UA) (uo := [.int .i64 x.ctor, .int .i64 x.n, h1]) (UC := UC) (by exact rfl) (by simp) (by simp) hlA rfl (.lit (.int .i64 k) (.lit (.int .i64 (IntKind.i64.wrap (k + 1))) (.pk 2 (by exact rfl) .nil))) (by decide)) ?_; exact Gh.to3 (by simp) (by simp -dsimp [RW.closed H])) ?_
    have he : Vl.Value.mkL (x :: r) k = ((⟨k, IntKind.i64.wrap (k + 1), (Vl.Value.mkL x.kids (IntKind.i64.wrap ((IntKind.i64.wrap (k + 1)) + 1))).1⟩ : Vl.Value) :: (Vl.Value.mkL r ((Vl.Value.mkL x.kids (IntKind.i64.wrap ((IntKind.i64.wrap (k + 1)) + 1))).2)).1, (Vl.Value.mkL r ((Vl.Value.mkL x.kids (IntKind.i64.wrap ((IntKind.i64.wrap (k + 1)) + 1))).2)).2) := by (first | rfl | (cases x; simp [Vl.Value.mkL, Vl.Value.mkE]))
    rw [he] at hq
    refine ihr (D ++ [(⟨k, IntKind.i64.wrap (k + 1), (Vl.Value.mkL x.kids (IntKind.i64.wrap ((IntKind.i64.wrap (k + 1)) + 1))).1⟩ : Vl.Value)]) _ (i + 1) n _ _ (fun y hy => hz y (List.mem_cons_of_mem _ hy)) (by simp [hi]) (by simp at hn; omega) (by simpa using H.setAt hin hUA rfl [.int .i64 k, .int .i64 (IntKind.i64.wrap (k + 1)), h1] rfl) _ rfl _ fun R U hR => ?_
    simpa using hq R U hR
  refine MCall.enter 3 Try.func100 (by kernel_rfl) rfl Try.ntmps100 (by simp) (by simp [Vl.Value.mkL_len]) (fun e he => by obtain ⟨x, _, rfl⟩ := List.mem_map.1 he; exact Vl.Value.c_len x) ?_ ?_
  ·intro he
   have he : a0 = [] := by simpa using he
   subst he
   repeat (first | refine chk.ga ?_ | simp -dsimp)
   refine ALoop.goU ⟨[(0, .arr []), (1, .lit (.int .i64 k0)), (5, .lit (.int .i64 0))], []⟩ (Gh.to3 (by simp) (by simp -dsimp)) ?_
   refine ALoopU.enter ?_
   repeat (first | refine chk.ga ?_ | simp -dsimp)
   refine Leave.go _ (Gh.refl _) ?_
   repeat (first | refine chk.ga ?_ | simp -dsimp)
   all_goals (try simp [Vl.Value.mkL])
  ·intro hne rows us e1 e2 e3 e4
   have H : RW 3 a0.length rows us := ⟨by simpa using e2, e3, e1⟩
   repeat (first | refine chk.ga ?_ | simp -dsimp)
   refine ALoop.goU ⟨[(0, .own 0 a0.length), (1, .lit (.int .i64 k0)), (5, .lit (.int .i64 ((0 : Nat) : Int)))], [.elems 3 rows, .pack (List.flatten (List.map Vl.Value.c ([] ++ a0))) us]⟩ (Gh.to3 (by simp) (by simp -dsimp [RW.closed H])) ?_
   refine loop a0 [] k0 0 a0.length rows us hz0 rfl (by simp) H _ rfl _ ?_
   intro R U hR
   repeat (first | refine chk.ga ?_ | simp -dsimp)
   exact ⟨rfl, R, U, rfl, ⟨1, by simp⟩, hR.2.2, by rw [hR.1]; simp [Vl.Value.mkL_len], fun x hx => by obtain ⟨y, _, rfl⟩ := List.mem_map.1 hx; exact Vl.Value.c_len y⟩

theorem C.laws_markValueS (a : List Vl.Value) (k : Int) (v : List Vl.Value × Int) (hF : F.laws_markValueS a k = some v) : MCall Try.prog B 100 (List.map Vl.Value.c a) [.int .i64 k] (List.map Vl.Value.c v.1) (.int .i64 v.2) := by
 obtain rfl := Option.some.inj hF
 exact (CM.laws_markValueS B hB1 hB2 (SizeOf.sizeOf a + 1)) a k (Nat.lt_succ_self _)

theorem C.laws_FnExactMaskValue (aW : List Vl.Data) (aT : Vl.Ty) (aV : Vl.Value) (aPaths : List (List Int)) (r : Bool) (hF : F.laws_FnExactMaskValue aW aT aV aPaths = some r) : PureCall Try.prog B 8 [.arr (List.map Vl.Data.c aW), .agg [.lit (.int .i64 aT.data), .lit (.int .i64 aT.index)], .agg [.lit (.int .i64 aV.ctor), .lit (.int .i64 aV.n), .arr (List.map Vl.Value.c aV.kids)], .arr (List.map (cL cI) aPaths)] (.lit (.bool r)) := by
 unfold F.laws_FnExactMaskValue at hF
 refine PureCall.enterLe Try.func8 (by kernel_rfl) rfl Try.ntmps8 (by simp) (by simp) ?_
 repeat (first | refine chk.ga ?_ | simp -dsimp)
 have hF := ob hF; obtain ⟨v, e1, hF⟩ := hF
 refine ((C.laws_szDataS B hB1 hB2 aW (1048576 : Int) v e1)).goW (by simp) (by simp) ?_
 repeat (first | refine chk.ga ?_ | simp -dsimp)
 refine abr.split (fun h2 => ?_) (fun h2 => ?_)
 ·have q3 : (v < 0) := auq h2
  rw [if_pos q3] at hF
  cases hF
  repeat (first | refine chk.ga ?_ | simp -dsimp [h2])
  all_goals (try first | omega | rfl)
 ·have q3 : ¬ (v < 0) := auq h2
  rw [if_neg q3] at hF
  repeat (first | refine chk.ga ?_ | simp -dsimp [h2, q3])
  have hF := ob hF; obtain ⟨v4, e5, hF⟩ := hF
  refine (((CC.laws_szValue B hB1 hB2 ).1 aV v v4 e5)).goW (by first | simp [h2, q3]; done | simp_all) (by simp) ?_
  repeat (first | refine chk.ga ?_ | simp -dsimp [h2, q3])
  refine abr.split (fun h6 => ?_) (fun h6 => ?_)
  ·have q7 : (v4 < 0) := auq h6
   rw [if_pos q7] at hF
   cases hF
   repeat (first | refine chk.ga ?_ | simp -dsimp [h2, q3, h6])
   all_goals (try first | omega | rfl)
  ·have q7 : ¬ (v4 < 0) := auq h6
   rw [if_neg q7] at hF
   repeat (first | refine chk.ga ?_ | simp -dsimp [h2, q3, h6, q7])
   have hF := ob hF; obtain ⟨v8, e9, hF⟩ := hF
   refine ((C.laws_szIntSS B hB1 hB2 aPaths v4 v8 e9)).goW (by first | simp [h2, q3, h6, q7]; done | simp_all) (by simp) ?_
   repeat (first | refine chk.ga ?_ | simp -dsimp [h2, q3, h6, q7])
   refine abr.split (fun h10 => ?_) (fun h10 => ?_)
   ·have q11 : (v8 < 0) := auq h10
    rw [if_pos q11] at hF
    cases hF
    repeat (first | refine chk.ga ?_ | simp -dsimp [h2, q3, h6, q7, h10])
    all_goals (try first | omega | rfl)
   ·have q11 : ¬ (v8 < 0) := auq h10
    rw [if_neg q11] at hF
    repeat (first | refine chk.ga ?_ | simp -dsimp [h2, q3, h6, q7, h10, q11])
    refine ADraw.eff [] [(0, 1), (0, 2), (0, 1), (0, 2), (0, 1), (0, 2), (0, 1), (0, 2), (0, 2), (0, 1), (0, 1), (0, 2), (0, 2), (0, 2), (2, 2)] [1, 1, 2, 1, 2, 1, 1, 1, 1, 1, 0, 0, 1, 1, 1] follows (by kernel_rfl) (by kernel_rfl) (by kernel_rfl) ?_
    repeat (first | refine chk.ga ?_ | simp -dsimp [h2, q3, h6, q7, h10, q11])
    have hF := ob hF; obtain ⟨v12, e13, hF⟩ := hF
    refine ((C.laws_toDataS B hB1 hB2 aW v12 e13)).pgoW (by first | simp [h2, q3, h6, q7, h10, q11]; done | simp_all) (by simp) ?_
    repeat (first | refine chk.ga ?_ | simp -dsimp [h2, q3, h6, q7, h10, q11])
    have hF := ob hF; obtain ⟨v14, e15, hF⟩ := hF
    refine ((C.laws_toType B hB1 hB2 aT v14 e15)).pgoW (by first | simp [h2, q3, h6, q7, h10, q11]; done | simp_all) (by simp) ?_
    repeat (first | refine chk.ga ?_ | simp -dsimp [h2, q3, h6, q7, h10, q11])
    have hF := ob hF; obtain ⟨v16, e17, hF⟩ := hF
    refine (((CC.laws_toValue B hB1 hB2 ).1 aV v16 e17)).pgoW (by first | simp [h2, q3, h6, q7, h10, q11]; done | simp_all) (by simp) ?_
    repeat (first | refine chk.ga ?_ | simp -dsimp [h2, q3, h6, q7, h10, q11])
    have hF := ob hF; obtain ⟨v18, e19, hF⟩ := hF
    refine ((C.laws_toIntSS B hB1 hB2 aPaths v18 e19)).pgoW (by first | simp [h2, q3, h6, q7, h10, q11]; done | simp_all) (by simp) ?_
    repeat (first | refine chk.ga ?_ | simp -dsimp [h2, q3, h6, q7, h10, q11])
    have hF := ob hF; obtain ⟨v20, e21, hF⟩ := hF
    refine ((C.spec_MaskValue B hB1 hB2 v12 v14 v16 v18 v20 e21)).pgoW (by first | simp [h2, q3, h6, q7, h10, q11]; done | simp_all) (by simp) ?_
    repeat (first | refine chk.ga ?_ | simp -dsimp [h2, q3, h6, q7, h10, q11])
    have hF := ob hF; obtain ⟨v22, e23, hF⟩ := hF
    refine ((C.laws_toDataS__f B hB1 hB2 aW v22 e23)).go1 (by first | simp -dsimp [h2, q3, h6, q7, h10, q11]; done | simp_all) (by simp) (fun h o_h => ?_)
    repeat (first | refine chk.ga ?_ | simp -dsimp [h2, q3, h6, q7, h10, q11, o_h])
    have hF := ob hF; obtain ⟨v24, e25, hF⟩ := hF
    refine (((CC.laws_toValue__f B hB1 hB2 ).1 aV v24 e25)).go1 (by first | simp -dsimp [h2, q3, h6, q7, h10, q11, o_h]; done | simp_all) (by simp) (fun h26 o_h26 => ?_)
    repeat (first | refine chk.ga ?_ | simp -dsimp [h2, q3, h6, q7, h10, q11, o_h, o_h26])
    have hF := ob hF; obtain ⟨v27, e28, hF⟩ := hF
    refine ((C.laws_toIntSS__f B hB1 hB2 aPaths v27 e28)).go1 (by first | simp -dsimp [h2, q3, h6, q7, h10, q11, o_h, o_h26]; done | simp_all) (by simp) (fun h29 o_h29 => ?_)
    repeat (first | refine chk.ga ?_ | simp -dsimp [h2, q3, h6, q7, h10, q11, o_h, o_h26, o_h29])
    refine ADraw.opn ?_
    refine ADraw.effF [] [0, 1, 2, 3, 4, 5, 9, 6, 7, 8, 10, 11] [48] 5 [0, 1, 2, 3, 4, 6, 5, 7, 8, 9, 10, 11] [56, 57, 58, 59, 60] [(0, 0), (0, 0), (0, 3), (0, 0), (0, 0), (0, 3), (0, 3), (1, 2), (1, 2), (1, 3), (0, 3), (3, 3)] [1, 1, 1, 1, 1, 1, 1, 1, 0, 0, 1, 1] [(0, 1), (0, 1), (0, 3), (0, 1), (0, 1), (0, 3), (0, 3), (2, 2), (2, 2), (2, 3), (0, 3), (3, 3)] [1, 2, 1, 2, 1, 1, 1, 1, 1, 0, 1, 1] (by decide) follows (by kernel_rfl) (by kernel_rfl) (by kernel_rfl) (by kernel_rfl) (by kernel_rfl) (by kernel_rfl) (by kernel_rfl) (by kernel_rfl) (by kernel_rfl) (by kernel_rfl) (by kernel_rfl) (by kernel_rfl) (by kernel_rfl) (by kernel_rfl) (by kernel_rfl) rfl (by kernel_rfl) rfl ?_
    intro L hL
    simp only [permL_nil, permL_cons, List.getD_cons_zero, List.getD_cons_succ, List.toList_toArray] at hL
    subst hL
    repeat (first | refine chk.ga ?_ | simp -dsimp [h2, q3, h6, q7, h10, q11, o_h, o_h26, o_h29])
    have hF := ob hF; obtain ⟨v30, e31, hF⟩ := hF
    refine ((C.laws_toType B hB1 hB2 aT v30 e31)).pgoW (by first | simp [h2, q3, h6, q7, h10, q11, o_h, o_h26, o_h29]; done | simp_all) (by simp) ?_
    repeat (first | refine chk.ga ?_ | simp -dsimp [h2, q3, h6, q7, h10, q11, o_h, o_h26, o_h29])
    refine ⟨holdI ?_, ?_⟩
    ·intro L2 hL2
     simp only [permL_nil, permL_cons, List.getD_cons_zero, List.getD_cons_succ, List.toList_toArray] at hL2
     subst hL2
     repeat (first | refine chk.ga ?_ | simp -dsimp [h2, q3, h6, q7, h10, q11, o_h, o_h26, o_h29])
     refine ((C.laws_toType B hB1 hB2 aT v30 e31)).pgoW (by first | simp [h2, q3, h6, q7, h10, q11, o_h, o_h26, o_h29]; done | simp_all) (by simp) ?_
     repeat (first | refine chk.ga ?_ | simp -dsimp [h2, q3, h6, q7, h10, q11, o_h, o_h26, o_h29])
     have hF := ob hF; obtain ⟨v32, e33, hF⟩ := hF
     refine ((C.impl_MaskValue__f B hB1 hB2 v22 v30 v24 v27 v32 e33)).ngo1 (by first | simp -dsimp [h2, q3, h6, q7, h10, q11, o_h, o_h26, o_h29]; done | simp_all) (by simp) (fun h34 o_h34 => ?_)
     repeat (first | refine chk.ga ?_ | simp -dsimp [h2, q3, h6, q7, h10, q11, o_h, o_h26, o_h29, o_h34])
     have hF := ob hF; obtain ⟨v35, e36, hF⟩ := hF
     refine (((CC.laws_eqValue B hB1 hB2 ).1 v32.1 v20.1 v35 e36)).lend (by first | simp -dsimp [h2, q3, h6, q7, h10, q11, o_h, o_h26, o_h29, o_h34]; done | simp_all) (by simp -dsimp) ?_
     repeat (first | refine chk.ga ?_ | simp -dsimp [h2, q3, h6, q7, h10, q11, o_h, o_h26, o_h29, o_h34])
     refine abr.split (fun h37 => ?_) (fun h37 => ?_)
     ·have q38 : (v35 = true) := auq h37
      rw [if_pos q38] at hF
      repeat (first | refine chk.ga ?_ | simp -dsimp [h2, q3, h6, q7, h10, q11, o_h, o_h26, o_h29, o_h34, h37])
      refine abr.split (fun h39 => ?_) (fun h39 => ?_)
      ·have q40 : ¬ (v32.2 = v20.2) := auq h39
       rw [if_neg q40] at hF
       cases hF
       repeat (first | refine chk.ga ?_ | simp -dsimp [h2, q3, h6, q7, h10, q11, o_h, o_h26, o_h29, o_h34, h37, h39, q40])
       all_goals (try first | omega | rfl)
      ·have q40 : (v32.2 = v20.2) := auq h39
       rw [if_pos q40] at hF
       repeat (first | refine chk.ga ?_ | simp -dsimp [h2, q3, h6, q7, h10, q11, o_h, o_h26, o_h29, o_h34, h37, h39, q40])
       have hF := ob hF; obtain ⟨v41, e42, hF⟩ := hF
       refine ((C.laws_toDataS B hB1 hB2 aW v41 e42)).goW (by first | simp [h2, q3, h6, q7, h10, q11, o_h, o_h26, o_h29, o_h34, h37, h39, q40]; done | simp_all) (by simp) ?_
       repeat (first | refine chk.ga ?_ | simp -dsimp [h2, q3, h6, q7, h10, q11, o_h, o_h26, o_h29, o_h34, h37, h39, q40])
       have hF := ob hF; obtain ⟨v43, e44, hF⟩ := hF
       refine ((C.laws_eqDataS B hB1 hB2 v22 v41 v43 e44)).lend (by first | simp -dsimp [h2, q3, h6, q7, h10, q11, o_h, o_h26, o_h29, o_h34, h37, h39, q40]; done | simp_all) (by simp -dsimp) ?_
       repeat (first | refine chk.ga ?_ | simp -dsimp [h2, q3, h6, q7, h10, q11, o_h, o_h26, o_h29, o_h34, h37, h39, q40])
       refine abr.split (fun h45 => ?_) (fun h45 => ?_)
       ·have q46 : ¬ (v43 = true) := auq h45
        rw [if_neg q46] at hF
        cases hF
        repeat (first | refine chk.ga ?_ | simp -dsimp [h2, q3, h6, q7, h10, q11, o_h, o_h26, o_h29, o_h34, h37, h39, q40, h45, q46])
        all_goals (try first | omega | rfl)
       ·have q46 : (v43 = true) := auq h45
        rw [if_pos q46] at hF
        repeat (first | refine chk.ga ?_ | simp -dsimp [h2, q3, h6, q7, h10, q11, o_h, o_h26, o_h29, o_h34, h37, h39, q40, h45, q46])
        refine ADraw.eff [40] [(0, 0), (0, 0), (0, 1), (0, 1), (1, 1)] [1, 1, 1, 1, 1] follows (by kernel_rfl) (by kernel_rfl) (by kernel_rfl) ?_
        repeat (first | refine chk.ga ?_ | simp -dsimp [h2, q3, h6, q7, h10, q11, o_h, o_h26, o_h29, o_h34, h37, h39, q40, h45, q46])
        have hF := ob hF; obtain ⟨v47, e48, hF⟩ := hF
        refine (((CC.laws_toValue B hB1 hB2 ).1 aV v47 e48)).pgoW (by first | simp [h2, q3, h6, q7, h10, q11, o_h, o_h26, o_h29, o_h34, h37, h39, q40, h45, q46]; done | simp_all) (by simp) ?_
        repeat (first | refine chk.ga ?_ | simp -dsimp [h2, q3, h6, q7, h10, q11, o_h, o_h26, o_h29, o_h34, h37, h39, q40, h45, q46])
        have hF := ob hF; obtain ⟨v49, e50, hF⟩ := hF
        refine (((CC.laws_eqValue B hB1 hB2 ).1 v24 v47 v49 e50)).elend (by first | simp -dsimp [h2, q3, h6, q7, h10, q11, o_h, o_h26, o_h29, o_h34, h37, h39, q40, h45, q46]; done | simp_all) (by simp -dsimp) ?_
        repeat (first | refine chk.ga ?_ | simp -dsimp [h2, q3, h6, q7, h10, q11, o_h, o_h26, o_h29, o_h34, h37, h39, q40, h45, q46])
        refine abr.split (fun h51 => ?_) (fun h51 => ?_)
        ·have q52 : ¬ (v49 = true) := auq h51
         rw [if_neg q52] at hF
         cases hF
         repeat (first | refine chk.ga ?_ | simp -dsimp [h2, q3, h6, q7, h10, q11, o_h, o_h26, o_h29, o_h34, h37, h39, q40, h45, q46, h51, q52])
         all_goals (try first | omega | rfl)
        ·have q52 : (v49 = true) := auq h51
         rw [if_pos q52] at hF
         repeat (first | refine chk.ga ?_ | simp -dsimp [h2, q3, h6, q7, h10, q11, o_h, o_h26, o_h29, o_h34, h37, h39, q40, h45, q46, h51, q52])
         have hF := ob hF; obtain ⟨v53, e54, hF⟩ := hF
         refine ((C.laws_toIntSS B hB1 hB2 aPaths v53 e54)).goW (by first | simp [h2, q3, h6, q7, h10, q11, o_h, o_h26, o_h29, o_h34, h37, h39, q40, h45, q46, h51, q52]; done | simp_all) (by simp) ?_
         repeat (first | refine chk.ga ?_ | simp -dsimp [h2, q3, h6, q7, h10, q11, o_h, o_h26, o_h29, o_h34, h37, h39, q40, h45, q46, h51, q52])
         have hF := ob hF; obtain ⟨v55, e56, hF⟩ := hF
         refine ((C.laws_eqIntSS B hB1 hB2 v27 v53 v55 e56)).lend (by first | simp -dsimp [h2, q3, h6, q7, h10, q11, o_h, o_h26, o_h29, o_h34, h37, h39, q40, h45, q46, h51, q52]; done | simp_all) (by simp -dsimp) ?_
         repeat (first | refine chk.ga ?_ | simp -dsimp [h2, q3, h6, q7, h10, q11, o_h, o_h26, o_h29, o_h34, h37, h39, q40, h45, q46, h51, q52])
         refine abr.split (fun h57 => ?_) (fun h57 => ?_)
         ·have q58 : ¬ (v55 = true) := auq h57
          rw [if_neg q58] at hF
          cases hF
          repeat (first | refine chk.ga ?_ | simp -dsimp [h2, q3, h6, q7, h10, q11, o_h, o_h26, o_h29, o_h34, h37, h39, q40, h45, q46, h51, q52, h57, q58])
          all_goals (try first | omega | rfl)
         ·have q58 : (v55 = true) := auq h57
          rw [if_pos q58] at hF
          repeat (first | refine chk.ga ?_ | simp -dsimp [h2, q3, h6, q7, h10, q11, o_h, o_h26, o_h29, o_h34, h37, h39, q40, h45, q46, h51, q52, h57, q58])
          have hF := ob hF; obtain ⟨v59, e60, hF⟩ := hF
          refine ((C.laws_markDataS B hB1 hB2 v22 1 v59 e60)).go 3 rfl (by simp) ?_
          repeat (first | refine chk.ga ?_ | simp -dsimp [h2, q3, h6, q7, h10, q11, o_h, o_h26, o_h29, o_h34, h37, h39, q40, h45, q46, h51, q52, h57, q58])
          refine ACall.inl Try.func42 (by kernel_rfl) rfl Try.ntmps42 (by simp) ?_
          repeat (first | refine chk.ga ?_ | simp -dsimp [h2, q3, h6, q7, h10, q11, o_h, o_h26, o_h29, o_h34, h37, h39, q40, h45, q46, h51, q52, h57, q58])
          have hF := ob hF; obtain ⟨v61, e62, hF⟩ := hF
          refine ((C.laws_markValueS B hB1 hB2 v24.kids v59.2 v61 e62)).go 4 rfl (by simp) ?_
          repeat (first | refine chk.ga ?_ | simp -dsimp [h2, q3, h6, q7, h10, q11, o_h, o_h26, o_h29, o_h34, h37, h39, q40, h45, q46, h51, q52, h57, q58])
          have hF := ob hF; obtain ⟨v63, e64, hF⟩ := hF
          refine ((C.laws_markIntSS B hB1 hB2 v27 v61.2 v63 e64)).go 6 rfl (by simp) ?_
          repeat (first | refine chk.ga ?_ | simp -dsimp [h2, q3, h6, q7, h10, q11, o_h, o_h26, o_h29, o_h34, h37, h39, q40, h45, q46, h51, q52, h57, q58])
          refine abr.split (fun h65 => ?_) (fun h65 => ?_)
          ·have q66 : ¬ (v63.2 < 0) := auq h65
           rw [if_neg q66] at hF
           repeat (first | refine chk.ga ?_ | simp -dsimp [h2, q3, h6, q7, h10, q11, o_h, o_h26, o_h29, o_h34, h37, h39, q40, h45, q46, h51, q52, h57, q58, h65, q66])
           have hF := ob hF; obtain ⟨v67, e68, hF⟩ := hF
           refine (((CC.laws_eqValue B hB1 hB2 ).1 v32.1 v20.1 v67 e68)).lend (by first | simp -dsimp [h2, q3, h6, q7, h10, q11, o_h, o_h26, o_h29, o_h34, h37, h39, q40, h45, q46, h51, q52, h57, q58, h65, q66]; done | simp_all) (by simp -dsimp) ?_
           repeat (first | refine chk.ga ?_ | simp -dsimp [h2, q3, h6, q7, h10, q11, o_h, o_h26, o_h29, o_h34, h37, h39, q40, h45, q46, h51, q52, h57, q58, h65, q66])
           refine abr.split (fun h69 => ?_) (fun h69 => ?_)
           ·have q70 : (v67 = true) := auq h69
            rw [if_pos q70] at hF
            repeat (first | refine chk.ga ?_ | simp -dsimp [h2, q3, h6, q7, h10, q11, o_h, o_h26, o_h29, o_h34, h37, h39, q40, h45, q46, h51, q52, h57, q58, h65, q66, h69])
            refine ACall.inl Try.func42 (by kernel_rfl) rfl Try.ntmps42 (by simp) ?_
            repeat (first | refine chk.ga ?_ | simp -dsimp [h2, q3, h6, q7, h10, q11, o_h, o_h26, o_h29, o_h34, h37, h39, q40, h45, q46, h51, q52, h57, q58, h65, q66, h69])
            have hF := ob hF; obtain ⟨v71, e72, hF⟩ := hF
            refine ((C.laws_markValueS B hB1 hB2 v32.1.kids 1 v71 e72)).go 8 rfl (by simp) ?_
            repeat (first | refine chk.ga ?_ | simp -dsimp [h2, q3, h6, q7, h10, q11, o_h, o_h26, o_h29, o_h34, h37, h39, q40, h45, q46, h51, q52, h57, q58, h65, q66, h69])
            have hF := ob hF; obtain ⟨v73, e74, hF⟩ := hF
            refine ((C.laws_heldValue B hB1 hB2 (⟨v32.1.ctor, v32.1.n, v71.1⟩ : Vl.Value) (1 : Int) v73 e74)).lend (by first | simp -dsimp [h2, q3, h6, q7, h10, q11, o_h, o_h26, o_h29, o_h34, h37, h39, q40, h45, q46, h51, q52, h57, q58, h65, q66, h69]; done | simp_all) (by simp -dsimp) ?_
            repeat (first | refine chk.ga ?_ | simp -dsimp [h2, q3, h6, q7, h10, q11, o_h, o_h26, o_h29, o_h34, h37, h39, q40, h45, q46, h51, q52, h57, q58, h65, q66, h69])
            refine abr.split (fun h75 => ?_) (fun h75 => ?_)
            ·have q76 : (v73 < 0) := auq h75
             rw [if_pos q76] at hF
             cases hF
             repeat (first | refine chk.ga ?_ | simp -dsimp [h2, q3, h6, q7, h10, q11, o_h, o_h26, o_h29, o_h34, h37, h39, q40, h45, q46, h51, q52, h57, q58, h65, q66, h69, h75])
             all_goals (try first | omega | rfl)
            ·have q76 : ¬ (v73 < 0) := auq h75
             rw [if_neg q76] at hF
             repeat (first | refine chk.ga ?_ | simp -dsimp [h2, q3, h6, q7, h10, q11, o_h, o_h26, o_h29, o_h34, h37, h39, q40, h45, q46, h51, q52, h57, q58, h65, q66, h69, h75, q76])
             refine abr.split (fun h77 => ?_) (fun h77 => ?_)
             ·have q78 : ¬ (v73 = v71.2) := auq h77
              rw [if_neg q78] at hF
              cases hF
              repeat (first | refine chk.ga ?_ | simp -dsimp [h2, q3, h6, q7, h10, q11, o_h, o_h26, o_h29, o_h34, h37, h39, q40, h45, q46, h51, q52, h57, q58, h65, q66, h69, h75, q76, h77, q78])
              all_goals (try first | omega | rfl)
             ·have q78 : (v73 = v71.2) := auq h77
              rw [if_pos q78] at hF
              repeat (first | refine chk.ga ?_ | simp -dsimp [h2, q3, h6, q7, h10, q11, o_h, o_h26, o_h29, o_h34, h37, h39, q40, h45, q46, h51, q52, h57, q58, h65, q66, h69, h75, q76, h77, q78])
              refine ADraw.opn ?_
              refine ADraw.effF [] [0, 1, 2, 3, 4, 5, 6, 7, 8, 12, 9, 10, 11, 13, 14] [48] 8 [0, 1, 2, 3, 4, 5, 6, 7, 9, 8, 10, 11, 12, 13, 14] [122, 123, 124, 125, 126, 127, 128, 129] [(0, 0), (0, 3), (0, 0), (0, 3), (0, 0), (0, 3), (0, 0), (0, 3), (0, 3), (0, 3), (1, 2), (1, 2), (1, 3), (0, 3), (3, 3)] [1, 1, 1, 1, 1, 1, 1, 1, 1, 1, 1, 0, 0, 1, 1] [(0, 1), (0, 3), (0, 1), (0, 3), (0, 1), (0, 3), (0, 1), (0, 3), (0, 3), (0, 3), (2, 2), (2, 2), (2, 3), (0, 3), (3, 3)] [1, 1, 2, 1, 2, 1, 1, 1, 1, 1, 1, 1, 0, 1, 1] (by decide) follows (by kernel_rfl) (by kernel_rfl) (by kernel_rfl) (by kernel_rfl) (by kernel_rfl) (by kernel_rfl) (by kernel_rfl) (by kernel_rfl) (by kernel_rfl) (by kernel_rfl) (by kernel_rfl) (by kernel_rfl) (by kernel_rfl) (by kernel_rfl) (by kernel_rfl) rfl (by kernel_rfl) rfl ?_
              intro L hL
              simp only [permL_nil, permL_cons, List.getD_cons_zero, List.getD_cons_succ, List.toList_toArray] at hL
              subst hL
              repeat (first | refine chk.ga ?_ | simp -dsimp [h2, q3, h6, q7, h10, q11, o_h, o_h26, o_h29, o_h34, h37, h39, q40, h45, q46, h51, q52, h57, q58, h65, q66, h69, h75, q76, h77, q78])
              have hF := ob hF; obtain ⟨v79, e80, hF⟩ := hF
              refine ((C.laws_toDataS B hB1 hB2 aW v79 e80)).pgoW (by first | simp [h2, q3, h6, q7, h10, q11, o_h, o_h26, o_h29, o_h34, h37, h39, q40, h45, q46, h51, q52, h57, q58, h65, q66, h69, h75, q76, h77, q78]; done | simp_all) (by simp) ?_
              repeat (first | refine chk.ga ?_ | simp -dsimp [h2, q3, h6, q7, h10, q11, o_h, o_h26, o_h29, o_h34, h37, h39, q40, h45, q46, h51, q52, h57, q58, h65, q66, h69, h75, q76, h77, q78])
              have hF := ob hF; obtain ⟨v81, e82, hF⟩ := hF
              refine ((C.laws_toType B hB1 hB2 aT v81 e82)).pgoW (by first | simp [h2, q3, h6, q7, h10, q11, o_h, o_h26, o_h29, o_h34, h37, h39, q40, h45, q46, h51, q52, h57, q58, h65, q66, h69, h75, q76, h77, q78]; done | simp_all) (by simp) ?_
              repeat (first | refine chk.ga ?_ | simp -dsimp [h2, q3, h6, q7, h10, q11, o_h, o_h26, o_h29, o_h34, h37, h39, q40, h45, q46, h51, q52, h57, q58, h65, q66, h69, h75, q76, h77, q78])
              have hF := ob hF; obtain ⟨v83, e84, hF⟩ := hF
              refine (((CC.laws_toValue B hB1 hB2 ).1 aV v83 e84)).pgoW (by first | simp [h2, q3, h6, q7, h10, q11, o_h, o_h26, o_h29, o_h34, h37, h39, q40, h45, q46, h51, q52, h57, q58, h65, q66, h69, h75, q76, h77, q78]; done | simp_all) (by simp) ?_
              repeat (first | refine chk.ga ?_ | simp -dsimp [h2, q3, h6, q7, h10, q11, o_h, o_h26, o_h29, o_h34, h37, h39, q40, h45, q46, h51, q52, h57, q58, h65, q66, h69, h75, q76, h77, q78])
              have hF := ob hF; obtain ⟨v85, e86, hF⟩ := hF
              refine ((C.laws_toIntSS B hB1 hB2 aPaths v85 e86)).pgoW (by first | simp [h2, q3, h6, q7, h10, q11, o_h, o_h26, o_h29, o_h34, h37, h39, q40, h45, q46, h51, q52, h57, q58, h65, q66, h69, h75, q76, h77, q78]; done | simp_all) (by simp) ?_
              repeat (first | refine chk.ga ?_ | simp -dsimp [h2, q3, h6, q7, h10, q11, o_h, o_h26, o_h29, o_h34, h37, h39, q40, h45, q46, h51, q52, h57, q58, h65, q66, h69, h75, q76, h77, q78])
              refine ⟨holdI ?_, ?_⟩
              ·intro L2 hL2
               simp only [permL_nil, permL_cons, List.getD_cons_zero, List.getD_cons_succ, List.toList_toArray] at hL2
               subst hL2
               repeat (first | refine chk.ga ?_ | simp -dsimp [h2, q3, h6, q7, h10, q11, o_h, o_h26, o_h29, o_h34, h37, h39, q40, h45, q46, h51, q52, h57, q58, h65, q66, h69, h75, q76, h77, q78])
               refine ((C.laws_toDataS B hB1 hB2 aW v79 e80)).pgoW (by first | simp [h2, q3, h6, q7, h10, q11, o_h, o_h26, o_h29, o_h34, h37, h39, q40, h45, q46, h51, q52, h57, q58, h65, q66, h69, h75, q76, h77, q78]; done | simp_all) (by simp) ?_
               repeat (first | refine chk.ga ?_ | simp -dsimp [h2, q3, h6, q7, h10, q11, o_h, o_h26, o_h29, o_h34, h37, h39, q40, h45, q46, h51, q52, h57, q58, h65, q66, h69, h75, q76, h77, q78])
               refine ((C.laws_toType B hB1 hB2 aT v81 e82)).pgoW (by first | simp [h2, q3, h6, q7, h10, q11, o_h, o_h26, o_h29, o_h34, h37, h39, q40, h45, q46, h51, q52, h57, q58, h65, q66, h69, h75, q76, h77, q78]; done | simp_all) (by simp) ?_
               repeat (first | refine chk.ga ?_ | simp -dsimp [h2, q3, h6, q7, h10, q11, o_h, o_h26, o_h29, o_h34, h37, h39, q40, h45, q46, h51, q52, h57, q58, h65, q66, h69, h75, q76, h77, q78])
               refine (((CC.laws_toValue B hB1 hB2 ).1 aV v83 e84)).pgoW (by first | simp [h2, q3, h6, q7, h10, q11, o_h, o_h26, o_h29, o_h34, h37, h39, q40, h45, q46, h51, q52, h57, q58, h65, q66, h69, h75, q76, h77, q78]; done | simp_all) (by simp) ?_
               repeat (first | refine chk.ga ?_ | simp -dsimp [h2, q3, h6, q7, h10, q11, o_h, o_h26, o_h29, o_h34, h37, h39, q40, h45, q46, h51, q52, h57, q58, h65, q66, h69, h75, q76, h77, q78])
               refine ((C.laws_toIntSS B hB1 hB2 aPaths v85 e86)).pgoW (by first | simp [h2, q3, h6, q7, h10, q11, o_h, o_h26, o_h29, o_h34, h37, h39, q40, h45, q46, h51, q52, h57, q58, h65, q66, h69, h75, q76, h77, q78]; done | simp_all) (by simp) ?_
               repeat (first | refine chk.ga ?_ | simp -dsimp [h2, q3, h6, q7, h10, q11, o_h, o_h26, o_h29, o_h34, h37, h39, q40, h45, q46, h51, q52, h57, q58, h65, q66, h69, h75, q76, h77, q78])
               have hF := ob hF; obtain ⟨v87, e88, hF⟩ := hF
               refine ((C.impl_MaskValue__f B hB1 hB2 v79 v81 v83 v85 v87 e88)).ngo1 (by first | simp -dsimp [h2, q3, h6, q7, h10, q11, o_h, o_h26, o_h29, o_h34, h37, h39, q40, h45, q46, h51, q52, h57, q58, h65, q66, h69, h75, q76, h77, q78]; done | simp_all) (by simp) (fun h89 o_h89 => ?_)
               repeat (first | refine chk.ga ?_ | simp -dsimp [h2, q3, h6, q7, h10, q11, o_h, o_h26, o_h29, o_h34, h37, h39, q40, h45, q46, h51, q52, h57, q58, h65, q66, h69, h75, q76, h77, q78, o_h89])
               have hF := ob hF; obtain ⟨v90, e91, hF⟩ := hF
               refine (((CC.laws_eqValue B hB1 hB2 ).1 v87.1 v20.1 v90 e91)).lend (by first | simp -dsimp [h2, q3, h6, q7, h10, q11, o_h, o_h26, o_h29, o_h34, h37, h39, q40, h45, q46, h51, q52, h57, q58, h65, q66, h69, h75, q76, h77, q78, o_h89]; done | simp_all) (by simp -dsimp) ?_
               repeat (first | refine chk.ga ?_ | simp -dsimp [h2, q3, h6, q7, h10, q11, o_h, o_h26, o_h29, o_h34, h37, h39, q40, h45, q46, h51, q52, h57, q58, h65, q66, h69, h75, q76, h77, q78, o_h89])
               refine abr.split (fun h92 => ?_) (fun h92 => ?_)
               ·have q93 : (v90 = true) := auq h92
                rw [if_pos q93] at hF
                repeat (first | refine chk.ga ?_ | simp -dsimp [h2, q3, h6, q7, h10, q11, o_h, o_h26, o_h29, o_h34, h37, h39, q40, h45, q46, h51, q52, h57, q58, h65, q66, h69, h75, q76, h77, q78, o_h89, h92])
                refine abr.split (fun h94 => ?_) (fun h94 => ?_)
                ·have q95 : ¬ (v87.2 = v20.2) := auq h94
                 rw [if_neg q95] at hF
                 cases hF
                 repeat (first | refine chk.ga ?_ | simp -dsimp [h2, q3, h6, q7, h10, q11, o_h, o_h26, o_h29, o_h34, h37, h39, q40, h45, q46, h51, q52, h57, q58, h65, q66, h69, h75, q76, h77, q78, o_h89, h92, h94, q95])
                 all_goals (try first | omega | rfl)
                ·have q95 : (v87.2 = v20.2) := auq h94
                 rw [if_pos q95] at hF
                 repeat (first | refine chk.ga ?_ | simp -dsimp [h2, q3, h6, q7, h10, q11, o_h, o_h26, o_h29, o_h34, h37, h39, q40, h45, q46, h51, q52, h57, q58, h65, q66, h69, h75, q76, h77, q78, o_h89, h92, h94, q95])
                 have hF := ob hF; obtain ⟨v96, e97, hF⟩ := hF
                 refine ((C.laws_heldValue B hB1 hB2 (⟨v32.1.ctor, v32.1.n, v71.1⟩ : Vl.Value) (1 : Int) v96 e97)).lend (by first | simp -dsimp [h2, q3, h6, q7, h10, q11, o_h, o_h26, o_h29, o_h34, h37, h39, q40, h45, q46, h51, q52, h57, q58, h65, q66, h69, h75, q76, h77, q78, o_h89, h92, h94, q95]; done | simp_all) (by simp -dsimp) ?_
                 repeat (first | refine chk.ga ?_ | simp -dsimp [h2, q3, h6, q7, h10, q11, o_h, o_h26, o_h29, o_h34, h37, h39, q40, h45, q46, h51, q52, h57, q58, h65, q66, h69, h75, q76, h77, q78, o_h89, h92, h94, q95])
                 refine abr.split (fun h98 => ?_) (fun h98 => ?_)
                 ·have q99 : (v96 < 0) := auq h98
                  rw [if_pos q99] at hF
                  cases hF
                  repeat (first | refine chk.ga ?_ | simp -dsimp [h2, q3, h6, q7, h10, q11, o_h, o_h26, o_h29, o_h34, h37, h39, q40, h45, q46, h51, q52, h57, q58, h65, q66, h69, h75, q76, h77, q78, o_h89, h92, h94, q95, h98])
                  all_goals (try first | omega | rfl)
                 ·have q99 : ¬ (v96 < 0) := auq h98
                  rw [if_neg q99] at hF
                  repeat (first | refine chk.ga ?_ | simp -dsimp [h2, q3, h6, q7, h10, q11, o_h, o_h26, o_h29, o_h34, h37, h39, q40, h45, q46, h51, q52, h57, q58, h65, q66, h69, h75, q76, h77, q78, o_h89, h92, h94, q95, h98, q99])
                  refine abr.split (fun h100 => ?_) (fun h100 => ?_)
                  ·have q101 : ¬ (v96 = v71.2) := auq h100
                   rw [if_neg q101] at hF
                   cases hF
                   repeat (first | refine chk.ga ?_ | simp -dsimp [h2, q3, h6, q7, h10, q11, o_h, o_h26, o_h29, o_h34, h37, h39, q40, h45, q46, h51, q52, h57, q58, h65, q66, h69, h75, q76, h77, q78, o_h89, h92, h94, q95, h98, q99, h100, q101])
                   all_goals (try first | omega | rfl)
                  ·have q101 : (v96 = v71.2) := auq h100
                   rw [if_pos q101] at hF
                   cases hF
                   repeat (first | refine chk.ga ?_ | simp -dsimp [h2, q3, h6, q7, h10, q11, o_h, o_h26, o_h29, o_h34, h37, h39, q40, h45, q46, h51, q52, h57, q58, h65, q66, h69, h75, q76, h77, q78, o_h89, h92, h94, q95, h98, q99, h100, q101])
                   all_goals (try first | omega | rfl)
               ·have q93 : ¬ (v90 = true) := auq h92
                rw [if_neg q93] at hF
                cases hF
                repeat (first | refine chk.ga ?_ | simp -dsimp [h2, q3, h6, q7, h10, q11, o_h, o_h26, o_h29, o_h34, h37, h39, q40, h45, q46, h51, q52, h57, q58, h65, q66, h69, h75, q76, h77, q78, o_h89, h92, q93])
                all_goals (try first | omega | rfl)
              ·have hF := ob hF; obtain ⟨v87, e88, hF⟩ := hF
               refine ((C.impl_MaskValue__f B hB1 hB2 v79 v81 v83 v85 v87 e88)).ngo1 (by first | simp -dsimp [h2, q3, h6, q7, h10, q11, o_h, o_h26, o_h29, o_h34, h37, h39, q40, h45, q46, h51, q52, h57, q58, h65, q66, h69, h75, q76, h77, q78]; done | simp_all) (by simp) (fun h89 o_h89 => ?_)
               repeat (first | refine chk.ga ?_ | simp -dsimp [h2, q3, h6, q7, h10, q11, o_h, o_h26, o_h29, o_h34, h37, h39, q40, h45, q46, h51, q52, h57, q58, h65, q66, h69, h75, q76, h77, q78, o_h89])
               have hF := ob hF; obtain ⟨v90, e91, hF⟩ := hF
               refine (((CC.laws_eqValue B hB1 hB2 ).1 v87.1 v20.1 v90 e91)).lend (by first | simp -dsimp [h2, q3, h6, q7, h10, q11, o_h, o_h26, o_h29, o_h34, h37, h39, q40, h45, q46, h51, q52, h57, q58, h65, q66, h69, h75, q76, h77, q78, o_h89]; done | simp_all) (by simp -dsimp) ?_
               repeat (first | refine chk.ga ?_ | simp -dsimp [h2, q3, h6, q7, h10, q11, o_h, o_h26, o_h29, o_h34, h37, h39, q40, h45, q46, h51, q52, h57, q58, h65, q66, h69, h75, q76, h77, q78, o_h89])
               refine abr.split (fun h92 => ?_) (fun h92 => ?_)
               ·have q93 : (v90 = true) := auq h92
                rw [if_pos q93] at hF
                repeat (first | refine chk.ga ?_ | simp -dsimp [h2, q3, h6, q7, h10, q11, o_h, o_h26, o_h29, o_h34, h37, h39, q40, h45, q46, h51, q52, h57, q58, h65, q66, h69, h75, q76, h77, q78, o_h89, h92])
                refine abr.split (fun h94 => ?_) (fun h94 => ?_)
                ·have q95 : ¬ (v87.2 = v20.2) := auq h94
                 rw [if_neg q95] at hF
                 cases hF
                 repeat (first | refine chk.ga ?_ | simp -dsimp [h2, q3, h6, q7, h10, q11, o_h, o_h26, o_h29, o_h34, h37, h39, q40, h45, q46, h51, q52, h57, q58, h65, q66, h69, h75, q76, h77, q78, o_h89, h92, h94, q95])
                 all_goals (try first | omega | rfl)
                ·have q95 : (v87.2 = v20.2) := auq h94
                 rw [if_pos q95] at hF
                 repeat (first | refine chk.ga ?_ | simp -dsimp [h2, q3, h6, q7, h10, q11, o_h, o_h26, o_h29, o_h34, h37, h39, q40, h45, q46, h51, q52, h57, q58, h65, q66, h69, h75, q76, h77, q78, o_h89, h92, h94, q95])
                 have hF := ob hF; obtain ⟨v96, e97, hF⟩ := hF
                 refine ((C.laws_heldValue B hB1 hB2 (⟨v32.1.ctor, v32.1.n, v71.1⟩ : Vl.Value) (1 : Int) v96 e97)).lend (by first | simp -dsimp [h2, q3, h6, q7, h10, q11, o_h, o_h26, o_h29, o_h34, h37, h39, q40, h45, q46, h51, q52, h57, q58, h65, q66, h69, h75, q76, h77, q78, o_h89, h92, h94, q95]; done | simp_all) (by simp -dsimp) ?_
                 repeat (first | refine chk.ga ?_ | simp -dsimp [h2, q3, h6, q7, h10, q11, o_h, o_h26, o_h29, o_h34, h37, h39, q40, h45, q46, h51, q52, h57, q58, h65, q66, h69, h75, q76, h77, q78, o_h89, h92, h94, q95])
                 refine abr.split (fun h98 => ?_) (fun h98 => ?_)
                 ·have q99 : (v96 < 0) := auq h98
                  rw [if_pos q99] at hF
                  cases hF
                  repeat (first | refine chk.ga ?_ | simp -dsimp [h2, q3, h6, q7, h10, q11, o_h, o_h26, o_h29, o_h34, h37, h39, q40, h45, q46, h51, q52, h57, q58, h65, q66, h69, h75, q76, h77, q78, o_h89, h92, h94, q95, h98])
                  all_goals (try first | omega | rfl)
                 ·have q99 : ¬ (v96 < 0) := auq h98
                  rw [if_neg q99] at hF
                  repeat (first | refine chk.ga ?_ | simp -dsimp [h2, q3, h6, q7, h10, q11, o_h, o_h26, o_h29, o_h34, h37, h39, q40, h45, q46, h51, q52, h57, q58, h65, q66, h69, h75, q76, h77, q78, o_h89, h92, h94, q95, h98, q99])
                  refine abr.split (fun h100 => ?_) (fun h100 => ?_)
                  ·have q101 : ¬ (v96 = v71.2) := auq h100
                   rw [if_neg q101] at hF
                   cases hF
                   repeat (first | refine chk.ga ?_ | simp -dsimp [h2, q3, h6, q7, h10, q11, o_h, o_h26, o_h29, o_h34, h37, h39, q40, h45, q46, h51, q52, h57, q58, h65, q66, h69, h75, q76, h77, q78, o_h89, h92, h94, q95, h98, q99, h100, q101])
                   all_goals (try first | omega | rfl)
                  ·have q101 : (v96 = v71.2) := auq h100
                   rw [if_pos q101] at hF
                   cases hF
                   repeat (first | refine chk.ga ?_ | simp -dsimp [h2, q3, h6, q7, h10, q11, o_h, o_h26, o_h29, o_h34, h37, h39, q40, h45, q46, h51, q52, h57, q58, h65, q66, h69, h75, q76, h77, q78, o_h89, h92, h94, q95, h98, q99, h100, q101])
                   all_goals (try first | omega | rfl)
               ·have q93 : ¬ (v90 = true) := auq h92
                rw [if_neg q93] at hF
                cases hF
                repeat (first | refine chk.ga ?_ | simp -dsimp [h2, q3, h6, q7, h10, q11, o_h, o_h26, o_h29, o_h34, h37, h39, q40, h45, q46, h51, q52, h57, q58, h65, q66, h69, h75, q76, h77, q78, o_h89, h92, q93])
                all_goals (try first | omega | rfl)
           ·have q70 : ¬ (v67 = true) := auq h69
            rw [if_neg q70] at hF
            cases hF
            repeat (first | refine chk.ga ?_ | simp -dsimp [h2, q3, h6, q7, h10, q11, o_h, o_h26, o_h29, o_h34, h37, h39, q40, h45, q46, h51, q52, h57, q58, h65, q66, h69, q70])
            all_goals (try first | omega | rfl)
          ·have q66 : (v63.2 < 0) := auq h65
           rw [if_pos q66] at hF
           cases hF
           repeat (first | refine chk.ga ?_ | simp -dsimp [h2, q3, h6, q7, h10, q11, o_h, o_h26, o_h29, o_h34, h37, h39, q40, h45, q46, h51, q52, h57, q58, h65, q66])
           all_goals (try first | omega | rfl)
     ·have q38 : ¬ (v35 = true) := auq h37
      rw [if_neg q38] at hF
      cases hF
      repeat (first | refine chk.ga ?_ | simp -dsimp [h2, q3, h6, q7, h10, q11, o_h, o_h26, o_h29, o_h34, h37, q38])
      all_goals (try first | omega | rfl)
    ·have hF := ob hF; obtain ⟨v32, e33, hF⟩ := hF
     refine ((C.impl_MaskValue__f B hB1 hB2 v22 v30 v24 v27 v32 e33)).ngo1 (by first | simp -dsimp [h2, q3, h6, q7, h10, q11, o_h, o_h26, o_h29]; done | simp_all) (by simp) (fun h34 o_h34 => ?_)
     repeat (first | refine chk.ga ?_ | simp -dsimp [h2, q3, h6, q7, h10, q11, o_h, o_h26, o_h29, o_h34])
     have hF := ob hF; obtain ⟨v35, e36, hF⟩ := hF
     refine (((CC.laws_eqValue B hB1 hB2 ).1 v32.1 v20.1 v35 e36)).lend (by first | simp -dsimp [h2, q3, h6, q7, h10, q11, o_h, o_h26, o_h29, o_h34]; done | simp_all) (by simp -dsimp) ?_
     repeat (first | refine chk.ga ?_ | simp -dsimp [h2, q3, h6, q7, h10, q11, o_h, o_h26, o_h29, o_h34])
     refine abr.split (fun h37 => ?_) (fun h37 => ?_)
     ·have q38 : (v35 = true) := auq h37
      rw [if_pos q38] at hF
      repeat (first | refine chk.ga ?_ | simp -dsimp [h2, q3, h6, q7, h10, q11, o_h, o_h26, o_h29, o_h34, h37])
      refine abr.split (fun h39 => ?_) (fun h39 => ?_)
      ·have q40 : ¬ (v32.2 = v20.2) := auq h39
       rw [if_neg q40] at hF
       cases hF
       repeat (first | refine chk.ga ?_ | simp -dsimp [h2, q3, h6, q7, h10, q11, o_h, o_h26, o_h29, o_h34, h37, h39, q40])
       all_goals (try first | omega | rfl)
      ·have q40 : (v32.2 = v20.2) := auq h39
       rw [if_pos q40] at hF
       repeat (first | refine chk.ga ?_ | simp -dsimp [h2, q3, h6, q7, h10, q11, o_h, o_h26, o_h29, o_h34, h37, h39, q40])
       have hF := ob hF; obtain ⟨v41, e42, hF⟩ := hF
       refine ((C.laws_toDataS B hB1 hB2 aW v41 e42)).goW (by first | simp [h2, q3, h6, q7, h10, q11, o_h, o_h26, o_h29, o_h34, h37, h39, q40]; done | simp_all) (by simp) ?_
       repeat (first | refine chk.ga ?_ | simp -dsimp [h2, q3, h6, q7, h10, q11, o_h, o_h26, o_h29, o_h34, h37, h39, q40])
       have hF := ob hF; obtain ⟨v43, e44, hF⟩ := hF
       refine ((C.laws_eqDataS B hB1 hB2 v22 v41 v43 e44)).lend (by first | simp -dsimp [h2, q3, h6, q7, h10, q11, o_h, o_h26, o_h29, o_h34, h37, h39, q40]; done | simp_all) (by simp -dsimp) ?_
       repeat (first | refine chk.ga ?_ | simp -dsimp [h2, q3, h6, q7, h10, q11, o_h, o_h26, o_h29, o_h34, h37, h39, q40])
       refine abr.split (fun h45 => ?_) (fun h45 => ?_)
       ·have q46 : ¬ (v43 = true) := auq h45
        rw [if_neg q46] at hF
        cases hF
        repeat (first | refine chk.ga ?_ | simp -dsimp [h2, q3, h6, q7, h10, q11, o_h, o_h26, o_h29, o_h34, h37, h39, q40, h45, q46])
        all_goals (try first | omega | rfl)
       ·have q46 : (v43 = true) := auq h45
        rw [if_pos q46] at hF
        repeat (first | refine chk.ga ?_ | simp -dsimp [h2, q3, h6, q7, h10, q11, o_h, o_h26, o_h29, o_h34, h37, h39, q40, h45, q46])
        refine ADraw.eff [40] [(0, 0), (0, 0), (0, 1), (0, 1), (1, 1)] [1, 1, 1, 1, 1] follows (by kernel_rfl) (by kernel_rfl) (by kernel_rfl) ?_
        repeat (first | refine chk.ga ?_ | simp -dsimp [h2, q3, h6, q7, h10, q11, o_h, o_h26, o_h29, o_h34, h37, h39, q40, h45, q46])
        have hF := ob hF; obtain ⟨v47, e48, hF⟩ := hF
        refine (((CC.laws_toValue B hB1 hB2 ).1 aV v47 e48)).pgoW (by first | simp [h2, q3, h6, q7, h10, q11, o_h, o_h26, o_h29, o_h34, h37, h39, q40, h45, q46]; done | simp_all) (by simp) ?_
        repeat (first | refine chk.ga ?_ | simp -dsimp [h2, q3, h6, q7, h10, q11, o_h, o_h26, o_h29, o_h34, h37, h39, q40, h45, q46])
        have hF := ob hF; obtain ⟨v49, e50, hF⟩ := hF
        refine (((CC.laws_eqValue B hB1 hB2 ).1 v24 v47 v49 e50)).elend (by first | simp -dsimp [h2, q3, h6, q7, h10, q11, o_h, o_h26, o_h29, o_h34, h37, h39, q40, h45, q46]; done | simp_all) (by simp -dsimp) ?_
        repeat (first | refine chk.ga ?_ | simp -dsimp [h2, q3, h6, q7, h10, q11, o_h, o_h26, o_h29, o_h34, h37, h39, q40, h45, q46])
        refine abr.split (fun h51 => ?_) (fun h51 => ?_)
        ·have q52 : ¬ (v49 = true) := auq h51
         rw [if_neg q52] at hF
         cases hF
         repeat (first | refine chk.ga ?_ | simp -dsimp [h2, q3, h6, q7, h10, q11, o_h, o_h26, o_h29, o_h34, h37, h39, q40, h45, q46, h51, q52])
         all_goals (try first | omega | rfl)
        ·have q52 : (v49 = true) := auq h51
         rw [if_pos q52] at hF
         repeat (first | refine chk.ga ?_ | simp -dsimp [h2, q3, h6, q7, h10, q11, o_h, o_h26, o_h29, o_h34, h37, h39, q40, h45, q46, h51, q52])
         have hF := ob hF; obtain ⟨v53, e54, hF⟩ := hF
         refine ((C.laws_toIntSS B hB1 hB2 aPaths v53 e54)).goW (by first | simp [h2, q3, h6, q7, h10, q11, o_h, o_h26, o_h29, o_h34, h37, h39, q40, h45, q46, h51, q52]; done | simp_all) (by simp) ?_
         repeat (first | refine chk.ga ?_ | simp -dsimp [h2, q3, h6, q7, h10, q11, o_h, o_h26, o_h29, o_h34, h37, h39, q40, h45, q46, h51, q52])
         have hF := ob hF; obtain ⟨v55, e56, hF⟩ := hF
         refine ((C.laws_eqIntSS B hB1 hB2 v27 v53 v55 e56)).lend (by first | simp -dsimp [h2, q3, h6, q7, h10, q11, o_h, o_h26, o_h29, o_h34, h37, h39, q40, h45, q46, h51, q52]; done | simp_all) (by simp -dsimp) ?_
         repeat (first | refine chk.ga ?_ | simp -dsimp [h2, q3, h6, q7, h10, q11, o_h, o_h26, o_h29, o_h34, h37, h39, q40, h45, q46, h51, q52])
         refine abr.split (fun h57 => ?_) (fun h57 => ?_)
         ·have q58 : ¬ (v55 = true) := auq h57
          rw [if_neg q58] at hF
          cases hF
          repeat (first | refine chk.ga ?_ | simp -dsimp [h2, q3, h6, q7, h10, q11, o_h, o_h26, o_h29, o_h34, h37, h39, q40, h45, q46, h51, q52, h57, q58])
          all_goals (try first | omega | rfl)
         ·have q58 : (v55 = true) := auq h57
          rw [if_pos q58] at hF
          repeat (first | refine chk.ga ?_ | simp -dsimp [h2, q3, h6, q7, h10, q11, o_h, o_h26, o_h29, o_h34, h37, h39, q40, h45, q46, h51, q52, h57, q58])
          have hF := ob hF; obtain ⟨v59, e60, hF⟩ := hF
          refine ((C.laws_markDataS B hB1 hB2 v22 1 v59 e60)).go 3 rfl (by simp) ?_
          repeat (first | refine chk.ga ?_ | simp -dsimp [h2, q3, h6, q7, h10, q11, o_h, o_h26, o_h29, o_h34, h37, h39, q40, h45, q46, h51, q52, h57, q58])
          refine ACall.inl Try.func42 (by kernel_rfl) rfl Try.ntmps42 (by simp) ?_
          repeat (first | refine chk.ga ?_ | simp -dsimp [h2, q3, h6, q7, h10, q11, o_h, o_h26, o_h29, o_h34, h37, h39, q40, h45, q46, h51, q52, h57, q58])
          have hF := ob hF; obtain ⟨v61, e62, hF⟩ := hF
          refine ((C.laws_markValueS B hB1 hB2 v24.kids v59.2 v61 e62)).go 4 rfl (by simp) ?_
          repeat (first | refine chk.ga ?_ | simp -dsimp [h2, q3, h6, q7, h10, q11, o_h, o_h26, o_h29, o_h34, h37, h39, q40, h45, q46, h51, q52, h57, q58])
          have hF := ob hF; obtain ⟨v63, e64, hF⟩ := hF
          refine ((C.laws_markIntSS B hB1 hB2 v27 v61.2 v63 e64)).go 6 rfl (by simp) ?_
          repeat (first | refine chk.ga ?_ | simp -dsimp [h2, q3, h6, q7, h10, q11, o_h, o_h26, o_h29, o_h34, h37, h39, q40, h45, q46, h51, q52, h57, q58])
          refine abr.split (fun h65 => ?_) (fun h65 => ?_)
          ·have q66 : ¬ (v63.2 < 0) := auq h65
           rw [if_neg q66] at hF
           repeat (first | refine chk.ga ?_ | simp -dsimp [h2, q3, h6, q7, h10, q11, o_h, o_h26, o_h29, o_h34, h37, h39, q40, h45, q46, h51, q52, h57, q58, h65, q66])
           have hF := ob hF; obtain ⟨v67, e68, hF⟩ := hF
           refine (((CC.laws_eqValue B hB1 hB2 ).1 v32.1 v20.1 v67 e68)).lend (by first | simp -dsimp [h2, q3, h6, q7, h10, q11, o_h, o_h26, o_h29, o_h34, h37, h39, q40, h45, q46, h51, q52, h57, q58, h65, q66]; done | simp_all) (by simp -dsimp) ?_
           repeat (first | refine chk.ga ?_ | simp -dsimp [h2, q3, h6, q7, h10, q11, o_h, o_h26, o_h29, o_h34, h37, h39, q40, h45, q46, h51, q52, h57, q58, h65, q66])
           refine abr.split (fun h69 => ?_) (fun h69 => ?_)
           ·have q70 : (v67 = true) := auq h69
            rw [if_pos q70] at hF
            repeat (first | refine chk.ga ?_ | simp -dsimp [h2, q3, h6, q7, h10, q11, o_h, o_h26, o_h29, o_h34, h37, h39, q40, h45, q46, h51, q52, h57, q58, h65, q66, h69])
            refine ACall.inl Try.func42 (by kernel_rfl) rfl Try.ntmps42 (by simp) ?_
            repeat (first | refine chk.ga ?_ | simp -dsimp [h2, q3, h6, q7, h10, q11, o_h, o_h26, o_h29, o_h34, h37, h39, q40, h45, q46, h51, q52, h57, q58, h65, q66, h69])
            have hF := ob hF; obtain ⟨v71, e72, hF⟩ := hF
            refine ((C.laws_markValueS B hB1 hB2 v32.1.kids 1 v71 e72)).go 7 rfl (by simp) ?_
            repeat (first | refine chk.ga ?_ | simp -dsimp [h2, q3, h6, q7, h10, q11, o_h, o_h26, o_h29, o_h34, h37, h39, q40, h45, q46, h51, q52, h57, q58, h65, q66, h69])
            have hF := ob hF; obtain ⟨v73, e74, hF⟩ := hF
            refine ((C.laws_heldValue B hB1 hB2 (⟨v32.1.ctor, v32.1.n, v71.1⟩ : Vl.Value) (1 : Int) v73 e74)).lend (by first | simp -dsimp [h2, q3, h6, q7, h10, q11, o_h, o_h26, o_h29, o_h34, h37, h39, q40, h45, q46, h51, q52, h57, q58, h65, q66, h69]; done | simp_all) (by simp -dsimp) ?_
            repeat (first | refine chk.ga ?_ | simp -dsimp [h2, q3, h6, q7, h10, q11, o_h, o_h26, o_h29, o_h34, h37, h39, q40, h45, q46, h51, q52, h57, q58, h65, q66, h69])
            refine abr.split (fun h75 => ?_) (fun h75 => ?_)
            ·have q76 : (v73 < 0) := auq h75
             rw [if_pos q76] at hF
             cases hF
             repeat (first | refine chk.ga ?_ | simp -dsimp [h2, q3, h6, q7, h10, q11, o_h, o_h26, o_h29, o_h34, h37, h39, q40, h45, q46, h51, q52, h57, q58, h65, q66, h69, h75])
             all_goals (try first | omega | rfl)
            ·have q76 : ¬ (v73 < 0) := auq h75
             rw [if_neg q76] at hF
             repeat (first | refine chk.ga ?_ | simp -dsimp [h2, q3, h6, q7, h10, q11, o_h, o_h26, o_h29, o_h34, h37, h39, q40, h45, q46, h51, q52, h57, q58, h65, q66, h69, h75, q76])
             refine abr.split (fun h77 => ?_) (fun h77 => ?_)
             ·have q78 : ¬ (v73 = v71.2) := auq h77
              rw [if_neg q78] at hF
              cases hF
              repeat (first | refine chk.ga ?_ | simp -dsimp [h2, q3, h6, q7, h10, q11, o_h, o_h26, o_h29, o_h34, h37, h39, q40, h45, q46, h51, q52, h57, q58, h65, q66, h69, h75, q76, h77, q78])
              all_goals (try first | omega | rfl)
             ·have q78 : (v73 = v71.2) := auq h77
              rw [if_pos q78] at hF
              repeat (first | refine chk.ga ?_ | simp -dsimp [h2, q3, h6, q7, h10, q11, o_h, o_h26, o_h29, o_h34, h37, h39, q40, h45, q46, h51, q52, h57, q58, h65, q66, h69, h75, q76, h77, q78])
              refine ADraw.opn ?_
              refine ADraw.effF [] [0, 1, 2, 3, 4, 5, 6, 7, 8, 12, 9, 10, 11, 13, 14] [48] 8 [0, 1, 2, 3, 4, 5, 6, 7, 9, 8, 10, 11, 12, 13, 14] [122, 123, 124, 125, 126, 127, 128, 129] [(0, 0), (0, 3), (0, 0), (0, 3), (0, 0), (0, 3), (0, 0), (0, 3), (0, 3), (0, 3), (1, 2), (1, 2), (1, 3), (0, 3), (3, 3)] [1, 1, 1, 1, 1, 1, 1, 1, 1, 1, 1, 0, 0, 1, 1] [(0, 1), (0, 3), (0, 1), (0, 3), (0, 1), (0, 3), (0, 1), (0, 3), (0, 3), (0, 3), (2, 2), (2, 2), (2, 3), (0, 3), (3, 3)] [1, 1, 2, 1, 2, 1, 1, 1, 1, 1, 1, 1, 0, 1, 1] (by decide) follows (by kernel_rfl) (by kernel_rfl) (by kernel_rfl) (by kernel_rfl) (by kernel_rfl) (by kernel_rfl) (by kernel_rfl) (by kernel_rfl) (by kernel_rfl) (by kernel_rfl) (by kernel_rfl) (by kernel_rfl) (by kernel_rfl) (by kernel_rfl) (by kernel_rfl) rfl (by kernel_rfl) rfl ?_
              intro L hL
              simp only [permL_nil, permL_cons, List.getD_cons_zero, List.getD_cons_succ, List.toList_toArray] at hL
              subst hL
              repeat (first | refine chk.ga ?_ | simp -dsimp [h2, q3, h6, q7, h10, q11, o_h, o_h26, o_h29, o_h34, h37, h39, q40, h45, q46, h51, q52, h57, q58, h65, q66, h69, h75, q76, h77, q78])
              have hF := ob hF; obtain ⟨v79, e80, hF⟩ := hF
              refine ((C.laws_toDataS B hB1 hB2 aW v79 e80)).pgoW (by first | simp [h2, q3, h6, q7, h10, q11, o_h, o_h26, o_h29, o_h34, h37, h39, q40, h45, q46, h51, q52, h57, q58, h65, q66, h69, h75, q76, h77, q78]; done | simp_all) (by simp) ?_
              repeat (first | refine chk.ga ?_ | simp -dsimp [h2, q3, h6, q7, h10, q11, o_h, o_h26, o_h29, o_h34, h37, h39, q40, h45, q46, h51, q52, h57, q58, h65, q66, h69, h75, q76, h77, q78])
              have hF := ob hF; obtain ⟨v81, e82, hF⟩ := hF
              refine ((C.laws_toType B hB1 hB2 aT v81 e82)).pgoW (by first | simp [h2, q3, h6, q7, h10, q11, o_h, o_h26, o_h29, o_h34, h37, h39, q40, h45, q46, h51, q52, h57, q58, h65, q66, h69, h75, q76, h77, q78]; done | simp_all) (by simp) ?_
              repeat (first | refine chk.ga ?_ | simp -dsimp [h2, q3, h6, q7, h10, q11, o_h, o_h26, o_h29, o_h34, h37, h39, q40, h45, q46, h51, q52, h57, q58, h65, q66, h69, h75, q76, h77, q78])
              have hF := ob hF; obtain ⟨v83, e84, hF⟩ := hF
              refine (((CC.laws_toValue B hB1 hB2 ).1 aV v83 e84)).pgoW (by first | simp [h2, q3, h6, q7, h10, q11, o_h, o_h26, o_h29, o_h34, h37, h39, q40, h45, q46, h51, q52, h57, q58, h65, q66, h69, h75, q76, h77, q78]; done | simp_all) (by simp) ?_
              repeat (first | refine chk.ga ?_ | simp -dsimp [h2, q3, h6, q7, h10, q11, o_h, o_h26, o_h29, o_h34, h37, h39, q40, h45, q46, h51, q52, h57, q58, h65, q66, h69, h75, q76, h77, q78])
              have hF := ob hF; obtain ⟨v85, e86, hF⟩ := hF
              refine ((C.laws_toIntSS B hB1 hB2 aPaths v85 e86)).pgoW (by first | simp [h2, q3, h6, q7, h10, q11, o_h, o_h26, o_h29, o_h34, h37, h39, q40, h45, q46, h51, q52, h57, q58, h65, q66, h69, h75, q76, h77, q78]; done | simp_all) (by simp) ?_
              repeat (first | refine chk.ga ?_ | simp -dsimp [h2, q3, h6, q7, h10, q11, o_h, o_h26, o_h29, o_h34, h37, h39, q40, h45, q46, h51, q52, h57, q58, h65, q66, h69, h75, q76, h77, q78])
              refine ⟨holdI ?_, ?_⟩
              ·intro L2 hL2
               simp only [permL_nil, permL_cons, List.getD_cons_zero, List.getD_cons_succ, List.toList_toArray] at hL2
               subst hL2
               repeat (first | refine chk.ga ?_ | simp -dsimp [h2, q3, h6, q7, h10, q11, o_h, o_h26, o_h29, o_h34, h37, h39, q40, h45, q46, h51, q52, h57, q58, h65, q66, h69, h75, q76, h77, q78])
               refine ((C.laws_toDataS B hB1 hB2 aW v79 e80)).pgoW (by first | simp [h2, q3, h6, q7, h10, q11, o_h, o_h26, o_h29, o_h34, h37, h39, q40, h45, q46, h51, q52, h57, q58, h65, q66, h69, h75, q76, h77, q78]; done | simp_all) (by simp) ?_
               repeat (first | refine chk.ga ?_ | simp -dsimp [h2, q3, h6, q7, h10, q11, o_h, o_h26, o_h29, o_h34, h37, h39, q40, h45, q46, h51, q52, h57, q58, h65, q66, h69, h75, q76, h77, q78])
               refine ((C.laws_toType B hB1 hB2 aT v81 e82)).pgoW (by first | simp [h2, q3, h6, q7, h10, q11, o_h, o_h26, o_h29, o_h34, h37, h39, q40, h45, q46, h51, q52, h57, q58, h65, q66, h69, h75, q76, h77, q78]; done | simp_all) (by simp) ?_
               repeat (first | refine chk.ga ?_ | simp -dsimp [h2, q3, h6, q7, h10, q11, o_h, o_h26, o_h29, o_h34, h37, h39, q40, h45, q46, h51, q52, h57, q58, h65, q66, h69, h75, q76, h77, q78])
               refine (((CC.laws_toValue B hB1 hB2 ).1 aV v83 e84)).pgoW (by first | simp [h2, q3, h6, q7, h10, q11, o_h, o_h26, o_h29, o_h34, h37, h39, q40, h45, q46, h51, q52, h57, q58, h65, q66, h69, h75, q76, h77, q78]; done | simp_all) (by simp) ?_
               repeat (first | refine chk.ga ?_ | simp -dsimp [h2, q3, h6, q7, h10, q11, o_h, o_h26, o_h29, o_h34, h37, h39, q40, h45, q46, h51, q52, h57, q58, h65, q66, h69, h75, q76, h77, q78])
               refine ((C.laws_toIntSS B hB1 hB2 aPaths v85 e86)).pgoW (by first | simp [h2, q3, h6, q7, h10, q11, o_h, o_h26, o_h29, o_h34, h37, h39, q40, h45, q46, h51, q52, h57, q58, h65, q66, h69, h75, q76, h77, q78]; done | simp_all) (by simp) ?_
               repeat (first | refine chk.ga ?_ | simp -dsimp [h2, q3, h6, q7, h10, q11, o_h, o_h26, o_h29, o_h34, h37, h39, q40, h45, q46, h51, q52, h57, q58, h65, q66, h69, h75, q76, h77, q78])
               have hF := ob hF; obtain ⟨v87, e88, hF⟩ := hF
               refine ((C.impl_MaskValue__f B hB1 hB2 v79 v81 v83 v85 v87 e88)).ngo1 (by first | simp -dsimp [h2, q3, h6, q7, h10, q11, o_h, o_h26, o_h29, o_h34, h37, h39, q40, h45, q46, h51, q52, h57, q58, h65, q66, h69, h75, q76, h77, q78]; done | simp_all) (by simp) (fun h89 o_h89 => ?_)
               repeat (first | refine chk.ga ?_ | simp -dsimp [h2, q3, h6, q7, h10, q11, o_h, o_h26, o_h29, o_h34, h37, h39, q40, h45, q46, h51, q52, h57, q58, h65, q66, h69, h75, q76, h77, q78, o_h89])
               have hF := ob hF; obtain ⟨v90, e91, hF⟩ := hF
               refine (((CC.laws_eqValue B hB1 hB2 ).1 v87.1 v20.1 v90 e91)).lend (by first | simp -dsimp [h2, q3, h6, q7, h10, q11, o_h, o_h26, o_h29, o_h34, h37, h39, q40, h45, q46, h51, q52, h57, q58, h65, q66, h69, h75, q76, h77, q78, o_h89]; done | simp_all) (by simp -dsimp) ?_
               repeat (first | refine chk.ga ?_ | simp -dsimp [h2, q3, h6, q7, h10, q11, o_h, o_h26, o_h29, o_h34, h37, h39, q40, h45, q46, h51, q52, h57, q58, h65, q66, h69, h75, q76, h77, q78, o_h89])
               refine abr.split (fun h92 => ?_) (fun h92 => ?_)
               ·have q93 : (v90 = true) := auq h92
                rw [if_pos q93] at hF
                repeat (first | refine chk.ga ?_ | simp -dsimp [h2, q3, h6, q7, h10, q11, o_h, o_h26, o_h29, o_h34, h37, h39, q40, h45, q46, h51, q52, h57, q58, h65, q66, h69, h75, q76, h77, q78, o_h89, h92])
                refine abr.split (fun h94 => ?_) (fun h94 => ?_)
                ·have q95 : ¬ (v87.2 = v20.2) := auq h94
                 rw [if_neg q95] at hF
                 cases hF
                 repeat (first | refine chk.ga ?_ | simp -dsimp [h2, q3, h6, q7, h10, q11, o_h, o_h26, o_h29, o_h34, h37, h39, q40, h45, q46, h51, q52, h57, q58, h65, q66, h69, h75, q76, h77, q78, o_h89, h92, h94, q95])
                 all_goals (try first | omega | rfl)
                ·have q95 : (v87.2 = v20.2) := auq h94
                 rw [if_pos q95] at hF
                 repeat (first | refine chk.ga ?_ | simp -dsimp [h2, q3, h6, q7, h10, q11, o_h, o_h26, o_h29, o_h34, h37, h39, q40, h45, q46, h51, q52, h57, q58, h65, q66, h69, h75, q76, h77, q78, o_h89, h92, h94, q95])
                 have hF := ob hF; obtain ⟨v96, e97, hF⟩ := hF
                 refine ((C.laws_heldValue B hB1 hB2 (⟨v32.1.ctor, v32.1.n, v71.1⟩ : Vl.Value) (1 : Int) v96 e97)).lend (by first | simp -dsimp [h2, q3, h6, q7, h10, q11, o_h, o_h26, o_h29, o_h34, h37, h39, q40, h45, q46, h51, q52, h57, q58, h65, q66, h69, h75, q76, h77, q78, o_h89, h92, h94, q95]; done | simp_all) (by simp -dsimp) ?_
                 repeat (first | refine chk.ga ?_ | simp -dsimp [h2, q3, h6, q7, h10, q11, o_h, o_h26, o_h29, o_h34, h37, h39, q40, h45, q46, h51, q52, h57, q58, h65, q66, h69, h75, q76, h77, q78, o_h89, h92, h94, q95])
                 refine abr.split (fun h98 => ?_) (fun h98 => ?_)
                 ·have q99 : (v96 < 0) := auq h98
                  rw [if_pos q99] at hF
                  cases hF
                  repeat (first | refine chk.ga ?_ | simp -dsimp [h2, q3, h6, q7, h10, q11, o_h, o_h26, o_h29, o_h34, h37, h39, q40, h45, q46, h51, q52, h57, q58, h65, q66, h69, h75, q76, h77, q78, o_h89, h92, h94, q95, h98])
                  all_goals (try first | omega | rfl)
                 ·have q99 : ¬ (v96 < 0) := auq h98
                  rw [if_neg q99] at hF
                  repeat (first | refine chk.ga ?_ | simp -dsimp [h2, q3, h6, q7, h10, q11, o_h, o_h26, o_h29, o_h34, h37, h39, q40, h45, q46, h51, q52, h57, q58, h65, q66, h69, h75, q76, h77, q78, o_h89, h92, h94, q95, h98, q99])
                  refine abr.split (fun h100 => ?_) (fun h100 => ?_)
                  ·have q101 : ¬ (v96 = v71.2) := auq h100
                   rw [if_neg q101] at hF
                   cases hF
                   repeat (first | refine chk.ga ?_ | simp -dsimp [h2, q3, h6, q7, h10, q11, o_h, o_h26, o_h29, o_h34, h37, h39, q40, h45, q46, h51, q52, h57, q58, h65, q66, h69, h75, q76, h77, q78, o_h89, h92, h94, q95, h98, q99, h100, q101])
                   all_goals (try first | omega | rfl)
                  ·have q101 : (v96 = v71.2) := auq h100
                   rw [if_pos q101] at hF
                   cases hF
                   repeat (first | refine chk.ga ?_ | simp -dsimp [h2, q3, h6, q7, h10, q11, o_h, o_h26, o_h29, o_h34, h37, h39, q40, h45, q46, h51, q52, h57, q58, h65, q66, h69, h75, q76, h77, q78, o_h89, h92, h94, q95, h98, q99, h100, q101])
                   all_goals (try first | omega | rfl)
               ·have q93 : ¬ (v90 = true) := auq h92
                rw [if_neg q93] at hF
                cases hF
                repeat (first | refine chk.ga ?_ | simp -dsimp [h2, q3, h6, q7, h10, q11, o_h, o_h26, o_h29, o_h34, h37, h39, q40, h45, q46, h51, q52, h57, q58, h65, q66, h69, h75, q76, h77, q78, o_h89, h92, q93])
                all_goals (try first | omega | rfl)
              ·have hF := ob hF; obtain ⟨v87, e88, hF⟩ := hF
               refine ((C.impl_MaskValue__f B hB1 hB2 v79 v81 v83 v85 v87 e88)).ngo1 (by first | simp -dsimp [h2, q3, h6, q7, h10, q11, o_h, o_h26, o_h29, o_h34, h37, h39, q40, h45, q46, h51, q52, h57, q58, h65, q66, h69, h75, q76, h77, q78]; done | simp_all) (by simp) (fun h89 o_h89 => ?_)
               repeat (first | refine chk.ga ?_ | simp -dsimp [h2, q3, h6, q7, h10, q11, o_h, o_h26, o_h29, o_h34, h37, h39, q40, h45, q46, h51, q52, h57, q58, h65, q66, h69, h75, q76, h77, q78, o_h89])
               have hF := ob hF; obtain ⟨v90, e91, hF⟩ := hF
               refine (((CC.laws_eqValue B hB1 hB2 ).1 v87.1 v20.1 v90 e91)).lend (by first | simp -dsimp [h2, q3, h6, q7, h10, q11, o_h, o_h26, o_h29, o_h34, h37, h39, q40, h45, q46, h51, q52, h57, q58, h65, q66, h69, h75, q76, h77, q78, o_h89]; done | simp_all) (by simp -dsimp) ?_
               repeat (first | refine chk.ga ?_ | simp -dsimp [h2, q3, h6, q7, h10, q11, o_h, o_h26, o_h29, o_h34, h37, h39, q40, h45, q46, h51, q52, h57, q58, h65, q66, h69, h75, q76, h77, q78, o_h89])
               refine abr.split (fun h92 => ?_) (fun h92 => ?_)
               ·have q93 : (v90 = true) := auq h92
                rw [if_pos q93] at hF
                repeat (first | refine chk.ga ?_ | simp -dsimp [h2, q3, h6, q7, h10, q11, o_h, o_h26, o_h29, o_h34, h37, h39, q40, h45, q46, h51, q52, h57, q58, h65, q66, h69, h75, q76, h77, q78, o_h89, h92])
                refine abr.split (fun h94 => ?_) (fun h94 => ?_)
                ·have q95 : ¬ (v87.2 = v20.2) := auq h94
                 rw [if_neg q95] at hF
                 cases hF
                 repeat (first | refine chk.ga ?_ | simp -dsimp [h2, q3, h6, q7, h10, q11, o_h, o_h26, o_h29, o_h34, h37, h39, q40, h45, q46, h51, q52, h57, q58, h65, q66, h69, h75, q76, h77, q78, o_h89, h92, h94, q95])
                 all_goals (try first | omega | rfl)
                ·have q95 : (v87.2 = v20.2) := auq h94
                 rw [if_pos q95] at hF
                 repeat (first | refine chk.ga ?_ | simp -dsimp [h2, q3, h6, q7, h10, q11, o_h, o_h26, o_h29, o_h34, h37, h39, q40, h45, q46, h51, q52, h57, q58, h65, q66, h69, h75, q76, h77, q78, o_h89, h92, h94, q95])
                 have hF := ob hF; obtain ⟨v96, e97, hF⟩ := hF
                 refine ((C.laws_heldValue B hB1 hB2 (⟨v32.1.ctor, v32.1.n, v71.1⟩ : Vl.Value) (1 : Int) v96 e97)).lend (by first | simp -dsimp [h2, q3, h6, q7, h10, q11, o_h, o_h26, o_h29, o_h34, h37, h39, q40, h45, q46, h51, q52, h57, q58, h65, q66, h69, h75, q76, h77, q78, o_h89, h92, h94, q95]; done | simp_all) (by simp -dsimp) ?_
                 repeat (first | refine chk.ga ?_ | simp -dsimp [h2, q3, h6, q7, h10, q11, o_h, o_h26, o_h29, o_h34, h37, h39, q40, h45, q46, h51, q52, h57, q58, h65, q66, h69, h75, q76, h77, q78, o_h89, h92, h94, q95])
                 refine abr.split (fun h98 => ?_) (fun h98 => ?_)
                 ·have q99 : (v96 < 0) := auq h98
                  rw [if_pos q99] at hF
                  cases hF
                  repeat (first | refine chk.ga ?_ | simp -dsimp [h2, q3, h6, q7, h10, q11, o_h, o_h26, o_h29, o_h34, h37, h39, q40, h45, q46, h51, q52, h57, q58, h65, q66, h69, h75, q76, h77, q78, o_h89, h92, h94, q95, h98])
                  all_goals (try first | omega | rfl)
                 ·have q99 : ¬ (v96 < 0) := auq h98
                  rw [if_neg q99] at hF
                  repeat (first | refine chk.ga ?_ | simp -dsimp [h2, q3, h6, q7, h10, q11, o_h, o_h26, o_h29, o_h34, h37, h39, q40, h45, q46, h51, q52, h57, q58, h65, q66, h69, h75, q76, h77, q78, o_h89, h92, h94, q95, h98, q99])
                  refine abr.split (fun h100 => ?_) (fun h100 => ?_)
                  ·have q101 : ¬ (v96 = v71.2) := auq h100
                   rw [if_neg q101] at hF
                   cases hF
                   repeat (first | refine chk.ga ?_ | simp -dsimp [h2, q3, h6, q7, h10, q11, o_h, o_h26, o_h29, o_h34, h37, h39, q40, h45, q46, h51, q52, h57, q58, h65, q66, h69, h75, q76, h77, q78, o_h89, h92, h94, q95, h98, q99, h100, q101])
                   all_goals (try first | omega | rfl)
                  ·have q101 : (v96 = v71.2) := auq h100
                   rw [if_pos q101] at hF
                   cases hF
                   repeat (first | refine chk.ga ?_ | simp -dsimp [h2, q3, h6, q7, h10, q11, o_h, o_h26, o_h29, o_h34, h37, h39, q40, h45, q46, h51, q52, h57, q58, h65, q66, h69, h75, q76, h77, q78, o_h89, h92, h94, q95, h98, q99, h100, q101])
                   all_goals (try first | omega | rfl)
               ·have q93 : ¬ (v90 = true) := auq h92
                rw [if_neg q93] at hF
                cases hF
                repeat (first | refine chk.ga ?_ | simp -dsimp [h2, q3, h6, q7, h10, q11, o_h, o_h26, o_h29, o_h34, h37, h39, q40, h45, q46, h51, q52, h57, q58, h65, q66, h69, h75, q76, h77, q78, o_h89, h92, q93])
                all_goals (try first | omega | rfl)
           ·have q70 : ¬ (v67 = true) := auq h69
            rw [if_neg q70] at hF
            cases hF
            repeat (first | refine chk.ga ?_ | simp -dsimp [h2, q3, h6, q7, h10, q11, o_h, o_h26, o_h29, o_h34, h37, h39, q40, h45, q46, h51, q52, h57, q58, h65, q66, h69, q70])
            all_goals (try first | omega | rfl)
          ·have q66 : (v63.2 < 0) := auq h65
           rw [if_pos q66] at hF
           cases hF
           repeat (first | refine chk.ga ?_ | simp -dsimp [h2, q3, h6, q7, h10, q11, o_h, o_h26, o_h29, o_h34, h37, h39, q40, h45, q46, h51, q52, h57, q58, h65, q66])
           all_goals (try first | omega | rfl)
     ·have q38 : ¬ (v35 = true) := auq h37
      rw [if_neg q38] at hF
      cases hF
      repeat (first | refine chk.ga ?_ | simp -dsimp [h2, q3, h6, q7, h10, q11, o_h, o_h26, o_h29, o_h34, h37, q38])
      all_goals (try first | omega | rfl)

end Go.Proofs.Ytelglbenbnkjmaa
