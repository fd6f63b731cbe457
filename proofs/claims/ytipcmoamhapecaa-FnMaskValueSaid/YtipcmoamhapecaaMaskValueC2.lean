/- The contracts: the code computes the functions (printed by gen.py). -/
import Derived.Test.YtipcmoamhapecaaProg
import Derived.Test.YtipcmoamhapecaaMaskValueF
import Derived.Test.YtipcmoamhapecaaMaskValueC1
namespace Go.Proofs.Ytipcmoamhapecaa
open Go Go.Proofs Go.Vl
set_option linter.unusedSimpArgs false
set_option linter.unusedVariables false

attribute [local irreducible] ECallA aL AMake MLoop AgainM LeaveM awpM aopsM MutCall BCall chk abr ACall ALoop ALoopU ADraw Again Leave PCallA PCall Post awp aops PureCall hold

set_option maxRecDepth 100000 in
set_option maxHeartbeats 4000000 in
theorem CC.spec_l2Draw (B : Nat) (hB1 : 67108864 ≤ B) (hB2 : B ≤ 9223372036854775807) (w : List Vl.Data) (table : List Int) : (∀ (r' : Vl.T_spec_l17Rd) (t : Vl.Ty) (depth : Int) (r : Vl.Value × Vl.T_spec_l17Rd), F.spec_l2Draw r' w table t depth = some r → MutCall Try.prog B 52 [.arr (List.map cU r'.f0), .lit (.int .i64 r'.f1)] [.ptr 0 0, .arr (List.map Vl.Data.c w), .arr (List.map cI table), .agg [.lit (.int .i64 t.data), .lit (.int .i64 t.index)], .lit (.int .i64 depth)] (.agg [.lit (.int .i64 r.1.ctor), .lit (.int .i64 r.1.n), .arr (List.map Vl.Value.c r.1.kids)]) [.arr (List.map cU r.2.f0), .lit (.int .i64 r.2.f1)]) ∧
  (∀ (depth : Int) (x29 : Int) (v31 : List Vl.Ty) (z : List Int) (z33 : Int) (out : List Vl.Value) (i34 : Nat) (o : (List Int) × Int × (List Vl.Value)), F.spec_l2Draw_l2 w table depth x29 v31 z z33 out i34 = some o → ∀ (c : Code), navO [1, 1, 1, 1, 1, 1, 1, 0, 1, 0, 0] (bodyOf Try.f52) = some c → ∀ (Q : Exit → ASt → Prop), Q (.exit 2) ⟨[(10, .ptr 2 0), (15, .ptr 4 0)], [.cells [.arr (List.map cU o.1), .lit (.int .i64 o.2.1)], .dead, .cells [.lit (.int .i64 0), .lit (.int .i64 0), .lit (.slice none 0 0)], .dead, .cells [.lit (.int .i64 x29), .lit (.int .i64 0), .own 5 (List.length (α := Vl.Value) o.2.2)], .elems 3 (List.map Vl.Value.c o.2.2)]⟩ → ALoopU Try.prog B 1 98 (hold c .mk) ⟨[(0, .ptr 0 0), (1, .arr (List.map Vl.Data.c w)), (2, .arr (List.map cI table)), (4, .lit (.int .i64 depth)), (10, .ptr 2 0), (15, .ptr 4 0), (16, .arr (List.map Vl.Ty.c v31)), (17, .lit (.int .i64 (i34 : Int)))], [.cells [.arr (List.map cU z), .lit (.int .i64 z33)], .dead, .cells [.lit (.int .i64 0), .lit (.int .i64 0), .lit (.slice none 0 0)], .dead, .cells [.lit (.int .i64 x29), .lit (.int .i64 0), .own 5 (List.length (α := Vl.Value) out)], .elems 3 (List.map Vl.Value.c out)]⟩ (hold Q .mk)) := by
 refine F.spec_l2Draw.mutual_partial_correctness w table
  (fun r' t depth r => MutCall Try.prog B 52 [.arr (List.map cU r'.f0), .lit (.int .i64 r'.f1)] [.ptr 0 0, .arr (List.map Vl.Data.c w), .arr (List.map cI table), .agg [.lit (.int .i64 t.data), .lit (.int .i64 t.index)], .lit (.int .i64 depth)] (.agg [.lit (.int .i64 r.1.ctor), .lit (.int .i64 r.1.n), .arr (List.map Vl.Value.c r.1.kids)]) [.arr (List.map cU r.2.f0), .lit (.int .i64 r.2.f1)])
  (fun depth x29 v31 z z33 out i34 o => ∀ (c : Code), navO [1, 1, 1, 1, 1, 1, 1, 0, 1, 0, 0] (bodyOf Try.f52) = some c → ∀ (Q : Exit → ASt → Prop), Q (.exit 2) ⟨[(10, .ptr 2 0), (15, .ptr 4 0)], [.cells [.arr (List.map cU o.1), .lit (.int .i64 o.2.1)], .dead, .cells [.lit (.int .i64 0), .lit (.int .i64 0), .lit (.slice none 0 0)], .dead, .cells [.lit (.int .i64 x29), .lit (.int .i64 0), .own 5 (List.length (α := Vl.Value) o.2.2)], .elems 3 (List.map Vl.Value.c o.2.2)]⟩ → ALoopU Try.prog B 1 98 (hold c .mk) ⟨[(0, .ptr 0 0), (1, .arr (List.map Vl.Data.c w)), (2, .arr (List.map cI table)), (4, .lit (.int .i64 depth)), (10, .ptr 2 0), (15, .ptr 4 0), (16, .arr (List.map Vl.Ty.c v31)), (17, .lit (.int .i64 (i34 : Int)))], [.cells [.arr (List.map cU z), .lit (.int .i64 z33)], .dead, .cells [.lit (.int .i64 0), .lit (.int .i64 0), .lit (.slice none 0 0)], .dead, .cells [.lit (.int .i64 x29), .lit (.int .i64 0), .own 5 (List.length (α := Vl.Value) out)], .elems 3 (List.map Vl.Value.c out)]⟩ (hold Q .mk))
  ?_ ?_
 ·intro _f_spec_l2Draw_l2 ih_spec_l2Draw_l2 r' t depth r hF
  refine MutCall.enter Try.func52 (by kernel_rfl) rfl Try.ntmps52 (by simp) (by simp) (by simp) (by simp) ?_
  repeat (first | refine chk.ga ?_ | simp -dsimp)
  refine abr.split (fun h1 => ?_) (fun h1 => ?_)
  ·have q2 : (t.data = (-1)) := auq h1
   rw [if_pos q2] at hF
   repeat (first | refine chk.ga ?_ | simp -dsimp [h1])
   have hF := ob hF; obtain ⟨v, e3, hF⟩ := hF
   refine ((C.spec_l17Rd_pick B hB1 hB2 r' (10 : Int) v e3)).go 0 rfl (by first | simp [h1]; done | simp_all) (by simp) (by first | simp [h1]; done | simp_all) ?_
   cases hF
   repeat (first | refine chk.ga ?_ | simp -dsimp [h1])
   all_goals (try omega)
  ·have q2 : ¬ (t.data = (-1)) := auq h1
   rw [if_neg q2] at hF
   repeat (first | refine chk.ga ?_ | simp -dsimp [h1, q2])
   have hF := ob hF; obtain ⟨v4, e5, hF⟩ := hF
   refine ((C.spec_l1Ctors B hB1 hB2 w t v4 e5)).goW (by first | simp [h1, q2]; done | simp_all) (by simp) ?_
   repeat (first | refine chk.ga ?_ | simp -dsimp [h1, q2])
   have hF := ob hF; obtain ⟨o', ho26, hF⟩ := hF
   refine ALoop.goU ⟨[(0, .ptr 0 0), (1, .arr (List.map Vl.Data.c w)), (2, .arr (List.map cI table)), (4, .lit (.int .i64 depth)), (8, .ptr 1 0), (10, .ptr 2 0), (11, .arr (List.map cI v4)), (12, .own 3 (List.length (α := Int) [])), (13, .lit (.int .i64 (0 : Int)))], [.cells [.arr (List.map cU r'.f0), .lit (.int .i64 r'.f1)], .cells [.lit (.int .i64 t.data), .lit (.int .i64 t.index)], .cells [.lit (.int .i64 0), .lit (.int .i64 0), .lit (.slice none 0 0)], .elems 1 (List.map cI [])]⟩ (Gh.to3 (by simp) (by first | simp -dsimp [h1, q2]; done | simp_all)) ?_
   refine (C.spec_l2Draw_l1 B hB1 hB2 r' w table t depth v4 [] 0 o' ho26) _ rfl _ ?_
   repeat (first | refine chk.ga ?_ | simp -dsimp)
   have hF := ob hF; obtain ⟨v27, e28, hF⟩ := hF
   refine ((C.spec_l17Rd_pick B hB1 hB2 r' (o'.length : Int) v27 e28)).go 0 rfl (by simp) (by simp) (by simp) ?_
   have hF := ob hF; obtain ⟨x29, e30a, hF⟩ := hF
   have e30a := at_some e30a; obtain ⟨ne30, e30⟩ := e30a
   have le30 := lt_of_get e30
   repeat (first | refine chk.ga ?_ | simp -dsimp [↓e30])
   have hF := ob hF; obtain ⟨v31, e32, hF⟩ := hF
   refine ((C.spec_l1Args B hB1 hB2 w t x29 v31 e32)).goW (by first | simp [↓e30]; done | simp_all) (by simp) ?_
   repeat (first | refine chk.ga ?_ | simp -dsimp [↓e30])
   have hF := ob hF; obtain ⟨o'45, ho44, hF⟩ := hF
   refine ALoop.goU ⟨[(0, .ptr 0 0), (1, .arr (List.map Vl.Data.c w)), (2, .arr (List.map cI table)), (4, .lit (.int .i64 depth)), (10, .ptr 2 0), (15, .ptr 4 0), (16, .arr (List.map Vl.Ty.c v31)), (17, .lit (.int .i64 (0 : Int)))], [.cells [.arr (List.map cU v27.2.f0), .lit (.int .i64 v27.2.f1)], .dead, .cells [.lit (.int .i64 0), .lit (.int .i64 0), .lit (.slice none 0 0)], .dead, .cells [.lit (.int .i64 x29), .lit (.int .i64 0), .own 5 (List.length (α := Vl.Value) [])], .elems 3 (List.map Vl.Value.c [])]⟩ ((Gh.nilCell 4 2 3 (by simp -dsimp; rfl) (by simp -dsimp)).trans (Gh.to3 (by simp) (by first | simp -dsimp [↓e30]; done | simp_all))) ?_
   refine (ih_spec_l2Draw_l2 depth x29 v31 v27.2.f0 v27.2.f1 [] 0 o'45 ho44) _ rfl _ ?_
   cases hF
   repeat (first | refine chk.ga ?_ | simp -dsimp)
   all_goals (try omega)
 ·intro _f_spec_l2Draw _f_spec_l2Draw_l2 ih_spec_l2Draw ih_spec_l2Draw_l2 depth x29 v31 z z33 out i34 o hF
  intro c hc Q hq
  obtain rfl : c = _ := navEq hc rfl
  refine ALoopU.know fun hk hs => ?_
  have b1 := hk 1
  simp -dsimp at b1
  have b2 := hk 2
  simp -dsimp at b2
  have b16 := hk 16
  simp -dsimp at b16
  have d0 := hs 0 _ rfl
  simp -dsimp [Blk.bnd] at d0
  have d5 := hs 5 _ rfl
  simp -dsimp [Blk.bnd] at d5
  clear hk hs
  refine ALoopU.enter ?_
  repeat (first | refine chk.ga ?_ | simp -dsimp)
  refine abr.split (fun h35 => ?_) (fun h35 => ?_)
  ·have q36 : (i34 < v31.length) := auq h35
   have z37 : ((i34 : Int) < (v31.length : Int)) := auz
   rw [if_pos q36] at hF
   repeat (first | refine chk.ga ?_ | simp -dsimp [h35, z37])
   refine ADraw.eff [52] [(0, 2), (0, 2), (0, 0), (0, 0), (0, 0), (0, 0), (0, 0), (0, 0), (0, 0), (0, 0), (0, 0), (0, 4), (0, 4), (0, 4), (3, 3), (0, 4)] [0, 2, 1, 1, 1, 1, 1, 1, 1, 1, 1, 1, 1, 1, 1, 1] follows (by kernel_rfl) (by kernel_rfl) (by kernel_rfl) ?_
   have hF := ob hF; obtain ⟨x38, e39, hF⟩ := hF
   have le39 := lt_of_get e39
   repeat (first | refine chk.ga ?_ | simp -dsimp [h35, z37, ↓e39])
   have hF := ob hF; obtain ⟨v40, e41, hF⟩ := hF
   refine ((ih_spec_l2Draw (⟨z, z33⟩ : Vl.T_spec_l17Rd) x38 (IntKind.i64.wrap (depth - 1)) v40 e41)).ego 0 rfl (by first | simp [h35, z37, ↓e39]; done | simp_all) (by simp) (by first | simp [h35, z37, ↓e39]; done | simp_all) ?_
   have hF := oc hF; obtain ⟨c42, hF⟩ := hF
   have w43 : IntKind.i64.wrap ((i34 : Int) + 1) = (i34 : Int) + 1 := wrap_in (by omega) (by omega)
   repeat (first | refine chk.ga ?_ | simp -dsimp [h35, z37, ↓e39, w43])
   refine Again.go ⟨[(0, .ptr 0 0), (1, .arr (List.map Vl.Data.c w)), (2, .arr (List.map cI table)), (4, .lit (.int .i64 depth)), (10, .ptr 2 0), (15, .ptr 4 0), (16, .arr (List.map Vl.Ty.c v31)), (17, .lit (.int .i64 ((i34 + 1) : Int)))], [.cells [.arr (List.map cU v40.2.f0), .lit (.int .i64 v40.2.f1)], .dead, .cells [.lit (.int .i64 0), .lit (.int .i64 0), .lit (.slice none 0 0)], .dead, .cells [.lit (.int .i64 x29), .lit (.int .i64 0), .own 5 (List.length (α := Vl.Value) (out ++ [v40.1]))], .elems 3 (List.map Vl.Value.c (out ++ [v40.1]))]⟩ (Gh.to3 (by simp) (by first | simp -dsimp [h35, z37, ↓e39, w43]; done | simp_all)) ?_
   exact (ih_spec_l2Draw_l2 depth x29 v31 v40.2.f0 v40.2.f1 (out ++ [v40.1]) (i34 + 1) o hF) _ rfl _ hq
  ·have q36 : ¬ (i34 < v31.length) := auq h35
   have z37 : ¬ ((i34 : Int) < (v31.length : Int)) := auz
   rw [if_neg q36] at hF
   cases hF
   repeat (first | refine chk.ga ?_ | simp -dsimp [h35, q36, z37])
   refine Leave.go ⟨[(10, .ptr 2 0), (15, .ptr 4 0)], [.cells [.arr (List.map cU z), .lit (.int .i64 z33)], .dead, .cells [.lit (.int .i64 0), .lit (.int .i64 0), .lit (.slice none 0 0)], .dead, .cells [.lit (.int .i64 x29), .lit (.int .i64 0), .own 5 (List.length (α := Vl.Value) out)], .elems 3 (List.map Vl.Value.c out)]⟩ (Gh.to3 (by simp) (by first | simp -dsimp [h35, q36, z37]; done | simp_all)) ?_
   exact hq

theorem C.spec_l2Draw (B : Nat) (hB1 : 67108864 ≤ B) (hB2 : B ≤ 9223372036854775807) (r' : Vl.T_spec_l17Rd) (w : List Vl.Data) (table : List Int) (t : Vl.Ty) (depth : Int) (r : Vl.Value × Vl.T_spec_l17Rd) (hF : F.spec_l2Draw r' w table t depth = some r) : MutCall Try.prog B 52 [.arr (List.map cU r'.f0), .lit (.int .i64 r'.f1)] [.ptr 0 0, .arr (List.map Vl.Data.c w), .arr (List.map cI table), .agg [.lit (.int .i64 t.data), .lit (.int .i64 t.index)], .lit (.int .i64 depth)] (.agg [.lit (.int .i64 r.1.ctor), .lit (.int .i64 r.1.n), .arr (List.map Vl.Value.c r.1.kids)]) [.arr (List.map cU r.2.f0), .lit (.int .i64 r.2.f1)] :=
 (CC.spec_l2Draw B hB1 hB2 w table).1 r' t depth r hF

theorem C.spec_l2Draw_l2 (B : Nat) (hB1 : 67108864 ≤ B) (hB2 : B ≤ 9223372036854775807) (w : List Vl.Data) (table : List Int) (depth : Int) (x29 : Int) (v31 : List Vl.Ty) (z : List Int) (z33 : Int) (out : List Vl.Value) (i34 : Nat) (o : (List Int) × Int × (List Vl.Value)) (hF : F.spec_l2Draw_l2 w table depth x29 v31 z z33 out i34 = some o) : ∀ (c : Code), navO [1, 1, 1, 1, 1, 1, 1, 0, 1, 0, 0] (bodyOf Try.f52) = some c → ∀ (Q : Exit → ASt → Prop), Q (.exit 2) ⟨[(10, .ptr 2 0), (15, .ptr 4 0)], [.cells [.arr (List.map cU o.1), .lit (.int .i64 o.2.1)], .dead, .cells [.lit (.int .i64 0), .lit (.int .i64 0), .lit (.slice none 0 0)], .dead, .cells [.lit (.int .i64 x29), .lit (.int .i64 0), .own 5 (List.length (α := Vl.Value) o.2.2)], .elems 3 (List.map Vl.Value.c o.2.2)]⟩ → ALoopU Try.prog B 1 98 (hold c .mk) ⟨[(0, .ptr 0 0), (1, .arr (List.map Vl.Data.c w)), (2, .arr (List.map cI table)), (4, .lit (.int .i64 depth)), (10, .ptr 2 0), (15, .ptr 4 0), (16, .arr (List.map Vl.Ty.c v31)), (17, .lit (.int .i64 (i34 : Int)))], [.cells [.arr (List.map cU z), .lit (.int .i64 z33)], .dead, .cells [.lit (.int .i64 0), .lit (.int .i64 0), .lit (.slice none 0 0)], .dead, .cells [.lit (.int .i64 x29), .lit (.int .i64 0), .own 5 (List.length (α := Vl.Value) out)], .elems 3 (List.map Vl.Value.c out)]⟩ (hold Q .mk) :=
 (CC.spec_l2Draw B hB1 hB2 w table).2 depth x29 v31 z z33 out i34 o hF

set_option maxRecDepth 100000 in
set_option maxHeartbeats 4000000 in
theorem C.spec_l2Typed (B : Nat) (hB1 : 67108864 ≤ B) (hB2 : B ≤ 9223372036854775807) (r' : Vl.T_spec_l17Rd) (r : (List Vl.Data) × Vl.Ty × Vl.Value × Vl.T_spec_l17Rd) (hF : F.spec_l2Typed r' = some r) : MutCall Try.prog B 25 [.arr (List.map cU r'.f0), .lit (.int .i64 r'.f1)] [.ptr 0 0] (.tup [.arr (List.map Vl.Data.c r.1), .agg [.lit (.int .i64 r.2.1.data), .lit (.int .i64 r.2.1.index)], .agg [.lit (.int .i64 r.2.2.1.ctor), .lit (.int .i64 r.2.2.1.n), .arr (List.map Vl.Value.c r.2.2.1.kids)]]) [.arr (List.map cU r.2.2.2.f0), .lit (.int .i64 r.2.2.2.f1)] := by
 unfold F.spec_l2Typed at hF
 refine MutCall.enter Try.func25 (by kernel_rfl) rfl Try.ntmps25 (by simp) (by simp) (by simp) (by simp) ?_
 repeat (first | refine chk.ga ?_ | simp -dsimp)
 have hF := ob hF; obtain ⟨v, e1, hF⟩ := hF
 refine ((C.spec_l1World B hB1 hB2 r' v e1)).go 0 rfl (by simp) (by simp) (by simp) ?_
 repeat (first | refine chk.ga ?_ | simp -dsimp)
 have hF := ob hF; obtain ⟨v2, e3, hF⟩ := hF
 refine ((C.spec_l1Table B hB1 hB2 v.1 v2 e3)).goW (by simp) (by simp) ?_
 repeat (first | refine chk.ga ?_ | simp -dsimp)
 have hF := ob hF; obtain ⟨v4, e5, hF⟩ := hF
 refine ((C.spec_l17Rd_pick B hB1 hB2 v.2 (v.1.length : Int) v4 e5)).go 0 rfl (by simp) (by simp) (by simp) ?_
 repeat (first | refine chk.ga ?_ | simp -dsimp)
 have hF := ob hF; obtain ⟨v6, e7, hF⟩ := hF
 refine ACall.frz ?_ ((C.spec_l17Rd_num B hB1 hB2 v4.2 [(0 : Int), (0 : Int), (1 : Int), (2 : Int)] v6 e7)).ent
 repeat (first | refine chk.ga ?_ | simp -dsimp)
 refine ((C.spec_l17Rd_num B hB1 hB2 v4.2 [(0 : Int), (0 : Int), (1 : Int), (2 : Int)] v6 e7)).go 0 rfl (by simp) (by simp) (by simp) ?_
 repeat (first | refine chk.ga ?_ | simp -dsimp)
 have hF := ob hF; obtain ⟨v8, e9, hF⟩ := hF
 refine ((C.spec_l1Depth B hB1 hB2 v2 (⟨v4.1, v6.1⟩ : Vl.Ty) v8 e9)).goW (by simp) (by simp) ?_
 repeat (first | refine chk.ga ?_ | simp -dsimp)
 refine abr.split (fun h10 => ?_) (fun h10 => ?_)
 ·have q11 : (v8 = 0) := auq h10
  rw [if_pos q11] at hF
  repeat (first | refine chk.ga ?_ | simp -dsimp [eq_true h10])
  refine ADraw.eff [40, 52] [(0, 3), (0, 3), (0, 2), (0, 2), (0, 2), (0, 2), (0, 1), (0, 5), (0, 5), (0, 5), (3, 3), (0, 5), (0, 5)] [1, 2, 1, 1, 1, 2, 1, 1, 1, 1, 1, 1, 1] follows (by kernel_rfl) (by kernel_rfl) (by kernel_rfl) ?_
  repeat (first | refine chk.ga ?_ | simp -dsimp [eq_true h10])
  have hF := ob hF; obtain ⟨v12, e13, hF⟩ := hF
  refine ECallA.frz ?_ ((C.spec_l17Rd_num B hB1 hB2 v6.2 [(3 : Int), (2 : Int), (4 : Int), (1 : Int)] v12 e13)).ent
  repeat (first | refine chk.ga ?_ | simp -dsimp [eq_true h10])
  refine ((C.spec_l17Rd_num B hB1 hB2 v6.2 [(3 : Int), (2 : Int), (4 : Int), (1 : Int)] v12 e13)).ego 0 rfl (by first | simp [eq_true h10]; done | simp_all) (by simp) (by first | simp [eq_true h10]; done | simp_all) ?_
  repeat (first | refine chk.ga ?_ | simp -dsimp [eq_true h10])
  have hF := ob hF; obtain ⟨v14, e15, hF⟩ := hF
  refine ((C.spec_l2Draw B hB1 hB2 v12.2 v.1 v2 (⟨(-1 : Int), (0 : Int)⟩ : Vl.Ty) v12.1 v14 e15)).ego 0 rfl (by first | simp [eq_true h10]; done | simp_all) (by simp) (by first | simp [eq_true h10]; done | simp_all) ?_
  cases hF
  repeat (first | refine chk.ga ?_ | simp -dsimp [eq_true h10])
  all_goals (try omega)
 ·have q11 : ¬ (v8 = 0) := auq h10
  rw [if_neg q11] at hF
  repeat (first | refine chk.ga ?_ | simp -dsimp [h10, q11])
  refine ADraw.eff [40, 52] [(0, 3), (0, 3), (0, 2), (0, 2), (0, 2), (0, 2), (0, 1), (0, 5), (0, 5), (0, 5), (3, 3), (0, 5), (0, 5)] [1, 2, 1, 1, 1, 2, 1, 1, 1, 1, 1, 1, 1] follows (by kernel_rfl) (by kernel_rfl) (by kernel_rfl) ?_
  repeat (first | refine chk.ga ?_ | simp -dsimp [h10, q11])
  have hF := ob hF; obtain ⟨v16, e17, hF⟩ := hF
  refine ECallA.frz ?_ ((C.spec_l17Rd_num B hB1 hB2 v6.2 [(3 : Int), (2 : Int), (4 : Int), (1 : Int)] v16 e17)).ent
  repeat (first | refine chk.ga ?_ | simp -dsimp [h10, q11])
  refine ((C.spec_l17Rd_num B hB1 hB2 v6.2 [(3 : Int), (2 : Int), (4 : Int), (1 : Int)] v16 e17)).ego 0 rfl (by first | simp [h10, q11]; done | simp_all) (by simp) (by first | simp [h10, q11]; done | simp_all) ?_
  repeat (first | refine chk.ga ?_ | simp -dsimp [h10, q11])
  have hF := ob hF; obtain ⟨v18, e19, hF⟩ := hF
  refine ((C.spec_l2Draw B hB1 hB2 v16.2 v.1 v2 (⟨v4.1, v6.1⟩ : Vl.Ty) v16.1 v18 e19)).ego 0 rfl (by first | simp [h10, q11]; done | simp_all) (by simp) (by first | simp [h10, q11]; done | simp_all) ?_
  cases hF
  repeat (first | refine chk.ga ?_ | simp -dsimp [h10, q11])
  all_goals (try omega)

set_option maxRecDepth 100000 in
set_option maxHeartbeats 4000000 in
theorem C.spec_l7Path (B : Nat) (hB1 : 67108864 ≤ B) (hB2 : B ≤ 9223372036854775807) (path : List Int) (i : Int) (r : List Int) (hF : F.spec_l7Path path i = some r) : PureCall Try.prog B 68 [.arr (List.map cI path), .lit (.int .i64 i)] (.arr (List.map cI r)) := by
 unfold F.spec_l7Path at hF
 refine PureCall.enterLe Try.func68 (by kernel_rfl) rfl Try.ntmps68 (by simp) (by simp) ?_
 have hF := oc hF; obtain ⟨c1, hF⟩ := hF
 have hF := oc hF; obtain ⟨c2, hF⟩ := hF
 cases hF
 repeat (first | refine chk.ga ?_ | simp -dsimp)
 all_goals (try omega)

set_option maxRecDepth 100000 in
set_option maxHeartbeats 4000000 in
theorem CC.spec_l10Paths (B : Nat) (hB1 : 67108864 ≤ B) (hB2 : B ≤ 9223372036854775807)  : (∀ (r' : Vl.T_spec_l17Rd) (out : List (List Int)) (v : Vl.Value) (path : List Int) (r : (List (List Int)) × Vl.T_spec_l17Rd), F.spec_l10Paths r' out v path = some r → BCall Try.prog B 39 [.cells [.arr (List.map cU r'.f0), .lit (.int .i64 r'.f1)], .elems 1 (List.map (cL cI) out)] [.ptr 0 0, .own 1 (List.length (α := List Int) out), .agg [.lit (.int .i64 v.ctor), .lit (.int .i64 v.n), .arr (List.map Vl.Value.c v.kids)], .arr (List.map cI path)] (.own 1 (List.length (α := List Int) r.1)) [.cells [.arr (List.map cU r.2.f0), .lit (.int .i64 r.2.f1)], .elems 1 (List.map (cL cI) r.1)]) ∧
  (∀ (v : Vl.Value) (path : List Int) (z18 : List Int) (z19 : Int) (out20 : List (List Int)) (i21 : Nat) (o : (List Int) × Int × (List (List Int))), F.spec_l10Paths_l2 v path z18 z19 out20 i21 = some o → ∀ (c : Code), navO [1, 1, 0, 1, 0, 0] (bodyOf Try.f39) = some c → ∀ (Q : Exit → ASt → Prop), Q (.exit 0) ⟨[(1, .own 1 (List.length (α := List Int) o.2.2))], [.cells [.arr (List.map cU o.1), .lit (.int .i64 o.2.1)], .elems 1 (List.map (cL cI) o.2.2)]⟩ → ALoopU Try.prog B 2 36 (hold c .mk) ⟨[(0, .ptr 0 0), (1, .own 1 (List.length (α := List Int) out20)), (3, .arr (List.map cI path)), (6, .ptr 2 0), (9, .lit (.int .i64 (i21 : Int)))], [.cells [.arr (List.map cU z18), .lit (.int .i64 z19)], .elems 1 (List.map (cL cI) out20), .cells [.lit (.int .i64 v.ctor), .lit (.int .i64 v.n), .arr (List.map Vl.Value.c v.kids)]]⟩ (hold Q .mk)) ∧
  (∀ (v : Vl.Value) (path : List Int) (z : List Int) (z6 : Int) (out7 : List (List Int)) (i : Nat) (o : (List Int) × Int × (List (List Int))), F.spec_l10Paths_l1 v path z z6 out7 i = some o → ∀ (c : Code), navO [1, 1, 0, 1, 0, 0] (bodyOf Try.f39) = some c → ∀ (Q : Exit → ASt → Prop), Q (.exit 0) ⟨[(1, .own 1 (List.length (α := List Int) o.2.2))], [.cells [.arr (List.map cU o.1), .lit (.int .i64 o.2.1)], .elems 1 (List.map (cL cI) o.2.2)]⟩ → ALoopU Try.prog B 2 36 (hold c .mk) ⟨[(0, .ptr 0 0), (1, .own 1 (List.length (α := List Int) out7)), (3, .arr (List.map cI path)), (6, .ptr 2 0), (9, .lit (.int .i64 (i : Int)))], [.cells [.arr (List.map cU z), .lit (.int .i64 z6)], .elems 1 (List.map (cL cI) out7), .cells [.lit (.int .i64 v.ctor), .lit (.int .i64 v.n), .arr (List.map Vl.Value.c v.kids)]]⟩ (hold Q .mk)) := by
 refine F.spec_l10Paths.mutual_partial_correctness 
  (fun r' out v path r => BCall Try.prog B 39 [.cells [.arr (List.map cU r'.f0), .lit (.int .i64 r'.f1)], .elems 1 (List.map (cL cI) out)] [.ptr 0 0, .own 1 (List.length (α := List Int) out), .agg [.lit (.int .i64 v.ctor), .lit (.int .i64 v.n), .arr (List.map Vl.Value.c v.kids)], .arr (List.map cI path)] (.own 1 (List.length (α := List Int) r.1)) [.cells [.arr (List.map cU r.2.f0), .lit (.int .i64 r.2.f1)], .elems 1 (List.map (cL cI) r.1)])
  (fun v path z18 z19 out20 i21 o => ∀ (c : Code), navO [1, 1, 0, 1, 0, 0] (bodyOf Try.f39) = some c → ∀ (Q : Exit → ASt → Prop), Q (.exit 0) ⟨[(1, .own 1 (List.length (α := List Int) o.2.2))], [.cells [.arr (List.map cU o.1), .lit (.int .i64 o.2.1)], .elems 1 (List.map (cL cI) o.2.2)]⟩ → ALoopU Try.prog B 2 36 (hold c .mk) ⟨[(0, .ptr 0 0), (1, .own 1 (List.length (α := List Int) out20)), (3, .arr (List.map cI path)), (6, .ptr 2 0), (9, .lit (.int .i64 (i21 : Int)))], [.cells [.arr (List.map cU z18), .lit (.int .i64 z19)], .elems 1 (List.map (cL cI) out20), .cells [.lit (.int .i64 v.ctor), .lit (.int .i64 v.n), .arr (List.map Vl.Value.c v.kids)]]⟩ (hold Q .mk))
  (fun v path z z6 out7 i o => ∀ (c : Code), navO [1, 1, 0, 1, 0, 0] (bodyOf Try.f39) = some c → ∀ (Q : Exit → ASt → Prop), Q (.exit 0) ⟨[(1, .own 1 (List.length (α := List Int) o.2.2))], [.cells [.arr (List.map cU o.1), .lit (.int .i64 o.2.1)], .elems 1 (List.map (cL cI) o.2.2)]⟩ → ALoopU Try.prog B 2 36 (hold c .mk) ⟨[(0, .ptr 0 0), (1, .own 1 (List.length (α := List Int) out7)), (3, .arr (List.map cI path)), (6, .ptr 2 0), (9, .lit (.int .i64 (i : Int)))], [.cells [.arr (List.map cU z), .lit (.int .i64 z6)], .elems 1 (List.map (cL cI) out7), .cells [.lit (.int .i64 v.ctor), .lit (.int .i64 v.n), .arr (List.map Vl.Value.c v.kids)]]⟩ (hold Q .mk))
  ?_ ?_ ?_
 ·intro _f_spec_l10Paths_l2 _f_spec_l10Paths_l1 ih_spec_l10Paths_l2 ih_spec_l10Paths_l1 r' out v path r hF
  refine BCall.enter Try.func39 (by kernel_rfl) rfl Try.ntmps39 (by simp) rfl (by simp) (by simp) (by simp) (by simp) (by simp) (Gh.refl _) ?_
  repeat (first | refine chk.ga ?_ | simp -dsimp)
  have hF := ob hF; obtain ⟨v1, e2, hF⟩ := hF
  refine ((C.spec_l17Rd_pick B hB1 hB2 r' (4 : Int) v1 e2)).go 0 rfl (by simp) (by simp) (by simp) ?_
  repeat (first | refine chk.ga ?_ | simp -dsimp)
  refine abr.split (fun h3 => ?_) (fun h3 => ?_)
  ·have q4 : (0 < v1.1) := auq h3
   rw [if_pos q4] at hF
   have hF := oc hF; obtain ⟨c5, hF⟩ := hF
   repeat (first | refine chk.ga ?_ | simp -dsimp [h3])
   have hF := ob hF; obtain ⟨o', ho17, hF⟩ := hF
   refine ALoop.goU ⟨[(0, .ptr 0 0), (1, .own 1 (List.length (α := List Int) (out ++ [path]))), (3, .arr (List.map cI path)), (6, .ptr 2 0), (9, .lit (.int .i64 (0 : Int)))], [.cells [.arr (List.map cU v1.2.f0), .lit (.int .i64 v1.2.f1)], .elems 1 (List.map (cL cI) (out ++ [path])), .cells [.lit (.int .i64 v.ctor), .lit (.int .i64 v.n), .arr (List.map Vl.Value.c v.kids)]]⟩ (Gh.to3 (by simp) (by first | simp -dsimp [h3]; done | simp_all)) ?_
   refine (ih_spec_l10Paths_l1 v path v1.2.f0 v1.2.f1 (out ++ [path]) 0 o' ho17) _ rfl _ ?_
   cases hF
   repeat (first | refine chk.ga ?_ | simp -dsimp)
   all_goals (try omega)
  ·have q4 : ¬ (0 < v1.1) := auq h3
   rw [if_neg q4] at hF
   repeat (first | refine chk.ga ?_ | simp -dsimp [h3, q4])
   have hF := ob hF; obtain ⟨o'33, ho32, hF⟩ := hF
   refine ALoop.goU ⟨[(0, .ptr 0 0), (1, .own 1 (List.length (α := List Int) out)), (3, .arr (List.map cI path)), (6, .ptr 2 0), (9, .lit (.int .i64 (0 : Int)))], [.cells [.arr (List.map cU v1.2.f0), .lit (.int .i64 v1.2.f1)], .elems 1 (List.map (cL cI) out), .cells [.lit (.int .i64 v.ctor), .lit (.int .i64 v.n), .arr (List.map Vl.Value.c v.kids)]]⟩ (Gh.to3 (by simp) (by first | simp -dsimp [h3, q4]; done | simp_all)) ?_
   refine (ih_spec_l10Paths_l2 v path v1.2.f0 v1.2.f1 out 0 o'33 ho32) _ rfl _ ?_
   cases hF
   repeat (first | refine chk.ga ?_ | simp -dsimp)
   all_goals (try omega)
 ·intro _f_spec_l10Paths _f_spec_l10Paths_l2 ih_spec_l10Paths ih_spec_l10Paths_l2 v path z18 z19 out20 i21 o hF
  intro c hc Q hq
  obtain rfl : c = _ := navEq hc rfl
  refine ALoopU.know fun hk hs => ?_
  have b3 := hk 3
  simp -dsimp at b3
  have d0 := hs 0 _ rfl
  simp -dsimp [Blk.bnd] at d0
  have d1 := hs 1 _ rfl
  simp -dsimp [Blk.bnd] at d1
  have d2 := hs 2 _ rfl
  simp -dsimp [Blk.bnd] at d2
  clear hk hs
  refine ALoopU.enter ?_
  repeat (first | refine chk.ga ?_ | simp -dsimp)
  refine abr.split (fun h22 => ?_) (fun h22 => ?_)
  ·have q23 : (i21 < v.kids.length) := auq h22
   have z24 : ((i21 : Int) < (v.kids.length : Int)) := auz
   rw [if_pos q23] at hF
   repeat (first | refine chk.ga ?_ | simp -dsimp [h22, z24])
   refine ADraw.eff [39] [(0, 0), (0, 0), (0, 0), (0, 0), (0, 0), (0, 0), (0, 0), (0, 0), (0, 0), (0, 1), (0, 1), (1, 1)] [1, 1, 1, 1, 1, 1, 1, 1, 1, 1, 1, 1] follows (by kernel_rfl) (by kernel_rfl) (by kernel_rfl) ?_
   have hF := ob hF; obtain ⟨x25, e26, hF⟩ := hF
   have le26 := lt_of_get e26
   repeat (first | refine chk.ga ?_ | simp -dsimp [h22, z24, ↓e26])
   have hF := ob hF; obtain ⟨v27, e28, hF⟩ := hF
   refine ((C.spec_l7Path B hB1 hB2 path (i21 : Int) v27 e28)).pgoW (by first | simp [h22, z24, ↓e26]; done | simp_all) (by simp) ?_
   repeat (first | refine chk.ga ?_ | simp -dsimp [h22, z24, ↓e26])
   have hF := ob hF; obtain ⟨v29, e30, hF⟩ := hF
   refine ((ih_spec_l10Paths (⟨z18, z19⟩ : Vl.T_spec_l17Rd) out20 x25 v27 v29 e30)).ego (pl [0, 1]) (by simp) (by simp) (plInj _ rfl (by decide)) (by intro i hi hi'; simp at hi hi'; first | omega | (subst hi'; simp [pl])) (by first | simp [h22, z24, ↓e26]; done | simp_all) (by first | simp [h22, z24, ↓e26]; done | simp_all) ?_
   have w31 : IntKind.i64.wrap ((i21 : Int) + 1) = (i21 : Int) + 1 := wrap_in (by omega) (by omega)
   repeat (first | refine chk.ga ?_ | simp -dsimp [h22, z24, ↓e26, w31])
   refine Again.go ⟨[(0, .ptr 0 0), (1, .own 1 (List.length (α := List Int) v29.1)), (3, .arr (List.map cI path)), (6, .ptr 2 0), (9, .lit (.int .i64 ((i21 + 1) : Int)))], [.cells [.arr (List.map cU v29.2.f0), .lit (.int .i64 v29.2.f1)], .elems 1 (List.map (cL cI) v29.1), .cells [.lit (.int .i64 v.ctor), .lit (.int .i64 v.n), .arr (List.map Vl.Value.c v.kids)]]⟩ (Gh.to3 (by simp) (by first | simp -dsimp [h22, z24, ↓e26, w31]; done | simp_all)) ?_
   exact (ih_spec_l10Paths_l2 v path v29.2.f0 v29.2.f1 v29.1 (i21 + 1) o hF) _ rfl _ hq
  ·have q23 : ¬ (i21 < v.kids.length) := auq h22
   have z24 : ¬ ((i21 : Int) < (v.kids.length : Int)) := auz
   rw [if_neg q23] at hF
   cases hF
   repeat (first | refine chk.ga ?_ | simp -dsimp [h22, q23, z24])
   refine Leave.go ⟨[(1, .own 1 (List.length (α := List Int) out20))], [.cells [.arr (List.map cU z18), .lit (.int .i64 z19)], .elems 1 (List.map (cL cI) out20)]⟩ (Gh.to3 (by simp) (by first | simp -dsimp [h22, q23, z24]; done | simp_all)) ?_
   exact hq
 ·intro _f_spec_l10Paths _f_spec_l10Paths_l1 ih_spec_l10Paths ih_spec_l10Paths_l1 v path z z6 out7 i o hF
  intro c hc Q hq
  obtain rfl : c = _ := navEq hc rfl
  refine ALoopU.know fun hk hs => ?_
  have b3 := hk 3
  simp -dsimp at b3
  have d0 := hs 0 _ rfl
  simp -dsimp [Blk.bnd] at d0
  have d1 := hs 1 _ rfl
  simp -dsimp [Blk.bnd] at d1
  have d2 := hs 2 _ rfl
  simp -dsimp [Blk.bnd] at d2
  clear hk hs
  refine ALoopU.enter ?_
  repeat (first | refine chk.ga ?_ | simp -dsimp)
  refine abr.split (fun h8 => ?_) (fun h8 => ?_)
  ·have q9 : (i < v.kids.length) := auq h8
   have z10 : ((i : Int) < (v.kids.length : Int)) := auz
   rw [if_pos q9] at hF
   repeat (first | refine chk.ga ?_ | simp -dsimp [h8, z10])
   refine ADraw.eff [39] [(0, 0), (0, 0), (0, 0), (0, 0), (0, 0), (0, 0), (0, 0), (0, 0), (0, 0), (0, 1), (0, 1), (1, 1)] [1, 1, 1, 1, 1, 1, 1, 1, 1, 1, 1, 1] follows (by kernel_rfl) (by kernel_rfl) (by kernel_rfl) ?_
   have hF := ob hF; obtain ⟨x, e11, hF⟩ := hF
   have le11 := lt_of_get e11
   repeat (first | refine chk.ga ?_ | simp -dsimp [h8, z10, ↓e11])
   have hF := ob hF; obtain ⟨v12, e13, hF⟩ := hF
   refine ((C.spec_l7Path B hB1 hB2 path (i : Int) v12 e13)).pgoW (by first | simp [h8, z10, ↓e11]; done | simp_all) (by simp) ?_
   repeat (first | refine chk.ga ?_ | simp -dsimp [h8, z10, ↓e11])
   have hF := ob hF; obtain ⟨v14, e15, hF⟩ := hF
   refine ((ih_spec_l10Paths (⟨z, z6⟩ : Vl.T_spec_l17Rd) out7 x v12 v14 e15)).ego (pl [0, 1]) (by simp) (by simp) (plInj _ rfl (by decide)) (by intro i hi hi'; simp at hi hi'; first | omega | (subst hi'; simp [pl])) (by first | simp [h8, z10, ↓e11]; done | simp_all) (by first | simp [h8, z10, ↓e11]; done | simp_all) ?_
   have w16 : IntKind.i64.wrap ((i : Int) + 1) = (i : Int) + 1 := wrap_in (by omega) (by omega)
   repeat (first | refine chk.ga ?_ | simp -dsimp [h8, z10, ↓e11, w16])
   refine Again.go ⟨[(0, .ptr 0 0), (1, .own 1 (List.length (α := List Int) v14.1)), (3, .arr (List.map cI path)), (6, .ptr 2 0), (9, .lit (.int .i64 ((i + 1) : Int)))], [.cells [.arr (List.map cU v14.2.f0), .lit (.int .i64 v14.2.f1)], .elems 1 (List.map (cL cI) v14.1), .cells [.lit (.int .i64 v.ctor), .lit (.int .i64 v.n), .arr (List.map Vl.Value.c v.kids)]]⟩ (Gh.to3 (by simp) (by first | simp -dsimp [h8, z10, ↓e11, w16]; done | simp_all)) ?_
   exact (ih_spec_l10Paths_l1 v path v14.2.f0 v14.2.f1 v14.1 (i + 1) o hF) _ rfl _ hq
  ·have q9 : ¬ (i < v.kids.length) := auq h8
   have z10 : ¬ ((i : Int) < (v.kids.length : Int)) := auz
   rw [if_neg q9] at hF
   cases hF
   repeat (first | refine chk.ga ?_ | simp -dsimp [h8, q9, z10])
   refine Leave.go ⟨[(1, .own 1 (List.length (α := List Int) out7))], [.cells [.arr (List.map cU z), .lit (.int .i64 z6)], .elems 1 (List.map (cL cI) out7)]⟩ (Gh.to3 (by simp) (by first | simp -dsimp [h8, q9, z10]; done | simp_all)) ?_
   exact hq

theorem C.spec_l10Paths (B : Nat) (hB1 : 67108864 ≤ B) (hB2 : B ≤ 9223372036854775807) (r' : Vl.T_spec_l17Rd) (out : List (List Int)) (v : Vl.Value) (path : List Int) (r : (List (List Int)) × Vl.T_spec_l17Rd) (hF : F.spec_l10Paths r' out v path = some r) : BCall Try.prog B 39 [.cells [.arr (List.map cU r'.f0), .lit (.int .i64 r'.f1)], .elems 1 (List.map (cL cI) out)] [.ptr 0 0, .own 1 (List.length (α := List Int) out), .agg [.lit (.int .i64 v.ctor), .lit (.int .i64 v.n), .arr (List.map Vl.Value.c v.kids)], .arr (List.map cI path)] (.own 1 (List.length (α := List Int) r.1)) [.cells [.arr (List.map cU r.2.f0), .lit (.int .i64 r.2.f1)], .elems 1 (List.map (cL cI) r.1)] :=
 (CC.spec_l10Paths B hB1 hB2 ).1 r' out v path r hF

theorem C.spec_l10Paths_l2 (B : Nat) (hB1 : 67108864 ≤ B) (hB2 : B ≤ 9223372036854775807) (v : Vl.Value) (path : List Int) (z18 : List Int) (z19 : Int) (out20 : List (List Int)) (i21 : Nat) (o : (List Int) × Int × (List (List Int))) (hF : F.spec_l10Paths_l2 v path z18 z19 out20 i21 = some o) : ∀ (c : Code), navO [1, 1, 0, 1, 0, 0] (bodyOf Try.f39) = some c → ∀ (Q : Exit → ASt → Prop), Q (.exit 0) ⟨[(1, .own 1 (List.length (α := List Int) o.2.2))], [.cells [.arr (List.map cU o.1), .lit (.int .i64 o.2.1)], .elems 1 (List.map (cL cI) o.2.2)]⟩ → ALoopU Try.prog B 2 36 (hold c .mk) ⟨[(0, .ptr 0 0), (1, .own 1 (List.length (α := List Int) out20)), (3, .arr (List.map cI path)), (6, .ptr 2 0), (9, .lit (.int .i64 (i21 : Int)))], [.cells [.arr (List.map cU z18), .lit (.int .i64 z19)], .elems 1 (List.map (cL cI) out20), .cells [.lit (.int .i64 v.ctor), .lit (.int .i64 v.n), .arr (List.map Vl.Value.c v.kids)]]⟩ (hold Q .mk) :=
 (CC.spec_l10Paths B hB1 hB2 ).2.1 v path z18 z19 out20 i21 o hF

theorem C.spec_l10Paths_l1 (B : Nat) (hB1 : 67108864 ≤ B) (hB2 : B ≤ 9223372036854775807) (v : Vl.Value) (path : List Int) (z : List Int) (z6 : Int) (out7 : List (List Int)) (i : Nat) (o : (List Int) × Int × (List (List Int))) (hF : F.spec_l10Paths_l1 v path z z6 out7 i = some o) : ∀ (c : Code), navO [1, 1, 0, 1, 0, 0] (bodyOf Try.f39) = some c → ∀ (Q : Exit → ASt → Prop), Q (.exit 0) ⟨[(1, .own 1 (List.length (α := List Int) o.2.2))], [.cells [.arr (List.map cU o.1), .lit (.int .i64 o.2.1)], .elems 1 (List.map (cL cI) o.2.2)]⟩ → ALoopU Try.prog B 2 36 (hold c .mk) ⟨[(0, .ptr 0 0), (1, .own 1 (List.length (α := List Int) out7)), (3, .arr (List.map cI path)), (6, .ptr 2 0), (9, .lit (.int .i64 (i : Int)))], [.cells [.arr (List.map cU z), .lit (.int .i64 z6)], .elems 1 (List.map (cL cI) out7), .cells [.lit (.int .i64 v.ctor), .lit (.int .i64 v.n), .arr (List.map Vl.Value.c v.kids)]]⟩ (hold Q .mk) :=
 (CC.spec_l10Paths B hB1 hB2 ).2.2 v path z z6 out7 i o hF

set_option maxRecDepth 100000 in
set_option maxHeartbeats 4000000 in
theorem C.spec_DrawMaskValue (B : Nat) (hB1 : 67108864 ≤ B) (hB2 : B ≤ 9223372036854775807) (code : List Int) (r : (List Vl.Data) × Vl.Ty × Vl.Value × (List (List Int))) (hF : F.spec_DrawMaskValue code = some r) : PureCall Try.prog B 19 [.arr (List.map cU code)] (.tup [.arr (List.map Vl.Data.c r.1), .agg [.lit (.int .i64 r.2.1.data), .lit (.int .i64 r.2.1.index)], .agg [.lit (.int .i64 r.2.2.1.ctor), .lit (.int .i64 r.2.2.1.n), .arr (List.map Vl.Value.c r.2.2.1.kids)], .arr (List.map (cL cI) r.2.2.2)]) := by
 unfold F.spec_DrawMaskValue at hF
 refine PureCall.enterLe Try.func19 (by kernel_rfl) rfl Try.ntmps19 (by simp) (by simp) ?_
 repeat (first | refine chk.ga ?_ | simp -dsimp)
 refine ACall.inl Try.func24 (by kernel_rfl) rfl Try.ntmps24 (by simp) ?_
 repeat (first | refine chk.ga ?_ | simp -dsimp)
 refine abr.split (fun h1 => ?_) (fun h1 => ?_)
 ·have q2 : (2000 < code.length) := auq h1
  have z3 : ((2000 : Int) < (code.length : Int)) := auz
  rw [if_pos q2] at hF
  have hF := oc hF; obtain ⟨c4, hF⟩ := hF
  repeat (first | refine chk.ga ?_ | simp -dsimp [h1, z3])
  have hF := ob hF; obtain ⟨v, e5, hF⟩ := hF
  refine ((C.spec_l2Typed B hB1 hB2 (⟨(code.drop 0).take (2000 - 0), (0 : Int)⟩ : Vl.T_spec_l17Rd) v e5)).go 2 rfl (by first | simp [h1, z3]; done | simp_all) (by simp) (by first | simp [h1, z3]; done | simp_all) ?_
  repeat (first | refine chk.ga ?_ | simp -dsimp [h1, z3])
  have hF := ob hF; obtain ⟨v6, e7, hF⟩ := hF
  refine ACall.frzAt 3 (l := 5) (n := List.length (α := Int) []) (sz := 1) (es := List.map cI []) (by simp) (by simp) (by simp) (by simp) ?_
  repeat (first | refine chk.ga ?_ | simp -dsimp [h1, z3])
  refine ACall.nilArg 1 1 (by simp) ?_
  repeat (first | refine chk.ga ?_ | simp -dsimp [h1, z3])
  refine ((C.spec_l10Paths B hB1 hB2 v.2.2.2 [] v.2.2.1 [] v6 e7)).go (pl [2, 6]) (by simp) (by simp) (plInj _ rfl (by decide)) (by intro i hi hi'; simp at hi hi'; first | omega | (subst hi'; simp [pl])) (by first | simp [h1, z3]; done | simp_all) (by first | simp [h1, z3]; done | simp_all) ?_
  repeat (first | refine chk.ga ?_ | simp -dsimp [h1, z3])
  have hF := ob hF; obtain ⟨v8, e9, hF⟩ := hF
  refine ((C.spec_l17Rd_pick B hB1 hB2 v6.2 (8 : Int) v8 e9)).go 2 rfl (by first | simp [h1, z3]; done | simp_all) (by simp) (by first | simp [h1, z3]; done | simp_all) ?_
  repeat (first | refine chk.ga ?_ | simp -dsimp [h1, z3])
  refine abr.split (fun h10 => ?_) (fun h10 => ?_)
  ·have q11 : (v8.1 = 0) := auq h10
   rw [if_pos q11] at hF
   repeat (first | refine chk.ga ?_ | simp -dsimp [h1, z3, h10])
   have hF := ob hF; obtain ⟨v12, e13, hF⟩ := hF
   refine ACall.frz ?_ ((C.spec_l17Rd_num B hB1 hB2 v8.2 [(0 : Int), (9 : Int), (-1 : Int)] v12 e13)).ent
   repeat (first | refine chk.ga ?_ | simp -dsimp [h1, z3, h10])
   refine ((C.spec_l17Rd_num B hB1 hB2 v8.2 [(0 : Int), (9 : Int), (-1 : Int)] v12 e13)).go 2 rfl (by first | simp [h1, z3, h10]; done | simp_all) (by simp) (by first | simp [h1, z3, h10]; done | simp_all) ?_
   have hF := oc hF; obtain ⟨c14, hF⟩ := hF
   repeat (first | refine chk.ga ?_ | simp -dsimp [h1, z3, h10])
   refine ADraw.eff [] [(0, 0), (0, 0), (0, 1), (0, 2), (0, 0), (0, 2), (0, 2), (2, 2)] [1, 1, 2, 1, 1, 1, 1, 1] follows (by kernel_rfl) (by kernel_rfl) (by kernel_rfl) ?_
   cases hF
   repeat (first | refine chk.ga ?_ | simp -dsimp [h1, z3, h10])
   all_goals (try omega)
  ·have q11 : ¬ (v8.1 = 0) := auq h10
   rw [if_neg q11] at hF
   repeat (first | refine chk.ga ?_ | simp -dsimp [h1, z3, h10, q11])
   refine ADraw.eff [] [(0, 0), (0, 0), (0, 1), (0, 2), (0, 0), (0, 2), (0, 2), (2, 2)] [1, 1, 2, 1, 1, 1, 1, 1] follows (by kernel_rfl) (by kernel_rfl) (by kernel_rfl) ?_
   cases hF
   repeat (first | refine chk.ga ?_ | simp -dsimp [h1, z3, h10, q11])
   all_goals (try omega)
 ·have q2 : ¬ (2000 < code.length) := auq h1
  have z3 : ¬ ((2000 : Int) < (code.length : Int)) := auz
  rw [if_neg q2] at hF
  repeat (first | refine chk.ga ?_ | simp -dsimp [h1, q2, z3])
  have hF := ob hF; obtain ⟨v15, e16, hF⟩ := hF
  refine ((C.spec_l2Typed B hB1 hB2 (⟨code, (0 : Int)⟩ : Vl.T_spec_l17Rd) v15 e16)).go 2 rfl (by first | simp [h1, q2, z3]; done | simp_all) (by simp) (by first | simp [h1, q2, z3]; done | simp_all) ?_
  repeat (first | refine chk.ga ?_ | simp -dsimp [h1, q2, z3])
  have hF := ob hF; obtain ⟨v17, e18, hF⟩ := hF
  refine ACall.frzAt 3 (l := 5) (n := List.length (α := Int) []) (sz := 1) (es := List.map cI []) (by simp) (by simp) (by simp) (by simp) ?_
  repeat (first | refine chk.ga ?_ | simp -dsimp [h1, q2, z3])
  refine ACall.nilArg 1 1 (by simp) ?_
  repeat (first | refine chk.ga ?_ | simp -dsimp [h1, q2, z3])
  refine ((C.spec_l10Paths B hB1 hB2 v15.2.2.2 [] v15.2.2.1 [] v17 e18)).go (pl [2, 6]) (by simp) (by simp) (plInj _ rfl (by decide)) (by intro i hi hi'; simp at hi hi'; first | omega | (subst hi'; simp [pl])) (by first | simp [h1, q2, z3]; done | simp_all) (by first | simp [h1, q2, z3]; done | simp_all) ?_
  repeat (first | refine chk.ga ?_ | simp -dsimp [h1, q2, z3])
  have hF := ob hF; obtain ⟨v19, e20, hF⟩ := hF
  refine ((C.spec_l17Rd_pick B hB1 hB2 v17.2 (8 : Int) v19 e20)).go 2 rfl (by first | simp [h1, q2, z3]; done | simp_all) (by simp) (by first | simp [h1, q2, z3]; done | simp_all) ?_
  repeat (first | refine chk.ga ?_ | simp -dsimp [h1, q2, z3])
  refine abr.split (fun h21 => ?_) (fun h21 => ?_)
  ·have q22 : (v19.1 = 0) := auq h21
   rw [if_pos q22] at hF
   repeat (first | refine chk.ga ?_ | simp -dsimp [h1, q2, z3, h21])
   have hF := ob hF; obtain ⟨v23, e24, hF⟩ := hF
   refine ACall.frz ?_ ((C.spec_l17Rd_num B hB1 hB2 v19.2 [(0 : Int), (9 : Int), (-1 : Int)] v23 e24)).ent
   repeat (first | refine chk.ga ?_ | simp -dsimp [h1, q2, z3, h21])
   refine ((C.spec_l17Rd_num B hB1 hB2 v19.2 [(0 : Int), (9 : Int), (-1 : Int)] v23 e24)).go 2 rfl (by first | simp [h1, q2, z3, h21]; done | simp_all) (by simp) (by first | simp [h1, q2, z3, h21]; done | simp_all) ?_
   have hF := oc hF; obtain ⟨c25, hF⟩ := hF
   repeat (first | refine chk.ga ?_ | simp -dsimp [h1, q2, z3, h21])
   refine ADraw.eff [] [(0, 0), (0, 0), (0, 1), (0, 2), (0, 0), (0, 2), (0, 2), (2, 2)] [1, 1, 2, 1, 1, 1, 1, 1] follows (by kernel_rfl) (by kernel_rfl) (by kernel_rfl) ?_
   cases hF
   repeat (first | refine chk.ga ?_ | simp -dsimp [h1, q2, z3, h21])
   all_goals (try omega)
  ·have q22 : ¬ (v19.1 = 0) := auq h21
   rw [if_neg q22] at hF
   repeat (first | refine chk.ga ?_ | simp -dsimp [h1, q2, z3, h21, q22])
   refine ADraw.eff [] [(0, 0), (0, 0), (0, 1), (0, 2), (0, 0), (0, 2), (0, 2), (2, 2)] [1, 1, 2, 1, 1, 1, 1, 1] follows (by kernel_rfl) (by kernel_rfl) (by kernel_rfl) ?_
   cases hF
   repeat (first | refine chk.ga ?_ | simp -dsimp [h1, q2, z3, h21, q22])
   all_goals (try omega)

set_option maxRecDepth 100000 in
set_option maxHeartbeats 4000000 in
theorem C.impl_within (B : Nat) (hB1 : 67108864 ≤ B) (hB2 : B ≤ 9223372036854775807) (n : Int) (low : Int) (high : Int) (r : Bool) (hF : F.impl_within n low high = some r) : PureCall Try.prog B 55 [.lit (.int .i64 n), .lit (.int .i64 low), .lit (.int .i64 high)] (.lit (.bool r)) := by
 unfold F.impl_within at hF
 refine PureCall.enterLe Try.func55 (by kernel_rfl) rfl Try.ntmps55 (by simp) (by simp) ?_
 repeat (first | refine chk.ga ?_ | simp -dsimp)
 refine abr.split (fun h1 => ?_) (fun h1 => ?_)
 ·have q2 : (low ≤ n) := auq h1
  rw [if_pos q2] at hF
  cases hF
  repeat (first | refine chk.ga ?_ | simp -dsimp [h1])
  all_goals (try omega)
 ·have q2 : ¬ (low ≤ n) := auq h1
  rw [if_neg q2] at hF
  cases hF
  repeat (first | refine chk.ga ?_ | simp -dsimp [h1, q2])
  all_goals (try omega)

set_option maxRecDepth 100000 in
set_option maxHeartbeats 4000000 in
theorem CC.impl_NameValid_l1 (B : Nat) (hB1 : 67108864 ≤ B) (hB2 : B ≤ 9223372036854775807) (s : ByteArray) : (∀ (i : Nat) (o : Lo Bool Unit), F.impl_NameValid_l1 s i = some o → ∀ (c : Code), navO [1, 1, 0, 1, 0, 0] (bodyOf Try.f108) = some c → ∀ (Q : Exit → ASt → Prop), o.post (fun r => ∀ st, Post Try.prog Try.f108 (fun r' _ => r'.le (.lit (.bool r))) .ret st → Q .ret st) (fun s => Q (.exit 0) ⟨[], []⟩) → ALoopU Try.prog B 0 34 (hold c .mk) ⟨[(0, .lit (.string s)), (3, .lit (.int .i64 (i : Int)))], []⟩ (hold Q .mk)) := by
 refine F.impl_NameValid_l1.partial_correctness s
  (fun i o => ∀ (c : Code), navO [1, 1, 0, 1, 0, 0] (bodyOf Try.f108) = some c → ∀ (Q : Exit → ASt → Prop), o.post (fun r => ∀ st, Post Try.prog Try.f108 (fun r' _ => r'.le (.lit (.bool r))) .ret st → Q .ret st) (fun s => Q (.exit 0) ⟨[], []⟩) → ALoopU Try.prog B 0 34 (hold c .mk) ⟨[(0, .lit (.string s)), (3, .lit (.int .i64 (i : Int)))], []⟩ (hold Q .mk))
  ?_
 ·intro _f_impl_NameValid_l1 ih_impl_NameValid_l1 i o hF
  intro c hc Q hq
  obtain rfl : c = _ := navEq hc rfl
  refine ALoopU.know fun hk hs => ?_
  clear hk hs
  refine ALoopU.enter ?_
  repeat (first | refine chk.ga ?_ | simp -dsimp)
  refine abr.split (fun h11 => ?_) (fun h11 => ?_)
  ·have q12 : (i < s.size) := auq h11
   have z13 : ((i : Int) < (s.size : Int)) := auz
   rw [if_pos q12] at hF
   repeat (first | refine chk.ga ?_ | simp -dsimp [h11, z13])
   refine abr.split (fun h14 => ?_) (fun h14 => ?_)
   ·have q15 : ¬ (byteAt s i < 97) := auq h14
    have z16 : ¬ (((byteAt s i : Nat) : Int) < (97 : Int)) := auz
    rw [if_neg q15] at hF
    repeat (first | refine chk.ga ?_ | simp -dsimp [h11, z13, h14, q15, z16])
    refine abr.split (fun h17 => ?_) (fun h17 => ?_)
    ·have q18 : (122 < byteAt s i) := auq h17
     have z19 : ((122 : Int) < ((byteAt s i : Nat) : Int)) := auz
     rw [if_pos q18] at hF
     cases hF
     repeat (first | refine chk.ga ?_ | simp -dsimp [h11, z13, h14, q15, z16, h17, z19])
     refine Leave.go _ (Gh.refl _) (hq _ ?_)
     repeat (first | refine chk.ga ?_ | simp -dsimp [h11, z13, h14, q15, z16, h17, z19])
    ·have q18 : ¬ (122 < byteAt s i) := auq h17
     have z19 : ¬ ((122 : Int) < ((byteAt s i : Nat) : Int)) := auz
     rw [if_neg q18] at hF
     have hF := oc hF; obtain ⟨c20, hF⟩ := hF
     have w21 : IntKind.i64.wrap ((i : Int) + 1) = (i : Int) + 1 := wrap_in (by omega) (by omega)
     repeat (first | refine chk.ga ?_ | simp -dsimp [h11, z13, h14, q15, z16, h17, q18, z19, w21])
     refine Again.go ⟨[(0, .lit (.string s)), (3, .lit (.int .i64 ((i + 1) : Int)))], []⟩ (Gh.to3 (by simp) (by first | simp -dsimp [h11, z13, h14, q15, z16, h17, q18, z19, w21]; done | simp_all)) ?_
     exact (ih_impl_NameValid_l1 (i + 1) o hF) _ rfl _ hq
   ·have q15 : (byteAt s i < 97) := auq h14
    have z16 : (((byteAt s i : Nat) : Int) < (97 : Int)) := auz
    rw [if_pos q15] at hF
    cases hF
    repeat (first | refine chk.ga ?_ | simp -dsimp [h11, z13, h14, q15, z16])
    refine Leave.go _ (Gh.refl _) (hq _ ?_)
    repeat (first | refine chk.ga ?_ | simp -dsimp [h11, z13, h14, q15, z16])
  ·have q12 : ¬ (i < s.size) := auq h11
   have z13 : ¬ ((i : Int) < (s.size : Int)) := auz
   rw [if_neg q12] at hF
   cases hF
   repeat (first | refine chk.ga ?_ | simp -dsimp [h11, q12, z13])
   refine Leave.go ⟨[], []⟩ (Gh.to3 (by simp) (by first | simp -dsimp [h11, q12, z13]; done | simp_all)) ?_
   exact hq

theorem C.impl_NameValid_l1 (B : Nat) (hB1 : 67108864 ≤ B) (hB2 : B ≤ 9223372036854775807) (s : ByteArray) (i : Nat) (o : Lo Bool Unit) (hF : F.impl_NameValid_l1 s i = some o) : ∀ (c : Code), navO [1, 1, 0, 1, 0, 0] (bodyOf Try.f108) = some c → ∀ (Q : Exit → ASt → Prop), o.post (fun r => ∀ st, Post Try.prog Try.f108 (fun r' _ => r'.le (.lit (.bool r))) .ret st → Q .ret st) (fun s => Q (.exit 0) ⟨[], []⟩) → ALoopU Try.prog B 0 34 (hold c .mk) ⟨[(0, .lit (.string s)), (3, .lit (.int .i64 (i : Int)))], []⟩ (hold Q .mk) :=
 (CC.impl_NameValid_l1 B hB1 hB2 s) i o hF

set_option maxRecDepth 100000 in
set_option maxHeartbeats 4000000 in
theorem C.impl_NameValid (B : Nat) (hB1 : 67108864 ≤ B) (hB2 : B ≤ 9223372036854775807) (s : ByteArray) (r : Bool) (hF : F.impl_NameValid s = some r) : PureCall Try.prog B 108 [.lit (.string s)] (.lit (.bool r)) := by
 unfold F.impl_NameValid at hF
 refine PureCall.enterLe Try.func108 (by kernel_rfl) rfl Try.ntmps108 (by simp) (by simp) ?_
 repeat (first | refine chk.ga ?_ | simp -dsimp)
 have hF := ob hF; obtain ⟨v, e1, hF⟩ := hF
 refine ((C.impl_within B hB1 hB2 (s.size : Int) (1 : Int) (5 : Int) v e1)).goW (by simp) (by simp) ?_
 repeat (first | refine chk.ga ?_ | simp -dsimp)
 refine abr.split (fun h2 => ?_) (fun h2 => ?_)
 ·have q3 : (v = true) := auq h2
  rw [if_pos q3] at hF
  have hF := oc hF; obtain ⟨c4, hF⟩ := hF
  repeat (first | refine chk.ga ?_ | simp -dsimp [h2])
  refine abr.split (fun h5 => ?_) (fun h5 => ?_)
  ·have q6 : ¬ (byteAt s 0 < 65) := auq h5
   have z7 : ¬ (((byteAt s 0 : Nat) : Int) < (65 : Int)) := auz
   rw [if_neg q6] at hF
   repeat (first | refine chk.ga ?_ | simp -dsimp [h2, h5, q6, z7])
   refine abr.split (fun h8 => ?_) (fun h8 => ?_)
   ·have q9 : (90 < byteAt s 0) := auq h8
    have z10 : ((90 : Int) < ((byteAt s 0 : Nat) : Int)) := auz
    rw [if_pos q9] at hF
    cases hF
    repeat (first | refine chk.ga ?_ | simp -dsimp [h2, h5, q6, z7, h8, z10])
    all_goals (try omega)
   ·have q9 : ¬ (90 < byteAt s 0) := auq h8
    have z10 : ¬ ((90 : Int) < ((byteAt s 0 : Nat) : Int)) := auz
    rw [if_neg q9] at hF
    repeat (first | refine chk.ga ?_ | simp -dsimp [h2, h5, q6, z7, h8, q9, z10])
    have hF := ob hF; obtain ⟨o', ho22, hF⟩ := hF
    refine ALoop.goU ⟨[(0, .lit (.string s)), (3, .lit (.int .i64 (1 : Int)))], []⟩ (Gh.to3 (by simp) (by first | simp -dsimp [h2, h5, q6, z7, h8, q9, z10]; done | simp_all)) ?_
    refine (C.impl_NameValid_l1 B hB1 hB2 s 1 o' ho22) _ rfl _ ?_
    rcases o' with r0 | sx
    ·dsimp only at hF
     cases hF
     intro st h
     simpa using h
    ·dsimp only at hF
     cases hF
     repeat (first | refine chk.ga ?_ | simp -dsimp)
     all_goals (try omega)
  ·have q6 : (byteAt s 0 < 65) := auq h5
   have z7 : (((byteAt s 0 : Nat) : Int) < (65 : Int)) := auz
   rw [if_pos q6] at hF
   cases hF
   repeat (first | refine chk.ga ?_ | simp -dsimp [h2, h5, q6, z7])
   all_goals (try omega)
 ·have q3 : ¬ (v = true) := auq h2
  rw [if_neg q3] at hF
  cases hF
  repeat (first | refine chk.ga ?_ | simp -dsimp [h2, q3])
  all_goals (try omega)

set_option maxRecDepth 100000 in
set_option maxHeartbeats 4000000 in
theorem C.impl_argOk (B : Nat) (hB1 : 67108864 ≤ B) (hB2 : B ≤ 9223372036854775807) (w : List Vl.Data) (t : Vl.Ty) (r : Bool) (hF : F.impl_argOk w t = some r) : PureCall Try.prog B 111 [.arr (List.map Vl.Data.c w), .agg [.lit (.int .i64 t.data), .lit (.int .i64 t.index)]] (.lit (.bool r)) := by
 unfold F.impl_argOk at hF
 refine PureCall.enterLe Try.func111 (by kernel_rfl) rfl Try.ntmps111 (by simp) (by simp) ?_
 repeat (first | refine chk.ga ?_ | simp -dsimp)
 refine abr.split (fun h1 => ?_) (fun h1 => ?_)
 ·have q2 : ¬ (dec (eq2 (t.data, t.index) ((-1), 0)) = true) := auq h1
  rw [if_neg q2] at hF
  repeat (first | refine chk.ga ?_ | simp -dsimp [h1, q2])
  have hF := ob hF; obtain ⟨v, e3, hF⟩ := hF
  refine ((C.impl_within B hB1 hB2 t.data (0 : Int) (IntKind.i64.wrap ((w.length : Int) - 1)) v e3)).goW (by first | simp [h1, q2]; done | simp_all) (by simp) ?_
  repeat (first | refine chk.ga ?_ | simp -dsimp [h1, q2])
  refine abr.split (fun h4 => ?_) (fun h4 => ?_)
  ·have q5 : (v = true) := auq h4
   rw [if_pos q5] at hF
   repeat (first | refine chk.ga ?_ | simp -dsimp [h1, q2, h4])
   have hF := ob hF; obtain ⟨v6, e7, hF⟩ := hF
   refine ((C.impl_within B hB1 hB2 t.index (-1 : Int) (3 : Int) v6 e7)).goW (by first | simp [h1, q2, h4]; done | simp_all) (by simp) ?_
   cases hF
   repeat (first | refine chk.ga ?_ | simp -dsimp [h1, q2, h4])
   all_goals (try omega)
  ·have q5 : ¬ (v = true) := auq h4
   rw [if_neg q5] at hF
   cases hF
   repeat (first | refine chk.ga ?_ | simp -dsimp [h1, q2, h4, q5])
   all_goals (try omega)
 ·have q2 : (dec (eq2 (t.data, t.index) ((-1), 0)) = true) := auq h1
  rw [if_pos q2] at hF
  cases hF
  repeat (first | refine chk.ga ?_ | simp -dsimp [h1, q2])
  all_goals (try omega)

set_option maxRecDepth 100000 in
set_option maxHeartbeats 4000000 in
theorem C.impl_ctorOk_1 (B : Nat) (hB1 : 67108864 ≤ B) (hB2 : B ≤ 9223372036854775807) (t : Vl.Ty) (a1 : List Vl.Data) (r : Bool) (hF : F.impl_ctorOk_1 t a1 = some r) : PureCall Try.prog B 110 [.agg [.lit (.int .i64 t.data), .lit (.int .i64 t.index)], .rptr [.arr (List.map Vl.Data.c a1)] 0] (.lit (.bool r)) := by
 unfold F.impl_ctorOk_1 at hF
 refine PureCall.enterLe Try.func110 (by kernel_rfl) rfl Try.ntmps110 (by simp) (by simp) ?_
 repeat (first | refine chk.ga ?_ | simp -dsimp)
 have hF := ob hF; obtain ⟨v, e1, hF⟩ := hF
 refine ((C.impl_argOk B hB1 hB2 a1 t v e1)).goW (by simp) (by simp) ?_
 cases hF
 repeat (first | refine chk.ga ?_ | simp -dsimp)
 all_goals (try omega)

set_option maxRecDepth 100000 in
set_option maxHeartbeats 4000000 in
theorem CC.slices_IndexFunc_Type__impl_ctorOk_1_l1 (B : Nat) (hB1 : 67108864 ≤ B) (hB2 : B ≤ 9223372036854775807) (s : List Vl.Ty) (k0 : List Vl.Data) : (∀ (i : Nat) (o : Lo Int Unit), F.slices_IndexFunc_Type__impl_ctorOk_1_l1 s k0 i = some o → ∀ (c : Code), navO [1, 0, 1, 0, 0] (bodyOf Try.f119) = some c → ∀ (Q : Exit → ASt → Prop), o.post (fun r => ∀ st, Post Try.prog Try.f119 (fun r' _ => r'.le (.lit (.int .i64 r))) .ret st → Q .ret st) (fun s => Q (.exit 0) ⟨[], []⟩) → ALoopU Try.prog B 0 19 (hold c .mk) ⟨[(0, .arr (List.map Vl.Ty.c s)), (1, .fn (.func 110) [] [.rptr [.arr (List.map Vl.Data.c k0)] 0]), (7, .lit (.int .i64 (s.length : Int))), (8, .lit (.int .i64 (i : Int)))], []⟩ (hold Q .mk)) := by
 refine F.slices_IndexFunc_Type__impl_ctorOk_1_l1.partial_correctness s k0
  (fun i o => ∀ (c : Code), navO [1, 0, 1, 0, 0] (bodyOf Try.f119) = some c → ∀ (Q : Exit → ASt → Prop), o.post (fun r => ∀ st, Post Try.prog Try.f119 (fun r' _ => r'.le (.lit (.int .i64 r))) .ret st → Q .ret st) (fun s => Q (.exit 0) ⟨[], []⟩) → ALoopU Try.prog B 0 19 (hold c .mk) ⟨[(0, .arr (List.map Vl.Ty.c s)), (1, .fn (.func 110) [] [.rptr [.arr (List.map Vl.Data.c k0)] 0]), (7, .lit (.int .i64 (s.length : Int))), (8, .lit (.int .i64 (i : Int)))], []⟩ (hold Q .mk))
  ?_
 ·intro _f_slices_IndexFunc_Type__impl_ctorOk_1_l1 ih_slices_IndexFunc_Type__impl_ctorOk_1_l1 i o hF
  intro c hc Q hq
  obtain rfl : c = _ := navEq hc rfl
  refine ALoopU.know fun hk hs => ?_
  have b0 := hk 0
  simp -dsimp at b0
  clear hk hs
  refine ALoopU.enter ?_
  repeat (first | refine chk.ga ?_ | simp -dsimp)
  refine abr.split (fun h1 => ?_) (fun h1 => ?_)
  ·have q2 : (i < s.length) := auq h1
   have z3 : ((i : Int) < (s.length : Int)) := auz
   rw [if_pos q2] at hF
   have hF := ob hF; obtain ⟨x, e4, hF⟩ := hF
   have le4 := lt_of_get e4
   repeat (first | refine chk.ga ?_ | simp -dsimp [h1, z3, ↓e4])
   have hF := ob hF; obtain ⟨v, e5, hF⟩ := hF
   refine ((C.impl_ctorOk_1 B hB1 hB2 x k0 v e5)).goW (by first | simp [h1, z3, ↓e4]; done | simp_all) (by simp) ?_
   repeat (first | refine chk.ga ?_ | simp -dsimp [h1, z3, ↓e4])
   refine abr.split (fun h6 => ?_) (fun h6 => ?_)
   ·have q7 : (v = true) := auq h6
    rw [if_pos q7] at hF
    cases hF
    repeat (first | refine chk.ga ?_ | simp -dsimp [h1, z3, ↓e4, h6])
    refine Leave.go _ (Gh.refl _) (hq _ ?_)
    repeat (first | refine chk.ga ?_ | simp -dsimp [h1, z3, ↓e4, h6])
   ·have q7 : ¬ (v = true) := auq h6
    rw [if_neg q7] at hF
    have w8 : IntKind.i64.wrap ((i : Int) + 1) = (i : Int) + 1 := wrap_in (by omega) (by omega)
    repeat (first | refine chk.ga ?_ | simp -dsimp [h1, z3, ↓e4, h6, q7, w8])
    refine Again.go ⟨[(0, .arr (List.map Vl.Ty.c s)), (1, .fn (.func 110) [] [.rptr [.arr (List.map Vl.Data.c k0)] 0]), (7, .lit (.int .i64 (s.length : Int))), (8, .lit (.int .i64 ((i + 1) : Int)))], []⟩ (Gh.to3 (by simp) (by first | simp -dsimp [h1, z3, ↓e4, h6, q7, w8]; done | simp_all)) ?_
    exact (ih_slices_IndexFunc_Type__impl_ctorOk_1_l1 (i + 1) o hF) _ rfl _ hq
  ·have q2 : ¬ (i < s.length) := auq h1
   have z3 : ¬ ((i : Int) < (s.length : Int)) := auz
   rw [if_neg q2] at hF
   cases hF
   repeat (first | refine chk.ga ?_ | simp -dsimp [h1, q2, z3])
   refine Leave.go ⟨[], []⟩ (Gh.to3 (by simp) (by first | simp -dsimp [h1, q2, z3]; done | simp_all)) ?_
   exact hq

theorem C.slices_IndexFunc_Type__impl_ctorOk_1_l1 (B : Nat) (hB1 : 67108864 ≤ B) (hB2 : B ≤ 9223372036854775807) (s : List Vl.Ty) (k0 : List Vl.Data) (i : Nat) (o : Lo Int Unit) (hF : F.slices_IndexFunc_Type__impl_ctorOk_1_l1 s k0 i = some o) : ∀ (c : Code), navO [1, 0, 1, 0, 0] (bodyOf Try.f119) = some c → ∀ (Q : Exit → ASt → Prop), o.post (fun r => ∀ st, Post Try.prog Try.f119 (fun r' _ => r'.le (.lit (.int .i64 r))) .ret st → Q .ret st) (fun s => Q (.exit 0) ⟨[], []⟩) → ALoopU Try.prog B 0 19 (hold c .mk) ⟨[(0, .arr (List.map Vl.Ty.c s)), (1, .fn (.func 110) [] [.rptr [.arr (List.map Vl.Data.c k0)] 0]), (7, .lit (.int .i64 (s.length : Int))), (8, .lit (.int .i64 (i : Int)))], []⟩ (hold Q .mk) :=
 (CC.slices_IndexFunc_Type__impl_ctorOk_1_l1 B hB1 hB2 s k0) i o hF

set_option maxRecDepth 100000 in
set_option maxHeartbeats 4000000 in
theorem C.slices_IndexFunc_Type__impl_ctorOk_1 (B : Nat) (hB1 : 67108864 ≤ B) (hB2 : B ≤ 9223372036854775807) (s : List Vl.Ty) (k0 : List Vl.Data) (r : Int) (hF : F.slices_IndexFunc_Type__impl_ctorOk_1 s k0 = some r) : PureCall Try.prog B 119 [.arr (List.map Vl.Ty.c s), .fn (.func 110) [] [.rptr [.arr (List.map Vl.Data.c k0)] 0]] (.lit (.int .i64 r)) := by
 unfold F.slices_IndexFunc_Type__impl_ctorOk_1 at hF
 refine PureCall.enterLe Try.func119 (by kernel_rfl) rfl Try.ntmps119 (by simp) (by simp) ?_
 repeat (first | refine chk.ga ?_ | simp -dsimp)
 have hF := ob hF; obtain ⟨o', ho9, hF⟩ := hF
 refine ALoop.goU ⟨[(0, .arr (List.map Vl.Ty.c s)), (1, .fn (.func 110) [] [.rptr [.arr (List.map Vl.Data.c k0)] 0]), (7, .lit (.int .i64 (s.length : Int))), (8, .lit (.int .i64 (0 : Int)))], []⟩ (Gh.to3 (by simp) (by simp -dsimp)) ?_
 refine (C.slices_IndexFunc_Type__impl_ctorOk_1_l1 B hB1 hB2 s k0 0 o' ho9) _ rfl _ ?_
 rcases o' with r0 | sx
 ·dsimp only at hF
  cases hF
  intro st h
  simpa using h
 ·dsimp only at hF
  cases hF
  repeat (first | refine chk.ga ?_ | simp -dsimp)
  all_goals (try omega)

set_option maxRecDepth 100000 in
set_option maxHeartbeats 4000000 in
theorem C.slices_ContainsFunc_Type__impl_ctorOk_1 (B : Nat) (hB1 : 67108864 ≤ B) (hB2 : B ≤ 9223372036854775807) (s : List Vl.Ty) (k0 : List Vl.Data) (r : Bool) (hF : F.slices_ContainsFunc_Type__impl_ctorOk_1 s k0 = some r) : PureCall Try.prog B 109 [.arr (List.map Vl.Ty.c s), .fn (.func 110) [] [.rptr [.arr (List.map Vl.Data.c k0)] 0]] (.lit (.bool r)) := by
 unfold F.slices_ContainsFunc_Type__impl_ctorOk_1 at hF
 refine PureCall.enterLe Try.func109 (by kernel_rfl) rfl Try.ntmps109 (by simp) (by simp) ?_
 repeat (first | refine chk.ga ?_ | simp -dsimp)
 have hF := ob hF; obtain ⟨v, e1, hF⟩ := hF
 refine ((C.slices_IndexFunc_Type__impl_ctorOk_1 B hB1 hB2 s k0 v e1)).goW (by simp) (by simp) ?_
 cases hF
 repeat (first | refine chk.ga ?_ | simp -dsimp)
 all_goals (try omega)

set_option maxRecDepth 100000 in
set_option maxHeartbeats 4000000 in
theorem C.impl_ctorOk (B : Nat) (hB1 : 67108864 ≤ B) (hB2 : B ≤ 9223372036854775807) (w : List Vl.Data) (c' : Vl.Ctor) (r : Bool) (hF : F.impl_ctorOk w c' = some r) : PureCall Try.prog B 86 [.arr (List.map Vl.Data.c w), .agg [.lit (.string c'.name), .arr (List.map Vl.Ty.c c'.args), .lit (.int .i64 c'.index)]] (.lit (.bool r)) := by
 unfold F.impl_ctorOk at hF
 refine PureCall.enterLe Try.func86 (by kernel_rfl) rfl Try.ntmps86 (by simp) (by simp) ?_
 repeat (first | refine chk.ga ?_ | simp -dsimp)
 have hF := ob hF; obtain ⟨v, e1, hF⟩ := hF
 refine ((C.impl_NameValid B hB1 hB2 c'.name v e1)).goW (by simp) (by simp) ?_
 repeat (first | refine chk.ga ?_ | simp -dsimp)
 refine abr.split (fun h2 => ?_) (fun h2 => ?_)
 ·have q3 : (v = true) := auq h2
  rw [if_pos q3] at hF
  repeat (first | refine chk.ga ?_ | simp -dsimp [h2])
  refine abr.split (fun h4 => ?_) (fun h4 => ?_)
  ·have q5 : (c'.args.length ≤ 3) := auq h4
   have z6 : ((c'.args.length : Int) ≤ (3 : Int)) := auz
   rw [if_pos q5] at hF
   repeat (first | refine chk.ga ?_ | simp -dsimp [h2, h4, z6])
   have hF := ob hF; obtain ⟨v7, e8, hF⟩ := hF
   refine ((C.impl_within B hB1 hB2 c'.index (0 : Int) (3 : Int) v7 e8)).goW (by first | simp [h2, h4, z6]; done | simp_all) (by simp) ?_
   repeat (first | refine chk.ga ?_ | simp -dsimp [h2, h4, z6])
   refine abr.split (fun h9 => ?_) (fun h9 => ?_)
   ·have q10 : (v7 = true) := auq h9
    rw [if_pos q10] at hF
    repeat (first | refine chk.ga ?_ | simp -dsimp [h2, h4, z6, h9])
    have hF := ob hF; obtain ⟨v11, e12, hF⟩ := hF
    refine ((C.slices_ContainsFunc_Type__impl_ctorOk_1 B hB1 hB2 c'.args w v11 e12)).lend (by first | simp -dsimp [h2, h4, z6, h9]; done | simp_all) (by simp -dsimp) ?_
    cases hF
    repeat (first | refine chk.ga ?_ | simp -dsimp [h2, h4, z6, h9])
    all_goals (try omega)
   ·have q10 : ¬ (v7 = true) := auq h9
    rw [if_neg q10] at hF
    cases hF
    repeat (first | refine chk.ga ?_ | simp -dsimp [h2, h4, z6, h9, q10])
    all_goals (try omega)
  ·have q5 : ¬ (c'.args.length ≤ 3) := auq h4
   have z6 : ¬ ((c'.args.length : Int) ≤ (3 : Int)) := auz
   rw [if_neg q5] at hF
   cases hF
   repeat (first | refine chk.ga ?_ | simp -dsimp [h2, h4, q5, z6])
   all_goals (try omega)
 ·have q3 : ¬ (v = true) := auq h2
  rw [if_neg q3] at hF
  cases hF
  repeat (first | refine chk.ga ?_ | simp -dsimp [h2, q3])
  all_goals (try omega)

set_option maxRecDepth 100000 in
set_option maxHeartbeats 4000000 in
theorem CC.impl_WorldValid_l2 (B : Nat) (hB1 : 67108864 ≤ B) (hB2 : B ≤ 9223372036854775807) (w : List Vl.Data) (met4 : List ByteArray) (i : Nat) (x : Vl.Data) : (∀ (met26 : List ByteArray) (i27 : Nat) (o : Lo Bool (List ByteArray)), F.impl_WorldValid_l2 w met4 i x met26 i27 = some o → ∀ (b1 b2 : Nat), ¬ b1 = b2 → ∀ (c : Code), navO [1, 1, 1, 1, 0, 1, 0, 0, 1, 1, 0, 0, 1, 1, 1, 1, 0, 0] (bodyOf Try.f53) = some c → ∀ (Q : Exit → ASt → Ms → Prop), o.post (fun r => ∀ st, Post Try.prog Try.f53 (fun r' _ => r' = (.lit (.bool r))) .ret st → ∀ ms, Q .ret st ms) (fun s => Q (.exit 2) ⟨[(0, .arr (List.map Vl.Data.c w)), (3, .lit (.map (some b1))), (4, .lit (.map (some b2))), (14, .arr (List.map Vl.Data.c w)), (15, .lit (.int .i64 (w.length : Int))), (16, .lit (.int .i64 (i : Int)))], []⟩ [(b1, s), (b2, msIns met4 x.name)]) → MLoop Try.prog B 79 (hold c .mk) ⟨[(0, .arr (List.map Vl.Data.c w)), (3, .lit (.map (some b1))), (4, .lit (.map (some b2))), (14, .arr (List.map Vl.Data.c w)), (15, .lit (.int .i64 (w.length : Int))), (16, .lit (.int .i64 (i : Int))), (58, .arr (List.map Vl.Ctor.c x.ctors)), (59, .lit (.int .i64 (x.ctors.length : Int))), (60, .lit (.int .i64 (i27 : Int)))], []⟩ [(b1, met26), (b2, msIns met4 x.name)] (hold Q .mk)) := by
 refine F.impl_WorldValid_l2.partial_correctness w met4 i x
  (fun met26 i27 o => ∀ (b1 b2 : Nat), ¬ b1 = b2 → ∀ (c : Code), navO [1, 1, 1, 1, 0, 1, 0, 0, 1, 1, 0, 0, 1, 1, 1, 1, 0, 0] (bodyOf Try.f53) = some c → ∀ (Q : Exit → ASt → Ms → Prop), o.post (fun r => ∀ st, Post Try.prog Try.f53 (fun r' _ => r' = (.lit (.bool r))) .ret st → ∀ ms, Q .ret st ms) (fun s => Q (.exit 2) ⟨[(0, .arr (List.map Vl.Data.c w)), (3, .lit (.map (some b1))), (4, .lit (.map (some b2))), (14, .arr (List.map Vl.Data.c w)), (15, .lit (.int .i64 (w.length : Int))), (16, .lit (.int .i64 (i : Int)))], []⟩ [(b1, s), (b2, msIns met4 x.name)]) → MLoop Try.prog B 79 (hold c .mk) ⟨[(0, .arr (List.map Vl.Data.c w)), (3, .lit (.map (some b1))), (4, .lit (.map (some b2))), (14, .arr (List.map Vl.Data.c w)), (15, .lit (.int .i64 (w.length : Int))), (16, .lit (.int .i64 (i : Int))), (58, .arr (List.map Vl.Ctor.c x.ctors)), (59, .lit (.int .i64 (x.ctors.length : Int))), (60, .lit (.int .i64 (i27 : Int)))], []⟩ [(b1, met26), (b2, msIns met4 x.name)] (hold Q .mk))
  ?_
 ·intro _f_impl_WorldValid_l2 ih_impl_WorldValid_l2 met26 i27 o hF
  intro b1 b2 hb2 c hc Q hq
  obtain rfl : c = _ := navEq hc rfl
  refine MLoop.know fun hk hs => ?_
  have b0 := hk 0
  simp -dsimp at b0
  have b14 := hk 14
  simp -dsimp at b14
  have b58 := hk 58
  simp -dsimp at b58
  clear hk hs
  refine MLoop.enter ?_
  repeat (first | refine chk.ga ?_ | simp -dsimp [hb2])
  refine abr.split (fun h28 => ?_) (fun h28 => ?_)
  ·have q29 : (i27 < x.ctors.length) := auq h28
   have z30 : ((i27 : Int) < (x.ctors.length : Int)) := auz
   rw [if_pos q29] at hF
   have hF := ob hF; obtain ⟨x31, e32, hF⟩ := hF
   have le32 := lt_of_get e32
   repeat (first | refine chk.ga ?_ | simp -dsimp [hb2, h28, z30, ↓e32])
   have hF := ob hF; obtain ⟨v33, e34, hF⟩ := hF
   refine ((C.impl_ctorOk B hB1 hB2 w x31 v33 e34)).goW (by first | simp [hb2, h28, z30, ↓e32]; done | simp_all) (by simp) ?_
   repeat (first | refine chk.ga ?_ | simp -dsimp [hb2, h28, z30, ↓e32])
   refine abr.split (fun h35 => ?_) (fun h35 => ?_)
   ·have q36 : (v33 = true) := auq h35
    rw [if_pos q36] at hF
    repeat (first | refine chk.ga ?_ | simp -dsimp [hb2, h28, z30, ↓e32, h35])
    refine abr.split (fun h37 => ?_) (fun h37 => ?_)
    ·have q38 : (dec (x31.name ∈ met26) = true) := auq h37
     rw [if_pos q38] at hF
     cases hF
     repeat (first | refine chk.ga ?_ | simp -dsimp [hb2, h28, z30, ↓e32, h35, h37])
     refine LeaveM.go _ (Gh.refl _) (hq _ ?_ _)
     repeat (first | refine chk.ga ?_ | simp -dsimp [hb2, h28, z30, ↓e32, h35, h37])
    ·have q38 : ¬ (dec (x31.name ∈ met26) = true) := auq h37
     rw [if_neg q38] at hF
     have w39 : IntKind.i64.wrap ((i27 : Int) + 1) = (i27 : Int) + 1 := wrap_in (by omega) (by omega)
     repeat (first | refine chk.ga ?_ | simp -dsimp [hb2, h28, z30, ↓e32, h35, h37, q38, w39])
     refine AgainM.go ⟨[(0, .arr (List.map Vl.Data.c w)), (3, .lit (.map (some b1))), (4, .lit (.map (some b2))), (14, .arr (List.map Vl.Data.c w)), (15, .lit (.int .i64 (w.length : Int))), (16, .lit (.int .i64 (i : Int))), (58, .arr (List.map Vl.Ctor.c x.ctors)), (59, .lit (.int .i64 (x.ctors.length : Int))), (60, .lit (.int .i64 ((i27 + 1) : Int)))], []⟩ (Gh.to3 (by simp) (by first | simp -dsimp [hb2, h28, z30, ↓e32, h35, h37, q38, w39]; done | simp_all)) ?_
     exact (ih_impl_WorldValid_l2 (msIns met26 x31.name) (i27 + 1) o hF) b1 b2 hb2 _ rfl _ hq
   ·have q36 : ¬ (v33 = true) := auq h35
    rw [if_neg q36] at hF
    cases hF
    repeat (first | refine chk.ga ?_ | simp -dsimp [hb2, h28, z30, ↓e32, h35, q36])
    refine LeaveM.go _ (Gh.refl _) (hq _ ?_ _)
    repeat (first | refine chk.ga ?_ | simp -dsimp [hb2, h28, z30, ↓e32, h35, q36])
  ·have q29 : ¬ (i27 < x.ctors.length) := auq h28
   have z30 : ¬ ((i27 : Int) < (x.ctors.length : Int)) := auz
   rw [if_neg q29] at hF
   cases hF
   repeat (first | refine chk.ga ?_ | simp -dsimp [hb2, h28, q29, z30])
   refine LeaveM.go ⟨[(0, .arr (List.map Vl.Data.c w)), (3, .lit (.map (some b1))), (4, .lit (.map (some b2))), (14, .arr (List.map Vl.Data.c w)), (15, .lit (.int .i64 (w.length : Int))), (16, .lit (.int .i64 (i : Int)))], []⟩ (Gh.to3 (by simp) (by first | simp -dsimp [hb2, h28, q29, z30]; done | simp_all)) ?_
   exact hq

theorem C.impl_WorldValid_l2 (B : Nat) (hB1 : 67108864 ≤ B) (hB2 : B ≤ 9223372036854775807) (w : List Vl.Data) (met4 : List ByteArray) (i : Nat) (x : Vl.Data) (met26 : List ByteArray) (i27 : Nat) (o : Lo Bool (List ByteArray)) (hF : F.impl_WorldValid_l2 w met4 i x met26 i27 = some o) : ∀ (b1 b2 : Nat), ¬ b1 = b2 → ∀ (c : Code), navO [1, 1, 1, 1, 0, 1, 0, 0, 1, 1, 0, 0, 1, 1, 1, 1, 0, 0] (bodyOf Try.f53) = some c → ∀ (Q : Exit → ASt → Ms → Prop), o.post (fun r => ∀ st, Post Try.prog Try.f53 (fun r' _ => r' = (.lit (.bool r))) .ret st → ∀ ms, Q .ret st ms) (fun s => Q (.exit 2) ⟨[(0, .arr (List.map Vl.Data.c w)), (3, .lit (.map (some b1))), (4, .lit (.map (some b2))), (14, .arr (List.map Vl.Data.c w)), (15, .lit (.int .i64 (w.length : Int))), (16, .lit (.int .i64 (i : Int)))], []⟩ [(b1, s), (b2, msIns met4 x.name)]) → MLoop Try.prog B 79 (hold c .mk) ⟨[(0, .arr (List.map Vl.Data.c w)), (3, .lit (.map (some b1))), (4, .lit (.map (some b2))), (14, .arr (List.map Vl.Data.c w)), (15, .lit (.int .i64 (w.length : Int))), (16, .lit (.int .i64 (i : Int))), (58, .arr (List.map Vl.Ctor.c x.ctors)), (59, .lit (.int .i64 (x.ctors.length : Int))), (60, .lit (.int .i64 (i27 : Int)))], []⟩ [(b1, met26), (b2, msIns met4 x.name)] (hold Q .mk) :=
 (CC.impl_WorldValid_l2 B hB1 hB2 w met4 i x) met26 i27 o hF

set_option maxRecDepth 100000 in
set_option maxHeartbeats 4000000 in
theorem CC.impl_WorldValid_l1 (B : Nat) (hB1 : 67108864 ≤ B) (hB2 : B ≤ 9223372036854775807) (w : List Vl.Data) : (∀ (met : List ByteArray) (met4 : List ByteArray) (i : Nat) (o : Lo Bool ((List ByteArray) × (List ByteArray))), F.impl_WorldValid_l1 w met met4 i = some o → ∀ (b1 b2 : Nat), ¬ b1 = b2 → ∀ (c : Code), navO [1, 1, 1, 1, 0, 1, 0, 0] (bodyOf Try.f53) = some c → ∀ (Q : Exit → ASt → Ms → Prop), o.post (fun r => ∀ st, Post Try.prog Try.f53 (fun r' _ => r' = (.lit (.bool r))) .ret st → ∀ ms, Q .ret st ms) (fun s => Q (.exit 0) ⟨[], []⟩ [(b1, s.1), (b2, s.2)]) → MLoop Try.prog B 79 (hold c .mk) ⟨[(0, .arr (List.map Vl.Data.c w)), (3, .lit (.map (some b1))), (4, .lit (.map (some b2))), (14, .arr (List.map Vl.Data.c w)), (15, .lit (.int .i64 (w.length : Int))), (16, .lit (.int .i64 (i : Int)))], []⟩ [(b1, met), (b2, met4)] (hold Q .mk)) := by
 refine F.impl_WorldValid_l1.partial_correctness w
  (fun met met4 i o => ∀ (b1 b2 : Nat), ¬ b1 = b2 → ∀ (c : Code), navO [1, 1, 1, 1, 0, 1, 0, 0] (bodyOf Try.f53) = some c → ∀ (Q : Exit → ASt → Ms → Prop), o.post (fun r => ∀ st, Post Try.prog Try.f53 (fun r' _ => r' = (.lit (.bool r))) .ret st → ∀ ms, Q .ret st ms) (fun s => Q (.exit 0) ⟨[], []⟩ [(b1, s.1), (b2, s.2)]) → MLoop Try.prog B 79 (hold c .mk) ⟨[(0, .arr (List.map Vl.Data.c w)), (3, .lit (.map (some b1))), (4, .lit (.map (some b2))), (14, .arr (List.map Vl.Data.c w)), (15, .lit (.int .i64 (w.length : Int))), (16, .lit (.int .i64 (i : Int)))], []⟩ [(b1, met), (b2, met4)] (hold Q .mk))
  ?_
 ·intro _f_impl_WorldValid_l1 ih_impl_WorldValid_l1 met met4 i o hF
  intro b1 b2 hb2 c hc Q hq
  obtain rfl : c = _ := navEq hc rfl
  refine MLoop.know fun hk hs => ?_
  have b0 := hk 0
  simp -dsimp at b0
  have b14 := hk 14
  simp -dsimp at b14
  clear hk hs
  refine MLoop.enter ?_
  repeat (first | refine chk.ga ?_ | simp -dsimp [hb2])
  refine abr.split (fun h5 => ?_) (fun h5 => ?_)
  ·have q6 : (i < w.length) := auq h5
   have z7 : ((i : Int) < (w.length : Int)) := auz
   rw [if_pos q6] at hF
   have hF := ob hF; obtain ⟨x, e8, hF⟩ := hF
   have le8 := lt_of_get e8
   repeat (first | refine chk.ga ?_ | simp -dsimp [hb2, h5, z7, ↓e8])
   refine abr.split (fun h9 => ?_) (fun h9 => ?_)
   ·have q10 : (x.name.size = 1) := auq h9
    have z11 : ((x.name.size : Int) = (1 : Int)) := auz
    rw [if_pos q10] at hF
    have hF := oc hF; obtain ⟨c12, hF⟩ := hF
    repeat (first | refine chk.ga ?_ | simp -dsimp [hb2, h5, z7, ↓e8, h9, z11])
    refine abr.split (fun h13 => ?_) (fun h13 => ?_)
    ·have q14 : ¬ (byteAt x.name 0 < 65) := auq h13
     have z15 : ¬ (((byteAt x.name 0 : Nat) : Int) < (65 : Int)) := auz
     rw [if_neg q14] at hF
     repeat (first | refine chk.ga ?_ | simp -dsimp [hb2, h5, z7, ↓e8, h9, z11, h13, q14, z15])
     refine abr.split (fun h16 => ?_) (fun h16 => ?_)
     ·have q17 : ¬ (90 < byteAt x.name 0) := auq h16
      have z18 : ¬ ((90 : Int) < ((byteAt x.name 0 : Nat) : Int)) := auz
      rw [if_neg q17] at hF
      repeat (first | refine chk.ga ?_ | simp -dsimp [hb2, h5, z7, ↓e8, h9, z11, h13, q14, z15, h16, q17, z18])
      refine abr.split (fun h19 => ?_) (fun h19 => ?_)
      ·have q20 : ¬ (x.name.toList = (⟨#[73]⟩ : ByteArray).toList) := auq h19
       rw [if_neg q20] at hF
       repeat (first | refine chk.ga ?_ | simp -dsimp [hb2, h5, z7, ↓e8, h9, z11, h13, q14, z15, h16, q17, z18, h19, q20])
       refine abr.split (fun h21 => ?_) (fun h21 => ?_)
       ·have q22 : ¬ (dec (x.name ∈ met4) = true) := auq h21
        rw [if_neg q22] at hF
        repeat (first | refine chk.ga ?_ | simp -dsimp [hb2, h5, z7, ↓e8, h9, z11, h13, q14, z15, h16, q17, z18, h19, q20, h21, q22])
        have hF := ob hF; obtain ⟨v, e23, hF⟩ := hF
        refine ((C.impl_within B hB1 hB2 (x.ctors.length : Int) (1 : Int) (4 : Int) v e23)).goW (by first | simp [hb2, h5, z7, ↓e8, h9, z11, h13, q14, z15, h16, q17, z18, h19, q20, h21, q22]; done | simp_all) (by simp) ?_
        repeat (first | refine chk.ga ?_ | simp -dsimp [hb2, h5, z7, ↓e8, h9, z11, h13, q14, z15, h16, q17, z18, h19, q20, h21, q22])
        refine abr.split (fun h24 => ?_) (fun h24 => ?_)
        ·have q25 : ¬ (v = true) := auq h24
         rw [if_neg q25] at hF
         cases hF
         repeat (first | refine chk.ga ?_ | simp -dsimp [hb2, h5, z7, ↓e8, h9, z11, h13, q14, z15, h16, q17, z18, h19, q20, h21, q22, h24, q25])
         refine LeaveM.go _ (Gh.refl _) (hq _ ?_ _)
         repeat (first | refine chk.ga ?_ | simp -dsimp [hb2, h5, z7, ↓e8, h9, z11, h13, q14, z15, h16, q17, z18, h19, q20, h21, q22, h24, q25])
        ·have q25 : (v = true) := auq h24
         rw [if_pos q25] at hF
         repeat (first | refine chk.ga ?_ | simp -dsimp [hb2, h5, z7, ↓e8, h9, z11, h13, q14, z15, h16, q17, z18, h19, q20, h21, q22, h24, q25])
         have hF := ob hF; obtain ⟨o', ho40, hF⟩ := hF
         refine MLoop.goU ⟨[(0, .arr (List.map Vl.Data.c w)), (3, .lit (.map (some b1))), (4, .lit (.map (some b2))), (14, .arr (List.map Vl.Data.c w)), (15, .lit (.int .i64 (w.length : Int))), (16, .lit (.int .i64 (i : Int))), (58, .arr (List.map Vl.Ctor.c x.ctors)), (59, .lit (.int .i64 (x.ctors.length : Int))), (60, .lit (.int .i64 (0 : Int)))], []⟩ (Gh.to3 (by simp) (by first | simp -dsimp [hb2, h5, z7, ↓e8, h9, z11, h13, q14, z15, h16, q17, z18, h19, q20, h21, q22, h24, q25]; done | simp_all)) ?_
         refine (C.impl_WorldValid_l2 B hB1 hB2 w met4 i x met 0 o' ho40) b1 b2 hb2 _ rfl _ ?_
         rcases o' with r0 | sx
         ·dsimp only at hF
          cases hF
          intro st h ms
          simp -dsimp
          refine LeaveM.go st (Gh.refl _) (hq st h ms)
         ·dsimp only at hF
          have hF := oc hF; obtain ⟨c41, hF⟩ := hF
          have w42 : IntKind.i64.wrap ((i : Int) + 1) = (i : Int) + 1 := wrap_in (by omega) (by omega)
          repeat (first | refine chk.ga ?_ | simp -dsimp [w42])
          refine AgainM.go ⟨[(0, .arr (List.map Vl.Data.c w)), (3, .lit (.map (some b1))), (4, .lit (.map (some b2))), (14, .arr (List.map Vl.Data.c w)), (15, .lit (.int .i64 (w.length : Int))), (16, .lit (.int .i64 ((i + 1) : Int)))], []⟩ (Gh.to3 (by simp) (by first | simp -dsimp [w42]; done | simp_all)) ?_
          exact (ih_impl_WorldValid_l1 sx (msIns met4 x.name) (i + 1) o hF) b1 b2 hb2 _ rfl _ hq
       ·have q22 : (dec (x.name ∈ met4) = true) := auq h21
        rw [if_pos q22] at hF
        cases hF
        repeat (first | refine chk.ga ?_ | simp -dsimp [hb2, h5, z7, ↓e8, h9, z11, h13, q14, z15, h16, q17, z18, h19, q20, h21, q22])
        refine LeaveM.go _ (Gh.refl _) (hq _ ?_ _)
        repeat (first | refine chk.ga ?_ | simp -dsimp [hb2, h5, z7, ↓e8, h9, z11, h13, q14, z15, h16, q17, z18, h19, q20, h21, q22])
      ·have q20 : (x.name.toList = (⟨#[73]⟩ : ByteArray).toList) := auq h19
       rw [if_pos q20] at hF
       cases hF
       repeat (first | refine chk.ga ?_ | simp -dsimp [hb2, h5, z7, ↓e8, h9, z11, h13, q14, z15, h16, q17, z18, h19, q20])
       refine LeaveM.go _ (Gh.refl _) (hq _ ?_ _)
       repeat (first | refine chk.ga ?_ | simp -dsimp [hb2, h5, z7, ↓e8, h9, z11, h13, q14, z15, h16, q17, z18, h19, q20])
     ·have q17 : (90 < byteAt x.name 0) := auq h16
      have z18 : ((90 : Int) < ((byteAt x.name 0 : Nat) : Int)) := auz
      rw [if_pos q17] at hF
      cases hF
      repeat (first | refine chk.ga ?_ | simp -dsimp [hb2, h5, z7, ↓e8, h9, z11, h13, q14, z15, h16, q17, z18])
      refine LeaveM.go _ (Gh.refl _) (hq _ ?_ _)
      repeat (first | refine chk.ga ?_ | simp -dsimp [hb2, h5, z7, ↓e8, h9, z11, h13, q14, z15, h16, q17, z18])
    ·have q14 : (byteAt x.name 0 < 65) := auq h13
     have z15 : (((byteAt x.name 0 : Nat) : Int) < (65 : Int)) := auz
     rw [if_pos q14] at hF
     cases hF
     repeat (first | refine chk.ga ?_ | simp -dsimp [hb2, h5, z7, ↓e8, h9, z11, h13, q14, z15])
     refine LeaveM.go _ (Gh.refl _) (hq _ ?_ _)
     repeat (first | refine chk.ga ?_ | simp -dsimp [hb2, h5, z7, ↓e8, h9, z11, h13, q14, z15])
   ·have q10 : ¬ (x.name.size = 1) := auq h9
    have z11 : ¬ ((x.name.size : Int) = (1 : Int)) := auz
    rw [if_neg q10] at hF
    cases hF
    repeat (first | refine chk.ga ?_ | simp -dsimp [hb2, h5, z7, ↓e8, h9, q10, z11])
    refine LeaveM.go _ (Gh.refl _) (hq _ ?_ _)
    repeat (first | refine chk.ga ?_ | simp -dsimp [hb2, h5, z7, ↓e8, h9, q10, z11])
  ·have q6 : ¬ (i < w.length) := auq h5
   have z7 : ¬ ((i : Int) < (w.length : Int)) := auz
   rw [if_neg q6] at hF
   cases hF
   repeat (first | refine chk.ga ?_ | simp -dsimp [hb2, h5, q6, z7])
   refine LeaveM.go ⟨[], []⟩ (Gh.to3 (by simp) (by first | simp -dsimp [hb2, h5, q6, z7]; done | simp_all)) ?_
   exact hq

theorem C.impl_WorldValid_l1 (B : Nat) (hB1 : 67108864 ≤ B) (hB2 : B ≤ 9223372036854775807) (w : List Vl.Data) (met : List ByteArray) (met4 : List ByteArray) (i : Nat) (o : Lo Bool ((List ByteArray) × (List ByteArray))) (hF : F.impl_WorldValid_l1 w met met4 i = some o) : ∀ (b1 b2 : Nat), ¬ b1 = b2 → ∀ (c : Code), navO [1, 1, 1, 1, 0, 1, 0, 0] (bodyOf Try.f53) = some c → ∀ (Q : Exit → ASt → Ms → Prop), o.post (fun r => ∀ st, Post Try.prog Try.f53 (fun r' _ => r' = (.lit (.bool r))) .ret st → ∀ ms, Q .ret st ms) (fun s => Q (.exit 0) ⟨[], []⟩ [(b1, s.1), (b2, s.2)]) → MLoop Try.prog B 79 (hold c .mk) ⟨[(0, .arr (List.map Vl.Data.c w)), (3, .lit (.map (some b1))), (4, .lit (.map (some b2))), (14, .arr (List.map Vl.Data.c w)), (15, .lit (.int .i64 (w.length : Int))), (16, .lit (.int .i64 (i : Int)))], []⟩ [(b1, met), (b2, met4)] (hold Q .mk) :=
 (CC.impl_WorldValid_l1 B hB1 hB2 w) met met4 i o hF

set_option maxRecDepth 100000 in
set_option maxHeartbeats 4000000 in
theorem C.impl_WorldValid (B : Nat) (hB1 : 67108864 ≤ B) (hB2 : B ≤ 9223372036854775807) (w : List Vl.Data) (r : Bool) (hF : F.impl_WorldValid w = some r) : PureCall Try.prog B 53 [.arr (List.map Vl.Data.c w)] (.lit (.bool r)) := by
 unfold F.impl_WorldValid at hF
 refine PureCall.enterM Try.func53 (by kernel_rfl) rfl Try.ntmps53 (by simp) ?_
 repeat (first | refine chk.ga ?_ | simp -dsimp)
 refine abr.split (fun h1 => ?_) (fun h1 => ?_)
 ·have q2 : (4 < w.length) := auq h1
  have z3 : ((4 : Int) < (w.length : Int)) := auz
  rw [if_pos q2] at hF
  cases hF
  repeat (first | refine chk.ga ?_ | simp -dsimp [h1, z3])
  all_goals (try omega)
 ·have q2 : ¬ (4 < w.length) := auq h1
  have z3 : ¬ ((4 : Int) < (w.length : Int)) := auz
  rw [if_neg q2] at hF
  repeat (first | refine chk.ga ?_ | simp -dsimp [h1, q2, z3])
  refine AMake.go fun b1 hb1 => ?_
  repeat (first | refine chk.ga ?_ | simp -dsimp [h1, q2, z3])
  refine AMake.go fun b2 hb2 => ?_
  simp at hb2
  repeat (first | refine chk.ga ?_ | simp -dsimp [h1, q2, z3, hb2])
  have hF := ob hF; obtain ⟨o'44, ho43, hF⟩ := hF
  refine MLoop.goU ⟨[(0, .arr (List.map Vl.Data.c w)), (3, .lit (.map (some b1))), (4, .lit (.map (some b2))), (14, .arr (List.map Vl.Data.c w)), (15, .lit (.int .i64 (w.length : Int))), (16, .lit (.int .i64 (0 : Int)))], []⟩ (Gh.to3 (by simp) (by first | simp -dsimp [h1, q2, z3, hb2]; done | simp_all)) ?_
  refine (C.impl_WorldValid_l1 B hB1 hB2 w [] [] 0 o'44 ho43) b1 b2 hb2 _ rfl _ ?_
  rcases o'44 with r046 | sx45
  ·dsimp only at hF
   cases hF
   intro st h ms
   simpa using h
  ·dsimp only at hF
   cases hF
   repeat (first | refine chk.ga ?_ | simp -dsimp)
   all_goals (try omega)

set_option maxRecDepth 100000 in
set_option maxHeartbeats 4000000 in
theorem C.impl_typeOk (B : Nat) (hB1 : 67108864 ≤ B) (hB2 : B ≤ 9223372036854775807) (w : List Vl.Data) (t : Vl.Ty) (r : Bool) (hF : F.impl_typeOk w t = some r) : PureCall Try.prog B 54 [.arr (List.map Vl.Data.c w), .agg [.lit (.int .i64 t.data), .lit (.int .i64 t.index)]] (.lit (.bool r)) := by
 unfold F.impl_typeOk at hF
 refine PureCall.enterLe Try.func54 (by kernel_rfl) rfl Try.ntmps54 (by simp) (by simp) ?_
 repeat (first | refine chk.ga ?_ | simp -dsimp)
 refine abr.split (fun h1 => ?_) (fun h1 => ?_)
 ·have q2 : ¬ (dec (eq2 (t.data, t.index) ((-1), 0)) = true) := auq h1
  rw [if_neg q2] at hF
  repeat (first | refine chk.ga ?_ | simp -dsimp [h1, q2])
  have hF := ob hF; obtain ⟨v, e3, hF⟩ := hF
  refine ((C.impl_within B hB1 hB2 t.data (0 : Int) (IntKind.i64.wrap ((w.length : Int) - 1)) v e3)).goW (by first | simp [h1, q2]; done | simp_all) (by simp) ?_
  repeat (first | refine chk.ga ?_ | simp -dsimp [h1, q2])
  refine abr.split (fun h4 => ?_) (fun h4 => ?_)
  ·have q5 : (v = true) := auq h4
   rw [if_pos q5] at hF
   repeat (first | refine chk.ga ?_ | simp -dsimp [h1, q2, h4])
   have hF := ob hF; obtain ⟨v6, e7, hF⟩ := hF
   refine ((C.impl_within B hB1 hB2 t.index (0 : Int) (3 : Int) v6 e7)).goW (by first | simp [h1, q2, h4]; done | simp_all) (by simp) ?_
   cases hF
   repeat (first | refine chk.ga ?_ | simp -dsimp [h1, q2, h4])
   all_goals (try omega)
  ·have q5 : ¬ (v = true) := auq h4
   rw [if_neg q5] at hF
   cases hF
   repeat (first | refine chk.ga ?_ | simp -dsimp [h1, q2, h4, q5])
   all_goals (try omega)
 ·have q2 : (dec (eq2 (t.data, t.index) ((-1), 0)) = true) := auq h1
  rw [if_pos q2] at hF
  cases hF
  repeat (first | refine chk.ga ?_ | simp -dsimp [h1, q2])
  all_goals (try omega)

set_option maxRecDepth 100000 in
set_option maxHeartbeats 4000000 in
theorem C.impl_TypeValid (B : Nat) (hB1 : 67108864 ≤ B) (hB2 : B ≤ 9223372036854775807) (w : List Vl.Data) (t : Vl.Ty) (r : Bool) (hF : F.impl_TypeValid w t = some r) : PureCall Try.prog B 30 [.arr (List.map Vl.Data.c w), .agg [.lit (.int .i64 t.data), .lit (.int .i64 t.index)]] (.lit (.bool r)) := by
 unfold F.impl_TypeValid at hF
 refine PureCall.enterLe Try.func30 (by kernel_rfl) rfl Try.ntmps30 (by simp) (by simp) ?_
 repeat (first | refine chk.ga ?_ | simp -dsimp)
 have hF := ob hF; obtain ⟨v, e1, hF⟩ := hF
 refine ((C.impl_WorldValid B hB1 hB2 w v e1)).goW (by simp) (by simp) ?_
 repeat (first | refine chk.ga ?_ | simp -dsimp)
 refine abr.split (fun h2 => ?_) (fun h2 => ?_)
 ·have q3 : (v = true) := auq h2
  rw [if_pos q3] at hF
  repeat (first | refine chk.ga ?_ | simp -dsimp [h2])
  have hF := ob hF; obtain ⟨v4, e5, hF⟩ := hF
  refine ((C.impl_typeOk B hB1 hB2 w t v4 e5)).goW (by first | simp [h2]; done | simp_all) (by simp) ?_
  cases hF
  repeat (first | refine chk.ga ?_ | simp -dsimp [h2])
  all_goals (try omega)
 ·have q3 : ¬ (v = true) := auq h2
  rw [if_neg q3] at hF
  cases hF
  repeat (first | refine chk.ga ?_ | simp -dsimp [h2, q3])
  all_goals (try omega)

set_option maxRecDepth 100000 in
set_option maxHeartbeats 4000000 in
theorem CC.impl_ctorsOf_l1 (B : Nat) (hB1 : 67108864 ≤ B) (hB2 : B ≤ 9223372036854775807) (t : Vl.Ty) (x : Vl.Data) : (∀ (i : Nat) (out : List Int) (o : List Int), F.impl_ctorsOf_l1 t x i out = some o → ∀ (c : Code), navO [1, 1, 0, 1, 0, 1, 0, 0] (bodyOf Try.f57) = some c → ∀ (Q : Exit → ASt → Prop), Q (.exit 0) ⟨[(5, .own 1 (List.length (α := Int) o))], [.dead, .elems 1 (List.map cI o)]⟩ → ALoopU Try.prog B 0 44 (hold c .mk) ⟨[(3, .ptr 0 0), (5, .own 1 (List.length (α := Int) out)), (16, .arr (List.map Vl.Ctor.c x.ctors)), (17, .lit (.int .i64 (x.ctors.length : Int))), (18, .lit (.int .i64 (i : Int)))], [.cells [.lit (.int .i64 t.data), .lit (.int .i64 t.index)], .elems 1 (List.map cI out)]⟩ (hold Q .mk)) := by
 refine F.impl_ctorsOf_l1.partial_correctness t x
  (fun i out o => ∀ (c : Code), navO [1, 1, 0, 1, 0, 1, 0, 0] (bodyOf Try.f57) = some c → ∀ (Q : Exit → ASt → Prop), Q (.exit 0) ⟨[(5, .own 1 (List.length (α := Int) o))], [.dead, .elems 1 (List.map cI o)]⟩ → ALoopU Try.prog B 0 44 (hold c .mk) ⟨[(3, .ptr 0 0), (5, .own 1 (List.length (α := Int) out)), (16, .arr (List.map Vl.Ctor.c x.ctors)), (17, .lit (.int .i64 (x.ctors.length : Int))), (18, .lit (.int .i64 (i : Int)))], [.cells [.lit (.int .i64 t.data), .lit (.int .i64 t.index)], .elems 1 (List.map cI out)]⟩ (hold Q .mk))
  ?_
 ·intro _f_impl_ctorsOf_l1 ih_impl_ctorsOf_l1 i out o hF
  intro c hc Q hq
  obtain rfl : c = _ := navEq hc rfl
  refine ALoopU.know fun hk hs => ?_
  have b16 := hk 16
  simp -dsimp at b16
  have d1 := hs 1 _ rfl
  simp -dsimp [Blk.bnd] at d1
  clear hk hs
  refine ALoopU.enter ?_
  repeat (first | refine chk.ga ?_ | simp -dsimp)
  refine abr.split (fun h4 => ?_) (fun h4 => ?_)
  ·have q5 : (i < x.ctors.length) := auq h4
   have z6 : ((i : Int) < (x.ctors.length : Int)) := auz
   rw [if_pos q5] at hF
   have hF := ob hF; obtain ⟨x7, e8, hF⟩ := hF
   have le8 := lt_of_get e8
   repeat (first | refine chk.ga ?_ | simp -dsimp [h4, z6, ↓e8])
   refine abr.split (fun h9 => ?_) (fun h9 => ?_)
   ·have q10 : ¬ (t.index = 0) := auq h9
    rw [if_neg q10] at hF
    repeat (first | refine chk.ga ?_ | simp -dsimp [h4, z6, ↓e8, h9, q10])
    refine abr.split (fun h11 => ?_) (fun h11 => ?_)
    ·have q12 : ¬ (x7.index = 0) := auq h11
     rw [if_neg q12] at hF
     repeat (first | refine chk.ga ?_ | simp -dsimp [h4, z6, ↓e8, h9, q10, h11, q12])
     refine abr.split (fun h13 => ?_) (fun h13 => ?_)
     ·have q14 : (x7.index = t.index) := auq h13
      rw [if_pos q14] at hF
      have hF := oc hF; obtain ⟨c15, hF⟩ := hF
      have w16 : IntKind.i64.wrap ((i : Int) + 1) = (i : Int) + 1 := wrap_in (by omega) (by omega)
      repeat (first | refine chk.ga ?_ | simp -dsimp [h4, z6, ↓e8, h9, q10, h11, q12, h13, w16])
      refine Again.go ⟨[(3, .ptr 0 0), (5, .own 1 (List.length (α := Int) (out ++ [(i : Int)]))), (16, .arr (List.map Vl.Ctor.c x.ctors)), (17, .lit (.int .i64 (x.ctors.length : Int))), (18, .lit (.int .i64 ((i + 1) : Int)))], [.cells [.lit (.int .i64 t.data), .lit (.int .i64 t.index)], .elems 1 (List.map cI (out ++ [(i : Int)]))]⟩ (Gh.to3 (by simp) (by first | simp -dsimp [h4, z6, ↓e8, h9, q10, h11, q12, h13, w16]; done | simp_all)) ?_
      exact (ih_impl_ctorsOf_l1 (i + 1) (out ++ [(i : Int)]) o hF) _ rfl _ hq
     ·have q14 : ¬ (x7.index = t.index) := auq h13
      rw [if_neg q14] at hF
      have w17 : IntKind.i64.wrap ((i : Int) + 1) = (i : Int) + 1 := wrap_in (by omega) (by omega)
      repeat (first | refine chk.ga ?_ | simp -dsimp [h4, z6, ↓e8, h9, q10, h11, q12, h13, q14, w17])
      refine Again.go ⟨[(3, .ptr 0 0), (5, .own 1 (List.length (α := Int) out)), (16, .arr (List.map Vl.Ctor.c x.ctors)), (17, .lit (.int .i64 (x.ctors.length : Int))), (18, .lit (.int .i64 ((i + 1) : Int)))], [.cells [.lit (.int .i64 t.data), .lit (.int .i64 t.index)], .elems 1 (List.map cI out)]⟩ (Gh.to3 (by simp) (by first | simp -dsimp [h4, z6, ↓e8, h9, q10, h11, q12, h13, q14, w17]; done | simp_all)) ?_
      exact (ih_impl_ctorsOf_l1 (i + 1) out o hF) _ rfl _ hq
    ·have q12 : (x7.index = 0) := auq h11
     rw [if_pos q12] at hF
     have hF := oc hF; obtain ⟨c18, hF⟩ := hF
     have w19 : IntKind.i64.wrap ((i : Int) + 1) = (i : Int) + 1 := wrap_in (by omega) (by omega)
     repeat (first | refine chk.ga ?_ | simp -dsimp [h4, z6, ↓e8, h9, q10, h11, q12, w19])
     refine Again.go ⟨[(3, .ptr 0 0), (5, .own 1 (List.length (α := Int) (out ++ [(i : Int)]))), (16, .arr (List.map Vl.Ctor.c x.ctors)), (17, .lit (.int .i64 (x.ctors.length : Int))), (18, .lit (.int .i64 ((i + 1) : Int)))], [.cells [.lit (.int .i64 t.data), .lit (.int .i64 t.index)], .elems 1 (List.map cI (out ++ [(i : Int)]))]⟩ (Gh.to3 (by simp) (by first | simp -dsimp [h4, z6, ↓e8, h9, q10, h11, q12, w19]; done | simp_all)) ?_
     exact (ih_impl_ctorsOf_l1 (i + 1) (out ++ [(i : Int)]) o hF) _ rfl _ hq
   ·have q10 : (t.index = 0) := auq h9
    rw [if_pos q10] at hF
    have hF := oc hF; obtain ⟨c20, hF⟩ := hF
    have w21 : IntKind.i64.wrap ((i : Int) + 1) = (i : Int) + 1 := wrap_in (by omega) (by omega)
    repeat (first | refine chk.ga ?_ | simp -dsimp [h4, z6, ↓e8, h9, q10, w21])
    refine Again.go ⟨[(3, .ptr 0 0), (5, .own 1 (List.length (α := Int) (out ++ [(i : Int)]))), (16, .arr (List.map Vl.Ctor.c x.ctors)), (17, .lit (.int .i64 (x.ctors.length : Int))), (18, .lit (.int .i64 ((i + 1) : Int)))], [.cells [.lit (.int .i64 t.data), .lit (.int .i64 t.index)], .elems 1 (List.map cI (out ++ [(i : Int)]))]⟩ (Gh.to3 (by simp) (by first | simp -dsimp [h4, z6, ↓e8, h9, q10, w21]; done | simp_all)) ?_
    exact (ih_impl_ctorsOf_l1 (i + 1) (out ++ [(i : Int)]) o hF) _ rfl _ hq
  ·have q5 : ¬ (i < x.ctors.length) := auq h4
   have z6 : ¬ ((i : Int) < (x.ctors.length : Int)) := auz
   rw [if_neg q5] at hF
   cases hF
   repeat (first | refine chk.ga ?_ | simp -dsimp [h4, q5, z6])
   refine Leave.go ⟨[(5, .own 1 (List.length (α := Int) out))], [.dead, .elems 1 (List.map cI out)]⟩ (Gh.to3 (by simp) (by first | simp -dsimp [h4, q5, z6]; done | simp_all)) ?_
   exact hq

theorem C.impl_ctorsOf_l1 (B : Nat) (hB1 : 67108864 ≤ B) (hB2 : B ≤ 9223372036854775807) (t : Vl.Ty) (x : Vl.Data) (i : Nat) (out : List Int) (o : List Int) (hF : F.impl_ctorsOf_l1 t x i out = some o) : ∀ (c : Code), navO [1, 1, 0, 1, 0, 1, 0, 0] (bodyOf Try.f57) = some c → ∀ (Q : Exit → ASt → Prop), Q (.exit 0) ⟨[(5, .own 1 (List.length (α := Int) o))], [.dead, .elems 1 (List.map cI o)]⟩ → ALoopU Try.prog B 0 44 (hold c .mk) ⟨[(3, .ptr 0 0), (5, .own 1 (List.length (α := Int) out)), (16, .arr (List.map Vl.Ctor.c x.ctors)), (17, .lit (.int .i64 (x.ctors.length : Int))), (18, .lit (.int .i64 (i : Int)))], [.cells [.lit (.int .i64 t.data), .lit (.int .i64 t.index)], .elems 1 (List.map cI out)]⟩ (hold Q .mk) :=
 (CC.impl_ctorsOf_l1 B hB1 hB2 t x) i out o hF

set_option maxRecDepth 100000 in
set_option maxHeartbeats 4000000 in
theorem C.impl_ctorsOf (B : Nat) (hB1 : 67108864 ≤ B) (hB2 : B ≤ 9223372036854775807) (w : List Vl.Data) (t : Vl.Ty) (r : List Int) (hF : F.impl_ctorsOf w t = some r) : PureCall Try.prog B 57 [.arr (List.map Vl.Data.c w), .agg [.lit (.int .i64 t.data), .lit (.int .i64 t.index)]] (.arr (List.map cI r)) := by
 unfold F.impl_ctorsOf at hF
 refine PureCall.enterLe Try.func57 (by kernel_rfl) rfl Try.ntmps57 (by simp) (by simp) ?_
 repeat (first | refine chk.ga ?_ | simp -dsimp)
 refine abr.split (fun h1 => ?_) (fun h1 => ?_)
 ·have q2 : ¬ (t.data = (-1)) := auq h1
  rw [if_neg q2] at hF
  have hF := ob hF; obtain ⟨x, e3a, hF⟩ := hF
  have e3a := at_some e3a; obtain ⟨ne3, e3⟩ := e3a
  have le3 := lt_of_get e3
  repeat (first | refine chk.ga ?_ | simp -dsimp [h1, q2, ↓e3])
  have hF := ob hF; obtain ⟨o', ho22, hF⟩ := hF
  refine ALoop.goU ⟨[(3, .ptr 0 0), (5, .own 1 (List.length (α := Int) [])), (16, .arr (List.map Vl.Ctor.c x.ctors)), (17, .lit (.int .i64 (x.ctors.length : Int))), (18, .lit (.int .i64 (0 : Int)))], [.cells [.lit (.int .i64 t.data), .lit (.int .i64 t.index)], .elems 1 (List.map cI [])]⟩ ((Gh.nil 5 1 (by simp -dsimp)).trans (Gh.to3 (by simp) (by first | simp -dsimp [h1, q2, ↓e3]; done | simp_all))) ?_
  refine (C.impl_ctorsOf_l1 B hB1 hB2 t x 0 [] o' ho22) _ rfl _ ?_
  cases hF
  repeat (first | refine chk.ga ?_ | simp -dsimp)
  all_goals (try omega)
 ·have q2 : (t.data = (-1)) := auq h1
  rw [if_pos q2] at hF
  cases hF
  repeat (first | refine chk.ga ?_ | simp -dsimp [h1, q2])
  all_goals (try omega)

set_option maxRecDepth 100000 in
set_option maxHeartbeats 4000000 in
theorem CC.slices_Index_int_l1 (B : Nat) (hB1 : 67108864 ≤ B) (hB2 : B ≤ 9223372036854775807) (s : List Int) (v : Int) : (∀ (i : Nat) (o : Lo Int Unit), F.slices_Index_int_l1 s v i = some o → ∀ (c : Code), navO [1, 0, 1, 0, 0] (bodyOf Try.f87) = some c → ∀ (Q : Exit → ASt → Prop), o.post (fun r => ∀ st, Post Try.prog Try.f87 (fun r' _ => r'.le (.lit (.int .i64 r))) .ret st → Q .ret st) (fun s => Q (.exit 0) ⟨[], []⟩) → ALoopU Try.prog B 0 19 (hold c .mk) ⟨[(0, .arr (List.map cI s)), (1, .lit (.int .i64 v)), (7, .lit (.int .i64 (s.length : Int))), (8, .lit (.int .i64 (i : Int)))], []⟩ (hold Q .mk)) := by
 refine F.slices_Index_int_l1.partial_correctness s v
  (fun i o => ∀ (c : Code), navO [1, 0, 1, 0, 0] (bodyOf Try.f87) = some c → ∀ (Q : Exit → ASt → Prop), o.post (fun r => ∀ st, Post Try.prog Try.f87 (fun r' _ => r'.le (.lit (.int .i64 r))) .ret st → Q .ret st) (fun s => Q (.exit 0) ⟨[], []⟩) → ALoopU Try.prog B 0 19 (hold c .mk) ⟨[(0, .arr (List.map cI s)), (1, .lit (.int .i64 v)), (7, .lit (.int .i64 (s.length : Int))), (8, .lit (.int .i64 (i : Int)))], []⟩ (hold Q .mk))
  ?_
 ·intro _f_slices_Index_int_l1 ih_slices_Index_int_l1 i o hF
  intro c hc Q hq
  obtain rfl : c = _ := navEq hc rfl
  refine ALoopU.know fun hk hs => ?_
  have b0 := hk 0
  simp -dsimp at b0
  clear hk hs
  refine ALoopU.enter ?_
  repeat (first | refine chk.ga ?_ | simp -dsimp)
  refine abr.split (fun h1 => ?_) (fun h1 => ?_)
  ·have q2 : (i < s.length) := auq h1
   have z3 : ((i : Int) < (s.length : Int)) := auz
   rw [if_pos q2] at hF
   have hF := ob hF; obtain ⟨x, e4, hF⟩ := hF
   have le4 := lt_of_get e4
   repeat (first | refine chk.ga ?_ | simp -dsimp [h1, z3, ↓e4])
   refine abr.split (fun h5 => ?_) (fun h5 => ?_)
   ·have q6 : (v = x) := auq h5
    rw [if_pos q6] at hF
    cases hF
    repeat (first | refine chk.ga ?_ | simp -dsimp [h1, z3, ↓e4, h5])
    refine Leave.go _ (Gh.refl _) (hq _ ?_)
    repeat (first | refine chk.ga ?_ | simp -dsimp [h1, z3, ↓e4, h5])
   ·have q6 : ¬ (v = x) := auq h5
    rw [if_neg q6] at hF
    have w7 : IntKind.i64.wrap ((i : Int) + 1) = (i : Int) + 1 := wrap_in (by omega) (by omega)
    repeat (first | refine chk.ga ?_ | simp -dsimp [h1, z3, ↓e4, h5, q6, w7])
    refine Again.go ⟨[(0, .arr (List.map cI s)), (1, .lit (.int .i64 v)), (7, .lit (.int .i64 (s.length : Int))), (8, .lit (.int .i64 ((i + 1) : Int)))], []⟩ (Gh.to3 (by simp) (by first | simp -dsimp [h1, z3, ↓e4, h5, q6, w7]; done | simp_all)) ?_
    exact (ih_slices_Index_int_l1 (i + 1) o hF) _ rfl _ hq
  ·have q2 : ¬ (i < s.length) := auq h1
   have z3 : ¬ ((i : Int) < (s.length : Int)) := auz
   rw [if_neg q2] at hF
   cases hF
   repeat (first | refine chk.ga ?_ | simp -dsimp [h1, q2, z3])
   refine Leave.go ⟨[], []⟩ (Gh.to3 (by simp) (by first | simp -dsimp [h1, q2, z3]; done | simp_all)) ?_
   exact hq

theorem C.slices_Index_int_l1 (B : Nat) (hB1 : 67108864 ≤ B) (hB2 : B ≤ 9223372036854775807) (s : List Int) (v : Int) (i : Nat) (o : Lo Int Unit) (hF : F.slices_Index_int_l1 s v i = some o) : ∀ (c : Code), navO [1, 0, 1, 0, 0] (bodyOf Try.f87) = some c → ∀ (Q : Exit → ASt → Prop), o.post (fun r => ∀ st, Post Try.prog Try.f87 (fun r' _ => r'.le (.lit (.int .i64 r))) .ret st → Q .ret st) (fun s => Q (.exit 0) ⟨[], []⟩) → ALoopU Try.prog B 0 19 (hold c .mk) ⟨[(0, .arr (List.map cI s)), (1, .lit (.int .i64 v)), (7, .lit (.int .i64 (s.length : Int))), (8, .lit (.int .i64 (i : Int)))], []⟩ (hold Q .mk) :=
 (CC.slices_Index_int_l1 B hB1 hB2 s v) i o hF

set_option maxRecDepth 100000 in
set_option maxHeartbeats 4000000 in
theorem C.slices_Index_int (B : Nat) (hB1 : 67108864 ≤ B) (hB2 : B ≤ 9223372036854775807) (s : List Int) (v : Int) (r : Int) (hF : F.slices_Index_int s v = some r) : PureCall Try.prog B 87 [.arr (List.map cI s), .lit (.int .i64 v)] (.lit (.int .i64 r)) := by
 unfold F.slices_Index_int at hF
 refine PureCall.enterLe Try.func87 (by kernel_rfl) rfl Try.ntmps87 (by simp) (by simp) ?_
 repeat (first | refine chk.ga ?_ | simp -dsimp)
 have hF := ob hF; obtain ⟨o', ho8, hF⟩ := hF
 refine ALoop.goU ⟨[(0, .arr (List.map cI s)), (1, .lit (.int .i64 v)), (7, .lit (.int .i64 (s.length : Int))), (8, .lit (.int .i64 (0 : Int)))], []⟩ (Gh.to3 (by simp) (by simp -dsimp)) ?_
 refine (C.slices_Index_int_l1 B hB1 hB2 s v 0 o' ho8) _ rfl _ ?_
 rcases o' with r0 | sx
 ·dsimp only at hF
  cases hF
  intro st h
  simpa using h
 ·dsimp only at hF
  cases hF
  repeat (first | refine chk.ga ?_ | simp -dsimp)
  all_goals (try omega)

set_option maxRecDepth 100000 in
set_option maxHeartbeats 4000000 in
theorem C.slices_Contains_int (B : Nat) (hB1 : 67108864 ≤ B) (hB2 : B ≤ 9223372036854775807) (s : List Int) (v : Int) (r : Bool) (hF : F.slices_Contains_int s v = some r) : PureCall Try.prog B 56 [.arr (List.map cI s), .lit (.int .i64 v)] (.lit (.bool r)) := by
 unfold F.slices_Contains_int at hF
 refine PureCall.enterLe Try.func56 (by kernel_rfl) rfl Try.ntmps56 (by simp) (by simp) ?_
 repeat (first | refine chk.ga ?_ | simp -dsimp)
 have hF := ob hF; obtain ⟨v1, e2, hF⟩ := hF
 refine ((C.slices_Index_int B hB1 hB2 s v v1 e2)).goW (by simp) (by simp) ?_
 cases hF
 repeat (first | refine chk.ga ?_ | simp -dsimp)
 all_goals (try omega)

set_option maxRecDepth 100000 in
set_option maxHeartbeats 4000000 in
theorem CC.impl_argTypes_l1 (B : Nat) (hB1 : 67108864 ≤ B) (hB2 : B ≤ 9223372036854775807) (t : Vl.Ty) (x2 : Vl.Ctor) : (∀ (i : Nat) (out : List Vl.Ty) (o : List Vl.Ty), F.impl_argTypes_l1 t x2 i out = some o → ∀ (c : Code), navO [1, 1, 1, 1, 1, 0, 1, 0, 0] (bodyOf Try.f58) = some c → ∀ (Q : Exit → ASt → Prop), Q (.exit 0) ⟨[(9, .own 2 (List.length (α := Vl.Ty) o))], [.dead, .dead, .elems 2 (List.map Vl.Ty.c o)]⟩ → ALoopU Try.prog B 0 45 (hold c .mk) ⟨[(8, .lit (.int .i64 t.index)), (9, .own 2 (List.length (α := Vl.Ty) out)), (28, .arr (List.map Vl.Ty.c x2.args)), (29, .lit (.int .i64 (x2.args.length : Int))), (30, .lit (.int .i64 (i : Int)))], [.dead, .dead, .elems 2 (List.map Vl.Ty.c out)]⟩ (hold Q .mk)) := by
 refine F.impl_argTypes_l1.partial_correctness t x2
  (fun i out o => ∀ (c : Code), navO [1, 1, 1, 1, 1, 0, 1, 0, 0] (bodyOf Try.f58) = some c → ∀ (Q : Exit → ASt → Prop), Q (.exit 0) ⟨[(9, .own 2 (List.length (α := Vl.Ty) o))], [.dead, .dead, .elems 2 (List.map Vl.Ty.c o)]⟩ → ALoopU Try.prog B 0 45 (hold c .mk) ⟨[(8, .lit (.int .i64 t.index)), (9, .own 2 (List.length (α := Vl.Ty) out)), (28, .arr (List.map Vl.Ty.c x2.args)), (29, .lit (.int .i64 (x2.args.length : Int))), (30, .lit (.int .i64 (i : Int)))], [.dead, .dead, .elems 2 (List.map Vl.Ty.c out)]⟩ (hold Q .mk))
  ?_
 ·intro _f_impl_argTypes_l1 ih_impl_argTypes_l1 i out o hF
  intro c hc Q hq
  obtain rfl : c = _ := navEq hc rfl
  refine ALoopU.know fun hk hs => ?_
  have b28 := hk 28
  simp -dsimp at b28
  have d2 := hs 2 _ rfl
  simp -dsimp [Blk.bnd] at d2
  clear hk hs
  refine ALoopU.enter ?_
  repeat (first | refine chk.ga ?_ | simp -dsimp)
  refine abr.split (fun h6 => ?_) (fun h6 => ?_)
  ·have q7 : (i < x2.args.length) := auq h6
   have z8 : ((i : Int) < (x2.args.length : Int)) := auz
   rw [if_pos q7] at hF
   have hF := ob hF; obtain ⟨x9, e10, hF⟩ := hF
   have le10 := lt_of_get e10
   repeat (first | refine chk.ga ?_ | simp -dsimp [h6, z8, ↓e10])
   refine abr.split (fun h11 => ?_) (fun h11 => ?_)
   ·have q12 : (x9.index = (-1)) := auq h11
    rw [if_pos q12] at hF
    have hF := oc hF; obtain ⟨c13, hF⟩ := hF
    have w14 : IntKind.i64.wrap ((i : Int) + 1) = (i : Int) + 1 := wrap_in (by omega) (by omega)
    repeat (first | refine chk.ga ?_ | simp -dsimp [h6, z8, ↓e10, h11, w14])
    refine Again.go ⟨[(8, .lit (.int .i64 t.index)), (9, .own 2 (List.length (α := Vl.Ty) (out ++ [(⟨x9.data, t.index⟩ : Vl.Ty)]))), (28, .arr (List.map Vl.Ty.c x2.args)), (29, .lit (.int .i64 (x2.args.length : Int))), (30, .lit (.int .i64 ((i + 1) : Int)))], [.dead, .dead, .elems 2 (List.map Vl.Ty.c (out ++ [(⟨x9.data, t.index⟩ : Vl.Ty)]))]⟩ (Gh.to3 (by simp) (by first | simp -dsimp [h6, z8, ↓e10, h11, w14]; done | simp_all)) ?_
    exact (ih_impl_argTypes_l1 (i + 1) (out ++ [(⟨x9.data, t.index⟩ : Vl.Ty)]) o hF) _ rfl _ hq
   ·have q12 : ¬ (x9.index = (-1)) := auq h11
    rw [if_neg q12] at hF
    have hF := oc hF; obtain ⟨c15, hF⟩ := hF
    have w16 : IntKind.i64.wrap ((i : Int) + 1) = (i : Int) + 1 := wrap_in (by omega) (by omega)
    repeat (first | refine chk.ga ?_ | simp -dsimp [h6, z8, ↓e10, h11, q12, w16])
    refine Again.go ⟨[(8, .lit (.int .i64 t.index)), (9, .own 2 (List.length (α := Vl.Ty) (out ++ [x9]))), (28, .arr (List.map Vl.Ty.c x2.args)), (29, .lit (.int .i64 (x2.args.length : Int))), (30, .lit (.int .i64 ((i + 1) : Int)))], [.dead, .dead, .elems 2 (List.map Vl.Ty.c (out ++ [x9]))]⟩ (Gh.to3 (by simp) (by first | simp -dsimp [h6, z8, ↓e10, h11, q12, w16]; done | simp_all)) ?_
    exact (ih_impl_argTypes_l1 (i + 1) (out ++ [x9]) o hF) _ rfl _ hq
  ·have q7 : ¬ (i < x2.args.length) := auq h6
   have z8 : ¬ ((i : Int) < (x2.args.length : Int)) := auz
   rw [if_neg q7] at hF
   cases hF
   repeat (first | refine chk.ga ?_ | simp -dsimp [h6, q7, z8])
   refine Leave.go ⟨[(9, .own 2 (List.length (α := Vl.Ty) out))], [.dead, .dead, .elems 2 (List.map Vl.Ty.c out)]⟩ (Gh.to3 (by simp) (by first | simp -dsimp [h6, q7, z8]; done | simp_all)) ?_
   exact hq

theorem C.impl_argTypes_l1 (B : Nat) (hB1 : 67108864 ≤ B) (hB2 : B ≤ 9223372036854775807) (t : Vl.Ty) (x2 : Vl.Ctor) (i : Nat) (out : List Vl.Ty) (o : List Vl.Ty) (hF : F.impl_argTypes_l1 t x2 i out = some o) : ∀ (c : Code), navO [1, 1, 1, 1, 1, 0, 1, 0, 0] (bodyOf Try.f58) = some c → ∀ (Q : Exit → ASt → Prop), Q (.exit 0) ⟨[(9, .own 2 (List.length (α := Vl.Ty) o))], [.dead, .dead, .elems 2 (List.map Vl.Ty.c o)]⟩ → ALoopU Try.prog B 0 45 (hold c .mk) ⟨[(8, .lit (.int .i64 t.index)), (9, .own 2 (List.length (α := Vl.Ty) out)), (28, .arr (List.map Vl.Ty.c x2.args)), (29, .lit (.int .i64 (x2.args.length : Int))), (30, .lit (.int .i64 (i : Int)))], [.dead, .dead, .elems 2 (List.map Vl.Ty.c out)]⟩ (hold Q .mk) :=
 (CC.impl_argTypes_l1 B hB1 hB2 t x2) i out o hF

set_option maxRecDepth 100000 in
set_option maxHeartbeats 4000000 in
theorem CC.impl_argTypes_l2 (B : Nat) (hB1 : 67108864 ≤ B) (hB2 : B ≤ 9223372036854775807) (x2 : Vl.Ctor) : (∀ (i18 : Nat) (out19 : List Vl.Ty) (o : List Vl.Ty), F.impl_argTypes_l2 x2 i18 out19 = some o → ∀ (c : Code), navO [1, 1, 1, 1, 1, 0, 1, 0, 0] (bodyOf Try.f58) = some c → ∀ (Q : Exit → ASt → Prop), Q (.exit 0) ⟨[(9, .own 2 (List.length (α := Vl.Ty) o))], [.dead, .dead, .elems 2 (List.map Vl.Ty.c o)]⟩ → ALoopU Try.prog B 0 45 (hold c .mk) ⟨[(8, .lit (.int .i64 x2.index)), (9, .own 2 (List.length (α := Vl.Ty) out19)), (28, .arr (List.map Vl.Ty.c x2.args)), (29, .lit (.int .i64 (x2.args.length : Int))), (30, .lit (.int .i64 (i18 : Int)))], [.dead, .dead, .elems 2 (List.map Vl.Ty.c out19)]⟩ (hold Q .mk)) := by
 refine F.impl_argTypes_l2.partial_correctness x2
  (fun i18 out19 o => ∀ (c : Code), navO [1, 1, 1, 1, 1, 0, 1, 0, 0] (bodyOf Try.f58) = some c → ∀ (Q : Exit → ASt → Prop), Q (.exit 0) ⟨[(9, .own 2 (List.length (α := Vl.Ty) o))], [.dead, .dead, .elems 2 (List.map Vl.Ty.c o)]⟩ → ALoopU Try.prog B 0 45 (hold c .mk) ⟨[(8, .lit (.int .i64 x2.index)), (9, .own 2 (List.length (α := Vl.Ty) out19)), (28, .arr (List.map Vl.Ty.c x2.args)), (29, .lit (.int .i64 (x2.args.length : Int))), (30, .lit (.int .i64 (i18 : Int)))], [.dead, .dead, .elems 2 (List.map Vl.Ty.c out19)]⟩ (hold Q .mk))
  ?_
 ·intro _f_impl_argTypes_l2 ih_impl_argTypes_l2 i18 out19 o hF
  intro c hc Q hq
  obtain rfl : c = _ := navEq hc rfl
  refine ALoopU.know fun hk hs => ?_
  have b28 := hk 28
  simp -dsimp at b28
  have d2 := hs 2 _ rfl
  simp -dsimp [Blk.bnd] at d2
  clear hk hs
  refine ALoopU.enter ?_
  repeat (first | refine chk.ga ?_ | simp -dsimp)
  refine abr.split (fun h20 => ?_) (fun h20 => ?_)
  ·have q21 : (i18 < x2.args.length) := auq h20
   have z22 : ((i18 : Int) < (x2.args.length : Int)) := auz
   rw [if_pos q21] at hF
   have hF := ob hF; obtain ⟨x23, e24, hF⟩ := hF
   have le24 := lt_of_get e24
   repeat (first | refine chk.ga ?_ | simp -dsimp [h20, z22, ↓e24])
   refine abr.split (fun h25 => ?_) (fun h25 => ?_)
   ·have q26 : (x23.index = (-1)) := auq h25
    rw [if_pos q26] at hF
    have hF := oc hF; obtain ⟨c27, hF⟩ := hF
    have w28 : IntKind.i64.wrap ((i18 : Int) + 1) = (i18 : Int) + 1 := wrap_in (by omega) (by omega)
    repeat (first | refine chk.ga ?_ | simp -dsimp [h20, z22, ↓e24, h25, w28])
    refine Again.go ⟨[(8, .lit (.int .i64 x2.index)), (9, .own 2 (List.length (α := Vl.Ty) (out19 ++ [(⟨x23.data, x2.index⟩ : Vl.Ty)]))), (28, .arr (List.map Vl.Ty.c x2.args)), (29, .lit (.int .i64 (x2.args.length : Int))), (30, .lit (.int .i64 ((i18 + 1) : Int)))], [.dead, .dead, .elems 2 (List.map Vl.Ty.c (out19 ++ [(⟨x23.data, x2.index⟩ : Vl.Ty)]))]⟩ (Gh.to3 (by simp) (by first | simp -dsimp [h20, z22, ↓e24, h25, w28]; done | simp_all)) ?_
    exact (ih_impl_argTypes_l2 (i18 + 1) (out19 ++ [(⟨x23.data, x2.index⟩ : Vl.Ty)]) o hF) _ rfl _ hq
   ·have q26 : ¬ (x23.index = (-1)) := auq h25
    rw [if_neg q26] at hF
    have hF := oc hF; obtain ⟨c29, hF⟩ := hF
    have w30 : IntKind.i64.wrap ((i18 : Int) + 1) = (i18 : Int) + 1 := wrap_in (by omega) (by omega)
    repeat (first | refine chk.ga ?_ | simp -dsimp [h20, z22, ↓e24, h25, q26, w30])
    refine Again.go ⟨[(8, .lit (.int .i64 x2.index)), (9, .own 2 (List.length (α := Vl.Ty) (out19 ++ [x23]))), (28, .arr (List.map Vl.Ty.c x2.args)), (29, .lit (.int .i64 (x2.args.length : Int))), (30, .lit (.int .i64 ((i18 + 1) : Int)))], [.dead, .dead, .elems 2 (List.map Vl.Ty.c (out19 ++ [x23]))]⟩ (Gh.to3 (by simp) (by first | simp -dsimp [h20, z22, ↓e24, h25, q26, w30]; done | simp_all)) ?_
    exact (ih_impl_argTypes_l2 (i18 + 1) (out19 ++ [x23]) o hF) _ rfl _ hq
  ·have q21 : ¬ (i18 < x2.args.length) := auq h20
   have z22 : ¬ ((i18 : Int) < (x2.args.length : Int)) := auz
   rw [if_neg q21] at hF
   cases hF
   repeat (first | refine chk.ga ?_ | simp -dsimp [h20, q21, z22])
   refine Leave.go ⟨[(9, .own 2 (List.length (α := Vl.Ty) out19))], [.dead, .dead, .elems 2 (List.map Vl.Ty.c out19)]⟩ (Gh.to3 (by simp) (by first | simp -dsimp [h20, q21, z22]; done | simp_all)) ?_
   exact hq

theorem C.impl_argTypes_l2 (B : Nat) (hB1 : 67108864 ≤ B) (hB2 : B ≤ 9223372036854775807) (x2 : Vl.Ctor) (i18 : Nat) (out19 : List Vl.Ty) (o : List Vl.Ty) (hF : F.impl_argTypes_l2 x2 i18 out19 = some o) : ∀ (c : Code), navO [1, 1, 1, 1, 1, 0, 1, 0, 0] (bodyOf Try.f58) = some c → ∀ (Q : Exit → ASt → Prop), Q (.exit 0) ⟨[(9, .own 2 (List.length (α := Vl.Ty) o))], [.dead, .dead, .elems 2 (List.map Vl.Ty.c o)]⟩ → ALoopU Try.prog B 0 45 (hold c .mk) ⟨[(8, .lit (.int .i64 x2.index)), (9, .own 2 (List.length (α := Vl.Ty) out19)), (28, .arr (List.map Vl.Ty.c x2.args)), (29, .lit (.int .i64 (x2.args.length : Int))), (30, .lit (.int .i64 (i18 : Int)))], [.dead, .dead, .elems 2 (List.map Vl.Ty.c out19)]⟩ (hold Q .mk) :=
 (CC.impl_argTypes_l2 B hB1 hB2 x2) i18 out19 o hF

set_option maxRecDepth 100000 in
set_option maxHeartbeats 4000000 in
theorem C.impl_argTypes (B : Nat) (hB1 : 67108864 ≤ B) (hB2 : B ≤ 9223372036854775807) (w : List Vl.Data) (t : Vl.Ty) (ctor : Int) (r : List Vl.Ty) (hF : F.impl_argTypes w t ctor = some r) : PureCall Try.prog B 58 [.arr (List.map Vl.Data.c w), .agg [.lit (.int .i64 t.data), .lit (.int .i64 t.index)], .lit (.int .i64 ctor)] (.arr (List.map Vl.Ty.c r)) := by
 unfold F.impl_argTypes at hF
 refine PureCall.enterLe Try.func58 (by kernel_rfl) rfl Try.ntmps58 (by simp) (by simp) ?_
 have hF := ob hF; obtain ⟨x, e1a, hF⟩ := hF
 have e1a := at_some e1a; obtain ⟨ne1, e1⟩ := e1a
 have le1 := lt_of_get e1
 have hF := ob hF; obtain ⟨x2, e3a, hF⟩ := hF
 have e3a := at_some e3a; obtain ⟨ne3, e3⟩ := e3a
 have le3 := lt_of_get e3
 repeat (first | refine chk.ga ?_ | simp -dsimp [↓e1, ↓e3])
 refine abr.split (fun h4 => ?_) (fun h4 => ?_)
 ·have q5 : (x2.index = 0) := auq h4
  rw [if_pos q5] at hF
  repeat (first | refine chk.ga ?_ | simp -dsimp [↓e1, ↓e3, h4])
  have hF := ob hF; obtain ⟨o', ho17, hF⟩ := hF
  refine ALoop.goU ⟨[(8, .lit (.int .i64 t.index)), (9, .own 2 (List.length (α := Vl.Ty) [])), (28, .arr (List.map Vl.Ty.c x2.args)), (29, .lit (.int .i64 (x2.args.length : Int))), (30, .lit (.int .i64 (0 : Int)))], [.dead, .dead, .elems 2 (List.map Vl.Ty.c [])]⟩ ((Gh.nil 9 2 (by simp -dsimp)).trans (Gh.to3 (by simp) (by first | simp -dsimp [↓e1, ↓e3, h4]; done | simp_all))) ?_
  refine (C.impl_argTypes_l1 B hB1 hB2 t x2 0 [] o' ho17) _ rfl _ ?_
  cases hF
  repeat (first | refine chk.ga ?_ | simp -dsimp)
  all_goals (try omega)
 ·have q5 : ¬ (x2.index = 0) := auq h4
  rw [if_neg q5] at hF
  repeat (first | refine chk.ga ?_ | simp -dsimp [↓e1, ↓e3, h4, q5])
  have hF := ob hF; obtain ⟨o'32, ho31, hF⟩ := hF
  refine ALoop.goU ⟨[(8, .lit (.int .i64 x2.index)), (9, .own 2 (List.length (α := Vl.Ty) [])), (28, .arr (List.map Vl.Ty.c x2.args)), (29, .lit (.int .i64 (x2.args.length : Int))), (30, .lit (.int .i64 (0 : Int)))], [.dead, .dead, .elems 2 (List.map Vl.Ty.c [])]⟩ ((Gh.nil 9 2 (by simp -dsimp)).trans (Gh.to3 (by simp) (by first | simp -dsimp [↓e1, ↓e3, h4, q5]; done | simp_all))) ?_
  refine (C.impl_argTypes_l2 B hB1 hB2 x2 0 [] o'32 ho31) _ rfl _ ?_
  cases hF
  repeat (first | refine chk.ga ?_ | simp -dsimp)
  all_goals (try omega)

set_option maxRecDepth 100000 in
set_option maxHeartbeats 4000000 in
theorem CC.impl_valueScan (B : Nat) (hB1 : 67108864 ≤ B) (hB2 : B ≤ 9223372036854775807) (w : List Vl.Data) (holes : Bool) : (∀ (t : Vl.Ty) (v : Vl.Value) (deep : Int) (count : Int) (r : Bool × Int), F.impl_valueScan w t v deep holes count = some r → MutCall Try.prog B 31 [.lit (.int .i64 count)] [.arr (List.map Vl.Data.c w), .agg [.lit (.int .i64 t.data), .lit (.int .i64 t.index)], .agg [.lit (.int .i64 v.ctor), .lit (.int .i64 v.n), .arr (List.map Vl.Value.c v.kids)], .lit (.int .i64 deep), .lit (.bool holes), .ptr 0 0] (.lit (.bool r.1)) [.lit (.int .i64 r.2)]) ∧
  (∀ (v : Vl.Value) (deep : Int) (v60 : List Vl.Ty) (z65 : Int) (i66 : Nat) (o : Lo (Bool × Int) Int), F.impl_valueScan_l2 w v deep holes v60 z65 i66 = some o → ∀ (c : Code), navO [1, 1, 1, 1, 1, 1, 0, 1, 0, 0] (bodyOf Try.f31) = some c → ∀ (Q : Exit → ASt → Prop), o.post (fun r => ∀ st, Post Try.prog Try.f31 (fun r' σ' => r'.le (.lit (.bool r.1)) ∧ mcell σ' [.lit (.int .i64 r.2)]) .ret st → Q .ret st) (fun s => Q (.exit 1) ⟨[], [.cells [.lit (.int .i64 s)]]⟩) → ALoopU Try.prog B 1 108 (hold c .mk) ⟨[(0, .arr (List.map Vl.Data.c w)), (3, .lit (.int .i64 deep)), (4, .lit (.bool holes)), (5, .ptr 0 0), (13, .arr (List.map Vl.Ty.c v60)), (88, .arr (List.map Vl.Value.c v.kids)), (89, .lit (.int .i64 (v.kids.length : Int))), (90, .lit (.int .i64 (i66 : Int)))], [.cells [.lit (.int .i64 z65)]]⟩ (hold Q .mk)) ∧
  (∀ (v : Vl.Value) (deep : Int) (v27 : List Vl.Ty) (z : Int) (i : Nat) (o : Lo (Bool × Int) Int), F.impl_valueScan_l1 w v deep holes v27 z i = some o → ∀ (c : Code), navO [1, 1, 1, 1, 1, 1, 0, 1, 0, 0] (bodyOf Try.f31) = some c → ∀ (Q : Exit → ASt → Prop), o.post (fun r => ∀ st, Post Try.prog Try.f31 (fun r' σ' => r'.le (.lit (.bool r.1)) ∧ mcell σ' [.lit (.int .i64 r.2)]) .ret st → Q .ret st) (fun s => Q (.exit 1) ⟨[], [.cells [.lit (.int .i64 s)]]⟩) → ALoopU Try.prog B 1 108 (hold c .mk) ⟨[(0, .arr (List.map Vl.Data.c w)), (3, .lit (.int .i64 deep)), (4, .lit (.bool holes)), (5, .ptr 0 0), (13, .arr (List.map Vl.Ty.c v27)), (88, .arr (List.map Vl.Value.c v.kids)), (89, .lit (.int .i64 (v.kids.length : Int))), (90, .lit (.int .i64 (i : Int)))], [.cells [.lit (.int .i64 z)]]⟩ (hold Q .mk)) := by
 refine F.impl_valueScan.mutual_partial_correctness w holes
  (fun t v deep count r => MutCall Try.prog B 31 [.lit (.int .i64 count)] [.arr (List.map Vl.Data.c w), .agg [.lit (.int .i64 t.data), .lit (.int .i64 t.index)], .agg [.lit (.int .i64 v.ctor), .lit (.int .i64 v.n), .arr (List.map Vl.Value.c v.kids)], .lit (.int .i64 deep), .lit (.bool holes), .ptr 0 0] (.lit (.bool r.1)) [.lit (.int .i64 r.2)])
  (fun v deep v60 z65 i66 o => ∀ (c : Code), navO [1, 1, 1, 1, 1, 1, 0, 1, 0, 0] (bodyOf Try.f31) = some c → ∀ (Q : Exit → ASt → Prop), o.post (fun r => ∀ st, Post Try.prog Try.f31 (fun r' σ' => r'.le (.lit (.bool r.1)) ∧ mcell σ' [.lit (.int .i64 r.2)]) .ret st → Q .ret st) (fun s => Q (.exit 1) ⟨[], [.cells [.lit (.int .i64 s)]]⟩) → ALoopU Try.prog B 1 108 (hold c .mk) ⟨[(0, .arr (List.map Vl.Data.c w)), (3, .lit (.int .i64 deep)), (4, .lit (.bool holes)), (5, .ptr 0 0), (13, .arr (List.map Vl.Ty.c v60)), (88, .arr (List.map Vl.Value.c v.kids)), (89, .lit (.int .i64 (v.kids.length : Int))), (90, .lit (.int .i64 (i66 : Int)))], [.cells [.lit (.int .i64 z65)]]⟩ (hold Q .mk))
  (fun v deep v27 z i o => ∀ (c : Code), navO [1, 1, 1, 1, 1, 1, 0, 1, 0, 0] (bodyOf Try.f31) = some c → ∀ (Q : Exit → ASt → Prop), o.post (fun r => ∀ st, Post Try.prog Try.f31 (fun r' σ' => r'.le (.lit (.bool r.1)) ∧ mcell σ' [.lit (.int .i64 r.2)]) .ret st → Q .ret st) (fun s => Q (.exit 1) ⟨[], [.cells [.lit (.int .i64 s)]]⟩) → ALoopU Try.prog B 1 108 (hold c .mk) ⟨[(0, .arr (List.map Vl.Data.c w)), (3, .lit (.int .i64 deep)), (4, .lit (.bool holes)), (5, .ptr 0 0), (13, .arr (List.map Vl.Ty.c v27)), (88, .arr (List.map Vl.Value.c v.kids)), (89, .lit (.int .i64 (v.kids.length : Int))), (90, .lit (.int .i64 (i : Int)))], [.cells [.lit (.int .i64 z)]]⟩ (hold Q .mk))
  ?_ ?_ ?_
 ·intro _f_impl_valueScan_l2 _f_impl_valueScan_l1 ih_impl_valueScan_l2 ih_impl_valueScan_l1 t v deep count r hF
  refine MutCall.enter Try.func31 (by kernel_rfl) rfl Try.ntmps31 (by simp) (by simp) (by simp) (by simp) ?_
  repeat (first | refine chk.ga ?_ | simp -dsimp)
  refine abr.split (fun h1 => ?_) (fun h1 => ?_)
  ·have q2 : ¬ (60 < IntKind.i64.wrap (count + 1)) := auq h1
   rw [if_neg q2] at hF
   repeat (first | refine chk.ga ?_ | simp -dsimp [h1, q2])
   refine abr.split (fun h3 => ?_) (fun h3 => ?_)
   ·have q4 : (10 < deep) := auq h3
    rw [if_pos q4] at hF
    cases hF
    repeat (first | refine chk.ga ?_ | simp -dsimp [h1, q2, h3])
    all_goals (try omega)
   ·have q4 : ¬ (10 < deep) := auq h3
    rw [if_neg q4] at hF
    repeat (first | refine chk.ga ?_ | simp -dsimp [h1, q2, h3, q4])
    refine abr.split (fun h5 => ?_) (fun h5 => ?_)
    ·have q6 : (holes = true) := auq h5
     rw [if_pos q6] at hF
     repeat (first | refine chk.ga ?_ | simp -dsimp [h1, q2, h3, q4, h5])
     refine abr.split (fun h7 => ?_) (fun h7 => ?_)
     ·have q8 : (v.ctor = (-2)) := auq h7
      rw [if_pos q8] at hF
      repeat (first | refine chk.ga ?_ | simp -dsimp [h1, q2, h3, q4, h5, h7])
      refine abr.split (fun h9 => ?_) (fun h9 => ?_)
      ·have q10 : (v.n = 0) := auq h9
       rw [if_pos q10] at hF
       cases hF
       repeat (first | refine chk.ga ?_ | simp -dsimp [h1, q2, h3, q4, h5, h7, h9])
       all_goals (try omega)
      ·have q10 : ¬ (v.n = 0) := auq h9
       rw [if_neg q10] at hF
       cases hF
       repeat (first | refine chk.ga ?_ | simp -dsimp [h1, q2, h3, q4, h5, h7, h9, q10])
       all_goals (try omega)
     ·have q8 : ¬ (v.ctor = (-2)) := auq h7
      rw [if_neg q8] at hF
      repeat (first | refine chk.ga ?_ | simp -dsimp [h1, q2, h3, q4, h5, h7, q8])
      refine abr.split (fun h11 => ?_) (fun h11 => ?_)
      ·have q12 : (t.data = (-1)) := auq h11
       rw [if_pos q12] at hF
       repeat (first | refine chk.ga ?_ | simp -dsimp [h1, q2, h3, q4, h5, h7, q8, h11])
       refine abr.split (fun h13 => ?_) (fun h13 => ?_)
       ·have q14 : (v.ctor = (-1)) := auq h13
        rw [if_pos q14] at hF
        repeat (first | refine chk.ga ?_ | simp -dsimp [h1, q2, h3, q4, h5, h7, q8, h11, h13])
        have hF := ob hF; obtain ⟨v15, e16, hF⟩ := hF
        refine ((C.impl_within B hB1 hB2 v.n (0 : Int) (9 : Int) v15 e16)).goW (by first | simp [h1, q2, h3, q4, h5, h7, q8, h11, h13]; done | simp_all) (by simp) ?_
        repeat (first | refine chk.ga ?_ | simp -dsimp [h1, q2, h3, q4, h5, h7, q8, h11, h13])
        refine abr.split (fun h17 => ?_) (fun h17 => ?_)
        ·have q18 : (v15 = true) := auq h17
         rw [if_pos q18] at hF
         cases hF
         repeat (first | refine chk.ga ?_ | simp -dsimp [h1, q2, h3, q4, h5, h7, q8, h11, h13, h17])
         all_goals (try omega)
        ·have q18 : ¬ (v15 = true) := auq h17
         rw [if_neg q18] at hF
         cases hF
         repeat (first | refine chk.ga ?_ | simp -dsimp [h1, q2, h3, q4, h5, h7, q8, h11, h13, h17, q18])
         all_goals (try omega)
       ·have q14 : ¬ (v.ctor = (-1)) := auq h13
        rw [if_neg q14] at hF
        cases hF
        repeat (first | refine chk.ga ?_ | simp -dsimp [h1, q2, h3, q4, h5, h7, q8, h11, h13, q14])
        all_goals (try omega)
      ·have q12 : ¬ (t.data = (-1)) := auq h11
       rw [if_neg q12] at hF
       repeat (first | refine chk.ga ?_ | simp -dsimp [h1, q2, h3, q4, h5, h7, q8, h11, q12])
       refine ADraw.simple follows (by kernel_rfl) (by kernel_rfl) ?_
       repeat (first | refine chk.ga ?_ | simp -dsimp [h1, q2, h3, q4, h5, h7, q8, h11, q12])
       refine abr.split (fun h19 => ?_) (fun h19 => ?_)
       ·have q20 : (v.n = 0) := auq h19
        rw [if_pos q20] at hF
        repeat (first | refine chk.ga ?_ | simp -dsimp [h1, q2, h3, q4, h5, h7, q8, h11, q12, h19])
        have hF := ob hF; obtain ⟨v21, e22, hF⟩ := hF
        refine ((C.impl_ctorsOf B hB1 hB2 w t v21 e22)).pgoW (by first | simp [h1, q2, h3, q4, h5, h7, q8, h11, q12, h19]; done | simp_all) (by simp) ?_
        repeat (first | refine chk.ga ?_ | simp -dsimp [h1, q2, h3, q4, h5, h7, q8, h11, q12, h19])
        have hF := ob hF; obtain ⟨v23, e24, hF⟩ := hF
        refine ((C.slices_Contains_int B hB1 hB2 v21 v.ctor v23 e24)).pgoW (by first | simp [h1, q2, h3, q4, h5, h7, q8, h11, q12, h19]; done | simp_all) (by simp) ?_
        repeat (first | refine chk.ga ?_ | simp -dsimp [h1, q2, h3, q4, h5, h7, q8, h11, q12, h19])
        refine abr.split (fun h25 => ?_) (fun h25 => ?_)
        ·have q26 : ¬ (v23 = true) := auq h25
         rw [if_neg q26] at hF
         cases hF
         repeat (first | refine chk.ga ?_ | simp -dsimp [h1, q2, h3, q4, h5, h7, q8, h11, q12, h19, h25, q26])
         all_goals (try omega)
        ·have q26 : (v23 = true) := auq h25
         rw [if_pos q26] at hF
         repeat (first | refine chk.ga ?_ | simp -dsimp [h1, q2, h3, q4, h5, h7, q8, h11, q12, h19, h25, q26])
         have hF := ob hF; obtain ⟨v27, e28, hF⟩ := hF
         refine ((C.impl_argTypes B hB1 hB2 w t v.ctor v27 e28)).goW (by first | simp [h1, q2, h3, q4, h5, h7, q8, h11, q12, h19, h25, q26]; done | simp_all) (by simp) ?_
         repeat (first | refine chk.ga ?_ | simp -dsimp [h1, q2, h3, q4, h5, h7, q8, h11, q12, h19, h25, q26])
         refine abr.split (fun h29 => ?_) (fun h29 => ?_)
         ·have q30 : ¬ (v27.length = v.kids.length) := auq h29
          have z31 : ¬ ((v27.length : Int) = (v.kids.length : Int)) := auz
          rw [if_neg q30] at hF
          cases hF
          repeat (first | refine chk.ga ?_ | simp -dsimp [h1, q2, h3, q4, h5, h7, q8, h11, q12, h19, h25, q26, h29, q30, z31])
          all_goals (try omega)
         ·have q30 : (v27.length = v.kids.length) := auq h29
          have z31 : ((v27.length : Int) = (v.kids.length : Int)) := auz
          rw [if_pos q30] at hF
          repeat (first | refine chk.ga ?_ | simp -dsimp [h1, q2, h3, q4, h5, h7, q8, h11, q12, h19, h25, q26, h29, q30, z31])
          have hF := ob hF; obtain ⟨o', ho43, hF⟩ := hF
          refine ALoop.goU ⟨[(0, .arr (List.map Vl.Data.c w)), (3, .lit (.int .i64 deep)), (4, .lit (.bool holes)), (5, .ptr 0 0), (13, .arr (List.map Vl.Ty.c v27)), (88, .arr (List.map Vl.Value.c v.kids)), (89, .lit (.int .i64 (v.kids.length : Int))), (90, .lit (.int .i64 (0 : Int)))], [.cells [.lit (.int .i64 (IntKind.i64.wrap (count + 1)))]]⟩ (Gh.to3 (by simp) (by first | simp -dsimp [h1, q2, h3, q4, h5, h7, q8, h11, q12, h19, h25, q26, h29, q30, z31]; done | simp_all)) ?_
          refine (ih_impl_valueScan_l1 v deep v27 (IntKind.i64.wrap (count + 1)) 0 o' ho43) _ rfl _ ?_
          rcases o' with r0 | sx
          ·dsimp only at hF
           cases hF
           intro st h
           simpa using h
          ·dsimp only at hF
           cases hF
           repeat (first | refine chk.ga ?_ | simp -dsimp)
           all_goals (try omega)
       ·have q20 : ¬ (v.n = 0) := auq h19
        rw [if_neg q20] at hF
        cases hF
        repeat (first | refine chk.ga ?_ | simp -dsimp [h1, q2, h3, q4, h5, h7, q8, h11, q12, h19, q20])
        all_goals (try omega)
    ·have q6 : ¬ (holes = true) := auq h5
     rw [if_neg q6] at hF
     repeat (first | refine chk.ga ?_ | simp -dsimp [h1, q2, h3, q4, h5, q6])
     refine abr.split (fun h44 => ?_) (fun h44 => ?_)
     ·have q45 : (t.data = (-1)) := auq h44
      rw [if_pos q45] at hF
      repeat (first | refine chk.ga ?_ | simp -dsimp [h1, q2, h3, q4, h5, q6, h44])
      refine abr.split (fun h46 => ?_) (fun h46 => ?_)
      ·have q47 : (v.ctor = (-1)) := auq h46
       rw [if_pos q47] at hF
       repeat (first | refine chk.ga ?_ | simp -dsimp [h1, q2, h3, q4, h5, q6, h44, h46])
       have hF := ob hF; obtain ⟨v48, e49, hF⟩ := hF
       refine ((C.impl_within B hB1 hB2 v.n (0 : Int) (9 : Int) v48 e49)).goW (by first | simp [h1, q2, h3, q4, h5, q6, h44, h46]; done | simp_all) (by simp) ?_
       repeat (first | refine chk.ga ?_ | simp -dsimp [h1, q2, h3, q4, h5, q6, h44, h46])
       refine abr.split (fun h50 => ?_) (fun h50 => ?_)
       ·have q51 : (v48 = true) := auq h50
        rw [if_pos q51] at hF
        cases hF
        repeat (first | refine chk.ga ?_ | simp -dsimp [h1, q2, h3, q4, h5, q6, h44, h46, h50])
        all_goals (try omega)
       ·have q51 : ¬ (v48 = true) := auq h50
        rw [if_neg q51] at hF
        cases hF
        repeat (first | refine chk.ga ?_ | simp -dsimp [h1, q2, h3, q4, h5, q6, h44, h46, h50, q51])
        all_goals (try omega)
      ·have q47 : ¬ (v.ctor = (-1)) := auq h46
       rw [if_neg q47] at hF
       cases hF
       repeat (first | refine chk.ga ?_ | simp -dsimp [h1, q2, h3, q4, h5, q6, h44, h46, q47])
       all_goals (try omega)
     ·have q45 : ¬ (t.data = (-1)) := auq h44
      rw [if_neg q45] at hF
      repeat (first | refine chk.ga ?_ | simp -dsimp [h1, q2, h3, q4, h5, q6, h44, q45])
      refine ADraw.simple follows (by kernel_rfl) (by kernel_rfl) ?_
      repeat (first | refine chk.ga ?_ | simp -dsimp [h1, q2, h3, q4, h5, q6, h44, q45])
      refine abr.split (fun h52 => ?_) (fun h52 => ?_)
      ·have q53 : (v.n = 0) := auq h52
       rw [if_pos q53] at hF
       repeat (first | refine chk.ga ?_ | simp -dsimp [h1, q2, h3, q4, h5, q6, h44, q45, h52])
       have hF := ob hF; obtain ⟨v54, e55, hF⟩ := hF
       refine ((C.impl_ctorsOf B hB1 hB2 w t v54 e55)).pgoW (by first | simp [h1, q2, h3, q4, h5, q6, h44, q45, h52]; done | simp_all) (by simp) ?_
       repeat (first | refine chk.ga ?_ | simp -dsimp [h1, q2, h3, q4, h5, q6, h44, q45, h52])
       have hF := ob hF; obtain ⟨v56, e57, hF⟩ := hF
       refine ((C.slices_Contains_int B hB1 hB2 v54 v.ctor v56 e57)).pgoW (by first | simp [h1, q2, h3, q4, h5, q6, h44, q45, h52]; done | simp_all) (by simp) ?_
       repeat (first | refine chk.ga ?_ | simp -dsimp [h1, q2, h3, q4, h5, q6, h44, q45, h52])
       refine abr.split (fun h58 => ?_) (fun h58 => ?_)
       ·have q59 : ¬ (v56 = true) := auq h58
        rw [if_neg q59] at hF
        cases hF
        repeat (first | refine chk.ga ?_ | simp -dsimp [h1, q2, h3, q4, h5, q6, h44, q45, h52, h58, q59])
        all_goals (try omega)
       ·have q59 : (v56 = true) := auq h58
        rw [if_pos q59] at hF
        repeat (first | refine chk.ga ?_ | simp -dsimp [h1, q2, h3, q4, h5, q6, h44, q45, h52, h58, q59])
        have hF := ob hF; obtain ⟨v60, e61, hF⟩ := hF
        refine ((C.impl_argTypes B hB1 hB2 w t v.ctor v60 e61)).goW (by first | simp [h1, q2, h3, q4, h5, q6, h44, q45, h52, h58, q59]; done | simp_all) (by simp) ?_
        repeat (first | refine chk.ga ?_ | simp -dsimp [h1, q2, h3, q4, h5, q6, h44, q45, h52, h58, q59])
        refine abr.split (fun h62 => ?_) (fun h62 => ?_)
        ·have q63 : ¬ (v60.length = v.kids.length) := auq h62
         have z64 : ¬ ((v60.length : Int) = (v.kids.length : Int)) := auz
         rw [if_neg q63] at hF
         cases hF
         repeat (first | refine chk.ga ?_ | simp -dsimp [h1, q2, h3, q4, h5, q6, h44, q45, h52, h58, q59, h62, q63, z64])
         all_goals (try omega)
        ·have q63 : (v60.length = v.kids.length) := auq h62
         have z64 : ((v60.length : Int) = (v.kids.length : Int)) := auz
         rw [if_pos q63] at hF
         repeat (first | refine chk.ga ?_ | simp -dsimp [h1, q2, h3, q4, h5, q6, h44, q45, h52, h58, q59, h62, q63, z64])
         have hF := ob hF; obtain ⟨o'80, ho79, hF⟩ := hF
         refine ALoop.goU ⟨[(0, .arr (List.map Vl.Data.c w)), (3, .lit (.int .i64 deep)), (4, .lit (.bool holes)), (5, .ptr 0 0), (13, .arr (List.map Vl.Ty.c v60)), (88, .arr (List.map Vl.Value.c v.kids)), (89, .lit (.int .i64 (v.kids.length : Int))), (90, .lit (.int .i64 (0 : Int)))], [.cells [.lit (.int .i64 (IntKind.i64.wrap (count + 1)))]]⟩ (Gh.to3 (by simp) (by first | simp -dsimp [h1, q2, h3, q4, h5, q6, h44, q45, h52, h58, q59, h62, q63, z64]; done | simp_all)) ?_
         refine (ih_impl_valueScan_l2 v deep v60 (IntKind.i64.wrap (count + 1)) 0 o'80 ho79) _ rfl _ ?_
         rcases o'80 with r082 | sx81
         ·dsimp only at hF
          cases hF
          intro st h
          simpa using h
         ·dsimp only at hF
          cases hF
          repeat (first | refine chk.ga ?_ | simp -dsimp)
          all_goals (try omega)
      ·have q53 : ¬ (v.n = 0) := auq h52
       rw [if_neg q53] at hF
       cases hF
       repeat (first | refine chk.ga ?_ | simp -dsimp [h1, q2, h3, q4, h5, q6, h44, q45, h52, q53])
       all_goals (try omega)
  ·have q2 : (60 < IntKind.i64.wrap (count + 1)) := auq h1
   rw [if_pos q2] at hF
   cases hF
   repeat (first | refine chk.ga ?_ | simp -dsimp [h1, q2])
   all_goals (try omega)
 ·intro _f_impl_valueScan _f_impl_valueScan_l2 ih_impl_valueScan ih_impl_valueScan_l2 v deep v60 z65 i66 o hF
  intro c hc Q hq
  obtain rfl : c = _ := navEq hc rfl
  refine ALoopU.know fun hk hs => ?_
  have b0 := hk 0
  simp -dsimp at b0
  have b13 := hk 13
  simp -dsimp at b13
  have b88 := hk 88
  simp -dsimp at b88
  clear hk hs
  refine ALoopU.enter ?_
  repeat (first | refine chk.ga ?_ | simp -dsimp)
  refine abr.split (fun h67 => ?_) (fun h67 => ?_)
  ·have q68 : (i66 < v.kids.length) := auq h67
   have z69 : ((i66 : Int) < (v.kids.length : Int)) := auz
   rw [if_pos q68] at hF
   have hF := ob hF; obtain ⟨x70, e71, hF⟩ := hF
   have le71 := lt_of_get e71
   repeat (first | refine chk.ga ?_ | simp -dsimp [h67, z69, ↓e71])
   refine ADraw.eff [31] [(0, 0), (0, 0), (0, 0), (0, 0), (0, 0), (0, 0), (0, 0), (0, 0), (0, 0), (0, 0), (0, 1), (1, 1)] [1, 1, 1, 1, 1, 1, 1, 1, 1, 1, 1, 1] follows (by kernel_rfl) (by kernel_rfl) (by kernel_rfl) ?_
   have hF := ob hF; obtain ⟨x72, e73, hF⟩ := hF
   have le73 := lt_of_get e73
   repeat (first | refine chk.ga ?_ | simp -dsimp [h67, z69, ↓e71, ↓e73])
   have hF := ob hF; obtain ⟨v74, e75, hF⟩ := hF
   refine ((ih_impl_valueScan x72 x70 (IntKind.i64.wrap (deep + 1)) z65 v74 e75)).ego 0 rfl (by first | simp [h67, z69, ↓e71, ↓e73]; done | simp_all) (by simp) (by first | simp [h67, z69, ↓e71, ↓e73]; done | simp_all) ?_
   repeat (first | refine chk.ga ?_ | simp -dsimp [h67, z69, ↓e71, ↓e73])
   refine abr.split (fun h76 => ?_) (fun h76 => ?_)
   ·have q77 : ¬ (v74.1 = true) := auq h76
    rw [if_neg q77] at hF
    cases hF
    repeat (first | refine chk.ga ?_ | simp -dsimp [h67, z69, ↓e71, ↓e73, h76, q77])
    refine Leave.go _ (Gh.refl _) (hq _ ?_)
    repeat (first | refine chk.ga ?_ | simp -dsimp [h67, z69, ↓e71, ↓e73, h76, q77])
   ·have q77 : (v74.1 = true) := auq h76
    rw [if_pos q77] at hF
    have w78 : IntKind.i64.wrap ((i66 : Int) + 1) = (i66 : Int) + 1 := wrap_in (by omega) (by omega)
    repeat (first | refine chk.ga ?_ | simp -dsimp [h67, z69, ↓e71, ↓e73, h76, q77, w78])
    refine Again.go ⟨[(0, .arr (List.map Vl.Data.c w)), (3, .lit (.int .i64 deep)), (4, .lit (.bool holes)), (5, .ptr 0 0), (13, .arr (List.map Vl.Ty.c v60)), (88, .arr (List.map Vl.Value.c v.kids)), (89, .lit (.int .i64 (v.kids.length : Int))), (90, .lit (.int .i64 ((i66 + 1) : Int)))], [.cells [.lit (.int .i64 v74.2)]]⟩ (Gh.to3 (by simp) (by first | simp -dsimp [h67, z69, ↓e71, ↓e73, h76, q77, w78]; done | simp_all)) ?_
    exact (ih_impl_valueScan_l2 v deep v60 v74.2 (i66 + 1) o hF) _ rfl _ hq
  ·have q68 : ¬ (i66 < v.kids.length) := auq h67
   have z69 : ¬ ((i66 : Int) < (v.kids.length : Int)) := auz
   rw [if_neg q68] at hF
   cases hF
   repeat (first | refine chk.ga ?_ | simp -dsimp [h67, q68, z69])
   refine Leave.go ⟨[], [.cells [.lit (.int .i64 z65)]]⟩ (Gh.to3 (by simp) (by first | simp -dsimp [h67, q68, z69]; done | simp_all)) ?_
   exact hq
 ·intro _f_impl_valueScan _f_impl_valueScan_l1 ih_impl_valueScan ih_impl_valueScan_l1 v deep v27 z i o hF
  intro c hc Q hq
  obtain rfl : c = _ := navEq hc rfl
  refine ALoopU.know fun hk hs => ?_
  have b0 := hk 0
  simp -dsimp at b0
  have b13 := hk 13
  simp -dsimp at b13
  have b88 := hk 88
  simp -dsimp at b88
  clear hk hs
  refine ALoopU.enter ?_
  repeat (first | refine chk.ga ?_ | simp -dsimp)
  refine abr.split (fun h32 => ?_) (fun h32 => ?_)
  ·have q33 : (i < v.kids.length) := auq h32
   have z34 : ((i : Int) < (v.kids.length : Int)) := auz
   rw [if_pos q33] at hF
   have hF := ob hF; obtain ⟨x, e35, hF⟩ := hF
   have le35 := lt_of_get e35
   repeat (first | refine chk.ga ?_ | simp -dsimp [h32, z34, ↓e35])
   refine ADraw.eff [31] [(0, 0), (0, 0), (0, 0), (0, 0), (0, 0), (0, 0), (0, 0), (0, 0), (0, 0), (0, 0), (0, 1), (1, 1)] [1, 1, 1, 1, 1, 1, 1, 1, 1, 1, 1, 1] follows (by kernel_rfl) (by kernel_rfl) (by kernel_rfl) ?_
   have hF := ob hF; obtain ⟨x36, e37, hF⟩ := hF
   have le37 := lt_of_get e37
   repeat (first | refine chk.ga ?_ | simp -dsimp [h32, z34, ↓e35, ↓e37])
   have hF := ob hF; obtain ⟨v38, e39, hF⟩ := hF
   refine ((ih_impl_valueScan x36 x (IntKind.i64.wrap (deep + 1)) z v38 e39)).ego 0 rfl (by first | simp [h32, z34, ↓e35, ↓e37]; done | simp_all) (by simp) (by first | simp [h32, z34, ↓e35, ↓e37]; done | simp_all) ?_
   repeat (first | refine chk.ga ?_ | simp -dsimp [h32, z34, ↓e35, ↓e37])
   refine abr.split (fun h40 => ?_) (fun h40 => ?_)
   ·have q41 : ¬ (v38.1 = true) := auq h40
    rw [if_neg q41] at hF
    cases hF
    repeat (first | refine chk.ga ?_ | simp -dsimp [h32, z34, ↓e35, ↓e37, h40, q41])
    refine Leave.go _ (Gh.refl _) (hq _ ?_)
    repeat (first | refine chk.ga ?_ | simp -dsimp [h32, z34, ↓e35, ↓e37, h40, q41])
   ·have q41 : (v38.1 = true) := auq h40
    rw [if_pos q41] at hF
    have w42 : IntKind.i64.wrap ((i : Int) + 1) = (i : Int) + 1 := wrap_in (by omega) (by omega)
    repeat (first | refine chk.ga ?_ | simp -dsimp [h32, z34, ↓e35, ↓e37, h40, q41, w42])
    refine Again.go ⟨[(0, .arr (List.map Vl.Data.c w)), (3, .lit (.int .i64 deep)), (4, .lit (.bool holes)), (5, .ptr 0 0), (13, .arr (List.map Vl.Ty.c v27)), (88, .arr (List.map Vl.Value.c v.kids)), (89, .lit (.int .i64 (v.kids.length : Int))), (90, .lit (.int .i64 ((i + 1) : Int)))], [.cells [.lit (.int .i64 v38.2)]]⟩ (Gh.to3 (by simp) (by first | simp -dsimp [h32, z34, ↓e35, ↓e37, h40, q41, w42]; done | simp_all)) ?_
    exact (ih_impl_valueScan_l1 v deep v27 v38.2 (i + 1) o hF) _ rfl _ hq
  ·have q33 : ¬ (i < v.kids.length) := auq h32
   have z34 : ¬ ((i : Int) < (v.kids.length : Int)) := auz
   rw [if_neg q33] at hF
   cases hF
   repeat (first | refine chk.ga ?_ | simp -dsimp [h32, q33, z34])
   refine Leave.go ⟨[], [.cells [.lit (.int .i64 z)]]⟩ (Gh.to3 (by simp) (by first | simp -dsimp [h32, q33, z34]; done | simp_all)) ?_
   exact hq

theorem C.impl_valueScan (B : Nat) (hB1 : 67108864 ≤ B) (hB2 : B ≤ 9223372036854775807) (w : List Vl.Data) (t : Vl.Ty) (v : Vl.Value) (deep : Int) (holes : Bool) (count : Int) (r : Bool × Int) (hF : F.impl_valueScan w t v deep holes count = some r) : MutCall Try.prog B 31 [.lit (.int .i64 count)] [.arr (List.map Vl.Data.c w), .agg [.lit (.int .i64 t.data), .lit (.int .i64 t.index)], .agg [.lit (.int .i64 v.ctor), .lit (.int .i64 v.n), .arr (List.map Vl.Value.c v.kids)], .lit (.int .i64 deep), .lit (.bool holes), .ptr 0 0] (.lit (.bool r.1)) [.lit (.int .i64 r.2)] :=
 (CC.impl_valueScan B hB1 hB2 w holes).1 t v deep count r hF

theorem C.impl_valueScan_l2 (B : Nat) (hB1 : 67108864 ≤ B) (hB2 : B ≤ 9223372036854775807) (w : List Vl.Data) (v : Vl.Value) (deep : Int) (holes : Bool) (v60 : List Vl.Ty) (z65 : Int) (i66 : Nat) (o : Lo (Bool × Int) Int) (hF : F.impl_valueScan_l2 w v deep holes v60 z65 i66 = some o) : ∀ (c : Code), navO [1, 1, 1, 1, 1, 1, 0, 1, 0, 0] (bodyOf Try.f31) = some c → ∀ (Q : Exit → ASt → Prop), o.post (fun r => ∀ st, Post Try.prog Try.f31 (fun r' σ' => r'.le (.lit (.bool r.1)) ∧ mcell σ' [.lit (.int .i64 r.2)]) .ret st → Q .ret st) (fun s => Q (.exit 1) ⟨[], [.cells [.lit (.int .i64 s)]]⟩) → ALoopU Try.prog B 1 108 (hold c .mk) ⟨[(0, .arr (List.map Vl.Data.c w)), (3, .lit (.int .i64 deep)), (4, .lit (.bool holes)), (5, .ptr 0 0), (13, .arr (List.map Vl.Ty.c v60)), (88, .arr (List.map Vl.Value.c v.kids)), (89, .lit (.int .i64 (v.kids.length : Int))), (90, .lit (.int .i64 (i66 : Int)))], [.cells [.lit (.int .i64 z65)]]⟩ (hold Q .mk) :=
 (CC.impl_valueScan B hB1 hB2 w holes).2.1 v deep v60 z65 i66 o hF

theorem C.impl_valueScan_l1 (B : Nat) (hB1 : 67108864 ≤ B) (hB2 : B ≤ 9223372036854775807) (w : List Vl.Data) (v : Vl.Value) (deep : Int) (holes : Bool) (v27 : List Vl.Ty) (z : Int) (i : Nat) (o : Lo (Bool × Int) Int) (hF : F.impl_valueScan_l1 w v deep holes v27 z i = some o) : ∀ (c : Code), navO [1, 1, 1, 1, 1, 1, 0, 1, 0, 0] (bodyOf Try.f31) = some c → ∀ (Q : Exit → ASt → Prop), o.post (fun r => ∀ st, Post Try.prog Try.f31 (fun r' σ' => r'.le (.lit (.bool r.1)) ∧ mcell σ' [.lit (.int .i64 r.2)]) .ret st → Q .ret st) (fun s => Q (.exit 1) ⟨[], [.cells [.lit (.int .i64 s)]]⟩) → ALoopU Try.prog B 1 108 (hold c .mk) ⟨[(0, .arr (List.map Vl.Data.c w)), (3, .lit (.int .i64 deep)), (4, .lit (.bool holes)), (5, .ptr 0 0), (13, .arr (List.map Vl.Ty.c v27)), (88, .arr (List.map Vl.Value.c v.kids)), (89, .lit (.int .i64 (v.kids.length : Int))), (90, .lit (.int .i64 (i : Int)))], [.cells [.lit (.int .i64 z)]]⟩ (hold Q .mk) :=
 (CC.impl_valueScan B hB1 hB2 w holes).2.2 v deep v27 z i o hF

set_option maxRecDepth 100000 in
set_option maxHeartbeats 4000000 in
theorem C.impl_PartialValid (B : Nat) (hB1 : 67108864 ≤ B) (hB2 : B ≤ 9223372036854775807) (w : List Vl.Data) (t : Vl.Ty) (v : Vl.Value) (r : Bool) (hF : F.impl_PartialValid w t v = some r) : PureCall Try.prog B 12 [.arr (List.map Vl.Data.c w), .agg [.lit (.int .i64 t.data), .lit (.int .i64 t.index)], .agg [.lit (.int .i64 v.ctor), .lit (.int .i64 v.n), .arr (List.map Vl.Value.c v.kids)]] (.lit (.bool r)) := by
 unfold F.impl_PartialValid at hF
 refine PureCall.enterLe Try.func12 (by kernel_rfl) rfl Try.ntmps12 (by simp) (by simp) ?_
 repeat (first | refine chk.ga ?_ | simp -dsimp)
 have hF := ob hF; obtain ⟨v1, e2, hF⟩ := hF
 refine ((C.impl_TypeValid B hB1 hB2 w t v1 e2)).goW (by simp) (by simp) ?_
 repeat (first | refine chk.ga ?_ | simp -dsimp)
 refine abr.split (fun h3 => ?_) (fun h3 => ?_)
 ·have q4 : (v1 = true) := auq h3
  rw [if_pos q4] at hF
  repeat (first | refine chk.ga ?_ | simp -dsimp [h3])
  have hF := ob hF; obtain ⟨v5, e6, hF⟩ := hF
  refine ((C.impl_valueScan B hB1 hB2 w t v (1 : Int) true (0 : Int) v5 e6)).go 2 rfl (by first | simp [h3]; done | simp_all) (by simp) (by first | simp [h3]; done | simp_all) ?_
  cases hF
  repeat (first | refine chk.ga ?_ | simp -dsimp [h3])
  all_goals (try omega)
 ·have q4 : ¬ (v1 = true) := auq h3
  rw [if_neg q4] at hF
  cases hF
  repeat (first | refine chk.ga ?_ | simp -dsimp [h3, q4])
  all_goals (try omega)

set_option maxRecDepth 100000 in
set_option maxHeartbeats 4000000 in
theorem CC.slices_Equal_int_l1 (B : Nat) (hB1 : 67108864 ≤ B) (hB2 : B ≤ 9223372036854775807) (s1 : List Int) (s2 : List Int) : (∀ (i : Nat) (o : Lo Bool Unit), F.slices_Equal_int_l1 s1 s2 i = some o → ∀ (c : Code), navO [1, 1, 0, 1, 0, 0] (bodyOf Try.f97) = some c → ∀ (Q : Exit → ASt → Prop), o.post (fun r => ∀ st, Post Try.prog Try.f97 (fun r' _ => r'.le (.lit (.bool r))) .ret st → Q .ret st) (fun s => Q (.exit 0) ⟨[], []⟩) → ALoopU Try.prog B 0 26 (hold c .mk) ⟨[(0, .arr (List.map cI s1)), (1, .arr (List.map cI s2)), (12, .lit (.int .i64 (s1.length : Int))), (13, .lit (.int .i64 (i : Int)))], []⟩ (hold Q .mk)) := by
 refine F.slices_Equal_int_l1.partial_correctness s1 s2
  (fun i o => ∀ (c : Code), navO [1, 1, 0, 1, 0, 0] (bodyOf Try.f97) = some c → ∀ (Q : Exit → ASt → Prop), o.post (fun r => ∀ st, Post Try.prog Try.f97 (fun r' _ => r'.le (.lit (.bool r))) .ret st → Q .ret st) (fun s => Q (.exit 0) ⟨[], []⟩) → ALoopU Try.prog B 0 26 (hold c .mk) ⟨[(0, .arr (List.map cI s1)), (1, .arr (List.map cI s2)), (12, .lit (.int .i64 (s1.length : Int))), (13, .lit (.int .i64 (i : Int)))], []⟩ (hold Q .mk))
  ?_
 ·intro _f_slices_Equal_int_l1 ih_slices_Equal_int_l1 i o hF
  intro c hc Q hq
  obtain rfl : c = _ := navEq hc rfl
  refine ALoopU.know fun hk hs => ?_
  have b0 := hk 0
  simp -dsimp at b0
  have b1 := hk 1
  simp -dsimp at b1
  clear hk hs
  refine ALoopU.enter ?_
  repeat (first | refine chk.ga ?_ | simp -dsimp)
  refine abr.split (fun h4 => ?_) (fun h4 => ?_)
  ·have q5 : (i < s1.length) := auq h4
   have z6 : ((i : Int) < (s1.length : Int)) := auz
   rw [if_pos q5] at hF
   repeat (first | refine chk.ga ?_ | simp -dsimp [h4, z6])
   refine ADraw.simple follows (by kernel_rfl) (by kernel_rfl) ?_
   have hF := ob hF; obtain ⟨x, e7, hF⟩ := hF
   have le7 := lt_of_get e7
   have hF := ob hF; obtain ⟨x8, e9, hF⟩ := hF
   have le9 := lt_of_get e9
   repeat (first | refine chk.ga ?_ | simp -dsimp [h4, z6, ↓e7, ↓e9])
   refine abr.split (fun h10 => ?_) (fun h10 => ?_)
   ·have q11 : ¬ (x = x8) := auq h10
    rw [if_neg q11] at hF
    cases hF
    repeat (first | refine chk.ga ?_ | simp -dsimp [h4, z6, ↓e7, ↓e9, h10, q11])
    refine Leave.go _ (Gh.refl _) (hq _ ?_)
    repeat (first | refine chk.ga ?_ | simp -dsimp [h4, z6, ↓e7, ↓e9, h10, q11])
   ·have q11 : (x = x8) := auq h10
    rw [if_pos q11] at hF
    have w12 : IntKind.i64.wrap ((i : Int) + 1) = (i : Int) + 1 := wrap_in (by omega) (by omega)
    repeat (first | refine chk.ga ?_ | simp -dsimp [h4, z6, ↓e7, ↓e9, h10, q11, w12])
    refine Again.go ⟨[(0, .arr (List.map cI s1)), (1, .arr (List.map cI s2)), (12, .lit (.int .i64 (s1.length : Int))), (13, .lit (.int .i64 ((i + 1) : Int)))], []⟩ (Gh.to3 (by simp) (by first | simp -dsimp [h4, z6, ↓e7, ↓e9, h10, q11, w12]; done | simp_all)) ?_
    exact (ih_slices_Equal_int_l1 (i + 1) o hF) _ rfl _ hq
  ·have q5 : ¬ (i < s1.length) := auq h4
   have z6 : ¬ ((i : Int) < (s1.length : Int)) := auz
   rw [if_neg q5] at hF
   cases hF
   repeat (first | refine chk.ga ?_ | simp -dsimp [h4, q5, z6])
   refine Leave.go ⟨[], []⟩ (Gh.to3 (by simp) (by first | simp -dsimp [h4, q5, z6]; done | simp_all)) ?_
   exact hq

theorem C.slices_Equal_int_l1 (B : Nat) (hB1 : 67108864 ≤ B) (hB2 : B ≤ 9223372036854775807) (s1 : List Int) (s2 : List Int) (i : Nat) (o : Lo Bool Unit) (hF : F.slices_Equal_int_l1 s1 s2 i = some o) : ∀ (c : Code), navO [1, 1, 0, 1, 0, 0] (bodyOf Try.f97) = some c → ∀ (Q : Exit → ASt → Prop), o.post (fun r => ∀ st, Post Try.prog Try.f97 (fun r' _ => r'.le (.lit (.bool r))) .ret st → Q .ret st) (fun s => Q (.exit 0) ⟨[], []⟩) → ALoopU Try.prog B 0 26 (hold c .mk) ⟨[(0, .arr (List.map cI s1)), (1, .arr (List.map cI s2)), (12, .lit (.int .i64 (s1.length : Int))), (13, .lit (.int .i64 (i : Int)))], []⟩ (hold Q .mk) :=
 (CC.slices_Equal_int_l1 B hB1 hB2 s1 s2) i o hF

set_option maxRecDepth 100000 in
set_option maxHeartbeats 4000000 in
theorem C.slices_Equal_int (B : Nat) (hB1 : 67108864 ≤ B) (hB2 : B ≤ 9223372036854775807) (s1 : List Int) (s2 : List Int) (r : Bool) (hF : F.slices_Equal_int s1 s2 = some r) : PureCall Try.prog B 97 [.arr (List.map cI s1), .arr (List.map cI s2)] (.lit (.bool r)) := by
 unfold F.slices_Equal_int at hF
 refine PureCall.enterLe Try.func97 (by kernel_rfl) rfl Try.ntmps97 (by simp) (by simp) ?_
 repeat (first | refine chk.ga ?_ | simp -dsimp)
 refine abr.split (fun h1 => ?_) (fun h1 => ?_)
 ·have q2 : ¬ (s1.length = s2.length) := auq h1
  have z3 : ¬ ((s1.length : Int) = (s2.length : Int)) := auz
  rw [if_neg q2] at hF
  cases hF
  repeat (first | refine chk.ga ?_ | simp -dsimp [h1, q2, z3])
  all_goals (try omega)
 ·have q2 : (s1.length = s2.length) := auq h1
  have z3 : ((s1.length : Int) = (s2.length : Int)) := auz
  rw [if_pos q2] at hF
  repeat (first | refine chk.ga ?_ | simp -dsimp [h1, q2, z3])
  have hF := ob hF; obtain ⟨o', ho13, hF⟩ := hF
  refine ALoop.goU ⟨[(0, .arr (List.map cI s1)), (1, .arr (List.map cI s2)), (12, .lit (.int .i64 (s1.length : Int))), (13, .lit (.int .i64 (0 : Int)))], []⟩ (Gh.to3 (by simp) (by first | simp -dsimp [h1, q2, z3]; done | simp_all)) ?_
  refine (C.slices_Equal_int_l1 B hB1 hB2 s1 s2 0 o' ho13) _ rfl _ ?_
  rcases o' with r0 | sx
  ·dsimp only at hF
   cases hF
   intro st h
   simpa using h
  ·dsimp only at hF
   cases hF
   repeat (first | refine chk.ga ?_ | simp -dsimp)
   all_goals (try omega)

set_option maxRecDepth 100000 in
set_option maxHeartbeats 4000000 in
theorem C.impl_hasPath_1 (B : Nat) (hB1 : 67108864 ≤ B) (hB2 : B ≤ 9223372036854775807) (p : List Int) (a1 : List Int) (r : Bool) (hF : F.impl_hasPath_1 p a1 = some r) : PureCall Try.prog B 96 [.arr (List.map cI p), .rptr [.arr (List.map cI a1)] 0] (.lit (.bool r)) := by
 unfold F.impl_hasPath_1 at hF
 refine PureCall.enterLe Try.func96 (by kernel_rfl) rfl Try.ntmps96 (by simp) (by simp) ?_
 repeat (first | refine chk.ga ?_ | simp -dsimp)
 have hF := ob hF; obtain ⟨v, e1, hF⟩ := hF
 refine ((C.slices_Equal_int B hB1 hB2 p a1 v e1)).goW (by simp) (by simp) ?_
 cases hF
 repeat (first | refine chk.ga ?_ | simp -dsimp)
 all_goals (try omega)

set_option maxRecDepth 100000 in
set_option maxHeartbeats 4000000 in
theorem CC.slices_IndexFunc__int__impl_hasPath_1_l1 (B : Nat) (hB1 : 67108864 ≤ B) (hB2 : B ≤ 9223372036854775807) (s : List (List Int)) (k0 : List Int) : (∀ (i : Nat) (o : Lo Int Unit), F.slices_IndexFunc__int__impl_hasPath_1_l1 s k0 i = some o → ∀ (c : Code), navO [1, 0, 1, 0, 0] (bodyOf Try.f114) = some c → ∀ (Q : Exit → ASt → Prop), o.post (fun r => ∀ st, Post Try.prog Try.f114 (fun r' _ => r'.le (.lit (.int .i64 r))) .ret st → Q .ret st) (fun s => Q (.exit 0) ⟨[], []⟩) → ALoopU Try.prog B 0 19 (hold c .mk) ⟨[(0, .arr (List.map (cL cI) s)), (1, .fn (.func 96) [] [.rptr [.arr (List.map cI k0)] 0]), (7, .lit (.int .i64 (s.length : Int))), (8, .lit (.int .i64 (i : Int)))], []⟩ (hold Q .mk)) := by
 refine F.slices_IndexFunc__int__impl_hasPath_1_l1.partial_correctness s k0
  (fun i o => ∀ (c : Code), navO [1, 0, 1, 0, 0] (bodyOf Try.f114) = some c → ∀ (Q : Exit → ASt → Prop), o.post (fun r => ∀ st, Post Try.prog Try.f114 (fun r' _ => r'.le (.lit (.int .i64 r))) .ret st → Q .ret st) (fun s => Q (.exit 0) ⟨[], []⟩) → ALoopU Try.prog B 0 19 (hold c .mk) ⟨[(0, .arr (List.map (cL cI) s)), (1, .fn (.func 96) [] [.rptr [.arr (List.map cI k0)] 0]), (7, .lit (.int .i64 (s.length : Int))), (8, .lit (.int .i64 (i : Int)))], []⟩ (hold Q .mk))
  ?_
 ·intro _f_slices_IndexFunc__int__impl_hasPath_1_l1 ih_slices_IndexFunc__int__impl_hasPath_1_l1 i o hF
  intro c hc Q hq
  obtain rfl : c = _ := navEq hc rfl
  refine ALoopU.know fun hk hs => ?_
  have b0 := hk 0
  simp -dsimp at b0
  clear hk hs
  refine ALoopU.enter ?_
  repeat (first | refine chk.ga ?_ | simp -dsimp)
  refine abr.split (fun h1 => ?_) (fun h1 => ?_)
  ·have q2 : (i < s.length) := auq h1
   have z3 : ((i : Int) < (s.length : Int)) := auz
   rw [if_pos q2] at hF
   have hF := ob hF; obtain ⟨x, e4, hF⟩ := hF
   have le4 := lt_of_get e4
   repeat (first | refine chk.ga ?_ | simp -dsimp [h1, z3, ↓e4])
   have hF := ob hF; obtain ⟨v, e5, hF⟩ := hF
   refine ((C.impl_hasPath_1 B hB1 hB2 x k0 v e5)).goW (by first | simp [h1, z3, ↓e4]; done | simp_all) (by simp) ?_
   repeat (first | refine chk.ga ?_ | simp -dsimp [h1, z3, ↓e4])
   refine abr.split (fun h6 => ?_) (fun h6 => ?_)
   ·have q7 : (v = true) := auq h6
    rw [if_pos q7] at hF
    cases hF
    repeat (first | refine chk.ga ?_ | simp -dsimp [h1, z3, ↓e4, h6])
    refine Leave.go _ (Gh.refl _) (hq _ ?_)
    repeat (first | refine chk.ga ?_ | simp -dsimp [h1, z3, ↓e4, h6])
   ·have q7 : ¬ (v = true) := auq h6
    rw [if_neg q7] at hF
    have w8 : IntKind.i64.wrap ((i : Int) + 1) = (i : Int) + 1 := wrap_in (by omega) (by omega)
    repeat (first | refine chk.ga ?_ | simp -dsimp [h1, z3, ↓e4, h6, q7, w8])
    refine Again.go ⟨[(0, .arr (List.map (cL cI) s)), (1, .fn (.func 96) [] [.rptr [.arr (List.map cI k0)] 0]), (7, .lit (.int .i64 (s.length : Int))), (8, .lit (.int .i64 ((i + 1) : Int)))], []⟩ (Gh.to3 (by simp) (by first | simp -dsimp [h1, z3, ↓e4, h6, q7, w8]; done | simp_all)) ?_
    exact (ih_slices_IndexFunc__int__impl_hasPath_1_l1 (i + 1) o hF) _ rfl _ hq
  ·have q2 : ¬ (i < s.length) := auq h1
   have z3 : ¬ ((i : Int) < (s.length : Int)) := auz
   rw [if_neg q2] at hF
   cases hF
   repeat (first | refine chk.ga ?_ | simp -dsimp [h1, q2, z3])
   refine Leave.go ⟨[], []⟩ (Gh.to3 (by simp) (by first | simp -dsimp [h1, q2, z3]; done | simp_all)) ?_
   exact hq

theorem C.slices_IndexFunc__int__impl_hasPath_1_l1 (B : Nat) (hB1 : 67108864 ≤ B) (hB2 : B ≤ 9223372036854775807) (s : List (List Int)) (k0 : List Int) (i : Nat) (o : Lo Int Unit) (hF : F.slices_IndexFunc__int__impl_hasPath_1_l1 s k0 i = some o) : ∀ (c : Code), navO [1, 0, 1, 0, 0] (bodyOf Try.f114) = some c → ∀ (Q : Exit → ASt → Prop), o.post (fun r => ∀ st, Post Try.prog Try.f114 (fun r' _ => r'.le (.lit (.int .i64 r))) .ret st → Q .ret st) (fun s => Q (.exit 0) ⟨[], []⟩) → ALoopU Try.prog B 0 19 (hold c .mk) ⟨[(0, .arr (List.map (cL cI) s)), (1, .fn (.func 96) [] [.rptr [.arr (List.map cI k0)] 0]), (7, .lit (.int .i64 (s.length : Int))), (8, .lit (.int .i64 (i : Int)))], []⟩ (hold Q .mk) :=
 (CC.slices_IndexFunc__int__impl_hasPath_1_l1 B hB1 hB2 s k0) i o hF

set_option maxRecDepth 100000 in
set_option maxHeartbeats 4000000 in
theorem C.slices_IndexFunc__int__impl_hasPath_1 (B : Nat) (hB1 : 67108864 ≤ B) (hB2 : B ≤ 9223372036854775807) (s : List (List Int)) (k0 : List Int) (r : Int) (hF : F.slices_IndexFunc__int__impl_hasPath_1 s k0 = some r) : PureCall Try.prog B 114 [.arr (List.map (cL cI) s), .fn (.func 96) [] [.rptr [.arr (List.map cI k0)] 0]] (.lit (.int .i64 r)) := by
 unfold F.slices_IndexFunc__int__impl_hasPath_1 at hF
 refine PureCall.enterLe Try.func114 (by kernel_rfl) rfl Try.ntmps114 (by simp) (by simp) ?_
 repeat (first | refine chk.ga ?_ | simp -dsimp)
 have hF := ob hF; obtain ⟨o', ho9, hF⟩ := hF
 refine ALoop.goU ⟨[(0, .arr (List.map (cL cI) s)), (1, .fn (.func 96) [] [.rptr [.arr (List.map cI k0)] 0]), (7, .lit (.int .i64 (s.length : Int))), (8, .lit (.int .i64 (0 : Int)))], []⟩ (Gh.to3 (by simp) (by simp -dsimp)) ?_
 refine (C.slices_IndexFunc__int__impl_hasPath_1_l1 B hB1 hB2 s k0 0 o' ho9) _ rfl _ ?_
 rcases o' with r0 | sx
 ·dsimp only at hF
  cases hF
  intro st h
  simpa using h
 ·dsimp only at hF
  cases hF
  repeat (first | refine chk.ga ?_ | simp -dsimp)
  all_goals (try omega)

set_option maxRecDepth 100000 in
set_option maxHeartbeats 4000000 in
theorem C.slices_ContainsFunc__int__impl_hasPath_1 (B : Nat) (hB1 : 67108864 ≤ B) (hB2 : B ≤ 9223372036854775807) (s : List (List Int)) (k0 : List Int) (r : Bool) (hF : F.slices_ContainsFunc__int__impl_hasPath_1 s k0 = some r) : PureCall Try.prog B 95 [.arr (List.map (cL cI) s), .fn (.func 96) [] [.rptr [.arr (List.map cI k0)] 0]] (.lit (.bool r)) := by
 unfold F.slices_ContainsFunc__int__impl_hasPath_1 at hF
 refine PureCall.enterLe Try.func95 (by kernel_rfl) rfl Try.ntmps95 (by simp) (by simp) ?_
 repeat (first | refine chk.ga ?_ | simp -dsimp)
 have hF := ob hF; obtain ⟨v, e1, hF⟩ := hF
 refine ((C.slices_IndexFunc__int__impl_hasPath_1 B hB1 hB2 s k0 v e1)).goW (by simp) (by simp) ?_
 cases hF
 repeat (first | refine chk.ga ?_ | simp -dsimp)
 all_goals (try omega)

set_option maxRecDepth 100000 in
set_option maxHeartbeats 4000000 in
theorem C.impl_hasPath (B : Nat) (hB1 : 67108864 ≤ B) (hB2 : B ≤ 9223372036854775807) (list : List (List Int)) (path : List Int) (r : Bool) (hF : F.impl_hasPath list path = some r) : PureCall Try.prog B 65 [.arr (List.map (cL cI) list), .arr (List.map cI path)] (.lit (.bool r)) := by
 unfold F.impl_hasPath at hF
 refine PureCall.enterLe Try.func65 (by kernel_rfl) rfl Try.ntmps65 (by simp) (by simp) ?_
 repeat (first | refine chk.ga ?_ | simp -dsimp)
 have hF := ob hF; obtain ⟨v, e1, hF⟩ := hF
 refine ((C.slices_ContainsFunc__int__impl_hasPath_1 B hB1 hB2 list path v e1)).lend (by simp -dsimp) (by simp -dsimp) ?_
 cases hF
 repeat (first | refine chk.ga ?_ | simp -dsimp)
 all_goals (try omega)

set_option maxRecDepth 100000 in
set_option maxHeartbeats 4000000 in
theorem C.impl_hole (B : Nat) (hB1 : 67108864 ≤ B) (hB2 : B ≤ 9223372036854775807)  (r : Vl.Value) (hF : F.impl_hole  = some r) : PureCall Try.prog B 66 [] (.agg [.lit (.int .i64 r.ctor), .lit (.int .i64 r.n), .arr (List.map Vl.Value.c r.kids)]) := by
 unfold F.impl_hole at hF
 refine PureCall.enterLe Try.func66 (by kernel_rfl) rfl Try.ntmps66 (by simp) (by simp) ?_
 cases hF
 repeat (first | refine chk.ga ?_ | simp -dsimp)
 all_goals (try omega)

set_option maxRecDepth 100000 in
set_option maxHeartbeats 4000000 in
theorem C.slices_Clone_int (B : Nat) (hB1 : 67108864 ≤ B) (hB2 : B ≤ 9223372036854775807) (s : List Int) (r : List Int) (hF : F.slices_Clone_int s = some r) : BCall Try.prog B 67 [] [.arr (List.map cI s)] (.own 0 (List.length (α := Int) r)) [.elems 1 (List.map cI r)] := by
 unfold F.slices_Clone_int at hF
 have hF := oc hF; obtain ⟨c1, hF⟩ := hF
 cases hF
 cases s with
 | nil =>
  refine BCall.empty1 fun a c => ?_
  cases a
  ·refine BCall.ofNil 1 (by simp) (by simp) ?_
   refine PureCall.enterLe Try.func67 (by kernel_rfl) rfl Try.ntmps67 (by simp) (by simp) ?_
   repeat (first | refine chk.ga ?_ | simp -dsimp)
  ·refine BCall.enter Try.func67 (by kernel_rfl) rfl Try.ntmps67 (by simp) rfl (by simp) (by simp) (by simp) (by simp) (by simp) (Gh.refl _) ?_
   repeat (first | refine chk.ga ?_ | simp -dsimp)
 | cons x xs =>
  have c1 : xs.length + 1 ≤ 67108864 := by simpa using c1
  refine BCall.enter Try.func67 (by kernel_rfl) rfl Try.ntmps67 (by simp) rfl (by simp) (by simp) (by simp) (by simp) (by simp) (Gh.refl _) ?_
  repeat (first | refine chk.ga ?_ | simp -dsimp)

set_option maxRecDepth 100000 in
set_option maxHeartbeats 4000000 in
theorem CC.impl_mask (B : Nat) (hB1 : 67108864 ≤ B) (hB2 : B ≤ 9223372036854775807) (paths : List (List Int)) : (∀ (v : Vl.Value) (path : List Int) (r : Vl.Value), F.impl_mask v path paths = some r → PureCall Try.prog B 38 [.agg [.lit (.int .i64 v.ctor), .lit (.int .i64 v.n), .arr (List.map Vl.Value.c v.kids)], .arr (List.map cI path), .arr (List.map (cL cI) paths)] (.agg [.lit (.int .i64 r.ctor), .lit (.int .i64 r.n), .arr (List.map Vl.Value.c r.kids)])) ∧
  (∀ (v : Vl.Value) (path : List Int) (out : List Vl.Value) (i : Nat) (o : List Vl.Value), F.impl_mask_l1 v path paths out i = some o → ∀ (c : Code), navO [1, 1, 1, 0, 1, 0, 0] (bodyOf Try.f38) = some c → ∀ (Q : Exit → ASt → Prop), Q (.exit 0) ⟨[(6, .ptr 1 0), (7, .ptr 2 0)], [.dead, .cells [.lit (.int .i64 0), .lit (.int .i64 0), .lit (.slice none 0 0)], .cells [.lit (.int .i64 v.ctor), .lit (.int .i64 v.n), .own 3 (List.length (α := Vl.Value) o)], .elems 3 (List.map Vl.Value.c o)]⟩ → ALoopU Try.prog B 0 43 (hold c .mk) ⟨[(1, .arr (List.map cI path)), (2, .arr (List.map (cL cI) paths)), (6, .ptr 1 0), (7, .ptr 2 0), (21, .arr (List.map Vl.Value.c v.kids)), (22, .lit (.int .i64 (v.kids.length : Int))), (23, .lit (.int .i64 (i : Int)))], [.dead, .cells [.lit (.int .i64 0), .lit (.int .i64 0), .lit (.slice none 0 0)], .cells [.lit (.int .i64 v.ctor), .lit (.int .i64 v.n), .own 3 (List.length (α := Vl.Value) out)], .elems 3 (List.map Vl.Value.c out)]⟩ (hold Q .mk)) := by
 refine F.impl_mask.mutual_partial_correctness paths
  (fun v path r => PureCall Try.prog B 38 [.agg [.lit (.int .i64 v.ctor), .lit (.int .i64 v.n), .arr (List.map Vl.Value.c v.kids)], .arr (List.map cI path), .arr (List.map (cL cI) paths)] (.agg [.lit (.int .i64 r.ctor), .lit (.int .i64 r.n), .arr (List.map Vl.Value.c r.kids)]))
  (fun v path out i o => ∀ (c : Code), navO [1, 1, 1, 0, 1, 0, 0] (bodyOf Try.f38) = some c → ∀ (Q : Exit → ASt → Prop), Q (.exit 0) ⟨[(6, .ptr 1 0), (7, .ptr 2 0)], [.dead, .cells [.lit (.int .i64 0), .lit (.int .i64 0), .lit (.slice none 0 0)], .cells [.lit (.int .i64 v.ctor), .lit (.int .i64 v.n), .own 3 (List.length (α := Vl.Value) o)], .elems 3 (List.map Vl.Value.c o)]⟩ → ALoopU Try.prog B 0 43 (hold c .mk) ⟨[(1, .arr (List.map cI path)), (2, .arr (List.map (cL cI) paths)), (6, .ptr 1 0), (7, .ptr 2 0), (21, .arr (List.map Vl.Value.c v.kids)), (22, .lit (.int .i64 (v.kids.length : Int))), (23, .lit (.int .i64 (i : Int)))], [.dead, .cells [.lit (.int .i64 0), .lit (.int .i64 0), .lit (.slice none 0 0)], .cells [.lit (.int .i64 v.ctor), .lit (.int .i64 v.n), .own 3 (List.length (α := Vl.Value) out)], .elems 3 (List.map Vl.Value.c out)]⟩ (hold Q .mk))
  ?_ ?_
 ·intro _f_impl_mask_l1 ih_impl_mask_l1 v path r hF
  refine PureCall.enterLe Try.func38 (by kernel_rfl) rfl Try.ntmps38 (by simp) (by simp) ?_
  repeat (first | refine chk.ga ?_ | simp -dsimp)
  have hF := ob hF; obtain ⟨v1, e2, hF⟩ := hF
  refine ((C.impl_hasPath B hB1 hB2 paths path v1 e2)).goW (by simp) (by simp) ?_
  repeat (first | refine chk.ga ?_ | simp -dsimp)
  refine abr.split (fun h3 => ?_) (fun h3 => ?_)
  ·have q4 : ¬ (v1 = true) := auq h3
   rw [if_neg q4] at hF
   repeat (first | refine chk.ga ?_ | simp -dsimp [h3, q4])
   have hF := ob hF; obtain ⟨v5, e6, hF⟩ := hF
   refine ((C.impl_hole B hB1 hB2 v5 e6)).goW (by first | simp [h3, q4]; done | simp_all) (by simp) ?_
   cases hF
   repeat (first | refine chk.ga ?_ | simp -dsimp [h3, q4])
   all_goals (try omega)
  ·have q4 : (v1 = true) := auq h3
   rw [if_pos q4] at hF
   repeat (first | refine chk.ga ?_ | simp -dsimp [h3, q4])
   have hF := ob hF; obtain ⟨o', ho18, hF⟩ := hF
   refine ALoop.goU ⟨[(1, .arr (List.map cI path)), (2, .arr (List.map (cL cI) paths)), (6, .ptr 1 0), (7, .ptr 2 0), (21, .arr (List.map Vl.Value.c v.kids)), (22, .lit (.int .i64 (v.kids.length : Int))), (23, .lit (.int .i64 (0 : Int)))], [.dead, .cells [.lit (.int .i64 0), .lit (.int .i64 0), .lit (.slice none 0 0)], .cells [.lit (.int .i64 v.ctor), .lit (.int .i64 v.n), .own 3 (List.length (α := Vl.Value) [])], .elems 3 (List.map Vl.Value.c [])]⟩ ((Gh.nilCell 2 2 3 (by simp -dsimp; rfl) (by simp -dsimp)).trans (Gh.to3 (by simp) (by first | simp -dsimp [h3, q4]; done | simp_all))) ?_
   refine (ih_impl_mask_l1 v path [] 0 o' ho18) _ rfl _ ?_
   cases hF
   repeat (first | refine chk.ga ?_ | simp -dsimp)
   all_goals (try omega)
 ·intro _f_impl_mask _f_impl_mask_l1 ih_impl_mask ih_impl_mask_l1 v path out i o hF
  intro c hc Q hq
  obtain rfl : c = _ := navEq hc rfl
  refine ALoopU.know fun hk hs => ?_
  have b1 := hk 1
  simp -dsimp at b1
  have b2 := hk 2
  simp -dsimp at b2
  have b21 := hk 21
  simp -dsimp at b21
  have d3 := hs 3 _ rfl
  simp -dsimp [Blk.bnd] at d3
  clear hk hs
  refine ALoopU.enter ?_
  repeat (first | refine chk.ga ?_ | simp -dsimp)
  refine abr.split (fun h7 => ?_) (fun h7 => ?_)
  ·have q8 : (i < v.kids.length) := auq h7
   have z9 : ((i : Int) < (v.kids.length : Int)) := auz
   rw [if_pos q8] at hF
   have hF := ob hF; obtain ⟨x, e10, hF⟩ := hF
   have le10 := lt_of_get e10
   repeat (first | refine chk.ga ?_ | simp -dsimp [h7, z9, ↓e10])
   refine ADraw.opn ?_
   refine ADraw.split [] [(4, 6)] [(6, 4)] 4 6 rfl rfl (by kernel_rfl) ?_ ?_
   ·refine ADraw.effP [(4, 6)] [0, 1, 2, 3, 4, 5, 6, 7, 8, 9, 10, 11, 12, 13] [38, 67] [(0, 5), (0, 5), (0, 3), (0, 0), (0, 7), (0, 1), (0, 7), (0, 7), (0, 3), (0, 7), (0, 7), (0, 7), (6, 6), (0, 7)] [0, 2, 2, 1, 1, 1, 1, 1, 1, 1, 1, 1, 1, 1] follows (by kernel_rfl) (by kernel_rfl) (by kernel_rfl) (by kernel_rfl) ?_
    repeat (first | refine chk.ga ?_ | simp -dsimp [h7, z9, ↓e10])
    have hF := ob hF; obtain ⟨v11, e12, hF⟩ := hF
    refine ((C.slices_Clone_int B hB1 hB2 path v11 e12)).ego (pl [5]) (by simp) (by simp) (by intro i j hi; simp at hi) (by intro i hi hi'; simp at hi hi'; first | omega | (subst hi'; simp [pl])) (by first | simp [h7, z9, ↓e10]; done | simp_all) (by first | simp [h7, z9, ↓e10]; done | simp_all) ?_
    have hF := oc hF; obtain ⟨c13, hF⟩ := hF
    repeat (first | refine chk.ga ?_ | simp -dsimp [h7, z9, ↓e10])
    have hF := ob hF; obtain ⟨v14, e15, hF⟩ := hF
    refine ECallA.frz ?_ ((ih_impl_mask x (v11 ++ [(i : Int)]) v14 e15)).ent
    repeat (first | refine chk.ga ?_ | simp -dsimp [h7, z9, ↓e10])
    refine ((ih_impl_mask x (v11 ++ [(i : Int)]) v14 e15)).ego (by first | simp [h7, z9, ↓e10]; done | simp_all) (by simp) ?_
    have hF := oc hF; obtain ⟨c16, hF⟩ := hF
    have w17 : IntKind.i64.wrap ((i : Int) + 1) = (i : Int) + 1 := wrap_in (by omega) (by omega)
    repeat (first | refine chk.ga ?_ | simp -dsimp [h7, z9, ↓e10, w17])
    refine Again.go ⟨[(1, .arr (List.map cI path)), (2, .arr (List.map (cL cI) paths)), (6, .ptr 1 0), (7, .ptr 2 0), (21, .arr (List.map Vl.Value.c v.kids)), (22, .lit (.int .i64 (v.kids.length : Int))), (23, .lit (.int .i64 ((i + 1) : Int)))], [.dead, .cells [.lit (.int .i64 0), .lit (.int .i64 0), .lit (.slice none 0 0)], .cells [.lit (.int .i64 v.ctor), .lit (.int .i64 v.n), .own 3 (List.length (α := Vl.Value) (out ++ [v14]))], .elems 3 (List.map Vl.Value.c (out ++ [v14]))]⟩ (Gh.to3 (by simp) (by first | simp -dsimp [h7, z9, ↓e10, w17]; done | simp_all)) ?_
    exact (ih_impl_mask_l1 v path (out ++ [v14]) (i + 1) o hF) _ rfl _ hq
   ·refine ADraw.effP [(6, 4)] [0, 1, 2, 3, 5, 6, 4, 7, 8, 9, 10, 11, 12, 13] [38, 67] [(0, 5), (0, 5), (0, 3), (0, 1), (0, 0), (0, 7), (0, 7), (0, 7), (0, 3), (0, 7), (0, 7), (0, 7), (6, 6), (0, 7)] [0, 2, 2, 1, 1, 1, 1, 1, 1, 1, 1, 1, 1, 1] follows (by kernel_rfl) (by kernel_rfl) (by kernel_rfl) (by kernel_rfl) ?_
    repeat (first | refine chk.ga ?_ | simp -dsimp [h7, z9, ↓e10])
    have hF := ob hF; obtain ⟨v11, e12, hF⟩ := hF
    refine ((C.slices_Clone_int B hB1 hB2 path v11 e12)).ego (pl [6]) (by simp) (by simp) (by intro i j hi; simp at hi) (by intro i hi hi'; simp at hi hi'; first | omega | (subst hi'; simp [pl])) (by first | simp [h7, z9, ↓e10]; done | simp_all) (by first | simp [h7, z9, ↓e10]; done | simp_all) ?_
    have hF := oc hF; obtain ⟨c13, hF⟩ := hF
    repeat (first | refine chk.ga ?_ | simp -dsimp [h7, z9, ↓e10])
    have hF := ob hF; obtain ⟨v14, e15, hF⟩ := hF
    refine ECallA.frz ?_ ((ih_impl_mask x (v11 ++ [(i : Int)]) v14 e15)).ent
    repeat (first | refine chk.ga ?_ | simp -dsimp [h7, z9, ↓e10])
    refine ((ih_impl_mask x (v11 ++ [(i : Int)]) v14 e15)).ego (by first | simp [h7, z9, ↓e10]; done | simp_all) (by simp) ?_
    have hF := oc hF; obtain ⟨c16, hF⟩ := hF
    have w17 : IntKind.i64.wrap ((i : Int) + 1) = (i : Int) + 1 := wrap_in (by omega) (by omega)
    repeat (first | refine chk.ga ?_ | simp -dsimp [h7, z9, ↓e10, w17])
    refine Again.go ⟨[(1, .arr (List.map cI path)), (2, .arr (List.map (cL cI) paths)), (6, .ptr 1 0), (7, .ptr 2 0), (21, .arr (List.map Vl.Value.c v.kids)), (22, .lit (.int .i64 (v.kids.length : Int))), (23, .lit (.int .i64 ((i + 1) : Int)))], [.dead, .cells [.lit (.int .i64 0), .lit (.int .i64 0), .lit (.slice none 0 0)], .cells [.lit (.int .i64 v.ctor), .lit (.int .i64 v.n), .own 3 (List.length (α := Vl.Value) (out ++ [v14]))], .elems 3 (List.map Vl.Value.c (out ++ [v14]))]⟩ (Gh.to3 (by simp) (by first | simp -dsimp [h7, z9, ↓e10, w17]; done | simp_all)) ?_
    exact (ih_impl_mask_l1 v path (out ++ [v14]) (i + 1) o hF) _ rfl _ hq
  ·have q8 : ¬ (i < v.kids.length) := auq h7
   have z9 : ¬ ((i : Int) < (v.kids.length : Int)) := auz
   rw [if_neg q8] at hF
   cases hF
   repeat (first | refine chk.ga ?_ | simp -dsimp [h7, q8, z9])
   refine Leave.go ⟨[(6, .ptr 1 0), (7, .ptr 2 0)], [.dead, .cells [.lit (.int .i64 0), .lit (.int .i64 0), .lit (.slice none 0 0)], .cells [.lit (.int .i64 v.ctor), .lit (.int .i64 v.n), .own 3 (List.length (α := Vl.Value) out)], .elems 3 (List.map Vl.Value.c out)]⟩ (Gh.to3 (by simp) (by first | simp -dsimp [h7, q8, z9]; done | simp_all)) ?_
   exact hq

theorem C.impl_mask (B : Nat) (hB1 : 67108864 ≤ B) (hB2 : B ≤ 9223372036854775807) (v : Vl.Value) (path : List Int) (paths : List (List Int)) (r : Vl.Value) (hF : F.impl_mask v path paths = some r) : PureCall Try.prog B 38 [.agg [.lit (.int .i64 v.ctor), .lit (.int .i64 v.n), .arr (List.map Vl.Value.c v.kids)], .arr (List.map cI path), .arr (List.map (cL cI) paths)] (.agg [.lit (.int .i64 r.ctor), .lit (.int .i64 r.n), .arr (List.map Vl.Value.c r.kids)]) :=
 (CC.impl_mask B hB1 hB2 paths).1 v path r hF

theorem C.impl_mask_l1 (B : Nat) (hB1 : 67108864 ≤ B) (hB2 : B ≤ 9223372036854775807) (v : Vl.Value) (path : List Int) (paths : List (List Int)) (out : List Vl.Value) (i : Nat) (o : List Vl.Value) (hF : F.impl_mask_l1 v path paths out i = some o) : ∀ (c : Code), navO [1, 1, 1, 0, 1, 0, 0] (bodyOf Try.f38) = some c → ∀ (Q : Exit → ASt → Prop), Q (.exit 0) ⟨[(6, .ptr 1 0), (7, .ptr 2 0)], [.dead, .cells [.lit (.int .i64 0), .lit (.int .i64 0), .lit (.slice none 0 0)], .cells [.lit (.int .i64 v.ctor), .lit (.int .i64 v.n), .own 3 (List.length (α := Vl.Value) o)], .elems 3 (List.map Vl.Value.c o)]⟩ → ALoopU Try.prog B 0 43 (hold c .mk) ⟨[(1, .arr (List.map cI path)), (2, .arr (List.map (cL cI) paths)), (6, .ptr 1 0), (7, .ptr 2 0), (21, .arr (List.map Vl.Value.c v.kids)), (22, .lit (.int .i64 (v.kids.length : Int))), (23, .lit (.int .i64 (i : Int)))], [.dead, .cells [.lit (.int .i64 0), .lit (.int .i64 0), .lit (.slice none 0 0)], .cells [.lit (.int .i64 v.ctor), .lit (.int .i64 v.n), .own 3 (List.length (α := Vl.Value) out)], .elems 3 (List.map Vl.Value.c out)]⟩ (hold Q .mk) :=
 (CC.impl_mask B hB1 hB2 paths).2 v path out i o hF

set_option maxRecDepth 100000 in
set_option maxHeartbeats 4000000 in
theorem C.impl_MaskValue (B : Nat) (hB1 : 67108864 ≤ B) (hB2 : B ≤ 9223372036854775807) (w : List Vl.Data) (t : Vl.Ty) (v : Vl.Value) (paths : List (List Int)) (r : Vl.Value × Bool) (hF : F.impl_MaskValue w t v paths = some r) : PureCall Try.prog B 18 [.arr (List.map Vl.Data.c w), .agg [.lit (.int .i64 t.data), .lit (.int .i64 t.index)], .agg [.lit (.int .i64 v.ctor), .lit (.int .i64 v.n), .arr (List.map Vl.Value.c v.kids)], .arr (List.map (cL cI) paths)] (.tup [.agg [.lit (.int .i64 r.1.ctor), .lit (.int .i64 r.1.n), .arr (List.map Vl.Value.c r.1.kids)], .lit (.bool r.2)]) := by
 unfold F.impl_MaskValue at hF
 refine PureCall.enterLe Try.func18 (by kernel_rfl) rfl Try.ntmps18 (by simp) (by simp) ?_
 repeat (first | refine chk.ga ?_ | simp -dsimp)
 have hF := ob hF; obtain ⟨v1, e2, hF⟩ := hF
 refine ((C.impl_PartialValid B hB1 hB2 w t v v1 e2)).goW (by simp) (by simp) ?_
 repeat (first | refine chk.ga ?_ | simp -dsimp)
 refine abr.split (fun h3 => ?_) (fun h3 => ?_)
 ·have q4 : ¬ (v1 = true) := auq h3
  rw [if_neg q4] at hF
  cases hF
  repeat (first | refine chk.ga ?_ | simp -dsimp [h3, q4])
  all_goals (try omega)
 ·have q4 : (v1 = true) := auq h3
  rw [if_pos q4] at hF
  repeat (first | refine chk.ga ?_ | simp -dsimp [h3, q4])
  have hF := ob hF; obtain ⟨v5, e6, hF⟩ := hF
  refine ((C.impl_mask B hB1 hB2 v [] paths v5 e6)).goW (by first | simp [h3, q4]; done | simp_all) (by simp) ?_
  cases hF
  repeat (first | refine chk.ga ?_ | simp -dsimp [h3, q4])
  all_goals (try omega)

set_option maxRecDepth 100000 in
set_option maxHeartbeats 4000000 in
theorem C.spec_l1Is (B : Nat) (hB1 : 67108864 ≤ B) (hB2 : B ≤ 9223372036854775807) (w : List Vl.Data) (t : Vl.Ty) (r : Bool) (hF : F.spec_l1Is w t = some r) : PureCall Try.prog B 62 [.arr (List.map Vl.Data.c w), .agg [.lit (.int .i64 t.data), .lit (.int .i64 t.index)]] (.lit (.bool r)) := by
 unfold F.spec_l1Is at hF
 refine PureCall.enterLe Try.func62 (by kernel_rfl) rfl Try.ntmps62 (by simp) (by simp) ?_
 repeat (first | refine chk.ga ?_ | simp -dsimp)
 have hF := ob hF; obtain ⟨v, e1, hF⟩ := hF
 refine ((C.spec_l1Arg B hB1 hB2 (w.length : Int) t v e1)).goW (by simp) (by simp) ?_
 repeat (first | refine chk.ga ?_ | simp -dsimp)
 refine abr.split (fun h2 => ?_) (fun h2 => ?_)
 ·have q3 : (v = true) := auq h2
  rw [if_pos q3] at hF
  cases hF
  repeat (first | refine chk.ga ?_ | simp -dsimp [h2])
  all_goals (try omega)
 ·have q3 : ¬ (v = true) := auq h2
  rw [if_neg q3] at hF
  cases hF
  repeat (first | refine chk.ga ?_ | simp -dsimp [h2, q3])
  all_goals (try omega)

set_option maxRecDepth 100000 in
set_option maxHeartbeats 4000000 in
theorem C.spec_TypeValid (B : Nat) (hB1 : 67108864 ≤ B) (hB2 : B ≤ 9223372036854775807) (w : List Vl.Data) (t : Vl.Ty) (r : Bool) (hF : F.spec_TypeValid w t = some r) : PureCall Try.prog B 35 [.arr (List.map Vl.Data.c w), .agg [.lit (.int .i64 t.data), .lit (.int .i64 t.index)]] (.lit (.bool r)) := by
 unfold F.spec_TypeValid at hF
 refine PureCall.enterLe Try.func35 (by kernel_rfl) rfl Try.ntmps35 (by simp) (by simp) ?_
 repeat (first | refine chk.ga ?_ | simp -dsimp)
 have hF := ob hF; obtain ⟨v, e1, hF⟩ := hF
 refine ((C.spec_WorldValid B hB1 hB2 w v e1)).goW (by simp) (by simp) ?_
 repeat (first | refine chk.ga ?_ | simp -dsimp)
 refine abr.split (fun h2 => ?_) (fun h2 => ?_)
 ·have q3 : (v = true) := auq h2
  rw [if_pos q3] at hF
  repeat (first | refine chk.ga ?_ | simp -dsimp [h2])
  have hF := ob hF; obtain ⟨v4, e5, hF⟩ := hF
  refine ((C.spec_l1Is B hB1 hB2 w t v4 e5)).goW (by first | simp [h2]; done | simp_all) (by simp) ?_
  cases hF
  repeat (first | refine chk.ga ?_ | simp -dsimp [h2])
  all_goals (try omega)
 ·have q3 : ¬ (v = true) := auq h2
  rw [if_neg q3] at hF
  cases hF
  repeat (first | refine chk.ga ?_ | simp -dsimp [h2, q3])
  all_goals (try omega)

set_option maxRecDepth 100000 in
set_option maxHeartbeats 4000000 in
theorem C.spec_l10Hole (B : Nat) (hB1 : 67108864 ≤ B) (hB2 : B ≤ 9223372036854775807) (v : Vl.Value) (r : Bool) (hF : F.spec_l10Hole v = some r) : PureCall Try.prog B 92 [.agg [.lit (.int .i64 v.ctor), .lit (.int .i64 v.n), .arr (List.map Vl.Value.c v.kids)]] (.lit (.bool r)) := by
 unfold F.spec_l10Hole at hF
 refine PureCall.enterLe Try.func92 (by kernel_rfl) rfl Try.ntmps92 (by simp) (by simp) ?_
 repeat (first | refine chk.ga ?_ | simp -dsimp)
 refine abr.split (fun h1 => ?_) (fun h1 => ?_)
 ·have q2 : (v.ctor = (-2)) := auq h1
  rw [if_pos q2] at hF
  repeat (first | refine chk.ga ?_ | simp -dsimp [h1])
  refine abr.split (fun h3 => ?_) (fun h3 => ?_)
  ·have q4 : (v.n = 0) := auq h3
   rw [if_pos q4] at hF
   cases hF
   repeat (first | refine chk.ga ?_ | simp -dsimp [h1, h3])
   all_goals (try omega)
  ·have q4 : ¬ (v.n = 0) := auq h3
   rw [if_neg q4] at hF
   cases hF
   repeat (first | refine chk.ga ?_ | simp -dsimp [h1, h3, q4])
   all_goals (try omega)
 ·have q2 : ¬ (v.ctor = (-2)) := auq h1
  rw [if_neg q2] at hF
  cases hF
  repeat (first | refine chk.ga ?_ | simp -dsimp [h1, q2])
  all_goals (try omega)

set_option maxRecDepth 100000 in
set_option maxHeartbeats 4000000 in
theorem CC.spec_l1Has_l1 (B : Nat) (hB1 : 67108864 ≤ B) (hB2 : B ≤ 9223372036854775807) (list : List Int) (n : Int) : (∀ (i : Nat) (o : Lo Bool Unit), F.spec_l1Has_l1 list n i = some o → ∀ (c : Code), navO [1, 0, 1, 0, 0] (bodyOf Try.f94) = some c → ∀ (Q : Exit → ASt → Prop), o.post (fun r => ∀ st, Post Try.prog Try.f94 (fun r' _ => r'.le (.lit (.bool r))) .ret st → Q .ret st) (fun s => Q (.exit 0) ⟨[], []⟩) → ALoopU Try.prog B 0 18 (hold c .mk) ⟨[(0, .arr (List.map cI list)), (1, .lit (.int .i64 n)), (5, .lit (.int .i64 (i : Int)))], []⟩ (hold Q .mk)) := by
 refine F.spec_l1Has_l1.partial_correctness list n
  (fun i o => ∀ (c : Code), navO [1, 0, 1, 0, 0] (bodyOf Try.f94) = some c → ∀ (Q : Exit → ASt → Prop), o.post (fun r => ∀ st, Post Try.prog Try.f94 (fun r' _ => r'.le (.lit (.bool r))) .ret st → Q .ret st) (fun s => Q (.exit 0) ⟨[], []⟩) → ALoopU Try.prog B 0 18 (hold c .mk) ⟨[(0, .arr (List.map cI list)), (1, .lit (.int .i64 n)), (5, .lit (.int .i64 (i : Int)))], []⟩ (hold Q .mk))
  ?_
 ·intro _f_spec_l1Has_l1 ih_spec_l1Has_l1 i o hF
  intro c hc Q hq
  obtain rfl : c = _ := navEq hc rfl
  refine ALoopU.know fun hk hs => ?_
  have b0 := hk 0
  simp -dsimp at b0
  clear hk hs
  refine ALoopU.enter ?_
  repeat (first | refine chk.ga ?_ | simp -dsimp)
  refine abr.split (fun h1 => ?_) (fun h1 => ?_)
  ·have q2 : (i < list.length) := auq h1
   have z3 : ((i : Int) < (list.length : Int)) := auz
   rw [if_pos q2] at hF
   have hF := ob hF; obtain ⟨x, e4, hF⟩ := hF
   have le4 := lt_of_get e4
   repeat (first | refine chk.ga ?_ | simp -dsimp [h1, z3, ↓e4])
   refine abr.split (fun h5 => ?_) (fun h5 => ?_)
   ·have q6 : (x = n) := auq h5
    rw [if_pos q6] at hF
    cases hF
    repeat (first | refine chk.ga ?_ | simp -dsimp [h1, z3, ↓e4, h5])
    refine Leave.go _ (Gh.refl _) (hq _ ?_)
    repeat (first | refine chk.ga ?_ | simp -dsimp [h1, z3, ↓e4, h5])
   ·have q6 : ¬ (x = n) := auq h5
    rw [if_neg q6] at hF
    have w7 : IntKind.i64.wrap ((i : Int) + 1) = (i : Int) + 1 := wrap_in (by omega) (by omega)
    repeat (first | refine chk.ga ?_ | simp -dsimp [h1, z3, ↓e4, h5, q6, w7])
    refine Again.go ⟨[(0, .arr (List.map cI list)), (1, .lit (.int .i64 n)), (5, .lit (.int .i64 ((i + 1) : Int)))], []⟩ (Gh.to3 (by simp) (by first | simp -dsimp [h1, z3, ↓e4, h5, q6, w7]; done | simp_all)) ?_
    exact (ih_spec_l1Has_l1 (i + 1) o hF) _ rfl _ hq
  ·have q2 : ¬ (i < list.length) := auq h1
   have z3 : ¬ ((i : Int) < (list.length : Int)) := auz
   rw [if_neg q2] at hF
   cases hF
   repeat (first | refine chk.ga ?_ | simp -dsimp [h1, q2, z3])
   refine Leave.go ⟨[], []⟩ (Gh.to3 (by simp) (by first | simp -dsimp [h1, q2, z3]; done | simp_all)) ?_
   exact hq

theorem C.spec_l1Has_l1 (B : Nat) (hB1 : 67108864 ≤ B) (hB2 : B ≤ 9223372036854775807) (list : List Int) (n : Int) (i : Nat) (o : Lo Bool Unit) (hF : F.spec_l1Has_l1 list n i = some o) : ∀ (c : Code), navO [1, 0, 1, 0, 0] (bodyOf Try.f94) = some c → ∀ (Q : Exit → ASt → Prop), o.post (fun r => ∀ st, Post Try.prog Try.f94 (fun r' _ => r'.le (.lit (.bool r))) .ret st → Q .ret st) (fun s => Q (.exit 0) ⟨[], []⟩) → ALoopU Try.prog B 0 18 (hold c .mk) ⟨[(0, .arr (List.map cI list)), (1, .lit (.int .i64 n)), (5, .lit (.int .i64 (i : Int)))], []⟩ (hold Q .mk) :=
 (CC.spec_l1Has_l1 B hB1 hB2 list n) i o hF

set_option maxRecDepth 100000 in
set_option maxHeartbeats 4000000 in
theorem C.spec_l1Has (B : Nat) (hB1 : 67108864 ≤ B) (hB2 : B ≤ 9223372036854775807) (list : List Int) (n : Int) (r : Bool) (hF : F.spec_l1Has list n = some r) : PureCall Try.prog B 94 [.arr (List.map cI list), .lit (.int .i64 n)] (.lit (.bool r)) := by
 unfold F.spec_l1Has at hF
 refine PureCall.enterLe Try.func94 (by kernel_rfl) rfl Try.ntmps94 (by simp) (by simp) ?_
 repeat (first | refine chk.ga ?_ | simp -dsimp)
 have hF := ob hF; obtain ⟨o', ho8, hF⟩ := hF
 refine ALoop.goU ⟨[(0, .arr (List.map cI list)), (1, .lit (.int .i64 n)), (5, .lit (.int .i64 (0 : Int)))], []⟩ (Gh.to3 (by simp) (by simp -dsimp)) ?_
 refine (C.spec_l1Has_l1 B hB1 hB2 list n 0 o' ho8) _ rfl _ ?_
 rcases o' with r0 | sx
 ·dsimp only at hF
  cases hF
  intro st h
  simpa using h
 ·dsimp only at hF
  cases hF
  repeat (first | refine chk.ga ?_ | simp -dsimp)
  all_goals (try omega)

set_option maxRecDepth 100000 in
set_option maxHeartbeats 4000000 in
theorem CC.spec_l2Fits (B : Nat) (hB1 : 67108864 ≤ B) (hB2 : B ≤ 9223372036854775807) (w : List Vl.Data) : (∀ (t : Vl.Ty) (v : Vl.Value) (depth : Int) (r : Bool), F.spec_l2Fits w t v depth = some r → PureCall Try.prog B 93 [.arr (List.map Vl.Data.c w), .agg [.lit (.int .i64 t.data), .lit (.int .i64 t.index)], .agg [.lit (.int .i64 v.ctor), .lit (.int .i64 v.n), .arr (List.map Vl.Value.c v.kids)], .lit (.int .i64 depth)] (.lit (.bool r))) ∧
  (∀ (v : Vl.Value) (depth : Int) (v19 : List Vl.Ty) (i : Nat) (o : Lo Bool Unit), F.spec_l2Fits_l1 w v depth v19 i = some o → ∀ (c : Code), navO [1, 1, 1, 1, 1, 1, 0, 1, 0, 0] (bodyOf Try.f93) = some c → ∀ (Q : Exit → ASt → Prop), o.post (fun r => ∀ st, Post Try.prog Try.f93 (fun r' _ => r'.le (.lit (.bool r))) .ret st → Q .ret st) (fun s => Q (.exit 0) ⟨[], []⟩) → ALoopU Try.prog B 0 78 (hold c .mk) ⟨[(0, .arr (List.map Vl.Data.c w)), (3, .lit (.int .i64 depth)), (6, .ptr 1 0), (9, .arr (List.map Vl.Ty.c v19)), (10, .lit (.int .i64 (i : Int)))], [.dead, .cells [.lit (.int .i64 v.ctor), .lit (.int .i64 v.n), .arr (List.map Vl.Value.c v.kids)]]⟩ (hold Q .mk)) := by
 refine F.spec_l2Fits.mutual_partial_correctness w
  (fun t v depth r => PureCall Try.prog B 93 [.arr (List.map Vl.Data.c w), .agg [.lit (.int .i64 t.data), .lit (.int .i64 t.index)], .agg [.lit (.int .i64 v.ctor), .lit (.int .i64 v.n), .arr (List.map Vl.Value.c v.kids)], .lit (.int .i64 depth)] (.lit (.bool r)))
  (fun v depth v19 i o => ∀ (c : Code), navO [1, 1, 1, 1, 1, 1, 0, 1, 0, 0] (bodyOf Try.f93) = some c → ∀ (Q : Exit → ASt → Prop), o.post (fun r => ∀ st, Post Try.prog Try.f93 (fun r' _ => r'.le (.lit (.bool r))) .ret st → Q .ret st) (fun s => Q (.exit 0) ⟨[], []⟩) → ALoopU Try.prog B 0 78 (hold c .mk) ⟨[(0, .arr (List.map Vl.Data.c w)), (3, .lit (.int .i64 depth)), (6, .ptr 1 0), (9, .arr (List.map Vl.Ty.c v19)), (10, .lit (.int .i64 (i : Int)))], [.dead, .cells [.lit (.int .i64 v.ctor), .lit (.int .i64 v.n), .arr (List.map Vl.Value.c v.kids)]]⟩ (hold Q .mk))
  ?_ ?_
 ·intro _f_spec_l2Fits_l1 ih_spec_l2Fits_l1 t v depth r hF
  refine PureCall.enterLe Try.func93 (by kernel_rfl) rfl Try.ntmps93 (by simp) (by simp) ?_
  repeat (first | refine chk.ga ?_ | simp -dsimp)
  refine abr.split (fun h1 => ?_) (fun h1 => ?_)
  ·have q2 : (depth < 1) := auq h1
   rw [if_pos q2] at hF
   cases hF
   repeat (first | refine chk.ga ?_ | simp -dsimp [h1])
   all_goals (try omega)
  ·have q2 : ¬ (depth < 1) := auq h1
   rw [if_neg q2] at hF
   repeat (first | refine chk.ga ?_ | simp -dsimp [h1, q2])
   refine abr.split (fun h3 => ?_) (fun h3 => ?_)
   ·have q4 : (t.data = (-1)) := auq h3
    rw [if_pos q4] at hF
    repeat (first | refine chk.ga ?_ | simp -dsimp [h1, q2, h3])
    refine abr.split (fun h5 => ?_) (fun h5 => ?_)
    ·have q6 : (v.ctor = (-1)) := auq h5
     rw [if_pos q6] at hF
     repeat (first | refine chk.ga ?_ | simp -dsimp [h1, q2, h3, h5])
     refine abr.split (fun h7 => ?_) (fun h7 => ?_)
     ·have q8 : (0 ≤ v.n) := auq h7
      rw [if_pos q8] at hF
      repeat (first | refine chk.ga ?_ | simp -dsimp [h1, q2, h3, h5, h7])
      refine abr.split (fun h9 => ?_) (fun h9 => ?_)
      ·have q10 : (v.n ≤ 9) := auq h9
       rw [if_pos q10] at hF
       cases hF
       repeat (first | refine chk.ga ?_ | simp -dsimp [h1, q2, h3, h5, h7, h9])
       all_goals (try omega)
      ·have q10 : ¬ (v.n ≤ 9) := auq h9
       rw [if_neg q10] at hF
       cases hF
       repeat (first | refine chk.ga ?_ | simp -dsimp [h1, q2, h3, h5, h7, h9, q10])
       all_goals (try omega)
     ·have q8 : ¬ (0 ≤ v.n) := auq h7
      rw [if_neg q8] at hF
      cases hF
      repeat (first | refine chk.ga ?_ | simp -dsimp [h1, q2, h3, h5, h7, q8])
      all_goals (try omega)
    ·have q6 : ¬ (v.ctor = (-1)) := auq h5
     rw [if_neg q6] at hF
     cases hF
     repeat (first | refine chk.ga ?_ | simp -dsimp [h1, q2, h3, h5, q6])
     all_goals (try omega)
   ·have q4 : ¬ (t.data = (-1)) := auq h3
    rw [if_neg q4] at hF
    repeat (first | refine chk.ga ?_ | simp -dsimp [h1, q2, h3, q4])
    refine ADraw.simple follows (by kernel_rfl) (by kernel_rfl) ?_
    repeat (first | refine chk.ga ?_ | simp -dsimp [h1, q2, h3, q4])
    refine abr.split (fun h11 => ?_) (fun h11 => ?_)
    ·have q12 : (v.n = 0) := auq h11
     rw [if_pos q12] at hF
     repeat (first | refine chk.ga ?_ | simp -dsimp [h1, q2, h3, q4, h11])
     have hF := ob hF; obtain ⟨v13, e14, hF⟩ := hF
     refine ((C.spec_l1Ctors B hB1 hB2 w t v13 e14)).pgoW (by first | simp [h1, q2, h3, q4, h11]; done | simp_all) (by simp) ?_
     repeat (first | refine chk.ga ?_ | simp -dsimp [h1, q2, h3, q4, h11])
     have hF := ob hF; obtain ⟨v15, e16, hF⟩ := hF
     refine ((C.spec_l1Has B hB1 hB2 v13 v.ctor v15 e16)).pgoW (by first | simp [h1, q2, h3, q4, h11]; done | simp_all) (by simp) ?_
     repeat (first | refine chk.ga ?_ | simp -dsimp [h1, q2, h3, q4, h11])
     refine abr.split (fun h17 => ?_) (fun h17 => ?_)
     ·have q18 : ¬ (v15 = true) := auq h17
      rw [if_neg q18] at hF
      cases hF
      repeat (first | refine chk.ga ?_ | simp -dsimp [h1, q2, h3, q4, h11, h17, q18])
      all_goals (try omega)
     ·have q18 : (v15 = true) := auq h17
      rw [if_pos q18] at hF
      repeat (first | refine chk.ga ?_ | simp -dsimp [h1, q2, h3, q4, h11, h17, q18])
      have hF := ob hF; obtain ⟨v19, e20, hF⟩ := hF
      refine ((C.spec_l1Args B hB1 hB2 w t v.ctor v19 e20)).goW (by first | simp [h1, q2, h3, q4, h11, h17, q18]; done | simp_all) (by simp) ?_
      repeat (first | refine chk.ga ?_ | simp -dsimp [h1, q2, h3, q4, h11, h17, q18])
      refine abr.split (fun h21 => ?_) (fun h21 => ?_)
      ·have q22 : ¬ (v.kids.length = v19.length) := auq h21
       have z23 : ¬ ((v.kids.length : Int) = (v19.length : Int)) := auz
       rw [if_neg q22] at hF
       cases hF
       repeat (first | refine chk.ga ?_ | simp -dsimp [h1, q2, h3, q4, h11, h17, q18, h21, q22, z23])
       all_goals (try omega)
      ·have q22 : (v.kids.length = v19.length) := auq h21
       have z23 : ((v.kids.length : Int) = (v19.length : Int)) := auz
       rw [if_pos q22] at hF
       repeat (first | refine chk.ga ?_ | simp -dsimp [h1, q2, h3, q4, h11, h17, q18, h21, q22, z23])
       have hF := ob hF; obtain ⟨o', ho35, hF⟩ := hF
       refine ALoop.goU ⟨[(0, .arr (List.map Vl.Data.c w)), (3, .lit (.int .i64 depth)), (6, .ptr 1 0), (9, .arr (List.map Vl.Ty.c v19)), (10, .lit (.int .i64 (0 : Int)))], [.dead, .cells [.lit (.int .i64 v.ctor), .lit (.int .i64 v.n), .arr (List.map Vl.Value.c v.kids)]]⟩ (Gh.to3 (by simp) (by first | simp -dsimp [h1, q2, h3, q4, h11, h17, q18, h21, q22, z23]; done | simp_all)) ?_
       refine (ih_spec_l2Fits_l1 v depth v19 0 o' ho35) _ rfl _ ?_
       rcases o' with r0 | sx
       ·dsimp only at hF
        cases hF
        intro st h
        simpa using h
       ·dsimp only at hF
        cases hF
        repeat (first | refine chk.ga ?_ | simp -dsimp)
        all_goals (try omega)
    ·have q12 : ¬ (v.n = 0) := auq h11
     rw [if_neg q12] at hF
     cases hF
     repeat (first | refine chk.ga ?_ | simp -dsimp [h1, q2, h3, q4, h11, q12])
     all_goals (try omega)
 ·intro _f_spec_l2Fits _f_spec_l2Fits_l1 ih_spec_l2Fits ih_spec_l2Fits_l1 v depth v19 i o hF
  intro c hc Q hq
  obtain rfl : c = _ := navEq hc rfl
  refine ALoopU.know fun hk hs => ?_
  have b0 := hk 0
  simp -dsimp at b0
  have b9 := hk 9
  simp -dsimp at b9
  have d1 := hs 1 _ rfl
  simp -dsimp [Blk.bnd] at d1
  clear hk hs
  refine ALoopU.enter ?_
  repeat (first | refine chk.ga ?_ | simp -dsimp)
  refine abr.split (fun h24 => ?_) (fun h24 => ?_)
  ·have q25 : (i < v19.length) := auq h24
   have z26 : ((i : Int) < (v19.length : Int)) := auz
   rw [if_pos q25] at hF
   repeat (first | refine chk.ga ?_ | simp -dsimp [h24, z26])
   refine ADraw.simple follows (by kernel_rfl) (by kernel_rfl) ?_
   have hF := ob hF; obtain ⟨x, e27, hF⟩ := hF
   have le27 := lt_of_get e27
   have hF := ob hF; obtain ⟨x28, e29, hF⟩ := hF
   have le29 := lt_of_get e29
   repeat (first | refine chk.ga ?_ | simp -dsimp [h24, z26, ↓e27, ↓e29])
   have hF := ob hF; obtain ⟨v30, e31, hF⟩ := hF
   refine ((ih_spec_l2Fits x x28 (IntKind.i64.wrap (depth - 1)) v30 e31)).pgoW (by first | simp [h24, z26, ↓e27, ↓e29]; done | simp_all) (by simp) ?_
   repeat (first | refine chk.ga ?_ | simp -dsimp [h24, z26, ↓e27, ↓e29])
   refine abr.split (fun h32 => ?_) (fun h32 => ?_)
   ·have q33 : ¬ (v30 = true) := auq h32
    rw [if_neg q33] at hF
    cases hF
    repeat (first | refine chk.ga ?_ | simp -dsimp [h24, z26, ↓e27, ↓e29, h32, q33])
    refine Leave.go _ (Gh.refl _) (hq _ ?_)
    repeat (first | refine chk.ga ?_ | simp -dsimp [h24, z26, ↓e27, ↓e29, h32, q33])
   ·have q33 : (v30 = true) := auq h32
    rw [if_pos q33] at hF
    have w34 : IntKind.i64.wrap ((i : Int) + 1) = (i : Int) + 1 := wrap_in (by omega) (by omega)
    repeat (first | refine chk.ga ?_ | simp -dsimp [h24, z26, ↓e27, ↓e29, h32, q33, w34])
    refine Again.go ⟨[(0, .arr (List.map Vl.Data.c w)), (3, .lit (.int .i64 depth)), (6, .ptr 1 0), (9, .arr (List.map Vl.Ty.c v19)), (10, .lit (.int .i64 ((i + 1) : Int)))], [.dead, .cells [.lit (.int .i64 v.ctor), .lit (.int .i64 v.n), .arr (List.map Vl.Value.c v.kids)]]⟩ (Gh.to3 (by simp) (by first | simp -dsimp [h24, z26, ↓e27, ↓e29, h32, q33, w34]; done | simp_all)) ?_
    exact (ih_spec_l2Fits_l1 v depth v19 (i + 1) o hF) _ rfl _ hq
  ·have q25 : ¬ (i < v19.length) := auq h24
   have z26 : ¬ ((i : Int) < (v19.length : Int)) := auz
   rw [if_neg q25] at hF
   cases hF
   repeat (first | refine chk.ga ?_ | simp -dsimp [h24, q25, z26])
   refine Leave.go ⟨[], []⟩ (Gh.to3 (by simp) (by first | simp -dsimp [h24, q25, z26]; done | simp_all)) ?_
   exact hq

theorem C.spec_l2Fits (B : Nat) (hB1 : 67108864 ≤ B) (hB2 : B ≤ 9223372036854775807) (w : List Vl.Data) (t : Vl.Ty) (v : Vl.Value) (depth : Int) (r : Bool) (hF : F.spec_l2Fits w t v depth = some r) : PureCall Try.prog B 93 [.arr (List.map Vl.Data.c w), .agg [.lit (.int .i64 t.data), .lit (.int .i64 t.index)], .agg [.lit (.int .i64 v.ctor), .lit (.int .i64 v.n), .arr (List.map Vl.Value.c v.kids)], .lit (.int .i64 depth)] (.lit (.bool r)) :=
 (CC.spec_l2Fits B hB1 hB2 w).1 t v depth r hF

theorem C.spec_l2Fits_l1 (B : Nat) (hB1 : 67108864 ≤ B) (hB2 : B ≤ 9223372036854775807) (w : List Vl.Data) (v : Vl.Value) (depth : Int) (v19 : List Vl.Ty) (i : Nat) (o : Lo Bool Unit) (hF : F.spec_l2Fits_l1 w v depth v19 i = some o) : ∀ (c : Code), navO [1, 1, 1, 1, 1, 1, 0, 1, 0, 0] (bodyOf Try.f93) = some c → ∀ (Q : Exit → ASt → Prop), o.post (fun r => ∀ st, Post Try.prog Try.f93 (fun r' _ => r'.le (.lit (.bool r))) .ret st → Q .ret st) (fun s => Q (.exit 0) ⟨[], []⟩) → ALoopU Try.prog B 0 78 (hold c .mk) ⟨[(0, .arr (List.map Vl.Data.c w)), (3, .lit (.int .i64 depth)), (6, .ptr 1 0), (9, .arr (List.map Vl.Ty.c v19)), (10, .lit (.int .i64 (i : Int)))], [.dead, .cells [.lit (.int .i64 v.ctor), .lit (.int .i64 v.n), .arr (List.map Vl.Value.c v.kids)]]⟩ (hold Q .mk) :=
 (CC.spec_l2Fits B hB1 hB2 w).2 v depth v19 i o hF

set_option maxRecDepth 100000 in
set_option maxHeartbeats 4000000 in
theorem CC.spec_l10Fits (B : Nat) (hB1 : 67108864 ≤ B) (hB2 : B ≤ 9223372036854775807) (w : List Vl.Data) : (∀ (t : Vl.Ty) (v : Vl.Value) (depth : Int) (r : Bool), F.spec_l10Fits w t v depth = some r → PureCall Try.prog B 63 [.arr (List.map Vl.Data.c w), .agg [.lit (.int .i64 t.data), .lit (.int .i64 t.index)], .agg [.lit (.int .i64 v.ctor), .lit (.int .i64 v.n), .arr (List.map Vl.Value.c v.kids)], .lit (.int .i64 depth)] (.lit (.bool r))) ∧
  (∀ (v : Vl.Value) (depth : Int) (v19 : List Vl.Ty) (i : Nat) (o : Lo Bool Unit), F.spec_l10Fits_l1 w v depth v19 i = some o → ∀ (c : Code), navO [1, 1, 1, 1, 1, 1, 1, 0, 1, 0, 0] (bodyOf Try.f63) = some c → ∀ (Q : Exit → ASt → Prop), o.post (fun r => ∀ st, Post Try.prog Try.f63 (fun r' _ => r'.le (.lit (.bool r))) .ret st → Q .ret st) (fun s => Q (.exit 0) ⟨[], []⟩) → ALoopU Try.prog B 0 69 (hold c .mk) ⟨[(0, .arr (List.map Vl.Data.c w)), (3, .lit (.int .i64 depth)), (6, .ptr 1 0), (9, .arr (List.map Vl.Ty.c v19)), (10, .lit (.int .i64 (i : Int)))], [.dead, .cells [.lit (.int .i64 v.ctor), .lit (.int .i64 v.n), .arr (List.map Vl.Value.c v.kids)]]⟩ (hold Q .mk)) := by
 refine F.spec_l10Fits.mutual_partial_correctness w
  (fun t v depth r => PureCall Try.prog B 63 [.arr (List.map Vl.Data.c w), .agg [.lit (.int .i64 t.data), .lit (.int .i64 t.index)], .agg [.lit (.int .i64 v.ctor), .lit (.int .i64 v.n), .arr (List.map Vl.Value.c v.kids)], .lit (.int .i64 depth)] (.lit (.bool r)))
  (fun v depth v19 i o => ∀ (c : Code), navO [1, 1, 1, 1, 1, 1, 1, 0, 1, 0, 0] (bodyOf Try.f63) = some c → ∀ (Q : Exit → ASt → Prop), o.post (fun r => ∀ st, Post Try.prog Try.f63 (fun r' _ => r'.le (.lit (.bool r))) .ret st → Q .ret st) (fun s => Q (.exit 0) ⟨[], []⟩) → ALoopU Try.prog B 0 69 (hold c .mk) ⟨[(0, .arr (List.map Vl.Data.c w)), (3, .lit (.int .i64 depth)), (6, .ptr 1 0), (9, .arr (List.map Vl.Ty.c v19)), (10, .lit (.int .i64 (i : Int)))], [.dead, .cells [.lit (.int .i64 v.ctor), .lit (.int .i64 v.n), .arr (List.map Vl.Value.c v.kids)]]⟩ (hold Q .mk))
  ?_ ?_
 ·intro _f_spec_l10Fits_l1 ih_spec_l10Fits_l1 t v depth r hF
  refine PureCall.enterLe Try.func63 (by kernel_rfl) rfl Try.ntmps63 (by simp) (by simp) ?_
  repeat (first | refine chk.ga ?_ | simp -dsimp)
  refine abr.split (fun h1 => ?_) (fun h1 => ?_)
  ·have q2 : (depth < 1) := auq h1
   rw [if_pos q2] at hF
   cases hF
   repeat (first | refine chk.ga ?_ | simp -dsimp [h1])
   all_goals (try omega)
  ·have q2 : ¬ (depth < 1) := auq h1
   rw [if_neg q2] at hF
   repeat (first | refine chk.ga ?_ | simp -dsimp [h1, q2])
   refine abr.split (fun h3 => ?_) (fun h3 => ?_)
   ·have q4 : (v.ctor = (-2)) := auq h3
    rw [if_pos q4] at hF
    repeat (first | refine chk.ga ?_ | simp -dsimp [h1, q2, h3])
    have hF := ob hF; obtain ⟨v5, e6, hF⟩ := hF
    refine ((C.spec_l10Hole B hB1 hB2 v v5 e6)).goW (by first | simp [h1, q2, h3]; done | simp_all) (by simp) ?_
    cases hF
    repeat (first | refine chk.ga ?_ | simp -dsimp [h1, q2, h3])
    all_goals (try omega)
   ·have q4 : ¬ (v.ctor = (-2)) := auq h3
    rw [if_neg q4] at hF
    repeat (first | refine chk.ga ?_ | simp -dsimp [h1, q2, h3, q4])
    refine abr.split (fun h7 => ?_) (fun h7 => ?_)
    ·have q8 : (t.data = (-1)) := auq h7
     rw [if_pos q8] at hF
     repeat (first | refine chk.ga ?_ | simp -dsimp [h1, q2, h3, q4, h7])
     have hF := ob hF; obtain ⟨v9, e10, hF⟩ := hF
     refine ((C.spec_l2Fits B hB1 hB2 w t v depth v9 e10)).goW (by first | simp [h1, q2, h3, q4, h7]; done | simp_all) (by simp) ?_
     cases hF
     repeat (first | refine chk.ga ?_ | simp -dsimp [h1, q2, h3, q4, h7])
     all_goals (try omega)
    ·have q8 : ¬ (t.data = (-1)) := auq h7
     rw [if_neg q8] at hF
     repeat (first | refine chk.ga ?_ | simp -dsimp [h1, q2, h3, q4, h7, q8])
     refine ADraw.simple follows (by kernel_rfl) (by kernel_rfl) ?_
     repeat (first | refine chk.ga ?_ | simp -dsimp [h1, q2, h3, q4, h7, q8])
     refine abr.split (fun h11 => ?_) (fun h11 => ?_)
     ·have q12 : (v.n = 0) := auq h11
      rw [if_pos q12] at hF
      repeat (first | refine chk.ga ?_ | simp -dsimp [h1, q2, h3, q4, h7, q8, h11])
      have hF := ob hF; obtain ⟨v13, e14, hF⟩ := hF
      refine ((C.spec_l1Ctors B hB1 hB2 w t v13 e14)).pgoW (by first | simp [h1, q2, h3, q4, h7, q8, h11]; done | simp_all) (by simp) ?_
      repeat (first | refine chk.ga ?_ | simp -dsimp [h1, q2, h3, q4, h7, q8, h11])
      have hF := ob hF; obtain ⟨v15, e16, hF⟩ := hF
      refine ((C.spec_l1Has B hB1 hB2 v13 v.ctor v15 e16)).pgoW (by first | simp [h1, q2, h3, q4, h7, q8, h11]; done | simp_all) (by simp) ?_
      repeat (first | refine chk.ga ?_ | simp -dsimp [h1, q2, h3, q4, h7, q8, h11])
      refine abr.split (fun h17 => ?_) (fun h17 => ?_)
      ·have q18 : ¬ (v15 = true) := auq h17
       rw [if_neg q18] at hF
       cases hF
       repeat (first | refine chk.ga ?_ | simp -dsimp [h1, q2, h3, q4, h7, q8, h11, h17, q18])
       all_goals (try omega)
      ·have q18 : (v15 = true) := auq h17
       rw [if_pos q18] at hF
       repeat (first | refine chk.ga ?_ | simp -dsimp [h1, q2, h3, q4, h7, q8, h11, h17, q18])
       have hF := ob hF; obtain ⟨v19, e20, hF⟩ := hF
       refine ((C.spec_l1Args B hB1 hB2 w t v.ctor v19 e20)).goW (by first | simp [h1, q2, h3, q4, h7, q8, h11, h17, q18]; done | simp_all) (by simp) ?_
       repeat (first | refine chk.ga ?_ | simp -dsimp [h1, q2, h3, q4, h7, q8, h11, h17, q18])
       refine abr.split (fun h21 => ?_) (fun h21 => ?_)
       ·have q22 : ¬ (v.kids.length = v19.length) := auq h21
        have z23 : ¬ ((v.kids.length : Int) = (v19.length : Int)) := auz
        rw [if_neg q22] at hF
        cases hF
        repeat (first | refine chk.ga ?_ | simp -dsimp [h1, q2, h3, q4, h7, q8, h11, h17, q18, h21, q22, z23])
        all_goals (try omega)
       ·have q22 : (v.kids.length = v19.length) := auq h21
        have z23 : ((v.kids.length : Int) = (v19.length : Int)) := auz
        rw [if_pos q22] at hF
        repeat (first | refine chk.ga ?_ | simp -dsimp [h1, q2, h3, q4, h7, q8, h11, h17, q18, h21, q22, z23])
        have hF := ob hF; obtain ⟨o', ho35, hF⟩ := hF
        refine ALoop.goU ⟨[(0, .arr (List.map Vl.Data.c w)), (3, .lit (.int .i64 depth)), (6, .ptr 1 0), (9, .arr (List.map Vl.Ty.c v19)), (10, .lit (.int .i64 (0 : Int)))], [.dead, .cells [.lit (.int .i64 v.ctor), .lit (.int .i64 v.n), .arr (List.map Vl.Value.c v.kids)]]⟩ (Gh.to3 (by simp) (by first | simp -dsimp [h1, q2, h3, q4, h7, q8, h11, h17, q18, h21, q22, z23]; done | simp_all)) ?_
        refine (ih_spec_l10Fits_l1 v depth v19 0 o' ho35) _ rfl _ ?_
        rcases o' with r0 | sx
        ·dsimp only at hF
         cases hF
         intro st h
         simpa using h
        ·dsimp only at hF
         cases hF
         repeat (first | refine chk.ga ?_ | simp -dsimp)
         all_goals (try omega)
     ·have q12 : ¬ (v.n = 0) := auq h11
      rw [if_neg q12] at hF
      cases hF
      repeat (first | refine chk.ga ?_ | simp -dsimp [h1, q2, h3, q4, h7, q8, h11, q12])
      all_goals (try omega)
 ·intro _f_spec_l10Fits _f_spec_l10Fits_l1 ih_spec_l10Fits ih_spec_l10Fits_l1 v depth v19 i o hF
  intro c hc Q hq
  obtain rfl : c = _ := navEq hc rfl
  refine ALoopU.know fun hk hs => ?_
  have b0 := hk 0
  simp -dsimp at b0
  have b9 := hk 9
  simp -dsimp at b9
  have d1 := hs 1 _ rfl
  simp -dsimp [Blk.bnd] at d1
  clear hk hs
  refine ALoopU.enter ?_
  repeat (first | refine chk.ga ?_ | simp -dsimp)
  refine abr.split (fun h24 => ?_) (fun h24 => ?_)
  ·have q25 : (i < v19.length) := auq h24
   have z26 : ((i : Int) < (v19.length : Int)) := auz
   rw [if_pos q25] at hF
   repeat (first | refine chk.ga ?_ | simp -dsimp [h24, z26])
   refine ADraw.simple follows (by kernel_rfl) (by kernel_rfl) ?_
   have hF := ob hF; obtain ⟨x, e27, hF⟩ := hF
   have le27 := lt_of_get e27
   have hF := ob hF; obtain ⟨x28, e29, hF⟩ := hF
   have le29 := lt_of_get e29
   repeat (first | refine chk.ga ?_ | simp -dsimp [h24, z26, ↓e27, ↓e29])
   have hF := ob hF; obtain ⟨v30, e31, hF⟩ := hF
   refine ((ih_spec_l10Fits x x28 (IntKind.i64.wrap (depth - 1)) v30 e31)).pgoW (by first | simp [h24, z26, ↓e27, ↓e29]; done | simp_all) (by simp) ?_
   repeat (first | refine chk.ga ?_ | simp -dsimp [h24, z26, ↓e27, ↓e29])
   refine abr.split (fun h32 => ?_) (fun h32 => ?_)
   ·have q33 : ¬ (v30 = true) := auq h32
    rw [if_neg q33] at hF
    cases hF
    repeat (first | refine chk.ga ?_ | simp -dsimp [h24, z26, ↓e27, ↓e29, h32, q33])
    refine Leave.go _ (Gh.refl _) (hq _ ?_)
    repeat (first | refine chk.ga ?_ | simp -dsimp [h24, z26, ↓e27, ↓e29, h32, q33])
   ·have q33 : (v30 = true) := auq h32
    rw [if_pos q33] at hF
    have w34 : IntKind.i64.wrap ((i : Int) + 1) = (i : Int) + 1 := wrap_in (by omega) (by omega)
    repeat (first | refine chk.ga ?_ | simp -dsimp [h24, z26, ↓e27, ↓e29, h32, q33, w34])
    refine Again.go ⟨[(0, .arr (List.map Vl.Data.c w)), (3, .lit (.int .i64 depth)), (6, .ptr 1 0), (9, .arr (List.map Vl.Ty.c v19)), (10, .lit (.int .i64 ((i + 1) : Int)))], [.dead, .cells [.lit (.int .i64 v.ctor), .lit (.int .i64 v.n), .arr (List.map Vl.Value.c v.kids)]]⟩ (Gh.to3 (by simp) (by first | simp -dsimp [h24, z26, ↓e27, ↓e29, h32, q33, w34]; done | simp_all)) ?_
    exact (ih_spec_l10Fits_l1 v depth v19 (i + 1) o hF) _ rfl _ hq
  ·have q25 : ¬ (i < v19.length) := auq h24
   have z26 : ¬ ((i : Int) < (v19.length : Int)) := auz
   rw [if_neg q25] at hF
   cases hF
   repeat (first | refine chk.ga ?_ | simp -dsimp [h24, q25, z26])
   refine Leave.go ⟨[], []⟩ (Gh.to3 (by simp) (by first | simp -dsimp [h24, q25, z26]; done | simp_all)) ?_
   exact hq

theorem C.spec_l10Fits (B : Nat) (hB1 : 67108864 ≤ B) (hB2 : B ≤ 9223372036854775807) (w : List Vl.Data) (t : Vl.Ty) (v : Vl.Value) (depth : Int) (r : Bool) (hF : F.spec_l10Fits w t v depth = some r) : PureCall Try.prog B 63 [.arr (List.map Vl.Data.c w), .agg [.lit (.int .i64 t.data), .lit (.int .i64 t.index)], .agg [.lit (.int .i64 v.ctor), .lit (.int .i64 v.n), .arr (List.map Vl.Value.c v.kids)], .lit (.int .i64 depth)] (.lit (.bool r)) :=
 (CC.spec_l10Fits B hB1 hB2 w).1 t v depth r hF

theorem C.spec_l10Fits_l1 (B : Nat) (hB1 : 67108864 ≤ B) (hB2 : B ≤ 9223372036854775807) (w : List Vl.Data) (v : Vl.Value) (depth : Int) (v19 : List Vl.Ty) (i : Nat) (o : Lo Bool Unit) (hF : F.spec_l10Fits_l1 w v depth v19 i = some o) : ∀ (c : Code), navO [1, 1, 1, 1, 1, 1, 1, 0, 1, 0, 0] (bodyOf Try.f63) = some c → ∀ (Q : Exit → ASt → Prop), o.post (fun r => ∀ st, Post Try.prog Try.f63 (fun r' _ => r'.le (.lit (.bool r))) .ret st → Q .ret st) (fun s => Q (.exit 0) ⟨[], []⟩) → ALoopU Try.prog B 0 69 (hold c .mk) ⟨[(0, .arr (List.map Vl.Data.c w)), (3, .lit (.int .i64 depth)), (6, .ptr 1 0), (9, .arr (List.map Vl.Ty.c v19)), (10, .lit (.int .i64 (i : Int)))], [.dead, .cells [.lit (.int .i64 v.ctor), .lit (.int .i64 v.n), .arr (List.map Vl.Value.c v.kids)]]⟩ (hold Q .mk) :=
 (CC.spec_l10Fits B hB1 hB2 w).2 v depth v19 i o hF

set_option maxRecDepth 100000 in
set_option maxHeartbeats 4000000 in
theorem CC.spec_l2Count (B : Nat) (hB1 : 67108864 ≤ B) (hB2 : B ≤ 9223372036854775807)  : (∀ (v : Vl.Value) (most : Int) (r : Int), F.spec_l2Count v most = some r → PureCall Try.prog B 64 [.agg [.lit (.int .i64 v.ctor), .lit (.int .i64 v.n), .arr (List.map Vl.Value.c v.kids)], .lit (.int .i64 most)] (.lit (.int .i64 r))) ∧
  (∀ (v : Vl.Value) (most : Int) (n : Int) (i : Nat) (o : Int), F.spec_l2Count_l1 v most n i = some o → ∀ (c : Code), navO [1, 1, 0, 1, 0, 0] (bodyOf Try.f64) = some c → ∀ (Q : Exit → ASt → Prop), Q (.exit 0) ⟨[(5, .lit (.int .i64 o))], []⟩ → ALoopU Try.prog B 0 31 (hold c .mk) ⟨[(1, .lit (.int .i64 most)), (2, .ptr 0 0), (5, .lit (.int .i64 n)), (6, .lit (.int .i64 (i : Int)))], [.cells [.lit (.int .i64 v.ctor), .lit (.int .i64 v.n), .arr (List.map Vl.Value.c v.kids)]]⟩ (hold Q .mk)) := by
 refine F.spec_l2Count.mutual_partial_correctness 
  (fun v most r => PureCall Try.prog B 64 [.agg [.lit (.int .i64 v.ctor), .lit (.int .i64 v.n), .arr (List.map Vl.Value.c v.kids)], .lit (.int .i64 most)] (.lit (.int .i64 r)))
  (fun v most n i o => ∀ (c : Code), navO [1, 1, 0, 1, 0, 0] (bodyOf Try.f64) = some c → ∀ (Q : Exit → ASt → Prop), Q (.exit 0) ⟨[(5, .lit (.int .i64 o))], []⟩ → ALoopU Try.prog B 0 31 (hold c .mk) ⟨[(1, .lit (.int .i64 most)), (2, .ptr 0 0), (5, .lit (.int .i64 n)), (6, .lit (.int .i64 (i : Int)))], [.cells [.lit (.int .i64 v.ctor), .lit (.int .i64 v.n), .arr (List.map Vl.Value.c v.kids)]]⟩ (hold Q .mk))
  ?_ ?_
 ·intro _f_spec_l2Count_l1 ih_spec_l2Count_l1 v most r hF
  refine PureCall.enterLe Try.func64 (by kernel_rfl) rfl Try.ntmps64 (by simp) (by simp) ?_
  repeat (first | refine chk.ga ?_ | simp -dsimp)
  have hF := ob hF; obtain ⟨o', ho10, hF⟩ := hF
  refine ALoop.goU ⟨[(1, .lit (.int .i64 most)), (2, .ptr 0 0), (5, .lit (.int .i64 (1 : Int))), (6, .lit (.int .i64 (0 : Int)))], [.cells [.lit (.int .i64 v.ctor), .lit (.int .i64 v.n), .arr (List.map Vl.Value.c v.kids)]]⟩ (Gh.to3 (by simp) (by simp -dsimp)) ?_
  refine (ih_spec_l2Count_l1 v most (1 : Int) 0 o' ho10) _ rfl _ ?_
  cases hF
  repeat (first | refine chk.ga ?_ | simp -dsimp)
  all_goals (try omega)
 ·intro _f_spec_l2Count _f_spec_l2Count_l1 ih_spec_l2Count ih_spec_l2Count_l1 v most n i o hF
  intro c hc Q hq
  obtain rfl : c = _ := navEq hc rfl
  refine ALoopU.know fun hk hs => ?_
  have d0 := hs 0 _ rfl
  simp -dsimp [Blk.bnd] at d0
  clear hk hs
  refine ALoopU.enter ?_
  repeat (first | refine chk.ga ?_ | simp -dsimp)
  refine abr.split (fun h1 => ?_) (fun h1 => ?_)
  ·have q2 : (i < v.kids.length) := auq h1
   have z3 : ((i : Int) < (v.kids.length : Int)) := auz
   rw [if_pos q2] at hF
   repeat (first | refine chk.ga ?_ | simp -dsimp [h1, z3])
   refine abr.split (fun h4 => ?_) (fun h4 => ?_)
   ·have q5 : (n ≤ most) := auq h4
    rw [if_pos q5] at hF
    have hF := ob hF; obtain ⟨x, e6, hF⟩ := hF
    have le6 := lt_of_get e6
    repeat (first | refine chk.ga ?_ | simp -dsimp [h1, z3, h4, ↓e6])
    have hF := ob hF; obtain ⟨v7, e8, hF⟩ := hF
    refine ((ih_spec_l2Count x (IntKind.i64.wrap (most - n)) v7 e8)).goW (by first | simp [h1, z3, h4, ↓e6]; done | simp_all) (by simp) ?_
    have w9 : IntKind.i64.wrap ((i : Int) + 1) = (i : Int) + 1 := wrap_in (by omega) (by omega)
    repeat (first | refine chk.ga ?_ | simp -dsimp [h1, z3, h4, ↓e6, w9])
    refine Again.go ⟨[(1, .lit (.int .i64 most)), (2, .ptr 0 0), (5, .lit (.int .i64 (IntKind.i64.wrap (n + v7)))), (6, .lit (.int .i64 ((i + 1) : Int)))], [.cells [.lit (.int .i64 v.ctor), .lit (.int .i64 v.n), .arr (List.map Vl.Value.c v.kids)]]⟩ (Gh.to3 (by simp) (by first | simp -dsimp [h1, z3, h4, ↓e6, w9]; done | simp_all)) ?_
    exact (ih_spec_l2Count_l1 v most (IntKind.i64.wrap (n + v7)) (i + 1) o hF) _ rfl _ hq
   ·have q5 : ¬ (n ≤ most) := auq h4
    rw [if_neg q5] at hF
    cases hF
    repeat (first | refine chk.ga ?_ | simp -dsimp [h1, z3, h4, q5])
    refine Leave.go ⟨[(5, .lit (.int .i64 n))], []⟩ (Gh.to3 (by simp) (by first | simp -dsimp [h1, z3, h4, q5]; done | simp_all)) ?_
    exact hq
  ·have q2 : ¬ (i < v.kids.length) := auq h1
   have z3 : ¬ ((i : Int) < (v.kids.length : Int)) := auz
   rw [if_neg q2] at hF
   cases hF
   repeat (first | refine chk.ga ?_ | simp -dsimp [h1, q2, z3])
   refine Leave.go ⟨[(5, .lit (.int .i64 n))], []⟩ (Gh.to3 (by simp) (by first | simp -dsimp [h1, q2, z3]; done | simp_all)) ?_
   exact hq

theorem C.spec_l2Count (B : Nat) (hB1 : 67108864 ≤ B) (hB2 : B ≤ 9223372036854775807) (v : Vl.Value) (most : Int) (r : Int) (hF : F.spec_l2Count v most = some r) : PureCall Try.prog B 64 [.agg [.lit (.int .i64 v.ctor), .lit (.int .i64 v.n), .arr (List.map Vl.Value.c v.kids)], .lit (.int .i64 most)] (.lit (.int .i64 r)) :=
 (CC.spec_l2Count B hB1 hB2 ).1 v most r hF

theorem C.spec_l2Count_l1 (B : Nat) (hB1 : 67108864 ≤ B) (hB2 : B ≤ 9223372036854775807) (v : Vl.Value) (most : Int) (n : Int) (i : Nat) (o : Int) (hF : F.spec_l2Count_l1 v most n i = some o) : ∀ (c : Code), navO [1, 1, 0, 1, 0, 0] (bodyOf Try.f64) = some c → ∀ (Q : Exit → ASt → Prop), Q (.exit 0) ⟨[(5, .lit (.int .i64 o))], []⟩ → ALoopU Try.prog B 0 31 (hold c .mk) ⟨[(1, .lit (.int .i64 most)), (2, .ptr 0 0), (5, .lit (.int .i64 n)), (6, .lit (.int .i64 (i : Int)))], [.cells [.lit (.int .i64 v.ctor), .lit (.int .i64 v.n), .arr (List.map Vl.Value.c v.kids)]]⟩ (hold Q .mk) :=
 (CC.spec_l2Count B hB1 hB2 ).2 v most n i o hF

set_option maxRecDepth 100000 in
set_option maxHeartbeats 4000000 in
theorem C.spec_l10Is (B : Nat) (hB1 : 67108864 ≤ B) (hB2 : B ≤ 9223372036854775807) (w : List Vl.Data) (t : Vl.Ty) (v : Vl.Value) (r : Bool) (hF : F.spec_l10Is w t v = some r) : PureCall Try.prog B 36 [.arr (List.map Vl.Data.c w), .agg [.lit (.int .i64 t.data), .lit (.int .i64 t.index)], .agg [.lit (.int .i64 v.ctor), .lit (.int .i64 v.n), .arr (List.map Vl.Value.c v.kids)]] (.lit (.bool r)) := by
 unfold F.spec_l10Is at hF
 refine PureCall.enterLe Try.func36 (by kernel_rfl) rfl Try.ntmps36 (by simp) (by simp) ?_
 repeat (first | refine chk.ga ?_ | simp -dsimp)
 have hF := ob hF; obtain ⟨v1, e2, hF⟩ := hF
 refine ((C.spec_l10Fits B hB1 hB2 w t v (10 : Int) v1 e2)).goW (by simp) (by simp) ?_
 repeat (first | refine chk.ga ?_ | simp -dsimp)
 refine abr.split (fun h3 => ?_) (fun h3 => ?_)
 ·have q4 : (v1 = true) := auq h3
  rw [if_pos q4] at hF
  repeat (first | refine chk.ga ?_ | simp -dsimp [h3])
  have hF := ob hF; obtain ⟨v5, e6, hF⟩ := hF
  refine ((C.spec_l2Count B hB1 hB2 v (60 : Int) v5 e6)).goW (by first | simp [h3]; done | simp_all) (by simp) ?_
  cases hF
  repeat (first | refine chk.ga ?_ | simp -dsimp [h3])
  all_goals (try omega)
 ·have q4 : ¬ (v1 = true) := auq h3
  rw [if_neg q4] at hF
  cases hF
  repeat (first | refine chk.ga ?_ | simp -dsimp [h3, q4])
  all_goals (try omega)

set_option maxRecDepth 100000 in
set_option maxHeartbeats 4000000 in
theorem C.spec_PartialValid (B : Nat) (hB1 : 67108864 ≤ B) (hB2 : B ≤ 9223372036854775807) (w : List Vl.Data) (t : Vl.Ty) (v : Vl.Value) (r : Bool) (hF : F.spec_PartialValid w t v = some r) : PureCall Try.prog B 15 [.arr (List.map Vl.Data.c w), .agg [.lit (.int .i64 t.data), .lit (.int .i64 t.index)], .agg [.lit (.int .i64 v.ctor), .lit (.int .i64 v.n), .arr (List.map Vl.Value.c v.kids)]] (.lit (.bool r)) := by
 unfold F.spec_PartialValid at hF
 refine PureCall.enterLe Try.func15 (by kernel_rfl) rfl Try.ntmps15 (by simp) (by simp) ?_
 repeat (first | refine chk.ga ?_ | simp -dsimp)
 have hF := ob hF; obtain ⟨v1, e2, hF⟩ := hF
 refine ((C.spec_TypeValid B hB1 hB2 w t v1 e2)).goW (by simp) (by simp) ?_
 repeat (first | refine chk.ga ?_ | simp -dsimp)
 refine abr.split (fun h3 => ?_) (fun h3 => ?_)
 ·have q4 : (v1 = true) := auq h3
  rw [if_pos q4] at hF
  repeat (first | refine chk.ga ?_ | simp -dsimp [h3])
  have hF := ob hF; obtain ⟨v5, e6, hF⟩ := hF
  refine ((C.spec_l10Is B hB1 hB2 w t v v5 e6)).goW (by first | simp [h3]; done | simp_all) (by simp) ?_
  cases hF
  repeat (first | refine chk.ga ?_ | simp -dsimp [h3])
  all_goals (try omega)
 ·have q4 : ¬ (v1 = true) := auq h3
  rw [if_neg q4] at hF
  cases hF
  repeat (first | refine chk.ga ?_ | simp -dsimp [h3, q4])
  all_goals (try omega)

set_option maxRecDepth 100000 in
set_option maxHeartbeats 4000000 in
theorem CC.spec_l7SamePath_l1 (B : Nat) (hB1 : 67108864 ≤ B) (hB2 : B ≤ 9223372036854775807) (a : List Int) (b : List Int) : (∀ (i : Nat) (o : Lo Bool Unit), F.spec_l7SamePath_l1 a b i = some o → ∀ (c : Code), navO [1, 1, 0, 1, 0, 0] (bodyOf Try.f98) = some c → ∀ (Q : Exit → ASt → Prop), o.post (fun r => ∀ st, Post Try.prog Try.f98 (fun r' _ => r'.le (.lit (.bool r))) .ret st → Q .ret st) (fun s => Q (.exit 0) ⟨[], []⟩) → ALoopU Try.prog B 0 26 (hold c .mk) ⟨[(0, .arr (List.map cI a)), (1, .arr (List.map cI b)), (5, .lit (.int .i64 (i : Int)))], []⟩ (hold Q .mk)) := by
 refine F.spec_l7SamePath_l1.partial_correctness a b
  (fun i o => ∀ (c : Code), navO [1, 1, 0, 1, 0, 0] (bodyOf Try.f98) = some c → ∀ (Q : Exit → ASt → Prop), o.post (fun r => ∀ st, Post Try.prog Try.f98 (fun r' _ => r'.le (.lit (.bool r))) .ret st → Q .ret st) (fun s => Q (.exit 0) ⟨[], []⟩) → ALoopU Try.prog B 0 26 (hold c .mk) ⟨[(0, .arr (List.map cI a)), (1, .arr (List.map cI b)), (5, .lit (.int .i64 (i : Int)))], []⟩ (hold Q .mk))
  ?_
 ·intro _f_spec_l7SamePath_l1 ih_spec_l7SamePath_l1 i o hF
  intro c hc Q hq
  obtain rfl : c = _ := navEq hc rfl
  refine ALoopU.know fun hk hs => ?_
  have b0 := hk 0
  simp -dsimp at b0
  have b1 := hk 1
  simp -dsimp at b1
  clear hk hs
  refine ALoopU.enter ?_
  repeat (first | refine chk.ga ?_ | simp -dsimp)
  refine abr.split (fun h4 => ?_) (fun h4 => ?_)
  ·have q5 : (i < a.length) := auq h4
   have z6 : ((i : Int) < (a.length : Int)) := auz
   rw [if_pos q5] at hF
   repeat (first | refine chk.ga ?_ | simp -dsimp [h4, z6])
   refine ADraw.simple follows (by kernel_rfl) (by kernel_rfl) ?_
   have hF := ob hF; obtain ⟨x, e7, hF⟩ := hF
   have le7 := lt_of_get e7
   have hF := ob hF; obtain ⟨x8, e9, hF⟩ := hF
   have le9 := lt_of_get e9
   repeat (first | refine chk.ga ?_ | simp -dsimp [h4, z6, ↓e7, ↓e9])
   refine abr.split (fun h10 => ?_) (fun h10 => ?_)
   ·have q11 : ¬ (x = x8) := auq h10
    rw [if_neg q11] at hF
    cases hF
    repeat (first | refine chk.ga ?_ | simp -dsimp [h4, z6, ↓e7, ↓e9, h10, q11])
    refine Leave.go _ (Gh.refl _) (hq _ ?_)
    repeat (first | refine chk.ga ?_ | simp -dsimp [h4, z6, ↓e7, ↓e9, h10, q11])
   ·have q11 : (x = x8) := auq h10
    rw [if_pos q11] at hF
    have w12 : IntKind.i64.wrap ((i : Int) + 1) = (i : Int) + 1 := wrap_in (by omega) (by omega)
    repeat (first | refine chk.ga ?_ | simp -dsimp [h4, z6, ↓e7, ↓e9, h10, q11, w12])
    refine Again.go ⟨[(0, .arr (List.map cI a)), (1, .arr (List.map cI b)), (5, .lit (.int .i64 ((i + 1) : Int)))], []⟩ (Gh.to3 (by simp) (by first | simp -dsimp [h4, z6, ↓e7, ↓e9, h10, q11, w12]; done | simp_all)) ?_
    exact (ih_spec_l7SamePath_l1 (i + 1) o hF) _ rfl _ hq
  ·have q5 : ¬ (i < a.length) := auq h4
   have z6 : ¬ ((i : Int) < (a.length : Int)) := auz
   rw [if_neg q5] at hF
   cases hF
   repeat (first | refine chk.ga ?_ | simp -dsimp [h4, q5, z6])
   refine Leave.go ⟨[], []⟩ (Gh.to3 (by simp) (by first | simp -dsimp [h4, q5, z6]; done | simp_all)) ?_
   exact hq

theorem C.spec_l7SamePath_l1 (B : Nat) (hB1 : 67108864 ≤ B) (hB2 : B ≤ 9223372036854775807) (a : List Int) (b : List Int) (i : Nat) (o : Lo Bool Unit) (hF : F.spec_l7SamePath_l1 a b i = some o) : ∀ (c : Code), navO [1, 1, 0, 1, 0, 0] (bodyOf Try.f98) = some c → ∀ (Q : Exit → ASt → Prop), o.post (fun r => ∀ st, Post Try.prog Try.f98 (fun r' _ => r'.le (.lit (.bool r))) .ret st → Q .ret st) (fun s => Q (.exit 0) ⟨[], []⟩) → ALoopU Try.prog B 0 26 (hold c .mk) ⟨[(0, .arr (List.map cI a)), (1, .arr (List.map cI b)), (5, .lit (.int .i64 (i : Int)))], []⟩ (hold Q .mk) :=
 (CC.spec_l7SamePath_l1 B hB1 hB2 a b) i o hF

set_option maxRecDepth 100000 in
set_option maxHeartbeats 4000000 in
theorem C.spec_l7SamePath (B : Nat) (hB1 : 67108864 ≤ B) (hB2 : B ≤ 9223372036854775807) (a : List Int) (b : List Int) (r : Bool) (hF : F.spec_l7SamePath a b = some r) : PureCall Try.prog B 98 [.arr (List.map cI a), .arr (List.map cI b)] (.lit (.bool r)) := by
 unfold F.spec_l7SamePath at hF
 refine PureCall.enterLe Try.func98 (by kernel_rfl) rfl Try.ntmps98 (by simp) (by simp) ?_
 repeat (first | refine chk.ga ?_ | simp -dsimp)
 refine abr.split (fun h1 => ?_) (fun h1 => ?_)
 ·have q2 : ¬ (a.length = b.length) := auq h1
  have z3 : ¬ ((a.length : Int) = (b.length : Int)) := auz
  rw [if_neg q2] at hF
  cases hF
  repeat (first | refine chk.ga ?_ | simp -dsimp [h1, q2, z3])
  all_goals (try omega)
 ·have q2 : (a.length = b.length) := auq h1
  have z3 : ((a.length : Int) = (b.length : Int)) := auz
  rw [if_pos q2] at hF
  repeat (first | refine chk.ga ?_ | simp -dsimp [h1, q2, z3])
  have hF := ob hF; obtain ⟨o', ho13, hF⟩ := hF
  refine ALoop.goU ⟨[(0, .arr (List.map cI a)), (1, .arr (List.map cI b)), (5, .lit (.int .i64 (0 : Int)))], []⟩ (Gh.to3 (by simp) (by first | simp -dsimp [h1, q2, z3]; done | simp_all)) ?_
  refine (C.spec_l7SamePath_l1 B hB1 hB2 a b 0 o' ho13) _ rfl _ ?_
  rcases o' with r0 | sx
  ·dsimp only at hF
   cases hF
   intro st h
   simpa using h
  ·dsimp only at hF
   cases hF
   repeat (first | refine chk.ga ?_ | simp -dsimp)
   all_goals (try omega)

set_option maxRecDepth 100000 in
set_option maxHeartbeats 4000000 in
theorem CC.spec_l10Path_l1 (B : Nat) (hB1 : 67108864 ≤ B) (hB2 : B ≤ 9223372036854775807) (list : List (List Int)) (path : List Int) : (∀ (i : Nat) (o : Lo Bool Unit), F.spec_l10Path_l1 list path i = some o → ∀ (c : Code), navO [1, 0, 1, 0, 0] (bodyOf Try.f69) = some c → ∀ (Q : Exit → ASt → Prop), o.post (fun r => ∀ st, Post Try.prog Try.f69 (fun r' _ => r'.le (.lit (.bool r))) .ret st → Q .ret st) (fun s => Q (.exit 0) ⟨[], []⟩) → ALoopU Try.prog B 0 18 (hold c .mk) ⟨[(0, .arr (List.map (cL cI) list)), (1, .arr (List.map cI path)), (5, .lit (.int .i64 (i : Int)))], []⟩ (hold Q .mk)) := by
 refine F.spec_l10Path_l1.partial_correctness list path
  (fun i o => ∀ (c : Code), navO [1, 0, 1, 0, 0] (bodyOf Try.f69) = some c → ∀ (Q : Exit → ASt → Prop), o.post (fun r => ∀ st, Post Try.prog Try.f69 (fun r' _ => r'.le (.lit (.bool r))) .ret st → Q .ret st) (fun s => Q (.exit 0) ⟨[], []⟩) → ALoopU Try.prog B 0 18 (hold c .mk) ⟨[(0, .arr (List.map (cL cI) list)), (1, .arr (List.map cI path)), (5, .lit (.int .i64 (i : Int)))], []⟩ (hold Q .mk))
  ?_
 ·intro _f_spec_l10Path_l1 ih_spec_l10Path_l1 i o hF
  intro c hc Q hq
  obtain rfl : c = _ := navEq hc rfl
  refine ALoopU.know fun hk hs => ?_
  have b0 := hk 0
  simp -dsimp at b0
  have b1 := hk 1
  simp -dsimp at b1
  clear hk hs
  refine ALoopU.enter ?_
  repeat (first | refine chk.ga ?_ | simp -dsimp)
  refine abr.split (fun h1 => ?_) (fun h1 => ?_)
  ·have q2 : (i < list.length) := auq h1
   have z3 : ((i : Int) < (list.length : Int)) := auz
   rw [if_pos q2] at hF
   have hF := ob hF; obtain ⟨x, e4, hF⟩ := hF
   have le4 := lt_of_get e4
   repeat (first | refine chk.ga ?_ | simp -dsimp [h1, z3, ↓e4])
   have hF := ob hF; obtain ⟨v, e5, hF⟩ := hF
   refine ((C.spec_l7SamePath B hB1 hB2 x path v e5)).goW (by first | simp [h1, z3, ↓e4]; done | simp_all) (by simp) ?_
   repeat (first | refine chk.ga ?_ | simp -dsimp [h1, z3, ↓e4])
   refine abr.split (fun h6 => ?_) (fun h6 => ?_)
   ·have q7 : (v = true) := auq h6
    rw [if_pos q7] at hF
    cases hF
    repeat (first | refine chk.ga ?_ | simp -dsimp [h1, z3, ↓e4, h6])
    refine Leave.go _ (Gh.refl _) (hq _ ?_)
    repeat (first | refine chk.ga ?_ | simp -dsimp [h1, z3, ↓e4, h6])
   ·have q7 : ¬ (v = true) := auq h6
    rw [if_neg q7] at hF
    have w8 : IntKind.i64.wrap ((i : Int) + 1) = (i : Int) + 1 := wrap_in (by omega) (by omega)
    repeat (first | refine chk.ga ?_ | simp -dsimp [h1, z3, ↓e4, h6, q7, w8])
    refine Again.go ⟨[(0, .arr (List.map (cL cI) list)), (1, .arr (List.map cI path)), (5, .lit (.int .i64 ((i + 1) : Int)))], []⟩ (Gh.to3 (by simp) (by first | simp -dsimp [h1, z3, ↓e4, h6, q7, w8]; done | simp_all)) ?_
    exact (ih_spec_l10Path_l1 (i + 1) o hF) _ rfl _ hq
  ·have q2 : ¬ (i < list.length) := auq h1
   have z3 : ¬ ((i : Int) < (list.length : Int)) := auz
   rw [if_neg q2] at hF
   cases hF
   repeat (first | refine chk.ga ?_ | simp -dsimp [h1, q2, z3])
   refine Leave.go ⟨[], []⟩ (Gh.to3 (by simp) (by first | simp -dsimp [h1, q2, z3]; done | simp_all)) ?_
   exact hq

theorem C.spec_l10Path_l1 (B : Nat) (hB1 : 67108864 ≤ B) (hB2 : B ≤ 9223372036854775807) (list : List (List Int)) (path : List Int) (i : Nat) (o : Lo Bool Unit) (hF : F.spec_l10Path_l1 list path i = some o) : ∀ (c : Code), navO [1, 0, 1, 0, 0] (bodyOf Try.f69) = some c → ∀ (Q : Exit → ASt → Prop), o.post (fun r => ∀ st, Post Try.prog Try.f69 (fun r' _ => r'.le (.lit (.bool r))) .ret st → Q .ret st) (fun s => Q (.exit 0) ⟨[], []⟩) → ALoopU Try.prog B 0 18 (hold c .mk) ⟨[(0, .arr (List.map (cL cI) list)), (1, .arr (List.map cI path)), (5, .lit (.int .i64 (i : Int)))], []⟩ (hold Q .mk) :=
 (CC.spec_l10Path_l1 B hB1 hB2 list path) i o hF

set_option maxRecDepth 100000 in
set_option maxHeartbeats 4000000 in
theorem C.spec_l10Path (B : Nat) (hB1 : 67108864 ≤ B) (hB2 : B ≤ 9223372036854775807) (list : List (List Int)) (path : List Int) (r : Bool) (hF : F.spec_l10Path list path = some r) : PureCall Try.prog B 69 [.arr (List.map (cL cI) list), .arr (List.map cI path)] (.lit (.bool r)) := by
 unfold F.spec_l10Path at hF
 refine PureCall.enterLe Try.func69 (by kernel_rfl) rfl Try.ntmps69 (by simp) (by simp) ?_
 repeat (first | refine chk.ga ?_ | simp -dsimp)
 have hF := ob hF; obtain ⟨o', ho9, hF⟩ := hF
 refine ALoop.goU ⟨[(0, .arr (List.map (cL cI) list)), (1, .arr (List.map cI path)), (5, .lit (.int .i64 (0 : Int)))], []⟩ (Gh.to3 (by simp) (by simp -dsimp)) ?_
 refine (C.spec_l10Path_l1 B hB1 hB2 list path 0 o' ho9) _ rfl _ ?_
 rcases o' with r0 | sx
 ·dsimp only at hF
  cases hF
  intro st h
  simpa using h
 ·dsimp only at hF
  cases hF
  repeat (first | refine chk.ga ?_ | simp -dsimp)
  all_goals (try omega)

set_option maxRecDepth 100000 in
set_option maxHeartbeats 4000000 in
theorem CC.spec_l10Mask (B : Nat) (hB1 : 67108864 ≤ B) (hB2 : B ≤ 9223372036854775807) (paths : List (List Int)) : (∀ (v : Vl.Value) (path : List Int) (r : Vl.Value), F.spec_l10Mask v paths path = some r → PureCall Try.prog B 41 [.agg [.lit (.int .i64 v.ctor), .lit (.int .i64 v.n), .arr (List.map Vl.Value.c v.kids)], .arr (List.map (cL cI) paths), .arr (List.map cI path)] (.agg [.lit (.int .i64 r.ctor), .lit (.int .i64 r.n), .arr (List.map Vl.Value.c r.kids)])) ∧
  (∀ (v : Vl.Value) (path : List Int) (out : List Vl.Value) (i : Nat) (o : List Vl.Value), F.spec_l10Mask_l1 v paths path out i = some o → ∀ (c : Code), navO [1, 1, 1, 0, 1, 0, 0] (bodyOf Try.f41) = some c → ∀ (Q : Exit → ASt → Prop), Q (.exit 0) ⟨[(6, .ptr 1 0), (7, .ptr 2 0)], [.dead, .cells [.lit (.int .i64 0), .lit (.int .i64 0), .lit (.slice none 0 0)], .cells [.lit (.int .i64 v.ctor), .lit (.int .i64 v.n), .own 3 (List.length (α := Vl.Value) o)], .elems 3 (List.map Vl.Value.c o)]⟩ → ALoopU Try.prog B 0 42 (hold c .mk) ⟨[(1, .arr (List.map (cL cI) paths)), (2, .arr (List.map cI path)), (3, .ptr 0 0), (6, .ptr 1 0), (7, .ptr 2 0), (8, .lit (.int .i64 (i : Int)))], [.cells [.lit (.int .i64 v.ctor), .lit (.int .i64 v.n), .arr (List.map Vl.Value.c v.kids)], .cells [.lit (.int .i64 0), .lit (.int .i64 0), .lit (.slice none 0 0)], .cells [.lit (.int .i64 v.ctor), .lit (.int .i64 v.n), .own 3 (List.length (α := Vl.Value) out)], .elems 3 (List.map Vl.Value.c out)]⟩ (hold Q .mk)) := by
 refine F.spec_l10Mask.mutual_partial_correctness paths
  (fun v path r => PureCall Try.prog B 41 [.agg [.lit (.int .i64 v.ctor), .lit (.int .i64 v.n), .arr (List.map Vl.Value.c v.kids)], .arr (List.map (cL cI) paths), .arr (List.map cI path)] (.agg [.lit (.int .i64 r.ctor), .lit (.int .i64 r.n), .arr (List.map Vl.Value.c r.kids)]))
  (fun v path out i o => ∀ (c : Code), navO [1, 1, 1, 0, 1, 0, 0] (bodyOf Try.f41) = some c → ∀ (Q : Exit → ASt → Prop), Q (.exit 0) ⟨[(6, .ptr 1 0), (7, .ptr 2 0)], [.dead, .cells [.lit (.int .i64 0), .lit (.int .i64 0), .lit (.slice none 0 0)], .cells [.lit (.int .i64 v.ctor), .lit (.int .i64 v.n), .own 3 (List.length (α := Vl.Value) o)], .elems 3 (List.map Vl.Value.c o)]⟩ → ALoopU Try.prog B 0 42 (hold c .mk) ⟨[(1, .arr (List.map (cL cI) paths)), (2, .arr (List.map cI path)), (3, .ptr 0 0), (6, .ptr 1 0), (7, .ptr 2 0), (8, .lit (.int .i64 (i : Int)))], [.cells [.lit (.int .i64 v.ctor), .lit (.int .i64 v.n), .arr (List.map Vl.Value.c v.kids)], .cells [.lit (.int .i64 0), .lit (.int .i64 0), .lit (.slice none 0 0)], .cells [.lit (.int .i64 v.ctor), .lit (.int .i64 v.n), .own 3 (List.length (α := Vl.Value) out)], .elems 3 (List.map Vl.Value.c out)]⟩ (hold Q .mk))
  ?_ ?_
 ·intro _f_spec_l10Mask_l1 ih_spec_l10Mask_l1 v path r hF
  refine PureCall.enterLe Try.func41 (by kernel_rfl) rfl Try.ntmps41 (by simp) (by simp) ?_
  repeat (first | refine chk.ga ?_ | simp -dsimp)
  have hF := ob hF; obtain ⟨v1, e2, hF⟩ := hF
  refine ((C.spec_l10Path B hB1 hB2 paths path v1 e2)).goW (by simp) (by simp) ?_
  repeat (first | refine chk.ga ?_ | simp -dsimp)
  refine abr.split (fun h3 => ?_) (fun h3 => ?_)
  ·have q4 : ¬ (v1 = true) := auq h3
   rw [if_neg q4] at hF
   cases hF
   repeat (first | refine chk.ga ?_ | simp -dsimp [h3, q4])
   all_goals (try omega)
  ·have q4 : (v1 = true) := auq h3
   rw [if_pos q4] at hF
   repeat (first | refine chk.ga ?_ | simp -dsimp [h3, q4])
   have hF := ob hF; obtain ⟨o', ho15, hF⟩ := hF
   refine ALoop.goU ⟨[(1, .arr (List.map (cL cI) paths)), (2, .arr (List.map cI path)), (3, .ptr 0 0), (6, .ptr 1 0), (7, .ptr 2 0), (8, .lit (.int .i64 (0 : Int)))], [.cells [.lit (.int .i64 v.ctor), .lit (.int .i64 v.n), .arr (List.map Vl.Value.c v.kids)], .cells [.lit (.int .i64 0), .lit (.int .i64 0), .lit (.slice none 0 0)], .cells [.lit (.int .i64 v.ctor), .lit (.int .i64 v.n), .own 3 (List.length (α := Vl.Value) [])], .elems 3 (List.map Vl.Value.c [])]⟩ ((Gh.nilCell 2 2 3 (by simp -dsimp; rfl) (by simp -dsimp)).trans (Gh.to3 (by simp) (by first | simp -dsimp [h3, q4]; done | simp_all))) ?_
   refine (ih_spec_l10Mask_l1 v path [] 0 o' ho15) _ rfl _ ?_
   cases hF
   repeat (first | refine chk.ga ?_ | simp -dsimp)
   all_goals (try omega)
 ·intro _f_spec_l10Mask _f_spec_l10Mask_l1 ih_spec_l10Mask ih_spec_l10Mask_l1 v path out i o hF
  intro c hc Q hq
  obtain rfl : c = _ := navEq hc rfl
  refine ALoopU.know fun hk hs => ?_
  have b1 := hk 1
  simp -dsimp at b1
  have b2 := hk 2
  simp -dsimp at b2
  have d0 := hs 0 _ rfl
  simp -dsimp [Blk.bnd] at d0
  have d3 := hs 3 _ rfl
  simp -dsimp [Blk.bnd] at d3
  clear hk hs
  refine ALoopU.enter ?_
  repeat (first | refine chk.ga ?_ | simp -dsimp)
  refine abr.split (fun h5 => ?_) (fun h5 => ?_)
  ·have q6 : (i < v.kids.length) := auq h5
   have z7 : ((i : Int) < (v.kids.length : Int)) := auz
   rw [if_pos q6] at hF
   repeat (first | refine chk.ga ?_ | simp -dsimp [h5, z7])
   refine ADraw.eff [] [(0, 1), (0, 1), (0, 0), (0, 0), (0, 0), (0, 0), (0, 0), (0, 0), (0, 0), (0, 0), (0, 3), (0, 3), (0, 3), (0, 3), (2, 2), (0, 3)] [0, 2, 1, 1, 1, 1, 1, 1, 1, 1, 1, 1, 1, 1, 1, 1] follows (by kernel_rfl) (by kernel_rfl) (by kernel_rfl) ?_
   have hF := ob hF; obtain ⟨x, e8, hF⟩ := hF
   have le8 := lt_of_get e8
   repeat (first | refine chk.ga ?_ | simp -dsimp [h5, z7, ↓e8])
   have hF := ob hF; obtain ⟨v9, e10, hF⟩ := hF
   refine ((C.spec_l7Path B hB1 hB2 path (i : Int) v9 e10)).pgoW (by first | simp [h5, z7, ↓e8]; done | simp_all) (by simp) ?_
   repeat (first | refine chk.ga ?_ | simp -dsimp [h5, z7, ↓e8])
   have hF := ob hF; obtain ⟨v11, e12, hF⟩ := hF
   refine ((ih_spec_l10Mask x v9 v11 e12)).pgoW (by first | simp [h5, z7, ↓e8]; done | simp_all) (by simp) ?_
   have hF := oc hF; obtain ⟨c13, hF⟩ := hF
   have w14 : IntKind.i64.wrap ((i : Int) + 1) = (i : Int) + 1 := wrap_in (by omega) (by omega)
   repeat (first | refine chk.ga ?_ | simp -dsimp [h5, z7, ↓e8, w14])
   refine Again.go ⟨[(1, .arr (List.map (cL cI) paths)), (2, .arr (List.map cI path)), (3, .ptr 0 0), (6, .ptr 1 0), (7, .ptr 2 0), (8, .lit (.int .i64 ((i + 1) : Int)))], [.cells [.lit (.int .i64 v.ctor), .lit (.int .i64 v.n), .arr (List.map Vl.Value.c v.kids)], .cells [.lit (.int .i64 0), .lit (.int .i64 0), .lit (.slice none 0 0)], .cells [.lit (.int .i64 v.ctor), .lit (.int .i64 v.n), .own 3 (List.length (α := Vl.Value) (out ++ [v11]))], .elems 3 (List.map Vl.Value.c (out ++ [v11]))]⟩ (Gh.to3 (by simp) (by first | simp -dsimp [h5, z7, ↓e8, w14]; done | simp_all)) ?_
   exact (ih_spec_l10Mask_l1 v path (out ++ [v11]) (i + 1) o hF) _ rfl _ hq
  ·have q6 : ¬ (i < v.kids.length) := auq h5
   have z7 : ¬ ((i : Int) < (v.kids.length : Int)) := auz
   rw [if_neg q6] at hF
   cases hF
   repeat (first | refine chk.ga ?_ | simp -dsimp [h5, q6, z7])
   refine Leave.go ⟨[(6, .ptr 1 0), (7, .ptr 2 0)], [.dead, .cells [.lit (.int .i64 0), .lit (.int .i64 0), .lit (.slice none 0 0)], .cells [.lit (.int .i64 v.ctor), .lit (.int .i64 v.n), .own 3 (List.length (α := Vl.Value) out)], .elems 3 (List.map Vl.Value.c out)]⟩ (Gh.to3 (by simp) (by first | simp -dsimp [h5, q6, z7]; done | simp_all)) ?_
   exact hq

theorem C.spec_l10Mask (B : Nat) (hB1 : 67108864 ≤ B) (hB2 : B ≤ 9223372036854775807) (v : Vl.Value) (paths : List (List Int)) (path : List Int) (r : Vl.Value) (hF : F.spec_l10Mask v paths path = some r) : PureCall Try.prog B 41 [.agg [.lit (.int .i64 v.ctor), .lit (.int .i64 v.n), .arr (List.map Vl.Value.c v.kids)], .arr (List.map (cL cI) paths), .arr (List.map cI path)] (.agg [.lit (.int .i64 r.ctor), .lit (.int .i64 r.n), .arr (List.map Vl.Value.c r.kids)]) :=
 (CC.spec_l10Mask B hB1 hB2 paths).1 v path r hF

theorem C.spec_l10Mask_l1 (B : Nat) (hB1 : 67108864 ≤ B) (hB2 : B ≤ 9223372036854775807) (v : Vl.Value) (paths : List (List Int)) (path : List Int) (out : List Vl.Value) (i : Nat) (o : List Vl.Value) (hF : F.spec_l10Mask_l1 v paths path out i = some o) : ∀ (c : Code), navO [1, 1, 1, 0, 1, 0, 0] (bodyOf Try.f41) = some c → ∀ (Q : Exit → ASt → Prop), Q (.exit 0) ⟨[(6, .ptr 1 0), (7, .ptr 2 0)], [.dead, .cells [.lit (.int .i64 0), .lit (.int .i64 0), .lit (.slice none 0 0)], .cells [.lit (.int .i64 v.ctor), .lit (.int .i64 v.n), .own 3 (List.length (α := Vl.Value) o)], .elems 3 (List.map Vl.Value.c o)]⟩ → ALoopU Try.prog B 0 42 (hold c .mk) ⟨[(1, .arr (List.map (cL cI) paths)), (2, .arr (List.map cI path)), (3, .ptr 0 0), (6, .ptr 1 0), (7, .ptr 2 0), (8, .lit (.int .i64 (i : Int)))], [.cells [.lit (.int .i64 v.ctor), .lit (.int .i64 v.n), .arr (List.map Vl.Value.c v.kids)], .cells [.lit (.int .i64 0), .lit (.int .i64 0), .lit (.slice none 0 0)], .cells [.lit (.int .i64 v.ctor), .lit (.int .i64 v.n), .own 3 (List.length (α := Vl.Value) out)], .elems 3 (List.map Vl.Value.c out)]⟩ (hold Q .mk) :=
 (CC.spec_l10Mask B hB1 hB2 paths).2 v path out i o hF

set_option maxRecDepth 100000 in
set_option maxHeartbeats 4000000 in
theorem C.spec_MaskValue (B : Nat) (hB1 : 67108864 ≤ B) (hB2 : B ≤ 9223372036854775807) (w : List Vl.Data) (t : Vl.Ty) (v : Vl.Value) (paths : List (List Int)) (r : Vl.Value × Bool) (hF : F.spec_MaskValue w t v paths = some r) : PureCall Try.prog B 20 [.arr (List.map Vl.Data.c w), .agg [.lit (.int .i64 t.data), .lit (.int .i64 t.index)], .agg [.lit (.int .i64 v.ctor), .lit (.int .i64 v.n), .arr (List.map Vl.Value.c v.kids)], .arr (List.map (cL cI) paths)] (.tup [.agg [.lit (.int .i64 r.1.ctor), .lit (.int .i64 r.1.n), .arr (List.map Vl.Value.c r.1.kids)], .lit (.bool r.2)]) := by
 unfold F.spec_MaskValue at hF
 refine PureCall.enterLe Try.func20 (by kernel_rfl) rfl Try.ntmps20 (by simp) (by simp) ?_
 repeat (first | refine chk.ga ?_ | simp -dsimp)
 have hF := ob hF; obtain ⟨v1, e2, hF⟩ := hF
 refine ((C.spec_PartialValid B hB1 hB2 w t v v1 e2)).goW (by simp) (by simp) ?_
 repeat (first | refine chk.ga ?_ | simp -dsimp)
 refine abr.split (fun h3 => ?_) (fun h3 => ?_)
 ·have q4 : ¬ (v1 = true) := auq h3
  rw [if_neg q4] at hF
  cases hF
  repeat (first | refine chk.ga ?_ | simp -dsimp [h3, q4])
  all_goals (try omega)
 ·have q4 : (v1 = true) := auq h3
  rw [if_pos q4] at hF
  repeat (first | refine chk.ga ?_ | simp -dsimp [h3, q4])
  have hF := ob hF; obtain ⟨v5, e6, hF⟩ := hF
  refine ((C.spec_l10Mask B hB1 hB2 v paths [] v5 e6)).goW (by first | simp [h3, q4]; done | simp_all) (by simp) ?_
  cases hF
  repeat (first | refine chk.ga ?_ | simp -dsimp [h3, q4])
  all_goals (try omega)

set_option maxRecDepth 100000 in
set_option maxHeartbeats 4000000 in
theorem CC.impl_ValueSame (B : Nat) (hB1 : 67108864 ≤ B) (hB2 : B ≤ 9223372036854775807)  : (∀ (a : Vl.Value) (b : Vl.Value) (r : Bool), F.impl_ValueSame a b = some r → PureCall Try.prog B 13 [.agg [.lit (.int .i64 a.ctor), .lit (.int .i64 a.n), .arr (List.map Vl.Value.c a.kids)], .agg [.lit (.int .i64 b.ctor), .lit (.int .i64 b.n), .arr (List.map Vl.Value.c b.kids)]] (.lit (.bool r))) ∧
  (∀ (s1 : List Vl.Value) (s2 : List Vl.Value) (r : Bool), F.slices_EqualFunc_Value__impl_ValueSame s1 s2 = some r → PureCall Try.prog B 32 [.arr (List.map Vl.Value.c s1), .arr (List.map Vl.Value.c s2), .fn (.func 13) [] []] (.lit (.bool r))) ∧
  (∀ (s1 : List Vl.Value) (s2 : List Vl.Value) (i : Nat) (o : Lo Bool Unit), F.slices_EqualFunc_Value__impl_ValueSame_l1 s1 s2 i = some o → ∀ (c : Code), navO [1, 1, 0, 1, 0, 0] (bodyOf Try.f32) = some c → ∀ (Q : Exit → ASt → Prop), o.post (fun r => ∀ st, Post Try.prog Try.f32 (fun r' _ => r'.le (.lit (.bool r))) .ret st → Q .ret st) (fun s => Q (.exit 0) ⟨[], []⟩) → ALoopU Try.prog B 0 32 (hold c .mk) ⟨[(1, .arr (List.map Vl.Value.c s2)), (2, .fn (.func 13) [] []), (15, .arr (List.map Vl.Value.c s1)), (16, .lit (.int .i64 (s1.length : Int))), (17, .lit (.int .i64 (i : Int)))], []⟩ (hold Q .mk)) := by
 refine F.impl_ValueSame.mutual_partial_correctness 
  (fun a b r => PureCall Try.prog B 13 [.agg [.lit (.int .i64 a.ctor), .lit (.int .i64 a.n), .arr (List.map Vl.Value.c a.kids)], .agg [.lit (.int .i64 b.ctor), .lit (.int .i64 b.n), .arr (List.map Vl.Value.c b.kids)]] (.lit (.bool r)))
  (fun s1 s2 r => PureCall Try.prog B 32 [.arr (List.map Vl.Value.c s1), .arr (List.map Vl.Value.c s2), .fn (.func 13) [] []] (.lit (.bool r)))
  (fun s1 s2 i o => ∀ (c : Code), navO [1, 1, 0, 1, 0, 0] (bodyOf Try.f32) = some c → ∀ (Q : Exit → ASt → Prop), o.post (fun r => ∀ st, Post Try.prog Try.f32 (fun r' _ => r'.le (.lit (.bool r))) .ret st → Q .ret st) (fun s => Q (.exit 0) ⟨[], []⟩) → ALoopU Try.prog B 0 32 (hold c .mk) ⟨[(1, .arr (List.map Vl.Value.c s2)), (2, .fn (.func 13) [] []), (15, .arr (List.map Vl.Value.c s1)), (16, .lit (.int .i64 (s1.length : Int))), (17, .lit (.int .i64 (i : Int)))], []⟩ (hold Q .mk))
  ?_ ?_ ?_
 ·intro _f_slices_EqualFunc_Value__impl_ValueSame ih_slices_EqualFunc_Value__impl_ValueSame a b r hF
  refine PureCall.enterLe Try.func13 (by kernel_rfl) rfl Try.ntmps13 (by simp) (by simp) ?_
  repeat (first | refine chk.ga ?_ | simp -dsimp)
  refine abr.split (fun h1 => ?_) (fun h1 => ?_)
  ·have q2 : (a.ctor = b.ctor) := auq h1
   rw [if_pos q2] at hF
   repeat (first | refine chk.ga ?_ | simp -dsimp [h1])
   refine abr.split (fun h3 => ?_) (fun h3 => ?_)
   ·have q4 : (a.n = b.n) := auq h3
    rw [if_pos q4] at hF
    repeat (first | refine chk.ga ?_ | simp -dsimp [h1, h3])
    have hF := ob hF; obtain ⟨v, e5, hF⟩ := hF
    refine ((ih_slices_EqualFunc_Value__impl_ValueSame a.kids b.kids v e5)).goW (by first | simp [h1, h3]; done | simp_all) (by simp) ?_
    cases hF
    repeat (first | refine chk.ga ?_ | simp -dsimp [h1, h3])
    all_goals (try omega)
   ·have q4 : ¬ (a.n = b.n) := auq h3
    rw [if_neg q4] at hF
    cases hF
    repeat (first | refine chk.ga ?_ | simp -dsimp [h1, h3, q4])
    all_goals (try omega)
  ·have q2 : ¬ (a.ctor = b.ctor) := auq h1
   rw [if_neg q2] at hF
   cases hF
   repeat (first | refine chk.ga ?_ | simp -dsimp [h1, q2])
   all_goals (try omega)
 ·intro _f_slices_EqualFunc_Value__impl_ValueSame_l1 ih_slices_EqualFunc_Value__impl_ValueSame_l1 s1 s2 r hF
  refine PureCall.enterLe Try.func32 (by kernel_rfl) rfl Try.ntmps32 (by simp) (by simp) ?_
  repeat (first | refine chk.ga ?_ | simp -dsimp)
  refine abr.split (fun h1 => ?_) (fun h1 => ?_)
  ·have q2 : ¬ (s1.length = s2.length) := auq h1
   have z3 : ¬ ((s1.length : Int) = (s2.length : Int)) := auz
   rw [if_neg q2] at hF
   cases hF
   repeat (first | refine chk.ga ?_ | simp -dsimp [h1, q2, z3])
   all_goals (try omega)
  ·have q2 : (s1.length = s2.length) := auq h1
   have z3 : ((s1.length : Int) = (s2.length : Int)) := auz
   rw [if_pos q2] at hF
   repeat (first | refine chk.ga ?_ | simp -dsimp [h1, q2, z3])
   have hF := ob hF; obtain ⟨o', ho14, hF⟩ := hF
   refine ALoop.goU ⟨[(1, .arr (List.map Vl.Value.c s2)), (2, .fn (.func 13) [] []), (15, .arr (List.map Vl.Value.c s1)), (16, .lit (.int .i64 (s1.length : Int))), (17, .lit (.int .i64 (0 : Int)))], []⟩ (Gh.to3 (by simp) (by first | simp -dsimp [h1, q2, z3]; done | simp_all)) ?_
   refine (ih_slices_EqualFunc_Value__impl_ValueSame_l1 s1 s2 0 o' ho14) _ rfl _ ?_
   rcases o' with r0 | sx
   ·dsimp only at hF
    cases hF
    intro st h
    simpa using h
   ·dsimp only at hF
    cases hF
    repeat (first | refine chk.ga ?_ | simp -dsimp)
    all_goals (try omega)
 ·intro _f_impl_ValueSame _f_slices_EqualFunc_Value__impl_ValueSame_l1 ih_impl_ValueSame ih_slices_EqualFunc_Value__impl_ValueSame_l1 s1 s2 i o hF
  intro c hc Q hq
  obtain rfl : c = _ := navEq hc rfl
  refine ALoopU.know fun hk hs => ?_
  have b1 := hk 1
  simp -dsimp at b1
  have b15 := hk 15
  simp -dsimp at b15
  clear hk hs
  refine ALoopU.enter ?_
  repeat (first | refine chk.ga ?_ | simp -dsimp)
  refine abr.split (fun h4 => ?_) (fun h4 => ?_)
  ·have q5 : (i < s1.length) := auq h4
   have z6 : ((i : Int) < (s1.length : Int)) := auz
   rw [if_pos q5] at hF
   have hF := ob hF; obtain ⟨x, e7, hF⟩ := hF
   have le7 := lt_of_get e7
   have hF := ob hF; obtain ⟨x8, e9, hF⟩ := hF
   have le9 := lt_of_get e9
   repeat (first | refine chk.ga ?_ | simp -dsimp [h4, z6, ↓e7, ↓e9])
   have hF := ob hF; obtain ⟨v, e10, hF⟩ := hF
   refine ((ih_impl_ValueSame x x8 v e10)).goW (by first | simp [h4, z6, ↓e7, ↓e9]; done | simp_all) (by simp) ?_
   repeat (first | refine chk.ga ?_ | simp -dsimp [h4, z6, ↓e7, ↓e9])
   refine abr.split (fun h11 => ?_) (fun h11 => ?_)
   ·have q12 : ¬ (v = true) := auq h11
    rw [if_neg q12] at hF
    cases hF
    repeat (first | refine chk.ga ?_ | simp -dsimp [h4, z6, ↓e7, ↓e9, h11, q12])
    refine Leave.go _ (Gh.refl _) (hq _ ?_)
    repeat (first | refine chk.ga ?_ | simp -dsimp [h4, z6, ↓e7, ↓e9, h11, q12])
   ·have q12 : (v = true) := auq h11
    rw [if_pos q12] at hF
    have w13 : IntKind.i64.wrap ((i : Int) + 1) = (i : Int) + 1 := wrap_in (by omega) (by omega)
    repeat (first | refine chk.ga ?_ | simp -dsimp [h4, z6, ↓e7, ↓e9, h11, q12, w13])
    refine Again.go ⟨[(1, .arr (List.map Vl.Value.c s2)), (2, .fn (.func 13) [] []), (15, .arr (List.map Vl.Value.c s1)), (16, .lit (.int .i64 (s1.length : Int))), (17, .lit (.int .i64 ((i + 1) : Int)))], []⟩ (Gh.to3 (by simp) (by first | simp -dsimp [h4, z6, ↓e7, ↓e9, h11, q12, w13]; done | simp_all)) ?_
    exact (ih_slices_EqualFunc_Value__impl_ValueSame_l1 s1 s2 (i + 1) o hF) _ rfl _ hq
  ·have q5 : ¬ (i < s1.length) := auq h4
   have z6 : ¬ ((i : Int) < (s1.length : Int)) := auz
   rw [if_neg q5] at hF
   cases hF
   repeat (first | refine chk.ga ?_ | simp -dsimp [h4, q5, z6])
   refine Leave.go ⟨[], []⟩ (Gh.to3 (by simp) (by first | simp -dsimp [h4, q5, z6]; done | simp_all)) ?_
   exact hq

theorem C.impl_ValueSame (B : Nat) (hB1 : 67108864 ≤ B) (hB2 : B ≤ 9223372036854775807) (a : Vl.Value) (b : Vl.Value) (r : Bool) (hF : F.impl_ValueSame a b = some r) : PureCall Try.prog B 13 [.agg [.lit (.int .i64 a.ctor), .lit (.int .i64 a.n), .arr (List.map Vl.Value.c a.kids)], .agg [.lit (.int .i64 b.ctor), .lit (.int .i64 b.n), .arr (List.map Vl.Value.c b.kids)]] (.lit (.bool r)) :=
 (CC.impl_ValueSame B hB1 hB2 ).1 a b r hF

theorem C.slices_EqualFunc_Value__impl_ValueSame (B : Nat) (hB1 : 67108864 ≤ B) (hB2 : B ≤ 9223372036854775807) (s1 : List Vl.Value) (s2 : List Vl.Value) (r : Bool) (hF : F.slices_EqualFunc_Value__impl_ValueSame s1 s2 = some r) : PureCall Try.prog B 32 [.arr (List.map Vl.Value.c s1), .arr (List.map Vl.Value.c s2), .fn (.func 13) [] []] (.lit (.bool r)) :=
 (CC.impl_ValueSame B hB1 hB2 ).2.1 s1 s2 r hF

end Go.Proofs.Ytipcmoamhapecaa
