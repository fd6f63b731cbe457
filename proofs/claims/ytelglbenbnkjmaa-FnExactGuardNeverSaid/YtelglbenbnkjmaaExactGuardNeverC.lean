/- The contracts: the code computes the functions (printed by gen.py). -/
import Derived.Test.YtelglbenbnkjmaaProg
import Derived.Test.YtelglbenbnkjmaaExactGuardNeverF
import Derived.Test.YtelglbenbnkjmaaExactGuardNeverC2
namespace Go.Proofs.Ytelglbenbnkjmaa
open Go Go.Proofs Go.Vl
set_option linter.unusedSimpArgs false
set_option linter.unusedVariables false

attribute [local irreducible] ECallA aL AMake MLoop AgainM LeaveM awpM aopsM MutCall BCall chk abr ACall ALoop ALoopU ADraw Again Leave PCallA PCall Post awp aops PureCall hold

set_option maxRecDepth 100000 in
set_option maxHeartbeats 4000000 in
theorem CC.impl_patternScan (B : Nat) (hB1 : 67108864 ≤ B) (hB2 : B ≤ 9223372036854775807) (w : List Vl.Data) : (∀ (t : Vl.Ty) (p : Vl.Pattern) (deep : Int) (count : Int) (r : (List Vl.VarType) × Bool × Int), F.impl_patternScan w t p deep count = some r → MutCall Try.prog B 208 [.lit (.int .i64 count)] [.arr (List.map Vl.Data.c w), .agg [.lit (.int .i64 t.data), .lit (.int .i64 t.index)], .agg [.lit (.int .i64 p.op), .lit (.int .i64 p.ctor), .lit (.int .i64 p.n), .lit (.int .i64 p.m), .lit (.int .i64 p.var), .arr (List.map Vl.Pattern.c p.kids)], .lit (.int .i64 deep), .ptr 0 0] (.tup [.arr (List.map Vl.VarType.c r.1), .lit (.bool r.2.1)]) [.lit (.int .i64 r.2.2)]) ∧
  (∀ (p : Vl.Pattern) (deep : Int) (v : (List Vl.Ty) × Bool) (z51 : Int) (vars52 : List Vl.VarType) (i53 : Nat) (o : Lo ((List Vl.VarType) × Bool × Int) (Int × (List Vl.VarType))), F.impl_patternScan_l3 w p deep v z51 vars52 i53 = some o → ∀ (c : Code), navO [1, 1, 1, 1, 1, 1, 1, 0, 1, 0, 0] (bodyOf Try.f208) = some c → ∀ (Q : Exit → ASt → Prop), o.post (fun r => ∀ st, Post Try.prog Try.f208 (fun r' σ' => r'.le (.tup [.arr (List.map Vl.VarType.c r.1), .lit (.bool r.2.1)]) ∧ mcell σ' [.lit (.int .i64 r.2.2)]) .ret st → Q .ret st) (fun s => Q (.exit 0) ⟨[(14, .own 3 (List.length (α := Vl.VarType) s.2))], [.cells [.lit (.int .i64 s.1)], .dead, .dead, .elems 3 (List.map Vl.VarType.c s.2)]⟩) → ALoopU Try.prog B 1 114 (hold c .mk) ⟨[(0, .arr (List.map Vl.Data.c w)), (3, .lit (.int .i64 deep)), (4, .ptr 0 0), (7, .ptr 2 0), (12, .arr (List.map Vl.Ty.c v.1)), (14, .own 3 (List.length (α := Vl.VarType) vars52)), (60, .arr (List.map Vl.Pattern.c p.kids)), (61, .lit (.int .i64 (p.kids.length : Int))), (62, .lit (.int .i64 (i53 : Int)))], [.cells [.lit (.int .i64 z51)], .dead, .cells [.lit (.int .i64 p.op), .lit (.int .i64 p.ctor), .lit (.int .i64 p.n), .lit (.int .i64 p.m), .lit (.int .i64 p.var), .arr (List.map Vl.Pattern.c p.kids)], .elems 3 (List.map Vl.VarType.c vars52)]⟩ (hold Q .mk)) ∧
  (∀ (p : Vl.Pattern) (deep : Int) (v : (List Vl.Ty) × Bool) (z : Int) (vars : List Vl.VarType) (i : Nat) (o : Lo ((List Vl.VarType) × Bool × Int) (Int × (List Vl.VarType))), F.impl_patternScan_l1 w p deep v z vars i = some o → ∀ (c : Code), navO [1, 1, 1, 1, 1, 1, 1, 0, 1, 0, 0] (bodyOf Try.f208) = some c → ∀ (Q : Exit → ASt → Prop), o.post (fun r => ∀ st, Post Try.prog Try.f208 (fun r' σ' => r'.le (.tup [.arr (List.map Vl.VarType.c r.1), .lit (.bool r.2.1)]) ∧ mcell σ' [.lit (.int .i64 r.2.2)]) .ret st → Q .ret st) (fun s => Q (.exit 0) ⟨[(14, .own 4 (List.length (α := Vl.VarType) s.2))], [.cells [.lit (.int .i64 s.1)], .dead, .dead, .dead, .elems 3 (List.map Vl.VarType.c s.2)]⟩) → ALoopU Try.prog B 1 114 (hold c .mk) ⟨[(0, .arr (List.map Vl.Data.c w)), (3, .lit (.int .i64 deep)), (4, .ptr 0 0), (7, .ptr 2 0), (12, .arr (List.map Vl.Ty.c v.1)), (14, .own 4 (List.length (α := Vl.VarType) vars)), (60, .arr (List.map Vl.Pattern.c p.kids)), (61, .lit (.int .i64 (p.kids.length : Int))), (62, .lit (.int .i64 (i : Int)))], [.cells [.lit (.int .i64 z)], .dead, .cells [.lit (.int .i64 p.op), .lit (.int .i64 p.ctor), .lit (.int .i64 p.n), .lit (.int .i64 p.m), .lit (.int .i64 p.var), .arr (List.map Vl.Pattern.c p.kids)], .dead, .elems 3 (List.map Vl.VarType.c vars)]⟩ (hold Q .mk)) ∧
  (∀ (p : Vl.Pattern) (deep : Int) (v : (List Vl.Ty) × Bool) (z98 : Int) (vars99 : List Vl.VarType) (i100 : Nat) (o : Lo ((List Vl.VarType) × Bool × Int) (Int × (List Vl.VarType))), F.impl_patternScan_l5 w p deep v z98 vars99 i100 = some o → ∀ (c : Code), navO [1, 1, 1, 1, 1, 1, 1, 0, 1, 0, 0] (bodyOf Try.f208) = some c → ∀ (Q : Exit → ASt → Prop), o.post (fun r => ∀ st, Post Try.prog Try.f208 (fun r' σ' => r'.le (.tup [.arr (List.map Vl.VarType.c r.1), .lit (.bool r.2.1)]) ∧ mcell σ' [.lit (.int .i64 r.2.2)]) .ret st → Q .ret st) (fun s => Q (.exit 0) ⟨[(14, .own 4 (List.length (α := Vl.VarType) s.2))], [.cells [.lit (.int .i64 s.1)], .dead, .dead, .dead, .elems 3 (List.map Vl.VarType.c s.2)]⟩) → ALoopU Try.prog B 1 114 (hold c .mk) ⟨[(0, .arr (List.map Vl.Data.c w)), (3, .lit (.int .i64 deep)), (4, .ptr 0 0), (7, .ptr 2 0), (12, .arr (List.map Vl.Ty.c v.1)), (14, .own 4 (List.length (α := Vl.VarType) vars99)), (60, .arr (List.map Vl.Pattern.c p.kids)), (61, .lit (.int .i64 (p.kids.length : Int))), (62, .lit (.int .i64 (i100 : Int)))], [.cells [.lit (.int .i64 z98)], .dead, .cells [.lit (.int .i64 p.op), .lit (.int .i64 p.ctor), .lit (.int .i64 p.n), .lit (.int .i64 p.m), .lit (.int .i64 p.var), .arr (List.map Vl.Pattern.c p.kids)], .dead, .elems 3 (List.map Vl.VarType.c vars99)]⟩ (hold Q .mk)) := by
 refine F.impl_patternScan.mutual_partial_correctness w
  (fun t p deep count r => MutCall Try.prog B 208 [.lit (.int .i64 count)] [.arr (List.map Vl.Data.c w), .agg [.lit (.int .i64 t.data), .lit (.int .i64 t.index)], .agg [.lit (.int .i64 p.op), .lit (.int .i64 p.ctor), .lit (.int .i64 p.n), .lit (.int .i64 p.m), .lit (.int .i64 p.var), .arr (List.map Vl.Pattern.c p.kids)], .lit (.int .i64 deep), .ptr 0 0] (.tup [.arr (List.map Vl.VarType.c r.1), .lit (.bool r.2.1)]) [.lit (.int .i64 r.2.2)])
  (fun p deep v z51 vars52 i53 o => ∀ (c : Code), navO [1, 1, 1, 1, 1, 1, 1, 0, 1, 0, 0] (bodyOf Try.f208) = some c → ∀ (Q : Exit → ASt → Prop), o.post (fun r => ∀ st, Post Try.prog Try.f208 (fun r' σ' => r'.le (.tup [.arr (List.map Vl.VarType.c r.1), .lit (.bool r.2.1)]) ∧ mcell σ' [.lit (.int .i64 r.2.2)]) .ret st → Q .ret st) (fun s => Q (.exit 0) ⟨[(14, .own 3 (List.length (α := Vl.VarType) s.2))], [.cells [.lit (.int .i64 s.1)], .dead, .dead, .elems 3 (List.map Vl.VarType.c s.2)]⟩) → ALoopU Try.prog B 1 114 (hold c .mk) ⟨[(0, .arr (List.map Vl.Data.c w)), (3, .lit (.int .i64 deep)), (4, .ptr 0 0), (7, .ptr 2 0), (12, .arr (List.map Vl.Ty.c v.1)), (14, .own 3 (List.length (α := Vl.VarType) vars52)), (60, .arr (List.map Vl.Pattern.c p.kids)), (61, .lit (.int .i64 (p.kids.length : Int))), (62, .lit (.int .i64 (i53 : Int)))], [.cells [.lit (.int .i64 z51)], .dead, .cells [.lit (.int .i64 p.op), .lit (.int .i64 p.ctor), .lit (.int .i64 p.n), .lit (.int .i64 p.m), .lit (.int .i64 p.var), .arr (List.map Vl.Pattern.c p.kids)], .elems 3 (List.map Vl.VarType.c vars52)]⟩ (hold Q .mk))
  (fun p deep v z vars i o => ∀ (c : Code), navO [1, 1, 1, 1, 1, 1, 1, 0, 1, 0, 0] (bodyOf Try.f208) = some c → ∀ (Q : Exit → ASt → Prop), o.post (fun r => ∀ st, Post Try.prog Try.f208 (fun r' σ' => r'.le (.tup [.arr (List.map Vl.VarType.c r.1), .lit (.bool r.2.1)]) ∧ mcell σ' [.lit (.int .i64 r.2.2)]) .ret st → Q .ret st) (fun s => Q (.exit 0) ⟨[(14, .own 4 (List.length (α := Vl.VarType) s.2))], [.cells [.lit (.int .i64 s.1)], .dead, .dead, .dead, .elems 3 (List.map Vl.VarType.c s.2)]⟩) → ALoopU Try.prog B 1 114 (hold c .mk) ⟨[(0, .arr (List.map Vl.Data.c w)), (3, .lit (.int .i64 deep)), (4, .ptr 0 0), (7, .ptr 2 0), (12, .arr (List.map Vl.Ty.c v.1)), (14, .own 4 (List.length (α := Vl.VarType) vars)), (60, .arr (List.map Vl.Pattern.c p.kids)), (61, .lit (.int .i64 (p.kids.length : Int))), (62, .lit (.int .i64 (i : Int)))], [.cells [.lit (.int .i64 z)], .dead, .cells [.lit (.int .i64 p.op), .lit (.int .i64 p.ctor), .lit (.int .i64 p.n), .lit (.int .i64 p.m), .lit (.int .i64 p.var), .arr (List.map Vl.Pattern.c p.kids)], .dead, .elems 3 (List.map Vl.VarType.c vars)]⟩ (hold Q .mk))
  (fun p deep v z98 vars99 i100 o => ∀ (c : Code), navO [1, 1, 1, 1, 1, 1, 1, 0, 1, 0, 0] (bodyOf Try.f208) = some c → ∀ (Q : Exit → ASt → Prop), o.post (fun r => ∀ st, Post Try.prog Try.f208 (fun r' σ' => r'.le (.tup [.arr (List.map Vl.VarType.c r.1), .lit (.bool r.2.1)]) ∧ mcell σ' [.lit (.int .i64 r.2.2)]) .ret st → Q .ret st) (fun s => Q (.exit 0) ⟨[(14, .own 4 (List.length (α := Vl.VarType) s.2))], [.cells [.lit (.int .i64 s.1)], .dead, .dead, .dead, .elems 3 (List.map Vl.VarType.c s.2)]⟩) → ALoopU Try.prog B 1 114 (hold c .mk) ⟨[(0, .arr (List.map Vl.Data.c w)), (3, .lit (.int .i64 deep)), (4, .ptr 0 0), (7, .ptr 2 0), (12, .arr (List.map Vl.Ty.c v.1)), (14, .own 4 (List.length (α := Vl.VarType) vars99)), (60, .arr (List.map Vl.Pattern.c p.kids)), (61, .lit (.int .i64 (p.kids.length : Int))), (62, .lit (.int .i64 (i100 : Int)))], [.cells [.lit (.int .i64 z98)], .dead, .cells [.lit (.int .i64 p.op), .lit (.int .i64 p.ctor), .lit (.int .i64 p.n), .lit (.int .i64 p.m), .lit (.int .i64 p.var), .arr (List.map Vl.Pattern.c p.kids)], .dead, .elems 3 (List.map Vl.VarType.c vars99)]⟩ (hold Q .mk))
  ?_ ?_ ?_ ?_
 ·intro _f_impl_patternScan_l3 _f_impl_patternScan_l1 _f_impl_patternScan_l5 ih_impl_patternScan_l3 ih_impl_patternScan_l1 ih_impl_patternScan_l5 t p deep count r hF
  refine MutCall.enter Try.func208 (by kernel_rfl) rfl Try.ntmps208 (by simp) (by simp) (by simp) (by simp) ?_
  repeat (first | refine chk.ga ?_ | simp -dsimp)
  refine abr.split (fun h1 => ?_) (fun h1 => ?_)
  ·have q2 : ¬ (60 < IntKind.i64.wrap (count + 1)) := auq h1
   rw [if_neg q2] at hF
   repeat (first | refine chk.ga ?_ | simp -dsimp [h1, q2])
   refine abr.split (fun h3 => ?_) (fun h3 => ?_)
   ·have q4 : (10 < deep) := auq h3
    rw [if_pos q4] at hF
    cases hF
    repeat (first | refine chk.ga ?_ | simp -dsimp [h1, q2, h3])
    all_goals (try omega)
   ·have q4 : ¬ (10 < deep) := auq h3
    rw [if_neg q4] at hF
    repeat (first | refine chk.ga ?_ | simp -dsimp [h1, q2, h3, q4])
    have hF := ob hF; obtain ⟨v, e5, hF⟩ := hF
    refine ((C.impl_shape B hB1 hB2 w t p v e5)).goW (by first | simp [h1, q2, h3, q4]; done | simp_all) (by simp) ?_
    repeat (first | refine chk.ga ?_ | simp -dsimp [h1, q2, h3, q4])
    refine abr.split (fun h6 => ?_) (fun h6 => ?_)
    ·have q7 : ¬ (v.2 = true) := auq h6
     rw [if_neg q7] at hF
     cases hF
     repeat (first | refine chk.ga ?_ | simp -dsimp [h1, q2, h3, q4, h6, q7])
     all_goals (try omega)
    ·have q7 : (v.2 = true) := auq h6
     rw [if_pos q7] at hF
     repeat (first | refine chk.ga ?_ | simp -dsimp [h1, q2, h3, q4, h6, q7])
     refine abr.split (fun h8 => ?_) (fun h8 => ?_)
     ·have q9 : ¬ (p.op = 2) := auq h8
      rw [if_neg q9] at hF
      repeat (first | refine chk.ga ?_ | simp -dsimp [h1, q2, h3, q4, h6, q7, h8, q9])
      refine abr.split (fun h10 => ?_) (fun h10 => ?_)
      ·have q11 : (p.op = 6) := auq h10
       rw [if_pos q11] at hF
       repeat (first | refine chk.ga ?_ | simp -dsimp [h1, q2, h3, q4, h6, q7, h8, q9, h10])
       have hF := ob hF; obtain ⟨o', ho36, hF⟩ := hF
       refine ALoop.goU ⟨[(0, .arr (List.map Vl.Data.c w)), (3, .lit (.int .i64 deep)), (4, .ptr 0 0), (7, .ptr 2 0), (12, .arr (List.map Vl.Ty.c v.1)), (14, .own 4 (List.length (α := Vl.VarType) [(⟨p.var, t⟩ : Vl.VarType)])), (60, .arr (List.map Vl.Pattern.c p.kids)), (61, .lit (.int .i64 (p.kids.length : Int))), (62, .lit (.int .i64 (0 : Int)))], [.cells [.lit (.int .i64 (IntKind.i64.wrap (count + 1)))], .dead, .cells [.lit (.int .i64 p.op), .lit (.int .i64 p.ctor), .lit (.int .i64 p.n), .lit (.int .i64 p.m), .lit (.int .i64 p.var), .arr (List.map Vl.Pattern.c p.kids)], .dead, .elems 3 (List.map Vl.VarType.c [(⟨p.var, t⟩ : Vl.VarType)])]⟩ (Gh.to3 (by simp) (by first | simp -dsimp [h1, q2, h3, q4, h6, q7, h8, q9, h10]; done | simp_all)) ?_
       refine (ih_impl_patternScan_l1 p deep v (IntKind.i64.wrap (count + 1)) [(⟨p.var, t⟩ : Vl.VarType)] 0 o' ho36) _ rfl _ ?_
       rcases o' with r050 | sx
       ·dsimp only at hF
        cases hF
        intro st h
        simpa using h
       ·dsimp only at hF
        repeat (first | refine chk.ga ?_ | simp -dsimp)
        have hF := ob hF; obtain ⟨o'48, ho47, hF⟩ := hF
        refine ALoop.goU ⟨[(14, .own 4 (List.length (α := Vl.VarType) sx.2)), (19, .ptr 5 0), (99, .own 4 (List.length (α := Vl.VarType) sx.2)), (100, .lit (.int .i64 (sx.2.length : Int))), (101, .lit (.int .i64 (0 : Int)))], [.cells [.lit (.int .i64 sx.1)], .dead, .dead, .dead, .elems 3 (List.map Vl.VarType.c sx.2), .cells (fcB 6 (fun _ => false))]⟩ (Gh.to3 (by simp) (by simp -dsimp)) ?_
        refine (C.impl_patternScan_l2 B hB1 hB2 sx (fun _ => false) 0 o'48 ho47) _ rfl _ ?_
        rcases o'48 with r0 | sx49
        ·dsimp only at hF
         cases hF
         intro st h
         simpa using h
        ·dsimp only at hF
         cases hF
         repeat (first | refine chk.ga ?_ | simp -dsimp)
         all_goals (try omega)
      ·have q11 : ¬ (p.op = 6) := auq h10
       rw [if_neg q11] at hF
       repeat (first | refine chk.ga ?_ | simp -dsimp [h1, q2, h3, q4, h6, q7, h8, q9, h10, q11])
       have hF := ob hF; obtain ⟨o'80, ho79, hF⟩ := hF
       refine ALoop.goU ⟨[(0, .arr (List.map Vl.Data.c w)), (3, .lit (.int .i64 deep)), (4, .ptr 0 0), (7, .ptr 2 0), (12, .arr (List.map Vl.Ty.c v.1)), (14, .own 3 (List.length (α := Vl.VarType) [])), (60, .arr (List.map Vl.Pattern.c p.kids)), (61, .lit (.int .i64 (p.kids.length : Int))), (62, .lit (.int .i64 (0 : Int)))], [.cells [.lit (.int .i64 (IntKind.i64.wrap (count + 1)))], .dead, .cells [.lit (.int .i64 p.op), .lit (.int .i64 p.ctor), .lit (.int .i64 p.n), .lit (.int .i64 p.m), .lit (.int .i64 p.var), .arr (List.map Vl.Pattern.c p.kids)], .elems 3 (List.map Vl.VarType.c [])]⟩ ((Gh.nil 14 3 (by simp -dsimp)).trans (Gh.to3 (by simp) (by first | simp -dsimp [h1, q2, h3, q4, h6, q7, h8, q9, h10, q11]; done | simp_all))) ?_
       refine (ih_impl_patternScan_l3 p deep v (IntKind.i64.wrap (count + 1)) [] 0 o'80 ho79) _ rfl _ ?_
       rcases o'80 with r097 | sx81
       ·dsimp only at hF
        cases hF
        intro st h
        simpa using h
       ·dsimp only at hF
        repeat (first | refine chk.ga ?_ | simp -dsimp)
        have hF := ob hF; obtain ⟨o'94, ho93, hF⟩ := hF
        refine ALoop.goU ⟨[(14, .own 3 (List.length (α := Vl.VarType) sx81.2)), (19, .ptr 4 0), (99, .own 3 (List.length (α := Vl.VarType) sx81.2)), (100, .lit (.int .i64 (sx81.2.length : Int))), (101, .lit (.int .i64 (0 : Int)))], [.cells [.lit (.int .i64 sx81.1)], .dead, .dead, .elems 3 (List.map Vl.VarType.c sx81.2), .cells (fcB 6 (fun _ => false))]⟩ (Gh.to3 (by simp) (by simp -dsimp)) ?_
        refine (C.impl_patternScan_l4 B hB1 hB2 sx81 (fun _ => false) 0 o'94 ho93) _ rfl _ ?_
        rcases o'94 with r096 | sx95
        ·dsimp only at hF
         cases hF
         intro st h
         simpa using h
        ·dsimp only at hF
         cases hF
         repeat (first | refine chk.ga ?_ | simp -dsimp)
         all_goals (try omega)
     ·have q9 : (p.op = 2) := auq h8
      rw [if_pos q9] at hF
      repeat (first | refine chk.ga ?_ | simp -dsimp [h1, q2, h3, q4, h6, q7, h8, q9])
      have hF := ob hF; obtain ⟨o'127, ho126, hF⟩ := hF
      refine ALoop.goU ⟨[(0, .arr (List.map Vl.Data.c w)), (3, .lit (.int .i64 deep)), (4, .ptr 0 0), (7, .ptr 2 0), (12, .arr (List.map Vl.Ty.c v.1)), (14, .own 4 (List.length (α := Vl.VarType) [(⟨p.var, t⟩ : Vl.VarType)])), (60, .arr (List.map Vl.Pattern.c p.kids)), (61, .lit (.int .i64 (p.kids.length : Int))), (62, .lit (.int .i64 (0 : Int)))], [.cells [.lit (.int .i64 (IntKind.i64.wrap (count + 1)))], .dead, .cells [.lit (.int .i64 p.op), .lit (.int .i64 p.ctor), .lit (.int .i64 p.n), .lit (.int .i64 p.m), .lit (.int .i64 p.var), .arr (List.map Vl.Pattern.c p.kids)], .dead, .elems 3 (List.map Vl.VarType.c [(⟨p.var, t⟩ : Vl.VarType)])]⟩ (Gh.to3 (by simp) (by first | simp -dsimp [h1, q2, h3, q4, h6, q7, h8, q9]; done | simp_all)) ?_
      refine (ih_impl_patternScan_l5 p deep v (IntKind.i64.wrap (count + 1)) [(⟨p.var, t⟩ : Vl.VarType)] 0 o'127 ho126) _ rfl _ ?_
      rcases o'127 with r0144 | sx128
      ·dsimp only at hF
       cases hF
       intro st h
       simpa using h
      ·dsimp only at hF
       repeat (first | refine chk.ga ?_ | simp -dsimp)
       have hF := ob hF; obtain ⟨o'141, ho140, hF⟩ := hF
       refine ALoop.goU ⟨[(14, .own 4 (List.length (α := Vl.VarType) sx128.2)), (19, .ptr 5 0), (99, .own 4 (List.length (α := Vl.VarType) sx128.2)), (100, .lit (.int .i64 (sx128.2.length : Int))), (101, .lit (.int .i64 (0 : Int)))], [.cells [.lit (.int .i64 sx128.1)], .dead, .dead, .dead, .elems 3 (List.map Vl.VarType.c sx128.2), .cells (fcB 6 (fun _ => false))]⟩ (Gh.to3 (by simp) (by simp -dsimp)) ?_
       refine (C.impl_patternScan_l6 B hB1 hB2 sx128 (fun _ => false) 0 o'141 ho140) _ rfl _ ?_
       rcases o'141 with r0143 | sx142
       ·dsimp only at hF
        cases hF
        intro st h
        simpa using h
       ·dsimp only at hF
        cases hF
        repeat (first | refine chk.ga ?_ | simp -dsimp)
        all_goals (try omega)
  ·have q2 : (60 < IntKind.i64.wrap (count + 1)) := auq h1
   rw [if_pos q2] at hF
   cases hF
   repeat (first | refine chk.ga ?_ | simp -dsimp [h1, q2])
   all_goals (try omega)
 ·intro _f_impl_patternScan _f_impl_patternScan_l3 ih_impl_patternScan ih_impl_patternScan_l3 p deep v z51 vars52 i53 o hF
  intro c hc Q hq
  obtain rfl : c = _ := navEq hc rfl
  refine ALoopU.know fun hk hs => ?_
  have b0 := hk 0
  simp -dsimp at b0
  have b12 := hk 12
  simp -dsimp at b12
  have b60 := hk 60
  simp -dsimp at b60
  have d2 := hs 2 _ rfl
  simp -dsimp [Blk.bnd] at d2
  have d3 := hs 3 _ rfl
  simp -dsimp [Blk.bnd] at d3
  clear hk hs
  refine ALoopU.enter ?_
  repeat (first | refine chk.ga ?_ | simp -dsimp)
  refine abr.split (fun h54 => ?_) (fun h54 => ?_)
  ·have q55 : (i53 < p.kids.length) := auq h54
   have z56 : ((i53 : Int) < (p.kids.length : Int)) := auz
   rw [if_pos q55] at hF
   have hF := ob hF; obtain ⟨x57, e58, hF⟩ := hF
   have le58 := lt_of_get e58
   repeat (first | refine chk.ga ?_ | simp -dsimp [h54, z56, ↓e58])
   refine ADraw.eff [208] [(0, 0), (0, 0), (0, 0), (0, 0), (0, 0), (0, 0), (0, 0), (0, 0), (0, 0), (0, 1), (1, 1), (1, 1), (1, 1), (1, 1), (1, 1)] [1, 1, 1, 1, 1, 1, 1, 1, 1, 1, 1, 1, 1, 1, 1] follows (by kernel_rfl) (by kernel_rfl) (by kernel_rfl) ?_
   have hF := ob hF; obtain ⟨x59, e60, hF⟩ := hF
   have le60 := lt_of_get e60
   repeat (first | refine chk.ga ?_ | simp -dsimp [h54, z56, ↓e58, ↓e60])
   have hF := ob hF; obtain ⟨v61, e62, hF⟩ := hF
   refine ((ih_impl_patternScan x59 x57 (IntKind.i64.wrap (deep + 1)) z51 v61 e62)).ego 0 rfl (by first | simp [h54, z56, ↓e58, ↓e60]; done | simp_all) (by simp) (by first | simp [h54, z56, ↓e58, ↓e60]; done | simp_all) ?_
   repeat (first | refine chk.ga ?_ | simp -dsimp [h54, z56, ↓e58, ↓e60])
   refine abr.split (fun h63 => ?_) (fun h63 => ?_)
   ·have q64 : ¬ (v61.2.1 = true) := auq h63
    rw [if_neg q64] at hF
    cases hF
    repeat (first | refine chk.ga ?_ | simp -dsimp [h54, z56, ↓e58, ↓e60, h63, q64])
    refine Leave.go _ (Gh.refl _) (hq _ ?_)
    repeat (first | refine chk.ga ?_ | simp -dsimp [h54, z56, ↓e58, ↓e60, h63, q64])
   ·have q64 : (v61.2.1 = true) := auq h63
    rw [if_pos q64] at hF
    repeat (first | refine chk.ga ?_ | simp -dsimp [h54, z56, ↓e58, ↓e60, h63, q64])
    refine abr.split (fun h65 => ?_) (fun h65 => ?_)
    ·have q66 : (p.op = 5) := auq h65
     rw [if_pos q66] at hF
     repeat (first | refine chk.ga ?_ | simp -dsimp [h54, z56, ↓e58, ↓e60, h63, q64, h65])
     refine abr.split (fun h67 => ?_) (fun h67 => ?_)
     ·have q68 : (i53 = 1) := auq h67
      have z69 : ((i53 : Int) = (1 : Int)) := auz
      rw [if_pos q68] at hF
      repeat (first | refine chk.ga ?_ | simp -dsimp [h54, z56, ↓e58, ↓e60, h63, q64, h65, eq_true h67, eq_true z69])
      have hF := ob hF; obtain ⟨v70, e71, hF⟩ := hF
      refine ((C.impl_sameVars B hB1 hB2 vars52 v61.1 v70 e71)).lend (by first | simp -dsimp [h54, z56, ↓e58, ↓e60, h63, q64, h65, eq_true h67, eq_true z69]; done | simp_all) (by simp -dsimp) ?_
      repeat (first | refine chk.ga ?_ | simp -dsimp [h54, z56, ↓e58, ↓e60, h63, q64, h65, eq_true h67, eq_true z69])
      refine abr.split (fun h72 => ?_) (fun h72 => ?_)
      ·have q73 : ¬ (v70 = true) := auq h72
       rw [if_neg q73] at hF
       cases hF
       repeat (first | refine chk.ga ?_ | simp -dsimp [h54, z56, ↓e58, ↓e60, h63, q64, h65, eq_true h67, eq_true z69, h72, q73])
       refine Leave.go _ (Gh.refl _) (hq _ ?_)
       repeat (first | refine chk.ga ?_ | simp -dsimp [h54, z56, ↓e58, ↓e60, h63, q64, h65, eq_true h67, eq_true z69, h72, q73])
      ·have q73 : (v70 = true) := auq h72
       rw [if_pos q73] at hF
       have w74 : IntKind.i64.wrap ((i53 : Int) + 1) = (i53 : Int) + 1 := wrap_in (by omega) (by omega)
       repeat (first | refine chk.ga ?_ | simp -dsimp [h54, z56, ↓e58, ↓e60, h63, q64, h65, eq_true h67, eq_true z69, h72, q73, w74])
       refine Again.go ⟨[(0, .arr (List.map Vl.Data.c w)), (3, .lit (.int .i64 deep)), (4, .ptr 0 0), (7, .ptr 2 0), (12, .arr (List.map Vl.Ty.c v.1)), (14, .own 3 (List.length (α := Vl.VarType) vars52)), (60, .arr (List.map Vl.Pattern.c p.kids)), (61, .lit (.int .i64 (p.kids.length : Int))), (62, .lit (.int .i64 ((i53 + 1) : Int)))], [.cells [.lit (.int .i64 v61.2.2)], .dead, .cells [.lit (.int .i64 p.op), .lit (.int .i64 p.ctor), .lit (.int .i64 p.n), .lit (.int .i64 p.m), .lit (.int .i64 p.var), .arr (List.map Vl.Pattern.c p.kids)], .elems 3 (List.map Vl.VarType.c vars52)]⟩ (Gh.to3 (by simp) (by first | simp -dsimp [h54, z56, ↓e58, ↓e60, h63, q64, h65, eq_true h67, eq_true z69, h72, q73, w74]; done | simp_all)) ?_
       exact (ih_impl_patternScan_l3 p deep v v61.2.2 vars52 (i53 + 1) o hF) _ rfl _ hq
     ·have q68 : ¬ (i53 = 1) := auq h67
      have z69 : ¬ ((i53 : Int) = (1 : Int)) := auz
      rw [if_neg q68] at hF
      have hF := oc hF; obtain ⟨c75, hF⟩ := hF
      have w76 : IntKind.i64.wrap ((i53 : Int) + 1) = (i53 : Int) + 1 := wrap_in (by omega) (by omega)
      repeat (first | refine chk.ga ?_ | simp -dsimp [h54, z56, ↓e58, ↓e60, h63, q64, h65, h67, q68, z69, w76])
      refine Again.go ⟨[(0, .arr (List.map Vl.Data.c w)), (3, .lit (.int .i64 deep)), (4, .ptr 0 0), (7, .ptr 2 0), (12, .arr (List.map Vl.Ty.c v.1)), (14, .own 3 (List.length (α := Vl.VarType) (vars52 ++ v61.1))), (60, .arr (List.map Vl.Pattern.c p.kids)), (61, .lit (.int .i64 (p.kids.length : Int))), (62, .lit (.int .i64 ((i53 + 1) : Int)))], [.cells [.lit (.int .i64 v61.2.2)], .dead, .cells [.lit (.int .i64 p.op), .lit (.int .i64 p.ctor), .lit (.int .i64 p.n), .lit (.int .i64 p.m), .lit (.int .i64 p.var), .arr (List.map Vl.Pattern.c p.kids)], .elems 3 (List.map Vl.VarType.c (vars52 ++ v61.1))]⟩ (Gh.to3 (by simp) (by first | simp -dsimp [h54, z56, ↓e58, ↓e60, h63, q64, h65, h67, q68, z69, w76]; done | simp_all)) ?_
      exact (ih_impl_patternScan_l3 p deep v v61.2.2 (vars52 ++ v61.1) (i53 + 1) o hF) _ rfl _ hq
    ·have q66 : ¬ (p.op = 5) := auq h65
     rw [if_neg q66] at hF
     have hF := oc hF; obtain ⟨c77, hF⟩ := hF
     have w78 : IntKind.i64.wrap ((i53 : Int) + 1) = (i53 : Int) + 1 := wrap_in (by omega) (by omega)
     repeat (first | refine chk.ga ?_ | simp -dsimp [h54, z56, ↓e58, ↓e60, h63, q64, h65, q66, w78])
     refine Again.go ⟨[(0, .arr (List.map Vl.Data.c w)), (3, .lit (.int .i64 deep)), (4, .ptr 0 0), (7, .ptr 2 0), (12, .arr (List.map Vl.Ty.c v.1)), (14, .own 3 (List.length (α := Vl.VarType) (vars52 ++ v61.1))), (60, .arr (List.map Vl.Pattern.c p.kids)), (61, .lit (.int .i64 (p.kids.length : Int))), (62, .lit (.int .i64 ((i53 + 1) : Int)))], [.cells [.lit (.int .i64 v61.2.2)], .dead, .cells [.lit (.int .i64 p.op), .lit (.int .i64 p.ctor), .lit (.int .i64 p.n), .lit (.int .i64 p.m), .lit (.int .i64 p.var), .arr (List.map Vl.Pattern.c p.kids)], .elems 3 (List.map Vl.VarType.c (vars52 ++ v61.1))]⟩ (Gh.to3 (by simp) (by first | simp -dsimp [h54, z56, ↓e58, ↓e60, h63, q64, h65, q66, w78]; done | simp_all)) ?_
     exact (ih_impl_patternScan_l3 p deep v v61.2.2 (vars52 ++ v61.1) (i53 + 1) o hF) _ rfl _ hq
  ·have q55 : ¬ (i53 < p.kids.length) := auq h54
   have z56 : ¬ ((i53 : Int) < (p.kids.length : Int)) := auz
   rw [if_neg q55] at hF
   cases hF
   repeat (first | refine chk.ga ?_ | simp -dsimp [h54, q55, z56])
   refine Leave.go ⟨[(14, .own 3 (List.length (α := Vl.VarType) vars52))], [.cells [.lit (.int .i64 z51)], .dead, .dead, .elems 3 (List.map Vl.VarType.c vars52)]⟩ (Gh.to3 (by simp) (by first | simp -dsimp [h54, q55, z56]; done | simp_all)) ?_
   exact hq
 ·intro _f_impl_patternScan _f_impl_patternScan_l1 ih_impl_patternScan ih_impl_patternScan_l1 p deep v z vars i o hF
  intro c hc Q hq
  obtain rfl : c = _ := navEq hc rfl
  refine ALoopU.know fun hk hs => ?_
  have b0 := hk 0
  simp -dsimp at b0
  have b12 := hk 12
  simp -dsimp at b12
  have b60 := hk 60
  simp -dsimp at b60
  have d2 := hs 2 _ rfl
  simp -dsimp [Blk.bnd] at d2
  have d4 := hs 4 _ rfl
  simp -dsimp [Blk.bnd] at d4
  clear hk hs
  refine ALoopU.enter ?_
  repeat (first | refine chk.ga ?_ | simp -dsimp)
  refine abr.split (fun h12 => ?_) (fun h12 => ?_)
  ·have q13 : (i < p.kids.length) := auq h12
   have z14 : ((i : Int) < (p.kids.length : Int)) := auz
   rw [if_pos q13] at hF
   have hF := ob hF; obtain ⟨x, e15, hF⟩ := hF
   have le15 := lt_of_get e15
   repeat (first | refine chk.ga ?_ | simp -dsimp [h12, z14, ↓e15])
   refine ADraw.eff [208] [(0, 0), (0, 0), (0, 0), (0, 0), (0, 0), (0, 0), (0, 0), (0, 0), (0, 0), (0, 1), (1, 1), (1, 1), (1, 1), (1, 1), (1, 1)] [1, 1, 1, 1, 1, 1, 1, 1, 1, 1, 1, 1, 1, 1, 1] follows (by kernel_rfl) (by kernel_rfl) (by kernel_rfl) ?_
   have hF := ob hF; obtain ⟨x16, e17, hF⟩ := hF
   have le17 := lt_of_get e17
   repeat (first | refine chk.ga ?_ | simp -dsimp [h12, z14, ↓e15, ↓e17])
   have hF := ob hF; obtain ⟨v18, e19, hF⟩ := hF
   refine ((ih_impl_patternScan x16 x (IntKind.i64.wrap (deep + 1)) z v18 e19)).ego 0 rfl (by first | simp [h12, z14, ↓e15, ↓e17]; done | simp_all) (by simp) (by first | simp [h12, z14, ↓e15, ↓e17]; done | simp_all) ?_
   repeat (first | refine chk.ga ?_ | simp -dsimp [h12, z14, ↓e15, ↓e17])
   refine abr.split (fun h20 => ?_) (fun h20 => ?_)
   ·have q21 : ¬ (v18.2.1 = true) := auq h20
    rw [if_neg q21] at hF
    cases hF
    repeat (first | refine chk.ga ?_ | simp -dsimp [h12, z14, ↓e15, ↓e17, h20, q21])
    refine Leave.go _ (Gh.refl _) (hq _ ?_)
    repeat (first | refine chk.ga ?_ | simp -dsimp [h12, z14, ↓e15, ↓e17, h20, q21])
   ·have q21 : (v18.2.1 = true) := auq h20
    rw [if_pos q21] at hF
    repeat (first | refine chk.ga ?_ | simp -dsimp [h12, z14, ↓e15, ↓e17, h20, q21])
    refine abr.split (fun h22 => ?_) (fun h22 => ?_)
    ·have q23 : (p.op = 5) := auq h22
     rw [if_pos q23] at hF
     repeat (first | refine chk.ga ?_ | simp -dsimp [h12, z14, ↓e15, ↓e17, h20, q21, h22])
     refine abr.split (fun h24 => ?_) (fun h24 => ?_)
     ·have q25 : (i = 1) := auq h24
      have z26 : ((i : Int) = (1 : Int)) := auz
      rw [if_pos q25] at hF
      repeat (first | refine chk.ga ?_ | simp -dsimp [h12, z14, ↓e15, ↓e17, h20, q21, h22, eq_true h24, eq_true z26])
      have hF := ob hF; obtain ⟨v27, e28, hF⟩ := hF
      refine ((C.impl_sameVars B hB1 hB2 vars v18.1 v27 e28)).lend (by first | simp -dsimp [h12, z14, ↓e15, ↓e17, h20, q21, h22, eq_true h24, eq_true z26]; done | simp_all) (by simp -dsimp) ?_
      repeat (first | refine chk.ga ?_ | simp -dsimp [h12, z14, ↓e15, ↓e17, h20, q21, h22, eq_true h24, eq_true z26])
      refine abr.split (fun h29 => ?_) (fun h29 => ?_)
      ·have q30 : ¬ (v27 = true) := auq h29
       rw [if_neg q30] at hF
       cases hF
       repeat (first | refine chk.ga ?_ | simp -dsimp [h12, z14, ↓e15, ↓e17, h20, q21, h22, eq_true h24, eq_true z26, h29, q30])
       refine Leave.go _ (Gh.refl _) (hq _ ?_)
       repeat (first | refine chk.ga ?_ | simp -dsimp [h12, z14, ↓e15, ↓e17, h20, q21, h22, eq_true h24, eq_true z26, h29, q30])
      ·have q30 : (v27 = true) := auq h29
       rw [if_pos q30] at hF
       have w31 : IntKind.i64.wrap ((i : Int) + 1) = (i : Int) + 1 := wrap_in (by omega) (by omega)
       repeat (first | refine chk.ga ?_ | simp -dsimp [h12, z14, ↓e15, ↓e17, h20, q21, h22, eq_true h24, eq_true z26, h29, q30, w31])
       refine Again.go ⟨[(0, .arr (List.map Vl.Data.c w)), (3, .lit (.int .i64 deep)), (4, .ptr 0 0), (7, .ptr 2 0), (12, .arr (List.map Vl.Ty.c v.1)), (14, .own 4 (List.length (α := Vl.VarType) vars)), (60, .arr (List.map Vl.Pattern.c p.kids)), (61, .lit (.int .i64 (p.kids.length : Int))), (62, .lit (.int .i64 ((i + 1) : Int)))], [.cells [.lit (.int .i64 v18.2.2)], .dead, .cells [.lit (.int .i64 p.op), .lit (.int .i64 p.ctor), .lit (.int .i64 p.n), .lit (.int .i64 p.m), .lit (.int .i64 p.var), .arr (List.map Vl.Pattern.c p.kids)], .dead, .elems 3 (List.map Vl.VarType.c vars)]⟩ (Gh.to3 (by simp) (by first | simp -dsimp [h12, z14, ↓e15, ↓e17, h20, q21, h22, eq_true h24, eq_true z26, h29, q30, w31]; done | simp_all)) ?_
       exact (ih_impl_patternScan_l1 p deep v v18.2.2 vars (i + 1) o hF) _ rfl _ hq
     ·have q25 : ¬ (i = 1) := auq h24
      have z26 : ¬ ((i : Int) = (1 : Int)) := auz
      rw [if_neg q25] at hF
      have hF := oc hF; obtain ⟨c32, hF⟩ := hF
      have w33 : IntKind.i64.wrap ((i : Int) + 1) = (i : Int) + 1 := wrap_in (by omega) (by omega)
      repeat (first | refine chk.ga ?_ | simp -dsimp [h12, z14, ↓e15, ↓e17, h20, q21, h22, h24, q25, z26, w33])
      refine Again.go ⟨[(0, .arr (List.map Vl.Data.c w)), (3, .lit (.int .i64 deep)), (4, .ptr 0 0), (7, .ptr 2 0), (12, .arr (List.map Vl.Ty.c v.1)), (14, .own 4 (List.length (α := Vl.VarType) (vars ++ v18.1))), (60, .arr (List.map Vl.Pattern.c p.kids)), (61, .lit (.int .i64 (p.kids.length : Int))), (62, .lit (.int .i64 ((i + 1) : Int)))], [.cells [.lit (.int .i64 v18.2.2)], .dead, .cells [.lit (.int .i64 p.op), .lit (.int .i64 p.ctor), .lit (.int .i64 p.n), .lit (.int .i64 p.m), .lit (.int .i64 p.var), .arr (List.map Vl.Pattern.c p.kids)], .dead, .elems 3 (List.map Vl.VarType.c (vars ++ v18.1))]⟩ (Gh.to3 (by simp) (by first | simp -dsimp [h12, z14, ↓e15, ↓e17, h20, q21, h22, h24, q25, z26, w33]; done | simp_all)) ?_
      exact (ih_impl_patternScan_l1 p deep v v18.2.2 (vars ++ v18.1) (i + 1) o hF) _ rfl _ hq
    ·have q23 : ¬ (p.op = 5) := auq h22
     rw [if_neg q23] at hF
     have hF := oc hF; obtain ⟨c34, hF⟩ := hF
     have w35 : IntKind.i64.wrap ((i : Int) + 1) = (i : Int) + 1 := wrap_in (by omega) (by omega)
     repeat (first | refine chk.ga ?_ | simp -dsimp [h12, z14, ↓e15, ↓e17, h20, q21, h22, q23, w35])
     refine Again.go ⟨[(0, .arr (List.map Vl.Data.c w)), (3, .lit (.int .i64 deep)), (4, .ptr 0 0), (7, .ptr 2 0), (12, .arr (List.map Vl.Ty.c v.1)), (14, .own 4 (List.length (α := Vl.VarType) (vars ++ v18.1))), (60, .arr (List.map Vl.Pattern.c p.kids)), (61, .lit (.int .i64 (p.kids.length : Int))), (62, .lit (.int .i64 ((i + 1) : Int)))], [.cells [.lit (.int .i64 v18.2.2)], .dead, .cells [.lit (.int .i64 p.op), .lit (.int .i64 p.ctor), .lit (.int .i64 p.n), .lit (.int .i64 p.m), .lit (.int .i64 p.var), .arr (List.map Vl.Pattern.c p.kids)], .dead, .elems 3 (List.map Vl.VarType.c (vars ++ v18.1))]⟩ (Gh.to3 (by simp) (by first | simp -dsimp [h12, z14, ↓e15, ↓e17, h20, q21, h22, q23, w35]; done | simp_all)) ?_
     exact (ih_impl_patternScan_l1 p deep v v18.2.2 (vars ++ v18.1) (i + 1) o hF) _ rfl _ hq
  ·have q13 : ¬ (i < p.kids.length) := auq h12
   have z14 : ¬ ((i : Int) < (p.kids.length : Int)) := auz
   rw [if_neg q13] at hF
   cases hF
   repeat (first | refine chk.ga ?_ | simp -dsimp [h12, q13, z14])
   refine Leave.go ⟨[(14, .own 4 (List.length (α := Vl.VarType) vars))], [.cells [.lit (.int .i64 z)], .dead, .dead, .dead, .elems 3 (List.map Vl.VarType.c vars)]⟩ (Gh.to3 (by simp) (by first | simp -dsimp [h12, q13, z14]; done | simp_all)) ?_
   exact hq
 ·intro _f_impl_patternScan _f_impl_patternScan_l5 ih_impl_patternScan ih_impl_patternScan_l5 p deep v z98 vars99 i100 o hF
  intro c hc Q hq
  obtain rfl : c = _ := navEq hc rfl
  refine ALoopU.know fun hk hs => ?_
  have b0 := hk 0
  simp -dsimp at b0
  have b12 := hk 12
  simp -dsimp at b12
  have b60 := hk 60
  simp -dsimp at b60
  have d2 := hs 2 _ rfl
  simp -dsimp [Blk.bnd] at d2
  have d4 := hs 4 _ rfl
  simp -dsimp [Blk.bnd] at d4
  clear hk hs
  refine ALoopU.enter ?_
  repeat (first | refine chk.ga ?_ | simp -dsimp)
  refine abr.split (fun h101 => ?_) (fun h101 => ?_)
  ·have q102 : (i100 < p.kids.length) := auq h101
   have z103 : ((i100 : Int) < (p.kids.length : Int)) := auz
   rw [if_pos q102] at hF
   have hF := ob hF; obtain ⟨x104, e105, hF⟩ := hF
   have le105 := lt_of_get e105
   repeat (first | refine chk.ga ?_ | simp -dsimp [h101, z103, ↓e105])
   refine ADraw.eff [208] [(0, 0), (0, 0), (0, 0), (0, 0), (0, 0), (0, 0), (0, 0), (0, 0), (0, 0), (0, 1), (1, 1), (1, 1), (1, 1), (1, 1), (1, 1)] [1, 1, 1, 1, 1, 1, 1, 1, 1, 1, 1, 1, 1, 1, 1] follows (by kernel_rfl) (by kernel_rfl) (by kernel_rfl) ?_
   have hF := ob hF; obtain ⟨x106, e107, hF⟩ := hF
   have le107 := lt_of_get e107
   repeat (first | refine chk.ga ?_ | simp -dsimp [h101, z103, ↓e105, ↓e107])
   have hF := ob hF; obtain ⟨v108, e109, hF⟩ := hF
   refine ((ih_impl_patternScan x106 x104 (IntKind.i64.wrap (deep + 1)) z98 v108 e109)).ego 0 rfl (by first | simp [h101, z103, ↓e105, ↓e107]; done | simp_all) (by simp) (by first | simp [h101, z103, ↓e105, ↓e107]; done | simp_all) ?_
   repeat (first | refine chk.ga ?_ | simp -dsimp [h101, z103, ↓e105, ↓e107])
   refine abr.split (fun h110 => ?_) (fun h110 => ?_)
   ·have q111 : ¬ (v108.2.1 = true) := auq h110
    rw [if_neg q111] at hF
    cases hF
    repeat (first | refine chk.ga ?_ | simp -dsimp [h101, z103, ↓e105, ↓e107, h110, q111])
    refine Leave.go _ (Gh.refl _) (hq _ ?_)
    repeat (first | refine chk.ga ?_ | simp -dsimp [h101, z103, ↓e105, ↓e107, h110, q111])
   ·have q111 : (v108.2.1 = true) := auq h110
    rw [if_pos q111] at hF
    repeat (first | refine chk.ga ?_ | simp -dsimp [h101, z103, ↓e105, ↓e107, h110, q111])
    refine abr.split (fun h112 => ?_) (fun h112 => ?_)
    ·have q113 : (p.op = 5) := auq h112
     rw [if_pos q113] at hF
     repeat (first | refine chk.ga ?_ | simp -dsimp [h101, z103, ↓e105, ↓e107, h110, q111, h112])
     refine abr.split (fun h114 => ?_) (fun h114 => ?_)
     ·have q115 : (i100 = 1) := auq h114
      have z116 : ((i100 : Int) = (1 : Int)) := auz
      rw [if_pos q115] at hF
      repeat (first | refine chk.ga ?_ | simp -dsimp [h101, z103, ↓e105, ↓e107, h110, q111, h112, eq_true h114, eq_true z116])
      have hF := ob hF; obtain ⟨v117, e118, hF⟩ := hF
      refine ((C.impl_sameVars B hB1 hB2 vars99 v108.1 v117 e118)).lend (by first | simp -dsimp [h101, z103, ↓e105, ↓e107, h110, q111, h112, eq_true h114, eq_true z116]; done | simp_all) (by simp -dsimp) ?_
      repeat (first | refine chk.ga ?_ | simp -dsimp [h101, z103, ↓e105, ↓e107, h110, q111, h112, eq_true h114, eq_true z116])
      refine abr.split (fun h119 => ?_) (fun h119 => ?_)
      ·have q120 : ¬ (v117 = true) := auq h119
       rw [if_neg q120] at hF
       cases hF
       repeat (first | refine chk.ga ?_ | simp -dsimp [h101, z103, ↓e105, ↓e107, h110, q111, h112, eq_true h114, eq_true z116, h119, q120])
       refine Leave.go _ (Gh.refl _) (hq _ ?_)
       repeat (first | refine chk.ga ?_ | simp -dsimp [h101, z103, ↓e105, ↓e107, h110, q111, h112, eq_true h114, eq_true z116, h119, q120])
      ·have q120 : (v117 = true) := auq h119
       rw [if_pos q120] at hF
       have w121 : IntKind.i64.wrap ((i100 : Int) + 1) = (i100 : Int) + 1 := wrap_in (by omega) (by omega)
       repeat (first | refine chk.ga ?_ | simp -dsimp [h101, z103, ↓e105, ↓e107, h110, q111, h112, eq_true h114, eq_true z116, h119, q120, w121])
       refine Again.go ⟨[(0, .arr (List.map Vl.Data.c w)), (3, .lit (.int .i64 deep)), (4, .ptr 0 0), (7, .ptr 2 0), (12, .arr (List.map Vl.Ty.c v.1)), (14, .own 4 (List.length (α := Vl.VarType) vars99)), (60, .arr (List.map Vl.Pattern.c p.kids)), (61, .lit (.int .i64 (p.kids.length : Int))), (62, .lit (.int .i64 ((i100 + 1) : Int)))], [.cells [.lit (.int .i64 v108.2.2)], .dead, .cells [.lit (.int .i64 p.op), .lit (.int .i64 p.ctor), .lit (.int .i64 p.n), .lit (.int .i64 p.m), .lit (.int .i64 p.var), .arr (List.map Vl.Pattern.c p.kids)], .dead, .elems 3 (List.map Vl.VarType.c vars99)]⟩ (Gh.to3 (by simp) (by first | simp -dsimp [h101, z103, ↓e105, ↓e107, h110, q111, h112, eq_true h114, eq_true z116, h119, q120, w121]; done | simp_all)) ?_
       exact (ih_impl_patternScan_l5 p deep v v108.2.2 vars99 (i100 + 1) o hF) _ rfl _ hq
     ·have q115 : ¬ (i100 = 1) := auq h114
      have z116 : ¬ ((i100 : Int) = (1 : Int)) := auz
      rw [if_neg q115] at hF
      have hF := oc hF; obtain ⟨c122, hF⟩ := hF
      have w123 : IntKind.i64.wrap ((i100 : Int) + 1) = (i100 : Int) + 1 := wrap_in (by omega) (by omega)
      repeat (first | refine chk.ga ?_ | simp -dsimp [h101, z103, ↓e105, ↓e107, h110, q111, h112, h114, q115, z116, w123])
      refine Again.go ⟨[(0, .arr (List.map Vl.Data.c w)), (3, .lit (.int .i64 deep)), (4, .ptr 0 0), (7, .ptr 2 0), (12, .arr (List.map Vl.Ty.c v.1)), (14, .own 4 (List.length (α := Vl.VarType) (vars99 ++ v108.1))), (60, .arr (List.map Vl.Pattern.c p.kids)), (61, .lit (.int .i64 (p.kids.length : Int))), (62, .lit (.int .i64 ((i100 + 1) : Int)))], [.cells [.lit (.int .i64 v108.2.2)], .dead, .cells [.lit (.int .i64 p.op), .lit (.int .i64 p.ctor), .lit (.int .i64 p.n), .lit (.int .i64 p.m), .lit (.int .i64 p.var), .arr (List.map Vl.Pattern.c p.kids)], .dead, .elems 3 (List.map Vl.VarType.c (vars99 ++ v108.1))]⟩ (Gh.to3 (by simp) (by first | simp -dsimp [h101, z103, ↓e105, ↓e107, h110, q111, h112, h114, q115, z116, w123]; done | simp_all)) ?_
      exact (ih_impl_patternScan_l5 p deep v v108.2.2 (vars99 ++ v108.1) (i100 + 1) o hF) _ rfl _ hq
    ·have q113 : ¬ (p.op = 5) := auq h112
     rw [if_neg q113] at hF
     have hF := oc hF; obtain ⟨c124, hF⟩ := hF
     have w125 : IntKind.i64.wrap ((i100 : Int) + 1) = (i100 : Int) + 1 := wrap_in (by omega) (by omega)
     repeat (first | refine chk.ga ?_ | simp -dsimp [h101, z103, ↓e105, ↓e107, h110, q111, h112, q113, w125])
     refine Again.go ⟨[(0, .arr (List.map Vl.Data.c w)), (3, .lit (.int .i64 deep)), (4, .ptr 0 0), (7, .ptr 2 0), (12, .arr (List.map Vl.Ty.c v.1)), (14, .own 4 (List.length (α := Vl.VarType) (vars99 ++ v108.1))), (60, .arr (List.map Vl.Pattern.c p.kids)), (61, .lit (.int .i64 (p.kids.length : Int))), (62, .lit (.int .i64 ((i100 + 1) : Int)))], [.cells [.lit (.int .i64 v108.2.2)], .dead, .cells [.lit (.int .i64 p.op), .lit (.int .i64 p.ctor), .lit (.int .i64 p.n), .lit (.int .i64 p.m), .lit (.int .i64 p.var), .arr (List.map Vl.Pattern.c p.kids)], .dead, .elems 3 (List.map Vl.VarType.c (vars99 ++ v108.1))]⟩ (Gh.to3 (by simp) (by first | simp -dsimp [h101, z103, ↓e105, ↓e107, h110, q111, h112, q113, w125]; done | simp_all)) ?_
     exact (ih_impl_patternScan_l5 p deep v v108.2.2 (vars99 ++ v108.1) (i100 + 1) o hF) _ rfl _ hq
  ·have q102 : ¬ (i100 < p.kids.length) := auq h101
   have z103 : ¬ ((i100 : Int) < (p.kids.length : Int)) := auz
   rw [if_neg q102] at hF
   cases hF
   repeat (first | refine chk.ga ?_ | simp -dsimp [h101, q102, z103])
   refine Leave.go ⟨[(14, .own 4 (List.length (α := Vl.VarType) vars99))], [.cells [.lit (.int .i64 z98)], .dead, .dead, .dead, .elems 3 (List.map Vl.VarType.c vars99)]⟩ (Gh.to3 (by simp) (by first | simp -dsimp [h101, q102, z103]; done | simp_all)) ?_
   exact hq

theorem C.impl_patternScan (B : Nat) (hB1 : 67108864 ≤ B) (hB2 : B ≤ 9223372036854775807) (w : List Vl.Data) (t : Vl.Ty) (p : Vl.Pattern) (deep : Int) (count : Int) (r : (List Vl.VarType) × Bool × Int) (hF : F.impl_patternScan w t p deep count = some r) : MutCall Try.prog B 208 [.lit (.int .i64 count)] [.arr (List.map Vl.Data.c w), .agg [.lit (.int .i64 t.data), .lit (.int .i64 t.index)], .agg [.lit (.int .i64 p.op), .lit (.int .i64 p.ctor), .lit (.int .i64 p.n), .lit (.int .i64 p.m), .lit (.int .i64 p.var), .arr (List.map Vl.Pattern.c p.kids)], .lit (.int .i64 deep), .ptr 0 0] (.tup [.arr (List.map Vl.VarType.c r.1), .lit (.bool r.2.1)]) [.lit (.int .i64 r.2.2)] :=
 (CC.impl_patternScan B hB1 hB2 w).1 t p deep count r hF

theorem C.impl_patternScan_l3 (B : Nat) (hB1 : 67108864 ≤ B) (hB2 : B ≤ 9223372036854775807) (w : List Vl.Data) (p : Vl.Pattern) (deep : Int) (v : (List Vl.Ty) × Bool) (z51 : Int) (vars52 : List Vl.VarType) (i53 : Nat) (o : Lo ((List Vl.VarType) × Bool × Int) (Int × (List Vl.VarType))) (hF : F.impl_patternScan_l3 w p deep v z51 vars52 i53 = some o) : ∀ (c : Code), navO [1, 1, 1, 1, 1, 1, 1, 0, 1, 0, 0] (bodyOf Try.f208) = some c → ∀ (Q : Exit → ASt → Prop), o.post (fun r => ∀ st, Post Try.prog Try.f208 (fun r' σ' => r'.le (.tup [.arr (List.map Vl.VarType.c r.1), .lit (.bool r.2.1)]) ∧ mcell σ' [.lit (.int .i64 r.2.2)]) .ret st → Q .ret st) (fun s => Q (.exit 0) ⟨[(14, .own 3 (List.length (α := Vl.VarType) s.2))], [.cells [.lit (.int .i64 s.1)], .dead, .dead, .elems 3 (List.map Vl.VarType.c s.2)]⟩) → ALoopU Try.prog B 1 114 (hold c .mk) ⟨[(0, .arr (List.map Vl.Data.c w)), (3, .lit (.int .i64 deep)), (4, .ptr 0 0), (7, .ptr 2 0), (12, .arr (List.map Vl.Ty.c v.1)), (14, .own 3 (List.length (α := Vl.VarType) vars52)), (60, .arr (List.map Vl.Pattern.c p.kids)), (61, .lit (.int .i64 (p.kids.length : Int))), (62, .lit (.int .i64 (i53 : Int)))], [.cells [.lit (.int .i64 z51)], .dead, .cells [.lit (.int .i64 p.op), .lit (.int .i64 p.ctor), .lit (.int .i64 p.n), .lit (.int .i64 p.m), .lit (.int .i64 p.var), .arr (List.map Vl.Pattern.c p.kids)], .elems 3 (List.map Vl.VarType.c vars52)]⟩ (hold Q .mk) :=
 (CC.impl_patternScan B hB1 hB2 w).2.1 p deep v z51 vars52 i53 o hF

theorem C.impl_patternScan_l1 (B : Nat) (hB1 : 67108864 ≤ B) (hB2 : B ≤ 9223372036854775807) (w : List Vl.Data) (p : Vl.Pattern) (deep : Int) (v : (List Vl.Ty) × Bool) (z : Int) (vars : List Vl.VarType) (i : Nat) (o : Lo ((List Vl.VarType) × Bool × Int) (Int × (List Vl.VarType))) (hF : F.impl_patternScan_l1 w p deep v z vars i = some o) : ∀ (c : Code), navO [1, 1, 1, 1, 1, 1, 1, 0, 1, 0, 0] (bodyOf Try.f208) = some c → ∀ (Q : Exit → ASt → Prop), o.post (fun r => ∀ st, Post Try.prog Try.f208 (fun r' σ' => r'.le (.tup [.arr (List.map Vl.VarType.c r.1), .lit (.bool r.2.1)]) ∧ mcell σ' [.lit (.int .i64 r.2.2)]) .ret st → Q .ret st) (fun s => Q (.exit 0) ⟨[(14, .own 4 (List.length (α := Vl.VarType) s.2))], [.cells [.lit (.int .i64 s.1)], .dead, .dead, .dead, .elems 3 (List.map Vl.VarType.c s.2)]⟩) → ALoopU Try.prog B 1 114 (hold c .mk) ⟨[(0, .arr (List.map Vl.Data.c w)), (3, .lit (.int .i64 deep)), (4, .ptr 0 0), (7, .ptr 2 0), (12, .arr (List.map Vl.Ty.c v.1)), (14, .own 4 (List.length (α := Vl.VarType) vars)), (60, .arr (List.map Vl.Pattern.c p.kids)), (61, .lit (.int .i64 (p.kids.length : Int))), (62, .lit (.int .i64 (i : Int)))], [.cells [.lit (.int .i64 z)], .dead, .cells [.lit (.int .i64 p.op), .lit (.int .i64 p.ctor), .lit (.int .i64 p.n), .lit (.int .i64 p.m), .lit (.int .i64 p.var), .arr (List.map Vl.Pattern.c p.kids)], .dead, .elems 3 (List.map Vl.VarType.c vars)]⟩ (hold Q .mk) :=
 (CC.impl_patternScan B hB1 hB2 w).2.2.1 p deep v z vars i o hF

theorem C.impl_patternScan_l5 (B : Nat) (hB1 : 67108864 ≤ B) (hB2 : B ≤ 9223372036854775807) (w : List Vl.Data) (p : Vl.Pattern) (deep : Int) (v : (List Vl.Ty) × Bool) (z98 : Int) (vars99 : List Vl.VarType) (i100 : Nat) (o : Lo ((List Vl.VarType) × Bool × Int) (Int × (List Vl.VarType))) (hF : F.impl_patternScan_l5 w p deep v z98 vars99 i100 = some o) : ∀ (c : Code), navO [1, 1, 1, 1, 1, 1, 1, 0, 1, 0, 0] (bodyOf Try.f208) = some c → ∀ (Q : Exit → ASt → Prop), o.post (fun r => ∀ st, Post Try.prog Try.f208 (fun r' σ' => r'.le (.tup [.arr (List.map Vl.VarType.c r.1), .lit (.bool r.2.1)]) ∧ mcell σ' [.lit (.int .i64 r.2.2)]) .ret st → Q .ret st) (fun s => Q (.exit 0) ⟨[(14, .own 4 (List.length (α := Vl.VarType) s.2))], [.cells [.lit (.int .i64 s.1)], .dead, .dead, .dead, .elems 3 (List.map Vl.VarType.c s.2)]⟩) → ALoopU Try.prog B 1 114 (hold c .mk) ⟨[(0, .arr (List.map Vl.Data.c w)), (3, .lit (.int .i64 deep)), (4, .ptr 0 0), (7, .ptr 2 0), (12, .arr (List.map Vl.Ty.c v.1)), (14, .own 4 (List.length (α := Vl.VarType) vars99)), (60, .arr (List.map Vl.Pattern.c p.kids)), (61, .lit (.int .i64 (p.kids.length : Int))), (62, .lit (.int .i64 (i100 : Int)))], [.cells [.lit (.int .i64 z98)], .dead, .cells [.lit (.int .i64 p.op), .lit (.int .i64 p.ctor), .lit (.int .i64 p.n), .lit (.int .i64 p.m), .lit (.int .i64 p.var), .arr (List.map Vl.Pattern.c p.kids)], .dead, .elems 3 (List.map Vl.VarType.c vars99)]⟩ (hold Q .mk) :=
 (CC.impl_patternScan B hB1 hB2 w).2.2.2 p deep v z98 vars99 i100 o hF

set_option maxRecDepth 100000 in
set_option maxHeartbeats 4000000 in
theorem C.impl_patternVars (B : Nat) (hB1 : 67108864 ≤ B) (hB2 : B ≤ 9223372036854775807) (w : List Vl.Data) (t : Vl.Ty) (p : Vl.Pattern) (r : (List Vl.VarType) × Bool) (hF : F.impl_patternVars w t p = some r) : PureCall Try.prog B 172 [.arr (List.map Vl.Data.c w), .agg [.lit (.int .i64 t.data), .lit (.int .i64 t.index)], .agg [.lit (.int .i64 p.op), .lit (.int .i64 p.ctor), .lit (.int .i64 p.n), .lit (.int .i64 p.m), .lit (.int .i64 p.var), .arr (List.map Vl.Pattern.c p.kids)]] (.tup [.arr (List.map Vl.VarType.c r.1), .lit (.bool r.2)]) := by
 unfold F.impl_patternVars at hF
 refine PureCall.enterLe Try.func172 (by kernel_rfl) rfl Try.ntmps172 (by simp) (by simp) ?_
 repeat (first | refine chk.ga ?_ | simp -dsimp)
 have hF := ob hF; obtain ⟨v, e1, hF⟩ := hF
 refine ((C.impl_patternScan B hB1 hB2 w t p (1 : Int) (0 : Int) v e1)).go 2 rfl (by simp) (by simp) (by simp) ?_
 cases hF
 repeat (first | refine chk.ga ?_ | simp -dsimp)
 all_goals (try omega)

set_option maxRecDepth 100000 in
set_option maxHeartbeats 4000000 in
theorem C.impl_guardOk (B : Nat) (hB1 : 67108864 ≤ B) (hB2 : B ≤ 9223372036854775807) (g : Vl.Guard) (vars : List Vl.VarType) (r : Bool) (hF : F.impl_guardOk g vars = some r) : PureCall Try.prog B 179 [.agg [.lit (.int .i64 g.op), .lit (.int .i64 g.var), .lit (.int .i64 g.n)], .arr (List.map Vl.VarType.c vars)] (.lit (.bool r)) := by
 unfold F.impl_guardOk at hF
 refine PureCall.enterLe Try.func179 (by kernel_rfl) rfl Try.ntmps179 (by simp) (by simp) ?_
 repeat (first | refine chk.ga ?_ | simp -dsimp)
 refine abr.split (fun h1 => ?_) (fun h1 => ?_)
 ·have q2 : (g.op = 0) := auq h1
  rw [if_pos q2] at hF
  cases hF
  repeat (first | refine chk.ga ?_ | simp -dsimp [h1])
  all_goals (try omega)
 ·have q2 : ¬ (g.op = 0) := auq h1
  rw [if_neg q2] at hF
  repeat (first | refine chk.ga ?_ | simp -dsimp [h1, q2])
  have hF := ob hF; obtain ⟨v, e3, hF⟩ := hF
  refine ((C.impl_within B hB1 hB2 g.op (1 : Int) (2 : Int) v e3)).goW (by first | simp [h1, q2]; done | simp_all) (by simp) ?_
  repeat (first | refine chk.ga ?_ | simp -dsimp [h1, q2])
  refine abr.split (fun h4 => ?_) (fun h4 => ?_)
  ·have q5 : (v = true) := auq h4
   rw [if_pos q5] at hF
   repeat (first | refine chk.ga ?_ | simp -dsimp [h1, q2, h4])
   have hF := ob hF; obtain ⟨v6, e7, hF⟩ := hF
   refine ((C.impl_within B hB1 hB2 g.n (0 : Int) (9 : Int) v6 e7)).goW (by first | simp [h1, q2, h4]; done | simp_all) (by simp) ?_
   repeat (first | refine chk.ga ?_ | simp -dsimp [h1, q2, h4])
   refine abr.split (fun h8 => ?_) (fun h8 => ?_)
   ·have q9 : (v6 = true) := auq h8
    rw [if_pos q9] at hF
    repeat (first | refine chk.ga ?_ | simp -dsimp [h1, q2, h4, h8])
    have hF := ob hF; obtain ⟨v10, e11, hF⟩ := hF
    refine ((C.slices_Contains_VarType B hB1 hB2 vars (⟨g.var, (⟨(-1 : Int), (0 : Int)⟩ : Vl.Ty)⟩ : Vl.VarType) v10 e11)).goW (by first | simp [h1, q2, h4, h8]; done | simp_all) (by simp) ?_
    cases hF
    repeat (first | refine chk.ga ?_ | simp -dsimp [h1, q2, h4, h8])
    all_goals (try omega)
   ·have q9 : ¬ (v6 = true) := auq h8
    rw [if_neg q9] at hF
    cases hF
    repeat (first | refine chk.ga ?_ | simp -dsimp [h1, q2, h4, h8, q9])
    all_goals (try omega)
  ·have q5 : ¬ (v = true) := auq h4
   rw [if_neg q5] at hF
   cases hF
   repeat (first | refine chk.ga ?_ | simp -dsimp [h1, q2, h4, q5])
   all_goals (try omega)

set_option maxRecDepth 100000 in
set_option maxHeartbeats 4000000 in
theorem C.impl_clauseOk (B : Nat) (hB1 : 67108864 ≤ B) (hB2 : B ≤ 9223372036854775807) (w : List Vl.Data) (t : Vl.Ty) (c' : Vl.Clause) (r : Bool) (hF : F.impl_clauseOk w t c' = some r) : PureCall Try.prog B 140 [.arr (List.map Vl.Data.c w), .agg [.lit (.int .i64 t.data), .lit (.int .i64 t.index)], .agg [.lit (.int .i64 c'.pat.op), .lit (.int .i64 c'.pat.ctor), .lit (.int .i64 c'.pat.n), .lit (.int .i64 c'.pat.m), .lit (.int .i64 c'.pat.var), .arr (List.map Vl.Pattern.c c'.pat.kids), .lit (.int .i64 c'.guard.op), .lit (.int .i64 c'.guard.var), .lit (.int .i64 c'.guard.n)]] (.lit (.bool r)) := by
 unfold F.impl_clauseOk at hF
 refine PureCall.enterLe Try.func140 (by kernel_rfl) rfl Try.ntmps140 (by simp) (by simp) ?_
 repeat (first | refine chk.ga ?_ | simp -dsimp)
 have hF := ob hF; obtain ⟨v, e1, hF⟩ := hF
 refine ((C.impl_patternVars B hB1 hB2 w t c'.pat v e1)).goW (by simp) (by simp) ?_
 repeat (first | refine chk.ga ?_ | simp -dsimp)
 refine abr.split (fun h2 => ?_) (fun h2 => ?_)
 ·have q3 : (v.2 = true) := auq h2
  rw [if_pos q3] at hF
  repeat (first | refine chk.ga ?_ | simp -dsimp [h2])
  have hF := ob hF; obtain ⟨v4, e5, hF⟩ := hF
  refine ((C.impl_guardOk B hB1 hB2 c'.guard v.1 v4 e5)).goW (by first | simp [h2]; done | simp_all) (by simp) ?_
  cases hF
  repeat (first | refine chk.ga ?_ | simp -dsimp [h2])
  all_goals (try omega)
 ·have q3 : ¬ (v.2 = true) := auq h2
  rw [if_neg q3] at hF
  cases hF
  repeat (first | refine chk.ga ?_ | simp -dsimp [h2, q3])
  all_goals (try omega)

set_option maxRecDepth 100000 in
set_option maxHeartbeats 4000000 in
theorem C.impl_ClauseValid (B : Nat) (hB1 : 67108864 ≤ B) (hB2 : B ≤ 9223372036854775807) (w : List Vl.Data) (t : Vl.Ty) (c' : Vl.Clause) (r : Bool) (hF : F.impl_ClauseValid w t c' = some r) : PureCall Try.prog B 80 [.arr (List.map Vl.Data.c w), .agg [.lit (.int .i64 t.data), .lit (.int .i64 t.index)], .agg [.lit (.int .i64 c'.pat.op), .lit (.int .i64 c'.pat.ctor), .lit (.int .i64 c'.pat.n), .lit (.int .i64 c'.pat.m), .lit (.int .i64 c'.pat.var), .arr (List.map Vl.Pattern.c c'.pat.kids), .lit (.int .i64 c'.guard.op), .lit (.int .i64 c'.guard.var), .lit (.int .i64 c'.guard.n)]] (.lit (.bool r)) := by
 unfold F.impl_ClauseValid at hF
 refine PureCall.enterLe Try.func80 (by kernel_rfl) rfl Try.ntmps80 (by simp) (by simp) ?_
 repeat (first | refine chk.ga ?_ | simp -dsimp)
 have hF := ob hF; obtain ⟨v, e1, hF⟩ := hF
 refine ((C.impl_TypeValid B hB1 hB2 w t v e1)).goW (by simp) (by simp) ?_
 repeat (first | refine chk.ga ?_ | simp -dsimp)
 refine abr.split (fun h2 => ?_) (fun h2 => ?_)
 ·have q3 : (v = true) := auq h2
  rw [if_pos q3] at hF
  repeat (first | refine chk.ga ?_ | simp -dsimp [h2])
  have hF := ob hF; obtain ⟨v4, e5, hF⟩ := hF
  refine ((C.impl_clauseOk B hB1 hB2 w t c' v4 e5)).goW (by first | simp [h2]; done | simp_all) (by simp) ?_
  cases hF
  repeat (first | refine chk.ga ?_ | simp -dsimp [h2])
  all_goals (try omega)
 ·have q3 : ¬ (v = true) := auq h2
  rw [if_neg q3] at hF
  cases hF
  repeat (first | refine chk.ga ?_ | simp -dsimp [h2, q3])
  all_goals (try omega)

set_option maxRecDepth 100000 in
set_option maxHeartbeats 4000000 in
theorem CC.impl_narrow (B : Nat) (hB1 : 67108864 ≤ B) (hB2 : B ≤ 9223372036854775807) (n : Int) (m : Int) : (∀ (p : Vl.Pattern) (r : Vl.Pattern × Bool), F.impl_narrow p n m = some r → PureCall Try.prog B 180 [.agg [.lit (.int .i64 p.op), .lit (.int .i64 p.ctor), .lit (.int .i64 p.n), .lit (.int .i64 p.m), .lit (.int .i64 p.var), .arr (List.map Vl.Pattern.c p.kids)], .lit (.int .i64 n), .lit (.int .i64 m)] (.tup [.agg [.lit (.int .i64 r.1.op), .lit (.int .i64 r.1.ctor), .lit (.int .i64 r.1.n), .lit (.int .i64 r.1.m), .lit (.int .i64 r.1.var), .arr (List.map Vl.Pattern.c r.1.kids)], .lit (.bool r.2)])) := by
 refine F.impl_narrow.partial_correctness n m
  (fun p r => PureCall Try.prog B 180 [.agg [.lit (.int .i64 p.op), .lit (.int .i64 p.ctor), .lit (.int .i64 p.n), .lit (.int .i64 p.m), .lit (.int .i64 p.var), .arr (List.map Vl.Pattern.c p.kids)], .lit (.int .i64 n), .lit (.int .i64 m)] (.tup [.agg [.lit (.int .i64 r.1.op), .lit (.int .i64 r.1.ctor), .lit (.int .i64 r.1.n), .lit (.int .i64 r.1.m), .lit (.int .i64 r.1.var), .arr (List.map Vl.Pattern.c r.1.kids)], .lit (.bool r.2)]))
  ?_
 ·intro _f_impl_narrow ih_impl_narrow p r hF
  refine PureCall.enterLe Try.func180 (by kernel_rfl) rfl Try.ntmps180 (by simp) (by simp) ?_
  repeat (first | refine chk.ga ?_ | simp -dsimp)
  refine abr.split (fun h1 => ?_) (fun h1 => ?_)
  ·have q2 : (p.op = 1) := auq h1
   rw [if_pos q2] at hF
   cases hF
   repeat (first | refine chk.ga ?_ | simp -dsimp [h1])
   all_goals (try omega)
  ·have q2 : ¬ (p.op = 1) := auq h1
   rw [if_neg q2] at hF
   repeat (first | refine chk.ga ?_ | simp -dsimp [h1, q2])
   refine abr.split (fun h3 => ?_) (fun h3 => ?_)
   ·have q4 : (p.op = 2) := auq h3
    rw [if_pos q4] at hF
    cases hF
    repeat (first | refine chk.ga ?_ | simp -dsimp [h1, q2, h3])
    all_goals (try omega)
   ·have q4 : ¬ (p.op = 2) := auq h3
    rw [if_neg q4] at hF
    repeat (first | refine chk.ga ?_ | simp -dsimp [h1, q2, h3, q4])
    refine abr.split (fun h5 => ?_) (fun h5 => ?_)
    ·have q6 : (p.op = 3) := auq h5
     rw [if_pos q6] at hF
     repeat (first | refine chk.ga ?_ | simp -dsimp [h1, q2, h3, q4, h5])
     refine ADraw.eff [] [(0, 0), (0, 1), (0, 1), (0, 1), (0, 1), (0, 1), (0, 1), (1, 1)] [1, 0, 2, 0, 2, 1, 1, 1] follows (by kernel_rfl) (by kernel_rfl) (by kernel_rfl) ?_
     cases hF
     repeat (first | refine chk.ga ?_ | simp -dsimp [h1, q2, h3, q4, h5])
     all_goals (try omega)
    ·have q6 : ¬ (p.op = 3) := auq h5
     rw [if_neg q6] at hF
     repeat (first | refine chk.ga ?_ | simp -dsimp [h1, q2, h3, q4, h5, q6])
     refine abr.split (fun h7 => ?_) (fun h7 => ?_)
     ·have q8 : (p.op = 6) := auq h7
      rw [if_pos q8] at hF
      have hF := ob hF; obtain ⟨x, e9, hF⟩ := hF
      have le9 := lt_of_get e9
      repeat (first | refine chk.ga ?_ | simp -dsimp [h1, q2, h3, q4, h5, q6, h7, ↓e9])
      have hF := ob hF; obtain ⟨v, e10, hF⟩ := hF
      refine ((ih_impl_narrow x v e10)).goW (by first | simp [h1, q2, h3, q4, h5, q6, h7, ↓e9]; done | simp_all) (by simp) ?_
      cases hF
      repeat (first | refine chk.ga ?_ | simp -dsimp [h1, q2, h3, q4, h5, q6, h7, ↓e9])
      all_goals (try omega)
     ·have q8 : ¬ (p.op = 6) := auq h7
      rw [if_neg q8] at hF
      have hF := ob hF; obtain ⟨x11, e12, hF⟩ := hF
      have le12 := lt_of_get e12
      repeat (first | refine chk.ga ?_ | simp -dsimp [h1, q2, h3, q4, h5, q6, h7, q8, ↓e12])
      have hF := ob hF; obtain ⟨v13, e14, hF⟩ := hF
      refine ((ih_impl_narrow x11 v13 e14)).goW (by first | simp [h1, q2, h3, q4, h5, q6, h7, q8, ↓e12]; done | simp_all) (by simp) ?_
      have hF := ob hF; obtain ⟨x15, e16, hF⟩ := hF
      have le16 := lt_of_get e16
      repeat (first | refine chk.ga ?_ | simp -dsimp [h1, q2, h3, q4, h5, q6, h7, q8, ↓e12, ↓e16])
      have hF := ob hF; obtain ⟨v17, e18, hF⟩ := hF
      refine ((ih_impl_narrow x15 v17 e18)).goW (by first | simp [h1, q2, h3, q4, h5, q6, h7, q8, ↓e12, ↓e16]; done | simp_all) (by simp) ?_
      repeat (first | refine chk.ga ?_ | simp -dsimp [h1, q2, h3, q4, h5, q6, h7, q8, ↓e12, ↓e16])
      refine abr.split (fun h19 => ?_) (fun h19 => ?_)
      ·have q20 : (v13.2 = true) := auq h19
       rw [if_pos q20] at hF
       repeat (first | refine chk.ga ?_ | simp -dsimp [h1, q2, h3, q4, h5, q6, h7, q8, ↓e12, ↓e16, h19])
       refine abr.split (fun h21 => ?_) (fun h21 => ?_)
       ·have q22 : (v17.2 = true) := auq h21
        rw [if_pos q22] at hF
        cases hF
        repeat (first | refine chk.ga ?_ | simp -dsimp [h1, q2, h3, q4, h5, q6, h7, q8, ↓e12, ↓e16, h19, h21])
        all_goals (try omega)
       ·have q22 : ¬ (v17.2 = true) := auq h21
        rw [if_neg q22] at hF
        cases hF
        repeat (first | refine chk.ga ?_ | simp -dsimp [h1, q2, h3, q4, h5, q6, h7, q8, ↓e12, ↓e16, h19, h21, q22])
        all_goals (try omega)
      ·have q20 : ¬ (v13.2 = true) := auq h19
       rw [if_neg q20] at hF
       cases hF
       repeat (first | refine chk.ga ?_ | simp -dsimp [h1, q2, h3, q4, h5, q6, h7, q8, ↓e12, ↓e16, h19, q20])
       all_goals (try omega)

theorem C.impl_narrow (B : Nat) (hB1 : 67108864 ≤ B) (hB2 : B ≤ 9223372036854775807) (p : Vl.Pattern) (n : Int) (m : Int) (r : Vl.Pattern × Bool) (hF : F.impl_narrow p n m = some r) : PureCall Try.prog B 180 [.agg [.lit (.int .i64 p.op), .lit (.int .i64 p.ctor), .lit (.int .i64 p.n), .lit (.int .i64 p.m), .lit (.int .i64 p.var), .arr (List.map Vl.Pattern.c p.kids)], .lit (.int .i64 n), .lit (.int .i64 m)] (.tup [.agg [.lit (.int .i64 r.1.op), .lit (.int .i64 r.1.ctor), .lit (.int .i64 r.1.n), .lit (.int .i64 r.1.m), .lit (.int .i64 r.1.var), .arr (List.map Vl.Pattern.c r.1.kids)], .lit (.bool r.2)]) :=
 (CC.impl_narrow B hB1 hB2 n m) p r hF

set_option maxRecDepth 100000 in
set_option maxHeartbeats 4000000 in
theorem C.slices_Clone_Pattern (B : Nat) (hB1 : 67108864 ≤ B) (hB2 : B ≤ 9223372036854775807) (s : List Vl.Pattern) (r : List Vl.Pattern) (hF : F.slices_Clone_Pattern s = some r) : BCall Try.prog B 181 [] [.arr (List.map Vl.Pattern.c s)] (.own 0 (List.length (α := Vl.Pattern) r)) [.elems 6 (List.map Vl.Pattern.c r)] := by
 unfold F.slices_Clone_Pattern at hF
 have hF := oc hF; obtain ⟨c1, hF⟩ := hF
 cases hF
 cases s with
 | nil =>
  refine BCall.empty1 fun a c => ?_
  cases a
  ·refine BCall.ofNil 6 (by simp) (by simp) ?_
   refine PureCall.enterLe Try.func181 (by kernel_rfl) rfl Try.ntmps181 (by simp) (by simp) ?_
   repeat (first | refine chk.ga ?_ | simp -dsimp)
  ·refine BCall.enter Try.func181 (by kernel_rfl) rfl Try.ntmps181 (by simp) rfl (by simp) (by simp) (by simp) (by simp) (by simp) (Gh.refl _) ?_
   repeat (first | refine chk.ga ?_ | simp -dsimp)
 | cons x xs =>
  have c1 : xs.length + 1 ≤ 67108864 := by simpa using c1
  refine BCall.enter Try.func181 (by kernel_rfl) rfl Try.ntmps181 (by simp) rfl (by simp) (by simp) (by simp) (by simp) (by simp) (Gh.refl _) ?_
  repeat (first | refine chk.ga ?_ | simp -dsimp)

set_option maxRecDepth 100000 in
set_option maxHeartbeats 4000000 in
theorem CC.impl_narrowed (B : Nat) (hB1 : 67108864 ≤ B) (hB2 : B ≤ 9223372036854775807) (v : Int) (n : Int) (m : Int) : (∀ (p : Vl.Pattern) (r : Vl.Pattern × Bool × Bool), F.impl_narrowed p v n m = some r → PureCall Try.prog B 141 [.agg [.lit (.int .i64 p.op), .lit (.int .i64 p.ctor), .lit (.int .i64 p.n), .lit (.int .i64 p.m), .lit (.int .i64 p.var), .arr (List.map Vl.Pattern.c p.kids)], .lit (.int .i64 v), .lit (.int .i64 n), .lit (.int .i64 m)] (.tup [.agg [.lit (.int .i64 r.1.op), .lit (.int .i64 r.1.ctor), .lit (.int .i64 r.1.n), .lit (.int .i64 r.1.m), .lit (.int .i64 r.1.var), .arr (List.map Vl.Pattern.c r.1.kids)], .lit (.bool r.2.1), .lit (.bool r.2.2)])) ∧
  (∀ (p : Vl.Pattern) (i25 : Nat) (o : Lo (Vl.Pattern × Bool × Bool) Unit), F.impl_narrowed_l2 p v n m i25 = some o → ∀ (c : Code), navO [1, 1, 1, 0, 1, 0, 0] (bodyOf Try.f141) = some c → ∀ (Q : Exit → ASt → Prop), o.post (fun r => ∀ st, Post Try.prog Try.f141 (fun r' _ => r'.le (.tup [.agg [.lit (.int .i64 r.1.op), .lit (.int .i64 r.1.ctor), .lit (.int .i64 r.1.n), .lit (.int .i64 r.1.m), .lit (.int .i64 r.1.var), .arr (List.map Vl.Pattern.c r.1.kids)], .lit (.bool r.2.1), .lit (.bool r.2.2)])) .ret st → Q .ret st) (fun s => Q (.exit 0) ⟨[(4, .ptr 0 0), (8, .ptr 1 0)], [.cells [.lit (.int .i64 p.op), .lit (.int .i64 p.ctor), .lit (.int .i64 p.n), .lit (.int .i64 p.m), .lit (.int .i64 p.var), .arr (List.map Vl.Pattern.c p.kids)], .cells [.lit (.int .i64 0), .lit (.int .i64 0), .lit (.int .i64 0), .lit (.int .i64 0), .lit (.int .i64 0), .lit (.slice none 0 0)]]⟩) → ALoopU Try.prog B 0 75 (hold c .mk) ⟨[(1, .lit (.int .i64 v)), (2, .lit (.int .i64 n)), (3, .lit (.int .i64 m)), (4, .ptr 0 0), (8, .ptr 1 0), (44, .arr (List.map Vl.Pattern.c p.kids)), (45, .lit (.int .i64 (p.kids.length : Int))), (46, .lit (.int .i64 (i25 : Int)))], [.cells [.lit (.int .i64 p.op), .lit (.int .i64 p.ctor), .lit (.int .i64 p.n), .lit (.int .i64 p.m), .lit (.int .i64 p.var), .arr (List.map Vl.Pattern.c p.kids)], .cells [.lit (.int .i64 0), .lit (.int .i64 0), .lit (.int .i64 0), .lit (.int .i64 0), .lit (.int .i64 0), .lit (.slice none 0 0)]]⟩ (hold Q .mk)) ∧
  (∀ (p : Vl.Pattern) (i : Nat) (o : Lo (Vl.Pattern × Bool × Bool) Unit), F.impl_narrowed_l1 p v n m i = some o → ∀ (c : Code), navO [1, 1, 1, 0, 1, 0, 0] (bodyOf Try.f141) = some c → ∀ (Q : Exit → ASt → Prop), o.post (fun r => ∀ st, Post Try.prog Try.f141 (fun r' _ => r'.le (.tup [.agg [.lit (.int .i64 r.1.op), .lit (.int .i64 r.1.ctor), .lit (.int .i64 r.1.n), .lit (.int .i64 r.1.m), .lit (.int .i64 r.1.var), .arr (List.map Vl.Pattern.c r.1.kids)], .lit (.bool r.2.1), .lit (.bool r.2.2)])) .ret st → Q .ret st) (fun s => Q (.exit 0) ⟨[(4, .ptr 0 0), (8, .ptr 1 0)], [.cells [.lit (.int .i64 p.op), .lit (.int .i64 p.ctor), .lit (.int .i64 p.n), .lit (.int .i64 p.m), .lit (.int .i64 p.var), .arr (List.map Vl.Pattern.c p.kids)], .cells [.lit (.int .i64 0), .lit (.int .i64 0), .lit (.int .i64 0), .lit (.int .i64 0), .lit (.int .i64 0), .lit (.slice none 0 0)]]⟩) → ALoopU Try.prog B 0 75 (hold c .mk) ⟨[(1, .lit (.int .i64 v)), (2, .lit (.int .i64 n)), (3, .lit (.int .i64 m)), (4, .ptr 0 0), (8, .ptr 1 0), (44, .arr (List.map Vl.Pattern.c p.kids)), (45, .lit (.int .i64 (p.kids.length : Int))), (46, .lit (.int .i64 (i : Int)))], [.cells [.lit (.int .i64 p.op), .lit (.int .i64 p.ctor), .lit (.int .i64 p.n), .lit (.int .i64 p.m), .lit (.int .i64 p.var), .arr (List.map Vl.Pattern.c p.kids)], .cells [.lit (.int .i64 0), .lit (.int .i64 0), .lit (.int .i64 0), .lit (.int .i64 0), .lit (.int .i64 0), .lit (.slice none 0 0)]]⟩ (hold Q .mk)) ∧
  (∀ (p : Vl.Pattern) (i48 : Nat) (o : Lo (Vl.Pattern × Bool × Bool) Unit), F.impl_narrowed_l3 p v n m i48 = some o → ∀ (c : Code), navO [1, 1, 1, 0, 1, 0, 0] (bodyOf Try.f141) = some c → ∀ (Q : Exit → ASt → Prop), o.post (fun r => ∀ st, Post Try.prog Try.f141 (fun r' _ => r'.le (.tup [.agg [.lit (.int .i64 r.1.op), .lit (.int .i64 r.1.ctor), .lit (.int .i64 r.1.n), .lit (.int .i64 r.1.m), .lit (.int .i64 r.1.var), .arr (List.map Vl.Pattern.c r.1.kids)], .lit (.bool r.2.1), .lit (.bool r.2.2)])) .ret st → Q .ret st) (fun s => Q (.exit 0) ⟨[(4, .ptr 0 0), (8, .ptr 1 0)], [.cells [.lit (.int .i64 p.op), .lit (.int .i64 p.ctor), .lit (.int .i64 p.n), .lit (.int .i64 p.m), .lit (.int .i64 p.var), .arr (List.map Vl.Pattern.c p.kids)], .cells [.lit (.int .i64 0), .lit (.int .i64 0), .lit (.int .i64 0), .lit (.int .i64 0), .lit (.int .i64 0), .lit (.slice none 0 0)]]⟩) → ALoopU Try.prog B 0 75 (hold c .mk) ⟨[(1, .lit (.int .i64 v)), (2, .lit (.int .i64 n)), (3, .lit (.int .i64 m)), (4, .ptr 0 0), (8, .ptr 1 0), (44, .arr (List.map Vl.Pattern.c p.kids)), (45, .lit (.int .i64 (p.kids.length : Int))), (46, .lit (.int .i64 (i48 : Int)))], [.cells [.lit (.int .i64 p.op), .lit (.int .i64 p.ctor), .lit (.int .i64 p.n), .lit (.int .i64 p.m), .lit (.int .i64 p.var), .arr (List.map Vl.Pattern.c p.kids)], .cells [.lit (.int .i64 0), .lit (.int .i64 0), .lit (.int .i64 0), .lit (.int .i64 0), .lit (.int .i64 0), .lit (.slice none 0 0)]]⟩ (hold Q .mk)) := by
 refine F.impl_narrowed.mutual_partial_correctness v n m
  (fun p r => PureCall Try.prog B 141 [.agg [.lit (.int .i64 p.op), .lit (.int .i64 p.ctor), .lit (.int .i64 p.n), .lit (.int .i64 p.m), .lit (.int .i64 p.var), .arr (List.map Vl.Pattern.c p.kids)], .lit (.int .i64 v), .lit (.int .i64 n), .lit (.int .i64 m)] (.tup [.agg [.lit (.int .i64 r.1.op), .lit (.int .i64 r.1.ctor), .lit (.int .i64 r.1.n), .lit (.int .i64 r.1.m), .lit (.int .i64 r.1.var), .arr (List.map Vl.Pattern.c r.1.kids)], .lit (.bool r.2.1), .lit (.bool r.2.2)]))
  (fun p i25 o => ∀ (c : Code), navO [1, 1, 1, 0, 1, 0, 0] (bodyOf Try.f141) = some c → ∀ (Q : Exit → ASt → Prop), o.post (fun r => ∀ st, Post Try.prog Try.f141 (fun r' _ => r'.le (.tup [.agg [.lit (.int .i64 r.1.op), .lit (.int .i64 r.1.ctor), .lit (.int .i64 r.1.n), .lit (.int .i64 r.1.m), .lit (.int .i64 r.1.var), .arr (List.map Vl.Pattern.c r.1.kids)], .lit (.bool r.2.1), .lit (.bool r.2.2)])) .ret st → Q .ret st) (fun s => Q (.exit 0) ⟨[(4, .ptr 0 0), (8, .ptr 1 0)], [.cells [.lit (.int .i64 p.op), .lit (.int .i64 p.ctor), .lit (.int .i64 p.n), .lit (.int .i64 p.m), .lit (.int .i64 p.var), .arr (List.map Vl.Pattern.c p.kids)], .cells [.lit (.int .i64 0), .lit (.int .i64 0), .lit (.int .i64 0), .lit (.int .i64 0), .lit (.int .i64 0), .lit (.slice none 0 0)]]⟩) → ALoopU Try.prog B 0 75 (hold c .mk) ⟨[(1, .lit (.int .i64 v)), (2, .lit (.int .i64 n)), (3, .lit (.int .i64 m)), (4, .ptr 0 0), (8, .ptr 1 0), (44, .arr (List.map Vl.Pattern.c p.kids)), (45, .lit (.int .i64 (p.kids.length : Int))), (46, .lit (.int .i64 (i25 : Int)))], [.cells [.lit (.int .i64 p.op), .lit (.int .i64 p.ctor), .lit (.int .i64 p.n), .lit (.int .i64 p.m), .lit (.int .i64 p.var), .arr (List.map Vl.Pattern.c p.kids)], .cells [.lit (.int .i64 0), .lit (.int .i64 0), .lit (.int .i64 0), .lit (.int .i64 0), .lit (.int .i64 0), .lit (.slice none 0 0)]]⟩ (hold Q .mk))
  (fun p i o => ∀ (c : Code), navO [1, 1, 1, 0, 1, 0, 0] (bodyOf Try.f141) = some c → ∀ (Q : Exit → ASt → Prop), o.post (fun r => ∀ st, Post Try.prog Try.f141 (fun r' _ => r'.le (.tup [.agg [.lit (.int .i64 r.1.op), .lit (.int .i64 r.1.ctor), .lit (.int .i64 r.1.n), .lit (.int .i64 r.1.m), .lit (.int .i64 r.1.var), .arr (List.map Vl.Pattern.c r.1.kids)], .lit (.bool r.2.1), .lit (.bool r.2.2)])) .ret st → Q .ret st) (fun s => Q (.exit 0) ⟨[(4, .ptr 0 0), (8, .ptr 1 0)], [.cells [.lit (.int .i64 p.op), .lit (.int .i64 p.ctor), .lit (.int .i64 p.n), .lit (.int .i64 p.m), .lit (.int .i64 p.var), .arr (List.map Vl.Pattern.c p.kids)], .cells [.lit (.int .i64 0), .lit (.int .i64 0), .lit (.int .i64 0), .lit (.int .i64 0), .lit (.int .i64 0), .lit (.slice none 0 0)]]⟩) → ALoopU Try.prog B 0 75 (hold c .mk) ⟨[(1, .lit (.int .i64 v)), (2, .lit (.int .i64 n)), (3, .lit (.int .i64 m)), (4, .ptr 0 0), (8, .ptr 1 0), (44, .arr (List.map Vl.Pattern.c p.kids)), (45, .lit (.int .i64 (p.kids.length : Int))), (46, .lit (.int .i64 (i : Int)))], [.cells [.lit (.int .i64 p.op), .lit (.int .i64 p.ctor), .lit (.int .i64 p.n), .lit (.int .i64 p.m), .lit (.int .i64 p.var), .arr (List.map Vl.Pattern.c p.kids)], .cells [.lit (.int .i64 0), .lit (.int .i64 0), .lit (.int .i64 0), .lit (.int .i64 0), .lit (.int .i64 0), .lit (.slice none 0 0)]]⟩ (hold Q .mk))
  (fun p i48 o => ∀ (c : Code), navO [1, 1, 1, 0, 1, 0, 0] (bodyOf Try.f141) = some c → ∀ (Q : Exit → ASt → Prop), o.post (fun r => ∀ st, Post Try.prog Try.f141 (fun r' _ => r'.le (.tup [.agg [.lit (.int .i64 r.1.op), .lit (.int .i64 r.1.ctor), .lit (.int .i64 r.1.n), .lit (.int .i64 r.1.m), .lit (.int .i64 r.1.var), .arr (List.map Vl.Pattern.c r.1.kids)], .lit (.bool r.2.1), .lit (.bool r.2.2)])) .ret st → Q .ret st) (fun s => Q (.exit 0) ⟨[(4, .ptr 0 0), (8, .ptr 1 0)], [.cells [.lit (.int .i64 p.op), .lit (.int .i64 p.ctor), .lit (.int .i64 p.n), .lit (.int .i64 p.m), .lit (.int .i64 p.var), .arr (List.map Vl.Pattern.c p.kids)], .cells [.lit (.int .i64 0), .lit (.int .i64 0), .lit (.int .i64 0), .lit (.int .i64 0), .lit (.int .i64 0), .lit (.slice none 0 0)]]⟩) → ALoopU Try.prog B 0 75 (hold c .mk) ⟨[(1, .lit (.int .i64 v)), (2, .lit (.int .i64 n)), (3, .lit (.int .i64 m)), (4, .ptr 0 0), (8, .ptr 1 0), (44, .arr (List.map Vl.Pattern.c p.kids)), (45, .lit (.int .i64 (p.kids.length : Int))), (46, .lit (.int .i64 (i48 : Int)))], [.cells [.lit (.int .i64 p.op), .lit (.int .i64 p.ctor), .lit (.int .i64 p.n), .lit (.int .i64 p.m), .lit (.int .i64 p.var), .arr (List.map Vl.Pattern.c p.kids)], .cells [.lit (.int .i64 0), .lit (.int .i64 0), .lit (.int .i64 0), .lit (.int .i64 0), .lit (.int .i64 0), .lit (.slice none 0 0)]]⟩ (hold Q .mk))
  ?_ ?_ ?_ ?_
 ·intro _f_impl_narrowed_l2 _f_impl_narrowed_l1 _f_impl_narrowed_l3 ih_impl_narrowed_l2 ih_impl_narrowed_l1 ih_impl_narrowed_l3 p r hF
  refine PureCall.enterLe Try.func141 (by kernel_rfl) rfl Try.ntmps141 (by simp) (by simp) ?_
  repeat (first | refine chk.ga ?_ | simp -dsimp)
  refine abr.split (fun h1 => ?_) (fun h1 => ?_)
  ·have q2 : ¬ (p.op = 2) := auq h1
   rw [if_neg q2] at hF
   repeat (first | refine chk.ga ?_ | simp -dsimp [h1, q2])
   refine abr.split (fun h3 => ?_) (fun h3 => ?_)
   ·have q4 : (p.op = 6) := auq h3
    rw [if_pos q4] at hF
    repeat (first | refine chk.ga ?_ | simp -dsimp [h1, q2, h3])
    refine abr.split (fun h5 => ?_) (fun h5 => ?_)
    ·have q6 : (p.var = v) := auq h5
     rw [if_pos q6] at hF
     repeat (first | refine chk.ga ?_ | simp -dsimp [h1, q2, h3, h5])
     have hF := ob hF; obtain ⟨v7, e8, hF⟩ := hF
     refine ((C.impl_narrow B hB1 hB2 p n m v7 e8)).goW (by first | simp [h1, q2, h3, h5]; done | simp_all) (by simp) ?_
     cases hF
     repeat (first | refine chk.ga ?_ | simp -dsimp [h1, q2, h3, h5])
     all_goals (try omega)
    ·have q6 : ¬ (p.var = v) := auq h5
     rw [if_neg q6] at hF
     repeat (first | refine chk.ga ?_ | simp -dsimp [h1, q2, h3, h5, q6])
     have hF := ob hF; obtain ⟨o', ho22, hF⟩ := hF
     refine ALoop.goU ⟨[(1, .lit (.int .i64 v)), (2, .lit (.int .i64 n)), (3, .lit (.int .i64 m)), (4, .ptr 0 0), (8, .ptr 1 0), (44, .arr (List.map Vl.Pattern.c p.kids)), (45, .lit (.int .i64 (p.kids.length : Int))), (46, .lit (.int .i64 (0 : Int)))], [.cells [.lit (.int .i64 p.op), .lit (.int .i64 p.ctor), .lit (.int .i64 p.n), .lit (.int .i64 p.m), .lit (.int .i64 p.var), .arr (List.map Vl.Pattern.c p.kids)], .cells [.lit (.int .i64 0), .lit (.int .i64 0), .lit (.int .i64 0), .lit (.int .i64 0), .lit (.int .i64 0), .lit (.slice none 0 0)]]⟩ (Gh.to3 (by simp) (by first | simp -dsimp [h1, q2, h3, h5, q6]; done | simp_all)) ?_
     refine (ih_impl_narrowed_l1 p 0 o' ho22) _ rfl _ ?_
     rcases o' with r0 | sx
     ·dsimp only at hF
      cases hF
      intro st h
      simpa using h
     ·dsimp only at hF
      cases hF
      repeat (first | refine chk.ga ?_ | simp -dsimp)
      all_goals (try omega)
   ·have q4 : ¬ (p.op = 6) := auq h3
    rw [if_neg q4] at hF
    repeat (first | refine chk.ga ?_ | simp -dsimp [h1, q2, h3, q4])
    refine abr.split (fun h23 => ?_) (fun h23 => ?_)
    ·have q24 : (p.op = 5) := auq h23
     rw [if_pos q24] at hF
     cases hF
     repeat (first | refine chk.ga ?_ | simp -dsimp [h1, q2, h3, q4, h23])
     all_goals (try omega)
    ·have q24 : ¬ (p.op = 5) := auq h23
     rw [if_neg q24] at hF
     repeat (first | refine chk.ga ?_ | simp -dsimp [h1, q2, h3, q4, h23, q24])
     have hF := ob hF; obtain ⟨o'41, ho40, hF⟩ := hF
     refine ALoop.goU ⟨[(1, .lit (.int .i64 v)), (2, .lit (.int .i64 n)), (3, .lit (.int .i64 m)), (4, .ptr 0 0), (8, .ptr 1 0), (44, .arr (List.map Vl.Pattern.c p.kids)), (45, .lit (.int .i64 (p.kids.length : Int))), (46, .lit (.int .i64 (0 : Int)))], [.cells [.lit (.int .i64 p.op), .lit (.int .i64 p.ctor), .lit (.int .i64 p.n), .lit (.int .i64 p.m), .lit (.int .i64 p.var), .arr (List.map Vl.Pattern.c p.kids)], .cells [.lit (.int .i64 0), .lit (.int .i64 0), .lit (.int .i64 0), .lit (.int .i64 0), .lit (.int .i64 0), .lit (.slice none 0 0)]]⟩ (Gh.to3 (by simp) (by first | simp -dsimp [h1, q2, h3, q4, h23, q24]; done | simp_all)) ?_
     refine (ih_impl_narrowed_l2 p 0 o'41 ho40) _ rfl _ ?_
     rcases o'41 with r043 | sx42
     ·dsimp only at hF
      cases hF
      intro st h
      simpa using h
     ·dsimp only at hF
      cases hF
      repeat (first | refine chk.ga ?_ | simp -dsimp)
      all_goals (try omega)
  ·have q2 : (p.op = 2) := auq h1
   rw [if_pos q2] at hF
   repeat (first | refine chk.ga ?_ | simp -dsimp [h1, q2])
   refine abr.split (fun h44 => ?_) (fun h44 => ?_)
   ·have q45 : (p.var = v) := auq h44
    rw [if_pos q45] at hF
    repeat (first | refine chk.ga ?_ | simp -dsimp [h1, q2, h44])
    have hF := ob hF; obtain ⟨v46, e47, hF⟩ := hF
    refine ((C.impl_narrow B hB1 hB2 p n m v46 e47)).goW (by first | simp [h1, q2, h44]; done | simp_all) (by simp) ?_
    cases hF
    repeat (first | refine chk.ga ?_ | simp -dsimp [h1, q2, h44])
    all_goals (try omega)
   ·have q45 : ¬ (p.var = v) := auq h44
    rw [if_neg q45] at hF
    repeat (first | refine chk.ga ?_ | simp -dsimp [h1, q2, h44, q45])
    have hF := ob hF; obtain ⟨o'64, ho63, hF⟩ := hF
    refine ALoop.goU ⟨[(1, .lit (.int .i64 v)), (2, .lit (.int .i64 n)), (3, .lit (.int .i64 m)), (4, .ptr 0 0), (8, .ptr 1 0), (44, .arr (List.map Vl.Pattern.c p.kids)), (45, .lit (.int .i64 (p.kids.length : Int))), (46, .lit (.int .i64 (0 : Int)))], [.cells [.lit (.int .i64 p.op), .lit (.int .i64 p.ctor), .lit (.int .i64 p.n), .lit (.int .i64 p.m), .lit (.int .i64 p.var), .arr (List.map Vl.Pattern.c p.kids)], .cells [.lit (.int .i64 0), .lit (.int .i64 0), .lit (.int .i64 0), .lit (.int .i64 0), .lit (.int .i64 0), .lit (.slice none 0 0)]]⟩ (Gh.to3 (by simp) (by first | simp -dsimp [h1, q2, h44, q45]; done | simp_all)) ?_
    refine (ih_impl_narrowed_l3 p 0 o'64 ho63) _ rfl _ ?_
    rcases o'64 with r066 | sx65
    ·dsimp only at hF
     cases hF
     intro st h
     simpa using h
    ·dsimp only at hF
     cases hF
     repeat (first | refine chk.ga ?_ | simp -dsimp)
     all_goals (try omega)
 ·intro _f_impl_narrowed _f_impl_narrowed_l2 ih_impl_narrowed ih_impl_narrowed_l2 p i25 o hF
  intro c hc Q hq
  obtain rfl : c = _ := navEq hc rfl
  refine ALoopU.know fun hk hs => ?_
  have b44 := hk 44
  simp -dsimp at b44
  have d0 := hs 0 _ rfl
  simp -dsimp [Blk.bnd] at d0
  clear hk hs
  refine ALoopU.enter ?_
  repeat (first | refine chk.ga ?_ | simp -dsimp)
  refine abr.split (fun h26 => ?_) (fun h26 => ?_)
  ·have q27 : (i25 < p.kids.length) := auq h26
   have z28 : ((i25 : Int) < (p.kids.length : Int)) := auz
   rw [if_pos q27] at hF
   have hF := ob hF; obtain ⟨x29, e30, hF⟩ := hF
   have le30 := lt_of_get e30
   repeat (first | refine chk.ga ?_ | simp -dsimp [h26, z28, ↓e30])
   have hF := ob hF; obtain ⟨v31, e32, hF⟩ := hF
   refine ((ih_impl_narrowed x29 v31 e32)).goW (by first | simp [h26, z28, ↓e30]; done | simp_all) (by simp) ?_
   repeat (first | refine chk.ga ?_ | simp -dsimp [h26, z28, ↓e30])
   refine abr.split (fun h33 => ?_) (fun h33 => ?_)
   ·have q34 : (v31.2.1 = true) := auq h33
    rw [if_pos q34] at hF
    repeat (first | refine chk.ga ?_ | simp -dsimp [h26, z28, ↓e30, h33])
    have hF := ob hF; obtain ⟨v35, e36, hF⟩ := hF
    refine ((C.slices_Clone_Pattern B hB1 hB2 p.kids v35 e36)).go (pl [4]) (by simp) (by simp) (by intro i j hi; simp at hi) (by intro i hi hi'; simp at hi hi'; first | omega | (subst hi'; simp [pl])) (by first | simp [h26, z28, ↓e30, h33]; done | simp_all) (by first | simp [h26, z28, ↓e30, h33]; done | simp_all) ?_
    have hF := ob hF; obtain ⟨x37, e38, hF⟩ := hF
    have le38 := lt_of_get e38
    cases hF
    repeat (first | refine chk.ga ?_ | simp -dsimp [h26, z28, ↓e30, h33, ↓e38])
    refine Leave.go _ (Gh.refl _) (hq _ ?_)
    repeat (first | refine chk.ga ?_ | simp -dsimp [h26, z28, ↓e30, h33, ↓e38])
   ·have q34 : ¬ (v31.2.1 = true) := auq h33
    rw [if_neg q34] at hF
    have w39 : IntKind.i64.wrap ((i25 : Int) + 1) = (i25 : Int) + 1 := wrap_in (by omega) (by omega)
    repeat (first | refine chk.ga ?_ | simp -dsimp [h26, z28, ↓e30, h33, q34, w39])
    refine Again.go ⟨[(1, .lit (.int .i64 v)), (2, .lit (.int .i64 n)), (3, .lit (.int .i64 m)), (4, .ptr 0 0), (8, .ptr 1 0), (44, .arr (List.map Vl.Pattern.c p.kids)), (45, .lit (.int .i64 (p.kids.length : Int))), (46, .lit (.int .i64 ((i25 + 1) : Int)))], [.cells [.lit (.int .i64 p.op), .lit (.int .i64 p.ctor), .lit (.int .i64 p.n), .lit (.int .i64 p.m), .lit (.int .i64 p.var), .arr (List.map Vl.Pattern.c p.kids)], .cells [.lit (.int .i64 0), .lit (.int .i64 0), .lit (.int .i64 0), .lit (.int .i64 0), .lit (.int .i64 0), .lit (.slice none 0 0)]]⟩ (Gh.to3 (by simp) (by first | simp -dsimp [h26, z28, ↓e30, h33, q34, w39]; done | simp_all)) ?_
    exact (ih_impl_narrowed_l2 p (i25 + 1) o hF) _ rfl _ hq
  ·have q27 : ¬ (i25 < p.kids.length) := auq h26
   have z28 : ¬ ((i25 : Int) < (p.kids.length : Int)) := auz
   rw [if_neg q27] at hF
   cases hF
   repeat (first | refine chk.ga ?_ | simp -dsimp [h26, q27, z28])
   refine Leave.go ⟨[(4, .ptr 0 0), (8, .ptr 1 0)], [.cells [.lit (.int .i64 p.op), .lit (.int .i64 p.ctor), .lit (.int .i64 p.n), .lit (.int .i64 p.m), .lit (.int .i64 p.var), .arr (List.map Vl.Pattern.c p.kids)], .cells [.lit (.int .i64 0), .lit (.int .i64 0), .lit (.int .i64 0), .lit (.int .i64 0), .lit (.int .i64 0), .lit (.slice none 0 0)]]⟩ (Gh.to3 (by simp) (by first | simp -dsimp [h26, q27, z28]; done | simp_all)) ?_
   exact hq
 ·intro _f_impl_narrowed _f_impl_narrowed_l1 ih_impl_narrowed ih_impl_narrowed_l1 p i o hF
  intro c hc Q hq
  obtain rfl : c = _ := navEq hc rfl
  refine ALoopU.know fun hk hs => ?_
  have b44 := hk 44
  simp -dsimp at b44
  have d0 := hs 0 _ rfl
  simp -dsimp [Blk.bnd] at d0
  clear hk hs
  refine ALoopU.enter ?_
  repeat (first | refine chk.ga ?_ | simp -dsimp)
  refine abr.split (fun h9 => ?_) (fun h9 => ?_)
  ·have q10 : (i < p.kids.length) := auq h9
   have z11 : ((i : Int) < (p.kids.length : Int)) := auz
   rw [if_pos q10] at hF
   have hF := ob hF; obtain ⟨x, e12, hF⟩ := hF
   have le12 := lt_of_get e12
   repeat (first | refine chk.ga ?_ | simp -dsimp [h9, z11, ↓e12])
   have hF := ob hF; obtain ⟨v13, e14, hF⟩ := hF
   refine ((ih_impl_narrowed x v13 e14)).goW (by first | simp [h9, z11, ↓e12]; done | simp_all) (by simp) ?_
   repeat (first | refine chk.ga ?_ | simp -dsimp [h9, z11, ↓e12])
   refine abr.split (fun h15 => ?_) (fun h15 => ?_)
   ·have q16 : (v13.2.1 = true) := auq h15
    rw [if_pos q16] at hF
    repeat (first | refine chk.ga ?_ | simp -dsimp [h9, z11, ↓e12, h15])
    have hF := ob hF; obtain ⟨v17, e18, hF⟩ := hF
    refine ((C.slices_Clone_Pattern B hB1 hB2 p.kids v17 e18)).go (pl [4]) (by simp) (by simp) (by intro i j hi; simp at hi) (by intro i hi hi'; simp at hi hi'; first | omega | (subst hi'; simp [pl])) (by first | simp [h9, z11, ↓e12, h15]; done | simp_all) (by first | simp [h9, z11, ↓e12, h15]; done | simp_all) ?_
    have hF := ob hF; obtain ⟨x19, e20, hF⟩ := hF
    have le20 := lt_of_get e20
    cases hF
    repeat (first | refine chk.ga ?_ | simp -dsimp [h9, z11, ↓e12, h15, ↓e20])
    refine Leave.go _ (Gh.refl _) (hq _ ?_)
    repeat (first | refine chk.ga ?_ | simp -dsimp [h9, z11, ↓e12, h15, ↓e20])
   ·have q16 : ¬ (v13.2.1 = true) := auq h15
    rw [if_neg q16] at hF
    have w21 : IntKind.i64.wrap ((i : Int) + 1) = (i : Int) + 1 := wrap_in (by omega) (by omega)
    repeat (first | refine chk.ga ?_ | simp -dsimp [h9, z11, ↓e12, h15, q16, w21])
    refine Again.go ⟨[(1, .lit (.int .i64 v)), (2, .lit (.int .i64 n)), (3, .lit (.int .i64 m)), (4, .ptr 0 0), (8, .ptr 1 0), (44, .arr (List.map Vl.Pattern.c p.kids)), (45, .lit (.int .i64 (p.kids.length : Int))), (46, .lit (.int .i64 ((i + 1) : Int)))], [.cells [.lit (.int .i64 p.op), .lit (.int .i64 p.ctor), .lit (.int .i64 p.n), .lit (.int .i64 p.m), .lit (.int .i64 p.var), .arr (List.map Vl.Pattern.c p.kids)], .cells [.lit (.int .i64 0), .lit (.int .i64 0), .lit (.int .i64 0), .lit (.int .i64 0), .lit (.int .i64 0), .lit (.slice none 0 0)]]⟩ (Gh.to3 (by simp) (by first | simp -dsimp [h9, z11, ↓e12, h15, q16, w21]; done | simp_all)) ?_
    exact (ih_impl_narrowed_l1 p (i + 1) o hF) _ rfl _ hq
  ·have q10 : ¬ (i < p.kids.length) := auq h9
   have z11 : ¬ ((i : Int) < (p.kids.length : Int)) := auz
   rw [if_neg q10] at hF
   cases hF
   repeat (first | refine chk.ga ?_ | simp -dsimp [h9, q10, z11])
   refine Leave.go ⟨[(4, .ptr 0 0), (8, .ptr 1 0)], [.cells [.lit (.int .i64 p.op), .lit (.int .i64 p.ctor), .lit (.int .i64 p.n), .lit (.int .i64 p.m), .lit (.int .i64 p.var), .arr (List.map Vl.Pattern.c p.kids)], .cells [.lit (.int .i64 0), .lit (.int .i64 0), .lit (.int .i64 0), .lit (.int .i64 0), .lit (.int .i64 0), .lit (.slice none 0 0)]]⟩ (Gh.to3 (by simp) (by first | simp -dsimp [h9, q10, z11]; done | simp_all)) ?_
   exact hq
 ·intro _f_impl_narrowed _f_impl_narrowed_l3 ih_impl_narrowed ih_impl_narrowed_l3 p i48 o hF
  intro c hc Q hq
  obtain rfl : c = _ := navEq hc rfl
  refine ALoopU.know fun hk hs => ?_
  have b44 := hk 44
  simp -dsimp at b44
  have d0 := hs 0 _ rfl
  simp -dsimp [Blk.bnd] at d0
  clear hk hs
  refine ALoopU.enter ?_
  repeat (first | refine chk.ga ?_ | simp -dsimp)
  refine abr.split (fun h49 => ?_) (fun h49 => ?_)
  ·have q50 : (i48 < p.kids.length) := auq h49
   have z51 : ((i48 : Int) < (p.kids.length : Int)) := auz
   rw [if_pos q50] at hF
   have hF := ob hF; obtain ⟨x52, e53, hF⟩ := hF
   have le53 := lt_of_get e53
   repeat (first | refine chk.ga ?_ | simp -dsimp [h49, z51, ↓e53])
   have hF := ob hF; obtain ⟨v54, e55, hF⟩ := hF
   refine ((ih_impl_narrowed x52 v54 e55)).goW (by first | simp [h49, z51, ↓e53]; done | simp_all) (by simp) ?_
   repeat (first | refine chk.ga ?_ | simp -dsimp [h49, z51, ↓e53])
   refine abr.split (fun h56 => ?_) (fun h56 => ?_)
   ·have q57 : (v54.2.1 = true) := auq h56
    rw [if_pos q57] at hF
    repeat (first | refine chk.ga ?_ | simp -dsimp [h49, z51, ↓e53, h56])
    have hF := ob hF; obtain ⟨v58, e59, hF⟩ := hF
    refine ((C.slices_Clone_Pattern B hB1 hB2 p.kids v58 e59)).go (pl [4]) (by simp) (by simp) (by intro i j hi; simp at hi) (by intro i hi hi'; simp at hi hi'; first | omega | (subst hi'; simp [pl])) (by first | simp [h49, z51, ↓e53, h56]; done | simp_all) (by first | simp [h49, z51, ↓e53, h56]; done | simp_all) ?_
    have hF := ob hF; obtain ⟨x60, e61, hF⟩ := hF
    have le61 := lt_of_get e61
    cases hF
    repeat (first | refine chk.ga ?_ | simp -dsimp [h49, z51, ↓e53, h56, ↓e61])
    refine Leave.go _ (Gh.refl _) (hq _ ?_)
    repeat (first | refine chk.ga ?_ | simp -dsimp [h49, z51, ↓e53, h56, ↓e61])
   ·have q57 : ¬ (v54.2.1 = true) := auq h56
    rw [if_neg q57] at hF
    have w62 : IntKind.i64.wrap ((i48 : Int) + 1) = (i48 : Int) + 1 := wrap_in (by omega) (by omega)
    repeat (first | refine chk.ga ?_ | simp -dsimp [h49, z51, ↓e53, h56, q57, w62])
    refine Again.go ⟨[(1, .lit (.int .i64 v)), (2, .lit (.int .i64 n)), (3, .lit (.int .i64 m)), (4, .ptr 0 0), (8, .ptr 1 0), (44, .arr (List.map Vl.Pattern.c p.kids)), (45, .lit (.int .i64 (p.kids.length : Int))), (46, .lit (.int .i64 ((i48 + 1) : Int)))], [.cells [.lit (.int .i64 p.op), .lit (.int .i64 p.ctor), .lit (.int .i64 p.n), .lit (.int .i64 p.m), .lit (.int .i64 p.var), .arr (List.map Vl.Pattern.c p.kids)], .cells [.lit (.int .i64 0), .lit (.int .i64 0), .lit (.int .i64 0), .lit (.int .i64 0), .lit (.int .i64 0), .lit (.slice none 0 0)]]⟩ (Gh.to3 (by simp) (by first | simp -dsimp [h49, z51, ↓e53, h56, q57, w62]; done | simp_all)) ?_
    exact (ih_impl_narrowed_l3 p (i48 + 1) o hF) _ rfl _ hq
  ·have q50 : ¬ (i48 < p.kids.length) := auq h49
   have z51 : ¬ ((i48 : Int) < (p.kids.length : Int)) := auz
   rw [if_neg q50] at hF
   cases hF
   repeat (first | refine chk.ga ?_ | simp -dsimp [h49, q50, z51])
   refine Leave.go ⟨[(4, .ptr 0 0), (8, .ptr 1 0)], [.cells [.lit (.int .i64 p.op), .lit (.int .i64 p.ctor), .lit (.int .i64 p.n), .lit (.int .i64 p.m), .lit (.int .i64 p.var), .arr (List.map Vl.Pattern.c p.kids)], .cells [.lit (.int .i64 0), .lit (.int .i64 0), .lit (.int .i64 0), .lit (.int .i64 0), .lit (.int .i64 0), .lit (.slice none 0 0)]]⟩ (Gh.to3 (by simp) (by first | simp -dsimp [h49, q50, z51]; done | simp_all)) ?_
   exact hq

theorem C.impl_narrowed (B : Nat) (hB1 : 67108864 ≤ B) (hB2 : B ≤ 9223372036854775807) (p : Vl.Pattern) (v : Int) (n : Int) (m : Int) (r : Vl.Pattern × Bool × Bool) (hF : F.impl_narrowed p v n m = some r) : PureCall Try.prog B 141 [.agg [.lit (.int .i64 p.op), .lit (.int .i64 p.ctor), .lit (.int .i64 p.n), .lit (.int .i64 p.m), .lit (.int .i64 p.var), .arr (List.map Vl.Pattern.c p.kids)], .lit (.int .i64 v), .lit (.int .i64 n), .lit (.int .i64 m)] (.tup [.agg [.lit (.int .i64 r.1.op), .lit (.int .i64 r.1.ctor), .lit (.int .i64 r.1.n), .lit (.int .i64 r.1.m), .lit (.int .i64 r.1.var), .arr (List.map Vl.Pattern.c r.1.kids)], .lit (.bool r.2.1), .lit (.bool r.2.2)]) :=
 (CC.impl_narrowed B hB1 hB2 v n m).1 p r hF

theorem C.impl_narrowed_l2 (B : Nat) (hB1 : 67108864 ≤ B) (hB2 : B ≤ 9223372036854775807) (p : Vl.Pattern) (v : Int) (n : Int) (m : Int) (i25 : Nat) (o : Lo (Vl.Pattern × Bool × Bool) Unit) (hF : F.impl_narrowed_l2 p v n m i25 = some o) : ∀ (c : Code), navO [1, 1, 1, 0, 1, 0, 0] (bodyOf Try.f141) = some c → ∀ (Q : Exit → ASt → Prop), o.post (fun r => ∀ st, Post Try.prog Try.f141 (fun r' _ => r'.le (.tup [.agg [.lit (.int .i64 r.1.op), .lit (.int .i64 r.1.ctor), .lit (.int .i64 r.1.n), .lit (.int .i64 r.1.m), .lit (.int .i64 r.1.var), .arr (List.map Vl.Pattern.c r.1.kids)], .lit (.bool r.2.1), .lit (.bool r.2.2)])) .ret st → Q .ret st) (fun s => Q (.exit 0) ⟨[(4, .ptr 0 0), (8, .ptr 1 0)], [.cells [.lit (.int .i64 p.op), .lit (.int .i64 p.ctor), .lit (.int .i64 p.n), .lit (.int .i64 p.m), .lit (.int .i64 p.var), .arr (List.map Vl.Pattern.c p.kids)], .cells [.lit (.int .i64 0), .lit (.int .i64 0), .lit (.int .i64 0), .lit (.int .i64 0), .lit (.int .i64 0), .lit (.slice none 0 0)]]⟩) → ALoopU Try.prog B 0 75 (hold c .mk) ⟨[(1, .lit (.int .i64 v)), (2, .lit (.int .i64 n)), (3, .lit (.int .i64 m)), (4, .ptr 0 0), (8, .ptr 1 0), (44, .arr (List.map Vl.Pattern.c p.kids)), (45, .lit (.int .i64 (p.kids.length : Int))), (46, .lit (.int .i64 (i25 : Int)))], [.cells [.lit (.int .i64 p.op), .lit (.int .i64 p.ctor), .lit (.int .i64 p.n), .lit (.int .i64 p.m), .lit (.int .i64 p.var), .arr (List.map Vl.Pattern.c p.kids)], .cells [.lit (.int .i64 0), .lit (.int .i64 0), .lit (.int .i64 0), .lit (.int .i64 0), .lit (.int .i64 0), .lit (.slice none 0 0)]]⟩ (hold Q .mk) :=
 (CC.impl_narrowed B hB1 hB2 v n m).2.1 p i25 o hF

theorem C.impl_narrowed_l1 (B : Nat) (hB1 : 67108864 ≤ B) (hB2 : B ≤ 9223372036854775807) (p : Vl.Pattern) (v : Int) (n : Int) (m : Int) (i : Nat) (o : Lo (Vl.Pattern × Bool × Bool) Unit) (hF : F.impl_narrowed_l1 p v n m i = some o) : ∀ (c : Code), navO [1, 1, 1, 0, 1, 0, 0] (bodyOf Try.f141) = some c → ∀ (Q : Exit → ASt → Prop), o.post (fun r => ∀ st, Post Try.prog Try.f141 (fun r' _ => r'.le (.tup [.agg [.lit (.int .i64 r.1.op), .lit (.int .i64 r.1.ctor), .lit (.int .i64 r.1.n), .lit (.int .i64 r.1.m), .lit (.int .i64 r.1.var), .arr (List.map Vl.Pattern.c r.1.kids)], .lit (.bool r.2.1), .lit (.bool r.2.2)])) .ret st → Q .ret st) (fun s => Q (.exit 0) ⟨[(4, .ptr 0 0), (8, .ptr 1 0)], [.cells [.lit (.int .i64 p.op), .lit (.int .i64 p.ctor), .lit (.int .i64 p.n), .lit (.int .i64 p.m), .lit (.int .i64 p.var), .arr (List.map Vl.Pattern.c p.kids)], .cells [.lit (.int .i64 0), .lit (.int .i64 0), .lit (.int .i64 0), .lit (.int .i64 0), .lit (.int .i64 0), .lit (.slice none 0 0)]]⟩) → ALoopU Try.prog B 0 75 (hold c .mk) ⟨[(1, .lit (.int .i64 v)), (2, .lit (.int .i64 n)), (3, .lit (.int .i64 m)), (4, .ptr 0 0), (8, .ptr 1 0), (44, .arr (List.map Vl.Pattern.c p.kids)), (45, .lit (.int .i64 (p.kids.length : Int))), (46, .lit (.int .i64 (i : Int)))], [.cells [.lit (.int .i64 p.op), .lit (.int .i64 p.ctor), .lit (.int .i64 p.n), .lit (.int .i64 p.m), .lit (.int .i64 p.var), .arr (List.map Vl.Pattern.c p.kids)], .cells [.lit (.int .i64 0), .lit (.int .i64 0), .lit (.int .i64 0), .lit (.int .i64 0), .lit (.int .i64 0), .lit (.slice none 0 0)]]⟩ (hold Q .mk) :=
 (CC.impl_narrowed B hB1 hB2 v n m).2.2.1 p i o hF

theorem C.impl_narrowed_l3 (B : Nat) (hB1 : 67108864 ≤ B) (hB2 : B ≤ 9223372036854775807) (p : Vl.Pattern) (v : Int) (n : Int) (m : Int) (i48 : Nat) (o : Lo (Vl.Pattern × Bool × Bool) Unit) (hF : F.impl_narrowed_l3 p v n m i48 = some o) : ∀ (c : Code), navO [1, 1, 1, 0, 1, 0, 0] (bodyOf Try.f141) = some c → ∀ (Q : Exit → ASt → Prop), o.post (fun r => ∀ st, Post Try.prog Try.f141 (fun r' _ => r'.le (.tup [.agg [.lit (.int .i64 r.1.op), .lit (.int .i64 r.1.ctor), .lit (.int .i64 r.1.n), .lit (.int .i64 r.1.m), .lit (.int .i64 r.1.var), .arr (List.map Vl.Pattern.c r.1.kids)], .lit (.bool r.2.1), .lit (.bool r.2.2)])) .ret st → Q .ret st) (fun s => Q (.exit 0) ⟨[(4, .ptr 0 0), (8, .ptr 1 0)], [.cells [.lit (.int .i64 p.op), .lit (.int .i64 p.ctor), .lit (.int .i64 p.n), .lit (.int .i64 p.m), .lit (.int .i64 p.var), .arr (List.map Vl.Pattern.c p.kids)], .cells [.lit (.int .i64 0), .lit (.int .i64 0), .lit (.int .i64 0), .lit (.int .i64 0), .lit (.int .i64 0), .lit (.slice none 0 0)]]⟩) → ALoopU Try.prog B 0 75 (hold c .mk) ⟨[(1, .lit (.int .i64 v)), (2, .lit (.int .i64 n)), (3, .lit (.int .i64 m)), (4, .ptr 0 0), (8, .ptr 1 0), (44, .arr (List.map Vl.Pattern.c p.kids)), (45, .lit (.int .i64 (p.kids.length : Int))), (46, .lit (.int .i64 (i48 : Int)))], [.cells [.lit (.int .i64 p.op), .lit (.int .i64 p.ctor), .lit (.int .i64 p.n), .lit (.int .i64 p.m), .lit (.int .i64 p.var), .arr (List.map Vl.Pattern.c p.kids)], .cells [.lit (.int .i64 0), .lit (.int .i64 0), .lit (.int .i64 0), .lit (.int .i64 0), .lit (.int .i64 0), .lit (.slice none 0 0)]]⟩ (hold Q .mk) :=
 (CC.impl_narrowed B hB1 hB2 v n m).2.2.2 p i48 o hF

set_option maxRecDepth 100000 in
set_option maxHeartbeats 4000000 in
theorem C.impl_guarded (B : Nat) (hB1 : 67108864 ≤ B) (hB2 : B ≤ 9223372036854775807) (c' : Vl.Clause) (r : Vl.Pattern × Bool × Bool) (hF : F.impl_guarded c' = some r) : PureCall Try.prog B 81 [.agg [.lit (.int .i64 c'.pat.op), .lit (.int .i64 c'.pat.ctor), .lit (.int .i64 c'.pat.n), .lit (.int .i64 c'.pat.m), .lit (.int .i64 c'.pat.var), .arr (List.map Vl.Pattern.c c'.pat.kids), .lit (.int .i64 c'.guard.op), .lit (.int .i64 c'.guard.var), .lit (.int .i64 c'.guard.n)]] (.tup [.agg [.lit (.int .i64 r.1.op), .lit (.int .i64 r.1.ctor), .lit (.int .i64 r.1.n), .lit (.int .i64 r.1.m), .lit (.int .i64 r.1.var), .arr (List.map Vl.Pattern.c r.1.kids)], .lit (.bool r.2.1), .lit (.bool r.2.2)]) := by
 unfold F.impl_guarded at hF
 refine PureCall.enterLe Try.func81 (by kernel_rfl) rfl Try.ntmps81 (by simp) (by simp) ?_
 repeat (first | refine chk.ga ?_ | simp -dsimp)
 refine ADraw.simple follows (by kernel_rfl) (by kernel_rfl) ?_
 repeat (first | refine chk.ga ?_ | simp -dsimp)
 refine abr.split (fun h1 => ?_) (fun h1 => ?_)
 ·have q2 : (c'.guard.op = 2) := auq h1
  rw [if_pos q2] at hF
  repeat (first | refine chk.ga ?_ | simp -dsimp [h1])
  refine ADraw.simple follows (by kernel_rfl) (by kernel_rfl) ?_
  repeat (first | refine chk.ga ?_ | simp -dsimp [h1])
  have hF := ob hF; obtain ⟨v, e3, hF⟩ := hF
  refine ((C.impl_narrowed B hB1 hB2 c'.pat c'.guard.var c'.guard.n c'.guard.n v e3)).goW (by first | simp [h1]; done | simp_all) (by simp) ?_
  repeat (first | refine chk.ga ?_ | simp -dsimp [h1])
  refine abr.split (fun h4 => ?_) (fun h4 => ?_)
  ·have q5 : (v.2.2 = true) := auq h4
   rw [if_pos q5] at hF
   cases hF
   repeat (first | refine chk.ga ?_ | simp -dsimp [h1, h4])
   all_goals (try omega)
  ·have q5 : ¬ (v.2.2 = true) := auq h4
   rw [if_neg q5] at hF
   cases hF
   repeat (first | refine chk.ga ?_ | simp -dsimp [h1, h4, q5])
   all_goals (try omega)
 ·have q2 : ¬ (c'.guard.op = 2) := auq h1
  rw [if_neg q2] at hF
  repeat (first | refine chk.ga ?_ | simp -dsimp [h1, q2])
  have hF := ob hF; obtain ⟨v6, e7, hF⟩ := hF
  refine ((C.impl_narrowed B hB1 hB2 c'.pat c'.guard.var (0 : Int) (IntKind.i64.wrap (c'.guard.n - 1)) v6 e7)).goW (by first | simp [h1, q2]; done | simp_all) (by simp) ?_
  repeat (first | refine chk.ga ?_ | simp -dsimp [h1, q2])
  refine abr.split (fun h8 => ?_) (fun h8 => ?_)
  ·have q9 : (v6.2.2 = true) := auq h8
   rw [if_pos q9] at hF
   cases hF
   repeat (first | refine chk.ga ?_ | simp -dsimp [h1, q2, h8])
   all_goals (try omega)
  ·have q9 : ¬ (v6.2.2 = true) := auq h8
   rw [if_neg q9] at hF
   cases hF
   repeat (first | refine chk.ga ?_ | simp -dsimp [h1, q2, h8, q9])
   all_goals (try omega)

set_option maxRecDepth 100000 in
set_option maxHeartbeats 4000000 in
theorem C.impl_GuardNever (B : Nat) (hB1 : 67108864 ≤ B) (hB2 : B ≤ 9223372036854775807) (w : List Vl.Data) (t : Vl.Ty) (c' : Vl.Clause) (r : Bool) (hF : F.impl_GuardNever w t c' = some r) : PureCall Try.prog B 32 [.arr (List.map Vl.Data.c w), .agg [.lit (.int .i64 t.data), .lit (.int .i64 t.index)], .agg [.lit (.int .i64 c'.pat.op), .lit (.int .i64 c'.pat.ctor), .lit (.int .i64 c'.pat.n), .lit (.int .i64 c'.pat.m), .lit (.int .i64 c'.pat.var), .arr (List.map Vl.Pattern.c c'.pat.kids), .lit (.int .i64 c'.guard.op), .lit (.int .i64 c'.guard.var), .lit (.int .i64 c'.guard.n)]] (.lit (.bool r)) := by
 unfold F.impl_GuardNever at hF
 refine PureCall.enterLe Try.func32 (by kernel_rfl) rfl Try.ntmps32 (by simp) (by simp) ?_
 repeat (first | refine chk.ga ?_ | simp -dsimp)
 have hF := ob hF; obtain ⟨v, e1, hF⟩ := hF
 refine ((C.impl_ClauseValid B hB1 hB2 w t c' v e1)).goW (by simp) (by simp) ?_
 repeat (first | refine chk.ga ?_ | simp -dsimp)
 refine abr.split (fun h2 => ?_) (fun h2 => ?_)
 ·have q3 : (v = true) := auq h2
  rw [if_pos q3] at hF
  repeat (first | refine chk.ga ?_ | simp -dsimp [h2])
  refine abr.split (fun h4 => ?_) (fun h4 => ?_)
  ·have q5 : (c'.guard.op = 0) := auq h4
   rw [if_pos q5] at hF
   cases hF
   repeat (first | refine chk.ga ?_ | simp -dsimp [h2, h4])
   all_goals (try omega)
  ·have q5 : ¬ (c'.guard.op = 0) := auq h4
   rw [if_neg q5] at hF
   repeat (first | refine chk.ga ?_ | simp -dsimp [h2, h4, q5])
   have hF := ob hF; obtain ⟨v6, e7, hF⟩ := hF
   refine ((C.impl_guarded B hB1 hB2 c' v6 e7)).goW (by first | simp [h2, h4, q5]; done | simp_all) (by simp) ?_
   repeat (first | refine chk.ga ?_ | simp -dsimp [h2, h4, q5])
   refine abr.split (fun h8 => ?_) (fun h8 => ?_)
   ·have q9 : (v6.2.1 = true) := auq h8
    rw [if_pos q9] at hF
    cases hF
    repeat (first | refine chk.ga ?_ | simp -dsimp [h2, h4, q5, h8])
    all_goals (try omega)
   ·have q9 : ¬ (v6.2.1 = true) := auq h8
    rw [if_neg q9] at hF
    cases hF
    repeat (first | refine chk.ga ?_ | simp -dsimp [h2, h4, q5, h8, q9])
    all_goals (try omega)
 ·have q3 : ¬ (v = true) := auq h2
  rw [if_neg q3] at hF
  cases hF
  repeat (first | refine chk.ga ?_ | simp -dsimp [h2, q3])
  all_goals (try omega)

set_option maxRecDepth 100000 in
set_option maxHeartbeats 4000000 in
theorem C.laws_eqType (B : Nat) (hB1 : 67108864 ≤ B) (hB2 : B ≤ 9223372036854775807) (a : Vl.Ty) (b : Vl.Ty) (r : Bool) (hF : F.laws_eqType a b = some r) : PureCall Try.prog B 125 [.agg [.lit (.int .i64 a.data), .lit (.int .i64 a.index)], .agg [.lit (.int .i64 b.data), .lit (.int .i64 b.index)]] (.lit (.bool r)) := by
 unfold F.laws_eqType at hF
 refine PureCall.enterLe Try.func125 (by kernel_rfl) rfl Try.ntmps125 (by simp) (by simp) ?_
 repeat (first | refine chk.ga ?_ | simp -dsimp)
 refine abr.split (fun h1 => ?_) (fun h1 => ?_)
 ·have q2 : ¬ (a.data = b.data) := auq h1
  rw [if_neg q2] at hF
  cases hF
  repeat (first | refine chk.ga ?_ | simp -dsimp [h1, q2])
  all_goals (try omega)
 ·have q2 : (a.data = b.data) := auq h1
  rw [if_pos q2] at hF
  repeat (first | refine chk.ga ?_ | simp -dsimp [h1, q2])
  refine abr.split (fun h3 => ?_) (fun h3 => ?_)
  ·have q4 : ¬ (a.index = b.index) := auq h3
   rw [if_neg q4] at hF
   cases hF
   repeat (first | refine chk.ga ?_ | simp -dsimp [h1, q2, h3, q4])
   all_goals (try omega)
  ·have q4 : (a.index = b.index) := auq h3
   rw [if_pos q4] at hF
   cases hF
   repeat (first | refine chk.ga ?_ | simp -dsimp [h1, q2, h3, q4])
   all_goals (try omega)

set_option maxRecDepth 100000 in
set_option maxHeartbeats 4000000 in
theorem CC.laws_eqTypeS_l1 (B : Nat) (hB1 : 67108864 ≤ B) (hB2 : B ≤ 9223372036854775807) (a : List Vl.Ty) (b : List Vl.Ty) : (∀ (i : Nat) (o : Lo Bool Unit), F.laws_eqTypeS_l1 a b i = some o → ∀ (c : Code), navO [1, 1, 0, 1, 0, 0] (bodyOf Try.f204) = some c → ∀ (Q : Exit → ASt → Prop), o.post (fun r => ∀ st, Post Try.prog Try.f204 (fun r' _ => r'.le (.lit (.bool r))) .ret st → Q .ret st) (fun s => Q (.exit 0) ⟨[], []⟩) → ALoopU Try.prog B 0 27 (hold c .mk) ⟨[(0, .arr (List.map Vl.Ty.c a)), (1, .arr (List.map Vl.Ty.c b)), (5, .lit (.int .i64 (i : Int)))], []⟩ (hold Q .mk)) := by
 refine F.laws_eqTypeS_l1.partial_correctness a b
  (fun i o => ∀ (c : Code), navO [1, 1, 0, 1, 0, 0] (bodyOf Try.f204) = some c → ∀ (Q : Exit → ASt → Prop), o.post (fun r => ∀ st, Post Try.prog Try.f204 (fun r' _ => r'.le (.lit (.bool r))) .ret st → Q .ret st) (fun s => Q (.exit 0) ⟨[], []⟩) → ALoopU Try.prog B 0 27 (hold c .mk) ⟨[(0, .arr (List.map Vl.Ty.c a)), (1, .arr (List.map Vl.Ty.c b)), (5, .lit (.int .i64 (i : Int)))], []⟩ (hold Q .mk))
  ?_
 ·intro _f_laws_eqTypeS_l1 ih_laws_eqTypeS_l1 i o hF
  intro c hc Q hq
  obtain rfl : c = _ := navEq hc rfl
  refine ALoopU.know fun hk hs => ?_
  have b0 := hk 0
  simp -dsimp at b0
  have b1 := hk 1
  simp -dsimp at b1
  clear hk hs
  refine ALoopU.enter ?_
  repeat (first | refine chk.ga ?_ | simp -dsimp)
  refine abr.split (fun h4 => ?_) (fun h4 => ?_)
  ·have q5 : (i < a.length) := auq h4
   have z6 : ((i : Int) < (a.length : Int)) := auz
   rw [if_pos q5] at hF
   repeat (first | refine chk.ga ?_ | simp -dsimp [h4, z6])
   refine ADraw.simple follows (by kernel_rfl) (by kernel_rfl) ?_
   have hF := ob hF; obtain ⟨x, e7, hF⟩ := hF
   have le7 := lt_of_get e7
   have hF := ob hF; obtain ⟨x8, e9, hF⟩ := hF
   have le9 := lt_of_get e9
   repeat (first | refine chk.ga ?_ | simp -dsimp [h4, z6, ↓e7, ↓e9])
   have hF := ob hF; obtain ⟨v, e10, hF⟩ := hF
   refine ((C.laws_eqType B hB1 hB2 x x8 v e10)).pgoW (by first | simp [h4, z6, ↓e7, ↓e9]; done | simp_all) (by simp) ?_
   repeat (first | refine chk.ga ?_ | simp -dsimp [h4, z6, ↓e7, ↓e9])
   refine abr.split (fun h11 => ?_) (fun h11 => ?_)
   ·have q12 : ¬ (v = true) := auq h11
    rw [if_neg q12] at hF
    cases hF
    repeat (first | refine chk.ga ?_ | simp -dsimp [h4, z6, ↓e7, ↓e9, h11, q12])
    refine Leave.go _ (Gh.refl _) (hq _ ?_)
    repeat (first | refine chk.ga ?_ | simp -dsimp [h4, z6, ↓e7, ↓e9, h11, q12])
   ·have q12 : (v = true) := auq h11
    rw [if_pos q12] at hF
    have w13 : IntKind.i64.wrap ((i : Int) + 1) = (i : Int) + 1 := wrap_in (by omega) (by omega)
    repeat (first | refine chk.ga ?_ | simp -dsimp [h4, z6, ↓e7, ↓e9, h11, q12, w13])
    refine Again.go ⟨[(0, .arr (List.map Vl.Ty.c a)), (1, .arr (List.map Vl.Ty.c b)), (5, .lit (.int .i64 ((i + 1) : Int)))], []⟩ (Gh.to3 (by simp) (by first | simp -dsimp [h4, z6, ↓e7, ↓e9, h11, q12, w13]; done | simp_all)) ?_
    exact (ih_laws_eqTypeS_l1 (i + 1) o hF) _ rfl _ hq
  ·have q5 : ¬ (i < a.length) := auq h4
   have z6 : ¬ ((i : Int) < (a.length : Int)) := auz
   rw [if_neg q5] at hF
   cases hF
   repeat (first | refine chk.ga ?_ | simp -dsimp [h4, q5, z6])
   refine Leave.go ⟨[], []⟩ (Gh.to3 (by simp) (by first | simp -dsimp [h4, q5, z6]; done | simp_all)) ?_
   exact hq

theorem C.laws_eqTypeS_l1 (B : Nat) (hB1 : 67108864 ≤ B) (hB2 : B ≤ 9223372036854775807) (a : List Vl.Ty) (b : List Vl.Ty) (i : Nat) (o : Lo Bool Unit) (hF : F.laws_eqTypeS_l1 a b i = some o) : ∀ (c : Code), navO [1, 1, 0, 1, 0, 0] (bodyOf Try.f204) = some c → ∀ (Q : Exit → ASt → Prop), o.post (fun r => ∀ st, Post Try.prog Try.f204 (fun r' _ => r'.le (.lit (.bool r))) .ret st → Q .ret st) (fun s => Q (.exit 0) ⟨[], []⟩) → ALoopU Try.prog B 0 27 (hold c .mk) ⟨[(0, .arr (List.map Vl.Ty.c a)), (1, .arr (List.map Vl.Ty.c b)), (5, .lit (.int .i64 (i : Int)))], []⟩ (hold Q .mk) :=
 (CC.laws_eqTypeS_l1 B hB1 hB2 a b) i o hF

set_option maxRecDepth 100000 in
set_option maxHeartbeats 4000000 in
theorem C.laws_eqTypeS (B : Nat) (hB1 : 67108864 ≤ B) (hB2 : B ≤ 9223372036854775807) (a : List Vl.Ty) (b : List Vl.Ty) (r : Bool) (hF : F.laws_eqTypeS a b = some r) : PureCall Try.prog B 204 [.arr (List.map Vl.Ty.c a), .arr (List.map Vl.Ty.c b)] (.lit (.bool r)) := by
 unfold F.laws_eqTypeS at hF
 refine PureCall.enterLe Try.func204 (by kernel_rfl) rfl Try.ntmps204 (by simp) (by simp) ?_
 repeat (first | refine chk.ga ?_ | simp -dsimp)
 refine abr.split (fun h1 => ?_) (fun h1 => ?_)
 ·have q2 : ¬ (a.length = b.length) := auq h1
  have z3 : ¬ ((a.length : Int) = (b.length : Int)) := auz
  rw [if_neg q2] at hF
  cases hF
  repeat (first | refine chk.ga ?_ | simp -dsimp [h1, q2, z3])
  all_goals (try omega)
 ·have q2 : (a.length = b.length) := auq h1
  have z3 : ((a.length : Int) = (b.length : Int)) := auz
  rw [if_pos q2] at hF
  repeat (first | refine chk.ga ?_ | simp -dsimp [h1, q2, z3])
  have hF := ob hF; obtain ⟨o', ho14, hF⟩ := hF
  refine ALoop.goU ⟨[(0, .arr (List.map Vl.Ty.c a)), (1, .arr (List.map Vl.Ty.c b)), (5, .lit (.int .i64 (0 : Int)))], []⟩ (Gh.to3 (by simp) (by first | simp -dsimp [h1, q2, z3]; done | simp_all)) ?_
  refine (C.laws_eqTypeS_l1 B hB1 hB2 a b 0 o' ho14) _ rfl _ ?_
  rcases o' with r0 | sx
  ·dsimp only at hF
   cases hF
   intro st h
   simpa using h
  ·dsimp only at hF
   cases hF
   repeat (first | refine chk.ga ?_ | simp -dsimp)
   all_goals (try omega)

set_option maxRecDepth 100000 in
set_option maxHeartbeats 4000000 in
theorem C.laws_eqCtor (B : Nat) (hB1 : 67108864 ≤ B) (hB2 : B ≤ 9223372036854775807) (a : Vl.Ctor) (b : Vl.Ctor) (r : Bool) (hF : F.laws_eqCtor a b = some r) : PureCall Try.prog B 165 [.agg [.lit (.string a.name), .arr (List.map Vl.Ty.c a.args), .lit (.int .i64 a.index)], .agg [.lit (.string b.name), .arr (List.map Vl.Ty.c b.args), .lit (.int .i64 b.index)]] (.lit (.bool r)) := by
 unfold F.laws_eqCtor at hF
 refine PureCall.enterLe Try.func165 (by kernel_rfl) rfl Try.ntmps165 (by simp) (by simp) ?_
 repeat (first | refine chk.ga ?_ | simp -dsimp)
 refine abr.split (fun h1 => ?_) (fun h1 => ?_)
 ·have q2 : ¬ (a.name.toList = b.name.toList) := auq h1
  rw [if_neg q2] at hF
  cases hF
  repeat (first | refine chk.ga ?_ | simp -dsimp [h1, q2])
  all_goals (try omega)
 ·have q2 : (a.name.toList = b.name.toList) := auq h1
  rw [if_pos q2] at hF
  repeat (first | refine chk.ga ?_ | simp -dsimp [h1, q2])
  have hF := ob hF; obtain ⟨v, e3, hF⟩ := hF
  refine ((C.laws_eqTypeS B hB1 hB2 a.args b.args v e3)).goW (by first | simp [h1, q2]; done | simp_all) (by simp) ?_
  repeat (first | refine chk.ga ?_ | simp -dsimp [h1, q2])
  refine abr.split (fun h4 => ?_) (fun h4 => ?_)
  ·have q5 : ¬ (v = true) := auq h4
   rw [if_neg q5] at hF
   cases hF
   repeat (first | refine chk.ga ?_ | simp -dsimp [h1, q2, h4, q5])
   all_goals (try omega)
  ·have q5 : (v = true) := auq h4
   rw [if_pos q5] at hF
   repeat (first | refine chk.ga ?_ | simp -dsimp [h1, q2, h4, q5])
   refine abr.split (fun h6 => ?_) (fun h6 => ?_)
   ·have q7 : ¬ (a.index = b.index) := auq h6
    rw [if_neg q7] at hF
    cases hF
    repeat (first | refine chk.ga ?_ | simp -dsimp [h1, q2, h4, q5, h6, q7])
    all_goals (try omega)
   ·have q7 : (a.index = b.index) := auq h6
    rw [if_pos q7] at hF
    cases hF
    repeat (first | refine chk.ga ?_ | simp -dsimp [h1, q2, h4, q5, h6, q7])
    all_goals (try omega)

set_option maxRecDepth 100000 in
set_option maxHeartbeats 4000000 in
theorem CC.laws_eqCtorS_l1 (B : Nat) (hB1 : 67108864 ≤ B) (hB2 : B ≤ 9223372036854775807) (a : List Vl.Ctor) (b : List Vl.Ctor) : (∀ (i : Nat) (o : Lo Bool Unit), F.laws_eqCtorS_l1 a b i = some o → ∀ (c : Code), navO [1, 1, 0, 1, 0, 0] (bodyOf Try.f124) = some c → ∀ (Q : Exit → ASt → Prop), o.post (fun r => ∀ st, Post Try.prog Try.f124 (fun r' _ => r'.le (.lit (.bool r))) .ret st → Q .ret st) (fun s => Q (.exit 0) ⟨[], []⟩) → ALoopU Try.prog B 0 27 (hold c .mk) ⟨[(0, .arr (List.map Vl.Ctor.c a)), (1, .arr (List.map Vl.Ctor.c b)), (5, .lit (.int .i64 (i : Int)))], []⟩ (hold Q .mk)) := by
 refine F.laws_eqCtorS_l1.partial_correctness a b
  (fun i o => ∀ (c : Code), navO [1, 1, 0, 1, 0, 0] (bodyOf Try.f124) = some c → ∀ (Q : Exit → ASt → Prop), o.post (fun r => ∀ st, Post Try.prog Try.f124 (fun r' _ => r'.le (.lit (.bool r))) .ret st → Q .ret st) (fun s => Q (.exit 0) ⟨[], []⟩) → ALoopU Try.prog B 0 27 (hold c .mk) ⟨[(0, .arr (List.map Vl.Ctor.c a)), (1, .arr (List.map Vl.Ctor.c b)), (5, .lit (.int .i64 (i : Int)))], []⟩ (hold Q .mk))
  ?_
 ·intro _f_laws_eqCtorS_l1 ih_laws_eqCtorS_l1 i o hF
  intro c hc Q hq
  obtain rfl : c = _ := navEq hc rfl
  refine ALoopU.know fun hk hs => ?_
  have b0 := hk 0
  simp -dsimp at b0
  have b1 := hk 1
  simp -dsimp at b1
  clear hk hs
  refine ALoopU.enter ?_
  repeat (first | refine chk.ga ?_ | simp -dsimp)
  refine abr.split (fun h4 => ?_) (fun h4 => ?_)
  ·have q5 : (i < a.length) := auq h4
   have z6 : ((i : Int) < (a.length : Int)) := auz
   rw [if_pos q5] at hF
   repeat (first | refine chk.ga ?_ | simp -dsimp [h4, z6])
   refine ADraw.simple follows (by kernel_rfl) (by kernel_rfl) ?_
   have hF := ob hF; obtain ⟨x, e7, hF⟩ := hF
   have le7 := lt_of_get e7
   have hF := ob hF; obtain ⟨x8, e9, hF⟩ := hF
   have le9 := lt_of_get e9
   repeat (first | refine chk.ga ?_ | simp -dsimp [h4, z6, ↓e7, ↓e9])
   have hF := ob hF; obtain ⟨v, e10, hF⟩ := hF
   refine ((C.laws_eqCtor B hB1 hB2 x x8 v e10)).pgoW (by first | simp [h4, z6, ↓e7, ↓e9]; done | simp_all) (by simp) ?_
   repeat (first | refine chk.ga ?_ | simp -dsimp [h4, z6, ↓e7, ↓e9])
   refine abr.split (fun h11 => ?_) (fun h11 => ?_)
   ·have q12 : ¬ (v = true) := auq h11
    rw [if_neg q12] at hF
    cases hF
    repeat (first | refine chk.ga ?_ | simp -dsimp [h4, z6, ↓e7, ↓e9, h11, q12])
    refine Leave.go _ (Gh.refl _) (hq _ ?_)
    repeat (first | refine chk.ga ?_ | simp -dsimp [h4, z6, ↓e7, ↓e9, h11, q12])
   ·have q12 : (v = true) := auq h11
    rw [if_pos q12] at hF
    have w13 : IntKind.i64.wrap ((i : Int) + 1) = (i : Int) + 1 := wrap_in (by omega) (by omega)
    repeat (first | refine chk.ga ?_ | simp -dsimp [h4, z6, ↓e7, ↓e9, h11, q12, w13])
    refine Again.go ⟨[(0, .arr (List.map Vl.Ctor.c a)), (1, .arr (List.map Vl.Ctor.c b)), (5, .lit (.int .i64 ((i + 1) : Int)))], []⟩ (Gh.to3 (by simp) (by first | simp -dsimp [h4, z6, ↓e7, ↓e9, h11, q12, w13]; done | simp_all)) ?_
    exact (ih_laws_eqCtorS_l1 (i + 1) o hF) _ rfl _ hq
  ·have q5 : ¬ (i < a.length) := auq h4
   have z6 : ¬ ((i : Int) < (a.length : Int)) := auz
   rw [if_neg q5] at hF
   cases hF
   repeat (first | refine chk.ga ?_ | simp -dsimp [h4, q5, z6])
   refine Leave.go ⟨[], []⟩ (Gh.to3 (by simp) (by first | simp -dsimp [h4, q5, z6]; done | simp_all)) ?_
   exact hq

theorem C.laws_eqCtorS_l1 (B : Nat) (hB1 : 67108864 ≤ B) (hB2 : B ≤ 9223372036854775807) (a : List Vl.Ctor) (b : List Vl.Ctor) (i : Nat) (o : Lo Bool Unit) (hF : F.laws_eqCtorS_l1 a b i = some o) : ∀ (c : Code), navO [1, 1, 0, 1, 0, 0] (bodyOf Try.f124) = some c → ∀ (Q : Exit → ASt → Prop), o.post (fun r => ∀ st, Post Try.prog Try.f124 (fun r' _ => r'.le (.lit (.bool r))) .ret st → Q .ret st) (fun s => Q (.exit 0) ⟨[], []⟩) → ALoopU Try.prog B 0 27 (hold c .mk) ⟨[(0, .arr (List.map Vl.Ctor.c a)), (1, .arr (List.map Vl.Ctor.c b)), (5, .lit (.int .i64 (i : Int)))], []⟩ (hold Q .mk) :=
 (CC.laws_eqCtorS_l1 B hB1 hB2 a b) i o hF

set_option maxRecDepth 100000 in
set_option maxHeartbeats 4000000 in
theorem C.laws_eqCtorS (B : Nat) (hB1 : 67108864 ≤ B) (hB2 : B ≤ 9223372036854775807) (a : List Vl.Ctor) (b : List Vl.Ctor) (r : Bool) (hF : F.laws_eqCtorS a b = some r) : PureCall Try.prog B 124 [.arr (List.map Vl.Ctor.c a), .arr (List.map Vl.Ctor.c b)] (.lit (.bool r)) := by
 unfold F.laws_eqCtorS at hF
 refine PureCall.enterLe Try.func124 (by kernel_rfl) rfl Try.ntmps124 (by simp) (by simp) ?_
 repeat (first | refine chk.ga ?_ | simp -dsimp)
 refine abr.split (fun h1 => ?_) (fun h1 => ?_)
 ·have q2 : ¬ (a.length = b.length) := auq h1
  have z3 : ¬ ((a.length : Int) = (b.length : Int)) := auz
  rw [if_neg q2] at hF
  cases hF
  repeat (first | refine chk.ga ?_ | simp -dsimp [h1, q2, z3])
  all_goals (try omega)
 ·have q2 : (a.length = b.length) := auq h1
  have z3 : ((a.length : Int) = (b.length : Int)) := auz
  rw [if_pos q2] at hF
  repeat (first | refine chk.ga ?_ | simp -dsimp [h1, q2, z3])
  have hF := ob hF; obtain ⟨o', ho14, hF⟩ := hF
  refine ALoop.goU ⟨[(0, .arr (List.map Vl.Ctor.c a)), (1, .arr (List.map Vl.Ctor.c b)), (5, .lit (.int .i64 (0 : Int)))], []⟩ (Gh.to3 (by simp) (by first | simp -dsimp [h1, q2, z3]; done | simp_all)) ?_
  refine (C.laws_eqCtorS_l1 B hB1 hB2 a b 0 o' ho14) _ rfl _ ?_
  rcases o' with r0 | sx
  ·dsimp only at hF
   cases hF
   intro st h
   simpa using h
  ·dsimp only at hF
   cases hF
   repeat (first | refine chk.ga ?_ | simp -dsimp)
   all_goals (try omega)

set_option maxRecDepth 100000 in
set_option maxHeartbeats 4000000 in
theorem C.laws_eqData (B : Nat) (hB1 : 67108864 ≤ B) (hB2 : B ≤ 9223372036854775807) (a : Vl.Data) (b : Vl.Data) (r : Bool) (hF : F.laws_eqData a b = some r) : PureCall Try.prog B 63 [.agg [.lit (.string a.name), .arr (List.map Vl.Ctor.c a.ctors)], .agg [.lit (.string b.name), .arr (List.map Vl.Ctor.c b.ctors)]] (.lit (.bool r)) := by
 unfold F.laws_eqData at hF
 refine PureCall.enterLe Try.func63 (by kernel_rfl) rfl Try.ntmps63 (by simp) (by simp) ?_
 repeat (first | refine chk.ga ?_ | simp -dsimp)
 refine abr.split (fun h1 => ?_) (fun h1 => ?_)
 ·have q2 : ¬ (a.name.toList = b.name.toList) := auq h1
  rw [if_neg q2] at hF
  cases hF
  repeat (first | refine chk.ga ?_ | simp -dsimp [h1, q2])
  all_goals (try omega)
 ·have q2 : (a.name.toList = b.name.toList) := auq h1
  rw [if_pos q2] at hF
  repeat (first | refine chk.ga ?_ | simp -dsimp [h1, q2])
  have hF := ob hF; obtain ⟨v, e3, hF⟩ := hF
  refine ((C.laws_eqCtorS B hB1 hB2 a.ctors b.ctors v e3)).goW (by first | simp [h1, q2]; done | simp_all) (by simp) ?_
  repeat (first | refine chk.ga ?_ | simp -dsimp [h1, q2])
  refine abr.split (fun h4 => ?_) (fun h4 => ?_)
  ·have q5 : ¬ (v = true) := auq h4
   rw [if_neg q5] at hF
   cases hF
   repeat (first | refine chk.ga ?_ | simp -dsimp [h1, q2, h4, q5])
   all_goals (try omega)
  ·have q5 : (v = true) := auq h4
   rw [if_pos q5] at hF
   cases hF
   repeat (first | refine chk.ga ?_ | simp -dsimp [h1, q2, h4, q5])
   all_goals (try omega)

set_option maxRecDepth 100000 in
set_option maxHeartbeats 4000000 in
theorem CC.laws_eqDataS_l1 (B : Nat) (hB1 : 67108864 ≤ B) (hB2 : B ≤ 9223372036854775807) (a : List Vl.Data) (b : List Vl.Data) : (∀ (i : Nat) (o : Lo Bool Unit), F.laws_eqDataS_l1 a b i = some o → ∀ (c : Code), navO [1, 1, 0, 1, 0, 0] (bodyOf Try.f20) = some c → ∀ (Q : Exit → ASt → Prop), o.post (fun r => ∀ st, Post Try.prog Try.f20 (fun r' _ => r'.le (.lit (.bool r))) .ret st → Q .ret st) (fun s => Q (.exit 0) ⟨[], []⟩) → ALoopU Try.prog B 0 27 (hold c .mk) ⟨[(0, .arr (List.map Vl.Data.c a)), (1, .arr (List.map Vl.Data.c b)), (5, .lit (.int .i64 (i : Int)))], []⟩ (hold Q .mk)) := by
 refine F.laws_eqDataS_l1.partial_correctness a b
  (fun i o => ∀ (c : Code), navO [1, 1, 0, 1, 0, 0] (bodyOf Try.f20) = some c → ∀ (Q : Exit → ASt → Prop), o.post (fun r => ∀ st, Post Try.prog Try.f20 (fun r' _ => r'.le (.lit (.bool r))) .ret st → Q .ret st) (fun s => Q (.exit 0) ⟨[], []⟩) → ALoopU Try.prog B 0 27 (hold c .mk) ⟨[(0, .arr (List.map Vl.Data.c a)), (1, .arr (List.map Vl.Data.c b)), (5, .lit (.int .i64 (i : Int)))], []⟩ (hold Q .mk))
  ?_
 ·intro _f_laws_eqDataS_l1 ih_laws_eqDataS_l1 i o hF
  intro c hc Q hq
  obtain rfl : c = _ := navEq hc rfl
  refine ALoopU.know fun hk hs => ?_
  have b0 := hk 0
  simp -dsimp at b0
  have b1 := hk 1
  simp -dsimp at b1
  clear hk hs
  refine ALoopU.enter ?_
  repeat (first | refine chk.ga ?_ | simp -dsimp)
  refine abr.split (fun h4 => ?_) (fun h4 => ?_)
  ·have q5 : (i < a.length) := auq h4
   have z6 : ((i : Int) < (a.length : Int)) := auz
   rw [if_pos q5] at hF
   repeat (first | refine chk.ga ?_ | simp -dsimp [h4, z6])
   refine ADraw.simple follows (by kernel_rfl) (by kernel_rfl) ?_
   have hF := ob hF; obtain ⟨x, e7, hF⟩ := hF
   have le7 := lt_of_get e7
   have hF := ob hF; obtain ⟨x8, e9, hF⟩ := hF
   have le9 := lt_of_get e9
   repeat (first | refine chk.ga ?_ | simp -dsimp [h4, z6, ↓e7, ↓e9])
   have hF := ob hF; obtain ⟨v, e10, hF⟩ := hF
   refine ((C.laws_eqData B hB1 hB2 x x8 v e10)).pgoW (by first | simp [h4, z6, ↓e7, ↓e9]; done | simp_all) (by simp) ?_
   repeat (first | refine chk.ga ?_ | simp -dsimp [h4, z6, ↓e7, ↓e9])
   refine abr.split (fun h11 => ?_) (fun h11 => ?_)
   ·have q12 : ¬ (v = true) := auq h11
    rw [if_neg q12] at hF
    cases hF
    repeat (first | refine chk.ga ?_ | simp -dsimp [h4, z6, ↓e7, ↓e9, h11, q12])
    refine Leave.go _ (Gh.refl _) (hq _ ?_)
    repeat (first | refine chk.ga ?_ | simp -dsimp [h4, z6, ↓e7, ↓e9, h11, q12])
   ·have q12 : (v = true) := auq h11
    rw [if_pos q12] at hF
    have w13 : IntKind.i64.wrap ((i : Int) + 1) = (i : Int) + 1 := wrap_in (by omega) (by omega)
    repeat (first | refine chk.ga ?_ | simp -dsimp [h4, z6, ↓e7, ↓e9, h11, q12, w13])
    refine Again.go ⟨[(0, .arr (List.map Vl.Data.c a)), (1, .arr (List.map Vl.Data.c b)), (5, .lit (.int .i64 ((i + 1) : Int)))], []⟩ (Gh.to3 (by simp) (by first | simp -dsimp [h4, z6, ↓e7, ↓e9, h11, q12, w13]; done | simp_all)) ?_
    exact (ih_laws_eqDataS_l1 (i + 1) o hF) _ rfl _ hq
  ·have q5 : ¬ (i < a.length) := auq h4
   have z6 : ¬ ((i : Int) < (a.length : Int)) := auz
   rw [if_neg q5] at hF
   cases hF
   repeat (first | refine chk.ga ?_ | simp -dsimp [h4, q5, z6])
   refine Leave.go ⟨[], []⟩ (Gh.to3 (by simp) (by first | simp -dsimp [h4, q5, z6]; done | simp_all)) ?_
   exact hq

theorem C.laws_eqDataS_l1 (B : Nat) (hB1 : 67108864 ≤ B) (hB2 : B ≤ 9223372036854775807) (a : List Vl.Data) (b : List Vl.Data) (i : Nat) (o : Lo Bool Unit) (hF : F.laws_eqDataS_l1 a b i = some o) : ∀ (c : Code), navO [1, 1, 0, 1, 0, 0] (bodyOf Try.f20) = some c → ∀ (Q : Exit → ASt → Prop), o.post (fun r => ∀ st, Post Try.prog Try.f20 (fun r' _ => r'.le (.lit (.bool r))) .ret st → Q .ret st) (fun s => Q (.exit 0) ⟨[], []⟩) → ALoopU Try.prog B 0 27 (hold c .mk) ⟨[(0, .arr (List.map Vl.Data.c a)), (1, .arr (List.map Vl.Data.c b)), (5, .lit (.int .i64 (i : Int)))], []⟩ (hold Q .mk) :=
 (CC.laws_eqDataS_l1 B hB1 hB2 a b) i o hF

set_option maxRecDepth 100000 in
set_option maxHeartbeats 4000000 in
theorem C.laws_eqDataS (B : Nat) (hB1 : 67108864 ≤ B) (hB2 : B ≤ 9223372036854775807) (a : List Vl.Data) (b : List Vl.Data) (r : Bool) (hF : F.laws_eqDataS a b = some r) : PureCall Try.prog B 20 [.arr (List.map Vl.Data.c a), .arr (List.map Vl.Data.c b)] (.lit (.bool r)) := by
 unfold F.laws_eqDataS at hF
 refine PureCall.enterLe Try.func20 (by kernel_rfl) rfl Try.ntmps20 (by simp) (by simp) ?_
 repeat (first | refine chk.ga ?_ | simp -dsimp)
 refine abr.split (fun h1 => ?_) (fun h1 => ?_)
 ·have q2 : ¬ (a.length = b.length) := auq h1
  have z3 : ¬ ((a.length : Int) = (b.length : Int)) := auz
  rw [if_neg q2] at hF
  cases hF
  repeat (first | refine chk.ga ?_ | simp -dsimp [h1, q2, z3])
  all_goals (try omega)
 ·have q2 : (a.length = b.length) := auq h1
  have z3 : ((a.length : Int) = (b.length : Int)) := auz
  rw [if_pos q2] at hF
  repeat (first | refine chk.ga ?_ | simp -dsimp [h1, q2, z3])
  have hF := ob hF; obtain ⟨o', ho14, hF⟩ := hF
  refine ALoop.goU ⟨[(0, .arr (List.map Vl.Data.c a)), (1, .arr (List.map Vl.Data.c b)), (5, .lit (.int .i64 (0 : Int)))], []⟩ (Gh.to3 (by simp) (by first | simp -dsimp [h1, q2, z3]; done | simp_all)) ?_
  refine (C.laws_eqDataS_l1 B hB1 hB2 a b 0 o' ho14) _ rfl _ ?_
  rcases o' with r0 | sx
  ·dsimp only at hF
   cases hF
   intro st h
   simpa using h
  ·dsimp only at hF
   cases hF
   repeat (first | refine chk.ga ?_ | simp -dsimp)
   all_goals (try omega)

set_option maxRecDepth 100000 in
set_option maxHeartbeats 4000000 in
theorem CC.laws_eqPattern (B : Nat) (hB1 : 67108864 ≤ B) (hB2 : B ≤ 9223372036854775807)  : (∀ (a : Vl.Pattern) (b : Vl.Pattern) (r : Bool), F.laws_eqPattern a b = some r → PureCall Try.prog B 28 [.agg [.lit (.int .i64 a.op), .lit (.int .i64 a.ctor), .lit (.int .i64 a.n), .lit (.int .i64 a.m), .lit (.int .i64 a.var), .arr (List.map Vl.Pattern.c a.kids)], .agg [.lit (.int .i64 b.op), .lit (.int .i64 b.ctor), .lit (.int .i64 b.n), .lit (.int .i64 b.m), .lit (.int .i64 b.var), .arr (List.map Vl.Pattern.c b.kids)]] (.lit (.bool r))) ∧
  (∀ (a : List Vl.Pattern) (b : List Vl.Pattern) (r : Bool), F.laws_eqPatternS a b = some r → PureCall Try.prog B 75 [.arr (List.map Vl.Pattern.c a), .arr (List.map Vl.Pattern.c b)] (.lit (.bool r))) ∧
  (∀ (a : List Vl.Pattern) (b : List Vl.Pattern) (i : Nat) (o : Lo Bool Unit), F.laws_eqPatternS_l1 a b i = some o → ∀ (c : Code), navO [1, 1, 0, 1, 0, 0] (bodyOf Try.f75) = some c → ∀ (Q : Exit → ASt → Prop), o.post (fun r => ∀ st, Post Try.prog Try.f75 (fun r' _ => r'.le (.lit (.bool r))) .ret st → Q .ret st) (fun s => Q (.exit 0) ⟨[], []⟩) → ALoopU Try.prog B 0 27 (hold c .mk) ⟨[(0, .arr (List.map Vl.Pattern.c a)), (1, .arr (List.map Vl.Pattern.c b)), (5, .lit (.int .i64 (i : Int)))], []⟩ (hold Q .mk)) := by
 refine F.laws_eqPattern.mutual_partial_correctness 
  (fun a b r => PureCall Try.prog B 28 [.agg [.lit (.int .i64 a.op), .lit (.int .i64 a.ctor), .lit (.int .i64 a.n), .lit (.int .i64 a.m), .lit (.int .i64 a.var), .arr (List.map Vl.Pattern.c a.kids)], .agg [.lit (.int .i64 b.op), .lit (.int .i64 b.ctor), .lit (.int .i64 b.n), .lit (.int .i64 b.m), .lit (.int .i64 b.var), .arr (List.map Vl.Pattern.c b.kids)]] (.lit (.bool r)))
  (fun a b r => PureCall Try.prog B 75 [.arr (List.map Vl.Pattern.c a), .arr (List.map Vl.Pattern.c b)] (.lit (.bool r)))
  (fun a b i o => ∀ (c : Code), navO [1, 1, 0, 1, 0, 0] (bodyOf Try.f75) = some c → ∀ (Q : Exit → ASt → Prop), o.post (fun r => ∀ st, Post Try.prog Try.f75 (fun r' _ => r'.le (.lit (.bool r))) .ret st → Q .ret st) (fun s => Q (.exit 0) ⟨[], []⟩) → ALoopU Try.prog B 0 27 (hold c .mk) ⟨[(0, .arr (List.map Vl.Pattern.c a)), (1, .arr (List.map Vl.Pattern.c b)), (5, .lit (.int .i64 (i : Int)))], []⟩ (hold Q .mk))
  ?_ ?_ ?_
 ·intro _f_laws_eqPatternS ih_laws_eqPatternS a b r hF
  refine PureCall.enterLe Try.func28 (by kernel_rfl) rfl Try.ntmps28 (by simp) (by simp) ?_
  repeat (first | refine chk.ga ?_ | simp -dsimp)
  refine abr.split (fun h1 => ?_) (fun h1 => ?_)
  ·have q2 : ¬ (a.op = b.op) := auq h1
   rw [if_neg q2] at hF
   cases hF
   repeat (first | refine chk.ga ?_ | simp -dsimp [h1, q2])
   all_goals (try omega)
  ·have q2 : (a.op = b.op) := auq h1
   rw [if_pos q2] at hF
   repeat (first | refine chk.ga ?_ | simp -dsimp [h1, q2])
   refine abr.split (fun h3 => ?_) (fun h3 => ?_)
   ·have q4 : ¬ (a.ctor = b.ctor) := auq h3
    rw [if_neg q4] at hF
    cases hF
    repeat (first | refine chk.ga ?_ | simp -dsimp [h1, q2, h3, q4])
    all_goals (try omega)
   ·have q4 : (a.ctor = b.ctor) := auq h3
    rw [if_pos q4] at hF
    repeat (first | refine chk.ga ?_ | simp -dsimp [h1, q2, h3, q4])
    refine abr.split (fun h5 => ?_) (fun h5 => ?_)
    ·have q6 : ¬ (a.n = b.n) := auq h5
     rw [if_neg q6] at hF
     cases hF
     repeat (first | refine chk.ga ?_ | simp -dsimp [h1, q2, h3, q4, h5, q6])
     all_goals (try omega)
    ·have q6 : (a.n = b.n) := auq h5
     rw [if_pos q6] at hF
     repeat (first | refine chk.ga ?_ | simp -dsimp [h1, q2, h3, q4, h5, q6])
     refine abr.split (fun h7 => ?_) (fun h7 => ?_)
     ·have q8 : ¬ (a.m = b.m) := auq h7
      rw [if_neg q8] at hF
      cases hF
      repeat (first | refine chk.ga ?_ | simp -dsimp [h1, q2, h3, q4, h5, q6, h7, q8])
      all_goals (try omega)
     ·have q8 : (a.m = b.m) := auq h7
      rw [if_pos q8] at hF
      repeat (first | refine chk.ga ?_ | simp -dsimp [h1, q2, h3, q4, h5, q6, h7, q8])
      refine abr.split (fun h9 => ?_) (fun h9 => ?_)
      ·have q10 : ¬ (a.var = b.var) := auq h9
       rw [if_neg q10] at hF
       cases hF
       repeat (first | refine chk.ga ?_ | simp -dsimp [h1, q2, h3, q4, h5, q6, h7, q8, h9, q10])
       all_goals (try omega)
      ·have q10 : (a.var = b.var) := auq h9
       rw [if_pos q10] at hF
       repeat (first | refine chk.ga ?_ | simp -dsimp [h1, q2, h3, q4, h5, q6, h7, q8, h9, q10])
       have hF := ob hF; obtain ⟨v, e11, hF⟩ := hF
       refine ((ih_laws_eqPatternS a.kids b.kids v e11)).goW (by first | simp [h1, q2, h3, q4, h5, q6, h7, q8, h9, q10]; done | simp_all) (by simp) ?_
       repeat (first | refine chk.ga ?_ | simp -dsimp [h1, q2, h3, q4, h5, q6, h7, q8, h9, q10])
       refine abr.split (fun h12 => ?_) (fun h12 => ?_)
       ·have q13 : ¬ (v = true) := auq h12
        rw [if_neg q13] at hF
        cases hF
        repeat (first | refine chk.ga ?_ | simp -dsimp [h1, q2, h3, q4, h5, q6, h7, q8, h9, q10, h12, q13])
        all_goals (try omega)
       ·have q13 : (v = true) := auq h12
        rw [if_pos q13] at hF
        cases hF
        repeat (first | refine chk.ga ?_ | simp -dsimp [h1, q2, h3, q4, h5, q6, h7, q8, h9, q10, h12, q13])
        all_goals (try omega)
 ·intro _f_laws_eqPatternS_l1 ih_laws_eqPatternS_l1 a b r hF
  refine PureCall.enterLe Try.func75 (by kernel_rfl) rfl Try.ntmps75 (by simp) (by simp) ?_
  repeat (first | refine chk.ga ?_ | simp -dsimp)
  refine abr.split (fun h1 => ?_) (fun h1 => ?_)
  ·have q2 : ¬ (a.length = b.length) := auq h1
   have z3 : ¬ ((a.length : Int) = (b.length : Int)) := auz
   rw [if_neg q2] at hF
   cases hF
   repeat (first | refine chk.ga ?_ | simp -dsimp [h1, q2, z3])
   all_goals (try omega)
  ·have q2 : (a.length = b.length) := auq h1
   have z3 : ((a.length : Int) = (b.length : Int)) := auz
   rw [if_pos q2] at hF
   repeat (first | refine chk.ga ?_ | simp -dsimp [h1, q2, z3])
   have hF := ob hF; obtain ⟨o', ho14, hF⟩ := hF
   refine ALoop.goU ⟨[(0, .arr (List.map Vl.Pattern.c a)), (1, .arr (List.map Vl.Pattern.c b)), (5, .lit (.int .i64 (0 : Int)))], []⟩ (Gh.to3 (by simp) (by first | simp -dsimp [h1, q2, z3]; done | simp_all)) ?_
   refine (ih_laws_eqPatternS_l1 a b 0 o' ho14) _ rfl _ ?_
   rcases o' with r0 | sx
   ·dsimp only at hF
    cases hF
    intro st h
    simpa using h
   ·dsimp only at hF
    cases hF
    repeat (first | refine chk.ga ?_ | simp -dsimp)
    all_goals (try omega)
 ·intro _f_laws_eqPattern _f_laws_eqPatternS_l1 ih_laws_eqPattern ih_laws_eqPatternS_l1 a b i o hF
  intro c hc Q hq
  obtain rfl : c = _ := navEq hc rfl
  refine ALoopU.know fun hk hs => ?_
  have b0 := hk 0
  simp -dsimp at b0
  have b1 := hk 1
  simp -dsimp at b1
  clear hk hs
  refine ALoopU.enter ?_
  repeat (first | refine chk.ga ?_ | simp -dsimp)
  refine abr.split (fun h4 => ?_) (fun h4 => ?_)
  ·have q5 : (i < a.length) := auq h4
   have z6 : ((i : Int) < (a.length : Int)) := auz
   rw [if_pos q5] at hF
   repeat (first | refine chk.ga ?_ | simp -dsimp [h4, z6])
   refine ADraw.simple follows (by kernel_rfl) (by kernel_rfl) ?_
   have hF := ob hF; obtain ⟨x, e7, hF⟩ := hF
   have le7 := lt_of_get e7
   have hF := ob hF; obtain ⟨x8, e9, hF⟩ := hF
   have le9 := lt_of_get e9
   repeat (first | refine chk.ga ?_ | simp -dsimp [h4, z6, ↓e7, ↓e9])
   have hF := ob hF; obtain ⟨v, e10, hF⟩ := hF
   refine ((ih_laws_eqPattern x x8 v e10)).pgoW (by first | simp [h4, z6, ↓e7, ↓e9]; done | simp_all) (by simp) ?_
   repeat (first | refine chk.ga ?_ | simp -dsimp [h4, z6, ↓e7, ↓e9])
   refine abr.split (fun h11 => ?_) (fun h11 => ?_)
   ·have q12 : ¬ (v = true) := auq h11
    rw [if_neg q12] at hF
    cases hF
    repeat (first | refine chk.ga ?_ | simp -dsimp [h4, z6, ↓e7, ↓e9, h11, q12])
    refine Leave.go _ (Gh.refl _) (hq _ ?_)
    repeat (first | refine chk.ga ?_ | simp -dsimp [h4, z6, ↓e7, ↓e9, h11, q12])
   ·have q12 : (v = true) := auq h11
    rw [if_pos q12] at hF
    have w13 : IntKind.i64.wrap ((i : Int) + 1) = (i : Int) + 1 := wrap_in (by omega) (by omega)
    repeat (first | refine chk.ga ?_ | simp -dsimp [h4, z6, ↓e7, ↓e9, h11, q12, w13])
    refine Again.go ⟨[(0, .arr (List.map Vl.Pattern.c a)), (1, .arr (List.map Vl.Pattern.c b)), (5, .lit (.int .i64 ((i + 1) : Int)))], []⟩ (Gh.to3 (by simp) (by first | simp -dsimp [h4, z6, ↓e7, ↓e9, h11, q12, w13]; done | simp_all)) ?_
    exact (ih_laws_eqPatternS_l1 a b (i + 1) o hF) _ rfl _ hq
  ·have q5 : ¬ (i < a.length) := auq h4
   have z6 : ¬ ((i : Int) < (a.length : Int)) := auz
   rw [if_neg q5] at hF
   cases hF
   repeat (first | refine chk.ga ?_ | simp -dsimp [h4, q5, z6])
   refine Leave.go ⟨[], []⟩ (Gh.to3 (by simp) (by first | simp -dsimp [h4, q5, z6]; done | simp_all)) ?_
   exact hq

theorem C.laws_eqPattern (B : Nat) (hB1 : 67108864 ≤ B) (hB2 : B ≤ 9223372036854775807) (a : Vl.Pattern) (b : Vl.Pattern) (r : Bool) (hF : F.laws_eqPattern a b = some r) : PureCall Try.prog B 28 [.agg [.lit (.int .i64 a.op), .lit (.int .i64 a.ctor), .lit (.int .i64 a.n), .lit (.int .i64 a.m), .lit (.int .i64 a.var), .arr (List.map Vl.Pattern.c a.kids)], .agg [.lit (.int .i64 b.op), .lit (.int .i64 b.ctor), .lit (.int .i64 b.n), .lit (.int .i64 b.m), .lit (.int .i64 b.var), .arr (List.map Vl.Pattern.c b.kids)]] (.lit (.bool r)) :=
 (CC.laws_eqPattern B hB1 hB2 ).1 a b r hF

theorem C.laws_eqPatternS (B : Nat) (hB1 : 67108864 ≤ B) (hB2 : B ≤ 9223372036854775807) (a : List Vl.Pattern) (b : List Vl.Pattern) (r : Bool) (hF : F.laws_eqPatternS a b = some r) : PureCall Try.prog B 75 [.arr (List.map Vl.Pattern.c a), .arr (List.map Vl.Pattern.c b)] (.lit (.bool r)) :=
 (CC.laws_eqPattern B hB1 hB2 ).2.1 a b r hF

theorem C.laws_eqPatternS_l1 (B : Nat) (hB1 : 67108864 ≤ B) (hB2 : B ≤ 9223372036854775807) (a : List Vl.Pattern) (b : List Vl.Pattern) (i : Nat) (o : Lo Bool Unit) (hF : F.laws_eqPatternS_l1 a b i = some o) : ∀ (c : Code), navO [1, 1, 0, 1, 0, 0] (bodyOf Try.f75) = some c → ∀ (Q : Exit → ASt → Prop), o.post (fun r => ∀ st, Post Try.prog Try.f75 (fun r' _ => r'.le (.lit (.bool r))) .ret st → Q .ret st) (fun s => Q (.exit 0) ⟨[], []⟩) → ALoopU Try.prog B 0 27 (hold c .mk) ⟨[(0, .arr (List.map Vl.Pattern.c a)), (1, .arr (List.map Vl.Pattern.c b)), (5, .lit (.int .i64 (i : Int)))], []⟩ (hold Q .mk) :=
 (CC.laws_eqPattern B hB1 hB2 ).2.2 a b i o hF

set_option maxRecDepth 100000 in
set_option maxHeartbeats 4000000 in
theorem C.laws_eqGuard (B : Nat) (hB1 : 67108864 ≤ B) (hB2 : B ≤ 9223372036854775807) (a : Vl.Guard) (b : Vl.Guard) (r : Bool) (hF : F.laws_eqGuard a b = some r) : PureCall Try.prog B 82 [.agg [.lit (.int .i64 a.op), .lit (.int .i64 a.var), .lit (.int .i64 a.n)], .agg [.lit (.int .i64 b.op), .lit (.int .i64 b.var), .lit (.int .i64 b.n)]] (.lit (.bool r)) := by
 unfold F.laws_eqGuard at hF
 refine PureCall.enterLe Try.func82 (by kernel_rfl) rfl Try.ntmps82 (by simp) (by simp) ?_
 repeat (first | refine chk.ga ?_ | simp -dsimp)
 refine abr.split (fun h1 => ?_) (fun h1 => ?_)
 ·have q2 : ¬ (a.op = b.op) := auq h1
  rw [if_neg q2] at hF
  cases hF
  repeat (first | refine chk.ga ?_ | simp -dsimp [h1, q2])
  all_goals (try omega)
 ·have q2 : (a.op = b.op) := auq h1
  rw [if_pos q2] at hF
  repeat (first | refine chk.ga ?_ | simp -dsimp [h1, q2])
  refine abr.split (fun h3 => ?_) (fun h3 => ?_)
  ·have q4 : ¬ (a.var = b.var) := auq h3
   rw [if_neg q4] at hF
   cases hF
   repeat (first | refine chk.ga ?_ | simp -dsimp [h1, q2, h3, q4])
   all_goals (try omega)
  ·have q4 : (a.var = b.var) := auq h3
   rw [if_pos q4] at hF
   repeat (first | refine chk.ga ?_ | simp -dsimp [h1, q2, h3, q4])
   refine abr.split (fun h5 => ?_) (fun h5 => ?_)
   ·have q6 : ¬ (a.n = b.n) := auq h5
    rw [if_neg q6] at hF
    cases hF
    repeat (first | refine chk.ga ?_ | simp -dsimp [h1, q2, h3, q4, h5, q6])
    all_goals (try omega)
   ·have q6 : (a.n = b.n) := auq h5
    rw [if_pos q6] at hF
    cases hF
    repeat (first | refine chk.ga ?_ | simp -dsimp [h1, q2, h3, q4, h5, q6])
    all_goals (try omega)

set_option maxRecDepth 100000 in
set_option maxHeartbeats 4000000 in
theorem C.laws_eqClause (B : Nat) (hB1 : 67108864 ≤ B) (hB2 : B ≤ 9223372036854775807) (a : Vl.Clause) (b : Vl.Clause) (r : Bool) (hF : F.laws_eqClause a b = some r) : PureCall Try.prog B 33 [.agg [.lit (.int .i64 a.pat.op), .lit (.int .i64 a.pat.ctor), .lit (.int .i64 a.pat.n), .lit (.int .i64 a.pat.m), .lit (.int .i64 a.pat.var), .arr (List.map Vl.Pattern.c a.pat.kids), .lit (.int .i64 a.guard.op), .lit (.int .i64 a.guard.var), .lit (.int .i64 a.guard.n)], .agg [.lit (.int .i64 b.pat.op), .lit (.int .i64 b.pat.ctor), .lit (.int .i64 b.pat.n), .lit (.int .i64 b.pat.m), .lit (.int .i64 b.pat.var), .arr (List.map Vl.Pattern.c b.pat.kids), .lit (.int .i64 b.guard.op), .lit (.int .i64 b.guard.var), .lit (.int .i64 b.guard.n)]] (.lit (.bool r)) := by
 unfold F.laws_eqClause at hF
 refine PureCall.enterLe Try.func33 (by kernel_rfl) rfl Try.ntmps33 (by simp) (by simp) ?_
 repeat (first | refine chk.ga ?_ | simp -dsimp)
 have hF := ob hF; obtain ⟨v, e1, hF⟩ := hF
 refine ((C.laws_eqPattern B hB1 hB2 a.pat b.pat v e1)).goW (by simp) (by simp) ?_
 repeat (first | refine chk.ga ?_ | simp -dsimp)
 refine abr.split (fun h2 => ?_) (fun h2 => ?_)
 ·have q3 : ¬ (v = true) := auq h2
  rw [if_neg q3] at hF
  cases hF
  repeat (first | refine chk.ga ?_ | simp -dsimp [h2, q3])
  all_goals (try omega)
 ·have q3 : (v = true) := auq h2
  rw [if_pos q3] at hF
  repeat (first | refine chk.ga ?_ | simp -dsimp [h2, q3])
  have hF := ob hF; obtain ⟨v4, e5, hF⟩ := hF
  refine ((C.laws_eqGuard B hB1 hB2 a.guard b.guard v4 e5)).goW (by first | simp [h2, q3]; done | simp_all) (by simp) ?_
  repeat (first | refine chk.ga ?_ | simp -dsimp [h2, q3])
  refine abr.split (fun h6 => ?_) (fun h6 => ?_)
  ·have q7 : ¬ (v4 = true) := auq h6
   rw [if_neg q7] at hF
   cases hF
   repeat (first | refine chk.ga ?_ | simp -dsimp [h2, q3, h6, q7])
   all_goals (try omega)
  ·have q7 : (v4 = true) := auq h6
   rw [if_pos q7] at hF
   cases hF
   repeat (first | refine chk.ga ?_ | simp -dsimp [h2, q3, h6, q7])
   all_goals (try omega)

set_option maxRecDepth 100000 in
set_option maxHeartbeats 4000000 in
theorem C.laws_FnExactGuardNever (B : Nat) (hB1 : 67108864 ≤ B) (hB2 : B ≤ 9223372036854775807) (aW : List Vl.Data) (aT : Vl.Ty) (aC : Vl.Clause) (r : Bool) (hF : F.laws_FnExactGuardNever aW aT aC = some r) : PureCall Try.prog B 5 [.arr (List.map Vl.Data.c aW), .agg [.lit (.int .i64 aT.data), .lit (.int .i64 aT.index)], .agg [.lit (.int .i64 aC.pat.op), .lit (.int .i64 aC.pat.ctor), .lit (.int .i64 aC.pat.n), .lit (.int .i64 aC.pat.m), .lit (.int .i64 aC.pat.var), .arr (List.map Vl.Pattern.c aC.pat.kids), .lit (.int .i64 aC.guard.op), .lit (.int .i64 aC.guard.var), .lit (.int .i64 aC.guard.n)]] (.lit (.bool r)) := by
 unfold F.laws_FnExactGuardNever at hF
 refine PureCall.enterLe Try.func5 (by kernel_rfl) rfl Try.ntmps5 (by simp) (by simp) ?_
 repeat (first | refine chk.ga ?_ | simp -dsimp)
 have hF := ob hF; obtain ⟨v, e1, hF⟩ := hF
 refine ((C.laws_szDataS B hB1 hB2 aW (1048576 : Int) v e1)).goW (by simp) (by simp) ?_
 repeat (first | refine chk.ga ?_ | simp -dsimp)
 refine abr.split (fun h2 => ?_) (fun h2 => ?_)
 ·have q3 : (v < 0) := auq h2
  rw [if_pos q3] at hF
  cases hF
  repeat (first | refine chk.ga ?_ | simp -dsimp [h2])
  all_goals (try omega)
 ·have q3 : ¬ (v < 0) := auq h2
  rw [if_neg q3] at hF
  repeat (first | refine chk.ga ?_ | simp -dsimp [h2, q3])
  have hF := ob hF; obtain ⟨v4, e5, hF⟩ := hF
  refine ((C.laws_szClause B hB1 hB2 aC v v4 e5)).goW (by first | simp [h2, q3]; done | simp_all) (by simp) ?_
  repeat (first | refine chk.ga ?_ | simp -dsimp [h2, q3])
  refine abr.split (fun h6 => ?_) (fun h6 => ?_)
  ·have q7 : (v4 < 0) := auq h6
   rw [if_pos q7] at hF
   cases hF
   repeat (first | refine chk.ga ?_ | simp -dsimp [h2, q3, h6])
   all_goals (try omega)
  ·have q7 : ¬ (v4 < 0) := auq h6
   rw [if_neg q7] at hF
   repeat (first | refine chk.ga ?_ | simp -dsimp [h2, q3, h6, q7])
   refine ADraw.simple follows (by kernel_rfl) (by kernel_rfl) ?_
   repeat (first | refine chk.ga ?_ | simp -dsimp [h2, q3, h6, q7])
   have hF := ob hF; obtain ⟨v8, e9, hF⟩ := hF
   refine ((C.laws_toDataS B hB1 hB2 aW v8 e9)).pgoW (by first | simp [h2, q3, h6, q7]; done | simp_all) (by simp) ?_
   repeat (first | refine chk.ga ?_ | simp -dsimp [h2, q3, h6, q7])
   have hF := ob hF; obtain ⟨v10, e11, hF⟩ := hF
   refine ((C.laws_toType B hB1 hB2 aT v10 e11)).pgoW (by first | simp [h2, q3, h6, q7]; done | simp_all) (by simp) ?_
   repeat (first | refine chk.ga ?_ | simp -dsimp [h2, q3, h6, q7])
   have hF := ob hF; obtain ⟨v12, e13, hF⟩ := hF
   refine ((C.laws_toClause B hB1 hB2 aC v12 e13)).pgoW (by first | simp [h2, q3, h6, q7]; done | simp_all) (by simp) ?_
   repeat (first | refine chk.ga ?_ | simp -dsimp [h2, q3, h6, q7])
   have hF := ob hF; obtain ⟨v14, e15, hF⟩ := hF
   refine ((C.spec_GuardNever B hB1 hB2 v8 v10 v12 v14 e15)).pgoW (by first | simp [h2, q3, h6, q7]; done | simp_all) (by simp) ?_
   repeat (first | refine chk.ga ?_ | simp -dsimp [h2, q3, h6, q7])
   have hF := ob hF; obtain ⟨v16, e17, hF⟩ := hF
   refine ((C.laws_toDataS B hB1 hB2 aW v16 e17)).goW (by first | simp [h2, q3, h6, q7]; done | simp_all) (by simp) ?_
   repeat (first | refine chk.ga ?_ | simp -dsimp [h2, q3, h6, q7])
   have hF := ob hF; obtain ⟨v18, e19, hF⟩ := hF
   refine ((C.laws_toClause B hB1 hB2 aC v18 e19)).goW (by first | simp [h2, q3, h6, q7]; done | simp_all) (by simp) ?_
   repeat (first | refine chk.ga ?_ | simp -dsimp [h2, q3, h6, q7])
   refine ADraw.simple follows (by kernel_rfl) (by kernel_rfl) ?_
   repeat (first | refine chk.ga ?_ | simp -dsimp [h2, q3, h6, q7])
   have hF := ob hF; obtain ⟨v20, e21, hF⟩ := hF
   refine ((C.laws_toType B hB1 hB2 aT v20 e21)).pgoW (by first | simp [h2, q3, h6, q7]; done | simp_all) (by simp) ?_
   repeat (first | refine chk.ga ?_ | simp -dsimp [h2, q3, h6, q7])
   have hF := ob hF; obtain ⟨v22, e23, hF⟩ := hF
   refine ((C.impl_GuardNever B hB1 hB2 v16 v20 v18 v22 e23)).pgoW (by first | simp [h2, q3, h6, q7]; done | simp_all) (by simp) ?_
   repeat (first | refine chk.ga ?_ | simp -dsimp [h2, q3, h6, q7])
   refine abr.split (fun h24 => ?_) (fun h24 => ?_)
   ·have q25 : ¬ (v22 = v14) := auq h24
    rw [if_neg q25] at hF
    cases hF
    repeat (first | refine chk.ga ?_ | simp -dsimp [h2, q3, h6, q7, h24, q25])
    all_goals (try omega)
   ·have q25 : (v22 = v14) := auq h24
    rw [if_pos q25] at hF
    repeat (first | refine chk.ga ?_ | simp -dsimp [h2, q3, h6, q7, h24, q25])
    have hF := ob hF; obtain ⟨v26, e27, hF⟩ := hF
    refine ((C.laws_toDataS B hB1 hB2 aW v26 e27)).goW (by first | simp [h2, q3, h6, q7, h24, q25]; done | simp_all) (by simp) ?_
    repeat (first | refine chk.ga ?_ | simp -dsimp [h2, q3, h6, q7, h24, q25])
    have hF := ob hF; obtain ⟨v28, e29, hF⟩ := hF
    refine ((C.laws_eqDataS B hB1 hB2 v16 v26 v28 e29)).goW (by first | simp [h2, q3, h6, q7, h24, q25]; done | simp_all) (by simp) ?_
    repeat (first | refine chk.ga ?_ | simp -dsimp [h2, q3, h6, q7, h24, q25])
    refine abr.split (fun h30 => ?_) (fun h30 => ?_)
    ·have q31 : ¬ (v28 = true) := auq h30
     rw [if_neg q31] at hF
     cases hF
     repeat (first | refine chk.ga ?_ | simp -dsimp [h2, q3, h6, q7, h24, q25, h30, q31])
     all_goals (try omega)
    ·have q31 : (v28 = true) := auq h30
     rw [if_pos q31] at hF
     repeat (first | refine chk.ga ?_ | simp -dsimp [h2, q3, h6, q7, h24, q25, h30, q31])
     refine ADraw.simple follows (by kernel_rfl) (by kernel_rfl) ?_
     repeat (first | refine chk.ga ?_ | simp -dsimp [h2, q3, h6, q7, h24, q25, h30, q31])
     have hF := ob hF; obtain ⟨v32, e33, hF⟩ := hF
     refine ((C.laws_toClause B hB1 hB2 aC v32 e33)).pgoW (by first | simp [h2, q3, h6, q7, h24, q25, h30, q31]; done | simp_all) (by simp) ?_
     repeat (first | refine chk.ga ?_ | simp -dsimp [h2, q3, h6, q7, h24, q25, h30, q31])
     have hF := ob hF; obtain ⟨v34, e35, hF⟩ := hF
     refine ((C.laws_eqClause B hB1 hB2 v18 v32 v34 e35)).pgoW (by first | simp [h2, q3, h6, q7, h24, q25, h30, q31]; done | simp_all) (by simp) ?_
     repeat (first | refine chk.ga ?_ | simp -dsimp [h2, q3, h6, q7, h24, q25, h30, q31])
     refine abr.split (fun h36 => ?_) (fun h36 => ?_)
     ·have q37 : ¬ (v34 = true) := auq h36
      rw [if_neg q37] at hF
      cases hF
      repeat (first | refine chk.ga ?_ | simp -dsimp [h2, q3, h6, q7, h24, q25, h30, q31, h36, q37])
      all_goals (try omega)
     ·have q37 : (v34 = true) := auq h36
      rw [if_pos q37] at hF
      cases hF
      repeat (first | refine chk.ga ?_ | simp -dsimp [h2, q3, h6, q7, h24, q25, h30, q31, h36, q37])
      all_goals (try omega)

end Go.Proofs.Ytelglbenbnkjmaa
