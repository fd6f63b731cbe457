/- The contracts: the code computes the functions (printed by gen.py). -/
import Derived.Test.YtelglbenbnkjmaaProg
import Derived.Test.YtelglbenbnkjmaaExactExprValidF
import Derived.Test.YtelglbenbnkjmaaExactExprValidC1
namespace Go.Proofs.Ytelglbenbnkjmaa
open Go Go.Proofs Go.Vl
set_option linter.unusedSimpArgs false
set_option linter.unusedVariables false

attribute [local irreducible] ECallA aL AMake MLoop AgainM LeaveM awpM aopsM MutCall BCall chk abr ACall ALoop ALoopU ADraw Again Leave PCallA PCall Post awp aops PureCall hold

set_option maxRecDepth 100000 in
set_option maxHeartbeats 400000 in
theorem CC.spec_l1Args_l1 (B : Nat) (hB1 : 67108864 ≤ B) (hB2 : B ≤ 9223372036854775807) (t : Vl.Ty) (x2 : Vl.Ctor) : (∀ (out : List Vl.Ty) (i : Nat) (o : List Vl.Ty), F.spec_l1Args_l1 t x2 out i = some o → ∀ (c : Code), navO [1, 1, 1, 0, 1, 0, 0] (bodyOf Try.f128) = some c → ∀ (Q : Exit → ASt → Prop), Q (.exit 0) ⟨[(7, .own 1 (List.length (α := Vl.Ty) o))], [.dead, .elems 2 (List.map Vl.Ty.c o)]⟩ → ALoopU Try.prog B 0 46 (hold c .mk) ⟨[(4, .ptr 0 0), (7, .own 1 (List.length (α := Vl.Ty) out)), (8, .ptr 2 0), (9, .lit (.int .i64 (i : Int)))], [.cells [.lit (.int .i64 t.data), .lit (.int .i64 t.index)], .elems 2 (List.map Vl.Ty.c out), .cells [.lit (.string x2.name), .arr (List.map Vl.Ty.c x2.args), .lit (.int .i64 x2.index)]]⟩ (hold Q .mk)) := by
  refine F.spec_l1Args_l1.partial_correctness t x2
    (fun out i o => ∀ (c : Code), navO [1, 1, 1, 0, 1, 0, 0] (bodyOf Try.f128) = some c → ∀ (Q : Exit → ASt → Prop), Q (.exit 0) ⟨[(7, .own 1 (List.length (α := Vl.Ty) o))], [.dead, .elems 2 (List.map Vl.Ty.c o)]⟩ → ALoopU Try.prog B 0 46 (hold c .mk) ⟨[(4, .ptr 0 0), (7, .own 1 (List.length (α := Vl.Ty) out)), (8, .ptr 2 0), (9, .lit (.int .i64 (i : Int)))], [.cells [.lit (.int .i64 t.data), .lit (.int .i64 t.index)], .elems 2 (List.map Vl.Ty.c out), .cells [.lit (.string x2.name), .arr (List.map Vl.Ty.c x2.args), .lit (.int .i64 x2.index)]]⟩ (hold Q .mk))
    ?_
  · intro _f_spec_l1Args_l1 ih_spec_l1Args_l1 out i o hF
    intro c hc Q hq
    obtain rfl : c = _ := navEq hc rfl
    refine ALoopU.know fun hk hs => ?_
    have d1 := hs 1 _ rfl
    simp -dsimp [Blk.bnd] at d1
    have d2 := hs 2 _ rfl
    simp -dsimp [Blk.bnd] at d2
    clear hk hs
    refine ALoopU.enter ?_
    simp -dsimp
    repeat (refine chk.go (by first | omega | assumption | (simp_all; done) | (simp_all; omega)) ?_; try simp -dsimp)
    refine abr.split (fun h4 => ?_) (fun h4 => ?_)
    · have q5 : (i < x2.args.length) := by first | exact h4 | omega | (simpa using h4) | (simp at h4 ⊢; omega) | simp_all
      have z6 : ((i : Int) < (x2.args.length : Int)) := by first | omega | simp_all
      rw [if_pos q5] at hF
      have hF := ob hF; obtain ⟨x7, e8, hF⟩ := hF
      have le8 := lt_of_get e8
      simp -dsimp [h4, z6, ↓e8]
      repeat (refine chk.go (by first | omega | assumption | (simp_all; done) | (simp_all; omega)) ?_; try simp -dsimp [h4, z6, ↓e8])
      refine abr.split (fun h9 => ?_) (fun h9 => ?_)
      · have q10 : (x7.index = (-1)) := by first | exact h9 | omega | (simpa using h9) | (simp at h9 ⊢; omega) | simp_all
        rw [if_pos q10] at hF
        simp -dsimp [h4, z6, ↓e8, h9]
        repeat (refine chk.go (by first | omega | assumption | (simp_all; done) | (simp_all; omega)) ?_; try simp -dsimp [h4, z6, ↓e8, h9])
        have hF := ob hF; obtain ⟨v, e11, hF⟩ := hF
        refine ((C.spec_l1Result B hB1 hB2 x2 t.index v e11)).goW (by first | (simp; done) | (simp [h4, z6, ↓e8, h9]; done) | simp_all) (by simp) ?_
        have hF := oc hF; obtain ⟨c12, hF⟩ := hF
        have w13 : IntKind.i64.wrap ((i : Int) + 1) = (i : Int) + 1 := wrap_in (by omega) (by omega)
        simp -dsimp [h4, z6, ↓e8, h9, w13]
        repeat (refine chk.go (by first | omega | assumption | (simp_all; done) | (simp_all; omega)) ?_; try simp -dsimp [h4, z6, ↓e8, h9, w13])
        refine Again.go ⟨[(4, .ptr 0 0), (7, .own 1 (List.length (α := Vl.Ty) (out ++ [(⟨x7.data, v⟩ : Vl.Ty)]))), (8, .ptr 2 0), (9, .lit (.int .i64 ((i + 1) : Int)))], [.cells [.lit (.int .i64 t.data), .lit (.int .i64 t.index)], .elems 2 (List.map Vl.Ty.c (out ++ [(⟨x7.data, v⟩ : Vl.Ty)])), .cells [.lit (.string x2.name), .arr (List.map Vl.Ty.c x2.args), .lit (.int .i64 x2.index)]]⟩ (Gh.to (by simp) (by first | (simp -dsimp; done) | (simp -dsimp [h4, z6, ↓e8, h9, w13]; done) | simp_all) (by first | (simp -dsimp; done) | (simp -dsimp [h4, z6, ↓e8, h9, w13]; done) | simp_all) (by first | (simp -dsimp; done) | (simp -dsimp [h4, z6, ↓e8, h9, w13]; done) | simp_all)) ?_
        exact (ih_spec_l1Args_l1 (out ++ [(⟨x7.data, v⟩ : Vl.Ty)]) (i + 1) o hF) _ rfl _ hq
      · have q10 : ¬ (x7.index = (-1)) := by first | exact h9 | omega | (simpa using h9) | (simp at h9 ⊢; omega) | simp_all
        rw [if_neg q10] at hF
        have hF := oc hF; obtain ⟨c14, hF⟩ := hF
        have w15 : IntKind.i64.wrap ((i : Int) + 1) = (i : Int) + 1 := wrap_in (by omega) (by omega)
        simp -dsimp [h4, z6, ↓e8, h9, q10, w15]
        repeat (refine chk.go (by first | omega | assumption | (simp_all; done) | (simp_all; omega)) ?_; try simp -dsimp [h4, z6, ↓e8, h9, q10, w15])
        refine Again.go ⟨[(4, .ptr 0 0), (7, .own 1 (List.length (α := Vl.Ty) (out ++ [x7]))), (8, .ptr 2 0), (9, .lit (.int .i64 ((i + 1) : Int)))], [.cells [.lit (.int .i64 t.data), .lit (.int .i64 t.index)], .elems 2 (List.map Vl.Ty.c (out ++ [x7])), .cells [.lit (.string x2.name), .arr (List.map Vl.Ty.c x2.args), .lit (.int .i64 x2.index)]]⟩ (Gh.to (by simp) (by first | (simp -dsimp; done) | (simp -dsimp [h4, z6, ↓e8, h9, q10, w15]; done) | simp_all) (by first | (simp -dsimp; done) | (simp -dsimp [h4, z6, ↓e8, h9, q10, w15]; done) | simp_all) (by first | (simp -dsimp; done) | (simp -dsimp [h4, z6, ↓e8, h9, q10, w15]; done) | simp_all)) ?_
        exact (ih_spec_l1Args_l1 (out ++ [x7]) (i + 1) o hF) _ rfl _ hq
    · have q5 : ¬ (i < x2.args.length) := by first | exact h4 | omega | (simpa using h4) | (simp at h4 ⊢; omega) | simp_all
      have z6 : ¬ ((i : Int) < (x2.args.length : Int)) := by first | omega | simp_all
      rw [if_neg q5] at hF
      cases hF
      simp -dsimp [h4, q5, z6]
      repeat (refine chk.go (by first | omega | assumption | (simp_all; done) | (simp_all; omega)) ?_; try simp -dsimp [h4, q5, z6])
      refine Leave.go ⟨[(7, .own 1 (List.length (α := Vl.Ty) out))], [.dead, .elems 2 (List.map Vl.Ty.c out)]⟩ (Gh.to (by simp) (by first | (simp -dsimp; done) | (simp -dsimp [h4, q5, z6]; done) | simp_all) (by first | (simp -dsimp; done) | (simp -dsimp [h4, q5, z6]; done) | simp_all) (by first | (simp -dsimp; done) | (simp -dsimp [h4, q5, z6]; done) | simp_all)) ?_
      exact hq

theorem C.spec_l1Args_l1 (B : Nat) (hB1 : 67108864 ≤ B) (hB2 : B ≤ 9223372036854775807) (t : Vl.Ty) (x2 : Vl.Ctor) (out : List Vl.Ty) (i : Nat) (o : List Vl.Ty) (hF : F.spec_l1Args_l1 t x2 out i = some o) : ∀ (c : Code), navO [1, 1, 1, 0, 1, 0, 0] (bodyOf Try.f128) = some c → ∀ (Q : Exit → ASt → Prop), Q (.exit 0) ⟨[(7, .own 1 (List.length (α := Vl.Ty) o))], [.dead, .elems 2 (List.map Vl.Ty.c o)]⟩ → ALoopU Try.prog B 0 46 (hold c .mk) ⟨[(4, .ptr 0 0), (7, .own 1 (List.length (α := Vl.Ty) out)), (8, .ptr 2 0), (9, .lit (.int .i64 (i : Int)))], [.cells [.lit (.int .i64 t.data), .lit (.int .i64 t.index)], .elems 2 (List.map Vl.Ty.c out), .cells [.lit (.string x2.name), .arr (List.map Vl.Ty.c x2.args), .lit (.int .i64 x2.index)]]⟩ (hold Q .mk) :=
  (CC.spec_l1Args_l1 B hB1 hB2 t x2) out i o hF

set_option maxRecDepth 100000 in
set_option maxHeartbeats 400000 in
theorem C.spec_l1Args (B : Nat) (hB1 : 67108864 ≤ B) (hB2 : B ≤ 9223372036854775807) (w : List Vl.Data) (t : Vl.Ty) (ctor : Int) (r : List Vl.Ty) (hF : F.spec_l1Args w t ctor = some r) : PureCall Try.prog B 128 [.arr (List.map Vl.Data.c w), .agg [.lit (.int .i64 t.data), .lit (.int .i64 t.index)], .lit (.int .i64 ctor)] (.arr (List.map Vl.Ty.c r)) := by
  unfold F.spec_l1Args at hF
  refine PureCall.enterLe Try.func128 (by kernel_rfl) rfl Try.ntmps128 (by simp) (by simp) ?_
  have hF := ob hF; obtain ⟨x, e1a, hF⟩ := hF
  have e1a := at_some e1a; obtain ⟨ne1, e1⟩ := e1a
  have le1 := lt_of_get e1
  have hF := ob hF; obtain ⟨x2, e3a, hF⟩ := hF
  have e3a := at_some e3a; obtain ⟨ne3, e3⟩ := e3a
  have le3 := lt_of_get e3
  simp -dsimp [↓e1, ↓e3]
  repeat (refine chk.go (by first | omega | assumption | (simp_all; done) | (simp_all; omega)) ?_; try simp -dsimp [↓e1, ↓e3])
  have hF := ob hF; obtain ⟨o', ho16, hF⟩ := hF
  refine ALoop.goU ⟨[(4, .ptr 0 0), (7, .own 1 (List.length (α := Vl.Ty) [])), (8, .ptr 2 0), (9, .lit (.int .i64 (0 : Int)))], [.cells [.lit (.int .i64 t.data), .lit (.int .i64 t.index)], .elems 2 (List.map Vl.Ty.c []), .cells [.lit (.string x2.name), .arr (List.map Vl.Ty.c x2.args), .lit (.int .i64 x2.index)]]⟩ (Gh.to (by simp) (by first | (simp -dsimp; done) | (simp -dsimp [↓e1, ↓e3]; done) | simp_all) (by first | (simp -dsimp; done) | (simp -dsimp [↓e1, ↓e3]; done) | simp_all) (by first | (simp -dsimp; done) | (simp -dsimp [↓e1, ↓e3]; done) | simp_all)) ?_
  refine (C.spec_l1Args_l1 B hB1 hB2 t x2 [] 0 o' ho16) _ rfl _ ?_
  cases hF
  simp -dsimp
  repeat (refine chk.go (by first | omega | assumption | (simp_all; done) | (simp_all; omega)) ?_; try simp -dsimp)
  all_goals (try omega)

set_option maxRecDepth 100000 in
set_option maxHeartbeats 400000 in
theorem C.spec_l12Kids (B : Nat) (hB1 : 67108864 ≤ B) (hB2 : B ≤ 9223372036854775807) (w : List Vl.Data) (funs : List Vl.FunType) (vars : List Vl.VarType) (t : Vl.Ty) (e : Vl.Expr) (r : (List Vl.Ty) × Bool) (hF : F.spec_l12Kids w funs vars t e = some r) : PureCall Try.prog B 160 [.arr (List.map Vl.Data.c w), .arr (List.map Vl.FunType.c funs), .arr (List.map Vl.VarType.c vars), .agg [.lit (.int .i64 t.data), .lit (.int .i64 t.index)], .agg [.lit (.int .i64 e.op), .lit (.int .i64 e.n), .lit (.int .i64 e.ctor), .arr (List.map Vl.Expr.c e.kids)]] (.tup [.arr (List.map Vl.Ty.c r.1), .lit (.bool r.2)]) := by
  unfold F.spec_l12Kids at hF
  refine PureCall.enterLe Try.func160 (by kernel_rfl) rfl Try.ntmps160 (by simp) (by simp) ?_
  simp -dsimp
  repeat (refine chk.go (by first | omega | assumption | (simp_all; done) | (simp_all; omega)) ?_; try simp -dsimp)
  refine abr.split (fun h1 => ?_) (fun h1 => ?_)
  · have q2 : ¬ (e.op = 3) := by first | exact h1 | omega | (simpa using h1) | (simp at h1 ⊢; omega) | simp_all
    rw [if_neg q2] at hF
    simp -dsimp [h1, q2]
    repeat (refine chk.go (by first | omega | assumption | (simp_all; done) | (simp_all; omega)) ?_; try simp -dsimp [h1, q2])
    refine abr.split (fun h3 => ?_) (fun h3 => ?_)
    · have q4 : (e.ctor = 0) := by first | exact h3 | omega | (simpa using h3) | (simp at h3 ⊢; omega) | simp_all
      rw [if_pos q4] at hF
      simp -dsimp [h1, q2, h3]
      repeat (refine chk.go (by first | omega | assumption | (simp_all; done) | (simp_all; omega)) ?_; try simp -dsimp [h1, q2, h3])
      refine abr.split (fun h5 => ?_) (fun h5 => ?_)
      · have q6 : (e.op = 4) := by first | exact h5 | omega | (simpa using h5) | (simp at h5 ⊢; omega) | simp_all
        rw [if_pos q6] at hF
        simp -dsimp [h1, q2, h3, h5]
        repeat (refine chk.go (by first | omega | assumption | (simp_all; done) | (simp_all; omega)) ?_; try simp -dsimp [h1, q2, h3, h5])
        refine abr.split (fun h7 => ?_) (fun h7 => ?_)
        · have q8 : ¬ (e.n = 0) := by first | exact h7 | omega | (simpa using h7) | (simp at h7 ⊢; omega) | simp_all
          rw [if_neg q8] at hF
          cases hF
          simp -dsimp [h1, q2, h3, h5, h7, q8]
          repeat (refine chk.go (by first | omega | assumption | (simp_all; done) | (simp_all; omega)) ?_; try simp -dsimp [h1, q2, h3, h5, h7, q8])
          all_goals (try omega)
        · have q8 : (e.n = 0) := by first | exact h7 | omega | (simpa using h7) | (simp at h7 ⊢; omega) | simp_all
          rw [if_pos q8] at hF
          simp -dsimp [h1, q2, h3, h5, h7, q8]
          repeat (refine chk.go (by first | omega | assumption | (simp_all; done) | (simp_all; omega)) ?_; try simp -dsimp [h1, q2, h3, h5, h7, q8])
          refine ADraw.eff [] [(0, 0), (0, 0), (0, 1), (0, 1), (0, 1), (0, 1), (1, 1), (1, 1)] [1, 1, 1, 2, 2, 1, 1, 1] follows (by kernel_rfl) (by kernel_rfl) (by kernel_rfl) ?_
          cases hF
          simp -dsimp [h1, q2, h3, h5, h7, q8]
          repeat (refine chk.go (by first | omega | assumption | (simp_all; done) | (simp_all; omega)) ?_; try simp -dsimp [h1, q2, h3, h5, h7, q8])
          all_goals (try omega)
      · have q6 : ¬ (e.op = 4) := by first | exact h5 | omega | (simpa using h5) | (simp at h5 ⊢; omega) | simp_all
        rw [if_neg q6] at hF
        simp -dsimp [h1, q2, h3, h5, q6]
        repeat (refine chk.go (by first | omega | assumption | (simp_all; done) | (simp_all; omega)) ?_; try simp -dsimp [h1, q2, h3, h5, q6])
        refine abr.split (fun h9 => ?_) (fun h9 => ?_)
        · have q10 : (e.op = 1) := by first | exact h9 | omega | (simpa using h9) | (simp at h9 ⊢; omega) | simp_all
          rw [if_pos q10] at hF
          simp -dsimp [h1, q2, h3, h5, q6, h9]
          repeat (refine chk.go (by first | omega | assumption | (simp_all; done) | (simp_all; omega)) ?_; try simp -dsimp [h1, q2, h3, h5, q6, h9])
          refine ADraw.eff [] [(0, 1), (0, 1), (0, 1), (0, 1), (0, 1), (0, 1), (0, 1), (0, 1), (0, 1), (0, 1), (0, 1), (0, 1), (0, 1), (0, 1), (1, 1), (1, 1)] [1, 2, 2, 1, 1, 0, 2, 1, 1, 1, 0, 2, 1, 1, 1, 1] follows (by kernel_rfl) (by kernel_rfl) (by kernel_rfl) ?_
          simp -dsimp [h1, q2, h3, h5, q6, h9]
          repeat (refine chk.go (by first | omega | assumption | (simp_all; done) | (simp_all; omega)) ?_; try simp -dsimp [h1, q2, h3, h5, q6, h9])
          refine abr.split (fun h11 => ?_) (fun h11 => ?_)
          · have q12 : (dec (eq2 (t.data, t.index) ((-1), 0)) = true) := by first | exact h11 | omega | (simpa using h11) | (simp at h11 ⊢; omega) | simp_all
            rw [if_pos q12] at hF
            simp -dsimp [h1, q2, h3, h5, q6, h9, h11]
            repeat (refine chk.go (by first | omega | assumption | (simp_all; done) | (simp_all; omega)) ?_; try simp -dsimp [h1, q2, h3, h5, q6, h9, h11])
            refine abr.split (fun h13 => ?_) (fun h13 => ?_)
            · have q14 : (0 ≤ e.n) := by first | exact h13 | omega | (simpa using h13) | (simp at h13 ⊢; omega) | simp_all
              rw [if_pos q14] at hF
              cases hF
              simp -dsimp [h1, q2, h3, h5, q6, h9, h11, h13]
              repeat (refine chk.go (by first | omega | assumption | (simp_all; done) | (simp_all; omega)) ?_; try simp -dsimp [h1, q2, h3, h5, q6, h9, h11, h13])
              all_goals (try omega)
            · have q14 : ¬ (0 ≤ e.n) := by first | exact h13 | omega | (simpa using h13) | (simp at h13 ⊢; omega) | simp_all
              rw [if_neg q14] at hF
              cases hF
              simp -dsimp [h1, q2, h3, h5, q6, h9, h11, h13, q14]
              repeat (refine chk.go (by first | omega | assumption | (simp_all; done) | (simp_all; omega)) ?_; try simp -dsimp [h1, q2, h3, h5, q6, h9, h11, h13, q14])
              all_goals (try omega)
          · have q12 : ¬ (dec (eq2 (t.data, t.index) ((-1), 0)) = true) := by first | exact h11 | omega | (simpa using h11) | (simp at h11 ⊢; omega) | simp_all
            rw [if_neg q12] at hF
            cases hF
            simp -dsimp [h1, q2, h3, h5, q6, h9, h11, q12]
            repeat (refine chk.go (by first | omega | assumption | (simp_all; done) | (simp_all; omega)) ?_; try simp -dsimp [h1, q2, h3, h5, q6, h9, h11, q12])
            all_goals (try omega)
        · have q10 : ¬ (e.op = 1) := by first | exact h9 | omega | (simpa using h9) | (simp at h9 ⊢; omega) | simp_all
          rw [if_neg q10] at hF
          simp -dsimp [h1, q2, h3, h5, q6, h9, q10]
          repeat (refine chk.go (by first | omega | assumption | (simp_all; done) | (simp_all; omega)) ?_; try simp -dsimp [h1, q2, h3, h5, q6, h9, q10])
          refine abr.split (fun h15 => ?_) (fun h15 => ?_)
          · have q16 : (e.op = 2) := by first | exact h15 | omega | (simpa using h15) | (simp at h15 ⊢; omega) | simp_all
            rw [if_pos q16] at hF
            simp -dsimp [h1, q2, h3, h5, q6, h9, q10, h15]
            repeat (refine chk.go (by first | omega | assumption | (simp_all; done) | (simp_all; omega)) ?_; try simp -dsimp [h1, q2, h3, h5, q6, h9, q10, h15])
            have hF := ob hF; obtain ⟨v, e17, hF⟩ := hF
            refine ((C.spec_l3Find B hB1 hB2 vars e.n v e17)).goW (by first | (simp; done) | (simp [h1, q2, h3, h5, q6, h9, q10, h15]; done) | simp_all) (by simp) ?_
            simp -dsimp [h1, q2, h3, h5, q6, h9, q10, h15]
            repeat (refine chk.go (by first | omega | assumption | (simp_all; done) | (simp_all; omega)) ?_; try simp -dsimp [h1, q2, h3, h5, q6, h9, q10, h15])
            refine ADraw.eff [] [(0, 1), (0, 1), (0, 1), (0, 1), (0, 1), (0, 1), (0, 1), (0, 1), (0, 1), (0, 1), (0, 1), (0, 1), (1, 1), (1, 1)] [1, 1, 1, 1, 1, 1, 0, 0, 0, 2, 1, 1, 1, 1] follows (by kernel_rfl) (by kernel_rfl) (by kernel_rfl) ?_
            simp -dsimp [h1, q2, h3, h5, q6, h9, q10, h15]
            repeat (refine chk.go (by first | omega | assumption | (simp_all; done) | (simp_all; omega)) ?_; try simp -dsimp [h1, q2, h3, h5, q6, h9, q10, h15])
            refine abr.split (fun h18 => ?_) (fun h18 => ?_)
            · have q19 : (0 ≤ v) := by first | exact h18 | omega | (simpa using h18) | (simp at h18 ⊢; omega) | simp_all
              rw [if_pos q19] at hF
              have hF := ob hF; obtain ⟨x, e20a, hF⟩ := hF
              have e20a := at_some e20a; obtain ⟨ne20, e20⟩ := e20a
              have le20 := lt_of_get e20
              simp -dsimp [h1, q2, h3, h5, q6, h9, q10, h15, h18, ↓e20]
              repeat (refine chk.go (by first | omega | assumption | (simp_all; done) | (simp_all; omega)) ?_; try simp -dsimp [h1, q2, h3, h5, q6, h9, q10, h15, h18, ↓e20])
              have hF := ob hF; obtain ⟨v21, e22, hF⟩ := hF
              refine ((C.spec_l12Fits B hB1 hB2 x.type t v21 e22)).pgoW (by first | (simp; done) | (simp [h1, q2, h3, h5, q6, h9, q10, h15, h18, ↓e20]; done) | simp_all) (by simp) ?_
              cases hF
              simp -dsimp [h1, q2, h3, h5, q6, h9, q10, h15, h18, ↓e20]
              repeat (refine chk.go (by first | omega | assumption | (simp_all; done) | (simp_all; omega)) ?_; try simp -dsimp [h1, q2, h3, h5, q6, h9, q10, h15, h18, ↓e20])
              all_goals (try omega)
            · have q19 : ¬ (0 ≤ v) := by first | exact h18 | omega | (simpa using h18) | (simp at h18 ⊢; omega) | simp_all
              rw [if_neg q19] at hF
              cases hF
              simp -dsimp [h1, q2, h3, h5, q6, h9, q10, h15, h18, q19]
              repeat (refine chk.go (by first | omega | assumption | (simp_all; done) | (simp_all; omega)) ?_; try simp -dsimp [h1, q2, h3, h5, q6, h9, q10, h15, h18, q19])
              all_goals (try omega)
          · have q16 : ¬ (e.op = 2) := by first | exact h15 | omega | (simpa using h15) | (simp at h15 ⊢; omega) | simp_all
            rw [if_neg q16] at hF
            simp -dsimp [h1, q2, h3, h5, q6, h9, q10, h15, q16]
            repeat (refine chk.go (by first | omega | assumption | (simp_all; done) | (simp_all; omega)) ?_; try simp -dsimp [h1, q2, h3, h5, q6, h9, q10, h15, q16])
            refine abr.split (fun h23 => ?_) (fun h23 => ?_)
            · have q24 : (e.op = 5) := by first | exact h23 | omega | (simpa using h23) | (simp at h23 ⊢; omega) | simp_all
              rw [if_pos q24] at hF
              simp -dsimp [h1, q2, h3, h5, q6, h9, q10, h15, q16, h23]
              repeat (refine chk.go (by first | omega | assumption | (simp_all; done) | (simp_all; omega)) ?_; try simp -dsimp [h1, q2, h3, h5, q6, h9, q10, h15, q16, h23])
              refine abr.split (fun h25 => ?_) (fun h25 => ?_)
              · have q26 : ¬ (e.n < 0) := by first | exact h25 | omega | (simpa using h25) | (simp at h25 ⊢; omega) | simp_all
                rw [if_neg q26] at hF
                simp -dsimp [h1, q2, h3, h5, q6, h9, q10, h15, q16, h23, h25, q26]
                repeat (refine chk.go (by first | omega | assumption | (simp_all; done) | (simp_all; omega)) ?_; try simp -dsimp [h1, q2, h3, h5, q6, h9, q10, h15, q16, h23, h25, q26])
                refine abr.split (fun h27 => ?_) (fun h27 => ?_)
                · have q28 : ((funs.length : Int) ≤ e.n) := by first | exact h27 | omega | (simpa using h27) | (simp at h27 ⊢; omega) | simp_all
                  rw [if_pos q28] at hF
                  cases hF
                  simp -dsimp [h1, q2, h3, h5, q6, h9, q10, h15, q16, h23, h25, q26, h27]
                  repeat (refine chk.go (by first | omega | assumption | (simp_all; done) | (simp_all; omega)) ?_; try simp -dsimp [h1, q2, h3, h5, q6, h9, q10, h15, q16, h23, h25, q26, h27])
                  all_goals (try omega)
                · have q28 : ¬ ((funs.length : Int) ≤ e.n) := by first | exact h27 | omega | (simpa using h27) | (simp at h27 ⊢; omega) | simp_all
                  rw [if_neg q28] at hF
                  simp -dsimp [h1, q2, h3, h5, q6, h9, q10, h15, q16, h23, h25, q26, h27, q28]
                  repeat (refine chk.go (by first | omega | assumption | (simp_all; done) | (simp_all; omega)) ?_; try simp -dsimp [h1, q2, h3, h5, q6, h9, q10, h15, q16, h23, h25, q26, h27, q28])
                  refine ADraw.eff [] [(0, 0), (0, 0), (0, 0), (0, 0), (0, 0), (0, 0), (0, 1), (0, 1), (0, 1), (0, 1), (0, 1), (0, 1), (0, 1), (0, 1), (0, 1), (1, 1), (1, 1)] [1, 1, 1, 1, 1, 1, 1, 1, 0, 2, 0, 0, 0, 2, 1, 1, 1] follows (by kernel_rfl) (by kernel_rfl) (by kernel_rfl) ?_
                  have hF := ob hF; obtain ⟨x29, e30a, hF⟩ := hF
                  have e30a := at_some e30a; obtain ⟨ne30, e30⟩ := e30a
                  have le30 := lt_of_get e30
                  simp -dsimp [h1, q2, h3, h5, q6, h9, q10, h15, q16, h23, h25, q26, h27, q28, ↓e30]
                  repeat (refine chk.go (by first | omega | assumption | (simp_all; done) | (simp_all; omega)) ?_; try simp -dsimp [h1, q2, h3, h5, q6, h9, q10, h15, q16, h23, h25, q26, h27, q28, ↓e30])
                  have hF := ob hF; obtain ⟨v31, e32, hF⟩ := hF
                  refine ((C.spec_l12Fits B hB1 hB2 x29.res t v31 e32)).pgoW (by first | (simp; done) | (simp [h1, q2, h3, h5, q6, h9, q10, h15, q16, h23, h25, q26, h27, q28, ↓e30]; done) | simp_all) (by simp) ?_
                  cases hF
                  simp -dsimp [h1, q2, h3, h5, q6, h9, q10, h15, q16, h23, h25, q26, h27, q28, ↓e30]
                  repeat (refine chk.go (by first | omega | assumption | (simp_all; done) | (simp_all; omega)) ?_; try simp -dsimp [h1, q2, h3, h5, q6, h9, q10, h15, q16, h23, h25, q26, h27, q28, ↓e30])
                  all_goals (try omega)
              · have q26 : (e.n < 0) := by first | exact h25 | omega | (simpa using h25) | (simp at h25 ⊢; omega) | simp_all
                rw [if_pos q26] at hF
                cases hF
                simp -dsimp [h1, q2, h3, h5, q6, h9, q10, h15, q16, h23, h25, q26]
                repeat (refine chk.go (by first | omega | assumption | (simp_all; done) | (simp_all; omega)) ?_; try simp -dsimp [h1, q2, h3, h5, q6, h9, q10, h15, q16, h23, h25, q26])
                all_goals (try omega)
            · have q24 : ¬ (e.op = 5) := by first | exact h23 | omega | (simpa using h23) | (simp at h23 ⊢; omega) | simp_all
              rw [if_neg q24] at hF
              cases hF
              simp -dsimp [h1, q2, h3, h5, q6, h9, q10, h15, q16, h23, q24]
              repeat (refine chk.go (by first | omega | assumption | (simp_all; done) | (simp_all; omega)) ?_; try simp -dsimp [h1, q2, h3, h5, q6, h9, q10, h15, q16, h23, q24])
              all_goals (try omega)
    · have q4 : ¬ (e.ctor = 0) := by first | exact h3 | omega | (simpa using h3) | (simp at h3 ⊢; omega) | simp_all
      rw [if_neg q4] at hF
      cases hF
      simp -dsimp [h1, q2, h3, q4]
      repeat (refine chk.go (by first | omega | assumption | (simp_all; done) | (simp_all; omega)) ?_; try simp -dsimp [h1, q2, h3, q4])
      all_goals (try omega)
  · have q2 : (e.op = 3) := by first | exact h1 | omega | (simpa using h1) | (simp at h1 ⊢; omega) | simp_all
    rw [if_pos q2] at hF
    simp -dsimp [h1, q2]
    repeat (refine chk.go (by first | omega | assumption | (simp_all; done) | (simp_all; omega)) ?_; try simp -dsimp [h1, q2])
    refine abr.split (fun h33 => ?_) (fun h33 => ?_)
    · have q34 : ¬ (e.n = 0) := by first | exact h33 | omega | (simpa using h33) | (simp at h33 ⊢; omega) | simp_all
      rw [if_neg q34] at hF
      cases hF
      simp -dsimp [h1, q2, h33, q34]
      repeat (refine chk.go (by first | omega | assumption | (simp_all; done) | (simp_all; omega)) ?_; try simp -dsimp [h1, q2, h33, q34])
      all_goals (try omega)
    · have q34 : (e.n = 0) := by first | exact h33 | omega | (simpa using h33) | (simp at h33 ⊢; omega) | simp_all
      rw [if_pos q34] at hF
      simp -dsimp [h1, q2, h33, q34]
      repeat (refine chk.go (by first | omega | assumption | (simp_all; done) | (simp_all; omega)) ?_; try simp -dsimp [h1, q2, h33, q34])
      refine ADraw.simple follows (by kernel_rfl) (by kernel_rfl) ?_
      simp -dsimp [h1, q2, h33, q34]
      repeat (refine chk.go (by first | omega | assumption | (simp_all; done) | (simp_all; omega)) ?_; try simp -dsimp [h1, q2, h33, q34])
      have hF := ob hF; obtain ⟨v35, e36, hF⟩ := hF
      refine ((C.spec_l1Ctors B hB1 hB2 w t v35 e36)).pgoW (by first | (simp; done) | (simp [h1, q2, h33, q34]; done) | simp_all) (by simp) ?_
      simp -dsimp [h1, q2, h33, q34]
      repeat (refine chk.go (by first | omega | assumption | (simp_all; done) | (simp_all; omega)) ?_; try simp -dsimp [h1, q2, h33, q34])
      have hF := ob hF; obtain ⟨v37, e38, hF⟩ := hF
      refine ((C.spec_l1Has B hB1 hB2 v35 e.ctor v37 e38)).pgoW (by first | (simp; done) | (simp [h1, q2, h33, q34]; done) | simp_all) (by simp) ?_
      simp -dsimp [h1, q2, h33, q34]
      repeat (refine chk.go (by first | omega | assumption | (simp_all; done) | (simp_all; omega)) ?_; try simp -dsimp [h1, q2, h33, q34])
      refine abr.split (fun h39 => ?_) (fun h39 => ?_)
      · have q40 : ¬ (v37 = true) := by first | exact h39 | omega | (simpa using h39) | (simp at h39 ⊢; omega) | simp_all
        rw [if_neg q40] at hF
        cases hF
        simp -dsimp [h1, q2, h33, q34, h39, q40]
        repeat (refine chk.go (by first | omega | assumption | (simp_all; done) | (simp_all; omega)) ?_; try simp -dsimp [h1, q2, h33, q34, h39, q40])
        all_goals (try omega)
      · have q40 : (v37 = true) := by first | exact h39 | omega | (simpa using h39) | (simp at h39 ⊢; omega) | simp_all
        rw [if_pos q40] at hF
        simp -dsimp [h1, q2, h33, q34, h39, q40]
        repeat (refine chk.go (by first | omega | assumption | (simp_all; done) | (simp_all; omega)) ?_; try simp -dsimp [h1, q2, h33, q34, h39, q40])
        have hF := ob hF; obtain ⟨v41, e42, hF⟩ := hF
        refine ((C.spec_l1Args B hB1 hB2 w t e.ctor v41 e42)).goW (by first | (simp; done) | (simp [h1, q2, h33, q34, h39, q40]; done) | simp_all) (by simp) ?_
        cases hF
        simp -dsimp [h1, q2, h33, q34, h39, q40]
        repeat (refine chk.go (by first | omega | assumption | (simp_all; done) | (simp_all; omega)) ?_; try simp -dsimp [h1, q2, h33, q34, h39, q40])
        all_goals (try omega)

set_option maxRecDepth 100000 in
set_option maxHeartbeats 400000 in
theorem CC.spec_l12Typed (B : Nat) (hB1 : 67108864 ≤ B) (hB2 : B ≤ 9223372036854775807) (w : List Vl.Data) (funs : List Vl.FunType) (vars : List Vl.VarType) : (∀ (t : Vl.Ty) (e : Vl.Expr) (depth : Int) (r : Bool), F.spec_l12Typed w funs vars t e depth = some r → PureCall Try.prog B 116 [.arr (List.map Vl.Data.c w), .arr (List.map Vl.FunType.c funs), .arr (List.map Vl.VarType.c vars), .agg [.lit (.int .i64 t.data), .lit (.int .i64 t.index)], .agg [.lit (.int .i64 e.op), .lit (.int .i64 e.n), .lit (.int .i64 e.ctor), .arr (List.map Vl.Expr.c e.kids)], .lit (.int .i64 depth)] (.lit (.bool r))) ∧
    (∀ (e : Vl.Expr) (depth : Int) (v : (List Vl.Ty) × Bool) (i : Nat) (o : Lo Bool Unit), F.spec_l12Typed_l1 w funs vars e depth v i = some o → ∀ (c : Code), navO [1, 1, 1, 1, 0, 1, 0, 0] (bodyOf Try.f116) = some c → ∀ (Q : Exit → ASt → Prop), o.post (fun r => ∀ st, Post Try.prog Try.f116 (fun r' _ => r'.le (.lit (.bool r))) .ret st → Q .ret st) (fun s => Q (.exit 0) ⟨[], []⟩) → ALoopU Try.prog B 0 59 (hold c .mk) ⟨[(0, .arr (List.map Vl.Data.c w)), (1, .arr (List.map Vl.FunType.c funs)), (2, .arr (List.map Vl.VarType.c vars)), (5, .lit (.int .i64 depth)), (10, .ptr 1 0), (13, .arr (List.map Vl.Ty.c v.1)), (15, .lit (.int .i64 (i : Int)))], [.dead, .cells [.lit (.int .i64 e.op), .lit (.int .i64 e.n), .lit (.int .i64 e.ctor), .arr (List.map Vl.Expr.c e.kids)]]⟩ (hold Q .mk)) := by
  refine F.spec_l12Typed.mutual_partial_correctness w funs vars
    (fun t e depth r => PureCall Try.prog B 116 [.arr (List.map Vl.Data.c w), .arr (List.map Vl.FunType.c funs), .arr (List.map Vl.VarType.c vars), .agg [.lit (.int .i64 t.data), .lit (.int .i64 t.index)], .agg [.lit (.int .i64 e.op), .lit (.int .i64 e.n), .lit (.int .i64 e.ctor), .arr (List.map Vl.Expr.c e.kids)], .lit (.int .i64 depth)] (.lit (.bool r)))
    (fun e depth v i o => ∀ (c : Code), navO [1, 1, 1, 1, 0, 1, 0, 0] (bodyOf Try.f116) = some c → ∀ (Q : Exit → ASt → Prop), o.post (fun r => ∀ st, Post Try.prog Try.f116 (fun r' _ => r'.le (.lit (.bool r))) .ret st → Q .ret st) (fun s => Q (.exit 0) ⟨[], []⟩) → ALoopU Try.prog B 0 59 (hold c .mk) ⟨[(0, .arr (List.map Vl.Data.c w)), (1, .arr (List.map Vl.FunType.c funs)), (2, .arr (List.map Vl.VarType.c vars)), (5, .lit (.int .i64 depth)), (10, .ptr 1 0), (13, .arr (List.map Vl.Ty.c v.1)), (15, .lit (.int .i64 (i : Int)))], [.dead, .cells [.lit (.int .i64 e.op), .lit (.int .i64 e.n), .lit (.int .i64 e.ctor), .arr (List.map Vl.Expr.c e.kids)]]⟩ (hold Q .mk))
    ?_ ?_
  · intro _f_spec_l12Typed_l1 ih_spec_l12Typed_l1 t e depth r hF
    refine PureCall.enterLe Try.func116 (by kernel_rfl) rfl Try.ntmps116 (by simp) (by simp) ?_
    simp -dsimp
    repeat (refine chk.go (by first | omega | assumption | (simp_all; done) | (simp_all; omega)) ?_; try simp -dsimp)
    refine abr.split (fun h1 => ?_) (fun h1 => ?_)
    · have q2 : (depth < 1) := by first | exact h1 | omega | (simpa using h1) | (simp at h1 ⊢; omega) | simp_all
      rw [if_pos q2] at hF
      cases hF
      simp -dsimp [h1]
      repeat (refine chk.go (by first | omega | assumption | (simp_all; done) | (simp_all; omega)) ?_; try simp -dsimp [h1])
      all_goals (try omega)
    · have q2 : ¬ (depth < 1) := by first | exact h1 | omega | (simpa using h1) | (simp at h1 ⊢; omega) | simp_all
      rw [if_neg q2] at hF
      simp -dsimp [h1, q2]
      repeat (refine chk.go (by first | omega | assumption | (simp_all; done) | (simp_all; omega)) ?_; try simp -dsimp [h1, q2])
      have hF := ob hF; obtain ⟨v, e3, hF⟩ := hF
      refine ((C.spec_l12Kids B hB1 hB2 w funs vars t e v e3)).goW (by first | (simp; done) | (simp [h1, q2]; done) | simp_all) (by simp) ?_
      simp -dsimp [h1, q2]
      repeat (refine chk.go (by first | omega | assumption | (simp_all; done) | (simp_all; omega)) ?_; try simp -dsimp [h1, q2])
      refine abr.split (fun h4 => ?_) (fun h4 => ?_)
      · have q5 : (v.2 = true) := by first | exact h4 | omega | (simpa using h4) | (simp at h4 ⊢; omega) | simp_all
        rw [if_pos q5] at hF
        simp -dsimp [h1, q2, h4]
        repeat (refine chk.go (by first | omega | assumption | (simp_all; done) | (simp_all; omega)) ?_; try simp -dsimp [h1, q2, h4])
        refine abr.split (fun h6 => ?_) (fun h6 => ?_)
        · have q7 : ¬ (e.kids.length = v.1.length) := by first | exact h6 | omega | (simpa using h6) | (simp at h6 ⊢; omega) | simp_all
          have z8 : ¬ ((e.kids.length : Int) = (v.1.length : Int)) := by first | omega | simp_all
          rw [if_neg q7] at hF
          cases hF
          simp -dsimp [h1, q2, h4, h6, q7, z8]
          repeat (refine chk.go (by first | omega | assumption | (simp_all; done) | (simp_all; omega)) ?_; try simp -dsimp [h1, q2, h4, h6, q7, z8])
          all_goals (try omega)
        · have q7 : (e.kids.length = v.1.length) := by first | exact h6 | omega | (simpa using h6) | (simp at h6 ⊢; omega) | simp_all
          have z8 : ((e.kids.length : Int) = (v.1.length : Int)) := by first | omega | simp_all
          rw [if_pos q7] at hF
          simp -dsimp [h1, q2, h4, h6, q7, z8]
          repeat (refine chk.go (by first | omega | assumption | (simp_all; done) | (simp_all; omega)) ?_; try simp -dsimp [h1, q2, h4, h6, q7, z8])
          have hF := ob hF; obtain ⟨o', ho20, hF⟩ := hF
          refine ALoop.goU ⟨[(0, .arr (List.map Vl.Data.c w)), (1, .arr (List.map Vl.FunType.c funs)), (2, .arr (List.map Vl.VarType.c vars)), (5, .lit (.int .i64 depth)), (10, .ptr 1 0), (13, .arr (List.map Vl.Ty.c v.1)), (15, .lit (.int .i64 (0 : Int)))], [.dead, .cells [.lit (.int .i64 e.op), .lit (.int .i64 e.n), .lit (.int .i64 e.ctor), .arr (List.map Vl.Expr.c e.kids)]]⟩ (Gh.to (by simp) (by first | (simp -dsimp; done) | (simp -dsimp [h1, q2, h4, h6, q7, z8]; done) | simp_all) (by first | (simp -dsimp; done) | (simp -dsimp [h1, q2, h4, h6, q7, z8]; done) | simp_all) (by first | (simp -dsimp; done) | (simp -dsimp [h1, q2, h4, h6, q7, z8]; done) | simp_all)) ?_
          refine (ih_spec_l12Typed_l1 e depth v 0 o' ho20) _ rfl _ ?_
          rcases o' with r0 | s
          · dsimp only at hF
            cases hF
            intro st h
            simpa using h
          · dsimp only at hF
            cases hF
            simp -dsimp
            repeat (refine chk.go (by first | omega | assumption | (simp_all; done) | (simp_all; omega)) ?_; try simp -dsimp)
            all_goals (try omega)
      · have q5 : ¬ (v.2 = true) := by first | exact h4 | omega | (simpa using h4) | (simp at h4 ⊢; omega) | simp_all
        rw [if_neg q5] at hF
        cases hF
        simp -dsimp [h1, q2, h4, q5]
        repeat (refine chk.go (by first | omega | assumption | (simp_all; done) | (simp_all; omega)) ?_; try simp -dsimp [h1, q2, h4, q5])
        all_goals (try omega)
  · intro _f_spec_l12Typed _f_spec_l12Typed_l1 ih_spec_l12Typed ih_spec_l12Typed_l1 e depth v i o hF
    intro c hc Q hq
    obtain rfl : c = _ := navEq hc rfl
    refine ALoopU.know fun hk hs => ?_
    have b0 := hk 0
    simp -dsimp at b0
    have b1 := hk 1
    simp -dsimp at b1
    have b2 := hk 2
    simp -dsimp at b2
    have b13 := hk 13
    simp -dsimp at b13
    have d1 := hs 1 _ rfl
    simp -dsimp [Blk.bnd] at d1
    clear hk hs
    refine ALoopU.enter ?_
    simp -dsimp
    repeat (refine chk.go (by first | omega | assumption | (simp_all; done) | (simp_all; omega)) ?_; try simp -dsimp)
    refine abr.split (fun h9 => ?_) (fun h9 => ?_)
    · have q10 : (i < v.1.length) := by first | exact h9 | omega | (simpa using h9) | (simp at h9 ⊢; omega) | simp_all
      have z11 : ((i : Int) < (v.1.length : Int)) := by first | omega | simp_all
      rw [if_pos q10] at hF
      simp -dsimp [h9, z11]
      repeat (refine chk.go (by first | omega | assumption | (simp_all; done) | (simp_all; omega)) ?_; try simp -dsimp [h9, z11])
      refine ADraw.simple follows (by kernel_rfl) (by kernel_rfl) ?_
      have hF := ob hF; obtain ⟨x, e12, hF⟩ := hF
      have le12 := lt_of_get e12
      have hF := ob hF; obtain ⟨x13, e14, hF⟩ := hF
      have le14 := lt_of_get e14
      simp -dsimp [h9, z11, ↓e12, ↓e14]
      repeat (refine chk.go (by first | omega | assumption | (simp_all; done) | (simp_all; omega)) ?_; try simp -dsimp [h9, z11, ↓e12, ↓e14])
      have hF := ob hF; obtain ⟨v15, e16, hF⟩ := hF
      refine ((ih_spec_l12Typed x x13 (IntKind.i64.wrap (depth - 1)) v15 e16)).pgoW (by first | (simp; done) | (simp [h9, z11, ↓e12, ↓e14]; done) | simp_all) (by simp) ?_
      simp -dsimp [h9, z11, ↓e12, ↓e14]
      repeat (refine chk.go (by first | omega | assumption | (simp_all; done) | (simp_all; omega)) ?_; try simp -dsimp [h9, z11, ↓e12, ↓e14])
      refine abr.split (fun h17 => ?_) (fun h17 => ?_)
      · have q18 : ¬ (v15 = true) := by first | exact h17 | omega | (simpa using h17) | (simp at h17 ⊢; omega) | simp_all
        rw [if_neg q18] at hF
        cases hF
        simp -dsimp [h9, z11, ↓e12, ↓e14, h17, q18]
        repeat (refine chk.go (by first | omega | assumption | (simp_all; done) | (simp_all; omega)) ?_; try simp -dsimp [h9, z11, ↓e12, ↓e14, h17, q18])
        refine Leave.go _ (Gh.refl _) (hq _ ?_)
        simp -dsimp [h9, z11, ↓e12, ↓e14, h17, q18]
        repeat (refine chk.go (by first | omega | assumption | (simp_all; done) | (simp_all; omega)) ?_; try simp -dsimp [h9, z11, ↓e12, ↓e14, h17, q18])
      · have q18 : (v15 = true) := by first | exact h17 | omega | (simpa using h17) | (simp at h17 ⊢; omega) | simp_all
        rw [if_pos q18] at hF
        have w19 : IntKind.i64.wrap ((i : Int) + 1) = (i : Int) + 1 := wrap_in (by omega) (by omega)
        simp -dsimp [h9, z11, ↓e12, ↓e14, h17, q18, w19]
        repeat (refine chk.go (by first | omega | assumption | (simp_all; done) | (simp_all; omega)) ?_; try simp -dsimp [h9, z11, ↓e12, ↓e14, h17, q18, w19])
        refine Again.go ⟨[(0, .arr (List.map Vl.Data.c w)), (1, .arr (List.map Vl.FunType.c funs)), (2, .arr (List.map Vl.VarType.c vars)), (5, .lit (.int .i64 depth)), (10, .ptr 1 0), (13, .arr (List.map Vl.Ty.c v.1)), (15, .lit (.int .i64 ((i + 1) : Int)))], [.dead, .cells [.lit (.int .i64 e.op), .lit (.int .i64 e.n), .lit (.int .i64 e.ctor), .arr (List.map Vl.Expr.c e.kids)]]⟩ (Gh.to (by simp) (by first | (simp -dsimp; done) | (simp -dsimp [h9, z11, ↓e12, ↓e14, h17, q18, w19]; done) | simp_all) (by first | (simp -dsimp; done) | (simp -dsimp [h9, z11, ↓e12, ↓e14, h17, q18, w19]; done) | simp_all) (by first | (simp -dsimp; done) | (simp -dsimp [h9, z11, ↓e12, ↓e14, h17, q18, w19]; done) | simp_all)) ?_
        exact (ih_spec_l12Typed_l1 e depth v (i + 1) o hF) _ rfl _ hq
    · have q10 : ¬ (i < v.1.length) := by first | exact h9 | omega | (simpa using h9) | (simp at h9 ⊢; omega) | simp_all
      have z11 : ¬ ((i : Int) < (v.1.length : Int)) := by first | omega | simp_all
      rw [if_neg q10] at hF
      cases hF
      simp -dsimp [h9, q10, z11]
      repeat (refine chk.go (by first | omega | assumption | (simp_all; done) | (simp_all; omega)) ?_; try simp -dsimp [h9, q10, z11])
      refine Leave.go ⟨[], []⟩ (Gh.to (by simp) (by first | (simp -dsimp; done) | (simp -dsimp [h9, q10, z11]; done) | simp_all) (by first | (simp -dsimp; done) | (simp -dsimp [h9, q10, z11]; done) | simp_all) (by first | (simp -dsimp; done) | (simp -dsimp [h9, q10, z11]; done) | simp_all)) ?_
      exact hq

theorem C.spec_l12Typed (B : Nat) (hB1 : 67108864 ≤ B) (hB2 : B ≤ 9223372036854775807) (w : List Vl.Data) (funs : List Vl.FunType) (vars : List Vl.VarType) (t : Vl.Ty) (e : Vl.Expr) (depth : Int) (r : Bool) (hF : F.spec_l12Typed w funs vars t e depth = some r) : PureCall Try.prog B 116 [.arr (List.map Vl.Data.c w), .arr (List.map Vl.FunType.c funs), .arr (List.map Vl.VarType.c vars), .agg [.lit (.int .i64 t.data), .lit (.int .i64 t.index)], .agg [.lit (.int .i64 e.op), .lit (.int .i64 e.n), .lit (.int .i64 e.ctor), .arr (List.map Vl.Expr.c e.kids)], .lit (.int .i64 depth)] (.lit (.bool r)) :=
  (CC.spec_l12Typed B hB1 hB2 w funs vars).1 t e depth r hF

theorem C.spec_l12Typed_l1 (B : Nat) (hB1 : 67108864 ≤ B) (hB2 : B ≤ 9223372036854775807) (w : List Vl.Data) (funs : List Vl.FunType) (vars : List Vl.VarType) (e : Vl.Expr) (depth : Int) (v : (List Vl.Ty) × Bool) (i : Nat) (o : Lo Bool Unit) (hF : F.spec_l12Typed_l1 w funs vars e depth v i = some o) : ∀ (c : Code), navO [1, 1, 1, 1, 0, 1, 0, 0] (bodyOf Try.f116) = some c → ∀ (Q : Exit → ASt → Prop), o.post (fun r => ∀ st, Post Try.prog Try.f116 (fun r' _ => r'.le (.lit (.bool r))) .ret st → Q .ret st) (fun s => Q (.exit 0) ⟨[], []⟩) → ALoopU Try.prog B 0 59 (hold c .mk) ⟨[(0, .arr (List.map Vl.Data.c w)), (1, .arr (List.map Vl.FunType.c funs)), (2, .arr (List.map Vl.VarType.c vars)), (5, .lit (.int .i64 depth)), (10, .ptr 1 0), (13, .arr (List.map Vl.Ty.c v.1)), (15, .lit (.int .i64 (i : Int)))], [.dead, .cells [.lit (.int .i64 e.op), .lit (.int .i64 e.n), .lit (.int .i64 e.ctor), .arr (List.map Vl.Expr.c e.kids)]]⟩ (hold Q .mk) :=
  (CC.spec_l12Typed B hB1 hB2 w funs vars).2 e depth v i o hF

set_option maxRecDepth 100000 in
set_option maxHeartbeats 400000 in
theorem CC.spec_l12Count (B : Nat) (hB1 : 67108864 ≤ B) (hB2 : B ≤ 9223372036854775807)  : (∀ (e : Vl.Expr) (most : Int) (r : Int), F.spec_l12Count e most = some r → PureCall Try.prog B 117 [.agg [.lit (.int .i64 e.op), .lit (.int .i64 e.n), .lit (.int .i64 e.ctor), .arr (List.map Vl.Expr.c e.kids)], .lit (.int .i64 most)] (.lit (.int .i64 r))) ∧
    (∀ (e : Vl.Expr) (most : Int) (n : Int) (i : Nat) (o : Int), F.spec_l12Count_l1 e most n i = some o → ∀ (c : Code), navO [1, 1, 0, 1, 0, 0] (bodyOf Try.f117) = some c → ∀ (Q : Exit → ASt → Prop), Q (.exit 0) ⟨[(5, .lit (.int .i64 o))], []⟩ → ALoopU Try.prog B 0 31 (hold c .mk) ⟨[(1, .lit (.int .i64 most)), (2, .ptr 0 0), (5, .lit (.int .i64 n)), (6, .lit (.int .i64 (i : Int)))], [.cells [.lit (.int .i64 e.op), .lit (.int .i64 e.n), .lit (.int .i64 e.ctor), .arr (List.map Vl.Expr.c e.kids)]]⟩ (hold Q .mk)) := by
  refine F.spec_l12Count.mutual_partial_correctness 
    (fun e most r => PureCall Try.prog B 117 [.agg [.lit (.int .i64 e.op), .lit (.int .i64 e.n), .lit (.int .i64 e.ctor), .arr (List.map Vl.Expr.c e.kids)], .lit (.int .i64 most)] (.lit (.int .i64 r)))
    (fun e most n i o => ∀ (c : Code), navO [1, 1, 0, 1, 0, 0] (bodyOf Try.f117) = some c → ∀ (Q : Exit → ASt → Prop), Q (.exit 0) ⟨[(5, .lit (.int .i64 o))], []⟩ → ALoopU Try.prog B 0 31 (hold c .mk) ⟨[(1, .lit (.int .i64 most)), (2, .ptr 0 0), (5, .lit (.int .i64 n)), (6, .lit (.int .i64 (i : Int)))], [.cells [.lit (.int .i64 e.op), .lit (.int .i64 e.n), .lit (.int .i64 e.ctor), .arr (List.map Vl.Expr.c e.kids)]]⟩ (hold Q .mk))
    ?_ ?_
  · intro _f_spec_l12Count_l1 ih_spec_l12Count_l1 e most r hF
    refine PureCall.enterLe Try.func117 (by kernel_rfl) rfl Try.ntmps117 (by simp) (by simp) ?_
    simp -dsimp
    repeat (refine chk.go (by first | omega | assumption | (simp_all; done) | (simp_all; omega)) ?_; try simp -dsimp)
    have hF := ob hF; obtain ⟨o', ho9, hF⟩ := hF
    refine ALoop.goU ⟨[(1, .lit (.int .i64 most)), (2, .ptr 0 0), (5, .lit (.int .i64 (1 : Int))), (6, .lit (.int .i64 (0 : Int)))], [.cells [.lit (.int .i64 e.op), .lit (.int .i64 e.n), .lit (.int .i64 e.ctor), .arr (List.map Vl.Expr.c e.kids)]]⟩ (Gh.to (by simp) (by simp -dsimp) (by simp -dsimp) (by simp -dsimp)) ?_
    refine (ih_spec_l12Count_l1 e most (1 : Int) 0 o' ho9) _ rfl _ ?_
    cases hF
    simp -dsimp
    repeat (refine chk.go (by first | omega | assumption | (simp_all; done) | (simp_all; omega)) ?_; try simp -dsimp)
    all_goals (try omega)
  · intro _f_spec_l12Count _f_spec_l12Count_l1 ih_spec_l12Count ih_spec_l12Count_l1 e most n i o hF
    intro c hc Q hq
    obtain rfl : c = _ := navEq hc rfl
    refine ALoopU.know fun hk hs => ?_
    have d0 := hs 0 _ rfl
    simp -dsimp [Blk.bnd] at d0
    clear hk hs
    refine ALoopU.enter ?_
    simp -dsimp
    repeat (refine chk.go (by first | omega | assumption | (simp_all; done) | (simp_all; omega)) ?_; try simp -dsimp)
    refine abr.split (fun h1 => ?_) (fun h1 => ?_)
    · have q2 : (i < e.kids.length) := by first | exact h1 | omega | (simpa using h1) | (simp at h1 ⊢; omega) | simp_all
      have z3 : ((i : Int) < (e.kids.length : Int)) := by first | omega | simp_all
      rw [if_pos q2] at hF
      simp -dsimp [h1, z3]
      repeat (refine chk.go (by first | omega | assumption | (simp_all; done) | (simp_all; omega)) ?_; try simp -dsimp [h1, z3])
      refine abr.split (fun h4 => ?_) (fun h4 => ?_)
      · have q5 : (n ≤ most) := by first | exact h4 | omega | (simpa using h4) | (simp at h4 ⊢; omega) | simp_all
        rw [if_pos q5] at hF
        have hF := ob hF; obtain ⟨x, e6, hF⟩ := hF
        have le6 := lt_of_get e6
        simp -dsimp [h1, z3, h4, ↓e6]
        repeat (refine chk.go (by first | omega | assumption | (simp_all; done) | (simp_all; omega)) ?_; try simp -dsimp [h1, z3, h4, ↓e6])
        have hF := ob hF; obtain ⟨v, e7, hF⟩ := hF
        refine ((ih_spec_l12Count x (IntKind.i64.wrap (most - n)) v e7)).goW (by first | (simp; done) | (simp [h1, z3, h4, ↓e6]; done) | simp_all) (by simp) ?_
        have w8 : IntKind.i64.wrap ((i : Int) + 1) = (i : Int) + 1 := wrap_in (by omega) (by omega)
        simp -dsimp [h1, z3, h4, ↓e6, w8]
        repeat (refine chk.go (by first | omega | assumption | (simp_all; done) | (simp_all; omega)) ?_; try simp -dsimp [h1, z3, h4, ↓e6, w8])
        refine Again.go ⟨[(1, .lit (.int .i64 most)), (2, .ptr 0 0), (5, .lit (.int .i64 (IntKind.i64.wrap (n + v)))), (6, .lit (.int .i64 ((i + 1) : Int)))], [.cells [.lit (.int .i64 e.op), .lit (.int .i64 e.n), .lit (.int .i64 e.ctor), .arr (List.map Vl.Expr.c e.kids)]]⟩ (Gh.to (by simp) (by first | (simp -dsimp; done) | (simp -dsimp [h1, z3, h4, ↓e6, w8]; done) | simp_all) (by first | (simp -dsimp; done) | (simp -dsimp [h1, z3, h4, ↓e6, w8]; done) | simp_all) (by first | (simp -dsimp; done) | (simp -dsimp [h1, z3, h4, ↓e6, w8]; done) | simp_all)) ?_
        exact (ih_spec_l12Count_l1 e most (IntKind.i64.wrap (n + v)) (i + 1) o hF) _ rfl _ hq
      · have q5 : ¬ (n ≤ most) := by first | exact h4 | omega | (simpa using h4) | (simp at h4 ⊢; omega) | simp_all
        rw [if_neg q5] at hF
        cases hF
        simp -dsimp [h1, z3, h4, q5]
        repeat (refine chk.go (by first | omega | assumption | (simp_all; done) | (simp_all; omega)) ?_; try simp -dsimp [h1, z3, h4, q5])
        refine Leave.go ⟨[(5, .lit (.int .i64 n))], []⟩ (Gh.to (by simp) (by first | (simp -dsimp; done) | (simp -dsimp [h1, z3, h4, q5]; done) | simp_all) (by first | (simp -dsimp; done) | (simp -dsimp [h1, z3, h4, q5]; done) | simp_all) (by first | (simp -dsimp; done) | (simp -dsimp [h1, z3, h4, q5]; done) | simp_all)) ?_
        exact hq
    · have q2 : ¬ (i < e.kids.length) := by first | exact h1 | omega | (simpa using h1) | (simp at h1 ⊢; omega) | simp_all
      have z3 : ¬ ((i : Int) < (e.kids.length : Int)) := by first | omega | simp_all
      rw [if_neg q2] at hF
      cases hF
      simp -dsimp [h1, q2, z3]
      repeat (refine chk.go (by first | omega | assumption | (simp_all; done) | (simp_all; omega)) ?_; try simp -dsimp [h1, q2, z3])
      refine Leave.go ⟨[(5, .lit (.int .i64 n))], []⟩ (Gh.to (by simp) (by first | (simp -dsimp; done) | (simp -dsimp [h1, q2, z3]; done) | simp_all) (by first | (simp -dsimp; done) | (simp -dsimp [h1, q2, z3]; done) | simp_all) (by first | (simp -dsimp; done) | (simp -dsimp [h1, q2, z3]; done) | simp_all)) ?_
      exact hq

theorem C.spec_l12Count (B : Nat) (hB1 : 67108864 ≤ B) (hB2 : B ≤ 9223372036854775807) (e : Vl.Expr) (most : Int) (r : Int) (hF : F.spec_l12Count e most = some r) : PureCall Try.prog B 117 [.agg [.lit (.int .i64 e.op), .lit (.int .i64 e.n), .lit (.int .i64 e.ctor), .arr (List.map Vl.Expr.c e.kids)], .lit (.int .i64 most)] (.lit (.int .i64 r)) :=
  (CC.spec_l12Count B hB1 hB2 ).1 e most r hF

theorem C.spec_l12Count_l1 (B : Nat) (hB1 : 67108864 ≤ B) (hB2 : B ≤ 9223372036854775807) (e : Vl.Expr) (most : Int) (n : Int) (i : Nat) (o : Int) (hF : F.spec_l12Count_l1 e most n i = some o) : ∀ (c : Code), navO [1, 1, 0, 1, 0, 0] (bodyOf Try.f117) = some c → ∀ (Q : Exit → ASt → Prop), Q (.exit 0) ⟨[(5, .lit (.int .i64 o))], []⟩ → ALoopU Try.prog B 0 31 (hold c .mk) ⟨[(1, .lit (.int .i64 most)), (2, .ptr 0 0), (5, .lit (.int .i64 n)), (6, .lit (.int .i64 (i : Int)))], [.cells [.lit (.int .i64 e.op), .lit (.int .i64 e.n), .lit (.int .i64 e.ctor), .arr (List.map Vl.Expr.c e.kids)]]⟩ (hold Q .mk) :=
  (CC.spec_l12Count B hB1 hB2 ).2 e most n i o hF

set_option maxRecDepth 100000 in
set_option maxHeartbeats 400000 in
theorem C.spec_l12Is (B : Nat) (hB1 : 67108864 ≤ B) (hB2 : B ≤ 9223372036854775807) (w : List Vl.Data) (funs : List Vl.FunType) (vars : List Vl.VarType) (t : Vl.Ty) (e : Vl.Expr) (r : Bool) (hF : F.spec_l12Is w funs vars t e = some r) : PureCall Try.prog B 55 [.arr (List.map Vl.Data.c w), .arr (List.map Vl.FunType.c funs), .arr (List.map Vl.VarType.c vars), .agg [.lit (.int .i64 t.data), .lit (.int .i64 t.index)], .agg [.lit (.int .i64 e.op), .lit (.int .i64 e.n), .lit (.int .i64 e.ctor), .arr (List.map Vl.Expr.c e.kids)]] (.lit (.bool r)) := by
  unfold F.spec_l12Is at hF
  refine PureCall.enterLe Try.func55 (by kernel_rfl) rfl Try.ntmps55 (by simp) (by simp) ?_
  simp -dsimp
  repeat (refine chk.go (by first | omega | assumption | (simp_all; done) | (simp_all; omega)) ?_; try simp -dsimp)
  have hF := ob hF; obtain ⟨v, e1, hF⟩ := hF
  refine ((C.spec_l12Typed B hB1 hB2 w funs vars t e (10 : Int) v e1)).goW (by simp) (by simp) ?_
  simp -dsimp
  repeat (refine chk.go (by first | omega | assumption | (simp_all; done) | (simp_all; omega)) ?_; try simp -dsimp)
  refine abr.split (fun h2 => ?_) (fun h2 => ?_)
  · have q3 : (v = true) := by first | exact h2 | omega | (simpa using h2) | (simp at h2 ⊢; omega) | simp_all
    rw [if_pos q3] at hF
    simp -dsimp [h2]
    repeat (refine chk.go (by first | omega | assumption | (simp_all; done) | (simp_all; omega)) ?_; try simp -dsimp [h2])
    have hF := ob hF; obtain ⟨v4, e5, hF⟩ := hF
    refine ((C.spec_l12Count B hB1 hB2 e (60 : Int) v4 e5)).goW (by first | (simp; done) | (simp [h2]; done) | simp_all) (by simp) ?_
    cases hF
    simp -dsimp [h2]
    repeat (refine chk.go (by first | omega | assumption | (simp_all; done) | (simp_all; omega)) ?_; try simp -dsimp [h2])
    all_goals (try omega)
  · have q3 : ¬ (v = true) := by first | exact h2 | omega | (simpa using h2) | (simp at h2 ⊢; omega) | simp_all
    rw [if_neg q3] at hF
    cases hF
    simp -dsimp [h2, q3]
    repeat (refine chk.go (by first | omega | assumption | (simp_all; done) | (simp_all; omega)) ?_; try simp -dsimp [h2, q3])
    all_goals (try omega)

set_option maxRecDepth 100000 in
set_option maxHeartbeats 400000 in
theorem C.spec_ExprValid (B : Nat) (hB1 : 67108864 ≤ B) (hB2 : B ≤ 9223372036854775807) (w : List Vl.Data) (funs : List Vl.FunType) (vars : List Vl.VarType) (t : Vl.Ty) (e : Vl.Expr) (r : Bool) (hF : F.spec_ExprValid w funs vars t e = some r) : PureCall Try.prog B 13 [.arr (List.map Vl.Data.c w), .arr (List.map Vl.FunType.c funs), .arr (List.map Vl.VarType.c vars), .agg [.lit (.int .i64 t.data), .lit (.int .i64 t.index)], .agg [.lit (.int .i64 e.op), .lit (.int .i64 e.n), .lit (.int .i64 e.ctor), .arr (List.map Vl.Expr.c e.kids)]] (.lit (.bool r)) := by
  unfold F.spec_ExprValid at hF
  refine PureCall.enterLe Try.func13 (by kernel_rfl) rfl Try.ntmps13 (by simp) (by simp) ?_
  simp -dsimp
  repeat (refine chk.go (by first | omega | assumption | (simp_all; done) | (simp_all; omega)) ?_; try simp -dsimp)
  have hF := ob hF; obtain ⟨v, e1, hF⟩ := hF
  refine ((C.spec_l12Right B hB1 hB2 w funs vars t v e1)).goW (by simp) (by simp) ?_
  simp -dsimp
  repeat (refine chk.go (by first | omega | assumption | (simp_all; done) | (simp_all; omega)) ?_; try simp -dsimp)
  refine abr.split (fun h2 => ?_) (fun h2 => ?_)
  · have q3 : (v = true) := by first | exact h2 | omega | (simpa using h2) | (simp at h2 ⊢; omega) | simp_all
    rw [if_pos q3] at hF
    simp -dsimp [h2]
    repeat (refine chk.go (by first | omega | assumption | (simp_all; done) | (simp_all; omega)) ?_; try simp -dsimp [h2])
    have hF := ob hF; obtain ⟨v4, e5, hF⟩ := hF
    refine ((C.spec_l12Is B hB1 hB2 w funs vars t e v4 e5)).goW (by first | (simp; done) | (simp [h2]; done) | simp_all) (by simp) ?_
    cases hF
    simp -dsimp [h2]
    repeat (refine chk.go (by first | omega | assumption | (simp_all; done) | (simp_all; omega)) ?_; try simp -dsimp [h2])
    all_goals (try omega)
  · have q3 : ¬ (v = true) := by first | exact h2 | omega | (simpa using h2) | (simp at h2 ⊢; omega) | simp_all
    rw [if_neg q3] at hF
    cases hF
    simp -dsimp [h2, q3]
    repeat (refine chk.go (by first | omega | assumption | (simp_all; done) | (simp_all; omega)) ?_; try simp -dsimp [h2, q3])
    all_goals (try omega)

set_option maxRecDepth 100000 in
set_option maxHeartbeats 400000 in
theorem C.impl_within (B : Nat) (hB1 : 67108864 ≤ B) (hB2 : B ≤ 9223372036854775807) (n : Int) (low : Int) (high : Int) (r : Bool) (hF : F.impl_within n low high = some r) : PureCall Try.prog B 145 [.lit (.int .i64 n), .lit (.int .i64 low), .lit (.int .i64 high)] (.lit (.bool r)) := by
  unfold F.impl_within at hF
  refine PureCall.enterLe Try.func145 (by kernel_rfl) rfl Try.ntmps145 (by simp) (by simp) ?_
  simp -dsimp
  repeat (refine chk.go (by first | omega | assumption | (simp_all; done) | (simp_all; omega)) ?_; try simp -dsimp)
  refine abr.split (fun h1 => ?_) (fun h1 => ?_)
  · have q2 : (low ≤ n) := by first | exact h1 | omega | (simpa using h1) | (simp at h1 ⊢; omega) | simp_all
    rw [if_pos q2] at hF
    cases hF
    simp -dsimp [h1]
    repeat (refine chk.go (by first | omega | assumption | (simp_all; done) | (simp_all; omega)) ?_; try simp -dsimp [h1])
    all_goals (try omega)
  · have q2 : ¬ (low ≤ n) := by first | exact h1 | omega | (simpa using h1) | (simp at h1 ⊢; omega) | simp_all
    rw [if_neg q2] at hF
    cases hF
    simp -dsimp [h1, q2]
    repeat (refine chk.go (by first | omega | assumption | (simp_all; done) | (simp_all; omega)) ?_; try simp -dsimp [h1, q2])
    all_goals (try omega)

set_option maxRecDepth 100000 in
set_option maxHeartbeats 400000 in
theorem CC.impl_NameValid_l1 (B : Nat) (hB1 : 67108864 ≤ B) (hB2 : B ≤ 9223372036854775807) (s : ByteArray) : (∀ (i : Nat) (o : Lo Bool Unit), F.impl_NameValid_l1 s i = some o → ∀ (c : Code), navO [1, 1, 0, 1, 0, 0] (bodyOf Try.f199) = some c → ∀ (Q : Exit → ASt → Prop), o.post (fun r => ∀ st, Post Try.prog Try.f199 (fun r' _ => r'.le (.lit (.bool r))) .ret st → Q .ret st) (fun s => Q (.exit 0) ⟨[], []⟩) → ALoopU Try.prog B 0 34 (hold c .mk) ⟨[(0, .lit (.string s)), (3, .lit (.int .i64 (i : Int)))], []⟩ (hold Q .mk)) := by
  refine F.impl_NameValid_l1.partial_correctness s
    (fun i o => ∀ (c : Code), navO [1, 1, 0, 1, 0, 0] (bodyOf Try.f199) = some c → ∀ (Q : Exit → ASt → Prop), o.post (fun r => ∀ st, Post Try.prog Try.f199 (fun r' _ => r'.le (.lit (.bool r))) .ret st → Q .ret st) (fun s => Q (.exit 0) ⟨[], []⟩) → ALoopU Try.prog B 0 34 (hold c .mk) ⟨[(0, .lit (.string s)), (3, .lit (.int .i64 (i : Int)))], []⟩ (hold Q .mk))
    ?_
  · intro _f_impl_NameValid_l1 ih_impl_NameValid_l1 i o hF
    intro c hc Q hq
    obtain rfl : c = _ := navEq hc rfl
    refine ALoopU.know fun hk hs => ?_
    clear hk hs
    refine ALoopU.enter ?_
    simp -dsimp
    repeat (refine chk.go (by first | omega | assumption | (simp_all; done) | (simp_all; omega)) ?_; try simp -dsimp)
    refine abr.split (fun h11 => ?_) (fun h11 => ?_)
    · have q12 : (i < s.size) := by first | exact h11 | omega | (simpa using h11) | (simp at h11 ⊢; omega) | simp_all
      have z13 : ((i : Int) < (s.size : Int)) := by first | omega | simp_all
      rw [if_pos q12] at hF
      simp -dsimp [h11, z13]
      repeat (refine chk.go (by first | omega | assumption | (simp_all; done) | (simp_all; omega)) ?_; try simp -dsimp [h11, z13])
      refine abr.split (fun h14 => ?_) (fun h14 => ?_)
      · have q15 : ¬ (byteAt s i < 97) := by first | exact h14 | omega | (simpa using h14) | (simp at h14 ⊢; omega) | simp_all
        have z16 : ¬ (((byteAt s i : Nat) : Int) < (97 : Int)) := by first | omega | simp_all
        rw [if_neg q15] at hF
        simp -dsimp [h11, z13, h14, q15, z16]
        repeat (refine chk.go (by first | omega | assumption | (simp_all; done) | (simp_all; omega)) ?_; try simp -dsimp [h11, z13, h14, q15, z16])
        refine abr.split (fun h17 => ?_) (fun h17 => ?_)
        · have q18 : (122 < byteAt s i) := by first | exact h17 | omega | (simpa using h17) | (simp at h17 ⊢; omega) | simp_all
          have z19 : ((122 : Int) < ((byteAt s i : Nat) : Int)) := by first | omega | simp_all
          rw [if_pos q18] at hF
          cases hF
          simp -dsimp [h11, z13, h14, q15, z16, h17, z19]
          repeat (refine chk.go (by first | omega | assumption | (simp_all; done) | (simp_all; omega)) ?_; try simp -dsimp [h11, z13, h14, q15, z16, h17, z19])
          refine Leave.go _ (Gh.refl _) (hq _ ?_)
          simp -dsimp [h11, z13, h14, q15, z16, h17, z19]
          repeat (refine chk.go (by first | omega | assumption | (simp_all; done) | (simp_all; omega)) ?_; try simp -dsimp [h11, z13, h14, q15, z16, h17, z19])
        · have q18 : ¬ (122 < byteAt s i) := by first | exact h17 | omega | (simpa using h17) | (simp at h17 ⊢; omega) | simp_all
          have z19 : ¬ ((122 : Int) < ((byteAt s i : Nat) : Int)) := by first | omega | simp_all
          rw [if_neg q18] at hF
          have hF := oc hF; obtain ⟨c20, hF⟩ := hF
          have w21 : IntKind.i64.wrap ((i : Int) + 1) = (i : Int) + 1 := wrap_in (by omega) (by omega)
          simp -dsimp [h11, z13, h14, q15, z16, h17, q18, z19, w21]
          repeat (refine chk.go (by first | omega | assumption | (simp_all; done) | (simp_all; omega)) ?_; try simp -dsimp [h11, z13, h14, q15, z16, h17, q18, z19, w21])
          refine Again.go ⟨[(0, .lit (.string s)), (3, .lit (.int .i64 ((i + 1) : Int)))], []⟩ (Gh.to (by simp) (by first | (simp -dsimp; done) | (simp -dsimp [h11, z13, h14, q15, z16, h17, q18, z19, w21]; done) | simp_all) (by first | (simp -dsimp; done) | (simp -dsimp [h11, z13, h14, q15, z16, h17, q18, z19, w21]; done) | simp_all) (by first | (simp -dsimp; done) | (simp -dsimp [h11, z13, h14, q15, z16, h17, q18, z19, w21]; done) | simp_all)) ?_
          exact (ih_impl_NameValid_l1 (i + 1) o hF) _ rfl _ hq
      · have q15 : (byteAt s i < 97) := by first | exact h14 | omega | (simpa using h14) | (simp at h14 ⊢; omega) | simp_all
        have z16 : (((byteAt s i : Nat) : Int) < (97 : Int)) := by first | omega | simp_all
        rw [if_pos q15] at hF
        cases hF
        simp -dsimp [h11, z13, h14, q15, z16]
        repeat (refine chk.go (by first | omega | assumption | (simp_all; done) | (simp_all; omega)) ?_; try simp -dsimp [h11, z13, h14, q15, z16])
        refine Leave.go _ (Gh.refl _) (hq _ ?_)
        simp -dsimp [h11, z13, h14, q15, z16]
        repeat (refine chk.go (by first | omega | assumption | (simp_all; done) | (simp_all; omega)) ?_; try simp -dsimp [h11, z13, h14, q15, z16])
    · have q12 : ¬ (i < s.size) := by first | exact h11 | omega | (simpa using h11) | (simp at h11 ⊢; omega) | simp_all
      have z13 : ¬ ((i : Int) < (s.size : Int)) := by first | omega | simp_all
      rw [if_neg q12] at hF
      cases hF
      simp -dsimp [h11, q12, z13]
      repeat (refine chk.go (by first | omega | assumption | (simp_all; done) | (simp_all; omega)) ?_; try simp -dsimp [h11, q12, z13])
      refine Leave.go ⟨[], []⟩ (Gh.to (by simp) (by first | (simp -dsimp; done) | (simp -dsimp [h11, q12, z13]; done) | simp_all) (by first | (simp -dsimp; done) | (simp -dsimp [h11, q12, z13]; done) | simp_all) (by first | (simp -dsimp; done) | (simp -dsimp [h11, q12, z13]; done) | simp_all)) ?_
      exact hq

theorem C.impl_NameValid_l1 (B : Nat) (hB1 : 67108864 ≤ B) (hB2 : B ≤ 9223372036854775807) (s : ByteArray) (i : Nat) (o : Lo Bool Unit) (hF : F.impl_NameValid_l1 s i = some o) : ∀ (c : Code), navO [1, 1, 0, 1, 0, 0] (bodyOf Try.f199) = some c → ∀ (Q : Exit → ASt → Prop), o.post (fun r => ∀ st, Post Try.prog Try.f199 (fun r' _ => r'.le (.lit (.bool r))) .ret st → Q .ret st) (fun s => Q (.exit 0) ⟨[], []⟩) → ALoopU Try.prog B 0 34 (hold c .mk) ⟨[(0, .lit (.string s)), (3, .lit (.int .i64 (i : Int)))], []⟩ (hold Q .mk) :=
  (CC.impl_NameValid_l1 B hB1 hB2 s) i o hF

set_option maxRecDepth 100000 in
set_option maxHeartbeats 400000 in
theorem C.impl_NameValid (B : Nat) (hB1 : 67108864 ≤ B) (hB2 : B ≤ 9223372036854775807) (s : ByteArray) (r : Bool) (hF : F.impl_NameValid s = some r) : PureCall Try.prog B 199 [.lit (.string s)] (.lit (.bool r)) := by
  unfold F.impl_NameValid at hF
  refine PureCall.enterLe Try.func199 (by kernel_rfl) rfl Try.ntmps199 (by simp) (by simp) ?_
  simp -dsimp
  repeat (refine chk.go (by first | omega | assumption | (simp_all; done) | (simp_all; omega)) ?_; try simp -dsimp)
  have hF := ob hF; obtain ⟨v, e1, hF⟩ := hF
  refine ((C.impl_within B hB1 hB2 (s.size : Int) (1 : Int) (5 : Int) v e1)).goW (by simp) (by simp) ?_
  simp -dsimp
  repeat (refine chk.go (by first | omega | assumption | (simp_all; done) | (simp_all; omega)) ?_; try simp -dsimp)
  refine abr.split (fun h2 => ?_) (fun h2 => ?_)
  · have q3 : (v = true) := by first | exact h2 | omega | (simpa using h2) | (simp at h2 ⊢; omega) | simp_all
    rw [if_pos q3] at hF
    have hF := oc hF; obtain ⟨c4, hF⟩ := hF
    simp -dsimp [h2]
    repeat (refine chk.go (by first | omega | assumption | (simp_all; done) | (simp_all; omega)) ?_; try simp -dsimp [h2])
    refine abr.split (fun h5 => ?_) (fun h5 => ?_)
    · have q6 : ¬ (byteAt s 0 < 65) := by first | exact h5 | omega | (simpa using h5) | (simp at h5 ⊢; omega) | simp_all
      have z7 : ¬ (((byteAt s 0 : Nat) : Int) < (65 : Int)) := by first | omega | simp_all
      rw [if_neg q6] at hF
      simp -dsimp [h2, h5, q6, z7]
      repeat (refine chk.go (by first | omega | assumption | (simp_all; done) | (simp_all; omega)) ?_; try simp -dsimp [h2, h5, q6, z7])
      refine abr.split (fun h8 => ?_) (fun h8 => ?_)
      · have q9 : (90 < byteAt s 0) := by first | exact h8 | omega | (simpa using h8) | (simp at h8 ⊢; omega) | simp_all
        have z10 : ((90 : Int) < ((byteAt s 0 : Nat) : Int)) := by first | omega | simp_all
        rw [if_pos q9] at hF
        cases hF
        simp -dsimp [h2, h5, q6, z7, h8, z10]
        repeat (refine chk.go (by first | omega | assumption | (simp_all; done) | (simp_all; omega)) ?_; try simp -dsimp [h2, h5, q6, z7, h8, z10])
        all_goals (try omega)
      · have q9 : ¬ (90 < byteAt s 0) := by first | exact h8 | omega | (simpa using h8) | (simp at h8 ⊢; omega) | simp_all
        have z10 : ¬ ((90 : Int) < ((byteAt s 0 : Nat) : Int)) := by first | omega | simp_all
        rw [if_neg q9] at hF
        simp -dsimp [h2, h5, q6, z7, h8, q9, z10]
        repeat (refine chk.go (by first | omega | assumption | (simp_all; done) | (simp_all; omega)) ?_; try simp -dsimp [h2, h5, q6, z7, h8, q9, z10])
        have hF := ob hF; obtain ⟨o', ho22, hF⟩ := hF
        refine ALoop.goU ⟨[(0, .lit (.string s)), (3, .lit (.int .i64 (1 : Int)))], []⟩ (Gh.to (by simp) (by first | (simp -dsimp; done) | (simp -dsimp [h2, h5, q6, z7, h8, q9, z10]; done) | simp_all) (by first | (simp -dsimp; done) | (simp -dsimp [h2, h5, q6, z7, h8, q9, z10]; done) | simp_all) (by first | (simp -dsimp; done) | (simp -dsimp [h2, h5, q6, z7, h8, q9, z10]; done) | simp_all)) ?_
        refine (C.impl_NameValid_l1 B hB1 hB2 s 1 o' ho22) _ rfl _ ?_
        rcases o' with r0 | s23
        · dsimp only at hF
          cases hF
          intro st h
          simpa using h
        · dsimp only at hF
          cases hF
          simp -dsimp
          repeat (refine chk.go (by first | omega | assumption | (simp_all; done) | (simp_all; omega)) ?_; try simp -dsimp)
          all_goals (try omega)
    · have q6 : (byteAt s 0 < 65) := by first | exact h5 | omega | (simpa using h5) | (simp at h5 ⊢; omega) | simp_all
      have z7 : (((byteAt s 0 : Nat) : Int) < (65 : Int)) := by first | omega | simp_all
      rw [if_pos q6] at hF
      cases hF
      simp -dsimp [h2, h5, q6, z7]
      repeat (refine chk.go (by first | omega | assumption | (simp_all; done) | (simp_all; omega)) ?_; try simp -dsimp [h2, h5, q6, z7])
      all_goals (try omega)
  · have q3 : ¬ (v = true) := by first | exact h2 | omega | (simpa using h2) | (simp at h2 ⊢; omega) | simp_all
    rw [if_neg q3] at hF
    cases hF
    simp -dsimp [h2, q3]
    repeat (refine chk.go (by first | omega | assumption | (simp_all; done) | (simp_all; omega)) ?_; try simp -dsimp [h2, q3])
    all_goals (try omega)

set_option maxRecDepth 100000 in
set_option maxHeartbeats 400000 in
theorem C.impl_argOk (B : Nat) (hB1 : 67108864 ≤ B) (hB2 : B ≤ 9223372036854775807) (w : List Vl.Data) (t : Vl.Ty) (r : Bool) (hF : F.impl_argOk w t = some r) : PureCall Try.prog B 202 [.arr (List.map Vl.Data.c w), .agg [.lit (.int .i64 t.data), .lit (.int .i64 t.index)]] (.lit (.bool r)) := by
  unfold F.impl_argOk at hF
  refine PureCall.enterLe Try.func202 (by kernel_rfl) rfl Try.ntmps202 (by simp) (by simp) ?_
  simp -dsimp
  repeat (refine chk.go (by first | omega | assumption | (simp_all; done) | (simp_all; omega)) ?_; try simp -dsimp)
  refine abr.split (fun h1 => ?_) (fun h1 => ?_)
  · have q2 : ¬ (dec (eq2 (t.data, t.index) ((-1), 0)) = true) := by first | exact h1 | omega | (simpa using h1) | (simp at h1 ⊢; omega) | simp_all
    rw [if_neg q2] at hF
    simp -dsimp [h1, q2]
    repeat (refine chk.go (by first | omega | assumption | (simp_all; done) | (simp_all; omega)) ?_; try simp -dsimp [h1, q2])
    have hF := ob hF; obtain ⟨v, e3, hF⟩ := hF
    refine ((C.impl_within B hB1 hB2 t.data (0 : Int) (IntKind.i64.wrap ((w.length : Int) - 1)) v e3)).goW (by first | (simp; done) | (simp [h1, q2]; done) | simp_all) (by simp) ?_
    simp -dsimp [h1, q2]
    repeat (refine chk.go (by first | omega | assumption | (simp_all; done) | (simp_all; omega)) ?_; try simp -dsimp [h1, q2])
    refine abr.split (fun h4 => ?_) (fun h4 => ?_)
    · have q5 : (v = true) := by first | exact h4 | omega | (simpa using h4) | (simp at h4 ⊢; omega) | simp_all
      rw [if_pos q5] at hF
      simp -dsimp [h1, q2, h4]
      repeat (refine chk.go (by first | omega | assumption | (simp_all; done) | (simp_all; omega)) ?_; try simp -dsimp [h1, q2, h4])
      have hF := ob hF; obtain ⟨v6, e7, hF⟩ := hF
      refine ((C.impl_within B hB1 hB2 t.index (-1 : Int) (3 : Int) v6 e7)).goW (by first | (simp; done) | (simp [h1, q2, h4]; done) | simp_all) (by simp) ?_
      cases hF
      simp -dsimp [h1, q2, h4]
      repeat (refine chk.go (by first | omega | assumption | (simp_all; done) | (simp_all; omega)) ?_; try simp -dsimp [h1, q2, h4])
      all_goals (try omega)
    · have q5 : ¬ (v = true) := by first | exact h4 | omega | (simpa using h4) | (simp at h4 ⊢; omega) | simp_all
      rw [if_neg q5] at hF
      cases hF
      simp -dsimp [h1, q2, h4, q5]
      repeat (refine chk.go (by first | omega | assumption | (simp_all; done) | (simp_all; omega)) ?_; try simp -dsimp [h1, q2, h4, q5])
      all_goals (try omega)
  · have q2 : (dec (eq2 (t.data, t.index) ((-1), 0)) = true) := by first | exact h1 | omega | (simpa using h1) | (simp at h1 ⊢; omega) | simp_all
    rw [if_pos q2] at hF
    cases hF
    simp -dsimp [h1, q2]
    repeat (refine chk.go (by first | omega | assumption | (simp_all; done) | (simp_all; omega)) ?_; try simp -dsimp [h1, q2])
    all_goals (try omega)

set_option maxRecDepth 100000 in
set_option maxHeartbeats 400000 in
theorem C.impl_ctorOk_1 (B : Nat) (hB1 : 67108864 ≤ B) (hB2 : B ≤ 9223372036854775807) (t : Vl.Ty) (a1 : List Vl.Data) (r : Bool) (hF : F.impl_ctorOk_1 t a1 = some r) : PureCall Try.prog B 201 [.agg [.lit (.int .i64 t.data), .lit (.int .i64 t.index)], .rptr [.arr (List.map Vl.Data.c a1)] 0] (.lit (.bool r)) := by
  unfold F.impl_ctorOk_1 at hF
  refine PureCall.enterLe Try.func201 (by kernel_rfl) rfl Try.ntmps201 (by simp) (by simp) ?_
  simp -dsimp
  repeat (refine chk.go (by first | omega | assumption | (simp_all; done) | (simp_all; omega)) ?_; try simp -dsimp)
  have hF := ob hF; obtain ⟨v, e1, hF⟩ := hF
  refine ((C.impl_argOk B hB1 hB2 a1 t v e1)).goW (by simp) (by simp) ?_
  cases hF
  simp -dsimp
  repeat (refine chk.go (by first | omega | assumption | (simp_all; done) | (simp_all; omega)) ?_; try simp -dsimp)
  all_goals (try omega)

set_option maxRecDepth 100000 in
set_option maxHeartbeats 400000 in
theorem CC.slices_IndexFunc_Type__impl_ctorOk_1_l1 (B : Nat) (hB1 : 67108864 ≤ B) (hB2 : B ≤ 9223372036854775807) (s : List Vl.Ty) (k0 : List Vl.Data) : (∀ (i : Nat) (o : Lo Int Unit), F.slices_IndexFunc_Type__impl_ctorOk_1_l1 s k0 i = some o → ∀ (c : Code), navO [1, 0, 1, 0, 0] (bodyOf Try.f219) = some c → ∀ (Q : Exit → ASt → Prop), o.post (fun r => ∀ st, Post Try.prog Try.f219 (fun r' _ => r'.le (.lit (.int .i64 r))) .ret st → Q .ret st) (fun s => Q (.exit 0) ⟨[], []⟩) → ALoopU Try.prog B 0 19 (hold c .mk) ⟨[(0, .arr (List.map Vl.Ty.c s)), (1, .fn (.func 201) [] [.rptr [.arr (List.map Vl.Data.c k0)] 0]), (7, .lit (.int .i64 (s.length : Int))), (8, .lit (.int .i64 (i : Int)))], []⟩ (hold Q .mk)) := by
  refine F.slices_IndexFunc_Type__impl_ctorOk_1_l1.partial_correctness s k0
    (fun i o => ∀ (c : Code), navO [1, 0, 1, 0, 0] (bodyOf Try.f219) = some c → ∀ (Q : Exit → ASt → Prop), o.post (fun r => ∀ st, Post Try.prog Try.f219 (fun r' _ => r'.le (.lit (.int .i64 r))) .ret st → Q .ret st) (fun s => Q (.exit 0) ⟨[], []⟩) → ALoopU Try.prog B 0 19 (hold c .mk) ⟨[(0, .arr (List.map Vl.Ty.c s)), (1, .fn (.func 201) [] [.rptr [.arr (List.map Vl.Data.c k0)] 0]), (7, .lit (.int .i64 (s.length : Int))), (8, .lit (.int .i64 (i : Int)))], []⟩ (hold Q .mk))
    ?_
  · intro _f_slices_IndexFunc_Type__impl_ctorOk_1_l1 ih_slices_IndexFunc_Type__impl_ctorOk_1_l1 i o hF
    intro c hc Q hq
    obtain rfl : c = _ := navEq hc rfl
    refine ALoopU.know fun hk hs => ?_
    have b0 := hk 0
    simp -dsimp at b0
    clear hk hs
    refine ALoopU.enter ?_
    simp -dsimp
    repeat (refine chk.go (by first | omega | assumption | (simp_all; done) | (simp_all; omega)) ?_; try simp -dsimp)
    refine abr.split (fun h1 => ?_) (fun h1 => ?_)
    · have q2 : (i < s.length) := by first | exact h1 | omega | (simpa using h1) | (simp at h1 ⊢; omega) | simp_all
      have z3 : ((i : Int) < (s.length : Int)) := by first | omega | simp_all
      rw [if_pos q2] at hF
      have hF := ob hF; obtain ⟨x, e4, hF⟩ := hF
      have le4 := lt_of_get e4
      simp -dsimp [h1, z3, ↓e4]
      repeat (refine chk.go (by first | omega | assumption | (simp_all; done) | (simp_all; omega)) ?_; try simp -dsimp [h1, z3, ↓e4])
      have hF := ob hF; obtain ⟨v, e5, hF⟩ := hF
      refine ((C.impl_ctorOk_1 B hB1 hB2 x k0 v e5)).goW (by first | (simp; done) | (simp [h1, z3, ↓e4]; done) | simp_all) (by simp) ?_
      simp -dsimp [h1, z3, ↓e4]
      repeat (refine chk.go (by first | omega | assumption | (simp_all; done) | (simp_all; omega)) ?_; try simp -dsimp [h1, z3, ↓e4])
      refine abr.split (fun h6 => ?_) (fun h6 => ?_)
      · have q7 : (v = true) := by first | exact h6 | omega | (simpa using h6) | (simp at h6 ⊢; omega) | simp_all
        rw [if_pos q7] at hF
        cases hF
        simp -dsimp [h1, z3, ↓e4, h6]
        repeat (refine chk.go (by first | omega | assumption | (simp_all; done) | (simp_all; omega)) ?_; try simp -dsimp [h1, z3, ↓e4, h6])
        refine Leave.go _ (Gh.refl _) (hq _ ?_)
        simp -dsimp [h1, z3, ↓e4, h6]
        repeat (refine chk.go (by first | omega | assumption | (simp_all; done) | (simp_all; omega)) ?_; try simp -dsimp [h1, z3, ↓e4, h6])
      · have q7 : ¬ (v = true) := by first | exact h6 | omega | (simpa using h6) | (simp at h6 ⊢; omega) | simp_all
        rw [if_neg q7] at hF
        have w8 : IntKind.i64.wrap ((i : Int) + 1) = (i : Int) + 1 := wrap_in (by omega) (by omega)
        simp -dsimp [h1, z3, ↓e4, h6, q7, w8]
        repeat (refine chk.go (by first | omega | assumption | (simp_all; done) | (simp_all; omega)) ?_; try simp -dsimp [h1, z3, ↓e4, h6, q7, w8])
        refine Again.go ⟨[(0, .arr (List.map Vl.Ty.c s)), (1, .fn (.func 201) [] [.rptr [.arr (List.map Vl.Data.c k0)] 0]), (7, .lit (.int .i64 (s.length : Int))), (8, .lit (.int .i64 ((i + 1) : Int)))], []⟩ (Gh.to (by simp) (by first | (simp -dsimp; done) | (simp -dsimp [h1, z3, ↓e4, h6, q7, w8]; done) | simp_all) (by first | (simp -dsimp; done) | (simp -dsimp [h1, z3, ↓e4, h6, q7, w8]; done) | simp_all) (by first | (simp -dsimp; done) | (simp -dsimp [h1, z3, ↓e4, h6, q7, w8]; done) | simp_all)) ?_
        exact (ih_slices_IndexFunc_Type__impl_ctorOk_1_l1 (i + 1) o hF) _ rfl _ hq
    · have q2 : ¬ (i < s.length) := by first | exact h1 | omega | (simpa using h1) | (simp at h1 ⊢; omega) | simp_all
      have z3 : ¬ ((i : Int) < (s.length : Int)) := by first | omega | simp_all
      rw [if_neg q2] at hF
      cases hF
      simp -dsimp [h1, q2, z3]
      repeat (refine chk.go (by first | omega | assumption | (simp_all; done) | (simp_all; omega)) ?_; try simp -dsimp [h1, q2, z3])
      refine Leave.go ⟨[], []⟩ (Gh.to (by simp) (by first | (simp -dsimp; done) | (simp -dsimp [h1, q2, z3]; done) | simp_all) (by first | (simp -dsimp; done) | (simp -dsimp [h1, q2, z3]; done) | simp_all) (by first | (simp -dsimp; done) | (simp -dsimp [h1, q2, z3]; done) | simp_all)) ?_
      exact hq

theorem C.slices_IndexFunc_Type__impl_ctorOk_1_l1 (B : Nat) (hB1 : 67108864 ≤ B) (hB2 : B ≤ 9223372036854775807) (s : List Vl.Ty) (k0 : List Vl.Data) (i : Nat) (o : Lo Int Unit) (hF : F.slices_IndexFunc_Type__impl_ctorOk_1_l1 s k0 i = some o) : ∀ (c : Code), navO [1, 0, 1, 0, 0] (bodyOf Try.f219) = some c → ∀ (Q : Exit → ASt → Prop), o.post (fun r => ∀ st, Post Try.prog Try.f219 (fun r' _ => r'.le (.lit (.int .i64 r))) .ret st → Q .ret st) (fun s => Q (.exit 0) ⟨[], []⟩) → ALoopU Try.prog B 0 19 (hold c .mk) ⟨[(0, .arr (List.map Vl.Ty.c s)), (1, .fn (.func 201) [] [.rptr [.arr (List.map Vl.Data.c k0)] 0]), (7, .lit (.int .i64 (s.length : Int))), (8, .lit (.int .i64 (i : Int)))], []⟩ (hold Q .mk) :=
  (CC.slices_IndexFunc_Type__impl_ctorOk_1_l1 B hB1 hB2 s k0) i o hF

set_option maxRecDepth 100000 in
set_option maxHeartbeats 400000 in
theorem C.slices_IndexFunc_Type__impl_ctorOk_1 (B : Nat) (hB1 : 67108864 ≤ B) (hB2 : B ≤ 9223372036854775807) (s : List Vl.Ty) (k0 : List Vl.Data) (r : Int) (hF : F.slices_IndexFunc_Type__impl_ctorOk_1 s k0 = some r) : PureCall Try.prog B 219 [.arr (List.map Vl.Ty.c s), .fn (.func 201) [] [.rptr [.arr (List.map Vl.Data.c k0)] 0]] (.lit (.int .i64 r)) := by
  unfold F.slices_IndexFunc_Type__impl_ctorOk_1 at hF
  refine PureCall.enterLe Try.func219 (by kernel_rfl) rfl Try.ntmps219 (by simp) (by simp) ?_
  simp -dsimp
  repeat (refine chk.go (by first | omega | assumption | (simp_all; done) | (simp_all; omega)) ?_; try simp -dsimp)
  have hF := ob hF; obtain ⟨o', ho9, hF⟩ := hF
  refine ALoop.goU ⟨[(0, .arr (List.map Vl.Ty.c s)), (1, .fn (.func 201) [] [.rptr [.arr (List.map Vl.Data.c k0)] 0]), (7, .lit (.int .i64 (s.length : Int))), (8, .lit (.int .i64 (0 : Int)))], []⟩ (Gh.to (by simp) (by simp -dsimp) (by simp -dsimp) (by simp -dsimp)) ?_
  refine (C.slices_IndexFunc_Type__impl_ctorOk_1_l1 B hB1 hB2 s k0 0 o' ho9) _ rfl _ ?_
  rcases o' with r0 | s10
  · dsimp only at hF
    cases hF
    intro st h
    simpa using h
  · dsimp only at hF
    cases hF
    simp -dsimp
    repeat (refine chk.go (by first | omega | assumption | (simp_all; done) | (simp_all; omega)) ?_; try simp -dsimp)
    all_goals (try omega)

set_option maxRecDepth 100000 in
set_option maxHeartbeats 400000 in
theorem C.slices_ContainsFunc_Type__impl_ctorOk_1 (B : Nat) (hB1 : 67108864 ≤ B) (hB2 : B ≤ 9223372036854775807) (s : List Vl.Ty) (k0 : List Vl.Data) (r : Bool) (hF : F.slices_ContainsFunc_Type__impl_ctorOk_1 s k0 = some r) : PureCall Try.prog B 200 [.arr (List.map Vl.Ty.c s), .fn (.func 201) [] [.rptr [.arr (List.map Vl.Data.c k0)] 0]] (.lit (.bool r)) := by
  unfold F.slices_ContainsFunc_Type__impl_ctorOk_1 at hF
  refine PureCall.enterLe Try.func200 (by kernel_rfl) rfl Try.ntmps200 (by simp) (by simp) ?_
  simp -dsimp
  repeat (refine chk.go (by first | omega | assumption | (simp_all; done) | (simp_all; omega)) ?_; try simp -dsimp)
  have hF := ob hF; obtain ⟨v, e1, hF⟩ := hF
  refine ((C.slices_IndexFunc_Type__impl_ctorOk_1 B hB1 hB2 s k0 v e1)).goW (by simp) (by simp) ?_
  cases hF
  simp -dsimp
  repeat (refine chk.go (by first | omega | assumption | (simp_all; done) | (simp_all; omega)) ?_; try simp -dsimp)
  all_goals (try omega)

set_option maxRecDepth 100000 in
set_option maxHeartbeats 400000 in
theorem C.impl_ctorOk (B : Nat) (hB1 : 67108864 ≤ B) (hB2 : B ≤ 9223372036854775807) (w : List Vl.Data) (c' : Vl.Ctor) (r : Bool) (hF : F.impl_ctorOk w c' = some r) : PureCall Try.prog B 162 [.arr (List.map Vl.Data.c w), .agg [.lit (.string c'.name), .arr (List.map Vl.Ty.c c'.args), .lit (.int .i64 c'.index)]] (.lit (.bool r)) := by
  unfold F.impl_ctorOk at hF
  refine PureCall.enterLe Try.func162 (by kernel_rfl) rfl Try.ntmps162 (by simp) (by simp) ?_
  simp -dsimp
  repeat (refine chk.go (by first | omega | assumption | (simp_all; done) | (simp_all; omega)) ?_; try simp -dsimp)
  have hF := ob hF; obtain ⟨v, e1, hF⟩ := hF
  refine ((C.impl_NameValid B hB1 hB2 c'.name v e1)).goW (by simp) (by simp) ?_
  simp -dsimp
  repeat (refine chk.go (by first | omega | assumption | (simp_all; done) | (simp_all; omega)) ?_; try simp -dsimp)
  refine abr.split (fun h2 => ?_) (fun h2 => ?_)
  · have q3 : (v = true) := by first | exact h2 | omega | (simpa using h2) | (simp at h2 ⊢; omega) | simp_all
    rw [if_pos q3] at hF
    simp -dsimp [h2]
    repeat (refine chk.go (by first | omega | assumption | (simp_all; done) | (simp_all; omega)) ?_; try simp -dsimp [h2])
    refine abr.split (fun h4 => ?_) (fun h4 => ?_)
    · have q5 : (c'.args.length ≤ 3) := by first | exact h4 | omega | (simpa using h4) | (simp at h4 ⊢; omega) | simp_all
      have z6 : ((c'.args.length : Int) ≤ (3 : Int)) := by first | omega | simp_all
      rw [if_pos q5] at hF
      simp -dsimp [h2, h4, z6]
      repeat (refine chk.go (by first | omega | assumption | (simp_all; done) | (simp_all; omega)) ?_; try simp -dsimp [h2, h4, z6])
      have hF := ob hF; obtain ⟨v7, e8, hF⟩ := hF
      refine ((C.impl_within B hB1 hB2 c'.index (0 : Int) (3 : Int) v7 e8)).goW (by first | (simp; done) | (simp [h2, h4, z6]; done) | simp_all) (by simp) ?_
      simp -dsimp [h2, h4, z6]
      repeat (refine chk.go (by first | omega | assumption | (simp_all; done) | (simp_all; omega)) ?_; try simp -dsimp [h2, h4, z6])
      refine abr.split (fun h9 => ?_) (fun h9 => ?_)
      · have q10 : (v7 = true) := by first | exact h9 | omega | (simpa using h9) | (simp at h9 ⊢; omega) | simp_all
        rw [if_pos q10] at hF
        simp -dsimp [h2, h4, z6, h9]
        repeat (refine chk.go (by first | omega | assumption | (simp_all; done) | (simp_all; omega)) ?_; try simp -dsimp [h2, h4, z6, h9])
        have hF := ob hF; obtain ⟨v11, e12, hF⟩ := hF
        refine ((C.slices_ContainsFunc_Type__impl_ctorOk_1 B hB1 hB2 c'.args w v11 e12)).lend (by first | (simp -dsimp; done) | (simp -dsimp [h2, h4, z6, h9]; done) | simp_all) (by simp -dsimp) ?_
        cases hF
        simp -dsimp [h2, h4, z6, h9]
        repeat (refine chk.go (by first | omega | assumption | (simp_all; done) | (simp_all; omega)) ?_; try simp -dsimp [h2, h4, z6, h9])
        all_goals (try omega)
      · have q10 : ¬ (v7 = true) := by first | exact h9 | omega | (simpa using h9) | (simp at h9 ⊢; omega) | simp_all
        rw [if_neg q10] at hF
        cases hF
        simp -dsimp [h2, h4, z6, h9, q10]
        repeat (refine chk.go (by first | omega | assumption | (simp_all; done) | (simp_all; omega)) ?_; try simp -dsimp [h2, h4, z6, h9, q10])
        all_goals (try omega)
    · have q5 : ¬ (c'.args.length ≤ 3) := by first | exact h4 | omega | (simpa using h4) | (simp at h4 ⊢; omega) | simp_all
      have z6 : ¬ ((c'.args.length : Int) ≤ (3 : Int)) := by first | omega | simp_all
      rw [if_neg q5] at hF
      cases hF
      simp -dsimp [h2, h4, q5, z6]
      repeat (refine chk.go (by first | omega | assumption | (simp_all; done) | (simp_all; omega)) ?_; try simp -dsimp [h2, h4, q5, z6])
      all_goals (try omega)
  · have q3 : ¬ (v = true) := by first | exact h2 | omega | (simpa using h2) | (simp at h2 ⊢; omega) | simp_all
    rw [if_neg q3] at hF
    cases hF
    simp -dsimp [h2, q3]
    repeat (refine chk.go (by first | omega | assumption | (simp_all; done) | (simp_all; omega)) ?_; try simp -dsimp [h2, q3])
    all_goals (try omega)

set_option maxRecDepth 100000 in
set_option maxHeartbeats 400000 in
theorem CC.impl_WorldValid_l2 (B : Nat) (hB1 : 67108864 ≤ B) (hB2 : B ≤ 9223372036854775807) (w : List Vl.Data) (met4 : List ByteArray) (i : Nat) (x : Vl.Data) : (∀ (met26 : List ByteArray) (i27 : Nat) (o : Lo Bool (List ByteArray)), F.impl_WorldValid_l2 w met4 i x met26 i27 = some o → ∀ (b1 b2 : Nat), ¬ b1 = b2 → ∀ (c : Code), navO [1, 1, 1, 1, 0, 1, 0, 0, 1, 1, 0, 0, 1, 1, 1, 1, 0, 0] (bodyOf Try.f119) = some c → ∀ (Q : Exit → ASt → Ms → Prop), o.post (fun r => ∀ st, Post Try.prog Try.f119 (fun r' _ => r' = (.lit (.bool r))) .ret st → ∀ ms, Q .ret st ms) (fun s => Q (.exit 2) ⟨[(0, .arr (List.map Vl.Data.c w)), (3, .lit (.map (some b1))), (4, .lit (.map (some b2))), (14, .arr (List.map Vl.Data.c w)), (15, .lit (.int .i64 (w.length : Int))), (16, .lit (.int .i64 (i : Int)))], []⟩ [(b1, s), (b2, msIns met4 x.name)]) → MLoop Try.prog B 79 (hold c .mk) ⟨[(0, .arr (List.map Vl.Data.c w)), (3, .lit (.map (some b1))), (4, .lit (.map (some b2))), (14, .arr (List.map Vl.Data.c w)), (15, .lit (.int .i64 (w.length : Int))), (16, .lit (.int .i64 (i : Int))), (58, .arr (List.map Vl.Ctor.c x.ctors)), (59, .lit (.int .i64 (x.ctors.length : Int))), (60, .lit (.int .i64 (i27 : Int)))], []⟩ [(b1, met26), (b2, msIns met4 x.name)] (hold Q .mk)) := by
  refine F.impl_WorldValid_l2.partial_correctness w met4 i x
    (fun met26 i27 o => ∀ (b1 b2 : Nat), ¬ b1 = b2 → ∀ (c : Code), navO [1, 1, 1, 1, 0, 1, 0, 0, 1, 1, 0, 0, 1, 1, 1, 1, 0, 0] (bodyOf Try.f119) = some c → ∀ (Q : Exit → ASt → Ms → Prop), o.post (fun r => ∀ st, Post Try.prog Try.f119 (fun r' _ => r' = (.lit (.bool r))) .ret st → ∀ ms, Q .ret st ms) (fun s => Q (.exit 2) ⟨[(0, .arr (List.map Vl.Data.c w)), (3, .lit (.map (some b1))), (4, .lit (.map (some b2))), (14, .arr (List.map Vl.Data.c w)), (15, .lit (.int .i64 (w.length : Int))), (16, .lit (.int .i64 (i : Int)))], []⟩ [(b1, s), (b2, msIns met4 x.name)]) → MLoop Try.prog B 79 (hold c .mk) ⟨[(0, .arr (List.map Vl.Data.c w)), (3, .lit (.map (some b1))), (4, .lit (.map (some b2))), (14, .arr (List.map Vl.Data.c w)), (15, .lit (.int .i64 (w.length : Int))), (16, .lit (.int .i64 (i : Int))), (58, .arr (List.map Vl.Ctor.c x.ctors)), (59, .lit (.int .i64 (x.ctors.length : Int))), (60, .lit (.int .i64 (i27 : Int)))], []⟩ [(b1, met26), (b2, msIns met4 x.name)] (hold Q .mk))
    ?_
  · intro _f_impl_WorldValid_l2 ih_impl_WorldValid_l2 met26 i27 o hF
    intro b1 b2 hb2 c hc Q hq
    obtain rfl : c = _ := navEq hc rfl
    refine MLoop.know fun hk hs => ?_
    have b0 := hk 0
    simp -dsimp at b0
    have b14 := hk 14
    simp -dsimp at b14
    have b58 := hk 58
    simp -dsimp at b58
    clear hk hs
    refine MLoop.enter ?_
    simp -dsimp [hb2]
    repeat (refine chk.go (by first | omega | assumption | (simp_all; done) | (simp_all; omega)) ?_; try simp -dsimp [hb2])
    refine abr.split (fun h28 => ?_) (fun h28 => ?_)
    · have q29 : (i27 < x.ctors.length) := by first | exact h28 | omega | (simpa using h28) | (simp at h28 ⊢; omega) | simp_all
      have z30 : ((i27 : Int) < (x.ctors.length : Int)) := by first | omega | simp_all
      rw [if_pos q29] at hF
      have hF := ob hF; obtain ⟨x31, e32, hF⟩ := hF
      have le32 := lt_of_get e32
      simp -dsimp [hb2, h28, z30, ↓e32]
      repeat (refine chk.go (by first | omega | assumption | (simp_all; done) | (simp_all; omega)) ?_; try simp -dsimp [hb2, h28, z30, ↓e32])
      have hF := ob hF; obtain ⟨v33, e34, hF⟩ := hF
      refine ((C.impl_ctorOk B hB1 hB2 w x31 v33 e34)).goW (by first | (simp; done) | (simp [hb2, h28, z30, ↓e32]; done) | simp_all) (by simp) ?_
      simp -dsimp [hb2, h28, z30, ↓e32]
      repeat (refine chk.go (by first | omega | assumption | (simp_all; done) | (simp_all; omega)) ?_; try simp -dsimp [hb2, h28, z30, ↓e32])
      refine abr.split (fun h35 => ?_) (fun h35 => ?_)
      · have q36 : (v33 = true) := by first | exact h35 | omega | (simpa using h35) | (simp at h35 ⊢; omega) | simp_all
        rw [if_pos q36] at hF
        simp -dsimp [hb2, h28, z30, ↓e32, h35]
        repeat (refine chk.go (by first | omega | assumption | (simp_all; done) | (simp_all; omega)) ?_; try simp -dsimp [hb2, h28, z30, ↓e32, h35])
        refine abr.split (fun h37 => ?_) (fun h37 => ?_)
        · have q38 : (dec (x31.name ∈ met26) = true) := by first | exact h37 | omega | (simpa using h37) | (simp at h37 ⊢; omega) | simp_all
          rw [if_pos q38] at hF
          cases hF
          simp -dsimp [hb2, h28, z30, ↓e32, h35, h37]
          repeat (refine chk.go (by first | omega | assumption | (simp_all; done) | (simp_all; omega)) ?_; try simp -dsimp [hb2, h28, z30, ↓e32, h35, h37])
          refine LeaveM.go _ (Gh.refl _) (hq _ ?_ _)
          simp -dsimp [hb2, h28, z30, ↓e32, h35, h37]
          repeat (refine chk.go (by first | omega | assumption | (simp_all; done) | (simp_all; omega)) ?_; try simp -dsimp [hb2, h28, z30, ↓e32, h35, h37])
        · have q38 : ¬ (dec (x31.name ∈ met26) = true) := by first | exact h37 | omega | (simpa using h37) | (simp at h37 ⊢; omega) | simp_all
          rw [if_neg q38] at hF
          have w39 : IntKind.i64.wrap ((i27 : Int) + 1) = (i27 : Int) + 1 := wrap_in (by omega) (by omega)
          simp -dsimp [hb2, h28, z30, ↓e32, h35, h37, q38, w39]
          repeat (refine chk.go (by first | omega | assumption | (simp_all; done) | (simp_all; omega)) ?_; try simp -dsimp [hb2, h28, z30, ↓e32, h35, h37, q38, w39])
          refine AgainM.go ⟨[(0, .arr (List.map Vl.Data.c w)), (3, .lit (.map (some b1))), (4, .lit (.map (some b2))), (14, .arr (List.map Vl.Data.c w)), (15, .lit (.int .i64 (w.length : Int))), (16, .lit (.int .i64 (i : Int))), (58, .arr (List.map Vl.Ctor.c x.ctors)), (59, .lit (.int .i64 (x.ctors.length : Int))), (60, .lit (.int .i64 ((i27 + 1) : Int)))], []⟩ (Gh.to (by simp) (by first | (simp -dsimp; done) | (simp -dsimp [hb2, h28, z30, ↓e32, h35, h37, q38, w39]; done) | simp_all) (by first | (simp -dsimp; done) | (simp -dsimp [hb2, h28, z30, ↓e32, h35, h37, q38, w39]; done) | simp_all) (by first | (simp -dsimp; done) | (simp -dsimp [hb2, h28, z30, ↓e32, h35, h37, q38, w39]; done) | simp_all)) ?_
          exact (ih_impl_WorldValid_l2 (msIns met26 x31.name) (i27 + 1) o hF) b1 b2 hb2 _ rfl _ hq
      · have q36 : ¬ (v33 = true) := by first | exact h35 | omega | (simpa using h35) | (simp at h35 ⊢; omega) | simp_all
        rw [if_neg q36] at hF
        cases hF
        simp -dsimp [hb2, h28, z30, ↓e32, h35, q36]
        repeat (refine chk.go (by first | omega | assumption | (simp_all; done) | (simp_all; omega)) ?_; try simp -dsimp [hb2, h28, z30, ↓e32, h35, q36])
        refine LeaveM.go _ (Gh.refl _) (hq _ ?_ _)
        simp -dsimp [hb2, h28, z30, ↓e32, h35, q36]
        repeat (refine chk.go (by first | omega | assumption | (simp_all; done) | (simp_all; omega)) ?_; try simp -dsimp [hb2, h28, z30, ↓e32, h35, q36])
    · have q29 : ¬ (i27 < x.ctors.length) := by first | exact h28 | omega | (simpa using h28) | (simp at h28 ⊢; omega) | simp_all
      have z30 : ¬ ((i27 : Int) < (x.ctors.length : Int)) := by first | omega | simp_all
      rw [if_neg q29] at hF
      cases hF
      simp -dsimp [hb2, h28, q29, z30]
      repeat (refine chk.go (by first | omega | assumption | (simp_all; done) | (simp_all; omega)) ?_; try simp -dsimp [hb2, h28, q29, z30])
      refine LeaveM.go ⟨[(0, .arr (List.map Vl.Data.c w)), (3, .lit (.map (some b1))), (4, .lit (.map (some b2))), (14, .arr (List.map Vl.Data.c w)), (15, .lit (.int .i64 (w.length : Int))), (16, .lit (.int .i64 (i : Int)))], []⟩ (Gh.to (by simp) (by first | (simp -dsimp; done) | (simp -dsimp [hb2, h28, q29, z30]; done) | simp_all) (by first | (simp -dsimp; done) | (simp -dsimp [hb2, h28, q29, z30]; done) | simp_all) (by first | (simp -dsimp; done) | (simp -dsimp [hb2, h28, q29, z30]; done) | simp_all)) ?_
      exact hq

theorem C.impl_WorldValid_l2 (B : Nat) (hB1 : 67108864 ≤ B) (hB2 : B ≤ 9223372036854775807) (w : List Vl.Data) (met4 : List ByteArray) (i : Nat) (x : Vl.Data) (met26 : List ByteArray) (i27 : Nat) (o : Lo Bool (List ByteArray)) (hF : F.impl_WorldValid_l2 w met4 i x met26 i27 = some o) : ∀ (b1 b2 : Nat), ¬ b1 = b2 → ∀ (c : Code), navO [1, 1, 1, 1, 0, 1, 0, 0, 1, 1, 0, 0, 1, 1, 1, 1, 0, 0] (bodyOf Try.f119) = some c → ∀ (Q : Exit → ASt → Ms → Prop), o.post (fun r => ∀ st, Post Try.prog Try.f119 (fun r' _ => r' = (.lit (.bool r))) .ret st → ∀ ms, Q .ret st ms) (fun s => Q (.exit 2) ⟨[(0, .arr (List.map Vl.Data.c w)), (3, .lit (.map (some b1))), (4, .lit (.map (some b2))), (14, .arr (List.map Vl.Data.c w)), (15, .lit (.int .i64 (w.length : Int))), (16, .lit (.int .i64 (i : Int)))], []⟩ [(b1, s), (b2, msIns met4 x.name)]) → MLoop Try.prog B 79 (hold c .mk) ⟨[(0, .arr (List.map Vl.Data.c w)), (3, .lit (.map (some b1))), (4, .lit (.map (some b2))), (14, .arr (List.map Vl.Data.c w)), (15, .lit (.int .i64 (w.length : Int))), (16, .lit (.int .i64 (i : Int))), (58, .arr (List.map Vl.Ctor.c x.ctors)), (59, .lit (.int .i64 (x.ctors.length : Int))), (60, .lit (.int .i64 (i27 : Int)))], []⟩ [(b1, met26), (b2, msIns met4 x.name)] (hold Q .mk) :=
  (CC.impl_WorldValid_l2 B hB1 hB2 w met4 i x) met26 i27 o hF

set_option maxRecDepth 100000 in
set_option maxHeartbeats 400000 in
theorem CC.impl_WorldValid_l1 (B : Nat) (hB1 : 67108864 ≤ B) (hB2 : B ≤ 9223372036854775807) (w : List Vl.Data) : (∀ (met : List ByteArray) (met4 : List ByteArray) (i : Nat) (o : Lo Bool ((List ByteArray) × (List ByteArray))), F.impl_WorldValid_l1 w met met4 i = some o → ∀ (b1 b2 : Nat), ¬ b1 = b2 → ∀ (c : Code), navO [1, 1, 1, 1, 0, 1, 0, 0] (bodyOf Try.f119) = some c → ∀ (Q : Exit → ASt → Ms → Prop), o.post (fun r => ∀ st, Post Try.prog Try.f119 (fun r' _ => r' = (.lit (.bool r))) .ret st → ∀ ms, Q .ret st ms) (fun s => Q (.exit 0) ⟨[], []⟩ [(b1, s.1), (b2, s.2)]) → MLoop Try.prog B 79 (hold c .mk) ⟨[(0, .arr (List.map Vl.Data.c w)), (3, .lit (.map (some b1))), (4, .lit (.map (some b2))), (14, .arr (List.map Vl.Data.c w)), (15, .lit (.int .i64 (w.length : Int))), (16, .lit (.int .i64 (i : Int)))], []⟩ [(b1, met), (b2, met4)] (hold Q .mk)) := by
  refine F.impl_WorldValid_l1.partial_correctness w
    (fun met met4 i o => ∀ (b1 b2 : Nat), ¬ b1 = b2 → ∀ (c : Code), navO [1, 1, 1, 1, 0, 1, 0, 0] (bodyOf Try.f119) = some c → ∀ (Q : Exit → ASt → Ms → Prop), o.post (fun r => ∀ st, Post Try.prog Try.f119 (fun r' _ => r' = (.lit (.bool r))) .ret st → ∀ ms, Q .ret st ms) (fun s => Q (.exit 0) ⟨[], []⟩ [(b1, s.1), (b2, s.2)]) → MLoop Try.prog B 79 (hold c .mk) ⟨[(0, .arr (List.map Vl.Data.c w)), (3, .lit (.map (some b1))), (4, .lit (.map (some b2))), (14, .arr (List.map Vl.Data.c w)), (15, .lit (.int .i64 (w.length : Int))), (16, .lit (.int .i64 (i : Int)))], []⟩ [(b1, met), (b2, met4)] (hold Q .mk))
    ?_
  · intro _f_impl_WorldValid_l1 ih_impl_WorldValid_l1 met met4 i o hF
    intro b1 b2 hb2 c hc Q hq
    obtain rfl : c = _ := navEq hc rfl
    refine MLoop.know fun hk hs => ?_
    have b0 := hk 0
    simp -dsimp at b0
    have b14 := hk 14
    simp -dsimp at b14
    clear hk hs
    refine MLoop.enter ?_
    simp -dsimp [hb2]
    repeat (refine chk.go (by first | omega | assumption | (simp_all; done) | (simp_all; omega)) ?_; try simp -dsimp [hb2])
    refine abr.split (fun h5 => ?_) (fun h5 => ?_)
    · have q6 : (i < w.length) := by first | exact h5 | omega | (simpa using h5) | (simp at h5 ⊢; omega) | simp_all
      have z7 : ((i : Int) < (w.length : Int)) := by first | omega | simp_all
      rw [if_pos q6] at hF
      have hF := ob hF; obtain ⟨x, e8, hF⟩ := hF
      have le8 := lt_of_get e8
      simp -dsimp [hb2, h5, z7, ↓e8]
      repeat (refine chk.go (by first | omega | assumption | (simp_all; done) | (simp_all; omega)) ?_; try simp -dsimp [hb2, h5, z7, ↓e8])
      refine abr.split (fun h9 => ?_) (fun h9 => ?_)
      · have q10 : (x.name.size = 1) := by first | exact h9 | omega | (simpa using h9) | (simp at h9 ⊢; omega) | simp_all
        have z11 : ((x.name.size : Int) = (1 : Int)) := by first | omega | simp_all
        rw [if_pos q10] at hF
        have hF := oc hF; obtain ⟨c12, hF⟩ := hF
        simp -dsimp [hb2, h5, z7, ↓e8, h9, z11]
        repeat (refine chk.go (by first | omega | assumption | (simp_all; done) | (simp_all; omega)) ?_; try simp -dsimp [hb2, h5, z7, ↓e8, h9, z11])
        refine abr.split (fun h13 => ?_) (fun h13 => ?_)
        · have q14 : ¬ (byteAt x.name 0 < 65) := by first | exact h13 | omega | (simpa using h13) | (simp at h13 ⊢; omega) | simp_all
          have z15 : ¬ (((byteAt x.name 0 : Nat) : Int) < (65 : Int)) := by first | omega | simp_all
          rw [if_neg q14] at hF
          simp -dsimp [hb2, h5, z7, ↓e8, h9, z11, h13, q14, z15]
          repeat (refine chk.go (by first | omega | assumption | (simp_all; done) | (simp_all; omega)) ?_; try simp -dsimp [hb2, h5, z7, ↓e8, h9, z11, h13, q14, z15])
          refine abr.split (fun h16 => ?_) (fun h16 => ?_)
          · have q17 : ¬ (90 < byteAt x.name 0) := by first | exact h16 | omega | (simpa using h16) | (simp at h16 ⊢; omega) | simp_all
            have z18 : ¬ ((90 : Int) < ((byteAt x.name 0 : Nat) : Int)) := by first | omega | simp_all
            rw [if_neg q17] at hF
            simp -dsimp [hb2, h5, z7, ↓e8, h9, z11, h13, q14, z15, h16, q17, z18]
            repeat (refine chk.go (by first | omega | assumption | (simp_all; done) | (simp_all; omega)) ?_; try simp -dsimp [hb2, h5, z7, ↓e8, h9, z11, h13, q14, z15, h16, q17, z18])
            refine abr.split (fun h19 => ?_) (fun h19 => ?_)
            · have q20 : ¬ (x.name.toList = (⟨#[73]⟩ : ByteArray).toList) := by first | exact h19 | omega | (simpa using h19) | (simp at h19 ⊢; omega) | simp_all
              rw [if_neg q20] at hF
              simp -dsimp [hb2, h5, z7, ↓e8, h9, z11, h13, q14, z15, h16, q17, z18, h19, q20]
              repeat (refine chk.go (by first | omega | assumption | (simp_all; done) | (simp_all; omega)) ?_; try simp -dsimp [hb2, h5, z7, ↓e8, h9, z11, h13, q14, z15, h16, q17, z18, h19, q20])
              refine abr.split (fun h21 => ?_) (fun h21 => ?_)
              · have q22 : ¬ (dec (x.name ∈ met4) = true) := by first | exact h21 | omega | (simpa using h21) | (simp at h21 ⊢; omega) | simp_all
                rw [if_neg q22] at hF
                simp -dsimp [hb2, h5, z7, ↓e8, h9, z11, h13, q14, z15, h16, q17, z18, h19, q20, h21, q22]
                repeat (refine chk.go (by first | omega | assumption | (simp_all; done) | (simp_all; omega)) ?_; try simp -dsimp [hb2, h5, z7, ↓e8, h9, z11, h13, q14, z15, h16, q17, z18, h19, q20, h21, q22])
                have hF := ob hF; obtain ⟨v, e23, hF⟩ := hF
                refine ((C.impl_within B hB1 hB2 (x.ctors.length : Int) (1 : Int) (4 : Int) v e23)).goW (by first | (simp; done) | (simp [hb2, h5, z7, ↓e8, h9, z11, h13, q14, z15, h16, q17, z18, h19, q20, h21, q22]; done) | simp_all) (by simp) ?_
                simp -dsimp [hb2, h5, z7, ↓e8, h9, z11, h13, q14, z15, h16, q17, z18, h19, q20, h21, q22]
                repeat (refine chk.go (by first | omega | assumption | (simp_all; done) | (simp_all; omega)) ?_; try simp -dsimp [hb2, h5, z7, ↓e8, h9, z11, h13, q14, z15, h16, q17, z18, h19, q20, h21, q22])
                refine abr.split (fun h24 => ?_) (fun h24 => ?_)
                · have q25 : ¬ (v = true) := by first | exact h24 | omega | (simpa using h24) | (simp at h24 ⊢; omega) | simp_all
                  rw [if_neg q25] at hF
                  cases hF
                  simp -dsimp [hb2, h5, z7, ↓e8, h9, z11, h13, q14, z15, h16, q17, z18, h19, q20, h21, q22, h24, q25]
                  repeat (refine chk.go (by first | omega | assumption | (simp_all; done) | (simp_all; omega)) ?_; try simp -dsimp [hb2, h5, z7, ↓e8, h9, z11, h13, q14, z15, h16, q17, z18, h19, q20, h21, q22, h24, q25])
                  refine LeaveM.go _ (Gh.refl _) (hq _ ?_ _)
                  simp -dsimp [hb2, h5, z7, ↓e8, h9, z11, h13, q14, z15, h16, q17, z18, h19, q20, h21, q22, h24, q25]
                  repeat (refine chk.go (by first | omega | assumption | (simp_all; done) | (simp_all; omega)) ?_; try simp -dsimp [hb2, h5, z7, ↓e8, h9, z11, h13, q14, z15, h16, q17, z18, h19, q20, h21, q22, h24, q25])
                · have q25 : (v = true) := by first | exact h24 | omega | (simpa using h24) | (simp at h24 ⊢; omega) | simp_all
                  rw [if_pos q25] at hF
                  simp -dsimp [hb2, h5, z7, ↓e8, h9, z11, h13, q14, z15, h16, q17, z18, h19, q20, h21, q22, h24, q25]
                  repeat (refine chk.go (by first | omega | assumption | (simp_all; done) | (simp_all; omega)) ?_; try simp -dsimp [hb2, h5, z7, ↓e8, h9, z11, h13, q14, z15, h16, q17, z18, h19, q20, h21, q22, h24, q25])
                  have hF := ob hF; obtain ⟨o', ho40, hF⟩ := hF
                  refine MLoop.goU ⟨[(0, .arr (List.map Vl.Data.c w)), (3, .lit (.map (some b1))), (4, .lit (.map (some b2))), (14, .arr (List.map Vl.Data.c w)), (15, .lit (.int .i64 (w.length : Int))), (16, .lit (.int .i64 (i : Int))), (58, .arr (List.map Vl.Ctor.c x.ctors)), (59, .lit (.int .i64 (x.ctors.length : Int))), (60, .lit (.int .i64 (0 : Int)))], []⟩ (Gh.to (by simp) (by first | (simp -dsimp; done) | (simp -dsimp [hb2, h5, z7, ↓e8, h9, z11, h13, q14, z15, h16, q17, z18, h19, q20, h21, q22, h24, q25]; done) | simp_all) (by first | (simp -dsimp; done) | (simp -dsimp [hb2, h5, z7, ↓e8, h9, z11, h13, q14, z15, h16, q17, z18, h19, q20, h21, q22, h24, q25]; done) | simp_all) (by first | (simp -dsimp; done) | (simp -dsimp [hb2, h5, z7, ↓e8, h9, z11, h13, q14, z15, h16, q17, z18, h19, q20, h21, q22, h24, q25]; done) | simp_all)) ?_
                  refine (C.impl_WorldValid_l2 B hB1 hB2 w met4 i x met 0 o' ho40) b1 b2 hb2 _ rfl _ ?_
                  rcases o' with r0 | s
                  · dsimp only at hF
                    cases hF
                    intro st h ms
                    simp -dsimp
                    refine LeaveM.go st (Gh.refl _) (hq st h ms)
                  · dsimp only at hF
                    have hF := oc hF; obtain ⟨c41, hF⟩ := hF
                    have w42 : IntKind.i64.wrap ((i : Int) + 1) = (i : Int) + 1 := wrap_in (by omega) (by omega)
                    simp -dsimp [w42]
                    repeat (refine chk.go (by first | omega | assumption | (simp_all; done) | (simp_all; omega)) ?_; try simp -dsimp [w42])
                    refine AgainM.go ⟨[(0, .arr (List.map Vl.Data.c w)), (3, .lit (.map (some b1))), (4, .lit (.map (some b2))), (14, .arr (List.map Vl.Data.c w)), (15, .lit (.int .i64 (w.length : Int))), (16, .lit (.int .i64 ((i + 1) : Int)))], []⟩ (Gh.to (by simp) (by first | (simp -dsimp; done) | (simp -dsimp [w42]; done) | simp_all) (by first | (simp -dsimp; done) | (simp -dsimp [w42]; done) | simp_all) (by first | (simp -dsimp; done) | (simp -dsimp [w42]; done) | simp_all)) ?_
                    exact (ih_impl_WorldValid_l1 s (msIns met4 x.name) (i + 1) o hF) b1 b2 hb2 _ rfl _ hq
              · have q22 : (dec (x.name ∈ met4) = true) := by first | exact h21 | omega | (simpa using h21) | (simp at h21 ⊢; omega) | simp_all
                rw [if_pos q22] at hF
                cases hF
                simp -dsimp [hb2, h5, z7, ↓e8, h9, z11, h13, q14, z15, h16, q17, z18, h19, q20, h21, q22]
                repeat (refine chk.go (by first | omega | assumption | (simp_all; done) | (simp_all; omega)) ?_; try simp -dsimp [hb2, h5, z7, ↓e8, h9, z11, h13, q14, z15, h16, q17, z18, h19, q20, h21, q22])
                refine LeaveM.go _ (Gh.refl _) (hq _ ?_ _)
                simp -dsimp [hb2, h5, z7, ↓e8, h9, z11, h13, q14, z15, h16, q17, z18, h19, q20, h21, q22]
                repeat (refine chk.go (by first | omega | assumption | (simp_all; done) | (simp_all; omega)) ?_; try simp -dsimp [hb2, h5, z7, ↓e8, h9, z11, h13, q14, z15, h16, q17, z18, h19, q20, h21, q22])
            · have q20 : (x.name.toList = (⟨#[73]⟩ : ByteArray).toList) := by first | exact h19 | omega | (simpa using h19) | (simp at h19 ⊢; omega) | simp_all
              rw [if_pos q20] at hF
              cases hF
              simp -dsimp [hb2, h5, z7, ↓e8, h9, z11, h13, q14, z15, h16, q17, z18, h19, q20]
              repeat (refine chk.go (by first | omega | assumption | (simp_all; done) | (simp_all; omega)) ?_; try simp -dsimp [hb2, h5, z7, ↓e8, h9, z11, h13, q14, z15, h16, q17, z18, h19, q20])
              refine LeaveM.go _ (Gh.refl _) (hq _ ?_ _)
              simp -dsimp [hb2, h5, z7, ↓e8, h9, z11, h13, q14, z15, h16, q17, z18, h19, q20]
              repeat (refine chk.go (by first | omega | assumption | (simp_all; done) | (simp_all; omega)) ?_; try simp -dsimp [hb2, h5, z7, ↓e8, h9, z11, h13, q14, z15, h16, q17, z18, h19, q20])
          · have q17 : (90 < byteAt x.name 0) := by first | exact h16 | omega | (simpa using h16) | (simp at h16 ⊢; omega) | simp_all
            have z18 : ((90 : Int) < ((byteAt x.name 0 : Nat) : Int)) := by first | omega | simp_all
            rw [if_pos q17] at hF
            cases hF
            simp -dsimp [hb2, h5, z7, ↓e8, h9, z11, h13, q14, z15, h16, q17, z18]
            repeat (refine chk.go (by first | omega | assumption | (simp_all; done) | (simp_all; omega)) ?_; try simp -dsimp [hb2, h5, z7, ↓e8, h9, z11, h13, q14, z15, h16, q17, z18])
            refine LeaveM.go _ (Gh.refl _) (hq _ ?_ _)
            simp -dsimp [hb2, h5, z7, ↓e8, h9, z11, h13, q14, z15, h16, q17, z18]
            repeat (refine chk.go (by first | omega | assumption | (simp_all; done) | (simp_all; omega)) ?_; try simp -dsimp [hb2, h5, z7, ↓e8, h9, z11, h13, q14, z15, h16, q17, z18])
        · have q14 : (byteAt x.name 0 < 65) := by first | exact h13 | omega | (simpa using h13) | (simp at h13 ⊢; omega) | simp_all
          have z15 : (((byteAt x.name 0 : Nat) : Int) < (65 : Int)) := by first | omega | simp_all
          rw [if_pos q14] at hF
          cases hF
          simp -dsimp [hb2, h5, z7, ↓e8, h9, z11, h13, q14, z15]
          repeat (refine chk.go (by first | omega | assumption | (simp_all; done) | (simp_all; omega)) ?_; try simp -dsimp [hb2, h5, z7, ↓e8, h9, z11, h13, q14, z15])
          refine LeaveM.go _ (Gh.refl _) (hq _ ?_ _)
          simp -dsimp [hb2, h5, z7, ↓e8, h9, z11, h13, q14, z15]
          repeat (refine chk.go (by first | omega | assumption | (simp_all; done) | (simp_all; omega)) ?_; try simp -dsimp [hb2, h5, z7, ↓e8, h9, z11, h13, q14, z15])
      · have q10 : ¬ (x.name.size = 1) := by first | exact h9 | omega | (simpa using h9) | (simp at h9 ⊢; omega) | simp_all
        have z11 : ¬ ((x.name.size : Int) = (1 : Int)) := by first | omega | simp_all
        rw [if_neg q10] at hF
        cases hF
        simp -dsimp [hb2, h5, z7, ↓e8, h9, q10, z11]
        repeat (refine chk.go (by first | omega | assumption | (simp_all; done) | (simp_all; omega)) ?_; try simp -dsimp [hb2, h5, z7, ↓e8, h9, q10, z11])
        refine LeaveM.go _ (Gh.refl _) (hq _ ?_ _)
        simp -dsimp [hb2, h5, z7, ↓e8, h9, q10, z11]
        repeat (refine chk.go (by first | omega | assumption | (simp_all; done) | (simp_all; omega)) ?_; try simp -dsimp [hb2, h5, z7, ↓e8, h9, q10, z11])
    · have q6 : ¬ (i < w.length) := by first | exact h5 | omega | (simpa using h5) | (simp at h5 ⊢; omega) | simp_all
      have z7 : ¬ ((i : Int) < (w.length : Int)) := by first | omega | simp_all
      rw [if_neg q6] at hF
      cases hF
      simp -dsimp [hb2, h5, q6, z7]
      repeat (refine chk.go (by first | omega | assumption | (simp_all; done) | (simp_all; omega)) ?_; try simp -dsimp [hb2, h5, q6, z7])
      refine LeaveM.go ⟨[], []⟩ (Gh.to (by simp) (by first | (simp -dsimp; done) | (simp -dsimp [hb2, h5, q6, z7]; done) | simp_all) (by first | (simp -dsimp; done) | (simp -dsimp [hb2, h5, q6, z7]; done) | simp_all) (by first | (simp -dsimp; done) | (simp -dsimp [hb2, h5, q6, z7]; done) | simp_all)) ?_
      exact hq

theorem C.impl_WorldValid_l1 (B : Nat) (hB1 : 67108864 ≤ B) (hB2 : B ≤ 9223372036854775807) (w : List Vl.Data) (met : List ByteArray) (met4 : List ByteArray) (i : Nat) (o : Lo Bool ((List ByteArray) × (List ByteArray))) (hF : F.impl_WorldValid_l1 w met met4 i = some o) : ∀ (b1 b2 : Nat), ¬ b1 = b2 → ∀ (c : Code), navO [1, 1, 1, 1, 0, 1, 0, 0] (bodyOf Try.f119) = some c → ∀ (Q : Exit → ASt → Ms → Prop), o.post (fun r => ∀ st, Post Try.prog Try.f119 (fun r' _ => r' = (.lit (.bool r))) .ret st → ∀ ms, Q .ret st ms) (fun s => Q (.exit 0) ⟨[], []⟩ [(b1, s.1), (b2, s.2)]) → MLoop Try.prog B 79 (hold c .mk) ⟨[(0, .arr (List.map Vl.Data.c w)), (3, .lit (.map (some b1))), (4, .lit (.map (some b2))), (14, .arr (List.map Vl.Data.c w)), (15, .lit (.int .i64 (w.length : Int))), (16, .lit (.int .i64 (i : Int)))], []⟩ [(b1, met), (b2, met4)] (hold Q .mk) :=
  (CC.impl_WorldValid_l1 B hB1 hB2 w) met met4 i o hF

set_option maxRecDepth 100000 in
set_option maxHeartbeats 400000 in
theorem C.impl_WorldValid (B : Nat) (hB1 : 67108864 ≤ B) (hB2 : B ≤ 9223372036854775807) (w : List Vl.Data) (r : Bool) (hF : F.impl_WorldValid w = some r) : PureCall Try.prog B 119 [.arr (List.map Vl.Data.c w)] (.lit (.bool r)) := by
  unfold F.impl_WorldValid at hF
  refine PureCall.enterM Try.func119 (by kernel_rfl) rfl Try.ntmps119 (by simp) ?_
  simp -dsimp
  repeat (refine chk.go (by first | omega | assumption | (simp_all; done) | (simp_all; omega)) ?_; try simp -dsimp)
  refine abr.split (fun h1 => ?_) (fun h1 => ?_)
  · have q2 : (4 < w.length) := by first | exact h1 | omega | (simpa using h1) | (simp at h1 ⊢; omega) | simp_all
    have z3 : ((4 : Int) < (w.length : Int)) := by first | omega | simp_all
    rw [if_pos q2] at hF
    cases hF
    simp -dsimp [h1, z3]
    repeat (refine chk.go (by first | omega | assumption | (simp_all; done) | (simp_all; omega)) ?_; try simp -dsimp [h1, z3])
    all_goals (try omega)
  · have q2 : ¬ (4 < w.length) := by first | exact h1 | omega | (simpa using h1) | (simp at h1 ⊢; omega) | simp_all
    have z3 : ¬ ((4 : Int) < (w.length : Int)) := by first | omega | simp_all
    rw [if_neg q2] at hF
    simp -dsimp [h1, q2, z3]
    repeat (refine chk.go (by first | omega | assumption | (simp_all; done) | (simp_all; omega)) ?_; try simp -dsimp [h1, q2, z3])
    refine AMake.go fun b1 hb1 => ?_
    simp -dsimp [h1, q2, z3]
    repeat (refine chk.go (by first | omega | assumption | (simp_all; done) | (simp_all; omega)) ?_; try simp -dsimp [h1, q2, z3])
    refine AMake.go fun b2 hb2 => ?_
    simp at hb2
    simp -dsimp [h1, q2, z3, hb2]
    repeat (refine chk.go (by first | omega | assumption | (simp_all; done) | (simp_all; omega)) ?_; try simp -dsimp [h1, q2, z3, hb2])
    have hF := ob hF; obtain ⟨o'44, ho43, hF⟩ := hF
    refine MLoop.goU ⟨[(0, .arr (List.map Vl.Data.c w)), (3, .lit (.map (some b1))), (4, .lit (.map (some b2))), (14, .arr (List.map Vl.Data.c w)), (15, .lit (.int .i64 (w.length : Int))), (16, .lit (.int .i64 (0 : Int)))], []⟩ (Gh.to (by simp) (by first | (simp -dsimp; done) | (simp -dsimp [h1, q2, z3, hb2]; done) | simp_all) (by first | (simp -dsimp; done) | (simp -dsimp [h1, q2, z3, hb2]; done) | simp_all) (by first | (simp -dsimp; done) | (simp -dsimp [h1, q2, z3, hb2]; done) | simp_all)) ?_
    refine (C.impl_WorldValid_l1 B hB1 hB2 w [] [] 0 o'44 ho43) b1 b2 hb2 _ rfl _ ?_
    rcases o'44 with r046 | s45
    · dsimp only at hF
      cases hF
      intro st h ms
      simpa using h
    · dsimp only at hF
      cases hF
      simp -dsimp
      repeat (refine chk.go (by first | omega | assumption | (simp_all; done) | (simp_all; omega)) ?_; try simp -dsimp)
      all_goals (try omega)

set_option maxRecDepth 100000 in
set_option maxHeartbeats 400000 in
theorem C.impl_typeOk (B : Nat) (hB1 : 67108864 ≤ B) (hB2 : B ≤ 9223372036854775807) (w : List Vl.Data) (t : Vl.Ty) (r : Bool) (hF : F.impl_typeOk w t = some r) : PureCall Try.prog B 89 [.arr (List.map Vl.Data.c w), .agg [.lit (.int .i64 t.data), .lit (.int .i64 t.index)]] (.lit (.bool r)) := by
  unfold F.impl_typeOk at hF
  refine PureCall.enterLe Try.func89 (by kernel_rfl) rfl Try.ntmps89 (by simp) (by simp) ?_
  simp -dsimp
  repeat (refine chk.go (by first | omega | assumption | (simp_all; done) | (simp_all; omega)) ?_; try simp -dsimp)
  refine abr.split (fun h1 => ?_) (fun h1 => ?_)
  · have q2 : ¬ (dec (eq2 (t.data, t.index) ((-1), 0)) = true) := by first | exact h1 | omega | (simpa using h1) | (simp at h1 ⊢; omega) | simp_all
    rw [if_neg q2] at hF
    simp -dsimp [h1, q2]
    repeat (refine chk.go (by first | omega | assumption | (simp_all; done) | (simp_all; omega)) ?_; try simp -dsimp [h1, q2])
    have hF := ob hF; obtain ⟨v, e3, hF⟩ := hF
    refine ((C.impl_within B hB1 hB2 t.data (0 : Int) (IntKind.i64.wrap ((w.length : Int) - 1)) v e3)).goW (by first | (simp; done) | (simp [h1, q2]; done) | simp_all) (by simp) ?_
    simp -dsimp [h1, q2]
    repeat (refine chk.go (by first | omega | assumption | (simp_all; done) | (simp_all; omega)) ?_; try simp -dsimp [h1, q2])
    refine abr.split (fun h4 => ?_) (fun h4 => ?_)
    · have q5 : (v = true) := by first | exact h4 | omega | (simpa using h4) | (simp at h4 ⊢; omega) | simp_all
      rw [if_pos q5] at hF
      simp -dsimp [h1, q2, h4]
      repeat (refine chk.go (by first | omega | assumption | (simp_all; done) | (simp_all; omega)) ?_; try simp -dsimp [h1, q2, h4])
      have hF := ob hF; obtain ⟨v6, e7, hF⟩ := hF
      refine ((C.impl_within B hB1 hB2 t.index (0 : Int) (3 : Int) v6 e7)).goW (by first | (simp; done) | (simp [h1, q2, h4]; done) | simp_all) (by simp) ?_
      cases hF
      simp -dsimp [h1, q2, h4]
      repeat (refine chk.go (by first | omega | assumption | (simp_all; done) | (simp_all; omega)) ?_; try simp -dsimp [h1, q2, h4])
      all_goals (try omega)
    · have q5 : ¬ (v = true) := by first | exact h4 | omega | (simpa using h4) | (simp at h4 ⊢; omega) | simp_all
      rw [if_neg q5] at hF
      cases hF
      simp -dsimp [h1, q2, h4, q5]
      repeat (refine chk.go (by first | omega | assumption | (simp_all; done) | (simp_all; omega)) ?_; try simp -dsimp [h1, q2, h4, q5])
      all_goals (try omega)
  · have q2 : (dec (eq2 (t.data, t.index) ((-1), 0)) = true) := by first | exact h1 | omega | (simpa using h1) | (simp at h1 ⊢; omega) | simp_all
    rw [if_pos q2] at hF
    cases hF
    simp -dsimp [h1, q2]
    repeat (refine chk.go (by first | omega | assumption | (simp_all; done) | (simp_all; omega)) ?_; try simp -dsimp [h1, q2])
    all_goals (try omega)

set_option maxRecDepth 100000 in
set_option maxHeartbeats 400000 in
theorem C.impl_TypeValid (B : Nat) (hB1 : 67108864 ≤ B) (hB2 : B ≤ 9223372036854775807) (w : List Vl.Data) (t : Vl.Ty) (r : Bool) (hF : F.impl_TypeValid w t = some r) : PureCall Try.prog B 60 [.arr (List.map Vl.Data.c w), .agg [.lit (.int .i64 t.data), .lit (.int .i64 t.index)]] (.lit (.bool r)) := by
  unfold F.impl_TypeValid at hF
  refine PureCall.enterLe Try.func60 (by kernel_rfl) rfl Try.ntmps60 (by simp) (by simp) ?_
  simp -dsimp
  repeat (refine chk.go (by first | omega | assumption | (simp_all; done) | (simp_all; omega)) ?_; try simp -dsimp)
  have hF := ob hF; obtain ⟨v, e1, hF⟩ := hF
  refine ((C.impl_WorldValid B hB1 hB2 w v e1)).goW (by simp) (by simp) ?_
  simp -dsimp
  repeat (refine chk.go (by first | omega | assumption | (simp_all; done) | (simp_all; omega)) ?_; try simp -dsimp)
  refine abr.split (fun h2 => ?_) (fun h2 => ?_)
  · have q3 : (v = true) := by first | exact h2 | omega | (simpa using h2) | (simp at h2 ⊢; omega) | simp_all
    rw [if_pos q3] at hF
    simp -dsimp [h2]
    repeat (refine chk.go (by first | omega | assumption | (simp_all; done) | (simp_all; omega)) ?_; try simp -dsimp [h2])
    have hF := ob hF; obtain ⟨v4, e5, hF⟩ := hF
    refine ((C.impl_typeOk B hB1 hB2 w t v4 e5)).goW (by first | (simp; done) | (simp [h2]; done) | simp_all) (by simp) ?_
    cases hF
    simp -dsimp [h2]
    repeat (refine chk.go (by first | omega | assumption | (simp_all; done) | (simp_all; omega)) ?_; try simp -dsimp [h2])
    all_goals (try omega)
  · have q3 : ¬ (v = true) := by first | exact h2 | omega | (simpa using h2) | (simp at h2 ⊢; omega) | simp_all
    rw [if_neg q3] at hF
    cases hF
    simp -dsimp [h2, q3]
    repeat (refine chk.go (by first | omega | assumption | (simp_all; done) | (simp_all; omega)) ?_; try simp -dsimp [h2, q3])
    all_goals (try omega)

set_option maxRecDepth 100000 in
set_option maxHeartbeats 400000 in
theorem C.impl_scope_ok_1 (B : Nat) (hB1 : 67108864 ≤ B) (hB2 : B ≤ 9223372036854775807) (f : Vl.FunType) (a1 : Vl.T_impl_scope) (r : Bool) (hF : F.impl_scope_ok_1 f a1 = some r) : PureCall Try.prog B 121 [.agg [.lit (.int .i64 f.arg.data), .lit (.int .i64 f.arg.index), .lit (.int .i64 f.res.data), .lit (.int .i64 f.res.index)], .rptr [.arr (List.map Vl.Data.c a1.f0), .arr (List.map Vl.FunType.c a1.f1), .arr (List.map Vl.VarType.c a1.f2)] 0] (.lit (.bool r)) := by
  unfold F.impl_scope_ok_1 at hF
  refine PureCall.enterLe Try.func121 (by kernel_rfl) rfl Try.ntmps121 (by simp) (by simp) ?_
  simp -dsimp
  repeat (refine chk.go (by first | omega | assumption | (simp_all; done) | (simp_all; omega)) ?_; try simp -dsimp)
  have hF := ob hF; obtain ⟨v, e1, hF⟩ := hF
  refine ((C.impl_typeOk B hB1 hB2 a1.f0 f.arg v e1)).goW (by simp) (by simp) ?_
  simp -dsimp
  repeat (refine chk.go (by first | omega | assumption | (simp_all; done) | (simp_all; omega)) ?_; try simp -dsimp)
  refine abr.split (fun h2 => ?_) (fun h2 => ?_)
  · have q3 : (v = true) := by first | exact h2 | omega | (simpa using h2) | (simp at h2 ⊢; omega) | simp_all
    rw [if_pos q3] at hF
    simp -dsimp [h2]
    repeat (refine chk.go (by first | omega | assumption | (simp_all; done) | (simp_all; omega)) ?_; try simp -dsimp [h2])
    have hF := ob hF; obtain ⟨v4, e5, hF⟩ := hF
    refine ((C.impl_typeOk B hB1 hB2 a1.f0 f.res v4 e5)).goW (by first | (simp; done) | (simp [h2]; done) | simp_all) (by simp) ?_
    cases hF
    simp -dsimp [h2]
    repeat (refine chk.go (by first | omega | assumption | (simp_all; done) | (simp_all; omega)) ?_; try simp -dsimp [h2])
    all_goals (try omega)
  · have q3 : ¬ (v = true) := by first | exact h2 | omega | (simpa using h2) | (simp at h2 ⊢; omega) | simp_all
    rw [if_neg q3] at hF
    cases hF
    simp -dsimp [h2, q3]
    repeat (refine chk.go (by first | omega | assumption | (simp_all; done) | (simp_all; omega)) ?_; try simp -dsimp [h2, q3])
    all_goals (try omega)

set_option maxRecDepth 100000 in
set_option maxHeartbeats 400000 in
theorem CC.slices_IndexFunc_FunType__impl_scope_ok_1_l1 (B : Nat) (hB1 : 67108864 ≤ B) (hB2 : B ≤ 9223372036854775807) (s : List Vl.FunType) (k0 : Vl.T_impl_scope) : (∀ (i : Nat) (o : Lo Int Unit), F.slices_IndexFunc_FunType__impl_scope_ok_1_l1 s k0 i = some o → ∀ (c : Code), navO [1, 0, 1, 0, 0] (bodyOf Try.f163) = some c → ∀ (Q : Exit → ASt → Prop), o.post (fun r => ∀ st, Post Try.prog Try.f163 (fun r' _ => r'.le (.lit (.int .i64 r))) .ret st → Q .ret st) (fun s => Q (.exit 0) ⟨[], []⟩) → ALoopU Try.prog B 0 19 (hold c .mk) ⟨[(0, .arr (List.map Vl.FunType.c s)), (1, .fn (.func 121) [] [.rptr [.arr (List.map Vl.Data.c k0.f0), .arr (List.map Vl.FunType.c k0.f1), .arr (List.map Vl.VarType.c k0.f2)] 0]), (7, .lit (.int .i64 (s.length : Int))), (8, .lit (.int .i64 (i : Int)))], []⟩ (hold Q .mk)) := by
  refine F.slices_IndexFunc_FunType__impl_scope_ok_1_l1.partial_correctness s k0
    (fun i o => ∀ (c : Code), navO [1, 0, 1, 0, 0] (bodyOf Try.f163) = some c → ∀ (Q : Exit → ASt → Prop), o.post (fun r => ∀ st, Post Try.prog Try.f163 (fun r' _ => r'.le (.lit (.int .i64 r))) .ret st → Q .ret st) (fun s => Q (.exit 0) ⟨[], []⟩) → ALoopU Try.prog B 0 19 (hold c .mk) ⟨[(0, .arr (List.map Vl.FunType.c s)), (1, .fn (.func 121) [] [.rptr [.arr (List.map Vl.Data.c k0.f0), .arr (List.map Vl.FunType.c k0.f1), .arr (List.map Vl.VarType.c k0.f2)] 0]), (7, .lit (.int .i64 (s.length : Int))), (8, .lit (.int .i64 (i : Int)))], []⟩ (hold Q .mk))
    ?_
  · intro _f_slices_IndexFunc_FunType__impl_scope_ok_1_l1 ih_slices_IndexFunc_FunType__impl_scope_ok_1_l1 i o hF
    intro c hc Q hq
    obtain rfl : c = _ := navEq hc rfl
    refine ALoopU.know fun hk hs => ?_
    have b0 := hk 0
    simp -dsimp at b0
    clear hk hs
    refine ALoopU.enter ?_
    simp -dsimp
    repeat (refine chk.go (by first | omega | assumption | (simp_all; done) | (simp_all; omega)) ?_; try simp -dsimp)
    refine abr.split (fun h1 => ?_) (fun h1 => ?_)
    · have q2 : (i < s.length) := by first | exact h1 | omega | (simpa using h1) | (simp at h1 ⊢; omega) | simp_all
      have z3 : ((i : Int) < (s.length : Int)) := by first | omega | simp_all
      rw [if_pos q2] at hF
      have hF := ob hF; obtain ⟨x, e4, hF⟩ := hF
      have le4 := lt_of_get e4
      simp -dsimp [h1, z3, ↓e4]
      repeat (refine chk.go (by first | omega | assumption | (simp_all; done) | (simp_all; omega)) ?_; try simp -dsimp [h1, z3, ↓e4])
      have hF := ob hF; obtain ⟨v, e5, hF⟩ := hF
      refine ((C.impl_scope_ok_1 B hB1 hB2 x k0 v e5)).goW (by first | (simp; done) | (simp [h1, z3, ↓e4]; done) | simp_all) (by simp) ?_
      simp -dsimp [h1, z3, ↓e4]
      repeat (refine chk.go (by first | omega | assumption | (simp_all; done) | (simp_all; omega)) ?_; try simp -dsimp [h1, z3, ↓e4])
      refine abr.split (fun h6 => ?_) (fun h6 => ?_)
      · have q7 : (v = true) := by first | exact h6 | omega | (simpa using h6) | (simp at h6 ⊢; omega) | simp_all
        rw [if_pos q7] at hF
        cases hF
        simp -dsimp [h1, z3, ↓e4, h6]
        repeat (refine chk.go (by first | omega | assumption | (simp_all; done) | (simp_all; omega)) ?_; try simp -dsimp [h1, z3, ↓e4, h6])
        refine Leave.go _ (Gh.refl _) (hq _ ?_)
        simp -dsimp [h1, z3, ↓e4, h6]
        repeat (refine chk.go (by first | omega | assumption | (simp_all; done) | (simp_all; omega)) ?_; try simp -dsimp [h1, z3, ↓e4, h6])
      · have q7 : ¬ (v = true) := by first | exact h6 | omega | (simpa using h6) | (simp at h6 ⊢; omega) | simp_all
        rw [if_neg q7] at hF
        have w8 : IntKind.i64.wrap ((i : Int) + 1) = (i : Int) + 1 := wrap_in (by omega) (by omega)
        simp -dsimp [h1, z3, ↓e4, h6, q7, w8]
        repeat (refine chk.go (by first | omega | assumption | (simp_all; done) | (simp_all; omega)) ?_; try simp -dsimp [h1, z3, ↓e4, h6, q7, w8])
        refine Again.go ⟨[(0, .arr (List.map Vl.FunType.c s)), (1, .fn (.func 121) [] [.rptr [.arr (List.map Vl.Data.c k0.f0), .arr (List.map Vl.FunType.c k0.f1), .arr (List.map Vl.VarType.c k0.f2)] 0]), (7, .lit (.int .i64 (s.length : Int))), (8, .lit (.int .i64 ((i + 1) : Int)))], []⟩ (Gh.to (by simp) (by first | (simp -dsimp; done) | (simp -dsimp [h1, z3, ↓e4, h6, q7, w8]; done) | simp_all) (by first | (simp -dsimp; done) | (simp -dsimp [h1, z3, ↓e4, h6, q7, w8]; done) | simp_all) (by first | (simp -dsimp; done) | (simp -dsimp [h1, z3, ↓e4, h6, q7, w8]; done) | simp_all)) ?_
        exact (ih_slices_IndexFunc_FunType__impl_scope_ok_1_l1 (i + 1) o hF) _ rfl _ hq
    · have q2 : ¬ (i < s.length) := by first | exact h1 | omega | (simpa using h1) | (simp at h1 ⊢; omega) | simp_all
      have z3 : ¬ ((i : Int) < (s.length : Int)) := by first | omega | simp_all
      rw [if_neg q2] at hF
      cases hF
      simp -dsimp [h1, q2, z3]
      repeat (refine chk.go (by first | omega | assumption | (simp_all; done) | (simp_all; omega)) ?_; try simp -dsimp [h1, q2, z3])
      refine Leave.go ⟨[], []⟩ (Gh.to (by simp) (by first | (simp -dsimp; done) | (simp -dsimp [h1, q2, z3]; done) | simp_all) (by first | (simp -dsimp; done) | (simp -dsimp [h1, q2, z3]; done) | simp_all) (by first | (simp -dsimp; done) | (simp -dsimp [h1, q2, z3]; done) | simp_all)) ?_
      exact hq

theorem C.slices_IndexFunc_FunType__impl_scope_ok_1_l1 (B : Nat) (hB1 : 67108864 ≤ B) (hB2 : B ≤ 9223372036854775807) (s : List Vl.FunType) (k0 : Vl.T_impl_scope) (i : Nat) (o : Lo Int Unit) (hF : F.slices_IndexFunc_FunType__impl_scope_ok_1_l1 s k0 i = some o) : ∀ (c : Code), navO [1, 0, 1, 0, 0] (bodyOf Try.f163) = some c → ∀ (Q : Exit → ASt → Prop), o.post (fun r => ∀ st, Post Try.prog Try.f163 (fun r' _ => r'.le (.lit (.int .i64 r))) .ret st → Q .ret st) (fun s => Q (.exit 0) ⟨[], []⟩) → ALoopU Try.prog B 0 19 (hold c .mk) ⟨[(0, .arr (List.map Vl.FunType.c s)), (1, .fn (.func 121) [] [.rptr [.arr (List.map Vl.Data.c k0.f0), .arr (List.map Vl.FunType.c k0.f1), .arr (List.map Vl.VarType.c k0.f2)] 0]), (7, .lit (.int .i64 (s.length : Int))), (8, .lit (.int .i64 (i : Int)))], []⟩ (hold Q .mk) :=
  (CC.slices_IndexFunc_FunType__impl_scope_ok_1_l1 B hB1 hB2 s k0) i o hF

set_option maxRecDepth 100000 in
set_option maxHeartbeats 400000 in
theorem C.slices_IndexFunc_FunType__impl_scope_ok_1 (B : Nat) (hB1 : 67108864 ≤ B) (hB2 : B ≤ 9223372036854775807) (s : List Vl.FunType) (k0 : Vl.T_impl_scope) (r : Int) (hF : F.slices_IndexFunc_FunType__impl_scope_ok_1 s k0 = some r) : PureCall Try.prog B 163 [.arr (List.map Vl.FunType.c s), .fn (.func 121) [] [.rptr [.arr (List.map Vl.Data.c k0.f0), .arr (List.map Vl.FunType.c k0.f1), .arr (List.map Vl.VarType.c k0.f2)] 0]] (.lit (.int .i64 r)) := by
  unfold F.slices_IndexFunc_FunType__impl_scope_ok_1 at hF
  refine PureCall.enterLe Try.func163 (by kernel_rfl) rfl Try.ntmps163 (by simp) (by simp) ?_
  simp -dsimp
  repeat (refine chk.go (by first | omega | assumption | (simp_all; done) | (simp_all; omega)) ?_; try simp -dsimp)
  have hF := ob hF; obtain ⟨o', ho9, hF⟩ := hF
  refine ALoop.goU ⟨[(0, .arr (List.map Vl.FunType.c s)), (1, .fn (.func 121) [] [.rptr [.arr (List.map Vl.Data.c k0.f0), .arr (List.map Vl.FunType.c k0.f1), .arr (List.map Vl.VarType.c k0.f2)] 0]), (7, .lit (.int .i64 (s.length : Int))), (8, .lit (.int .i64 (0 : Int)))], []⟩ (Gh.to (by simp) (by simp -dsimp) (by simp -dsimp) (by simp -dsimp)) ?_
  refine (C.slices_IndexFunc_FunType__impl_scope_ok_1_l1 B hB1 hB2 s k0 0 o' ho9) _ rfl _ ?_
  rcases o' with r0 | s10
  · dsimp only at hF
    cases hF
    intro st h
    simpa using h
  · dsimp only at hF
    cases hF
    simp -dsimp
    repeat (refine chk.go (by first | omega | assumption | (simp_all; done) | (simp_all; omega)) ?_; try simp -dsimp)
    all_goals (try omega)

set_option maxRecDepth 100000 in
set_option maxHeartbeats 400000 in
theorem C.slices_ContainsFunc_FunType__impl_scope_ok_1 (B : Nat) (hB1 : 67108864 ≤ B) (hB2 : B ≤ 9223372036854775807) (s : List Vl.FunType) (k0 : Vl.T_impl_scope) (r : Bool) (hF : F.slices_ContainsFunc_FunType__impl_scope_ok_1 s k0 = some r) : PureCall Try.prog B 120 [.arr (List.map Vl.FunType.c s), .fn (.func 121) [] [.rptr [.arr (List.map Vl.Data.c k0.f0), .arr (List.map Vl.FunType.c k0.f1), .arr (List.map Vl.VarType.c k0.f2)] 0]] (.lit (.bool r)) := by
  unfold F.slices_ContainsFunc_FunType__impl_scope_ok_1 at hF
  refine PureCall.enterLe Try.func120 (by kernel_rfl) rfl Try.ntmps120 (by simp) (by simp) ?_
  simp -dsimp
  repeat (refine chk.go (by first | omega | assumption | (simp_all; done) | (simp_all; omega)) ?_; try simp -dsimp)
  have hF := ob hF; obtain ⟨v, e1, hF⟩ := hF
  refine ((C.slices_IndexFunc_FunType__impl_scope_ok_1 B hB1 hB2 s k0 v e1)).goW (by simp) (by simp) ?_
  cases hF
  simp -dsimp
  repeat (refine chk.go (by first | omega | assumption | (simp_all; done) | (simp_all; omega)) ?_; try simp -dsimp)
  all_goals (try omega)

set_option maxRecDepth 100000 in
set_option maxHeartbeats 400000 in
theorem C.impl_isVar (B : Nat) (hB1 : 67108864 ≤ B) (hB2 : B ≤ 9223372036854775807) (v : Int) (r : Bool) (hF : F.impl_isVar v = some r) : PureCall Try.prog B 122 [.lit (.int .i64 v)] (.lit (.bool r)) := by
  unfold F.impl_isVar at hF
  refine PureCall.enterLe Try.func122 (by kernel_rfl) rfl Try.ntmps122 (by simp) (by simp) ?_
  simp -dsimp
  repeat (refine chk.go (by first | omega | assumption | (simp_all; done) | (simp_all; omega)) ?_; try simp -dsimp)
  have hF := ob hF; obtain ⟨v1, e2, hF⟩ := hF
  refine ((C.impl_within B hB1 hB2 v (0 : Int) (5 : Int) v1 e2)).goW (by simp) (by simp) ?_
  cases hF
  simp -dsimp
  repeat (refine chk.go (by first | omega | assumption | (simp_all; done) | (simp_all; omega)) ?_; try simp -dsimp)
  all_goals (try omega)

set_option maxRecDepth 100000 in
set_option maxHeartbeats 400000 in
theorem CC.impl_scope_ok_l1 (B : Nat) (hB1 : 67108864 ≤ B) (hB2 : B ≤ 9223372036854775807) (s : Vl.T_impl_scope) : (∀ (set' : Nat → Bool) (i : Nat) (o : Lo Bool Unit), F.impl_scope_ok_l1 s set' i = some o → ∀ (c : Code), navO [1, 1, 1, 0, 1, 0, 0] (bodyOf Try.f61) = some c → ∀ (Q : Exit → ASt → Prop), o.post (fun r => ∀ st, Post Try.prog Try.f61 (fun r' _ => r'.le (.lit (.bool r))) .ret st → Q .ret st) (fun s => Q (.exit 0) ⟨[], []⟩) → ALoopU Try.prog B 0 45 (hold c .mk) ⟨[(1, .ptr 0 0), (3, .ptr 1 0), (17, .arr (List.map Vl.VarType.c s.f2)), (18, .lit (.int .i64 (s.f2.length : Int))), (19, .lit (.int .i64 (i : Int)))], [.cells [.arr (List.map Vl.Data.c s.f0), .arr (List.map Vl.FunType.c s.f1), .arr (List.map Vl.VarType.c s.f2)], .cells (fcB 6 set')]⟩ (hold Q .mk)) := by
  refine F.impl_scope_ok_l1.partial_correctness s
    (fun set' i o => ∀ (c : Code), navO [1, 1, 1, 0, 1, 0, 0] (bodyOf Try.f61) = some c → ∀ (Q : Exit → ASt → Prop), o.post (fun r => ∀ st, Post Try.prog Try.f61 (fun r' _ => r'.le (.lit (.bool r))) .ret st → Q .ret st) (fun s => Q (.exit 0) ⟨[], []⟩) → ALoopU Try.prog B 0 45 (hold c .mk) ⟨[(1, .ptr 0 0), (3, .ptr 1 0), (17, .arr (List.map Vl.VarType.c s.f2)), (18, .lit (.int .i64 (s.f2.length : Int))), (19, .lit (.int .i64 (i : Int)))], [.cells [.arr (List.map Vl.Data.c s.f0), .arr (List.map Vl.FunType.c s.f1), .arr (List.map Vl.VarType.c s.f2)], .cells (fcB 6 set')]⟩ (hold Q .mk))
    ?_
  · intro _f_impl_scope_ok_l1 ih_impl_scope_ok_l1 set' i o hF
    intro c hc Q hq
    obtain rfl : c = _ := navEq hc rfl
    refine ALoopU.know fun hk hs => ?_
    have b17 := hk 17
    simp -dsimp at b17
    have d0 := hs 0 _ rfl
    simp -dsimp [Blk.bnd] at d0
    clear hk hs
    refine ALoopU.enter ?_
    simp -dsimp
    repeat (refine chk.go (by first | omega | assumption | (simp_all; done) | (simp_all; omega)) ?_; try simp -dsimp)
    refine abr.split (fun h7 => ?_) (fun h7 => ?_)
    · have q8 : (i < s.f2.length) := by first | exact h7 | omega | (simpa using h7) | (simp at h7 ⊢; omega) | simp_all
      have z9 : ((i : Int) < (s.f2.length : Int)) := by first | omega | simp_all
      rw [if_pos q8] at hF
      have hF := ob hF; obtain ⟨x, e10, hF⟩ := hF
      have le10 := lt_of_get e10
      simp -dsimp [h7, z9, ↓e10]
      repeat (refine chk.go (by first | omega | assumption | (simp_all; done) | (simp_all; omega)) ?_; try simp -dsimp [h7, z9, ↓e10])
      have hF := ob hF; obtain ⟨v11, e12, hF⟩ := hF
      refine ((C.impl_isVar B hB1 hB2 x.var v11 e12)).goW (by first | (simp; done) | (simp [h7, z9, ↓e10]; done) | simp_all) (by simp) ?_
      simp -dsimp [h7, z9, ↓e10]
      repeat (refine chk.go (by first | omega | assumption | (simp_all; done) | (simp_all; omega)) ?_; try simp -dsimp [h7, z9, ↓e10])
      refine abr.split (fun h13 => ?_) (fun h13 => ?_)
      · have q14 : (v11 = true) := by first | exact h13 | omega | (simpa using h13) | (simp at h13 ⊢; omega) | simp_all
        rw [if_pos q14] at hF
        have hF := oc hF; obtain ⟨c15, hF⟩ := hF
        simp -dsimp [h7, z9, ↓e10, h13, c15]
        repeat (refine chk.go (by first | omega | assumption | (simp_all; done) | (simp_all; omega)) ?_; try simp -dsimp [h7, z9, ↓e10, h13, c15])
        refine abr.split (fun h16 => ?_) (fun h16 => ?_)
        · have q17 : ¬ (set' x.var.toNat = true) := by first | exact h16 | omega | (simpa using h16) | (simp at h16 ⊢; omega) | simp_all
          rw [if_neg q17] at hF
          simp -dsimp [h7, z9, ↓e10, h13, c15, h16, q17]
          repeat (refine chk.go (by first | omega | assumption | (simp_all; done) | (simp_all; omega)) ?_; try simp -dsimp [h7, z9, ↓e10, h13, c15, h16, q17])
          have hF := ob hF; obtain ⟨v18, e19, hF⟩ := hF
          refine ((C.impl_typeOk B hB1 hB2 s.f0 x.type v18 e19)).goW (by first | (simp; done) | (simp [h7, z9, ↓e10, h13, c15, h16, q17]; done) | simp_all) (by simp) ?_
          simp -dsimp [h7, z9, ↓e10, h13, c15, h16, q17]
          repeat (refine chk.go (by first | omega | assumption | (simp_all; done) | (simp_all; omega)) ?_; try simp -dsimp [h7, z9, ↓e10, h13, c15, h16, q17])
          refine abr.split (fun h20 => ?_) (fun h20 => ?_)
          · have q21 : ¬ (v18 = true) := by first | exact h20 | omega | (simpa using h20) | (simp at h20 ⊢; omega) | simp_all
            rw [if_neg q21] at hF
            cases hF
            simp -dsimp [h7, z9, ↓e10, h13, c15, h16, q17, h20, q21]
            repeat (refine chk.go (by first | omega | assumption | (simp_all; done) | (simp_all; omega)) ?_; try simp -dsimp [h7, z9, ↓e10, h13, c15, h16, q17, h20, q21])
            refine Leave.go _ (Gh.refl _) (hq _ ?_)
            simp -dsimp [h7, z9, ↓e10, h13, c15, h16, q17, h20, q21]
            repeat (refine chk.go (by first | omega | assumption | (simp_all; done) | (simp_all; omega)) ?_; try simp -dsimp [h7, z9, ↓e10, h13, c15, h16, q17, h20, q21])
          · have q21 : (v18 = true) := by first | exact h20 | omega | (simpa using h20) | (simp at h20 ⊢; omega) | simp_all
            rw [if_pos q21] at hF
            have w22 : IntKind.i64.wrap ((i : Int) + 1) = (i : Int) + 1 := wrap_in (by omega) (by omega)
            simp -dsimp [h7, z9, ↓e10, h13, c15, h16, q17, h20, q21, w22]
            repeat (refine chk.go (by first | omega | assumption | (simp_all; done) | (simp_all; omega)) ?_; try simp -dsimp [h7, z9, ↓e10, h13, c15, h16, q17, h20, q21, w22])
            refine Again.go ⟨[(1, .ptr 0 0), (3, .ptr 1 0), (17, .arr (List.map Vl.VarType.c s.f2)), (18, .lit (.int .i64 (s.f2.length : Int))), (19, .lit (.int .i64 ((i + 1) : Int)))], [.cells [.arr (List.map Vl.Data.c s.f0), .arr (List.map Vl.FunType.c s.f1), .arr (List.map Vl.VarType.c s.f2)], .cells (fcB 6 (updF set' x.var.toNat true))]⟩ (Gh.to (by simp) (by first | (simp -dsimp; done) | (simp -dsimp [h7, z9, ↓e10, h13, c15, h16, q17, h20, q21, w22]; done) | simp_all) (by first | (simp -dsimp; done) | (simp -dsimp [h7, z9, ↓e10, h13, c15, h16, q17, h20, q21, w22]; done) | simp_all) (by first | (simp -dsimp; done) | (simp -dsimp [h7, z9, ↓e10, h13, c15, h16, q17, h20, q21, w22]; done) | simp_all)) ?_
            exact (ih_impl_scope_ok_l1 (updF set' x.var.toNat true) (i + 1) o hF) _ rfl _ hq
        · have q17 : (set' x.var.toNat = true) := by first | exact h16 | omega | (simpa using h16) | (simp at h16 ⊢; omega) | simp_all
          rw [if_pos q17] at hF
          cases hF
          simp -dsimp [h7, z9, ↓e10, h13, c15, h16, q17]
          repeat (refine chk.go (by first | omega | assumption | (simp_all; done) | (simp_all; omega)) ?_; try simp -dsimp [h7, z9, ↓e10, h13, c15, h16, q17])
          refine Leave.go _ (Gh.refl _) (hq _ ?_)
          simp -dsimp [h7, z9, ↓e10, h13, c15, h16, q17]
          repeat (refine chk.go (by first | omega | assumption | (simp_all; done) | (simp_all; omega)) ?_; try simp -dsimp [h7, z9, ↓e10, h13, c15, h16, q17])
      · have q14 : ¬ (v11 = true) := by first | exact h13 | omega | (simpa using h13) | (simp at h13 ⊢; omega) | simp_all
        rw [if_neg q14] at hF
        cases hF
        simp -dsimp [h7, z9, ↓e10, h13, q14]
        repeat (refine chk.go (by first | omega | assumption | (simp_all; done) | (simp_all; omega)) ?_; try simp -dsimp [h7, z9, ↓e10, h13, q14])
        refine Leave.go _ (Gh.refl _) (hq _ ?_)
        simp -dsimp [h7, z9, ↓e10, h13, q14]
        repeat (refine chk.go (by first | omega | assumption | (simp_all; done) | (simp_all; omega)) ?_; try simp -dsimp [h7, z9, ↓e10, h13, q14])
    · have q8 : ¬ (i < s.f2.length) := by first | exact h7 | omega | (simpa using h7) | (simp at h7 ⊢; omega) | simp_all
      have z9 : ¬ ((i : Int) < (s.f2.length : Int)) := by first | omega | simp_all
      rw [if_neg q8] at hF
      cases hF
      simp -dsimp [h7, q8, z9]
      repeat (refine chk.go (by first | omega | assumption | (simp_all; done) | (simp_all; omega)) ?_; try simp -dsimp [h7, q8, z9])
      refine Leave.go ⟨[], []⟩ (Gh.to (by simp) (by first | (simp -dsimp; done) | (simp -dsimp [h7, q8, z9]; done) | simp_all) (by first | (simp -dsimp; done) | (simp -dsimp [h7, q8, z9]; done) | simp_all) (by first | (simp -dsimp; done) | (simp -dsimp [h7, q8, z9]; done) | simp_all)) ?_
      exact hq

theorem C.impl_scope_ok_l1 (B : Nat) (hB1 : 67108864 ≤ B) (hB2 : B ≤ 9223372036854775807) (s : Vl.T_impl_scope) (set' : Nat → Bool) (i : Nat) (o : Lo Bool Unit) (hF : F.impl_scope_ok_l1 s set' i = some o) : ∀ (c : Code), navO [1, 1, 1, 0, 1, 0, 0] (bodyOf Try.f61) = some c → ∀ (Q : Exit → ASt → Prop), o.post (fun r => ∀ st, Post Try.prog Try.f61 (fun r' _ => r'.le (.lit (.bool r))) .ret st → Q .ret st) (fun s => Q (.exit 0) ⟨[], []⟩) → ALoopU Try.prog B 0 45 (hold c .mk) ⟨[(1, .ptr 0 0), (3, .ptr 1 0), (17, .arr (List.map Vl.VarType.c s.f2)), (18, .lit (.int .i64 (s.f2.length : Int))), (19, .lit (.int .i64 (i : Int)))], [.cells [.arr (List.map Vl.Data.c s.f0), .arr (List.map Vl.FunType.c s.f1), .arr (List.map Vl.VarType.c s.f2)], .cells (fcB 6 set')]⟩ (hold Q .mk) :=
  (CC.impl_scope_ok_l1 B hB1 hB2 s) set' i o hF

set_option maxRecDepth 100000 in
set_option maxHeartbeats 400000 in
theorem C.impl_scope_ok (B : Nat) (hB1 : 67108864 ≤ B) (hB2 : B ≤ 9223372036854775807) (s : Vl.T_impl_scope) (r : Bool) (hF : F.impl_scope_ok s = some r) : PureCall Try.prog B 61 [.agg [.arr (List.map Vl.Data.c s.f0), .arr (List.map Vl.FunType.c s.f1), .arr (List.map Vl.VarType.c s.f2)]] (.lit (.bool r)) := by
  unfold F.impl_scope_ok at hF
  refine PureCall.enterLe Try.func61 (by kernel_rfl) rfl Try.ntmps61 (by simp) (by simp) ?_
  simp -dsimp
  repeat (refine chk.go (by first | omega | assumption | (simp_all; done) | (simp_all; omega)) ?_; try simp -dsimp)
  refine abr.split (fun h1 => ?_) (fun h1 => ?_)
  · have q2 : ¬ (4 < s.f1.length) := by first | exact h1 | omega | (simpa using h1) | (simp at h1 ⊢; omega) | simp_all
    have z3 : ¬ ((4 : Int) < (s.f1.length : Int)) := by first | omega | simp_all
    rw [if_neg q2] at hF
    simp -dsimp [h1, q2, z3]
    repeat (refine chk.go (by first | omega | assumption | (simp_all; done) | (simp_all; omega)) ?_; try simp -dsimp [h1, q2, z3])
    have hF := ob hF; obtain ⟨v, e4, hF⟩ := hF
    refine ((C.slices_ContainsFunc_FunType__impl_scope_ok_1 B hB1 hB2 s.f1 s v e4)).lend (by first | (simp -dsimp; done) | (simp -dsimp [h1, q2, z3]; done) | simp_all) (by simp -dsimp) ?_
    simp -dsimp [h1, q2, z3]
    repeat (refine chk.go (by first | omega | assumption | (simp_all; done) | (simp_all; omega)) ?_; try simp -dsimp [h1, q2, z3])
    refine abr.split (fun h5 => ?_) (fun h5 => ?_)
    · have q6 : (v = true) := by first | exact h5 | omega | (simpa using h5) | (simp at h5 ⊢; omega) | simp_all
      rw [if_pos q6] at hF
      cases hF
      simp -dsimp [h1, q2, z3, h5]
      repeat (refine chk.go (by first | omega | assumption | (simp_all; done) | (simp_all; omega)) ?_; try simp -dsimp [h1, q2, z3, h5])
      all_goals (try omega)
    · have q6 : ¬ (v = true) := by first | exact h5 | omega | (simpa using h5) | (simp at h5 ⊢; omega) | simp_all
      rw [if_neg q6] at hF
      simp -dsimp [h1, q2, z3, h5, q6]
      repeat (refine chk.go (by first | omega | assumption | (simp_all; done) | (simp_all; omega)) ?_; try simp -dsimp [h1, q2, z3, h5, q6])
      have hF := ob hF; obtain ⟨o', ho23, hF⟩ := hF
      refine ALoop.goU ⟨[(1, .ptr 0 0), (3, .ptr 1 0), (17, .arr (List.map Vl.VarType.c s.f2)), (18, .lit (.int .i64 (s.f2.length : Int))), (19, .lit (.int .i64 (0 : Int)))], [.cells [.arr (List.map Vl.Data.c s.f0), .arr (List.map Vl.FunType.c s.f1), .arr (List.map Vl.VarType.c s.f2)], .cells (fcB 6 (fun _ => false))]⟩ (Gh.to (by simp) (by first | (simp -dsimp; done) | (simp -dsimp [h1, q2, z3, h5, q6]; done) | simp_all) (by first | (simp -dsimp; done) | (simp -dsimp [h1, q2, z3, h5, q6]; done) | simp_all) (by first | (simp -dsimp; done) | (simp -dsimp [h1, q2, z3, h5, q6]; done) | simp_all)) ?_
      refine (C.impl_scope_ok_l1 B hB1 hB2 s (fun _ => false) 0 o' ho23) _ rfl _ ?_
      rcases o' with r0 | s24
      · dsimp only at hF
        cases hF
        intro st h
        simpa using h
      · dsimp only at hF
        cases hF
        simp -dsimp
        repeat (refine chk.go (by first | omega | assumption | (simp_all; done) | (simp_all; omega)) ?_; try simp -dsimp)
        all_goals (try omega)
  · have q2 : (4 < s.f1.length) := by first | exact h1 | omega | (simpa using h1) | (simp at h1 ⊢; omega) | simp_all
    have z3 : ((4 : Int) < (s.f1.length : Int)) := by first | omega | simp_all
    rw [if_pos q2] at hF
    cases hF
    simp -dsimp [h1, q2, z3]
    repeat (refine chk.go (by first | omega | assumption | (simp_all; done) | (simp_all; omega)) ?_; try simp -dsimp [h1, q2, z3])
    all_goals (try omega)

set_option maxRecDepth 100000 in
set_option maxHeartbeats 400000 in
theorem C.impl_scope_typeOfVar_1 (B : Nat) (hB1 : 67108864 ≤ B) (hB2 : B ≤ 9223372036854775807) (x : Vl.VarType) (a1 : Int) (r : Bool) (hF : F.impl_scope_typeOfVar_1 x a1 = some r) : PureCall Try.prog B 221 [.agg [.lit (.int .i64 x.var), .lit (.int .i64 x.type.data), .lit (.int .i64 x.type.index)], .rptr [.lit (.int .i64 a1)] 0] (.lit (.bool r)) := by
  unfold F.impl_scope_typeOfVar_1 at hF
  refine PureCall.enterLe Try.func221 (by kernel_rfl) rfl Try.ntmps221 (by simp) (by simp) ?_
  cases hF
  simp -dsimp
  repeat (refine chk.go (by first | omega | assumption | (simp_all; done) | (simp_all; omega)) ?_; try simp -dsimp)
  all_goals (try omega)

set_option maxRecDepth 100000 in
set_option maxHeartbeats 400000 in
theorem CC.slices_IndexFunc_VarType__impl_scope_typeOfVar_1_l1 (B : Nat) (hB1 : 67108864 ≤ B) (hB2 : B ≤ 9223372036854775807) (s : List Vl.VarType) (k0 : Int) : (∀ (i : Nat) (o : Lo Int Unit), F.slices_IndexFunc_VarType__impl_scope_typeOfVar_1_l1 s k0 i = some o → ∀ (c : Code), navO [1, 0, 1, 0, 0] (bodyOf Try.f220) = some c → ∀ (Q : Exit → ASt → Prop), o.post (fun r => ∀ st, Post Try.prog Try.f220 (fun r' _ => r'.le (.lit (.int .i64 r))) .ret st → Q .ret st) (fun s => Q (.exit 0) ⟨[], []⟩) → ALoopU Try.prog B 0 19 (hold c .mk) ⟨[(0, .arr (List.map Vl.VarType.c s)), (1, .fn (.func 221) [] [.rptr [.lit (.int .i64 k0)] 0]), (7, .lit (.int .i64 (s.length : Int))), (8, .lit (.int .i64 (i : Int)))], []⟩ (hold Q .mk)) := by
  refine F.slices_IndexFunc_VarType__impl_scope_typeOfVar_1_l1.partial_correctness s k0
    (fun i o => ∀ (c : Code), navO [1, 0, 1, 0, 0] (bodyOf Try.f220) = some c → ∀ (Q : Exit → ASt → Prop), o.post (fun r => ∀ st, Post Try.prog Try.f220 (fun r' _ => r'.le (.lit (.int .i64 r))) .ret st → Q .ret st) (fun s => Q (.exit 0) ⟨[], []⟩) → ALoopU Try.prog B 0 19 (hold c .mk) ⟨[(0, .arr (List.map Vl.VarType.c s)), (1, .fn (.func 221) [] [.rptr [.lit (.int .i64 k0)] 0]), (7, .lit (.int .i64 (s.length : Int))), (8, .lit (.int .i64 (i : Int)))], []⟩ (hold Q .mk))
    ?_
  · intro _f_slices_IndexFunc_VarType__impl_scope_typeOfVar_1_l1 ih_slices_IndexFunc_VarType__impl_scope_typeOfVar_1_l1 i o hF
    intro c hc Q hq
    obtain rfl : c = _ := navEq hc rfl
    refine ALoopU.know fun hk hs => ?_
    have b0 := hk 0
    simp -dsimp at b0
    clear hk hs
    refine ALoopU.enter ?_
    simp -dsimp
    repeat (refine chk.go (by first | omega | assumption | (simp_all; done) | (simp_all; omega)) ?_; try simp -dsimp)
    refine abr.split (fun h1 => ?_) (fun h1 => ?_)
    · have q2 : (i < s.length) := by first | exact h1 | omega | (simpa using h1) | (simp at h1 ⊢; omega) | simp_all
      have z3 : ((i : Int) < (s.length : Int)) := by first | omega | simp_all
      rw [if_pos q2] at hF
      have hF := ob hF; obtain ⟨x, e4, hF⟩ := hF
      have le4 := lt_of_get e4
      simp -dsimp [h1, z3, ↓e4]
      repeat (refine chk.go (by first | omega | assumption | (simp_all; done) | (simp_all; omega)) ?_; try simp -dsimp [h1, z3, ↓e4])
      have hF := ob hF; obtain ⟨v, e5, hF⟩ := hF
      refine ((C.impl_scope_typeOfVar_1 B hB1 hB2 x k0 v e5)).goW (by first | (simp; done) | (simp [h1, z3, ↓e4]; done) | simp_all) (by simp) ?_
      simp -dsimp [h1, z3, ↓e4]
      repeat (refine chk.go (by first | omega | assumption | (simp_all; done) | (simp_all; omega)) ?_; try simp -dsimp [h1, z3, ↓e4])
      refine abr.split (fun h6 => ?_) (fun h6 => ?_)
      · have q7 : (v = true) := by first | exact h6 | omega | (simpa using h6) | (simp at h6 ⊢; omega) | simp_all
        rw [if_pos q7] at hF
        cases hF
        simp -dsimp [h1, z3, ↓e4, h6]
        repeat (refine chk.go (by first | omega | assumption | (simp_all; done) | (simp_all; omega)) ?_; try simp -dsimp [h1, z3, ↓e4, h6])
        refine Leave.go _ (Gh.refl _) (hq _ ?_)
        simp -dsimp [h1, z3, ↓e4, h6]
        repeat (refine chk.go (by first | omega | assumption | (simp_all; done) | (simp_all; omega)) ?_; try simp -dsimp [h1, z3, ↓e4, h6])
      · have q7 : ¬ (v = true) := by first | exact h6 | omega | (simpa using h6) | (simp at h6 ⊢; omega) | simp_all
        rw [if_neg q7] at hF
        have w8 : IntKind.i64.wrap ((i : Int) + 1) = (i : Int) + 1 := wrap_in (by omega) (by omega)
        simp -dsimp [h1, z3, ↓e4, h6, q7, w8]
        repeat (refine chk.go (by first | omega | assumption | (simp_all; done) | (simp_all; omega)) ?_; try simp -dsimp [h1, z3, ↓e4, h6, q7, w8])
        refine Again.go ⟨[(0, .arr (List.map Vl.VarType.c s)), (1, .fn (.func 221) [] [.rptr [.lit (.int .i64 k0)] 0]), (7, .lit (.int .i64 (s.length : Int))), (8, .lit (.int .i64 ((i + 1) : Int)))], []⟩ (Gh.to (by simp) (by first | (simp -dsimp; done) | (simp -dsimp [h1, z3, ↓e4, h6, q7, w8]; done) | simp_all) (by first | (simp -dsimp; done) | (simp -dsimp [h1, z3, ↓e4, h6, q7, w8]; done) | simp_all) (by first | (simp -dsimp; done) | (simp -dsimp [h1, z3, ↓e4, h6, q7, w8]; done) | simp_all)) ?_
        exact (ih_slices_IndexFunc_VarType__impl_scope_typeOfVar_1_l1 (i + 1) o hF) _ rfl _ hq
    · have q2 : ¬ (i < s.length) := by first | exact h1 | omega | (simpa using h1) | (simp at h1 ⊢; omega) | simp_all
      have z3 : ¬ ((i : Int) < (s.length : Int)) := by first | omega | simp_all
      rw [if_neg q2] at hF
      cases hF
      simp -dsimp [h1, q2, z3]
      repeat (refine chk.go (by first | omega | assumption | (simp_all; done) | (simp_all; omega)) ?_; try simp -dsimp [h1, q2, z3])
      refine Leave.go ⟨[], []⟩ (Gh.to (by simp) (by first | (simp -dsimp; done) | (simp -dsimp [h1, q2, z3]; done) | simp_all) (by first | (simp -dsimp; done) | (simp -dsimp [h1, q2, z3]; done) | simp_all) (by first | (simp -dsimp; done) | (simp -dsimp [h1, q2, z3]; done) | simp_all)) ?_
      exact hq

theorem C.slices_IndexFunc_VarType__impl_scope_typeOfVar_1_l1 (B : Nat) (hB1 : 67108864 ≤ B) (hB2 : B ≤ 9223372036854775807) (s : List Vl.VarType) (k0 : Int) (i : Nat) (o : Lo Int Unit) (hF : F.slices_IndexFunc_VarType__impl_scope_typeOfVar_1_l1 s k0 i = some o) : ∀ (c : Code), navO [1, 0, 1, 0, 0] (bodyOf Try.f220) = some c → ∀ (Q : Exit → ASt → Prop), o.post (fun r => ∀ st, Post Try.prog Try.f220 (fun r' _ => r'.le (.lit (.int .i64 r))) .ret st → Q .ret st) (fun s => Q (.exit 0) ⟨[], []⟩) → ALoopU Try.prog B 0 19 (hold c .mk) ⟨[(0, .arr (List.map Vl.VarType.c s)), (1, .fn (.func 221) [] [.rptr [.lit (.int .i64 k0)] 0]), (7, .lit (.int .i64 (s.length : Int))), (8, .lit (.int .i64 (i : Int)))], []⟩ (hold Q .mk) :=
  (CC.slices_IndexFunc_VarType__impl_scope_typeOfVar_1_l1 B hB1 hB2 s k0) i o hF

set_option maxRecDepth 100000 in
set_option maxHeartbeats 400000 in
theorem C.slices_IndexFunc_VarType__impl_scope_typeOfVar_1 (B : Nat) (hB1 : 67108864 ≤ B) (hB2 : B ≤ 9223372036854775807) (s : List Vl.VarType) (k0 : Int) (r : Int) (hF : F.slices_IndexFunc_VarType__impl_scope_typeOfVar_1 s k0 = some r) : PureCall Try.prog B 220 [.arr (List.map Vl.VarType.c s), .fn (.func 221) [] [.rptr [.lit (.int .i64 k0)] 0]] (.lit (.int .i64 r)) := by
  unfold F.slices_IndexFunc_VarType__impl_scope_typeOfVar_1 at hF
  refine PureCall.enterLe Try.func220 (by kernel_rfl) rfl Try.ntmps220 (by simp) (by simp) ?_
  simp -dsimp
  repeat (refine chk.go (by first | omega | assumption | (simp_all; done) | (simp_all; omega)) ?_; try simp -dsimp)
  have hF := ob hF; obtain ⟨o', ho9, hF⟩ := hF
  refine ALoop.goU ⟨[(0, .arr (List.map Vl.VarType.c s)), (1, .fn (.func 221) [] [.rptr [.lit (.int .i64 k0)] 0]), (7, .lit (.int .i64 (s.length : Int))), (8, .lit (.int .i64 (0 : Int)))], []⟩ (Gh.to (by simp) (by simp -dsimp) (by simp -dsimp) (by simp -dsimp)) ?_
  refine (C.slices_IndexFunc_VarType__impl_scope_typeOfVar_1_l1 B hB1 hB2 s k0 0 o' ho9) _ rfl _ ?_
  rcases o' with r0 | s10
  · dsimp only at hF
    cases hF
    intro st h
    simpa using h
  · dsimp only at hF
    cases hF
    simp -dsimp
    repeat (refine chk.go (by first | omega | assumption | (simp_all; done) | (simp_all; omega)) ?_; try simp -dsimp)
    all_goals (try omega)

set_option maxRecDepth 100000 in
set_option maxHeartbeats 400000 in
theorem C.impl_scope_typeOfVar (B : Nat) (hB1 : 67108864 ≤ B) (hB2 : B ≤ 9223372036854775807) (s : Vl.T_impl_scope) (v : Int) (r : Vl.Ty × Bool) (hF : F.impl_scope_typeOfVar s v = some r) : PureCall Try.prog B 203 [.agg [.arr (List.map Vl.Data.c s.f0), .arr (List.map Vl.FunType.c s.f1), .arr (List.map Vl.VarType.c s.f2)], .lit (.int .i64 v)] (.tup [.agg [.lit (.int .i64 r.1.data), .lit (.int .i64 r.1.index)], .lit (.bool r.2)]) := by
  unfold F.impl_scope_typeOfVar at hF
  refine PureCall.enterLe Try.func203 (by kernel_rfl) rfl Try.ntmps203 (by simp) (by simp) ?_
  simp -dsimp
  repeat (refine chk.go (by first | omega | assumption | (simp_all; done) | (simp_all; omega)) ?_; try simp -dsimp)
  have hF := ob hF; obtain ⟨v1, e2, hF⟩ := hF
  refine ((C.slices_IndexFunc_VarType__impl_scope_typeOfVar_1 B hB1 hB2 s.f2 v v1 e2)).lend (by simp -dsimp) (by simp -dsimp) ?_
  simp -dsimp
  repeat (refine chk.go (by first | omega | assumption | (simp_all; done) | (simp_all; omega)) ?_; try simp -dsimp)
  refine abr.split (fun h3 => ?_) (fun h3 => ?_)
  · have q4 : (v1 < 0) := by first | exact h3 | omega | (simpa using h3) | (simp at h3 ⊢; omega) | simp_all
    rw [if_pos q4] at hF
    cases hF
    simp -dsimp [h3]
    repeat (refine chk.go (by first | omega | assumption | (simp_all; done) | (simp_all; omega)) ?_; try simp -dsimp [h3])
    all_goals (try omega)
  · have q4 : ¬ (v1 < 0) := by first | exact h3 | omega | (simpa using h3) | (simp at h3 ⊢; omega) | simp_all
    rw [if_neg q4] at hF
    have hF := ob hF; obtain ⟨x, e5a, hF⟩ := hF
    have e5a := at_some e5a; obtain ⟨ne5, e5⟩ := e5a
    have le5 := lt_of_get e5
    cases hF
    simp -dsimp [h3, q4, ↓e5]
    repeat (refine chk.go (by first | omega | assumption | (simp_all; done) | (simp_all; omega)) ?_; try simp -dsimp [h3, q4, ↓e5])
    all_goals (try omega)

set_option maxRecDepth 100000 in
set_option maxHeartbeats 400000 in
theorem C.impl_fits (B : Nat) (hB1 : 67108864 ≤ B) (hB2 : B ≤ 9223372036854775807) (a : Vl.Ty) (b : Vl.Ty) (r : Bool) (hF : F.impl_fits a b = some r) : PureCall Try.prog B 90 [.agg [.lit (.int .i64 a.data), .lit (.int .i64 a.index)], .agg [.lit (.int .i64 b.data), .lit (.int .i64 b.index)]] (.lit (.bool r)) := by
  unfold F.impl_fits at hF
  refine PureCall.enterLe Try.func90 (by kernel_rfl) rfl Try.ntmps90 (by simp) (by simp) ?_
  simp -dsimp
  repeat (refine chk.go (by first | omega | assumption | (simp_all; done) | (simp_all; omega)) ?_; try simp -dsimp)
  refine abr.split (fun h1 => ?_) (fun h1 => ?_)
  · have q2 : (a.data = b.data) := by first | exact h1 | omega | (simpa using h1) | (simp at h1 ⊢; omega) | simp_all
    rw [if_pos q2] at hF
    simp -dsimp [h1]
    repeat (refine chk.go (by first | omega | assumption | (simp_all; done) | (simp_all; omega)) ?_; try simp -dsimp [h1])
    refine abr.split (fun h3 => ?_) (fun h3 => ?_)
    · have q4 : ¬ (b.index = 0) := by first | exact h3 | omega | (simpa using h3) | (simp at h3 ⊢; omega) | simp_all
      rw [if_neg q4] at hF
      cases hF
      simp -dsimp [h1, h3, q4]
      repeat (refine chk.go (by first | omega | assumption | (simp_all; done) | (simp_all; omega)) ?_; try simp -dsimp [h1, h3, q4])
      all_goals (try omega)
    · have q4 : (b.index = 0) := by first | exact h3 | omega | (simpa using h3) | (simp at h3 ⊢; omega) | simp_all
      rw [if_pos q4] at hF
      cases hF
      simp -dsimp [h1, h3, q4]
      repeat (refine chk.go (by first | omega | assumption | (simp_all; done) | (simp_all; omega)) ?_; try simp -dsimp [h1, h3, q4])
      all_goals (try omega)
  · have q2 : ¬ (a.data = b.data) := by first | exact h1 | omega | (simpa using h1) | (simp at h1 ⊢; omega) | simp_all
    rw [if_neg q2] at hF
    cases hF
    simp -dsimp [h1, q2]
    repeat (refine chk.go (by first | omega | assumption | (simp_all; done) | (simp_all; omega)) ?_; try simp -dsimp [h1, q2])
    all_goals (try omega)

set_option maxRecDepth 100000 in
set_option maxHeartbeats 400000 in
theorem CC.impl_ctorsOf_l1 (B : Nat) (hB1 : 67108864 ≤ B) (hB2 : B ≤ 9223372036854775807) (t : Vl.Ty) (x : Vl.Data) : (∀ (i : Nat) (out : List Int) (o : List Int), F.impl_ctorsOf_l1 t x i out = some o → ∀ (c : Code), navO [1, 1, 0, 1, 0, 1, 0, 0] (bodyOf Try.f173) = some c → ∀ (Q : Exit → ASt → Prop), Q (.exit 0) ⟨[(5, .own 1 (List.length (α := Int) o))], [.dead, .elems 1 (List.map cI o)]⟩ → ALoopU Try.prog B 0 44 (hold c .mk) ⟨[(3, .ptr 0 0), (5, .own 1 (List.length (α := Int) out)), (16, .arr (List.map Vl.Ctor.c x.ctors)), (17, .lit (.int .i64 (x.ctors.length : Int))), (18, .lit (.int .i64 (i : Int)))], [.cells [.lit (.int .i64 t.data), .lit (.int .i64 t.index)], .elems 1 (List.map cI out)]⟩ (hold Q .mk)) := by
  refine F.impl_ctorsOf_l1.partial_correctness t x
    (fun i out o => ∀ (c : Code), navO [1, 1, 0, 1, 0, 1, 0, 0] (bodyOf Try.f173) = some c → ∀ (Q : Exit → ASt → Prop), Q (.exit 0) ⟨[(5, .own 1 (List.length (α := Int) o))], [.dead, .elems 1 (List.map cI o)]⟩ → ALoopU Try.prog B 0 44 (hold c .mk) ⟨[(3, .ptr 0 0), (5, .own 1 (List.length (α := Int) out)), (16, .arr (List.map Vl.Ctor.c x.ctors)), (17, .lit (.int .i64 (x.ctors.length : Int))), (18, .lit (.int .i64 (i : Int)))], [.cells [.lit (.int .i64 t.data), .lit (.int .i64 t.index)], .elems 1 (List.map cI out)]⟩ (hold Q .mk))
    ?_
  · intro _f_impl_ctorsOf_l1 ih_impl_ctorsOf_l1 i out o hF
    intro c hc Q hq
    obtain rfl : c = _ := navEq hc rfl
    refine ALoopU.know fun hk hs => ?_
    have b16 := hk 16
    simp -dsimp at b16
    have d1 := hs 1 _ rfl
    simp -dsimp [Blk.bnd] at d1
    clear hk hs
    refine ALoopU.enter ?_
    simp -dsimp
    repeat (refine chk.go (by first | omega | assumption | (simp_all; done) | (simp_all; omega)) ?_; try simp -dsimp)
    refine abr.split (fun h4 => ?_) (fun h4 => ?_)
    · have q5 : (i < x.ctors.length) := by first | exact h4 | omega | (simpa using h4) | (simp at h4 ⊢; omega) | simp_all
      have z6 : ((i : Int) < (x.ctors.length : Int)) := by first | omega | simp_all
      rw [if_pos q5] at hF
      have hF := ob hF; obtain ⟨x7, e8, hF⟩ := hF
      have le8 := lt_of_get e8
      simp -dsimp [h4, z6, ↓e8]
      repeat (refine chk.go (by first | omega | assumption | (simp_all; done) | (simp_all; omega)) ?_; try simp -dsimp [h4, z6, ↓e8])
      refine abr.split (fun h9 => ?_) (fun h9 => ?_)
      · have q10 : ¬ (t.index = 0) := by first | exact h9 | omega | (simpa using h9) | (simp at h9 ⊢; omega) | simp_all
        rw [if_neg q10] at hF
        simp -dsimp [h4, z6, ↓e8, h9, q10]
        repeat (refine chk.go (by first | omega | assumption | (simp_all; done) | (simp_all; omega)) ?_; try simp -dsimp [h4, z6, ↓e8, h9, q10])
        refine abr.split (fun h11 => ?_) (fun h11 => ?_)
        · have q12 : ¬ (x7.index = 0) := by first | exact h11 | omega | (simpa using h11) | (simp at h11 ⊢; omega) | simp_all
          rw [if_neg q12] at hF
          simp -dsimp [h4, z6, ↓e8, h9, q10, h11, q12]
          repeat (refine chk.go (by first | omega | assumption | (simp_all; done) | (simp_all; omega)) ?_; try simp -dsimp [h4, z6, ↓e8, h9, q10, h11, q12])
          refine abr.split (fun h13 => ?_) (fun h13 => ?_)
          · have q14 : (x7.index = t.index) := by first | exact h13 | omega | (simpa using h13) | (simp at h13 ⊢; omega) | simp_all
            rw [if_pos q14] at hF
            have hF := oc hF; obtain ⟨c15, hF⟩ := hF
            have w16 : IntKind.i64.wrap ((i : Int) + 1) = (i : Int) + 1 := wrap_in (by omega) (by omega)
            simp -dsimp [h4, z6, ↓e8, h9, q10, h11, q12, h13, w16]
            repeat (refine chk.go (by first | omega | assumption | (simp_all; done) | (simp_all; omega)) ?_; try simp -dsimp [h4, z6, ↓e8, h9, q10, h11, q12, h13, w16])
            refine Again.go ⟨[(3, .ptr 0 0), (5, .own 1 (List.length (α := Int) (out ++ [(i : Int)]))), (16, .arr (List.map Vl.Ctor.c x.ctors)), (17, .lit (.int .i64 (x.ctors.length : Int))), (18, .lit (.int .i64 ((i + 1) : Int)))], [.cells [.lit (.int .i64 t.data), .lit (.int .i64 t.index)], .elems 1 (List.map cI (out ++ [(i : Int)]))]⟩ (Gh.to (by simp) (by first | (simp -dsimp; done) | (simp -dsimp [h4, z6, ↓e8, h9, q10, h11, q12, h13, w16]; done) | simp_all) (by first | (simp -dsimp; done) | (simp -dsimp [h4, z6, ↓e8, h9, q10, h11, q12, h13, w16]; done) | simp_all) (by first | (simp -dsimp; done) | (simp -dsimp [h4, z6, ↓e8, h9, q10, h11, q12, h13, w16]; done) | simp_all)) ?_
            exact (ih_impl_ctorsOf_l1 (i + 1) (out ++ [(i : Int)]) o hF) _ rfl _ hq
          · have q14 : ¬ (x7.index = t.index) := by first | exact h13 | omega | (simpa using h13) | (simp at h13 ⊢; omega) | simp_all
            rw [if_neg q14] at hF
            have w17 : IntKind.i64.wrap ((i : Int) + 1) = (i : Int) + 1 := wrap_in (by omega) (by omega)
            simp -dsimp [h4, z6, ↓e8, h9, q10, h11, q12, h13, q14, w17]
            repeat (refine chk.go (by first | omega | assumption | (simp_all; done) | (simp_all; omega)) ?_; try simp -dsimp [h4, z6, ↓e8, h9, q10, h11, q12, h13, q14, w17])
            refine Again.go ⟨[(3, .ptr 0 0), (5, .own 1 (List.length (α := Int) out)), (16, .arr (List.map Vl.Ctor.c x.ctors)), (17, .lit (.int .i64 (x.ctors.length : Int))), (18, .lit (.int .i64 ((i + 1) : Int)))], [.cells [.lit (.int .i64 t.data), .lit (.int .i64 t.index)], .elems 1 (List.map cI out)]⟩ (Gh.to (by simp) (by first | (simp -dsimp; done) | (simp -dsimp [h4, z6, ↓e8, h9, q10, h11, q12, h13, q14, w17]; done) | simp_all) (by first | (simp -dsimp; done) | (simp -dsimp [h4, z6, ↓e8, h9, q10, h11, q12, h13, q14, w17]; done) | simp_all) (by first | (simp -dsimp; done) | (simp -dsimp [h4, z6, ↓e8, h9, q10, h11, q12, h13, q14, w17]; done) | simp_all)) ?_
            exact (ih_impl_ctorsOf_l1 (i + 1) out o hF) _ rfl _ hq
        · have q12 : (x7.index = 0) := by first | exact h11 | omega | (simpa using h11) | (simp at h11 ⊢; omega) | simp_all
          rw [if_pos q12] at hF
          have hF := oc hF; obtain ⟨c18, hF⟩ := hF
          have w19 : IntKind.i64.wrap ((i : Int) + 1) = (i : Int) + 1 := wrap_in (by omega) (by omega)
          simp -dsimp [h4, z6, ↓e8, h9, q10, h11, q12, w19]
          repeat (refine chk.go (by first | omega | assumption | (simp_all; done) | (simp_all; omega)) ?_; try simp -dsimp [h4, z6, ↓e8, h9, q10, h11, q12, w19])
          refine Again.go ⟨[(3, .ptr 0 0), (5, .own 1 (List.length (α := Int) (out ++ [(i : Int)]))), (16, .arr (List.map Vl.Ctor.c x.ctors)), (17, .lit (.int .i64 (x.ctors.length : Int))), (18, .lit (.int .i64 ((i + 1) : Int)))], [.cells [.lit (.int .i64 t.data), .lit (.int .i64 t.index)], .elems 1 (List.map cI (out ++ [(i : Int)]))]⟩ (Gh.to (by simp) (by first | (simp -dsimp; done) | (simp -dsimp [h4, z6, ↓e8, h9, q10, h11, q12, w19]; done) | simp_all) (by first | (simp -dsimp; done) | (simp -dsimp [h4, z6, ↓e8, h9, q10, h11, q12, w19]; done) | simp_all) (by first | (simp -dsimp; done) | (simp -dsimp [h4, z6, ↓e8, h9, q10, h11, q12, w19]; done) | simp_all)) ?_
          exact (ih_impl_ctorsOf_l1 (i + 1) (out ++ [(i : Int)]) o hF) _ rfl _ hq
      · have q10 : (t.index = 0) := by first | exact h9 | omega | (simpa using h9) | (simp at h9 ⊢; omega) | simp_all
        rw [if_pos q10] at hF
        have hF := oc hF; obtain ⟨c20, hF⟩ := hF
        have w21 : IntKind.i64.wrap ((i : Int) + 1) = (i : Int) + 1 := wrap_in (by omega) (by omega)
        simp -dsimp [h4, z6, ↓e8, h9, q10, w21]
        repeat (refine chk.go (by first | omega | assumption | (simp_all; done) | (simp_all; omega)) ?_; try simp -dsimp [h4, z6, ↓e8, h9, q10, w21])
        refine Again.go ⟨[(3, .ptr 0 0), (5, .own 1 (List.length (α := Int) (out ++ [(i : Int)]))), (16, .arr (List.map Vl.Ctor.c x.ctors)), (17, .lit (.int .i64 (x.ctors.length : Int))), (18, .lit (.int .i64 ((i + 1) : Int)))], [.cells [.lit (.int .i64 t.data), .lit (.int .i64 t.index)], .elems 1 (List.map cI (out ++ [(i : Int)]))]⟩ (Gh.to (by simp) (by first | (simp -dsimp; done) | (simp -dsimp [h4, z6, ↓e8, h9, q10, w21]; done) | simp_all) (by first | (simp -dsimp; done) | (simp -dsimp [h4, z6, ↓e8, h9, q10, w21]; done) | simp_all) (by first | (simp -dsimp; done) | (simp -dsimp [h4, z6, ↓e8, h9, q10, w21]; done) | simp_all)) ?_
        exact (ih_impl_ctorsOf_l1 (i + 1) (out ++ [(i : Int)]) o hF) _ rfl _ hq
    · have q5 : ¬ (i < x.ctors.length) := by first | exact h4 | omega | (simpa using h4) | (simp at h4 ⊢; omega) | simp_all
      have z6 : ¬ ((i : Int) < (x.ctors.length : Int)) := by first | omega | simp_all
      rw [if_neg q5] at hF
      cases hF
      simp -dsimp [h4, q5, z6]
      repeat (refine chk.go (by first | omega | assumption | (simp_all; done) | (simp_all; omega)) ?_; try simp -dsimp [h4, q5, z6])
      refine Leave.go ⟨[(5, .own 1 (List.length (α := Int) out))], [.dead, .elems 1 (List.map cI out)]⟩ (Gh.to (by simp) (by first | (simp -dsimp; done) | (simp -dsimp [h4, q5, z6]; done) | simp_all) (by first | (simp -dsimp; done) | (simp -dsimp [h4, q5, z6]; done) | simp_all) (by first | (simp -dsimp; done) | (simp -dsimp [h4, q5, z6]; done) | simp_all)) ?_
      exact hq

theorem C.impl_ctorsOf_l1 (B : Nat) (hB1 : 67108864 ≤ B) (hB2 : B ≤ 9223372036854775807) (t : Vl.Ty) (x : Vl.Data) (i : Nat) (out : List Int) (o : List Int) (hF : F.impl_ctorsOf_l1 t x i out = some o) : ∀ (c : Code), navO [1, 1, 0, 1, 0, 1, 0, 0] (bodyOf Try.f173) = some c → ∀ (Q : Exit → ASt → Prop), Q (.exit 0) ⟨[(5, .own 1 (List.length (α := Int) o))], [.dead, .elems 1 (List.map cI o)]⟩ → ALoopU Try.prog B 0 44 (hold c .mk) ⟨[(3, .ptr 0 0), (5, .own 1 (List.length (α := Int) out)), (16, .arr (List.map Vl.Ctor.c x.ctors)), (17, .lit (.int .i64 (x.ctors.length : Int))), (18, .lit (.int .i64 (i : Int)))], [.cells [.lit (.int .i64 t.data), .lit (.int .i64 t.index)], .elems 1 (List.map cI out)]⟩ (hold Q .mk) :=
  (CC.impl_ctorsOf_l1 B hB1 hB2 t x) i out o hF

set_option maxRecDepth 100000 in
set_option maxHeartbeats 400000 in
theorem C.impl_ctorsOf (B : Nat) (hB1 : 67108864 ≤ B) (hB2 : B ≤ 9223372036854775807) (w : List Vl.Data) (t : Vl.Ty) (r : List Int) (hF : F.impl_ctorsOf w t = some r) : PureCall Try.prog B 173 [.arr (List.map Vl.Data.c w), .agg [.lit (.int .i64 t.data), .lit (.int .i64 t.index)]] (.arr (List.map cI r)) := by
  unfold F.impl_ctorsOf at hF
  refine PureCall.enterLe Try.func173 (by kernel_rfl) rfl Try.ntmps173 (by simp) (by simp) ?_
  simp -dsimp
  repeat (refine chk.go (by first | omega | assumption | (simp_all; done) | (simp_all; omega)) ?_; try simp -dsimp)
  refine abr.split (fun h1 => ?_) (fun h1 => ?_)
  · have q2 : ¬ (t.data = (-1)) := by first | exact h1 | omega | (simpa using h1) | (simp at h1 ⊢; omega) | simp_all
    rw [if_neg q2] at hF
    have hF := ob hF; obtain ⟨x, e3a, hF⟩ := hF
    have e3a := at_some e3a; obtain ⟨ne3, e3⟩ := e3a
    have le3 := lt_of_get e3
    simp -dsimp [h1, q2, ↓e3]
    repeat (refine chk.go (by first | omega | assumption | (simp_all; done) | (simp_all; omega)) ?_; try simp -dsimp [h1, q2, ↓e3])
    have hF := ob hF; obtain ⟨o', ho22, hF⟩ := hF
    refine ALoop.goU ⟨[(3, .ptr 0 0), (5, .own 1 (List.length (α := Int) [])), (16, .arr (List.map Vl.Ctor.c x.ctors)), (17, .lit (.int .i64 (x.ctors.length : Int))), (18, .lit (.int .i64 (0 : Int)))], [.cells [.lit (.int .i64 t.data), .lit (.int .i64 t.index)], .elems 1 (List.map cI [])]⟩ ((Gh.nil 5 1 (by simp -dsimp)).trans (Gh.to (by simp) (by first | (simp -dsimp; done) | (simp -dsimp [h1, q2, ↓e3]; done) | simp_all) (by first | (simp -dsimp; done) | (simp -dsimp [h1, q2, ↓e3]; done) | simp_all) (by first | (simp -dsimp; done) | (simp -dsimp [h1, q2, ↓e3]; done) | simp_all))) ?_
    refine (C.impl_ctorsOf_l1 B hB1 hB2 t x 0 [] o' ho22) _ rfl _ ?_
    cases hF
    simp -dsimp
    repeat (refine chk.go (by first | omega | assumption | (simp_all; done) | (simp_all; omega)) ?_; try simp -dsimp)
    all_goals (try omega)
  · have q2 : (t.data = (-1)) := by first | exact h1 | omega | (simpa using h1) | (simp at h1 ⊢; omega) | simp_all
    rw [if_pos q2] at hF
    cases hF
    simp -dsimp [h1, q2]
    repeat (refine chk.go (by first | omega | assumption | (simp_all; done) | (simp_all; omega)) ?_; try simp -dsimp [h1, q2])
    all_goals (try omega)

set_option maxRecDepth 100000 in
set_option maxHeartbeats 400000 in
theorem CC.slices_Index_int_l1 (B : Nat) (hB1 : 67108864 ≤ B) (hB2 : B ≤ 9223372036854775807) (s : List Int) (v : Int) : (∀ (i : Nat) (o : Lo Int Unit), F.slices_Index_int_l1 s v i = some o → ∀ (c : Code), navO [1, 0, 1, 0, 0] (bodyOf Try.f215) = some c → ∀ (Q : Exit → ASt → Prop), o.post (fun r => ∀ st, Post Try.prog Try.f215 (fun r' _ => r'.le (.lit (.int .i64 r))) .ret st → Q .ret st) (fun s => Q (.exit 0) ⟨[], []⟩) → ALoopU Try.prog B 0 19 (hold c .mk) ⟨[(0, .arr (List.map cI s)), (1, .lit (.int .i64 v)), (7, .lit (.int .i64 (s.length : Int))), (8, .lit (.int .i64 (i : Int)))], []⟩ (hold Q .mk)) := by
  refine F.slices_Index_int_l1.partial_correctness s v
    (fun i o => ∀ (c : Code), navO [1, 0, 1, 0, 0] (bodyOf Try.f215) = some c → ∀ (Q : Exit → ASt → Prop), o.post (fun r => ∀ st, Post Try.prog Try.f215 (fun r' _ => r'.le (.lit (.int .i64 r))) .ret st → Q .ret st) (fun s => Q (.exit 0) ⟨[], []⟩) → ALoopU Try.prog B 0 19 (hold c .mk) ⟨[(0, .arr (List.map cI s)), (1, .lit (.int .i64 v)), (7, .lit (.int .i64 (s.length : Int))), (8, .lit (.int .i64 (i : Int)))], []⟩ (hold Q .mk))
    ?_
  · intro _f_slices_Index_int_l1 ih_slices_Index_int_l1 i o hF
    intro c hc Q hq
    obtain rfl : c = _ := navEq hc rfl
    refine ALoopU.know fun hk hs => ?_
    have b0 := hk 0
    simp -dsimp at b0
    clear hk hs
    refine ALoopU.enter ?_
    simp -dsimp
    repeat (refine chk.go (by first | omega | assumption | (simp_all; done) | (simp_all; omega)) ?_; try simp -dsimp)
    refine abr.split (fun h1 => ?_) (fun h1 => ?_)
    · have q2 : (i < s.length) := by first | exact h1 | omega | (simpa using h1) | (simp at h1 ⊢; omega) | simp_all
      have z3 : ((i : Int) < (s.length : Int)) := by first | omega | simp_all
      rw [if_pos q2] at hF
      have hF := ob hF; obtain ⟨x, e4, hF⟩ := hF
      have le4 := lt_of_get e4
      simp -dsimp [h1, z3, ↓e4]
      repeat (refine chk.go (by first | omega | assumption | (simp_all; done) | (simp_all; omega)) ?_; try simp -dsimp [h1, z3, ↓e4])
      refine abr.split (fun h5 => ?_) (fun h5 => ?_)
      · have q6 : (v = x) := by first | exact h5 | omega | (simpa using h5) | (simp at h5 ⊢; omega) | simp_all
        rw [if_pos q6] at hF
        cases hF
        simp -dsimp [h1, z3, ↓e4, h5]
        repeat (refine chk.go (by first | omega | assumption | (simp_all; done) | (simp_all; omega)) ?_; try simp -dsimp [h1, z3, ↓e4, h5])
        refine Leave.go _ (Gh.refl _) (hq _ ?_)
        simp -dsimp [h1, z3, ↓e4, h5]
        repeat (refine chk.go (by first | omega | assumption | (simp_all; done) | (simp_all; omega)) ?_; try simp -dsimp [h1, z3, ↓e4, h5])
      · have q6 : ¬ (v = x) := by first | exact h5 | omega | (simpa using h5) | (simp at h5 ⊢; omega) | simp_all
        rw [if_neg q6] at hF
        have w7 : IntKind.i64.wrap ((i : Int) + 1) = (i : Int) + 1 := wrap_in (by omega) (by omega)
        simp -dsimp [h1, z3, ↓e4, h5, q6, w7]
        repeat (refine chk.go (by first | omega | assumption | (simp_all; done) | (simp_all; omega)) ?_; try simp -dsimp [h1, z3, ↓e4, h5, q6, w7])
        refine Again.go ⟨[(0, .arr (List.map cI s)), (1, .lit (.int .i64 v)), (7, .lit (.int .i64 (s.length : Int))), (8, .lit (.int .i64 ((i + 1) : Int)))], []⟩ (Gh.to (by simp) (by first | (simp -dsimp; done) | (simp -dsimp [h1, z3, ↓e4, h5, q6, w7]; done) | simp_all) (by first | (simp -dsimp; done) | (simp -dsimp [h1, z3, ↓e4, h5, q6, w7]; done) | simp_all) (by first | (simp -dsimp; done) | (simp -dsimp [h1, z3, ↓e4, h5, q6, w7]; done) | simp_all)) ?_
        exact (ih_slices_Index_int_l1 (i + 1) o hF) _ rfl _ hq
    · have q2 : ¬ (i < s.length) := by first | exact h1 | omega | (simpa using h1) | (simp at h1 ⊢; omega) | simp_all
      have z3 : ¬ ((i : Int) < (s.length : Int)) := by first | omega | simp_all
      rw [if_neg q2] at hF
      cases hF
      simp -dsimp [h1, q2, z3]
      repeat (refine chk.go (by first | omega | assumption | (simp_all; done) | (simp_all; omega)) ?_; try simp -dsimp [h1, q2, z3])
      refine Leave.go ⟨[], []⟩ (Gh.to (by simp) (by first | (simp -dsimp; done) | (simp -dsimp [h1, q2, z3]; done) | simp_all) (by first | (simp -dsimp; done) | (simp -dsimp [h1, q2, z3]; done) | simp_all) (by first | (simp -dsimp; done) | (simp -dsimp [h1, q2, z3]; done) | simp_all)) ?_
      exact hq

theorem C.slices_Index_int_l1 (B : Nat) (hB1 : 67108864 ≤ B) (hB2 : B ≤ 9223372036854775807) (s : List Int) (v : Int) (i : Nat) (o : Lo Int Unit) (hF : F.slices_Index_int_l1 s v i = some o) : ∀ (c : Code), navO [1, 0, 1, 0, 0] (bodyOf Try.f215) = some c → ∀ (Q : Exit → ASt → Prop), o.post (fun r => ∀ st, Post Try.prog Try.f215 (fun r' _ => r'.le (.lit (.int .i64 r))) .ret st → Q .ret st) (fun s => Q (.exit 0) ⟨[], []⟩) → ALoopU Try.prog B 0 19 (hold c .mk) ⟨[(0, .arr (List.map cI s)), (1, .lit (.int .i64 v)), (7, .lit (.int .i64 (s.length : Int))), (8, .lit (.int .i64 (i : Int)))], []⟩ (hold Q .mk) :=
  (CC.slices_Index_int_l1 B hB1 hB2 s v) i o hF

set_option maxRecDepth 100000 in
set_option maxHeartbeats 400000 in
theorem C.slices_Index_int (B : Nat) (hB1 : 67108864 ≤ B) (hB2 : B ≤ 9223372036854775807) (s : List Int) (v : Int) (r : Int) (hF : F.slices_Index_int s v = some r) : PureCall Try.prog B 215 [.arr (List.map cI s), .lit (.int .i64 v)] (.lit (.int .i64 r)) := by
  unfold F.slices_Index_int at hF
  refine PureCall.enterLe Try.func215 (by kernel_rfl) rfl Try.ntmps215 (by simp) (by simp) ?_
  simp -dsimp
  repeat (refine chk.go (by first | omega | assumption | (simp_all; done) | (simp_all; omega)) ?_; try simp -dsimp)
  have hF := ob hF; obtain ⟨o', ho8, hF⟩ := hF
  refine ALoop.goU ⟨[(0, .arr (List.map cI s)), (1, .lit (.int .i64 v)), (7, .lit (.int .i64 (s.length : Int))), (8, .lit (.int .i64 (0 : Int)))], []⟩ (Gh.to (by simp) (by simp -dsimp) (by simp -dsimp) (by simp -dsimp)) ?_
  refine (C.slices_Index_int_l1 B hB1 hB2 s v 0 o' ho8) _ rfl _ ?_
  rcases o' with r0 | s9
  · dsimp only at hF
    cases hF
    intro st h
    simpa using h
  · dsimp only at hF
    cases hF
    simp -dsimp
    repeat (refine chk.go (by first | omega | assumption | (simp_all; done) | (simp_all; omega)) ?_; try simp -dsimp)
    all_goals (try omega)

set_option maxRecDepth 100000 in
set_option maxHeartbeats 400000 in
theorem C.slices_Contains_int (B : Nat) (hB1 : 67108864 ≤ B) (hB2 : B ≤ 9223372036854775807) (s : List Int) (v : Int) (r : Bool) (hF : F.slices_Contains_int s v = some r) : PureCall Try.prog B 187 [.arr (List.map cI s), .lit (.int .i64 v)] (.lit (.bool r)) := by
  unfold F.slices_Contains_int at hF
  refine PureCall.enterLe Try.func187 (by kernel_rfl) rfl Try.ntmps187 (by simp) (by simp) ?_
  simp -dsimp
  repeat (refine chk.go (by first | omega | assumption | (simp_all; done) | (simp_all; omega)) ?_; try simp -dsimp)
  have hF := ob hF; obtain ⟨v1, e2, hF⟩ := hF
  refine ((C.slices_Index_int B hB1 hB2 s v v1 e2)).goW (by simp) (by simp) ?_
  cases hF
  simp -dsimp
  repeat (refine chk.go (by first | omega | assumption | (simp_all; done) | (simp_all; omega)) ?_; try simp -dsimp)
  all_goals (try omega)

set_option maxRecDepth 100000 in
set_option maxHeartbeats 400000 in
theorem CC.impl_argTypes_l1 (B : Nat) (hB1 : 67108864 ≤ B) (hB2 : B ≤ 9223372036854775807) (t : Vl.Ty) (x2 : Vl.Ctor) : (∀ (i : Nat) (out : List Vl.Ty) (o : List Vl.Ty), F.impl_argTypes_l1 t x2 i out = some o → ∀ (c : Code), navO [1, 1, 1, 1, 1, 0, 1, 0, 0] (bodyOf Try.f188) = some c → ∀ (Q : Exit → ASt → Prop), Q (.exit 0) ⟨[(9, .own 2 (List.length (α := Vl.Ty) o))], [.dead, .dead, .elems 2 (List.map Vl.Ty.c o)]⟩ → ALoopU Try.prog B 0 45 (hold c .mk) ⟨[(8, .lit (.int .i64 t.index)), (9, .own 2 (List.length (α := Vl.Ty) out)), (28, .arr (List.map Vl.Ty.c x2.args)), (29, .lit (.int .i64 (x2.args.length : Int))), (30, .lit (.int .i64 (i : Int)))], [.dead, .dead, .elems 2 (List.map Vl.Ty.c out)]⟩ (hold Q .mk)) := by
  refine F.impl_argTypes_l1.partial_correctness t x2
    (fun i out o => ∀ (c : Code), navO [1, 1, 1, 1, 1, 0, 1, 0, 0] (bodyOf Try.f188) = some c → ∀ (Q : Exit → ASt → Prop), Q (.exit 0) ⟨[(9, .own 2 (List.length (α := Vl.Ty) o))], [.dead, .dead, .elems 2 (List.map Vl.Ty.c o)]⟩ → ALoopU Try.prog B 0 45 (hold c .mk) ⟨[(8, .lit (.int .i64 t.index)), (9, .own 2 (List.length (α := Vl.Ty) out)), (28, .arr (List.map Vl.Ty.c x2.args)), (29, .lit (.int .i64 (x2.args.length : Int))), (30, .lit (.int .i64 (i : Int)))], [.dead, .dead, .elems 2 (List.map Vl.Ty.c out)]⟩ (hold Q .mk))
    ?_
  · intro _f_impl_argTypes_l1 ih_impl_argTypes_l1 i out o hF
    intro c hc Q hq
    obtain rfl : c = _ := navEq hc rfl
    refine ALoopU.know fun hk hs => ?_
    have b28 := hk 28
    simp -dsimp at b28
    have d2 := hs 2 _ rfl
    simp -dsimp [Blk.bnd] at d2
    clear hk hs
    refine ALoopU.enter ?_
    simp -dsimp
    repeat (refine chk.go (by first | omega | assumption | (simp_all; done) | (simp_all; omega)) ?_; try simp -dsimp)
    refine abr.split (fun h6 => ?_) (fun h6 => ?_)
    · have q7 : (i < x2.args.length) := by first | exact h6 | omega | (simpa using h6) | (simp at h6 ⊢; omega) | simp_all
      have z8 : ((i : Int) < (x2.args.length : Int)) := by first | omega | simp_all
      rw [if_pos q7] at hF
      have hF := ob hF; obtain ⟨x9, e10, hF⟩ := hF
      have le10 := lt_of_get e10
      simp -dsimp [h6, z8, ↓e10]
      repeat (refine chk.go (by first | omega | assumption | (simp_all; done) | (simp_all; omega)) ?_; try simp -dsimp [h6, z8, ↓e10])
      refine abr.split (fun h11 => ?_) (fun h11 => ?_)
      · have q12 : (x9.index = (-1)) := by first | exact h11 | omega | (simpa using h11) | (simp at h11 ⊢; omega) | simp_all
        rw [if_pos q12] at hF
        have hF := oc hF; obtain ⟨c13, hF⟩ := hF
        have w14 : IntKind.i64.wrap ((i : Int) + 1) = (i : Int) + 1 := wrap_in (by omega) (by omega)
        simp -dsimp [h6, z8, ↓e10, h11, w14]
        repeat (refine chk.go (by first | omega | assumption | (simp_all; done) | (simp_all; omega)) ?_; try simp -dsimp [h6, z8, ↓e10, h11, w14])
        refine Again.go ⟨[(8, .lit (.int .i64 t.index)), (9, .own 2 (List.length (α := Vl.Ty) (out ++ [(⟨x9.data, t.index⟩ : Vl.Ty)]))), (28, .arr (List.map Vl.Ty.c x2.args)), (29, .lit (.int .i64 (x2.args.length : Int))), (30, .lit (.int .i64 ((i + 1) : Int)))], [.dead, .dead, .elems 2 (List.map Vl.Ty.c (out ++ [(⟨x9.data, t.index⟩ : Vl.Ty)]))]⟩ (Gh.to (by simp) (by first | (simp -dsimp; done) | (simp -dsimp [h6, z8, ↓e10, h11, w14]; done) | simp_all) (by first | (simp -dsimp; done) | (simp -dsimp [h6, z8, ↓e10, h11, w14]; done) | simp_all) (by first | (simp -dsimp; done) | (simp -dsimp [h6, z8, ↓e10, h11, w14]; done) | simp_all)) ?_
        exact (ih_impl_argTypes_l1 (i + 1) (out ++ [(⟨x9.data, t.index⟩ : Vl.Ty)]) o hF) _ rfl _ hq
      · have q12 : ¬ (x9.index = (-1)) := by first | exact h11 | omega | (simpa using h11) | (simp at h11 ⊢; omega) | simp_all
        rw [if_neg q12] at hF
        have hF := oc hF; obtain ⟨c15, hF⟩ := hF
        have w16 : IntKind.i64.wrap ((i : Int) + 1) = (i : Int) + 1 := wrap_in (by omega) (by omega)
        simp -dsimp [h6, z8, ↓e10, h11, q12, w16]
        repeat (refine chk.go (by first | omega | assumption | (simp_all; done) | (simp_all; omega)) ?_; try simp -dsimp [h6, z8, ↓e10, h11, q12, w16])
        refine Again.go ⟨[(8, .lit (.int .i64 t.index)), (9, .own 2 (List.length (α := Vl.Ty) (out ++ [x9]))), (28, .arr (List.map Vl.Ty.c x2.args)), (29, .lit (.int .i64 (x2.args.length : Int))), (30, .lit (.int .i64 ((i + 1) : Int)))], [.dead, .dead, .elems 2 (List.map Vl.Ty.c (out ++ [x9]))]⟩ (Gh.to (by simp) (by first | (simp -dsimp; done) | (simp -dsimp [h6, z8, ↓e10, h11, q12, w16]; done) | simp_all) (by first | (simp -dsimp; done) | (simp -dsimp [h6, z8, ↓e10, h11, q12, w16]; done) | simp_all) (by first | (simp -dsimp; done) | (simp -dsimp [h6, z8, ↓e10, h11, q12, w16]; done) | simp_all)) ?_
        exact (ih_impl_argTypes_l1 (i + 1) (out ++ [x9]) o hF) _ rfl _ hq
    · have q7 : ¬ (i < x2.args.length) := by first | exact h6 | omega | (simpa using h6) | (simp at h6 ⊢; omega) | simp_all
      have z8 : ¬ ((i : Int) < (x2.args.length : Int)) := by first | omega | simp_all
      rw [if_neg q7] at hF
      cases hF
      simp -dsimp [h6, q7, z8]
      repeat (refine chk.go (by first | omega | assumption | (simp_all; done) | (simp_all; omega)) ?_; try simp -dsimp [h6, q7, z8])
      refine Leave.go ⟨[(9, .own 2 (List.length (α := Vl.Ty) out))], [.dead, .dead, .elems 2 (List.map Vl.Ty.c out)]⟩ (Gh.to (by simp) (by first | (simp -dsimp; done) | (simp -dsimp [h6, q7, z8]; done) | simp_all) (by first | (simp -dsimp; done) | (simp -dsimp [h6, q7, z8]; done) | simp_all) (by first | (simp -dsimp; done) | (simp -dsimp [h6, q7, z8]; done) | simp_all)) ?_
      exact hq

theorem C.impl_argTypes_l1 (B : Nat) (hB1 : 67108864 ≤ B) (hB2 : B ≤ 9223372036854775807) (t : Vl.Ty) (x2 : Vl.Ctor) (i : Nat) (out : List Vl.Ty) (o : List Vl.Ty) (hF : F.impl_argTypes_l1 t x2 i out = some o) : ∀ (c : Code), navO [1, 1, 1, 1, 1, 0, 1, 0, 0] (bodyOf Try.f188) = some c → ∀ (Q : Exit → ASt → Prop), Q (.exit 0) ⟨[(9, .own 2 (List.length (α := Vl.Ty) o))], [.dead, .dead, .elems 2 (List.map Vl.Ty.c o)]⟩ → ALoopU Try.prog B 0 45 (hold c .mk) ⟨[(8, .lit (.int .i64 t.index)), (9, .own 2 (List.length (α := Vl.Ty) out)), (28, .arr (List.map Vl.Ty.c x2.args)), (29, .lit (.int .i64 (x2.args.length : Int))), (30, .lit (.int .i64 (i : Int)))], [.dead, .dead, .elems 2 (List.map Vl.Ty.c out)]⟩ (hold Q .mk) :=
  (CC.impl_argTypes_l1 B hB1 hB2 t x2) i out o hF

set_option maxRecDepth 100000 in
set_option maxHeartbeats 400000 in
theorem CC.impl_argTypes_l2 (B : Nat) (hB1 : 67108864 ≤ B) (hB2 : B ≤ 9223372036854775807) (x2 : Vl.Ctor) : (∀ (i18 : Nat) (out19 : List Vl.Ty) (o : List Vl.Ty), F.impl_argTypes_l2 x2 i18 out19 = some o → ∀ (c : Code), navO [1, 1, 1, 1, 1, 0, 1, 0, 0] (bodyOf Try.f188) = some c → ∀ (Q : Exit → ASt → Prop), Q (.exit 0) ⟨[(9, .own 2 (List.length (α := Vl.Ty) o))], [.dead, .dead, .elems 2 (List.map Vl.Ty.c o)]⟩ → ALoopU Try.prog B 0 45 (hold c .mk) ⟨[(8, .lit (.int .i64 x2.index)), (9, .own 2 (List.length (α := Vl.Ty) out19)), (28, .arr (List.map Vl.Ty.c x2.args)), (29, .lit (.int .i64 (x2.args.length : Int))), (30, .lit (.int .i64 (i18 : Int)))], [.dead, .dead, .elems 2 (List.map Vl.Ty.c out19)]⟩ (hold Q .mk)) := by
  refine F.impl_argTypes_l2.partial_correctness x2
    (fun i18 out19 o => ∀ (c : Code), navO [1, 1, 1, 1, 1, 0, 1, 0, 0] (bodyOf Try.f188) = some c → ∀ (Q : Exit → ASt → Prop), Q (.exit 0) ⟨[(9, .own 2 (List.length (α := Vl.Ty) o))], [.dead, .dead, .elems 2 (List.map Vl.Ty.c o)]⟩ → ALoopU Try.prog B 0 45 (hold c .mk) ⟨[(8, .lit (.int .i64 x2.index)), (9, .own 2 (List.length (α := Vl.Ty) out19)), (28, .arr (List.map Vl.Ty.c x2.args)), (29, .lit (.int .i64 (x2.args.length : Int))), (30, .lit (.int .i64 (i18 : Int)))], [.dead, .dead, .elems 2 (List.map Vl.Ty.c out19)]⟩ (hold Q .mk))
    ?_
  · intro _f_impl_argTypes_l2 ih_impl_argTypes_l2 i18 out19 o hF
    intro c hc Q hq
    obtain rfl : c = _ := navEq hc rfl
    refine ALoopU.know fun hk hs => ?_
    have b28 := hk 28
    simp -dsimp at b28
    have d2 := hs 2 _ rfl
    simp -dsimp [Blk.bnd] at d2
    clear hk hs
    refine ALoopU.enter ?_
    simp -dsimp
    repeat (refine chk.go (by first | omega | assumption | (simp_all; done) | (simp_all; omega)) ?_; try simp -dsimp)
    refine abr.split (fun h20 => ?_) (fun h20 => ?_)
    · have q21 : (i18 < x2.args.length) := by first | exact h20 | omega | (simpa using h20) | (simp at h20 ⊢; omega) | simp_all
      have z22 : ((i18 : Int) < (x2.args.length : Int)) := by first | omega | simp_all
      rw [if_pos q21] at hF
      have hF := ob hF; obtain ⟨x23, e24, hF⟩ := hF
      have le24 := lt_of_get e24
      simp -dsimp [h20, z22, ↓e24]
      repeat (refine chk.go (by first | omega | assumption | (simp_all; done) | (simp_all; omega)) ?_; try simp -dsimp [h20, z22, ↓e24])
      refine abr.split (fun h25 => ?_) (fun h25 => ?_)
      · have q26 : (x23.index = (-1)) := by first | exact h25 | omega | (simpa using h25) | (simp at h25 ⊢; omega) | simp_all
        rw [if_pos q26] at hF
        have hF := oc hF; obtain ⟨c27, hF⟩ := hF
        have w28 : IntKind.i64.wrap ((i18 : Int) + 1) = (i18 : Int) + 1 := wrap_in (by omega) (by omega)
        simp -dsimp [h20, z22, ↓e24, h25, w28]
        repeat (refine chk.go (by first | omega | assumption | (simp_all; done) | (simp_all; omega)) ?_; try simp -dsimp [h20, z22, ↓e24, h25, w28])
        refine Again.go ⟨[(8, .lit (.int .i64 x2.index)), (9, .own 2 (List.length (α := Vl.Ty) (out19 ++ [(⟨x23.data, x2.index⟩ : Vl.Ty)]))), (28, .arr (List.map Vl.Ty.c x2.args)), (29, .lit (.int .i64 (x2.args.length : Int))), (30, .lit (.int .i64 ((i18 + 1) : Int)))], [.dead, .dead, .elems 2 (List.map Vl.Ty.c (out19 ++ [(⟨x23.data, x2.index⟩ : Vl.Ty)]))]⟩ (Gh.to (by simp) (by first | (simp -dsimp; done) | (simp -dsimp [h20, z22, ↓e24, h25, w28]; done) | simp_all) (by first | (simp -dsimp; done) | (simp -dsimp [h20, z22, ↓e24, h25, w28]; done) | simp_all) (by first | (simp -dsimp; done) | (simp -dsimp [h20, z22, ↓e24, h25, w28]; done) | simp_all)) ?_
        exact (ih_impl_argTypes_l2 (i18 + 1) (out19 ++ [(⟨x23.data, x2.index⟩ : Vl.Ty)]) o hF) _ rfl _ hq
      · have q26 : ¬ (x23.index = (-1)) := by first | exact h25 | omega | (simpa using h25) | (simp at h25 ⊢; omega) | simp_all
        rw [if_neg q26] at hF
        have hF := oc hF; obtain ⟨c29, hF⟩ := hF
        have w30 : IntKind.i64.wrap ((i18 : Int) + 1) = (i18 : Int) + 1 := wrap_in (by omega) (by omega)
        simp -dsimp [h20, z22, ↓e24, h25, q26, w30]
        repeat (refine chk.go (by first | omega | assumption | (simp_all; done) | (simp_all; omega)) ?_; try simp -dsimp [h20, z22, ↓e24, h25, q26, w30])
        refine Again.go ⟨[(8, .lit (.int .i64 x2.index)), (9, .own 2 (List.length (α := Vl.Ty) (out19 ++ [x23]))), (28, .arr (List.map Vl.Ty.c x2.args)), (29, .lit (.int .i64 (x2.args.length : Int))), (30, .lit (.int .i64 ((i18 + 1) : Int)))], [.dead, .dead, .elems 2 (List.map Vl.Ty.c (out19 ++ [x23]))]⟩ (Gh.to (by simp) (by first | (simp -dsimp; done) | (simp -dsimp [h20, z22, ↓e24, h25, q26, w30]; done) | simp_all) (by first | (simp -dsimp; done) | (simp -dsimp [h20, z22, ↓e24, h25, q26, w30]; done) | simp_all) (by first | (simp -dsimp; done) | (simp -dsimp [h20, z22, ↓e24, h25, q26, w30]; done) | simp_all)) ?_
        exact (ih_impl_argTypes_l2 (i18 + 1) (out19 ++ [x23]) o hF) _ rfl _ hq
    · have q21 : ¬ (i18 < x2.args.length) := by first | exact h20 | omega | (simpa using h20) | (simp at h20 ⊢; omega) | simp_all
      have z22 : ¬ ((i18 : Int) < (x2.args.length : Int)) := by first | omega | simp_all
      rw [if_neg q21] at hF
      cases hF
      simp -dsimp [h20, q21, z22]
      repeat (refine chk.go (by first | omega | assumption | (simp_all; done) | (simp_all; omega)) ?_; try simp -dsimp [h20, q21, z22])
      refine Leave.go ⟨[(9, .own 2 (List.length (α := Vl.Ty) out19))], [.dead, .dead, .elems 2 (List.map Vl.Ty.c out19)]⟩ (Gh.to (by simp) (by first | (simp -dsimp; done) | (simp -dsimp [h20, q21, z22]; done) | simp_all) (by first | (simp -dsimp; done) | (simp -dsimp [h20, q21, z22]; done) | simp_all) (by first | (simp -dsimp; done) | (simp -dsimp [h20, q21, z22]; done) | simp_all)) ?_
      exact hq

theorem C.impl_argTypes_l2 (B : Nat) (hB1 : 67108864 ≤ B) (hB2 : B ≤ 9223372036854775807) (x2 : Vl.Ctor) (i18 : Nat) (out19 : List Vl.Ty) (o : List Vl.Ty) (hF : F.impl_argTypes_l2 x2 i18 out19 = some o) : ∀ (c : Code), navO [1, 1, 1, 1, 1, 0, 1, 0, 0] (bodyOf Try.f188) = some c → ∀ (Q : Exit → ASt → Prop), Q (.exit 0) ⟨[(9, .own 2 (List.length (α := Vl.Ty) o))], [.dead, .dead, .elems 2 (List.map Vl.Ty.c o)]⟩ → ALoopU Try.prog B 0 45 (hold c .mk) ⟨[(8, .lit (.int .i64 x2.index)), (9, .own 2 (List.length (α := Vl.Ty) out19)), (28, .arr (List.map Vl.Ty.c x2.args)), (29, .lit (.int .i64 (x2.args.length : Int))), (30, .lit (.int .i64 (i18 : Int)))], [.dead, .dead, .elems 2 (List.map Vl.Ty.c out19)]⟩ (hold Q .mk) :=
  (CC.impl_argTypes_l2 B hB1 hB2 x2) i18 out19 o hF

set_option maxRecDepth 100000 in
set_option maxHeartbeats 400000 in
theorem C.impl_argTypes (B : Nat) (hB1 : 67108864 ≤ B) (hB2 : B ≤ 9223372036854775807) (w : List Vl.Data) (t : Vl.Ty) (ctor : Int) (r : List Vl.Ty) (hF : F.impl_argTypes w t ctor = some r) : PureCall Try.prog B 188 [.arr (List.map Vl.Data.c w), .agg [.lit (.int .i64 t.data), .lit (.int .i64 t.index)], .lit (.int .i64 ctor)] (.arr (List.map Vl.Ty.c r)) := by
  unfold F.impl_argTypes at hF
  refine PureCall.enterLe Try.func188 (by kernel_rfl) rfl Try.ntmps188 (by simp) (by simp) ?_
  have hF := ob hF; obtain ⟨x, e1a, hF⟩ := hF
  have e1a := at_some e1a; obtain ⟨ne1, e1⟩ := e1a
  have le1 := lt_of_get e1
  have hF := ob hF; obtain ⟨x2, e3a, hF⟩ := hF
  have e3a := at_some e3a; obtain ⟨ne3, e3⟩ := e3a
  have le3 := lt_of_get e3
  simp -dsimp [↓e1, ↓e3]
  repeat (refine chk.go (by first | omega | assumption | (simp_all; done) | (simp_all; omega)) ?_; try simp -dsimp [↓e1, ↓e3])
  refine abr.split (fun h4 => ?_) (fun h4 => ?_)
  · have q5 : (x2.index = 0) := by first | exact h4 | omega | (simpa using h4) | (simp at h4 ⊢; omega) | simp_all
    rw [if_pos q5] at hF
    simp -dsimp [↓e1, ↓e3, h4]
    repeat (refine chk.go (by first | omega | assumption | (simp_all; done) | (simp_all; omega)) ?_; try simp -dsimp [↓e1, ↓e3, h4])
    have hF := ob hF; obtain ⟨o', ho17, hF⟩ := hF
    refine ALoop.goU ⟨[(8, .lit (.int .i64 t.index)), (9, .own 2 (List.length (α := Vl.Ty) [])), (28, .arr (List.map Vl.Ty.c x2.args)), (29, .lit (.int .i64 (x2.args.length : Int))), (30, .lit (.int .i64 (0 : Int)))], [.dead, .dead, .elems 2 (List.map Vl.Ty.c [])]⟩ ((Gh.nil 9 2 (by simp -dsimp)).trans (Gh.to (by simp) (by first | (simp -dsimp; done) | (simp -dsimp [↓e1, ↓e3, h4]; done) | simp_all) (by first | (simp -dsimp; done) | (simp -dsimp [↓e1, ↓e3, h4]; done) | simp_all) (by first | (simp -dsimp; done) | (simp -dsimp [↓e1, ↓e3, h4]; done) | simp_all))) ?_
    refine (C.impl_argTypes_l1 B hB1 hB2 t x2 0 [] o' ho17) _ rfl _ ?_
    cases hF
    simp -dsimp
    repeat (refine chk.go (by first | omega | assumption | (simp_all; done) | (simp_all; omega)) ?_; try simp -dsimp)
    all_goals (try omega)
  · have q5 : ¬ (x2.index = 0) := by first | exact h4 | omega | (simpa using h4) | (simp at h4 ⊢; omega) | simp_all
    rw [if_neg q5] at hF
    simp -dsimp [↓e1, ↓e3, h4, q5]
    repeat (refine chk.go (by first | omega | assumption | (simp_all; done) | (simp_all; omega)) ?_; try simp -dsimp [↓e1, ↓e3, h4, q5])
    have hF := ob hF; obtain ⟨o'32, ho31, hF⟩ := hF
    refine ALoop.goU ⟨[(8, .lit (.int .i64 x2.index)), (9, .own 2 (List.length (α := Vl.Ty) [])), (28, .arr (List.map Vl.Ty.c x2.args)), (29, .lit (.int .i64 (x2.args.length : Int))), (30, .lit (.int .i64 (0 : Int)))], [.dead, .dead, .elems 2 (List.map Vl.Ty.c [])]⟩ ((Gh.nil 9 2 (by simp -dsimp)).trans (Gh.to (by simp) (by first | (simp -dsimp; done) | (simp -dsimp [↓e1, ↓e3, h4, q5]; done) | simp_all) (by first | (simp -dsimp; done) | (simp -dsimp [↓e1, ↓e3, h4, q5]; done) | simp_all) (by first | (simp -dsimp; done) | (simp -dsimp [↓e1, ↓e3, h4, q5]; done) | simp_all))) ?_
    refine (C.impl_argTypes_l2 B hB1 hB2 x2 0 [] o'32 ho31) _ rfl _ ?_
    cases hF
    simp -dsimp
    repeat (refine chk.go (by first | omega | assumption | (simp_all; done) | (simp_all; omega)) ?_; try simp -dsimp)
    all_goals (try omega)

set_option maxRecDepth 100000 in
set_option maxHeartbeats 400000 in
theorem C.impl_scope_kids (B : Nat) (hB1 : 67108864 ≤ B) (hB2 : B ≤ 9223372036854775807) (s : Vl.T_impl_scope) (t : Vl.Ty) (e : Vl.Expr) (r : (List Vl.Ty) × Bool) (hF : F.impl_scope_kids s t e = some r) : PureCall Try.prog B 164 [.agg [.arr (List.map Vl.Data.c s.f0), .arr (List.map Vl.FunType.c s.f1), .arr (List.map Vl.VarType.c s.f2)], .agg [.lit (.int .i64 t.data), .lit (.int .i64 t.index)], .agg [.lit (.int .i64 e.op), .lit (.int .i64 e.n), .lit (.int .i64 e.ctor), .arr (List.map Vl.Expr.c e.kids)]] (.tup [.arr (List.map Vl.Ty.c r.1), .lit (.bool r.2)]) := by
  unfold F.impl_scope_kids at hF
  refine PureCall.enterLe Try.func164 (by kernel_rfl) rfl Try.ntmps164 (by simp) (by simp) ?_
  simp -dsimp
  repeat (refine chk.go (by first | omega | assumption | (simp_all; done) | (simp_all; omega)) ?_; try simp -dsimp)
  refine abr.split (fun h1 => ?_) (fun h1 => ?_)
  · have q2 : (e.op = 1) := by first | exact h1 | omega | (simpa using h1) | (simp at h1 ⊢; omega) | simp_all
    rw [if_pos q2] at hF
    simp -dsimp [h1]
    repeat (refine chk.go (by first | omega | assumption | (simp_all; done) | (simp_all; omega)) ?_; try simp -dsimp [h1])
    refine ADraw.simple follows (by kernel_rfl) (by kernel_rfl) ?_
    simp -dsimp [h1]
    repeat (refine chk.go (by first | omega | assumption | (simp_all; done) | (simp_all; omega)) ?_; try simp -dsimp [h1])
    refine abr.split (fun h3 => ?_) (fun h3 => ?_)
    · have q4 : (t.data = (-1)) := by first | exact h3 | omega | (simpa using h3) | (simp at h3 ⊢; omega) | simp_all
      rw [if_pos q4] at hF
      simp -dsimp [h1, h3]
      repeat (refine chk.go (by first | omega | assumption | (simp_all; done) | (simp_all; omega)) ?_; try simp -dsimp [h1, h3])
      have hF := ob hF; obtain ⟨v, e5, hF⟩ := hF
      refine ((C.impl_within B hB1 hB2 e.n (0 : Int) (9 : Int) v e5)).pgoW (by first | (simp; done) | (simp [h1, h3]; done) | simp_all) (by simp) ?_
      simp -dsimp [h1, h3]
      repeat (refine chk.go (by first | omega | assumption | (simp_all; done) | (simp_all; omega)) ?_; try simp -dsimp [h1, h3])
      refine abr.split (fun h6 => ?_) (fun h6 => ?_)
      · have q7 : (v = true) := by first | exact h6 | omega | (simpa using h6) | (simp at h6 ⊢; omega) | simp_all
        rw [if_pos q7] at hF
        cases hF
        simp -dsimp [h1, h3, h6]
        repeat (refine chk.go (by first | omega | assumption | (simp_all; done) | (simp_all; omega)) ?_; try simp -dsimp [h1, h3, h6])
        all_goals (try omega)
      · have q7 : ¬ (v = true) := by first | exact h6 | omega | (simpa using h6) | (simp at h6 ⊢; omega) | simp_all
        rw [if_neg q7] at hF
        cases hF
        simp -dsimp [h1, h3, h6, q7]
        repeat (refine chk.go (by first | omega | assumption | (simp_all; done) | (simp_all; omega)) ?_; try simp -dsimp [h1, h3, h6, q7])
        all_goals (try omega)
    · have q4 : ¬ (t.data = (-1)) := by first | exact h3 | omega | (simpa using h3) | (simp at h3 ⊢; omega) | simp_all
      rw [if_neg q4] at hF
      cases hF
      simp -dsimp [h1, h3, q4]
      repeat (refine chk.go (by first | omega | assumption | (simp_all; done) | (simp_all; omega)) ?_; try simp -dsimp [h1, h3, q4])
      all_goals (try omega)
  · have q2 : ¬ (e.op = 1) := by first | exact h1 | omega | (simpa using h1) | (simp at h1 ⊢; omega) | simp_all
    rw [if_neg q2] at hF
    simp -dsimp [h1, q2]
    repeat (refine chk.go (by first | omega | assumption | (simp_all; done) | (simp_all; omega)) ?_; try simp -dsimp [h1, q2])
    refine abr.split (fun h8 => ?_) (fun h8 => ?_)
    · have q9 : (e.op = 2) := by first | exact h8 | omega | (simpa using h8) | (simp at h8 ⊢; omega) | simp_all
      rw [if_pos q9] at hF
      simp -dsimp [h1, q2, h8]
      repeat (refine chk.go (by first | omega | assumption | (simp_all; done) | (simp_all; omega)) ?_; try simp -dsimp [h1, q2, h8])
      have hF := ob hF; obtain ⟨v10, e11, hF⟩ := hF
      refine ((C.impl_scope_typeOfVar B hB1 hB2 s e.n v10 e11)).goW (by first | (simp; done) | (simp [h1, q2, h8]; done) | simp_all) (by simp) ?_
      simp -dsimp [h1, q2, h8]
      repeat (refine chk.go (by first | omega | assumption | (simp_all; done) | (simp_all; omega)) ?_; try simp -dsimp [h1, q2, h8])
      refine ADraw.simple follows (by kernel_rfl) (by kernel_rfl) ?_
      simp -dsimp [h1, q2, h8]
      repeat (refine chk.go (by first | omega | assumption | (simp_all; done) | (simp_all; omega)) ?_; try simp -dsimp [h1, q2, h8])
      refine abr.split (fun h12 => ?_) (fun h12 => ?_)
      · have q13 : (v10.2 = true) := by first | exact h12 | omega | (simpa using h12) | (simp at h12 ⊢; omega) | simp_all
        rw [if_pos q13] at hF
        simp -dsimp [h1, q2, h8, h12]
        repeat (refine chk.go (by first | omega | assumption | (simp_all; done) | (simp_all; omega)) ?_; try simp -dsimp [h1, q2, h8, h12])
        have hF := ob hF; obtain ⟨v14, e15, hF⟩ := hF
        refine ((C.impl_fits B hB1 hB2 v10.1 t v14 e15)).pgoW (by first | (simp; done) | (simp [h1, q2, h8, h12]; done) | simp_all) (by simp) ?_
        simp -dsimp [h1, q2, h8, h12]
        repeat (refine chk.go (by first | omega | assumption | (simp_all; done) | (simp_all; omega)) ?_; try simp -dsimp [h1, q2, h8, h12])
        refine abr.split (fun h16 => ?_) (fun h16 => ?_)
        · have q17 : (v14 = true) := by first | exact h16 | omega | (simpa using h16) | (simp at h16 ⊢; omega) | simp_all
          rw [if_pos q17] at hF
          cases hF
          simp -dsimp [h1, q2, h8, h12, h16]
          repeat (refine chk.go (by first | omega | assumption | (simp_all; done) | (simp_all; omega)) ?_; try simp -dsimp [h1, q2, h8, h12, h16])
          all_goals (try omega)
        · have q17 : ¬ (v14 = true) := by first | exact h16 | omega | (simpa using h16) | (simp at h16 ⊢; omega) | simp_all
          rw [if_neg q17] at hF
          cases hF
          simp -dsimp [h1, q2, h8, h12, h16, q17]
          repeat (refine chk.go (by first | omega | assumption | (simp_all; done) | (simp_all; omega)) ?_; try simp -dsimp [h1, q2, h8, h12, h16, q17])
          all_goals (try omega)
      · have q13 : ¬ (v10.2 = true) := by first | exact h12 | omega | (simpa using h12) | (simp at h12 ⊢; omega) | simp_all
        rw [if_neg q13] at hF
        cases hF
        simp -dsimp [h1, q2, h8, h12, q13]
        repeat (refine chk.go (by first | omega | assumption | (simp_all; done) | (simp_all; omega)) ?_; try simp -dsimp [h1, q2, h8, h12, q13])
        all_goals (try omega)
    · have q9 : ¬ (e.op = 2) := by first | exact h8 | omega | (simpa using h8) | (simp at h8 ⊢; omega) | simp_all
      rw [if_neg q9] at hF
      simp -dsimp [h1, q2, h8, q9]
      repeat (refine chk.go (by first | omega | assumption | (simp_all; done) | (simp_all; omega)) ?_; try simp -dsimp [h1, q2, h8, q9])
      refine abr.split (fun h18 => ?_) (fun h18 => ?_)
      · have q19 : (e.op = 3) := by first | exact h18 | omega | (simpa using h18) | (simp at h18 ⊢; omega) | simp_all
        rw [if_pos q19] at hF
        simp -dsimp [h1, q2, h8, q9, h18]
        repeat (refine chk.go (by first | omega | assumption | (simp_all; done) | (simp_all; omega)) ?_; try simp -dsimp [h1, q2, h8, q9, h18])
        refine ADraw.simple follows (by kernel_rfl) (by kernel_rfl) ?_
        simp -dsimp [h1, q2, h8, q9, h18]
        repeat (refine chk.go (by first | omega | assumption | (simp_all; done) | (simp_all; omega)) ?_; try simp -dsimp [h1, q2, h8, q9, h18])
        refine abr.split (fun h20 => ?_) (fun h20 => ?_)
        · have q21 : (e.n = 0) := by first | exact h20 | omega | (simpa using h20) | (simp at h20 ⊢; omega) | simp_all
          rw [if_pos q21] at hF
          simp -dsimp [h1, q2, h8, q9, h18, h20]
          repeat (refine chk.go (by first | omega | assumption | (simp_all; done) | (simp_all; omega)) ?_; try simp -dsimp [h1, q2, h8, q9, h18, h20])
          have hF := ob hF; obtain ⟨v22, e23, hF⟩ := hF
          refine ((C.impl_ctorsOf B hB1 hB2 s.f0 t v22 e23)).pgoW (by first | (simp; done) | (simp [h1, q2, h8, q9, h18, h20]; done) | simp_all) (by simp) ?_
          simp -dsimp [h1, q2, h8, q9, h18, h20]
          repeat (refine chk.go (by first | omega | assumption | (simp_all; done) | (simp_all; omega)) ?_; try simp -dsimp [h1, q2, h8, q9, h18, h20])
          have hF := ob hF; obtain ⟨v24, e25, hF⟩ := hF
          refine ((C.slices_Contains_int B hB1 hB2 v22 e.ctor v24 e25)).pgoW (by first | (simp; done) | (simp [h1, q2, h8, q9, h18, h20]; done) | simp_all) (by simp) ?_
          simp -dsimp [h1, q2, h8, q9, h18, h20]
          repeat (refine chk.go (by first | omega | assumption | (simp_all; done) | (simp_all; omega)) ?_; try simp -dsimp [h1, q2, h8, q9, h18, h20])
          refine abr.split (fun h26 => ?_) (fun h26 => ?_)
          · have q27 : ¬ (v24 = true) := by first | exact h26 | omega | (simpa using h26) | (simp at h26 ⊢; omega) | simp_all
            rw [if_neg q27] at hF
            cases hF
            simp -dsimp [h1, q2, h8, q9, h18, h20, h26, q27]
            repeat (refine chk.go (by first | omega | assumption | (simp_all; done) | (simp_all; omega)) ?_; try simp -dsimp [h1, q2, h8, q9, h18, h20, h26, q27])
            all_goals (try omega)
          · have q27 : (v24 = true) := by first | exact h26 | omega | (simpa using h26) | (simp at h26 ⊢; omega) | simp_all
            rw [if_pos q27] at hF
            simp -dsimp [h1, q2, h8, q9, h18, h20, h26, q27]
            repeat (refine chk.go (by first | omega | assumption | (simp_all; done) | (simp_all; omega)) ?_; try simp -dsimp [h1, q2, h8, q9, h18, h20, h26, q27])
            have hF := ob hF; obtain ⟨v28, e29, hF⟩ := hF
            refine ((C.impl_argTypes B hB1 hB2 s.f0 t e.ctor v28 e29)).goW (by first | (simp; done) | (simp [h1, q2, h8, q9, h18, h20, h26, q27]; done) | simp_all) (by simp) ?_
            cases hF
            simp -dsimp [h1, q2, h8, q9, h18, h20, h26, q27]
            repeat (refine chk.go (by first | omega | assumption | (simp_all; done) | (simp_all; omega)) ?_; try simp -dsimp [h1, q2, h8, q9, h18, h20, h26, q27])
            all_goals (try omega)
        · have q21 : ¬ (e.n = 0) := by first | exact h20 | omega | (simpa using h20) | (simp at h20 ⊢; omega) | simp_all
          rw [if_neg q21] at hF
          cases hF
          simp -dsimp [h1, q2, h8, q9, h18, h20, q21]
          repeat (refine chk.go (by first | omega | assumption | (simp_all; done) | (simp_all; omega)) ?_; try simp -dsimp [h1, q2, h8, q9, h18, h20, q21])
          all_goals (try omega)
      · have q19 : ¬ (e.op = 3) := by first | exact h18 | omega | (simpa using h18) | (simp at h18 ⊢; omega) | simp_all
        rw [if_neg q19] at hF
        simp -dsimp [h1, q2, h8, q9, h18, q19]
        repeat (refine chk.go (by first | omega | assumption | (simp_all; done) | (simp_all; omega)) ?_; try simp -dsimp [h1, q2, h8, q9, h18, q19])
        refine abr.split (fun h30 => ?_) (fun h30 => ?_)
        · have q31 : (e.op = 4) := by first | exact h30 | omega | (simpa using h30) | (simp at h30 ⊢; omega) | simp_all
          rw [if_pos q31] at hF
          simp -dsimp [h1, q2, h8, q9, h18, q19, h30]
          repeat (refine chk.go (by first | omega | assumption | (simp_all; done) | (simp_all; omega)) ?_; try simp -dsimp [h1, q2, h8, q9, h18, q19, h30])
          refine ADraw.eff [] [(0, 0), (0, 0), (0, 1), (0, 1), (0, 1), (0, 1), (0, 1), (0, 1), (0, 1), (0, 1), (0, 1), (0, 1), (0, 1), (0, 1), (0, 1), (0, 1), (1, 1), (1, 1)] [1, 1, 1, 0, 2, 1, 1, 0, 2, 1, 1, 1, 0, 2, 1, 1, 1, 1] follows (by kernel_rfl) (by kernel_rfl) (by kernel_rfl) ?_
          simp -dsimp [h1, q2, h8, q9, h18, q19, h30]
          repeat (refine chk.go (by first | omega | assumption | (simp_all; done) | (simp_all; omega)) ?_; try simp -dsimp [h1, q2, h8, q9, h18, q19, h30])
          refine abr.split (fun h32 => ?_) (fun h32 => ?_)
          · have q33 : (t.data = (-1)) := by first | exact h32 | omega | (simpa using h32) | (simp at h32 ⊢; omega) | simp_all
            rw [if_pos q33] at hF
            simp -dsimp [h1, q2, h8, q9, h18, q19, h30, h32]
            repeat (refine chk.go (by first | omega | assumption | (simp_all; done) | (simp_all; omega)) ?_; try simp -dsimp [h1, q2, h8, q9, h18, q19, h30, h32])
            refine abr.split (fun h34 => ?_) (fun h34 => ?_)
            · have q35 : (e.n = 0) := by first | exact h34 | omega | (simpa using h34) | (simp at h34 ⊢; omega) | simp_all
              rw [if_pos q35] at hF
              cases hF
              simp -dsimp [h1, q2, h8, q9, h18, q19, h30, h32, h34]
              repeat (refine chk.go (by first | omega | assumption | (simp_all; done) | (simp_all; omega)) ?_; try simp -dsimp [h1, q2, h8, q9, h18, q19, h30, h32, h34])
              all_goals (try omega)
            · have q35 : ¬ (e.n = 0) := by first | exact h34 | omega | (simpa using h34) | (simp at h34 ⊢; omega) | simp_all
              rw [if_neg q35] at hF
              cases hF
              simp -dsimp [h1, q2, h8, q9, h18, q19, h30, h32, h34, q35]
              repeat (refine chk.go (by first | omega | assumption | (simp_all; done) | (simp_all; omega)) ?_; try simp -dsimp [h1, q2, h8, q9, h18, q19, h30, h32, h34, q35])
              all_goals (try omega)
          · have q33 : ¬ (t.data = (-1)) := by first | exact h32 | omega | (simpa using h32) | (simp at h32 ⊢; omega) | simp_all
            rw [if_neg q33] at hF
            cases hF
            simp -dsimp [h1, q2, h8, q9, h18, q19, h30, h32, q33]
            repeat (refine chk.go (by first | omega | assumption | (simp_all; done) | (simp_all; omega)) ?_; try simp -dsimp [h1, q2, h8, q9, h18, q19, h30, h32, q33])
            all_goals (try omega)
        · have q31 : ¬ (e.op = 4) := by first | exact h30 | omega | (simpa using h30) | (simp at h30 ⊢; omega) | simp_all
          rw [if_neg q31] at hF
          simp -dsimp [h1, q2, h8, q9, h18, q19, h30, q31]
          repeat (refine chk.go (by first | omega | assumption | (simp_all; done) | (simp_all; omega)) ?_; try simp -dsimp [h1, q2, h8, q9, h18, q19, h30, q31])
          refine abr.split (fun h36 => ?_) (fun h36 => ?_)
          · have q37 : (e.op = 5) := by first | exact h36 | omega | (simpa using h36) | (simp at h36 ⊢; omega) | simp_all
            rw [if_pos q37] at hF
            simp -dsimp [h1, q2, h8, q9, h18, q19, h30, q31, h36]
            repeat (refine chk.go (by first | omega | assumption | (simp_all; done) | (simp_all; omega)) ?_; try simp -dsimp [h1, q2, h8, q9, h18, q19, h30, q31, h36])
            have hF := ob hF; obtain ⟨v38, e39, hF⟩ := hF
            refine ((C.impl_within B hB1 hB2 e.n (0 : Int) (IntKind.i64.wrap ((s.f1.length : Int) - 1)) v38 e39)).goW (by first | (simp; done) | (simp [h1, q2, h8, q9, h18, q19, h30, q31, h36]; done) | simp_all) (by simp) ?_
            simp -dsimp [h1, q2, h8, q9, h18, q19, h30, q31, h36]
            repeat (refine chk.go (by first | omega | assumption | (simp_all; done) | (simp_all; omega)) ?_; try simp -dsimp [h1, q2, h8, q9, h18, q19, h30, q31, h36])
            refine abr.split (fun h40 => ?_) (fun h40 => ?_)
            · have q41 : (v38 = true) := by first | exact h40 | omega | (simpa using h40) | (simp at h40 ⊢; omega) | simp_all
              rw [if_pos q41] at hF
              simp -dsimp [h1, q2, h8, q9, h18, q19, h30, q31, h36, h40]
              repeat (refine chk.go (by first | omega | assumption | (simp_all; done) | (simp_all; omega)) ?_; try simp -dsimp [h1, q2, h8, q9, h18, q19, h30, q31, h36, h40])
              refine abr.split (fun h42 => ?_) (fun h42 => ?_)
              · have q43 : ¬ (e.ctor = 0) := by first | exact h42 | omega | (simpa using h42) | (simp at h42 ⊢; omega) | simp_all
                rw [if_neg q43] at hF
                cases hF
                simp -dsimp [h1, q2, h8, q9, h18, q19, h30, q31, h36, h40, h42, q43]
                repeat (refine chk.go (by first | omega | assumption | (simp_all; done) | (simp_all; omega)) ?_; try simp -dsimp [h1, q2, h8, q9, h18, q19, h30, q31, h36, h40, h42, q43])
                all_goals (try omega)
              · have q43 : (e.ctor = 0) := by first | exact h42 | omega | (simpa using h42) | (simp at h42 ⊢; omega) | simp_all
                rw [if_pos q43] at hF
                simp -dsimp [h1, q2, h8, q9, h18, q19, h30, q31, h36, h40, h42, q43]
                repeat (refine chk.go (by first | omega | assumption | (simp_all; done) | (simp_all; omega)) ?_; try simp -dsimp [h1, q2, h8, q9, h18, q19, h30, q31, h36, h40, h42, q43])
                refine ADraw.eff [] [(0, 0), (0, 0), (0, 0), (0, 0), (0, 0), (0, 0), (0, 0), (0, 1), (0, 1), (0, 1), (0, 1), (0, 1), (0, 1), (0, 1), (0, 1), (0, 1), (0, 1), (1, 1), (1, 1)] [1, 1, 1, 1, 1, 1, 1, 1, 0, 2, 0, 2, 0, 0, 0, 2, 1, 1, 1] follows (by kernel_rfl) (by kernel_rfl) (by kernel_rfl) ?_
                have hF := ob hF; obtain ⟨x, e44a, hF⟩ := hF
                have e44a := at_some e44a; obtain ⟨ne44, e44⟩ := e44a
                have le44 := lt_of_get e44
                simp -dsimp [h1, q2, h8, q9, h18, q19, h30, q31, h36, h40, h42, q43, ↓e44]
                repeat (refine chk.go (by first | omega | assumption | (simp_all; done) | (simp_all; omega)) ?_; try simp -dsimp [h1, q2, h8, q9, h18, q19, h30, q31, h36, h40, h42, q43, ↓e44])
                have hF := ob hF; obtain ⟨v45, e46, hF⟩ := hF
                refine ((C.impl_fits B hB1 hB2 x.res t v45 e46)).pgoW (by first | (simp; done) | (simp [h1, q2, h8, q9, h18, q19, h30, q31, h36, h40, h42, q43, ↓e44]; done) | simp_all) (by simp) ?_
                cases hF
                simp -dsimp [h1, q2, h8, q9, h18, q19, h30, q31, h36, h40, h42, q43, ↓e44]
                repeat (refine chk.go (by first | omega | assumption | (simp_all; done) | (simp_all; omega)) ?_; try simp -dsimp [h1, q2, h8, q9, h18, q19, h30, q31, h36, h40, h42, q43, ↓e44])
                all_goals (try omega)
            · have q41 : ¬ (v38 = true) := by first | exact h40 | omega | (simpa using h40) | (simp at h40 ⊢; omega) | simp_all
              rw [if_neg q41] at hF
              cases hF
              simp -dsimp [h1, q2, h8, q9, h18, q19, h30, q31, h36, h40, q41]
              repeat (refine chk.go (by first | omega | assumption | (simp_all; done) | (simp_all; omega)) ?_; try simp -dsimp [h1, q2, h8, q9, h18, q19, h30, q31, h36, h40, q41])
              all_goals (try omega)
          · have q37 : ¬ (e.op = 5) := by first | exact h36 | omega | (simpa using h36) | (simp at h36 ⊢; omega) | simp_all
            rw [if_neg q37] at hF
            cases hF
            simp -dsimp [h1, q2, h8, q9, h18, q19, h30, q31, h36, q37]
            repeat (refine chk.go (by first | omega | assumption | (simp_all; done) | (simp_all; omega)) ?_; try simp -dsimp [h1, q2, h8, q9, h18, q19, h30, q31, h36, q37])
            all_goals (try omega)

set_option maxRecDepth 100000 in
set_option maxHeartbeats 400000 in
theorem CC.impl_scope_scan (B : Nat) (hB1 : 67108864 ≤ B) (hB2 : B ≤ 9223372036854775807) (s : Vl.T_impl_scope) : (∀ (t : Vl.Ty) (e : Vl.Expr) (deep : Int) (count : Int) (r : Bool × Int), F.impl_scope_scan s t e deep count = some r → MutCall Try.prog B 123 [.lit (.int .i64 count)] [.agg [.arr (List.map Vl.Data.c s.f0), .arr (List.map Vl.FunType.c s.f1), .arr (List.map Vl.VarType.c s.f2)], .agg [.lit (.int .i64 t.data), .lit (.int .i64 t.index)], .agg [.lit (.int .i64 e.op), .lit (.int .i64 e.n), .lit (.int .i64 e.ctor), .arr (List.map Vl.Expr.c e.kids)], .lit (.int .i64 deep), .ptr 0 0] (.lit (.bool r.1)) [.lit (.int .i64 r.2)]) ∧
    (∀ (e : Vl.Expr) (deep : Int) (v : (List Vl.Ty) × Bool) (z : Int) (i : Nat) (o : Lo (Bool × Int) Int), F.impl_scope_scan_l1 s e deep v z i = some o → ∀ (c : Code), navO [1, 1, 1, 1, 1, 0, 1, 0, 0] (bodyOf Try.f123) = some c → ∀ (Q : Exit → ASt → Prop), o.post (fun r => ∀ st, Post Try.prog Try.f123 (fun r' σ' => r'.le (.lit (.bool r.1)) ∧ mcell σ' [.lit (.int .i64 r.2)]) .ret st → Q .ret st) (fun s => Q (.exit 0) ⟨[], [.cells [.lit (.int .i64 s)]]⟩) → ALoopU Try.prog B 1 65 (hold c .mk) ⟨[(3, .lit (.int .i64 deep)), (4, .ptr 0 0), (5, .ptr 1 0), (11, .arr (List.map Vl.Ty.c v.1)), (46, .arr (List.map Vl.Expr.c e.kids)), (47, .lit (.int .i64 (e.kids.length : Int))), (48, .lit (.int .i64 (i : Int)))], [.cells [.lit (.int .i64 z)], .cells [.arr (List.map Vl.Data.c s.f0), .arr (List.map Vl.FunType.c s.f1), .arr (List.map Vl.VarType.c s.f2)]]⟩ (hold Q .mk)) := by
  refine F.impl_scope_scan.mutual_partial_correctness s
    (fun t e deep count r => MutCall Try.prog B 123 [.lit (.int .i64 count)] [.agg [.arr (List.map Vl.Data.c s.f0), .arr (List.map Vl.FunType.c s.f1), .arr (List.map Vl.VarType.c s.f2)], .agg [.lit (.int .i64 t.data), .lit (.int .i64 t.index)], .agg [.lit (.int .i64 e.op), .lit (.int .i64 e.n), .lit (.int .i64 e.ctor), .arr (List.map Vl.Expr.c e.kids)], .lit (.int .i64 deep), .ptr 0 0] (.lit (.bool r.1)) [.lit (.int .i64 r.2)])
    (fun e deep v z i o => ∀ (c : Code), navO [1, 1, 1, 1, 1, 0, 1, 0, 0] (bodyOf Try.f123) = some c → ∀ (Q : Exit → ASt → Prop), o.post (fun r => ∀ st, Post Try.prog Try.f123 (fun r' σ' => r'.le (.lit (.bool r.1)) ∧ mcell σ' [.lit (.int .i64 r.2)]) .ret st → Q .ret st) (fun s => Q (.exit 0) ⟨[], [.cells [.lit (.int .i64 s)]]⟩) → ALoopU Try.prog B 1 65 (hold c .mk) ⟨[(3, .lit (.int .i64 deep)), (4, .ptr 0 0), (5, .ptr 1 0), (11, .arr (List.map Vl.Ty.c v.1)), (46, .arr (List.map Vl.Expr.c e.kids)), (47, .lit (.int .i64 (e.kids.length : Int))), (48, .lit (.int .i64 (i : Int)))], [.cells [.lit (.int .i64 z)], .cells [.arr (List.map Vl.Data.c s.f0), .arr (List.map Vl.FunType.c s.f1), .arr (List.map Vl.VarType.c s.f2)]]⟩ (hold Q .mk))
    ?_ ?_
  · intro _f_impl_scope_scan_l1 ih_impl_scope_scan_l1 t e deep count r hF
    refine MutCall.enter Try.func123 (by kernel_rfl) rfl Try.ntmps123 (by simp) (by simp) (by simp) (by simp) ?_
    simp -dsimp
    repeat (refine chk.go (by first | omega | assumption | (simp_all; done) | (simp_all; omega)) ?_; try simp -dsimp)
    refine abr.split (fun h1 => ?_) (fun h1 => ?_)
    · have q2 : ¬ (60 < IntKind.i64.wrap (count + 1)) := by first | exact h1 | omega | (simpa using h1) | (simp at h1 ⊢; omega) | simp_all
      rw [if_neg q2] at hF
      simp -dsimp [h1, q2]
      repeat (refine chk.go (by first | omega | assumption | (simp_all; done) | (simp_all; omega)) ?_; try simp -dsimp [h1, q2])
      refine abr.split (fun h3 => ?_) (fun h3 => ?_)
      · have q4 : (10 < deep) := by first | exact h3 | omega | (simpa using h3) | (simp at h3 ⊢; omega) | simp_all
        rw [if_pos q4] at hF
        cases hF
        simp -dsimp [h1, q2, h3]
        repeat (refine chk.go (by first | omega | assumption | (simp_all; done) | (simp_all; omega)) ?_; try simp -dsimp [h1, q2, h3])
        all_goals (try omega)
      · have q4 : ¬ (10 < deep) := by first | exact h3 | omega | (simpa using h3) | (simp at h3 ⊢; omega) | simp_all
        rw [if_neg q4] at hF
        simp -dsimp [h1, q2, h3, q4]
        repeat (refine chk.go (by first | omega | assumption | (simp_all; done) | (simp_all; omega)) ?_; try simp -dsimp [h1, q2, h3, q4])
        have hF := ob hF; obtain ⟨v, e5, hF⟩ := hF
        refine ((C.impl_scope_kids B hB1 hB2 s t e v e5)).goW (by first | (simp; done) | (simp [h1, q2, h3, q4]; done) | simp_all) (by simp) ?_
        simp -dsimp [h1, q2, h3, q4]
        repeat (refine chk.go (by first | omega | assumption | (simp_all; done) | (simp_all; omega)) ?_; try simp -dsimp [h1, q2, h3, q4])
        refine abr.split (fun h6 => ?_) (fun h6 => ?_)
        · have q7 : (v.2 = true) := by first | exact h6 | omega | (simpa using h6) | (simp at h6 ⊢; omega) | simp_all
          rw [if_pos q7] at hF
          simp -dsimp [h1, q2, h3, q4, h6]
          repeat (refine chk.go (by first | omega | assumption | (simp_all; done) | (simp_all; omega)) ?_; try simp -dsimp [h1, q2, h3, q4, h6])
          refine abr.split (fun h8 => ?_) (fun h8 => ?_)
          · have q9 : ¬ (v.1.length = e.kids.length) := by first | exact h8 | omega | (simpa using h8) | (simp at h8 ⊢; omega) | simp_all
            have z10 : ¬ ((v.1.length : Int) = (e.kids.length : Int)) := by first | omega | simp_all
            rw [if_neg q9] at hF
            cases hF
            simp -dsimp [h1, q2, h3, q4, h6, h8, q9, z10]
            repeat (refine chk.go (by first | omega | assumption | (simp_all; done) | (simp_all; omega)) ?_; try simp -dsimp [h1, q2, h3, q4, h6, h8, q9, z10])
            all_goals (try omega)
          · have q9 : (v.1.length = e.kids.length) := by first | exact h8 | omega | (simpa using h8) | (simp at h8 ⊢; omega) | simp_all
            have z10 : ((v.1.length : Int) = (e.kids.length : Int)) := by first | omega | simp_all
            rw [if_pos q9] at hF
            simp -dsimp [h1, q2, h3, q4, h6, h8, q9, z10]
            repeat (refine chk.go (by first | omega | assumption | (simp_all; done) | (simp_all; omega)) ?_; try simp -dsimp [h1, q2, h3, q4, h6, h8, q9, z10])
            have hF := ob hF; obtain ⟨o', ho22, hF⟩ := hF
            refine ALoop.goU ⟨[(3, .lit (.int .i64 deep)), (4, .ptr 0 0), (5, .ptr 1 0), (11, .arr (List.map Vl.Ty.c v.1)), (46, .arr (List.map Vl.Expr.c e.kids)), (47, .lit (.int .i64 (e.kids.length : Int))), (48, .lit (.int .i64 (0 : Int)))], [.cells [.lit (.int .i64 (IntKind.i64.wrap (count + 1)))], .cells [.arr (List.map Vl.Data.c s.f0), .arr (List.map Vl.FunType.c s.f1), .arr (List.map Vl.VarType.c s.f2)]]⟩ (Gh.to (by simp) (by first | (simp -dsimp; done) | (simp -dsimp [h1, q2, h3, q4, h6, h8, q9, z10]; done) | simp_all) (by first | (simp -dsimp; done) | (simp -dsimp [h1, q2, h3, q4, h6, h8, q9, z10]; done) | simp_all) (by first | (simp -dsimp; done) | (simp -dsimp [h1, q2, h3, q4, h6, h8, q9, z10]; done) | simp_all)) ?_
            refine (ih_impl_scope_scan_l1 e deep v (IntKind.i64.wrap (count + 1)) 0 o' ho22) _ rfl _ ?_
            rcases o' with r0 | s23
            · dsimp only at hF
              cases hF
              intro st h
              simpa using h
            · dsimp only at hF
              cases hF
              simp -dsimp
              repeat (refine chk.go (by first | omega | assumption | (simp_all; done) | (simp_all; omega)) ?_; try simp -dsimp)
              all_goals (try omega)
        · have q7 : ¬ (v.2 = true) := by first | exact h6 | omega | (simpa using h6) | (simp at h6 ⊢; omega) | simp_all
          rw [if_neg q7] at hF
          cases hF
          simp -dsimp [h1, q2, h3, q4, h6, q7]
          repeat (refine chk.go (by first | omega | assumption | (simp_all; done) | (simp_all; omega)) ?_; try simp -dsimp [h1, q2, h3, q4, h6, q7])
          all_goals (try omega)
    · have q2 : (60 < IntKind.i64.wrap (count + 1)) := by first | exact h1 | omega | (simpa using h1) | (simp at h1 ⊢; omega) | simp_all
      rw [if_pos q2] at hF
      cases hF
      simp -dsimp [h1, q2]
      repeat (refine chk.go (by first | omega | assumption | (simp_all; done) | (simp_all; omega)) ?_; try simp -dsimp [h1, q2])
      all_goals (try omega)
  · intro _f_impl_scope_scan _f_impl_scope_scan_l1 ih_impl_scope_scan ih_impl_scope_scan_l1 e deep v z i o hF
    intro c hc Q hq
    obtain rfl : c = _ := navEq hc rfl
    refine ALoopU.know fun hk hs => ?_
    have b11 := hk 11
    simp -dsimp at b11
    have b46 := hk 46
    simp -dsimp at b46
    have d1 := hs 1 _ rfl
    simp -dsimp [Blk.bnd] at d1
    clear hk hs
    refine ALoopU.enter ?_
    simp -dsimp
    repeat (refine chk.go (by first | omega | assumption | (simp_all; done) | (simp_all; omega)) ?_; try simp -dsimp)
    refine abr.split (fun h11 => ?_) (fun h11 => ?_)
    · have q12 : (i < e.kids.length) := by first | exact h11 | omega | (simpa using h11) | (simp at h11 ⊢; omega) | simp_all
      have z13 : ((i : Int) < (e.kids.length : Int)) := by first | omega | simp_all
      rw [if_pos q12] at hF
      have hF := ob hF; obtain ⟨x, e14, hF⟩ := hF
      have le14 := lt_of_get e14
      simp -dsimp [h11, z13, ↓e14]
      repeat (refine chk.go (by first | omega | assumption | (simp_all; done) | (simp_all; omega)) ?_; try simp -dsimp [h11, z13, ↓e14])
      refine ADraw.eff [123] [(0, 0), (0, 0), (0, 0), (0, 0), (0, 0), (0, 0), (0, 0), (0, 0), (0, 0), (0, 1), (1, 1)] [1, 1, 1, 1, 1, 1, 1, 1, 1, 1, 1] follows (by kernel_rfl) (by kernel_rfl) (by kernel_rfl) ?_
      have hF := ob hF; obtain ⟨x15, e16, hF⟩ := hF
      have le16 := lt_of_get e16
      simp -dsimp [h11, z13, ↓e14, ↓e16]
      repeat (refine chk.go (by first | omega | assumption | (simp_all; done) | (simp_all; omega)) ?_; try simp -dsimp [h11, z13, ↓e14, ↓e16])
      have hF := ob hF; obtain ⟨v17, e18, hF⟩ := hF
      refine ((ih_impl_scope_scan x15 x (IntKind.i64.wrap (deep + 1)) z v17 e18)).ego 0 rfl (by first | (simp; done) | (simp [h11, z13, ↓e14, ↓e16]; done) | simp_all) (by simp) (by first | (simp; done) | (simp [h11, z13, ↓e14, ↓e16]; done) | simp_all) ?_
      simp -dsimp [h11, z13, ↓e14, ↓e16]
      repeat (refine chk.go (by first | omega | assumption | (simp_all; done) | (simp_all; omega)) ?_; try simp -dsimp [h11, z13, ↓e14, ↓e16])
      refine abr.split (fun h19 => ?_) (fun h19 => ?_)
      · have q20 : ¬ (v17.1 = true) := by first | exact h19 | omega | (simpa using h19) | (simp at h19 ⊢; omega) | simp_all
        rw [if_neg q20] at hF
        cases hF
        simp -dsimp [h11, z13, ↓e14, ↓e16, h19, q20]
        repeat (refine chk.go (by first | omega | assumption | (simp_all; done) | (simp_all; omega)) ?_; try simp -dsimp [h11, z13, ↓e14, ↓e16, h19, q20])
        refine Leave.go _ (Gh.refl _) (hq _ ?_)
        simp -dsimp [h11, z13, ↓e14, ↓e16, h19, q20]
        repeat (refine chk.go (by first | omega | assumption | (simp_all; done) | (simp_all; omega)) ?_; try simp -dsimp [h11, z13, ↓e14, ↓e16, h19, q20])
      · have q20 : (v17.1 = true) := by first | exact h19 | omega | (simpa using h19) | (simp at h19 ⊢; omega) | simp_all
        rw [if_pos q20] at hF
        have w21 : IntKind.i64.wrap ((i : Int) + 1) = (i : Int) + 1 := wrap_in (by omega) (by omega)
        simp -dsimp [h11, z13, ↓e14, ↓e16, h19, q20, w21]
        repeat (refine chk.go (by first | omega | assumption | (simp_all; done) | (simp_all; omega)) ?_; try simp -dsimp [h11, z13, ↓e14, ↓e16, h19, q20, w21])
        refine Again.go ⟨[(3, .lit (.int .i64 deep)), (4, .ptr 0 0), (5, .ptr 1 0), (11, .arr (List.map Vl.Ty.c v.1)), (46, .arr (List.map Vl.Expr.c e.kids)), (47, .lit (.int .i64 (e.kids.length : Int))), (48, .lit (.int .i64 ((i + 1) : Int)))], [.cells [.lit (.int .i64 v17.2)], .cells [.arr (List.map Vl.Data.c s.f0), .arr (List.map Vl.FunType.c s.f1), .arr (List.map Vl.VarType.c s.f2)]]⟩ (Gh.to (by simp) (by first | (simp -dsimp; done) | (simp -dsimp [h11, z13, ↓e14, ↓e16, h19, q20, w21]; done) | simp_all) (by first | (simp -dsimp; done) | (simp -dsimp [h11, z13, ↓e14, ↓e16, h19, q20, w21]; done) | simp_all) (by first | (simp -dsimp; done) | (simp -dsimp [h11, z13, ↓e14, ↓e16, h19, q20, w21]; done) | simp_all)) ?_
        exact (ih_impl_scope_scan_l1 e deep v v17.2 (i + 1) o hF) _ rfl _ hq
    · have q12 : ¬ (i < e.kids.length) := by first | exact h11 | omega | (simpa using h11) | (simp at h11 ⊢; omega) | simp_all
      have z13 : ¬ ((i : Int) < (e.kids.length : Int)) := by first | omega | simp_all
      rw [if_neg q12] at hF
      cases hF
      simp -dsimp [h11, q12, z13]
      repeat (refine chk.go (by first | omega | assumption | (simp_all; done) | (simp_all; omega)) ?_; try simp -dsimp [h11, q12, z13])
      refine Leave.go ⟨[], [.cells [.lit (.int .i64 z)]]⟩ (Gh.to (by simp) (by first | (simp -dsimp; done) | (simp -dsimp [h11, q12, z13]; done) | simp_all) (by first | (simp -dsimp; done) | (simp -dsimp [h11, q12, z13]; done) | simp_all) (by first | (simp -dsimp; done) | (simp -dsimp [h11, q12, z13]; done) | simp_all)) ?_
      exact hq

theorem C.impl_scope_scan (B : Nat) (hB1 : 67108864 ≤ B) (hB2 : B ≤ 9223372036854775807) (s : Vl.T_impl_scope) (t : Vl.Ty) (e : Vl.Expr) (deep : Int) (count : Int) (r : Bool × Int) (hF : F.impl_scope_scan s t e deep count = some r) : MutCall Try.prog B 123 [.lit (.int .i64 count)] [.agg [.arr (List.map Vl.Data.c s.f0), .arr (List.map Vl.FunType.c s.f1), .arr (List.map Vl.VarType.c s.f2)], .agg [.lit (.int .i64 t.data), .lit (.int .i64 t.index)], .agg [.lit (.int .i64 e.op), .lit (.int .i64 e.n), .lit (.int .i64 e.ctor), .arr (List.map Vl.Expr.c e.kids)], .lit (.int .i64 deep), .ptr 0 0] (.lit (.bool r.1)) [.lit (.int .i64 r.2)] :=
  (CC.impl_scope_scan B hB1 hB2 s).1 t e deep count r hF

theorem C.impl_scope_scan_l1 (B : Nat) (hB1 : 67108864 ≤ B) (hB2 : B ≤ 9223372036854775807) (s : Vl.T_impl_scope) (e : Vl.Expr) (deep : Int) (v : (List Vl.Ty) × Bool) (z : Int) (i : Nat) (o : Lo (Bool × Int) Int) (hF : F.impl_scope_scan_l1 s e deep v z i = some o) : ∀ (c : Code), navO [1, 1, 1, 1, 1, 0, 1, 0, 0] (bodyOf Try.f123) = some c → ∀ (Q : Exit → ASt → Prop), o.post (fun r => ∀ st, Post Try.prog Try.f123 (fun r' σ' => r'.le (.lit (.bool r.1)) ∧ mcell σ' [.lit (.int .i64 r.2)]) .ret st → Q .ret st) (fun s => Q (.exit 0) ⟨[], [.cells [.lit (.int .i64 s)]]⟩) → ALoopU Try.prog B 1 65 (hold c .mk) ⟨[(3, .lit (.int .i64 deep)), (4, .ptr 0 0), (5, .ptr 1 0), (11, .arr (List.map Vl.Ty.c v.1)), (46, .arr (List.map Vl.Expr.c e.kids)), (47, .lit (.int .i64 (e.kids.length : Int))), (48, .lit (.int .i64 (i : Int)))], [.cells [.lit (.int .i64 z)], .cells [.arr (List.map Vl.Data.c s.f0), .arr (List.map Vl.FunType.c s.f1), .arr (List.map Vl.VarType.c s.f2)]]⟩ (hold Q .mk) :=
  (CC.impl_scope_scan B hB1 hB2 s).2 e deep v z i o hF

set_option maxRecDepth 100000 in
set_option maxHeartbeats 400000 in
theorem C.impl_scope_expr (B : Nat) (hB1 : 67108864 ≤ B) (hB2 : B ≤ 9223372036854775807) (s : Vl.T_impl_scope) (t : Vl.Ty) (e : Vl.Expr) (r : Bool) (hF : F.impl_scope_expr s t e = some r) : PureCall Try.prog B 62 [.agg [.arr (List.map Vl.Data.c s.f0), .arr (List.map Vl.FunType.c s.f1), .arr (List.map Vl.VarType.c s.f2)], .agg [.lit (.int .i64 t.data), .lit (.int .i64 t.index)], .agg [.lit (.int .i64 e.op), .lit (.int .i64 e.n), .lit (.int .i64 e.ctor), .arr (List.map Vl.Expr.c e.kids)]] (.lit (.bool r)) := by
  unfold F.impl_scope_expr at hF
  refine PureCall.enterLe Try.func62 (by kernel_rfl) rfl Try.ntmps62 (by simp) (by simp) ?_
  simp -dsimp
  repeat (refine chk.go (by first | omega | assumption | (simp_all; done) | (simp_all; omega)) ?_; try simp -dsimp)
  have hF := ob hF; obtain ⟨v, e1, hF⟩ := hF
  refine ((C.impl_scope_scan B hB1 hB2 s t e (1 : Int) (0 : Int) v e1)).go 3 rfl (by simp) (by simp) (by simp) ?_
  cases hF
  simp -dsimp
  repeat (refine chk.go (by first | omega | assumption | (simp_all; done) | (simp_all; omega)) ?_; try simp -dsimp)
  all_goals (try omega)

set_option maxRecDepth 100000 in
set_option maxHeartbeats 400000 in
theorem C.impl_ExprValid (B : Nat) (hB1 : 67108864 ≤ B) (hB2 : B ≤ 9223372036854775807) (w : List Vl.Data) (funs : List Vl.FunType) (vars : List Vl.VarType) (t : Vl.Ty) (e : Vl.Expr) (r : Bool) (hF : F.impl_ExprValid w funs vars t e = some r) : PureCall Try.prog B 19 [.arr (List.map Vl.Data.c w), .arr (List.map Vl.FunType.c funs), .arr (List.map Vl.VarType.c vars), .agg [.lit (.int .i64 t.data), .lit (.int .i64 t.index)], .agg [.lit (.int .i64 e.op), .lit (.int .i64 e.n), .lit (.int .i64 e.ctor), .arr (List.map Vl.Expr.c e.kids)]] (.lit (.bool r)) := by
  unfold F.impl_ExprValid at hF
  refine PureCall.enterLe Try.func19 (by kernel_rfl) rfl Try.ntmps19 (by simp) (by simp) ?_
  simp -dsimp
  repeat (refine chk.go (by first | omega | assumption | (simp_all; done) | (simp_all; omega)) ?_; try simp -dsimp)
  have hF := ob hF; obtain ⟨v, e1, hF⟩ := hF
  refine ((C.impl_TypeValid B hB1 hB2 w t v e1)).goW (by simp) (by simp) ?_
  simp -dsimp
  repeat (refine chk.go (by first | omega | assumption | (simp_all; done) | (simp_all; omega)) ?_; try simp -dsimp)
  refine abr.split (fun h2 => ?_) (fun h2 => ?_)
  · have q3 : (v = true) := by first | exact h2 | omega | (simpa using h2) | (simp at h2 ⊢; omega) | simp_all
    rw [if_pos q3] at hF
    simp -dsimp [h2]
    repeat (refine chk.go (by first | omega | assumption | (simp_all; done) | (simp_all; omega)) ?_; try simp -dsimp [h2])
    have hF := ob hF; obtain ⟨v4, e5, hF⟩ := hF
    refine ((C.impl_scope_ok B hB1 hB2 (⟨w, funs, vars⟩ : Vl.T_impl_scope) v4 e5)).goW (by first | (simp; done) | (simp [h2]; done) | simp_all) (by simp) ?_
    simp -dsimp [h2]
    repeat (refine chk.go (by first | omega | assumption | (simp_all; done) | (simp_all; omega)) ?_; try simp -dsimp [h2])
    refine abr.split (fun h6 => ?_) (fun h6 => ?_)
    · have q7 : (v4 = true) := by first | exact h6 | omega | (simpa using h6) | (simp at h6 ⊢; omega) | simp_all
      rw [if_pos q7] at hF
      simp -dsimp [h2, h6]
      repeat (refine chk.go (by first | omega | assumption | (simp_all; done) | (simp_all; omega)) ?_; try simp -dsimp [h2, h6])
      have hF := ob hF; obtain ⟨v8, e9, hF⟩ := hF
      refine ((C.impl_scope_expr B hB1 hB2 (⟨w, funs, vars⟩ : Vl.T_impl_scope) t e v8 e9)).goW (by first | (simp; done) | (simp [h2, h6]; done) | simp_all) (by simp) ?_
      cases hF
      simp -dsimp [h2, h6]
      repeat (refine chk.go (by first | omega | assumption | (simp_all; done) | (simp_all; omega)) ?_; try simp -dsimp [h2, h6])
      all_goals (try omega)
    · have q7 : ¬ (v4 = true) := by first | exact h6 | omega | (simpa using h6) | (simp at h6 ⊢; omega) | simp_all
      rw [if_neg q7] at hF
      cases hF
      simp -dsimp [h2, h6, q7]
      repeat (refine chk.go (by first | omega | assumption | (simp_all; done) | (simp_all; omega)) ?_; try simp -dsimp [h2, h6, q7])
      all_goals (try omega)
  · have q3 : ¬ (v = true) := by first | exact h2 | omega | (simpa using h2) | (simp at h2 ⊢; omega) | simp_all
    rw [if_neg q3] at hF
    cases hF
    simp -dsimp [h2, q3]
    repeat (refine chk.go (by first | omega | assumption | (simp_all; done) | (simp_all; omega)) ?_; try simp -dsimp [h2, q3])
    all_goals (try omega)

set_option maxRecDepth 100000 in
set_option maxHeartbeats 400000 in
theorem C.laws_eqType (B : Nat) (hB1 : 67108864 ≤ B) (hB2 : B ≤ 9223372036854775807) (a : Vl.Ty) (b : Vl.Ty) (r : Bool) (hF : F.laws_eqType a b = some r) : PureCall Try.prog B 125 [.agg [.lit (.int .i64 a.data), .lit (.int .i64 a.index)], .agg [.lit (.int .i64 b.data), .lit (.int .i64 b.index)]] (.lit (.bool r)) := by
  unfold F.laws_eqType at hF
  refine PureCall.enterLe Try.func125 (by kernel_rfl) rfl Try.ntmps125 (by simp) (by simp) ?_
  simp -dsimp
  repeat (refine chk.go (by first | omega | assumption | (simp_all; done) | (simp_all; omega)) ?_; try simp -dsimp)
  refine abr.split (fun h1 => ?_) (fun h1 => ?_)
  · have q2 : ¬ (a.data = b.data) := by first | exact h1 | omega | (simpa using h1) | (simp at h1 ⊢; omega) | simp_all
    rw [if_neg q2] at hF
    cases hF
    simp -dsimp [h1, q2]
    repeat (refine chk.go (by first | omega | assumption | (simp_all; done) | (simp_all; omega)) ?_; try simp -dsimp [h1, q2])
    all_goals (try omega)
  · have q2 : (a.data = b.data) := by first | exact h1 | omega | (simpa using h1) | (simp at h1 ⊢; omega) | simp_all
    rw [if_pos q2] at hF
    simp -dsimp [h1, q2]
    repeat (refine chk.go (by first | omega | assumption | (simp_all; done) | (simp_all; omega)) ?_; try simp -dsimp [h1, q2])
    refine abr.split (fun h3 => ?_) (fun h3 => ?_)
    · have q4 : ¬ (a.index = b.index) := by first | exact h3 | omega | (simpa using h3) | (simp at h3 ⊢; omega) | simp_all
      rw [if_neg q4] at hF
      cases hF
      simp -dsimp [h1, q2, h3, q4]
      repeat (refine chk.go (by first | omega | assumption | (simp_all; done) | (simp_all; omega)) ?_; try simp -dsimp [h1, q2, h3, q4])
      all_goals (try omega)
    · have q4 : (a.index = b.index) := by first | exact h3 | omega | (simpa using h3) | (simp at h3 ⊢; omega) | simp_all
      rw [if_pos q4] at hF
      cases hF
      simp -dsimp [h1, q2, h3, q4]
      repeat (refine chk.go (by first | omega | assumption | (simp_all; done) | (simp_all; omega)) ?_; try simp -dsimp [h1, q2, h3, q4])
      all_goals (try omega)

end Go.Proofs.Ytelglbenbnkjmaa
