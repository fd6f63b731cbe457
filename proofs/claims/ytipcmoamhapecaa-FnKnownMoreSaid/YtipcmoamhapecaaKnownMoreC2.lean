/- The contracts: the code computes the functions (printed by gen.py). -/
import Derived.Test.YtipcmoamhapecaaProg
import Derived.Test.YtipcmoamhapecaaKnownMoreF
import Derived.Test.YtipcmoamhapecaaKnownMoreC1
namespace Go.Proofs.Ytipcmoamhapecaa
open Go Go.Proofs Go.Vl
set_option linter.unusedSimpArgs false
set_option linter.unusedVariables false

attribute [local irreducible] ECallA aL AMake MLoop AgainM LeaveM awpM aopsM MutCall chk abr ACall ALoop ALoopU ADraw Again Leave PCallA PCall Post awp aops PureCall hold

theorem C.spec_ParseWorld_l3 (B : Nat) (hB1 : 67108864 ≤ B) (hB2 : B ≤ 9223372036854775807) (text : ByteArray) (v : List ByteArray) (out : List Vl.Data) (names21 : List ByteArray) (i22 : Nat) (v32 : List ByteArray) (x34 : ByteArray) (out36 : List Vl.Ctor) (k : Nat) (o : List Vl.Ctor) (hF : F.spec_ParseWorld_l3 text v out names21 i22 v32 x34 out36 k = some o) : ∀ (c : Code), navO [1, 1, 1, 1, 1, 0, 1, 0, 0, 1, 0, 0, 1, 1, 0, 1, 0, 0] (bodyOf Try.f82) = some c → ∀ (Q : Exit → ASt → Prop), Q (.exit 4) ⟨[(0, .lit (.string text)), (4, .own 0 (List.length (α := Vl.Data) out)), (5, .arr (List.map cS names21)), (6, .arr (List.map cS v)), (9, .lit (.int .i64 (i22 : Int))), (11, .ptr 2 0)], [.elems 2 (List.map Vl.Data.c out), .dead, .cells [.lit (.string x34), .own 3 (List.length (α := Vl.Ctor) o)], .elems 3 (List.map Vl.Ctor.c o)]⟩ → ALoopU Try.prog B 0 101 (hold c .mk) ⟨[(0, .lit (.string text)), (4, .own 0 (List.length (α := Vl.Data) out)), (5, .arr (List.map cS names21)), (6, .arr (List.map cS v)), (9, .lit (.int .i64 (i22 : Int))), (10, .arr (List.map cS v32)), (11, .ptr 2 0), (12, .lit (.int .i64 (k : Int)))], [.elems 2 (List.map Vl.Data.c out), .dead, .cells [.lit (.string x34), .own 3 (List.length (α := Vl.Ctor) out36)], .elems 3 (List.map Vl.Ctor.c out36)]⟩ (hold Q .mk) :=
  (CC.spec_ParseWorld_l3 B hB1 hB2 text v out names21 i22 v32 x34) out36 k o hF

set_option maxRecDepth 100000 in
set_option maxHeartbeats 400000 in
theorem CC.spec_ParseWorld_l2 (B : Nat) (hB1 : 67108864 ≤ B) (hB2 : B ≤ 9223372036854775807) (text : ByteArray) (v : List ByteArray) (names21 : List ByteArray) : (∀ (out : List Vl.Data) (i22 : Nat) (o : List Vl.Data), F.spec_ParseWorld_l2 text v out names21 i22 = some o → ∀ (c : Code), navO [1, 1, 1, 1, 1, 0, 1, 0, 0] (bodyOf Try.f82) = some c → ∀ (Q : Exit → ASt → Prop), Q (.exit 2) ⟨[(0, .lit (.string text)), (4, .own 0 (List.length (α := Vl.Data) o))], [.elems 2 (List.map Vl.Data.c o)]⟩ → ALoopU Try.prog B 0 101 (hold c .mk) ⟨[(0, .lit (.string text)), (4, .own 0 (List.length (α := Vl.Data) out)), (5, .arr (List.map cS names21)), (6, .arr (List.map cS v)), (9, .lit (.int .i64 (i22 : Int)))], [.elems 2 (List.map Vl.Data.c out), .dead]⟩ (hold Q .mk)) := by
  refine F.spec_ParseWorld_l2.partial_correctness text v names21
    (fun out i22 o => ∀ (c : Code), navO [1, 1, 1, 1, 1, 0, 1, 0, 0] (bodyOf Try.f82) = some c → ∀ (Q : Exit → ASt → Prop), Q (.exit 2) ⟨[(0, .lit (.string text)), (4, .own 0 (List.length (α := Vl.Data) o))], [.elems 2 (List.map Vl.Data.c o)]⟩ → ALoopU Try.prog B 0 101 (hold c .mk) ⟨[(0, .lit (.string text)), (4, .own 0 (List.length (α := Vl.Data) out)), (5, .arr (List.map cS names21)), (6, .arr (List.map cS v)), (9, .lit (.int .i64 (i22 : Int)))], [.elems 2 (List.map Vl.Data.c out), .dead]⟩ (hold Q .mk))
    ?_
  · intro _f_spec_ParseWorld_l2 ih_spec_ParseWorld_l2 out i22 o hF
    intro c hc Q hq
    obtain rfl : c = _ := navEq hc rfl
    refine ALoopU.know fun hk hs => ?_
    have b5 := hk 5
    simp -dsimp at b5
    have b6 := hk 6
    simp -dsimp at b6
    have d0 := hs 0 _ rfl
    simp -dsimp [Blk.bnd] at d0
    clear hk hs
    refine ALoopU.enter ?_
    simp -dsimp
    repeat (refine chk.go (by first | omega | assumption | (simp_all; done) | (simp_all; omega)) ?_; try simp -dsimp)
    refine abr.split (fun h23 => ?_) (fun h23 => ?_)
    · have q24 : (i22 < names21.length) := by first | exact h23 | omega | (simpa using h23) | (simp at h23 ⊢; omega) | simp_all
      have z25 : ((i22 : Int) < (names21.length : Int)) := by first | omega | simp_all
      rw [if_pos q24] at hF
      have hF := ob hF; obtain ⟨x26, e27, hF⟩ := hF
      have le27 := lt_of_get e27
      simp -dsimp [h23, z25, ↓e27]
      repeat (refine chk.go (by first | omega | assumption | (simp_all; done) | (simp_all; omega)) ?_; try simp -dsimp [h23, z25, ↓e27])
      have hF := ob hF; obtain ⟨v28, e29, hF⟩ := hF
      refine ((C.spec_l17Cut B hB1 hB2 x26 (61 : Int) v28 e29)).goW (by first | (simp; done) | (simp [h23, z25, ↓e27]; done) | simp_all) (by simp) ?_
      have hF := ob hF; obtain ⟨x30, e31, hF⟩ := hF
      have le31 := lt_of_get e31
      simp -dsimp [h23, z25, ↓e27, ↓e31]
      repeat (refine chk.go (by first | omega | assumption | (simp_all; done) | (simp_all; omega)) ?_; try simp -dsimp [h23, z25, ↓e27, ↓e31])
      have hF := ob hF; obtain ⟨v32, e33, hF⟩ := hF
      refine ((C.spec_l17Cut B hB1 hB2 x30 (124 : Int) v32 e33)).goW (by first | (simp; done) | (simp [h23, z25, ↓e27, ↓e31]; done) | simp_all) (by simp) ?_
      have hF := ob hF; obtain ⟨x34, e35, hF⟩ := hF
      have le35 := lt_of_get e35
      simp -dsimp [h23, z25, ↓e27, ↓e31, ↓e35]
      repeat (refine chk.go (by first | omega | assumption | (simp_all; done) | (simp_all; omega)) ?_; try simp -dsimp [h23, z25, ↓e27, ↓e31, ↓e35])
      have hF := ob hF; obtain ⟨o'50, ho49, hF⟩ := hF
      refine ALoop.goU ⟨[(0, .lit (.string text)), (4, .own 0 (List.length (α := Vl.Data) out)), (5, .arr (List.map cS names21)), (6, .arr (List.map cS v)), (9, .lit (.int .i64 (i22 : Int))), (10, .arr (List.map cS v32)), (11, .ptr 2 0), (12, .lit (.int .i64 (0 : Int)))], [.elems 2 (List.map Vl.Data.c out), .dead, .cells [.lit (.string x34), .own 3 (List.length (α := Vl.Ctor) [])], .elems 3 (List.map Vl.Ctor.c [])]⟩ ((Gh.nilCell 2 1 3 (by simp -dsimp; rfl) (by simp -dsimp)).trans (Gh.to (by simp) (by first | (simp -dsimp; done) | (simp -dsimp [h23, z25, ↓e27, ↓e31, ↓e35]; done) | simp_all) (by first | (simp -dsimp; done) | (simp -dsimp [h23, z25, ↓e27, ↓e31, ↓e35]; done) | simp_all) (by first | (simp -dsimp; done) | (simp -dsimp [h23, z25, ↓e27, ↓e31, ↓e35]; done) | simp_all))) ?_
      refine (C.spec_ParseWorld_l3 B hB1 hB2 text v out names21 i22 v32 x34 [] 0 o'50 ho49) _ rfl _ ?_
      have hF := oc hF; obtain ⟨c51, hF⟩ := hF
      have hF := oc hF; obtain ⟨c52, hF⟩ := hF
      have w53 : IntKind.i64.wrap ((i22 : Int) + 1) = (i22 : Int) + 1 := wrap_in (by omega) (by omega)
      simp -dsimp [w53]
      repeat (refine chk.go (by first | omega | assumption | (simp_all; done) | (simp_all; omega)) ?_; try simp -dsimp [w53])
      refine Again.go ⟨[(0, .lit (.string text)), (4, .own 0 (List.length (α := Vl.Data) (out ++ [(⟨x34, o'50⟩ : Vl.Data)]))), (5, .arr (List.map cS names21)), (6, .arr (List.map cS v)), (9, .lit (.int .i64 ((i22 + 1) : Int)))], [.elems 2 (List.map Vl.Data.c (out ++ [(⟨x34, o'50⟩ : Vl.Data)])), .dead]⟩ (Gh.to (by simp) (by first | (simp -dsimp; done) | (simp -dsimp [w53]; done) | simp_all) (by first | (simp -dsimp; done) | (simp -dsimp [w53]; done) | simp_all) (by first | (simp -dsimp; done) | (simp -dsimp [w53]; done) | simp_all)) ?_
      exact (ih_spec_ParseWorld_l2 (out ++ [(⟨x34, o'50⟩ : Vl.Data)]) (i22 + 1) o hF) _ rfl _ hq
    · have q24 : ¬ (i22 < names21.length) := by first | exact h23 | omega | (simpa using h23) | (simp at h23 ⊢; omega) | simp_all
      have z25 : ¬ ((i22 : Int) < (names21.length : Int)) := by first | omega | simp_all
      rw [if_neg q24] at hF
      cases hF
      simp -dsimp [h23, q24, z25]
      repeat (refine chk.go (by first | omega | assumption | (simp_all; done) | (simp_all; omega)) ?_; try simp -dsimp [h23, q24, z25])
      refine Leave.go ⟨[(0, .lit (.string text)), (4, .own 0 (List.length (α := Vl.Data) out))], [.elems 2 (List.map Vl.Data.c out)]⟩ (Gh.to (by simp) (by first | (simp -dsimp; done) | (simp -dsimp [h23, q24, z25]; done) | simp_all) (by first | (simp -dsimp; done) | (simp -dsimp [h23, q24, z25]; done) | simp_all) (by first | (simp -dsimp; done) | (simp -dsimp [h23, q24, z25]; done) | simp_all)) ?_
      exact hq

theorem C.spec_ParseWorld_l2 (B : Nat) (hB1 : 67108864 ≤ B) (hB2 : B ≤ 9223372036854775807) (text : ByteArray) (v : List ByteArray) (out : List Vl.Data) (names21 : List ByteArray) (i22 : Nat) (o : List Vl.Data) (hF : F.spec_ParseWorld_l2 text v out names21 i22 = some o) : ∀ (c : Code), navO [1, 1, 1, 1, 1, 0, 1, 0, 0] (bodyOf Try.f82) = some c → ∀ (Q : Exit → ASt → Prop), Q (.exit 2) ⟨[(0, .lit (.string text)), (4, .own 0 (List.length (α := Vl.Data) o))], [.elems 2 (List.map Vl.Data.c o)]⟩ → ALoopU Try.prog B 0 101 (hold c .mk) ⟨[(0, .lit (.string text)), (4, .own 0 (List.length (α := Vl.Data) out)), (5, .arr (List.map cS names21)), (6, .arr (List.map cS v)), (9, .lit (.int .i64 (i22 : Int)))], [.elems 2 (List.map Vl.Data.c out), .dead]⟩ (hold Q .mk) :=
  (CC.spec_ParseWorld_l2 B hB1 hB2 text v names21) out i22 o hF

set_option maxRecDepth 100000 in
set_option maxHeartbeats 400000 in
theorem C.spec_ParseWorld (B : Nat) (hB1 : 67108864 ≤ B) (hB2 : B ≤ 9223372036854775807) (text : ByteArray) (r : (List Vl.Data) × Bool) (hF : F.spec_ParseWorld text = some r) : PureCall Try.prog B 82 [.lit (.string text)] (.tup [.arr (List.map Vl.Data.c r.1), .lit (.bool r.2)]) := by
  unfold F.spec_ParseWorld at hF
  refine PureCall.enterLe Try.func82 (by kernel_rfl) rfl Try.ntmps82 (by simp) (by simp) ?_
  simp -dsimp
  repeat (refine chk.go (by first | omega | assumption | (simp_all; done) | (simp_all; omega)) ?_; try simp -dsimp)
  have hF := ob hF; obtain ⟨v, e1, hF⟩ := hF
  refine ((C.spec_l17Cut B hB1 hB2 text (59 : Int) v e1)).goW (by simp) (by simp) ?_
  simp -dsimp
  repeat (refine chk.go (by first | omega | assumption | (simp_all; done) | (simp_all; omega)) ?_; try simp -dsimp)
  have hF := ob hF; obtain ⟨o', ho20, hF⟩ := hF
  refine ALoop.goU ⟨[(0, .lit (.string text)), (4, .own 0 (List.length (α := Vl.Data) [])), (5, .own 1 (List.length (α := ByteArray) [])), (6, .arr (List.map cS v)), (7, .lit (.int .i64 (0 : Int)))], [.elems 2 (List.map Vl.Data.c []), .elems 1 (List.map cS [])]⟩ (Gh.to (by simp) (by simp -dsimp) (by simp -dsimp) (by simp -dsimp)) ?_
  refine (C.spec_ParseWorld_l1 B hB1 hB2 text v [] 0 o' ho20) _ rfl _ ?_
  rcases o' with r0 | s
  · dsimp only at hF
    cases hF
    intro st h
    simpa using h
  · dsimp only at hF
    simp -dsimp
    repeat (refine chk.go (by first | omega | assumption | (simp_all; done) | (simp_all; omega)) ?_; try simp -dsimp)
    have hF := ob hF; obtain ⟨o'55, ho54, hF⟩ := hF
    refine ALoop.goU ⟨[(0, .lit (.string text)), (4, .own 0 (List.length (α := Vl.Data) [])), (5, .arr (List.map cS s)), (6, .arr (List.map cS v)), (9, .lit (.int .i64 (0 : Int)))], [.elems 2 (List.map Vl.Data.c []), .dead]⟩ ((Gh.frzSlot 5 (l := 1) (n := List.length (α := ByteArray) s) (sz := 1) (es := List.map cS s) (by simp) (by simp) (by simp) (by simp)).trans (Gh.to (by simp) (by simp -dsimp) (by simp -dsimp) (by simp -dsimp))) ?_
    refine (C.spec_ParseWorld_l2 B hB1 hB2 text v [] s 0 o'55 ho54) _ rfl _ ?_
    simp -dsimp
    repeat (refine chk.go (by first | omega | assumption | (simp_all; done) | (simp_all; omega)) ?_; try simp -dsimp)
    have hF := ob hF; obtain ⟨v56, e57, hF⟩ := hF
    refine ((C.spec_WorldValid B hB1 hB2 o'55 v56 e57)).lend (by simp -dsimp) (by simp -dsimp) ?_
    simp -dsimp
    repeat (refine chk.go (by first | omega | assumption | (simp_all; done) | (simp_all; omega)) ?_; try simp -dsimp)
    refine abr.split (fun h58 => ?_) (fun h58 => ?_)
    · have q59 : (v56 = true) := by first | exact h58 | omega | (simpa using h58) | (simp at h58 ⊢; omega) | simp_all
      rw [if_pos q59] at hF
      simp -dsimp [h58]
      repeat (refine chk.go (by first | omega | assumption | (simp_all; done) | (simp_all; omega)) ?_; try simp -dsimp [h58])
      have hF := ob hF; obtain ⟨v60, e61, hF⟩ := hF
      refine ((C.spec_l1Text B hB1 hB2 o'55 v60 e61)).lend (by first | (simp -dsimp; done) | (simp -dsimp [h58]; done) | simp_all) (by simp -dsimp) ?_
      simp -dsimp [h58]
      repeat (refine chk.go (by first | omega | assumption | (simp_all; done) | (simp_all; omega)) ?_; try simp -dsimp [h58])
      refine abr.split (fun h62 => ?_) (fun h62 => ?_)
      · have q63 : ¬ (v60.toList = text.toList) := by first | exact h62 | omega | (simpa using h62) | (simp at h62 ⊢; omega) | simp_all
        rw [if_neg q63] at hF
        cases hF
        simp -dsimp [h58, h62, q63]
        repeat (refine chk.go (by first | omega | assumption | (simp_all; done) | (simp_all; omega)) ?_; try simp -dsimp [h58, h62, q63])
      · have q63 : (v60.toList = text.toList) := by first | exact h62 | omega | (simpa using h62) | (simp at h62 ⊢; omega) | simp_all
        rw [if_pos q63] at hF
        cases hF
        simp -dsimp [h58, h62, q63]
        repeat (refine chk.go (by first | omega | assumption | (simp_all; done) | (simp_all; omega)) ?_; try simp -dsimp [h58, h62, q63])
    · have q59 : ¬ (v56 = true) := by first | exact h58 | omega | (simpa using h58) | (simp at h58 ⊢; omega) | simp_all
      rw [if_neg q59] at hF
      cases hF
      simp -dsimp [h58, q59]
      repeat (refine chk.go (by first | omega | assumption | (simp_all; done) | (simp_all; omega)) ?_; try simp -dsimp [h58, q59])

set_option maxRecDepth 100000 in
set_option maxHeartbeats 400000 in
theorem C.spec_l1World (B : Nat) (hB1 : 67108864 ≤ B) (hB2 : B ≤ 9223372036854775807) (r' : Vl.T_spec_l17Rd) (r : (List Vl.Data) × Vl.T_spec_l17Rd) (hF : F.spec_l1World r' = some r) : MutCall Try.prog B 49 [.arr (List.map cU r'.f0), .lit (.int .i64 r'.f1)] [.ptr 0 0] (.arr (List.map Vl.Data.c r.1)) [.arr (List.map cU r.2.f0), .lit (.int .i64 r.2.f1)] := by
  unfold F.spec_l1World at hF
  refine MutCall.enter Try.func49 (by kernel_rfl) rfl Try.ntmps49 (by simp) (by simp) (by simp) (by simp) ?_
  simp -dsimp
  repeat (refine chk.go (by first | omega | assumption | (simp_all; done) | (simp_all; omega)) ?_; try simp -dsimp)
  have hF := ob hF; obtain ⟨v, e1, hF⟩ := hF
  refine ((C.spec_l1Texts B hB1 hB2 v e1)).goW (by simp) (by simp) ?_
  simp -dsimp
  repeat (refine chk.go (by first | omega | assumption | (simp_all; done) | (simp_all; omega)) ?_; try simp -dsimp)
  have hF := ob hF; obtain ⟨v2, e3, hF⟩ := hF
  refine ((C.spec_l17Rd_pick B hB1 hB2 r' (IntKind.i64.wrap ((v.length : Int) - 1)) v2 e3)).go 0 rfl (by simp) (by simp) (by simp) ?_
  have hF := ob hF; obtain ⟨x, e4a, hF⟩ := hF
  have e4a := at_some e4a; obtain ⟨ne4, e4⟩ := e4a
  have le4 := lt_of_get e4
  simp -dsimp [↓e4]
  repeat (refine chk.go (by first | omega | assumption | (simp_all; done) | (simp_all; omega)) ?_; try simp -dsimp [↓e4])
  have hF := ob hF; obtain ⟨v5, e6, hF⟩ := hF
  refine ((C.spec_ParseWorld B hB1 hB2 x v5 e6)).goW (by first | (simp; done) | (simp [↓e4]; done) | simp_all) (by simp) ?_
  cases hF
  simp -dsimp [↓e4]
  repeat (refine chk.go (by first | omega | assumption | (simp_all; done) | (simp_all; omega)) ?_; try simp -dsimp [↓e4])

set_option maxRecDepth 100000 in
set_option maxHeartbeats 400000 in
theorem C.spec_l1Fits (B : Nat) (hB1 : 67108864 ≤ B) (hB2 : B ≤ 9223372036854775807) (c' : Vl.Ctor) (index' : Int) (r : Bool) (hF : F.spec_l1Fits c' index' = some r) : PureCall Try.prog B 107 [.agg [.lit (.string c'.name), .arr (List.map Vl.Ty.c c'.args), .lit (.int .i64 c'.index)], .lit (.int .i64 index')] (.lit (.bool r)) := by
  unfold F.spec_l1Fits at hF
  refine PureCall.enterLe Try.func107 (by kernel_rfl) rfl Try.ntmps107 (by simp) (by simp) ?_
  simp -dsimp
  repeat (refine chk.go (by first | omega | assumption | (simp_all; done) | (simp_all; omega)) ?_; try simp -dsimp)
  refine abr.split (fun h1 => ?_) (fun h1 => ?_)
  · have q2 : ¬ (c'.index = 0) := by first | exact h1 | omega | (simpa using h1) | (simp at h1 ⊢; omega) | simp_all
    rw [if_neg q2] at hF
    simp -dsimp [h1, q2]
    repeat (refine chk.go (by first | omega | assumption | (simp_all; done) | (simp_all; omega)) ?_; try simp -dsimp [h1, q2])
    refine abr.split (fun h3 => ?_) (fun h3 => ?_)
    · have q4 : ¬ (index' = 0) := by first | exact h3 | omega | (simpa using h3) | (simp at h3 ⊢; omega) | simp_all
      rw [if_neg q4] at hF
      cases hF
      simp -dsimp [h1, q2, h3, q4]
      repeat (refine chk.go (by first | omega | assumption | (simp_all; done) | (simp_all; omega)) ?_; try simp -dsimp [h1, q2, h3, q4])
    · have q4 : (index' = 0) := by first | exact h3 | omega | (simpa using h3) | (simp at h3 ⊢; omega) | simp_all
      rw [if_pos q4] at hF
      cases hF
      simp -dsimp [h1, q2, eq_true h3, eq_true q4]
      repeat (refine chk.go (by first | omega | assumption | (simp_all; done) | (simp_all; omega)) ?_; try simp -dsimp [h1, q2, eq_true h3, eq_true q4])
  · have q2 : (c'.index = 0) := by first | exact h1 | omega | (simpa using h1) | (simp at h1 ⊢; omega) | simp_all
    rw [if_pos q2] at hF
    cases hF
    simp -dsimp [h1, q2]
    repeat (refine chk.go (by first | omega | assumption | (simp_all; done) | (simp_all; omega)) ?_; try simp -dsimp [h1, q2])

set_option maxRecDepth 100000 in
set_option maxHeartbeats 400000 in
theorem CC.spec_l1Ctors_l1 (B : Nat) (hB1 : 67108864 ≤ B) (hB2 : B ≤ 9223372036854775807) (w : List Vl.Data) (t : Vl.Ty) : (∀ (out : List Int) (k : Nat) (o : List Int), F.spec_l1Ctors_l1 w t out k = some o → ∀ (c : Code), navO [1, 1, 1, 0, 1, 0, 0] (bodyOf Try.f83) = some c → ∀ (Q : Exit → ASt → Prop), Q (.exit 0) ⟨[(5, .own 1 (List.length (α := Int) o))], [.dead, .elems 1 (List.map cI o)]⟩ → ALoopU Try.prog B 0 40 (hold c .mk) ⟨[(0, .arr (List.map Vl.Data.c w)), (3, .ptr 0 0), (5, .own 1 (List.length (α := Int) out)), (6, .lit (.int .i64 (k : Int)))], [.cells [.lit (.int .i64 t.data), .lit (.int .i64 t.index)], .elems 1 (List.map cI out)]⟩ (hold Q .mk)) := by
  refine F.spec_l1Ctors_l1.partial_correctness w t
    (fun out k o => ∀ (c : Code), navO [1, 1, 1, 0, 1, 0, 0] (bodyOf Try.f83) = some c → ∀ (Q : Exit → ASt → Prop), Q (.exit 0) ⟨[(5, .own 1 (List.length (α := Int) o))], [.dead, .elems 1 (List.map cI o)]⟩ → ALoopU Try.prog B 0 40 (hold c .mk) ⟨[(0, .arr (List.map Vl.Data.c w)), (3, .ptr 0 0), (5, .own 1 (List.length (α := Int) out)), (6, .lit (.int .i64 (k : Int)))], [.cells [.lit (.int .i64 t.data), .lit (.int .i64 t.index)], .elems 1 (List.map cI out)]⟩ (hold Q .mk))
    ?_
  · intro _f_spec_l1Ctors_l1 ih_spec_l1Ctors_l1 out k o hF
    intro c hc Q hq
    obtain rfl : c = _ := navEq hc rfl
    refine ALoopU.know fun hk hs => ?_
    have b0 := hk 0
    simp -dsimp at b0
    have d1 := hs 1 _ rfl
    simp -dsimp [Blk.bnd] at d1
    clear hk hs
    refine ALoopU.enter ?_
    have hF := ob hF; obtain ⟨x, e3a, hF⟩ := hF
    have e3a := at_some e3a; obtain ⟨ne3, e3⟩ := e3a
    have le3 := lt_of_get e3
    simp -dsimp [↓e3]
    repeat (refine chk.go (by first | omega | assumption | (simp_all; done) | (simp_all; omega)) ?_; try simp -dsimp [↓e3])
    refine abr.split (fun h4 => ?_) (fun h4 => ?_)
    · have q5 : (k < x.ctors.length) := by first | exact h4 | omega | (simpa using h4) | (simp at h4 ⊢; omega) | simp_all
      have z6 : ((k : Int) < (x.ctors.length : Int)) := by first | omega | simp_all
      rw [if_pos q5] at hF
      simp -dsimp [↓e3, h4, z6]
      repeat (refine chk.go (by first | omega | assumption | (simp_all; done) | (simp_all; omega)) ?_; try simp -dsimp [↓e3, h4, z6])
      refine ADraw.simple follows (by kernel_rfl) (by kernel_rfl) ?_
      have hF := ob hF; obtain ⟨x7, e8, hF⟩ := hF
      have le8 := lt_of_get e8
      simp -dsimp [↓e3, h4, z6, ↓e8]
      repeat (refine chk.go (by first | omega | assumption | (simp_all; done) | (simp_all; omega)) ?_; try simp -dsimp [↓e3, h4, z6, ↓e8])
      have hF := ob hF; obtain ⟨v, e9, hF⟩ := hF
      refine ((C.spec_l1Fits B hB1 hB2 x7 t.index v e9)).pgoW (by first | (simp; done) | (simp [↓e3, h4, z6, ↓e8]; done) | simp_all) (by simp) ?_
      simp -dsimp [↓e3, h4, z6, ↓e8]
      repeat (refine chk.go (by first | omega | assumption | (simp_all; done) | (simp_all; omega)) ?_; try simp -dsimp [↓e3, h4, z6, ↓e8])
      refine abr.split (fun h10 => ?_) (fun h10 => ?_)
      · have q11 : (v = true) := by first | exact h10 | omega | (simpa using h10) | (simp at h10 ⊢; omega) | simp_all
        rw [if_pos q11] at hF
        have hF := oc hF; obtain ⟨c12, hF⟩ := hF
        have hF := oc hF; obtain ⟨c13, hF⟩ := hF
        have w14 : IntKind.i64.wrap ((k : Int) + 1) = (k : Int) + 1 := wrap_in (by omega) (by omega)
        simp -dsimp [↓e3, h4, z6, ↓e8, h10, w14]
        repeat (refine chk.go (by first | omega | assumption | (simp_all; done) | (simp_all; omega)) ?_; try simp -dsimp [↓e3, h4, z6, ↓e8, h10, w14])
        refine Again.go ⟨[(0, .arr (List.map Vl.Data.c w)), (3, .ptr 0 0), (5, .own 1 (List.length (α := Int) (out ++ [(k : Int)]))), (6, .lit (.int .i64 ((k + 1) : Int)))], [.cells [.lit (.int .i64 t.data), .lit (.int .i64 t.index)], .elems 1 (List.map cI (out ++ [(k : Int)]))]⟩ (Gh.to (by simp) (by first | (simp -dsimp; done) | (simp -dsimp [↓e3, h4, z6, ↓e8, h10, w14]; done) | simp_all) (by first | (simp -dsimp; done) | (simp -dsimp [↓e3, h4, z6, ↓e8, h10, w14]; done) | simp_all) (by first | (simp -dsimp; done) | (simp -dsimp [↓e3, h4, z6, ↓e8, h10, w14]; done) | simp_all)) ?_
        exact (ih_spec_l1Ctors_l1 (out ++ [(k : Int)]) (k + 1) o hF) _ rfl _ hq
      · have q11 : ¬ (v = true) := by first | exact h10 | omega | (simpa using h10) | (simp at h10 ⊢; omega) | simp_all
        rw [if_neg q11] at hF
        have hF := oc hF; obtain ⟨c15, hF⟩ := hF
        have w16 : IntKind.i64.wrap ((k : Int) + 1) = (k : Int) + 1 := wrap_in (by omega) (by omega)
        simp -dsimp [↓e3, h4, z6, ↓e8, h10, q11, w16]
        repeat (refine chk.go (by first | omega | assumption | (simp_all; done) | (simp_all; omega)) ?_; try simp -dsimp [↓e3, h4, z6, ↓e8, h10, q11, w16])
        refine Again.go ⟨[(0, .arr (List.map Vl.Data.c w)), (3, .ptr 0 0), (5, .own 1 (List.length (α := Int) out)), (6, .lit (.int .i64 ((k + 1) : Int)))], [.cells [.lit (.int .i64 t.data), .lit (.int .i64 t.index)], .elems 1 (List.map cI out)]⟩ (Gh.to (by simp) (by first | (simp -dsimp; done) | (simp -dsimp [↓e3, h4, z6, ↓e8, h10, q11, w16]; done) | simp_all) (by first | (simp -dsimp; done) | (simp -dsimp [↓e3, h4, z6, ↓e8, h10, q11, w16]; done) | simp_all) (by first | (simp -dsimp; done) | (simp -dsimp [↓e3, h4, z6, ↓e8, h10, q11, w16]; done) | simp_all)) ?_
        exact (ih_spec_l1Ctors_l1 out (k + 1) o hF) _ rfl _ hq
    · have q5 : ¬ (k < x.ctors.length) := by first | exact h4 | omega | (simpa using h4) | (simp at h4 ⊢; omega) | simp_all
      have z6 : ¬ ((k : Int) < (x.ctors.length : Int)) := by first | omega | simp_all
      rw [if_neg q5] at hF
      cases hF
      simp -dsimp [↓e3, h4, q5, z6]
      repeat (refine chk.go (by first | omega | assumption | (simp_all; done) | (simp_all; omega)) ?_; try simp -dsimp [↓e3, h4, q5, z6])
      refine Leave.go ⟨[(5, .own 1 (List.length (α := Int) out))], [.dead, .elems 1 (List.map cI out)]⟩ (Gh.to (by simp) (by first | (simp -dsimp; done) | (simp -dsimp [↓e3, h4, q5, z6]; done) | simp_all) (by first | (simp -dsimp; done) | (simp -dsimp [↓e3, h4, q5, z6]; done) | simp_all) (by first | (simp -dsimp; done) | (simp -dsimp [↓e3, h4, q5, z6]; done) | simp_all)) ?_
      exact hq

theorem C.spec_l1Ctors_l1 (B : Nat) (hB1 : 67108864 ≤ B) (hB2 : B ≤ 9223372036854775807) (w : List Vl.Data) (t : Vl.Ty) (out : List Int) (k : Nat) (o : List Int) (hF : F.spec_l1Ctors_l1 w t out k = some o) : ∀ (c : Code), navO [1, 1, 1, 0, 1, 0, 0] (bodyOf Try.f83) = some c → ∀ (Q : Exit → ASt → Prop), Q (.exit 0) ⟨[(5, .own 1 (List.length (α := Int) o))], [.dead, .elems 1 (List.map cI o)]⟩ → ALoopU Try.prog B 0 40 (hold c .mk) ⟨[(0, .arr (List.map Vl.Data.c w)), (3, .ptr 0 0), (5, .own 1 (List.length (α := Int) out)), (6, .lit (.int .i64 (k : Int)))], [.cells [.lit (.int .i64 t.data), .lit (.int .i64 t.index)], .elems 1 (List.map cI out)]⟩ (hold Q .mk) :=
  (CC.spec_l1Ctors_l1 B hB1 hB2 w t) out k o hF

set_option maxRecDepth 100000 in
set_option maxHeartbeats 400000 in
theorem C.spec_l1Ctors (B : Nat) (hB1 : 67108864 ≤ B) (hB2 : B ≤ 9223372036854775807) (w : List Vl.Data) (t : Vl.Ty) (r : List Int) (hF : F.spec_l1Ctors w t = some r) : PureCall Try.prog B 83 [.arr (List.map Vl.Data.c w), .agg [.lit (.int .i64 t.data), .lit (.int .i64 t.index)]] (.arr (List.map cI r)) := by
  unfold F.spec_l1Ctors at hF
  refine PureCall.enterLe Try.func83 (by kernel_rfl) rfl Try.ntmps83 (by simp) (by simp) ?_
  simp -dsimp
  repeat (refine chk.go (by first | omega | assumption | (simp_all; done) | (simp_all; omega)) ?_; try simp -dsimp)
  refine abr.split (fun h1 => ?_) (fun h1 => ?_)
  · have q2 : (t.data = (-1)) := by first | exact h1 | omega | (simpa using h1) | (simp at h1 ⊢; omega) | simp_all
    rw [if_pos q2] at hF
    cases hF
    simp -dsimp [h1]
    repeat (refine chk.go (by first | omega | assumption | (simp_all; done) | (simp_all; omega)) ?_; try simp -dsimp [h1])
  · have q2 : ¬ (t.data = (-1)) := by first | exact h1 | omega | (simpa using h1) | (simp at h1 ⊢; omega) | simp_all
    rw [if_neg q2] at hF
    simp -dsimp [h1, q2]
    repeat (refine chk.go (by first | omega | assumption | (simp_all; done) | (simp_all; omega)) ?_; try simp -dsimp [h1, q2])
    have hF := ob hF; obtain ⟨o', ho17, hF⟩ := hF
    refine ALoop.goU ⟨[(0, .arr (List.map Vl.Data.c w)), (3, .ptr 0 0), (5, .own 1 (List.length (α := Int) [])), (6, .lit (.int .i64 (0 : Int)))], [.cells [.lit (.int .i64 t.data), .lit (.int .i64 t.index)], .elems 1 (List.map cI [])]⟩ (Gh.to (by simp) (by first | (simp -dsimp; done) | (simp -dsimp [h1, q2]; done) | simp_all) (by first | (simp -dsimp; done) | (simp -dsimp [h1, q2]; done) | simp_all) (by first | (simp -dsimp; done) | (simp -dsimp [h1, q2]; done) | simp_all)) ?_
    refine (C.spec_l1Ctors_l1 B hB1 hB2 w t [] 0 o' ho17) _ rfl _ ?_
    cases hF
    simp -dsimp
    repeat (refine chk.go (by first | omega | assumption | (simp_all; done) | (simp_all; omega)) ?_; try simp -dsimp)

set_option maxRecDepth 100000 in
set_option maxHeartbeats 400000 in
theorem C.spec_l1Result (B : Nat) (hB1 : 67108864 ≤ B) (hB2 : B ≤ 9223372036854775807) (c' : Vl.Ctor) (index' : Int) (r : Int) (hF : F.spec_l1Result c' index' = some r) : PureCall Try.prog B 99 [.agg [.lit (.string c'.name), .arr (List.map Vl.Ty.c c'.args), .lit (.int .i64 c'.index)], .lit (.int .i64 index')] (.lit (.int .i64 r)) := by
  unfold F.spec_l1Result at hF
  refine PureCall.enterLe Try.func99 (by kernel_rfl) rfl Try.ntmps99 (by simp) (by simp) ?_
  simp -dsimp
  repeat (refine chk.go (by first | omega | assumption | (simp_all; done) | (simp_all; omega)) ?_; try simp -dsimp)
  refine abr.split (fun h1 => ?_) (fun h1 => ?_)
  · have q2 : (c'.index = 0) := by first | exact h1 | omega | (simpa using h1) | (simp at h1 ⊢; omega) | simp_all
    rw [if_pos q2] at hF
    cases hF
    simp -dsimp [h1]
    repeat (refine chk.go (by first | omega | assumption | (simp_all; done) | (simp_all; omega)) ?_; try simp -dsimp [h1])
  · have q2 : ¬ (c'.index = 0) := by first | exact h1 | omega | (simpa using h1) | (simp at h1 ⊢; omega) | simp_all
    rw [if_neg q2] at hF
    cases hF
    simp -dsimp [h1, q2]
    repeat (refine chk.go (by first | omega | assumption | (simp_all; done) | (simp_all; omega)) ?_; try simp -dsimp [h1, q2])

set_option maxRecDepth 100000 in
set_option maxHeartbeats 400000 in
theorem CC.spec_l1Args_l1 (B : Nat) (hB1 : 67108864 ≤ B) (hB2 : B ≤ 9223372036854775807) (t : Vl.Ty) (x2 : Vl.Ctor) : (∀ (out : List Vl.Ty) (i : Nat) (o : List Vl.Ty), F.spec_l1Args_l1 t x2 out i = some o → ∀ (c : Code), navO [1, 1, 1, 0, 1, 0, 0] (bodyOf Try.f72) = some c → ∀ (Q : Exit → ASt → Prop), Q (.exit 0) ⟨[(7, .own 1 (List.length (α := Vl.Ty) o))], [.dead, .elems 2 (List.map Vl.Ty.c o)]⟩ → ALoopU Try.prog B 0 46 (hold c .mk) ⟨[(4, .ptr 0 0), (7, .own 1 (List.length (α := Vl.Ty) out)), (8, .ptr 2 0), (9, .lit (.int .i64 (i : Int)))], [.cells [.lit (.int .i64 t.data), .lit (.int .i64 t.index)], .elems 2 (List.map Vl.Ty.c out), .cells [.lit (.string x2.name), .arr (List.map Vl.Ty.c x2.args), .lit (.int .i64 x2.index)]]⟩ (hold Q .mk)) := by
  refine F.spec_l1Args_l1.partial_correctness t x2
    (fun out i o => ∀ (c : Code), navO [1, 1, 1, 0, 1, 0, 0] (bodyOf Try.f72) = some c → ∀ (Q : Exit → ASt → Prop), Q (.exit 0) ⟨[(7, .own 1 (List.length (α := Vl.Ty) o))], [.dead, .elems 2 (List.map Vl.Ty.c o)]⟩ → ALoopU Try.prog B 0 46 (hold c .mk) ⟨[(4, .ptr 0 0), (7, .own 1 (List.length (α := Vl.Ty) out)), (8, .ptr 2 0), (9, .lit (.int .i64 (i : Int)))], [.cells [.lit (.int .i64 t.data), .lit (.int .i64 t.index)], .elems 2 (List.map Vl.Ty.c out), .cells [.lit (.string x2.name), .arr (List.map Vl.Ty.c x2.args), .lit (.int .i64 x2.index)]]⟩ (hold Q .mk))
    ?_
  · intro _f_spec_l1Args_l1 ih_spec_l1Args_l1 out i o hF
    intro c hc Q hq
    obtain rfl : c = _ := navEq hc rfl
    refine ALoopU.know fun hk hs => ?_
    have d1 := hs 1 _ rfl
    simp -dsimp [Blk.bnd] at d1
    have d2 := hs 2 _ rfl
    simp -dsimp [Blk.bnd] at d2
    clear hk hs
    refine ALoopU.enter ?_
    simp -dsimp
    repeat (refine chk.go (by first | omega | assumption | (simp_all; done) | (simp_all; omega)) ?_; try simp -dsimp)
    refine abr.split (fun h4 => ?_) (fun h4 => ?_)
    · have q5 : (i < x2.args.length) := by first | exact h4 | omega | (simpa using h4) | (simp at h4 ⊢; omega) | simp_all
      have z6 : ((i : Int) < (x2.args.length : Int)) := by first | omega | simp_all
      rw [if_pos q5] at hF
      have hF := ob hF; obtain ⟨x7, e8, hF⟩ := hF
      have le8 := lt_of_get e8
      simp -dsimp [h4, z6, ↓e8]
      repeat (refine chk.go (by first | omega | assumption | (simp_all; done) | (simp_all; omega)) ?_; try simp -dsimp [h4, z6, ↓e8])
      refine abr.split (fun h9 => ?_) (fun h9 => ?_)
      · have q10 : (x7.index = (-1)) := by first | exact h9 | omega | (simpa using h9) | (simp at h9 ⊢; omega) | simp_all
        rw [if_pos q10] at hF
        simp -dsimp [h4, z6, ↓e8, h9]
        repeat (refine chk.go (by first | omega | assumption | (simp_all; done) | (simp_all; omega)) ?_; try simp -dsimp [h4, z6, ↓e8, h9])
        have hF := ob hF; obtain ⟨v, e11, hF⟩ := hF
        refine ((C.spec_l1Result B hB1 hB2 x2 t.index v e11)).goW (by first | (simp; done) | (simp [h4, z6, ↓e8, h9]; done) | simp_all) (by simp) ?_
        have hF := oc hF; obtain ⟨c12, hF⟩ := hF
        have w13 : IntKind.i64.wrap ((i : Int) + 1) = (i : Int) + 1 := wrap_in (by omega) (by omega)
        simp -dsimp [h4, z6, ↓e8, h9, w13]
        repeat (refine chk.go (by first | omega | assumption | (simp_all; done) | (simp_all; omega)) ?_; try simp -dsimp [h4, z6, ↓e8, h9, w13])
        refine Again.go ⟨[(4, .ptr 0 0), (7, .own 1 (List.length (α := Vl.Ty) (out ++ [(⟨x7.data, v⟩ : Vl.Ty)]))), (8, .ptr 2 0), (9, .lit (.int .i64 ((i + 1) : Int)))], [.cells [.lit (.int .i64 t.data), .lit (.int .i64 t.index)], .elems 2 (List.map Vl.Ty.c (out ++ [(⟨x7.data, v⟩ : Vl.Ty)])), .cells [.lit (.string x2.name), .arr (List.map Vl.Ty.c x2.args), .lit (.int .i64 x2.index)]]⟩ (Gh.to (by simp) (by first | (simp -dsimp; done) | (simp -dsimp [h4, z6, ↓e8, h9, w13]; done) | simp_all) (by first | (simp -dsimp; done) | (simp -dsimp [h4, z6, ↓e8, h9, w13]; done) | simp_all) (by first | (simp -dsimp; done) | (simp -dsimp [h4, z6, ↓e8, h9, w13]; done) | simp_all)) ?_
        exact (ih_spec_l1Args_l1 (out ++ [(⟨x7.data, v⟩ : Vl.Ty)]) (i + 1) o hF) _ rfl _ hq
      · have q10 : ¬ (x7.index = (-1)) := by first | exact h9 | omega | (simpa using h9) | (simp at h9 ⊢; omega) | simp_all
        rw [if_neg q10] at hF
        have hF := oc hF; obtain ⟨c14, hF⟩ := hF
        have w15 : IntKind.i64.wrap ((i : Int) + 1) = (i : Int) + 1 := wrap_in (by omega) (by omega)
        simp -dsimp [h4, z6, ↓e8, h9, q10, w15]
        repeat (refine chk.go (by first | omega | assumption | (simp_all; done) | (simp_all; omega)) ?_; try simp -dsimp [h4, z6, ↓e8, h9, q10, w15])
        refine Again.go ⟨[(4, .ptr 0 0), (7, .own 1 (List.length (α := Vl.Ty) (out ++ [x7]))), (8, .ptr 2 0), (9, .lit (.int .i64 ((i + 1) : Int)))], [.cells [.lit (.int .i64 t.data), .lit (.int .i64 t.index)], .elems 2 (List.map Vl.Ty.c (out ++ [x7])), .cells [.lit (.string x2.name), .arr (List.map Vl.Ty.c x2.args), .lit (.int .i64 x2.index)]]⟩ (Gh.to (by simp) (by first | (simp -dsimp; done) | (simp -dsimp [h4, z6, ↓e8, h9, q10, w15]; done) | simp_all) (by first | (simp -dsimp; done) | (simp -dsimp [h4, z6, ↓e8, h9, q10, w15]; done) | simp_all) (by first | (simp -dsimp; done) | (simp -dsimp [h4, z6, ↓e8, h9, q10, w15]; done) | simp_all)) ?_
        exact (ih_spec_l1Args_l1 (out ++ [x7]) (i + 1) o hF) _ rfl _ hq
    · have q5 : ¬ (i < x2.args.length) := by first | exact h4 | omega | (simpa using h4) | (simp at h4 ⊢; omega) | simp_all
      have z6 : ¬ ((i : Int) < (x2.args.length : Int)) := by first | omega | simp_all
      rw [if_neg q5] at hF
      cases hF
      simp -dsimp [h4, q5, z6]
      repeat (refine chk.go (by first | omega | assumption | (simp_all; done) | (simp_all; omega)) ?_; try simp -dsimp [h4, q5, z6])
      refine Leave.go ⟨[(7, .own 1 (List.length (α := Vl.Ty) out))], [.dead, .elems 2 (List.map Vl.Ty.c out)]⟩ (Gh.to (by simp) (by first | (simp -dsimp; done) | (simp -dsimp [h4, q5, z6]; done) | simp_all) (by first | (simp -dsimp; done) | (simp -dsimp [h4, q5, z6]; done) | simp_all) (by first | (simp -dsimp; done) | (simp -dsimp [h4, q5, z6]; done) | simp_all)) ?_
      exact hq

theorem C.spec_l1Args_l1 (B : Nat) (hB1 : 67108864 ≤ B) (hB2 : B ≤ 9223372036854775807) (t : Vl.Ty) (x2 : Vl.Ctor) (out : List Vl.Ty) (i : Nat) (o : List Vl.Ty) (hF : F.spec_l1Args_l1 t x2 out i = some o) : ∀ (c : Code), navO [1, 1, 1, 0, 1, 0, 0] (bodyOf Try.f72) = some c → ∀ (Q : Exit → ASt → Prop), Q (.exit 0) ⟨[(7, .own 1 (List.length (α := Vl.Ty) o))], [.dead, .elems 2 (List.map Vl.Ty.c o)]⟩ → ALoopU Try.prog B 0 46 (hold c .mk) ⟨[(4, .ptr 0 0), (7, .own 1 (List.length (α := Vl.Ty) out)), (8, .ptr 2 0), (9, .lit (.int .i64 (i : Int)))], [.cells [.lit (.int .i64 t.data), .lit (.int .i64 t.index)], .elems 2 (List.map Vl.Ty.c out), .cells [.lit (.string x2.name), .arr (List.map Vl.Ty.c x2.args), .lit (.int .i64 x2.index)]]⟩ (hold Q .mk) :=
  (CC.spec_l1Args_l1 B hB1 hB2 t x2) out i o hF

set_option maxRecDepth 100000 in
set_option maxHeartbeats 400000 in
theorem C.spec_l1Args (B : Nat) (hB1 : 67108864 ≤ B) (hB2 : B ≤ 9223372036854775807) (w : List Vl.Data) (t : Vl.Ty) (ctor : Int) (r : List Vl.Ty) (hF : F.spec_l1Args w t ctor = some r) : PureCall Try.prog B 72 [.arr (List.map Vl.Data.c w), .agg [.lit (.int .i64 t.data), .lit (.int .i64 t.index)], .lit (.int .i64 ctor)] (.arr (List.map Vl.Ty.c r)) := by
  unfold F.spec_l1Args at hF
  refine PureCall.enterLe Try.func72 (by kernel_rfl) rfl Try.ntmps72 (by simp) (by simp) ?_
  have hF := ob hF; obtain ⟨x, e1a, hF⟩ := hF
  have e1a := at_some e1a; obtain ⟨ne1, e1⟩ := e1a
  have le1 := lt_of_get e1
  have hF := ob hF; obtain ⟨x2, e3a, hF⟩ := hF
  have e3a := at_some e3a; obtain ⟨ne3, e3⟩ := e3a
  have le3 := lt_of_get e3
  simp -dsimp [↓e1, ↓e3]
  repeat (refine chk.go (by first | omega | assumption | (simp_all; done) | (simp_all; omega)) ?_; try simp -dsimp [↓e1, ↓e3])
  have hF := ob hF; obtain ⟨o', ho16, hF⟩ := hF
  refine ALoop.goU ⟨[(4, .ptr 0 0), (7, .own 1 (List.length (α := Vl.Ty) [])), (8, .ptr 2 0), (9, .lit (.int .i64 (0 : Int)))], [.cells [.lit (.int .i64 t.data), .lit (.int .i64 t.index)], .elems 2 (List.map Vl.Ty.c []), .cells [.lit (.string x2.name), .arr (List.map Vl.Ty.c x2.args), .lit (.int .i64 x2.index)]]⟩ (Gh.to (by simp) (by first | (simp -dsimp; done) | (simp -dsimp [↓e1, ↓e3]; done) | simp_all) (by first | (simp -dsimp; done) | (simp -dsimp [↓e1, ↓e3]; done) | simp_all) (by first | (simp -dsimp; done) | (simp -dsimp [↓e1, ↓e3]; done) | simp_all)) ?_
  refine (C.spec_l1Args_l1 B hB1 hB2 t x2 [] 0 o' ho16) _ rfl _ ?_
  cases hF
  simp -dsimp
  repeat (refine chk.go (by first | omega | assumption | (simp_all; done) | (simp_all; omega)) ?_; try simp -dsimp)

set_option maxRecDepth 100000 in
set_option maxHeartbeats 400000 in
theorem C.spec_l1Slot (B : Nat) (hB1 : 67108864 ≤ B) (hB2 : B ≤ 9223372036854775807) (t : Vl.Ty) (r : Int) (hF : F.spec_l1Slot t = some r) : PureCall Try.prog B 85 [.agg [.lit (.int .i64 t.data), .lit (.int .i64 t.index)]] (.lit (.int .i64 r)) := by
  unfold F.spec_l1Slot at hF
  refine PureCall.enterLe Try.func85 (by kernel_rfl) rfl Try.ntmps85 (by simp) (by simp) ?_
  cases hF
  simp -dsimp
  repeat (refine chk.go (by first | omega | assumption | (simp_all; done) | (simp_all; omega)) ?_; try simp -dsimp)

set_option maxRecDepth 100000 in
set_option maxHeartbeats 400000 in
theorem C.spec_l1Depth (B : Nat) (hB1 : 67108864 ≤ B) (hB2 : B ≤ 9223372036854775807) (table : List Int) (t : Vl.Ty) (r : Int) (hF : F.spec_l1Depth table t = some r) : PureCall Try.prog B 51 [.arr (List.map cI table), .agg [.lit (.int .i64 t.data), .lit (.int .i64 t.index)]] (.lit (.int .i64 r)) := by
  unfold F.spec_l1Depth at hF
  refine PureCall.enterLe Try.func51 (by kernel_rfl) rfl Try.ntmps51 (by simp) (by simp) ?_
  simp -dsimp
  repeat (refine chk.go (by first | omega | assumption | (simp_all; done) | (simp_all; omega)) ?_; try simp -dsimp)
  refine abr.split (fun h1 => ?_) (fun h1 => ?_)
  · have q2 : (t.data = (-1)) := by first | exact h1 | omega | (simpa using h1) | (simp at h1 ⊢; omega) | simp_all
    rw [if_pos q2] at hF
    cases hF
    simp -dsimp [h1]
    repeat (refine chk.go (by first | omega | assumption | (simp_all; done) | (simp_all; omega)) ?_; try simp -dsimp [h1])
  · have q2 : ¬ (t.data = (-1)) := by first | exact h1 | omega | (simpa using h1) | (simp at h1 ⊢; omega) | simp_all
    rw [if_neg q2] at hF
    simp -dsimp [h1, q2]
    repeat (refine chk.go (by first | omega | assumption | (simp_all; done) | (simp_all; omega)) ?_; try simp -dsimp [h1, q2])
    have hF := ob hF; obtain ⟨v, e3, hF⟩ := hF
    refine ((C.spec_l1Slot B hB1 hB2 t v e3)).goW (by first | (simp; done) | (simp [h1, q2]; done) | simp_all) (by simp) ?_
    have hF := ob hF; obtain ⟨x, e4a, hF⟩ := hF
    have e4a := at_some e4a; obtain ⟨ne4, e4⟩ := e4a
    have le4 := lt_of_get e4
    cases hF
    simp -dsimp [h1, q2, ↓e4]
    repeat (refine chk.go (by first | omega | assumption | (simp_all; done) | (simp_all; omega)) ?_; try simp -dsimp [h1, q2, ↓e4])

set_option maxRecDepth 100000 in
set_option maxHeartbeats 400000 in
theorem CC.spec_l1Most_l1 (B : Nat) (hB1 : 67108864 ≤ B) (hB2 : B ≤ 9223372036854775807) (table : List Int) (v : List Vl.Ty) : (∀ (most : Int) (i : Nat) (o : Lo Int Int), F.spec_l1Most_l1 table v most i = some o → ∀ (c : Code), navO [1, 1, 1, 0, 1, 0, 0] (bodyOf Try.f84) = some c → ∀ (Q : Exit → ASt → Prop), o.post (fun r => ∀ st, Post Try.prog Try.f84 (fun r' _ => r'.le (.lit (.int .i64 r))) .ret st → Q .ret st) (fun s => Q (.exit 0) ⟨[(10, .lit (.int .i64 s))], []⟩) → ALoopU Try.prog B 0 37 (hold c .mk) ⟨[(1, .arr (List.map cI table)), (9, .arr (List.map Vl.Ty.c v)), (10, .lit (.int .i64 most)), (11, .lit (.int .i64 (i : Int)))], []⟩ (hold Q .mk)) := by
  refine F.spec_l1Most_l1.partial_correctness table v
    (fun most i o => ∀ (c : Code), navO [1, 1, 1, 0, 1, 0, 0] (bodyOf Try.f84) = some c → ∀ (Q : Exit → ASt → Prop), o.post (fun r => ∀ st, Post Try.prog Try.f84 (fun r' _ => r'.le (.lit (.int .i64 r))) .ret st → Q .ret st) (fun s => Q (.exit 0) ⟨[(10, .lit (.int .i64 s))], []⟩) → ALoopU Try.prog B 0 37 (hold c .mk) ⟨[(1, .arr (List.map cI table)), (9, .arr (List.map Vl.Ty.c v)), (10, .lit (.int .i64 most)), (11, .lit (.int .i64 (i : Int)))], []⟩ (hold Q .mk))
    ?_
  · intro _f_spec_l1Most_l1 ih_spec_l1Most_l1 most i o hF
    intro c hc Q hq
    obtain rfl : c = _ := navEq hc rfl
    refine ALoopU.know fun hk hs => ?_
    have b1 := hk 1
    simp -dsimp at b1
    have b9 := hk 9
    simp -dsimp at b9
    clear hk hs
    refine ALoopU.enter ?_
    simp -dsimp
    repeat (refine chk.go (by first | omega | assumption | (simp_all; done) | (simp_all; omega)) ?_; try simp -dsimp)
    refine abr.split (fun h2 => ?_) (fun h2 => ?_)
    · have q3 : (i < v.length) := by first | exact h2 | omega | (simpa using h2) | (simp at h2 ⊢; omega) | simp_all
      have z4 : ((i : Int) < (v.length : Int)) := by first | omega | simp_all
      rw [if_pos q3] at hF
      have hF := ob hF; obtain ⟨x, e5, hF⟩ := hF
      have le5 := lt_of_get e5
      simp -dsimp [h2, z4, ↓e5]
      repeat (refine chk.go (by first | omega | assumption | (simp_all; done) | (simp_all; omega)) ?_; try simp -dsimp [h2, z4, ↓e5])
      have hF := ob hF; obtain ⟨v6, e7, hF⟩ := hF
      refine ((C.spec_l1Depth B hB1 hB2 table x v6 e7)).goW (by first | (simp; done) | (simp [h2, z4, ↓e5]; done) | simp_all) (by simp) ?_
      simp -dsimp [h2, z4, ↓e5]
      repeat (refine chk.go (by first | omega | assumption | (simp_all; done) | (simp_all; omega)) ?_; try simp -dsimp [h2, z4, ↓e5])
      refine abr.split (fun h8 => ?_) (fun h8 => ?_)
      · have q9 : (v6 = 0) := by first | exact h8 | omega | (simpa using h8) | (simp at h8 ⊢; omega) | simp_all
        rw [if_pos q9] at hF
        cases hF
        simp -dsimp [h2, z4, ↓e5, eq_true h8]
        repeat (refine chk.go (by first | omega | assumption | (simp_all; done) | (simp_all; omega)) ?_; try simp -dsimp [h2, z4, ↓e5, eq_true h8])
        refine Leave.go _ (Gh.refl _) (hq _ ?_)
        simp -dsimp [h2, z4, ↓e5, eq_true h8]
        repeat (refine chk.go (by first | omega | assumption | (simp_all; done) | (simp_all; omega)) ?_; try simp -dsimp [h2, z4, ↓e5, eq_true h8])
      · have q9 : ¬ (v6 = 0) := by first | exact h8 | omega | (simpa using h8) | (simp at h8 ⊢; omega) | simp_all
        rw [if_neg q9] at hF
        simp -dsimp [h2, z4, ↓e5, h8, q9]
        repeat (refine chk.go (by first | omega | assumption | (simp_all; done) | (simp_all; omega)) ?_; try simp -dsimp [h2, z4, ↓e5, h8, q9])
        refine abr.split (fun h10 => ?_) (fun h10 => ?_)
        · have q11 : (most < v6) := by first | exact h10 | omega | (simpa using h10) | (simp at h10 ⊢; omega) | simp_all
          rw [if_pos q11] at hF
          have w12 : IntKind.i64.wrap ((i : Int) + 1) = (i : Int) + 1 := wrap_in (by omega) (by omega)
          simp -dsimp [h2, z4, ↓e5, h8, q9, h10, w12]
          repeat (refine chk.go (by first | omega | assumption | (simp_all; done) | (simp_all; omega)) ?_; try simp -dsimp [h2, z4, ↓e5, h8, q9, h10, w12])
          refine Again.go ⟨[(1, .arr (List.map cI table)), (9, .arr (List.map Vl.Ty.c v)), (10, .lit (.int .i64 v6)), (11, .lit (.int .i64 ((i + 1) : Int)))], []⟩ (Gh.to (by simp) (by first | (simp -dsimp; done) | (simp -dsimp [h2, z4, ↓e5, h8, q9, h10, w12]; done) | simp_all) (by first | (simp -dsimp; done) | (simp -dsimp [h2, z4, ↓e5, h8, q9, h10, w12]; done) | simp_all) (by first | (simp -dsimp; done) | (simp -dsimp [h2, z4, ↓e5, h8, q9, h10, w12]; done) | simp_all)) ?_
          exact (ih_spec_l1Most_l1 v6 (i + 1) o hF) _ rfl _ hq
        · have q11 : ¬ (most < v6) := by first | exact h10 | omega | (simpa using h10) | (simp at h10 ⊢; omega) | simp_all
          rw [if_neg q11] at hF
          have w13 : IntKind.i64.wrap ((i : Int) + 1) = (i : Int) + 1 := wrap_in (by omega) (by omega)
          simp -dsimp [h2, z4, ↓e5, h8, q9, h10, q11, w13]
          repeat (refine chk.go (by first | omega | assumption | (simp_all; done) | (simp_all; omega)) ?_; try simp -dsimp [h2, z4, ↓e5, h8, q9, h10, q11, w13])
          refine Again.go ⟨[(1, .arr (List.map cI table)), (9, .arr (List.map Vl.Ty.c v)), (10, .lit (.int .i64 most)), (11, .lit (.int .i64 ((i + 1) : Int)))], []⟩ (Gh.to (by simp) (by first | (simp -dsimp; done) | (simp -dsimp [h2, z4, ↓e5, h8, q9, h10, q11, w13]; done) | simp_all) (by first | (simp -dsimp; done) | (simp -dsimp [h2, z4, ↓e5, h8, q9, h10, q11, w13]; done) | simp_all) (by first | (simp -dsimp; done) | (simp -dsimp [h2, z4, ↓e5, h8, q9, h10, q11, w13]; done) | simp_all)) ?_
          exact (ih_spec_l1Most_l1 most (i + 1) o hF) _ rfl _ hq
    · have q3 : ¬ (i < v.length) := by first | exact h2 | omega | (simpa using h2) | (simp at h2 ⊢; omega) | simp_all
      have z4 : ¬ ((i : Int) < (v.length : Int)) := by first | omega | simp_all
      rw [if_neg q3] at hF
      cases hF
      simp -dsimp [h2, q3, z4]
      repeat (refine chk.go (by first | omega | assumption | (simp_all; done) | (simp_all; omega)) ?_; try simp -dsimp [h2, q3, z4])
      refine Leave.go ⟨[(10, .lit (.int .i64 most))], []⟩ (Gh.to (by simp) (by first | (simp -dsimp; done) | (simp -dsimp [h2, q3, z4]; done) | simp_all) (by first | (simp -dsimp; done) | (simp -dsimp [h2, q3, z4]; done) | simp_all) (by first | (simp -dsimp; done) | (simp -dsimp [h2, q3, z4]; done) | simp_all)) ?_
      exact hq

theorem C.spec_l1Most_l1 (B : Nat) (hB1 : 67108864 ≤ B) (hB2 : B ≤ 9223372036854775807) (table : List Int) (v : List Vl.Ty) (most : Int) (i : Nat) (o : Lo Int Int) (hF : F.spec_l1Most_l1 table v most i = some o) : ∀ (c : Code), navO [1, 1, 1, 0, 1, 0, 0] (bodyOf Try.f84) = some c → ∀ (Q : Exit → ASt → Prop), o.post (fun r => ∀ st, Post Try.prog Try.f84 (fun r' _ => r'.le (.lit (.int .i64 r))) .ret st → Q .ret st) (fun s => Q (.exit 0) ⟨[(10, .lit (.int .i64 s))], []⟩) → ALoopU Try.prog B 0 37 (hold c .mk) ⟨[(1, .arr (List.map cI table)), (9, .arr (List.map Vl.Ty.c v)), (10, .lit (.int .i64 most)), (11, .lit (.int .i64 (i : Int)))], []⟩ (hold Q .mk) :=
  (CC.spec_l1Most_l1 B hB1 hB2 table v) most i o hF

set_option maxRecDepth 100000 in
set_option maxHeartbeats 400000 in
theorem C.spec_l1Most (B : Nat) (hB1 : 67108864 ≤ B) (hB2 : B ≤ 9223372036854775807) (w : List Vl.Data) (table : List Int) (t : Vl.Ty) (ctor : Int) (r : Int) (hF : F.spec_l1Most w table t ctor = some r) : PureCall Try.prog B 84 [.arr (List.map Vl.Data.c w), .arr (List.map cI table), .agg [.lit (.int .i64 t.data), .lit (.int .i64 t.index)], .lit (.int .i64 ctor)] (.lit (.int .i64 r)) := by
  unfold F.spec_l1Most at hF
  refine PureCall.enterLe Try.func84 (by kernel_rfl) rfl Try.ntmps84 (by simp) (by simp) ?_
  simp -dsimp
  repeat (refine chk.go (by first | omega | assumption | (simp_all; done) | (simp_all; omega)) ?_; try simp -dsimp)
  have hF := ob hF; obtain ⟨v, e1, hF⟩ := hF
  refine ((C.spec_l1Args B hB1 hB2 w t ctor v e1)).goW (by simp) (by simp) ?_
  simp -dsimp
  repeat (refine chk.go (by first | omega | assumption | (simp_all; done) | (simp_all; omega)) ?_; try simp -dsimp)
  have hF := ob hF; obtain ⟨o', ho14, hF⟩ := hF
  refine ALoop.goU ⟨[(1, .arr (List.map cI table)), (9, .arr (List.map Vl.Ty.c v)), (10, .lit (.int .i64 (0 : Int))), (11, .lit (.int .i64 (0 : Int)))], []⟩ (Gh.to (by simp) (by simp -dsimp) (by simp -dsimp) (by simp -dsimp)) ?_
  refine (C.spec_l1Most_l1 B hB1 hB2 table v (0 : Int) 0 o' ho14) _ rfl _ ?_
  rcases o' with r0 | s
  · dsimp only at hF
    cases hF
    intro st h
    simpa using h
  · dsimp only at hF
    cases hF
    simp -dsimp
    repeat (refine chk.go (by first | omega | assumption | (simp_all; done) | (simp_all; omega)) ?_; try simp -dsimp)

set_option maxRecDepth 100000 in
set_option maxHeartbeats 400000 in
theorem CC.spec_l1Table_l3 (B : Nat) (hB1 : 67108864 ≤ B) (hB2 : B ≤ 9223372036854775807) (w : List Vl.Data) (n : Nat) (s : Nat) (v : List Int) : (∀ (table10 : List Int) (i : Nat) (o : List Int), F.spec_l1Table_l3 w n s v table10 i = some o → ∀ (c : Code), navO [1, 1, 0, 1, 0, 0, 1, 0, 0, 1, 0, 0, 1, 0, 0, 1, 1, 1, 0, 0] (bodyOf Try.f50) = some c → ∀ (Q : Exit → ASt → Prop), Q (.exit 4) ⟨[(0, .arr (List.map Vl.Data.c w)), (3, .own 0 (List.length (α := Int) o)), (4, .lit (.int .i64 (n : Int))), (5, .lit (.int .i64 (s : Int)))], [.elems 1 (List.map cI o)]⟩ → ALoopU Try.prog B 0 70 (hold c .mk) ⟨[(0, .arr (List.map Vl.Data.c w)), (3, .own 0 (List.length (α := Int) table10)), (4, .lit (.int .i64 (n : Int))), (5, .lit (.int .i64 (s : Int))), (6, .ptr 1 0), (7, .arr (List.map cI v)), (8, .lit (.int .i64 (i : Int)))], [.elems 1 (List.map cI table10), .cells [.lit (.int .i64 (IntKind.i64.wrap ((s : Int).tdiv 4))), .lit (.int .i64 ((s : Int).tmod 4))]]⟩ (hold Q .mk)) := by
  refine F.spec_l1Table_l3.partial_correctness w n s v
    (fun table10 i o => ∀ (c : Code), navO [1, 1, 0, 1, 0, 0, 1, 0, 0, 1, 0, 0, 1, 0, 0, 1, 1, 1, 0, 0] (bodyOf Try.f50) = some c → ∀ (Q : Exit → ASt → Prop), Q (.exit 4) ⟨[(0, .arr (List.map Vl.Data.c w)), (3, .own 0 (List.length (α := Int) o)), (4, .lit (.int .i64 (n : Int))), (5, .lit (.int .i64 (s : Int)))], [.elems 1 (List.map cI o)]⟩ → ALoopU Try.prog B 0 70 (hold c .mk) ⟨[(0, .arr (List.map Vl.Data.c w)), (3, .own 0 (List.length (α := Int) table10)), (4, .lit (.int .i64 (n : Int))), (5, .lit (.int .i64 (s : Int))), (6, .ptr 1 0), (7, .arr (List.map cI v)), (8, .lit (.int .i64 (i : Int)))], [.elems 1 (List.map cI table10), .cells [.lit (.int .i64 (IntKind.i64.wrap ((s : Int).tdiv 4))), .lit (.int .i64 ((s : Int).tmod 4))]]⟩ (hold Q .mk))
    ?_
  · intro _f_spec_l1Table_l3 ih_spec_l1Table_l3 table10 i o hF
    intro c hc Q hq
    obtain rfl : c = _ := navEq hc rfl
    refine ALoopU.know fun hk hs => ?_
    have b0 := hk 0
    simp -dsimp at b0
    have b7 := hk 7
    simp -dsimp at b7
    have d0 := hs 0 _ rfl
    simp -dsimp [Blk.bnd] at d0
    clear hk hs
    refine ALoopU.enter ?_
    simp -dsimp
    repeat (refine chk.go (by first | omega | assumption | (simp_all; done) | (simp_all; omega)) ?_; try simp -dsimp)
    refine abr.split (fun h11 => ?_) (fun h11 => ?_)
    · have q12 : (i < v.length) := by first | exact h11 | omega | (simpa using h11) | (simp at h11 ⊢; omega) | simp_all
      have z13 : ((i : Int) < (v.length : Int)) := by first | omega | simp_all
      rw [if_pos q12] at hF
      simp -dsimp [h11, z13]
      repeat (refine chk.go (by first | omega | assumption | (simp_all; done) | (simp_all; omega)) ?_; try simp -dsimp [h11, z13])
      refine ADraw.eff [84] [(0, 0), (0, 0), (0, 0), (0, 0), (0, 0), (0, 0), (0, 0), (0, 1), (1, 1)] [1, 1, 1, 1, 1, 1, 1, 1, 1] follows (by kernel_rfl) (by kernel_rfl) (by kernel_rfl) ?_
      have hF := ob hF; obtain ⟨x, e14, hF⟩ := hF
      have le14 := lt_of_get e14
      simp -dsimp [h11, z13, ↓e14]
      repeat (refine chk.go (by first | omega | assumption | (simp_all; done) | (simp_all; omega)) ?_; try simp -dsimp [h11, z13, ↓e14])
      have hF := ob hF; obtain ⟨v15, e16, hF⟩ := hF
      refine ((C.spec_l1Most B hB1 hB2 w table10 (⟨IntKind.i64.wrap ((s : Int).tdiv 4), (s : Int).tmod 4⟩ : Vl.Ty) x v15 e16)).elend (by first | (simp -dsimp; done) | (simp -dsimp [h11, z13, ↓e14]; done) | simp_all) (by simp -dsimp) ?_
      simp -dsimp [h11, z13, ↓e14]
      repeat (refine chk.go (by first | omega | assumption | (simp_all; done) | (simp_all; omega)) ?_; try simp -dsimp [h11, z13, ↓e14])
      refine abr.split (fun h17 => ?_) (fun h17 => ?_)
      · have q18 : (0 < v15) := by first | exact h17 | omega | (simpa using h17) | (simp at h17 ⊢; omega) | simp_all
        rw [if_pos q18] at hF
        have hF := ob hF; obtain ⟨x19, e20, hF⟩ := hF
        have le20 := lt_of_get e20
        simp -dsimp [h11, z13, ↓e14, h17, ↓e20]
        repeat (refine chk.go (by first | omega | assumption | (simp_all; done) | (simp_all; omega)) ?_; try simp -dsimp [h11, z13, ↓e14, h17, ↓e20])
        refine abr.split (fun h21 => ?_) (fun h21 => ?_)
        · have q22 : ¬ (x19 = 0) := by first | exact h21 | omega | (simpa using h21) | (simp at h21 ⊢; omega) | simp_all
          rw [if_neg q22] at hF
          simp -dsimp [h11, z13, ↓e14, h17, ↓e20, h21, q22]
          repeat (refine chk.go (by first | omega | assumption | (simp_all; done) | (simp_all; omega)) ?_; try simp -dsimp [h11, z13, ↓e14, h17, ↓e20, h21, q22])
          refine abr.split (fun h23 => ?_) (fun h23 => ?_)
          · have q24 : (v15 < x19) := by first | exact h23 | omega | (simpa using h23) | (simp at h23 ⊢; omega) | simp_all
            rw [if_pos q24] at hF
            have w25 : IntKind.i64.wrap ((i : Int) + 1) = (i : Int) + 1 := wrap_in (by omega) (by omega)
            simp -dsimp [h11, z13, ↓e14, h17, ↓e20, h21, q22, h23, w25]
            repeat (refine chk.go (by first | omega | assumption | (simp_all; done) | (simp_all; omega)) ?_; try simp -dsimp [h11, z13, ↓e14, h17, ↓e20, h21, q22, h23, w25])
            refine Again.go ⟨[(0, .arr (List.map Vl.Data.c w)), (3, .own 0 (List.length (α := Int) (table10.set s v15))), (4, .lit (.int .i64 (n : Int))), (5, .lit (.int .i64 (s : Int))), (6, .ptr 1 0), (7, .arr (List.map cI v)), (8, .lit (.int .i64 ((i + 1) : Int)))], [.elems 1 (List.map cI (table10.set s v15)), .cells [.lit (.int .i64 (IntKind.i64.wrap ((s : Int).tdiv 4))), .lit (.int .i64 ((s : Int).tmod 4))]]⟩ (Gh.to (by simp) (by first | (simp -dsimp; done) | (simp -dsimp [h11, z13, ↓e14, h17, ↓e20, h21, q22, h23, w25]; done) | simp_all) (by first | (simp -dsimp; done) | (simp -dsimp [h11, z13, ↓e14, h17, ↓e20, h21, q22, h23, w25]; done) | simp_all) (by first | (simp -dsimp; done) | (simp -dsimp [h11, z13, ↓e14, h17, ↓e20, h21, q22, h23, w25]; done) | simp_all)) ?_
            exact (ih_spec_l1Table_l3 (table10.set s v15) (i + 1) o hF) _ rfl _ hq
          · have q24 : ¬ (v15 < x19) := by first | exact h23 | omega | (simpa using h23) | (simp at h23 ⊢; omega) | simp_all
            rw [if_neg q24] at hF
            have w26 : IntKind.i64.wrap ((i : Int) + 1) = (i : Int) + 1 := wrap_in (by omega) (by omega)
            simp -dsimp [h11, z13, ↓e14, h17, ↓e20, h21, q22, h23, q24, w26]
            repeat (refine chk.go (by first | omega | assumption | (simp_all; done) | (simp_all; omega)) ?_; try simp -dsimp [h11, z13, ↓e14, h17, ↓e20, h21, q22, h23, q24, w26])
            refine Again.go ⟨[(0, .arr (List.map Vl.Data.c w)), (3, .own 0 (List.length (α := Int) table10)), (4, .lit (.int .i64 (n : Int))), (5, .lit (.int .i64 (s : Int))), (6, .ptr 1 0), (7, .arr (List.map cI v)), (8, .lit (.int .i64 ((i + 1) : Int)))], [.elems 1 (List.map cI table10), .cells [.lit (.int .i64 (IntKind.i64.wrap ((s : Int).tdiv 4))), .lit (.int .i64 ((s : Int).tmod 4))]]⟩ (Gh.to (by simp) (by first | (simp -dsimp; done) | (simp -dsimp [h11, z13, ↓e14, h17, ↓e20, h21, q22, h23, q24, w26]; done) | simp_all) (by first | (simp -dsimp; done) | (simp -dsimp [h11, z13, ↓e14, h17, ↓e20, h21, q22, h23, q24, w26]; done) | simp_all) (by first | (simp -dsimp; done) | (simp -dsimp [h11, z13, ↓e14, h17, ↓e20, h21, q22, h23, q24, w26]; done) | simp_all)) ?_
            exact (ih_spec_l1Table_l3 table10 (i + 1) o hF) _ rfl _ hq
        · have q22 : (x19 = 0) := by first | exact h21 | omega | (simpa using h21) | (simp at h21 ⊢; omega) | simp_all
          rw [if_pos q22] at hF
          have w27 : IntKind.i64.wrap ((i : Int) + 1) = (i : Int) + 1 := wrap_in (by omega) (by omega)
          simp -dsimp [h11, z13, ↓e14, h17, ↓e20, eq_true h21, eq_true q22, w27]
          repeat (refine chk.go (by first | omega | assumption | (simp_all; done) | (simp_all; omega)) ?_; try simp -dsimp [h11, z13, ↓e14, h17, ↓e20, eq_true h21, eq_true q22, w27])
          refine Again.go ⟨[(0, .arr (List.map Vl.Data.c w)), (3, .own 0 (List.length (α := Int) (table10.set s v15))), (4, .lit (.int .i64 (n : Int))), (5, .lit (.int .i64 (s : Int))), (6, .ptr 1 0), (7, .arr (List.map cI v)), (8, .lit (.int .i64 ((i + 1) : Int)))], [.elems 1 (List.map cI (table10.set s v15)), .cells [.lit (.int .i64 (IntKind.i64.wrap ((s : Int).tdiv 4))), .lit (.int .i64 ((s : Int).tmod 4))]]⟩ (Gh.to (by simp) (by first | (simp -dsimp; done) | (simp -dsimp [h11, z13, ↓e14, h17, ↓e20, eq_true h21, eq_true q22, w27]; done) | simp_all) (by first | (simp -dsimp; done) | (simp -dsimp [h11, z13, ↓e14, h17, ↓e20, eq_true h21, eq_true q22, w27]; done) | simp_all) (by first | (simp -dsimp; done) | (simp -dsimp [h11, z13, ↓e14, h17, ↓e20, eq_true h21, eq_true q22, w27]; done) | simp_all)) ?_
          exact (ih_spec_l1Table_l3 (table10.set s v15) (i + 1) o hF) _ rfl _ hq
      · have q18 : ¬ (0 < v15) := by first | exact h17 | omega | (simpa using h17) | (simp at h17 ⊢; omega) | simp_all
        rw [if_neg q18] at hF
        have w28 : IntKind.i64.wrap ((i : Int) + 1) = (i : Int) + 1 := wrap_in (by omega) (by omega)
        simp -dsimp [h11, z13, ↓e14, h17, q18, w28]
        repeat (refine chk.go (by first | omega | assumption | (simp_all; done) | (simp_all; omega)) ?_; try simp -dsimp [h11, z13, ↓e14, h17, q18, w28])
        refine Again.go ⟨[(0, .arr (List.map Vl.Data.c w)), (3, .own 0 (List.length (α := Int) table10)), (4, .lit (.int .i64 (n : Int))), (5, .lit (.int .i64 (s : Int))), (6, .ptr 1 0), (7, .arr (List.map cI v)), (8, .lit (.int .i64 ((i + 1) : Int)))], [.elems 1 (List.map cI table10), .cells [.lit (.int .i64 (IntKind.i64.wrap ((s : Int).tdiv 4))), .lit (.int .i64 ((s : Int).tmod 4))]]⟩ (Gh.to (by simp) (by first | (simp -dsimp; done) | (simp -dsimp [h11, z13, ↓e14, h17, q18, w28]; done) | simp_all) (by first | (simp -dsimp; done) | (simp -dsimp [h11, z13, ↓e14, h17, q18, w28]; done) | simp_all) (by first | (simp -dsimp; done) | (simp -dsimp [h11, z13, ↓e14, h17, q18, w28]; done) | simp_all)) ?_
        exact (ih_spec_l1Table_l3 table10 (i + 1) o hF) _ rfl _ hq
    · have q12 : ¬ (i < v.length) := by first | exact h11 | omega | (simpa using h11) | (simp at h11 ⊢; omega) | simp_all
      have z13 : ¬ ((i : Int) < (v.length : Int)) := by first | omega | simp_all
      rw [if_neg q12] at hF
      cases hF
      simp -dsimp [h11, q12, z13]
      repeat (refine chk.go (by first | omega | assumption | (simp_all; done) | (simp_all; omega)) ?_; try simp -dsimp [h11, q12, z13])
      refine Leave.go ⟨[(0, .arr (List.map Vl.Data.c w)), (3, .own 0 (List.length (α := Int) table10)), (4, .lit (.int .i64 (n : Int))), (5, .lit (.int .i64 (s : Int)))], [.elems 1 (List.map cI table10)]⟩ (Gh.to (by simp) (by first | (simp -dsimp; done) | (simp -dsimp [h11, q12, z13]; done) | simp_all) (by first | (simp -dsimp; done) | (simp -dsimp [h11, q12, z13]; done) | simp_all) (by first | (simp -dsimp; done) | (simp -dsimp [h11, q12, z13]; done) | simp_all)) ?_
      exact hq

theorem C.spec_l1Table_l3 (B : Nat) (hB1 : 67108864 ≤ B) (hB2 : B ≤ 9223372036854775807) (w : List Vl.Data) (n : Nat) (s : Nat) (v : List Int) (table10 : List Int) (i : Nat) (o : List Int) (hF : F.spec_l1Table_l3 w n s v table10 i = some o) : ∀ (c : Code), navO [1, 1, 0, 1, 0, 0, 1, 0, 0, 1, 0, 0, 1, 0, 0, 1, 1, 1, 0, 0] (bodyOf Try.f50) = some c → ∀ (Q : Exit → ASt → Prop), Q (.exit 4) ⟨[(0, .arr (List.map Vl.Data.c w)), (3, .own 0 (List.length (α := Int) o)), (4, .lit (.int .i64 (n : Int))), (5, .lit (.int .i64 (s : Int)))], [.elems 1 (List.map cI o)]⟩ → ALoopU Try.prog B 0 70 (hold c .mk) ⟨[(0, .arr (List.map Vl.Data.c w)), (3, .own 0 (List.length (α := Int) table10)), (4, .lit (.int .i64 (n : Int))), (5, .lit (.int .i64 (s : Int))), (6, .ptr 1 0), (7, .arr (List.map cI v)), (8, .lit (.int .i64 (i : Int)))], [.elems 1 (List.map cI table10), .cells [.lit (.int .i64 (IntKind.i64.wrap ((s : Int).tdiv 4))), .lit (.int .i64 ((s : Int).tmod 4))]]⟩ (hold Q .mk) :=
  (CC.spec_l1Table_l3 B hB1 hB2 w n s v) table10 i o hF

set_option maxRecDepth 100000 in
set_option maxHeartbeats 400000 in
theorem CC.spec_l1Table_l2 (B : Nat) (hB1 : 67108864 ≤ B) (hB2 : B ≤ 9223372036854775807) (w : List Vl.Data) (n : Nat) : (∀ (table5 : List Int) (s : Nat) (o : List Int), F.spec_l1Table_l2 w n table5 s = some o → ∀ (c : Code), navO [1, 1, 0, 1, 0, 0, 1, 0, 0, 1, 0, 0] (bodyOf Try.f50) = some c → ∀ (Q : Exit → ASt → Prop), Q (.exit 2) ⟨[(0, .arr (List.map Vl.Data.c w)), (3, .own 0 (List.length (α := Int) o)), (4, .lit (.int .i64 (n : Int)))], [.elems 1 (List.map cI o)]⟩ → ALoopU Try.prog B 0 70 (hold c .mk) ⟨[(0, .arr (List.map Vl.Data.c w)), (3, .own 0 (List.length (α := Int) table5)), (4, .lit (.int .i64 (n : Int))), (5, .lit (.int .i64 (s : Int)))], [.elems 1 (List.map cI table5)]⟩ (hold Q .mk)) := by
  refine F.spec_l1Table_l2.partial_correctness w n
    (fun table5 s o => ∀ (c : Code), navO [1, 1, 0, 1, 0, 0, 1, 0, 0, 1, 0, 0] (bodyOf Try.f50) = some c → ∀ (Q : Exit → ASt → Prop), Q (.exit 2) ⟨[(0, .arr (List.map Vl.Data.c w)), (3, .own 0 (List.length (α := Int) o)), (4, .lit (.int .i64 (n : Int)))], [.elems 1 (List.map cI o)]⟩ → ALoopU Try.prog B 0 70 (hold c .mk) ⟨[(0, .arr (List.map Vl.Data.c w)), (3, .own 0 (List.length (α := Int) table5)), (4, .lit (.int .i64 (n : Int))), (5, .lit (.int .i64 (s : Int)))], [.elems 1 (List.map cI table5)]⟩ (hold Q .mk))
    ?_
  · intro _f_spec_l1Table_l2 ih_spec_l1Table_l2 table5 s o hF
    intro c hc Q hq
    obtain rfl : c = _ := navEq hc rfl
    refine ALoopU.know fun hk hs => ?_
    have b0 := hk 0
    simp -dsimp at b0
    have d0 := hs 0 _ rfl
    simp -dsimp [Blk.bnd] at d0
    clear hk hs
    refine ALoopU.enter ?_
    simp -dsimp
    repeat (refine chk.go (by first | omega | assumption | (simp_all; done) | (simp_all; omega)) ?_; try simp -dsimp)
    refine abr.split (fun h6 => ?_) (fun h6 => ?_)
    · have q7 : (s < table5.length) := by first | exact h6 | omega | (simpa using h6) | (simp at h6 ⊢; omega) | simp_all
      have z8 : ((s : Int) < (table5.length : Int)) := by first | omega | simp_all
      rw [if_pos q7] at hF
      simp -dsimp [h6, z8]
      repeat (refine chk.go (by first | omega | assumption | (simp_all; done) | (simp_all; omega)) ?_; try simp -dsimp [h6, z8])
      have hF := ob hF; obtain ⟨v, e9, hF⟩ := hF
      refine ((C.spec_l1Ctors B hB1 hB2 w (⟨IntKind.i64.wrap ((s : Int).tdiv 4), (s : Int).tmod 4⟩ : Vl.Ty) v e9)).goW (by first | (simp; done) | (simp [h6, z8]; done) | simp_all) (by simp) ?_
      simp -dsimp [h6, z8]
      repeat (refine chk.go (by first | omega | assumption | (simp_all; done) | (simp_all; omega)) ?_; try simp -dsimp [h6, z8])
      have hF := ob hF; obtain ⟨o', ho29, hF⟩ := hF
      refine ALoop.goU ⟨[(0, .arr (List.map Vl.Data.c w)), (3, .own 0 (List.length (α := Int) table5)), (4, .lit (.int .i64 (n : Int))), (5, .lit (.int .i64 (s : Int))), (6, .ptr 1 0), (7, .arr (List.map cI v)), (8, .lit (.int .i64 (0 : Int)))], [.elems 1 (List.map cI table5), .cells [.lit (.int .i64 (IntKind.i64.wrap ((s : Int).tdiv 4))), .lit (.int .i64 ((s : Int).tmod 4))]]⟩ (Gh.to (by simp) (by first | (simp -dsimp; done) | (simp -dsimp [h6, z8]; done) | simp_all) (by first | (simp -dsimp; done) | (simp -dsimp [h6, z8]; done) | simp_all) (by first | (simp -dsimp; done) | (simp -dsimp [h6, z8]; done) | simp_all)) ?_
      refine (C.spec_l1Table_l3 B hB1 hB2 w n s v table5 0 o' ho29) _ rfl _ ?_
      have hF := oc hF; obtain ⟨c30, hF⟩ := hF
      have w31 : IntKind.i64.wrap ((s : Int) + 1) = (s : Int) + 1 := wrap_in (by omega) (by omega)
      simp -dsimp [w31]
      repeat (refine chk.go (by first | omega | assumption | (simp_all; done) | (simp_all; omega)) ?_; try simp -dsimp [w31])
      refine Again.go ⟨[(0, .arr (List.map Vl.Data.c w)), (3, .own 0 (List.length (α := Int) o')), (4, .lit (.int .i64 (n : Int))), (5, .lit (.int .i64 ((s + 1) : Int)))], [.elems 1 (List.map cI o')]⟩ (Gh.to (by simp) (by first | (simp -dsimp; done) | (simp -dsimp [w31]; done) | simp_all) (by first | (simp -dsimp; done) | (simp -dsimp [w31]; done) | simp_all) (by first | (simp -dsimp; done) | (simp -dsimp [w31]; done) | simp_all)) ?_
      exact (ih_spec_l1Table_l2 o' (s + 1) o hF) _ rfl _ hq
    · have q7 : ¬ (s < table5.length) := by first | exact h6 | omega | (simpa using h6) | (simp at h6 ⊢; omega) | simp_all
      have z8 : ¬ ((s : Int) < (table5.length : Int)) := by first | omega | simp_all
      rw [if_neg q7] at hF
      cases hF
      simp -dsimp [h6, q7, z8]
      repeat (refine chk.go (by first | omega | assumption | (simp_all; done) | (simp_all; omega)) ?_; try simp -dsimp [h6, q7, z8])
      refine Leave.go ⟨[(0, .arr (List.map Vl.Data.c w)), (3, .own 0 (List.length (α := Int) table5)), (4, .lit (.int .i64 (n : Int)))], [.elems 1 (List.map cI table5)]⟩ (Gh.to (by simp) (by first | (simp -dsimp; done) | (simp -dsimp [h6, q7, z8]; done) | simp_all) (by first | (simp -dsimp; done) | (simp -dsimp [h6, q7, z8]; done) | simp_all) (by first | (simp -dsimp; done) | (simp -dsimp [h6, q7, z8]; done) | simp_all)) ?_
      exact hq

theorem C.spec_l1Table_l2 (B : Nat) (hB1 : 67108864 ≤ B) (hB2 : B ≤ 9223372036854775807) (w : List Vl.Data) (n : Nat) (table5 : List Int) (s : Nat) (o : List Int) (hF : F.spec_l1Table_l2 w n table5 s = some o) : ∀ (c : Code), navO [1, 1, 0, 1, 0, 0, 1, 0, 0, 1, 0, 0] (bodyOf Try.f50) = some c → ∀ (Q : Exit → ASt → Prop), Q (.exit 2) ⟨[(0, .arr (List.map Vl.Data.c w)), (3, .own 0 (List.length (α := Int) o)), (4, .lit (.int .i64 (n : Int)))], [.elems 1 (List.map cI o)]⟩ → ALoopU Try.prog B 0 70 (hold c .mk) ⟨[(0, .arr (List.map Vl.Data.c w)), (3, .own 0 (List.length (α := Int) table5)), (4, .lit (.int .i64 (n : Int))), (5, .lit (.int .i64 (s : Int)))], [.elems 1 (List.map cI table5)]⟩ (hold Q .mk) :=
  (CC.spec_l1Table_l2 B hB1 hB2 w n) table5 s o hF

set_option maxRecDepth 100000 in
set_option maxHeartbeats 400000 in
theorem CC.spec_l1Table_l1 (B : Nat) (hB1 : 67108864 ≤ B) (hB2 : B ≤ 9223372036854775807) (w : List Vl.Data) : (∀ (table : List Int) (n : Nat) (o : List Int), F.spec_l1Table_l1 w table n = some o → ∀ (c : Code), navO [1, 1, 0, 1, 0, 0] (bodyOf Try.f50) = some c → ∀ (Q : Exit → ASt → Prop), Q (.exit 0) ⟨[(3, .own 0 (List.length (α := Int) o))], [.elems 1 (List.map cI o)]⟩ → ALoopU Try.prog B 0 70 (hold c .mk) ⟨[(0, .arr (List.map Vl.Data.c w)), (3, .own 0 (List.length (α := Int) table)), (4, .lit (.int .i64 (n : Int)))], [.elems 1 (List.map cI table)]⟩ (hold Q .mk)) := by
  refine F.spec_l1Table_l1.partial_correctness w
    (fun table n o => ∀ (c : Code), navO [1, 1, 0, 1, 0, 0] (bodyOf Try.f50) = some c → ∀ (Q : Exit → ASt → Prop), Q (.exit 0) ⟨[(3, .own 0 (List.length (α := Int) o))], [.elems 1 (List.map cI o)]⟩ → ALoopU Try.prog B 0 70 (hold c .mk) ⟨[(0, .arr (List.map Vl.Data.c w)), (3, .own 0 (List.length (α := Int) table)), (4, .lit (.int .i64 (n : Int)))], [.elems 1 (List.map cI table)]⟩ (hold Q .mk))
    ?_
  · intro _f_spec_l1Table_l1 ih_spec_l1Table_l1 table n o hF
    intro c hc Q hq
    obtain rfl : c = _ := navEq hc rfl
    refine ALoopU.know fun hk hs => ?_
    have b0 := hk 0
    simp -dsimp at b0
    have d0 := hs 0 _ rfl
    simp -dsimp [Blk.bnd] at d0
    clear hk hs
    refine ALoopU.enter ?_
    simp -dsimp
    repeat (refine chk.go (by first | omega | assumption | (simp_all; done) | (simp_all; omega)) ?_; try simp -dsimp)
    refine abr.split (fun h2 => ?_) (fun h2 => ?_)
    · have q3 : (n ≤ table.length) := by first | exact h2 | omega | (simpa using h2) | (simp at h2 ⊢; omega) | simp_all
      have z4 : ((n : Int) ≤ (table.length : Int)) := by first | omega | simp_all
      rw [if_pos q3] at hF
      simp -dsimp [h2, z4]
      repeat (refine chk.go (by first | omega | assumption | (simp_all; done) | (simp_all; omega)) ?_; try simp -dsimp [h2, z4])
      have hF := ob hF; obtain ⟨o'33, ho32, hF⟩ := hF
      refine ALoop.goU ⟨[(0, .arr (List.map Vl.Data.c w)), (3, .own 0 (List.length (α := Int) table)), (4, .lit (.int .i64 (n : Int))), (5, .lit (.int .i64 (0 : Int)))], [.elems 1 (List.map cI table)]⟩ (Gh.to (by simp) (by first | (simp -dsimp; done) | (simp -dsimp [h2, z4]; done) | simp_all) (by first | (simp -dsimp; done) | (simp -dsimp [h2, z4]; done) | simp_all) (by first | (simp -dsimp; done) | (simp -dsimp [h2, z4]; done) | simp_all)) ?_
      refine (C.spec_l1Table_l2 B hB1 hB2 w n table 0 o'33 ho32) _ rfl _ ?_
      have hF := oc hF; obtain ⟨c34, hF⟩ := hF
      have w35 : IntKind.i64.wrap ((n : Int) + 1) = (n : Int) + 1 := wrap_in (by omega) (by omega)
      simp -dsimp [w35]
      repeat (refine chk.go (by first | omega | assumption | (simp_all; done) | (simp_all; omega)) ?_; try simp -dsimp [w35])
      refine Again.go ⟨[(0, .arr (List.map Vl.Data.c w)), (3, .own 0 (List.length (α := Int) o'33)), (4, .lit (.int .i64 ((n + 1) : Int)))], [.elems 1 (List.map cI o'33)]⟩ (Gh.to (by simp) (by first | (simp -dsimp; done) | (simp -dsimp [w35]; done) | simp_all) (by first | (simp -dsimp; done) | (simp -dsimp [w35]; done) | simp_all) (by first | (simp -dsimp; done) | (simp -dsimp [w35]; done) | simp_all)) ?_
      exact (ih_spec_l1Table_l1 o'33 (n + 1) o hF) _ rfl _ hq
    · have q3 : ¬ (n ≤ table.length) := by first | exact h2 | omega | (simpa using h2) | (simp at h2 ⊢; omega) | simp_all
      have z4 : ¬ ((n : Int) ≤ (table.length : Int)) := by first | omega | simp_all
      rw [if_neg q3] at hF
      cases hF
      simp -dsimp [h2, q3, z4]
      repeat (refine chk.go (by first | omega | assumption | (simp_all; done) | (simp_all; omega)) ?_; try simp -dsimp [h2, q3, z4])
      refine Leave.go ⟨[(3, .own 0 (List.length (α := Int) table))], [.elems 1 (List.map cI table)]⟩ (Gh.to (by simp) (by first | (simp -dsimp; done) | (simp -dsimp [h2, q3, z4]; done) | simp_all) (by first | (simp -dsimp; done) | (simp -dsimp [h2, q3, z4]; done) | simp_all) (by first | (simp -dsimp; done) | (simp -dsimp [h2, q3, z4]; done) | simp_all)) ?_
      exact hq

theorem C.spec_l1Table_l1 (B : Nat) (hB1 : 67108864 ≤ B) (hB2 : B ≤ 9223372036854775807) (w : List Vl.Data) (table : List Int) (n : Nat) (o : List Int) (hF : F.spec_l1Table_l1 w table n = some o) : ∀ (c : Code), navO [1, 1, 0, 1, 0, 0] (bodyOf Try.f50) = some c → ∀ (Q : Exit → ASt → Prop), Q (.exit 0) ⟨[(3, .own 0 (List.length (α := Int) o))], [.elems 1 (List.map cI o)]⟩ → ALoopU Try.prog B 0 70 (hold c .mk) ⟨[(0, .arr (List.map Vl.Data.c w)), (3, .own 0 (List.length (α := Int) table)), (4, .lit (.int .i64 (n : Int)))], [.elems 1 (List.map cI table)]⟩ (hold Q .mk) :=
  (CC.spec_l1Table_l1 B hB1 hB2 w) table n o hF

set_option maxRecDepth 100000 in
set_option maxHeartbeats 400000 in
theorem C.spec_l1Table (B : Nat) (hB1 : 67108864 ≤ B) (hB2 : B ≤ 9223372036854775807) (w : List Vl.Data) (r : List Int) (hF : F.spec_l1Table w = some r) : PureCall Try.prog B 50 [.arr (List.map Vl.Data.c w)] (.arr (List.map cI r)) := by
  unfold F.spec_l1Table at hF
  refine PureCall.enterLe Try.func50 (by kernel_rfl) rfl Try.ntmps50 (by simp) (by simp) ?_
  have hF := oc hF; obtain ⟨c1, hF⟩ := hF
  simp -dsimp
  repeat (refine chk.go (by first | omega | assumption | (simp_all; done) | (simp_all; omega)) ?_; try simp -dsimp)
  have hF := ob hF; obtain ⟨o'37, ho36, hF⟩ := hF
  refine ALoop.goU ⟨[(0, .arr (List.map Vl.Data.c w)), (3, .own 0 (List.length (α := Int) (List.replicate ((IntKind.i64.wrap ((w.length : Int) * 4)).toNat) (0 : Int)))), (4, .lit (.int .i64 (0 : Int)))], [.elems 1 (List.map cI (List.replicate ((IntKind.i64.wrap ((w.length : Int) * 4)).toNat) (0 : Int)))]⟩ (Gh.to (by simp) (by simp -dsimp) (by simp -dsimp) (by simp -dsimp)) ?_
  refine (C.spec_l1Table_l1 B hB1 hB2 w (List.replicate ((IntKind.i64.wrap ((w.length : Int) * 4)).toNat) (0 : Int)) 0 o'37 ho36) _ rfl _ ?_
  cases hF
  simp -dsimp
  repeat (refine chk.go (by first | omega | assumption | (simp_all; done) | (simp_all; omega)) ?_; try simp -dsimp)

set_option maxRecDepth 100000 in
set_option maxHeartbeats 400000 in
theorem C.spec_l17Rd_num (B : Nat) (hB1 : 67108864 ≤ B) (hB2 : B ≤ 9223372036854775807) (r' : Vl.T_spec_l17Rd) (list : List Int) (r : Int × Vl.T_spec_l17Rd) (hF : F.spec_l17Rd_num r' list = some r) : MutCall Try.prog B 40 [.arr (List.map cU r'.f0), .lit (.int .i64 r'.f1)] [.ptr 0 0, .arr (List.map cI list)] (.lit (.int .i64 r.1)) [.arr (List.map cU r.2.f0), .lit (.int .i64 r.2.f1)] := by
  unfold F.spec_l17Rd_num at hF
  refine MutCall.enter Try.func40 (by kernel_rfl) rfl Try.ntmps40 (by simp) (by simp) (by simp) (by simp) ?_
  simp -dsimp
  repeat (refine chk.go (by first | omega | assumption | (simp_all; done) | (simp_all; omega)) ?_; try simp -dsimp)
  have hF := ob hF; obtain ⟨v, e1, hF⟩ := hF
  refine ((C.spec_l17Rd_pick B hB1 hB2 r' (list.length : Int) v e1)).go 0 rfl (by simp) (by simp) (by simp) ?_
  have hF := ob hF; obtain ⟨x, e2a, hF⟩ := hF
  have e2a := at_some e2a; obtain ⟨ne2, e2⟩ := e2a
  have le2 := lt_of_get e2
  cases hF
  simp -dsimp [↓e2]
  repeat (refine chk.go (by first | omega | assumption | (simp_all; done) | (simp_all; omega)) ?_; try simp -dsimp [↓e2])

set_option maxRecDepth 100000 in
set_option maxHeartbeats 400000 in
theorem CC.spec_l2Draw_l1 (B : Nat) (hB1 : 67108864 ≤ B) (hB2 : B ≤ 9223372036854775807) (r' : Vl.T_spec_l17Rd) (w : List Vl.Data) (table : List Int) (t : Vl.Ty) (depth : Int) (v4 : List Int) : (∀ (fine : List Int) (i : Nat) (o : List Int), F.spec_l2Draw_l1 r' w table t depth v4 fine i = some o → ∀ (c : Code), navO [1, 1, 1, 1, 0, 1, 0, 0] (bodyOf Try.f52) = some c → ∀ (Q : Exit → ASt → Prop), Q (.exit 0) ⟨[(0, .ptr 0 0), (1, .arr (List.map Vl.Data.c w)), (2, .arr (List.map cI table)), (4, .lit (.int .i64 depth)), (8, .ptr 1 0), (10, .ptr 2 0), (12, .own 3 (List.length (α := Int) o))], [.cells [.arr (List.map cU r'.f0), .lit (.int .i64 r'.f1)], .cells [.lit (.int .i64 t.data), .lit (.int .i64 t.index)], .cells [.lit (.int .i64 0), .lit (.int .i64 0), .lit (.slice none 0 0)], .elems 1 (List.map cI o)]⟩ → ALoopU Try.prog B 1 98 (hold c .mk) ⟨[(0, .ptr 0 0), (1, .arr (List.map Vl.Data.c w)), (2, .arr (List.map cI table)), (4, .lit (.int .i64 depth)), (8, .ptr 1 0), (10, .ptr 2 0), (11, .arr (List.map cI v4)), (12, .own 3 (List.length (α := Int) fine)), (13, .lit (.int .i64 (i : Int)))], [.cells [.arr (List.map cU r'.f0), .lit (.int .i64 r'.f1)], .cells [.lit (.int .i64 t.data), .lit (.int .i64 t.index)], .cells [.lit (.int .i64 0), .lit (.int .i64 0), .lit (.slice none 0 0)], .elems 1 (List.map cI fine)]⟩ (hold Q .mk)) := by
  refine F.spec_l2Draw_l1.partial_correctness r' w table t depth v4
    (fun fine i o => ∀ (c : Code), navO [1, 1, 1, 1, 0, 1, 0, 0] (bodyOf Try.f52) = some c → ∀ (Q : Exit → ASt → Prop), Q (.exit 0) ⟨[(0, .ptr 0 0), (1, .arr (List.map Vl.Data.c w)), (2, .arr (List.map cI table)), (4, .lit (.int .i64 depth)), (8, .ptr 1 0), (10, .ptr 2 0), (12, .own 3 (List.length (α := Int) o))], [.cells [.arr (List.map cU r'.f0), .lit (.int .i64 r'.f1)], .cells [.lit (.int .i64 t.data), .lit (.int .i64 t.index)], .cells [.lit (.int .i64 0), .lit (.int .i64 0), .lit (.slice none 0 0)], .elems 1 (List.map cI o)]⟩ → ALoopU Try.prog B 1 98 (hold c .mk) ⟨[(0, .ptr 0 0), (1, .arr (List.map Vl.Data.c w)), (2, .arr (List.map cI table)), (4, .lit (.int .i64 depth)), (8, .ptr 1 0), (10, .ptr 2 0), (11, .arr (List.map cI v4)), (12, .own 3 (List.length (α := Int) fine)), (13, .lit (.int .i64 (i : Int)))], [.cells [.arr (List.map cU r'.f0), .lit (.int .i64 r'.f1)], .cells [.lit (.int .i64 t.data), .lit (.int .i64 t.index)], .cells [.lit (.int .i64 0), .lit (.int .i64 0), .lit (.slice none 0 0)], .elems 1 (List.map cI fine)]⟩ (hold Q .mk))
    ?_
  · intro _f_spec_l2Draw_l1 ih_spec_l2Draw_l1 fine i o hF
    intro c hc Q hq
    obtain rfl : c = _ := navEq hc rfl
    refine ALoopU.know fun hk hs => ?_
    have b1 := hk 1
    simp -dsimp at b1
    have b2 := hk 2
    simp -dsimp at b2
    have b11 := hk 11
    simp -dsimp at b11
    have d0 := hs 0 _ rfl
    simp -dsimp [Blk.bnd] at d0
    have d3 := hs 3 _ rfl
    simp -dsimp [Blk.bnd] at d3
    clear hk hs
    refine ALoopU.enter ?_
    simp -dsimp
    repeat (refine chk.go (by first | omega | assumption | (simp_all; done) | (simp_all; omega)) ?_; try simp -dsimp)
    refine abr.split (fun h6 => ?_) (fun h6 => ?_)
    · have q7 : (i < v4.length) := by first | exact h6 | omega | (simpa using h6) | (simp at h6 ⊢; omega) | simp_all
      have z8 : ((i : Int) < (v4.length : Int)) := by first | omega | simp_all
      rw [if_pos q7] at hF
      simp -dsimp [h6, z8]
      repeat (refine chk.go (by first | omega | assumption | (simp_all; done) | (simp_all; omega)) ?_; try simp -dsimp [h6, z8])
      refine ADraw.simple follows (by kernel_rfl) (by kernel_rfl) ?_
      have hF := ob hF; obtain ⟨x, e9, hF⟩ := hF
      have le9 := lt_of_get e9
      simp -dsimp [h6, z8, ↓e9]
      repeat (refine chk.go (by first | omega | assumption | (simp_all; done) | (simp_all; omega)) ?_; try simp -dsimp [h6, z8, ↓e9])
      have hF := ob hF; obtain ⟨v10, e11, hF⟩ := hF
      refine ((C.spec_l1Most B hB1 hB2 w table t x v10 e11)).pgoW (by first | (simp; done) | (simp [h6, z8, ↓e9]; done) | simp_all) (by simp) ?_
      simp -dsimp [h6, z8, ↓e9]
      repeat (refine chk.go (by first | omega | assumption | (simp_all; done) | (simp_all; omega)) ?_; try simp -dsimp [h6, z8, ↓e9])
      refine abr.split (fun h12 => ?_) (fun h12 => ?_)
      · have q13 : (0 < v10) := by first | exact h12 | omega | (simpa using h12) | (simp at h12 ⊢; omega) | simp_all
        rw [if_pos q13] at hF
        simp -dsimp [h6, z8, ↓e9, h12]
        repeat (refine chk.go (by first | omega | assumption | (simp_all; done) | (simp_all; omega)) ?_; try simp -dsimp [h6, z8, ↓e9, h12])
        refine abr.split (fun h14 => ?_) (fun h14 => ?_)
        · have q15 : ¬ (v10 ≤ depth) := by first | exact h14 | omega | (simpa using h14) | (simp at h14 ⊢; omega) | simp_all
          rw [if_neg q15] at hF
          simp -dsimp [h6, z8, ↓e9, h12, h14, q15]
          repeat (refine chk.go (by first | omega | assumption | (simp_all; done) | (simp_all; omega)) ?_; try simp -dsimp [h6, z8, ↓e9, h12, h14, q15])
          have hF := ob hF; obtain ⟨v16, e17, hF⟩ := hF
          refine ((C.spec_l1Depth B hB1 hB2 table t v16 e17)).goW (by first | (simp; done) | (simp [h6, z8, ↓e9, h12, h14, q15]; done) | simp_all) (by simp) ?_
          simp -dsimp [h6, z8, ↓e9, h12, h14, q15]
          repeat (refine chk.go (by first | omega | assumption | (simp_all; done) | (simp_all; omega)) ?_; try simp -dsimp [h6, z8, ↓e9, h12, h14, q15])
          refine abr.split (fun h18 => ?_) (fun h18 => ?_)
          · have q19 : (v10 = v16) := by first | exact h18 | omega | (simpa using h18) | (simp at h18 ⊢; omega) | simp_all
            rw [if_pos q19] at hF
            have hF := oc hF; obtain ⟨c20, hF⟩ := hF
            have w21 : IntKind.i64.wrap ((i : Int) + 1) = (i : Int) + 1 := wrap_in (by omega) (by omega)
            simp -dsimp [h6, z8, ↓e9, h12, h14, q15, h18, w21]
            repeat (refine chk.go (by first | omega | assumption | (simp_all; done) | (simp_all; omega)) ?_; try simp -dsimp [h6, z8, ↓e9, h12, h14, q15, h18, w21])
            refine Again.go ⟨[(0, .ptr 0 0), (1, .arr (List.map Vl.Data.c w)), (2, .arr (List.map cI table)), (4, .lit (.int .i64 depth)), (8, .ptr 1 0), (10, .ptr 2 0), (11, .arr (List.map cI v4)), (12, .own 3 (List.length (α := Int) (fine ++ [x]))), (13, .lit (.int .i64 ((i + 1) : Int)))], [.cells [.arr (List.map cU r'.f0), .lit (.int .i64 r'.f1)], .cells [.lit (.int .i64 t.data), .lit (.int .i64 t.index)], .cells [.lit (.int .i64 0), .lit (.int .i64 0), .lit (.slice none 0 0)], .elems 1 (List.map cI (fine ++ [x]))]⟩ (Gh.to (by simp) (by first | (simp -dsimp; done) | (simp -dsimp [h6, z8, ↓e9, h12, h14, q15, h18, w21]; done) | simp_all) (by first | (simp -dsimp; done) | (simp -dsimp [h6, z8, ↓e9, h12, h14, q15, h18, w21]; done) | simp_all) (by first | (simp -dsimp; done) | (simp -dsimp [h6, z8, ↓e9, h12, h14, q15, h18, w21]; done) | simp_all)) ?_
            exact (ih_spec_l2Draw_l1 (fine ++ [x]) (i + 1) o hF) _ rfl _ hq
          · have q19 : ¬ (v10 = v16) := by first | exact h18 | omega | (simpa using h18) | (simp at h18 ⊢; omega) | simp_all
            rw [if_neg q19] at hF
            have w22 : IntKind.i64.wrap ((i : Int) + 1) = (i : Int) + 1 := wrap_in (by omega) (by omega)
            simp -dsimp [h6, z8, ↓e9, h12, h14, q15, h18, q19, w22]
            repeat (refine chk.go (by first | omega | assumption | (simp_all; done) | (simp_all; omega)) ?_; try simp -dsimp [h6, z8, ↓e9, h12, h14, q15, h18, q19, w22])
            refine Again.go ⟨[(0, .ptr 0 0), (1, .arr (List.map Vl.Data.c w)), (2, .arr (List.map cI table)), (4, .lit (.int .i64 depth)), (8, .ptr 1 0), (10, .ptr 2 0), (11, .arr (List.map cI v4)), (12, .own 3 (List.length (α := Int) fine)), (13, .lit (.int .i64 ((i + 1) : Int)))], [.cells [.arr (List.map cU r'.f0), .lit (.int .i64 r'.f1)], .cells [.lit (.int .i64 t.data), .lit (.int .i64 t.index)], .cells [.lit (.int .i64 0), .lit (.int .i64 0), .lit (.slice none 0 0)], .elems 1 (List.map cI fine)]⟩ (Gh.to (by simp) (by first | (simp -dsimp; done) | (simp -dsimp [h6, z8, ↓e9, h12, h14, q15, h18, q19, w22]; done) | simp_all) (by first | (simp -dsimp; done) | (simp -dsimp [h6, z8, ↓e9, h12, h14, q15, h18, q19, w22]; done) | simp_all) (by first | (simp -dsimp; done) | (simp -dsimp [h6, z8, ↓e9, h12, h14, q15, h18, q19, w22]; done) | simp_all)) ?_
            exact (ih_spec_l2Draw_l1 fine (i + 1) o hF) _ rfl _ hq
        · have q15 : (v10 ≤ depth) := by first | exact h14 | omega | (simpa using h14) | (simp at h14 ⊢; omega) | simp_all
          rw [if_pos q15] at hF
          have hF := oc hF; obtain ⟨c23, hF⟩ := hF
          have w24 : IntKind.i64.wrap ((i : Int) + 1) = (i : Int) + 1 := wrap_in (by omega) (by omega)
          simp -dsimp [h6, z8, ↓e9, h12, h14, q15, w24]
          repeat (refine chk.go (by first | omega | assumption | (simp_all; done) | (simp_all; omega)) ?_; try simp -dsimp [h6, z8, ↓e9, h12, h14, q15, w24])
          refine Again.go ⟨[(0, .ptr 0 0), (1, .arr (List.map Vl.Data.c w)), (2, .arr (List.map cI table)), (4, .lit (.int .i64 depth)), (8, .ptr 1 0), (10, .ptr 2 0), (11, .arr (List.map cI v4)), (12, .own 3 (List.length (α := Int) (fine ++ [x]))), (13, .lit (.int .i64 ((i + 1) : Int)))], [.cells [.arr (List.map cU r'.f0), .lit (.int .i64 r'.f1)], .cells [.lit (.int .i64 t.data), .lit (.int .i64 t.index)], .cells [.lit (.int .i64 0), .lit (.int .i64 0), .lit (.slice none 0 0)], .elems 1 (List.map cI (fine ++ [x]))]⟩ (Gh.to (by simp) (by first | (simp -dsimp; done) | (simp -dsimp [h6, z8, ↓e9, h12, h14, q15, w24]; done) | simp_all) (by first | (simp -dsimp; done) | (simp -dsimp [h6, z8, ↓e9, h12, h14, q15, w24]; done) | simp_all) (by first | (simp -dsimp; done) | (simp -dsimp [h6, z8, ↓e9, h12, h14, q15, w24]; done) | simp_all)) ?_
          exact (ih_spec_l2Draw_l1 (fine ++ [x]) (i + 1) o hF) _ rfl _ hq
      · have q13 : ¬ (0 < v10) := by first | exact h12 | omega | (simpa using h12) | (simp at h12 ⊢; omega) | simp_all
        rw [if_neg q13] at hF
        have w25 : IntKind.i64.wrap ((i : Int) + 1) = (i : Int) + 1 := wrap_in (by omega) (by omega)
        simp -dsimp [h6, z8, ↓e9, h12, q13, w25]
        repeat (refine chk.go (by first | omega | assumption | (simp_all; done) | (simp_all; omega)) ?_; try simp -dsimp [h6, z8, ↓e9, h12, q13, w25])
        refine Again.go ⟨[(0, .ptr 0 0), (1, .arr (List.map Vl.Data.c w)), (2, .arr (List.map cI table)), (4, .lit (.int .i64 depth)), (8, .ptr 1 0), (10, .ptr 2 0), (11, .arr (List.map cI v4)), (12, .own 3 (List.length (α := Int) fine)), (13, .lit (.int .i64 ((i + 1) : Int)))], [.cells [.arr (List.map cU r'.f0), .lit (.int .i64 r'.f1)], .cells [.lit (.int .i64 t.data), .lit (.int .i64 t.index)], .cells [.lit (.int .i64 0), .lit (.int .i64 0), .lit (.slice none 0 0)], .elems 1 (List.map cI fine)]⟩ (Gh.to (by simp) (by first | (simp -dsimp; done) | (simp -dsimp [h6, z8, ↓e9, h12, q13, w25]; done) | simp_all) (by first | (simp -dsimp; done) | (simp -dsimp [h6, z8, ↓e9, h12, q13, w25]; done) | simp_all) (by first | (simp -dsimp; done) | (simp -dsimp [h6, z8, ↓e9, h12, q13, w25]; done) | simp_all)) ?_
        exact (ih_spec_l2Draw_l1 fine (i + 1) o hF) _ rfl _ hq
    · have q7 : ¬ (i < v4.length) := by first | exact h6 | omega | (simpa using h6) | (simp at h6 ⊢; omega) | simp_all
      have z8 : ¬ ((i : Int) < (v4.length : Int)) := by first | omega | simp_all
      rw [if_neg q7] at hF
      cases hF
      simp -dsimp [h6, q7, z8]
      repeat (refine chk.go (by first | omega | assumption | (simp_all; done) | (simp_all; omega)) ?_; try simp -dsimp [h6, q7, z8])
      refine Leave.go ⟨[(0, .ptr 0 0), (1, .arr (List.map Vl.Data.c w)), (2, .arr (List.map cI table)), (4, .lit (.int .i64 depth)), (8, .ptr 1 0), (10, .ptr 2 0), (12, .own 3 (List.length (α := Int) fine))], [.cells [.arr (List.map cU r'.f0), .lit (.int .i64 r'.f1)], .cells [.lit (.int .i64 t.data), .lit (.int .i64 t.index)], .cells [.lit (.int .i64 0), .lit (.int .i64 0), .lit (.slice none 0 0)], .elems 1 (List.map cI fine)]⟩ (Gh.to (by simp) (by first | (simp -dsimp; done) | (simp -dsimp [h6, q7, z8]; done) | simp_all) (by first | (simp -dsimp; done) | (simp -dsimp [h6, q7, z8]; done) | simp_all) (by first | (simp -dsimp; done) | (simp -dsimp [h6, q7, z8]; done) | simp_all)) ?_
      exact hq

theorem C.spec_l2Draw_l1 (B : Nat) (hB1 : 67108864 ≤ B) (hB2 : B ≤ 9223372036854775807) (r' : Vl.T_spec_l17Rd) (w : List Vl.Data) (table : List Int) (t : Vl.Ty) (depth : Int) (v4 : List Int) (fine : List Int) (i : Nat) (o : List Int) (hF : F.spec_l2Draw_l1 r' w table t depth v4 fine i = some o) : ∀ (c : Code), navO [1, 1, 1, 1, 0, 1, 0, 0] (bodyOf Try.f52) = some c → ∀ (Q : Exit → ASt → Prop), Q (.exit 0) ⟨[(0, .ptr 0 0), (1, .arr (List.map Vl.Data.c w)), (2, .arr (List.map cI table)), (4, .lit (.int .i64 depth)), (8, .ptr 1 0), (10, .ptr 2 0), (12, .own 3 (List.length (α := Int) o))], [.cells [.arr (List.map cU r'.f0), .lit (.int .i64 r'.f1)], .cells [.lit (.int .i64 t.data), .lit (.int .i64 t.index)], .cells [.lit (.int .i64 0), .lit (.int .i64 0), .lit (.slice none 0 0)], .elems 1 (List.map cI o)]⟩ → ALoopU Try.prog B 1 98 (hold c .mk) ⟨[(0, .ptr 0 0), (1, .arr (List.map Vl.Data.c w)), (2, .arr (List.map cI table)), (4, .lit (.int .i64 depth)), (8, .ptr 1 0), (10, .ptr 2 0), (11, .arr (List.map cI v4)), (12, .own 3 (List.length (α := Int) fine)), (13, .lit (.int .i64 (i : Int)))], [.cells [.arr (List.map cU r'.f0), .lit (.int .i64 r'.f1)], .cells [.lit (.int .i64 t.data), .lit (.int .i64 t.index)], .cells [.lit (.int .i64 0), .lit (.int .i64 0), .lit (.slice none 0 0)], .elems 1 (List.map cI fine)]⟩ (hold Q .mk) :=
  (CC.spec_l2Draw_l1 B hB1 hB2 r' w table t depth v4) fine i o hF

set_option maxRecDepth 100000 in
set_option maxHeartbeats 400000 in
theorem CC.spec_l2Draw (B : Nat) (hB1 : 67108864 ≤ B) (hB2 : B ≤ 9223372036854775807) (w : List Vl.Data) (table : List Int) : (∀ (r' : Vl.T_spec_l17Rd) (t : Vl.Ty) (depth : Int) (r : Vl.Value × Vl.T_spec_l17Rd), F.spec_l2Draw r' w table t depth = some r → MutCall Try.prog B 52 [.arr (List.map cU r'.f0), .lit (.int .i64 r'.f1)] [.ptr 0 0, .arr (List.map Vl.Data.c w), .arr (List.map cI table), .agg [.lit (.int .i64 t.data), .lit (.int .i64 t.index)], .lit (.int .i64 depth)] (.agg [.lit (.int .i64 r.1.ctor), .lit (.int .i64 r.1.n), .arr (List.map Vl.Value.c r.1.kids)]) [.arr (List.map cU r.2.f0), .lit (.int .i64 r.2.f1)]) ∧
    (∀ (depth : Int) (x29 : Int) (v31 : List Vl.Ty) (z : List Int) (z33 : Int) (out : List Vl.Value) (i34 : Nat) (o : (List Int) × Int × (List Vl.Value)), F.spec_l2Draw_l2 w table depth x29 v31 z z33 out i34 = some o → ∀ (c : Code), navO [1, 1, 1, 1, 1, 1, 1, 0, 1, 0, 0] (bodyOf Try.f52) = some c → ∀ (Q : Exit → ASt → Prop), Q (.exit 2) ⟨[(10, .ptr 2 0), (15, .ptr 4 0)], [.cells [.arr (List.map cU o.1), .lit (.int .i64 o.2.1)], .dead, .cells [.lit (.int .i64 0), .lit (.int .i64 0), .lit (.slice none 0 0)], .dead, .cells [.lit (.int .i64 x29), .lit (.int .i64 0), .own 5 (List.length (α := Vl.Value) o.2.2)], .elems 3 (List.map Vl.Value.c o.2.2)]⟩ → ALoopU Try.prog B 1 98 (hold c .mk) ⟨[(0, .ptr 0 0), (1, .arr (List.map Vl.Data.c w)), (2, .arr (List.map cI table)), (4, .lit (.int .i64 depth)), (10, .ptr 2 0), (15, .ptr 4 0), (16, .arr (List.map Vl.Ty.c v31)), (17, .lit (.int .i64 (i34 : Int)))], [.cells [.arr (List.map cU z), .lit (.int .i64 z33)], .dead, .cells [.lit (.int .i64 0), .lit (.int .i64 0), .lit (.slice none 0 0)], .dead, .cells [.lit (.int .i64 x29), .lit (.int .i64 0), .own 5 (List.length (α := Vl.Value) out)], .elems 3 (List.map Vl.Value.c out)]⟩ (hold Q .mk)) := by
  refine F.spec_l2Draw.mutual_partial_correctness w table
    (fun r' t depth r => MutCall Try.prog B 52 [.arr (List.map cU r'.f0), .lit (.int .i64 r'.f1)] [.ptr 0 0, .arr (List.map Vl.Data.c w), .arr (List.map cI table), .agg [.lit (.int .i64 t.data), .lit (.int .i64 t.index)], .lit (.int .i64 depth)] (.agg [.lit (.int .i64 r.1.ctor), .lit (.int .i64 r.1.n), .arr (List.map Vl.Value.c r.1.kids)]) [.arr (List.map cU r.2.f0), .lit (.int .i64 r.2.f1)])
    (fun depth x29 v31 z z33 out i34 o => ∀ (c : Code), navO [1, 1, 1, 1, 1, 1, 1, 0, 1, 0, 0] (bodyOf Try.f52) = some c → ∀ (Q : Exit → ASt → Prop), Q (.exit 2) ⟨[(10, .ptr 2 0), (15, .ptr 4 0)], [.cells [.arr (List.map cU o.1), .lit (.int .i64 o.2.1)], .dead, .cells [.lit (.int .i64 0), .lit (.int .i64 0), .lit (.slice none 0 0)], .dead, .cells [.lit (.int .i64 x29), .lit (.int .i64 0), .own 5 (List.length (α := Vl.Value) o.2.2)], .elems 3 (List.map Vl.Value.c o.2.2)]⟩ → ALoopU Try.prog B 1 98 (hold c .mk) ⟨[(0, .ptr 0 0), (1, .arr (List.map Vl.Data.c w)), (2, .arr (List.map cI table)), (4, .lit (.int .i64 depth)), (10, .ptr 2 0), (15, .ptr 4 0), (16, .arr (List.map Vl.Ty.c v31)), (17, .lit (.int .i64 (i34 : Int)))], [.cells [.arr (List.map cU z), .lit (.int .i64 z33)], .dead, .cells [.lit (.int .i64 0), .lit (.int .i64 0), .lit (.slice none 0 0)], .dead, .cells [.lit (.int .i64 x29), .lit (.int .i64 0), .own 5 (List.length (α := Vl.Value) out)], .elems 3 (List.map Vl.Value.c out)]⟩ (hold Q .mk))
    ?_ ?_
  · intro _f_spec_l2Draw_l2 ih_spec_l2Draw_l2 r' t depth r hF
    refine MutCall.enter Try.func52 (by kernel_rfl) rfl Try.ntmps52 (by simp) (by simp) (by simp) (by simp) ?_
    simp -dsimp
    repeat (refine chk.go (by first | omega | assumption | (simp_all; done) | (simp_all; omega)) ?_; try simp -dsimp)
    refine abr.split (fun h1 => ?_) (fun h1 => ?_)
    · have q2 : (t.data = (-1)) := by first | exact h1 | omega | (simpa using h1) | (simp at h1 ⊢; omega) | simp_all
      rw [if_pos q2] at hF
      simp -dsimp [h1]
      repeat (refine chk.go (by first | omega | assumption | (simp_all; done) | (simp_all; omega)) ?_; try simp -dsimp [h1])
      have hF := ob hF; obtain ⟨v, e3, hF⟩ := hF
      refine ((C.spec_l17Rd_pick B hB1 hB2 r' (10 : Int) v e3)).go 0 rfl (by first | (simp; done) | (simp [h1]; done) | simp_all) (by simp) (by first | (simp; done) | (simp [h1]; done) | simp_all) ?_
      cases hF
      simp -dsimp [h1]
      repeat (refine chk.go (by first | omega | assumption | (simp_all; done) | (simp_all; omega)) ?_; try simp -dsimp [h1])
    · have q2 : ¬ (t.data = (-1)) := by first | exact h1 | omega | (simpa using h1) | (simp at h1 ⊢; omega) | simp_all
      rw [if_neg q2] at hF
      simp -dsimp [h1, q2]
      repeat (refine chk.go (by first | omega | assumption | (simp_all; done) | (simp_all; omega)) ?_; try simp -dsimp [h1, q2])
      have hF := ob hF; obtain ⟨v4, e5, hF⟩ := hF
      refine ((C.spec_l1Ctors B hB1 hB2 w t v4 e5)).goW (by first | (simp; done) | (simp [h1, q2]; done) | simp_all) (by simp) ?_
      simp -dsimp [h1, q2]
      repeat (refine chk.go (by first | omega | assumption | (simp_all; done) | (simp_all; omega)) ?_; try simp -dsimp [h1, q2])
      have hF := ob hF; obtain ⟨o', ho26, hF⟩ := hF
      refine ALoop.goU ⟨[(0, .ptr 0 0), (1, .arr (List.map Vl.Data.c w)), (2, .arr (List.map cI table)), (4, .lit (.int .i64 depth)), (8, .ptr 1 0), (10, .ptr 2 0), (11, .arr (List.map cI v4)), (12, .own 3 (List.length (α := Int) [])), (13, .lit (.int .i64 (0 : Int)))], [.cells [.arr (List.map cU r'.f0), .lit (.int .i64 r'.f1)], .cells [.lit (.int .i64 t.data), .lit (.int .i64 t.index)], .cells [.lit (.int .i64 0), .lit (.int .i64 0), .lit (.slice none 0 0)], .elems 1 (List.map cI [])]⟩ (Gh.to (by simp) (by first | (simp -dsimp; done) | (simp -dsimp [h1, q2]; done) | simp_all) (by first | (simp -dsimp; done) | (simp -dsimp [h1, q2]; done) | simp_all) (by first | (simp -dsimp; done) | (simp -dsimp [h1, q2]; done) | simp_all)) ?_
      refine (C.spec_l2Draw_l1 B hB1 hB2 r' w table t depth v4 [] 0 o' ho26) _ rfl _ ?_
      simp -dsimp
      repeat (refine chk.go (by first | omega | assumption | (simp_all; done) | (simp_all; omega)) ?_; try simp -dsimp)
      have hF := ob hF; obtain ⟨v27, e28, hF⟩ := hF
      refine ((C.spec_l17Rd_pick B hB1 hB2 r' (o'.length : Int) v27 e28)).go 0 rfl (by simp) (by simp) (by simp) ?_
      have hF := ob hF; obtain ⟨x29, e30a, hF⟩ := hF
      have e30a := at_some e30a; obtain ⟨ne30, e30⟩ := e30a
      have le30 := lt_of_get e30
      simp -dsimp [↓e30]
      repeat (refine chk.go (by first | omega | assumption | (simp_all; done) | (simp_all; omega)) ?_; try simp -dsimp [↓e30])
      have hF := ob hF; obtain ⟨v31, e32, hF⟩ := hF
      refine ((C.spec_l1Args B hB1 hB2 w t x29 v31 e32)).goW (by first | (simp; done) | (simp [↓e30]; done) | simp_all) (by simp) ?_
      simp -dsimp [↓e30]
      repeat (refine chk.go (by first | omega | assumption | (simp_all; done) | (simp_all; omega)) ?_; try simp -dsimp [↓e30])
      have hF := ob hF; obtain ⟨o'45, ho44, hF⟩ := hF
      refine ALoop.goU ⟨[(0, .ptr 0 0), (1, .arr (List.map Vl.Data.c w)), (2, .arr (List.map cI table)), (4, .lit (.int .i64 depth)), (10, .ptr 2 0), (15, .ptr 4 0), (16, .arr (List.map Vl.Ty.c v31)), (17, .lit (.int .i64 (0 : Int)))], [.cells [.arr (List.map cU v27.2.f0), .lit (.int .i64 v27.2.f1)], .dead, .cells [.lit (.int .i64 0), .lit (.int .i64 0), .lit (.slice none 0 0)], .dead, .cells [.lit (.int .i64 x29), .lit (.int .i64 0), .own 5 (List.length (α := Vl.Value) [])], .elems 3 (List.map Vl.Value.c [])]⟩ ((Gh.nilCell 4 2 3 (by simp -dsimp; rfl) (by simp -dsimp)).trans (Gh.to (by simp) (by first | (simp -dsimp; done) | (simp -dsimp [↓e30]; done) | simp_all) (by first | (simp -dsimp; done) | (simp -dsimp [↓e30]; done) | simp_all) (by first | (simp -dsimp; done) | (simp -dsimp [↓e30]; done) | simp_all))) ?_
      refine (ih_spec_l2Draw_l2 depth x29 v31 v27.2.f0 v27.2.f1 [] 0 o'45 ho44) _ rfl _ ?_
      cases hF
      simp -dsimp
      repeat (refine chk.go (by first | omega | assumption | (simp_all; done) | (simp_all; omega)) ?_; try simp -dsimp)
  · intro _f_spec_l2Draw _f_spec_l2Draw_l2 ih_spec_l2Draw ih_spec_l2Draw_l2 depth x29 v31 z z33 out i34 o hF
    intro c hc Q hq
    obtain rfl : c = _ := navEq hc rfl
    refine ALoopU.know fun hk hs => ?_
    have b1 := hk 1
    simp -dsimp at b1
    have b2 := hk 2
    simp -dsimp at b2
    have b16 := hk 16
    simp -dsimp at b16
    have d0 := hs 0 _ rfl
    simp -dsimp [Blk.bnd] at d0
    have d5 := hs 5 _ rfl
    simp -dsimp [Blk.bnd] at d5
    clear hk hs
    refine ALoopU.enter ?_
    simp -dsimp
    repeat (refine chk.go (by first | omega | assumption | (simp_all; done) | (simp_all; omega)) ?_; try simp -dsimp)
    refine abr.split (fun h35 => ?_) (fun h35 => ?_)
    · have q36 : (i34 < v31.length) := by first | exact h35 | omega | (simpa using h35) | (simp at h35 ⊢; omega) | simp_all
      have z37 : ((i34 : Int) < (v31.length : Int)) := by first | omega | simp_all
      rw [if_pos q36] at hF
      simp -dsimp [h35, z37]
      repeat (refine chk.go (by first | omega | assumption | (simp_all; done) | (simp_all; omega)) ?_; try simp -dsimp [h35, z37])
      refine ADraw.eff [52] [(0, 2), (0, 2), (0, 0), (0, 0), (0, 0), (0, 0), (0, 0), (0, 0), (0, 0), (0, 0), (0, 0), (0, 4), (0, 4), (0, 4), (3, 3), (0, 4)] [0, 2, 1, 1, 1, 1, 1, 1, 1, 1, 1, 1, 1, 1, 1, 1] follows (by kernel_rfl) (by kernel_rfl) (by kernel_rfl) ?_
      have hF := ob hF; obtain ⟨x38, e39, hF⟩ := hF
      have le39 := lt_of_get e39
      simp -dsimp [h35, z37, ↓e39]
      repeat (refine chk.go (by first | omega | assumption | (simp_all; done) | (simp_all; omega)) ?_; try simp -dsimp [h35, z37, ↓e39])
      have hF := ob hF; obtain ⟨v40, e41, hF⟩ := hF
      refine ((ih_spec_l2Draw (⟨z, z33⟩ : Vl.T_spec_l17Rd) x38 (IntKind.i64.wrap (depth - 1)) v40 e41)).ego 0 rfl (by first | (simp; done) | (simp [h35, z37, ↓e39]; done) | simp_all) (by simp) (by first | (simp; done) | (simp [h35, z37, ↓e39]; done) | simp_all) ?_
      have hF := oc hF; obtain ⟨c42, hF⟩ := hF
      have w43 : IntKind.i64.wrap ((i34 : Int) + 1) = (i34 : Int) + 1 := wrap_in (by omega) (by omega)
      simp -dsimp [h35, z37, ↓e39, w43]
      repeat (refine chk.go (by first | omega | assumption | (simp_all; done) | (simp_all; omega)) ?_; try simp -dsimp [h35, z37, ↓e39, w43])
      refine Again.go ⟨[(0, .ptr 0 0), (1, .arr (List.map Vl.Data.c w)), (2, .arr (List.map cI table)), (4, .lit (.int .i64 depth)), (10, .ptr 2 0), (15, .ptr 4 0), (16, .arr (List.map Vl.Ty.c v31)), (17, .lit (.int .i64 ((i34 + 1) : Int)))], [.cells [.arr (List.map cU v40.2.f0), .lit (.int .i64 v40.2.f1)], .dead, .cells [.lit (.int .i64 0), .lit (.int .i64 0), .lit (.slice none 0 0)], .dead, .cells [.lit (.int .i64 x29), .lit (.int .i64 0), .own 5 (List.length (α := Vl.Value) (out ++ [v40.1]))], .elems 3 (List.map Vl.Value.c (out ++ [v40.1]))]⟩ (Gh.to (by simp) (by first | (simp -dsimp; done) | (simp -dsimp [h35, z37, ↓e39, w43]; done) | simp_all) (by first | (simp -dsimp; done) | (simp -dsimp [h35, z37, ↓e39, w43]; done) | simp_all) (by first | (simp -dsimp; done) | (simp -dsimp [h35, z37, ↓e39, w43]; done) | simp_all)) ?_
      exact (ih_spec_l2Draw_l2 depth x29 v31 v40.2.f0 v40.2.f1 (out ++ [v40.1]) (i34 + 1) o hF) _ rfl _ hq
    · have q36 : ¬ (i34 < v31.length) := by first | exact h35 | omega | (simpa using h35) | (simp at h35 ⊢; omega) | simp_all
      have z37 : ¬ ((i34 : Int) < (v31.length : Int)) := by first | omega | simp_all
      rw [if_neg q36] at hF
      cases hF
      simp -dsimp [h35, q36, z37]
      repeat (refine chk.go (by first | omega | assumption | (simp_all; done) | (simp_all; omega)) ?_; try simp -dsimp [h35, q36, z37])
      refine Leave.go ⟨[(10, .ptr 2 0), (15, .ptr 4 0)], [.cells [.arr (List.map cU z), .lit (.int .i64 z33)], .dead, .cells [.lit (.int .i64 0), .lit (.int .i64 0), .lit (.slice none 0 0)], .dead, .cells [.lit (.int .i64 x29), .lit (.int .i64 0), .own 5 (List.length (α := Vl.Value) out)], .elems 3 (List.map Vl.Value.c out)]⟩ (Gh.to (by simp) (by first | (simp -dsimp; done) | (simp -dsimp [h35, q36, z37]; done) | simp_all) (by first | (simp -dsimp; done) | (simp -dsimp [h35, q36, z37]; done) | simp_all) (by first | (simp -dsimp; done) | (simp -dsimp [h35, q36, z37]; done) | simp_all)) ?_
      exact hq

theorem C.spec_l2Draw (B : Nat) (hB1 : 67108864 ≤ B) (hB2 : B ≤ 9223372036854775807) (r' : Vl.T_spec_l17Rd) (w : List Vl.Data) (table : List Int) (t : Vl.Ty) (depth : Int) (r : Vl.Value × Vl.T_spec_l17Rd) (hF : F.spec_l2Draw r' w table t depth = some r) : MutCall Try.prog B 52 [.arr (List.map cU r'.f0), .lit (.int .i64 r'.f1)] [.ptr 0 0, .arr (List.map Vl.Data.c w), .arr (List.map cI table), .agg [.lit (.int .i64 t.data), .lit (.int .i64 t.index)], .lit (.int .i64 depth)] (.agg [.lit (.int .i64 r.1.ctor), .lit (.int .i64 r.1.n), .arr (List.map Vl.Value.c r.1.kids)]) [.arr (List.map cU r.2.f0), .lit (.int .i64 r.2.f1)] :=
  (CC.spec_l2Draw B hB1 hB2 w table).1 r' t depth r hF

theorem C.spec_l2Draw_l2 (B : Nat) (hB1 : 67108864 ≤ B) (hB2 : B ≤ 9223372036854775807) (w : List Vl.Data) (table : List Int) (depth : Int) (x29 : Int) (v31 : List Vl.Ty) (z : List Int) (z33 : Int) (out : List Vl.Value) (i34 : Nat) (o : (List Int) × Int × (List Vl.Value)) (hF : F.spec_l2Draw_l2 w table depth x29 v31 z z33 out i34 = some o) : ∀ (c : Code), navO [1, 1, 1, 1, 1, 1, 1, 0, 1, 0, 0] (bodyOf Try.f52) = some c → ∀ (Q : Exit → ASt → Prop), Q (.exit 2) ⟨[(10, .ptr 2 0), (15, .ptr 4 0)], [.cells [.arr (List.map cU o.1), .lit (.int .i64 o.2.1)], .dead, .cells [.lit (.int .i64 0), .lit (.int .i64 0), .lit (.slice none 0 0)], .dead, .cells [.lit (.int .i64 x29), .lit (.int .i64 0), .own 5 (List.length (α := Vl.Value) o.2.2)], .elems 3 (List.map Vl.Value.c o.2.2)]⟩ → ALoopU Try.prog B 1 98 (hold c .mk) ⟨[(0, .ptr 0 0), (1, .arr (List.map Vl.Data.c w)), (2, .arr (List.map cI table)), (4, .lit (.int .i64 depth)), (10, .ptr 2 0), (15, .ptr 4 0), (16, .arr (List.map Vl.Ty.c v31)), (17, .lit (.int .i64 (i34 : Int)))], [.cells [.arr (List.map cU z), .lit (.int .i64 z33)], .dead, .cells [.lit (.int .i64 0), .lit (.int .i64 0), .lit (.slice none 0 0)], .dead, .cells [.lit (.int .i64 x29), .lit (.int .i64 0), .own 5 (List.length (α := Vl.Value) out)], .elems 3 (List.map Vl.Value.c out)]⟩ (hold Q .mk) :=
  (CC.spec_l2Draw B hB1 hB2 w table).2 depth x29 v31 z z33 out i34 o hF

set_option maxRecDepth 100000 in
set_option maxHeartbeats 400000 in
theorem C.spec_l2Typed (B : Nat) (hB1 : 67108864 ≤ B) (hB2 : B ≤ 9223372036854775807) (r' : Vl.T_spec_l17Rd) (r : (List Vl.Data) × Vl.Ty × Vl.Value × Vl.T_spec_l17Rd) (hF : F.spec_l2Typed r' = some r) : MutCall Try.prog B 25 [.arr (List.map cU r'.f0), .lit (.int .i64 r'.f1)] [.ptr 0 0] (.tup [.arr (List.map Vl.Data.c r.1), .agg [.lit (.int .i64 r.2.1.data), .lit (.int .i64 r.2.1.index)], .agg [.lit (.int .i64 r.2.2.1.ctor), .lit (.int .i64 r.2.2.1.n), .arr (List.map Vl.Value.c r.2.2.1.kids)]]) [.arr (List.map cU r.2.2.2.f0), .lit (.int .i64 r.2.2.2.f1)] := by
  unfold F.spec_l2Typed at hF
  refine MutCall.enter Try.func25 (by kernel_rfl) rfl Try.ntmps25 (by simp) (by simp) (by simp) (by simp) ?_
  simp -dsimp
  repeat (refine chk.go (by first | omega | assumption | (simp_all; done) | (simp_all; omega)) ?_; try simp -dsimp)
  have hF := ob hF; obtain ⟨v, e1, hF⟩ := hF
  refine ((C.spec_l1World B hB1 hB2 r' v e1)).go 0 rfl (by simp) (by simp) (by simp) ?_
  simp -dsimp
  repeat (refine chk.go (by first | omega | assumption | (simp_all; done) | (simp_all; omega)) ?_; try simp -dsimp)
  have hF := ob hF; obtain ⟨v2, e3, hF⟩ := hF
  refine ((C.spec_l1Table B hB1 hB2 v.1 v2 e3)).goW (by simp) (by simp) ?_
  simp -dsimp
  repeat (refine chk.go (by first | omega | assumption | (simp_all; done) | (simp_all; omega)) ?_; try simp -dsimp)
  have hF := ob hF; obtain ⟨v4, e5, hF⟩ := hF
  refine ((C.spec_l17Rd_pick B hB1 hB2 v.2 (v.1.length : Int) v4 e5)).go 0 rfl (by simp) (by simp) (by simp) ?_
  simp -dsimp
  repeat (refine chk.go (by first | omega | assumption | (simp_all; done) | (simp_all; omega)) ?_; try simp -dsimp)
  have hF := ob hF; obtain ⟨v6, e7, hF⟩ := hF
  refine ACall.frz ?_ ((C.spec_l17Rd_num B hB1 hB2 v4.2 [(0 : Int), (0 : Int), (1 : Int), (2 : Int)] v6 e7)).ent
  simp -dsimp
  repeat (refine chk.go (by first | omega | assumption | (simp_all; done) | (simp_all; omega)) ?_; try simp -dsimp)
  refine ((C.spec_l17Rd_num B hB1 hB2 v4.2 [(0 : Int), (0 : Int), (1 : Int), (2 : Int)] v6 e7)).go 0 rfl (by simp) (by simp) (by simp) ?_
  simp -dsimp
  repeat (refine chk.go (by first | omega | assumption | (simp_all; done) | (simp_all; omega)) ?_; try simp -dsimp)
  have hF := ob hF; obtain ⟨v8, e9, hF⟩ := hF
  refine ((C.spec_l1Depth B hB1 hB2 v2 (⟨v4.1, v6.1⟩ : Vl.Ty) v8 e9)).goW (by simp) (by simp) ?_
  simp -dsimp
  repeat (refine chk.go (by first | omega | assumption | (simp_all; done) | (simp_all; omega)) ?_; try simp -dsimp)
  refine abr.split (fun h10 => ?_) (fun h10 => ?_)
  · have q11 : (v8 = 0) := by first | exact h10 | omega | (simpa using h10) | (simp at h10 ⊢; omega) | simp_all
    rw [if_pos q11] at hF
    simp -dsimp [eq_true h10]
    repeat (refine chk.go (by first | omega | assumption | (simp_all; done) | (simp_all; omega)) ?_; try simp -dsimp [eq_true h10])
    refine ADraw.eff [40, 52] [(0, 3), (0, 3), (0, 2), (0, 2), (0, 2), (0, 2), (0, 1), (0, 5), (0, 5), (0, 5), (3, 3), (0, 5), (0, 5)] [1, 2, 1, 1, 1, 2, 1, 1, 1, 1, 1, 1, 1] follows (by kernel_rfl) (by kernel_rfl) (by kernel_rfl) ?_
    simp -dsimp [eq_true h10]
    repeat (refine chk.go (by first | omega | assumption | (simp_all; done) | (simp_all; omega)) ?_; try simp -dsimp [eq_true h10])
    have hF := ob hF; obtain ⟨v12, e13, hF⟩ := hF
    refine ECallA.frz ?_ ((C.spec_l17Rd_num B hB1 hB2 v6.2 [(3 : Int), (2 : Int), (4 : Int), (1 : Int)] v12 e13)).ent
    simp -dsimp [eq_true h10]
    repeat (refine chk.go (by first | omega | assumption | (simp_all; done) | (simp_all; omega)) ?_; try simp -dsimp [eq_true h10])
    refine ((C.spec_l17Rd_num B hB1 hB2 v6.2 [(3 : Int), (2 : Int), (4 : Int), (1 : Int)] v12 e13)).ego 0 rfl (by first | (simp; done) | (simp [eq_true h10]; done) | simp_all) (by simp) (by first | (simp; done) | (simp [eq_true h10]; done) | simp_all) ?_
    simp -dsimp [eq_true h10]
    repeat (refine chk.go (by first | omega | assumption | (simp_all; done) | (simp_all; omega)) ?_; try simp -dsimp [eq_true h10])
    have hF := ob hF; obtain ⟨v14, e15, hF⟩ := hF
    refine ((C.spec_l2Draw B hB1 hB2 v12.2 v.1 v2 (⟨(-1 : Int), (0 : Int)⟩ : Vl.Ty) v12.1 v14 e15)).ego 0 rfl (by first | (simp; done) | (simp [eq_true h10]; done) | simp_all) (by simp) (by first | (simp; done) | (simp [eq_true h10]; done) | simp_all) ?_
    cases hF
    simp -dsimp [eq_true h10]
    repeat (refine chk.go (by first | omega | assumption | (simp_all; done) | (simp_all; omega)) ?_; try simp -dsimp [eq_true h10])
  · have q11 : ¬ (v8 = 0) := by first | exact h10 | omega | (simpa using h10) | (simp at h10 ⊢; omega) | simp_all
    rw [if_neg q11] at hF
    simp -dsimp [h10, q11]
    repeat (refine chk.go (by first | omega | assumption | (simp_all; done) | (simp_all; omega)) ?_; try simp -dsimp [h10, q11])
    refine ADraw.eff [40, 52] [(0, 3), (0, 3), (0, 2), (0, 2), (0, 2), (0, 2), (0, 1), (0, 5), (0, 5), (0, 5), (3, 3), (0, 5), (0, 5)] [1, 2, 1, 1, 1, 2, 1, 1, 1, 1, 1, 1, 1] follows (by kernel_rfl) (by kernel_rfl) (by kernel_rfl) ?_
    simp -dsimp [h10, q11]
    repeat (refine chk.go (by first | omega | assumption | (simp_all; done) | (simp_all; omega)) ?_; try simp -dsimp [h10, q11])
    have hF := ob hF; obtain ⟨v16, e17, hF⟩ := hF
    refine ECallA.frz ?_ ((C.spec_l17Rd_num B hB1 hB2 v6.2 [(3 : Int), (2 : Int), (4 : Int), (1 : Int)] v16 e17)).ent
    simp -dsimp [h10, q11]
    repeat (refine chk.go (by first | omega | assumption | (simp_all; done) | (simp_all; omega)) ?_; try simp -dsimp [h10, q11])
    refine ((C.spec_l17Rd_num B hB1 hB2 v6.2 [(3 : Int), (2 : Int), (4 : Int), (1 : Int)] v16 e17)).ego 0 rfl (by first | (simp; done) | (simp [h10, q11]; done) | simp_all) (by simp) (by first | (simp; done) | (simp [h10, q11]; done) | simp_all) ?_
    simp -dsimp [h10, q11]
    repeat (refine chk.go (by first | omega | assumption | (simp_all; done) | (simp_all; omega)) ?_; try simp -dsimp [h10, q11])
    have hF := ob hF; obtain ⟨v18, e19, hF⟩ := hF
    refine ((C.spec_l2Draw B hB1 hB2 v16.2 v.1 v2 (⟨v4.1, v6.1⟩ : Vl.Ty) v16.1 v18 e19)).ego 0 rfl (by first | (simp; done) | (simp [h10, q11]; done) | simp_all) (by simp) (by first | (simp; done) | (simp [h10, q11]; done) | simp_all) ?_
    cases hF
    simp -dsimp [h10, q11]
    repeat (refine chk.go (by first | omega | assumption | (simp_all; done) | (simp_all; omega)) ?_; try simp -dsimp [h10, q11])

set_option maxRecDepth 100000 in
set_option maxHeartbeats 400000 in
theorem CC.spec_l10Some (B : Nat) (hB1 : 67108864 ≤ B) (hB2 : B ≤ 9223372036854775807)  : (∀ (r' : Vl.T_spec_l17Rd) (v : Vl.Value) (r : Vl.Value × Vl.T_spec_l17Rd), F.spec_l10Some r' v = some r → MutCall Try.prog B 26 [.arr (List.map cU r'.f0), .lit (.int .i64 r'.f1)] [.ptr 0 0, .agg [.lit (.int .i64 v.ctor), .lit (.int .i64 v.n), .arr (List.map Vl.Value.c v.kids)]] (.agg [.lit (.int .i64 r.1.ctor), .lit (.int .i64 r.1.n), .arr (List.map Vl.Value.c r.1.kids)]) [.arr (List.map cU r.2.f0), .lit (.int .i64 r.2.f1)]) ∧
    (∀ (v : Vl.Value) (z : List Int) (z5 : Int) (out : List Vl.Value) (i : Nat) (o : (List Int) × Int × (List Vl.Value)), F.spec_l10Some_l1 v z z5 out i = some o → ∀ (c : Code), navO [1, 1, 1, 0, 1, 0, 0] (bodyOf Try.f26) = some c → ∀ (Q : Exit → ASt → Prop), Q (.exit 0) ⟨[(4, .ptr 2 0), (5, .ptr 3 0)], [.cells [.arr (List.map cU o.1), .lit (.int .i64 o.2.1)], .dead, .cells [.lit (.int .i64 0), .lit (.int .i64 0), .lit (.slice none 0 0)], .cells [.lit (.int .i64 v.ctor), .lit (.int .i64 v.n), .own 4 (List.length (α := Vl.Value) o.2.2)], .elems 3 (List.map Vl.Value.c o.2.2)]⟩ → ALoopU Try.prog B 1 36 (hold c .mk) ⟨[(0, .ptr 0 0), (3, .ptr 1 0), (4, .ptr 2 0), (5, .ptr 3 0), (6, .lit (.int .i64 (i : Int)))], [.cells [.arr (List.map cU z), .lit (.int .i64 z5)], .cells [.lit (.int .i64 v.ctor), .lit (.int .i64 v.n), .arr (List.map Vl.Value.c v.kids)], .cells [.lit (.int .i64 0), .lit (.int .i64 0), .lit (.slice none 0 0)], .cells [.lit (.int .i64 v.ctor), .lit (.int .i64 v.n), .own 4 (List.length (α := Vl.Value) out)], .elems 3 (List.map Vl.Value.c out)]⟩ (hold Q .mk)) := by
  refine F.spec_l10Some.mutual_partial_correctness 
    (fun r' v r => MutCall Try.prog B 26 [.arr (List.map cU r'.f0), .lit (.int .i64 r'.f1)] [.ptr 0 0, .agg [.lit (.int .i64 v.ctor), .lit (.int .i64 v.n), .arr (List.map Vl.Value.c v.kids)]] (.agg [.lit (.int .i64 r.1.ctor), .lit (.int .i64 r.1.n), .arr (List.map Vl.Value.c r.1.kids)]) [.arr (List.map cU r.2.f0), .lit (.int .i64 r.2.f1)])
    (fun v z z5 out i o => ∀ (c : Code), navO [1, 1, 1, 0, 1, 0, 0] (bodyOf Try.f26) = some c → ∀ (Q : Exit → ASt → Prop), Q (.exit 0) ⟨[(4, .ptr 2 0), (5, .ptr 3 0)], [.cells [.arr (List.map cU o.1), .lit (.int .i64 o.2.1)], .dead, .cells [.lit (.int .i64 0), .lit (.int .i64 0), .lit (.slice none 0 0)], .cells [.lit (.int .i64 v.ctor), .lit (.int .i64 v.n), .own 4 (List.length (α := Vl.Value) o.2.2)], .elems 3 (List.map Vl.Value.c o.2.2)]⟩ → ALoopU Try.prog B 1 36 (hold c .mk) ⟨[(0, .ptr 0 0), (3, .ptr 1 0), (4, .ptr 2 0), (5, .ptr 3 0), (6, .lit (.int .i64 (i : Int)))], [.cells [.arr (List.map cU z), .lit (.int .i64 z5)], .cells [.lit (.int .i64 v.ctor), .lit (.int .i64 v.n), .arr (List.map Vl.Value.c v.kids)], .cells [.lit (.int .i64 0), .lit (.int .i64 0), .lit (.slice none 0 0)], .cells [.lit (.int .i64 v.ctor), .lit (.int .i64 v.n), .own 4 (List.length (α := Vl.Value) out)], .elems 3 (List.map Vl.Value.c out)]⟩ (hold Q .mk))
    ?_ ?_
  · intro _f_spec_l10Some_l1 ih_spec_l10Some_l1 r' v r hF
    refine MutCall.enter Try.func26 (by kernel_rfl) rfl Try.ntmps26 (by simp) (by simp) (by simp) (by simp) ?_
    simp -dsimp
    repeat (refine chk.go (by first | omega | assumption | (simp_all; done) | (simp_all; omega)) ?_; try simp -dsimp)
    have hF := ob hF; obtain ⟨v1, e2, hF⟩ := hF
    refine ((C.spec_l17Rd_pick B hB1 hB2 r' (5 : Int) v1 e2)).go 0 rfl (by simp) (by simp) (by simp) ?_
    simp -dsimp
    repeat (refine chk.go (by first | omega | assumption | (simp_all; done) | (simp_all; omega)) ?_; try simp -dsimp)
    refine abr.split (fun h3 => ?_) (fun h3 => ?_)
    · have q4 : (v1.1 = 0) := by first | exact h3 | omega | (simpa using h3) | (simp at h3 ⊢; omega) | simp_all
      rw [if_pos q4] at hF
      cases hF
      simp -dsimp [h3]
      repeat (refine chk.go (by first | omega | assumption | (simp_all; done) | (simp_all; omega)) ?_; try simp -dsimp [h3])
    · have q4 : ¬ (v1.1 = 0) := by first | exact h3 | omega | (simpa using h3) | (simp at h3 ⊢; omega) | simp_all
      rw [if_neg q4] at hF
      simp -dsimp [h3, q4]
      repeat (refine chk.go (by first | omega | assumption | (simp_all; done) | (simp_all; omega)) ?_; try simp -dsimp [h3, q4])
      have hF := ob hF; obtain ⟨o', ho14, hF⟩ := hF
      refine ALoop.goU ⟨[(0, .ptr 0 0), (3, .ptr 1 0), (4, .ptr 2 0), (5, .ptr 3 0), (6, .lit (.int .i64 (0 : Int)))], [.cells [.arr (List.map cU v1.2.f0), .lit (.int .i64 v1.2.f1)], .cells [.lit (.int .i64 v.ctor), .lit (.int .i64 v.n), .arr (List.map Vl.Value.c v.kids)], .cells [.lit (.int .i64 0), .lit (.int .i64 0), .lit (.slice none 0 0)], .cells [.lit (.int .i64 v.ctor), .lit (.int .i64 v.n), .own 4 (List.length (α := Vl.Value) [])], .elems 3 (List.map Vl.Value.c [])]⟩ ((Gh.nilCell 3 2 3 (by simp -dsimp; rfl) (by simp -dsimp)).trans (Gh.to (by simp) (by first | (simp -dsimp; done) | (simp -dsimp [h3, q4]; done) | simp_all) (by first | (simp -dsimp; done) | (simp -dsimp [h3, q4]; done) | simp_all) (by first | (simp -dsimp; done) | (simp -dsimp [h3, q4]; done) | simp_all))) ?_
      refine (ih_spec_l10Some_l1 v v1.2.f0 v1.2.f1 [] 0 o' ho14) _ rfl _ ?_
      cases hF
      simp -dsimp
      repeat (refine chk.go (by first | omega | assumption | (simp_all; done) | (simp_all; omega)) ?_; try simp -dsimp)
  · intro _f_spec_l10Some _f_spec_l10Some_l1 ih_spec_l10Some ih_spec_l10Some_l1 v z z5 out i o hF
    intro c hc Q hq
    obtain rfl : c = _ := navEq hc rfl
    refine ALoopU.know fun hk hs => ?_
    have d0 := hs 0 _ rfl
    simp -dsimp [Blk.bnd] at d0
    have d1 := hs 1 _ rfl
    simp -dsimp [Blk.bnd] at d1
    have d4 := hs 4 _ rfl
    simp -dsimp [Blk.bnd] at d4
    clear hk hs
    refine ALoopU.enter ?_
    simp -dsimp
    repeat (refine chk.go (by first | omega | assumption | (simp_all; done) | (simp_all; omega)) ?_; try simp -dsimp)
    refine abr.split (fun h6 => ?_) (fun h6 => ?_)
    · have q7 : (i < v.kids.length) := by first | exact h6 | omega | (simpa using h6) | (simp at h6 ⊢; omega) | simp_all
      have z8 : ((i : Int) < (v.kids.length : Int)) := by first | omega | simp_all
      rw [if_pos q7] at hF
      simp -dsimp [h6, z8]
      repeat (refine chk.go (by first | omega | assumption | (simp_all; done) | (simp_all; omega)) ?_; try simp -dsimp [h6, z8])
      refine ADraw.eff [26] [(0, 2), (0, 2), (0, 0), (0, 0), (0, 0), (0, 0), (0, 0), (0, 0), (0, 4), (0, 4), (0, 4), (3, 3), (0, 4)] [0, 2, 1, 1, 1, 1, 1, 1, 1, 1, 1, 1, 1] follows (by kernel_rfl) (by kernel_rfl) (by kernel_rfl) ?_
      have hF := ob hF; obtain ⟨x, e9, hF⟩ := hF
      have le9 := lt_of_get e9
      simp -dsimp [h6, z8, ↓e9]
      repeat (refine chk.go (by first | omega | assumption | (simp_all; done) | (simp_all; omega)) ?_; try simp -dsimp [h6, z8, ↓e9])
      have hF := ob hF; obtain ⟨v10, e11, hF⟩ := hF
      refine ((ih_spec_l10Some (⟨z, z5⟩ : Vl.T_spec_l17Rd) x v10 e11)).ego 0 rfl (by first | (simp; done) | (simp [h6, z8, ↓e9]; done) | simp_all) (by simp) (by first | (simp; done) | (simp [h6, z8, ↓e9]; done) | simp_all) ?_
      have hF := oc hF; obtain ⟨c12, hF⟩ := hF
      have w13 : IntKind.i64.wrap ((i : Int) + 1) = (i : Int) + 1 := wrap_in (by omega) (by omega)
      simp -dsimp [h6, z8, ↓e9, w13]
      repeat (refine chk.go (by first | omega | assumption | (simp_all; done) | (simp_all; omega)) ?_; try simp -dsimp [h6, z8, ↓e9, w13])
      refine Again.go ⟨[(0, .ptr 0 0), (3, .ptr 1 0), (4, .ptr 2 0), (5, .ptr 3 0), (6, .lit (.int .i64 ((i + 1) : Int)))], [.cells [.arr (List.map cU v10.2.f0), .lit (.int .i64 v10.2.f1)], .cells [.lit (.int .i64 v.ctor), .lit (.int .i64 v.n), .arr (List.map Vl.Value.c v.kids)], .cells [.lit (.int .i64 0), .lit (.int .i64 0), .lit (.slice none 0 0)], .cells [.lit (.int .i64 v.ctor), .lit (.int .i64 v.n), .own 4 (List.length (α := Vl.Value) (out ++ [v10.1]))], .elems 3 (List.map Vl.Value.c (out ++ [v10.1]))]⟩ (Gh.to (by simp) (by first | (simp -dsimp; done) | (simp -dsimp [h6, z8, ↓e9, w13]; done) | simp_all) (by first | (simp -dsimp; done) | (simp -dsimp [h6, z8, ↓e9, w13]; done) | simp_all) (by first | (simp -dsimp; done) | (simp -dsimp [h6, z8, ↓e9, w13]; done) | simp_all)) ?_
      exact (ih_spec_l10Some_l1 v v10.2.f0 v10.2.f1 (out ++ [v10.1]) (i + 1) o hF) _ rfl _ hq
    · have q7 : ¬ (i < v.kids.length) := by first | exact h6 | omega | (simpa using h6) | (simp at h6 ⊢; omega) | simp_all
      have z8 : ¬ ((i : Int) < (v.kids.length : Int)) := by first | omega | simp_all
      rw [if_neg q7] at hF
      cases hF
      simp -dsimp [h6, q7, z8]
      repeat (refine chk.go (by first | omega | assumption | (simp_all; done) | (simp_all; omega)) ?_; try simp -dsimp [h6, q7, z8])
      refine Leave.go ⟨[(4, .ptr 2 0), (5, .ptr 3 0)], [.cells [.arr (List.map cU z), .lit (.int .i64 z5)], .dead, .cells [.lit (.int .i64 0), .lit (.int .i64 0), .lit (.slice none 0 0)], .cells [.lit (.int .i64 v.ctor), .lit (.int .i64 v.n), .own 4 (List.length (α := Vl.Value) out)], .elems 3 (List.map Vl.Value.c out)]⟩ (Gh.to (by simp) (by first | (simp -dsimp; done) | (simp -dsimp [h6, q7, z8]; done) | simp_all) (by first | (simp -dsimp; done) | (simp -dsimp [h6, q7, z8]; done) | simp_all) (by first | (simp -dsimp; done) | (simp -dsimp [h6, q7, z8]; done) | simp_all)) ?_
      exact hq

theorem C.spec_l10Some (B : Nat) (hB1 : 67108864 ≤ B) (hB2 : B ≤ 9223372036854775807) (r' : Vl.T_spec_l17Rd) (v : Vl.Value) (r : Vl.Value × Vl.T_spec_l17Rd) (hF : F.spec_l10Some r' v = some r) : MutCall Try.prog B 26 [.arr (List.map cU r'.f0), .lit (.int .i64 r'.f1)] [.ptr 0 0, .agg [.lit (.int .i64 v.ctor), .lit (.int .i64 v.n), .arr (List.map Vl.Value.c v.kids)]] (.agg [.lit (.int .i64 r.1.ctor), .lit (.int .i64 r.1.n), .arr (List.map Vl.Value.c r.1.kids)]) [.arr (List.map cU r.2.f0), .lit (.int .i64 r.2.f1)] :=
  (CC.spec_l10Some B hB1 hB2 ).1 r' v r hF

theorem C.spec_l10Some_l1 (B : Nat) (hB1 : 67108864 ≤ B) (hB2 : B ≤ 9223372036854775807) (v : Vl.Value) (z : List Int) (z5 : Int) (out : List Vl.Value) (i : Nat) (o : (List Int) × Int × (List Vl.Value)) (hF : F.spec_l10Some_l1 v z z5 out i = some o) : ∀ (c : Code), navO [1, 1, 1, 0, 1, 0, 0] (bodyOf Try.f26) = some c → ∀ (Q : Exit → ASt → Prop), Q (.exit 0) ⟨[(4, .ptr 2 0), (5, .ptr 3 0)], [.cells [.arr (List.map cU o.1), .lit (.int .i64 o.2.1)], .dead, .cells [.lit (.int .i64 0), .lit (.int .i64 0), .lit (.slice none 0 0)], .cells [.lit (.int .i64 v.ctor), .lit (.int .i64 v.n), .own 4 (List.length (α := Vl.Value) o.2.2)], .elems 3 (List.map Vl.Value.c o.2.2)]⟩ → ALoopU Try.prog B 1 36 (hold c .mk) ⟨[(0, .ptr 0 0), (3, .ptr 1 0), (4, .ptr 2 0), (5, .ptr 3 0), (6, .lit (.int .i64 (i : Int)))], [.cells [.arr (List.map cU z), .lit (.int .i64 z5)], .cells [.lit (.int .i64 v.ctor), .lit (.int .i64 v.n), .arr (List.map Vl.Value.c v.kids)], .cells [.lit (.int .i64 0), .lit (.int .i64 0), .lit (.slice none 0 0)], .cells [.lit (.int .i64 v.ctor), .lit (.int .i64 v.n), .own 4 (List.length (α := Vl.Value) out)], .elems 3 (List.map Vl.Value.c out)]⟩ (hold Q .mk) :=
  (CC.spec_l10Some B hB1 hB2 ).2 v z z5 out i o hF

set_option maxRecDepth 100000 in
set_option maxHeartbeats 400000 in
theorem C.spec_DrawKnownMore (B : Nat) (hB1 : 67108864 ≤ B) (hB2 : B ≤ 9223372036854775807) (code : List Int) (r : (List Vl.Data) × Vl.Ty × Vl.Value × Vl.Value) (hF : F.spec_DrawKnownMore code = some r) : PureCall Try.prog B 9 [.arr (List.map cU code)] (.tup [.arr (List.map Vl.Data.c r.1), .agg [.lit (.int .i64 r.2.1.data), .lit (.int .i64 r.2.1.index)], .agg [.lit (.int .i64 r.2.2.1.ctor), .lit (.int .i64 r.2.2.1.n), .arr (List.map Vl.Value.c r.2.2.1.kids)], .agg [.lit (.int .i64 r.2.2.2.ctor), .lit (.int .i64 r.2.2.2.n), .arr (List.map Vl.Value.c r.2.2.2.kids)]]) := by
  unfold F.spec_DrawKnownMore at hF
  refine PureCall.enterLe Try.func9 (by kernel_rfl) rfl Try.ntmps9 (by simp) (by simp) ?_
  simp -dsimp
  repeat (refine chk.go (by first | omega | assumption | (simp_all; done) | (simp_all; omega)) ?_; try simp -dsimp)
  refine ACall.inl Try.func24 (by kernel_rfl) rfl Try.ntmps24 (by simp) ?_
  simp -dsimp
  repeat (refine chk.go (by first | omega | assumption | (simp_all; done) | (simp_all; omega)) ?_; try simp -dsimp)
  refine abr.split (fun h1 => ?_) (fun h1 => ?_)
  · have q2 : (2000 < code.length) := by first | exact h1 | omega | (simpa using h1) | (simp at h1 ⊢; omega) | simp_all
    have z3 : ((2000 : Int) < (code.length : Int)) := by first | omega | simp_all
    rw [if_pos q2] at hF
    have hF := oc hF; obtain ⟨c4, hF⟩ := hF
    simp -dsimp [h1, z3]
    repeat (refine chk.go (by first | omega | assumption | (simp_all; done) | (simp_all; omega)) ?_; try simp -dsimp [h1, z3])
    have hF := ob hF; obtain ⟨v, e5, hF⟩ := hF
    refine ((C.spec_l2Typed B hB1 hB2 (⟨(code.drop 0).take (2000 - 0), (0 : Int)⟩ : Vl.T_spec_l17Rd) v e5)).go 3 rfl (by first | (simp; done) | (simp [h1, z3]; done) | simp_all) (by simp) (by first | (simp; done) | (simp [h1, z3]; done) | simp_all) ?_
    simp -dsimp [h1, z3]
    repeat (refine chk.go (by first | omega | assumption | (simp_all; done) | (simp_all; omega)) ?_; try simp -dsimp [h1, z3])
    have hF := ob hF; obtain ⟨v6, e7, hF⟩ := hF
    refine ((C.spec_l10Some B hB1 hB2 v.2.2.2 v.2.2.1 v6 e7)).go 3 rfl (by first | (simp; done) | (simp [h1, z3]; done) | simp_all) (by simp) (by first | (simp; done) | (simp [h1, z3]; done) | simp_all) ?_
    simp -dsimp [h1, z3]
    repeat (refine chk.go (by first | omega | assumption | (simp_all; done) | (simp_all; omega)) ?_; try simp -dsimp [h1, z3])
    have hF := ob hF; obtain ⟨v8, e9, hF⟩ := hF
    refine ((C.spec_l17Rd_pick B hB1 hB2 v6.2 (3 : Int) v8 e9)).go 3 rfl (by first | (simp; done) | (simp [h1, z3]; done) | simp_all) (by simp) (by first | (simp; done) | (simp [h1, z3]; done) | simp_all) ?_
    simp -dsimp [h1, z3]
    repeat (refine chk.go (by first | omega | assumption | (simp_all; done) | (simp_all; omega)) ?_; try simp -dsimp [h1, z3])
    refine abr.split (fun h10 => ?_) (fun h10 => ?_)
    · have q11 : (v8.1 = 0) := by first | exact h10 | omega | (simpa using h10) | (simp at h10 ⊢; omega) | simp_all
      rw [if_pos q11] at hF
      simp -dsimp [h1, z3, h10]
      repeat (refine chk.go (by first | omega | assumption | (simp_all; done) | (simp_all; omega)) ?_; try simp -dsimp [h1, z3, h10])
      refine ADraw.eff [26] [(0, 1), (0, 1), (0, 2), (0, 0), (0, 0), (0, 4), (1, 1), (0, 4), (0, 4), (0, 4)] [1, 2, 2, 1, 1, 1, 1, 1, 1, 1] follows (by kernel_rfl) (by kernel_rfl) (by kernel_rfl) ?_
      simp -dsimp [h1, z3, h10]
      repeat (refine chk.go (by first | omega | assumption | (simp_all; done) | (simp_all; omega)) ?_; try simp -dsimp [h1, z3, h10])
      have hF := ob hF; obtain ⟨v12, e13, hF⟩ := hF
      refine ((C.spec_l10Some B hB1 hB2 v8.2 v.2.2.1 v12 e13)).ego 3 rfl (by first | (simp; done) | (simp [h1, z3, h10]; done) | simp_all) (by simp) (by first | (simp; done) | (simp [h1, z3, h10]; done) | simp_all) ?_
      cases hF
      simp -dsimp [h1, z3, h10]
      repeat (refine chk.go (by first | omega | assumption | (simp_all; done) | (simp_all; omega)) ?_; try simp -dsimp [h1, z3, h10])
    · have q11 : ¬ (v8.1 = 0) := by first | exact h10 | omega | (simpa using h10) | (simp at h10 ⊢; omega) | simp_all
      rw [if_neg q11] at hF
      simp -dsimp [h1, z3, h10, q11]
      repeat (refine chk.go (by first | omega | assumption | (simp_all; done) | (simp_all; omega)) ?_; try simp -dsimp [h1, z3, h10, q11])
      refine ADraw.eff [26] [(0, 1), (0, 1), (0, 2), (0, 0), (0, 0), (0, 4), (1, 1), (0, 4), (0, 4), (0, 4)] [1, 2, 2, 1, 1, 1, 1, 1, 1, 1] follows (by kernel_rfl) (by kernel_rfl) (by kernel_rfl) ?_
      simp -dsimp [h1, z3, h10, q11]
      repeat (refine chk.go (by first | omega | assumption | (simp_all; done) | (simp_all; omega)) ?_; try simp -dsimp [h1, z3, h10, q11])
      have hF := ob hF; obtain ⟨v14, e15, hF⟩ := hF
      refine ((C.spec_l10Some B hB1 hB2 v8.2 v6.1 v14 e15)).ego 3 rfl (by first | (simp; done) | (simp [h1, z3, h10, q11]; done) | simp_all) (by simp) (by first | (simp; done) | (simp [h1, z3, h10, q11]; done) | simp_all) ?_
      cases hF
      simp -dsimp [h1, z3, h10, q11]
      repeat (refine chk.go (by first | omega | assumption | (simp_all; done) | (simp_all; omega)) ?_; try simp -dsimp [h1, z3, h10, q11])
  · have q2 : ¬ (2000 < code.length) := by first | exact h1 | omega | (simpa using h1) | (simp at h1 ⊢; omega) | simp_all
    have z3 : ¬ ((2000 : Int) < (code.length : Int)) := by first | omega | simp_all
    rw [if_neg q2] at hF
    simp -dsimp [h1, q2, z3]
    repeat (refine chk.go (by first | omega | assumption | (simp_all; done) | (simp_all; omega)) ?_; try simp -dsimp [h1, q2, z3])
    have hF := ob hF; obtain ⟨v16, e17, hF⟩ := hF
    refine ((C.spec_l2Typed B hB1 hB2 (⟨code, (0 : Int)⟩ : Vl.T_spec_l17Rd) v16 e17)).go 3 rfl (by first | (simp; done) | (simp [h1, q2, z3]; done) | simp_all) (by simp) (by first | (simp; done) | (simp [h1, q2, z3]; done) | simp_all) ?_
    simp -dsimp [h1, q2, z3]
    repeat (refine chk.go (by first | omega | assumption | (simp_all; done) | (simp_all; omega)) ?_; try simp -dsimp [h1, q2, z3])
    have hF := ob hF; obtain ⟨v18, e19, hF⟩ := hF
    refine ((C.spec_l10Some B hB1 hB2 v16.2.2.2 v16.2.2.1 v18 e19)).go 3 rfl (by first | (simp; done) | (simp [h1, q2, z3]; done) | simp_all) (by simp) (by first | (simp; done) | (simp [h1, q2, z3]; done) | simp_all) ?_
    simp -dsimp [h1, q2, z3]
    repeat (refine chk.go (by first | omega | assumption | (simp_all; done) | (simp_all; omega)) ?_; try simp -dsimp [h1, q2, z3])
    have hF := ob hF; obtain ⟨v20, e21, hF⟩ := hF
    refine ((C.spec_l17Rd_pick B hB1 hB2 v18.2 (3 : Int) v20 e21)).go 3 rfl (by first | (simp; done) | (simp [h1, q2, z3]; done) | simp_all) (by simp) (by first | (simp; done) | (simp [h1, q2, z3]; done) | simp_all) ?_
    simp -dsimp [h1, q2, z3]
    repeat (refine chk.go (by first | omega | assumption | (simp_all; done) | (simp_all; omega)) ?_; try simp -dsimp [h1, q2, z3])
    refine abr.split (fun h22 => ?_) (fun h22 => ?_)
    · have q23 : (v20.1 = 0) := by first | exact h22 | omega | (simpa using h22) | (simp at h22 ⊢; omega) | simp_all
      rw [if_pos q23] at hF
      simp -dsimp [h1, q2, z3, h22]
      repeat (refine chk.go (by first | omega | assumption | (simp_all; done) | (simp_all; omega)) ?_; try simp -dsimp [h1, q2, z3, h22])
      refine ADraw.eff [26] [(0, 1), (0, 1), (0, 2), (0, 0), (0, 0), (0, 4), (1, 1), (0, 4), (0, 4), (0, 4)] [1, 2, 2, 1, 1, 1, 1, 1, 1, 1] follows (by kernel_rfl) (by kernel_rfl) (by kernel_rfl) ?_
      simp -dsimp [h1, q2, z3, h22]
      repeat (refine chk.go (by first | omega | assumption | (simp_all; done) | (simp_all; omega)) ?_; try simp -dsimp [h1, q2, z3, h22])
      have hF := ob hF; obtain ⟨v24, e25, hF⟩ := hF
      refine ((C.spec_l10Some B hB1 hB2 v20.2 v16.2.2.1 v24 e25)).ego 3 rfl (by first | (simp; done) | (simp [h1, q2, z3, h22]; done) | simp_all) (by simp) (by first | (simp; done) | (simp [h1, q2, z3, h22]; done) | simp_all) ?_
      cases hF
      simp -dsimp [h1, q2, z3, h22]
      repeat (refine chk.go (by first | omega | assumption | (simp_all; done) | (simp_all; omega)) ?_; try simp -dsimp [h1, q2, z3, h22])
    · have q23 : ¬ (v20.1 = 0) := by first | exact h22 | omega | (simpa using h22) | (simp at h22 ⊢; omega) | simp_all
      rw [if_neg q23] at hF
      simp -dsimp [h1, q2, z3, h22, q23]
      repeat (refine chk.go (by first | omega | assumption | (simp_all; done) | (simp_all; omega)) ?_; try simp -dsimp [h1, q2, z3, h22, q23])
      refine ADraw.eff [26] [(0, 1), (0, 1), (0, 2), (0, 0), (0, 0), (0, 4), (1, 1), (0, 4), (0, 4), (0, 4)] [1, 2, 2, 1, 1, 1, 1, 1, 1, 1] follows (by kernel_rfl) (by kernel_rfl) (by kernel_rfl) ?_
      simp -dsimp [h1, q2, z3, h22, q23]
      repeat (refine chk.go (by first | omega | assumption | (simp_all; done) | (simp_all; omega)) ?_; try simp -dsimp [h1, q2, z3, h22, q23])
      have hF := ob hF; obtain ⟨v26, e27, hF⟩ := hF
      refine ((C.spec_l10Some B hB1 hB2 v20.2 v18.1 v26 e27)).ego 3 rfl (by first | (simp; done) | (simp [h1, q2, z3, h22, q23]; done) | simp_all) (by simp) (by first | (simp; done) | (simp [h1, q2, z3, h22, q23]; done) | simp_all) ?_
      cases hF
      simp -dsimp [h1, q2, z3, h22, q23]
      repeat (refine chk.go (by first | omega | assumption | (simp_all; done) | (simp_all; omega)) ?_; try simp -dsimp [h1, q2, z3, h22, q23])

set_option maxRecDepth 100000 in
set_option maxHeartbeats 400000 in
theorem C.impl_within (B : Nat) (hB1 : 67108864 ≤ B) (hB2 : B ≤ 9223372036854775807) (n : Int) (low : Int) (high : Int) (r : Bool) (hF : F.impl_within n low high = some r) : PureCall Try.prog B 55 [.lit (.int .i64 n), .lit (.int .i64 low), .lit (.int .i64 high)] (.lit (.bool r)) := by
  unfold F.impl_within at hF
  refine PureCall.enterLe Try.func55 (by kernel_rfl) rfl Try.ntmps55 (by simp) (by simp) ?_
  simp -dsimp
  repeat (refine chk.go (by first | omega | assumption | (simp_all; done) | (simp_all; omega)) ?_; try simp -dsimp)
  refine abr.split (fun h1 => ?_) (fun h1 => ?_)
  · have q2 : (low ≤ n) := by first | exact h1 | omega | (simpa using h1) | (simp at h1 ⊢; omega) | simp_all
    rw [if_pos q2] at hF
    cases hF
    simp -dsimp [h1]
    repeat (refine chk.go (by first | omega | assumption | (simp_all; done) | (simp_all; omega)) ?_; try simp -dsimp [h1])
  · have q2 : ¬ (low ≤ n) := by first | exact h1 | omega | (simpa using h1) | (simp at h1 ⊢; omega) | simp_all
    rw [if_neg q2] at hF
    cases hF
    simp -dsimp [h1, q2]
    repeat (refine chk.go (by first | omega | assumption | (simp_all; done) | (simp_all; omega)) ?_; try simp -dsimp [h1, q2])

set_option maxRecDepth 100000 in
set_option maxHeartbeats 400000 in
theorem CC.impl_NameValid_l1 (B : Nat) (hB1 : 67108864 ≤ B) (hB2 : B ≤ 9223372036854775807) (s : ByteArray) : (∀ (i : Nat) (o : Lo Bool Unit), F.impl_NameValid_l1 s i = some o → ∀ (c : Code), navO [1, 1, 0, 1, 0, 0] (bodyOf Try.f108) = some c → ∀ (Q : Exit → ASt → Prop), o.post (fun r => ∀ st, Post Try.prog Try.f108 (fun r' _ => r'.le (.lit (.bool r))) .ret st → Q .ret st) (fun s => Q (.exit 0) ⟨[], []⟩) → ALoopU Try.prog B 0 34 (hold c .mk) ⟨[(0, .lit (.string s)), (3, .lit (.int .i64 (i : Int)))], []⟩ (hold Q .mk)) := by
  refine F.impl_NameValid_l1.partial_correctness s
    (fun i o => ∀ (c : Code), navO [1, 1, 0, 1, 0, 0] (bodyOf Try.f108) = some c → ∀ (Q : Exit → ASt → Prop), o.post (fun r => ∀ st, Post Try.prog Try.f108 (fun r' _ => r'.le (.lit (.bool r))) .ret st → Q .ret st) (fun s => Q (.exit 0) ⟨[], []⟩) → ALoopU Try.prog B 0 34 (hold c .mk) ⟨[(0, .lit (.string s)), (3, .lit (.int .i64 (i : Int)))], []⟩ (hold Q .mk))
    ?_
  · intro _f_impl_NameValid_l1 ih_impl_NameValid_l1 i o hF
    intro c hc Q hq
    obtain rfl : c = _ := navEq hc rfl
    refine ALoopU.know fun hk hs => ?_
    clear hk hs
    refine ALoopU.enter ?_
    simp -dsimp
    repeat (refine chk.go (by first | omega | assumption | (simp_all; done) | (simp_all; omega)) ?_; try simp -dsimp)
    refine abr.split (fun h11 => ?_) (fun h11 => ?_)
    · have q12 : (i < s.size) := by first | exact h11 | omega | (simpa using h11) | (simp at h11 ⊢; omega) | simp_all
      have z13 : ((i : Int) < (s.size : Int)) := by first | omega | simp_all
      rw [if_pos q12] at hF
      simp -dsimp [h11, z13]
      repeat (refine chk.go (by first | omega | assumption | (simp_all; done) | (simp_all; omega)) ?_; try simp -dsimp [h11, z13])
      refine abr.split (fun h14 => ?_) (fun h14 => ?_)
      · have q15 : ¬ (byteAt s i < 97) := by first | exact h14 | omega | (simpa using h14) | (simp at h14 ⊢; omega) | simp_all
        have z16 : ¬ (((byteAt s i : Nat) : Int) < (97 : Int)) := by first | omega | simp_all
        rw [if_neg q15] at hF
        simp -dsimp [h11, z13, h14, q15, z16]
        repeat (refine chk.go (by first | omega | assumption | (simp_all; done) | (simp_all; omega)) ?_; try simp -dsimp [h11, z13, h14, q15, z16])
        refine abr.split (fun h17 => ?_) (fun h17 => ?_)
        · have q18 : (122 < byteAt s i) := by first | exact h17 | omega | (simpa using h17) | (simp at h17 ⊢; omega) | simp_all
          have z19 : ((122 : Int) < ((byteAt s i : Nat) : Int)) := by first | omega | simp_all
          rw [if_pos q18] at hF
          cases hF
          simp -dsimp [h11, z13, h14, q15, z16, h17, z19]
          repeat (refine chk.go (by first | omega | assumption | (simp_all; done) | (simp_all; omega)) ?_; try simp -dsimp [h11, z13, h14, q15, z16, h17, z19])
          refine Leave.go _ (Gh.refl _) (hq _ ?_)
          simp -dsimp [h11, z13, h14, q15, z16, h17, z19]
          repeat (refine chk.go (by first | omega | assumption | (simp_all; done) | (simp_all; omega)) ?_; try simp -dsimp [h11, z13, h14, q15, z16, h17, z19])
        · have q18 : ¬ (122 < byteAt s i) := by first | exact h17 | omega | (simpa using h17) | (simp at h17 ⊢; omega) | simp_all
          have z19 : ¬ ((122 : Int) < ((byteAt s i : Nat) : Int)) := by first | omega | simp_all
          rw [if_neg q18] at hF
          have hF := oc hF; obtain ⟨c20, hF⟩ := hF
          have w21 : IntKind.i64.wrap ((i : Int) + 1) = (i : Int) + 1 := wrap_in (by omega) (by omega)
          simp -dsimp [h11, z13, h14, q15, z16, h17, q18, z19, w21]
          repeat (refine chk.go (by first | omega | assumption | (simp_all; done) | (simp_all; omega)) ?_; try simp -dsimp [h11, z13, h14, q15, z16, h17, q18, z19, w21])
          refine Again.go ⟨[(0, .lit (.string s)), (3, .lit (.int .i64 ((i + 1) : Int)))], []⟩ (Gh.to (by simp) (by first | (simp -dsimp; done) | (simp -dsimp [h11, z13, h14, q15, z16, h17, q18, z19, w21]; done) | simp_all) (by first | (simp -dsimp; done) | (simp -dsimp [h11, z13, h14, q15, z16, h17, q18, z19, w21]; done) | simp_all) (by first | (simp -dsimp; done) | (simp -dsimp [h11, z13, h14, q15, z16, h17, q18, z19, w21]; done) | simp_all)) ?_
          exact (ih_impl_NameValid_l1 (i + 1) o hF) _ rfl _ hq
      · have q15 : (byteAt s i < 97) := by first | exact h14 | omega | (simpa using h14) | (simp at h14 ⊢; omega) | simp_all
        have z16 : (((byteAt s i : Nat) : Int) < (97 : Int)) := by first | omega | simp_all
        rw [if_pos q15] at hF
        cases hF
        simp -dsimp [h11, z13, h14, q15, z16]
        repeat (refine chk.go (by first | omega | assumption | (simp_all; done) | (simp_all; omega)) ?_; try simp -dsimp [h11, z13, h14, q15, z16])
        refine Leave.go _ (Gh.refl _) (hq _ ?_)
        simp -dsimp [h11, z13, h14, q15, z16]
        repeat (refine chk.go (by first | omega | assumption | (simp_all; done) | (simp_all; omega)) ?_; try simp -dsimp [h11, z13, h14, q15, z16])
    · have q12 : ¬ (i < s.size) := by first | exact h11 | omega | (simpa using h11) | (simp at h11 ⊢; omega) | simp_all
      have z13 : ¬ ((i : Int) < (s.size : Int)) := by first | omega | simp_all
      rw [if_neg q12] at hF
      cases hF
      simp -dsimp [h11, q12, z13]
      repeat (refine chk.go (by first | omega | assumption | (simp_all; done) | (simp_all; omega)) ?_; try simp -dsimp [h11, q12, z13])
      refine Leave.go ⟨[], []⟩ (Gh.to (by simp) (by first | (simp -dsimp; done) | (simp -dsimp [h11, q12, z13]; done) | simp_all) (by first | (simp -dsimp; done) | (simp -dsimp [h11, q12, z13]; done) | simp_all) (by first | (simp -dsimp; done) | (simp -dsimp [h11, q12, z13]; done) | simp_all)) ?_
      exact hq

theorem C.impl_NameValid_l1 (B : Nat) (hB1 : 67108864 ≤ B) (hB2 : B ≤ 9223372036854775807) (s : ByteArray) (i : Nat) (o : Lo Bool Unit) (hF : F.impl_NameValid_l1 s i = some o) : ∀ (c : Code), navO [1, 1, 0, 1, 0, 0] (bodyOf Try.f108) = some c → ∀ (Q : Exit → ASt → Prop), o.post (fun r => ∀ st, Post Try.prog Try.f108 (fun r' _ => r'.le (.lit (.bool r))) .ret st → Q .ret st) (fun s => Q (.exit 0) ⟨[], []⟩) → ALoopU Try.prog B 0 34 (hold c .mk) ⟨[(0, .lit (.string s)), (3, .lit (.int .i64 (i : Int)))], []⟩ (hold Q .mk) :=
  (CC.impl_NameValid_l1 B hB1 hB2 s) i o hF

set_option maxRecDepth 100000 in
set_option maxHeartbeats 400000 in
theorem C.impl_NameValid (B : Nat) (hB1 : 67108864 ≤ B) (hB2 : B ≤ 9223372036854775807) (s : ByteArray) (r : Bool) (hF : F.impl_NameValid s = some r) : PureCall Try.prog B 108 [.lit (.string s)] (.lit (.bool r)) := by
  unfold F.impl_NameValid at hF
  refine PureCall.enterLe Try.func108 (by kernel_rfl) rfl Try.ntmps108 (by simp) (by simp) ?_
  simp -dsimp
  repeat (refine chk.go (by first | omega | assumption | (simp_all; done) | (simp_all; omega)) ?_; try simp -dsimp)
  have hF := ob hF; obtain ⟨v, e1, hF⟩ := hF
  refine ((C.impl_within B hB1 hB2 (s.size : Int) (1 : Int) (5 : Int) v e1)).goW (by simp) (by simp) ?_
  simp -dsimp
  repeat (refine chk.go (by first | omega | assumption | (simp_all; done) | (simp_all; omega)) ?_; try simp -dsimp)
  refine abr.split (fun h2 => ?_) (fun h2 => ?_)
  · have q3 : (v = true) := by first | exact h2 | omega | (simpa using h2) | (simp at h2 ⊢; omega) | simp_all
    rw [if_pos q3] at hF
    have hF := oc hF; obtain ⟨c4, hF⟩ := hF
    simp -dsimp [h2]
    repeat (refine chk.go (by first | omega | assumption | (simp_all; done) | (simp_all; omega)) ?_; try simp -dsimp [h2])
    refine abr.split (fun h5 => ?_) (fun h5 => ?_)
    · have q6 : ¬ (byteAt s 0 < 65) := by first | exact h5 | omega | (simpa using h5) | (simp at h5 ⊢; omega) | simp_all
      have z7 : ¬ (((byteAt s 0 : Nat) : Int) < (65 : Int)) := by first | omega | simp_all
      rw [if_neg q6] at hF
      simp -dsimp [h2, h5, q6, z7]
      repeat (refine chk.go (by first | omega | assumption | (simp_all; done) | (simp_all; omega)) ?_; try simp -dsimp [h2, h5, q6, z7])
      refine abr.split (fun h8 => ?_) (fun h8 => ?_)
      · have q9 : (90 < byteAt s 0) := by first | exact h8 | omega | (simpa using h8) | (simp at h8 ⊢; omega) | simp_all
        have z10 : ((90 : Int) < ((byteAt s 0 : Nat) : Int)) := by first | omega | simp_all
        rw [if_pos q9] at hF
        cases hF
        simp -dsimp [h2, h5, q6, z7, h8, z10]
        repeat (refine chk.go (by first | omega | assumption | (simp_all; done) | (simp_all; omega)) ?_; try simp -dsimp [h2, h5, q6, z7, h8, z10])
      · have q9 : ¬ (90 < byteAt s 0) := by first | exact h8 | omega | (simpa using h8) | (simp at h8 ⊢; omega) | simp_all
        have z10 : ¬ ((90 : Int) < ((byteAt s 0 : Nat) : Int)) := by first | omega | simp_all
        rw [if_neg q9] at hF
        simp -dsimp [h2, h5, q6, z7, h8, q9, z10]
        repeat (refine chk.go (by first | omega | assumption | (simp_all; done) | (simp_all; omega)) ?_; try simp -dsimp [h2, h5, q6, z7, h8, q9, z10])
        have hF := ob hF; obtain ⟨o', ho22, hF⟩ := hF
        refine ALoop.goU ⟨[(0, .lit (.string s)), (3, .lit (.int .i64 (1 : Int)))], []⟩ (Gh.to (by simp) (by first | (simp -dsimp; done) | (simp -dsimp [h2, h5, q6, z7, h8, q9, z10]; done) | simp_all) (by first | (simp -dsimp; done) | (simp -dsimp [h2, h5, q6, z7, h8, q9, z10]; done) | simp_all) (by first | (simp -dsimp; done) | (simp -dsimp [h2, h5, q6, z7, h8, q9, z10]; done) | simp_all)) ?_
        refine (C.impl_NameValid_l1 B hB1 hB2 s 1 o' ho22) _ rfl _ ?_
        rcases o' with r0 | s23
        · dsimp only at hF
          cases hF
          intro st h
          simpa using h
        · dsimp only at hF
          cases hF
          simp -dsimp
          repeat (refine chk.go (by first | omega | assumption | (simp_all; done) | (simp_all; omega)) ?_; try simp -dsimp)
    · have q6 : (byteAt s 0 < 65) := by first | exact h5 | omega | (simpa using h5) | (simp at h5 ⊢; omega) | simp_all
      have z7 : (((byteAt s 0 : Nat) : Int) < (65 : Int)) := by first | omega | simp_all
      rw [if_pos q6] at hF
      cases hF
      simp -dsimp [h2, h5, q6, z7]
      repeat (refine chk.go (by first | omega | assumption | (simp_all; done) | (simp_all; omega)) ?_; try simp -dsimp [h2, h5, q6, z7])
  · have q3 : ¬ (v = true) := by first | exact h2 | omega | (simpa using h2) | (simp at h2 ⊢; omega) | simp_all
    rw [if_neg q3] at hF
    cases hF
    simp -dsimp [h2, q3]
    repeat (refine chk.go (by first | omega | assumption | (simp_all; done) | (simp_all; omega)) ?_; try simp -dsimp [h2, q3])

set_option maxRecDepth 100000 in
set_option maxHeartbeats 400000 in
theorem C.impl_argOk (B : Nat) (hB1 : 67108864 ≤ B) (hB2 : B ≤ 9223372036854775807) (w : List Vl.Data) (t : Vl.Ty) (r : Bool) (hF : F.impl_argOk w t = some r) : PureCall Try.prog B 111 [.arr (List.map Vl.Data.c w), .agg [.lit (.int .i64 t.data), .lit (.int .i64 t.index)]] (.lit (.bool r)) := by
  unfold F.impl_argOk at hF
  refine PureCall.enterLe Try.func111 (by kernel_rfl) rfl Try.ntmps111 (by simp) (by simp) ?_
  simp -dsimp
  repeat (refine chk.go (by first | omega | assumption | (simp_all; done) | (simp_all; omega)) ?_; try simp -dsimp)
  refine abr.split (fun h1 => ?_) (fun h1 => ?_)
  · have q2 : ¬ (dec (eq2 (t.data, t.index) ((-1), 0)) = true) := by first | exact h1 | omega | (simpa using h1) | (simp at h1 ⊢; omega) | simp_all
    rw [if_neg q2] at hF
    simp -dsimp [h1, q2]
    repeat (refine chk.go (by first | omega | assumption | (simp_all; done) | (simp_all; omega)) ?_; try simp -dsimp [h1, q2])
    have hF := ob hF; obtain ⟨v, e3, hF⟩ := hF
    refine ((C.impl_within B hB1 hB2 t.data (0 : Int) (IntKind.i64.wrap ((w.length : Int) - 1)) v e3)).goW (by first | (simp; done) | (simp [h1, q2]; done) | simp_all) (by simp) ?_
    simp -dsimp [h1, q2]
    repeat (refine chk.go (by first | omega | assumption | (simp_all; done) | (simp_all; omega)) ?_; try simp -dsimp [h1, q2])
    refine abr.split (fun h4 => ?_) (fun h4 => ?_)
    · have q5 : (v = true) := by first | exact h4 | omega | (simpa using h4) | (simp at h4 ⊢; omega) | simp_all
      rw [if_pos q5] at hF
      simp -dsimp [h1, q2, h4]
      repeat (refine chk.go (by first | omega | assumption | (simp_all; done) | (simp_all; omega)) ?_; try simp -dsimp [h1, q2, h4])
      have hF := ob hF; obtain ⟨v6, e7, hF⟩ := hF
      refine ((C.impl_within B hB1 hB2 t.index (-1 : Int) (3 : Int) v6 e7)).goW (by first | (simp; done) | (simp [h1, q2, h4]; done) | simp_all) (by simp) ?_
      cases hF
      simp -dsimp [h1, q2, h4]
      repeat (refine chk.go (by first | omega | assumption | (simp_all; done) | (simp_all; omega)) ?_; try simp -dsimp [h1, q2, h4])
    · have q5 : ¬ (v = true) := by first | exact h4 | omega | (simpa using h4) | (simp at h4 ⊢; omega) | simp_all
      rw [if_neg q5] at hF
      cases hF
      simp -dsimp [h1, q2, h4, q5]
      repeat (refine chk.go (by first | omega | assumption | (simp_all; done) | (simp_all; omega)) ?_; try simp -dsimp [h1, q2, h4, q5])
  · have q2 : (dec (eq2 (t.data, t.index) ((-1), 0)) = true) := by first | exact h1 | omega | (simpa using h1) | (simp at h1 ⊢; omega) | simp_all
    rw [if_pos q2] at hF
    cases hF
    simp -dsimp [h1, q2]
    repeat (refine chk.go (by first | omega | assumption | (simp_all; done) | (simp_all; omega)) ?_; try simp -dsimp [h1, q2])

set_option maxRecDepth 100000 in
set_option maxHeartbeats 400000 in
theorem C.impl_ctorOk_1 (B : Nat) (hB1 : 67108864 ≤ B) (hB2 : B ≤ 9223372036854775807) (t : Vl.Ty) (a1 : List Vl.Data) (r : Bool) (hF : F.impl_ctorOk_1 t a1 = some r) : PureCall Try.prog B 110 [.agg [.lit (.int .i64 t.data), .lit (.int .i64 t.index)], .rptr [.arr (List.map Vl.Data.c a1)] 0] (.lit (.bool r)) := by
  unfold F.impl_ctorOk_1 at hF
  refine PureCall.enterLe Try.func110 (by kernel_rfl) rfl Try.ntmps110 (by simp) (by simp) ?_
  simp -dsimp
  repeat (refine chk.go (by first | omega | assumption | (simp_all; done) | (simp_all; omega)) ?_; try simp -dsimp)
  have hF := ob hF; obtain ⟨v, e1, hF⟩ := hF
  refine ((C.impl_argOk B hB1 hB2 a1 t v e1)).goW (by simp) (by simp) ?_
  cases hF
  simp -dsimp
  repeat (refine chk.go (by first | omega | assumption | (simp_all; done) | (simp_all; omega)) ?_; try simp -dsimp)

set_option maxRecDepth 100000 in
set_option maxHeartbeats 400000 in
theorem CC.slices_IndexFunc_Type__impl_ctorOk_1_l1 (B : Nat) (hB1 : 67108864 ≤ B) (hB2 : B ≤ 9223372036854775807) (s : List Vl.Ty) (k0 : List Vl.Data) : (∀ (i : Nat) (o : Lo Int Unit), F.slices_IndexFunc_Type__impl_ctorOk_1_l1 s k0 i = some o → ∀ (c : Code), navO [1, 0, 1, 0, 0] (bodyOf Try.f119) = some c → ∀ (Q : Exit → ASt → Prop), o.post (fun r => ∀ st, Post Try.prog Try.f119 (fun r' _ => r'.le (.lit (.int .i64 r))) .ret st → Q .ret st) (fun s => Q (.exit 0) ⟨[], []⟩) → ALoopU Try.prog B 0 19 (hold c .mk) ⟨[(0, .arr (List.map Vl.Ty.c s)), (1, .fn (.func 110) [] [.rptr [.arr (List.map Vl.Data.c k0)] 0]), (7, .lit (.int .i64 (s.length : Int))), (8, .lit (.int .i64 (i : Int)))], []⟩ (hold Q .mk)) := by
  refine F.slices_IndexFunc_Type__impl_ctorOk_1_l1.partial_correctness s k0
    (fun i o => ∀ (c : Code), navO [1, 0, 1, 0, 0] (bodyOf Try.f119) = some c → ∀ (Q : Exit → ASt → Prop), o.post (fun r => ∀ st, Post Try.prog Try.f119 (fun r' _ => r'.le (.lit (.int .i64 r))) .ret st → Q .ret st) (fun s => Q (.exit 0) ⟨[], []⟩) → ALoopU Try.prog B 0 19 (hold c .mk) ⟨[(0, .arr (List.map Vl.Ty.c s)), (1, .fn (.func 110) [] [.rptr [.arr (List.map Vl.Data.c k0)] 0]), (7, .lit (.int .i64 (s.length : Int))), (8, .lit (.int .i64 (i : Int)))], []⟩ (hold Q .mk))
    ?_
  · intro _f_slices_IndexFunc_Type__impl_ctorOk_1_l1 ih_slices_IndexFunc_Type__impl_ctorOk_1_l1 i o hF
    intro c hc Q hq
    obtain rfl : c = _ := navEq hc rfl
    refine ALoopU.know fun hk hs => ?_
    have b0 := hk 0
    simp -dsimp at b0
    clear hk hs
    refine ALoopU.enter ?_
    simp -dsimp
    repeat (refine chk.go (by first | omega | assumption | (simp_all; done) | (simp_all; omega)) ?_; try simp -dsimp)
    refine abr.split (fun h1 => ?_) (fun h1 => ?_)
    · have q2 : (i < s.length) := by first | exact h1 | omega | (simpa using h1) | (simp at h1 ⊢; omega) | simp_all
      have z3 : ((i : Int) < (s.length : Int)) := by first | omega | simp_all
      rw [if_pos q2] at hF
      have hF := ob hF; obtain ⟨x, e4, hF⟩ := hF
      have le4 := lt_of_get e4
      simp -dsimp [h1, z3, ↓e4]
      repeat (refine chk.go (by first | omega | assumption | (simp_all; done) | (simp_all; omega)) ?_; try simp -dsimp [h1, z3, ↓e4])
      have hF := ob hF; obtain ⟨v, e5, hF⟩ := hF
      refine ((C.impl_ctorOk_1 B hB1 hB2 x k0 v e5)).goW (by first | (simp; done) | (simp [h1, z3, ↓e4]; done) | simp_all) (by simp) ?_
      simp -dsimp [h1, z3, ↓e4]
      repeat (refine chk.go (by first | omega | assumption | (simp_all; done) | (simp_all; omega)) ?_; try simp -dsimp [h1, z3, ↓e4])
      refine abr.split (fun h6 => ?_) (fun h6 => ?_)
      · have q7 : (v = true) := by first | exact h6 | omega | (simpa using h6) | (simp at h6 ⊢; omega) | simp_all
        rw [if_pos q7] at hF
        cases hF
        simp -dsimp [h1, z3, ↓e4, h6]
        repeat (refine chk.go (by first | omega | assumption | (simp_all; done) | (simp_all; omega)) ?_; try simp -dsimp [h1, z3, ↓e4, h6])
        refine Leave.go _ (Gh.refl _) (hq _ ?_)
        simp -dsimp [h1, z3, ↓e4, h6]
        repeat (refine chk.go (by first | omega | assumption | (simp_all; done) | (simp_all; omega)) ?_; try simp -dsimp [h1, z3, ↓e4, h6])
      · have q7 : ¬ (v = true) := by first | exact h6 | omega | (simpa using h6) | (simp at h6 ⊢; omega) | simp_all
        rw [if_neg q7] at hF
        have w8 : IntKind.i64.wrap ((i : Int) + 1) = (i : Int) + 1 := wrap_in (by omega) (by omega)
        simp -dsimp [h1, z3, ↓e4, h6, q7, w8]
        repeat (refine chk.go (by first | omega | assumption | (simp_all; done) | (simp_all; omega)) ?_; try simp -dsimp [h1, z3, ↓e4, h6, q7, w8])
        refine Again.go ⟨[(0, .arr (List.map Vl.Ty.c s)), (1, .fn (.func 110) [] [.rptr [.arr (List.map Vl.Data.c k0)] 0]), (7, .lit (.int .i64 (s.length : Int))), (8, .lit (.int .i64 ((i + 1) : Int)))], []⟩ (Gh.to (by simp) (by first | (simp -dsimp; done) | (simp -dsimp [h1, z3, ↓e4, h6, q7, w8]; done) | simp_all) (by first | (simp -dsimp; done) | (simp -dsimp [h1, z3, ↓e4, h6, q7, w8]; done) | simp_all) (by first | (simp -dsimp; done) | (simp -dsimp [h1, z3, ↓e4, h6, q7, w8]; done) | simp_all)) ?_
        exact (ih_slices_IndexFunc_Type__impl_ctorOk_1_l1 (i + 1) o hF) _ rfl _ hq
    · have q2 : ¬ (i < s.length) := by first | exact h1 | omega | (simpa using h1) | (simp at h1 ⊢; omega) | simp_all
      have z3 : ¬ ((i : Int) < (s.length : Int)) := by first | omega | simp_all
      rw [if_neg q2] at hF
      cases hF
      simp -dsimp [h1, q2, z3]
      repeat (refine chk.go (by first | omega | assumption | (simp_all; done) | (simp_all; omega)) ?_; try simp -dsimp [h1, q2, z3])
      refine Leave.go ⟨[], []⟩ (Gh.to (by simp) (by first | (simp -dsimp; done) | (simp -dsimp [h1, q2, z3]; done) | simp_all) (by first | (simp -dsimp; done) | (simp -dsimp [h1, q2, z3]; done) | simp_all) (by first | (simp -dsimp; done) | (simp -dsimp [h1, q2, z3]; done) | simp_all)) ?_
      exact hq

theorem C.slices_IndexFunc_Type__impl_ctorOk_1_l1 (B : Nat) (hB1 : 67108864 ≤ B) (hB2 : B ≤ 9223372036854775807) (s : List Vl.Ty) (k0 : List Vl.Data) (i : Nat) (o : Lo Int Unit) (hF : F.slices_IndexFunc_Type__impl_ctorOk_1_l1 s k0 i = some o) : ∀ (c : Code), navO [1, 0, 1, 0, 0] (bodyOf Try.f119) = some c → ∀ (Q : Exit → ASt → Prop), o.post (fun r => ∀ st, Post Try.prog Try.f119 (fun r' _ => r'.le (.lit (.int .i64 r))) .ret st → Q .ret st) (fun s => Q (.exit 0) ⟨[], []⟩) → ALoopU Try.prog B 0 19 (hold c .mk) ⟨[(0, .arr (List.map Vl.Ty.c s)), (1, .fn (.func 110) [] [.rptr [.arr (List.map Vl.Data.c k0)] 0]), (7, .lit (.int .i64 (s.length : Int))), (8, .lit (.int .i64 (i : Int)))], []⟩ (hold Q .mk) :=
  (CC.slices_IndexFunc_Type__impl_ctorOk_1_l1 B hB1 hB2 s k0) i o hF

set_option maxRecDepth 100000 in
set_option maxHeartbeats 400000 in
theorem C.slices_IndexFunc_Type__impl_ctorOk_1 (B : Nat) (hB1 : 67108864 ≤ B) (hB2 : B ≤ 9223372036854775807) (s : List Vl.Ty) (k0 : List Vl.Data) (r : Int) (hF : F.slices_IndexFunc_Type__impl_ctorOk_1 s k0 = some r) : PureCall Try.prog B 119 [.arr (List.map Vl.Ty.c s), .fn (.func 110) [] [.rptr [.arr (List.map Vl.Data.c k0)] 0]] (.lit (.int .i64 r)) := by
  unfold F.slices_IndexFunc_Type__impl_ctorOk_1 at hF
  refine PureCall.enterLe Try.func119 (by kernel_rfl) rfl Try.ntmps119 (by simp) (by simp) ?_
  simp -dsimp
  repeat (refine chk.go (by first | omega | assumption | (simp_all; done) | (simp_all; omega)) ?_; try simp -dsimp)
  have hF := ob hF; obtain ⟨o', ho9, hF⟩ := hF
  refine ALoop.goU ⟨[(0, .arr (List.map Vl.Ty.c s)), (1, .fn (.func 110) [] [.rptr [.arr (List.map Vl.Data.c k0)] 0]), (7, .lit (.int .i64 (s.length : Int))), (8, .lit (.int .i64 (0 : Int)))], []⟩ (Gh.to (by simp) (by simp -dsimp) (by simp -dsimp) (by simp -dsimp)) ?_
  refine (C.slices_IndexFunc_Type__impl_ctorOk_1_l1 B hB1 hB2 s k0 0 o' ho9) _ rfl _ ?_
  rcases o' with r0 | s10
  · dsimp only at hF
    cases hF
    intro st h
    simpa using h
  · dsimp only at hF
    cases hF
    simp -dsimp
    repeat (refine chk.go (by first | omega | assumption | (simp_all; done) | (simp_all; omega)) ?_; try simp -dsimp)

set_option maxRecDepth 100000 in
set_option maxHeartbeats 400000 in
theorem C.slices_ContainsFunc_Type__impl_ctorOk_1 (B : Nat) (hB1 : 67108864 ≤ B) (hB2 : B ≤ 9223372036854775807) (s : List Vl.Ty) (k0 : List Vl.Data) (r : Bool) (hF : F.slices_ContainsFunc_Type__impl_ctorOk_1 s k0 = some r) : PureCall Try.prog B 109 [.arr (List.map Vl.Ty.c s), .fn (.func 110) [] [.rptr [.arr (List.map Vl.Data.c k0)] 0]] (.lit (.bool r)) := by
  unfold F.slices_ContainsFunc_Type__impl_ctorOk_1 at hF
  refine PureCall.enterLe Try.func109 (by kernel_rfl) rfl Try.ntmps109 (by simp) (by simp) ?_
  simp -dsimp
  repeat (refine chk.go (by first | omega | assumption | (simp_all; done) | (simp_all; omega)) ?_; try simp -dsimp)
  have hF := ob hF; obtain ⟨v, e1, hF⟩ := hF
  refine ((C.slices_IndexFunc_Type__impl_ctorOk_1 B hB1 hB2 s k0 v e1)).goW (by simp) (by simp) ?_
  cases hF
  simp -dsimp
  repeat (refine chk.go (by first | omega | assumption | (simp_all; done) | (simp_all; omega)) ?_; try simp -dsimp)

set_option maxRecDepth 100000 in
set_option maxHeartbeats 400000 in
theorem C.impl_ctorOk (B : Nat) (hB1 : 67108864 ≤ B) (hB2 : B ≤ 9223372036854775807) (w : List Vl.Data) (c' : Vl.Ctor) (r : Bool) (hF : F.impl_ctorOk w c' = some r) : PureCall Try.prog B 86 [.arr (List.map Vl.Data.c w), .agg [.lit (.string c'.name), .arr (List.map Vl.Ty.c c'.args), .lit (.int .i64 c'.index)]] (.lit (.bool r)) := by
  unfold F.impl_ctorOk at hF
  refine PureCall.enterLe Try.func86 (by kernel_rfl) rfl Try.ntmps86 (by simp) (by simp) ?_
  simp -dsimp
  repeat (refine chk.go (by first | omega | assumption | (simp_all; done) | (simp_all; omega)) ?_; try simp -dsimp)
  have hF := ob hF; obtain ⟨v, e1, hF⟩ := hF
  refine ((C.impl_NameValid B hB1 hB2 c'.name v e1)).goW (by simp) (by simp) ?_
  simp -dsimp
  repeat (refine chk.go (by first | omega | assumption | (simp_all; done) | (simp_all; omega)) ?_; try simp -dsimp)
  refine abr.split (fun h2 => ?_) (fun h2 => ?_)
  · have q3 : (v = true) := by first | exact h2 | omega | (simpa using h2) | (simp at h2 ⊢; omega) | simp_all
    rw [if_pos q3] at hF
    simp -dsimp [h2]
    repeat (refine chk.go (by first | omega | assumption | (simp_all; done) | (simp_all; omega)) ?_; try simp -dsimp [h2])
    refine abr.split (fun h4 => ?_) (fun h4 => ?_)
    · have q5 : (c'.args.length ≤ 3) := by first | exact h4 | omega | (simpa using h4) | (simp at h4 ⊢; omega) | simp_all
      have z6 : ((c'.args.length : Int) ≤ (3 : Int)) := by first | omega | simp_all
      rw [if_pos q5] at hF
      simp -dsimp [h2, h4, z6]
      repeat (refine chk.go (by first | omega | assumption | (simp_all; done) | (simp_all; omega)) ?_; try simp -dsimp [h2, h4, z6])
      have hF := ob hF; obtain ⟨v7, e8, hF⟩ := hF
      refine ((C.impl_within B hB1 hB2 c'.index (0 : Int) (3 : Int) v7 e8)).goW (by first | (simp; done) | (simp [h2, h4, z6]; done) | simp_all) (by simp) ?_
      simp -dsimp [h2, h4, z6]
      repeat (refine chk.go (by first | omega | assumption | (simp_all; done) | (simp_all; omega)) ?_; try simp -dsimp [h2, h4, z6])
      refine abr.split (fun h9 => ?_) (fun h9 => ?_)
      · have q10 : (v7 = true) := by first | exact h9 | omega | (simpa using h9) | (simp at h9 ⊢; omega) | simp_all
        rw [if_pos q10] at hF
        simp -dsimp [h2, h4, z6, h9]
        repeat (refine chk.go (by first | omega | assumption | (simp_all; done) | (simp_all; omega)) ?_; try simp -dsimp [h2, h4, z6, h9])
        have hF := ob hF; obtain ⟨v11, e12, hF⟩ := hF
        refine ((C.slices_ContainsFunc_Type__impl_ctorOk_1 B hB1 hB2 c'.args w v11 e12)).lend (by first | (simp -dsimp; done) | (simp -dsimp [h2, h4, z6, h9]; done) | simp_all) (by simp -dsimp) ?_
        cases hF
        simp -dsimp [h2, h4, z6, h9]
        repeat (refine chk.go (by first | omega | assumption | (simp_all; done) | (simp_all; omega)) ?_; try simp -dsimp [h2, h4, z6, h9])
      · have q10 : ¬ (v7 = true) := by first | exact h9 | omega | (simpa using h9) | (simp at h9 ⊢; omega) | simp_all
        rw [if_neg q10] at hF
        cases hF
        simp -dsimp [h2, h4, z6, h9, q10]
        repeat (refine chk.go (by first | omega | assumption | (simp_all; done) | (simp_all; omega)) ?_; try simp -dsimp [h2, h4, z6, h9, q10])
    · have q5 : ¬ (c'.args.length ≤ 3) := by first | exact h4 | omega | (simpa using h4) | (simp at h4 ⊢; omega) | simp_all
      have z6 : ¬ ((c'.args.length : Int) ≤ (3 : Int)) := by first | omega | simp_all
      rw [if_neg q5] at hF
      cases hF
      simp -dsimp [h2, h4, q5, z6]
      repeat (refine chk.go (by first | omega | assumption | (simp_all; done) | (simp_all; omega)) ?_; try simp -dsimp [h2, h4, q5, z6])
  · have q3 : ¬ (v = true) := by first | exact h2 | omega | (simpa using h2) | (simp at h2 ⊢; omega) | simp_all
    rw [if_neg q3] at hF
    cases hF
    simp -dsimp [h2, q3]
    repeat (refine chk.go (by first | omega | assumption | (simp_all; done) | (simp_all; omega)) ?_; try simp -dsimp [h2, q3])

set_option maxRecDepth 100000 in
set_option maxHeartbeats 400000 in
theorem CC.impl_WorldValid_l2 (B : Nat) (hB1 : 67108864 ≤ B) (hB2 : B ≤ 9223372036854775807) (w : List Vl.Data) (met4 : List ByteArray) (i : Nat) (x : Vl.Data) : (∀ (met26 : List ByteArray) (i27 : Nat) (o : Lo Bool (List ByteArray)), F.impl_WorldValid_l2 w met4 i x met26 i27 = some o → ∀ (b1 b2 : Nat), ¬ b1 = b2 → ∀ (c : Code), navO [1, 1, 1, 1, 0, 1, 0, 0, 1, 1, 0, 0, 1, 1, 1, 1, 0, 0] (bodyOf Try.f53) = some c → ∀ (Q : Exit → ASt → Ms → Prop), o.post (fun r => ∀ st, Post Try.prog Try.f53 (fun r' _ => r' = (.lit (.bool r))) .ret st → ∀ ms, Q .ret st ms) (fun s => Q (.exit 2) ⟨[(0, .arr (List.map Vl.Data.c w)), (3, .lit (.map (some b1))), (4, .lit (.map (some b2))), (14, .arr (List.map Vl.Data.c w)), (15, .lit (.int .i64 (w.length : Int))), (16, .lit (.int .i64 (i : Int)))], []⟩ [(b1, s), (b2, msIns met4 x.name)]) → MLoop Try.prog B 79 (hold c .mk) ⟨[(0, .arr (List.map Vl.Data.c w)), (3, .lit (.map (some b1))), (4, .lit (.map (some b2))), (14, .arr (List.map Vl.Data.c w)), (15, .lit (.int .i64 (w.length : Int))), (16, .lit (.int .i64 (i : Int))), (58, .arr (List.map Vl.Ctor.c x.ctors)), (59, .lit (.int .i64 (x.ctors.length : Int))), (60, .lit (.int .i64 (i27 : Int)))], []⟩ [(b1, met26), (b2, msIns met4 x.name)] (hold Q .mk)) := by
  refine F.impl_WorldValid_l2.partial_correctness w met4 i x
    (fun met26 i27 o => ∀ (b1 b2 : Nat), ¬ b1 = b2 → ∀ (c : Code), navO [1, 1, 1, 1, 0, 1, 0, 0, 1, 1, 0, 0, 1, 1, 1, 1, 0, 0] (bodyOf Try.f53) = some c → ∀ (Q : Exit → ASt → Ms → Prop), o.post (fun r => ∀ st, Post Try.prog Try.f53 (fun r' _ => r' = (.lit (.bool r))) .ret st → ∀ ms, Q .ret st ms) (fun s => Q (.exit 2) ⟨[(0, .arr (List.map Vl.Data.c w)), (3, .lit (.map (some b1))), (4, .lit (.map (some b2))), (14, .arr (List.map Vl.Data.c w)), (15, .lit (.int .i64 (w.length : Int))), (16, .lit (.int .i64 (i : Int)))], []⟩ [(b1, s), (b2, msIns met4 x.name)]) → MLoop Try.prog B 79 (hold c .mk) ⟨[(0, .arr (List.map Vl.Data.c w)), (3, .lit (.map (some b1))), (4, .lit (.map (some b2))), (14, .arr (List.map Vl.Data.c w)), (15, .lit (.int .i64 (w.length : Int))), (16, .lit (.int .i64 (i : Int))), (58, .arr (List.map Vl.Ctor.c x.ctors)), (59, .lit (.int .i64 (x.ctors.length : Int))), (60, .lit (.int .i64 (i27 : Int)))], []⟩ [(b1, met26), (b2, msIns met4 x.name)] (hold Q .mk))
    ?_
  · intro _f_impl_WorldValid_l2 ih_impl_WorldValid_l2 met26 i27 o hF
    intro b1 b2 hb2 c hc Q hq
    obtain rfl : c = _ := navEq hc rfl
    refine MLoop.know fun hk hs => ?_
    have b0 := hk 0
    simp -dsimp at b0
    have b14 := hk 14
    simp -dsimp at b14
    have b58 := hk 58
    simp -dsimp at b58
    clear hk hs
    refine MLoop.enter ?_
    simp -dsimp [hb2]
    repeat (refine chk.go (by first | omega | assumption | (simp_all; done) | (simp_all; omega)) ?_; try simp -dsimp [hb2])
    refine abr.split (fun h28 => ?_) (fun h28 => ?_)
    · have q29 : (i27 < x.ctors.length) := by first | exact h28 | omega | (simpa using h28) | (simp at h28 ⊢; omega) | simp_all
      have z30 : ((i27 : Int) < (x.ctors.length : Int)) := by first | omega | simp_all
      rw [if_pos q29] at hF
      have hF := ob hF; obtain ⟨x31, e32, hF⟩ := hF
      have le32 := lt_of_get e32
      simp -dsimp [hb2, h28, z30, ↓e32]
      repeat (refine chk.go (by first | omega | assumption | (simp_all; done) | (simp_all; omega)) ?_; try simp -dsimp [hb2, h28, z30, ↓e32])
      have hF := ob hF; obtain ⟨v33, e34, hF⟩ := hF
      refine ((C.impl_ctorOk B hB1 hB2 w x31 v33 e34)).goW (by first | (simp; done) | (simp [hb2, h28, z30, ↓e32]; done) | simp_all) (by simp) ?_
      simp -dsimp [hb2, h28, z30, ↓e32]
      repeat (refine chk.go (by first | omega | assumption | (simp_all; done) | (simp_all; omega)) ?_; try simp -dsimp [hb2, h28, z30, ↓e32])
      refine abr.split (fun h35 => ?_) (fun h35 => ?_)
      · have q36 : (v33 = true) := by first | exact h35 | omega | (simpa using h35) | (simp at h35 ⊢; omega) | simp_all
        rw [if_pos q36] at hF
        simp -dsimp [hb2, h28, z30, ↓e32, h35]
        repeat (refine chk.go (by first | omega | assumption | (simp_all; done) | (simp_all; omega)) ?_; try simp -dsimp [hb2, h28, z30, ↓e32, h35])
        refine abr.split (fun h37 => ?_) (fun h37 => ?_)
        · have q38 : (dec (x31.name ∈ met26) = true) := by first | exact h37 | omega | (simpa using h37) | (simp at h37 ⊢; omega) | simp_all
          rw [if_pos q38] at hF
          cases hF
          simp -dsimp [hb2, h28, z30, ↓e32, h35, h37]
          repeat (refine chk.go (by first | omega | assumption | (simp_all; done) | (simp_all; omega)) ?_; try simp -dsimp [hb2, h28, z30, ↓e32, h35, h37])
          refine LeaveM.go _ (Gh.refl _) (hq _ ?_ _)
          simp -dsimp [hb2, h28, z30, ↓e32, h35, h37]
          repeat (refine chk.go (by first | omega | assumption | (simp_all; done) | (simp_all; omega)) ?_; try simp -dsimp [hb2, h28, z30, ↓e32, h35, h37])
        · have q38 : ¬ (dec (x31.name ∈ met26) = true) := by first | exact h37 | omega | (simpa using h37) | (simp at h37 ⊢; omega) | simp_all
          rw [if_neg q38] at hF
          have w39 : IntKind.i64.wrap ((i27 : Int) + 1) = (i27 : Int) + 1 := wrap_in (by omega) (by omega)
          simp -dsimp [hb2, h28, z30, ↓e32, h35, h37, q38, w39]
          repeat (refine chk.go (by first | omega | assumption | (simp_all; done) | (simp_all; omega)) ?_; try simp -dsimp [hb2, h28, z30, ↓e32, h35, h37, q38, w39])
          refine AgainM.go ⟨[(0, .arr (List.map Vl.Data.c w)), (3, .lit (.map (some b1))), (4, .lit (.map (some b2))), (14, .arr (List.map Vl.Data.c w)), (15, .lit (.int .i64 (w.length : Int))), (16, .lit (.int .i64 (i : Int))), (58, .arr (List.map Vl.Ctor.c x.ctors)), (59, .lit (.int .i64 (x.ctors.length : Int))), (60, .lit (.int .i64 ((i27 + 1) : Int)))], []⟩ (Gh.to (by simp) (by first | (simp -dsimp; done) | (simp -dsimp [hb2, h28, z30, ↓e32, h35, h37, q38, w39]; done) | simp_all) (by first | (simp -dsimp; done) | (simp -dsimp [hb2, h28, z30, ↓e32, h35, h37, q38, w39]; done) | simp_all) (by first | (simp -dsimp; done) | (simp -dsimp [hb2, h28, z30, ↓e32, h35, h37, q38, w39]; done) | simp_all)) ?_
          exact (ih_impl_WorldValid_l2 (msIns met26 x31.name) (i27 + 1) o hF) b1 b2 hb2 _ rfl _ hq
      · have q36 : ¬ (v33 = true) := by first | exact h35 | omega | (simpa using h35) | (simp at h35 ⊢; omega) | simp_all
        rw [if_neg q36] at hF
        cases hF
        simp -dsimp [hb2, h28, z30, ↓e32, h35, q36]
        repeat (refine chk.go (by first | omega | assumption | (simp_all; done) | (simp_all; omega)) ?_; try simp -dsimp [hb2, h28, z30, ↓e32, h35, q36])
        refine LeaveM.go _ (Gh.refl _) (hq _ ?_ _)
        simp -dsimp [hb2, h28, z30, ↓e32, h35, q36]
        repeat (refine chk.go (by first | omega | assumption | (simp_all; done) | (simp_all; omega)) ?_; try simp -dsimp [hb2, h28, z30, ↓e32, h35, q36])
    · have q29 : ¬ (i27 < x.ctors.length) := by first | exact h28 | omega | (simpa using h28) | (simp at h28 ⊢; omega) | simp_all
      have z30 : ¬ ((i27 : Int) < (x.ctors.length : Int)) := by first | omega | simp_all
      rw [if_neg q29] at hF
      cases hF
      simp -dsimp [hb2, h28, q29, z30]
      repeat (refine chk.go (by first | omega | assumption | (simp_all; done) | (simp_all; omega)) ?_; try simp -dsimp [hb2, h28, q29, z30])
      refine LeaveM.go ⟨[(0, .arr (List.map Vl.Data.c w)), (3, .lit (.map (some b1))), (4, .lit (.map (some b2))), (14, .arr (List.map Vl.Data.c w)), (15, .lit (.int .i64 (w.length : Int))), (16, .lit (.int .i64 (i : Int)))], []⟩ (Gh.to (by simp) (by first | (simp -dsimp; done) | (simp -dsimp [hb2, h28, q29, z30]; done) | simp_all) (by first | (simp -dsimp; done) | (simp -dsimp [hb2, h28, q29, z30]; done) | simp_all) (by first | (simp -dsimp; done) | (simp -dsimp [hb2, h28, q29, z30]; done) | simp_all)) ?_
      exact hq

theorem C.impl_WorldValid_l2 (B : Nat) (hB1 : 67108864 ≤ B) (hB2 : B ≤ 9223372036854775807) (w : List Vl.Data) (met4 : List ByteArray) (i : Nat) (x : Vl.Data) (met26 : List ByteArray) (i27 : Nat) (o : Lo Bool (List ByteArray)) (hF : F.impl_WorldValid_l2 w met4 i x met26 i27 = some o) : ∀ (b1 b2 : Nat), ¬ b1 = b2 → ∀ (c : Code), navO [1, 1, 1, 1, 0, 1, 0, 0, 1, 1, 0, 0, 1, 1, 1, 1, 0, 0] (bodyOf Try.f53) = some c → ∀ (Q : Exit → ASt → Ms → Prop), o.post (fun r => ∀ st, Post Try.prog Try.f53 (fun r' _ => r' = (.lit (.bool r))) .ret st → ∀ ms, Q .ret st ms) (fun s => Q (.exit 2) ⟨[(0, .arr (List.map Vl.Data.c w)), (3, .lit (.map (some b1))), (4, .lit (.map (some b2))), (14, .arr (List.map Vl.Data.c w)), (15, .lit (.int .i64 (w.length : Int))), (16, .lit (.int .i64 (i : Int)))], []⟩ [(b1, s), (b2, msIns met4 x.name)]) → MLoop Try.prog B 79 (hold c .mk) ⟨[(0, .arr (List.map Vl.Data.c w)), (3, .lit (.map (some b1))), (4, .lit (.map (some b2))), (14, .arr (List.map Vl.Data.c w)), (15, .lit (.int .i64 (w.length : Int))), (16, .lit (.int .i64 (i : Int))), (58, .arr (List.map Vl.Ctor.c x.ctors)), (59, .lit (.int .i64 (x.ctors.length : Int))), (60, .lit (.int .i64 (i27 : Int)))], []⟩ [(b1, met26), (b2, msIns met4 x.name)] (hold Q .mk) :=
  (CC.impl_WorldValid_l2 B hB1 hB2 w met4 i x) met26 i27 o hF

set_option maxRecDepth 100000 in
set_option maxHeartbeats 400000 in
theorem CC.impl_WorldValid_l1 (B : Nat) (hB1 : 67108864 ≤ B) (hB2 : B ≤ 9223372036854775807) (w : List Vl.Data) : (∀ (met : List ByteArray) (met4 : List ByteArray) (i : Nat) (o : Lo Bool ((List ByteArray) × (List ByteArray))), F.impl_WorldValid_l1 w met met4 i = some o → ∀ (b1 b2 : Nat), ¬ b1 = b2 → ∀ (c : Code), navO [1, 1, 1, 1, 0, 1, 0, 0] (bodyOf Try.f53) = some c → ∀ (Q : Exit → ASt → Ms → Prop), o.post (fun r => ∀ st, Post Try.prog Try.f53 (fun r' _ => r' = (.lit (.bool r))) .ret st → ∀ ms, Q .ret st ms) (fun s => Q (.exit 0) ⟨[], []⟩ [(b1, s.1), (b2, s.2)]) → MLoop Try.prog B 79 (hold c .mk) ⟨[(0, .arr (List.map Vl.Data.c w)), (3, .lit (.map (some b1))), (4, .lit (.map (some b2))), (14, .arr (List.map Vl.Data.c w)), (15, .lit (.int .i64 (w.length : Int))), (16, .lit (.int .i64 (i : Int)))], []⟩ [(b1, met), (b2, met4)] (hold Q .mk)) := by
  refine F.impl_WorldValid_l1.partial_correctness w
    (fun met met4 i o => ∀ (b1 b2 : Nat), ¬ b1 = b2 → ∀ (c : Code), navO [1, 1, 1, 1, 0, 1, 0, 0] (bodyOf Try.f53) = some c → ∀ (Q : Exit → ASt → Ms → Prop), o.post (fun r => ∀ st, Post Try.prog Try.f53 (fun r' _ => r' = (.lit (.bool r))) .ret st → ∀ ms, Q .ret st ms) (fun s => Q (.exit 0) ⟨[], []⟩ [(b1, s.1), (b2, s.2)]) → MLoop Try.prog B 79 (hold c .mk) ⟨[(0, .arr (List.map Vl.Data.c w)), (3, .lit (.map (some b1))), (4, .lit (.map (some b2))), (14, .arr (List.map Vl.Data.c w)), (15, .lit (.int .i64 (w.length : Int))), (16, .lit (.int .i64 (i : Int)))], []⟩ [(b1, met), (b2, met4)] (hold Q .mk))
    ?_
  · intro _f_impl_WorldValid_l1 ih_impl_WorldValid_l1 met met4 i o hF
    intro b1 b2 hb2 c hc Q hq
    obtain rfl : c = _ := navEq hc rfl
    refine MLoop.know fun hk hs => ?_
    have b0 := hk 0
    simp -dsimp at b0
    have b14 := hk 14
    simp -dsimp at b14
    clear hk hs
    refine MLoop.enter ?_
    simp -dsimp [hb2]
    repeat (refine chk.go (by first | omega | assumption | (simp_all; done) | (simp_all; omega)) ?_; try simp -dsimp [hb2])
    refine abr.split (fun h5 => ?_) (fun h5 => ?_)
    · have q6 : (i < w.length) := by first | exact h5 | omega | (simpa using h5) | (simp at h5 ⊢; omega) | simp_all
      have z7 : ((i : Int) < (w.length : Int)) := by first | omega | simp_all
      rw [if_pos q6] at hF
      have hF := ob hF; obtain ⟨x, e8, hF⟩ := hF
      have le8 := lt_of_get e8
      simp -dsimp [hb2, h5, z7, ↓e8]
      repeat (refine chk.go (by first | omega | assumption | (simp_all; done) | (simp_all; omega)) ?_; try simp -dsimp [hb2, h5, z7, ↓e8])
      refine abr.split (fun h9 => ?_) (fun h9 => ?_)
      · have q10 : (x.name.size = 1) := by first | exact h9 | omega | (simpa using h9) | (simp at h9 ⊢; omega) | simp_all
        have z11 : ((x.name.size : Int) = (1 : Int)) := by first | omega | simp_all
        rw [if_pos q10] at hF
        have hF := oc hF; obtain ⟨c12, hF⟩ := hF
        simp -dsimp [hb2, h5, z7, ↓e8, h9, z11]
        repeat (refine chk.go (by first | omega | assumption | (simp_all; done) | (simp_all; omega)) ?_; try simp -dsimp [hb2, h5, z7, ↓e8, h9, z11])
        refine abr.split (fun h13 => ?_) (fun h13 => ?_)
        · have q14 : ¬ (byteAt x.name 0 < 65) := by first | exact h13 | omega | (simpa using h13) | (simp at h13 ⊢; omega) | simp_all
          have z15 : ¬ (((byteAt x.name 0 : Nat) : Int) < (65 : Int)) := by first | omega | simp_all
          rw [if_neg q14] at hF
          simp -dsimp [hb2, h5, z7, ↓e8, h9, z11, h13, q14, z15]
          repeat (refine chk.go (by first | omega | assumption | (simp_all; done) | (simp_all; omega)) ?_; try simp -dsimp [hb2, h5, z7, ↓e8, h9, z11, h13, q14, z15])
          refine abr.split (fun h16 => ?_) (fun h16 => ?_)
          · have q17 : ¬ (90 < byteAt x.name 0) := by first | exact h16 | omega | (simpa using h16) | (simp at h16 ⊢; omega) | simp_all
            have z18 : ¬ ((90 : Int) < ((byteAt x.name 0 : Nat) : Int)) := by first | omega | simp_all
            rw [if_neg q17] at hF
            simp -dsimp [hb2, h5, z7, ↓e8, h9, z11, h13, q14, z15, h16, q17, z18]
            repeat (refine chk.go (by first | omega | assumption | (simp_all; done) | (simp_all; omega)) ?_; try simp -dsimp [hb2, h5, z7, ↓e8, h9, z11, h13, q14, z15, h16, q17, z18])
            refine abr.split (fun h19 => ?_) (fun h19 => ?_)
            · have q20 : ¬ (x.name.toList = (⟨#[73]⟩ : ByteArray).toList) := by first | exact h19 | omega | (simpa using h19) | (simp at h19 ⊢; omega) | simp_all
              rw [if_neg q20] at hF
              simp -dsimp [hb2, h5, z7, ↓e8, h9, z11, h13, q14, z15, h16, q17, z18, h19, q20]
              repeat (refine chk.go (by first | omega | assumption | (simp_all; done) | (simp_all; omega)) ?_; try simp -dsimp [hb2, h5, z7, ↓e8, h9, z11, h13, q14, z15, h16, q17, z18, h19, q20])
              refine abr.split (fun h21 => ?_) (fun h21 => ?_)
              · have q22 : ¬ (dec (x.name ∈ met4) = true) := by first | exact h21 | omega | (simpa using h21) | (simp at h21 ⊢; omega) | simp_all
                rw [if_neg q22] at hF
                simp -dsimp [hb2, h5, z7, ↓e8, h9, z11, h13, q14, z15, h16, q17, z18, h19, q20, h21, q22]
                repeat (refine chk.go (by first | omega | assumption | (simp_all; done) | (simp_all; omega)) ?_; try simp -dsimp [hb2, h5, z7, ↓e8, h9, z11, h13, q14, z15, h16, q17, z18, h19, q20, h21, q22])
                have hF := ob hF; obtain ⟨v, e23, hF⟩ := hF
                refine ((C.impl_within B hB1 hB2 (x.ctors.length : Int) (1 : Int) (4 : Int) v e23)).goW (by first | (simp; done) | (simp [hb2, h5, z7, ↓e8, h9, z11, h13, q14, z15, h16, q17, z18, h19, q20, h21, q22]; done) | simp_all) (by simp) ?_
                simp -dsimp [hb2, h5, z7, ↓e8, h9, z11, h13, q14, z15, h16, q17, z18, h19, q20, h21, q22]
                repeat (refine chk.go (by first | omega | assumption | (simp_all; done) | (simp_all; omega)) ?_; try simp -dsimp [hb2, h5, z7, ↓e8, h9, z11, h13, q14, z15, h16, q17, z18, h19, q20, h21, q22])
                refine abr.split (fun h24 => ?_) (fun h24 => ?_)
                · have q25 : ¬ (v = true) := by first | exact h24 | omega | (simpa using h24) | (simp at h24 ⊢; omega) | simp_all
                  rw [if_neg q25] at hF
                  cases hF
                  simp -dsimp [hb2, h5, z7, ↓e8, h9, z11, h13, q14, z15, h16, q17, z18, h19, q20, h21, q22, h24, q25]
                  repeat (refine chk.go (by first | omega | assumption | (simp_all; done) | (simp_all; omega)) ?_; try simp -dsimp [hb2, h5, z7, ↓e8, h9, z11, h13, q14, z15, h16, q17, z18, h19, q20, h21, q22, h24, q25])
                  refine LeaveM.go _ (Gh.refl _) (hq _ ?_ _)
                  simp -dsimp [hb2, h5, z7, ↓e8, h9, z11, h13, q14, z15, h16, q17, z18, h19, q20, h21, q22, h24, q25]
                  repeat (refine chk.go (by first | omega | assumption | (simp_all; done) | (simp_all; omega)) ?_; try simp -dsimp [hb2, h5, z7, ↓e8, h9, z11, h13, q14, z15, h16, q17, z18, h19, q20, h21, q22, h24, q25])
                · have q25 : (v = true) := by first | exact h24 | omega | (simpa using h24) | (simp at h24 ⊢; omega) | simp_all
                  rw [if_pos q25] at hF
                  simp -dsimp [hb2, h5, z7, ↓e8, h9, z11, h13, q14, z15, h16, q17, z18, h19, q20, h21, q22, h24, q25]
                  repeat (refine chk.go (by first | omega | assumption | (simp_all; done) | (simp_all; omega)) ?_; try simp -dsimp [hb2, h5, z7, ↓e8, h9, z11, h13, q14, z15, h16, q17, z18, h19, q20, h21, q22, h24, q25])
                  have hF := ob hF; obtain ⟨o', ho40, hF⟩ := hF
                  refine MLoop.goU ⟨[(0, .arr (List.map Vl.Data.c w)), (3, .lit (.map (some b1))), (4, .lit (.map (some b2))), (14, .arr (List.map Vl.Data.c w)), (15, .lit (.int .i64 (w.length : Int))), (16, .lit (.int .i64 (i : Int))), (58, .arr (List.map Vl.Ctor.c x.ctors)), (59, .lit (.int .i64 (x.ctors.length : Int))), (60, .lit (.int .i64 (0 : Int)))], []⟩ (Gh.to (by simp) (by first | (simp -dsimp; done) | (simp -dsimp [hb2, h5, z7, ↓e8, h9, z11, h13, q14, z15, h16, q17, z18, h19, q20, h21, q22, h24, q25]; done) | simp_all) (by first | (simp -dsimp; done) | (simp -dsimp [hb2, h5, z7, ↓e8, h9, z11, h13, q14, z15, h16, q17, z18, h19, q20, h21, q22, h24, q25]; done) | simp_all) (by first | (simp -dsimp; done) | (simp -dsimp [hb2, h5, z7, ↓e8, h9, z11, h13, q14, z15, h16, q17, z18, h19, q20, h21, q22, h24, q25]; done) | simp_all)) ?_
                  refine (C.impl_WorldValid_l2 B hB1 hB2 w met4 i x met 0 o' ho40) b1 b2 hb2 _ rfl _ ?_
                  rcases o' with r0 | s
                  · dsimp only at hF
                    cases hF
                    intro st h ms
                    simp -dsimp
                    refine LeaveM.go st (Gh.refl _) (hq st h ms)
                  · dsimp only at hF
                    have hF := oc hF; obtain ⟨c41, hF⟩ := hF
                    have w42 : IntKind.i64.wrap ((i : Int) + 1) = (i : Int) + 1 := wrap_in (by omega) (by omega)
                    simp -dsimp [w42]
                    repeat (refine chk.go (by first | omega | assumption | (simp_all; done) | (simp_all; omega)) ?_; try simp -dsimp [w42])
                    refine AgainM.go ⟨[(0, .arr (List.map Vl.Data.c w)), (3, .lit (.map (some b1))), (4, .lit (.map (some b2))), (14, .arr (List.map Vl.Data.c w)), (15, .lit (.int .i64 (w.length : Int))), (16, .lit (.int .i64 ((i + 1) : Int)))], []⟩ (Gh.to (by simp) (by first | (simp -dsimp; done) | (simp -dsimp [w42]; done) | simp_all) (by first | (simp -dsimp; done) | (simp -dsimp [w42]; done) | simp_all) (by first | (simp -dsimp; done) | (simp -dsimp [w42]; done) | simp_all)) ?_
                    exact (ih_impl_WorldValid_l1 s (msIns met4 x.name) (i + 1) o hF) b1 b2 hb2 _ rfl _ hq
              · have q22 : (dec (x.name ∈ met4) = true) := by first | exact h21 | omega | (simpa using h21) | (simp at h21 ⊢; omega) | simp_all
                rw [if_pos q22] at hF
                cases hF
                simp -dsimp [hb2, h5, z7, ↓e8, h9, z11, h13, q14, z15, h16, q17, z18, h19, q20, h21, q22]
                repeat (refine chk.go (by first | omega | assumption | (simp_all; done) | (simp_all; omega)) ?_; try simp -dsimp [hb2, h5, z7, ↓e8, h9, z11, h13, q14, z15, h16, q17, z18, h19, q20, h21, q22])
                refine LeaveM.go _ (Gh.refl _) (hq _ ?_ _)
                simp -dsimp [hb2, h5, z7, ↓e8, h9, z11, h13, q14, z15, h16, q17, z18, h19, q20, h21, q22]
                repeat (refine chk.go (by first | omega | assumption | (simp_all; done) | (simp_all; omega)) ?_; try simp -dsimp [hb2, h5, z7, ↓e8, h9, z11, h13, q14, z15, h16, q17, z18, h19, q20, h21, q22])
            · have q20 : (x.name.toList = (⟨#[73]⟩ : ByteArray).toList) := by first | exact h19 | omega | (simpa using h19) | (simp at h19 ⊢; omega) | simp_all
              rw [if_pos q20] at hF
              cases hF
              simp -dsimp [hb2, h5, z7, ↓e8, h9, z11, h13, q14, z15, h16, q17, z18, h19, q20]
              repeat (refine chk.go (by first | omega | assumption | (simp_all; done) | (simp_all; omega)) ?_; try simp -dsimp [hb2, h5, z7, ↓e8, h9, z11, h13, q14, z15, h16, q17, z18, h19, q20])
              refine LeaveM.go _ (Gh.refl _) (hq _ ?_ _)
              simp -dsimp [hb2, h5, z7, ↓e8, h9, z11, h13, q14, z15, h16, q17, z18, h19, q20]
              repeat (refine chk.go (by first | omega | assumption | (simp_all; done) | (simp_all; omega)) ?_; try simp -dsimp [hb2, h5, z7, ↓e8, h9, z11, h13, q14, z15, h16, q17, z18, h19, q20])
          · have q17 : (90 < byteAt x.name 0) := by first | exact h16 | omega | (simpa using h16) | (simp at h16 ⊢; omega) | simp_all
            have z18 : ((90 : Int) < ((byteAt x.name 0 : Nat) : Int)) := by first | omega | simp_all
            rw [if_pos q17] at hF
            cases hF
            simp -dsimp [hb2, h5, z7, ↓e8, h9, z11, h13, q14, z15, h16, q17, z18]
            repeat (refine chk.go (by first | omega | assumption | (simp_all; done) | (simp_all; omega)) ?_; try simp -dsimp [hb2, h5, z7, ↓e8, h9, z11, h13, q14, z15, h16, q17, z18])
            refine LeaveM.go _ (Gh.refl _) (hq _ ?_ _)
            simp -dsimp [hb2, h5, z7, ↓e8, h9, z11, h13, q14, z15, h16, q17, z18]
            repeat (refine chk.go (by first | omega | assumption | (simp_all; done) | (simp_all; omega)) ?_; try simp -dsimp [hb2, h5, z7, ↓e8, h9, z11, h13, q14, z15, h16, q17, z18])
        · have q14 : (byteAt x.name 0 < 65) := by first | exact h13 | omega | (simpa using h13) | (simp at h13 ⊢; omega) | simp_all
          have z15 : (((byteAt x.name 0 : Nat) : Int) < (65 : Int)) := by first | omega | simp_all
          rw [if_pos q14] at hF
          cases hF
          simp -dsimp [hb2, h5, z7, ↓e8, h9, z11, h13, q14, z15]
          repeat (refine chk.go (by first | omega | assumption | (simp_all; done) | (simp_all; omega)) ?_; try simp -dsimp [hb2, h5, z7, ↓e8, h9, z11, h13, q14, z15])
          refine LeaveM.go _ (Gh.refl _) (hq _ ?_ _)
          simp -dsimp [hb2, h5, z7, ↓e8, h9, z11, h13, q14, z15]
          repeat (refine chk.go (by first | omega | assumption | (simp_all; done) | (simp_all; omega)) ?_; try simp -dsimp [hb2, h5, z7, ↓e8, h9, z11, h13, q14, z15])
      · have q10 : ¬ (x.name.size = 1) := by first | exact h9 | omega | (simpa using h9) | (simp at h9 ⊢; omega) | simp_all
        have z11 : ¬ ((x.name.size : Int) = (1 : Int)) := by first | omega | simp_all
        rw [if_neg q10] at hF
        cases hF
        simp -dsimp [hb2, h5, z7, ↓e8, h9, q10, z11]
        repeat (refine chk.go (by first | omega | assumption | (simp_all; done) | (simp_all; omega)) ?_; try simp -dsimp [hb2, h5, z7, ↓e8, h9, q10, z11])
        refine LeaveM.go _ (Gh.refl _) (hq _ ?_ _)
        simp -dsimp [hb2, h5, z7, ↓e8, h9, q10, z11]
        repeat (refine chk.go (by first | omega | assumption | (simp_all; done) | (simp_all; omega)) ?_; try simp -dsimp [hb2, h5, z7, ↓e8, h9, q10, z11])
    · have q6 : ¬ (i < w.length) := by first | exact h5 | omega | (simpa using h5) | (simp at h5 ⊢; omega) | simp_all
      have z7 : ¬ ((i : Int) < (w.length : Int)) := by first | omega | simp_all
      rw [if_neg q6] at hF
      cases hF
      simp -dsimp [hb2, h5, q6, z7]
      repeat (refine chk.go (by first | omega | assumption | (simp_all; done) | (simp_all; omega)) ?_; try simp -dsimp [hb2, h5, q6, z7])
      refine LeaveM.go ⟨[], []⟩ (Gh.to (by simp) (by first | (simp -dsimp; done) | (simp -dsimp [hb2, h5, q6, z7]; done) | simp_all) (by first | (simp -dsimp; done) | (simp -dsimp [hb2, h5, q6, z7]; done) | simp_all) (by first | (simp -dsimp; done) | (simp -dsimp [hb2, h5, q6, z7]; done) | simp_all)) ?_
      exact hq

theorem C.impl_WorldValid_l1 (B : Nat) (hB1 : 67108864 ≤ B) (hB2 : B ≤ 9223372036854775807) (w : List Vl.Data) (met : List ByteArray) (met4 : List ByteArray) (i : Nat) (o : Lo Bool ((List ByteArray) × (List ByteArray))) (hF : F.impl_WorldValid_l1 w met met4 i = some o) : ∀ (b1 b2 : Nat), ¬ b1 = b2 → ∀ (c : Code), navO [1, 1, 1, 1, 0, 1, 0, 0] (bodyOf Try.f53) = some c → ∀ (Q : Exit → ASt → Ms → Prop), o.post (fun r => ∀ st, Post Try.prog Try.f53 (fun r' _ => r' = (.lit (.bool r))) .ret st → ∀ ms, Q .ret st ms) (fun s => Q (.exit 0) ⟨[], []⟩ [(b1, s.1), (b2, s.2)]) → MLoop Try.prog B 79 (hold c .mk) ⟨[(0, .arr (List.map Vl.Data.c w)), (3, .lit (.map (some b1))), (4, .lit (.map (some b2))), (14, .arr (List.map Vl.Data.c w)), (15, .lit (.int .i64 (w.length : Int))), (16, .lit (.int .i64 (i : Int)))], []⟩ [(b1, met), (b2, met4)] (hold Q .mk) :=
  (CC.impl_WorldValid_l1 B hB1 hB2 w) met met4 i o hF

set_option maxRecDepth 100000 in
set_option maxHeartbeats 400000 in
theorem C.impl_WorldValid (B : Nat) (hB1 : 67108864 ≤ B) (hB2 : B ≤ 9223372036854775807) (w : List Vl.Data) (r : Bool) (hF : F.impl_WorldValid w = some r) : PureCall Try.prog B 53 [.arr (List.map Vl.Data.c w)] (.lit (.bool r)) := by
  unfold F.impl_WorldValid at hF
  refine PureCall.enterM Try.func53 (by kernel_rfl) rfl Try.ntmps53 (by simp) ?_
  simp -dsimp
  repeat (refine chk.go (by first | omega | assumption | (simp_all; done) | (simp_all; omega)) ?_; try simp -dsimp)
  refine abr.split (fun h1 => ?_) (fun h1 => ?_)
  · have q2 : (4 < w.length) := by first | exact h1 | omega | (simpa using h1) | (simp at h1 ⊢; omega) | simp_all
    have z3 : ((4 : Int) < (w.length : Int)) := by first | omega | simp_all
    rw [if_pos q2] at hF
    cases hF
    simp -dsimp [h1, z3]
    repeat (refine chk.go (by first | omega | assumption | (simp_all; done) | (simp_all; omega)) ?_; try simp -dsimp [h1, z3])
  · have q2 : ¬ (4 < w.length) := by first | exact h1 | omega | (simpa using h1) | (simp at h1 ⊢; omega) | simp_all
    have z3 : ¬ ((4 : Int) < (w.length : Int)) := by first | omega | simp_all
    rw [if_neg q2] at hF
    simp -dsimp [h1, q2, z3]
    repeat (refine chk.go (by first | omega | assumption | (simp_all; done) | (simp_all; omega)) ?_; try simp -dsimp [h1, q2, z3])
    refine AMake.go fun b1 hb1 => ?_
    simp -dsimp [h1, q2, z3]
    repeat (refine chk.go (by first | omega | assumption | (simp_all; done) | (simp_all; omega)) ?_; try simp -dsimp [h1, q2, z3])
    refine AMake.go fun b2 hb2 => ?_
    simp at hb2
    simp -dsimp [h1, q2, z3, hb2]
    repeat (refine chk.go (by first | omega | assumption | (simp_all; done) | (simp_all; omega)) ?_; try simp -dsimp [h1, q2, z3, hb2])
    have hF := ob hF; obtain ⟨o'44, ho43, hF⟩ := hF
    refine MLoop.goU ⟨[(0, .arr (List.map Vl.Data.c w)), (3, .lit (.map (some b1))), (4, .lit (.map (some b2))), (14, .arr (List.map Vl.Data.c w)), (15, .lit (.int .i64 (w.length : Int))), (16, .lit (.int .i64 (0 : Int)))], []⟩ (Gh.to (by simp) (by first | (simp -dsimp; done) | (simp -dsimp [h1, q2, z3, hb2]; done) | simp_all) (by first | (simp -dsimp; done) | (simp -dsimp [h1, q2, z3, hb2]; done) | simp_all) (by first | (simp -dsimp; done) | (simp -dsimp [h1, q2, z3, hb2]; done) | simp_all)) ?_
    refine (C.impl_WorldValid_l1 B hB1 hB2 w [] [] 0 o'44 ho43) b1 b2 hb2 _ rfl _ ?_
    rcases o'44 with r046 | s45
    · dsimp only at hF
      cases hF
      intro st h ms
      simpa using h
    · dsimp only at hF
      cases hF
      simp -dsimp
      repeat (refine chk.go (by first | omega | assumption | (simp_all; done) | (simp_all; omega)) ?_; try simp -dsimp)

set_option maxRecDepth 100000 in
set_option maxHeartbeats 400000 in
theorem C.impl_typeOk (B : Nat) (hB1 : 67108864 ≤ B) (hB2 : B ≤ 9223372036854775807) (w : List Vl.Data) (t : Vl.Ty) (r : Bool) (hF : F.impl_typeOk w t = some r) : PureCall Try.prog B 54 [.arr (List.map Vl.Data.c w), .agg [.lit (.int .i64 t.data), .lit (.int .i64 t.index)]] (.lit (.bool r)) := by
  unfold F.impl_typeOk at hF
  refine PureCall.enterLe Try.func54 (by kernel_rfl) rfl Try.ntmps54 (by simp) (by simp) ?_
  simp -dsimp
  repeat (refine chk.go (by first | omega | assumption | (simp_all; done) | (simp_all; omega)) ?_; try simp -dsimp)
  refine abr.split (fun h1 => ?_) (fun h1 => ?_)
  · have q2 : ¬ (dec (eq2 (t.data, t.index) ((-1), 0)) = true) := by first | exact h1 | omega | (simpa using h1) | (simp at h1 ⊢; omega) | simp_all
    rw [if_neg q2] at hF
    simp -dsimp [h1, q2]
    repeat (refine chk.go (by first | omega | assumption | (simp_all; done) | (simp_all; omega)) ?_; try simp -dsimp [h1, q2])
    have hF := ob hF; obtain ⟨v, e3, hF⟩ := hF
    refine ((C.impl_within B hB1 hB2 t.data (0 : Int) (IntKind.i64.wrap ((w.length : Int) - 1)) v e3)).goW (by first | (simp; done) | (simp [h1, q2]; done) | simp_all) (by simp) ?_
    simp -dsimp [h1, q2]
    repeat (refine chk.go (by first | omega | assumption | (simp_all; done) | (simp_all; omega)) ?_; try simp -dsimp [h1, q2])
    refine abr.split (fun h4 => ?_) (fun h4 => ?_)
    · have q5 : (v = true) := by first | exact h4 | omega | (simpa using h4) | (simp at h4 ⊢; omega) | simp_all
      rw [if_pos q5] at hF
      simp -dsimp [h1, q2, h4]
      repeat (refine chk.go (by first | omega | assumption | (simp_all; done) | (simp_all; omega)) ?_; try simp -dsimp [h1, q2, h4])
      have hF := ob hF; obtain ⟨v6, e7, hF⟩ := hF
      refine ((C.impl_within B hB1 hB2 t.index (0 : Int) (3 : Int) v6 e7)).goW (by first | (simp; done) | (simp [h1, q2, h4]; done) | simp_all) (by simp) ?_
      cases hF
      simp -dsimp [h1, q2, h4]
      repeat (refine chk.go (by first | omega | assumption | (simp_all; done) | (simp_all; omega)) ?_; try simp -dsimp [h1, q2, h4])
    · have q5 : ¬ (v = true) := by first | exact h4 | omega | (simpa using h4) | (simp at h4 ⊢; omega) | simp_all
      rw [if_neg q5] at hF
      cases hF
      simp -dsimp [h1, q2, h4, q5]
      repeat (refine chk.go (by first | omega | assumption | (simp_all; done) | (simp_all; omega)) ?_; try simp -dsimp [h1, q2, h4, q5])
  · have q2 : (dec (eq2 (t.data, t.index) ((-1), 0)) = true) := by first | exact h1 | omega | (simpa using h1) | (simp at h1 ⊢; omega) | simp_all
    rw [if_pos q2] at hF
    cases hF
    simp -dsimp [h1, q2]
    repeat (refine chk.go (by first | omega | assumption | (simp_all; done) | (simp_all; omega)) ?_; try simp -dsimp [h1, q2])

set_option maxRecDepth 100000 in
set_option maxHeartbeats 400000 in
theorem C.impl_TypeValid (B : Nat) (hB1 : 67108864 ≤ B) (hB2 : B ≤ 9223372036854775807) (w : List Vl.Data) (t : Vl.Ty) (r : Bool) (hF : F.impl_TypeValid w t = some r) : PureCall Try.prog B 30 [.arr (List.map Vl.Data.c w), .agg [.lit (.int .i64 t.data), .lit (.int .i64 t.index)]] (.lit (.bool r)) := by
  unfold F.impl_TypeValid at hF
  refine PureCall.enterLe Try.func30 (by kernel_rfl) rfl Try.ntmps30 (by simp) (by simp) ?_
  simp -dsimp
  repeat (refine chk.go (by first | omega | assumption | (simp_all; done) | (simp_all; omega)) ?_; try simp -dsimp)
  have hF := ob hF; obtain ⟨v, e1, hF⟩ := hF
  refine ((C.impl_WorldValid B hB1 hB2 w v e1)).goW (by simp) (by simp) ?_
  simp -dsimp
  repeat (refine chk.go (by first | omega | assumption | (simp_all; done) | (simp_all; omega)) ?_; try simp -dsimp)
  refine abr.split (fun h2 => ?_) (fun h2 => ?_)
  · have q3 : (v = true) := by first | exact h2 | omega | (simpa using h2) | (simp at h2 ⊢; omega) | simp_all
    rw [if_pos q3] at hF
    simp -dsimp [h2]
    repeat (refine chk.go (by first | omega | assumption | (simp_all; done) | (simp_all; omega)) ?_; try simp -dsimp [h2])
    have hF := ob hF; obtain ⟨v4, e5, hF⟩ := hF
    refine ((C.impl_typeOk B hB1 hB2 w t v4 e5)).goW (by first | (simp; done) | (simp [h2]; done) | simp_all) (by simp) ?_
    cases hF
    simp -dsimp [h2]
    repeat (refine chk.go (by first | omega | assumption | (simp_all; done) | (simp_all; omega)) ?_; try simp -dsimp [h2])
  · have q3 : ¬ (v = true) := by first | exact h2 | omega | (simpa using h2) | (simp at h2 ⊢; omega) | simp_all
    rw [if_neg q3] at hF
    cases hF
    simp -dsimp [h2, q3]
    repeat (refine chk.go (by first | omega | assumption | (simp_all; done) | (simp_all; omega)) ?_; try simp -dsimp [h2, q3])

set_option maxRecDepth 100000 in
set_option maxHeartbeats 400000 in
theorem CC.impl_ctorsOf_l1 (B : Nat) (hB1 : 67108864 ≤ B) (hB2 : B ≤ 9223372036854775807) (t : Vl.Ty) (x : Vl.Data) : (∀ (i : Nat) (out : List Int) (o : List Int), F.impl_ctorsOf_l1 t x i out = some o → ∀ (c : Code), navO [1, 1, 0, 1, 0, 1, 0, 0] (bodyOf Try.f57) = some c → ∀ (Q : Exit → ASt → Prop), Q (.exit 0) ⟨[(5, .own 1 (List.length (α := Int) o))], [.dead, .elems 1 (List.map cI o)]⟩ → ALoopU Try.prog B 0 44 (hold c .mk) ⟨[(3, .ptr 0 0), (5, .own 1 (List.length (α := Int) out)), (16, .arr (List.map Vl.Ctor.c x.ctors)), (17, .lit (.int .i64 (x.ctors.length : Int))), (18, .lit (.int .i64 (i : Int)))], [.cells [.lit (.int .i64 t.data), .lit (.int .i64 t.index)], .elems 1 (List.map cI out)]⟩ (hold Q .mk)) := by
  refine F.impl_ctorsOf_l1.partial_correctness t x
    (fun i out o => ∀ (c : Code), navO [1, 1, 0, 1, 0, 1, 0, 0] (bodyOf Try.f57) = some c → ∀ (Q : Exit → ASt → Prop), Q (.exit 0) ⟨[(5, .own 1 (List.length (α := Int) o))], [.dead, .elems 1 (List.map cI o)]⟩ → ALoopU Try.prog B 0 44 (hold c .mk) ⟨[(3, .ptr 0 0), (5, .own 1 (List.length (α := Int) out)), (16, .arr (List.map Vl.Ctor.c x.ctors)), (17, .lit (.int .i64 (x.ctors.length : Int))), (18, .lit (.int .i64 (i : Int)))], [.cells [.lit (.int .i64 t.data), .lit (.int .i64 t.index)], .elems 1 (List.map cI out)]⟩ (hold Q .mk))
    ?_
  · intro _f_impl_ctorsOf_l1 ih_impl_ctorsOf_l1 i out o hF
    intro c hc Q hq
    obtain rfl : c = _ := navEq hc rfl
    refine ALoopU.know fun hk hs => ?_
    have b16 := hk 16
    simp -dsimp at b16
    have d1 := hs 1 _ rfl
    simp -dsimp [Blk.bnd] at d1
    clear hk hs
    refine ALoopU.enter ?_
    simp -dsimp
    repeat (refine chk.go (by first | omega | assumption | (simp_all; done) | (simp_all; omega)) ?_; try simp -dsimp)
    refine abr.split (fun h4 => ?_) (fun h4 => ?_)
    · have q5 : (i < x.ctors.length) := by first | exact h4 | omega | (simpa using h4) | (simp at h4 ⊢; omega) | simp_all
      have z6 : ((i : Int) < (x.ctors.length : Int)) := by first | omega | simp_all
      rw [if_pos q5] at hF
      have hF := ob hF; obtain ⟨x7, e8, hF⟩ := hF
      have le8 := lt_of_get e8
      simp -dsimp [h4, z6, ↓e8]
      repeat (refine chk.go (by first | omega | assumption | (simp_all; done) | (simp_all; omega)) ?_; try simp -dsimp [h4, z6, ↓e8])
      refine abr.split (fun h9 => ?_) (fun h9 => ?_)
      · have q10 : ¬ (t.index = 0) := by first | exact h9 | omega | (simpa using h9) | (simp at h9 ⊢; omega) | simp_all
        rw [if_neg q10] at hF
        simp -dsimp [h4, z6, ↓e8, h9, q10]
        repeat (refine chk.go (by first | omega | assumption | (simp_all; done) | (simp_all; omega)) ?_; try simp -dsimp [h4, z6, ↓e8, h9, q10])
        refine abr.split (fun h11 => ?_) (fun h11 => ?_)
        · have q12 : ¬ (x7.index = 0) := by first | exact h11 | omega | (simpa using h11) | (simp at h11 ⊢; omega) | simp_all
          rw [if_neg q12] at hF
          simp -dsimp [h4, z6, ↓e8, h9, q10, h11, q12]
          repeat (refine chk.go (by first | omega | assumption | (simp_all; done) | (simp_all; omega)) ?_; try simp -dsimp [h4, z6, ↓e8, h9, q10, h11, q12])
          refine abr.split (fun h13 => ?_) (fun h13 => ?_)
          · have q14 : (x7.index = t.index) := by first | exact h13 | omega | (simpa using h13) | (simp at h13 ⊢; omega) | simp_all
            rw [if_pos q14] at hF
            have hF := oc hF; obtain ⟨c15, hF⟩ := hF
            have w16 : IntKind.i64.wrap ((i : Int) + 1) = (i : Int) + 1 := wrap_in (by omega) (by omega)
            simp -dsimp [h4, z6, ↓e8, h9, q10, h11, q12, h13, w16]
            repeat (refine chk.go (by first | omega | assumption | (simp_all; done) | (simp_all; omega)) ?_; try simp -dsimp [h4, z6, ↓e8, h9, q10, h11, q12, h13, w16])
            refine Again.go ⟨[(3, .ptr 0 0), (5, .own 1 (List.length (α := Int) (out ++ [(i : Int)]))), (16, .arr (List.map Vl.Ctor.c x.ctors)), (17, .lit (.int .i64 (x.ctors.length : Int))), (18, .lit (.int .i64 ((i + 1) : Int)))], [.cells [.lit (.int .i64 t.data), .lit (.int .i64 t.index)], .elems 1 (List.map cI (out ++ [(i : Int)]))]⟩ (Gh.to (by simp) (by first | (simp -dsimp; done) | (simp -dsimp [h4, z6, ↓e8, h9, q10, h11, q12, h13, w16]; done) | simp_all) (by first | (simp -dsimp; done) | (simp -dsimp [h4, z6, ↓e8, h9, q10, h11, q12, h13, w16]; done) | simp_all) (by first | (simp -dsimp; done) | (simp -dsimp [h4, z6, ↓e8, h9, q10, h11, q12, h13, w16]; done) | simp_all)) ?_
            exact (ih_impl_ctorsOf_l1 (i + 1) (out ++ [(i : Int)]) o hF) _ rfl _ hq
          · have q14 : ¬ (x7.index = t.index) := by first | exact h13 | omega | (simpa using h13) | (simp at h13 ⊢; omega) | simp_all
            rw [if_neg q14] at hF
            have w17 : IntKind.i64.wrap ((i : Int) + 1) = (i : Int) + 1 := wrap_in (by omega) (by omega)
            simp -dsimp [h4, z6, ↓e8, h9, q10, h11, q12, h13, q14, w17]
            repeat (refine chk.go (by first | omega | assumption | (simp_all; done) | (simp_all; omega)) ?_; try simp -dsimp [h4, z6, ↓e8, h9, q10, h11, q12, h13, q14, w17])
            refine Again.go ⟨[(3, .ptr 0 0), (5, .own 1 (List.length (α := Int) out)), (16, .arr (List.map Vl.Ctor.c x.ctors)), (17, .lit (.int .i64 (x.ctors.length : Int))), (18, .lit (.int .i64 ((i + 1) : Int)))], [.cells [.lit (.int .i64 t.data), .lit (.int .i64 t.index)], .elems 1 (List.map cI out)]⟩ (Gh.to (by simp) (by first | (simp -dsimp; done) | (simp -dsimp [h4, z6, ↓e8, h9, q10, h11, q12, h13, q14, w17]; done) | simp_all) (by first | (simp -dsimp; done) | (simp -dsimp [h4, z6, ↓e8, h9, q10, h11, q12, h13, q14, w17]; done) | simp_all) (by first | (simp -dsimp; done) | (simp -dsimp [h4, z6, ↓e8, h9, q10, h11, q12, h13, q14, w17]; done) | simp_all)) ?_
            exact (ih_impl_ctorsOf_l1 (i + 1) out o hF) _ rfl _ hq
        · have q12 : (x7.index = 0) := by first | exact h11 | omega | (simpa using h11) | (simp at h11 ⊢; omega) | simp_all
          rw [if_pos q12] at hF
          have hF := oc hF; obtain ⟨c18, hF⟩ := hF
          have w19 : IntKind.i64.wrap ((i : Int) + 1) = (i : Int) + 1 := wrap_in (by omega) (by omega)
          simp -dsimp [h4, z6, ↓e8, h9, q10, h11, q12, w19]
          repeat (refine chk.go (by first | omega | assumption | (simp_all; done) | (simp_all; omega)) ?_; try simp -dsimp [h4, z6, ↓e8, h9, q10, h11, q12, w19])
          refine Again.go ⟨[(3, .ptr 0 0), (5, .own 1 (List.length (α := Int) (out ++ [(i : Int)]))), (16, .arr (List.map Vl.Ctor.c x.ctors)), (17, .lit (.int .i64 (x.ctors.length : Int))), (18, .lit (.int .i64 ((i + 1) : Int)))], [.cells [.lit (.int .i64 t.data), .lit (.int .i64 t.index)], .elems 1 (List.map cI (out ++ [(i : Int)]))]⟩ (Gh.to (by simp) (by first | (simp -dsimp; done) | (simp -dsimp [h4, z6, ↓e8, h9, q10, h11, q12, w19]; done) | simp_all) (by first | (simp -dsimp; done) | (simp -dsimp [h4, z6, ↓e8, h9, q10, h11, q12, w19]; done) | simp_all) (by first | (simp -dsimp; done) | (simp -dsimp [h4, z6, ↓e8, h9, q10, h11, q12, w19]; done) | simp_all)) ?_
          exact (ih_impl_ctorsOf_l1 (i + 1) (out ++ [(i : Int)]) o hF) _ rfl _ hq
      · have q10 : (t.index = 0) := by first | exact h9 | omega | (simpa using h9) | (simp at h9 ⊢; omega) | simp_all
        rw [if_pos q10] at hF
        have hF := oc hF; obtain ⟨c20, hF⟩ := hF
        have w21 : IntKind.i64.wrap ((i : Int) + 1) = (i : Int) + 1 := wrap_in (by omega) (by omega)
        simp -dsimp [h4, z6, ↓e8, h9, q10, w21]
        repeat (refine chk.go (by first | omega | assumption | (simp_all; done) | (simp_all; omega)) ?_; try simp -dsimp [h4, z6, ↓e8, h9, q10, w21])
        refine Again.go ⟨[(3, .ptr 0 0), (5, .own 1 (List.length (α := Int) (out ++ [(i : Int)]))), (16, .arr (List.map Vl.Ctor.c x.ctors)), (17, .lit (.int .i64 (x.ctors.length : Int))), (18, .lit (.int .i64 ((i + 1) : Int)))], [.cells [.lit (.int .i64 t.data), .lit (.int .i64 t.index)], .elems 1 (List.map cI (out ++ [(i : Int)]))]⟩ (Gh.to (by simp) (by first | (simp -dsimp; done) | (simp -dsimp [h4, z6, ↓e8, h9, q10, w21]; done) | simp_all) (by first | (simp -dsimp; done) | (simp -dsimp [h4, z6, ↓e8, h9, q10, w21]; done) | simp_all) (by first | (simp -dsimp; done) | (simp -dsimp [h4, z6, ↓e8, h9, q10, w21]; done) | simp_all)) ?_
        exact (ih_impl_ctorsOf_l1 (i + 1) (out ++ [(i : Int)]) o hF) _ rfl _ hq
    · have q5 : ¬ (i < x.ctors.length) := by first | exact h4 | omega | (simpa using h4) | (simp at h4 ⊢; omega) | simp_all
      have z6 : ¬ ((i : Int) < (x.ctors.length : Int)) := by first | omega | simp_all
      rw [if_neg q5] at hF
      cases hF
      simp -dsimp [h4, q5, z6]
      repeat (refine chk.go (by first | omega | assumption | (simp_all; done) | (simp_all; omega)) ?_; try simp -dsimp [h4, q5, z6])
      refine Leave.go ⟨[(5, .own 1 (List.length (α := Int) out))], [.dead, .elems 1 (List.map cI out)]⟩ (Gh.to (by simp) (by first | (simp -dsimp; done) | (simp -dsimp [h4, q5, z6]; done) | simp_all) (by first | (simp -dsimp; done) | (simp -dsimp [h4, q5, z6]; done) | simp_all) (by first | (simp -dsimp; done) | (simp -dsimp [h4, q5, z6]; done) | simp_all)) ?_
      exact hq

theorem C.impl_ctorsOf_l1 (B : Nat) (hB1 : 67108864 ≤ B) (hB2 : B ≤ 9223372036854775807) (t : Vl.Ty) (x : Vl.Data) (i : Nat) (out : List Int) (o : List Int) (hF : F.impl_ctorsOf_l1 t x i out = some o) : ∀ (c : Code), navO [1, 1, 0, 1, 0, 1, 0, 0] (bodyOf Try.f57) = some c → ∀ (Q : Exit → ASt → Prop), Q (.exit 0) ⟨[(5, .own 1 (List.length (α := Int) o))], [.dead, .elems 1 (List.map cI o)]⟩ → ALoopU Try.prog B 0 44 (hold c .mk) ⟨[(3, .ptr 0 0), (5, .own 1 (List.length (α := Int) out)), (16, .arr (List.map Vl.Ctor.c x.ctors)), (17, .lit (.int .i64 (x.ctors.length : Int))), (18, .lit (.int .i64 (i : Int)))], [.cells [.lit (.int .i64 t.data), .lit (.int .i64 t.index)], .elems 1 (List.map cI out)]⟩ (hold Q .mk) :=
  (CC.impl_ctorsOf_l1 B hB1 hB2 t x) i out o hF

set_option maxRecDepth 100000 in
set_option maxHeartbeats 400000 in
theorem C.impl_ctorsOf (B : Nat) (hB1 : 67108864 ≤ B) (hB2 : B ≤ 9223372036854775807) (w : List Vl.Data) (t : Vl.Ty) (r : List Int) (hF : F.impl_ctorsOf w t = some r) : PureCall Try.prog B 57 [.arr (List.map Vl.Data.c w), .agg [.lit (.int .i64 t.data), .lit (.int .i64 t.index)]] (.arr (List.map cI r)) := by
  unfold F.impl_ctorsOf at hF
  refine PureCall.enterLe Try.func57 (by kernel_rfl) rfl Try.ntmps57 (by simp) (by simp) ?_
  simp -dsimp
  repeat (refine chk.go (by first | omega | assumption | (simp_all; done) | (simp_all; omega)) ?_; try simp -dsimp)
  refine abr.split (fun h1 => ?_) (fun h1 => ?_)
  · have q2 : ¬ (t.data = (-1)) := by first | exact h1 | omega | (simpa using h1) | (simp at h1 ⊢; omega) | simp_all
    rw [if_neg q2] at hF
    have hF := ob hF; obtain ⟨x, e3a, hF⟩ := hF
    have e3a := at_some e3a; obtain ⟨ne3, e3⟩ := e3a
    have le3 := lt_of_get e3
    simp -dsimp [h1, q2, ↓e3]
    repeat (refine chk.go (by first | omega | assumption | (simp_all; done) | (simp_all; omega)) ?_; try simp -dsimp [h1, q2, ↓e3])
    have hF := ob hF; obtain ⟨o', ho22, hF⟩ := hF
    refine ALoop.goU ⟨[(3, .ptr 0 0), (5, .own 1 (List.length (α := Int) [])), (16, .arr (List.map Vl.Ctor.c x.ctors)), (17, .lit (.int .i64 (x.ctors.length : Int))), (18, .lit (.int .i64 (0 : Int)))], [.cells [.lit (.int .i64 t.data), .lit (.int .i64 t.index)], .elems 1 (List.map cI [])]⟩ ((Gh.nil 5 1 (by simp -dsimp)).trans (Gh.to (by simp) (by first | (simp -dsimp; done) | (simp -dsimp [h1, q2, ↓e3]; done) | simp_all) (by first | (simp -dsimp; done) | (simp -dsimp [h1, q2, ↓e3]; done) | simp_all) (by first | (simp -dsimp; done) | (simp -dsimp [h1, q2, ↓e3]; done) | simp_all))) ?_
    refine (C.impl_ctorsOf_l1 B hB1 hB2 t x 0 [] o' ho22) _ rfl _ ?_
    cases hF
    simp -dsimp
    repeat (refine chk.go (by first | omega | assumption | (simp_all; done) | (simp_all; omega)) ?_; try simp -dsimp)
  · have q2 : (t.data = (-1)) := by first | exact h1 | omega | (simpa using h1) | (simp at h1 ⊢; omega) | simp_all
    rw [if_pos q2] at hF
    cases hF
    simp -dsimp [h1, q2]
    repeat (refine chk.go (by first | omega | assumption | (simp_all; done) | (simp_all; omega)) ?_; try simp -dsimp [h1, q2])

set_option maxRecDepth 100000 in
set_option maxHeartbeats 400000 in
theorem CC.slices_Index_int_l1 (B : Nat) (hB1 : 67108864 ≤ B) (hB2 : B ≤ 9223372036854775807) (s : List Int) (v : Int) : (∀ (i : Nat) (o : Lo Int Unit), F.slices_Index_int_l1 s v i = some o → ∀ (c : Code), navO [1, 0, 1, 0, 0] (bodyOf Try.f87) = some c → ∀ (Q : Exit → ASt → Prop), o.post (fun r => ∀ st, Post Try.prog Try.f87 (fun r' _ => r'.le (.lit (.int .i64 r))) .ret st → Q .ret st) (fun s => Q (.exit 0) ⟨[], []⟩) → ALoopU Try.prog B 0 19 (hold c .mk) ⟨[(0, .arr (List.map cI s)), (1, .lit (.int .i64 v)), (7, .lit (.int .i64 (s.length : Int))), (8, .lit (.int .i64 (i : Int)))], []⟩ (hold Q .mk)) := by
  refine F.slices_Index_int_l1.partial_correctness s v
    (fun i o => ∀ (c : Code), navO [1, 0, 1, 0, 0] (bodyOf Try.f87) = some c → ∀ (Q : Exit → ASt → Prop), o.post (fun r => ∀ st, Post Try.prog Try.f87 (fun r' _ => r'.le (.lit (.int .i64 r))) .ret st → Q .ret st) (fun s => Q (.exit 0) ⟨[], []⟩) → ALoopU Try.prog B 0 19 (hold c .mk) ⟨[(0, .arr (List.map cI s)), (1, .lit (.int .i64 v)), (7, .lit (.int .i64 (s.length : Int))), (8, .lit (.int .i64 (i : Int)))], []⟩ (hold Q .mk))
    ?_
  · intro _f_slices_Index_int_l1 ih_slices_Index_int_l1 i o hF
    intro c hc Q hq
    obtain rfl : c = _ := navEq hc rfl
    refine ALoopU.know fun hk hs => ?_
    have b0 := hk 0
    simp -dsimp at b0
    clear hk hs
    refine ALoopU.enter ?_
    simp -dsimp
    repeat (refine chk.go (by first | omega | assumption | (simp_all; done) | (simp_all; omega)) ?_; try simp -dsimp)
    refine abr.split (fun h1 => ?_) (fun h1 => ?_)
    · have q2 : (i < s.length) := by first | exact h1 | omega | (simpa using h1) | (simp at h1 ⊢; omega) | simp_all
      have z3 : ((i : Int) < (s.length : Int)) := by first | omega | simp_all
      rw [if_pos q2] at hF
      have hF := ob hF; obtain ⟨x, e4, hF⟩ := hF
      have le4 := lt_of_get e4
      simp -dsimp [h1, z3, ↓e4]
      repeat (refine chk.go (by first | omega | assumption | (simp_all; done) | (simp_all; omega)) ?_; try simp -dsimp [h1, z3, ↓e4])
      refine abr.split (fun h5 => ?_) (fun h5 => ?_)
      · have q6 : (v = x) := by first | exact h5 | omega | (simpa using h5) | (simp at h5 ⊢; omega) | simp_all
        rw [if_pos q6] at hF
        cases hF
        simp -dsimp [h1, z3, ↓e4, h5]
        repeat (refine chk.go (by first | omega | assumption | (simp_all; done) | (simp_all; omega)) ?_; try simp -dsimp [h1, z3, ↓e4, h5])
        refine Leave.go _ (Gh.refl _) (hq _ ?_)
        simp -dsimp [h1, z3, ↓e4, h5]
        repeat (refine chk.go (by first | omega | assumption | (simp_all; done) | (simp_all; omega)) ?_; try simp -dsimp [h1, z3, ↓e4, h5])
      · have q6 : ¬ (v = x) := by first | exact h5 | omega | (simpa using h5) | (simp at h5 ⊢; omega) | simp_all
        rw [if_neg q6] at hF
        have w7 : IntKind.i64.wrap ((i : Int) + 1) = (i : Int) + 1 := wrap_in (by omega) (by omega)
        simp -dsimp [h1, z3, ↓e4, h5, q6, w7]
        repeat (refine chk.go (by first | omega | assumption | (simp_all; done) | (simp_all; omega)) ?_; try simp -dsimp [h1, z3, ↓e4, h5, q6, w7])
        refine Again.go ⟨[(0, .arr (List.map cI s)), (1, .lit (.int .i64 v)), (7, .lit (.int .i64 (s.length : Int))), (8, .lit (.int .i64 ((i + 1) : Int)))], []⟩ (Gh.to (by simp) (by first | (simp -dsimp; done) | (simp -dsimp [h1, z3, ↓e4, h5, q6, w7]; done) | simp_all) (by first | (simp -dsimp; done) | (simp -dsimp [h1, z3, ↓e4, h5, q6, w7]; done) | simp_all) (by first | (simp -dsimp; done) | (simp -dsimp [h1, z3, ↓e4, h5, q6, w7]; done) | simp_all)) ?_
        exact (ih_slices_Index_int_l1 (i + 1) o hF) _ rfl _ hq
    · have q2 : ¬ (i < s.length) := by first | exact h1 | omega | (simpa using h1) | (simp at h1 ⊢; omega) | simp_all
      have z3 : ¬ ((i : Int) < (s.length : Int)) := by first | omega | simp_all
      rw [if_neg q2] at hF
      cases hF
      simp -dsimp [h1, q2, z3]
      repeat (refine chk.go (by first | omega | assumption | (simp_all; done) | (simp_all; omega)) ?_; try simp -dsimp [h1, q2, z3])
      refine Leave.go ⟨[], []⟩ (Gh.to (by simp) (by first | (simp -dsimp; done) | (simp -dsimp [h1, q2, z3]; done) | simp_all) (by first | (simp -dsimp; done) | (simp -dsimp [h1, q2, z3]; done) | simp_all) (by first | (simp -dsimp; done) | (simp -dsimp [h1, q2, z3]; done) | simp_all)) ?_
      exact hq

theorem C.slices_Index_int_l1 (B : Nat) (hB1 : 67108864 ≤ B) (hB2 : B ≤ 9223372036854775807) (s : List Int) (v : Int) (i : Nat) (o : Lo Int Unit) (hF : F.slices_Index_int_l1 s v i = some o) : ∀ (c : Code), navO [1, 0, 1, 0, 0] (bodyOf Try.f87) = some c → ∀ (Q : Exit → ASt → Prop), o.post (fun r => ∀ st, Post Try.prog Try.f87 (fun r' _ => r'.le (.lit (.int .i64 r))) .ret st → Q .ret st) (fun s => Q (.exit 0) ⟨[], []⟩) → ALoopU Try.prog B 0 19 (hold c .mk) ⟨[(0, .arr (List.map cI s)), (1, .lit (.int .i64 v)), (7, .lit (.int .i64 (s.length : Int))), (8, .lit (.int .i64 (i : Int)))], []⟩ (hold Q .mk) :=
  (CC.slices_Index_int_l1 B hB1 hB2 s v) i o hF

set_option maxRecDepth 100000 in
set_option maxHeartbeats 400000 in
theorem C.slices_Index_int (B : Nat) (hB1 : 67108864 ≤ B) (hB2 : B ≤ 9223372036854775807) (s : List Int) (v : Int) (r : Int) (hF : F.slices_Index_int s v = some r) : PureCall Try.prog B 87 [.arr (List.map cI s), .lit (.int .i64 v)] (.lit (.int .i64 r)) := by
  unfold F.slices_Index_int at hF
  refine PureCall.enterLe Try.func87 (by kernel_rfl) rfl Try.ntmps87 (by simp) (by simp) ?_
  simp -dsimp
  repeat (refine chk.go (by first | omega | assumption | (simp_all; done) | (simp_all; omega)) ?_; try simp -dsimp)
  have hF := ob hF; obtain ⟨o', ho8, hF⟩ := hF
  refine ALoop.goU ⟨[(0, .arr (List.map cI s)), (1, .lit (.int .i64 v)), (7, .lit (.int .i64 (s.length : Int))), (8, .lit (.int .i64 (0 : Int)))], []⟩ (Gh.to (by simp) (by simp -dsimp) (by simp -dsimp) (by simp -dsimp)) ?_
  refine (C.slices_Index_int_l1 B hB1 hB2 s v 0 o' ho8) _ rfl _ ?_
  rcases o' with r0 | s9
  · dsimp only at hF
    cases hF
    intro st h
    simpa using h
  · dsimp only at hF
    cases hF
    simp -dsimp
    repeat (refine chk.go (by first | omega | assumption | (simp_all; done) | (simp_all; omega)) ?_; try simp -dsimp)

set_option maxRecDepth 100000 in
set_option maxHeartbeats 400000 in
theorem C.slices_Contains_int (B : Nat) (hB1 : 67108864 ≤ B) (hB2 : B ≤ 9223372036854775807) (s : List Int) (v : Int) (r : Bool) (hF : F.slices_Contains_int s v = some r) : PureCall Try.prog B 56 [.arr (List.map cI s), .lit (.int .i64 v)] (.lit (.bool r)) := by
  unfold F.slices_Contains_int at hF
  refine PureCall.enterLe Try.func56 (by kernel_rfl) rfl Try.ntmps56 (by simp) (by simp) ?_
  simp -dsimp
  repeat (refine chk.go (by first | omega | assumption | (simp_all; done) | (simp_all; omega)) ?_; try simp -dsimp)
  have hF := ob hF; obtain ⟨v1, e2, hF⟩ := hF
  refine ((C.slices_Index_int B hB1 hB2 s v v1 e2)).goW (by simp) (by simp) ?_
  cases hF
  simp -dsimp
  repeat (refine chk.go (by first | omega | assumption | (simp_all; done) | (simp_all; omega)) ?_; try simp -dsimp)

set_option maxRecDepth 100000 in
set_option maxHeartbeats 400000 in
theorem CC.impl_argTypes_l1 (B : Nat) (hB1 : 67108864 ≤ B) (hB2 : B ≤ 9223372036854775807) (t : Vl.Ty) (x2 : Vl.Ctor) : (∀ (i : Nat) (out : List Vl.Ty) (o : List Vl.Ty), F.impl_argTypes_l1 t x2 i out = some o → ∀ (c : Code), navO [1, 1, 1, 1, 1, 0, 1, 0, 0] (bodyOf Try.f58) = some c → ∀ (Q : Exit → ASt → Prop), Q (.exit 0) ⟨[(9, .own 2 (List.length (α := Vl.Ty) o))], [.dead, .dead, .elems 2 (List.map Vl.Ty.c o)]⟩ → ALoopU Try.prog B 0 45 (hold c .mk) ⟨[(8, .lit (.int .i64 t.index)), (9, .own 2 (List.length (α := Vl.Ty) out)), (28, .arr (List.map Vl.Ty.c x2.args)), (29, .lit (.int .i64 (x2.args.length : Int))), (30, .lit (.int .i64 (i : Int)))], [.dead, .dead, .elems 2 (List.map Vl.Ty.c out)]⟩ (hold Q .mk)) := by
  refine F.impl_argTypes_l1.partial_correctness t x2
    (fun i out o => ∀ (c : Code), navO [1, 1, 1, 1, 1, 0, 1, 0, 0] (bodyOf Try.f58) = some c → ∀ (Q : Exit → ASt → Prop), Q (.exit 0) ⟨[(9, .own 2 (List.length (α := Vl.Ty) o))], [.dead, .dead, .elems 2 (List.map Vl.Ty.c o)]⟩ → ALoopU Try.prog B 0 45 (hold c .mk) ⟨[(8, .lit (.int .i64 t.index)), (9, .own 2 (List.length (α := Vl.Ty) out)), (28, .arr (List.map Vl.Ty.c x2.args)), (29, .lit (.int .i64 (x2.args.length : Int))), (30, .lit (.int .i64 (i : Int)))], [.dead, .dead, .elems 2 (List.map Vl.Ty.c out)]⟩ (hold Q .mk))
    ?_
  · intro _f_impl_argTypes_l1 ih_impl_argTypes_l1 i out o hF
    intro c hc Q hq
    obtain rfl : c = _ := navEq hc rfl
    refine ALoopU.know fun hk hs => ?_
    have b28 := hk 28
    simp -dsimp at b28
    have d2 := hs 2 _ rfl
    simp -dsimp [Blk.bnd] at d2
    clear hk hs
    refine ALoopU.enter ?_
    simp -dsimp
    repeat (refine chk.go (by first | omega | assumption | (simp_all; done) | (simp_all; omega)) ?_; try simp -dsimp)
    refine abr.split (fun h6 => ?_) (fun h6 => ?_)
    · have q7 : (i < x2.args.length) := by first | exact h6 | omega | (simpa using h6) | (simp at h6 ⊢; omega) | simp_all
      have z8 : ((i : Int) < (x2.args.length : Int)) := by first | omega | simp_all
      rw [if_pos q7] at hF
      have hF := ob hF; obtain ⟨x9, e10, hF⟩ := hF
      have le10 := lt_of_get e10
      simp -dsimp [h6, z8, ↓e10]
      repeat (refine chk.go (by first | omega | assumption | (simp_all; done) | (simp_all; omega)) ?_; try simp -dsimp [h6, z8, ↓e10])
      refine abr.split (fun h11 => ?_) (fun h11 => ?_)
      · have q12 : (x9.index = (-1)) := by first | exact h11 | omega | (simpa using h11) | (simp at h11 ⊢; omega) | simp_all
        rw [if_pos q12] at hF
        have hF := oc hF; obtain ⟨c13, hF⟩ := hF
        have w14 : IntKind.i64.wrap ((i : Int) + 1) = (i : Int) + 1 := wrap_in (by omega) (by omega)
        simp -dsimp [h6, z8, ↓e10, h11, w14]
        repeat (refine chk.go (by first | omega | assumption | (simp_all; done) | (simp_all; omega)) ?_; try simp -dsimp [h6, z8, ↓e10, h11, w14])
        refine Again.go ⟨[(8, .lit (.int .i64 t.index)), (9, .own 2 (List.length (α := Vl.Ty) (out ++ [(⟨x9.data, t.index⟩ : Vl.Ty)]))), (28, .arr (List.map Vl.Ty.c x2.args)), (29, .lit (.int .i64 (x2.args.length : Int))), (30, .lit (.int .i64 ((i + 1) : Int)))], [.dead, .dead, .elems 2 (List.map Vl.Ty.c (out ++ [(⟨x9.data, t.index⟩ : Vl.Ty)]))]⟩ (Gh.to (by simp) (by first | (simp -dsimp; done) | (simp -dsimp [h6, z8, ↓e10, h11, w14]; done) | simp_all) (by first | (simp -dsimp; done) | (simp -dsimp [h6, z8, ↓e10, h11, w14]; done) | simp_all) (by first | (simp -dsimp; done) | (simp -dsimp [h6, z8, ↓e10, h11, w14]; done) | simp_all)) ?_
        exact (ih_impl_argTypes_l1 (i + 1) (out ++ [(⟨x9.data, t.index⟩ : Vl.Ty)]) o hF) _ rfl _ hq
      · have q12 : ¬ (x9.index = (-1)) := by first | exact h11 | omega | (simpa using h11) | (simp at h11 ⊢; omega) | simp_all
        rw [if_neg q12] at hF
        have hF := oc hF; obtain ⟨c15, hF⟩ := hF
        have w16 : IntKind.i64.wrap ((i : Int) + 1) = (i : Int) + 1 := wrap_in (by omega) (by omega)
        simp -dsimp [h6, z8, ↓e10, h11, q12, w16]
        repeat (refine chk.go (by first | omega | assumption | (simp_all; done) | (simp_all; omega)) ?_; try simp -dsimp [h6, z8, ↓e10, h11, q12, w16])
        refine Again.go ⟨[(8, .lit (.int .i64 t.index)), (9, .own 2 (List.length (α := Vl.Ty) (out ++ [x9]))), (28, .arr (List.map Vl.Ty.c x2.args)), (29, .lit (.int .i64 (x2.args.length : Int))), (30, .lit (.int .i64 ((i + 1) : Int)))], [.dead, .dead, .elems 2 (List.map Vl.Ty.c (out ++ [x9]))]⟩ (Gh.to (by simp) (by first | (simp -dsimp; done) | (simp -dsimp [h6, z8, ↓e10, h11, q12, w16]; done) | simp_all) (by first | (simp -dsimp; done) | (simp -dsimp [h6, z8, ↓e10, h11, q12, w16]; done) | simp_all) (by first | (simp -dsimp; done) | (simp -dsimp [h6, z8, ↓e10, h11, q12, w16]; done) | simp_all)) ?_
        exact (ih_impl_argTypes_l1 (i + 1) (out ++ [x9]) o hF) _ rfl _ hq
    · have q7 : ¬ (i < x2.args.length) := by first | exact h6 | omega | (simpa using h6) | (simp at h6 ⊢; omega) | simp_all
      have z8 : ¬ ((i : Int) < (x2.args.length : Int)) := by first | omega | simp_all
      rw [if_neg q7] at hF
      cases hF
      simp -dsimp [h6, q7, z8]
      repeat (refine chk.go (by first | omega | assumption | (simp_all; done) | (simp_all; omega)) ?_; try simp -dsimp [h6, q7, z8])
      refine Leave.go ⟨[(9, .own 2 (List.length (α := Vl.Ty) out))], [.dead, .dead, .elems 2 (List.map Vl.Ty.c out)]⟩ (Gh.to (by simp) (by first | (simp -dsimp; done) | (simp -dsimp [h6, q7, z8]; done) | simp_all) (by first | (simp -dsimp; done) | (simp -dsimp [h6, q7, z8]; done) | simp_all) (by first | (simp -dsimp; done) | (simp -dsimp [h6, q7, z8]; done) | simp_all)) ?_
      exact hq

theorem C.impl_argTypes_l1 (B : Nat) (hB1 : 67108864 ≤ B) (hB2 : B ≤ 9223372036854775807) (t : Vl.Ty) (x2 : Vl.Ctor) (i : Nat) (out : List Vl.Ty) (o : List Vl.Ty) (hF : F.impl_argTypes_l1 t x2 i out = some o) : ∀ (c : Code), navO [1, 1, 1, 1, 1, 0, 1, 0, 0] (bodyOf Try.f58) = some c → ∀ (Q : Exit → ASt → Prop), Q (.exit 0) ⟨[(9, .own 2 (List.length (α := Vl.Ty) o))], [.dead, .dead, .elems 2 (List.map Vl.Ty.c o)]⟩ → ALoopU Try.prog B 0 45 (hold c .mk) ⟨[(8, .lit (.int .i64 t.index)), (9, .own 2 (List.length (α := Vl.Ty) out)), (28, .arr (List.map Vl.Ty.c x2.args)), (29, .lit (.int .i64 (x2.args.length : Int))), (30, .lit (.int .i64 (i : Int)))], [.dead, .dead, .elems 2 (List.map Vl.Ty.c out)]⟩ (hold Q .mk) :=
  (CC.impl_argTypes_l1 B hB1 hB2 t x2) i out o hF

set_option maxRecDepth 100000 in
set_option maxHeartbeats 400000 in
theorem CC.impl_argTypes_l2 (B : Nat) (hB1 : 67108864 ≤ B) (hB2 : B ≤ 9223372036854775807) (x2 : Vl.Ctor) : (∀ (i18 : Nat) (out19 : List Vl.Ty) (o : List Vl.Ty), F.impl_argTypes_l2 x2 i18 out19 = some o → ∀ (c : Code), navO [1, 1, 1, 1, 1, 0, 1, 0, 0] (bodyOf Try.f58) = some c → ∀ (Q : Exit → ASt → Prop), Q (.exit 0) ⟨[(9, .own 2 (List.length (α := Vl.Ty) o))], [.dead, .dead, .elems 2 (List.map Vl.Ty.c o)]⟩ → ALoopU Try.prog B 0 45 (hold c .mk) ⟨[(8, .lit (.int .i64 x2.index)), (9, .own 2 (List.length (α := Vl.Ty) out19)), (28, .arr (List.map Vl.Ty.c x2.args)), (29, .lit (.int .i64 (x2.args.length : Int))), (30, .lit (.int .i64 (i18 : Int)))], [.dead, .dead, .elems 2 (List.map Vl.Ty.c out19)]⟩ (hold Q .mk)) := by
  refine F.impl_argTypes_l2.partial_correctness x2
    (fun i18 out19 o => ∀ (c : Code), navO [1, 1, 1, 1, 1, 0, 1, 0, 0] (bodyOf Try.f58) = some c → ∀ (Q : Exit → ASt → Prop), Q (.exit 0) ⟨[(9, .own 2 (List.length (α := Vl.Ty) o))], [.dead, .dead, .elems 2 (List.map Vl.Ty.c o)]⟩ → ALoopU Try.prog B 0 45 (hold c .mk) ⟨[(8, .lit (.int .i64 x2.index)), (9, .own 2 (List.length (α := Vl.Ty) out19)), (28, .arr (List.map Vl.Ty.c x2.args)), (29, .lit (.int .i64 (x2.args.length : Int))), (30, .lit (.int .i64 (i18 : Int)))], [.dead, .dead, .elems 2 (List.map Vl.Ty.c out19)]⟩ (hold Q .mk))
    ?_
  · intro _f_impl_argTypes_l2 ih_impl_argTypes_l2 i18 out19 o hF
    intro c hc Q hq
    obtain rfl : c = _ := navEq hc rfl
    refine ALoopU.know fun hk hs => ?_
    have b28 := hk 28
    simp -dsimp at b28
    have d2 := hs 2 _ rfl
    simp -dsimp [Blk.bnd] at d2
    clear hk hs
    refine ALoopU.enter ?_
    simp -dsimp
    repeat (refine chk.go (by first | omega | assumption | (simp_all; done) | (simp_all; omega)) ?_; try simp -dsimp)
    refine abr.split (fun h20 => ?_) (fun h20 => ?_)
    · have q21 : (i18 < x2.args.length) := by first | exact h20 | omega | (simpa using h20) | (simp at h20 ⊢; omega) | simp_all
      have z22 : ((i18 : Int) < (x2.args.length : Int)) := by first | omega | simp_all
      rw [if_pos q21] at hF
      have hF := ob hF; obtain ⟨x23, e24, hF⟩ := hF
      have le24 := lt_of_get e24
      simp -dsimp [h20, z22, ↓e24]
      repeat (refine chk.go (by first | omega | assumption | (simp_all; done) | (simp_all; omega)) ?_; try simp -dsimp [h20, z22, ↓e24])
      refine abr.split (fun h25 => ?_) (fun h25 => ?_)
      · have q26 : (x23.index = (-1)) := by first | exact h25 | omega | (simpa using h25) | (simp at h25 ⊢; omega) | simp_all
        rw [if_pos q26] at hF
        have hF := oc hF; obtain ⟨c27, hF⟩ := hF
        have w28 : IntKind.i64.wrap ((i18 : Int) + 1) = (i18 : Int) + 1 := wrap_in (by omega) (by omega)
        simp -dsimp [h20, z22, ↓e24, h25, w28]
        repeat (refine chk.go (by first | omega | assumption | (simp_all; done) | (simp_all; omega)) ?_; try simp -dsimp [h20, z22, ↓e24, h25, w28])
        refine Again.go ⟨[(8, .lit (.int .i64 x2.index)), (9, .own 2 (List.length (α := Vl.Ty) (out19 ++ [(⟨x23.data, x2.index⟩ : Vl.Ty)]))), (28, .arr (List.map Vl.Ty.c x2.args)), (29, .lit (.int .i64 (x2.args.length : Int))), (30, .lit (.int .i64 ((i18 + 1) : Int)))], [.dead, .dead, .elems 2 (List.map Vl.Ty.c (out19 ++ [(⟨x23.data, x2.index⟩ : Vl.Ty)]))]⟩ (Gh.to (by simp) (by first | (simp -dsimp; done) | (simp -dsimp [h20, z22, ↓e24, h25, w28]; done) | simp_all) (by first | (simp -dsimp; done) | (simp -dsimp [h20, z22, ↓e24, h25, w28]; done) | simp_all) (by first | (simp -dsimp; done) | (simp -dsimp [h20, z22, ↓e24, h25, w28]; done) | simp_all)) ?_
        exact (ih_impl_argTypes_l2 (i18 + 1) (out19 ++ [(⟨x23.data, x2.index⟩ : Vl.Ty)]) o hF) _ rfl _ hq
      · have q26 : ¬ (x23.index = (-1)) := by first | exact h25 | omega | (simpa using h25) | (simp at h25 ⊢; omega) | simp_all
        rw [if_neg q26] at hF
        have hF := oc hF; obtain ⟨c29, hF⟩ := hF
        have w30 : IntKind.i64.wrap ((i18 : Int) + 1) = (i18 : Int) + 1 := wrap_in (by omega) (by omega)
        simp -dsimp [h20, z22, ↓e24, h25, q26, w30]
        repeat (refine chk.go (by first | omega | assumption | (simp_all; done) | (simp_all; omega)) ?_; try simp -dsimp [h20, z22, ↓e24, h25, q26, w30])
        refine Again.go ⟨[(8, .lit (.int .i64 x2.index)), (9, .own 2 (List.length (α := Vl.Ty) (out19 ++ [x23]))), (28, .arr (List.map Vl.Ty.c x2.args)), (29, .lit (.int .i64 (x2.args.length : Int))), (30, .lit (.int .i64 ((i18 + 1) : Int)))], [.dead, .dead, .elems 2 (List.map Vl.Ty.c (out19 ++ [x23]))]⟩ (Gh.to (by simp) (by first | (simp -dsimp; done) | (simp -dsimp [h20, z22, ↓e24, h25, q26, w30]; done) | simp_all) (by first | (simp -dsimp; done) | (simp -dsimp [h20, z22, ↓e24, h25, q26, w30]; done) | simp_all) (by first | (simp -dsimp; done) | (simp -dsimp [h20, z22, ↓e24, h25, q26, w30]; done) | simp_all)) ?_
        exact (ih_impl_argTypes_l2 (i18 + 1) (out19 ++ [x23]) o hF) _ rfl _ hq
    · have q21 : ¬ (i18 < x2.args.length) := by first | exact h20 | omega | (simpa using h20) | (simp at h20 ⊢; omega) | simp_all
      have z22 : ¬ ((i18 : Int) < (x2.args.length : Int)) := by first | omega | simp_all
      rw [if_neg q21] at hF
      cases hF
      simp -dsimp [h20, q21, z22]
      repeat (refine chk.go (by first | omega | assumption | (simp_all; done) | (simp_all; omega)) ?_; try simp -dsimp [h20, q21, z22])
      refine Leave.go ⟨[(9, .own 2 (List.length (α := Vl.Ty) out19))], [.dead, .dead, .elems 2 (List.map Vl.Ty.c out19)]⟩ (Gh.to (by simp) (by first | (simp -dsimp; done) | (simp -dsimp [h20, q21, z22]; done) | simp_all) (by first | (simp -dsimp; done) | (simp -dsimp [h20, q21, z22]; done) | simp_all) (by first | (simp -dsimp; done) | (simp -dsimp [h20, q21, z22]; done) | simp_all)) ?_
      exact hq

theorem C.impl_argTypes_l2 (B : Nat) (hB1 : 67108864 ≤ B) (hB2 : B ≤ 9223372036854775807) (x2 : Vl.Ctor) (i18 : Nat) (out19 : List Vl.Ty) (o : List Vl.Ty) (hF : F.impl_argTypes_l2 x2 i18 out19 = some o) : ∀ (c : Code), navO [1, 1, 1, 1, 1, 0, 1, 0, 0] (bodyOf Try.f58) = some c → ∀ (Q : Exit → ASt → Prop), Q (.exit 0) ⟨[(9, .own 2 (List.length (α := Vl.Ty) o))], [.dead, .dead, .elems 2 (List.map Vl.Ty.c o)]⟩ → ALoopU Try.prog B 0 45 (hold c .mk) ⟨[(8, .lit (.int .i64 x2.index)), (9, .own 2 (List.length (α := Vl.Ty) out19)), (28, .arr (List.map Vl.Ty.c x2.args)), (29, .lit (.int .i64 (x2.args.length : Int))), (30, .lit (.int .i64 (i18 : Int)))], [.dead, .dead, .elems 2 (List.map Vl.Ty.c out19)]⟩ (hold Q .mk) :=
  (CC.impl_argTypes_l2 B hB1 hB2 x2) i18 out19 o hF

set_option maxRecDepth 100000 in
set_option maxHeartbeats 400000 in
theorem C.impl_argTypes (B : Nat) (hB1 : 67108864 ≤ B) (hB2 : B ≤ 9223372036854775807) (w : List Vl.Data) (t : Vl.Ty) (ctor : Int) (r : List Vl.Ty) (hF : F.impl_argTypes w t ctor = some r) : PureCall Try.prog B 58 [.arr (List.map Vl.Data.c w), .agg [.lit (.int .i64 t.data), .lit (.int .i64 t.index)], .lit (.int .i64 ctor)] (.arr (List.map Vl.Ty.c r)) := by
  unfold F.impl_argTypes at hF
  refine PureCall.enterLe Try.func58 (by kernel_rfl) rfl Try.ntmps58 (by simp) (by simp) ?_
  have hF := ob hF; obtain ⟨x, e1a, hF⟩ := hF
  have e1a := at_some e1a; obtain ⟨ne1, e1⟩ := e1a
  have le1 := lt_of_get e1
  have hF := ob hF; obtain ⟨x2, e3a, hF⟩ := hF
  have e3a := at_some e3a; obtain ⟨ne3, e3⟩ := e3a
  have le3 := lt_of_get e3
  simp -dsimp [↓e1, ↓e3]
  repeat (refine chk.go (by first | omega | assumption | (simp_all; done) | (simp_all; omega)) ?_; try simp -dsimp [↓e1, ↓e3])
  refine abr.split (fun h4 => ?_) (fun h4 => ?_)
  · have q5 : (x2.index = 0) := by first | exact h4 | omega | (simpa using h4) | (simp at h4 ⊢; omega) | simp_all
    rw [if_pos q5] at hF
    simp -dsimp [↓e1, ↓e3, h4]
    repeat (refine chk.go (by first | omega | assumption | (simp_all; done) | (simp_all; omega)) ?_; try simp -dsimp [↓e1, ↓e3, h4])
    have hF := ob hF; obtain ⟨o', ho17, hF⟩ := hF
    refine ALoop.goU ⟨[(8, .lit (.int .i64 t.index)), (9, .own 2 (List.length (α := Vl.Ty) [])), (28, .arr (List.map Vl.Ty.c x2.args)), (29, .lit (.int .i64 (x2.args.length : Int))), (30, .lit (.int .i64 (0 : Int)))], [.dead, .dead, .elems 2 (List.map Vl.Ty.c [])]⟩ ((Gh.nil 9 2 (by simp -dsimp)).trans (Gh.to (by simp) (by first | (simp -dsimp; done) | (simp -dsimp [↓e1, ↓e3, h4]; done) | simp_all) (by first | (simp -dsimp; done) | (simp -dsimp [↓e1, ↓e3, h4]; done) | simp_all) (by first | (simp -dsimp; done) | (simp -dsimp [↓e1, ↓e3, h4]; done) | simp_all))) ?_
    refine (C.impl_argTypes_l1 B hB1 hB2 t x2 0 [] o' ho17) _ rfl _ ?_
    cases hF
    simp -dsimp
    repeat (refine chk.go (by first | omega | assumption | (simp_all; done) | (simp_all; omega)) ?_; try simp -dsimp)
  · have q5 : ¬ (x2.index = 0) := by first | exact h4 | omega | (simpa using h4) | (simp at h4 ⊢; omega) | simp_all
    rw [if_neg q5] at hF
    simp -dsimp [↓e1, ↓e3, h4, q5]
    repeat (refine chk.go (by first | omega | assumption | (simp_all; done) | (simp_all; omega)) ?_; try simp -dsimp [↓e1, ↓e3, h4, q5])
    have hF := ob hF; obtain ⟨o'32, ho31, hF⟩ := hF
    refine ALoop.goU ⟨[(8, .lit (.int .i64 x2.index)), (9, .own 2 (List.length (α := Vl.Ty) [])), (28, .arr (List.map Vl.Ty.c x2.args)), (29, .lit (.int .i64 (x2.args.length : Int))), (30, .lit (.int .i64 (0 : Int)))], [.dead, .dead, .elems 2 (List.map Vl.Ty.c [])]⟩ ((Gh.nil 9 2 (by simp -dsimp)).trans (Gh.to (by simp) (by first | (simp -dsimp; done) | (simp -dsimp [↓e1, ↓e3, h4, q5]; done) | simp_all) (by first | (simp -dsimp; done) | (simp -dsimp [↓e1, ↓e3, h4, q5]; done) | simp_all) (by first | (simp -dsimp; done) | (simp -dsimp [↓e1, ↓e3, h4, q5]; done) | simp_all))) ?_
    refine (C.impl_argTypes_l2 B hB1 hB2 x2 0 [] o'32 ho31) _ rfl _ ?_
    cases hF
    simp -dsimp
    repeat (refine chk.go (by first | omega | assumption | (simp_all; done) | (simp_all; omega)) ?_; try simp -dsimp)

end Go.Proofs.Ytipcmoamhapecaa
