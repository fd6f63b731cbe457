/- The contracts: the code computes the functions (printed by gen.py). -/
import Derived.Test.YtoacjahdkkdffaaProg
import Derived.Test.YtoacjahdkkdffaaTypeFitsF
import Derived.Test.YtoacjahdkkdffaaTypeFitsC1
namespace Go.Proofs.Ytoacjahdkkdffaa
open Go Go.Proofs Go.Vl
set_option linter.unusedSimpArgs false
set_option linter.unusedVariables false

attribute [local irreducible] ECallA aL AMake MLoop AgainM LeaveM awpM aopsM MutCall chk abr ACall ALoop ALoopU ADraw Again Leave PCallA PCall Post awp aops PureCall hold

theorem C.spec_ParseWorld_l3 (B : Nat) (hB1 : 67108864 ≤ B) (hB2 : B ≤ 9223372036854775807) (text : ByteArray) (v : List ByteArray) (out : List Vl.Data) (names21 : List ByteArray) (i22 : Nat) (v32 : List ByteArray) (x34 : ByteArray) (out36 : List Vl.Ctor) (k : Nat) (o : List Vl.Ctor) (hF : F.spec_ParseWorld_l3 text v out names21 i22 v32 x34 out36 k = some o) : ∀ (c : Code), navO [1, 1, 1, 1, 1, 0, 1, 0, 0, 1, 0, 0, 1, 1, 0, 1, 0, 0] (bodyOf Try.f81) = some c → ∀ (Q : Exit → ASt → Prop), Q (.exit 4) ⟨[(0, .lit (.string text)), (4, .own 0 (List.length (α := Vl.Data) out)), (5, .arr (List.map cS names21)), (6, .arr (List.map cS v)), (9, .lit (.int .i64 (i22 : Int))), (11, .ptr 2 0)], [.elems 2 (List.map Vl.Data.c out), .dead, .cells [.lit (.string x34), .own 3 (List.length (α := Vl.Ctor) o)], .elems 3 (List.map Vl.Ctor.c o)]⟩ → ALoopU Try.prog B 0 101 (hold c .mk) ⟨[(0, .lit (.string text)), (4, .own 0 (List.length (α := Vl.Data) out)), (5, .arr (List.map cS names21)), (6, .arr (List.map cS v)), (9, .lit (.int .i64 (i22 : Int))), (10, .arr (List.map cS v32)), (11, .ptr 2 0), (12, .lit (.int .i64 (k : Int)))], [.elems 2 (List.map Vl.Data.c out), .dead, .cells [.lit (.string x34), .own 3 (List.length (α := Vl.Ctor) out36)], .elems 3 (List.map Vl.Ctor.c out36)]⟩ (hold Q .mk) :=
  (CC.spec_ParseWorld_l3 B hB1 hB2 text v out names21 i22 v32 x34) out36 k o hF

set_option maxRecDepth 100000 in
set_option maxHeartbeats 400000 in
theorem CC.spec_ParseWorld_l2 (B : Nat) (hB1 : 67108864 ≤ B) (hB2 : B ≤ 9223372036854775807) (text : ByteArray) (v : List ByteArray) (names21 : List ByteArray) : (∀ (out : List Vl.Data) (i22 : Nat) (o : List Vl.Data), F.spec_ParseWorld_l2 text v out names21 i22 = some o → ∀ (c : Code), navO [1, 1, 1, 1, 1, 0, 1, 0, 0] (bodyOf Try.f81) = some c → ∀ (Q : Exit → ASt → Prop), Q (.exit 2) ⟨[(0, .lit (.string text)), (4, .own 0 (List.length (α := Vl.Data) o))], [.elems 2 (List.map Vl.Data.c o)]⟩ → ALoopU Try.prog B 0 101 (hold c .mk) ⟨[(0, .lit (.string text)), (4, .own 0 (List.length (α := Vl.Data) out)), (5, .arr (List.map cS names21)), (6, .arr (List.map cS v)), (9, .lit (.int .i64 (i22 : Int)))], [.elems 2 (List.map Vl.Data.c out), .dead]⟩ (hold Q .mk)) := by
  refine F.spec_ParseWorld_l2.partial_correctness text v names21
    (fun out i22 o => ∀ (c : Code), navO [1, 1, 1, 1, 1, 0, 1, 0, 0] (bodyOf Try.f81) = some c → ∀ (Q : Exit → ASt → Prop), Q (.exit 2) ⟨[(0, .lit (.string text)), (4, .own 0 (List.length (α := Vl.Data) o))], [.elems 2 (List.map Vl.Data.c o)]⟩ → ALoopU Try.prog B 0 101 (hold c .mk) ⟨[(0, .lit (.string text)), (4, .own 0 (List.length (α := Vl.Data) out)), (5, .arr (List.map cS names21)), (6, .arr (List.map cS v)), (9, .lit (.int .i64 (i22 : Int)))], [.elems 2 (List.map Vl.Data.c out), .dead]⟩ (hold Q .mk))
    ?_
  · intro _f_spec_ParseWorld_l2 ih_spec_ParseWorld_l2 out i22 o hF
    intro c hc Q hq
    obtain rfl : c = _ := navEq hc rfl
    refine ALoopU.know fun hk hs => ?_
    have b5 := hk 5
    simp -dsimp at b5
    have b6 := hk 6
    simp -dsimp at b6
    have d0 := hs 0 _ rfl
    simp -dsimp [Blk.bnd] at d0
    clear hk hs
    refine ALoopU.enter ?_
    simp -dsimp
    repeat (refine chk.go (by first | omega | assumption | (simp_all; done) | (simp_all; omega)) ?_; try simp -dsimp)
    refine abr.split (fun h23 => ?_) (fun h23 => ?_)
    · have q24 : (i22 < names21.length) := by first | exact h23 | omega | (simpa using h23) | (simp at h23 ⊢; omega) | simp_all
      have z25 : ((i22 : Int) < (names21.length : Int)) := by first | omega | simp_all
      rw [if_pos q24] at hF
      have hF := ob hF; obtain ⟨x26, e27, hF⟩ := hF
      have le27 := lt_of_get e27
      simp -dsimp [h23, z25, ↓e27]
      repeat (refine chk.go (by first | omega | assumption | (simp_all; done) | (simp_all; omega)) ?_; try simp -dsimp [h23, z25, ↓e27])
      have hF := ob hF; obtain ⟨v28, e29, hF⟩ := hF
      refine ((C.spec_l17Cut B hB1 hB2 x26 (61 : Int) v28 e29)).goW (by first | (simp; done) | (simp [h23, z25, ↓e27]; done) | simp_all) (by simp) ?_
      have hF := ob hF; obtain ⟨x30, e31, hF⟩ := hF
      have le31 := lt_of_get e31
      simp -dsimp [h23, z25, ↓e27, ↓e31]
      repeat (refine chk.go (by first | omega | assumption | (simp_all; done) | (simp_all; omega)) ?_; try simp -dsimp [h23, z25, ↓e27, ↓e31])
      have hF := ob hF; obtain ⟨v32, e33, hF⟩ := hF
      refine ((C.spec_l17Cut B hB1 hB2 x30 (124 : Int) v32 e33)).goW (by first | (simp; done) | (simp [h23, z25, ↓e27, ↓e31]; done) | simp_all) (by simp) ?_
      have hF := ob hF; obtain ⟨x34, e35, hF⟩ := hF
      have le35 := lt_of_get e35
      simp -dsimp [h23, z25, ↓e27, ↓e31, ↓e35]
      repeat (refine chk.go (by first | omega | assumption | (simp_all; done) | (simp_all; omega)) ?_; try simp -dsimp [h23, z25, ↓e27, ↓e31, ↓e35])
      have hF := ob hF; obtain ⟨o'50, ho49, hF⟩ := hF
      refine ALoop.goU ⟨[(0, .lit (.string text)), (4, .own 0 (List.length (α := Vl.Data) out)), (5, .arr (List.map cS names21)), (6, .arr (List.map cS v)), (9, .lit (.int .i64 (i22 : Int))), (10, .arr (List.map cS v32)), (11, .ptr 2 0), (12, .lit (.int .i64 (0 : Int)))], [.elems 2 (List.map Vl.Data.c out), .dead, .cells [.lit (.string x34), .own 3 (List.length (α := Vl.Ctor) [])], .elems 3 (List.map Vl.Ctor.c [])]⟩ ((Gh.nilCell 2 1 3 (by simp -dsimp; rfl) (by simp -dsimp)).trans (Gh.to (by simp) (by first | (simp -dsimp; done) | (simp -dsimp [h23, z25, ↓e27, ↓e31, ↓e35]; done) | simp_all) (by first | (simp -dsimp; done) | (simp -dsimp [h23, z25, ↓e27, ↓e31, ↓e35]; done) | simp_all) (by first | (simp -dsimp; done) | (simp -dsimp [h23, z25, ↓e27, ↓e31, ↓e35]; done) | simp_all))) ?_
      refine (C.spec_ParseWorld_l3 B hB1 hB2 text v out names21 i22 v32 x34 [] 0 o'50 ho49) _ rfl _ ?_
      have hF := oc hF; obtain ⟨c51, hF⟩ := hF
      have hF := oc hF; obtain ⟨c52, hF⟩ := hF
      have w53 : IntKind.i64.wrap ((i22 : Int) + 1) = (i22 : Int) + 1 := wrap_in (by omega) (by omega)
      simp -dsimp [w53]
      repeat (refine chk.go (by first | omega | assumption | (simp_all; done) | (simp_all; omega)) ?_; try simp -dsimp [w53])
      refine Again.go ⟨[(0, .lit (.string text)), (4, .own 0 (List.length (α := Vl.Data) (out ++ [(⟨x34, o'50⟩ : Vl.Data)]))), (5, .arr (List.map cS names21)), (6, .arr (List.map cS v)), (9, .lit (.int .i64 ((i22 + 1) : Int)))], [.elems 2 (List.map Vl.Data.c (out ++ [(⟨x34, o'50⟩ : Vl.Data)])), .dead]⟩ (Gh.to (by simp) (by first | (simp -dsimp; done) | (simp -dsimp [w53]; done) | simp_all) (by first | (simp -dsimp; done) | (simp -dsimp [w53]; done) | simp_all) (by first | (simp -dsimp; done) | (simp -dsimp [w53]; done) | simp_all)) ?_
      exact (ih_spec_ParseWorld_l2 (out ++ [(⟨x34, o'50⟩ : Vl.Data)]) (i22 + 1) o hF) _ rfl _ hq
    · have q24 : ¬ (i22 < names21.length) := by first | exact h23 | omega | (simpa using h23) | (simp at h23 ⊢; omega) | simp_all
      have z25 : ¬ ((i22 : Int) < (names21.length : Int)) := by first | omega | simp_all
      rw [if_neg q24] at hF
      cases hF
      simp -dsimp [h23, q24, z25]
      repeat (refine chk.go (by first | omega | assumption | (simp_all; done) | (simp_all; omega)) ?_; try simp -dsimp [h23, q24, z25])
      refine Leave.go ⟨[(0, .lit (.string text)), (4, .own 0 (List.length (α := Vl.Data) out))], [.elems 2 (List.map Vl.Data.c out)]⟩ (Gh.to (by simp) (by first | (simp -dsimp; done) | (simp -dsimp [h23, q24, z25]; done) | simp_all) (by first | (simp -dsimp; done) | (simp -dsimp [h23, q24, z25]; done) | simp_all) (by first | (simp -dsimp; done) | (simp -dsimp [h23, q24, z25]; done) | simp_all)) ?_
      exact hq

theorem C.spec_ParseWorld_l2 (B : Nat) (hB1 : 67108864 ≤ B) (hB2 : B ≤ 9223372036854775807) (text : ByteArray) (v : List ByteArray) (out : List Vl.Data) (names21 : List ByteArray) (i22 : Nat) (o : List Vl.Data) (hF : F.spec_ParseWorld_l2 text v out names21 i22 = some o) : ∀ (c : Code), navO [1, 1, 1, 1, 1, 0, 1, 0, 0] (bodyOf Try.f81) = some c → ∀ (Q : Exit → ASt → Prop), Q (.exit 2) ⟨[(0, .lit (.string text)), (4, .own 0 (List.length (α := Vl.Data) o))], [.elems 2 (List.map Vl.Data.c o)]⟩ → ALoopU Try.prog B 0 101 (hold c .mk) ⟨[(0, .lit (.string text)), (4, .own 0 (List.length (α := Vl.Data) out)), (5, .arr (List.map cS names21)), (6, .arr (List.map cS v)), (9, .lit (.int .i64 (i22 : Int)))], [.elems 2 (List.map Vl.Data.c out), .dead]⟩ (hold Q .mk) :=
  (CC.spec_ParseWorld_l2 B hB1 hB2 text v names21) out i22 o hF

set_option maxRecDepth 100000 in
set_option maxHeartbeats 400000 in
theorem C.spec_ParseWorld (B : Nat) (hB1 : 67108864 ≤ B) (hB2 : B ≤ 9223372036854775807) (text : ByteArray) (r : (List Vl.Data) × Bool) (hF : F.spec_ParseWorld text = some r) : PureCall Try.prog B 81 [.lit (.string text)] (.tup [.arr (List.map Vl.Data.c r.1), .lit (.bool r.2)]) := by
  unfold F.spec_ParseWorld at hF
  refine PureCall.enterLe Try.func81 (by kernel_rfl) rfl Try.ntmps81 (by simp) (by simp) ?_
  simp -dsimp
  repeat (refine chk.go (by first | omega | assumption | (simp_all; done) | (simp_all; omega)) ?_; try simp -dsimp)
  have hF := ob hF; obtain ⟨v, e1, hF⟩ := hF
  refine ((C.spec_l17Cut B hB1 hB2 text (59 : Int) v e1)).goW (by simp) (by simp) ?_
  simp -dsimp
  repeat (refine chk.go (by first | omega | assumption | (simp_all; done) | (simp_all; omega)) ?_; try simp -dsimp)
  have hF := ob hF; obtain ⟨o', ho20, hF⟩ := hF
  refine ALoop.goU ⟨[(0, .lit (.string text)), (4, .own 0 (List.length (α := Vl.Data) [])), (5, .own 1 (List.length (α := ByteArray) [])), (6, .arr (List.map cS v)), (7, .lit (.int .i64 (0 : Int)))], [.elems 2 (List.map Vl.Data.c []), .elems 1 (List.map cS [])]⟩ (Gh.to (by simp) (by simp -dsimp) (by simp -dsimp) (by simp -dsimp)) ?_
  refine (C.spec_ParseWorld_l1 B hB1 hB2 text v [] 0 o' ho20) _ rfl _ ?_
  rcases o' with r0 | s
  · dsimp only at hF
    cases hF
    intro st h
    simpa using h
  · dsimp only at hF
    simp -dsimp
    repeat (refine chk.go (by first | omega | assumption | (simp_all; done) | (simp_all; omega)) ?_; try simp -dsimp)
    have hF := ob hF; obtain ⟨o'55, ho54, hF⟩ := hF
    refine ALoop.goU ⟨[(0, .lit (.string text)), (4, .own 0 (List.length (α := Vl.Data) [])), (5, .arr (List.map cS s)), (6, .arr (List.map cS v)), (9, .lit (.int .i64 (0 : Int)))], [.elems 2 (List.map Vl.Data.c []), .dead]⟩ ((Gh.frzSlot 5 (l := 1) (n := List.length (α := ByteArray) s) (sz := 1) (es := List.map cS s) (by simp) (by simp) (by simp) (by simp)).trans (Gh.to (by simp) (by simp -dsimp) (by simp -dsimp) (by simp -dsimp))) ?_
    refine (C.spec_ParseWorld_l2 B hB1 hB2 text v [] s 0 o'55 ho54) _ rfl _ ?_
    simp -dsimp
    repeat (refine chk.go (by first | omega | assumption | (simp_all; done) | (simp_all; omega)) ?_; try simp -dsimp)
    have hF := ob hF; obtain ⟨v56, e57, hF⟩ := hF
    refine ((C.spec_WorldValid B hB1 hB2 o'55 v56 e57)).lend (by simp -dsimp) (by simp -dsimp) ?_
    simp -dsimp
    repeat (refine chk.go (by first | omega | assumption | (simp_all; done) | (simp_all; omega)) ?_; try simp -dsimp)
    refine abr.split (fun h58 => ?_) (fun h58 => ?_)
    · have q59 : (v56 = true) := by first | exact h58 | omega | (simpa using h58) | (simp at h58 ⊢; omega) | simp_all
      rw [if_pos q59] at hF
      simp -dsimp [h58]
      repeat (refine chk.go (by first | omega | assumption | (simp_all; done) | (simp_all; omega)) ?_; try simp -dsimp [h58])
      have hF := ob hF; obtain ⟨v60, e61, hF⟩ := hF
      refine ((C.spec_l1Text B hB1 hB2 o'55 v60 e61)).lend (by first | (simp -dsimp; done) | (simp -dsimp [h58]; done) | simp_all) (by simp -dsimp) ?_
      simp -dsimp [h58]
      repeat (refine chk.go (by first | omega | assumption | (simp_all; done) | (simp_all; omega)) ?_; try simp -dsimp [h58])
      refine abr.split (fun h62 => ?_) (fun h62 => ?_)
      · have q63 : ¬ (v60.toList = text.toList) := by first | exact h62 | omega | (simpa using h62) | (simp at h62 ⊢; omega) | simp_all
        rw [if_neg q63] at hF
        cases hF
        simp -dsimp [h58, h62, q63]
        repeat (refine chk.go (by first | omega | assumption | (simp_all; done) | (simp_all; omega)) ?_; try simp -dsimp [h58, h62, q63])
      · have q63 : (v60.toList = text.toList) := by first | exact h62 | omega | (simpa using h62) | (simp at h62 ⊢; omega) | simp_all
        rw [if_pos q63] at hF
        cases hF
        simp -dsimp [h58, h62, q63]
        repeat (refine chk.go (by first | omega | assumption | (simp_all; done) | (simp_all; omega)) ?_; try simp -dsimp [h58, h62, q63])
    · have q59 : ¬ (v56 = true) := by first | exact h58 | omega | (simpa using h58) | (simp at h58 ⊢; omega) | simp_all
      rw [if_neg q59] at hF
      cases hF
      simp -dsimp [h58, q59]
      repeat (refine chk.go (by first | omega | assumption | (simp_all; done) | (simp_all; omega)) ?_; try simp -dsimp [h58, q59])

set_option maxRecDepth 100000 in
set_option maxHeartbeats 400000 in
theorem C.spec_l1World (B : Nat) (hB1 : 67108864 ≤ B) (hB2 : B ≤ 9223372036854775807) (r' : Vl.T_spec_l17Rd) (r : (List Vl.Data) × Vl.T_spec_l17Rd) (hF : F.spec_l1World r' = some r) : MutCall Try.prog B 53 [.arr (List.map cU r'.f0), .lit (.int .i64 r'.f1)] [.ptr 0 0] (.arr (List.map Vl.Data.c r.1)) [.arr (List.map cU r.2.f0), .lit (.int .i64 r.2.f1)] := by
  unfold F.spec_l1World at hF
  refine MutCall.enter Try.func53 (by kernel_rfl) rfl Try.ntmps53 (by simp) (by simp) (by simp) (by simp) ?_
  simp -dsimp
  repeat (refine chk.go (by first | omega | assumption | (simp_all; done) | (simp_all; omega)) ?_; try simp -dsimp)
  have hF := ob hF; obtain ⟨v, e1, hF⟩ := hF
  refine ((C.spec_l1Texts B hB1 hB2 v e1)).goW (by simp) (by simp) ?_
  simp -dsimp
  repeat (refine chk.go (by first | omega | assumption | (simp_all; done) | (simp_all; omega)) ?_; try simp -dsimp)
  have hF := ob hF; obtain ⟨v2, e3, hF⟩ := hF
  refine ((C.spec_l17Rd_pick B hB1 hB2 r' (IntKind.i64.wrap ((v.length : Int) - 1)) v2 e3)).go 0 rfl (by simp) (by simp) (by simp) ?_
  have hF := ob hF; obtain ⟨x, e4a, hF⟩ := hF
  have e4a := at_some e4a; obtain ⟨ne4, e4⟩ := e4a
  have le4 := lt_of_get e4
  simp -dsimp [↓e4]
  repeat (refine chk.go (by first | omega | assumption | (simp_all; done) | (simp_all; omega)) ?_; try simp -dsimp [↓e4])
  have hF := ob hF; obtain ⟨v5, e6, hF⟩ := hF
  refine ((C.spec_ParseWorld B hB1 hB2 x v5 e6)).goW (by first | (simp; done) | (simp [↓e4]; done) | simp_all) (by simp) ?_
  cases hF
  simp -dsimp [↓e4]
  repeat (refine chk.go (by first | omega | assumption | (simp_all; done) | (simp_all; omega)) ?_; try simp -dsimp [↓e4])

set_option maxRecDepth 100000 in
set_option maxHeartbeats 400000 in
theorem C.spec_l17Rd_num (B : Nat) (hB1 : 67108864 ≤ B) (hB2 : B ≤ 9223372036854775807) (r' : Vl.T_spec_l17Rd) (list : List Int) (r : Int × Vl.T_spec_l17Rd) (hF : F.spec_l17Rd_num r' list = some r) : MutCall Try.prog B 56 [.arr (List.map cU r'.f0), .lit (.int .i64 r'.f1)] [.ptr 0 0, .arr (List.map cI list)] (.lit (.int .i64 r.1)) [.arr (List.map cU r.2.f0), .lit (.int .i64 r.2.f1)] := by
  unfold F.spec_l17Rd_num at hF
  refine MutCall.enter Try.func56 (by kernel_rfl) rfl Try.ntmps56 (by simp) (by simp) (by simp) (by simp) ?_
  simp -dsimp
  repeat (refine chk.go (by first | omega | assumption | (simp_all; done) | (simp_all; omega)) ?_; try simp -dsimp)
  have hF := ob hF; obtain ⟨v, e1, hF⟩ := hF
  refine ((C.spec_l17Rd_pick B hB1 hB2 r' (list.length : Int) v e1)).go 0 rfl (by simp) (by simp) (by simp) ?_
  have hF := ob hF; obtain ⟨x, e2a, hF⟩ := hF
  have e2a := at_some e2a; obtain ⟨ne2, e2⟩ := e2a
  have le2 := lt_of_get e2
  cases hF
  simp -dsimp [↓e2]
  repeat (refine chk.go (by first | omega | assumption | (simp_all; done) | (simp_all; omega)) ?_; try simp -dsimp [↓e2])

set_option maxRecDepth 100000 in
set_option maxHeartbeats 400000 in
theorem C.spec_l1Some (B : Nat) (hB1 : 67108864 ≤ B) (hB2 : B ≤ 9223372036854775807) (r' : Vl.T_spec_l17Rd) (w : List Vl.Data) (r : Vl.Ty × Vl.T_spec_l17Rd) (hF : F.spec_l1Some r' w = some r) : MutCall Try.prog B 54 [.arr (List.map cU r'.f0), .lit (.int .i64 r'.f1)] [.ptr 0 0, .arr (List.map Vl.Data.c w)] (.agg [.lit (.int .i64 r.1.data), .lit (.int .i64 r.1.index)]) [.arr (List.map cU r.2.f0), .lit (.int .i64 r.2.f1)] := by
  unfold F.spec_l1Some at hF
  refine MutCall.enter Try.func54 (by kernel_rfl) rfl Try.ntmps54 (by simp) (by simp) (by simp) (by simp) ?_
  simp -dsimp
  repeat (refine chk.go (by first | omega | assumption | (simp_all; done) | (simp_all; omega)) ?_; try simp -dsimp)
  have hF := ob hF; obtain ⟨v, e1, hF⟩ := hF
  refine ((C.spec_l17Rd_pick B hB1 hB2 r' (16 : Int) v e1)).go 0 rfl (by simp) (by simp) (by simp) ?_
  simp -dsimp
  repeat (refine chk.go (by first | omega | assumption | (simp_all; done) | (simp_all; omega)) ?_; try simp -dsimp)
  refine abr.split (fun h2 => ?_) (fun h2 => ?_)
  · have q3 : (v.1 = 0) := by first | exact h2 | omega | (simpa using h2) | (simp at h2 ⊢; omega) | simp_all
    rw [if_pos q3] at hF
    simp -dsimp [h2]
    repeat (refine chk.go (by first | omega | assumption | (simp_all; done) | (simp_all; omega)) ?_; try simp -dsimp [h2])
    have hF := ob hF; obtain ⟨v4, e5, hF⟩ := hF
    refine ACall.frz ?_ ((C.spec_l17Rd_num B hB1 hB2 v.2 [(-1 : Int), (-2 : Int), (9 : Int), (0 : Int)] v4 e5)).ent
    simp -dsimp [h2]
    repeat (refine chk.go (by first | omega | assumption | (simp_all; done) | (simp_all; omega)) ?_; try simp -dsimp [h2])
    refine ((C.spec_l17Rd_num B hB1 hB2 v.2 [(-1 : Int), (-2 : Int), (9 : Int), (0 : Int)] v4 e5)).go 0 rfl (by first | (simp; done) | (simp [h2]; done) | simp_all) (by simp) (by first | (simp; done) | (simp [h2]; done) | simp_all) ?_
    simp -dsimp [h2]
    repeat (refine chk.go (by first | omega | assumption | (simp_all; done) | (simp_all; omega)) ?_; try simp -dsimp [h2])
    have hF := ob hF; obtain ⟨v6, e7, hF⟩ := hF
    refine ACall.frz ?_ ((C.spec_l17Rd_num B hB1 hB2 v4.2 [(0 : Int), (1 : Int), (-1 : Int), (4 : Int)] v6 e7)).ent
    simp -dsimp [h2]
    repeat (refine chk.go (by first | omega | assumption | (simp_all; done) | (simp_all; omega)) ?_; try simp -dsimp [h2])
    refine ((C.spec_l17Rd_num B hB1 hB2 v4.2 [(0 : Int), (1 : Int), (-1 : Int), (4 : Int)] v6 e7)).go 0 rfl (by first | (simp; done) | (simp [h2]; done) | simp_all) (by simp) (by first | (simp; done) | (simp [h2]; done) | simp_all) ?_
    cases hF
    simp -dsimp [h2]
    repeat (refine chk.go (by first | omega | assumption | (simp_all; done) | (simp_all; omega)) ?_; try simp -dsimp [h2])
  · have q3 : ¬ (v.1 = 0) := by first | exact h2 | omega | (simpa using h2) | (simp at h2 ⊢; omega) | simp_all
    rw [if_neg q3] at hF
    simp -dsimp [h2, q3]
    repeat (refine chk.go (by first | omega | assumption | (simp_all; done) | (simp_all; omega)) ?_; try simp -dsimp [h2, q3])
    have hF := ob hF; obtain ⟨v8, e9, hF⟩ := hF
    refine ((C.spec_l17Rd_pick B hB1 hB2 v.2 (8 : Int) v8 e9)).go 0 rfl (by first | (simp; done) | (simp [h2, q3]; done) | simp_all) (by simp) (by first | (simp; done) | (simp [h2, q3]; done) | simp_all) ?_
    simp -dsimp [h2, q3]
    repeat (refine chk.go (by first | omega | assumption | (simp_all; done) | (simp_all; omega)) ?_; try simp -dsimp [h2, q3])
    refine abr.split (fun h10 => ?_) (fun h10 => ?_)
    · have q11 : (v8.1 = 0) := by first | exact h10 | omega | (simpa using h10) | (simp at h10 ⊢; omega) | simp_all
      rw [if_pos q11] at hF
      cases hF
      simp -dsimp [h2, q3, h10]
      repeat (refine chk.go (by first | omega | assumption | (simp_all; done) | (simp_all; omega)) ?_; try simp -dsimp [h2, q3, h10])
    · have q11 : ¬ (v8.1 = 0) := by first | exact h10 | omega | (simpa using h10) | (simp at h10 ⊢; omega) | simp_all
      rw [if_neg q11] at hF
      simp -dsimp [h2, q3, h10, q11]
      repeat (refine chk.go (by first | omega | assumption | (simp_all; done) | (simp_all; omega)) ?_; try simp -dsimp [h2, q3, h10, q11])
      have hF := ob hF; obtain ⟨v12, e13, hF⟩ := hF
      refine ((C.spec_l17Rd_pick B hB1 hB2 v8.2 (w.length : Int) v12 e13)).go 0 rfl (by first | (simp; done) | (simp [h2, q3, h10, q11]; done) | simp_all) (by simp) (by first | (simp; done) | (simp [h2, q3, h10, q11]; done) | simp_all) ?_
      simp -dsimp [h2, q3, h10, q11]
      repeat (refine chk.go (by first | omega | assumption | (simp_all; done) | (simp_all; omega)) ?_; try simp -dsimp [h2, q3, h10, q11])
      have hF := ob hF; obtain ⟨v14, e15, hF⟩ := hF
      refine ACall.frz ?_ ((C.spec_l17Rd_num B hB1 hB2 v12.2 [(0 : Int), (0 : Int), (1 : Int), (2 : Int), (0 : Int), (3 : Int)] v14 e15)).ent
      simp -dsimp [h2, q3, h10, q11]
      repeat (refine chk.go (by first | omega | assumption | (simp_all; done) | (simp_all; omega)) ?_; try simp -dsimp [h2, q3, h10, q11])
      refine ((C.spec_l17Rd_num B hB1 hB2 v12.2 [(0 : Int), (0 : Int), (1 : Int), (2 : Int), (0 : Int), (3 : Int)] v14 e15)).go 0 rfl (by first | (simp; done) | (simp [h2, q3, h10, q11]; done) | simp_all) (by simp) (by first | (simp; done) | (simp [h2, q3, h10, q11]; done) | simp_all) ?_
      cases hF
      simp -dsimp [h2, q3, h10, q11]
      repeat (refine chk.go (by first | omega | assumption | (simp_all; done) | (simp_all; omega)) ?_; try simp -dsimp [h2, q3, h10, q11])

set_option maxRecDepth 100000 in
set_option maxHeartbeats 400000 in
theorem C.spec_DrawTypeFits (B : Nat) (hB1 : 67108864 ≤ B) (hB2 : B ≤ 9223372036854775807) (code : List Int) (r : (List Vl.Data) × Vl.Ty × Vl.Ty) (hF : F.spec_DrawTypeFits code = some r) : PureCall Try.prog B 20 [.arr (List.map cU code)] (.tup [.arr (List.map Vl.Data.c r.1), .agg [.lit (.int .i64 r.2.1.data), .lit (.int .i64 r.2.1.index)], .agg [.lit (.int .i64 r.2.2.data), .lit (.int .i64 r.2.2.index)]]) := by
  unfold F.spec_DrawTypeFits at hF
  refine PureCall.enterLe Try.func20 (by kernel_rfl) rfl Try.ntmps20 (by simp) (by simp) ?_
  simp -dsimp
  repeat (refine chk.go (by first | omega | assumption | (simp_all; done) | (simp_all; omega)) ?_; try simp -dsimp)
  refine ACall.inl Try.func52 (by kernel_rfl) rfl Try.ntmps52 (by simp) ?_
  simp -dsimp
  repeat (refine chk.go (by first | omega | assumption | (simp_all; done) | (simp_all; omega)) ?_; try simp -dsimp)
  refine abr.split (fun h1 => ?_) (fun h1 => ?_)
  · have q2 : (2000 < code.length) := by first | exact h1 | omega | (simpa using h1) | (simp at h1 ⊢; omega) | simp_all
    have z3 : ((2000 : Int) < (code.length : Int)) := by first | omega | simp_all
    rw [if_pos q2] at hF
    have hF := oc hF; obtain ⟨c4, hF⟩ := hF
    simp -dsimp [h1, z3]
    repeat (refine chk.go (by first | omega | assumption | (simp_all; done) | (simp_all; omega)) ?_; try simp -dsimp [h1, z3])
    have hF := ob hF; obtain ⟨v, e5, hF⟩ := hF
    refine ((C.spec_l1World B hB1 hB2 (⟨(code.drop 0).take (2000 - 0), (0 : Int)⟩ : Vl.T_spec_l17Rd) v e5)).go 2 rfl (by first | (simp; done) | (simp [h1, z3]; done) | simp_all) (by simp) (by first | (simp; done) | (simp [h1, z3]; done) | simp_all) ?_
    simp -dsimp [h1, z3]
    repeat (refine chk.go (by first | omega | assumption | (simp_all; done) | (simp_all; omega)) ?_; try simp -dsimp [h1, z3])
    have hF := ob hF; obtain ⟨v6, e7, hF⟩ := hF
    refine ((C.spec_l1Some B hB1 hB2 v.2 v.1 v6 e7)).go 2 rfl (by first | (simp; done) | (simp [h1, z3]; done) | simp_all) (by simp) (by first | (simp; done) | (simp [h1, z3]; done) | simp_all) ?_
    simp -dsimp [h1, z3]
    repeat (refine chk.go (by first | omega | assumption | (simp_all; done) | (simp_all; omega)) ?_; try simp -dsimp [h1, z3])
    have hF := ob hF; obtain ⟨v8, e9, hF⟩ := hF
    refine ((C.spec_l17Rd_pick B hB1 hB2 v6.2 (2 : Int) v8 e9)).go 2 rfl (by first | (simp; done) | (simp [h1, z3]; done) | simp_all) (by simp) (by first | (simp; done) | (simp [h1, z3]; done) | simp_all) ?_
    simp -dsimp [h1, z3]
    repeat (refine chk.go (by first | omega | assumption | (simp_all; done) | (simp_all; omega)) ?_; try simp -dsimp [h1, z3])
    refine abr.split (fun h10 => ?_) (fun h10 => ?_)
    · have q11 : (v8.1 = 0) := by first | exact h10 | omega | (simpa using h10) | (simp at h10 ⊢; omega) | simp_all
      rw [if_pos q11] at hF
      simp -dsimp [h1, z3, h10]
      repeat (refine chk.go (by first | omega | assumption | (simp_all; done) | (simp_all; omega)) ?_; try simp -dsimp [h1, z3, h10])
      refine ADraw.eff [56] [(0, 2), (0, 2), (0, 3), (0, 3), (0, 1), (0, 4), (0, 4), (2, 3), (2, 2), (0, 4), (0, 4)] [1, 2, 0, 2, 1, 1, 1, 0, 1, 1, 1] follows (by kernel_rfl) (by kernel_rfl) (by kernel_rfl) ?_
      simp -dsimp [h1, z3, h10]
      repeat (refine chk.go (by first | omega | assumption | (simp_all; done) | (simp_all; omega)) ?_; try simp -dsimp [h1, z3, h10])
      have hF := ob hF; obtain ⟨v12, e13, hF⟩ := hF
      refine ECallA.frz ?_ ((C.spec_l17Rd_num B hB1 hB2 v8.2 [(0 : Int), (1 : Int), (2 : Int)] v12 e13)).ent
      simp -dsimp [h1, z3, h10]
      repeat (refine chk.go (by first | omega | assumption | (simp_all; done) | (simp_all; omega)) ?_; try simp -dsimp [h1, z3, h10])
      refine ((C.spec_l17Rd_num B hB1 hB2 v8.2 [(0 : Int), (1 : Int), (2 : Int)] v12 e13)).ego 2 rfl (by first | (simp; done) | (simp [h1, z3, h10]; done) | simp_all) (by simp) (by first | (simp; done) | (simp [h1, z3, h10]; done) | simp_all) ?_
      cases hF
      simp -dsimp [h1, z3, h10]
      repeat (refine chk.go (by first | omega | assumption | (simp_all; done) | (simp_all; omega)) ?_; try simp -dsimp [h1, z3, h10])
    · have q11 : ¬ (v8.1 = 0) := by first | exact h10 | omega | (simpa using h10) | (simp at h10 ⊢; omega) | simp_all
      rw [if_neg q11] at hF
      simp -dsimp [h1, z3, h10, q11]
      repeat (refine chk.go (by first | omega | assumption | (simp_all; done) | (simp_all; omega)) ?_; try simp -dsimp [h1, z3, h10, q11])
      refine ADraw.eff [54] [(0, 1), (0, 1), (0, 0), (0, 0), (0, 3), (1, 1), (0, 3), (0, 3)] [1, 2, 1, 1, 1, 1, 1, 1] follows (by kernel_rfl) (by kernel_rfl) (by kernel_rfl) ?_
      simp -dsimp [h1, z3, h10, q11]
      repeat (refine chk.go (by first | omega | assumption | (simp_all; done) | (simp_all; omega)) ?_; try simp -dsimp [h1, z3, h10, q11])
      have hF := ob hF; obtain ⟨v14, e15, hF⟩ := hF
      refine ((C.spec_l1Some B hB1 hB2 v8.2 v.1 v14 e15)).ego 2 rfl (by first | (simp; done) | (simp [h1, z3, h10, q11]; done) | simp_all) (by simp) (by first | (simp; done) | (simp [h1, z3, h10, q11]; done) | simp_all) ?_
      cases hF
      simp -dsimp [h1, z3, h10, q11]
      repeat (refine chk.go (by first | omega | assumption | (simp_all; done) | (simp_all; omega)) ?_; try simp -dsimp [h1, z3, h10, q11])
  · have q2 : ¬ (2000 < code.length) := by first | exact h1 | omega | (simpa using h1) | (simp at h1 ⊢; omega) | simp_all
    have z3 : ¬ ((2000 : Int) < (code.length : Int)) := by first | omega | simp_all
    rw [if_neg q2] at hF
    simp -dsimp [h1, q2, z3]
    repeat (refine chk.go (by first | omega | assumption | (simp_all; done) | (simp_all; omega)) ?_; try simp -dsimp [h1, q2, z3])
    have hF := ob hF; obtain ⟨v16, e17, hF⟩ := hF
    refine ((C.spec_l1World B hB1 hB2 (⟨code, (0 : Int)⟩ : Vl.T_spec_l17Rd) v16 e17)).go 2 rfl (by first | (simp; done) | (simp [h1, q2, z3]; done) | simp_all) (by simp) (by first | (simp; done) | (simp [h1, q2, z3]; done) | simp_all) ?_
    simp -dsimp [h1, q2, z3]
    repeat (refine chk.go (by first | omega | assumption | (simp_all; done) | (simp_all; omega)) ?_; try simp -dsimp [h1, q2, z3])
    have hF := ob hF; obtain ⟨v18, e19, hF⟩ := hF
    refine ((C.spec_l1Some B hB1 hB2 v16.2 v16.1 v18 e19)).go 2 rfl (by first | (simp; done) | (simp [h1, q2, z3]; done) | simp_all) (by simp) (by first | (simp; done) | (simp [h1, q2, z3]; done) | simp_all) ?_
    simp -dsimp [h1, q2, z3]
    repeat (refine chk.go (by first | omega | assumption | (simp_all; done) | (simp_all; omega)) ?_; try simp -dsimp [h1, q2, z3])
    have hF := ob hF; obtain ⟨v20, e21, hF⟩ := hF
    refine ((C.spec_l17Rd_pick B hB1 hB2 v18.2 (2 : Int) v20 e21)).go 2 rfl (by first | (simp; done) | (simp [h1, q2, z3]; done) | simp_all) (by simp) (by first | (simp; done) | (simp [h1, q2, z3]; done) | simp_all) ?_
    simp -dsimp [h1, q2, z3]
    repeat (refine chk.go (by first | omega | assumption | (simp_all; done) | (simp_all; omega)) ?_; try simp -dsimp [h1, q2, z3])
    refine abr.split (fun h22 => ?_) (fun h22 => ?_)
    · have q23 : (v20.1 = 0) := by first | exact h22 | omega | (simpa using h22) | (simp at h22 ⊢; omega) | simp_all
      rw [if_pos q23] at hF
      simp -dsimp [h1, q2, z3, h22]
      repeat (refine chk.go (by first | omega | assumption | (simp_all; done) | (simp_all; omega)) ?_; try simp -dsimp [h1, q2, z3, h22])
      refine ADraw.eff [56] [(0, 2), (0, 2), (0, 3), (0, 3), (0, 1), (0, 4), (0, 4), (2, 3), (2, 2), (0, 4), (0, 4)] [1, 2, 0, 2, 1, 1, 1, 0, 1, 1, 1] follows (by kernel_rfl) (by kernel_rfl) (by kernel_rfl) ?_
      simp -dsimp [h1, q2, z3, h22]
      repeat (refine chk.go (by first | omega | assumption | (simp_all; done) | (simp_all; omega)) ?_; try simp -dsimp [h1, q2, z3, h22])
      have hF := ob hF; obtain ⟨v24, e25, hF⟩ := hF
      refine ECallA.frz ?_ ((C.spec_l17Rd_num B hB1 hB2 v20.2 [(0 : Int), (1 : Int), (2 : Int)] v24 e25)).ent
      simp -dsimp [h1, q2, z3, h22]
      repeat (refine chk.go (by first | omega | assumption | (simp_all; done) | (simp_all; omega)) ?_; try simp -dsimp [h1, q2, z3, h22])
      refine ((C.spec_l17Rd_num B hB1 hB2 v20.2 [(0 : Int), (1 : Int), (2 : Int)] v24 e25)).ego 2 rfl (by first | (simp; done) | (simp [h1, q2, z3, h22]; done) | simp_all) (by simp) (by first | (simp; done) | (simp [h1, q2, z3, h22]; done) | simp_all) ?_
      cases hF
      simp -dsimp [h1, q2, z3, h22]
      repeat (refine chk.go (by first | omega | assumption | (simp_all; done) | (simp_all; omega)) ?_; try simp -dsimp [h1, q2, z3, h22])
    · have q23 : ¬ (v20.1 = 0) := by first | exact h22 | omega | (simpa using h22) | (simp at h22 ⊢; omega) | simp_all
      rw [if_neg q23] at hF
      simp -dsimp [h1, q2, z3, h22, q23]
      repeat (refine chk.go (by first | omega | assumption | (simp_all; done) | (simp_all; omega)) ?_; try simp -dsimp [h1, q2, z3, h22, q23])
      refine ADraw.eff [54] [(0, 1), (0, 1), (0, 0), (0, 0), (0, 3), (1, 1), (0, 3), (0, 3)] [1, 2, 1, 1, 1, 1, 1, 1] follows (by kernel_rfl) (by kernel_rfl) (by kernel_rfl) ?_
      simp -dsimp [h1, q2, z3, h22, q23]
      repeat (refine chk.go (by first | omega | assumption | (simp_all; done) | (simp_all; omega)) ?_; try simp -dsimp [h1, q2, z3, h22, q23])
      have hF := ob hF; obtain ⟨v26, e27, hF⟩ := hF
      refine ((C.spec_l1Some B hB1 hB2 v20.2 v16.1 v26 e27)).ego 2 rfl (by first | (simp; done) | (simp [h1, q2, z3, h22, q23]; done) | simp_all) (by simp) (by first | (simp; done) | (simp [h1, q2, z3, h22, q23]; done) | simp_all) ?_
      cases hF
      simp -dsimp [h1, q2, z3, h22, q23]
      repeat (refine chk.go (by first | omega | assumption | (simp_all; done) | (simp_all; omega)) ?_; try simp -dsimp [h1, q2, z3, h22, q23])

set_option maxRecDepth 100000 in
set_option maxHeartbeats 400000 in
theorem C.impl_within (B : Nat) (hB1 : 67108864 ≤ B) (hB2 : B ≤ 9223372036854775807) (n : Int) (low : Int) (high : Int) (r : Bool) (hF : F.impl_within n low high = some r) : PureCall Try.prog B 78 [.lit (.int .i64 n), .lit (.int .i64 low), .lit (.int .i64 high)] (.lit (.bool r)) := by
  unfold F.impl_within at hF
  refine PureCall.enterLe Try.func78 (by kernel_rfl) rfl Try.ntmps78 (by simp) (by simp) ?_
  simp -dsimp
  repeat (refine chk.go (by first | omega | assumption | (simp_all; done) | (simp_all; omega)) ?_; try simp -dsimp)
  refine abr.split (fun h1 => ?_) (fun h1 => ?_)
  · have q2 : (low ≤ n) := by first | exact h1 | omega | (simpa using h1) | (simp at h1 ⊢; omega) | simp_all
    rw [if_pos q2] at hF
    cases hF
    simp -dsimp [h1]
    repeat (refine chk.go (by first | omega | assumption | (simp_all; done) | (simp_all; omega)) ?_; try simp -dsimp [h1])
  · have q2 : ¬ (low ≤ n) := by first | exact h1 | omega | (simpa using h1) | (simp at h1 ⊢; omega) | simp_all
    rw [if_neg q2] at hF
    cases hF
    simp -dsimp [h1, q2]
    repeat (refine chk.go (by first | omega | assumption | (simp_all; done) | (simp_all; omega)) ?_; try simp -dsimp [h1, q2])

set_option maxRecDepth 100000 in
set_option maxHeartbeats 400000 in
theorem CC.impl_NameValid_l1 (B : Nat) (hB1 : 67108864 ≤ B) (hB2 : B ≤ 9223372036854775807) (s : ByteArray) : (∀ (i : Nat) (o : Lo Bool Unit), F.impl_NameValid_l1 s i = some o → ∀ (c : Code), navO [1, 1, 0, 1, 0, 0] (bodyOf Try.f99) = some c → ∀ (Q : Exit → ASt → Prop), o.post (fun r => ∀ st, Post Try.prog Try.f99 (fun r' _ => r'.le (.lit (.bool r))) .ret st → Q .ret st) (fun s => Q (.exit 0) ⟨[], []⟩) → ALoopU Try.prog B 0 34 (hold c .mk) ⟨[(0, .lit (.string s)), (3, .lit (.int .i64 (i : Int)))], []⟩ (hold Q .mk)) := by
  refine F.impl_NameValid_l1.partial_correctness s
    (fun i o => ∀ (c : Code), navO [1, 1, 0, 1, 0, 0] (bodyOf Try.f99) = some c → ∀ (Q : Exit → ASt → Prop), o.post (fun r => ∀ st, Post Try.prog Try.f99 (fun r' _ => r'.le (.lit (.bool r))) .ret st → Q .ret st) (fun s => Q (.exit 0) ⟨[], []⟩) → ALoopU Try.prog B 0 34 (hold c .mk) ⟨[(0, .lit (.string s)), (3, .lit (.int .i64 (i : Int)))], []⟩ (hold Q .mk))
    ?_
  · intro _f_impl_NameValid_l1 ih_impl_NameValid_l1 i o hF
    intro c hc Q hq
    obtain rfl : c = _ := navEq hc rfl
    refine ALoopU.know fun hk hs => ?_
    clear hk hs
    refine ALoopU.enter ?_
    simp -dsimp
    repeat (refine chk.go (by first | omega | assumption | (simp_all; done) | (simp_all; omega)) ?_; try simp -dsimp)
    refine abr.split (fun h11 => ?_) (fun h11 => ?_)
    · have q12 : (i < s.size) := by first | exact h11 | omega | (simpa using h11) | (simp at h11 ⊢; omega) | simp_all
      have z13 : ((i : Int) < (s.size : Int)) := by first | omega | simp_all
      rw [if_pos q12] at hF
      simp -dsimp [h11, z13]
      repeat (refine chk.go (by first | omega | assumption | (simp_all; done) | (simp_all; omega)) ?_; try simp -dsimp [h11, z13])
      refine abr.split (fun h14 => ?_) (fun h14 => ?_)
      · have q15 : ¬ (byteAt s i < 97) := by first | exact h14 | omega | (simpa using h14) | (simp at h14 ⊢; omega) | simp_all
        have z16 : ¬ (((byteAt s i : Nat) : Int) < (97 : Int)) := by first | omega | simp_all
        rw [if_neg q15] at hF
        simp -dsimp [h11, z13, h14, q15, z16]
        repeat (refine chk.go (by first | omega | assumption | (simp_all; done) | (simp_all; omega)) ?_; try simp -dsimp [h11, z13, h14, q15, z16])
        refine abr.split (fun h17 => ?_) (fun h17 => ?_)
        · have q18 : (122 < byteAt s i) := by first | exact h17 | omega | (simpa using h17) | (simp at h17 ⊢; omega) | simp_all
          have z19 : ((122 : Int) < ((byteAt s i : Nat) : Int)) := by first | omega | simp_all
          rw [if_pos q18] at hF
          cases hF
          simp -dsimp [h11, z13, h14, q15, z16, h17, z19]
          repeat (refine chk.go (by first | omega | assumption | (simp_all; done) | (simp_all; omega)) ?_; try simp -dsimp [h11, z13, h14, q15, z16, h17, z19])
          refine Leave.go _ (Gh.refl _) (hq _ ?_)
          simp -dsimp [h11, z13, h14, q15, z16, h17, z19]
          repeat (refine chk.go (by first | omega | assumption | (simp_all; done) | (simp_all; omega)) ?_; try simp -dsimp [h11, z13, h14, q15, z16, h17, z19])
        · have q18 : ¬ (122 < byteAt s i) := by first | exact h17 | omega | (simpa using h17) | (simp at h17 ⊢; omega) | simp_all
          have z19 : ¬ ((122 : Int) < ((byteAt s i : Nat) : Int)) := by first | omega | simp_all
          rw [if_neg q18] at hF
          have hF := oc hF; obtain ⟨c20, hF⟩ := hF
          have w21 : IntKind.i64.wrap ((i : Int) + 1) = (i : Int) + 1 := wrap_in (by omega) (by omega)
          simp -dsimp [h11, z13, h14, q15, z16, h17, q18, z19, w21]
          repeat (refine chk.go (by first | omega | assumption | (simp_all; done) | (simp_all; omega)) ?_; try simp -dsimp [h11, z13, h14, q15, z16, h17, q18, z19, w21])
          refine Again.go ⟨[(0, .lit (.string s)), (3, .lit (.int .i64 ((i + 1) : Int)))], []⟩ (Gh.to (by simp) (by first | (simp -dsimp; done) | (simp -dsimp [h11, z13, h14, q15, z16, h17, q18, z19, w21]; done) | simp_all) (by first | (simp -dsimp; done) | (simp -dsimp [h11, z13, h14, q15, z16, h17, q18, z19, w21]; done) | simp_all) (by first | (simp -dsimp; done) | (simp -dsimp [h11, z13, h14, q15, z16, h17, q18, z19, w21]; done) | simp_all)) ?_
          exact (ih_impl_NameValid_l1 (i + 1) o hF) _ rfl _ hq
      · have q15 : (byteAt s i < 97) := by first | exact h14 | omega | (simpa using h14) | (simp at h14 ⊢; omega) | simp_all
        have z16 : (((byteAt s i : Nat) : Int) < (97 : Int)) := by first | omega | simp_all
        rw [if_pos q15] at hF
        cases hF
        simp -dsimp [h11, z13, h14, q15, z16]
        repeat (refine chk.go (by first | omega | assumption | (simp_all; done) | (simp_all; omega)) ?_; try simp -dsimp [h11, z13, h14, q15, z16])
        refine Leave.go _ (Gh.refl _) (hq _ ?_)
        simp -dsimp [h11, z13, h14, q15, z16]
        repeat (refine chk.go (by first | omega | assumption | (simp_all; done) | (simp_all; omega)) ?_; try simp -dsimp [h11, z13, h14, q15, z16])
    · have q12 : ¬ (i < s.size) := by first | exact h11 | omega | (simpa using h11) | (simp at h11 ⊢; omega) | simp_all
      have z13 : ¬ ((i : Int) < (s.size : Int)) := by first | omega | simp_all
      rw [if_neg q12] at hF
      cases hF
      simp -dsimp [h11, q12, z13]
      repeat (refine chk.go (by first | omega | assumption | (simp_all; done) | (simp_all; omega)) ?_; try simp -dsimp [h11, q12, z13])
      refine Leave.go ⟨[], []⟩ (Gh.to (by simp) (by first | (simp -dsimp; done) | (simp -dsimp [h11, q12, z13]; done) | simp_all) (by first | (simp -dsimp; done) | (simp -dsimp [h11, q12, z13]; done) | simp_all) (by first | (simp -dsimp; done) | (simp -dsimp [h11, q12, z13]; done) | simp_all)) ?_
      exact hq

theorem C.impl_NameValid_l1 (B : Nat) (hB1 : 67108864 ≤ B) (hB2 : B ≤ 9223372036854775807) (s : ByteArray) (i : Nat) (o : Lo Bool Unit) (hF : F.impl_NameValid_l1 s i = some o) : ∀ (c : Code), navO [1, 1, 0, 1, 0, 0] (bodyOf Try.f99) = some c → ∀ (Q : Exit → ASt → Prop), o.post (fun r => ∀ st, Post Try.prog Try.f99 (fun r' _ => r'.le (.lit (.bool r))) .ret st → Q .ret st) (fun s => Q (.exit 0) ⟨[], []⟩) → ALoopU Try.prog B 0 34 (hold c .mk) ⟨[(0, .lit (.string s)), (3, .lit (.int .i64 (i : Int)))], []⟩ (hold Q .mk) :=
  (CC.impl_NameValid_l1 B hB1 hB2 s) i o hF

set_option maxRecDepth 100000 in
set_option maxHeartbeats 400000 in
theorem C.impl_NameValid (B : Nat) (hB1 : 67108864 ≤ B) (hB2 : B ≤ 9223372036854775807) (s : ByteArray) (r : Bool) (hF : F.impl_NameValid s = some r) : PureCall Try.prog B 99 [.lit (.string s)] (.lit (.bool r)) := by
  unfold F.impl_NameValid at hF
  refine PureCall.enterLe Try.func99 (by kernel_rfl) rfl Try.ntmps99 (by simp) (by simp) ?_
  simp -dsimp
  repeat (refine chk.go (by first | omega | assumption | (simp_all; done) | (simp_all; omega)) ?_; try simp -dsimp)
  have hF := ob hF; obtain ⟨v, e1, hF⟩ := hF
  refine ((C.impl_within B hB1 hB2 (s.size : Int) (1 : Int) (5 : Int) v e1)).goW (by simp) (by simp) ?_
  simp -dsimp
  repeat (refine chk.go (by first | omega | assumption | (simp_all; done) | (simp_all; omega)) ?_; try simp -dsimp)
  refine abr.split (fun h2 => ?_) (fun h2 => ?_)
  · have q3 : (v = true) := by first | exact h2 | omega | (simpa using h2) | (simp at h2 ⊢; omega) | simp_all
    rw [if_pos q3] at hF
    have hF := oc hF; obtain ⟨c4, hF⟩ := hF
    simp -dsimp [h2]
    repeat (refine chk.go (by first | omega | assumption | (simp_all; done) | (simp_all; omega)) ?_; try simp -dsimp [h2])
    refine abr.split (fun h5 => ?_) (fun h5 => ?_)
    · have q6 : ¬ (byteAt s 0 < 65) := by first | exact h5 | omega | (simpa using h5) | (simp at h5 ⊢; omega) | simp_all
      have z7 : ¬ (((byteAt s 0 : Nat) : Int) < (65 : Int)) := by first | omega | simp_all
      rw [if_neg q6] at hF
      simp -dsimp [h2, h5, q6, z7]
      repeat (refine chk.go (by first | omega | assumption | (simp_all; done) | (simp_all; omega)) ?_; try simp -dsimp [h2, h5, q6, z7])
      refine abr.split (fun h8 => ?_) (fun h8 => ?_)
      · have q9 : (90 < byteAt s 0) := by first | exact h8 | omega | (simpa using h8) | (simp at h8 ⊢; omega) | simp_all
        have z10 : ((90 : Int) < ((byteAt s 0 : Nat) : Int)) := by first | omega | simp_all
        rw [if_pos q9] at hF
        cases hF
        simp -dsimp [h2, h5, q6, z7, h8, z10]
        repeat (refine chk.go (by first | omega | assumption | (simp_all; done) | (simp_all; omega)) ?_; try simp -dsimp [h2, h5, q6, z7, h8, z10])
      · have q9 : ¬ (90 < byteAt s 0) := by first | exact h8 | omega | (simpa using h8) | (simp at h8 ⊢; omega) | simp_all
        have z10 : ¬ ((90 : Int) < ((byteAt s 0 : Nat) : Int)) := by first | omega | simp_all
        rw [if_neg q9] at hF
        simp -dsimp [h2, h5, q6, z7, h8, q9, z10]
        repeat (refine chk.go (by first | omega | assumption | (simp_all; done) | (simp_all; omega)) ?_; try simp -dsimp [h2, h5, q6, z7, h8, q9, z10])
        have hF := ob hF; obtain ⟨o', ho22, hF⟩ := hF
        refine ALoop.goU ⟨[(0, .lit (.string s)), (3, .lit (.int .i64 (1 : Int)))], []⟩ (Gh.to (by simp) (by first | (simp -dsimp; done) | (simp -dsimp [h2, h5, q6, z7, h8, q9, z10]; done) | simp_all) (by first | (simp -dsimp; done) | (simp -dsimp [h2, h5, q6, z7, h8, q9, z10]; done) | simp_all) (by first | (simp -dsimp; done) | (simp -dsimp [h2, h5, q6, z7, h8, q9, z10]; done) | simp_all)) ?_
        refine (C.impl_NameValid_l1 B hB1 hB2 s 1 o' ho22) _ rfl _ ?_
        rcases o' with r0 | s23
        · dsimp only at hF
          cases hF
          intro st h
          simpa using h
        · dsimp only at hF
          cases hF
          simp -dsimp
          repeat (refine chk.go (by first | omega | assumption | (simp_all; done) | (simp_all; omega)) ?_; try simp -dsimp)
    · have q6 : (byteAt s 0 < 65) := by first | exact h5 | omega | (simpa using h5) | (simp at h5 ⊢; omega) | simp_all
      have z7 : (((byteAt s 0 : Nat) : Int) < (65 : Int)) := by first | omega | simp_all
      rw [if_pos q6] at hF
      cases hF
      simp -dsimp [h2, h5, q6, z7]
      repeat (refine chk.go (by first | omega | assumption | (simp_all; done) | (simp_all; omega)) ?_; try simp -dsimp [h2, h5, q6, z7])
  · have q3 : ¬ (v = true) := by first | exact h2 | omega | (simpa using h2) | (simp at h2 ⊢; omega) | simp_all
    rw [if_neg q3] at hF
    cases hF
    simp -dsimp [h2, q3]
    repeat (refine chk.go (by first | omega | assumption | (simp_all; done) | (simp_all; omega)) ?_; try simp -dsimp [h2, q3])

set_option maxRecDepth 100000 in
set_option maxHeartbeats 400000 in
theorem C.impl_argOk (B : Nat) (hB1 : 67108864 ≤ B) (hB2 : B ≤ 9223372036854775807) (w : List Vl.Data) (t : Vl.Ty) (r : Bool) (hF : F.impl_argOk w t = some r) : PureCall Try.prog B 102 [.arr (List.map Vl.Data.c w), .agg [.lit (.int .i64 t.data), .lit (.int .i64 t.index)]] (.lit (.bool r)) := by
  unfold F.impl_argOk at hF
  refine PureCall.enterLe Try.func102 (by kernel_rfl) rfl Try.ntmps102 (by simp) (by simp) ?_
  simp -dsimp
  repeat (refine chk.go (by first | omega | assumption | (simp_all; done) | (simp_all; omega)) ?_; try simp -dsimp)
  refine abr.split (fun h1 => ?_) (fun h1 => ?_)
  · have q2 : ¬ (dec (eq2 (t.data, t.index) ((-1), 0)) = true) := by first | exact h1 | omega | (simpa using h1) | (simp at h1 ⊢; omega) | simp_all
    rw [if_neg q2] at hF
    simp -dsimp [h1, q2]
    repeat (refine chk.go (by first | omega | assumption | (simp_all; done) | (simp_all; omega)) ?_; try simp -dsimp [h1, q2])
    have hF := ob hF; obtain ⟨v, e3, hF⟩ := hF
    refine ((C.impl_within B hB1 hB2 t.data (0 : Int) (IntKind.i64.wrap ((w.length : Int) - 1)) v e3)).goW (by first | (simp; done) | (simp [h1, q2]; done) | simp_all) (by simp) ?_
    simp -dsimp [h1, q2]
    repeat (refine chk.go (by first | omega | assumption | (simp_all; done) | (simp_all; omega)) ?_; try simp -dsimp [h1, q2])
    refine abr.split (fun h4 => ?_) (fun h4 => ?_)
    · have q5 : (v = true) := by first | exact h4 | omega | (simpa using h4) | (simp at h4 ⊢; omega) | simp_all
      rw [if_pos q5] at hF
      simp -dsimp [h1, q2, h4]
      repeat (refine chk.go (by first | omega | assumption | (simp_all; done) | (simp_all; omega)) ?_; try simp -dsimp [h1, q2, h4])
      have hF := ob hF; obtain ⟨v6, e7, hF⟩ := hF
      refine ((C.impl_within B hB1 hB2 t.index (-1 : Int) (3 : Int) v6 e7)).goW (by first | (simp; done) | (simp [h1, q2, h4]; done) | simp_all) (by simp) ?_
      cases hF
      simp -dsimp [h1, q2, h4]
      repeat (refine chk.go (by first | omega | assumption | (simp_all; done) | (simp_all; omega)) ?_; try simp -dsimp [h1, q2, h4])
    · have q5 : ¬ (v = true) := by first | exact h4 | omega | (simpa using h4) | (simp at h4 ⊢; omega) | simp_all
      rw [if_neg q5] at hF
      cases hF
      simp -dsimp [h1, q2, h4, q5]
      repeat (refine chk.go (by first | omega | assumption | (simp_all; done) | (simp_all; omega)) ?_; try simp -dsimp [h1, q2, h4, q5])
  · have q2 : (dec (eq2 (t.data, t.index) ((-1), 0)) = true) := by first | exact h1 | omega | (simpa using h1) | (simp at h1 ⊢; omega) | simp_all
    rw [if_pos q2] at hF
    cases hF
    simp -dsimp [h1, q2]
    repeat (refine chk.go (by first | omega | assumption | (simp_all; done) | (simp_all; omega)) ?_; try simp -dsimp [h1, q2])

set_option maxRecDepth 100000 in
set_option maxHeartbeats 400000 in
theorem C.impl_ctorOk_1 (B : Nat) (hB1 : 67108864 ≤ B) (hB2 : B ≤ 9223372036854775807) (t : Vl.Ty) (a1 : List Vl.Data) (r : Bool) (hF : F.impl_ctorOk_1 t a1 = some r) : PureCall Try.prog B 101 [.agg [.lit (.int .i64 t.data), .lit (.int .i64 t.index)], .rptr [.arr (List.map Vl.Data.c a1)] 0] (.lit (.bool r)) := by
  unfold F.impl_ctorOk_1 at hF
  refine PureCall.enterLe Try.func101 (by kernel_rfl) rfl Try.ntmps101 (by simp) (by simp) ?_
  simp -dsimp
  repeat (refine chk.go (by first | omega | assumption | (simp_all; done) | (simp_all; omega)) ?_; try simp -dsimp)
  have hF := ob hF; obtain ⟨v, e1, hF⟩ := hF
  refine ((C.impl_argOk B hB1 hB2 a1 t v e1)).goW (by simp) (by simp) ?_
  cases hF
  simp -dsimp
  repeat (refine chk.go (by first | omega | assumption | (simp_all; done) | (simp_all; omega)) ?_; try simp -dsimp)

set_option maxRecDepth 100000 in
set_option maxHeartbeats 400000 in
theorem CC.slices_IndexFunc_Type__impl_ctorOk_1_l1 (B : Nat) (hB1 : 67108864 ≤ B) (hB2 : B ≤ 9223372036854775807) (s : List Vl.Ty) (k0 : List Vl.Data) : (∀ (i : Nat) (o : Lo Int Unit), F.slices_IndexFunc_Type__impl_ctorOk_1_l1 s k0 i = some o → ∀ (c : Code), navO [1, 0, 1, 0, 0] (bodyOf Try.f114) = some c → ∀ (Q : Exit → ASt → Prop), o.post (fun r => ∀ st, Post Try.prog Try.f114 (fun r' _ => r'.le (.lit (.int .i64 r))) .ret st → Q .ret st) (fun s => Q (.exit 0) ⟨[], []⟩) → ALoopU Try.prog B 0 19 (hold c .mk) ⟨[(0, .arr (List.map Vl.Ty.c s)), (1, .fn (.func 101) [] [.rptr [.arr (List.map Vl.Data.c k0)] 0]), (7, .lit (.int .i64 (s.length : Int))), (8, .lit (.int .i64 (i : Int)))], []⟩ (hold Q .mk)) := by
  refine F.slices_IndexFunc_Type__impl_ctorOk_1_l1.partial_correctness s k0
    (fun i o => ∀ (c : Code), navO [1, 0, 1, 0, 0] (bodyOf Try.f114) = some c → ∀ (Q : Exit → ASt → Prop), o.post (fun r => ∀ st, Post Try.prog Try.f114 (fun r' _ => r'.le (.lit (.int .i64 r))) .ret st → Q .ret st) (fun s => Q (.exit 0) ⟨[], []⟩) → ALoopU Try.prog B 0 19 (hold c .mk) ⟨[(0, .arr (List.map Vl.Ty.c s)), (1, .fn (.func 101) [] [.rptr [.arr (List.map Vl.Data.c k0)] 0]), (7, .lit (.int .i64 (s.length : Int))), (8, .lit (.int .i64 (i : Int)))], []⟩ (hold Q .mk))
    ?_
  · intro _f_slices_IndexFunc_Type__impl_ctorOk_1_l1 ih_slices_IndexFunc_Type__impl_ctorOk_1_l1 i o hF
    intro c hc Q hq
    obtain rfl : c = _ := navEq hc rfl
    refine ALoopU.know fun hk hs => ?_
    have b0 := hk 0
    simp -dsimp at b0
    clear hk hs
    refine ALoopU.enter ?_
    simp -dsimp
    repeat (refine chk.go (by first | omega | assumption | (simp_all; done) | (simp_all; omega)) ?_; try simp -dsimp)
    refine abr.split (fun h1 => ?_) (fun h1 => ?_)
    · have q2 : (i < s.length) := by first | exact h1 | omega | (simpa using h1) | (simp at h1 ⊢; omega) | simp_all
      have z3 : ((i : Int) < (s.length : Int)) := by first | omega | simp_all
      rw [if_pos q2] at hF
      have hF := ob hF; obtain ⟨x, e4, hF⟩ := hF
      have le4 := lt_of_get e4
      simp -dsimp [h1, z3, ↓e4]
      repeat (refine chk.go (by first | omega | assumption | (simp_all; done) | (simp_all; omega)) ?_; try simp -dsimp [h1, z3, ↓e4])
      have hF := ob hF; obtain ⟨v, e5, hF⟩ := hF
      refine ((C.impl_ctorOk_1 B hB1 hB2 x k0 v e5)).goW (by first | (simp; done) | (simp [h1, z3, ↓e4]; done) | simp_all) (by simp) ?_
      simp -dsimp [h1, z3, ↓e4]
      repeat (refine chk.go (by first | omega | assumption | (simp_all; done) | (simp_all; omega)) ?_; try simp -dsimp [h1, z3, ↓e4])
      refine abr.split (fun h6 => ?_) (fun h6 => ?_)
      · have q7 : (v = true) := by first | exact h6 | omega | (simpa using h6) | (simp at h6 ⊢; omega) | simp_all
        rw [if_pos q7] at hF
        cases hF
        simp -dsimp [h1, z3, ↓e4, h6]
        repeat (refine chk.go (by first | omega | assumption | (simp_all; done) | (simp_all; omega)) ?_; try simp -dsimp [h1, z3, ↓e4, h6])
        refine Leave.go _ (Gh.refl _) (hq _ ?_)
        simp -dsimp [h1, z3, ↓e4, h6]
        repeat (refine chk.go (by first | omega | assumption | (simp_all; done) | (simp_all; omega)) ?_; try simp -dsimp [h1, z3, ↓e4, h6])
      · have q7 : ¬ (v = true) := by first | exact h6 | omega | (simpa using h6) | (simp at h6 ⊢; omega) | simp_all
        rw [if_neg q7] at hF
        have w8 : IntKind.i64.wrap ((i : Int) + 1) = (i : Int) + 1 := wrap_in (by omega) (by omega)
        simp -dsimp [h1, z3, ↓e4, h6, q7, w8]
        repeat (refine chk.go (by first | omega | assumption | (simp_all; done) | (simp_all; omega)) ?_; try simp -dsimp [h1, z3, ↓e4, h6, q7, w8])
        refine Again.go ⟨[(0, .arr (List.map Vl.Ty.c s)), (1, .fn (.func 101) [] [.rptr [.arr (List.map Vl.Data.c k0)] 0]), (7, .lit (.int .i64 (s.length : Int))), (8, .lit (.int .i64 ((i + 1) : Int)))], []⟩ (Gh.to (by simp) (by first | (simp -dsimp; done) | (simp -dsimp [h1, z3, ↓e4, h6, q7, w8]; done) | simp_all) (by first | (simp -dsimp; done) | (simp -dsimp [h1, z3, ↓e4, h6, q7, w8]; done) | simp_all) (by first | (simp -dsimp; done) | (simp -dsimp [h1, z3, ↓e4, h6, q7, w8]; done) | simp_all)) ?_
        exact (ih_slices_IndexFunc_Type__impl_ctorOk_1_l1 (i + 1) o hF) _ rfl _ hq
    · have q2 : ¬ (i < s.length) := by first | exact h1 | omega | (simpa using h1) | (simp at h1 ⊢; omega) | simp_all
      have z3 : ¬ ((i : Int) < (s.length : Int)) := by first | omega | simp_all
      rw [if_neg q2] at hF
      cases hF
      simp -dsimp [h1, q2, z3]
      repeat (refine chk.go (by first | omega | assumption | (simp_all; done) | (simp_all; omega)) ?_; try simp -dsimp [h1, q2, z3])
      refine Leave.go ⟨[], []⟩ (Gh.to (by simp) (by first | (simp -dsimp; done) | (simp -dsimp [h1, q2, z3]; done) | simp_all) (by first | (simp -dsimp; done) | (simp -dsimp [h1, q2, z3]; done) | simp_all) (by first | (simp -dsimp; done) | (simp -dsimp [h1, q2, z3]; done) | simp_all)) ?_
      exact hq

theorem C.slices_IndexFunc_Type__impl_ctorOk_1_l1 (B : Nat) (hB1 : 67108864 ≤ B) (hB2 : B ≤ 9223372036854775807) (s : List Vl.Ty) (k0 : List Vl.Data) (i : Nat) (o : Lo Int Unit) (hF : F.slices_IndexFunc_Type__impl_ctorOk_1_l1 s k0 i = some o) : ∀ (c : Code), navO [1, 0, 1, 0, 0] (bodyOf Try.f114) = some c → ∀ (Q : Exit → ASt → Prop), o.post (fun r => ∀ st, Post Try.prog Try.f114 (fun r' _ => r'.le (.lit (.int .i64 r))) .ret st → Q .ret st) (fun s => Q (.exit 0) ⟨[], []⟩) → ALoopU Try.prog B 0 19 (hold c .mk) ⟨[(0, .arr (List.map Vl.Ty.c s)), (1, .fn (.func 101) [] [.rptr [.arr (List.map Vl.Data.c k0)] 0]), (7, .lit (.int .i64 (s.length : Int))), (8, .lit (.int .i64 (i : Int)))], []⟩ (hold Q .mk) :=
  (CC.slices_IndexFunc_Type__impl_ctorOk_1_l1 B hB1 hB2 s k0) i o hF

set_option maxRecDepth 100000 in
set_option maxHeartbeats 400000 in
theorem C.slices_IndexFunc_Type__impl_ctorOk_1 (B : Nat) (hB1 : 67108864 ≤ B) (hB2 : B ≤ 9223372036854775807) (s : List Vl.Ty) (k0 : List Vl.Data) (r : Int) (hF : F.slices_IndexFunc_Type__impl_ctorOk_1 s k0 = some r) : PureCall Try.prog B 114 [.arr (List.map Vl.Ty.c s), .fn (.func 101) [] [.rptr [.arr (List.map Vl.Data.c k0)] 0]] (.lit (.int .i64 r)) := by
  unfold F.slices_IndexFunc_Type__impl_ctorOk_1 at hF
  refine PureCall.enterLe Try.func114 (by kernel_rfl) rfl Try.ntmps114 (by simp) (by simp) ?_
  simp -dsimp
  repeat (refine chk.go (by first | omega | assumption | (simp_all; done) | (simp_all; omega)) ?_; try simp -dsimp)
  have hF := ob hF; obtain ⟨o', ho9, hF⟩ := hF
  refine ALoop.goU ⟨[(0, .arr (List.map Vl.Ty.c s)), (1, .fn (.func 101) [] [.rptr [.arr (List.map Vl.Data.c k0)] 0]), (7, .lit (.int .i64 (s.length : Int))), (8, .lit (.int .i64 (0 : Int)))], []⟩ (Gh.to (by simp) (by simp -dsimp) (by simp -dsimp) (by simp -dsimp)) ?_
  refine (C.slices_IndexFunc_Type__impl_ctorOk_1_l1 B hB1 hB2 s k0 0 o' ho9) _ rfl _ ?_
  rcases o' with r0 | s10
  · dsimp only at hF
    cases hF
    intro st h
    simpa using h
  · dsimp only at hF
    cases hF
    simp -dsimp
    repeat (refine chk.go (by first | omega | assumption | (simp_all; done) | (simp_all; omega)) ?_; try simp -dsimp)

set_option maxRecDepth 100000 in
set_option maxHeartbeats 400000 in
theorem C.slices_ContainsFunc_Type__impl_ctorOk_1 (B : Nat) (hB1 : 67108864 ≤ B) (hB2 : B ≤ 9223372036854775807) (s : List Vl.Ty) (k0 : List Vl.Data) (r : Bool) (hF : F.slices_ContainsFunc_Type__impl_ctorOk_1 s k0 = some r) : PureCall Try.prog B 100 [.arr (List.map Vl.Ty.c s), .fn (.func 101) [] [.rptr [.arr (List.map Vl.Data.c k0)] 0]] (.lit (.bool r)) := by
  unfold F.slices_ContainsFunc_Type__impl_ctorOk_1 at hF
  refine PureCall.enterLe Try.func100 (by kernel_rfl) rfl Try.ntmps100 (by simp) (by simp) ?_
  simp -dsimp
  repeat (refine chk.go (by first | omega | assumption | (simp_all; done) | (simp_all; omega)) ?_; try simp -dsimp)
  have hF := ob hF; obtain ⟨v, e1, hF⟩ := hF
  refine ((C.slices_IndexFunc_Type__impl_ctorOk_1 B hB1 hB2 s k0 v e1)).goW (by simp) (by simp) ?_
  cases hF
  simp -dsimp
  repeat (refine chk.go (by first | omega | assumption | (simp_all; done) | (simp_all; omega)) ?_; try simp -dsimp)

set_option maxRecDepth 100000 in
set_option maxHeartbeats 400000 in
theorem C.impl_ctorOk (B : Nat) (hB1 : 67108864 ≤ B) (hB2 : B ≤ 9223372036854775807) (w : List Vl.Data) (c' : Vl.Ctor) (r : Bool) (hF : F.impl_ctorOk w c' = some r) : PureCall Try.prog B 82 [.arr (List.map Vl.Data.c w), .agg [.lit (.string c'.name), .arr (List.map Vl.Ty.c c'.args), .lit (.int .i64 c'.index)]] (.lit (.bool r)) := by
  unfold F.impl_ctorOk at hF
  refine PureCall.enterLe Try.func82 (by kernel_rfl) rfl Try.ntmps82 (by simp) (by simp) ?_
  simp -dsimp
  repeat (refine chk.go (by first | omega | assumption | (simp_all; done) | (simp_all; omega)) ?_; try simp -dsimp)
  have hF := ob hF; obtain ⟨v, e1, hF⟩ := hF
  refine ((C.impl_NameValid B hB1 hB2 c'.name v e1)).goW (by simp) (by simp) ?_
  simp -dsimp
  repeat (refine chk.go (by first | omega | assumption | (simp_all; done) | (simp_all; omega)) ?_; try simp -dsimp)
  refine abr.split (fun h2 => ?_) (fun h2 => ?_)
  · have q3 : (v = true) := by first | exact h2 | omega | (simpa using h2) | (simp at h2 ⊢; omega) | simp_all
    rw [if_pos q3] at hF
    simp -dsimp [h2]
    repeat (refine chk.go (by first | omega | assumption | (simp_all; done) | (simp_all; omega)) ?_; try simp -dsimp [h2])
    refine abr.split (fun h4 => ?_) (fun h4 => ?_)
    · have q5 : (c'.args.length ≤ 3) := by first | exact h4 | omega | (simpa using h4) | (simp at h4 ⊢; omega) | simp_all
      have z6 : ((c'.args.length : Int) ≤ (3 : Int)) := by first | omega | simp_all
      rw [if_pos q5] at hF
      simp -dsimp [h2, h4, z6]
      repeat (refine chk.go (by first | omega | assumption | (simp_all; done) | (simp_all; omega)) ?_; try simp -dsimp [h2, h4, z6])
      have hF := ob hF; obtain ⟨v7, e8, hF⟩ := hF
      refine ((C.impl_within B hB1 hB2 c'.index (0 : Int) (3 : Int) v7 e8)).goW (by first | (simp; done) | (simp [h2, h4, z6]; done) | simp_all) (by simp) ?_
      simp -dsimp [h2, h4, z6]
      repeat (refine chk.go (by first | omega | assumption | (simp_all; done) | (simp_all; omega)) ?_; try simp -dsimp [h2, h4, z6])
      refine abr.split (fun h9 => ?_) (fun h9 => ?_)
      · have q10 : (v7 = true) := by first | exact h9 | omega | (simpa using h9) | (simp at h9 ⊢; omega) | simp_all
        rw [if_pos q10] at hF
        simp -dsimp [h2, h4, z6, h9]
        repeat (refine chk.go (by first | omega | assumption | (simp_all; done) | (simp_all; omega)) ?_; try simp -dsimp [h2, h4, z6, h9])
        have hF := ob hF; obtain ⟨v11, e12, hF⟩ := hF
        refine ((C.slices_ContainsFunc_Type__impl_ctorOk_1 B hB1 hB2 c'.args w v11 e12)).lend (by first | (simp -dsimp; done) | (simp -dsimp [h2, h4, z6, h9]; done) | simp_all) (by simp -dsimp) ?_
        cases hF
        simp -dsimp [h2, h4, z6, h9]
        repeat (refine chk.go (by first | omega | assumption | (simp_all; done) | (simp_all; omega)) ?_; try simp -dsimp [h2, h4, z6, h9])
      · have q10 : ¬ (v7 = true) := by first | exact h9 | omega | (simpa using h9) | (simp at h9 ⊢; omega) | simp_all
        rw [if_neg q10] at hF
        cases hF
        simp -dsimp [h2, h4, z6, h9, q10]
        repeat (refine chk.go (by first | omega | assumption | (simp_all; done) | (simp_all; omega)) ?_; try simp -dsimp [h2, h4, z6, h9, q10])
    · have q5 : ¬ (c'.args.length ≤ 3) := by first | exact h4 | omega | (simpa using h4) | (simp at h4 ⊢; omega) | simp_all
      have z6 : ¬ ((c'.args.length : Int) ≤ (3 : Int)) := by first | omega | simp_all
      rw [if_neg q5] at hF
      cases hF
      simp -dsimp [h2, h4, q5, z6]
      repeat (refine chk.go (by first | omega | assumption | (simp_all; done) | (simp_all; omega)) ?_; try simp -dsimp [h2, h4, q5, z6])
  · have q3 : ¬ (v = true) := by first | exact h2 | omega | (simpa using h2) | (simp at h2 ⊢; omega) | simp_all
    rw [if_neg q3] at hF
    cases hF
    simp -dsimp [h2, q3]
    repeat (refine chk.go (by first | omega | assumption | (simp_all; done) | (simp_all; omega)) ?_; try simp -dsimp [h2, q3])

set_option maxRecDepth 100000 in
set_option maxHeartbeats 400000 in
theorem CC.impl_WorldValid_l2 (B : Nat) (hB1 : 67108864 ≤ B) (hB2 : B ≤ 9223372036854775807) (w : List Vl.Data) (met4 : List ByteArray) (i : Nat) (x : Vl.Data) : (∀ (met26 : List ByteArray) (i27 : Nat) (o : Lo Bool (List ByteArray)), F.impl_WorldValid_l2 w met4 i x met26 i27 = some o → ∀ (b1 b2 : Nat), ¬ b1 = b2 → ∀ (c : Code), navO [1, 1, 1, 1, 0, 1, 0, 0, 1, 1, 0, 0, 1, 1, 1, 1, 0, 0] (bodyOf Try.f62) = some c → ∀ (Q : Exit → ASt → Ms → Prop), o.post (fun r => ∀ st, Post Try.prog Try.f62 (fun r' _ => r' = (.lit (.bool r))) .ret st → ∀ ms, Q .ret st ms) (fun s => Q (.exit 2) ⟨[(0, .arr (List.map Vl.Data.c w)), (3, .lit (.map (some b1))), (4, .lit (.map (some b2))), (14, .arr (List.map Vl.Data.c w)), (15, .lit (.int .i64 (w.length : Int))), (16, .lit (.int .i64 (i : Int)))], []⟩ [(b1, s), (b2, msIns met4 x.name)]) → MLoop Try.prog B 79 (hold c .mk) ⟨[(0, .arr (List.map Vl.Data.c w)), (3, .lit (.map (some b1))), (4, .lit (.map (some b2))), (14, .arr (List.map Vl.Data.c w)), (15, .lit (.int .i64 (w.length : Int))), (16, .lit (.int .i64 (i : Int))), (58, .arr (List.map Vl.Ctor.c x.ctors)), (59, .lit (.int .i64 (x.ctors.length : Int))), (60, .lit (.int .i64 (i27 : Int)))], []⟩ [(b1, met26), (b2, msIns met4 x.name)] (hold Q .mk)) := by
  refine F.impl_WorldValid_l2.partial_correctness w met4 i x
    (fun met26 i27 o => ∀ (b1 b2 : Nat), ¬ b1 = b2 → ∀ (c : Code), navO [1, 1, 1, 1, 0, 1, 0, 0, 1, 1, 0, 0, 1, 1, 1, 1, 0, 0] (bodyOf Try.f62) = some c → ∀ (Q : Exit → ASt → Ms → Prop), o.post (fun r => ∀ st, Post Try.prog Try.f62 (fun r' _ => r' = (.lit (.bool r))) .ret st → ∀ ms, Q .ret st ms) (fun s => Q (.exit 2) ⟨[(0, .arr (List.map Vl.Data.c w)), (3, .lit (.map (some b1))), (4, .lit (.map (some b2))), (14, .arr (List.map Vl.Data.c w)), (15, .lit (.int .i64 (w.length : Int))), (16, .lit (.int .i64 (i : Int)))], []⟩ [(b1, s), (b2, msIns met4 x.name)]) → MLoop Try.prog B 79 (hold c .mk) ⟨[(0, .arr (List.map Vl.Data.c w)), (3, .lit (.map (some b1))), (4, .lit (.map (some b2))), (14, .arr (List.map Vl.Data.c w)), (15, .lit (.int .i64 (w.length : Int))), (16, .lit (.int .i64 (i : Int))), (58, .arr (List.map Vl.Ctor.c x.ctors)), (59, .lit (.int .i64 (x.ctors.length : Int))), (60, .lit (.int .i64 (i27 : Int)))], []⟩ [(b1, met26), (b2, msIns met4 x.name)] (hold Q .mk))
    ?_
  · intro _f_impl_WorldValid_l2 ih_impl_WorldValid_l2 met26 i27 o hF
    intro b1 b2 hb2 c hc Q hq
    obtain rfl : c = _ := navEq hc rfl
    refine MLoop.know fun hk hs => ?_
    have b0 := hk 0
    simp -dsimp at b0
    have b14 := hk 14
    simp -dsimp at b14
    have b58 := hk 58
    simp -dsimp at b58
    clear hk hs
    refine MLoop.enter ?_
    simp -dsimp [hb2]
    repeat (refine chk.go (by first | omega | assumption | (simp_all; done) | (simp_all; omega)) ?_; try simp -dsimp [hb2])
    refine abr.split (fun h28 => ?_) (fun h28 => ?_)
    · have q29 : (i27 < x.ctors.length) := by first | exact h28 | omega | (simpa using h28) | (simp at h28 ⊢; omega) | simp_all
      have z30 : ((i27 : Int) < (x.ctors.length : Int)) := by first | omega | simp_all
      rw [if_pos q29] at hF
      have hF := ob hF; obtain ⟨x31, e32, hF⟩ := hF
      have le32 := lt_of_get e32
      simp -dsimp [hb2, h28, z30, ↓e32]
      repeat (refine chk.go (by first | omega | assumption | (simp_all; done) | (simp_all; omega)) ?_; try simp -dsimp [hb2, h28, z30, ↓e32])
      have hF := ob hF; obtain ⟨v33, e34, hF⟩ := hF
      refine ((C.impl_ctorOk B hB1 hB2 w x31 v33 e34)).goW (by first | (simp; done) | (simp [hb2, h28, z30, ↓e32]; done) | simp_all) (by simp) ?_
      simp -dsimp [hb2, h28, z30, ↓e32]
      repeat (refine chk.go (by first | omega | assumption | (simp_all; done) | (simp_all; omega)) ?_; try simp -dsimp [hb2, h28, z30, ↓e32])
      refine abr.split (fun h35 => ?_) (fun h35 => ?_)
      · have q36 : (v33 = true) := by first | exact h35 | omega | (simpa using h35) | (simp at h35 ⊢; omega) | simp_all
        rw [if_pos q36] at hF
        simp -dsimp [hb2, h28, z30, ↓e32, h35]
        repeat (refine chk.go (by first | omega | assumption | (simp_all; done) | (simp_all; omega)) ?_; try simp -dsimp [hb2, h28, z30, ↓e32, h35])
        refine abr.split (fun h37 => ?_) (fun h37 => ?_)
        · have q38 : (dec (x31.name ∈ met26) = true) := by first | exact h37 | omega | (simpa using h37) | (simp at h37 ⊢; omega) | simp_all
          rw [if_pos q38] at hF
          cases hF
          simp -dsimp [hb2, h28, z30, ↓e32, h35, h37]
          repeat (refine chk.go (by first | omega | assumption | (simp_all; done) | (simp_all; omega)) ?_; try simp -dsimp [hb2, h28, z30, ↓e32, h35, h37])
          refine LeaveM.go _ (Gh.refl _) (hq _ ?_ _)
          simp -dsimp [hb2, h28, z30, ↓e32, h35, h37]
          repeat (refine chk.go (by first | omega | assumption | (simp_all; done) | (simp_all; omega)) ?_; try simp -dsimp [hb2, h28, z30, ↓e32, h35, h37])
        · have q38 : ¬ (dec (x31.name ∈ met26) = true) := by first | exact h37 | omega | (simpa using h37) | (simp at h37 ⊢; omega) | simp_all
          rw [if_neg q38] at hF
          have w39 : IntKind.i64.wrap ((i27 : Int) + 1) = (i27 : Int) + 1 := wrap_in (by omega) (by omega)
          simp -dsimp [hb2, h28, z30, ↓e32, h35, h37, q38, w39]
          repeat (refine chk.go (by first | omega | assumption | (simp_all; done) | (simp_all; omega)) ?_; try simp -dsimp [hb2, h28, z30, ↓e32, h35, h37, q38, w39])
          refine AgainM.go ⟨[(0, .arr (List.map Vl.Data.c w)), (3, .lit (.map (some b1))), (4, .lit (.map (some b2))), (14, .arr (List.map Vl.Data.c w)), (15, .lit (.int .i64 (w.length : Int))), (16, .lit (.int .i64 (i : Int))), (58, .arr (List.map Vl.Ctor.c x.ctors)), (59, .lit (.int .i64 (x.ctors.length : Int))), (60, .lit (.int .i64 ((i27 + 1) : Int)))], []⟩ (Gh.to (by simp) (by first | (simp -dsimp; done) | (simp -dsimp [hb2, h28, z30, ↓e32, h35, h37, q38, w39]; done) | simp_all) (by first | (simp -dsimp; done) | (simp -dsimp [hb2, h28, z30, ↓e32, h35, h37, q38, w39]; done) | simp_all) (by first | (simp -dsimp; done) | (simp -dsimp [hb2, h28, z30, ↓e32, h35, h37, q38, w39]; done) | simp_all)) ?_
          exact (ih_impl_WorldValid_l2 (msIns met26 x31.name) (i27 + 1) o hF) b1 b2 hb2 _ rfl _ hq
      · have q36 : ¬ (v33 = true) := by first | exact h35 | omega | (simpa using h35) | (simp at h35 ⊢; omega) | simp_all
        rw [if_neg q36] at hF
        cases hF
        simp -dsimp [hb2, h28, z30, ↓e32, h35, q36]
        repeat (refine chk.go (by first | omega | assumption | (simp_all; done) | (simp_all; omega)) ?_; try simp -dsimp [hb2, h28, z30, ↓e32, h35, q36])
        refine LeaveM.go _ (Gh.refl _) (hq _ ?_ _)
        simp -dsimp [hb2, h28, z30, ↓e32, h35, q36]
        repeat (refine chk.go (by first | omega | assumption | (simp_all; done) | (simp_all; omega)) ?_; try simp -dsimp [hb2, h28, z30, ↓e32, h35, q36])
    · have q29 : ¬ (i27 < x.ctors.length) := by first | exact h28 | omega | (simpa using h28) | (simp at h28 ⊢; omega) | simp_all
      have z30 : ¬ ((i27 : Int) < (x.ctors.length : Int)) := by first | omega | simp_all
      rw [if_neg q29] at hF
      cases hF
      simp -dsimp [hb2, h28, q29, z30]
      repeat (refine chk.go (by first | omega | assumption | (simp_all; done) | (simp_all; omega)) ?_; try simp -dsimp [hb2, h28, q29, z30])
      refine LeaveM.go ⟨[(0, .arr (List.map Vl.Data.c w)), (3, .lit (.map (some b1))), (4, .lit (.map (some b2))), (14, .arr (List.map Vl.Data.c w)), (15, .lit (.int .i64 (w.length : Int))), (16, .lit (.int .i64 (i : Int)))], []⟩ (Gh.to (by simp) (by first | (simp -dsimp; done) | (simp -dsimp [hb2, h28, q29, z30]; done) | simp_all) (by first | (simp -dsimp; done) | (simp -dsimp [hb2, h28, q29, z30]; done) | simp_all) (by first | (simp -dsimp; done) | (simp -dsimp [hb2, h28, q29, z30]; done) | simp_all)) ?_
      exact hq

theorem C.impl_WorldValid_l2 (B : Nat) (hB1 : 67108864 ≤ B) (hB2 : B ≤ 9223372036854775807) (w : List Vl.Data) (met4 : List ByteArray) (i : Nat) (x : Vl.Data) (met26 : List ByteArray) (i27 : Nat) (o : Lo Bool (List ByteArray)) (hF : F.impl_WorldValid_l2 w met4 i x met26 i27 = some o) : ∀ (b1 b2 : Nat), ¬ b1 = b2 → ∀ (c : Code), navO [1, 1, 1, 1, 0, 1, 0, 0, 1, 1, 0, 0, 1, 1, 1, 1, 0, 0] (bodyOf Try.f62) = some c → ∀ (Q : Exit → ASt → Ms → Prop), o.post (fun r => ∀ st, Post Try.prog Try.f62 (fun r' _ => r' = (.lit (.bool r))) .ret st → ∀ ms, Q .ret st ms) (fun s => Q (.exit 2) ⟨[(0, .arr (List.map Vl.Data.c w)), (3, .lit (.map (some b1))), (4, .lit (.map (some b2))), (14, .arr (List.map Vl.Data.c w)), (15, .lit (.int .i64 (w.length : Int))), (16, .lit (.int .i64 (i : Int)))], []⟩ [(b1, s), (b2, msIns met4 x.name)]) → MLoop Try.prog B 79 (hold c .mk) ⟨[(0, .arr (List.map Vl.Data.c w)), (3, .lit (.map (some b1))), (4, .lit (.map (some b2))), (14, .arr (List.map Vl.Data.c w)), (15, .lit (.int .i64 (w.length : Int))), (16, .lit (.int .i64 (i : Int))), (58, .arr (List.map Vl.Ctor.c x.ctors)), (59, .lit (.int .i64 (x.ctors.length : Int))), (60, .lit (.int .i64 (i27 : Int)))], []⟩ [(b1, met26), (b2, msIns met4 x.name)] (hold Q .mk) :=
  (CC.impl_WorldValid_l2 B hB1 hB2 w met4 i x) met26 i27 o hF

set_option maxRecDepth 100000 in
set_option maxHeartbeats 400000 in
theorem CC.impl_WorldValid_l1 (B : Nat) (hB1 : 67108864 ≤ B) (hB2 : B ≤ 9223372036854775807) (w : List Vl.Data) : (∀ (met : List ByteArray) (met4 : List ByteArray) (i : Nat) (o : Lo Bool ((List ByteArray) × (List ByteArray))), F.impl_WorldValid_l1 w met met4 i = some o → ∀ (b1 b2 : Nat), ¬ b1 = b2 → ∀ (c : Code), navO [1, 1, 1, 1, 0, 1, 0, 0] (bodyOf Try.f62) = some c → ∀ (Q : Exit → ASt → Ms → Prop), o.post (fun r => ∀ st, Post Try.prog Try.f62 (fun r' _ => r' = (.lit (.bool r))) .ret st → ∀ ms, Q .ret st ms) (fun s => Q (.exit 0) ⟨[], []⟩ [(b1, s.1), (b2, s.2)]) → MLoop Try.prog B 79 (hold c .mk) ⟨[(0, .arr (List.map Vl.Data.c w)), (3, .lit (.map (some b1))), (4, .lit (.map (some b2))), (14, .arr (List.map Vl.Data.c w)), (15, .lit (.int .i64 (w.length : Int))), (16, .lit (.int .i64 (i : Int)))], []⟩ [(b1, met), (b2, met4)] (hold Q .mk)) := by
  refine F.impl_WorldValid_l1.partial_correctness w
    (fun met met4 i o => ∀ (b1 b2 : Nat), ¬ b1 = b2 → ∀ (c : Code), navO [1, 1, 1, 1, 0, 1, 0, 0] (bodyOf Try.f62) = some c → ∀ (Q : Exit → ASt → Ms → Prop), o.post (fun r => ∀ st, Post Try.prog Try.f62 (fun r' _ => r' = (.lit (.bool r))) .ret st → ∀ ms, Q .ret st ms) (fun s => Q (.exit 0) ⟨[], []⟩ [(b1, s.1), (b2, s.2)]) → MLoop Try.prog B 79 (hold c .mk) ⟨[(0, .arr (List.map Vl.Data.c w)), (3, .lit (.map (some b1))), (4, .lit (.map (some b2))), (14, .arr (List.map Vl.Data.c w)), (15, .lit (.int .i64 (w.length : Int))), (16, .lit (.int .i64 (i : Int)))], []⟩ [(b1, met), (b2, met4)] (hold Q .mk))
    ?_
  · intro _f_impl_WorldValid_l1 ih_impl_WorldValid_l1 met met4 i o hF
    intro b1 b2 hb2 c hc Q hq
    obtain rfl : c = _ := navEq hc rfl
    refine MLoop.know fun hk hs => ?_
    have b0 := hk 0
    simp -dsimp at b0
    have b14 := hk 14
    simp -dsimp at b14
    clear hk hs
    refine MLoop.enter ?_
    simp -dsimp [hb2]
    repeat (refine chk.go (by first | omega | assumption | (simp_all; done) | (simp_all; omega)) ?_; try simp -dsimp [hb2])
    refine abr.split (fun h5 => ?_) (fun h5 => ?_)
    · have q6 : (i < w.length) := by first | exact h5 | omega | (simpa using h5) | (simp at h5 ⊢; omega) | simp_all
      have z7 : ((i : Int) < (w.length : Int)) := by first | omega | simp_all
      rw [if_pos q6] at hF
      have hF := ob hF; obtain ⟨x, e8, hF⟩ := hF
      have le8 := lt_of_get e8
      simp -dsimp [hb2, h5, z7, ↓e8]
      repeat (refine chk.go (by first | omega | assumption | (simp_all; done) | (simp_all; omega)) ?_; try simp -dsimp [hb2, h5, z7, ↓e8])
      refine abr.split (fun h9 => ?_) (fun h9 => ?_)
      · have q10 : (x.name.size = 1) := by first | exact h9 | omega | (simpa using h9) | (simp at h9 ⊢; omega) | simp_all
        have z11 : ((x.name.size : Int) = (1 : Int)) := by first | omega | simp_all
        rw [if_pos q10] at hF
        have hF := oc hF; obtain ⟨c12, hF⟩ := hF
        simp -dsimp [hb2, h5, z7, ↓e8, h9, z11]
        repeat (refine chk.go (by first | omega | assumption | (simp_all; done) | (simp_all; omega)) ?_; try simp -dsimp [hb2, h5, z7, ↓e8, h9, z11])
        refine abr.split (fun h13 => ?_) (fun h13 => ?_)
        · have q14 : ¬ (byteAt x.name 0 < 65) := by first | exact h13 | omega | (simpa using h13) | (simp at h13 ⊢; omega) | simp_all
          have z15 : ¬ (((byteAt x.name 0 : Nat) : Int) < (65 : Int)) := by first | omega | simp_all
          rw [if_neg q14] at hF
          simp -dsimp [hb2, h5, z7, ↓e8, h9, z11, h13, q14, z15]
          repeat (refine chk.go (by first | omega | assumption | (simp_all; done) | (simp_all; omega)) ?_; try simp -dsimp [hb2, h5, z7, ↓e8, h9, z11, h13, q14, z15])
          refine abr.split (fun h16 => ?_) (fun h16 => ?_)
          · have q17 : ¬ (90 < byteAt x.name 0) := by first | exact h16 | omega | (simpa using h16) | (simp at h16 ⊢; omega) | simp_all
            have z18 : ¬ ((90 : Int) < ((byteAt x.name 0 : Nat) : Int)) := by first | omega | simp_all
            rw [if_neg q17] at hF
            simp -dsimp [hb2, h5, z7, ↓e8, h9, z11, h13, q14, z15, h16, q17, z18]
            repeat (refine chk.go (by first | omega | assumption | (simp_all; done) | (simp_all; omega)) ?_; try simp -dsimp [hb2, h5, z7, ↓e8, h9, z11, h13, q14, z15, h16, q17, z18])
            refine abr.split (fun h19 => ?_) (fun h19 => ?_)
            · have q20 : ¬ (x.name.toList = (⟨#[73]⟩ : ByteArray).toList) := by first | exact h19 | omega | (simpa using h19) | (simp at h19 ⊢; omega) | simp_all
              rw [if_neg q20] at hF
              simp -dsimp [hb2, h5, z7, ↓e8, h9, z11, h13, q14, z15, h16, q17, z18, h19, q20]
              repeat (refine chk.go (by first | omega | assumption | (simp_all; done) | (simp_all; omega)) ?_; try simp -dsimp [hb2, h5, z7, ↓e8, h9, z11, h13, q14, z15, h16, q17, z18, h19, q20])
              refine abr.split (fun h21 => ?_) (fun h21 => ?_)
              · have q22 : ¬ (dec (x.name ∈ met4) = true) := by first | exact h21 | omega | (simpa using h21) | (simp at h21 ⊢; omega) | simp_all
                rw [if_neg q22] at hF
                simp -dsimp [hb2, h5, z7, ↓e8, h9, z11, h13, q14, z15, h16, q17, z18, h19, q20, h21, q22]
                repeat (refine chk.go (by first | omega | assumption | (simp_all; done) | (simp_all; omega)) ?_; try simp -dsimp [hb2, h5, z7, ↓e8, h9, z11, h13, q14, z15, h16, q17, z18, h19, q20, h21, q22])
                have hF := ob hF; obtain ⟨v, e23, hF⟩ := hF
                refine ((C.impl_within B hB1 hB2 (x.ctors.length : Int) (1 : Int) (4 : Int) v e23)).goW (by first | (simp; done) | (simp [hb2, h5, z7, ↓e8, h9, z11, h13, q14, z15, h16, q17, z18, h19, q20, h21, q22]; done) | simp_all) (by simp) ?_
                simp -dsimp [hb2, h5, z7, ↓e8, h9, z11, h13, q14, z15, h16, q17, z18, h19, q20, h21, q22]
                repeat (refine chk.go (by first | omega | assumption | (simp_all; done) | (simp_all; omega)) ?_; try simp -dsimp [hb2, h5, z7, ↓e8, h9, z11, h13, q14, z15, h16, q17, z18, h19, q20, h21, q22])
                refine abr.split (fun h24 => ?_) (fun h24 => ?_)
                · have q25 : ¬ (v = true) := by first | exact h24 | omega | (simpa using h24) | (simp at h24 ⊢; omega) | simp_all
                  rw [if_neg q25] at hF
                  cases hF
                  simp -dsimp [hb2, h5, z7, ↓e8, h9, z11, h13, q14, z15, h16, q17, z18, h19, q20, h21, q22, h24, q25]
                  repeat (refine chk.go (by first | omega | assumption | (simp_all; done) | (simp_all; omega)) ?_; try simp -dsimp [hb2, h5, z7, ↓e8, h9, z11, h13, q14, z15, h16, q17, z18, h19, q20, h21, q22, h24, q25])
                  refine LeaveM.go _ (Gh.refl _) (hq _ ?_ _)
                  simp -dsimp [hb2, h5, z7, ↓e8, h9, z11, h13, q14, z15, h16, q17, z18, h19, q20, h21, q22, h24, q25]
                  repeat (refine chk.go (by first | omega | assumption | (simp_all; done) | (simp_all; omega)) ?_; try simp -dsimp [hb2, h5, z7, ↓e8, h9, z11, h13, q14, z15, h16, q17, z18, h19, q20, h21, q22, h24, q25])
                · have q25 : (v = true) := by first | exact h24 | omega | (simpa using h24) | (simp at h24 ⊢; omega) | simp_all
                  rw [if_pos q25] at hF
                  simp -dsimp [hb2, h5, z7, ↓e8, h9, z11, h13, q14, z15, h16, q17, z18, h19, q20, h21, q22, h24, q25]
                  repeat (refine chk.go (by first | omega | assumption | (simp_all; done) | (simp_all; omega)) ?_; try simp -dsimp [hb2, h5, z7, ↓e8, h9, z11, h13, q14, z15, h16, q17, z18, h19, q20, h21, q22, h24, q25])
                  have hF := ob hF; obtain ⟨o', ho40, hF⟩ := hF
                  refine MLoop.goU ⟨[(0, .arr (List.map Vl.Data.c w)), (3, .lit (.map (some b1))), (4, .lit (.map (some b2))), (14, .arr (List.map Vl.Data.c w)), (15, .lit (.int .i64 (w.length : Int))), (16, .lit (.int .i64 (i : Int))), (58, .arr (List.map Vl.Ctor.c x.ctors)), (59, .lit (.int .i64 (x.ctors.length : Int))), (60, .lit (.int .i64 (0 : Int)))], []⟩ (Gh.to (by simp) (by first | (simp -dsimp; done) | (simp -dsimp [hb2, h5, z7, ↓e8, h9, z11, h13, q14, z15, h16, q17, z18, h19, q20, h21, q22, h24, q25]; done) | simp_all) (by first | (simp -dsimp; done) | (simp -dsimp [hb2, h5, z7, ↓e8, h9, z11, h13, q14, z15, h16, q17, z18, h19, q20, h21, q22, h24, q25]; done) | simp_all) (by first | (simp -dsimp; done) | (simp -dsimp [hb2, h5, z7, ↓e8, h9, z11, h13, q14, z15, h16, q17, z18, h19, q20, h21, q22, h24, q25]; done) | simp_all)) ?_
                  refine (C.impl_WorldValid_l2 B hB1 hB2 w met4 i x met 0 o' ho40) b1 b2 hb2 _ rfl _ ?_
                  rcases o' with r0 | s
                  · dsimp only at hF
                    cases hF
                    intro st h ms
                    simp -dsimp
                    refine LeaveM.go st (Gh.refl _) (hq st h ms)
                  · dsimp only at hF
                    have hF := oc hF; obtain ⟨c41, hF⟩ := hF
                    have w42 : IntKind.i64.wrap ((i : Int) + 1) = (i : Int) + 1 := wrap_in (by omega) (by omega)
                    simp -dsimp [w42]
                    repeat (refine chk.go (by first | omega | assumption | (simp_all; done) | (simp_all; omega)) ?_; try simp -dsimp [w42])
                    refine AgainM.go ⟨[(0, .arr (List.map Vl.Data.c w)), (3, .lit (.map (some b1))), (4, .lit (.map (some b2))), (14, .arr (List.map Vl.Data.c w)), (15, .lit (.int .i64 (w.length : Int))), (16, .lit (.int .i64 ((i + 1) : Int)))], []⟩ (Gh.to (by simp) (by first | (simp -dsimp; done) | (simp -dsimp [w42]; done) | simp_all) (by first | (simp -dsimp; done) | (simp -dsimp [w42]; done) | simp_all) (by first | (simp -dsimp; done) | (simp -dsimp [w42]; done) | simp_all)) ?_
                    exact (ih_impl_WorldValid_l1 s (msIns met4 x.name) (i + 1) o hF) b1 b2 hb2 _ rfl _ hq
              · have q22 : (dec (x.name ∈ met4) = true) := by first | exact h21 | omega | (simpa using h21) | (simp at h21 ⊢; omega) | simp_all
                rw [if_pos q22] at hF
                cases hF
                simp -dsimp [hb2, h5, z7, ↓e8, h9, z11, h13, q14, z15, h16, q17, z18, h19, q20, h21, q22]
                repeat (refine chk.go (by first | omega | assumption | (simp_all; done) | (simp_all; omega)) ?_; try simp -dsimp [hb2, h5, z7, ↓e8, h9, z11, h13, q14, z15, h16, q17, z18, h19, q20, h21, q22])
                refine LeaveM.go _ (Gh.refl _) (hq _ ?_ _)
                simp -dsimp [hb2, h5, z7, ↓e8, h9, z11, h13, q14, z15, h16, q17, z18, h19, q20, h21, q22]
                repeat (refine chk.go (by first | omega | assumption | (simp_all; done) | (simp_all; omega)) ?_; try simp -dsimp [hb2, h5, z7, ↓e8, h9, z11, h13, q14, z15, h16, q17, z18, h19, q20, h21, q22])
            · have q20 : (x.name.toList = (⟨#[73]⟩ : ByteArray).toList) := by first | exact h19 | omega | (simpa using h19) | (simp at h19 ⊢; omega) | simp_all
              rw [if_pos q20] at hF
              cases hF
              simp -dsimp [hb2, h5, z7, ↓e8, h9, z11, h13, q14, z15, h16, q17, z18, h19, q20]
              repeat (refine chk.go (by first | omega | assumption | (simp_all; done) | (simp_all; omega)) ?_; try simp -dsimp [hb2, h5, z7, ↓e8, h9, z11, h13, q14, z15, h16, q17, z18, h19, q20])
              refine LeaveM.go _ (Gh.refl _) (hq _ ?_ _)
              simp -dsimp [hb2, h5, z7, ↓e8, h9, z11, h13, q14, z15, h16, q17, z18, h19, q20]
              repeat (refine chk.go (by first | omega | assumption | (simp_all; done) | (simp_all; omega)) ?_; try simp -dsimp [hb2, h5, z7, ↓e8, h9, z11, h13, q14, z15, h16, q17, z18, h19, q20])
          · have q17 : (90 < byteAt x.name 0) := by first | exact h16 | omega | (simpa using h16) | (simp at h16 ⊢; omega) | simp_all
            have z18 : ((90 : Int) < ((byteAt x.name 0 : Nat) : Int)) := by first | omega | simp_all
            rw [if_pos q17] at hF
            cases hF
            simp -dsimp [hb2, h5, z7, ↓e8, h9, z11, h13, q14, z15, h16, q17, z18]
            repeat (refine chk.go (by first | omega | assumption | (simp_all; done) | (simp_all; omega)) ?_; try simp -dsimp [hb2, h5, z7, ↓e8, h9, z11, h13, q14, z15, h16, q17, z18])
            refine LeaveM.go _ (Gh.refl _) (hq _ ?_ _)
            simp -dsimp [hb2, h5, z7, ↓e8, h9, z11, h13, q14, z15, h16, q17, z18]
            repeat (refine chk.go (by first | omega | assumption | (simp_all; done) | (simp_all; omega)) ?_; try simp -dsimp [hb2, h5, z7, ↓e8, h9, z11, h13, q14, z15, h16, q17, z18])
        · have q14 : (byteAt x.name 0 < 65) := by first | exact h13 | omega | (simpa using h13) | (simp at h13 ⊢; omega) | simp_all
          have z15 : (((byteAt x.name 0 : Nat) : Int) < (65 : Int)) := by first | omega | simp_all
          rw [if_pos q14] at hF
          cases hF
          simp -dsimp [hb2, h5, z7, ↓e8, h9, z11, h13, q14, z15]
          repeat (refine chk.go (by first | omega | assumption | (simp_all; done) | (simp_all; omega)) ?_; try simp -dsimp [hb2, h5, z7, ↓e8, h9, z11, h13, q14, z15])
          refine LeaveM.go _ (Gh.refl _) (hq _ ?_ _)
          simp -dsimp [hb2, h5, z7, ↓e8, h9, z11, h13, q14, z15]
          repeat (refine chk.go (by first | omega | assumption | (simp_all; done) | (simp_all; omega)) ?_; try simp -dsimp [hb2, h5, z7, ↓e8, h9, z11, h13, q14, z15])
      · have q10 : ¬ (x.name.size = 1) := by first | exact h9 | omega | (simpa using h9) | (simp at h9 ⊢; omega) | simp_all
        have z11 : ¬ ((x.name.size : Int) = (1 : Int)) := by first | omega | simp_all
        rw [if_neg q10] at hF
        cases hF
        simp -dsimp [hb2, h5, z7, ↓e8, h9, q10, z11]
        repeat (refine chk.go (by first | omega | assumption | (simp_all; done) | (simp_all; omega)) ?_; try simp -dsimp [hb2, h5, z7, ↓e8, h9, q10, z11])
        refine LeaveM.go _ (Gh.refl _) (hq _ ?_ _)
        simp -dsimp [hb2, h5, z7, ↓e8, h9, q10, z11]
        repeat (refine chk.go (by first | omega | assumption | (simp_all; done) | (simp_all; omega)) ?_; try simp -dsimp [hb2, h5, z7, ↓e8, h9, q10, z11])
    · have q6 : ¬ (i < w.length) := by first | exact h5 | omega | (simpa using h5) | (simp at h5 ⊢; omega) | simp_all
      have z7 : ¬ ((i : Int) < (w.length : Int)) := by first | omega | simp_all
      rw [if_neg q6] at hF
      cases hF
      simp -dsimp [hb2, h5, q6, z7]
      repeat (refine chk.go (by first | omega | assumption | (simp_all; done) | (simp_all; omega)) ?_; try simp -dsimp [hb2, h5, q6, z7])
      refine LeaveM.go ⟨[], []⟩ (Gh.to (by simp) (by first | (simp -dsimp; done) | (simp -dsimp [hb2, h5, q6, z7]; done) | simp_all) (by first | (simp -dsimp; done) | (simp -dsimp [hb2, h5, q6, z7]; done) | simp_all) (by first | (simp -dsimp; done) | (simp -dsimp [hb2, h5, q6, z7]; done) | simp_all)) ?_
      exact hq

theorem C.impl_WorldValid_l1 (B : Nat) (hB1 : 67108864 ≤ B) (hB2 : B ≤ 9223372036854775807) (w : List Vl.Data) (met : List ByteArray) (met4 : List ByteArray) (i : Nat) (o : Lo Bool ((List ByteArray) × (List ByteArray))) (hF : F.impl_WorldValid_l1 w met met4 i = some o) : ∀ (b1 b2 : Nat), ¬ b1 = b2 → ∀ (c : Code), navO [1, 1, 1, 1, 0, 1, 0, 0] (bodyOf Try.f62) = some c → ∀ (Q : Exit → ASt → Ms → Prop), o.post (fun r => ∀ st, Post Try.prog Try.f62 (fun r' _ => r' = (.lit (.bool r))) .ret st → ∀ ms, Q .ret st ms) (fun s => Q (.exit 0) ⟨[], []⟩ [(b1, s.1), (b2, s.2)]) → MLoop Try.prog B 79 (hold c .mk) ⟨[(0, .arr (List.map Vl.Data.c w)), (3, .lit (.map (some b1))), (4, .lit (.map (some b2))), (14, .arr (List.map Vl.Data.c w)), (15, .lit (.int .i64 (w.length : Int))), (16, .lit (.int .i64 (i : Int)))], []⟩ [(b1, met), (b2, met4)] (hold Q .mk) :=
  (CC.impl_WorldValid_l1 B hB1 hB2 w) met met4 i o hF

set_option maxRecDepth 100000 in
set_option maxHeartbeats 400000 in
theorem C.impl_WorldValid (B : Nat) (hB1 : 67108864 ≤ B) (hB2 : B ≤ 9223372036854775807) (w : List Vl.Data) (r : Bool) (hF : F.impl_WorldValid w = some r) : PureCall Try.prog B 62 [.arr (List.map Vl.Data.c w)] (.lit (.bool r)) := by
  unfold F.impl_WorldValid at hF
  refine PureCall.enterM Try.func62 (by kernel_rfl) rfl Try.ntmps62 (by simp) ?_
  simp -dsimp
  repeat (refine chk.go (by first | omega | assumption | (simp_all; done) | (simp_all; omega)) ?_; try simp -dsimp)
  refine abr.split (fun h1 => ?_) (fun h1 => ?_)
  · have q2 : (4 < w.length) := by first | exact h1 | omega | (simpa using h1) | (simp at h1 ⊢; omega) | simp_all
    have z3 : ((4 : Int) < (w.length : Int)) := by first | omega | simp_all
    rw [if_pos q2] at hF
    cases hF
    simp -dsimp [h1, z3]
    repeat (refine chk.go (by first | omega | assumption | (simp_all; done) | (simp_all; omega)) ?_; try simp -dsimp [h1, z3])
  · have q2 : ¬ (4 < w.length) := by first | exact h1 | omega | (simpa using h1) | (simp at h1 ⊢; omega) | simp_all
    have z3 : ¬ ((4 : Int) < (w.length : Int)) := by first | omega | simp_all
    rw [if_neg q2] at hF
    simp -dsimp [h1, q2, z3]
    repeat (refine chk.go (by first | omega | assumption | (simp_all; done) | (simp_all; omega)) ?_; try simp -dsimp [h1, q2, z3])
    refine AMake.go fun b1 hb1 => ?_
    simp -dsimp [h1, q2, z3]
    repeat (refine chk.go (by first | omega | assumption | (simp_all; done) | (simp_all; omega)) ?_; try simp -dsimp [h1, q2, z3])
    refine AMake.go fun b2 hb2 => ?_
    simp at hb2
    simp -dsimp [h1, q2, z3, hb2]
    repeat (refine chk.go (by first | omega | assumption | (simp_all; done) | (simp_all; omega)) ?_; try simp -dsimp [h1, q2, z3, hb2])
    have hF := ob hF; obtain ⟨o'44, ho43, hF⟩ := hF
    refine MLoop.goU ⟨[(0, .arr (List.map Vl.Data.c w)), (3, .lit (.map (some b1))), (4, .lit (.map (some b2))), (14, .arr (List.map Vl.Data.c w)), (15, .lit (.int .i64 (w.length : Int))), (16, .lit (.int .i64 (0 : Int)))], []⟩ (Gh.to (by simp) (by first | (simp -dsimp; done) | (simp -dsimp [h1, q2, z3, hb2]; done) | simp_all) (by first | (simp -dsimp; done) | (simp -dsimp [h1, q2, z3, hb2]; done) | simp_all) (by first | (simp -dsimp; done) | (simp -dsimp [h1, q2, z3, hb2]; done) | simp_all)) ?_
    refine (C.impl_WorldValid_l1 B hB1 hB2 w [] [] 0 o'44 ho43) b1 b2 hb2 _ rfl _ ?_
    rcases o'44 with r046 | s45
    · dsimp only at hF
      cases hF
      intro st h ms
      simpa using h
    · dsimp only at hF
      cases hF
      simp -dsimp
      repeat (refine chk.go (by first | omega | assumption | (simp_all; done) | (simp_all; omega)) ?_; try simp -dsimp)

set_option maxRecDepth 100000 in
set_option maxHeartbeats 400000 in
theorem C.impl_typeOk (B : Nat) (hB1 : 67108864 ≤ B) (hB2 : B ≤ 9223372036854775807) (w : List Vl.Data) (t : Vl.Ty) (r : Bool) (hF : F.impl_typeOk w t = some r) : PureCall Try.prog B 49 [.arr (List.map Vl.Data.c w), .agg [.lit (.int .i64 t.data), .lit (.int .i64 t.index)]] (.lit (.bool r)) := by
  unfold F.impl_typeOk at hF
  refine PureCall.enterLe Try.func49 (by kernel_rfl) rfl Try.ntmps49 (by simp) (by simp) ?_
  simp -dsimp
  repeat (refine chk.go (by first | omega | assumption | (simp_all; done) | (simp_all; omega)) ?_; try simp -dsimp)
  refine abr.split (fun h1 => ?_) (fun h1 => ?_)
  · have q2 : ¬ (dec (eq2 (t.data, t.index) ((-1), 0)) = true) := by first | exact h1 | omega | (simpa using h1) | (simp at h1 ⊢; omega) | simp_all
    rw [if_neg q2] at hF
    simp -dsimp [h1, q2]
    repeat (refine chk.go (by first | omega | assumption | (simp_all; done) | (simp_all; omega)) ?_; try simp -dsimp [h1, q2])
    have hF := ob hF; obtain ⟨v, e3, hF⟩ := hF
    refine ((C.impl_within B hB1 hB2 t.data (0 : Int) (IntKind.i64.wrap ((w.length : Int) - 1)) v e3)).goW (by first | (simp; done) | (simp [h1, q2]; done) | simp_all) (by simp) ?_
    simp -dsimp [h1, q2]
    repeat (refine chk.go (by first | omega | assumption | (simp_all; done) | (simp_all; omega)) ?_; try simp -dsimp [h1, q2])
    refine abr.split (fun h4 => ?_) (fun h4 => ?_)
    · have q5 : (v = true) := by first | exact h4 | omega | (simpa using h4) | (simp at h4 ⊢; omega) | simp_all
      rw [if_pos q5] at hF
      simp -dsimp [h1, q2, h4]
      repeat (refine chk.go (by first | omega | assumption | (simp_all; done) | (simp_all; omega)) ?_; try simp -dsimp [h1, q2, h4])
      have hF := ob hF; obtain ⟨v6, e7, hF⟩ := hF
      refine ((C.impl_within B hB1 hB2 t.index (0 : Int) (3 : Int) v6 e7)).goW (by first | (simp; done) | (simp [h1, q2, h4]; done) | simp_all) (by simp) ?_
      cases hF
      simp -dsimp [h1, q2, h4]
      repeat (refine chk.go (by first | omega | assumption | (simp_all; done) | (simp_all; omega)) ?_; try simp -dsimp [h1, q2, h4])
    · have q5 : ¬ (v = true) := by first | exact h4 | omega | (simpa using h4) | (simp at h4 ⊢; omega) | simp_all
      rw [if_neg q5] at hF
      cases hF
      simp -dsimp [h1, q2, h4, q5]
      repeat (refine chk.go (by first | omega | assumption | (simp_all; done) | (simp_all; omega)) ?_; try simp -dsimp [h1, q2, h4, q5])
  · have q2 : (dec (eq2 (t.data, t.index) ((-1), 0)) = true) := by first | exact h1 | omega | (simpa using h1) | (simp at h1 ⊢; omega) | simp_all
    rw [if_pos q2] at hF
    cases hF
    simp -dsimp [h1, q2]
    repeat (refine chk.go (by first | omega | assumption | (simp_all; done) | (simp_all; omega)) ?_; try simp -dsimp [h1, q2])

set_option maxRecDepth 100000 in
set_option maxHeartbeats 400000 in
theorem C.impl_TypeValid (B : Nat) (hB1 : 67108864 ≤ B) (hB2 : B ≤ 9223372036854775807) (w : List Vl.Data) (t : Vl.Ty) (r : Bool) (hF : F.impl_TypeValid w t = some r) : PureCall Try.prog B 27 [.arr (List.map Vl.Data.c w), .agg [.lit (.int .i64 t.data), .lit (.int .i64 t.index)]] (.lit (.bool r)) := by
  unfold F.impl_TypeValid at hF
  refine PureCall.enterLe Try.func27 (by kernel_rfl) rfl Try.ntmps27 (by simp) (by simp) ?_
  simp -dsimp
  repeat (refine chk.go (by first | omega | assumption | (simp_all; done) | (simp_all; omega)) ?_; try simp -dsimp)
  have hF := ob hF; obtain ⟨v, e1, hF⟩ := hF
  refine ((C.impl_WorldValid B hB1 hB2 w v e1)).goW (by simp) (by simp) ?_
  simp -dsimp
  repeat (refine chk.go (by first | omega | assumption | (simp_all; done) | (simp_all; omega)) ?_; try simp -dsimp)
  refine abr.split (fun h2 => ?_) (fun h2 => ?_)
  · have q3 : (v = true) := by first | exact h2 | omega | (simpa using h2) | (simp at h2 ⊢; omega) | simp_all
    rw [if_pos q3] at hF
    simp -dsimp [h2]
    repeat (refine chk.go (by first | omega | assumption | (simp_all; done) | (simp_all; omega)) ?_; try simp -dsimp [h2])
    have hF := ob hF; obtain ⟨v4, e5, hF⟩ := hF
    refine ((C.impl_typeOk B hB1 hB2 w t v4 e5)).goW (by first | (simp; done) | (simp [h2]; done) | simp_all) (by simp) ?_
    cases hF
    simp -dsimp [h2]
    repeat (refine chk.go (by first | omega | assumption | (simp_all; done) | (simp_all; omega)) ?_; try simp -dsimp [h2])
  · have q3 : ¬ (v = true) := by first | exact h2 | omega | (simpa using h2) | (simp at h2 ⊢; omega) | simp_all
    rw [if_neg q3] at hF
    cases hF
    simp -dsimp [h2, q3]
    repeat (refine chk.go (by first | omega | assumption | (simp_all; done) | (simp_all; omega)) ?_; try simp -dsimp [h2, q3])

set_option maxRecDepth 100000 in
set_option maxHeartbeats 400000 in
theorem C.impl_fits (B : Nat) (hB1 : 67108864 ≤ B) (hB2 : B ≤ 9223372036854775807) (a : Vl.Ty) (b : Vl.Ty) (r : Bool) (hF : F.impl_fits a b = some r) : PureCall Try.prog B 50 [.agg [.lit (.int .i64 a.data), .lit (.int .i64 a.index)], .agg [.lit (.int .i64 b.data), .lit (.int .i64 b.index)]] (.lit (.bool r)) := by
  unfold F.impl_fits at hF
  refine PureCall.enterLe Try.func50 (by kernel_rfl) rfl Try.ntmps50 (by simp) (by simp) ?_
  simp -dsimp
  repeat (refine chk.go (by first | omega | assumption | (simp_all; done) | (simp_all; omega)) ?_; try simp -dsimp)
  refine abr.split (fun h1 => ?_) (fun h1 => ?_)
  · have q2 : (a.data = b.data) := by first | exact h1 | omega | (simpa using h1) | (simp at h1 ⊢; omega) | simp_all
    rw [if_pos q2] at hF
    simp -dsimp [h1]
    repeat (refine chk.go (by first | omega | assumption | (simp_all; done) | (simp_all; omega)) ?_; try simp -dsimp [h1])
    refine abr.split (fun h3 => ?_) (fun h3 => ?_)
    · have q4 : ¬ (b.index = 0) := by first | exact h3 | omega | (simpa using h3) | (simp at h3 ⊢; omega) | simp_all
      rw [if_neg q4] at hF
      cases hF
      simp -dsimp [h1, h3, q4]
      repeat (refine chk.go (by first | omega | assumption | (simp_all; done) | (simp_all; omega)) ?_; try simp -dsimp [h1, h3, q4])
    · have q4 : (b.index = 0) := by first | exact h3 | omega | (simpa using h3) | (simp at h3 ⊢; omega) | simp_all
      rw [if_pos q4] at hF
      cases hF
      simp -dsimp [h1, h3, q4]
      repeat (refine chk.go (by first | omega | assumption | (simp_all; done) | (simp_all; omega)) ?_; try simp -dsimp [h1, h3, q4])
  · have q2 : ¬ (a.data = b.data) := by first | exact h1 | omega | (simpa using h1) | (simp at h1 ⊢; omega) | simp_all
    rw [if_neg q2] at hF
    cases hF
    simp -dsimp [h1, q2]
    repeat (refine chk.go (by first | omega | assumption | (simp_all; done) | (simp_all; omega)) ?_; try simp -dsimp [h1, q2])

set_option maxRecDepth 100000 in
set_option maxHeartbeats 400000 in
theorem C.impl_TypeFits (B : Nat) (hB1 : 67108864 ≤ B) (hB2 : B ≤ 9223372036854775807) (w : List Vl.Data) (a : Vl.Ty) (b : Vl.Ty) (r : Bool) (hF : F.impl_TypeFits w a b = some r) : PureCall Try.prog B 18 [.arr (List.map Vl.Data.c w), .agg [.lit (.int .i64 a.data), .lit (.int .i64 a.index)], .agg [.lit (.int .i64 b.data), .lit (.int .i64 b.index)]] (.lit (.bool r)) := by
  unfold F.impl_TypeFits at hF
  refine PureCall.enterLe Try.func18 (by kernel_rfl) rfl Try.ntmps18 (by simp) (by simp) ?_
  simp -dsimp
  repeat (refine chk.go (by first | omega | assumption | (simp_all; done) | (simp_all; omega)) ?_; try simp -dsimp)
  have hF := ob hF; obtain ⟨v, e1, hF⟩ := hF
  refine ((C.impl_TypeValid B hB1 hB2 w a v e1)).goW (by simp) (by simp) ?_
  simp -dsimp
  repeat (refine chk.go (by first | omega | assumption | (simp_all; done) | (simp_all; omega)) ?_; try simp -dsimp)
  refine abr.split (fun h2 => ?_) (fun h2 => ?_)
  · have q3 : (v = true) := by first | exact h2 | omega | (simpa using h2) | (simp at h2 ⊢; omega) | simp_all
    rw [if_pos q3] at hF
    simp -dsimp [h2]
    repeat (refine chk.go (by first | omega | assumption | (simp_all; done) | (simp_all; omega)) ?_; try simp -dsimp [h2])
    have hF := ob hF; obtain ⟨v4, e5, hF⟩ := hF
    refine ((C.impl_typeOk B hB1 hB2 w b v4 e5)).goW (by first | (simp; done) | (simp [h2]; done) | simp_all) (by simp) ?_
    simp -dsimp [h2]
    repeat (refine chk.go (by first | omega | assumption | (simp_all; done) | (simp_all; omega)) ?_; try simp -dsimp [h2])
    refine abr.split (fun h6 => ?_) (fun h6 => ?_)
    · have q7 : (v4 = true) := by first | exact h6 | omega | (simpa using h6) | (simp at h6 ⊢; omega) | simp_all
      rw [if_pos q7] at hF
      simp -dsimp [h2, h6]
      repeat (refine chk.go (by first | omega | assumption | (simp_all; done) | (simp_all; omega)) ?_; try simp -dsimp [h2, h6])
      have hF := ob hF; obtain ⟨v8, e9, hF⟩ := hF
      refine ((C.impl_fits B hB1 hB2 a b v8 e9)).goW (by first | (simp; done) | (simp [h2, h6]; done) | simp_all) (by simp) ?_
      cases hF
      simp -dsimp [h2, h6]
      repeat (refine chk.go (by first | omega | assumption | (simp_all; done) | (simp_all; omega)) ?_; try simp -dsimp [h2, h6])
    · have q7 : ¬ (v4 = true) := by first | exact h6 | omega | (simpa using h6) | (simp at h6 ⊢; omega) | simp_all
      rw [if_neg q7] at hF
      cases hF
      simp -dsimp [h2, h6, q7]
      repeat (refine chk.go (by first | omega | assumption | (simp_all; done) | (simp_all; omega)) ?_; try simp -dsimp [h2, h6, q7])
  · have q3 : ¬ (v = true) := by first | exact h2 | omega | (simpa using h2) | (simp at h2 ⊢; omega) | simp_all
    rw [if_neg q3] at hF
    cases hF
    simp -dsimp [h2, q3]
    repeat (refine chk.go (by first | omega | assumption | (simp_all; done) | (simp_all; omega)) ?_; try simp -dsimp [h2, q3])

set_option maxRecDepth 100000 in
set_option maxHeartbeats 400000 in
theorem C.spec_l1Is (B : Nat) (hB1 : 67108864 ≤ B) (hB2 : B ≤ 9223372036854775807) (w : List Vl.Data) (t : Vl.Ty) (r : Bool) (hF : F.spec_l1Is w t = some r) : PureCall Try.prog B 76 [.arr (List.map Vl.Data.c w), .agg [.lit (.int .i64 t.data), .lit (.int .i64 t.index)]] (.lit (.bool r)) := by
  unfold F.spec_l1Is at hF
  refine PureCall.enterLe Try.func76 (by kernel_rfl) rfl Try.ntmps76 (by simp) (by simp) ?_
  simp -dsimp
  repeat (refine chk.go (by first | omega | assumption | (simp_all; done) | (simp_all; omega)) ?_; try simp -dsimp)
  have hF := ob hF; obtain ⟨v, e1, hF⟩ := hF
  refine ((C.spec_l1Arg B hB1 hB2 (w.length : Int) t v e1)).goW (by simp) (by simp) ?_
  simp -dsimp
  repeat (refine chk.go (by first | omega | assumption | (simp_all; done) | (simp_all; omega)) ?_; try simp -dsimp)
  refine abr.split (fun h2 => ?_) (fun h2 => ?_)
  · have q3 : (v = true) := by first | exact h2 | omega | (simpa using h2) | (simp at h2 ⊢; omega) | simp_all
    rw [if_pos q3] at hF
    cases hF
    simp -dsimp [h2]
    repeat (refine chk.go (by first | omega | assumption | (simp_all; done) | (simp_all; omega)) ?_; try simp -dsimp [h2])
  · have q3 : ¬ (v = true) := by first | exact h2 | omega | (simpa using h2) | (simp at h2 ⊢; omega) | simp_all
    rw [if_neg q3] at hF
    cases hF
    simp -dsimp [h2, q3]
    repeat (refine chk.go (by first | omega | assumption | (simp_all; done) | (simp_all; omega)) ?_; try simp -dsimp [h2, q3])

set_option maxRecDepth 100000 in
set_option maxHeartbeats 400000 in
theorem C.spec_TypeValid (B : Nat) (hB1 : 67108864 ≤ B) (hB2 : B ≤ 9223372036854775807) (w : List Vl.Data) (t : Vl.Ty) (r : Bool) (hF : F.spec_TypeValid w t = some r) : PureCall Try.prog B 46 [.arr (List.map Vl.Data.c w), .agg [.lit (.int .i64 t.data), .lit (.int .i64 t.index)]] (.lit (.bool r)) := by
  unfold F.spec_TypeValid at hF
  refine PureCall.enterLe Try.func46 (by kernel_rfl) rfl Try.ntmps46 (by simp) (by simp) ?_
  simp -dsimp
  repeat (refine chk.go (by first | omega | assumption | (simp_all; done) | (simp_all; omega)) ?_; try simp -dsimp)
  have hF := ob hF; obtain ⟨v, e1, hF⟩ := hF
  refine ((C.spec_WorldValid B hB1 hB2 w v e1)).goW (by simp) (by simp) ?_
  simp -dsimp
  repeat (refine chk.go (by first | omega | assumption | (simp_all; done) | (simp_all; omega)) ?_; try simp -dsimp)
  refine abr.split (fun h2 => ?_) (fun h2 => ?_)
  · have q3 : (v = true) := by first | exact h2 | omega | (simpa using h2) | (simp at h2 ⊢; omega) | simp_all
    rw [if_pos q3] at hF
    simp -dsimp [h2]
    repeat (refine chk.go (by first | omega | assumption | (simp_all; done) | (simp_all; omega)) ?_; try simp -dsimp [h2])
    have hF := ob hF; obtain ⟨v4, e5, hF⟩ := hF
    refine ((C.spec_l1Is B hB1 hB2 w t v4 e5)).goW (by first | (simp; done) | (simp [h2]; done) | simp_all) (by simp) ?_
    cases hF
    simp -dsimp [h2]
    repeat (refine chk.go (by first | omega | assumption | (simp_all; done) | (simp_all; omega)) ?_; try simp -dsimp [h2])
  · have q3 : ¬ (v = true) := by first | exact h2 | omega | (simpa using h2) | (simp at h2 ⊢; omega) | simp_all
    rw [if_neg q3] at hF
    cases hF
    simp -dsimp [h2, q3]
    repeat (refine chk.go (by first | omega | assumption | (simp_all; done) | (simp_all; omega)) ?_; try simp -dsimp [h2, q3])

set_option maxRecDepth 100000 in
set_option maxHeartbeats 400000 in
theorem C.spec_l12Fits (B : Nat) (hB1 : 67108864 ≤ B) (hB2 : B ≤ 9223372036854775807) (a : Vl.Ty) (b : Vl.Ty) (r : Bool) (hF : F.spec_l12Fits a b = some r) : PureCall Try.prog B 47 [.agg [.lit (.int .i64 a.data), .lit (.int .i64 a.index)], .agg [.lit (.int .i64 b.data), .lit (.int .i64 b.index)]] (.lit (.bool r)) := by
  unfold F.spec_l12Fits at hF
  refine PureCall.enterLe Try.func47 (by kernel_rfl) rfl Try.ntmps47 (by simp) (by simp) ?_
  simp -dsimp
  repeat (refine chk.go (by first | omega | assumption | (simp_all; done) | (simp_all; omega)) ?_; try simp -dsimp)
  refine abr.split (fun h1 => ?_) (fun h1 => ?_)
  · have q2 : (a.data = b.data) := by first | exact h1 | omega | (simpa using h1) | (simp at h1 ⊢; omega) | simp_all
    rw [if_pos q2] at hF
    simp -dsimp [h1]
    repeat (refine chk.go (by first | omega | assumption | (simp_all; done) | (simp_all; omega)) ?_; try simp -dsimp [h1])
    refine abr.split (fun h3 => ?_) (fun h3 => ?_)
    · have q4 : ¬ (b.index = 0) := by first | exact h3 | omega | (simpa using h3) | (simp at h3 ⊢; omega) | simp_all
      rw [if_neg q4] at hF
      cases hF
      simp -dsimp [h1, h3, q4]
      repeat (refine chk.go (by first | omega | assumption | (simp_all; done) | (simp_all; omega)) ?_; try simp -dsimp [h1, h3, q4])
    · have q4 : (b.index = 0) := by first | exact h3 | omega | (simpa using h3) | (simp at h3 ⊢; omega) | simp_all
      rw [if_pos q4] at hF
      cases hF
      simp -dsimp [h1, h3, q4]
      repeat (refine chk.go (by first | omega | assumption | (simp_all; done) | (simp_all; omega)) ?_; try simp -dsimp [h1, h3, q4])
  · have q2 : ¬ (a.data = b.data) := by first | exact h1 | omega | (simpa using h1) | (simp at h1 ⊢; omega) | simp_all
    rw [if_neg q2] at hF
    cases hF
    simp -dsimp [h1, q2]
    repeat (refine chk.go (by first | omega | assumption | (simp_all; done) | (simp_all; omega)) ?_; try simp -dsimp [h1, q2])

set_option maxRecDepth 100000 in
set_option maxHeartbeats 400000 in
theorem C.spec_TypeFits (B : Nat) (hB1 : 67108864 ≤ B) (hB2 : B ≤ 9223372036854775807) (w : List Vl.Data) (a : Vl.Ty) (b : Vl.Ty) (r : Bool) (hF : F.spec_TypeFits w a b = some r) : PureCall Try.prog B 15 [.arr (List.map Vl.Data.c w), .agg [.lit (.int .i64 a.data), .lit (.int .i64 a.index)], .agg [.lit (.int .i64 b.data), .lit (.int .i64 b.index)]] (.lit (.bool r)) := by
  unfold F.spec_TypeFits at hF
  refine PureCall.enterLe Try.func15 (by kernel_rfl) rfl Try.ntmps15 (by simp) (by simp) ?_
  simp -dsimp
  repeat (refine chk.go (by first | omega | assumption | (simp_all; done) | (simp_all; omega)) ?_; try simp -dsimp)
  have hF := ob hF; obtain ⟨v, e1, hF⟩ := hF
  refine ((C.spec_TypeValid B hB1 hB2 w a v e1)).goW (by simp) (by simp) ?_
  simp -dsimp
  repeat (refine chk.go (by first | omega | assumption | (simp_all; done) | (simp_all; omega)) ?_; try simp -dsimp)
  refine abr.split (fun h2 => ?_) (fun h2 => ?_)
  · have q3 : (v = true) := by first | exact h2 | omega | (simpa using h2) | (simp at h2 ⊢; omega) | simp_all
    rw [if_pos q3] at hF
    simp -dsimp [h2]
    repeat (refine chk.go (by first | omega | assumption | (simp_all; done) | (simp_all; omega)) ?_; try simp -dsimp [h2])
    have hF := ob hF; obtain ⟨v4, e5, hF⟩ := hF
    refine ((C.spec_TypeValid B hB1 hB2 w b v4 e5)).goW (by first | (simp; done) | (simp [h2]; done) | simp_all) (by simp) ?_
    simp -dsimp [h2]
    repeat (refine chk.go (by first | omega | assumption | (simp_all; done) | (simp_all; omega)) ?_; try simp -dsimp [h2])
    refine abr.split (fun h6 => ?_) (fun h6 => ?_)
    · have q7 : (v4 = true) := by first | exact h6 | omega | (simpa using h6) | (simp at h6 ⊢; omega) | simp_all
      rw [if_pos q7] at hF
      simp -dsimp [h2, h6]
      repeat (refine chk.go (by first | omega | assumption | (simp_all; done) | (simp_all; omega)) ?_; try simp -dsimp [h2, h6])
      have hF := ob hF; obtain ⟨v8, e9, hF⟩ := hF
      refine ((C.spec_l12Fits B hB1 hB2 a b v8 e9)).goW (by first | (simp; done) | (simp [h2, h6]; done) | simp_all) (by simp) ?_
      cases hF
      simp -dsimp [h2, h6]
      repeat (refine chk.go (by first | omega | assumption | (simp_all; done) | (simp_all; omega)) ?_; try simp -dsimp [h2, h6])
    · have q7 : ¬ (v4 = true) := by first | exact h6 | omega | (simpa using h6) | (simp at h6 ⊢; omega) | simp_all
      rw [if_neg q7] at hF
      cases hF
      simp -dsimp [h2, h6, q7]
      repeat (refine chk.go (by first | omega | assumption | (simp_all; done) | (simp_all; omega)) ?_; try simp -dsimp [h2, h6, q7])
  · have q3 : ¬ (v = true) := by first | exact h2 | omega | (simpa using h2) | (simp at h2 ⊢; omega) | simp_all
    rw [if_neg q3] at hF
    cases hF
    simp -dsimp [h2, q3]
    repeat (refine chk.go (by first | omega | assumption | (simp_all; done) | (simp_all; omega)) ?_; try simp -dsimp [h2, q3])

set_option maxRecDepth 100000 in
set_option maxHeartbeats 400000 in
theorem CC.impl_ctorsOf_l1 (B : Nat) (hB1 : 67108864 ≤ B) (hB2 : B ≤ 9223372036854775807) (t : Vl.Ty) (x : Vl.Data) : (∀ (i : Nat) (out : List Int) (o : List Int), F.impl_ctorsOf_l1 t x i out = some o → ∀ (c : Code), navO [1, 1, 0, 1, 0, 1, 0, 0] (bodyOf Try.f63) = some c → ∀ (Q : Exit → ASt → Prop), Q (.exit 0) ⟨[(5, .own 1 (List.length (α := Int) o))], [.dead, .elems 1 (List.map cI o)]⟩ → ALoopU Try.prog B 0 44 (hold c .mk) ⟨[(3, .ptr 0 0), (5, .own 1 (List.length (α := Int) out)), (16, .arr (List.map Vl.Ctor.c x.ctors)), (17, .lit (.int .i64 (x.ctors.length : Int))), (18, .lit (.int .i64 (i : Int)))], [.cells [.lit (.int .i64 t.data), .lit (.int .i64 t.index)], .elems 1 (List.map cI out)]⟩ (hold Q .mk)) := by
  refine F.impl_ctorsOf_l1.partial_correctness t x
    (fun i out o => ∀ (c : Code), navO [1, 1, 0, 1, 0, 1, 0, 0] (bodyOf Try.f63) = some c → ∀ (Q : Exit → ASt → Prop), Q (.exit 0) ⟨[(5, .own 1 (List.length (α := Int) o))], [.dead, .elems 1 (List.map cI o)]⟩ → ALoopU Try.prog B 0 44 (hold c .mk) ⟨[(3, .ptr 0 0), (5, .own 1 (List.length (α := Int) out)), (16, .arr (List.map Vl.Ctor.c x.ctors)), (17, .lit (.int .i64 (x.ctors.length : Int))), (18, .lit (.int .i64 (i : Int)))], [.cells [.lit (.int .i64 t.data), .lit (.int .i64 t.index)], .elems 1 (List.map cI out)]⟩ (hold Q .mk))
    ?_
  · intro _f_impl_ctorsOf_l1 ih_impl_ctorsOf_l1 i out o hF
    intro c hc Q hq
    obtain rfl : c = _ := navEq hc rfl
    refine ALoopU.know fun hk hs => ?_
    have b16 := hk 16
    simp -dsimp at b16
    have d1 := hs 1 _ rfl
    simp -dsimp [Blk.bnd] at d1
    clear hk hs
    refine ALoopU.enter ?_
    simp -dsimp
    repeat (refine chk.go (by first | omega | assumption | (simp_all; done) | (simp_all; omega)) ?_; try simp -dsimp)
    refine abr.split (fun h4 => ?_) (fun h4 => ?_)
    · have q5 : (i < x.ctors.length) := by first | exact h4 | omega | (simpa using h4) | (simp at h4 ⊢; omega) | simp_all
      have z6 : ((i : Int) < (x.ctors.length : Int)) := by first | omega | simp_all
      rw [if_pos q5] at hF
      have hF := ob hF; obtain ⟨x7, e8, hF⟩ := hF
      have le8 := lt_of_get e8
      simp -dsimp [h4, z6, ↓e8]
      repeat (refine chk.go (by first | omega | assumption | (simp_all; done) | (simp_all; omega)) ?_; try simp -dsimp [h4, z6, ↓e8])
      refine abr.split (fun h9 => ?_) (fun h9 => ?_)
      · have q10 : ¬ (t.index = 0) := by first | exact h9 | omega | (simpa using h9) | (simp at h9 ⊢; omega) | simp_all
        rw [if_neg q10] at hF
        simp -dsimp [h4, z6, ↓e8, h9, q10]
        repeat (refine chk.go (by first | omega | assumption | (simp_all; done) | (simp_all; omega)) ?_; try simp -dsimp [h4, z6, ↓e8, h9, q10])
        refine abr.split (fun h11 => ?_) (fun h11 => ?_)
        · have q12 : ¬ (x7.index = 0) := by first | exact h11 | omega | (simpa using h11) | (simp at h11 ⊢; omega) | simp_all
          rw [if_neg q12] at hF
          simp -dsimp [h4, z6, ↓e8, h9, q10, h11, q12]
          repeat (refine chk.go (by first | omega | assumption | (simp_all; done) | (simp_all; omega)) ?_; try simp -dsimp [h4, z6, ↓e8, h9, q10, h11, q12])
          refine abr.split (fun h13 => ?_) (fun h13 => ?_)
          · have q14 : (x7.index = t.index) := by first | exact h13 | omega | (simpa using h13) | (simp at h13 ⊢; omega) | simp_all
            rw [if_pos q14] at hF
            have hF := oc hF; obtain ⟨c15, hF⟩ := hF
            have w16 : IntKind.i64.wrap ((i : Int) + 1) = (i : Int) + 1 := wrap_in (by omega) (by omega)
            simp -dsimp [h4, z6, ↓e8, h9, q10, h11, q12, h13, w16]
            repeat (refine chk.go (by first | omega | assumption | (simp_all; done) | (simp_all; omega)) ?_; try simp -dsimp [h4, z6, ↓e8, h9, q10, h11, q12, h13, w16])
            refine Again.go ⟨[(3, .ptr 0 0), (5, .own 1 (List.length (α := Int) (out ++ [(i : Int)]))), (16, .arr (List.map Vl.Ctor.c x.ctors)), (17, .lit (.int .i64 (x.ctors.length : Int))), (18, .lit (.int .i64 ((i + 1) : Int)))], [.cells [.lit (.int .i64 t.data), .lit (.int .i64 t.index)], .elems 1 (List.map cI (out ++ [(i : Int)]))]⟩ (Gh.to (by simp) (by first | (simp -dsimp; done) | (simp -dsimp [h4, z6, ↓e8, h9, q10, h11, q12, h13, w16]; done) | simp_all) (by first | (simp -dsimp; done) | (simp -dsimp [h4, z6, ↓e8, h9, q10, h11, q12, h13, w16]; done) | simp_all) (by first | (simp -dsimp; done) | (simp -dsimp [h4, z6, ↓e8, h9, q10, h11, q12, h13, w16]; done) | simp_all)) ?_
            exact (ih_impl_ctorsOf_l1 (i + 1) (out ++ [(i : Int)]) o hF) _ rfl _ hq
          · have q14 : ¬ (x7.index = t.index) := by first | exact h13 | omega | (simpa using h13) | (simp at h13 ⊢; omega) | simp_all
            rw [if_neg q14] at hF
            have w17 : IntKind.i64.wrap ((i : Int) + 1) = (i : Int) + 1 := wrap_in (by omega) (by omega)
            simp -dsimp [h4, z6, ↓e8, h9, q10, h11, q12, h13, q14, w17]
            repeat (refine chk.go (by first | omega | assumption | (simp_all; done) | (simp_all; omega)) ?_; try simp -dsimp [h4, z6, ↓e8, h9, q10, h11, q12, h13, q14, w17])
            refine Again.go ⟨[(3, .ptr 0 0), (5, .own 1 (List.length (α := Int) out)), (16, .arr (List.map Vl.Ctor.c x.ctors)), (17, .lit (.int .i64 (x.ctors.length : Int))), (18, .lit (.int .i64 ((i + 1) : Int)))], [.cells [.lit (.int .i64 t.data), .lit (.int .i64 t.index)], .elems 1 (List.map cI out)]⟩ (Gh.to (by simp) (by first | (simp -dsimp; done) | (simp -dsimp [h4, z6, ↓e8, h9, q10, h11, q12, h13, q14, w17]; done) | simp_all) (by first | (simp -dsimp; done) | (simp -dsimp [h4, z6, ↓e8, h9, q10, h11, q12, h13, q14, w17]; done) | simp_all) (by first | (simp -dsimp; done) | (simp -dsimp [h4, z6, ↓e8, h9, q10, h11, q12, h13, q14, w17]; done) | simp_all)) ?_
            exact (ih_impl_ctorsOf_l1 (i + 1) out o hF) _ rfl _ hq
        · have q12 : (x7.index = 0) := by first | exact h11 | omega | (simpa using h11) | (simp at h11 ⊢; omega) | simp_all
          rw [if_pos q12] at hF
          have hF := oc hF; obtain ⟨c18, hF⟩ := hF
          have w19 : IntKind.i64.wrap ((i : Int) + 1) = (i : Int) + 1 := wrap_in (by omega) (by omega)
          simp -dsimp [h4, z6, ↓e8, h9, q10, h11, q12, w19]
          repeat (refine chk.go (by first | omega | assumption | (simp_all; done) | (simp_all; omega)) ?_; try simp -dsimp [h4, z6, ↓e8, h9, q10, h11, q12, w19])
          refine Again.go ⟨[(3, .ptr 0 0), (5, .own 1 (List.length (α := Int) (out ++ [(i : Int)]))), (16, .arr (List.map Vl.Ctor.c x.ctors)), (17, .lit (.int .i64 (x.ctors.length : Int))), (18, .lit (.int .i64 ((i + 1) : Int)))], [.cells [.lit (.int .i64 t.data), .lit (.int .i64 t.index)], .elems 1 (List.map cI (out ++ [(i : Int)]))]⟩ (Gh.to (by simp) (by first | (simp -dsimp; done) | (simp -dsimp [h4, z6, ↓e8, h9, q10, h11, q12, w19]; done) | simp_all) (by first | (simp -dsimp; done) | (simp -dsimp [h4, z6, ↓e8, h9, q10, h11, q12, w19]; done) | simp_all) (by first | (simp -dsimp; done) | (simp -dsimp [h4, z6, ↓e8, h9, q10, h11, q12, w19]; done) | simp_all)) ?_
          exact (ih_impl_ctorsOf_l1 (i + 1) (out ++ [(i : Int)]) o hF) _ rfl _ hq
      · have q10 : (t.index = 0) := by first | exact h9 | omega | (simpa using h9) | (simp at h9 ⊢; omega) | simp_all
        rw [if_pos q10] at hF
        have hF := oc hF; obtain ⟨c20, hF⟩ := hF
        have w21 : IntKind.i64.wrap ((i : Int) + 1) = (i : Int) + 1 := wrap_in (by omega) (by omega)
        simp -dsimp [h4, z6, ↓e8, h9, q10, w21]
        repeat (refine chk.go (by first | omega | assumption | (simp_all; done) | (simp_all; omega)) ?_; try simp -dsimp [h4, z6, ↓e8, h9, q10, w21])
        refine Again.go ⟨[(3, .ptr 0 0), (5, .own 1 (List.length (α := Int) (out ++ [(i : Int)]))), (16, .arr (List.map Vl.Ctor.c x.ctors)), (17, .lit (.int .i64 (x.ctors.length : Int))), (18, .lit (.int .i64 ((i + 1) : Int)))], [.cells [.lit (.int .i64 t.data), .lit (.int .i64 t.index)], .elems 1 (List.map cI (out ++ [(i : Int)]))]⟩ (Gh.to (by simp) (by first | (simp -dsimp; done) | (simp -dsimp [h4, z6, ↓e8, h9, q10, w21]; done) | simp_all) (by first | (simp -dsimp; done) | (simp -dsimp [h4, z6, ↓e8, h9, q10, w21]; done) | simp_all) (by first | (simp -dsimp; done) | (simp -dsimp [h4, z6, ↓e8, h9, q10, w21]; done) | simp_all)) ?_
        exact (ih_impl_ctorsOf_l1 (i + 1) (out ++ [(i : Int)]) o hF) _ rfl _ hq
    · have q5 : ¬ (i < x.ctors.length) := by first | exact h4 | omega | (simpa using h4) | (simp at h4 ⊢; omega) | simp_all
      have z6 : ¬ ((i : Int) < (x.ctors.length : Int)) := by first | omega | simp_all
      rw [if_neg q5] at hF
      cases hF
      simp -dsimp [h4, q5, z6]
      repeat (refine chk.go (by first | omega | assumption | (simp_all; done) | (simp_all; omega)) ?_; try simp -dsimp [h4, q5, z6])
      refine Leave.go ⟨[(5, .own 1 (List.length (α := Int) out))], [.dead, .elems 1 (List.map cI out)]⟩ (Gh.to (by simp) (by first | (simp -dsimp; done) | (simp -dsimp [h4, q5, z6]; done) | simp_all) (by first | (simp -dsimp; done) | (simp -dsimp [h4, q5, z6]; done) | simp_all) (by first | (simp -dsimp; done) | (simp -dsimp [h4, q5, z6]; done) | simp_all)) ?_
      exact hq

theorem C.impl_ctorsOf_l1 (B : Nat) (hB1 : 67108864 ≤ B) (hB2 : B ≤ 9223372036854775807) (t : Vl.Ty) (x : Vl.Data) (i : Nat) (out : List Int) (o : List Int) (hF : F.impl_ctorsOf_l1 t x i out = some o) : ∀ (c : Code), navO [1, 1, 0, 1, 0, 1, 0, 0] (bodyOf Try.f63) = some c → ∀ (Q : Exit → ASt → Prop), Q (.exit 0) ⟨[(5, .own 1 (List.length (α := Int) o))], [.dead, .elems 1 (List.map cI o)]⟩ → ALoopU Try.prog B 0 44 (hold c .mk) ⟨[(3, .ptr 0 0), (5, .own 1 (List.length (α := Int) out)), (16, .arr (List.map Vl.Ctor.c x.ctors)), (17, .lit (.int .i64 (x.ctors.length : Int))), (18, .lit (.int .i64 (i : Int)))], [.cells [.lit (.int .i64 t.data), .lit (.int .i64 t.index)], .elems 1 (List.map cI out)]⟩ (hold Q .mk) :=
  (CC.impl_ctorsOf_l1 B hB1 hB2 t x) i out o hF

set_option maxRecDepth 100000 in
set_option maxHeartbeats 400000 in
theorem C.impl_ctorsOf (B : Nat) (hB1 : 67108864 ≤ B) (hB2 : B ≤ 9223372036854775807) (w : List Vl.Data) (t : Vl.Ty) (r : List Int) (hF : F.impl_ctorsOf w t = some r) : PureCall Try.prog B 63 [.arr (List.map Vl.Data.c w), .agg [.lit (.int .i64 t.data), .lit (.int .i64 t.index)]] (.arr (List.map cI r)) := by
  unfold F.impl_ctorsOf at hF
  refine PureCall.enterLe Try.func63 (by kernel_rfl) rfl Try.ntmps63 (by simp) (by simp) ?_
  simp -dsimp
  repeat (refine chk.go (by first | omega | assumption | (simp_all; done) | (simp_all; omega)) ?_; try simp -dsimp)
  refine abr.split (fun h1 => ?_) (fun h1 => ?_)
  · have q2 : ¬ (t.data = (-1)) := by first | exact h1 | omega | (simpa using h1) | (simp at h1 ⊢; omega) | simp_all
    rw [if_neg q2] at hF
    have hF := ob hF; obtain ⟨x, e3a, hF⟩ := hF
    have e3a := at_some e3a; obtain ⟨ne3, e3⟩ := e3a
    have le3 := lt_of_get e3
    simp -dsimp [h1, q2, ↓e3]
    repeat (refine chk.go (by first | omega | assumption | (simp_all; done) | (simp_all; omega)) ?_; try simp -dsimp [h1, q2, ↓e3])
    have hF := ob hF; obtain ⟨o', ho22, hF⟩ := hF
    refine ALoop.goU ⟨[(3, .ptr 0 0), (5, .own 1 (List.length (α := Int) [])), (16, .arr (List.map Vl.Ctor.c x.ctors)), (17, .lit (.int .i64 (x.ctors.length : Int))), (18, .lit (.int .i64 (0 : Int)))], [.cells [.lit (.int .i64 t.data), .lit (.int .i64 t.index)], .elems 1 (List.map cI [])]⟩ ((Gh.nil 5 1 (by simp -dsimp)).trans (Gh.to (by simp) (by first | (simp -dsimp; done) | (simp -dsimp [h1, q2, ↓e3]; done) | simp_all) (by first | (simp -dsimp; done) | (simp -dsimp [h1, q2, ↓e3]; done) | simp_all) (by first | (simp -dsimp; done) | (simp -dsimp [h1, q2, ↓e3]; done) | simp_all))) ?_
    refine (C.impl_ctorsOf_l1 B hB1 hB2 t x 0 [] o' ho22) _ rfl _ ?_
    cases hF
    simp -dsimp
    repeat (refine chk.go (by first | omega | assumption | (simp_all; done) | (simp_all; omega)) ?_; try simp -dsimp)
  · have q2 : (t.data = (-1)) := by first | exact h1 | omega | (simpa using h1) | (simp at h1 ⊢; omega) | simp_all
    rw [if_pos q2] at hF
    cases hF
    simp -dsimp [h1, q2]
    repeat (refine chk.go (by first | omega | assumption | (simp_all; done) | (simp_all; omega)) ?_; try simp -dsimp [h1, q2])

set_option maxRecDepth 100000 in
set_option maxHeartbeats 400000 in
theorem C.impl_CtorsOf (B : Nat) (hB1 : 67108864 ≤ B) (hB2 : B ≤ 9223372036854775807) (w : List Vl.Data) (t : Vl.Ty) (r : List Int) (hF : F.impl_CtorsOf w t = some r) : PureCall Try.prog B 28 [.arr (List.map Vl.Data.c w), .agg [.lit (.int .i64 t.data), .lit (.int .i64 t.index)]] (.arr (List.map cI r)) := by
  unfold F.impl_CtorsOf at hF
  refine PureCall.enterLe Try.func28 (by kernel_rfl) rfl Try.ntmps28 (by simp) (by simp) ?_
  simp -dsimp
  repeat (refine chk.go (by first | omega | assumption | (simp_all; done) | (simp_all; omega)) ?_; try simp -dsimp)
  have hF := ob hF; obtain ⟨v, e1, hF⟩ := hF
  refine ((C.impl_TypeValid B hB1 hB2 w t v e1)).goW (by simp) (by simp) ?_
  simp -dsimp
  repeat (refine chk.go (by first | omega | assumption | (simp_all; done) | (simp_all; omega)) ?_; try simp -dsimp)
  refine abr.split (fun h2 => ?_) (fun h2 => ?_)
  · have q3 : ¬ (v = true) := by first | exact h2 | omega | (simpa using h2) | (simp at h2 ⊢; omega) | simp_all
    rw [if_neg q3] at hF
    cases hF
    simp -dsimp [h2, q3]
    repeat (refine chk.go (by first | omega | assumption | (simp_all; done) | (simp_all; omega)) ?_; try simp -dsimp [h2, q3])
  · have q3 : (v = true) := by first | exact h2 | omega | (simpa using h2) | (simp at h2 ⊢; omega) | simp_all
    rw [if_pos q3] at hF
    simp -dsimp [h2, q3]
    repeat (refine chk.go (by first | omega | assumption | (simp_all; done) | (simp_all; omega)) ?_; try simp -dsimp [h2, q3])
    have hF := ob hF; obtain ⟨v4, e5, hF⟩ := hF
    refine ((C.impl_ctorsOf B hB1 hB2 w t v4 e5)).goW (by first | (simp; done) | (simp [h2, q3]; done) | simp_all) (by simp) ?_
    cases hF
    simp -dsimp [h2, q3]
    repeat (refine chk.go (by first | omega | assumption | (simp_all; done) | (simp_all; omega)) ?_; try simp -dsimp [h2, q3])

set_option maxRecDepth 100000 in
set_option maxHeartbeats 400000 in
theorem CC.laws_ptIn_l1 (B : Nat) (hB1 : 67108864 ≤ B) (hB2 : B ≤ 9223372036854775807) (list : List Int) (n : Int) : (∀ (i : Nat) (o : Lo Bool Unit), F.laws_ptIn_l1 list n i = some o → ∀ (c : Code), navO [1, 0, 1, 0, 0] (bodyOf Try.f29) = some c → ∀ (Q : Exit → ASt → Prop), o.post (fun r => ∀ st, Post Try.prog Try.f29 (fun r' _ => r'.le (.lit (.bool r))) .ret st → Q .ret st) (fun s => Q (.exit 0) ⟨[], []⟩) → ALoopU Try.prog B 0 18 (hold c .mk) ⟨[(0, .arr (List.map cI list)), (1, .lit (.int .i64 n)), (5, .lit (.int .i64 (i : Int)))], []⟩ (hold Q .mk)) := by
  refine F.laws_ptIn_l1.partial_correctness list n
    (fun i o => ∀ (c : Code), navO [1, 0, 1, 0, 0] (bodyOf Try.f29) = some c → ∀ (Q : Exit → ASt → Prop), o.post (fun r => ∀ st, Post Try.prog Try.f29 (fun r' _ => r'.le (.lit (.bool r))) .ret st → Q .ret st) (fun s => Q (.exit 0) ⟨[], []⟩) → ALoopU Try.prog B 0 18 (hold c .mk) ⟨[(0, .arr (List.map cI list)), (1, .lit (.int .i64 n)), (5, .lit (.int .i64 (i : Int)))], []⟩ (hold Q .mk))
    ?_
  · intro _f_laws_ptIn_l1 ih_laws_ptIn_l1 i o hF
    intro c hc Q hq
    obtain rfl : c = _ := navEq hc rfl
    refine ALoopU.know fun hk hs => ?_
    have b0 := hk 0
    simp -dsimp at b0
    clear hk hs
    refine ALoopU.enter ?_
    simp -dsimp
    repeat (refine chk.go (by first | omega | assumption | (simp_all; done) | (simp_all; omega)) ?_; try simp -dsimp)
    refine abr.split (fun h1 => ?_) (fun h1 => ?_)
    · have q2 : (i < list.length) := by first | exact h1 | omega | (simpa using h1) | (simp at h1 ⊢; omega) | simp_all
      have z3 : ((i : Int) < (list.length : Int)) := by first | omega | simp_all
      rw [if_pos q2] at hF
      have hF := ob hF; obtain ⟨x, e4, hF⟩ := hF
      have le4 := lt_of_get e4
      simp -dsimp [h1, z3, ↓e4]
      repeat (refine chk.go (by first | omega | assumption | (simp_all; done) | (simp_all; omega)) ?_; try simp -dsimp [h1, z3, ↓e4])
      refine abr.split (fun h5 => ?_) (fun h5 => ?_)
      · have q6 : (x = n) := by first | exact h5 | omega | (simpa using h5) | (simp at h5 ⊢; omega) | simp_all
        rw [if_pos q6] at hF
        cases hF
        simp -dsimp [h1, z3, ↓e4, h5]
        repeat (refine chk.go (by first | omega | assumption | (simp_all; done) | (simp_all; omega)) ?_; try simp -dsimp [h1, z3, ↓e4, h5])
        refine Leave.go _ (Gh.refl _) (hq _ ?_)
        simp -dsimp [h1, z3, ↓e4, h5]
        repeat (refine chk.go (by first | omega | assumption | (simp_all; done) | (simp_all; omega)) ?_; try simp -dsimp [h1, z3, ↓e4, h5])
      · have q6 : ¬ (x = n) := by first | exact h5 | omega | (simpa using h5) | (simp at h5 ⊢; omega) | simp_all
        rw [if_neg q6] at hF
        have w7 : IntKind.i64.wrap ((i : Int) + 1) = (i : Int) + 1 := wrap_in (by omega) (by omega)
        simp -dsimp [h1, z3, ↓e4, h5, q6, w7]
        repeat (refine chk.go (by first | omega | assumption | (simp_all; done) | (simp_all; omega)) ?_; try simp -dsimp [h1, z3, ↓e4, h5, q6, w7])
        refine Again.go ⟨[(0, .arr (List.map cI list)), (1, .lit (.int .i64 n)), (5, .lit (.int .i64 ((i + 1) : Int)))], []⟩ (Gh.to (by simp) (by first | (simp -dsimp; done) | (simp -dsimp [h1, z3, ↓e4, h5, q6, w7]; done) | simp_all) (by first | (simp -dsimp; done) | (simp -dsimp [h1, z3, ↓e4, h5, q6, w7]; done) | simp_all) (by first | (simp -dsimp; done) | (simp -dsimp [h1, z3, ↓e4, h5, q6, w7]; done) | simp_all)) ?_
        exact (ih_laws_ptIn_l1 (i + 1) o hF) _ rfl _ hq
    · have q2 : ¬ (i < list.length) := by first | exact h1 | omega | (simpa using h1) | (simp at h1 ⊢; omega) | simp_all
      have z3 : ¬ ((i : Int) < (list.length : Int)) := by first | omega | simp_all
      rw [if_neg q2] at hF
      cases hF
      simp -dsimp [h1, q2, z3]
      repeat (refine chk.go (by first | omega | assumption | (simp_all; done) | (simp_all; omega)) ?_; try simp -dsimp [h1, q2, z3])
      refine Leave.go ⟨[], []⟩ (Gh.to (by simp) (by first | (simp -dsimp; done) | (simp -dsimp [h1, q2, z3]; done) | simp_all) (by first | (simp -dsimp; done) | (simp -dsimp [h1, q2, z3]; done) | simp_all) (by first | (simp -dsimp; done) | (simp -dsimp [h1, q2, z3]; done) | simp_all)) ?_
      exact hq

theorem C.laws_ptIn_l1 (B : Nat) (hB1 : 67108864 ≤ B) (hB2 : B ≤ 9223372036854775807) (list : List Int) (n : Int) (i : Nat) (o : Lo Bool Unit) (hF : F.laws_ptIn_l1 list n i = some o) : ∀ (c : Code), navO [1, 0, 1, 0, 0] (bodyOf Try.f29) = some c → ∀ (Q : Exit → ASt → Prop), o.post (fun r => ∀ st, Post Try.prog Try.f29 (fun r' _ => r'.le (.lit (.bool r))) .ret st → Q .ret st) (fun s => Q (.exit 0) ⟨[], []⟩) → ALoopU Try.prog B 0 18 (hold c .mk) ⟨[(0, .arr (List.map cI list)), (1, .lit (.int .i64 n)), (5, .lit (.int .i64 (i : Int)))], []⟩ (hold Q .mk) :=
  (CC.laws_ptIn_l1 B hB1 hB2 list n) i o hF

set_option maxRecDepth 100000 in
set_option maxHeartbeats 400000 in
theorem C.laws_ptIn (B : Nat) (hB1 : 67108864 ≤ B) (hB2 : B ≤ 9223372036854775807) (list : List Int) (n : Int) (r : Bool) (hF : F.laws_ptIn list n = some r) : PureCall Try.prog B 29 [.arr (List.map cI list), .lit (.int .i64 n)] (.lit (.bool r)) := by
  unfold F.laws_ptIn at hF
  refine PureCall.enterLe Try.func29 (by kernel_rfl) rfl Try.ntmps29 (by simp) (by simp) ?_
  simp -dsimp
  repeat (refine chk.go (by first | omega | assumption | (simp_all; done) | (simp_all; omega)) ?_; try simp -dsimp)
  have hF := ob hF; obtain ⟨o', ho8, hF⟩ := hF
  refine ALoop.goU ⟨[(0, .arr (List.map cI list)), (1, .lit (.int .i64 n)), (5, .lit (.int .i64 (0 : Int)))], []⟩ (Gh.to (by simp) (by simp -dsimp) (by simp -dsimp) (by simp -dsimp)) ?_
  refine (C.laws_ptIn_l1 B hB1 hB2 list n 0 o' ho8) _ rfl _ ?_
  rcases o' with r0 | s
  · dsimp only at hF
    cases hF
    intro st h
    simpa using h
  · dsimp only at hF
    cases hF
    simp -dsimp
    repeat (refine chk.go (by first | omega | assumption | (simp_all; done) | (simp_all; omega)) ?_; try simp -dsimp)

set_option maxRecDepth 100000 in
set_option maxHeartbeats 400000 in
theorem CC.laws_FnTypeFits_l1 (B : Nat) (hB1 : 67108864 ≤ B) (hB2 : B ≤ 9223372036854775807) (v27 : List Int) (v29 : List Int) : (∀ (i : Nat) (o : Lo Bool Unit), F.laws_FnTypeFits_l1 v27 v29 i = some o → ∀ (c : Code), navO [1, 1, 1, 1, 1, 1, 1, 0, 1, 0, 0] (bodyOf Try.f7) = some c → ∀ (Q : Exit → ASt → Prop), o.post (fun r => ∀ st, Post Try.prog Try.f7 (fun r' _ => r'.le (.lit (.bool r))) .ret st → Q .ret st) (fun s => Q (.exit 0) ⟨[], []⟩) → ALoopU Try.prog B 0 78 (hold c .mk) ⟨[(7, .arr (List.map cI v27)), (8, .arr (List.map cI v29)), (9, .lit (.int .i64 (i : Int)))], []⟩ (hold Q .mk)) := by
  refine F.laws_FnTypeFits_l1.partial_correctness v27 v29
    (fun i o => ∀ (c : Code), navO [1, 1, 1, 1, 1, 1, 1, 0, 1, 0, 0] (bodyOf Try.f7) = some c → ∀ (Q : Exit → ASt → Prop), o.post (fun r => ∀ st, Post Try.prog Try.f7 (fun r' _ => r'.le (.lit (.bool r))) .ret st → Q .ret st) (fun s => Q (.exit 0) ⟨[], []⟩) → ALoopU Try.prog B 0 78 (hold c .mk) ⟨[(7, .arr (List.map cI v27)), (8, .arr (List.map cI v29)), (9, .lit (.int .i64 (i : Int)))], []⟩ (hold Q .mk))
    ?_
  · intro _f_laws_FnTypeFits_l1 ih_laws_FnTypeFits_l1 i o hF
    intro c hc Q hq
    obtain rfl : c = _ := navEq hc rfl
    refine ALoopU.know fun hk hs => ?_
    have b7 := hk 7
    simp -dsimp at b7
    have b8 := hk 8
    simp -dsimp at b8
    clear hk hs
    refine ALoopU.enter ?_
    simp -dsimp
    repeat (refine chk.go (by first | omega | assumption | (simp_all; done) | (simp_all; omega)) ?_; try simp -dsimp)
    refine abr.split (fun h31 => ?_) (fun h31 => ?_)
    · have q32 : (i < v27.length) := by first | exact h31 | omega | (simpa using h31) | (simp at h31 ⊢; omega) | simp_all
      have z33 : ((i : Int) < (v27.length : Int)) := by first | omega | simp_all
      rw [if_pos q32] at hF
      have hF := ob hF; obtain ⟨x, e34, hF⟩ := hF
      have le34 := lt_of_get e34
      simp -dsimp [h31, z33, ↓e34]
      repeat (refine chk.go (by first | omega | assumption | (simp_all; done) | (simp_all; omega)) ?_; try simp -dsimp [h31, z33, ↓e34])
      have hF := ob hF; obtain ⟨v35, e36, hF⟩ := hF
      refine ((C.laws_ptIn B hB1 hB2 v29 x v35 e36)).goW (by first | (simp; done) | (simp [h31, z33, ↓e34]; done) | simp_all) (by simp) ?_
      simp -dsimp [h31, z33, ↓e34]
      repeat (refine chk.go (by first | omega | assumption | (simp_all; done) | (simp_all; omega)) ?_; try simp -dsimp [h31, z33, ↓e34])
      refine abr.split (fun h37 => ?_) (fun h37 => ?_)
      · have q38 : ¬ (v35 = true) := by first | exact h37 | omega | (simpa using h37) | (simp at h37 ⊢; omega) | simp_all
        rw [if_neg q38] at hF
        cases hF
        simp -dsimp [h31, z33, ↓e34, h37, q38]
        repeat (refine chk.go (by first | omega | assumption | (simp_all; done) | (simp_all; omega)) ?_; try simp -dsimp [h31, z33, ↓e34, h37, q38])
        refine Leave.go _ (Gh.refl _) (hq _ ?_)
        simp -dsimp [h31, z33, ↓e34, h37, q38]
        repeat (refine chk.go (by first | omega | assumption | (simp_all; done) | (simp_all; omega)) ?_; try simp -dsimp [h31, z33, ↓e34, h37, q38])
      · have q38 : (v35 = true) := by first | exact h37 | omega | (simpa using h37) | (simp at h37 ⊢; omega) | simp_all
        rw [if_pos q38] at hF
        have w39 : IntKind.i64.wrap ((i : Int) + 1) = (i : Int) + 1 := wrap_in (by omega) (by omega)
        simp -dsimp [h31, z33, ↓e34, h37, q38, w39]
        repeat (refine chk.go (by first | omega | assumption | (simp_all; done) | (simp_all; omega)) ?_; try simp -dsimp [h31, z33, ↓e34, h37, q38, w39])
        refine Again.go ⟨[(7, .arr (List.map cI v27)), (8, .arr (List.map cI v29)), (9, .lit (.int .i64 ((i + 1) : Int)))], []⟩ (Gh.to (by simp) (by first | (simp -dsimp; done) | (simp -dsimp [h31, z33, ↓e34, h37, q38, w39]; done) | simp_all) (by first | (simp -dsimp; done) | (simp -dsimp [h31, z33, ↓e34, h37, q38, w39]; done) | simp_all) (by first | (simp -dsimp; done) | (simp -dsimp [h31, z33, ↓e34, h37, q38, w39]; done) | simp_all)) ?_
        exact (ih_laws_FnTypeFits_l1 (i + 1) o hF) _ rfl _ hq
    · have q32 : ¬ (i < v27.length) := by first | exact h31 | omega | (simpa using h31) | (simp at h31 ⊢; omega) | simp_all
      have z33 : ¬ ((i : Int) < (v27.length : Int)) := by first | omega | simp_all
      rw [if_neg q32] at hF
      cases hF
      simp -dsimp [h31, q32, z33]
      repeat (refine chk.go (by first | omega | assumption | (simp_all; done) | (simp_all; omega)) ?_; try simp -dsimp [h31, q32, z33])
      refine Leave.go ⟨[], []⟩ (Gh.to (by simp) (by first | (simp -dsimp; done) | (simp -dsimp [h31, q32, z33]; done) | simp_all) (by first | (simp -dsimp; done) | (simp -dsimp [h31, q32, z33]; done) | simp_all) (by first | (simp -dsimp; done) | (simp -dsimp [h31, q32, z33]; done) | simp_all)) ?_
      exact hq

theorem C.laws_FnTypeFits_l1 (B : Nat) (hB1 : 67108864 ≤ B) (hB2 : B ≤ 9223372036854775807) (v27 : List Int) (v29 : List Int) (i : Nat) (o : Lo Bool Unit) (hF : F.laws_FnTypeFits_l1 v27 v29 i = some o) : ∀ (c : Code), navO [1, 1, 1, 1, 1, 1, 1, 0, 1, 0, 0] (bodyOf Try.f7) = some c → ∀ (Q : Exit → ASt → Prop), o.post (fun r => ∀ st, Post Try.prog Try.f7 (fun r' _ => r'.le (.lit (.bool r))) .ret st → Q .ret st) (fun s => Q (.exit 0) ⟨[], []⟩) → ALoopU Try.prog B 0 78 (hold c .mk) ⟨[(7, .arr (List.map cI v27)), (8, .arr (List.map cI v29)), (9, .lit (.int .i64 (i : Int)))], []⟩ (hold Q .mk) :=
  (CC.laws_FnTypeFits_l1 B hB1 hB2 v27 v29) i o hF

set_option maxRecDepth 100000 in
set_option maxHeartbeats 400000 in
theorem C.laws_FnTypeFits (B : Nat) (hB1 : 67108864 ≤ B) (hB2 : B ≤ 9223372036854775807) (code : List Int) (r : Bool) (hF : F.laws_FnTypeFits code = some r) : PureCall Try.prog B 7 [.arr (List.map cU code)] (.lit (.bool r)) := by
  unfold F.laws_FnTypeFits at hF
  refine PureCall.enterLe Try.func7 (by kernel_rfl) rfl Try.ntmps7 (by simp) (by simp) ?_
  simp -dsimp
  repeat (refine chk.go (by first | omega | assumption | (simp_all; done) | (simp_all; omega)) ?_; try simp -dsimp)
  refine abr.split (fun h1 => ?_) (fun h1 => ?_)
  · have q2 : (1048576 < code.length) := by first | exact h1 | omega | (simpa using h1) | (simp at h1 ⊢; omega) | simp_all
    have z3 : ((1048576 : Int) < (code.length : Int)) := by first | omega | simp_all
    rw [if_pos q2] at hF
    cases hF
    simp -dsimp [h1, z3]
    repeat (refine chk.go (by first | omega | assumption | (simp_all; done) | (simp_all; omega)) ?_; try simp -dsimp [h1, z3])
  · have q2 : ¬ (1048576 < code.length) := by first | exact h1 | omega | (simpa using h1) | (simp at h1 ⊢; omega) | simp_all
    have z3 : ¬ ((1048576 : Int) < (code.length : Int)) := by first | omega | simp_all
    rw [if_neg q2] at hF
    simp -dsimp [h1, q2, z3]
    repeat (refine chk.go (by first | omega | assumption | (simp_all; done) | (simp_all; omega)) ?_; try simp -dsimp [h1, q2, z3])
    have hF := ob hF; obtain ⟨v, e4, hF⟩ := hF
    refine ((C.spec_DrawTypeFits B hB1 hB2 code v e4)).goW (by first | (simp; done) | (simp [h1, q2, z3]; done) | simp_all) (by simp) ?_
    simp -dsimp [h1, q2, z3]
    repeat (refine chk.go (by first | omega | assumption | (simp_all; done) | (simp_all; omega)) ?_; try simp -dsimp [h1, q2, z3])
    have hF := ob hF; obtain ⟨v5, e6, hF⟩ := hF
    refine ((C.impl_TypeFits B hB1 hB2 v.1 v.2.1 v.2.2 v5 e6)).goW (by first | (simp; done) | (simp [h1, q2, z3]; done) | simp_all) (by simp) ?_
    simp -dsimp [h1, q2, z3]
    repeat (refine chk.go (by first | omega | assumption | (simp_all; done) | (simp_all; omega)) ?_; try simp -dsimp [h1, q2, z3])
    refine ADraw.simple follows (by kernel_rfl) (by kernel_rfl) ?_
    simp -dsimp [h1, q2, z3]
    repeat (refine chk.go (by first | omega | assumption | (simp_all; done) | (simp_all; omega)) ?_; try simp -dsimp [h1, q2, z3])
    have hF := ob hF; obtain ⟨v7, e8, hF⟩ := hF
    refine ((C.spec_TypeFits B hB1 hB2 v.1 v.2.1 v.2.2 v7 e8)).pgoW (by first | (simp; done) | (simp [h1, q2, z3]; done) | simp_all) (by simp) ?_
    simp -dsimp [h1, q2, z3]
    repeat (refine chk.go (by first | omega | assumption | (simp_all; done) | (simp_all; omega)) ?_; try simp -dsimp [h1, q2, z3])
    refine abr.split (fun h9 => ?_) (fun h9 => ?_)
    · have q10 : (v5 = v7) := by first | exact h9 | omega | (simpa using h9) | (simp at h9 ⊢; omega) | simp_all
      rw [if_pos q10] at hF
      simp -dsimp [h1, q2, z3, h9]
      repeat (refine chk.go (by first | omega | assumption | (simp_all; done) | (simp_all; omega)) ?_; try simp -dsimp [h1, q2, z3, h9])
      have hF := ob hF; obtain ⟨v11, e12, hF⟩ := hF
      refine ((C.impl_TypeFits B hB1 hB2 v.1 v.2.1 v.2.1 v11 e12)).pgoW (by first | (simp; done) | (simp [h1, q2, z3, h9]; done) | simp_all) (by simp) ?_
      simp -dsimp [h1, q2, z3, h9]
      repeat (refine chk.go (by first | omega | assumption | (simp_all; done) | (simp_all; omega)) ?_; try simp -dsimp [h1, q2, z3, h9])
      have hF := ob hF; obtain ⟨v13, e14, hF⟩ := hF
      refine ((C.impl_TypeValid B hB1 hB2 v.1 v.2.1 v13 e14)).pgoW (by first | (simp; done) | (simp [h1, q2, z3, h9]; done) | simp_all) (by simp) ?_
      simp -dsimp [h1, q2, z3, h9]
      repeat (refine chk.go (by first | omega | assumption | (simp_all; done) | (simp_all; omega)) ?_; try simp -dsimp [h1, q2, z3, h9])
      refine abr.split (fun h15 => ?_) (fun h15 => ?_)
      · have q16 : (v11 = v13) := by first | exact h15 | omega | (simpa using h15) | (simp at h15 ⊢; omega) | simp_all
        rw [if_pos q16] at hF
        simp -dsimp [h1, q2, z3, h9, h15]
        repeat (refine chk.go (by first | omega | assumption | (simp_all; done) | (simp_all; omega)) ?_; try simp -dsimp [h1, q2, z3, h9, h15])
        refine abr.split (fun h17 => ?_) (fun h17 => ?_)
        · have q18 : ¬ (v5 = true) := by first | exact h17 | omega | (simpa using h17) | (simp at h17 ⊢; omega) | simp_all
          rw [if_neg q18] at hF
          simp -dsimp [h1, q2, z3, h9, h15, h17, q18]
          repeat (refine chk.go (by first | omega | assumption | (simp_all; done) | (simp_all; omega)) ?_; try simp -dsimp [h1, q2, z3, h9, h15, h17, q18])
          refine ADraw.simple follows (by kernel_rfl) (by kernel_rfl) ?_
          simp -dsimp [h1, q2, z3, h9, h15, h17, q18]
          repeat (refine chk.go (by first | omega | assumption | (simp_all; done) | (simp_all; omega)) ?_; try simp -dsimp [h1, q2, z3, h9, h15, h17, q18])
          have hF := ob hF; obtain ⟨v19, e20, hF⟩ := hF
          refine ((C.spec_TypeFits B hB1 hB2 v.1 v.2.1 v.2.2 v19 e20)).pgoW (by first | (simp; done) | (simp [h1, q2, z3, h9, h15, h17, q18]; done) | simp_all) (by simp) ?_
          simp -dsimp [h1, q2, z3, h9, h15, h17, q18]
          repeat (refine chk.go (by first | omega | assumption | (simp_all; done) | (simp_all; omega)) ?_; try simp -dsimp [h1, q2, z3, h9, h15, h17, q18])
          refine abr.split (fun h21 => ?_) (fun h21 => ?_)
          · have q22 : (v5 = v19) := by first | exact h21 | omega | (simpa using h21) | (simp at h21 ⊢; omega) | simp_all
            rw [if_pos q22] at hF
            simp -dsimp [h1, q2, z3, h9, h15, h17, q18, h21]
            repeat (refine chk.go (by first | omega | assumption | (simp_all; done) | (simp_all; omega)) ?_; try simp -dsimp [h1, q2, z3, h9, h15, h17, q18, h21])
            have hF := ob hF; obtain ⟨v23, e24, hF⟩ := hF
            refine ((C.impl_TypeFits B hB1 hB2 v.1 v.2.1 v.2.1 v23 e24)).pgoW (by first | (simp; done) | (simp [h1, q2, z3, h9, h15, h17, q18, h21]; done) | simp_all) (by simp) ?_
            simp -dsimp [h1, q2, z3, h9, h15, h17, q18, h21]
            repeat (refine chk.go (by first | omega | assumption | (simp_all; done) | (simp_all; omega)) ?_; try simp -dsimp [h1, q2, z3, h9, h15, h17, q18, h21])
            have hF := ob hF; obtain ⟨v25, e26, hF⟩ := hF
            refine ((C.impl_TypeValid B hB1 hB2 v.1 v.2.1 v25 e26)).pgoW (by first | (simp; done) | (simp [h1, q2, z3, h9, h15, h17, q18, h21]; done) | simp_all) (by simp) ?_
            cases hF
            simp -dsimp [h1, q2, z3, h9, h15, h17, q18, h21]
            repeat (refine chk.go (by first | omega | assumption | (simp_all; done) | (simp_all; omega)) ?_; try simp -dsimp [h1, q2, z3, h9, h15, h17, q18, h21])
          · have q22 : ¬ (v5 = v19) := by first | exact h21 | omega | (simpa using h21) | (simp at h21 ⊢; omega) | simp_all
            rw [if_neg q22] at hF
            cases hF
            simp -dsimp [h1, q2, z3, h9, h15, h17, q18, h21, q22]
            repeat (refine chk.go (by first | omega | assumption | (simp_all; done) | (simp_all; omega)) ?_; try simp -dsimp [h1, q2, z3, h9, h15, h17, q18, h21, q22])
        · have q18 : (v5 = true) := by first | exact h17 | omega | (simpa using h17) | (simp at h17 ⊢; omega) | simp_all
          rw [if_pos q18] at hF
          simp -dsimp [h1, q2, z3, h9, h15, h17, q18]
          repeat (refine chk.go (by first | omega | assumption | (simp_all; done) | (simp_all; omega)) ?_; try simp -dsimp [h1, q2, z3, h9, h15, h17, q18])
          have hF := ob hF; obtain ⟨v27, e28, hF⟩ := hF
          refine ((C.impl_CtorsOf B hB1 hB2 v.1 v.2.1 v27 e28)).goW (by first | (simp; done) | (simp [h1, q2, z3, h9, h15, h17, q18]; done) | simp_all) (by simp) ?_
          simp -dsimp [h1, q2, z3, h9, h15, h17, q18]
          repeat (refine chk.go (by first | omega | assumption | (simp_all; done) | (simp_all; omega)) ?_; try simp -dsimp [h1, q2, z3, h9, h15, h17, q18])
          have hF := ob hF; obtain ⟨v29, e30, hF⟩ := hF
          refine ((C.impl_CtorsOf B hB1 hB2 v.1 v.2.2 v29 e30)).goW (by first | (simp; done) | (simp [h1, q2, z3, h9, h15, h17, q18]; done) | simp_all) (by simp) ?_
          simp -dsimp [h1, q2, z3, h9, h15, h17, q18]
          repeat (refine chk.go (by first | omega | assumption | (simp_all; done) | (simp_all; omega)) ?_; try simp -dsimp [h1, q2, z3, h9, h15, h17, q18])
          have hF := ob hF; obtain ⟨o', ho40, hF⟩ := hF
          refine ALoop.goU ⟨[(7, .arr (List.map cI v27)), (8, .arr (List.map cI v29)), (9, .lit (.int .i64 (0 : Int)))], []⟩ (Gh.to (by simp) (by first | (simp -dsimp; done) | (simp -dsimp [h1, q2, z3, h9, h15, h17, q18]; done) | simp_all) (by first | (simp -dsimp; done) | (simp -dsimp [h1, q2, z3, h9, h15, h17, q18]; done) | simp_all) (by first | (simp -dsimp; done) | (simp -dsimp [h1, q2, z3, h9, h15, h17, q18]; done) | simp_all)) ?_
          refine (C.laws_FnTypeFits_l1 B hB1 hB2 v27 v29 0 o' ho40) _ rfl _ ?_
          rcases o' with r0 | s
          · dsimp only at hF
            cases hF
            intro st h
            simpa using h
          · dsimp only at hF
            cases hF
            simp -dsimp
            repeat (refine chk.go (by first | omega | assumption | (simp_all; done) | (simp_all; omega)) ?_; try simp -dsimp)
      · have q16 : ¬ (v11 = v13) := by first | exact h15 | omega | (simpa using h15) | (simp at h15 ⊢; omega) | simp_all
        rw [if_neg q16] at hF
        simp -dsimp [h1, q2, z3, h9, h15, q16]
        repeat (refine chk.go (by first | omega | assumption | (simp_all; done) | (simp_all; omega)) ?_; try simp -dsimp [h1, q2, z3, h9, h15, q16])
        refine ADraw.simple follows (by kernel_rfl) (by kernel_rfl) ?_
        simp -dsimp [h1, q2, z3, h9, h15, q16]
        repeat (refine chk.go (by first | omega | assumption | (simp_all; done) | (simp_all; omega)) ?_; try simp -dsimp [h1, q2, z3, h9, h15, q16])
        have hF := ob hF; obtain ⟨v41, e42, hF⟩ := hF
        refine ((C.spec_TypeFits B hB1 hB2 v.1 v.2.1 v.2.2 v41 e42)).pgoW (by first | (simp; done) | (simp [h1, q2, z3, h9, h15, q16]; done) | simp_all) (by simp) ?_
        simp -dsimp [h1, q2, z3, h9, h15, q16]
        repeat (refine chk.go (by first | omega | assumption | (simp_all; done) | (simp_all; omega)) ?_; try simp -dsimp [h1, q2, z3, h9, h15, q16])
        refine abr.split (fun h43 => ?_) (fun h43 => ?_)
        · have q44 : (v5 = v41) := by first | exact h43 | omega | (simpa using h43) | (simp at h43 ⊢; omega) | simp_all
          rw [if_pos q44] at hF
          simp -dsimp [h1, q2, z3, h9, h15, q16, h43]
          repeat (refine chk.go (by first | omega | assumption | (simp_all; done) | (simp_all; omega)) ?_; try simp -dsimp [h1, q2, z3, h9, h15, q16, h43])
          have hF := ob hF; obtain ⟨v45, e46, hF⟩ := hF
          refine ((C.impl_TypeFits B hB1 hB2 v.1 v.2.1 v.2.1 v45 e46)).pgoW (by first | (simp; done) | (simp [h1, q2, z3, h9, h15, q16, h43]; done) | simp_all) (by simp) ?_
          simp -dsimp [h1, q2, z3, h9, h15, q16, h43]
          repeat (refine chk.go (by first | omega | assumption | (simp_all; done) | (simp_all; omega)) ?_; try simp -dsimp [h1, q2, z3, h9, h15, q16, h43])
          have hF := ob hF; obtain ⟨v47, e48, hF⟩ := hF
          refine ((C.impl_TypeValid B hB1 hB2 v.1 v.2.1 v47 e48)).pgoW (by first | (simp; done) | (simp [h1, q2, z3, h9, h15, q16, h43]; done) | simp_all) (by simp) ?_
          cases hF
          simp -dsimp [h1, q2, z3, h9, h15, q16, h43]
          repeat (refine chk.go (by first | omega | assumption | (simp_all; done) | (simp_all; omega)) ?_; try simp -dsimp [h1, q2, z3, h9, h15, q16, h43])
        · have q44 : ¬ (v5 = v41) := by first | exact h43 | omega | (simpa using h43) | (simp at h43 ⊢; omega) | simp_all
          rw [if_neg q44] at hF
          cases hF
          simp -dsimp [h1, q2, z3, h9, h15, q16, h43, q44]
          repeat (refine chk.go (by first | omega | assumption | (simp_all; done) | (simp_all; omega)) ?_; try simp -dsimp [h1, q2, z3, h9, h15, q16, h43, q44])
    · have q10 : ¬ (v5 = v7) := by first | exact h9 | omega | (simpa using h9) | (simp at h9 ⊢; omega) | simp_all
      rw [if_neg q10] at hF
      simp -dsimp [h1, q2, z3, h9, q10]
      repeat (refine chk.go (by first | omega | assumption | (simp_all; done) | (simp_all; omega)) ?_; try simp -dsimp [h1, q2, z3, h9, q10])
      refine ADraw.simple follows (by kernel_rfl) (by kernel_rfl) ?_
      simp -dsimp [h1, q2, z3, h9, q10]
      repeat (refine chk.go (by first | omega | assumption | (simp_all; done) | (simp_all; omega)) ?_; try simp -dsimp [h1, q2, z3, h9, q10])
      have hF := ob hF; obtain ⟨v49, e50, hF⟩ := hF
      refine ((C.spec_TypeFits B hB1 hB2 v.1 v.2.1 v.2.2 v49 e50)).pgoW (by first | (simp; done) | (simp [h1, q2, z3, h9, q10]; done) | simp_all) (by simp) ?_
      simp -dsimp [h1, q2, z3, h9, q10]
      repeat (refine chk.go (by first | omega | assumption | (simp_all; done) | (simp_all; omega)) ?_; try simp -dsimp [h1, q2, z3, h9, q10])
      refine abr.split (fun h51 => ?_) (fun h51 => ?_)
      · have q52 : (v5 = v49) := by first | exact h51 | omega | (simpa using h51) | (simp at h51 ⊢; omega) | simp_all
        rw [if_pos q52] at hF
        simp -dsimp [h1, q2, z3, h9, q10, h51]
        repeat (refine chk.go (by first | omega | assumption | (simp_all; done) | (simp_all; omega)) ?_; try simp -dsimp [h1, q2, z3, h9, q10, h51])
        have hF := ob hF; obtain ⟨v53, e54, hF⟩ := hF
        refine ((C.impl_TypeFits B hB1 hB2 v.1 v.2.1 v.2.1 v53 e54)).pgoW (by first | (simp; done) | (simp [h1, q2, z3, h9, q10, h51]; done) | simp_all) (by simp) ?_
        simp -dsimp [h1, q2, z3, h9, q10, h51]
        repeat (refine chk.go (by first | omega | assumption | (simp_all; done) | (simp_all; omega)) ?_; try simp -dsimp [h1, q2, z3, h9, q10, h51])
        have hF := ob hF; obtain ⟨v55, e56, hF⟩ := hF
        refine ((C.impl_TypeValid B hB1 hB2 v.1 v.2.1 v55 e56)).pgoW (by first | (simp; done) | (simp [h1, q2, z3, h9, q10, h51]; done) | simp_all) (by simp) ?_
        cases hF
        simp -dsimp [h1, q2, z3, h9, q10, h51]
        repeat (refine chk.go (by first | omega | assumption | (simp_all; done) | (simp_all; omega)) ?_; try simp -dsimp [h1, q2, z3, h9, q10, h51])
      · have q52 : ¬ (v5 = v49) := by first | exact h51 | omega | (simpa using h51) | (simp at h51 ⊢; omega) | simp_all
        rw [if_neg q52] at hF
        cases hF
        simp -dsimp [h1, q2, z3, h9, q10, h51, q52]
        repeat (refine chk.go (by first | omega | assumption | (simp_all; done) | (simp_all; omega)) ?_; try simp -dsimp [h1, q2, z3, h9, q10, h51, q52])

end Go.Proofs.Ytoacjahdkkdffaa
