/- The contracts: the code computes the functions (printed by gen.py). -/
import Derived.Test.YtoacjahdkkdffaaProg
import Derived.Test.YtoacjahdkkdffaaTypeFitsF
namespace Go.Proofs.Ytoacjahdkkdffaa
open Go Go.Proofs Go.Vl
set_option linter.unusedSimpArgs false
set_option linter.unusedVariables false

attribute [local irreducible] ECallA aL AMake MLoop AgainM LeaveM awpM aopsM MutCall chk abr ACall ALoop ALoopU ADraw Again Leave PCallA PCall Post awp aops PureCall hold

theorem follows : Try.prog.follows .mixedOrders = true := by kernel_rfl
@[simp] theorem ti2 : tiOf Try.prog 2 = some ⟨.word, 1, [.int .i64 0]⟩ := by kernel_rfl
@[simp] theorem ti3 : tiOf Try.prog 3 = some ⟨.word, 1, [.int .i64 0]⟩ := by kernel_rfl
@[simp] theorem ti4 : tiOf Try.prog 4 = some ⟨.word, 1, [.bool false]⟩ := by kernel_rfl
@[simp] theorem ti5 : tiOf Try.prog 5 = some ⟨.word, 1, [.int .u8 0]⟩ := by kernel_rfl
@[simp] theorem ti6 : tiOf Try.prog 6 = some ⟨.word, 1, [.int .u8 0]⟩ := by kernel_rfl
@[simp] theorem ti8 : tiOf Try.prog 8 = some ⟨.struct [(0, 1), (1, 1), (2, 1), (3, 1)], 4, [.int .i64 0, .int .i64 0, .bool false, .int .u8 0]⟩ := by kernel_rfl
@[simp] theorem ti9 : tiOf Try.prog 9 = some ⟨.word, 1, [.string ByteArray.empty]⟩ := by kernel_rfl
@[simp] theorem ti23 : tiOf Try.prog 23 = some ⟨.slice 1 8 [.int .i64 0], 1, [.slice none 0 0]⟩ := by kernel_rfl
@[simp] theorem ti43 : tiOf Try.prog 43 = some ⟨.slice 2 40 [.string ByteArray.empty, .slice none 0 0], 1, [.slice none 0 0]⟩ := by kernel_rfl
@[simp] theorem ti45 : tiOf Try.prog 45 = some ⟨.struct [(0, 1), (1, 1)], 2, [.int .i64 0, .int .i64 0]⟩ := by kernel_rfl
@[simp] theorem pr45 : pair2B Try.prog 45 = true := by kernel_rfl
@[simp] theorem ti49 : tiOf Try.prog 49 = some ⟨.slice 1 1 [.int .u8 0], 1, [.slice none 0 0]⟩ := by kernel_rfl
@[simp] theorem ti84 : tiOf Try.prog 84 = some ⟨.slice 3 48 [.string ByteArray.empty, .slice none 0 0, .int .i64 0], 1, [.slice none 0 0]⟩ := by kernel_rfl
@[simp] theorem ti86 : tiOf Try.prog 86 = some ⟨.struct [(0, 1), (1, 1)], 2, [.string ByteArray.empty, .slice none 0 0]⟩ := by kernel_rfl
@[simp] theorem ti127 : tiOf Try.prog 127 = some ⟨.struct [(0, 1), (1, 1)], 2, [.slice none 0 0, .int .i64 0]⟩ := by kernel_rfl
@[simp] theorem ti128 : tiOf Try.prog 128 = some ⟨.slice 1 16 [.string ByteArray.empty], 1, [.slice none 0 0]⟩ := by kernel_rfl
@[simp] theorem ti132 : mapB Try.prog 132 = true := by kernel_rfl
@[simp] theorem ti133 : tiOf Try.prog 133 = some ⟨.slice 2 16 [.int .i64 0, .int .i64 0], 1, [.slice none 0 0]⟩ := by kernel_rfl
@[simp] theorem ti135 : tiOf Try.prog 135 = some ⟨.struct [(0, 1), (1, 1), (2, 1)], 3, [.string ByteArray.empty, .slice none 0 0, .int .i64 0]⟩ := by kernel_rfl
attribute [simp] Try.underlying2 Try.underlying3 Try.underlying4 Try.underlying5 Try.underlying6 Try.underlying9 Try.underlying23 Try.underlying43 Try.underlying49 Try.underlying84 Try.underlying128 Try.underlying133 Try.results7 Try.results15 Try.results18 Try.results20 Try.results27 Try.results28 Try.results29 Try.results46 Try.results47 Try.results49 Try.results50 Try.results52 Try.results53 Try.results54 Try.results55 Try.results56 Try.results62 Try.results63 Try.results75 Try.results76 Try.results78 Try.results80 Try.results81 Try.results82 Try.results90 Try.results91 Try.results92 Try.results93 Try.results96 Try.results97 Try.results98 Try.results99 Try.results100 Try.results101 Try.results102 Try.results108 Try.results109 Try.results112 Try.results113 Try.results114 Try.results117 Try.results118 Try.results119 Try.results120

set_option maxRecDepth 100000 in
set_option maxHeartbeats 400000 in
theorem C.spec_l1Texts (B : Nat) (hB1 : 67108864 ≤ B) (hB2 : B ≤ 9223372036854775807)  (r : List ByteArray) (hF : F.spec_l1Texts  = some r) : PureCall Try.prog B 80 [] (.arr (List.map cS r)) := by
  unfold F.spec_l1Texts at hF
  refine PureCall.enterLe Try.func80 (by kernel_rfl) rfl Try.ntmps80 (by simp) (by simp) ?_
  cases hF
  simp -dsimp
  repeat (refine chk.go (by first | omega | assumption | (simp_all; done) | (simp_all; omega)) ?_; try simp -dsimp)

set_option maxRecDepth 100000 in
set_option maxHeartbeats 400000 in
theorem C.spec_l17Rd_pick (B : Nat) (hB1 : 67108864 ≤ B) (hB2 : B ≤ 9223372036854775807) (r' : Vl.T_spec_l17Rd) (n : Int) (r : Int × Vl.T_spec_l17Rd) (hF : F.spec_l17Rd_pick r' n = some r) : MutCall Try.prog B 55 [.arr (List.map cU r'.f0), .lit (.int .i64 r'.f1)] [.ptr 0 0, .lit (.int .i64 n)] (.lit (.int .i64 r.1)) [.arr (List.map cU r.2.f0), .lit (.int .i64 r.2.f1)] := by
  unfold F.spec_l17Rd_pick at hF
  refine MutCall.enter Try.func55 (by kernel_rfl) rfl Try.ntmps55 (by simp) (by simp) (by simp) (by simp) ?_
  simp -dsimp
  repeat (refine chk.go (by first | omega | assumption | (simp_all; done) | (simp_all; omega)) ?_; try simp -dsimp)
  refine abr.split (fun h1 => ?_) (fun h1 => ?_)
  · have q2 : ¬ (n < 1) := by first | exact h1 | omega | (simpa using h1) | (simp at h1 ⊢; omega) | simp_all
    rw [if_neg q2] at hF
    simp -dsimp [h1, q2]
    repeat (refine chk.go (by first | omega | assumption | (simp_all; done) | (simp_all; omega)) ?_; try simp -dsimp [h1, q2])
    refine abr.split (fun h3 => ?_) (fun h3 => ?_)
    · have q4 : (r'.f0.length = 0) := by first | exact h3 | omega | (simpa using h3) | (simp at h3 ⊢; omega) | simp_all
      have z5 : ((r'.f0.length : Int) = (0 : Int)) := by first | omega | simp_all
      rw [if_pos q4] at hF
      cases hF
      simp -dsimp [h1, q2, h3, z5]
      repeat (refine chk.go (by first | omega | assumption | (simp_all; done) | (simp_all; omega)) ?_; try simp -dsimp [h1, q2, h3, z5])
    · have q4 : ¬ (r'.f0.length = 0) := by first | exact h3 | omega | (simpa using h3) | (simp at h3 ⊢; omega) | simp_all
      have z5 : ¬ ((r'.f0.length : Int) = (0 : Int)) := by first | omega | simp_all
      rw [if_neg q4] at hF
      simp -dsimp [h1, q2, h3, q4, z5]
      repeat (refine chk.go (by first | omega | assumption | (simp_all; done) | (simp_all; omega)) ?_; try simp -dsimp [h1, q2, h3, q4, z5])
      refine abr.split (fun h6 => ?_) (fun h6 => ?_)
      · have q7 : (IntKind.i64.wrap (IntKind.i64.wrap (r'.f1 + 1) - 1) < (r'.f0.length : Int)) := by first | exact h6 | omega | (simpa using h6) | (simp at h6 ⊢; omega) | simp_all
        rw [if_pos q7] at hF
        have hF := ob hF; obtain ⟨x, e8a, hF⟩ := hF
        have e8a := at_some e8a; obtain ⟨ne8, e8⟩ := e8a
        have le8 := lt_of_get e8
        have hF := oc hF; obtain ⟨c9, hF⟩ := hF
        cases hF
        simp -dsimp [h1, q2, h3, q4, z5, h6, ↓e8]
        repeat (refine chk.go (by first | omega | assumption | (simp_all; done) | (simp_all; omega)) ?_; try simp -dsimp [h1, q2, h3, q4, z5, h6, ↓e8])
      · have q7 : ¬ (IntKind.i64.wrap (IntKind.i64.wrap (r'.f1 + 1) - 1) < (r'.f0.length : Int)) := by first | exact h6 | omega | (simpa using h6) | (simp at h6 ⊢; omega) | simp_all
        rw [if_neg q7] at hF
        simp -dsimp [h1, q2, h3, q4, z5, h6, q7]
        repeat (refine chk.go (by first | omega | assumption | (simp_all; done) | (simp_all; omega)) ?_; try simp -dsimp [h1, q2, h3, q4, z5, h6, q7])
        refine ADraw.simple follows (by kernel_rfl) (by kernel_rfl) ?_
        have hF := oc hF; obtain ⟨c10, hF⟩ := hF
        have hF := ob hF; obtain ⟨x11, e12a, hF⟩ := hF
        have e12a := at_some e12a; obtain ⟨ne12, e12⟩ := e12a
        have le12 := lt_of_get e12
        have hF := ob hF; obtain ⟨x13, e14a, hF⟩ := hF
        have e14a := at_some e14a; obtain ⟨ne14, e14⟩ := e14a
        have le14 := lt_of_get e14
        have hF := oc hF; obtain ⟨c15, hF⟩ := hF
        cases hF
        simp -dsimp [h1, q2, h3, q4, z5, h6, q7, ↓e12, ↓e14]
        repeat (refine chk.go (by first | omega | assumption | (simp_all; done) | (simp_all; omega)) ?_; try simp -dsimp [h1, q2, h3, q4, z5, h6, q7, ↓e12, ↓e14])
  · have q2 : (n < 1) := by first | exact h1 | omega | (simpa using h1) | (simp at h1 ⊢; omega) | simp_all
    rw [if_pos q2] at hF
    cases hF
    simp -dsimp [h1, q2]
    repeat (refine chk.go (by first | omega | assumption | (simp_all; done) | (simp_all; omega)) ?_; try simp -dsimp [h1, q2])

set_option maxRecDepth 100000 in
set_option maxHeartbeats 400000 in
theorem CC.spec_l17Cut_l1 (B : Nat) (hB1 : 67108864 ≤ B) (hB2 : B ≤ 9223372036854775807) (s : ByteArray) (c' : Int) : (∀ (out : List ByteArray) (from' : Nat) (i : Nat) (o : List ByteArray), F.spec_l17Cut_l1 s c' out from' i = some o → ∀ (c : Code), navO [1, 1, 1, 0, 1, 0, 0] (bodyOf Try.f96) = some c → ∀ (Q : Exit → ASt → Prop), Q (.exit 0) ⟨[(5, .own 0 (List.length (α := ByteArray) o))], [.elems 1 (List.map cS o)]⟩ → ALoopU Try.prog B 0 36 (hold c .mk) ⟨[(0, .lit (.string s)), (1, .lit (.int .u8 c')), (5, .own 0 (List.length (α := ByteArray) out)), (6, .lit (.int .i64 (from' : Int))), (7, .lit (.int .i64 (i : Int)))], [.elems 1 (List.map cS out)]⟩ (hold Q .mk)) := by
  refine F.spec_l17Cut_l1.partial_correctness s c'
    (fun out from' i o => ∀ (c : Code), navO [1, 1, 1, 0, 1, 0, 0] (bodyOf Try.f96) = some c → ∀ (Q : Exit → ASt → Prop), Q (.exit 0) ⟨[(5, .own 0 (List.length (α := ByteArray) o))], [.elems 1 (List.map cS o)]⟩ → ALoopU Try.prog B 0 36 (hold c .mk) ⟨[(0, .lit (.string s)), (1, .lit (.int .u8 c')), (5, .own 0 (List.length (α := ByteArray) out)), (6, .lit (.int .i64 (from' : Int))), (7, .lit (.int .i64 (i : Int)))], [.elems 1 (List.map cS out)]⟩ (hold Q .mk))
    ?_
  · intro _f_spec_l17Cut_l1 ih_spec_l17Cut_l1 out from' i o hF
    intro c hc Q hq
    obtain rfl : c = _ := navEq hc rfl
    refine ALoopU.know fun hk hs => ?_
    have d0 := hs 0 _ rfl
    simp -dsimp [Blk.bnd] at d0
    clear hk hs
    refine ALoopU.enter ?_
    simp -dsimp
    repeat (refine chk.go (by first | omega | assumption | (simp_all; done) | (simp_all; omega)) ?_; try simp -dsimp)
    refine abr.split (fun h1 => ?_) (fun h1 => ?_)
    · have q2 : (i ≤ s.size) := by first | exact h1 | omega | (simpa using h1) | (simp at h1 ⊢; omega) | simp_all
      have z3 : ((i : Int) ≤ (s.size : Int)) := by first | omega | simp_all
      rw [if_pos q2] at hF
      simp -dsimp [h1, z3]
      repeat (refine chk.go (by first | omega | assumption | (simp_all; done) | (simp_all; omega)) ?_; try simp -dsimp [h1, z3])
      refine abr.split (fun h4 => ?_) (fun h4 => ?_)
      · have q5 : ¬ (i = s.size) := by first | exact h4 | omega | (simpa using h4) | (simp at h4 ⊢; omega) | simp_all
        have z6 : ¬ ((i : Int) = (s.size : Int)) := by first | omega | simp_all
        rw [if_neg q5] at hF
        have hF := oc hF; obtain ⟨c7, hF⟩ := hF
        simp -dsimp [h1, z3, h4, q5, z6]
        repeat (refine chk.go (by first | omega | assumption | (simp_all; done) | (simp_all; omega)) ?_; try simp -dsimp [h1, z3, h4, q5, z6])
        refine abr.split (fun h8 => ?_) (fun h8 => ?_)
        · have q9 : (((byteAt s i : Nat) : Int) = c') := by first | exact h8 | omega | (simpa using h8) | (simp at h8 ⊢; omega) | simp_all
          rw [if_pos q9] at hF
          have hF := oc hF; obtain ⟨c10, hF⟩ := hF
          have hF := oc hF; obtain ⟨c11, hF⟩ := hF
          have hF := oc hF; obtain ⟨c12, hF⟩ := hF
          have w13 : IntKind.i64.wrap ((i : Int) + 1) = (i : Int) + 1 := wrap_in (by omega) (by omega)
          have w14 : IntKind.i64.wrap ((i : Int) + 1) = (i : Int) + 1 := wrap_in (by omega) (by omega)
          simp -dsimp [h1, z3, h4, q5, z6, h8, w13, w14]
          repeat (refine chk.go (by first | omega | assumption | (simp_all; done) | (simp_all; omega)) ?_; try simp -dsimp [h1, z3, h4, q5, z6, h8, w13, w14])
          refine Again.go ⟨[(0, .lit (.string s)), (1, .lit (.int .u8 c')), (5, .own 0 (List.length (α := ByteArray) (out ++ [s.extract from' i]))), (6, .lit (.int .i64 ((i + 1) : Int))), (7, .lit (.int .i64 ((i + 1) : Int)))], [.elems 1 (List.map cS (out ++ [s.extract from' i]))]⟩ (Gh.to (by simp) (by first | (simp -dsimp; done) | (simp -dsimp [h1, z3, h4, q5, z6, h8, w13, w14]; done) | simp_all) (by first | (simp -dsimp; done) | (simp -dsimp [h1, z3, h4, q5, z6, h8, w13, w14]; done) | simp_all) (by first | (simp -dsimp; done) | (simp -dsimp [h1, z3, h4, q5, z6, h8, w13, w14]; done) | simp_all)) ?_
          exact (ih_spec_l17Cut_l1 (out ++ [s.extract from' i]) (i + 1) (i + 1) o hF) _ rfl _ hq
        · have q9 : ¬ (((byteAt s i : Nat) : Int) = c') := by first | exact h8 | omega | (simpa using h8) | (simp at h8 ⊢; omega) | simp_all
          rw [if_neg q9] at hF
          have hF := oc hF; obtain ⟨c15, hF⟩ := hF
          have w16 : IntKind.i64.wrap ((i : Int) + 1) = (i : Int) + 1 := wrap_in (by omega) (by omega)
          simp -dsimp [h1, z3, h4, q5, z6, h8, q9, w16]
          repeat (refine chk.go (by first | omega | assumption | (simp_all; done) | (simp_all; omega)) ?_; try simp -dsimp [h1, z3, h4, q5, z6, h8, q9, w16])
          refine Again.go ⟨[(0, .lit (.string s)), (1, .lit (.int .u8 c')), (5, .own 0 (List.length (α := ByteArray) out)), (6, .lit (.int .i64 (from' : Int))), (7, .lit (.int .i64 ((i + 1) : Int)))], [.elems 1 (List.map cS out)]⟩ (Gh.to (by simp) (by first | (simp -dsimp; done) | (simp -dsimp [h1, z3, h4, q5, z6, h8, q9, w16]; done) | simp_all) (by first | (simp -dsimp; done) | (simp -dsimp [h1, z3, h4, q5, z6, h8, q9, w16]; done) | simp_all) (by first | (simp -dsimp; done) | (simp -dsimp [h1, z3, h4, q5, z6, h8, q9, w16]; done) | simp_all)) ?_
          exact (ih_spec_l17Cut_l1 out from' (i + 1) o hF) _ rfl _ hq
      · have q5 : (i = s.size) := by first | exact h4 | omega | (simpa using h4) | (simp at h4 ⊢; omega) | simp_all
        have z6 : ((i : Int) = (s.size : Int)) := by first | omega | simp_all
        rw [if_pos q5] at hF
        have hF := oc hF; obtain ⟨c17, hF⟩ := hF
        have hF := oc hF; obtain ⟨c18, hF⟩ := hF
        have hF := oc hF; obtain ⟨c19, hF⟩ := hF
        have w20 : IntKind.i64.wrap ((i : Int) + 1) = (i : Int) + 1 := wrap_in (by omega) (by omega)
        have w21 : IntKind.i64.wrap ((i : Int) + 1) = (i : Int) + 1 := wrap_in (by omega) (by omega)
        simp -dsimp [h1, z3, h4, q5, z6, w20, w21]
        repeat (refine chk.go (by first | omega | assumption | (simp_all; done) | (simp_all; omega)) ?_; try simp -dsimp [h1, z3, h4, q5, z6, w20, w21])
        refine Again.go ⟨[(0, .lit (.string s)), (1, .lit (.int .u8 c')), (5, .own 0 (List.length (α := ByteArray) (out ++ [s.extract from' i]))), (6, .lit (.int .i64 ((i + 1) : Int))), (7, .lit (.int .i64 ((i + 1) : Int)))], [.elems 1 (List.map cS (out ++ [s.extract from' i]))]⟩ (Gh.to (by simp) (by first | (simp -dsimp; done) | (simp -dsimp [h1, z3, h4, q5, z6, w20, w21]; done) | simp_all) (by first | (simp -dsimp; done) | (simp -dsimp [h1, z3, h4, q5, z6, w20, w21]; done) | simp_all) (by first | (simp -dsimp; done) | (simp -dsimp [h1, z3, h4, q5, z6, w20, w21]; done) | simp_all)) ?_
        exact (ih_spec_l17Cut_l1 (out ++ [s.extract from' i]) (i + 1) (i + 1) o hF) _ rfl _ hq
    · have q2 : ¬ (i ≤ s.size) := by first | exact h1 | omega | (simpa using h1) | (simp at h1 ⊢; omega) | simp_all
      have z3 : ¬ ((i : Int) ≤ (s.size : Int)) := by first | omega | simp_all
      rw [if_neg q2] at hF
      cases hF
      simp -dsimp [h1, q2, z3]
      repeat (refine chk.go (by first | omega | assumption | (simp_all; done) | (simp_all; omega)) ?_; try simp -dsimp [h1, q2, z3])
      refine Leave.go ⟨[(5, .own 0 (List.length (α := ByteArray) out))], [.elems 1 (List.map cS out)]⟩ (Gh.to (by simp) (by first | (simp -dsimp; done) | (simp -dsimp [h1, q2, z3]; done) | simp_all) (by first | (simp -dsimp; done) | (simp -dsimp [h1, q2, z3]; done) | simp_all) (by first | (simp -dsimp; done) | (simp -dsimp [h1, q2, z3]; done) | simp_all)) ?_
      exact hq

theorem C.spec_l17Cut_l1 (B : Nat) (hB1 : 67108864 ≤ B) (hB2 : B ≤ 9223372036854775807) (s : ByteArray) (c' : Int) (out : List ByteArray) (from' : Nat) (i : Nat) (o : List ByteArray) (hF : F.spec_l17Cut_l1 s c' out from' i = some o) : ∀ (c : Code), navO [1, 1, 1, 0, 1, 0, 0] (bodyOf Try.f96) = some c → ∀ (Q : Exit → ASt → Prop), Q (.exit 0) ⟨[(5, .own 0 (List.length (α := ByteArray) o))], [.elems 1 (List.map cS o)]⟩ → ALoopU Try.prog B 0 36 (hold c .mk) ⟨[(0, .lit (.string s)), (1, .lit (.int .u8 c')), (5, .own 0 (List.length (α := ByteArray) out)), (6, .lit (.int .i64 (from' : Int))), (7, .lit (.int .i64 (i : Int)))], [.elems 1 (List.map cS out)]⟩ (hold Q .mk) :=
  (CC.spec_l17Cut_l1 B hB1 hB2 s c') out from' i o hF

set_option maxRecDepth 100000 in
set_option maxHeartbeats 400000 in
theorem C.spec_l17Cut (B : Nat) (hB1 : 67108864 ≤ B) (hB2 : B ≤ 9223372036854775807) (s : ByteArray) (c' : Int) (r : List ByteArray) (hF : F.spec_l17Cut s c' = some r) : PureCall Try.prog B 96 [.lit (.string s), .lit (.int .u8 c')] (.arr (List.map cS r)) := by
  unfold F.spec_l17Cut at hF
  refine PureCall.enterLe Try.func96 (by kernel_rfl) rfl Try.ntmps96 (by simp) (by simp) ?_
  simp -dsimp
  repeat (refine chk.go (by first | omega | assumption | (simp_all; done) | (simp_all; omega)) ?_; try simp -dsimp)
  have hF := ob hF; obtain ⟨o', ho22, hF⟩ := hF
  refine ALoop.goU ⟨[(0, .lit (.string s)), (1, .lit (.int .u8 c')), (5, .own 0 (List.length (α := ByteArray) [])), (6, .lit (.int .i64 (0 : Int))), (7, .lit (.int .i64 (0 : Int)))], [.elems 1 (List.map cS [])]⟩ (Gh.to (by simp) (by simp -dsimp) (by simp -dsimp) (by simp -dsimp)) ?_
  refine (C.spec_l17Cut_l1 B hB1 hB2 s c' [] 0 0 o' ho22) _ rfl _ ?_
  cases hF
  simp -dsimp
  repeat (refine chk.go (by first | omega | assumption | (simp_all; done) | (simp_all; omega)) ?_; try simp -dsimp)

set_option maxRecDepth 100000 in
set_option maxHeartbeats 400000 in
theorem CC.spec_l1Find_l1 (B : Nat) (hB1 : 67108864 ≤ B) (hB2 : B ≤ 9223372036854775807) (names : List ByteArray) (s : ByteArray) : (∀ (i : Nat) (o : Lo Int Unit), F.spec_l1Find_l1 names s i = some o → ∀ (c : Code), navO [1, 1, 0, 1, 0, 0] (bodyOf Try.f117) = some c → ∀ (Q : Exit → ASt → Prop), o.post (fun r => ∀ st, Post Try.prog Try.f117 (fun r' _ => r'.le (.lit (.int .i64 r))) .ret st → Q .ret st) (fun s => Q (.exit 0) ⟨[], []⟩) → ALoopU Try.prog B 0 21 (hold c .mk) ⟨[(0, .arr (List.map cS names)), (1, .lit (.string s)), (5, .lit (.int .i64 (i : Int)))], []⟩ (hold Q .mk)) := by
  refine F.spec_l1Find_l1.partial_correctness names s
    (fun i o => ∀ (c : Code), navO [1, 1, 0, 1, 0, 0] (bodyOf Try.f117) = some c → ∀ (Q : Exit → ASt → Prop), o.post (fun r => ∀ st, Post Try.prog Try.f117 (fun r' _ => r'.le (.lit (.int .i64 r))) .ret st → Q .ret st) (fun s => Q (.exit 0) ⟨[], []⟩) → ALoopU Try.prog B 0 21 (hold c .mk) ⟨[(0, .arr (List.map cS names)), (1, .lit (.string s)), (5, .lit (.int .i64 (i : Int)))], []⟩ (hold Q .mk))
    ?_
  · intro _f_spec_l1Find_l1 ih_spec_l1Find_l1 i o hF
    intro c hc Q hq
    obtain rfl : c = _ := navEq hc rfl
    refine ALoopU.know fun hk hs => ?_
    have b0 := hk 0
    simp -dsimp at b0
    clear hk hs
    refine ALoopU.enter ?_
    simp -dsimp
    repeat (refine chk.go (by first | omega | assumption | (simp_all; done) | (simp_all; omega)) ?_; try simp -dsimp)
    refine abr.split (fun h3 => ?_) (fun h3 => ?_)
    · have q4 : (i < names.length) := by first | exact h3 | omega | (simpa using h3) | (simp at h3 ⊢; omega) | simp_all
      have z5 : ((i : Int) < (names.length : Int)) := by first | omega | simp_all
      rw [if_pos q4] at hF
      have hF := ob hF; obtain ⟨x, e6, hF⟩ := hF
      have le6 := lt_of_get e6
      simp -dsimp [h3, z5, ↓e6]
      repeat (refine chk.go (by first | omega | assumption | (simp_all; done) | (simp_all; omega)) ?_; try simp -dsimp [h3, z5, ↓e6])
      refine abr.split (fun h7 => ?_) (fun h7 => ?_)
      · have q8 : (x.toList = s.toList) := by first | exact h7 | omega | (simpa using h7) | (simp at h7 ⊢; omega) | simp_all
        rw [if_pos q8] at hF
        cases hF
        simp -dsimp [h3, z5, ↓e6, h7]
        repeat (refine chk.go (by first | omega | assumption | (simp_all; done) | (simp_all; omega)) ?_; try simp -dsimp [h3, z5, ↓e6, h7])
        refine Leave.go _ (Gh.refl _) (hq _ ?_)
        simp -dsimp [h3, z5, ↓e6, h7]
        repeat (refine chk.go (by first | omega | assumption | (simp_all; done) | (simp_all; omega)) ?_; try simp -dsimp [h3, z5, ↓e6, h7])
      · have q8 : ¬ (x.toList = s.toList) := by first | exact h7 | omega | (simpa using h7) | (simp at h7 ⊢; omega) | simp_all
        rw [if_neg q8] at hF
        have w9 : IntKind.i64.wrap ((i : Int) + 1) = (i : Int) + 1 := wrap_in (by omega) (by omega)
        simp -dsimp [h3, z5, ↓e6, h7, q8, w9]
        repeat (refine chk.go (by first | omega | assumption | (simp_all; done) | (simp_all; omega)) ?_; try simp -dsimp [h3, z5, ↓e6, h7, q8, w9])
        refine Again.go ⟨[(0, .arr (List.map cS names)), (1, .lit (.string s)), (5, .lit (.int .i64 ((i + 1) : Int)))], []⟩ (Gh.to (by simp) (by first | (simp -dsimp; done) | (simp -dsimp [h3, z5, ↓e6, h7, q8, w9]; done) | simp_all) (by first | (simp -dsimp; done) | (simp -dsimp [h3, z5, ↓e6, h7, q8, w9]; done) | simp_all) (by first | (simp -dsimp; done) | (simp -dsimp [h3, z5, ↓e6, h7, q8, w9]; done) | simp_all)) ?_
        exact (ih_spec_l1Find_l1 (i + 1) o hF) _ rfl _ hq
    · have q4 : ¬ (i < names.length) := by first | exact h3 | omega | (simpa using h3) | (simp at h3 ⊢; omega) | simp_all
      have z5 : ¬ ((i : Int) < (names.length : Int)) := by first | omega | simp_all
      rw [if_neg q4] at hF
      cases hF
      simp -dsimp [h3, q4, z5]
      repeat (refine chk.go (by first | omega | assumption | (simp_all; done) | (simp_all; omega)) ?_; try simp -dsimp [h3, q4, z5])
      refine Leave.go ⟨[], []⟩ (Gh.to (by simp) (by first | (simp -dsimp; done) | (simp -dsimp [h3, q4, z5]; done) | simp_all) (by first | (simp -dsimp; done) | (simp -dsimp [h3, q4, z5]; done) | simp_all) (by first | (simp -dsimp; done) | (simp -dsimp [h3, q4, z5]; done) | simp_all)) ?_
      exact hq

theorem C.spec_l1Find_l1 (B : Nat) (hB1 : 67108864 ≤ B) (hB2 : B ≤ 9223372036854775807) (names : List ByteArray) (s : ByteArray) (i : Nat) (o : Lo Int Unit) (hF : F.spec_l1Find_l1 names s i = some o) : ∀ (c : Code), navO [1, 1, 0, 1, 0, 0] (bodyOf Try.f117) = some c → ∀ (Q : Exit → ASt → Prop), o.post (fun r => ∀ st, Post Try.prog Try.f117 (fun r' _ => r'.le (.lit (.int .i64 r))) .ret st → Q .ret st) (fun s => Q (.exit 0) ⟨[], []⟩) → ALoopU Try.prog B 0 21 (hold c .mk) ⟨[(0, .arr (List.map cS names)), (1, .lit (.string s)), (5, .lit (.int .i64 (i : Int)))], []⟩ (hold Q .mk) :=
  (CC.spec_l1Find_l1 B hB1 hB2 names s) i o hF

set_option maxRecDepth 100000 in
set_option maxHeartbeats 400000 in
theorem C.spec_l1Find (B : Nat) (hB1 : 67108864 ≤ B) (hB2 : B ≤ 9223372036854775807) (names : List ByteArray) (s : ByteArray) (r : Int) (hF : F.spec_l1Find names s = some r) : PureCall Try.prog B 117 [.arr (List.map cS names), .lit (.string s)] (.lit (.int .i64 r)) := by
  unfold F.spec_l1Find at hF
  refine PureCall.enterLe Try.func117 (by kernel_rfl) rfl Try.ntmps117 (by simp) (by simp) ?_
  simp -dsimp
  repeat (refine chk.go (by first | omega | assumption | (simp_all; done) | (simp_all; omega)) ?_; try simp -dsimp)
  refine abr.split (fun h1 => ?_) (fun h1 => ?_)
  · have q2 : (s.toList = (⟨#[73]⟩ : ByteArray).toList) := by first | exact h1 | omega | (simpa using h1) | (simp at h1 ⊢; omega) | simp_all
    rw [if_pos q2] at hF
    cases hF
    simp -dsimp [h1]
    repeat (refine chk.go (by first | omega | assumption | (simp_all; done) | (simp_all; omega)) ?_; try simp -dsimp [h1])
  · have q2 : ¬ (s.toList = (⟨#[73]⟩ : ByteArray).toList) := by first | exact h1 | omega | (simpa using h1) | (simp at h1 ⊢; omega) | simp_all
    rw [if_neg q2] at hF
    simp -dsimp [h1, q2]
    repeat (refine chk.go (by first | omega | assumption | (simp_all; done) | (simp_all; omega)) ?_; try simp -dsimp [h1, q2])
    have hF := ob hF; obtain ⟨o', ho10, hF⟩ := hF
    refine ALoop.goU ⟨[(0, .arr (List.map cS names)), (1, .lit (.string s)), (5, .lit (.int .i64 (0 : Int)))], []⟩ (Gh.to (by simp) (by first | (simp -dsimp; done) | (simp -dsimp [h1, q2]; done) | simp_all) (by first | (simp -dsimp; done) | (simp -dsimp [h1, q2]; done) | simp_all) (by first | (simp -dsimp; done) | (simp -dsimp [h1, q2]; done) | simp_all)) ?_
    refine (C.spec_l1Find_l1 B hB1 hB2 names s 0 o' ho10) _ rfl _ ?_
    rcases o' with r0 | s11
    · dsimp only at hF
      cases hF
      intro st h
      simpa using h
    · dsimp only at hF
      cases hF
      simp -dsimp
      repeat (refine chk.go (by first | omega | assumption | (simp_all; done) | (simp_all; omega)) ?_; try simp -dsimp)

set_option maxRecDepth 100000 in
set_option maxHeartbeats 400000 in
theorem C.spec_l1ParseType (B : Nat) (hB1 : 67108864 ≤ B) (hB2 : B ≤ 9223372036854775807) (names : List ByteArray) (s : ByteArray) (r : Vl.Ty) (hF : F.spec_l1ParseType names s = some r) : PureCall Try.prog B 112 [.arr (List.map cS names), .lit (.string s)] (.agg [.lit (.int .i64 r.data), .lit (.int .i64 r.index)]) := by
  unfold F.spec_l1ParseType at hF
  refine PureCall.enterLe Try.func112 (by kernel_rfl) rfl Try.ntmps112 (by simp) (by simp) ?_
  simp -dsimp
  repeat (refine chk.go (by first | omega | assumption | (simp_all; done) | (simp_all; omega)) ?_; try simp -dsimp)
  refine abr.split (fun h1 => ?_) (fun h1 => ?_)
  · have q2 : (s.toList = ByteArray.empty.toList) := by first | exact h1 | omega | (simpa using h1) | (simp at h1 ⊢; omega) | simp_all
    rw [if_pos q2] at hF
    cases hF
    simp -dsimp [h1]
    repeat (refine chk.go (by first | omega | assumption | (simp_all; done) | (simp_all; omega)) ?_; try simp -dsimp [h1])
  · have q2 : ¬ (s.toList = ByteArray.empty.toList) := by first | exact h1 | omega | (simpa using h1) | (simp at h1 ⊢; omega) | simp_all
    rw [if_neg q2] at hF
    have hF := oc hF; obtain ⟨c3, hF⟩ := hF
    simp -dsimp [h1, q2]
    repeat (refine chk.go (by first | omega | assumption | (simp_all; done) | (simp_all; omega)) ?_; try simp -dsimp [h1, q2])
    have hF := ob hF; obtain ⟨v, e4, hF⟩ := hF
    refine ((C.spec_l1Find B hB1 hB2 names (s.extract 0 1) v e4)).goW (by first | (simp; done) | (simp [h1, q2]; done) | simp_all) (by simp) ?_
    simp -dsimp [h1, q2]
    repeat (refine chk.go (by first | omega | assumption | (simp_all; done) | (simp_all; omega)) ?_; try simp -dsimp [h1, q2])
    refine abr.split (fun h5 => ?_) (fun h5 => ?_)
    · have q6 : ((s.extract 1 s.size).toList = (⟨#[42]⟩ : ByteArray).toList) := by first | exact h5 | omega | (simpa using h5) | (simp at h5 ⊢; omega) | simp_all
      rw [if_pos q6] at hF
      cases hF
      simp -dsimp [h1, q2, h5]
      repeat (refine chk.go (by first | omega | assumption | (simp_all; done) | (simp_all; omega)) ?_; try simp -dsimp [h1, q2, h5])
    · have q6 : ¬ ((s.extract 1 s.size).toList = (⟨#[42]⟩ : ByteArray).toList) := by first | exact h5 | omega | (simpa using h5) | (simp at h5 ⊢; omega) | simp_all
      rw [if_neg q6] at hF
      simp -dsimp [h1, q2, h5, q6]
      repeat (refine chk.go (by first | omega | assumption | (simp_all; done) | (simp_all; omega)) ?_; try simp -dsimp [h1, q2, h5, q6])
      refine abr.split (fun h7 => ?_) (fun h7 => ?_)
      · have q8 : (s.size = 2) := by first | exact h7 | omega | (simpa using h7) | (simp at h7 ⊢; omega) | simp_all
        have z9 : ((s.size : Int) = (2 : Int)) := by first | omega | simp_all
        rw [if_pos q8] at hF
        have hF := oc hF; obtain ⟨c10, hF⟩ := hF
        simp -dsimp [h1, q2, h5, q6, h7, z9]
        repeat (refine chk.go (by first | omega | assumption | (simp_all; done) | (simp_all; omega)) ?_; try simp -dsimp [h1, q2, h5, q6, h7, z9])
        refine abr.split (fun h11 => ?_) (fun h11 => ?_)
        · have q12 : (48 ≤ byteAt s 1) := by first | exact h11 | omega | (simpa using h11) | (simp at h11 ⊢; omega) | simp_all
          have z13 : ((48 : Int) ≤ ((byteAt s 1 : Nat) : Int)) := by first | omega | simp_all
          rw [if_pos q12] at hF
          simp -dsimp [h1, q2, h5, q6, h7, z9, h11, z13]
          repeat (refine chk.go (by first | omega | assumption | (simp_all; done) | (simp_all; omega)) ?_; try simp -dsimp [h1, q2, h5, q6, h7, z9, h11, z13])
          refine abr.split (fun h14 => ?_) (fun h14 => ?_)
          · have q15 : (byteAt s 1 ≤ 57) := by first | exact h14 | omega | (simpa using h14) | (simp at h14 ⊢; omega) | simp_all
            have z16 : (((byteAt s 1 : Nat) : Int) ≤ (57 : Int)) := by first | omega | simp_all
            rw [if_pos q15] at hF
            cases hF
            simp -dsimp [h1, q2, h5, q6, h7, z9, h11, z13, h14, z16]
            repeat (refine chk.go (by first | omega | assumption | (simp_all; done) | (simp_all; omega)) ?_; try simp -dsimp [h1, q2, h5, q6, h7, z9, h11, z13, h14, z16])
          · have q15 : ¬ (byteAt s 1 ≤ 57) := by first | exact h14 | omega | (simpa using h14) | (simp at h14 ⊢; omega) | simp_all
            have z16 : ¬ (((byteAt s 1 : Nat) : Int) ≤ (57 : Int)) := by first | omega | simp_all
            rw [if_neg q15] at hF
            cases hF
            simp -dsimp [h1, q2, h5, q6, h7, z9, h11, z13, h14, q15, z16]
            repeat (refine chk.go (by first | omega | assumption | (simp_all; done) | (simp_all; omega)) ?_; try simp -dsimp [h1, q2, h5, q6, h7, z9, h11, z13, h14, q15, z16])
        · have q12 : ¬ (48 ≤ byteAt s 1) := by first | exact h11 | omega | (simpa using h11) | (simp at h11 ⊢; omega) | simp_all
          have z13 : ¬ ((48 : Int) ≤ ((byteAt s 1 : Nat) : Int)) := by first | omega | simp_all
          rw [if_neg q12] at hF
          cases hF
          simp -dsimp [h1, q2, h5, q6, h7, z9, h11, q12, z13]
          repeat (refine chk.go (by first | omega | assumption | (simp_all; done) | (simp_all; omega)) ?_; try simp -dsimp [h1, q2, h5, q6, h7, z9, h11, q12, z13])
      · have q8 : ¬ (s.size = 2) := by first | exact h7 | omega | (simpa using h7) | (simp at h7 ⊢; omega) | simp_all
        have z9 : ¬ ((s.size : Int) = (2 : Int)) := by first | omega | simp_all
        rw [if_neg q8] at hF
        cases hF
        simp -dsimp [h1, q2, h5, q6, h7, q8, z9]
        repeat (refine chk.go (by first | omega | assumption | (simp_all; done) | (simp_all; omega)) ?_; try simp -dsimp [h1, q2, h5, q6, h7, q8, z9])

set_option maxRecDepth 100000 in
set_option maxHeartbeats 400000 in
theorem CC.spec_l1ParseCtor_l1 (B : Nat) (hB1 : 67108864 ≤ B) (hB2 : B ≤ 9223372036854775807) (names : List ByteArray) (s : ByteArray) (x : ByteArray) (v21 : List ByteArray) : (∀ (out : List Vl.Ty) (i : Nat) (o : List Vl.Ty), F.spec_l1ParseCtor_l1 names s x v21 out i = some o → ∀ (c : Code), navO [1, 1, 1, 1, 1, 1, 1, 0, 1, 0, 0] (bodyOf Try.f97) = some c → ∀ (Q : Exit → ASt → Prop), Q (.exit 0) ⟨[(4, .ptr 0 0), (5, .ptr 1 0)], [.cells [.lit (.string ByteArray.empty), .lit (.slice none 0 0), .lit (.int .i64 0)], .cells [.lit (.string x), .own 2 (List.length (α := Vl.Ty) o), .lit (.int .i64 (IntKind.i64.wrap (IntKind.i64.wrap ((byteAt s ((IntKind.i64.wrap ((s.size : Int) - 1)).toNat) : Nat) : Int) - 48)))], .elems 2 (List.map Vl.Ty.c o)]⟩ → ALoopU Try.prog B 0 83 (hold c .mk) ⟨[(0, .arr (List.map cS names)), (4, .ptr 0 0), (5, .ptr 1 0), (7, .arr (List.map cS v21)), (8, .lit (.int .i64 (i : Int)))], [.cells [.lit (.string ByteArray.empty), .lit (.slice none 0 0), .lit (.int .i64 0)], .cells [.lit (.string x), .own 2 (List.length (α := Vl.Ty) out), .lit (.int .i64 (IntKind.i64.wrap (IntKind.i64.wrap ((byteAt s ((IntKind.i64.wrap ((s.size : Int) - 1)).toNat) : Nat) : Int) - 48)))], .elems 2 (List.map Vl.Ty.c out)]⟩ (hold Q .mk)) := by
  refine F.spec_l1ParseCtor_l1.partial_correctness names s x v21
    (fun out i o => ∀ (c : Code), navO [1, 1, 1, 1, 1, 1, 1, 0, 1, 0, 0] (bodyOf Try.f97) = some c → ∀ (Q : Exit → ASt → Prop), Q (.exit 0) ⟨[(4, .ptr 0 0), (5, .ptr 1 0)], [.cells [.lit (.string ByteArray.empty), .lit (.slice none 0 0), .lit (.int .i64 0)], .cells [.lit (.string x), .own 2 (List.length (α := Vl.Ty) o), .lit (.int .i64 (IntKind.i64.wrap (IntKind.i64.wrap ((byteAt s ((IntKind.i64.wrap ((s.size : Int) - 1)).toNat) : Nat) : Int) - 48)))], .elems 2 (List.map Vl.Ty.c o)]⟩ → ALoopU Try.prog B 0 83 (hold c .mk) ⟨[(0, .arr (List.map cS names)), (4, .ptr 0 0), (5, .ptr 1 0), (7, .arr (List.map cS v21)), (8, .lit (.int .i64 (i : Int)))], [.cells [.lit (.string ByteArray.empty), .lit (.slice none 0 0), .lit (.int .i64 0)], .cells [.lit (.string x), .own 2 (List.length (α := Vl.Ty) out), .lit (.int .i64 (IntKind.i64.wrap (IntKind.i64.wrap ((byteAt s ((IntKind.i64.wrap ((s.size : Int) - 1)).toNat) : Nat) : Int) - 48)))], .elems 2 (List.map Vl.Ty.c out)]⟩ (hold Q .mk))
    ?_
  · intro _f_spec_l1ParseCtor_l1 ih_spec_l1ParseCtor_l1 out i o hF
    intro c hc Q hq
    obtain rfl : c = _ := navEq hc rfl
    refine ALoopU.know fun hk hs => ?_
    have b0 := hk 0
    simp -dsimp at b0
    have b7 := hk 7
    simp -dsimp at b7
    have d2 := hs 2 _ rfl
    simp -dsimp [Blk.bnd] at d2
    clear hk hs
    refine ALoopU.enter ?_
    simp -dsimp
    repeat (refine chk.go (by first | omega | assumption | (simp_all; done) | (simp_all; omega)) ?_; try simp -dsimp)
    refine abr.split (fun h23 => ?_) (fun h23 => ?_)
    · have q24 : (i < v21.length) := by first | exact h23 | omega | (simpa using h23) | (simp at h23 ⊢; omega) | simp_all
      have z25 : ((i : Int) < (v21.length : Int)) := by first | omega | simp_all
      rw [if_pos q24] at hF
      simp -dsimp [h23, z25]
      repeat (refine chk.go (by first | omega | assumption | (simp_all; done) | (simp_all; omega)) ?_; try simp -dsimp [h23, z25])
      refine abr.split (fun h26 => ?_) (fun h26 => ?_)
      · have q27 : (i ≤ 3) := by first | exact h26 | omega | (simpa using h26) | (simp at h26 ⊢; omega) | simp_all
        have z28 : ((i : Int) ≤ (3 : Int)) := by first | omega | simp_all
        rw [if_pos q27] at hF
        simp -dsimp [h23, z25, h26, z28]
        repeat (refine chk.go (by first | omega | assumption | (simp_all; done) | (simp_all; omega)) ?_; try simp -dsimp [h23, z25, h26, z28])
        refine ADraw.eff [] [(0, 1), (0, 1), (0, 0), (0, 0), (0, 0), (0, 0), (0, 0), (0, 3), (0, 3), (0, 3), (2, 2), (0, 3)] [0, 2, 1, 1, 1, 1, 1, 1, 1, 1, 1, 1] follows (by kernel_rfl) (by kernel_rfl) (by kernel_rfl) ?_
        have hF := ob hF; obtain ⟨x29, e30, hF⟩ := hF
        have le30 := lt_of_get e30
        simp -dsimp [h23, z25, h26, z28, ↓e30]
        repeat (refine chk.go (by first | omega | assumption | (simp_all; done) | (simp_all; omega)) ?_; try simp -dsimp [h23, z25, h26, z28, ↓e30])
        have hF := ob hF; obtain ⟨v31, e32, hF⟩ := hF
        refine ((C.spec_l1ParseType B hB1 hB2 names x29 v31 e32)).pgoW (by first | (simp; done) | (simp [h23, z25, h26, z28, ↓e30]; done) | simp_all) (by simp) ?_
        have hF := oc hF; obtain ⟨c33, hF⟩ := hF
        have w34 : IntKind.i64.wrap ((i : Int) + 1) = (i : Int) + 1 := wrap_in (by omega) (by omega)
        simp -dsimp [h23, z25, h26, z28, ↓e30, w34]
        repeat (refine chk.go (by first | omega | assumption | (simp_all; done) | (simp_all; omega)) ?_; try simp -dsimp [h23, z25, h26, z28, ↓e30, w34])
        refine Again.go ⟨[(0, .arr (List.map cS names)), (4, .ptr 0 0), (5, .ptr 1 0), (7, .arr (List.map cS v21)), (8, .lit (.int .i64 ((i + 1) : Int)))], [.cells [.lit (.string ByteArray.empty), .lit (.slice none 0 0), .lit (.int .i64 0)], .cells [.lit (.string x), .own 2 (List.length (α := Vl.Ty) (out ++ [v31])), .lit (.int .i64 (IntKind.i64.wrap (IntKind.i64.wrap ((byteAt s ((IntKind.i64.wrap ((s.size : Int) - 1)).toNat) : Nat) : Int) - 48)))], .elems 2 (List.map Vl.Ty.c (out ++ [v31]))]⟩ (Gh.to (by simp) (by first | (simp -dsimp; done) | (simp -dsimp [h23, z25, h26, z28, ↓e30, w34]; done) | simp_all) (by first | (simp -dsimp; done) | (simp -dsimp [h23, z25, h26, z28, ↓e30, w34]; done) | simp_all) (by first | (simp -dsimp; done) | (simp -dsimp [h23, z25, h26, z28, ↓e30, w34]; done) | simp_all)) ?_
        exact (ih_spec_l1ParseCtor_l1 (out ++ [v31]) (i + 1) o hF) _ rfl _ hq
      · have q27 : ¬ (i ≤ 3) := by first | exact h26 | omega | (simpa using h26) | (simp at h26 ⊢; omega) | simp_all
        have z28 : ¬ ((i : Int) ≤ (3 : Int)) := by first | omega | simp_all
        rw [if_neg q27] at hF
        cases hF
        simp -dsimp [h23, z25, h26, q27, z28]
        repeat (refine chk.go (by first | omega | assumption | (simp_all; done) | (simp_all; omega)) ?_; try simp -dsimp [h23, z25, h26, q27, z28])
        refine Leave.go ⟨[(4, .ptr 0 0), (5, .ptr 1 0)], [.cells [.lit (.string ByteArray.empty), .lit (.slice none 0 0), .lit (.int .i64 0)], .cells [.lit (.string x), .own 2 (List.length (α := Vl.Ty) out), .lit (.int .i64 (IntKind.i64.wrap (IntKind.i64.wrap ((byteAt s ((IntKind.i64.wrap ((s.size : Int) - 1)).toNat) : Nat) : Int) - 48)))], .elems 2 (List.map Vl.Ty.c out)]⟩ (Gh.to (by simp) (by first | (simp -dsimp; done) | (simp -dsimp [h23, z25, h26, q27, z28]; done) | simp_all) (by first | (simp -dsimp; done) | (simp -dsimp [h23, z25, h26, q27, z28]; done) | simp_all) (by first | (simp -dsimp; done) | (simp -dsimp [h23, z25, h26, q27, z28]; done) | simp_all)) ?_
        exact hq
    · have q24 : ¬ (i < v21.length) := by first | exact h23 | omega | (simpa using h23) | (simp at h23 ⊢; omega) | simp_all
      have z25 : ¬ ((i : Int) < (v21.length : Int)) := by first | omega | simp_all
      rw [if_neg q24] at hF
      cases hF
      simp -dsimp [h23, q24, z25]
      repeat (refine chk.go (by first | omega | assumption | (simp_all; done) | (simp_all; omega)) ?_; try simp -dsimp [h23, q24, z25])
      refine Leave.go ⟨[(4, .ptr 0 0), (5, .ptr 1 0)], [.cells [.lit (.string ByteArray.empty), .lit (.slice none 0 0), .lit (.int .i64 0)], .cells [.lit (.string x), .own 2 (List.length (α := Vl.Ty) out), .lit (.int .i64 (IntKind.i64.wrap (IntKind.i64.wrap ((byteAt s ((IntKind.i64.wrap ((s.size : Int) - 1)).toNat) : Nat) : Int) - 48)))], .elems 2 (List.map Vl.Ty.c out)]⟩ (Gh.to (by simp) (by first | (simp -dsimp; done) | (simp -dsimp [h23, q24, z25]; done) | simp_all) (by first | (simp -dsimp; done) | (simp -dsimp [h23, q24, z25]; done) | simp_all) (by first | (simp -dsimp; done) | (simp -dsimp [h23, q24, z25]; done) | simp_all)) ?_
      exact hq

theorem C.spec_l1ParseCtor_l1 (B : Nat) (hB1 : 67108864 ≤ B) (hB2 : B ≤ 9223372036854775807) (names : List ByteArray) (s : ByteArray) (x : ByteArray) (v21 : List ByteArray) (out : List Vl.Ty) (i : Nat) (o : List Vl.Ty) (hF : F.spec_l1ParseCtor_l1 names s x v21 out i = some o) : ∀ (c : Code), navO [1, 1, 1, 1, 1, 1, 1, 0, 1, 0, 0] (bodyOf Try.f97) = some c → ∀ (Q : Exit → ASt → Prop), Q (.exit 0) ⟨[(4, .ptr 0 0), (5, .ptr 1 0)], [.cells [.lit (.string ByteArray.empty), .lit (.slice none 0 0), .lit (.int .i64 0)], .cells [.lit (.string x), .own 2 (List.length (α := Vl.Ty) o), .lit (.int .i64 (IntKind.i64.wrap (IntKind.i64.wrap ((byteAt s ((IntKind.i64.wrap ((s.size : Int) - 1)).toNat) : Nat) : Int) - 48)))], .elems 2 (List.map Vl.Ty.c o)]⟩ → ALoopU Try.prog B 0 83 (hold c .mk) ⟨[(0, .arr (List.map cS names)), (4, .ptr 0 0), (5, .ptr 1 0), (7, .arr (List.map cS v21)), (8, .lit (.int .i64 (i : Int)))], [.cells [.lit (.string ByteArray.empty), .lit (.slice none 0 0), .lit (.int .i64 0)], .cells [.lit (.string x), .own 2 (List.length (α := Vl.Ty) out), .lit (.int .i64 (IntKind.i64.wrap (IntKind.i64.wrap ((byteAt s ((IntKind.i64.wrap ((s.size : Int) - 1)).toNat) : Nat) : Int) - 48)))], .elems 2 (List.map Vl.Ty.c out)]⟩ (hold Q .mk) :=
  (CC.spec_l1ParseCtor_l1 B hB1 hB2 names s x v21) out i o hF

set_option maxRecDepth 100000 in
set_option maxHeartbeats 400000 in
theorem CC.spec_l1ParseCtor_l2 (B : Nat) (hB1 : 67108864 ≤ B) (hB2 : B ≤ 9223372036854775807) (names : List ByteArray) (x38 : ByteArray) (v49 : List ByteArray) : (∀ (out51 : List Vl.Ty) (i52 : Nat) (o : List Vl.Ty), F.spec_l1ParseCtor_l2 names x38 v49 out51 i52 = some o → ∀ (c : Code), navO [1, 1, 1, 1, 1, 1, 1, 0, 1, 0, 0] (bodyOf Try.f97) = some c → ∀ (Q : Exit → ASt → Prop), Q (.exit 0) ⟨[(4, .ptr 0 0), (5, .ptr 1 0)], [.cells [.lit (.string ByteArray.empty), .lit (.slice none 0 0), .lit (.int .i64 0)], .cells [.lit (.string x38), .own 2 (List.length (α := Vl.Ty) o), .lit (.int .i64 0)], .elems 2 (List.map Vl.Ty.c o)]⟩ → ALoopU Try.prog B 0 83 (hold c .mk) ⟨[(0, .arr (List.map cS names)), (4, .ptr 0 0), (5, .ptr 1 0), (7, .arr (List.map cS v49)), (8, .lit (.int .i64 (i52 : Int)))], [.cells [.lit (.string ByteArray.empty), .lit (.slice none 0 0), .lit (.int .i64 0)], .cells [.lit (.string x38), .own 2 (List.length (α := Vl.Ty) out51), .lit (.int .i64 0)], .elems 2 (List.map Vl.Ty.c out51)]⟩ (hold Q .mk)) := by
  refine F.spec_l1ParseCtor_l2.partial_correctness names x38 v49
    (fun out51 i52 o => ∀ (c : Code), navO [1, 1, 1, 1, 1, 1, 1, 0, 1, 0, 0] (bodyOf Try.f97) = some c → ∀ (Q : Exit → ASt → Prop), Q (.exit 0) ⟨[(4, .ptr 0 0), (5, .ptr 1 0)], [.cells [.lit (.string ByteArray.empty), .lit (.slice none 0 0), .lit (.int .i64 0)], .cells [.lit (.string x38), .own 2 (List.length (α := Vl.Ty) o), .lit (.int .i64 0)], .elems 2 (List.map Vl.Ty.c o)]⟩ → ALoopU Try.prog B 0 83 (hold c .mk) ⟨[(0, .arr (List.map cS names)), (4, .ptr 0 0), (5, .ptr 1 0), (7, .arr (List.map cS v49)), (8, .lit (.int .i64 (i52 : Int)))], [.cells [.lit (.string ByteArray.empty), .lit (.slice none 0 0), .lit (.int .i64 0)], .cells [.lit (.string x38), .own 2 (List.length (α := Vl.Ty) out51), .lit (.int .i64 0)], .elems 2 (List.map Vl.Ty.c out51)]⟩ (hold Q .mk))
    ?_
  · intro _f_spec_l1ParseCtor_l2 ih_spec_l1ParseCtor_l2 out51 i52 o hF
    intro c hc Q hq
    obtain rfl : c = _ := navEq hc rfl
    refine ALoopU.know fun hk hs => ?_
    have b0 := hk 0
    simp -dsimp at b0
    have b7 := hk 7
    simp -dsimp at b7
    have d2 := hs 2 _ rfl
    simp -dsimp [Blk.bnd] at d2
    clear hk hs
    refine ALoopU.enter ?_
    simp -dsimp
    repeat (refine chk.go (by first | omega | assumption | (simp_all; done) | (simp_all; omega)) ?_; try simp -dsimp)
    refine abr.split (fun h53 => ?_) (fun h53 => ?_)
    · have q54 : (i52 < v49.length) := by first | exact h53 | omega | (simpa using h53) | (simp at h53 ⊢; omega) | simp_all
      have z55 : ((i52 : Int) < (v49.length : Int)) := by first | omega | simp_all
      rw [if_pos q54] at hF
      simp -dsimp [h53, z55]
      repeat (refine chk.go (by first | omega | assumption | (simp_all; done) | (simp_all; omega)) ?_; try simp -dsimp [h53, z55])
      refine abr.split (fun h56 => ?_) (fun h56 => ?_)
      · have q57 : (i52 ≤ 3) := by first | exact h56 | omega | (simpa using h56) | (simp at h56 ⊢; omega) | simp_all
        have z58 : ((i52 : Int) ≤ (3 : Int)) := by first | omega | simp_all
        rw [if_pos q57] at hF
        simp -dsimp [h53, z55, h56, z58]
        repeat (refine chk.go (by first | omega | assumption | (simp_all; done) | (simp_all; omega)) ?_; try simp -dsimp [h53, z55, h56, z58])
        refine ADraw.eff [] [(0, 1), (0, 1), (0, 0), (0, 0), (0, 0), (0, 0), (0, 0), (0, 3), (0, 3), (0, 3), (2, 2), (0, 3)] [0, 2, 1, 1, 1, 1, 1, 1, 1, 1, 1, 1] follows (by kernel_rfl) (by kernel_rfl) (by kernel_rfl) ?_
        have hF := ob hF; obtain ⟨x59, e60, hF⟩ := hF
        have le60 := lt_of_get e60
        simp -dsimp [h53, z55, h56, z58, ↓e60]
        repeat (refine chk.go (by first | omega | assumption | (simp_all; done) | (simp_all; omega)) ?_; try simp -dsimp [h53, z55, h56, z58, ↓e60])
        have hF := ob hF; obtain ⟨v61, e62, hF⟩ := hF
        refine ((C.spec_l1ParseType B hB1 hB2 names x59 v61 e62)).pgoW (by first | (simp; done) | (simp [h53, z55, h56, z58, ↓e60]; done) | simp_all) (by simp) ?_
        have hF := oc hF; obtain ⟨c63, hF⟩ := hF
        have w64 : IntKind.i64.wrap ((i52 : Int) + 1) = (i52 : Int) + 1 := wrap_in (by omega) (by omega)
        simp -dsimp [h53, z55, h56, z58, ↓e60, w64]
        repeat (refine chk.go (by first | omega | assumption | (simp_all; done) | (simp_all; omega)) ?_; try simp -dsimp [h53, z55, h56, z58, ↓e60, w64])
        refine Again.go ⟨[(0, .arr (List.map cS names)), (4, .ptr 0 0), (5, .ptr 1 0), (7, .arr (List.map cS v49)), (8, .lit (.int .i64 ((i52 + 1) : Int)))], [.cells [.lit (.string ByteArray.empty), .lit (.slice none 0 0), .lit (.int .i64 0)], .cells [.lit (.string x38), .own 2 (List.length (α := Vl.Ty) (out51 ++ [v61])), .lit (.int .i64 0)], .elems 2 (List.map Vl.Ty.c (out51 ++ [v61]))]⟩ (Gh.to (by simp) (by first | (simp -dsimp; done) | (simp -dsimp [h53, z55, h56, z58, ↓e60, w64]; done) | simp_all) (by first | (simp -dsimp; done) | (simp -dsimp [h53, z55, h56, z58, ↓e60, w64]; done) | simp_all) (by first | (simp -dsimp; done) | (simp -dsimp [h53, z55, h56, z58, ↓e60, w64]; done) | simp_all)) ?_
        exact (ih_spec_l1ParseCtor_l2 (out51 ++ [v61]) (i52 + 1) o hF) _ rfl _ hq
      · have q57 : ¬ (i52 ≤ 3) := by first | exact h56 | omega | (simpa using h56) | (simp at h56 ⊢; omega) | simp_all
        have z58 : ¬ ((i52 : Int) ≤ (3 : Int)) := by first | omega | simp_all
        rw [if_neg q57] at hF
        cases hF
        simp -dsimp [h53, z55, h56, q57, z58]
        repeat (refine chk.go (by first | omega | assumption | (simp_all; done) | (simp_all; omega)) ?_; try simp -dsimp [h53, z55, h56, q57, z58])
        refine Leave.go ⟨[(4, .ptr 0 0), (5, .ptr 1 0)], [.cells [.lit (.string ByteArray.empty), .lit (.slice none 0 0), .lit (.int .i64 0)], .cells [.lit (.string x38), .own 2 (List.length (α := Vl.Ty) out51), .lit (.int .i64 0)], .elems 2 (List.map Vl.Ty.c out51)]⟩ (Gh.to (by simp) (by first | (simp -dsimp; done) | (simp -dsimp [h53, z55, h56, q57, z58]; done) | simp_all) (by first | (simp -dsimp; done) | (simp -dsimp [h53, z55, h56, q57, z58]; done) | simp_all) (by first | (simp -dsimp; done) | (simp -dsimp [h53, z55, h56, q57, z58]; done) | simp_all)) ?_
        exact hq
    · have q54 : ¬ (i52 < v49.length) := by first | exact h53 | omega | (simpa using h53) | (simp at h53 ⊢; omega) | simp_all
      have z55 : ¬ ((i52 : Int) < (v49.length : Int)) := by first | omega | simp_all
      rw [if_neg q54] at hF
      cases hF
      simp -dsimp [h53, q54, z55]
      repeat (refine chk.go (by first | omega | assumption | (simp_all; done) | (simp_all; omega)) ?_; try simp -dsimp [h53, q54, z55])
      refine Leave.go ⟨[(4, .ptr 0 0), (5, .ptr 1 0)], [.cells [.lit (.string ByteArray.empty), .lit (.slice none 0 0), .lit (.int .i64 0)], .cells [.lit (.string x38), .own 2 (List.length (α := Vl.Ty) out51), .lit (.int .i64 0)], .elems 2 (List.map Vl.Ty.c out51)]⟩ (Gh.to (by simp) (by first | (simp -dsimp; done) | (simp -dsimp [h53, q54, z55]; done) | simp_all) (by first | (simp -dsimp; done) | (simp -dsimp [h53, q54, z55]; done) | simp_all) (by first | (simp -dsimp; done) | (simp -dsimp [h53, q54, z55]; done) | simp_all)) ?_
      exact hq

theorem C.spec_l1ParseCtor_l2 (B : Nat) (hB1 : 67108864 ≤ B) (hB2 : B ≤ 9223372036854775807) (names : List ByteArray) (x38 : ByteArray) (v49 : List ByteArray) (out51 : List Vl.Ty) (i52 : Nat) (o : List Vl.Ty) (hF : F.spec_l1ParseCtor_l2 names x38 v49 out51 i52 = some o) : ∀ (c : Code), navO [1, 1, 1, 1, 1, 1, 1, 0, 1, 0, 0] (bodyOf Try.f97) = some c → ∀ (Q : Exit → ASt → Prop), Q (.exit 0) ⟨[(4, .ptr 0 0), (5, .ptr 1 0)], [.cells [.lit (.string ByteArray.empty), .lit (.slice none 0 0), .lit (.int .i64 0)], .cells [.lit (.string x38), .own 2 (List.length (α := Vl.Ty) o), .lit (.int .i64 0)], .elems 2 (List.map Vl.Ty.c o)]⟩ → ALoopU Try.prog B 0 83 (hold c .mk) ⟨[(0, .arr (List.map cS names)), (4, .ptr 0 0), (5, .ptr 1 0), (7, .arr (List.map cS v49)), (8, .lit (.int .i64 (i52 : Int)))], [.cells [.lit (.string ByteArray.empty), .lit (.slice none 0 0), .lit (.int .i64 0)], .cells [.lit (.string x38), .own 2 (List.length (α := Vl.Ty) out51), .lit (.int .i64 0)], .elems 2 (List.map Vl.Ty.c out51)]⟩ (hold Q .mk) :=
  (CC.spec_l1ParseCtor_l2 B hB1 hB2 names x38 v49) out51 i52 o hF

set_option maxRecDepth 100000 in
set_option maxHeartbeats 400000 in
theorem CC.spec_l1ParseCtor_l3 (B : Nat) (hB1 : 67108864 ≤ B) (hB2 : B ≤ 9223372036854775807) (names : List ByteArray) (x69 : ByteArray) (v80 : List ByteArray) : (∀ (out82 : List Vl.Ty) (i83 : Nat) (o : List Vl.Ty), F.spec_l1ParseCtor_l3 names x69 v80 out82 i83 = some o → ∀ (c : Code), navO [1, 1, 1, 1, 1, 1, 1, 0, 1, 0, 0] (bodyOf Try.f97) = some c → ∀ (Q : Exit → ASt → Prop), Q (.exit 0) ⟨[(4, .ptr 0 0), (5, .ptr 1 0)], [.cells [.lit (.string ByteArray.empty), .lit (.slice none 0 0), .lit (.int .i64 0)], .cells [.lit (.string x69), .own 2 (List.length (α := Vl.Ty) o), .lit (.int .i64 0)], .elems 2 (List.map Vl.Ty.c o)]⟩ → ALoopU Try.prog B 0 83 (hold c .mk) ⟨[(0, .arr (List.map cS names)), (4, .ptr 0 0), (5, .ptr 1 0), (7, .arr (List.map cS v80)), (8, .lit (.int .i64 (i83 : Int)))], [.cells [.lit (.string ByteArray.empty), .lit (.slice none 0 0), .lit (.int .i64 0)], .cells [.lit (.string x69), .own 2 (List.length (α := Vl.Ty) out82), .lit (.int .i64 0)], .elems 2 (List.map Vl.Ty.c out82)]⟩ (hold Q .mk)) := by
  refine F.spec_l1ParseCtor_l3.partial_correctness names x69 v80
    (fun out82 i83 o => ∀ (c : Code), navO [1, 1, 1, 1, 1, 1, 1, 0, 1, 0, 0] (bodyOf Try.f97) = some c → ∀ (Q : Exit → ASt → Prop), Q (.exit 0) ⟨[(4, .ptr 0 0), (5, .ptr 1 0)], [.cells [.lit (.string ByteArray.empty), .lit (.slice none 0 0), .lit (.int .i64 0)], .cells [.lit (.string x69), .own 2 (List.length (α := Vl.Ty) o), .lit (.int .i64 0)], .elems 2 (List.map Vl.Ty.c o)]⟩ → ALoopU Try.prog B 0 83 (hold c .mk) ⟨[(0, .arr (List.map cS names)), (4, .ptr 0 0), (5, .ptr 1 0), (7, .arr (List.map cS v80)), (8, .lit (.int .i64 (i83 : Int)))], [.cells [.lit (.string ByteArray.empty), .lit (.slice none 0 0), .lit (.int .i64 0)], .cells [.lit (.string x69), .own 2 (List.length (α := Vl.Ty) out82), .lit (.int .i64 0)], .elems 2 (List.map Vl.Ty.c out82)]⟩ (hold Q .mk))
    ?_
  · intro _f_spec_l1ParseCtor_l3 ih_spec_l1ParseCtor_l3 out82 i83 o hF
    intro c hc Q hq
    obtain rfl : c = _ := navEq hc rfl
    refine ALoopU.know fun hk hs => ?_
    have b0 := hk 0
    simp -dsimp at b0
    have b7 := hk 7
    simp -dsimp at b7
    have d2 := hs 2 _ rfl
    simp -dsimp [Blk.bnd] at d2
    clear hk hs
    refine ALoopU.enter ?_
    simp -dsimp
    repeat (refine chk.go (by first | omega | assumption | (simp_all; done) | (simp_all; omega)) ?_; try simp -dsimp)
    refine abr.split (fun h84 => ?_) (fun h84 => ?_)
    · have q85 : (i83 < v80.length) := by first | exact h84 | omega | (simpa using h84) | (simp at h84 ⊢; omega) | simp_all
      have z86 : ((i83 : Int) < (v80.length : Int)) := by first | omega | simp_all
      rw [if_pos q85] at hF
      simp -dsimp [h84, z86]
      repeat (refine chk.go (by first | omega | assumption | (simp_all; done) | (simp_all; omega)) ?_; try simp -dsimp [h84, z86])
      refine abr.split (fun h87 => ?_) (fun h87 => ?_)
      · have q88 : (i83 ≤ 3) := by first | exact h87 | omega | (simpa using h87) | (simp at h87 ⊢; omega) | simp_all
        have z89 : ((i83 : Int) ≤ (3 : Int)) := by first | omega | simp_all
        rw [if_pos q88] at hF
        simp -dsimp [h84, z86, h87, z89]
        repeat (refine chk.go (by first | omega | assumption | (simp_all; done) | (simp_all; omega)) ?_; try simp -dsimp [h84, z86, h87, z89])
        refine ADraw.eff [] [(0, 1), (0, 1), (0, 0), (0, 0), (0, 0), (0, 0), (0, 0), (0, 3), (0, 3), (0, 3), (2, 2), (0, 3)] [0, 2, 1, 1, 1, 1, 1, 1, 1, 1, 1, 1] follows (by kernel_rfl) (by kernel_rfl) (by kernel_rfl) ?_
        have hF := ob hF; obtain ⟨x90, e91, hF⟩ := hF
        have le91 := lt_of_get e91
        simp -dsimp [h84, z86, h87, z89, ↓e91]
        repeat (refine chk.go (by first | omega | assumption | (simp_all; done) | (simp_all; omega)) ?_; try simp -dsimp [h84, z86, h87, z89, ↓e91])
        have hF := ob hF; obtain ⟨v92, e93, hF⟩ := hF
        refine ((C.spec_l1ParseType B hB1 hB2 names x90 v92 e93)).pgoW (by first | (simp; done) | (simp [h84, z86, h87, z89, ↓e91]; done) | simp_all) (by simp) ?_
        have hF := oc hF; obtain ⟨c94, hF⟩ := hF
        have w95 : IntKind.i64.wrap ((i83 : Int) + 1) = (i83 : Int) + 1 := wrap_in (by omega) (by omega)
        simp -dsimp [h84, z86, h87, z89, ↓e91, w95]
        repeat (refine chk.go (by first | omega | assumption | (simp_all; done) | (simp_all; omega)) ?_; try simp -dsimp [h84, z86, h87, z89, ↓e91, w95])
        refine Again.go ⟨[(0, .arr (List.map cS names)), (4, .ptr 0 0), (5, .ptr 1 0), (7, .arr (List.map cS v80)), (8, .lit (.int .i64 ((i83 + 1) : Int)))], [.cells [.lit (.string ByteArray.empty), .lit (.slice none 0 0), .lit (.int .i64 0)], .cells [.lit (.string x69), .own 2 (List.length (α := Vl.Ty) (out82 ++ [v92])), .lit (.int .i64 0)], .elems 2 (List.map Vl.Ty.c (out82 ++ [v92]))]⟩ (Gh.to (by simp) (by first | (simp -dsimp; done) | (simp -dsimp [h84, z86, h87, z89, ↓e91, w95]; done) | simp_all) (by first | (simp -dsimp; done) | (simp -dsimp [h84, z86, h87, z89, ↓e91, w95]; done) | simp_all) (by first | (simp -dsimp; done) | (simp -dsimp [h84, z86, h87, z89, ↓e91, w95]; done) | simp_all)) ?_
        exact (ih_spec_l1ParseCtor_l3 (out82 ++ [v92]) (i83 + 1) o hF) _ rfl _ hq
      · have q88 : ¬ (i83 ≤ 3) := by first | exact h87 | omega | (simpa using h87) | (simp at h87 ⊢; omega) | simp_all
        have z89 : ¬ ((i83 : Int) ≤ (3 : Int)) := by first | omega | simp_all
        rw [if_neg q88] at hF
        cases hF
        simp -dsimp [h84, z86, h87, q88, z89]
        repeat (refine chk.go (by first | omega | assumption | (simp_all; done) | (simp_all; omega)) ?_; try simp -dsimp [h84, z86, h87, q88, z89])
        refine Leave.go ⟨[(4, .ptr 0 0), (5, .ptr 1 0)], [.cells [.lit (.string ByteArray.empty), .lit (.slice none 0 0), .lit (.int .i64 0)], .cells [.lit (.string x69), .own 2 (List.length (α := Vl.Ty) out82), .lit (.int .i64 0)], .elems 2 (List.map Vl.Ty.c out82)]⟩ (Gh.to (by simp) (by first | (simp -dsimp; done) | (simp -dsimp [h84, z86, h87, q88, z89]; done) | simp_all) (by first | (simp -dsimp; done) | (simp -dsimp [h84, z86, h87, q88, z89]; done) | simp_all) (by first | (simp -dsimp; done) | (simp -dsimp [h84, z86, h87, q88, z89]; done) | simp_all)) ?_
        exact hq
    · have q85 : ¬ (i83 < v80.length) := by first | exact h84 | omega | (simpa using h84) | (simp at h84 ⊢; omega) | simp_all
      have z86 : ¬ ((i83 : Int) < (v80.length : Int)) := by first | omega | simp_all
      rw [if_neg q85] at hF
      cases hF
      simp -dsimp [h84, q85, z86]
      repeat (refine chk.go (by first | omega | assumption | (simp_all; done) | (simp_all; omega)) ?_; try simp -dsimp [h84, q85, z86])
      refine Leave.go ⟨[(4, .ptr 0 0), (5, .ptr 1 0)], [.cells [.lit (.string ByteArray.empty), .lit (.slice none 0 0), .lit (.int .i64 0)], .cells [.lit (.string x69), .own 2 (List.length (α := Vl.Ty) out82), .lit (.int .i64 0)], .elems 2 (List.map Vl.Ty.c out82)]⟩ (Gh.to (by simp) (by first | (simp -dsimp; done) | (simp -dsimp [h84, q85, z86]; done) | simp_all) (by first | (simp -dsimp; done) | (simp -dsimp [h84, q85, z86]; done) | simp_all) (by first | (simp -dsimp; done) | (simp -dsimp [h84, q85, z86]; done) | simp_all)) ?_
      exact hq

theorem C.spec_l1ParseCtor_l3 (B : Nat) (hB1 : 67108864 ≤ B) (hB2 : B ≤ 9223372036854775807) (names : List ByteArray) (x69 : ByteArray) (v80 : List ByteArray) (out82 : List Vl.Ty) (i83 : Nat) (o : List Vl.Ty) (hF : F.spec_l1ParseCtor_l3 names x69 v80 out82 i83 = some o) : ∀ (c : Code), navO [1, 1, 1, 1, 1, 1, 1, 0, 1, 0, 0] (bodyOf Try.f97) = some c → ∀ (Q : Exit → ASt → Prop), Q (.exit 0) ⟨[(4, .ptr 0 0), (5, .ptr 1 0)], [.cells [.lit (.string ByteArray.empty), .lit (.slice none 0 0), .lit (.int .i64 0)], .cells [.lit (.string x69), .own 2 (List.length (α := Vl.Ty) o), .lit (.int .i64 0)], .elems 2 (List.map Vl.Ty.c o)]⟩ → ALoopU Try.prog B 0 83 (hold c .mk) ⟨[(0, .arr (List.map cS names)), (4, .ptr 0 0), (5, .ptr 1 0), (7, .arr (List.map cS v80)), (8, .lit (.int .i64 (i83 : Int)))], [.cells [.lit (.string ByteArray.empty), .lit (.slice none 0 0), .lit (.int .i64 0)], .cells [.lit (.string x69), .own 2 (List.length (α := Vl.Ty) out82), .lit (.int .i64 0)], .elems 2 (List.map Vl.Ty.c out82)]⟩ (hold Q .mk) :=
  (CC.spec_l1ParseCtor_l3 B hB1 hB2 names x69 v80) out82 i83 o hF

set_option maxRecDepth 100000 in
set_option maxHeartbeats 400000 in
theorem C.spec_l1ParseCtor (B : Nat) (hB1 : 67108864 ≤ B) (hB2 : B ≤ 9223372036854775807) (names : List ByteArray) (s : ByteArray) (r : Vl.Ctor) (hF : F.spec_l1ParseCtor names s = some r) : PureCall Try.prog B 97 [.arr (List.map cS names), .lit (.string s)] (.agg [.lit (.string r.name), .arr (List.map Vl.Ty.c r.args), .lit (.int .i64 r.index)]) := by
  unfold F.spec_l1ParseCtor at hF
  refine PureCall.enterLe Try.func97 (by kernel_rfl) rfl Try.ntmps97 (by simp) (by simp) ?_
  simp -dsimp
  repeat (refine chk.go (by first | omega | assumption | (simp_all; done) | (simp_all; omega)) ?_; try simp -dsimp)
  refine abr.split (fun h1 => ?_) (fun h1 => ?_)
  · have q2 : (2 < s.size) := by first | exact h1 | omega | (simpa using h1) | (simp at h1 ⊢; omega) | simp_all
    have z3 : ((2 : Int) < (s.size : Int)) := by first | omega | simp_all
    rw [if_pos q2] at hF
    have hF := oc hF; obtain ⟨c4, hF⟩ := hF
    simp -dsimp [h1, z3]
    repeat (refine chk.go (by first | omega | assumption | (simp_all; done) | (simp_all; omega)) ?_; try simp -dsimp [h1, z3])
    refine abr.split (fun h5 => ?_) (fun h5 => ?_)
    · have q6 : (byteAt s ((IntKind.i64.wrap ((s.size : Int) - 2)).toNat) = 58) := by first | exact h5 | omega | (simpa using h5) | (simp at h5 ⊢; omega) | simp_all
      have z7 : (((byteAt s ((IntKind.i64.wrap ((s.size : Int) - 2)).toNat) : Nat) : Int) = (58 : Int)) := by first | omega | simp_all
      rw [if_pos q6] at hF
      have hF := oc hF; obtain ⟨c8, hF⟩ := hF
      have hF := oc hF; obtain ⟨c9, hF⟩ := hF
      simp -dsimp [h1, z3, h5, z7]
      repeat (refine chk.go (by first | omega | assumption | (simp_all; done) | (simp_all; omega)) ?_; try simp -dsimp [h1, z3, h5, z7])
      have hF := ob hF; obtain ⟨v, e10, hF⟩ := hF
      refine ((C.spec_l17Cut B hB1 hB2 (s.extract 0 ((IntKind.i64.wrap ((s.size : Int) - 2)).toNat)) (40 : Int) v e10)).goW (by first | (simp; done) | (simp [h1, z3, h5, z7]; done) | simp_all) (by simp) ?_
      have hF := ob hF; obtain ⟨x, e11, hF⟩ := hF
      have le11 := lt_of_get e11
      simp -dsimp [h1, z3, h5, z7, ↓e11]
      repeat (refine chk.go (by first | omega | assumption | (simp_all; done) | (simp_all; omega)) ?_; try simp -dsimp [h1, z3, h5, z7, ↓e11])
      refine abr.split (fun h12 => ?_) (fun h12 => ?_)
      · have q13 : ¬ (v.length < 2) := by first | exact h12 | omega | (simpa using h12) | (simp at h12 ⊢; omega) | simp_all
        have z14 : ¬ ((v.length : Int) < (2 : Int)) := by first | omega | simp_all
        rw [if_neg q13] at hF
        have hF := ob hF; obtain ⟨x15, e16, hF⟩ := hF
        have le16 := lt_of_get e16
        simp -dsimp [h1, z3, h5, z7, ↓e11, h12, q13, z14, ↓e16]
        repeat (refine chk.go (by first | omega | assumption | (simp_all; done) | (simp_all; omega)) ?_; try simp -dsimp [h1, z3, h5, z7, ↓e11, h12, q13, z14, ↓e16])
        refine abr.split (fun h17 => ?_) (fun h17 => ?_)
        · have q18 : (x15.size = 0) := by first | exact h17 | omega | (simpa using h17) | (simp at h17 ⊢; omega) | simp_all
          have z19 : ((x15.size : Int) = (0 : Int)) := by first | omega | simp_all
          rw [if_pos q18] at hF
          cases hF
          simp -dsimp [h1, z3, h5, z7, ↓e11, h12, q13, z14, ↓e16, h17, z19]
          repeat (refine chk.go (by first | omega | assumption | (simp_all; done) | (simp_all; omega)) ?_; try simp -dsimp [h1, z3, h5, z7, ↓e11, h12, q13, z14, ↓e16, h17, z19])
        · have q18 : ¬ (x15.size = 0) := by first | exact h17 | omega | (simpa using h17) | (simp at h17 ⊢; omega) | simp_all
          have z19 : ¬ ((x15.size : Int) = (0 : Int)) := by first | omega | simp_all
          rw [if_neg q18] at hF
          simp -dsimp [h1, z3, h5, z7, ↓e11, h12, q13, z14, ↓e16, h17, q18, z19]
          repeat (refine chk.go (by first | omega | assumption | (simp_all; done) | (simp_all; omega)) ?_; try simp -dsimp [h1, z3, h5, z7, ↓e11, h12, q13, z14, ↓e16, h17, q18, z19])
          refine ADraw.simple follows (by kernel_rfl) (by kernel_rfl) ?_
          have hF := oc hF; obtain ⟨c20, hF⟩ := hF
          simp -dsimp [h1, z3, h5, z7, ↓e11, h12, q13, z14, ↓e16, h17, q18, z19]
          repeat (refine chk.go (by first | omega | assumption | (simp_all; done) | (simp_all; omega)) ?_; try simp -dsimp [h1, z3, h5, z7, ↓e11, h12, q13, z14, ↓e16, h17, q18, z19])
          have hF := ob hF; obtain ⟨v21, e22, hF⟩ := hF
          refine ((C.spec_l17Cut B hB1 hB2 (x15.extract 0 ((IntKind.i64.wrap ((x15.size : Int) - 1)).toNat)) (44 : Int) v21 e22)).pgoW (by first | (simp; done) | (simp [h1, z3, h5, z7, ↓e11, h12, q13, z14, ↓e16, h17, q18, z19]; done) | simp_all) (by simp) ?_
          simp -dsimp [h1, z3, h5, z7, ↓e11, h12, q13, z14, ↓e16, h17, q18, z19]
          repeat (refine chk.go (by first | omega | assumption | (simp_all; done) | (simp_all; omega)) ?_; try simp -dsimp [h1, z3, h5, z7, ↓e11, h12, q13, z14, ↓e16, h17, q18, z19])
          have hF := ob hF; obtain ⟨o', ho35, hF⟩ := hF
          refine ALoop.goU ⟨[(0, .arr (List.map cS names)), (4, .ptr 0 0), (5, .ptr 1 0), (7, .arr (List.map cS v21)), (8, .lit (.int .i64 (0 : Int)))], [.cells [.lit (.string ByteArray.empty), .lit (.slice none 0 0), .lit (.int .i64 0)], .cells [.lit (.string x), .own 2 (List.length (α := Vl.Ty) []), .lit (.int .i64 (IntKind.i64.wrap (IntKind.i64.wrap ((byteAt s ((IntKind.i64.wrap ((s.size : Int) - 1)).toNat) : Nat) : Int) - 48)))], .elems 2 (List.map Vl.Ty.c [])]⟩ ((Gh.nilCell 1 1 2 (by simp -dsimp; rfl) (by simp -dsimp)).trans (Gh.to (by simp) (by first | (simp -dsimp; done) | (simp -dsimp [h1, z3, h5, z7, ↓e11, h12, q13, z14, ↓e16, h17, q18, z19]; done) | simp_all) (by first | (simp -dsimp; done) | (simp -dsimp [h1, z3, h5, z7, ↓e11, h12, q13, z14, ↓e16, h17, q18, z19]; done) | simp_all) (by first | (simp -dsimp; done) | (simp -dsimp [h1, z3, h5, z7, ↓e11, h12, q13, z14, ↓e16, h17, q18, z19]; done) | simp_all))) ?_
          refine (C.spec_l1ParseCtor_l1 B hB1 hB2 names s x v21 [] 0 o' ho35) _ rfl _ ?_
          cases hF
          simp -dsimp
          repeat (refine chk.go (by first | omega | assumption | (simp_all; done) | (simp_all; omega)) ?_; try simp -dsimp)
      · have q13 : (v.length < 2) := by first | exact h12 | omega | (simpa using h12) | (simp at h12 ⊢; omega) | simp_all
        have z14 : ((v.length : Int) < (2 : Int)) := by first | omega | simp_all
        rw [if_pos q13] at hF
        cases hF
        simp -dsimp [h1, z3, h5, z7, ↓e11, h12, q13, z14]
        repeat (refine chk.go (by first | omega | assumption | (simp_all; done) | (simp_all; omega)) ?_; try simp -dsimp [h1, z3, h5, z7, ↓e11, h12, q13, z14])
    · have q6 : ¬ (byteAt s ((IntKind.i64.wrap ((s.size : Int) - 2)).toNat) = 58) := by first | exact h5 | omega | (simpa using h5) | (simp at h5 ⊢; omega) | simp_all
      have z7 : ¬ (((byteAt s ((IntKind.i64.wrap ((s.size : Int) - 2)).toNat) : Nat) : Int) = (58 : Int)) := by first | omega | simp_all
      rw [if_neg q6] at hF
      simp -dsimp [h1, z3, h5, q6, z7]
      repeat (refine chk.go (by first | omega | assumption | (simp_all; done) | (simp_all; omega)) ?_; try simp -dsimp [h1, z3, h5, q6, z7])
      have hF := ob hF; obtain ⟨v36, e37, hF⟩ := hF
      refine ((C.spec_l17Cut B hB1 hB2 s (40 : Int) v36 e37)).goW (by first | (simp; done) | (simp [h1, z3, h5, q6, z7]; done) | simp_all) (by simp) ?_
      have hF := ob hF; obtain ⟨x38, e39, hF⟩ := hF
      have le39 := lt_of_get e39
      simp -dsimp [h1, z3, h5, q6, z7, ↓e39]
      repeat (refine chk.go (by first | omega | assumption | (simp_all; done) | (simp_all; omega)) ?_; try simp -dsimp [h1, z3, h5, q6, z7, ↓e39])
      refine abr.split (fun h40 => ?_) (fun h40 => ?_)
      · have q41 : ¬ (v36.length < 2) := by first | exact h40 | omega | (simpa using h40) | (simp at h40 ⊢; omega) | simp_all
        have z42 : ¬ ((v36.length : Int) < (2 : Int)) := by first | omega | simp_all
        rw [if_neg q41] at hF
        have hF := ob hF; obtain ⟨x43, e44, hF⟩ := hF
        have le44 := lt_of_get e44
        simp -dsimp [h1, z3, h5, q6, z7, ↓e39, h40, q41, z42, ↓e44]
        repeat (refine chk.go (by first | omega | assumption | (simp_all; done) | (simp_all; omega)) ?_; try simp -dsimp [h1, z3, h5, q6, z7, ↓e39, h40, q41, z42, ↓e44])
        refine abr.split (fun h45 => ?_) (fun h45 => ?_)
        · have q46 : (x43.size = 0) := by first | exact h45 | omega | (simpa using h45) | (simp at h45 ⊢; omega) | simp_all
          have z47 : ((x43.size : Int) = (0 : Int)) := by first | omega | simp_all
          rw [if_pos q46] at hF
          cases hF
          simp -dsimp [h1, z3, h5, q6, z7, ↓e39, h40, q41, z42, ↓e44, h45, z47]
          repeat (refine chk.go (by first | omega | assumption | (simp_all; done) | (simp_all; omega)) ?_; try simp -dsimp [h1, z3, h5, q6, z7, ↓e39, h40, q41, z42, ↓e44, h45, z47])
        · have q46 : ¬ (x43.size = 0) := by first | exact h45 | omega | (simpa using h45) | (simp at h45 ⊢; omega) | simp_all
          have z47 : ¬ ((x43.size : Int) = (0 : Int)) := by first | omega | simp_all
          rw [if_neg q46] at hF
          simp -dsimp [h1, z3, h5, q6, z7, ↓e39, h40, q41, z42, ↓e44, h45, q46, z47]
          repeat (refine chk.go (by first | omega | assumption | (simp_all; done) | (simp_all; omega)) ?_; try simp -dsimp [h1, z3, h5, q6, z7, ↓e39, h40, q41, z42, ↓e44, h45, q46, z47])
          refine ADraw.simple follows (by kernel_rfl) (by kernel_rfl) ?_
          have hF := oc hF; obtain ⟨c48, hF⟩ := hF
          simp -dsimp [h1, z3, h5, q6, z7, ↓e39, h40, q41, z42, ↓e44, h45, q46, z47]
          repeat (refine chk.go (by first | omega | assumption | (simp_all; done) | (simp_all; omega)) ?_; try simp -dsimp [h1, z3, h5, q6, z7, ↓e39, h40, q41, z42, ↓e44, h45, q46, z47])
          have hF := ob hF; obtain ⟨v49, e50, hF⟩ := hF
          refine ((C.spec_l17Cut B hB1 hB2 (x43.extract 0 ((IntKind.i64.wrap ((x43.size : Int) - 1)).toNat)) (44 : Int) v49 e50)).pgoW (by first | (simp; done) | (simp [h1, z3, h5, q6, z7, ↓e39, h40, q41, z42, ↓e44, h45, q46, z47]; done) | simp_all) (by simp) ?_
          simp -dsimp [h1, z3, h5, q6, z7, ↓e39, h40, q41, z42, ↓e44, h45, q46, z47]
          repeat (refine chk.go (by first | omega | assumption | (simp_all; done) | (simp_all; omega)) ?_; try simp -dsimp [h1, z3, h5, q6, z7, ↓e39, h40, q41, z42, ↓e44, h45, q46, z47])
          have hF := ob hF; obtain ⟨o'66, ho65, hF⟩ := hF
          refine ALoop.goU ⟨[(0, .arr (List.map cS names)), (4, .ptr 0 0), (5, .ptr 1 0), (7, .arr (List.map cS v49)), (8, .lit (.int .i64 (0 : Int)))], [.cells [.lit (.string ByteArray.empty), .lit (.slice none 0 0), .lit (.int .i64 0)], .cells [.lit (.string x38), .own 2 (List.length (α := Vl.Ty) []), .lit (.int .i64 0)], .elems 2 (List.map Vl.Ty.c [])]⟩ ((Gh.nilCell 1 1 2 (by simp -dsimp; rfl) (by simp -dsimp)).trans (Gh.to (by simp) (by first | (simp -dsimp; done) | (simp -dsimp [h1, z3, h5, q6, z7, ↓e39, h40, q41, z42, ↓e44, h45, q46, z47]; done) | simp_all) (by first | (simp -dsimp; done) | (simp -dsimp [h1, z3, h5, q6, z7, ↓e39, h40, q41, z42, ↓e44, h45, q46, z47]; done) | simp_all) (by first | (simp -dsimp; done) | (simp -dsimp [h1, z3, h5, q6, z7, ↓e39, h40, q41, z42, ↓e44, h45, q46, z47]; done) | simp_all))) ?_
          refine (C.spec_l1ParseCtor_l2 B hB1 hB2 names x38 v49 [] 0 o'66 ho65) _ rfl _ ?_
          cases hF
          simp -dsimp
          repeat (refine chk.go (by first | omega | assumption | (simp_all; done) | (simp_all; omega)) ?_; try simp -dsimp)
      · have q41 : (v36.length < 2) := by first | exact h40 | omega | (simpa using h40) | (simp at h40 ⊢; omega) | simp_all
        have z42 : ((v36.length : Int) < (2 : Int)) := by first | omega | simp_all
        rw [if_pos q41] at hF
        cases hF
        simp -dsimp [h1, z3, h5, q6, z7, ↓e39, h40, q41, z42]
        repeat (refine chk.go (by first | omega | assumption | (simp_all; done) | (simp_all; omega)) ?_; try simp -dsimp [h1, z3, h5, q6, z7, ↓e39, h40, q41, z42])
  · have q2 : ¬ (2 < s.size) := by first | exact h1 | omega | (simpa using h1) | (simp at h1 ⊢; omega) | simp_all
    have z3 : ¬ ((2 : Int) < (s.size : Int)) := by first | omega | simp_all
    rw [if_neg q2] at hF
    simp -dsimp [h1, q2, z3]
    repeat (refine chk.go (by first | omega | assumption | (simp_all; done) | (simp_all; omega)) ?_; try simp -dsimp [h1, q2, z3])
    have hF := ob hF; obtain ⟨v67, e68, hF⟩ := hF
    refine ((C.spec_l17Cut B hB1 hB2 s (40 : Int) v67 e68)).goW (by first | (simp; done) | (simp [h1, q2, z3]; done) | simp_all) (by simp) ?_
    have hF := ob hF; obtain ⟨x69, e70, hF⟩ := hF
    have le70 := lt_of_get e70
    simp -dsimp [h1, q2, z3, ↓e70]
    repeat (refine chk.go (by first | omega | assumption | (simp_all; done) | (simp_all; omega)) ?_; try simp -dsimp [h1, q2, z3, ↓e70])
    refine abr.split (fun h71 => ?_) (fun h71 => ?_)
    · have q72 : ¬ (v67.length < 2) := by first | exact h71 | omega | (simpa using h71) | (simp at h71 ⊢; omega) | simp_all
      have z73 : ¬ ((v67.length : Int) < (2 : Int)) := by first | omega | simp_all
      rw [if_neg q72] at hF
      have hF := ob hF; obtain ⟨x74, e75, hF⟩ := hF
      have le75 := lt_of_get e75
      simp -dsimp [h1, q2, z3, ↓e70, h71, q72, z73, ↓e75]
      repeat (refine chk.go (by first | omega | assumption | (simp_all; done) | (simp_all; omega)) ?_; try simp -dsimp [h1, q2, z3, ↓e70, h71, q72, z73, ↓e75])
      refine abr.split (fun h76 => ?_) (fun h76 => ?_)
      · have q77 : (x74.size = 0) := by first | exact h76 | omega | (simpa using h76) | (simp at h76 ⊢; omega) | simp_all
        have z78 : ((x74.size : Int) = (0 : Int)) := by first | omega | simp_all
        rw [if_pos q77] at hF
        cases hF
        simp -dsimp [h1, q2, z3, ↓e70, h71, q72, z73, ↓e75, h76, z78]
        repeat (refine chk.go (by first | omega | assumption | (simp_all; done) | (simp_all; omega)) ?_; try simp -dsimp [h1, q2, z3, ↓e70, h71, q72, z73, ↓e75, h76, z78])
      · have q77 : ¬ (x74.size = 0) := by first | exact h76 | omega | (simpa using h76) | (simp at h76 ⊢; omega) | simp_all
        have z78 : ¬ ((x74.size : Int) = (0 : Int)) := by first | omega | simp_all
        rw [if_neg q77] at hF
        simp -dsimp [h1, q2, z3, ↓e70, h71, q72, z73, ↓e75, h76, q77, z78]
        repeat (refine chk.go (by first | omega | assumption | (simp_all; done) | (simp_all; omega)) ?_; try simp -dsimp [h1, q2, z3, ↓e70, h71, q72, z73, ↓e75, h76, q77, z78])
        refine ADraw.simple follows (by kernel_rfl) (by kernel_rfl) ?_
        have hF := oc hF; obtain ⟨c79, hF⟩ := hF
        simp -dsimp [h1, q2, z3, ↓e70, h71, q72, z73, ↓e75, h76, q77, z78]
        repeat (refine chk.go (by first | omega | assumption | (simp_all; done) | (simp_all; omega)) ?_; try simp -dsimp [h1, q2, z3, ↓e70, h71, q72, z73, ↓e75, h76, q77, z78])
        have hF := ob hF; obtain ⟨v80, e81, hF⟩ := hF
        refine ((C.spec_l17Cut B hB1 hB2 (x74.extract 0 ((IntKind.i64.wrap ((x74.size : Int) - 1)).toNat)) (44 : Int) v80 e81)).pgoW (by first | (simp; done) | (simp [h1, q2, z3, ↓e70, h71, q72, z73, ↓e75, h76, q77, z78]; done) | simp_all) (by simp) ?_
        simp -dsimp [h1, q2, z3, ↓e70, h71, q72, z73, ↓e75, h76, q77, z78]
        repeat (refine chk.go (by first | omega | assumption | (simp_all; done) | (simp_all; omega)) ?_; try simp -dsimp [h1, q2, z3, ↓e70, h71, q72, z73, ↓e75, h76, q77, z78])
        have hF := ob hF; obtain ⟨o'97, ho96, hF⟩ := hF
        refine ALoop.goU ⟨[(0, .arr (List.map cS names)), (4, .ptr 0 0), (5, .ptr 1 0), (7, .arr (List.map cS v80)), (8, .lit (.int .i64 (0 : Int)))], [.cells [.lit (.string ByteArray.empty), .lit (.slice none 0 0), .lit (.int .i64 0)], .cells [.lit (.string x69), .own 2 (List.length (α := Vl.Ty) []), .lit (.int .i64 0)], .elems 2 (List.map Vl.Ty.c [])]⟩ ((Gh.nilCell 1 1 2 (by simp -dsimp; rfl) (by simp -dsimp)).trans (Gh.to (by simp) (by first | (simp -dsimp; done) | (simp -dsimp [h1, q2, z3, ↓e70, h71, q72, z73, ↓e75, h76, q77, z78]; done) | simp_all) (by first | (simp -dsimp; done) | (simp -dsimp [h1, q2, z3, ↓e70, h71, q72, z73, ↓e75, h76, q77, z78]; done) | simp_all) (by first | (simp -dsimp; done) | (simp -dsimp [h1, q2, z3, ↓e70, h71, q72, z73, ↓e75, h76, q77, z78]; done) | simp_all))) ?_
        refine (C.spec_l1ParseCtor_l3 B hB1 hB2 names x69 v80 [] 0 o'97 ho96) _ rfl _ ?_
        cases hF
        simp -dsimp
        repeat (refine chk.go (by first | omega | assumption | (simp_all; done) | (simp_all; omega)) ?_; try simp -dsimp)
    · have q72 : (v67.length < 2) := by first | exact h71 | omega | (simpa using h71) | (simp at h71 ⊢; omega) | simp_all
      have z73 : ((v67.length : Int) < (2 : Int)) := by first | omega | simp_all
      rw [if_pos q72] at hF
      cases hF
      simp -dsimp [h1, q2, z3, ↓e70, h71, q72, z73]
      repeat (refine chk.go (by first | omega | assumption | (simp_all; done) | (simp_all; omega)) ?_; try simp -dsimp [h1, q2, z3, ↓e70, h71, q72, z73])

set_option maxRecDepth 100000 in
set_option maxHeartbeats 400000 in
theorem C.spec_l1Big (B : Nat) (hB1 : 67108864 ≤ B) (hB2 : B ≤ 9223372036854775807) (c' : Int) (r : Bool) (hF : F.spec_l1Big c' = some r) : PureCall Try.prog B 108 [.lit (.int .u8 c')] (.lit (.bool r)) := by
  unfold F.spec_l1Big at hF
  refine PureCall.enterLe Try.func108 (by kernel_rfl) rfl Try.ntmps108 (by simp) (by simp) ?_
  simp -dsimp
  repeat (refine chk.go (by first | omega | assumption | (simp_all; done) | (simp_all; omega)) ?_; try simp -dsimp)
  refine abr.split (fun h1 => ?_) (fun h1 => ?_)
  · have q2 : (65 ≤ c') := by first | exact h1 | omega | (simpa using h1) | (simp at h1 ⊢; omega) | simp_all
    rw [if_pos q2] at hF
    cases hF
    simp -dsimp [h1]
    repeat (refine chk.go (by first | omega | assumption | (simp_all; done) | (simp_all; omega)) ?_; try simp -dsimp [h1])
  · have q2 : ¬ (65 ≤ c') := by first | exact h1 | omega | (simpa using h1) | (simp at h1 ⊢; omega) | simp_all
    rw [if_neg q2] at hF
    cases hF
    simp -dsimp [h1, q2]
    repeat (refine chk.go (by first | omega | assumption | (simp_all; done) | (simp_all; omega)) ?_; try simp -dsimp [h1, q2])

set_option maxRecDepth 100000 in
set_option maxHeartbeats 400000 in
theorem C.spec_l1Data (B : Nat) (hB1 : 67108864 ≤ B) (hB2 : B ≤ 9223372036854775807) (s : ByteArray) (r : Bool) (hF : F.spec_l1Data s = some r) : PureCall Try.prog B 90 [.lit (.string s)] (.lit (.bool r)) := by
  unfold F.spec_l1Data at hF
  refine PureCall.enterLe Try.func90 (by kernel_rfl) rfl Try.ntmps90 (by simp) (by simp) ?_
  simp -dsimp
  repeat (refine chk.go (by first | omega | assumption | (simp_all; done) | (simp_all; omega)) ?_; try simp -dsimp)
  refine abr.split (fun h1 => ?_) (fun h1 => ?_)
  · have q2 : (s.size = 1) := by first | exact h1 | omega | (simpa using h1) | (simp at h1 ⊢; omega) | simp_all
    have z3 : ((s.size : Int) = (1 : Int)) := by first | omega | simp_all
    rw [if_pos q2] at hF
    have hF := oc hF; obtain ⟨c4, hF⟩ := hF
    simp -dsimp [h1, z3]
    repeat (refine chk.go (by first | omega | assumption | (simp_all; done) | (simp_all; omega)) ?_; try simp -dsimp [h1, z3])
    have hF := ob hF; obtain ⟨v, e5, hF⟩ := hF
    refine ((C.spec_l1Big B hB1 hB2 ((byteAt s 0 : Nat) : Int) v e5)).goW (by first | (simp; done) | (simp [h1, z3]; done) | simp_all) (by simp) ?_
    simp -dsimp [h1, z3]
    repeat (refine chk.go (by first | omega | assumption | (simp_all; done) | (simp_all; omega)) ?_; try simp -dsimp [h1, z3])
    refine abr.split (fun h6 => ?_) (fun h6 => ?_)
    · have q7 : (v = true) := by first | exact h6 | omega | (simpa using h6) | (simp at h6 ⊢; omega) | simp_all
      rw [if_pos q7] at hF
      cases hF
      simp -dsimp [h1, z3, h6]
      repeat (refine chk.go (by first | omega | assumption | (simp_all; done) | (simp_all; omega)) ?_; try simp -dsimp [h1, z3, h6])
    · have q7 : ¬ (v = true) := by first | exact h6 | omega | (simpa using h6) | (simp at h6 ⊢; omega) | simp_all
      rw [if_neg q7] at hF
      cases hF
      simp -dsimp [h1, z3, h6, q7]
      repeat (refine chk.go (by first | omega | assumption | (simp_all; done) | (simp_all; omega)) ?_; try simp -dsimp [h1, z3, h6, q7])
  · have q2 : ¬ (s.size = 1) := by first | exact h1 | omega | (simpa using h1) | (simp at h1 ⊢; omega) | simp_all
    have z3 : ¬ ((s.size : Int) = (1 : Int)) := by first | omega | simp_all
    rw [if_neg q2] at hF
    cases hF
    simp -dsimp [h1, q2, z3]
    repeat (refine chk.go (by first | omega | assumption | (simp_all; done) | (simp_all; omega)) ?_; try simp -dsimp [h1, q2, z3])

set_option maxRecDepth 100000 in
set_option maxHeartbeats 400000 in
theorem CC.spec_NameValid_l1 (B : Nat) (hB1 : 67108864 ≤ B) (hB2 : B ≤ 9223372036854775807) (s : ByteArray) : (∀ (i : Nat) (o : Lo Bool Unit), F.spec_NameValid_l1 s i = some o → ∀ (c : Code), navO [1, 1, 0, 1, 0, 0] (bodyOf Try.f109) = some c → ∀ (Q : Exit → ASt → Prop), o.post (fun r => ∀ st, Post Try.prog Try.f109 (fun r' _ => r'.le (.lit (.bool r))) .ret st → Q .ret st) (fun s => Q (.exit 0) ⟨[], []⟩) → ALoopU Try.prog B 0 34 (hold c .mk) ⟨[(0, .lit (.string s)), (3, .lit (.int .i64 (i : Int)))], []⟩ (hold Q .mk)) := by
  refine F.spec_NameValid_l1.partial_correctness s
    (fun i o => ∀ (c : Code), navO [1, 1, 0, 1, 0, 0] (bodyOf Try.f109) = some c → ∀ (Q : Exit → ASt → Prop), o.post (fun r => ∀ st, Post Try.prog Try.f109 (fun r' _ => r'.le (.lit (.bool r))) .ret st → Q .ret st) (fun s => Q (.exit 0) ⟨[], []⟩) → ALoopU Try.prog B 0 34 (hold c .mk) ⟨[(0, .lit (.string s)), (3, .lit (.int .i64 (i : Int)))], []⟩ (hold Q .mk))
    ?_
  · intro _f_spec_NameValid_l1 ih_spec_NameValid_l1 i o hF
    intro c hc Q hq
    obtain rfl : c = _ := navEq hc rfl
    refine ALoopU.know fun hk hs => ?_
    clear hk hs
    refine ALoopU.enter ?_
    simp -dsimp
    repeat (refine chk.go (by first | omega | assumption | (simp_all; done) | (simp_all; omega)) ?_; try simp -dsimp)
    refine abr.split (fun h11 => ?_) (fun h11 => ?_)
    · have q12 : (i < s.size) := by first | exact h11 | omega | (simpa using h11) | (simp at h11 ⊢; omega) | simp_all
      have z13 : ((i : Int) < (s.size : Int)) := by first | omega | simp_all
      rw [if_pos q12] at hF
      simp -dsimp [h11, z13]
      repeat (refine chk.go (by first | omega | assumption | (simp_all; done) | (simp_all; omega)) ?_; try simp -dsimp [h11, z13])
      refine abr.split (fun h14 => ?_) (fun h14 => ?_)
      · have q15 : ¬ (byteAt s i < 97) := by first | exact h14 | omega | (simpa using h14) | (simp at h14 ⊢; omega) | simp_all
        have z16 : ¬ (((byteAt s i : Nat) : Int) < (97 : Int)) := by first | omega | simp_all
        rw [if_neg q15] at hF
        simp -dsimp [h11, z13, h14, q15, z16]
        repeat (refine chk.go (by first | omega | assumption | (simp_all; done) | (simp_all; omega)) ?_; try simp -dsimp [h11, z13, h14, q15, z16])
        refine abr.split (fun h17 => ?_) (fun h17 => ?_)
        · have q18 : (122 < byteAt s i) := by first | exact h17 | omega | (simpa using h17) | (simp at h17 ⊢; omega) | simp_all
          have z19 : ((122 : Int) < ((byteAt s i : Nat) : Int)) := by first | omega | simp_all
          rw [if_pos q18] at hF
          cases hF
          simp -dsimp [h11, z13, h14, q15, z16, h17, z19]
          repeat (refine chk.go (by first | omega | assumption | (simp_all; done) | (simp_all; omega)) ?_; try simp -dsimp [h11, z13, h14, q15, z16, h17, z19])
          refine Leave.go _ (Gh.refl _) (hq _ ?_)
          simp -dsimp [h11, z13, h14, q15, z16, h17, z19]
          repeat (refine chk.go (by first | omega | assumption | (simp_all; done) | (simp_all; omega)) ?_; try simp -dsimp [h11, z13, h14, q15, z16, h17, z19])
        · have q18 : ¬ (122 < byteAt s i) := by first | exact h17 | omega | (simpa using h17) | (simp at h17 ⊢; omega) | simp_all
          have z19 : ¬ ((122 : Int) < ((byteAt s i : Nat) : Int)) := by first | omega | simp_all
          rw [if_neg q18] at hF
          have hF := oc hF; obtain ⟨c20, hF⟩ := hF
          have w21 : IntKind.i64.wrap ((i : Int) + 1) = (i : Int) + 1 := wrap_in (by omega) (by omega)
          simp -dsimp [h11, z13, h14, q15, z16, h17, q18, z19, w21]
          repeat (refine chk.go (by first | omega | assumption | (simp_all; done) | (simp_all; omega)) ?_; try simp -dsimp [h11, z13, h14, q15, z16, h17, q18, z19, w21])
          refine Again.go ⟨[(0, .lit (.string s)), (3, .lit (.int .i64 ((i + 1) : Int)))], []⟩ (Gh.to (by simp) (by first | (simp -dsimp; done) | (simp -dsimp [h11, z13, h14, q15, z16, h17, q18, z19, w21]; done) | simp_all) (by first | (simp -dsimp; done) | (simp -dsimp [h11, z13, h14, q15, z16, h17, q18, z19, w21]; done) | simp_all) (by first | (simp -dsimp; done) | (simp -dsimp [h11, z13, h14, q15, z16, h17, q18, z19, w21]; done) | simp_all)) ?_
          exact (ih_spec_NameValid_l1 (i + 1) o hF) _ rfl _ hq
      · have q15 : (byteAt s i < 97) := by first | exact h14 | omega | (simpa using h14) | (simp at h14 ⊢; omega) | simp_all
        have z16 : (((byteAt s i : Nat) : Int) < (97 : Int)) := by first | omega | simp_all
        rw [if_pos q15] at hF
        cases hF
        simp -dsimp [h11, z13, h14, q15, z16]
        repeat (refine chk.go (by first | omega | assumption | (simp_all; done) | (simp_all; omega)) ?_; try simp -dsimp [h11, z13, h14, q15, z16])
        refine Leave.go _ (Gh.refl _) (hq _ ?_)
        simp -dsimp [h11, z13, h14, q15, z16]
        repeat (refine chk.go (by first | omega | assumption | (simp_all; done) | (simp_all; omega)) ?_; try simp -dsimp [h11, z13, h14, q15, z16])
    · have q12 : ¬ (i < s.size) := by first | exact h11 | omega | (simpa using h11) | (simp at h11 ⊢; omega) | simp_all
      have z13 : ¬ ((i : Int) < (s.size : Int)) := by first | omega | simp_all
      rw [if_neg q12] at hF
      cases hF
      simp -dsimp [h11, q12, z13]
      repeat (refine chk.go (by first | omega | assumption | (simp_all; done) | (simp_all; omega)) ?_; try simp -dsimp [h11, q12, z13])
      refine Leave.go ⟨[], []⟩ (Gh.to (by simp) (by first | (simp -dsimp; done) | (simp -dsimp [h11, q12, z13]; done) | simp_all) (by first | (simp -dsimp; done) | (simp -dsimp [h11, q12, z13]; done) | simp_all) (by first | (simp -dsimp; done) | (simp -dsimp [h11, q12, z13]; done) | simp_all)) ?_
      exact hq

theorem C.spec_NameValid_l1 (B : Nat) (hB1 : 67108864 ≤ B) (hB2 : B ≤ 9223372036854775807) (s : ByteArray) (i : Nat) (o : Lo Bool Unit) (hF : F.spec_NameValid_l1 s i = some o) : ∀ (c : Code), navO [1, 1, 0, 1, 0, 0] (bodyOf Try.f109) = some c → ∀ (Q : Exit → ASt → Prop), o.post (fun r => ∀ st, Post Try.prog Try.f109 (fun r' _ => r'.le (.lit (.bool r))) .ret st → Q .ret st) (fun s => Q (.exit 0) ⟨[], []⟩) → ALoopU Try.prog B 0 34 (hold c .mk) ⟨[(0, .lit (.string s)), (3, .lit (.int .i64 (i : Int)))], []⟩ (hold Q .mk) :=
  (CC.spec_NameValid_l1 B hB1 hB2 s) i o hF

set_option maxRecDepth 100000 in
set_option maxHeartbeats 400000 in
theorem C.spec_NameValid (B : Nat) (hB1 : 67108864 ≤ B) (hB2 : B ≤ 9223372036854775807) (s : ByteArray) (r : Bool) (hF : F.spec_NameValid s = some r) : PureCall Try.prog B 109 [.lit (.string s)] (.lit (.bool r)) := by
  unfold F.spec_NameValid at hF
  refine PureCall.enterLe Try.func109 (by kernel_rfl) rfl Try.ntmps109 (by simp) (by simp) ?_
  simp -dsimp
  repeat (refine chk.go (by first | omega | assumption | (simp_all; done) | (simp_all; omega)) ?_; try simp -dsimp)
  refine abr.split (fun h1 => ?_) (fun h1 => ?_)
  · have q2 : ¬ (s.size = 0) := by first | exact h1 | omega | (simpa using h1) | (simp at h1 ⊢; omega) | simp_all
    have z3 : ¬ ((s.size : Int) = (0 : Int)) := by first | omega | simp_all
    rw [if_neg q2] at hF
    simp -dsimp [h1, q2, z3]
    repeat (refine chk.go (by first | omega | assumption | (simp_all; done) | (simp_all; omega)) ?_; try simp -dsimp [h1, q2, z3])
    refine abr.split (fun h4 => ?_) (fun h4 => ?_)
    · have q5 : ¬ (5 < s.size) := by first | exact h4 | omega | (simpa using h4) | (simp at h4 ⊢; omega) | simp_all
      have z6 : ¬ ((5 : Int) < (s.size : Int)) := by first | omega | simp_all
      rw [if_neg q5] at hF
      have hF := oc hF; obtain ⟨c7, hF⟩ := hF
      simp -dsimp [h1, q2, z3, h4, q5, z6]
      repeat (refine chk.go (by first | omega | assumption | (simp_all; done) | (simp_all; omega)) ?_; try simp -dsimp [h1, q2, z3, h4, q5, z6])
      have hF := ob hF; obtain ⟨v, e8, hF⟩ := hF
      refine ((C.spec_l1Big B hB1 hB2 ((byteAt s 0 : Nat) : Int) v e8)).goW (by first | (simp; done) | (simp [h1, q2, z3, h4, q5, z6]; done) | simp_all) (by simp) ?_
      simp -dsimp [h1, q2, z3, h4, q5, z6]
      repeat (refine chk.go (by first | omega | assumption | (simp_all; done) | (simp_all; omega)) ?_; try simp -dsimp [h1, q2, z3, h4, q5, z6])
      refine abr.split (fun h9 => ?_) (fun h9 => ?_)
      · have q10 : ¬ (v = true) := by first | exact h9 | omega | (simpa using h9) | (simp at h9 ⊢; omega) | simp_all
        rw [if_neg q10] at hF
        cases hF
        simp -dsimp [h1, q2, z3, h4, q5, z6, h9, q10]
        repeat (refine chk.go (by first | omega | assumption | (simp_all; done) | (simp_all; omega)) ?_; try simp -dsimp [h1, q2, z3, h4, q5, z6, h9, q10])
      · have q10 : (v = true) := by first | exact h9 | omega | (simpa using h9) | (simp at h9 ⊢; omega) | simp_all
        rw [if_pos q10] at hF
        simp -dsimp [h1, q2, z3, h4, q5, z6, h9, q10]
        repeat (refine chk.go (by first | omega | assumption | (simp_all; done) | (simp_all; omega)) ?_; try simp -dsimp [h1, q2, z3, h4, q5, z6, h9, q10])
        have hF := ob hF; obtain ⟨o', ho22, hF⟩ := hF
        refine ALoop.goU ⟨[(0, .lit (.string s)), (3, .lit (.int .i64 (1 : Int)))], []⟩ (Gh.to (by simp) (by first | (simp -dsimp; done) | (simp -dsimp [h1, q2, z3, h4, q5, z6, h9, q10]; done) | simp_all) (by first | (simp -dsimp; done) | (simp -dsimp [h1, q2, z3, h4, q5, z6, h9, q10]; done) | simp_all) (by first | (simp -dsimp; done) | (simp -dsimp [h1, q2, z3, h4, q5, z6, h9, q10]; done) | simp_all)) ?_
        refine (C.spec_NameValid_l1 B hB1 hB2 s 1 o' ho22) _ rfl _ ?_
        rcases o' with r0 | s23
        · dsimp only at hF
          cases hF
          intro st h
          simpa using h
        · dsimp only at hF
          cases hF
          simp -dsimp
          repeat (refine chk.go (by first | omega | assumption | (simp_all; done) | (simp_all; omega)) ?_; try simp -dsimp)
    · have q5 : (5 < s.size) := by first | exact h4 | omega | (simpa using h4) | (simp at h4 ⊢; omega) | simp_all
      have z6 : ((5 : Int) < (s.size : Int)) := by first | omega | simp_all
      rw [if_pos q5] at hF
      cases hF
      simp -dsimp [h1, q2, z3, h4, q5, z6]
      repeat (refine chk.go (by first | omega | assumption | (simp_all; done) | (simp_all; omega)) ?_; try simp -dsimp [h1, q2, z3, h4, q5, z6])
  · have q2 : (s.size = 0) := by first | exact h1 | omega | (simpa using h1) | (simp at h1 ⊢; omega) | simp_all
    have z3 : ((s.size : Int) = (0 : Int)) := by first | omega | simp_all
    rw [if_pos q2] at hF
    cases hF
    simp -dsimp [h1, q2, z3]
    repeat (refine chk.go (by first | omega | assumption | (simp_all; done) | (simp_all; omega)) ?_; try simp -dsimp [h1, q2, z3])

set_option maxRecDepth 100000 in
set_option maxHeartbeats 400000 in
theorem C.spec_l1Arg (B : Nat) (hB1 : 67108864 ≤ B) (hB2 : B ≤ 9223372036854775807) (n : Int) (t : Vl.Ty) (r : Bool) (hF : F.spec_l1Arg n t = some r) : PureCall Try.prog B 93 [.lit (.int .i64 n), .agg [.lit (.int .i64 t.data), .lit (.int .i64 t.index)]] (.lit (.bool r)) := by
  unfold F.spec_l1Arg at hF
  refine PureCall.enterLe Try.func93 (by kernel_rfl) rfl Try.ntmps93 (by simp) (by simp) ?_
  simp -dsimp
  repeat (refine chk.go (by first | omega | assumption | (simp_all; done) | (simp_all; omega)) ?_; try simp -dsimp)
  refine abr.split (fun h1 => ?_) (fun h1 => ?_)
  · have q2 : (t.data = (-1)) := by first | exact h1 | omega | (simpa using h1) | (simp at h1 ⊢; omega) | simp_all
    rw [if_pos q2] at hF
    cases hF
    simp -dsimp [h1]
    repeat (refine chk.go (by first | omega | assumption | (simp_all; done) | (simp_all; omega)) ?_; try simp -dsimp [h1])
  · have q2 : ¬ (t.data = (-1)) := by first | exact h1 | omega | (simpa using h1) | (simp at h1 ⊢; omega) | simp_all
    rw [if_neg q2] at hF
    simp -dsimp [h1, q2]
    repeat (refine chk.go (by first | omega | assumption | (simp_all; done) | (simp_all; omega)) ?_; try simp -dsimp [h1, q2])
    refine abr.split (fun h3 => ?_) (fun h3 => ?_)
    · have q4 : (0 ≤ t.data) := by first | exact h3 | omega | (simpa using h3) | (simp at h3 ⊢; omega) | simp_all
      rw [if_pos q4] at hF
      simp -dsimp [h1, q2, h3]
      repeat (refine chk.go (by first | omega | assumption | (simp_all; done) | (simp_all; omega)) ?_; try simp -dsimp [h1, q2, h3])
      refine abr.split (fun h5 => ?_) (fun h5 => ?_)
      · have q6 : (t.data < n) := by first | exact h5 | omega | (simpa using h5) | (simp at h5 ⊢; omega) | simp_all
        rw [if_pos q6] at hF
        simp -dsimp [h1, q2, h3, h5]
        repeat (refine chk.go (by first | omega | assumption | (simp_all; done) | (simp_all; omega)) ?_; try simp -dsimp [h1, q2, h3, h5])
        refine abr.split (fun h7 => ?_) (fun h7 => ?_)
        · have q8 : ((-1) ≤ t.index) := by first | exact h7 | omega | (simpa using h7) | (simp at h7 ⊢; omega) | simp_all
          rw [if_pos q8] at hF
          cases hF
          simp -dsimp [h1, q2, h3, h5, h7]
          repeat (refine chk.go (by first | omega | assumption | (simp_all; done) | (simp_all; omega)) ?_; try simp -dsimp [h1, q2, h3, h5, h7])
        · have q8 : ¬ ((-1) ≤ t.index) := by first | exact h7 | omega | (simpa using h7) | (simp at h7 ⊢; omega) | simp_all
          rw [if_neg q8] at hF
          cases hF
          simp -dsimp [h1, q2, h3, h5, h7, q8]
          repeat (refine chk.go (by first | omega | assumption | (simp_all; done) | (simp_all; omega)) ?_; try simp -dsimp [h1, q2, h3, h5, h7, q8])
      · have q6 : ¬ (t.data < n) := by first | exact h5 | omega | (simpa using h5) | (simp at h5 ⊢; omega) | simp_all
        rw [if_neg q6] at hF
        cases hF
        simp -dsimp [h1, q2, h3, h5, q6]
        repeat (refine chk.go (by first | omega | assumption | (simp_all; done) | (simp_all; omega)) ?_; try simp -dsimp [h1, q2, h3, h5, q6])
    · have q4 : ¬ (0 ≤ t.data) := by first | exact h3 | omega | (simpa using h3) | (simp at h3 ⊢; omega) | simp_all
      rw [if_neg q4] at hF
      cases hF
      simp -dsimp [h1, q2, h3, q4]
      repeat (refine chk.go (by first | omega | assumption | (simp_all; done) | (simp_all; omega)) ?_; try simp -dsimp [h1, q2, h3, q4])

set_option maxRecDepth 100000 in
set_option maxHeartbeats 400000 in
theorem CC.spec_l1Ctor_l1 (B : Nat) (hB1 : 67108864 ≤ B) (hB2 : B ≤ 9223372036854775807) (n : Int) (c' : Vl.Ctor) : (∀ (i : Nat) (o : Lo Bool Unit), F.spec_l1Ctor_l1 n c' i = some o → ∀ (c : Code), navO [1, 1, 0, 1, 0, 0] (bodyOf Try.f91) = some c → ∀ (Q : Exit → ASt → Prop), o.post (fun r => ∀ st, Post Try.prog Try.f91 (fun r' _ => r'.le (.lit (.bool r))) .ret st → Q .ret st) (fun s => Q (.exit 0) ⟨[], []⟩) → ALoopU Try.prog B 0 41 (hold c .mk) ⟨[(0, .lit (.int .i64 n)), (3, .ptr 0 0), (5, .lit (.int .i64 (i : Int)))], [.cells [.lit (.string c'.name), .arr (List.map Vl.Ty.c c'.args), .lit (.int .i64 c'.index)]]⟩ (hold Q .mk)) := by
  refine F.spec_l1Ctor_l1.partial_correctness n c'
    (fun i o => ∀ (c : Code), navO [1, 1, 0, 1, 0, 0] (bodyOf Try.f91) = some c → ∀ (Q : Exit → ASt → Prop), o.post (fun r => ∀ st, Post Try.prog Try.f91 (fun r' _ => r'.le (.lit (.bool r))) .ret st → Q .ret st) (fun s => Q (.exit 0) ⟨[], []⟩) → ALoopU Try.prog B 0 41 (hold c .mk) ⟨[(0, .lit (.int .i64 n)), (3, .ptr 0 0), (5, .lit (.int .i64 (i : Int)))], [.cells [.lit (.string c'.name), .arr (List.map Vl.Ty.c c'.args), .lit (.int .i64 c'.index)]]⟩ (hold Q .mk))
    ?_
  · intro _f_spec_l1Ctor_l1 ih_spec_l1Ctor_l1 i o hF
    intro c hc Q hq
    obtain rfl : c = _ := navEq hc rfl
    refine ALoopU.know fun hk hs => ?_
    have d0 := hs 0 _ rfl
    simp -dsimp [Blk.bnd] at d0
    clear hk hs
    refine ALoopU.enter ?_
    simp -dsimp
    repeat (refine chk.go (by first | omega | assumption | (simp_all; done) | (simp_all; omega)) ?_; try simp -dsimp)
    refine abr.split (fun h11 => ?_) (fun h11 => ?_)
    · have q12 : (i < c'.args.length) := by first | exact h11 | omega | (simpa using h11) | (simp at h11 ⊢; omega) | simp_all
      have z13 : ((i : Int) < (c'.args.length : Int)) := by first | omega | simp_all
      rw [if_pos q12] at hF
      have hF := ob hF; obtain ⟨x, e14, hF⟩ := hF
      have le14 := lt_of_get e14
      simp -dsimp [h11, z13, ↓e14]
      repeat (refine chk.go (by first | omega | assumption | (simp_all; done) | (simp_all; omega)) ?_; try simp -dsimp [h11, z13, ↓e14])
      have hF := ob hF; obtain ⟨v15, e16, hF⟩ := hF
      refine ((C.spec_l1Arg B hB1 hB2 n x v15 e16)).goW (by first | (simp; done) | (simp [h11, z13, ↓e14]; done) | simp_all) (by simp) ?_
      simp -dsimp [h11, z13, ↓e14]
      repeat (refine chk.go (by first | omega | assumption | (simp_all; done) | (simp_all; omega)) ?_; try simp -dsimp [h11, z13, ↓e14])
      refine abr.split (fun h17 => ?_) (fun h17 => ?_)
      · have q18 : ¬ (v15 = true) := by first | exact h17 | omega | (simpa using h17) | (simp at h17 ⊢; omega) | simp_all
        rw [if_neg q18] at hF
        cases hF
        simp -dsimp [h11, z13, ↓e14, h17, q18]
        repeat (refine chk.go (by first | omega | assumption | (simp_all; done) | (simp_all; omega)) ?_; try simp -dsimp [h11, z13, ↓e14, h17, q18])
        refine Leave.go _ (Gh.refl _) (hq _ ?_)
        simp -dsimp [h11, z13, ↓e14, h17, q18]
        repeat (refine chk.go (by first | omega | assumption | (simp_all; done) | (simp_all; omega)) ?_; try simp -dsimp [h11, z13, ↓e14, h17, q18])
      · have q18 : (v15 = true) := by first | exact h17 | omega | (simpa using h17) | (simp at h17 ⊢; omega) | simp_all
        rw [if_pos q18] at hF
        have w19 : IntKind.i64.wrap ((i : Int) + 1) = (i : Int) + 1 := wrap_in (by omega) (by omega)
        simp -dsimp [h11, z13, ↓e14, h17, q18, w19]
        repeat (refine chk.go (by first | omega | assumption | (simp_all; done) | (simp_all; omega)) ?_; try simp -dsimp [h11, z13, ↓e14, h17, q18, w19])
        refine Again.go ⟨[(0, .lit (.int .i64 n)), (3, .ptr 0 0), (5, .lit (.int .i64 ((i + 1) : Int)))], [.cells [.lit (.string c'.name), .arr (List.map Vl.Ty.c c'.args), .lit (.int .i64 c'.index)]]⟩ (Gh.to (by simp) (by first | (simp -dsimp; done) | (simp -dsimp [h11, z13, ↓e14, h17, q18, w19]; done) | simp_all) (by first | (simp -dsimp; done) | (simp -dsimp [h11, z13, ↓e14, h17, q18, w19]; done) | simp_all) (by first | (simp -dsimp; done) | (simp -dsimp [h11, z13, ↓e14, h17, q18, w19]; done) | simp_all)) ?_
        exact (ih_spec_l1Ctor_l1 (i + 1) o hF) _ rfl _ hq
    · have q12 : ¬ (i < c'.args.length) := by first | exact h11 | omega | (simpa using h11) | (simp at h11 ⊢; omega) | simp_all
      have z13 : ¬ ((i : Int) < (c'.args.length : Int)) := by first | omega | simp_all
      rw [if_neg q12] at hF
      cases hF
      simp -dsimp [h11, q12, z13]
      repeat (refine chk.go (by first | omega | assumption | (simp_all; done) | (simp_all; omega)) ?_; try simp -dsimp [h11, q12, z13])
      refine Leave.go ⟨[], []⟩ (Gh.to (by simp) (by first | (simp -dsimp; done) | (simp -dsimp [h11, q12, z13]; done) | simp_all) (by first | (simp -dsimp; done) | (simp -dsimp [h11, q12, z13]; done) | simp_all) (by first | (simp -dsimp; done) | (simp -dsimp [h11, q12, z13]; done) | simp_all)) ?_
      exact hq

theorem C.spec_l1Ctor_l1 (B : Nat) (hB1 : 67108864 ≤ B) (hB2 : B ≤ 9223372036854775807) (n : Int) (c' : Vl.Ctor) (i : Nat) (o : Lo Bool Unit) (hF : F.spec_l1Ctor_l1 n c' i = some o) : ∀ (c : Code), navO [1, 1, 0, 1, 0, 0] (bodyOf Try.f91) = some c → ∀ (Q : Exit → ASt → Prop), o.post (fun r => ∀ st, Post Try.prog Try.f91 (fun r' _ => r'.le (.lit (.bool r))) .ret st → Q .ret st) (fun s => Q (.exit 0) ⟨[], []⟩) → ALoopU Try.prog B 0 41 (hold c .mk) ⟨[(0, .lit (.int .i64 n)), (3, .ptr 0 0), (5, .lit (.int .i64 (i : Int)))], [.cells [.lit (.string c'.name), .arr (List.map Vl.Ty.c c'.args), .lit (.int .i64 c'.index)]]⟩ (hold Q .mk) :=
  (CC.spec_l1Ctor_l1 B hB1 hB2 n c') i o hF

set_option maxRecDepth 100000 in
set_option maxHeartbeats 400000 in
theorem C.spec_l1Ctor (B : Nat) (hB1 : 67108864 ≤ B) (hB2 : B ≤ 9223372036854775807) (n : Int) (c' : Vl.Ctor) (r : Bool) (hF : F.spec_l1Ctor n c' = some r) : PureCall Try.prog B 91 [.lit (.int .i64 n), .agg [.lit (.string c'.name), .arr (List.map Vl.Ty.c c'.args), .lit (.int .i64 c'.index)]] (.lit (.bool r)) := by
  unfold F.spec_l1Ctor at hF
  refine PureCall.enterLe Try.func91 (by kernel_rfl) rfl Try.ntmps91 (by simp) (by simp) ?_
  simp -dsimp
  repeat (refine chk.go (by first | omega | assumption | (simp_all; done) | (simp_all; omega)) ?_; try simp -dsimp)
  have hF := ob hF; obtain ⟨v, e1, hF⟩ := hF
  refine ((C.spec_NameValid B hB1 hB2 c'.name v e1)).goW (by simp) (by simp) ?_
  simp -dsimp
  repeat (refine chk.go (by first | omega | assumption | (simp_all; done) | (simp_all; omega)) ?_; try simp -dsimp)
  refine abr.split (fun h2 => ?_) (fun h2 => ?_)
  · have q3 : (v = true) := by first | exact h2 | omega | (simpa using h2) | (simp at h2 ⊢; omega) | simp_all
    rw [if_pos q3] at hF
    simp -dsimp [h2]
    repeat (refine chk.go (by first | omega | assumption | (simp_all; done) | (simp_all; omega)) ?_; try simp -dsimp [h2])
    refine abr.split (fun h4 => ?_) (fun h4 => ?_)
    · have q5 : ¬ (3 < c'.args.length) := by first | exact h4 | omega | (simpa using h4) | (simp at h4 ⊢; omega) | simp_all
      have z6 : ¬ ((3 : Int) < (c'.args.length : Int)) := by first | omega | simp_all
      rw [if_neg q5] at hF
      simp -dsimp [h2, h4, q5, z6]
      repeat (refine chk.go (by first | omega | assumption | (simp_all; done) | (simp_all; omega)) ?_; try simp -dsimp [h2, h4, q5, z6])
      refine abr.split (fun h7 => ?_) (fun h7 => ?_)
      · have q8 : ¬ (c'.index < 0) := by first | exact h7 | omega | (simpa using h7) | (simp at h7 ⊢; omega) | simp_all
        rw [if_neg q8] at hF
        simp -dsimp [h2, h4, q5, z6, h7, q8]
        repeat (refine chk.go (by first | omega | assumption | (simp_all; done) | (simp_all; omega)) ?_; try simp -dsimp [h2, h4, q5, z6, h7, q8])
        refine abr.split (fun h9 => ?_) (fun h9 => ?_)
        · have q10 : (3 < c'.index) := by first | exact h9 | omega | (simpa using h9) | (simp at h9 ⊢; omega) | simp_all
          rw [if_pos q10] at hF
          cases hF
          simp -dsimp [h2, h4, q5, z6, h7, q8, h9]
          repeat (refine chk.go (by first | omega | assumption | (simp_all; done) | (simp_all; omega)) ?_; try simp -dsimp [h2, h4, q5, z6, h7, q8, h9])
        · have q10 : ¬ (3 < c'.index) := by first | exact h9 | omega | (simpa using h9) | (simp at h9 ⊢; omega) | simp_all
          rw [if_neg q10] at hF
          simp -dsimp [h2, h4, q5, z6, h7, q8, h9, q10]
          repeat (refine chk.go (by first | omega | assumption | (simp_all; done) | (simp_all; omega)) ?_; try simp -dsimp [h2, h4, q5, z6, h7, q8, h9, q10])
          have hF := ob hF; obtain ⟨o', ho20, hF⟩ := hF
          refine ALoop.goU ⟨[(0, .lit (.int .i64 n)), (3, .ptr 0 0), (5, .lit (.int .i64 (0 : Int)))], [.cells [.lit (.string c'.name), .arr (List.map Vl.Ty.c c'.args), .lit (.int .i64 c'.index)]]⟩ (Gh.to (by simp) (by first | (simp -dsimp; done) | (simp -dsimp [h2, h4, q5, z6, h7, q8, h9, q10]; done) | simp_all) (by first | (simp -dsimp; done) | (simp -dsimp [h2, h4, q5, z6, h7, q8, h9, q10]; done) | simp_all) (by first | (simp -dsimp; done) | (simp -dsimp [h2, h4, q5, z6, h7, q8, h9, q10]; done) | simp_all)) ?_
          refine (C.spec_l1Ctor_l1 B hB1 hB2 n c' 0 o' ho20) _ rfl _ ?_
          rcases o' with r0 | s
          · dsimp only at hF
            cases hF
            intro st h
            simpa using h
          · dsimp only at hF
            cases hF
            simp -dsimp
            repeat (refine chk.go (by first | omega | assumption | (simp_all; done) | (simp_all; omega)) ?_; try simp -dsimp)
      · have q8 : (c'.index < 0) := by first | exact h7 | omega | (simpa using h7) | (simp at h7 ⊢; omega) | simp_all
        rw [if_pos q8] at hF
        cases hF
        simp -dsimp [h2, h4, q5, z6, h7, q8]
        repeat (refine chk.go (by first | omega | assumption | (simp_all; done) | (simp_all; omega)) ?_; try simp -dsimp [h2, h4, q5, z6, h7, q8])
    · have q5 : (3 < c'.args.length) := by first | exact h4 | omega | (simpa using h4) | (simp at h4 ⊢; omega) | simp_all
      have z6 : ((3 : Int) < (c'.args.length : Int)) := by first | omega | simp_all
      rw [if_pos q5] at hF
      cases hF
      simp -dsimp [h2, h4, q5, z6]
      repeat (refine chk.go (by first | omega | assumption | (simp_all; done) | (simp_all; omega)) ?_; try simp -dsimp [h2, h4, q5, z6])
  · have q3 : ¬ (v = true) := by first | exact h2 | omega | (simpa using h2) | (simp at h2 ⊢; omega) | simp_all
    rw [if_neg q3] at hF
    cases hF
    simp -dsimp [h2, q3]
    repeat (refine chk.go (by first | omega | assumption | (simp_all; done) | (simp_all; omega)) ?_; try simp -dsimp [h2, q3])

set_option maxRecDepth 100000 in
set_option maxHeartbeats 400000 in
theorem CC.spec_l1Twice_l2 (B : Nat) (hB1 : 67108864 ≤ B) (hB2 : B ≤ 9223372036854775807) (w : List Vl.Data) (d : Int) (k : Int) (i : Nat) : (∀ (j : Nat) (o : Lo Bool Unit), F.spec_l1Twice_l2 w d k i j = some o → ∀ (c : Code), navO [1, 0, 1, 0, 0, 1, 0, 0, 1, 1, 0, 0] (bodyOf Try.f92) = some c → ∀ (Q : Exit → ASt → Prop), o.post (fun r => ∀ st, Post Try.prog Try.f92 (fun r' _ => r'.le (.lit (.bool r))) .ret st → Q .ret st) (fun s => Q (.exit 2) ⟨[(0, .arr (List.map Vl.Data.c w)), (1, .lit (.int .i64 d)), (2, .lit (.int .i64 k)), (7, .lit (.int .i64 (i : Int)))], []⟩) → ALoopU Try.prog B 0 79 (hold c .mk) ⟨[(0, .arr (List.map Vl.Data.c w)), (1, .lit (.int .i64 d)), (2, .lit (.int .i64 k)), (7, .lit (.int .i64 (i : Int))), (8, .lit (.int .i64 (j : Int)))], []⟩ (hold Q .mk)) := by
  refine F.spec_l1Twice_l2.partial_correctness w d k i
    (fun j o => ∀ (c : Code), navO [1, 0, 1, 0, 0, 1, 0, 0, 1, 1, 0, 0] (bodyOf Try.f92) = some c → ∀ (Q : Exit → ASt → Prop), o.post (fun r => ∀ st, Post Try.prog Try.f92 (fun r' _ => r'.le (.lit (.bool r))) .ret st → Q .ret st) (fun s => Q (.exit 2) ⟨[(0, .arr (List.map Vl.Data.c w)), (1, .lit (.int .i64 d)), (2, .lit (.int .i64 k)), (7, .lit (.int .i64 (i : Int)))], []⟩) → ALoopU Try.prog B 0 79 (hold c .mk) ⟨[(0, .arr (List.map Vl.Data.c w)), (1, .lit (.int .i64 d)), (2, .lit (.int .i64 k)), (7, .lit (.int .i64 (i : Int))), (8, .lit (.int .i64 (j : Int)))], []⟩ (hold Q .mk))
    ?_
  · intro _f_spec_l1Twice_l2 ih_spec_l1Twice_l2 j o hF
    intro c hc Q hq
    obtain rfl : c = _ := navEq hc rfl
    refine ALoopU.know fun hk hs => ?_
    have b0 := hk 0
    simp -dsimp at b0
    clear hk hs
    refine ALoopU.enter ?_
    have hF := ob hF; obtain ⟨x10, e11, hF⟩ := hF
    have le11 := lt_of_get e11
    simp -dsimp [↓e11]
    repeat (refine chk.go (by first | omega | assumption | (simp_all; done) | (simp_all; omega)) ?_; try simp -dsimp [↓e11])
    refine abr.split (fun h12 => ?_) (fun h12 => ?_)
    · have q13 : (j < x10.ctors.length) := by first | exact h12 | omega | (simpa using h12) | (simp at h12 ⊢; omega) | simp_all
      have z14 : ((j : Int) < (x10.ctors.length : Int)) := by first | omega | simp_all
      rw [if_pos q13] at hF
      simp -dsimp [↓e11, h12, z14]
      repeat (refine chk.go (by first | omega | assumption | (simp_all; done) | (simp_all; omega)) ?_; try simp -dsimp [↓e11, h12, z14])
      refine abr.split (fun h15 => ?_) (fun h15 => ?_)
      · have q16 : ¬ ((i : Int) < d) := by first | exact h15 | omega | (simpa using h15) | (simp at h15 ⊢; omega) | simp_all
        rw [if_neg q16] at hF
        simp -dsimp [↓e11, h12, z14, h15, q16]
        repeat (refine chk.go (by first | omega | assumption | (simp_all; done) | (simp_all; omega)) ?_; try simp -dsimp [↓e11, h12, z14, h15, q16])
        refine abr.split (fun h17 => ?_) (fun h17 => ?_)
        · have q18 : ((j : Int) < k) := by first | exact h17 | omega | (simpa using h17) | (simp at h17 ⊢; omega) | simp_all
          rw [if_pos q18] at hF
          simp -dsimp [↓e11, h12, z14, h15, q16, h17]
          repeat (refine chk.go (by first | omega | assumption | (simp_all; done) | (simp_all; omega)) ?_; try simp -dsimp [↓e11, h12, z14, h15, q16, h17])
          refine ADraw.simple follows (by kernel_rfl) (by kernel_rfl) ?_
          have hF := ob hF; obtain ⟨x19, e20a, hF⟩ := hF
          have e20a := at_some e20a; obtain ⟨ne20, e20⟩ := e20a
          have le20 := lt_of_get e20
          simp -dsimp [↓e11, h12, z14, h15, q16, h17, ↓e20]
          repeat (refine chk.go (by first | omega | assumption | (simp_all; done) | (simp_all; omega)) ?_; try simp -dsimp [↓e11, h12, z14, h15, q16, h17, ↓e20])
          refine abr.split (fun h21 => ?_) (fun h21 => ?_)
          · have q22 : (k < (x19.ctors.length : Int)) := by first | exact h21 | omega | (simpa using h21) | (simp at h21 ⊢; omega) | simp_all
            rw [if_pos q22] at hF
            have hF := ob hF; obtain ⟨x23, e24, hF⟩ := hF
            have le24 := lt_of_get e24
            have hF := ob hF; obtain ⟨x25, e26a, hF⟩ := hF
            have e26a := at_some e26a; obtain ⟨ne26, e26⟩ := e26a
            have le26 := lt_of_get e26
            simp -dsimp [↓e11, h12, z14, h15, q16, h17, ↓e20, h21, ↓e24, ↓e26]
            repeat (refine chk.go (by first | omega | assumption | (simp_all; done) | (simp_all; omega)) ?_; try simp -dsimp [↓e11, h12, z14, h15, q16, h17, ↓e20, h21, ↓e24, ↓e26])
            refine abr.split (fun h27 => ?_) (fun h27 => ?_)
            · have q28 : (x23.name.toList = x25.name.toList) := by first | exact h27 | omega | (simpa using h27) | (simp at h27 ⊢; omega) | simp_all
              rw [if_pos q28] at hF
              cases hF
              simp -dsimp [↓e11, h12, z14, h15, q16, h17, ↓e20, h21, ↓e24, ↓e26, h27]
              repeat (refine chk.go (by first | omega | assumption | (simp_all; done) | (simp_all; omega)) ?_; try simp -dsimp [↓e11, h12, z14, h15, q16, h17, ↓e20, h21, ↓e24, ↓e26, h27])
              refine Leave.go _ (Gh.refl _) (hq _ ?_)
              simp -dsimp [↓e11, h12, z14, h15, q16, h17, ↓e20, h21, ↓e24, ↓e26, h27]
              repeat (refine chk.go (by first | omega | assumption | (simp_all; done) | (simp_all; omega)) ?_; try simp -dsimp [↓e11, h12, z14, h15, q16, h17, ↓e20, h21, ↓e24, ↓e26, h27])
            · have q28 : ¬ (x23.name.toList = x25.name.toList) := by first | exact h27 | omega | (simpa using h27) | (simp at h27 ⊢; omega) | simp_all
              rw [if_neg q28] at hF
              have hF := oc hF; obtain ⟨c29, hF⟩ := hF
              have w30 : IntKind.i64.wrap ((j : Int) + 1) = (j : Int) + 1 := wrap_in (by omega) (by omega)
              simp -dsimp [↓e11, h12, z14, h15, q16, h17, ↓e20, h21, ↓e24, ↓e26, h27, q28, w30]
              repeat (refine chk.go (by first | omega | assumption | (simp_all; done) | (simp_all; omega)) ?_; try simp -dsimp [↓e11, h12, z14, h15, q16, h17, ↓e20, h21, ↓e24, ↓e26, h27, q28, w30])
              refine Again.go ⟨[(0, .arr (List.map Vl.Data.c w)), (1, .lit (.int .i64 d)), (2, .lit (.int .i64 k)), (7, .lit (.int .i64 (i : Int))), (8, .lit (.int .i64 ((j + 1) : Int)))], []⟩ (Gh.to (by simp) (by first | (simp -dsimp; done) | (simp -dsimp [↓e11, h12, z14, h15, q16, h17, ↓e20, h21, ↓e24, ↓e26, h27, q28, w30]; done) | simp_all) (by first | (simp -dsimp; done) | (simp -dsimp [↓e11, h12, z14, h15, q16, h17, ↓e20, h21, ↓e24, ↓e26, h27, q28, w30]; done) | simp_all) (by first | (simp -dsimp; done) | (simp -dsimp [↓e11, h12, z14, h15, q16, h17, ↓e20, h21, ↓e24, ↓e26, h27, q28, w30]; done) | simp_all)) ?_
              exact (ih_spec_l1Twice_l2 (j + 1) o hF) _ rfl _ hq
          · have q22 : ¬ (k < (x19.ctors.length : Int)) := by first | exact h21 | omega | (simpa using h21) | (simp at h21 ⊢; omega) | simp_all
            rw [if_neg q22] at hF
            have hF := oc hF; obtain ⟨c31, hF⟩ := hF
            have w32 : IntKind.i64.wrap ((j : Int) + 1) = (j : Int) + 1 := wrap_in (by omega) (by omega)
            simp -dsimp [↓e11, h12, z14, h15, q16, h17, ↓e20, h21, q22, w32]
            repeat (refine chk.go (by first | omega | assumption | (simp_all; done) | (simp_all; omega)) ?_; try simp -dsimp [↓e11, h12, z14, h15, q16, h17, ↓e20, h21, q22, w32])
            refine Again.go ⟨[(0, .arr (List.map Vl.Data.c w)), (1, .lit (.int .i64 d)), (2, .lit (.int .i64 k)), (7, .lit (.int .i64 (i : Int))), (8, .lit (.int .i64 ((j + 1) : Int)))], []⟩ (Gh.to (by simp) (by first | (simp -dsimp; done) | (simp -dsimp [↓e11, h12, z14, h15, q16, h17, ↓e20, h21, q22, w32]; done) | simp_all) (by first | (simp -dsimp; done) | (simp -dsimp [↓e11, h12, z14, h15, q16, h17, ↓e20, h21, q22, w32]; done) | simp_all) (by first | (simp -dsimp; done) | (simp -dsimp [↓e11, h12, z14, h15, q16, h17, ↓e20, h21, q22, w32]; done) | simp_all)) ?_
            exact (ih_spec_l1Twice_l2 (j + 1) o hF) _ rfl _ hq
        · have q18 : ¬ ((j : Int) < k) := by first | exact h17 | omega | (simpa using h17) | (simp at h17 ⊢; omega) | simp_all
          rw [if_neg q18] at hF
          cases hF
          simp -dsimp [↓e11, h12, z14, h15, q16, h17, q18]
          repeat (refine chk.go (by first | omega | assumption | (simp_all; done) | (simp_all; omega)) ?_; try simp -dsimp [↓e11, h12, z14, h15, q16, h17, q18])
          refine Leave.go ⟨[(0, .arr (List.map Vl.Data.c w)), (1, .lit (.int .i64 d)), (2, .lit (.int .i64 k)), (7, .lit (.int .i64 (i : Int)))], []⟩ (Gh.to (by simp) (by first | (simp -dsimp; done) | (simp -dsimp [↓e11, h12, z14, h15, q16, h17, q18]; done) | simp_all) (by first | (simp -dsimp; done) | (simp -dsimp [↓e11, h12, z14, h15, q16, h17, q18]; done) | simp_all) (by first | (simp -dsimp; done) | (simp -dsimp [↓e11, h12, z14, h15, q16, h17, q18]; done) | simp_all)) ?_
          exact hq
      · have q16 : ((i : Int) < d) := by first | exact h15 | omega | (simpa using h15) | (simp at h15 ⊢; omega) | simp_all
        rw [if_pos q16] at hF
        simp -dsimp [↓e11, h12, z14, h15, q16]
        repeat (refine chk.go (by first | omega | assumption | (simp_all; done) | (simp_all; omega)) ?_; try simp -dsimp [↓e11, h12, z14, h15, q16])
        refine ADraw.simple follows (by kernel_rfl) (by kernel_rfl) ?_
        have hF := ob hF; obtain ⟨x33, e34a, hF⟩ := hF
        have e34a := at_some e34a; obtain ⟨ne34, e34⟩ := e34a
        have le34 := lt_of_get e34
        simp -dsimp [↓e11, h12, z14, h15, q16, ↓e34]
        repeat (refine chk.go (by first | omega | assumption | (simp_all; done) | (simp_all; omega)) ?_; try simp -dsimp [↓e11, h12, z14, h15, q16, ↓e34])
        refine abr.split (fun h35 => ?_) (fun h35 => ?_)
        · have q36 : (k < (x33.ctors.length : Int)) := by first | exact h35 | omega | (simpa using h35) | (simp at h35 ⊢; omega) | simp_all
          rw [if_pos q36] at hF
          have hF := ob hF; obtain ⟨x37, e38, hF⟩ := hF
          have le38 := lt_of_get e38
          have hF := ob hF; obtain ⟨x39, e40a, hF⟩ := hF
          have e40a := at_some e40a; obtain ⟨ne40, e40⟩ := e40a
          have le40 := lt_of_get e40
          simp -dsimp [↓e11, h12, z14, h15, q16, ↓e34, h35, ↓e38, ↓e40]
          repeat (refine chk.go (by first | omega | assumption | (simp_all; done) | (simp_all; omega)) ?_; try simp -dsimp [↓e11, h12, z14, h15, q16, ↓e34, h35, ↓e38, ↓e40])
          refine abr.split (fun h41 => ?_) (fun h41 => ?_)
          · have q42 : (x37.name.toList = x39.name.toList) := by first | exact h41 | omega | (simpa using h41) | (simp at h41 ⊢; omega) | simp_all
            rw [if_pos q42] at hF
            cases hF
            simp -dsimp [↓e11, h12, z14, h15, q16, ↓e34, h35, ↓e38, ↓e40, h41]
            repeat (refine chk.go (by first | omega | assumption | (simp_all; done) | (simp_all; omega)) ?_; try simp -dsimp [↓e11, h12, z14, h15, q16, ↓e34, h35, ↓e38, ↓e40, h41])
            refine Leave.go _ (Gh.refl _) (hq _ ?_)
            simp -dsimp [↓e11, h12, z14, h15, q16, ↓e34, h35, ↓e38, ↓e40, h41]
            repeat (refine chk.go (by first | omega | assumption | (simp_all; done) | (simp_all; omega)) ?_; try simp -dsimp [↓e11, h12, z14, h15, q16, ↓e34, h35, ↓e38, ↓e40, h41])
          · have q42 : ¬ (x37.name.toList = x39.name.toList) := by first | exact h41 | omega | (simpa using h41) | (simp at h41 ⊢; omega) | simp_all
            rw [if_neg q42] at hF
            have hF := oc hF; obtain ⟨c43, hF⟩ := hF
            have w44 : IntKind.i64.wrap ((j : Int) + 1) = (j : Int) + 1 := wrap_in (by omega) (by omega)
            simp -dsimp [↓e11, h12, z14, h15, q16, ↓e34, h35, ↓e38, ↓e40, h41, q42, w44]
            repeat (refine chk.go (by first | omega | assumption | (simp_all; done) | (simp_all; omega)) ?_; try simp -dsimp [↓e11, h12, z14, h15, q16, ↓e34, h35, ↓e38, ↓e40, h41, q42, w44])
            refine Again.go ⟨[(0, .arr (List.map Vl.Data.c w)), (1, .lit (.int .i64 d)), (2, .lit (.int .i64 k)), (7, .lit (.int .i64 (i : Int))), (8, .lit (.int .i64 ((j + 1) : Int)))], []⟩ (Gh.to (by simp) (by first | (simp -dsimp; done) | (simp -dsimp [↓e11, h12, z14, h15, q16, ↓e34, h35, ↓e38, ↓e40, h41, q42, w44]; done) | simp_all) (by first | (simp -dsimp; done) | (simp -dsimp [↓e11, h12, z14, h15, q16, ↓e34, h35, ↓e38, ↓e40, h41, q42, w44]; done) | simp_all) (by first | (simp -dsimp; done) | (simp -dsimp [↓e11, h12, z14, h15, q16, ↓e34, h35, ↓e38, ↓e40, h41, q42, w44]; done) | simp_all)) ?_
            exact (ih_spec_l1Twice_l2 (j + 1) o hF) _ rfl _ hq
        · have q36 : ¬ (k < (x33.ctors.length : Int)) := by first | exact h35 | omega | (simpa using h35) | (simp at h35 ⊢; omega) | simp_all
          rw [if_neg q36] at hF
          have hF := oc hF; obtain ⟨c45, hF⟩ := hF
          have w46 : IntKind.i64.wrap ((j : Int) + 1) = (j : Int) + 1 := wrap_in (by omega) (by omega)
          simp -dsimp [↓e11, h12, z14, h15, q16, ↓e34, h35, q36, w46]
          repeat (refine chk.go (by first | omega | assumption | (simp_all; done) | (simp_all; omega)) ?_; try simp -dsimp [↓e11, h12, z14, h15, q16, ↓e34, h35, q36, w46])
          refine Again.go ⟨[(0, .arr (List.map Vl.Data.c w)), (1, .lit (.int .i64 d)), (2, .lit (.int .i64 k)), (7, .lit (.int .i64 (i : Int))), (8, .lit (.int .i64 ((j + 1) : Int)))], []⟩ (Gh.to (by simp) (by first | (simp -dsimp; done) | (simp -dsimp [↓e11, h12, z14, h15, q16, ↓e34, h35, q36, w46]; done) | simp_all) (by first | (simp -dsimp; done) | (simp -dsimp [↓e11, h12, z14, h15, q16, ↓e34, h35, q36, w46]; done) | simp_all) (by first | (simp -dsimp; done) | (simp -dsimp [↓e11, h12, z14, h15, q16, ↓e34, h35, q36, w46]; done) | simp_all)) ?_
          exact (ih_spec_l1Twice_l2 (j + 1) o hF) _ rfl _ hq
    · have q13 : ¬ (j < x10.ctors.length) := by first | exact h12 | omega | (simpa using h12) | (simp at h12 ⊢; omega) | simp_all
      have z14 : ¬ ((j : Int) < (x10.ctors.length : Int)) := by first | omega | simp_all
      rw [if_neg q13] at hF
      cases hF
      simp -dsimp [↓e11, h12, q13, z14]
      repeat (refine chk.go (by first | omega | assumption | (simp_all; done) | (simp_all; omega)) ?_; try simp -dsimp [↓e11, h12, q13, z14])
      refine Leave.go ⟨[(0, .arr (List.map Vl.Data.c w)), (1, .lit (.int .i64 d)), (2, .lit (.int .i64 k)), (7, .lit (.int .i64 (i : Int)))], []⟩ (Gh.to (by simp) (by first | (simp -dsimp; done) | (simp -dsimp [↓e11, h12, q13, z14]; done) | simp_all) (by first | (simp -dsimp; done) | (simp -dsimp [↓e11, h12, q13, z14]; done) | simp_all) (by first | (simp -dsimp; done) | (simp -dsimp [↓e11, h12, q13, z14]; done) | simp_all)) ?_
      exact hq

theorem C.spec_l1Twice_l2 (B : Nat) (hB1 : 67108864 ≤ B) (hB2 : B ≤ 9223372036854775807) (w : List Vl.Data) (d : Int) (k : Int) (i : Nat) (j : Nat) (o : Lo Bool Unit) (hF : F.spec_l1Twice_l2 w d k i j = some o) : ∀ (c : Code), navO [1, 0, 1, 0, 0, 1, 0, 0, 1, 1, 0, 0] (bodyOf Try.f92) = some c → ∀ (Q : Exit → ASt → Prop), o.post (fun r => ∀ st, Post Try.prog Try.f92 (fun r' _ => r'.le (.lit (.bool r))) .ret st → Q .ret st) (fun s => Q (.exit 2) ⟨[(0, .arr (List.map Vl.Data.c w)), (1, .lit (.int .i64 d)), (2, .lit (.int .i64 k)), (7, .lit (.int .i64 (i : Int)))], []⟩) → ALoopU Try.prog B 0 79 (hold c .mk) ⟨[(0, .arr (List.map Vl.Data.c w)), (1, .lit (.int .i64 d)), (2, .lit (.int .i64 k)), (7, .lit (.int .i64 (i : Int))), (8, .lit (.int .i64 (j : Int)))], []⟩ (hold Q .mk) :=
  (CC.spec_l1Twice_l2 B hB1 hB2 w d k i) j o hF

set_option maxRecDepth 100000 in
set_option maxHeartbeats 400000 in
theorem CC.spec_l1Twice_l3 (B : Nat) (hB1 : 67108864 ≤ B) (hB2 : B ≤ 9223372036854775807) (w : List Vl.Data) (d : Int) (k : Int) (i : Nat) : (∀ (j50 : Nat) (o : Lo Bool Unit), F.spec_l1Twice_l3 w d k i j50 = some o → ∀ (c : Code), navO [1, 0, 1, 0, 0, 1, 0, 0, 1, 1, 0, 0] (bodyOf Try.f92) = some c → ∀ (Q : Exit → ASt → Prop), o.post (fun r => ∀ st, Post Try.prog Try.f92 (fun r' _ => r'.le (.lit (.bool r))) .ret st → Q .ret st) (fun s => Q (.exit 2) ⟨[(0, .arr (List.map Vl.Data.c w)), (1, .lit (.int .i64 d)), (2, .lit (.int .i64 k)), (7, .lit (.int .i64 (i : Int)))], []⟩) → ALoopU Try.prog B 0 79 (hold c .mk) ⟨[(0, .arr (List.map Vl.Data.c w)), (1, .lit (.int .i64 d)), (2, .lit (.int .i64 k)), (7, .lit (.int .i64 (i : Int))), (8, .lit (.int .i64 (j50 : Int)))], []⟩ (hold Q .mk)) := by
  refine F.spec_l1Twice_l3.partial_correctness w d k i
    (fun j50 o => ∀ (c : Code), navO [1, 0, 1, 0, 0, 1, 0, 0, 1, 1, 0, 0] (bodyOf Try.f92) = some c → ∀ (Q : Exit → ASt → Prop), o.post (fun r => ∀ st, Post Try.prog Try.f92 (fun r' _ => r'.le (.lit (.bool r))) .ret st → Q .ret st) (fun s => Q (.exit 2) ⟨[(0, .arr (List.map Vl.Data.c w)), (1, .lit (.int .i64 d)), (2, .lit (.int .i64 k)), (7, .lit (.int .i64 (i : Int)))], []⟩) → ALoopU Try.prog B 0 79 (hold c .mk) ⟨[(0, .arr (List.map Vl.Data.c w)), (1, .lit (.int .i64 d)), (2, .lit (.int .i64 k)), (7, .lit (.int .i64 (i : Int))), (8, .lit (.int .i64 (j50 : Int)))], []⟩ (hold Q .mk))
    ?_
  · intro _f_spec_l1Twice_l3 ih_spec_l1Twice_l3 j50 o hF
    intro c hc Q hq
    obtain rfl : c = _ := navEq hc rfl
    refine ALoopU.know fun hk hs => ?_
    have b0 := hk 0
    simp -dsimp at b0
    clear hk hs
    refine ALoopU.enter ?_
    have hF := ob hF; obtain ⟨x51, e52, hF⟩ := hF
    have le52 := lt_of_get e52
    simp -dsimp [↓e52]
    repeat (refine chk.go (by first | omega | assumption | (simp_all; done) | (simp_all; omega)) ?_; try simp -dsimp [↓e52])
    refine abr.split (fun h53 => ?_) (fun h53 => ?_)
    · have q54 : (j50 < x51.ctors.length) := by first | exact h53 | omega | (simpa using h53) | (simp at h53 ⊢; omega) | simp_all
      have z55 : ((j50 : Int) < (x51.ctors.length : Int)) := by first | omega | simp_all
      rw [if_pos q54] at hF
      simp -dsimp [↓e52, h53, z55]
      repeat (refine chk.go (by first | omega | assumption | (simp_all; done) | (simp_all; omega)) ?_; try simp -dsimp [↓e52, h53, z55])
      refine abr.split (fun h56 => ?_) (fun h56 => ?_)
      · have q57 : ¬ ((i : Int) < d) := by first | exact h56 | omega | (simpa using h56) | (simp at h56 ⊢; omega) | simp_all
        rw [if_neg q57] at hF
        simp -dsimp [↓e52, h53, z55, h56, q57]
        repeat (refine chk.go (by first | omega | assumption | (simp_all; done) | (simp_all; omega)) ?_; try simp -dsimp [↓e52, h53, z55, h56, q57])
        refine abr.split (fun h58 => ?_) (fun h58 => ?_)
        · have q59 : ((j50 : Int) < k) := by first | exact h58 | omega | (simpa using h58) | (simp at h58 ⊢; omega) | simp_all
          rw [if_pos q59] at hF
          simp -dsimp [↓e52, h53, z55, h56, q57, h58]
          repeat (refine chk.go (by first | omega | assumption | (simp_all; done) | (simp_all; omega)) ?_; try simp -dsimp [↓e52, h53, z55, h56, q57, h58])
          refine ADraw.simple follows (by kernel_rfl) (by kernel_rfl) ?_
          have hF := ob hF; obtain ⟨x60, e61a, hF⟩ := hF
          have e61a := at_some e61a; obtain ⟨ne61, e61⟩ := e61a
          have le61 := lt_of_get e61
          simp -dsimp [↓e52, h53, z55, h56, q57, h58, ↓e61]
          repeat (refine chk.go (by first | omega | assumption | (simp_all; done) | (simp_all; omega)) ?_; try simp -dsimp [↓e52, h53, z55, h56, q57, h58, ↓e61])
          refine abr.split (fun h62 => ?_) (fun h62 => ?_)
          · have q63 : (k < (x60.ctors.length : Int)) := by first | exact h62 | omega | (simpa using h62) | (simp at h62 ⊢; omega) | simp_all
            rw [if_pos q63] at hF
            have hF := ob hF; obtain ⟨x64, e65, hF⟩ := hF
            have le65 := lt_of_get e65
            have hF := ob hF; obtain ⟨x66, e67a, hF⟩ := hF
            have e67a := at_some e67a; obtain ⟨ne67, e67⟩ := e67a
            have le67 := lt_of_get e67
            simp -dsimp [↓e52, h53, z55, h56, q57, h58, ↓e61, h62, ↓e65, ↓e67]
            repeat (refine chk.go (by first | omega | assumption | (simp_all; done) | (simp_all; omega)) ?_; try simp -dsimp [↓e52, h53, z55, h56, q57, h58, ↓e61, h62, ↓e65, ↓e67])
            refine abr.split (fun h68 => ?_) (fun h68 => ?_)
            · have q69 : (x64.name.toList = x66.name.toList) := by first | exact h68 | omega | (simpa using h68) | (simp at h68 ⊢; omega) | simp_all
              rw [if_pos q69] at hF
              cases hF
              simp -dsimp [↓e52, h53, z55, h56, q57, h58, ↓e61, h62, ↓e65, ↓e67, h68]
              repeat (refine chk.go (by first | omega | assumption | (simp_all; done) | (simp_all; omega)) ?_; try simp -dsimp [↓e52, h53, z55, h56, q57, h58, ↓e61, h62, ↓e65, ↓e67, h68])
              refine Leave.go _ (Gh.refl _) (hq _ ?_)
              simp -dsimp [↓e52, h53, z55, h56, q57, h58, ↓e61, h62, ↓e65, ↓e67, h68]
              repeat (refine chk.go (by first | omega | assumption | (simp_all; done) | (simp_all; omega)) ?_; try simp -dsimp [↓e52, h53, z55, h56, q57, h58, ↓e61, h62, ↓e65, ↓e67, h68])
            · have q69 : ¬ (x64.name.toList = x66.name.toList) := by first | exact h68 | omega | (simpa using h68) | (simp at h68 ⊢; omega) | simp_all
              rw [if_neg q69] at hF
              have hF := oc hF; obtain ⟨c70, hF⟩ := hF
              have w71 : IntKind.i64.wrap ((j50 : Int) + 1) = (j50 : Int) + 1 := wrap_in (by omega) (by omega)
              simp -dsimp [↓e52, h53, z55, h56, q57, h58, ↓e61, h62, ↓e65, ↓e67, h68, q69, w71]
              repeat (refine chk.go (by first | omega | assumption | (simp_all; done) | (simp_all; omega)) ?_; try simp -dsimp [↓e52, h53, z55, h56, q57, h58, ↓e61, h62, ↓e65, ↓e67, h68, q69, w71])
              refine Again.go ⟨[(0, .arr (List.map Vl.Data.c w)), (1, .lit (.int .i64 d)), (2, .lit (.int .i64 k)), (7, .lit (.int .i64 (i : Int))), (8, .lit (.int .i64 ((j50 + 1) : Int)))], []⟩ (Gh.to (by simp) (by first | (simp -dsimp; done) | (simp -dsimp [↓e52, h53, z55, h56, q57, h58, ↓e61, h62, ↓e65, ↓e67, h68, q69, w71]; done) | simp_all) (by first | (simp -dsimp; done) | (simp -dsimp [↓e52, h53, z55, h56, q57, h58, ↓e61, h62, ↓e65, ↓e67, h68, q69, w71]; done) | simp_all) (by first | (simp -dsimp; done) | (simp -dsimp [↓e52, h53, z55, h56, q57, h58, ↓e61, h62, ↓e65, ↓e67, h68, q69, w71]; done) | simp_all)) ?_
              exact (ih_spec_l1Twice_l3 (j50 + 1) o hF) _ rfl _ hq
          · have q63 : ¬ (k < (x60.ctors.length : Int)) := by first | exact h62 | omega | (simpa using h62) | (simp at h62 ⊢; omega) | simp_all
            rw [if_neg q63] at hF
            have hF := oc hF; obtain ⟨c72, hF⟩ := hF
            have w73 : IntKind.i64.wrap ((j50 : Int) + 1) = (j50 : Int) + 1 := wrap_in (by omega) (by omega)
            simp -dsimp [↓e52, h53, z55, h56, q57, h58, ↓e61, h62, q63, w73]
            repeat (refine chk.go (by first | omega | assumption | (simp_all; done) | (simp_all; omega)) ?_; try simp -dsimp [↓e52, h53, z55, h56, q57, h58, ↓e61, h62, q63, w73])
            refine Again.go ⟨[(0, .arr (List.map Vl.Data.c w)), (1, .lit (.int .i64 d)), (2, .lit (.int .i64 k)), (7, .lit (.int .i64 (i : Int))), (8, .lit (.int .i64 ((j50 + 1) : Int)))], []⟩ (Gh.to (by simp) (by first | (simp -dsimp; done) | (simp -dsimp [↓e52, h53, z55, h56, q57, h58, ↓e61, h62, q63, w73]; done) | simp_all) (by first | (simp -dsimp; done) | (simp -dsimp [↓e52, h53, z55, h56, q57, h58, ↓e61, h62, q63, w73]; done) | simp_all) (by first | (simp -dsimp; done) | (simp -dsimp [↓e52, h53, z55, h56, q57, h58, ↓e61, h62, q63, w73]; done) | simp_all)) ?_
            exact (ih_spec_l1Twice_l3 (j50 + 1) o hF) _ rfl _ hq
        · have q59 : ¬ ((j50 : Int) < k) := by first | exact h58 | omega | (simpa using h58) | (simp at h58 ⊢; omega) | simp_all
          rw [if_neg q59] at hF
          cases hF
          simp -dsimp [↓e52, h53, z55, h56, q57, h58, q59]
          repeat (refine chk.go (by first | omega | assumption | (simp_all; done) | (simp_all; omega)) ?_; try simp -dsimp [↓e52, h53, z55, h56, q57, h58, q59])
          refine Leave.go ⟨[(0, .arr (List.map Vl.Data.c w)), (1, .lit (.int .i64 d)), (2, .lit (.int .i64 k)), (7, .lit (.int .i64 (i : Int)))], []⟩ (Gh.to (by simp) (by first | (simp -dsimp; done) | (simp -dsimp [↓e52, h53, z55, h56, q57, h58, q59]; done) | simp_all) (by first | (simp -dsimp; done) | (simp -dsimp [↓e52, h53, z55, h56, q57, h58, q59]; done) | simp_all) (by first | (simp -dsimp; done) | (simp -dsimp [↓e52, h53, z55, h56, q57, h58, q59]; done) | simp_all)) ?_
          exact hq
      · have q57 : ((i : Int) < d) := by first | exact h56 | omega | (simpa using h56) | (simp at h56 ⊢; omega) | simp_all
        rw [if_pos q57] at hF
        simp -dsimp [↓e52, h53, z55, h56, q57]
        repeat (refine chk.go (by first | omega | assumption | (simp_all; done) | (simp_all; omega)) ?_; try simp -dsimp [↓e52, h53, z55, h56, q57])
        refine ADraw.simple follows (by kernel_rfl) (by kernel_rfl) ?_
        have hF := ob hF; obtain ⟨x74, e75a, hF⟩ := hF
        have e75a := at_some e75a; obtain ⟨ne75, e75⟩ := e75a
        have le75 := lt_of_get e75
        simp -dsimp [↓e52, h53, z55, h56, q57, ↓e75]
        repeat (refine chk.go (by first | omega | assumption | (simp_all; done) | (simp_all; omega)) ?_; try simp -dsimp [↓e52, h53, z55, h56, q57, ↓e75])
        refine abr.split (fun h76 => ?_) (fun h76 => ?_)
        · have q77 : (k < (x74.ctors.length : Int)) := by first | exact h76 | omega | (simpa using h76) | (simp at h76 ⊢; omega) | simp_all
          rw [if_pos q77] at hF
          have hF := ob hF; obtain ⟨x78, e79, hF⟩ := hF
          have le79 := lt_of_get e79
          have hF := ob hF; obtain ⟨x80, e81a, hF⟩ := hF
          have e81a := at_some e81a; obtain ⟨ne81, e81⟩ := e81a
          have le81 := lt_of_get e81
          simp -dsimp [↓e52, h53, z55, h56, q57, ↓e75, h76, ↓e79, ↓e81]
          repeat (refine chk.go (by first | omega | assumption | (simp_all; done) | (simp_all; omega)) ?_; try simp -dsimp [↓e52, h53, z55, h56, q57, ↓e75, h76, ↓e79, ↓e81])
          refine abr.split (fun h82 => ?_) (fun h82 => ?_)
          · have q83 : (x78.name.toList = x80.name.toList) := by first | exact h82 | omega | (simpa using h82) | (simp at h82 ⊢; omega) | simp_all
            rw [if_pos q83] at hF
            cases hF
            simp -dsimp [↓e52, h53, z55, h56, q57, ↓e75, h76, ↓e79, ↓e81, h82]
            repeat (refine chk.go (by first | omega | assumption | (simp_all; done) | (simp_all; omega)) ?_; try simp -dsimp [↓e52, h53, z55, h56, q57, ↓e75, h76, ↓e79, ↓e81, h82])
            refine Leave.go _ (Gh.refl _) (hq _ ?_)
            simp -dsimp [↓e52, h53, z55, h56, q57, ↓e75, h76, ↓e79, ↓e81, h82]
            repeat (refine chk.go (by first | omega | assumption | (simp_all; done) | (simp_all; omega)) ?_; try simp -dsimp [↓e52, h53, z55, h56, q57, ↓e75, h76, ↓e79, ↓e81, h82])
          · have q83 : ¬ (x78.name.toList = x80.name.toList) := by first | exact h82 | omega | (simpa using h82) | (simp at h82 ⊢; omega) | simp_all
            rw [if_neg q83] at hF
            have hF := oc hF; obtain ⟨c84, hF⟩ := hF
            have w85 : IntKind.i64.wrap ((j50 : Int) + 1) = (j50 : Int) + 1 := wrap_in (by omega) (by omega)
            simp -dsimp [↓e52, h53, z55, h56, q57, ↓e75, h76, ↓e79, ↓e81, h82, q83, w85]
            repeat (refine chk.go (by first | omega | assumption | (simp_all; done) | (simp_all; omega)) ?_; try simp -dsimp [↓e52, h53, z55, h56, q57, ↓e75, h76, ↓e79, ↓e81, h82, q83, w85])
            refine Again.go ⟨[(0, .arr (List.map Vl.Data.c w)), (1, .lit (.int .i64 d)), (2, .lit (.int .i64 k)), (7, .lit (.int .i64 (i : Int))), (8, .lit (.int .i64 ((j50 + 1) : Int)))], []⟩ (Gh.to (by simp) (by first | (simp -dsimp; done) | (simp -dsimp [↓e52, h53, z55, h56, q57, ↓e75, h76, ↓e79, ↓e81, h82, q83, w85]; done) | simp_all) (by first | (simp -dsimp; done) | (simp -dsimp [↓e52, h53, z55, h56, q57, ↓e75, h76, ↓e79, ↓e81, h82, q83, w85]; done) | simp_all) (by first | (simp -dsimp; done) | (simp -dsimp [↓e52, h53, z55, h56, q57, ↓e75, h76, ↓e79, ↓e81, h82, q83, w85]; done) | simp_all)) ?_
            exact (ih_spec_l1Twice_l3 (j50 + 1) o hF) _ rfl _ hq
        · have q77 : ¬ (k < (x74.ctors.length : Int)) := by first | exact h76 | omega | (simpa using h76) | (simp at h76 ⊢; omega) | simp_all
          rw [if_neg q77] at hF
          have hF := oc hF; obtain ⟨c86, hF⟩ := hF
          have w87 : IntKind.i64.wrap ((j50 : Int) + 1) = (j50 : Int) + 1 := wrap_in (by omega) (by omega)
          simp -dsimp [↓e52, h53, z55, h56, q57, ↓e75, h76, q77, w87]
          repeat (refine chk.go (by first | omega | assumption | (simp_all; done) | (simp_all; omega)) ?_; try simp -dsimp [↓e52, h53, z55, h56, q57, ↓e75, h76, q77, w87])
          refine Again.go ⟨[(0, .arr (List.map Vl.Data.c w)), (1, .lit (.int .i64 d)), (2, .lit (.int .i64 k)), (7, .lit (.int .i64 (i : Int))), (8, .lit (.int .i64 ((j50 + 1) : Int)))], []⟩ (Gh.to (by simp) (by first | (simp -dsimp; done) | (simp -dsimp [↓e52, h53, z55, h56, q57, ↓e75, h76, q77, w87]; done) | simp_all) (by first | (simp -dsimp; done) | (simp -dsimp [↓e52, h53, z55, h56, q57, ↓e75, h76, q77, w87]; done) | simp_all) (by first | (simp -dsimp; done) | (simp -dsimp [↓e52, h53, z55, h56, q57, ↓e75, h76, q77, w87]; done) | simp_all)) ?_
          exact (ih_spec_l1Twice_l3 (j50 + 1) o hF) _ rfl _ hq
    · have q54 : ¬ (j50 < x51.ctors.length) := by first | exact h53 | omega | (simpa using h53) | (simp at h53 ⊢; omega) | simp_all
      have z55 : ¬ ((j50 : Int) < (x51.ctors.length : Int)) := by first | omega | simp_all
      rw [if_neg q54] at hF
      cases hF
      simp -dsimp [↓e52, h53, q54, z55]
      repeat (refine chk.go (by first | omega | assumption | (simp_all; done) | (simp_all; omega)) ?_; try simp -dsimp [↓e52, h53, q54, z55])
      refine Leave.go ⟨[(0, .arr (List.map Vl.Data.c w)), (1, .lit (.int .i64 d)), (2, .lit (.int .i64 k)), (7, .lit (.int .i64 (i : Int)))], []⟩ (Gh.to (by simp) (by first | (simp -dsimp; done) | (simp -dsimp [↓e52, h53, q54, z55]; done) | simp_all) (by first | (simp -dsimp; done) | (simp -dsimp [↓e52, h53, q54, z55]; done) | simp_all) (by first | (simp -dsimp; done) | (simp -dsimp [↓e52, h53, q54, z55]; done) | simp_all)) ?_
      exact hq

theorem C.spec_l1Twice_l3 (B : Nat) (hB1 : 67108864 ≤ B) (hB2 : B ≤ 9223372036854775807) (w : List Vl.Data) (d : Int) (k : Int) (i : Nat) (j50 : Nat) (o : Lo Bool Unit) (hF : F.spec_l1Twice_l3 w d k i j50 = some o) : ∀ (c : Code), navO [1, 0, 1, 0, 0, 1, 0, 0, 1, 1, 0, 0] (bodyOf Try.f92) = some c → ∀ (Q : Exit → ASt → Prop), o.post (fun r => ∀ st, Post Try.prog Try.f92 (fun r' _ => r'.le (.lit (.bool r))) .ret st → Q .ret st) (fun s => Q (.exit 2) ⟨[(0, .arr (List.map Vl.Data.c w)), (1, .lit (.int .i64 d)), (2, .lit (.int .i64 k)), (7, .lit (.int .i64 (i : Int)))], []⟩) → ALoopU Try.prog B 0 79 (hold c .mk) ⟨[(0, .arr (List.map Vl.Data.c w)), (1, .lit (.int .i64 d)), (2, .lit (.int .i64 k)), (7, .lit (.int .i64 (i : Int))), (8, .lit (.int .i64 (j50 : Int)))], []⟩ (hold Q .mk) :=
  (CC.spec_l1Twice_l3 B hB1 hB2 w d k i) j50 o hF

set_option maxRecDepth 100000 in
set_option maxHeartbeats 400000 in
theorem CC.spec_l1Twice_l1 (B : Nat) (hB1 : 67108864 ≤ B) (hB2 : B ≤ 9223372036854775807) (w : List Vl.Data) (d : Int) (k : Int) : (∀ (i : Nat) (o : Lo Bool Unit), F.spec_l1Twice_l1 w d k i = some o → ∀ (c : Code), navO [1, 0, 1, 0, 0] (bodyOf Try.f92) = some c → ∀ (Q : Exit → ASt → Prop), o.post (fun r => ∀ st, Post Try.prog Try.f92 (fun r' _ => r'.le (.lit (.bool r))) .ret st → Q .ret st) (fun s => Q (.exit 0) ⟨[], []⟩) → ALoopU Try.prog B 0 79 (hold c .mk) ⟨[(0, .arr (List.map Vl.Data.c w)), (1, .lit (.int .i64 d)), (2, .lit (.int .i64 k)), (7, .lit (.int .i64 (i : Int)))], []⟩ (hold Q .mk)) := by
  refine F.spec_l1Twice_l1.partial_correctness w d k
    (fun i o => ∀ (c : Code), navO [1, 0, 1, 0, 0] (bodyOf Try.f92) = some c → ∀ (Q : Exit → ASt → Prop), o.post (fun r => ∀ st, Post Try.prog Try.f92 (fun r' _ => r'.le (.lit (.bool r))) .ret st → Q .ret st) (fun s => Q (.exit 0) ⟨[], []⟩) → ALoopU Try.prog B 0 79 (hold c .mk) ⟨[(0, .arr (List.map Vl.Data.c w)), (1, .lit (.int .i64 d)), (2, .lit (.int .i64 k)), (7, .lit (.int .i64 (i : Int)))], []⟩ (hold Q .mk))
    ?_
  · intro _f_spec_l1Twice_l1 ih_spec_l1Twice_l1 i o hF
    intro c hc Q hq
    obtain rfl : c = _ := navEq hc rfl
    refine ALoopU.know fun hk hs => ?_
    have b0 := hk 0
    simp -dsimp at b0
    clear hk hs
    refine ALoopU.enter ?_
    simp -dsimp
    repeat (refine chk.go (by first | omega | assumption | (simp_all; done) | (simp_all; omega)) ?_; try simp -dsimp)
    refine abr.split (fun h1 => ?_) (fun h1 => ?_)
    · have q2 : ((i : Int) ≤ d) := by first | exact h1 | omega | (simpa using h1) | (simp at h1 ⊢; omega) | simp_all
      rw [if_pos q2] at hF
      simp -dsimp [h1]
      repeat (refine chk.go (by first | omega | assumption | (simp_all; done) | (simp_all; omega)) ?_; try simp -dsimp [h1])
      refine ADraw.simple follows (by kernel_rfl) (by kernel_rfl) ?_
      simp -dsimp [h1]
      repeat (refine chk.go (by first | omega | assumption | (simp_all; done) | (simp_all; omega)) ?_; try simp -dsimp [h1])
      refine abr.split (fun h3 => ?_) (fun h3 => ?_)
      · have q4 : ((i : Int) < d) := by first | exact h3 | omega | (simpa using h3) | (simp at h3 ⊢; omega) | simp_all
        rw [if_pos q4] at hF
        have hF := ob hF; obtain ⟨x, e5, hF⟩ := hF
        have le5 := lt_of_get e5
        have hF := ob hF; obtain ⟨x6, e7a, hF⟩ := hF
        have e7a := at_some e7a; obtain ⟨ne7, e7⟩ := e7a
        have le7 := lt_of_get e7
        simp -dsimp [h1, h3, ↓e5, ↓e7]
        repeat (refine chk.go (by first | omega | assumption | (simp_all; done) | (simp_all; omega)) ?_; try simp -dsimp [h1, h3, ↓e5, ↓e7])
        refine abr.split (fun h8 => ?_) (fun h8 => ?_)
        · have q9 : (x.name.toList = x6.name.toList) := by first | exact h8 | omega | (simpa using h8) | (simp at h8 ⊢; omega) | simp_all
          rw [if_pos q9] at hF
          cases hF
          simp -dsimp [h1, h3, ↓e5, ↓e7, h8]
          repeat (refine chk.go (by first | omega | assumption | (simp_all; done) | (simp_all; omega)) ?_; try simp -dsimp [h1, h3, ↓e5, ↓e7, h8])
          refine Leave.go _ (Gh.refl _) (hq _ ?_)
          simp -dsimp [h1, h3, ↓e5, ↓e7, h8]
          repeat (refine chk.go (by first | omega | assumption | (simp_all; done) | (simp_all; omega)) ?_; try simp -dsimp [h1, h3, ↓e5, ↓e7, h8])
        · have q9 : ¬ (x.name.toList = x6.name.toList) := by first | exact h8 | omega | (simpa using h8) | (simp at h8 ⊢; omega) | simp_all
          rw [if_neg q9] at hF
          simp -dsimp [h1, h3, ↓e5, ↓e7, h8, q9]
          repeat (refine chk.go (by first | omega | assumption | (simp_all; done) | (simp_all; omega)) ?_; try simp -dsimp [h1, h3, ↓e5, ↓e7, h8, q9])
          have hF := ob hF; obtain ⟨o', ho47, hF⟩ := hF
          refine ALoop.goU ⟨[(0, .arr (List.map Vl.Data.c w)), (1, .lit (.int .i64 d)), (2, .lit (.int .i64 k)), (7, .lit (.int .i64 (i : Int))), (8, .lit (.int .i64 (0 : Int)))], []⟩ (Gh.to (by simp) (by first | (simp -dsimp; done) | (simp -dsimp [h1, h3, ↓e5, ↓e7, h8, q9]; done) | simp_all) (by first | (simp -dsimp; done) | (simp -dsimp [h1, h3, ↓e5, ↓e7, h8, q9]; done) | simp_all) (by first | (simp -dsimp; done) | (simp -dsimp [h1, h3, ↓e5, ↓e7, h8, q9]; done) | simp_all)) ?_
          refine (C.spec_l1Twice_l2 B hB1 hB2 w d k i 0 o' ho47) _ rfl _ ?_
          rcases o' with r0 | s
          · dsimp only at hF
            cases hF
            intro st h
            simp -dsimp
            refine Leave.go st (Gh.refl _) (hq st h)
          · dsimp only at hF
            have hF := oc hF; obtain ⟨c48, hF⟩ := hF
            have w49 : IntKind.i64.wrap ((i : Int) + 1) = (i : Int) + 1 := wrap_in (by omega) (by omega)
            simp -dsimp [w49]
            repeat (refine chk.go (by first | omega | assumption | (simp_all; done) | (simp_all; omega)) ?_; try simp -dsimp [w49])
            refine Again.go ⟨[(0, .arr (List.map Vl.Data.c w)), (1, .lit (.int .i64 d)), (2, .lit (.int .i64 k)), (7, .lit (.int .i64 ((i + 1) : Int)))], []⟩ (Gh.to (by simp) (by first | (simp -dsimp; done) | (simp -dsimp [w49]; done) | simp_all) (by first | (simp -dsimp; done) | (simp -dsimp [w49]; done) | simp_all) (by first | (simp -dsimp; done) | (simp -dsimp [w49]; done) | simp_all)) ?_
            exact (ih_spec_l1Twice_l1 (i + 1) o hF) _ rfl _ hq
      · have q4 : ¬ ((i : Int) < d) := by first | exact h3 | omega | (simpa using h3) | (simp at h3 ⊢; omega) | simp_all
        rw [if_neg q4] at hF
        simp -dsimp [h1, h3, q4]
        repeat (refine chk.go (by first | omega | assumption | (simp_all; done) | (simp_all; omega)) ?_; try simp -dsimp [h1, h3, q4])
        have hF := ob hF; obtain ⟨o'89, ho88, hF⟩ := hF
        refine ALoop.goU ⟨[(0, .arr (List.map Vl.Data.c w)), (1, .lit (.int .i64 d)), (2, .lit (.int .i64 k)), (7, .lit (.int .i64 (i : Int))), (8, .lit (.int .i64 (0 : Int)))], []⟩ (Gh.to (by simp) (by first | (simp -dsimp; done) | (simp -dsimp [h1, h3, q4]; done) | simp_all) (by first | (simp -dsimp; done) | (simp -dsimp [h1, h3, q4]; done) | simp_all) (by first | (simp -dsimp; done) | (simp -dsimp [h1, h3, q4]; done) | simp_all)) ?_
        refine (C.spec_l1Twice_l3 B hB1 hB2 w d k i 0 o'89 ho88) _ rfl _ ?_
        rcases o'89 with r093 | s90
        · dsimp only at hF
          cases hF
          intro st h
          simp -dsimp
          refine Leave.go st (Gh.refl _) (hq st h)
        · dsimp only at hF
          have hF := oc hF; obtain ⟨c91, hF⟩ := hF
          have w92 : IntKind.i64.wrap ((i : Int) + 1) = (i : Int) + 1 := wrap_in (by omega) (by omega)
          simp -dsimp [w92]
          repeat (refine chk.go (by first | omega | assumption | (simp_all; done) | (simp_all; omega)) ?_; try simp -dsimp [w92])
          refine Again.go ⟨[(0, .arr (List.map Vl.Data.c w)), (1, .lit (.int .i64 d)), (2, .lit (.int .i64 k)), (7, .lit (.int .i64 ((i + 1) : Int)))], []⟩ (Gh.to (by simp) (by first | (simp -dsimp; done) | (simp -dsimp [w92]; done) | simp_all) (by first | (simp -dsimp; done) | (simp -dsimp [w92]; done) | simp_all) (by first | (simp -dsimp; done) | (simp -dsimp [w92]; done) | simp_all)) ?_
          exact (ih_spec_l1Twice_l1 (i + 1) o hF) _ rfl _ hq
    · have q2 : ¬ ((i : Int) ≤ d) := by first | exact h1 | omega | (simpa using h1) | (simp at h1 ⊢; omega) | simp_all
      rw [if_neg q2] at hF
      cases hF
      simp -dsimp [h1, q2]
      repeat (refine chk.go (by first | omega | assumption | (simp_all; done) | (simp_all; omega)) ?_; try simp -dsimp [h1, q2])
      refine Leave.go ⟨[], []⟩ (Gh.to (by simp) (by first | (simp -dsimp; done) | (simp -dsimp [h1, q2]; done) | simp_all) (by first | (simp -dsimp; done) | (simp -dsimp [h1, q2]; done) | simp_all) (by first | (simp -dsimp; done) | (simp -dsimp [h1, q2]; done) | simp_all)) ?_
      exact hq

theorem C.spec_l1Twice_l1 (B : Nat) (hB1 : 67108864 ≤ B) (hB2 : B ≤ 9223372036854775807) (w : List Vl.Data) (d : Int) (k : Int) (i : Nat) (o : Lo Bool Unit) (hF : F.spec_l1Twice_l1 w d k i = some o) : ∀ (c : Code), navO [1, 0, 1, 0, 0] (bodyOf Try.f92) = some c → ∀ (Q : Exit → ASt → Prop), o.post (fun r => ∀ st, Post Try.prog Try.f92 (fun r' _ => r'.le (.lit (.bool r))) .ret st → Q .ret st) (fun s => Q (.exit 0) ⟨[], []⟩) → ALoopU Try.prog B 0 79 (hold c .mk) ⟨[(0, .arr (List.map Vl.Data.c w)), (1, .lit (.int .i64 d)), (2, .lit (.int .i64 k)), (7, .lit (.int .i64 (i : Int)))], []⟩ (hold Q .mk) :=
  (CC.spec_l1Twice_l1 B hB1 hB2 w d k) i o hF

set_option maxRecDepth 100000 in
set_option maxHeartbeats 400000 in
theorem C.spec_l1Twice (B : Nat) (hB1 : 67108864 ≤ B) (hB2 : B ≤ 9223372036854775807) (w : List Vl.Data) (d : Int) (k : Int) (r : Bool) (hF : F.spec_l1Twice w d k = some r) : PureCall Try.prog B 92 [.arr (List.map Vl.Data.c w), .lit (.int .i64 d), .lit (.int .i64 k)] (.lit (.bool r)) := by
  unfold F.spec_l1Twice at hF
  refine PureCall.enterLe Try.func92 (by kernel_rfl) rfl Try.ntmps92 (by simp) (by simp) ?_
  simp -dsimp
  repeat (refine chk.go (by first | omega | assumption | (simp_all; done) | (simp_all; omega)) ?_; try simp -dsimp)
  have hF := ob hF; obtain ⟨o'95, ho94, hF⟩ := hF
  refine ALoop.goU ⟨[(0, .arr (List.map Vl.Data.c w)), (1, .lit (.int .i64 d)), (2, .lit (.int .i64 k)), (7, .lit (.int .i64 (0 : Int)))], []⟩ (Gh.to (by simp) (by simp -dsimp) (by simp -dsimp) (by simp -dsimp)) ?_
  refine (C.spec_l1Twice_l1 B hB1 hB2 w d k 0 o'95 ho94) _ rfl _ ?_
  rcases o'95 with r097 | s96
  · dsimp only at hF
    cases hF
    intro st h
    simpa using h
  · dsimp only at hF
    cases hF
    simp -dsimp
    repeat (refine chk.go (by first | omega | assumption | (simp_all; done) | (simp_all; omega)) ?_; try simp -dsimp)

set_option maxRecDepth 100000 in
set_option maxHeartbeats 400000 in
theorem CC.spec_WorldValid_l2 (B : Nat) (hB1 : 67108864 ≤ B) (hB2 : B ≤ 9223372036854775807) (w : List Vl.Data) (d : Nat) : (∀ (k : Nat) (o : Lo Bool Unit), F.spec_WorldValid_l2 w d k = some o → ∀ (c : Code), navO [1, 1, 0, 1, 0, 0, 1, 0, 0, 1, 1, 0, 0] (bodyOf Try.f75) = some c → ∀ (Q : Exit → ASt → Prop), o.post (fun r => ∀ st, Post Try.prog Try.f75 (fun r' _ => r'.le (.lit (.bool r))) .ret st → Q .ret st) (fun s => Q (.exit 2) ⟨[(0, .arr (List.map Vl.Data.c w)), (3, .lit (.int .i64 (d : Int)))], []⟩) → ALoopU Try.prog B 0 67 (hold c .mk) ⟨[(0, .arr (List.map Vl.Data.c w)), (3, .lit (.int .i64 (d : Int))), (4, .lit (.int .i64 (k : Int)))], []⟩ (hold Q .mk)) := by
  refine F.spec_WorldValid_l2.partial_correctness w d
    (fun k o => ∀ (c : Code), navO [1, 1, 0, 1, 0, 0, 1, 0, 0, 1, 1, 0, 0] (bodyOf Try.f75) = some c → ∀ (Q : Exit → ASt → Prop), o.post (fun r => ∀ st, Post Try.prog Try.f75 (fun r' _ => r'.le (.lit (.bool r))) .ret st → Q .ret st) (fun s => Q (.exit 2) ⟨[(0, .arr (List.map Vl.Data.c w)), (3, .lit (.int .i64 (d : Int)))], []⟩) → ALoopU Try.prog B 0 67 (hold c .mk) ⟨[(0, .arr (List.map Vl.Data.c w)), (3, .lit (.int .i64 (d : Int))), (4, .lit (.int .i64 (k : Int)))], []⟩ (hold Q .mk))
    ?_
  · intro _f_spec_WorldValid_l2 ih_spec_WorldValid_l2 k o hF
    intro c hc Q hq
    obtain rfl : c = _ := navEq hc rfl
    refine ALoopU.know fun hk hs => ?_
    have b0 := hk 0
    simp -dsimp at b0
    clear hk hs
    refine ALoopU.enter ?_
    have hF := ob hF; obtain ⟨x17, e18, hF⟩ := hF
    have le18 := lt_of_get e18
    simp -dsimp [↓e18]
    repeat (refine chk.go (by first | omega | assumption | (simp_all; done) | (simp_all; omega)) ?_; try simp -dsimp [↓e18])
    refine abr.split (fun h19 => ?_) (fun h19 => ?_)
    · have q20 : (k < x17.ctors.length) := by first | exact h19 | omega | (simpa using h19) | (simp at h19 ⊢; omega) | simp_all
      have z21 : ((k : Int) < (x17.ctors.length : Int)) := by first | omega | simp_all
      rw [if_pos q20] at hF
      have hF := ob hF; obtain ⟨x22, e23, hF⟩ := hF
      have le23 := lt_of_get e23
      simp -dsimp [↓e18, h19, z21, ↓e23]
      repeat (refine chk.go (by first | omega | assumption | (simp_all; done) | (simp_all; omega)) ?_; try simp -dsimp [↓e18, h19, z21, ↓e23])
      have hF := ob hF; obtain ⟨v24, e25, hF⟩ := hF
      refine ((C.spec_l1Ctor B hB1 hB2 (w.length : Int) x22 v24 e25)).goW (by first | (simp; done) | (simp [↓e18, h19, z21, ↓e23]; done) | simp_all) (by simp) ?_
      simp -dsimp [↓e18, h19, z21, ↓e23]
      repeat (refine chk.go (by first | omega | assumption | (simp_all; done) | (simp_all; omega)) ?_; try simp -dsimp [↓e18, h19, z21, ↓e23])
      refine abr.split (fun h26 => ?_) (fun h26 => ?_)
      · have q27 : (v24 = true) := by first | exact h26 | omega | (simpa using h26) | (simp at h26 ⊢; omega) | simp_all
        rw [if_pos q27] at hF
        simp -dsimp [↓e18, h19, z21, ↓e23, h26]
        repeat (refine chk.go (by first | omega | assumption | (simp_all; done) | (simp_all; omega)) ?_; try simp -dsimp [↓e18, h19, z21, ↓e23, h26])
        have hF := ob hF; obtain ⟨v28, e29, hF⟩ := hF
        refine ((C.spec_l1Twice B hB1 hB2 w (d : Int) (k : Int) v28 e29)).goW (by first | (simp; done) | (simp [↓e18, h19, z21, ↓e23, h26]; done) | simp_all) (by simp) ?_
        simp -dsimp [↓e18, h19, z21, ↓e23, h26]
        repeat (refine chk.go (by first | omega | assumption | (simp_all; done) | (simp_all; omega)) ?_; try simp -dsimp [↓e18, h19, z21, ↓e23, h26])
        refine abr.split (fun h30 => ?_) (fun h30 => ?_)
        · have q31 : (v28 = true) := by first | exact h30 | omega | (simpa using h30) | (simp at h30 ⊢; omega) | simp_all
          rw [if_pos q31] at hF
          cases hF
          simp -dsimp [↓e18, h19, z21, ↓e23, h26, h30]
          repeat (refine chk.go (by first | omega | assumption | (simp_all; done) | (simp_all; omega)) ?_; try simp -dsimp [↓e18, h19, z21, ↓e23, h26, h30])
          refine Leave.go _ (Gh.refl _) (hq _ ?_)
          simp -dsimp [↓e18, h19, z21, ↓e23, h26, h30]
          repeat (refine chk.go (by first | omega | assumption | (simp_all; done) | (simp_all; omega)) ?_; try simp -dsimp [↓e18, h19, z21, ↓e23, h26, h30])
        · have q31 : ¬ (v28 = true) := by first | exact h30 | omega | (simpa using h30) | (simp at h30 ⊢; omega) | simp_all
          rw [if_neg q31] at hF
          have hF := oc hF; obtain ⟨c32, hF⟩ := hF
          have w33 : IntKind.i64.wrap ((k : Int) + 1) = (k : Int) + 1 := wrap_in (by omega) (by omega)
          simp -dsimp [↓e18, h19, z21, ↓e23, h26, h30, q31, w33]
          repeat (refine chk.go (by first | omega | assumption | (simp_all; done) | (simp_all; omega)) ?_; try simp -dsimp [↓e18, h19, z21, ↓e23, h26, h30, q31, w33])
          refine Again.go ⟨[(0, .arr (List.map Vl.Data.c w)), (3, .lit (.int .i64 (d : Int))), (4, .lit (.int .i64 ((k + 1) : Int)))], []⟩ (Gh.to (by simp) (by first | (simp -dsimp; done) | (simp -dsimp [↓e18, h19, z21, ↓e23, h26, h30, q31, w33]; done) | simp_all) (by first | (simp -dsimp; done) | (simp -dsimp [↓e18, h19, z21, ↓e23, h26, h30, q31, w33]; done) | simp_all) (by first | (simp -dsimp; done) | (simp -dsimp [↓e18, h19, z21, ↓e23, h26, h30, q31, w33]; done) | simp_all)) ?_
          exact (ih_spec_WorldValid_l2 (k + 1) o hF) _ rfl _ hq
      · have q27 : ¬ (v24 = true) := by first | exact h26 | omega | (simpa using h26) | (simp at h26 ⊢; omega) | simp_all
        rw [if_neg q27] at hF
        cases hF
        simp -dsimp [↓e18, h19, z21, ↓e23, h26, q27]
        repeat (refine chk.go (by first | omega | assumption | (simp_all; done) | (simp_all; omega)) ?_; try simp -dsimp [↓e18, h19, z21, ↓e23, h26, q27])
        refine Leave.go _ (Gh.refl _) (hq _ ?_)
        simp -dsimp [↓e18, h19, z21, ↓e23, h26, q27]
        repeat (refine chk.go (by first | omega | assumption | (simp_all; done) | (simp_all; omega)) ?_; try simp -dsimp [↓e18, h19, z21, ↓e23, h26, q27])
    · have q20 : ¬ (k < x17.ctors.length) := by first | exact h19 | omega | (simpa using h19) | (simp at h19 ⊢; omega) | simp_all
      have z21 : ¬ ((k : Int) < (x17.ctors.length : Int)) := by first | omega | simp_all
      rw [if_neg q20] at hF
      cases hF
      simp -dsimp [↓e18, h19, q20, z21]
      repeat (refine chk.go (by first | omega | assumption | (simp_all; done) | (simp_all; omega)) ?_; try simp -dsimp [↓e18, h19, q20, z21])
      refine Leave.go ⟨[(0, .arr (List.map Vl.Data.c w)), (3, .lit (.int .i64 (d : Int)))], []⟩ (Gh.to (by simp) (by first | (simp -dsimp; done) | (simp -dsimp [↓e18, h19, q20, z21]; done) | simp_all) (by first | (simp -dsimp; done) | (simp -dsimp [↓e18, h19, q20, z21]; done) | simp_all) (by first | (simp -dsimp; done) | (simp -dsimp [↓e18, h19, q20, z21]; done) | simp_all)) ?_
      exact hq

theorem C.spec_WorldValid_l2 (B : Nat) (hB1 : 67108864 ≤ B) (hB2 : B ≤ 9223372036854775807) (w : List Vl.Data) (d : Nat) (k : Nat) (o : Lo Bool Unit) (hF : F.spec_WorldValid_l2 w d k = some o) : ∀ (c : Code), navO [1, 1, 0, 1, 0, 0, 1, 0, 0, 1, 1, 0, 0] (bodyOf Try.f75) = some c → ∀ (Q : Exit → ASt → Prop), o.post (fun r => ∀ st, Post Try.prog Try.f75 (fun r' _ => r'.le (.lit (.bool r))) .ret st → Q .ret st) (fun s => Q (.exit 2) ⟨[(0, .arr (List.map Vl.Data.c w)), (3, .lit (.int .i64 (d : Int)))], []⟩) → ALoopU Try.prog B 0 67 (hold c .mk) ⟨[(0, .arr (List.map Vl.Data.c w)), (3, .lit (.int .i64 (d : Int))), (4, .lit (.int .i64 (k : Int)))], []⟩ (hold Q .mk) :=
  (CC.spec_WorldValid_l2 B hB1 hB2 w d) k o hF

set_option maxRecDepth 100000 in
set_option maxHeartbeats 400000 in
theorem CC.spec_WorldValid_l1 (B : Nat) (hB1 : 67108864 ≤ B) (hB2 : B ≤ 9223372036854775807) (w : List Vl.Data) : (∀ (d : Nat) (o : Lo Bool Unit), F.spec_WorldValid_l1 w d = some o → ∀ (c : Code), navO [1, 1, 0, 1, 0, 0] (bodyOf Try.f75) = some c → ∀ (Q : Exit → ASt → Prop), o.post (fun r => ∀ st, Post Try.prog Try.f75 (fun r' _ => r'.le (.lit (.bool r))) .ret st → Q .ret st) (fun s => Q (.exit 0) ⟨[], []⟩) → ALoopU Try.prog B 0 67 (hold c .mk) ⟨[(0, .arr (List.map Vl.Data.c w)), (3, .lit (.int .i64 (d : Int)))], []⟩ (hold Q .mk)) := by
  refine F.spec_WorldValid_l1.partial_correctness w
    (fun d o => ∀ (c : Code), navO [1, 1, 0, 1, 0, 0] (bodyOf Try.f75) = some c → ∀ (Q : Exit → ASt → Prop), o.post (fun r => ∀ st, Post Try.prog Try.f75 (fun r' _ => r'.le (.lit (.bool r))) .ret st → Q .ret st) (fun s => Q (.exit 0) ⟨[], []⟩) → ALoopU Try.prog B 0 67 (hold c .mk) ⟨[(0, .arr (List.map Vl.Data.c w)), (3, .lit (.int .i64 (d : Int)))], []⟩ (hold Q .mk))
    ?_
  · intro _f_spec_WorldValid_l1 ih_spec_WorldValid_l1 d o hF
    intro c hc Q hq
    obtain rfl : c = _ := navEq hc rfl
    refine ALoopU.know fun hk hs => ?_
    have b0 := hk 0
    simp -dsimp at b0
    clear hk hs
    refine ALoopU.enter ?_
    simp -dsimp
    repeat (refine chk.go (by first | omega | assumption | (simp_all; done) | (simp_all; omega)) ?_; try simp -dsimp)
    refine abr.split (fun h4 => ?_) (fun h4 => ?_)
    · have q5 : (d < w.length) := by first | exact h4 | omega | (simpa using h4) | (simp at h4 ⊢; omega) | simp_all
      have z6 : ((d : Int) < (w.length : Int)) := by first | omega | simp_all
      rw [if_pos q5] at hF
      have hF := ob hF; obtain ⟨x, e7, hF⟩ := hF
      have le7 := lt_of_get e7
      simp -dsimp [h4, z6, ↓e7]
      repeat (refine chk.go (by first | omega | assumption | (simp_all; done) | (simp_all; omega)) ?_; try simp -dsimp [h4, z6, ↓e7])
      have hF := ob hF; obtain ⟨v, e8, hF⟩ := hF
      refine ((C.spec_l1Data B hB1 hB2 x.name v e8)).goW (by first | (simp; done) | (simp [h4, z6, ↓e7]; done) | simp_all) (by simp) ?_
      simp -dsimp [h4, z6, ↓e7]
      repeat (refine chk.go (by first | omega | assumption | (simp_all; done) | (simp_all; omega)) ?_; try simp -dsimp [h4, z6, ↓e7])
      refine abr.split (fun h9 => ?_) (fun h9 => ?_)
      · have q10 : (v = true) := by first | exact h9 | omega | (simpa using h9) | (simp at h9 ⊢; omega) | simp_all
        rw [if_pos q10] at hF
        simp -dsimp [h4, z6, ↓e7, h9]
        repeat (refine chk.go (by first | omega | assumption | (simp_all; done) | (simp_all; omega)) ?_; try simp -dsimp [h4, z6, ↓e7, h9])
        refine abr.split (fun h11 => ?_) (fun h11 => ?_)
        · have q12 : ¬ (x.ctors.length = 0) := by first | exact h11 | omega | (simpa using h11) | (simp at h11 ⊢; omega) | simp_all
          have z13 : ¬ ((x.ctors.length : Int) = (0 : Int)) := by first | omega | simp_all
          rw [if_neg q12] at hF
          simp -dsimp [h4, z6, ↓e7, h9, h11, q12, z13]
          repeat (refine chk.go (by first | omega | assumption | (simp_all; done) | (simp_all; omega)) ?_; try simp -dsimp [h4, z6, ↓e7, h9, h11, q12, z13])
          refine abr.split (fun h14 => ?_) (fun h14 => ?_)
          · have q15 : (4 < x.ctors.length) := by first | exact h14 | omega | (simpa using h14) | (simp at h14 ⊢; omega) | simp_all
            have z16 : ((4 : Int) < (x.ctors.length : Int)) := by first | omega | simp_all
            rw [if_pos q15] at hF
            cases hF
            simp -dsimp [h4, z6, ↓e7, h9, h11, q12, z13, h14, z16]
            repeat (refine chk.go (by first | omega | assumption | (simp_all; done) | (simp_all; omega)) ?_; try simp -dsimp [h4, z6, ↓e7, h9, h11, q12, z13, h14, z16])
            refine Leave.go _ (Gh.refl _) (hq _ ?_)
            simp -dsimp [h4, z6, ↓e7, h9, h11, q12, z13, h14, z16]
            repeat (refine chk.go (by first | omega | assumption | (simp_all; done) | (simp_all; omega)) ?_; try simp -dsimp [h4, z6, ↓e7, h9, h11, q12, z13, h14, z16])
          · have q15 : ¬ (4 < x.ctors.length) := by first | exact h14 | omega | (simpa using h14) | (simp at h14 ⊢; omega) | simp_all
            have z16 : ¬ ((4 : Int) < (x.ctors.length : Int)) := by first | omega | simp_all
            rw [if_neg q15] at hF
            simp -dsimp [h4, z6, ↓e7, h9, h11, q12, z13, h14, q15, z16]
            repeat (refine chk.go (by first | omega | assumption | (simp_all; done) | (simp_all; omega)) ?_; try simp -dsimp [h4, z6, ↓e7, h9, h11, q12, z13, h14, q15, z16])
            have hF := ob hF; obtain ⟨o', ho34, hF⟩ := hF
            refine ALoop.goU ⟨[(0, .arr (List.map Vl.Data.c w)), (3, .lit (.int .i64 (d : Int))), (4, .lit (.int .i64 (0 : Int)))], []⟩ (Gh.to (by simp) (by first | (simp -dsimp; done) | (simp -dsimp [h4, z6, ↓e7, h9, h11, q12, z13, h14, q15, z16]; done) | simp_all) (by first | (simp -dsimp; done) | (simp -dsimp [h4, z6, ↓e7, h9, h11, q12, z13, h14, q15, z16]; done) | simp_all) (by first | (simp -dsimp; done) | (simp -dsimp [h4, z6, ↓e7, h9, h11, q12, z13, h14, q15, z16]; done) | simp_all)) ?_
            refine (C.spec_WorldValid_l2 B hB1 hB2 w d 0 o' ho34) _ rfl _ ?_
            rcases o' with r0 | s
            · dsimp only at hF
              cases hF
              intro st h
              simp -dsimp
              refine Leave.go st (Gh.refl _) (hq st h)
            · dsimp only at hF
              have hF := oc hF; obtain ⟨c35, hF⟩ := hF
              have w36 : IntKind.i64.wrap ((d : Int) + 1) = (d : Int) + 1 := wrap_in (by omega) (by omega)
              simp -dsimp [w36]
              repeat (refine chk.go (by first | omega | assumption | (simp_all; done) | (simp_all; omega)) ?_; try simp -dsimp [w36])
              refine Again.go ⟨[(0, .arr (List.map Vl.Data.c w)), (3, .lit (.int .i64 ((d + 1) : Int)))], []⟩ (Gh.to (by simp) (by first | (simp -dsimp; done) | (simp -dsimp [w36]; done) | simp_all) (by first | (simp -dsimp; done) | (simp -dsimp [w36]; done) | simp_all) (by first | (simp -dsimp; done) | (simp -dsimp [w36]; done) | simp_all)) ?_
              exact (ih_spec_WorldValid_l1 (d + 1) o hF) _ rfl _ hq
        · have q12 : (x.ctors.length = 0) := by first | exact h11 | omega | (simpa using h11) | (simp at h11 ⊢; omega) | simp_all
          have z13 : ((x.ctors.length : Int) = (0 : Int)) := by first | omega | simp_all
          rw [if_pos q12] at hF
          cases hF
          simp -dsimp [h4, z6, ↓e7, h9, h11, q12, z13]
          repeat (refine chk.go (by first | omega | assumption | (simp_all; done) | (simp_all; omega)) ?_; try simp -dsimp [h4, z6, ↓e7, h9, h11, q12, z13])
          refine Leave.go _ (Gh.refl _) (hq _ ?_)
          simp -dsimp [h4, z6, ↓e7, h9, h11, q12, z13]
          repeat (refine chk.go (by first | omega | assumption | (simp_all; done) | (simp_all; omega)) ?_; try simp -dsimp [h4, z6, ↓e7, h9, h11, q12, z13])
      · have q10 : ¬ (v = true) := by first | exact h9 | omega | (simpa using h9) | (simp at h9 ⊢; omega) | simp_all
        rw [if_neg q10] at hF
        cases hF
        simp -dsimp [h4, z6, ↓e7, h9, q10]
        repeat (refine chk.go (by first | omega | assumption | (simp_all; done) | (simp_all; omega)) ?_; try simp -dsimp [h4, z6, ↓e7, h9, q10])
        refine Leave.go _ (Gh.refl _) (hq _ ?_)
        simp -dsimp [h4, z6, ↓e7, h9, q10]
        repeat (refine chk.go (by first | omega | assumption | (simp_all; done) | (simp_all; omega)) ?_; try simp -dsimp [h4, z6, ↓e7, h9, q10])
    · have q5 : ¬ (d < w.length) := by first | exact h4 | omega | (simpa using h4) | (simp at h4 ⊢; omega) | simp_all
      have z6 : ¬ ((d : Int) < (w.length : Int)) := by first | omega | simp_all
      rw [if_neg q5] at hF
      cases hF
      simp -dsimp [h4, q5, z6]
      repeat (refine chk.go (by first | omega | assumption | (simp_all; done) | (simp_all; omega)) ?_; try simp -dsimp [h4, q5, z6])
      refine Leave.go ⟨[], []⟩ (Gh.to (by simp) (by first | (simp -dsimp; done) | (simp -dsimp [h4, q5, z6]; done) | simp_all) (by first | (simp -dsimp; done) | (simp -dsimp [h4, q5, z6]; done) | simp_all) (by first | (simp -dsimp; done) | (simp -dsimp [h4, q5, z6]; done) | simp_all)) ?_
      exact hq

theorem C.spec_WorldValid_l1 (B : Nat) (hB1 : 67108864 ≤ B) (hB2 : B ≤ 9223372036854775807) (w : List Vl.Data) (d : Nat) (o : Lo Bool Unit) (hF : F.spec_WorldValid_l1 w d = some o) : ∀ (c : Code), navO [1, 1, 0, 1, 0, 0] (bodyOf Try.f75) = some c → ∀ (Q : Exit → ASt → Prop), o.post (fun r => ∀ st, Post Try.prog Try.f75 (fun r' _ => r'.le (.lit (.bool r))) .ret st → Q .ret st) (fun s => Q (.exit 0) ⟨[], []⟩) → ALoopU Try.prog B 0 67 (hold c .mk) ⟨[(0, .arr (List.map Vl.Data.c w)), (3, .lit (.int .i64 (d : Int)))], []⟩ (hold Q .mk) :=
  (CC.spec_WorldValid_l1 B hB1 hB2 w) d o hF

set_option maxRecDepth 100000 in
set_option maxHeartbeats 400000 in
theorem C.spec_WorldValid (B : Nat) (hB1 : 67108864 ≤ B) (hB2 : B ≤ 9223372036854775807) (w : List Vl.Data) (r : Bool) (hF : F.spec_WorldValid w = some r) : PureCall Try.prog B 75 [.arr (List.map Vl.Data.c w)] (.lit (.bool r)) := by
  unfold F.spec_WorldValid at hF
  refine PureCall.enterLe Try.func75 (by kernel_rfl) rfl Try.ntmps75 (by simp) (by simp) ?_
  simp -dsimp
  repeat (refine chk.go (by first | omega | assumption | (simp_all; done) | (simp_all; omega)) ?_; try simp -dsimp)
  refine abr.split (fun h1 => ?_) (fun h1 => ?_)
  · have q2 : (4 < w.length) := by first | exact h1 | omega | (simpa using h1) | (simp at h1 ⊢; omega) | simp_all
    have z3 : ((4 : Int) < (w.length : Int)) := by first | omega | simp_all
    rw [if_pos q2] at hF
    cases hF
    simp -dsimp [h1, z3]
    repeat (refine chk.go (by first | omega | assumption | (simp_all; done) | (simp_all; omega)) ?_; try simp -dsimp [h1, z3])
  · have q2 : ¬ (4 < w.length) := by first | exact h1 | omega | (simpa using h1) | (simp at h1 ⊢; omega) | simp_all
    have z3 : ¬ ((4 : Int) < (w.length : Int)) := by first | omega | simp_all
    rw [if_neg q2] at hF
    simp -dsimp [h1, q2, z3]
    repeat (refine chk.go (by first | omega | assumption | (simp_all; done) | (simp_all; omega)) ?_; try simp -dsimp [h1, q2, z3])
    have hF := ob hF; obtain ⟨o'38, ho37, hF⟩ := hF
    refine ALoop.goU ⟨[(0, .arr (List.map Vl.Data.c w)), (3, .lit (.int .i64 (0 : Int)))], []⟩ (Gh.to (by simp) (by first | (simp -dsimp; done) | (simp -dsimp [h1, q2, z3]; done) | simp_all) (by first | (simp -dsimp; done) | (simp -dsimp [h1, q2, z3]; done) | simp_all) (by first | (simp -dsimp; done) | (simp -dsimp [h1, q2, z3]; done) | simp_all)) ?_
    refine (C.spec_WorldValid_l1 B hB1 hB2 w 0 o'38 ho37) _ rfl _ ?_
    rcases o'38 with r040 | s39
    · dsimp only at hF
      cases hF
      intro st h
      simpa using h
    · dsimp only at hF
      cases hF
      simp -dsimp
      repeat (refine chk.go (by first | omega | assumption | (simp_all; done) | (simp_all; omega)) ?_; try simp -dsimp)

set_option maxRecDepth 100000 in
set_option maxHeartbeats 400000 in
theorem CC.spec_l17Dec_l1 (B : Nat) (hB1 : 67108864 ≤ B) (hB2 : B ≤ 9223372036854775807)  : (∀ (n7 : Int) (out : ByteArray) (o : Int × ByteArray), F.spec_l17Dec_l1 n7 out = some o → ∀ (c : Code), navO [1, 1, 1, 1, 0, 0, 0] (bodyOf Try.f119) = some c → ∀ (Q : Exit → ASt → Prop), Q (.exit 0) ⟨[(0, .lit (.int .i64 o.1)), (3, .lit (.string o.2))], []⟩ → ALoopU Try.prog B 0 31 (hold c .mk) ⟨[(0, .lit (.int .i64 n7)), (3, .lit (.string out))], []⟩ (hold Q .mk)) := by
  refine F.spec_l17Dec_l1.partial_correctness 
    (fun n7 out o => ∀ (c : Code), navO [1, 1, 1, 1, 0, 0, 0] (bodyOf Try.f119) = some c → ∀ (Q : Exit → ASt → Prop), Q (.exit 0) ⟨[(0, .lit (.int .i64 o.1)), (3, .lit (.string o.2))], []⟩ → ALoopU Try.prog B 0 31 (hold c .mk) ⟨[(0, .lit (.int .i64 n7)), (3, .lit (.string out))], []⟩ (hold Q .mk))
    ?_
  · intro _f_spec_l17Dec_l1 ih_spec_l17Dec_l1 n7 out o hF
    intro c hc Q hq
    obtain rfl : c = _ := navEq hc rfl
    refine ALoopU.know fun hk hs => ?_
    clear hk hs
    refine ALoopU.enter ?_
    simp -dsimp
    repeat (refine chk.go (by first | omega | assumption | (simp_all; done) | (simp_all; omega)) ?_; try simp -dsimp)
    refine abr.split (fun h8 => ?_) (fun h8 => ?_)
    · have q9 : (9 < n7) := by first | exact h8 | omega | (simpa using h8) | (simp at h8 ⊢; omega) | simp_all
      rw [if_pos q9] at hF
      have hF := oc hF; obtain ⟨c10, hF⟩ := hF
      simp -dsimp [h8]
      repeat (refine chk.go (by first | omega | assumption | (simp_all; done) | (simp_all; omega)) ?_; try simp -dsimp [h8])
      refine Again.go ⟨[(0, .lit (.int .i64 (IntKind.i64.wrap (n7.tdiv 10)))), (3, .lit (.string ((strB [IntKind.u8.wrap (IntKind.i64.wrap (48 + n7.tmod 10))]) ++ out)))], []⟩ (Gh.to (by simp) (by first | (simp -dsimp; done) | (simp -dsimp [h8]; done) | simp_all) (by first | (simp -dsimp; done) | (simp -dsimp [h8]; done) | simp_all) (by first | (simp -dsimp; done) | (simp -dsimp [h8]; done) | simp_all)) ?_
      exact (ih_spec_l17Dec_l1 (IntKind.i64.wrap (n7.tdiv 10)) ((strB [IntKind.u8.wrap (IntKind.i64.wrap (48 + n7.tmod 10))]) ++ out) o hF) _ rfl _ hq
    · have q9 : ¬ (9 < n7) := by first | exact h8 | omega | (simpa using h8) | (simp at h8 ⊢; omega) | simp_all
      rw [if_neg q9] at hF
      cases hF
      simp -dsimp [h8, q9]
      repeat (refine chk.go (by first | omega | assumption | (simp_all; done) | (simp_all; omega)) ?_; try simp -dsimp [h8, q9])
      refine Leave.go ⟨[(0, .lit (.int .i64 n7)), (3, .lit (.string out))], []⟩ (Gh.to (by simp) (by first | (simp -dsimp; done) | (simp -dsimp [h8, q9]; done) | simp_all) (by first | (simp -dsimp; done) | (simp -dsimp [h8, q9]; done) | simp_all) (by first | (simp -dsimp; done) | (simp -dsimp [h8, q9]; done) | simp_all)) ?_
      exact hq

theorem C.spec_l17Dec_l1 (B : Nat) (hB1 : 67108864 ≤ B) (hB2 : B ≤ 9223372036854775807) (n7 : Int) (out : ByteArray) (o : Int × ByteArray) (hF : F.spec_l17Dec_l1 n7 out = some o) : ∀ (c : Code), navO [1, 1, 1, 1, 0, 0, 0] (bodyOf Try.f119) = some c → ∀ (Q : Exit → ASt → Prop), Q (.exit 0) ⟨[(0, .lit (.int .i64 o.1)), (3, .lit (.string o.2))], []⟩ → ALoopU Try.prog B 0 31 (hold c .mk) ⟨[(0, .lit (.int .i64 n7)), (3, .lit (.string out))], []⟩ (hold Q .mk) :=
  (CC.spec_l17Dec_l1 B hB1 hB2 ) n7 out o hF

set_option maxRecDepth 100000 in
set_option maxHeartbeats 400000 in
theorem CC.spec_l17Dec (B : Nat) (hB1 : 67108864 ≤ B) (hB2 : B ≤ 9223372036854775807)  : (∀ (n : Int) (r : ByteArray), F.spec_l17Dec n = some r → PureCall Try.prog B 119 [.lit (.int .i64 n)] (.lit (.string r))) := by
  refine F.spec_l17Dec.partial_correctness 
    (fun n r => PureCall Try.prog B 119 [.lit (.int .i64 n)] (.lit (.string r)))
    ?_
  · intro _f_spec_l17Dec ih_spec_l17Dec n r hF
    refine PureCall.enterLe Try.func119 (by kernel_rfl) rfl Try.ntmps119 (by simp) (by simp) ?_
    simp -dsimp
    repeat (refine chk.go (by first | omega | assumption | (simp_all; done) | (simp_all; omega)) ?_; try simp -dsimp)
    refine abr.split (fun h1 => ?_) (fun h1 => ?_)
    · have q2 : (n < (-9223372036854775807)) := by first | exact h1 | omega | (simpa using h1) | (simp at h1 ⊢; omega) | simp_all
      rw [if_pos q2] at hF
      cases hF
      simp -dsimp [h1]
      repeat (refine chk.go (by first | omega | assumption | (simp_all; done) | (simp_all; omega)) ?_; try simp -dsimp [h1])
    · have q2 : ¬ (n < (-9223372036854775807)) := by first | exact h1 | omega | (simpa using h1) | (simp at h1 ⊢; omega) | simp_all
      rw [if_neg q2] at hF
      simp -dsimp [h1, q2]
      repeat (refine chk.go (by first | omega | assumption | (simp_all; done) | (simp_all; omega)) ?_; try simp -dsimp [h1, q2])
      refine abr.split (fun h3 => ?_) (fun h3 => ?_)
      · have q4 : (n < 0) := by first | exact h3 | omega | (simpa using h3) | (simp at h3 ⊢; omega) | simp_all
        rw [if_pos q4] at hF
        simp -dsimp [h1, q2, h3]
        repeat (refine chk.go (by first | omega | assumption | (simp_all; done) | (simp_all; omega)) ?_; try simp -dsimp [h1, q2, h3])
        have hF := ob hF; obtain ⟨v, e5, hF⟩ := hF
        refine ((ih_spec_l17Dec (IntKind.i64.wrap (0 - n)) v e5)).goW (by first | (simp; done) | (simp [h1, q2, h3]; done) | simp_all) (by simp) ?_
        have hF := oc hF; obtain ⟨c6, hF⟩ := hF
        cases hF
        simp -dsimp [h1, q2, h3]
        repeat (refine chk.go (by first | omega | assumption | (simp_all; done) | (simp_all; omega)) ?_; try simp -dsimp [h1, q2, h3])
      · have q4 : ¬ (n < 0) := by first | exact h3 | omega | (simpa using h3) | (simp at h3 ⊢; omega) | simp_all
        rw [if_neg q4] at hF
        simp -dsimp [h1, q2, h3, q4]
        repeat (refine chk.go (by first | omega | assumption | (simp_all; done) | (simp_all; omega)) ?_; try simp -dsimp [h1, q2, h3, q4])
        have hF := ob hF; obtain ⟨o', ho11, hF⟩ := hF
        refine ALoop.goU ⟨[(0, .lit (.int .i64 n)), (3, .lit (.string ByteArray.empty))], []⟩ (Gh.to (by simp) (by first | (simp -dsimp; done) | (simp -dsimp [h1, q2, h3, q4]; done) | simp_all) (by first | (simp -dsimp; done) | (simp -dsimp [h1, q2, h3, q4]; done) | simp_all) (by first | (simp -dsimp; done) | (simp -dsimp [h1, q2, h3, q4]; done) | simp_all)) ?_
        refine (C.spec_l17Dec_l1 B hB1 hB2 n ByteArray.empty o' ho11) _ rfl _ ?_
        have hF := oc hF; obtain ⟨c12, hF⟩ := hF
        cases hF
        simp -dsimp
        repeat (refine chk.go (by first | omega | assumption | (simp_all; done) | (simp_all; omega)) ?_; try simp -dsimp)

theorem C.spec_l17Dec (B : Nat) (hB1 : 67108864 ≤ B) (hB2 : B ≤ 9223372036854775807) (n : Int) (r : ByteArray) (hF : F.spec_l17Dec n = some r) : PureCall Try.prog B 119 [.lit (.int .i64 n)] (.lit (.string r)) :=
  (CC.spec_l17Dec B hB1 hB2 ) n r hF

set_option maxRecDepth 100000 in
set_option maxHeartbeats 400000 in
theorem C.spec_l1Index (B : Nat) (hB1 : 67108864 ≤ B) (hB2 : B ≤ 9223372036854775807) (n : Int) (r : ByteArray) (hF : F.spec_l1Index n = some r) : PureCall Try.prog B 120 [.lit (.int .i64 n)] (.lit (.string r)) := by
  unfold F.spec_l1Index at hF
  refine PureCall.enterLe Try.func120 (by kernel_rfl) rfl Try.ntmps120 (by simp) (by simp) ?_
  simp -dsimp
  repeat (refine chk.go (by first | omega | assumption | (simp_all; done) | (simp_all; omega)) ?_; try simp -dsimp)
  refine abr.split (fun h1 => ?_) (fun h1 => ?_)
  · have q2 : (n = 0) := by first | exact h1 | omega | (simpa using h1) | (simp at h1 ⊢; omega) | simp_all
    rw [if_pos q2] at hF
    cases hF
    simp -dsimp [eq_true h1]
    repeat (refine chk.go (by first | omega | assumption | (simp_all; done) | (simp_all; omega)) ?_; try simp -dsimp [eq_true h1])
  · have q2 : ¬ (n = 0) := by first | exact h1 | omega | (simpa using h1) | (simp at h1 ⊢; omega) | simp_all
    rw [if_neg q2] at hF
    simp -dsimp [h1, q2]
    repeat (refine chk.go (by first | omega | assumption | (simp_all; done) | (simp_all; omega)) ?_; try simp -dsimp [h1, q2])
    refine abr.split (fun h3 => ?_) (fun h3 => ?_)
    · have q4 : (n = (-1)) := by first | exact h3 | omega | (simpa using h3) | (simp at h3 ⊢; omega) | simp_all
      rw [if_pos q4] at hF
      cases hF
      simp -dsimp [h1, q2, h3]
      repeat (refine chk.go (by first | omega | assumption | (simp_all; done) | (simp_all; omega)) ?_; try simp -dsimp [h1, q2, h3])
    · have q4 : ¬ (n = (-1)) := by first | exact h3 | omega | (simpa using h3) | (simp at h3 ⊢; omega) | simp_all
      rw [if_neg q4] at hF
      simp -dsimp [h1, q2, h3, q4]
      repeat (refine chk.go (by first | omega | assumption | (simp_all; done) | (simp_all; omega)) ?_; try simp -dsimp [h1, q2, h3, q4])
      have hF := ob hF; obtain ⟨v, e5, hF⟩ := hF
      refine ((C.spec_l17Dec B hB1 hB2 n v e5)).goW (by first | (simp; done) | (simp [h1, q2, h3, q4]; done) | simp_all) (by simp) ?_
      cases hF
      simp -dsimp [h1, q2, h3, q4]
      repeat (refine chk.go (by first | omega | assumption | (simp_all; done) | (simp_all; omega)) ?_; try simp -dsimp [h1, q2, h3, q4])

set_option maxRecDepth 100000 in
set_option maxHeartbeats 400000 in
theorem C.spec_l1Type (B : Nat) (hB1 : 67108864 ≤ B) (hB2 : B ≤ 9223372036854775807) (w : List Vl.Data) (t : Vl.Ty) (r : ByteArray) (hF : F.spec_l1Type w t = some r) : PureCall Try.prog B 118 [.arr (List.map Vl.Data.c w), .agg [.lit (.int .i64 t.data), .lit (.int .i64 t.index)]] (.lit (.string r)) := by
  unfold F.spec_l1Type at hF
  refine PureCall.enterLe Try.func118 (by kernel_rfl) rfl Try.ntmps118 (by simp) (by simp) ?_
  simp -dsimp
  repeat (refine chk.go (by first | omega | assumption | (simp_all; done) | (simp_all; omega)) ?_; try simp -dsimp)
  refine abr.split (fun h1 => ?_) (fun h1 => ?_)
  · have q2 : (t.data = (-1)) := by first | exact h1 | omega | (simpa using h1) | (simp at h1 ⊢; omega) | simp_all
    rw [if_pos q2] at hF
    cases hF
    simp -dsimp [h1]
    repeat (refine chk.go (by first | omega | assumption | (simp_all; done) | (simp_all; omega)) ?_; try simp -dsimp [h1])
  · have q2 : ¬ (t.data = (-1)) := by first | exact h1 | omega | (simpa using h1) | (simp at h1 ⊢; omega) | simp_all
    rw [if_neg q2] at hF
    simp -dsimp [h1, q2]
    repeat (refine chk.go (by first | omega | assumption | (simp_all; done) | (simp_all; omega)) ?_; try simp -dsimp [h1, q2])
    refine ADraw.simple follows (by kernel_rfl) (by kernel_rfl) ?_
    have hF := ob hF; obtain ⟨x, e3a, hF⟩ := hF
    have e3a := at_some e3a; obtain ⟨ne3, e3⟩ := e3a
    have le3 := lt_of_get e3
    simp -dsimp [h1, q2, ↓e3]
    repeat (refine chk.go (by first | omega | assumption | (simp_all; done) | (simp_all; omega)) ?_; try simp -dsimp [h1, q2, ↓e3])
    have hF := ob hF; obtain ⟨v, e4, hF⟩ := hF
    refine ((C.spec_l1Index B hB1 hB2 t.index v e4)).pgoW (by first | (simp; done) | (simp [h1, q2, ↓e3]; done) | simp_all) (by simp) ?_
    have hF := oc hF; obtain ⟨c5, hF⟩ := hF
    cases hF
    simp -dsimp [h1, q2, ↓e3]
    repeat (refine chk.go (by first | omega | assumption | (simp_all; done) | (simp_all; omega)) ?_; try simp -dsimp [h1, q2, ↓e3])

set_option maxRecDepth 100000 in
set_option maxHeartbeats 400000 in
theorem CC.spec_l1CtorText_l1 (B : Nat) (hB1 : 67108864 ≤ B) (hB2 : B ≤ 9223372036854775807) (w : List Vl.Data) (c' : Vl.Ctor) : (∀ (out : ByteArray) (i : Nat) (o : ByteArray), F.spec_l1CtorText_l1 w c' out i = some o → ∀ (c : Code), navO [1, 1, 0, 1, 0, 0] (bodyOf Try.f113) = some c → ∀ (Q : Exit → ASt → Prop), Q (.exit 0) ⟨[(3, .ptr 0 0), (5, .lit (.string o))], [.cells [.lit (.string c'.name), .arr (List.map Vl.Ty.c c'.args), .lit (.int .i64 c'.index)]]⟩ → ALoopU Try.prog B 0 47 (hold c .mk) ⟨[(0, .arr (List.map Vl.Data.c w)), (3, .ptr 0 0), (5, .lit (.string out)), (6, .lit (.int .i64 (i : Int)))], [.cells [.lit (.string c'.name), .arr (List.map Vl.Ty.c c'.args), .lit (.int .i64 c'.index)]]⟩ (hold Q .mk)) := by
  refine F.spec_l1CtorText_l1.partial_correctness w c'
    (fun out i o => ∀ (c : Code), navO [1, 1, 0, 1, 0, 0] (bodyOf Try.f113) = some c → ∀ (Q : Exit → ASt → Prop), Q (.exit 0) ⟨[(3, .ptr 0 0), (5, .lit (.string o))], [.cells [.lit (.string c'.name), .arr (List.map Vl.Ty.c c'.args), .lit (.int .i64 c'.index)]]⟩ → ALoopU Try.prog B 0 47 (hold c .mk) ⟨[(0, .arr (List.map Vl.Data.c w)), (3, .ptr 0 0), (5, .lit (.string out)), (6, .lit (.int .i64 (i : Int)))], [.cells [.lit (.string c'.name), .arr (List.map Vl.Ty.c c'.args), .lit (.int .i64 c'.index)]]⟩ (hold Q .mk))
    ?_
  · intro _f_spec_l1CtorText_l1 ih_spec_l1CtorText_l1 out i o hF
    intro c hc Q hq
    obtain rfl : c = _ := navEq hc rfl
    refine ALoopU.know fun hk hs => ?_
    have b0 := hk 0
    simp -dsimp at b0
    have d0 := hs 0 _ rfl
    simp -dsimp [Blk.bnd] at d0
    clear hk hs
    refine ALoopU.enter ?_
    simp -dsimp
    repeat (refine chk.go (by first | omega | assumption | (simp_all; done) | (simp_all; omega)) ?_; try simp -dsimp)
    refine abr.split (fun h1 => ?_) (fun h1 => ?_)
    · have q2 : (i < c'.args.length) := by first | exact h1 | omega | (simpa using h1) | (simp at h1 ⊢; omega) | simp_all
      have z3 : ((i : Int) < (c'.args.length : Int)) := by first | omega | simp_all
      rw [if_pos q2] at hF
      simp -dsimp [h1, z3]
      repeat (refine chk.go (by first | omega | assumption | (simp_all; done) | (simp_all; omega)) ?_; try simp -dsimp [h1, z3])
      refine abr.split (fun h4 => ?_) (fun h4 => ?_)
      · have q5 : (i = 0) := by first | exact h4 | omega | (simpa using h4) | (simp at h4 ⊢; omega) | simp_all
        have z6 : ((i : Int) = (0 : Int)) := by first | omega | simp_all
        rw [if_pos q5] at hF
        have hF := oc hF; obtain ⟨c7, hF⟩ := hF
        have hF := ob hF; obtain ⟨x, e8, hF⟩ := hF
        have le8 := lt_of_get e8
        simp -dsimp [h1, z3, eq_true h4, eq_true z6, ↓e8]
        repeat (refine chk.go (by first | omega | assumption | (simp_all; done) | (simp_all; omega)) ?_; try simp -dsimp [h1, z3, eq_true h4, eq_true z6, ↓e8])
        have hF := ob hF; obtain ⟨v, e9, hF⟩ := hF
        refine ((C.spec_l1Type B hB1 hB2 w x v e9)).goW (by first | (simp; done) | (simp [h1, z3, eq_true h4, eq_true z6, ↓e8]; done) | simp_all) (by simp) ?_
        have hF := oc hF; obtain ⟨c10, hF⟩ := hF
        have w11 : IntKind.i64.wrap ((i : Int) + 1) = (i : Int) + 1 := wrap_in (by omega) (by omega)
        simp -dsimp [h1, z3, eq_true h4, eq_true z6, ↓e8, w11]
        repeat (refine chk.go (by first | omega | assumption | (simp_all; done) | (simp_all; omega)) ?_; try simp -dsimp [h1, z3, eq_true h4, eq_true z6, ↓e8, w11])
        refine Again.go ⟨[(0, .arr (List.map Vl.Data.c w)), (3, .ptr 0 0), (5, .lit (.string ((out ++ (⟨#[40]⟩ : ByteArray)) ++ v))), (6, .lit (.int .i64 ((i + 1) : Int)))], [.cells [.lit (.string c'.name), .arr (List.map Vl.Ty.c c'.args), .lit (.int .i64 c'.index)]]⟩ (Gh.to (by simp) (by first | (simp -dsimp; done) | (simp -dsimp [h1, z3, eq_true h4, eq_true z6, ↓e8, w11]; done) | simp_all) (by first | (simp -dsimp; done) | (simp -dsimp [h1, z3, eq_true h4, eq_true z6, ↓e8, w11]; done) | simp_all) (by first | (simp -dsimp; done) | (simp -dsimp [h1, z3, eq_true h4, eq_true z6, ↓e8, w11]; done) | simp_all)) ?_
        exact (ih_spec_l1CtorText_l1 ((out ++ (⟨#[40]⟩ : ByteArray)) ++ v) (i + 1) o hF) _ rfl _ hq
      · have q5 : ¬ (i = 0) := by first | exact h4 | omega | (simpa using h4) | (simp at h4 ⊢; omega) | simp_all
        have z6 : ¬ ((i : Int) = (0 : Int)) := by first | omega | simp_all
        rw [if_neg q5] at hF
        have hF := oc hF; obtain ⟨c12, hF⟩ := hF
        have hF := ob hF; obtain ⟨x13, e14, hF⟩ := hF
        have le14 := lt_of_get e14
        simp -dsimp [h1, z3, h4, q5, z6, ↓e14]
        repeat (refine chk.go (by first | omega | assumption | (simp_all; done) | (simp_all; omega)) ?_; try simp -dsimp [h1, z3, h4, q5, z6, ↓e14])
        have hF := ob hF; obtain ⟨v15, e16, hF⟩ := hF
        refine ((C.spec_l1Type B hB1 hB2 w x13 v15 e16)).goW (by first | (simp; done) | (simp [h1, z3, h4, q5, z6, ↓e14]; done) | simp_all) (by simp) ?_
        have hF := oc hF; obtain ⟨c17, hF⟩ := hF
        have w18 : IntKind.i64.wrap ((i : Int) + 1) = (i : Int) + 1 := wrap_in (by omega) (by omega)
        simp -dsimp [h1, z3, h4, q5, z6, ↓e14, w18]
        repeat (refine chk.go (by first | omega | assumption | (simp_all; done) | (simp_all; omega)) ?_; try simp -dsimp [h1, z3, h4, q5, z6, ↓e14, w18])
        refine Again.go ⟨[(0, .arr (List.map Vl.Data.c w)), (3, .ptr 0 0), (5, .lit (.string ((out ++ (⟨#[44]⟩ : ByteArray)) ++ v15))), (6, .lit (.int .i64 ((i + 1) : Int)))], [.cells [.lit (.string c'.name), .arr (List.map Vl.Ty.c c'.args), .lit (.int .i64 c'.index)]]⟩ (Gh.to (by simp) (by first | (simp -dsimp; done) | (simp -dsimp [h1, z3, h4, q5, z6, ↓e14, w18]; done) | simp_all) (by first | (simp -dsimp; done) | (simp -dsimp [h1, z3, h4, q5, z6, ↓e14, w18]; done) | simp_all) (by first | (simp -dsimp; done) | (simp -dsimp [h1, z3, h4, q5, z6, ↓e14, w18]; done) | simp_all)) ?_
        exact (ih_spec_l1CtorText_l1 ((out ++ (⟨#[44]⟩ : ByteArray)) ++ v15) (i + 1) o hF) _ rfl _ hq
    · have q2 : ¬ (i < c'.args.length) := by first | exact h1 | omega | (simpa using h1) | (simp at h1 ⊢; omega) | simp_all
      have z3 : ¬ ((i : Int) < (c'.args.length : Int)) := by first | omega | simp_all
      rw [if_neg q2] at hF
      cases hF
      simp -dsimp [h1, q2, z3]
      repeat (refine chk.go (by first | omega | assumption | (simp_all; done) | (simp_all; omega)) ?_; try simp -dsimp [h1, q2, z3])
      refine Leave.go ⟨[(3, .ptr 0 0), (5, .lit (.string out))], [.cells [.lit (.string c'.name), .arr (List.map Vl.Ty.c c'.args), .lit (.int .i64 c'.index)]]⟩ (Gh.to (by simp) (by first | (simp -dsimp; done) | (simp -dsimp [h1, q2, z3]; done) | simp_all) (by first | (simp -dsimp; done) | (simp -dsimp [h1, q2, z3]; done) | simp_all) (by first | (simp -dsimp; done) | (simp -dsimp [h1, q2, z3]; done) | simp_all)) ?_
      exact hq

theorem C.spec_l1CtorText_l1 (B : Nat) (hB1 : 67108864 ≤ B) (hB2 : B ≤ 9223372036854775807) (w : List Vl.Data) (c' : Vl.Ctor) (out : ByteArray) (i : Nat) (o : ByteArray) (hF : F.spec_l1CtorText_l1 w c' out i = some o) : ∀ (c : Code), navO [1, 1, 0, 1, 0, 0] (bodyOf Try.f113) = some c → ∀ (Q : Exit → ASt → Prop), Q (.exit 0) ⟨[(3, .ptr 0 0), (5, .lit (.string o))], [.cells [.lit (.string c'.name), .arr (List.map Vl.Ty.c c'.args), .lit (.int .i64 c'.index)]]⟩ → ALoopU Try.prog B 0 47 (hold c .mk) ⟨[(0, .arr (List.map Vl.Data.c w)), (3, .ptr 0 0), (5, .lit (.string out)), (6, .lit (.int .i64 (i : Int)))], [.cells [.lit (.string c'.name), .arr (List.map Vl.Ty.c c'.args), .lit (.int .i64 c'.index)]]⟩ (hold Q .mk) :=
  (CC.spec_l1CtorText_l1 B hB1 hB2 w c') out i o hF

set_option maxRecDepth 100000 in
set_option maxHeartbeats 400000 in
theorem C.spec_l1CtorText (B : Nat) (hB1 : 67108864 ≤ B) (hB2 : B ≤ 9223372036854775807) (w : List Vl.Data) (c' : Vl.Ctor) (r : ByteArray) (hF : F.spec_l1CtorText w c' = some r) : PureCall Try.prog B 113 [.arr (List.map Vl.Data.c w), .agg [.lit (.string c'.name), .arr (List.map Vl.Ty.c c'.args), .lit (.int .i64 c'.index)]] (.lit (.string r)) := by
  unfold F.spec_l1CtorText at hF
  refine PureCall.enterLe Try.func113 (by kernel_rfl) rfl Try.ntmps113 (by simp) (by simp) ?_
  simp -dsimp
  repeat (refine chk.go (by first | omega | assumption | (simp_all; done) | (simp_all; omega)) ?_; try simp -dsimp)
  have hF := ob hF; obtain ⟨o', ho19, hF⟩ := hF
  refine ALoop.goU ⟨[(0, .arr (List.map Vl.Data.c w)), (3, .ptr 0 0), (5, .lit (.string c'.name)), (6, .lit (.int .i64 (0 : Int)))], [.cells [.lit (.string c'.name), .arr (List.map Vl.Ty.c c'.args), .lit (.int .i64 c'.index)]]⟩ (Gh.to (by simp) (by simp -dsimp) (by simp -dsimp) (by simp -dsimp)) ?_
  refine (C.spec_l1CtorText_l1 B hB1 hB2 w c' c'.name 0 o' ho19) _ rfl _ ?_
  simp -dsimp
  repeat (refine chk.go (by first | omega | assumption | (simp_all; done) | (simp_all; omega)) ?_; try simp -dsimp)
  refine abr.split (fun h20 => ?_) (fun h20 => ?_)
  · have q21 : (0 < c'.args.length) := by first | exact h20 | omega | (simpa using h20) | (simp at h20 ⊢; omega) | simp_all
    have z22 : ((0 : Int) < (c'.args.length : Int)) := by first | omega | simp_all
    rw [if_pos q21] at hF
    have hF := oc hF; obtain ⟨c23, hF⟩ := hF
    simp -dsimp [h20, z22]
    repeat (refine chk.go (by first | omega | assumption | (simp_all; done) | (simp_all; omega)) ?_; try simp -dsimp [h20, z22])
    refine abr.split (fun h24 => ?_) (fun h24 => ?_)
    · have q25 : (0 < c'.index) := by first | exact h24 | omega | (simpa using h24) | (simp at h24 ⊢; omega) | simp_all
      rw [if_pos q25] at hF
      have hF := oc hF; obtain ⟨c26, hF⟩ := hF
      simp -dsimp [h20, z22, h24]
      repeat (refine chk.go (by first | omega | assumption | (simp_all; done) | (simp_all; omega)) ?_; try simp -dsimp [h20, z22, h24])
      have hF := ob hF; obtain ⟨v27, e28, hF⟩ := hF
      refine ((C.spec_l17Dec B hB1 hB2 c'.index v27 e28)).goW (by first | (simp; done) | (simp [h20, z22, h24]; done) | simp_all) (by simp) ?_
      have hF := oc hF; obtain ⟨c29, hF⟩ := hF
      cases hF
      simp -dsimp [h20, z22, h24]
      repeat (refine chk.go (by first | omega | assumption | (simp_all; done) | (simp_all; omega)) ?_; try simp -dsimp [h20, z22, h24])
    · have q25 : ¬ (0 < c'.index) := by first | exact h24 | omega | (simpa using h24) | (simp at h24 ⊢; omega) | simp_all
      rw [if_neg q25] at hF
      cases hF
      simp -dsimp [h20, z22, h24, q25]
      repeat (refine chk.go (by first | omega | assumption | (simp_all; done) | (simp_all; omega)) ?_; try simp -dsimp [h20, z22, h24, q25])
  · have q21 : ¬ (0 < c'.args.length) := by first | exact h20 | omega | (simpa using h20) | (simp at h20 ⊢; omega) | simp_all
    have z22 : ¬ ((0 : Int) < (c'.args.length : Int)) := by first | omega | simp_all
    rw [if_neg q21] at hF
    simp -dsimp [h20, q21, z22]
    repeat (refine chk.go (by first | omega | assumption | (simp_all; done) | (simp_all; omega)) ?_; try simp -dsimp [h20, q21, z22])
    refine abr.split (fun h30 => ?_) (fun h30 => ?_)
    · have q31 : (0 < c'.index) := by first | exact h30 | omega | (simpa using h30) | (simp at h30 ⊢; omega) | simp_all
      rw [if_pos q31] at hF
      have hF := oc hF; obtain ⟨c32, hF⟩ := hF
      simp -dsimp [h20, q21, z22, h30]
      repeat (refine chk.go (by first | omega | assumption | (simp_all; done) | (simp_all; omega)) ?_; try simp -dsimp [h20, q21, z22, h30])
      have hF := ob hF; obtain ⟨v33, e34, hF⟩ := hF
      refine ((C.spec_l17Dec B hB1 hB2 c'.index v33 e34)).goW (by first | (simp; done) | (simp [h20, q21, z22, h30]; done) | simp_all) (by simp) ?_
      have hF := oc hF; obtain ⟨c35, hF⟩ := hF
      cases hF
      simp -dsimp [h20, q21, z22, h30]
      repeat (refine chk.go (by first | omega | assumption | (simp_all; done) | (simp_all; omega)) ?_; try simp -dsimp [h20, q21, z22, h30])
    · have q31 : ¬ (0 < c'.index) := by first | exact h30 | omega | (simpa using h30) | (simp at h30 ⊢; omega) | simp_all
      rw [if_neg q31] at hF
      cases hF
      simp -dsimp [h20, q21, z22, h30, q31]
      repeat (refine chk.go (by first | omega | assumption | (simp_all; done) | (simp_all; omega)) ?_; try simp -dsimp [h20, q21, z22, h30, q31])

set_option maxRecDepth 100000 in
set_option maxHeartbeats 400000 in
theorem CC.spec_l1Text_l2 (B : Nat) (hB1 : 67108864 ≤ B) (hB2 : B ≤ 9223372036854775807) (w : List Vl.Data) (d : Nat) : (∀ (out11 : ByteArray) (k : Nat) (o : ByteArray), F.spec_l1Text_l2 w d out11 k = some o → ∀ (c : Code), navO [1, 1, 0, 1, 0, 0, 1, 0, 0, 1, 1, 1, 0, 0] (bodyOf Try.f98) = some c → ∀ (Q : Exit → ASt → Prop), Q (.exit 2) ⟨[(0, .arr (List.map Vl.Data.c w)), (3, .lit (.string o)), (4, .lit (.int .i64 (d : Int)))], []⟩ → ALoopU Try.prog B 0 51 (hold c .mk) ⟨[(0, .arr (List.map Vl.Data.c w)), (3, .lit (.string out11)), (4, .lit (.int .i64 (d : Int))), (5, .lit (.int .i64 (k : Int)))], []⟩ (hold Q .mk)) := by
  refine F.spec_l1Text_l2.partial_correctness w d
    (fun out11 k o => ∀ (c : Code), navO [1, 1, 0, 1, 0, 0, 1, 0, 0, 1, 1, 1, 0, 0] (bodyOf Try.f98) = some c → ∀ (Q : Exit → ASt → Prop), Q (.exit 2) ⟨[(0, .arr (List.map Vl.Data.c w)), (3, .lit (.string o)), (4, .lit (.int .i64 (d : Int)))], []⟩ → ALoopU Try.prog B 0 51 (hold c .mk) ⟨[(0, .arr (List.map Vl.Data.c w)), (3, .lit (.string out11)), (4, .lit (.int .i64 (d : Int))), (5, .lit (.int .i64 (k : Int)))], []⟩ (hold Q .mk))
    ?_
  · intro _f_spec_l1Text_l2 ih_spec_l1Text_l2 out11 k o hF
    intro c hc Q hq
    obtain rfl : c = _ := navEq hc rfl
    refine ALoopU.know fun hk hs => ?_
    have b0 := hk 0
    simp -dsimp at b0
    clear hk hs
    refine ALoopU.enter ?_
    have hF := ob hF; obtain ⟨x12, e13, hF⟩ := hF
    have le13 := lt_of_get e13
    simp -dsimp [↓e13]
    repeat (refine chk.go (by first | omega | assumption | (simp_all; done) | (simp_all; omega)) ?_; try simp -dsimp [↓e13])
    refine abr.split (fun h14 => ?_) (fun h14 => ?_)
    · have q15 : (k < x12.ctors.length) := by first | exact h14 | omega | (simpa using h14) | (simp at h14 ⊢; omega) | simp_all
      have z16 : ((k : Int) < (x12.ctors.length : Int)) := by first | omega | simp_all
      rw [if_pos q15] at hF
      simp -dsimp [↓e13, h14, z16]
      repeat (refine chk.go (by first | omega | assumption | (simp_all; done) | (simp_all; omega)) ?_; try simp -dsimp [↓e13, h14, z16])
      refine abr.split (fun h17 => ?_) (fun h17 => ?_)
      · have q18 : (0 < k) := by first | exact h17 | omega | (simpa using h17) | (simp at h17 ⊢; omega) | simp_all
        have z19 : ((0 : Int) < (k : Int)) := by first | omega | simp_all
        rw [if_pos q18] at hF
        have hF := oc hF; obtain ⟨c20, hF⟩ := hF
        have hF := ob hF; obtain ⟨x21, e22, hF⟩ := hF
        have le22 := lt_of_get e22
        simp -dsimp [↓e13, h14, z16, h17, z19, ↓e22]
        repeat (refine chk.go (by first | omega | assumption | (simp_all; done) | (simp_all; omega)) ?_; try simp -dsimp [↓e13, h14, z16, h17, z19, ↓e22])
        have hF := ob hF; obtain ⟨v, e23, hF⟩ := hF
        refine ((C.spec_l1CtorText B hB1 hB2 w x21 v e23)).goW (by first | (simp; done) | (simp [↓e13, h14, z16, h17, z19, ↓e22]; done) | simp_all) (by simp) ?_
        have hF := oc hF; obtain ⟨c24, hF⟩ := hF
        have hF := oc hF; obtain ⟨c25, hF⟩ := hF
        have w26 : IntKind.i64.wrap ((k : Int) + 1) = (k : Int) + 1 := wrap_in (by omega) (by omega)
        simp -dsimp [↓e13, h14, z16, h17, z19, ↓e22, w26]
        repeat (refine chk.go (by first | omega | assumption | (simp_all; done) | (simp_all; omega)) ?_; try simp -dsimp [↓e13, h14, z16, h17, z19, ↓e22, w26])
        refine Again.go ⟨[(0, .arr (List.map Vl.Data.c w)), (3, .lit (.string ((out11 ++ (⟨#[124]⟩ : ByteArray)) ++ v))), (4, .lit (.int .i64 (d : Int))), (5, .lit (.int .i64 ((k + 1) : Int)))], []⟩ (Gh.to (by simp) (by first | (simp -dsimp; done) | (simp -dsimp [↓e13, h14, z16, h17, z19, ↓e22, w26]; done) | simp_all) (by first | (simp -dsimp; done) | (simp -dsimp [↓e13, h14, z16, h17, z19, ↓e22, w26]; done) | simp_all) (by first | (simp -dsimp; done) | (simp -dsimp [↓e13, h14, z16, h17, z19, ↓e22, w26]; done) | simp_all)) ?_
        exact (ih_spec_l1Text_l2 ((out11 ++ (⟨#[124]⟩ : ByteArray)) ++ v) (k + 1) o hF) _ rfl _ hq
      · have q18 : ¬ (0 < k) := by first | exact h17 | omega | (simpa using h17) | (simp at h17 ⊢; omega) | simp_all
        have z19 : ¬ ((0 : Int) < (k : Int)) := by first | omega | simp_all
        rw [if_neg q18] at hF
        have hF := ob hF; obtain ⟨x27, e28, hF⟩ := hF
        have le28 := lt_of_get e28
        simp -dsimp [↓e13, h14, z16, h17, q18, z19, ↓e28]
        repeat (refine chk.go (by first | omega | assumption | (simp_all; done) | (simp_all; omega)) ?_; try simp -dsimp [↓e13, h14, z16, h17, q18, z19, ↓e28])
        have hF := ob hF; obtain ⟨v29, e30, hF⟩ := hF
        refine ((C.spec_l1CtorText B hB1 hB2 w x27 v29 e30)).goW (by first | (simp; done) | (simp [↓e13, h14, z16, h17, q18, z19, ↓e28]; done) | simp_all) (by simp) ?_
        have hF := oc hF; obtain ⟨c31, hF⟩ := hF
        have hF := oc hF; obtain ⟨c32, hF⟩ := hF
        have w33 : IntKind.i64.wrap ((k : Int) + 1) = (k : Int) + 1 := wrap_in (by omega) (by omega)
        simp -dsimp [↓e13, h14, z16, h17, q18, z19, ↓e28, w33]
        repeat (refine chk.go (by first | omega | assumption | (simp_all; done) | (simp_all; omega)) ?_; try simp -dsimp [↓e13, h14, z16, h17, q18, z19, ↓e28, w33])
        refine Again.go ⟨[(0, .arr (List.map Vl.Data.c w)), (3, .lit (.string (out11 ++ v29))), (4, .lit (.int .i64 (d : Int))), (5, .lit (.int .i64 ((k + 1) : Int)))], []⟩ (Gh.to (by simp) (by first | (simp -dsimp; done) | (simp -dsimp [↓e13, h14, z16, h17, q18, z19, ↓e28, w33]; done) | simp_all) (by first | (simp -dsimp; done) | (simp -dsimp [↓e13, h14, z16, h17, q18, z19, ↓e28, w33]; done) | simp_all) (by first | (simp -dsimp; done) | (simp -dsimp [↓e13, h14, z16, h17, q18, z19, ↓e28, w33]; done) | simp_all)) ?_
        exact (ih_spec_l1Text_l2 (out11 ++ v29) (k + 1) o hF) _ rfl _ hq
    · have q15 : ¬ (k < x12.ctors.length) := by first | exact h14 | omega | (simpa using h14) | (simp at h14 ⊢; omega) | simp_all
      have z16 : ¬ ((k : Int) < (x12.ctors.length : Int)) := by first | omega | simp_all
      rw [if_neg q15] at hF
      cases hF
      simp -dsimp [↓e13, h14, q15, z16]
      repeat (refine chk.go (by first | omega | assumption | (simp_all; done) | (simp_all; omega)) ?_; try simp -dsimp [↓e13, h14, q15, z16])
      refine Leave.go ⟨[(0, .arr (List.map Vl.Data.c w)), (3, .lit (.string out11)), (4, .lit (.int .i64 (d : Int)))], []⟩ (Gh.to (by simp) (by first | (simp -dsimp; done) | (simp -dsimp [↓e13, h14, q15, z16]; done) | simp_all) (by first | (simp -dsimp; done) | (simp -dsimp [↓e13, h14, q15, z16]; done) | simp_all) (by first | (simp -dsimp; done) | (simp -dsimp [↓e13, h14, q15, z16]; done) | simp_all)) ?_
      exact hq

theorem C.spec_l1Text_l2 (B : Nat) (hB1 : 67108864 ≤ B) (hB2 : B ≤ 9223372036854775807) (w : List Vl.Data) (d : Nat) (out11 : ByteArray) (k : Nat) (o : ByteArray) (hF : F.spec_l1Text_l2 w d out11 k = some o) : ∀ (c : Code), navO [1, 1, 0, 1, 0, 0, 1, 0, 0, 1, 1, 1, 0, 0] (bodyOf Try.f98) = some c → ∀ (Q : Exit → ASt → Prop), Q (.exit 2) ⟨[(0, .arr (List.map Vl.Data.c w)), (3, .lit (.string o)), (4, .lit (.int .i64 (d : Int)))], []⟩ → ALoopU Try.prog B 0 51 (hold c .mk) ⟨[(0, .arr (List.map Vl.Data.c w)), (3, .lit (.string out11)), (4, .lit (.int .i64 (d : Int))), (5, .lit (.int .i64 (k : Int)))], []⟩ (hold Q .mk) :=
  (CC.spec_l1Text_l2 B hB1 hB2 w d) out11 k o hF

set_option maxRecDepth 100000 in
set_option maxHeartbeats 400000 in
theorem CC.spec_l1Text_l3 (B : Nat) (hB1 : 67108864 ≤ B) (hB2 : B ≤ 9223372036854775807) (w : List Vl.Data) (d : Nat) : (∀ (out41 : ByteArray) (k42 : Nat) (o : ByteArray), F.spec_l1Text_l3 w d out41 k42 = some o → ∀ (c : Code), navO [1, 1, 0, 1, 0, 0, 1, 0, 0, 1, 1, 1, 0, 0] (bodyOf Try.f98) = some c → ∀ (Q : Exit → ASt → Prop), Q (.exit 2) ⟨[(0, .arr (List.map Vl.Data.c w)), (3, .lit (.string o)), (4, .lit (.int .i64 (d : Int)))], []⟩ → ALoopU Try.prog B 0 51 (hold c .mk) ⟨[(0, .arr (List.map Vl.Data.c w)), (3, .lit (.string out41)), (4, .lit (.int .i64 (d : Int))), (5, .lit (.int .i64 (k42 : Int)))], []⟩ (hold Q .mk)) := by
  refine F.spec_l1Text_l3.partial_correctness w d
    (fun out41 k42 o => ∀ (c : Code), navO [1, 1, 0, 1, 0, 0, 1, 0, 0, 1, 1, 1, 0, 0] (bodyOf Try.f98) = some c → ∀ (Q : Exit → ASt → Prop), Q (.exit 2) ⟨[(0, .arr (List.map Vl.Data.c w)), (3, .lit (.string o)), (4, .lit (.int .i64 (d : Int)))], []⟩ → ALoopU Try.prog B 0 51 (hold c .mk) ⟨[(0, .arr (List.map Vl.Data.c w)), (3, .lit (.string out41)), (4, .lit (.int .i64 (d : Int))), (5, .lit (.int .i64 (k42 : Int)))], []⟩ (hold Q .mk))
    ?_
  · intro _f_spec_l1Text_l3 ih_spec_l1Text_l3 out41 k42 o hF
    intro c hc Q hq
    obtain rfl : c = _ := navEq hc rfl
    refine ALoopU.know fun hk hs => ?_
    have b0 := hk 0
    simp -dsimp at b0
    clear hk hs
    refine ALoopU.enter ?_
    have hF := ob hF; obtain ⟨x43, e44, hF⟩ := hF
    have le44 := lt_of_get e44
    simp -dsimp [↓e44]
    repeat (refine chk.go (by first | omega | assumption | (simp_all; done) | (simp_all; omega)) ?_; try simp -dsimp [↓e44])
    refine abr.split (fun h45 => ?_) (fun h45 => ?_)
    · have q46 : (k42 < x43.ctors.length) := by first | exact h45 | omega | (simpa using h45) | (simp at h45 ⊢; omega) | simp_all
      have z47 : ((k42 : Int) < (x43.ctors.length : Int)) := by first | omega | simp_all
      rw [if_pos q46] at hF
      simp -dsimp [↓e44, h45, z47]
      repeat (refine chk.go (by first | omega | assumption | (simp_all; done) | (simp_all; omega)) ?_; try simp -dsimp [↓e44, h45, z47])
      refine abr.split (fun h48 => ?_) (fun h48 => ?_)
      · have q49 : (0 < k42) := by first | exact h48 | omega | (simpa using h48) | (simp at h48 ⊢; omega) | simp_all
        have z50 : ((0 : Int) < (k42 : Int)) := by first | omega | simp_all
        rw [if_pos q49] at hF
        have hF := oc hF; obtain ⟨c51, hF⟩ := hF
        have hF := ob hF; obtain ⟨x52, e53, hF⟩ := hF
        have le53 := lt_of_get e53
        simp -dsimp [↓e44, h45, z47, h48, z50, ↓e53]
        repeat (refine chk.go (by first | omega | assumption | (simp_all; done) | (simp_all; omega)) ?_; try simp -dsimp [↓e44, h45, z47, h48, z50, ↓e53])
        have hF := ob hF; obtain ⟨v54, e55, hF⟩ := hF
        refine ((C.spec_l1CtorText B hB1 hB2 w x52 v54 e55)).goW (by first | (simp; done) | (simp [↓e44, h45, z47, h48, z50, ↓e53]; done) | simp_all) (by simp) ?_
        have hF := oc hF; obtain ⟨c56, hF⟩ := hF
        have hF := oc hF; obtain ⟨c57, hF⟩ := hF
        have w58 : IntKind.i64.wrap ((k42 : Int) + 1) = (k42 : Int) + 1 := wrap_in (by omega) (by omega)
        simp -dsimp [↓e44, h45, z47, h48, z50, ↓e53, w58]
        repeat (refine chk.go (by first | omega | assumption | (simp_all; done) | (simp_all; omega)) ?_; try simp -dsimp [↓e44, h45, z47, h48, z50, ↓e53, w58])
        refine Again.go ⟨[(0, .arr (List.map Vl.Data.c w)), (3, .lit (.string ((out41 ++ (⟨#[124]⟩ : ByteArray)) ++ v54))), (4, .lit (.int .i64 (d : Int))), (5, .lit (.int .i64 ((k42 + 1) : Int)))], []⟩ (Gh.to (by simp) (by first | (simp -dsimp; done) | (simp -dsimp [↓e44, h45, z47, h48, z50, ↓e53, w58]; done) | simp_all) (by first | (simp -dsimp; done) | (simp -dsimp [↓e44, h45, z47, h48, z50, ↓e53, w58]; done) | simp_all) (by first | (simp -dsimp; done) | (simp -dsimp [↓e44, h45, z47, h48, z50, ↓e53, w58]; done) | simp_all)) ?_
        exact (ih_spec_l1Text_l3 ((out41 ++ (⟨#[124]⟩ : ByteArray)) ++ v54) (k42 + 1) o hF) _ rfl _ hq
      · have q49 : ¬ (0 < k42) := by first | exact h48 | omega | (simpa using h48) | (simp at h48 ⊢; omega) | simp_all
        have z50 : ¬ ((0 : Int) < (k42 : Int)) := by first | omega | simp_all
        rw [if_neg q49] at hF
        have hF := ob hF; obtain ⟨x59, e60, hF⟩ := hF
        have le60 := lt_of_get e60
        simp -dsimp [↓e44, h45, z47, h48, q49, z50, ↓e60]
        repeat (refine chk.go (by first | omega | assumption | (simp_all; done) | (simp_all; omega)) ?_; try simp -dsimp [↓e44, h45, z47, h48, q49, z50, ↓e60])
        have hF := ob hF; obtain ⟨v61, e62, hF⟩ := hF
        refine ((C.spec_l1CtorText B hB1 hB2 w x59 v61 e62)).goW (by first | (simp; done) | (simp [↓e44, h45, z47, h48, q49, z50, ↓e60]; done) | simp_all) (by simp) ?_
        have hF := oc hF; obtain ⟨c63, hF⟩ := hF
        have hF := oc hF; obtain ⟨c64, hF⟩ := hF
        have w65 : IntKind.i64.wrap ((k42 : Int) + 1) = (k42 : Int) + 1 := wrap_in (by omega) (by omega)
        simp -dsimp [↓e44, h45, z47, h48, q49, z50, ↓e60, w65]
        repeat (refine chk.go (by first | omega | assumption | (simp_all; done) | (simp_all; omega)) ?_; try simp -dsimp [↓e44, h45, z47, h48, q49, z50, ↓e60, w65])
        refine Again.go ⟨[(0, .arr (List.map Vl.Data.c w)), (3, .lit (.string (out41 ++ v61))), (4, .lit (.int .i64 (d : Int))), (5, .lit (.int .i64 ((k42 + 1) : Int)))], []⟩ (Gh.to (by simp) (by first | (simp -dsimp; done) | (simp -dsimp [↓e44, h45, z47, h48, q49, z50, ↓e60, w65]; done) | simp_all) (by first | (simp -dsimp; done) | (simp -dsimp [↓e44, h45, z47, h48, q49, z50, ↓e60, w65]; done) | simp_all) (by first | (simp -dsimp; done) | (simp -dsimp [↓e44, h45, z47, h48, q49, z50, ↓e60, w65]; done) | simp_all)) ?_
        exact (ih_spec_l1Text_l3 (out41 ++ v61) (k42 + 1) o hF) _ rfl _ hq
    · have q46 : ¬ (k42 < x43.ctors.length) := by first | exact h45 | omega | (simpa using h45) | (simp at h45 ⊢; omega) | simp_all
      have z47 : ¬ ((k42 : Int) < (x43.ctors.length : Int)) := by first | omega | simp_all
      rw [if_neg q46] at hF
      cases hF
      simp -dsimp [↓e44, h45, q46, z47]
      repeat (refine chk.go (by first | omega | assumption | (simp_all; done) | (simp_all; omega)) ?_; try simp -dsimp [↓e44, h45, q46, z47])
      refine Leave.go ⟨[(0, .arr (List.map Vl.Data.c w)), (3, .lit (.string out41)), (4, .lit (.int .i64 (d : Int)))], []⟩ (Gh.to (by simp) (by first | (simp -dsimp; done) | (simp -dsimp [↓e44, h45, q46, z47]; done) | simp_all) (by first | (simp -dsimp; done) | (simp -dsimp [↓e44, h45, q46, z47]; done) | simp_all) (by first | (simp -dsimp; done) | (simp -dsimp [↓e44, h45, q46, z47]; done) | simp_all)) ?_
      exact hq

theorem C.spec_l1Text_l3 (B : Nat) (hB1 : 67108864 ≤ B) (hB2 : B ≤ 9223372036854775807) (w : List Vl.Data) (d : Nat) (out41 : ByteArray) (k42 : Nat) (o : ByteArray) (hF : F.spec_l1Text_l3 w d out41 k42 = some o) : ∀ (c : Code), navO [1, 1, 0, 1, 0, 0, 1, 0, 0, 1, 1, 1, 0, 0] (bodyOf Try.f98) = some c → ∀ (Q : Exit → ASt → Prop), Q (.exit 2) ⟨[(0, .arr (List.map Vl.Data.c w)), (3, .lit (.string o)), (4, .lit (.int .i64 (d : Int)))], []⟩ → ALoopU Try.prog B 0 51 (hold c .mk) ⟨[(0, .arr (List.map Vl.Data.c w)), (3, .lit (.string out41)), (4, .lit (.int .i64 (d : Int))), (5, .lit (.int .i64 (k42 : Int)))], []⟩ (hold Q .mk) :=
  (CC.spec_l1Text_l3 B hB1 hB2 w d) out41 k42 o hF

set_option maxRecDepth 100000 in
set_option maxHeartbeats 400000 in
theorem CC.spec_l1Text_l1 (B : Nat) (hB1 : 67108864 ≤ B) (hB2 : B ≤ 9223372036854775807) (w : List Vl.Data) : (∀ (out : ByteArray) (d : Nat) (o : ByteArray), F.spec_l1Text_l1 w out d = some o → ∀ (c : Code), navO [1, 1, 0, 1, 0, 0] (bodyOf Try.f98) = some c → ∀ (Q : Exit → ASt → Prop), Q (.exit 0) ⟨[(3, .lit (.string o))], []⟩ → ALoopU Try.prog B 0 51 (hold c .mk) ⟨[(0, .arr (List.map Vl.Data.c w)), (3, .lit (.string out)), (4, .lit (.int .i64 (d : Int)))], []⟩ (hold Q .mk)) := by
  refine F.spec_l1Text_l1.partial_correctness w
    (fun out d o => ∀ (c : Code), navO [1, 1, 0, 1, 0, 0] (bodyOf Try.f98) = some c → ∀ (Q : Exit → ASt → Prop), Q (.exit 0) ⟨[(3, .lit (.string o))], []⟩ → ALoopU Try.prog B 0 51 (hold c .mk) ⟨[(0, .arr (List.map Vl.Data.c w)), (3, .lit (.string out)), (4, .lit (.int .i64 (d : Int)))], []⟩ (hold Q .mk))
    ?_
  · intro _f_spec_l1Text_l1 ih_spec_l1Text_l1 out d o hF
    intro c hc Q hq
    obtain rfl : c = _ := navEq hc rfl
    refine ALoopU.know fun hk hs => ?_
    have b0 := hk 0
    simp -dsimp at b0
    clear hk hs
    refine ALoopU.enter ?_
    simp -dsimp
    repeat (refine chk.go (by first | omega | assumption | (simp_all; done) | (simp_all; omega)) ?_; try simp -dsimp)
    refine abr.split (fun h1 => ?_) (fun h1 => ?_)
    · have q2 : (d < w.length) := by first | exact h1 | omega | (simpa using h1) | (simp at h1 ⊢; omega) | simp_all
      have z3 : ((d : Int) < (w.length : Int)) := by first | omega | simp_all
      rw [if_pos q2] at hF
      simp -dsimp [h1, z3]
      repeat (refine chk.go (by first | omega | assumption | (simp_all; done) | (simp_all; omega)) ?_; try simp -dsimp [h1, z3])
      refine abr.split (fun h4 => ?_) (fun h4 => ?_)
      · have q5 : (0 < d) := by first | exact h4 | omega | (simpa using h4) | (simp at h4 ⊢; omega) | simp_all
        have z6 : ((0 : Int) < (d : Int)) := by first | omega | simp_all
        rw [if_pos q5] at hF
        have hF := oc hF; obtain ⟨c7, hF⟩ := hF
        have hF := ob hF; obtain ⟨x, e8, hF⟩ := hF
        have le8 := lt_of_get e8
        have hF := oc hF; obtain ⟨c9, hF⟩ := hF
        have hF := oc hF; obtain ⟨c10, hF⟩ := hF
        simp -dsimp [h1, z3, h4, z6, ↓e8]
        repeat (refine chk.go (by first | omega | assumption | (simp_all; done) | (simp_all; omega)) ?_; try simp -dsimp [h1, z3, h4, z6, ↓e8])
        have hF := ob hF; obtain ⟨o', ho34, hF⟩ := hF
        refine ALoop.goU ⟨[(0, .arr (List.map Vl.Data.c w)), (3, .lit (.string (((out ++ (⟨#[59]⟩ : ByteArray)) ++ x.name) ++ (⟨#[61]⟩ : ByteArray)))), (4, .lit (.int .i64 (d : Int))), (5, .lit (.int .i64 (0 : Int)))], []⟩ (Gh.to (by simp) (by first | (simp -dsimp; done) | (simp -dsimp [h1, z3, h4, z6, ↓e8]; done) | simp_all) (by first | (simp -dsimp; done) | (simp -dsimp [h1, z3, h4, z6, ↓e8]; done) | simp_all) (by first | (simp -dsimp; done) | (simp -dsimp [h1, z3, h4, z6, ↓e8]; done) | simp_all)) ?_
        refine (C.spec_l1Text_l2 B hB1 hB2 w d (((out ++ (⟨#[59]⟩ : ByteArray)) ++ x.name) ++ (⟨#[61]⟩ : ByteArray)) 0 o' ho34) _ rfl _ ?_
        have hF := oc hF; obtain ⟨c35, hF⟩ := hF
        have w36 : IntKind.i64.wrap ((d : Int) + 1) = (d : Int) + 1 := wrap_in (by omega) (by omega)
        simp -dsimp [w36]
        repeat (refine chk.go (by first | omega | assumption | (simp_all; done) | (simp_all; omega)) ?_; try simp -dsimp [w36])
        refine Again.go ⟨[(0, .arr (List.map Vl.Data.c w)), (3, .lit (.string o')), (4, .lit (.int .i64 ((d + 1) : Int)))], []⟩ (Gh.to (by simp) (by first | (simp -dsimp; done) | (simp -dsimp [w36]; done) | simp_all) (by first | (simp -dsimp; done) | (simp -dsimp [w36]; done) | simp_all) (by first | (simp -dsimp; done) | (simp -dsimp [w36]; done) | simp_all)) ?_
        exact (ih_spec_l1Text_l1 o' (d + 1) o hF) _ rfl _ hq
      · have q5 : ¬ (0 < d) := by first | exact h4 | omega | (simpa using h4) | (simp at h4 ⊢; omega) | simp_all
        have z6 : ¬ ((0 : Int) < (d : Int)) := by first | omega | simp_all
        rw [if_neg q5] at hF
        have hF := ob hF; obtain ⟨x37, e38, hF⟩ := hF
        have le38 := lt_of_get e38
        have hF := oc hF; obtain ⟨c39, hF⟩ := hF
        have hF := oc hF; obtain ⟨c40, hF⟩ := hF
        simp -dsimp [h1, z3, h4, q5, z6, ↓e38]
        repeat (refine chk.go (by first | omega | assumption | (simp_all; done) | (simp_all; omega)) ?_; try simp -dsimp [h1, z3, h4, q5, z6, ↓e38])
        have hF := ob hF; obtain ⟨o'67, ho66, hF⟩ := hF
        refine ALoop.goU ⟨[(0, .arr (List.map Vl.Data.c w)), (3, .lit (.string ((out ++ x37.name) ++ (⟨#[61]⟩ : ByteArray)))), (4, .lit (.int .i64 (d : Int))), (5, .lit (.int .i64 (0 : Int)))], []⟩ (Gh.to (by simp) (by first | (simp -dsimp; done) | (simp -dsimp [h1, z3, h4, q5, z6, ↓e38]; done) | simp_all) (by first | (simp -dsimp; done) | (simp -dsimp [h1, z3, h4, q5, z6, ↓e38]; done) | simp_all) (by first | (simp -dsimp; done) | (simp -dsimp [h1, z3, h4, q5, z6, ↓e38]; done) | simp_all)) ?_
        refine (C.spec_l1Text_l3 B hB1 hB2 w d ((out ++ x37.name) ++ (⟨#[61]⟩ : ByteArray)) 0 o'67 ho66) _ rfl _ ?_
        have hF := oc hF; obtain ⟨c68, hF⟩ := hF
        have w69 : IntKind.i64.wrap ((d : Int) + 1) = (d : Int) + 1 := wrap_in (by omega) (by omega)
        simp -dsimp [w69]
        repeat (refine chk.go (by first | omega | assumption | (simp_all; done) | (simp_all; omega)) ?_; try simp -dsimp [w69])
        refine Again.go ⟨[(0, .arr (List.map Vl.Data.c w)), (3, .lit (.string o'67)), (4, .lit (.int .i64 ((d + 1) : Int)))], []⟩ (Gh.to (by simp) (by first | (simp -dsimp; done) | (simp -dsimp [w69]; done) | simp_all) (by first | (simp -dsimp; done) | (simp -dsimp [w69]; done) | simp_all) (by first | (simp -dsimp; done) | (simp -dsimp [w69]; done) | simp_all)) ?_
        exact (ih_spec_l1Text_l1 o'67 (d + 1) o hF) _ rfl _ hq
    · have q2 : ¬ (d < w.length) := by first | exact h1 | omega | (simpa using h1) | (simp at h1 ⊢; omega) | simp_all
      have z3 : ¬ ((d : Int) < (w.length : Int)) := by first | omega | simp_all
      rw [if_neg q2] at hF
      cases hF
      simp -dsimp [h1, q2, z3]
      repeat (refine chk.go (by first | omega | assumption | (simp_all; done) | (simp_all; omega)) ?_; try simp -dsimp [h1, q2, z3])
      refine Leave.go ⟨[(3, .lit (.string out))], []⟩ (Gh.to (by simp) (by first | (simp -dsimp; done) | (simp -dsimp [h1, q2, z3]; done) | simp_all) (by first | (simp -dsimp; done) | (simp -dsimp [h1, q2, z3]; done) | simp_all) (by first | (simp -dsimp; done) | (simp -dsimp [h1, q2, z3]; done) | simp_all)) ?_
      exact hq

theorem C.spec_l1Text_l1 (B : Nat) (hB1 : 67108864 ≤ B) (hB2 : B ≤ 9223372036854775807) (w : List Vl.Data) (out : ByteArray) (d : Nat) (o : ByteArray) (hF : F.spec_l1Text_l1 w out d = some o) : ∀ (c : Code), navO [1, 1, 0, 1, 0, 0] (bodyOf Try.f98) = some c → ∀ (Q : Exit → ASt → Prop), Q (.exit 0) ⟨[(3, .lit (.string o))], []⟩ → ALoopU Try.prog B 0 51 (hold c .mk) ⟨[(0, .arr (List.map Vl.Data.c w)), (3, .lit (.string out)), (4, .lit (.int .i64 (d : Int)))], []⟩ (hold Q .mk) :=
  (CC.spec_l1Text_l1 B hB1 hB2 w) out d o hF

set_option maxRecDepth 100000 in
set_option maxHeartbeats 400000 in
theorem C.spec_l1Text (B : Nat) (hB1 : 67108864 ≤ B) (hB2 : B ≤ 9223372036854775807) (w : List Vl.Data) (r : ByteArray) (hF : F.spec_l1Text w = some r) : PureCall Try.prog B 98 [.arr (List.map Vl.Data.c w)] (.lit (.string r)) := by
  unfold F.spec_l1Text at hF
  refine PureCall.enterLe Try.func98 (by kernel_rfl) rfl Try.ntmps98 (by simp) (by simp) ?_
  simp -dsimp
  repeat (refine chk.go (by first | omega | assumption | (simp_all; done) | (simp_all; omega)) ?_; try simp -dsimp)
  have hF := ob hF; obtain ⟨o'71, ho70, hF⟩ := hF
  refine ALoop.goU ⟨[(0, .arr (List.map Vl.Data.c w)), (3, .lit (.string ByteArray.empty)), (4, .lit (.int .i64 (0 : Int)))], []⟩ (Gh.to (by simp) (by simp -dsimp) (by simp -dsimp) (by simp -dsimp)) ?_
  refine (C.spec_l1Text_l1 B hB1 hB2 w ByteArray.empty 0 o'71 ho70) _ rfl _ ?_
  cases hF
  simp -dsimp
  repeat (refine chk.go (by first | omega | assumption | (simp_all; done) | (simp_all; omega)) ?_; try simp -dsimp)

set_option maxRecDepth 100000 in
set_option maxHeartbeats 400000 in
theorem CC.spec_ParseWorld_l1 (B : Nat) (hB1 : 67108864 ≤ B) (hB2 : B ≤ 9223372036854775807) (text : ByteArray) (v : List ByteArray) : (∀ (names : List ByteArray) (i : Nat) (o : Lo ((List Vl.Data) × Bool) (List ByteArray)), F.spec_ParseWorld_l1 text v names i = some o → ∀ (c : Code), navO [1, 1, 1, 1, 0, 1, 0, 0] (bodyOf Try.f81) = some c → ∀ (Q : Exit → ASt → Prop), o.post (fun r => ∀ st, Post Try.prog Try.f81 (fun r' _ => r'.le (.tup [.arr (List.map Vl.Data.c r.1), .lit (.bool r.2)])) .ret st → Q .ret st) (fun s => Q (.exit 0) ⟨[(0, .lit (.string text)), (4, .own 0 (List.length (α := Vl.Data) [])), (5, .own 1 (List.length (α := ByteArray) s)), (6, .arr (List.map cS v))], [.elems 2 (List.map Vl.Data.c []), .elems 1 (List.map cS s)]⟩) → ALoopU Try.prog B 0 101 (hold c .mk) ⟨[(0, .lit (.string text)), (4, .own 0 (List.length (α := Vl.Data) [])), (5, .own 1 (List.length (α := ByteArray) names)), (6, .arr (List.map cS v)), (7, .lit (.int .i64 (i : Int)))], [.elems 2 (List.map Vl.Data.c []), .elems 1 (List.map cS names)]⟩ (hold Q .mk)) := by
  refine F.spec_ParseWorld_l1.partial_correctness text v
    (fun names i o => ∀ (c : Code), navO [1, 1, 1, 1, 0, 1, 0, 0] (bodyOf Try.f81) = some c → ∀ (Q : Exit → ASt → Prop), o.post (fun r => ∀ st, Post Try.prog Try.f81 (fun r' _ => r'.le (.tup [.arr (List.map Vl.Data.c r.1), .lit (.bool r.2)])) .ret st → Q .ret st) (fun s => Q (.exit 0) ⟨[(0, .lit (.string text)), (4, .own 0 (List.length (α := Vl.Data) [])), (5, .own 1 (List.length (α := ByteArray) s)), (6, .arr (List.map cS v))], [.elems 2 (List.map Vl.Data.c []), .elems 1 (List.map cS s)]⟩) → ALoopU Try.prog B 0 101 (hold c .mk) ⟨[(0, .lit (.string text)), (4, .own 0 (List.length (α := Vl.Data) [])), (5, .own 1 (List.length (α := ByteArray) names)), (6, .arr (List.map cS v)), (7, .lit (.int .i64 (i : Int)))], [.elems 2 (List.map Vl.Data.c []), .elems 1 (List.map cS names)]⟩ (hold Q .mk))
    ?_
  · intro _f_spec_ParseWorld_l1 ih_spec_ParseWorld_l1 names i o hF
    intro c hc Q hq
    obtain rfl : c = _ := navEq hc rfl
    refine ALoopU.know fun hk hs => ?_
    have b6 := hk 6
    simp -dsimp at b6
    have d0 := hs 0 _ rfl
    simp -dsimp [Blk.bnd] at d0
    have d1 := hs 1 _ rfl
    simp -dsimp [Blk.bnd] at d1
    clear hk hs
    refine ALoopU.enter ?_
    simp -dsimp
    repeat (refine chk.go (by first | omega | assumption | (simp_all; done) | (simp_all; omega)) ?_; try simp -dsimp)
    refine abr.split (fun h2 => ?_) (fun h2 => ?_)
    · have q3 : (i < v.length) := by first | exact h2 | omega | (simpa using h2) | (simp at h2 ⊢; omega) | simp_all
      have z4 : ((i : Int) < (v.length : Int)) := by first | omega | simp_all
      rw [if_pos q3] at hF
      simp -dsimp [h2, z4]
      repeat (refine chk.go (by first | omega | assumption | (simp_all; done) | (simp_all; omega)) ?_; try simp -dsimp [h2, z4])
      refine abr.split (fun h5 => ?_) (fun h5 => ?_)
      · have q6 : (i ≤ 4) := by first | exact h5 | omega | (simpa using h5) | (simp at h5 ⊢; omega) | simp_all
        have z7 : ((i : Int) ≤ (4 : Int)) := by first | omega | simp_all
        rw [if_pos q6] at hF
        simp -dsimp [h2, z4, h5, z7]
        repeat (refine chk.go (by first | omega | assumption | (simp_all; done) | (simp_all; omega)) ?_; try simp -dsimp [h2, z4, h5, z7])
        refine abr.split (fun h8 => ?_) (fun h8 => ?_)
        · have q9 : ¬ (text.toList = ByteArray.empty.toList) := by first | exact h8 | omega | (simpa using h8) | (simp at h8 ⊢; omega) | simp_all
          rw [if_neg q9] at hF
          have hF := ob hF; obtain ⟨x, e10, hF⟩ := hF
          have le10 := lt_of_get e10
          simp -dsimp [h2, z4, h5, z7, h8, q9, ↓e10]
          repeat (refine chk.go (by first | omega | assumption | (simp_all; done) | (simp_all; omega)) ?_; try simp -dsimp [h2, z4, h5, z7, h8, q9, ↓e10])
          have hF := ob hF; obtain ⟨v11, e12, hF⟩ := hF
          refine ((C.spec_l17Cut B hB1 hB2 x (61 : Int) v11 e12)).goW (by first | (simp; done) | (simp [h2, z4, h5, z7, h8, q9, ↓e10]; done) | simp_all) (by simp) ?_
          simp -dsimp [h2, z4, h5, z7, h8, q9, ↓e10]
          repeat (refine chk.go (by first | omega | assumption | (simp_all; done) | (simp_all; omega)) ?_; try simp -dsimp [h2, z4, h5, z7, h8, q9, ↓e10])
          refine abr.split (fun h13 => ?_) (fun h13 => ?_)
          · have q14 : ¬ (v11.length = 2) := by first | exact h13 | omega | (simpa using h13) | (simp at h13 ⊢; omega) | simp_all
            have z15 : ¬ ((v11.length : Int) = (2 : Int)) := by first | omega | simp_all
            rw [if_neg q14] at hF
            cases hF
            simp -dsimp [h2, z4, h5, z7, h8, q9, ↓e10, h13, q14, z15]
            repeat (refine chk.go (by first | omega | assumption | (simp_all; done) | (simp_all; omega)) ?_; try simp -dsimp [h2, z4, h5, z7, h8, q9, ↓e10, h13, q14, z15])
            refine Leave.go _ (Gh.refl _) (hq _ ?_)
            simp -dsimp [h2, z4, h5, z7, h8, q9, ↓e10, h13, q14, z15]
            repeat (refine chk.go (by first | omega | assumption | (simp_all; done) | (simp_all; omega)) ?_; try simp -dsimp [h2, z4, h5, z7, h8, q9, ↓e10, h13, q14, z15])
          · have q14 : (v11.length = 2) := by first | exact h13 | omega | (simpa using h13) | (simp at h13 ⊢; omega) | simp_all
            have z15 : ((v11.length : Int) = (2 : Int)) := by first | omega | simp_all
            rw [if_pos q14] at hF
            have hF := ob hF; obtain ⟨x16, e17, hF⟩ := hF
            have le17 := lt_of_get e17
            have hF := oc hF; obtain ⟨c18, hF⟩ := hF
            have w19 : IntKind.i64.wrap ((i : Int) + 1) = (i : Int) + 1 := wrap_in (by omega) (by omega)
            simp -dsimp [h2, z4, h5, z7, h8, q9, ↓e10, h13, q14, z15, ↓e17, w19]
            repeat (refine chk.go (by first | omega | assumption | (simp_all; done) | (simp_all; omega)) ?_; try simp -dsimp [h2, z4, h5, z7, h8, q9, ↓e10, h13, q14, z15, ↓e17, w19])
            refine Again.go ⟨[(0, .lit (.string text)), (4, .own 0 (List.length (α := Vl.Data) [])), (5, .own 1 (List.length (α := ByteArray) (names ++ [x16]))), (6, .arr (List.map cS v)), (7, .lit (.int .i64 ((i + 1) : Int)))], [.elems 2 (List.map Vl.Data.c []), .elems 1 (List.map cS (names ++ [x16]))]⟩ (Gh.to (by simp) (by first | (simp -dsimp; done) | (simp -dsimp [h2, z4, h5, z7, h8, q9, ↓e10, h13, q14, z15, ↓e17, w19]; done) | simp_all) (by first | (simp -dsimp; done) | (simp -dsimp [h2, z4, h5, z7, h8, q9, ↓e10, h13, q14, z15, ↓e17, w19]; done) | simp_all) (by first | (simp -dsimp; done) | (simp -dsimp [h2, z4, h5, z7, h8, q9, ↓e10, h13, q14, z15, ↓e17, w19]; done) | simp_all)) ?_
            exact (ih_spec_ParseWorld_l1 (names ++ [x16]) (i + 1) o hF) _ rfl _ hq
        · have q9 : (text.toList = ByteArray.empty.toList) := by first | exact h8 | omega | (simpa using h8) | (simp at h8 ⊢; omega) | simp_all
          rw [if_pos q9] at hF
          cases hF
          simp -dsimp [h2, z4, h5, z7, h8, q9]
          repeat (refine chk.go (by first | omega | assumption | (simp_all; done) | (simp_all; omega)) ?_; try simp -dsimp [h2, z4, h5, z7, h8, q9])
          refine Leave.go ⟨[(0, .lit (.string text)), (4, .own 0 (List.length (α := Vl.Data) [])), (5, .own 1 (List.length (α := ByteArray) names)), (6, .arr (List.map cS v))], [.elems 2 (List.map Vl.Data.c []), .elems 1 (List.map cS names)]⟩ (Gh.to (by simp) (by first | (simp -dsimp; done) | (simp -dsimp [h2, z4, h5, z7, h8, q9]; done) | simp_all) (by first | (simp -dsimp; done) | (simp -dsimp [h2, z4, h5, z7, h8, q9]; done) | simp_all) (by first | (simp -dsimp; done) | (simp -dsimp [h2, z4, h5, z7, h8, q9]; done) | simp_all)) ?_
          exact hq
      · have q6 : ¬ (i ≤ 4) := by first | exact h5 | omega | (simpa using h5) | (simp at h5 ⊢; omega) | simp_all
        have z7 : ¬ ((i : Int) ≤ (4 : Int)) := by first | omega | simp_all
        rw [if_neg q6] at hF
        cases hF
        simp -dsimp [h2, z4, h5, q6, z7]
        repeat (refine chk.go (by first | omega | assumption | (simp_all; done) | (simp_all; omega)) ?_; try simp -dsimp [h2, z4, h5, q6, z7])
        refine Leave.go ⟨[(0, .lit (.string text)), (4, .own 0 (List.length (α := Vl.Data) [])), (5, .own 1 (List.length (α := ByteArray) names)), (6, .arr (List.map cS v))], [.elems 2 (List.map Vl.Data.c []), .elems 1 (List.map cS names)]⟩ (Gh.to (by simp) (by first | (simp -dsimp; done) | (simp -dsimp [h2, z4, h5, q6, z7]; done) | simp_all) (by first | (simp -dsimp; done) | (simp -dsimp [h2, z4, h5, q6, z7]; done) | simp_all) (by first | (simp -dsimp; done) | (simp -dsimp [h2, z4, h5, q6, z7]; done) | simp_all)) ?_
        exact hq
    · have q3 : ¬ (i < v.length) := by first | exact h2 | omega | (simpa using h2) | (simp at h2 ⊢; omega) | simp_all
      have z4 : ¬ ((i : Int) < (v.length : Int)) := by first | omega | simp_all
      rw [if_neg q3] at hF
      cases hF
      simp -dsimp [h2, q3, z4]
      repeat (refine chk.go (by first | omega | assumption | (simp_all; done) | (simp_all; omega)) ?_; try simp -dsimp [h2, q3, z4])
      refine Leave.go ⟨[(0, .lit (.string text)), (4, .own 0 (List.length (α := Vl.Data) [])), (5, .own 1 (List.length (α := ByteArray) names)), (6, .arr (List.map cS v))], [.elems 2 (List.map Vl.Data.c []), .elems 1 (List.map cS names)]⟩ (Gh.to (by simp) (by first | (simp -dsimp; done) | (simp -dsimp [h2, q3, z4]; done) | simp_all) (by first | (simp -dsimp; done) | (simp -dsimp [h2, q3, z4]; done) | simp_all) (by first | (simp -dsimp; done) | (simp -dsimp [h2, q3, z4]; done) | simp_all)) ?_
      exact hq

theorem C.spec_ParseWorld_l1 (B : Nat) (hB1 : 67108864 ≤ B) (hB2 : B ≤ 9223372036854775807) (text : ByteArray) (v : List ByteArray) (names : List ByteArray) (i : Nat) (o : Lo ((List Vl.Data) × Bool) (List ByteArray)) (hF : F.spec_ParseWorld_l1 text v names i = some o) : ∀ (c : Code), navO [1, 1, 1, 1, 0, 1, 0, 0] (bodyOf Try.f81) = some c → ∀ (Q : Exit → ASt → Prop), o.post (fun r => ∀ st, Post Try.prog Try.f81 (fun r' _ => r'.le (.tup [.arr (List.map Vl.Data.c r.1), .lit (.bool r.2)])) .ret st → Q .ret st) (fun s => Q (.exit 0) ⟨[(0, .lit (.string text)), (4, .own 0 (List.length (α := Vl.Data) [])), (5, .own 1 (List.length (α := ByteArray) s)), (6, .arr (List.map cS v))], [.elems 2 (List.map Vl.Data.c []), .elems 1 (List.map cS s)]⟩) → ALoopU Try.prog B 0 101 (hold c .mk) ⟨[(0, .lit (.string text)), (4, .own 0 (List.length (α := Vl.Data) [])), (5, .own 1 (List.length (α := ByteArray) names)), (6, .arr (List.map cS v)), (7, .lit (.int .i64 (i : Int)))], [.elems 2 (List.map Vl.Data.c []), .elems 1 (List.map cS names)]⟩ (hold Q .mk) :=
  (CC.spec_ParseWorld_l1 B hB1 hB2 text v) names i o hF

set_option maxRecDepth 100000 in
set_option maxHeartbeats 400000 in
theorem CC.spec_ParseWorld_l3 (B : Nat) (hB1 : 67108864 ≤ B) (hB2 : B ≤ 9223372036854775807) (text : ByteArray) (v : List ByteArray) (out : List Vl.Data) (names21 : List ByteArray) (i22 : Nat) (v32 : List ByteArray) (x34 : ByteArray) : (∀ (out36 : List Vl.Ctor) (k : Nat) (o : List Vl.Ctor), F.spec_ParseWorld_l3 text v out names21 i22 v32 x34 out36 k = some o → ∀ (c : Code), navO [1, 1, 1, 1, 1, 0, 1, 0, 0, 1, 0, 0, 1, 1, 0, 1, 0, 0] (bodyOf Try.f81) = some c → ∀ (Q : Exit → ASt → Prop), Q (.exit 4) ⟨[(0, .lit (.string text)), (4, .own 0 (List.length (α := Vl.Data) out)), (5, .arr (List.map cS names21)), (6, .arr (List.map cS v)), (9, .lit (.int .i64 (i22 : Int))), (11, .ptr 2 0)], [.elems 2 (List.map Vl.Data.c out), .dead, .cells [.lit (.string x34), .own 3 (List.length (α := Vl.Ctor) o)], .elems 3 (List.map Vl.Ctor.c o)]⟩ → ALoopU Try.prog B 0 101 (hold c .mk) ⟨[(0, .lit (.string text)), (4, .own 0 (List.length (α := Vl.Data) out)), (5, .arr (List.map cS names21)), (6, .arr (List.map cS v)), (9, .lit (.int .i64 (i22 : Int))), (10, .arr (List.map cS v32)), (11, .ptr 2 0), (12, .lit (.int .i64 (k : Int)))], [.elems 2 (List.map Vl.Data.c out), .dead, .cells [.lit (.string x34), .own 3 (List.length (α := Vl.Ctor) out36)], .elems 3 (List.map Vl.Ctor.c out36)]⟩ (hold Q .mk)) := by
  refine F.spec_ParseWorld_l3.partial_correctness text v out names21 i22 v32 x34
    (fun out36 k o => ∀ (c : Code), navO [1, 1, 1, 1, 1, 0, 1, 0, 0, 1, 0, 0, 1, 1, 0, 1, 0, 0] (bodyOf Try.f81) = some c → ∀ (Q : Exit → ASt → Prop), Q (.exit 4) ⟨[(0, .lit (.string text)), (4, .own 0 (List.length (α := Vl.Data) out)), (5, .arr (List.map cS names21)), (6, .arr (List.map cS v)), (9, .lit (.int .i64 (i22 : Int))), (11, .ptr 2 0)], [.elems 2 (List.map Vl.Data.c out), .dead, .cells [.lit (.string x34), .own 3 (List.length (α := Vl.Ctor) o)], .elems 3 (List.map Vl.Ctor.c o)]⟩ → ALoopU Try.prog B 0 101 (hold c .mk) ⟨[(0, .lit (.string text)), (4, .own 0 (List.length (α := Vl.Data) out)), (5, .arr (List.map cS names21)), (6, .arr (List.map cS v)), (9, .lit (.int .i64 (i22 : Int))), (10, .arr (List.map cS v32)), (11, .ptr 2 0), (12, .lit (.int .i64 (k : Int)))], [.elems 2 (List.map Vl.Data.c out), .dead, .cells [.lit (.string x34), .own 3 (List.length (α := Vl.Ctor) out36)], .elems 3 (List.map Vl.Ctor.c out36)]⟩ (hold Q .mk))
    ?_
  · intro _f_spec_ParseWorld_l3 ih_spec_ParseWorld_l3 out36 k o hF
    intro c hc Q hq
    obtain rfl : c = _ := navEq hc rfl
    refine ALoopU.know fun hk hs => ?_
    have b5 := hk 5
    simp -dsimp at b5
    have b6 := hk 6
    simp -dsimp at b6
    have b10 := hk 10
    simp -dsimp at b10
    have d0 := hs 0 _ rfl
    simp -dsimp [Blk.bnd] at d0
    have d3 := hs 3 _ rfl
    simp -dsimp [Blk.bnd] at d3
    clear hk hs
    refine ALoopU.enter ?_
    simp -dsimp
    repeat (refine chk.go (by first | omega | assumption | (simp_all; done) | (simp_all; omega)) ?_; try simp -dsimp)
    refine abr.split (fun h37 => ?_) (fun h37 => ?_)
    · have q38 : (k < v32.length) := by first | exact h37 | omega | (simpa using h37) | (simp at h37 ⊢; omega) | simp_all
      have z39 : ((k : Int) < (v32.length : Int)) := by first | omega | simp_all
      rw [if_pos q38] at hF
      simp -dsimp [h37, z39]
      repeat (refine chk.go (by first | omega | assumption | (simp_all; done) | (simp_all; omega)) ?_; try simp -dsimp [h37, z39])
      refine abr.split (fun h40 => ?_) (fun h40 => ?_)
      · have q41 : (k ≤ 4) := by first | exact h40 | omega | (simpa using h40) | (simp at h40 ⊢; omega) | simp_all
        have z42 : ((k : Int) ≤ (4 : Int)) := by first | omega | simp_all
        rw [if_pos q41] at hF
        simp -dsimp [h37, z39, h40, z42]
        repeat (refine chk.go (by first | omega | assumption | (simp_all; done) | (simp_all; omega)) ?_; try simp -dsimp [h37, z39, h40, z42])
        refine ADraw.eff [] [(0, 1), (0, 1), (0, 0), (0, 0), (0, 0), (0, 0), (0, 0), (0, 3), (0, 3), (0, 3), (2, 2), (0, 3)] [0, 2, 1, 1, 1, 1, 1, 1, 1, 1, 1, 1] follows (by kernel_rfl) (by kernel_rfl) (by kernel_rfl) ?_
        have hF := ob hF; obtain ⟨x43, e44, hF⟩ := hF
        have le44 := lt_of_get e44
        simp -dsimp [h37, z39, h40, z42, ↓e44]
        repeat (refine chk.go (by first | omega | assumption | (simp_all; done) | (simp_all; omega)) ?_; try simp -dsimp [h37, z39, h40, z42, ↓e44])
        have hF := ob hF; obtain ⟨v45, e46, hF⟩ := hF
        refine ((C.spec_l1ParseCtor B hB1 hB2 names21 x43 v45 e46)).pgoW (by first | (simp; done) | (simp [h37, z39, h40, z42, ↓e44]; done) | simp_all) (by simp) ?_
        have hF := oc hF; obtain ⟨c47, hF⟩ := hF
        have w48 : IntKind.i64.wrap ((k : Int) + 1) = (k : Int) + 1 := wrap_in (by omega) (by omega)
        simp -dsimp [h37, z39, h40, z42, ↓e44, w48]
        repeat (refine chk.go (by first | omega | assumption | (simp_all; done) | (simp_all; omega)) ?_; try simp -dsimp [h37, z39, h40, z42, ↓e44, w48])
        refine Again.go ⟨[(0, .lit (.string text)), (4, .own 0 (List.length (α := Vl.Data) out)), (5, .arr (List.map cS names21)), (6, .arr (List.map cS v)), (9, .lit (.int .i64 (i22 : Int))), (10, .arr (List.map cS v32)), (11, .ptr 2 0), (12, .lit (.int .i64 ((k + 1) : Int)))], [.elems 2 (List.map Vl.Data.c out), .dead, .cells [.lit (.string x34), .own 3 (List.length (α := Vl.Ctor) (out36 ++ [v45]))], .elems 3 (List.map Vl.Ctor.c (out36 ++ [v45]))]⟩ (Gh.to (by simp) (by first | (simp -dsimp; done) | (simp -dsimp [h37, z39, h40, z42, ↓e44, w48]; done) | simp_all) (by first | (simp -dsimp; done) | (simp -dsimp [h37, z39, h40, z42, ↓e44, w48]; done) | simp_all) (by first | (simp -dsimp; done) | (simp -dsimp [h37, z39, h40, z42, ↓e44, w48]; done) | simp_all)) ?_
        exact (ih_spec_ParseWorld_l3 (out36 ++ [v45]) (k + 1) o hF) _ rfl _ hq
      · have q41 : ¬ (k ≤ 4) := by first | exact h40 | omega | (simpa using h40) | (simp at h40 ⊢; omega) | simp_all
        have z42 : ¬ ((k : Int) ≤ (4 : Int)) := by first | omega | simp_all
        rw [if_neg q41] at hF
        cases hF
        simp -dsimp [h37, z39, h40, q41, z42]
        repeat (refine chk.go (by first | omega | assumption | (simp_all; done) | (simp_all; omega)) ?_; try simp -dsimp [h37, z39, h40, q41, z42])
        refine Leave.go ⟨[(0, .lit (.string text)), (4, .own 0 (List.length (α := Vl.Data) out)), (5, .arr (List.map cS names21)), (6, .arr (List.map cS v)), (9, .lit (.int .i64 (i22 : Int))), (11, .ptr 2 0)], [.elems 2 (List.map Vl.Data.c out), .dead, .cells [.lit (.string x34), .own 3 (List.length (α := Vl.Ctor) out36)], .elems 3 (List.map Vl.Ctor.c out36)]⟩ (Gh.to (by simp) (by first | (simp -dsimp; done) | (simp -dsimp [h37, z39, h40, q41, z42]; done) | simp_all) (by first | (simp -dsimp; done) | (simp -dsimp [h37, z39, h40, q41, z42]; done) | simp_all) (by first | (simp -dsimp; done) | (simp -dsimp [h37, z39, h40, q41, z42]; done) | simp_all)) ?_
        exact hq
    · have q38 : ¬ (k < v32.length) := by first | exact h37 | omega | (simpa using h37) | (simp at h37 ⊢; omega) | simp_all
      have z39 : ¬ ((k : Int) < (v32.length : Int)) := by first | omega | simp_all
      rw [if_neg q38] at hF
      cases hF
      simp -dsimp [h37, q38, z39]
      repeat (refine chk.go (by first | omega | assumption | (simp_all; done) | (simp_all; omega)) ?_; try simp -dsimp [h37, q38, z39])
      refine Leave.go ⟨[(0, .lit (.string text)), (4, .own 0 (List.length (α := Vl.Data) out)), (5, .arr (List.map cS names21)), (6, .arr (List.map cS v)), (9, .lit (.int .i64 (i22 : Int))), (11, .ptr 2 0)], [.elems 2 (List.map Vl.Data.c out), .dead, .cells [.lit (.string x34), .own 3 (List.length (α := Vl.Ctor) out36)], .elems 3 (List.map Vl.Ctor.c out36)]⟩ (Gh.to (by simp) (by first | (simp -dsimp; done) | (simp -dsimp [h37, q38, z39]; done) | simp_all) (by first | (simp -dsimp; done) | (simp -dsimp [h37, q38, z39]; done) | simp_all) (by first | (simp -dsimp; done) | (simp -dsimp [h37, q38, z39]; done) | simp_all)) ?_
      exact hq

end Go.Proofs.Ytoacjahdkkdffaa
