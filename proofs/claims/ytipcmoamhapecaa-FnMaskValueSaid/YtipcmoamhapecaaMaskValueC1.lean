/- The contracts: the code computes the functions (printed by gen.py). -/
import Derived.Test.YtipcmoamhapecaaProg
import Derived.Test.YtipcmoamhapecaaMaskValueF
namespace Go.Proofs.Ytipcmoamhapecaa
open Go Go.Proofs Go.Vl
set_option linter.unusedSimpArgs false
set_option linter.unusedVariables false

attribute [local irreducible] ECallA aL AMake MLoop AgainM LeaveM awpM aopsM MutCall BCall chk abr ACall ALoop ALoopU ADraw Again Leave PCallA PCall Post awp aops PureCall hold

theorem follows : Try.prog.follows .mixedOrders = true := by kernel_rfl
@[simp] theorem ti2 : tiOf Try.prog 2 = some ⟨.word, 1, [.int .i64 0]⟩ := by kernel_rfl
@[simp] theorem ti3 : tiOf Try.prog 3 = some ⟨.word, 1, [.int .i64 0]⟩ := by kernel_rfl
@[simp] theorem ti4 : tiOf Try.prog 4 = some ⟨.word, 1, [.bool false]⟩ := by kernel_rfl
@[simp] theorem ti5 : tiOf Try.prog 5 = some ⟨.word, 1, [.int .u8 0]⟩ := by kernel_rfl
@[simp] theorem ti8 : tiOf Try.prog 8 = some ⟨.struct [(0, 1), (1, 1), (2, 1), (3, 1)], 4, [.int .i64 0, .int .i64 0, .bool false, .int .u8 0]⟩ := by kernel_rfl
@[simp] theorem ti9 : tiOf Try.prog 9 = some ⟨.word, 1, [.string ByteArray.empty]⟩ := by kernel_rfl
@[simp] theorem ti22 : tiOf Try.prog 22 = some ⟨.slice 1 1 [.int .u8 0], 1, [.slice none 0 0]⟩ := by kernel_rfl
@[simp] theorem sl22 : isSl Try.prog 22 = true := by kernel_rfl
@[simp] theorem ti23 : tiOf Try.prog 23 = some ⟨.slice 2 40 [.string ByteArray.empty, .slice none 0 0], 1, [.slice none 0 0]⟩ := by kernel_rfl
@[simp] theorem sl23 : isSl Try.prog 23 = true := by kernel_rfl
@[simp] theorem ti25 : tiOf Try.prog 25 = some ⟨.struct [(0, 1), (1, 1)], 2, [.int .i64 0, .int .i64 0]⟩ := by kernel_rfl
@[simp] theorem pr25 : pair2B Try.prog 25 = true := by kernel_rfl
@[simp] theorem ti26 : tiOf Try.prog 26 = some ⟨.slice 3 40 [.int .i64 0, .int .i64 0, .slice none 0 0], 1, [.slice none 0 0]⟩ := by kernel_rfl
@[simp] theorem sl26 : isSl Try.prog 26 = true := by kernel_rfl
@[simp] theorem ti28 : tiOf Try.prog 28 = some ⟨.struct [(0, 1), (1, 1), (2, 1)], 3, [.int .i64 0, .int .i64 0, .slice none 0 0]⟩ := by kernel_rfl
@[simp] theorem ti40 : tiOf Try.prog 40 = some ⟨.slice 1 8 [.int .i64 0], 1, [.slice none 0 0]⟩ := by kernel_rfl
@[simp] theorem sl40 : isSl Try.prog 40 = true := by kernel_rfl
@[simp] theorem ti41 : tiOf Try.prog 41 = some ⟨.slice 1 24 [.slice none 0 0], 1, [.slice none 0 0]⟩ := by kernel_rfl
@[simp] theorem sl41 : isSl Try.prog 41 = true := by kernel_rfl
@[simp] theorem ti80 : tiOf Try.prog 80 = some ⟨.struct [(0, 1), (1, 1)], 2, [.slice none 0 0, .int .i64 0]⟩ := by kernel_rfl
@[simp] theorem ti89 : tiOf Try.prog 89 = some ⟨.slice 2 16 [.int .i64 0, .int .i64 0], 1, [.slice none 0 0]⟩ := by kernel_rfl
@[simp] theorem sl89 : isSl Try.prog 89 = true := by kernel_rfl
@[simp] theorem ti92 : tiOf Try.prog 92 = some ⟨.slice 3 48 [.string ByteArray.empty, .slice none 0 0, .int .i64 0], 1, [.slice none 0 0]⟩ := by kernel_rfl
@[simp] theorem sl92 : isSl Try.prog 92 = true := by kernel_rfl
@[simp] theorem ti94 : tiOf Try.prog 94 = some ⟨.struct [(0, 1), (1, 1)], 2, [.string ByteArray.empty, .slice none 0 0]⟩ := by kernel_rfl
@[simp] theorem ti96 : tiOf Try.prog 96 = some ⟨.slice 1 16 [.string ByteArray.empty], 1, [.slice none 0 0]⟩ := by kernel_rfl
@[simp] theorem sl96 : isSl Try.prog 96 = true := by kernel_rfl
@[simp] theorem ti98 : tiOf Try.prog 98 = some ⟨.struct [(0, 1), (1, 1), (2, 1)], 3, [.string ByteArray.empty, .slice none 0 0, .int .i64 0]⟩ := by kernel_rfl
@[simp] theorem ti121 : mapB Try.prog 121 = true := by kernel_rfl
attribute [simp] Try.underlying2 Try.underlying3 Try.underlying4 Try.underlying5 Try.underlying9 Try.underlying22 Try.underlying23 Try.underlying26 Try.underlying40 Try.underlying41 Try.underlying89 Try.underlying92 Try.underlying96 Try.results7 Try.results10 Try.results12 Try.results13 Try.results15 Try.results18 Try.results19 Try.results20 Try.results24 Try.results25 Try.results27 Try.results28 Try.results30 Try.results31 Try.results32 Try.results35 Try.results36 Try.results38 Try.results39 Try.results40 Try.results41 Try.results49 Try.results50 Try.results51 Try.results52 Try.results53 Try.results54 Try.results55 Try.results56 Try.results57 Try.results58 Try.results61 Try.results62 Try.results63 Try.results64 Try.results65 Try.results66 Try.results67 Try.results68 Try.results69 Try.results72 Try.results81 Try.results82 Try.results83 Try.results84 Try.results85 Try.results86 Try.results87 Try.results88 Try.results89 Try.results90 Try.results91 Try.results92 Try.results93 Try.results94 Try.results95 Try.results96 Try.results97 Try.results98 Try.results99 Try.results104 Try.results105 Try.results106 Try.results107 Try.results108 Try.results109 Try.results110 Try.results111 Try.results112 Try.results113 Try.results114 Try.results117 Try.results118 Try.results119 Try.results122 Try.results123 Try.results124 Try.results125

set_option maxRecDepth 100000 in
set_option maxHeartbeats 4000000 in
theorem C.spec_l1Texts (B : Nat) (hB1 : 67108864 ≤ B) (hB2 : B ≤ 9223372036854775807)  (r : List ByteArray) (hF : F.spec_l1Texts  = some r) : PureCall Try.prog B 81 [] (.arr (List.map cS r)) := by
 unfold F.spec_l1Texts at hF
 refine PureCall.enterLe Try.func81 (by kernel_rfl) rfl Try.ntmps81 (by simp) (by simp) ?_
 cases hF
 repeat (first | refine chk.ga ?_ | simp -dsimp)
 all_goals (try omega)

set_option maxRecDepth 100000 in
set_option maxHeartbeats 4000000 in
theorem C.spec_l17Rd_pick (B : Nat) (hB1 : 67108864 ≤ B) (hB2 : B ≤ 9223372036854775807) (r' : Vl.T_spec_l17Rd) (n : Int) (r : Int × Vl.T_spec_l17Rd) (hF : F.spec_l17Rd_pick r' n = some r) : MutCall Try.prog B 27 [.arr (List.map cU r'.f0), .lit (.int .i64 r'.f1)] [.ptr 0 0, .lit (.int .i64 n)] (.lit (.int .i64 r.1)) [.arr (List.map cU r.2.f0), .lit (.int .i64 r.2.f1)] := by
 unfold F.spec_l17Rd_pick at hF
 refine MutCall.enter Try.func27 (by kernel_rfl) rfl Try.ntmps27 (by simp) (by simp) (by simp) (by simp) ?_
 repeat (first | refine chk.ga ?_ | simp -dsimp)
 refine abr.split (fun h1 => ?_) (fun h1 => ?_)
 ·have q2 : ¬ (n < 1) := auq h1
  rw [if_neg q2] at hF
  repeat (first | refine chk.ga ?_ | simp -dsimp [h1, q2])
  refine abr.split (fun h3 => ?_) (fun h3 => ?_)
  ·have q4 : (r'.f0.length = 0) := auq h3
   have z5 : ((r'.f0.length : Int) = (0 : Int)) := auz
   rw [if_pos q4] at hF
   cases hF
   repeat (first | refine chk.ga ?_ | simp -dsimp [h1, q2, h3, z5])
   all_goals (try omega)
  ·have q4 : ¬ (r'.f0.length = 0) := auq h3
   have z5 : ¬ ((r'.f0.length : Int) = (0 : Int)) := auz
   rw [if_neg q4] at hF
   repeat (first | refine chk.ga ?_ | simp -dsimp [h1, q2, h3, q4, z5])
   refine abr.split (fun h6 => ?_) (fun h6 => ?_)
   ·have q7 : (IntKind.i64.wrap (IntKind.i64.wrap (r'.f1 + 1) - 1) < (r'.f0.length : Int)) := auq h6
    rw [if_pos q7] at hF
    have hF := ob hF; obtain ⟨x, e8a, hF⟩ := hF
    have e8a := at_some e8a; obtain ⟨ne8, e8⟩ := e8a
    have le8 := lt_of_get e8
    have hF := oc hF; obtain ⟨c9, hF⟩ := hF
    cases hF
    repeat (first | refine chk.ga ?_ | simp -dsimp [h1, q2, h3, q4, z5, h6, ↓e8])
    all_goals (try omega)
   ·have q7 : ¬ (IntKind.i64.wrap (IntKind.i64.wrap (r'.f1 + 1) - 1) < (r'.f0.length : Int)) := auq h6
    rw [if_neg q7] at hF
    repeat (first | refine chk.ga ?_ | simp -dsimp [h1, q2, h3, q4, z5, h6, q7])
    refine ADraw.simple follows (by kernel_rfl) (by kernel_rfl) ?_
    have hF := oc hF; obtain ⟨c10, hF⟩ := hF
    have hF := ob hF; obtain ⟨x11, e12a, hF⟩ := hF
    have e12a := at_some e12a; obtain ⟨ne12, e12⟩ := e12a
    have le12 := lt_of_get e12
    have hF := ob hF; obtain ⟨x13, e14a, hF⟩ := hF
    have e14a := at_some e14a; obtain ⟨ne14, e14⟩ := e14a
    have le14 := lt_of_get e14
    have hF := oc hF; obtain ⟨c15, hF⟩ := hF
    cases hF
    repeat (first | refine chk.ga ?_ | simp -dsimp [h1, q2, h3, q4, z5, h6, q7, ↓e12, ↓e14])
    all_goals (try omega)
 ·have q2 : (n < 1) := auq h1
  rw [if_pos q2] at hF
  cases hF
  repeat (first | refine chk.ga ?_ | simp -dsimp [h1, q2])
  all_goals (try omega)

set_option maxRecDepth 100000 in
set_option maxHeartbeats 4000000 in
theorem CC.spec_l17Cut_l1 (B : Nat) (hB1 : 67108864 ≤ B) (hB2 : B ≤ 9223372036854775807) (s : ByteArray) (c' : Int) : (∀ (out : List ByteArray) (from' : Nat) (i : Nat) (o : List ByteArray), F.spec_l17Cut_l1 s c' out from' i = some o → ∀ (c : Code), navO [1, 1, 1, 0, 1, 0, 0] (bodyOf Try.f104) = some c → ∀ (Q : Exit → ASt → Prop), Q (.exit 0) ⟨[(5, .own 0 (List.length (α := ByteArray) o))], [.elems 1 (List.map cS o)]⟩ → ALoopU Try.prog B 0 36 (hold c .mk) ⟨[(0, .lit (.string s)), (1, .lit (.int .u8 c')), (5, .own 0 (List.length (α := ByteArray) out)), (6, .lit (.int .i64 (from' : Int))), (7, .lit (.int .i64 (i : Int)))], [.elems 1 (List.map cS out)]⟩ (hold Q .mk)) := by
 refine F.spec_l17Cut_l1.partial_correctness s c'
  (fun out from' i o => ∀ (c : Code), navO [1, 1, 1, 0, 1, 0, 0] (bodyOf Try.f104) = some c → ∀ (Q : Exit → ASt → Prop), Q (.exit 0) ⟨[(5, .own 0 (List.length (α := ByteArray) o))], [.elems 1 (List.map cS o)]⟩ → ALoopU Try.prog B 0 36 (hold c .mk) ⟨[(0, .lit (.string s)), (1, .lit (.int .u8 c')), (5, .own 0 (List.length (α := ByteArray) out)), (6, .lit (.int .i64 (from' : Int))), (7, .lit (.int .i64 (i : Int)))], [.elems 1 (List.map cS out)]⟩ (hold Q .mk))
  ?_
 ·intro _f_spec_l17Cut_l1 ih_spec_l17Cut_l1 out from' i o hF
  intro c hc Q hq
  obtain rfl : c = _ := navEq hc rfl
  refine ALoopU.know fun hk hs => ?_
  have d0 := hs 0 _ rfl
  simp -dsimp [Blk.bnd] at d0
  clear hk hs
  refine ALoopU.enter ?_
  repeat (first | refine chk.ga ?_ | simp -dsimp)
  refine abr.split (fun h1 => ?_) (fun h1 => ?_)
  ·have q2 : (i ≤ s.size) := auq h1
   have z3 : ((i : Int) ≤ (s.size : Int)) := auz
   rw [if_pos q2] at hF
   repeat (first | refine chk.ga ?_ | simp -dsimp [h1, z3])
   refine abr.split (fun h4 => ?_) (fun h4 => ?_)
   ·have q5 : ¬ (i = s.size) := auq h4
    have z6 : ¬ ((i : Int) = (s.size : Int)) := auz
    rw [if_neg q5] at hF
    have hF := oc hF; obtain ⟨c7, hF⟩ := hF
    repeat (first | refine chk.ga ?_ | simp -dsimp [h1, z3, h4, q5, z6])
    refine abr.split (fun h8 => ?_) (fun h8 => ?_)
    ·have q9 : (((byteAt s i : Nat) : Int) = c') := auq h8
     rw [if_pos q9] at hF
     have hF := oc hF; obtain ⟨c10, hF⟩ := hF
     have hF := oc hF; obtain ⟨c11, hF⟩ := hF
     have hF := oc hF; obtain ⟨c12, hF⟩ := hF
     have w13 : IntKind.i64.wrap ((i : Int) + 1) = (i : Int) + 1 := wrap_in (by omega) (by omega)
     have w14 : IntKind.i64.wrap ((i : Int) + 1) = (i : Int) + 1 := wrap_in (by omega) (by omega)
     repeat (first | refine chk.ga ?_ | simp -dsimp [h1, z3, h4, q5, z6, h8, w13, w14])
     refine Again.go ⟨[(0, .lit (.string s)), (1, .lit (.int .u8 c')), (5, .own 0 (List.length (α := ByteArray) (out ++ [s.extract from' i]))), (6, .lit (.int .i64 ((i + 1) : Int))), (7, .lit (.int .i64 ((i + 1) : Int)))], [.elems 1 (List.map cS (out ++ [s.extract from' i]))]⟩ (Gh.to3 (by simp) (by first | simp -dsimp [h1, z3, h4, q5, z6, h8, w13, w14]; done | simp_all)) ?_
     exact (ih_spec_l17Cut_l1 (out ++ [s.extract from' i]) (i + 1) (i + 1) o hF) _ rfl _ hq
    ·have q9 : ¬ (((byteAt s i : Nat) : Int) = c') := auq h8
     rw [if_neg q9] at hF
     have hF := oc hF; obtain ⟨c15, hF⟩ := hF
     have w16 : IntKind.i64.wrap ((i : Int) + 1) = (i : Int) + 1 := wrap_in (by omega) (by omega)
     repeat (first | refine chk.ga ?_ | simp -dsimp [h1, z3, h4, q5, z6, h8, q9, w16])
     refine Again.go ⟨[(0, .lit (.string s)), (1, .lit (.int .u8 c')), (5, .own 0 (List.length (α := ByteArray) out)), (6, .lit (.int .i64 (from' : Int))), (7, .lit (.int .i64 ((i + 1) : Int)))], [.elems 1 (List.map cS out)]⟩ (Gh.to3 (by simp) (by first | simp -dsimp [h1, z3, h4, q5, z6, h8, q9, w16]; done | simp_all)) ?_
     exact (ih_spec_l17Cut_l1 out from' (i + 1) o hF) _ rfl _ hq
   ·have q5 : (i = s.size) := auq h4
    have z6 : ((i : Int) = (s.size : Int)) := auz
    rw [if_pos q5] at hF
    have hF := oc hF; obtain ⟨c17, hF⟩ := hF
    have hF := oc hF; obtain ⟨c18, hF⟩ := hF
    have hF := oc hF; obtain ⟨c19, hF⟩ := hF
    have w20 : IntKind.i64.wrap ((i : Int) + 1) = (i : Int) + 1 := wrap_in (by omega) (by omega)
    have w21 : IntKind.i64.wrap ((i : Int) + 1) = (i : Int) + 1 := wrap_in (by omega) (by omega)
    repeat (first | refine chk.ga ?_ | simp -dsimp [h1, z3, h4, q5, z6, w20, w21])
    refine Again.go ⟨[(0, .lit (.string s)), (1, .lit (.int .u8 c')), (5, .own 0 (List.length (α := ByteArray) (out ++ [s.extract from' i]))), (6, .lit (.int .i64 ((i + 1) : Int))), (7, .lit (.int .i64 ((i + 1) : Int)))], [.elems 1 (List.map cS (out ++ [s.extract from' i]))]⟩ (Gh.to3 (by simp) (by first | simp -dsimp [h1, z3, h4, q5, z6, w20, w21]; done | simp_all)) ?_
    exact (ih_spec_l17Cut_l1 (out ++ [s.extract from' i]) (i + 1) (i + 1) o hF) _ rfl _ hq
  ·have q2 : ¬ (i ≤ s.size) := auq h1
   have z3 : ¬ ((i : Int) ≤ (s.size : Int)) := auz
   rw [if_neg q2] at hF
   cases hF
   repeat (first | refine chk.ga ?_ | simp -dsimp [h1, q2, z3])
   refine Leave.go ⟨[(5, .own 0 (List.length (α := ByteArray) out))], [.elems 1 (List.map cS out)]⟩ (Gh.to3 (by simp) (by first | simp -dsimp [h1, q2, z3]; done | simp_all)) ?_
   exact hq

theorem C.spec_l17Cut_l1 (B : Nat) (hB1 : 67108864 ≤ B) (hB2 : B ≤ 9223372036854775807) (s : ByteArray) (c' : Int) (out : List ByteArray) (from' : Nat) (i : Nat) (o : List ByteArray) (hF : F.spec_l17Cut_l1 s c' out from' i = some o) : ∀ (c : Code), navO [1, 1, 1, 0, 1, 0, 0] (bodyOf Try.f104) = some c → ∀ (Q : Exit → ASt → Prop), Q (.exit 0) ⟨[(5, .own 0 (List.length (α := ByteArray) o))], [.elems 1 (List.map cS o)]⟩ → ALoopU Try.prog B 0 36 (hold c .mk) ⟨[(0, .lit (.string s)), (1, .lit (.int .u8 c')), (5, .own 0 (List.length (α := ByteArray) out)), (6, .lit (.int .i64 (from' : Int))), (7, .lit (.int .i64 (i : Int)))], [.elems 1 (List.map cS out)]⟩ (hold Q .mk) :=
 (CC.spec_l17Cut_l1 B hB1 hB2 s c') out from' i o hF

set_option maxRecDepth 100000 in
set_option maxHeartbeats 4000000 in
theorem C.spec_l17Cut (B : Nat) (hB1 : 67108864 ≤ B) (hB2 : B ≤ 9223372036854775807) (s : ByteArray) (c' : Int) (r : List ByteArray) (hF : F.spec_l17Cut s c' = some r) : PureCall Try.prog B 104 [.lit (.string s), .lit (.int .u8 c')] (.arr (List.map cS r)) := by
 unfold F.spec_l17Cut at hF
 refine PureCall.enterLe Try.func104 (by kernel_rfl) rfl Try.ntmps104 (by simp) (by simp) ?_
 repeat (first | refine chk.ga ?_ | simp -dsimp)
 have hF := ob hF; obtain ⟨o', ho22, hF⟩ := hF
 refine ALoop.goU ⟨[(0, .lit (.string s)), (1, .lit (.int .u8 c')), (5, .own 0 (List.length (α := ByteArray) [])), (6, .lit (.int .i64 (0 : Int))), (7, .lit (.int .i64 (0 : Int)))], [.elems 1 (List.map cS [])]⟩ (Gh.to3 (by simp) (by simp -dsimp)) ?_
 refine (C.spec_l17Cut_l1 B hB1 hB2 s c' [] 0 0 o' ho22) _ rfl _ ?_
 cases hF
 repeat (first | refine chk.ga ?_ | simp -dsimp)
 all_goals (try omega)

set_option maxRecDepth 100000 in
set_option maxHeartbeats 4000000 in
theorem CC.spec_l1Find_l1 (B : Nat) (hB1 : 67108864 ≤ B) (hB2 : B ≤ 9223372036854775807) (names : List ByteArray) (s : ByteArray) : (∀ (i : Nat) (o : Lo Int Unit), F.spec_l1Find_l1 names s i = some o → ∀ (c : Code), navO [1, 1, 0, 1, 0, 0] (bodyOf Try.f122) = some c → ∀ (Q : Exit → ASt → Prop), o.post (fun r => ∀ st, Post Try.prog Try.f122 (fun r' _ => r'.le (.lit (.int .i64 r))) .ret st → Q .ret st) (fun s => Q (.exit 0) ⟨[], []⟩) → ALoopU Try.prog B 0 21 (hold c .mk) ⟨[(0, .arr (List.map cS names)), (1, .lit (.string s)), (5, .lit (.int .i64 (i : Int)))], []⟩ (hold Q .mk)) := by
 refine F.spec_l1Find_l1.partial_correctness names s
  (fun i o => ∀ (c : Code), navO [1, 1, 0, 1, 0, 0] (bodyOf Try.f122) = some c → ∀ (Q : Exit → ASt → Prop), o.post (fun r => ∀ st, Post Try.prog Try.f122 (fun r' _ => r'.le (.lit (.int .i64 r))) .ret st → Q .ret st) (fun s => Q (.exit 0) ⟨[], []⟩) → ALoopU Try.prog B 0 21 (hold c .mk) ⟨[(0, .arr (List.map cS names)), (1, .lit (.string s)), (5, .lit (.int .i64 (i : Int)))], []⟩ (hold Q .mk))
  ?_
 ·intro _f_spec_l1Find_l1 ih_spec_l1Find_l1 i o hF
  intro c hc Q hq
  obtain rfl : c = _ := navEq hc rfl
  refine ALoopU.know fun hk hs => ?_
  have b0 := hk 0
  simp -dsimp at b0
  clear hk hs
  refine ALoopU.enter ?_
  repeat (first | refine chk.ga ?_ | simp -dsimp)
  refine abr.split (fun h3 => ?_) (fun h3 => ?_)
  ·have q4 : (i < names.length) := auq h3
   have z5 : ((i : Int) < (names.length : Int)) := auz
   rw [if_pos q4] at hF
   have hF := ob hF; obtain ⟨x, e6, hF⟩ := hF
   have le6 := lt_of_get e6
   repeat (first | refine chk.ga ?_ | simp -dsimp [h3, z5, ↓e6])
   refine abr.split (fun h7 => ?_) (fun h7 => ?_)
   ·have q8 : (x.toList = s.toList) := auq h7
    rw [if_pos q8] at hF
    cases hF
    repeat (first | refine chk.ga ?_ | simp -dsimp [h3, z5, ↓e6, h7])
    refine Leave.go _ (Gh.refl _) (hq _ ?_)
    repeat (first | refine chk.ga ?_ | simp -dsimp [h3, z5, ↓e6, h7])
   ·have q8 : ¬ (x.toList = s.toList) := auq h7
    rw [if_neg q8] at hF
    have w9 : IntKind.i64.wrap ((i : Int) + 1) = (i : Int) + 1 := wrap_in (by omega) (by omega)
    repeat (first | refine chk.ga ?_ | simp -dsimp [h3, z5, ↓e6, h7, q8, w9])
    refine Again.go ⟨[(0, .arr (List.map cS names)), (1, .lit (.string s)), (5, .lit (.int .i64 ((i + 1) : Int)))], []⟩ (Gh.to3 (by simp) (by first | simp -dsimp [h3, z5, ↓e6, h7, q8, w9]; done | simp_all)) ?_
    exact (ih_spec_l1Find_l1 (i + 1) o hF) _ rfl _ hq
  ·have q4 : ¬ (i < names.length) := auq h3
   have z5 : ¬ ((i : Int) < (names.length : Int)) := auz
   rw [if_neg q4] at hF
   cases hF
   repeat (first | refine chk.ga ?_ | simp -dsimp [h3, q4, z5])
   refine Leave.go ⟨[], []⟩ (Gh.to3 (by simp) (by first | simp -dsimp [h3, q4, z5]; done | simp_all)) ?_
   exact hq

theorem C.spec_l1Find_l1 (B : Nat) (hB1 : 67108864 ≤ B) (hB2 : B ≤ 9223372036854775807) (names : List ByteArray) (s : ByteArray) (i : Nat) (o : Lo Int Unit) (hF : F.spec_l1Find_l1 names s i = some o) : ∀ (c : Code), navO [1, 1, 0, 1, 0, 0] (bodyOf Try.f122) = some c → ∀ (Q : Exit → ASt → Prop), o.post (fun r => ∀ st, Post Try.prog Try.f122 (fun r' _ => r'.le (.lit (.int .i64 r))) .ret st → Q .ret st) (fun s => Q (.exit 0) ⟨[], []⟩) → ALoopU Try.prog B 0 21 (hold c .mk) ⟨[(0, .arr (List.map cS names)), (1, .lit (.string s)), (5, .lit (.int .i64 (i : Int)))], []⟩ (hold Q .mk) :=
 (CC.spec_l1Find_l1 B hB1 hB2 names s) i o hF

set_option maxRecDepth 100000 in
set_option maxHeartbeats 4000000 in
theorem C.spec_l1Find (B : Nat) (hB1 : 67108864 ≤ B) (hB2 : B ≤ 9223372036854775807) (names : List ByteArray) (s : ByteArray) (r : Int) (hF : F.spec_l1Find names s = some r) : PureCall Try.prog B 122 [.arr (List.map cS names), .lit (.string s)] (.lit (.int .i64 r)) := by
 unfold F.spec_l1Find at hF
 refine PureCall.enterLe Try.func122 (by kernel_rfl) rfl Try.ntmps122 (by simp) (by simp) ?_
 repeat (first | refine chk.ga ?_ | simp -dsimp)
 refine abr.split (fun h1 => ?_) (fun h1 => ?_)
 ·have q2 : (s.toList = (⟨#[73]⟩ : ByteArray).toList) := auq h1
  rw [if_pos q2] at hF
  cases hF
  repeat (first | refine chk.ga ?_ | simp -dsimp [h1])
  all_goals (try omega)
 ·have q2 : ¬ (s.toList = (⟨#[73]⟩ : ByteArray).toList) := auq h1
  rw [if_neg q2] at hF
  repeat (first | refine chk.ga ?_ | simp -dsimp [h1, q2])
  have hF := ob hF; obtain ⟨o', ho10, hF⟩ := hF
  refine ALoop.goU ⟨[(0, .arr (List.map cS names)), (1, .lit (.string s)), (5, .lit (.int .i64 (0 : Int)))], []⟩ (Gh.to3 (by simp) (by first | simp -dsimp [h1, q2]; done | simp_all)) ?_
  refine (C.spec_l1Find_l1 B hB1 hB2 names s 0 o' ho10) _ rfl _ ?_
  rcases o' with r0 | sx
  ·dsimp only at hF
   cases hF
   intro st h
   simpa using h
  ·dsimp only at hF
   cases hF
   repeat (first | refine chk.ga ?_ | simp -dsimp)
   all_goals (try omega)

set_option maxRecDepth 100000 in
set_option maxHeartbeats 4000000 in
theorem C.spec_l1ParseType (B : Nat) (hB1 : 67108864 ≤ B) (hB2 : B ≤ 9223372036854775807) (names : List ByteArray) (s : ByteArray) (r : Vl.Ty) (hF : F.spec_l1ParseType names s = some r) : PureCall Try.prog B 117 [.arr (List.map cS names), .lit (.string s)] (.agg [.lit (.int .i64 r.data), .lit (.int .i64 r.index)]) := by
 unfold F.spec_l1ParseType at hF
 refine PureCall.enterLe Try.func117 (by kernel_rfl) rfl Try.ntmps117 (by simp) (by simp) ?_
 repeat (first | refine chk.ga ?_ | simp -dsimp)
 refine abr.split (fun h1 => ?_) (fun h1 => ?_)
 ·have q2 : (s.toList = ByteArray.empty.toList) := auq h1
  rw [if_pos q2] at hF
  cases hF
  repeat (first | refine chk.ga ?_ | simp -dsimp [h1])
  all_goals (try omega)
 ·have q2 : ¬ (s.toList = ByteArray.empty.toList) := auq h1
  rw [if_neg q2] at hF
  have hF := oc hF; obtain ⟨c3, hF⟩ := hF
  repeat (first | refine chk.ga ?_ | simp -dsimp [h1, q2])
  have hF := ob hF; obtain ⟨v, e4, hF⟩ := hF
  refine ((C.spec_l1Find B hB1 hB2 names (s.extract 0 1) v e4)).goW (by first | simp [h1, q2]; done | simp_all) (by simp) ?_
  repeat (first | refine chk.ga ?_ | simp -dsimp [h1, q2])
  refine abr.split (fun h5 => ?_) (fun h5 => ?_)
  ·have q6 : ((s.extract 1 s.size).toList = (⟨#[42]⟩ : ByteArray).toList) := auq h5
   rw [if_pos q6] at hF
   cases hF
   repeat (first | refine chk.ga ?_ | simp -dsimp [h1, q2, h5])
   all_goals (try omega)
  ·have q6 : ¬ ((s.extract 1 s.size).toList = (⟨#[42]⟩ : ByteArray).toList) := auq h5
   rw [if_neg q6] at hF
   repeat (first | refine chk.ga ?_ | simp -dsimp [h1, q2, h5, q6])
   refine abr.split (fun h7 => ?_) (fun h7 => ?_)
   ·have q8 : (s.size = 2) := auq h7
    have z9 : ((s.size : Int) = (2 : Int)) := auz
    rw [if_pos q8] at hF
    have hF := oc hF; obtain ⟨c10, hF⟩ := hF
    repeat (first | refine chk.ga ?_ | simp -dsimp [h1, q2, h5, q6, h7, z9])
    refine abr.split (fun h11 => ?_) (fun h11 => ?_)
    ·have q12 : (48 ≤ byteAt s 1) := auq h11
     have z13 : ((48 : Int) ≤ ((byteAt s 1 : Nat) : Int)) := auz
     rw [if_pos q12] at hF
     repeat (first | refine chk.ga ?_ | simp -dsimp [h1, q2, h5, q6, h7, z9, h11, z13])
     refine abr.split (fun h14 => ?_) (fun h14 => ?_)
     ·have q15 : (byteAt s 1 ≤ 57) := auq h14
      have z16 : (((byteAt s 1 : Nat) : Int) ≤ (57 : Int)) := auz
      rw [if_pos q15] at hF
      cases hF
      repeat (first | refine chk.ga ?_ | simp -dsimp [h1, q2, h5, q6, h7, z9, h11, z13, h14, z16])
      all_goals (try omega)
     ·have q15 : ¬ (byteAt s 1 ≤ 57) := auq h14
      have z16 : ¬ (((byteAt s 1 : Nat) : Int) ≤ (57 : Int)) := auz
      rw [if_neg q15] at hF
      cases hF
      repeat (first | refine chk.ga ?_ | simp -dsimp [h1, q2, h5, q6, h7, z9, h11, z13, h14, q15, z16])
      all_goals (try omega)
    ·have q12 : ¬ (48 ≤ byteAt s 1) := auq h11
     have z13 : ¬ ((48 : Int) ≤ ((byteAt s 1 : Nat) : Int)) := auz
     rw [if_neg q12] at hF
     cases hF
     repeat (first | refine chk.ga ?_ | simp -dsimp [h1, q2, h5, q6, h7, z9, h11, q12, z13])
     all_goals (try omega)
   ·have q8 : ¬ (s.size = 2) := auq h7
    have z9 : ¬ ((s.size : Int) = (2 : Int)) := auz
    rw [if_neg q8] at hF
    cases hF
    repeat (first | refine chk.ga ?_ | simp -dsimp [h1, q2, h5, q6, h7, q8, z9])
    all_goals (try omega)

set_option maxRecDepth 100000 in
set_option maxHeartbeats 4000000 in
theorem CC.spec_l1ParseCtor_l1 (B : Nat) (hB1 : 67108864 ≤ B) (hB2 : B ≤ 9223372036854775807) (names : List ByteArray) (s : ByteArray) (x : ByteArray) (v21 : List ByteArray) : (∀ (out : List Vl.Ty) (i : Nat) (o : List Vl.Ty), F.spec_l1ParseCtor_l1 names s x v21 out i = some o → ∀ (c : Code), navO [1, 1, 1, 1, 1, 1, 1, 0, 1, 0, 0] (bodyOf Try.f105) = some c → ∀ (Q : Exit → ASt → Prop), Q (.exit 0) ⟨[(4, .ptr 0 0), (5, .ptr 1 0)], [.cells [.lit (.string ByteArray.empty), .lit (.slice none 0 0), .lit (.int .i64 0)], .cells [.lit (.string x), .own 2 (List.length (α := Vl.Ty) o), .lit (.int .i64 (IntKind.i64.wrap (IntKind.i64.wrap ((byteAt s ((IntKind.i64.wrap ((s.size : Int) - 1)).toNat) : Nat) : Int) - 48)))], .elems 2 (List.map Vl.Ty.c o)]⟩ → ALoopU Try.prog B 0 83 (hold c .mk) ⟨[(0, .arr (List.map cS names)), (4, .ptr 0 0), (5, .ptr 1 0), (7, .arr (List.map cS v21)), (8, .lit (.int .i64 (i : Int)))], [.cells [.lit (.string ByteArray.empty), .lit (.slice none 0 0), .lit (.int .i64 0)], .cells [.lit (.string x), .own 2 (List.length (α := Vl.Ty) out), .lit (.int .i64 (IntKind.i64.wrap (IntKind.i64.wrap ((byteAt s ((IntKind.i64.wrap ((s.size : Int) - 1)).toNat) : Nat) : Int) - 48)))], .elems 2 (List.map Vl.Ty.c out)]⟩ (hold Q .mk)) := by
 refine F.spec_l1ParseCtor_l1.partial_correctness names s x v21
  (fun out i o => ∀ (c : Code), navO [1, 1, 1, 1, 1, 1, 1, 0, 1, 0, 0] (bodyOf Try.f105) = some c → ∀ (Q : Exit → ASt → Prop), Q (.exit 0) ⟨[(4, .ptr 0 0), (5, .ptr 1 0)], [.cells [.lit (.string ByteArray.empty), .lit (.slice none 0 0), .lit (.int .i64 0)], .cells [.lit (.string x), .own 2 (List.length (α := Vl.Ty) o), .lit (.int .i64 (IntKind.i64.wrap (IntKind.i64.wrap ((byteAt s ((IntKind.i64.wrap ((s.size : Int) - 1)).toNat) : Nat) : Int) - 48)))], .elems 2 (List.map Vl.Ty.c o)]⟩ → ALoopU Try.prog B 0 83 (hold c .mk) ⟨[(0, .arr (List.map cS names)), (4, .ptr 0 0), (5, .ptr 1 0), (7, .arr (List.map cS v21)), (8, .lit (.int .i64 (i : Int)))], [.cells [.lit (.string ByteArray.empty), .lit (.slice none 0 0), .lit (.int .i64 0)], .cells [.lit (.string x), .own 2 (List.length (α := Vl.Ty) out), .lit (.int .i64 (IntKind.i64.wrap (IntKind.i64.wrap ((byteAt s ((IntKind.i64.wrap ((s.size : Int) - 1)).toNat) : Nat) : Int) - 48)))], .elems 2 (List.map Vl.Ty.c out)]⟩ (hold Q .mk))
  ?_
 ·intro _f_spec_l1ParseCtor_l1 ih_spec_l1ParseCtor_l1 out i o hF
  intro c hc Q hq
  obtain rfl : c = _ := navEq hc rfl
  refine ALoopU.know fun hk hs => ?_
  have b0 := hk 0
  simp -dsimp at b0
  have b7 := hk 7
  simp -dsimp at b7
  have d2 := hs 2 _ rfl
  simp -dsimp [Blk.bnd] at d2
  clear hk hs
  refine ALoopU.enter ?_
  repeat (first | refine chk.ga ?_ | simp -dsimp)
  refine abr.split (fun h23 => ?_) (fun h23 => ?_)
  ·have q24 : (i < v21.length) := auq h23
   have z25 : ((i : Int) < (v21.length : Int)) := auz
   rw [if_pos q24] at hF
   repeat (first | refine chk.ga ?_ | simp -dsimp [h23, z25])
   refine abr.split (fun h26 => ?_) (fun h26 => ?_)
   ·have q27 : (i ≤ 3) := auq h26
    have z28 : ((i : Int) ≤ (3 : Int)) := auz
    rw [if_pos q27] at hF
    repeat (first | refine chk.ga ?_ | simp -dsimp [h23, z25, h26, z28])
    refine ADraw.eff [] [(0, 1), (0, 1), (0, 0), (0, 0), (0, 0), (0, 0), (0, 0), (0, 3), (0, 3), (0, 3), (2, 2), (0, 3)] [0, 2, 1, 1, 1, 1, 1, 1, 1, 1, 1, 1] follows (by kernel_rfl) (by kernel_rfl) (by kernel_rfl) ?_
    have hF := ob hF; obtain ⟨x29, e30, hF⟩ := hF
    have le30 := lt_of_get e30
    repeat (first | refine chk.ga ?_ | simp -dsimp [h23, z25, h26, z28, ↓e30])
    have hF := ob hF; obtain ⟨v31, e32, hF⟩ := hF
    refine ((C.spec_l1ParseType B hB1 hB2 names x29 v31 e32)).pgoW (by first | simp [h23, z25, h26, z28, ↓e30]; done | simp_all) (by simp) ?_
    have hF := oc hF; obtain ⟨c33, hF⟩ := hF
    have w34 : IntKind.i64.wrap ((i : Int) + 1) = (i : Int) + 1 := wrap_in (by omega) (by omega)
    repeat (first | refine chk.ga ?_ | simp -dsimp [h23, z25, h26, z28, ↓e30, w34])
    refine Again.go ⟨[(0, .arr (List.map cS names)), (4, .ptr 0 0), (5, .ptr 1 0), (7, .arr (List.map cS v21)), (8, .lit (.int .i64 ((i + 1) : Int)))], [.cells [.lit (.string ByteArray.empty), .lit (.slice none 0 0), .lit (.int .i64 0)], .cells [.lit (.string x), .own 2 (List.length (α := Vl.Ty) (out ++ [v31])), .lit (.int .i64 (IntKind.i64.wrap (IntKind.i64.wrap ((byteAt s ((IntKind.i64.wrap ((s.size : Int) - 1)).toNat) : Nat) : Int) - 48)))], .elems 2 (List.map Vl.Ty.c (out ++ [v31]))]⟩ (Gh.to3 (by simp) (by first | simp -dsimp [h23, z25, h26, z28, ↓e30, w34]; done | simp_all)) ?_
    exact (ih_spec_l1ParseCtor_l1 (out ++ [v31]) (i + 1) o hF) _ rfl _ hq
   ·have q27 : ¬ (i ≤ 3) := auq h26
    have z28 : ¬ ((i : Int) ≤ (3 : Int)) := auz
    rw [if_neg q27] at hF
    cases hF
    repeat (first | refine chk.ga ?_ | simp -dsimp [h23, z25, h26, q27, z28])
    refine Leave.go ⟨[(4, .ptr 0 0), (5, .ptr 1 0)], [.cells [.lit (.string ByteArray.empty), .lit (.slice none 0 0), .lit (.int .i64 0)], .cells [.lit (.string x), .own 2 (List.length (α := Vl.Ty) out), .lit (.int .i64 (IntKind.i64.wrap (IntKind.i64.wrap ((byteAt s ((IntKind.i64.wrap ((s.size : Int) - 1)).toNat) : Nat) : Int) - 48)))], .elems 2 (List.map Vl.Ty.c out)]⟩ (Gh.to3 (by simp) (by first | simp -dsimp [h23, z25, h26, q27, z28]; done | simp_all)) ?_
    exact hq
  ·have q24 : ¬ (i < v21.length) := auq h23
   have z25 : ¬ ((i : Int) < (v21.length : Int)) := auz
   rw [if_neg q24] at hF
   cases hF
   repeat (first | refine chk.ga ?_ | simp -dsimp [h23, q24, z25])
   refine Leave.go ⟨[(4, .ptr 0 0), (5, .ptr 1 0)], [.cells [.lit (.string ByteArray.empty), .lit (.slice none 0 0), .lit (.int .i64 0)], .cells [.lit (.string x), .own 2 (List.length (α := Vl.Ty) out), .lit (.int .i64 (IntKind.i64.wrap (IntKind.i64.wrap ((byteAt s ((IntKind.i64.wrap ((s.size : Int) - 1)).toNat) : Nat) : Int) - 48)))], .elems 2 (List.map Vl.Ty.c out)]⟩ (Gh.to3 (by simp) (by first | simp -dsimp [h23, q24, z25]; done | simp_all)) ?_
   exact hq

theorem C.spec_l1ParseCtor_l1 (B : Nat) (hB1 : 67108864 ≤ B) (hB2 : B ≤ 9223372036854775807) (names : List ByteArray) (s : ByteArray) (x : ByteArray) (v21 : List ByteArray) (out : List Vl.Ty) (i : Nat) (o : List Vl.Ty) (hF : F.spec_l1ParseCtor_l1 names s x v21 out i = some o) : ∀ (c : Code), navO [1, 1, 1, 1, 1, 1, 1, 0, 1, 0, 0] (bodyOf Try.f105) = some c → ∀ (Q : Exit → ASt → Prop), Q (.exit 0) ⟨[(4, .ptr 0 0), (5, .ptr 1 0)], [.cells [.lit (.string ByteArray.empty), .lit (.slice none 0 0), .lit (.int .i64 0)], .cells [.lit (.string x), .own 2 (List.length (α := Vl.Ty) o), .lit (.int .i64 (IntKind.i64.wrap (IntKind.i64.wrap ((byteAt s ((IntKind.i64.wrap ((s.size : Int) - 1)).toNat) : Nat) : Int) - 48)))], .elems 2 (List.map Vl.Ty.c o)]⟩ → ALoopU Try.prog B 0 83 (hold c .mk) ⟨[(0, .arr (List.map cS names)), (4, .ptr 0 0), (5, .ptr 1 0), (7, .arr (List.map cS v21)), (8, .lit (.int .i64 (i : Int)))], [.cells [.lit (.string ByteArray.empty), .lit (.slice none 0 0), .lit (.int .i64 0)], .cells [.lit (.string x), .own 2 (List.length (α := Vl.Ty) out), .lit (.int .i64 (IntKind.i64.wrap (IntKind.i64.wrap ((byteAt s ((IntKind.i64.wrap ((s.size : Int) - 1)).toNat) : Nat) : Int) - 48)))], .elems 2 (List.map Vl.Ty.c out)]⟩ (hold Q .mk) :=
 (CC.spec_l1ParseCtor_l1 B hB1 hB2 names s x v21) out i o hF

set_option maxRecDepth 100000 in
set_option maxHeartbeats 4000000 in
theorem CC.spec_l1ParseCtor_l2 (B : Nat) (hB1 : 67108864 ≤ B) (hB2 : B ≤ 9223372036854775807) (names : List ByteArray) (x38 : ByteArray) (v49 : List ByteArray) : (∀ (out51 : List Vl.Ty) (i52 : Nat) (o : List Vl.Ty), F.spec_l1ParseCtor_l2 names x38 v49 out51 i52 = some o → ∀ (c : Code), navO [1, 1, 1, 1, 1, 1, 1, 0, 1, 0, 0] (bodyOf Try.f105) = some c → ∀ (Q : Exit → ASt → Prop), Q (.exit 0) ⟨[(4, .ptr 0 0), (5, .ptr 1 0)], [.cells [.lit (.string ByteArray.empty), .lit (.slice none 0 0), .lit (.int .i64 0)], .cells [.lit (.string x38), .own 2 (List.length (α := Vl.Ty) o), .lit (.int .i64 0)], .elems 2 (List.map Vl.Ty.c o)]⟩ → ALoopU Try.prog B 0 83 (hold c .mk) ⟨[(0, .arr (List.map cS names)), (4, .ptr 0 0), (5, .ptr 1 0), (7, .arr (List.map cS v49)), (8, .lit (.int .i64 (i52 : Int)))], [.cells [.lit (.string ByteArray.empty), .lit (.slice none 0 0), .lit (.int .i64 0)], .cells [.lit (.string x38), .own 2 (List.length (α := Vl.Ty) out51), .lit (.int .i64 0)], .elems 2 (List.map Vl.Ty.c out51)]⟩ (hold Q .mk)) := by
 refine F.spec_l1ParseCtor_l2.partial_correctness names x38 v49
  (fun out51 i52 o => ∀ (c : Code), navO [1, 1, 1, 1, 1, 1, 1, 0, 1, 0, 0] (bodyOf Try.f105) = some c → ∀ (Q : Exit → ASt → Prop), Q (.exit 0) ⟨[(4, .ptr 0 0), (5, .ptr 1 0)], [.cells [.lit (.string ByteArray.empty), .lit (.slice none 0 0), .lit (.int .i64 0)], .cells [.lit (.string x38), .own 2 (List.length (α := Vl.Ty) o), .lit (.int .i64 0)], .elems 2 (List.map Vl.Ty.c o)]⟩ → ALoopU Try.prog B 0 83 (hold c .mk) ⟨[(0, .arr (List.map cS names)), (4, .ptr 0 0), (5, .ptr 1 0), (7, .arr (List.map cS v49)), (8, .lit (.int .i64 (i52 : Int)))], [.cells [.lit (.string ByteArray.empty), .lit (.slice none 0 0), .lit (.int .i64 0)], .cells [.lit (.string x38), .own 2 (List.length (α := Vl.Ty) out51), .lit (.int .i64 0)], .elems 2 (List.map Vl.Ty.c out51)]⟩ (hold Q .mk))
  ?_
 ·intro _f_spec_l1ParseCtor_l2 ih_spec_l1ParseCtor_l2 out51 i52 o hF
  intro c hc Q hq
  obtain rfl : c = _ := navEq hc rfl
  refine ALoopU.know fun hk hs => ?_
  have b0 := hk 0
  simp -dsimp at b0
  have b7 := hk 7
  simp -dsimp at b7
  have d2 := hs 2 _ rfl
  simp -dsimp [Blk.bnd] at d2
  clear hk hs
  refine ALoopU.enter ?_
  repeat (first | refine chk.ga ?_ | simp -dsimp)
  refine abr.split (fun h53 => ?_) (fun h53 => ?_)
  ·have q54 : (i52 < v49.length) := auq h53
   have z55 : ((i52 : Int) < (v49.length : Int)) := auz
   rw [if_pos q54] at hF
   repeat (first | refine chk.ga ?_ | simp -dsimp [h53, z55])
   refine abr.split (fun h56 => ?_) (fun h56 => ?_)
   ·have q57 : (i52 ≤ 3) := auq h56
    have z58 : ((i52 : Int) ≤ (3 : Int)) := auz
    rw [if_pos q57] at hF
    repeat (first | refine chk.ga ?_ | simp -dsimp [h53, z55, h56, z58])
    refine ADraw.eff [] [(0, 1), (0, 1), (0, 0), (0, 0), (0, 0), (0, 0), (0, 0), (0, 3), (0, 3), (0, 3), (2, 2), (0, 3)] [0, 2, 1, 1, 1, 1, 1, 1, 1, 1, 1, 1] follows (by kernel_rfl) (by kernel_rfl) (by kernel_rfl) ?_
    have hF := ob hF; obtain ⟨x59, e60, hF⟩ := hF
    have le60 := lt_of_get e60
    repeat (first | refine chk.ga ?_ | simp -dsimp [h53, z55, h56, z58, ↓e60])
    have hF := ob hF; obtain ⟨v61, e62, hF⟩ := hF
    refine ((C.spec_l1ParseType B hB1 hB2 names x59 v61 e62)).pgoW (by first | simp [h53, z55, h56, z58, ↓e60]; done | simp_all) (by simp) ?_
    have hF := oc hF; obtain ⟨c63, hF⟩ := hF
    have w64 : IntKind.i64.wrap ((i52 : Int) + 1) = (i52 : Int) + 1 := wrap_in (by omega) (by omega)
    repeat (first | refine chk.ga ?_ | simp -dsimp [h53, z55, h56, z58, ↓e60, w64])
    refine Again.go ⟨[(0, .arr (List.map cS names)), (4, .ptr 0 0), (5, .ptr 1 0), (7, .arr (List.map cS v49)), (8, .lit (.int .i64 ((i52 + 1) : Int)))], [.cells [.lit (.string ByteArray.empty), .lit (.slice none 0 0), .lit (.int .i64 0)], .cells [.lit (.string x38), .own 2 (List.length (α := Vl.Ty) (out51 ++ [v61])), .lit (.int .i64 0)], .elems 2 (List.map Vl.Ty.c (out51 ++ [v61]))]⟩ (Gh.to3 (by simp) (by first | simp -dsimp [h53, z55, h56, z58, ↓e60, w64]; done | simp_all)) ?_
    exact (ih_spec_l1ParseCtor_l2 (out51 ++ [v61]) (i52 + 1) o hF) _ rfl _ hq
   ·have q57 : ¬ (i52 ≤ 3) := auq h56
    have z58 : ¬ ((i52 : Int) ≤ (3 : Int)) := auz
    rw [if_neg q57] at hF
    cases hF
    repeat (first | refine chk.ga ?_ | simp -dsimp [h53, z55, h56, q57, z58])
    refine Leave.go ⟨[(4, .ptr 0 0), (5, .ptr 1 0)], [.cells [.lit (.string ByteArray.empty), .lit (.slice none 0 0), .lit (.int .i64 0)], .cells [.lit (.string x38), .own 2 (List.length (α := Vl.Ty) out51), .lit (.int .i64 0)], .elems 2 (List.map Vl.Ty.c out51)]⟩ (Gh.to3 (by simp) (by first | simp -dsimp [h53, z55, h56, q57, z58]; done | simp_all)) ?_
    exact hq
  ·have q54 : ¬ (i52 < v49.length) := auq h53
   have z55 : ¬ ((i52 : Int) < (v49.length : Int)) := auz
   rw [if_neg q54] at hF
   cases hF
   repeat (first | refine chk.ga ?_ | simp -dsimp [h53, q54, z55])
   refine Leave.go ⟨[(4, .ptr 0 0), (5, .ptr 1 0)], [.cells [.lit (.string ByteArray.empty), .lit (.slice none 0 0), .lit (.int .i64 0)], .cells [.lit (.string x38), .own 2 (List.length (α := Vl.Ty) out51), .lit (.int .i64 0)], .elems 2 (List.map Vl.Ty.c out51)]⟩ (Gh.to3 (by simp) (by first | simp -dsimp [h53, q54, z55]; done | simp_all)) ?_
   exact hq

theorem C.spec_l1ParseCtor_l2 (B : Nat) (hB1 : 67108864 ≤ B) (hB2 : B ≤ 9223372036854775807) (names : List ByteArray) (x38 : ByteArray) (v49 : List ByteArray) (out51 : List Vl.Ty) (i52 : Nat) (o : List Vl.Ty) (hF : F.spec_l1ParseCtor_l2 names x38 v49 out51 i52 = some o) : ∀ (c : Code), navO [1, 1, 1, 1, 1, 1, 1, 0, 1, 0, 0] (bodyOf Try.f105) = some c → ∀ (Q : Exit → ASt → Prop), Q (.exit 0) ⟨[(4, .ptr 0 0), (5, .ptr 1 0)], [.cells [.lit (.string ByteArray.empty), .lit (.slice none 0 0), .lit (.int .i64 0)], .cells [.lit (.string x38), .own 2 (List.length (α := Vl.Ty) o), .lit (.int .i64 0)], .elems 2 (List.map Vl.Ty.c o)]⟩ → ALoopU Try.prog B 0 83 (hold c .mk) ⟨[(0, .arr (List.map cS names)), (4, .ptr 0 0), (5, .ptr 1 0), (7, .arr (List.map cS v49)), (8, .lit (.int .i64 (i52 : Int)))], [.cells [.lit (.string ByteArray.empty), .lit (.slice none 0 0), .lit (.int .i64 0)], .cells [.lit (.string x38), .own 2 (List.length (α := Vl.Ty) out51), .lit (.int .i64 0)], .elems 2 (List.map Vl.Ty.c out51)]⟩ (hold Q .mk) :=
 (CC.spec_l1ParseCtor_l2 B hB1 hB2 names x38 v49) out51 i52 o hF

set_option maxRecDepth 100000 in
set_option maxHeartbeats 4000000 in
theorem CC.spec_l1ParseCtor_l3 (B : Nat) (hB1 : 67108864 ≤ B) (hB2 : B ≤ 9223372036854775807) (names : List ByteArray) (x69 : ByteArray) (v80 : List ByteArray) : (∀ (out82 : List Vl.Ty) (i83 : Nat) (o : List Vl.Ty), F.spec_l1ParseCtor_l3 names x69 v80 out82 i83 = some o → ∀ (c : Code), navO [1, 1, 1, 1, 1, 1, 1, 0, 1, 0, 0] (bodyOf Try.f105) = some c → ∀ (Q : Exit → ASt → Prop), Q (.exit 0) ⟨[(4, .ptr 0 0), (5, .ptr 1 0)], [.cells [.lit (.string ByteArray.empty), .lit (.slice none 0 0), .lit (.int .i64 0)], .cells [.lit (.string x69), .own 2 (List.length (α := Vl.Ty) o), .lit (.int .i64 0)], .elems 2 (List.map Vl.Ty.c o)]⟩ → ALoopU Try.prog B 0 83 (hold c .mk) ⟨[(0, .arr (List.map cS names)), (4, .ptr 0 0), (5, .ptr 1 0), (7, .arr (List.map cS v80)), (8, .lit (.int .i64 (i83 : Int)))], [.cells [.lit (.string ByteArray.empty), .lit (.slice none 0 0), .lit (.int .i64 0)], .cells [.lit (.string x69), .own 2 (List.length (α := Vl.Ty) out82), .lit (.int .i64 0)], .elems 2 (List.map Vl.Ty.c out82)]⟩ (hold Q .mk)) := by
 refine F.spec_l1ParseCtor_l3.partial_correctness names x69 v80
  (fun out82 i83 o => ∀ (c : Code), navO [1, 1, 1, 1, 1, 1, 1, 0, 1, 0, 0] (bodyOf Try.f105) = some c → ∀ (Q : Exit → ASt → Prop), Q (.exit 0) ⟨[(4, .ptr 0 0), (5, .ptr 1 0)], [.cells [.lit (.string ByteArray.empty), .lit (.slice none 0 0), .lit (.int .i64 0)], .cells [.lit (.string x69), .own 2 (List.length (α := Vl.Ty) o), .lit (.int .i64 0)], .elems 2 (List.map Vl.Ty.c o)]⟩ → ALoopU Try.prog B 0 83 (hold c .mk) ⟨[(0, .arr (List.map cS names)), (4, .ptr 0 0), (5, .ptr 1 0), (7, .arr (List.map cS v80)), (8, .lit (.int .i64 (i83 : Int)))], [.cells [.lit (.string ByteArray.empty), .lit (.slice none 0 0), .lit (.int .i64 0)], .cells [.lit (.string x69), .own 2 (List.length (α := Vl.Ty) out82), .lit (.int .i64 0)], .elems 2 (List.map Vl.Ty.c out82)]⟩ (hold Q .mk))
  ?_
 ·intro _f_spec_l1ParseCtor_l3 ih_spec_l1ParseCtor_l3 out82 i83 o hF
  intro c hc Q hq
  obtain rfl : c = _ := navEq hc rfl
  refine ALoopU.know fun hk hs => ?_
  have b0 := hk 0
  simp -dsimp at b0
  have b7 := hk 7
  simp -dsimp at b7
  have d2 := hs 2 _ rfl
  simp -dsimp [Blk.bnd] at d2
  clear hk hs
  refine ALoopU.enter ?_
  repeat (first | refine chk.ga ?_ | simp -dsimp)
  refine abr.split (fun h84 => ?_) (fun h84 => ?_)
  ·have q85 : (i83 < v80.length) := auq h84
   have z86 : ((i83 : Int) < (v80.length : Int)) := auz
   rw [if_pos q85] at hF
   repeat (first | refine chk.ga ?_ | simp -dsimp [h84, z86])
   refine abr.split (fun h87 => ?_) (fun h87 => ?_)
   ·have q88 : (i83 ≤ 3) := auq h87
    have z89 : ((i83 : Int) ≤ (3 : Int)) := auz
    rw [if_pos q88] at hF
    repeat (first | refine chk.ga ?_ | simp -dsimp [h84, z86, h87, z89])
    refine ADraw.eff [] [(0, 1), (0, 1), (0, 0), (0, 0), (0, 0), (0, 0), (0, 0), (0, 3), (0, 3), (0, 3), (2, 2), (0, 3)] [0, 2, 1, 1, 1, 1, 1, 1, 1, 1, 1, 1] follows (by kernel_rfl) (by kernel_rfl) (by kernel_rfl) ?_
    have hF := ob hF; obtain ⟨x90, e91, hF⟩ := hF
    have le91 := lt_of_get e91
    repeat (first | refine chk.ga ?_ | simp -dsimp [h84, z86, h87, z89, ↓e91])
    have hF := ob hF; obtain ⟨v92, e93, hF⟩ := hF
    refine ((C.spec_l1ParseType B hB1 hB2 names x90 v92 e93)).pgoW (by first | simp [h84, z86, h87, z89, ↓e91]; done | simp_all) (by simp) ?_
    have hF := oc hF; obtain ⟨c94, hF⟩ := hF
    have w95 : IntKind.i64.wrap ((i83 : Int) + 1) = (i83 : Int) + 1 := wrap_in (by omega) (by omega)
    repeat (first | refine chk.ga ?_ | simp -dsimp [h84, z86, h87, z89, ↓e91, w95])
    refine Again.go ⟨[(0, .arr (List.map cS names)), (4, .ptr 0 0), (5, .ptr 1 0), (7, .arr (List.map cS v80)), (8, .lit (.int .i64 ((i83 + 1) : Int)))], [.cells [.lit (.string ByteArray.empty), .lit (.slice none 0 0), .lit (.int .i64 0)], .cells [.lit (.string x69), .own 2 (List.length (α := Vl.Ty) (out82 ++ [v92])), .lit (.int .i64 0)], .elems 2 (List.map Vl.Ty.c (out82 ++ [v92]))]⟩ (Gh.to3 (by simp) (by first | simp -dsimp [h84, z86, h87, z89, ↓e91, w95]; done | simp_all)) ?_
    exact (ih_spec_l1ParseCtor_l3 (out82 ++ [v92]) (i83 + 1) o hF) _ rfl _ hq
   ·have q88 : ¬ (i83 ≤ 3) := auq h87
    have z89 : ¬ ((i83 : Int) ≤ (3 : Int)) := auz
    rw [if_neg q88] at hF
    cases hF
    repeat (first | refine chk.ga ?_ | simp -dsimp [h84, z86, h87, q88, z89])
    refine Leave.go ⟨[(4, .ptr 0 0), (5, .ptr 1 0)], [.cells [.lit (.string ByteArray.empty), .lit (.slice none 0 0), .lit (.int .i64 0)], .cells [.lit (.string x69), .own 2 (List.length (α := Vl.Ty) out82), .lit (.int .i64 0)], .elems 2 (List.map Vl.Ty.c out82)]⟩ (Gh.to3 (by simp) (by first | simp -dsimp [h84, z86, h87, q88, z89]; done | simp_all)) ?_
    exact hq
  ·have q85 : ¬ (i83 < v80.length) := auq h84
   have z86 : ¬ ((i83 : Int) < (v80.length : Int)) := auz
   rw [if_neg q85] at hF
   cases hF
   repeat (first | refine chk.ga ?_ | simp -dsimp [h84, q85, z86])
   refine Leave.go ⟨[(4, .ptr 0 0), (5, .ptr 1 0)], [.cells [.lit (.string ByteArray.empty), .lit (.slice none 0 0), .lit (.int .i64 0)], .cells [.lit (.string x69), .own 2 (List.length (α := Vl.Ty) out82), .lit (.int .i64 0)], .elems 2 (List.map Vl.Ty.c out82)]⟩ (Gh.to3 (by simp) (by first | simp -dsimp [h84, q85, z86]; done | simp_all)) ?_
   exact hq

theorem C.spec_l1ParseCtor_l3 (B : Nat) (hB1 : 67108864 ≤ B) (hB2 : B ≤ 9223372036854775807) (names : List ByteArray) (x69 : ByteArray) (v80 : List ByteArray) (out82 : List Vl.Ty) (i83 : Nat) (o : List Vl.Ty) (hF : F.spec_l1ParseCtor_l3 names x69 v80 out82 i83 = some o) : ∀ (c : Code), navO [1, 1, 1, 1, 1, 1, 1, 0, 1, 0, 0] (bodyOf Try.f105) = some c → ∀ (Q : Exit → ASt → Prop), Q (.exit 0) ⟨[(4, .ptr 0 0), (5, .ptr 1 0)], [.cells [.lit (.string ByteArray.empty), .lit (.slice none 0 0), .lit (.int .i64 0)], .cells [.lit (.string x69), .own 2 (List.length (α := Vl.Ty) o), .lit (.int .i64 0)], .elems 2 (List.map Vl.Ty.c o)]⟩ → ALoopU Try.prog B 0 83 (hold c .mk) ⟨[(0, .arr (List.map cS names)), (4, .ptr 0 0), (5, .ptr 1 0), (7, .arr (List.map cS v80)), (8, .lit (.int .i64 (i83 : Int)))], [.cells [.lit (.string ByteArray.empty), .lit (.slice none 0 0), .lit (.int .i64 0)], .cells [.lit (.string x69), .own 2 (List.length (α := Vl.Ty) out82), .lit (.int .i64 0)], .elems 2 (List.map Vl.Ty.c out82)]⟩ (hold Q .mk) :=
 (CC.spec_l1ParseCtor_l3 B hB1 hB2 names x69 v80) out82 i83 o hF

set_option maxRecDepth 100000 in
set_option maxHeartbeats 4000000 in
theorem C.spec_l1ParseCtor (B : Nat) (hB1 : 67108864 ≤ B) (hB2 : B ≤ 9223372036854775807) (names : List ByteArray) (s : ByteArray) (r : Vl.Ctor) (hF : F.spec_l1ParseCtor names s = some r) : PureCall Try.prog B 105 [.arr (List.map cS names), .lit (.string s)] (.agg [.lit (.string r.name), .arr (List.map Vl.Ty.c r.args), .lit (.int .i64 r.index)]) := by
 unfold F.spec_l1ParseCtor at hF
 refine PureCall.enterLe Try.func105 (by kernel_rfl) rfl Try.ntmps105 (by simp) (by simp) ?_
 repeat (first | refine chk.ga ?_ | simp -dsimp)
 refine abr.split (fun h1 => ?_) (fun h1 => ?_)
 ·have q2 : (2 < s.size) := auq h1
  have z3 : ((2 : Int) < (s.size : Int)) := auz
  rw [if_pos q2] at hF
  have hF := oc hF; obtain ⟨c4, hF⟩ := hF
  repeat (first | refine chk.ga ?_ | simp -dsimp [h1, z3])
  refine abr.split (fun h5 => ?_) (fun h5 => ?_)
  ·have q6 : (byteAt s ((IntKind.i64.wrap ((s.size : Int) - 2)).toNat) = 58) := auq h5
   have z7 : (((byteAt s ((IntKind.i64.wrap ((s.size : Int) - 2)).toNat) : Nat) : Int) = (58 : Int)) := auz
   rw [if_pos q6] at hF
   have hF := oc hF; obtain ⟨c8, hF⟩ := hF
   have hF := oc hF; obtain ⟨c9, hF⟩ := hF
   repeat (first | refine chk.ga ?_ | simp -dsimp [h1, z3, h5, z7])
   have hF := ob hF; obtain ⟨v, e10, hF⟩ := hF
   refine ((C.spec_l17Cut B hB1 hB2 (s.extract 0 ((IntKind.i64.wrap ((s.size : Int) - 2)).toNat)) (40 : Int) v e10)).goW (by first | simp [h1, z3, h5, z7]; done | simp_all) (by simp) ?_
   have hF := ob hF; obtain ⟨x, e11, hF⟩ := hF
   have le11 := lt_of_get e11
   repeat (first | refine chk.ga ?_ | simp -dsimp [h1, z3, h5, z7, ↓e11])
   refine abr.split (fun h12 => ?_) (fun h12 => ?_)
   ·have q13 : ¬ (v.length < 2) := auq h12
    have z14 : ¬ ((v.length : Int) < (2 : Int)) := auz
    rw [if_neg q13] at hF
    have hF := ob hF; obtain ⟨x15, e16, hF⟩ := hF
    have le16 := lt_of_get e16
    repeat (first | refine chk.ga ?_ | simp -dsimp [h1, z3, h5, z7, ↓e11, h12, q13, z14, ↓e16])
    refine abr.split (fun h17 => ?_) (fun h17 => ?_)
    ·have q18 : (x15.size = 0) := auq h17
     have z19 : ((x15.size : Int) = (0 : Int)) := auz
     rw [if_pos q18] at hF
     cases hF
     repeat (first | refine chk.ga ?_ | simp -dsimp [h1, z3, h5, z7, ↓e11, h12, q13, z14, ↓e16, h17, z19])
     all_goals (try omega)
    ·have q18 : ¬ (x15.size = 0) := auq h17
     have z19 : ¬ ((x15.size : Int) = (0 : Int)) := auz
     rw [if_neg q18] at hF
     repeat (first | refine chk.ga ?_ | simp -dsimp [h1, z3, h5, z7, ↓e11, h12, q13, z14, ↓e16, h17, q18, z19])
     refine ADraw.simple follows (by kernel_rfl) (by kernel_rfl) ?_
     have hF := oc hF; obtain ⟨c20, hF⟩ := hF
     repeat (first | refine chk.ga ?_ | simp -dsimp [h1, z3, h5, z7, ↓e11, h12, q13, z14, ↓e16, h17, q18, z19])
     have hF := ob hF; obtain ⟨v21, e22, hF⟩ := hF
     refine ((C.spec_l17Cut B hB1 hB2 (x15.extract 0 ((IntKind.i64.wrap ((x15.size : Int) - 1)).toNat)) (44 : Int) v21 e22)).pgoW (by first | simp [h1, z3, h5, z7, ↓e11, h12, q13, z14, ↓e16, h17, q18, z19]; done | simp_all) (by simp) ?_
     repeat (first | refine chk.ga ?_ | simp -dsimp [h1, z3, h5, z7, ↓e11, h12, q13, z14, ↓e16, h17, q18, z19])
     have hF := ob hF; obtain ⟨o', ho35, hF⟩ := hF
     refine ALoop.goU ⟨[(0, .arr (List.map cS names)), (4, .ptr 0 0), (5, .ptr 1 0), (7, .arr (List.map cS v21)), (8, .lit (.int .i64 (0 : Int)))], [.cells [.lit (.string ByteArray.empty), .lit (.slice none 0 0), .lit (.int .i64 0)], .cells [.lit (.string x), .own 2 (List.length (α := Vl.Ty) []), .lit (.int .i64 (IntKind.i64.wrap (IntKind.i64.wrap ((byteAt s ((IntKind.i64.wrap ((s.size : Int) - 1)).toNat) : Nat) : Int) - 48)))], .elems 2 (List.map Vl.Ty.c [])]⟩ ((Gh.nilCell 1 1 2 (by simp -dsimp; rfl) (by simp -dsimp)).trans (Gh.to3 (by simp) (by first | simp -dsimp [h1, z3, h5, z7, ↓e11, h12, q13, z14, ↓e16, h17, q18, z19]; done | simp_all))) ?_
     refine (C.spec_l1ParseCtor_l1 B hB1 hB2 names s x v21 [] 0 o' ho35) _ rfl _ ?_
     cases hF
     repeat (first | refine chk.ga ?_ | simp -dsimp)
     all_goals (try omega)
   ·have q13 : (v.length < 2) := auq h12
    have z14 : ((v.length : Int) < (2 : Int)) := auz
    rw [if_pos q13] at hF
    cases hF
    repeat (first | refine chk.ga ?_ | simp -dsimp [h1, z3, h5, z7, ↓e11, h12, q13, z14])
    all_goals (try omega)
  ·have q6 : ¬ (byteAt s ((IntKind.i64.wrap ((s.size : Int) - 2)).toNat) = 58) := auq h5
   have z7 : ¬ (((byteAt s ((IntKind.i64.wrap ((s.size : Int) - 2)).toNat) : Nat) : Int) = (58 : Int)) := auz
   rw [if_neg q6] at hF
   repeat (first | refine chk.ga ?_ | simp -dsimp [h1, z3, h5, q6, z7])
   have hF := ob hF; obtain ⟨v36, e37, hF⟩ := hF
   refine ((C.spec_l17Cut B hB1 hB2 s (40 : Int) v36 e37)).goW (by first | simp [h1, z3, h5, q6, z7]; done | simp_all) (by simp) ?_
   have hF := ob hF; obtain ⟨x38, e39, hF⟩ := hF
   have le39 := lt_of_get e39
   repeat (first | refine chk.ga ?_ | simp -dsimp [h1, z3, h5, q6, z7, ↓e39])
   refine abr.split (fun h40 => ?_) (fun h40 => ?_)
   ·have q41 : ¬ (v36.length < 2) := auq h40
    have z42 : ¬ ((v36.length : Int) < (2 : Int)) := auz
    rw [if_neg q41] at hF
    have hF := ob hF; obtain ⟨x43, e44, hF⟩ := hF
    have le44 := lt_of_get e44
    repeat (first | refine chk.ga ?_ | simp -dsimp [h1, z3, h5, q6, z7, ↓e39, h40, q41, z42, ↓e44])
    refine abr.split (fun h45 => ?_) (fun h45 => ?_)
    ·have q46 : (x43.size = 0) := auq h45
     have z47 : ((x43.size : Int) = (0 : Int)) := auz
     rw [if_pos q46] at hF
     cases hF
     repeat (first | refine chk.ga ?_ | simp -dsimp [h1, z3, h5, q6, z7, ↓e39, h40, q41, z42, ↓e44, h45, z47])
     all_goals (try omega)
    ·have q46 : ¬ (x43.size = 0) := auq h45
     have z47 : ¬ ((x43.size : Int) = (0 : Int)) := auz
     rw [if_neg q46] at hF
     repeat (first | refine chk.ga ?_ | simp -dsimp [h1, z3, h5, q6, z7, ↓e39, h40, q41, z42, ↓e44, h45, q46, z47])
     refine ADraw.simple follows (by kernel_rfl) (by kernel_rfl) ?_
     have hF := oc hF; obtain ⟨c48, hF⟩ := hF
     repeat (first | refine chk.ga ?_ | simp -dsimp [h1, z3, h5, q6, z7, ↓e39, h40, q41, z42, ↓e44, h45, q46, z47])
     have hF := ob hF; obtain ⟨v49, e50, hF⟩ := hF
     refine ((C.spec_l17Cut B hB1 hB2 (x43.extract 0 ((IntKind.i64.wrap ((x43.size : Int) - 1)).toNat)) (44 : Int) v49 e50)).pgoW (by first | simp [h1, z3, h5, q6, z7, ↓e39, h40, q41, z42, ↓e44, h45, q46, z47]; done | simp_all) (by simp) ?_
     repeat (first | refine chk.ga ?_ | simp -dsimp [h1, z3, h5, q6, z7, ↓e39, h40, q41, z42, ↓e44, h45, q46, z47])
     have hF := ob hF; obtain ⟨o'66, ho65, hF⟩ := hF
     refine ALoop.goU ⟨[(0, .arr (List.map cS names)), (4, .ptr 0 0), (5, .ptr 1 0), (7, .arr (List.map cS v49)), (8, .lit (.int .i64 (0 : Int)))], [.cells [.lit (.string ByteArray.empty), .lit (.slice none 0 0), .lit (.int .i64 0)], .cells [.lit (.string x38), .own 2 (List.length (α := Vl.Ty) []), .lit (.int .i64 0)], .elems 2 (List.map Vl.Ty.c [])]⟩ ((Gh.nilCell 1 1 2 (by simp -dsimp; rfl) (by simp -dsimp)).trans (Gh.to3 (by simp) (by first | simp -dsimp [h1, z3, h5, q6, z7, ↓e39, h40, q41, z42, ↓e44, h45, q46, z47]; done | simp_all))) ?_
     refine (C.spec_l1ParseCtor_l2 B hB1 hB2 names x38 v49 [] 0 o'66 ho65) _ rfl _ ?_
     cases hF
     repeat (first | refine chk.ga ?_ | simp -dsimp)
     all_goals (try omega)
   ·have q41 : (v36.length < 2) := auq h40
    have z42 : ((v36.length : Int) < (2 : Int)) := auz
    rw [if_pos q41] at hF
    cases hF
    repeat (first | refine chk.ga ?_ | simp -dsimp [h1, z3, h5, q6, z7, ↓e39, h40, q41, z42])
    all_goals (try omega)
 ·have q2 : ¬ (2 < s.size) := auq h1
  have z3 : ¬ ((2 : Int) < (s.size : Int)) := auz
  rw [if_neg q2] at hF
  repeat (first | refine chk.ga ?_ | simp -dsimp [h1, q2, z3])
  have hF := ob hF; obtain ⟨v67, e68, hF⟩ := hF
  refine ((C.spec_l17Cut B hB1 hB2 s (40 : Int) v67 e68)).goW (by first | simp [h1, q2, z3]; done | simp_all) (by simp) ?_
  have hF := ob hF; obtain ⟨x69, e70, hF⟩ := hF
  have le70 := lt_of_get e70
  repeat (first | refine chk.ga ?_ | simp -dsimp [h1, q2, z3, ↓e70])
  refine abr.split (fun h71 => ?_) (fun h71 => ?_)
  ·have q72 : ¬ (v67.length < 2) := auq h71
   have z73 : ¬ ((v67.length : Int) < (2 : Int)) := auz
   rw [if_neg q72] at hF
   have hF := ob hF; obtain ⟨x74, e75, hF⟩ := hF
   have le75 := lt_of_get e75
   repeat (first | refine chk.ga ?_ | simp -dsimp [h1, q2, z3, ↓e70, h71, q72, z73, ↓e75])
   refine abr.split (fun h76 => ?_) (fun h76 => ?_)
   ·have q77 : (x74.size = 0) := auq h76
    have z78 : ((x74.size : Int) = (0 : Int)) := auz
    rw [if_pos q77] at hF
    cases hF
    repeat (first | refine chk.ga ?_ | simp -dsimp [h1, q2, z3, ↓e70, h71, q72, z73, ↓e75, h76, z78])
    all_goals (try omega)
   ·have q77 : ¬ (x74.size = 0) := auq h76
    have z78 : ¬ ((x74.size : Int) = (0 : Int)) := auz
    rw [if_neg q77] at hF
    repeat (first | refine chk.ga ?_ | simp -dsimp [h1, q2, z3, ↓e70, h71, q72, z73, ↓e75, h76, q77, z78])
    refine ADraw.simple follows (by kernel_rfl) (by kernel_rfl) ?_
    have hF := oc hF; obtain ⟨c79, hF⟩ := hF
    repeat (first | refine chk.ga ?_ | simp -dsimp [h1, q2, z3, ↓e70, h71, q72, z73, ↓e75, h76, q77, z78])
    have hF := ob hF; obtain ⟨v80, e81, hF⟩ := hF
    refine ((C.spec_l17Cut B hB1 hB2 (x74.extract 0 ((IntKind.i64.wrap ((x74.size : Int) - 1)).toNat)) (44 : Int) v80 e81)).pgoW (by first | simp [h1, q2, z3, ↓e70, h71, q72, z73, ↓e75, h76, q77, z78]; done | simp_all) (by simp) ?_
    repeat (first | refine chk.ga ?_ | simp -dsimp [h1, q2, z3, ↓e70, h71, q72, z73, ↓e75, h76, q77, z78])
    have hF := ob hF; obtain ⟨o'97, ho96, hF⟩ := hF
    refine ALoop.goU ⟨[(0, .arr (List.map cS names)), (4, .ptr 0 0), (5, .ptr 1 0), (7, .arr (List.map cS v80)), (8, .lit (.int .i64 (0 : Int)))], [.cells [.lit (.string ByteArray.empty), .lit (.slice none 0 0), .lit (.int .i64 0)], .cells [.lit (.string x69), .own 2 (List.length (α := Vl.Ty) []), .lit (.int .i64 0)], .elems 2 (List.map Vl.Ty.c [])]⟩ ((Gh.nilCell 1 1 2 (by simp -dsimp; rfl) (by simp -dsimp)).trans (Gh.to3 (by simp) (by first | simp -dsimp [h1, q2, z3, ↓e70, h71, q72, z73, ↓e75, h76, q77, z78]; done | simp_all))) ?_
    refine (C.spec_l1ParseCtor_l3 B hB1 hB2 names x69 v80 [] 0 o'97 ho96) _ rfl _ ?_
    cases hF
    repeat (first | refine chk.ga ?_ | simp -dsimp)
    all_goals (try omega)
  ·have q72 : (v67.length < 2) := auq h71
   have z73 : ((v67.length : Int) < (2 : Int)) := auz
   rw [if_pos q72] at hF
   cases hF
   repeat (first | refine chk.ga ?_ | simp -dsimp [h1, q2, z3, ↓e70, h71, q72, z73])
   all_goals (try omega)

set_option maxRecDepth 100000 in
set_option maxHeartbeats 4000000 in
theorem C.spec_l1Big (B : Nat) (hB1 : 67108864 ≤ B) (hB2 : B ≤ 9223372036854775807) (c' : Int) (r : Bool) (hF : F.spec_l1Big c' = some r) : PureCall Try.prog B 112 [.lit (.int .u8 c')] (.lit (.bool r)) := by
 unfold F.spec_l1Big at hF
 refine PureCall.enterLe Try.func112 (by kernel_rfl) rfl Try.ntmps112 (by simp) (by simp) ?_
 repeat (first | refine chk.ga ?_ | simp -dsimp)
 refine abr.split (fun h1 => ?_) (fun h1 => ?_)
 ·have q2 : (65 ≤ c') := auq h1
  rw [if_pos q2] at hF
  cases hF
  repeat (first | refine chk.ga ?_ | simp -dsimp [h1])
  all_goals (try omega)
 ·have q2 : ¬ (65 ≤ c') := auq h1
  rw [if_neg q2] at hF
  cases hF
  repeat (first | refine chk.ga ?_ | simp -dsimp [h1, q2])
  all_goals (try omega)

set_option maxRecDepth 100000 in
set_option maxHeartbeats 4000000 in
theorem C.spec_l1Data (B : Nat) (hB1 : 67108864 ≤ B) (hB2 : B ≤ 9223372036854775807) (s : ByteArray) (r : Bool) (hF : F.spec_l1Data s = some r) : PureCall Try.prog B 88 [.lit (.string s)] (.lit (.bool r)) := by
 unfold F.spec_l1Data at hF
 refine PureCall.enterLe Try.func88 (by kernel_rfl) rfl Try.ntmps88 (by simp) (by simp) ?_
 repeat (first | refine chk.ga ?_ | simp -dsimp)
 refine abr.split (fun h1 => ?_) (fun h1 => ?_)
 ·have q2 : (s.size = 1) := auq h1
  have z3 : ((s.size : Int) = (1 : Int)) := auz
  rw [if_pos q2] at hF
  have hF := oc hF; obtain ⟨c4, hF⟩ := hF
  repeat (first | refine chk.ga ?_ | simp -dsimp [h1, z3])
  have hF := ob hF; obtain ⟨v, e5, hF⟩ := hF
  refine ((C.spec_l1Big B hB1 hB2 ((byteAt s 0 : Nat) : Int) v e5)).goW (by first | simp [h1, z3]; done | simp_all) (by simp) ?_
  repeat (first | refine chk.ga ?_ | simp -dsimp [h1, z3])
  refine abr.split (fun h6 => ?_) (fun h6 => ?_)
  ·have q7 : (v = true) := auq h6
   rw [if_pos q7] at hF
   cases hF
   repeat (first | refine chk.ga ?_ | simp -dsimp [h1, z3, h6])
   all_goals (try omega)
  ·have q7 : ¬ (v = true) := auq h6
   rw [if_neg q7] at hF
   cases hF
   repeat (first | refine chk.ga ?_ | simp -dsimp [h1, z3, h6, q7])
   all_goals (try omega)
 ·have q2 : ¬ (s.size = 1) := auq h1
  have z3 : ¬ ((s.size : Int) = (1 : Int)) := auz
  rw [if_neg q2] at hF
  cases hF
  repeat (first | refine chk.ga ?_ | simp -dsimp [h1, q2, z3])
  all_goals (try omega)

set_option maxRecDepth 100000 in
set_option maxHeartbeats 4000000 in
theorem CC.spec_NameValid_l1 (B : Nat) (hB1 : 67108864 ≤ B) (hB2 : B ≤ 9223372036854775807) (s : ByteArray) : (∀ (i : Nat) (o : Lo Bool Unit), F.spec_NameValid_l1 s i = some o → ∀ (c : Code), navO [1, 1, 0, 1, 0, 0] (bodyOf Try.f113) = some c → ∀ (Q : Exit → ASt → Prop), o.post (fun r => ∀ st, Post Try.prog Try.f113 (fun r' _ => r'.le (.lit (.bool r))) .ret st → Q .ret st) (fun s => Q (.exit 0) ⟨[], []⟩) → ALoopU Try.prog B 0 34 (hold c .mk) ⟨[(0, .lit (.string s)), (3, .lit (.int .i64 (i : Int)))], []⟩ (hold Q .mk)) := by
 refine F.spec_NameValid_l1.partial_correctness s
  (fun i o => ∀ (c : Code), navO [1, 1, 0, 1, 0, 0] (bodyOf Try.f113) = some c → ∀ (Q : Exit → ASt → Prop), o.post (fun r => ∀ st, Post Try.prog Try.f113 (fun r' _ => r'.le (.lit (.bool r))) .ret st → Q .ret st) (fun s => Q (.exit 0) ⟨[], []⟩) → ALoopU Try.prog B 0 34 (hold c .mk) ⟨[(0, .lit (.string s)), (3, .lit (.int .i64 (i : Int)))], []⟩ (hold Q .mk))
  ?_
 ·intro _f_spec_NameValid_l1 ih_spec_NameValid_l1 i o hF
  intro c hc Q hq
  obtain rfl : c = _ := navEq hc rfl
  refine ALoopU.know fun hk hs => ?_
  clear hk hs
  refine ALoopU.enter ?_
  repeat (first | refine chk.ga ?_ | simp -dsimp)
  refine abr.split (fun h11 => ?_) (fun h11 => ?_)
  ·have q12 : (i < s.size) := auq h11
   have z13 : ((i : Int) < (s.size : Int)) := auz
   rw [if_pos q12] at hF
   repeat (first | refine chk.ga ?_ | simp -dsimp [h11, z13])
   refine abr.split (fun h14 => ?_) (fun h14 => ?_)
   ·have q15 : ¬ (byteAt s i < 97) := auq h14
    have z16 : ¬ (((byteAt s i : Nat) : Int) < (97 : Int)) := auz
    rw [if_neg q15] at hF
    repeat (first | refine chk.ga ?_ | simp -dsimp [h11, z13, h14, q15, z16])
    refine abr.split (fun h17 => ?_) (fun h17 => ?_)
    ·have q18 : (122 < byteAt s i) := auq h17
     have z19 : ((122 : Int) < ((byteAt s i : Nat) : Int)) := auz
     rw [if_pos q18] at hF
     cases hF
     repeat (first | refine chk.ga ?_ | simp -dsimp [h11, z13, h14, q15, z16, h17, z19])
     refine Leave.go _ (Gh.refl _) (hq _ ?_)
     repeat (first | refine chk.ga ?_ | simp -dsimp [h11, z13, h14, q15, z16, h17, z19])
    ·have q18 : ¬ (122 < byteAt s i) := auq h17
     have z19 : ¬ ((122 : Int) < ((byteAt s i : Nat) : Int)) := auz
     rw [if_neg q18] at hF
     have hF := oc hF; obtain ⟨c20, hF⟩ := hF
     have w21 : IntKind.i64.wrap ((i : Int) + 1) = (i : Int) + 1 := wrap_in (by omega) (by omega)
     repeat (first | refine chk.ga ?_ | simp -dsimp [h11, z13, h14, q15, z16, h17, q18, z19, w21])
     refine Again.go ⟨[(0, .lit (.string s)), (3, .lit (.int .i64 ((i + 1) : Int)))], []⟩ (Gh.to3 (by simp) (by first | simp -dsimp [h11, z13, h14, q15, z16, h17, q18, z19, w21]; done | simp_all)) ?_
     exact (ih_spec_NameValid_l1 (i + 1) o hF) _ rfl _ hq
   ·have q15 : (byteAt s i < 97) := auq h14
    have z16 : (((byteAt s i : Nat) : Int) < (97 : Int)) := auz
    rw [if_pos q15] at hF
    cases hF
    repeat (first | refine chk.ga ?_ | simp -dsimp [h11, z13, h14, q15, z16])
    refine Leave.go _ (Gh.refl _) (hq _ ?_)
    repeat (first | refine chk.ga ?_ | simp -dsimp [h11, z13, h14, q15, z16])
  ·have q12 : ¬ (i < s.size) := auq h11
   have z13 : ¬ ((i : Int) < (s.size : Int)) := auz
   rw [if_neg q12] at hF
   cases hF
   repeat (first | refine chk.ga ?_ | simp -dsimp [h11, q12, z13])
   refine Leave.go ⟨[], []⟩ (Gh.to3 (by simp) (by first | simp -dsimp [h11, q12, z13]; done | simp_all)) ?_
   exact hq

theorem C.spec_NameValid_l1 (B : Nat) (hB1 : 67108864 ≤ B) (hB2 : B ≤ 9223372036854775807) (s : ByteArray) (i : Nat) (o : Lo Bool Unit) (hF : F.spec_NameValid_l1 s i = some o) : ∀ (c : Code), navO [1, 1, 0, 1, 0, 0] (bodyOf Try.f113) = some c → ∀ (Q : Exit → ASt → Prop), o.post (fun r => ∀ st, Post Try.prog Try.f113 (fun r' _ => r'.le (.lit (.bool r))) .ret st → Q .ret st) (fun s => Q (.exit 0) ⟨[], []⟩) → ALoopU Try.prog B 0 34 (hold c .mk) ⟨[(0, .lit (.string s)), (3, .lit (.int .i64 (i : Int)))], []⟩ (hold Q .mk) :=
 (CC.spec_NameValid_l1 B hB1 hB2 s) i o hF

set_option maxRecDepth 100000 in
set_option maxHeartbeats 4000000 in
theorem C.spec_NameValid (B : Nat) (hB1 : 67108864 ≤ B) (hB2 : B ≤ 9223372036854775807) (s : ByteArray) (r : Bool) (hF : F.spec_NameValid s = some r) : PureCall Try.prog B 113 [.lit (.string s)] (.lit (.bool r)) := by
 unfold F.spec_NameValid at hF
 refine PureCall.enterLe Try.func113 (by kernel_rfl) rfl Try.ntmps113 (by simp) (by simp) ?_
 repeat (first | refine chk.ga ?_ | simp -dsimp)
 refine abr.split (fun h1 => ?_) (fun h1 => ?_)
 ·have q2 : ¬ (s.size = 0) := auq h1
  have z3 : ¬ ((s.size : Int) = (0 : Int)) := auz
  rw [if_neg q2] at hF
  repeat (first | refine chk.ga ?_ | simp -dsimp [h1, q2, z3])
  refine abr.split (fun h4 => ?_) (fun h4 => ?_)
  ·have q5 : ¬ (5 < s.size) := auq h4
   have z6 : ¬ ((5 : Int) < (s.size : Int)) := auz
   rw [if_neg q5] at hF
   have hF := oc hF; obtain ⟨c7, hF⟩ := hF
   repeat (first | refine chk.ga ?_ | simp -dsimp [h1, q2, z3, h4, q5, z6])
   have hF := ob hF; obtain ⟨v, e8, hF⟩ := hF
   refine ((C.spec_l1Big B hB1 hB2 ((byteAt s 0 : Nat) : Int) v e8)).goW (by first | simp [h1, q2, z3, h4, q5, z6]; done | simp_all) (by simp) ?_
   repeat (first | refine chk.ga ?_ | simp -dsimp [h1, q2, z3, h4, q5, z6])
   refine abr.split (fun h9 => ?_) (fun h9 => ?_)
   ·have q10 : ¬ (v = true) := auq h9
    rw [if_neg q10] at hF
    cases hF
    repeat (first | refine chk.ga ?_ | simp -dsimp [h1, q2, z3, h4, q5, z6, h9, q10])
    all_goals (try omega)
   ·have q10 : (v = true) := auq h9
    rw [if_pos q10] at hF
    repeat (first | refine chk.ga ?_ | simp -dsimp [h1, q2, z3, h4, q5, z6, h9, q10])
    have hF := ob hF; obtain ⟨o', ho22, hF⟩ := hF
    refine ALoop.goU ⟨[(0, .lit (.string s)), (3, .lit (.int .i64 (1 : Int)))], []⟩ (Gh.to3 (by simp) (by first | simp -dsimp [h1, q2, z3, h4, q5, z6, h9, q10]; done | simp_all)) ?_
    refine (C.spec_NameValid_l1 B hB1 hB2 s 1 o' ho22) _ rfl _ ?_
    rcases o' with r0 | sx
    ·dsimp only at hF
     cases hF
     intro st h
     simpa using h
    ·dsimp only at hF
     cases hF
     repeat (first | refine chk.ga ?_ | simp -dsimp)
     all_goals (try omega)
  ·have q5 : (5 < s.size) := auq h4
   have z6 : ((5 : Int) < (s.size : Int)) := auz
   rw [if_pos q5] at hF
   cases hF
   repeat (first | refine chk.ga ?_ | simp -dsimp [h1, q2, z3, h4, q5, z6])
   all_goals (try omega)
 ·have q2 : (s.size = 0) := auq h1
  have z3 : ((s.size : Int) = (0 : Int)) := auz
  rw [if_pos q2] at hF
  cases hF
  repeat (first | refine chk.ga ?_ | simp -dsimp [h1, q2, z3])
  all_goals (try omega)

set_option maxRecDepth 100000 in
set_option maxHeartbeats 4000000 in
theorem C.spec_l1Arg (B : Nat) (hB1 : 67108864 ≤ B) (hB2 : B ≤ 9223372036854775807) (n : Int) (t : Vl.Ty) (r : Bool) (hF : F.spec_l1Arg n t = some r) : PureCall Try.prog B 91 [.lit (.int .i64 n), .agg [.lit (.int .i64 t.data), .lit (.int .i64 t.index)]] (.lit (.bool r)) := by
 unfold F.spec_l1Arg at hF
 refine PureCall.enterLe Try.func91 (by kernel_rfl) rfl Try.ntmps91 (by simp) (by simp) ?_
 repeat (first | refine chk.ga ?_ | simp -dsimp)
 refine abr.split (fun h1 => ?_) (fun h1 => ?_)
 ·have q2 : (t.data = (-1)) := auq h1
  rw [if_pos q2] at hF
  cases hF
  repeat (first | refine chk.ga ?_ | simp -dsimp [h1])
  all_goals (try omega)
 ·have q2 : ¬ (t.data = (-1)) := auq h1
  rw [if_neg q2] at hF
  repeat (first | refine chk.ga ?_ | simp -dsimp [h1, q2])
  refine abr.split (fun h3 => ?_) (fun h3 => ?_)
  ·have q4 : (0 ≤ t.data) := auq h3
   rw [if_pos q4] at hF
   repeat (first | refine chk.ga ?_ | simp -dsimp [h1, q2, h3])
   refine abr.split (fun h5 => ?_) (fun h5 => ?_)
   ·have q6 : (t.data < n) := auq h5
    rw [if_pos q6] at hF
    repeat (first | refine chk.ga ?_ | simp -dsimp [h1, q2, h3, h5])
    refine abr.split (fun h7 => ?_) (fun h7 => ?_)
    ·have q8 : ((-1) ≤ t.index) := auq h7
     rw [if_pos q8] at hF
     cases hF
     repeat (first | refine chk.ga ?_ | simp -dsimp [h1, q2, h3, h5, h7])
     all_goals (try omega)
    ·have q8 : ¬ ((-1) ≤ t.index) := auq h7
     rw [if_neg q8] at hF
     cases hF
     repeat (first | refine chk.ga ?_ | simp -dsimp [h1, q2, h3, h5, h7, q8])
     all_goals (try omega)
   ·have q6 : ¬ (t.data < n) := auq h5
    rw [if_neg q6] at hF
    cases hF
    repeat (first | refine chk.ga ?_ | simp -dsimp [h1, q2, h3, h5, q6])
    all_goals (try omega)
  ·have q4 : ¬ (0 ≤ t.data) := auq h3
   rw [if_neg q4] at hF
   cases hF
   repeat (first | refine chk.ga ?_ | simp -dsimp [h1, q2, h3, q4])
   all_goals (try omega)

set_option maxRecDepth 100000 in
set_option maxHeartbeats 4000000 in
theorem CC.spec_l1Ctor_l1 (B : Nat) (hB1 : 67108864 ≤ B) (hB2 : B ≤ 9223372036854775807) (n : Int) (c' : Vl.Ctor) : (∀ (i : Nat) (o : Lo Bool Unit), F.spec_l1Ctor_l1 n c' i = some o → ∀ (c : Code), navO [1, 1, 0, 1, 0, 0] (bodyOf Try.f89) = some c → ∀ (Q : Exit → ASt → Prop), o.post (fun r => ∀ st, Post Try.prog Try.f89 (fun r' _ => r'.le (.lit (.bool r))) .ret st → Q .ret st) (fun s => Q (.exit 0) ⟨[], []⟩) → ALoopU Try.prog B 0 41 (hold c .mk) ⟨[(0, .lit (.int .i64 n)), (3, .ptr 0 0), (5, .lit (.int .i64 (i : Int)))], [.cells [.lit (.string c'.name), .arr (List.map Vl.Ty.c c'.args), .lit (.int .i64 c'.index)]]⟩ (hold Q .mk)) := by
 refine F.spec_l1Ctor_l1.partial_correctness n c'
  (fun i o => ∀ (c : Code), navO [1, 1, 0, 1, 0, 0] (bodyOf Try.f89) = some c → ∀ (Q : Exit → ASt → Prop), o.post (fun r => ∀ st, Post Try.prog Try.f89 (fun r' _ => r'.le (.lit (.bool r))) .ret st → Q .ret st) (fun s => Q (.exit 0) ⟨[], []⟩) → ALoopU Try.prog B 0 41 (hold c .mk) ⟨[(0, .lit (.int .i64 n)), (3, .ptr 0 0), (5, .lit (.int .i64 (i : Int)))], [.cells [.lit (.string c'.name), .arr (List.map Vl.Ty.c c'.args), .lit (.int .i64 c'.index)]]⟩ (hold Q .mk))
  ?_
 ·intro _f_spec_l1Ctor_l1 ih_spec_l1Ctor_l1 i o hF
  intro c hc Q hq
  obtain rfl : c = _ := navEq hc rfl
  refine ALoopU.know fun hk hs => ?_
  have d0 := hs 0 _ rfl
  simp -dsimp [Blk.bnd] at d0
  clear hk hs
  refine ALoopU.enter ?_
  repeat (first | refine chk.ga ?_ | simp -dsimp)
  refine abr.split (fun h11 => ?_) (fun h11 => ?_)
  ·have q12 : (i < c'.args.length) := auq h11
   have z13 : ((i : Int) < (c'.args.length : Int)) := auz
   rw [if_pos q12] at hF
   have hF := ob hF; obtain ⟨x, e14, hF⟩ := hF
   have le14 := lt_of_get e14
   repeat (first | refine chk.ga ?_ | simp -dsimp [h11, z13, ↓e14])
   have hF := ob hF; obtain ⟨v15, e16, hF⟩ := hF
   refine ((C.spec_l1Arg B hB1 hB2 n x v15 e16)).goW (by first | simp [h11, z13, ↓e14]; done | simp_all) (by simp) ?_
   repeat (first | refine chk.ga ?_ | simp -dsimp [h11, z13, ↓e14])
   refine abr.split (fun h17 => ?_) (fun h17 => ?_)
   ·have q18 : ¬ (v15 = true) := auq h17
    rw [if_neg q18] at hF
    cases hF
    repeat (first | refine chk.ga ?_ | simp -dsimp [h11, z13, ↓e14, h17, q18])
    refine Leave.go _ (Gh.refl _) (hq _ ?_)
    repeat (first | refine chk.ga ?_ | simp -dsimp [h11, z13, ↓e14, h17, q18])
   ·have q18 : (v15 = true) := auq h17
    rw [if_pos q18] at hF
    have w19 : IntKind.i64.wrap ((i : Int) + 1) = (i : Int) + 1 := wrap_in (by omega) (by omega)
    repeat (first | refine chk.ga ?_ | simp -dsimp [h11, z13, ↓e14, h17, q18, w19])
    refine Again.go ⟨[(0, .lit (.int .i64 n)), (3, .ptr 0 0), (5, .lit (.int .i64 ((i + 1) : Int)))], [.cells [.lit (.string c'.name), .arr (List.map Vl.Ty.c c'.args), .lit (.int .i64 c'.index)]]⟩ (Gh.to3 (by simp) (by first | simp -dsimp [h11, z13, ↓e14, h17, q18, w19]; done | simp_all)) ?_
    exact (ih_spec_l1Ctor_l1 (i + 1) o hF) _ rfl _ hq
  ·have q12 : ¬ (i < c'.args.length) := auq h11
   have z13 : ¬ ((i : Int) < (c'.args.length : Int)) := auz
   rw [if_neg q12] at hF
   cases hF
   repeat (first | refine chk.ga ?_ | simp -dsimp [h11, q12, z13])
   refine Leave.go ⟨[], []⟩ (Gh.to3 (by simp) (by first | simp -dsimp [h11, q12, z13]; done | simp_all)) ?_
   exact hq

theorem C.spec_l1Ctor_l1 (B : Nat) (hB1 : 67108864 ≤ B) (hB2 : B ≤ 9223372036854775807) (n : Int) (c' : Vl.Ctor) (i : Nat) (o : Lo Bool Unit) (hF : F.spec_l1Ctor_l1 n c' i = some o) : ∀ (c : Code), navO [1, 1, 0, 1, 0, 0] (bodyOf Try.f89) = some c → ∀ (Q : Exit → ASt → Prop), o.post (fun r => ∀ st, Post Try.prog Try.f89 (fun r' _ => r'.le (.lit (.bool r))) .ret st → Q .ret st) (fun s => Q (.exit 0) ⟨[], []⟩) → ALoopU Try.prog B 0 41 (hold c .mk) ⟨[(0, .lit (.int .i64 n)), (3, .ptr 0 0), (5, .lit (.int .i64 (i : Int)))], [.cells [.lit (.string c'.name), .arr (List.map Vl.Ty.c c'.args), .lit (.int .i64 c'.index)]]⟩ (hold Q .mk) :=
 (CC.spec_l1Ctor_l1 B hB1 hB2 n c') i o hF

set_option maxRecDepth 100000 in
set_option maxHeartbeats 4000000 in
theorem C.spec_l1Ctor (B : Nat) (hB1 : 67108864 ≤ B) (hB2 : B ≤ 9223372036854775807) (n : Int) (c' : Vl.Ctor) (r : Bool) (hF : F.spec_l1Ctor n c' = some r) : PureCall Try.prog B 89 [.lit (.int .i64 n), .agg [.lit (.string c'.name), .arr (List.map Vl.Ty.c c'.args), .lit (.int .i64 c'.index)]] (.lit (.bool r)) := by
 unfold F.spec_l1Ctor at hF
 refine PureCall.enterLe Try.func89 (by kernel_rfl) rfl Try.ntmps89 (by simp) (by simp) ?_
 repeat (first | refine chk.ga ?_ | simp -dsimp)
 have hF := ob hF; obtain ⟨v, e1, hF⟩ := hF
 refine ((C.spec_NameValid B hB1 hB2 c'.name v e1)).goW (by simp) (by simp) ?_
 repeat (first | refine chk.ga ?_ | simp -dsimp)
 refine abr.split (fun h2 => ?_) (fun h2 => ?_)
 ·have q3 : (v = true) := auq h2
  rw [if_pos q3] at hF
  repeat (first | refine chk.ga ?_ | simp -dsimp [h2])
  refine abr.split (fun h4 => ?_) (fun h4 => ?_)
  ·have q5 : ¬ (3 < c'.args.length) := auq h4
   have z6 : ¬ ((3 : Int) < (c'.args.length : Int)) := auz
   rw [if_neg q5] at hF
   repeat (first | refine chk.ga ?_ | simp -dsimp [h2, h4, q5, z6])
   refine abr.split (fun h7 => ?_) (fun h7 => ?_)
   ·have q8 : ¬ (c'.index < 0) := auq h7
    rw [if_neg q8] at hF
    repeat (first | refine chk.ga ?_ | simp -dsimp [h2, h4, q5, z6, h7, q8])
    refine abr.split (fun h9 => ?_) (fun h9 => ?_)
    ·have q10 : (3 < c'.index) := auq h9
     rw [if_pos q10] at hF
     cases hF
     repeat (first | refine chk.ga ?_ | simp -dsimp [h2, h4, q5, z6, h7, q8, h9])
     all_goals (try omega)
    ·have q10 : ¬ (3 < c'.index) := auq h9
     rw [if_neg q10] at hF
     repeat (first | refine chk.ga ?_ | simp -dsimp [h2, h4, q5, z6, h7, q8, h9, q10])
     have hF := ob hF; obtain ⟨o', ho20, hF⟩ := hF
     refine ALoop.goU ⟨[(0, .lit (.int .i64 n)), (3, .ptr 0 0), (5, .lit (.int .i64 (0 : Int)))], [.cells [.lit (.string c'.name), .arr (List.map Vl.Ty.c c'.args), .lit (.int .i64 c'.index)]]⟩ (Gh.to3 (by simp) (by first | simp -dsimp [h2, h4, q5, z6, h7, q8, h9, q10]; done | simp_all)) ?_
     refine (C.spec_l1Ctor_l1 B hB1 hB2 n c' 0 o' ho20) _ rfl _ ?_
     rcases o' with r0 | sx
     ·dsimp only at hF
      cases hF
      intro st h
      simpa using h
     ·dsimp only at hF
      cases hF
      repeat (first | refine chk.ga ?_ | simp -dsimp)
      all_goals (try omega)
   ·have q8 : (c'.index < 0) := auq h7
    rw [if_pos q8] at hF
    cases hF
    repeat (first | refine chk.ga ?_ | simp -dsimp [h2, h4, q5, z6, h7, q8])
    all_goals (try omega)
  ·have q5 : (3 < c'.args.length) := auq h4
   have z6 : ((3 : Int) < (c'.args.length : Int)) := auz
   rw [if_pos q5] at hF
   cases hF
   repeat (first | refine chk.ga ?_ | simp -dsimp [h2, h4, q5, z6])
   all_goals (try omega)
 ·have q3 : ¬ (v = true) := auq h2
  rw [if_neg q3] at hF
  cases hF
  repeat (first | refine chk.ga ?_ | simp -dsimp [h2, q3])
  all_goals (try omega)

set_option maxRecDepth 100000 in
set_option maxHeartbeats 4000000 in
theorem CC.spec_l1Twice_l2 (B : Nat) (hB1 : 67108864 ≤ B) (hB2 : B ≤ 9223372036854775807) (w : List Vl.Data) (d : Int) (k : Int) (i : Nat) : (∀ (j : Nat) (o : Lo Bool Unit), F.spec_l1Twice_l2 w d k i j = some o → ∀ (c : Code), navO [1, 0, 1, 0, 0, 1, 0, 0, 1, 1, 0, 0] (bodyOf Try.f90) = some c → ∀ (Q : Exit → ASt → Prop), o.post (fun r => ∀ st, Post Try.prog Try.f90 (fun r' _ => r'.le (.lit (.bool r))) .ret st → Q .ret st) (fun s => Q (.exit 2) ⟨[(0, .arr (List.map Vl.Data.c w)), (1, .lit (.int .i64 d)), (2, .lit (.int .i64 k)), (7, .lit (.int .i64 (i : Int)))], []⟩) → ALoopU Try.prog B 0 79 (hold c .mk) ⟨[(0, .arr (List.map Vl.Data.c w)), (1, .lit (.int .i64 d)), (2, .lit (.int .i64 k)), (7, .lit (.int .i64 (i : Int))), (8, .lit (.int .i64 (j : Int)))], []⟩ (hold Q .mk)) := by
 refine F.spec_l1Twice_l2.partial_correctness w d k i
  (fun j o => ∀ (c : Code), navO [1, 0, 1, 0, 0, 1, 0, 0, 1, 1, 0, 0] (bodyOf Try.f90) = some c → ∀ (Q : Exit → ASt → Prop), o.post (fun r => ∀ st, Post Try.prog Try.f90 (fun r' _ => r'.le (.lit (.bool r))) .ret st → Q .ret st) (fun s => Q (.exit 2) ⟨[(0, .arr (List.map Vl.Data.c w)), (1, .lit (.int .i64 d)), (2, .lit (.int .i64 k)), (7, .lit (.int .i64 (i : Int)))], []⟩) → ALoopU Try.prog B 0 79 (hold c .mk) ⟨[(0, .arr (List.map Vl.Data.c w)), (1, .lit (.int .i64 d)), (2, .lit (.int .i64 k)), (7, .lit (.int .i64 (i : Int))), (8, .lit (.int .i64 (j : Int)))], []⟩ (hold Q .mk))
  ?_
 ·intro _f_spec_l1Twice_l2 ih_spec_l1Twice_l2 j o hF
  intro c hc Q hq
  obtain rfl : c = _ := navEq hc rfl
  refine ALoopU.know fun hk hs => ?_
  have b0 := hk 0
  simp -dsimp at b0
  clear hk hs
  refine ALoopU.enter ?_
  have hF := ob hF; obtain ⟨x10, e11, hF⟩ := hF
  have le11 := lt_of_get e11
  repeat (first | refine chk.ga ?_ | simp -dsimp [↓e11])
  refine abr.split (fun h12 => ?_) (fun h12 => ?_)
  ·have q13 : (j < x10.ctors.length) := auq h12
   have z14 : ((j : Int) < (x10.ctors.length : Int)) := auz
   rw [if_pos q13] at hF
   repeat (first | refine chk.ga ?_ | simp -dsimp [↓e11, h12, z14])
   refine abr.split (fun h15 => ?_) (fun h15 => ?_)
   ·have q16 : ¬ ((i : Int) < d) := auq h15
    rw [if_neg q16] at hF
    repeat (first | refine chk.ga ?_ | simp -dsimp [↓e11, h12, z14, h15, q16])
    refine abr.split (fun h17 => ?_) (fun h17 => ?_)
    ·have q18 : ((j : Int) < k) := auq h17
     rw [if_pos q18] at hF
     repeat (first | refine chk.ga ?_ | simp -dsimp [↓e11, h12, z14, h15, q16, h17])
     refine ADraw.simple follows (by kernel_rfl) (by kernel_rfl) ?_
     have hF := ob hF; obtain ⟨x19, e20a, hF⟩ := hF
     have e20a := at_some e20a; obtain ⟨ne20, e20⟩ := e20a
     have le20 := lt_of_get e20
     repeat (first | refine chk.ga ?_ | simp -dsimp [↓e11, h12, z14, h15, q16, h17, ↓e20])
     refine abr.split (fun h21 => ?_) (fun h21 => ?_)
     ·have q22 : (k < (x19.ctors.length : Int)) := auq h21
      rw [if_pos q22] at hF
      have hF := ob hF; obtain ⟨x23, e24, hF⟩ := hF
      have le24 := lt_of_get e24
      have hF := ob hF; obtain ⟨x25, e26a, hF⟩ := hF
      have e26a := at_some e26a; obtain ⟨ne26, e26⟩ := e26a
      have le26 := lt_of_get e26
      repeat (first | refine chk.ga ?_ | simp -dsimp [↓e11, h12, z14, h15, q16, h17, ↓e20, h21, ↓e24, ↓e26])
      refine abr.split (fun h27 => ?_) (fun h27 => ?_)
      ·have q28 : (x23.name.toList = x25.name.toList) := auq h27
       rw [if_pos q28] at hF
       cases hF
       repeat (first | refine chk.ga ?_ | simp -dsimp [↓e11, h12, z14, h15, q16, h17, ↓e20, h21, ↓e24, ↓e26, h27])
       refine Leave.go _ (Gh.refl _) (hq _ ?_)
       repeat (first | refine chk.ga ?_ | simp -dsimp [↓e11, h12, z14, h15, q16, h17, ↓e20, h21, ↓e24, ↓e26, h27])
      ·have q28 : ¬ (x23.name.toList = x25.name.toList) := auq h27
       rw [if_neg q28] at hF
       have hF := oc hF; obtain ⟨c29, hF⟩ := hF
       have w30 : IntKind.i64.wrap ((j : Int) + 1) = (j : Int) + 1 := wrap_in (by omega) (by omega)
       repeat (first | refine chk.ga ?_ | simp -dsimp [↓e11, h12, z14, h15, q16, h17, ↓e20, h21, ↓e24, ↓e26, h27, q28, w30])
       refine Again.go ⟨[(0, .arr (List.map Vl.Data.c w)), (1, .lit (.int .i64 d)), (2, .lit (.int .i64 k)), (7, .lit (.int .i64 (i : Int))), (8, .lit (.int .i64 ((j + 1) : Int)))], []⟩ (Gh.to3 (by simp) (by first | simp -dsimp [↓e11, h12, z14, h15, q16, h17, ↓e20, h21, ↓e24, ↓e26, h27, q28, w30]; done | simp_all)) ?_
       exact (ih_spec_l1Twice_l2 (j + 1) o hF) _ rfl _ hq
     ·have q22 : ¬ (k < (x19.ctors.length : Int)) := auq h21
      rw [if_neg q22] at hF
      have hF := oc hF; obtain ⟨c31, hF⟩ := hF
      have w32 : IntKind.i64.wrap ((j : Int) + 1) = (j : Int) + 1 := wrap_in (by omega) (by omega)
      repeat (first | refine chk.ga ?_ | simp -dsimp [↓e11, h12, z14, h15, q16, h17, ↓e20, h21, q22, w32])
      refine Again.go ⟨[(0, .arr (List.map Vl.Data.c w)), (1, .lit (.int .i64 d)), (2, .lit (.int .i64 k)), (7, .lit (.int .i64 (i : Int))), (8, .lit (.int .i64 ((j + 1) : Int)))], []⟩ (Gh.to3 (by simp) (by first | simp -dsimp [↓e11, h12, z14, h15, q16, h17, ↓e20, h21, q22, w32]; done | simp_all)) ?_
      exact (ih_spec_l1Twice_l2 (j + 1) o hF) _ rfl _ hq
    ·have q18 : ¬ ((j : Int) < k) := auq h17
     rw [if_neg q18] at hF
     cases hF
     repeat (first | refine chk.ga ?_ | simp -dsimp [↓e11, h12, z14, h15, q16, h17, q18])
     refine Leave.go ⟨[(0, .arr (List.map Vl.Data.c w)), (1, .lit (.int .i64 d)), (2, .lit (.int .i64 k)), (7, .lit (.int .i64 (i : Int)))], []⟩ (Gh.to3 (by simp) (by first | simp -dsimp [↓e11, h12, z14, h15, q16, h17, q18]; done | simp_all)) ?_
     exact hq
   ·have q16 : ((i : Int) < d) := auq h15
    rw [if_pos q16] at hF
    repeat (first | refine chk.ga ?_ | simp -dsimp [↓e11, h12, z14, h15, q16])
    refine ADraw.simple follows (by kernel_rfl) (by kernel_rfl) ?_
    have hF := ob hF; obtain ⟨x33, e34a, hF⟩ := hF
    have e34a := at_some e34a; obtain ⟨ne34, e34⟩ := e34a
    have le34 := lt_of_get e34
    repeat (first | refine chk.ga ?_ | simp -dsimp [↓e11, h12, z14, h15, q16, ↓e34])
    refine abr.split (fun h35 => ?_) (fun h35 => ?_)
    ·have q36 : (k < (x33.ctors.length : Int)) := auq h35
     rw [if_pos q36] at hF
     have hF := ob hF; obtain ⟨x37, e38, hF⟩ := hF
     have le38 := lt_of_get e38
     have hF := ob hF; obtain ⟨x39, e40a, hF⟩ := hF
     have e40a := at_some e40a; obtain ⟨ne40, e40⟩ := e40a
     have le40 := lt_of_get e40
     repeat (first | refine chk.ga ?_ | simp -dsimp [↓e11, h12, z14, h15, q16, ↓e34, h35, ↓e38, ↓e40])
     refine abr.split (fun h41 => ?_) (fun h41 => ?_)
     ·have q42 : (x37.name.toList = x39.name.toList) := auq h41
      rw [if_pos q42] at hF
      cases hF
      repeat (first | refine chk.ga ?_ | simp -dsimp [↓e11, h12, z14, h15, q16, ↓e34, h35, ↓e38, ↓e40, h41])
      refine Leave.go _ (Gh.refl _) (hq _ ?_)
      repeat (first | refine chk.ga ?_ | simp -dsimp [↓e11, h12, z14, h15, q16, ↓e34, h35, ↓e38, ↓e40, h41])
     ·have q42 : ¬ (x37.name.toList = x39.name.toList) := auq h41
      rw [if_neg q42] at hF
      have hF := oc hF; obtain ⟨c43, hF⟩ := hF
      have w44 : IntKind.i64.wrap ((j : Int) + 1) = (j : Int) + 1 := wrap_in (by omega) (by omega)
      repeat (first | refine chk.ga ?_ | simp -dsimp [↓e11, h12, z14, h15, q16, ↓e34, h35, ↓e38, ↓e40, h41, q42, w44])
      refine Again.go ⟨[(0, .arr (List.map Vl.Data.c w)), (1, .lit (.int .i64 d)), (2, .lit (.int .i64 k)), (7, .lit (.int .i64 (i : Int))), (8, .lit (.int .i64 ((j + 1) : Int)))], []⟩ (Gh.to3 (by simp) (by first | simp -dsimp [↓e11, h12, z14, h15, q16, ↓e34, h35, ↓e38, ↓e40, h41, q42, w44]; done | simp_all)) ?_
      exact (ih_spec_l1Twice_l2 (j + 1) o hF) _ rfl _ hq
    ·have q36 : ¬ (k < (x33.ctors.length : Int)) := auq h35
     rw [if_neg q36] at hF
     have hF := oc hF; obtain ⟨c45, hF⟩ := hF
     have w46 : IntKind.i64.wrap ((j : Int) + 1) = (j : Int) + 1 := wrap_in (by omega) (by omega)
     repeat (first | refine chk.ga ?_ | simp -dsimp [↓e11, h12, z14, h15, q16, ↓e34, h35, q36, w46])
     refine Again.go ⟨[(0, .arr (List.map Vl.Data.c w)), (1, .lit (.int .i64 d)), (2, .lit (.int .i64 k)), (7, .lit (.int .i64 (i : Int))), (8, .lit (.int .i64 ((j + 1) : Int)))], []⟩ (Gh.to3 (by simp) (by first | simp -dsimp [↓e11, h12, z14, h15, q16, ↓e34, h35, q36, w46]; done | simp_all)) ?_
     exact (ih_spec_l1Twice_l2 (j + 1) o hF) _ rfl _ hq
  ·have q13 : ¬ (j < x10.ctors.length) := auq h12
   have z14 : ¬ ((j : Int) < (x10.ctors.length : Int)) := auz
   rw [if_neg q13] at hF
   cases hF
   repeat (first | refine chk.ga ?_ | simp -dsimp [↓e11, h12, q13, z14])
   refine Leave.go ⟨[(0, .arr (List.map Vl.Data.c w)), (1, .lit (.int .i64 d)), (2, .lit (.int .i64 k)), (7, .lit (.int .i64 (i : Int)))], []⟩ (Gh.to3 (by simp) (by first | simp -dsimp [↓e11, h12, q13, z14]; done | simp_all)) ?_
   exact hq

theorem C.spec_l1Twice_l2 (B : Nat) (hB1 : 67108864 ≤ B) (hB2 : B ≤ 9223372036854775807) (w : List Vl.Data) (d : Int) (k : Int) (i : Nat) (j : Nat) (o : Lo Bool Unit) (hF : F.spec_l1Twice_l2 w d k i j = some o) : ∀ (c : Code), navO [1, 0, 1, 0, 0, 1, 0, 0, 1, 1, 0, 0] (bodyOf Try.f90) = some c → ∀ (Q : Exit → ASt → Prop), o.post (fun r => ∀ st, Post Try.prog Try.f90 (fun r' _ => r'.le (.lit (.bool r))) .ret st → Q .ret st) (fun s => Q (.exit 2) ⟨[(0, .arr (List.map Vl.Data.c w)), (1, .lit (.int .i64 d)), (2, .lit (.int .i64 k)), (7, .lit (.int .i64 (i : Int)))], []⟩) → ALoopU Try.prog B 0 79 (hold c .mk) ⟨[(0, .arr (List.map Vl.Data.c w)), (1, .lit (.int .i64 d)), (2, .lit (.int .i64 k)), (7, .lit (.int .i64 (i : Int))), (8, .lit (.int .i64 (j : Int)))], []⟩ (hold Q .mk) :=
 (CC.spec_l1Twice_l2 B hB1 hB2 w d k i) j o hF

set_option maxRecDepth 100000 in
set_option maxHeartbeats 4000000 in
theorem CC.spec_l1Twice_l3 (B : Nat) (hB1 : 67108864 ≤ B) (hB2 : B ≤ 9223372036854775807) (w : List Vl.Data) (d : Int) (k : Int) (i : Nat) : (∀ (j50 : Nat) (o : Lo Bool Unit), F.spec_l1Twice_l3 w d k i j50 = some o → ∀ (c : Code), navO [1, 0, 1, 0, 0, 1, 0, 0, 1, 1, 0, 0] (bodyOf Try.f90) = some c → ∀ (Q : Exit → ASt → Prop), o.post (fun r => ∀ st, Post Try.prog Try.f90 (fun r' _ => r'.le (.lit (.bool r))) .ret st → Q .ret st) (fun s => Q (.exit 2) ⟨[(0, .arr (List.map Vl.Data.c w)), (1, .lit (.int .i64 d)), (2, .lit (.int .i64 k)), (7, .lit (.int .i64 (i : Int)))], []⟩) → ALoopU Try.prog B 0 79 (hold c .mk) ⟨[(0, .arr (List.map Vl.Data.c w)), (1, .lit (.int .i64 d)), (2, .lit (.int .i64 k)), (7, .lit (.int .i64 (i : Int))), (8, .lit (.int .i64 (j50 : Int)))], []⟩ (hold Q .mk)) := by
 refine F.spec_l1Twice_l3.partial_correctness w d k i
  (fun j50 o => ∀ (c : Code), navO [1, 0, 1, 0, 0, 1, 0, 0, 1, 1, 0, 0] (bodyOf Try.f90) = some c → ∀ (Q : Exit → ASt → Prop), o.post (fun r => ∀ st, Post Try.prog Try.f90 (fun r' _ => r'.le (.lit (.bool r))) .ret st → Q .ret st) (fun s => Q (.exit 2) ⟨[(0, .arr (List.map Vl.Data.c w)), (1, .lit (.int .i64 d)), (2, .lit (.int .i64 k)), (7, .lit (.int .i64 (i : Int)))], []⟩) → ALoopU Try.prog B 0 79 (hold c .mk) ⟨[(0, .arr (List.map Vl.Data.c w)), (1, .lit (.int .i64 d)), (2, .lit (.int .i64 k)), (7, .lit (.int .i64 (i : Int))), (8, .lit (.int .i64 (j50 : Int)))], []⟩ (hold Q .mk))
  ?_
 ·intro _f_spec_l1Twice_l3 ih_spec_l1Twice_l3 j50 o hF
  intro c hc Q hq
  obtain rfl : c = _ := navEq hc rfl
  refine ALoopU.know fun hk hs => ?_
  have b0 := hk 0
  simp -dsimp at b0
  clear hk hs
  refine ALoopU.enter ?_
  have hF := ob hF; obtain ⟨x51, e52, hF⟩ := hF
  have le52 := lt_of_get e52
  repeat (first | refine chk.ga ?_ | simp -dsimp [↓e52])
  refine abr.split (fun h53 => ?_) (fun h53 => ?_)
  ·have q54 : (j50 < x51.ctors.length) := auq h53
   have z55 : ((j50 : Int) < (x51.ctors.length : Int)) := auz
   rw [if_pos q54] at hF
   repeat (first | refine chk.ga ?_ | simp -dsimp [↓e52, h53, z55])
   refine abr.split (fun h56 => ?_) (fun h56 => ?_)
   ·have q57 : ¬ ((i : Int) < d) := auq h56
    rw [if_neg q57] at hF
    repeat (first | refine chk.ga ?_ | simp -dsimp [↓e52, h53, z55, h56, q57])
    refine abr.split (fun h58 => ?_) (fun h58 => ?_)
    ·have q59 : ((j50 : Int) < k) := auq h58
     rw [if_pos q59] at hF
     repeat (first | refine chk.ga ?_ | simp -dsimp [↓e52, h53, z55, h56, q57, h58])
     refine ADraw.simple follows (by kernel_rfl) (by kernel_rfl) ?_
     have hF := ob hF; obtain ⟨x60, e61a, hF⟩ := hF
     have e61a := at_some e61a; obtain ⟨ne61, e61⟩ := e61a
     have le61 := lt_of_get e61
     repeat (first | refine chk.ga ?_ | simp -dsimp [↓e52, h53, z55, h56, q57, h58, ↓e61])
     refine abr.split (fun h62 => ?_) (fun h62 => ?_)
     ·have q63 : (k < (x60.ctors.length : Int)) := auq h62
      rw [if_pos q63] at hF
      have hF := ob hF; obtain ⟨x64, e65, hF⟩ := hF
      have le65 := lt_of_get e65
      have hF := ob hF; obtain ⟨x66, e67a, hF⟩ := hF
      have e67a := at_some e67a; obtain ⟨ne67, e67⟩ := e67a
      have le67 := lt_of_get e67
      repeat (first | refine chk.ga ?_ | simp -dsimp [↓e52, h53, z55, h56, q57, h58, ↓e61, h62, ↓e65, ↓e67])
      refine abr.split (fun h68 => ?_) (fun h68 => ?_)
      ·have q69 : (x64.name.toList = x66.name.toList) := auq h68
       rw [if_pos q69] at hF
       cases hF
       repeat (first | refine chk.ga ?_ | simp -dsimp [↓e52, h53, z55, h56, q57, h58, ↓e61, h62, ↓e65, ↓e67, h68])
       refine Leave.go _ (Gh.refl _) (hq _ ?_)
       repeat (first | refine chk.ga ?_ | simp -dsimp [↓e52, h53, z55, h56, q57, h58, ↓e61, h62, ↓e65, ↓e67, h68])
      ·have q69 : ¬ (x64.name.toList = x66.name.toList) := auq h68
       rw [if_neg q69] at hF
       have hF := oc hF; obtain ⟨c70, hF⟩ := hF
       have w71 : IntKind.i64.wrap ((j50 : Int) + 1) = (j50 : Int) + 1 := wrap_in (by omega) (by omega)
       repeat (first | refine chk.ga ?_ | simp -dsimp [↓e52, h53, z55, h56, q57, h58, ↓e61, h62, ↓e65, ↓e67, h68, q69, w71])
       refine Again.go ⟨[(0, .arr (List.map Vl.Data.c w)), (1, .lit (.int .i64 d)), (2, .lit (.int .i64 k)), (7, .lit (.int .i64 (i : Int))), (8, .lit (.int .i64 ((j50 + 1) : Int)))], []⟩ (Gh.to3 (by simp) (by first | simp -dsimp [↓e52, h53, z55, h56, q57, h58, ↓e61, h62, ↓e65, ↓e67, h68, q69, w71]; done | simp_all)) ?_
       exact (ih_spec_l1Twice_l3 (j50 + 1) o hF) _ rfl _ hq
     ·have q63 : ¬ (k < (x60.ctors.length : Int)) := auq h62
      rw [if_neg q63] at hF
      have hF := oc hF; obtain ⟨c72, hF⟩ := hF
      have w73 : IntKind.i64.wrap ((j50 : Int) + 1) = (j50 : Int) + 1 := wrap_in (by omega) (by omega)
      repeat (first | refine chk.ga ?_ | simp -dsimp [↓e52, h53, z55, h56, q57, h58, ↓e61, h62, q63, w73])
      refine Again.go ⟨[(0, .arr (List.map Vl.Data.c w)), (1, .lit (.int .i64 d)), (2, .lit (.int .i64 k)), (7, .lit (.int .i64 (i : Int))), (8, .lit (.int .i64 ((j50 + 1) : Int)))], []⟩ (Gh.to3 (by simp) (by first | simp -dsimp [↓e52, h53, z55, h56, q57, h58, ↓e61, h62, q63, w73]; done | simp_all)) ?_
      exact (ih_spec_l1Twice_l3 (j50 + 1) o hF) _ rfl _ hq
    ·have q59 : ¬ ((j50 : Int) < k) := auq h58
     rw [if_neg q59] at hF
     cases hF
     repeat (first | refine chk.ga ?_ | simp -dsimp [↓e52, h53, z55, h56, q57, h58, q59])
     refine Leave.go ⟨[(0, .arr (List.map Vl.Data.c w)), (1, .lit (.int .i64 d)), (2, .lit (.int .i64 k)), (7, .lit (.int .i64 (i : Int)))], []⟩ (Gh.to3 (by simp) (by first | simp -dsimp [↓e52, h53, z55, h56, q57, h58, q59]; done | simp_all)) ?_
     exact hq
   ·have q57 : ((i : Int) < d) := auq h56
    rw [if_pos q57] at hF
    repeat (first | refine chk.ga ?_ | simp -dsimp [↓e52, h53, z55, h56, q57])
    refine ADraw.simple follows (by kernel_rfl) (by kernel_rfl) ?_
    have hF := ob hF; obtain ⟨x74, e75a, hF⟩ := hF
    have e75a := at_some e75a; obtain ⟨ne75, e75⟩ := e75a
    have le75 := lt_of_get e75
    repeat (first | refine chk.ga ?_ | simp -dsimp [↓e52, h53, z55, h56, q57, ↓e75])
    refine abr.split (fun h76 => ?_) (fun h76 => ?_)
    ·have q77 : (k < (x74.ctors.length : Int)) := auq h76
     rw [if_pos q77] at hF
     have hF := ob hF; obtain ⟨x78, e79, hF⟩ := hF
     have le79 := lt_of_get e79
     have hF := ob hF; obtain ⟨x80, e81a, hF⟩ := hF
     have e81a := at_some e81a; obtain ⟨ne81, e81⟩ := e81a
     have le81 := lt_of_get e81
     repeat (first | refine chk.ga ?_ | simp -dsimp [↓e52, h53, z55, h56, q57, ↓e75, h76, ↓e79, ↓e81])
     refine abr.split (fun h82 => ?_) (fun h82 => ?_)
     ·have q83 : (x78.name.toList = x80.name.toList) := auq h82
      rw [if_pos q83] at hF
      cases hF
      repeat (first | refine chk.ga ?_ | simp -dsimp [↓e52, h53, z55, h56, q57, ↓e75, h76, ↓e79, ↓e81, h82])
      refine Leave.go _ (Gh.refl _) (hq _ ?_)
      repeat (first | refine chk.ga ?_ | simp -dsimp [↓e52, h53, z55, h56, q57, ↓e75, h76, ↓e79, ↓e81, h82])
     ·have q83 : ¬ (x78.name.toList = x80.name.toList) := auq h82
      rw [if_neg q83] at hF
      have hF := oc hF; obtain ⟨c84, hF⟩ := hF
      have w85 : IntKind.i64.wrap ((j50 : Int) + 1) = (j50 : Int) + 1 := wrap_in (by omega) (by omega)
      repeat (first | refine chk.ga ?_ | simp -dsimp [↓e52, h53, z55, h56, q57, ↓e75, h76, ↓e79, ↓e81, h82, q83, w85])
      refine Again.go ⟨[(0, .arr (List.map Vl.Data.c w)), (1, .lit (.int .i64 d)), (2, .lit (.int .i64 k)), (7, .lit (.int .i64 (i : Int))), (8, .lit (.int .i64 ((j50 + 1) : Int)))], []⟩ (Gh.to3 (by simp) (by first | simp -dsimp [↓e52, h53, z55, h56, q57, ↓e75, h76, ↓e79, ↓e81, h82, q83, w85]; done | simp_all)) ?_
      exact (ih_spec_l1Twice_l3 (j50 + 1) o hF) _ rfl _ hq
    ·have q77 : ¬ (k < (x74.ctors.length : Int)) := auq h76
     rw [if_neg q77] at hF
     have hF := oc hF; obtain ⟨c86, hF⟩ := hF
     have w87 : IntKind.i64.wrap ((j50 : Int) + 1) = (j50 : Int) + 1 := wrap_in (by omega) (by omega)
     repeat (first | refine chk.ga ?_ | simp -dsimp [↓e52, h53, z55, h56, q57, ↓e75, h76, q77, w87])
     refine Again.go ⟨[(0, .arr (List.map Vl.Data.c w)), (1, .lit (.int .i64 d)), (2, .lit (.int .i64 k)), (7, .lit (.int .i64 (i : Int))), (8, .lit (.int .i64 ((j50 + 1) : Int)))], []⟩ (Gh.to3 (by simp) (by first | simp -dsimp [↓e52, h53, z55, h56, q57, ↓e75, h76, q77, w87]; done | simp_all)) ?_
     exact (ih_spec_l1Twice_l3 (j50 + 1) o hF) _ rfl _ hq
  ·have q54 : ¬ (j50 < x51.ctors.length) := auq h53
   have z55 : ¬ ((j50 : Int) < (x51.ctors.length : Int)) := auz
   rw [if_neg q54] at hF
   cases hF
   repeat (first | refine chk.ga ?_ | simp -dsimp [↓e52, h53, q54, z55])
   refine Leave.go ⟨[(0, .arr (List.map Vl.Data.c w)), (1, .lit (.int .i64 d)), (2, .lit (.int .i64 k)), (7, .lit (.int .i64 (i : Int)))], []⟩ (Gh.to3 (by simp) (by first | simp -dsimp [↓e52, h53, q54, z55]; done | simp_all)) ?_
   exact hq

theorem C.spec_l1Twice_l3 (B : Nat) (hB1 : 67108864 ≤ B) (hB2 : B ≤ 9223372036854775807) (w : List Vl.Data) (d : Int) (k : Int) (i : Nat) (j50 : Nat) (o : Lo Bool Unit) (hF : F.spec_l1Twice_l3 w d k i j50 = some o) : ∀ (c : Code), navO [1, 0, 1, 0, 0, 1, 0, 0, 1, 1, 0, 0] (bodyOf Try.f90) = some c → ∀ (Q : Exit → ASt → Prop), o.post (fun r => ∀ st, Post Try.prog Try.f90 (fun r' _ => r'.le (.lit (.bool r))) .ret st → Q .ret st) (fun s => Q (.exit 2) ⟨[(0, .arr (List.map Vl.Data.c w)), (1, .lit (.int .i64 d)), (2, .lit (.int .i64 k)), (7, .lit (.int .i64 (i : Int)))], []⟩) → ALoopU Try.prog B 0 79 (hold c .mk) ⟨[(0, .arr (List.map Vl.Data.c w)), (1, .lit (.int .i64 d)), (2, .lit (.int .i64 k)), (7, .lit (.int .i64 (i : Int))), (8, .lit (.int .i64 (j50 : Int)))], []⟩ (hold Q .mk) :=
 (CC.spec_l1Twice_l3 B hB1 hB2 w d k i) j50 o hF

set_option maxRecDepth 100000 in
set_option maxHeartbeats 4000000 in
theorem CC.spec_l1Twice_l1 (B : Nat) (hB1 : 67108864 ≤ B) (hB2 : B ≤ 9223372036854775807) (w : List Vl.Data) (d : Int) (k : Int) : (∀ (i : Nat) (o : Lo Bool Unit), F.spec_l1Twice_l1 w d k i = some o → ∀ (c : Code), navO [1, 0, 1, 0, 0] (bodyOf Try.f90) = some c → ∀ (Q : Exit → ASt → Prop), o.post (fun r => ∀ st, Post Try.prog Try.f90 (fun r' _ => r'.le (.lit (.bool r))) .ret st → Q .ret st) (fun s => Q (.exit 0) ⟨[], []⟩) → ALoopU Try.prog B 0 79 (hold c .mk) ⟨[(0, .arr (List.map Vl.Data.c w)), (1, .lit (.int .i64 d)), (2, .lit (.int .i64 k)), (7, .lit (.int .i64 (i : Int)))], []⟩ (hold Q .mk)) := by
 refine F.spec_l1Twice_l1.partial_correctness w d k
  (fun i o => ∀ (c : Code), navO [1, 0, 1, 0, 0] (bodyOf Try.f90) = some c → ∀ (Q : Exit → ASt → Prop), o.post (fun r => ∀ st, Post Try.prog Try.f90 (fun r' _ => r'.le (.lit (.bool r))) .ret st → Q .ret st) (fun s => Q (.exit 0) ⟨[], []⟩) → ALoopU Try.prog B 0 79 (hold c .mk) ⟨[(0, .arr (List.map Vl.Data.c w)), (1, .lit (.int .i64 d)), (2, .lit (.int .i64 k)), (7, .lit (.int .i64 (i : Int)))], []⟩ (hold Q .mk))
  ?_
 ·intro _f_spec_l1Twice_l1 ih_spec_l1Twice_l1 i o hF
  intro c hc Q hq
  obtain rfl : c = _ := navEq hc rfl
  refine ALoopU.know fun hk hs => ?_
  have b0 := hk 0
  simp -dsimp at b0
  clear hk hs
  refine ALoopU.enter ?_
  repeat (first | refine chk.ga ?_ | simp -dsimp)
  refine abr.split (fun h1 => ?_) (fun h1 => ?_)
  ·have q2 : ((i : Int) ≤ d) := auq h1
   rw [if_pos q2] at hF
   repeat (first | refine chk.ga ?_ | simp -dsimp [h1])
   refine ADraw.simple follows (by kernel_rfl) (by kernel_rfl) ?_
   repeat (first | refine chk.ga ?_ | simp -dsimp [h1])
   refine abr.split (fun h3 => ?_) (fun h3 => ?_)
   ·have q4 : ((i : Int) < d) := auq h3
    rw [if_pos q4] at hF
    have hF := ob hF; obtain ⟨x, e5, hF⟩ := hF
    have le5 := lt_of_get e5
    have hF := ob hF; obtain ⟨x6, e7a, hF⟩ := hF
    have e7a := at_some e7a; obtain ⟨ne7, e7⟩ := e7a
    have le7 := lt_of_get e7
    repeat (first | refine chk.ga ?_ | simp -dsimp [h1, h3, ↓e5, ↓e7])
    refine abr.split (fun h8 => ?_) (fun h8 => ?_)
    ·have q9 : (x.name.toList = x6.name.toList) := auq h8
     rw [if_pos q9] at hF
     cases hF
     repeat (first | refine chk.ga ?_ | simp -dsimp [h1, h3, ↓e5, ↓e7, h8])
     refine Leave.go _ (Gh.refl _) (hq _ ?_)
     repeat (first | refine chk.ga ?_ | simp -dsimp [h1, h3, ↓e5, ↓e7, h8])
    ·have q9 : ¬ (x.name.toList = x6.name.toList) := auq h8
     rw [if_neg q9] at hF
     repeat (first | refine chk.ga ?_ | simp -dsimp [h1, h3, ↓e5, ↓e7, h8, q9])
     have hF := ob hF; obtain ⟨o', ho47, hF⟩ := hF
     refine ALoop.goU ⟨[(0, .arr (List.map Vl.Data.c w)), (1, .lit (.int .i64 d)), (2, .lit (.int .i64 k)), (7, .lit (.int .i64 (i : Int))), (8, .lit (.int .i64 (0 : Int)))], []⟩ (Gh.to3 (by simp) (by first | simp -dsimp [h1, h3, ↓e5, ↓e7, h8, q9]; done | simp_all)) ?_
     refine (C.spec_l1Twice_l2 B hB1 hB2 w d k i 0 o' ho47) _ rfl _ ?_
     rcases o' with r0 | sx
     ·dsimp only at hF
      cases hF
      intro st h
      simp -dsimp
      refine Leave.go st (Gh.refl _) (hq st h)
     ·dsimp only at hF
      have hF := oc hF; obtain ⟨c48, hF⟩ := hF
      have w49 : IntKind.i64.wrap ((i : Int) + 1) = (i : Int) + 1 := wrap_in (by omega) (by omega)
      repeat (first | refine chk.ga ?_ | simp -dsimp [w49])
      refine Again.go ⟨[(0, .arr (List.map Vl.Data.c w)), (1, .lit (.int .i64 d)), (2, .lit (.int .i64 k)), (7, .lit (.int .i64 ((i + 1) : Int)))], []⟩ (Gh.to3 (by simp) (by first | simp -dsimp [w49]; done | simp_all)) ?_
      exact (ih_spec_l1Twice_l1 (i + 1) o hF) _ rfl _ hq
   ·have q4 : ¬ ((i : Int) < d) := auq h3
    rw [if_neg q4] at hF
    repeat (first | refine chk.ga ?_ | simp -dsimp [h1, h3, q4])
    have hF := ob hF; obtain ⟨o'89, ho88, hF⟩ := hF
    refine ALoop.goU ⟨[(0, .arr (List.map Vl.Data.c w)), (1, .lit (.int .i64 d)), (2, .lit (.int .i64 k)), (7, .lit (.int .i64 (i : Int))), (8, .lit (.int .i64 (0 : Int)))], []⟩ (Gh.to3 (by simp) (by first | simp -dsimp [h1, h3, q4]; done | simp_all)) ?_
    refine (C.spec_l1Twice_l3 B hB1 hB2 w d k i 0 o'89 ho88) _ rfl _ ?_
    rcases o'89 with r093 | sx90
    ·dsimp only at hF
     cases hF
     intro st h
     simp -dsimp
     refine Leave.go st (Gh.refl _) (hq st h)
    ·dsimp only at hF
     have hF := oc hF; obtain ⟨c91, hF⟩ := hF
     have w92 : IntKind.i64.wrap ((i : Int) + 1) = (i : Int) + 1 := wrap_in (by omega) (by omega)
     repeat (first | refine chk.ga ?_ | simp -dsimp [w92])
     refine Again.go ⟨[(0, .arr (List.map Vl.Data.c w)), (1, .lit (.int .i64 d)), (2, .lit (.int .i64 k)), (7, .lit (.int .i64 ((i + 1) : Int)))], []⟩ (Gh.to3 (by simp) (by first | simp -dsimp [w92]; done | simp_all)) ?_
     exact (ih_spec_l1Twice_l1 (i + 1) o hF) _ rfl _ hq
  ·have q2 : ¬ ((i : Int) ≤ d) := auq h1
   rw [if_neg q2] at hF
   cases hF
   repeat (first | refine chk.ga ?_ | simp -dsimp [h1, q2])
   refine Leave.go ⟨[], []⟩ (Gh.to3 (by simp) (by first | simp -dsimp [h1, q2]; done | simp_all)) ?_
   exact hq

theorem C.spec_l1Twice_l1 (B : Nat) (hB1 : 67108864 ≤ B) (hB2 : B ≤ 9223372036854775807) (w : List Vl.Data) (d : Int) (k : Int) (i : Nat) (o : Lo Bool Unit) (hF : F.spec_l1Twice_l1 w d k i = some o) : ∀ (c : Code), navO [1, 0, 1, 0, 0] (bodyOf Try.f90) = some c → ∀ (Q : Exit → ASt → Prop), o.post (fun r => ∀ st, Post Try.prog Try.f90 (fun r' _ => r'.le (.lit (.bool r))) .ret st → Q .ret st) (fun s => Q (.exit 0) ⟨[], []⟩) → ALoopU Try.prog B 0 79 (hold c .mk) ⟨[(0, .arr (List.map Vl.Data.c w)), (1, .lit (.int .i64 d)), (2, .lit (.int .i64 k)), (7, .lit (.int .i64 (i : Int)))], []⟩ (hold Q .mk) :=
 (CC.spec_l1Twice_l1 B hB1 hB2 w d k) i o hF

set_option maxRecDepth 100000 in
set_option maxHeartbeats 4000000 in
theorem C.spec_l1Twice (B : Nat) (hB1 : 67108864 ≤ B) (hB2 : B ≤ 9223372036854775807) (w : List Vl.Data) (d : Int) (k : Int) (r : Bool) (hF : F.spec_l1Twice w d k = some r) : PureCall Try.prog B 90 [.arr (List.map Vl.Data.c w), .lit (.int .i64 d), .lit (.int .i64 k)] (.lit (.bool r)) := by
 unfold F.spec_l1Twice at hF
 refine PureCall.enterLe Try.func90 (by kernel_rfl) rfl Try.ntmps90 (by simp) (by simp) ?_
 repeat (first | refine chk.ga ?_ | simp -dsimp)
 have hF := ob hF; obtain ⟨o'95, ho94, hF⟩ := hF
 refine ALoop.goU ⟨[(0, .arr (List.map Vl.Data.c w)), (1, .lit (.int .i64 d)), (2, .lit (.int .i64 k)), (7, .lit (.int .i64 (0 : Int)))], []⟩ (Gh.to3 (by simp) (by simp -dsimp)) ?_
 refine (C.spec_l1Twice_l1 B hB1 hB2 w d k 0 o'95 ho94) _ rfl _ ?_
 rcases o'95 with r097 | sx96
 ·dsimp only at hF
  cases hF
  intro st h
  simpa using h
 ·dsimp only at hF
  cases hF
  repeat (first | refine chk.ga ?_ | simp -dsimp)
  all_goals (try omega)

set_option maxRecDepth 100000 in
set_option maxHeartbeats 4000000 in
theorem CC.spec_WorldValid_l2 (B : Nat) (hB1 : 67108864 ≤ B) (hB2 : B ≤ 9223372036854775807) (w : List Vl.Data) (d : Nat) : (∀ (k : Nat) (o : Lo Bool Unit), F.spec_WorldValid_l2 w d k = some o → ∀ (c : Code), navO [1, 1, 0, 1, 0, 0, 1, 0, 0, 1, 1, 0, 0] (bodyOf Try.f61) = some c → ∀ (Q : Exit → ASt → Prop), o.post (fun r => ∀ st, Post Try.prog Try.f61 (fun r' _ => r'.le (.lit (.bool r))) .ret st → Q .ret st) (fun s => Q (.exit 2) ⟨[(0, .arr (List.map Vl.Data.c w)), (3, .lit (.int .i64 (d : Int)))], []⟩) → ALoopU Try.prog B 0 67 (hold c .mk) ⟨[(0, .arr (List.map Vl.Data.c w)), (3, .lit (.int .i64 (d : Int))), (4, .lit (.int .i64 (k : Int)))], []⟩ (hold Q .mk)) := by
 refine F.spec_WorldValid_l2.partial_correctness w d
  (fun k o => ∀ (c : Code), navO [1, 1, 0, 1, 0, 0, 1, 0, 0, 1, 1, 0, 0] (bodyOf Try.f61) = some c → ∀ (Q : Exit → ASt → Prop), o.post (fun r => ∀ st, Post Try.prog Try.f61 (fun r' _ => r'.le (.lit (.bool r))) .ret st → Q .ret st) (fun s => Q (.exit 2) ⟨[(0, .arr (List.map Vl.Data.c w)), (3, .lit (.int .i64 (d : Int)))], []⟩) → ALoopU Try.prog B 0 67 (hold c .mk) ⟨[(0, .arr (List.map Vl.Data.c w)), (3, .lit (.int .i64 (d : Int))), (4, .lit (.int .i64 (k : Int)))], []⟩ (hold Q .mk))
  ?_
 ·intro _f_spec_WorldValid_l2 ih_spec_WorldValid_l2 k o hF
  intro c hc Q hq
  obtain rfl : c = _ := navEq hc rfl
  refine ALoopU.know fun hk hs => ?_
  have b0 := hk 0
  simp -dsimp at b0
  clear hk hs
  refine ALoopU.enter ?_
  have hF := ob hF; obtain ⟨x17, e18, hF⟩ := hF
  have le18 := lt_of_get e18
  repeat (first | refine chk.ga ?_ | simp -dsimp [↓e18])
  refine abr.split (fun h19 => ?_) (fun h19 => ?_)
  ·have q20 : (k < x17.ctors.length) := auq h19
   have z21 : ((k : Int) < (x17.ctors.length : Int)) := auz
   rw [if_pos q20] at hF
   have hF := ob hF; obtain ⟨x22, e23, hF⟩ := hF
   have le23 := lt_of_get e23
   repeat (first | refine chk.ga ?_ | simp -dsimp [↓e18, h19, z21, ↓e23])
   have hF := ob hF; obtain ⟨v24, e25, hF⟩ := hF
   refine ((C.spec_l1Ctor B hB1 hB2 (w.length : Int) x22 v24 e25)).goW (by first | simp [↓e18, h19, z21, ↓e23]; done | simp_all) (by simp) ?_
   repeat (first | refine chk.ga ?_ | simp -dsimp [↓e18, h19, z21, ↓e23])
   refine abr.split (fun h26 => ?_) (fun h26 => ?_)
   ·have q27 : (v24 = true) := auq h26
    rw [if_pos q27] at hF
    repeat (first | refine chk.ga ?_ | simp -dsimp [↓e18, h19, z21, ↓e23, h26])
    have hF := ob hF; obtain ⟨v28, e29, hF⟩ := hF
    refine ((C.spec_l1Twice B hB1 hB2 w (d : Int) (k : Int) v28 e29)).goW (by first | simp [↓e18, h19, z21, ↓e23, h26]; done | simp_all) (by simp) ?_
    repeat (first | refine chk.ga ?_ | simp -dsimp [↓e18, h19, z21, ↓e23, h26])
    refine abr.split (fun h30 => ?_) (fun h30 => ?_)
    ·have q31 : (v28 = true) := auq h30
     rw [if_pos q31] at hF
     cases hF
     repeat (first | refine chk.ga ?_ | simp -dsimp [↓e18, h19, z21, ↓e23, h26, h30])
     refine Leave.go _ (Gh.refl _) (hq _ ?_)
     repeat (first | refine chk.ga ?_ | simp -dsimp [↓e18, h19, z21, ↓e23, h26, h30])
    ·have q31 : ¬ (v28 = true) := auq h30
     rw [if_neg q31] at hF
     have hF := oc hF; obtain ⟨c32, hF⟩ := hF
     have w33 : IntKind.i64.wrap ((k : Int) + 1) = (k : Int) + 1 := wrap_in (by omega) (by omega)
     repeat (first | refine chk.ga ?_ | simp -dsimp [↓e18, h19, z21, ↓e23, h26, h30, q31, w33])
     refine Again.go ⟨[(0, .arr (List.map Vl.Data.c w)), (3, .lit (.int .i64 (d : Int))), (4, .lit (.int .i64 ((k + 1) : Int)))], []⟩ (Gh.to3 (by simp) (by first | simp -dsimp [↓e18, h19, z21, ↓e23, h26, h30, q31, w33]; done | simp_all)) ?_
     exact (ih_spec_WorldValid_l2 (k + 1) o hF) _ rfl _ hq
   ·have q27 : ¬ (v24 = true) := auq h26
    rw [if_neg q27] at hF
    cases hF
    repeat (first | refine chk.ga ?_ | simp -dsimp [↓e18, h19, z21, ↓e23, h26, q27])
    refine Leave.go _ (Gh.refl _) (hq _ ?_)
    repeat (first | refine chk.ga ?_ | simp -dsimp [↓e18, h19, z21, ↓e23, h26, q27])
  ·have q20 : ¬ (k < x17.ctors.length) := auq h19
   have z21 : ¬ ((k : Int) < (x17.ctors.length : Int)) := auz
   rw [if_neg q20] at hF
   cases hF
   repeat (first | refine chk.ga ?_ | simp -dsimp [↓e18, h19, q20, z21])
   refine Leave.go ⟨[(0, .arr (List.map Vl.Data.c w)), (3, .lit (.int .i64 (d : Int)))], []⟩ (Gh.to3 (by simp) (by first | simp -dsimp [↓e18, h19, q20, z21]; done | simp_all)) ?_
   exact hq

theorem C.spec_WorldValid_l2 (B : Nat) (hB1 : 67108864 ≤ B) (hB2 : B ≤ 9223372036854775807) (w : List Vl.Data) (d : Nat) (k : Nat) (o : Lo Bool Unit) (hF : F.spec_WorldValid_l2 w d k = some o) : ∀ (c : Code), navO [1, 1, 0, 1, 0, 0, 1, 0, 0, 1, 1, 0, 0] (bodyOf Try.f61) = some c → ∀ (Q : Exit → ASt → Prop), o.post (fun r => ∀ st, Post Try.prog Try.f61 (fun r' _ => r'.le (.lit (.bool r))) .ret st → Q .ret st) (fun s => Q (.exit 2) ⟨[(0, .arr (List.map Vl.Data.c w)), (3, .lit (.int .i64 (d : Int)))], []⟩) → ALoopU Try.prog B 0 67 (hold c .mk) ⟨[(0, .arr (List.map Vl.Data.c w)), (3, .lit (.int .i64 (d : Int))), (4, .lit (.int .i64 (k : Int)))], []⟩ (hold Q .mk) :=
 (CC.spec_WorldValid_l2 B hB1 hB2 w d) k o hF

set_option maxRecDepth 100000 in
set_option maxHeartbeats 4000000 in
theorem CC.spec_WorldValid_l1 (B : Nat) (hB1 : 67108864 ≤ B) (hB2 : B ≤ 9223372036854775807) (w : List Vl.Data) : (∀ (d : Nat) (o : Lo Bool Unit), F.spec_WorldValid_l1 w d = some o → ∀ (c : Code), navO [1, 1, 0, 1, 0, 0] (bodyOf Try.f61) = some c → ∀ (Q : Exit → ASt → Prop), o.post (fun r => ∀ st, Post Try.prog Try.f61 (fun r' _ => r'.le (.lit (.bool r))) .ret st → Q .ret st) (fun s => Q (.exit 0) ⟨[], []⟩) → ALoopU Try.prog B 0 67 (hold c .mk) ⟨[(0, .arr (List.map Vl.Data.c w)), (3, .lit (.int .i64 (d : Int)))], []⟩ (hold Q .mk)) := by
 refine F.spec_WorldValid_l1.partial_correctness w
  (fun d o => ∀ (c : Code), navO [1, 1, 0, 1, 0, 0] (bodyOf Try.f61) = some c → ∀ (Q : Exit → ASt → Prop), o.post (fun r => ∀ st, Post Try.prog Try.f61 (fun r' _ => r'.le (.lit (.bool r))) .ret st → Q .ret st) (fun s => Q (.exit 0) ⟨[], []⟩) → ALoopU Try.prog B 0 67 (hold c .mk) ⟨[(0, .arr (List.map Vl.Data.c w)), (3, .lit (.int .i64 (d : Int)))], []⟩ (hold Q .mk))
  ?_
 ·intro _f_spec_WorldValid_l1 ih_spec_WorldValid_l1 d o hF
  intro c hc Q hq
  obtain rfl : c = _ := navEq hc rfl
  refine ALoopU.know fun hk hs => ?_
  have b0 := hk 0
  simp -dsimp at b0
  clear hk hs
  refine ALoopU.enter ?_
  repeat (first | refine chk.ga ?_ | simp -dsimp)
  refine abr.split (fun h4 => ?_) (fun h4 => ?_)
  ·have q5 : (d < w.length) := auq h4
   have z6 : ((d : Int) < (w.length : Int)) := auz
   rw [if_pos q5] at hF
   have hF := ob hF; obtain ⟨x, e7, hF⟩ := hF
   have le7 := lt_of_get e7
   repeat (first | refine chk.ga ?_ | simp -dsimp [h4, z6, ↓e7])
   have hF := ob hF; obtain ⟨v, e8, hF⟩ := hF
   refine ((C.spec_l1Data B hB1 hB2 x.name v e8)).goW (by first | simp [h4, z6, ↓e7]; done | simp_all) (by simp) ?_
   repeat (first | refine chk.ga ?_ | simp -dsimp [h4, z6, ↓e7])
   refine abr.split (fun h9 => ?_) (fun h9 => ?_)
   ·have q10 : (v = true) := auq h9
    rw [if_pos q10] at hF
    repeat (first | refine chk.ga ?_ | simp -dsimp [h4, z6, ↓e7, h9])
    refine abr.split (fun h11 => ?_) (fun h11 => ?_)
    ·have q12 : ¬ (x.ctors.length = 0) := auq h11
     have z13 : ¬ ((x.ctors.length : Int) = (0 : Int)) := auz
     rw [if_neg q12] at hF
     repeat (first | refine chk.ga ?_ | simp -dsimp [h4, z6, ↓e7, h9, h11, q12, z13])
     refine abr.split (fun h14 => ?_) (fun h14 => ?_)
     ·have q15 : (4 < x.ctors.length) := auq h14
      have z16 : ((4 : Int) < (x.ctors.length : Int)) := auz
      rw [if_pos q15] at hF
      cases hF
      repeat (first | refine chk.ga ?_ | simp -dsimp [h4, z6, ↓e7, h9, h11, q12, z13, h14, z16])
      refine Leave.go _ (Gh.refl _) (hq _ ?_)
      repeat (first | refine chk.ga ?_ | simp -dsimp [h4, z6, ↓e7, h9, h11, q12, z13, h14, z16])
     ·have q15 : ¬ (4 < x.ctors.length) := auq h14
      have z16 : ¬ ((4 : Int) < (x.ctors.length : Int)) := auz
      rw [if_neg q15] at hF
      repeat (first | refine chk.ga ?_ | simp -dsimp [h4, z6, ↓e7, h9, h11, q12, z13, h14, q15, z16])
      have hF := ob hF; obtain ⟨o', ho34, hF⟩ := hF
      refine ALoop.goU ⟨[(0, .arr (List.map Vl.Data.c w)), (3, .lit (.int .i64 (d : Int))), (4, .lit (.int .i64 (0 : Int)))], []⟩ (Gh.to3 (by simp) (by first | simp -dsimp [h4, z6, ↓e7, h9, h11, q12, z13, h14, q15, z16]; done | simp_all)) ?_
      refine (C.spec_WorldValid_l2 B hB1 hB2 w d 0 o' ho34) _ rfl _ ?_
      rcases o' with r0 | sx
      ·dsimp only at hF
       cases hF
       intro st h
       simp -dsimp
       refine Leave.go st (Gh.refl _) (hq st h)
      ·dsimp only at hF
       have hF := oc hF; obtain ⟨c35, hF⟩ := hF
       have w36 : IntKind.i64.wrap ((d : Int) + 1) = (d : Int) + 1 := wrap_in (by omega) (by omega)
       repeat (first | refine chk.ga ?_ | simp -dsimp [w36])
       refine Again.go ⟨[(0, .arr (List.map Vl.Data.c w)), (3, .lit (.int .i64 ((d + 1) : Int)))], []⟩ (Gh.to3 (by simp) (by first | simp -dsimp [w36]; done | simp_all)) ?_
       exact (ih_spec_WorldValid_l1 (d + 1) o hF) _ rfl _ hq
    ·have q12 : (x.ctors.length = 0) := auq h11
     have z13 : ((x.ctors.length : Int) = (0 : Int)) := auz
     rw [if_pos q12] at hF
     cases hF
     repeat (first | refine chk.ga ?_ | simp -dsimp [h4, z6, ↓e7, h9, h11, q12, z13])
     refine Leave.go _ (Gh.refl _) (hq _ ?_)
     repeat (first | refine chk.ga ?_ | simp -dsimp [h4, z6, ↓e7, h9, h11, q12, z13])
   ·have q10 : ¬ (v = true) := auq h9
    rw [if_neg q10] at hF
    cases hF
    repeat (first | refine chk.ga ?_ | simp -dsimp [h4, z6, ↓e7, h9, q10])
    refine Leave.go _ (Gh.refl _) (hq _ ?_)
    repeat (first | refine chk.ga ?_ | simp -dsimp [h4, z6, ↓e7, h9, q10])
  ·have q5 : ¬ (d < w.length) := auq h4
   have z6 : ¬ ((d : Int) < (w.length : Int)) := auz
   rw [if_neg q5] at hF
   cases hF
   repeat (first | refine chk.ga ?_ | simp -dsimp [h4, q5, z6])
   refine Leave.go ⟨[], []⟩ (Gh.to3 (by simp) (by first | simp -dsimp [h4, q5, z6]; done | simp_all)) ?_
   exact hq

theorem C.spec_WorldValid_l1 (B : Nat) (hB1 : 67108864 ≤ B) (hB2 : B ≤ 9223372036854775807) (w : List Vl.Data) (d : Nat) (o : Lo Bool Unit) (hF : F.spec_WorldValid_l1 w d = some o) : ∀ (c : Code), navO [1, 1, 0, 1, 0, 0] (bodyOf Try.f61) = some c → ∀ (Q : Exit → ASt → Prop), o.post (fun r => ∀ st, Post Try.prog Try.f61 (fun r' _ => r'.le (.lit (.bool r))) .ret st → Q .ret st) (fun s => Q (.exit 0) ⟨[], []⟩) → ALoopU Try.prog B 0 67 (hold c .mk) ⟨[(0, .arr (List.map Vl.Data.c w)), (3, .lit (.int .i64 (d : Int)))], []⟩ (hold Q .mk) :=
 (CC.spec_WorldValid_l1 B hB1 hB2 w) d o hF

set_option maxRecDepth 100000 in
set_option maxHeartbeats 4000000 in
theorem C.spec_WorldValid (B : Nat) (hB1 : 67108864 ≤ B) (hB2 : B ≤ 9223372036854775807) (w : List Vl.Data) (r : Bool) (hF : F.spec_WorldValid w = some r) : PureCall Try.prog B 61 [.arr (List.map Vl.Data.c w)] (.lit (.bool r)) := by
 unfold F.spec_WorldValid at hF
 refine PureCall.enterLe Try.func61 (by kernel_rfl) rfl Try.ntmps61 (by simp) (by simp) ?_
 repeat (first | refine chk.ga ?_ | simp -dsimp)
 refine abr.split (fun h1 => ?_) (fun h1 => ?_)
 ·have q2 : (4 < w.length) := auq h1
  have z3 : ((4 : Int) < (w.length : Int)) := auz
  rw [if_pos q2] at hF
  cases hF
  repeat (first | refine chk.ga ?_ | simp -dsimp [h1, z3])
  all_goals (try omega)
 ·have q2 : ¬ (4 < w.length) := auq h1
  have z3 : ¬ ((4 : Int) < (w.length : Int)) := auz
  rw [if_neg q2] at hF
  repeat (first | refine chk.ga ?_ | simp -dsimp [h1, q2, z3])
  have hF := ob hF; obtain ⟨o'38, ho37, hF⟩ := hF
  refine ALoop.goU ⟨[(0, .arr (List.map Vl.Data.c w)), (3, .lit (.int .i64 (0 : Int)))], []⟩ (Gh.to3 (by simp) (by first | simp -dsimp [h1, q2, z3]; done | simp_all)) ?_
  refine (C.spec_WorldValid_l1 B hB1 hB2 w 0 o'38 ho37) _ rfl _ ?_
  rcases o'38 with r040 | sx39
  ·dsimp only at hF
   cases hF
   intro st h
   simpa using h
  ·dsimp only at hF
   cases hF
   repeat (first | refine chk.ga ?_ | simp -dsimp)
   all_goals (try omega)

set_option maxRecDepth 100000 in
set_option maxHeartbeats 4000000 in
theorem CC.spec_l17Dec_l1 (B : Nat) (hB1 : 67108864 ≤ B) (hB2 : B ≤ 9223372036854775807)  : (∀ (n7 : Int) (out : ByteArray) (o : Int × ByteArray), F.spec_l17Dec_l1 n7 out = some o → ∀ (c : Code), navO [1, 1, 1, 1, 0, 0, 0] (bodyOf Try.f124) = some c → ∀ (Q : Exit → ASt → Prop), Q (.exit 0) ⟨[(0, .lit (.int .i64 o.1)), (3, .lit (.string o.2))], []⟩ → ALoopU Try.prog B 0 31 (hold c .mk) ⟨[(0, .lit (.int .i64 n7)), (3, .lit (.string out))], []⟩ (hold Q .mk)) := by
 refine F.spec_l17Dec_l1.partial_correctness 
  (fun n7 out o => ∀ (c : Code), navO [1, 1, 1, 1, 0, 0, 0] (bodyOf Try.f124) = some c → ∀ (Q : Exit → ASt → Prop), Q (.exit 0) ⟨[(0, .lit (.int .i64 o.1)), (3, .lit (.string o.2))], []⟩ → ALoopU Try.prog B 0 31 (hold c .mk) ⟨[(0, .lit (.int .i64 n7)), (3, .lit (.string out))], []⟩ (hold Q .mk))
  ?_
 ·intro _f_spec_l17Dec_l1 ih_spec_l17Dec_l1 n7 out o hF
  intro c hc Q hq
  obtain rfl : c = _ := navEq hc rfl
  refine ALoopU.know fun hk hs => ?_
  clear hk hs
  refine ALoopU.enter ?_
  repeat (first | refine chk.ga ?_ | simp -dsimp)
  refine abr.split (fun h8 => ?_) (fun h8 => ?_)
  ·have q9 : (9 < n7) := auq h8
   rw [if_pos q9] at hF
   have hF := oc hF; obtain ⟨c10, hF⟩ := hF
   repeat (first | refine chk.ga ?_ | simp -dsimp [h8])
   refine Again.go ⟨[(0, .lit (.int .i64 (IntKind.i64.wrap (n7.tdiv 10)))), (3, .lit (.string ((strB [IntKind.u8.wrap (IntKind.i64.wrap (48 + n7.tmod 10))]) ++ out)))], []⟩ (Gh.to3 (by simp) (by first | simp -dsimp [h8]; done | simp_all)) ?_
   exact (ih_spec_l17Dec_l1 (IntKind.i64.wrap (n7.tdiv 10)) ((strB [IntKind.u8.wrap (IntKind.i64.wrap (48 + n7.tmod 10))]) ++ out) o hF) _ rfl _ hq
  ·have q9 : ¬ (9 < n7) := auq h8
   rw [if_neg q9] at hF
   cases hF
   repeat (first | refine chk.ga ?_ | simp -dsimp [h8, q9])
   refine Leave.go ⟨[(0, .lit (.int .i64 n7)), (3, .lit (.string out))], []⟩ (Gh.to3 (by simp) (by first | simp -dsimp [h8, q9]; done | simp_all)) ?_
   exact hq

theorem C.spec_l17Dec_l1 (B : Nat) (hB1 : 67108864 ≤ B) (hB2 : B ≤ 9223372036854775807) (n7 : Int) (out : ByteArray) (o : Int × ByteArray) (hF : F.spec_l17Dec_l1 n7 out = some o) : ∀ (c : Code), navO [1, 1, 1, 1, 0, 0, 0] (bodyOf Try.f124) = some c → ∀ (Q : Exit → ASt → Prop), Q (.exit 0) ⟨[(0, .lit (.int .i64 o.1)), (3, .lit (.string o.2))], []⟩ → ALoopU Try.prog B 0 31 (hold c .mk) ⟨[(0, .lit (.int .i64 n7)), (3, .lit (.string out))], []⟩ (hold Q .mk) :=
 (CC.spec_l17Dec_l1 B hB1 hB2 ) n7 out o hF

set_option maxRecDepth 100000 in
set_option maxHeartbeats 4000000 in
theorem CC.spec_l17Dec (B : Nat) (hB1 : 67108864 ≤ B) (hB2 : B ≤ 9223372036854775807)  : (∀ (n : Int) (r : ByteArray), F.spec_l17Dec n = some r → PureCall Try.prog B 124 [.lit (.int .i64 n)] (.lit (.string r))) := by
 refine F.spec_l17Dec.partial_correctness 
  (fun n r => PureCall Try.prog B 124 [.lit (.int .i64 n)] (.lit (.string r)))
  ?_
 ·intro _f_spec_l17Dec ih_spec_l17Dec n r hF
  refine PureCall.enterLe Try.func124 (by kernel_rfl) rfl Try.ntmps124 (by simp) (by simp) ?_
  repeat (first | refine chk.ga ?_ | simp -dsimp)
  refine abr.split (fun h1 => ?_) (fun h1 => ?_)
  ·have q2 : (n < (-9223372036854775807)) := auq h1
   rw [if_pos q2] at hF
   cases hF
   repeat (first | refine chk.ga ?_ | simp -dsimp [h1])
   all_goals (try omega)
  ·have q2 : ¬ (n < (-9223372036854775807)) := auq h1
   rw [if_neg q2] at hF
   repeat (first | refine chk.ga ?_ | simp -dsimp [h1, q2])
   refine abr.split (fun h3 => ?_) (fun h3 => ?_)
   ·have q4 : (n < 0) := auq h3
    rw [if_pos q4] at hF
    repeat (first | refine chk.ga ?_ | simp -dsimp [h1, q2, h3])
    have hF := ob hF; obtain ⟨v, e5, hF⟩ := hF
    refine ((ih_spec_l17Dec (IntKind.i64.wrap (0 - n)) v e5)).goW (by first | simp [h1, q2, h3]; done | simp_all) (by simp) ?_
    have hF := oc hF; obtain ⟨c6, hF⟩ := hF
    cases hF
    repeat (first | refine chk.ga ?_ | simp -dsimp [h1, q2, h3])
    all_goals (try omega)
   ·have q4 : ¬ (n < 0) := auq h3
    rw [if_neg q4] at hF
    repeat (first | refine chk.ga ?_ | simp -dsimp [h1, q2, h3, q4])
    have hF := ob hF; obtain ⟨o', ho11, hF⟩ := hF
    refine ALoop.goU ⟨[(0, .lit (.int .i64 n)), (3, .lit (.string ByteArray.empty))], []⟩ (Gh.to3 (by simp) (by first | simp -dsimp [h1, q2, h3, q4]; done | simp_all)) ?_
    refine (C.spec_l17Dec_l1 B hB1 hB2 n ByteArray.empty o' ho11) _ rfl _ ?_
    have hF := oc hF; obtain ⟨c12, hF⟩ := hF
    cases hF
    repeat (first | refine chk.ga ?_ | simp -dsimp)
    all_goals (try omega)

theorem C.spec_l17Dec (B : Nat) (hB1 : 67108864 ≤ B) (hB2 : B ≤ 9223372036854775807) (n : Int) (r : ByteArray) (hF : F.spec_l17Dec n = some r) : PureCall Try.prog B 124 [.lit (.int .i64 n)] (.lit (.string r)) :=
 (CC.spec_l17Dec B hB1 hB2 ) n r hF

set_option maxRecDepth 100000 in
set_option maxHeartbeats 4000000 in
theorem C.spec_l1Index (B : Nat) (hB1 : 67108864 ≤ B) (hB2 : B ≤ 9223372036854775807) (n : Int) (r : ByteArray) (hF : F.spec_l1Index n = some r) : PureCall Try.prog B 125 [.lit (.int .i64 n)] (.lit (.string r)) := by
 unfold F.spec_l1Index at hF
 refine PureCall.enterLe Try.func125 (by kernel_rfl) rfl Try.ntmps125 (by simp) (by simp) ?_
 repeat (first | refine chk.ga ?_ | simp -dsimp)
 refine abr.split (fun h1 => ?_) (fun h1 => ?_)
 ·have q2 : (n = 0) := auq h1
  rw [if_pos q2] at hF
  cases hF
  repeat (first | refine chk.ga ?_ | simp -dsimp [eq_true h1])
  all_goals (try omega)
 ·have q2 : ¬ (n = 0) := auq h1
  rw [if_neg q2] at hF
  repeat (first | refine chk.ga ?_ | simp -dsimp [h1, q2])
  refine abr.split (fun h3 => ?_) (fun h3 => ?_)
  ·have q4 : (n = (-1)) := auq h3
   rw [if_pos q4] at hF
   cases hF
   repeat (first | refine chk.ga ?_ | simp -dsimp [h1, q2, h3])
   all_goals (try omega)
  ·have q4 : ¬ (n = (-1)) := auq h3
   rw [if_neg q4] at hF
   repeat (first | refine chk.ga ?_ | simp -dsimp [h1, q2, h3, q4])
   have hF := ob hF; obtain ⟨v, e5, hF⟩ := hF
   refine ((C.spec_l17Dec B hB1 hB2 n v e5)).goW (by first | simp [h1, q2, h3, q4]; done | simp_all) (by simp) ?_
   cases hF
   repeat (first | refine chk.ga ?_ | simp -dsimp [h1, q2, h3, q4])
   all_goals (try omega)

set_option maxRecDepth 100000 in
set_option maxHeartbeats 4000000 in
theorem C.spec_l1Type (B : Nat) (hB1 : 67108864 ≤ B) (hB2 : B ≤ 9223372036854775807) (w : List Vl.Data) (t : Vl.Ty) (r : ByteArray) (hF : F.spec_l1Type w t = some r) : PureCall Try.prog B 123 [.arr (List.map Vl.Data.c w), .agg [.lit (.int .i64 t.data), .lit (.int .i64 t.index)]] (.lit (.string r)) := by
 unfold F.spec_l1Type at hF
 refine PureCall.enterLe Try.func123 (by kernel_rfl) rfl Try.ntmps123 (by simp) (by simp) ?_
 repeat (first | refine chk.ga ?_ | simp -dsimp)
 refine abr.split (fun h1 => ?_) (fun h1 => ?_)
 ·have q2 : (t.data = (-1)) := auq h1
  rw [if_pos q2] at hF
  cases hF
  repeat (first | refine chk.ga ?_ | simp -dsimp [h1])
  all_goals (try omega)
 ·have q2 : ¬ (t.data = (-1)) := auq h1
  rw [if_neg q2] at hF
  repeat (first | refine chk.ga ?_ | simp -dsimp [h1, q2])
  refine ADraw.simple follows (by kernel_rfl) (by kernel_rfl) ?_
  have hF := ob hF; obtain ⟨x, e3a, hF⟩ := hF
  have e3a := at_some e3a; obtain ⟨ne3, e3⟩ := e3a
  have le3 := lt_of_get e3
  repeat (first | refine chk.ga ?_ | simp -dsimp [h1, q2, ↓e3])
  have hF := ob hF; obtain ⟨v, e4, hF⟩ := hF
  refine ((C.spec_l1Index B hB1 hB2 t.index v e4)).pgoW (by first | simp [h1, q2, ↓e3]; done | simp_all) (by simp) ?_
  have hF := oc hF; obtain ⟨c5, hF⟩ := hF
  cases hF
  repeat (first | refine chk.ga ?_ | simp -dsimp [h1, q2, ↓e3])
  all_goals (try omega)

set_option maxRecDepth 100000 in
set_option maxHeartbeats 4000000 in
theorem CC.spec_l1CtorText_l1 (B : Nat) (hB1 : 67108864 ≤ B) (hB2 : B ≤ 9223372036854775807) (w : List Vl.Data) (c' : Vl.Ctor) : (∀ (out : ByteArray) (i : Nat) (o : ByteArray), F.spec_l1CtorText_l1 w c' out i = some o → ∀ (c : Code), navO [1, 1, 0, 1, 0, 0] (bodyOf Try.f118) = some c → ∀ (Q : Exit → ASt → Prop), Q (.exit 0) ⟨[(3, .ptr 0 0), (5, .lit (.string o))], [.cells [.lit (.string c'.name), .arr (List.map Vl.Ty.c c'.args), .lit (.int .i64 c'.index)]]⟩ → ALoopU Try.prog B 0 47 (hold c .mk) ⟨[(0, .arr (List.map Vl.Data.c w)), (3, .ptr 0 0), (5, .lit (.string out)), (6, .lit (.int .i64 (i : Int)))], [.cells [.lit (.string c'.name), .arr (List.map Vl.Ty.c c'.args), .lit (.int .i64 c'.index)]]⟩ (hold Q .mk)) := by
 refine F.spec_l1CtorText_l1.partial_correctness w c'
  (fun out i o => ∀ (c : Code), navO [1, 1, 0, 1, 0, 0] (bodyOf Try.f118) = some c → ∀ (Q : Exit → ASt → Prop), Q (.exit 0) ⟨[(3, .ptr 0 0), (5, .lit (.string o))], [.cells [.lit (.string c'.name), .arr (List.map Vl.Ty.c c'.args), .lit (.int .i64 c'.index)]]⟩ → ALoopU Try.prog B 0 47 (hold c .mk) ⟨[(0, .arr (List.map Vl.Data.c w)), (3, .ptr 0 0), (5, .lit (.string out)), (6, .lit (.int .i64 (i : Int)))], [.cells [.lit (.string c'.name), .arr (List.map Vl.Ty.c c'.args), .lit (.int .i64 c'.index)]]⟩ (hold Q .mk))
  ?_
 ·intro _f_spec_l1CtorText_l1 ih_spec_l1CtorText_l1 out i o hF
  intro c hc Q hq
  obtain rfl : c = _ := navEq hc rfl
  refine ALoopU.know fun hk hs => ?_
  have b0 := hk 0
  simp -dsimp at b0
  have d0 := hs 0 _ rfl
  simp -dsimp [Blk.bnd] at d0
  clear hk hs
  refine ALoopU.enter ?_
  repeat (first | refine chk.ga ?_ | simp -dsimp)
  refine abr.split (fun h1 => ?_) (fun h1 => ?_)
  ·have q2 : (i < c'.args.length) := auq h1
   have z3 : ((i : Int) < (c'.args.length : Int)) := auz
   rw [if_pos q2] at hF
   repeat (first | refine chk.ga ?_ | simp -dsimp [h1, z3])
   refine abr.split (fun h4 => ?_) (fun h4 => ?_)
   ·have q5 : (i = 0) := auq h4
    have z6 : ((i : Int) = (0 : Int)) := auz
    rw [if_pos q5] at hF
    have hF := oc hF; obtain ⟨c7, hF⟩ := hF
    have hF := ob hF; obtain ⟨x, e8, hF⟩ := hF
    have le8 := lt_of_get e8
    repeat (first | refine chk.ga ?_ | simp -dsimp [h1, z3, eq_true h4, eq_true z6, ↓e8])
    have hF := ob hF; obtain ⟨v, e9, hF⟩ := hF
    refine ((C.spec_l1Type B hB1 hB2 w x v e9)).goW (by first | simp [h1, z3, eq_true h4, eq_true z6, ↓e8]; done | simp_all) (by simp) ?_
    have hF := oc hF; obtain ⟨c10, hF⟩ := hF
    have w11 : IntKind.i64.wrap ((i : Int) + 1) = (i : Int) + 1 := wrap_in (by omega) (by omega)
    repeat (first | refine chk.ga ?_ | simp -dsimp [h1, z3, eq_true h4, eq_true z6, ↓e8, w11])
    refine Again.go ⟨[(0, .arr (List.map Vl.Data.c w)), (3, .ptr 0 0), (5, .lit (.string ((out ++ (⟨#[40]⟩ : ByteArray)) ++ v))), (6, .lit (.int .i64 ((i + 1) : Int)))], [.cells [.lit (.string c'.name), .arr (List.map Vl.Ty.c c'.args), .lit (.int .i64 c'.index)]]⟩ (Gh.to3 (by simp) (by first | simp -dsimp [h1, z3, eq_true h4, eq_true z6, ↓e8, w11]; done | simp_all)) ?_
    exact (ih_spec_l1CtorText_l1 ((out ++ (⟨#[40]⟩ : ByteArray)) ++ v) (i + 1) o hF) _ rfl _ hq
   ·have q5 : ¬ (i = 0) := auq h4
    have z6 : ¬ ((i : Int) = (0 : Int)) := auz
    rw [if_neg q5] at hF
    have hF := oc hF; obtain ⟨c12, hF⟩ := hF
    have hF := ob hF; obtain ⟨x13, e14, hF⟩ := hF
    have le14 := lt_of_get e14
    repeat (first | refine chk.ga ?_ | simp -dsimp [h1, z3, h4, q5, z6, ↓e14])
    have hF := ob hF; obtain ⟨v15, e16, hF⟩ := hF
    refine ((C.spec_l1Type B hB1 hB2 w x13 v15 e16)).goW (by first | simp [h1, z3, h4, q5, z6, ↓e14]; done | simp_all) (by simp) ?_
    have hF := oc hF; obtain ⟨c17, hF⟩ := hF
    have w18 : IntKind.i64.wrap ((i : Int) + 1) = (i : Int) + 1 := wrap_in (by omega) (by omega)
    repeat (first | refine chk.ga ?_ | simp -dsimp [h1, z3, h4, q5, z6, ↓e14, w18])
    refine Again.go ⟨[(0, .arr (List.map Vl.Data.c w)), (3, .ptr 0 0), (5, .lit (.string ((out ++ (⟨#[44]⟩ : ByteArray)) ++ v15))), (6, .lit (.int .i64 ((i + 1) : Int)))], [.cells [.lit (.string c'.name), .arr (List.map Vl.Ty.c c'.args), .lit (.int .i64 c'.index)]]⟩ (Gh.to3 (by simp) (by first | simp -dsimp [h1, z3, h4, q5, z6, ↓e14, w18]; done | simp_all)) ?_
    exact (ih_spec_l1CtorText_l1 ((out ++ (⟨#[44]⟩ : ByteArray)) ++ v15) (i + 1) o hF) _ rfl _ hq
  ·have q2 : ¬ (i < c'.args.length) := auq h1
   have z3 : ¬ ((i : Int) < (c'.args.length : Int)) := auz
   rw [if_neg q2] at hF
   cases hF
   repeat (first | refine chk.ga ?_ | simp -dsimp [h1, q2, z3])
   refine Leave.go ⟨[(3, .ptr 0 0), (5, .lit (.string out))], [.cells [.lit (.string c'.name), .arr (List.map Vl.Ty.c c'.args), .lit (.int .i64 c'.index)]]⟩ (Gh.to3 (by simp) (by first | simp -dsimp [h1, q2, z3]; done | simp_all)) ?_
   exact hq

theorem C.spec_l1CtorText_l1 (B : Nat) (hB1 : 67108864 ≤ B) (hB2 : B ≤ 9223372036854775807) (w : List Vl.Data) (c' : Vl.Ctor) (out : ByteArray) (i : Nat) (o : ByteArray) (hF : F.spec_l1CtorText_l1 w c' out i = some o) : ∀ (c : Code), navO [1, 1, 0, 1, 0, 0] (bodyOf Try.f118) = some c → ∀ (Q : Exit → ASt → Prop), Q (.exit 0) ⟨[(3, .ptr 0 0), (5, .lit (.string o))], [.cells [.lit (.string c'.name), .arr (List.map Vl.Ty.c c'.args), .lit (.int .i64 c'.index)]]⟩ → ALoopU Try.prog B 0 47 (hold c .mk) ⟨[(0, .arr (List.map Vl.Data.c w)), (3, .ptr 0 0), (5, .lit (.string out)), (6, .lit (.int .i64 (i : Int)))], [.cells [.lit (.string c'.name), .arr (List.map Vl.Ty.c c'.args), .lit (.int .i64 c'.index)]]⟩ (hold Q .mk) :=
 (CC.spec_l1CtorText_l1 B hB1 hB2 w c') out i o hF

set_option maxRecDepth 100000 in
set_option maxHeartbeats 4000000 in
theorem C.spec_l1CtorText (B : Nat) (hB1 : 67108864 ≤ B) (hB2 : B ≤ 9223372036854775807) (w : List Vl.Data) (c' : Vl.Ctor) (r : ByteArray) (hF : F.spec_l1CtorText w c' = some r) : PureCall Try.prog B 118 [.arr (List.map Vl.Data.c w), .agg [.lit (.string c'.name), .arr (List.map Vl.Ty.c c'.args), .lit (.int .i64 c'.index)]] (.lit (.string r)) := by
 unfold F.spec_l1CtorText at hF
 refine PureCall.enterLe Try.func118 (by kernel_rfl) rfl Try.ntmps118 (by simp) (by simp) ?_
 repeat (first | refine chk.ga ?_ | simp -dsimp)
 have hF := ob hF; obtain ⟨o', ho19, hF⟩ := hF
 refine ALoop.goU ⟨[(0, .arr (List.map Vl.Data.c w)), (3, .ptr 0 0), (5, .lit (.string c'.name)), (6, .lit (.int .i64 (0 : Int)))], [.cells [.lit (.string c'.name), .arr (List.map Vl.Ty.c c'.args), .lit (.int .i64 c'.index)]]⟩ (Gh.to3 (by simp) (by simp -dsimp)) ?_
 refine (C.spec_l1CtorText_l1 B hB1 hB2 w c' c'.name 0 o' ho19) _ rfl _ ?_
 repeat (first | refine chk.ga ?_ | simp -dsimp)
 refine abr.split (fun h20 => ?_) (fun h20 => ?_)
 ·have q21 : (0 < c'.args.length) := auq h20
  have z22 : ((0 : Int) < (c'.args.length : Int)) := auz
  rw [if_pos q21] at hF
  have hF := oc hF; obtain ⟨c23, hF⟩ := hF
  repeat (first | refine chk.ga ?_ | simp -dsimp [h20, z22])
  refine abr.split (fun h24 => ?_) (fun h24 => ?_)
  ·have q25 : (0 < c'.index) := auq h24
   rw [if_pos q25] at hF
   have hF := oc hF; obtain ⟨c26, hF⟩ := hF
   repeat (first | refine chk.ga ?_ | simp -dsimp [h20, z22, h24])
   have hF := ob hF; obtain ⟨v27, e28, hF⟩ := hF
   refine ((C.spec_l17Dec B hB1 hB2 c'.index v27 e28)).goW (by first | simp [h20, z22, h24]; done | simp_all) (by simp) ?_
   have hF := oc hF; obtain ⟨c29, hF⟩ := hF
   cases hF
   repeat (first | refine chk.ga ?_ | simp -dsimp [h20, z22, h24])
   all_goals (try omega)
  ·have q25 : ¬ (0 < c'.index) := auq h24
   rw [if_neg q25] at hF
   cases hF
   repeat (first | refine chk.ga ?_ | simp -dsimp [h20, z22, h24, q25])
   all_goals (try omega)
 ·have q21 : ¬ (0 < c'.args.length) := auq h20
  have z22 : ¬ ((0 : Int) < (c'.args.length : Int)) := auz
  rw [if_neg q21] at hF
  repeat (first | refine chk.ga ?_ | simp -dsimp [h20, q21, z22])
  refine abr.split (fun h30 => ?_) (fun h30 => ?_)
  ·have q31 : (0 < c'.index) := auq h30
   rw [if_pos q31] at hF
   have hF := oc hF; obtain ⟨c32, hF⟩ := hF
   repeat (first | refine chk.ga ?_ | simp -dsimp [h20, q21, z22, h30])
   have hF := ob hF; obtain ⟨v33, e34, hF⟩ := hF
   refine ((C.spec_l17Dec B hB1 hB2 c'.index v33 e34)).goW (by first | simp [h20, q21, z22, h30]; done | simp_all) (by simp) ?_
   have hF := oc hF; obtain ⟨c35, hF⟩ := hF
   cases hF
   repeat (first | refine chk.ga ?_ | simp -dsimp [h20, q21, z22, h30])
   all_goals (try omega)
  ·have q31 : ¬ (0 < c'.index) := auq h30
   rw [if_neg q31] at hF
   cases hF
   repeat (first | refine chk.ga ?_ | simp -dsimp [h20, q21, z22, h30, q31])
   all_goals (try omega)

set_option maxRecDepth 100000 in
set_option maxHeartbeats 4000000 in
theorem CC.spec_l1Text_l2 (B : Nat) (hB1 : 67108864 ≤ B) (hB2 : B ≤ 9223372036854775807) (w : List Vl.Data) (d : Nat) : (∀ (out11 : ByteArray) (k : Nat) (o : ByteArray), F.spec_l1Text_l2 w d out11 k = some o → ∀ (c : Code), navO [1, 1, 0, 1, 0, 0, 1, 0, 0, 1, 1, 1, 0, 0] (bodyOf Try.f106) = some c → ∀ (Q : Exit → ASt → Prop), Q (.exit 2) ⟨[(0, .arr (List.map Vl.Data.c w)), (3, .lit (.string o)), (4, .lit (.int .i64 (d : Int)))], []⟩ → ALoopU Try.prog B 0 51 (hold c .mk) ⟨[(0, .arr (List.map Vl.Data.c w)), (3, .lit (.string out11)), (4, .lit (.int .i64 (d : Int))), (5, .lit (.int .i64 (k : Int)))], []⟩ (hold Q .mk)) := by
 refine F.spec_l1Text_l2.partial_correctness w d
  (fun out11 k o => ∀ (c : Code), navO [1, 1, 0, 1, 0, 0, 1, 0, 0, 1, 1, 1, 0, 0] (bodyOf Try.f106) = some c → ∀ (Q : Exit → ASt → Prop), Q (.exit 2) ⟨[(0, .arr (List.map Vl.Data.c w)), (3, .lit (.string o)), (4, .lit (.int .i64 (d : Int)))], []⟩ → ALoopU Try.prog B 0 51 (hold c .mk) ⟨[(0, .arr (List.map Vl.Data.c w)), (3, .lit (.string out11)), (4, .lit (.int .i64 (d : Int))), (5, .lit (.int .i64 (k : Int)))], []⟩ (hold Q .mk))
  ?_
 ·intro _f_spec_l1Text_l2 ih_spec_l1Text_l2 out11 k o hF
  intro c hc Q hq
  obtain rfl : c = _ := navEq hc rfl
  refine ALoopU.know fun hk hs => ?_
  have b0 := hk 0
  simp -dsimp at b0
  clear hk hs
  refine ALoopU.enter ?_
  have hF := ob hF; obtain ⟨x12, e13, hF⟩ := hF
  have le13 := lt_of_get e13
  repeat (first | refine chk.ga ?_ | simp -dsimp [↓e13])
  refine abr.split (fun h14 => ?_) (fun h14 => ?_)
  ·have q15 : (k < x12.ctors.length) := auq h14
   have z16 : ((k : Int) < (x12.ctors.length : Int)) := auz
   rw [if_pos q15] at hF
   repeat (first | refine chk.ga ?_ | simp -dsimp [↓e13, h14, z16])
   refine abr.split (fun h17 => ?_) (fun h17 => ?_)
   ·have q18 : (0 < k) := auq h17
    have z19 : ((0 : Int) < (k : Int)) := auz
    rw [if_pos q18] at hF
    have hF := oc hF; obtain ⟨c20, hF⟩ := hF
    have hF := ob hF; obtain ⟨x21, e22, hF⟩ := hF
    have le22 := lt_of_get e22
    repeat (first | refine chk.ga ?_ | simp -dsimp [↓e13, h14, z16, h17, z19, ↓e22])
    have hF := ob hF; obtain ⟨v, e23, hF⟩ := hF
    refine ((C.spec_l1CtorText B hB1 hB2 w x21 v e23)).goW (by first | simp [↓e13, h14, z16, h17, z19, ↓e22]; done | simp_all) (by simp) ?_
    have hF := oc hF; obtain ⟨c24, hF⟩ := hF
    have hF := oc hF; obtain ⟨c25, hF⟩ := hF
    have w26 : IntKind.i64.wrap ((k : Int) + 1) = (k : Int) + 1 := wrap_in (by omega) (by omega)
    repeat (first | refine chk.ga ?_ | simp -dsimp [↓e13, h14, z16, h17, z19, ↓e22, w26])
    refine Again.go ⟨[(0, .arr (List.map Vl.Data.c w)), (3, .lit (.string ((out11 ++ (⟨#[124]⟩ : ByteArray)) ++ v))), (4, .lit (.int .i64 (d : Int))), (5, .lit (.int .i64 ((k + 1) : Int)))], []⟩ (Gh.to3 (by simp) (by first | simp -dsimp [↓e13, h14, z16, h17, z19, ↓e22, w26]; done | simp_all)) ?_
    exact (ih_spec_l1Text_l2 ((out11 ++ (⟨#[124]⟩ : ByteArray)) ++ v) (k + 1) o hF) _ rfl _ hq
   ·have q18 : ¬ (0 < k) := auq h17
    have z19 : ¬ ((0 : Int) < (k : Int)) := auz
    rw [if_neg q18] at hF
    have hF := ob hF; obtain ⟨x27, e28, hF⟩ := hF
    have le28 := lt_of_get e28
    repeat (first | refine chk.ga ?_ | simp -dsimp [↓e13, h14, z16, h17, q18, z19, ↓e28])
    have hF := ob hF; obtain ⟨v29, e30, hF⟩ := hF
    refine ((C.spec_l1CtorText B hB1 hB2 w x27 v29 e30)).goW (by first | simp [↓e13, h14, z16, h17, q18, z19, ↓e28]; done | simp_all) (by simp) ?_
    have hF := oc hF; obtain ⟨c31, hF⟩ := hF
    have hF := oc hF; obtain ⟨c32, hF⟩ := hF
    have w33 : IntKind.i64.wrap ((k : Int) + 1) = (k : Int) + 1 := wrap_in (by omega) (by omega)
    repeat (first | refine chk.ga ?_ | simp -dsimp [↓e13, h14, z16, h17, q18, z19, ↓e28, w33])
    refine Again.go ⟨[(0, .arr (List.map Vl.Data.c w)), (3, .lit (.string (out11 ++ v29))), (4, .lit (.int .i64 (d : Int))), (5, .lit (.int .i64 ((k + 1) : Int)))], []⟩ (Gh.to3 (by simp) (by first | simp -dsimp [↓e13, h14, z16, h17, q18, z19, ↓e28, w33]; done | simp_all)) ?_
    exact (ih_spec_l1Text_l2 (out11 ++ v29) (k + 1) o hF) _ rfl _ hq
  ·have q15 : ¬ (k < x12.ctors.length) := auq h14
   have z16 : ¬ ((k : Int) < (x12.ctors.length : Int)) := auz
   rw [if_neg q15] at hF
   cases hF
   repeat (first | refine chk.ga ?_ | simp -dsimp [↓e13, h14, q15, z16])
   refine Leave.go ⟨[(0, .arr (List.map Vl.Data.c w)), (3, .lit (.string out11)), (4, .lit (.int .i64 (d : Int)))], []⟩ (Gh.to3 (by simp) (by first | simp -dsimp [↓e13, h14, q15, z16]; done | simp_all)) ?_
   exact hq

theorem C.spec_l1Text_l2 (B : Nat) (hB1 : 67108864 ≤ B) (hB2 : B ≤ 9223372036854775807) (w : List Vl.Data) (d : Nat) (out11 : ByteArray) (k : Nat) (o : ByteArray) (hF : F.spec_l1Text_l2 w d out11 k = some o) : ∀ (c : Code), navO [1, 1, 0, 1, 0, 0, 1, 0, 0, 1, 1, 1, 0, 0] (bodyOf Try.f106) = some c → ∀ (Q : Exit → ASt → Prop), Q (.exit 2) ⟨[(0, .arr (List.map Vl.Data.c w)), (3, .lit (.string o)), (4, .lit (.int .i64 (d : Int)))], []⟩ → ALoopU Try.prog B 0 51 (hold c .mk) ⟨[(0, .arr (List.map Vl.Data.c w)), (3, .lit (.string out11)), (4, .lit (.int .i64 (d : Int))), (5, .lit (.int .i64 (k : Int)))], []⟩ (hold Q .mk) :=
 (CC.spec_l1Text_l2 B hB1 hB2 w d) out11 k o hF

set_option maxRecDepth 100000 in
set_option maxHeartbeats 4000000 in
theorem CC.spec_l1Text_l3 (B : Nat) (hB1 : 67108864 ≤ B) (hB2 : B ≤ 9223372036854775807) (w : List Vl.Data) (d : Nat) : (∀ (out41 : ByteArray) (k42 : Nat) (o : ByteArray), F.spec_l1Text_l3 w d out41 k42 = some o → ∀ (c : Code), navO [1, 1, 0, 1, 0, 0, 1, 0, 0, 1, 1, 1, 0, 0] (bodyOf Try.f106) = some c → ∀ (Q : Exit → ASt → Prop), Q (.exit 2) ⟨[(0, .arr (List.map Vl.Data.c w)), (3, .lit (.string o)), (4, .lit (.int .i64 (d : Int)))], []⟩ → ALoopU Try.prog B 0 51 (hold c .mk) ⟨[(0, .arr (List.map Vl.Data.c w)), (3, .lit (.string out41)), (4, .lit (.int .i64 (d : Int))), (5, .lit (.int .i64 (k42 : Int)))], []⟩ (hold Q .mk)) := by
 refine F.spec_l1Text_l3.partial_correctness w d
  (fun out41 k42 o => ∀ (c : Code), navO [1, 1, 0, 1, 0, 0, 1, 0, 0, 1, 1, 1, 0, 0] (bodyOf Try.f106) = some c → ∀ (Q : Exit → ASt → Prop), Q (.exit 2) ⟨[(0, .arr (List.map Vl.Data.c w)), (3, .lit (.string o)), (4, .lit (.int .i64 (d : Int)))], []⟩ → ALoopU Try.prog B 0 51 (hold c .mk) ⟨[(0, .arr (List.map Vl.Data.c w)), (3, .lit (.string out41)), (4, .lit (.int .i64 (d : Int))), (5, .lit (.int .i64 (k42 : Int)))], []⟩ (hold Q .mk))
  ?_
 ·intro _f_spec_l1Text_l3 ih_spec_l1Text_l3 out41 k42 o hF
  intro c hc Q hq
  obtain rfl : c = _ := navEq hc rfl
  refine ALoopU.know fun hk hs => ?_
  have b0 := hk 0
  simp -dsimp at b0
  clear hk hs
  refine ALoopU.enter ?_
  have hF := ob hF; obtain ⟨x43, e44, hF⟩ := hF
  have le44 := lt_of_get e44
  repeat (first | refine chk.ga ?_ | simp -dsimp [↓e44])
  refine abr.split (fun h45 => ?_) (fun h45 => ?_)
  ·have q46 : (k42 < x43.ctors.length) := auq h45
   have z47 : ((k42 : Int) < (x43.ctors.length : Int)) := auz
   rw [if_pos q46] at hF
   repeat (first | refine chk.ga ?_ | simp -dsimp [↓e44, h45, z47])
   refine abr.split (fun h48 => ?_) (fun h48 => ?_)
   ·have q49 : (0 < k42) := auq h48
    have z50 : ((0 : Int) < (k42 : Int)) := auz
    rw [if_pos q49] at hF
    have hF := oc hF; obtain ⟨c51, hF⟩ := hF
    have hF := ob hF; obtain ⟨x52, e53, hF⟩ := hF
    have le53 := lt_of_get e53
    repeat (first | refine chk.ga ?_ | simp -dsimp [↓e44, h45, z47, h48, z50, ↓e53])
    have hF := ob hF; obtain ⟨v54, e55, hF⟩ := hF
    refine ((C.spec_l1CtorText B hB1 hB2 w x52 v54 e55)).goW (by first | simp [↓e44, h45, z47, h48, z50, ↓e53]; done | simp_all) (by simp) ?_
    have hF := oc hF; obtain ⟨c56, hF⟩ := hF
    have hF := oc hF; obtain ⟨c57, hF⟩ := hF
    have w58 : IntKind.i64.wrap ((k42 : Int) + 1) = (k42 : Int) + 1 := wrap_in (by omega) (by omega)
    repeat (first | refine chk.ga ?_ | simp -dsimp [↓e44, h45, z47, h48, z50, ↓e53, w58])
    refine Again.go ⟨[(0, .arr (List.map Vl.Data.c w)), (3, .lit (.string ((out41 ++ (⟨#[124]⟩ : ByteArray)) ++ v54))), (4, .lit (.int .i64 (d : Int))), (5, .lit (.int .i64 ((k42 + 1) : Int)))], []⟩ (Gh.to3 (by simp) (by first | simp -dsimp [↓e44, h45, z47, h48, z50, ↓e53, w58]; done | simp_all)) ?_
    exact (ih_spec_l1Text_l3 ((out41 ++ (⟨#[124]⟩ : ByteArray)) ++ v54) (k42 + 1) o hF) _ rfl _ hq
   ·have q49 : ¬ (0 < k42) := auq h48
    have z50 : ¬ ((0 : Int) < (k42 : Int)) := auz
    rw [if_neg q49] at hF
    have hF := ob hF; obtain ⟨x59, e60, hF⟩ := hF
    have le60 := lt_of_get e60
    repeat (first | refine chk.ga ?_ | simp -dsimp [↓e44, h45, z47, h48, q49, z50, ↓e60])
    have hF := ob hF; obtain ⟨v61, e62, hF⟩ := hF
    refine ((C.spec_l1CtorText B hB1 hB2 w x59 v61 e62)).goW (by first | simp [↓e44, h45, z47, h48, q49, z50, ↓e60]; done | simp_all) (by simp) ?_
    have hF := oc hF; obtain ⟨c63, hF⟩ := hF
    have hF := oc hF; obtain ⟨c64, hF⟩ := hF
    have w65 : IntKind.i64.wrap ((k42 : Int) + 1) = (k42 : Int) + 1 := wrap_in (by omega) (by omega)
    repeat (first | refine chk.ga ?_ | simp -dsimp [↓e44, h45, z47, h48, q49, z50, ↓e60, w65])
    refine Again.go ⟨[(0, .arr (List.map Vl.Data.c w)), (3, .lit (.string (out41 ++ v61))), (4, .lit (.int .i64 (d : Int))), (5, .lit (.int .i64 ((k42 + 1) : Int)))], []⟩ (Gh.to3 (by simp) (by first | simp -dsimp [↓e44, h45, z47, h48, q49, z50, ↓e60, w65]; done | simp_all)) ?_
    exact (ih_spec_l1Text_l3 (out41 ++ v61) (k42 + 1) o hF) _ rfl _ hq
  ·have q46 : ¬ (k42 < x43.ctors.length) := auq h45
   have z47 : ¬ ((k42 : Int) < (x43.ctors.length : Int)) := auz
   rw [if_neg q46] at hF
   cases hF
   repeat (first | refine chk.ga ?_ | simp -dsimp [↓e44, h45, q46, z47])
   refine Leave.go ⟨[(0, .arr (List.map Vl.Data.c w)), (3, .lit (.string out41)), (4, .lit (.int .i64 (d : Int)))], []⟩ (Gh.to3 (by simp) (by first | simp -dsimp [↓e44, h45, q46, z47]; done | simp_all)) ?_
   exact hq

theorem C.spec_l1Text_l3 (B : Nat) (hB1 : 67108864 ≤ B) (hB2 : B ≤ 9223372036854775807) (w : List Vl.Data) (d : Nat) (out41 : ByteArray) (k42 : Nat) (o : ByteArray) (hF : F.spec_l1Text_l3 w d out41 k42 = some o) : ∀ (c : Code), navO [1, 1, 0, 1, 0, 0, 1, 0, 0, 1, 1, 1, 0, 0] (bodyOf Try.f106) = some c → ∀ (Q : Exit → ASt → Prop), Q (.exit 2) ⟨[(0, .arr (List.map Vl.Data.c w)), (3, .lit (.string o)), (4, .lit (.int .i64 (d : Int)))], []⟩ → ALoopU Try.prog B 0 51 (hold c .mk) ⟨[(0, .arr (List.map Vl.Data.c w)), (3, .lit (.string out41)), (4, .lit (.int .i64 (d : Int))), (5, .lit (.int .i64 (k42 : Int)))], []⟩ (hold Q .mk) :=
 (CC.spec_l1Text_l3 B hB1 hB2 w d) out41 k42 o hF

set_option maxRecDepth 100000 in
set_option maxHeartbeats 4000000 in
theorem CC.spec_l1Text_l1 (B : Nat) (hB1 : 67108864 ≤ B) (hB2 : B ≤ 9223372036854775807) (w : List Vl.Data) : (∀ (out : ByteArray) (d : Nat) (o : ByteArray), F.spec_l1Text_l1 w out d = some o → ∀ (c : Code), navO [1, 1, 0, 1, 0, 0] (bodyOf Try.f106) = some c → ∀ (Q : Exit → ASt → Prop), Q (.exit 0) ⟨[(3, .lit (.string o))], []⟩ → ALoopU Try.prog B 0 51 (hold c .mk) ⟨[(0, .arr (List.map Vl.Data.c w)), (3, .lit (.string out)), (4, .lit (.int .i64 (d : Int)))], []⟩ (hold Q .mk)) := by
 refine F.spec_l1Text_l1.partial_correctness w
  (fun out d o => ∀ (c : Code), navO [1, 1, 0, 1, 0, 0] (bodyOf Try.f106) = some c → ∀ (Q : Exit → ASt → Prop), Q (.exit 0) ⟨[(3, .lit (.string o))], []⟩ → ALoopU Try.prog B 0 51 (hold c .mk) ⟨[(0, .arr (List.map Vl.Data.c w)), (3, .lit (.string out)), (4, .lit (.int .i64 (d : Int)))], []⟩ (hold Q .mk))
  ?_
 ·intro _f_spec_l1Text_l1 ih_spec_l1Text_l1 out d o hF
  intro c hc Q hq
  obtain rfl : c = _ := navEq hc rfl
  refine ALoopU.know fun hk hs => ?_
  have b0 := hk 0
  simp -dsimp at b0
  clear hk hs
  refine ALoopU.enter ?_
  repeat (first | refine chk.ga ?_ | simp -dsimp)
  refine abr.split (fun h1 => ?_) (fun h1 => ?_)
  ·have q2 : (d < w.length) := auq h1
   have z3 : ((d : Int) < (w.length : Int)) := auz
   rw [if_pos q2] at hF
   repeat (first | refine chk.ga ?_ | simp -dsimp [h1, z3])
   refine abr.split (fun h4 => ?_) (fun h4 => ?_)
   ·have q5 : (0 < d) := auq h4
    have z6 : ((0 : Int) < (d : Int)) := auz
    rw [if_pos q5] at hF
    have hF := oc hF; obtain ⟨c7, hF⟩ := hF
    have hF := ob hF; obtain ⟨x, e8, hF⟩ := hF
    have le8 := lt_of_get e8
    have hF := oc hF; obtain ⟨c9, hF⟩ := hF
    have hF := oc hF; obtain ⟨c10, hF⟩ := hF
    repeat (first | refine chk.ga ?_ | simp -dsimp [h1, z3, h4, z6, ↓e8])
    have hF := ob hF; obtain ⟨o', ho34, hF⟩ := hF
    refine ALoop.goU ⟨[(0, .arr (List.map Vl.Data.c w)), (3, .lit (.string (((out ++ (⟨#[59]⟩ : ByteArray)) ++ x.name) ++ (⟨#[61]⟩ : ByteArray)))), (4, .lit (.int .i64 (d : Int))), (5, .lit (.int .i64 (0 : Int)))], []⟩ (Gh.to3 (by simp) (by first | simp -dsimp [h1, z3, h4, z6, ↓e8]; done | simp_all)) ?_
    refine (C.spec_l1Text_l2 B hB1 hB2 w d (((out ++ (⟨#[59]⟩ : ByteArray)) ++ x.name) ++ (⟨#[61]⟩ : ByteArray)) 0 o' ho34) _ rfl _ ?_
    have hF := oc hF; obtain ⟨c35, hF⟩ := hF
    have w36 : IntKind.i64.wrap ((d : Int) + 1) = (d : Int) + 1 := wrap_in (by omega) (by omega)
    repeat (first | refine chk.ga ?_ | simp -dsimp [w36])
    refine Again.go ⟨[(0, .arr (List.map Vl.Data.c w)), (3, .lit (.string o')), (4, .lit (.int .i64 ((d + 1) : Int)))], []⟩ (Gh.to3 (by simp) (by first | simp -dsimp [w36]; done | simp_all)) ?_
    exact (ih_spec_l1Text_l1 o' (d + 1) o hF) _ rfl _ hq
   ·have q5 : ¬ (0 < d) := auq h4
    have z6 : ¬ ((0 : Int) < (d : Int)) := auz
    rw [if_neg q5] at hF
    have hF := ob hF; obtain ⟨x37, e38, hF⟩ := hF
    have le38 := lt_of_get e38
    have hF := oc hF; obtain ⟨c39, hF⟩ := hF
    have hF := oc hF; obtain ⟨c40, hF⟩ := hF
    repeat (first | refine chk.ga ?_ | simp -dsimp [h1, z3, h4, q5, z6, ↓e38])
    have hF := ob hF; obtain ⟨o'67, ho66, hF⟩ := hF
    refine ALoop.goU ⟨[(0, .arr (List.map Vl.Data.c w)), (3, .lit (.string ((out ++ x37.name) ++ (⟨#[61]⟩ : ByteArray)))), (4, .lit (.int .i64 (d : Int))), (5, .lit (.int .i64 (0 : Int)))], []⟩ (Gh.to3 (by simp) (by first | simp -dsimp [h1, z3, h4, q5, z6, ↓e38]; done | simp_all)) ?_
    refine (C.spec_l1Text_l3 B hB1 hB2 w d ((out ++ x37.name) ++ (⟨#[61]⟩ : ByteArray)) 0 o'67 ho66) _ rfl _ ?_
    have hF := oc hF; obtain ⟨c68, hF⟩ := hF
    have w69 : IntKind.i64.wrap ((d : Int) + 1) = (d : Int) + 1 := wrap_in (by omega) (by omega)
    repeat (first | refine chk.ga ?_ | simp -dsimp [w69])
    refine Again.go ⟨[(0, .arr (List.map Vl.Data.c w)), (3, .lit (.string o'67)), (4, .lit (.int .i64 ((d + 1) : Int)))], []⟩ (Gh.to3 (by simp) (by first | simp -dsimp [w69]; done | simp_all)) ?_
    exact (ih_spec_l1Text_l1 o'67 (d + 1) o hF) _ rfl _ hq
  ·have q2 : ¬ (d < w.length) := auq h1
   have z3 : ¬ ((d : Int) < (w.length : Int)) := auz
   rw [if_neg q2] at hF
   cases hF
   repeat (first | refine chk.ga ?_ | simp -dsimp [h1, q2, z3])
   refine Leave.go ⟨[(3, .lit (.string out))], []⟩ (Gh.to3 (by simp) (by first | simp -dsimp [h1, q2, z3]; done | simp_all)) ?_
   exact hq

theorem C.spec_l1Text_l1 (B : Nat) (hB1 : 67108864 ≤ B) (hB2 : B ≤ 9223372036854775807) (w : List Vl.Data) (out : ByteArray) (d : Nat) (o : ByteArray) (hF : F.spec_l1Text_l1 w out d = some o) : ∀ (c : Code), navO [1, 1, 0, 1, 0, 0] (bodyOf Try.f106) = some c → ∀ (Q : Exit → ASt → Prop), Q (.exit 0) ⟨[(3, .lit (.string o))], []⟩ → ALoopU Try.prog B 0 51 (hold c .mk) ⟨[(0, .arr (List.map Vl.Data.c w)), (3, .lit (.string out)), (4, .lit (.int .i64 (d : Int)))], []⟩ (hold Q .mk) :=
 (CC.spec_l1Text_l1 B hB1 hB2 w) out d o hF

set_option maxRecDepth 100000 in
set_option maxHeartbeats 4000000 in
theorem C.spec_l1Text (B : Nat) (hB1 : 67108864 ≤ B) (hB2 : B ≤ 9223372036854775807) (w : List Vl.Data) (r : ByteArray) (hF : F.spec_l1Text w = some r) : PureCall Try.prog B 106 [.arr (List.map Vl.Data.c w)] (.lit (.string r)) := by
 unfold F.spec_l1Text at hF
 refine PureCall.enterLe Try.func106 (by kernel_rfl) rfl Try.ntmps106 (by simp) (by simp) ?_
 repeat (first | refine chk.ga ?_ | simp -dsimp)
 have hF := ob hF; obtain ⟨o'71, ho70, hF⟩ := hF
 refine ALoop.goU ⟨[(0, .arr (List.map Vl.Data.c w)), (3, .lit (.string ByteArray.empty)), (4, .lit (.int .i64 (0 : Int)))], []⟩ (Gh.to3 (by simp) (by simp -dsimp)) ?_
 refine (C.spec_l1Text_l1 B hB1 hB2 w ByteArray.empty 0 o'71 ho70) _ rfl _ ?_
 cases hF
 repeat (first | refine chk.ga ?_ | simp -dsimp)
 all_goals (try omega)

set_option maxRecDepth 100000 in
set_option maxHeartbeats 4000000 in
theorem CC.spec_ParseWorld_l1 (B : Nat) (hB1 : 67108864 ≤ B) (hB2 : B ≤ 9223372036854775807) (text : ByteArray) (v : List ByteArray) : (∀ (names : List ByteArray) (i : Nat) (o : Lo ((List Vl.Data) × Bool) (List ByteArray)), F.spec_ParseWorld_l1 text v names i = some o → ∀ (c : Code), navO [1, 1, 1, 1, 0, 1, 0, 0] (bodyOf Try.f82) = some c → ∀ (Q : Exit → ASt → Prop), o.post (fun r => ∀ st, Post Try.prog Try.f82 (fun r' _ => r'.le (.tup [.arr (List.map Vl.Data.c r.1), .lit (.bool r.2)])) .ret st → Q .ret st) (fun s => Q (.exit 0) ⟨[(0, .lit (.string text)), (4, .own 0 (List.length (α := Vl.Data) [])), (5, .own 1 (List.length (α := ByteArray) s)), (6, .arr (List.map cS v))], [.elems 2 (List.map Vl.Data.c []), .elems 1 (List.map cS s)]⟩) → ALoopU Try.prog B 0 101 (hold c .mk) ⟨[(0, .lit (.string text)), (4, .own 0 (List.length (α := Vl.Data) [])), (5, .own 1 (List.length (α := ByteArray) names)), (6, .arr (List.map cS v)), (7, .lit (.int .i64 (i : Int)))], [.elems 2 (List.map Vl.Data.c []), .elems 1 (List.map cS names)]⟩ (hold Q .mk)) := by
 refine F.spec_ParseWorld_l1.partial_correctness text v
  (fun names i o => ∀ (c : Code), navO [1, 1, 1, 1, 0, 1, 0, 0] (bodyOf Try.f82) = some c → ∀ (Q : Exit → ASt → Prop), o.post (fun r => ∀ st, Post Try.prog Try.f82 (fun r' _ => r'.le (.tup [.arr (List.map Vl.Data.c r.1), .lit (.bool r.2)])) .ret st → Q .ret st) (fun s => Q (.exit 0) ⟨[(0, .lit (.string text)), (4, .own 0 (List.length (α := Vl.Data) [])), (5, .own 1 (List.length (α := ByteArray) s)), (6, .arr (List.map cS v))], [.elems 2 (List.map Vl.Data.c []), .elems 1 (List.map cS s)]⟩) → ALoopU Try.prog B 0 101 (hold c .mk) ⟨[(0, .lit (.string text)), (4, .own 0 (List.length (α := Vl.Data) [])), (5, .own 1 (List.length (α := ByteArray) names)), (6, .arr (List.map cS v)), (7, .lit (.int .i64 (i : Int)))], [.elems 2 (List.map Vl.Data.c []), .elems 1 (List.map cS names)]⟩ (hold Q .mk))
  ?_
 ·intro _f_spec_ParseWorld_l1 ih_spec_ParseWorld_l1 names i o hF
  intro c hc Q hq
  obtain rfl : c = _ := navEq hc rfl
  refine ALoopU.know fun hk hs => ?_
  have b6 := hk 6
  simp -dsimp at b6
  have d0 := hs 0 _ rfl
  simp -dsimp [Blk.bnd] at d0
  have d1 := hs 1 _ rfl
  simp -dsimp [Blk.bnd] at d1
  clear hk hs
  refine ALoopU.enter ?_
  repeat (first | refine chk.ga ?_ | simp -dsimp)
  refine abr.split (fun h2 => ?_) (fun h2 => ?_)
  ·have q3 : (i < v.length) := auq h2
   have z4 : ((i : Int) < (v.length : Int)) := auz
   rw [if_pos q3] at hF
   repeat (first | refine chk.ga ?_ | simp -dsimp [h2, z4])
   refine abr.split (fun h5 => ?_) (fun h5 => ?_)
   ·have q6 : (i ≤ 4) := auq h5
    have z7 : ((i : Int) ≤ (4 : Int)) := auz
    rw [if_pos q6] at hF
    repeat (first | refine chk.ga ?_ | simp -dsimp [h2, z4, h5, z7])
    refine abr.split (fun h8 => ?_) (fun h8 => ?_)
    ·have q9 : ¬ (text.toList = ByteArray.empty.toList) := auq h8
     rw [if_neg q9] at hF
     have hF := ob hF; obtain ⟨x, e10, hF⟩ := hF
     have le10 := lt_of_get e10
     repeat (first | refine chk.ga ?_ | simp -dsimp [h2, z4, h5, z7, h8, q9, ↓e10])
     have hF := ob hF; obtain ⟨v11, e12, hF⟩ := hF
     refine ((C.spec_l17Cut B hB1 hB2 x (61 : Int) v11 e12)).goW (by first | simp [h2, z4, h5, z7, h8, q9, ↓e10]; done | simp_all) (by simp) ?_
     repeat (first | refine chk.ga ?_ | simp -dsimp [h2, z4, h5, z7, h8, q9, ↓e10])
     refine abr.split (fun h13 => ?_) (fun h13 => ?_)
     ·have q14 : ¬ (v11.length = 2) := auq h13
      have z15 : ¬ ((v11.length : Int) = (2 : Int)) := auz
      rw [if_neg q14] at hF
      cases hF
      repeat (first | refine chk.ga ?_ | simp -dsimp [h2, z4, h5, z7, h8, q9, ↓e10, h13, q14, z15])
      refine Leave.go _ (Gh.refl _) (hq _ ?_)
      repeat (first | refine chk.ga ?_ | simp -dsimp [h2, z4, h5, z7, h8, q9, ↓e10, h13, q14, z15])
     ·have q14 : (v11.length = 2) := auq h13
      have z15 : ((v11.length : Int) = (2 : Int)) := auz
      rw [if_pos q14] at hF
      have hF := ob hF; obtain ⟨x16, e17, hF⟩ := hF
      have le17 := lt_of_get e17
      have hF := oc hF; obtain ⟨c18, hF⟩ := hF
      have w19 : IntKind.i64.wrap ((i : Int) + 1) = (i : Int) + 1 := wrap_in (by omega) (by omega)
      repeat (first | refine chk.ga ?_ | simp -dsimp [h2, z4, h5, z7, h8, q9, ↓e10, h13, q14, z15, ↓e17, w19])
      refine Again.go ⟨[(0, .lit (.string text)), (4, .own 0 (List.length (α := Vl.Data) [])), (5, .own 1 (List.length (α := ByteArray) (names ++ [x16]))), (6, .arr (List.map cS v)), (7, .lit (.int .i64 ((i + 1) : Int)))], [.elems 2 (List.map Vl.Data.c []), .elems 1 (List.map cS (names ++ [x16]))]⟩ (Gh.to3 (by simp) (by first | simp -dsimp [h2, z4, h5, z7, h8, q9, ↓e10, h13, q14, z15, ↓e17, w19]; done | simp_all)) ?_
      exact (ih_spec_ParseWorld_l1 (names ++ [x16]) (i + 1) o hF) _ rfl _ hq
    ·have q9 : (text.toList = ByteArray.empty.toList) := auq h8
     rw [if_pos q9] at hF
     cases hF
     repeat (first | refine chk.ga ?_ | simp -dsimp [h2, z4, h5, z7, h8, q9])
     refine Leave.go ⟨[(0, .lit (.string text)), (4, .own 0 (List.length (α := Vl.Data) [])), (5, .own 1 (List.length (α := ByteArray) names)), (6, .arr (List.map cS v))], [.elems 2 (List.map Vl.Data.c []), .elems 1 (List.map cS names)]⟩ (Gh.to3 (by simp) (by first | simp -dsimp [h2, z4, h5, z7, h8, q9]; done | simp_all)) ?_
     exact hq
   ·have q6 : ¬ (i ≤ 4) := auq h5
    have z7 : ¬ ((i : Int) ≤ (4 : Int)) := auz
    rw [if_neg q6] at hF
    cases hF
    repeat (first | refine chk.ga ?_ | simp -dsimp [h2, z4, h5, q6, z7])
    refine Leave.go ⟨[(0, .lit (.string text)), (4, .own 0 (List.length (α := Vl.Data) [])), (5, .own 1 (List.length (α := ByteArray) names)), (6, .arr (List.map cS v))], [.elems 2 (List.map Vl.Data.c []), .elems 1 (List.map cS names)]⟩ (Gh.to3 (by simp) (by first | simp -dsimp [h2, z4, h5, q6, z7]; done | simp_all)) ?_
    exact hq
  ·have q3 : ¬ (i < v.length) := auq h2
   have z4 : ¬ ((i : Int) < (v.length : Int)) := auz
   rw [if_neg q3] at hF
   cases hF
   repeat (first | refine chk.ga ?_ | simp -dsimp [h2, q3, z4])
   refine Leave.go ⟨[(0, .lit (.string text)), (4, .own 0 (List.length (α := Vl.Data) [])), (5, .own 1 (List.length (α := ByteArray) names)), (6, .arr (List.map cS v))], [.elems 2 (List.map Vl.Data.c []), .elems 1 (List.map cS names)]⟩ (Gh.to3 (by simp) (by first | simp -dsimp [h2, q3, z4]; done | simp_all)) ?_
   exact hq

theorem C.spec_ParseWorld_l1 (B : Nat) (hB1 : 67108864 ≤ B) (hB2 : B ≤ 9223372036854775807) (text : ByteArray) (v : List ByteArray) (names : List ByteArray) (i : Nat) (o : Lo ((List Vl.Data) × Bool) (List ByteArray)) (hF : F.spec_ParseWorld_l1 text v names i = some o) : ∀ (c : Code), navO [1, 1, 1, 1, 0, 1, 0, 0] (bodyOf Try.f82) = some c → ∀ (Q : Exit → ASt → Prop), o.post (fun r => ∀ st, Post Try.prog Try.f82 (fun r' _ => r'.le (.tup [.arr (List.map Vl.Data.c r.1), .lit (.bool r.2)])) .ret st → Q .ret st) (fun s => Q (.exit 0) ⟨[(0, .lit (.string text)), (4, .own 0 (List.length (α := Vl.Data) [])), (5, .own 1 (List.length (α := ByteArray) s)), (6, .arr (List.map cS v))], [.elems 2 (List.map Vl.Data.c []), .elems 1 (List.map cS s)]⟩) → ALoopU Try.prog B 0 101 (hold c .mk) ⟨[(0, .lit (.string text)), (4, .own 0 (List.length (α := Vl.Data) [])), (5, .own 1 (List.length (α := ByteArray) names)), (6, .arr (List.map cS v)), (7, .lit (.int .i64 (i : Int)))], [.elems 2 (List.map Vl.Data.c []), .elems 1 (List.map cS names)]⟩ (hold Q .mk) :=
 (CC.spec_ParseWorld_l1 B hB1 hB2 text v) names i o hF

set_option maxRecDepth 100000 in
set_option maxHeartbeats 4000000 in
theorem CC.spec_ParseWorld_l3 (B : Nat) (hB1 : 67108864 ≤ B) (hB2 : B ≤ 9223372036854775807) (text : ByteArray) (v : List ByteArray) (out : List Vl.Data) (names21 : List ByteArray) (i22 : Nat) (v32 : List ByteArray) (x34 : ByteArray) : (∀ (out36 : List Vl.Ctor) (k : Nat) (o : List Vl.Ctor), F.spec_ParseWorld_l3 text v out names21 i22 v32 x34 out36 k = some o → ∀ (c : Code), navO [1, 1, 1, 1, 1, 0, 1, 0, 0, 1, 0, 0, 1, 1, 0, 1, 0, 0] (bodyOf Try.f82) = some c → ∀ (Q : Exit → ASt → Prop), Q (.exit 4) ⟨[(0, .lit (.string text)), (4, .own 0 (List.length (α := Vl.Data) out)), (5, .arr (List.map cS names21)), (6, .arr (List.map cS v)), (9, .lit (.int .i64 (i22 : Int))), (11, .ptr 2 0)], [.elems 2 (List.map Vl.Data.c out), .dead, .cells [.lit (.string x34), .own 3 (List.length (α := Vl.Ctor) o)], .elems 3 (List.map Vl.Ctor.c o)]⟩ → ALoopU Try.prog B 0 101 (hold c .mk) ⟨[(0, .lit (.string text)), (4, .own 0 (List.length (α := Vl.Data) out)), (5, .arr (List.map cS names21)), (6, .arr (List.map cS v)), (9, .lit (.int .i64 (i22 : Int))), (10, .arr (List.map cS v32)), (11, .ptr 2 0), (12, .lit (.int .i64 (k : Int)))], [.elems 2 (List.map Vl.Data.c out), .dead, .cells [.lit (.string x34), .own 3 (List.length (α := Vl.Ctor) out36)], .elems 3 (List.map Vl.Ctor.c out36)]⟩ (hold Q .mk)) := by
 refine F.spec_ParseWorld_l3.partial_correctness text v out names21 i22 v32 x34
  (fun out36 k o => ∀ (c : Code), navO [1, 1, 1, 1, 1, 0, 1, 0, 0, 1, 0, 0, 1, 1, 0, 1, 0, 0] (bodyOf Try.f82) = some c → ∀ (Q : Exit → ASt → Prop), Q (.exit 4) ⟨[(0, .lit (.string text)), (4, .own 0 (List.length (α := Vl.Data) out)), (5, .arr (List.map cS names21)), (6, .arr (List.map cS v)), (9, .lit (.int .i64 (i22 : Int))), (11, .ptr 2 0)], [.elems 2 (List.map Vl.Data.c out), .dead, .cells [.lit (.string x34), .own 3 (List.length (α := Vl.Ctor) o)], .elems 3 (List.map Vl.Ctor.c o)]⟩ → ALoopU Try.prog B 0 101 (hold c .mk) ⟨[(0, .lit (.string text)), (4, .own 0 (List.length (α := Vl.Data) out)), (5, .arr (List.map cS names21)), (6, .arr (List.map cS v)), (9, .lit (.int .i64 (i22 : Int))), (10, .arr (List.map cS v32)), (11, .ptr 2 0), (12, .lit (.int .i64 (k : Int)))], [.elems 2 (List.map Vl.Data.c out), .dead, .cells [.lit (.string x34), .own 3 (List.length (α := Vl.Ctor) out36)], .elems 3 (List.map Vl.Ctor.c out36)]⟩ (hold Q .mk))
  ?_
 ·intro _f_spec_ParseWorld_l3 ih_spec_ParseWorld_l3 out36 k o hF
  intro c hc Q hq
  obtain rfl : c = _ := navEq hc rfl
  refine ALoopU.know fun hk hs => ?_
  have b5 := hk 5
  simp -dsimp at b5
  have b6 := hk 6
  simp -dsimp at b6
  have b10 := hk 10
  simp -dsimp at b10
  have d0 := hs 0 _ rfl
  simp -dsimp [Blk.bnd] at d0
  have d3 := hs 3 _ rfl
  simp -dsimp [Blk.bnd] at d3
  clear hk hs
  refine ALoopU.enter ?_
  repeat (first | refine chk.ga ?_ | simp -dsimp)
  refine abr.split (fun h37 => ?_) (fun h37 => ?_)
  ·have q38 : (k < v32.length) := auq h37
   have z39 : ((k : Int) < (v32.length : Int)) := auz
   rw [if_pos q38] at hF
   repeat (first | refine chk.ga ?_ | simp -dsimp [h37, z39])
   refine abr.split (fun h40 => ?_) (fun h40 => ?_)
   ·have q41 : (k ≤ 4) := auq h40
    have z42 : ((k : Int) ≤ (4 : Int)) := auz
    rw [if_pos q41] at hF
    repeat (first | refine chk.ga ?_ | simp -dsimp [h37, z39, h40, z42])
    refine ADraw.eff [] [(0, 1), (0, 1), (0, 0), (0, 0), (0, 0), (0, 0), (0, 0), (0, 3), (0, 3), (0, 3), (2, 2), (0, 3)] [0, 2, 1, 1, 1, 1, 1, 1, 1, 1, 1, 1] follows (by kernel_rfl) (by kernel_rfl) (by kernel_rfl) ?_
    have hF := ob hF; obtain ⟨x43, e44, hF⟩ := hF
    have le44 := lt_of_get e44
    repeat (first | refine chk.ga ?_ | simp -dsimp [h37, z39, h40, z42, ↓e44])
    have hF := ob hF; obtain ⟨v45, e46, hF⟩ := hF
    refine ((C.spec_l1ParseCtor B hB1 hB2 names21 x43 v45 e46)).pgoW (by first | simp [h37, z39, h40, z42, ↓e44]; done | simp_all) (by simp) ?_
    have hF := oc hF; obtain ⟨c47, hF⟩ := hF
    have w48 : IntKind.i64.wrap ((k : Int) + 1) = (k : Int) + 1 := wrap_in (by omega) (by omega)
    repeat (first | refine chk.ga ?_ | simp -dsimp [h37, z39, h40, z42, ↓e44, w48])
    refine Again.go ⟨[(0, .lit (.string text)), (4, .own 0 (List.length (α := Vl.Data) out)), (5, .arr (List.map cS names21)), (6, .arr (List.map cS v)), (9, .lit (.int .i64 (i22 : Int))), (10, .arr (List.map cS v32)), (11, .ptr 2 0), (12, .lit (.int .i64 ((k + 1) : Int)))], [.elems 2 (List.map Vl.Data.c out), .dead, .cells [.lit (.string x34), .own 3 (List.length (α := Vl.Ctor) (out36 ++ [v45]))], .elems 3 (List.map Vl.Ctor.c (out36 ++ [v45]))]⟩ (Gh.to3 (by simp) (by first | simp -dsimp [h37, z39, h40, z42, ↓e44, w48]; done | simp_all)) ?_
    exact (ih_spec_ParseWorld_l3 (out36 ++ [v45]) (k + 1) o hF) _ rfl _ hq
   ·have q41 : ¬ (k ≤ 4) := auq h40
    have z42 : ¬ ((k : Int) ≤ (4 : Int)) := auz
    rw [if_neg q41] at hF
    cases hF
    repeat (first | refine chk.ga ?_ | simp -dsimp [h37, z39, h40, q41, z42])
    refine Leave.go ⟨[(0, .lit (.string text)), (4, .own 0 (List.length (α := Vl.Data) out)), (5, .arr (List.map cS names21)), (6, .arr (List.map cS v)), (9, .lit (.int .i64 (i22 : Int))), (11, .ptr 2 0)], [.elems 2 (List.map Vl.Data.c out), .dead, .cells [.lit (.string x34), .own 3 (List.length (α := Vl.Ctor) out36)], .elems 3 (List.map Vl.Ctor.c out36)]⟩ (Gh.to3 (by simp) (by first | simp -dsimp [h37, z39, h40, q41, z42]; done | simp_all)) ?_
    exact hq
  ·have q38 : ¬ (k < v32.length) := auq h37
   have z39 : ¬ ((k : Int) < (v32.length : Int)) := auz
   rw [if_neg q38] at hF
   cases hF
   repeat (first | refine chk.ga ?_ | simp -dsimp [h37, q38, z39])
   refine Leave.go ⟨[(0, .lit (.string text)), (4, .own 0 (List.length (α := Vl.Data) out)), (5, .arr (List.map cS names21)), (6, .arr (List.map cS v)), (9, .lit (.int .i64 (i22 : Int))), (11, .ptr 2 0)], [.elems 2 (List.map Vl.Data.c out), .dead, .cells [.lit (.string x34), .own 3 (List.length (α := Vl.Ctor) out36)], .elems 3 (List.map Vl.Ctor.c out36)]⟩ (Gh.to3 (by simp) (by first | simp -dsimp [h37, q38, z39]; done | simp_all)) ?_
   exact hq

theorem C.spec_ParseWorld_l3 (B : Nat) (hB1 : 67108864 ≤ B) (hB2 : B ≤ 9223372036854775807) (text : ByteArray) (v : List ByteArray) (out : List Vl.Data) (names21 : List ByteArray) (i22 : Nat) (v32 : List ByteArray) (x34 : ByteArray) (out36 : List Vl.Ctor) (k : Nat) (o : List Vl.Ctor) (hF : F.spec_ParseWorld_l3 text v out names21 i22 v32 x34 out36 k = some o) : ∀ (c : Code), navO [1, 1, 1, 1, 1, 0, 1, 0, 0, 1, 0, 0, 1, 1, 0, 1, 0, 0] (bodyOf Try.f82) = some c → ∀ (Q : Exit → ASt → Prop), Q (.exit 4) ⟨[(0, .lit (.string text)), (4, .own 0 (List.length (α := Vl.Data) out)), (5, .arr (List.map cS names21)), (6, .arr (List.map cS v)), (9, .lit (.int .i64 (i22 : Int))), (11, .ptr 2 0)], [.elems 2 (List.map Vl.Data.c out), .dead, .cells [.lit (.string x34), .own 3 (List.length (α := Vl.Ctor) o)], .elems 3 (List.map Vl.Ctor.c o)]⟩ → ALoopU Try.prog B 0 101 (hold c .mk) ⟨[(0, .lit (.string text)), (4, .own 0 (List.length (α := Vl.Data) out)), (5, .arr (List.map cS names21)), (6, .arr (List.map cS v)), (9, .lit (.int .i64 (i22 : Int))), (10, .arr (List.map cS v32)), (11, .ptr 2 0), (12, .lit (.int .i64 (k : Int)))], [.elems 2 (List.map Vl.Data.c out), .dead, .cells [.lit (.string x34), .own 3 (List.length (α := Vl.Ctor) out36)], .elems 3 (List.map Vl.Ctor.c out36)]⟩ (hold Q .mk) :=
 (CC.spec_ParseWorld_l3 B hB1 hB2 text v out names21 i22 v32 x34) out36 k o hF

set_option maxRecDepth 100000 in
set_option maxHeartbeats 4000000 in
theorem CC.spec_ParseWorld_l2 (B : Nat) (hB1 : 67108864 ≤ B) (hB2 : B ≤ 9223372036854775807) (text : ByteArray) (v : List ByteArray) (names21 : List ByteArray) : (∀ (out : List Vl.Data) (i22 : Nat) (o : List Vl.Data), F.spec_ParseWorld_l2 text v out names21 i22 = some o → ∀ (c : Code), navO [1, 1, 1, 1, 1, 0, 1, 0, 0] (bodyOf Try.f82) = some c → ∀ (Q : Exit → ASt → Prop), Q (.exit 2) ⟨[(0, .lit (.string text)), (4, .own 0 (List.length (α := Vl.Data) o))], [.elems 2 (List.map Vl.Data.c o)]⟩ → ALoopU Try.prog B 0 101 (hold c .mk) ⟨[(0, .lit (.string text)), (4, .own 0 (List.length (α := Vl.Data) out)), (5, .arr (List.map cS names21)), (6, .arr (List.map cS v)), (9, .lit (.int .i64 (i22 : Int)))], [.elems 2 (List.map Vl.Data.c out), .dead]⟩ (hold Q .mk)) := by
 refine F.spec_ParseWorld_l2.partial_correctness text v names21
  (fun out i22 o => ∀ (c : Code), navO [1, 1, 1, 1, 1, 0, 1, 0, 0] (bodyOf Try.f82) = some c → ∀ (Q : Exit → ASt → Prop), Q (.exit 2) ⟨[(0, .lit (.string text)), (4, .own 0 (List.length (α := Vl.Data) o))], [.elems 2 (List.map Vl.Data.c o)]⟩ → ALoopU Try.prog B 0 101 (hold c .mk) ⟨[(0, .lit (.string text)), (4, .own 0 (List.length (α := Vl.Data) out)), (5, .arr (List.map cS names21)), (6, .arr (List.map cS v)), (9, .lit (.int .i64 (i22 : Int)))], [.elems 2 (List.map Vl.Data.c out), .dead]⟩ (hold Q .mk))
  ?_
 ·intro _f_spec_ParseWorld_l2 ih_spec_ParseWorld_l2 out i22 o hF
  intro c hc Q hq
  obtain rfl : c = _ := navEq hc rfl
  refine ALoopU.know fun hk hs => ?_
  have b5 := hk 5
  simp -dsimp at b5
  have b6 := hk 6
  simp -dsimp at b6
  have d0 := hs 0 _ rfl
  simp -dsimp [Blk.bnd] at d0
  clear hk hs
  refine ALoopU.enter ?_
  repeat (first | refine chk.ga ?_ | simp -dsimp)
  refine abr.split (fun h23 => ?_) (fun h23 => ?_)
  ·have q24 : (i22 < names21.length) := auq h23
   have z25 : ((i22 : Int) < (names21.length : Int)) := auz
   rw [if_pos q24] at hF
   have hF := ob hF; obtain ⟨x26, e27, hF⟩ := hF
   have le27 := lt_of_get e27
   repeat (first | refine chk.ga ?_ | simp -dsimp [h23, z25, ↓e27])
   have hF := ob hF; obtain ⟨v28, e29, hF⟩ := hF
   refine ((C.spec_l17Cut B hB1 hB2 x26 (61 : Int) v28 e29)).goW (by first | simp [h23, z25, ↓e27]; done | simp_all) (by simp) ?_
   have hF := ob hF; obtain ⟨x30, e31, hF⟩ := hF
   have le31 := lt_of_get e31
   repeat (first | refine chk.ga ?_ | simp -dsimp [h23, z25, ↓e27, ↓e31])
   have hF := ob hF; obtain ⟨v32, e33, hF⟩ := hF
   refine ((C.spec_l17Cut B hB1 hB2 x30 (124 : Int) v32 e33)).goW (by first | simp [h23, z25, ↓e27, ↓e31]; done | simp_all) (by simp) ?_
   have hF := ob hF; obtain ⟨x34, e35, hF⟩ := hF
   have le35 := lt_of_get e35
   repeat (first | refine chk.ga ?_ | simp -dsimp [h23, z25, ↓e27, ↓e31, ↓e35])
   have hF := ob hF; obtain ⟨o'50, ho49, hF⟩ := hF
   refine ALoop.goU ⟨[(0, .lit (.string text)), (4, .own 0 (List.length (α := Vl.Data) out)), (5, .arr (List.map cS names21)), (6, .arr (List.map cS v)), (9, .lit (.int .i64 (i22 : Int))), (10, .arr (List.map cS v32)), (11, .ptr 2 0), (12, .lit (.int .i64 (0 : Int)))], [.elems 2 (List.map Vl.Data.c out), .dead, .cells [.lit (.string x34), .own 3 (List.length (α := Vl.Ctor) [])], .elems 3 (List.map Vl.Ctor.c [])]⟩ ((Gh.nilCell 2 1 3 (by simp -dsimp; rfl) (by simp -dsimp)).trans (Gh.to3 (by simp) (by first | simp -dsimp [h23, z25, ↓e27, ↓e31, ↓e35]; done | simp_all))) ?_
   refine (C.spec_ParseWorld_l3 B hB1 hB2 text v out names21 i22 v32 x34 [] 0 o'50 ho49) _ rfl _ ?_
   have hF := oc hF; obtain ⟨c51, hF⟩ := hF
   have hF := oc hF; obtain ⟨c52, hF⟩ := hF
   have w53 : IntKind.i64.wrap ((i22 : Int) + 1) = (i22 : Int) + 1 := wrap_in (by omega) (by omega)
   repeat (first | refine chk.ga ?_ | simp -dsimp [w53])
   refine Again.go ⟨[(0, .lit (.string text)), (4, .own 0 (List.length (α := Vl.Data) (out ++ [(⟨x34, o'50⟩ : Vl.Data)]))), (5, .arr (List.map cS names21)), (6, .arr (List.map cS v)), (9, .lit (.int .i64 ((i22 + 1) : Int)))], [.elems 2 (List.map Vl.Data.c (out ++ [(⟨x34, o'50⟩ : Vl.Data)])), .dead]⟩ (Gh.to3 (by simp) (by first | simp -dsimp [w53]; done | simp_all)) ?_
   exact (ih_spec_ParseWorld_l2 (out ++ [(⟨x34, o'50⟩ : Vl.Data)]) (i22 + 1) o hF) _ rfl _ hq
  ·have q24 : ¬ (i22 < names21.length) := auq h23
   have z25 : ¬ ((i22 : Int) < (names21.length : Int)) := auz
   rw [if_neg q24] at hF
   cases hF
   repeat (first | refine chk.ga ?_ | simp -dsimp [h23, q24, z25])
   refine Leave.go ⟨[(0, .lit (.string text)), (4, .own 0 (List.length (α := Vl.Data) out))], [.elems 2 (List.map Vl.Data.c out)]⟩ (Gh.to3 (by simp) (by first | simp -dsimp [h23, q24, z25]; done | simp_all)) ?_
   exact hq

theorem C.spec_ParseWorld_l2 (B : Nat) (hB1 : 67108864 ≤ B) (hB2 : B ≤ 9223372036854775807) (text : ByteArray) (v : List ByteArray) (out : List Vl.Data) (names21 : List ByteArray) (i22 : Nat) (o : List Vl.Data) (hF : F.spec_ParseWorld_l2 text v out names21 i22 = some o) : ∀ (c : Code), navO [1, 1, 1, 1, 1, 0, 1, 0, 0] (bodyOf Try.f82) = some c → ∀ (Q : Exit → ASt → Prop), Q (.exit 2) ⟨[(0, .lit (.string text)), (4, .own 0 (List.length (α := Vl.Data) o))], [.elems 2 (List.map Vl.Data.c o)]⟩ → ALoopU Try.prog B 0 101 (hold c .mk) ⟨[(0, .lit (.string text)), (4, .own 0 (List.length (α := Vl.Data) out)), (5, .arr (List.map cS names21)), (6, .arr (List.map cS v)), (9, .lit (.int .i64 (i22 : Int)))], [.elems 2 (List.map Vl.Data.c out), .dead]⟩ (hold Q .mk) :=
 (CC.spec_ParseWorld_l2 B hB1 hB2 text v names21) out i22 o hF

set_option maxRecDepth 100000 in
set_option maxHeartbeats 4000000 in
theorem C.spec_ParseWorld (B : Nat) (hB1 : 67108864 ≤ B) (hB2 : B ≤ 9223372036854775807) (text : ByteArray) (r : (List Vl.Data) × Bool) (hF : F.spec_ParseWorld text = some r) : PureCall Try.prog B 82 [.lit (.string text)] (.tup [.arr (List.map Vl.Data.c r.1), .lit (.bool r.2)]) := by
 unfold F.spec_ParseWorld at hF
 refine PureCall.enterLe Try.func82 (by kernel_rfl) rfl Try.ntmps82 (by simp) (by simp) ?_
 repeat (first | refine chk.ga ?_ | simp -dsimp)
 have hF := ob hF; obtain ⟨v, e1, hF⟩ := hF
 refine ((C.spec_l17Cut B hB1 hB2 text (59 : Int) v e1)).goW (by simp) (by simp) ?_
 repeat (first | refine chk.ga ?_ | simp -dsimp)
 have hF := ob hF; obtain ⟨o', ho20, hF⟩ := hF
 refine ALoop.goU ⟨[(0, .lit (.string text)), (4, .own 0 (List.length (α := Vl.Data) [])), (5, .own 1 (List.length (α := ByteArray) [])), (6, .arr (List.map cS v)), (7, .lit (.int .i64 (0 : Int)))], [.elems 2 (List.map Vl.Data.c []), .elems 1 (List.map cS [])]⟩ (Gh.to3 (by simp) (by simp -dsimp)) ?_
 refine (C.spec_ParseWorld_l1 B hB1 hB2 text v [] 0 o' ho20) _ rfl _ ?_
 rcases o' with r0 | sx
 ·dsimp only at hF
  cases hF
  intro st h
  simpa using h
 ·dsimp only at hF
  repeat (first | refine chk.ga ?_ | simp -dsimp)
  have hF := ob hF; obtain ⟨o'55, ho54, hF⟩ := hF
  refine ALoop.goU ⟨[(0, .lit (.string text)), (4, .own 0 (List.length (α := Vl.Data) [])), (5, .arr (List.map cS sx)), (6, .arr (List.map cS v)), (9, .lit (.int .i64 (0 : Int)))], [.elems 2 (List.map Vl.Data.c []), .dead]⟩ ((Gh.frzSlot 5 (l := 1) (n := List.length (α := ByteArray) sx) (sz := 1) (es := List.map cS sx) (by simp) (by simp) (by simp) (by simp)).trans (Gh.to3 (by simp) (by simp -dsimp))) ?_
  refine (C.spec_ParseWorld_l2 B hB1 hB2 text v [] sx 0 o'55 ho54) _ rfl _ ?_
  repeat (first | refine chk.ga ?_ | simp -dsimp)
  have hF := ob hF; obtain ⟨v56, e57, hF⟩ := hF
  refine ((C.spec_WorldValid B hB1 hB2 o'55 v56 e57)).lend (by simp -dsimp) (by simp -dsimp) ?_
  repeat (first | refine chk.ga ?_ | simp -dsimp)
  refine abr.split (fun h58 => ?_) (fun h58 => ?_)
  ·have q59 : (v56 = true) := auq h58
   rw [if_pos q59] at hF
   repeat (first | refine chk.ga ?_ | simp -dsimp [h58])
   have hF := ob hF; obtain ⟨v60, e61, hF⟩ := hF
   refine ((C.spec_l1Text B hB1 hB2 o'55 v60 e61)).lend (by first | simp -dsimp [h58]; done | simp_all) (by simp -dsimp) ?_
   repeat (first | refine chk.ga ?_ | simp -dsimp [h58])
   refine abr.split (fun h62 => ?_) (fun h62 => ?_)
   ·have q63 : ¬ (v60.toList = text.toList) := auq h62
    rw [if_neg q63] at hF
    cases hF
    repeat (first | refine chk.ga ?_ | simp -dsimp [h58, h62, q63])
    all_goals (try omega)
   ·have q63 : (v60.toList = text.toList) := auq h62
    rw [if_pos q63] at hF
    cases hF
    repeat (first | refine chk.ga ?_ | simp -dsimp [h58, h62, q63])
    all_goals (try omega)
  ·have q59 : ¬ (v56 = true) := auq h58
   rw [if_neg q59] at hF
   cases hF
   repeat (first | refine chk.ga ?_ | simp -dsimp [h58, q59])
   all_goals (try omega)

set_option maxRecDepth 100000 in
set_option maxHeartbeats 4000000 in
theorem C.spec_l1World (B : Nat) (hB1 : 67108864 ≤ B) (hB2 : B ≤ 9223372036854775807) (r' : Vl.T_spec_l17Rd) (r : (List Vl.Data) × Vl.T_spec_l17Rd) (hF : F.spec_l1World r' = some r) : MutCall Try.prog B 49 [.arr (List.map cU r'.f0), .lit (.int .i64 r'.f1)] [.ptr 0 0] (.arr (List.map Vl.Data.c r.1)) [.arr (List.map cU r.2.f0), .lit (.int .i64 r.2.f1)] := by
 unfold F.spec_l1World at hF
 refine MutCall.enter Try.func49 (by kernel_rfl) rfl Try.ntmps49 (by simp) (by simp) (by simp) (by simp) ?_
 repeat (first | refine chk.ga ?_ | simp -dsimp)
 have hF := ob hF; obtain ⟨v, e1, hF⟩ := hF
 refine ((C.spec_l1Texts B hB1 hB2 v e1)).goW (by simp) (by simp) ?_
 repeat (first | refine chk.ga ?_ | simp -dsimp)
 have hF := ob hF; obtain ⟨v2, e3, hF⟩ := hF
 refine ((C.spec_l17Rd_pick B hB1 hB2 r' (IntKind.i64.wrap ((v.length : Int) - 1)) v2 e3)).go 0 rfl (by simp) (by simp) (by simp) ?_
 have hF := ob hF; obtain ⟨x, e4a, hF⟩ := hF
 have e4a := at_some e4a; obtain ⟨ne4, e4⟩ := e4a
 have le4 := lt_of_get e4
 repeat (first | refine chk.ga ?_ | simp -dsimp [↓e4])
 have hF := ob hF; obtain ⟨v5, e6, hF⟩ := hF
 refine ((C.spec_ParseWorld B hB1 hB2 x v5 e6)).goW (by first | simp [↓e4]; done | simp_all) (by simp) ?_
 cases hF
 repeat (first | refine chk.ga ?_ | simp -dsimp [↓e4])
 all_goals (try omega)

set_option maxRecDepth 100000 in
set_option maxHeartbeats 4000000 in
theorem C.spec_l1Fits (B : Nat) (hB1 : 67108864 ≤ B) (hB2 : B ≤ 9223372036854775807) (c' : Vl.Ctor) (index' : Int) (r : Bool) (hF : F.spec_l1Fits c' index' = some r) : PureCall Try.prog B 107 [.agg [.lit (.string c'.name), .arr (List.map Vl.Ty.c c'.args), .lit (.int .i64 c'.index)], .lit (.int .i64 index')] (.lit (.bool r)) := by
 unfold F.spec_l1Fits at hF
 refine PureCall.enterLe Try.func107 (by kernel_rfl) rfl Try.ntmps107 (by simp) (by simp) ?_
 repeat (first | refine chk.ga ?_ | simp -dsimp)
 refine abr.split (fun h1 => ?_) (fun h1 => ?_)
 ·have q2 : ¬ (c'.index = 0) := auq h1
  rw [if_neg q2] at hF
  repeat (first | refine chk.ga ?_ | simp -dsimp [h1, q2])
  refine abr.split (fun h3 => ?_) (fun h3 => ?_)
  ·have q4 : ¬ (index' = 0) := auq h3
   rw [if_neg q4] at hF
   cases hF
   repeat (first | refine chk.ga ?_ | simp -dsimp [h1, q2, h3, q4])
   all_goals (try omega)
  ·have q4 : (index' = 0) := auq h3
   rw [if_pos q4] at hF
   cases hF
   repeat (first | refine chk.ga ?_ | simp -dsimp [h1, q2, eq_true h3, eq_true q4])
   all_goals (try omega)
 ·have q2 : (c'.index = 0) := auq h1
  rw [if_pos q2] at hF
  cases hF
  repeat (first | refine chk.ga ?_ | simp -dsimp [h1, q2])
  all_goals (try omega)

set_option maxRecDepth 100000 in
set_option maxHeartbeats 4000000 in
theorem CC.spec_l1Ctors_l1 (B : Nat) (hB1 : 67108864 ≤ B) (hB2 : B ≤ 9223372036854775807) (w : List Vl.Data) (t : Vl.Ty) : (∀ (out : List Int) (k : Nat) (o : List Int), F.spec_l1Ctors_l1 w t out k = some o → ∀ (c : Code), navO [1, 1, 1, 0, 1, 0, 0] (bodyOf Try.f83) = some c → ∀ (Q : Exit → ASt → Prop), Q (.exit 0) ⟨[(5, .own 1 (List.length (α := Int) o))], [.dead, .elems 1 (List.map cI o)]⟩ → ALoopU Try.prog B 0 40 (hold c .mk) ⟨[(0, .arr (List.map Vl.Data.c w)), (3, .ptr 0 0), (5, .own 1 (List.length (α := Int) out)), (6, .lit (.int .i64 (k : Int)))], [.cells [.lit (.int .i64 t.data), .lit (.int .i64 t.index)], .elems 1 (List.map cI out)]⟩ (hold Q .mk)) := by
 refine F.spec_l1Ctors_l1.partial_correctness w t
  (fun out k o => ∀ (c : Code), navO [1, 1, 1, 0, 1, 0, 0] (bodyOf Try.f83) = some c → ∀ (Q : Exit → ASt → Prop), Q (.exit 0) ⟨[(5, .own 1 (List.length (α := Int) o))], [.dead, .elems 1 (List.map cI o)]⟩ → ALoopU Try.prog B 0 40 (hold c .mk) ⟨[(0, .arr (List.map Vl.Data.c w)), (3, .ptr 0 0), (5, .own 1 (List.length (α := Int) out)), (6, .lit (.int .i64 (k : Int)))], [.cells [.lit (.int .i64 t.data), .lit (.int .i64 t.index)], .elems 1 (List.map cI out)]⟩ (hold Q .mk))
  ?_
 ·intro _f_spec_l1Ctors_l1 ih_spec_l1Ctors_l1 out k o hF
  intro c hc Q hq
  obtain rfl : c = _ := navEq hc rfl
  refine ALoopU.know fun hk hs => ?_
  have b0 := hk 0
  simp -dsimp at b0
  have d1 := hs 1 _ rfl
  simp -dsimp [Blk.bnd] at d1
  clear hk hs
  refine ALoopU.enter ?_
  have hF := ob hF; obtain ⟨x, e3a, hF⟩ := hF
  have e3a := at_some e3a; obtain ⟨ne3, e3⟩ := e3a
  have le3 := lt_of_get e3
  repeat (first | refine chk.ga ?_ | simp -dsimp [↓e3])
  refine abr.split (fun h4 => ?_) (fun h4 => ?_)
  ·have q5 : (k < x.ctors.length) := auq h4
   have z6 : ((k : Int) < (x.ctors.length : Int)) := auz
   rw [if_pos q5] at hF
   repeat (first | refine chk.ga ?_ | simp -dsimp [↓e3, h4, z6])
   refine ADraw.simple follows (by kernel_rfl) (by kernel_rfl) ?_
   have hF := ob hF; obtain ⟨x7, e8, hF⟩ := hF
   have le8 := lt_of_get e8
   repeat (first | refine chk.ga ?_ | simp -dsimp [↓e3, h4, z6, ↓e8])
   have hF := ob hF; obtain ⟨v, e9, hF⟩ := hF
   refine ((C.spec_l1Fits B hB1 hB2 x7 t.index v e9)).pgoW (by first | simp [↓e3, h4, z6, ↓e8]; done | simp_all) (by simp) ?_
   repeat (first | refine chk.ga ?_ | simp -dsimp [↓e3, h4, z6, ↓e8])
   refine abr.split (fun h10 => ?_) (fun h10 => ?_)
   ·have q11 : (v = true) := auq h10
    rw [if_pos q11] at hF
    have hF := oc hF; obtain ⟨c12, hF⟩ := hF
    have hF := oc hF; obtain ⟨c13, hF⟩ := hF
    have w14 : IntKind.i64.wrap ((k : Int) + 1) = (k : Int) + 1 := wrap_in (by omega) (by omega)
    repeat (first | refine chk.ga ?_ | simp -dsimp [↓e3, h4, z6, ↓e8, h10, w14])
    refine Again.go ⟨[(0, .arr (List.map Vl.Data.c w)), (3, .ptr 0 0), (5, .own 1 (List.length (α := Int) (out ++ [(k : Int)]))), (6, .lit (.int .i64 ((k + 1) : Int)))], [.cells [.lit (.int .i64 t.data), .lit (.int .i64 t.index)], .elems 1 (List.map cI (out ++ [(k : Int)]))]⟩ (Gh.to3 (by simp) (by first | simp -dsimp [↓e3, h4, z6, ↓e8, h10, w14]; done | simp_all)) ?_
    exact (ih_spec_l1Ctors_l1 (out ++ [(k : Int)]) (k + 1) o hF) _ rfl _ hq
   ·have q11 : ¬ (v = true) := auq h10
    rw [if_neg q11] at hF
    have hF := oc hF; obtain ⟨c15, hF⟩ := hF
    have w16 : IntKind.i64.wrap ((k : Int) + 1) = (k : Int) + 1 := wrap_in (by omega) (by omega)
    repeat (first | refine chk.ga ?_ | simp -dsimp [↓e3, h4, z6, ↓e8, h10, q11, w16])
    refine Again.go ⟨[(0, .arr (List.map Vl.Data.c w)), (3, .ptr 0 0), (5, .own 1 (List.length (α := Int) out)), (6, .lit (.int .i64 ((k + 1) : Int)))], [.cells [.lit (.int .i64 t.data), .lit (.int .i64 t.index)], .elems 1 (List.map cI out)]⟩ (Gh.to3 (by simp) (by first | simp -dsimp [↓e3, h4, z6, ↓e8, h10, q11, w16]; done | simp_all)) ?_
    exact (ih_spec_l1Ctors_l1 out (k + 1) o hF) _ rfl _ hq
  ·have q5 : ¬ (k < x.ctors.length) := auq h4
   have z6 : ¬ ((k : Int) < (x.ctors.length : Int)) := auz
   rw [if_neg q5] at hF
   cases hF
   repeat (first | refine chk.ga ?_ | simp -dsimp [↓e3, h4, q5, z6])
   refine Leave.go ⟨[(5, .own 1 (List.length (α := Int) out))], [.dead, .elems 1 (List.map cI out)]⟩ (Gh.to3 (by simp) (by first | simp -dsimp [↓e3, h4, q5, z6]; done | simp_all)) ?_
   exact hq

theorem C.spec_l1Ctors_l1 (B : Nat) (hB1 : 67108864 ≤ B) (hB2 : B ≤ 9223372036854775807) (w : List Vl.Data) (t : Vl.Ty) (out : List Int) (k : Nat) (o : List Int) (hF : F.spec_l1Ctors_l1 w t out k = some o) : ∀ (c : Code), navO [1, 1, 1, 0, 1, 0, 0] (bodyOf Try.f83) = some c → ∀ (Q : Exit → ASt → Prop), Q (.exit 0) ⟨[(5, .own 1 (List.length (α := Int) o))], [.dead, .elems 1 (List.map cI o)]⟩ → ALoopU Try.prog B 0 40 (hold c .mk) ⟨[(0, .arr (List.map Vl.Data.c w)), (3, .ptr 0 0), (5, .own 1 (List.length (α := Int) out)), (6, .lit (.int .i64 (k : Int)))], [.cells [.lit (.int .i64 t.data), .lit (.int .i64 t.index)], .elems 1 (List.map cI out)]⟩ (hold Q .mk) :=
 (CC.spec_l1Ctors_l1 B hB1 hB2 w t) out k o hF

set_option maxRecDepth 100000 in
set_option maxHeartbeats 4000000 in
theorem C.spec_l1Ctors (B : Nat) (hB1 : 67108864 ≤ B) (hB2 : B ≤ 9223372036854775807) (w : List Vl.Data) (t : Vl.Ty) (r : List Int) (hF : F.spec_l1Ctors w t = some r) : PureCall Try.prog B 83 [.arr (List.map Vl.Data.c w), .agg [.lit (.int .i64 t.data), .lit (.int .i64 t.index)]] (.arr (List.map cI r)) := by
 unfold F.spec_l1Ctors at hF
 refine PureCall.enterLe Try.func83 (by kernel_rfl) rfl Try.ntmps83 (by simp) (by simp) ?_
 repeat (first | refine chk.ga ?_ | simp -dsimp)
 refine abr.split (fun h1 => ?_) (fun h1 => ?_)
 ·have q2 : (t.data = (-1)) := auq h1
  rw [if_pos q2] at hF
  cases hF
  repeat (first | refine chk.ga ?_ | simp -dsimp [h1])
  all_goals (try omega)
 ·have q2 : ¬ (t.data = (-1)) := auq h1
  rw [if_neg q2] at hF
  repeat (first | refine chk.ga ?_ | simp -dsimp [h1, q2])
  have hF := ob hF; obtain ⟨o', ho17, hF⟩ := hF
  refine ALoop.goU ⟨[(0, .arr (List.map Vl.Data.c w)), (3, .ptr 0 0), (5, .own 1 (List.length (α := Int) [])), (6, .lit (.int .i64 (0 : Int)))], [.cells [.lit (.int .i64 t.data), .lit (.int .i64 t.index)], .elems 1 (List.map cI [])]⟩ (Gh.to3 (by simp) (by first | simp -dsimp [h1, q2]; done | simp_all)) ?_
  refine (C.spec_l1Ctors_l1 B hB1 hB2 w t [] 0 o' ho17) _ rfl _ ?_
  cases hF
  repeat (first | refine chk.ga ?_ | simp -dsimp)
  all_goals (try omega)

set_option maxRecDepth 100000 in
set_option maxHeartbeats 4000000 in
theorem C.spec_l1Result (B : Nat) (hB1 : 67108864 ≤ B) (hB2 : B ≤ 9223372036854775807) (c' : Vl.Ctor) (index' : Int) (r : Int) (hF : F.spec_l1Result c' index' = some r) : PureCall Try.prog B 99 [.agg [.lit (.string c'.name), .arr (List.map Vl.Ty.c c'.args), .lit (.int .i64 c'.index)], .lit (.int .i64 index')] (.lit (.int .i64 r)) := by
 unfold F.spec_l1Result at hF
 refine PureCall.enterLe Try.func99 (by kernel_rfl) rfl Try.ntmps99 (by simp) (by simp) ?_
 repeat (first | refine chk.ga ?_ | simp -dsimp)
 refine abr.split (fun h1 => ?_) (fun h1 => ?_)
 ·have q2 : (c'.index = 0) := auq h1
  rw [if_pos q2] at hF
  cases hF
  repeat (first | refine chk.ga ?_ | simp -dsimp [h1])
  all_goals (try omega)
 ·have q2 : ¬ (c'.index = 0) := auq h1
  rw [if_neg q2] at hF
  cases hF
  repeat (first | refine chk.ga ?_ | simp -dsimp [h1, q2])
  all_goals (try omega)

set_option maxRecDepth 100000 in
set_option maxHeartbeats 4000000 in
theorem CC.spec_l1Args_l1 (B : Nat) (hB1 : 67108864 ≤ B) (hB2 : B ≤ 9223372036854775807) (t : Vl.Ty) (x2 : Vl.Ctor) : (∀ (out : List Vl.Ty) (i : Nat) (o : List Vl.Ty), F.spec_l1Args_l1 t x2 out i = some o → ∀ (c : Code), navO [1, 1, 1, 0, 1, 0, 0] (bodyOf Try.f72) = some c → ∀ (Q : Exit → ASt → Prop), Q (.exit 0) ⟨[(7, .own 1 (List.length (α := Vl.Ty) o))], [.dead, .elems 2 (List.map Vl.Ty.c o)]⟩ → ALoopU Try.prog B 0 46 (hold c .mk) ⟨[(4, .ptr 0 0), (7, .own 1 (List.length (α := Vl.Ty) out)), (8, .ptr 2 0), (9, .lit (.int .i64 (i : Int)))], [.cells [.lit (.int .i64 t.data), .lit (.int .i64 t.index)], .elems 2 (List.map Vl.Ty.c out), .cells [.lit (.string x2.name), .arr (List.map Vl.Ty.c x2.args), .lit (.int .i64 x2.index)]]⟩ (hold Q .mk)) := by
 refine F.spec_l1Args_l1.partial_correctness t x2
  (fun out i o => ∀ (c : Code), navO [1, 1, 1, 0, 1, 0, 0] (bodyOf Try.f72) = some c → ∀ (Q : Exit → ASt → Prop), Q (.exit 0) ⟨[(7, .own 1 (List.length (α := Vl.Ty) o))], [.dead, .elems 2 (List.map Vl.Ty.c o)]⟩ → ALoopU Try.prog B 0 46 (hold c .mk) ⟨[(4, .ptr 0 0), (7, .own 1 (List.length (α := Vl.Ty) out)), (8, .ptr 2 0), (9, .lit (.int .i64 (i : Int)))], [.cells [.lit (.int .i64 t.data), .lit (.int .i64 t.index)], .elems 2 (List.map Vl.Ty.c out), .cells [.lit (.string x2.name), .arr (List.map Vl.Ty.c x2.args), .lit (.int .i64 x2.index)]]⟩ (hold Q .mk))
  ?_
 ·intro _f_spec_l1Args_l1 ih_spec_l1Args_l1 out i o hF
  intro c hc Q hq
  obtain rfl : c = _ := navEq hc rfl
  refine ALoopU.know fun hk hs => ?_
  have d1 := hs 1 _ rfl
  simp -dsimp [Blk.bnd] at d1
  have d2 := hs 2 _ rfl
  simp -dsimp [Blk.bnd] at d2
  clear hk hs
  refine ALoopU.enter ?_
  repeat (first | refine chk.ga ?_ | simp -dsimp)
  refine abr.split (fun h4 => ?_) (fun h4 => ?_)
  ·have q5 : (i < x2.args.length) := auq h4
   have z6 : ((i : Int) < (x2.args.length : Int)) := auz
   rw [if_pos q5] at hF
   have hF := ob hF; obtain ⟨x7, e8, hF⟩ := hF
   have le8 := lt_of_get e8
   repeat (first | refine chk.ga ?_ | simp -dsimp [h4, z6, ↓e8])
   refine abr.split (fun h9 => ?_) (fun h9 => ?_)
   ·have q10 : (x7.index = (-1)) := auq h9
    rw [if_pos q10] at hF
    repeat (first | refine chk.ga ?_ | simp -dsimp [h4, z6, ↓e8, h9])
    have hF := ob hF; obtain ⟨v, e11, hF⟩ := hF
    refine ((C.spec_l1Result B hB1 hB2 x2 t.index v e11)).goW (by first | simp [h4, z6, ↓e8, h9]; done | simp_all) (by simp) ?_
    have hF := oc hF; obtain ⟨c12, hF⟩ := hF
    have w13 : IntKind.i64.wrap ((i : Int) + 1) = (i : Int) + 1 := wrap_in (by omega) (by omega)
    repeat (first | refine chk.ga ?_ | simp -dsimp [h4, z6, ↓e8, h9, w13])
    refine Again.go ⟨[(4, .ptr 0 0), (7, .own 1 (List.length (α := Vl.Ty) (out ++ [(⟨x7.data, v⟩ : Vl.Ty)]))), (8, .ptr 2 0), (9, .lit (.int .i64 ((i + 1) : Int)))], [.cells [.lit (.int .i64 t.data), .lit (.int .i64 t.index)], .elems 2 (List.map Vl.Ty.c (out ++ [(⟨x7.data, v⟩ : Vl.Ty)])), .cells [.lit (.string x2.name), .arr (List.map Vl.Ty.c x2.args), .lit (.int .i64 x2.index)]]⟩ (Gh.to3 (by simp) (by first | simp -dsimp [h4, z6, ↓e8, h9, w13]; done | simp_all)) ?_
    exact (ih_spec_l1Args_l1 (out ++ [(⟨x7.data, v⟩ : Vl.Ty)]) (i + 1) o hF) _ rfl _ hq
   ·have q10 : ¬ (x7.index = (-1)) := auq h9
    rw [if_neg q10] at hF
    have hF := oc hF; obtain ⟨c14, hF⟩ := hF
    have w15 : IntKind.i64.wrap ((i : Int) + 1) = (i : Int) + 1 := wrap_in (by omega) (by omega)
    repeat (first | refine chk.ga ?_ | simp -dsimp [h4, z6, ↓e8, h9, q10, w15])
    refine Again.go ⟨[(4, .ptr 0 0), (7, .own 1 (List.length (α := Vl.Ty) (out ++ [x7]))), (8, .ptr 2 0), (9, .lit (.int .i64 ((i + 1) : Int)))], [.cells [.lit (.int .i64 t.data), .lit (.int .i64 t.index)], .elems 2 (List.map Vl.Ty.c (out ++ [x7])), .cells [.lit (.string x2.name), .arr (List.map Vl.Ty.c x2.args), .lit (.int .i64 x2.index)]]⟩ (Gh.to3 (by simp) (by first | simp -dsimp [h4, z6, ↓e8, h9, q10, w15]; done | simp_all)) ?_
    exact (ih_spec_l1Args_l1 (out ++ [x7]) (i + 1) o hF) _ rfl _ hq
  ·have q5 : ¬ (i < x2.args.length) := auq h4
   have z6 : ¬ ((i : Int) < (x2.args.length : Int)) := auz
   rw [if_neg q5] at hF
   cases hF
   repeat (first | refine chk.ga ?_ | simp -dsimp [h4, q5, z6])
   refine Leave.go ⟨[(7, .own 1 (List.length (α := Vl.Ty) out))], [.dead, .elems 2 (List.map Vl.Ty.c out)]⟩ (Gh.to3 (by simp) (by first | simp -dsimp [h4, q5, z6]; done | simp_all)) ?_
   exact hq

theorem C.spec_l1Args_l1 (B : Nat) (hB1 : 67108864 ≤ B) (hB2 : B ≤ 9223372036854775807) (t : Vl.Ty) (x2 : Vl.Ctor) (out : List Vl.Ty) (i : Nat) (o : List Vl.Ty) (hF : F.spec_l1Args_l1 t x2 out i = some o) : ∀ (c : Code), navO [1, 1, 1, 0, 1, 0, 0] (bodyOf Try.f72) = some c → ∀ (Q : Exit → ASt → Prop), Q (.exit 0) ⟨[(7, .own 1 (List.length (α := Vl.Ty) o))], [.dead, .elems 2 (List.map Vl.Ty.c o)]⟩ → ALoopU Try.prog B 0 46 (hold c .mk) ⟨[(4, .ptr 0 0), (7, .own 1 (List.length (α := Vl.Ty) out)), (8, .ptr 2 0), (9, .lit (.int .i64 (i : Int)))], [.cells [.lit (.int .i64 t.data), .lit (.int .i64 t.index)], .elems 2 (List.map Vl.Ty.c out), .cells [.lit (.string x2.name), .arr (List.map Vl.Ty.c x2.args), .lit (.int .i64 x2.index)]]⟩ (hold Q .mk) :=
 (CC.spec_l1Args_l1 B hB1 hB2 t x2) out i o hF

set_option maxRecDepth 100000 in
set_option maxHeartbeats 4000000 in
theorem C.spec_l1Args (B : Nat) (hB1 : 67108864 ≤ B) (hB2 : B ≤ 9223372036854775807) (w : List Vl.Data) (t : Vl.Ty) (ctor : Int) (r : List Vl.Ty) (hF : F.spec_l1Args w t ctor = some r) : PureCall Try.prog B 72 [.arr (List.map Vl.Data.c w), .agg [.lit (.int .i64 t.data), .lit (.int .i64 t.index)], .lit (.int .i64 ctor)] (.arr (List.map Vl.Ty.c r)) := by
 unfold F.spec_l1Args at hF
 refine PureCall.enterLe Try.func72 (by kernel_rfl) rfl Try.ntmps72 (by simp) (by simp) ?_
 have hF := ob hF; obtain ⟨x, e1a, hF⟩ := hF
 have e1a := at_some e1a; obtain ⟨ne1, e1⟩ := e1a
 have le1 := lt_of_get e1
 have hF := ob hF; obtain ⟨x2, e3a, hF⟩ := hF
 have e3a := at_some e3a; obtain ⟨ne3, e3⟩ := e3a
 have le3 := lt_of_get e3
 repeat (first | refine chk.ga ?_ | simp -dsimp [↓e1, ↓e3])
 have hF := ob hF; obtain ⟨o', ho16, hF⟩ := hF
 refine ALoop.goU ⟨[(4, .ptr 0 0), (7, .own 1 (List.length (α := Vl.Ty) [])), (8, .ptr 2 0), (9, .lit (.int .i64 (0 : Int)))], [.cells [.lit (.int .i64 t.data), .lit (.int .i64 t.index)], .elems 2 (List.map Vl.Ty.c []), .cells [.lit (.string x2.name), .arr (List.map Vl.Ty.c x2.args), .lit (.int .i64 x2.index)]]⟩ (Gh.to3 (by simp) (by first | simp -dsimp [↓e1, ↓e3]; done | simp_all)) ?_
 refine (C.spec_l1Args_l1 B hB1 hB2 t x2 [] 0 o' ho16) _ rfl _ ?_
 cases hF
 repeat (first | refine chk.ga ?_ | simp -dsimp)
 all_goals (try omega)

set_option maxRecDepth 100000 in
set_option maxHeartbeats 4000000 in
theorem C.spec_l1Slot (B : Nat) (hB1 : 67108864 ≤ B) (hB2 : B ≤ 9223372036854775807) (t : Vl.Ty) (r : Int) (hF : F.spec_l1Slot t = some r) : PureCall Try.prog B 85 [.agg [.lit (.int .i64 t.data), .lit (.int .i64 t.index)]] (.lit (.int .i64 r)) := by
 unfold F.spec_l1Slot at hF
 refine PureCall.enterLe Try.func85 (by kernel_rfl) rfl Try.ntmps85 (by simp) (by simp) ?_
 cases hF
 repeat (first | refine chk.ga ?_ | simp -dsimp)
 all_goals (try omega)

set_option maxRecDepth 100000 in
set_option maxHeartbeats 4000000 in
theorem C.spec_l1Depth (B : Nat) (hB1 : 67108864 ≤ B) (hB2 : B ≤ 9223372036854775807) (table : List Int) (t : Vl.Ty) (r : Int) (hF : F.spec_l1Depth table t = some r) : PureCall Try.prog B 51 [.arr (List.map cI table), .agg [.lit (.int .i64 t.data), .lit (.int .i64 t.index)]] (.lit (.int .i64 r)) := by
 unfold F.spec_l1Depth at hF
 refine PureCall.enterLe Try.func51 (by kernel_rfl) rfl Try.ntmps51 (by simp) (by simp) ?_
 repeat (first | refine chk.ga ?_ | simp -dsimp)
 refine abr.split (fun h1 => ?_) (fun h1 => ?_)
 ·have q2 : (t.data = (-1)) := auq h1
  rw [if_pos q2] at hF
  cases hF
  repeat (first | refine chk.ga ?_ | simp -dsimp [h1])
  all_goals (try omega)
 ·have q2 : ¬ (t.data = (-1)) := auq h1
  rw [if_neg q2] at hF
  repeat (first | refine chk.ga ?_ | simp -dsimp [h1, q2])
  have hF := ob hF; obtain ⟨v, e3, hF⟩ := hF
  refine ((C.spec_l1Slot B hB1 hB2 t v e3)).goW (by first | simp [h1, q2]; done | simp_all) (by simp) ?_
  have hF := ob hF; obtain ⟨x, e4a, hF⟩ := hF
  have e4a := at_some e4a; obtain ⟨ne4, e4⟩ := e4a
  have le4 := lt_of_get e4
  cases hF
  repeat (first | refine chk.ga ?_ | simp -dsimp [h1, q2, ↓e4])
  all_goals (try omega)

set_option maxRecDepth 100000 in
set_option maxHeartbeats 4000000 in
theorem CC.spec_l1Most_l1 (B : Nat) (hB1 : 67108864 ≤ B) (hB2 : B ≤ 9223372036854775807) (table : List Int) (v : List Vl.Ty) : (∀ (most : Int) (i : Nat) (o : Lo Int Int), F.spec_l1Most_l1 table v most i = some o → ∀ (c : Code), navO [1, 1, 1, 0, 1, 0, 0] (bodyOf Try.f84) = some c → ∀ (Q : Exit → ASt → Prop), o.post (fun r => ∀ st, Post Try.prog Try.f84 (fun r' _ => r'.le (.lit (.int .i64 r))) .ret st → Q .ret st) (fun s => Q (.exit 0) ⟨[(10, .lit (.int .i64 s))], []⟩) → ALoopU Try.prog B 0 37 (hold c .mk) ⟨[(1, .arr (List.map cI table)), (9, .arr (List.map Vl.Ty.c v)), (10, .lit (.int .i64 most)), (11, .lit (.int .i64 (i : Int)))], []⟩ (hold Q .mk)) := by
 refine F.spec_l1Most_l1.partial_correctness table v
  (fun most i o => ∀ (c : Code), navO [1, 1, 1, 0, 1, 0, 0] (bodyOf Try.f84) = some c → ∀ (Q : Exit → ASt → Prop), o.post (fun r => ∀ st, Post Try.prog Try.f84 (fun r' _ => r'.le (.lit (.int .i64 r))) .ret st → Q .ret st) (fun s => Q (.exit 0) ⟨[(10, .lit (.int .i64 s))], []⟩) → ALoopU Try.prog B 0 37 (hold c .mk) ⟨[(1, .arr (List.map cI table)), (9, .arr (List.map Vl.Ty.c v)), (10, .lit (.int .i64 most)), (11, .lit (.int .i64 (i : Int)))], []⟩ (hold Q .mk))
  ?_
 ·intro _f_spec_l1Most_l1 ih_spec_l1Most_l1 most i o hF
  intro c hc Q hq
  obtain rfl : c = _ := navEq hc rfl
  refine ALoopU.know fun hk hs => ?_
  have b1 := hk 1
  simp -dsimp at b1
  have b9 := hk 9
  simp -dsimp at b9
  clear hk hs
  refine ALoopU.enter ?_
  repeat (first | refine chk.ga ?_ | simp -dsimp)
  refine abr.split (fun h2 => ?_) (fun h2 => ?_)
  ·have q3 : (i < v.length) := auq h2
   have z4 : ((i : Int) < (v.length : Int)) := auz
   rw [if_pos q3] at hF
   have hF := ob hF; obtain ⟨x, e5, hF⟩ := hF
   have le5 := lt_of_get e5
   repeat (first | refine chk.ga ?_ | simp -dsimp [h2, z4, ↓e5])
   have hF := ob hF; obtain ⟨v6, e7, hF⟩ := hF
   refine ((C.spec_l1Depth B hB1 hB2 table x v6 e7)).goW (by first | simp [h2, z4, ↓e5]; done | simp_all) (by simp) ?_
   repeat (first | refine chk.ga ?_ | simp -dsimp [h2, z4, ↓e5])
   refine abr.split (fun h8 => ?_) (fun h8 => ?_)
   ·have q9 : (v6 = 0) := auq h8
    rw [if_pos q9] at hF
    cases hF
    repeat (first | refine chk.ga ?_ | simp -dsimp [h2, z4, ↓e5, eq_true h8])
    refine Leave.go _ (Gh.refl _) (hq _ ?_)
    repeat (first | refine chk.ga ?_ | simp -dsimp [h2, z4, ↓e5, eq_true h8])
   ·have q9 : ¬ (v6 = 0) := auq h8
    rw [if_neg q9] at hF
    repeat (first | refine chk.ga ?_ | simp -dsimp [h2, z4, ↓e5, h8, q9])
    refine abr.split (fun h10 => ?_) (fun h10 => ?_)
    ·have q11 : (most < v6) := auq h10
     rw [if_pos q11] at hF
     have w12 : IntKind.i64.wrap ((i : Int) + 1) = (i : Int) + 1 := wrap_in (by omega) (by omega)
     repeat (first | refine chk.ga ?_ | simp -dsimp [h2, z4, ↓e5, h8, q9, h10, w12])
     refine Again.go ⟨[(1, .arr (List.map cI table)), (9, .arr (List.map Vl.Ty.c v)), (10, .lit (.int .i64 v6)), (11, .lit (.int .i64 ((i + 1) : Int)))], []⟩ (Gh.to3 (by simp) (by first | simp -dsimp [h2, z4, ↓e5, h8, q9, h10, w12]; done | simp_all)) ?_
     exact (ih_spec_l1Most_l1 v6 (i + 1) o hF) _ rfl _ hq
    ·have q11 : ¬ (most < v6) := auq h10
     rw [if_neg q11] at hF
     have w13 : IntKind.i64.wrap ((i : Int) + 1) = (i : Int) + 1 := wrap_in (by omega) (by omega)
     repeat (first | refine chk.ga ?_ | simp -dsimp [h2, z4, ↓e5, h8, q9, h10, q11, w13])
     refine Again.go ⟨[(1, .arr (List.map cI table)), (9, .arr (List.map Vl.Ty.c v)), (10, .lit (.int .i64 most)), (11, .lit (.int .i64 ((i + 1) : Int)))], []⟩ (Gh.to3 (by simp) (by first | simp -dsimp [h2, z4, ↓e5, h8, q9, h10, q11, w13]; done | simp_all)) ?_
     exact (ih_spec_l1Most_l1 most (i + 1) o hF) _ rfl _ hq
  ·have q3 : ¬ (i < v.length) := auq h2
   have z4 : ¬ ((i : Int) < (v.length : Int)) := auz
   rw [if_neg q3] at hF
   cases hF
   repeat (first | refine chk.ga ?_ | simp -dsimp [h2, q3, z4])
   refine Leave.go ⟨[(10, .lit (.int .i64 most))], []⟩ (Gh.to3 (by simp) (by first | simp -dsimp [h2, q3, z4]; done | simp_all)) ?_
   exact hq

theorem C.spec_l1Most_l1 (B : Nat) (hB1 : 67108864 ≤ B) (hB2 : B ≤ 9223372036854775807) (table : List Int) (v : List Vl.Ty) (most : Int) (i : Nat) (o : Lo Int Int) (hF : F.spec_l1Most_l1 table v most i = some o) : ∀ (c : Code), navO [1, 1, 1, 0, 1, 0, 0] (bodyOf Try.f84) = some c → ∀ (Q : Exit → ASt → Prop), o.post (fun r => ∀ st, Post Try.prog Try.f84 (fun r' _ => r'.le (.lit (.int .i64 r))) .ret st → Q .ret st) (fun s => Q (.exit 0) ⟨[(10, .lit (.int .i64 s))], []⟩) → ALoopU Try.prog B 0 37 (hold c .mk) ⟨[(1, .arr (List.map cI table)), (9, .arr (List.map Vl.Ty.c v)), (10, .lit (.int .i64 most)), (11, .lit (.int .i64 (i : Int)))], []⟩ (hold Q .mk) :=
 (CC.spec_l1Most_l1 B hB1 hB2 table v) most i o hF

set_option maxRecDepth 100000 in
set_option maxHeartbeats 4000000 in
theorem C.spec_l1Most (B : Nat) (hB1 : 67108864 ≤ B) (hB2 : B ≤ 9223372036854775807) (w : List Vl.Data) (table : List Int) (t : Vl.Ty) (ctor : Int) (r : Int) (hF : F.spec_l1Most w table t ctor = some r) : PureCall Try.prog B 84 [.arr (List.map Vl.Data.c w), .arr (List.map cI table), .agg [.lit (.int .i64 t.data), .lit (.int .i64 t.index)], .lit (.int .i64 ctor)] (.lit (.int .i64 r)) := by
 unfold F.spec_l1Most at hF
 refine PureCall.enterLe Try.func84 (by kernel_rfl) rfl Try.ntmps84 (by simp) (by simp) ?_
 repeat (first | refine chk.ga ?_ | simp -dsimp)
 have hF := ob hF; obtain ⟨v, e1, hF⟩ := hF
 refine ((C.spec_l1Args B hB1 hB2 w t ctor v e1)).goW (by simp) (by simp) ?_
 repeat (first | refine chk.ga ?_ | simp -dsimp)
 have hF := ob hF; obtain ⟨o', ho14, hF⟩ := hF
 refine ALoop.goU ⟨[(1, .arr (List.map cI table)), (9, .arr (List.map Vl.Ty.c v)), (10, .lit (.int .i64 (0 : Int))), (11, .lit (.int .i64 (0 : Int)))], []⟩ (Gh.to3 (by simp) (by simp -dsimp)) ?_
 refine (C.spec_l1Most_l1 B hB1 hB2 table v (0 : Int) 0 o' ho14) _ rfl _ ?_
 rcases o' with r0 | sx
 ·dsimp only at hF
  cases hF
  intro st h
  simpa using h
 ·dsimp only at hF
  cases hF
  repeat (first | refine chk.ga ?_ | simp -dsimp)
  all_goals (try omega)

set_option maxRecDepth 100000 in
set_option maxHeartbeats 4000000 in
theorem CC.spec_l1Table_l3 (B : Nat) (hB1 : 67108864 ≤ B) (hB2 : B ≤ 9223372036854775807) (w : List Vl.Data) (n : Nat) (s : Nat) (v : List Int) : (∀ (table10 : List Int) (i : Nat) (o : List Int), F.spec_l1Table_l3 w n s v table10 i = some o → ∀ (c : Code), navO [1, 1, 0, 1, 0, 0, 1, 0, 0, 1, 0, 0, 1, 0, 0, 1, 1, 1, 0, 0] (bodyOf Try.f50) = some c → ∀ (Q : Exit → ASt → Prop), Q (.exit 4) ⟨[(0, .arr (List.map Vl.Data.c w)), (3, .own 0 (List.length (α := Int) o)), (4, .lit (.int .i64 (n : Int))), (5, .lit (.int .i64 (s : Int)))], [.elems 1 (List.map cI o)]⟩ → ALoopU Try.prog B 0 70 (hold c .mk) ⟨[(0, .arr (List.map Vl.Data.c w)), (3, .own 0 (List.length (α := Int) table10)), (4, .lit (.int .i64 (n : Int))), (5, .lit (.int .i64 (s : Int))), (6, .ptr 1 0), (7, .arr (List.map cI v)), (8, .lit (.int .i64 (i : Int)))], [.elems 1 (List.map cI table10), .cells [.lit (.int .i64 (IntKind.i64.wrap ((s : Int).tdiv 4))), .lit (.int .i64 ((s : Int).tmod 4))]]⟩ (hold Q .mk)) := by
 refine F.spec_l1Table_l3.partial_correctness w n s v
  (fun table10 i o => ∀ (c : Code), navO [1, 1, 0, 1, 0, 0, 1, 0, 0, 1, 0, 0, 1, 0, 0, 1, 1, 1, 0, 0] (bodyOf Try.f50) = some c → ∀ (Q : Exit → ASt → Prop), Q (.exit 4) ⟨[(0, .arr (List.map Vl.Data.c w)), (3, .own 0 (List.length (α := Int) o)), (4, .lit (.int .i64 (n : Int))), (5, .lit (.int .i64 (s : Int)))], [.elems 1 (List.map cI o)]⟩ → ALoopU Try.prog B 0 70 (hold c .mk) ⟨[(0, .arr (List.map Vl.Data.c w)), (3, .own 0 (List.length (α := Int) table10)), (4, .lit (.int .i64 (n : Int))), (5, .lit (.int .i64 (s : Int))), (6, .ptr 1 0), (7, .arr (List.map cI v)), (8, .lit (.int .i64 (i : Int)))], [.elems 1 (List.map cI table10), .cells [.lit (.int .i64 (IntKind.i64.wrap ((s : Int).tdiv 4))), .lit (.int .i64 ((s : Int).tmod 4))]]⟩ (hold Q .mk))
  ?_
 ·intro _f_spec_l1Table_l3 ih_spec_l1Table_l3 table10 i o hF
  intro c hc Q hq
  obtain rfl : c = _ := navEq hc rfl
  refine ALoopU.know fun hk hs => ?_
  have b0 := hk 0
  simp -dsimp at b0
  have b7 := hk 7
  simp -dsimp at b7
  have d0 := hs 0 _ rfl
  simp -dsimp [Blk.bnd] at d0
  clear hk hs
  refine ALoopU.enter ?_
  repeat (first | refine chk.ga ?_ | simp -dsimp)
  refine abr.split (fun h11 => ?_) (fun h11 => ?_)
  ·have q12 : (i < v.length) := auq h11
   have z13 : ((i : Int) < (v.length : Int)) := auz
   rw [if_pos q12] at hF
   repeat (first | refine chk.ga ?_ | simp -dsimp [h11, z13])
   refine ADraw.eff [84] [(0, 0), (0, 0), (0, 0), (0, 0), (0, 0), (0, 0), (0, 0), (0, 1), (1, 1)] [1, 1, 1, 1, 1, 1, 1, 1, 1] follows (by kernel_rfl) (by kernel_rfl) (by kernel_rfl) ?_
   have hF := ob hF; obtain ⟨x, e14, hF⟩ := hF
   have le14 := lt_of_get e14
   repeat (first | refine chk.ga ?_ | simp -dsimp [h11, z13, ↓e14])
   have hF := ob hF; obtain ⟨v15, e16, hF⟩ := hF
   refine ((C.spec_l1Most B hB1 hB2 w table10 (⟨IntKind.i64.wrap ((s : Int).tdiv 4), (s : Int).tmod 4⟩ : Vl.Ty) x v15 e16)).elend (by first | simp -dsimp [h11, z13, ↓e14]; done | simp_all) (by simp -dsimp) ?_
   repeat (first | refine chk.ga ?_ | simp -dsimp [h11, z13, ↓e14])
   refine abr.split (fun h17 => ?_) (fun h17 => ?_)
   ·have q18 : (0 < v15) := auq h17
    rw [if_pos q18] at hF
    have hF := ob hF; obtain ⟨x19, e20, hF⟩ := hF
    have le20 := lt_of_get e20
    repeat (first | refine chk.ga ?_ | simp -dsimp [h11, z13, ↓e14, h17, ↓e20])
    refine abr.split (fun h21 => ?_) (fun h21 => ?_)
    ·have q22 : ¬ (x19 = 0) := auq h21
     rw [if_neg q22] at hF
     repeat (first | refine chk.ga ?_ | simp -dsimp [h11, z13, ↓e14, h17, ↓e20, h21, q22])
     refine abr.split (fun h23 => ?_) (fun h23 => ?_)
     ·have q24 : (v15 < x19) := auq h23
      rw [if_pos q24] at hF
      have w25 : IntKind.i64.wrap ((i : Int) + 1) = (i : Int) + 1 := wrap_in (by omega) (by omega)
      repeat (first | refine chk.ga ?_ | simp -dsimp [h11, z13, ↓e14, h17, ↓e20, h21, q22, h23, w25])
      refine Again.go ⟨[(0, .arr (List.map Vl.Data.c w)), (3, .own 0 (List.length (α := Int) (table10.set s v15))), (4, .lit (.int .i64 (n : Int))), (5, .lit (.int .i64 (s : Int))), (6, .ptr 1 0), (7, .arr (List.map cI v)), (8, .lit (.int .i64 ((i + 1) : Int)))], [.elems 1 (List.map cI (table10.set s v15)), .cells [.lit (.int .i64 (IntKind.i64.wrap ((s : Int).tdiv 4))), .lit (.int .i64 ((s : Int).tmod 4))]]⟩ (Gh.to3 (by simp) (by first | simp -dsimp [h11, z13, ↓e14, h17, ↓e20, h21, q22, h23, w25]; done | simp_all)) ?_
      exact (ih_spec_l1Table_l3 (table10.set s v15) (i + 1) o hF) _ rfl _ hq
     ·have q24 : ¬ (v15 < x19) := auq h23
      rw [if_neg q24] at hF
      have w26 : IntKind.i64.wrap ((i : Int) + 1) = (i : Int) + 1 := wrap_in (by omega) (by omega)
      repeat (first | refine chk.ga ?_ | simp -dsimp [h11, z13, ↓e14, h17, ↓e20, h21, q22, h23, q24, w26])
      refine Again.go ⟨[(0, .arr (List.map Vl.Data.c w)), (3, .own 0 (List.length (α := Int) table10)), (4, .lit (.int .i64 (n : Int))), (5, .lit (.int .i64 (s : Int))), (6, .ptr 1 0), (7, .arr (List.map cI v)), (8, .lit (.int .i64 ((i + 1) : Int)))], [.elems 1 (List.map cI table10), .cells [.lit (.int .i64 (IntKind.i64.wrap ((s : Int).tdiv 4))), .lit (.int .i64 ((s : Int).tmod 4))]]⟩ (Gh.to3 (by simp) (by first | simp -dsimp [h11, z13, ↓e14, h17, ↓e20, h21, q22, h23, q24, w26]; done | simp_all)) ?_
      exact (ih_spec_l1Table_l3 table10 (i + 1) o hF) _ rfl _ hq
    ·have q22 : (x19 = 0) := auq h21
     rw [if_pos q22] at hF
     have w27 : IntKind.i64.wrap ((i : Int) + 1) = (i : Int) + 1 := wrap_in (by omega) (by omega)
     repeat (first | refine chk.ga ?_ | simp -dsimp [h11, z13, ↓e14, h17, ↓e20, eq_true h21, eq_true q22, w27])
     refine Again.go ⟨[(0, .arr (List.map Vl.Data.c w)), (3, .own 0 (List.length (α := Int) (table10.set s v15))), (4, .lit (.int .i64 (n : Int))), (5, .lit (.int .i64 (s : Int))), (6, .ptr 1 0), (7, .arr (List.map cI v)), (8, .lit (.int .i64 ((i + 1) : Int)))], [.elems 1 (List.map cI (table10.set s v15)), .cells [.lit (.int .i64 (IntKind.i64.wrap ((s : Int).tdiv 4))), .lit (.int .i64 ((s : Int).tmod 4))]]⟩ (Gh.to3 (by simp) (by first | simp -dsimp [h11, z13, ↓e14, h17, ↓e20, eq_true h21, eq_true q22, w27]; done | simp_all)) ?_
     exact (ih_spec_l1Table_l3 (table10.set s v15) (i + 1) o hF) _ rfl _ hq
   ·have q18 : ¬ (0 < v15) := auq h17
    rw [if_neg q18] at hF
    have w28 : IntKind.i64.wrap ((i : Int) + 1) = (i : Int) + 1 := wrap_in (by omega) (by omega)
    repeat (first | refine chk.ga ?_ | simp -dsimp [h11, z13, ↓e14, h17, q18, w28])
    refine Again.go ⟨[(0, .arr (List.map Vl.Data.c w)), (3, .own 0 (List.length (α := Int) table10)), (4, .lit (.int .i64 (n : Int))), (5, .lit (.int .i64 (s : Int))), (6, .ptr 1 0), (7, .arr (List.map cI v)), (8, .lit (.int .i64 ((i + 1) : Int)))], [.elems 1 (List.map cI table10), .cells [.lit (.int .i64 (IntKind.i64.wrap ((s : Int).tdiv 4))), .lit (.int .i64 ((s : Int).tmod 4))]]⟩ (Gh.to3 (by simp) (by first | simp -dsimp [h11, z13, ↓e14, h17, q18, w28]; done | simp_all)) ?_
    exact (ih_spec_l1Table_l3 table10 (i + 1) o hF) _ rfl _ hq
  ·have q12 : ¬ (i < v.length) := auq h11
   have z13 : ¬ ((i : Int) < (v.length : Int)) := auz
   rw [if_neg q12] at hF
   cases hF
   repeat (first | refine chk.ga ?_ | simp -dsimp [h11, q12, z13])
   refine Leave.go ⟨[(0, .arr (List.map Vl.Data.c w)), (3, .own 0 (List.length (α := Int) table10)), (4, .lit (.int .i64 (n : Int))), (5, .lit (.int .i64 (s : Int)))], [.elems 1 (List.map cI table10)]⟩ (Gh.to3 (by simp) (by first | simp -dsimp [h11, q12, z13]; done | simp_all)) ?_
   exact hq

theorem C.spec_l1Table_l3 (B : Nat) (hB1 : 67108864 ≤ B) (hB2 : B ≤ 9223372036854775807) (w : List Vl.Data) (n : Nat) (s : Nat) (v : List Int) (table10 : List Int) (i : Nat) (o : List Int) (hF : F.spec_l1Table_l3 w n s v table10 i = some o) : ∀ (c : Code), navO [1, 1, 0, 1, 0, 0, 1, 0, 0, 1, 0, 0, 1, 0, 0, 1, 1, 1, 0, 0] (bodyOf Try.f50) = some c → ∀ (Q : Exit → ASt → Prop), Q (.exit 4) ⟨[(0, .arr (List.map Vl.Data.c w)), (3, .own 0 (List.length (α := Int) o)), (4, .lit (.int .i64 (n : Int))), (5, .lit (.int .i64 (s : Int)))], [.elems 1 (List.map cI o)]⟩ → ALoopU Try.prog B 0 70 (hold c .mk) ⟨[(0, .arr (List.map Vl.Data.c w)), (3, .own 0 (List.length (α := Int) table10)), (4, .lit (.int .i64 (n : Int))), (5, .lit (.int .i64 (s : Int))), (6, .ptr 1 0), (7, .arr (List.map cI v)), (8, .lit (.int .i64 (i : Int)))], [.elems 1 (List.map cI table10), .cells [.lit (.int .i64 (IntKind.i64.wrap ((s : Int).tdiv 4))), .lit (.int .i64 ((s : Int).tmod 4))]]⟩ (hold Q .mk) :=
 (CC.spec_l1Table_l3 B hB1 hB2 w n s v) table10 i o hF

set_option maxRecDepth 100000 in
set_option maxHeartbeats 4000000 in
theorem CC.spec_l1Table_l2 (B : Nat) (hB1 : 67108864 ≤ B) (hB2 : B ≤ 9223372036854775807) (w : List Vl.Data) (n : Nat) : (∀ (table5 : List Int) (s : Nat) (o : List Int), F.spec_l1Table_l2 w n table5 s = some o → ∀ (c : Code), navO [1, 1, 0, 1, 0, 0, 1, 0, 0, 1, 0, 0] (bodyOf Try.f50) = some c → ∀ (Q : Exit → ASt → Prop), Q (.exit 2) ⟨[(0, .arr (List.map Vl.Data.c w)), (3, .own 0 (List.length (α := Int) o)), (4, .lit (.int .i64 (n : Int)))], [.elems 1 (List.map cI o)]⟩ → ALoopU Try.prog B 0 70 (hold c .mk) ⟨[(0, .arr (List.map Vl.Data.c w)), (3, .own 0 (List.length (α := Int) table5)), (4, .lit (.int .i64 (n : Int))), (5, .lit (.int .i64 (s : Int)))], [.elems 1 (List.map cI table5)]⟩ (hold Q .mk)) := by
 refine F.spec_l1Table_l2.partial_correctness w n
  (fun table5 s o => ∀ (c : Code), navO [1, 1, 0, 1, 0, 0, 1, 0, 0, 1, 0, 0] (bodyOf Try.f50) = some c → ∀ (Q : Exit → ASt → Prop), Q (.exit 2) ⟨[(0, .arr (List.map Vl.Data.c w)), (3, .own 0 (List.length (α := Int) o)), (4, .lit (.int .i64 (n : Int)))], [.elems 1 (List.map cI o)]⟩ → ALoopU Try.prog B 0 70 (hold c .mk) ⟨[(0, .arr (List.map Vl.Data.c w)), (3, .own 0 (List.length (α := Int) table5)), (4, .lit (.int .i64 (n : Int))), (5, .lit (.int .i64 (s : Int)))], [.elems 1 (List.map cI table5)]⟩ (hold Q .mk))
  ?_
 ·intro _f_spec_l1Table_l2 ih_spec_l1Table_l2 table5 s o hF
  intro c hc Q hq
  obtain rfl : c = _ := navEq hc rfl
  refine ALoopU.know fun hk hs => ?_
  have b0 := hk 0
  simp -dsimp at b0
  have d0 := hs 0 _ rfl
  simp -dsimp [Blk.bnd] at d0
  clear hk hs
  refine ALoopU.enter ?_
  repeat (first | refine chk.ga ?_ | simp -dsimp)
  refine abr.split (fun h6 => ?_) (fun h6 => ?_)
  ·have q7 : (s < table5.length) := auq h6
   have z8 : ((s : Int) < (table5.length : Int)) := auz
   rw [if_pos q7] at hF
   repeat (first | refine chk.ga ?_ | simp -dsimp [h6, z8])
   have hF := ob hF; obtain ⟨v, e9, hF⟩ := hF
   refine ((C.spec_l1Ctors B hB1 hB2 w (⟨IntKind.i64.wrap ((s : Int).tdiv 4), (s : Int).tmod 4⟩ : Vl.Ty) v e9)).goW (by first | simp [h6, z8]; done | simp_all) (by simp) ?_
   repeat (first | refine chk.ga ?_ | simp -dsimp [h6, z8])
   have hF := ob hF; obtain ⟨o', ho29, hF⟩ := hF
   refine ALoop.goU ⟨[(0, .arr (List.map Vl.Data.c w)), (3, .own 0 (List.length (α := Int) table5)), (4, .lit (.int .i64 (n : Int))), (5, .lit (.int .i64 (s : Int))), (6, .ptr 1 0), (7, .arr (List.map cI v)), (8, .lit (.int .i64 (0 : Int)))], [.elems 1 (List.map cI table5), .cells [.lit (.int .i64 (IntKind.i64.wrap ((s : Int).tdiv 4))), .lit (.int .i64 ((s : Int).tmod 4))]]⟩ (Gh.to3 (by simp) (by first | simp -dsimp [h6, z8]; done | simp_all)) ?_
   refine (C.spec_l1Table_l3 B hB1 hB2 w n s v table5 0 o' ho29) _ rfl _ ?_
   have hF := oc hF; obtain ⟨c30, hF⟩ := hF
   have w31 : IntKind.i64.wrap ((s : Int) + 1) = (s : Int) + 1 := wrap_in (by omega) (by omega)
   repeat (first | refine chk.ga ?_ | simp -dsimp [w31])
   refine Again.go ⟨[(0, .arr (List.map Vl.Data.c w)), (3, .own 0 (List.length (α := Int) o')), (4, .lit (.int .i64 (n : Int))), (5, .lit (.int .i64 ((s + 1) : Int)))], [.elems 1 (List.map cI o')]⟩ (Gh.to3 (by simp) (by first | simp -dsimp [w31]; done | simp_all)) ?_
   exact (ih_spec_l1Table_l2 o' (s + 1) o hF) _ rfl _ hq
  ·have q7 : ¬ (s < table5.length) := auq h6
   have z8 : ¬ ((s : Int) < (table5.length : Int)) := auz
   rw [if_neg q7] at hF
   cases hF
   repeat (first | refine chk.ga ?_ | simp -dsimp [h6, q7, z8])
   refine Leave.go ⟨[(0, .arr (List.map Vl.Data.c w)), (3, .own 0 (List.length (α := Int) table5)), (4, .lit (.int .i64 (n : Int)))], [.elems 1 (List.map cI table5)]⟩ (Gh.to3 (by simp) (by first | simp -dsimp [h6, q7, z8]; done | simp_all)) ?_
   exact hq

theorem C.spec_l1Table_l2 (B : Nat) (hB1 : 67108864 ≤ B) (hB2 : B ≤ 9223372036854775807) (w : List Vl.Data) (n : Nat) (table5 : List Int) (s : Nat) (o : List Int) (hF : F.spec_l1Table_l2 w n table5 s = some o) : ∀ (c : Code), navO [1, 1, 0, 1, 0, 0, 1, 0, 0, 1, 0, 0] (bodyOf Try.f50) = some c → ∀ (Q : Exit → ASt → Prop), Q (.exit 2) ⟨[(0, .arr (List.map Vl.Data.c w)), (3, .own 0 (List.length (α := Int) o)), (4, .lit (.int .i64 (n : Int)))], [.elems 1 (List.map cI o)]⟩ → ALoopU Try.prog B 0 70 (hold c .mk) ⟨[(0, .arr (List.map Vl.Data.c w)), (3, .own 0 (List.length (α := Int) table5)), (4, .lit (.int .i64 (n : Int))), (5, .lit (.int .i64 (s : Int)))], [.elems 1 (List.map cI table5)]⟩ (hold Q .mk) :=
 (CC.spec_l1Table_l2 B hB1 hB2 w n) table5 s o hF

set_option maxRecDepth 100000 in
set_option maxHeartbeats 4000000 in
theorem CC.spec_l1Table_l1 (B : Nat) (hB1 : 67108864 ≤ B) (hB2 : B ≤ 9223372036854775807) (w : List Vl.Data) : (∀ (table : List Int) (n : Nat) (o : List Int), F.spec_l1Table_l1 w table n = some o → ∀ (c : Code), navO [1, 1, 0, 1, 0, 0] (bodyOf Try.f50) = some c → ∀ (Q : Exit → ASt → Prop), Q (.exit 0) ⟨[(3, .own 0 (List.length (α := Int) o))], [.elems 1 (List.map cI o)]⟩ → ALoopU Try.prog B 0 70 (hold c .mk) ⟨[(0, .arr (List.map Vl.Data.c w)), (3, .own 0 (List.length (α := Int) table)), (4, .lit (.int .i64 (n : Int)))], [.elems 1 (List.map cI table)]⟩ (hold Q .mk)) := by
 refine F.spec_l1Table_l1.partial_correctness w
  (fun table n o => ∀ (c : Code), navO [1, 1, 0, 1, 0, 0] (bodyOf Try.f50) = some c → ∀ (Q : Exit → ASt → Prop), Q (.exit 0) ⟨[(3, .own 0 (List.length (α := Int) o))], [.elems 1 (List.map cI o)]⟩ → ALoopU Try.prog B 0 70 (hold c .mk) ⟨[(0, .arr (List.map Vl.Data.c w)), (3, .own 0 (List.length (α := Int) table)), (4, .lit (.int .i64 (n : Int)))], [.elems 1 (List.map cI table)]⟩ (hold Q .mk))
  ?_
 ·intro _f_spec_l1Table_l1 ih_spec_l1Table_l1 table n o hF
  intro c hc Q hq
  obtain rfl : c = _ := navEq hc rfl
  refine ALoopU.know fun hk hs => ?_
  have b0 := hk 0
  simp -dsimp at b0
  have d0 := hs 0 _ rfl
  simp -dsimp [Blk.bnd] at d0
  clear hk hs
  refine ALoopU.enter ?_
  repeat (first | refine chk.ga ?_ | simp -dsimp)
  refine abr.split (fun h2 => ?_) (fun h2 => ?_)
  ·have q3 : (n ≤ table.length) := auq h2
   have z4 : ((n : Int) ≤ (table.length : Int)) := auz
   rw [if_pos q3] at hF
   repeat (first | refine chk.ga ?_ | simp -dsimp [h2, z4])
   have hF := ob hF; obtain ⟨o'33, ho32, hF⟩ := hF
   refine ALoop.goU ⟨[(0, .arr (List.map Vl.Data.c w)), (3, .own 0 (List.length (α := Int) table)), (4, .lit (.int .i64 (n : Int))), (5, .lit (.int .i64 (0 : Int)))], [.elems 1 (List.map cI table)]⟩ (Gh.to3 (by simp) (by first | simp -dsimp [h2, z4]; done | simp_all)) ?_
   refine (C.spec_l1Table_l2 B hB1 hB2 w n table 0 o'33 ho32) _ rfl _ ?_
   have hF := oc hF; obtain ⟨c34, hF⟩ := hF
   have w35 : IntKind.i64.wrap ((n : Int) + 1) = (n : Int) + 1 := wrap_in (by omega) (by omega)
   repeat (first | refine chk.ga ?_ | simp -dsimp [w35])
   refine Again.go ⟨[(0, .arr (List.map Vl.Data.c w)), (3, .own 0 (List.length (α := Int) o'33)), (4, .lit (.int .i64 ((n + 1) : Int)))], [.elems 1 (List.map cI o'33)]⟩ (Gh.to3 (by simp) (by first | simp -dsimp [w35]; done | simp_all)) ?_
   exact (ih_spec_l1Table_l1 o'33 (n + 1) o hF) _ rfl _ hq
  ·have q3 : ¬ (n ≤ table.length) := auq h2
   have z4 : ¬ ((n : Int) ≤ (table.length : Int)) := auz
   rw [if_neg q3] at hF
   cases hF
   repeat (first | refine chk.ga ?_ | simp -dsimp [h2, q3, z4])
   refine Leave.go ⟨[(3, .own 0 (List.length (α := Int) table))], [.elems 1 (List.map cI table)]⟩ (Gh.to3 (by simp) (by first | simp -dsimp [h2, q3, z4]; done | simp_all)) ?_
   exact hq

theorem C.spec_l1Table_l1 (B : Nat) (hB1 : 67108864 ≤ B) (hB2 : B ≤ 9223372036854775807) (w : List Vl.Data) (table : List Int) (n : Nat) (o : List Int) (hF : F.spec_l1Table_l1 w table n = some o) : ∀ (c : Code), navO [1, 1, 0, 1, 0, 0] (bodyOf Try.f50) = some c → ∀ (Q : Exit → ASt → Prop), Q (.exit 0) ⟨[(3, .own 0 (List.length (α := Int) o))], [.elems 1 (List.map cI o)]⟩ → ALoopU Try.prog B 0 70 (hold c .mk) ⟨[(0, .arr (List.map Vl.Data.c w)), (3, .own 0 (List.length (α := Int) table)), (4, .lit (.int .i64 (n : Int)))], [.elems 1 (List.map cI table)]⟩ (hold Q .mk) :=
 (CC.spec_l1Table_l1 B hB1 hB2 w) table n o hF

set_option maxRecDepth 100000 in
set_option maxHeartbeats 4000000 in
theorem C.spec_l1Table (B : Nat) (hB1 : 67108864 ≤ B) (hB2 : B ≤ 9223372036854775807) (w : List Vl.Data) (r : List Int) (hF : F.spec_l1Table w = some r) : PureCall Try.prog B 50 [.arr (List.map Vl.Data.c w)] (.arr (List.map cI r)) := by
 unfold F.spec_l1Table at hF
 refine PureCall.enterLe Try.func50 (by kernel_rfl) rfl Try.ntmps50 (by simp) (by simp) ?_
 have hF := oc hF; obtain ⟨c1, hF⟩ := hF
 repeat (first | refine chk.ga ?_ | simp -dsimp)
 have hF := ob hF; obtain ⟨o'37, ho36, hF⟩ := hF
 refine ALoop.goU ⟨[(0, .arr (List.map Vl.Data.c w)), (3, .own 0 (List.length (α := Int) (List.replicate ((IntKind.i64.wrap ((w.length : Int) * 4)).toNat) (0 : Int)))), (4, .lit (.int .i64 (0 : Int)))], [.elems 1 (List.map cI (List.replicate ((IntKind.i64.wrap ((w.length : Int) * 4)).toNat) (0 : Int)))]⟩ (Gh.to3 (by simp) (by simp -dsimp)) ?_
 refine (C.spec_l1Table_l1 B hB1 hB2 w (List.replicate ((IntKind.i64.wrap ((w.length : Int) * 4)).toNat) (0 : Int)) 0 o'37 ho36) _ rfl _ ?_
 cases hF
 repeat (first | refine chk.ga ?_ | simp -dsimp)
 all_goals (try omega)

set_option maxRecDepth 100000 in
set_option maxHeartbeats 4000000 in
theorem C.spec_l17Rd_num (B : Nat) (hB1 : 67108864 ≤ B) (hB2 : B ≤ 9223372036854775807) (r' : Vl.T_spec_l17Rd) (list : List Int) (r : Int × Vl.T_spec_l17Rd) (hF : F.spec_l17Rd_num r' list = some r) : MutCall Try.prog B 40 [.arr (List.map cU r'.f0), .lit (.int .i64 r'.f1)] [.ptr 0 0, .arr (List.map cI list)] (.lit (.int .i64 r.1)) [.arr (List.map cU r.2.f0), .lit (.int .i64 r.2.f1)] := by
 unfold F.spec_l17Rd_num at hF
 refine MutCall.enter Try.func40 (by kernel_rfl) rfl Try.ntmps40 (by simp) (by simp) (by simp) (by simp) ?_
 repeat (first | refine chk.ga ?_ | simp -dsimp)
 have hF := ob hF; obtain ⟨v, e1, hF⟩ := hF
 refine ((C.spec_l17Rd_pick B hB1 hB2 r' (list.length : Int) v e1)).go 0 rfl (by simp) (by simp) (by simp) ?_
 have hF := ob hF; obtain ⟨x, e2a, hF⟩ := hF
 have e2a := at_some e2a; obtain ⟨ne2, e2⟩ := e2a
 have le2 := lt_of_get e2
 cases hF
 repeat (first | refine chk.ga ?_ | simp -dsimp [↓e2])
 all_goals (try omega)

set_option maxRecDepth 100000 in
set_option maxHeartbeats 4000000 in
theorem CC.spec_l2Draw_l1 (B : Nat) (hB1 : 67108864 ≤ B) (hB2 : B ≤ 9223372036854775807) (r' : Vl.T_spec_l17Rd) (w : List Vl.Data) (table : List Int) (t : Vl.Ty) (depth : Int) (v4 : List Int) : (∀ (fine : List Int) (i : Nat) (o : List Int), F.spec_l2Draw_l1 r' w table t depth v4 fine i = some o → ∀ (c : Code), navO [1, 1, 1, 1, 0, 1, 0, 0] (bodyOf Try.f52) = some c → ∀ (Q : Exit → ASt → Prop), Q (.exit 0) ⟨[(0, .ptr 0 0), (1, .arr (List.map Vl.Data.c w)), (2, .arr (List.map cI table)), (4, .lit (.int .i64 depth)), (8, .ptr 1 0), (10, .ptr 2 0), (12, .own 3 (List.length (α := Int) o))], [.cells [.arr (List.map cU r'.f0), .lit (.int .i64 r'.f1)], .cells [.lit (.int .i64 t.data), .lit (.int .i64 t.index)], .cells [.lit (.int .i64 0), .lit (.int .i64 0), .lit (.slice none 0 0)], .elems 1 (List.map cI o)]⟩ → ALoopU Try.prog B 1 98 (hold c .mk) ⟨[(0, .ptr 0 0), (1, .arr (List.map Vl.Data.c w)), (2, .arr (List.map cI table)), (4, .lit (.int .i64 depth)), (8, .ptr 1 0), (10, .ptr 2 0), (11, .arr (List.map cI v4)), (12, .own 3 (List.length (α := Int) fine)), (13, .lit (.int .i64 (i : Int)))], [.cells [.arr (List.map cU r'.f0), .lit (.int .i64 r'.f1)], .cells [.lit (.int .i64 t.data), .lit (.int .i64 t.index)], .cells [.lit (.int .i64 0), .lit (.int .i64 0), .lit (.slice none 0 0)], .elems 1 (List.map cI fine)]⟩ (hold Q .mk)) := by
 refine F.spec_l2Draw_l1.partial_correctness r' w table t depth v4
  (fun fine i o => ∀ (c : Code), navO [1, 1, 1, 1, 0, 1, 0, 0] (bodyOf Try.f52) = some c → ∀ (Q : Exit → ASt → Prop), Q (.exit 0) ⟨[(0, .ptr 0 0), (1, .arr (List.map Vl.Data.c w)), (2, .arr (List.map cI table)), (4, .lit (.int .i64 depth)), (8, .ptr 1 0), (10, .ptr 2 0), (12, .own 3 (List.length (α := Int) o))], [.cells [.arr (List.map cU r'.f0), .lit (.int .i64 r'.f1)], .cells [.lit (.int .i64 t.data), .lit (.int .i64 t.index)], .cells [.lit (.int .i64 0), .lit (.int .i64 0), .lit (.slice none 0 0)], .elems 1 (List.map cI o)]⟩ → ALoopU Try.prog B 1 98 (hold c .mk) ⟨[(0, .ptr 0 0), (1, .arr (List.map Vl.Data.c w)), (2, .arr (List.map cI table)), (4, .lit (.int .i64 depth)), (8, .ptr 1 0), (10, .ptr 2 0), (11, .arr (List.map cI v4)), (12, .own 3 (List.length (α := Int) fine)), (13, .lit (.int .i64 (i : Int)))], [.cells [.arr (List.map cU r'.f0), .lit (.int .i64 r'.f1)], .cells [.lit (.int .i64 t.data), .lit (.int .i64 t.index)], .cells [.lit (.int .i64 0), .lit (.int .i64 0), .lit (.slice none 0 0)], .elems 1 (List.map cI fine)]⟩ (hold Q .mk))
  ?_
 ·intro _f_spec_l2Draw_l1 ih_spec_l2Draw_l1 fine i o hF
  intro c hc Q hq
  obtain rfl : c = _ := navEq hc rfl
  refine ALoopU.know fun hk hs => ?_
  have b1 := hk 1
  simp -dsimp at b1
  have b2 := hk 2
  simp -dsimp at b2
  have b11 := hk 11
  simp -dsimp at b11
  have d0 := hs 0 _ rfl
  simp -dsimp [Blk.bnd] at d0
  have d3 := hs 3 _ rfl
  simp -dsimp [Blk.bnd] at d3
  clear hk hs
  refine ALoopU.enter ?_
  repeat (first | refine chk.ga ?_ | simp -dsimp)
  refine abr.split (fun h6 => ?_) (fun h6 => ?_)
  ·have q7 : (i < v4.length) := auq h6
   have z8 : ((i : Int) < (v4.length : Int)) := auz
   rw [if_pos q7] at hF
   repeat (first | refine chk.ga ?_ | simp -dsimp [h6, z8])
   refine ADraw.simple follows (by kernel_rfl) (by kernel_rfl) ?_
   have hF := ob hF; obtain ⟨x, e9, hF⟩ := hF
   have le9 := lt_of_get e9
   repeat (first | refine chk.ga ?_ | simp -dsimp [h6, z8, ↓e9])
   have hF := ob hF; obtain ⟨v10, e11, hF⟩ := hF
   refine ((C.spec_l1Most B hB1 hB2 w table t x v10 e11)).pgoW (by first | simp [h6, z8, ↓e9]; done | simp_all) (by simp) ?_
   repeat (first | refine chk.ga ?_ | simp -dsimp [h6, z8, ↓e9])
   refine abr.split (fun h12 => ?_) (fun h12 => ?_)
   ·have q13 : (0 < v10) := auq h12
    rw [if_pos q13] at hF
    repeat (first | refine chk.ga ?_ | simp -dsimp [h6, z8, ↓e9, h12])
    refine abr.split (fun h14 => ?_) (fun h14 => ?_)
    ·have q15 : ¬ (v10 ≤ depth) := auq h14
     rw [if_neg q15] at hF
     repeat (first | refine chk.ga ?_ | simp -dsimp [h6, z8, ↓e9, h12, h14, q15])
     have hF := ob hF; obtain ⟨v16, e17, hF⟩ := hF
     refine ((C.spec_l1Depth B hB1 hB2 table t v16 e17)).goW (by first | simp [h6, z8, ↓e9, h12, h14, q15]; done | simp_all) (by simp) ?_
     repeat (first | refine chk.ga ?_ | simp -dsimp [h6, z8, ↓e9, h12, h14, q15])
     refine abr.split (fun h18 => ?_) (fun h18 => ?_)
     ·have q19 : (v10 = v16) := auq h18
      rw [if_pos q19] at hF
      have hF := oc hF; obtain ⟨c20, hF⟩ := hF
      have w21 : IntKind.i64.wrap ((i : Int) + 1) = (i : Int) + 1 := wrap_in (by omega) (by omega)
      repeat (first | refine chk.ga ?_ | simp -dsimp [h6, z8, ↓e9, h12, h14, q15, h18, w21])
      refine Again.go ⟨[(0, .ptr 0 0), (1, .arr (List.map Vl.Data.c w)), (2, .arr (List.map cI table)), (4, .lit (.int .i64 depth)), (8, .ptr 1 0), (10, .ptr 2 0), (11, .arr (List.map cI v4)), (12, .own 3 (List.length (α := Int) (fine ++ [x]))), (13, .lit (.int .i64 ((i + 1) : Int)))], [.cells [.arr (List.map cU r'.f0), .lit (.int .i64 r'.f1)], .cells [.lit (.int .i64 t.data), .lit (.int .i64 t.index)], .cells [.lit (.int .i64 0), .lit (.int .i64 0), .lit (.slice none 0 0)], .elems 1 (List.map cI (fine ++ [x]))]⟩ (Gh.to3 (by simp) (by first | simp -dsimp [h6, z8, ↓e9, h12, h14, q15, h18, w21]; done | simp_all)) ?_
      exact (ih_spec_l2Draw_l1 (fine ++ [x]) (i + 1) o hF) _ rfl _ hq
     ·have q19 : ¬ (v10 = v16) := auq h18
      rw [if_neg q19] at hF
      have w22 : IntKind.i64.wrap ((i : Int) + 1) = (i : Int) + 1 := wrap_in (by omega) (by omega)
      repeat (first | refine chk.ga ?_ | simp -dsimp [h6, z8, ↓e9, h12, h14, q15, h18, q19, w22])
      refine Again.go ⟨[(0, .ptr 0 0), (1, .arr (List.map Vl.Data.c w)), (2, .arr (List.map cI table)), (4, .lit (.int .i64 depth)), (8, .ptr 1 0), (10, .ptr 2 0), (11, .arr (List.map cI v4)), (12, .own 3 (List.length (α := Int) fine)), (13, .lit (.int .i64 ((i + 1) : Int)))], [.cells [.arr (List.map cU r'.f0), .lit (.int .i64 r'.f1)], .cells [.lit (.int .i64 t.data), .lit (.int .i64 t.index)], .cells [.lit (.int .i64 0), .lit (.int .i64 0), .lit (.slice none 0 0)], .elems 1 (List.map cI fine)]⟩ (Gh.to3 (by simp) (by first | simp -dsimp [h6, z8, ↓e9, h12, h14, q15, h18, q19, w22]; done | simp_all)) ?_
      exact (ih_spec_l2Draw_l1 fine (i + 1) o hF) _ rfl _ hq
    ·have q15 : (v10 ≤ depth) := auq h14
     rw [if_pos q15] at hF
     have hF := oc hF; obtain ⟨c23, hF⟩ := hF
     have w24 : IntKind.i64.wrap ((i : Int) + 1) = (i : Int) + 1 := wrap_in (by omega) (by omega)
     repeat (first | refine chk.ga ?_ | simp -dsimp [h6, z8, ↓e9, h12, h14, q15, w24])
     refine Again.go ⟨[(0, .ptr 0 0), (1, .arr (List.map Vl.Data.c w)), (2, .arr (List.map cI table)), (4, .lit (.int .i64 depth)), (8, .ptr 1 0), (10, .ptr 2 0), (11, .arr (List.map cI v4)), (12, .own 3 (List.length (α := Int) (fine ++ [x]))), (13, .lit (.int .i64 ((i + 1) : Int)))], [.cells [.arr (List.map cU r'.f0), .lit (.int .i64 r'.f1)], .cells [.lit (.int .i64 t.data), .lit (.int .i64 t.index)], .cells [.lit (.int .i64 0), .lit (.int .i64 0), .lit (.slice none 0 0)], .elems 1 (List.map cI (fine ++ [x]))]⟩ (Gh.to3 (by simp) (by first | simp -dsimp [h6, z8, ↓e9, h12, h14, q15, w24]; done | simp_all)) ?_
     exact (ih_spec_l2Draw_l1 (fine ++ [x]) (i + 1) o hF) _ rfl _ hq
   ·have q13 : ¬ (0 < v10) := auq h12
    rw [if_neg q13] at hF
    have w25 : IntKind.i64.wrap ((i : Int) + 1) = (i : Int) + 1 := wrap_in (by omega) (by omega)
    repeat (first | refine chk.ga ?_ | simp -dsimp [h6, z8, ↓e9, h12, q13, w25])
    refine Again.go ⟨[(0, .ptr 0 0), (1, .arr (List.map Vl.Data.c w)), (2, .arr (List.map cI table)), (4, .lit (.int .i64 depth)), (8, .ptr 1 0), (10, .ptr 2 0), (11, .arr (List.map cI v4)), (12, .own 3 (List.length (α := Int) fine)), (13, .lit (.int .i64 ((i + 1) : Int)))], [.cells [.arr (List.map cU r'.f0), .lit (.int .i64 r'.f1)], .cells [.lit (.int .i64 t.data), .lit (.int .i64 t.index)], .cells [.lit (.int .i64 0), .lit (.int .i64 0), .lit (.slice none 0 0)], .elems 1 (List.map cI fine)]⟩ (Gh.to3 (by simp) (by first | simp -dsimp [h6, z8, ↓e9, h12, q13, w25]; done | simp_all)) ?_
    exact (ih_spec_l2Draw_l1 fine (i + 1) o hF) _ rfl _ hq
  ·have q7 : ¬ (i < v4.length) := auq h6
   have z8 : ¬ ((i : Int) < (v4.length : Int)) := auz
   rw [if_neg q7] at hF
   cases hF
   repeat (first | refine chk.ga ?_ | simp -dsimp [h6, q7, z8])
   refine Leave.go ⟨[(0, .ptr 0 0), (1, .arr (List.map Vl.Data.c w)), (2, .arr (List.map cI table)), (4, .lit (.int .i64 depth)), (8, .ptr 1 0), (10, .ptr 2 0), (12, .own 3 (List.length (α := Int) fine))], [.cells [.arr (List.map cU r'.f0), .lit (.int .i64 r'.f1)], .cells [.lit (.int .i64 t.data), .lit (.int .i64 t.index)], .cells [.lit (.int .i64 0), .lit (.int .i64 0), .lit (.slice none 0 0)], .elems 1 (List.map cI fine)]⟩ (Gh.to3 (by simp) (by first | simp -dsimp [h6, q7, z8]; done | simp_all)) ?_
   exact hq

theorem C.spec_l2Draw_l1 (B : Nat) (hB1 : 67108864 ≤ B) (hB2 : B ≤ 9223372036854775807) (r' : Vl.T_spec_l17Rd) (w : List Vl.Data) (table : List Int) (t : Vl.Ty) (depth : Int) (v4 : List Int) (fine : List Int) (i : Nat) (o : List Int) (hF : F.spec_l2Draw_l1 r' w table t depth v4 fine i = some o) : ∀ (c : Code), navO [1, 1, 1, 1, 0, 1, 0, 0] (bodyOf Try.f52) = some c → ∀ (Q : Exit → ASt → Prop), Q (.exit 0) ⟨[(0, .ptr 0 0), (1, .arr (List.map Vl.Data.c w)), (2, .arr (List.map cI table)), (4, .lit (.int .i64 depth)), (8, .ptr 1 0), (10, .ptr 2 0), (12, .own 3 (List.length (α := Int) o))], [.cells [.arr (List.map cU r'.f0), .lit (.int .i64 r'.f1)], .cells [.lit (.int .i64 t.data), .lit (.int .i64 t.index)], .cells [.lit (.int .i64 0), .lit (.int .i64 0), .lit (.slice none 0 0)], .elems 1 (List.map cI o)]⟩ → ALoopU Try.prog B 1 98 (hold c .mk) ⟨[(0, .ptr 0 0), (1, .arr (List.map Vl.Data.c w)), (2, .arr (List.map cI table)), (4, .lit (.int .i64 depth)), (8, .ptr 1 0), (10, .ptr 2 0), (11, .arr (List.map cI v4)), (12, .own 3 (List.length (α := Int) fine)), (13, .lit (.int .i64 (i : Int)))], [.cells [.arr (List.map cU r'.f0), .lit (.int .i64 r'.f1)], .cells [.lit (.int .i64 t.data), .lit (.int .i64 t.index)], .cells [.lit (.int .i64 0), .lit (.int .i64 0), .lit (.slice none 0 0)], .elems 1 (List.map cI fine)]⟩ (hold Q .mk) :=
 (CC.spec_l2Draw_l1 B hB1 hB2 r' w table t depth v4) fine i o hF

end Go.Proofs.Ytipcmoamhapecaa
