/- The contracts: the code computes the functions (printed by gen.py). -/
import Derived.Test.YtgjgeeeeafbckaaProg
import Derived.Test.YtgjgeeeeafbckaaExactKnownMoreF
namespace Go.Proofs.Ytgjgeeeeafbckaa
open Go Go.Proofs Go.Vl
set_option linter.unusedSimpArgs false
set_option linter.unusedVariables false

attribute [local irreducible] ECallA aL AMake MLoop AgainM LeaveM awpM aopsM MutCall chk abr ACall ALoop ALoopU ADraw Again Leave PCallA PCall Post awp aops PureCall hold

theorem follows : Try.prog.follows .mixedOrders = true := by kernel_rfl
@[simp] theorem ti2 : tiOf Try.prog 2 = some ⟨.word, 1, [.int .i64 0]⟩ := by kernel_rfl
@[simp] theorem ti3 : tiOf Try.prog 3 = some ⟨.word, 1, [.int .i64 0]⟩ := by kernel_rfl
@[simp] theorem ti4 : tiOf Try.prog 4 = some ⟨.word, 1, [.bool false]⟩ := by kernel_rfl
@[simp] theorem ti5 : tiOf Try.prog 5 = some ⟨.word, 1, [.int .u8 0]⟩ := by kernel_rfl
@[simp] theorem ti9 : tiOf Try.prog 9 = some ⟨.word, 1, [.string ByteArray.empty]⟩ := by kernel_rfl
@[simp] theorem ti22 : tiOf Try.prog 22 = some ⟨.slice 2 40 [.string ByteArray.empty, .slice none 0 0], 1, [.slice none 0 0]⟩ := by kernel_rfl
@[simp] theorem ti24 : tiOf Try.prog 24 = some ⟨.struct [(0, 1), (1, 1)], 2, [.int .i64 0, .int .i64 0]⟩ := by kernel_rfl
@[simp] theorem pr24 : pair2B Try.prog 24 = true := by kernel_rfl
@[simp] theorem ti25 : tiOf Try.prog 25 = some ⟨.slice 3 40 [.int .i64 0, .int .i64 0, .slice none 0 0], 1, [.slice none 0 0]⟩ := by kernel_rfl
@[simp] theorem ti27 : tiOf Try.prog 27 = some ⟨.struct [(0, 1), (1, 1), (2, 1)], 3, [.int .i64 0, .int .i64 0, .slice none 0 0]⟩ := by kernel_rfl
@[simp] theorem ti31 : tiOf Try.prog 31 = some ⟨.slice 2 40 [.string ByteArray.empty, .slice none 0 0], 1, [.slice none 0 0]⟩ := by kernel_rfl
@[simp] theorem ti33 : tiOf Try.prog 33 = some ⟨.struct [(0, 1), (1, 1)], 2, [.int .i64 0, .int .i64 0]⟩ := by kernel_rfl
@[simp] theorem pr33 : pair2B Try.prog 33 = true := by kernel_rfl
@[simp] theorem ti35 : tiOf Try.prog 35 = some ⟨.slice 3 40 [.int .i64 0, .int .i64 0, .slice none 0 0], 1, [.slice none 0 0]⟩ := by kernel_rfl
@[simp] theorem ti37 : tiOf Try.prog 37 = some ⟨.struct [(0, 1), (1, 1), (2, 1)], 3, [.int .i64 0, .int .i64 0, .slice none 0 0]⟩ := by kernel_rfl
@[simp] theorem ti52 : tiOf Try.prog 52 = some ⟨.slice 3 48 [.string ByteArray.empty, .slice none 0 0, .int .i64 0], 1, [.slice none 0 0]⟩ := by kernel_rfl
@[simp] theorem ti54 : tiOf Try.prog 54 = some ⟨.struct [(0, 1), (1, 1)], 2, [.string ByteArray.empty, .slice none 0 0]⟩ := by kernel_rfl
@[simp] theorem ti57 : tiOf Try.prog 57 = some ⟨.slice 3 48 [.string ByteArray.empty, .slice none 0 0, .int .i64 0], 1, [.slice none 0 0]⟩ := by kernel_rfl
@[simp] theorem ti59 : tiOf Try.prog 59 = some ⟨.struct [(0, 1), (1, 1)], 2, [.string ByteArray.empty, .slice none 0 0]⟩ := by kernel_rfl
@[simp] theorem ti80 : tiOf Try.prog 80 = some ⟨.slice 1 8 [.int .i64 0], 1, [.slice none 0 0]⟩ := by kernel_rfl
@[simp] theorem ti82 : tiOf Try.prog 82 = some ⟨.slice 2 16 [.int .i64 0, .int .i64 0], 1, [.slice none 0 0]⟩ := by kernel_rfl
@[simp] theorem ti96 : tiOf Try.prog 96 = some ⟨.struct [(0, 1), (1, 1), (2, 1)], 3, [.string ByteArray.empty, .slice none 0 0, .int .i64 0]⟩ := by kernel_rfl
@[simp] theorem ti98 : tiOf Try.prog 98 = some ⟨.slice 2 16 [.int .i64 0, .int .i64 0], 1, [.slice none 0 0]⟩ := by kernel_rfl
@[simp] theorem ti100 : tiOf Try.prog 100 = some ⟨.struct [(0, 1), (1, 1), (2, 1)], 3, [.string ByteArray.empty, .slice none 0 0, .int .i64 0]⟩ := by kernel_rfl
@[simp] theorem ti106 : mapB Try.prog 106 = true := by kernel_rfl
attribute [simp] Try.underlying2 Try.underlying3 Try.underlying4 Try.underlying5 Try.underlying9 Try.underlying22 Try.underlying25 Try.underlying31 Try.underlying35 Try.underlying52 Try.underlying57 Try.underlying80 Try.underlying82 Try.underlying98 Try.results4 Try.results7 Try.results8 Try.results9 Try.results10 Try.results11 Try.results12 Try.results13 Try.results14 Try.results15 Try.results16 Try.results17 Try.results23 Try.results24 Try.results25 Try.results26 Try.results27 Try.results28 Try.results29 Try.results30 Try.results31 Try.results32 Try.results33 Try.results34 Try.results43 Try.results44 Try.results45 Try.results46 Try.results47 Try.results48 Try.results49 Try.results50 Try.results51 Try.results52 Try.results53 Try.results54 Try.results55 Try.results63 Try.results64 Try.results65 Try.results66 Try.results67 Try.results68 Try.results69 Try.results70 Try.results71 Try.results72 Try.results73 Try.results74 Try.results75 Try.results76 Try.results81 Try.results82 Try.results83 Try.results84 Try.results85 Try.results86 Try.results87 Try.results88 Try.results89 Try.results90 Try.results91 Try.results95 Try.results96

set_option maxRecDepth 100000 in
set_option maxHeartbeats 400000 in
theorem C.laws_szTypeS (B : Nat) (hB1 : 67108864 ≤ B) (hB2 : B ≤ 9223372036854775807) (a : List Vl.Ty) (left' : Int) (r : Int) (hF : F.laws_szTypeS a left' = some r) : PureCall Try.prog B 81 [.arr (List.map Vl.Ty.c a), .lit (.int .i64 left')] (.lit (.int .i64 r)) := by
  unfold F.laws_szTypeS at hF
  refine PureCall.enterLe Try.func81 (by kernel_rfl) rfl Try.ntmps81 (by simp) (by simp) ?_
  simp -dsimp
  repeat (refine chk.go (by first | omega | assumption | (simp_all; done) | (simp_all; omega)) ?_; simp -dsimp)
  refine abr.split (fun h1 => ?_) (fun h1 => ?_)
  · have q2 : (IntKind.i64.wrap (left' - (a.length : Int)) < 0) := by first | exact h1 | omega | (simpa using h1) | (simp at h1 ⊢; omega) | simp_all
    rw [if_pos q2] at hF
    cases hF
    simp -dsimp [h1]
    repeat (refine chk.go (by first | omega | assumption | (simp_all; done) | (simp_all; omega)) ?_; simp -dsimp [h1])
  · have q2 : ¬ (IntKind.i64.wrap (left' - (a.length : Int)) < 0) := by first | exact h1 | omega | (simpa using h1) | (simp at h1 ⊢; omega) | simp_all
    rw [if_neg q2] at hF
    cases hF
    simp -dsimp [h1, q2]
    repeat (refine chk.go (by first | omega | assumption | (simp_all; done) | (simp_all; omega)) ?_; simp -dsimp [h1, q2])

set_option maxRecDepth 100000 in
set_option maxHeartbeats 400000 in
theorem C.laws_szCtor (B : Nat) (hB1 : 67108864 ≤ B) (hB2 : B ≤ 9223372036854775807) (a : Vl.Ctor) (left' : Int) (r : Int) (hF : F.laws_szCtor a left' = some r) : PureCall Try.prog B 63 [.agg [.lit (.string a.name), .arr (List.map Vl.Ty.c a.args), .lit (.int .i64 a.index)], .lit (.int .i64 left')] (.lit (.int .i64 r)) := by
  unfold F.laws_szCtor at hF
  refine PureCall.enterLe Try.func63 (by kernel_rfl) rfl Try.ntmps63 (by simp) (by simp) ?_
  simp -dsimp
  repeat (refine chk.go (by first | omega | assumption | (simp_all; done) | (simp_all; omega)) ?_; simp -dsimp)
  refine abr.split (fun h1 => ?_) (fun h1 => ?_)
  · have q2 : (IntKind.i64.wrap (left' - (a.name.size : Int)) < 0) := by first | exact h1 | omega | (simpa using h1) | (simp at h1 ⊢; omega) | simp_all
    rw [if_pos q2] at hF
    cases hF
    simp -dsimp [h1]
    repeat (refine chk.go (by first | omega | assumption | (simp_all; done) | (simp_all; omega)) ?_; simp -dsimp [h1])
  · have q2 : ¬ (IntKind.i64.wrap (left' - (a.name.size : Int)) < 0) := by first | exact h1 | omega | (simpa using h1) | (simp at h1 ⊢; omega) | simp_all
    rw [if_neg q2] at hF
    simp -dsimp [h1, q2]
    repeat (refine chk.go (by first | omega | assumption | (simp_all; done) | (simp_all; omega)) ?_; simp -dsimp [h1, q2])
    have hF := ob hF; obtain ⟨v, e3, hF⟩ := hF
    refine ((C.laws_szTypeS B hB1 hB2 a.args (IntKind.i64.wrap (left' - (a.name.size : Int))) v e3)).goW (by first | (simp; done) | (simp [h1, q2]; done) | simp_all) (by simp) ?_
    simp -dsimp [h1, q2]
    repeat (refine chk.go (by first | omega | assumption | (simp_all; done) | (simp_all; omega)) ?_; simp -dsimp [h1, q2])
    refine abr.split (fun h4 => ?_) (fun h4 => ?_)
    · have q5 : (v < 0) := by first | exact h4 | omega | (simpa using h4) | (simp at h4 ⊢; omega) | simp_all
      rw [if_pos q5] at hF
      cases hF
      simp -dsimp [h1, q2, h4]
      repeat (refine chk.go (by first | omega | assumption | (simp_all; done) | (simp_all; omega)) ?_; simp -dsimp [h1, q2, h4])
    · have q5 : ¬ (v < 0) := by first | exact h4 | omega | (simpa using h4) | (simp at h4 ⊢; omega) | simp_all
      rw [if_neg q5] at hF
      cases hF
      simp -dsimp [h1, q2, h4, q5]
      repeat (refine chk.go (by first | omega | assumption | (simp_all; done) | (simp_all; omega)) ?_; simp -dsimp [h1, q2, h4, q5])

set_option maxRecDepth 100000 in
set_option maxHeartbeats 400000 in
theorem CC.laws_szCtorS_l1 (B : Nat) (hB1 : 67108864 ≤ B) (hB2 : B ≤ 9223372036854775807) (a : List Vl.Ctor) : (∀ (left'3 : Int) (i : Nat) (o : Lo Int Int), F.laws_szCtorS_l1 a left'3 i = some o → ∀ (c : Code), navO [1, 1, 1, 0, 1, 0, 0] (bodyOf Try.f43) = some c → ∀ (Q : Exit → ASt → Prop), o.post (fun r => ∀ st, Post Try.prog Try.f43 (fun r' _ => r'.le (.lit (.int .i64 r))) .ret st → Q .ret st) (fun s => Q (.exit 0) ⟨[(1, .lit (.int .i64 s))], []⟩) → ALoopU Try.prog B 0 27 (hold c .mk) ⟨[(0, .arr (List.map Vl.Ctor.c a)), (1, .lit (.int .i64 left'3)), (5, .lit (.int .i64 (i : Int)))], []⟩ (hold Q .mk)) := by
  refine F.laws_szCtorS_l1.partial_correctness a
    (fun left'3 i o => ∀ (c : Code), navO [1, 1, 1, 0, 1, 0, 0] (bodyOf Try.f43) = some c → ∀ (Q : Exit → ASt → Prop), o.post (fun r => ∀ st, Post Try.prog Try.f43 (fun r' _ => r'.le (.lit (.int .i64 r))) .ret st → Q .ret st) (fun s => Q (.exit 0) ⟨[(1, .lit (.int .i64 s))], []⟩) → ALoopU Try.prog B 0 27 (hold c .mk) ⟨[(0, .arr (List.map Vl.Ctor.c a)), (1, .lit (.int .i64 left'3)), (5, .lit (.int .i64 (i : Int)))], []⟩ (hold Q .mk))
    ?_
  · intro _f_laws_szCtorS_l1 ih_laws_szCtorS_l1 left'3 i o hF
    intro c hc Q hq
    obtain rfl : c = _ := navEq hc rfl
    refine ALoopU.know fun hk hs => ?_
    have b0 := hk 0
    simp -dsimp at b0
    clear hk hs
    refine ALoopU.enter ?_
    simp -dsimp
    repeat (refine chk.go (by first | omega | assumption | (simp_all; done) | (simp_all; omega)) ?_; simp -dsimp)
    refine abr.split (fun h4 => ?_) (fun h4 => ?_)
    · have q5 : (i < a.length) := by first | exact h4 | omega | (simpa using h4) | (simp at h4 ⊢; omega) | simp_all
      have z6 : ((i : Int) < (a.length : Int)) := by first | omega | simp_all
      rw [if_pos q5] at hF
      have hF := ob hF; obtain ⟨x, e7, hF⟩ := hF
      have le7 := lt_of_get e7
      simp -dsimp [h4, z6, ↓e7]
      repeat (refine chk.go (by first | omega | assumption | (simp_all; done) | (simp_all; omega)) ?_; simp -dsimp [h4, z6, ↓e7])
      have hF := ob hF; obtain ⟨v, e8, hF⟩ := hF
      refine ((C.laws_szCtor B hB1 hB2 x left'3 v e8)).goW (by first | (simp; done) | (simp [h4, z6, ↓e7]; done) | simp_all) (by simp) ?_
      simp -dsimp [h4, z6, ↓e7]
      repeat (refine chk.go (by first | omega | assumption | (simp_all; done) | (simp_all; omega)) ?_; simp -dsimp [h4, z6, ↓e7])
      refine abr.split (fun h9 => ?_) (fun h9 => ?_)
      · have q10 : (v < 0) := by first | exact h9 | omega | (simpa using h9) | (simp at h9 ⊢; omega) | simp_all
        rw [if_pos q10] at hF
        cases hF
        simp -dsimp [h4, z6, ↓e7, h9]
        repeat (refine chk.go (by first | omega | assumption | (simp_all; done) | (simp_all; omega)) ?_; simp -dsimp [h4, z6, ↓e7, h9])
        refine Leave.go _ (Gh.refl _) (hq _ ?_)
        simp -dsimp [h4, z6, ↓e7, h9]
        repeat (refine chk.go (by first | omega | assumption | (simp_all; done) | (simp_all; omega)) ?_; simp -dsimp [h4, z6, ↓e7, h9])
      · have q10 : ¬ (v < 0) := by first | exact h9 | omega | (simpa using h9) | (simp at h9 ⊢; omega) | simp_all
        rw [if_neg q10] at hF
        have w11 : IntKind.i64.wrap ((i : Int) + 1) = (i : Int) + 1 := wrap_in (by omega) (by omega)
        simp -dsimp [h4, z6, ↓e7, h9, q10, w11]
        repeat (refine chk.go (by first | omega | assumption | (simp_all; done) | (simp_all; omega)) ?_; simp -dsimp [h4, z6, ↓e7, h9, q10, w11])
        refine Again.go ⟨[(0, .arr (List.map Vl.Ctor.c a)), (1, .lit (.int .i64 v)), (5, .lit (.int .i64 ((i + 1) : Int)))], []⟩ (Gh.to (by simp) (by first | (simp -dsimp; done) | (simp -dsimp [h4, z6, ↓e7, h9, q10, w11]; done) | simp_all) (by first | (simp -dsimp; done) | (simp -dsimp [h4, z6, ↓e7, h9, q10, w11]; done) | simp_all) (by first | (simp -dsimp; done) | (simp -dsimp [h4, z6, ↓e7, h9, q10, w11]; done) | simp_all)) ?_
        exact (ih_laws_szCtorS_l1 v (i + 1) o hF) _ rfl _ hq
    · have q5 : ¬ (i < a.length) := by first | exact h4 | omega | (simpa using h4) | (simp at h4 ⊢; omega) | simp_all
      have z6 : ¬ ((i : Int) < (a.length : Int)) := by first | omega | simp_all
      rw [if_neg q5] at hF
      cases hF
      simp -dsimp [h4, q5, z6]
      repeat (refine chk.go (by first | omega | assumption | (simp_all; done) | (simp_all; omega)) ?_; simp -dsimp [h4, q5, z6])
      refine Leave.go ⟨[(1, .lit (.int .i64 left'3))], []⟩ (Gh.to (by simp) (by first | (simp -dsimp; done) | (simp -dsimp [h4, q5, z6]; done) | simp_all) (by first | (simp -dsimp; done) | (simp -dsimp [h4, q5, z6]; done) | simp_all) (by first | (simp -dsimp; done) | (simp -dsimp [h4, q5, z6]; done) | simp_all)) ?_
      exact hq

theorem C.laws_szCtorS_l1 (B : Nat) (hB1 : 67108864 ≤ B) (hB2 : B ≤ 9223372036854775807) (a : List Vl.Ctor) (left'3 : Int) (i : Nat) (o : Lo Int Int) (hF : F.laws_szCtorS_l1 a left'3 i = some o) : ∀ (c : Code), navO [1, 1, 1, 0, 1, 0, 0] (bodyOf Try.f43) = some c → ∀ (Q : Exit → ASt → Prop), o.post (fun r => ∀ st, Post Try.prog Try.f43 (fun r' _ => r'.le (.lit (.int .i64 r))) .ret st → Q .ret st) (fun s => Q (.exit 0) ⟨[(1, .lit (.int .i64 s))], []⟩) → ALoopU Try.prog B 0 27 (hold c .mk) ⟨[(0, .arr (List.map Vl.Ctor.c a)), (1, .lit (.int .i64 left'3)), (5, .lit (.int .i64 (i : Int)))], []⟩ (hold Q .mk) :=
  (CC.laws_szCtorS_l1 B hB1 hB2 a) left'3 i o hF

set_option maxRecDepth 100000 in
set_option maxHeartbeats 400000 in
theorem C.laws_szCtorS (B : Nat) (hB1 : 67108864 ≤ B) (hB2 : B ≤ 9223372036854775807) (a : List Vl.Ctor) (left' : Int) (r : Int) (hF : F.laws_szCtorS a left' = some r) : PureCall Try.prog B 43 [.arr (List.map Vl.Ctor.c a), .lit (.int .i64 left')] (.lit (.int .i64 r)) := by
  unfold F.laws_szCtorS at hF
  refine PureCall.enterLe Try.func43 (by kernel_rfl) rfl Try.ntmps43 (by simp) (by simp) ?_
  simp -dsimp
  repeat (refine chk.go (by first | omega | assumption | (simp_all; done) | (simp_all; omega)) ?_; simp -dsimp)
  refine abr.split (fun h1 => ?_) (fun h1 => ?_)
  · have q2 : (IntKind.i64.wrap (left' - (a.length : Int)) < 0) := by first | exact h1 | omega | (simpa using h1) | (simp at h1 ⊢; omega) | simp_all
    rw [if_pos q2] at hF
    cases hF
    simp -dsimp [h1]
    repeat (refine chk.go (by first | omega | assumption | (simp_all; done) | (simp_all; omega)) ?_; simp -dsimp [h1])
  · have q2 : ¬ (IntKind.i64.wrap (left' - (a.length : Int)) < 0) := by first | exact h1 | omega | (simpa using h1) | (simp at h1 ⊢; omega) | simp_all
    rw [if_neg q2] at hF
    simp -dsimp [h1, q2]
    repeat (refine chk.go (by first | omega | assumption | (simp_all; done) | (simp_all; omega)) ?_; simp -dsimp [h1, q2])
    have hF := ob hF; obtain ⟨o, ho12, hF⟩ := hF
    refine ALoop.goU ⟨[(0, .arr (List.map Vl.Ctor.c a)), (1, .lit (.int .i64 (IntKind.i64.wrap (left' - (a.length : Int))))), (5, .lit (.int .i64 (0 : Int)))], []⟩ (Gh.to (by simp) (by first | (simp -dsimp; done) | (simp -dsimp [h1, q2]; done) | simp_all) (by first | (simp -dsimp; done) | (simp -dsimp [h1, q2]; done) | simp_all) (by first | (simp -dsimp; done) | (simp -dsimp [h1, q2]; done) | simp_all)) ?_
    refine (C.laws_szCtorS_l1 B hB1 hB2 a (IntKind.i64.wrap (left' - (a.length : Int))) 0 o ho12) _ rfl _ ?_
    rcases o with r0 | s
    · dsimp only at hF
      cases hF
      intro st h
      simpa using h
    · dsimp only at hF
      cases hF
      simp -dsimp
      repeat (refine chk.go (by first | omega | assumption | (simp_all; done) | (simp_all; omega)) ?_; simp -dsimp)

set_option maxRecDepth 100000 in
set_option maxHeartbeats 400000 in
theorem C.laws_szData (B : Nat) (hB1 : 67108864 ≤ B) (hB2 : B ≤ 9223372036854775807) (a : Vl.Data) (left' : Int) (r : Int) (hF : F.laws_szData a left' = some r) : PureCall Try.prog B 23 [.agg [.lit (.string a.name), .arr (List.map Vl.Ctor.c a.ctors)], .lit (.int .i64 left')] (.lit (.int .i64 r)) := by
  unfold F.laws_szData at hF
  refine PureCall.enterLe Try.func23 (by kernel_rfl) rfl Try.ntmps23 (by simp) (by simp) ?_
  simp -dsimp
  repeat (refine chk.go (by first | omega | assumption | (simp_all; done) | (simp_all; omega)) ?_; simp -dsimp)
  refine abr.split (fun h1 => ?_) (fun h1 => ?_)
  · have q2 : (IntKind.i64.wrap (left' - (a.name.size : Int)) < 0) := by first | exact h1 | omega | (simpa using h1) | (simp at h1 ⊢; omega) | simp_all
    rw [if_pos q2] at hF
    cases hF
    simp -dsimp [h1]
    repeat (refine chk.go (by first | omega | assumption | (simp_all; done) | (simp_all; omega)) ?_; simp -dsimp [h1])
  · have q2 : ¬ (IntKind.i64.wrap (left' - (a.name.size : Int)) < 0) := by first | exact h1 | omega | (simpa using h1) | (simp at h1 ⊢; omega) | simp_all
    rw [if_neg q2] at hF
    simp -dsimp [h1, q2]
    repeat (refine chk.go (by first | omega | assumption | (simp_all; done) | (simp_all; omega)) ?_; simp -dsimp [h1, q2])
    have hF := ob hF; obtain ⟨v, e3, hF⟩ := hF
    refine ((C.laws_szCtorS B hB1 hB2 a.ctors (IntKind.i64.wrap (left' - (a.name.size : Int))) v e3)).goW (by first | (simp; done) | (simp [h1, q2]; done) | simp_all) (by simp) ?_
    simp -dsimp [h1, q2]
    repeat (refine chk.go (by first | omega | assumption | (simp_all; done) | (simp_all; omega)) ?_; simp -dsimp [h1, q2])
    refine abr.split (fun h4 => ?_) (fun h4 => ?_)
    · have q5 : (v < 0) := by first | exact h4 | omega | (simpa using h4) | (simp at h4 ⊢; omega) | simp_all
      rw [if_pos q5] at hF
      cases hF
      simp -dsimp [h1, q2, h4]
      repeat (refine chk.go (by first | omega | assumption | (simp_all; done) | (simp_all; omega)) ?_; simp -dsimp [h1, q2, h4])
    · have q5 : ¬ (v < 0) := by first | exact h4 | omega | (simpa using h4) | (simp at h4 ⊢; omega) | simp_all
      rw [if_neg q5] at hF
      cases hF
      simp -dsimp [h1, q2, h4, q5]
      repeat (refine chk.go (by first | omega | assumption | (simp_all; done) | (simp_all; omega)) ?_; simp -dsimp [h1, q2, h4, q5])

set_option maxRecDepth 100000 in
set_option maxHeartbeats 400000 in
theorem CC.laws_szDataS_l1 (B : Nat) (hB1 : 67108864 ≤ B) (hB2 : B ≤ 9223372036854775807) (a : List Vl.Data) : (∀ (left'3 : Int) (i : Nat) (o : Lo Int Int), F.laws_szDataS_l1 a left'3 i = some o → ∀ (c : Code), navO [1, 1, 1, 0, 1, 0, 0] (bodyOf Try.f7) = some c → ∀ (Q : Exit → ASt → Prop), o.post (fun r => ∀ st, Post Try.prog Try.f7 (fun r' _ => r'.le (.lit (.int .i64 r))) .ret st → Q .ret st) (fun s => Q (.exit 0) ⟨[(1, .lit (.int .i64 s))], []⟩) → ALoopU Try.prog B 0 27 (hold c .mk) ⟨[(0, .arr (List.map Vl.Data.c a)), (1, .lit (.int .i64 left'3)), (5, .lit (.int .i64 (i : Int)))], []⟩ (hold Q .mk)) := by
  refine F.laws_szDataS_l1.partial_correctness a
    (fun left'3 i o => ∀ (c : Code), navO [1, 1, 1, 0, 1, 0, 0] (bodyOf Try.f7) = some c → ∀ (Q : Exit → ASt → Prop), o.post (fun r => ∀ st, Post Try.prog Try.f7 (fun r' _ => r'.le (.lit (.int .i64 r))) .ret st → Q .ret st) (fun s => Q (.exit 0) ⟨[(1, .lit (.int .i64 s))], []⟩) → ALoopU Try.prog B 0 27 (hold c .mk) ⟨[(0, .arr (List.map Vl.Data.c a)), (1, .lit (.int .i64 left'3)), (5, .lit (.int .i64 (i : Int)))], []⟩ (hold Q .mk))
    ?_
  · intro _f_laws_szDataS_l1 ih_laws_szDataS_l1 left'3 i o hF
    intro c hc Q hq
    obtain rfl : c = _ := navEq hc rfl
    refine ALoopU.know fun hk hs => ?_
    have b0 := hk 0
    simp -dsimp at b0
    clear hk hs
    refine ALoopU.enter ?_
    simp -dsimp
    repeat (refine chk.go (by first | omega | assumption | (simp_all; done) | (simp_all; omega)) ?_; simp -dsimp)
    refine abr.split (fun h4 => ?_) (fun h4 => ?_)
    · have q5 : (i < a.length) := by first | exact h4 | omega | (simpa using h4) | (simp at h4 ⊢; omega) | simp_all
      have z6 : ((i : Int) < (a.length : Int)) := by first | omega | simp_all
      rw [if_pos q5] at hF
      have hF := ob hF; obtain ⟨x, e7, hF⟩ := hF
      have le7 := lt_of_get e7
      simp -dsimp [h4, z6, ↓e7]
      repeat (refine chk.go (by first | omega | assumption | (simp_all; done) | (simp_all; omega)) ?_; simp -dsimp [h4, z6, ↓e7])
      have hF := ob hF; obtain ⟨v, e8, hF⟩ := hF
      refine ((C.laws_szData B hB1 hB2 x left'3 v e8)).goW (by first | (simp; done) | (simp [h4, z6, ↓e7]; done) | simp_all) (by simp) ?_
      simp -dsimp [h4, z6, ↓e7]
      repeat (refine chk.go (by first | omega | assumption | (simp_all; done) | (simp_all; omega)) ?_; simp -dsimp [h4, z6, ↓e7])
      refine abr.split (fun h9 => ?_) (fun h9 => ?_)
      · have q10 : (v < 0) := by first | exact h9 | omega | (simpa using h9) | (simp at h9 ⊢; omega) | simp_all
        rw [if_pos q10] at hF
        cases hF
        simp -dsimp [h4, z6, ↓e7, h9]
        repeat (refine chk.go (by first | omega | assumption | (simp_all; done) | (simp_all; omega)) ?_; simp -dsimp [h4, z6, ↓e7, h9])
        refine Leave.go _ (Gh.refl _) (hq _ ?_)
        simp -dsimp [h4, z6, ↓e7, h9]
        repeat (refine chk.go (by first | omega | assumption | (simp_all; done) | (simp_all; omega)) ?_; simp -dsimp [h4, z6, ↓e7, h9])
      · have q10 : ¬ (v < 0) := by first | exact h9 | omega | (simpa using h9) | (simp at h9 ⊢; omega) | simp_all
        rw [if_neg q10] at hF
        have w11 : IntKind.i64.wrap ((i : Int) + 1) = (i : Int) + 1 := wrap_in (by omega) (by omega)
        simp -dsimp [h4, z6, ↓e7, h9, q10, w11]
        repeat (refine chk.go (by first | omega | assumption | (simp_all; done) | (simp_all; omega)) ?_; simp -dsimp [h4, z6, ↓e7, h9, q10, w11])
        refine Again.go ⟨[(0, .arr (List.map Vl.Data.c a)), (1, .lit (.int .i64 v)), (5, .lit (.int .i64 ((i + 1) : Int)))], []⟩ (Gh.to (by simp) (by first | (simp -dsimp; done) | (simp -dsimp [h4, z6, ↓e7, h9, q10, w11]; done) | simp_all) (by first | (simp -dsimp; done) | (simp -dsimp [h4, z6, ↓e7, h9, q10, w11]; done) | simp_all) (by first | (simp -dsimp; done) | (simp -dsimp [h4, z6, ↓e7, h9, q10, w11]; done) | simp_all)) ?_
        exact (ih_laws_szDataS_l1 v (i + 1) o hF) _ rfl _ hq
    · have q5 : ¬ (i < a.length) := by first | exact h4 | omega | (simpa using h4) | (simp at h4 ⊢; omega) | simp_all
      have z6 : ¬ ((i : Int) < (a.length : Int)) := by first | omega | simp_all
      rw [if_neg q5] at hF
      cases hF
      simp -dsimp [h4, q5, z6]
      repeat (refine chk.go (by first | omega | assumption | (simp_all; done) | (simp_all; omega)) ?_; simp -dsimp [h4, q5, z6])
      refine Leave.go ⟨[(1, .lit (.int .i64 left'3))], []⟩ (Gh.to (by simp) (by first | (simp -dsimp; done) | (simp -dsimp [h4, q5, z6]; done) | simp_all) (by first | (simp -dsimp; done) | (simp -dsimp [h4, q5, z6]; done) | simp_all) (by first | (simp -dsimp; done) | (simp -dsimp [h4, q5, z6]; done) | simp_all)) ?_
      exact hq

theorem C.laws_szDataS_l1 (B : Nat) (hB1 : 67108864 ≤ B) (hB2 : B ≤ 9223372036854775807) (a : List Vl.Data) (left'3 : Int) (i : Nat) (o : Lo Int Int) (hF : F.laws_szDataS_l1 a left'3 i = some o) : ∀ (c : Code), navO [1, 1, 1, 0, 1, 0, 0] (bodyOf Try.f7) = some c → ∀ (Q : Exit → ASt → Prop), o.post (fun r => ∀ st, Post Try.prog Try.f7 (fun r' _ => r'.le (.lit (.int .i64 r))) .ret st → Q .ret st) (fun s => Q (.exit 0) ⟨[(1, .lit (.int .i64 s))], []⟩) → ALoopU Try.prog B 0 27 (hold c .mk) ⟨[(0, .arr (List.map Vl.Data.c a)), (1, .lit (.int .i64 left'3)), (5, .lit (.int .i64 (i : Int)))], []⟩ (hold Q .mk) :=
  (CC.laws_szDataS_l1 B hB1 hB2 a) left'3 i o hF

set_option maxRecDepth 100000 in
set_option maxHeartbeats 400000 in
theorem C.laws_szDataS (B : Nat) (hB1 : 67108864 ≤ B) (hB2 : B ≤ 9223372036854775807) (a : List Vl.Data) (left' : Int) (r : Int) (hF : F.laws_szDataS a left' = some r) : PureCall Try.prog B 7 [.arr (List.map Vl.Data.c a), .lit (.int .i64 left')] (.lit (.int .i64 r)) := by
  unfold F.laws_szDataS at hF
  refine PureCall.enterLe Try.func7 (by kernel_rfl) rfl Try.ntmps7 (by simp) (by simp) ?_
  simp -dsimp
  repeat (refine chk.go (by first | omega | assumption | (simp_all; done) | (simp_all; omega)) ?_; simp -dsimp)
  refine abr.split (fun h1 => ?_) (fun h1 => ?_)
  · have q2 : (IntKind.i64.wrap (left' - (a.length : Int)) < 0) := by first | exact h1 | omega | (simpa using h1) | (simp at h1 ⊢; omega) | simp_all
    rw [if_pos q2] at hF
    cases hF
    simp -dsimp [h1]
    repeat (refine chk.go (by first | omega | assumption | (simp_all; done) | (simp_all; omega)) ?_; simp -dsimp [h1])
  · have q2 : ¬ (IntKind.i64.wrap (left' - (a.length : Int)) < 0) := by first | exact h1 | omega | (simpa using h1) | (simp at h1 ⊢; omega) | simp_all
    rw [if_neg q2] at hF
    simp -dsimp [h1, q2]
    repeat (refine chk.go (by first | omega | assumption | (simp_all; done) | (simp_all; omega)) ?_; simp -dsimp [h1, q2])
    have hF := ob hF; obtain ⟨o, ho12, hF⟩ := hF
    refine ALoop.goU ⟨[(0, .arr (List.map Vl.Data.c a)), (1, .lit (.int .i64 (IntKind.i64.wrap (left' - (a.length : Int))))), (5, .lit (.int .i64 (0 : Int)))], []⟩ (Gh.to (by simp) (by first | (simp -dsimp; done) | (simp -dsimp [h1, q2]; done) | simp_all) (by first | (simp -dsimp; done) | (simp -dsimp [h1, q2]; done) | simp_all) (by first | (simp -dsimp; done) | (simp -dsimp [h1, q2]; done) | simp_all)) ?_
    refine (C.laws_szDataS_l1 B hB1 hB2 a (IntKind.i64.wrap (left' - (a.length : Int))) 0 o ho12) _ rfl _ ?_
    rcases o with r0 | s
    · dsimp only at hF
      cases hF
      intro st h
      simpa using h
    · dsimp only at hF
      cases hF
      simp -dsimp
      repeat (refine chk.go (by first | omega | assumption | (simp_all; done) | (simp_all; omega)) ?_; simp -dsimp)

set_option maxRecDepth 100000 in
set_option maxHeartbeats 400000 in
theorem CC.laws_szValue (B : Nat) (hB1 : 67108864 ≤ B) (hB2 : B ≤ 9223372036854775807)  : (∀ (a : Vl.Value) (left' : Int) (r : Int), F.laws_szValue a left' = some r → PureCall Try.prog B 8 [.agg [.lit (.int .i64 a.ctor), .lit (.int .i64 a.n), .arr (List.map Vl.Value.c a.kids)], .lit (.int .i64 left')] (.lit (.int .i64 r))) ∧
    (∀ (a : List Vl.Value) (left' : Int) (r : Int), F.laws_szValueS a left' = some r → PureCall Try.prog B 24 [.arr (List.map Vl.Value.c a), .lit (.int .i64 left')] (.lit (.int .i64 r))) ∧
    (∀ (a : List Vl.Value) (left'3 : Int) (i : Nat) (o : Lo Int Int), F.laws_szValueS_l1 a left'3 i = some o → ∀ (c : Code), navO [1, 1, 1, 0, 1, 0, 0] (bodyOf Try.f24) = some c → ∀ (Q : Exit → ASt → Prop), o.post (fun r => ∀ st, Post Try.prog Try.f24 (fun r' _ => r'.le (.lit (.int .i64 r))) .ret st → Q .ret st) (fun s => Q (.exit 0) ⟨[(1, .lit (.int .i64 s))], []⟩) → ALoopU Try.prog B 0 27 (hold c .mk) ⟨[(0, .arr (List.map Vl.Value.c a)), (1, .lit (.int .i64 left'3)), (5, .lit (.int .i64 (i : Int)))], []⟩ (hold Q .mk)) := by
  refine F.laws_szValue.mutual_partial_correctness 
    (fun a left' r => PureCall Try.prog B 8 [.agg [.lit (.int .i64 a.ctor), .lit (.int .i64 a.n), .arr (List.map Vl.Value.c a.kids)], .lit (.int .i64 left')] (.lit (.int .i64 r)))
    (fun a left' r => PureCall Try.prog B 24 [.arr (List.map Vl.Value.c a), .lit (.int .i64 left')] (.lit (.int .i64 r)))
    (fun a left'3 i o => ∀ (c : Code), navO [1, 1, 1, 0, 1, 0, 0] (bodyOf Try.f24) = some c → ∀ (Q : Exit → ASt → Prop), o.post (fun r => ∀ st, Post Try.prog Try.f24 (fun r' _ => r'.le (.lit (.int .i64 r))) .ret st → Q .ret st) (fun s => Q (.exit 0) ⟨[(1, .lit (.int .i64 s))], []⟩) → ALoopU Try.prog B 0 27 (hold c .mk) ⟨[(0, .arr (List.map Vl.Value.c a)), (1, .lit (.int .i64 left'3)), (5, .lit (.int .i64 (i : Int)))], []⟩ (hold Q .mk))
    ?_ ?_ ?_
  · intro _f_laws_szValueS ih_laws_szValueS a left' r hF
    refine PureCall.enterLe Try.func8 (by kernel_rfl) rfl Try.ntmps8 (by simp) (by simp) ?_
    simp -dsimp
    repeat (refine chk.go (by first | omega | assumption | (simp_all; done) | (simp_all; omega)) ?_; simp -dsimp)
    have hF := ob hF; obtain ⟨v, e1, hF⟩ := hF
    refine ((ih_laws_szValueS a.kids left' v e1)).goW (by simp) (by simp) ?_
    simp -dsimp
    repeat (refine chk.go (by first | omega | assumption | (simp_all; done) | (simp_all; omega)) ?_; simp -dsimp)
    refine abr.split (fun h2 => ?_) (fun h2 => ?_)
    · have q3 : (v < 0) := by first | exact h2 | omega | (simpa using h2) | (simp at h2 ⊢; omega) | simp_all
      rw [if_pos q3] at hF
      cases hF
      simp -dsimp [h2]
      repeat (refine chk.go (by first | omega | assumption | (simp_all; done) | (simp_all; omega)) ?_; simp -dsimp [h2])
    · have q3 : ¬ (v < 0) := by first | exact h2 | omega | (simpa using h2) | (simp at h2 ⊢; omega) | simp_all
      rw [if_neg q3] at hF
      cases hF
      simp -dsimp [h2, q3]
      repeat (refine chk.go (by first | omega | assumption | (simp_all; done) | (simp_all; omega)) ?_; simp -dsimp [h2, q3])
  · intro _f_laws_szValueS_l1 ih_laws_szValueS_l1 a left' r hF
    refine PureCall.enterLe Try.func24 (by kernel_rfl) rfl Try.ntmps24 (by simp) (by simp) ?_
    simp -dsimp
    repeat (refine chk.go (by first | omega | assumption | (simp_all; done) | (simp_all; omega)) ?_; simp -dsimp)
    refine abr.split (fun h1 => ?_) (fun h1 => ?_)
    · have q2 : (IntKind.i64.wrap (left' - (a.length : Int)) < 0) := by first | exact h1 | omega | (simpa using h1) | (simp at h1 ⊢; omega) | simp_all
      rw [if_pos q2] at hF
      cases hF
      simp -dsimp [h1]
      repeat (refine chk.go (by first | omega | assumption | (simp_all; done) | (simp_all; omega)) ?_; simp -dsimp [h1])
    · have q2 : ¬ (IntKind.i64.wrap (left' - (a.length : Int)) < 0) := by first | exact h1 | omega | (simpa using h1) | (simp at h1 ⊢; omega) | simp_all
      rw [if_neg q2] at hF
      simp -dsimp [h1, q2]
      repeat (refine chk.go (by first | omega | assumption | (simp_all; done) | (simp_all; omega)) ?_; simp -dsimp [h1, q2])
      have hF := ob hF; obtain ⟨o, ho12, hF⟩ := hF
      refine ALoop.goU ⟨[(0, .arr (List.map Vl.Value.c a)), (1, .lit (.int .i64 (IntKind.i64.wrap (left' - (a.length : Int))))), (5, .lit (.int .i64 (0 : Int)))], []⟩ (Gh.to (by simp) (by first | (simp -dsimp; done) | (simp -dsimp [h1, q2]; done) | simp_all) (by first | (simp -dsimp; done) | (simp -dsimp [h1, q2]; done) | simp_all) (by first | (simp -dsimp; done) | (simp -dsimp [h1, q2]; done) | simp_all)) ?_
      refine (ih_laws_szValueS_l1 a (IntKind.i64.wrap (left' - (a.length : Int))) 0 o ho12) _ rfl _ ?_
      rcases o with r0 | s
      · dsimp only at hF
        cases hF
        intro st h
        simpa using h
      · dsimp only at hF
        cases hF
        simp -dsimp
        repeat (refine chk.go (by first | omega | assumption | (simp_all; done) | (simp_all; omega)) ?_; simp -dsimp)
  · intro _f_laws_szValue _f_laws_szValueS_l1 ih_laws_szValue ih_laws_szValueS_l1 a left'3 i o hF
    intro c hc Q hq
    obtain rfl : c = _ := navEq hc rfl
    refine ALoopU.know fun hk hs => ?_
    have b0 := hk 0
    simp -dsimp at b0
    clear hk hs
    refine ALoopU.enter ?_
    simp -dsimp
    repeat (refine chk.go (by first | omega | assumption | (simp_all; done) | (simp_all; omega)) ?_; simp -dsimp)
    refine abr.split (fun h4 => ?_) (fun h4 => ?_)
    · have q5 : (i < a.length) := by first | exact h4 | omega | (simpa using h4) | (simp at h4 ⊢; omega) | simp_all
      have z6 : ((i : Int) < (a.length : Int)) := by first | omega | simp_all
      rw [if_pos q5] at hF
      have hF := ob hF; obtain ⟨x, e7, hF⟩ := hF
      have le7 := lt_of_get e7
      simp -dsimp [h4, z6, ↓e7]
      repeat (refine chk.go (by first | omega | assumption | (simp_all; done) | (simp_all; omega)) ?_; simp -dsimp [h4, z6, ↓e7])
      have hF := ob hF; obtain ⟨v, e8, hF⟩ := hF
      refine ((ih_laws_szValue x left'3 v e8)).goW (by first | (simp; done) | (simp [h4, z6, ↓e7]; done) | simp_all) (by simp) ?_
      simp -dsimp [h4, z6, ↓e7]
      repeat (refine chk.go (by first | omega | assumption | (simp_all; done) | (simp_all; omega)) ?_; simp -dsimp [h4, z6, ↓e7])
      refine abr.split (fun h9 => ?_) (fun h9 => ?_)
      · have q10 : (v < 0) := by first | exact h9 | omega | (simpa using h9) | (simp at h9 ⊢; omega) | simp_all
        rw [if_pos q10] at hF
        cases hF
        simp -dsimp [h4, z6, ↓e7, h9]
        repeat (refine chk.go (by first | omega | assumption | (simp_all; done) | (simp_all; omega)) ?_; simp -dsimp [h4, z6, ↓e7, h9])
        refine Leave.go _ (Gh.refl _) (hq _ ?_)
        simp -dsimp [h4, z6, ↓e7, h9]
        repeat (refine chk.go (by first | omega | assumption | (simp_all; done) | (simp_all; omega)) ?_; simp -dsimp [h4, z6, ↓e7, h9])
      · have q10 : ¬ (v < 0) := by first | exact h9 | omega | (simpa using h9) | (simp at h9 ⊢; omega) | simp_all
        rw [if_neg q10] at hF
        have w11 : IntKind.i64.wrap ((i : Int) + 1) = (i : Int) + 1 := wrap_in (by omega) (by omega)
        simp -dsimp [h4, z6, ↓e7, h9, q10, w11]
        repeat (refine chk.go (by first | omega | assumption | (simp_all; done) | (simp_all; omega)) ?_; simp -dsimp [h4, z6, ↓e7, h9, q10, w11])
        refine Again.go ⟨[(0, .arr (List.map Vl.Value.c a)), (1, .lit (.int .i64 v)), (5, .lit (.int .i64 ((i + 1) : Int)))], []⟩ (Gh.to (by simp) (by first | (simp -dsimp; done) | (simp -dsimp [h4, z6, ↓e7, h9, q10, w11]; done) | simp_all) (by first | (simp -dsimp; done) | (simp -dsimp [h4, z6, ↓e7, h9, q10, w11]; done) | simp_all) (by first | (simp -dsimp; done) | (simp -dsimp [h4, z6, ↓e7, h9, q10, w11]; done) | simp_all)) ?_
        exact (ih_laws_szValueS_l1 a v (i + 1) o hF) _ rfl _ hq
    · have q5 : ¬ (i < a.length) := by first | exact h4 | omega | (simpa using h4) | (simp at h4 ⊢; omega) | simp_all
      have z6 : ¬ ((i : Int) < (a.length : Int)) := by first | omega | simp_all
      rw [if_neg q5] at hF
      cases hF
      simp -dsimp [h4, q5, z6]
      repeat (refine chk.go (by first | omega | assumption | (simp_all; done) | (simp_all; omega)) ?_; simp -dsimp [h4, q5, z6])
      refine Leave.go ⟨[(1, .lit (.int .i64 left'3))], []⟩ (Gh.to (by simp) (by first | (simp -dsimp; done) | (simp -dsimp [h4, q5, z6]; done) | simp_all) (by first | (simp -dsimp; done) | (simp -dsimp [h4, q5, z6]; done) | simp_all) (by first | (simp -dsimp; done) | (simp -dsimp [h4, q5, z6]; done) | simp_all)) ?_
      exact hq

theorem C.laws_szValue (B : Nat) (hB1 : 67108864 ≤ B) (hB2 : B ≤ 9223372036854775807) (a : Vl.Value) (left' : Int) (r : Int) (hF : F.laws_szValue a left' = some r) : PureCall Try.prog B 8 [.agg [.lit (.int .i64 a.ctor), .lit (.int .i64 a.n), .arr (List.map Vl.Value.c a.kids)], .lit (.int .i64 left')] (.lit (.int .i64 r)) :=
  (CC.laws_szValue B hB1 hB2 ).1 a left' r hF

theorem C.laws_szValueS (B : Nat) (hB1 : 67108864 ≤ B) (hB2 : B ≤ 9223372036854775807) (a : List Vl.Value) (left' : Int) (r : Int) (hF : F.laws_szValueS a left' = some r) : PureCall Try.prog B 24 [.arr (List.map Vl.Value.c a), .lit (.int .i64 left')] (.lit (.int .i64 r)) :=
  (CC.laws_szValue B hB1 hB2 ).2.1 a left' r hF

theorem C.laws_szValueS_l1 (B : Nat) (hB1 : 67108864 ≤ B) (hB2 : B ≤ 9223372036854775807) (a : List Vl.Value) (left'3 : Int) (i : Nat) (o : Lo Int Int) (hF : F.laws_szValueS_l1 a left'3 i = some o) : ∀ (c : Code), navO [1, 1, 1, 0, 1, 0, 0] (bodyOf Try.f24) = some c → ∀ (Q : Exit → ASt → Prop), o.post (fun r => ∀ st, Post Try.prog Try.f24 (fun r' _ => r'.le (.lit (.int .i64 r))) .ret st → Q .ret st) (fun s => Q (.exit 0) ⟨[(1, .lit (.int .i64 s))], []⟩) → ALoopU Try.prog B 0 27 (hold c .mk) ⟨[(0, .arr (List.map Vl.Value.c a)), (1, .lit (.int .i64 left'3)), (5, .lit (.int .i64 (i : Int)))], []⟩ (hold Q .mk) :=
  (CC.laws_szValue B hB1 hB2 ).2.2 a left'3 i o hF

set_option maxRecDepth 100000 in
set_option maxHeartbeats 400000 in
theorem C.laws_toType (B : Nat) (hB1 : 67108864 ≤ B) (hB2 : B ≤ 9223372036854775807) (a : Vl.Ty) (r : Vl.Ty) (hF : F.laws_toType a = some r) : PureCall Try.prog B 11 [.agg [.lit (.int .i64 a.data), .lit (.int .i64 a.index)]] (.agg [.lit (.int .i64 r.data), .lit (.int .i64 r.index)]) := by
  unfold F.laws_toType at hF
  refine PureCall.enterLe Try.func11 (by kernel_rfl) rfl Try.ntmps11 (by simp) (by simp) ?_
  cases hF
  simp -dsimp
  repeat (refine chk.go (by first | omega | assumption | (simp_all; done) | (simp_all; omega)) ?_; simp -dsimp)

set_option maxRecDepth 100000 in
set_option maxHeartbeats 400000 in
theorem CC.laws_toTypeS_l1 (B : Nat) (hB1 : 67108864 ≤ B) (hB2 : B ≤ 9223372036854775807) (a : List Vl.Ty) : (∀ (out : List Vl.Ty) (i : Nat) (o : List Vl.Ty), F.laws_toTypeS_l1 a out i = some o → ∀ (c : Code), navO [1, 1, 0, 1, 0, 0] (bodyOf Try.f86) = some c → ∀ (Q : Exit → ASt → Prop), Q (.exit 0) ⟨[(3, .own 0 (List.length (α := Vl.Ty) o))], [.elems 2 (List.map Vl.Ty.c o)]⟩ → ALoopU Try.prog B 0 23 (hold c .mk) ⟨[(0, .arr (List.map Vl.Ty.c a)), (3, .own 0 (List.length (α := Vl.Ty) out)), (4, .lit (.int .i64 (i : Int)))], [.elems 2 (List.map Vl.Ty.c out)]⟩ (hold Q .mk)) := by
  refine F.laws_toTypeS_l1.partial_correctness a
    (fun out i o => ∀ (c : Code), navO [1, 1, 0, 1, 0, 0] (bodyOf Try.f86) = some c → ∀ (Q : Exit → ASt → Prop), Q (.exit 0) ⟨[(3, .own 0 (List.length (α := Vl.Ty) o))], [.elems 2 (List.map Vl.Ty.c o)]⟩ → ALoopU Try.prog B 0 23 (hold c .mk) ⟨[(0, .arr (List.map Vl.Ty.c a)), (3, .own 0 (List.length (α := Vl.Ty) out)), (4, .lit (.int .i64 (i : Int)))], [.elems 2 (List.map Vl.Ty.c out)]⟩ (hold Q .mk))
    ?_
  · intro _f_laws_toTypeS_l1 ih_laws_toTypeS_l1 out i o hF
    intro c hc Q hq
    obtain rfl : c = _ := navEq hc rfl
    refine ALoopU.know fun hk hs => ?_
    have b0 := hk 0
    simp -dsimp at b0
    have d0 := hs 0 _ rfl
    simp -dsimp [Blk.bnd] at d0
    clear hk hs
    refine ALoopU.enter ?_
    simp -dsimp
    repeat (refine chk.go (by first | omega | assumption | (simp_all; done) | (simp_all; omega)) ?_; simp -dsimp)
    refine abr.split (fun h2 => ?_) (fun h2 => ?_)
    · have q3 : (i < a.length) := by first | exact h2 | omega | (simpa using h2) | (simp at h2 ⊢; omega) | simp_all
      have z4 : ((i : Int) < (a.length : Int)) := by first | omega | simp_all
      rw [if_pos q3] at hF
      have hF := ob hF; obtain ⟨x, e5, hF⟩ := hF
      have le5 := lt_of_get e5
      simp -dsimp [h2, z4, ↓e5]
      repeat (refine chk.go (by first | omega | assumption | (simp_all; done) | (simp_all; omega)) ?_; simp -dsimp [h2, z4, ↓e5])
      have hF := ob hF; obtain ⟨v, e6, hF⟩ := hF
      refine ((C.laws_toType B hB1 hB2 x v e6)).goW (by first | (simp; done) | (simp [h2, z4, ↓e5]; done) | simp_all) (by simp) ?_
      have hF := ob hF; obtain ⟨x7, e8, hF⟩ := hF
      have le8 := lt_of_get e8
      have w9 : IntKind.i64.wrap ((i : Int) + 1) = (i : Int) + 1 := wrap_in (by omega) (by omega)
      simp -dsimp [h2, z4, ↓e5, ↓e8, w9]
      repeat (refine chk.go (by first | omega | assumption | (simp_all; done) | (simp_all; omega)) ?_; simp -dsimp [h2, z4, ↓e5, ↓e8, w9])
      refine Again.go ⟨[(0, .arr (List.map Vl.Ty.c a)), (3, .own 0 (List.length (α := Vl.Ty) (out.set i v))), (4, .lit (.int .i64 ((i + 1) : Int)))], [.elems 2 (List.map Vl.Ty.c (out.set i v))]⟩ (Gh.to (by simp) (by first | (simp -dsimp; done) | (simp -dsimp [h2, z4, ↓e5, ↓e8, w9]; done) | simp_all) (by first | (simp -dsimp; done) | (simp -dsimp [h2, z4, ↓e5, ↓e8, w9]; done) | simp_all) (by first | (simp -dsimp; done) | (simp -dsimp [h2, z4, ↓e5, ↓e8, w9]; done) | simp_all)) ?_
      exact (ih_laws_toTypeS_l1 (out.set i v) (i + 1) o hF) _ rfl _ hq
    · have q3 : ¬ (i < a.length) := by first | exact h2 | omega | (simpa using h2) | (simp at h2 ⊢; omega) | simp_all
      have z4 : ¬ ((i : Int) < (a.length : Int)) := by first | omega | simp_all
      rw [if_neg q3] at hF
      cases hF
      simp -dsimp [h2, q3, z4]
      repeat (refine chk.go (by first | omega | assumption | (simp_all; done) | (simp_all; omega)) ?_; simp -dsimp [h2, q3, z4])
      refine Leave.go ⟨[(3, .own 0 (List.length (α := Vl.Ty) out))], [.elems 2 (List.map Vl.Ty.c out)]⟩ (Gh.to (by simp) (by first | (simp -dsimp; done) | (simp -dsimp [h2, q3, z4]; done) | simp_all) (by first | (simp -dsimp; done) | (simp -dsimp [h2, q3, z4]; done) | simp_all) (by first | (simp -dsimp; done) | (simp -dsimp [h2, q3, z4]; done) | simp_all)) ?_
      exact hq

theorem C.laws_toTypeS_l1 (B : Nat) (hB1 : 67108864 ≤ B) (hB2 : B ≤ 9223372036854775807) (a : List Vl.Ty) (out : List Vl.Ty) (i : Nat) (o : List Vl.Ty) (hF : F.laws_toTypeS_l1 a out i = some o) : ∀ (c : Code), navO [1, 1, 0, 1, 0, 0] (bodyOf Try.f86) = some c → ∀ (Q : Exit → ASt → Prop), Q (.exit 0) ⟨[(3, .own 0 (List.length (α := Vl.Ty) o))], [.elems 2 (List.map Vl.Ty.c o)]⟩ → ALoopU Try.prog B 0 23 (hold c .mk) ⟨[(0, .arr (List.map Vl.Ty.c a)), (3, .own 0 (List.length (α := Vl.Ty) out)), (4, .lit (.int .i64 (i : Int)))], [.elems 2 (List.map Vl.Ty.c out)]⟩ (hold Q .mk) :=
  (CC.laws_toTypeS_l1 B hB1 hB2 a) out i o hF

set_option maxRecDepth 100000 in
set_option maxHeartbeats 400000 in
theorem C.laws_toTypeS (B : Nat) (hB1 : 67108864 ≤ B) (hB2 : B ≤ 9223372036854775807) (a : List Vl.Ty) (r : List Vl.Ty) (hF : F.laws_toTypeS a = some r) : PureCall Try.prog B 86 [.arr (List.map Vl.Ty.c a)] (.arr (List.map Vl.Ty.c r)) := by
  unfold F.laws_toTypeS at hF
  refine PureCall.enterLe Try.func86 (by kernel_rfl) rfl Try.ntmps86 (by simp) (by simp) ?_
  have hF := oc hF; obtain ⟨c1, hF⟩ := hF
  simp -dsimp
  repeat (refine chk.go (by first | omega | assumption | (simp_all; done) | (simp_all; omega)) ?_; simp -dsimp)
  have hF := ob hF; obtain ⟨o, ho10, hF⟩ := hF
  refine ALoop.goU ⟨[(0, .arr (List.map Vl.Ty.c a)), (3, .own 0 (List.length (α := Vl.Ty) (List.replicate a.length Vl.Ty.z))), (4, .lit (.int .i64 (0 : Int)))], [.elems 2 (List.map Vl.Ty.c (List.replicate a.length Vl.Ty.z))]⟩ (Gh.to (by simp) (by simp -dsimp) (by simp -dsimp) (by simp -dsimp)) ?_
  refine (C.laws_toTypeS_l1 B hB1 hB2 a (List.replicate a.length Vl.Ty.z) 0 o ho10) _ rfl _ ?_
  cases hF
  simp -dsimp
  repeat (refine chk.go (by first | omega | assumption | (simp_all; done) | (simp_all; omega)) ?_; simp -dsimp)

set_option maxRecDepth 100000 in
set_option maxHeartbeats 400000 in
theorem C.laws_toCtor (B : Nat) (hB1 : 67108864 ≤ B) (hB2 : B ≤ 9223372036854775807) (a : Vl.Ctor) (r : Vl.Ctor) (hF : F.laws_toCtor a = some r) : PureCall Try.prog B 73 [.agg [.lit (.string a.name), .arr (List.map Vl.Ty.c a.args), .lit (.int .i64 a.index)]] (.agg [.lit (.string r.name), .arr (List.map Vl.Ty.c r.args), .lit (.int .i64 r.index)]) := by
  unfold F.laws_toCtor at hF
  refine PureCall.enterLe Try.func73 (by kernel_rfl) rfl Try.ntmps73 (by simp) (by simp) ?_
  simp -dsimp
  repeat (refine chk.go (by first | omega | assumption | (simp_all; done) | (simp_all; omega)) ?_; simp -dsimp)
  have hF := ob hF; obtain ⟨v, e1, hF⟩ := hF
  refine ((C.laws_toTypeS B hB1 hB2 a.args v e1)).goW (by simp) (by simp) ?_
  cases hF
  simp -dsimp
  repeat (refine chk.go (by first | omega | assumption | (simp_all; done) | (simp_all; omega)) ?_; simp -dsimp)

set_option maxRecDepth 100000 in
set_option maxHeartbeats 400000 in
theorem CC.laws_toCtorS_l1 (B : Nat) (hB1 : 67108864 ≤ B) (hB2 : B ≤ 9223372036854775807) (a : List Vl.Ctor) : (∀ (out : List Vl.Ctor) (i : Nat) (o : List Vl.Ctor), F.laws_toCtorS_l1 a out i = some o → ∀ (c : Code), navO [1, 1, 0, 1, 0, 0] (bodyOf Try.f48) = some c → ∀ (Q : Exit → ASt → Prop), Q (.exit 0) ⟨[(3, .own 0 (List.length (α := Vl.Ctor) o))], [.elems 3 (List.map Vl.Ctor.c o)]⟩ → ALoopU Try.prog B 0 23 (hold c .mk) ⟨[(0, .arr (List.map Vl.Ctor.c a)), (3, .own 0 (List.length (α := Vl.Ctor) out)), (4, .lit (.int .i64 (i : Int)))], [.elems 3 (List.map Vl.Ctor.c out)]⟩ (hold Q .mk)) := by
  refine F.laws_toCtorS_l1.partial_correctness a
    (fun out i o => ∀ (c : Code), navO [1, 1, 0, 1, 0, 0] (bodyOf Try.f48) = some c → ∀ (Q : Exit → ASt → Prop), Q (.exit 0) ⟨[(3, .own 0 (List.length (α := Vl.Ctor) o))], [.elems 3 (List.map Vl.Ctor.c o)]⟩ → ALoopU Try.prog B 0 23 (hold c .mk) ⟨[(0, .arr (List.map Vl.Ctor.c a)), (3, .own 0 (List.length (α := Vl.Ctor) out)), (4, .lit (.int .i64 (i : Int)))], [.elems 3 (List.map Vl.Ctor.c out)]⟩ (hold Q .mk))
    ?_
  · intro _f_laws_toCtorS_l1 ih_laws_toCtorS_l1 out i o hF
    intro c hc Q hq
    obtain rfl : c = _ := navEq hc rfl
    refine ALoopU.know fun hk hs => ?_
    have b0 := hk 0
    simp -dsimp at b0
    have d0 := hs 0 _ rfl
    simp -dsimp [Blk.bnd] at d0
    clear hk hs
    refine ALoopU.enter ?_
    simp -dsimp
    repeat (refine chk.go (by first | omega | assumption | (simp_all; done) | (simp_all; omega)) ?_; simp -dsimp)
    refine abr.split (fun h2 => ?_) (fun h2 => ?_)
    · have q3 : (i < a.length) := by first | exact h2 | omega | (simpa using h2) | (simp at h2 ⊢; omega) | simp_all
      have z4 : ((i : Int) < (a.length : Int)) := by first | omega | simp_all
      rw [if_pos q3] at hF
      have hF := ob hF; obtain ⟨x, e5, hF⟩ := hF
      have le5 := lt_of_get e5
      simp -dsimp [h2, z4, ↓e5]
      repeat (refine chk.go (by first | omega | assumption | (simp_all; done) | (simp_all; omega)) ?_; simp -dsimp [h2, z4, ↓e5])
      have hF := ob hF; obtain ⟨v, e6, hF⟩ := hF
      refine ((C.laws_toCtor B hB1 hB2 x v e6)).goW (by first | (simp; done) | (simp [h2, z4, ↓e5]; done) | simp_all) (by simp) ?_
      have hF := ob hF; obtain ⟨x7, e8, hF⟩ := hF
      have le8 := lt_of_get e8
      have w9 : IntKind.i64.wrap ((i : Int) + 1) = (i : Int) + 1 := wrap_in (by omega) (by omega)
      simp -dsimp [h2, z4, ↓e5, ↓e8, w9]
      repeat (refine chk.go (by first | omega | assumption | (simp_all; done) | (simp_all; omega)) ?_; simp -dsimp [h2, z4, ↓e5, ↓e8, w9])
      refine Again.go ⟨[(0, .arr (List.map Vl.Ctor.c a)), (3, .own 0 (List.length (α := Vl.Ctor) (out.set i v))), (4, .lit (.int .i64 ((i + 1) : Int)))], [.elems 3 (List.map Vl.Ctor.c (out.set i v))]⟩ (Gh.to (by simp) (by first | (simp -dsimp; done) | (simp -dsimp [h2, z4, ↓e5, ↓e8, w9]; done) | simp_all) (by first | (simp -dsimp; done) | (simp -dsimp [h2, z4, ↓e5, ↓e8, w9]; done) | simp_all) (by first | (simp -dsimp; done) | (simp -dsimp [h2, z4, ↓e5, ↓e8, w9]; done) | simp_all)) ?_
      exact (ih_laws_toCtorS_l1 (out.set i v) (i + 1) o hF) _ rfl _ hq
    · have q3 : ¬ (i < a.length) := by first | exact h2 | omega | (simpa using h2) | (simp at h2 ⊢; omega) | simp_all
      have z4 : ¬ ((i : Int) < (a.length : Int)) := by first | omega | simp_all
      rw [if_neg q3] at hF
      cases hF
      simp -dsimp [h2, q3, z4]
      repeat (refine chk.go (by first | omega | assumption | (simp_all; done) | (simp_all; omega)) ?_; simp -dsimp [h2, q3, z4])
      refine Leave.go ⟨[(3, .own 0 (List.length (α := Vl.Ctor) out))], [.elems 3 (List.map Vl.Ctor.c out)]⟩ (Gh.to (by simp) (by first | (simp -dsimp; done) | (simp -dsimp [h2, q3, z4]; done) | simp_all) (by first | (simp -dsimp; done) | (simp -dsimp [h2, q3, z4]; done) | simp_all) (by first | (simp -dsimp; done) | (simp -dsimp [h2, q3, z4]; done) | simp_all)) ?_
      exact hq

theorem C.laws_toCtorS_l1 (B : Nat) (hB1 : 67108864 ≤ B) (hB2 : B ≤ 9223372036854775807) (a : List Vl.Ctor) (out : List Vl.Ctor) (i : Nat) (o : List Vl.Ctor) (hF : F.laws_toCtorS_l1 a out i = some o) : ∀ (c : Code), navO [1, 1, 0, 1, 0, 0] (bodyOf Try.f48) = some c → ∀ (Q : Exit → ASt → Prop), Q (.exit 0) ⟨[(3, .own 0 (List.length (α := Vl.Ctor) o))], [.elems 3 (List.map Vl.Ctor.c o)]⟩ → ALoopU Try.prog B 0 23 (hold c .mk) ⟨[(0, .arr (List.map Vl.Ctor.c a)), (3, .own 0 (List.length (α := Vl.Ctor) out)), (4, .lit (.int .i64 (i : Int)))], [.elems 3 (List.map Vl.Ctor.c out)]⟩ (hold Q .mk) :=
  (CC.laws_toCtorS_l1 B hB1 hB2 a) out i o hF

set_option maxRecDepth 100000 in
set_option maxHeartbeats 400000 in
theorem C.laws_toCtorS (B : Nat) (hB1 : 67108864 ≤ B) (hB2 : B ≤ 9223372036854775807) (a : List Vl.Ctor) (r : List Vl.Ctor) (hF : F.laws_toCtorS a = some r) : PureCall Try.prog B 48 [.arr (List.map Vl.Ctor.c a)] (.arr (List.map Vl.Ctor.c r)) := by
  unfold F.laws_toCtorS at hF
  refine PureCall.enterLe Try.func48 (by kernel_rfl) rfl Try.ntmps48 (by simp) (by simp) ?_
  have hF := oc hF; obtain ⟨c1, hF⟩ := hF
  simp -dsimp
  repeat (refine chk.go (by first | omega | assumption | (simp_all; done) | (simp_all; omega)) ?_; simp -dsimp)
  have hF := ob hF; obtain ⟨o, ho10, hF⟩ := hF
  refine ALoop.goU ⟨[(0, .arr (List.map Vl.Ctor.c a)), (3, .own 0 (List.length (α := Vl.Ctor) (List.replicate a.length Vl.Ctor.z))), (4, .lit (.int .i64 (0 : Int)))], [.elems 3 (List.map Vl.Ctor.c (List.replicate a.length Vl.Ctor.z))]⟩ (Gh.to (by simp) (by simp -dsimp) (by simp -dsimp) (by simp -dsimp)) ?_
  refine (C.laws_toCtorS_l1 B hB1 hB2 a (List.replicate a.length Vl.Ctor.z) 0 o ho10) _ rfl _ ?_
  cases hF
  simp -dsimp
  repeat (refine chk.go (by first | omega | assumption | (simp_all; done) | (simp_all; omega)) ?_; simp -dsimp)

set_option maxRecDepth 100000 in
set_option maxHeartbeats 400000 in
theorem C.laws_toData (B : Nat) (hB1 : 67108864 ≤ B) (hB2 : B ≤ 9223372036854775807) (a : Vl.Data) (r : Vl.Data) (hF : F.laws_toData a = some r) : PureCall Try.prog B 27 [.agg [.lit (.string a.name), .arr (List.map Vl.Ctor.c a.ctors)]] (.agg [.lit (.string r.name), .arr (List.map Vl.Ctor.c r.ctors)]) := by
  unfold F.laws_toData at hF
  refine PureCall.enterLe Try.func27 (by kernel_rfl) rfl Try.ntmps27 (by simp) (by simp) ?_
  simp -dsimp
  repeat (refine chk.go (by first | omega | assumption | (simp_all; done) | (simp_all; omega)) ?_; simp -dsimp)
  have hF := ob hF; obtain ⟨v, e1, hF⟩ := hF
  refine ((C.laws_toCtorS B hB1 hB2 a.ctors v e1)).goW (by simp) (by simp) ?_
  cases hF
  simp -dsimp
  repeat (refine chk.go (by first | omega | assumption | (simp_all; done) | (simp_all; omega)) ?_; simp -dsimp)

set_option maxRecDepth 100000 in
set_option maxHeartbeats 400000 in
theorem CC.laws_toDataS_l1 (B : Nat) (hB1 : 67108864 ≤ B) (hB2 : B ≤ 9223372036854775807) (a : List Vl.Data) : (∀ (out : List Vl.Data) (i : Nat) (o : List Vl.Data), F.laws_toDataS_l1 a out i = some o → ∀ (c : Code), navO [1, 1, 0, 1, 0, 0] (bodyOf Try.f10) = some c → ∀ (Q : Exit → ASt → Prop), Q (.exit 0) ⟨[(3, .own 0 (List.length (α := Vl.Data) o))], [.elems 2 (List.map Vl.Data.c o)]⟩ → ALoopU Try.prog B 0 23 (hold c .mk) ⟨[(0, .arr (List.map Vl.Data.c a)), (3, .own 0 (List.length (α := Vl.Data) out)), (4, .lit (.int .i64 (i : Int)))], [.elems 2 (List.map Vl.Data.c out)]⟩ (hold Q .mk)) := by
  refine F.laws_toDataS_l1.partial_correctness a
    (fun out i o => ∀ (c : Code), navO [1, 1, 0, 1, 0, 0] (bodyOf Try.f10) = some c → ∀ (Q : Exit → ASt → Prop), Q (.exit 0) ⟨[(3, .own 0 (List.length (α := Vl.Data) o))], [.elems 2 (List.map Vl.Data.c o)]⟩ → ALoopU Try.prog B 0 23 (hold c .mk) ⟨[(0, .arr (List.map Vl.Data.c a)), (3, .own 0 (List.length (α := Vl.Data) out)), (4, .lit (.int .i64 (i : Int)))], [.elems 2 (List.map Vl.Data.c out)]⟩ (hold Q .mk))
    ?_
  · intro _f_laws_toDataS_l1 ih_laws_toDataS_l1 out i o hF
    intro c hc Q hq
    obtain rfl : c = _ := navEq hc rfl
    refine ALoopU.know fun hk hs => ?_
    have b0 := hk 0
    simp -dsimp at b0
    have d0 := hs 0 _ rfl
    simp -dsimp [Blk.bnd] at d0
    clear hk hs
    refine ALoopU.enter ?_
    simp -dsimp
    repeat (refine chk.go (by first | omega | assumption | (simp_all; done) | (simp_all; omega)) ?_; simp -dsimp)
    refine abr.split (fun h2 => ?_) (fun h2 => ?_)
    · have q3 : (i < a.length) := by first | exact h2 | omega | (simpa using h2) | (simp at h2 ⊢; omega) | simp_all
      have z4 : ((i : Int) < (a.length : Int)) := by first | omega | simp_all
      rw [if_pos q3] at hF
      have hF := ob hF; obtain ⟨x, e5, hF⟩ := hF
      have le5 := lt_of_get e5
      simp -dsimp [h2, z4, ↓e5]
      repeat (refine chk.go (by first | omega | assumption | (simp_all; done) | (simp_all; omega)) ?_; simp -dsimp [h2, z4, ↓e5])
      have hF := ob hF; obtain ⟨v, e6, hF⟩ := hF
      refine ((C.laws_toData B hB1 hB2 x v e6)).goW (by first | (simp; done) | (simp [h2, z4, ↓e5]; done) | simp_all) (by simp) ?_
      have hF := ob hF; obtain ⟨x7, e8, hF⟩ := hF
      have le8 := lt_of_get e8
      have w9 : IntKind.i64.wrap ((i : Int) + 1) = (i : Int) + 1 := wrap_in (by omega) (by omega)
      simp -dsimp [h2, z4, ↓e5, ↓e8, w9]
      repeat (refine chk.go (by first | omega | assumption | (simp_all; done) | (simp_all; omega)) ?_; simp -dsimp [h2, z4, ↓e5, ↓e8, w9])
      refine Again.go ⟨[(0, .arr (List.map Vl.Data.c a)), (3, .own 0 (List.length (α := Vl.Data) (out.set i v))), (4, .lit (.int .i64 ((i + 1) : Int)))], [.elems 2 (List.map Vl.Data.c (out.set i v))]⟩ (Gh.to (by simp) (by first | (simp -dsimp; done) | (simp -dsimp [h2, z4, ↓e5, ↓e8, w9]; done) | simp_all) (by first | (simp -dsimp; done) | (simp -dsimp [h2, z4, ↓e5, ↓e8, w9]; done) | simp_all) (by first | (simp -dsimp; done) | (simp -dsimp [h2, z4, ↓e5, ↓e8, w9]; done) | simp_all)) ?_
      exact (ih_laws_toDataS_l1 (out.set i v) (i + 1) o hF) _ rfl _ hq
    · have q3 : ¬ (i < a.length) := by first | exact h2 | omega | (simpa using h2) | (simp at h2 ⊢; omega) | simp_all
      have z4 : ¬ ((i : Int) < (a.length : Int)) := by first | omega | simp_all
      rw [if_neg q3] at hF
      cases hF
      simp -dsimp [h2, q3, z4]
      repeat (refine chk.go (by first | omega | assumption | (simp_all; done) | (simp_all; omega)) ?_; simp -dsimp [h2, q3, z4])
      refine Leave.go ⟨[(3, .own 0 (List.length (α := Vl.Data) out))], [.elems 2 (List.map Vl.Data.c out)]⟩ (Gh.to (by simp) (by first | (simp -dsimp; done) | (simp -dsimp [h2, q3, z4]; done) | simp_all) (by first | (simp -dsimp; done) | (simp -dsimp [h2, q3, z4]; done) | simp_all) (by first | (simp -dsimp; done) | (simp -dsimp [h2, q3, z4]; done) | simp_all)) ?_
      exact hq

theorem C.laws_toDataS_l1 (B : Nat) (hB1 : 67108864 ≤ B) (hB2 : B ≤ 9223372036854775807) (a : List Vl.Data) (out : List Vl.Data) (i : Nat) (o : List Vl.Data) (hF : F.laws_toDataS_l1 a out i = some o) : ∀ (c : Code), navO [1, 1, 0, 1, 0, 0] (bodyOf Try.f10) = some c → ∀ (Q : Exit → ASt → Prop), Q (.exit 0) ⟨[(3, .own 0 (List.length (α := Vl.Data) o))], [.elems 2 (List.map Vl.Data.c o)]⟩ → ALoopU Try.prog B 0 23 (hold c .mk) ⟨[(0, .arr (List.map Vl.Data.c a)), (3, .own 0 (List.length (α := Vl.Data) out)), (4, .lit (.int .i64 (i : Int)))], [.elems 2 (List.map Vl.Data.c out)]⟩ (hold Q .mk) :=
  (CC.laws_toDataS_l1 B hB1 hB2 a) out i o hF

set_option maxRecDepth 100000 in
set_option maxHeartbeats 400000 in
theorem C.laws_toDataS (B : Nat) (hB1 : 67108864 ≤ B) (hB2 : B ≤ 9223372036854775807) (a : List Vl.Data) (r : List Vl.Data) (hF : F.laws_toDataS a = some r) : PureCall Try.prog B 10 [.arr (List.map Vl.Data.c a)] (.arr (List.map Vl.Data.c r)) := by
  unfold F.laws_toDataS at hF
  refine PureCall.enterLe Try.func10 (by kernel_rfl) rfl Try.ntmps10 (by simp) (by simp) ?_
  have hF := oc hF; obtain ⟨c1, hF⟩ := hF
  simp -dsimp
  repeat (refine chk.go (by first | omega | assumption | (simp_all; done) | (simp_all; omega)) ?_; simp -dsimp)
  have hF := ob hF; obtain ⟨o, ho10, hF⟩ := hF
  refine ALoop.goU ⟨[(0, .arr (List.map Vl.Data.c a)), (3, .own 0 (List.length (α := Vl.Data) (List.replicate a.length Vl.Data.z))), (4, .lit (.int .i64 (0 : Int)))], [.elems 2 (List.map Vl.Data.c (List.replicate a.length Vl.Data.z))]⟩ (Gh.to (by simp) (by simp -dsimp) (by simp -dsimp) (by simp -dsimp)) ?_
  refine (C.laws_toDataS_l1 B hB1 hB2 a (List.replicate a.length Vl.Data.z) 0 o ho10) _ rfl _ ?_
  cases hF
  simp -dsimp
  repeat (refine chk.go (by first | omega | assumption | (simp_all; done) | (simp_all; omega)) ?_; simp -dsimp)

set_option maxRecDepth 100000 in
set_option maxHeartbeats 400000 in
theorem CC.laws_toValue (B : Nat) (hB1 : 67108864 ≤ B) (hB2 : B ≤ 9223372036854775807)  : (∀ (a : Vl.Value) (r : Vl.Value), F.laws_toValue a = some r → PureCall Try.prog B 12 [.agg [.lit (.int .i64 a.ctor), .lit (.int .i64 a.n), .arr (List.map Vl.Value.c a.kids)]] (.agg [.lit (.int .i64 r.ctor), .lit (.int .i64 r.n), .arr (List.map Vl.Value.c r.kids)])) ∧
    (∀ (a : List Vl.Value) (r : List Vl.Value), F.laws_toValueS a = some r → PureCall Try.prog B 28 [.arr (List.map Vl.Value.c a)] (.arr (List.map Vl.Value.c r))) ∧
    (∀ (a : List Vl.Value) (out : List Vl.Value) (i : Nat) (o : List Vl.Value), F.laws_toValueS_l1 a out i = some o → ∀ (c : Code), navO [1, 1, 0, 1, 0, 0] (bodyOf Try.f28) = some c → ∀ (Q : Exit → ASt → Prop), Q (.exit 0) ⟨[(3, .own 0 (List.length (α := Vl.Value) o))], [.elems 3 (List.map Vl.Value.c o)]⟩ → ALoopU Try.prog B 0 23 (hold c .mk) ⟨[(0, .arr (List.map Vl.Value.c a)), (3, .own 0 (List.length (α := Vl.Value) out)), (4, .lit (.int .i64 (i : Int)))], [.elems 3 (List.map Vl.Value.c out)]⟩ (hold Q .mk)) := by
  refine F.laws_toValue.mutual_partial_correctness 
    (fun a r => PureCall Try.prog B 12 [.agg [.lit (.int .i64 a.ctor), .lit (.int .i64 a.n), .arr (List.map Vl.Value.c a.kids)]] (.agg [.lit (.int .i64 r.ctor), .lit (.int .i64 r.n), .arr (List.map Vl.Value.c r.kids)]))
    (fun a r => PureCall Try.prog B 28 [.arr (List.map Vl.Value.c a)] (.arr (List.map Vl.Value.c r)))
    (fun a out i o => ∀ (c : Code), navO [1, 1, 0, 1, 0, 0] (bodyOf Try.f28) = some c → ∀ (Q : Exit → ASt → Prop), Q (.exit 0) ⟨[(3, .own 0 (List.length (α := Vl.Value) o))], [.elems 3 (List.map Vl.Value.c o)]⟩ → ALoopU Try.prog B 0 23 (hold c .mk) ⟨[(0, .arr (List.map Vl.Value.c a)), (3, .own 0 (List.length (α := Vl.Value) out)), (4, .lit (.int .i64 (i : Int)))], [.elems 3 (List.map Vl.Value.c out)]⟩ (hold Q .mk))
    ?_ ?_ ?_
  · intro _f_laws_toValueS ih_laws_toValueS a r hF
    refine PureCall.enterLe Try.func12 (by kernel_rfl) rfl Try.ntmps12 (by simp) (by simp) ?_
    simp -dsimp
    repeat (refine chk.go (by first | omega | assumption | (simp_all; done) | (simp_all; omega)) ?_; simp -dsimp)
    have hF := ob hF; obtain ⟨v, e1, hF⟩ := hF
    refine ((ih_laws_toValueS a.kids v e1)).goW (by simp) (by simp) ?_
    cases hF
    simp -dsimp
    repeat (refine chk.go (by first | omega | assumption | (simp_all; done) | (simp_all; omega)) ?_; simp -dsimp)
  · intro _f_laws_toValueS_l1 ih_laws_toValueS_l1 a r hF
    refine PureCall.enterLe Try.func28 (by kernel_rfl) rfl Try.ntmps28 (by simp) (by simp) ?_
    have hF := oc hF; obtain ⟨c1, hF⟩ := hF
    simp -dsimp
    repeat (refine chk.go (by first | omega | assumption | (simp_all; done) | (simp_all; omega)) ?_; simp -dsimp)
    have hF := ob hF; obtain ⟨o, ho10, hF⟩ := hF
    refine ALoop.goU ⟨[(0, .arr (List.map Vl.Value.c a)), (3, .own 0 (List.length (α := Vl.Value) (List.replicate a.length Vl.Value.z))), (4, .lit (.int .i64 (0 : Int)))], [.elems 3 (List.map Vl.Value.c (List.replicate a.length Vl.Value.z))]⟩ (Gh.to (by simp) (by simp -dsimp) (by simp -dsimp) (by simp -dsimp)) ?_
    refine (ih_laws_toValueS_l1 a (List.replicate a.length Vl.Value.z) 0 o ho10) _ rfl _ ?_
    cases hF
    simp -dsimp
    repeat (refine chk.go (by first | omega | assumption | (simp_all; done) | (simp_all; omega)) ?_; simp -dsimp)
  · intro _f_laws_toValue _f_laws_toValueS_l1 ih_laws_toValue ih_laws_toValueS_l1 a out i o hF
    intro c hc Q hq
    obtain rfl : c = _ := navEq hc rfl
    refine ALoopU.know fun hk hs => ?_
    have b0 := hk 0
    simp -dsimp at b0
    have d0 := hs 0 _ rfl
    simp -dsimp [Blk.bnd] at d0
    clear hk hs
    refine ALoopU.enter ?_
    simp -dsimp
    repeat (refine chk.go (by first | omega | assumption | (simp_all; done) | (simp_all; omega)) ?_; simp -dsimp)
    refine abr.split (fun h2 => ?_) (fun h2 => ?_)
    · have q3 : (i < a.length) := by first | exact h2 | omega | (simpa using h2) | (simp at h2 ⊢; omega) | simp_all
      have z4 : ((i : Int) < (a.length : Int)) := by first | omega | simp_all
      rw [if_pos q3] at hF
      have hF := ob hF; obtain ⟨x, e5, hF⟩ := hF
      have le5 := lt_of_get e5
      simp -dsimp [h2, z4, ↓e5]
      repeat (refine chk.go (by first | omega | assumption | (simp_all; done) | (simp_all; omega)) ?_; simp -dsimp [h2, z4, ↓e5])
      have hF := ob hF; obtain ⟨v, e6, hF⟩ := hF
      refine ((ih_laws_toValue x v e6)).goW (by first | (simp; done) | (simp [h2, z4, ↓e5]; done) | simp_all) (by simp) ?_
      have hF := ob hF; obtain ⟨x7, e8, hF⟩ := hF
      have le8 := lt_of_get e8
      have w9 : IntKind.i64.wrap ((i : Int) + 1) = (i : Int) + 1 := wrap_in (by omega) (by omega)
      simp -dsimp [h2, z4, ↓e5, ↓e8, w9]
      repeat (refine chk.go (by first | omega | assumption | (simp_all; done) | (simp_all; omega)) ?_; simp -dsimp [h2, z4, ↓e5, ↓e8, w9])
      refine Again.go ⟨[(0, .arr (List.map Vl.Value.c a)), (3, .own 0 (List.length (α := Vl.Value) (out.set i v))), (4, .lit (.int .i64 ((i + 1) : Int)))], [.elems 3 (List.map Vl.Value.c (out.set i v))]⟩ (Gh.to (by simp) (by first | (simp -dsimp; done) | (simp -dsimp [h2, z4, ↓e5, ↓e8, w9]; done) | simp_all) (by first | (simp -dsimp; done) | (simp -dsimp [h2, z4, ↓e5, ↓e8, w9]; done) | simp_all) (by first | (simp -dsimp; done) | (simp -dsimp [h2, z4, ↓e5, ↓e8, w9]; done) | simp_all)) ?_
      exact (ih_laws_toValueS_l1 a (out.set i v) (i + 1) o hF) _ rfl _ hq
    · have q3 : ¬ (i < a.length) := by first | exact h2 | omega | (simpa using h2) | (simp at h2 ⊢; omega) | simp_all
      have z4 : ¬ ((i : Int) < (a.length : Int)) := by first | omega | simp_all
      rw [if_neg q3] at hF
      cases hF
      simp -dsimp [h2, q3, z4]
      repeat (refine chk.go (by first | omega | assumption | (simp_all; done) | (simp_all; omega)) ?_; simp -dsimp [h2, q3, z4])
      refine Leave.go ⟨[(3, .own 0 (List.length (α := Vl.Value) out))], [.elems 3 (List.map Vl.Value.c out)]⟩ (Gh.to (by simp) (by first | (simp -dsimp; done) | (simp -dsimp [h2, q3, z4]; done) | simp_all) (by first | (simp -dsimp; done) | (simp -dsimp [h2, q3, z4]; done) | simp_all) (by first | (simp -dsimp; done) | (simp -dsimp [h2, q3, z4]; done) | simp_all)) ?_
      exact hq

theorem C.laws_toValue (B : Nat) (hB1 : 67108864 ≤ B) (hB2 : B ≤ 9223372036854775807) (a : Vl.Value) (r : Vl.Value) (hF : F.laws_toValue a = some r) : PureCall Try.prog B 12 [.agg [.lit (.int .i64 a.ctor), .lit (.int .i64 a.n), .arr (List.map Vl.Value.c a.kids)]] (.agg [.lit (.int .i64 r.ctor), .lit (.int .i64 r.n), .arr (List.map Vl.Value.c r.kids)]) :=
  (CC.laws_toValue B hB1 hB2 ).1 a r hF

theorem C.laws_toValueS (B : Nat) (hB1 : 67108864 ≤ B) (hB2 : B ≤ 9223372036854775807) (a : List Vl.Value) (r : List Vl.Value) (hF : F.laws_toValueS a = some r) : PureCall Try.prog B 28 [.arr (List.map Vl.Value.c a)] (.arr (List.map Vl.Value.c r)) :=
  (CC.laws_toValue B hB1 hB2 ).2.1 a r hF

theorem C.laws_toValueS_l1 (B : Nat) (hB1 : 67108864 ≤ B) (hB2 : B ≤ 9223372036854775807) (a : List Vl.Value) (out : List Vl.Value) (i : Nat) (o : List Vl.Value) (hF : F.laws_toValueS_l1 a out i = some o) : ∀ (c : Code), navO [1, 1, 0, 1, 0, 0] (bodyOf Try.f28) = some c → ∀ (Q : Exit → ASt → Prop), Q (.exit 0) ⟨[(3, .own 0 (List.length (α := Vl.Value) o))], [.elems 3 (List.map Vl.Value.c o)]⟩ → ALoopU Try.prog B 0 23 (hold c .mk) ⟨[(0, .arr (List.map Vl.Value.c a)), (3, .own 0 (List.length (α := Vl.Value) out)), (4, .lit (.int .i64 (i : Int)))], [.elems 3 (List.map Vl.Value.c out)]⟩ (hold Q .mk) :=
  (CC.laws_toValue B hB1 hB2 ).2.2 a out i o hF

set_option maxRecDepth 100000 in
set_option maxHeartbeats 400000 in
theorem C.spec_l1Big (B : Nat) (hB1 : 67108864 ≤ B) (hB2 : B ≤ 9223372036854775807) (c' : Int) (r : Bool) (hF : F.spec_l1Big c' = some r) : PureCall Try.prog B 82 [.lit (.int .u8 c')] (.lit (.bool r)) := by
  unfold F.spec_l1Big at hF
  refine PureCall.enterLe Try.func82 (by kernel_rfl) rfl Try.ntmps82 (by simp) (by simp) ?_
  simp -dsimp
  repeat (refine chk.go (by first | omega | assumption | (simp_all; done) | (simp_all; omega)) ?_; simp -dsimp)
  refine abr.split (fun h1 => ?_) (fun h1 => ?_)
  · have q2 : (65 ≤ c') := by first | exact h1 | omega | (simpa using h1) | (simp at h1 ⊢; omega) | simp_all
    rw [if_pos q2] at hF
    cases hF
    simp -dsimp [h1]
    repeat (refine chk.go (by first | omega | assumption | (simp_all; done) | (simp_all; omega)) ?_; simp -dsimp [h1])
  · have q2 : ¬ (65 ≤ c') := by first | exact h1 | omega | (simpa using h1) | (simp at h1 ⊢; omega) | simp_all
    rw [if_neg q2] at hF
    cases hF
    simp -dsimp [h1, q2]
    repeat (refine chk.go (by first | omega | assumption | (simp_all; done) | (simp_all; omega)) ?_; simp -dsimp [h1, q2])

set_option maxRecDepth 100000 in
set_option maxHeartbeats 400000 in
theorem C.spec_l1Data (B : Nat) (hB1 : 67108864 ≤ B) (hB2 : B ≤ 9223372036854775807) (s : ByteArray) (r : Bool) (hF : F.spec_l1Data s = some r) : PureCall Try.prog B 64 [.lit (.string s)] (.lit (.bool r)) := by
  unfold F.spec_l1Data at hF
  refine PureCall.enterLe Try.func64 (by kernel_rfl) rfl Try.ntmps64 (by simp) (by simp) ?_
  simp -dsimp
  repeat (refine chk.go (by first | omega | assumption | (simp_all; done) | (simp_all; omega)) ?_; simp -dsimp)
  refine abr.split (fun h1 => ?_) (fun h1 => ?_)
  · have q2 : (s.size = 1) := by first | exact h1 | omega | (simpa using h1) | (simp at h1 ⊢; omega) | simp_all
    have z3 : ((s.size : Int) = (1 : Int)) := by first | omega | simp_all
    rw [if_pos q2] at hF
    have hF := oc hF; obtain ⟨c4, hF⟩ := hF
    simp -dsimp [h1, z3]
    repeat (refine chk.go (by first | omega | assumption | (simp_all; done) | (simp_all; omega)) ?_; simp -dsimp [h1, z3])
    have hF := ob hF; obtain ⟨v, e5, hF⟩ := hF
    refine ((C.spec_l1Big B hB1 hB2 ((byteAt s 0 : Nat) : Int) v e5)).goW (by first | (simp; done) | (simp [h1, z3]; done) | simp_all) (by simp) ?_
    simp -dsimp [h1, z3]
    repeat (refine chk.go (by first | omega | assumption | (simp_all; done) | (simp_all; omega)) ?_; simp -dsimp [h1, z3])
    refine abr.split (fun h6 => ?_) (fun h6 => ?_)
    · have q7 : (v = true) := by first | exact h6 | omega | (simpa using h6) | (simp at h6 ⊢; omega) | simp_all
      rw [if_pos q7] at hF
      cases hF
      simp -dsimp [h1, z3, h6]
      repeat (refine chk.go (by first | omega | assumption | (simp_all; done) | (simp_all; omega)) ?_; simp -dsimp [h1, z3, h6])
    · have q7 : ¬ (v = true) := by first | exact h6 | omega | (simpa using h6) | (simp at h6 ⊢; omega) | simp_all
      rw [if_neg q7] at hF
      cases hF
      simp -dsimp [h1, z3, h6, q7]
      repeat (refine chk.go (by first | omega | assumption | (simp_all; done) | (simp_all; omega)) ?_; simp -dsimp [h1, z3, h6, q7])
  · have q2 : ¬ (s.size = 1) := by first | exact h1 | omega | (simpa using h1) | (simp at h1 ⊢; omega) | simp_all
    have z3 : ¬ ((s.size : Int) = (1 : Int)) := by first | omega | simp_all
    rw [if_neg q2] at hF
    cases hF
    simp -dsimp [h1, q2, z3]
    repeat (refine chk.go (by first | omega | assumption | (simp_all; done) | (simp_all; omega)) ?_; simp -dsimp [h1, q2, z3])

set_option maxRecDepth 100000 in
set_option maxHeartbeats 400000 in
theorem CC.spec_NameValid_l1 (B : Nat) (hB1 : 67108864 ≤ B) (hB2 : B ≤ 9223372036854775807) (s : ByteArray) : (∀ (i : Nat) (o : Lo Bool Unit), F.spec_NameValid_l1 s i = some o → ∀ (c : Code), navO [1, 1, 0, 1, 0, 0] (bodyOf Try.f83) = some c → ∀ (Q : Exit → ASt → Prop), o.post (fun r => ∀ st, Post Try.prog Try.f83 (fun r' _ => r'.le (.lit (.bool r))) .ret st → Q .ret st) (fun s => Q (.exit 0) ⟨[], []⟩) → ALoopU Try.prog B 0 34 (hold c .mk) ⟨[(0, .lit (.string s)), (3, .lit (.int .i64 (i : Int)))], []⟩ (hold Q .mk)) := by
  refine F.spec_NameValid_l1.partial_correctness s
    (fun i o => ∀ (c : Code), navO [1, 1, 0, 1, 0, 0] (bodyOf Try.f83) = some c → ∀ (Q : Exit → ASt → Prop), o.post (fun r => ∀ st, Post Try.prog Try.f83 (fun r' _ => r'.le (.lit (.bool r))) .ret st → Q .ret st) (fun s => Q (.exit 0) ⟨[], []⟩) → ALoopU Try.prog B 0 34 (hold c .mk) ⟨[(0, .lit (.string s)), (3, .lit (.int .i64 (i : Int)))], []⟩ (hold Q .mk))
    ?_
  · intro _f_spec_NameValid_l1 ih_spec_NameValid_l1 i o hF
    intro c hc Q hq
    obtain rfl : c = _ := navEq hc rfl
    refine ALoopU.know fun hk hs => ?_
    clear hk hs
    refine ALoopU.enter ?_
    simp -dsimp
    repeat (refine chk.go (by first | omega | assumption | (simp_all; done) | (simp_all; omega)) ?_; simp -dsimp)
    refine abr.split (fun h11 => ?_) (fun h11 => ?_)
    · have q12 : (i < s.size) := by first | exact h11 | omega | (simpa using h11) | (simp at h11 ⊢; omega) | simp_all
      have z13 : ((i : Int) < (s.size : Int)) := by first | omega | simp_all
      rw [if_pos q12] at hF
      simp -dsimp [h11, z13]
      repeat (refine chk.go (by first | omega | assumption | (simp_all; done) | (simp_all; omega)) ?_; simp -dsimp [h11, z13])
      refine abr.split (fun h14 => ?_) (fun h14 => ?_)
      · have q15 : ¬ (byteAt s i < 97) := by first | exact h14 | omega | (simpa using h14) | (simp at h14 ⊢; omega) | simp_all
        have z16 : ¬ (((byteAt s i : Nat) : Int) < (97 : Int)) := by first | omega | simp_all
        rw [if_neg q15] at hF
        simp -dsimp [h11, z13, h14, q15, z16]
        repeat (refine chk.go (by first | omega | assumption | (simp_all; done) | (simp_all; omega)) ?_; simp -dsimp [h11, z13, h14, q15, z16])
        refine abr.split (fun h17 => ?_) (fun h17 => ?_)
        · have q18 : (122 < byteAt s i) := by first | exact h17 | omega | (simpa using h17) | (simp at h17 ⊢; omega) | simp_all
          have z19 : ((122 : Int) < ((byteAt s i : Nat) : Int)) := by first | omega | simp_all
          rw [if_pos q18] at hF
          cases hF
          simp -dsimp [h11, z13, h14, q15, z16, h17, z19]
          repeat (refine chk.go (by first | omega | assumption | (simp_all; done) | (simp_all; omega)) ?_; simp -dsimp [h11, z13, h14, q15, z16, h17, z19])
          refine Leave.go _ (Gh.refl _) (hq _ ?_)
          simp -dsimp [h11, z13, h14, q15, z16, h17, z19]
          repeat (refine chk.go (by first | omega | assumption | (simp_all; done) | (simp_all; omega)) ?_; simp -dsimp [h11, z13, h14, q15, z16, h17, z19])
        · have q18 : ¬ (122 < byteAt s i) := by first | exact h17 | omega | (simpa using h17) | (simp at h17 ⊢; omega) | simp_all
          have z19 : ¬ ((122 : Int) < ((byteAt s i : Nat) : Int)) := by first | omega | simp_all
          rw [if_neg q18] at hF
          have hF := oc hF; obtain ⟨c20, hF⟩ := hF
          have w21 : IntKind.i64.wrap ((i : Int) + 1) = (i : Int) + 1 := wrap_in (by omega) (by omega)
          simp -dsimp [h11, z13, h14, q15, z16, h17, q18, z19, w21]
          repeat (refine chk.go (by first | omega | assumption | (simp_all; done) | (simp_all; omega)) ?_; simp -dsimp [h11, z13, h14, q15, z16, h17, q18, z19, w21])
          refine Again.go ⟨[(0, .lit (.string s)), (3, .lit (.int .i64 ((i + 1) : Int)))], []⟩ (Gh.to (by simp) (by first | (simp -dsimp; done) | (simp -dsimp [h11, z13, h14, q15, z16, h17, q18, z19, w21]; done) | simp_all) (by first | (simp -dsimp; done) | (simp -dsimp [h11, z13, h14, q15, z16, h17, q18, z19, w21]; done) | simp_all) (by first | (simp -dsimp; done) | (simp -dsimp [h11, z13, h14, q15, z16, h17, q18, z19, w21]; done) | simp_all)) ?_
          exact (ih_spec_NameValid_l1 (i + 1) o hF) _ rfl _ hq
      · have q15 : (byteAt s i < 97) := by first | exact h14 | omega | (simpa using h14) | (simp at h14 ⊢; omega) | simp_all
        have z16 : (((byteAt s i : Nat) : Int) < (97 : Int)) := by first | omega | simp_all
        rw [if_pos q15] at hF
        cases hF
        simp -dsimp [h11, z13, h14, q15, z16]
        repeat (refine chk.go (by first | omega | assumption | (simp_all; done) | (simp_all; omega)) ?_; simp -dsimp [h11, z13, h14, q15, z16])
        refine Leave.go _ (Gh.refl _) (hq _ ?_)
        simp -dsimp [h11, z13, h14, q15, z16]
        repeat (refine chk.go (by first | omega | assumption | (simp_all; done) | (simp_all; omega)) ?_; simp -dsimp [h11, z13, h14, q15, z16])
    · have q12 : ¬ (i < s.size) := by first | exact h11 | omega | (simpa using h11) | (simp at h11 ⊢; omega) | simp_all
      have z13 : ¬ ((i : Int) < (s.size : Int)) := by first | omega | simp_all
      rw [if_neg q12] at hF
      cases hF
      simp -dsimp [h11, q12, z13]
      repeat (refine chk.go (by first | omega | assumption | (simp_all; done) | (simp_all; omega)) ?_; simp -dsimp [h11, q12, z13])
      refine Leave.go ⟨[], []⟩ (Gh.to (by simp) (by first | (simp -dsimp; done) | (simp -dsimp [h11, q12, z13]; done) | simp_all) (by first | (simp -dsimp; done) | (simp -dsimp [h11, q12, z13]; done) | simp_all) (by first | (simp -dsimp; done) | (simp -dsimp [h11, q12, z13]; done) | simp_all)) ?_
      exact hq

theorem C.spec_NameValid_l1 (B : Nat) (hB1 : 67108864 ≤ B) (hB2 : B ≤ 9223372036854775807) (s : ByteArray) (i : Nat) (o : Lo Bool Unit) (hF : F.spec_NameValid_l1 s i = some o) : ∀ (c : Code), navO [1, 1, 0, 1, 0, 0] (bodyOf Try.f83) = some c → ∀ (Q : Exit → ASt → Prop), o.post (fun r => ∀ st, Post Try.prog Try.f83 (fun r' _ => r'.le (.lit (.bool r))) .ret st → Q .ret st) (fun s => Q (.exit 0) ⟨[], []⟩) → ALoopU Try.prog B 0 34 (hold c .mk) ⟨[(0, .lit (.string s)), (3, .lit (.int .i64 (i : Int)))], []⟩ (hold Q .mk) :=
  (CC.spec_NameValid_l1 B hB1 hB2 s) i o hF

set_option maxRecDepth 100000 in
set_option maxHeartbeats 400000 in
theorem C.spec_NameValid (B : Nat) (hB1 : 67108864 ≤ B) (hB2 : B ≤ 9223372036854775807) (s : ByteArray) (r : Bool) (hF : F.spec_NameValid s = some r) : PureCall Try.prog B 83 [.lit (.string s)] (.lit (.bool r)) := by
  unfold F.spec_NameValid at hF
  refine PureCall.enterLe Try.func83 (by kernel_rfl) rfl Try.ntmps83 (by simp) (by simp) ?_
  simp -dsimp
  repeat (refine chk.go (by first | omega | assumption | (simp_all; done) | (simp_all; omega)) ?_; simp -dsimp)
  refine abr.split (fun h1 => ?_) (fun h1 => ?_)
  · have q2 : ¬ (s.size = 0) := by first | exact h1 | omega | (simpa using h1) | (simp at h1 ⊢; omega) | simp_all
    have z3 : ¬ ((s.size : Int) = (0 : Int)) := by first | omega | simp_all
    rw [if_neg q2] at hF
    simp -dsimp [h1, q2, z3]
    repeat (refine chk.go (by first | omega | assumption | (simp_all; done) | (simp_all; omega)) ?_; simp -dsimp [h1, q2, z3])
    refine abr.split (fun h4 => ?_) (fun h4 => ?_)
    · have q5 : ¬ (5 < s.size) := by first | exact h4 | omega | (simpa using h4) | (simp at h4 ⊢; omega) | simp_all
      have z6 : ¬ ((5 : Int) < (s.size : Int)) := by first | omega | simp_all
      rw [if_neg q5] at hF
      have hF := oc hF; obtain ⟨c7, hF⟩ := hF
      simp -dsimp [h1, q2, z3, h4, q5, z6]
      repeat (refine chk.go (by first | omega | assumption | (simp_all; done) | (simp_all; omega)) ?_; simp -dsimp [h1, q2, z3, h4, q5, z6])
      have hF := ob hF; obtain ⟨v, e8, hF⟩ := hF
      refine ((C.spec_l1Big B hB1 hB2 ((byteAt s 0 : Nat) : Int) v e8)).goW (by first | (simp; done) | (simp [h1, q2, z3, h4, q5, z6]; done) | simp_all) (by simp) ?_
      simp -dsimp [h1, q2, z3, h4, q5, z6]
      repeat (refine chk.go (by first | omega | assumption | (simp_all; done) | (simp_all; omega)) ?_; simp -dsimp [h1, q2, z3, h4, q5, z6])
      refine abr.split (fun h9 => ?_) (fun h9 => ?_)
      · have q10 : ¬ (v = true) := by first | exact h9 | omega | (simpa using h9) | (simp at h9 ⊢; omega) | simp_all
        rw [if_neg q10] at hF
        cases hF
        simp -dsimp [h1, q2, z3, h4, q5, z6, h9, q10]
        repeat (refine chk.go (by first | omega | assumption | (simp_all; done) | (simp_all; omega)) ?_; simp -dsimp [h1, q2, z3, h4, q5, z6, h9, q10])
      · have q10 : (v = true) := by first | exact h9 | omega | (simpa using h9) | (simp at h9 ⊢; omega) | simp_all
        rw [if_pos q10] at hF
        simp -dsimp [h1, q2, z3, h4, q5, z6, h9, q10]
        repeat (refine chk.go (by first | omega | assumption | (simp_all; done) | (simp_all; omega)) ?_; simp -dsimp [h1, q2, z3, h4, q5, z6, h9, q10])
        have hF := ob hF; obtain ⟨o, ho22, hF⟩ := hF
        refine ALoop.goU ⟨[(0, .lit (.string s)), (3, .lit (.int .i64 (1 : Int)))], []⟩ (Gh.to (by simp) (by first | (simp -dsimp; done) | (simp -dsimp [h1, q2, z3, h4, q5, z6, h9, q10]; done) | simp_all) (by first | (simp -dsimp; done) | (simp -dsimp [h1, q2, z3, h4, q5, z6, h9, q10]; done) | simp_all) (by first | (simp -dsimp; done) | (simp -dsimp [h1, q2, z3, h4, q5, z6, h9, q10]; done) | simp_all)) ?_
        refine (C.spec_NameValid_l1 B hB1 hB2 s 1 o ho22) _ rfl _ ?_
        rcases o with r0 | s23
        · dsimp only at hF
          cases hF
          intro st h
          simpa using h
        · dsimp only at hF
          cases hF
          simp -dsimp
          repeat (refine chk.go (by first | omega | assumption | (simp_all; done) | (simp_all; omega)) ?_; simp -dsimp)
    · have q5 : (5 < s.size) := by first | exact h4 | omega | (simpa using h4) | (simp at h4 ⊢; omega) | simp_all
      have z6 : ((5 : Int) < (s.size : Int)) := by first | omega | simp_all
      rw [if_pos q5] at hF
      cases hF
      simp -dsimp [h1, q2, z3, h4, q5, z6]
      repeat (refine chk.go (by first | omega | assumption | (simp_all; done) | (simp_all; omega)) ?_; simp -dsimp [h1, q2, z3, h4, q5, z6])
  · have q2 : (s.size = 0) := by first | exact h1 | omega | (simpa using h1) | (simp at h1 ⊢; omega) | simp_all
    have z3 : ((s.size : Int) = (0 : Int)) := by first | omega | simp_all
    rw [if_pos q2] at hF
    cases hF
    simp -dsimp [h1, q2, z3]
    repeat (refine chk.go (by first | omega | assumption | (simp_all; done) | (simp_all; omega)) ?_; simp -dsimp [h1, q2, z3])

set_option maxRecDepth 100000 in
set_option maxHeartbeats 400000 in
theorem C.spec_l1Arg (B : Nat) (hB1 : 67108864 ≤ B) (hB2 : B ≤ 9223372036854775807) (n : Int) (t : Vl.Ty) (r : Bool) (hF : F.spec_l1Arg n t = some r) : PureCall Try.prog B 67 [.lit (.int .i64 n), .agg [.lit (.int .i64 t.data), .lit (.int .i64 t.index)]] (.lit (.bool r)) := by
  unfold F.spec_l1Arg at hF
  refine PureCall.enterLe Try.func67 (by kernel_rfl) rfl Try.ntmps67 (by simp) (by simp) ?_
  simp -dsimp
  repeat (refine chk.go (by first | omega | assumption | (simp_all; done) | (simp_all; omega)) ?_; simp -dsimp)
  refine abr.split (fun h1 => ?_) (fun h1 => ?_)
  · have q2 : (t.data = (-1)) := by first | exact h1 | omega | (simpa using h1) | (simp at h1 ⊢; omega) | simp_all
    rw [if_pos q2] at hF
    cases hF
    simp -dsimp [h1]
    repeat (refine chk.go (by first | omega | assumption | (simp_all; done) | (simp_all; omega)) ?_; simp -dsimp [h1])
  · have q2 : ¬ (t.data = (-1)) := by first | exact h1 | omega | (simpa using h1) | (simp at h1 ⊢; omega) | simp_all
    rw [if_neg q2] at hF
    simp -dsimp [h1, q2]
    repeat (refine chk.go (by first | omega | assumption | (simp_all; done) | (simp_all; omega)) ?_; simp -dsimp [h1, q2])
    refine abr.split (fun h3 => ?_) (fun h3 => ?_)
    · have q4 : (0 ≤ t.data) := by first | exact h3 | omega | (simpa using h3) | (simp at h3 ⊢; omega) | simp_all
      rw [if_pos q4] at hF
      simp -dsimp [h1, q2, h3]
      repeat (refine chk.go (by first | omega | assumption | (simp_all; done) | (simp_all; omega)) ?_; simp -dsimp [h1, q2, h3])
      refine abr.split (fun h5 => ?_) (fun h5 => ?_)
      · have q6 : (t.data < n) := by first | exact h5 | omega | (simpa using h5) | (simp at h5 ⊢; omega) | simp_all
        rw [if_pos q6] at hF
        simp -dsimp [h1, q2, h3, h5]
        repeat (refine chk.go (by first | omega | assumption | (simp_all; done) | (simp_all; omega)) ?_; simp -dsimp [h1, q2, h3, h5])
        refine abr.split (fun h7 => ?_) (fun h7 => ?_)
        · have q8 : ((-1) ≤ t.index) := by first | exact h7 | omega | (simpa using h7) | (simp at h7 ⊢; omega) | simp_all
          rw [if_pos q8] at hF
          cases hF
          simp -dsimp [h1, q2, h3, h5, h7]
          repeat (refine chk.go (by first | omega | assumption | (simp_all; done) | (simp_all; omega)) ?_; simp -dsimp [h1, q2, h3, h5, h7])
        · have q8 : ¬ ((-1) ≤ t.index) := by first | exact h7 | omega | (simpa using h7) | (simp at h7 ⊢; omega) | simp_all
          rw [if_neg q8] at hF
          cases hF
          simp -dsimp [h1, q2, h3, h5, h7, q8]
          repeat (refine chk.go (by first | omega | assumption | (simp_all; done) | (simp_all; omega)) ?_; simp -dsimp [h1, q2, h3, h5, h7, q8])
      · have q6 : ¬ (t.data < n) := by first | exact h5 | omega | (simpa using h5) | (simp at h5 ⊢; omega) | simp_all
        rw [if_neg q6] at hF
        cases hF
        simp -dsimp [h1, q2, h3, h5, q6]
        repeat (refine chk.go (by first | omega | assumption | (simp_all; done) | (simp_all; omega)) ?_; simp -dsimp [h1, q2, h3, h5, q6])
    · have q4 : ¬ (0 ≤ t.data) := by first | exact h3 | omega | (simpa using h3) | (simp at h3 ⊢; omega) | simp_all
      rw [if_neg q4] at hF
      cases hF
      simp -dsimp [h1, q2, h3, q4]
      repeat (refine chk.go (by first | omega | assumption | (simp_all; done) | (simp_all; omega)) ?_; simp -dsimp [h1, q2, h3, q4])

set_option maxRecDepth 100000 in
set_option maxHeartbeats 400000 in
theorem CC.spec_l1Ctor_l1 (B : Nat) (hB1 : 67108864 ≤ B) (hB2 : B ≤ 9223372036854775807) (n : Int) (c' : Vl.Ctor) : (∀ (i : Nat) (o : Lo Bool Unit), F.spec_l1Ctor_l1 n c' i = some o → ∀ (c : Code), navO [1, 1, 0, 1, 0, 0] (bodyOf Try.f65) = some c → ∀ (Q : Exit → ASt → Prop), o.post (fun r => ∀ st, Post Try.prog Try.f65 (fun r' _ => r'.le (.lit (.bool r))) .ret st → Q .ret st) (fun s => Q (.exit 0) ⟨[], []⟩) → ALoopU Try.prog B 0 41 (hold c .mk) ⟨[(0, .lit (.int .i64 n)), (3, .ptr 0 0), (5, .lit (.int .i64 (i : Int)))], [.cells [.lit (.string c'.name), .arr (List.map Vl.Ty.c c'.args), .lit (.int .i64 c'.index)]]⟩ (hold Q .mk)) := by
  refine F.spec_l1Ctor_l1.partial_correctness n c'
    (fun i o => ∀ (c : Code), navO [1, 1, 0, 1, 0, 0] (bodyOf Try.f65) = some c → ∀ (Q : Exit → ASt → Prop), o.post (fun r => ∀ st, Post Try.prog Try.f65 (fun r' _ => r'.le (.lit (.bool r))) .ret st → Q .ret st) (fun s => Q (.exit 0) ⟨[], []⟩) → ALoopU Try.prog B 0 41 (hold c .mk) ⟨[(0, .lit (.int .i64 n)), (3, .ptr 0 0), (5, .lit (.int .i64 (i : Int)))], [.cells [.lit (.string c'.name), .arr (List.map Vl.Ty.c c'.args), .lit (.int .i64 c'.index)]]⟩ (hold Q .mk))
    ?_
  · intro _f_spec_l1Ctor_l1 ih_spec_l1Ctor_l1 i o hF
    intro c hc Q hq
    obtain rfl : c = _ := navEq hc rfl
    refine ALoopU.know fun hk hs => ?_
    have d0 := hs 0 _ rfl
    simp -dsimp [Blk.bnd] at d0
    clear hk hs
    refine ALoopU.enter ?_
    simp -dsimp
    repeat (refine chk.go (by first | omega | assumption | (simp_all; done) | (simp_all; omega)) ?_; simp -dsimp)
    refine abr.split (fun h11 => ?_) (fun h11 => ?_)
    · have q12 : (i < c'.args.length) := by first | exact h11 | omega | (simpa using h11) | (simp at h11 ⊢; omega) | simp_all
      have z13 : ((i : Int) < (c'.args.length : Int)) := by first | omega | simp_all
      rw [if_pos q12] at hF
      have hF := ob hF; obtain ⟨x, e14, hF⟩ := hF
      have le14 := lt_of_get e14
      simp -dsimp [h11, z13, ↓e14]
      repeat (refine chk.go (by first | omega | assumption | (simp_all; done) | (simp_all; omega)) ?_; simp -dsimp [h11, z13, ↓e14])
      have hF := ob hF; obtain ⟨v15, e16, hF⟩ := hF
      refine ((C.spec_l1Arg B hB1 hB2 n x v15 e16)).goW (by first | (simp; done) | (simp [h11, z13, ↓e14]; done) | simp_all) (by simp) ?_
      simp -dsimp [h11, z13, ↓e14]
      repeat (refine chk.go (by first | omega | assumption | (simp_all; done) | (simp_all; omega)) ?_; simp -dsimp [h11, z13, ↓e14])
      refine abr.split (fun h17 => ?_) (fun h17 => ?_)
      · have q18 : ¬ (v15 = true) := by first | exact h17 | omega | (simpa using h17) | (simp at h17 ⊢; omega) | simp_all
        rw [if_neg q18] at hF
        cases hF
        simp -dsimp [h11, z13, ↓e14, h17, q18]
        repeat (refine chk.go (by first | omega | assumption | (simp_all; done) | (simp_all; omega)) ?_; simp -dsimp [h11, z13, ↓e14, h17, q18])
        refine Leave.go _ (Gh.refl _) (hq _ ?_)
        simp -dsimp [h11, z13, ↓e14, h17, q18]
        repeat (refine chk.go (by first | omega | assumption | (simp_all; done) | (simp_all; omega)) ?_; simp -dsimp [h11, z13, ↓e14, h17, q18])
      · have q18 : (v15 = true) := by first | exact h17 | omega | (simpa using h17) | (simp at h17 ⊢; omega) | simp_all
        rw [if_pos q18] at hF
        have w19 : IntKind.i64.wrap ((i : Int) + 1) = (i : Int) + 1 := wrap_in (by omega) (by omega)
        simp -dsimp [h11, z13, ↓e14, h17, q18, w19]
        repeat (refine chk.go (by first | omega | assumption | (simp_all; done) | (simp_all; omega)) ?_; simp -dsimp [h11, z13, ↓e14, h17, q18, w19])
        refine Again.go ⟨[(0, .lit (.int .i64 n)), (3, .ptr 0 0), (5, .lit (.int .i64 ((i + 1) : Int)))], [.cells [.lit (.string c'.name), .arr (List.map Vl.Ty.c c'.args), .lit (.int .i64 c'.index)]]⟩ (Gh.to (by simp) (by first | (simp -dsimp; done) | (simp -dsimp [h11, z13, ↓e14, h17, q18, w19]; done) | simp_all) (by first | (simp -dsimp; done) | (simp -dsimp [h11, z13, ↓e14, h17, q18, w19]; done) | simp_all) (by first | (simp -dsimp; done) | (simp -dsimp [h11, z13, ↓e14, h17, q18, w19]; done) | simp_all)) ?_
        exact (ih_spec_l1Ctor_l1 (i + 1) o hF) _ rfl _ hq
    · have q12 : ¬ (i < c'.args.length) := by first | exact h11 | omega | (simpa using h11) | (simp at h11 ⊢; omega) | simp_all
      have z13 : ¬ ((i : Int) < (c'.args.length : Int)) := by first | omega | simp_all
      rw [if_neg q12] at hF
      cases hF
      simp -dsimp [h11, q12, z13]
      repeat (refine chk.go (by first | omega | assumption | (simp_all; done) | (simp_all; omega)) ?_; simp -dsimp [h11, q12, z13])
      refine Leave.go ⟨[], []⟩ (Gh.to (by simp) (by first | (simp -dsimp; done) | (simp -dsimp [h11, q12, z13]; done) | simp_all) (by first | (simp -dsimp; done) | (simp -dsimp [h11, q12, z13]; done) | simp_all) (by first | (simp -dsimp; done) | (simp -dsimp [h11, q12, z13]; done) | simp_all)) ?_
      exact hq

theorem C.spec_l1Ctor_l1 (B : Nat) (hB1 : 67108864 ≤ B) (hB2 : B ≤ 9223372036854775807) (n : Int) (c' : Vl.Ctor) (i : Nat) (o : Lo Bool Unit) (hF : F.spec_l1Ctor_l1 n c' i = some o) : ∀ (c : Code), navO [1, 1, 0, 1, 0, 0] (bodyOf Try.f65) = some c → ∀ (Q : Exit → ASt → Prop), o.post (fun r => ∀ st, Post Try.prog Try.f65 (fun r' _ => r'.le (.lit (.bool r))) .ret st → Q .ret st) (fun s => Q (.exit 0) ⟨[], []⟩) → ALoopU Try.prog B 0 41 (hold c .mk) ⟨[(0, .lit (.int .i64 n)), (3, .ptr 0 0), (5, .lit (.int .i64 (i : Int)))], [.cells [.lit (.string c'.name), .arr (List.map Vl.Ty.c c'.args), .lit (.int .i64 c'.index)]]⟩ (hold Q .mk) :=
  (CC.spec_l1Ctor_l1 B hB1 hB2 n c') i o hF

set_option maxRecDepth 100000 in
set_option maxHeartbeats 400000 in
theorem C.spec_l1Ctor (B : Nat) (hB1 : 67108864 ≤ B) (hB2 : B ≤ 9223372036854775807) (n : Int) (c' : Vl.Ctor) (r : Bool) (hF : F.spec_l1Ctor n c' = some r) : PureCall Try.prog B 65 [.lit (.int .i64 n), .agg [.lit (.string c'.name), .arr (List.map Vl.Ty.c c'.args), .lit (.int .i64 c'.index)]] (.lit (.bool r)) := by
  unfold F.spec_l1Ctor at hF
  refine PureCall.enterLe Try.func65 (by kernel_rfl) rfl Try.ntmps65 (by simp) (by simp) ?_
  simp -dsimp
  repeat (refine chk.go (by first | omega | assumption | (simp_all; done) | (simp_all; omega)) ?_; simp -dsimp)
  have hF := ob hF; obtain ⟨v, e1, hF⟩ := hF
  refine ((C.spec_NameValid B hB1 hB2 c'.name v e1)).goW (by simp) (by simp) ?_
  simp -dsimp
  repeat (refine chk.go (by first | omega | assumption | (simp_all; done) | (simp_all; omega)) ?_; simp -dsimp)
  refine abr.split (fun h2 => ?_) (fun h2 => ?_)
  · have q3 : (v = true) := by first | exact h2 | omega | (simpa using h2) | (simp at h2 ⊢; omega) | simp_all
    rw [if_pos q3] at hF
    simp -dsimp [h2]
    repeat (refine chk.go (by first | omega | assumption | (simp_all; done) | (simp_all; omega)) ?_; simp -dsimp [h2])
    refine abr.split (fun h4 => ?_) (fun h4 => ?_)
    · have q5 : ¬ (3 < c'.args.length) := by first | exact h4 | omega | (simpa using h4) | (simp at h4 ⊢; omega) | simp_all
      have z6 : ¬ ((3 : Int) < (c'.args.length : Int)) := by first | omega | simp_all
      rw [if_neg q5] at hF
      simp -dsimp [h2, h4, q5, z6]
      repeat (refine chk.go (by first | omega | assumption | (simp_all; done) | (simp_all; omega)) ?_; simp -dsimp [h2, h4, q5, z6])
      refine abr.split (fun h7 => ?_) (fun h7 => ?_)
      · have q8 : ¬ (c'.index < 0) := by first | exact h7 | omega | (simpa using h7) | (simp at h7 ⊢; omega) | simp_all
        rw [if_neg q8] at hF
        simp -dsimp [h2, h4, q5, z6, h7, q8]
        repeat (refine chk.go (by first | omega | assumption | (simp_all; done) | (simp_all; omega)) ?_; simp -dsimp [h2, h4, q5, z6, h7, q8])
        refine abr.split (fun h9 => ?_) (fun h9 => ?_)
        · have q10 : (3 < c'.index) := by first | exact h9 | omega | (simpa using h9) | (simp at h9 ⊢; omega) | simp_all
          rw [if_pos q10] at hF
          cases hF
          simp -dsimp [h2, h4, q5, z6, h7, q8, h9]
          repeat (refine chk.go (by first | omega | assumption | (simp_all; done) | (simp_all; omega)) ?_; simp -dsimp [h2, h4, q5, z6, h7, q8, h9])
        · have q10 : ¬ (3 < c'.index) := by first | exact h9 | omega | (simpa using h9) | (simp at h9 ⊢; omega) | simp_all
          rw [if_neg q10] at hF
          simp -dsimp [h2, h4, q5, z6, h7, q8, h9, q10]
          repeat (refine chk.go (by first | omega | assumption | (simp_all; done) | (simp_all; omega)) ?_; simp -dsimp [h2, h4, q5, z6, h7, q8, h9, q10])
          have hF := ob hF; obtain ⟨o, ho20, hF⟩ := hF
          refine ALoop.goU ⟨[(0, .lit (.int .i64 n)), (3, .ptr 0 0), (5, .lit (.int .i64 (0 : Int)))], [.cells [.lit (.string c'.name), .arr (List.map Vl.Ty.c c'.args), .lit (.int .i64 c'.index)]]⟩ (Gh.to (by simp) (by first | (simp -dsimp; done) | (simp -dsimp [h2, h4, q5, z6, h7, q8, h9, q10]; done) | simp_all) (by first | (simp -dsimp; done) | (simp -dsimp [h2, h4, q5, z6, h7, q8, h9, q10]; done) | simp_all) (by first | (simp -dsimp; done) | (simp -dsimp [h2, h4, q5, z6, h7, q8, h9, q10]; done) | simp_all)) ?_
          refine (C.spec_l1Ctor_l1 B hB1 hB2 n c' 0 o ho20) _ rfl _ ?_
          rcases o with r0 | s
          · dsimp only at hF
            cases hF
            intro st h
            simpa using h
          · dsimp only at hF
            cases hF
            simp -dsimp
            repeat (refine chk.go (by first | omega | assumption | (simp_all; done) | (simp_all; omega)) ?_; simp -dsimp)
      · have q8 : (c'.index < 0) := by first | exact h7 | omega | (simpa using h7) | (simp at h7 ⊢; omega) | simp_all
        rw [if_pos q8] at hF
        cases hF
        simp -dsimp [h2, h4, q5, z6, h7, q8]
        repeat (refine chk.go (by first | omega | assumption | (simp_all; done) | (simp_all; omega)) ?_; simp -dsimp [h2, h4, q5, z6, h7, q8])
    · have q5 : (3 < c'.args.length) := by first | exact h4 | omega | (simpa using h4) | (simp at h4 ⊢; omega) | simp_all
      have z6 : ((3 : Int) < (c'.args.length : Int)) := by first | omega | simp_all
      rw [if_pos q5] at hF
      cases hF
      simp -dsimp [h2, h4, q5, z6]
      repeat (refine chk.go (by first | omega | assumption | (simp_all; done) | (simp_all; omega)) ?_; simp -dsimp [h2, h4, q5, z6])
  · have q3 : ¬ (v = true) := by first | exact h2 | omega | (simpa using h2) | (simp at h2 ⊢; omega) | simp_all
    rw [if_neg q3] at hF
    cases hF
    simp -dsimp [h2, q3]
    repeat (refine chk.go (by first | omega | assumption | (simp_all; done) | (simp_all; omega)) ?_; simp -dsimp [h2, q3])

set_option maxRecDepth 100000 in
set_option maxHeartbeats 400000 in
theorem CC.spec_l1Twice_l2 (B : Nat) (hB1 : 67108864 ≤ B) (hB2 : B ≤ 9223372036854775807) (w : List Vl.Data) (d : Int) (k : Int) (i : Nat) : (∀ (j : Nat) (o : Lo Bool Unit), F.spec_l1Twice_l2 w d k i j = some o → ∀ (c : Code), navO [1, 0, 1, 0, 0, 1, 0, 0, 1, 1, 0, 0] (bodyOf Try.f66) = some c → ∀ (Q : Exit → ASt → Prop), o.post (fun r => ∀ st, Post Try.prog Try.f66 (fun r' _ => r'.le (.lit (.bool r))) .ret st → Q .ret st) (fun s => Q (.exit 2) ⟨[(0, .arr (List.map Vl.Data.c w)), (1, .lit (.int .i64 d)), (2, .lit (.int .i64 k)), (7, .lit (.int .i64 (i : Int)))], []⟩) → ALoopU Try.prog B 0 79 (hold c .mk) ⟨[(0, .arr (List.map Vl.Data.c w)), (1, .lit (.int .i64 d)), (2, .lit (.int .i64 k)), (7, .lit (.int .i64 (i : Int))), (8, .lit (.int .i64 (j : Int)))], []⟩ (hold Q .mk)) := by
  refine F.spec_l1Twice_l2.partial_correctness w d k i
    (fun j o => ∀ (c : Code), navO [1, 0, 1, 0, 0, 1, 0, 0, 1, 1, 0, 0] (bodyOf Try.f66) = some c → ∀ (Q : Exit → ASt → Prop), o.post (fun r => ∀ st, Post Try.prog Try.f66 (fun r' _ => r'.le (.lit (.bool r))) .ret st → Q .ret st) (fun s => Q (.exit 2) ⟨[(0, .arr (List.map Vl.Data.c w)), (1, .lit (.int .i64 d)), (2, .lit (.int .i64 k)), (7, .lit (.int .i64 (i : Int)))], []⟩) → ALoopU Try.prog B 0 79 (hold c .mk) ⟨[(0, .arr (List.map Vl.Data.c w)), (1, .lit (.int .i64 d)), (2, .lit (.int .i64 k)), (7, .lit (.int .i64 (i : Int))), (8, .lit (.int .i64 (j : Int)))], []⟩ (hold Q .mk))
    ?_
  · intro _f_spec_l1Twice_l2 ih_spec_l1Twice_l2 j o hF
    intro c hc Q hq
    obtain rfl : c = _ := navEq hc rfl
    refine ALoopU.know fun hk hs => ?_
    have b0 := hk 0
    simp -dsimp at b0
    clear hk hs
    refine ALoopU.enter ?_
    have hF := ob hF; obtain ⟨x10, e11, hF⟩ := hF
    have le11 := lt_of_get e11
    simp -dsimp [↓e11]
    repeat (refine chk.go (by first | omega | assumption | (simp_all; done) | (simp_all; omega)) ?_; simp -dsimp [↓e11])
    refine abr.split (fun h12 => ?_) (fun h12 => ?_)
    · have q13 : (j < x10.ctors.length) := by first | exact h12 | omega | (simpa using h12) | (simp at h12 ⊢; omega) | simp_all
      have z14 : ((j : Int) < (x10.ctors.length : Int)) := by first | omega | simp_all
      rw [if_pos q13] at hF
      simp -dsimp [↓e11, h12, z14]
      repeat (refine chk.go (by first | omega | assumption | (simp_all; done) | (simp_all; omega)) ?_; simp -dsimp [↓e11, h12, z14])
      refine abr.split (fun h15 => ?_) (fun h15 => ?_)
      · have q16 : ¬ ((i : Int) < d) := by first | exact h15 | omega | (simpa using h15) | (simp at h15 ⊢; omega) | simp_all
        rw [if_neg q16] at hF
        simp -dsimp [↓e11, h12, z14, h15, q16]
        repeat (refine chk.go (by first | omega | assumption | (simp_all; done) | (simp_all; omega)) ?_; simp -dsimp [↓e11, h12, z14, h15, q16])
        refine abr.split (fun h17 => ?_) (fun h17 => ?_)
        · have q18 : ((j : Int) < k) := by first | exact h17 | omega | (simpa using h17) | (simp at h17 ⊢; omega) | simp_all
          rw [if_pos q18] at hF
          simp -dsimp [↓e11, h12, z14, h15, q16, h17]
          repeat (refine chk.go (by first | omega | assumption | (simp_all; done) | (simp_all; omega)) ?_; simp -dsimp [↓e11, h12, z14, h15, q16, h17])
          refine ADraw.simple follows (by kernel_rfl) (by kernel_rfl) ?_
          have hF := ob hF; obtain ⟨x19, e20a, hF⟩ := hF
          have e20a := at_some e20a; obtain ⟨ne20, e20⟩ := e20a
          have le20 := lt_of_get e20
          simp -dsimp [↓e11, h12, z14, h15, q16, h17, ↓e20]
          repeat (refine chk.go (by first | omega | assumption | (simp_all; done) | (simp_all; omega)) ?_; simp -dsimp [↓e11, h12, z14, h15, q16, h17, ↓e20])
          refine abr.split (fun h21 => ?_) (fun h21 => ?_)
          · have q22 : (k < (x19.ctors.length : Int)) := by first | exact h21 | omega | (simpa using h21) | (simp at h21 ⊢; omega) | simp_all
            rw [if_pos q22] at hF
            have hF := ob hF; obtain ⟨x23, e24, hF⟩ := hF
            have le24 := lt_of_get e24
            have hF := ob hF; obtain ⟨x25, e26a, hF⟩ := hF
            have e26a := at_some e26a; obtain ⟨ne26, e26⟩ := e26a
            have le26 := lt_of_get e26
            simp -dsimp [↓e11, h12, z14, h15, q16, h17, ↓e20, h21, ↓e24, ↓e26]
            repeat (refine chk.go (by first | omega | assumption | (simp_all; done) | (simp_all; omega)) ?_; simp -dsimp [↓e11, h12, z14, h15, q16, h17, ↓e20, h21, ↓e24, ↓e26])
            refine abr.split (fun h27 => ?_) (fun h27 => ?_)
            · have q28 : (x23.name.toList = x25.name.toList) := by first | exact h27 | omega | (simpa using h27) | (simp at h27 ⊢; omega) | simp_all
              rw [if_pos q28] at hF
              cases hF
              simp -dsimp [↓e11, h12, z14, h15, q16, h17, ↓e20, h21, ↓e24, ↓e26, h27]
              repeat (refine chk.go (by first | omega | assumption | (simp_all; done) | (simp_all; omega)) ?_; simp -dsimp [↓e11, h12, z14, h15, q16, h17, ↓e20, h21, ↓e24, ↓e26, h27])
              refine Leave.go _ (Gh.refl _) (hq _ ?_)
              simp -dsimp [↓e11, h12, z14, h15, q16, h17, ↓e20, h21, ↓e24, ↓e26, h27]
              repeat (refine chk.go (by first | omega | assumption | (simp_all; done) | (simp_all; omega)) ?_; simp -dsimp [↓e11, h12, z14, h15, q16, h17, ↓e20, h21, ↓e24, ↓e26, h27])
            · have q28 : ¬ (x23.name.toList = x25.name.toList) := by first | exact h27 | omega | (simpa using h27) | (simp at h27 ⊢; omega) | simp_all
              rw [if_neg q28] at hF
              have hF := oc hF; obtain ⟨c29, hF⟩ := hF
              have w30 : IntKind.i64.wrap ((j : Int) + 1) = (j : Int) + 1 := wrap_in (by omega) (by omega)
              simp -dsimp [↓e11, h12, z14, h15, q16, h17, ↓e20, h21, ↓e24, ↓e26, h27, q28, w30]
              repeat (refine chk.go (by first | omega | assumption | (simp_all; done) | (simp_all; omega)) ?_; simp -dsimp [↓e11, h12, z14, h15, q16, h17, ↓e20, h21, ↓e24, ↓e26, h27, q28, w30])
              refine Again.go ⟨[(0, .arr (List.map Vl.Data.c w)), (1, .lit (.int .i64 d)), (2, .lit (.int .i64 k)), (7, .lit (.int .i64 (i : Int))), (8, .lit (.int .i64 ((j + 1) : Int)))], []⟩ (Gh.to (by simp) (by first | (simp -dsimp; done) | (simp -dsimp [↓e11, h12, z14, h15, q16, h17, ↓e20, h21, ↓e24, ↓e26, h27, q28, w30]; done) | simp_all) (by first | (simp -dsimp; done) | (simp -dsimp [↓e11, h12, z14, h15, q16, h17, ↓e20, h21, ↓e24, ↓e26, h27, q28, w30]; done) | simp_all) (by first | (simp -dsimp; done) | (simp -dsimp [↓e11, h12, z14, h15, q16, h17, ↓e20, h21, ↓e24, ↓e26, h27, q28, w30]; done) | simp_all)) ?_
              exact (ih_spec_l1Twice_l2 (j + 1) o hF) _ rfl _ hq
          · have q22 : ¬ (k < (x19.ctors.length : Int)) := by first | exact h21 | omega | (simpa using h21) | (simp at h21 ⊢; omega) | simp_all
            rw [if_neg q22] at hF
            have hF := oc hF; obtain ⟨c31, hF⟩ := hF
            have w32 : IntKind.i64.wrap ((j : Int) + 1) = (j : Int) + 1 := wrap_in (by omega) (by omega)
            simp -dsimp [↓e11, h12, z14, h15, q16, h17, ↓e20, h21, q22, w32]
            repeat (refine chk.go (by first | omega | assumption | (simp_all; done) | (simp_all; omega)) ?_; simp -dsimp [↓e11, h12, z14, h15, q16, h17, ↓e20, h21, q22, w32])
            refine Again.go ⟨[(0, .arr (List.map Vl.Data.c w)), (1, .lit (.int .i64 d)), (2, .lit (.int .i64 k)), (7, .lit (.int .i64 (i : Int))), (8, .lit (.int .i64 ((j + 1) : Int)))], []⟩ (Gh.to (by simp) (by first | (simp -dsimp; done) | (simp -dsimp [↓e11, h12, z14, h15, q16, h17, ↓e20, h21, q22, w32]; done) | simp_all) (by first | (simp -dsimp; done) | (simp -dsimp [↓e11, h12, z14, h15, q16, h17, ↓e20, h21, q22, w32]; done) | simp_all) (by first | (simp -dsimp; done) | (simp -dsimp [↓e11, h12, z14, h15, q16, h17, ↓e20, h21, q22, w32]; done) | simp_all)) ?_
            exact (ih_spec_l1Twice_l2 (j + 1) o hF) _ rfl _ hq
        · have q18 : ¬ ((j : Int) < k) := by first | exact h17 | omega | (simpa using h17) | (simp at h17 ⊢; omega) | simp_all
          rw [if_neg q18] at hF
          cases hF
          simp -dsimp [↓e11, h12, z14, h15, q16, h17, q18]
          repeat (refine chk.go (by first | omega | assumption | (simp_all; done) | (simp_all; omega)) ?_; simp -dsimp [↓e11, h12, z14, h15, q16, h17, q18])
          refine Leave.go ⟨[(0, .arr (List.map Vl.Data.c w)), (1, .lit (.int .i64 d)), (2, .lit (.int .i64 k)), (7, .lit (.int .i64 (i : Int)))], []⟩ (Gh.to (by simp) (by first | (simp -dsimp; done) | (simp -dsimp [↓e11, h12, z14, h15, q16, h17, q18]; done) | simp_all) (by first | (simp -dsimp; done) | (simp -dsimp [↓e11, h12, z14, h15, q16, h17, q18]; done) | simp_all) (by first | (simp -dsimp; done) | (simp -dsimp [↓e11, h12, z14, h15, q16, h17, q18]; done) | simp_all)) ?_
          exact hq
      · have q16 : ((i : Int) < d) := by first | exact h15 | omega | (simpa using h15) | (simp at h15 ⊢; omega) | simp_all
        rw [if_pos q16] at hF
        simp -dsimp [↓e11, h12, z14, h15, q16]
        repeat (refine chk.go (by first | omega | assumption | (simp_all; done) | (simp_all; omega)) ?_; simp -dsimp [↓e11, h12, z14, h15, q16])
        refine ADraw.simple follows (by kernel_rfl) (by kernel_rfl) ?_
        have hF := ob hF; obtain ⟨x33, e34a, hF⟩ := hF
        have e34a := at_some e34a; obtain ⟨ne34, e34⟩ := e34a
        have le34 := lt_of_get e34
        simp -dsimp [↓e11, h12, z14, h15, q16, ↓e34]
        repeat (refine chk.go (by first | omega | assumption | (simp_all; done) | (simp_all; omega)) ?_; simp -dsimp [↓e11, h12, z14, h15, q16, ↓e34])
        refine abr.split (fun h35 => ?_) (fun h35 => ?_)
        · have q36 : (k < (x33.ctors.length : Int)) := by first | exact h35 | omega | (simpa using h35) | (simp at h35 ⊢; omega) | simp_all
          rw [if_pos q36] at hF
          have hF := ob hF; obtain ⟨x37, e38, hF⟩ := hF
          have le38 := lt_of_get e38
          have hF := ob hF; obtain ⟨x39, e40a, hF⟩ := hF
          have e40a := at_some e40a; obtain ⟨ne40, e40⟩ := e40a
          have le40 := lt_of_get e40
          simp -dsimp [↓e11, h12, z14, h15, q16, ↓e34, h35, ↓e38, ↓e40]
          repeat (refine chk.go (by first | omega | assumption | (simp_all; done) | (simp_all; omega)) ?_; simp -dsimp [↓e11, h12, z14, h15, q16, ↓e34, h35, ↓e38, ↓e40])
          refine abr.split (fun h41 => ?_) (fun h41 => ?_)
          · have q42 : (x37.name.toList = x39.name.toList) := by first | exact h41 | omega | (simpa using h41) | (simp at h41 ⊢; omega) | simp_all
            rw [if_pos q42] at hF
            cases hF
            simp -dsimp [↓e11, h12, z14, h15, q16, ↓e34, h35, ↓e38, ↓e40, h41]
            repeat (refine chk.go (by first | omega | assumption | (simp_all; done) | (simp_all; omega)) ?_; simp -dsimp [↓e11, h12, z14, h15, q16, ↓e34, h35, ↓e38, ↓e40, h41])
            refine Leave.go _ (Gh.refl _) (hq _ ?_)
            simp -dsimp [↓e11, h12, z14, h15, q16, ↓e34, h35, ↓e38, ↓e40, h41]
            repeat (refine chk.go (by first | omega | assumption | (simp_all; done) | (simp_all; omega)) ?_; simp -dsimp [↓e11, h12, z14, h15, q16, ↓e34, h35, ↓e38, ↓e40, h41])
          · have q42 : ¬ (x37.name.toList = x39.name.toList) := by first | exact h41 | omega | (simpa using h41) | (simp at h41 ⊢; omega) | simp_all
            rw [if_neg q42] at hF
            have hF := oc hF; obtain ⟨c43, hF⟩ := hF
            have w44 : IntKind.i64.wrap ((j : Int) + 1) = (j : Int) + 1 := wrap_in (by omega) (by omega)
            simp -dsimp [↓e11, h12, z14, h15, q16, ↓e34, h35, ↓e38, ↓e40, h41, q42, w44]
            repeat (refine chk.go (by first | omega | assumption | (simp_all; done) | (simp_all; omega)) ?_; simp -dsimp [↓e11, h12, z14, h15, q16, ↓e34, h35, ↓e38, ↓e40, h41, q42, w44])
            refine Again.go ⟨[(0, .arr (List.map Vl.Data.c w)), (1, .lit (.int .i64 d)), (2, .lit (.int .i64 k)), (7, .lit (.int .i64 (i : Int))), (8, .lit (.int .i64 ((j + 1) : Int)))], []⟩ (Gh.to (by simp) (by first | (simp -dsimp; done) | (simp -dsimp [↓e11, h12, z14, h15, q16, ↓e34, h35, ↓e38, ↓e40, h41, q42, w44]; done) | simp_all) (by first | (simp -dsimp; done) | (simp -dsimp [↓e11, h12, z14, h15, q16, ↓e34, h35, ↓e38, ↓e40, h41, q42, w44]; done) | simp_all) (by first | (simp -dsimp; done) | (simp -dsimp [↓e11, h12, z14, h15, q16, ↓e34, h35, ↓e38, ↓e40, h41, q42, w44]; done) | simp_all)) ?_
            exact (ih_spec_l1Twice_l2 (j + 1) o hF) _ rfl _ hq
        · have q36 : ¬ (k < (x33.ctors.length : Int)) := by first | exact h35 | omega | (simpa using h35) | (simp at h35 ⊢; omega) | simp_all
          rw [if_neg q36] at hF
          have hF := oc hF; obtain ⟨c45, hF⟩ := hF
          have w46 : IntKind.i64.wrap ((j : Int) + 1) = (j : Int) + 1 := wrap_in (by omega) (by omega)
          simp -dsimp [↓e11, h12, z14, h15, q16, ↓e34, h35, q36, w46]
          repeat (refine chk.go (by first | omega | assumption | (simp_all; done) | (simp_all; omega)) ?_; simp -dsimp [↓e11, h12, z14, h15, q16, ↓e34, h35, q36, w46])
          refine Again.go ⟨[(0, .arr (List.map Vl.Data.c w)), (1, .lit (.int .i64 d)), (2, .lit (.int .i64 k)), (7, .lit (.int .i64 (i : Int))), (8, .lit (.int .i64 ((j + 1) : Int)))], []⟩ (Gh.to (by simp) (by first | (simp -dsimp; done) | (simp -dsimp [↓e11, h12, z14, h15, q16, ↓e34, h35, q36, w46]; done) | simp_all) (by first | (simp -dsimp; done) | (simp -dsimp [↓e11, h12, z14, h15, q16, ↓e34, h35, q36, w46]; done) | simp_all) (by first | (simp -dsimp; done) | (simp -dsimp [↓e11, h12, z14, h15, q16, ↓e34, h35, q36, w46]; done) | simp_all)) ?_
          exact (ih_spec_l1Twice_l2 (j + 1) o hF) _ rfl _ hq
    · have q13 : ¬ (j < x10.ctors.length) := by first | exact h12 | omega | (simpa using h12) | (simp at h12 ⊢; omega) | simp_all
      have z14 : ¬ ((j : Int) < (x10.ctors.length : Int)) := by first | omega | simp_all
      rw [if_neg q13] at hF
      cases hF
      simp -dsimp [↓e11, h12, q13, z14]
      repeat (refine chk.go (by first | omega | assumption | (simp_all; done) | (simp_all; omega)) ?_; simp -dsimp [↓e11, h12, q13, z14])
      refine Leave.go ⟨[(0, .arr (List.map Vl.Data.c w)), (1, .lit (.int .i64 d)), (2, .lit (.int .i64 k)), (7, .lit (.int .i64 (i : Int)))], []⟩ (Gh.to (by simp) (by first | (simp -dsimp; done) | (simp -dsimp [↓e11, h12, q13, z14]; done) | simp_all) (by first | (simp -dsimp; done) | (simp -dsimp [↓e11, h12, q13, z14]; done) | simp_all) (by first | (simp -dsimp; done) | (simp -dsimp [↓e11, h12, q13, z14]; done) | simp_all)) ?_
      exact hq

theorem C.spec_l1Twice_l2 (B : Nat) (hB1 : 67108864 ≤ B) (hB2 : B ≤ 9223372036854775807) (w : List Vl.Data) (d : Int) (k : Int) (i : Nat) (j : Nat) (o : Lo Bool Unit) (hF : F.spec_l1Twice_l2 w d k i j = some o) : ∀ (c : Code), navO [1, 0, 1, 0, 0, 1, 0, 0, 1, 1, 0, 0] (bodyOf Try.f66) = some c → ∀ (Q : Exit → ASt → Prop), o.post (fun r => ∀ st, Post Try.prog Try.f66 (fun r' _ => r'.le (.lit (.bool r))) .ret st → Q .ret st) (fun s => Q (.exit 2) ⟨[(0, .arr (List.map Vl.Data.c w)), (1, .lit (.int .i64 d)), (2, .lit (.int .i64 k)), (7, .lit (.int .i64 (i : Int)))], []⟩) → ALoopU Try.prog B 0 79 (hold c .mk) ⟨[(0, .arr (List.map Vl.Data.c w)), (1, .lit (.int .i64 d)), (2, .lit (.int .i64 k)), (7, .lit (.int .i64 (i : Int))), (8, .lit (.int .i64 (j : Int)))], []⟩ (hold Q .mk) :=
  (CC.spec_l1Twice_l2 B hB1 hB2 w d k i) j o hF

set_option maxRecDepth 100000 in
set_option maxHeartbeats 400000 in
theorem CC.spec_l1Twice_l3 (B : Nat) (hB1 : 67108864 ≤ B) (hB2 : B ≤ 9223372036854775807) (w : List Vl.Data) (d : Int) (k : Int) (i : Nat) : (∀ (j50 : Nat) (o : Lo Bool Unit), F.spec_l1Twice_l3 w d k i j50 = some o → ∀ (c : Code), navO [1, 0, 1, 0, 0, 1, 0, 0, 1, 1, 0, 0] (bodyOf Try.f66) = some c → ∀ (Q : Exit → ASt → Prop), o.post (fun r => ∀ st, Post Try.prog Try.f66 (fun r' _ => r'.le (.lit (.bool r))) .ret st → Q .ret st) (fun s => Q (.exit 2) ⟨[(0, .arr (List.map Vl.Data.c w)), (1, .lit (.int .i64 d)), (2, .lit (.int .i64 k)), (7, .lit (.int .i64 (i : Int)))], []⟩) → ALoopU Try.prog B 0 79 (hold c .mk) ⟨[(0, .arr (List.map Vl.Data.c w)), (1, .lit (.int .i64 d)), (2, .lit (.int .i64 k)), (7, .lit (.int .i64 (i : Int))), (8, .lit (.int .i64 (j50 : Int)))], []⟩ (hold Q .mk)) := by
  refine F.spec_l1Twice_l3.partial_correctness w d k i
    (fun j50 o => ∀ (c : Code), navO [1, 0, 1, 0, 0, 1, 0, 0, 1, 1, 0, 0] (bodyOf Try.f66) = some c → ∀ (Q : Exit → ASt → Prop), o.post (fun r => ∀ st, Post Try.prog Try.f66 (fun r' _ => r'.le (.lit (.bool r))) .ret st → Q .ret st) (fun s => Q (.exit 2) ⟨[(0, .arr (List.map Vl.Data.c w)), (1, .lit (.int .i64 d)), (2, .lit (.int .i64 k)), (7, .lit (.int .i64 (i : Int)))], []⟩) → ALoopU Try.prog B 0 79 (hold c .mk) ⟨[(0, .arr (List.map Vl.Data.c w)), (1, .lit (.int .i64 d)), (2, .lit (.int .i64 k)), (7, .lit (.int .i64 (i : Int))), (8, .lit (.int .i64 (j50 : Int)))], []⟩ (hold Q .mk))
    ?_
  · intro _f_spec_l1Twice_l3 ih_spec_l1Twice_l3 j50 o hF
    intro c hc Q hq
    obtain rfl : c = _ := navEq hc rfl
    refine ALoopU.know fun hk hs => ?_
    have b0 := hk 0
    simp -dsimp at b0
    clear hk hs
    refine ALoopU.enter ?_
    have hF := ob hF; obtain ⟨x51, e52, hF⟩ := hF
    have le52 := lt_of_get e52
    simp -dsimp [↓e52]
    repeat (refine chk.go (by first | omega | assumption | (simp_all; done) | (simp_all; omega)) ?_; simp -dsimp [↓e52])
    refine abr.split (fun h53 => ?_) (fun h53 => ?_)
    · have q54 : (j50 < x51.ctors.length) := by first | exact h53 | omega | (simpa using h53) | (simp at h53 ⊢; omega) | simp_all
      have z55 : ((j50 : Int) < (x51.ctors.length : Int)) := by first | omega | simp_all
      rw [if_pos q54] at hF
      simp -dsimp [↓e52, h53, z55]
      repeat (refine chk.go (by first | omega | assumption | (simp_all; done) | (simp_all; omega)) ?_; simp -dsimp [↓e52, h53, z55])
      refine abr.split (fun h56 => ?_) (fun h56 => ?_)
      · have q57 : ¬ ((i : Int) < d) := by first | exact h56 | omega | (simpa using h56) | (simp at h56 ⊢; omega) | simp_all
        rw [if_neg q57] at hF
        simp -dsimp [↓e52, h53, z55, h56, q57]
        repeat (refine chk.go (by first | omega | assumption | (simp_all; done) | (simp_all; omega)) ?_; simp -dsimp [↓e52, h53, z55, h56, q57])
        refine abr.split (fun h58 => ?_) (fun h58 => ?_)
        · have q59 : ((j50 : Int) < k) := by first | exact h58 | omega | (simpa using h58) | (simp at h58 ⊢; omega) | simp_all
          rw [if_pos q59] at hF
          simp -dsimp [↓e52, h53, z55, h56, q57, h58]
          repeat (refine chk.go (by first | omega | assumption | (simp_all; done) | (simp_all; omega)) ?_; simp -dsimp [↓e52, h53, z55, h56, q57, h58])
          refine ADraw.simple follows (by kernel_rfl) (by kernel_rfl) ?_
          have hF := ob hF; obtain ⟨x60, e61a, hF⟩ := hF
          have e61a := at_some e61a; obtain ⟨ne61, e61⟩ := e61a
          have le61 := lt_of_get e61
          simp -dsimp [↓e52, h53, z55, h56, q57, h58, ↓e61]
          repeat (refine chk.go (by first | omega | assumption | (simp_all; done) | (simp_all; omega)) ?_; simp -dsimp [↓e52, h53, z55, h56, q57, h58, ↓e61])
          refine abr.split (fun h62 => ?_) (fun h62 => ?_)
          · have q63 : (k < (x60.ctors.length : Int)) := by first | exact h62 | omega | (simpa using h62) | (simp at h62 ⊢; omega) | simp_all
            rw [if_pos q63] at hF
            have hF := ob hF; obtain ⟨x64, e65, hF⟩ := hF
            have le65 := lt_of_get e65
            have hF := ob hF; obtain ⟨x66, e67a, hF⟩ := hF
            have e67a := at_some e67a; obtain ⟨ne67, e67⟩ := e67a
            have le67 := lt_of_get e67
            simp -dsimp [↓e52, h53, z55, h56, q57, h58, ↓e61, h62, ↓e65, ↓e67]
            repeat (refine chk.go (by first | omega | assumption | (simp_all; done) | (simp_all; omega)) ?_; simp -dsimp [↓e52, h53, z55, h56, q57, h58, ↓e61, h62, ↓e65, ↓e67])
            refine abr.split (fun h68 => ?_) (fun h68 => ?_)
            · have q69 : (x64.name.toList = x66.name.toList) := by first | exact h68 | omega | (simpa using h68) | (simp at h68 ⊢; omega) | simp_all
              rw [if_pos q69] at hF
              cases hF
              simp -dsimp [↓e52, h53, z55, h56, q57, h58, ↓e61, h62, ↓e65, ↓e67, h68]
              repeat (refine chk.go (by first | omega | assumption | (simp_all; done) | (simp_all; omega)) ?_; simp -dsimp [↓e52, h53, z55, h56, q57, h58, ↓e61, h62, ↓e65, ↓e67, h68])
              refine Leave.go _ (Gh.refl _) (hq _ ?_)
              simp -dsimp [↓e52, h53, z55, h56, q57, h58, ↓e61, h62, ↓e65, ↓e67, h68]
              repeat (refine chk.go (by first | omega | assumption | (simp_all; done) | (simp_all; omega)) ?_; simp -dsimp [↓e52, h53, z55, h56, q57, h58, ↓e61, h62, ↓e65, ↓e67, h68])
            · have q69 : ¬ (x64.name.toList = x66.name.toList) := by first | exact h68 | omega | (simpa using h68) | (simp at h68 ⊢; omega) | simp_all
              rw [if_neg q69] at hF
              have hF := oc hF; obtain ⟨c70, hF⟩ := hF
              have w71 : IntKind.i64.wrap ((j50 : Int) + 1) = (j50 : Int) + 1 := wrap_in (by omega) (by omega)
              simp -dsimp [↓e52, h53, z55, h56, q57, h58, ↓e61, h62, ↓e65, ↓e67, h68, q69, w71]
              repeat (refine chk.go (by first | omega | assumption | (simp_all; done) | (simp_all; omega)) ?_; simp -dsimp [↓e52, h53, z55, h56, q57, h58, ↓e61, h62, ↓e65, ↓e67, h68, q69, w71])
              refine Again.go ⟨[(0, .arr (List.map Vl.Data.c w)), (1, .lit (.int .i64 d)), (2, .lit (.int .i64 k)), (7, .lit (.int .i64 (i : Int))), (8, .lit (.int .i64 ((j50 + 1) : Int)))], []⟩ (Gh.to (by simp) (by first | (simp -dsimp; done) | (simp -dsimp [↓e52, h53, z55, h56, q57, h58, ↓e61, h62, ↓e65, ↓e67, h68, q69, w71]; done) | simp_all) (by first | (simp -dsimp; done) | (simp -dsimp [↓e52, h53, z55, h56, q57, h58, ↓e61, h62, ↓e65, ↓e67, h68, q69, w71]; done) | simp_all) (by first | (simp -dsimp; done) | (simp -dsimp [↓e52, h53, z55, h56, q57, h58, ↓e61, h62, ↓e65, ↓e67, h68, q69, w71]; done) | simp_all)) ?_
              exact (ih_spec_l1Twice_l3 (j50 + 1) o hF) _ rfl _ hq
          · have q63 : ¬ (k < (x60.ctors.length : Int)) := by first | exact h62 | omega | (simpa using h62) | (simp at h62 ⊢; omega) | simp_all
            rw [if_neg q63] at hF
            have hF := oc hF; obtain ⟨c72, hF⟩ := hF
            have w73 : IntKind.i64.wrap ((j50 : Int) + 1) = (j50 : Int) + 1 := wrap_in (by omega) (by omega)
            simp -dsimp [↓e52, h53, z55, h56, q57, h58, ↓e61, h62, q63, w73]
            repeat (refine chk.go (by first | omega | assumption | (simp_all; done) | (simp_all; omega)) ?_; simp -dsimp [↓e52, h53, z55, h56, q57, h58, ↓e61, h62, q63, w73])
            refine Again.go ⟨[(0, .arr (List.map Vl.Data.c w)), (1, .lit (.int .i64 d)), (2, .lit (.int .i64 k)), (7, .lit (.int .i64 (i : Int))), (8, .lit (.int .i64 ((j50 + 1) : Int)))], []⟩ (Gh.to (by simp) (by first | (simp -dsimp; done) | (simp -dsimp [↓e52, h53, z55, h56, q57, h58, ↓e61, h62, q63, w73]; done) | simp_all) (by first | (simp -dsimp; done) | (simp -dsimp [↓e52, h53, z55, h56, q57, h58, ↓e61, h62, q63, w73]; done) | simp_all) (by first | (simp -dsimp; done) | (simp -dsimp [↓e52, h53, z55, h56, q57, h58, ↓e61, h62, q63, w73]; done) | simp_all)) ?_
            exact (ih_spec_l1Twice_l3 (j50 + 1) o hF) _ rfl _ hq
        · have q59 : ¬ ((j50 : Int) < k) := by first | exact h58 | omega | (simpa using h58) | (simp at h58 ⊢; omega) | simp_all
          rw [if_neg q59] at hF
          cases hF
          simp -dsimp [↓e52, h53, z55, h56, q57, h58, q59]
          repeat (refine chk.go (by first | omega | assumption | (simp_all; done) | (simp_all; omega)) ?_; simp -dsimp [↓e52, h53, z55, h56, q57, h58, q59])
          refine Leave.go ⟨[(0, .arr (List.map Vl.Data.c w)), (1, .lit (.int .i64 d)), (2, .lit (.int .i64 k)), (7, .lit (.int .i64 (i : Int)))], []⟩ (Gh.to (by simp) (by first | (simp -dsimp; done) | (simp -dsimp [↓e52, h53, z55, h56, q57, h58, q59]; done) | simp_all) (by first | (simp -dsimp; done) | (simp -dsimp [↓e52, h53, z55, h56, q57, h58, q59]; done) | simp_all) (by first | (simp -dsimp; done) | (simp -dsimp [↓e52, h53, z55, h56, q57, h58, q59]; done) | simp_all)) ?_
          exact hq
      · have q57 : ((i : Int) < d) := by first | exact h56 | omega | (simpa using h56) | (simp at h56 ⊢; omega) | simp_all
        rw [if_pos q57] at hF
        simp -dsimp [↓e52, h53, z55, h56, q57]
        repeat (refine chk.go (by first | omega | assumption | (simp_all; done) | (simp_all; omega)) ?_; simp -dsimp [↓e52, h53, z55, h56, q57])
        refine ADraw.simple follows (by kernel_rfl) (by kernel_rfl) ?_
        have hF := ob hF; obtain ⟨x74, e75a, hF⟩ := hF
        have e75a := at_some e75a; obtain ⟨ne75, e75⟩ := e75a
        have le75 := lt_of_get e75
        simp -dsimp [↓e52, h53, z55, h56, q57, ↓e75]
        repeat (refine chk.go (by first | omega | assumption | (simp_all; done) | (simp_all; omega)) ?_; simp -dsimp [↓e52, h53, z55, h56, q57, ↓e75])
        refine abr.split (fun h76 => ?_) (fun h76 => ?_)
        · have q77 : (k < (x74.ctors.length : Int)) := by first | exact h76 | omega | (simpa using h76) | (simp at h76 ⊢; omega) | simp_all
          rw [if_pos q77] at hF
          have hF := ob hF; obtain ⟨x78, e79, hF⟩ := hF
          have le79 := lt_of_get e79
          have hF := ob hF; obtain ⟨x80, e81a, hF⟩ := hF
          have e81a := at_some e81a; obtain ⟨ne81, e81⟩ := e81a
          have le81 := lt_of_get e81
          simp -dsimp [↓e52, h53, z55, h56, q57, ↓e75, h76, ↓e79, ↓e81]
          repeat (refine chk.go (by first | omega | assumption | (simp_all; done) | (simp_all; omega)) ?_; simp -dsimp [↓e52, h53, z55, h56, q57, ↓e75, h76, ↓e79, ↓e81])
          refine abr.split (fun h82 => ?_) (fun h82 => ?_)
          · have q83 : (x78.name.toList = x80.name.toList) := by first | exact h82 | omega | (simpa using h82) | (simp at h82 ⊢; omega) | simp_all
            rw [if_pos q83] at hF
            cases hF
            simp -dsimp [↓e52, h53, z55, h56, q57, ↓e75, h76, ↓e79, ↓e81, h82]
            repeat (refine chk.go (by first | omega | assumption | (simp_all; done) | (simp_all; omega)) ?_; simp -dsimp [↓e52, h53, z55, h56, q57, ↓e75, h76, ↓e79, ↓e81, h82])
            refine Leave.go _ (Gh.refl _) (hq _ ?_)
            simp -dsimp [↓e52, h53, z55, h56, q57, ↓e75, h76, ↓e79, ↓e81, h82]
            repeat (refine chk.go (by first | omega | assumption | (simp_all; done) | (simp_all; omega)) ?_; simp -dsimp [↓e52, h53, z55, h56, q57, ↓e75, h76, ↓e79, ↓e81, h82])
          · have q83 : ¬ (x78.name.toList = x80.name.toList) := by first | exact h82 | omega | (simpa using h82) | (simp at h82 ⊢; omega) | simp_all
            rw [if_neg q83] at hF
            have hF := oc hF; obtain ⟨c84, hF⟩ := hF
            have w85 : IntKind.i64.wrap ((j50 : Int) + 1) = (j50 : Int) + 1 := wrap_in (by omega) (by omega)
            simp -dsimp [↓e52, h53, z55, h56, q57, ↓e75, h76, ↓e79, ↓e81, h82, q83, w85]
            repeat (refine chk.go (by first | omega | assumption | (simp_all; done) | (simp_all; omega)) ?_; simp -dsimp [↓e52, h53, z55, h56, q57, ↓e75, h76, ↓e79, ↓e81, h82, q83, w85])
            refine Again.go ⟨[(0, .arr (List.map Vl.Data.c w)), (1, .lit (.int .i64 d)), (2, .lit (.int .i64 k)), (7, .lit (.int .i64 (i : Int))), (8, .lit (.int .i64 ((j50 + 1) : Int)))], []⟩ (Gh.to (by simp) (by first | (simp -dsimp; done) | (simp -dsimp [↓e52, h53, z55, h56, q57, ↓e75, h76, ↓e79, ↓e81, h82, q83, w85]; done) | simp_all) (by first | (simp -dsimp; done) | (simp -dsimp [↓e52, h53, z55, h56, q57, ↓e75, h76, ↓e79, ↓e81, h82, q83, w85]; done) | simp_all) (by first | (simp -dsimp; done) | (simp -dsimp [↓e52, h53, z55, h56, q57, ↓e75, h76, ↓e79, ↓e81, h82, q83, w85]; done) | simp_all)) ?_
            exact (ih_spec_l1Twice_l3 (j50 + 1) o hF) _ rfl _ hq
        · have q77 : ¬ (k < (x74.ctors.length : Int)) := by first | exact h76 | omega | (simpa using h76) | (simp at h76 ⊢; omega) | simp_all
          rw [if_neg q77] at hF
          have hF := oc hF; obtain ⟨c86, hF⟩ := hF
          have w87 : IntKind.i64.wrap ((j50 : Int) + 1) = (j50 : Int) + 1 := wrap_in (by omega) (by omega)
          simp -dsimp [↓e52, h53, z55, h56, q57, ↓e75, h76, q77, w87]
          repeat (refine chk.go (by first | omega | assumption | (simp_all; done) | (simp_all; omega)) ?_; simp -dsimp [↓e52, h53, z55, h56, q57, ↓e75, h76, q77, w87])
          refine Again.go ⟨[(0, .arr (List.map Vl.Data.c w)), (1, .lit (.int .i64 d)), (2, .lit (.int .i64 k)), (7, .lit (.int .i64 (i : Int))), (8, .lit (.int .i64 ((j50 + 1) : Int)))], []⟩ (Gh.to (by simp) (by first | (simp -dsimp; done) | (simp -dsimp [↓e52, h53, z55, h56, q57, ↓e75, h76, q77, w87]; done) | simp_all) (by first | (simp -dsimp; done) | (simp -dsimp [↓e52, h53, z55, h56, q57, ↓e75, h76, q77, w87]; done) | simp_all) (by first | (simp -dsimp; done) | (simp -dsimp [↓e52, h53, z55, h56, q57, ↓e75, h76, q77, w87]; done) | simp_all)) ?_
          exact (ih_spec_l1Twice_l3 (j50 + 1) o hF) _ rfl _ hq
    · have q54 : ¬ (j50 < x51.ctors.length) := by first | exact h53 | omega | (simpa using h53) | (simp at h53 ⊢; omega) | simp_all
      have z55 : ¬ ((j50 : Int) < (x51.ctors.length : Int)) := by first | omega | simp_all
      rw [if_neg q54] at hF
      cases hF
      simp -dsimp [↓e52, h53, q54, z55]
      repeat (refine chk.go (by first | omega | assumption | (simp_all; done) | (simp_all; omega)) ?_; simp -dsimp [↓e52, h53, q54, z55])
      refine Leave.go ⟨[(0, .arr (List.map Vl.Data.c w)), (1, .lit (.int .i64 d)), (2, .lit (.int .i64 k)), (7, .lit (.int .i64 (i : Int)))], []⟩ (Gh.to (by simp) (by first | (simp -dsimp; done) | (simp -dsimp [↓e52, h53, q54, z55]; done) | simp_all) (by first | (simp -dsimp; done) | (simp -dsimp [↓e52, h53, q54, z55]; done) | simp_all) (by first | (simp -dsimp; done) | (simp -dsimp [↓e52, h53, q54, z55]; done) | simp_all)) ?_
      exact hq

theorem C.spec_l1Twice_l3 (B : Nat) (hB1 : 67108864 ≤ B) (hB2 : B ≤ 9223372036854775807) (w : List Vl.Data) (d : Int) (k : Int) (i : Nat) (j50 : Nat) (o : Lo Bool Unit) (hF : F.spec_l1Twice_l3 w d k i j50 = some o) : ∀ (c : Code), navO [1, 0, 1, 0, 0, 1, 0, 0, 1, 1, 0, 0] (bodyOf Try.f66) = some c → ∀ (Q : Exit → ASt → Prop), o.post (fun r => ∀ st, Post Try.prog Try.f66 (fun r' _ => r'.le (.lit (.bool r))) .ret st → Q .ret st) (fun s => Q (.exit 2) ⟨[(0, .arr (List.map Vl.Data.c w)), (1, .lit (.int .i64 d)), (2, .lit (.int .i64 k)), (7, .lit (.int .i64 (i : Int)))], []⟩) → ALoopU Try.prog B 0 79 (hold c .mk) ⟨[(0, .arr (List.map Vl.Data.c w)), (1, .lit (.int .i64 d)), (2, .lit (.int .i64 k)), (7, .lit (.int .i64 (i : Int))), (8, .lit (.int .i64 (j50 : Int)))], []⟩ (hold Q .mk) :=
  (CC.spec_l1Twice_l3 B hB1 hB2 w d k i) j50 o hF

set_option maxRecDepth 100000 in
set_option maxHeartbeats 400000 in
theorem CC.spec_l1Twice_l1 (B : Nat) (hB1 : 67108864 ≤ B) (hB2 : B ≤ 9223372036854775807) (w : List Vl.Data) (d : Int) (k : Int) : (∀ (i : Nat) (o : Lo Bool Unit), F.spec_l1Twice_l1 w d k i = some o → ∀ (c : Code), navO [1, 0, 1, 0, 0] (bodyOf Try.f66) = some c → ∀ (Q : Exit → ASt → Prop), o.post (fun r => ∀ st, Post Try.prog Try.f66 (fun r' _ => r'.le (.lit (.bool r))) .ret st → Q .ret st) (fun s => Q (.exit 0) ⟨[], []⟩) → ALoopU Try.prog B 0 79 (hold c .mk) ⟨[(0, .arr (List.map Vl.Data.c w)), (1, .lit (.int .i64 d)), (2, .lit (.int .i64 k)), (7, .lit (.int .i64 (i : Int)))], []⟩ (hold Q .mk)) := by
  refine F.spec_l1Twice_l1.partial_correctness w d k
    (fun i o => ∀ (c : Code), navO [1, 0, 1, 0, 0] (bodyOf Try.f66) = some c → ∀ (Q : Exit → ASt → Prop), o.post (fun r => ∀ st, Post Try.prog Try.f66 (fun r' _ => r'.le (.lit (.bool r))) .ret st → Q .ret st) (fun s => Q (.exit 0) ⟨[], []⟩) → ALoopU Try.prog B 0 79 (hold c .mk) ⟨[(0, .arr (List.map Vl.Data.c w)), (1, .lit (.int .i64 d)), (2, .lit (.int .i64 k)), (7, .lit (.int .i64 (i : Int)))], []⟩ (hold Q .mk))
    ?_
  · intro _f_spec_l1Twice_l1 ih_spec_l1Twice_l1 i o hF
    intro c hc Q hq
    obtain rfl : c = _ := navEq hc rfl
    refine ALoopU.know fun hk hs => ?_
    have b0 := hk 0
    simp -dsimp at b0
    clear hk hs
    refine ALoopU.enter ?_
    simp -dsimp
    repeat (refine chk.go (by first | omega | assumption | (simp_all; done) | (simp_all; omega)) ?_; simp -dsimp)
    refine abr.split (fun h1 => ?_) (fun h1 => ?_)
    · have q2 : ((i : Int) ≤ d) := by first | exact h1 | omega | (simpa using h1) | (simp at h1 ⊢; omega) | simp_all
      rw [if_pos q2] at hF
      simp -dsimp [h1]
      repeat (refine chk.go (by first | omega | assumption | (simp_all; done) | (simp_all; omega)) ?_; simp -dsimp [h1])
      refine ADraw.simple follows (by kernel_rfl) (by kernel_rfl) ?_
      simp -dsimp [h1]
      repeat (refine chk.go (by first | omega | assumption | (simp_all; done) | (simp_all; omega)) ?_; simp -dsimp [h1])
      refine abr.split (fun h3 => ?_) (fun h3 => ?_)
      · have q4 : ((i : Int) < d) := by first | exact h3 | omega | (simpa using h3) | (simp at h3 ⊢; omega) | simp_all
        rw [if_pos q4] at hF
        have hF := ob hF; obtain ⟨x, e5, hF⟩ := hF
        have le5 := lt_of_get e5
        have hF := ob hF; obtain ⟨x6, e7a, hF⟩ := hF
        have e7a := at_some e7a; obtain ⟨ne7, e7⟩ := e7a
        have le7 := lt_of_get e7
        simp -dsimp [h1, h3, ↓e5, ↓e7]
        repeat (refine chk.go (by first | omega | assumption | (simp_all; done) | (simp_all; omega)) ?_; simp -dsimp [h1, h3, ↓e5, ↓e7])
        refine abr.split (fun h8 => ?_) (fun h8 => ?_)
        · have q9 : (x.name.toList = x6.name.toList) := by first | exact h8 | omega | (simpa using h8) | (simp at h8 ⊢; omega) | simp_all
          rw [if_pos q9] at hF
          cases hF
          simp -dsimp [h1, h3, ↓e5, ↓e7, h8]
          repeat (refine chk.go (by first | omega | assumption | (simp_all; done) | (simp_all; omega)) ?_; simp -dsimp [h1, h3, ↓e5, ↓e7, h8])
          refine Leave.go _ (Gh.refl _) (hq _ ?_)
          simp -dsimp [h1, h3, ↓e5, ↓e7, h8]
          repeat (refine chk.go (by first | omega | assumption | (simp_all; done) | (simp_all; omega)) ?_; simp -dsimp [h1, h3, ↓e5, ↓e7, h8])
        · have q9 : ¬ (x.name.toList = x6.name.toList) := by first | exact h8 | omega | (simpa using h8) | (simp at h8 ⊢; omega) | simp_all
          rw [if_neg q9] at hF
          simp -dsimp [h1, h3, ↓e5, ↓e7, h8, q9]
          repeat (refine chk.go (by first | omega | assumption | (simp_all; done) | (simp_all; omega)) ?_; simp -dsimp [h1, h3, ↓e5, ↓e7, h8, q9])
          have hF := ob hF; obtain ⟨o, ho47, hF⟩ := hF
          refine ALoop.goU ⟨[(0, .arr (List.map Vl.Data.c w)), (1, .lit (.int .i64 d)), (2, .lit (.int .i64 k)), (7, .lit (.int .i64 (i : Int))), (8, .lit (.int .i64 (0 : Int)))], []⟩ (Gh.to (by simp) (by first | (simp -dsimp; done) | (simp -dsimp [h1, h3, ↓e5, ↓e7, h8, q9]; done) | simp_all) (by first | (simp -dsimp; done) | (simp -dsimp [h1, h3, ↓e5, ↓e7, h8, q9]; done) | simp_all) (by first | (simp -dsimp; done) | (simp -dsimp [h1, h3, ↓e5, ↓e7, h8, q9]; done) | simp_all)) ?_
          refine (C.spec_l1Twice_l2 B hB1 hB2 w d k i 0 o ho47) _ rfl _ ?_
          rcases o with r0 | s
          · dsimp only at hF
            cases hF
            intro st h
            simp -dsimp
            refine Leave.go st (Gh.refl _) (hq st h)
          · dsimp only at hF
            have hF := oc hF; obtain ⟨c48, hF⟩ := hF
            have w49 : IntKind.i64.wrap ((i : Int) + 1) = (i : Int) + 1 := wrap_in (by omega) (by omega)
            simp -dsimp [w49]
            repeat (refine chk.go (by first | omega | assumption | (simp_all; done) | (simp_all; omega)) ?_; simp -dsimp [w49])
            refine Again.go ⟨[(0, .arr (List.map Vl.Data.c w)), (1, .lit (.int .i64 d)), (2, .lit (.int .i64 k)), (7, .lit (.int .i64 ((i + 1) : Int)))], []⟩ (Gh.to (by simp) (by first | (simp -dsimp; done) | (simp -dsimp [w49]; done) | simp_all) (by first | (simp -dsimp; done) | (simp -dsimp [w49]; done) | simp_all) (by first | (simp -dsimp; done) | (simp -dsimp [w49]; done) | simp_all)) ?_
            exact (ih_spec_l1Twice_l1 (i + 1) o hF) _ rfl _ hq
      · have q4 : ¬ ((i : Int) < d) := by first | exact h3 | omega | (simpa using h3) | (simp at h3 ⊢; omega) | simp_all
        rw [if_neg q4] at hF
        simp -dsimp [h1, h3, q4]
        repeat (refine chk.go (by first | omega | assumption | (simp_all; done) | (simp_all; omega)) ?_; simp -dsimp [h1, h3, q4])
        have hF := ob hF; obtain ⟨o89, ho88, hF⟩ := hF
        refine ALoop.goU ⟨[(0, .arr (List.map Vl.Data.c w)), (1, .lit (.int .i64 d)), (2, .lit (.int .i64 k)), (7, .lit (.int .i64 (i : Int))), (8, .lit (.int .i64 (0 : Int)))], []⟩ (Gh.to (by simp) (by first | (simp -dsimp; done) | (simp -dsimp [h1, h3, q4]; done) | simp_all) (by first | (simp -dsimp; done) | (simp -dsimp [h1, h3, q4]; done) | simp_all) (by first | (simp -dsimp; done) | (simp -dsimp [h1, h3, q4]; done) | simp_all)) ?_
        refine (C.spec_l1Twice_l3 B hB1 hB2 w d k i 0 o89 ho88) _ rfl _ ?_
        rcases o89 with r093 | s90
        · dsimp only at hF
          cases hF
          intro st h
          simp -dsimp
          refine Leave.go st (Gh.refl _) (hq st h)
        · dsimp only at hF
          have hF := oc hF; obtain ⟨c91, hF⟩ := hF
          have w92 : IntKind.i64.wrap ((i : Int) + 1) = (i : Int) + 1 := wrap_in (by omega) (by omega)
          simp -dsimp [w92]
          repeat (refine chk.go (by first | omega | assumption | (simp_all; done) | (simp_all; omega)) ?_; simp -dsimp [w92])
          refine Again.go ⟨[(0, .arr (List.map Vl.Data.c w)), (1, .lit (.int .i64 d)), (2, .lit (.int .i64 k)), (7, .lit (.int .i64 ((i + 1) : Int)))], []⟩ (Gh.to (by simp) (by first | (simp -dsimp; done) | (simp -dsimp [w92]; done) | simp_all) (by first | (simp -dsimp; done) | (simp -dsimp [w92]; done) | simp_all) (by first | (simp -dsimp; done) | (simp -dsimp [w92]; done) | simp_all)) ?_
          exact (ih_spec_l1Twice_l1 (i + 1) o hF) _ rfl _ hq
    · have q2 : ¬ ((i : Int) ≤ d) := by first | exact h1 | omega | (simpa using h1) | (simp at h1 ⊢; omega) | simp_all
      rw [if_neg q2] at hF
      cases hF
      simp -dsimp [h1, q2]
      repeat (refine chk.go (by first | omega | assumption | (simp_all; done) | (simp_all; omega)) ?_; simp -dsimp [h1, q2])
      refine Leave.go ⟨[], []⟩ (Gh.to (by simp) (by first | (simp -dsimp; done) | (simp -dsimp [h1, q2]; done) | simp_all) (by first | (simp -dsimp; done) | (simp -dsimp [h1, q2]; done) | simp_all) (by first | (simp -dsimp; done) | (simp -dsimp [h1, q2]; done) | simp_all)) ?_
      exact hq

theorem C.spec_l1Twice_l1 (B : Nat) (hB1 : 67108864 ≤ B) (hB2 : B ≤ 9223372036854775807) (w : List Vl.Data) (d : Int) (k : Int) (i : Nat) (o : Lo Bool Unit) (hF : F.spec_l1Twice_l1 w d k i = some o) : ∀ (c : Code), navO [1, 0, 1, 0, 0] (bodyOf Try.f66) = some c → ∀ (Q : Exit → ASt → Prop), o.post (fun r => ∀ st, Post Try.prog Try.f66 (fun r' _ => r'.le (.lit (.bool r))) .ret st → Q .ret st) (fun s => Q (.exit 0) ⟨[], []⟩) → ALoopU Try.prog B 0 79 (hold c .mk) ⟨[(0, .arr (List.map Vl.Data.c w)), (1, .lit (.int .i64 d)), (2, .lit (.int .i64 k)), (7, .lit (.int .i64 (i : Int)))], []⟩ (hold Q .mk) :=
  (CC.spec_l1Twice_l1 B hB1 hB2 w d k) i o hF

set_option maxRecDepth 100000 in
set_option maxHeartbeats 400000 in
theorem C.spec_l1Twice (B : Nat) (hB1 : 67108864 ≤ B) (hB2 : B ≤ 9223372036854775807) (w : List Vl.Data) (d : Int) (k : Int) (r : Bool) (hF : F.spec_l1Twice w d k = some r) : PureCall Try.prog B 66 [.arr (List.map Vl.Data.c w), .lit (.int .i64 d), .lit (.int .i64 k)] (.lit (.bool r)) := by
  unfold F.spec_l1Twice at hF
  refine PureCall.enterLe Try.func66 (by kernel_rfl) rfl Try.ntmps66 (by simp) (by simp) ?_
  simp -dsimp
  repeat (refine chk.go (by first | omega | assumption | (simp_all; done) | (simp_all; omega)) ?_; simp -dsimp)
  have hF := ob hF; obtain ⟨o95, ho94, hF⟩ := hF
  refine ALoop.goU ⟨[(0, .arr (List.map Vl.Data.c w)), (1, .lit (.int .i64 d)), (2, .lit (.int .i64 k)), (7, .lit (.int .i64 (0 : Int)))], []⟩ (Gh.to (by simp) (by simp -dsimp) (by simp -dsimp) (by simp -dsimp)) ?_
  refine (C.spec_l1Twice_l1 B hB1 hB2 w d k 0 o95 ho94) _ rfl _ ?_
  rcases o95 with r097 | s96
  · dsimp only at hF
    cases hF
    intro st h
    simpa using h
  · dsimp only at hF
    cases hF
    simp -dsimp
    repeat (refine chk.go (by first | omega | assumption | (simp_all; done) | (simp_all; omega)) ?_; simp -dsimp)

set_option maxRecDepth 100000 in
set_option maxHeartbeats 400000 in
theorem CC.spec_WorldValid_l2 (B : Nat) (hB1 : 67108864 ≤ B) (hB2 : B ≤ 9223372036854775807) (w : List Vl.Data) (d : Nat) : (∀ (k : Nat) (o : Lo Bool Unit), F.spec_WorldValid_l2 w d k = some o → ∀ (c : Code), navO [1, 1, 0, 1, 0, 0, 1, 0, 0, 1, 1, 0, 0] (bodyOf Try.f44) = some c → ∀ (Q : Exit → ASt → Prop), o.post (fun r => ∀ st, Post Try.prog Try.f44 (fun r' _ => r'.le (.lit (.bool r))) .ret st → Q .ret st) (fun s => Q (.exit 2) ⟨[(0, .arr (List.map Vl.Data.c w)), (3, .lit (.int .i64 (d : Int)))], []⟩) → ALoopU Try.prog B 0 67 (hold c .mk) ⟨[(0, .arr (List.map Vl.Data.c w)), (3, .lit (.int .i64 (d : Int))), (4, .lit (.int .i64 (k : Int)))], []⟩ (hold Q .mk)) := by
  refine F.spec_WorldValid_l2.partial_correctness w d
    (fun k o => ∀ (c : Code), navO [1, 1, 0, 1, 0, 0, 1, 0, 0, 1, 1, 0, 0] (bodyOf Try.f44) = some c → ∀ (Q : Exit → ASt → Prop), o.post (fun r => ∀ st, Post Try.prog Try.f44 (fun r' _ => r'.le (.lit (.bool r))) .ret st → Q .ret st) (fun s => Q (.exit 2) ⟨[(0, .arr (List.map Vl.Data.c w)), (3, .lit (.int .i64 (d : Int)))], []⟩) → ALoopU Try.prog B 0 67 (hold c .mk) ⟨[(0, .arr (List.map Vl.Data.c w)), (3, .lit (.int .i64 (d : Int))), (4, .lit (.int .i64 (k : Int)))], []⟩ (hold Q .mk))
    ?_
  · intro _f_spec_WorldValid_l2 ih_spec_WorldValid_l2 k o hF
    intro c hc Q hq
    obtain rfl : c = _ := navEq hc rfl
    refine ALoopU.know fun hk hs => ?_
    have b0 := hk 0
    simp -dsimp at b0
    clear hk hs
    refine ALoopU.enter ?_
    have hF := ob hF; obtain ⟨x17, e18, hF⟩ := hF
    have le18 := lt_of_get e18
    simp -dsimp [↓e18]
    repeat (refine chk.go (by first | omega | assumption | (simp_all; done) | (simp_all; omega)) ?_; simp -dsimp [↓e18])
    refine abr.split (fun h19 => ?_) (fun h19 => ?_)
    · have q20 : (k < x17.ctors.length) := by first | exact h19 | omega | (simpa using h19) | (simp at h19 ⊢; omega) | simp_all
      have z21 : ((k : Int) < (x17.ctors.length : Int)) := by first | omega | simp_all
      rw [if_pos q20] at hF
      have hF := ob hF; obtain ⟨x22, e23, hF⟩ := hF
      have le23 := lt_of_get e23
      simp -dsimp [↓e18, h19, z21, ↓e23]
      repeat (refine chk.go (by first | omega | assumption | (simp_all; done) | (simp_all; omega)) ?_; simp -dsimp [↓e18, h19, z21, ↓e23])
      have hF := ob hF; obtain ⟨v24, e25, hF⟩ := hF
      refine ((C.spec_l1Ctor B hB1 hB2 (w.length : Int) x22 v24 e25)).goW (by first | (simp; done) | (simp [↓e18, h19, z21, ↓e23]; done) | simp_all) (by simp) ?_
      simp -dsimp [↓e18, h19, z21, ↓e23]
      repeat (refine chk.go (by first | omega | assumption | (simp_all; done) | (simp_all; omega)) ?_; simp -dsimp [↓e18, h19, z21, ↓e23])
      refine abr.split (fun h26 => ?_) (fun h26 => ?_)
      · have q27 : (v24 = true) := by first | exact h26 | omega | (simpa using h26) | (simp at h26 ⊢; omega) | simp_all
        rw [if_pos q27] at hF
        simp -dsimp [↓e18, h19, z21, ↓e23, h26]
        repeat (refine chk.go (by first | omega | assumption | (simp_all; done) | (simp_all; omega)) ?_; simp -dsimp [↓e18, h19, z21, ↓e23, h26])
        have hF := ob hF; obtain ⟨v28, e29, hF⟩ := hF
        refine ((C.spec_l1Twice B hB1 hB2 w (d : Int) (k : Int) v28 e29)).goW (by first | (simp; done) | (simp [↓e18, h19, z21, ↓e23, h26]; done) | simp_all) (by simp) ?_
        simp -dsimp [↓e18, h19, z21, ↓e23, h26]
        repeat (refine chk.go (by first | omega | assumption | (simp_all; done) | (simp_all; omega)) ?_; simp -dsimp [↓e18, h19, z21, ↓e23, h26])
        refine abr.split (fun h30 => ?_) (fun h30 => ?_)
        · have q31 : (v28 = true) := by first | exact h30 | omega | (simpa using h30) | (simp at h30 ⊢; omega) | simp_all
          rw [if_pos q31] at hF
          cases hF
          simp -dsimp [↓e18, h19, z21, ↓e23, h26, h30]
          repeat (refine chk.go (by first | omega | assumption | (simp_all; done) | (simp_all; omega)) ?_; simp -dsimp [↓e18, h19, z21, ↓e23, h26, h30])
          refine Leave.go _ (Gh.refl _) (hq _ ?_)
          simp -dsimp [↓e18, h19, z21, ↓e23, h26, h30]
          repeat (refine chk.go (by first | omega | assumption | (simp_all; done) | (simp_all; omega)) ?_; simp -dsimp [↓e18, h19, z21, ↓e23, h26, h30])
        · have q31 : ¬ (v28 = true) := by first | exact h30 | omega | (simpa using h30) | (simp at h30 ⊢; omega) | simp_all
          rw [if_neg q31] at hF
          have hF := oc hF; obtain ⟨c32, hF⟩ := hF
          have w33 : IntKind.i64.wrap ((k : Int) + 1) = (k : Int) + 1 := wrap_in (by omega) (by omega)
          simp -dsimp [↓e18, h19, z21, ↓e23, h26, h30, q31, w33]
          repeat (refine chk.go (by first | omega | assumption | (simp_all; done) | (simp_all; omega)) ?_; simp -dsimp [↓e18, h19, z21, ↓e23, h26, h30, q31, w33])
          refine Again.go ⟨[(0, .arr (List.map Vl.Data.c w)), (3, .lit (.int .i64 (d : Int))), (4, .lit (.int .i64 ((k + 1) : Int)))], []⟩ (Gh.to (by simp) (by first | (simp -dsimp; done) | (simp -dsimp [↓e18, h19, z21, ↓e23, h26, h30, q31, w33]; done) | simp_all) (by first | (simp -dsimp; done) | (simp -dsimp [↓e18, h19, z21, ↓e23, h26, h30, q31, w33]; done) | simp_all) (by first | (simp -dsimp; done) | (simp -dsimp [↓e18, h19, z21, ↓e23, h26, h30, q31, w33]; done) | simp_all)) ?_
          exact (ih_spec_WorldValid_l2 (k + 1) o hF) _ rfl _ hq
      · have q27 : ¬ (v24 = true) := by first | exact h26 | omega | (simpa using h26) | (simp at h26 ⊢; omega) | simp_all
        rw [if_neg q27] at hF
        cases hF
        simp -dsimp [↓e18, h19, z21, ↓e23, h26, q27]
        repeat (refine chk.go (by first | omega | assumption | (simp_all; done) | (simp_all; omega)) ?_; simp -dsimp [↓e18, h19, z21, ↓e23, h26, q27])
        refine Leave.go _ (Gh.refl _) (hq _ ?_)
        simp -dsimp [↓e18, h19, z21, ↓e23, h26, q27]
        repeat (refine chk.go (by first | omega | assumption | (simp_all; done) | (simp_all; omega)) ?_; simp -dsimp [↓e18, h19, z21, ↓e23, h26, q27])
    · have q20 : ¬ (k < x17.ctors.length) := by first | exact h19 | omega | (simpa using h19) | (simp at h19 ⊢; omega) | simp_all
      have z21 : ¬ ((k : Int) < (x17.ctors.length : Int)) := by first | omega | simp_all
      rw [if_neg q20] at hF
      cases hF
      simp -dsimp [↓e18, h19, q20, z21]
      repeat (refine chk.go (by first | omega | assumption | (simp_all; done) | (simp_all; omega)) ?_; simp -dsimp [↓e18, h19, q20, z21])
      refine Leave.go ⟨[(0, .arr (List.map Vl.Data.c w)), (3, .lit (.int .i64 (d : Int)))], []⟩ (Gh.to (by simp) (by first | (simp -dsimp; done) | (simp -dsimp [↓e18, h19, q20, z21]; done) | simp_all) (by first | (simp -dsimp; done) | (simp -dsimp [↓e18, h19, q20, z21]; done) | simp_all) (by first | (simp -dsimp; done) | (simp -dsimp [↓e18, h19, q20, z21]; done) | simp_all)) ?_
      exact hq

theorem C.spec_WorldValid_l2 (B : Nat) (hB1 : 67108864 ≤ B) (hB2 : B ≤ 9223372036854775807) (w : List Vl.Data) (d : Nat) (k : Nat) (o : Lo Bool Unit) (hF : F.spec_WorldValid_l2 w d k = some o) : ∀ (c : Code), navO [1, 1, 0, 1, 0, 0, 1, 0, 0, 1, 1, 0, 0] (bodyOf Try.f44) = some c → ∀ (Q : Exit → ASt → Prop), o.post (fun r => ∀ st, Post Try.prog Try.f44 (fun r' _ => r'.le (.lit (.bool r))) .ret st → Q .ret st) (fun s => Q (.exit 2) ⟨[(0, .arr (List.map Vl.Data.c w)), (3, .lit (.int .i64 (d : Int)))], []⟩) → ALoopU Try.prog B 0 67 (hold c .mk) ⟨[(0, .arr (List.map Vl.Data.c w)), (3, .lit (.int .i64 (d : Int))), (4, .lit (.int .i64 (k : Int)))], []⟩ (hold Q .mk) :=
  (CC.spec_WorldValid_l2 B hB1 hB2 w d) k o hF

set_option maxRecDepth 100000 in
set_option maxHeartbeats 400000 in
theorem CC.spec_WorldValid_l1 (B : Nat) (hB1 : 67108864 ≤ B) (hB2 : B ≤ 9223372036854775807) (w : List Vl.Data) : (∀ (d : Nat) (o : Lo Bool Unit), F.spec_WorldValid_l1 w d = some o → ∀ (c : Code), navO [1, 1, 0, 1, 0, 0] (bodyOf Try.f44) = some c → ∀ (Q : Exit → ASt → Prop), o.post (fun r => ∀ st, Post Try.prog Try.f44 (fun r' _ => r'.le (.lit (.bool r))) .ret st → Q .ret st) (fun s => Q (.exit 0) ⟨[], []⟩) → ALoopU Try.prog B 0 67 (hold c .mk) ⟨[(0, .arr (List.map Vl.Data.c w)), (3, .lit (.int .i64 (d : Int)))], []⟩ (hold Q .mk)) := by
  refine F.spec_WorldValid_l1.partial_correctness w
    (fun d o => ∀ (c : Code), navO [1, 1, 0, 1, 0, 0] (bodyOf Try.f44) = some c → ∀ (Q : Exit → ASt → Prop), o.post (fun r => ∀ st, Post Try.prog Try.f44 (fun r' _ => r'.le (.lit (.bool r))) .ret st → Q .ret st) (fun s => Q (.exit 0) ⟨[], []⟩) → ALoopU Try.prog B 0 67 (hold c .mk) ⟨[(0, .arr (List.map Vl.Data.c w)), (3, .lit (.int .i64 (d : Int)))], []⟩ (hold Q .mk))
    ?_
  · intro _f_spec_WorldValid_l1 ih_spec_WorldValid_l1 d o hF
    intro c hc Q hq
    obtain rfl : c = _ := navEq hc rfl
    refine ALoopU.know fun hk hs => ?_
    have b0 := hk 0
    simp -dsimp at b0
    clear hk hs
    refine ALoopU.enter ?_
    simp -dsimp
    repeat (refine chk.go (by first | omega | assumption | (simp_all; done) | (simp_all; omega)) ?_; simp -dsimp)
    refine abr.split (fun h4 => ?_) (fun h4 => ?_)
    · have q5 : (d < w.length) := by first | exact h4 | omega | (simpa using h4) | (simp at h4 ⊢; omega) | simp_all
      have z6 : ((d : Int) < (w.length : Int)) := by first | omega | simp_all
      rw [if_pos q5] at hF
      have hF := ob hF; obtain ⟨x, e7, hF⟩ := hF
      have le7 := lt_of_get e7
      simp -dsimp [h4, z6, ↓e7]
      repeat (refine chk.go (by first | omega | assumption | (simp_all; done) | (simp_all; omega)) ?_; simp -dsimp [h4, z6, ↓e7])
      have hF := ob hF; obtain ⟨v, e8, hF⟩ := hF
      refine ((C.spec_l1Data B hB1 hB2 x.name v e8)).goW (by first | (simp; done) | (simp [h4, z6, ↓e7]; done) | simp_all) (by simp) ?_
      simp -dsimp [h4, z6, ↓e7]
      repeat (refine chk.go (by first | omega | assumption | (simp_all; done) | (simp_all; omega)) ?_; simp -dsimp [h4, z6, ↓e7])
      refine abr.split (fun h9 => ?_) (fun h9 => ?_)
      · have q10 : (v = true) := by first | exact h9 | omega | (simpa using h9) | (simp at h9 ⊢; omega) | simp_all
        rw [if_pos q10] at hF
        simp -dsimp [h4, z6, ↓e7, h9]
        repeat (refine chk.go (by first | omega | assumption | (simp_all; done) | (simp_all; omega)) ?_; simp -dsimp [h4, z6, ↓e7, h9])
        refine abr.split (fun h11 => ?_) (fun h11 => ?_)
        · have q12 : ¬ (x.ctors.length = 0) := by first | exact h11 | omega | (simpa using h11) | (simp at h11 ⊢; omega) | simp_all
          have z13 : ¬ ((x.ctors.length : Int) = (0 : Int)) := by first | omega | simp_all
          rw [if_neg q12] at hF
          simp -dsimp [h4, z6, ↓e7, h9, h11, q12, z13]
          repeat (refine chk.go (by first | omega | assumption | (simp_all; done) | (simp_all; omega)) ?_; simp -dsimp [h4, z6, ↓e7, h9, h11, q12, z13])
          refine abr.split (fun h14 => ?_) (fun h14 => ?_)
          · have q15 : (4 < x.ctors.length) := by first | exact h14 | omega | (simpa using h14) | (simp at h14 ⊢; omega) | simp_all
            have z16 : ((4 : Int) < (x.ctors.length : Int)) := by first | omega | simp_all
            rw [if_pos q15] at hF
            cases hF
            simp -dsimp [h4, z6, ↓e7, h9, h11, q12, z13, h14, z16]
            repeat (refine chk.go (by first | omega | assumption | (simp_all; done) | (simp_all; omega)) ?_; simp -dsimp [h4, z6, ↓e7, h9, h11, q12, z13, h14, z16])
            refine Leave.go _ (Gh.refl _) (hq _ ?_)
            simp -dsimp [h4, z6, ↓e7, h9, h11, q12, z13, h14, z16]
            repeat (refine chk.go (by first | omega | assumption | (simp_all; done) | (simp_all; omega)) ?_; simp -dsimp [h4, z6, ↓e7, h9, h11, q12, z13, h14, z16])
          · have q15 : ¬ (4 < x.ctors.length) := by first | exact h14 | omega | (simpa using h14) | (simp at h14 ⊢; omega) | simp_all
            have z16 : ¬ ((4 : Int) < (x.ctors.length : Int)) := by first | omega | simp_all
            rw [if_neg q15] at hF
            simp -dsimp [h4, z6, ↓e7, h9, h11, q12, z13, h14, q15, z16]
            repeat (refine chk.go (by first | omega | assumption | (simp_all; done) | (simp_all; omega)) ?_; simp -dsimp [h4, z6, ↓e7, h9, h11, q12, z13, h14, q15, z16])
            have hF := ob hF; obtain ⟨o, ho34, hF⟩ := hF
            refine ALoop.goU ⟨[(0, .arr (List.map Vl.Data.c w)), (3, .lit (.int .i64 (d : Int))), (4, .lit (.int .i64 (0 : Int)))], []⟩ (Gh.to (by simp) (by first | (simp -dsimp; done) | (simp -dsimp [h4, z6, ↓e7, h9, h11, q12, z13, h14, q15, z16]; done) | simp_all) (by first | (simp -dsimp; done) | (simp -dsimp [h4, z6, ↓e7, h9, h11, q12, z13, h14, q15, z16]; done) | simp_all) (by first | (simp -dsimp; done) | (simp -dsimp [h4, z6, ↓e7, h9, h11, q12, z13, h14, q15, z16]; done) | simp_all)) ?_
            refine (C.spec_WorldValid_l2 B hB1 hB2 w d 0 o ho34) _ rfl _ ?_
            rcases o with r0 | s
            · dsimp only at hF
              cases hF
              intro st h
              simp -dsimp
              refine Leave.go st (Gh.refl _) (hq st h)
            · dsimp only at hF
              have hF := oc hF; obtain ⟨c35, hF⟩ := hF
              have w36 : IntKind.i64.wrap ((d : Int) + 1) = (d : Int) + 1 := wrap_in (by omega) (by omega)
              simp -dsimp [w36]
              repeat (refine chk.go (by first | omega | assumption | (simp_all; done) | (simp_all; omega)) ?_; simp -dsimp [w36])
              refine Again.go ⟨[(0, .arr (List.map Vl.Data.c w)), (3, .lit (.int .i64 ((d + 1) : Int)))], []⟩ (Gh.to (by simp) (by first | (simp -dsimp; done) | (simp -dsimp [w36]; done) | simp_all) (by first | (simp -dsimp; done) | (simp -dsimp [w36]; done) | simp_all) (by first | (simp -dsimp; done) | (simp -dsimp [w36]; done) | simp_all)) ?_
              exact (ih_spec_WorldValid_l1 (d + 1) o hF) _ rfl _ hq
        · have q12 : (x.ctors.length = 0) := by first | exact h11 | omega | (simpa using h11) | (simp at h11 ⊢; omega) | simp_all
          have z13 : ((x.ctors.length : Int) = (0 : Int)) := by first | omega | simp_all
          rw [if_pos q12] at hF
          cases hF
          simp -dsimp [h4, z6, ↓e7, h9, h11, q12, z13]
          repeat (refine chk.go (by first | omega | assumption | (simp_all; done) | (simp_all; omega)) ?_; simp -dsimp [h4, z6, ↓e7, h9, h11, q12, z13])
          refine Leave.go _ (Gh.refl _) (hq _ ?_)
          simp -dsimp [h4, z6, ↓e7, h9, h11, q12, z13]
          repeat (refine chk.go (by first | omega | assumption | (simp_all; done) | (simp_all; omega)) ?_; simp -dsimp [h4, z6, ↓e7, h9, h11, q12, z13])
      · have q10 : ¬ (v = true) := by first | exact h9 | omega | (simpa using h9) | (simp at h9 ⊢; omega) | simp_all
        rw [if_neg q10] at hF
        cases hF
        simp -dsimp [h4, z6, ↓e7, h9, q10]
        repeat (refine chk.go (by first | omega | assumption | (simp_all; done) | (simp_all; omega)) ?_; simp -dsimp [h4, z6, ↓e7, h9, q10])
        refine Leave.go _ (Gh.refl _) (hq _ ?_)
        simp -dsimp [h4, z6, ↓e7, h9, q10]
        repeat (refine chk.go (by first | omega | assumption | (simp_all; done) | (simp_all; omega)) ?_; simp -dsimp [h4, z6, ↓e7, h9, q10])
    · have q5 : ¬ (d < w.length) := by first | exact h4 | omega | (simpa using h4) | (simp at h4 ⊢; omega) | simp_all
      have z6 : ¬ ((d : Int) < (w.length : Int)) := by first | omega | simp_all
      rw [if_neg q5] at hF
      cases hF
      simp -dsimp [h4, q5, z6]
      repeat (refine chk.go (by first | omega | assumption | (simp_all; done) | (simp_all; omega)) ?_; simp -dsimp [h4, q5, z6])
      refine Leave.go ⟨[], []⟩ (Gh.to (by simp) (by first | (simp -dsimp; done) | (simp -dsimp [h4, q5, z6]; done) | simp_all) (by first | (simp -dsimp; done) | (simp -dsimp [h4, q5, z6]; done) | simp_all) (by first | (simp -dsimp; done) | (simp -dsimp [h4, q5, z6]; done) | simp_all)) ?_
      exact hq

theorem C.spec_WorldValid_l1 (B : Nat) (hB1 : 67108864 ≤ B) (hB2 : B ≤ 9223372036854775807) (w : List Vl.Data) (d : Nat) (o : Lo Bool Unit) (hF : F.spec_WorldValid_l1 w d = some o) : ∀ (c : Code), navO [1, 1, 0, 1, 0, 0] (bodyOf Try.f44) = some c → ∀ (Q : Exit → ASt → Prop), o.post (fun r => ∀ st, Post Try.prog Try.f44 (fun r' _ => r'.le (.lit (.bool r))) .ret st → Q .ret st) (fun s => Q (.exit 0) ⟨[], []⟩) → ALoopU Try.prog B 0 67 (hold c .mk) ⟨[(0, .arr (List.map Vl.Data.c w)), (3, .lit (.int .i64 (d : Int)))], []⟩ (hold Q .mk) :=
  (CC.spec_WorldValid_l1 B hB1 hB2 w) d o hF

set_option maxRecDepth 100000 in
set_option maxHeartbeats 400000 in
theorem C.spec_WorldValid (B : Nat) (hB1 : 67108864 ≤ B) (hB2 : B ≤ 9223372036854775807) (w : List Vl.Data) (r : Bool) (hF : F.spec_WorldValid w = some r) : PureCall Try.prog B 44 [.arr (List.map Vl.Data.c w)] (.lit (.bool r)) := by
  unfold F.spec_WorldValid at hF
  refine PureCall.enterLe Try.func44 (by kernel_rfl) rfl Try.ntmps44 (by simp) (by simp) ?_
  simp -dsimp
  repeat (refine chk.go (by first | omega | assumption | (simp_all; done) | (simp_all; omega)) ?_; simp -dsimp)
  refine abr.split (fun h1 => ?_) (fun h1 => ?_)
  · have q2 : (4 < w.length) := by first | exact h1 | omega | (simpa using h1) | (simp at h1 ⊢; omega) | simp_all
    have z3 : ((4 : Int) < (w.length : Int)) := by first | omega | simp_all
    rw [if_pos q2] at hF
    cases hF
    simp -dsimp [h1, z3]
    repeat (refine chk.go (by first | omega | assumption | (simp_all; done) | (simp_all; omega)) ?_; simp -dsimp [h1, z3])
  · have q2 : ¬ (4 < w.length) := by first | exact h1 | omega | (simpa using h1) | (simp at h1 ⊢; omega) | simp_all
    have z3 : ¬ ((4 : Int) < (w.length : Int)) := by first | omega | simp_all
    rw [if_neg q2] at hF
    simp -dsimp [h1, q2, z3]
    repeat (refine chk.go (by first | omega | assumption | (simp_all; done) | (simp_all; omega)) ?_; simp -dsimp [h1, q2, z3])
    have hF := ob hF; obtain ⟨o38, ho37, hF⟩ := hF
    refine ALoop.goU ⟨[(0, .arr (List.map Vl.Data.c w)), (3, .lit (.int .i64 (0 : Int)))], []⟩ (Gh.to (by simp) (by first | (simp -dsimp; done) | (simp -dsimp [h1, q2, z3]; done) | simp_all) (by first | (simp -dsimp; done) | (simp -dsimp [h1, q2, z3]; done) | simp_all) (by first | (simp -dsimp; done) | (simp -dsimp [h1, q2, z3]; done) | simp_all)) ?_
    refine (C.spec_WorldValid_l1 B hB1 hB2 w 0 o38 ho37) _ rfl _ ?_
    rcases o38 with r040 | s39
    · dsimp only at hF
      cases hF
      intro st h
      simpa using h
    · dsimp only at hF
      cases hF
      simp -dsimp
      repeat (refine chk.go (by first | omega | assumption | (simp_all; done) | (simp_all; omega)) ?_; simp -dsimp)

set_option maxRecDepth 100000 in
set_option maxHeartbeats 400000 in
theorem C.spec_l1Is (B : Nat) (hB1 : 67108864 ≤ B) (hB2 : B ≤ 9223372036854775807) (w : List Vl.Data) (t : Vl.Ty) (r : Bool) (hF : F.spec_l1Is w t = some r) : PureCall Try.prog B 45 [.arr (List.map Vl.Data.c w), .agg [.lit (.int .i64 t.data), .lit (.int .i64 t.index)]] (.lit (.bool r)) := by
  unfold F.spec_l1Is at hF
  refine PureCall.enterLe Try.func45 (by kernel_rfl) rfl Try.ntmps45 (by simp) (by simp) ?_
  simp -dsimp
  repeat (refine chk.go (by first | omega | assumption | (simp_all; done) | (simp_all; omega)) ?_; simp -dsimp)
  have hF := ob hF; obtain ⟨v, e1, hF⟩ := hF
  refine ((C.spec_l1Arg B hB1 hB2 (w.length : Int) t v e1)).goW (by simp) (by simp) ?_
  simp -dsimp
  repeat (refine chk.go (by first | omega | assumption | (simp_all; done) | (simp_all; omega)) ?_; simp -dsimp)
  refine abr.split (fun h2 => ?_) (fun h2 => ?_)
  · have q3 : (v = true) := by first | exact h2 | omega | (simpa using h2) | (simp at h2 ⊢; omega) | simp_all
    rw [if_pos q3] at hF
    cases hF
    simp -dsimp [h2]
    repeat (refine chk.go (by first | omega | assumption | (simp_all; done) | (simp_all; omega)) ?_; simp -dsimp [h2])
  · have q3 : ¬ (v = true) := by first | exact h2 | omega | (simpa using h2) | (simp at h2 ⊢; omega) | simp_all
    rw [if_neg q3] at hF
    cases hF
    simp -dsimp [h2, q3]
    repeat (refine chk.go (by first | omega | assumption | (simp_all; done) | (simp_all; omega)) ?_; simp -dsimp [h2, q3])

set_option maxRecDepth 100000 in
set_option maxHeartbeats 400000 in
theorem C.spec_TypeValid (B : Nat) (hB1 : 67108864 ≤ B) (hB2 : B ≤ 9223372036854775807) (w : List Vl.Data) (t : Vl.Ty) (r : Bool) (hF : F.spec_TypeValid w t = some r) : PureCall Try.prog B 25 [.arr (List.map Vl.Data.c w), .agg [.lit (.int .i64 t.data), .lit (.int .i64 t.index)]] (.lit (.bool r)) := by
  unfold F.spec_TypeValid at hF
  refine PureCall.enterLe Try.func25 (by kernel_rfl) rfl Try.ntmps25 (by simp) (by simp) ?_
  simp -dsimp
  repeat (refine chk.go (by first | omega | assumption | (simp_all; done) | (simp_all; omega)) ?_; simp -dsimp)
  have hF := ob hF; obtain ⟨v, e1, hF⟩ := hF
  refine ((C.spec_WorldValid B hB1 hB2 w v e1)).goW (by simp) (by simp) ?_
  simp -dsimp
  repeat (refine chk.go (by first | omega | assumption | (simp_all; done) | (simp_all; omega)) ?_; simp -dsimp)
  refine abr.split (fun h2 => ?_) (fun h2 => ?_)
  · have q3 : (v = true) := by first | exact h2 | omega | (simpa using h2) | (simp at h2 ⊢; omega) | simp_all
    rw [if_pos q3] at hF
    simp -dsimp [h2]
    repeat (refine chk.go (by first | omega | assumption | (simp_all; done) | (simp_all; omega)) ?_; simp -dsimp [h2])
    have hF := ob hF; obtain ⟨v4, e5, hF⟩ := hF
    refine ((C.spec_l1Is B hB1 hB2 w t v4 e5)).goW (by first | (simp; done) | (simp [h2]; done) | simp_all) (by simp) ?_
    cases hF
    simp -dsimp [h2]
    repeat (refine chk.go (by first | omega | assumption | (simp_all; done) | (simp_all; omega)) ?_; simp -dsimp [h2])
  · have q3 : ¬ (v = true) := by first | exact h2 | omega | (simpa using h2) | (simp at h2 ⊢; omega) | simp_all
    rw [if_neg q3] at hF
    cases hF
    simp -dsimp [h2, q3]
    repeat (refine chk.go (by first | omega | assumption | (simp_all; done) | (simp_all; omega)) ?_; simp -dsimp [h2, q3])

set_option maxRecDepth 100000 in
set_option maxHeartbeats 400000 in
theorem C.spec_l10Hole (B : Nat) (hB1 : 67108864 ≤ B) (hB2 : B ≤ 9223372036854775807) (v : Vl.Value) (r : Bool) (hF : F.spec_l10Hole v = some r) : PureCall Try.prog B 68 [.agg [.lit (.int .i64 v.ctor), .lit (.int .i64 v.n), .arr (List.map Vl.Value.c v.kids)]] (.lit (.bool r)) := by
  unfold F.spec_l10Hole at hF
  refine PureCall.enterLe Try.func68 (by kernel_rfl) rfl Try.ntmps68 (by simp) (by simp) ?_
  simp -dsimp
  repeat (refine chk.go (by first | omega | assumption | (simp_all; done) | (simp_all; omega)) ?_; simp -dsimp)
  refine abr.split (fun h1 => ?_) (fun h1 => ?_)
  · have q2 : (v.ctor = (-2)) := by first | exact h1 | omega | (simpa using h1) | (simp at h1 ⊢; omega) | simp_all
    rw [if_pos q2] at hF
    simp -dsimp [h1]
    repeat (refine chk.go (by first | omega | assumption | (simp_all; done) | (simp_all; omega)) ?_; simp -dsimp [h1])
    refine abr.split (fun h3 => ?_) (fun h3 => ?_)
    · have q4 : (v.n = 0) := by first | exact h3 | omega | (simpa using h3) | (simp at h3 ⊢; omega) | simp_all
      rw [if_pos q4] at hF
      cases hF
      simp -dsimp [h1, h3]
      repeat (refine chk.go (by first | omega | assumption | (simp_all; done) | (simp_all; omega)) ?_; simp -dsimp [h1, h3])
    · have q4 : ¬ (v.n = 0) := by first | exact h3 | omega | (simpa using h3) | (simp at h3 ⊢; omega) | simp_all
      rw [if_neg q4] at hF
      cases hF
      simp -dsimp [h1, h3, q4]
      repeat (refine chk.go (by first | omega | assumption | (simp_all; done) | (simp_all; omega)) ?_; simp -dsimp [h1, h3, q4])
  · have q2 : ¬ (v.ctor = (-2)) := by first | exact h1 | omega | (simpa using h1) | (simp at h1 ⊢; omega) | simp_all
    rw [if_neg q2] at hF
    cases hF
    simp -dsimp [h1, q2]
    repeat (refine chk.go (by first | omega | assumption | (simp_all; done) | (simp_all; omega)) ?_; simp -dsimp [h1, q2])

set_option maxRecDepth 100000 in
set_option maxHeartbeats 400000 in
theorem C.spec_l1Fits (B : Nat) (hB1 : 67108864 ≤ B) (hB2 : B ≤ 9223372036854775807) (c' : Vl.Ctor) (index' : Int) (r : Bool) (hF : F.spec_l1Fits c' index' = some r) : PureCall Try.prog B 84 [.agg [.lit (.string c'.name), .arr (List.map Vl.Ty.c c'.args), .lit (.int .i64 c'.index)], .lit (.int .i64 index')] (.lit (.bool r)) := by
  unfold F.spec_l1Fits at hF
  refine PureCall.enterLe Try.func84 (by kernel_rfl) rfl Try.ntmps84 (by simp) (by simp) ?_
  simp -dsimp
  repeat (refine chk.go (by first | omega | assumption | (simp_all; done) | (simp_all; omega)) ?_; simp -dsimp)
  refine abr.split (fun h1 => ?_) (fun h1 => ?_)
  · have q2 : ¬ (c'.index = 0) := by first | exact h1 | omega | (simpa using h1) | (simp at h1 ⊢; omega) | simp_all
    rw [if_neg q2] at hF
    simp -dsimp [h1, q2]
    repeat (refine chk.go (by first | omega | assumption | (simp_all; done) | (simp_all; omega)) ?_; simp -dsimp [h1, q2])
    refine abr.split (fun h3 => ?_) (fun h3 => ?_)
    · have q4 : ¬ (index' = 0) := by first | exact h3 | omega | (simpa using h3) | (simp at h3 ⊢; omega) | simp_all
      rw [if_neg q4] at hF
      cases hF
      simp -dsimp [h1, q2, h3, q4]
      repeat (refine chk.go (by first | omega | assumption | (simp_all; done) | (simp_all; omega)) ?_; simp -dsimp [h1, q2, h3, q4])
    · have q4 : (index' = 0) := by first | exact h3 | omega | (simpa using h3) | (simp at h3 ⊢; omega) | simp_all
      rw [if_pos q4] at hF
      cases hF
      simp -dsimp [h1, q2, h3, q4]
      repeat (refine chk.go (by first | omega | assumption | (simp_all; done) | (simp_all; omega)) ?_; simp -dsimp [h1, q2, h3, q4])
  · have q2 : (c'.index = 0) := by first | exact h1 | omega | (simpa using h1) | (simp at h1 ⊢; omega) | simp_all
    rw [if_pos q2] at hF
    cases hF
    simp -dsimp [h1, q2]
    repeat (refine chk.go (by first | omega | assumption | (simp_all; done) | (simp_all; omega)) ?_; simp -dsimp [h1, q2])

set_option maxRecDepth 100000 in
set_option maxHeartbeats 400000 in
theorem CC.spec_l1Ctors_l1 (B : Nat) (hB1 : 67108864 ≤ B) (hB2 : B ≤ 9223372036854775807) (w : List Vl.Data) (t : Vl.Ty) : (∀ (out : List Int) (k : Nat) (o : List Int), F.spec_l1Ctors_l1 w t out k = some o → ∀ (c : Code), navO [1, 1, 1, 0, 1, 0, 0] (bodyOf Try.f71) = some c → ∀ (Q : Exit → ASt → Prop), Q (.exit 0) ⟨[(5, .own 1 (List.length (α := Int) o))], [.dead, .elems 1 (List.map cI o)]⟩ → ALoopU Try.prog B 0 40 (hold c .mk) ⟨[(0, .arr (List.map Vl.Data.c w)), (3, .ptr 0 0), (5, .own 1 (List.length (α := Int) out)), (6, .lit (.int .i64 (k : Int)))], [.cells [.lit (.int .i64 t.data), .lit (.int .i64 t.index)], .elems 1 (List.map cI out)]⟩ (hold Q .mk)) := by
  refine F.spec_l1Ctors_l1.partial_correctness w t
    (fun out k o => ∀ (c : Code), navO [1, 1, 1, 0, 1, 0, 0] (bodyOf Try.f71) = some c → ∀ (Q : Exit → ASt → Prop), Q (.exit 0) ⟨[(5, .own 1 (List.length (α := Int) o))], [.dead, .elems 1 (List.map cI o)]⟩ → ALoopU Try.prog B 0 40 (hold c .mk) ⟨[(0, .arr (List.map Vl.Data.c w)), (3, .ptr 0 0), (5, .own 1 (List.length (α := Int) out)), (6, .lit (.int .i64 (k : Int)))], [.cells [.lit (.int .i64 t.data), .lit (.int .i64 t.index)], .elems 1 (List.map cI out)]⟩ (hold Q .mk))
    ?_
  · intro _f_spec_l1Ctors_l1 ih_spec_l1Ctors_l1 out k o hF
    intro c hc Q hq
    obtain rfl : c = _ := navEq hc rfl
    refine ALoopU.know fun hk hs => ?_
    have b0 := hk 0
    simp -dsimp at b0
    have d1 := hs 1 _ rfl
    simp -dsimp [Blk.bnd] at d1
    clear hk hs
    refine ALoopU.enter ?_
    have hF := ob hF; obtain ⟨x, e3a, hF⟩ := hF
    have e3a := at_some e3a; obtain ⟨ne3, e3⟩ := e3a
    have le3 := lt_of_get e3
    simp -dsimp [↓e3]
    repeat (refine chk.go (by first | omega | assumption | (simp_all; done) | (simp_all; omega)) ?_; simp -dsimp [↓e3])
    refine abr.split (fun h4 => ?_) (fun h4 => ?_)
    · have q5 : (k < x.ctors.length) := by first | exact h4 | omega | (simpa using h4) | (simp at h4 ⊢; omega) | simp_all
      have z6 : ((k : Int) < (x.ctors.length : Int)) := by first | omega | simp_all
      rw [if_pos q5] at hF
      simp -dsimp [↓e3, h4, z6]
      repeat (refine chk.go (by first | omega | assumption | (simp_all; done) | (simp_all; omega)) ?_; simp -dsimp [↓e3, h4, z6])
      refine ADraw.simple follows (by kernel_rfl) (by kernel_rfl) ?_
      have hF := ob hF; obtain ⟨x7, e8, hF⟩ := hF
      have le8 := lt_of_get e8
      simp -dsimp [↓e3, h4, z6, ↓e8]
      repeat (refine chk.go (by first | omega | assumption | (simp_all; done) | (simp_all; omega)) ?_; simp -dsimp [↓e3, h4, z6, ↓e8])
      have hF := ob hF; obtain ⟨v, e9, hF⟩ := hF
      refine ((C.spec_l1Fits B hB1 hB2 x7 t.index v e9)).pgoW (by first | (simp; done) | (simp [↓e3, h4, z6, ↓e8]; done) | simp_all) (by simp) ?_
      simp -dsimp [↓e3, h4, z6, ↓e8]
      repeat (refine chk.go (by first | omega | assumption | (simp_all; done) | (simp_all; omega)) ?_; simp -dsimp [↓e3, h4, z6, ↓e8])
      refine abr.split (fun h10 => ?_) (fun h10 => ?_)
      · have q11 : (v = true) := by first | exact h10 | omega | (simpa using h10) | (simp at h10 ⊢; omega) | simp_all
        rw [if_pos q11] at hF
        have hF := oc hF; obtain ⟨c12, hF⟩ := hF
        have hF := oc hF; obtain ⟨c13, hF⟩ := hF
        have w14 : IntKind.i64.wrap ((k : Int) + 1) = (k : Int) + 1 := wrap_in (by omega) (by omega)
        simp -dsimp [↓e3, h4, z6, ↓e8, h10, w14]
        repeat (refine chk.go (by first | omega | assumption | (simp_all; done) | (simp_all; omega)) ?_; simp -dsimp [↓e3, h4, z6, ↓e8, h10, w14])
        refine Again.go ⟨[(0, .arr (List.map Vl.Data.c w)), (3, .ptr 0 0), (5, .own 1 (List.length (α := Int) (out ++ [(k : Int)]))), (6, .lit (.int .i64 ((k + 1) : Int)))], [.cells [.lit (.int .i64 t.data), .lit (.int .i64 t.index)], .elems 1 (List.map cI (out ++ [(k : Int)]))]⟩ (Gh.to (by simp) (by first | (simp -dsimp; done) | (simp -dsimp [↓e3, h4, z6, ↓e8, h10, w14]; done) | simp_all) (by first | (simp -dsimp; done) | (simp -dsimp [↓e3, h4, z6, ↓e8, h10, w14]; done) | simp_all) (by first | (simp -dsimp; done) | (simp -dsimp [↓e3, h4, z6, ↓e8, h10, w14]; done) | simp_all)) ?_
        exact (ih_spec_l1Ctors_l1 (out ++ [(k : Int)]) (k + 1) o hF) _ rfl _ hq
      · have q11 : ¬ (v = true) := by first | exact h10 | omega | (simpa using h10) | (simp at h10 ⊢; omega) | simp_all
        rw [if_neg q11] at hF
        have hF := oc hF; obtain ⟨c15, hF⟩ := hF
        have w16 : IntKind.i64.wrap ((k : Int) + 1) = (k : Int) + 1 := wrap_in (by omega) (by omega)
        simp -dsimp [↓e3, h4, z6, ↓e8, h10, q11, w16]
        repeat (refine chk.go (by first | omega | assumption | (simp_all; done) | (simp_all; omega)) ?_; simp -dsimp [↓e3, h4, z6, ↓e8, h10, q11, w16])
        refine Again.go ⟨[(0, .arr (List.map Vl.Data.c w)), (3, .ptr 0 0), (5, .own 1 (List.length (α := Int) out)), (6, .lit (.int .i64 ((k + 1) : Int)))], [.cells [.lit (.int .i64 t.data), .lit (.int .i64 t.index)], .elems 1 (List.map cI out)]⟩ (Gh.to (by simp) (by first | (simp -dsimp; done) | (simp -dsimp [↓e3, h4, z6, ↓e8, h10, q11, w16]; done) | simp_all) (by first | (simp -dsimp; done) | (simp -dsimp [↓e3, h4, z6, ↓e8, h10, q11, w16]; done) | simp_all) (by first | (simp -dsimp; done) | (simp -dsimp [↓e3, h4, z6, ↓e8, h10, q11, w16]; done) | simp_all)) ?_
        exact (ih_spec_l1Ctors_l1 out (k + 1) o hF) _ rfl _ hq
    · have q5 : ¬ (k < x.ctors.length) := by first | exact h4 | omega | (simpa using h4) | (simp at h4 ⊢; omega) | simp_all
      have z6 : ¬ ((k : Int) < (x.ctors.length : Int)) := by first | omega | simp_all
      rw [if_neg q5] at hF
      cases hF
      simp -dsimp [↓e3, h4, q5, z6]
      repeat (refine chk.go (by first | omega | assumption | (simp_all; done) | (simp_all; omega)) ?_; simp -dsimp [↓e3, h4, q5, z6])
      refine Leave.go ⟨[(5, .own 1 (List.length (α := Int) out))], [.dead, .elems 1 (List.map cI out)]⟩ (Gh.to (by simp) (by first | (simp -dsimp; done) | (simp -dsimp [↓e3, h4, q5, z6]; done) | simp_all) (by first | (simp -dsimp; done) | (simp -dsimp [↓e3, h4, q5, z6]; done) | simp_all) (by first | (simp -dsimp; done) | (simp -dsimp [↓e3, h4, q5, z6]; done) | simp_all)) ?_
      exact hq

theorem C.spec_l1Ctors_l1 (B : Nat) (hB1 : 67108864 ≤ B) (hB2 : B ≤ 9223372036854775807) (w : List Vl.Data) (t : Vl.Ty) (out : List Int) (k : Nat) (o : List Int) (hF : F.spec_l1Ctors_l1 w t out k = some o) : ∀ (c : Code), navO [1, 1, 1, 0, 1, 0, 0] (bodyOf Try.f71) = some c → ∀ (Q : Exit → ASt → Prop), Q (.exit 0) ⟨[(5, .own 1 (List.length (α := Int) o))], [.dead, .elems 1 (List.map cI o)]⟩ → ALoopU Try.prog B 0 40 (hold c .mk) ⟨[(0, .arr (List.map Vl.Data.c w)), (3, .ptr 0 0), (5, .own 1 (List.length (α := Int) out)), (6, .lit (.int .i64 (k : Int)))], [.cells [.lit (.int .i64 t.data), .lit (.int .i64 t.index)], .elems 1 (List.map cI out)]⟩ (hold Q .mk) :=
  (CC.spec_l1Ctors_l1 B hB1 hB2 w t) out k o hF

set_option maxRecDepth 100000 in
set_option maxHeartbeats 400000 in
theorem C.spec_l1Ctors (B : Nat) (hB1 : 67108864 ≤ B) (hB2 : B ≤ 9223372036854775807) (w : List Vl.Data) (t : Vl.Ty) (r : List Int) (hF : F.spec_l1Ctors w t = some r) : PureCall Try.prog B 71 [.arr (List.map Vl.Data.c w), .agg [.lit (.int .i64 t.data), .lit (.int .i64 t.index)]] (.arr (List.map cI r)) := by
  unfold F.spec_l1Ctors at hF
  refine PureCall.enterLe Try.func71 (by kernel_rfl) rfl Try.ntmps71 (by simp) (by simp) ?_
  simp -dsimp
  repeat (refine chk.go (by first | omega | assumption | (simp_all; done) | (simp_all; omega)) ?_; simp -dsimp)
  refine abr.split (fun h1 => ?_) (fun h1 => ?_)
  · have q2 : (t.data = (-1)) := by first | exact h1 | omega | (simpa using h1) | (simp at h1 ⊢; omega) | simp_all
    rw [if_pos q2] at hF
    cases hF
    simp -dsimp [h1]
    repeat (refine chk.go (by first | omega | assumption | (simp_all; done) | (simp_all; omega)) ?_; simp -dsimp [h1])
  · have q2 : ¬ (t.data = (-1)) := by first | exact h1 | omega | (simpa using h1) | (simp at h1 ⊢; omega) | simp_all
    rw [if_neg q2] at hF
    simp -dsimp [h1, q2]
    repeat (refine chk.go (by first | omega | assumption | (simp_all; done) | (simp_all; omega)) ?_; simp -dsimp [h1, q2])
    have hF := ob hF; obtain ⟨o, ho17, hF⟩ := hF
    refine ALoop.goU ⟨[(0, .arr (List.map Vl.Data.c w)), (3, .ptr 0 0), (5, .own 1 (List.length (α := Int) [])), (6, .lit (.int .i64 (0 : Int)))], [.cells [.lit (.int .i64 t.data), .lit (.int .i64 t.index)], .elems 1 (List.map cI [])]⟩ (Gh.to (by simp) (by first | (simp -dsimp; done) | (simp -dsimp [h1, q2]; done) | simp_all) (by first | (simp -dsimp; done) | (simp -dsimp [h1, q2]; done) | simp_all) (by first | (simp -dsimp; done) | (simp -dsimp [h1, q2]; done) | simp_all)) ?_
    refine (C.spec_l1Ctors_l1 B hB1 hB2 w t [] 0 o ho17) _ rfl _ ?_
    cases hF
    simp -dsimp
    repeat (refine chk.go (by first | omega | assumption | (simp_all; done) | (simp_all; omega)) ?_; simp -dsimp)

set_option maxRecDepth 100000 in
set_option maxHeartbeats 400000 in
theorem CC.spec_l1Has_l1 (B : Nat) (hB1 : 67108864 ≤ B) (hB2 : B ≤ 9223372036854775807) (list : List Int) (n : Int) : (∀ (i : Nat) (o : Lo Bool Unit), F.spec_l1Has_l1 list n i = some o → ∀ (c : Code), navO [1, 0, 1, 0, 0] (bodyOf Try.f70) = some c → ∀ (Q : Exit → ASt → Prop), o.post (fun r => ∀ st, Post Try.prog Try.f70 (fun r' _ => r'.le (.lit (.bool r))) .ret st → Q .ret st) (fun s => Q (.exit 0) ⟨[], []⟩) → ALoopU Try.prog B 0 18 (hold c .mk) ⟨[(0, .arr (List.map cI list)), (1, .lit (.int .i64 n)), (5, .lit (.int .i64 (i : Int)))], []⟩ (hold Q .mk)) := by
  refine F.spec_l1Has_l1.partial_correctness list n
    (fun i o => ∀ (c : Code), navO [1, 0, 1, 0, 0] (bodyOf Try.f70) = some c → ∀ (Q : Exit → ASt → Prop), o.post (fun r => ∀ st, Post Try.prog Try.f70 (fun r' _ => r'.le (.lit (.bool r))) .ret st → Q .ret st) (fun s => Q (.exit 0) ⟨[], []⟩) → ALoopU Try.prog B 0 18 (hold c .mk) ⟨[(0, .arr (List.map cI list)), (1, .lit (.int .i64 n)), (5, .lit (.int .i64 (i : Int)))], []⟩ (hold Q .mk))
    ?_
  · intro _f_spec_l1Has_l1 ih_spec_l1Has_l1 i o hF
    intro c hc Q hq
    obtain rfl : c = _ := navEq hc rfl
    refine ALoopU.know fun hk hs => ?_
    have b0 := hk 0
    simp -dsimp at b0
    clear hk hs
    refine ALoopU.enter ?_
    simp -dsimp
    repeat (refine chk.go (by first | omega | assumption | (simp_all; done) | (simp_all; omega)) ?_; simp -dsimp)
    refine abr.split (fun h1 => ?_) (fun h1 => ?_)
    · have q2 : (i < list.length) := by first | exact h1 | omega | (simpa using h1) | (simp at h1 ⊢; omega) | simp_all
      have z3 : ((i : Int) < (list.length : Int)) := by first | omega | simp_all
      rw [if_pos q2] at hF
      have hF := ob hF; obtain ⟨x, e4, hF⟩ := hF
      have le4 := lt_of_get e4
      simp -dsimp [h1, z3, ↓e4]
      repeat (refine chk.go (by first | omega | assumption | (simp_all; done) | (simp_all; omega)) ?_; simp -dsimp [h1, z3, ↓e4])
      refine abr.split (fun h5 => ?_) (fun h5 => ?_)
      · have q6 : (x = n) := by first | exact h5 | omega | (simpa using h5) | (simp at h5 ⊢; omega) | simp_all
        rw [if_pos q6] at hF
        cases hF
        simp -dsimp [h1, z3, ↓e4, h5]
        repeat (refine chk.go (by first | omega | assumption | (simp_all; done) | (simp_all; omega)) ?_; simp -dsimp [h1, z3, ↓e4, h5])
        refine Leave.go _ (Gh.refl _) (hq _ ?_)
        simp -dsimp [h1, z3, ↓e4, h5]
        repeat (refine chk.go (by first | omega | assumption | (simp_all; done) | (simp_all; omega)) ?_; simp -dsimp [h1, z3, ↓e4, h5])
      · have q6 : ¬ (x = n) := by first | exact h5 | omega | (simpa using h5) | (simp at h5 ⊢; omega) | simp_all
        rw [if_neg q6] at hF
        have w7 : IntKind.i64.wrap ((i : Int) + 1) = (i : Int) + 1 := wrap_in (by omega) (by omega)
        simp -dsimp [h1, z3, ↓e4, h5, q6, w7]
        repeat (refine chk.go (by first | omega | assumption | (simp_all; done) | (simp_all; omega)) ?_; simp -dsimp [h1, z3, ↓e4, h5, q6, w7])
        refine Again.go ⟨[(0, .arr (List.map cI list)), (1, .lit (.int .i64 n)), (5, .lit (.int .i64 ((i + 1) : Int)))], []⟩ (Gh.to (by simp) (by first | (simp -dsimp; done) | (simp -dsimp [h1, z3, ↓e4, h5, q6, w7]; done) | simp_all) (by first | (simp -dsimp; done) | (simp -dsimp [h1, z3, ↓e4, h5, q6, w7]; done) | simp_all) (by first | (simp -dsimp; done) | (simp -dsimp [h1, z3, ↓e4, h5, q6, w7]; done) | simp_all)) ?_
        exact (ih_spec_l1Has_l1 (i + 1) o hF) _ rfl _ hq
    · have q2 : ¬ (i < list.length) := by first | exact h1 | omega | (simpa using h1) | (simp at h1 ⊢; omega) | simp_all
      have z3 : ¬ ((i : Int) < (list.length : Int)) := by first | omega | simp_all
      rw [if_neg q2] at hF
      cases hF
      simp -dsimp [h1, q2, z3]
      repeat (refine chk.go (by first | omega | assumption | (simp_all; done) | (simp_all; omega)) ?_; simp -dsimp [h1, q2, z3])
      refine Leave.go ⟨[], []⟩ (Gh.to (by simp) (by first | (simp -dsimp; done) | (simp -dsimp [h1, q2, z3]; done) | simp_all) (by first | (simp -dsimp; done) | (simp -dsimp [h1, q2, z3]; done) | simp_all) (by first | (simp -dsimp; done) | (simp -dsimp [h1, q2, z3]; done) | simp_all)) ?_
      exact hq

theorem C.spec_l1Has_l1 (B : Nat) (hB1 : 67108864 ≤ B) (hB2 : B ≤ 9223372036854775807) (list : List Int) (n : Int) (i : Nat) (o : Lo Bool Unit) (hF : F.spec_l1Has_l1 list n i = some o) : ∀ (c : Code), navO [1, 0, 1, 0, 0] (bodyOf Try.f70) = some c → ∀ (Q : Exit → ASt → Prop), o.post (fun r => ∀ st, Post Try.prog Try.f70 (fun r' _ => r'.le (.lit (.bool r))) .ret st → Q .ret st) (fun s => Q (.exit 0) ⟨[], []⟩) → ALoopU Try.prog B 0 18 (hold c .mk) ⟨[(0, .arr (List.map cI list)), (1, .lit (.int .i64 n)), (5, .lit (.int .i64 (i : Int)))], []⟩ (hold Q .mk) :=
  (CC.spec_l1Has_l1 B hB1 hB2 list n) i o hF

set_option maxRecDepth 100000 in
set_option maxHeartbeats 400000 in
theorem C.spec_l1Has (B : Nat) (hB1 : 67108864 ≤ B) (hB2 : B ≤ 9223372036854775807) (list : List Int) (n : Int) (r : Bool) (hF : F.spec_l1Has list n = some r) : PureCall Try.prog B 70 [.arr (List.map cI list), .lit (.int .i64 n)] (.lit (.bool r)) := by
  unfold F.spec_l1Has at hF
  refine PureCall.enterLe Try.func70 (by kernel_rfl) rfl Try.ntmps70 (by simp) (by simp) ?_
  simp -dsimp
  repeat (refine chk.go (by first | omega | assumption | (simp_all; done) | (simp_all; omega)) ?_; simp -dsimp)
  have hF := ob hF; obtain ⟨o, ho8, hF⟩ := hF
  refine ALoop.goU ⟨[(0, .arr (List.map cI list)), (1, .lit (.int .i64 n)), (5, .lit (.int .i64 (0 : Int)))], []⟩ (Gh.to (by simp) (by simp -dsimp) (by simp -dsimp) (by simp -dsimp)) ?_
  refine (C.spec_l1Has_l1 B hB1 hB2 list n 0 o ho8) _ rfl _ ?_
  rcases o with r0 | s
  · dsimp only at hF
    cases hF
    intro st h
    simpa using h
  · dsimp only at hF
    cases hF
    simp -dsimp
    repeat (refine chk.go (by first | omega | assumption | (simp_all; done) | (simp_all; omega)) ?_; simp -dsimp)

set_option maxRecDepth 100000 in
set_option maxHeartbeats 400000 in
theorem C.spec_l1Result (B : Nat) (hB1 : 67108864 ≤ B) (hB2 : B ≤ 9223372036854775807) (c' : Vl.Ctor) (index' : Int) (r : Int) (hF : F.spec_l1Result c' index' = some r) : PureCall Try.prog B 85 [.agg [.lit (.string c'.name), .arr (List.map Vl.Ty.c c'.args), .lit (.int .i64 c'.index)], .lit (.int .i64 index')] (.lit (.int .i64 r)) := by
  unfold F.spec_l1Result at hF
  refine PureCall.enterLe Try.func85 (by kernel_rfl) rfl Try.ntmps85 (by simp) (by simp) ?_
  simp -dsimp
  repeat (refine chk.go (by first | omega | assumption | (simp_all; done) | (simp_all; omega)) ?_; simp -dsimp)
  refine abr.split (fun h1 => ?_) (fun h1 => ?_)
  · have q2 : (c'.index = 0) := by first | exact h1 | omega | (simpa using h1) | (simp at h1 ⊢; omega) | simp_all
    rw [if_pos q2] at hF
    cases hF
    simp -dsimp [h1]
    repeat (refine chk.go (by first | omega | assumption | (simp_all; done) | (simp_all; omega)) ?_; simp -dsimp [h1])
  · have q2 : ¬ (c'.index = 0) := by first | exact h1 | omega | (simpa using h1) | (simp at h1 ⊢; omega) | simp_all
    rw [if_neg q2] at hF
    cases hF
    simp -dsimp [h1, q2]
    repeat (refine chk.go (by first | omega | assumption | (simp_all; done) | (simp_all; omega)) ?_; simp -dsimp [h1, q2])

set_option maxRecDepth 100000 in
set_option maxHeartbeats 400000 in
theorem CC.spec_l1Args_l1 (B : Nat) (hB1 : 67108864 ≤ B) (hB2 : B ≤ 9223372036854775807) (t : Vl.Ty) (x2 : Vl.Ctor) : (∀ (out : List Vl.Ty) (i : Nat) (o : List Vl.Ty), F.spec_l1Args_l1 t x2 out i = some o → ∀ (c : Code), navO [1, 1, 1, 0, 1, 0, 0] (bodyOf Try.f72) = some c → ∀ (Q : Exit → ASt → Prop), Q (.exit 0) ⟨[(7, .own 1 (List.length (α := Vl.Ty) o))], [.dead, .elems 2 (List.map Vl.Ty.c o)]⟩ → ALoopU Try.prog B 0 46 (hold c .mk) ⟨[(4, .ptr 0 0), (7, .own 1 (List.length (α := Vl.Ty) out)), (8, .ptr 2 0), (9, .lit (.int .i64 (i : Int)))], [.cells [.lit (.int .i64 t.data), .lit (.int .i64 t.index)], .elems 2 (List.map Vl.Ty.c out), .cells [.lit (.string x2.name), .arr (List.map Vl.Ty.c x2.args), .lit (.int .i64 x2.index)]]⟩ (hold Q .mk)) := by
  refine F.spec_l1Args_l1.partial_correctness t x2
    (fun out i o => ∀ (c : Code), navO [1, 1, 1, 0, 1, 0, 0] (bodyOf Try.f72) = some c → ∀ (Q : Exit → ASt → Prop), Q (.exit 0) ⟨[(7, .own 1 (List.length (α := Vl.Ty) o))], [.dead, .elems 2 (List.map Vl.Ty.c o)]⟩ → ALoopU Try.prog B 0 46 (hold c .mk) ⟨[(4, .ptr 0 0), (7, .own 1 (List.length (α := Vl.Ty) out)), (8, .ptr 2 0), (9, .lit (.int .i64 (i : Int)))], [.cells [.lit (.int .i64 t.data), .lit (.int .i64 t.index)], .elems 2 (List.map Vl.Ty.c out), .cells [.lit (.string x2.name), .arr (List.map Vl.Ty.c x2.args), .lit (.int .i64 x2.index)]]⟩ (hold Q .mk))
    ?_
  · intro _f_spec_l1Args_l1 ih_spec_l1Args_l1 out i o hF
    intro c hc Q hq
    obtain rfl : c = _ := navEq hc rfl
    refine ALoopU.know fun hk hs => ?_
    have d1 := hs 1 _ rfl
    simp -dsimp [Blk.bnd] at d1
    have d2 := hs 2 _ rfl
    simp -dsimp [Blk.bnd] at d2
    clear hk hs
    refine ALoopU.enter ?_
    simp -dsimp
    repeat (refine chk.go (by first | omega | assumption | (simp_all; done) | (simp_all; omega)) ?_; simp -dsimp)
    refine abr.split (fun h4 => ?_) (fun h4 => ?_)
    · have q5 : (i < x2.args.length) := by first | exact h4 | omega | (simpa using h4) | (simp at h4 ⊢; omega) | simp_all
      have z6 : ((i : Int) < (x2.args.length : Int)) := by first | omega | simp_all
      rw [if_pos q5] at hF
      have hF := ob hF; obtain ⟨x7, e8, hF⟩ := hF
      have le8 := lt_of_get e8
      simp -dsimp [h4, z6, ↓e8]
      repeat (refine chk.go (by first | omega | assumption | (simp_all; done) | (simp_all; omega)) ?_; simp -dsimp [h4, z6, ↓e8])
      refine abr.split (fun h9 => ?_) (fun h9 => ?_)
      · have q10 : (x7.index = (-1)) := by first | exact h9 | omega | (simpa using h9) | (simp at h9 ⊢; omega) | simp_all
        rw [if_pos q10] at hF
        simp -dsimp [h4, z6, ↓e8, h9]
        repeat (refine chk.go (by first | omega | assumption | (simp_all; done) | (simp_all; omega)) ?_; simp -dsimp [h4, z6, ↓e8, h9])
        have hF := ob hF; obtain ⟨v, e11, hF⟩ := hF
        refine ((C.spec_l1Result B hB1 hB2 x2 t.index v e11)).goW (by first | (simp; done) | (simp [h4, z6, ↓e8, h9]; done) | simp_all) (by simp) ?_
        have hF := oc hF; obtain ⟨c12, hF⟩ := hF
        have w13 : IntKind.i64.wrap ((i : Int) + 1) = (i : Int) + 1 := wrap_in (by omega) (by omega)
        simp -dsimp [h4, z6, ↓e8, h9, w13]
        repeat (refine chk.go (by first | omega | assumption | (simp_all; done) | (simp_all; omega)) ?_; simp -dsimp [h4, z6, ↓e8, h9, w13])
        refine Again.go ⟨[(4, .ptr 0 0), (7, .own 1 (List.length (α := Vl.Ty) (out ++ [(⟨x7.data, v⟩ : Vl.Ty)]))), (8, .ptr 2 0), (9, .lit (.int .i64 ((i + 1) : Int)))], [.cells [.lit (.int .i64 t.data), .lit (.int .i64 t.index)], .elems 2 (List.map Vl.Ty.c (out ++ [(⟨x7.data, v⟩ : Vl.Ty)])), .cells [.lit (.string x2.name), .arr (List.map Vl.Ty.c x2.args), .lit (.int .i64 x2.index)]]⟩ (Gh.to (by simp) (by first | (simp -dsimp; done) | (simp -dsimp [h4, z6, ↓e8, h9, w13]; done) | simp_all) (by first | (simp -dsimp; done) | (simp -dsimp [h4, z6, ↓e8, h9, w13]; done) | simp_all) (by first | (simp -dsimp; done) | (simp -dsimp [h4, z6, ↓e8, h9, w13]; done) | simp_all)) ?_
        exact (ih_spec_l1Args_l1 (out ++ [(⟨x7.data, v⟩ : Vl.Ty)]) (i + 1) o hF) _ rfl _ hq
      · have q10 : ¬ (x7.index = (-1)) := by first | exact h9 | omega | (simpa using h9) | (simp at h9 ⊢; omega) | simp_all
        rw [if_neg q10] at hF
        have hF := oc hF; obtain ⟨c14, hF⟩ := hF
        have w15 : IntKind.i64.wrap ((i : Int) + 1) = (i : Int) + 1 := wrap_in (by omega) (by omega)
        simp -dsimp [h4, z6, ↓e8, h9, q10, w15]
        repeat (refine chk.go (by first | omega | assumption | (simp_all; done) | (simp_all; omega)) ?_; simp -dsimp [h4, z6, ↓e8, h9, q10, w15])
        refine Again.go ⟨[(4, .ptr 0 0), (7, .own 1 (List.length (α := Vl.Ty) (out ++ [x7]))), (8, .ptr 2 0), (9, .lit (.int .i64 ((i + 1) : Int)))], [.cells [.lit (.int .i64 t.data), .lit (.int .i64 t.index)], .elems 2 (List.map Vl.Ty.c (out ++ [x7])), .cells [.lit (.string x2.name), .arr (List.map Vl.Ty.c x2.args), .lit (.int .i64 x2.index)]]⟩ (Gh.to (by simp) (by first | (simp -dsimp; done) | (simp -dsimp [h4, z6, ↓e8, h9, q10, w15]; done) | simp_all) (by first | (simp -dsimp; done) | (simp -dsimp [h4, z6, ↓e8, h9, q10, w15]; done) | simp_all) (by first | (simp -dsimp; done) | (simp -dsimp [h4, z6, ↓e8, h9, q10, w15]; done) | simp_all)) ?_
        exact (ih_spec_l1Args_l1 (out ++ [x7]) (i + 1) o hF) _ rfl _ hq
    · have q5 : ¬ (i < x2.args.length) := by first | exact h4 | omega | (simpa using h4) | (simp at h4 ⊢; omega) | simp_all
      have z6 : ¬ ((i : Int) < (x2.args.length : Int)) := by first | omega | simp_all
      rw [if_neg q5] at hF
      cases hF
      simp -dsimp [h4, q5, z6]
      repeat (refine chk.go (by first | omega | assumption | (simp_all; done) | (simp_all; omega)) ?_; simp -dsimp [h4, q5, z6])
      refine Leave.go ⟨[(7, .own 1 (List.length (α := Vl.Ty) out))], [.dead, .elems 2 (List.map Vl.Ty.c out)]⟩ (Gh.to (by simp) (by first | (simp -dsimp; done) | (simp -dsimp [h4, q5, z6]; done) | simp_all) (by first | (simp -dsimp; done) | (simp -dsimp [h4, q5, z6]; done) | simp_all) (by first | (simp -dsimp; done) | (simp -dsimp [h4, q5, z6]; done) | simp_all)) ?_
      exact hq

theorem C.spec_l1Args_l1 (B : Nat) (hB1 : 67108864 ≤ B) (hB2 : B ≤ 9223372036854775807) (t : Vl.Ty) (x2 : Vl.Ctor) (out : List Vl.Ty) (i : Nat) (o : List Vl.Ty) (hF : F.spec_l1Args_l1 t x2 out i = some o) : ∀ (c : Code), navO [1, 1, 1, 0, 1, 0, 0] (bodyOf Try.f72) = some c → ∀ (Q : Exit → ASt → Prop), Q (.exit 0) ⟨[(7, .own 1 (List.length (α := Vl.Ty) o))], [.dead, .elems 2 (List.map Vl.Ty.c o)]⟩ → ALoopU Try.prog B 0 46 (hold c .mk) ⟨[(4, .ptr 0 0), (7, .own 1 (List.length (α := Vl.Ty) out)), (8, .ptr 2 0), (9, .lit (.int .i64 (i : Int)))], [.cells [.lit (.int .i64 t.data), .lit (.int .i64 t.index)], .elems 2 (List.map Vl.Ty.c out), .cells [.lit (.string x2.name), .arr (List.map Vl.Ty.c x2.args), .lit (.int .i64 x2.index)]]⟩ (hold Q .mk) :=
  (CC.spec_l1Args_l1 B hB1 hB2 t x2) out i o hF

set_option maxRecDepth 100000 in
set_option maxHeartbeats 400000 in
theorem C.spec_l1Args (B : Nat) (hB1 : 67108864 ≤ B) (hB2 : B ≤ 9223372036854775807) (w : List Vl.Data) (t : Vl.Ty) (ctor : Int) (r : List Vl.Ty) (hF : F.spec_l1Args w t ctor = some r) : PureCall Try.prog B 72 [.arr (List.map Vl.Data.c w), .agg [.lit (.int .i64 t.data), .lit (.int .i64 t.index)], .lit (.int .i64 ctor)] (.arr (List.map Vl.Ty.c r)) := by
  unfold F.spec_l1Args at hF
  refine PureCall.enterLe Try.func72 (by kernel_rfl) rfl Try.ntmps72 (by simp) (by simp) ?_
  have hF := ob hF; obtain ⟨x, e1a, hF⟩ := hF
  have e1a := at_some e1a; obtain ⟨ne1, e1⟩ := e1a
  have le1 := lt_of_get e1
  have hF := ob hF; obtain ⟨x2, e3a, hF⟩ := hF
  have e3a := at_some e3a; obtain ⟨ne3, e3⟩ := e3a
  have le3 := lt_of_get e3
  simp -dsimp [↓e1, ↓e3]
  repeat (refine chk.go (by first | omega | assumption | (simp_all; done) | (simp_all; omega)) ?_; simp -dsimp [↓e1, ↓e3])
  have hF := ob hF; obtain ⟨o, ho16, hF⟩ := hF
  refine ALoop.goU ⟨[(4, .ptr 0 0), (7, .own 1 (List.length (α := Vl.Ty) [])), (8, .ptr 2 0), (9, .lit (.int .i64 (0 : Int)))], [.cells [.lit (.int .i64 t.data), .lit (.int .i64 t.index)], .elems 2 (List.map Vl.Ty.c []), .cells [.lit (.string x2.name), .arr (List.map Vl.Ty.c x2.args), .lit (.int .i64 x2.index)]]⟩ (Gh.to (by simp) (by first | (simp -dsimp; done) | (simp -dsimp [↓e1, ↓e3]; done) | simp_all) (by first | (simp -dsimp; done) | (simp -dsimp [↓e1, ↓e3]; done) | simp_all) (by first | (simp -dsimp; done) | (simp -dsimp [↓e1, ↓e3]; done) | simp_all)) ?_
  refine (C.spec_l1Args_l1 B hB1 hB2 t x2 [] 0 o ho16) _ rfl _ ?_
  cases hF
  simp -dsimp
  repeat (refine chk.go (by first | omega | assumption | (simp_all; done) | (simp_all; omega)) ?_; simp -dsimp)

set_option maxRecDepth 100000 in
set_option maxHeartbeats 400000 in
theorem CC.spec_l2Fits (B : Nat) (hB1 : 67108864 ≤ B) (hB2 : B ≤ 9223372036854775807) (w : List Vl.Data) : (∀ (t : Vl.Ty) (v : Vl.Value) (depth : Int) (r : Bool), F.spec_l2Fits w t v depth = some r → PureCall Try.prog B 69 [.arr (List.map Vl.Data.c w), .agg [.lit (.int .i64 t.data), .lit (.int .i64 t.index)], .agg [.lit (.int .i64 v.ctor), .lit (.int .i64 v.n), .arr (List.map Vl.Value.c v.kids)], .lit (.int .i64 depth)] (.lit (.bool r))) ∧
    (∀ (v : Vl.Value) (depth : Int) (v19 : List Vl.Ty) (i : Nat) (o : Lo Bool Unit), F.spec_l2Fits_l1 w v depth v19 i = some o → ∀ (c : Code), navO [1, 1, 1, 1, 1, 1, 0, 1, 0, 0] (bodyOf Try.f69) = some c → ∀ (Q : Exit → ASt → Prop), o.post (fun r => ∀ st, Post Try.prog Try.f69 (fun r' _ => r'.le (.lit (.bool r))) .ret st → Q .ret st) (fun s => Q (.exit 0) ⟨[], []⟩) → ALoopU Try.prog B 0 78 (hold c .mk) ⟨[(0, .arr (List.map Vl.Data.c w)), (3, .lit (.int .i64 depth)), (6, .ptr 1 0), (9, .arr (List.map Vl.Ty.c v19)), (10, .lit (.int .i64 (i : Int)))], [.dead, .cells [.lit (.int .i64 v.ctor), .lit (.int .i64 v.n), .arr (List.map Vl.Value.c v.kids)]]⟩ (hold Q .mk)) := by
  refine F.spec_l2Fits.mutual_partial_correctness w
    (fun t v depth r => PureCall Try.prog B 69 [.arr (List.map Vl.Data.c w), .agg [.lit (.int .i64 t.data), .lit (.int .i64 t.index)], .agg [.lit (.int .i64 v.ctor), .lit (.int .i64 v.n), .arr (List.map Vl.Value.c v.kids)], .lit (.int .i64 depth)] (.lit (.bool r)))
    (fun v depth v19 i o => ∀ (c : Code), navO [1, 1, 1, 1, 1, 1, 0, 1, 0, 0] (bodyOf Try.f69) = some c → ∀ (Q : Exit → ASt → Prop), o.post (fun r => ∀ st, Post Try.prog Try.f69 (fun r' _ => r'.le (.lit (.bool r))) .ret st → Q .ret st) (fun s => Q (.exit 0) ⟨[], []⟩) → ALoopU Try.prog B 0 78 (hold c .mk) ⟨[(0, .arr (List.map Vl.Data.c w)), (3, .lit (.int .i64 depth)), (6, .ptr 1 0), (9, .arr (List.map Vl.Ty.c v19)), (10, .lit (.int .i64 (i : Int)))], [.dead, .cells [.lit (.int .i64 v.ctor), .lit (.int .i64 v.n), .arr (List.map Vl.Value.c v.kids)]]⟩ (hold Q .mk))
    ?_ ?_
  · intro _f_spec_l2Fits_l1 ih_spec_l2Fits_l1 t v depth r hF
    refine PureCall.enterLe Try.func69 (by kernel_rfl) rfl Try.ntmps69 (by simp) (by simp) ?_
    simp -dsimp
    repeat (refine chk.go (by first | omega | assumption | (simp_all; done) | (simp_all; omega)) ?_; simp -dsimp)
    refine abr.split (fun h1 => ?_) (fun h1 => ?_)
    · have q2 : (depth < 1) := by first | exact h1 | omega | (simpa using h1) | (simp at h1 ⊢; omega) | simp_all
      rw [if_pos q2] at hF
      cases hF
      simp -dsimp [h1]
      repeat (refine chk.go (by first | omega | assumption | (simp_all; done) | (simp_all; omega)) ?_; simp -dsimp [h1])
    · have q2 : ¬ (depth < 1) := by first | exact h1 | omega | (simpa using h1) | (simp at h1 ⊢; omega) | simp_all
      rw [if_neg q2] at hF
      simp -dsimp [h1, q2]
      repeat (refine chk.go (by first | omega | assumption | (simp_all; done) | (simp_all; omega)) ?_; simp -dsimp [h1, q2])
      refine abr.split (fun h3 => ?_) (fun h3 => ?_)
      · have q4 : (t.data = (-1)) := by first | exact h3 | omega | (simpa using h3) | (simp at h3 ⊢; omega) | simp_all
        rw [if_pos q4] at hF
        simp -dsimp [h1, q2, h3]
        repeat (refine chk.go (by first | omega | assumption | (simp_all; done) | (simp_all; omega)) ?_; simp -dsimp [h1, q2, h3])
        refine abr.split (fun h5 => ?_) (fun h5 => ?_)
        · have q6 : (v.ctor = (-1)) := by first | exact h5 | omega | (simpa using h5) | (simp at h5 ⊢; omega) | simp_all
          rw [if_pos q6] at hF
          simp -dsimp [h1, q2, h3, h5]
          repeat (refine chk.go (by first | omega | assumption | (simp_all; done) | (simp_all; omega)) ?_; simp -dsimp [h1, q2, h3, h5])
          refine abr.split (fun h7 => ?_) (fun h7 => ?_)
          · have q8 : (0 ≤ v.n) := by first | exact h7 | omega | (simpa using h7) | (simp at h7 ⊢; omega) | simp_all
            rw [if_pos q8] at hF
            simp -dsimp [h1, q2, h3, h5, h7]
            repeat (refine chk.go (by first | omega | assumption | (simp_all; done) | (simp_all; omega)) ?_; simp -dsimp [h1, q2, h3, h5, h7])
            refine abr.split (fun h9 => ?_) (fun h9 => ?_)
            · have q10 : (v.n ≤ 9) := by first | exact h9 | omega | (simpa using h9) | (simp at h9 ⊢; omega) | simp_all
              rw [if_pos q10] at hF
              cases hF
              simp -dsimp [h1, q2, h3, h5, h7, h9]
              repeat (refine chk.go (by first | omega | assumption | (simp_all; done) | (simp_all; omega)) ?_; simp -dsimp [h1, q2, h3, h5, h7, h9])
            · have q10 : ¬ (v.n ≤ 9) := by first | exact h9 | omega | (simpa using h9) | (simp at h9 ⊢; omega) | simp_all
              rw [if_neg q10] at hF
              cases hF
              simp -dsimp [h1, q2, h3, h5, h7, h9, q10]
              repeat (refine chk.go (by first | omega | assumption | (simp_all; done) | (simp_all; omega)) ?_; simp -dsimp [h1, q2, h3, h5, h7, h9, q10])
          · have q8 : ¬ (0 ≤ v.n) := by first | exact h7 | omega | (simpa using h7) | (simp at h7 ⊢; omega) | simp_all
            rw [if_neg q8] at hF
            cases hF
            simp -dsimp [h1, q2, h3, h5, h7, q8]
            repeat (refine chk.go (by first | omega | assumption | (simp_all; done) | (simp_all; omega)) ?_; simp -dsimp [h1, q2, h3, h5, h7, q8])
        · have q6 : ¬ (v.ctor = (-1)) := by first | exact h5 | omega | (simpa using h5) | (simp at h5 ⊢; omega) | simp_all
          rw [if_neg q6] at hF
          cases hF
          simp -dsimp [h1, q2, h3, h5, q6]
          repeat (refine chk.go (by first | omega | assumption | (simp_all; done) | (simp_all; omega)) ?_; simp -dsimp [h1, q2, h3, h5, q6])
      · have q4 : ¬ (t.data = (-1)) := by first | exact h3 | omega | (simpa using h3) | (simp at h3 ⊢; omega) | simp_all
        rw [if_neg q4] at hF
        simp -dsimp [h1, q2, h3, q4]
        repeat (refine chk.go (by first | omega | assumption | (simp_all; done) | (simp_all; omega)) ?_; simp -dsimp [h1, q2, h3, q4])
        refine ADraw.simple follows (by kernel_rfl) (by kernel_rfl) ?_
        simp -dsimp [h1, q2, h3, q4]
        repeat (refine chk.go (by first | omega | assumption | (simp_all; done) | (simp_all; omega)) ?_; simp -dsimp [h1, q2, h3, q4])
        refine abr.split (fun h11 => ?_) (fun h11 => ?_)
        · have q12 : (v.n = 0) := by first | exact h11 | omega | (simpa using h11) | (simp at h11 ⊢; omega) | simp_all
          rw [if_pos q12] at hF
          simp -dsimp [h1, q2, h3, q4, h11]
          repeat (refine chk.go (by first | omega | assumption | (simp_all; done) | (simp_all; omega)) ?_; simp -dsimp [h1, q2, h3, q4, h11])
          have hF := ob hF; obtain ⟨v13, e14, hF⟩ := hF
          refine ((C.spec_l1Ctors B hB1 hB2 w t v13 e14)).pgoW (by first | (simp; done) | (simp [h1, q2, h3, q4, h11]; done) | simp_all) (by simp) ?_
          simp -dsimp [h1, q2, h3, q4, h11]
          repeat (refine chk.go (by first | omega | assumption | (simp_all; done) | (simp_all; omega)) ?_; simp -dsimp [h1, q2, h3, q4, h11])
          have hF := ob hF; obtain ⟨v15, e16, hF⟩ := hF
          refine ((C.spec_l1Has B hB1 hB2 v13 v.ctor v15 e16)).pgoW (by first | (simp; done) | (simp [h1, q2, h3, q4, h11]; done) | simp_all) (by simp) ?_
          simp -dsimp [h1, q2, h3, q4, h11]
          repeat (refine chk.go (by first | omega | assumption | (simp_all; done) | (simp_all; omega)) ?_; simp -dsimp [h1, q2, h3, q4, h11])
          refine abr.split (fun h17 => ?_) (fun h17 => ?_)
          · have q18 : ¬ (v15 = true) := by first | exact h17 | omega | (simpa using h17) | (simp at h17 ⊢; omega) | simp_all
            rw [if_neg q18] at hF
            cases hF
            simp -dsimp [h1, q2, h3, q4, h11, h17, q18]
            repeat (refine chk.go (by first | omega | assumption | (simp_all; done) | (simp_all; omega)) ?_; simp -dsimp [h1, q2, h3, q4, h11, h17, q18])
          · have q18 : (v15 = true) := by first | exact h17 | omega | (simpa using h17) | (simp at h17 ⊢; omega) | simp_all
            rw [if_pos q18] at hF
            simp -dsimp [h1, q2, h3, q4, h11, h17, q18]
            repeat (refine chk.go (by first | omega | assumption | (simp_all; done) | (simp_all; omega)) ?_; simp -dsimp [h1, q2, h3, q4, h11, h17, q18])
            have hF := ob hF; obtain ⟨v19, e20, hF⟩ := hF
            refine ((C.spec_l1Args B hB1 hB2 w t v.ctor v19 e20)).goW (by first | (simp; done) | (simp [h1, q2, h3, q4, h11, h17, q18]; done) | simp_all) (by simp) ?_
            simp -dsimp [h1, q2, h3, q4, h11, h17, q18]
            repeat (refine chk.go (by first | omega | assumption | (simp_all; done) | (simp_all; omega)) ?_; simp -dsimp [h1, q2, h3, q4, h11, h17, q18])
            refine abr.split (fun h21 => ?_) (fun h21 => ?_)
            · have q22 : ¬ (v.kids.length = v19.length) := by first | exact h21 | omega | (simpa using h21) | (simp at h21 ⊢; omega) | simp_all
              have z23 : ¬ ((v.kids.length : Int) = (v19.length : Int)) := by first | omega | simp_all
              rw [if_neg q22] at hF
              cases hF
              simp -dsimp [h1, q2, h3, q4, h11, h17, q18, h21, q22, z23]
              repeat (refine chk.go (by first | omega | assumption | (simp_all; done) | (simp_all; omega)) ?_; simp -dsimp [h1, q2, h3, q4, h11, h17, q18, h21, q22, z23])
            · have q22 : (v.kids.length = v19.length) := by first | exact h21 | omega | (simpa using h21) | (simp at h21 ⊢; omega) | simp_all
              have z23 : ((v.kids.length : Int) = (v19.length : Int)) := by first | omega | simp_all
              rw [if_pos q22] at hF
              simp -dsimp [h1, q2, h3, q4, h11, h17, q18, h21, q22, z23]
              repeat (refine chk.go (by first | omega | assumption | (simp_all; done) | (simp_all; omega)) ?_; simp -dsimp [h1, q2, h3, q4, h11, h17, q18, h21, q22, z23])
              have hF := ob hF; obtain ⟨o, ho35, hF⟩ := hF
              refine ALoop.goU ⟨[(0, .arr (List.map Vl.Data.c w)), (3, .lit (.int .i64 depth)), (6, .ptr 1 0), (9, .arr (List.map Vl.Ty.c v19)), (10, .lit (.int .i64 (0 : Int)))], [.dead, .cells [.lit (.int .i64 v.ctor), .lit (.int .i64 v.n), .arr (List.map Vl.Value.c v.kids)]]⟩ (Gh.to (by simp) (by first | (simp -dsimp; done) | (simp -dsimp [h1, q2, h3, q4, h11, h17, q18, h21, q22, z23]; done) | simp_all) (by first | (simp -dsimp; done) | (simp -dsimp [h1, q2, h3, q4, h11, h17, q18, h21, q22, z23]; done) | simp_all) (by first | (simp -dsimp; done) | (simp -dsimp [h1, q2, h3, q4, h11, h17, q18, h21, q22, z23]; done) | simp_all)) ?_
              refine (ih_spec_l2Fits_l1 v depth v19 0 o ho35) _ rfl _ ?_
              rcases o with r0 | s
              · dsimp only at hF
                cases hF
                intro st h
                simpa using h
              · dsimp only at hF
                cases hF
                simp -dsimp
                repeat (refine chk.go (by first | omega | assumption | (simp_all; done) | (simp_all; omega)) ?_; simp -dsimp)
        · have q12 : ¬ (v.n = 0) := by first | exact h11 | omega | (simpa using h11) | (simp at h11 ⊢; omega) | simp_all
          rw [if_neg q12] at hF
          cases hF
          simp -dsimp [h1, q2, h3, q4, h11, q12]
          repeat (refine chk.go (by first | omega | assumption | (simp_all; done) | (simp_all; omega)) ?_; simp -dsimp [h1, q2, h3, q4, h11, q12])
  · intro _f_spec_l2Fits _f_spec_l2Fits_l1 ih_spec_l2Fits ih_spec_l2Fits_l1 v depth v19 i o hF
    intro c hc Q hq
    obtain rfl : c = _ := navEq hc rfl
    refine ALoopU.know fun hk hs => ?_
    have b0 := hk 0
    simp -dsimp at b0
    have b9 := hk 9
    simp -dsimp at b9
    have d1 := hs 1 _ rfl
    simp -dsimp [Blk.bnd] at d1
    clear hk hs
    refine ALoopU.enter ?_
    simp -dsimp
    repeat (refine chk.go (by first | omega | assumption | (simp_all; done) | (simp_all; omega)) ?_; simp -dsimp)
    refine abr.split (fun h24 => ?_) (fun h24 => ?_)
    · have q25 : (i < v19.length) := by first | exact h24 | omega | (simpa using h24) | (simp at h24 ⊢; omega) | simp_all
      have z26 : ((i : Int) < (v19.length : Int)) := by first | omega | simp_all
      rw [if_pos q25] at hF
      simp -dsimp [h24, z26]
      repeat (refine chk.go (by first | omega | assumption | (simp_all; done) | (simp_all; omega)) ?_; simp -dsimp [h24, z26])
      refine ADraw.simple follows (by kernel_rfl) (by kernel_rfl) ?_
      have hF := ob hF; obtain ⟨x, e27, hF⟩ := hF
      have le27 := lt_of_get e27
      have hF := ob hF; obtain ⟨x28, e29, hF⟩ := hF
      have le29 := lt_of_get e29
      simp -dsimp [h24, z26, ↓e27, ↓e29]
      repeat (refine chk.go (by first | omega | assumption | (simp_all; done) | (simp_all; omega)) ?_; simp -dsimp [h24, z26, ↓e27, ↓e29])
      have hF := ob hF; obtain ⟨v30, e31, hF⟩ := hF
      refine ((ih_spec_l2Fits x x28 (IntKind.i64.wrap (depth - 1)) v30 e31)).pgoW (by first | (simp; done) | (simp [h24, z26, ↓e27, ↓e29]; done) | simp_all) (by simp) ?_
      simp -dsimp [h24, z26, ↓e27, ↓e29]
      repeat (refine chk.go (by first | omega | assumption | (simp_all; done) | (simp_all; omega)) ?_; simp -dsimp [h24, z26, ↓e27, ↓e29])
      refine abr.split (fun h32 => ?_) (fun h32 => ?_)
      · have q33 : ¬ (v30 = true) := by first | exact h32 | omega | (simpa using h32) | (simp at h32 ⊢; omega) | simp_all
        rw [if_neg q33] at hF
        cases hF
        simp -dsimp [h24, z26, ↓e27, ↓e29, h32, q33]
        repeat (refine chk.go (by first | omega | assumption | (simp_all; done) | (simp_all; omega)) ?_; simp -dsimp [h24, z26, ↓e27, ↓e29, h32, q33])
        refine Leave.go _ (Gh.refl _) (hq _ ?_)
        simp -dsimp [h24, z26, ↓e27, ↓e29, h32, q33]
        repeat (refine chk.go (by first | omega | assumption | (simp_all; done) | (simp_all; omega)) ?_; simp -dsimp [h24, z26, ↓e27, ↓e29, h32, q33])
      · have q33 : (v30 = true) := by first | exact h32 | omega | (simpa using h32) | (simp at h32 ⊢; omega) | simp_all
        rw [if_pos q33] at hF
        have w34 : IntKind.i64.wrap ((i : Int) + 1) = (i : Int) + 1 := wrap_in (by omega) (by omega)
        simp -dsimp [h24, z26, ↓e27, ↓e29, h32, q33, w34]
        repeat (refine chk.go (by first | omega | assumption | (simp_all; done) | (simp_all; omega)) ?_; simp -dsimp [h24, z26, ↓e27, ↓e29, h32, q33, w34])
        refine Again.go ⟨[(0, .arr (List.map Vl.Data.c w)), (3, .lit (.int .i64 depth)), (6, .ptr 1 0), (9, .arr (List.map Vl.Ty.c v19)), (10, .lit (.int .i64 ((i + 1) : Int)))], [.dead, .cells [.lit (.int .i64 v.ctor), .lit (.int .i64 v.n), .arr (List.map Vl.Value.c v.kids)]]⟩ (Gh.to (by simp) (by first | (simp -dsimp; done) | (simp -dsimp [h24, z26, ↓e27, ↓e29, h32, q33, w34]; done) | simp_all) (by first | (simp -dsimp; done) | (simp -dsimp [h24, z26, ↓e27, ↓e29, h32, q33, w34]; done) | simp_all) (by first | (simp -dsimp; done) | (simp -dsimp [h24, z26, ↓e27, ↓e29, h32, q33, w34]; done) | simp_all)) ?_
        exact (ih_spec_l2Fits_l1 v depth v19 (i + 1) o hF) _ rfl _ hq
    · have q25 : ¬ (i < v19.length) := by first | exact h24 | omega | (simpa using h24) | (simp at h24 ⊢; omega) | simp_all
      have z26 : ¬ ((i : Int) < (v19.length : Int)) := by first | omega | simp_all
      rw [if_neg q25] at hF
      cases hF
      simp -dsimp [h24, q25, z26]
      repeat (refine chk.go (by first | omega | assumption | (simp_all; done) | (simp_all; omega)) ?_; simp -dsimp [h24, q25, z26])
      refine Leave.go ⟨[], []⟩ (Gh.to (by simp) (by first | (simp -dsimp; done) | (simp -dsimp [h24, q25, z26]; done) | simp_all) (by first | (simp -dsimp; done) | (simp -dsimp [h24, q25, z26]; done) | simp_all) (by first | (simp -dsimp; done) | (simp -dsimp [h24, q25, z26]; done) | simp_all)) ?_
      exact hq

theorem C.spec_l2Fits (B : Nat) (hB1 : 67108864 ≤ B) (hB2 : B ≤ 9223372036854775807) (w : List Vl.Data) (t : Vl.Ty) (v : Vl.Value) (depth : Int) (r : Bool) (hF : F.spec_l2Fits w t v depth = some r) : PureCall Try.prog B 69 [.arr (List.map Vl.Data.c w), .agg [.lit (.int .i64 t.data), .lit (.int .i64 t.index)], .agg [.lit (.int .i64 v.ctor), .lit (.int .i64 v.n), .arr (List.map Vl.Value.c v.kids)], .lit (.int .i64 depth)] (.lit (.bool r)) :=
  (CC.spec_l2Fits B hB1 hB2 w).1 t v depth r hF

theorem C.spec_l2Fits_l1 (B : Nat) (hB1 : 67108864 ≤ B) (hB2 : B ≤ 9223372036854775807) (w : List Vl.Data) (v : Vl.Value) (depth : Int) (v19 : List Vl.Ty) (i : Nat) (o : Lo Bool Unit) (hF : F.spec_l2Fits_l1 w v depth v19 i = some o) : ∀ (c : Code), navO [1, 1, 1, 1, 1, 1, 0, 1, 0, 0] (bodyOf Try.f69) = some c → ∀ (Q : Exit → ASt → Prop), o.post (fun r => ∀ st, Post Try.prog Try.f69 (fun r' _ => r'.le (.lit (.bool r))) .ret st → Q .ret st) (fun s => Q (.exit 0) ⟨[], []⟩) → ALoopU Try.prog B 0 78 (hold c .mk) ⟨[(0, .arr (List.map Vl.Data.c w)), (3, .lit (.int .i64 depth)), (6, .ptr 1 0), (9, .arr (List.map Vl.Ty.c v19)), (10, .lit (.int .i64 (i : Int)))], [.dead, .cells [.lit (.int .i64 v.ctor), .lit (.int .i64 v.n), .arr (List.map Vl.Value.c v.kids)]]⟩ (hold Q .mk) :=
  (CC.spec_l2Fits B hB1 hB2 w).2 v depth v19 i o hF

set_option maxRecDepth 100000 in
set_option maxHeartbeats 400000 in
theorem CC.spec_l10Fits (B : Nat) (hB1 : 67108864 ≤ B) (hB2 : B ≤ 9223372036854775807) (w : List Vl.Data) : (∀ (t : Vl.Ty) (v : Vl.Value) (depth : Int) (r : Bool), F.spec_l10Fits w t v depth = some r → PureCall Try.prog B 46 [.arr (List.map Vl.Data.c w), .agg [.lit (.int .i64 t.data), .lit (.int .i64 t.index)], .agg [.lit (.int .i64 v.ctor), .lit (.int .i64 v.n), .arr (List.map Vl.Value.c v.kids)], .lit (.int .i64 depth)] (.lit (.bool r))) ∧
    (∀ (v : Vl.Value) (depth : Int) (v19 : List Vl.Ty) (i : Nat) (o : Lo Bool Unit), F.spec_l10Fits_l1 w v depth v19 i = some o → ∀ (c : Code), navO [1, 1, 1, 1, 1, 1, 1, 0, 1, 0, 0] (bodyOf Try.f46) = some c → ∀ (Q : Exit → ASt → Prop), o.post (fun r => ∀ st, Post Try.prog Try.f46 (fun r' _ => r'.le (.lit (.bool r))) .ret st → Q .ret st) (fun s => Q (.exit 0) ⟨[], []⟩) → ALoopU Try.prog B 0 69 (hold c .mk) ⟨[(0, .arr (List.map Vl.Data.c w)), (3, .lit (.int .i64 depth)), (6, .ptr 1 0), (9, .arr (List.map Vl.Ty.c v19)), (10, .lit (.int .i64 (i : Int)))], [.dead, .cells [.lit (.int .i64 v.ctor), .lit (.int .i64 v.n), .arr (List.map Vl.Value.c v.kids)]]⟩ (hold Q .mk)) := by
  refine F.spec_l10Fits.mutual_partial_correctness w
    (fun t v depth r => PureCall Try.prog B 46 [.arr (List.map Vl.Data.c w), .agg [.lit (.int .i64 t.data), .lit (.int .i64 t.index)], .agg [.lit (.int .i64 v.ctor), .lit (.int .i64 v.n), .arr (List.map Vl.Value.c v.kids)], .lit (.int .i64 depth)] (.lit (.bool r)))
    (fun v depth v19 i o => ∀ (c : Code), navO [1, 1, 1, 1, 1, 1, 1, 0, 1, 0, 0] (bodyOf Try.f46) = some c → ∀ (Q : Exit → ASt → Prop), o.post (fun r => ∀ st, Post Try.prog Try.f46 (fun r' _ => r'.le (.lit (.bool r))) .ret st → Q .ret st) (fun s => Q (.exit 0) ⟨[], []⟩) → ALoopU Try.prog B 0 69 (hold c .mk) ⟨[(0, .arr (List.map Vl.Data.c w)), (3, .lit (.int .i64 depth)), (6, .ptr 1 0), (9, .arr (List.map Vl.Ty.c v19)), (10, .lit (.int .i64 (i : Int)))], [.dead, .cells [.lit (.int .i64 v.ctor), .lit (.int .i64 v.n), .arr (List.map Vl.Value.c v.kids)]]⟩ (hold Q .mk))
    ?_ ?_
  · intro _f_spec_l10Fits_l1 ih_spec_l10Fits_l1 t v depth r hF
    refine PureCall.enterLe Try.func46 (by kernel_rfl) rfl Try.ntmps46 (by simp) (by simp) ?_
    simp -dsimp
    repeat (refine chk.go (by first | omega | assumption | (simp_all; done) | (simp_all; omega)) ?_; simp -dsimp)
    refine abr.split (fun h1 => ?_) (fun h1 => ?_)
    · have q2 : (depth < 1) := by first | exact h1 | omega | (simpa using h1) | (simp at h1 ⊢; omega) | simp_all
      rw [if_pos q2] at hF
      cases hF
      simp -dsimp [h1]
      repeat (refine chk.go (by first | omega | assumption | (simp_all; done) | (simp_all; omega)) ?_; simp -dsimp [h1])
    · have q2 : ¬ (depth < 1) := by first | exact h1 | omega | (simpa using h1) | (simp at h1 ⊢; omega) | simp_all
      rw [if_neg q2] at hF
      simp -dsimp [h1, q2]
      repeat (refine chk.go (by first | omega | assumption | (simp_all; done) | (simp_all; omega)) ?_; simp -dsimp [h1, q2])
      refine abr.split (fun h3 => ?_) (fun h3 => ?_)
      · have q4 : (v.ctor = (-2)) := by first | exact h3 | omega | (simpa using h3) | (simp at h3 ⊢; omega) | simp_all
        rw [if_pos q4] at hF
        simp -dsimp [h1, q2, h3]
        repeat (refine chk.go (by first | omega | assumption | (simp_all; done) | (simp_all; omega)) ?_; simp -dsimp [h1, q2, h3])
        have hF := ob hF; obtain ⟨v5, e6, hF⟩ := hF
        refine ((C.spec_l10Hole B hB1 hB2 v v5 e6)).goW (by first | (simp; done) | (simp [h1, q2, h3]; done) | simp_all) (by simp) ?_
        cases hF
        simp -dsimp [h1, q2, h3]
        repeat (refine chk.go (by first | omega | assumption | (simp_all; done) | (simp_all; omega)) ?_; simp -dsimp [h1, q2, h3])
      · have q4 : ¬ (v.ctor = (-2)) := by first | exact h3 | omega | (simpa using h3) | (simp at h3 ⊢; omega) | simp_all
        rw [if_neg q4] at hF
        simp -dsimp [h1, q2, h3, q4]
        repeat (refine chk.go (by first | omega | assumption | (simp_all; done) | (simp_all; omega)) ?_; simp -dsimp [h1, q2, h3, q4])
        refine abr.split (fun h7 => ?_) (fun h7 => ?_)
        · have q8 : (t.data = (-1)) := by first | exact h7 | omega | (simpa using h7) | (simp at h7 ⊢; omega) | simp_all
          rw [if_pos q8] at hF
          simp -dsimp [h1, q2, h3, q4, h7]
          repeat (refine chk.go (by first | omega | assumption | (simp_all; done) | (simp_all; omega)) ?_; simp -dsimp [h1, q2, h3, q4, h7])
          have hF := ob hF; obtain ⟨v9, e10, hF⟩ := hF
          refine ((C.spec_l2Fits B hB1 hB2 w t v depth v9 e10)).goW (by first | (simp; done) | (simp [h1, q2, h3, q4, h7]; done) | simp_all) (by simp) ?_
          cases hF
          simp -dsimp [h1, q2, h3, q4, h7]
          repeat (refine chk.go (by first | omega | assumption | (simp_all; done) | (simp_all; omega)) ?_; simp -dsimp [h1, q2, h3, q4, h7])
        · have q8 : ¬ (t.data = (-1)) := by first | exact h7 | omega | (simpa using h7) | (simp at h7 ⊢; omega) | simp_all
          rw [if_neg q8] at hF
          simp -dsimp [h1, q2, h3, q4, h7, q8]
          repeat (refine chk.go (by first | omega | assumption | (simp_all; done) | (simp_all; omega)) ?_; simp -dsimp [h1, q2, h3, q4, h7, q8])
          refine ADraw.simple follows (by kernel_rfl) (by kernel_rfl) ?_
          simp -dsimp [h1, q2, h3, q4, h7, q8]
          repeat (refine chk.go (by first | omega | assumption | (simp_all; done) | (simp_all; omega)) ?_; simp -dsimp [h1, q2, h3, q4, h7, q8])
          refine abr.split (fun h11 => ?_) (fun h11 => ?_)
          · have q12 : (v.n = 0) := by first | exact h11 | omega | (simpa using h11) | (simp at h11 ⊢; omega) | simp_all
            rw [if_pos q12] at hF
            simp -dsimp [h1, q2, h3, q4, h7, q8, h11]
            repeat (refine chk.go (by first | omega | assumption | (simp_all; done) | (simp_all; omega)) ?_; simp -dsimp [h1, q2, h3, q4, h7, q8, h11])
            have hF := ob hF; obtain ⟨v13, e14, hF⟩ := hF
            refine ((C.spec_l1Ctors B hB1 hB2 w t v13 e14)).pgoW (by first | (simp; done) | (simp [h1, q2, h3, q4, h7, q8, h11]; done) | simp_all) (by simp) ?_
            simp -dsimp [h1, q2, h3, q4, h7, q8, h11]
            repeat (refine chk.go (by first | omega | assumption | (simp_all; done) | (simp_all; omega)) ?_; simp -dsimp [h1, q2, h3, q4, h7, q8, h11])
            have hF := ob hF; obtain ⟨v15, e16, hF⟩ := hF
            refine ((C.spec_l1Has B hB1 hB2 v13 v.ctor v15 e16)).pgoW (by first | (simp; done) | (simp [h1, q2, h3, q4, h7, q8, h11]; done) | simp_all) (by simp) ?_
            simp -dsimp [h1, q2, h3, q4, h7, q8, h11]
            repeat (refine chk.go (by first | omega | assumption | (simp_all; done) | (simp_all; omega)) ?_; simp -dsimp [h1, q2, h3, q4, h7, q8, h11])
            refine abr.split (fun h17 => ?_) (fun h17 => ?_)
            · have q18 : ¬ (v15 = true) := by first | exact h17 | omega | (simpa using h17) | (simp at h17 ⊢; omega) | simp_all
              rw [if_neg q18] at hF
              cases hF
              simp -dsimp [h1, q2, h3, q4, h7, q8, h11, h17, q18]
              repeat (refine chk.go (by first | omega | assumption | (simp_all; done) | (simp_all; omega)) ?_; simp -dsimp [h1, q2, h3, q4, h7, q8, h11, h17, q18])
            · have q18 : (v15 = true) := by first | exact h17 | omega | (simpa using h17) | (simp at h17 ⊢; omega) | simp_all
              rw [if_pos q18] at hF
              simp -dsimp [h1, q2, h3, q4, h7, q8, h11, h17, q18]
              repeat (refine chk.go (by first | omega | assumption | (simp_all; done) | (simp_all; omega)) ?_; simp -dsimp [h1, q2, h3, q4, h7, q8, h11, h17, q18])
              have hF := ob hF; obtain ⟨v19, e20, hF⟩ := hF
              refine ((C.spec_l1Args B hB1 hB2 w t v.ctor v19 e20)).goW (by first | (simp; done) | (simp [h1, q2, h3, q4, h7, q8, h11, h17, q18]; done) | simp_all) (by simp) ?_
              simp -dsimp [h1, q2, h3, q4, h7, q8, h11, h17, q18]
              repeat (refine chk.go (by first | omega | assumption | (simp_all; done) | (simp_all; omega)) ?_; simp -dsimp [h1, q2, h3, q4, h7, q8, h11, h17, q18])
              refine abr.split (fun h21 => ?_) (fun h21 => ?_)
              · have q22 : ¬ (v.kids.length = v19.length) := by first | exact h21 | omega | (simpa using h21) | (simp at h21 ⊢; omega) | simp_all
                have z23 : ¬ ((v.kids.length : Int) = (v19.length : Int)) := by first | omega | simp_all
                rw [if_neg q22] at hF
                cases hF
                simp -dsimp [h1, q2, h3, q4, h7, q8, h11, h17, q18, h21, q22, z23]
                repeat (refine chk.go (by first | omega | assumption | (simp_all; done) | (simp_all; omega)) ?_; simp -dsimp [h1, q2, h3, q4, h7, q8, h11, h17, q18, h21, q22, z23])
              · have q22 : (v.kids.length = v19.length) := by first | exact h21 | omega | (simpa using h21) | (simp at h21 ⊢; omega) | simp_all
                have z23 : ((v.kids.length : Int) = (v19.length : Int)) := by first | omega | simp_all
                rw [if_pos q22] at hF
                simp -dsimp [h1, q2, h3, q4, h7, q8, h11, h17, q18, h21, q22, z23]
                repeat (refine chk.go (by first | omega | assumption | (simp_all; done) | (simp_all; omega)) ?_; simp -dsimp [h1, q2, h3, q4, h7, q8, h11, h17, q18, h21, q22, z23])
                have hF := ob hF; obtain ⟨o, ho35, hF⟩ := hF
                refine ALoop.goU ⟨[(0, .arr (List.map Vl.Data.c w)), (3, .lit (.int .i64 depth)), (6, .ptr 1 0), (9, .arr (List.map Vl.Ty.c v19)), (10, .lit (.int .i64 (0 : Int)))], [.dead, .cells [.lit (.int .i64 v.ctor), .lit (.int .i64 v.n), .arr (List.map Vl.Value.c v.kids)]]⟩ (Gh.to (by simp) (by first | (simp -dsimp; done) | (simp -dsimp [h1, q2, h3, q4, h7, q8, h11, h17, q18, h21, q22, z23]; done) | simp_all) (by first | (simp -dsimp; done) | (simp -dsimp [h1, q2, h3, q4, h7, q8, h11, h17, q18, h21, q22, z23]; done) | simp_all) (by first | (simp -dsimp; done) | (simp -dsimp [h1, q2, h3, q4, h7, q8, h11, h17, q18, h21, q22, z23]; done) | simp_all)) ?_
                refine (ih_spec_l10Fits_l1 v depth v19 0 o ho35) _ rfl _ ?_
                rcases o with r0 | s
                · dsimp only at hF
                  cases hF
                  intro st h
                  simpa using h
                · dsimp only at hF
                  cases hF
                  simp -dsimp
                  repeat (refine chk.go (by first | omega | assumption | (simp_all; done) | (simp_all; omega)) ?_; simp -dsimp)
          · have q12 : ¬ (v.n = 0) := by first | exact h11 | omega | (simpa using h11) | (simp at h11 ⊢; omega) | simp_all
            rw [if_neg q12] at hF
            cases hF
            simp -dsimp [h1, q2, h3, q4, h7, q8, h11, q12]
            repeat (refine chk.go (by first | omega | assumption | (simp_all; done) | (simp_all; omega)) ?_; simp -dsimp [h1, q2, h3, q4, h7, q8, h11, q12])
  · intro _f_spec_l10Fits _f_spec_l10Fits_l1 ih_spec_l10Fits ih_spec_l10Fits_l1 v depth v19 i o hF
    intro c hc Q hq
    obtain rfl : c = _ := navEq hc rfl
    refine ALoopU.know fun hk hs => ?_
    have b0 := hk 0
    simp -dsimp at b0
    have b9 := hk 9
    simp -dsimp at b9
    have d1 := hs 1 _ rfl
    simp -dsimp [Blk.bnd] at d1
    clear hk hs
    refine ALoopU.enter ?_
    simp -dsimp
    repeat (refine chk.go (by first | omega | assumption | (simp_all; done) | (simp_all; omega)) ?_; simp -dsimp)
    refine abr.split (fun h24 => ?_) (fun h24 => ?_)
    · have q25 : (i < v19.length) := by first | exact h24 | omega | (simpa using h24) | (simp at h24 ⊢; omega) | simp_all
      have z26 : ((i : Int) < (v19.length : Int)) := by first | omega | simp_all
      rw [if_pos q25] at hF
      simp -dsimp [h24, z26]
      repeat (refine chk.go (by first | omega | assumption | (simp_all; done) | (simp_all; omega)) ?_; simp -dsimp [h24, z26])
      refine ADraw.simple follows (by kernel_rfl) (by kernel_rfl) ?_
      have hF := ob hF; obtain ⟨x, e27, hF⟩ := hF
      have le27 := lt_of_get e27
      have hF := ob hF; obtain ⟨x28, e29, hF⟩ := hF
      have le29 := lt_of_get e29
      simp -dsimp [h24, z26, ↓e27, ↓e29]
      repeat (refine chk.go (by first | omega | assumption | (simp_all; done) | (simp_all; omega)) ?_; simp -dsimp [h24, z26, ↓e27, ↓e29])
      have hF := ob hF; obtain ⟨v30, e31, hF⟩ := hF
      refine ((ih_spec_l10Fits x x28 (IntKind.i64.wrap (depth - 1)) v30 e31)).pgoW (by first | (simp; done) | (simp [h24, z26, ↓e27, ↓e29]; done) | simp_all) (by simp) ?_
      simp -dsimp [h24, z26, ↓e27, ↓e29]
      repeat (refine chk.go (by first | omega | assumption | (simp_all; done) | (simp_all; omega)) ?_; simp -dsimp [h24, z26, ↓e27, ↓e29])
      refine abr.split (fun h32 => ?_) (fun h32 => ?_)
      · have q33 : ¬ (v30 = true) := by first | exact h32 | omega | (simpa using h32) | (simp at h32 ⊢; omega) | simp_all
        rw [if_neg q33] at hF
        cases hF
        simp -dsimp [h24, z26, ↓e27, ↓e29, h32, q33]
        repeat (refine chk.go (by first | omega | assumption | (simp_all; done) | (simp_all; omega)) ?_; simp -dsimp [h24, z26, ↓e27, ↓e29, h32, q33])
        refine Leave.go _ (Gh.refl _) (hq _ ?_)
        simp -dsimp [h24, z26, ↓e27, ↓e29, h32, q33]
        repeat (refine chk.go (by first | omega | assumption | (simp_all; done) | (simp_all; omega)) ?_; simp -dsimp [h24, z26, ↓e27, ↓e29, h32, q33])
      · have q33 : (v30 = true) := by first | exact h32 | omega | (simpa using h32) | (simp at h32 ⊢; omega) | simp_all
        rw [if_pos q33] at hF
        have w34 : IntKind.i64.wrap ((i : Int) + 1) = (i : Int) + 1 := wrap_in (by omega) (by omega)
        simp -dsimp [h24, z26, ↓e27, ↓e29, h32, q33, w34]
        repeat (refine chk.go (by first | omega | assumption | (simp_all; done) | (simp_all; omega)) ?_; simp -dsimp [h24, z26, ↓e27, ↓e29, h32, q33, w34])
        refine Again.go ⟨[(0, .arr (List.map Vl.Data.c w)), (3, .lit (.int .i64 depth)), (6, .ptr 1 0), (9, .arr (List.map Vl.Ty.c v19)), (10, .lit (.int .i64 ((i + 1) : Int)))], [.dead, .cells [.lit (.int .i64 v.ctor), .lit (.int .i64 v.n), .arr (List.map Vl.Value.c v.kids)]]⟩ (Gh.to (by simp) (by first | (simp -dsimp; done) | (simp -dsimp [h24, z26, ↓e27, ↓e29, h32, q33, w34]; done) | simp_all) (by first | (simp -dsimp; done) | (simp -dsimp [h24, z26, ↓e27, ↓e29, h32, q33, w34]; done) | simp_all) (by first | (simp -dsimp; done) | (simp -dsimp [h24, z26, ↓e27, ↓e29, h32, q33, w34]; done) | simp_all)) ?_
        exact (ih_spec_l10Fits_l1 v depth v19 (i + 1) o hF) _ rfl _ hq
    · have q25 : ¬ (i < v19.length) := by first | exact h24 | omega | (simpa using h24) | (simp at h24 ⊢; omega) | simp_all
      have z26 : ¬ ((i : Int) < (v19.length : Int)) := by first | omega | simp_all
      rw [if_neg q25] at hF
      cases hF
      simp -dsimp [h24, q25, z26]
      repeat (refine chk.go (by first | omega | assumption | (simp_all; done) | (simp_all; omega)) ?_; simp -dsimp [h24, q25, z26])
      refine Leave.go ⟨[], []⟩ (Gh.to (by simp) (by first | (simp -dsimp; done) | (simp -dsimp [h24, q25, z26]; done) | simp_all) (by first | (simp -dsimp; done) | (simp -dsimp [h24, q25, z26]; done) | simp_all) (by first | (simp -dsimp; done) | (simp -dsimp [h24, q25, z26]; done) | simp_all)) ?_
      exact hq

theorem C.spec_l10Fits (B : Nat) (hB1 : 67108864 ≤ B) (hB2 : B ≤ 9223372036854775807) (w : List Vl.Data) (t : Vl.Ty) (v : Vl.Value) (depth : Int) (r : Bool) (hF : F.spec_l10Fits w t v depth = some r) : PureCall Try.prog B 46 [.arr (List.map Vl.Data.c w), .agg [.lit (.int .i64 t.data), .lit (.int .i64 t.index)], .agg [.lit (.int .i64 v.ctor), .lit (.int .i64 v.n), .arr (List.map Vl.Value.c v.kids)], .lit (.int .i64 depth)] (.lit (.bool r)) :=
  (CC.spec_l10Fits B hB1 hB2 w).1 t v depth r hF

theorem C.spec_l10Fits_l1 (B : Nat) (hB1 : 67108864 ≤ B) (hB2 : B ≤ 9223372036854775807) (w : List Vl.Data) (v : Vl.Value) (depth : Int) (v19 : List Vl.Ty) (i : Nat) (o : Lo Bool Unit) (hF : F.spec_l10Fits_l1 w v depth v19 i = some o) : ∀ (c : Code), navO [1, 1, 1, 1, 1, 1, 1, 0, 1, 0, 0] (bodyOf Try.f46) = some c → ∀ (Q : Exit → ASt → Prop), o.post (fun r => ∀ st, Post Try.prog Try.f46 (fun r' _ => r'.le (.lit (.bool r))) .ret st → Q .ret st) (fun s => Q (.exit 0) ⟨[], []⟩) → ALoopU Try.prog B 0 69 (hold c .mk) ⟨[(0, .arr (List.map Vl.Data.c w)), (3, .lit (.int .i64 depth)), (6, .ptr 1 0), (9, .arr (List.map Vl.Ty.c v19)), (10, .lit (.int .i64 (i : Int)))], [.dead, .cells [.lit (.int .i64 v.ctor), .lit (.int .i64 v.n), .arr (List.map Vl.Value.c v.kids)]]⟩ (hold Q .mk) :=
  (CC.spec_l10Fits B hB1 hB2 w).2 v depth v19 i o hF

set_option maxRecDepth 100000 in
set_option maxHeartbeats 400000 in
theorem CC.spec_l2Count (B : Nat) (hB1 : 67108864 ≤ B) (hB2 : B ≤ 9223372036854775807)  : (∀ (v : Vl.Value) (most : Int) (r : Int), F.spec_l2Count v most = some r → PureCall Try.prog B 47 [.agg [.lit (.int .i64 v.ctor), .lit (.int .i64 v.n), .arr (List.map Vl.Value.c v.kids)], .lit (.int .i64 most)] (.lit (.int .i64 r))) ∧
    (∀ (v : Vl.Value) (most : Int) (n : Int) (i : Nat) (o : Int), F.spec_l2Count_l1 v most n i = some o → ∀ (c : Code), navO [1, 1, 0, 1, 0, 0] (bodyOf Try.f47) = some c → ∀ (Q : Exit → ASt → Prop), Q (.exit 0) ⟨[(5, .lit (.int .i64 o))], []⟩ → ALoopU Try.prog B 0 31 (hold c .mk) ⟨[(1, .lit (.int .i64 most)), (2, .ptr 0 0), (5, .lit (.int .i64 n)), (6, .lit (.int .i64 (i : Int)))], [.cells [.lit (.int .i64 v.ctor), .lit (.int .i64 v.n), .arr (List.map Vl.Value.c v.kids)]]⟩ (hold Q .mk)) := by
  refine F.spec_l2Count.mutual_partial_correctness 
    (fun v most r => PureCall Try.prog B 47 [.agg [.lit (.int .i64 v.ctor), .lit (.int .i64 v.n), .arr (List.map Vl.Value.c v.kids)], .lit (.int .i64 most)] (.lit (.int .i64 r)))
    (fun v most n i o => ∀ (c : Code), navO [1, 1, 0, 1, 0, 0] (bodyOf Try.f47) = some c → ∀ (Q : Exit → ASt → Prop), Q (.exit 0) ⟨[(5, .lit (.int .i64 o))], []⟩ → ALoopU Try.prog B 0 31 (hold c .mk) ⟨[(1, .lit (.int .i64 most)), (2, .ptr 0 0), (5, .lit (.int .i64 n)), (6, .lit (.int .i64 (i : Int)))], [.cells [.lit (.int .i64 v.ctor), .lit (.int .i64 v.n), .arr (List.map Vl.Value.c v.kids)]]⟩ (hold Q .mk))
    ?_ ?_
  · intro _f_spec_l2Count_l1 ih_spec_l2Count_l1 v most r hF
    refine PureCall.enterLe Try.func47 (by kernel_rfl) rfl Try.ntmps47 (by simp) (by simp) ?_
    simp -dsimp
    repeat (refine chk.go (by first | omega | assumption | (simp_all; done) | (simp_all; omega)) ?_; simp -dsimp)
    have hF := ob hF; obtain ⟨o, ho10, hF⟩ := hF
    refine ALoop.goU ⟨[(1, .lit (.int .i64 most)), (2, .ptr 0 0), (5, .lit (.int .i64 (1 : Int))), (6, .lit (.int .i64 (0 : Int)))], [.cells [.lit (.int .i64 v.ctor), .lit (.int .i64 v.n), .arr (List.map Vl.Value.c v.kids)]]⟩ (Gh.to (by simp) (by simp -dsimp) (by simp -dsimp) (by simp -dsimp)) ?_
    refine (ih_spec_l2Count_l1 v most (1 : Int) 0 o ho10) _ rfl _ ?_
    cases hF
    simp -dsimp
    repeat (refine chk.go (by first | omega | assumption | (simp_all; done) | (simp_all; omega)) ?_; simp -dsimp)
  · intro _f_spec_l2Count _f_spec_l2Count_l1 ih_spec_l2Count ih_spec_l2Count_l1 v most n i o hF
    intro c hc Q hq
    obtain rfl : c = _ := navEq hc rfl
    refine ALoopU.know fun hk hs => ?_
    have d0 := hs 0 _ rfl
    simp -dsimp [Blk.bnd] at d0
    clear hk hs
    refine ALoopU.enter ?_
    simp -dsimp
    repeat (refine chk.go (by first | omega | assumption | (simp_all; done) | (simp_all; omega)) ?_; simp -dsimp)
    refine abr.split (fun h1 => ?_) (fun h1 => ?_)
    · have q2 : (i < v.kids.length) := by first | exact h1 | omega | (simpa using h1) | (simp at h1 ⊢; omega) | simp_all
      have z3 : ((i : Int) < (v.kids.length : Int)) := by first | omega | simp_all
      rw [if_pos q2] at hF
      simp -dsimp [h1, z3]
      repeat (refine chk.go (by first | omega | assumption | (simp_all; done) | (simp_all; omega)) ?_; simp -dsimp [h1, z3])
      refine abr.split (fun h4 => ?_) (fun h4 => ?_)
      · have q5 : (n ≤ most) := by first | exact h4 | omega | (simpa using h4) | (simp at h4 ⊢; omega) | simp_all
        rw [if_pos q5] at hF
        have hF := ob hF; obtain ⟨x, e6, hF⟩ := hF
        have le6 := lt_of_get e6
        simp -dsimp [h1, z3, h4, ↓e6]
        repeat (refine chk.go (by first | omega | assumption | (simp_all; done) | (simp_all; omega)) ?_; simp -dsimp [h1, z3, h4, ↓e6])
        have hF := ob hF; obtain ⟨v7, e8, hF⟩ := hF
        refine ((ih_spec_l2Count x (IntKind.i64.wrap (most - n)) v7 e8)).goW (by first | (simp; done) | (simp [h1, z3, h4, ↓e6]; done) | simp_all) (by simp) ?_
        have w9 : IntKind.i64.wrap ((i : Int) + 1) = (i : Int) + 1 := wrap_in (by omega) (by omega)
        simp -dsimp [h1, z3, h4, ↓e6, w9]
        repeat (refine chk.go (by first | omega | assumption | (simp_all; done) | (simp_all; omega)) ?_; simp -dsimp [h1, z3, h4, ↓e6, w9])
        refine Again.go ⟨[(1, .lit (.int .i64 most)), (2, .ptr 0 0), (5, .lit (.int .i64 (IntKind.i64.wrap (n + v7)))), (6, .lit (.int .i64 ((i + 1) : Int)))], [.cells [.lit (.int .i64 v.ctor), .lit (.int .i64 v.n), .arr (List.map Vl.Value.c v.kids)]]⟩ (Gh.to (by simp) (by first | (simp -dsimp; done) | (simp -dsimp [h1, z3, h4, ↓e6, w9]; done) | simp_all) (by first | (simp -dsimp; done) | (simp -dsimp [h1, z3, h4, ↓e6, w9]; done) | simp_all) (by first | (simp -dsimp; done) | (simp -dsimp [h1, z3, h4, ↓e6, w9]; done) | simp_all)) ?_
        exact (ih_spec_l2Count_l1 v most (IntKind.i64.wrap (n + v7)) (i + 1) o hF) _ rfl _ hq
      · have q5 : ¬ (n ≤ most) := by first | exact h4 | omega | (simpa using h4) | (simp at h4 ⊢; omega) | simp_all
        rw [if_neg q5] at hF
        cases hF
        simp -dsimp [h1, z3, h4, q5]
        repeat (refine chk.go (by first | omega | assumption | (simp_all; done) | (simp_all; omega)) ?_; simp -dsimp [h1, z3, h4, q5])
        refine Leave.go ⟨[(5, .lit (.int .i64 n))], []⟩ (Gh.to (by simp) (by first | (simp -dsimp; done) | (simp -dsimp [h1, z3, h4, q5]; done) | simp_all) (by first | (simp -dsimp; done) | (simp -dsimp [h1, z3, h4, q5]; done) | simp_all) (by first | (simp -dsimp; done) | (simp -dsimp [h1, z3, h4, q5]; done) | simp_all)) ?_
        exact hq
    · have q2 : ¬ (i < v.kids.length) := by first | exact h1 | omega | (simpa using h1) | (simp at h1 ⊢; omega) | simp_all
      have z3 : ¬ ((i : Int) < (v.kids.length : Int)) := by first | omega | simp_all
      rw [if_neg q2] at hF
      cases hF
      simp -dsimp [h1, q2, z3]
      repeat (refine chk.go (by first | omega | assumption | (simp_all; done) | (simp_all; omega)) ?_; simp -dsimp [h1, q2, z3])
      refine Leave.go ⟨[(5, .lit (.int .i64 n))], []⟩ (Gh.to (by simp) (by first | (simp -dsimp; done) | (simp -dsimp [h1, q2, z3]; done) | simp_all) (by first | (simp -dsimp; done) | (simp -dsimp [h1, q2, z3]; done) | simp_all) (by first | (simp -dsimp; done) | (simp -dsimp [h1, q2, z3]; done) | simp_all)) ?_
      exact hq

theorem C.spec_l2Count (B : Nat) (hB1 : 67108864 ≤ B) (hB2 : B ≤ 9223372036854775807) (v : Vl.Value) (most : Int) (r : Int) (hF : F.spec_l2Count v most = some r) : PureCall Try.prog B 47 [.agg [.lit (.int .i64 v.ctor), .lit (.int .i64 v.n), .arr (List.map Vl.Value.c v.kids)], .lit (.int .i64 most)] (.lit (.int .i64 r)) :=
  (CC.spec_l2Count B hB1 hB2 ).1 v most r hF

theorem C.spec_l2Count_l1 (B : Nat) (hB1 : 67108864 ≤ B) (hB2 : B ≤ 9223372036854775807) (v : Vl.Value) (most : Int) (n : Int) (i : Nat) (o : Int) (hF : F.spec_l2Count_l1 v most n i = some o) : ∀ (c : Code), navO [1, 1, 0, 1, 0, 0] (bodyOf Try.f47) = some c → ∀ (Q : Exit → ASt → Prop), Q (.exit 0) ⟨[(5, .lit (.int .i64 o))], []⟩ → ALoopU Try.prog B 0 31 (hold c .mk) ⟨[(1, .lit (.int .i64 most)), (2, .ptr 0 0), (5, .lit (.int .i64 n)), (6, .lit (.int .i64 (i : Int)))], [.cells [.lit (.int .i64 v.ctor), .lit (.int .i64 v.n), .arr (List.map Vl.Value.c v.kids)]]⟩ (hold Q .mk) :=
  (CC.spec_l2Count B hB1 hB2 ).2 v most n i o hF

set_option maxRecDepth 100000 in
set_option maxHeartbeats 400000 in
theorem C.spec_l10Is (B : Nat) (hB1 : 67108864 ≤ B) (hB2 : B ≤ 9223372036854775807) (w : List Vl.Data) (t : Vl.Ty) (v : Vl.Value) (r : Bool) (hF : F.spec_l10Is w t v = some r) : PureCall Try.prog B 26 [.arr (List.map Vl.Data.c w), .agg [.lit (.int .i64 t.data), .lit (.int .i64 t.index)], .agg [.lit (.int .i64 v.ctor), .lit (.int .i64 v.n), .arr (List.map Vl.Value.c v.kids)]] (.lit (.bool r)) := by
  unfold F.spec_l10Is at hF
  refine PureCall.enterLe Try.func26 (by kernel_rfl) rfl Try.ntmps26 (by simp) (by simp) ?_
  simp -dsimp
  repeat (refine chk.go (by first | omega | assumption | (simp_all; done) | (simp_all; omega)) ?_; simp -dsimp)
  have hF := ob hF; obtain ⟨v1, e2, hF⟩ := hF
  refine ((C.spec_l10Fits B hB1 hB2 w t v (10 : Int) v1 e2)).goW (by simp) (by simp) ?_
  simp -dsimp
  repeat (refine chk.go (by first | omega | assumption | (simp_all; done) | (simp_all; omega)) ?_; simp -dsimp)
  refine abr.split (fun h3 => ?_) (fun h3 => ?_)
  · have q4 : (v1 = true) := by first | exact h3 | omega | (simpa using h3) | (simp at h3 ⊢; omega) | simp_all
    rw [if_pos q4] at hF
    simp -dsimp [h3]
    repeat (refine chk.go (by first | omega | assumption | (simp_all; done) | (simp_all; omega)) ?_; simp -dsimp [h3])
    have hF := ob hF; obtain ⟨v5, e6, hF⟩ := hF
    refine ((C.spec_l2Count B hB1 hB2 v (60 : Int) v5 e6)).goW (by first | (simp; done) | (simp [h3]; done) | simp_all) (by simp) ?_
    cases hF
    simp -dsimp [h3]
    repeat (refine chk.go (by first | omega | assumption | (simp_all; done) | (simp_all; omega)) ?_; simp -dsimp [h3])
  · have q4 : ¬ (v1 = true) := by first | exact h3 | omega | (simpa using h3) | (simp at h3 ⊢; omega) | simp_all
    rw [if_neg q4] at hF
    cases hF
    simp -dsimp [h3, q4]
    repeat (refine chk.go (by first | omega | assumption | (simp_all; done) | (simp_all; omega)) ?_; simp -dsimp [h3, q4])

end Go.Proofs.Ytgjgeeeeafbckaa
