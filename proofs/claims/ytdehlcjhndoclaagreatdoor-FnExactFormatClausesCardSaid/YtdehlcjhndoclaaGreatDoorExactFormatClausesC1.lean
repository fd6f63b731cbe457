/- The contracts: the code computes the functions (printed by gen.py). -/
import Derived.Test.YtdehlcjhndoclaaGreatDoorProg
import Derived.Test.YtdehlcjhndoclaaGreatDoorExactFormatClausesF
import Derived.Test.YtdehlcjhndoclaaGreatDoorVlShelf
import Derived.Test.YtdehlcjhndoclaaGreatDoorShelf
namespace Go.Proofs.YtdehlcjhndoclaaGreatDoor
open Go Go.Proofs Go.Vl
set_option linter.unusedSimpArgs false
set_option linter.unusedVariables false
set_option linter.unusedSectionVars false
set_option maxRecDepth 100000
set_option maxHeartbeats 4000000

attribute [local irreducible] ECallA NCallA aL aLg AMake MLoop AgainM LeaveM awpM aopsM MutCall BCall chk abr ACall ALoop ALoopU ADraw Again Leave PCallA PCall Post awp aops PureCall hold

theorem follows : Tryz.prog.follows .mixedOrders = true := by kernel_rfl
@[simp] theorem ti2 : tiOf Tryz.prog 2 = some ⟨.word, 1, [.int .i64 0]⟩ := by kernel_rfl
@[simp] theorem ti3 : tiOf Tryz.prog 3 = some ⟨.word, 1, [.int .i64 0]⟩ := by kernel_rfl
@[simp] theorem ti4 : tiOf Tryz.prog 4 = some ⟨.word, 1, [.bool false]⟩ := by kernel_rfl
@[simp] theorem ti5 : tiOf Tryz.prog 5 = some ⟨.word, 1, [.int .u8 0]⟩ := by kernel_rfl
@[simp] theorem ti9 : tiOf Tryz.prog 9 = some ⟨.word, 1, [.string ByteArray.empty]⟩ := by kernel_rfl
@[simp] theorem ti22 : tiOf Tryz.prog 22 = some ⟨.slice 2 40 [.string ByteArray.empty, .slice none 0 0], 1, [.slice none 0 0]⟩ := by kernel_rfl
@[simp] theorem sl22 : isSl Tryz.prog 22 = true := by kernel_rfl
@[simp] theorem ti26 : tiOf Tryz.prog 26 = some ⟨.struct [(0, 1), (1, 1)], 2, [.int .i64 0, .int .i64 0]⟩ := by kernel_rfl
@[simp] theorem pr26 : pair2B Tryz.prog 26 = true := by kernel_rfl
@[simp] theorem ti35 : tiOf Tryz.prog 35 = some ⟨.slice 2 40 [.string ByteArray.empty, .slice none 0 0], 1, [.slice none 0 0]⟩ := by kernel_rfl
@[simp] theorem sl35 : isSl Tryz.prog 35 = true := by kernel_rfl
@[simp] theorem ti39 : tiOf Tryz.prog 39 = some ⟨.slice 3 24 [.int .i64 0, .int .i64 0, .int .i64 0], 1, [.slice none 0 0]⟩ := by kernel_rfl
@[simp] theorem sl39 : isSl Tryz.prog 39 = true := by kernel_rfl
@[simp] theorem ti41 : tiOf Tryz.prog 41 = some ⟨.struct [(0, 1), (1, 1)], 2, [.int .i64 0, .int .i64 0]⟩ := by kernel_rfl
@[simp] theorem pr41 : pair2B Tryz.prog 41 = true := by kernel_rfl
@[simp] theorem ti52 : tiOf Tryz.prog 52 = some ⟨.slice 9 88 [.int .i64 0, .int .i64 0, .int .i64 0, .int .i64 0, .int .i64 0, .slice none 0 0, .int .i64 0, .int .i64 0, .int .i64 0], 1, [.slice none 0 0]⟩ := by kernel_rfl
@[simp] theorem sl52 : isSl Tryz.prog 52 = true := by kernel_rfl
@[simp] theorem ti55 : tiOf Tryz.prog 55 = some ⟨.slice 9 88 [.int .i64 0, .int .i64 0, .int .i64 0, .int .i64 0, .int .i64 0, .slice none 0 0, .int .i64 0, .int .i64 0, .int .i64 0], 1, [.slice none 0 0]⟩ := by kernel_rfl
@[simp] theorem sl55 : isSl Tryz.prog 55 = true := by kernel_rfl
@[simp] theorem ti60 : tiOf Tryz.prog 60 = some ⟨.slice 3 48 [.string ByteArray.empty, .slice none 0 0, .int .i64 0], 1, [.slice none 0 0]⟩ := by kernel_rfl
@[simp] theorem sl60 : isSl Tryz.prog 60 = true := by kernel_rfl
@[simp] theorem ti62 : tiOf Tryz.prog 62 = some ⟨.struct [(0, 1), (1, 1)], 2, [.string ByteArray.empty, .slice none 0 0]⟩ := by kernel_rfl
@[simp] theorem ti66 : tiOf Tryz.prog 66 = some ⟨.slice 3 48 [.string ByteArray.empty, .slice none 0 0, .int .i64 0], 1, [.slice none 0 0]⟩ := by kernel_rfl
@[simp] theorem sl66 : isSl Tryz.prog 66 = true := by kernel_rfl
@[simp] theorem ti68 : tiOf Tryz.prog 68 = some ⟨.struct [(0, 1), (1, 1)], 2, [.string ByteArray.empty, .slice none 0 0]⟩ := by kernel_rfl
@[simp] theorem ti76 : tiOf Tryz.prog 76 = some ⟨.struct [(0, 1), (1, 2)], 3, [.int .i64 0, .int .i64 0, .int .i64 0]⟩ := by kernel_rfl
@[simp] theorem pr76 : trip3B Tryz.prog 76 = true := by kernel_rfl
@[simp] theorem ti89 : tiOf Tryz.prog 89 = some ⟨.slice 6 64 [.int .i64 0, .int .i64 0, .int .i64 0, .int .i64 0, .int .i64 0, .slice none 0 0], 1, [.slice none 0 0]⟩ := by kernel_rfl
@[simp] theorem sl89 : isSl Tryz.prog 89 = true := by kernel_rfl
@[simp] theorem ti91 : tiOf Tryz.prog 91 = some ⟨.struct [(0, 1), (1, 1), (2, 1), (3, 1), (4, 1), (5, 1)], 6, [.int .i64 0, .int .i64 0, .int .i64 0, .int .i64 0, .int .i64 0, .slice none 0 0]⟩ := by kernel_rfl
@[simp] theorem ti93 : tiOf Tryz.prog 93 = some ⟨.struct [(0, 1), (1, 1), (2, 1)], 3, [.int .i64 0, .int .i64 0, .int .i64 0]⟩ := by kernel_rfl
@[simp] theorem pr93 : trip3B Tryz.prog 93 = true := by kernel_rfl
@[simp] theorem ti95 : tiOf Tryz.prog 95 = some ⟨.struct [(0, 6), (6, 3)], 9, [.int .i64 0, .int .i64 0, .int .i64 0, .int .i64 0, .int .i64 0, .slice none 0 0, .int .i64 0, .int .i64 0, .int .i64 0]⟩ := by kernel_rfl
@[simp] theorem ti97 : tiOf Tryz.prog 97 = some ⟨.slice 6 64 [.int .i64 0, .int .i64 0, .int .i64 0, .int .i64 0, .int .i64 0, .slice none 0 0], 1, [.slice none 0 0]⟩ := by kernel_rfl
@[simp] theorem sl97 : isSl Tryz.prog 97 = true := by kernel_rfl
@[simp] theorem ti99 : tiOf Tryz.prog 99 = some ⟨.struct [(0, 1), (1, 1), (2, 1), (3, 1), (4, 1), (5, 1)], 6, [.int .i64 0, .int .i64 0, .int .i64 0, .int .i64 0, .int .i64 0, .slice none 0 0]⟩ := by kernel_rfl
@[simp] theorem ti100 : tiOf Tryz.prog 100 = some ⟨.struct [(0, 1), (1, 1), (2, 1)], 3, [.int .i64 0, .int .i64 0, .int .i64 0]⟩ := by kernel_rfl
@[simp] theorem pr100 : trip3B Tryz.prog 100 = true := by kernel_rfl
@[simp] theorem ti102 : tiOf Tryz.prog 102 = some ⟨.struct [(0, 6), (6, 3)], 9, [.int .i64 0, .int .i64 0, .int .i64 0, .int .i64 0, .int .i64 0, .slice none 0 0, .int .i64 0, .int .i64 0, .int .i64 0]⟩ := by kernel_rfl
@[simp] theorem ti108 : tiOf Tryz.prog 108 = some ⟨.slice 2 16 [.int .i64 0, .int .i64 0], 1, [.slice none 0 0]⟩ := by kernel_rfl
@[simp] theorem sl108 : isSl Tryz.prog 108 = true := by kernel_rfl
@[simp] theorem ti110 : tiOf Tryz.prog 110 = some ⟨.struct [(0, 1), (1, 1), (2, 1)], 3, [.string ByteArray.empty, .slice none 0 0, .int .i64 0]⟩ := by kernel_rfl
@[simp] theorem ti118 : tiOf Tryz.prog 118 = some ⟨.slice 1 16 [.string ByteArray.empty], 1, [.slice none 0 0]⟩ := by kernel_rfl
@[simp] theorem sl118 : isSl Tryz.prog 118 = true := by kernel_rfl
@[simp] theorem ti135 : tiOf Tryz.prog 135 = some ⟨.slice 2 16 [.int .i64 0, .int .i64 0], 1, [.slice none 0 0]⟩ := by kernel_rfl
@[simp] theorem sl135 : isSl Tryz.prog 135 = true := by kernel_rfl
@[simp] theorem ti137 : tiOf Tryz.prog 137 = some ⟨.struct [(0, 1), (1, 1), (2, 1)], 3, [.string ByteArray.empty, .slice none 0 0, .int .i64 0]⟩ := by kernel_rfl
@[simp] theorem ti142 : tiOf Tryz.prog 142 = some ⟨.slice 1 1 [.int .u8 0], 1, [.slice none 0 0]⟩ := by kernel_rfl
@[simp] theorem sl142 : isSl Tryz.prog 142 = true := by kernel_rfl
@[simp] theorem ti148 : tiOf Tryz.prog 148 = some ⟨.array 6 1, 6, [.bool false, .bool false, .bool false, .bool false, .bool false, .bool false]⟩ := by kernel_rfl
@[simp] theorem ti156 : tiOf Tryz.prog 156 = some ⟨.slice 1 8 [.int .i64 0], 1, [.slice none 0 0]⟩ := by kernel_rfl
@[simp] theorem sl156 : isSl Tryz.prog 156 = true := by kernel_rfl
@[simp] theorem ti171 : tiOf Tryz.prog 171 = some ⟨.struct [(0, 1), (1, 1)], 2, [.pointer none, .slice none 0 0]⟩ := by kernel_rfl
@[simp] theorem ti183 : mapB Tryz.prog 183 = true := by kernel_rfl
attribute [simp] Tryz.underlying2 Tryz.underlying3 Tryz.underlying4 Tryz.underlying5 Tryz.underlying9 Tryz.underlying22 Tryz.underlying35 Tryz.underlying39 Tryz.underlying52 Tryz.underlying55 Tryz.underlying60 Tryz.underlying66 Tryz.underlying89 Tryz.underlying97 Tryz.underlying108 Tryz.underlying118 Tryz.underlying135 Tryz.underlying142 Tryz.underlying148 Tryz.underlying156 Tryz.results4 Tryz.results5 Tryz.results10 Tryz.results13 Tryz.results16 Tryz.results20 Tryz.results21 Tryz.results22 Tryz.results23 Tryz.results24 Tryz.results25 Tryz.results29 Tryz.results35 Tryz.results39 Tryz.results40 Tryz.results41 Tryz.results42 Tryz.results43 Tryz.results44 Tryz.results45 Tryz.results46 Tryz.results49 Tryz.results50 Tryz.results51 Tryz.results52 Tryz.results53 Tryz.results57 Tryz.results58 Tryz.results59 Tryz.results60 Tryz.results61 Tryz.results62 Tryz.results63 Tryz.results64 Tryz.results65 Tryz.results66 Tryz.results67 Tryz.results68 Tryz.results69 Tryz.results70 Tryz.results71 Tryz.results72 Tryz.results73 Tryz.results74 Tryz.results75 Tryz.results76 Tryz.results81 Tryz.results82 Tryz.results83 Tryz.results84 Tryz.results87 Tryz.results89 Tryz.results92 Tryz.results93 Tryz.results94 Tryz.results96 Tryz.results97 Tryz.results98 Tryz.results99 Tryz.results100 Tryz.results101 Tryz.results102 Tryz.results103 Tryz.results104 Tryz.results105 Tryz.results106 Tryz.results107 Tryz.results108 Tryz.results109 Tryz.results113 Tryz.results114 Tryz.results115 Tryz.results117 Tryz.results118 Tryz.results120 Tryz.results122 Tryz.results124 Tryz.results125 Tryz.results126 Tryz.results127 Tryz.results128 Tryz.results129 Tryz.results130 Tryz.results131 Tryz.results132 Tryz.results133 Tryz.results134 Tryz.results135 Tryz.results139 Tryz.results140 Tryz.results141 Tryz.results142 Tryz.results143 Tryz.results144 Tryz.results149 Tryz.results150 Tryz.results151 Tryz.results152 Tryz.results153 Tryz.results154 Tryz.results155 Tryz.results156 Tryz.results159 Tryz.results160 Tryz.results166 Tryz.results167

variable (B : Nat) (hB1 : 67108864 ≤ B) (hB2 : B ≤ 9223372036854775807)
include hB1 hB2

theorem C.laws_szTypeS (a : List Vl.Ty) (left' : Int) (r : Int) (hF : F.laws_szTypeS a left' = some r) : PureCall Tryz.prog B 114 [.arr (List.map Vl.Ty.c a), .lit (.int .i64 left')] (.lit (.int .i64 r)) := by
 unfold F.laws_szTypeS at hF
 refine PureCall.enterLe Tryz.func114 (by kernel_rfl) rfl Tryz.ntmps114 (by simp) (by simp) ?_
 repeat (first | refine chk.ga ?_ | simp -dsimp)
 refine abr.split (fun h1 => ?_) (fun h1 => ?_)
 ·have q2 : (IntKind.i64.wrap (left' - (a.length : Int)) < 0) := auq h1
  rw [if_pos q2] at hF
  cases hF
  repeat (first | refine chk.ga ?_ | simp -dsimp [h1])
  all_goals (try first | omega | rfl)
 ·have q2 : ¬ (IntKind.i64.wrap (left' - (a.length : Int)) < 0) := auq h1
  rw [if_neg q2] at hF
  cases hF
  repeat (first | refine chk.ga ?_ | simp -dsimp [h1, q2])
  all_goals (try first | omega | rfl)

theorem C.laws_szCtor (a : Vl.Ctor) (left' : Int) (r : Int) (hF : F.laws_szCtor a left' = some r) : PureCall Tryz.prog B 76 [.agg [.lit (.string a.name), .arr (List.map Vl.Ty.c a.args), .lit (.int .i64 a.index)], .lit (.int .i64 left')] (.lit (.int .i64 r)) := by
 unfold F.laws_szCtor at hF
 refine PureCall.enterLe Tryz.func76 (by kernel_rfl) rfl Tryz.ntmps76 (by simp) (by simp) ?_
 repeat (first | refine chk.ga ?_ | simp -dsimp)
 refine abr.split (fun h1 => ?_) (fun h1 => ?_)
 ·have q2 : (IntKind.i64.wrap (left' - (a.name.size : Int)) < 0) := auq h1
  rw [if_pos q2] at hF
  cases hF
  repeat (first | refine chk.ga ?_ | simp -dsimp [h1])
  all_goals (try first | omega | rfl)
 ·have q2 : ¬ (IntKind.i64.wrap (left' - (a.name.size : Int)) < 0) := auq h1
  rw [if_neg q2] at hF
  repeat (first | refine chk.ga ?_ | simp -dsimp [h1, q2])
  have hF := ob hF; obtain ⟨v, e3, hF⟩ := hF
  refine ((C.laws_szTypeS B hB1 hB2 a.args (IntKind.i64.wrap (left' - (a.name.size : Int))) v e3)).goW (by first | simp [h1, q2]; done | simp_all) (by simp) ?_
  repeat (first | refine chk.ga ?_ | simp -dsimp [h1, q2])
  refine abr.split (fun h4 => ?_) (fun h4 => ?_)
  ·have q5 : (v < 0) := auq h4
   rw [if_pos q5] at hF
   cases hF
   repeat (first | refine chk.ga ?_ | simp -dsimp [h1, q2, h4])
   all_goals (try first | omega | rfl)
  ·have q5 : ¬ (v < 0) := auq h4
   rw [if_neg q5] at hF
   cases hF
   repeat (first | refine chk.ga ?_ | simp -dsimp [h1, q2, h4, q5])
   all_goals (try first | omega | rfl)

theorem CC.laws_szCtorS_l1 (a : List Vl.Ctor) : (∀ (left'3 : Int) (i : Nat) (o : Lo Int Int), F.laws_szCtorS_l1 a left'3 i = some o → ∀ (c : Code), navO [1, 1, 1, 0, 1, 0, 0] (bodyOf Tryz.f46) = some c → ∀ (Q : Exit → ASt → Prop), o.post (fun r => ∀ st, Post Tryz.prog Tryz.f46 (fun r' _ => r'.le (.lit (.int .i64 r))) .ret st → Q .ret st) (fun s => Q (.exit 0) ⟨[(1, .lit (.int .i64 s))], []⟩) → ALoopU Tryz.prog B 0 27 (hold c .mk) ⟨[(0, .arr (List.map Vl.Ctor.c a)), (1, .lit (.int .i64 left'3)), (5, .lit (.int .i64 (i : Int)))], []⟩ (hold Q .mk)) := by
 refine F.laws_szCtorS_l1.partial_correctness a
  _
  ?_
 ·intro _f_laws_szCtorS_l1 ih_laws_szCtorS_l1 left'3 i o hF
  intro c hc Q hq
  obtain rfl : c = _ := navEq hc rfl
  refine ALoopU.know fun hk hs => ?_
  have b0 := hk 0
  simp -dsimp at b0
  clear hk hs
  refine ALoopU.enter ?_
  repeat (first | refine chk.ga ?_ | simp -dsimp)
  refine abr.split (fun h4 => ?_) (fun h4 => ?_)
  ·have q5 : (i < a.length) := auq h4
   have z6 : ((i : Int) < (a.length : Int)) := auz
   rw [if_pos q5] at hF
   have hF := ob hF; obtain ⟨x, e7, hF⟩ := hF
   have le7 := lt_of_get e7
   repeat (first | refine chk.ga ?_ | simp -dsimp [h4, z6, ↓e7])
   have hF := ob hF; obtain ⟨v, e8, hF⟩ := hF
   refine ((C.laws_szCtor B hB1 hB2 x left'3 v e8)).goW (by first | simp [h4, z6, ↓e7]; done | simp_all) (by simp) ?_
   repeat (first | refine chk.ga ?_ | simp -dsimp [h4, z6, ↓e7])
   refine abr.split (fun h9 => ?_) (fun h9 => ?_)
   ·have q10 : (v < 0) := auq h9
    rw [if_pos q10] at hF
    cases hF
    repeat (first | refine chk.ga ?_ | simp -dsimp [h4, z6, ↓e7, h9])
    refine Leave.go _ (Gh.refl _) (hq _ ?_)
    repeat (first | refine chk.ga ?_ | simp -dsimp [h4, z6, ↓e7, h9])
   ·have q10 : ¬ (v < 0) := auq h9
    rw [if_neg q10] at hF
    have w11 : IntKind.i64.wrap ((i : Int) + 1) = (i : Int) + 1 := wrap_in (by omega) (by omega)
    repeat (first | refine chk.ga ?_ | simp -dsimp [h4, z6, ↓e7, h9, q10, w11])
    refine Again.go _ ?_ ((ih_laws_szCtorS_l1 v (i + 1) o hF) _ rfl _ hq)
    exact (Gh.to3 (by simp) (by first | simp -dsimp [h4, z6, ↓e7, h9, q10, w11]; done | simp_all))
  ·have q5 : ¬ (i < a.length) := auq h4
   have z6 : ¬ ((i : Int) < (a.length : Int)) := auz
   rw [if_neg q5] at hF
   cases hF
   repeat (first | refine chk.ga ?_ | simp -dsimp [h4, q5, z6])
   refine Leave.go ⟨[(1, .lit (.int .i64 left'3))], []⟩ (Gh.to3 (by simp) (by first | simp -dsimp [h4, q5, z6]; done | simp_all)) ?_
   exact hq

theorem C.laws_szCtorS (a : List Vl.Ctor) (left' : Int) (r : Int) (hF : F.laws_szCtorS a left' = some r) : PureCall Tryz.prog B 46 [.arr (List.map Vl.Ctor.c a), .lit (.int .i64 left')] (.lit (.int .i64 r)) := by
 unfold F.laws_szCtorS at hF
 refine PureCall.enterLe Tryz.func46 (by kernel_rfl) rfl Tryz.ntmps46 (by simp) (by simp) ?_
 repeat (first | refine chk.ga ?_ | simp -dsimp)
 refine abr.split (fun h1 => ?_) (fun h1 => ?_)
 ·have q2 : (IntKind.i64.wrap (left' - (a.length : Int)) < 0) := auq h1
  rw [if_pos q2] at hF
  cases hF
  repeat (first | refine chk.ga ?_ | simp -dsimp [h1])
  all_goals (try first | omega | rfl)
 ·have q2 : ¬ (IntKind.i64.wrap (left' - (a.length : Int)) < 0) := auq h1
  rw [if_neg q2] at hF
  repeat (first | refine chk.ga ?_ | simp -dsimp [h1, q2])
  have hF := ob hF; obtain ⟨o', ho12, hF⟩ := hF
  refine ALoop.goU _ ?_ (((CC.laws_szCtorS_l1 B hB1 hB2 a) (IntKind.i64.wrap (left' - (a.length : Int))) 0 o' ho12) _ rfl _ ?_)
  ·exact (Gh.to3 (by simp) (by first | simp -dsimp [h1, q2]; done | simp_all))
  rcases o' with r0 | sx
  ·dsimp only at hF
   cases hF
   intro st h
   simpa using h
  ·dsimp only at hF
   cases hF
   repeat (first | refine chk.ga ?_ | simp -dsimp)
   all_goals (try first | omega | rfl)

theorem C.laws_szData (a : Vl.Data) (left' : Int) (r : Int) (hF : F.laws_szData a left' = some r) : PureCall Tryz.prog B 25 [.agg [.lit (.string a.name), .arr (List.map Vl.Ctor.c a.ctors)], .lit (.int .i64 left')] (.lit (.int .i64 r)) := by
 unfold F.laws_szData at hF
 refine PureCall.enterLe Tryz.func25 (by kernel_rfl) rfl Tryz.ntmps25 (by simp) (by simp) ?_
 repeat (first | refine chk.ga ?_ | simp -dsimp)
 refine abr.split (fun h1 => ?_) (fun h1 => ?_)
 ·have q2 : (IntKind.i64.wrap (left' - (a.name.size : Int)) < 0) := auq h1
  rw [if_pos q2] at hF
  cases hF
  repeat (first | refine chk.ga ?_ | simp -dsimp [h1])
  all_goals (try first | omega | rfl)
 ·have q2 : ¬ (IntKind.i64.wrap (left' - (a.name.size : Int)) < 0) := auq h1
  rw [if_neg q2] at hF
  repeat (first | refine chk.ga ?_ | simp -dsimp [h1, q2])
  have hF := ob hF; obtain ⟨v, e3, hF⟩ := hF
  refine ((C.laws_szCtorS B hB1 hB2 a.ctors (IntKind.i64.wrap (left' - (a.name.size : Int))) v e3)).goW (by first | simp [h1, q2]; done | simp_all) (by simp) ?_
  repeat (first | refine chk.ga ?_ | simp -dsimp [h1, q2])
  refine abr.split (fun h4 => ?_) (fun h4 => ?_)
  ·have q5 : (v < 0) := auq h4
   rw [if_pos q5] at hF
   cases hF
   repeat (first | refine chk.ga ?_ | simp -dsimp [h1, q2, h4])
   all_goals (try first | omega | rfl)
  ·have q5 : ¬ (v < 0) := auq h4
   rw [if_neg q5] at hF
   cases hF
   repeat (first | refine chk.ga ?_ | simp -dsimp [h1, q2, h4, q5])
   all_goals (try first | omega | rfl)

theorem CC.laws_szDataS_l1 (a : List Vl.Data) : (∀ (left'3 : Int) (i : Nat) (o : Lo Int Int), F.laws_szDataS_l1 a left'3 i = some o → ∀ (c : Code), navO [1, 1, 1, 0, 1, 0, 0] (bodyOf Tryz.f5) = some c → ∀ (Q : Exit → ASt → Prop), o.post (fun r => ∀ st, Post Tryz.prog Tryz.f5 (fun r' _ => r'.le (.lit (.int .i64 r))) .ret st → Q .ret st) (fun s => Q (.exit 0) ⟨[(1, .lit (.int .i64 s))], []⟩) → ALoopU Tryz.prog B 0 27 (hold c .mk) ⟨[(0, .arr (List.map Vl.Data.c a)), (1, .lit (.int .i64 left'3)), (5, .lit (.int .i64 (i : Int)))], []⟩ (hold Q .mk)) := by
 refine F.laws_szDataS_l1.partial_correctness a
  _
  ?_
 ·intro _f_laws_szDataS_l1 ih_laws_szDataS_l1 left'3 i o hF
  intro c hc Q hq
  obtain rfl : c = _ := navEq hc rfl
  refine ALoopU.know fun hk hs => ?_
  have b0 := hk 0
  simp -dsimp at b0
  clear hk hs
  refine ALoopU.enter ?_
  repeat (first | refine chk.ga ?_ | simp -dsimp)
  refine abr.split (fun h4 => ?_) (fun h4 => ?_)
  ·have q5 : (i < a.length) := auq h4
   have z6 : ((i : Int) < (a.length : Int)) := auz
   rw [if_pos q5] at hF
   have hF := ob hF; obtain ⟨x, e7, hF⟩ := hF
   have le7 := lt_of_get e7
   repeat (first | refine chk.ga ?_ | simp -dsimp [h4, z6, ↓e7])
   have hF := ob hF; obtain ⟨v, e8, hF⟩ := hF
   refine ((C.laws_szData B hB1 hB2 x left'3 v e8)).goW (by first | simp [h4, z6, ↓e7]; done | simp_all) (by simp) ?_
   repeat (first | refine chk.ga ?_ | simp -dsimp [h4, z6, ↓e7])
   refine abr.split (fun h9 => ?_) (fun h9 => ?_)
   ·have q10 : (v < 0) := auq h9
    rw [if_pos q10] at hF
    cases hF
    repeat (first | refine chk.ga ?_ | simp -dsimp [h4, z6, ↓e7, h9])
    refine Leave.go _ (Gh.refl _) (hq _ ?_)
    repeat (first | refine chk.ga ?_ | simp -dsimp [h4, z6, ↓e7, h9])
   ·have q10 : ¬ (v < 0) := auq h9
    rw [if_neg q10] at hF
    have w11 : IntKind.i64.wrap ((i : Int) + 1) = (i : Int) + 1 := wrap_in (by omega) (by omega)
    repeat (first | refine chk.ga ?_ | simp -dsimp [h4, z6, ↓e7, h9, q10, w11])
    refine Again.go _ ?_ ((ih_laws_szDataS_l1 v (i + 1) o hF) _ rfl _ hq)
    exact (Gh.to3 (by simp) (by first | simp -dsimp [h4, z6, ↓e7, h9, q10, w11]; done | simp_all))
  ·have q5 : ¬ (i < a.length) := auq h4
   have z6 : ¬ ((i : Int) < (a.length : Int)) := auz
   rw [if_neg q5] at hF
   cases hF
   repeat (first | refine chk.ga ?_ | simp -dsimp [h4, q5, z6])
   refine Leave.go ⟨[(1, .lit (.int .i64 left'3))], []⟩ (Gh.to3 (by simp) (by first | simp -dsimp [h4, q5, z6]; done | simp_all)) ?_
   exact hq

theorem C.laws_szDataS (a : List Vl.Data) (left' : Int) (r : Int) (hF : F.laws_szDataS a left' = some r) : PureCall Tryz.prog B 5 [.arr (List.map Vl.Data.c a), .lit (.int .i64 left')] (.lit (.int .i64 r)) := by
 unfold F.laws_szDataS at hF
 refine PureCall.enterLe Tryz.func5 (by kernel_rfl) rfl Tryz.ntmps5 (by simp) (by simp) ?_
 repeat (first | refine chk.ga ?_ | simp -dsimp)
 refine abr.split (fun h1 => ?_) (fun h1 => ?_)
 ·have q2 : (IntKind.i64.wrap (left' - (a.length : Int)) < 0) := auq h1
  rw [if_pos q2] at hF
  cases hF
  repeat (first | refine chk.ga ?_ | simp -dsimp [h1])
  all_goals (try first | omega | rfl)
 ·have q2 : ¬ (IntKind.i64.wrap (left' - (a.length : Int)) < 0) := auq h1
  rw [if_neg q2] at hF
  repeat (first | refine chk.ga ?_ | simp -dsimp [h1, q2])
  have hF := ob hF; obtain ⟨o', ho12, hF⟩ := hF
  refine ALoop.goU _ ?_ (((CC.laws_szDataS_l1 B hB1 hB2 a) (IntKind.i64.wrap (left' - (a.length : Int))) 0 o' ho12) _ rfl _ ?_)
  ·exact (Gh.to3 (by simp) (by first | simp -dsimp [h1, q2]; done | simp_all))
  rcases o' with r0 | sx
  ·dsimp only at hF
   cases hF
   intro st h
   simpa using h
  ·dsimp only at hF
   cases hF
   repeat (first | refine chk.ga ?_ | simp -dsimp)
   all_goals (try first | omega | rfl)

theorem CC.laws_szPattern  : (∀ (a : Vl.Pattern) (left' : Int) (r : Int), F.laws_szPattern a left' = some r → PureCall Tryz.prog B 62 [.agg [.lit (.int .i64 a.op), .lit (.int .i64 a.ctor), .lit (.int .i64 a.n), .lit (.int .i64 a.m), .lit (.int .i64 a.var), .arr (List.map Vl.Pattern.c a.kids)], .lit (.int .i64 left')] (.lit (.int .i64 r))) ∧
  (∀ (a : List Vl.Pattern) (left' : Int) (r : Int), F.laws_szPatternS a left' = some r → PureCall Tryz.prog B 97 [.arr (List.map Vl.Pattern.c a), .lit (.int .i64 left')] (.lit (.int .i64 r))) ∧
  (∀ (a : List Vl.Pattern) (left'3 : Int) (i : Nat) (o : Lo Int Int), F.laws_szPatternS_l1 a left'3 i = some o → ∀ (c : Code), navO [1, 1, 1, 0, 1, 0, 0] (bodyOf Tryz.f97) = some c → ∀ (Q : Exit → ASt → Prop), o.post (fun r => ∀ st, Post Tryz.prog Tryz.f97 (fun r' _ => r'.le (.lit (.int .i64 r))) .ret st → Q .ret st) (fun s => Q (.exit 0) ⟨[(1, .lit (.int .i64 s))], []⟩) → ALoopU Tryz.prog B 0 27 (hold c .mk) ⟨[(0, .arr (List.map Vl.Pattern.c a)), (1, .lit (.int .i64 left'3)), (5, .lit (.int .i64 (i : Int)))], []⟩ (hold Q .mk)) := by
 refine F.laws_szPattern.mutual_partial_correctness 
  _ _ _
  ?_ ?_ ?_
 ·intro _f_laws_szPatternS ih_laws_szPatternS a left' r hF
  refine PureCall.enterLe Tryz.func62 (by kernel_rfl) rfl Tryz.ntmps62 (by simp) (by simp) ?_
  repeat (first | refine chk.ga ?_ | simp -dsimp)
  have hF := ob hF; obtain ⟨v, e1, hF⟩ := hF
  refine ((ih_laws_szPatternS a.kids left' v e1)).goW (by simp) (by simp) ?_
  repeat (first | refine chk.ga ?_ | simp -dsimp)
  refine abr.split (fun h2 => ?_) (fun h2 => ?_)
  ·have q3 : (v < 0) := auq h2
   rw [if_pos q3] at hF
   cases hF
   repeat (first | refine chk.ga ?_ | simp -dsimp [h2])
   all_goals (try first | omega | rfl)
  ·have q3 : ¬ (v < 0) := auq h2
   rw [if_neg q3] at hF
   cases hF
   repeat (first | refine chk.ga ?_ | simp -dsimp [h2, q3])
   all_goals (try first | omega | rfl)
 ·intro _f_laws_szPatternS_l1 ih_laws_szPatternS_l1 a left' r hF
  refine PureCall.enterLe Tryz.func97 (by kernel_rfl) rfl Tryz.ntmps97 (by simp) (by simp) ?_
  repeat (first | refine chk.ga ?_ | simp -dsimp)
  refine abr.split (fun h1 => ?_) (fun h1 => ?_)
  ·have q2 : (IntKind.i64.wrap (left' - (a.length : Int)) < 0) := auq h1
   rw [if_pos q2] at hF
   cases hF
   repeat (first | refine chk.ga ?_ | simp -dsimp [h1])
   all_goals (try first | omega | rfl)
  ·have q2 : ¬ (IntKind.i64.wrap (left' - (a.length : Int)) < 0) := auq h1
   rw [if_neg q2] at hF
   repeat (first | refine chk.ga ?_ | simp -dsimp [h1, q2])
   have hF := ob hF; obtain ⟨o', ho12, hF⟩ := hF
   refine ALoop.goU _ ?_ ((ih_laws_szPatternS_l1 a (IntKind.i64.wrap (left' - (a.length : Int))) 0 o' ho12) _ rfl _ ?_)
   ·exact (Gh.to3 (by simp) (by first | simp -dsimp [h1, q2]; done | simp_all))
   rcases o' with r0 | sx
   ·dsimp only at hF
    cases hF
    intro st h
    simpa using h
   ·dsimp only at hF
    cases hF
    repeat (first | refine chk.ga ?_ | simp -dsimp)
    all_goals (try first | omega | rfl)
 ·intro _f_laws_szPattern _f_laws_szPatternS_l1 ih_laws_szPattern ih_laws_szPatternS_l1 a left'3 i o hF
  intro c hc Q hq
  obtain rfl : c = _ := navEq hc rfl
  refine ALoopU.know fun hk hs => ?_
  have b0 := hk 0
  simp -dsimp at b0
  clear hk hs
  refine ALoopU.enter ?_
  repeat (first | refine chk.ga ?_ | simp -dsimp)
  refine abr.split (fun h4 => ?_) (fun h4 => ?_)
  ·have q5 : (i < a.length) := auq h4
   have z6 : ((i : Int) < (a.length : Int)) := auz
   rw [if_pos q5] at hF
   have hF := ob hF; obtain ⟨x, e7, hF⟩ := hF
   have le7 := lt_of_get e7
   repeat (first | refine chk.ga ?_ | simp -dsimp [h4, z6, ↓e7])
   have hF := ob hF; obtain ⟨v, e8, hF⟩ := hF
   refine ((ih_laws_szPattern x left'3 v e8)).goW (by first | simp [h4, z6, ↓e7]; done | simp_all) (by simp) ?_
   repeat (first | refine chk.ga ?_ | simp -dsimp [h4, z6, ↓e7])
   refine abr.split (fun h9 => ?_) (fun h9 => ?_)
   ·have q10 : (v < 0) := auq h9
    rw [if_pos q10] at hF
    cases hF
    repeat (first | refine chk.ga ?_ | simp -dsimp [h4, z6, ↓e7, h9])
    refine Leave.go _ (Gh.refl _) (hq _ ?_)
    repeat (first | refine chk.ga ?_ | simp -dsimp [h4, z6, ↓e7, h9])
   ·have q10 : ¬ (v < 0) := auq h9
    rw [if_neg q10] at hF
    have w11 : IntKind.i64.wrap ((i : Int) + 1) = (i : Int) + 1 := wrap_in (by omega) (by omega)
    repeat (first | refine chk.ga ?_ | simp -dsimp [h4, z6, ↓e7, h9, q10, w11])
    refine Again.go _ ?_ ((ih_laws_szPatternS_l1 a v (i + 1) o hF) _ rfl _ hq)
    exact (Gh.to3 (by simp) (by first | simp -dsimp [h4, z6, ↓e7, h9, q10, w11]; done | simp_all))
  ·have q5 : ¬ (i < a.length) := auq h4
   have z6 : ¬ ((i : Int) < (a.length : Int)) := auz
   rw [if_neg q5] at hF
   cases hF
   repeat (first | refine chk.ga ?_ | simp -dsimp [h4, q5, z6])
   refine Leave.go ⟨[(1, .lit (.int .i64 left'3))], []⟩ (Gh.to3 (by simp) (by first | simp -dsimp [h4, q5, z6]; done | simp_all)) ?_
   exact hq

theorem C.laws_szClause (a : Vl.Clause) (left' : Int) (r : Int) (hF : F.laws_szClause a left' = some r) : PureCall Tryz.prog B 39 [.agg [.lit (.int .i64 a.pat.op), .lit (.int .i64 a.pat.ctor), .lit (.int .i64 a.pat.n), .lit (.int .i64 a.pat.m), .lit (.int .i64 a.pat.var), .arr (List.map Vl.Pattern.c a.pat.kids), .lit (.int .i64 a.guard.op), .lit (.int .i64 a.guard.var), .lit (.int .i64 a.guard.n)], .lit (.int .i64 left')] (.lit (.int .i64 r)) := by
 unfold F.laws_szClause at hF
 refine PureCall.enterLe Tryz.func39 (by kernel_rfl) rfl Tryz.ntmps39 (by simp) (by simp) ?_
 repeat (first | refine chk.ga ?_ | simp -dsimp)
 have hF := ob hF; obtain ⟨v, e1, hF⟩ := hF
 refine (((CC.laws_szPattern B hB1 hB2 ).1 a.pat left' v e1)).goW (by simp) (by simp) ?_
 repeat (first | refine chk.ga ?_ | simp -dsimp)
 refine abr.split (fun h2 => ?_) (fun h2 => ?_)
 ·have q3 : (v < 0) := auq h2
  rw [if_pos q3] at hF
  cases hF
  repeat (first | refine chk.ga ?_ | simp -dsimp [h2])
  all_goals (try first | omega | rfl)
 ·have q3 : ¬ (v < 0) := auq h2
  rw [if_neg q3] at hF
  cases hF
  repeat (first | refine chk.ga ?_ | simp -dsimp [h2, q3])
  all_goals (try first | omega | rfl)

theorem CC.laws_szClauseS_l1 (a : List Vl.Clause) : (∀ (left'3 : Int) (i : Nat) (o : Lo Int Int), F.laws_szClauseS_l1 a left'3 i = some o → ∀ (c : Code), navO [1, 1, 1, 0, 1, 0, 0] (bodyOf Tryz.f20) = some c → ∀ (Q : Exit → ASt → Prop), o.post (fun r => ∀ st, Post Tryz.prog Tryz.f20 (fun r' _ => r'.le (.lit (.int .i64 r))) .ret st → Q .ret st) (fun s => Q (.exit 0) ⟨[(1, .lit (.int .i64 s))], []⟩) → ALoopU Tryz.prog B 0 27 (hold c .mk) ⟨[(0, .arr (List.map Vl.Clause.c a)), (1, .lit (.int .i64 left'3)), (5, .lit (.int .i64 (i : Int)))], []⟩ (hold Q .mk)) := by
 refine F.laws_szClauseS_l1.partial_correctness a
  _
  ?_
 ·intro _f_laws_szClauseS_l1 ih_laws_szClauseS_l1 left'3 i o hF
  intro c hc Q hq
  obtain rfl : c = _ := navEq hc rfl
  refine ALoopU.know fun hk hs => ?_
  have b0 := hk 0
  simp -dsimp at b0
  clear hk hs
  refine ALoopU.enter ?_
  repeat (first | refine chk.ga ?_ | simp -dsimp)
  refine abr.split (fun h4 => ?_) (fun h4 => ?_)
  ·have q5 : (i < a.length) := auq h4
   have z6 : ((i : Int) < (a.length : Int)) := auz
   rw [if_pos q5] at hF
   have hF := ob hF; obtain ⟨x, e7, hF⟩ := hF
   have le7 := lt_of_get e7
   repeat (first | refine chk.ga ?_ | simp -dsimp [h4, z6, ↓e7])
   have hF := ob hF; obtain ⟨v, e8, hF⟩ := hF
   refine ((C.laws_szClause B hB1 hB2 x left'3 v e8)).goW (by first | simp [h4, z6, ↓e7]; done | simp_all) (by simp) ?_
   repeat (first | refine chk.ga ?_ | simp -dsimp [h4, z6, ↓e7])
   refine abr.split (fun h9 => ?_) (fun h9 => ?_)
   ·have q10 : (v < 0) := auq h9
    rw [if_pos q10] at hF
    cases hF
    repeat (first | refine chk.ga ?_ | simp -dsimp [h4, z6, ↓e7, h9])
    refine Leave.go _ (Gh.refl _) (hq _ ?_)
    repeat (first | refine chk.ga ?_ | simp -dsimp [h4, z6, ↓e7, h9])
   ·have q10 : ¬ (v < 0) := auq h9
    rw [if_neg q10] at hF
    have w11 : IntKind.i64.wrap ((i : Int) + 1) = (i : Int) + 1 := wrap_in (by omega) (by omega)
    repeat (first | refine chk.ga ?_ | simp -dsimp [h4, z6, ↓e7, h9, q10, w11])
    refine Again.go _ ?_ ((ih_laws_szClauseS_l1 v (i + 1) o hF) _ rfl _ hq)
    exact (Gh.to3 (by simp) (by first | simp -dsimp [h4, z6, ↓e7, h9, q10, w11]; done | simp_all))
  ·have q5 : ¬ (i < a.length) := auq h4
   have z6 : ¬ ((i : Int) < (a.length : Int)) := auz
   rw [if_neg q5] at hF
   cases hF
   repeat (first | refine chk.ga ?_ | simp -dsimp [h4, q5, z6])
   refine Leave.go ⟨[(1, .lit (.int .i64 left'3))], []⟩ (Gh.to3 (by simp) (by first | simp -dsimp [h4, q5, z6]; done | simp_all)) ?_
   exact hq

theorem C.laws_szClauseS (a : List Vl.Clause) (left' : Int) (r : Int) (hF : F.laws_szClauseS a left' = some r) : PureCall Tryz.prog B 20 [.arr (List.map Vl.Clause.c a), .lit (.int .i64 left')] (.lit (.int .i64 r)) := by
 unfold F.laws_szClauseS at hF
 refine PureCall.enterLe Tryz.func20 (by kernel_rfl) rfl Tryz.ntmps20 (by simp) (by simp) ?_
 repeat (first | refine chk.ga ?_ | simp -dsimp)
 refine abr.split (fun h1 => ?_) (fun h1 => ?_)
 ·have q2 : (IntKind.i64.wrap (left' - (a.length : Int)) < 0) := auq h1
  rw [if_pos q2] at hF
  cases hF
  repeat (first | refine chk.ga ?_ | simp -dsimp [h1])
  all_goals (try first | omega | rfl)
 ·have q2 : ¬ (IntKind.i64.wrap (left' - (a.length : Int)) < 0) := auq h1
  rw [if_neg q2] at hF
  repeat (first | refine chk.ga ?_ | simp -dsimp [h1, q2])
  have hF := ob hF; obtain ⟨o', ho12, hF⟩ := hF
  refine ALoop.goU _ ?_ (((CC.laws_szClauseS_l1 B hB1 hB2 a) (IntKind.i64.wrap (left' - (a.length : Int))) 0 o' ho12) _ rfl _ ?_)
  ·exact (Gh.to3 (by simp) (by first | simp -dsimp [h1, q2]; done | simp_all))
  rcases o' with r0 | sx
  ·dsimp only at hF
   cases hF
   intro st h
   simpa using h
  ·dsimp only at hF
   cases hF
   repeat (first | refine chk.ga ?_ | simp -dsimp)
   all_goals (try first | omega | rfl)

theorem C.laws_toType (a : Vl.Ty) (r : Vl.Ty) (hF : F.laws_toType a = some r) : PureCall Tryz.prog B 13 [.agg [.lit (.int .i64 a.data), .lit (.int .i64 a.index)]] (.agg [.lit (.int .i64 r.data), .lit (.int .i64 r.index)]) := by
 unfold F.laws_toType at hF
 refine PureCall.enterLe Tryz.func13 (by kernel_rfl) rfl Tryz.ntmps13 (by simp) (by simp) ?_
 cases hF
 repeat (first | refine chk.ga ?_ | simp -dsimp)
 all_goals (try first | omega | rfl)

theorem CC.laws_toTypeS_l1 (a : List Vl.Ty) : (∀ (out : List Vl.Ty) (i : Nat) (o : List Vl.Ty), F.laws_toTypeS_l1 a out i = some o → ∀ (c : Code), navO [1, 1, 0, 1, 0, 0] (bodyOf Tryz.f117) = some c → ∀ (Q : Exit → ASt → Prop), (Q (.exit 0) ⟨[(3, .own 0 (List.length (α := Vl.Ty) o))], [.elems 2 (List.map Vl.Ty.c o)]⟩) → ALoopU Tryz.prog B 0 23 (hold c .mk) ⟨[(0, .arr (List.map Vl.Ty.c a)), (3, .own 0 (List.length (α := Vl.Ty) out)), (4, .lit (.int .i64 (i : Int)))], [.elems 2 (List.map Vl.Ty.c out)]⟩ (hold Q .mk)) := by
 refine F.laws_toTypeS_l1.partial_correctness a
  _
  ?_
 ·intro _f_laws_toTypeS_l1 ih_laws_toTypeS_l1 out i o hF
  intro c hc Q hq
  obtain rfl : c = _ := navEq hc rfl
  refine ALoopU.know fun hk hs => ?_
  have b0 := hk 0
  simp -dsimp at b0
  have d0 := hs 0 _ rfl
  simp -dsimp [Blk.bnd] at d0
  clear hk hs
  refine ALoopU.enter ?_
  repeat (first | refine chk.ga ?_ | simp -dsimp)
  refine abr.split (fun h2 => ?_) (fun h2 => ?_)
  ·have q3 : (i < a.length) := auq h2
   have z4 : ((i : Int) < (a.length : Int)) := auz
   rw [if_pos q3] at hF
   have hF := ob hF; obtain ⟨x, e5, hF⟩ := hF
   have le5 := lt_of_get e5
   repeat (first | refine chk.ga ?_ | simp -dsimp [h2, z4, ↓e5])
   have hF := ob hF; obtain ⟨v, e6, hF⟩ := hF
   refine ((C.laws_toType B hB1 hB2 x v e6)).goW (by first | simp [h2, z4, ↓e5]; done | simp_all) (by simp) ?_
   have hF := ob hF; obtain ⟨x7, e8, hF⟩ := hF
   have le8 := lt_of_get e8
   have w9 : IntKind.i64.wrap ((i : Int) + 1) = (i : Int) + 1 := wrap_in (by omega) (by omega)
   repeat (first | refine chk.ga ?_ | simp -dsimp [h2, z4, ↓e5, ↓e8, w9])
   refine Again.go _ ?_ ((ih_laws_toTypeS_l1 (out.set i v) (i + 1) o hF) _ rfl _ hq)
   exact (Gh.to3 (by simp) (by first | simp -dsimp [h2, z4, ↓e5, ↓e8, w9]; done | simp_all))
  ·have q3 : ¬ (i < a.length) := auq h2
   have z4 : ¬ ((i : Int) < (a.length : Int)) := auz
   rw [if_neg q3] at hF
   cases hF
   repeat (first | refine chk.ga ?_ | simp -dsimp [h2, q3, z4])
   refine Leave.go ⟨[(3, .own 0 (List.length (α := Vl.Ty) out))], [.elems 2 (List.map Vl.Ty.c out)]⟩ (Gh.to3 (by simp) (by first | simp -dsimp [h2, q3, z4]; done | simp_all)) ?_
   exact hq

theorem C.laws_toTypeS (a : List Vl.Ty) (r : List Vl.Ty) (hF : F.laws_toTypeS a = some r) : PureCall Tryz.prog B 117 [.arr (List.map Vl.Ty.c a)] (.arr (List.map Vl.Ty.c r)) := by
 unfold F.laws_toTypeS at hF
 refine PureCall.enterLe Tryz.func117 (by kernel_rfl) rfl Tryz.ntmps117 (by simp) (by simp) ?_
 have hF := oc hF; obtain ⟨c1, hF⟩ := hF
 repeat (first | refine chk.ga ?_ | simp -dsimp)
 have hF := ob hF; obtain ⟨o', ho10, hF⟩ := hF
 refine ALoop.goU _ ?_ (((CC.laws_toTypeS_l1 B hB1 hB2 a) (List.replicate a.length Vl.Ty.z) 0 o' ho10) _ rfl _ ?_)
 ·exact (Gh.to3 (by simp) (by simp -dsimp))
 cases hF
 repeat (first | refine chk.ga ?_ | simp -dsimp)
 all_goals (try first | omega | rfl)

theorem C.laws_toCtor (a : Vl.Ctor) (r : Vl.Ctor) (hF : F.laws_toCtor a = some r) : PureCall Tryz.prog B 82 [.agg [.lit (.string a.name), .arr (List.map Vl.Ty.c a.args), .lit (.int .i64 a.index)]] (.agg [.lit (.string r.name), .arr (List.map Vl.Ty.c r.args), .lit (.int .i64 r.index)]) := by
 unfold F.laws_toCtor at hF
 refine PureCall.enterLe Tryz.func82 (by kernel_rfl) rfl Tryz.ntmps82 (by simp) (by simp) ?_
 repeat (first | refine chk.ga ?_ | simp -dsimp)
 have hF := ob hF; obtain ⟨v, e1, hF⟩ := hF
 refine ((C.laws_toTypeS B hB1 hB2 a.args v e1)).goW (by simp) (by simp) ?_
 cases hF
 repeat (first | refine chk.ga ?_ | simp -dsimp)
 all_goals (try first | omega | rfl)

theorem CC.laws_toCtorS_l1 (a : List Vl.Ctor) : (∀ (out : List Vl.Ctor) (i : Nat) (o : List Vl.Ctor), F.laws_toCtorS_l1 a out i = some o → ∀ (c : Code), navO [1, 1, 0, 1, 0, 0] (bodyOf Tryz.f52) = some c → ∀ (Q : Exit → ASt → Prop), (Q (.exit 0) ⟨[(3, .own 0 (List.length (α := Vl.Ctor) o))], [.elems 3 (List.map Vl.Ctor.c o)]⟩) → ALoopU Tryz.prog B 0 23 (hold c .mk) ⟨[(0, .arr (List.map Vl.Ctor.c a)), (3, .own 0 (List.length (α := Vl.Ctor) out)), (4, .lit (.int .i64 (i : Int)))], [.elems 3 (List.map Vl.Ctor.c out)]⟩ (hold Q .mk)) := by
 refine F.laws_toCtorS_l1.partial_correctness a
  _
  ?_
 ·intro _f_laws_toCtorS_l1 ih_laws_toCtorS_l1 out i o hF
  intro c hc Q hq
  obtain rfl : c = _ := navEq hc rfl
  refine ALoopU.know fun hk hs => ?_
  have b0 := hk 0
  simp -dsimp at b0
  have d0 := hs 0 _ rfl
  simp -dsimp [Blk.bnd] at d0
  clear hk hs
  refine ALoopU.enter ?_
  repeat (first | refine chk.ga ?_ | simp -dsimp)
  refine abr.split (fun h2 => ?_) (fun h2 => ?_)
  ·have q3 : (i < a.length) := auq h2
   have z4 : ((i : Int) < (a.length : Int)) := auz
   rw [if_pos q3] at hF
   have hF := ob hF; obtain ⟨x, e5, hF⟩ := hF
   have le5 := lt_of_get e5
   repeat (first | refine chk.ga ?_ | simp -dsimp [h2, z4, ↓e5])
   have hF := ob hF; obtain ⟨v, e6, hF⟩ := hF
   refine ((C.laws_toCtor B hB1 hB2 x v e6)).goW (by first | simp [h2, z4, ↓e5]; done | simp_all) (by simp) ?_
   have hF := ob hF; obtain ⟨x7, e8, hF⟩ := hF
   have le8 := lt_of_get e8
   have w9 : IntKind.i64.wrap ((i : Int) + 1) = (i : Int) + 1 := wrap_in (by omega) (by omega)
   repeat (first | refine chk.ga ?_ | simp -dsimp [h2, z4, ↓e5, ↓e8, w9])
   refine Again.go _ ?_ ((ih_laws_toCtorS_l1 (out.set i v) (i + 1) o hF) _ rfl _ hq)
   exact (Gh.to3 (by simp) (by first | simp -dsimp [h2, z4, ↓e5, ↓e8, w9]; done | simp_all))
  ·have q3 : ¬ (i < a.length) := auq h2
   have z4 : ¬ ((i : Int) < (a.length : Int)) := auz
   rw [if_neg q3] at hF
   cases hF
   repeat (first | refine chk.ga ?_ | simp -dsimp [h2, q3, z4])
   refine Leave.go ⟨[(3, .own 0 (List.length (α := Vl.Ctor) out))], [.elems 3 (List.map Vl.Ctor.c out)]⟩ (Gh.to3 (by simp) (by first | simp -dsimp [h2, q3, z4]; done | simp_all)) ?_
   exact hq

theorem C.laws_toCtorS (a : List Vl.Ctor) (r : List Vl.Ctor) (hF : F.laws_toCtorS a = some r) : PureCall Tryz.prog B 52 [.arr (List.map Vl.Ctor.c a)] (.arr (List.map Vl.Ctor.c r)) := by
 unfold F.laws_toCtorS at hF
 refine PureCall.enterLe Tryz.func52 (by kernel_rfl) rfl Tryz.ntmps52 (by simp) (by simp) ?_
 have hF := oc hF; obtain ⟨c1, hF⟩ := hF
 repeat (first | refine chk.ga ?_ | simp -dsimp)
 have hF := ob hF; obtain ⟨o', ho10, hF⟩ := hF
 refine ALoop.goU _ ?_ (((CC.laws_toCtorS_l1 B hB1 hB2 a) (List.replicate a.length Vl.Ctor.z) 0 o' ho10) _ rfl _ ?_)
 ·exact (Gh.to3 (by simp) (by simp -dsimp))
 cases hF
 repeat (first | refine chk.ga ?_ | simp -dsimp)
 all_goals (try first | omega | rfl)

theorem C.laws_toData (a : Vl.Data) (r : Vl.Data) (hF : F.laws_toData a = some r) : PureCall Tryz.prog B 29 [.agg [.lit (.string a.name), .arr (List.map Vl.Ctor.c a.ctors)]] (.agg [.lit (.string r.name), .arr (List.map Vl.Ctor.c r.ctors)]) := by
 unfold F.laws_toData at hF
 refine PureCall.enterLe Tryz.func29 (by kernel_rfl) rfl Tryz.ntmps29 (by simp) (by simp) ?_
 repeat (first | refine chk.ga ?_ | simp -dsimp)
 have hF := ob hF; obtain ⟨v, e1, hF⟩ := hF
 refine ((C.laws_toCtorS B hB1 hB2 a.ctors v e1)).goW (by simp) (by simp) ?_
 cases hF
 repeat (first | refine chk.ga ?_ | simp -dsimp)
 all_goals (try first | omega | rfl)

theorem CC.laws_toDataS_l1 (a : List Vl.Data) : (∀ (out : List Vl.Data) (i : Nat) (o : List Vl.Data), F.laws_toDataS_l1 a out i = some o → ∀ (c : Code), navO [1, 1, 0, 1, 0, 0] (bodyOf Tryz.f10) = some c → ∀ (Q : Exit → ASt → Prop), (Q (.exit 0) ⟨[(3, .own 0 (List.length (α := Vl.Data) o))], [.elems 2 (List.map Vl.Data.c o)]⟩) → ALoopU Tryz.prog B 0 23 (hold c .mk) ⟨[(0, .arr (List.map Vl.Data.c a)), (3, .own 0 (List.length (α := Vl.Data) out)), (4, .lit (.int .i64 (i : Int)))], [.elems 2 (List.map Vl.Data.c out)]⟩ (hold Q .mk)) := by
 refine F.laws_toDataS_l1.partial_correctness a
  _
  ?_
 ·intro _f_laws_toDataS_l1 ih_laws_toDataS_l1 out i o hF
  intro c hc Q hq
  obtain rfl : c = _ := navEq hc rfl
  refine ALoopU.know fun hk hs => ?_
  have b0 := hk 0
  simp -dsimp at b0
  have d0 := hs 0 _ rfl
  simp -dsimp [Blk.bnd] at d0
  clear hk hs
  refine ALoopU.enter ?_
  repeat (first | refine chk.ga ?_ | simp -dsimp)
  refine abr.split (fun h2 => ?_) (fun h2 => ?_)
  ·have q3 : (i < a.length) := auq h2
   have z4 : ((i : Int) < (a.length : Int)) := auz
   rw [if_pos q3] at hF
   have hF := ob hF; obtain ⟨x, e5, hF⟩ := hF
   have le5 := lt_of_get e5
   repeat (first | refine chk.ga ?_ | simp -dsimp [h2, z4, ↓e5])
   have hF := ob hF; obtain ⟨v, e6, hF⟩ := hF
   refine ((C.laws_toData B hB1 hB2 x v e6)).goW (by first | simp [h2, z4, ↓e5]; done | simp_all) (by simp) ?_
   have hF := ob hF; obtain ⟨x7, e8, hF⟩ := hF
   have le8 := lt_of_get e8
   have w9 : IntKind.i64.wrap ((i : Int) + 1) = (i : Int) + 1 := wrap_in (by omega) (by omega)
   repeat (first | refine chk.ga ?_ | simp -dsimp [h2, z4, ↓e5, ↓e8, w9])
   refine Again.go _ ?_ ((ih_laws_toDataS_l1 (out.set i v) (i + 1) o hF) _ rfl _ hq)
   exact (Gh.to3 (by simp) (by first | simp -dsimp [h2, z4, ↓e5, ↓e8, w9]; done | simp_all))
  ·have q3 : ¬ (i < a.length) := auq h2
   have z4 : ¬ ((i : Int) < (a.length : Int)) := auz
   rw [if_neg q3] at hF
   cases hF
   repeat (first | refine chk.ga ?_ | simp -dsimp [h2, q3, z4])
   refine Leave.go ⟨[(3, .own 0 (List.length (α := Vl.Data) out))], [.elems 2 (List.map Vl.Data.c out)]⟩ (Gh.to3 (by simp) (by first | simp -dsimp [h2, q3, z4]; done | simp_all)) ?_
   exact hq

theorem C.laws_toDataS (a : List Vl.Data) (r : List Vl.Data) (hF : F.laws_toDataS a = some r) : PureCall Tryz.prog B 10 [.arr (List.map Vl.Data.c a)] (.arr (List.map Vl.Data.c r)) := by
 unfold F.laws_toDataS at hF
 refine PureCall.enterLe Tryz.func10 (by kernel_rfl) rfl Tryz.ntmps10 (by simp) (by simp) ?_
 have hF := oc hF; obtain ⟨c1, hF⟩ := hF
 repeat (first | refine chk.ga ?_ | simp -dsimp)
 have hF := ob hF; obtain ⟨o', ho10, hF⟩ := hF
 refine ALoop.goU _ ?_ (((CC.laws_toDataS_l1 B hB1 hB2 a) (List.replicate a.length Vl.Data.z) 0 o' ho10) _ rfl _ ?_)
 ·exact (Gh.to3 (by simp) (by simp -dsimp))
 cases hF
 repeat (first | refine chk.ga ?_ | simp -dsimp)
 all_goals (try first | omega | rfl)

theorem CC.laws_toPattern  : (∀ (a : Vl.Pattern) (r : Vl.Pattern), F.laws_toPattern a = some r → PureCall Tryz.prog B 66 [.agg [.lit (.int .i64 a.op), .lit (.int .i64 a.ctor), .lit (.int .i64 a.n), .lit (.int .i64 a.m), .lit (.int .i64 a.var), .arr (List.map Vl.Pattern.c a.kids)]] (.agg [.lit (.int .i64 r.op), .lit (.int .i64 r.ctor), .lit (.int .i64 r.n), .lit (.int .i64 r.m), .lit (.int .i64 r.var), .arr (List.map Vl.Pattern.c r.kids)])) ∧
  (∀ (a : List Vl.Pattern) (r : List Vl.Pattern), F.laws_toPatternS a = some r → PureCall Tryz.prog B 104 [.arr (List.map Vl.Pattern.c a)] (.arr (List.map Vl.Pattern.c r))) ∧
  (∀ (a : List Vl.Pattern) (out : List Vl.Pattern) (i : Nat) (o : List Vl.Pattern), F.laws_toPatternS_l1 a out i = some o → ∀ (c : Code), navO [1, 1, 0, 1, 0, 0] (bodyOf Tryz.f104) = some c → ∀ (Q : Exit → ASt → Prop), (Q (.exit 0) ⟨[(3, .own 0 (List.length (α := Vl.Pattern) o))], [.elems 6 (List.map Vl.Pattern.c o)]⟩) → ALoopU Tryz.prog B 0 23 (hold c .mk) ⟨[(0, .arr (List.map Vl.Pattern.c a)), (3, .own 0 (List.length (α := Vl.Pattern) out)), (4, .lit (.int .i64 (i : Int)))], [.elems 6 (List.map Vl.Pattern.c out)]⟩ (hold Q .mk)) := by
 refine F.laws_toPattern.mutual_partial_correctness 
  _ _ _
  ?_ ?_ ?_
 ·intro _f_laws_toPatternS ih_laws_toPatternS a r hF
  refine PureCall.enterLe Tryz.func66 (by kernel_rfl) rfl Tryz.ntmps66 (by simp) (by simp) ?_
  repeat (first | refine chk.ga ?_ | simp -dsimp)
  have hF := ob hF; obtain ⟨v, e1, hF⟩ := hF
  refine ((ih_laws_toPatternS a.kids v e1)).goW (by simp) (by simp) ?_
  cases hF
  repeat (first | refine chk.ga ?_ | simp -dsimp)
  all_goals (try first | omega | rfl)
 ·intro _f_laws_toPatternS_l1 ih_laws_toPatternS_l1 a r hF
  refine PureCall.enterLe Tryz.func104 (by kernel_rfl) rfl Tryz.ntmps104 (by simp) (by simp) ?_
  have hF := oc hF; obtain ⟨c1, hF⟩ := hF
  repeat (first | refine chk.ga ?_ | simp -dsimp)
  have hF := ob hF; obtain ⟨o', ho10, hF⟩ := hF
  refine ALoop.goU _ ?_ ((ih_laws_toPatternS_l1 a (List.replicate a.length Vl.Pattern.z) 0 o' ho10) _ rfl _ ?_)
  ·exact (Gh.to3 (by simp) (by simp -dsimp))
  cases hF
  repeat (first | refine chk.ga ?_ | simp -dsimp)
  all_goals (try first | omega | rfl)
 ·intro _f_laws_toPattern _f_laws_toPatternS_l1 ih_laws_toPattern ih_laws_toPatternS_l1 a out i o hF
  intro c hc Q hq
  obtain rfl : c = _ := navEq hc rfl
  refine ALoopU.know fun hk hs => ?_
  have b0 := hk 0
  simp -dsimp at b0
  have d0 := hs 0 _ rfl
  simp -dsimp [Blk.bnd] at d0
  clear hk hs
  refine ALoopU.enter ?_
  repeat (first | refine chk.ga ?_ | simp -dsimp)
  refine abr.split (fun h2 => ?_) (fun h2 => ?_)
  ·have q3 : (i < a.length) := auq h2
   have z4 : ((i : Int) < (a.length : Int)) := auz
   rw [if_pos q3] at hF
   have hF := ob hF; obtain ⟨x, e5, hF⟩ := hF
   have le5 := lt_of_get e5
   repeat (first | refine chk.ga ?_ | simp -dsimp [h2, z4, ↓e5])
   have hF := ob hF; obtain ⟨v, e6, hF⟩ := hF
   refine ((ih_laws_toPattern x v e6)).goW (by first | simp [h2, z4, ↓e5]; done | simp_all) (by simp) ?_
   have hF := ob hF; obtain ⟨x7, e8, hF⟩ := hF
   have le8 := lt_of_get e8
   have w9 : IntKind.i64.wrap ((i : Int) + 1) = (i : Int) + 1 := wrap_in (by omega) (by omega)
   repeat (first | refine chk.ga ?_ | simp -dsimp [h2, z4, ↓e5, ↓e8, w9])
   refine Again.go _ ?_ ((ih_laws_toPatternS_l1 a (out.set i v) (i + 1) o hF) _ rfl _ hq)
   exact (Gh.to3 (by simp) (by first | simp -dsimp [h2, z4, ↓e5, ↓e8, w9]; done | simp_all))
  ·have q3 : ¬ (i < a.length) := auq h2
   have z4 : ¬ ((i : Int) < (a.length : Int)) := auz
   rw [if_neg q3] at hF
   cases hF
   repeat (first | refine chk.ga ?_ | simp -dsimp [h2, q3, z4])
   refine Leave.go ⟨[(3, .own 0 (List.length (α := Vl.Pattern) out))], [.elems 6 (List.map Vl.Pattern.c out)]⟩ (Gh.to3 (by simp) (by first | simp -dsimp [h2, q3, z4]; done | simp_all)) ?_
   exact hq

theorem C.laws_toGuard (a : Vl.Guard) (r : Vl.Guard) (hF : F.laws_toGuard a = some r) : PureCall Tryz.prog B 67 [.agg [.lit (.int .i64 a.op), .lit (.int .i64 a.var), .lit (.int .i64 a.n)]] (.agg [.lit (.int .i64 r.op), .lit (.int .i64 r.var), .lit (.int .i64 r.n)]) := by
 unfold F.laws_toGuard at hF
 refine PureCall.enterLe Tryz.func67 (by kernel_rfl) rfl Tryz.ntmps67 (by simp) (by simp) ?_
 cases hF
 repeat (first | refine chk.ga ?_ | simp -dsimp)
 all_goals (try first | omega | rfl)

theorem C.laws_toClause (a : Vl.Clause) (r : Vl.Clause) (hF : F.laws_toClause a = some r) : PureCall Tryz.prog B 42 [.agg [.lit (.int .i64 a.pat.op), .lit (.int .i64 a.pat.ctor), .lit (.int .i64 a.pat.n), .lit (.int .i64 a.pat.m), .lit (.int .i64 a.pat.var), .arr (List.map Vl.Pattern.c a.pat.kids), .lit (.int .i64 a.guard.op), .lit (.int .i64 a.guard.var), .lit (.int .i64 a.guard.n)]] (.agg [.lit (.int .i64 r.pat.op), .lit (.int .i64 r.pat.ctor), .lit (.int .i64 r.pat.n), .lit (.int .i64 r.pat.m), .lit (.int .i64 r.pat.var), .arr (List.map Vl.Pattern.c r.pat.kids), .lit (.int .i64 r.guard.op), .lit (.int .i64 r.guard.var), .lit (.int .i64 r.guard.n)]) := by
 unfold F.laws_toClause at hF
 refine PureCall.enterLe Tryz.func42 (by kernel_rfl) rfl Tryz.ntmps42 (by simp) (by simp) ?_
 repeat (first | refine chk.ga ?_ | simp -dsimp)
 have hF := ob hF; obtain ⟨v, e1, hF⟩ := hF
 refine (((CC.laws_toPattern B hB1 hB2 ).1 a.pat v e1)).goW (by simp) (by simp) ?_
 repeat (first | refine chk.ga ?_ | simp -dsimp)
 have hF := ob hF; obtain ⟨v2, e3, hF⟩ := hF
 refine ((C.laws_toGuard B hB1 hB2 a.guard v2 e3)).goW (by simp) (by simp) ?_
 cases hF
 repeat (first | refine chk.ga ?_ | simp -dsimp)
 all_goals (try first | omega | rfl)

theorem CC.laws_toClauseS_l1 (a : List Vl.Clause) : (∀ (out : List Vl.Clause) (i : Nat) (o : List Vl.Clause), F.laws_toClauseS_l1 a out i = some o → ∀ (c : Code), navO [1, 1, 0, 1, 0, 0] (bodyOf Tryz.f22) = some c → ∀ (Q : Exit → ASt → Prop), (Q (.exit 0) ⟨[(3, .own 0 (List.length (α := Vl.Clause) o))], [.elems 9 (List.map Vl.Clause.c o)]⟩) → ALoopU Tryz.prog B 0 23 (hold c .mk) ⟨[(0, .arr (List.map Vl.Clause.c a)), (3, .own 0 (List.length (α := Vl.Clause) out)), (4, .lit (.int .i64 (i : Int)))], [.elems 9 (List.map Vl.Clause.c out)]⟩ (hold Q .mk)) := by
 refine F.laws_toClauseS_l1.partial_correctness a
  _
  ?_
 ·intro _f_laws_toClauseS_l1 ih_laws_toClauseS_l1 out i o hF
  intro c hc Q hq
  obtain rfl : c = _ := navEq hc rfl
  refine ALoopU.know fun hk hs => ?_
  have b0 := hk 0
  simp -dsimp at b0
  have d0 := hs 0 _ rfl
  simp -dsimp [Blk.bnd] at d0
  clear hk hs
  refine ALoopU.enter ?_
  repeat (first | refine chk.ga ?_ | simp -dsimp)
  refine abr.split (fun h2 => ?_) (fun h2 => ?_)
  ·have q3 : (i < a.length) := auq h2
   have z4 : ((i : Int) < (a.length : Int)) := auz
   rw [if_pos q3] at hF
   have hF := ob hF; obtain ⟨x, e5, hF⟩ := hF
   have le5 := lt_of_get e5
   repeat (first | refine chk.ga ?_ | simp -dsimp [h2, z4, ↓e5])
   have hF := ob hF; obtain ⟨v, e6, hF⟩ := hF
   refine ((C.laws_toClause B hB1 hB2 x v e6)).goW (by first | simp [h2, z4, ↓e5]; done | simp_all) (by simp) ?_
   have hF := ob hF; obtain ⟨x7, e8, hF⟩ := hF
   have le8 := lt_of_get e8
   have w9 : IntKind.i64.wrap ((i : Int) + 1) = (i : Int) + 1 := wrap_in (by omega) (by omega)
   repeat (first | refine chk.ga ?_ | simp -dsimp [h2, z4, ↓e5, ↓e8, w9])
   refine Again.go _ ?_ ((ih_laws_toClauseS_l1 (out.set i v) (i + 1) o hF) _ rfl _ hq)
   exact (Gh.to3 (by simp) (by first | simp -dsimp [h2, z4, ↓e5, ↓e8, w9]; done | simp_all))
  ·have q3 : ¬ (i < a.length) := auq h2
   have z4 : ¬ ((i : Int) < (a.length : Int)) := auz
   rw [if_neg q3] at hF
   cases hF
   repeat (first | refine chk.ga ?_ | simp -dsimp [h2, q3, z4])
   refine Leave.go ⟨[(3, .own 0 (List.length (α := Vl.Clause) out))], [.elems 9 (List.map Vl.Clause.c out)]⟩ (Gh.to3 (by simp) (by first | simp -dsimp [h2, q3, z4]; done | simp_all)) ?_
   exact hq

theorem C.laws_toClauseS (a : List Vl.Clause) (r : List Vl.Clause) (hF : F.laws_toClauseS a = some r) : PureCall Tryz.prog B 22 [.arr (List.map Vl.Clause.c a)] (.arr (List.map Vl.Clause.c r)) := by
 unfold F.laws_toClauseS at hF
 refine PureCall.enterLe Tryz.func22 (by kernel_rfl) rfl Tryz.ntmps22 (by simp) (by simp) ?_
 have hF := oc hF; obtain ⟨c1, hF⟩ := hF
 repeat (first | refine chk.ga ?_ | simp -dsimp)
 have hF := ob hF; obtain ⟨o', ho10, hF⟩ := hF
 refine ALoop.goU _ ?_ (((CC.laws_toClauseS_l1 B hB1 hB2 a) (List.replicate a.length Vl.Clause.z) 0 o' ho10) _ rfl _ ?_)
 ·exact (Gh.to3 (by simp) (by simp -dsimp))
 cases hF
 repeat (first | refine chk.ga ?_ | simp -dsimp)
 all_goals (try first | omega | rfl)

theorem C.spec_l1Big (c' : Int) (r : Bool) (hF : F.spec_l1Big c' = some r) : PureCall Tryz.prog B 149 [.lit (.int .u8 c')] (.lit (.bool r)) := by
 unfold F.spec_l1Big at hF
 refine PureCall.enterLe Tryz.func149 (by kernel_rfl) rfl Tryz.ntmps149 (by simp) (by simp) ?_
 repeat (first | refine chk.ga ?_ | simp -dsimp)
 refine abr.split (fun h1 => ?_) (fun h1 => ?_)
 ·have q2 : (65 ≤ c') := auq h1
  rw [if_pos q2] at hF
  cases hF
  repeat (first | refine chk.ga ?_ | simp -dsimp [h1])
  all_goals (try first | omega | rfl)
 ·have q2 : ¬ (65 ≤ c') := auq h1
  rw [if_neg q2] at hF
  cases hF
  repeat (first | refine chk.ga ?_ | simp -dsimp [h1, q2])
  all_goals (try first | omega | rfl)

theorem C.spec_l1Data (s : ByteArray) (r : Bool) (hF : F.spec_l1Data s = some r) : PureCall Tryz.prog B 125 [.lit (.string s)] (.lit (.bool r)) := by
 unfold F.spec_l1Data at hF
 refine PureCall.enterLe Tryz.func125 (by kernel_rfl) rfl Tryz.ntmps125 (by simp) (by simp) ?_
 repeat (first | refine chk.ga ?_ | simp -dsimp)
 refine abr.split (fun h1 => ?_) (fun h1 => ?_)
 ·have q2 : (s.size = 1) := auq h1
  have z3 : ((s.size : Int) = (1 : Int)) := auz
  rw [if_pos q2] at hF
  have hF := oc hF; obtain ⟨c4, hF⟩ := hF
  repeat (first | refine chk.ga ?_ | simp -dsimp [h1, z3])
  have hF := ob hF; obtain ⟨v, e5, hF⟩ := hF
  refine ((C.spec_l1Big B hB1 hB2 ((byteAt s 0 : Nat) : Int) v e5)).goW (by first | simp [h1, z3]; done | simp_all) (by simp) ?_
  repeat (first | refine chk.ga ?_ | simp -dsimp [h1, z3])
  refine abr.split (fun h6 => ?_) (fun h6 => ?_)
  ·have q7 : (v = true) := auq h6
   rw [if_pos q7] at hF
   cases hF
   repeat (first | refine chk.ga ?_ | simp -dsimp [h1, z3, h6])
   all_goals (try first | omega | rfl)
  ·have q7 : ¬ (v = true) := auq h6
   rw [if_neg q7] at hF
   cases hF
   repeat (first | refine chk.ga ?_ | simp -dsimp [h1, z3, h6, q7])
   all_goals (try first | omega | rfl)
 ·have q2 : ¬ (s.size = 1) := auq h1
  have z3 : ¬ ((s.size : Int) = (1 : Int)) := auz
  rw [if_neg q2] at hF
  cases hF
  repeat (first | refine chk.ga ?_ | simp -dsimp [h1, q2, z3])
  all_goals (try first | omega | rfl)

theorem CC.spec_NameValid_l1 (s : ByteArray) : (∀ (i : Nat) (o : Lo Bool Unit), F.spec_NameValid_l1 s i = some o → ∀ (c : Code), navO [1, 1, 0, 1, 0, 0] (bodyOf Tryz.f150) = some c → ∀ (Q : Exit → ASt → Prop), o.post (fun r => ∀ st, Post Tryz.prog Tryz.f150 (fun r' _ => r'.le (.lit (.bool r))) .ret st → Q .ret st) (fun s => Q (.exit 0) ⟨[], []⟩) → ALoopU Tryz.prog B 0 34 (hold c .mk) ⟨[(0, .lit (.string s)), (3, .lit (.int .i64 (i : Int)))], []⟩ (hold Q .mk)) := by
 refine F.spec_NameValid_l1.partial_correctness s
  _
  ?_
 ·intro _f_spec_NameValid_l1 ih_spec_NameValid_l1 i o hF
  intro c hc Q hq
  obtain rfl : c = _ := navEq hc rfl
  refine ALoopU.know fun hk hs => ?_
  clear hk hs
  refine ALoopU.enter ?_
  repeat (first | refine chk.ga ?_ | simp -dsimp)
  refine abr.split (fun h11 => ?_) (fun h11 => ?_)
  ·have q12 : (i < s.size) := auq h11
   have z13 : ((i : Int) < (s.size : Int)) := auz
   rw [if_pos q12] at hF
   repeat (first | refine chk.ga ?_ | simp -dsimp [h11, z13])
   refine abr.split (fun h14 => ?_) (fun h14 => ?_)
   ·have q15 : ¬ (byteAt s i < 97) := auq h14
    have z16 : ¬ (((byteAt s i : Nat) : Int) < (97 : Int)) := auz
    rw [if_neg q15] at hF
    repeat (first | refine chk.ga ?_ | simp -dsimp [h11, z13, h14, q15, z16])
    refine abr.split (fun h17 => ?_) (fun h17 => ?_)
    ·have q18 : (122 < byteAt s i) := auq h17
     have z19 : ((122 : Int) < ((byteAt s i : Nat) : Int)) := auz
     rw [if_pos q18] at hF
     cases hF
     repeat (first | refine chk.ga ?_ | simp -dsimp [h11, z13, h14, q15, z16, h17, z19])
     refine Leave.go _ (Gh.refl _) (hq _ ?_)
     repeat (first | refine chk.ga ?_ | simp -dsimp [h11, z13, h14, q15, z16, h17, z19])
    ·have q18 : ¬ (122 < byteAt s i) := auq h17
     have z19 : ¬ ((122 : Int) < ((byteAt s i : Nat) : Int)) := auz
     rw [if_neg q18] at hF
     have hF := oc hF; obtain ⟨c20, hF⟩ := hF
     have w21 : IntKind.i64.wrap ((i : Int) + 1) = (i : Int) + 1 := wrap_in (by omega) (by omega)
     repeat (first | refine chk.ga ?_ | simp -dsimp [h11, z13, h14, q15, z16, h17, q18, z19, w21])
     refine Again.go _ ?_ ((ih_spec_NameValid_l1 (i + 1) o hF) _ rfl _ hq)
     exact (Gh.to3 (by simp) (by first | simp -dsimp [h11, z13, h14, q15, z16, h17, q18, z19, w21]; done | simp_all))
   ·have q15 : (byteAt s i < 97) := auq h14
    have z16 : (((byteAt s i : Nat) : Int) < (97 : Int)) := auz
    rw [if_pos q15] at hF
    cases hF
    repeat (first | refine chk.ga ?_ | simp -dsimp [h11, z13, h14, q15, z16])
    refine Leave.go _ (Gh.refl _) (hq _ ?_)
    repeat (first | refine chk.ga ?_ | simp -dsimp [h11, z13, h14, q15, z16])
  ·have q12 : ¬ (i < s.size) := auq h11
   have z13 : ¬ ((i : Int) < (s.size : Int)) := auz
   rw [if_neg q12] at hF
   cases hF
   repeat (first | refine chk.ga ?_ | simp -dsimp [h11, q12, z13])
   refine Leave.go ⟨[], []⟩ (Gh.to3 (by simp) (by first | simp -dsimp [h11, q12, z13]; done | simp_all)) ?_
   exact hq

theorem C.spec_NameValid (s : ByteArray) (r : Bool) (hF : F.spec_NameValid s = some r) : PureCall Tryz.prog B 150 [.lit (.string s)] (.lit (.bool r)) := by
 unfold F.spec_NameValid at hF
 refine PureCall.enterLe Tryz.func150 (by kernel_rfl) rfl Tryz.ntmps150 (by simp) (by simp) ?_
 repeat (first | refine chk.ga ?_ | simp -dsimp)
 refine abr.split (fun h1 => ?_) (fun h1 => ?_)
 ·have q2 : ¬ (s.size = 0) := auq h1
  have z3 : ¬ ((s.size : Int) = (0 : Int)) := auz
  rw [if_neg q2] at hF
  repeat (first | refine chk.ga ?_ | simp -dsimp [h1, q2, z3])
  refine abr.split (fun h4 => ?_) (fun h4 => ?_)
  ·have q5 : ¬ (5 < s.size) := auq h4
   have z6 : ¬ ((5 : Int) < (s.size : Int)) := auz
   rw [if_neg q5] at hF
   have hF := oc hF; obtain ⟨c7, hF⟩ := hF
   repeat (first | refine chk.ga ?_ | simp -dsimp [h1, q2, z3, h4, q5, z6])
   have hF := ob hF; obtain ⟨v, e8, hF⟩ := hF
   refine ((C.spec_l1Big B hB1 hB2 ((byteAt s 0 : Nat) : Int) v e8)).goW (by first | simp [h1, q2, z3, h4, q5, z6]; done | simp_all) (by simp) ?_
   repeat (first | refine chk.ga ?_ | simp -dsimp [h1, q2, z3, h4, q5, z6])
   refine abr.split (fun h9 => ?_) (fun h9 => ?_)
   ·have q10 : ¬ (v = true) := auq h9
    rw [if_neg q10] at hF
    cases hF
    repeat (first | refine chk.ga ?_ | simp -dsimp [h1, q2, z3, h4, q5, z6, h9, q10])
    all_goals (try first | omega | rfl)
   ·have q10 : (v = true) := auq h9
    rw [if_pos q10] at hF
    repeat (first | refine chk.ga ?_ | simp -dsimp [h1, q2, z3, h4, q5, z6, h9, q10])
    have hF := ob hF; obtain ⟨o', ho22, hF⟩ := hF
    refine ALoop.goU _ ?_ (((CC.spec_NameValid_l1 B hB1 hB2 s) 1 o' ho22) _ rfl _ ?_)
    ·exact (Gh.to3 (by simp) (by first | simp -dsimp [h1, q2, z3, h4, q5, z6, h9, q10]; done | simp_all))
    rcases o' with r0 | sx
    ·dsimp only at hF
     cases hF
     intro st h
     simpa using h
    ·dsimp only at hF
     cases hF
     repeat (first | refine chk.ga ?_ | simp -dsimp)
     all_goals (try first | omega | rfl)
  ·have q5 : (5 < s.size) := auq h4
   have z6 : ((5 : Int) < (s.size : Int)) := auz
   rw [if_pos q5] at hF
   cases hF
   repeat (first | refine chk.ga ?_ | simp -dsimp [h1, q2, z3, h4, q5, z6])
   all_goals (try first | omega | rfl)
 ·have q2 : (s.size = 0) := auq h1
  have z3 : ((s.size : Int) = (0 : Int)) := auz
  rw [if_pos q2] at hF
  cases hF
  repeat (first | refine chk.ga ?_ | simp -dsimp [h1, q2, z3])
  all_goals (try first | omega | rfl)

theorem C.spec_l1Arg (n : Int) (t : Vl.Ty) (r : Bool) (hF : F.spec_l1Arg n t = some r) : PureCall Tryz.prog B 128 [.lit (.int .i64 n), .agg [.lit (.int .i64 t.data), .lit (.int .i64 t.index)]] (.lit (.bool r)) := by
 unfold F.spec_l1Arg at hF
 refine PureCall.enterLe Tryz.func128 (by kernel_rfl) rfl Tryz.ntmps128 (by simp) (by simp) ?_
 repeat (first | refine chk.ga ?_ | simp -dsimp)
 refine abr.split (fun h1 => ?_) (fun h1 => ?_)
 ·have q2 : (t.data = (-1)) := auq h1
  rw [if_pos q2] at hF
  cases hF
  repeat (first | refine chk.ga ?_ | simp -dsimp [h1])
  all_goals (try first | omega | rfl)
 ·have q2 : ¬ (t.data = (-1)) := auq h1
  rw [if_neg q2] at hF
  repeat (first | refine chk.ga ?_ | simp -dsimp [h1, q2])
  refine abr.split (fun h3 => ?_) (fun h3 => ?_)
  ·have q4 : (0 ≤ t.data) := auq h3
   rw [if_pos q4] at hF
   repeat (first | refine chk.ga ?_ | simp -dsimp [h1, q2, h3])
   refine abr.split (fun h5 => ?_) (fun h5 => ?_)
   ·have q6 : (t.data < n) := auq h5
    rw [if_pos q6] at hF
    repeat (first | refine chk.ga ?_ | simp -dsimp [h1, q2, h3, h5])
    refine abr.split (fun h7 => ?_) (fun h7 => ?_)
    ·have q8 : ((-1) ≤ t.index) := auq h7
     rw [if_pos q8] at hF
     cases hF
     repeat (first | refine chk.ga ?_ | simp -dsimp [h1, q2, h3, h5, h7])
     all_goals (try first | omega | rfl)
    ·have q8 : ¬ ((-1) ≤ t.index) := auq h7
     rw [if_neg q8] at hF
     cases hF
     repeat (first | refine chk.ga ?_ | simp -dsimp [h1, q2, h3, h5, h7, q8])
     all_goals (try first | omega | rfl)
   ·have q6 : ¬ (t.data < n) := auq h5
    rw [if_neg q6] at hF
    cases hF
    repeat (first | refine chk.ga ?_ | simp -dsimp [h1, q2, h3, h5, q6])
    all_goals (try first | omega | rfl)
  ·have q4 : ¬ (0 ≤ t.data) := auq h3
   rw [if_neg q4] at hF
   cases hF
   repeat (first | refine chk.ga ?_ | simp -dsimp [h1, q2, h3, q4])
   all_goals (try first | omega | rfl)

theorem CC.spec_l1Ctor_l1 (n : Int) (c' : Vl.Ctor) : (∀ (i : Nat) (o : Lo Bool Unit), F.spec_l1Ctor_l1 n c' i = some o → ∀ (c : Code), navO [1, 1, 0, 1, 0, 0] (bodyOf Tryz.f126) = some c → ∀ (Q : Exit → ASt → Prop), o.post (fun r => ∀ st, Post Tryz.prog Tryz.f126 (fun r' _ => r'.le (.lit (.bool r))) .ret st → Q .ret st) (fun s => Q (.exit 0) ⟨[], []⟩) → ALoopU Tryz.prog B 0 41 (hold c .mk) ⟨[(0, .lit (.int .i64 n)), (3, .ptr 0 0), (5, .lit (.int .i64 (i : Int)))], [.cells [.lit (.string c'.name), .arr (List.map Vl.Ty.c c'.args), .lit (.int .i64 c'.index)]]⟩ (hold Q .mk)) := by
 refine F.spec_l1Ctor_l1.partial_correctness n c'
  _
  ?_
 ·intro _f_spec_l1Ctor_l1 ih_spec_l1Ctor_l1 i o hF
  intro c hc Q hq
  obtain rfl : c = _ := navEq hc rfl
  refine ALoopU.know fun hk hs => ?_
  have d0 := hs 0 _ rfl
  simp -dsimp [Blk.bnd] at d0
  clear hk hs
  refine ALoopU.enter ?_
  repeat (first | refine chk.ga ?_ | simp -dsimp)
  refine abr.split (fun h11 => ?_) (fun h11 => ?_)
  ·have q12 : (i < c'.args.length) := auq h11
   have z13 : ((i : Int) < (c'.args.length : Int)) := auz
   rw [if_pos q12] at hF
   have hF := ob hF; obtain ⟨x, e14, hF⟩ := hF
   have le14 := lt_of_get e14
   repeat (first | refine chk.ga ?_ | simp -dsimp [h11, z13, ↓e14])
   have hF := ob hF; obtain ⟨v15, e16, hF⟩ := hF
   refine ((C.spec_l1Arg B hB1 hB2 n x v15 e16)).goW (by first | simp [h11, z13, ↓e14]; done | simp_all) (by simp) ?_
   repeat (first | refine chk.ga ?_ | simp -dsimp [h11, z13, ↓e14])
   refine abr.split (fun h17 => ?_) (fun h17 => ?_)
   ·have q18 : ¬ (v15 = true) := auq h17
    rw [if_neg q18] at hF
    cases hF
    repeat (first | refine chk.ga ?_ | simp -dsimp [h11, z13, ↓e14, h17, q18])
    refine Leave.go _ (Gh.refl _) (hq _ ?_)
    repeat (first | refine chk.ga ?_ | simp -dsimp [h11, z13, ↓e14, h17, q18])
   ·have q18 : (v15 = true) := auq h17
    rw [if_pos q18] at hF
    have w19 : IntKind.i64.wrap ((i : Int) + 1) = (i : Int) + 1 := wrap_in (by omega) (by omega)
    repeat (first | refine chk.ga ?_ | simp -dsimp [h11, z13, ↓e14, h17, q18, w19])
    refine Again.go _ ?_ ((ih_spec_l1Ctor_l1 (i + 1) o hF) _ rfl _ hq)
    exact (Gh.to3 (by simp) (by first | simp -dsimp [h11, z13, ↓e14, h17, q18, w19]; done | simp_all))
  ·have q12 : ¬ (i < c'.args.length) := auq h11
   have z13 : ¬ ((i : Int) < (c'.args.length : Int)) := auz
   rw [if_neg q12] at hF
   cases hF
   repeat (first | refine chk.ga ?_ | simp -dsimp [h11, q12, z13])
   refine Leave.go ⟨[], []⟩ (Gh.to3 (by simp) (by first | simp -dsimp [h11, q12, z13]; done | simp_all)) ?_
   exact hq

theorem C.spec_l1Ctor (n : Int) (c' : Vl.Ctor) (r : Bool) (hF : F.spec_l1Ctor n c' = some r) : PureCall Tryz.prog B 126 [.lit (.int .i64 n), .agg [.lit (.string c'.name), .arr (List.map Vl.Ty.c c'.args), .lit (.int .i64 c'.index)]] (.lit (.bool r)) := by
 unfold F.spec_l1Ctor at hF
 refine PureCall.enterLe Tryz.func126 (by kernel_rfl) rfl Tryz.ntmps126 (by simp) (by simp) ?_
 repeat (first | refine chk.ga ?_ | simp -dsimp)
 have hF := ob hF; obtain ⟨v, e1, hF⟩ := hF
 refine ((C.spec_NameValid B hB1 hB2 c'.name v e1)).goW (by simp) (by simp) ?_
 repeat (first | refine chk.ga ?_ | simp -dsimp)
 refine abr.split (fun h2 => ?_) (fun h2 => ?_)
 ·have q3 : (v = true) := auq h2
  rw [if_pos q3] at hF
  repeat (first | refine chk.ga ?_ | simp -dsimp [h2])
  refine abr.split (fun h4 => ?_) (fun h4 => ?_)
  ·have q5 : ¬ (3 < c'.args.length) := auq h4
   have z6 : ¬ ((3 : Int) < (c'.args.length : Int)) := auz
   rw [if_neg q5] at hF
   repeat (first | refine chk.ga ?_ | simp -dsimp [h2, h4, q5, z6])
   refine abr.split (fun h7 => ?_) (fun h7 => ?_)
   ·have q8 : ¬ (c'.index < 0) := auq h7
    rw [if_neg q8] at hF
    repeat (first | refine chk.ga ?_ | simp -dsimp [h2, h4, q5, z6, h7, q8])
    refine abr.split (fun h9 => ?_) (fun h9 => ?_)
    ·have q10 : (3 < c'.index) := auq h9
     rw [if_pos q10] at hF
     cases hF
     repeat (first | refine chk.ga ?_ | simp -dsimp [h2, h4, q5, z6, h7, q8, h9])
     all_goals (try first | omega | rfl)
    ·have q10 : ¬ (3 < c'.index) := auq h9
     rw [if_neg q10] at hF
     repeat (first | refine chk.ga ?_ | simp -dsimp [h2, h4, q5, z6, h7, q8, h9, q10])
     have hF := ob hF; obtain ⟨o', ho20, hF⟩ := hF
     refine ALoop.goU _ ?_ (((CC.spec_l1Ctor_l1 B hB1 hB2 n c') 0 o' ho20) _ rfl _ ?_)
     ·exact (Gh.to3 (by simp) (by first | simp -dsimp [h2, h4, q5, z6, h7, q8, h9, q10]; done | simp_all))
     rcases o' with r0 | sx
     ·dsimp only at hF
      cases hF
      intro st h
      simpa using h
     ·dsimp only at hF
      cases hF
      repeat (first | refine chk.ga ?_ | simp -dsimp)
      all_goals (try first | omega | rfl)
   ·have q8 : (c'.index < 0) := auq h7
    rw [if_pos q8] at hF
    cases hF
    repeat (first | refine chk.ga ?_ | simp -dsimp [h2, h4, q5, z6, h7, q8])
    all_goals (try first | omega | rfl)
  ·have q5 : (3 < c'.args.length) := auq h4
   have z6 : ((3 : Int) < (c'.args.length : Int)) := auz
   rw [if_pos q5] at hF
   cases hF
   repeat (first | refine chk.ga ?_ | simp -dsimp [h2, h4, q5, z6])
   all_goals (try first | omega | rfl)
 ·have q3 : ¬ (v = true) := auq h2
  rw [if_neg q3] at hF
  cases hF
  repeat (first | refine chk.ga ?_ | simp -dsimp [h2, q3])
  all_goals (try first | omega | rfl)

theorem CC.spec_l1Twice_l2 (w : List Vl.Data) (d : Int) (k : Int) (i : Nat) : (∀ (j : Nat) (o : Lo Bool Unit), F.spec_l1Twice_l2 w d k i j = some o → ∀ (c : Code), navO [1, 0, 1, 0, 0, 1, 0, 0, 1, 1, 0, 0] (bodyOf Tryz.f127) = some c → ∀ (Q : Exit → ASt → Prop), o.post (fun r => ∀ st, Post Tryz.prog Tryz.f127 (fun r' _ => r'.le (.lit (.bool r))) .ret st → Q .ret st) (fun s => Q (.exit 2) ⟨[(0, .arr (List.map Vl.Data.c w)), (1, .lit (.int .i64 d)), (2, .lit (.int .i64 k)), (7, .lit (.int .i64 (i : Int)))], []⟩) → ALoopU Tryz.prog B 0 79 (hold c .mk) ⟨[(0, .arr (List.map Vl.Data.c w)), (1, .lit (.int .i64 d)), (2, .lit (.int .i64 k)), (7, .lit (.int .i64 (i : Int))), (8, .lit (.int .i64 (j : Int)))], []⟩ (hold Q .mk)) := by
 refine F.spec_l1Twice_l2.partial_correctness w d k i
  _
  ?_
 ·intro _f_spec_l1Twice_l2 ih_spec_l1Twice_l2 j o hF
  intro c hc Q hq
  obtain rfl : c = _ := navEq hc rfl
  refine ALoopU.know fun hk hs => ?_
  have b0 := hk 0
  simp -dsimp at b0
  clear hk hs
  refine ALoopU.enter ?_
  have hF := ob hF; obtain ⟨x10, e11, hF⟩ := hF
  have le11 := lt_of_get e11
  repeat (first | refine chk.ga ?_ | simp -dsimp [↓e11])
  refine abr.split (fun h12 => ?_) (fun h12 => ?_)
  ·have q13 : (j < x10.ctors.length) := auq h12
   have z14 : ((j : Int) < (x10.ctors.length : Int)) := auz
   rw [if_pos q13] at hF
   repeat (first | refine chk.ga ?_ | simp -dsimp [↓e11, h12, z14])
   refine abr.split (fun h15 => ?_) (fun h15 => ?_)
   ·have q16 : ¬ ((i : Int) < d) := auq h15
    rw [if_neg q16] at hF
    repeat (first | refine chk.ga ?_ | simp -dsimp [↓e11, h12, z14, h15, q16])
    refine abr.split (fun h17 => ?_) (fun h17 => ?_)
    ·have q18 : ((j : Int) < k) := auq h17
     rw [if_pos q18] at hF
     repeat (first | refine chk.ga ?_ | simp -dsimp [↓e11, h12, z14, h15, q16, h17])
     refine ADraw.simple follows (by kernel_rfl) (by kernel_rfl) ?_
     have hF := ob hF; obtain ⟨x19, e20a, hF⟩ := hF
     have e20a := at_some e20a; obtain ⟨ne20, e20⟩ := e20a
     have le20 := lt_of_get e20
     repeat (first | refine chk.ga ?_ | simp -dsimp [↓e11, h12, z14, h15, q16, h17, ↓e20])
     refine abr.split (fun h21 => ?_) (fun h21 => ?_)
     ·have q22 : (k < (x19.ctors.length : Int)) := auq h21
      rw [if_pos q22] at hF
      have hF := ob hF; obtain ⟨x23, e24, hF⟩ := hF
      have le24 := lt_of_get e24
      have hF := ob hF; obtain ⟨x25, e26a, hF⟩ := hF
      have e26a := at_some e26a; obtain ⟨ne26, e26⟩ := e26a
      have le26 := lt_of_get e26
      repeat (first | refine chk.ga ?_ | simp -dsimp [↓e11, h12, z14, h15, q16, h17, ↓e20, h21, ↓e24, ↓e26])
      refine abr.split (fun h27 => ?_) (fun h27 => ?_)
      ·have q28 : (x23.name.toList = x25.name.toList) := auq h27
       rw [if_pos q28] at hF
       cases hF
       repeat (first | refine chk.ga ?_ | simp -dsimp [↓e11, h12, z14, h15, q16, h17, ↓e20, h21, ↓e24, ↓e26, h27])
       refine Leave.go _ (Gh.refl _) (hq _ ?_)
       repeat (first | refine chk.ga ?_ | simp -dsimp [↓e11, h12, z14, h15, q16, h17, ↓e20, h21, ↓e24, ↓e26, h27])
      ·have q28 : ¬ (x23.name.toList = x25.name.toList) := auq h27
       rw [if_neg q28] at hF
       have hF := oc hF; obtain ⟨c29, hF⟩ := hF
       have w30 : IntKind.i64.wrap ((j : Int) + 1) = (j : Int) + 1 := wrap_in (by omega) (by omega)
       repeat (first | refine chk.ga ?_ | simp -dsimp [↓e11, h12, z14, h15, q16, h17, ↓e20, h21, ↓e24, ↓e26, h27, q28, w30])
       refine Again.go _ ?_ ((ih_spec_l1Twice_l2 (j + 1) o hF) _ rfl _ hq)
       exact (Gh.to3 (by simp) (by first | simp -dsimp [↓e11, h12, z14, h15, q16, h17, ↓e20, h21, ↓e24, ↓e26, h27, q28, w30]; done | simp_all))
     ·have q22 : ¬ (k < (x19.ctors.length : Int)) := auq h21
      rw [if_neg q22] at hF
      have hF := oc hF; obtain ⟨c31, hF⟩ := hF
      have w32 : IntKind.i64.wrap ((j : Int) + 1) = (j : Int) + 1 := wrap_in (by omega) (by omega)
      repeat (first | refine chk.ga ?_ | simp -dsimp [↓e11, h12, z14, h15, q16, h17, ↓e20, h21, q22, w32])
      refine Again.go _ ?_ ((ih_spec_l1Twice_l2 (j + 1) o hF) _ rfl _ hq)
      exact (Gh.to3 (by simp) (by first | simp -dsimp [↓e11, h12, z14, h15, q16, h17, ↓e20, h21, q22, w32]; done | simp_all))
    ·have q18 : ¬ ((j : Int) < k) := auq h17
     rw [if_neg q18] at hF
     cases hF
     repeat (first | refine chk.ga ?_ | simp -dsimp [↓e11, h12, z14, h15, q16, h17, q18])
     refine Leave.go ⟨[(0, .arr (List.map Vl.Data.c w)), (1, .lit (.int .i64 d)), (2, .lit (.int .i64 k)), (7, .lit (.int .i64 (i : Int)))], []⟩ (Gh.to3 (by simp) (by first | simp -dsimp [↓e11, h12, z14, h15, q16, h17, q18]; done | simp_all)) ?_
     exact hq
   ·have q16 : ((i : Int) < d) := auq h15
    rw [if_pos q16] at hF
    repeat (first | refine chk.ga ?_ | simp -dsimp [↓e11, h12, z14, h15, q16])
    refine ADraw.simple follows (by kernel_rfl) (by kernel_rfl) ?_
    have hF := ob hF; obtain ⟨x33, e34a, hF⟩ := hF
    have e34a := at_some e34a; obtain ⟨ne34, e34⟩ := e34a
    have le34 := lt_of_get e34
    repeat (first | refine chk.ga ?_ | simp -dsimp [↓e11, h12, z14, h15, q16, ↓e34])
    refine abr.split (fun h35 => ?_) (fun h35 => ?_)
    ·have q36 : (k < (x33.ctors.length : Int)) := auq h35
     rw [if_pos q36] at hF
     have hF := ob hF; obtain ⟨x37, e38, hF⟩ := hF
     have le38 := lt_of_get e38
     have hF := ob hF; obtain ⟨x39, e40a, hF⟩ := hF
     have e40a := at_some e40a; obtain ⟨ne40, e40⟩ := e40a
     have le40 := lt_of_get e40
     repeat (first | refine chk.ga ?_ | simp -dsimp [↓e11, h12, z14, h15, q16, ↓e34, h35, ↓e38, ↓e40])
     refine abr.split (fun h41 => ?_) (fun h41 => ?_)
     ·have q42 : (x37.name.toList = x39.name.toList) := auq h41
      rw [if_pos q42] at hF
      cases hF
      repeat (first | refine chk.ga ?_ | simp -dsimp [↓e11, h12, z14, h15, q16, ↓e34, h35, ↓e38, ↓e40, h41])
      refine Leave.go _ (Gh.refl _) (hq _ ?_)
      repeat (first | refine chk.ga ?_ | simp -dsimp [↓e11, h12, z14, h15, q16, ↓e34, h35, ↓e38, ↓e40, h41])
     ·have q42 : ¬ (x37.name.toList = x39.name.toList) := auq h41
      rw [if_neg q42] at hF
      have hF := oc hF; obtain ⟨c43, hF⟩ := hF
      have w44 : IntKind.i64.wrap ((j : Int) + 1) = (j : Int) + 1 := wrap_in (by omega) (by omega)
      repeat (first | refine chk.ga ?_ | simp -dsimp [↓e11, h12, z14, h15, q16, ↓e34, h35, ↓e38, ↓e40, h41, q42, w44])
      refine Again.go _ ?_ ((ih_spec_l1Twice_l2 (j + 1) o hF) _ rfl _ hq)
      exact (Gh.to3 (by simp) (by first | simp -dsimp [↓e11, h12, z14, h15, q16, ↓e34, h35, ↓e38, ↓e40, h41, q42, w44]; done | simp_all))
    ·have q36 : ¬ (k < (x33.ctors.length : Int)) := auq h35
     rw [if_neg q36] at hF
     have hF := oc hF; obtain ⟨c45, hF⟩ := hF
     have w46 : IntKind.i64.wrap ((j : Int) + 1) = (j : Int) + 1 := wrap_in (by omega) (by omega)
     repeat (first | refine chk.ga ?_ | simp -dsimp [↓e11, h12, z14, h15, q16, ↓e34, h35, q36, w46])
     refine Again.go _ ?_ ((ih_spec_l1Twice_l2 (j + 1) o hF) _ rfl _ hq)
     exact (Gh.to3 (by simp) (by first | simp -dsimp [↓e11, h12, z14, h15, q16, ↓e34, h35, q36, w46]; done | simp_all))
  ·have q13 : ¬ (j < x10.ctors.length) := auq h12
   have z14 : ¬ ((j : Int) < (x10.ctors.length : Int)) := auz
   rw [if_neg q13] at hF
   cases hF
   repeat (first | refine chk.ga ?_ | simp -dsimp [↓e11, h12, q13, z14])
   refine Leave.go ⟨[(0, .arr (List.map Vl.Data.c w)), (1, .lit (.int .i64 d)), (2, .lit (.int .i64 k)), (7, .lit (.int .i64 (i : Int)))], []⟩ (Gh.to3 (by simp) (by first | simp -dsimp [↓e11, h12, q13, z14]; done | simp_all)) ?_
   exact hq

theorem CC.spec_l1Twice_l3 (w : List Vl.Data) (d : Int) (k : Int) (i : Nat) : (∀ (j50 : Nat) (o : Lo Bool Unit), F.spec_l1Twice_l3 w d k i j50 = some o → ∀ (c : Code), navO [1, 0, 1, 0, 0, 1, 0, 0, 1, 1, 0, 0] (bodyOf Tryz.f127) = some c → ∀ (Q : Exit → ASt → Prop), o.post (fun r => ∀ st, Post Tryz.prog Tryz.f127 (fun r' _ => r'.le (.lit (.bool r))) .ret st → Q .ret st) (fun s => Q (.exit 2) ⟨[(0, .arr (List.map Vl.Data.c w)), (1, .lit (.int .i64 d)), (2, .lit (.int .i64 k)), (7, .lit (.int .i64 (i : Int)))], []⟩) → ALoopU Tryz.prog B 0 79 (hold c .mk) ⟨[(0, .arr (List.map Vl.Data.c w)), (1, .lit (.int .i64 d)), (2, .lit (.int .i64 k)), (7, .lit (.int .i64 (i : Int))), (8, .lit (.int .i64 (j50 : Int)))], []⟩ (hold Q .mk)) := by
 refine F.spec_l1Twice_l3.partial_correctness w d k i
  _
  ?_
 ·intro _f_spec_l1Twice_l3 ih_spec_l1Twice_l3 j50 o hF
  intro c hc Q hq
  obtain rfl : c = _ := navEq hc rfl
  refine ALoopU.know fun hk hs => ?_
  have b0 := hk 0
  simp -dsimp at b0
  clear hk hs
  refine ALoopU.enter ?_
  have hF := ob hF; obtain ⟨x51, e52, hF⟩ := hF
  have le52 := lt_of_get e52
  repeat (first | refine chk.ga ?_ | simp -dsimp [↓e52])
  refine abr.split (fun h53 => ?_) (fun h53 => ?_)
  ·have q54 : (j50 < x51.ctors.length) := auq h53
   have z55 : ((j50 : Int) < (x51.ctors.length : Int)) := auz
   rw [if_pos q54] at hF
   repeat (first | refine chk.ga ?_ | simp -dsimp [↓e52, h53, z55])
   refine abr.split (fun h56 => ?_) (fun h56 => ?_)
   ·have q57 : ¬ ((i : Int) < d) := auq h56
    rw [if_neg q57] at hF
    repeat (first | refine chk.ga ?_ | simp -dsimp [↓e52, h53, z55, h56, q57])
    refine abr.split (fun h58 => ?_) (fun h58 => ?_)
    ·have q59 : ((j50 : Int) < k) := auq h58
     rw [if_pos q59] at hF
     repeat (first | refine chk.ga ?_ | simp -dsimp [↓e52, h53, z55, h56, q57, h58])
     refine ADraw.simple follows (by kernel_rfl) (by kernel_rfl) ?_
     have hF := ob hF; obtain ⟨x60, e61a, hF⟩ := hF
     have e61a := at_some e61a; obtain ⟨ne61, e61⟩ := e61a
     have le61 := lt_of_get e61
     repeat (first | refine chk.ga ?_ | simp -dsimp [↓e52, h53, z55, h56, q57, h58, ↓e61])
     refine abr.split (fun h62 => ?_) (fun h62 => ?_)
     ·have q63 : (k < (x60.ctors.length : Int)) := auq h62
      rw [if_pos q63] at hF
      have hF := ob hF; obtain ⟨x64, e65, hF⟩ := hF
      have le65 := lt_of_get e65
      have hF := ob hF; obtain ⟨x66, e67a, hF⟩ := hF
      have e67a := at_some e67a; obtain ⟨ne67, e67⟩ := e67a
      have le67 := lt_of_get e67
      repeat (first | refine chk.ga ?_ | simp -dsimp [↓e52, h53, z55, h56, q57, h58, ↓e61, h62, ↓e65, ↓e67])
      refine abr.split (fun h68 => ?_) (fun h68 => ?_)
      ·have q69 : (x64.name.toList = x66.name.toList) := auq h68
       rw [if_pos q69] at hF
       cases hF
       repeat (first | refine chk.ga ?_ | simp -dsimp [↓e52, h53, z55, h56, q57, h58, ↓e61, h62, ↓e65, ↓e67, h68])
       refine Leave.go _ (Gh.refl _) (hq _ ?_)
       repeat (first | refine chk.ga ?_ | simp -dsimp [↓e52, h53, z55, h56, q57, h58, ↓e61, h62, ↓e65, ↓e67, h68])
      ·have q69 : ¬ (x64.name.toList = x66.name.toList) := auq h68
       rw [if_neg q69] at hF
       have hF := oc hF; obtain ⟨c70, hF⟩ := hF
       have w71 : IntKind.i64.wrap ((j50 : Int) + 1) = (j50 : Int) + 1 := wrap_in (by omega) (by omega)
       repeat (first | refine chk.ga ?_ | simp -dsimp [↓e52, h53, z55, h56, q57, h58, ↓e61, h62, ↓e65, ↓e67, h68, q69, w71])
       refine Again.go _ ?_ ((ih_spec_l1Twice_l3 (j50 + 1) o hF) _ rfl _ hq)
       exact (Gh.to3 (by simp) (by first | simp -dsimp [↓e52, h53, z55, h56, q57, h58, ↓e61, h62, ↓e65, ↓e67, h68, q69, w71]; done | simp_all))
     ·have q63 : ¬ (k < (x60.ctors.length : Int)) := auq h62
      rw [if_neg q63] at hF
      have hF := oc hF; obtain ⟨c72, hF⟩ := hF
      have w73 : IntKind.i64.wrap ((j50 : Int) + 1) = (j50 : Int) + 1 := wrap_in (by omega) (by omega)
      repeat (first | refine chk.ga ?_ | simp -dsimp [↓e52, h53, z55, h56, q57, h58, ↓e61, h62, q63, w73])
      refine Again.go _ ?_ ((ih_spec_l1Twice_l3 (j50 + 1) o hF) _ rfl _ hq)
      exact (Gh.to3 (by simp) (by first | simp -dsimp [↓e52, h53, z55, h56, q57, h58, ↓e61, h62, q63, w73]; done | simp_all))
    ·have q59 : ¬ ((j50 : Int) < k) := auq h58
     rw [if_neg q59] at hF
     cases hF
     repeat (first | refine chk.ga ?_ | simp -dsimp [↓e52, h53, z55, h56, q57, h58, q59])
     refine Leave.go ⟨[(0, .arr (List.map Vl.Data.c w)), (1, .lit (.int .i64 d)), (2, .lit (.int .i64 k)), (7, .lit (.int .i64 (i : Int)))], []⟩ (Gh.to3 (by simp) (by first | simp -dsimp [↓e52, h53, z55, h56, q57, h58, q59]; done | simp_all)) ?_
     exact hq
   ·have q57 : ((i : Int) < d) := auq h56
    rw [if_pos q57] at hF
    repeat (first | refine chk.ga ?_ | simp -dsimp [↓e52, h53, z55, h56, q57])
    refine ADraw.simple follows (by kernel_rfl) (by kernel_rfl) ?_
    have hF := ob hF; obtain ⟨x74, e75a, hF⟩ := hF
    have e75a := at_some e75a; obtain ⟨ne75, e75⟩ := e75a
    have le75 := lt_of_get e75
    repeat (first | refine chk.ga ?_ | simp -dsimp [↓e52, h53, z55, h56, q57, ↓e75])
    refine abr.split (fun h76 => ?_) (fun h76 => ?_)
    ·have q77 : (k < (x74.ctors.length : Int)) := auq h76
     rw [if_pos q77] at hF
     have hF := ob hF; obtain ⟨x78, e79, hF⟩ := hF
     have le79 := lt_of_get e79
     have hF := ob hF; obtain ⟨x80, e81a, hF⟩ := hF
     have e81a := at_some e81a; obtain ⟨ne81, e81⟩ := e81a
     have le81 := lt_of_get e81
     repeat (first | refine chk.ga ?_ | simp -dsimp [↓e52, h53, z55, h56, q57, ↓e75, h76, ↓e79, ↓e81])
     refine abr.split (fun h82 => ?_) (fun h82 => ?_)
     ·have q83 : (x78.name.toList = x80.name.toList) := auq h82
      rw [if_pos q83] at hF
      cases hF
      repeat (first | refine chk.ga ?_ | simp -dsimp [↓e52, h53, z55, h56, q57, ↓e75, h76, ↓e79, ↓e81, h82])
      refine Leave.go _ (Gh.refl _) (hq _ ?_)
      repeat (first | refine chk.ga ?_ | simp -dsimp [↓e52, h53, z55, h56, q57, ↓e75, h76, ↓e79, ↓e81, h82])
     ·have q83 : ¬ (x78.name.toList = x80.name.toList) := auq h82
      rw [if_neg q83] at hF
      have hF := oc hF; obtain ⟨c84, hF⟩ := hF
      have w85 : IntKind.i64.wrap ((j50 : Int) + 1) = (j50 : Int) + 1 := wrap_in (by omega) (by omega)
      repeat (first | refine chk.ga ?_ | simp -dsimp [↓e52, h53, z55, h56, q57, ↓e75, h76, ↓e79, ↓e81, h82, q83, w85])
      refine Again.go _ ?_ ((ih_spec_l1Twice_l3 (j50 + 1) o hF) _ rfl _ hq)
      exact (Gh.to3 (by simp) (by first | simp -dsimp [↓e52, h53, z55, h56, q57, ↓e75, h76, ↓e79, ↓e81, h82, q83, w85]; done | simp_all))
    ·have q77 : ¬ (k < (x74.ctors.length : Int)) := auq h76
     rw [if_neg q77] at hF
     have hF := oc hF; obtain ⟨c86, hF⟩ := hF
     have w87 : IntKind.i64.wrap ((j50 : Int) + 1) = (j50 : Int) + 1 := wrap_in (by omega) (by omega)
     repeat (first | refine chk.ga ?_ | simp -dsimp [↓e52, h53, z55, h56, q57, ↓e75, h76, q77, w87])
     refine Again.go _ ?_ ((ih_spec_l1Twice_l3 (j50 + 1) o hF) _ rfl _ hq)
     exact (Gh.to3 (by simp) (by first | simp -dsimp [↓e52, h53, z55, h56, q57, ↓e75, h76, q77, w87]; done | simp_all))
  ·have q54 : ¬ (j50 < x51.ctors.length) := auq h53
   have z55 : ¬ ((j50 : Int) < (x51.ctors.length : Int)) := auz
   rw [if_neg q54] at hF
   cases hF
   repeat (first | refine chk.ga ?_ | simp -dsimp [↓e52, h53, q54, z55])
   refine Leave.go ⟨[(0, .arr (List.map Vl.Data.c w)), (1, .lit (.int .i64 d)), (2, .lit (.int .i64 k)), (7, .lit (.int .i64 (i : Int)))], []⟩ (Gh.to3 (by simp) (by first | simp -dsimp [↓e52, h53, q54, z55]; done | simp_all)) ?_
   exact hq

theorem CC.spec_l1Twice_l1 (w : List Vl.Data) (d : Int) (k : Int) : (∀ (i : Nat) (o : Lo Bool Unit), F.spec_l1Twice_l1 w d k i = some o → ∀ (c : Code), navO [1, 0, 1, 0, 0] (bodyOf Tryz.f127) = some c → ∀ (Q : Exit → ASt → Prop), o.post (fun r => ∀ st, Post Tryz.prog Tryz.f127 (fun r' _ => r'.le (.lit (.bool r))) .ret st → Q .ret st) (fun s => Q (.exit 0) ⟨[], []⟩) → ALoopU Tryz.prog B 0 79 (hold c .mk) ⟨[(0, .arr (List.map Vl.Data.c w)), (1, .lit (.int .i64 d)), (2, .lit (.int .i64 k)), (7, .lit (.int .i64 (i : Int)))], []⟩ (hold Q .mk)) := by
 refine F.spec_l1Twice_l1.partial_correctness w d k
  _
  ?_
 ·intro _f_spec_l1Twice_l1 ih_spec_l1Twice_l1 i o hF
  intro c hc Q hq
  obtain rfl : c = _ := navEq hc rfl
  refine ALoopU.know fun hk hs => ?_
  have b0 := hk 0
  simp -dsimp at b0
  clear hk hs
  refine ALoopU.enter ?_
  repeat (first | refine chk.ga ?_ | simp -dsimp)
  refine abr.split (fun h1 => ?_) (fun h1 => ?_)
  ·have q2 : ((i : Int) ≤ d) := auq h1
   rw [if_pos q2] at hF
   repeat (first | refine chk.ga ?_ | simp -dsimp [h1])
   refine ADraw.simple follows (by kernel_rfl) (by kernel_rfl) ?_
   repeat (first | refine chk.ga ?_ | simp -dsimp [h1])
   refine abr.split (fun h3 => ?_) (fun h3 => ?_)
   ·have q4 : ((i : Int) < d) := auq h3
    rw [if_pos q4] at hF
    have hF := ob hF; obtain ⟨x, e5, hF⟩ := hF
    have le5 := lt_of_get e5
    have hF := ob hF; obtain ⟨x6, e7a, hF⟩ := hF
    have e7a := at_some e7a; obtain ⟨ne7, e7⟩ := e7a
    have le7 := lt_of_get e7
    repeat (first | refine chk.ga ?_ | simp -dsimp [h1, h3, ↓e5, ↓e7])
    refine abr.split (fun h8 => ?_) (fun h8 => ?_)
    ·have q9 : (x.name.toList = x6.name.toList) := auq h8
     rw [if_pos q9] at hF
     cases hF
     repeat (first | refine chk.ga ?_ | simp -dsimp [h1, h3, ↓e5, ↓e7, h8])
     refine Leave.go _ (Gh.refl _) (hq _ ?_)
     repeat (first | refine chk.ga ?_ | simp -dsimp [h1, h3, ↓e5, ↓e7, h8])
    ·have q9 : ¬ (x.name.toList = x6.name.toList) := auq h8
     rw [if_neg q9] at hF
     repeat (first | refine chk.ga ?_ | simp -dsimp [h1, h3, ↓e5, ↓e7, h8, q9])
     have hF := ob hF; obtain ⟨o', ho47, hF⟩ := hF
     refine ALoop.goU _ ?_ (((CC.spec_l1Twice_l2 B hB1 hB2 w d k i) 0 o' ho47) _ rfl _ ?_)
     ·exact (Gh.to3 (by simp) (by first | simp -dsimp [h1, h3, ↓e5, ↓e7, h8, q9]; done | simp_all))
     rcases o' with r0 | sx
     ·dsimp only at hF
      cases hF
      intro st h
      simp -dsimp
      refine Leave.go st (Gh.refl _) (hq st h)
     ·dsimp only at hF
      have hF := oc hF; obtain ⟨c48, hF⟩ := hF
      have w49 : IntKind.i64.wrap ((i : Int) + 1) = (i : Int) + 1 := wrap_in (by omega) (by omega)
      repeat (first | refine chk.ga ?_ | simp -dsimp [w49])
      refine Again.go _ ?_ ((ih_spec_l1Twice_l1 (i + 1) o hF) _ rfl _ hq)
      exact (Gh.to3 (by simp) (by first | simp -dsimp [w49]; done | simp_all))
   ·have q4 : ¬ ((i : Int) < d) := auq h3
    rw [if_neg q4] at hF
    repeat (first | refine chk.ga ?_ | simp -dsimp [h1, h3, q4])
    have hF := ob hF; obtain ⟨o'89, ho88, hF⟩ := hF
    refine ALoop.goU _ ?_ (((CC.spec_l1Twice_l3 B hB1 hB2 w d k i) 0 o'89 ho88) _ rfl _ ?_)
    ·exact (Gh.to3 (by simp) (by first | simp -dsimp [h1, h3, q4]; done | simp_all))
    rcases o'89 with r093 | sx90
    ·dsimp only at hF
     cases hF
     intro st h
     simp -dsimp
     refine Leave.go st (Gh.refl _) (hq st h)
    ·dsimp only at hF
     have hF := oc hF; obtain ⟨c91, hF⟩ := hF
     have w92 : IntKind.i64.wrap ((i : Int) + 1) = (i : Int) + 1 := wrap_in (by omega) (by omega)
     repeat (first | refine chk.ga ?_ | simp -dsimp [w92])
     refine Again.go _ ?_ ((ih_spec_l1Twice_l1 (i + 1) o hF) _ rfl _ hq)
     exact (Gh.to3 (by simp) (by first | simp -dsimp [w92]; done | simp_all))
  ·have q2 : ¬ ((i : Int) ≤ d) := auq h1
   rw [if_neg q2] at hF
   cases hF
   repeat (first | refine chk.ga ?_ | simp -dsimp [h1, q2])
   refine Leave.go ⟨[], []⟩ (Gh.to3 (by simp) (by first | simp -dsimp [h1, q2]; done | simp_all)) ?_
   exact hq

theorem C.spec_l1Twice (w : List Vl.Data) (d : Int) (k : Int) (r : Bool) (hF : F.spec_l1Twice w d k = some r) : PureCall Tryz.prog B 127 [.arr (List.map Vl.Data.c w), .lit (.int .i64 d), .lit (.int .i64 k)] (.lit (.bool r)) := by
 unfold F.spec_l1Twice at hF
 refine PureCall.enterLe Tryz.func127 (by kernel_rfl) rfl Tryz.ntmps127 (by simp) (by simp) ?_
 repeat (first | refine chk.ga ?_ | simp -dsimp)
 have hF := ob hF; obtain ⟨o'95, ho94, hF⟩ := hF
 refine ALoop.goU _ ?_ (((CC.spec_l1Twice_l1 B hB1 hB2 w d k) 0 o'95 ho94) _ rfl _ ?_)
 ·exact (Gh.to3 (by simp) (by simp -dsimp))
 rcases o'95 with r097 | sx96
 ·dsimp only at hF
  cases hF
  intro st h
  simpa using h
 ·dsimp only at hF
  cases hF
  repeat (first | refine chk.ga ?_ | simp -dsimp)
  all_goals (try first | omega | rfl)

theorem CC.spec_WorldValid_l2 (w : List Vl.Data) (d : Nat) : (∀ (k : Nat) (o : Lo Bool Unit), F.spec_WorldValid_l2 w d k = some o → ∀ (c : Code), navO [1, 1, 0, 1, 0, 0, 1, 0, 0, 1, 1, 0, 0] (bodyOf Tryz.f98) = some c → ∀ (Q : Exit → ASt → Prop), o.post (fun r => ∀ st, Post Tryz.prog Tryz.f98 (fun r' _ => r'.le (.lit (.bool r))) .ret st → Q .ret st) (fun s => Q (.exit 2) ⟨[(0, .arr (List.map Vl.Data.c w)), (3, .lit (.int .i64 (d : Int)))], []⟩) → ALoopU Tryz.prog B 0 67 (hold c .mk) ⟨[(0, .arr (List.map Vl.Data.c w)), (3, .lit (.int .i64 (d : Int))), (4, .lit (.int .i64 (k : Int)))], []⟩ (hold Q .mk)) := by
 refine F.spec_WorldValid_l2.partial_correctness w d
  _
  ?_
 ·intro _f_spec_WorldValid_l2 ih_spec_WorldValid_l2 k o hF
  intro c hc Q hq
  obtain rfl : c = _ := navEq hc rfl
  refine ALoopU.know fun hk hs => ?_
  have b0 := hk 0
  simp -dsimp at b0
  clear hk hs
  refine ALoopU.enter ?_
  have hF := ob hF; obtain ⟨x17, e18, hF⟩ := hF
  have le18 := lt_of_get e18
  repeat (first | refine chk.ga ?_ | simp -dsimp [↓e18])
  refine abr.split (fun h19 => ?_) (fun h19 => ?_)
  ·have q20 : (k < x17.ctors.length) := auq h19
   have z21 : ((k : Int) < (x17.ctors.length : Int)) := auz
   rw [if_pos q20] at hF
   have hF := ob hF; obtain ⟨x22, e23, hF⟩ := hF
   have le23 := lt_of_get e23
   repeat (first | refine chk.ga ?_ | simp -dsimp [↓e18, h19, z21, ↓e23])
   have hF := ob hF; obtain ⟨v24, e25, hF⟩ := hF
   refine ((C.spec_l1Ctor B hB1 hB2 (w.length : Int) x22 v24 e25)).goW (by first | simp [↓e18, h19, z21, ↓e23]; done | simp_all) (by simp) ?_
   repeat (first | refine chk.ga ?_ | simp -dsimp [↓e18, h19, z21, ↓e23])
   refine abr.split (fun h26 => ?_) (fun h26 => ?_)
   ·have q27 : (v24 = true) := auq h26
    rw [if_pos q27] at hF
    repeat (first | refine chk.ga ?_ | simp -dsimp [↓e18, h19, z21, ↓e23, h26])
    have hF := ob hF; obtain ⟨v28, e29, hF⟩ := hF
    refine ((C.spec_l1Twice B hB1 hB2 w (d : Int) (k : Int) v28 e29)).goW (by first | simp [↓e18, h19, z21, ↓e23, h26]; done | simp_all) (by simp) ?_
    repeat (first | refine chk.ga ?_ | simp -dsimp [↓e18, h19, z21, ↓e23, h26])
    refine abr.split (fun h30 => ?_) (fun h30 => ?_)
    ·have q31 : (v28 = true) := auq h30
     rw [if_pos q31] at hF
     cases hF
     repeat (first | refine chk.ga ?_ | simp -dsimp [↓e18, h19, z21, ↓e23, h26, h30])
     refine Leave.go _ (Gh.refl _) (hq _ ?_)
     repeat (first | refine chk.ga ?_ | simp -dsimp [↓e18, h19, z21, ↓e23, h26, h30])
    ·have q31 : ¬ (v28 = true) := auq h30
     rw [if_neg q31] at hF
     have hF := oc hF; obtain ⟨c32, hF⟩ := hF
     have w33 : IntKind.i64.wrap ((k : Int) + 1) = (k : Int) + 1 := wrap_in (by omega) (by omega)
     repeat (first | refine chk.ga ?_ | simp -dsimp [↓e18, h19, z21, ↓e23, h26, h30, q31, w33])
     refine Again.go _ ?_ ((ih_spec_WorldValid_l2 (k + 1) o hF) _ rfl _ hq)
     exact (Gh.to3 (by simp) (by first | simp -dsimp [↓e18, h19, z21, ↓e23, h26, h30, q31, w33]; done | simp_all))
   ·have q27 : ¬ (v24 = true) := auq h26
    rw [if_neg q27] at hF
    cases hF
    repeat (first | refine chk.ga ?_ | simp -dsimp [↓e18, h19, z21, ↓e23, h26, q27])
    refine Leave.go _ (Gh.refl _) (hq _ ?_)
    repeat (first | refine chk.ga ?_ | simp -dsimp [↓e18, h19, z21, ↓e23, h26, q27])
  ·have q20 : ¬ (k < x17.ctors.length) := auq h19
   have z21 : ¬ ((k : Int) < (x17.ctors.length : Int)) := auz
   rw [if_neg q20] at hF
   cases hF
   repeat (first | refine chk.ga ?_ | simp -dsimp [↓e18, h19, q20, z21])
   refine Leave.go ⟨[(0, .arr (List.map Vl.Data.c w)), (3, .lit (.int .i64 (d : Int)))], []⟩ (Gh.to3 (by simp) (by first | simp -dsimp [↓e18, h19, q20, z21]; done | simp_all)) ?_
   exact hq

theorem CC.spec_WorldValid_l1 (w : List Vl.Data) : (∀ (d : Nat) (o : Lo Bool Unit), F.spec_WorldValid_l1 w d = some o → ∀ (c : Code), navO [1, 1, 0, 1, 0, 0] (bodyOf Tryz.f98) = some c → ∀ (Q : Exit → ASt → Prop), o.post (fun r => ∀ st, Post Tryz.prog Tryz.f98 (fun r' _ => r'.le (.lit (.bool r))) .ret st → Q .ret st) (fun s => Q (.exit 0) ⟨[], []⟩) → ALoopU Tryz.prog B 0 67 (hold c .mk) ⟨[(0, .arr (List.map Vl.Data.c w)), (3, .lit (.int .i64 (d : Int)))], []⟩ (hold Q .mk)) := by
 refine F.spec_WorldValid_l1.partial_correctness w
  _
  ?_
 ·intro _f_spec_WorldValid_l1 ih_spec_WorldValid_l1 d o hF
  intro c hc Q hq
  obtain rfl : c = _ := navEq hc rfl
  refine ALoopU.know fun hk hs => ?_
  have b0 := hk 0
  simp -dsimp at b0
  clear hk hs
  refine ALoopU.enter ?_
  repeat (first | refine chk.ga ?_ | simp -dsimp)
  refine abr.split (fun h4 => ?_) (fun h4 => ?_)
  ·have q5 : (d < w.length) := auq h4
   have z6 : ((d : Int) < (w.length : Int)) := auz
   rw [if_pos q5] at hF
   have hF := ob hF; obtain ⟨x, e7, hF⟩ := hF
   have le7 := lt_of_get e7
   repeat (first | refine chk.ga ?_ | simp -dsimp [h4, z6, ↓e7])
   have hF := ob hF; obtain ⟨v, e8, hF⟩ := hF
   refine ((C.spec_l1Data B hB1 hB2 x.name v e8)).goW (by first | simp [h4, z6, ↓e7]; done | simp_all) (by simp) ?_
   repeat (first | refine chk.ga ?_ | simp -dsimp [h4, z6, ↓e7])
   refine abr.split (fun h9 => ?_) (fun h9 => ?_)
   ·have q10 : (v = true) := auq h9
    rw [if_pos q10] at hF
    repeat (first | refine chk.ga ?_ | simp -dsimp [h4, z6, ↓e7, h9])
    refine abr.split (fun h11 => ?_) (fun h11 => ?_)
    ·have q12 : ¬ (x.ctors.length = 0) := auq h11
     have z13 : ¬ ((x.ctors.length : Int) = (0 : Int)) := auz
     rw [if_neg q12] at hF
     repeat (first | refine chk.ga ?_ | simp -dsimp [h4, z6, ↓e7, h9, h11, q12, z13])
     refine abr.split (fun h14 => ?_) (fun h14 => ?_)
     ·have q15 : (4 < x.ctors.length) := auq h14
      have z16 : ((4 : Int) < (x.ctors.length : Int)) := auz
      rw [if_pos q15] at hF
      cases hF
      repeat (first | refine chk.ga ?_ | simp -dsimp [h4, z6, ↓e7, h9, h11, q12, z13, h14, z16])
      refine Leave.go _ (Gh.refl _) (hq _ ?_)
      repeat (first | refine chk.ga ?_ | simp -dsimp [h4, z6, ↓e7, h9, h11, q12, z13, h14, z16])
     ·have q15 : ¬ (4 < x.ctors.length) := auq h14
      have z16 : ¬ ((4 : Int) < (x.ctors.length : Int)) := auz
      rw [if_neg q15] at hF
      repeat (first | refine chk.ga ?_ | simp -dsimp [h4, z6, ↓e7, h9, h11, q12, z13, h14, q15, z16])
      have hF := ob hF; obtain ⟨o', ho34, hF⟩ := hF
      refine ALoop.goU _ ?_ (((CC.spec_WorldValid_l2 B hB1 hB2 w d) 0 o' ho34) _ rfl _ ?_)
      ·exact (Gh.to3 (by simp) (by first | simp -dsimp [h4, z6, ↓e7, h9, h11, q12, z13, h14, q15, z16]; done | simp_all))
      rcases o' with r0 | sx
      ·dsimp only at hF
       cases hF
       intro st h
       simp -dsimp
       refine Leave.go st (Gh.refl _) (hq st h)
      ·dsimp only at hF
       have hF := oc hF; obtain ⟨c35, hF⟩ := hF
       have w36 : IntKind.i64.wrap ((d : Int) + 1) = (d : Int) + 1 := wrap_in (by omega) (by omega)
       repeat (first | refine chk.ga ?_ | simp -dsimp [w36])
       refine Again.go _ ?_ ((ih_spec_WorldValid_l1 (d + 1) o hF) _ rfl _ hq)
       exact (Gh.to3 (by simp) (by first | simp -dsimp [w36]; done | simp_all))
    ·have q12 : (x.ctors.length = 0) := auq h11
     have z13 : ((x.ctors.length : Int) = (0 : Int)) := auz
     rw [if_pos q12] at hF
     cases hF
     repeat (first | refine chk.ga ?_ | simp -dsimp [h4, z6, ↓e7, h9, h11, q12, z13])
     refine Leave.go _ (Gh.refl _) (hq _ ?_)
     repeat (first | refine chk.ga ?_ | simp -dsimp [h4, z6, ↓e7, h9, h11, q12, z13])
   ·have q10 : ¬ (v = true) := auq h9
    rw [if_neg q10] at hF
    cases hF
    repeat (first | refine chk.ga ?_ | simp -dsimp [h4, z6, ↓e7, h9, q10])
    refine Leave.go _ (Gh.refl _) (hq _ ?_)
    repeat (first | refine chk.ga ?_ | simp -dsimp [h4, z6, ↓e7, h9, q10])
  ·have q5 : ¬ (d < w.length) := auq h4
   have z6 : ¬ ((d : Int) < (w.length : Int)) := auz
   rw [if_neg q5] at hF
   cases hF
   repeat (first | refine chk.ga ?_ | simp -dsimp [h4, q5, z6])
   refine Leave.go ⟨[], []⟩ (Gh.to3 (by simp) (by first | simp -dsimp [h4, q5, z6]; done | simp_all)) ?_
   exact hq

theorem C.spec_WorldValid (w : List Vl.Data) (r : Bool) (hF : F.spec_WorldValid w = some r) : PureCall Tryz.prog B 98 [.arr (List.map Vl.Data.c w)] (.lit (.bool r)) := by
 unfold F.spec_WorldValid at hF
 refine PureCall.enterLe Tryz.func98 (by kernel_rfl) rfl Tryz.ntmps98 (by simp) (by simp) ?_
 repeat (first | refine chk.ga ?_ | simp -dsimp)
 refine abr.split (fun h1 => ?_) (fun h1 => ?_)
 ·have q2 : (4 < w.length) := auq h1
  have z3 : ((4 : Int) < (w.length : Int)) := auz
  rw [if_pos q2] at hF
  cases hF
  repeat (first | refine chk.ga ?_ | simp -dsimp [h1, z3])
  all_goals (try first | omega | rfl)
 ·have q2 : ¬ (4 < w.length) := auq h1
  have z3 : ¬ ((4 : Int) < (w.length : Int)) := auz
  rw [if_neg q2] at hF
  repeat (first | refine chk.ga ?_ | simp -dsimp [h1, q2, z3])
  have hF := ob hF; obtain ⟨o'38, ho37, hF⟩ := hF
  refine ALoop.goU _ ?_ (((CC.spec_WorldValid_l1 B hB1 hB2 w) 0 o'38 ho37) _ rfl _ ?_)
  ·exact (Gh.to3 (by simp) (by first | simp -dsimp [h1, q2, z3]; done | simp_all))
  rcases o'38 with r040 | sx39
  ·dsimp only at hF
   cases hF
   intro st h
   simpa using h
  ·dsimp only at hF
   cases hF
   repeat (first | refine chk.ga ?_ | simp -dsimp)
   all_goals (try first | omega | rfl)

theorem C.spec_l1Is (w : List Vl.Data) (t : Vl.Ty) (r : Bool) (hF : F.spec_l1Is w t = some r) : PureCall Tryz.prog B 99 [.arr (List.map Vl.Data.c w), .agg [.lit (.int .i64 t.data), .lit (.int .i64 t.index)]] (.lit (.bool r)) := by
 unfold F.spec_l1Is at hF
 refine PureCall.enterLe Tryz.func99 (by kernel_rfl) rfl Tryz.ntmps99 (by simp) (by simp) ?_
 repeat (first | refine chk.ga ?_ | simp -dsimp)
 have hF := ob hF; obtain ⟨v, e1, hF⟩ := hF
 refine ((C.spec_l1Arg B hB1 hB2 (w.length : Int) t v e1)).goW (by simp) (by simp) ?_
 repeat (first | refine chk.ga ?_ | simp -dsimp)
 refine abr.split (fun h2 => ?_) (fun h2 => ?_)
 ·have q3 : (v = true) := auq h2
  rw [if_pos q3] at hF
  cases hF
  repeat (first | refine chk.ga ?_ | simp -dsimp [h2])
  all_goals (try first | omega | rfl)
 ·have q3 : ¬ (v = true) := auq h2
  rw [if_neg q3] at hF
  cases hF
  repeat (first | refine chk.ga ?_ | simp -dsimp [h2, q3])
  all_goals (try first | omega | rfl)

theorem C.spec_TypeValid (w : List Vl.Data) (t : Vl.Ty) (r : Bool) (hF : F.spec_TypeValid w t = some r) : PureCall Tryz.prog B 63 [.arr (List.map Vl.Data.c w), .agg [.lit (.int .i64 t.data), .lit (.int .i64 t.index)]] (.lit (.bool r)) := by
 unfold F.spec_TypeValid at hF
 refine PureCall.enterLe Tryz.func63 (by kernel_rfl) rfl Tryz.ntmps63 (by simp) (by simp) ?_
 repeat (first | refine chk.ga ?_ | simp -dsimp)
 have hF := ob hF; obtain ⟨v, e1, hF⟩ := hF
 refine ((C.spec_WorldValid B hB1 hB2 w v e1)).goW (by simp) (by simp) ?_
 repeat (first | refine chk.ga ?_ | simp -dsimp)
 refine abr.split (fun h2 => ?_) (fun h2 => ?_)
 ·have q3 : (v = true) := auq h2
  rw [if_pos q3] at hF
  repeat (first | refine chk.ga ?_ | simp -dsimp [h2])
  have hF := ob hF; obtain ⟨v4, e5, hF⟩ := hF
  refine ((C.spec_l1Is B hB1 hB2 w t v4 e5)).goW (by first | simp [h2]; done | simp_all) (by simp) ?_
  cases hF
  repeat (first | refine chk.ga ?_ | simp -dsimp [h2])
  all_goals (try first | omega | rfl)
 ·have q3 : ¬ (v = true) := auq h2
  rw [if_neg q3] at hF
  cases hF
  repeat (first | refine chk.ga ?_ | simp -dsimp [h2, q3])
  all_goals (try first | omega | rfl)

theorem C.spec_l1Fits (c' : Vl.Ctor) (index' : Int) (r : Bool) (hF : F.spec_l1Fits c' index' = some r) : PureCall Tryz.prog B 159 [.agg [.lit (.string c'.name), .arr (List.map Vl.Ty.c c'.args), .lit (.int .i64 c'.index)], .lit (.int .i64 index')] (.lit (.bool r)) := by
 unfold F.spec_l1Fits at hF
 refine PureCall.enterLe Tryz.func159 (by kernel_rfl) rfl Tryz.ntmps159 (by simp) (by simp) ?_
 repeat (first | refine chk.ga ?_ | simp -dsimp)
 refine abr.split (fun h1 => ?_) (fun h1 => ?_)
 ·have q2 : ¬ (c'.index = 0) := auq h1
  rw [if_neg q2] at hF
  repeat (first | refine chk.ga ?_ | simp -dsimp [h1, q2])
  refine abr.split (fun h3 => ?_) (fun h3 => ?_)
  ·have q4 : ¬ (index' = 0) := auq h3
   rw [if_neg q4] at hF
   cases hF
   repeat (first | refine chk.ga ?_ | simp -dsimp [h1, q2, h3, q4])
   all_goals (try first | omega | rfl)
  ·have q4 : (index' = 0) := auq h3
   rw [if_pos q4] at hF
   cases hF
   repeat (first | refine chk.ga ?_ | simp -dsimp [h1, q2, eq_true h3, eq_true q4])
   all_goals (try first | omega | rfl)
 ·have q2 : (c'.index = 0) := auq h1
  rw [if_pos q2] at hF
  cases hF
  repeat (first | refine chk.ga ?_ | simp -dsimp [h1, q2])
  all_goals (try first | omega | rfl)

theorem CC.spec_l1Ctors_l1 (w : List Vl.Data) (t : Vl.Ty) : (∀ (out : List Int) (k : Nat) (o : List Int), F.spec_l1Ctors_l1 w t out k = some o → ∀ (c : Code), navO [1, 1, 1, 0, 1, 0, 0] (bodyOf Tryz.f140) = some c → ∀ (Q : Exit → ASt → Prop), (Q (.exit 0) ⟨[(5, .own 1 (List.length (α := Int) o))], [.dead, .elems 1 (List.map cI o)]⟩) → ALoopU Tryz.prog B 0 40 (hold c .mk) ⟨[(0, .arr (List.map Vl.Data.c w)), (3, .ptr 0 0), (5, .own 1 (List.length (α := Int) out)), (6, .lit (.int .i64 (k : Int)))], [.cells [.lit (.int .i64 t.data), .lit (.int .i64 t.index)], .elems 1 (List.map cI out)]⟩ (hold Q .mk)) := by
 refine F.spec_l1Ctors_l1.partial_correctness w t
  _
  ?_
 ·intro _f_spec_l1Ctors_l1 ih_spec_l1Ctors_l1 out k o hF
  intro c hc Q hq
  obtain rfl : c = _ := navEq hc rfl
  refine ALoopU.know fun hk hs => ?_
  have b0 := hk 0
  simp -dsimp at b0
  have d1 := hs 1 _ rfl
  simp -dsimp [Blk.bnd] at d1
  clear hk hs
  refine ALoopU.enter ?_
  have hF := ob hF; obtain ⟨x, e3a, hF⟩ := hF
  have e3a := at_some e3a; obtain ⟨ne3, e3⟩ := e3a
  have le3 := lt_of_get e3
  repeat (first | refine chk.ga ?_ | simp -dsimp [↓e3])
  refine abr.split (fun h4 => ?_) (fun h4 => ?_)
  ·have q5 : (k < x.ctors.length) := auq h4
   have z6 : ((k : Int) < (x.ctors.length : Int)) := auz
   rw [if_pos q5] at hF
   repeat (first | refine chk.ga ?_ | simp -dsimp [↓e3, h4, z6])
   refine ADraw.simple follows (by kernel_rfl) (by kernel_rfl) ?_
   have hF := ob hF; obtain ⟨x7, e8, hF⟩ := hF
   have le8 := lt_of_get e8
   repeat (first | refine chk.ga ?_ | simp -dsimp [↓e3, h4, z6, ↓e8])
   have hF := ob hF; obtain ⟨v, e9, hF⟩ := hF
   refine ((C.spec_l1Fits B hB1 hB2 x7 t.index v e9)).pgoW (by first | simp [↓e3, h4, z6, ↓e8]; done | simp_all) (by simp) ?_
   repeat (first | refine chk.ga ?_ | simp -dsimp [↓e3, h4, z6, ↓e8])
   refine abr.split (fun h10 => ?_) (fun h10 => ?_)
   ·have q11 : (v = true) := auq h10
    rw [if_pos q11] at hF
    have hF := oc hF; obtain ⟨c12, hF⟩ := hF
    have hF := oc hF; obtain ⟨c13, hF⟩ := hF
    have w14 : IntKind.i64.wrap ((k : Int) + 1) = (k : Int) + 1 := wrap_in (by omega) (by omega)
    repeat (first | refine chk.ga ?_ | simp -dsimp [↓e3, h4, z6, ↓e8, h10, w14])
    refine Again.go _ ?_ ((ih_spec_l1Ctors_l1 (out ++ [(k : Int)]) (k + 1) o hF) _ rfl _ hq)
    exact (Gh.to3 (by simp) (by first | simp -dsimp [↓e3, h4, z6, ↓e8, h10, w14]; done | simp_all))
   ·have q11 : ¬ (v = true) := auq h10
    rw [if_neg q11] at hF
    have hF := oc hF; obtain ⟨c15, hF⟩ := hF
    have w16 : IntKind.i64.wrap ((k : Int) + 1) = (k : Int) + 1 := wrap_in (by omega) (by omega)
    repeat (first | refine chk.ga ?_ | simp -dsimp [↓e3, h4, z6, ↓e8, h10, q11, w16])
    refine Again.go _ ?_ ((ih_spec_l1Ctors_l1 out (k + 1) o hF) _ rfl _ hq)
    exact (Gh.to3 (by simp) (by first | simp -dsimp [↓e3, h4, z6, ↓e8, h10, q11, w16]; done | simp_all))
  ·have q5 : ¬ (k < x.ctors.length) := auq h4
   have z6 : ¬ ((k : Int) < (x.ctors.length : Int)) := auz
   rw [if_neg q5] at hF
   cases hF
   repeat (first | refine chk.ga ?_ | simp -dsimp [↓e3, h4, q5, z6])
   refine Leave.go ⟨[(5, .own 1 (List.length (α := Int) out))], [.dead, .elems 1 (List.map cI out)]⟩ (Gh.to3 (by simp) (by first | simp -dsimp [↓e3, h4, q5, z6]; done | simp_all)) ?_
   exact hq

theorem C.spec_l1Ctors (w : List Vl.Data) (t : Vl.Ty) (r : List Int) (hF : F.spec_l1Ctors w t = some r) : PureCall Tryz.prog B 140 [.arr (List.map Vl.Data.c w), .agg [.lit (.int .i64 t.data), .lit (.int .i64 t.index)]] (.arr (List.map cI r)) := by
 unfold F.spec_l1Ctors at hF
 refine PureCall.enterLe Tryz.func140 (by kernel_rfl) rfl Tryz.ntmps140 (by simp) (by simp) ?_
 repeat (first | refine chk.ga ?_ | simp -dsimp)
 refine abr.split (fun h1 => ?_) (fun h1 => ?_)
 ·have q2 : (t.data = (-1)) := auq h1
  rw [if_pos q2] at hF
  cases hF
  repeat (first | refine chk.ga ?_ | simp -dsimp [h1])
  all_goals (try first | omega | rfl)
 ·have q2 : ¬ (t.data = (-1)) := auq h1
  rw [if_neg q2] at hF
  repeat (first | refine chk.ga ?_ | simp -dsimp [h1, q2])
  have hF := ob hF; obtain ⟨o', ho17, hF⟩ := hF
  refine ALoop.goU _ ?_ (((CC.spec_l1Ctors_l1 B hB1 hB2 w t) [] 0 o' ho17) _ rfl _ ?_)
  ·exact (Gh.to3 (by simp) (by first | simp -dsimp [h1, q2]; done | simp_all))
  cases hF
  repeat (first | refine chk.ga ?_ | simp -dsimp)
  all_goals (try first | omega | rfl)

theorem CC.spec_l1Has_l1 (list : List Int) (n : Int) : (∀ (i : Nat) (o : Lo Bool Unit), F.spec_l1Has_l1 list n i = some o → ∀ (c : Code), navO [1, 0, 1, 0, 0] (bodyOf Tryz.f139) = some c → ∀ (Q : Exit → ASt → Prop), o.post (fun r => ∀ st, Post Tryz.prog Tryz.f139 (fun r' _ => r'.le (.lit (.bool r))) .ret st → Q .ret st) (fun s => Q (.exit 0) ⟨[], []⟩) → ALoopU Tryz.prog B 0 18 (hold c .mk) ⟨[(0, .arr (List.map cI list)), (1, .lit (.int .i64 n)), (5, .lit (.int .i64 (i : Int)))], []⟩ (hold Q .mk)) := by
 refine F.spec_l1Has_l1.partial_correctness list n
  _
  ?_
 ·intro _f_spec_l1Has_l1 ih_spec_l1Has_l1 i o hF
  intro c hc Q hq
  obtain rfl : c = _ := navEq hc rfl
  refine ALoopU.know fun hk hs => ?_
  have b0 := hk 0
  simp -dsimp at b0
  clear hk hs
  refine ALoopU.enter ?_
  repeat (first | refine chk.ga ?_ | simp -dsimp)
  refine abr.split (fun h1 => ?_) (fun h1 => ?_)
  ·have q2 : (i < list.length) := auq h1
   have z3 : ((i : Int) < (list.length : Int)) := auz
   rw [if_pos q2] at hF
   have hF := ob hF; obtain ⟨x, e4, hF⟩ := hF
   have le4 := lt_of_get e4
   repeat (first | refine chk.ga ?_ | simp -dsimp [h1, z3, ↓e4])
   refine abr.split (fun h5 => ?_) (fun h5 => ?_)
   ·have q6 : (x = n) := auq h5
    rw [if_pos q6] at hF
    cases hF
    repeat (first | refine chk.ga ?_ | simp -dsimp [h1, z3, ↓e4, h5])
    refine Leave.go _ (Gh.refl _) (hq _ ?_)
    repeat (first | refine chk.ga ?_ | simp -dsimp [h1, z3, ↓e4, h5])
   ·have q6 : ¬ (x = n) := auq h5
    rw [if_neg q6] at hF
    have w7 : IntKind.i64.wrap ((i : Int) + 1) = (i : Int) + 1 := wrap_in (by omega) (by omega)
    repeat (first | refine chk.ga ?_ | simp -dsimp [h1, z3, ↓e4, h5, q6, w7])
    refine Again.go _ ?_ ((ih_spec_l1Has_l1 (i + 1) o hF) _ rfl _ hq)
    exact (Gh.to3 (by simp) (by first | simp -dsimp [h1, z3, ↓e4, h5, q6, w7]; done | simp_all))
  ·have q2 : ¬ (i < list.length) := auq h1
   have z3 : ¬ ((i : Int) < (list.length : Int)) := auz
   rw [if_neg q2] at hF
   cases hF
   repeat (first | refine chk.ga ?_ | simp -dsimp [h1, q2, z3])
   refine Leave.go ⟨[], []⟩ (Gh.to3 (by simp) (by first | simp -dsimp [h1, q2, z3]; done | simp_all)) ?_
   exact hq

theorem C.spec_l1Has (list : List Int) (n : Int) (r : Bool) (hF : F.spec_l1Has list n = some r) : PureCall Tryz.prog B 139 [.arr (List.map cI list), .lit (.int .i64 n)] (.lit (.bool r)) := by
 unfold F.spec_l1Has at hF
 refine PureCall.enterLe Tryz.func139 (by kernel_rfl) rfl Tryz.ntmps139 (by simp) (by simp) ?_
 repeat (first | refine chk.ga ?_ | simp -dsimp)
 have hF := ob hF; obtain ⟨o', ho8, hF⟩ := hF
 refine ALoop.goU _ ?_ (((CC.spec_l1Has_l1 B hB1 hB2 list n) 0 o' ho8) _ rfl _ ?_)
 ·exact (Gh.to3 (by simp) (by simp -dsimp))
 rcases o' with r0 | sx
 ·dsimp only at hF
  cases hF
  intro st h
  simpa using h
 ·dsimp only at hF
  cases hF
  repeat (first | refine chk.ga ?_ | simp -dsimp)
  all_goals (try first | omega | rfl)

theorem C.spec_l3Own (w : List Vl.Data) (t : Vl.Ty) (p : Vl.Pattern) (r : Bool) (hF : F.spec_l3Own w t p = some r) : PureCall Tryz.prog B 151 [.arr (List.map Vl.Data.c w), .agg [.lit (.int .i64 t.data), .lit (.int .i64 t.index)], .agg [.lit (.int .i64 p.op), .lit (.int .i64 p.ctor), .lit (.int .i64 p.n), .lit (.int .i64 p.m), .lit (.int .i64 p.var), .arr (List.map Vl.Pattern.c p.kids)]] (.lit (.bool r)) := by
 unfold F.spec_l3Own at hF
 refine PureCall.enterLe Tryz.func151 (by kernel_rfl) rfl Tryz.ntmps151 (by simp) (by simp) ?_
 repeat (first | refine chk.ga ?_ | simp -dsimp)
 refine abr.split (fun h1 => ?_) (fun h1 => ?_)
 ·have q2 : ¬ (p.op = 2) := auq h1
  rw [if_neg q2] at hF
  repeat (first | refine chk.ga ?_ | simp -dsimp [h1, q2])
  refine abr.split (fun h3 => ?_) (fun h3 => ?_)
  ·have q4 : (p.op = 6) := auq h3
   rw [if_pos q4] at hF
   repeat (first | refine chk.ga ?_ | simp -dsimp [h1, q2, h3])
   refine abr.split (fun h5 => ?_) (fun h5 => ?_)
   ·have q6 : ¬ (p.var < 0) := auq h5
    rw [if_neg q6] at hF
    repeat (first | refine chk.ga ?_ | simp -dsimp [h1, q2, h3, h5, q6])
    refine abr.split (fun h7 => ?_) (fun h7 => ?_)
    ·have q8 : ¬ (5 < p.var) := auq h7
     rw [if_neg q8] at hF
     repeat (first | refine chk.ga ?_ | simp -dsimp [h1, q2, h3, h5, q6, h7, q8])
     refine abr.split (fun h9 => ?_) (fun h9 => ?_)
     ·have q10 : (p.n = 0) := auq h9
      rw [if_pos q10] at hF
      repeat (first | refine chk.ga ?_ | simp -dsimp [h1, q2, h3, h5, q6, h7, q8, h9])
      refine abr.split (fun h11 => ?_) (fun h11 => ?_)
      ·have q12 : (p.m = 0) := auq h11
       rw [if_pos q12] at hF
       repeat (first | refine chk.ga ?_ | simp -dsimp [h1, q2, h3, h5, q6, h7, q8, h9, h11])
       refine abr.split (fun h13 => ?_) (fun h13 => ?_)
       ·have q14 : ¬ (p.ctor = 0) := auq h13
        rw [if_neg q14] at hF
        cases hF
        repeat (first | refine chk.ga ?_ | simp -dsimp [h1, q2, h3, h5, q6, h7, q8, h9, h11, h13, q14])
        all_goals (try first | omega | rfl)
       ·have q14 : (p.ctor = 0) := auq h13
        rw [if_pos q14] at hF
        cases hF
        repeat (first | refine chk.ga ?_ | simp -dsimp [h1, q2, h3, h5, q6, h7, q8, h9, h11, h13, q14])
        all_goals (try first | omega | rfl)
      ·have q12 : ¬ (p.m = 0) := auq h11
       rw [if_neg q12] at hF
       cases hF
       repeat (first | refine chk.ga ?_ | simp -dsimp [h1, q2, h3, h5, q6, h7, q8, h9, h11, q12])
       all_goals (try first | omega | rfl)
     ·have q10 : ¬ (p.n = 0) := auq h9
      rw [if_neg q10] at hF
      cases hF
      repeat (first | refine chk.ga ?_ | simp -dsimp [h1, q2, h3, h5, q6, h7, q8, h9, q10])
      all_goals (try first | omega | rfl)
    ·have q8 : (5 < p.var) := auq h7
     rw [if_pos q8] at hF
     cases hF
     repeat (first | refine chk.ga ?_ | simp -dsimp [h1, q2, h3, h5, q6, h7, q8])
     all_goals (try first | omega | rfl)
   ·have q6 : (p.var < 0) := auq h5
    rw [if_pos q6] at hF
    cases hF
    repeat (first | refine chk.ga ?_ | simp -dsimp [h1, q2, h3, h5, q6])
    all_goals (try first | omega | rfl)
  ·have q4 : ¬ (p.op = 6) := auq h3
   rw [if_neg q4] at hF
   repeat (first | refine chk.ga ?_ | simp -dsimp [h1, q2, h3, q4])
   refine abr.split (fun h15 => ?_) (fun h15 => ?_)
   ·have q16 : ¬ (p.var = 0) := auq h15
    rw [if_neg q16] at hF
    cases hF
    repeat (first | refine chk.ga ?_ | simp -dsimp [h1, q2, h3, q4, h15, q16])
    all_goals (try first | omega | rfl)
   ·have q16 : (p.var = 0) := auq h15
    rw [if_pos q16] at hF
    repeat (first | refine chk.ga ?_ | simp -dsimp [h1, q2, h3, q4, h15, q16])
    refine abr.split (fun h17 => ?_) (fun h17 => ?_)
    ·have q18 : ¬ (p.op = 3) := auq h17
     rw [if_neg q18] at hF
     repeat (first | refine chk.ga ?_ | simp -dsimp [h1, q2, h3, q4, h15, q16, h17, q18])
     refine abr.split (fun h19 => ?_) (fun h19 => ?_)
     ·have q20 : (p.n = 0) := auq h19
      rw [if_pos q20] at hF
      repeat (first | refine chk.ga ?_ | simp -dsimp [h1, q2, h3, q4, h15, q16, h17, q18, h19])
      refine abr.split (fun h21 => ?_) (fun h21 => ?_)
      ·have q22 : (p.m = 0) := auq h21
       rw [if_pos q22] at hF
       repeat (first | refine chk.ga ?_ | simp -dsimp [h1, q2, h3, q4, h15, q16, h17, q18, h19, h21])
       refine abr.split (fun h23 => ?_) (fun h23 => ?_)
       ·have q24 : ¬ (p.op = 4) := auq h23
        rw [if_neg q24] at hF
        repeat (first | refine chk.ga ?_ | simp -dsimp [h1, q2, h3, q4, h15, q16, h17, q18, h19, h21, h23, q24])
        refine abr.split (fun h25 => ?_) (fun h25 => ?_)
        ·have q26 : ¬ (p.ctor = 0) := auq h25
         rw [if_neg q26] at hF
         cases hF
         repeat (first | refine chk.ga ?_ | simp -dsimp [h1, q2, h3, q4, h15, q16, h17, q18, h19, h21, h23, q24, h25, q26])
         all_goals (try first | omega | rfl)
        ·have q26 : (p.ctor = 0) := auq h25
         rw [if_pos q26] at hF
         repeat (first | refine chk.ga ?_ | simp -dsimp [h1, q2, h3, q4, h15, q16, h17, q18, h19, h21, h23, q24, h25, q26])
         refine abr.split (fun h27 => ?_) (fun h27 => ?_)
         ·have q28 : (p.op = 1) := auq h27
          rw [if_pos q28] at hF
          cases hF
          repeat (first | refine chk.ga ?_ | simp -dsimp [h1, q2, h3, q4, h15, q16, h17, q18, h19, h21, h23, q24, h25, q26, h27])
          all_goals (try first | omega | rfl)
         ·have q28 : ¬ (p.op = 1) := auq h27
          rw [if_neg q28] at hF
          repeat (first | refine chk.ga ?_ | simp -dsimp [h1, q2, h3, q4, h15, q16, h17, q18, h19, h21, h23, q24, h25, q26, h27, q28])
          refine abr.split (fun h29 => ?_) (fun h29 => ?_)
          ·have q30 : (p.op = 5) := auq h29
           rw [if_pos q30] at hF
           cases hF
           repeat (first | refine chk.ga ?_ | simp -dsimp [h1, q2, h3, q4, h15, q16, h17, q18, h19, h21, h23, q24, h25, q26, h27, q28, h29])
           all_goals (try first | omega | rfl)
          ·have q30 : ¬ (p.op = 5) := auq h29
           rw [if_neg q30] at hF
           cases hF
           repeat (first | refine chk.ga ?_ | simp -dsimp [h1, q2, h3, q4, h15, q16, h17, q18, h19, h21, h23, q24, h25, q26, h27, q28, h29, q30])
           all_goals (try first | omega | rfl)
       ·have q24 : (p.op = 4) := auq h23
        rw [if_pos q24] at hF
        repeat (first | refine chk.ga ?_ | simp -dsimp [h1, q2, h3, q4, h15, q16, h17, q18, h19, h21, h23, q24])
        refine ADraw.simple follows (by kernel_rfl) (by kernel_rfl) ?_
        repeat (first | refine chk.ga ?_ | simp -dsimp [h1, q2, h3, q4, h15, q16, h17, q18, h19, h21, h23, q24])
        have hF := ob hF; obtain ⟨v, e31, hF⟩ := hF
        refine ((C.spec_l1Ctors B hB1 hB2 w t v e31)).pgoW (by first | simp [h1, q2, h3, q4, h15, q16, h17, q18, h19, h21, h23, q24]; done | simp_all) (by simp) ?_
        repeat (first | refine chk.ga ?_ | simp -dsimp [h1, q2, h3, q4, h15, q16, h17, q18, h19, h21, h23, q24])
        have hF := ob hF; obtain ⟨v32, e33, hF⟩ := hF
        refine ((C.spec_l1Has B hB1 hB2 v p.ctor v32 e33)).pgoW (by first | simp [h1, q2, h3, q4, h15, q16, h17, q18, h19, h21, h23, q24]; done | simp_all) (by simp) ?_
        cases hF
        repeat (first | refine chk.ga ?_ | simp -dsimp [h1, q2, h3, q4, h15, q16, h17, q18, h19, h21, h23, q24])
        all_goals (try first | omega | rfl)
      ·have q22 : ¬ (p.m = 0) := auq h21
       rw [if_neg q22] at hF
       cases hF
       repeat (first | refine chk.ga ?_ | simp -dsimp [h1, q2, h3, q4, h15, q16, h17, q18, h19, h21, q22])
       all_goals (try first | omega | rfl)
     ·have q20 : ¬ (p.n = 0) := auq h19
      rw [if_neg q20] at hF
      cases hF
      repeat (first | refine chk.ga ?_ | simp -dsimp [h1, q2, h3, q4, h15, q16, h17, q18, h19, q20])
      all_goals (try first | omega | rfl)
    ·have q18 : (p.op = 3) := auq h17
     rw [if_pos q18] at hF
     repeat (first | refine chk.ga ?_ | simp -dsimp [h1, q2, h3, q4, h15, q16, h17, q18])
     refine abr.split (fun h34 => ?_) (fun h34 => ?_)
     ·have q35 : ¬ (p.ctor = 0) := auq h34
      rw [if_neg q35] at hF
      cases hF
      repeat (first | refine chk.ga ?_ | simp -dsimp [h1, q2, h3, q4, h15, q16, h17, q18, h34, q35])
      all_goals (try first | omega | rfl)
     ·have q35 : (p.ctor = 0) := auq h34
      rw [if_pos q35] at hF
      repeat (first | refine chk.ga ?_ | simp -dsimp [h1, q2, h3, q4, h15, q16, h17, q18, h34, q35])
      refine abr.split (fun h36 => ?_) (fun h36 => ?_)
      ·have q37 : (t.data = (-1)) := auq h36
       rw [if_pos q37] at hF
       repeat (first | refine chk.ga ?_ | simp -dsimp [h1, q2, h3, q4, h15, q16, h17, q18, h34, q35, h36])
       refine abr.split (fun h38 => ?_) (fun h38 => ?_)
       ·have q39 : (0 ≤ p.n) := auq h38
        rw [if_pos q39] at hF
        repeat (first | refine chk.ga ?_ | simp -dsimp [h1, q2, h3, q4, h15, q16, h17, q18, h34, q35, h36, h38])
        refine abr.split (fun h40 => ?_) (fun h40 => ?_)
        ·have q41 : (p.n ≤ p.m) := auq h40
         rw [if_pos q41] at hF
         cases hF
         repeat (first | refine chk.ga ?_ | simp -dsimp [h1, q2, h3, q4, h15, q16, h17, q18, h34, q35, h36, h38, h40])
         all_goals (try first | omega | rfl)
        ·have q41 : ¬ (p.n ≤ p.m) := auq h40
         rw [if_neg q41] at hF
         cases hF
         repeat (first | refine chk.ga ?_ | simp -dsimp [h1, q2, h3, q4, h15, q16, h17, q18, h34, q35, h36, h38, h40, q41])
         all_goals (try first | omega | rfl)
       ·have q39 : ¬ (0 ≤ p.n) := auq h38
        rw [if_neg q39] at hF
        cases hF
        repeat (first | refine chk.ga ?_ | simp -dsimp [h1, q2, h3, q4, h15, q16, h17, q18, h34, q35, h36, h38, q39])
        all_goals (try first | omega | rfl)
      ·have q37 : ¬ (t.data = (-1)) := auq h36
       rw [if_neg q37] at hF
       cases hF
       repeat (first | refine chk.ga ?_ | simp -dsimp [h1, q2, h3, q4, h15, q16, h17, q18, h34, q35, h36, q37])
       all_goals (try first | omega | rfl)
 ·have q2 : (p.op = 2) := auq h1
  rw [if_pos q2] at hF
  repeat (first | refine chk.ga ?_ | simp -dsimp [h1, q2])
  refine abr.split (fun h42 => ?_) (fun h42 => ?_)
  ·have q43 : ¬ (p.var < 0) := auq h42
   rw [if_neg q43] at hF
   repeat (first | refine chk.ga ?_ | simp -dsimp [h1, q2, h42, q43])
   refine abr.split (fun h44 => ?_) (fun h44 => ?_)
   ·have q45 : ¬ (5 < p.var) := auq h44
    rw [if_neg q45] at hF
    repeat (first | refine chk.ga ?_ | simp -dsimp [h1, q2, h42, q43, h44, q45])
    refine abr.split (fun h46 => ?_) (fun h46 => ?_)
    ·have q47 : (p.n = 0) := auq h46
     rw [if_pos q47] at hF
     repeat (first | refine chk.ga ?_ | simp -dsimp [h1, q2, h42, q43, h44, q45, h46])
     refine abr.split (fun h48 => ?_) (fun h48 => ?_)
     ·have q49 : (p.m = 0) := auq h48
      rw [if_pos q49] at hF
      repeat (first | refine chk.ga ?_ | simp -dsimp [h1, q2, h42, q43, h44, q45, h46, h48])
      refine abr.split (fun h50 => ?_) (fun h50 => ?_)
      ·have q51 : ¬ (p.ctor = 0) := auq h50
       rw [if_neg q51] at hF
       cases hF
       repeat (first | refine chk.ga ?_ | simp -dsimp [h1, q2, h42, q43, h44, q45, h46, h48, h50, q51])
       all_goals (try first | omega | rfl)
      ·have q51 : (p.ctor = 0) := auq h50
       rw [if_pos q51] at hF
       cases hF
       repeat (first | refine chk.ga ?_ | simp -dsimp [h1, q2, h42, q43, h44, q45, h46, h48, h50, q51])
       all_goals (try first | omega | rfl)
     ·have q49 : ¬ (p.m = 0) := auq h48
      rw [if_neg q49] at hF
      cases hF
      repeat (first | refine chk.ga ?_ | simp -dsimp [h1, q2, h42, q43, h44, q45, h46, h48, q49])
      all_goals (try first | omega | rfl)
    ·have q47 : ¬ (p.n = 0) := auq h46
     rw [if_neg q47] at hF
     cases hF
     repeat (first | refine chk.ga ?_ | simp -dsimp [h1, q2, h42, q43, h44, q45, h46, q47])
     all_goals (try first | omega | rfl)
   ·have q45 : (5 < p.var) := auq h44
    rw [if_pos q45] at hF
    cases hF
    repeat (first | refine chk.ga ?_ | simp -dsimp [h1, q2, h42, q43, h44, q45])
    all_goals (try first | omega | rfl)
  ·have q43 : (p.var < 0) := auq h42
   rw [if_pos q43] at hF
   cases hF
   repeat (first | refine chk.ga ?_ | simp -dsimp [h1, q2, h42, q43])
   all_goals (try first | omega | rfl)

theorem C.spec_l1Result (c' : Vl.Ctor) (index' : Int) (r : Int) (hF : F.spec_l1Result c' index' = some r) : PureCall Tryz.prog B 81 [.agg [.lit (.string c'.name), .arr (List.map Vl.Ty.c c'.args), .lit (.int .i64 c'.index)], .lit (.int .i64 index')] (.lit (.int .i64 r)) := by
 unfold F.spec_l1Result at hF
 refine PureCall.enterLe Tryz.func81 (by kernel_rfl) rfl Tryz.ntmps81 (by simp) (by simp) ?_
 repeat (first | refine chk.ga ?_ | simp -dsimp)
 refine abr.split (fun h1 => ?_) (fun h1 => ?_)
 ·have q2 : (c'.index = 0) := auq h1
  rw [if_pos q2] at hF
  cases hF
  repeat (first | refine chk.ga ?_ | simp -dsimp [h1])
  all_goals (try first | omega | rfl)
 ·have q2 : ¬ (c'.index = 0) := auq h1
  rw [if_neg q2] at hF
  cases hF
  repeat (first | refine chk.ga ?_ | simp -dsimp [h1, q2])
  all_goals (try first | omega | rfl)

theorem CC.spec_l1Args_l1 (t : Vl.Ty) (x2 : Vl.Ctor) : (∀ (out : List Vl.Ty) (i : Nat) (o : List Vl.Ty), F.spec_l1Args_l1 t x2 out i = some o → ∀ (c : Code), navO [1, 1, 1, 0, 1, 0, 0] (bodyOf Tryz.f51) = some c → ∀ (Q : Exit → ASt → Prop), (Q (.exit 0) ⟨[(7, .own 1 (List.length (α := Vl.Ty) o))], [.dead, .elems 2 (List.map Vl.Ty.c o)]⟩) → ALoopU Tryz.prog B 0 46 (hold c .mk) ⟨[(4, .ptr 0 0), (7, .own 1 (List.length (α := Vl.Ty) out)), (8, .ptr 2 0), (9, .lit (.int .i64 (i : Int)))], [.cells [.lit (.int .i64 t.data), .lit (.int .i64 t.index)], .elems 2 (List.map Vl.Ty.c out), .cells [.lit (.string x2.name), .arr (List.map Vl.Ty.c x2.args), .lit (.int .i64 x2.index)]]⟩ (hold Q .mk)) := by
 refine F.spec_l1Args_l1.partial_correctness t x2
  _
  ?_
 ·intro _f_spec_l1Args_l1 ih_spec_l1Args_l1 out i o hF
  intro c hc Q hq
  obtain rfl : c = _ := navEq hc rfl
  refine ALoopU.know fun hk hs => ?_
  have d1 := hs 1 _ rfl
  simp -dsimp [Blk.bnd] at d1
  have d2 := hs 2 _ rfl
  simp -dsimp [Blk.bnd] at d2
  clear hk hs
  refine ALoopU.enter ?_
  repeat (first | refine chk.ga ?_ | simp -dsimp)
  refine abr.split (fun h4 => ?_) (fun h4 => ?_)
  ·have q5 : (i < x2.args.length) := auq h4
   have z6 : ((i : Int) < (x2.args.length : Int)) := auz
   rw [if_pos q5] at hF
   have hF := ob hF; obtain ⟨x7, e8, hF⟩ := hF
   have le8 := lt_of_get e8
   repeat (first | refine chk.ga ?_ | simp -dsimp [h4, z6, ↓e8])
   refine abr.split (fun h9 => ?_) (fun h9 => ?_)
   ·have q10 : (x7.index = (-1)) := auq h9
    rw [if_pos q10] at hF
    repeat (first | refine chk.ga ?_ | simp -dsimp [h4, z6, ↓e8, h9])
    have hF := ob hF; obtain ⟨v, e11, hF⟩ := hF
    refine ((C.spec_l1Result B hB1 hB2 x2 t.index v e11)).goW (by first | simp [h4, z6, ↓e8, h9]; done | simp_all) (by simp) ?_
    have hF := oc hF; obtain ⟨c12, hF⟩ := hF
    have w13 : IntKind.i64.wrap ((i : Int) + 1) = (i : Int) + 1 := wrap_in (by omega) (by omega)
    repeat (first | refine chk.ga ?_ | simp -dsimp [h4, z6, ↓e8, h9, w13])
    refine Again.go _ ?_ ((ih_spec_l1Args_l1 (out ++ [(⟨x7.data, v⟩ : Vl.Ty)]) (i + 1) o hF) _ rfl _ hq)
    exact (Gh.to3 (by simp) (by first | simp -dsimp [h4, z6, ↓e8, h9, w13]; done | simp_all))
   ·have q10 : ¬ (x7.index = (-1)) := auq h9
    rw [if_neg q10] at hF
    have hF := oc hF; obtain ⟨c14, hF⟩ := hF
    have w15 : IntKind.i64.wrap ((i : Int) + 1) = (i : Int) + 1 := wrap_in (by omega) (by omega)
    repeat (first | refine chk.ga ?_ | simp -dsimp [h4, z6, ↓e8, h9, q10, w15])
    refine Again.go _ ?_ ((ih_spec_l1Args_l1 (out ++ [x7]) (i + 1) o hF) _ rfl _ hq)
    exact (Gh.to3 (by simp) (by first | simp -dsimp [h4, z6, ↓e8, h9, q10, w15]; done | simp_all))
  ·have q5 : ¬ (i < x2.args.length) := auq h4
   have z6 : ¬ ((i : Int) < (x2.args.length : Int)) := auz
   rw [if_neg q5] at hF
   cases hF
   repeat (first | refine chk.ga ?_ | simp -dsimp [h4, q5, z6])
   refine Leave.go ⟨[(7, .own 1 (List.length (α := Vl.Ty) out))], [.dead, .elems 2 (List.map Vl.Ty.c out)]⟩ (Gh.to3 (by simp) (by first | simp -dsimp [h4, q5, z6]; done | simp_all)) ?_
   exact hq

theorem C.spec_l1Args (w : List Vl.Data) (t : Vl.Ty) (ctor : Int) (r : List Vl.Ty) (hF : F.spec_l1Args w t ctor = some r) : PureCall Tryz.prog B 51 [.arr (List.map Vl.Data.c w), .agg [.lit (.int .i64 t.data), .lit (.int .i64 t.index)], .lit (.int .i64 ctor)] (.arr (List.map Vl.Ty.c r)) := by
 unfold F.spec_l1Args at hF
 refine PureCall.enterLe Tryz.func51 (by kernel_rfl) rfl Tryz.ntmps51 (by simp) (by simp) ?_
 have hF := ob hF; obtain ⟨x, e1a, hF⟩ := hF
 have e1a := at_some e1a; obtain ⟨ne1, e1⟩ := e1a
 have le1 := lt_of_get e1
 have hF := ob hF; obtain ⟨x2, e3a, hF⟩ := hF
 have e3a := at_some e3a; obtain ⟨ne3, e3⟩ := e3a
 have le3 := lt_of_get e3
 repeat (first | refine chk.ga ?_ | simp -dsimp [↓e1, ↓e3])
 have hF := ob hF; obtain ⟨o', ho16, hF⟩ := hF
 refine ALoop.goU _ ?_ (((CC.spec_l1Args_l1 B hB1 hB2 t x2) [] 0 o' ho16) _ rfl _ ?_)
 ·exact (Gh.to3 (by simp) (by first | simp -dsimp [↓e1, ↓e3]; done | simp_all))
 cases hF
 repeat (first | refine chk.ga ?_ | simp -dsimp)
 all_goals (try first | omega | rfl)

theorem C.spec_l3Kids (op : Int) (r : Int) (hF : F.spec_l3Kids op = some r) : PureCall Tryz.prog B 153 [.lit (.int .i64 op)] (.lit (.int .i64 r)) := by
 unfold F.spec_l3Kids at hF
 refine PureCall.enterLe Tryz.func153 (by kernel_rfl) rfl Tryz.ntmps153 (by simp) (by simp) ?_
 repeat (first | refine chk.ga ?_ | simp -dsimp)
 refine abr.split (fun h1 => ?_) (fun h1 => ?_)
 ·have q2 : (op = 5) := auq h1
  rw [if_pos q2] at hF
  cases hF
  repeat (first | refine chk.ga ?_ | simp -dsimp [eq_true h1])
  all_goals (try first | omega | rfl)
 ·have q2 : ¬ (op = 5) := auq h1
  rw [if_neg q2] at hF
  repeat (first | refine chk.ga ?_ | simp -dsimp [h1, q2])
  refine abr.split (fun h3 => ?_) (fun h3 => ?_)
  ·have q4 : (op = 6) := auq h3
   rw [if_pos q4] at hF
   cases hF
   repeat (first | refine chk.ga ?_ | simp -dsimp [h1, q2, eq_true h3])
   all_goals (try first | omega | rfl)
  ·have q4 : ¬ (op = 6) := auq h3
   rw [if_neg q4] at hF
   repeat (first | refine chk.ga ?_ | simp -dsimp [h1, q2, h3, q4])
   refine abr.split (fun h5 => ?_) (fun h5 => ?_)
   ·have q6 : (op = 4) := auq h5
    rw [if_pos q6] at hF
    cases hF
    repeat (first | refine chk.ga ?_ | simp -dsimp [h1, q2, h3, q4, eq_true h5])
    all_goals (try first | omega | rfl)
   ·have q6 : ¬ (op = 4) := auq h5
    rw [if_neg q6] at hF
    cases hF
    repeat (first | refine chk.ga ?_ | simp -dsimp [h1, q2, h3, q4, h5, q6])
    all_goals (try first | omega | rfl)

theorem CC.spec_l3Types_l1 (t : Vl.Ty) (p : Vl.Pattern) : (∀ (out : List Vl.Ty) (i : Nat) (o : List Vl.Ty), F.spec_l3Types_l1 t p out i = some o → ∀ (c : Code), navO [1, 1, 1, 0, 1, 0, 0] (bodyOf Tryz.f132) = some c → ∀ (Q : Exit → ASt → Prop), (Q (.exit 0) ⟨[(7, .own 2 (List.length (α := Vl.Ty) o))], [.dead, .dead, .elems 2 (List.map Vl.Ty.c o)]⟩) → ALoopU Tryz.prog B 0 30 (hold c .mk) ⟨[(4, .ptr 0 0), (5, .ptr 1 0), (7, .own 2 (List.length (α := Vl.Ty) out)), (8, .lit (.int .i64 (i : Int)))], [.cells [.lit (.int .i64 t.data), .lit (.int .i64 t.index)], .cells [.lit (.int .i64 p.op), .lit (.int .i64 p.ctor), .lit (.int .i64 p.n), .lit (.int .i64 p.m), .lit (.int .i64 p.var), .arr (List.map Vl.Pattern.c p.kids)], .elems 2 (List.map Vl.Ty.c out)]⟩ (hold Q .mk)) := by
 refine F.spec_l3Types_l1.partial_correctness t p
  _
  ?_
 ·intro _f_spec_l3Types_l1 ih_spec_l3Types_l1 out i o hF
  intro c hc Q hq
  obtain rfl : c = _ := navEq hc rfl
  refine ALoopU.know fun hk hs => ?_
  have d1 := hs 1 _ rfl
  simp -dsimp [Blk.bnd] at d1
  have d2 := hs 2 _ rfl
  simp -dsimp [Blk.bnd] at d2
  clear hk hs
  refine ALoopU.enter ?_
  repeat (first | refine chk.ga ?_ | simp -dsimp)
  have hF := ob hF; obtain ⟨v4, e5, hF⟩ := hF
  refine ((C.spec_l3Kids B hB1 hB2 p.op v4 e5)).goW (by simp) (by simp) ?_
  repeat (first | refine chk.ga ?_ | simp -dsimp)
  refine abr.split (fun h6 => ?_) (fun h6 => ?_)
  ·have q7 : ((i : Int) < v4) := auq h6
   rw [if_pos q7] at hF
   have hF := oc hF; obtain ⟨c8, hF⟩ := hF
   have hF := oc hF; obtain ⟨c9, hF⟩ := hF
   have w10 : IntKind.i64.wrap ((i : Int) + 1) = (i : Int) + 1 := wrap_in (by omega) (by omega)
   repeat (first | refine chk.ga ?_ | simp -dsimp [h6, w10])
   refine Again.go _ ?_ ((ih_spec_l3Types_l1 (out ++ [t]) (i + 1) o hF) _ rfl _ hq)
   exact (Gh.to3 (by simp) (by first | simp -dsimp [h6, w10]; done | simp_all))
  ·have q7 : ¬ ((i : Int) < v4) := auq h6
   rw [if_neg q7] at hF
   cases hF
   repeat (first | refine chk.ga ?_ | simp -dsimp [h6, q7])
   refine Leave.go ⟨[(7, .own 2 (List.length (α := Vl.Ty) out))], [.dead, .dead, .elems 2 (List.map Vl.Ty.c out)]⟩ (Gh.to3 (by simp) (by first | simp -dsimp [h6, q7]; done | simp_all)) ?_
   exact hq

theorem C.spec_l3Types (w : List Vl.Data) (t : Vl.Ty) (p : Vl.Pattern) (r : List Vl.Ty) (hF : F.spec_l3Types w t p = some r) : PureCall Tryz.prog B 132 [.arr (List.map Vl.Data.c w), .agg [.lit (.int .i64 t.data), .lit (.int .i64 t.index)], .agg [.lit (.int .i64 p.op), .lit (.int .i64 p.ctor), .lit (.int .i64 p.n), .lit (.int .i64 p.m), .lit (.int .i64 p.var), .arr (List.map Vl.Pattern.c p.kids)]] (.arr (List.map Vl.Ty.c r)) := by
 unfold F.spec_l3Types at hF
 refine PureCall.enterLe Tryz.func132 (by kernel_rfl) rfl Tryz.ntmps132 (by simp) (by simp) ?_
 repeat (first | refine chk.ga ?_ | simp -dsimp)
 refine abr.split (fun h1 => ?_) (fun h1 => ?_)
 ·have q2 : (p.op = 4) := auq h1
  rw [if_pos q2] at hF
  repeat (first | refine chk.ga ?_ | simp -dsimp [h1])
  have hF := ob hF; obtain ⟨v, e3, hF⟩ := hF
  refine ((C.spec_l1Args B hB1 hB2 w t p.ctor v e3)).goW (by first | simp [h1]; done | simp_all) (by simp) ?_
  cases hF
  repeat (first | refine chk.ga ?_ | simp -dsimp [h1])
  all_goals (try first | omega | rfl)
 ·have q2 : ¬ (p.op = 4) := auq h1
  rw [if_neg q2] at hF
  repeat (first | refine chk.ga ?_ | simp -dsimp [h1, q2])
  have hF := ob hF; obtain ⟨o', ho11, hF⟩ := hF
  refine ALoop.goU _ ?_ (((CC.spec_l3Types_l1 B hB1 hB2 t p) [] 0 o' ho11) _ rfl _ ?_)
  ·exact (Gh.to3 (by simp) (by first | simp -dsimp [h1, q2]; done | simp_all))
  cases hF
  repeat (first | refine chk.ga ?_ | simp -dsimp)
  all_goals (try first | omega | rfl)

theorem CC.spec_l3Shape (w : List Vl.Data) : (∀ (t : Vl.Ty) (p : Vl.Pattern) (depth : Int) (r : Bool), F.spec_l3Shape w t p depth = some r → PureCall Tryz.prog B 129 [.arr (List.map Vl.Data.c w), .agg [.lit (.int .i64 t.data), .lit (.int .i64 t.index)], .agg [.lit (.int .i64 p.op), .lit (.int .i64 p.ctor), .lit (.int .i64 p.n), .lit (.int .i64 p.m), .lit (.int .i64 p.var), .arr (List.map Vl.Pattern.c p.kids)], .lit (.int .i64 depth)] (.lit (.bool r))) ∧
  (∀ (p : Vl.Pattern) (depth : Int) (v6 : List Vl.Ty) (i : Nat) (o : Lo Bool Unit), F.spec_l3Shape_l1 w p depth v6 i = some o → ∀ (c : Code), navO [1, 1, 1, 1, 0, 1, 0, 0] (bodyOf Tryz.f129) = some c → ∀ (Q : Exit → ASt → Prop), o.post (fun r => ∀ st, Post Tryz.prog Tryz.f129 (fun r' _ => r'.le (.lit (.bool r))) .ret st → Q .ret st) (fun s => Q (.exit 0) ⟨[], []⟩) → ALoopU Tryz.prog B 0 50 (hold c .mk) ⟨[(0, .arr (List.map Vl.Data.c w)), (3, .lit (.int .i64 depth)), (6, .ptr 1 0), (9, .arr (List.map Vl.Ty.c v6)), (10, .lit (.int .i64 (i : Int)))], [.dead, .cells [.lit (.int .i64 p.op), .lit (.int .i64 p.ctor), .lit (.int .i64 p.n), .lit (.int .i64 p.m), .lit (.int .i64 p.var), .arr (List.map Vl.Pattern.c p.kids)]]⟩ (hold Q .mk)) := by
 refine F.spec_l3Shape.mutual_partial_correctness w
  _ _
  ?_ ?_
 ·intro _f_spec_l3Shape_l1 ih_spec_l3Shape_l1 t p depth r hF
  refine PureCall.enterLe Tryz.func129 (by kernel_rfl) rfl Tryz.ntmps129 (by simp) (by simp) ?_
  repeat (first | refine chk.ga ?_ | simp -dsimp)
  refine abr.split (fun h1 => ?_) (fun h1 => ?_)
  ·have q2 : ¬ (depth < 1) := auq h1
   rw [if_neg q2] at hF
   repeat (first | refine chk.ga ?_ | simp -dsimp [h1, q2])
   have hF := ob hF; obtain ⟨v, e3, hF⟩ := hF
   refine ((C.spec_l3Own B hB1 hB2 w t p v e3)).goW (by first | simp [h1, q2]; done | simp_all) (by simp) ?_
   repeat (first | refine chk.ga ?_ | simp -dsimp [h1, q2])
   refine abr.split (fun h4 => ?_) (fun h4 => ?_)
   ·have q5 : ¬ (v = true) := auq h4
    rw [if_neg q5] at hF
    cases hF
    repeat (first | refine chk.ga ?_ | simp -dsimp [h1, q2, h4, q5])
    all_goals (try first | omega | rfl)
   ·have q5 : (v = true) := auq h4
    rw [if_pos q5] at hF
    repeat (first | refine chk.ga ?_ | simp -dsimp [h1, q2, h4, q5])
    have hF := ob hF; obtain ⟨v6, e7, hF⟩ := hF
    refine ((C.spec_l3Types B hB1 hB2 w t p v6 e7)).goW (by first | simp [h1, q2, h4, q5]; done | simp_all) (by simp) ?_
    repeat (first | refine chk.ga ?_ | simp -dsimp [h1, q2, h4, q5])
    refine abr.split (fun h8 => ?_) (fun h8 => ?_)
    ·have q9 : ¬ (p.kids.length = v6.length) := auq h8
     have z10 : ¬ ((p.kids.length : Int) = (v6.length : Int)) := auz
     rw [if_neg q9] at hF
     cases hF
     repeat (first | refine chk.ga ?_ | simp -dsimp [h1, q2, h4, q5, h8, q9, z10])
     all_goals (try first | omega | rfl)
    ·have q9 : (p.kids.length = v6.length) := auq h8
     have z10 : ((p.kids.length : Int) = (v6.length : Int)) := auz
     rw [if_pos q9] at hF
     repeat (first | refine chk.ga ?_ | simp -dsimp [h1, q2, h4, q5, h8, q9, z10])
     have hF := ob hF; obtain ⟨o', ho22, hF⟩ := hF
     refine ALoop.goU _ ?_ ((ih_spec_l3Shape_l1 p depth v6 0 o' ho22) _ rfl _ ?_)
     ·exact (Gh.to3 (by simp) (by first | simp -dsimp [h1, q2, h4, q5, h8, q9, z10]; done | simp_all))
     rcases o' with r0 | sx
     ·dsimp only at hF
      cases hF
      intro st h
      simpa using h
     ·dsimp only at hF
      cases hF
      repeat (first | refine chk.ga ?_ | simp -dsimp)
      all_goals (try first | omega | rfl)
  ·have q2 : (depth < 1) := auq h1
   rw [if_pos q2] at hF
   cases hF
   repeat (first | refine chk.ga ?_ | simp -dsimp [h1, q2])
   all_goals (try first | omega | rfl)
 ·intro _f_spec_l3Shape _f_spec_l3Shape_l1 ih_spec_l3Shape ih_spec_l3Shape_l1 p depth v6 i o hF
  intro c hc Q hq
  obtain rfl : c = _ := navEq hc rfl
  refine ALoopU.know fun hk hs => ?_
  have b0 := hk 0
  simp -dsimp at b0
  have b9 := hk 9
  simp -dsimp at b9
  have d1 := hs 1 _ rfl
  simp -dsimp [Blk.bnd] at d1
  clear hk hs
  refine ALoopU.enter ?_
  repeat (first | refine chk.ga ?_ | simp -dsimp)
  refine abr.split (fun h11 => ?_) (fun h11 => ?_)
  ·have q12 : (i < v6.length) := auq h11
   have z13 : ((i : Int) < (v6.length : Int)) := auz
   rw [if_pos q12] at hF
   repeat (first | refine chk.ga ?_ | simp -dsimp [h11, z13])
   refine ADraw.simple follows (by kernel_rfl) (by kernel_rfl) ?_
   have hF := ob hF; obtain ⟨x, e14, hF⟩ := hF
   have le14 := lt_of_get e14
   have hF := ob hF; obtain ⟨x15, e16, hF⟩ := hF
   have le16 := lt_of_get e16
   repeat (first | refine chk.ga ?_ | simp -dsimp [h11, z13, ↓e14, ↓e16])
   have hF := ob hF; obtain ⟨v17, e18, hF⟩ := hF
   refine ((ih_spec_l3Shape x x15 (IntKind.i64.wrap (depth - 1)) v17 e18)).pgoW (by first | simp [h11, z13, ↓e14, ↓e16]; done | simp_all) (by simp) ?_
   repeat (first | refine chk.ga ?_ | simp -dsimp [h11, z13, ↓e14, ↓e16])
   refine abr.split (fun h19 => ?_) (fun h19 => ?_)
   ·have q20 : ¬ (v17 = true) := auq h19
    rw [if_neg q20] at hF
    cases hF
    repeat (first | refine chk.ga ?_ | simp -dsimp [h11, z13, ↓e14, ↓e16, h19, q20])
    refine Leave.go _ (Gh.refl _) (hq _ ?_)
    repeat (first | refine chk.ga ?_ | simp -dsimp [h11, z13, ↓e14, ↓e16, h19, q20])
   ·have q20 : (v17 = true) := auq h19
    rw [if_pos q20] at hF
    have w21 : IntKind.i64.wrap ((i : Int) + 1) = (i : Int) + 1 := wrap_in (by omega) (by omega)
    repeat (first | refine chk.ga ?_ | simp -dsimp [h11, z13, ↓e14, ↓e16, h19, q20, w21])
    refine Again.go _ ?_ ((ih_spec_l3Shape_l1 p depth v6 (i + 1) o hF) _ rfl _ hq)
    exact (Gh.to3 (by simp) (by first | simp -dsimp [h11, z13, ↓e14, ↓e16, h19, q20, w21]; done | simp_all))
  ·have q12 : ¬ (i < v6.length) := auq h11
   have z13 : ¬ ((i : Int) < (v6.length : Int)) := auz
   rw [if_neg q12] at hF
   cases hF
   repeat (first | refine chk.ga ?_ | simp -dsimp [h11, q12, z13])
   refine Leave.go ⟨[], []⟩ (Gh.to3 (by simp) (by first | simp -dsimp [h11, q12, z13]; done | simp_all)) ?_
   exact hq

theorem CC.spec_l3Count  : (∀ (p : Vl.Pattern) (most : Int) (r : Int), F.spec_l3Count p most = some r → PureCall Tryz.prog B 130 [.agg [.lit (.int .i64 p.op), .lit (.int .i64 p.ctor), .lit (.int .i64 p.n), .lit (.int .i64 p.m), .lit (.int .i64 p.var), .arr (List.map Vl.Pattern.c p.kids)], .lit (.int .i64 most)] (.lit (.int .i64 r))) ∧
  (∀ (p : Vl.Pattern) (most : Int) (n : Int) (i : Nat) (o : Int), F.spec_l3Count_l1 p most n i = some o → ∀ (c : Code), navO [1, 1, 0, 1, 0, 0] (bodyOf Tryz.f130) = some c → ∀ (Q : Exit → ASt → Prop), (Q (.exit 0) ⟨[(5, .lit (.int .i64 o))], []⟩) → ALoopU Tryz.prog B 0 31 (hold c .mk) ⟨[(1, .lit (.int .i64 most)), (2, .ptr 0 0), (5, .lit (.int .i64 n)), (6, .lit (.int .i64 (i : Int)))], [.cells [.lit (.int .i64 p.op), .lit (.int .i64 p.ctor), .lit (.int .i64 p.n), .lit (.int .i64 p.m), .lit (.int .i64 p.var), .arr (List.map Vl.Pattern.c p.kids)]]⟩ (hold Q .mk)) := by
 refine F.spec_l3Count.mutual_partial_correctness 
  _ _
  ?_ ?_
 ·intro _f_spec_l3Count_l1 ih_spec_l3Count_l1 p most r hF
  refine PureCall.enterLe Tryz.func130 (by kernel_rfl) rfl Tryz.ntmps130 (by simp) (by simp) ?_
  repeat (first | refine chk.ga ?_ | simp -dsimp)
  have hF := ob hF; obtain ⟨o', ho9, hF⟩ := hF
  refine ALoop.goU _ ?_ ((ih_spec_l3Count_l1 p most (1 : Int) 0 o' ho9) _ rfl _ ?_)
  ·exact (Gh.to3 (by simp) (by simp -dsimp))
  cases hF
  repeat (first | refine chk.ga ?_ | simp -dsimp)
  all_goals (try first | omega | rfl)
 ·intro _f_spec_l3Count _f_spec_l3Count_l1 ih_spec_l3Count ih_spec_l3Count_l1 p most n i o hF
  intro c hc Q hq
  obtain rfl : c = _ := navEq hc rfl
  refine ALoopU.know fun hk hs => ?_
  have d0 := hs 0 _ rfl
  simp -dsimp [Blk.bnd] at d0
  clear hk hs
  refine ALoopU.enter ?_
  repeat (first | refine chk.ga ?_ | simp -dsimp)
  refine abr.split (fun h1 => ?_) (fun h1 => ?_)
  ·have q2 : (i < p.kids.length) := auq h1
   have z3 : ((i : Int) < (p.kids.length : Int)) := auz
   rw [if_pos q2] at hF
   repeat (first | refine chk.ga ?_ | simp -dsimp [h1, z3])
   refine abr.split (fun h4 => ?_) (fun h4 => ?_)
   ·have q5 : (n ≤ most) := auq h4
    rw [if_pos q5] at hF
    have hF := ob hF; obtain ⟨x, e6, hF⟩ := hF
    have le6 := lt_of_get e6
    repeat (first | refine chk.ga ?_ | simp -dsimp [h1, z3, h4, ↓e6])
    have hF := ob hF; obtain ⟨v, e7, hF⟩ := hF
    refine ((ih_spec_l3Count x (IntKind.i64.wrap (most - n)) v e7)).goW (by first | simp [h1, z3, h4, ↓e6]; done | simp_all) (by simp) ?_
    have w8 : IntKind.i64.wrap ((i : Int) + 1) = (i : Int) + 1 := wrap_in (by omega) (by omega)
    repeat (first | refine chk.ga ?_ | simp -dsimp [h1, z3, h4, ↓e6, w8])
    refine Again.go _ ?_ ((ih_spec_l3Count_l1 p most (IntKind.i64.wrap (n + v)) (i + 1) o hF) _ rfl _ hq)
    exact (Gh.to3 (by simp) (by first | simp -dsimp [h1, z3, h4, ↓e6, w8]; done | simp_all))
   ·have q5 : ¬ (n ≤ most) := auq h4
    rw [if_neg q5] at hF
    cases hF
    repeat (first | refine chk.ga ?_ | simp -dsimp [h1, z3, h4, q5])
    refine Leave.go ⟨[(5, .lit (.int .i64 n))], []⟩ (Gh.to3 (by simp) (by first | simp -dsimp [h1, z3, h4, q5]; done | simp_all)) ?_
    exact hq
  ·have q2 : ¬ (i < p.kids.length) := auq h1
   have z3 : ¬ ((i : Int) < (p.kids.length : Int)) := auz
   rw [if_neg q2] at hF
   cases hF
   repeat (first | refine chk.ga ?_ | simp -dsimp [h1, q2, z3])
   refine Leave.go ⟨[(5, .lit (.int .i64 n))], []⟩ (Gh.to3 (by simp) (by first | simp -dsimp [h1, q2, z3]; done | simp_all)) ?_
   exact hq

theorem CC.spec_l3Vars (w : List Vl.Data) : (∀ (out : List Vl.VarType) (t : Vl.Ty) (p : Vl.Pattern) (r : List Vl.VarType), F.spec_l3Vars out w t p = some r → BCall Tryz.prog B 102 [.elems 3 (List.map Vl.VarType.c out)] [.own 0 (List.length (α := Vl.VarType) out), .arr (List.map Vl.Data.c w), .agg [.lit (.int .i64 t.data), .lit (.int .i64 t.index)], .agg [.lit (.int .i64 p.op), .lit (.int .i64 p.ctor), .lit (.int .i64 p.n), .lit (.int .i64 p.m), .lit (.int .i64 p.var), .arr (List.map Vl.Pattern.c p.kids)]] (.own 0 (List.length (α := Vl.VarType) r)) [.elems 3 (List.map Vl.VarType.c r)]) ∧
  (∀ (p : Vl.Pattern) (v30 : List Vl.Ty) (out32 : List Vl.VarType) (i33 : Nat) (o : List Vl.VarType), F.spec_l3Vars_l2 w p v30 out32 i33 = some o → ∀ (c : Code), navO [1, 1, 1, 0, 1, 0, 0] (bodyOf Tryz.f102) = some c → ∀ (Q : Exit → ASt → Prop), (Q (.exit 0) ⟨[(0, .own 0 (List.length (α := Vl.VarType) o))], [.elems 3 (List.map Vl.VarType.c o)]⟩) → ALoopU Tryz.prog B 1 58 (hold c .mk) ⟨[(0, .own 0 (List.length (α := Vl.VarType) out32)), (1, .arr (List.map Vl.Data.c w)), (7, .ptr 2 0), (9, .arr (List.map Vl.Ty.c v30)), (10, .lit (.int .i64 (i33 : Int)))], [.elems 3 (List.map Vl.VarType.c out32), .dead, .cells [.lit (.int .i64 p.op), .lit (.int .i64 p.ctor), .lit (.int .i64 p.n), .lit (.int .i64 p.m), .lit (.int .i64 p.var), .arr (List.map Vl.Pattern.c p.kids)]]⟩ (hold Q .mk)) ∧
  (∀ (p : Vl.Pattern) (v : List Vl.Ty) (out7 : List Vl.VarType) (i : Nat) (o : List Vl.VarType), F.spec_l3Vars_l1 w p v out7 i = some o → ∀ (c : Code), navO [1, 1, 1, 0, 1, 0, 0] (bodyOf Tryz.f102) = some c → ∀ (Q : Exit → ASt → Prop), (Q (.exit 0) ⟨[(0, .own 0 (List.length (α := Vl.VarType) o))], [.elems 3 (List.map Vl.VarType.c o)]⟩) → ALoopU Tryz.prog B 1 58 (hold c .mk) ⟨[(0, .own 0 (List.length (α := Vl.VarType) out7)), (1, .arr (List.map Vl.Data.c w)), (7, .ptr 2 0), (9, .arr (List.map Vl.Ty.c v)), (10, .lit (.int .i64 (i : Int)))], [.elems 3 (List.map Vl.VarType.c out7), .dead, .cells [.lit (.int .i64 p.op), .lit (.int .i64 p.ctor), .lit (.int .i64 p.n), .lit (.int .i64 p.m), .lit (.int .i64 p.var), .arr (List.map Vl.Pattern.c p.kids)]]⟩ (hold Q .mk)) ∧
  (∀ (p : Vl.Pattern) (v59 : List Vl.Ty) (out61 : List Vl.VarType) (i62 : Nat) (o : List Vl.VarType), F.spec_l3Vars_l3 w p v59 out61 i62 = some o → ∀ (c : Code), navO [1, 1, 1, 0, 1, 0, 0] (bodyOf Tryz.f102) = some c → ∀ (Q : Exit → ASt → Prop), (Q (.exit 0) ⟨[(0, .own 0 (List.length (α := Vl.VarType) o))], [.elems 3 (List.map Vl.VarType.c o)]⟩) → ALoopU Tryz.prog B 1 58 (hold c .mk) ⟨[(0, .own 0 (List.length (α := Vl.VarType) out61)), (1, .arr (List.map Vl.Data.c w)), (7, .ptr 2 0), (9, .arr (List.map Vl.Ty.c v59)), (10, .lit (.int .i64 (i62 : Int)))], [.elems 3 (List.map Vl.VarType.c out61), .dead, .cells [.lit (.int .i64 p.op), .lit (.int .i64 p.ctor), .lit (.int .i64 p.n), .lit (.int .i64 p.m), .lit (.int .i64 p.var), .arr (List.map Vl.Pattern.c p.kids)]]⟩ (hold Q .mk)) := by
 refine F.spec_l3Vars.mutual_partial_correctness w
  _ _ _ _
  ?_ ?_ ?_ ?_
 ·intro _f_spec_l3Vars_l2 _f_spec_l3Vars_l1 _f_spec_l3Vars_l3 ih_spec_l3Vars_l2 ih_spec_l3Vars_l1 ih_spec_l3Vars_l3 out t p r hF
  refine BCall.enter Tryz.func102 (by kernel_rfl) rfl Tryz.ntmps102 (by simp) rfl (by simp) (by simp) (by simp) (by simp) (by simp) (Gh.refl _) ?_
  repeat (first | refine chk.ga ?_ | simp -dsimp)
  refine abr.split (fun h1 => ?_) (fun h1 => ?_)
  ·have q2 : ¬ (p.op = 2) := auq h1
   rw [if_neg q2] at hF
   repeat (first | refine chk.ga ?_ | simp -dsimp [h1, q2])
   refine abr.split (fun h3 => ?_) (fun h3 => ?_)
   ·have q4 : (p.op = 6) := auq h3
    rw [if_pos q4] at hF
    have hF := oc hF; obtain ⟨c5, hF⟩ := hF
    repeat (first | refine chk.ga ?_ | simp -dsimp [h1, q2, h3])
    have hF := ob hF; obtain ⟨v, e6, hF⟩ := hF
    refine ((C.spec_l3Types B hB1 hB2 w t p v e6)).goW (by first | simp [h1, q2, h3]; done | simp_all) (by simp) ?_
    repeat (first | refine chk.ga ?_ | simp -dsimp [h1, q2, h3])
    have hF := ob hF; obtain ⟨o', ho29, hF⟩ := hF
    refine ALoop.goU _ ?_ ((ih_spec_l3Vars_l1 p v (out ++ [(⟨p.var, t⟩ : Vl.VarType)]) 0 o' ho29) _ rfl _ ?_)
    ·exact (Gh.to3 (by simp) (by first | simp -dsimp [h1, q2, h3]; done | simp_all))
    cases hF
    repeat (first | refine chk.ga ?_ | simp -dsimp)
    all_goals (try first | omega | rfl)
   ·have q4 : ¬ (p.op = 6) := auq h3
    rw [if_neg q4] at hF
    repeat (first | refine chk.ga ?_ | simp -dsimp [h1, q2, h3, q4])
    have hF := ob hF; obtain ⟨v30, e31, hF⟩ := hF
    refine ((C.spec_l3Types B hB1 hB2 w t p v30 e31)).goW (by first | simp [h1, q2, h3, q4]; done | simp_all) (by simp) ?_
    repeat (first | refine chk.ga ?_ | simp -dsimp [h1, q2, h3, q4])
    have hF := ob hF; obtain ⟨o'57, ho56, hF⟩ := hF
    refine ALoop.goU _ ?_ ((ih_spec_l3Vars_l2 p v30 out 0 o'57 ho56) _ rfl _ ?_)
    ·exact (Gh.to3 (by simp) (by first | simp -dsimp [h1, q2, h3, q4]; done | simp_all))
    cases hF
    repeat (first | refine chk.ga ?_ | simp -dsimp)
    all_goals (try first | omega | rfl)
  ·have q2 : (p.op = 2) := auq h1
   rw [if_pos q2] at hF
   have hF := oc hF; obtain ⟨c58, hF⟩ := hF
   repeat (first | refine chk.ga ?_ | simp -dsimp [h1, q2])
   have hF := ob hF; obtain ⟨v59, e60, hF⟩ := hF
   refine ((C.spec_l3Types B hB1 hB2 w t p v59 e60)).goW (by first | simp [h1, q2]; done | simp_all) (by simp) ?_
   repeat (first | refine chk.ga ?_ | simp -dsimp [h1, q2])
   have hF := ob hF; obtain ⟨o'86, ho85, hF⟩ := hF
   refine ALoop.goU _ ?_ ((ih_spec_l3Vars_l3 p v59 (out ++ [(⟨p.var, t⟩ : Vl.VarType)]) 0 o'86 ho85) _ rfl _ ?_)
   ·exact (Gh.to3 (by simp) (by first | simp -dsimp [h1, q2]; done | simp_all))
   cases hF
   repeat (first | refine chk.ga ?_ | simp -dsimp)
   all_goals (try first | omega | rfl)
 ·intro _f_spec_l3Vars _f_spec_l3Vars_l2 ih_spec_l3Vars ih_spec_l3Vars_l2 p v30 out32 i33 o hF
  intro c hc Q hq
  obtain rfl : c = _ := navEq hc rfl
  refine ALoopU.know fun hk hs => ?_
  have b1 := hk 1
  simp -dsimp at b1
  have b9 := hk 9
  simp -dsimp at b9
  have d0 := hs 0 _ rfl
  simp -dsimp [Blk.bnd] at d0
  have d2 := hs 2 _ rfl
  simp -dsimp [Blk.bnd] at d2
  clear hk hs
  refine ALoopU.enter ?_
  repeat (first | refine chk.ga ?_ | simp -dsimp)
  refine abr.split (fun h34 => ?_) (fun h34 => ?_)
  ·have q35 : (i33 < v30.length) := auq h34
   have z36 : ((i33 : Int) < (v30.length : Int)) := auz
   rw [if_pos q35] at hF
   repeat (first | refine chk.ga ?_ | simp -dsimp [h34, z36])
   refine abr.split (fun h37 => ?_) (fun h37 => ?_)
   ·have q38 : ¬ (i33 = 0) := auq h37
    have z39 : ¬ ((i33 : Int) = (0 : Int)) := auz
    rw [if_neg q38] at hF
    repeat (first | refine chk.ga ?_ | simp -dsimp [h34, z36, h37, q38, z39])
    refine abr.split (fun h40 => ?_) (fun h40 => ?_)
    ·have q41 : ¬ (p.op = 5) := auq h40
     rw [if_neg q41] at hF
     repeat (first | refine chk.ga ?_ | simp -dsimp [h34, z36, h37, q38, z39, h40, q41])
     refine ADraw.eff [102] [(0, 0), (0, 0), (0, 0), (0, 0), (0, 0), (0, 0), (0, 0), (0, 0), (0, 0), (0, 0), (0, 0), (0, 1), (1, 1)] [1, 1, 1, 1, 1, 1, 1, 1, 1, 1, 1, 1, 1] follows (by kernel_rfl) (by kernel_rfl) (by kernel_rfl) ?_
     have hF := ob hF; obtain ⟨x42, e43, hF⟩ := hF
     have le43 := lt_of_get e43
     have hF := ob hF; obtain ⟨x44, e45, hF⟩ := hF
     have le45 := lt_of_get e45
     repeat (first | refine chk.ga ?_ | simp -dsimp [h34, z36, h37, q38, z39, h40, q41, ↓e43, ↓e45])
     have hF := ob hF; obtain ⟨v46, e47, hF⟩ := hF
     refine ((ih_spec_l3Vars out32 x42 x44 v46 e47)).ego (pl [0]) (by simp) (by simp) (plInj _ rfl (by decide)) (by intro i hi hi'; simp at hi hi'; first | omega | (subst hi'; simp [pl])) (by first | simp [h34, z36, h37, q38, z39, h40, q41, ↓e43, ↓e45]; done | simp_all) (by first | simp [h34, z36, h37, q38, z39, h40, q41, ↓e43, ↓e45]; done | simp_all) ?_
     have w48 : IntKind.i64.wrap ((i33 : Int) + 1) = (i33 : Int) + 1 := wrap_in (by omega) (by omega)
     repeat (first | refine chk.ga ?_ | simp -dsimp [h34, z36, h37, q38, z39, h40, q41, ↓e43, ↓e45, w48])
     refine Again.go _ ?_ ((ih_spec_l3Vars_l2 p v30 v46 (i33 + 1) o hF) _ rfl _ hq)
     exact (Gh.to3 (by simp) (by first | simp -dsimp [h34, z36, h37, q38, z39, h40, q41, ↓e43, ↓e45, w48]; done | simp_all))
    ·have q41 : (p.op = 5) := auq h40
     rw [if_pos q41] at hF
     cases hF
     repeat (first | refine chk.ga ?_ | simp -dsimp [h34, z36, h37, q38, z39, h40, q41])
     refine Leave.go ⟨[(0, .own 0 (List.length (α := Vl.VarType) out32))], [.elems 3 (List.map Vl.VarType.c out32)]⟩ (Gh.to3 (by simp) (by first | simp -dsimp [h34, z36, h37, q38, z39, h40, q41]; done | simp_all)) ?_
     exact hq
   ·have q38 : (i33 = 0) := auq h37
    have z39 : ((i33 : Int) = (0 : Int)) := auz
    rw [if_pos q38] at hF
    repeat (first | refine chk.ga ?_ | simp -dsimp [h34, z36, eq_true h37, eq_true q38, eq_true z39])
    refine ADraw.eff [102] [(0, 0), (0, 0), (0, 0), (0, 0), (0, 0), (0, 0), (0, 0), (0, 0), (0, 0), (0, 0), (0, 0), (0, 1), (1, 1)] [1, 1, 1, 1, 1, 1, 1, 1, 1, 1, 1, 1, 1] follows (by kernel_rfl) (by kernel_rfl) (by kernel_rfl) ?_
    have hF := ob hF; obtain ⟨x49, e50, hF⟩ := hF
    have le50 := lt_of_get e50
    have hF := ob hF; obtain ⟨x51, e52, hF⟩ := hF
    have le52 := lt_of_get e52
    repeat (first | refine chk.ga ?_ | simp -dsimp [h34, z36, eq_true h37, eq_true q38, eq_true z39, ↓e50, ↓e52])
    have hF := ob hF; obtain ⟨v53, e54, hF⟩ := hF
    refine ((ih_spec_l3Vars out32 x49 x51 v53 e54)).ego (pl [0]) (by simp) (by simp) (plInj _ rfl (by decide)) (by intro i hi hi'; simp at hi hi'; first | omega | (subst hi'; simp [pl])) (by first | simp [h34, z36, eq_true h37, eq_true q38, eq_true z39, ↓e50, ↓e52]; done | simp_all) (by first | simp [h34, z36, eq_true h37, eq_true q38, eq_true z39, ↓e50, ↓e52]; done | simp_all) ?_
    have w55 : IntKind.i64.wrap ((i33 : Int) + 1) = (i33 : Int) + 1 := wrap_in (by omega) (by omega)
    repeat (first | refine chk.ga ?_ | simp -dsimp [h34, z36, eq_true h37, eq_true q38, eq_true z39, ↓e50, ↓e52, w55])
    refine Again.go _ ?_ ((ih_spec_l3Vars_l2 p v30 v53 (i33 + 1) o hF) _ rfl _ hq)
    exact (Gh.to3 (by simp) (by first | simp -dsimp [h34, z36, eq_true h37, eq_true q38, eq_true z39, ↓e50, ↓e52, w55]; done | simp_all))
  ·have q35 : ¬ (i33 < v30.length) := auq h34
   have z36 : ¬ ((i33 : Int) < (v30.length : Int)) := auz
   rw [if_neg q35] at hF
   cases hF
   repeat (first | refine chk.ga ?_ | simp -dsimp [h34, q35, z36])
   refine Leave.go ⟨[(0, .own 0 (List.length (α := Vl.VarType) out32))], [.elems 3 (List.map Vl.VarType.c out32)]⟩ (Gh.to3 (by simp) (by first | simp -dsimp [h34, q35, z36]; done | simp_all)) ?_
   exact hq
 ·intro _f_spec_l3Vars _f_spec_l3Vars_l1 ih_spec_l3Vars ih_spec_l3Vars_l1 p v out7 i o hF
  intro c hc Q hq
  obtain rfl : c = _ := navEq hc rfl
  refine ALoopU.know fun hk hs => ?_
  have b1 := hk 1
  simp -dsimp at b1
  have b9 := hk 9
  simp -dsimp at b9
  have d0 := hs 0 _ rfl
  simp -dsimp [Blk.bnd] at d0
  have d2 := hs 2 _ rfl
  simp -dsimp [Blk.bnd] at d2
  clear hk hs
  refine ALoopU.enter ?_
  repeat (first | refine chk.ga ?_ | simp -dsimp)
  refine abr.split (fun h8 => ?_) (fun h8 => ?_)
  ·have q9 : (i < v.length) := auq h8
   have z10 : ((i : Int) < (v.length : Int)) := auz
   rw [if_pos q9] at hF
   repeat (first | refine chk.ga ?_ | simp -dsimp [h8, z10])
   refine abr.split (fun h11 => ?_) (fun h11 => ?_)
   ·have q12 : ¬ (i = 0) := auq h11
    have z13 : ¬ ((i : Int) = (0 : Int)) := auz
    rw [if_neg q12] at hF
    repeat (first | refine chk.ga ?_ | simp -dsimp [h8, z10, h11, q12, z13])
    refine abr.split (fun h14 => ?_) (fun h14 => ?_)
    ·have q15 : ¬ (p.op = 5) := auq h14
     rw [if_neg q15] at hF
     repeat (first | refine chk.ga ?_ | simp -dsimp [h8, z10, h11, q12, z13, h14, q15])
     refine ADraw.eff [102] [(0, 0), (0, 0), (0, 0), (0, 0), (0, 0), (0, 0), (0, 0), (0, 0), (0, 0), (0, 0), (0, 0), (0, 1), (1, 1)] [1, 1, 1, 1, 1, 1, 1, 1, 1, 1, 1, 1, 1] follows (by kernel_rfl) (by kernel_rfl) (by kernel_rfl) ?_
     have hF := ob hF; obtain ⟨x, e16, hF⟩ := hF
     have le16 := lt_of_get e16
     have hF := ob hF; obtain ⟨x17, e18, hF⟩ := hF
     have le18 := lt_of_get e18
     repeat (first | refine chk.ga ?_ | simp -dsimp [h8, z10, h11, q12, z13, h14, q15, ↓e16, ↓e18])
     have hF := ob hF; obtain ⟨v19, e20, hF⟩ := hF
     refine ((ih_spec_l3Vars out7 x x17 v19 e20)).ego (pl [0]) (by simp) (by simp) (plInj _ rfl (by decide)) (by intro i hi hi'; simp at hi hi'; first | omega | (subst hi'; simp [pl])) (by first | simp [h8, z10, h11, q12, z13, h14, q15, ↓e16, ↓e18]; done | simp_all) (by first | simp [h8, z10, h11, q12, z13, h14, q15, ↓e16, ↓e18]; done | simp_all) ?_
     have w21 : IntKind.i64.wrap ((i : Int) + 1) = (i : Int) + 1 := wrap_in (by omega) (by omega)
     repeat (first | refine chk.ga ?_ | simp -dsimp [h8, z10, h11, q12, z13, h14, q15, ↓e16, ↓e18, w21])
     refine Again.go _ ?_ ((ih_spec_l3Vars_l1 p v v19 (i + 1) o hF) _ rfl _ hq)
     exact (Gh.to3 (by simp) (by first | simp -dsimp [h8, z10, h11, q12, z13, h14, q15, ↓e16, ↓e18, w21]; done | simp_all))
    ·have q15 : (p.op = 5) := auq h14
     rw [if_pos q15] at hF
     cases hF
     repeat (first | refine chk.ga ?_ | simp -dsimp [h8, z10, h11, q12, z13, h14, q15])
     refine Leave.go ⟨[(0, .own 0 (List.length (α := Vl.VarType) out7))], [.elems 3 (List.map Vl.VarType.c out7)]⟩ (Gh.to3 (by simp) (by first | simp -dsimp [h8, z10, h11, q12, z13, h14, q15]; done | simp_all)) ?_
     exact hq
   ·have q12 : (i = 0) := auq h11
    have z13 : ((i : Int) = (0 : Int)) := auz
    rw [if_pos q12] at hF
    repeat (first | refine chk.ga ?_ | simp -dsimp [h8, z10, eq_true h11, eq_true q12, eq_true z13])
    refine ADraw.eff [102] [(0, 0), (0, 0), (0, 0), (0, 0), (0, 0), (0, 0), (0, 0), (0, 0), (0, 0), (0, 0), (0, 0), (0, 1), (1, 1)] [1, 1, 1, 1, 1, 1, 1, 1, 1, 1, 1, 1, 1] follows (by kernel_rfl) (by kernel_rfl) (by kernel_rfl) ?_
    have hF := ob hF; obtain ⟨x22, e23, hF⟩ := hF
    have le23 := lt_of_get e23
    have hF := ob hF; obtain ⟨x24, e25, hF⟩ := hF
    have le25 := lt_of_get e25
    repeat (first | refine chk.ga ?_ | simp -dsimp [h8, z10, eq_true h11, eq_true q12, eq_true z13, ↓e23, ↓e25])
    have hF := ob hF; obtain ⟨v26, e27, hF⟩ := hF
    refine ((ih_spec_l3Vars out7 x22 x24 v26 e27)).ego (pl [0]) (by simp) (by simp) (plInj _ rfl (by decide)) (by intro i hi hi'; simp at hi hi'; first | omega | (subst hi'; simp [pl])) (by first | simp [h8, z10, eq_true h11, eq_true q12, eq_true z13, ↓e23, ↓e25]; done | simp_all) (by first | simp [h8, z10, eq_true h11, eq_true q12, eq_true z13, ↓e23, ↓e25]; done | simp_all) ?_
    have w28 : IntKind.i64.wrap ((i : Int) + 1) = (i : Int) + 1 := wrap_in (by omega) (by omega)
    repeat (first | refine chk.ga ?_ | simp -dsimp [h8, z10, eq_true h11, eq_true q12, eq_true z13, ↓e23, ↓e25, w28])
    refine Again.go _ ?_ ((ih_spec_l3Vars_l1 p v v26 (i + 1) o hF) _ rfl _ hq)
    exact (Gh.to3 (by simp) (by first | simp -dsimp [h8, z10, eq_true h11, eq_true q12, eq_true z13, ↓e23, ↓e25, w28]; done | simp_all))
  ·have q9 : ¬ (i < v.length) := auq h8
   have z10 : ¬ ((i : Int) < (v.length : Int)) := auz
   rw [if_neg q9] at hF
   cases hF
   repeat (first | refine chk.ga ?_ | simp -dsimp [h8, q9, z10])
   refine Leave.go ⟨[(0, .own 0 (List.length (α := Vl.VarType) out7))], [.elems 3 (List.map Vl.VarType.c out7)]⟩ (Gh.to3 (by simp) (by first | simp -dsimp [h8, q9, z10]; done | simp_all)) ?_
   exact hq
 ·intro _f_spec_l3Vars _f_spec_l3Vars_l3 ih_spec_l3Vars ih_spec_l3Vars_l3 p v59 out61 i62 o hF
  intro c hc Q hq
  obtain rfl : c = _ := navEq hc rfl
  refine ALoopU.know fun hk hs => ?_
  have b1 := hk 1
  simp -dsimp at b1
  have b9 := hk 9
  simp -dsimp at b9
  have d0 := hs 0 _ rfl
  simp -dsimp [Blk.bnd] at d0
  have d2 := hs 2 _ rfl
  simp -dsimp [Blk.bnd] at d2
  clear hk hs
  refine ALoopU.enter ?_
  repeat (first | refine chk.ga ?_ | simp -dsimp)
  refine abr.split (fun h63 => ?_) (fun h63 => ?_)
  ·have q64 : (i62 < v59.length) := auq h63
   have z65 : ((i62 : Int) < (v59.length : Int)) := auz
   rw [if_pos q64] at hF
   repeat (first | refine chk.ga ?_ | simp -dsimp [h63, z65])
   refine abr.split (fun h66 => ?_) (fun h66 => ?_)
   ·have q67 : ¬ (i62 = 0) := auq h66
    have z68 : ¬ ((i62 : Int) = (0 : Int)) := auz
    rw [if_neg q67] at hF
    repeat (first | refine chk.ga ?_ | simp -dsimp [h63, z65, h66, q67, z68])
    refine abr.split (fun h69 => ?_) (fun h69 => ?_)
    ·have q70 : ¬ (p.op = 5) := auq h69
     rw [if_neg q70] at hF
     repeat (first | refine chk.ga ?_ | simp -dsimp [h63, z65, h66, q67, z68, h69, q70])
     refine ADraw.eff [102] [(0, 0), (0, 0), (0, 0), (0, 0), (0, 0), (0, 0), (0, 0), (0, 0), (0, 0), (0, 0), (0, 0), (0, 1), (1, 1)] [1, 1, 1, 1, 1, 1, 1, 1, 1, 1, 1, 1, 1] follows (by kernel_rfl) (by kernel_rfl) (by kernel_rfl) ?_
     have hF := ob hF; obtain ⟨x71, e72, hF⟩ := hF
     have le72 := lt_of_get e72
     have hF := ob hF; obtain ⟨x73, e74, hF⟩ := hF
     have le74 := lt_of_get e74
     repeat (first | refine chk.ga ?_ | simp -dsimp [h63, z65, h66, q67, z68, h69, q70, ↓e72, ↓e74])
     have hF := ob hF; obtain ⟨v75, e76, hF⟩ := hF
     refine ((ih_spec_l3Vars out61 x71 x73 v75 e76)).ego (pl [0]) (by simp) (by simp) (plInj _ rfl (by decide)) (by intro i hi hi'; simp at hi hi'; first | omega | (subst hi'; simp [pl])) (by first | simp [h63, z65, h66, q67, z68, h69, q70, ↓e72, ↓e74]; done | simp_all) (by first | simp [h63, z65, h66, q67, z68, h69, q70, ↓e72, ↓e74]; done | simp_all) ?_
     have w77 : IntKind.i64.wrap ((i62 : Int) + 1) = (i62 : Int) + 1 := wrap_in (by omega) (by omega)
     repeat (first | refine chk.ga ?_ | simp -dsimp [h63, z65, h66, q67, z68, h69, q70, ↓e72, ↓e74, w77])
     refine Again.go _ ?_ ((ih_spec_l3Vars_l3 p v59 v75 (i62 + 1) o hF) _ rfl _ hq)
     exact (Gh.to3 (by simp) (by first | simp -dsimp [h63, z65, h66, q67, z68, h69, q70, ↓e72, ↓e74, w77]; done | simp_all))
    ·have q70 : (p.op = 5) := auq h69
     rw [if_pos q70] at hF
     cases hF
     repeat (first | refine chk.ga ?_ | simp -dsimp [h63, z65, h66, q67, z68, h69, q70])
     refine Leave.go ⟨[(0, .own 0 (List.length (α := Vl.VarType) out61))], [.elems 3 (List.map Vl.VarType.c out61)]⟩ (Gh.to3 (by simp) (by first | simp -dsimp [h63, z65, h66, q67, z68, h69, q70]; done | simp_all)) ?_
     exact hq
   ·have q67 : (i62 = 0) := auq h66
    have z68 : ((i62 : Int) = (0 : Int)) := auz
    rw [if_pos q67] at hF
    repeat (first | refine chk.ga ?_ | simp -dsimp [h63, z65, eq_true h66, eq_true q67, eq_true z68])
    refine ADraw.eff [102] [(0, 0), (0, 0), (0, 0), (0, 0), (0, 0), (0, 0), (0, 0), (0, 0), (0, 0), (0, 0), (0, 0), (0, 1), (1, 1)] [1, 1, 1, 1, 1, 1, 1, 1, 1, 1, 1, 1, 1] follows (by kernel_rfl) (by kernel_rfl) (by kernel_rfl) ?_
    have hF := ob hF; obtain ⟨x78, e79, hF⟩ := hF
    have le79 := lt_of_get e79
    have hF := ob hF; obtain ⟨x80, e81, hF⟩ := hF
    have le81 := lt_of_get e81
    repeat (first | refine chk.ga ?_ | simp -dsimp [h63, z65, eq_true h66, eq_true q67, eq_true z68, ↓e79, ↓e81])
    have hF := ob hF; obtain ⟨v82, e83, hF⟩ := hF
    refine ((ih_spec_l3Vars out61 x78 x80 v82 e83)).ego (pl [0]) (by simp) (by simp) (plInj _ rfl (by decide)) (by intro i hi hi'; simp at hi hi'; first | omega | (subst hi'; simp [pl])) (by first | simp [h63, z65, eq_true h66, eq_true q67, eq_true z68, ↓e79, ↓e81]; done | simp_all) (by first | simp [h63, z65, eq_true h66, eq_true q67, eq_true z68, ↓e79, ↓e81]; done | simp_all) ?_
    have w84 : IntKind.i64.wrap ((i62 : Int) + 1) = (i62 : Int) + 1 := wrap_in (by omega) (by omega)
    repeat (first | refine chk.ga ?_ | simp -dsimp [h63, z65, eq_true h66, eq_true q67, eq_true z68, ↓e79, ↓e81, w84])
    refine Again.go _ ?_ ((ih_spec_l3Vars_l3 p v59 v82 (i62 + 1) o hF) _ rfl _ hq)
    exact (Gh.to3 (by simp) (by first | simp -dsimp [h63, z65, eq_true h66, eq_true q67, eq_true z68, ↓e79, ↓e81, w84]; done | simp_all))
  ·have q64 : ¬ (i62 < v59.length) := auq h63
   have z65 : ¬ ((i62 : Int) < (v59.length : Int)) := auz
   rw [if_neg q64] at hF
   cases hF
   repeat (first | refine chk.ga ?_ | simp -dsimp [h63, q64, z65])
   refine Leave.go ⟨[(0, .own 0 (List.length (α := Vl.VarType) out61))], [.elems 3 (List.map Vl.VarType.c out61)]⟩ (Gh.to3 (by simp) (by first | simp -dsimp [h63, q64, z65]; done | simp_all)) ?_
   exact hq

theorem CC.spec_l3Find_l1 (list : List Vl.VarType) (n : Int) : (∀ (i : Nat) (o : Lo Int Unit), F.spec_l3Find_l1 list n i = some o → ∀ (c : Code), navO [1, 0, 1, 0, 0] (bodyOf Tryz.f115) = some c → ∀ (Q : Exit → ASt → Prop), o.post (fun r => ∀ st, Post Tryz.prog Tryz.f115 (fun r' _ => r'.le (.lit (.int .i64 r))) .ret st → Q .ret st) (fun s => Q (.exit 0) ⟨[], []⟩) → ALoopU Tryz.prog B 0 20 (hold c .mk) ⟨[(0, .arr (List.map Vl.VarType.c list)), (1, .lit (.int .i64 n)), (5, .lit (.int .i64 (i : Int)))], []⟩ (hold Q .mk)) := by
 refine F.spec_l3Find_l1.partial_correctness list n
  _
  ?_
 ·intro _f_spec_l3Find_l1 ih_spec_l3Find_l1 i o hF
  intro c hc Q hq
  obtain rfl : c = _ := navEq hc rfl
  refine ALoopU.know fun hk hs => ?_
  have b0 := hk 0
  simp -dsimp at b0
  clear hk hs
  refine ALoopU.enter ?_
  repeat (first | refine chk.ga ?_ | simp -dsimp)
  refine abr.split (fun h1 => ?_) (fun h1 => ?_)
  ·have q2 : (i < list.length) := auq h1
   have z3 : ((i : Int) < (list.length : Int)) := auz
   rw [if_pos q2] at hF
   have hF := ob hF; obtain ⟨x, e4, hF⟩ := hF
   have le4 := lt_of_get e4
   repeat (first | refine chk.ga ?_ | simp -dsimp [h1, z3, ↓e4])
   refine abr.split (fun h5 => ?_) (fun h5 => ?_)
   ·have q6 : (x.var = n) := auq h5
    rw [if_pos q6] at hF
    cases hF
    repeat (first | refine chk.ga ?_ | simp -dsimp [h1, z3, ↓e4, h5])
    refine Leave.go _ (Gh.refl _) (hq _ ?_)
    repeat (first | refine chk.ga ?_ | simp -dsimp [h1, z3, ↓e4, h5])
   ·have q6 : ¬ (x.var = n) := auq h5
    rw [if_neg q6] at hF
    have w7 : IntKind.i64.wrap ((i : Int) + 1) = (i : Int) + 1 := wrap_in (by omega) (by omega)
    repeat (first | refine chk.ga ?_ | simp -dsimp [h1, z3, ↓e4, h5, q6, w7])
    refine Again.go _ ?_ ((ih_spec_l3Find_l1 (i + 1) o hF) _ rfl _ hq)
    exact (Gh.to3 (by simp) (by first | simp -dsimp [h1, z3, ↓e4, h5, q6, w7]; done | simp_all))
  ·have q2 : ¬ (i < list.length) := auq h1
   have z3 : ¬ ((i : Int) < (list.length : Int)) := auz
   rw [if_neg q2] at hF
   cases hF
   repeat (first | refine chk.ga ?_ | simp -dsimp [h1, q2, z3])
   refine Leave.go ⟨[], []⟩ (Gh.to3 (by simp) (by first | simp -dsimp [h1, q2, z3]; done | simp_all)) ?_
   exact hq

theorem C.spec_l3Find (list : List Vl.VarType) (n : Int) (r : Int) (hF : F.spec_l3Find list n = some r) : PureCall Tryz.prog B 115 [.arr (List.map Vl.VarType.c list), .lit (.int .i64 n)] (.lit (.int .i64 r)) := by
 unfold F.spec_l3Find at hF
 refine PureCall.enterLe Tryz.func115 (by kernel_rfl) rfl Tryz.ntmps115 (by simp) (by simp) ?_
 repeat (first | refine chk.ga ?_ | simp -dsimp)
 have hF := ob hF; obtain ⟨o', ho8, hF⟩ := hF
 refine ALoop.goU _ ?_ (((CC.spec_l3Find_l1 B hB1 hB2 list n) 0 o' ho8) _ rfl _ ?_)
 ·exact (Gh.to3 (by simp) (by simp -dsimp))
 rcases o' with r0 | sx
 ·dsimp only at hF
  cases hF
  intro st h
  simpa using h
 ·dsimp only at hF
  cases hF
  repeat (first | refine chk.ga ?_ | simp -dsimp)
  all_goals (try first | omega | rfl)

theorem CC.spec_l3Alike_l1 (a : List Vl.VarType) (b : List Vl.VarType) : (∀ (i : Nat) (o : Lo Bool Unit), F.spec_l3Alike_l1 a b i = some o → ∀ (c : Code), navO [1, 0, 1, 0, 0] (bodyOf Tryz.f152) = some c → ∀ (Q : Exit → ASt → Prop), o.post (fun r => ∀ st, Post Tryz.prog Tryz.f152 (fun r' _ => r'.le (.lit (.bool r))) .ret st → Q .ret st) (fun s => Q (.exit 0) ⟨[(0, .arr (List.map Vl.VarType.c a)), (1, .arr (List.map Vl.VarType.c b))], []⟩) → ALoopU Tryz.prog B 0 40 (hold c .mk) ⟨[(0, .arr (List.map Vl.VarType.c a)), (1, .arr (List.map Vl.VarType.c b)), (5, .lit (.int .i64 (i : Int)))], []⟩ (hold Q .mk)) := by
 refine F.spec_l3Alike_l1.partial_correctness a b
  _
  ?_
 ·intro _f_spec_l3Alike_l1 ih_spec_l3Alike_l1 i o hF
  intro c hc Q hq
  obtain rfl : c = _ := navEq hc rfl
  refine ALoopU.know fun hk hs => ?_
  have b0 := hk 0
  simp -dsimp at b0
  have b1 := hk 1
  simp -dsimp at b1
  clear hk hs
  refine ALoopU.enter ?_
  repeat (first | refine chk.ga ?_ | simp -dsimp)
  refine abr.split (fun h1 => ?_) (fun h1 => ?_)
  ·have q2 : (i < a.length) := auq h1
   have z3 : ((i : Int) < (a.length : Int)) := auz
   rw [if_pos q2] at hF
   have hF := ob hF; obtain ⟨x, e4, hF⟩ := hF
   have le4 := lt_of_get e4
   repeat (first | refine chk.ga ?_ | simp -dsimp [h1, z3, ↓e4])
   have hF := ob hF; obtain ⟨v, e5, hF⟩ := hF
   refine ((C.spec_l3Find B hB1 hB2 b x.var v e5)).goW (by first | simp [h1, z3, ↓e4]; done | simp_all) (by simp) ?_
   repeat (first | refine chk.ga ?_ | simp -dsimp [h1, z3, ↓e4])
   refine ADraw.simple follows (by kernel_rfl) (by kernel_rfl) ?_
   repeat (first | refine chk.ga ?_ | simp -dsimp [h1, z3, ↓e4])
   refine abr.split (fun h6 => ?_) (fun h6 => ?_)
   ·have q7 : ¬ (v < 0) := auq h6
    rw [if_neg q7] at hF
    have hF := ob hF; obtain ⟨x8, e9a, hF⟩ := hF
    have e9a := at_some e9a; obtain ⟨ne9, e9⟩ := e9a
    have le9 := lt_of_get e9
    repeat (first | refine chk.ga ?_ | simp -dsimp [h1, z3, ↓e4, h6, q7, ↓e9])
    refine abr.split (fun h10 => ?_) (fun h10 => ?_)
    ·have q11 : ¬ (dec (eq2 (x8.type.data, x8.type.index) (x.type.data, x.type.index)) = true) := auq h10
     rw [if_neg q11] at hF
     cases hF
     repeat (first | refine chk.ga ?_ | simp -dsimp [h1, z3, ↓e4, h6, q7, ↓e9, h10, q11])
     refine Leave.go _ (Gh.refl _) (hq _ ?_)
     repeat (first | refine chk.ga ?_ | simp -dsimp [h1, z3, ↓e4, h6, q7, ↓e9, h10, q11])
    ·have q11 : (dec (eq2 (x8.type.data, x8.type.index) (x.type.data, x.type.index)) = true) := auq h10
     rw [if_pos q11] at hF
     have w12 : IntKind.i64.wrap ((i : Int) + 1) = (i : Int) + 1 := wrap_in (by omega) (by omega)
     repeat (first | refine chk.ga ?_ | simp -dsimp [h1, z3, ↓e4, h6, q7, ↓e9, h10, q11, w12])
     refine Again.go _ ?_ ((ih_spec_l3Alike_l1 (i + 1) o hF) _ rfl _ hq)
     exact (Gh.to3 (by simp) (by first | simp -dsimp [h1, z3, ↓e4, h6, q7, ↓e9, h10, q11, w12]; done | simp_all))
   ·have q7 : (v < 0) := auq h6
    rw [if_pos q7] at hF
    cases hF
    repeat (first | refine chk.ga ?_ | simp -dsimp [h1, z3, ↓e4, h6, q7])
    refine Leave.go _ (Gh.refl _) (hq _ ?_)
    repeat (first | refine chk.ga ?_ | simp -dsimp [h1, z3, ↓e4, h6, q7])
  ·have q2 : ¬ (i < a.length) := auq h1
   have z3 : ¬ ((i : Int) < (a.length : Int)) := auz
   rw [if_neg q2] at hF
   cases hF
   repeat (first | refine chk.ga ?_ | simp -dsimp [h1, q2, z3])
   refine Leave.go ⟨[(0, .arr (List.map Vl.VarType.c a)), (1, .arr (List.map Vl.VarType.c b))], []⟩ (Gh.to3 (by simp) (by first | simp -dsimp [h1, q2, z3]; done | simp_all)) ?_
   exact hq

theorem C.spec_l3Alike (a : List Vl.VarType) (b : List Vl.VarType) (r : Bool) (hF : F.spec_l3Alike a b = some r) : PureCall Tryz.prog B 152 [.arr (List.map Vl.VarType.c a), .arr (List.map Vl.VarType.c b)] (.lit (.bool r)) := by
 unfold F.spec_l3Alike at hF
 refine PureCall.enterLe Tryz.func152 (by kernel_rfl) rfl Tryz.ntmps152 (by simp) (by simp) ?_
 repeat (first | refine chk.ga ?_ | simp -dsimp)
 have hF := ob hF; obtain ⟨o', ho13, hF⟩ := hF
 refine ALoop.goU _ ?_ (((CC.spec_l3Alike_l1 B hB1 hB2 a b) 0 o' ho13) _ rfl _ ?_)
 ·exact (Gh.to3 (by simp) (by simp -dsimp))
 rcases o' with r0 | sx
 ·dsimp only at hF
  cases hF
  intro st h
  simpa using h
 ·dsimp only at hF
  cases hF
  repeat (first | refine chk.ga ?_ | simp -dsimp)
  all_goals (try first | omega | rfl)

theorem CC.spec_l3Linear_l2 (v26 : List Vl.VarType) : (∀ (i28 : Nat) (o : Lo Bool Unit), F.spec_l3Linear_l2 v26 i28 = some o → ∀ (c : Code), navO [1, 1, 1, 1, 1, 0, 1, 0, 0] (bodyOf Tryz.f131) = some c → ∀ (Q : Exit → ASt → Prop), o.post (fun r => ∀ st, Post Tryz.prog Tryz.f131 (fun r' _ => r'.le (.lit (.bool r))) .ret st → Q .ret st) (fun s => Q (.exit 2) ⟨[], []⟩) → ALoopU Tryz.prog B 0 70 (hold c .mk) ⟨[(9, .own 2 (List.length (α := Vl.VarType) v26)), (10, .lit (.int .i64 (i28 : Int)))], [.dead, .dead, .elems 3 (List.map Vl.VarType.c v26)]⟩ (hold Q .mk)) := by
 refine F.spec_l3Linear_l2.partial_correctness v26
  _
  ?_
 ·intro _f_spec_l3Linear_l2 ih_spec_l3Linear_l2 i28 o hF
  intro c hc Q hq
  obtain rfl : c = _ := navEq hc rfl
  refine ALoopU.know fun hk hs => ?_
  have d2 := hs 2 _ rfl
  simp -dsimp [Blk.bnd] at d2
  clear hk hs
  refine ALoopU.enter ?_
  repeat (first | refine chk.ga ?_ | simp -dsimp)
  refine abr.split (fun h29 => ?_) (fun h29 => ?_)
  ·have q30 : (i28 < v26.length) := auq h29
   have z31 : ((i28 : Int) < (v26.length : Int)) := auz
   rw [if_pos q30] at hF
   have hF := ob hF; obtain ⟨x32, e33, hF⟩ := hF
   have le33 := lt_of_get e33
   repeat (first | refine chk.ga ?_ | simp -dsimp [h29, z31, ↓e33])
   have hF := ob hF; obtain ⟨v34, e35, hF⟩ := hF
   refine ((C.spec_l3Find B hB1 hB2 v26 x32.var v34 e35)).lend (by first | simp -dsimp [h29, z31, ↓e33]; done | simp_all) (by simp -dsimp) ?_
   repeat (first | refine chk.ga ?_ | simp -dsimp [h29, z31, ↓e33])
   refine abr.split (fun h36 => ?_) (fun h36 => ?_)
   ·have q37 : ¬ (v34 = (i28 : Int)) := auq h36
    rw [if_neg q37] at hF
    cases hF
    repeat (first | refine chk.ga ?_ | simp -dsimp [h29, z31, ↓e33, h36, q37])
    refine Leave.go _ (Gh.refl _) (hq _ ?_)
    repeat (first | refine chk.ga ?_ | simp -dsimp [h29, z31, ↓e33, h36, q37])
   ·have q37 : (v34 = (i28 : Int)) := auq h36
    rw [if_pos q37] at hF
    have w38 : IntKind.i64.wrap ((i28 : Int) + 1) = (i28 : Int) + 1 := wrap_in (by omega) (by omega)
    repeat (first | refine chk.ga ?_ | simp -dsimp [h29, z31, ↓e33, h36, q37, w38])
    refine Again.go _ ?_ ((ih_spec_l3Linear_l2 (i28 + 1) o hF) _ rfl _ hq)
    exact (Gh.to3 (by simp) (by first | simp -dsimp [h29, z31, ↓e33, h36, q37, w38]; done | simp_all))
  ·have q30 : ¬ (i28 < v26.length) := auq h29
   have z31 : ¬ ((i28 : Int) < (v26.length : Int)) := auz
   rw [if_neg q30] at hF
   cases hF
   repeat (first | refine chk.ga ?_ | simp -dsimp [h29, q30, z31])
   refine Leave.go ⟨[], []⟩ (Gh.to3 (by simp) (by first | simp -dsimp [h29, q30, z31]; done | simp_all)) ?_
   exact hq

theorem CC.spec_l3Linear (w : List Vl.Data) : (∀ (t : Vl.Ty) (p : Vl.Pattern) (r : Bool), F.spec_l3Linear w t p = some r → PureCall Tryz.prog B 131 [.arr (List.map Vl.Data.c w), .agg [.lit (.int .i64 t.data), .lit (.int .i64 t.index)], .agg [.lit (.int .i64 p.op), .lit (.int .i64 p.ctor), .lit (.int .i64 p.n), .lit (.int .i64 p.m), .lit (.int .i64 p.var), .arr (List.map Vl.Pattern.c p.kids)]] (.lit (.bool r))) ∧
  (∀ (t : Vl.Ty) (p : Vl.Pattern) (v : List Vl.Ty) (i : Nat) (o : Lo Bool Unit), F.spec_l3Linear_l1 w t p v i = some o → ∀ (c : Code), navO [1, 1, 0, 1, 0, 0] (bodyOf Tryz.f131) = some c → ∀ (Q : Exit → ASt → Prop), o.post (fun r => ∀ st, Post Tryz.prog Tryz.f131 (fun r' _ => r'.le (.lit (.bool r))) .ret st → Q .ret st) (fun s => Q (.exit 0) ⟨[(0, .arr (List.map Vl.Data.c w)), (4, .ptr 0 0), (5, .ptr 1 0)], [.cells [.lit (.int .i64 t.data), .lit (.int .i64 t.index)], .cells [.lit (.int .i64 p.op), .lit (.int .i64 p.ctor), .lit (.int .i64 p.n), .lit (.int .i64 p.m), .lit (.int .i64 p.var), .arr (List.map Vl.Pattern.c p.kids)]]⟩) → ALoopU Tryz.prog B 0 70 (hold c .mk) ⟨[(0, .arr (List.map Vl.Data.c w)), (4, .ptr 0 0), (5, .ptr 1 0), (7, .arr (List.map Vl.Ty.c v)), (8, .lit (.int .i64 (i : Int)))], [.cells [.lit (.int .i64 t.data), .lit (.int .i64 t.index)], .cells [.lit (.int .i64 p.op), .lit (.int .i64 p.ctor), .lit (.int .i64 p.n), .lit (.int .i64 p.m), .lit (.int .i64 p.var), .arr (List.map Vl.Pattern.c p.kids)]]⟩ (hold Q .mk)) := by
 refine F.spec_l3Linear.mutual_partial_correctness w
  _ _
  ?_ ?_
 ·intro _f_spec_l3Linear_l1 ih_spec_l3Linear_l1 t p r hF
  refine PureCall.enterLe Tryz.func131 (by kernel_rfl) rfl Tryz.ntmps131 (by simp) (by simp) ?_
  repeat (first | refine chk.ga ?_ | simp -dsimp)
  have hF := ob hF; obtain ⟨v, e1, hF⟩ := hF
  refine ((C.spec_l3Types B hB1 hB2 w t p v e1)).goW (by simp) (by simp) ?_
  repeat (first | refine chk.ga ?_ | simp -dsimp)
  have hF := ob hF; obtain ⟨o', ho13, hF⟩ := hF
  refine ALoop.goU _ ?_ ((ih_spec_l3Linear_l1 t p v 0 o' ho13) _ rfl _ ?_)
  ·exact (Gh.to3 (by simp) (by simp -dsimp))
  rcases o' with r042 | sx
  ·dsimp only at hF
   cases hF
   intro st h
   simpa using h
  ·dsimp only at hF
   repeat (first | refine chk.ga ?_ | simp -dsimp)
   refine abr.split (fun h14 => ?_) (fun h14 => ?_)
   ·have q15 : (p.op = 5) := auq h14
    rw [if_pos q15] at hF
    repeat (first | refine chk.ga ?_ | simp -dsimp [h14])
    refine ADraw.eff [102, 152] [(0, 0), (0, 0), (0, 0), (0, 0), (0, 0), (0, 0), (0, 3), (0, 1), (0, 1), (0, 1), (0, 1), (0, 1), (0, 1), (0, 3), (0, 3), (3, 3)] [1, 1, 1, 1, 1, 1, 1, 1, 2, 0, 2, 0, 0, 1, 1, 1] follows (by kernel_rfl) (by kernel_rfl) (by kernel_rfl) ?_
    have hF := ob hF; obtain ⟨x16, e17, hF⟩ := hF
    have le17 := lt_of_get e17
    repeat (first | refine chk.ga ?_ | simp -dsimp [h14, ↓e17])
    have hF := ob hF; obtain ⟨v18, e19, hF⟩ := hF
    refine ECallA.nilArg 0 3 (by simp) ?_
    repeat (first | refine chk.ga ?_ | simp -dsimp [h14, ↓e17])
    refine (((CC.spec_l3Vars B hB1 hB2 w).1 [] t x16 v18 e19)).ego (pl [2]) (by simp) (by simp) (plInj _ rfl (by decide)) (by intro i hi hi'; simp at hi hi'; first | omega | (subst hi'; simp [pl])) (by first | simp [h14, ↓e17]; done | simp_all) (by first | simp [h14, ↓e17]; done | simp_all) ?_
    have hF := ob hF; obtain ⟨x20, e21, hF⟩ := hF
    have le21 := lt_of_get e21
    repeat (first | refine chk.ga ?_ | simp -dsimp [h14, ↓e17, ↓e21])
    have hF := ob hF; obtain ⟨v22, e23, hF⟩ := hF
    refine ECallA.nilArg 0 3 (by simp) ?_
    repeat (first | refine chk.ga ?_ | simp -dsimp [h14, ↓e17, ↓e21])
    refine (((CC.spec_l3Vars B hB1 hB2 w).1 [] t x20 v22 e23)).ego (pl [3]) (by simp) (by simp) (plInj _ rfl (by decide)) (by intro i hi hi'; simp at hi hi'; first | omega | (subst hi'; simp [pl])) (by first | simp [h14, ↓e17, ↓e21]; done | simp_all) (by first | simp [h14, ↓e17, ↓e21]; done | simp_all) ?_
    repeat (first | refine chk.ga ?_ | simp -dsimp [h14, ↓e17, ↓e21])
    have hF := ob hF; obtain ⟨v24, e25, hF⟩ := hF
    refine ((C.spec_l3Alike B hB1 hB2 v18 v22 v24 e25)).elend (by first | simp -dsimp [h14, ↓e17, ↓e21]; done | simp_all) (by simp -dsimp) ?_
    cases hF
    repeat (first | refine chk.ga ?_ | simp -dsimp [h14, ↓e17, ↓e21])
    all_goals (try first | omega | rfl)
   ·have q15 : ¬ (p.op = 5) := auq h14
    rw [if_neg q15] at hF
    repeat (first | refine chk.ga ?_ | simp -dsimp [h14, q15])
    have hF := ob hF; obtain ⟨v26, e27, hF⟩ := hF
    refine ACall.nilArg 0 3 (by simp) ?_
    repeat (first | refine chk.ga ?_ | simp -dsimp [h14, q15])
    refine (((CC.spec_l3Vars B hB1 hB2 w).1 [] t p v26 e27)).go (pl [2]) (by simp) (by simp) (plInj _ rfl (by decide)) (by intro i hi hi'; simp at hi hi'; first | omega | (subst hi'; simp [pl])) (by first | simp [h14, q15]; done | simp_all) (by first | simp [h14, q15]; done | simp_all) ?_
    repeat (first | refine chk.ga ?_ | simp -dsimp [h14, q15])
    have hF := ob hF; obtain ⟨o'40, ho39, hF⟩ := hF
    refine ALoop.goU _ ?_ (((CC.spec_l3Linear_l2 B hB1 hB2 v26) 0 o'40 ho39) _ rfl _ ?_)
    ·exact (Gh.to3 (by simp) (by first | simp -dsimp [h14, q15]; done | simp_all))
    rcases o'40 with r0 | sx41
    ·dsimp only at hF
     cases hF
     intro st h
     simpa using h
    ·dsimp only at hF
     cases hF
     repeat (first | refine chk.ga ?_ | simp -dsimp)
     all_goals (try first | omega | rfl)
 ·intro _f_spec_l3Linear _f_spec_l3Linear_l1 ih_spec_l3Linear ih_spec_l3Linear_l1 t p v i o hF
  intro c hc Q hq
  obtain rfl : c = _ := navEq hc rfl
  refine ALoopU.know fun hk hs => ?_
  have b0 := hk 0
  simp -dsimp at b0
  have b7 := hk 7
  simp -dsimp at b7
  have d1 := hs 1 _ rfl
  simp -dsimp [Blk.bnd] at d1
  clear hk hs
  refine ALoopU.enter ?_
  repeat (first | refine chk.ga ?_ | simp -dsimp)
  refine abr.split (fun h2 => ?_) (fun h2 => ?_)
  ·have q3 : (i < v.length) := auq h2
   have z4 : ((i : Int) < (v.length : Int)) := auz
   rw [if_pos q3] at hF
   repeat (first | refine chk.ga ?_ | simp -dsimp [h2, z4])
   refine ADraw.simple follows (by kernel_rfl) (by kernel_rfl) ?_
   have hF := ob hF; obtain ⟨x, e5, hF⟩ := hF
   have le5 := lt_of_get e5
   have hF := ob hF; obtain ⟨x6, e7, hF⟩ := hF
   have le7 := lt_of_get e7
   repeat (first | refine chk.ga ?_ | simp -dsimp [h2, z4, ↓e5, ↓e7])
   have hF := ob hF; obtain ⟨v8, e9, hF⟩ := hF
   refine ((ih_spec_l3Linear x x6 v8 e9)).pgoW (by first | simp [h2, z4, ↓e5, ↓e7]; done | simp_all) (by simp) ?_
   repeat (first | refine chk.ga ?_ | simp -dsimp [h2, z4, ↓e5, ↓e7])
   refine abr.split (fun h10 => ?_) (fun h10 => ?_)
   ·have q11 : ¬ (v8 = true) := auq h10
    rw [if_neg q11] at hF
    cases hF
    repeat (first | refine chk.ga ?_ | simp -dsimp [h2, z4, ↓e5, ↓e7, h10, q11])
    refine Leave.go _ (Gh.refl _) (hq _ ?_)
    repeat (first | refine chk.ga ?_ | simp -dsimp [h2, z4, ↓e5, ↓e7, h10, q11])
   ·have q11 : (v8 = true) := auq h10
    rw [if_pos q11] at hF
    have w12 : IntKind.i64.wrap ((i : Int) + 1) = (i : Int) + 1 := wrap_in (by omega) (by omega)
    repeat (first | refine chk.ga ?_ | simp -dsimp [h2, z4, ↓e5, ↓e7, h10, q11, w12])
    refine Again.go _ ?_ ((ih_spec_l3Linear_l1 t p v (i + 1) o hF) _ rfl _ hq)
    exact (Gh.to3 (by simp) (by first | simp -dsimp [h2, z4, ↓e5, ↓e7, h10, q11, w12]; done | simp_all))
  ·have q3 : ¬ (i < v.length) := auq h2
   have z4 : ¬ ((i : Int) < (v.length : Int)) := auz
   rw [if_neg q3] at hF
   cases hF
   repeat (first | refine chk.ga ?_ | simp -dsimp [h2, q3, z4])
   refine Leave.go ⟨[(0, .arr (List.map Vl.Data.c w)), (4, .ptr 0 0), (5, .ptr 1 0)], [.cells [.lit (.int .i64 t.data), .lit (.int .i64 t.index)], .cells [.lit (.int .i64 p.op), .lit (.int .i64 p.ctor), .lit (.int .i64 p.n), .lit (.int .i64 p.m), .lit (.int .i64 p.var), .arr (List.map Vl.Pattern.c p.kids)]]⟩ (Gh.to3 (by simp) (by first | simp -dsimp [h2, q3, z4]; done | simp_all)) ?_
   exact hq

theorem C.spec_l3Is (w : List Vl.Data) (t : Vl.Ty) (p : Vl.Pattern) (r : Bool) (hF : F.spec_l3Is w t p = some r) : PureCall Tryz.prog B 100 [.arr (List.map Vl.Data.c w), .agg [.lit (.int .i64 t.data), .lit (.int .i64 t.index)], .agg [.lit (.int .i64 p.op), .lit (.int .i64 p.ctor), .lit (.int .i64 p.n), .lit (.int .i64 p.m), .lit (.int .i64 p.var), .arr (List.map Vl.Pattern.c p.kids)]] (.lit (.bool r)) := by
 unfold F.spec_l3Is at hF
 refine PureCall.enterLe Tryz.func100 (by kernel_rfl) rfl Tryz.ntmps100 (by simp) (by simp) ?_
 repeat (first | refine chk.ga ?_ | simp -dsimp)
 have hF := ob hF; obtain ⟨v, e1, hF⟩ := hF
 refine (((CC.spec_l3Shape B hB1 hB2 w).1 t p (10 : Int) v e1)).goW (by simp) (by simp) ?_
 repeat (first | refine chk.ga ?_ | simp -dsimp)
 refine abr.split (fun h2 => ?_) (fun h2 => ?_)
 ·have q3 : (v = true) := auq h2
  rw [if_pos q3] at hF
  repeat (first | refine chk.ga ?_ | simp -dsimp [h2])
  have hF := ob hF; obtain ⟨v4, e5, hF⟩ := hF
  refine (((CC.spec_l3Count B hB1 hB2 ).1 p (60 : Int) v4 e5)).goW (by first | simp [h2]; done | simp_all) (by simp) ?_
  repeat (first | refine chk.ga ?_ | simp -dsimp [h2])
  refine abr.split (fun h6 => ?_) (fun h6 => ?_)
  ·have q7 : (v4 ≤ 60) := auq h6
   rw [if_pos q7] at hF
   repeat (first | refine chk.ga ?_ | simp -dsimp [h2, h6])
   have hF := ob hF; obtain ⟨v8, e9, hF⟩ := hF
   refine (((CC.spec_l3Linear B hB1 hB2 w).1 t p v8 e9)).goW (by first | simp [h2, h6]; done | simp_all) (by simp) ?_
   cases hF
   repeat (first | refine chk.ga ?_ | simp -dsimp [h2, h6])
   all_goals (try first | omega | rfl)
  ·have q7 : ¬ (v4 ≤ 60) := auq h6
   rw [if_neg q7] at hF
   cases hF
   repeat (first | refine chk.ga ?_ | simp -dsimp [h2, h6, q7])
   all_goals (try first | omega | rfl)
 ·have q3 : ¬ (v = true) := auq h2
  rw [if_neg q3] at hF
  cases hF
  repeat (first | refine chk.ga ?_ | simp -dsimp [h2, q3])
  all_goals (try first | omega | rfl)

theorem C.spec_l4Guard (g : Vl.Guard) (vars : List Vl.VarType) (r : Bool) (hF : F.spec_l4Guard g vars = some r) : PureCall Tryz.prog B 101 [.agg [.lit (.int .i64 g.op), .lit (.int .i64 g.var), .lit (.int .i64 g.n)], .arr (List.map Vl.VarType.c vars)] (.lit (.bool r)) := by
 unfold F.spec_l4Guard at hF
 refine PureCall.enterLe Tryz.func101 (by kernel_rfl) rfl Tryz.ntmps101 (by simp) (by simp) ?_
 repeat (first | refine chk.ga ?_ | simp -dsimp)
 refine abr.split (fun h1 => ?_) (fun h1 => ?_)
 ·have q2 : (g.op = 0) := auq h1
  rw [if_pos q2] at hF
  repeat (first | refine chk.ga ?_ | simp -dsimp [h1])
  refine abr.split (fun h3 => ?_) (fun h3 => ?_)
  ·have q4 : (g.var = 0) := auq h3
   rw [if_pos q4] at hF
   cases hF
   repeat (first | refine chk.ga ?_ | simp -dsimp [h1, h3])
   all_goals (try first | omega | rfl)
  ·have q4 : ¬ (g.var = 0) := auq h3
   rw [if_neg q4] at hF
   cases hF
   repeat (first | refine chk.ga ?_ | simp -dsimp [h1, h3, q4])
   all_goals (try first | omega | rfl)
 ·have q2 : ¬ (g.op = 0) := auq h1
  rw [if_neg q2] at hF
  repeat (first | refine chk.ga ?_ | simp -dsimp [h1, q2])
  refine abr.split (fun h5 => ?_) (fun h5 => ?_)
  ·have q6 : ¬ (g.op = 1) := auq h5
   rw [if_neg q6] at hF
   repeat (first | refine chk.ga ?_ | simp -dsimp [h1, q2, h5, q6])
   refine abr.split (fun h7 => ?_) (fun h7 => ?_)
   ·have q8 : (g.op = 2) := auq h7
    rw [if_pos q8] at hF
    repeat (first | refine chk.ga ?_ | simp -dsimp [h1, q2, h5, q6, h7])
    refine abr.split (fun h9 => ?_) (fun h9 => ?_)
    ·have q10 : ¬ (g.n < 0) := auq h9
     rw [if_neg q10] at hF
     repeat (first | refine chk.ga ?_ | simp -dsimp [h1, q2, h5, q6, h7, h9, q10])
     refine abr.split (fun h11 => ?_) (fun h11 => ?_)
     ·have q12 : (9 < g.n) := auq h11
      rw [if_pos q12] at hF
      cases hF
      repeat (first | refine chk.ga ?_ | simp -dsimp [h1, q2, h5, q6, h7, h9, q10, h11])
      all_goals (try first | omega | rfl)
     ·have q12 : ¬ (9 < g.n) := auq h11
      rw [if_neg q12] at hF
      repeat (first | refine chk.ga ?_ | simp -dsimp [h1, q2, h5, q6, h7, h9, q10, h11, q12])
      have hF := ob hF; obtain ⟨v, e13, hF⟩ := hF
      refine ((C.spec_l3Find B hB1 hB2 vars g.var v e13)).goW (by first | simp [h1, q2, h5, q6, h7, h9, q10, h11, q12]; done | simp_all) (by simp) ?_
      repeat (first | refine chk.ga ?_ | simp -dsimp [h1, q2, h5, q6, h7, h9, q10, h11, q12])
      refine abr.split (fun h14 => ?_) (fun h14 => ?_)
      ·have q15 : (0 ≤ v) := auq h14
       rw [if_pos q15] at hF
       have hF := ob hF; obtain ⟨x, e16a, hF⟩ := hF
       have e16a := at_some e16a; obtain ⟨ne16, e16⟩ := e16a
       have le16 := lt_of_get e16
       cases hF
       repeat (first | refine chk.ga ?_ | simp -dsimp [h1, q2, h5, q6, h7, h9, q10, h11, q12, h14, ↓e16])
       all_goals (try first | omega | rfl)
      ·have q15 : ¬ (0 ≤ v) := auq h14
       rw [if_neg q15] at hF
       cases hF
       repeat (first | refine chk.ga ?_ | simp -dsimp [h1, q2, h5, q6, h7, h9, q10, h11, q12, h14, q15])
       all_goals (try first | omega | rfl)
    ·have q10 : (g.n < 0) := auq h9
     rw [if_pos q10] at hF
     cases hF
     repeat (first | refine chk.ga ?_ | simp -dsimp [h1, q2, h5, q6, h7, h9, q10])
     all_goals (try first | omega | rfl)
   ·have q8 : ¬ (g.op = 2) := auq h7
    rw [if_neg q8] at hF
    cases hF
    repeat (first | refine chk.ga ?_ | simp -dsimp [h1, q2, h5, q6, h7, q8])
    all_goals (try first | omega | rfl)
  ·have q6 : (g.op = 1) := auq h5
   rw [if_pos q6] at hF
   repeat (first | refine chk.ga ?_ | simp -dsimp [h1, q2, h5, q6])
   refine abr.split (fun h17 => ?_) (fun h17 => ?_)
   ·have q18 : ¬ (g.n < 0) := auq h17
    rw [if_neg q18] at hF
    repeat (first | refine chk.ga ?_ | simp -dsimp [h1, q2, h5, q6, h17, q18])
    refine abr.split (fun h19 => ?_) (fun h19 => ?_)
    ·have q20 : (9 < g.n) := auq h19
     rw [if_pos q20] at hF
     cases hF
     repeat (first | refine chk.ga ?_ | simp -dsimp [h1, q2, h5, q6, h17, q18, h19])
     all_goals (try first | omega | rfl)
    ·have q20 : ¬ (9 < g.n) := auq h19
     rw [if_neg q20] at hF
     repeat (first | refine chk.ga ?_ | simp -dsimp [h1, q2, h5, q6, h17, q18, h19, q20])
     have hF := ob hF; obtain ⟨v21, e22, hF⟩ := hF
     refine ((C.spec_l3Find B hB1 hB2 vars g.var v21 e22)).goW (by first | simp [h1, q2, h5, q6, h17, q18, h19, q20]; done | simp_all) (by simp) ?_
     repeat (first | refine chk.ga ?_ | simp -dsimp [h1, q2, h5, q6, h17, q18, h19, q20])
     refine abr.split (fun h23 => ?_) (fun h23 => ?_)
     ·have q24 : (0 ≤ v21) := auq h23
      rw [if_pos q24] at hF
      have hF := ob hF; obtain ⟨x25, e26a, hF⟩ := hF
      have e26a := at_some e26a; obtain ⟨ne26, e26⟩ := e26a
      have le26 := lt_of_get e26
      cases hF
      repeat (first | refine chk.ga ?_ | simp -dsimp [h1, q2, h5, q6, h17, q18, h19, q20, h23, ↓e26])
      all_goals (try first | omega | rfl)
     ·have q24 : ¬ (0 ≤ v21) := auq h23
      rw [if_neg q24] at hF
      cases hF
      repeat (first | refine chk.ga ?_ | simp -dsimp [h1, q2, h5, q6, h17, q18, h19, q20, h23, q24])
      all_goals (try first | omega | rfl)
   ·have q18 : (g.n < 0) := auq h17
    rw [if_pos q18] at hF
    cases hF
    repeat (first | refine chk.ga ?_ | simp -dsimp [h1, q2, h5, q6, h17, q18])
    all_goals (try first | omega | rfl)

theorem C.spec_l4Is (w : List Vl.Data) (t : Vl.Ty) (c' : Vl.Clause) (r : Bool) (hF : F.spec_l4Is w t c' = some r) : PureCall Tryz.prog B 64 [.arr (List.map Vl.Data.c w), .agg [.lit (.int .i64 t.data), .lit (.int .i64 t.index)], .agg [.lit (.int .i64 c'.pat.op), .lit (.int .i64 c'.pat.ctor), .lit (.int .i64 c'.pat.n), .lit (.int .i64 c'.pat.m), .lit (.int .i64 c'.pat.var), .arr (List.map Vl.Pattern.c c'.pat.kids), .lit (.int .i64 c'.guard.op), .lit (.int .i64 c'.guard.var), .lit (.int .i64 c'.guard.n)]] (.lit (.bool r)) := by
 unfold F.spec_l4Is at hF
 refine PureCall.enterLe Tryz.func64 (by kernel_rfl) rfl Tryz.ntmps64 (by simp) (by simp) ?_
 repeat (first | refine chk.ga ?_ | simp -dsimp)
 refine ADraw.eff [101, 102] [(0, 0), (0, 0), (0, 0), (0, 0), (0, 2), (0, 0), (0, 1), (0, 1), (0, 0), (0, 0), (0, 0), (0, 0), (0, 2), (0, 2), (2, 2), (2, 2)] [1, 1, 1, 1, 1, 1, 0, 2, 1, 1, 1, 1, 1, 1, 1, 1] follows (by kernel_rfl) (by kernel_rfl) (by kernel_rfl) ?_
 repeat (first | refine chk.ga ?_ | simp -dsimp)
 have hF := ob hF; obtain ⟨v, e1, hF⟩ := hF
 refine ((C.spec_l3Is B hB1 hB2 w t c'.pat v e1)).pgoW (by simp) (by simp) ?_
 repeat (first | refine chk.ga ?_ | simp -dsimp)
 refine abr.split (fun h2 => ?_) (fun h2 => ?_)
 ·have q3 : (v = true) := auq h2
  rw [if_pos q3] at hF
  repeat (first | refine chk.ga ?_ | simp -dsimp [h2])
  have hF := ob hF; obtain ⟨v4, e5, hF⟩ := hF
  refine ECallA.nilArg 0 3 (by simp) ?_
  repeat (first | refine chk.ga ?_ | simp -dsimp [h2])
  refine (((CC.spec_l3Vars B hB1 hB2 w).1 [] t c'.pat v4 e5)).ego (pl [2]) (by simp) (by simp) (plInj _ rfl (by decide)) (by intro i hi hi'; simp at hi hi'; first | omega | (subst hi'; simp [pl])) (by first | simp [h2]; done | simp_all) (by first | simp [h2]; done | simp_all) ?_
  repeat (first | refine chk.ga ?_ | simp -dsimp [h2])
  have hF := ob hF; obtain ⟨v6, e7, hF⟩ := hF
  refine ((C.spec_l4Guard B hB1 hB2 c'.guard v4 v6 e7)).elend (by first | simp -dsimp [h2]; done | simp_all) (by simp -dsimp) ?_
  cases hF
  repeat (first | refine chk.ga ?_ | simp -dsimp [h2])
  all_goals (try first | omega | rfl)
 ·have q3 : ¬ (v = true) := auq h2
  rw [if_neg q3] at hF
  cases hF
  repeat (first | refine chk.ga ?_ | simp -dsimp [h2, q3])
  all_goals (try first | omega | rfl)

theorem CC.spec_ClausesValid_l1 (w : List Vl.Data) (t : Vl.Ty) (list : List Vl.Clause) : (∀ (i : Nat) (o : Lo Bool Unit), F.spec_ClausesValid_l1 w t list i = some o → ∀ (c : Code), navO [1, 1, 0, 1, 0, 0] (bodyOf Tryz.f40) = some c → ∀ (Q : Exit → ASt → Prop), o.post (fun r => ∀ st, Post Tryz.prog Tryz.f40 (fun r' _ => r'.le (.lit (.bool r))) .ret st → Q .ret st) (fun s => Q (.exit 0) ⟨[], []⟩) → ALoopU Tryz.prog B 0 31 (hold c .mk) ⟨[(0, .arr (List.map Vl.Data.c w)), (2, .arr (List.map Vl.Clause.c list)), (4, .ptr 0 0), (7, .lit (.int .i64 (i : Int)))], [.cells [.lit (.int .i64 t.data), .lit (.int .i64 t.index)]]⟩ (hold Q .mk)) := by
 refine F.spec_ClausesValid_l1.partial_correctness w t list
  _
  ?_
 ·intro _f_spec_ClausesValid_l1 ih_spec_ClausesValid_l1 i o hF
  intro c hc Q hq
  obtain rfl : c = _ := navEq hc rfl
  refine ALoopU.know fun hk hs => ?_
  have b0 := hk 0
  simp -dsimp at b0
  have b2 := hk 2
  simp -dsimp at b2
  clear hk hs
  refine ALoopU.enter ?_
  repeat (first | refine chk.ga ?_ | simp -dsimp)
  refine abr.split (fun h7 => ?_) (fun h7 => ?_)
  ·have q8 : (i < list.length) := auq h7
   have z9 : ((i : Int) < (list.length : Int)) := auz
   rw [if_pos q8] at hF
   repeat (first | refine chk.ga ?_ | simp -dsimp [h7, z9])
   refine ADraw.simple follows (by kernel_rfl) (by kernel_rfl) ?_
   have hF := ob hF; obtain ⟨x, e10, hF⟩ := hF
   have le10 := lt_of_get e10
   repeat (first | refine chk.ga ?_ | simp -dsimp [h7, z9, ↓e10])
   have hF := ob hF; obtain ⟨v11, e12, hF⟩ := hF
   refine ((C.spec_l4Is B hB1 hB2 w t x v11 e12)).pgoW (by first | simp [h7, z9, ↓e10]; done | simp_all) (by simp) ?_
   repeat (first | refine chk.ga ?_ | simp -dsimp [h7, z9, ↓e10])
   refine abr.split (fun h13 => ?_) (fun h13 => ?_)
   ·have q14 : ¬ (v11 = true) := auq h13
    rw [if_neg q14] at hF
    cases hF
    repeat (first | refine chk.ga ?_ | simp -dsimp [h7, z9, ↓e10, h13, q14])
    refine Leave.go _ (Gh.refl _) (hq _ ?_)
    repeat (first | refine chk.ga ?_ | simp -dsimp [h7, z9, ↓e10, h13, q14])
   ·have q14 : (v11 = true) := auq h13
    rw [if_pos q14] at hF
    have w15 : IntKind.i64.wrap ((i : Int) + 1) = (i : Int) + 1 := wrap_in (by omega) (by omega)
    repeat (first | refine chk.ga ?_ | simp -dsimp [h7, z9, ↓e10, h13, q14, w15])
    refine Again.go _ ?_ ((ih_spec_ClausesValid_l1 (i + 1) o hF) _ rfl _ hq)
    exact (Gh.to3 (by simp) (by first | simp -dsimp [h7, z9, ↓e10, h13, q14, w15]; done | simp_all))
  ·have q8 : ¬ (i < list.length) := auq h7
   have z9 : ¬ ((i : Int) < (list.length : Int)) := auz
   rw [if_neg q8] at hF
   cases hF
   repeat (first | refine chk.ga ?_ | simp -dsimp [h7, q8, z9])
   refine Leave.go ⟨[], []⟩ (Gh.to3 (by simp) (by first | simp -dsimp [h7, q8, z9]; done | simp_all)) ?_
   exact hq

theorem C.spec_ClausesValid (w : List Vl.Data) (t : Vl.Ty) (list : List Vl.Clause) (r : Bool) (hF : F.spec_ClausesValid w t list = some r) : PureCall Tryz.prog B 40 [.arr (List.map Vl.Data.c w), .agg [.lit (.int .i64 t.data), .lit (.int .i64 t.index)], .arr (List.map Vl.Clause.c list)] (.lit (.bool r)) := by
 unfold F.spec_ClausesValid at hF
 refine PureCall.enterLe Tryz.func40 (by kernel_rfl) rfl Tryz.ntmps40 (by simp) (by simp) ?_
 repeat (first | refine chk.ga ?_ | simp -dsimp)
 have hF := ob hF; obtain ⟨v, e1, hF⟩ := hF
 refine ((C.spec_TypeValid B hB1 hB2 w t v e1)).goW (by simp) (by simp) ?_
 repeat (first | refine chk.ga ?_ | simp -dsimp)
 refine abr.split (fun h2 => ?_) (fun h2 => ?_)
 ·have q3 : (v = true) := auq h2
  rw [if_pos q3] at hF
  repeat (first | refine chk.ga ?_ | simp -dsimp [h2])
  refine abr.split (fun h4 => ?_) (fun h4 => ?_)
  ·have q5 : (8 < list.length) := auq h4
   have z6 : ((8 : Int) < (list.length : Int)) := auz
   rw [if_pos q5] at hF
   cases hF
   repeat (first | refine chk.ga ?_ | simp -dsimp [h2, h4, z6])
   all_goals (try first | omega | rfl)
  ·have q5 : ¬ (8 < list.length) := auq h4
   have z6 : ¬ ((8 : Int) < (list.length : Int)) := auz
   rw [if_neg q5] at hF
   repeat (first | refine chk.ga ?_ | simp -dsimp [h2, h4, q5, z6])
   have hF := ob hF; obtain ⟨o', ho16, hF⟩ := hF
   refine ALoop.goU _ ?_ (((CC.spec_ClausesValid_l1 B hB1 hB2 w t list) 0 o' ho16) _ rfl _ ?_)
   ·exact (Gh.to3 (by simp) (by first | simp -dsimp [h2, h4, q5, z6]; done | simp_all))
   rcases o' with r0 | sx
   ·dsimp only at hF
    cases hF
    intro st h
    simpa using h
   ·dsimp only at hF
    cases hF
    repeat (first | refine chk.ga ?_ | simp -dsimp)
    all_goals (try first | omega | rfl)
 ·have q3 : ¬ (v = true) := auq h2
  rw [if_neg q3] at hF
  cases hF
  repeat (first | refine chk.ga ?_ | simp -dsimp [h2, q3])
  all_goals (try first | omega | rfl)

theorem C.spec_l3Letter (n : Int) (r : ByteArray) (hF : F.spec_l3Letter n = some r) : PureCall Tryz.prog B 50 [.lit (.int .i64 n)] (.lit (.string r)) := by
 unfold F.spec_l3Letter at hF
 refine PureCall.enterLe Tryz.func50 (by kernel_rfl) rfl Tryz.ntmps50 (by simp) (by simp) ?_
 cases hF
 repeat (first | refine chk.ga ?_ | simp -dsimp)
 all_goals (try first | omega | rfl)

theorem CC.spec_l17Dec_l1  : (∀ (n7 : Int) (out : ByteArray) (o : Int × ByteArray), F.spec_l17Dec_l1 n7 out = some o → ∀ (c : Code), navO [1, 1, 1, 1, 0, 0, 0] (bodyOf Tryz.f49) = some c → ∀ (Q : Exit → ASt → Prop), (Q (.exit 0) ⟨[(0, .lit (.int .i64 o.1)), (3, .lit (.string o.2))], []⟩) → ALoopU Tryz.prog B 0 31 (hold c .mk) ⟨[(0, .lit (.int .i64 n7)), (3, .lit (.string out))], []⟩ (hold Q .mk)) := by
 refine F.spec_l17Dec_l1.partial_correctness 
  _
  ?_
 ·intro _f_spec_l17Dec_l1 ih_spec_l17Dec_l1 n7 out o hF
  intro c hc Q hq
  obtain rfl : c = _ := navEq hc rfl
  refine ALoopU.know fun hk hs => ?_
  clear hk hs
  refine ALoopU.enter ?_
  repeat (first | refine chk.ga ?_ | simp -dsimp)
  refine abr.split (fun h8 => ?_) (fun h8 => ?_)
  ·have q9 : (9 < n7) := auq h8
   rw [if_pos q9] at hF
   have hF := oc hF; obtain ⟨c10, hF⟩ := hF
   repeat (first | refine chk.ga ?_ | simp -dsimp [h8])
   refine Again.go _ ?_ ((ih_spec_l17Dec_l1 (IntKind.i64.wrap (n7.tdiv 10)) ((strB [IntKind.u8.wrap (IntKind.i64.wrap (48 + n7.tmod 10))]) ++ out) o hF) _ rfl _ hq)
   exact (Gh.to3 (by simp) (by first | simp -dsimp [h8]; done | simp_all))
  ·have q9 : ¬ (9 < n7) := auq h8
   rw [if_neg q9] at hF
   cases hF
   repeat (first | refine chk.ga ?_ | simp -dsimp [h8, q9])
   refine Leave.go ⟨[(0, .lit (.int .i64 n7)), (3, .lit (.string out))], []⟩ (Gh.to3 (by simp) (by first | simp -dsimp [h8, q9]; done | simp_all)) ?_
   exact hq

theorem CC.spec_l17Dec  : (∀ (n : Int) (r : ByteArray), F.spec_l17Dec n = some r → PureCall Tryz.prog B 49 [.lit (.int .i64 n)] (.lit (.string r))) := by
 refine F.spec_l17Dec.partial_correctness 
  _
  ?_
 ·intro _f_spec_l17Dec ih_spec_l17Dec n r hF
  refine PureCall.enterLe Tryz.func49 (by kernel_rfl) rfl Tryz.ntmps49 (by simp) (by simp) ?_
  repeat (first | refine chk.ga ?_ | simp -dsimp)
  refine abr.split (fun h1 => ?_) (fun h1 => ?_)
  ·have q2 : (n < (-9223372036854775807)) := auq h1
   rw [if_pos q2] at hF
   cases hF
   repeat (first | refine chk.ga ?_ | simp -dsimp [h1])
   all_goals (try first | omega | rfl)
  ·have q2 : ¬ (n < (-9223372036854775807)) := auq h1
   rw [if_neg q2] at hF
   repeat (first | refine chk.ga ?_ | simp -dsimp [h1, q2])
   refine abr.split (fun h3 => ?_) (fun h3 => ?_)
   ·have q4 : (n < 0) := auq h3
    rw [if_pos q4] at hF
    repeat (first | refine chk.ga ?_ | simp -dsimp [h1, q2, h3])
    have hF := ob hF; obtain ⟨v, e5, hF⟩ := hF
    refine ((ih_spec_l17Dec (IntKind.i64.wrap (0 - n)) v e5)).goW (by first | simp [h1, q2, h3]; done | simp_all) (by simp) ?_
    have hF := oc hF; obtain ⟨c6, hF⟩ := hF
    cases hF
    repeat (first | refine chk.ga ?_ | simp -dsimp [h1, q2, h3])
    all_goals (try first | omega | rfl)
   ·have q4 : ¬ (n < 0) := auq h3
    rw [if_neg q4] at hF
    repeat (first | refine chk.ga ?_ | simp -dsimp [h1, q2, h3, q4])
    have hF := ob hF; obtain ⟨o', ho11, hF⟩ := hF
    refine ALoop.goU _ ?_ (((CC.spec_l17Dec_l1 B hB1 hB2 ) n ByteArray.empty o' ho11) _ rfl _ ?_)
    ·exact (Gh.to3 (by simp) (by first | simp -dsimp [h1, q2, h3, q4]; done | simp_all))
    have hF := oc hF; obtain ⟨c12, hF⟩ := hF
    cases hF
    repeat (first | refine chk.ga ?_ | simp -dsimp)
    all_goals (try first | omega | rfl)

theorem CC.spec_l3Text (w : List Vl.Data) : (∀ (t : Vl.Ty) (p : Vl.Pattern) (r : ByteArray), F.spec_l3Text w t p = some r → PureCall Tryz.prog B 103 [.arr (List.map Vl.Data.c w), .agg [.lit (.int .i64 t.data), .lit (.int .i64 t.index)], .agg [.lit (.int .i64 p.op), .lit (.int .i64 p.ctor), .lit (.int .i64 p.n), .lit (.int .i64 p.m), .lit (.int .i64 p.var), .arr (List.map Vl.Pattern.c p.kids)]] (.lit (.string r))) ∧
  (∀ (p : Vl.Pattern) (v45 : List Vl.Ty) (out : ByteArray) (i : Nat) (o : ByteArray), F.spec_l3Text_l1 w p v45 out i = some o → ∀ (c : Code), navO [1, 1, 1, 1, 0, 1, 0, 0] (bodyOf Tryz.f103) = some c → ∀ (Q : Exit → ASt → Prop), (Q (.exit 1) ⟨[(7, .lit (.string o)), (8, .arr (List.map Vl.Ty.c v45))], []⟩) → ALoopU Tryz.prog B 0 118 (hold c .mk) ⟨[(0, .arr (List.map Vl.Data.c w)), (5, .ptr 1 0), (7, .lit (.string out)), (8, .arr (List.map Vl.Ty.c v45)), (9, .lit (.int .i64 (i : Int)))], [.dead, .cells [.lit (.int .i64 p.op), .lit (.int .i64 p.ctor), .lit (.int .i64 p.n), .lit (.int .i64 p.m), .lit (.int .i64 p.var), .arr (List.map Vl.Pattern.c p.kids)]]⟩ (hold Q .mk)) := by
 refine F.spec_l3Text.mutual_partial_correctness w
  _ _
  ?_ ?_
 ·intro _f_spec_l3Text _f_spec_l3Text_l1 ih_spec_l3Text ih_spec_l3Text_l1 t p r hF
  refine PureCall.enterLe Tryz.func103 (by kernel_rfl) rfl Tryz.ntmps103 (by simp) (by simp) ?_
  repeat (first | refine chk.ga ?_ | simp -dsimp)
  refine abr.split (fun h1 => ?_) (fun h1 => ?_)
  ·have q2 : (p.op = 1) := auq h1
   rw [if_pos q2] at hF
   cases hF
   repeat (first | refine chk.ga ?_ | simp -dsimp [h1])
   all_goals (try first | omega | rfl)
  ·have q2 : ¬ (p.op = 1) := auq h1
   rw [if_neg q2] at hF
   repeat (first | refine chk.ga ?_ | simp -dsimp [h1, q2])
   refine abr.split (fun h3 => ?_) (fun h3 => ?_)
   ·have q4 : (p.op = 2) := auq h3
    rw [if_pos q4] at hF
    repeat (first | refine chk.ga ?_ | simp -dsimp [h1, q2, h3])
    have hF := ob hF; obtain ⟨v, e5, hF⟩ := hF
    refine ((C.spec_l3Letter B hB1 hB2 p.var v e5)).goW (by first | simp [h1, q2, h3]; done | simp_all) (by simp) ?_
    cases hF
    repeat (first | refine chk.ga ?_ | simp -dsimp [h1, q2, h3])
    all_goals (try first | omega | rfl)
   ·have q4 : ¬ (p.op = 2) := auq h3
    rw [if_neg q4] at hF
    repeat (first | refine chk.ga ?_ | simp -dsimp [h1, q2, h3, q4])
    refine abr.split (fun h6 => ?_) (fun h6 => ?_)
    ·have q7 : (p.op = 3) := auq h6
     rw [if_pos q7] at hF
     repeat (first | refine chk.ga ?_ | simp -dsimp [h1, q2, h3, q4, h6])
     refine abr.split (fun h8 => ?_) (fun h8 => ?_)
     ·have q9 : (p.n = p.m) := auq h8
      rw [if_pos q9] at hF
      repeat (first | refine chk.ga ?_ | simp -dsimp [h1, q2, h3, q4, h6, h8])
      have hF := ob hF; obtain ⟨v10, e11, hF⟩ := hF
      refine (((CC.spec_l17Dec B hB1 hB2 ) p.n v10 e11)).goW (by first | simp [h1, q2, h3, q4, h6, h8]; done | simp_all) (by simp) ?_
      cases hF
      repeat (first | refine chk.ga ?_ | simp -dsimp [h1, q2, h3, q4, h6, h8])
      all_goals (try first | omega | rfl)
     ·have q9 : ¬ (p.n = p.m) := auq h8
      rw [if_neg q9] at hF
      repeat (first | refine chk.ga ?_ | simp -dsimp [h1, q2, h3, q4, h6, h8, q9])
      refine ADraw.simple follows (by kernel_rfl) (by kernel_rfl) ?_
      repeat (first | refine chk.ga ?_ | simp -dsimp [h1, q2, h3, q4, h6, h8, q9])
      have hF := ob hF; obtain ⟨v12, e13, hF⟩ := hF
      refine (((CC.spec_l17Dec B hB1 hB2 ) p.n v12 e13)).pgoW (by first | simp [h1, q2, h3, q4, h6, h8, q9]; done | simp_all) (by simp) ?_
      have hF := oc hF; obtain ⟨c14, hF⟩ := hF
      repeat (first | refine chk.ga ?_ | simp -dsimp [h1, q2, h3, q4, h6, h8, q9])
      have hF := ob hF; obtain ⟨v15, e16, hF⟩ := hF
      refine (((CC.spec_l17Dec B hB1 hB2 ) p.m v15 e16)).pgoW (by first | simp [h1, q2, h3, q4, h6, h8, q9]; done | simp_all) (by simp) ?_
      have hF := oc hF; obtain ⟨c17, hF⟩ := hF
      cases hF
      repeat (first | refine chk.ga ?_ | simp -dsimp [h1, q2, h3, q4, h6, h8, q9])
      all_goals (try first | omega | rfl)
    ·have q7 : ¬ (p.op = 3) := auq h6
     rw [if_neg q7] at hF
     repeat (first | refine chk.ga ?_ | simp -dsimp [h1, q2, h3, q4, h6, q7])
     refine abr.split (fun h18 => ?_) (fun h18 => ?_)
     ·have q19 : (p.op = 5) := auq h18
      rw [if_pos q19] at hF
      repeat (first | refine chk.ga ?_ | simp -dsimp [h1, q2, h3, q4, h6, q7, h18])
      refine ADraw.simple follows (by kernel_rfl) (by kernel_rfl) ?_
      have hF := ob hF; obtain ⟨x, e20, hF⟩ := hF
      have le20 := lt_of_get e20
      repeat (first | refine chk.ga ?_ | simp -dsimp [h1, q2, h3, q4, h6, q7, h18, ↓e20])
      have hF := ob hF; obtain ⟨v21, e22, hF⟩ := hF
      refine ((ih_spec_l3Text t x v21 e22)).pgoW (by first | simp [h1, q2, h3, q4, h6, q7, h18, ↓e20]; done | simp_all) (by simp) ?_
      have hF := oc hF; obtain ⟨c23, hF⟩ := hF
      have hF := oc hF; obtain ⟨c24, hF⟩ := hF
      have hF := ob hF; obtain ⟨x25, e26, hF⟩ := hF
      have le26 := lt_of_get e26
      repeat (first | refine chk.ga ?_ | simp -dsimp [h1, q2, h3, q4, h6, q7, h18, ↓e20, ↓e26])
      have hF := ob hF; obtain ⟨v27, e28, hF⟩ := hF
      refine ((ih_spec_l3Text t x25 v27 e28)).pgoW (by first | simp [h1, q2, h3, q4, h6, q7, h18, ↓e20, ↓e26]; done | simp_all) (by simp) ?_
      have hF := oc hF; obtain ⟨c29, hF⟩ := hF
      have hF := oc hF; obtain ⟨c30, hF⟩ := hF
      cases hF
      repeat (first | refine chk.ga ?_ | simp -dsimp [h1, q2, h3, q4, h6, q7, h18, ↓e20, ↓e26])
      all_goals (try first | omega | rfl)
     ·have q19 : ¬ (p.op = 5) := auq h18
      rw [if_neg q19] at hF
      repeat (first | refine chk.ga ?_ | simp -dsimp [h1, q2, h3, q4, h6, q7, h18, q19])
      refine abr.split (fun h31 => ?_) (fun h31 => ?_)
      ·have q32 : (p.op = 6) := auq h31
       rw [if_pos q32] at hF
       repeat (first | refine chk.ga ?_ | simp -dsimp [h1, q2, h3, q4, h6, q7, h18, q19, h31])
       refine ADraw.simple follows (by kernel_rfl) (by kernel_rfl) ?_
       repeat (first | refine chk.ga ?_ | simp -dsimp [h1, q2, h3, q4, h6, q7, h18, q19, h31])
       have hF := ob hF; obtain ⟨v33, e34, hF⟩ := hF
       refine ((C.spec_l3Letter B hB1 hB2 p.var v33 e34)).pgoW (by first | simp [h1, q2, h3, q4, h6, q7, h18, q19, h31]; done | simp_all) (by simp) ?_
       have hF := oc hF; obtain ⟨c35, hF⟩ := hF
       have hF := ob hF; obtain ⟨x36, e37, hF⟩ := hF
       have le37 := lt_of_get e37
       repeat (first | refine chk.ga ?_ | simp -dsimp [h1, q2, h3, q4, h6, q7, h18, q19, h31, ↓e37])
       have hF := ob hF; obtain ⟨v38, e39, hF⟩ := hF
       refine ((ih_spec_l3Text t x36 v38 e39)).pgoW (by first | simp [h1, q2, h3, q4, h6, q7, h18, q19, h31, ↓e37]; done | simp_all) (by simp) ?_
       have hF := oc hF; obtain ⟨c40, hF⟩ := hF
       cases hF
       repeat (first | refine chk.ga ?_ | simp -dsimp [h1, q2, h3, q4, h6, q7, h18, q19, h31, ↓e37])
       all_goals (try first | omega | rfl)
      ·have q32 : ¬ (p.op = 6) := auq h31
       rw [if_neg q32] at hF
       repeat (first | refine chk.ga ?_ | simp -dsimp [h1, q2, h3, q4, h6, q7, h18, q19, h31, q32])
       refine ADraw.simple follows (by kernel_rfl) (by kernel_rfl) ?_
       have hF := ob hF; obtain ⟨x41, e42a, hF⟩ := hF
       have e42a := at_some e42a; obtain ⟨ne42, e42⟩ := e42a
       have le42 := lt_of_get e42
       have hF := ob hF; obtain ⟨x43, e44a, hF⟩ := hF
       have e44a := at_some e44a; obtain ⟨ne44, e44⟩ := e44a
       have le44 := lt_of_get e44
       repeat (first | refine chk.ga ?_ | simp -dsimp [h1, q2, h3, q4, h6, q7, h18, q19, h31, q32, ↓e42, ↓e44])
       have hF := ob hF; obtain ⟨v45, e46, hF⟩ := hF
       refine ((C.spec_l1Args B hB1 hB2 w t p.ctor v45 e46)).goW (by first | simp [h1, q2, h3, q4, h6, q7, h18, q19, h31, q32, ↓e42, ↓e44]; done | simp_all) (by simp) ?_
       repeat (first | refine chk.ga ?_ | simp -dsimp [h1, q2, h3, q4, h6, q7, h18, q19, h31, q32, ↓e42, ↓e44])
       have hF := ob hF; obtain ⟨o', ho71, hF⟩ := hF
       refine ALoop.goU _ ?_ ((ih_spec_l3Text_l1 p v45 x43.name 0 o' ho71) _ rfl _ ?_)
       ·exact (Gh.to3 (by simp) (by first | simp -dsimp [h1, q2, h3, q4, h6, q7, h18, q19, h31, q32, ↓e42, ↓e44]; done | simp_all))
       repeat (first | refine chk.ga ?_ | simp -dsimp)
       refine abr.split (fun h72 => ?_) (fun h72 => ?_)
       ·have q73 : (0 < v45.length) := auq h72
        have z74 : ((0 : Int) < (v45.length : Int)) := auz
        rw [if_pos q73] at hF
        have hF := oc hF; obtain ⟨c75, hF⟩ := hF
        cases hF
        repeat (first | refine chk.ga ?_ | simp -dsimp [h72, z74])
        all_goals (try first | omega | rfl)
       ·have q73 : ¬ (0 < v45.length) := auq h72
        have z74 : ¬ ((0 : Int) < (v45.length : Int)) := auz
        rw [if_neg q73] at hF
        cases hF
        repeat (first | refine chk.ga ?_ | simp -dsimp [h72, q73, z74])
        all_goals (try first | omega | rfl)
 ·intro _f_spec_l3Text _f_spec_l3Text_l1 ih_spec_l3Text ih_spec_l3Text_l1 p v45 out i o hF
  intro c hc Q hq
  obtain rfl : c = _ := navEq hc rfl
  refine ALoopU.know fun hk hs => ?_
  have b0 := hk 0
  simp -dsimp at b0
  have b8 := hk 8
  simp -dsimp at b8
  have d1 := hs 1 _ rfl
  simp -dsimp [Blk.bnd] at d1
  clear hk hs
  refine ALoopU.enter ?_
  repeat (first | refine chk.ga ?_ | simp -dsimp)
  refine abr.split (fun h47 => ?_) (fun h47 => ?_)
  ·have q48 : (i < v45.length) := auq h47
   have z49 : ((i : Int) < (v45.length : Int)) := auz
   rw [if_pos q48] at hF
   repeat (first | refine chk.ga ?_ | simp -dsimp [h47, z49])
   refine abr.split (fun h50 => ?_) (fun h50 => ?_)
   ·have q51 : (i = 0) := auq h50
    have z52 : ((i : Int) = (0 : Int)) := auz
    rw [if_pos q51] at hF
    have hF := oc hF; obtain ⟨c53, hF⟩ := hF
    repeat (first | refine chk.ga ?_ | simp -dsimp [h47, z49, eq_true h50, eq_true z52])
    refine ADraw.simple follows (by kernel_rfl) (by kernel_rfl) ?_
    have hF := ob hF; obtain ⟨x54, e55, hF⟩ := hF
    have le55 := lt_of_get e55
    have hF := ob hF; obtain ⟨x56, e57, hF⟩ := hF
    have le57 := lt_of_get e57
    repeat (first | refine chk.ga ?_ | simp -dsimp [h47, z49, eq_true h50, eq_true z52, ↓e55, ↓e57])
    have hF := ob hF; obtain ⟨v58, e59, hF⟩ := hF
    refine ((ih_spec_l3Text x54 x56 v58 e59)).pgoW (by first | simp [h47, z49, eq_true h50, eq_true z52, ↓e55, ↓e57]; done | simp_all) (by simp) ?_
    have hF := oc hF; obtain ⟨c60, hF⟩ := hF
    have w61 : IntKind.i64.wrap ((i : Int) + 1) = (i : Int) + 1 := wrap_in (by omega) (by omega)
    repeat (first | refine chk.ga ?_ | simp -dsimp [h47, z49, eq_true h50, eq_true z52, ↓e55, ↓e57, w61])
    refine Again.go _ ?_ ((ih_spec_l3Text_l1 p v45 ((out ++ (⟨#[40]⟩ : ByteArray)) ++ v58) (i + 1) o hF) _ rfl _ hq)
    exact (Gh.to3 (by simp) (by first | simp -dsimp [h47, z49, eq_true h50, eq_true z52, ↓e55, ↓e57, w61]; done | simp_all))
   ·have q51 : ¬ (i = 0) := auq h50
    have z52 : ¬ ((i : Int) = (0 : Int)) := auz
    rw [if_neg q51] at hF
    have hF := oc hF; obtain ⟨c62, hF⟩ := hF
    repeat (first | refine chk.ga ?_ | simp -dsimp [h47, z49, h50, q51, z52])
    refine ADraw.simple follows (by kernel_rfl) (by kernel_rfl) ?_
    have hF := ob hF; obtain ⟨x63, e64, hF⟩ := hF
    have le64 := lt_of_get e64
    have hF := ob hF; obtain ⟨x65, e66, hF⟩ := hF
    have le66 := lt_of_get e66
    repeat (first | refine chk.ga ?_ | simp -dsimp [h47, z49, h50, q51, z52, ↓e64, ↓e66])
    have hF := ob hF; obtain ⟨v67, e68, hF⟩ := hF
    refine ((ih_spec_l3Text x63 x65 v67 e68)).pgoW (by first | simp [h47, z49, h50, q51, z52, ↓e64, ↓e66]; done | simp_all) (by simp) ?_
    have hF := oc hF; obtain ⟨c69, hF⟩ := hF
    have w70 : IntKind.i64.wrap ((i : Int) + 1) = (i : Int) + 1 := wrap_in (by omega) (by omega)
    repeat (first | refine chk.ga ?_ | simp -dsimp [h47, z49, h50, q51, z52, ↓e64, ↓e66, w70])
    refine Again.go _ ?_ ((ih_spec_l3Text_l1 p v45 ((out ++ (⟨#[44]⟩ : ByteArray)) ++ v67) (i + 1) o hF) _ rfl _ hq)
    exact (Gh.to3 (by simp) (by first | simp -dsimp [h47, z49, h50, q51, z52, ↓e64, ↓e66, w70]; done | simp_all))
  ·have q48 : ¬ (i < v45.length) := auq h47
   have z49 : ¬ ((i : Int) < (v45.length : Int)) := auz
   rw [if_neg q48] at hF
   cases hF
   repeat (first | refine chk.ga ?_ | simp -dsimp [h47, q48, z49])
   refine Leave.go ⟨[(7, .lit (.string out)), (8, .arr (List.map Vl.Ty.c v45))], []⟩ (Gh.to3 (by simp) (by first | simp -dsimp [h47, q48, z49]; done | simp_all)) ?_
   exact hq

theorem C.spec_l4Text (w : List Vl.Data) (t : Vl.Ty) (c' : Vl.Clause) (r : ByteArray) (hF : F.spec_l4Text w t c' = some r) : PureCall Tryz.prog B 65 [.arr (List.map Vl.Data.c w), .agg [.lit (.int .i64 t.data), .lit (.int .i64 t.index)], .agg [.lit (.int .i64 c'.pat.op), .lit (.int .i64 c'.pat.ctor), .lit (.int .i64 c'.pat.n), .lit (.int .i64 c'.pat.m), .lit (.int .i64 c'.pat.var), .arr (List.map Vl.Pattern.c c'.pat.kids), .lit (.int .i64 c'.guard.op), .lit (.int .i64 c'.guard.var), .lit (.int .i64 c'.guard.n)]] (.lit (.string r)) := by
 unfold F.spec_l4Text at hF
 refine PureCall.enterLe Tryz.func65 (by kernel_rfl) rfl Tryz.ntmps65 (by simp) (by simp) ?_
 repeat (first | refine chk.ga ?_ | simp -dsimp)
 have hF := ob hF; obtain ⟨v, e1, hF⟩ := hF
 refine (((CC.spec_l3Text B hB1 hB2 w).1 t c'.pat v e1)).goW (by simp) (by simp) ?_
 repeat (first | refine chk.ga ?_ | simp -dsimp)
 refine abr.split (fun h2 => ?_) (fun h2 => ?_)
 ·have q3 : (c'.guard.op = 1) := auq h2
  rw [if_pos q3] at hF
  repeat (first | refine chk.ga ?_ | simp -dsimp [h2])
  refine ADraw.simple follows (by kernel_rfl) (by kernel_rfl) ?_
  have hF := oc hF; obtain ⟨c4, hF⟩ := hF
  repeat (first | refine chk.ga ?_ | simp -dsimp [h2])
  have hF := ob hF; obtain ⟨v5, e6, hF⟩ := hF
  refine ((C.spec_l3Letter B hB1 hB2 c'.guard.var v5 e6)).pgoW (by first | simp [h2]; done | simp_all) (by simp) ?_
  have hF := oc hF; obtain ⟨c7, hF⟩ := hF
  have hF := oc hF; obtain ⟨c8, hF⟩ := hF
  repeat (first | refine chk.ga ?_ | simp -dsimp [h2])
  have hF := ob hF; obtain ⟨v9, e10, hF⟩ := hF
  refine (((CC.spec_l17Dec B hB1 hB2 ) c'.guard.n v9 e10)).pgoW (by first | simp [h2]; done | simp_all) (by simp) ?_
  have hF := oc hF; obtain ⟨c11, hF⟩ := hF
  cases hF
  repeat (first | refine chk.ga ?_ | simp -dsimp [h2])
  all_goals (try first | omega | rfl)
 ·have q3 : ¬ (c'.guard.op = 1) := auq h2
  rw [if_neg q3] at hF
  repeat (first | refine chk.ga ?_ | simp -dsimp [h2, q3])
  refine abr.split (fun h12 => ?_) (fun h12 => ?_)
  ·have q13 : (c'.guard.op = 2) := auq h12
   rw [if_pos q13] at hF
   repeat (first | refine chk.ga ?_ | simp -dsimp [h2, q3, h12])
   refine ADraw.simple follows (by kernel_rfl) (by kernel_rfl) ?_
   have hF := oc hF; obtain ⟨c14, hF⟩ := hF
   repeat (first | refine chk.ga ?_ | simp -dsimp [h2, q3, h12])
   have hF := ob hF; obtain ⟨v15, e16, hF⟩ := hF
   refine ((C.spec_l3Letter B hB1 hB2 c'.guard.var v15 e16)).pgoW (by first | simp [h2, q3, h12]; done | simp_all) (by simp) ?_
   have hF := oc hF; obtain ⟨c17, hF⟩ := hF
   have hF := oc hF; obtain ⟨c18, hF⟩ := hF
   repeat (first | refine chk.ga ?_ | simp -dsimp [h2, q3, h12])
   have hF := ob hF; obtain ⟨v19, e20, hF⟩ := hF
   refine (((CC.spec_l17Dec B hB1 hB2 ) c'.guard.n v19 e20)).pgoW (by first | simp [h2, q3, h12]; done | simp_all) (by simp) ?_
   have hF := oc hF; obtain ⟨c21, hF⟩ := hF
   cases hF
   repeat (first | refine chk.ga ?_ | simp -dsimp [h2, q3, h12])
   all_goals (try first | omega | rfl)
  ·have q13 : ¬ (c'.guard.op = 2) := auq h12
   rw [if_neg q13] at hF
   cases hF
   repeat (first | refine chk.ga ?_ | simp -dsimp [h2, q3, h12, q13])
   all_goals (try first | omega | rfl)

theorem CC.spec_l4Texts_l1 (w : List Vl.Data) (t : Vl.Ty) (list : List Vl.Clause) : (∀ (out : ByteArray) (i : Nat) (o : ByteArray), F.spec_l4Texts_l1 w t list out i = some o → ∀ (c : Code), navO [1, 1, 0, 1, 0, 0] (bodyOf Tryz.f41) = some c → ∀ (Q : Exit → ASt → Prop), (Q (.exit 0) ⟨[(7, .lit (.string o))], []⟩) → ALoopU Tryz.prog B 0 29 (hold c .mk) ⟨[(0, .arr (List.map Vl.Data.c w)), (2, .arr (List.map Vl.Clause.c list)), (4, .ptr 0 0), (7, .lit (.string out)), (8, .lit (.int .i64 (i : Int)))], [.cells [.lit (.int .i64 t.data), .lit (.int .i64 t.index)]]⟩ (hold Q .mk)) := by
 refine F.spec_l4Texts_l1.partial_correctness w t list
  _
  ?_
 ·intro _f_spec_l4Texts_l1 ih_spec_l4Texts_l1 out i o hF
  intro c hc Q hq
  obtain rfl : c = _ := navEq hc rfl
  refine ALoopU.know fun hk hs => ?_
  have b0 := hk 0
  simp -dsimp at b0
  have b2 := hk 2
  simp -dsimp at b2
  clear hk hs
  refine ALoopU.enter ?_
  repeat (first | refine chk.ga ?_ | simp -dsimp)
  refine abr.split (fun h1 => ?_) (fun h1 => ?_)
  ·have q2 : (i < list.length) := auq h1
   have z3 : ((i : Int) < (list.length : Int)) := auz
   rw [if_pos q2] at hF
   repeat (first | refine chk.ga ?_ | simp -dsimp [h1, z3])
   refine abr.split (fun h4 => ?_) (fun h4 => ?_)
   ·have q5 : (0 < i) := auq h4
    have z6 : ((0 : Int) < (i : Int)) := auz
    rw [if_pos q5] at hF
    have hF := oc hF; obtain ⟨c7, hF⟩ := hF
    repeat (first | refine chk.ga ?_ | simp -dsimp [h1, z3, h4, z6])
    refine ADraw.simple follows (by kernel_rfl) (by kernel_rfl) ?_
    have hF := ob hF; obtain ⟨x, e8, hF⟩ := hF
    have le8 := lt_of_get e8
    repeat (first | refine chk.ga ?_ | simp -dsimp [h1, z3, h4, z6, ↓e8])
    have hF := ob hF; obtain ⟨v, e9, hF⟩ := hF
    refine ((C.spec_l4Text B hB1 hB2 w t x v e9)).pgoW (by first | simp [h1, z3, h4, z6, ↓e8]; done | simp_all) (by simp) ?_
    have hF := oc hF; obtain ⟨c10, hF⟩ := hF
    have w11 : IntKind.i64.wrap ((i : Int) + 1) = (i : Int) + 1 := wrap_in (by omega) (by omega)
    repeat (first | refine chk.ga ?_ | simp -dsimp [h1, z3, h4, z6, ↓e8, w11])
    refine Again.go _ ?_ ((ih_spec_l4Texts_l1 ((out ++ (⟨#[47]⟩ : ByteArray)) ++ v) (i + 1) o hF) _ rfl _ hq)
    exact (Gh.to3 (by simp) (by first | simp -dsimp [h1, z3, h4, z6, ↓e8, w11]; done | simp_all))
   ·have q5 : ¬ (0 < i) := auq h4
    have z6 : ¬ ((0 : Int) < (i : Int)) := auz
    rw [if_neg q5] at hF
    repeat (first | refine chk.ga ?_ | simp -dsimp [h1, z3, h4, q5, z6])
    refine ADraw.simple follows (by kernel_rfl) (by kernel_rfl) ?_
    have hF := ob hF; obtain ⟨x12, e13, hF⟩ := hF
    have le13 := lt_of_get e13
    repeat (first | refine chk.ga ?_ | simp -dsimp [h1, z3, h4, q5, z6, ↓e13])
    have hF := ob hF; obtain ⟨v14, e15, hF⟩ := hF
    refine ((C.spec_l4Text B hB1 hB2 w t x12 v14 e15)).pgoW (by first | simp [h1, z3, h4, q5, z6, ↓e13]; done | simp_all) (by simp) ?_
    have hF := oc hF; obtain ⟨c16, hF⟩ := hF
    have w17 : IntKind.i64.wrap ((i : Int) + 1) = (i : Int) + 1 := wrap_in (by omega) (by omega)
    repeat (first | refine chk.ga ?_ | simp -dsimp [h1, z3, h4, q5, z6, ↓e13, w17])
    refine Again.go _ ?_ ((ih_spec_l4Texts_l1 (out ++ v14) (i + 1) o hF) _ rfl _ hq)
    exact (Gh.to3 (by simp) (by first | simp -dsimp [h1, z3, h4, q5, z6, ↓e13, w17]; done | simp_all))
  ·have q2 : ¬ (i < list.length) := auq h1
   have z3 : ¬ ((i : Int) < (list.length : Int)) := auz
   rw [if_neg q2] at hF
   cases hF
   repeat (first | refine chk.ga ?_ | simp -dsimp [h1, q2, z3])
   refine Leave.go ⟨[(7, .lit (.string out))], []⟩ (Gh.to3 (by simp) (by first | simp -dsimp [h1, q2, z3]; done | simp_all)) ?_
   exact hq

theorem C.spec_l4Texts (w : List Vl.Data) (t : Vl.Ty) (list : List Vl.Clause) (r : ByteArray) (hF : F.spec_l4Texts w t list = some r) : PureCall Tryz.prog B 41 [.arr (List.map Vl.Data.c w), .agg [.lit (.int .i64 t.data), .lit (.int .i64 t.index)], .arr (List.map Vl.Clause.c list)] (.lit (.string r)) := by
 unfold F.spec_l4Texts at hF
 refine PureCall.enterLe Tryz.func41 (by kernel_rfl) rfl Tryz.ntmps41 (by simp) (by simp) ?_
 repeat (first | refine chk.ga ?_ | simp -dsimp)
 have hF := ob hF; obtain ⟨o', ho18, hF⟩ := hF
 refine ALoop.goU _ ?_ (((CC.spec_l4Texts_l1 B hB1 hB2 w t list) ByteArray.empty 0 o' ho18) _ rfl _ ?_)
 ·exact (Gh.to3 (by simp) (by simp -dsimp))
 cases hF
 repeat (first | refine chk.ga ?_ | simp -dsimp)
 all_goals (try first | omega | rfl)

theorem C.spec_FormatClauses (w : List Vl.Data) (t : Vl.Ty) (list : List Vl.Clause) (r : ByteArray) (hF : F.spec_FormatClauses w t list = some r) : PureCall Tryz.prog B 21 [.arr (List.map Vl.Data.c w), .agg [.lit (.int .i64 t.data), .lit (.int .i64 t.index)], .arr (List.map Vl.Clause.c list)] (.lit (.string r)) := by
 unfold F.spec_FormatClauses at hF
 refine PureCall.enterLe Tryz.func21 (by kernel_rfl) rfl Tryz.ntmps21 (by simp) (by simp) ?_
 repeat (first | refine chk.ga ?_ | simp -dsimp)
 have hF := ob hF; obtain ⟨v, e1, hF⟩ := hF
 refine ((C.spec_ClausesValid B hB1 hB2 w t list v e1)).goW (by simp) (by simp) ?_
 repeat (first | refine chk.ga ?_ | simp -dsimp)
 refine abr.split (fun h2 => ?_) (fun h2 => ?_)
 ·have q3 : ¬ (v = true) := auq h2
  rw [if_neg q3] at hF
  cases hF
  repeat (first | refine chk.ga ?_ | simp -dsimp [h2, q3])
  all_goals (try first | omega | rfl)
 ·have q3 : (v = true) := auq h2
  rw [if_pos q3] at hF
  repeat (first | refine chk.ga ?_ | simp -dsimp [h2, q3])
  have hF := ob hF; obtain ⟨v4, e5, hF⟩ := hF
  refine ((C.spec_l4Texts B hB1 hB2 w t list v4 e5)).goW (by first | simp [h2, q3]; done | simp_all) (by simp) ?_
  cases hF
  repeat (first | refine chk.ga ?_ | simp -dsimp [h2, q3])
  all_goals (try first | omega | rfl)

theorem C.impl_within (n : Int) (low : Int) (high : Int) (r : Bool) (hF : F.impl_within n low high = some r) : PureCall Tryz.prog B 89 [.lit (.int .i64 n), .lit (.int .i64 low), .lit (.int .i64 high)] (.lit (.bool r)) := by
 unfold F.impl_within at hF
 refine PureCall.enterLe Tryz.func89 (by kernel_rfl) rfl Tryz.ntmps89 (by simp) (by simp) ?_
 repeat (first | refine chk.ga ?_ | simp -dsimp)
 refine abr.split (fun h1 => ?_) (fun h1 => ?_)
 ·have q2 : (low ≤ n) := auq h1
  rw [if_pos q2] at hF
  cases hF
  repeat (first | refine chk.ga ?_ | simp -dsimp [h1])
  all_goals (try first | omega | rfl)
 ·have q2 : ¬ (low ≤ n) := auq h1
  rw [if_neg q2] at hF
  cases hF
  repeat (first | refine chk.ga ?_ | simp -dsimp [h1, q2])
  all_goals (try first | omega | rfl)

theorem CC.impl_NameValid_l1 (s : ByteArray) : (∀ (i : Nat) (o : Lo Bool Unit), F.impl_NameValid_l1 s i = some o → ∀ (c : Code), navO [1, 1, 0, 1, 0, 0] (bodyOf Tryz.f141) = some c → ∀ (Q : Exit → ASt → Prop), o.post (fun r => ∀ st, Post Tryz.prog Tryz.f141 (fun r' _ => r'.le (.lit (.bool r))) .ret st → Q .ret st) (fun s => Q (.exit 0) ⟨[], []⟩) → ALoopU Tryz.prog B 0 34 (hold c .mk) ⟨[(0, .lit (.string s)), (3, .lit (.int .i64 (i : Int)))], []⟩ (hold Q .mk)) := by
 refine F.impl_NameValid_l1.partial_correctness s
  _
  ?_
 ·intro _f_impl_NameValid_l1 ih_impl_NameValid_l1 i o hF
  intro c hc Q hq
  obtain rfl : c = _ := navEq hc rfl
  refine ALoopU.know fun hk hs => ?_
  clear hk hs
  refine ALoopU.enter ?_
  repeat (first | refine chk.ga ?_ | simp -dsimp)
  refine abr.split (fun h11 => ?_) (fun h11 => ?_)
  ·have q12 : (i < s.size) := auq h11
   have z13 : ((i : Int) < (s.size : Int)) := auz
   rw [if_pos q12] at hF
   repeat (first | refine chk.ga ?_ | simp -dsimp [h11, z13])
   refine abr.split (fun h14 => ?_) (fun h14 => ?_)
   ·have q15 : ¬ (byteAt s i < 97) := auq h14
    have z16 : ¬ (((byteAt s i : Nat) : Int) < (97 : Int)) := auz
    rw [if_neg q15] at hF
    repeat (first | refine chk.ga ?_ | simp -dsimp [h11, z13, h14, q15, z16])
    refine abr.split (fun h17 => ?_) (fun h17 => ?_)
    ·have q18 : (122 < byteAt s i) := auq h17
     have z19 : ((122 : Int) < ((byteAt s i : Nat) : Int)) := auz
     rw [if_pos q18] at hF
     cases hF
     repeat (first | refine chk.ga ?_ | simp -dsimp [h11, z13, h14, q15, z16, h17, z19])
     refine Leave.go _ (Gh.refl _) (hq _ ?_)
     repeat (first | refine chk.ga ?_ | simp -dsimp [h11, z13, h14, q15, z16, h17, z19])
    ·have q18 : ¬ (122 < byteAt s i) := auq h17
     have z19 : ¬ ((122 : Int) < ((byteAt s i : Nat) : Int)) := auz
     rw [if_neg q18] at hF
     have hF := oc hF; obtain ⟨c20, hF⟩ := hF
     have w21 : IntKind.i64.wrap ((i : Int) + 1) = (i : Int) + 1 := wrap_in (by omega) (by omega)
     repeat (first | refine chk.ga ?_ | simp -dsimp [h11, z13, h14, q15, z16, h17, q18, z19, w21])
     refine Again.go _ ?_ ((ih_impl_NameValid_l1 (i + 1) o hF) _ rfl _ hq)
     exact (Gh.to3 (by simp) (by first | simp -dsimp [h11, z13, h14, q15, z16, h17, q18, z19, w21]; done | simp_all))
   ·have q15 : (byteAt s i < 97) := auq h14
    have z16 : (((byteAt s i : Nat) : Int) < (97 : Int)) := auz
    rw [if_pos q15] at hF
    cases hF
    repeat (first | refine chk.ga ?_ | simp -dsimp [h11, z13, h14, q15, z16])
    refine Leave.go _ (Gh.refl _) (hq _ ?_)
    repeat (first | refine chk.ga ?_ | simp -dsimp [h11, z13, h14, q15, z16])
  ·have q12 : ¬ (i < s.size) := auq h11
   have z13 : ¬ ((i : Int) < (s.size : Int)) := auz
   rw [if_neg q12] at hF
   cases hF
   repeat (first | refine chk.ga ?_ | simp -dsimp [h11, q12, z13])
   refine Leave.go ⟨[], []⟩ (Gh.to3 (by simp) (by first | simp -dsimp [h11, q12, z13]; done | simp_all)) ?_
   exact hq

theorem C.impl_NameValid (s : ByteArray) (r : Bool) (hF : F.impl_NameValid s = some r) : PureCall Tryz.prog B 141 [.lit (.string s)] (.lit (.bool r)) := by
 unfold F.impl_NameValid at hF
 refine PureCall.enterLe Tryz.func141 (by kernel_rfl) rfl Tryz.ntmps141 (by simp) (by simp) ?_
 repeat (first | refine chk.ga ?_ | simp -dsimp)
 have hF := ob hF; obtain ⟨v, e1, hF⟩ := hF
 refine ((C.impl_within B hB1 hB2 (s.size : Int) (1 : Int) (5 : Int) v e1)).goW (by simp) (by simp) ?_
 repeat (first | refine chk.ga ?_ | simp -dsimp)
 refine abr.split (fun h2 => ?_) (fun h2 => ?_)
 ·have q3 : (v = true) := auq h2
  rw [if_pos q3] at hF
  have hF := oc hF; obtain ⟨c4, hF⟩ := hF
  repeat (first | refine chk.ga ?_ | simp -dsimp [h2])
  refine abr.split (fun h5 => ?_) (fun h5 => ?_)
  ·have q6 : ¬ (byteAt s 0 < 65) := auq h5
   have z7 : ¬ (((byteAt s 0 : Nat) : Int) < (65 : Int)) := auz
   rw [if_neg q6] at hF
   repeat (first | refine chk.ga ?_ | simp -dsimp [h2, h5, q6, z7])
   refine abr.split (fun h8 => ?_) (fun h8 => ?_)
   ·have q9 : (90 < byteAt s 0) := auq h8
    have z10 : ((90 : Int) < ((byteAt s 0 : Nat) : Int)) := auz
    rw [if_pos q9] at hF
    cases hF
    repeat (first | refine chk.ga ?_ | simp -dsimp [h2, h5, q6, z7, h8, z10])
    all_goals (try first | omega | rfl)
   ·have q9 : ¬ (90 < byteAt s 0) := auq h8
    have z10 : ¬ ((90 : Int) < ((byteAt s 0 : Nat) : Int)) := auz
    rw [if_neg q9] at hF
    repeat (first | refine chk.ga ?_ | simp -dsimp [h2, h5, q6, z7, h8, q9, z10])
    have hF := ob hF; obtain ⟨o', ho22, hF⟩ := hF
    refine ALoop.goU _ ?_ (((CC.impl_NameValid_l1 B hB1 hB2 s) 1 o' ho22) _ rfl _ ?_)
    ·exact (Gh.to3 (by simp) (by first | simp -dsimp [h2, h5, q6, z7, h8, q9, z10]; done | simp_all))
    rcases o' with r0 | sx
    ·dsimp only at hF
     cases hF
     intro st h
     simpa using h
    ·dsimp only at hF
     cases hF
     repeat (first | refine chk.ga ?_ | simp -dsimp)
     all_goals (try first | omega | rfl)
  ·have q6 : (byteAt s 0 < 65) := auq h5
   have z7 : (((byteAt s 0 : Nat) : Int) < (65 : Int)) := auz
   rw [if_pos q6] at hF
   cases hF
   repeat (first | refine chk.ga ?_ | simp -dsimp [h2, h5, q6, z7])
   all_goals (try first | omega | rfl)
 ·have q3 : ¬ (v = true) := auq h2
  rw [if_neg q3] at hF
  cases hF
  repeat (first | refine chk.ga ?_ | simp -dsimp [h2, q3])
  all_goals (try first | omega | rfl)

theorem C.impl_argOk (w : List Vl.Data) (t : Vl.Ty) (r : Bool) (hF : F.impl_argOk w t = some r) : PureCall Tryz.prog B 144 [.arr (List.map Vl.Data.c w), .agg [.lit (.int .i64 t.data), .lit (.int .i64 t.index)]] (.lit (.bool r)) := by
 unfold F.impl_argOk at hF
 refine PureCall.enterLe Tryz.func144 (by kernel_rfl) rfl Tryz.ntmps144 (by simp) (by simp) ?_
 repeat (first | refine chk.ga ?_ | simp -dsimp)
 refine abr.split (fun h1 => ?_) (fun h1 => ?_)
 ·have q2 : ¬ (dec (eq2 (t.data, t.index) ((-1), 0)) = true) := auq h1
  rw [if_neg q2] at hF
  repeat (first | refine chk.ga ?_ | simp -dsimp [h1, q2])
  have hF := ob hF; obtain ⟨v, e3, hF⟩ := hF
  refine ((C.impl_within B hB1 hB2 t.data (0 : Int) (IntKind.i64.wrap ((w.length : Int) - 1)) v e3)).goW (by first | simp [h1, q2]; done | simp_all) (by simp) ?_
  repeat (first | refine chk.ga ?_ | simp -dsimp [h1, q2])
  refine abr.split (fun h4 => ?_) (fun h4 => ?_)
  ·have q5 : (v = true) := auq h4
   rw [if_pos q5] at hF
   repeat (first | refine chk.ga ?_ | simp -dsimp [h1, q2, h4])
   have hF := ob hF; obtain ⟨v6, e7, hF⟩ := hF
   refine ((C.impl_within B hB1 hB2 t.index (-1 : Int) (3 : Int) v6 e7)).goW (by first | simp [h1, q2, h4]; done | simp_all) (by simp) ?_
   cases hF
   repeat (first | refine chk.ga ?_ | simp -dsimp [h1, q2, h4])
   all_goals (try first | omega | rfl)
  ·have q5 : ¬ (v = true) := auq h4
   rw [if_neg q5] at hF
   cases hF
   repeat (first | refine chk.ga ?_ | simp -dsimp [h1, q2, h4, q5])
   all_goals (try first | omega | rfl)
 ·have q2 : (dec (eq2 (t.data, t.index) ((-1), 0)) = true) := auq h1
  rw [if_pos q2] at hF
  cases hF
  repeat (first | refine chk.ga ?_ | simp -dsimp [h1, q2])
  all_goals (try first | omega | rfl)

theorem C.impl_ctorOk_1 (t : Vl.Ty) (a1 : List Vl.Data) (r : Bool) (hF : F.impl_ctorOk_1 t a1 = some r) : PureCall Tryz.prog B 143 [.agg [.lit (.int .i64 t.data), .lit (.int .i64 t.index)], .rptr [.arr (List.map Vl.Data.c a1)] 0] (.lit (.bool r)) := by
 unfold F.impl_ctorOk_1 at hF
 refine PureCall.enterLe Tryz.func143 (by kernel_rfl) rfl Tryz.ntmps143 (by simp) (by simp) ?_
 repeat (first | refine chk.ga ?_ | simp -dsimp)
 have hF := ob hF; obtain ⟨v, e1, hF⟩ := hF
 refine ((C.impl_argOk B hB1 hB2 a1 t v e1)).goW (by simp) (by simp) ?_
 cases hF
 repeat (first | refine chk.ga ?_ | simp -dsimp)
 all_goals (try first | omega | rfl)

theorem CC.slices_IndexFunc_Type__impl_ctorOk_1_l1 (s : List Vl.Ty) (k0 : List Vl.Data) : (∀ (i : Nat) (o : Lo Int Unit), F.slices_IndexFunc_Type__impl_ctorOk_1_l1 s k0 i = some o → ∀ (c : Code), navO [1, 0, 1, 0, 0] (bodyOf Tryz.f160) = some c → ∀ (Q : Exit → ASt → Prop), o.post (fun r => ∀ st, Post Tryz.prog Tryz.f160 (fun r' _ => r'.le (.lit (.int .i64 r))) .ret st → Q .ret st) (fun s => Q (.exit 0) ⟨[], []⟩) → ALoopU Tryz.prog B 0 19 (hold c .mk) ⟨[(0, .arr (List.map Vl.Ty.c s)), (1, .fn (.func 143) [] [.rptr [.arr (List.map Vl.Data.c k0)] 0]), (7, .lit (.int .i64 (s.length : Int))), (8, .lit (.int .i64 (i : Int)))], []⟩ (hold Q .mk)) := by
 refine F.slices_IndexFunc_Type__impl_ctorOk_1_l1.partial_correctness s k0
  _
  ?_
 ·intro _f_slices_IndexFunc_Type__impl_ctorOk_1_l1 ih_slices_IndexFunc_Type__impl_ctorOk_1_l1 i o hF
  intro c hc Q hq
  obtain rfl : c = _ := navEq hc rfl
  refine ALoopU.know fun hk hs => ?_
  have b0 := hk 0
  simp -dsimp at b0
  clear hk hs
  refine ALoopU.enter ?_
  repeat (first | refine chk.ga ?_ | simp -dsimp)
  refine abr.split (fun h1 => ?_) (fun h1 => ?_)
  ·have q2 : (i < s.length) := auq h1
   have z3 : ((i : Int) < (s.length : Int)) := auz
   rw [if_pos q2] at hF
   have hF := ob hF; obtain ⟨x, e4, hF⟩ := hF
   have le4 := lt_of_get e4
   repeat (first | refine chk.ga ?_ | simp -dsimp [h1, z3, ↓e4])
   have hF := ob hF; obtain ⟨v, e5, hF⟩ := hF
   refine ((C.impl_ctorOk_1 B hB1 hB2 x k0 v e5)).goW (by first | simp [h1, z3, ↓e4]; done | simp_all) (by simp) ?_
   repeat (first | refine chk.ga ?_ | simp -dsimp [h1, z3, ↓e4])
   refine abr.split (fun h6 => ?_) (fun h6 => ?_)
   ·have q7 : (v = true) := auq h6
    rw [if_pos q7] at hF
    cases hF
    repeat (first | refine chk.ga ?_ | simp -dsimp [h1, z3, ↓e4, h6])
    refine Leave.go _ (Gh.refl _) (hq _ ?_)
    repeat (first | refine chk.ga ?_ | simp -dsimp [h1, z3, ↓e4, h6])
   ·have q7 : ¬ (v = true) := auq h6
    rw [if_neg q7] at hF
    have w8 : IntKind.i64.wrap ((i : Int) + 1) = (i : Int) + 1 := wrap_in (by omega) (by omega)
    repeat (first | refine chk.ga ?_ | simp -dsimp [h1, z3, ↓e4, h6, q7, w8])
    refine Again.go _ ?_ ((ih_slices_IndexFunc_Type__impl_ctorOk_1_l1 (i + 1) o hF) _ rfl _ hq)
    exact (Gh.to3 (by simp) (by first | simp -dsimp [h1, z3, ↓e4, h6, q7, w8]; done | simp_all))
  ·have q2 : ¬ (i < s.length) := auq h1
   have z3 : ¬ ((i : Int) < (s.length : Int)) := auz
   rw [if_neg q2] at hF
   cases hF
   repeat (first | refine chk.ga ?_ | simp -dsimp [h1, q2, z3])
   refine Leave.go ⟨[], []⟩ (Gh.to3 (by simp) (by first | simp -dsimp [h1, q2, z3]; done | simp_all)) ?_
   exact hq

theorem C.slices_IndexFunc_Type__impl_ctorOk_1 (s : List Vl.Ty) (k0 : List Vl.Data) (r : Int) (hF : F.slices_IndexFunc_Type__impl_ctorOk_1 s k0 = some r) : PureCall Tryz.prog B 160 [.arr (List.map Vl.Ty.c s), .fn (.func 143) [] [.rptr [.arr (List.map Vl.Data.c k0)] 0]] (.lit (.int .i64 r)) := by
 unfold F.slices_IndexFunc_Type__impl_ctorOk_1 at hF
 refine PureCall.enterLe Tryz.func160 (by kernel_rfl) rfl Tryz.ntmps160 (by simp) (by simp) ?_
 repeat (first | refine chk.ga ?_ | simp -dsimp)
 have hF := ob hF; obtain ⟨o', ho9, hF⟩ := hF
 refine ALoop.goU _ ?_ (((CC.slices_IndexFunc_Type__impl_ctorOk_1_l1 B hB1 hB2 s k0) 0 o' ho9) _ rfl _ ?_)
 ·exact (Gh.to3 (by simp) (by simp -dsimp))
 rcases o' with r0 | sx
 ·dsimp only at hF
  cases hF
  intro st h
  simpa using h
 ·dsimp only at hF
  cases hF
  repeat (first | refine chk.ga ?_ | simp -dsimp)
  all_goals (try first | omega | rfl)

theorem C.slices_ContainsFunc_Type__impl_ctorOk_1 (s : List Vl.Ty) (k0 : List Vl.Data) (r : Bool) (hF : F.slices_ContainsFunc_Type__impl_ctorOk_1 s k0 = some r) : PureCall Tryz.prog B 142 [.arr (List.map Vl.Ty.c s), .fn (.func 143) [] [.rptr [.arr (List.map Vl.Data.c k0)] 0]] (.lit (.bool r)) := by
 unfold F.slices_ContainsFunc_Type__impl_ctorOk_1 at hF
 refine PureCall.enterLe Tryz.func142 (by kernel_rfl) rfl Tryz.ntmps142 (by simp) (by simp) ?_
 repeat (first | refine chk.ga ?_ | simp -dsimp)
 have hF := ob hF; obtain ⟨v, e1, hF⟩ := hF
 refine ((C.slices_IndexFunc_Type__impl_ctorOk_1 B hB1 hB2 s k0 v e1)).goW (by simp) (by simp) ?_
 cases hF
 repeat (first | refine chk.ga ?_ | simp -dsimp)
 all_goals (try first | omega | rfl)

end Go.Proofs.YtdehlcjhndoclaaGreatDoor
