/- The contracts: the code computes the functions (printed by gen.py). -/
import Derived.Test.YtdehlcjhndoclaaGreatDoorProg
import Derived.Test.YtdehlcjhndoclaaGreatDoorExactFormatExprF
import Derived.Test.YtdehlcjhndoclaaGreatDoorVlShelf
import Derived.Test.YtdehlcjhndoclaaGreatDoorShelf
namespace Go.Proofs.YtdehlcjhndoclaaGreatDoor
open Go Go.Proofs Go.Vl
set_option linter.unusedSimpArgs false
set_option linter.unusedVariables false
set_option linter.unusedSectionVars false
set_option maxRecDepth 100000
set_option maxHeartbeats 4000000

attribute [local irreducible] ECallA NCallA aL aLg AMake MLoop AgainM LeaveM awpM aopsM MutCall BCall chk abr ACall ALoop ALoopU ADraw Again Leave PCallA PCall Post awp aops PureCall hold

theorem follows : Tryz.prog.follows .mixedOrders = true := by kernel_rfl
@[simp] theorem ti2 : tiOf Tryz.prog 2 = some ⟨.word, 1, [.int .i64 0]⟩ := by kernel_rfl
@[simp] theorem ti3 : tiOf Tryz.prog 3 = some ⟨.word, 1, [.int .i64 0]⟩ := by kernel_rfl
@[simp] theorem ti4 : tiOf Tryz.prog 4 = some ⟨.word, 1, [.bool false]⟩ := by kernel_rfl
@[simp] theorem ti5 : tiOf Tryz.prog 5 = some ⟨.word, 1, [.int .u8 0]⟩ := by kernel_rfl
@[simp] theorem ti9 : tiOf Tryz.prog 9 = some ⟨.word, 1, [.string ByteArray.empty]⟩ := by kernel_rfl
@[simp] theorem ti22 : tiOf Tryz.prog 22 = some ⟨.slice 2 40 [.string ByteArray.empty, .slice none 0 0], 1, [.slice none 0 0]⟩ := by kernel_rfl
@[simp] theorem sl22 : isSl Tryz.prog 22 = true := by kernel_rfl
@[simp] theorem ti23 : tiOf Tryz.prog 23 = some ⟨.slice 4 32 [.int .i64 0, .int .i64 0, .int .i64 0, .int .i64 0], 1, [.slice none 0 0]⟩ := by kernel_rfl
@[simp] theorem sl23 : isSl Tryz.prog 23 = true := by kernel_rfl
@[simp] theorem ti24 : tiOf Tryz.prog 24 = some ⟨.slice 3 24 [.int .i64 0, .int .i64 0, .int .i64 0], 1, [.slice none 0 0]⟩ := by kernel_rfl
@[simp] theorem sl24 : isSl Tryz.prog 24 = true := by kernel_rfl
@[simp] theorem ti26 : tiOf Tryz.prog 26 = some ⟨.struct [(0, 1), (1, 1)], 2, [.int .i64 0, .int .i64 0]⟩ := by kernel_rfl
@[simp] theorem pr26 : pair2B Tryz.prog 26 = true := by kernel_rfl
@[simp] theorem ti27 : tiOf Tryz.prog 27 = some ⟨.slice 4 48 [.int .i64 0, .int .i64 0, .int .i64 0, .slice none 0 0], 1, [.slice none 0 0]⟩ := by kernel_rfl
@[simp] theorem sl27 : isSl Tryz.prog 27 = true := by kernel_rfl
@[simp] theorem ti29 : tiOf Tryz.prog 29 = some ⟨.struct [(0, 1), (1, 1), (2, 1), (3, 1)], 4, [.int .i64 0, .int .i64 0, .int .i64 0, .slice none 0 0]⟩ := by kernel_rfl
@[simp] theorem ti35 : tiOf Tryz.prog 35 = some ⟨.slice 2 40 [.string ByteArray.empty, .slice none 0 0], 1, [.slice none 0 0]⟩ := by kernel_rfl
@[simp] theorem sl35 : isSl Tryz.prog 35 = true := by kernel_rfl
@[simp] theorem ti37 : tiOf Tryz.prog 37 = some ⟨.slice 4 32 [.int .i64 0, .int .i64 0, .int .i64 0, .int .i64 0], 1, [.slice none 0 0]⟩ := by kernel_rfl
@[simp] theorem sl37 : isSl Tryz.prog 37 = true := by kernel_rfl
@[simp] theorem ti39 : tiOf Tryz.prog 39 = some ⟨.slice 3 24 [.int .i64 0, .int .i64 0, .int .i64 0], 1, [.slice none 0 0]⟩ := by kernel_rfl
@[simp] theorem sl39 : isSl Tryz.prog 39 = true := by kernel_rfl
@[simp] theorem ti41 : tiOf Tryz.prog 41 = some ⟨.struct [(0, 1), (1, 1)], 2, [.int .i64 0, .int .i64 0]⟩ := by kernel_rfl
@[simp] theorem pr41 : pair2B Tryz.prog 41 = true := by kernel_rfl
@[simp] theorem ti43 : tiOf Tryz.prog 43 = some ⟨.slice 4 48 [.int .i64 0, .int .i64 0, .int .i64 0, .slice none 0 0], 1, [.slice none 0 0]⟩ := by kernel_rfl
@[simp] theorem sl43 : isSl Tryz.prog 43 = true := by kernel_rfl
@[simp] theorem ti45 : tiOf Tryz.prog 45 = some ⟨.struct [(0, 1), (1, 1), (2, 1), (3, 1)], 4, [.int .i64 0, .int .i64 0, .int .i64 0, .slice none 0 0]⟩ := by kernel_rfl
@[simp] theorem ti60 : tiOf Tryz.prog 60 = some ⟨.slice 3 48 [.string ByteArray.empty, .slice none 0 0, .int .i64 0], 1, [.slice none 0 0]⟩ := by kernel_rfl
@[simp] theorem sl60 : isSl Tryz.prog 60 = true := by kernel_rfl
@[simp] theorem ti62 : tiOf Tryz.prog 62 = some ⟨.struct [(0, 1), (1, 1)], 2, [.string ByteArray.empty, .slice none 0 0]⟩ := by kernel_rfl
@[simp] theorem ti66 : tiOf Tryz.prog 66 = some ⟨.slice 3 48 [.string ByteArray.empty, .slice none 0 0, .int .i64 0], 1, [.slice none 0 0]⟩ := by kernel_rfl
@[simp] theorem sl66 : isSl Tryz.prog 66 = true := by kernel_rfl
@[simp] theorem ti68 : tiOf Tryz.prog 68 = some ⟨.struct [(0, 1), (1, 1)], 2, [.string ByteArray.empty, .slice none 0 0]⟩ := by kernel_rfl
@[simp] theorem ti71 : tiOf Tryz.prog 71 = some ⟨.struct [(0, 2), (2, 2)], 4, [.int .i64 0, .int .i64 0, .int .i64 0, .int .i64 0]⟩ := by kernel_rfl
@[simp] theorem ti74 : tiOf Tryz.prog 74 = some ⟨.struct [(0, 2), (2, 2)], 4, [.int .i64 0, .int .i64 0, .int .i64 0, .int .i64 0]⟩ := by kernel_rfl
@[simp] theorem ti76 : tiOf Tryz.prog 76 = some ⟨.struct [(0, 1), (1, 2)], 3, [.int .i64 0, .int .i64 0, .int .i64 0]⟩ := by kernel_rfl
@[simp] theorem pr76 : trip3B Tryz.prog 76 = true := by kernel_rfl
@[simp] theorem ti79 : tiOf Tryz.prog 79 = some ⟨.struct [(0, 1), (1, 2)], 3, [.int .i64 0, .int .i64 0, .int .i64 0]⟩ := by kernel_rfl
@[simp] theorem pr79 : trip3B Tryz.prog 79 = true := by kernel_rfl
@[simp] theorem ti82 : tiOf Tryz.prog 82 = some ⟨.struct [(0, 1), (1, 1), (2, 1)], 3, [.slice none 0 0, .slice none 0 0, .slice none 0 0]⟩ := by kernel_rfl
@[simp] theorem ti108 : tiOf Tryz.prog 108 = some ⟨.slice 2 16 [.int .i64 0, .int .i64 0], 1, [.slice none 0 0]⟩ := by kernel_rfl
@[simp] theorem sl108 : isSl Tryz.prog 108 = true := by kernel_rfl
@[simp] theorem ti110 : tiOf Tryz.prog 110 = some ⟨.struct [(0, 1), (1, 1), (2, 1)], 3, [.string ByteArray.empty, .slice none 0 0, .int .i64 0]⟩ := by kernel_rfl
@[simp] theorem ti118 : tiOf Tryz.prog 118 = some ⟨.slice 1 16 [.string ByteArray.empty], 1, [.slice none 0 0]⟩ := by kernel_rfl
@[simp] theorem sl118 : isSl Tryz.prog 118 = true := by kernel_rfl
@[simp] theorem ti135 : tiOf Tryz.prog 135 = some ⟨.slice 2 16 [.int .i64 0, .int .i64 0], 1, [.slice none 0 0]⟩ := by kernel_rfl
@[simp] theorem sl135 : isSl Tryz.prog 135 = true := by kernel_rfl
@[simp] theorem ti137 : tiOf Tryz.prog 137 = some ⟨.struct [(0, 1), (1, 1), (2, 1)], 3, [.string ByteArray.empty, .slice none 0 0, .int .i64 0]⟩ := by kernel_rfl
@[simp] theorem ti142 : tiOf Tryz.prog 142 = some ⟨.slice 1 1 [.int .u8 0], 1, [.slice none 0 0]⟩ := by kernel_rfl
@[simp] theorem sl142 : isSl Tryz.prog 142 = true := by kernel_rfl
@[simp] theorem ti148 : tiOf Tryz.prog 148 = some ⟨.array 6 1, 6, [.bool false, .bool false, .bool false, .bool false, .bool false, .bool false]⟩ := by kernel_rfl
@[simp] theorem ti156 : tiOf Tryz.prog 156 = some ⟨.slice 1 8 [.int .i64 0], 1, [.slice none 0 0]⟩ := by kernel_rfl
@[simp] theorem sl156 : isSl Tryz.prog 156 = true := by kernel_rfl
@[simp] theorem ti171 : tiOf Tryz.prog 171 = some ⟨.struct [(0, 1), (1, 1)], 2, [.pointer none, .slice none 0 0]⟩ := by kernel_rfl
@[simp] theorem ti183 : mapB Tryz.prog 183 = true := by kernel_rfl
attribute [simp] Tryz.underlying2 Tryz.underlying3 Tryz.underlying4 Tryz.underlying5 Tryz.underlying9 Tryz.underlying22 Tryz.underlying23 Tryz.underlying24 Tryz.underlying27 Tryz.underlying35 Tryz.underlying37 Tryz.underlying39 Tryz.underlying43 Tryz.underlying60 Tryz.underlying66 Tryz.underlying108 Tryz.underlying118 Tryz.underlying135 Tryz.underlying142 Tryz.underlying148 Tryz.underlying156 Tryz.results3 Tryz.results5 Tryz.results6 Tryz.results7 Tryz.results8 Tryz.results9 Tryz.results10 Tryz.results11 Tryz.results12 Tryz.results13 Tryz.results14 Tryz.results15 Tryz.results16 Tryz.results17 Tryz.results18 Tryz.results19 Tryz.results25 Tryz.results26 Tryz.results27 Tryz.results28 Tryz.results29 Tryz.results30 Tryz.results31 Tryz.results32 Tryz.results33 Tryz.results34 Tryz.results35 Tryz.results36 Tryz.results37 Tryz.results38 Tryz.results46 Tryz.results47 Tryz.results48 Tryz.results49 Tryz.results50 Tryz.results51 Tryz.results52 Tryz.results53 Tryz.results54 Tryz.results55 Tryz.results56 Tryz.results57 Tryz.results58 Tryz.results59 Tryz.results60 Tryz.results61 Tryz.results63 Tryz.results73 Tryz.results76 Tryz.results77 Tryz.results78 Tryz.results79 Tryz.results80 Tryz.results81 Tryz.results82 Tryz.results83 Tryz.results84 Tryz.results85 Tryz.results86 Tryz.results87 Tryz.results88 Tryz.results89 Tryz.results90 Tryz.results91 Tryz.results92 Tryz.results93 Tryz.results94 Tryz.results96 Tryz.results98 Tryz.results99 Tryz.results114 Tryz.results115 Tryz.results116 Tryz.results117 Tryz.results118 Tryz.results119 Tryz.results120 Tryz.results121 Tryz.results122 Tryz.results124 Tryz.results125 Tryz.results126 Tryz.results127 Tryz.results128 Tryz.results138 Tryz.results139 Tryz.results140 Tryz.results141 Tryz.results142 Tryz.results143 Tryz.results144 Tryz.results149 Tryz.results150 Tryz.results159 Tryz.results160

variable (B : Nat) (hB1 : 67108864 ≤ B) (hB2 : B ≤ 9223372036854775807)
include hB1 hB2

theorem C.laws_szTypeS (a : List Vl.Ty) (left' : Int) (r : Int) (hF : F.laws_szTypeS a left' = some r) : PureCall Tryz.prog B 114 [.arr (List.map Vl.Ty.c a), .lit (.int .i64 left')] (.lit (.int .i64 r)) := by
 unfold F.laws_szTypeS at hF
 refine PureCall.enterLe Tryz.func114 (by kernel_rfl) rfl Tryz.ntmps114 (by simp) (by simp) ?_
 repeat (first | refine chk.ga ?_ | simp -dsimp)
 refine abr.split (fun h1 => ?_) (fun h1 => ?_)
 ·have q2 : (IntKind.i64.wrap (left' - (a.length : Int)) < 0) := auq h1
  rw [if_pos q2] at hF
  cases hF
  repeat (first | refine chk.ga ?_ | simp -dsimp [h1])
  all_goals (try first | omega | rfl)
 ·have q2 : ¬ (IntKind.i64.wrap (left' - (a.length : Int)) < 0) := auq h1
  rw [if_neg q2] at hF
  cases hF
  repeat (first | refine chk.ga ?_ | simp -dsimp [h1, q2])
  all_goals (try first | omega | rfl)

theorem C.laws_szCtor (a : Vl.Ctor) (left' : Int) (r : Int) (hF : F.laws_szCtor a left' = some r) : PureCall Tryz.prog B 76 [.agg [.lit (.string a.name), .arr (List.map Vl.Ty.c a.args), .lit (.int .i64 a.index)], .lit (.int .i64 left')] (.lit (.int .i64 r)) := by
 unfold F.laws_szCtor at hF
 refine PureCall.enterLe Tryz.func76 (by kernel_rfl) rfl Tryz.ntmps76 (by simp) (by simp) ?_
 repeat (first | refine chk.ga ?_ | simp -dsimp)
 refine abr.split (fun h1 => ?_) (fun h1 => ?_)
 ·have q2 : (IntKind.i64.wrap (left' - (a.name.size : Int)) < 0) := auq h1
  rw [if_pos q2] at hF
  cases hF
  repeat (first | refine chk.ga ?_ | simp -dsimp [h1])
  all_goals (try first | omega | rfl)
 ·have q2 : ¬ (IntKind.i64.wrap (left' - (a.name.size : Int)) < 0) := auq h1
  rw [if_neg q2] at hF
  repeat (first | refine chk.ga ?_ | simp -dsimp [h1, q2])
  have hF := ob hF; obtain ⟨v, e3, hF⟩ := hF
  refine ((C.laws_szTypeS B hB1 hB2 a.args (IntKind.i64.wrap (left' - (a.name.size : Int))) v e3)).goW (by first | simp [h1, q2]; done | simp_all) (by simp) ?_
  repeat (first | refine chk.ga ?_ | simp -dsimp [h1, q2])
  refine abr.split (fun h4 => ?_) (fun h4 => ?_)
  ·have q5 : (v < 0) := auq h4
   rw [if_pos q5] at hF
   cases hF
   repeat (first | refine chk.ga ?_ | simp -dsimp [h1, q2, h4])
   all_goals (try first | omega | rfl)
  ·have q5 : ¬ (v < 0) := auq h4
   rw [if_neg q5] at hF
   cases hF
   repeat (first | refine chk.ga ?_ | simp -dsimp [h1, q2, h4, q5])
   all_goals (try first | omega | rfl)

theorem CC.laws_szCtorS_l1 (a : List Vl.Ctor) : (∀ (left'3 : Int) (i : Nat) (o : Lo Int Int), F.laws_szCtorS_l1 a left'3 i = some o → ∀ (c : Code), navO [1, 1, 1, 0, 1, 0, 0] (bodyOf Tryz.f46) = some c → ∀ (Q : Exit → ASt → Prop), o.post (fun r => ∀ st, Post Tryz.prog Tryz.f46 (fun r' _ => r'.le (.lit (.int .i64 r))) .ret st → Q .ret st) (fun s => Q (.exit 0) ⟨[(1, .lit (.int .i64 s))], []⟩) → ALoopU Tryz.prog B 0 27 (hold c .mk) ⟨[(0, .arr (List.map Vl.Ctor.c a)), (1, .lit (.int .i64 left'3)), (5, .lit (.int .i64 (i : Int)))], []⟩ (hold Q .mk)) := by
 refine F.laws_szCtorS_l1.partial_correctness a
  _
  ?_
 ·intro _f_laws_szCtorS_l1 ih_laws_szCtorS_l1 left'3 i o hF
  intro c hc Q hq
  obtain rfl : c = _ := navEq hc rfl
  refine ALoopU.know fun hk hs => ?_
  have b0 := hk 0
  simp -dsimp at b0
  clear hk hs
  refine ALoopU.enter ?_
  repeat (first | refine chk.ga ?_ | simp -dsimp)
  refine abr.split (fun h4 => ?_) (fun h4 => ?_)
  ·have q5 : (i < a.length) := auq h4
   have z6 : ((i : Int) < (a.length : Int)) := auz
   rw [if_pos q5] at hF
   have hF := ob hF; obtain ⟨x, e7, hF⟩ := hF
   have le7 := lt_of_get e7
   repeat (first | refine chk.ga ?_ | simp -dsimp [h4, z6, ↓e7])
   have hF := ob hF; obtain ⟨v, e8, hF⟩ := hF
   refine ((C.laws_szCtor B hB1 hB2 x left'3 v e8)).goW (by first | simp [h4, z6, ↓e7]; done | simp_all) (by simp) ?_
   repeat (first | refine chk.ga ?_ | simp -dsimp [h4, z6, ↓e7])
   refine abr.split (fun h9 => ?_) (fun h9 => ?_)
   ·have q10 : (v < 0) := auq h9
    rw [if_pos q10] at hF
    cases hF
    repeat (first | refine chk.ga ?_ | simp -dsimp [h4, z6, ↓e7, h9])
    refine Leave.go _ (Gh.refl _) (hq _ ?_)
    repeat (first | refine chk.ga ?_ | simp -dsimp [h4, z6, ↓e7, h9])
   ·have q10 : ¬ (v < 0) := auq h9
    rw [if_neg q10] at hF
    have w11 : IntKind.i64.wrap ((i : Int) + 1) = (i : Int) + 1 := wrap_in (by omega) (by omega)
    repeat (first | refine chk.ga ?_ | simp -dsimp [h4, z6, ↓e7, h9, q10, w11])
    refine Again.go _ ?_ ((ih_laws_szCtorS_l1 v (i + 1) o hF) _ rfl _ hq)
    exact (Gh.to3 (by simp) (by first | simp -dsimp [h4, z6, ↓e7, h9, q10, w11]; done | simp_all))
  ·have q5 : ¬ (i < a.length) := auq h4
   have z6 : ¬ ((i : Int) < (a.length : Int)) := auz
   rw [if_neg q5] at hF
   cases hF
   repeat (first | refine chk.ga ?_ | simp -dsimp [h4, q5, z6])
   refine Leave.go ⟨[(1, .lit (.int .i64 left'3))], []⟩ (Gh.to3 (by simp) (by first | simp -dsimp [h4, q5, z6]; done | simp_all)) ?_
   exact hq

theorem C.laws_szCtorS (a : List Vl.Ctor) (left' : Int) (r : Int) (hF : F.laws_szCtorS a left' = some r) : PureCall Tryz.prog B 46 [.arr (List.map Vl.Ctor.c a), .lit (.int .i64 left')] (.lit (.int .i64 r)) := by
 unfold F.laws_szCtorS at hF
 refine PureCall.enterLe Tryz.func46 (by kernel_rfl) rfl Tryz.ntmps46 (by simp) (by simp) ?_
 repeat (first | refine chk.ga ?_ | simp -dsimp)
 refine abr.split (fun h1 => ?_) (fun h1 => ?_)
 ·have q2 : (IntKind.i64.wrap (left' - (a.length : Int)) < 0) := auq h1
  rw [if_pos q2] at hF
  cases hF
  repeat (first | refine chk.ga ?_ | simp -dsimp [h1])
  all_goals (try first | omega | rfl)
 ·have q2 : ¬ (IntKind.i64.wrap (left' - (a.length : Int)) < 0) := auq h1
  rw [if_neg q2] at hF
  repeat (first | refine chk.ga ?_ | simp -dsimp [h1, q2])
  have hF := ob hF; obtain ⟨o', ho12, hF⟩ := hF
  refine ALoop.goU _ ?_ (((CC.laws_szCtorS_l1 B hB1 hB2 a) (IntKind.i64.wrap (left' - (a.length : Int))) 0 o' ho12) _ rfl _ ?_)
  ·exact (Gh.to3 (by simp) (by first | simp -dsimp [h1, q2]; done | simp_all))
  rcases o' with r0 | sx
  ·dsimp only at hF
   cases hF
   intro st h
   simpa using h
  ·dsimp only at hF
   cases hF
   repeat (first | refine chk.ga ?_ | simp -dsimp)
   all_goals (try first | omega | rfl)

theorem C.laws_szData (a : Vl.Data) (left' : Int) (r : Int) (hF : F.laws_szData a left' = some r) : PureCall Tryz.prog B 25 [.agg [.lit (.string a.name), .arr (List.map Vl.Ctor.c a.ctors)], .lit (.int .i64 left')] (.lit (.int .i64 r)) := by
 unfold F.laws_szData at hF
 refine PureCall.enterLe Tryz.func25 (by kernel_rfl) rfl Tryz.ntmps25 (by simp) (by simp) ?_
 repeat (first | refine chk.ga ?_ | simp -dsimp)
 refine abr.split (fun h1 => ?_) (fun h1 => ?_)
 ·have q2 : (IntKind.i64.wrap (left' - (a.name.size : Int)) < 0) := auq h1
  rw [if_pos q2] at hF
  cases hF
  repeat (first | refine chk.ga ?_ | simp -dsimp [h1])
  all_goals (try first | omega | rfl)
 ·have q2 : ¬ (IntKind.i64.wrap (left' - (a.name.size : Int)) < 0) := auq h1
  rw [if_neg q2] at hF
  repeat (first | refine chk.ga ?_ | simp -dsimp [h1, q2])
  have hF := ob hF; obtain ⟨v, e3, hF⟩ := hF
  refine ((C.laws_szCtorS B hB1 hB2 a.ctors (IntKind.i64.wrap (left' - (a.name.size : Int))) v e3)).goW (by first | simp [h1, q2]; done | simp_all) (by simp) ?_
  repeat (first | refine chk.ga ?_ | simp -dsimp [h1, q2])
  refine abr.split (fun h4 => ?_) (fun h4 => ?_)
  ·have q5 : (v < 0) := auq h4
   rw [if_pos q5] at hF
   cases hF
   repeat (first | refine chk.ga ?_ | simp -dsimp [h1, q2, h4])
   all_goals (try first | omega | rfl)
  ·have q5 : ¬ (v < 0) := auq h4
   rw [if_neg q5] at hF
   cases hF
   repeat (first | refine chk.ga ?_ | simp -dsimp [h1, q2, h4, q5])
   all_goals (try first | omega | rfl)

theorem CC.laws_szDataS_l1 (a : List Vl.Data) : (∀ (left'3 : Int) (i : Nat) (o : Lo Int Int), F.laws_szDataS_l1 a left'3 i = some o → ∀ (c : Code), navO [1, 1, 1, 0, 1, 0, 0] (bodyOf Tryz.f5) = some c → ∀ (Q : Exit → ASt → Prop), o.post (fun r => ∀ st, Post Tryz.prog Tryz.f5 (fun r' _ => r'.le (.lit (.int .i64 r))) .ret st → Q .ret st) (fun s => Q (.exit 0) ⟨[(1, .lit (.int .i64 s))], []⟩) → ALoopU Tryz.prog B 0 27 (hold c .mk) ⟨[(0, .arr (List.map Vl.Data.c a)), (1, .lit (.int .i64 left'3)), (5, .lit (.int .i64 (i : Int)))], []⟩ (hold Q .mk)) := by
 refine F.laws_szDataS_l1.partial_correctness a
  _
  ?_
 ·intro _f_laws_szDataS_l1 ih_laws_szDataS_l1 left'3 i o hF
  intro c hc Q hq
  obtain rfl : c = _ := navEq hc rfl
  refine ALoopU.know fun hk hs => ?_
  have b0 := hk 0
  simp -dsimp at b0
  clear hk hs
  refine ALoopU.enter ?_
  repeat (first | refine chk.ga ?_ | simp -dsimp)
  refine abr.split (fun h4 => ?_) (fun h4 => ?_)
  ·have q5 : (i < a.length) := auq h4
   have z6 : ((i : Int) < (a.length : Int)) := auz
   rw [if_pos q5] at hF
   have hF := ob hF; obtain ⟨x, e7, hF⟩ := hF
   have le7 := lt_of_get e7
   repeat (first | refine chk.ga ?_ | simp -dsimp [h4, z6, ↓e7])
   have hF := ob hF; obtain ⟨v, e8, hF⟩ := hF
   refine ((C.laws_szData B hB1 hB2 x left'3 v e8)).goW (by first | simp [h4, z6, ↓e7]; done | simp_all) (by simp) ?_
   repeat (first | refine chk.ga ?_ | simp -dsimp [h4, z6, ↓e7])
   refine abr.split (fun h9 => ?_) (fun h9 => ?_)
   ·have q10 : (v < 0) := auq h9
    rw [if_pos q10] at hF
    cases hF
    repeat (first | refine chk.ga ?_ | simp -dsimp [h4, z6, ↓e7, h9])
    refine Leave.go _ (Gh.refl _) (hq _ ?_)
    repeat (first | refine chk.ga ?_ | simp -dsimp [h4, z6, ↓e7, h9])
   ·have q10 : ¬ (v < 0) := auq h9
    rw [if_neg q10] at hF
    have w11 : IntKind.i64.wrap ((i : Int) + 1) = (i : Int) + 1 := wrap_in (by omega) (by omega)
    repeat (first | refine chk.ga ?_ | simp -dsimp [h4, z6, ↓e7, h9, q10, w11])
    refine Again.go _ ?_ ((ih_laws_szDataS_l1 v (i + 1) o hF) _ rfl _ hq)
    exact (Gh.to3 (by simp) (by first | simp -dsimp [h4, z6, ↓e7, h9, q10, w11]; done | simp_all))
  ·have q5 : ¬ (i < a.length) := auq h4
   have z6 : ¬ ((i : Int) < (a.length : Int)) := auz
   rw [if_neg q5] at hF
   cases hF
   repeat (first | refine chk.ga ?_ | simp -dsimp [h4, q5, z6])
   refine Leave.go ⟨[(1, .lit (.int .i64 left'3))], []⟩ (Gh.to3 (by simp) (by first | simp -dsimp [h4, q5, z6]; done | simp_all)) ?_
   exact hq

theorem C.laws_szDataS (a : List Vl.Data) (left' : Int) (r : Int) (hF : F.laws_szDataS a left' = some r) : PureCall Tryz.prog B 5 [.arr (List.map Vl.Data.c a), .lit (.int .i64 left')] (.lit (.int .i64 r)) := by
 unfold F.laws_szDataS at hF
 refine PureCall.enterLe Tryz.func5 (by kernel_rfl) rfl Tryz.ntmps5 (by simp) (by simp) ?_
 repeat (first | refine chk.ga ?_ | simp -dsimp)
 refine abr.split (fun h1 => ?_) (fun h1 => ?_)
 ·have q2 : (IntKind.i64.wrap (left' - (a.length : Int)) < 0) := auq h1
  rw [if_pos q2] at hF
  cases hF
  repeat (first | refine chk.ga ?_ | simp -dsimp [h1])
  all_goals (try first | omega | rfl)
 ·have q2 : ¬ (IntKind.i64.wrap (left' - (a.length : Int)) < 0) := auq h1
  rw [if_neg q2] at hF
  repeat (first | refine chk.ga ?_ | simp -dsimp [h1, q2])
  have hF := ob hF; obtain ⟨o', ho12, hF⟩ := hF
  refine ALoop.goU _ ?_ (((CC.laws_szDataS_l1 B hB1 hB2 a) (IntKind.i64.wrap (left' - (a.length : Int))) 0 o' ho12) _ rfl _ ?_)
  ·exact (Gh.to3 (by simp) (by first | simp -dsimp [h1, q2]; done | simp_all))
  rcases o' with r0 | sx
  ·dsimp only at hF
   cases hF
   intro st h
   simpa using h
  ·dsimp only at hF
   cases hF
   repeat (first | refine chk.ga ?_ | simp -dsimp)
   all_goals (try first | omega | rfl)

theorem C.laws_szFunTypeS (a : List Vl.FunType) (left' : Int) (r : Int) (hF : F.laws_szFunTypeS a left' = some r) : PureCall Tryz.prog B 6 [.arr (List.map Vl.FunType.c a), .lit (.int .i64 left')] (.lit (.int .i64 r)) := by
 unfold F.laws_szFunTypeS at hF
 refine PureCall.enterLe Tryz.func6 (by kernel_rfl) rfl Tryz.ntmps6 (by simp) (by simp) ?_
 repeat (first | refine chk.ga ?_ | simp -dsimp)
 refine abr.split (fun h1 => ?_) (fun h1 => ?_)
 ·have q2 : (IntKind.i64.wrap (left' - (a.length : Int)) < 0) := auq h1
  rw [if_pos q2] at hF
  cases hF
  repeat (first | refine chk.ga ?_ | simp -dsimp [h1])
  all_goals (try first | omega | rfl)
 ·have q2 : ¬ (IntKind.i64.wrap (left' - (a.length : Int)) < 0) := auq h1
  rw [if_neg q2] at hF
  cases hF
  repeat (first | refine chk.ga ?_ | simp -dsimp [h1, q2])
  all_goals (try first | omega | rfl)

theorem C.laws_szVarTypeS (a : List Vl.VarType) (left' : Int) (r : Int) (hF : F.laws_szVarTypeS a left' = some r) : PureCall Tryz.prog B 7 [.arr (List.map Vl.VarType.c a), .lit (.int .i64 left')] (.lit (.int .i64 r)) := by
 unfold F.laws_szVarTypeS at hF
 refine PureCall.enterLe Tryz.func7 (by kernel_rfl) rfl Tryz.ntmps7 (by simp) (by simp) ?_
 repeat (first | refine chk.ga ?_ | simp -dsimp)
 refine abr.split (fun h1 => ?_) (fun h1 => ?_)
 ·have q2 : (IntKind.i64.wrap (left' - (a.length : Int)) < 0) := auq h1
  rw [if_pos q2] at hF
  cases hF
  repeat (first | refine chk.ga ?_ | simp -dsimp [h1])
  all_goals (try first | omega | rfl)
 ·have q2 : ¬ (IntKind.i64.wrap (left' - (a.length : Int)) < 0) := auq h1
  rw [if_neg q2] at hF
  cases hF
  repeat (first | refine chk.ga ?_ | simp -dsimp [h1, q2])
  all_goals (try first | omega | rfl)

theorem CC.laws_szExpr  : (∀ (a : Vl.Expr) (left' : Int) (r : Int), F.laws_szExpr a left' = some r → PureCall Tryz.prog B 8 [.agg [.lit (.int .i64 a.op), .lit (.int .i64 a.n), .lit (.int .i64 a.ctor), .arr (List.map Vl.Expr.c a.kids)], .lit (.int .i64 left')] (.lit (.int .i64 r))) ∧
  (∀ (a : List Vl.Expr) (left' : Int) (r : Int), F.laws_szExprS a left' = some r → PureCall Tryz.prog B 26 [.arr (List.map Vl.Expr.c a), .lit (.int .i64 left')] (.lit (.int .i64 r))) ∧
  (∀ (a : List Vl.Expr) (left'3 : Int) (i : Nat) (o : Lo Int Int), F.laws_szExprS_l1 a left'3 i = some o → ∀ (c : Code), navO [1, 1, 1, 0, 1, 0, 0] (bodyOf Tryz.f26) = some c → ∀ (Q : Exit → ASt → Prop), o.post (fun r => ∀ st, Post Tryz.prog Tryz.f26 (fun r' _ => r'.le (.lit (.int .i64 r))) .ret st → Q .ret st) (fun s => Q (.exit 0) ⟨[(1, .lit (.int .i64 s))], []⟩) → ALoopU Tryz.prog B 0 27 (hold c .mk) ⟨[(0, .arr (List.map Vl.Expr.c a)), (1, .lit (.int .i64 left'3)), (5, .lit (.int .i64 (i : Int)))], []⟩ (hold Q .mk)) := by
 refine F.laws_szExpr.mutual_partial_correctness 
  _ _ _
  ?_ ?_ ?_
 ·intro _f_laws_szExprS ih_laws_szExprS a left' r hF
  refine PureCall.enterLe Tryz.func8 (by kernel_rfl) rfl Tryz.ntmps8 (by simp) (by simp) ?_
  repeat (first | refine chk.ga ?_ | simp -dsimp)
  have hF := ob hF; obtain ⟨v, e1, hF⟩ := hF
  refine ((ih_laws_szExprS a.kids left' v e1)).goW (by simp) (by simp) ?_
  repeat (first | refine chk.ga ?_ | simp -dsimp)
  refine abr.split (fun h2 => ?_) (fun h2 => ?_)
  ·have q3 : (v < 0) := auq h2
   rw [if_pos q3] at hF
   cases hF
   repeat (first | refine chk.ga ?_ | simp -dsimp [h2])
   all_goals (try first | omega | rfl)
  ·have q3 : ¬ (v < 0) := auq h2
   rw [if_neg q3] at hF
   cases hF
   repeat (first | refine chk.ga ?_ | simp -dsimp [h2, q3])
   all_goals (try first | omega | rfl)
 ·intro _f_laws_szExprS_l1 ih_laws_szExprS_l1 a left' r hF
  refine PureCall.enterLe Tryz.func26 (by kernel_rfl) rfl Tryz.ntmps26 (by simp) (by simp) ?_
  repeat (first | refine chk.ga ?_ | simp -dsimp)
  refine abr.split (fun h1 => ?_) (fun h1 => ?_)
  ·have q2 : (IntKind.i64.wrap (left' - (a.length : Int)) < 0) := auq h1
   rw [if_pos q2] at hF
   cases hF
   repeat (first | refine chk.ga ?_ | simp -dsimp [h1])
   all_goals (try first | omega | rfl)
  ·have q2 : ¬ (IntKind.i64.wrap (left' - (a.length : Int)) < 0) := auq h1
   rw [if_neg q2] at hF
   repeat (first | refine chk.ga ?_ | simp -dsimp [h1, q2])
   have hF := ob hF; obtain ⟨o', ho12, hF⟩ := hF
   refine ALoop.goU _ ?_ ((ih_laws_szExprS_l1 a (IntKind.i64.wrap (left' - (a.length : Int))) 0 o' ho12) _ rfl _ ?_)
   ·exact (Gh.to3 (by simp) (by first | simp -dsimp [h1, q2]; done | simp_all))
   rcases o' with r0 | sx
   ·dsimp only at hF
    cases hF
    intro st h
    simpa using h
   ·dsimp only at hF
    cases hF
    repeat (first | refine chk.ga ?_ | simp -dsimp)
    all_goals (try first | omega | rfl)
 ·intro _f_laws_szExpr _f_laws_szExprS_l1 ih_laws_szExpr ih_laws_szExprS_l1 a left'3 i o hF
  intro c hc Q hq
  obtain rfl : c = _ := navEq hc rfl
  refine ALoopU.know fun hk hs => ?_
  have b0 := hk 0
  simp -dsimp at b0
  clear hk hs
  refine ALoopU.enter ?_
  repeat (first | refine chk.ga ?_ | simp -dsimp)
  refine abr.split (fun h4 => ?_) (fun h4 => ?_)
  ·have q5 : (i < a.length) := auq h4
   have z6 : ((i : Int) < (a.length : Int)) := auz
   rw [if_pos q5] at hF
   have hF := ob hF; obtain ⟨x, e7, hF⟩ := hF
   have le7 := lt_of_get e7
   repeat (first | refine chk.ga ?_ | simp -dsimp [h4, z6, ↓e7])
   have hF := ob hF; obtain ⟨v, e8, hF⟩ := hF
   refine ((ih_laws_szExpr x left'3 v e8)).goW (by first | simp [h4, z6, ↓e7]; done | simp_all) (by simp) ?_
   repeat (first | refine chk.ga ?_ | simp -dsimp [h4, z6, ↓e7])
   refine abr.split (fun h9 => ?_) (fun h9 => ?_)
   ·have q10 : (v < 0) := auq h9
    rw [if_pos q10] at hF
    cases hF
    repeat (first | refine chk.ga ?_ | simp -dsimp [h4, z6, ↓e7, h9])
    refine Leave.go _ (Gh.refl _) (hq _ ?_)
    repeat (first | refine chk.ga ?_ | simp -dsimp [h4, z6, ↓e7, h9])
   ·have q10 : ¬ (v < 0) := auq h9
    rw [if_neg q10] at hF
    have w11 : IntKind.i64.wrap ((i : Int) + 1) = (i : Int) + 1 := wrap_in (by omega) (by omega)
    repeat (first | refine chk.ga ?_ | simp -dsimp [h4, z6, ↓e7, h9, q10, w11])
    refine Again.go _ ?_ ((ih_laws_szExprS_l1 a v (i + 1) o hF) _ rfl _ hq)
    exact (Gh.to3 (by simp) (by first | simp -dsimp [h4, z6, ↓e7, h9, q10, w11]; done | simp_all))
  ·have q5 : ¬ (i < a.length) := auq h4
   have z6 : ¬ ((i : Int) < (a.length : Int)) := auz
   rw [if_neg q5] at hF
   cases hF
   repeat (first | refine chk.ga ?_ | simp -dsimp [h4, q5, z6])
   refine Leave.go ⟨[(1, .lit (.int .i64 left'3))], []⟩ (Gh.to3 (by simp) (by first | simp -dsimp [h4, q5, z6]; done | simp_all)) ?_
   exact hq

theorem C.laws_toType (a : Vl.Ty) (r : Vl.Ty) (hF : F.laws_toType a = some r) : PureCall Tryz.prog B 13 [.agg [.lit (.int .i64 a.data), .lit (.int .i64 a.index)]] (.agg [.lit (.int .i64 r.data), .lit (.int .i64 r.index)]) := by
 unfold F.laws_toType at hF
 refine PureCall.enterLe Tryz.func13 (by kernel_rfl) rfl Tryz.ntmps13 (by simp) (by simp) ?_
 cases hF
 repeat (first | refine chk.ga ?_ | simp -dsimp)
 all_goals (try first | omega | rfl)

theorem CC.laws_toTypeS_l1 (a : List Vl.Ty) : (∀ (out : List Vl.Ty) (i : Nat) (o : List Vl.Ty), F.laws_toTypeS_l1 a out i = some o → ∀ (c : Code), navO [1, 1, 0, 1, 0, 0] (bodyOf Tryz.f117) = some c → ∀ (Q : Exit → ASt → Prop), (Q (.exit 0) ⟨[(3, .own 0 (List.length (α := Vl.Ty) o))], [.elems 2 (List.map Vl.Ty.c o)]⟩) → ALoopU Tryz.prog B 0 23 (hold c .mk) ⟨[(0, .arr (List.map Vl.Ty.c a)), (3, .own 0 (List.length (α := Vl.Ty) out)), (4, .lit (.int .i64 (i : Int)))], [.elems 2 (List.map Vl.Ty.c out)]⟩ (hold Q .mk)) := by
 refine F.laws_toTypeS_l1.partial_correctness a
  _
  ?_
 ·intro _f_laws_toTypeS_l1 ih_laws_toTypeS_l1 out i o hF
  intro c hc Q hq
  obtain rfl : c = _ := navEq hc rfl
  refine ALoopU.know fun hk hs => ?_
  have b0 := hk 0
  simp -dsimp at b0
  have d0 := hs 0 _ rfl
  simp -dsimp [Blk.bnd] at d0
  clear hk hs
  refine ALoopU.enter ?_
  repeat (first | refine chk.ga ?_ | simp -dsimp)
  refine abr.split (fun h2 => ?_) (fun h2 => ?_)
  ·have q3 : (i < a.length) := auq h2
   have z4 : ((i : Int) < (a.length : Int)) := auz
   rw [if_pos q3] at hF
   have hF := ob hF; obtain ⟨x, e5, hF⟩ := hF
   have le5 := lt_of_get e5
   repeat (first | refine chk.ga ?_ | simp -dsimp [h2, z4, ↓e5])
   have hF := ob hF; obtain ⟨v, e6, hF⟩ := hF
   refine ((C.laws_toType B hB1 hB2 x v e6)).goW (by first | simp [h2, z4, ↓e5]; done | simp_all) (by simp) ?_
   have hF := ob hF; obtain ⟨x7, e8, hF⟩ := hF
   have le8 := lt_of_get e8
   have w9 : IntKind.i64.wrap ((i : Int) + 1) = (i : Int) + 1 := wrap_in (by omega) (by omega)
   repeat (first | refine chk.ga ?_ | simp -dsimp [h2, z4, ↓e5, ↓e8, w9])
   refine Again.go _ ?_ ((ih_laws_toTypeS_l1 (out.set i v) (i + 1) o hF) _ rfl _ hq)
   exact (Gh.to3 (by simp) (by first | simp -dsimp [h2, z4, ↓e5, ↓e8, w9]; done | simp_all))
  ·have q3 : ¬ (i < a.length) := auq h2
   have z4 : ¬ ((i : Int) < (a.length : Int)) := auz
   rw [if_neg q3] at hF
   cases hF
   repeat (first | refine chk.ga ?_ | simp -dsimp [h2, q3, z4])
   refine Leave.go ⟨[(3, .own 0 (List.length (α := Vl.Ty) out))], [.elems 2 (List.map Vl.Ty.c out)]⟩ (Gh.to3 (by simp) (by first | simp -dsimp [h2, q3, z4]; done | simp_all)) ?_
   exact hq

theorem C.laws_toTypeS (a : List Vl.Ty) (r : List Vl.Ty) (hF : F.laws_toTypeS a = some r) : PureCall Tryz.prog B 117 [.arr (List.map Vl.Ty.c a)] (.arr (List.map Vl.Ty.c r)) := by
 unfold F.laws_toTypeS at hF
 refine PureCall.enterLe Tryz.func117 (by kernel_rfl) rfl Tryz.ntmps117 (by simp) (by simp) ?_
 have hF := oc hF; obtain ⟨c1, hF⟩ := hF
 repeat (first | refine chk.ga ?_ | simp -dsimp)
 have hF := ob hF; obtain ⟨o', ho10, hF⟩ := hF
 refine ALoop.goU _ ?_ (((CC.laws_toTypeS_l1 B hB1 hB2 a) (List.replicate a.length Vl.Ty.z) 0 o' ho10) _ rfl _ ?_)
 ·exact (Gh.to3 (by simp) (by simp -dsimp))
 cases hF
 repeat (first | refine chk.ga ?_ | simp -dsimp)
 all_goals (try first | omega | rfl)

theorem C.laws_toCtor (a : Vl.Ctor) (r : Vl.Ctor) (hF : F.laws_toCtor a = some r) : PureCall Tryz.prog B 82 [.agg [.lit (.string a.name), .arr (List.map Vl.Ty.c a.args), .lit (.int .i64 a.index)]] (.agg [.lit (.string r.name), .arr (List.map Vl.Ty.c r.args), .lit (.int .i64 r.index)]) := by
 unfold F.laws_toCtor at hF
 refine PureCall.enterLe Tryz.func82 (by kernel_rfl) rfl Tryz.ntmps82 (by simp) (by simp) ?_
 repeat (first | refine chk.ga ?_ | simp -dsimp)
 have hF := ob hF; obtain ⟨v, e1, hF⟩ := hF
 refine ((C.laws_toTypeS B hB1 hB2 a.args v e1)).goW (by simp) (by simp) ?_
 cases hF
 repeat (first | refine chk.ga ?_ | simp -dsimp)
 all_goals (try first | omega | rfl)

theorem CC.laws_toCtorS_l1 (a : List Vl.Ctor) : (∀ (out : List Vl.Ctor) (i : Nat) (o : List Vl.Ctor), F.laws_toCtorS_l1 a out i = some o → ∀ (c : Code), navO [1, 1, 0, 1, 0, 0] (bodyOf Tryz.f52) = some c → ∀ (Q : Exit → ASt → Prop), (Q (.exit 0) ⟨[(3, .own 0 (List.length (α := Vl.Ctor) o))], [.elems 3 (List.map Vl.Ctor.c o)]⟩) → ALoopU Tryz.prog B 0 23 (hold c .mk) ⟨[(0, .arr (List.map Vl.Ctor.c a)), (3, .own 0 (List.length (α := Vl.Ctor) out)), (4, .lit (.int .i64 (i : Int)))], [.elems 3 (List.map Vl.Ctor.c out)]⟩ (hold Q .mk)) := by
 refine F.laws_toCtorS_l1.partial_correctness a
  _
  ?_
 ·intro _f_laws_toCtorS_l1 ih_laws_toCtorS_l1 out i o hF
  intro c hc Q hq
  obtain rfl : c = _ := navEq hc rfl
  refine ALoopU.know fun hk hs => ?_
  have b0 := hk 0
  simp -dsimp at b0
  have d0 := hs 0 _ rfl
  simp -dsimp [Blk.bnd] at d0
  clear hk hs
  refine ALoopU.enter ?_
  repeat (first | refine chk.ga ?_ | simp -dsimp)
  refine abr.split (fun h2 => ?_) (fun h2 => ?_)
  ·have q3 : (i < a.length) := auq h2
   have z4 : ((i : Int) < (a.length : Int)) := auz
   rw [if_pos q3] at hF
   have hF := ob hF; obtain ⟨x, e5, hF⟩ := hF
   have le5 := lt_of_get e5
   repeat (first | refine chk.ga ?_ | simp -dsimp [h2, z4, ↓e5])
   have hF := ob hF; obtain ⟨v, e6, hF⟩ := hF
   refine ((C.laws_toCtor B hB1 hB2 x v e6)).goW (by first | simp [h2, z4, ↓e5]; done | simp_all) (by simp) ?_
   have hF := ob hF; obtain ⟨x7, e8, hF⟩ := hF
   have le8 := lt_of_get e8
   have w9 : IntKind.i64.wrap ((i : Int) + 1) = (i : Int) + 1 := wrap_in (by omega) (by omega)
   repeat (first | refine chk.ga ?_ | simp -dsimp [h2, z4, ↓e5, ↓e8, w9])
   refine Again.go _ ?_ ((ih_laws_toCtorS_l1 (out.set i v) (i + 1) o hF) _ rfl _ hq)
   exact (Gh.to3 (by simp) (by first | simp -dsimp [h2, z4, ↓e5, ↓e8, w9]; done | simp_all))
  ·have q3 : ¬ (i < a.length) := auq h2
   have z4 : ¬ ((i : Int) < (a.length : Int)) := auz
   rw [if_neg q3] at hF
   cases hF
   repeat (first | refine chk.ga ?_ | simp -dsimp [h2, q3, z4])
   refine Leave.go ⟨[(3, .own 0 (List.length (α := Vl.Ctor) out))], [.elems 3 (List.map Vl.Ctor.c out)]⟩ (Gh.to3 (by simp) (by first | simp -dsimp [h2, q3, z4]; done | simp_all)) ?_
   exact hq

theorem C.laws_toCtorS (a : List Vl.Ctor) (r : List Vl.Ctor) (hF : F.laws_toCtorS a = some r) : PureCall Tryz.prog B 52 [.arr (List.map Vl.Ctor.c a)] (.arr (List.map Vl.Ctor.c r)) := by
 unfold F.laws_toCtorS at hF
 refine PureCall.enterLe Tryz.func52 (by kernel_rfl) rfl Tryz.ntmps52 (by simp) (by simp) ?_
 have hF := oc hF; obtain ⟨c1, hF⟩ := hF
 repeat (first | refine chk.ga ?_ | simp -dsimp)
 have hF := ob hF; obtain ⟨o', ho10, hF⟩ := hF
 refine ALoop.goU _ ?_ (((CC.laws_toCtorS_l1 B hB1 hB2 a) (List.replicate a.length Vl.Ctor.z) 0 o' ho10) _ rfl _ ?_)
 ·exact (Gh.to3 (by simp) (by simp -dsimp))
 cases hF
 repeat (first | refine chk.ga ?_ | simp -dsimp)
 all_goals (try first | omega | rfl)

theorem C.laws_toData (a : Vl.Data) (r : Vl.Data) (hF : F.laws_toData a = some r) : PureCall Tryz.prog B 29 [.agg [.lit (.string a.name), .arr (List.map Vl.Ctor.c a.ctors)]] (.agg [.lit (.string r.name), .arr (List.map Vl.Ctor.c r.ctors)]) := by
 unfold F.laws_toData at hF
 refine PureCall.enterLe Tryz.func29 (by kernel_rfl) rfl Tryz.ntmps29 (by simp) (by simp) ?_
 repeat (first | refine chk.ga ?_ | simp -dsimp)
 have hF := ob hF; obtain ⟨v, e1, hF⟩ := hF
 refine ((C.laws_toCtorS B hB1 hB2 a.ctors v e1)).goW (by simp) (by simp) ?_
 cases hF
 repeat (first | refine chk.ga ?_ | simp -dsimp)
 all_goals (try first | omega | rfl)

theorem CC.laws_toDataS_l1 (a : List Vl.Data) : (∀ (out : List Vl.Data) (i : Nat) (o : List Vl.Data), F.laws_toDataS_l1 a out i = some o → ∀ (c : Code), navO [1, 1, 0, 1, 0, 0] (bodyOf Tryz.f10) = some c → ∀ (Q : Exit → ASt → Prop), (Q (.exit 0) ⟨[(3, .own 0 (List.length (α := Vl.Data) o))], [.elems 2 (List.map Vl.Data.c o)]⟩) → ALoopU Tryz.prog B 0 23 (hold c .mk) ⟨[(0, .arr (List.map Vl.Data.c a)), (3, .own 0 (List.length (α := Vl.Data) out)), (4, .lit (.int .i64 (i : Int)))], [.elems 2 (List.map Vl.Data.c out)]⟩ (hold Q .mk)) := by
 refine F.laws_toDataS_l1.partial_correctness a
  _
  ?_
 ·intro _f_laws_toDataS_l1 ih_laws_toDataS_l1 out i o hF
  intro c hc Q hq
  obtain rfl : c = _ := navEq hc rfl
  refine ALoopU.know fun hk hs => ?_
  have b0 := hk 0
  simp -dsimp at b0
  have d0 := hs 0 _ rfl
  simp -dsimp [Blk.bnd] at d0
  clear hk hs
  refine ALoopU.enter ?_
  repeat (first | refine chk.ga ?_ | simp -dsimp)
  refine abr.split (fun h2 => ?_) (fun h2 => ?_)
  ·have q3 : (i < a.length) := auq h2
   have z4 : ((i : Int) < (a.length : Int)) := auz
   rw [if_pos q3] at hF
   have hF := ob hF; obtain ⟨x, e5, hF⟩ := hF
   have le5 := lt_of_get e5
   repeat (first | refine chk.ga ?_ | simp -dsimp [h2, z4, ↓e5])
   have hF := ob hF; obtain ⟨v, e6, hF⟩ := hF
   refine ((C.laws_toData B hB1 hB2 x v e6)).goW (by first | simp [h2, z4, ↓e5]; done | simp_all) (by simp) ?_
   have hF := ob hF; obtain ⟨x7, e8, hF⟩ := hF
   have le8 := lt_of_get e8
   have w9 : IntKind.i64.wrap ((i : Int) + 1) = (i : Int) + 1 := wrap_in (by omega) (by omega)
   repeat (first | refine chk.ga ?_ | simp -dsimp [h2, z4, ↓e5, ↓e8, w9])
   refine Again.go _ ?_ ((ih_laws_toDataS_l1 (out.set i v) (i + 1) o hF) _ rfl _ hq)
   exact (Gh.to3 (by simp) (by first | simp -dsimp [h2, z4, ↓e5, ↓e8, w9]; done | simp_all))
  ·have q3 : ¬ (i < a.length) := auq h2
   have z4 : ¬ ((i : Int) < (a.length : Int)) := auz
   rw [if_neg q3] at hF
   cases hF
   repeat (first | refine chk.ga ?_ | simp -dsimp [h2, q3, z4])
   refine Leave.go ⟨[(3, .own 0 (List.length (α := Vl.Data) out))], [.elems 2 (List.map Vl.Data.c out)]⟩ (Gh.to3 (by simp) (by first | simp -dsimp [h2, q3, z4]; done | simp_all)) ?_
   exact hq

theorem C.laws_toDataS (a : List Vl.Data) (r : List Vl.Data) (hF : F.laws_toDataS a = some r) : PureCall Tryz.prog B 10 [.arr (List.map Vl.Data.c a)] (.arr (List.map Vl.Data.c r)) := by
 unfold F.laws_toDataS at hF
 refine PureCall.enterLe Tryz.func10 (by kernel_rfl) rfl Tryz.ntmps10 (by simp) (by simp) ?_
 have hF := oc hF; obtain ⟨c1, hF⟩ := hF
 repeat (first | refine chk.ga ?_ | simp -dsimp)
 have hF := ob hF; obtain ⟨o', ho10, hF⟩ := hF
 refine ALoop.goU _ ?_ (((CC.laws_toDataS_l1 B hB1 hB2 a) (List.replicate a.length Vl.Data.z) 0 o' ho10) _ rfl _ ?_)
 ·exact (Gh.to3 (by simp) (by simp -dsimp))
 cases hF
 repeat (first | refine chk.ga ?_ | simp -dsimp)
 all_goals (try first | omega | rfl)

theorem C.laws_toFunType (a : Vl.FunType) (r : Vl.FunType) (hF : F.laws_toFunType a = some r) : PureCall Tryz.prog B 30 [.agg [.lit (.int .i64 a.arg.data), .lit (.int .i64 a.arg.index), .lit (.int .i64 a.res.data), .lit (.int .i64 a.res.index)]] (.agg [.lit (.int .i64 r.arg.data), .lit (.int .i64 r.arg.index), .lit (.int .i64 r.res.data), .lit (.int .i64 r.res.index)]) := by
 unfold F.laws_toFunType at hF
 refine PureCall.enterLe Tryz.func30 (by kernel_rfl) rfl Tryz.ntmps30 (by simp) (by simp) ?_
 repeat (first | refine chk.ga ?_ | simp -dsimp)
 have hF := ob hF; obtain ⟨v, e1, hF⟩ := hF
 refine ((C.laws_toType B hB1 hB2 a.arg v e1)).goW (by simp) (by simp) ?_
 repeat (first | refine chk.ga ?_ | simp -dsimp)
 have hF := ob hF; obtain ⟨v2, e3, hF⟩ := hF
 refine ((C.laws_toType B hB1 hB2 a.res v2 e3)).goW (by simp) (by simp) ?_
 cases hF
 repeat (first | refine chk.ga ?_ | simp -dsimp)
 all_goals (try first | omega | rfl)

theorem CC.laws_toFunTypeS_l1 (a : List Vl.FunType) : (∀ (out : List Vl.FunType) (i : Nat) (o : List Vl.FunType), F.laws_toFunTypeS_l1 a out i = some o → ∀ (c : Code), navO [1, 1, 0, 1, 0, 0] (bodyOf Tryz.f11) = some c → ∀ (Q : Exit → ASt → Prop), (Q (.exit 0) ⟨[(3, .own 0 (List.length (α := Vl.FunType) o))], [.elems 4 (List.map Vl.FunType.c o)]⟩) → ALoopU Tryz.prog B 0 23 (hold c .mk) ⟨[(0, .arr (List.map Vl.FunType.c a)), (3, .own 0 (List.length (α := Vl.FunType) out)), (4, .lit (.int .i64 (i : Int)))], [.elems 4 (List.map Vl.FunType.c out)]⟩ (hold Q .mk)) := by
 refine F.laws_toFunTypeS_l1.partial_correctness a
  _
  ?_
 ·intro _f_laws_toFunTypeS_l1 ih_laws_toFunTypeS_l1 out i o hF
  intro c hc Q hq
  obtain rfl : c = _ := navEq hc rfl
  refine ALoopU.know fun hk hs => ?_
  have b0 := hk 0
  simp -dsimp at b0
  have d0 := hs 0 _ rfl
  simp -dsimp [Blk.bnd] at d0
  clear hk hs
  refine ALoopU.enter ?_
  repeat (first | refine chk.ga ?_ | simp -dsimp)
  refine abr.split (fun h2 => ?_) (fun h2 => ?_)
  ·have q3 : (i < a.length) := auq h2
   have z4 : ((i : Int) < (a.length : Int)) := auz
   rw [if_pos q3] at hF
   have hF := ob hF; obtain ⟨x, e5, hF⟩ := hF
   have le5 := lt_of_get e5
   repeat (first | refine chk.ga ?_ | simp -dsimp [h2, z4, ↓e5])
   have hF := ob hF; obtain ⟨v, e6, hF⟩ := hF
   refine ((C.laws_toFunType B hB1 hB2 x v e6)).goW (by first | simp [h2, z4, ↓e5]; done | simp_all) (by simp) ?_
   have hF := ob hF; obtain ⟨x7, e8, hF⟩ := hF
   have le8 := lt_of_get e8
   have w9 : IntKind.i64.wrap ((i : Int) + 1) = (i : Int) + 1 := wrap_in (by omega) (by omega)
   repeat (first | refine chk.ga ?_ | simp -dsimp [h2, z4, ↓e5, ↓e8, w9])
   refine Again.go _ ?_ ((ih_laws_toFunTypeS_l1 (out.set i v) (i + 1) o hF) _ rfl _ hq)
   exact (Gh.to3 (by simp) (by first | simp -dsimp [h2, z4, ↓e5, ↓e8, w9]; done | simp_all))
  ·have q3 : ¬ (i < a.length) := auq h2
   have z4 : ¬ ((i : Int) < (a.length : Int)) := auz
   rw [if_neg q3] at hF
   cases hF
   repeat (first | refine chk.ga ?_ | simp -dsimp [h2, q3, z4])
   refine Leave.go ⟨[(3, .own 0 (List.length (α := Vl.FunType) out))], [.elems 4 (List.map Vl.FunType.c out)]⟩ (Gh.to3 (by simp) (by first | simp -dsimp [h2, q3, z4]; done | simp_all)) ?_
   exact hq

theorem C.laws_toFunTypeS (a : List Vl.FunType) (r : List Vl.FunType) (hF : F.laws_toFunTypeS a = some r) : PureCall Tryz.prog B 11 [.arr (List.map Vl.FunType.c a)] (.arr (List.map Vl.FunType.c r)) := by
 unfold F.laws_toFunTypeS at hF
 refine PureCall.enterLe Tryz.func11 (by kernel_rfl) rfl Tryz.ntmps11 (by simp) (by simp) ?_
 have hF := oc hF; obtain ⟨c1, hF⟩ := hF
 repeat (first | refine chk.ga ?_ | simp -dsimp)
 have hF := ob hF; obtain ⟨o', ho10, hF⟩ := hF
 refine ALoop.goU _ ?_ (((CC.laws_toFunTypeS_l1 B hB1 hB2 a) (List.replicate a.length Vl.FunType.z) 0 o' ho10) _ rfl _ ?_)
 ·exact (Gh.to3 (by simp) (by simp -dsimp))
 cases hF
 repeat (first | refine chk.ga ?_ | simp -dsimp)
 all_goals (try first | omega | rfl)

theorem C.laws_toVarType (a : Vl.VarType) (r : Vl.VarType) (hF : F.laws_toVarType a = some r) : PureCall Tryz.prog B 31 [.agg [.lit (.int .i64 a.var), .lit (.int .i64 a.type.data), .lit (.int .i64 a.type.index)]] (.agg [.lit (.int .i64 r.var), .lit (.int .i64 r.type.data), .lit (.int .i64 r.type.index)]) := by
 unfold F.laws_toVarType at hF
 refine PureCall.enterLe Tryz.func31 (by kernel_rfl) rfl Tryz.ntmps31 (by simp) (by simp) ?_
 repeat (first | refine chk.ga ?_ | simp -dsimp)
 have hF := ob hF; obtain ⟨v, e1, hF⟩ := hF
 refine ((C.laws_toType B hB1 hB2 a.type v e1)).goW (by simp) (by simp) ?_
 cases hF
 repeat (first | refine chk.ga ?_ | simp -dsimp)
 all_goals (try first | omega | rfl)

theorem CC.laws_toVarTypeS_l1 (a : List Vl.VarType) : (∀ (out : List Vl.VarType) (i : Nat) (o : List Vl.VarType), F.laws_toVarTypeS_l1 a out i = some o → ∀ (c : Code), navO [1, 1, 0, 1, 0, 0] (bodyOf Tryz.f12) = some c → ∀ (Q : Exit → ASt → Prop), (Q (.exit 0) ⟨[(3, .own 0 (List.length (α := Vl.VarType) o))], [.elems 3 (List.map Vl.VarType.c o)]⟩) → ALoopU Tryz.prog B 0 23 (hold c .mk) ⟨[(0, .arr (List.map Vl.VarType.c a)), (3, .own 0 (List.length (α := Vl.VarType) out)), (4, .lit (.int .i64 (i : Int)))], [.elems 3 (List.map Vl.VarType.c out)]⟩ (hold Q .mk)) := by
 refine F.laws_toVarTypeS_l1.partial_correctness a
  _
  ?_
 ·intro _f_laws_toVarTypeS_l1 ih_laws_toVarTypeS_l1 out i o hF
  intro c hc Q hq
  obtain rfl : c = _ := navEq hc rfl
  refine ALoopU.know fun hk hs => ?_
  have b0 := hk 0
  simp -dsimp at b0
  have d0 := hs 0 _ rfl
  simp -dsimp [Blk.bnd] at d0
  clear hk hs
  refine ALoopU.enter ?_
  repeat (first | refine chk.ga ?_ | simp -dsimp)
  refine abr.split (fun h2 => ?_) (fun h2 => ?_)
  ·have q3 : (i < a.length) := auq h2
   have z4 : ((i : Int) < (a.length : Int)) := auz
   rw [if_pos q3] at hF
   have hF := ob hF; obtain ⟨x, e5, hF⟩ := hF
   have le5 := lt_of_get e5
   repeat (first | refine chk.ga ?_ | simp -dsimp [h2, z4, ↓e5])
   have hF := ob hF; obtain ⟨v, e6, hF⟩ := hF
   refine ((C.laws_toVarType B hB1 hB2 x v e6)).goW (by first | simp [h2, z4, ↓e5]; done | simp_all) (by simp) ?_
   have hF := ob hF; obtain ⟨x7, e8, hF⟩ := hF
   have le8 := lt_of_get e8
   have w9 : IntKind.i64.wrap ((i : Int) + 1) = (i : Int) + 1 := wrap_in (by omega) (by omega)
   repeat (first | refine chk.ga ?_ | simp -dsimp [h2, z4, ↓e5, ↓e8, w9])
   refine Again.go _ ?_ ((ih_laws_toVarTypeS_l1 (out.set i v) (i + 1) o hF) _ rfl _ hq)
   exact (Gh.to3 (by simp) (by first | simp -dsimp [h2, z4, ↓e5, ↓e8, w9]; done | simp_all))
  ·have q3 : ¬ (i < a.length) := auq h2
   have z4 : ¬ ((i : Int) < (a.length : Int)) := auz
   rw [if_neg q3] at hF
   cases hF
   repeat (first | refine chk.ga ?_ | simp -dsimp [h2, q3, z4])
   refine Leave.go ⟨[(3, .own 0 (List.length (α := Vl.VarType) out))], [.elems 3 (List.map Vl.VarType.c out)]⟩ (Gh.to3 (by simp) (by first | simp -dsimp [h2, q3, z4]; done | simp_all)) ?_
   exact hq

theorem C.laws_toVarTypeS (a : List Vl.VarType) (r : List Vl.VarType) (hF : F.laws_toVarTypeS a = some r) : PureCall Tryz.prog B 12 [.arr (List.map Vl.VarType.c a)] (.arr (List.map Vl.VarType.c r)) := by
 unfold F.laws_toVarTypeS at hF
 refine PureCall.enterLe Tryz.func12 (by kernel_rfl) rfl Tryz.ntmps12 (by simp) (by simp) ?_
 have hF := oc hF; obtain ⟨c1, hF⟩ := hF
 repeat (first | refine chk.ga ?_ | simp -dsimp)
 have hF := ob hF; obtain ⟨o', ho10, hF⟩ := hF
 refine ALoop.goU _ ?_ (((CC.laws_toVarTypeS_l1 B hB1 hB2 a) (List.replicate a.length Vl.VarType.z) 0 o' ho10) _ rfl _ ?_)
 ·exact (Gh.to3 (by simp) (by simp -dsimp))
 cases hF
 repeat (first | refine chk.ga ?_ | simp -dsimp)
 all_goals (try first | omega | rfl)

theorem CC.laws_toExpr  : (∀ (a : Vl.Expr) (r : Vl.Expr), F.laws_toExpr a = some r → PureCall Tryz.prog B 14 [.agg [.lit (.int .i64 a.op), .lit (.int .i64 a.n), .lit (.int .i64 a.ctor), .arr (List.map Vl.Expr.c a.kids)]] (.agg [.lit (.int .i64 r.op), .lit (.int .i64 r.n), .lit (.int .i64 r.ctor), .arr (List.map Vl.Expr.c r.kids)])) ∧
  (∀ (a : List Vl.Expr) (r : List Vl.Expr), F.laws_toExprS a = some r → PureCall Tryz.prog B 32 [.arr (List.map Vl.Expr.c a)] (.arr (List.map Vl.Expr.c r))) ∧
  (∀ (a : List Vl.Expr) (out : List Vl.Expr) (i : Nat) (o : List Vl.Expr), F.laws_toExprS_l1 a out i = some o → ∀ (c : Code), navO [1, 1, 0, 1, 0, 0] (bodyOf Tryz.f32) = some c → ∀ (Q : Exit → ASt → Prop), (Q (.exit 0) ⟨[(3, .own 0 (List.length (α := Vl.Expr) o))], [.elems 4 (List.map Vl.Expr.c o)]⟩) → ALoopU Tryz.prog B 0 23 (hold c .mk) ⟨[(0, .arr (List.map Vl.Expr.c a)), (3, .own 0 (List.length (α := Vl.Expr) out)), (4, .lit (.int .i64 (i : Int)))], [.elems 4 (List.map Vl.Expr.c out)]⟩ (hold Q .mk)) := by
 refine F.laws_toExpr.mutual_partial_correctness 
  _ _ _
  ?_ ?_ ?_
 ·intro _f_laws_toExprS ih_laws_toExprS a r hF
  refine PureCall.enterLe Tryz.func14 (by kernel_rfl) rfl Tryz.ntmps14 (by simp) (by simp) ?_
  repeat (first | refine chk.ga ?_ | simp -dsimp)
  have hF := ob hF; obtain ⟨v, e1, hF⟩ := hF
  refine ((ih_laws_toExprS a.kids v e1)).goW (by simp) (by simp) ?_
  cases hF
  repeat (first | refine chk.ga ?_ | simp -dsimp)
  all_goals (try first | omega | rfl)
 ·intro _f_laws_toExprS_l1 ih_laws_toExprS_l1 a r hF
  refine PureCall.enterLe Tryz.func32 (by kernel_rfl) rfl Tryz.ntmps32 (by simp) (by simp) ?_
  have hF := oc hF; obtain ⟨c1, hF⟩ := hF
  repeat (first | refine chk.ga ?_ | simp -dsimp)
  have hF := ob hF; obtain ⟨o', ho10, hF⟩ := hF
  refine ALoop.goU _ ?_ ((ih_laws_toExprS_l1 a (List.replicate a.length Vl.Expr.z) 0 o' ho10) _ rfl _ ?_)
  ·exact (Gh.to3 (by simp) (by simp -dsimp))
  cases hF
  repeat (first | refine chk.ga ?_ | simp -dsimp)
  all_goals (try first | omega | rfl)
 ·intro _f_laws_toExpr _f_laws_toExprS_l1 ih_laws_toExpr ih_laws_toExprS_l1 a out i o hF
  intro c hc Q hq
  obtain rfl : c = _ := navEq hc rfl
  refine ALoopU.know fun hk hs => ?_
  have b0 := hk 0
  simp -dsimp at b0
  have d0 := hs 0 _ rfl
  simp -dsimp [Blk.bnd] at d0
  clear hk hs
  refine ALoopU.enter ?_
  repeat (first | refine chk.ga ?_ | simp -dsimp)
  refine abr.split (fun h2 => ?_) (fun h2 => ?_)
  ·have q3 : (i < a.length) := auq h2
   have z4 : ((i : Int) < (a.length : Int)) := auz
   rw [if_pos q3] at hF
   have hF := ob hF; obtain ⟨x, e5, hF⟩ := hF
   have le5 := lt_of_get e5
   repeat (first | refine chk.ga ?_ | simp -dsimp [h2, z4, ↓e5])
   have hF := ob hF; obtain ⟨v, e6, hF⟩ := hF
   refine ((ih_laws_toExpr x v e6)).goW (by first | simp [h2, z4, ↓e5]; done | simp_all) (by simp) ?_
   have hF := ob hF; obtain ⟨x7, e8, hF⟩ := hF
   have le8 := lt_of_get e8
   have w9 : IntKind.i64.wrap ((i : Int) + 1) = (i : Int) + 1 := wrap_in (by omega) (by omega)
   repeat (first | refine chk.ga ?_ | simp -dsimp [h2, z4, ↓e5, ↓e8, w9])
   refine Again.go _ ?_ ((ih_laws_toExprS_l1 a (out.set i v) (i + 1) o hF) _ rfl _ hq)
   exact (Gh.to3 (by simp) (by first | simp -dsimp [h2, z4, ↓e5, ↓e8, w9]; done | simp_all))
  ·have q3 : ¬ (i < a.length) := auq h2
   have z4 : ¬ ((i : Int) < (a.length : Int)) := auz
   rw [if_neg q3] at hF
   cases hF
   repeat (first | refine chk.ga ?_ | simp -dsimp [h2, q3, z4])
   refine Leave.go ⟨[(3, .own 0 (List.length (α := Vl.Expr) out))], [.elems 4 (List.map Vl.Expr.c out)]⟩ (Gh.to3 (by simp) (by first | simp -dsimp [h2, q3, z4]; done | simp_all)) ?_
   exact hq

theorem C.spec_l1Big (c' : Int) (r : Bool) (hF : F.spec_l1Big c' = some r) : PureCall Tryz.prog B 149 [.lit (.int .u8 c')] (.lit (.bool r)) := by
 unfold F.spec_l1Big at hF
 refine PureCall.enterLe Tryz.func149 (by kernel_rfl) rfl Tryz.ntmps149 (by simp) (by simp) ?_
 repeat (first | refine chk.ga ?_ | simp -dsimp)
 refine abr.split (fun h1 => ?_) (fun h1 => ?_)
 ·have q2 : (65 ≤ c') := auq h1
  rw [if_pos q2] at hF
  cases hF
  repeat (first | refine chk.ga ?_ | simp -dsimp [h1])
  all_goals (try first | omega | rfl)
 ·have q2 : ¬ (65 ≤ c') := auq h1
  rw [if_neg q2] at hF
  cases hF
  repeat (first | refine chk.ga ?_ | simp -dsimp [h1, q2])
  all_goals (try first | omega | rfl)

theorem C.spec_l1Data (s : ByteArray) (r : Bool) (hF : F.spec_l1Data s = some r) : PureCall Tryz.prog B 125 [.lit (.string s)] (.lit (.bool r)) := by
 unfold F.spec_l1Data at hF
 refine PureCall.enterLe Tryz.func125 (by kernel_rfl) rfl Tryz.ntmps125 (by simp) (by simp) ?_
 repeat (first | refine chk.ga ?_ | simp -dsimp)
 refine abr.split (fun h1 => ?_) (fun h1 => ?_)
 ·have q2 : (s.size = 1) := auq h1
  have z3 : ((s.size : Int) = (1 : Int)) := auz
  rw [if_pos q2] at hF
  have hF := oc hF; obtain ⟨c4, hF⟩ := hF
  repeat (first | refine chk.ga ?_ | simp -dsimp [h1, z3])
  have hF := ob hF; obtain ⟨v, e5, hF⟩ := hF
  refine ((C.spec_l1Big B hB1 hB2 ((byteAt s 0 : Nat) : Int) v e5)).goW (by first | simp [h1, z3]; done | simp_all) (by simp) ?_
  repeat (first | refine chk.ga ?_ | simp -dsimp [h1, z3])
  refine abr.split (fun h6 => ?_) (fun h6 => ?_)
  ·have q7 : (v = true) := auq h6
   rw [if_pos q7] at hF
   cases hF
   repeat (first | refine chk.ga ?_ | simp -dsimp [h1, z3, h6])
   all_goals (try first | omega | rfl)
  ·have q7 : ¬ (v = true) := auq h6
   rw [if_neg q7] at hF
   cases hF
   repeat (first | refine chk.ga ?_ | simp -dsimp [h1, z3, h6, q7])
   all_goals (try first | omega | rfl)
 ·have q2 : ¬ (s.size = 1) := auq h1
  have z3 : ¬ ((s.size : Int) = (1 : Int)) := auz
  rw [if_neg q2] at hF
  cases hF
  repeat (first | refine chk.ga ?_ | simp -dsimp [h1, q2, z3])
  all_goals (try first | omega | rfl)

theorem CC.spec_NameValid_l1 (s : ByteArray) : (∀ (i : Nat) (o : Lo Bool Unit), F.spec_NameValid_l1 s i = some o → ∀ (c : Code), navO [1, 1, 0, 1, 0, 0] (bodyOf Tryz.f150) = some c → ∀ (Q : Exit → ASt → Prop), o.post (fun r => ∀ st, Post Tryz.prog Tryz.f150 (fun r' _ => r'.le (.lit (.bool r))) .ret st → Q .ret st) (fun s => Q (.exit 0) ⟨[], []⟩) → ALoopU Tryz.prog B 0 34 (hold c .mk) ⟨[(0, .lit (.string s)), (3, .lit (.int .i64 (i : Int)))], []⟩ (hold Q .mk)) := by
 refine F.spec_NameValid_l1.partial_correctness s
  _
  ?_
 ·intro _f_spec_NameValid_l1 ih_spec_NameValid_l1 i o hF
  intro c hc Q hq
  obtain rfl : c = _ := navEq hc rfl
  refine ALoopU.know fun hk hs => ?_
  clear hk hs
  refine ALoopU.enter ?_
  repeat (first | refine chk.ga ?_ | simp -dsimp)
  refine abr.split (fun h11 => ?_) (fun h11 => ?_)
  ·have q12 : (i < s.size) := auq h11
   have z13 : ((i : Int) < (s.size : Int)) := auz
   rw [if_pos q12] at hF
   repeat (first | refine chk.ga ?_ | simp -dsimp [h11, z13])
   refine abr.split (fun h14 => ?_) (fun h14 => ?_)
   ·have q15 : ¬ (byteAt s i < 97) := auq h14
    have z16 : ¬ (((byteAt s i : Nat) : Int) < (97 : Int)) := auz
    rw [if_neg q15] at hF
    repeat (first | refine chk.ga ?_ | simp -dsimp [h11, z13, h14, q15, z16])
    refine abr.split (fun h17 => ?_) (fun h17 => ?_)
    ·have q18 : (122 < byteAt s i) := auq h17
     have z19 : ((122 : Int) < ((byteAt s i : Nat) : Int)) := auz
     rw [if_pos q18] at hF
     cases hF
     repeat (first | refine chk.ga ?_ | simp -dsimp [h11, z13, h14, q15, z16, h17, z19])
     refine Leave.go _ (Gh.refl _) (hq _ ?_)
     repeat (first | refine chk.ga ?_ | simp -dsimp [h11, z13, h14, q15, z16, h17, z19])
    ·have q18 : ¬ (122 < byteAt s i) := auq h17
     have z19 : ¬ ((122 : Int) < ((byteAt s i : Nat) : Int)) := auz
     rw [if_neg q18] at hF
     have hF := oc hF; obtain ⟨c20, hF⟩ := hF
     have w21 : IntKind.i64.wrap ((i : Int) + 1) = (i : Int) + 1 := wrap_in (by omega) (by omega)
     repeat (first | refine chk.ga ?_ | simp -dsimp [h11, z13, h14, q15, z16, h17, q18, z19, w21])
     refine Again.go _ ?_ ((ih_spec_NameValid_l1 (i + 1) o hF) _ rfl _ hq)
     exact (Gh.to3 (by simp) (by first | simp -dsimp [h11, z13, h14, q15, z16, h17, q18, z19, w21]; done | simp_all))
   ·have q15 : (byteAt s i < 97) := auq h14
    have z16 : (((byteAt s i : Nat) : Int) < (97 : Int)) := auz
    rw [if_pos q15] at hF
    cases hF
    repeat (first | refine chk.ga ?_ | simp -dsimp [h11, z13, h14, q15, z16])
    refine Leave.go _ (Gh.refl _) (hq _ ?_)
    repeat (first | refine chk.ga ?_ | simp -dsimp [h11, z13, h14, q15, z16])
  ·have q12 : ¬ (i < s.size) := auq h11
   have z13 : ¬ ((i : Int) < (s.size : Int)) := auz
   rw [if_neg q12] at hF
   cases hF
   repeat (first | refine chk.ga ?_ | simp -dsimp [h11, q12, z13])
   refine Leave.go ⟨[], []⟩ (Gh.to3 (by simp) (by first | simp -dsimp [h11, q12, z13]; done | simp_all)) ?_
   exact hq

theorem C.spec_NameValid (s : ByteArray) (r : Bool) (hF : F.spec_NameValid s = some r) : PureCall Tryz.prog B 150 [.lit (.string s)] (.lit (.bool r)) := by
 unfold F.spec_NameValid at hF
 refine PureCall.enterLe Tryz.func150 (by kernel_rfl) rfl Tryz.ntmps150 (by simp) (by simp) ?_
 repeat (first | refine chk.ga ?_ | simp -dsimp)
 refine abr.split (fun h1 => ?_) (fun h1 => ?_)
 ·have q2 : ¬ (s.size = 0) := auq h1
  have z3 : ¬ ((s.size : Int) = (0 : Int)) := auz
  rw [if_neg q2] at hF
  repeat (first | refine chk.ga ?_ | simp -dsimp [h1, q2, z3])
  refine abr.split (fun h4 => ?_) (fun h4 => ?_)
  ·have q5 : ¬ (5 < s.size) := auq h4
   have z6 : ¬ ((5 : Int) < (s.size : Int)) := auz
   rw [if_neg q5] at hF
   have hF := oc hF; obtain ⟨c7, hF⟩ := hF
   repeat (first | refine chk.ga ?_ | simp -dsimp [h1, q2, z3, h4, q5, z6])
   have hF := ob hF; obtain ⟨v, e8, hF⟩ := hF
   refine ((C.spec_l1Big B hB1 hB2 ((byteAt s 0 : Nat) : Int) v e8)).goW (by first | simp [h1, q2, z3, h4, q5, z6]; done | simp_all) (by simp) ?_
   repeat (first | refine chk.ga ?_ | simp -dsimp [h1, q2, z3, h4, q5, z6])
   refine abr.split (fun h9 => ?_) (fun h9 => ?_)
   ·have q10 : ¬ (v = true) := auq h9
    rw [if_neg q10] at hF
    cases hF
    repeat (first | refine chk.ga ?_ | simp -dsimp [h1, q2, z3, h4, q5, z6, h9, q10])
    all_goals (try first | omega | rfl)
   ·have q10 : (v = true) := auq h9
    rw [if_pos q10] at hF
    repeat (first | refine chk.ga ?_ | simp -dsimp [h1, q2, z3, h4, q5, z6, h9, q10])
    have hF := ob hF; obtain ⟨o', ho22, hF⟩ := hF
    refine ALoop.goU _ ?_ (((CC.spec_NameValid_l1 B hB1 hB2 s) 1 o' ho22) _ rfl _ ?_)
    ·exact (Gh.to3 (by simp) (by first | simp -dsimp [h1, q2, z3, h4, q5, z6, h9, q10]; done | simp_all))
    rcases o' with r0 | sx
    ·dsimp only at hF
     cases hF
     intro st h
     simpa using h
    ·dsimp only at hF
     cases hF
     repeat (first | refine chk.ga ?_ | simp -dsimp)
     all_goals (try first | omega | rfl)
  ·have q5 : (5 < s.size) := auq h4
   have z6 : ((5 : Int) < (s.size : Int)) := auz
   rw [if_pos q5] at hF
   cases hF
   repeat (first | refine chk.ga ?_ | simp -dsimp [h1, q2, z3, h4, q5, z6])
   all_goals (try first | omega | rfl)
 ·have q2 : (s.size = 0) := auq h1
  have z3 : ((s.size : Int) = (0 : Int)) := auz
  rw [if_pos q2] at hF
  cases hF
  repeat (first | refine chk.ga ?_ | simp -dsimp [h1, q2, z3])
  all_goals (try first | omega | rfl)

theorem C.spec_l1Arg (n : Int) (t : Vl.Ty) (r : Bool) (hF : F.spec_l1Arg n t = some r) : PureCall Tryz.prog B 128 [.lit (.int .i64 n), .agg [.lit (.int .i64 t.data), .lit (.int .i64 t.index)]] (.lit (.bool r)) := by
 unfold F.spec_l1Arg at hF
 refine PureCall.enterLe Tryz.func128 (by kernel_rfl) rfl Tryz.ntmps128 (by simp) (by simp) ?_
 repeat (first | refine chk.ga ?_ | simp -dsimp)
 refine abr.split (fun h1 => ?_) (fun h1 => ?_)
 ·have q2 : (t.data = (-1)) := auq h1
  rw [if_pos q2] at hF
  cases hF
  repeat (first | refine chk.ga ?_ | simp -dsimp [h1])
  all_goals (try first | omega | rfl)
 ·have q2 : ¬ (t.data = (-1)) := auq h1
  rw [if_neg q2] at hF
  repeat (first | refine chk.ga ?_ | simp -dsimp [h1, q2])
  refine abr.split (fun h3 => ?_) (fun h3 => ?_)
  ·have q4 : (0 ≤ t.data) := auq h3
   rw [if_pos q4] at hF
   repeat (first | refine chk.ga ?_ | simp -dsimp [h1, q2, h3])
   refine abr.split (fun h5 => ?_) (fun h5 => ?_)
   ·have q6 : (t.data < n) := auq h5
    rw [if_pos q6] at hF
    repeat (first | refine chk.ga ?_ | simp -dsimp [h1, q2, h3, h5])
    refine abr.split (fun h7 => ?_) (fun h7 => ?_)
    ·have q8 : ((-1) ≤ t.index) := auq h7
     rw [if_pos q8] at hF
     cases hF
     repeat (first | refine chk.ga ?_ | simp -dsimp [h1, q2, h3, h5, h7])
     all_goals (try first | omega | rfl)
    ·have q8 : ¬ ((-1) ≤ t.index) := auq h7
     rw [if_neg q8] at hF
     cases hF
     repeat (first | refine chk.ga ?_ | simp -dsimp [h1, q2, h3, h5, h7, q8])
     all_goals (try first | omega | rfl)
   ·have q6 : ¬ (t.data < n) := auq h5
    rw [if_neg q6] at hF
    cases hF
    repeat (first | refine chk.ga ?_ | simp -dsimp [h1, q2, h3, h5, q6])
    all_goals (try first | omega | rfl)
  ·have q4 : ¬ (0 ≤ t.data) := auq h3
   rw [if_neg q4] at hF
   cases hF
   repeat (first | refine chk.ga ?_ | simp -dsimp [h1, q2, h3, q4])
   all_goals (try first | omega | rfl)

theorem CC.spec_l1Ctor_l1 (n : Int) (c' : Vl.Ctor) : (∀ (i : Nat) (o : Lo Bool Unit), F.spec_l1Ctor_l1 n c' i = some o → ∀ (c : Code), navO [1, 1, 0, 1, 0, 0] (bodyOf Tryz.f126) = some c → ∀ (Q : Exit → ASt → Prop), o.post (fun r => ∀ st, Post Tryz.prog Tryz.f126 (fun r' _ => r'.le (.lit (.bool r))) .ret st → Q .ret st) (fun s => Q (.exit 0) ⟨[], []⟩) → ALoopU Tryz.prog B 0 41 (hold c .mk) ⟨[(0, .lit (.int .i64 n)), (3, .ptr 0 0), (5, .lit (.int .i64 (i : Int)))], [.cells [.lit (.string c'.name), .arr (List.map Vl.Ty.c c'.args), .lit (.int .i64 c'.index)]]⟩ (hold Q .mk)) := by
 refine F.spec_l1Ctor_l1.partial_correctness n c'
  _
  ?_
 ·intro _f_spec_l1Ctor_l1 ih_spec_l1Ctor_l1 i o hF
  intro c hc Q hq
  obtain rfl : c = _ := navEq hc rfl
  refine ALoopU.know fun hk hs => ?_
  have d0 := hs 0 _ rfl
  simp -dsimp [Blk.bnd] at d0
  clear hk hs
  refine ALoopU.enter ?_
  repeat (first | refine chk.ga ?_ | simp -dsimp)
  refine abr.split (fun h11 => ?_) (fun h11 => ?_)
  ·have q12 : (i < c'.args.length) := auq h11
   have z13 : ((i : Int) < (c'.args.length : Int)) := auz
   rw [if_pos q12] at hF
   have hF := ob hF; obtain ⟨x, e14, hF⟩ := hF
   have le14 := lt_of_get e14
   repeat (first | refine chk.ga ?_ | simp -dsimp [h11, z13, ↓e14])
   have hF := ob hF; obtain ⟨v15, e16, hF⟩ := hF
   refine ((C.spec_l1Arg B hB1 hB2 n x v15 e16)).goW (by first | simp [h11, z13, ↓e14]; done | simp_all) (by simp) ?_
   repeat (first | refine chk.ga ?_ | simp -dsimp [h11, z13, ↓e14])
   refine abr.split (fun h17 => ?_) (fun h17 => ?_)
   ·have q18 : ¬ (v15 = true) := auq h17
    rw [if_neg q18] at hF
    cases hF
    repeat (first | refine chk.ga ?_ | simp -dsimp [h11, z13, ↓e14, h17, q18])
    refine Leave.go _ (Gh.refl _) (hq _ ?_)
    repeat (first | refine chk.ga ?_ | simp -dsimp [h11, z13, ↓e14, h17, q18])
   ·have q18 : (v15 = true) := auq h17
    rw [if_pos q18] at hF
    have w19 : IntKind.i64.wrap ((i : Int) + 1) = (i : Int) + 1 := wrap_in (by omega) (by omega)
    repeat (first | refine chk.ga ?_ | simp -dsimp [h11, z13, ↓e14, h17, q18, w19])
    refine Again.go _ ?_ ((ih_spec_l1Ctor_l1 (i + 1) o hF) _ rfl _ hq)
    exact (Gh.to3 (by simp) (by first | simp -dsimp [h11, z13, ↓e14, h17, q18, w19]; done | simp_all))
  ·have q12 : ¬ (i < c'.args.length) := auq h11
   have z13 : ¬ ((i : Int) < (c'.args.length : Int)) := auz
   rw [if_neg q12] at hF
   cases hF
   repeat (first | refine chk.ga ?_ | simp -dsimp [h11, q12, z13])
   refine Leave.go ⟨[], []⟩ (Gh.to3 (by simp) (by first | simp -dsimp [h11, q12, z13]; done | simp_all)) ?_
   exact hq

theorem C.spec_l1Ctor (n : Int) (c' : Vl.Ctor) (r : Bool) (hF : F.spec_l1Ctor n c' = some r) : PureCall Tryz.prog B 126 [.lit (.int .i64 n), .agg [.lit (.string c'.name), .arr (List.map Vl.Ty.c c'.args), .lit (.int .i64 c'.index)]] (.lit (.bool r)) := by
 unfold F.spec_l1Ctor at hF
 refine PureCall.enterLe Tryz.func126 (by kernel_rfl) rfl Tryz.ntmps126 (by simp) (by simp) ?_
 repeat (first | refine chk.ga ?_ | simp -dsimp)
 have hF := ob hF; obtain ⟨v, e1, hF⟩ := hF
 refine ((C.spec_NameValid B hB1 hB2 c'.name v e1)).goW (by simp) (by simp) ?_
 repeat (first | refine chk.ga ?_ | simp -dsimp)
 refine abr.split (fun h2 => ?_) (fun h2 => ?_)
 ·have q3 : (v = true) := auq h2
  rw [if_pos q3] at hF
  repeat (first | refine chk.ga ?_ | simp -dsimp [h2])
  refine abr.split (fun h4 => ?_) (fun h4 => ?_)
  ·have q5 : ¬ (3 < c'.args.length) := auq h4
   have z6 : ¬ ((3 : Int) < (c'.args.length : Int)) := auz
   rw [if_neg q5] at hF
   repeat (first | refine chk.ga ?_ | simp -dsimp [h2, h4, q5, z6])
   refine abr.split (fun h7 => ?_) (fun h7 => ?_)
   ·have q8 : ¬ (c'.index < 0) := auq h7
    rw [if_neg q8] at hF
    repeat (first | refine chk.ga ?_ | simp -dsimp [h2, h4, q5, z6, h7, q8])
    refine abr.split (fun h9 => ?_) (fun h9 => ?_)
    ·have q10 : (3 < c'.index) := auq h9
     rw [if_pos q10] at hF
     cases hF
     repeat (first | refine chk.ga ?_ | simp -dsimp [h2, h4, q5, z6, h7, q8, h9])
     all_goals (try first | omega | rfl)
    ·have q10 : ¬ (3 < c'.index) := auq h9
     rw [if_neg q10] at hF
     repeat (first | refine chk.ga ?_ | simp -dsimp [h2, h4, q5, z6, h7, q8, h9, q10])
     have hF := ob hF; obtain ⟨o', ho20, hF⟩ := hF
     refine ALoop.goU _ ?_ (((CC.spec_l1Ctor_l1 B hB1 hB2 n c') 0 o' ho20) _ rfl _ ?_)
     ·exact (Gh.to3 (by simp) (by first | simp -dsimp [h2, h4, q5, z6, h7, q8, h9, q10]; done | simp_all))
     rcases o' with r0 | sx
     ·dsimp only at hF
      cases hF
      intro st h
      simpa using h
     ·dsimp only at hF
      cases hF
      repeat (first | refine chk.ga ?_ | simp -dsimp)
      all_goals (try first | omega | rfl)
   ·have q8 : (c'.index < 0) := auq h7
    rw [if_pos q8] at hF
    cases hF
    repeat (first | refine chk.ga ?_ | simp -dsimp [h2, h4, q5, z6, h7, q8])
    all_goals (try first | omega | rfl)
  ·have q5 : (3 < c'.args.length) := auq h4
   have z6 : ((3 : Int) < (c'.args.length : Int)) := auz
   rw [if_pos q5] at hF
   cases hF
   repeat (first | refine chk.ga ?_ | simp -dsimp [h2, h4, q5, z6])
   all_goals (try first | omega | rfl)
 ·have q3 : ¬ (v = true) := auq h2
  rw [if_neg q3] at hF
  cases hF
  repeat (first | refine chk.ga ?_ | simp -dsimp [h2, q3])
  all_goals (try first | omega | rfl)

theorem CC.spec_l1Twice_l2 (w : List Vl.Data) (d : Int) (k : Int) (i : Nat) : (∀ (j : Nat) (o : Lo Bool Unit), F.spec_l1Twice_l2 w d k i j = some o → ∀ (c : Code), navO [1, 0, 1, 0, 0, 1, 0, 0, 1, 1, 0, 0] (bodyOf Tryz.f127) = some c → ∀ (Q : Exit → ASt → Prop), o.post (fun r => ∀ st, Post Tryz.prog Tryz.f127 (fun r' _ => r'.le (.lit (.bool r))) .ret st → Q .ret st) (fun s => Q (.exit 2) ⟨[(0, .arr (List.map Vl.Data.c w)), (1, .lit (.int .i64 d)), (2, .lit (.int .i64 k)), (7, .lit (.int .i64 (i : Int)))], []⟩) → ALoopU Tryz.prog B 0 79 (hold c .mk) ⟨[(0, .arr (List.map Vl.Data.c w)), (1, .lit (.int .i64 d)), (2, .lit (.int .i64 k)), (7, .lit (.int .i64 (i : Int))), (8, .lit (.int .i64 (j : Int)))], []⟩ (hold Q .mk)) := by
 refine F.spec_l1Twice_l2.partial_correctness w d k i
  _
  ?_
 ·intro _f_spec_l1Twice_l2 ih_spec_l1Twice_l2 j o hF
  intro c hc Q hq
  obtain rfl : c = _ := navEq hc rfl
  refine ALoopU.know fun hk hs => ?_
  have b0 := hk 0
  simp -dsimp at b0
  clear hk hs
  refine ALoopU.enter ?_
  have hF := ob hF; obtain ⟨x10, e11, hF⟩ := hF
  have le11 := lt_of_get e11
  repeat (first | refine chk.ga ?_ | simp -dsimp [↓e11])
  refine abr.split (fun h12 => ?_) (fun h12 => ?_)
  ·have q13 : (j < x10.ctors.length) := auq h12
   have z14 : ((j : Int) < (x10.ctors.length : Int)) := auz
   rw [if_pos q13] at hF
   repeat (first | refine chk.ga ?_ | simp -dsimp [↓e11, h12, z14])
   refine abr.split (fun h15 => ?_) (fun h15 => ?_)
   ·have q16 : ¬ ((i : Int) < d) := auq h15
    rw [if_neg q16] at hF
    repeat (first | refine chk.ga ?_ | simp -dsimp [↓e11, h12, z14, h15, q16])
    refine abr.split (fun h17 => ?_) (fun h17 => ?_)
    ·have q18 : ((j : Int) < k) := auq h17
     rw [if_pos q18] at hF
     repeat (first | refine chk.ga ?_ | simp -dsimp [↓e11, h12, z14, h15, q16, h17])
     refine ADraw.simple follows (by kernel_rfl) (by kernel_rfl) ?_
     have hF := ob hF; obtain ⟨x19, e20a, hF⟩ := hF
     have e20a := at_some e20a; obtain ⟨ne20, e20⟩ := e20a
     have le20 := lt_of_get e20
     repeat (first | refine chk.ga ?_ | simp -dsimp [↓e11, h12, z14, h15, q16, h17, ↓e20])
     refine abr.split (fun h21 => ?_) (fun h21 => ?_)
     ·have q22 : (k < (x19.ctors.length : Int)) := auq h21
      rw [if_pos q22] at hF
      have hF := ob hF; obtain ⟨x23, e24, hF⟩ := hF
      have le24 := lt_of_get e24
      have hF := ob hF; obtain ⟨x25, e26a, hF⟩ := hF
      have e26a := at_some e26a; obtain ⟨ne26, e26⟩ := e26a
      have le26 := lt_of_get e26
      repeat (first | refine chk.ga ?_ | simp -dsimp [↓e11, h12, z14, h15, q16, h17, ↓e20, h21, ↓e24, ↓e26])
      refine abr.split (fun h27 => ?_) (fun h27 => ?_)
      ·have q28 : (x23.name.toList = x25.name.toList) := auq h27
       rw [if_pos q28] at hF
       cases hF
       repeat (first | refine chk.ga ?_ | simp -dsimp [↓e11, h12, z14, h15, q16, h17, ↓e20, h21, ↓e24, ↓e26, h27])
       refine Leave.go _ (Gh.refl _) (hq _ ?_)
       repeat (first | refine chk.ga ?_ | simp -dsimp [↓e11, h12, z14, h15, q16, h17, ↓e20, h21, ↓e24, ↓e26, h27])
      ·have q28 : ¬ (x23.name.toList = x25.name.toList) := auq h27
       rw [if_neg q28] at hF
       have hF := oc hF; obtain ⟨c29, hF⟩ := hF
       have w30 : IntKind.i64.wrap ((j : Int) + 1) = (j : Int) + 1 := wrap_in (by omega) (by omega)
       repeat (first | refine chk.ga ?_ | simp -dsimp [↓e11, h12, z14, h15, q16, h17, ↓e20, h21, ↓e24, ↓e26, h27, q28, w30])
       refine Again.go _ ?_ ((ih_spec_l1Twice_l2 (j + 1) o hF) _ rfl _ hq)
       exact (Gh.to3 (by simp) (by first | simp -dsimp [↓e11, h12, z14, h15, q16, h17, ↓e20, h21, ↓e24, ↓e26, h27, q28, w30]; done | simp_all))
     ·have q22 : ¬ (k < (x19.ctors.length : Int)) := auq h21
      rw [if_neg q22] at hF
      have hF := oc hF; obtain ⟨c31, hF⟩ := hF
      have w32 : IntKind.i64.wrap ((j : Int) + 1) = (j : Int) + 1 := wrap_in (by omega) (by omega)
      repeat (first | refine chk.ga ?_ | simp -dsimp [↓e11, h12, z14, h15, q16, h17, ↓e20, h21, q22, w32])
      refine Again.go _ ?_ ((ih_spec_l1Twice_l2 (j + 1) o hF) _ rfl _ hq)
      exact (Gh.to3 (by simp) (by first | simp -dsimp [↓e11, h12, z14, h15, q16, h17, ↓e20, h21, q22, w32]; done | simp_all))
    ·have q18 : ¬ ((j : Int) < k) := auq h17
     rw [if_neg q18] at hF
     cases hF
     repeat (first | refine chk.ga ?_ | simp -dsimp [↓e11, h12, z14, h15, q16, h17, q18])
     refine Leave.go ⟨[(0, .arr (List.map Vl.Data.c w)), (1, .lit (.int .i64 d)), (2, .lit (.int .i64 k)), (7, .lit (.int .i64 (i : Int)))], []⟩ (Gh.to3 (by simp) (by first | simp -dsimp [↓e11, h12, z14, h15, q16, h17, q18]; done | simp_all)) ?_
     exact hq
   ·have q16 : ((i : Int) < d) := auq h15
    rw [if_pos q16] at hF
    repeat (first | refine chk.ga ?_ | simp -dsimp [↓e11, h12, z14, h15, q16])
    refine ADraw.simple follows (by kernel_rfl) (by kernel_rfl) ?_
    have hF := ob hF; obtain ⟨x33, e34a, hF⟩ := hF
    have e34a := at_some e34a; obtain ⟨ne34, e34⟩ := e34a
    have le34 := lt_of_get e34
    repeat (first | refine chk.ga ?_ | simp -dsimp [↓e11, h12, z14, h15, q16, ↓e34])
    refine abr.split (fun h35 => ?_) (fun h35 => ?_)
    ·have q36 : (k < (x33.ctors.length : Int)) := auq h35
     rw [if_pos q36] at hF
     have hF := ob hF; obtain ⟨x37, e38, hF⟩ := hF
     have le38 := lt_of_get e38
     have hF := ob hF; obtain ⟨x39, e40a, hF⟩ := hF
     have e40a := at_some e40a; obtain ⟨ne40, e40⟩ := e40a
     have le40 := lt_of_get e40
     repeat (first | refine chk.ga ?_ | simp -dsimp [↓e11, h12, z14, h15, q16, ↓e34, h35, ↓e38, ↓e40])
     refine abr.split (fun h41 => ?_) (fun h41 => ?_)
     ·have q42 : (x37.name.toList = x39.name.toList) := auq h41
      rw [if_pos q42] at hF
      cases hF
      repeat (first | refine chk.ga ?_ | simp -dsimp [↓e11, h12, z14, h15, q16, ↓e34, h35, ↓e38, ↓e40, h41])
      refine Leave.go _ (Gh.refl _) (hq _ ?_)
      repeat (first | refine chk.ga ?_ | simp -dsimp [↓e11, h12, z14, h15, q16, ↓e34, h35, ↓e38, ↓e40, h41])
     ·have q42 : ¬ (x37.name.toList = x39.name.toList) := auq h41
      rw [if_neg q42] at hF
      have hF := oc hF; obtain ⟨c43, hF⟩ := hF
      have w44 : IntKind.i64.wrap ((j : Int) + 1) = (j : Int) + 1 := wrap_in (by omega) (by omega)
      repeat (first | refine chk.ga ?_ | simp -dsimp [↓e11, h12, z14, h15, q16, ↓e34, h35, ↓e38, ↓e40, h41, q42, w44])
      refine Again.go _ ?_ ((ih_spec_l1Twice_l2 (j + 1) o hF) _ rfl _ hq)
      exact (Gh.to3 (by simp) (by first | simp -dsimp [↓e11, h12, z14, h15, q16, ↓e34, h35, ↓e38, ↓e40, h41, q42, w44]; done | simp_all))
    ·have q36 : ¬ (k < (x33.ctors.length : Int)) := auq h35
     rw [if_neg q36] at hF
     have hF := oc hF; obtain ⟨c45, hF⟩ := hF
     have w46 : IntKind.i64.wrap ((j : Int) + 1) = (j : Int) + 1 := wrap_in (by omega) (by omega)
     repeat (first | refine chk.ga ?_ | simp -dsimp [↓e11, h12, z14, h15, q16, ↓e34, h35, q36, w46])
     refine Again.go _ ?_ ((ih_spec_l1Twice_l2 (j + 1) o hF) _ rfl _ hq)
     exact (Gh.to3 (by simp) (by first | simp -dsimp [↓e11, h12, z14, h15, q16, ↓e34, h35, q36, w46]; done | simp_all))
  ·have q13 : ¬ (j < x10.ctors.length) := auq h12
   have z14 : ¬ ((j : Int) < (x10.ctors.length : Int)) := auz
   rw [if_neg q13] at hF
   cases hF
   repeat (first | refine chk.ga ?_ | simp -dsimp [↓e11, h12, q13, z14])
   refine Leave.go ⟨[(0, .arr (List.map Vl.Data.c w)), (1, .lit (.int .i64 d)), (2, .lit (.int .i64 k)), (7, .lit (.int .i64 (i : Int)))], []⟩ (Gh.to3 (by simp) (by first | simp -dsimp [↓e11, h12, q13, z14]; done | simp_all)) ?_
   exact hq

theorem CC.spec_l1Twice_l3 (w : List Vl.Data) (d : Int) (k : Int) (i : Nat) : (∀ (j50 : Nat) (o : Lo Bool Unit), F.spec_l1Twice_l3 w d k i j50 = some o → ∀ (c : Code), navO [1, 0, 1, 0, 0, 1, 0, 0, 1, 1, 0, 0] (bodyOf Tryz.f127) = some c → ∀ (Q : Exit → ASt → Prop), o.post (fun r => ∀ st, Post Tryz.prog Tryz.f127 (fun r' _ => r'.le (.lit (.bool r))) .ret st → Q .ret st) (fun s => Q (.exit 2) ⟨[(0, .arr (List.map Vl.Data.c w)), (1, .lit (.int .i64 d)), (2, .lit (.int .i64 k)), (7, .lit (.int .i64 (i : Int)))], []⟩) → ALoopU Tryz.prog B 0 79 (hold c .mk) ⟨[(0, .arr (List.map Vl.Data.c w)), (1, .lit (.int .i64 d)), (2, .lit (.int .i64 k)), (7, .lit (.int .i64 (i : Int))), (8, .lit (.int .i64 (j50 : Int)))], []⟩ (hold Q .mk)) := by
 refine F.spec_l1Twice_l3.partial_correctness w d k i
  _
  ?_
 ·intro _f_spec_l1Twice_l3 ih_spec_l1Twice_l3 j50 o hF
  intro c hc Q hq
  obtain rfl : c = _ := navEq hc rfl
  refine ALoopU.know fun hk hs => ?_
  have b0 := hk 0
  simp -dsimp at b0
  clear hk hs
  refine ALoopU.enter ?_
  have hF := ob hF; obtain ⟨x51, e52, hF⟩ := hF
  have le52 := lt_of_get e52
  repeat (first | refine chk.ga ?_ | simp -dsimp [↓e52])
  refine abr.split (fun h53 => ?_) (fun h53 => ?_)
  ·have q54 : (j50 < x51.ctors.length) := auq h53
   have z55 : ((j50 : Int) < (x51.ctors.length : Int)) := auz
   rw [if_pos q54] at hF
   repeat (first | refine chk.ga ?_ | simp -dsimp [↓e52, h53, z55])
   refine abr.split (fun h56 => ?_) (fun h56 => ?_)
   ·have q57 : ¬ ((i : Int) < d) := auq h56
    rw [if_neg q57] at hF
    repeat (first | refine chk.ga ?_ | simp -dsimp [↓e52, h53, z55, h56, q57])
    refine abr.split (fun h58 => ?_) (fun h58 => ?_)
    ·have q59 : ((j50 : Int) < k) := auq h58
     rw [if_pos q59] at hF
     repeat (first | refine chk.ga ?_ | simp -dsimp [↓e52, h53, z55, h56, q57, h58])
     refine ADraw.simple follows (by kernel_rfl) (by kernel_rfl) ?_
     have hF := ob hF; obtain ⟨x60, e61a, hF⟩ := hF
     have e61a := at_some e61a; obtain ⟨ne61, e61⟩ := e61a
     have le61 := lt_of_get e61
     repeat (first | refine chk.ga ?_ | simp -dsimp [↓e52, h53, z55, h56, q57, h58, ↓e61])
     refine abr.split (fun h62 => ?_) (fun h62 => ?_)
     ·have q63 : (k < (x60.ctors.length : Int)) := auq h62
      rw [if_pos q63] at hF
      have hF := ob hF; obtain ⟨x64, e65, hF⟩ := hF
      have le65 := lt_of_get e65
      have hF := ob hF; obtain ⟨x66, e67a, hF⟩ := hF
      have e67a := at_some e67a; obtain ⟨ne67, e67⟩ := e67a
      have le67 := lt_of_get e67
      repeat (first | refine chk.ga ?_ | simp -dsimp [↓e52, h53, z55, h56, q57, h58, ↓e61, h62, ↓e65, ↓e67])
      refine abr.split (fun h68 => ?_) (fun h68 => ?_)
      ·have q69 : (x64.name.toList = x66.name.toList) := auq h68
       rw [if_pos q69] at hF
       cases hF
       repeat (first | refine chk.ga ?_ | simp -dsimp [↓e52, h53, z55, h56, q57, h58, ↓e61, h62, ↓e65, ↓e67, h68])
       refine Leave.go _ (Gh.refl _) (hq _ ?_)
       repeat (first | refine chk.ga ?_ | simp -dsimp [↓e52, h53, z55, h56, q57, h58, ↓e61, h62, ↓e65, ↓e67, h68])
      ·have q69 : ¬ (x64.name.toList = x66.name.toList) := auq h68
       rw [if_neg q69] at hF
       have hF := oc hF; obtain ⟨c70, hF⟩ := hF
       have w71 : IntKind.i64.wrap ((j50 : Int) + 1) = (j50 : Int) + 1 := wrap_in (by omega) (by omega)
       repeat (first | refine chk.ga ?_ | simp -dsimp [↓e52, h53, z55, h56, q57, h58, ↓e61, h62, ↓e65, ↓e67, h68, q69, w71])
       refine Again.go _ ?_ ((ih_spec_l1Twice_l3 (j50 + 1) o hF) _ rfl _ hq)
       exact (Gh.to3 (by simp) (by first | simp -dsimp [↓e52, h53, z55, h56, q57, h58, ↓e61, h62, ↓e65, ↓e67, h68, q69, w71]; done | simp_all))
     ·have q63 : ¬ (k < (x60.ctors.length : Int)) := auq h62
      rw [if_neg q63] at hF
      have hF := oc hF; obtain ⟨c72, hF⟩ := hF
      have w73 : IntKind.i64.wrap ((j50 : Int) + 1) = (j50 : Int) + 1 := wrap_in (by omega) (by omega)
      repeat (first | refine chk.ga ?_ | simp -dsimp [↓e52, h53, z55, h56, q57, h58, ↓e61, h62, q63, w73])
      refine Again.go _ ?_ ((ih_spec_l1Twice_l3 (j50 + 1) o hF) _ rfl _ hq)
      exact (Gh.to3 (by simp) (by first | simp -dsimp [↓e52, h53, z55, h56, q57, h58, ↓e61, h62, q63, w73]; done | simp_all))
    ·have q59 : ¬ ((j50 : Int) < k) := auq h58
     rw [if_neg q59] at hF
     cases hF
     repeat (first | refine chk.ga ?_ | simp -dsimp [↓e52, h53, z55, h56, q57, h58, q59])
     refine Leave.go ⟨[(0, .arr (List.map Vl.Data.c w)), (1, .lit (.int .i64 d)), (2, .lit (.int .i64 k)), (7, .lit (.int .i64 (i : Int)))], []⟩ (Gh.to3 (by simp) (by first | simp -dsimp [↓e52, h53, z55, h56, q57, h58, q59]; done | simp_all)) ?_
     exact hq
   ·have q57 : ((i : Int) < d) := auq h56
    rw [if_pos q57] at hF
    repeat (first | refine chk.ga ?_ | simp -dsimp [↓e52, h53, z55, h56, q57])
    refine ADraw.simple follows (by kernel_rfl) (by kernel_rfl) ?_
    have hF := ob hF; obtain ⟨x74, e75a, hF⟩ := hF
    have e75a := at_some e75a; obtain ⟨ne75, e75⟩ := e75a
    have le75 := lt_of_get e75
    repeat (first | refine chk.ga ?_ | simp -dsimp [↓e52, h53, z55, h56, q57, ↓e75])
    refine abr.split (fun h76 => ?_) (fun h76 => ?_)
    ·have q77 : (k < (x74.ctors.length : Int)) := auq h76
     rw [if_pos q77] at hF
     have hF := ob hF; obtain ⟨x78, e79, hF⟩ := hF
     have le79 := lt_of_get e79
     have hF := ob hF; obtain ⟨x80, e81a, hF⟩ := hF
     have e81a := at_some e81a; obtain ⟨ne81, e81⟩ := e81a
     have le81 := lt_of_get e81
     repeat (first | refine chk.ga ?_ | simp -dsimp [↓e52, h53, z55, h56, q57, ↓e75, h76, ↓e79, ↓e81])
     refine abr.split (fun h82 => ?_) (fun h82 => ?_)
     ·have q83 : (x78.name.toList = x80.name.toList) := auq h82
      rw [if_pos q83] at hF
      cases hF
      repeat (first | refine chk.ga ?_ | simp -dsimp [↓e52, h53, z55, h56, q57, ↓e75, h76, ↓e79, ↓e81, h82])
      refine Leave.go _ (Gh.refl _) (hq _ ?_)
      repeat (first | refine chk.ga ?_ | simp -dsimp [↓e52, h53, z55, h56, q57, ↓e75, h76, ↓e79, ↓e81, h82])
     ·have q83 : ¬ (x78.name.toList = x80.name.toList) := auq h82
      rw [if_neg q83] at hF
      have hF := oc hF; obtain ⟨c84, hF⟩ := hF
      have w85 : IntKind.i64.wrap ((j50 : Int) + 1) = (j50 : Int) + 1 := wrap_in (by omega) (by omega)
      repeat (first | refine chk.ga ?_ | simp -dsimp [↓e52, h53, z55, h56, q57, ↓e75, h76, ↓e79, ↓e81, h82, q83, w85])
      refine Again.go _ ?_ ((ih_spec_l1Twice_l3 (j50 + 1) o hF) _ rfl _ hq)
      exact (Gh.to3 (by simp) (by first | simp -dsimp [↓e52, h53, z55, h56, q57, ↓e75, h76, ↓e79, ↓e81, h82, q83, w85]; done | simp_all))
    ·have q77 : ¬ (k < (x74.ctors.length : Int)) := auq h76
     rw [if_neg q77] at hF
     have hF := oc hF; obtain ⟨c86, hF⟩ := hF
     have w87 : IntKind.i64.wrap ((j50 : Int) + 1) = (j50 : Int) + 1 := wrap_in (by omega) (by omega)
     repeat (first | refine chk.ga ?_ | simp -dsimp [↓e52, h53, z55, h56, q57, ↓e75, h76, q77, w87])
     refine Again.go _ ?_ ((ih_spec_l1Twice_l3 (j50 + 1) o hF) _ rfl _ hq)
     exact (Gh.to3 (by simp) (by first | simp -dsimp [↓e52, h53, z55, h56, q57, ↓e75, h76, q77, w87]; done | simp_all))
  ·have q54 : ¬ (j50 < x51.ctors.length) := auq h53
   have z55 : ¬ ((j50 : Int) < (x51.ctors.length : Int)) := auz
   rw [if_neg q54] at hF
   cases hF
   repeat (first | refine chk.ga ?_ | simp -dsimp [↓e52, h53, q54, z55])
   refine Leave.go ⟨[(0, .arr (List.map Vl.Data.c w)), (1, .lit (.int .i64 d)), (2, .lit (.int .i64 k)), (7, .lit (.int .i64 (i : Int)))], []⟩ (Gh.to3 (by simp) (by first | simp -dsimp [↓e52, h53, q54, z55]; done | simp_all)) ?_
   exact hq

theorem CC.spec_l1Twice_l1 (w : List Vl.Data) (d : Int) (k : Int) : (∀ (i : Nat) (o : Lo Bool Unit), F.spec_l1Twice_l1 w d k i = some o → ∀ (c : Code), navO [1, 0, 1, 0, 0] (bodyOf Tryz.f127) = some c → ∀ (Q : Exit → ASt → Prop), o.post (fun r => ∀ st, Post Tryz.prog Tryz.f127 (fun r' _ => r'.le (.lit (.bool r))) .ret st → Q .ret st) (fun s => Q (.exit 0) ⟨[], []⟩) → ALoopU Tryz.prog B 0 79 (hold c .mk) ⟨[(0, .arr (List.map Vl.Data.c w)), (1, .lit (.int .i64 d)), (2, .lit (.int .i64 k)), (7, .lit (.int .i64 (i : Int)))], []⟩ (hold Q .mk)) := by
 refine F.spec_l1Twice_l1.partial_correctness w d k
  _
  ?_
 ·intro _f_spec_l1Twice_l1 ih_spec_l1Twice_l1 i o hF
  intro c hc Q hq
  obtain rfl : c = _ := navEq hc rfl
  refine ALoopU.know fun hk hs => ?_
  have b0 := hk 0
  simp -dsimp at b0
  clear hk hs
  refine ALoopU.enter ?_
  repeat (first | refine chk.ga ?_ | simp -dsimp)
  refine abr.split (fun h1 => ?_) (fun h1 => ?_)
  ·have q2 : ((i : Int) ≤ d) := auq h1
   rw [if_pos q2] at hF
   repeat (first | refine chk.ga ?_ | simp -dsimp [h1])
   refine ADraw.simple follows (by kernel_rfl) (by kernel_rfl) ?_
   repeat (first | refine chk.ga ?_ | simp -dsimp [h1])
   refine abr.split (fun h3 => ?_) (fun h3 => ?_)
   ·have q4 : ((i : Int) < d) := auq h3
    rw [if_pos q4] at hF
    have hF := ob hF; obtain ⟨x, e5, hF⟩ := hF
    have le5 := lt_of_get e5
    have hF := ob hF; obtain ⟨x6, e7a, hF⟩ := hF
    have e7a := at_some e7a; obtain ⟨ne7, e7⟩ := e7a
    have le7 := lt_of_get e7
    repeat (first | refine chk.ga ?_ | simp -dsimp [h1, h3, ↓e5, ↓e7])
    refine abr.split (fun h8 => ?_) (fun h8 => ?_)
    ·have q9 : (x.name.toList = x6.name.toList) := auq h8
     rw [if_pos q9] at hF
     cases hF
     repeat (first | refine chk.ga ?_ | simp -dsimp [h1, h3, ↓e5, ↓e7, h8])
     refine Leave.go _ (Gh.refl _) (hq _ ?_)
     repeat (first | refine chk.ga ?_ | simp -dsimp [h1, h3, ↓e5, ↓e7, h8])
    ·have q9 : ¬ (x.name.toList = x6.name.toList) := auq h8
     rw [if_neg q9] at hF
     repeat (first | refine chk.ga ?_ | simp -dsimp [h1, h3, ↓e5, ↓e7, h8, q9])
     have hF := ob hF; obtain ⟨o', ho47, hF⟩ := hF
     refine ALoop.goU _ ?_ (((CC.spec_l1Twice_l2 B hB1 hB2 w d k i) 0 o' ho47) _ rfl _ ?_)
     ·exact (Gh.to3 (by simp) (by first | simp -dsimp [h1, h3, ↓e5, ↓e7, h8, q9]; done | simp_all))
     rcases o' with r0 | sx
     ·dsimp only at hF
      cases hF
      intro st h
      simp -dsimp
      refine Leave.go st (Gh.refl _) (hq st h)
     ·dsimp only at hF
      have hF := oc hF; obtain ⟨c48, hF⟩ := hF
      have w49 : IntKind.i64.wrap ((i : Int) + 1) = (i : Int) + 1 := wrap_in (by omega) (by omega)
      repeat (first | refine chk.ga ?_ | simp -dsimp [w49])
      refine Again.go _ ?_ ((ih_spec_l1Twice_l1 (i + 1) o hF) _ rfl _ hq)
      exact (Gh.to3 (by simp) (by first | simp -dsimp [w49]; done | simp_all))
   ·have q4 : ¬ ((i : Int) < d) := auq h3
    rw [if_neg q4] at hF
    repeat (first | refine chk.ga ?_ | simp -dsimp [h1, h3, q4])
    have hF := ob hF; obtain ⟨o'89, ho88, hF⟩ := hF
    refine ALoop.goU _ ?_ (((CC.spec_l1Twice_l3 B hB1 hB2 w d k i) 0 o'89 ho88) _ rfl _ ?_)
    ·exact (Gh.to3 (by simp) (by first | simp -dsimp [h1, h3, q4]; done | simp_all))
    rcases o'89 with r093 | sx90
    ·dsimp only at hF
     cases hF
     intro st h
     simp -dsimp
     refine Leave.go st (Gh.refl _) (hq st h)
    ·dsimp only at hF
     have hF := oc hF; obtain ⟨c91, hF⟩ := hF
     have w92 : IntKind.i64.wrap ((i : Int) + 1) = (i : Int) + 1 := wrap_in (by omega) (by omega)
     repeat (first | refine chk.ga ?_ | simp -dsimp [w92])
     refine Again.go _ ?_ ((ih_spec_l1Twice_l1 (i + 1) o hF) _ rfl _ hq)
     exact (Gh.to3 (by simp) (by first | simp -dsimp [w92]; done | simp_all))
  ·have q2 : ¬ ((i : Int) ≤ d) := auq h1
   rw [if_neg q2] at hF
   cases hF
   repeat (first | refine chk.ga ?_ | simp -dsimp [h1, q2])
   refine Leave.go ⟨[], []⟩ (Gh.to3 (by simp) (by first | simp -dsimp [h1, q2]; done | simp_all)) ?_
   exact hq

theorem C.spec_l1Twice (w : List Vl.Data) (d : Int) (k : Int) (r : Bool) (hF : F.spec_l1Twice w d k = some r) : PureCall Tryz.prog B 127 [.arr (List.map Vl.Data.c w), .lit (.int .i64 d), .lit (.int .i64 k)] (.lit (.bool r)) := by
 unfold F.spec_l1Twice at hF
 refine PureCall.enterLe Tryz.func127 (by kernel_rfl) rfl Tryz.ntmps127 (by simp) (by simp) ?_
 repeat (first | refine chk.ga ?_ | simp -dsimp)
 have hF := ob hF; obtain ⟨o'95, ho94, hF⟩ := hF
 refine ALoop.goU _ ?_ (((CC.spec_l1Twice_l1 B hB1 hB2 w d k) 0 o'95 ho94) _ rfl _ ?_)
 ·exact (Gh.to3 (by simp) (by simp -dsimp))
 rcases o'95 with r097 | sx96
 ·dsimp only at hF
  cases hF
  intro st h
  simpa using h
 ·dsimp only at hF
  cases hF
  repeat (first | refine chk.ga ?_ | simp -dsimp)
  all_goals (try first | omega | rfl)

theorem CC.spec_WorldValid_l2 (w : List Vl.Data) (d : Nat) : (∀ (k : Nat) (o : Lo Bool Unit), F.spec_WorldValid_l2 w d k = some o → ∀ (c : Code), navO [1, 1, 0, 1, 0, 0, 1, 0, 0, 1, 1, 0, 0] (bodyOf Tryz.f98) = some c → ∀ (Q : Exit → ASt → Prop), o.post (fun r => ∀ st, Post Tryz.prog Tryz.f98 (fun r' _ => r'.le (.lit (.bool r))) .ret st → Q .ret st) (fun s => Q (.exit 2) ⟨[(0, .arr (List.map Vl.Data.c w)), (3, .lit (.int .i64 (d : Int)))], []⟩) → ALoopU Tryz.prog B 0 67 (hold c .mk) ⟨[(0, .arr (List.map Vl.Data.c w)), (3, .lit (.int .i64 (d : Int))), (4, .lit (.int .i64 (k : Int)))], []⟩ (hold Q .mk)) := by
 refine F.spec_WorldValid_l2.partial_correctness w d
  _
  ?_
 ·intro _f_spec_WorldValid_l2 ih_spec_WorldValid_l2 k o hF
  intro c hc Q hq
  obtain rfl : c = _ := navEq hc rfl
  refine ALoopU.know fun hk hs => ?_
  have b0 := hk 0
  simp -dsimp at b0
  clear hk hs
  refine ALoopU.enter ?_
  have hF := ob hF; obtain ⟨x17, e18, hF⟩ := hF
  have le18 := lt_of_get e18
  repeat (first | refine chk.ga ?_ | simp -dsimp [↓e18])
  refine abr.split (fun h19 => ?_) (fun h19 => ?_)
  ·have q20 : (k < x17.ctors.length) := auq h19
   have z21 : ((k : Int) < (x17.ctors.length : Int)) := auz
   rw [if_pos q20] at hF
   have hF := ob hF; obtain ⟨x22, e23, hF⟩ := hF
   have le23 := lt_of_get e23
   repeat (first | refine chk.ga ?_ | simp -dsimp [↓e18, h19, z21, ↓e23])
   have hF := ob hF; obtain ⟨v24, e25, hF⟩ := hF
   refine ((C.spec_l1Ctor B hB1 hB2 (w.length : Int) x22 v24 e25)).goW (by first | simp [↓e18, h19, z21, ↓e23]; done | simp_all) (by simp) ?_
   repeat (first | refine chk.ga ?_ | simp -dsimp [↓e18, h19, z21, ↓e23])
   refine abr.split (fun h26 => ?_) (fun h26 => ?_)
   ·have q27 : (v24 = true) := auq h26
    rw [if_pos q27] at hF
    repeat (first | refine chk.ga ?_ | simp -dsimp [↓e18, h19, z21, ↓e23, h26])
    have hF := ob hF; obtain ⟨v28, e29, hF⟩ := hF
    refine ((C.spec_l1Twice B hB1 hB2 w (d : Int) (k : Int) v28 e29)).goW (by first | simp [↓e18, h19, z21, ↓e23, h26]; done | simp_all) (by simp) ?_
    repeat (first | refine chk.ga ?_ | simp -dsimp [↓e18, h19, z21, ↓e23, h26])
    refine abr.split (fun h30 => ?_) (fun h30 => ?_)
    ·have q31 : (v28 = true) := auq h30
     rw [if_pos q31] at hF
     cases hF
     repeat (first | refine chk.ga ?_ | simp -dsimp [↓e18, h19, z21, ↓e23, h26, h30])
     refine Leave.go _ (Gh.refl _) (hq _ ?_)
     repeat (first | refine chk.ga ?_ | simp -dsimp [↓e18, h19, z21, ↓e23, h26, h30])
    ·have q31 : ¬ (v28 = true) := auq h30
     rw [if_neg q31] at hF
     have hF := oc hF; obtain ⟨c32, hF⟩ := hF
     have w33 : IntKind.i64.wrap ((k : Int) + 1) = (k : Int) + 1 := wrap_in (by omega) (by omega)
     repeat (first | refine chk.ga ?_ | simp -dsimp [↓e18, h19, z21, ↓e23, h26, h30, q31, w33])
     refine Again.go _ ?_ ((ih_spec_WorldValid_l2 (k + 1) o hF) _ rfl _ hq)
     exact (Gh.to3 (by simp) (by first | simp -dsimp [↓e18, h19, z21, ↓e23, h26, h30, q31, w33]; done | simp_all))
   ·have q27 : ¬ (v24 = true) := auq h26
    rw [if_neg q27] at hF
    cases hF
    repeat (first | refine chk.ga ?_ | simp -dsimp [↓e18, h19, z21, ↓e23, h26, q27])
    refine Leave.go _ (Gh.refl _) (hq _ ?_)
    repeat (first | refine chk.ga ?_ | simp -dsimp [↓e18, h19, z21, ↓e23, h26, q27])
  ·have q20 : ¬ (k < x17.ctors.length) := auq h19
   have z21 : ¬ ((k : Int) < (x17.ctors.length : Int)) := auz
   rw [if_neg q20] at hF
   cases hF
   repeat (first | refine chk.ga ?_ | simp -dsimp [↓e18, h19, q20, z21])
   refine Leave.go ⟨[(0, .arr (List.map Vl.Data.c w)), (3, .lit (.int .i64 (d : Int)))], []⟩ (Gh.to3 (by simp) (by first | simp -dsimp [↓e18, h19, q20, z21]; done | simp_all)) ?_
   exact hq

theorem CC.spec_WorldValid_l1 (w : List Vl.Data) : (∀ (d : Nat) (o : Lo Bool Unit), F.spec_WorldValid_l1 w d = some o → ∀ (c : Code), navO [1, 1, 0, 1, 0, 0] (bodyOf Tryz.f98) = some c → ∀ (Q : Exit → ASt → Prop), o.post (fun r => ∀ st, Post Tryz.prog Tryz.f98 (fun r' _ => r'.le (.lit (.bool r))) .ret st → Q .ret st) (fun s => Q (.exit 0) ⟨[], []⟩) → ALoopU Tryz.prog B 0 67 (hold c .mk) ⟨[(0, .arr (List.map Vl.Data.c w)), (3, .lit (.int .i64 (d : Int)))], []⟩ (hold Q .mk)) := by
 refine F.spec_WorldValid_l1.partial_correctness w
  _
  ?_
 ·intro _f_spec_WorldValid_l1 ih_spec_WorldValid_l1 d o hF
  intro c hc Q hq
  obtain rfl : c = _ := navEq hc rfl
  refine ALoopU.know fun hk hs => ?_
  have b0 := hk 0
  simp -dsimp at b0
  clear hk hs
  refine ALoopU.enter ?_
  repeat (first | refine chk.ga ?_ | simp -dsimp)
  refine abr.split (fun h4 => ?_) (fun h4 => ?_)
  ·have q5 : (d < w.length) := auq h4
   have z6 : ((d : Int) < (w.length : Int)) := auz
   rw [if_pos q5] at hF
   have hF := ob hF; obtain ⟨x, e7, hF⟩ := hF
   have le7 := lt_of_get e7
   repeat (first | refine chk.ga ?_ | simp -dsimp [h4, z6, ↓e7])
   have hF := ob hF; obtain ⟨v, e8, hF⟩ := hF
   refine ((C.spec_l1Data B hB1 hB2 x.name v e8)).goW (by first | simp [h4, z6, ↓e7]; done | simp_all) (by simp) ?_
   repeat (first | refine chk.ga ?_ | simp -dsimp [h4, z6, ↓e7])
   refine abr.split (fun h9 => ?_) (fun h9 => ?_)
   ·have q10 : (v = true) := auq h9
    rw [if_pos q10] at hF
    repeat (first | refine chk.ga ?_ | simp -dsimp [h4, z6, ↓e7, h9])
    refine abr.split (fun h11 => ?_) (fun h11 => ?_)
    ·have q12 : ¬ (x.ctors.length = 0) := auq h11
     have z13 : ¬ ((x.ctors.length : Int) = (0 : Int)) := auz
     rw [if_neg q12] at hF
     repeat (first | refine chk.ga ?_ | simp -dsimp [h4, z6, ↓e7, h9, h11, q12, z13])
     refine abr.split (fun h14 => ?_) (fun h14 => ?_)
     ·have q15 : (4 < x.ctors.length) := auq h14
      have z16 : ((4 : Int) < (x.ctors.length : Int)) := auz
      rw [if_pos q15] at hF
      cases hF
      repeat (first | refine chk.ga ?_ | simp -dsimp [h4, z6, ↓e7, h9, h11, q12, z13, h14, z16])
      refine Leave.go _ (Gh.refl _) (hq _ ?_)
      repeat (first | refine chk.ga ?_ | simp -dsimp [h4, z6, ↓e7, h9, h11, q12, z13, h14, z16])
     ·have q15 : ¬ (4 < x.ctors.length) := auq h14
      have z16 : ¬ ((4 : Int) < (x.ctors.length : Int)) := auz
      rw [if_neg q15] at hF
      repeat (first | refine chk.ga ?_ | simp -dsimp [h4, z6, ↓e7, h9, h11, q12, z13, h14, q15, z16])
      have hF := ob hF; obtain ⟨o', ho34, hF⟩ := hF
      refine ALoop.goU _ ?_ (((CC.spec_WorldValid_l2 B hB1 hB2 w d) 0 o' ho34) _ rfl _ ?_)
      ·exact (Gh.to3 (by simp) (by first | simp -dsimp [h4, z6, ↓e7, h9, h11, q12, z13, h14, q15, z16]; done | simp_all))
      rcases o' with r0 | sx
      ·dsimp only at hF
       cases hF
       intro st h
       simp -dsimp
       refine Leave.go st (Gh.refl _) (hq st h)
      ·dsimp only at hF
       have hF := oc hF; obtain ⟨c35, hF⟩ := hF
       have w36 : IntKind.i64.wrap ((d : Int) + 1) = (d : Int) + 1 := wrap_in (by omega) (by omega)
       repeat (first | refine chk.ga ?_ | simp -dsimp [w36])
       refine Again.go _ ?_ ((ih_spec_WorldValid_l1 (d + 1) o hF) _ rfl _ hq)
       exact (Gh.to3 (by simp) (by first | simp -dsimp [w36]; done | simp_all))
    ·have q12 : (x.ctors.length = 0) := auq h11
     have z13 : ((x.ctors.length : Int) = (0 : Int)) := auz
     rw [if_pos q12] at hF
     cases hF
     repeat (first | refine chk.ga ?_ | simp -dsimp [h4, z6, ↓e7, h9, h11, q12, z13])
     refine Leave.go _ (Gh.refl _) (hq _ ?_)
     repeat (first | refine chk.ga ?_ | simp -dsimp [h4, z6, ↓e7, h9, h11, q12, z13])
   ·have q10 : ¬ (v = true) := auq h9
    rw [if_neg q10] at hF
    cases hF
    repeat (first | refine chk.ga ?_ | simp -dsimp [h4, z6, ↓e7, h9, q10])
    refine Leave.go _ (Gh.refl _) (hq _ ?_)
    repeat (first | refine chk.ga ?_ | simp -dsimp [h4, z6, ↓e7, h9, q10])
  ·have q5 : ¬ (d < w.length) := auq h4
   have z6 : ¬ ((d : Int) < (w.length : Int)) := auz
   rw [if_neg q5] at hF
   cases hF
   repeat (first | refine chk.ga ?_ | simp -dsimp [h4, q5, z6])
   refine Leave.go ⟨[], []⟩ (Gh.to3 (by simp) (by first | simp -dsimp [h4, q5, z6]; done | simp_all)) ?_
   exact hq

theorem C.spec_WorldValid (w : List Vl.Data) (r : Bool) (hF : F.spec_WorldValid w = some r) : PureCall Tryz.prog B 98 [.arr (List.map Vl.Data.c w)] (.lit (.bool r)) := by
 unfold F.spec_WorldValid at hF
 refine PureCall.enterLe Tryz.func98 (by kernel_rfl) rfl Tryz.ntmps98 (by simp) (by simp) ?_
 repeat (first | refine chk.ga ?_ | simp -dsimp)
 refine abr.split (fun h1 => ?_) (fun h1 => ?_)
 ·have q2 : (4 < w.length) := auq h1
  have z3 : ((4 : Int) < (w.length : Int)) := auz
  rw [if_pos q2] at hF
  cases hF
  repeat (first | refine chk.ga ?_ | simp -dsimp [h1, z3])
  all_goals (try first | omega | rfl)
 ·have q2 : ¬ (4 < w.length) := auq h1
  have z3 : ¬ ((4 : Int) < (w.length : Int)) := auz
  rw [if_neg q2] at hF
  repeat (first | refine chk.ga ?_ | simp -dsimp [h1, q2, z3])
  have hF := ob hF; obtain ⟨o'38, ho37, hF⟩ := hF
  refine ALoop.goU _ ?_ (((CC.spec_WorldValid_l1 B hB1 hB2 w) 0 o'38 ho37) _ rfl _ ?_)
  ·exact (Gh.to3 (by simp) (by first | simp -dsimp [h1, q2, z3]; done | simp_all))
  rcases o'38 with r040 | sx39
  ·dsimp only at hF
   cases hF
   intro st h
   simpa using h
  ·dsimp only at hF
   cases hF
   repeat (first | refine chk.ga ?_ | simp -dsimp)
   all_goals (try first | omega | rfl)

theorem C.spec_l1Is (w : List Vl.Data) (t : Vl.Ty) (r : Bool) (hF : F.spec_l1Is w t = some r) : PureCall Tryz.prog B 99 [.arr (List.map Vl.Data.c w), .agg [.lit (.int .i64 t.data), .lit (.int .i64 t.index)]] (.lit (.bool r)) := by
 unfold F.spec_l1Is at hF
 refine PureCall.enterLe Tryz.func99 (by kernel_rfl) rfl Tryz.ntmps99 (by simp) (by simp) ?_
 repeat (first | refine chk.ga ?_ | simp -dsimp)
 have hF := ob hF; obtain ⟨v, e1, hF⟩ := hF
 refine ((C.spec_l1Arg B hB1 hB2 (w.length : Int) t v e1)).goW (by simp) (by simp) ?_
 repeat (first | refine chk.ga ?_ | simp -dsimp)
 refine abr.split (fun h2 => ?_) (fun h2 => ?_)
 ·have q3 : (v = true) := auq h2
  rw [if_pos q3] at hF
  cases hF
  repeat (first | refine chk.ga ?_ | simp -dsimp [h2])
  all_goals (try first | omega | rfl)
 ·have q3 : ¬ (v = true) := auq h2
  rw [if_neg q3] at hF
  cases hF
  repeat (first | refine chk.ga ?_ | simp -dsimp [h2, q3])
  all_goals (try first | omega | rfl)

theorem C.spec_TypeValid (w : List Vl.Data) (t : Vl.Ty) (r : Bool) (hF : F.spec_TypeValid w t = some r) : PureCall Tryz.prog B 63 [.arr (List.map Vl.Data.c w), .agg [.lit (.int .i64 t.data), .lit (.int .i64 t.index)]] (.lit (.bool r)) := by
 unfold F.spec_TypeValid at hF
 refine PureCall.enterLe Tryz.func63 (by kernel_rfl) rfl Tryz.ntmps63 (by simp) (by simp) ?_
 repeat (first | refine chk.ga ?_ | simp -dsimp)
 have hF := ob hF; obtain ⟨v, e1, hF⟩ := hF
 refine ((C.spec_WorldValid B hB1 hB2 w v e1)).goW (by simp) (by simp) ?_
 repeat (first | refine chk.ga ?_ | simp -dsimp)
 refine abr.split (fun h2 => ?_) (fun h2 => ?_)
 ·have q3 : (v = true) := auq h2
  rw [if_pos q3] at hF
  repeat (first | refine chk.ga ?_ | simp -dsimp [h2])
  have hF := ob hF; obtain ⟨v4, e5, hF⟩ := hF
  refine ((C.spec_l1Is B hB1 hB2 w t v4 e5)).goW (by first | simp [h2]; done | simp_all) (by simp) ?_
  cases hF
  repeat (first | refine chk.ga ?_ | simp -dsimp [h2])
  all_goals (try first | omega | rfl)
 ·have q3 : ¬ (v = true) := auq h2
  rw [if_neg q3] at hF
  cases hF
  repeat (first | refine chk.ga ?_ | simp -dsimp [h2, q3])
  all_goals (try first | omega | rfl)

theorem CC.spec_l12Funs_l1 (w : List Vl.Data) (funs : List Vl.FunType) : (∀ (i : Nat) (o : Lo Bool Unit), F.spec_l12Funs_l1 w funs i = some o → ∀ (c : Code), navO [1, 0, 1, 0, 0] (bodyOf Tryz.f77) = some c → ∀ (Q : Exit → ASt → Prop), o.post (fun r => ∀ st, Post Tryz.prog Tryz.f77 (fun r' _ => r'.le (.lit (.bool r))) .ret st → Q .ret st) (fun s => Q (.exit 0) ⟨[(1, .arr (List.map Vl.FunType.c funs))], []⟩) → ALoopU Tryz.prog B 0 37 (hold c .mk) ⟨[(0, .arr (List.map Vl.Data.c w)), (1, .arr (List.map Vl.FunType.c funs)), (5, .lit (.int .i64 (i : Int)))], []⟩ (hold Q .mk)) := by
 refine F.spec_l12Funs_l1.partial_correctness w funs
  _
  ?_
 ·intro _f_spec_l12Funs_l1 ih_spec_l12Funs_l1 i o hF
  intro c hc Q hq
  obtain rfl : c = _ := navEq hc rfl
  refine ALoopU.know fun hk hs => ?_
  have b0 := hk 0
  simp -dsimp at b0
  have b1 := hk 1
  simp -dsimp at b1
  clear hk hs
  refine ALoopU.enter ?_
  repeat (first | refine chk.ga ?_ | simp -dsimp)
  refine abr.split (fun h1 => ?_) (fun h1 => ?_)
  ·have q2 : (i < funs.length) := auq h1
   have z3 : ((i : Int) < (funs.length : Int)) := auz
   rw [if_pos q2] at hF
   repeat (first | refine chk.ga ?_ | simp -dsimp [h1, z3])
   refine abr.split (fun h4 => ?_) (fun h4 => ?_)
   ·have q5 : (i ≤ 4) := auq h4
    have z6 : ((i : Int) ≤ (4 : Int)) := auz
    rw [if_pos q5] at hF
    have hF := ob hF; obtain ⟨x, e7, hF⟩ := hF
    have le7 := lt_of_get e7
    repeat (first | refine chk.ga ?_ | simp -dsimp [h1, z3, h4, z6, ↓e7])
    have hF := ob hF; obtain ⟨v, e8, hF⟩ := hF
    refine ((C.spec_l1Is B hB1 hB2 w x.arg v e8)).goW (by first | simp [h1, z3, h4, z6, ↓e7]; done | simp_all) (by simp) ?_
    repeat (first | refine chk.ga ?_ | simp -dsimp [h1, z3, h4, z6, ↓e7])
    refine abr.split (fun h9 => ?_) (fun h9 => ?_)
    ·have q10 : (v = true) := auq h9
     rw [if_pos q10] at hF
     repeat (first | refine chk.ga ?_ | simp -dsimp [h1, z3, h4, z6, ↓e7, h9])
     have hF := ob hF; obtain ⟨v11, e12, hF⟩ := hF
     refine ((C.spec_l1Is B hB1 hB2 w x.res v11 e12)).goW (by first | simp [h1, z3, h4, z6, ↓e7, h9]; done | simp_all) (by simp) ?_
     repeat (first | refine chk.ga ?_ | simp -dsimp [h1, z3, h4, z6, ↓e7, h9])
     refine abr.split (fun h13 => ?_) (fun h13 => ?_)
     ·have q14 : ¬ (v11 = true) := auq h13
      rw [if_neg q14] at hF
      cases hF
      repeat (first | refine chk.ga ?_ | simp -dsimp [h1, z3, h4, z6, ↓e7, h9, h13, q14])
      refine Leave.go _ (Gh.refl _) (hq _ ?_)
      repeat (first | refine chk.ga ?_ | simp -dsimp [h1, z3, h4, z6, ↓e7, h9, h13, q14])
     ·have q14 : (v11 = true) := auq h13
      rw [if_pos q14] at hF
      have w15 : IntKind.i64.wrap ((i : Int) + 1) = (i : Int) + 1 := wrap_in (by omega) (by omega)
      repeat (first | refine chk.ga ?_ | simp -dsimp [h1, z3, h4, z6, ↓e7, h9, h13, q14, w15])
      refine Again.go _ ?_ ((ih_spec_l12Funs_l1 (i + 1) o hF) _ rfl _ hq)
      exact (Gh.to3 (by simp) (by first | simp -dsimp [h1, z3, h4, z6, ↓e7, h9, h13, q14, w15]; done | simp_all))
    ·have q10 : ¬ (v = true) := auq h9
     rw [if_neg q10] at hF
     cases hF
     repeat (first | refine chk.ga ?_ | simp -dsimp [h1, z3, h4, z6, ↓e7, h9, q10])
     refine Leave.go _ (Gh.refl _) (hq _ ?_)
     repeat (first | refine chk.ga ?_ | simp -dsimp [h1, z3, h4, z6, ↓e7, h9, q10])
   ·have q5 : ¬ (i ≤ 4) := auq h4
    have z6 : ¬ ((i : Int) ≤ (4 : Int)) := auz
    rw [if_neg q5] at hF
    cases hF
    repeat (first | refine chk.ga ?_ | simp -dsimp [h1, z3, h4, q5, z6])
    refine Leave.go ⟨[(1, .arr (List.map Vl.FunType.c funs))], []⟩ (Gh.to3 (by simp) (by first | simp -dsimp [h1, z3, h4, q5, z6]; done | simp_all)) ?_
    exact hq
  ·have q2 : ¬ (i < funs.length) := auq h1
   have z3 : ¬ ((i : Int) < (funs.length : Int)) := auz
   rw [if_neg q2] at hF
   cases hF
   repeat (first | refine chk.ga ?_ | simp -dsimp [h1, q2, z3])
   refine Leave.go ⟨[(1, .arr (List.map Vl.FunType.c funs))], []⟩ (Gh.to3 (by simp) (by first | simp -dsimp [h1, q2, z3]; done | simp_all)) ?_
   exact hq

theorem C.spec_l12Funs (w : List Vl.Data) (funs : List Vl.FunType) (r : Bool) (hF : F.spec_l12Funs w funs = some r) : PureCall Tryz.prog B 77 [.arr (List.map Vl.Data.c w), .arr (List.map Vl.FunType.c funs)] (.lit (.bool r)) := by
 unfold F.spec_l12Funs at hF
 refine PureCall.enterLe Tryz.func77 (by kernel_rfl) rfl Tryz.ntmps77 (by simp) (by simp) ?_
 repeat (first | refine chk.ga ?_ | simp -dsimp)
 have hF := ob hF; obtain ⟨o', ho16, hF⟩ := hF
 refine ALoop.goU _ ?_ (((CC.spec_l12Funs_l1 B hB1 hB2 w funs) 0 o' ho16) _ rfl _ ?_)
 ·exact (Gh.to3 (by simp) (by simp -dsimp))
 rcases o' with r0 | sx
 ·dsimp only at hF
  cases hF
  intro st h
  simpa using h
 ·dsimp only at hF
  cases hF
  repeat (first | refine chk.ga ?_ | simp -dsimp)
  all_goals (try first | omega | rfl)

theorem CC.spec_l3Find_l1 (list : List Vl.VarType) (n : Int) : (∀ (i : Nat) (o : Lo Int Unit), F.spec_l3Find_l1 list n i = some o → ∀ (c : Code), navO [1, 0, 1, 0, 0] (bodyOf Tryz.f115) = some c → ∀ (Q : Exit → ASt → Prop), o.post (fun r => ∀ st, Post Tryz.prog Tryz.f115 (fun r' _ => r'.le (.lit (.int .i64 r))) .ret st → Q .ret st) (fun s => Q (.exit 0) ⟨[], []⟩) → ALoopU Tryz.prog B 0 20 (hold c .mk) ⟨[(0, .arr (List.map Vl.VarType.c list)), (1, .lit (.int .i64 n)), (5, .lit (.int .i64 (i : Int)))], []⟩ (hold Q .mk)) := by
 refine F.spec_l3Find_l1.partial_correctness list n
  _
  ?_
 ·intro _f_spec_l3Find_l1 ih_spec_l3Find_l1 i o hF
  intro c hc Q hq
  obtain rfl : c = _ := navEq hc rfl
  refine ALoopU.know fun hk hs => ?_
  have b0 := hk 0
  simp -dsimp at b0
  clear hk hs
  refine ALoopU.enter ?_
  repeat (first | refine chk.ga ?_ | simp -dsimp)
  refine abr.split (fun h1 => ?_) (fun h1 => ?_)
  ·have q2 : (i < list.length) := auq h1
   have z3 : ((i : Int) < (list.length : Int)) := auz
   rw [if_pos q2] at hF
   have hF := ob hF; obtain ⟨x, e4, hF⟩ := hF
   have le4 := lt_of_get e4
   repeat (first | refine chk.ga ?_ | simp -dsimp [h1, z3, ↓e4])
   refine abr.split (fun h5 => ?_) (fun h5 => ?_)
   ·have q6 : (x.var = n) := auq h5
    rw [if_pos q6] at hF
    cases hF
    repeat (first | refine chk.ga ?_ | simp -dsimp [h1, z3, ↓e4, h5])
    refine Leave.go _ (Gh.refl _) (hq _ ?_)
    repeat (first | refine chk.ga ?_ | simp -dsimp [h1, z3, ↓e4, h5])
   ·have q6 : ¬ (x.var = n) := auq h5
    rw [if_neg q6] at hF
    have w7 : IntKind.i64.wrap ((i : Int) + 1) = (i : Int) + 1 := wrap_in (by omega) (by omega)
    repeat (first | refine chk.ga ?_ | simp -dsimp [h1, z3, ↓e4, h5, q6, w7])
    refine Again.go _ ?_ ((ih_spec_l3Find_l1 (i + 1) o hF) _ rfl _ hq)
    exact (Gh.to3 (by simp) (by first | simp -dsimp [h1, z3, ↓e4, h5, q6, w7]; done | simp_all))
  ·have q2 : ¬ (i < list.length) := auq h1
   have z3 : ¬ ((i : Int) < (list.length : Int)) := auz
   rw [if_neg q2] at hF
   cases hF
   repeat (first | refine chk.ga ?_ | simp -dsimp [h1, q2, z3])
   refine Leave.go ⟨[], []⟩ (Gh.to3 (by simp) (by first | simp -dsimp [h1, q2, z3]; done | simp_all)) ?_
   exact hq

theorem C.spec_l3Find (list : List Vl.VarType) (n : Int) (r : Int) (hF : F.spec_l3Find list n = some r) : PureCall Tryz.prog B 115 [.arr (List.map Vl.VarType.c list), .lit (.int .i64 n)] (.lit (.int .i64 r)) := by
 unfold F.spec_l3Find at hF
 refine PureCall.enterLe Tryz.func115 (by kernel_rfl) rfl Tryz.ntmps115 (by simp) (by simp) ?_
 repeat (first | refine chk.ga ?_ | simp -dsimp)
 have hF := ob hF; obtain ⟨o', ho8, hF⟩ := hF
 refine ALoop.goU _ ?_ (((CC.spec_l3Find_l1 B hB1 hB2 list n) 0 o' ho8) _ rfl _ ?_)
 ·exact (Gh.to3 (by simp) (by simp -dsimp))
 rcases o' with r0 | sx
 ·dsimp only at hF
  cases hF
  intro st h
  simpa using h
 ·dsimp only at hF
  cases hF
  repeat (first | refine chk.ga ?_ | simp -dsimp)
  all_goals (try first | omega | rfl)

theorem CC.spec_l12Vars_l1 (w : List Vl.Data) (vars : List Vl.VarType) : (∀ (i : Nat) (o : Lo Bool Unit), F.spec_l12Vars_l1 w vars i = some o → ∀ (c : Code), navO [1, 0, 1, 0, 0] (bodyOf Tryz.f78) = some c → ∀ (Q : Exit → ASt → Prop), o.post (fun r => ∀ st, Post Tryz.prog Tryz.f78 (fun r' _ => r'.le (.lit (.bool r))) .ret st → Q .ret st) (fun s => Q (.exit 0) ⟨[], []⟩) → ALoopU Tryz.prog B 0 47 (hold c .mk) ⟨[(0, .arr (List.map Vl.Data.c w)), (1, .arr (List.map Vl.VarType.c vars)), (5, .lit (.int .i64 (i : Int)))], []⟩ (hold Q .mk)) := by
 refine F.spec_l12Vars_l1.partial_correctness w vars
  _
  ?_
 ·intro _f_spec_l12Vars_l1 ih_spec_l12Vars_l1 i o hF
  intro c hc Q hq
  obtain rfl : c = _ := navEq hc rfl
  refine ALoopU.know fun hk hs => ?_
  have b0 := hk 0
  simp -dsimp at b0
  have b1 := hk 1
  simp -dsimp at b1
  clear hk hs
  refine ALoopU.enter ?_
  repeat (first | refine chk.ga ?_ | simp -dsimp)
  refine abr.split (fun h1 => ?_) (fun h1 => ?_)
  ·have q2 : (i < vars.length) := auq h1
   have z3 : ((i : Int) < (vars.length : Int)) := auz
   rw [if_pos q2] at hF
   have hF := ob hF; obtain ⟨x, e4, hF⟩ := hF
   have le4 := lt_of_get e4
   repeat (first | refine chk.ga ?_ | simp -dsimp [h1, z3, ↓e4])
   refine abr.split (fun h5 => ?_) (fun h5 => ?_)
   ·have q6 : ¬ (x.var < 0) := auq h5
    rw [if_neg q6] at hF
    repeat (first | refine chk.ga ?_ | simp -dsimp [h1, z3, ↓e4, h5, q6])
    refine abr.split (fun h7 => ?_) (fun h7 => ?_)
    ·have q8 : ¬ (5 < x.var) := auq h7
     rw [if_neg q8] at hF
     repeat (first | refine chk.ga ?_ | simp -dsimp [h1, z3, ↓e4, h5, q6, h7, q8])
     have hF := ob hF; obtain ⟨v, e9, hF⟩ := hF
     refine ((C.spec_l1Is B hB1 hB2 w x.type v e9)).goW (by first | simp [h1, z3, ↓e4, h5, q6, h7, q8]; done | simp_all) (by simp) ?_
     repeat (first | refine chk.ga ?_ | simp -dsimp [h1, z3, ↓e4, h5, q6, h7, q8])
     refine abr.split (fun h10 => ?_) (fun h10 => ?_)
     ·have q11 : (v = true) := auq h10
      rw [if_pos q11] at hF
      repeat (first | refine chk.ga ?_ | simp -dsimp [h1, z3, ↓e4, h5, q6, h7, q8, h10])
      have hF := ob hF; obtain ⟨v12, e13, hF⟩ := hF
      refine ((C.spec_l3Find B hB1 hB2 vars x.var v12 e13)).goW (by first | simp [h1, z3, ↓e4, h5, q6, h7, q8, h10]; done | simp_all) (by simp) ?_
      repeat (first | refine chk.ga ?_ | simp -dsimp [h1, z3, ↓e4, h5, q6, h7, q8, h10])
      refine abr.split (fun h14 => ?_) (fun h14 => ?_)
      ·have q15 : ¬ (v12 = (i : Int)) := auq h14
       rw [if_neg q15] at hF
       cases hF
       repeat (first | refine chk.ga ?_ | simp -dsimp [h1, z3, ↓e4, h5, q6, h7, q8, h10, h14, q15])
       refine Leave.go _ (Gh.refl _) (hq _ ?_)
       repeat (first | refine chk.ga ?_ | simp -dsimp [h1, z3, ↓e4, h5, q6, h7, q8, h10, h14, q15])
      ·have q15 : (v12 = (i : Int)) := auq h14
       rw [if_pos q15] at hF
       have w16 : IntKind.i64.wrap ((i : Int) + 1) = (i : Int) + 1 := wrap_in (by omega) (by omega)
       repeat (first | refine chk.ga ?_ | simp -dsimp [h1, z3, ↓e4, h5, q6, h7, q8, h10, h14, q15, w16])
       refine Again.go _ ?_ ((ih_spec_l12Vars_l1 (i + 1) o hF) _ rfl _ hq)
       exact (Gh.to3 (by simp) (by first | simp -dsimp [h1, z3, ↓e4, h5, q6, h7, q8, h10, h14, q15, w16]; done | simp_all))
     ·have q11 : ¬ (v = true) := auq h10
      rw [if_neg q11] at hF
      cases hF
      repeat (first | refine chk.ga ?_ | simp -dsimp [h1, z3, ↓e4, h5, q6, h7, q8, h10, q11])
      refine Leave.go _ (Gh.refl _) (hq _ ?_)
      repeat (first | refine chk.ga ?_ | simp -dsimp [h1, z3, ↓e4, h5, q6, h7, q8, h10, q11])
    ·have q8 : (5 < x.var) := auq h7
     rw [if_pos q8] at hF
     cases hF
     repeat (first | refine chk.ga ?_ | simp -dsimp [h1, z3, ↓e4, h5, q6, h7, q8])
     refine Leave.go _ (Gh.refl _) (hq _ ?_)
     repeat (first | refine chk.ga ?_ | simp -dsimp [h1, z3, ↓e4, h5, q6, h7, q8])
   ·have q6 : (x.var < 0) := auq h5
    rw [if_pos q6] at hF
    cases hF
    repeat (first | refine chk.ga ?_ | simp -dsimp [h1, z3, ↓e4, h5, q6])
    refine Leave.go _ (Gh.refl _) (hq _ ?_)
    repeat (first | refine chk.ga ?_ | simp -dsimp [h1, z3, ↓e4, h5, q6])
  ·have q2 : ¬ (i < vars.length) := auq h1
   have z3 : ¬ ((i : Int) < (vars.length : Int)) := auz
   rw [if_neg q2] at hF
   cases hF
   repeat (first | refine chk.ga ?_ | simp -dsimp [h1, q2, z3])
   refine Leave.go ⟨[], []⟩ (Gh.to3 (by simp) (by first | simp -dsimp [h1, q2, z3]; done | simp_all)) ?_
   exact hq

theorem C.spec_l12Vars (w : List Vl.Data) (vars : List Vl.VarType) (r : Bool) (hF : F.spec_l12Vars w vars = some r) : PureCall Tryz.prog B 78 [.arr (List.map Vl.Data.c w), .arr (List.map Vl.VarType.c vars)] (.lit (.bool r)) := by
 unfold F.spec_l12Vars at hF
 refine PureCall.enterLe Tryz.func78 (by kernel_rfl) rfl Tryz.ntmps78 (by simp) (by simp) ?_
 repeat (first | refine chk.ga ?_ | simp -dsimp)
 have hF := ob hF; obtain ⟨o', ho17, hF⟩ := hF
 refine ALoop.goU _ ?_ (((CC.spec_l12Vars_l1 B hB1 hB2 w vars) 0 o' ho17) _ rfl _ ?_)
 ·exact (Gh.to3 (by simp) (by simp -dsimp))
 rcases o' with r0 | sx
 ·dsimp only at hF
  cases hF
  intro st h
  simpa using h
 ·dsimp only at hF
  cases hF
  repeat (first | refine chk.ga ?_ | simp -dsimp)
  all_goals (try first | omega | rfl)

theorem C.spec_l12Right (w : List Vl.Data) (funs : List Vl.FunType) (vars : List Vl.VarType) (t : Vl.Ty) (r : Bool) (hF : F.spec_l12Right w funs vars t = some r) : PureCall Tryz.prog B 47 [.arr (List.map Vl.Data.c w), .arr (List.map Vl.FunType.c funs), .arr (List.map Vl.VarType.c vars), .agg [.lit (.int .i64 t.data), .lit (.int .i64 t.index)]] (.lit (.bool r)) := by
 unfold F.spec_l12Right at hF
 refine PureCall.enterLe Tryz.func47 (by kernel_rfl) rfl Tryz.ntmps47 (by simp) (by simp) ?_
 repeat (first | refine chk.ga ?_ | simp -dsimp)
 have hF := ob hF; obtain ⟨v, e1, hF⟩ := hF
 refine ((C.spec_TypeValid B hB1 hB2 w t v e1)).goW (by simp) (by simp) ?_
 repeat (first | refine chk.ga ?_ | simp -dsimp)
 refine abr.split (fun h2 => ?_) (fun h2 => ?_)
 ·have q3 : (v = true) := auq h2
  rw [if_pos q3] at hF
  repeat (first | refine chk.ga ?_ | simp -dsimp [h2])
  have hF := ob hF; obtain ⟨v4, e5, hF⟩ := hF
  refine ((C.spec_l12Funs B hB1 hB2 w funs v4 e5)).goW (by first | simp [h2]; done | simp_all) (by simp) ?_
  repeat (first | refine chk.ga ?_ | simp -dsimp [h2])
  refine abr.split (fun h6 => ?_) (fun h6 => ?_)
  ·have q7 : (v4 = true) := auq h6
   rw [if_pos q7] at hF
   repeat (first | refine chk.ga ?_ | simp -dsimp [h2, h6])
   have hF := ob hF; obtain ⟨v8, e9, hF⟩ := hF
   refine ((C.spec_l12Vars B hB1 hB2 w vars v8 e9)).goW (by first | simp [h2, h6]; done | simp_all) (by simp) ?_
   cases hF
   repeat (first | refine chk.ga ?_ | simp -dsimp [h2, h6])
   all_goals (try first | omega | rfl)
  ·have q7 : ¬ (v4 = true) := auq h6
   rw [if_neg q7] at hF
   cases hF
   repeat (first | refine chk.ga ?_ | simp -dsimp [h2, h6, q7])
   all_goals (try first | omega | rfl)
 ·have q3 : ¬ (v = true) := auq h2
  rw [if_neg q3] at hF
  cases hF
  repeat (first | refine chk.ga ?_ | simp -dsimp [h2, q3])
  all_goals (try first | omega | rfl)

theorem C.spec_l12Fits (a : Vl.Ty) (b : Vl.Ty) (r : Bool) (hF : F.spec_l12Fits a b = some r) : PureCall Tryz.prog B 138 [.agg [.lit (.int .i64 a.data), .lit (.int .i64 a.index)], .agg [.lit (.int .i64 b.data), .lit (.int .i64 b.index)]] (.lit (.bool r)) := by
 unfold F.spec_l12Fits at hF
 refine PureCall.enterLe Tryz.func138 (by kernel_rfl) rfl Tryz.ntmps138 (by simp) (by simp) ?_
 repeat (first | refine chk.ga ?_ | simp -dsimp)
 refine abr.split (fun h1 => ?_) (fun h1 => ?_)
 ·have q2 : (a.data = b.data) := auq h1
  rw [if_pos q2] at hF
  repeat (first | refine chk.ga ?_ | simp -dsimp [h1])
  refine abr.split (fun h3 => ?_) (fun h3 => ?_)
  ·have q4 : ¬ (b.index = 0) := auq h3
   rw [if_neg q4] at hF
   cases hF
   repeat (first | refine chk.ga ?_ | simp -dsimp [h1, h3, q4])
   all_goals (try first | omega | rfl)
  ·have q4 : (b.index = 0) := auq h3
   rw [if_pos q4] at hF
   cases hF
   repeat (first | refine chk.ga ?_ | simp -dsimp [h1, h3, q4])
   all_goals (try first | omega | rfl)
 ·have q2 : ¬ (a.data = b.data) := auq h1
  rw [if_neg q2] at hF
  cases hF
  repeat (first | refine chk.ga ?_ | simp -dsimp [h1, q2])
  all_goals (try first | omega | rfl)

theorem C.spec_l1Fits (c' : Vl.Ctor) (index' : Int) (r : Bool) (hF : F.spec_l1Fits c' index' = some r) : PureCall Tryz.prog B 159 [.agg [.lit (.string c'.name), .arr (List.map Vl.Ty.c c'.args), .lit (.int .i64 c'.index)], .lit (.int .i64 index')] (.lit (.bool r)) := by
 unfold F.spec_l1Fits at hF
 refine PureCall.enterLe Tryz.func159 (by kernel_rfl) rfl Tryz.ntmps159 (by simp) (by simp) ?_
 repeat (first | refine chk.ga ?_ | simp -dsimp)
 refine abr.split (fun h1 => ?_) (fun h1 => ?_)
 ·have q2 : ¬ (c'.index = 0) := auq h1
  rw [if_neg q2] at hF
  repeat (first | refine chk.ga ?_ | simp -dsimp [h1, q2])
  refine abr.split (fun h3 => ?_) (fun h3 => ?_)
  ·have q4 : ¬ (index' = 0) := auq h3
   rw [if_neg q4] at hF
   cases hF
   repeat (first | refine chk.ga ?_ | simp -dsimp [h1, q2, h3, q4])
   all_goals (try first | omega | rfl)
  ·have q4 : (index' = 0) := auq h3
   rw [if_pos q4] at hF
   cases hF
   repeat (first | refine chk.ga ?_ | simp -dsimp [h1, q2, eq_true h3, eq_true q4])
   all_goals (try first | omega | rfl)
 ·have q2 : (c'.index = 0) := auq h1
  rw [if_pos q2] at hF
  cases hF
  repeat (first | refine chk.ga ?_ | simp -dsimp [h1, q2])
  all_goals (try first | omega | rfl)

theorem CC.spec_l1Ctors_l1 (w : List Vl.Data) (t : Vl.Ty) : (∀ (out : List Int) (k : Nat) (o : List Int), F.spec_l1Ctors_l1 w t out k = some o → ∀ (c : Code), navO [1, 1, 1, 0, 1, 0, 0] (bodyOf Tryz.f140) = some c → ∀ (Q : Exit → ASt → Prop), (Q (.exit 0) ⟨[(5, .own 1 (List.length (α := Int) o))], [.dead, .elems 1 (List.map cI o)]⟩) → ALoopU Tryz.prog B 0 40 (hold c .mk) ⟨[(0, .arr (List.map Vl.Data.c w)), (3, .ptr 0 0), (5, .own 1 (List.length (α := Int) out)), (6, .lit (.int .i64 (k : Int)))], [.cells [.lit (.int .i64 t.data), .lit (.int .i64 t.index)], .elems 1 (List.map cI out)]⟩ (hold Q .mk)) := by
 refine F.spec_l1Ctors_l1.partial_correctness w t
  _
  ?_
 ·intro _f_spec_l1Ctors_l1 ih_spec_l1Ctors_l1 out k o hF
  intro c hc Q hq
  obtain rfl : c = _ := navEq hc rfl
  refine ALoopU.know fun hk hs => ?_
  have b0 := hk 0
  simp -dsimp at b0
  have d1 := hs 1 _ rfl
  simp -dsimp [Blk.bnd] at d1
  clear hk hs
  refine ALoopU.enter ?_
  have hF := ob hF; obtain ⟨x, e3a, hF⟩ := hF
  have e3a := at_some e3a; obtain ⟨ne3, e3⟩ := e3a
  have le3 := lt_of_get e3
  repeat (first | refine chk.ga ?_ | simp -dsimp [↓e3])
  refine abr.split (fun h4 => ?_) (fun h4 => ?_)
  ·have q5 : (k < x.ctors.length) := auq h4
   have z6 : ((k : Int) < (x.ctors.length : Int)) := auz
   rw [if_pos q5] at hF
   repeat (first | refine chk.ga ?_ | simp -dsimp [↓e3, h4, z6])
   refine ADraw.simple follows (by kernel_rfl) (by kernel_rfl) ?_
   have hF := ob hF; obtain ⟨x7, e8, hF⟩ := hF
   have le8 := lt_of_get e8
   repeat (first | refine chk.ga ?_ | simp -dsimp [↓e3, h4, z6, ↓e8])
   have hF := ob hF; obtain ⟨v, e9, hF⟩ := hF
   refine ((C.spec_l1Fits B hB1 hB2 x7 t.index v e9)).pgoW (by first | simp [↓e3, h4, z6, ↓e8]; done | simp_all) (by simp) ?_
   repeat (first | refine chk.ga ?_ | simp -dsimp [↓e3, h4, z6, ↓e8])
   refine abr.split (fun h10 => ?_) (fun h10 => ?_)
   ·have q11 : (v = true) := auq h10
    rw [if_pos q11] at hF
    have hF := oc hF; obtain ⟨c12, hF⟩ := hF
    have hF := oc hF; obtain ⟨c13, hF⟩ := hF
    have w14 : IntKind.i64.wrap ((k : Int) + 1) = (k : Int) + 1 := wrap_in (by omega) (by omega)
    repeat (first | refine chk.ga ?_ | simp -dsimp [↓e3, h4, z6, ↓e8, h10, w14])
    refine Again.go _ ?_ ((ih_spec_l1Ctors_l1 (out ++ [(k : Int)]) (k + 1) o hF) _ rfl _ hq)
    exact (Gh.to3 (by simp) (by first | simp -dsimp [↓e3, h4, z6, ↓e8, h10, w14]; done | simp_all))
   ·have q11 : ¬ (v = true) := auq h10
    rw [if_neg q11] at hF
    have hF := oc hF; obtain ⟨c15, hF⟩ := hF
    have w16 : IntKind.i64.wrap ((k : Int) + 1) = (k : Int) + 1 := wrap_in (by omega) (by omega)
    repeat (first | refine chk.ga ?_ | simp -dsimp [↓e3, h4, z6, ↓e8, h10, q11, w16])
    refine Again.go _ ?_ ((ih_spec_l1Ctors_l1 out (k + 1) o hF) _ rfl _ hq)
    exact (Gh.to3 (by simp) (by first | simp -dsimp [↓e3, h4, z6, ↓e8, h10, q11, w16]; done | simp_all))
  ·have q5 : ¬ (k < x.ctors.length) := auq h4
   have z6 : ¬ ((k : Int) < (x.ctors.length : Int)) := auz
   rw [if_neg q5] at hF
   cases hF
   repeat (first | refine chk.ga ?_ | simp -dsimp [↓e3, h4, q5, z6])
   refine Leave.go ⟨[(5, .own 1 (List.length (α := Int) out))], [.dead, .elems 1 (List.map cI out)]⟩ (Gh.to3 (by simp) (by first | simp -dsimp [↓e3, h4, q5, z6]; done | simp_all)) ?_
   exact hq

theorem C.spec_l1Ctors (w : List Vl.Data) (t : Vl.Ty) (r : List Int) (hF : F.spec_l1Ctors w t = some r) : PureCall Tryz.prog B 140 [.arr (List.map Vl.Data.c w), .agg [.lit (.int .i64 t.data), .lit (.int .i64 t.index)]] (.arr (List.map cI r)) := by
 unfold F.spec_l1Ctors at hF
 refine PureCall.enterLe Tryz.func140 (by kernel_rfl) rfl Tryz.ntmps140 (by simp) (by simp) ?_
 repeat (first | refine chk.ga ?_ | simp -dsimp)
 refine abr.split (fun h1 => ?_) (fun h1 => ?_)
 ·have q2 : (t.data = (-1)) := auq h1
  rw [if_pos q2] at hF
  cases hF
  repeat (first | refine chk.ga ?_ | simp -dsimp [h1])
  all_goals (try first | omega | rfl)
 ·have q2 : ¬ (t.data = (-1)) := auq h1
  rw [if_neg q2] at hF
  repeat (first | refine chk.ga ?_ | simp -dsimp [h1, q2])
  have hF := ob hF; obtain ⟨o', ho17, hF⟩ := hF
  refine ALoop.goU _ ?_ (((CC.spec_l1Ctors_l1 B hB1 hB2 w t) [] 0 o' ho17) _ rfl _ ?_)
  ·exact (Gh.to3 (by simp) (by first | simp -dsimp [h1, q2]; done | simp_all))
  cases hF
  repeat (first | refine chk.ga ?_ | simp -dsimp)
  all_goals (try first | omega | rfl)

theorem CC.spec_l1Has_l1 (list : List Int) (n : Int) : (∀ (i : Nat) (o : Lo Bool Unit), F.spec_l1Has_l1 list n i = some o → ∀ (c : Code), navO [1, 0, 1, 0, 0] (bodyOf Tryz.f139) = some c → ∀ (Q : Exit → ASt → Prop), o.post (fun r => ∀ st, Post Tryz.prog Tryz.f139 (fun r' _ => r'.le (.lit (.bool r))) .ret st → Q .ret st) (fun s => Q (.exit 0) ⟨[], []⟩) → ALoopU Tryz.prog B 0 18 (hold c .mk) ⟨[(0, .arr (List.map cI list)), (1, .lit (.int .i64 n)), (5, .lit (.int .i64 (i : Int)))], []⟩ (hold Q .mk)) := by
 refine F.spec_l1Has_l1.partial_correctness list n
  _
  ?_
 ·intro _f_spec_l1Has_l1 ih_spec_l1Has_l1 i o hF
  intro c hc Q hq
  obtain rfl : c = _ := navEq hc rfl
  refine ALoopU.know fun hk hs => ?_
  have b0 := hk 0
  simp -dsimp at b0
  clear hk hs
  refine ALoopU.enter ?_
  repeat (first | refine chk.ga ?_ | simp -dsimp)
  refine abr.split (fun h1 => ?_) (fun h1 => ?_)
  ·have q2 : (i < list.length) := auq h1
   have z3 : ((i : Int) < (list.length : Int)) := auz
   rw [if_pos q2] at hF
   have hF := ob hF; obtain ⟨x, e4, hF⟩ := hF
   have le4 := lt_of_get e4
   repeat (first | refine chk.ga ?_ | simp -dsimp [h1, z3, ↓e4])
   refine abr.split (fun h5 => ?_) (fun h5 => ?_)
   ·have q6 : (x = n) := auq h5
    rw [if_pos q6] at hF
    cases hF
    repeat (first | refine chk.ga ?_ | simp -dsimp [h1, z3, ↓e4, h5])
    refine Leave.go _ (Gh.refl _) (hq _ ?_)
    repeat (first | refine chk.ga ?_ | simp -dsimp [h1, z3, ↓e4, h5])
   ·have q6 : ¬ (x = n) := auq h5
    rw [if_neg q6] at hF
    have w7 : IntKind.i64.wrap ((i : Int) + 1) = (i : Int) + 1 := wrap_in (by omega) (by omega)
    repeat (first | refine chk.ga ?_ | simp -dsimp [h1, z3, ↓e4, h5, q6, w7])
    refine Again.go _ ?_ ((ih_spec_l1Has_l1 (i + 1) o hF) _ rfl _ hq)
    exact (Gh.to3 (by simp) (by first | simp -dsimp [h1, z3, ↓e4, h5, q6, w7]; done | simp_all))
  ·have q2 : ¬ (i < list.length) := auq h1
   have z3 : ¬ ((i : Int) < (list.length : Int)) := auz
   rw [if_neg q2] at hF
   cases hF
   repeat (first | refine chk.ga ?_ | simp -dsimp [h1, q2, z3])
   refine Leave.go ⟨[], []⟩ (Gh.to3 (by simp) (by first | simp -dsimp [h1, q2, z3]; done | simp_all)) ?_
   exact hq

theorem C.spec_l1Has (list : List Int) (n : Int) (r : Bool) (hF : F.spec_l1Has list n = some r) : PureCall Tryz.prog B 139 [.arr (List.map cI list), .lit (.int .i64 n)] (.lit (.bool r)) := by
 unfold F.spec_l1Has at hF
 refine PureCall.enterLe Tryz.func139 (by kernel_rfl) rfl Tryz.ntmps139 (by simp) (by simp) ?_
 repeat (first | refine chk.ga ?_ | simp -dsimp)
 have hF := ob hF; obtain ⟨o', ho8, hF⟩ := hF
 refine ALoop.goU _ ?_ (((CC.spec_l1Has_l1 B hB1 hB2 list n) 0 o' ho8) _ rfl _ ?_)
 ·exact (Gh.to3 (by simp) (by simp -dsimp))
 rcases o' with r0 | sx
 ·dsimp only at hF
  cases hF
  intro st h
  simpa using h
 ·dsimp only at hF
  cases hF
  repeat (first | refine chk.ga ?_ | simp -dsimp)
  all_goals (try first | omega | rfl)

theorem C.spec_l1Result (c' : Vl.Ctor) (index' : Int) (r : Int) (hF : F.spec_l1Result c' index' = some r) : PureCall Tryz.prog B 81 [.agg [.lit (.string c'.name), .arr (List.map Vl.Ty.c c'.args), .lit (.int .i64 c'.index)], .lit (.int .i64 index')] (.lit (.int .i64 r)) := by
 unfold F.spec_l1Result at hF
 refine PureCall.enterLe Tryz.func81 (by kernel_rfl) rfl Tryz.ntmps81 (by simp) (by simp) ?_
 repeat (first | refine chk.ga ?_ | simp -dsimp)
 refine abr.split (fun h1 => ?_) (fun h1 => ?_)
 ·have q2 : (c'.index = 0) := auq h1
  rw [if_pos q2] at hF
  cases hF
  repeat (first | refine chk.ga ?_ | simp -dsimp [h1])
  all_goals (try first | omega | rfl)
 ·have q2 : ¬ (c'.index = 0) := auq h1
  rw [if_neg q2] at hF
  cases hF
  repeat (first | refine chk.ga ?_ | simp -dsimp [h1, q2])
  all_goals (try first | omega | rfl)

theorem CC.spec_l1Args_l1 (t : Vl.Ty) (x2 : Vl.Ctor) : (∀ (out : List Vl.Ty) (i : Nat) (o : List Vl.Ty), F.spec_l1Args_l1 t x2 out i = some o → ∀ (c : Code), navO [1, 1, 1, 0, 1, 0, 0] (bodyOf Tryz.f51) = some c → ∀ (Q : Exit → ASt → Prop), (Q (.exit 0) ⟨[(7, .own 1 (List.length (α := Vl.Ty) o))], [.dead, .elems 2 (List.map Vl.Ty.c o)]⟩) → ALoopU Tryz.prog B 0 46 (hold c .mk) ⟨[(4, .ptr 0 0), (7, .own 1 (List.length (α := Vl.Ty) out)), (8, .ptr 2 0), (9, .lit (.int .i64 (i : Int)))], [.cells [.lit (.int .i64 t.data), .lit (.int .i64 t.index)], .elems 2 (List.map Vl.Ty.c out), .cells [.lit (.string x2.name), .arr (List.map Vl.Ty.c x2.args), .lit (.int .i64 x2.index)]]⟩ (hold Q .mk)) := by
 refine F.spec_l1Args_l1.partial_correctness t x2
  _
  ?_
 ·intro _f_spec_l1Args_l1 ih_spec_l1Args_l1 out i o hF
  intro c hc Q hq
  obtain rfl : c = _ := navEq hc rfl
  refine ALoopU.know fun hk hs => ?_
  have d1 := hs 1 _ rfl
  simp -dsimp [Blk.bnd] at d1
  have d2 := hs 2 _ rfl
  simp -dsimp [Blk.bnd] at d2
  clear hk hs
  refine ALoopU.enter ?_
  repeat (first | refine chk.ga ?_ | simp -dsimp)
  refine abr.split (fun h4 => ?_) (fun h4 => ?_)
  ·have q5 : (i < x2.args.length) := auq h4
   have z6 : ((i : Int) < (x2.args.length : Int)) := auz
   rw [if_pos q5] at hF
   have hF := ob hF; obtain ⟨x7, e8, hF⟩ := hF
   have le8 := lt_of_get e8
   repeat (first | refine chk.ga ?_ | simp -dsimp [h4, z6, ↓e8])
   refine abr.split (fun h9 => ?_) (fun h9 => ?_)
   ·have q10 : (x7.index = (-1)) := auq h9
    rw [if_pos q10] at hF
    repeat (first | refine chk.ga ?_ | simp -dsimp [h4, z6, ↓e8, h9])
    have hF := ob hF; obtain ⟨v, e11, hF⟩ := hF
    refine ((C.spec_l1Result B hB1 hB2 x2 t.index v e11)).goW (by first | simp [h4, z6, ↓e8, h9]; done | simp_all) (by simp) ?_
    have hF := oc hF; obtain ⟨c12, hF⟩ := hF
    have w13 : IntKind.i64.wrap ((i : Int) + 1) = (i : Int) + 1 := wrap_in (by omega) (by omega)
    repeat (first | refine chk.ga ?_ | simp -dsimp [h4, z6, ↓e8, h9, w13])
    refine Again.go _ ?_ ((ih_spec_l1Args_l1 (out ++ [(⟨x7.data, v⟩ : Vl.Ty)]) (i + 1) o hF) _ rfl _ hq)
    exact (Gh.to3 (by simp) (by first | simp -dsimp [h4, z6, ↓e8, h9, w13]; done | simp_all))
   ·have q10 : ¬ (x7.index = (-1)) := auq h9
    rw [if_neg q10] at hF
    have hF := oc hF; obtain ⟨c14, hF⟩ := hF
    have w15 : IntKind.i64.wrap ((i : Int) + 1) = (i : Int) + 1 := wrap_in (by omega) (by omega)
    repeat (first | refine chk.ga ?_ | simp -dsimp [h4, z6, ↓e8, h9, q10, w15])
    refine Again.go _ ?_ ((ih_spec_l1Args_l1 (out ++ [x7]) (i + 1) o hF) _ rfl _ hq)
    exact (Gh.to3 (by simp) (by first | simp -dsimp [h4, z6, ↓e8, h9, q10, w15]; done | simp_all))
  ·have q5 : ¬ (i < x2.args.length) := auq h4
   have z6 : ¬ ((i : Int) < (x2.args.length : Int)) := auz
   rw [if_neg q5] at hF
   cases hF
   repeat (first | refine chk.ga ?_ | simp -dsimp [h4, q5, z6])
   refine Leave.go ⟨[(7, .own 1 (List.length (α := Vl.Ty) out))], [.dead, .elems 2 (List.map Vl.Ty.c out)]⟩ (Gh.to3 (by simp) (by first | simp -dsimp [h4, q5, z6]; done | simp_all)) ?_
   exact hq

theorem C.spec_l1Args (w : List Vl.Data) (t : Vl.Ty) (ctor : Int) (r : List Vl.Ty) (hF : F.spec_l1Args w t ctor = some r) : PureCall Tryz.prog B 51 [.arr (List.map Vl.Data.c w), .agg [.lit (.int .i64 t.data), .lit (.int .i64 t.index)], .lit (.int .i64 ctor)] (.arr (List.map Vl.Ty.c r)) := by
 unfold F.spec_l1Args at hF
 refine PureCall.enterLe Tryz.func51 (by kernel_rfl) rfl Tryz.ntmps51 (by simp) (by simp) ?_
 have hF := ob hF; obtain ⟨x, e1a, hF⟩ := hF
 have e1a := at_some e1a; obtain ⟨ne1, e1⟩ := e1a
 have le1 := lt_of_get e1
 have hF := ob hF; obtain ⟨x2, e3a, hF⟩ := hF
 have e3a := at_some e3a; obtain ⟨ne3, e3⟩ := e3a
 have le3 := lt_of_get e3
 repeat (first | refine chk.ga ?_ | simp -dsimp [↓e1, ↓e3])
 have hF := ob hF; obtain ⟨o', ho16, hF⟩ := hF
 refine ALoop.goU _ ?_ (((CC.spec_l1Args_l1 B hB1 hB2 t x2) [] 0 o' ho16) _ rfl _ ?_)
 ·exact (Gh.to3 (by simp) (by first | simp -dsimp [↓e1, ↓e3]; done | simp_all))
 cases hF
 repeat (first | refine chk.ga ?_ | simp -dsimp)
 all_goals (try first | omega | rfl)

theorem C.spec_l12Kids (w : List Vl.Data) (funs : List Vl.FunType) (vars : List Vl.VarType) (t : Vl.Ty) (e : Vl.Expr) (r : (List Vl.Ty) × Bool) (hF : F.spec_l12Kids w funs vars t e = some r) : PureCall Tryz.prog B 116 [.arr (List.map Vl.Data.c w), .arr (List.map Vl.FunType.c funs), .arr (List.map Vl.VarType.c vars), .agg [.lit (.int .i64 t.data), .lit (.int .i64 t.index)], .agg [.lit (.int .i64 e.op), .lit (.int .i64 e.n), .lit (.int .i64 e.ctor), .arr (List.map Vl.Expr.c e.kids)]] (.tup [.arr (List.map Vl.Ty.c r.1), .lit (.bool r.2)]) := by
 unfold F.spec_l12Kids at hF
 refine PureCall.enterLe Tryz.func116 (by kernel_rfl) rfl Tryz.ntmps116 (by simp) (by simp) ?_
 repeat (first | refine chk.ga ?_ | simp -dsimp)
 refine abr.split (fun h1 => ?_) (fun h1 => ?_)
 ·have q2 : ¬ (e.op = 3) := auq h1
  rw [if_neg q2] at hF
  repeat (first | refine chk.ga ?_ | simp -dsimp [h1, q2])
  refine abr.split (fun h3 => ?_) (fun h3 => ?_)
  ·have q4 : (e.ctor = 0) := auq h3
   rw [if_pos q4] at hF
   repeat (first | refine chk.ga ?_ | simp -dsimp [h1, q2, h3])
   refine abr.split (fun h5 => ?_) (fun h5 => ?_)
   ·have q6 : (e.op = 4) := auq h5
    rw [if_pos q6] at hF
    repeat (first | refine chk.ga ?_ | simp -dsimp [h1, q2, h3, h5])
    refine abr.split (fun h7 => ?_) (fun h7 => ?_)
    ·have q8 : ¬ (e.n = 0) := auq h7
     rw [if_neg q8] at hF
     cases hF
     repeat (first | refine chk.ga ?_ | simp -dsimp [h1, q2, h3, h5, h7, q8])
     all_goals (try first | omega | rfl)
    ·have q8 : (e.n = 0) := auq h7
     rw [if_pos q8] at hF
     repeat (first | refine chk.ga ?_ | simp -dsimp [h1, q2, h3, h5, h7, q8])
     refine ADraw.eff [] [(0, 0), (0, 0), (0, 1), (0, 1), (0, 1), (0, 1), (1, 1), (1, 1)] [1, 1, 1, 2, 2, 1, 1, 1] follows (by kernel_rfl) (by kernel_rfl) (by kernel_rfl) ?_
     cases hF
     repeat (first | refine chk.ga ?_ | simp -dsimp [h1, q2, h3, h5, h7, q8])
     all_goals (try first | omega | rfl)
   ·have q6 : ¬ (e.op = 4) := auq h5
    rw [if_neg q6] at hF
    repeat (first | refine chk.ga ?_ | simp -dsimp [h1, q2, h3, h5, q6])
    refine abr.split (fun h9 => ?_) (fun h9 => ?_)
    ·have q10 : (e.op = 1) := auq h9
     rw [if_pos q10] at hF
     repeat (first | refine chk.ga ?_ | simp -dsimp [h1, q2, h3, h5, q6, h9])
     refine ADraw.eff [] [(0, 1), (0, 1), (0, 1), (0, 1), (0, 1), (0, 1), (0, 1), (0, 1), (0, 1), (0, 1), (0, 1), (0, 1), (0, 1), (0, 1), (1, 1), (1, 1)] [1, 2, 2, 1, 1, 0, 2, 1, 1, 1, 0, 2, 1, 1, 1, 1] follows (by kernel_rfl) (by kernel_rfl) (by kernel_rfl) ?_
     repeat (first | refine chk.ga ?_ | simp -dsimp [h1, q2, h3, h5, q6, h9])
     refine abr.split (fun h11 => ?_) (fun h11 => ?_)
     ·have q12 : (dec (eq2 (t.data, t.index) ((-1), 0)) = true) := auq h11
      rw [if_pos q12] at hF
      repeat (first | refine chk.ga ?_ | simp -dsimp [h1, q2, h3, h5, q6, h9, h11])
      refine abr.split (fun h13 => ?_) (fun h13 => ?_)
      ·have q14 : (0 ≤ e.n) := auq h13
       rw [if_pos q14] at hF
       cases hF
       repeat (first | refine chk.ga ?_ | simp -dsimp [h1, q2, h3, h5, q6, h9, h11, h13])
       all_goals (try first | omega | rfl)
      ·have q14 : ¬ (0 ≤ e.n) := auq h13
       rw [if_neg q14] at hF
       cases hF
       repeat (first | refine chk.ga ?_ | simp -dsimp [h1, q2, h3, h5, q6, h9, h11, h13, q14])
       all_goals (try first | omega | rfl)
     ·have q12 : ¬ (dec (eq2 (t.data, t.index) ((-1), 0)) = true) := auq h11
      rw [if_neg q12] at hF
      cases hF
      repeat (first | refine chk.ga ?_ | simp -dsimp [h1, q2, h3, h5, q6, h9, h11, q12])
      all_goals (try first | omega | rfl)
    ·have q10 : ¬ (e.op = 1) := auq h9
     rw [if_neg q10] at hF
     repeat (first | refine chk.ga ?_ | simp -dsimp [h1, q2, h3, h5, q6, h9, q10])
     refine abr.split (fun h15 => ?_) (fun h15 => ?_)
     ·have q16 : (e.op = 2) := auq h15
      rw [if_pos q16] at hF
      repeat (first | refine chk.ga ?_ | simp -dsimp [h1, q2, h3, h5, q6, h9, q10, h15])
      have hF := ob hF; obtain ⟨v, e17, hF⟩ := hF
      refine ((C.spec_l3Find B hB1 hB2 vars e.n v e17)).goW (by first | simp [h1, q2, h3, h5, q6, h9, q10, h15]; done | simp_all) (by simp) ?_
      repeat (first | refine chk.ga ?_ | simp -dsimp [h1, q2, h3, h5, q6, h9, q10, h15])
      refine ADraw.eff [] [(0, 1), (0, 1), (0, 1), (0, 1), (0, 1), (0, 1), (0, 1), (0, 1), (0, 1), (0, 1), (0, 1), (0, 1), (1, 1), (1, 1)] [1, 1, 1, 1, 1, 1, 0, 0, 0, 2, 1, 1, 1, 1] follows (by kernel_rfl) (by kernel_rfl) (by kernel_rfl) ?_
      repeat (first | refine chk.ga ?_ | simp -dsimp [h1, q2, h3, h5, q6, h9, q10, h15])
      refine abr.split (fun h18 => ?_) (fun h18 => ?_)
      ·have q19 : (0 ≤ v) := auq h18
       rw [if_pos q19] at hF
       have hF := ob hF; obtain ⟨x, e20a, hF⟩ := hF
       have e20a := at_some e20a; obtain ⟨ne20, e20⟩ := e20a
       have le20 := lt_of_get e20
       repeat (first | refine chk.ga ?_ | simp -dsimp [h1, q2, h3, h5, q6, h9, q10, h15, h18, ↓e20])
       have hF := ob hF; obtain ⟨v21, e22, hF⟩ := hF
       refine ((C.spec_l12Fits B hB1 hB2 x.type t v21 e22)).pgoW (by first | simp [h1, q2, h3, h5, q6, h9, q10, h15, h18, ↓e20]; done | simp_all) (by simp) ?_
       cases hF
       repeat (first | refine chk.ga ?_ | simp -dsimp [h1, q2, h3, h5, q6, h9, q10, h15, h18, ↓e20])
       all_goals (try first | omega | rfl)
      ·have q19 : ¬ (0 ≤ v) := auq h18
       rw [if_neg q19] at hF
       cases hF
       repeat (first | refine chk.ga ?_ | simp -dsimp [h1, q2, h3, h5, q6, h9, q10, h15, h18, q19])
       all_goals (try first | omega | rfl)
     ·have q16 : ¬ (e.op = 2) := auq h15
      rw [if_neg q16] at hF
      repeat (first | refine chk.ga ?_ | simp -dsimp [h1, q2, h3, h5, q6, h9, q10, h15, q16])
      refine abr.split (fun h23 => ?_) (fun h23 => ?_)
      ·have q24 : (e.op = 5) := auq h23
       rw [if_pos q24] at hF
       repeat (first | refine chk.ga ?_ | simp -dsimp [h1, q2, h3, h5, q6, h9, q10, h15, q16, h23])
       refine abr.split (fun h25 => ?_) (fun h25 => ?_)
       ·have q26 : ¬ (e.n < 0) := auq h25
        rw [if_neg q26] at hF
        repeat (first | refine chk.ga ?_ | simp -dsimp [h1, q2, h3, h5, q6, h9, q10, h15, q16, h23, h25, q26])
        refine abr.split (fun h27 => ?_) (fun h27 => ?_)
        ·have q28 : ((funs.length : Int) ≤ e.n) := auq h27
         rw [if_pos q28] at hF
         cases hF
         repeat (first | refine chk.ga ?_ | simp -dsimp [h1, q2, h3, h5, q6, h9, q10, h15, q16, h23, h25, q26, h27])
         all_goals (try first | omega | rfl)
        ·have q28 : ¬ ((funs.length : Int) ≤ e.n) := auq h27
         rw [if_neg q28] at hF
         repeat (first | refine chk.ga ?_ | simp -dsimp [h1, q2, h3, h5, q6, h9, q10, h15, q16, h23, h25, q26, h27, q28])
         refine ADraw.eff [] [(0, 0), (0, 0), (0, 0), (0, 0), (0, 0), (0, 0), (0, 1), (0, 1), (0, 1), (0, 1), (0, 1), (0, 1), (0, 1), (0, 1), (0, 1), (1, 1), (1, 1)] [1, 1, 1, 1, 1, 1, 1, 1, 0, 2, 0, 0, 0, 2, 1, 1, 1] follows (by kernel_rfl) (by kernel_rfl) (by kernel_rfl) ?_
         have hF := ob hF; obtain ⟨x29, e30a, hF⟩ := hF
         have e30a := at_some e30a; obtain ⟨ne30, e30⟩ := e30a
         have le30 := lt_of_get e30
         repeat (first | refine chk.ga ?_ | simp -dsimp [h1, q2, h3, h5, q6, h9, q10, h15, q16, h23, h25, q26, h27, q28, ↓e30])
         have hF := ob hF; obtain ⟨v31, e32, hF⟩ := hF
         refine ((C.spec_l12Fits B hB1 hB2 x29.res t v31 e32)).pgoW (by first | simp [h1, q2, h3, h5, q6, h9, q10, h15, q16, h23, h25, q26, h27, q28, ↓e30]; done | simp_all) (by simp) ?_
         cases hF
         repeat (first | refine chk.ga ?_ | simp -dsimp [h1, q2, h3, h5, q6, h9, q10, h15, q16, h23, h25, q26, h27, q28, ↓e30])
         all_goals (try first | omega | rfl)
       ·have q26 : (e.n < 0) := auq h25
        rw [if_pos q26] at hF
        cases hF
        repeat (first | refine chk.ga ?_ | simp -dsimp [h1, q2, h3, h5, q6, h9, q10, h15, q16, h23, h25, q26])
        all_goals (try first | omega | rfl)
      ·have q24 : ¬ (e.op = 5) := auq h23
       rw [if_neg q24] at hF
       cases hF
       repeat (first | refine chk.ga ?_ | simp -dsimp [h1, q2, h3, h5, q6, h9, q10, h15, q16, h23, q24])
       all_goals (try first | omega | rfl)
  ·have q4 : ¬ (e.ctor = 0) := auq h3
   rw [if_neg q4] at hF
   cases hF
   repeat (first | refine chk.ga ?_ | simp -dsimp [h1, q2, h3, q4])
   all_goals (try first | omega | rfl)
 ·have q2 : (e.op = 3) := auq h1
  rw [if_pos q2] at hF
  repeat (first | refine chk.ga ?_ | simp -dsimp [h1, q2])
  refine abr.split (fun h33 => ?_) (fun h33 => ?_)
  ·have q34 : ¬ (e.n = 0) := auq h33
   rw [if_neg q34] at hF
   cases hF
   repeat (first | refine chk.ga ?_ | simp -dsimp [h1, q2, h33, q34])
   all_goals (try first | omega | rfl)
  ·have q34 : (e.n = 0) := auq h33
   rw [if_pos q34] at hF
   repeat (first | refine chk.ga ?_ | simp -dsimp [h1, q2, h33, q34])
   refine ADraw.simple follows (by kernel_rfl) (by kernel_rfl) ?_
   repeat (first | refine chk.ga ?_ | simp -dsimp [h1, q2, h33, q34])
   have hF := ob hF; obtain ⟨v35, e36, hF⟩ := hF
   refine ((C.spec_l1Ctors B hB1 hB2 w t v35 e36)).pgoW (by first | simp [h1, q2, h33, q34]; done | simp_all) (by simp) ?_
   repeat (first | refine chk.ga ?_ | simp -dsimp [h1, q2, h33, q34])
   have hF := ob hF; obtain ⟨v37, e38, hF⟩ := hF
   refine ((C.spec_l1Has B hB1 hB2 v35 e.ctor v37 e38)).pgoW (by first | simp [h1, q2, h33, q34]; done | simp_all) (by simp) ?_
   repeat (first | refine chk.ga ?_ | simp -dsimp [h1, q2, h33, q34])
   refine abr.split (fun h39 => ?_) (fun h39 => ?_)
   ·have q40 : ¬ (v37 = true) := auq h39
    rw [if_neg q40] at hF
    cases hF
    repeat (first | refine chk.ga ?_ | simp -dsimp [h1, q2, h33, q34, h39, q40])
    all_goals (try first | omega | rfl)
   ·have q40 : (v37 = true) := auq h39
    rw [if_pos q40] at hF
    repeat (first | refine chk.ga ?_ | simp -dsimp [h1, q2, h33, q34, h39, q40])
    have hF := ob hF; obtain ⟨v41, e42, hF⟩ := hF
    refine ((C.spec_l1Args B hB1 hB2 w t e.ctor v41 e42)).goW (by first | simp [h1, q2, h33, q34, h39, q40]; done | simp_all) (by simp) ?_
    cases hF
    repeat (first | refine chk.ga ?_ | simp -dsimp [h1, q2, h33, q34, h39, q40])
    all_goals (try first | omega | rfl)

theorem CC.spec_l12Typed (w : List Vl.Data) (funs : List Vl.FunType) (vars : List Vl.VarType) : (∀ (t : Vl.Ty) (e : Vl.Expr) (depth : Int) (r : Bool), F.spec_l12Typed w funs vars t e depth = some r → PureCall Tryz.prog B 79 [.arr (List.map Vl.Data.c w), .arr (List.map Vl.FunType.c funs), .arr (List.map Vl.VarType.c vars), .agg [.lit (.int .i64 t.data), .lit (.int .i64 t.index)], .agg [.lit (.int .i64 e.op), .lit (.int .i64 e.n), .lit (.int .i64 e.ctor), .arr (List.map Vl.Expr.c e.kids)], .lit (.int .i64 depth)] (.lit (.bool r))) ∧
  (∀ (e : Vl.Expr) (depth : Int) (v : (List Vl.Ty) × Bool) (i : Nat) (o : Lo Bool Unit), F.spec_l12Typed_l1 w funs vars e depth v i = some o → ∀ (c : Code), navO [1, 1, 1, 1, 0, 1, 0, 0] (bodyOf Tryz.f79) = some c → ∀ (Q : Exit → ASt → Prop), o.post (fun r => ∀ st, Post Tryz.prog Tryz.f79 (fun r' _ => r'.le (.lit (.bool r))) .ret st → Q .ret st) (fun s => Q (.exit 0) ⟨[], []⟩) → ALoopU Tryz.prog B 0 59 (hold c .mk) ⟨[(0, .arr (List.map Vl.Data.c w)), (1, .arr (List.map Vl.FunType.c funs)), (2, .arr (List.map Vl.VarType.c vars)), (5, .lit (.int .i64 depth)), (10, .ptr 1 0), (13, .arr (List.map Vl.Ty.c v.1)), (15, .lit (.int .i64 (i : Int)))], [.dead, .cells [.lit (.int .i64 e.op), .lit (.int .i64 e.n), .lit (.int .i64 e.ctor), .arr (List.map Vl.Expr.c e.kids)]]⟩ (hold Q .mk)) := by
 refine F.spec_l12Typed.mutual_partial_correctness w funs vars
  _ _
  ?_ ?_
 ·intro _f_spec_l12Typed_l1 ih_spec_l12Typed_l1 t e depth r hF
  refine PureCall.enterLe Tryz.func79 (by kernel_rfl) rfl Tryz.ntmps79 (by simp) (by simp) ?_
  repeat (first | refine chk.ga ?_ | simp -dsimp)
  refine abr.split (fun h1 => ?_) (fun h1 => ?_)
  ·have q2 : (depth < 1) := auq h1
   rw [if_pos q2] at hF
   cases hF
   repeat (first | refine chk.ga ?_ | simp -dsimp [h1])
   all_goals (try first | omega | rfl)
  ·have q2 : ¬ (depth < 1) := auq h1
   rw [if_neg q2] at hF
   repeat (first | refine chk.ga ?_ | simp -dsimp [h1, q2])
   have hF := ob hF; obtain ⟨v, e3, hF⟩ := hF
   refine ((C.spec_l12Kids B hB1 hB2 w funs vars t e v e3)).goW (by first | simp [h1, q2]; done | simp_all) (by simp) ?_
   repeat (first | refine chk.ga ?_ | simp -dsimp [h1, q2])
   refine abr.split (fun h4 => ?_) (fun h4 => ?_)
   ·have q5 : (v.2 = true) := auq h4
    rw [if_pos q5] at hF
    repeat (first | refine chk.ga ?_ | simp -dsimp [h1, q2, h4])
    refine abr.split (fun h6 => ?_) (fun h6 => ?_)
    ·have q7 : ¬ (e.kids.length = v.1.length) := auq h6
     have z8 : ¬ ((e.kids.length : Int) = (v.1.length : Int)) := auz
     rw [if_neg q7] at hF
     cases hF
     repeat (first | refine chk.ga ?_ | simp -dsimp [h1, q2, h4, h6, q7, z8])
     all_goals (try first | omega | rfl)
    ·have q7 : (e.kids.length = v.1.length) := auq h6
     have z8 : ((e.kids.length : Int) = (v.1.length : Int)) := auz
     rw [if_pos q7] at hF
     repeat (first | refine chk.ga ?_ | simp -dsimp [h1, q2, h4, h6, q7, z8])
     have hF := ob hF; obtain ⟨o', ho20, hF⟩ := hF
     refine ALoop.goU _ ?_ ((ih_spec_l12Typed_l1 e depth v 0 o' ho20) _ rfl _ ?_)
     ·exact (Gh.to3 (by simp) (by first | simp -dsimp [h1, q2, h4, h6, q7, z8]; done | simp_all))
     rcases o' with r0 | sx
     ·dsimp only at hF
      cases hF
      intro st h
      simpa using h
     ·dsimp only at hF
      cases hF
      repeat (first | refine chk.ga ?_ | simp -dsimp)
      all_goals (try first | omega | rfl)
   ·have q5 : ¬ (v.2 = true) := auq h4
    rw [if_neg q5] at hF
    cases hF
    repeat (first | refine chk.ga ?_ | simp -dsimp [h1, q2, h4, q5])
    all_goals (try first | omega | rfl)
 ·intro _f_spec_l12Typed _f_spec_l12Typed_l1 ih_spec_l12Typed ih_spec_l12Typed_l1 e depth v i o hF
  intro c hc Q hq
  obtain rfl : c = _ := navEq hc rfl
  refine ALoopU.know fun hk hs => ?_
  have b0 := hk 0
  simp -dsimp at b0
  have b1 := hk 1
  simp -dsimp at b1
  have b2 := hk 2
  simp -dsimp at b2
  have b13 := hk 13
  simp -dsimp at b13
  have d1 := hs 1 _ rfl
  simp -dsimp [Blk.bnd] at d1
  clear hk hs
  refine ALoopU.enter ?_
  repeat (first | refine chk.ga ?_ | simp -dsimp)
  refine abr.split (fun h9 => ?_) (fun h9 => ?_)
  ·have q10 : (i < v.1.length) := auq h9
   have z11 : ((i : Int) < (v.1.length : Int)) := auz
   rw [if_pos q10] at hF
   repeat (first | refine chk.ga ?_ | simp -dsimp [h9, z11])
   refine ADraw.simple follows (by kernel_rfl) (by kernel_rfl) ?_
   have hF := ob hF; obtain ⟨x, e12, hF⟩ := hF
   have le12 := lt_of_get e12
   have hF := ob hF; obtain ⟨x13, e14, hF⟩ := hF
   have le14 := lt_of_get e14
   repeat (first | refine chk.ga ?_ | simp -dsimp [h9, z11, ↓e12, ↓e14])
   have hF := ob hF; obtain ⟨v15, e16, hF⟩ := hF
   refine ((ih_spec_l12Typed x x13 (IntKind.i64.wrap (depth - 1)) v15 e16)).pgoW (by first | simp [h9, z11, ↓e12, ↓e14]; done | simp_all) (by simp) ?_
   repeat (first | refine chk.ga ?_ | simp -dsimp [h9, z11, ↓e12, ↓e14])
   refine abr.split (fun h17 => ?_) (fun h17 => ?_)
   ·have q18 : ¬ (v15 = true) := auq h17
    rw [if_neg q18] at hF
    cases hF
    repeat (first | refine chk.ga ?_ | simp -dsimp [h9, z11, ↓e12, ↓e14, h17, q18])
    refine Leave.go _ (Gh.refl _) (hq _ ?_)
    repeat (first | refine chk.ga ?_ | simp -dsimp [h9, z11, ↓e12, ↓e14, h17, q18])
   ·have q18 : (v15 = true) := auq h17
    rw [if_pos q18] at hF
    have w19 : IntKind.i64.wrap ((i : Int) + 1) = (i : Int) + 1 := wrap_in (by omega) (by omega)
    repeat (first | refine chk.ga ?_ | simp -dsimp [h9, z11, ↓e12, ↓e14, h17, q18, w19])
    refine Again.go _ ?_ ((ih_spec_l12Typed_l1 e depth v (i + 1) o hF) _ rfl _ hq)
    exact (Gh.to3 (by simp) (by first | simp -dsimp [h9, z11, ↓e12, ↓e14, h17, q18, w19]; done | simp_all))
  ·have q10 : ¬ (i < v.1.length) := auq h9
   have z11 : ¬ ((i : Int) < (v.1.length : Int)) := auz
   rw [if_neg q10] at hF
   cases hF
   repeat (first | refine chk.ga ?_ | simp -dsimp [h9, q10, z11])
   refine Leave.go ⟨[], []⟩ (Gh.to3 (by simp) (by first | simp -dsimp [h9, q10, z11]; done | simp_all)) ?_
   exact hq

theorem CC.spec_l12Count  : (∀ (e : Vl.Expr) (most : Int) (r : Int), F.spec_l12Count e most = some r → PureCall Tryz.prog B 80 [.agg [.lit (.int .i64 e.op), .lit (.int .i64 e.n), .lit (.int .i64 e.ctor), .arr (List.map Vl.Expr.c e.kids)], .lit (.int .i64 most)] (.lit (.int .i64 r))) ∧
  (∀ (e : Vl.Expr) (most : Int) (n : Int) (i : Nat) (o : Int), F.spec_l12Count_l1 e most n i = some o → ∀ (c : Code), navO [1, 1, 0, 1, 0, 0] (bodyOf Tryz.f80) = some c → ∀ (Q : Exit → ASt → Prop), (Q (.exit 0) ⟨[(5, .lit (.int .i64 o))], []⟩) → ALoopU Tryz.prog B 0 31 (hold c .mk) ⟨[(1, .lit (.int .i64 most)), (2, .ptr 0 0), (5, .lit (.int .i64 n)), (6, .lit (.int .i64 (i : Int)))], [.cells [.lit (.int .i64 e.op), .lit (.int .i64 e.n), .lit (.int .i64 e.ctor), .arr (List.map Vl.Expr.c e.kids)]]⟩ (hold Q .mk)) := by
 refine F.spec_l12Count.mutual_partial_correctness 
  _ _
  ?_ ?_
 ·intro _f_spec_l12Count_l1 ih_spec_l12Count_l1 e most r hF
  refine PureCall.enterLe Tryz.func80 (by kernel_rfl) rfl Tryz.ntmps80 (by simp) (by simp) ?_
  repeat (first | refine chk.ga ?_ | simp -dsimp)
  have hF := ob hF; obtain ⟨o', ho9, hF⟩ := hF
  refine ALoop.goU _ ?_ ((ih_spec_l12Count_l1 e most (1 : Int) 0 o' ho9) _ rfl _ ?_)
  ·exact (Gh.to3 (by simp) (by simp -dsimp))
  cases hF
  repeat (first | refine chk.ga ?_ | simp -dsimp)
  all_goals (try first | omega | rfl)
 ·intro _f_spec_l12Count _f_spec_l12Count_l1 ih_spec_l12Count ih_spec_l12Count_l1 e most n i o hF
  intro c hc Q hq
  obtain rfl : c = _ := navEq hc rfl
  refine ALoopU.know fun hk hs => ?_
  have d0 := hs 0 _ rfl
  simp -dsimp [Blk.bnd] at d0
  clear hk hs
  refine ALoopU.enter ?_
  repeat (first | refine chk.ga ?_ | simp -dsimp)
  refine abr.split (fun h1 => ?_) (fun h1 => ?_)
  ·have q2 : (i < e.kids.length) := auq h1
   have z3 : ((i : Int) < (e.kids.length : Int)) := auz
   rw [if_pos q2] at hF
   repeat (first | refine chk.ga ?_ | simp -dsimp [h1, z3])
   refine abr.split (fun h4 => ?_) (fun h4 => ?_)
   ·have q5 : (n ≤ most) := auq h4
    rw [if_pos q5] at hF
    have hF := ob hF; obtain ⟨x, e6, hF⟩ := hF
    have le6 := lt_of_get e6
    repeat (first | refine chk.ga ?_ | simp -dsimp [h1, z3, h4, ↓e6])
    have hF := ob hF; obtain ⟨v, e7, hF⟩ := hF
    refine ((ih_spec_l12Count x (IntKind.i64.wrap (most - n)) v e7)).goW (by first | simp [h1, z3, h4, ↓e6]; done | simp_all) (by simp) ?_
    have w8 : IntKind.i64.wrap ((i : Int) + 1) = (i : Int) + 1 := wrap_in (by omega) (by omega)
    repeat (first | refine chk.ga ?_ | simp -dsimp [h1, z3, h4, ↓e6, w8])
    refine Again.go _ ?_ ((ih_spec_l12Count_l1 e most (IntKind.i64.wrap (n + v)) (i + 1) o hF) _ rfl _ hq)
    exact (Gh.to3 (by simp) (by first | simp -dsimp [h1, z3, h4, ↓e6, w8]; done | simp_all))
   ·have q5 : ¬ (n ≤ most) := auq h4
    rw [if_neg q5] at hF
    cases hF
    repeat (first | refine chk.ga ?_ | simp -dsimp [h1, z3, h4, q5])
    refine Leave.go ⟨[(5, .lit (.int .i64 n))], []⟩ (Gh.to3 (by simp) (by first | simp -dsimp [h1, z3, h4, q5]; done | simp_all)) ?_
    exact hq
  ·have q2 : ¬ (i < e.kids.length) := auq h1
   have z3 : ¬ ((i : Int) < (e.kids.length : Int)) := auz
   rw [if_neg q2] at hF
   cases hF
   repeat (first | refine chk.ga ?_ | simp -dsimp [h1, q2, z3])
   refine Leave.go ⟨[(5, .lit (.int .i64 n))], []⟩ (Gh.to3 (by simp) (by first | simp -dsimp [h1, q2, z3]; done | simp_all)) ?_
   exact hq

theorem C.spec_l12Is (w : List Vl.Data) (funs : List Vl.FunType) (vars : List Vl.VarType) (t : Vl.Ty) (e : Vl.Expr) (r : Bool) (hF : F.spec_l12Is w funs vars t e = some r) : PureCall Tryz.prog B 48 [.arr (List.map Vl.Data.c w), .arr (List.map Vl.FunType.c funs), .arr (List.map Vl.VarType.c vars), .agg [.lit (.int .i64 t.data), .lit (.int .i64 t.index)], .agg [.lit (.int .i64 e.op), .lit (.int .i64 e.n), .lit (.int .i64 e.ctor), .arr (List.map Vl.Expr.c e.kids)]] (.lit (.bool r)) := by
 unfold F.spec_l12Is at hF
 refine PureCall.enterLe Tryz.func48 (by kernel_rfl) rfl Tryz.ntmps48 (by simp) (by simp) ?_
 repeat (first | refine chk.ga ?_ | simp -dsimp)
 have hF := ob hF; obtain ⟨v, e1, hF⟩ := hF
 refine (((CC.spec_l12Typed B hB1 hB2 w funs vars).1 t e (10 : Int) v e1)).goW (by simp) (by simp) ?_
 repeat (first | refine chk.ga ?_ | simp -dsimp)
 refine abr.split (fun h2 => ?_) (fun h2 => ?_)
 ·have q3 : (v = true) := auq h2
  rw [if_pos q3] at hF
  repeat (first | refine chk.ga ?_ | simp -dsimp [h2])
  have hF := ob hF; obtain ⟨v4, e5, hF⟩ := hF
  refine (((CC.spec_l12Count B hB1 hB2 ).1 e (60 : Int) v4 e5)).goW (by first | simp [h2]; done | simp_all) (by simp) ?_
  cases hF
  repeat (first | refine chk.ga ?_ | simp -dsimp [h2])
  all_goals (try first | omega | rfl)
 ·have q3 : ¬ (v = true) := auq h2
  rw [if_neg q3] at hF
  cases hF
  repeat (first | refine chk.ga ?_ | simp -dsimp [h2, q3])
  all_goals (try first | omega | rfl)

theorem C.spec_ExprValid (w : List Vl.Data) (funs : List Vl.FunType) (vars : List Vl.VarType) (t : Vl.Ty) (e : Vl.Expr) (r : Bool) (hF : F.spec_ExprValid w funs vars t e = some r) : PureCall Tryz.prog B 27 [.arr (List.map Vl.Data.c w), .arr (List.map Vl.FunType.c funs), .arr (List.map Vl.VarType.c vars), .agg [.lit (.int .i64 t.data), .lit (.int .i64 t.index)], .agg [.lit (.int .i64 e.op), .lit (.int .i64 e.n), .lit (.int .i64 e.ctor), .arr (List.map Vl.Expr.c e.kids)]] (.lit (.bool r)) := by
 unfold F.spec_ExprValid at hF
 refine PureCall.enterLe Tryz.func27 (by kernel_rfl) rfl Tryz.ntmps27 (by simp) (by simp) ?_
 repeat (first | refine chk.ga ?_ | simp -dsimp)
 have hF := ob hF; obtain ⟨v, e1, hF⟩ := hF
 refine ((C.spec_l12Right B hB1 hB2 w funs vars t v e1)).goW (by simp) (by simp) ?_
 repeat (first | refine chk.ga ?_ | simp -dsimp)
 refine abr.split (fun h2 => ?_) (fun h2 => ?_)
 ·have q3 : (v = true) := auq h2
  rw [if_pos q3] at hF
  repeat (first | refine chk.ga ?_ | simp -dsimp [h2])
  have hF := ob hF; obtain ⟨v4, e5, hF⟩ := hF
  refine ((C.spec_l12Is B hB1 hB2 w funs vars t e v4 e5)).goW (by first | simp [h2]; done | simp_all) (by simp) ?_
  cases hF
  repeat (first | refine chk.ga ?_ | simp -dsimp [h2])
  all_goals (try first | omega | rfl)
 ·have q3 : ¬ (v = true) := auq h2
  rw [if_neg q3] at hF
  cases hF
  repeat (first | refine chk.ga ?_ | simp -dsimp [h2, q3])
  all_goals (try first | omega | rfl)

theorem CC.spec_l17Dec_l1  : (∀ (n7 : Int) (out : ByteArray) (o : Int × ByteArray), F.spec_l17Dec_l1 n7 out = some o → ∀ (c : Code), navO [1, 1, 1, 1, 0, 0, 0] (bodyOf Tryz.f49) = some c → ∀ (Q : Exit → ASt → Prop), (Q (.exit 0) ⟨[(0, .lit (.int .i64 o.1)), (3, .lit (.string o.2))], []⟩) → ALoopU Tryz.prog B 0 31 (hold c .mk) ⟨[(0, .lit (.int .i64 n7)), (3, .lit (.string out))], []⟩ (hold Q .mk)) := by
 refine F.spec_l17Dec_l1.partial_correctness 
  _
  ?_
 ·intro _f_spec_l17Dec_l1 ih_spec_l17Dec_l1 n7 out o hF
  intro c hc Q hq
  obtain rfl : c = _ := navEq hc rfl
  refine ALoopU.know fun hk hs => ?_
  clear hk hs
  refine ALoopU.enter ?_
  repeat (first | refine chk.ga ?_ | simp -dsimp)
  refine abr.split (fun h8 => ?_) (fun h8 => ?_)
  ·have q9 : (9 < n7) := auq h8
   rw [if_pos q9] at hF
   have hF := oc hF; obtain ⟨c10, hF⟩ := hF
   repeat (first | refine chk.ga ?_ | simp -dsimp [h8])
   refine Again.go _ ?_ ((ih_spec_l17Dec_l1 (IntKind.i64.wrap (n7.tdiv 10)) ((strB [IntKind.u8.wrap (IntKind.i64.wrap (48 + n7.tmod 10))]) ++ out) o hF) _ rfl _ hq)
   exact (Gh.to3 (by simp) (by first | simp -dsimp [h8]; done | simp_all))
  ·have q9 : ¬ (9 < n7) := auq h8
   rw [if_neg q9] at hF
   cases hF
   repeat (first | refine chk.ga ?_ | simp -dsimp [h8, q9])
   refine Leave.go ⟨[(0, .lit (.int .i64 n7)), (3, .lit (.string out))], []⟩ (Gh.to3 (by simp) (by first | simp -dsimp [h8, q9]; done | simp_all)) ?_
   exact hq

theorem CC.spec_l17Dec  : (∀ (n : Int) (r : ByteArray), F.spec_l17Dec n = some r → PureCall Tryz.prog B 49 [.lit (.int .i64 n)] (.lit (.string r))) := by
 refine F.spec_l17Dec.partial_correctness 
  _
  ?_
 ·intro _f_spec_l17Dec ih_spec_l17Dec n r hF
  refine PureCall.enterLe Tryz.func49 (by kernel_rfl) rfl Tryz.ntmps49 (by simp) (by simp) ?_
  repeat (first | refine chk.ga ?_ | simp -dsimp)
  refine abr.split (fun h1 => ?_) (fun h1 => ?_)
  ·have q2 : (n < (-9223372036854775807)) := auq h1
   rw [if_pos q2] at hF
   cases hF
   repeat (first | refine chk.ga ?_ | simp -dsimp [h1])
   all_goals (try first | omega | rfl)
  ·have q2 : ¬ (n < (-9223372036854775807)) := auq h1
   rw [if_neg q2] at hF
   repeat (first | refine chk.ga ?_ | simp -dsimp [h1, q2])
   refine abr.split (fun h3 => ?_) (fun h3 => ?_)
   ·have q4 : (n < 0) := auq h3
    rw [if_pos q4] at hF
    repeat (first | refine chk.ga ?_ | simp -dsimp [h1, q2, h3])
    have hF := ob hF; obtain ⟨v, e5, hF⟩ := hF
    refine ((ih_spec_l17Dec (IntKind.i64.wrap (0 - n)) v e5)).goW (by first | simp [h1, q2, h3]; done | simp_all) (by simp) ?_
    have hF := oc hF; obtain ⟨c6, hF⟩ := hF
    cases hF
    repeat (first | refine chk.ga ?_ | simp -dsimp [h1, q2, h3])
    all_goals (try first | omega | rfl)
   ·have q4 : ¬ (n < 0) := auq h3
    rw [if_neg q4] at hF
    repeat (first | refine chk.ga ?_ | simp -dsimp [h1, q2, h3, q4])
    have hF := ob hF; obtain ⟨o', ho11, hF⟩ := hF
    refine ALoop.goU _ ?_ (((CC.spec_l17Dec_l1 B hB1 hB2 ) n ByteArray.empty o' ho11) _ rfl _ ?_)
    ·exact (Gh.to3 (by simp) (by first | simp -dsimp [h1, q2, h3, q4]; done | simp_all))
    have hF := oc hF; obtain ⟨c12, hF⟩ := hF
    cases hF
    repeat (first | refine chk.ga ?_ | simp -dsimp)
    all_goals (try first | omega | rfl)

theorem C.spec_l3Letter (n : Int) (r : ByteArray) (hF : F.spec_l3Letter n = some r) : PureCall Tryz.prog B 50 [.lit (.int .i64 n)] (.lit (.string r)) := by
 unfold F.spec_l3Letter at hF
 refine PureCall.enterLe Tryz.func50 (by kernel_rfl) rfl Tryz.ntmps50 (by simp) (by simp) ?_
 cases hF
 repeat (first | refine chk.ga ?_ | simp -dsimp)
 all_goals (try first | omega | rfl)

theorem CC.spec_l12Text (w : List Vl.Data) (funs : List Vl.FunType) : (∀ (t : Vl.Ty) (e : Vl.Expr) (r : ByteArray), F.spec_l12Text w funs t e = some r → PureCall Tryz.prog B 28 [.arr (List.map Vl.Data.c w), .arr (List.map Vl.FunType.c funs), .agg [.lit (.int .i64 t.data), .lit (.int .i64 t.index)], .agg [.lit (.int .i64 e.op), .lit (.int .i64 e.n), .lit (.int .i64 e.ctor), .arr (List.map Vl.Expr.c e.kids)]] (.lit (.string r))) ∧
  (∀ (e : Vl.Expr) (v39 : List Vl.Ty) (out : ByteArray) (i : Nat) (o : ByteArray), F.spec_l12Text_l1 w funs e v39 out i = some o → ∀ (c : Code), navO [1, 1, 1, 1, 1, 0, 1, 0, 0] (bodyOf Tryz.f28) = some c → ∀ (Q : Exit → ASt → Prop), (Q (.exit 1) ⟨[(10, .lit (.string o)), (11, .arr (List.map Vl.Ty.c v39))], []⟩) → ALoopU Tryz.prog B 0 118 (hold c .mk) ⟨[(0, .arr (List.map Vl.Data.c w)), (1, .arr (List.map Vl.FunType.c funs)), (7, .ptr 1 0), (10, .lit (.string out)), (11, .arr (List.map Vl.Ty.c v39)), (12, .lit (.int .i64 (i : Int)))], [.dead, .cells [.lit (.int .i64 e.op), .lit (.int .i64 e.n), .lit (.int .i64 e.ctor), .arr (List.map Vl.Expr.c e.kids)]]⟩ (hold Q .mk)) := by
 refine F.spec_l12Text.mutual_partial_correctness w funs
  _ _
  ?_ ?_
 ·intro _f_spec_l12Text _f_spec_l12Text_l1 ih_spec_l12Text ih_spec_l12Text_l1 t e r hF
  refine PureCall.enterLe Tryz.func28 (by kernel_rfl) rfl Tryz.ntmps28 (by simp) (by simp) ?_
  repeat (first | refine chk.ga ?_ | simp -dsimp)
  refine abr.split (fun h1 => ?_) (fun h1 => ?_)
  ·have q2 : (e.op = 1) := auq h1
   rw [if_pos q2] at hF
   repeat (first | refine chk.ga ?_ | simp -dsimp [h1])
   have hF := ob hF; obtain ⟨v, e3, hF⟩ := hF
   refine (((CC.spec_l17Dec B hB1 hB2 ) e.n v e3)).goW (by first | simp [h1]; done | simp_all) (by simp) ?_
   cases hF
   repeat (first | refine chk.ga ?_ | simp -dsimp [h1])
   all_goals (try first | omega | rfl)
  ·have q2 : ¬ (e.op = 1) := auq h1
   rw [if_neg q2] at hF
   repeat (first | refine chk.ga ?_ | simp -dsimp [h1, q2])
   refine abr.split (fun h4 => ?_) (fun h4 => ?_)
   ·have q5 : (e.op = 2) := auq h4
    rw [if_pos q5] at hF
    repeat (first | refine chk.ga ?_ | simp -dsimp [h1, q2, h4])
    have hF := ob hF; obtain ⟨v6, e7, hF⟩ := hF
    refine ((C.spec_l3Letter B hB1 hB2 e.n v6 e7)).goW (by first | simp [h1, q2, h4]; done | simp_all) (by simp) ?_
    cases hF
    repeat (first | refine chk.ga ?_ | simp -dsimp [h1, q2, h4])
    all_goals (try first | omega | rfl)
   ·have q5 : ¬ (e.op = 2) := auq h4
    rw [if_neg q5] at hF
    repeat (first | refine chk.ga ?_ | simp -dsimp [h1, q2, h4, q5])
    refine abr.split (fun h8 => ?_) (fun h8 => ?_)
    ·have q9 : (e.op = 4) := auq h8
     rw [if_pos q9] at hF
     repeat (first | refine chk.ga ?_ | simp -dsimp [h1, q2, h4, q5, h8])
     refine ADraw.simple follows (by kernel_rfl) (by kernel_rfl) ?_
     have hF := ob hF; obtain ⟨x, e10, hF⟩ := hF
     have le10 := lt_of_get e10
     repeat (first | refine chk.ga ?_ | simp -dsimp [h1, q2, h4, q5, h8, ↓e10])
     have hF := ob hF; obtain ⟨v11, e12, hF⟩ := hF
     refine ((ih_spec_l12Text (⟨(-1 : Int), (0 : Int)⟩ : Vl.Ty) x v11 e12)).pgoW (by first | simp [h1, q2, h4, q5, h8, ↓e10]; done | simp_all) (by simp) ?_
     have hF := oc hF; obtain ⟨c13, hF⟩ := hF
     have hF := oc hF; obtain ⟨c14, hF⟩ := hF
     have hF := ob hF; obtain ⟨x15, e16, hF⟩ := hF
     have le16 := lt_of_get e16
     repeat (first | refine chk.ga ?_ | simp -dsimp [h1, q2, h4, q5, h8, ↓e10, ↓e16])
     have hF := ob hF; obtain ⟨v17, e18, hF⟩ := hF
     refine ((ih_spec_l12Text (⟨(-1 : Int), (0 : Int)⟩ : Vl.Ty) x15 v17 e18)).pgoW (by first | simp [h1, q2, h4, q5, h8, ↓e10, ↓e16]; done | simp_all) (by simp) ?_
     have hF := oc hF; obtain ⟨c19, hF⟩ := hF
     have hF := oc hF; obtain ⟨c20, hF⟩ := hF
     cases hF
     repeat (first | refine chk.ga ?_ | simp -dsimp [h1, q2, h4, q5, h8, ↓e10, ↓e16])
     all_goals (try first | omega | rfl)
    ·have q9 : ¬ (e.op = 4) := auq h8
     rw [if_neg q9] at hF
     repeat (first | refine chk.ga ?_ | simp -dsimp [h1, q2, h4, q5, h8, q9])
     refine abr.split (fun h21 => ?_) (fun h21 => ?_)
     ·have q22 : (e.op = 5) := auq h21
      rw [if_pos q22] at hF
      repeat (first | refine chk.ga ?_ | simp -dsimp [h1, q2, h4, q5, h8, q9, h21])
      refine ADraw.simple follows (by kernel_rfl) (by kernel_rfl) ?_
      repeat (first | refine chk.ga ?_ | simp -dsimp [h1, q2, h4, q5, h8, q9, h21])
      have hF := ob hF; obtain ⟨v23, e24, hF⟩ := hF
      refine (((CC.spec_l17Dec B hB1 hB2 ) e.n v23 e24)).pgoW (by first | simp [h1, q2, h4, q5, h8, q9, h21]; done | simp_all) (by simp) ?_
      have hF := oc hF; obtain ⟨c25, hF⟩ := hF
      have hF := oc hF; obtain ⟨c26, hF⟩ := hF
      have hF := ob hF; obtain ⟨x27, e28a, hF⟩ := hF
      have e28a := at_some e28a; obtain ⟨ne28, e28⟩ := e28a
      have le28 := lt_of_get e28
      have hF := ob hF; obtain ⟨x29, e30, hF⟩ := hF
      have le30 := lt_of_get e30
      repeat (first | refine chk.ga ?_ | simp -dsimp [h1, q2, h4, q5, h8, q9, h21, ↓e28, ↓e30])
      have hF := ob hF; obtain ⟨v31, e32, hF⟩ := hF
      refine ((ih_spec_l12Text x27.arg x29 v31 e32)).pgoW (by first | simp [h1, q2, h4, q5, h8, q9, h21, ↓e28, ↓e30]; done | simp_all) (by simp) ?_
      have hF := oc hF; obtain ⟨c33, hF⟩ := hF
      have hF := oc hF; obtain ⟨c34, hF⟩ := hF
      cases hF
      repeat (first | refine chk.ga ?_ | simp -dsimp [h1, q2, h4, q5, h8, q9, h21, ↓e28, ↓e30])
      all_goals (try first | omega | rfl)
     ·have q22 : ¬ (e.op = 5) := auq h21
      rw [if_neg q22] at hF
      repeat (first | refine chk.ga ?_ | simp -dsimp [h1, q2, h4, q5, h8, q9, h21, q22])
      refine ADraw.simple follows (by kernel_rfl) (by kernel_rfl) ?_
      have hF := ob hF; obtain ⟨x35, e36a, hF⟩ := hF
      have e36a := at_some e36a; obtain ⟨ne36, e36⟩ := e36a
      have le36 := lt_of_get e36
      have hF := ob hF; obtain ⟨x37, e38a, hF⟩ := hF
      have e38a := at_some e38a; obtain ⟨ne38, e38⟩ := e38a
      have le38 := lt_of_get e38
      repeat (first | refine chk.ga ?_ | simp -dsimp [h1, q2, h4, q5, h8, q9, h21, q22, ↓e36, ↓e38])
      have hF := ob hF; obtain ⟨v39, e40, hF⟩ := hF
      refine ((C.spec_l1Args B hB1 hB2 w t e.ctor v39 e40)).goW (by first | simp [h1, q2, h4, q5, h8, q9, h21, q22, ↓e36, ↓e38]; done | simp_all) (by simp) ?_
      repeat (first | refine chk.ga ?_ | simp -dsimp [h1, q2, h4, q5, h8, q9, h21, q22, ↓e36, ↓e38])
      have hF := ob hF; obtain ⟨o', ho65, hF⟩ := hF
      refine ALoop.goU _ ?_ ((ih_spec_l12Text_l1 e v39 x37.name 0 o' ho65) _ rfl _ ?_)
      ·exact (Gh.to3 (by simp) (by first | simp -dsimp [h1, q2, h4, q5, h8, q9, h21, q22, ↓e36, ↓e38]; done | simp_all))
      repeat (first | refine chk.ga ?_ | simp -dsimp)
      refine abr.split (fun h66 => ?_) (fun h66 => ?_)
      ·have q67 : (0 < v39.length) := auq h66
       have z68 : ((0 : Int) < (v39.length : Int)) := auz
       rw [if_pos q67] at hF
       have hF := oc hF; obtain ⟨c69, hF⟩ := hF
       cases hF
       repeat (first | refine chk.ga ?_ | simp -dsimp [h66, z68])
       all_goals (try first | omega | rfl)
      ·have q67 : ¬ (0 < v39.length) := auq h66
       have z68 : ¬ ((0 : Int) < (v39.length : Int)) := auz
       rw [if_neg q67] at hF
       cases hF
       repeat (first | refine chk.ga ?_ | simp -dsimp [h66, q67, z68])
       all_goals (try first | omega | rfl)
 ·intro _f_spec_l12Text _f_spec_l12Text_l1 ih_spec_l12Text ih_spec_l12Text_l1 e v39 out i o hF
  intro c hc Q hq
  obtain rfl : c = _ := navEq hc rfl
  refine ALoopU.know fun hk hs => ?_
  have b0 := hk 0
  simp -dsimp at b0
  have b1 := hk 1
  simp -dsimp at b1
  have b11 := hk 11
  simp -dsimp at b11
  have d1 := hs 1 _ rfl
  simp -dsimp [Blk.bnd] at d1
  clear hk hs
  refine ALoopU.enter ?_
  repeat (first | refine chk.ga ?_ | simp -dsimp)
  refine abr.split (fun h41 => ?_) (fun h41 => ?_)
  ·have q42 : (i < v39.length) := auq h41
   have z43 : ((i : Int) < (v39.length : Int)) := auz
   rw [if_pos q42] at hF
   repeat (first | refine chk.ga ?_ | simp -dsimp [h41, z43])
   refine abr.split (fun h44 => ?_) (fun h44 => ?_)
   ·have q45 : (i = 0) := auq h44
    have z46 : ((i : Int) = (0 : Int)) := auz
    rw [if_pos q45] at hF
    have hF := oc hF; obtain ⟨c47, hF⟩ := hF
    repeat (first | refine chk.ga ?_ | simp -dsimp [h41, z43, eq_true h44, eq_true z46])
    refine ADraw.simple follows (by kernel_rfl) (by kernel_rfl) ?_
    have hF := ob hF; obtain ⟨x48, e49, hF⟩ := hF
    have le49 := lt_of_get e49
    have hF := ob hF; obtain ⟨x50, e51, hF⟩ := hF
    have le51 := lt_of_get e51
    repeat (first | refine chk.ga ?_ | simp -dsimp [h41, z43, eq_true h44, eq_true z46, ↓e49, ↓e51])
    have hF := ob hF; obtain ⟨v52, e53, hF⟩ := hF
    refine ((ih_spec_l12Text x48 x50 v52 e53)).pgoW (by first | simp [h41, z43, eq_true h44, eq_true z46, ↓e49, ↓e51]; done | simp_all) (by simp) ?_
    have hF := oc hF; obtain ⟨c54, hF⟩ := hF
    have w55 : IntKind.i64.wrap ((i : Int) + 1) = (i : Int) + 1 := wrap_in (by omega) (by omega)
    repeat (first | refine chk.ga ?_ | simp -dsimp [h41, z43, eq_true h44, eq_true z46, ↓e49, ↓e51, w55])
    refine Again.go _ ?_ ((ih_spec_l12Text_l1 e v39 ((out ++ (⟨#[40]⟩ : ByteArray)) ++ v52) (i + 1) o hF) _ rfl _ hq)
    exact (Gh.to3 (by simp) (by first | simp -dsimp [h41, z43, eq_true h44, eq_true z46, ↓e49, ↓e51, w55]; done | simp_all))
   ·have q45 : ¬ (i = 0) := auq h44
    have z46 : ¬ ((i : Int) = (0 : Int)) := auz
    rw [if_neg q45] at hF
    have hF := oc hF; obtain ⟨c56, hF⟩ := hF
    repeat (first | refine chk.ga ?_ | simp -dsimp [h41, z43, h44, q45, z46])
    refine ADraw.simple follows (by kernel_rfl) (by kernel_rfl) ?_
    have hF := ob hF; obtain ⟨x57, e58, hF⟩ := hF
    have le58 := lt_of_get e58
    have hF := ob hF; obtain ⟨x59, e60, hF⟩ := hF
    have le60 := lt_of_get e60
    repeat (first | refine chk.ga ?_ | simp -dsimp [h41, z43, h44, q45, z46, ↓e58, ↓e60])
    have hF := ob hF; obtain ⟨v61, e62, hF⟩ := hF
    refine ((ih_spec_l12Text x57 x59 v61 e62)).pgoW (by first | simp [h41, z43, h44, q45, z46, ↓e58, ↓e60]; done | simp_all) (by simp) ?_
    have hF := oc hF; obtain ⟨c63, hF⟩ := hF
    have w64 : IntKind.i64.wrap ((i : Int) + 1) = (i : Int) + 1 := wrap_in (by omega) (by omega)
    repeat (first | refine chk.ga ?_ | simp -dsimp [h41, z43, h44, q45, z46, ↓e58, ↓e60, w64])
    refine Again.go _ ?_ ((ih_spec_l12Text_l1 e v39 ((out ++ (⟨#[44]⟩ : ByteArray)) ++ v61) (i + 1) o hF) _ rfl _ hq)
    exact (Gh.to3 (by simp) (by first | simp -dsimp [h41, z43, h44, q45, z46, ↓e58, ↓e60, w64]; done | simp_all))
  ·have q42 : ¬ (i < v39.length) := auq h41
   have z43 : ¬ ((i : Int) < (v39.length : Int)) := auz
   rw [if_neg q42] at hF
   cases hF
   repeat (first | refine chk.ga ?_ | simp -dsimp [h41, q42, z43])
   refine Leave.go ⟨[(10, .lit (.string out)), (11, .arr (List.map Vl.Ty.c v39))], []⟩ (Gh.to3 (by simp) (by first | simp -dsimp [h41, q42, z43]; done | simp_all)) ?_
   exact hq

theorem C.spec_FormatExpr (w : List Vl.Data) (funs : List Vl.FunType) (vars : List Vl.VarType) (t : Vl.Ty) (e : Vl.Expr) (r : ByteArray) (hF : F.spec_FormatExpr w funs vars t e = some r) : PureCall Tryz.prog B 9 [.arr (List.map Vl.Data.c w), .arr (List.map Vl.FunType.c funs), .arr (List.map Vl.VarType.c vars), .agg [.lit (.int .i64 t.data), .lit (.int .i64 t.index)], .agg [.lit (.int .i64 e.op), .lit (.int .i64 e.n), .lit (.int .i64 e.ctor), .arr (List.map Vl.Expr.c e.kids)]] (.lit (.string r)) := by
 unfold F.spec_FormatExpr at hF
 refine PureCall.enterLe Tryz.func9 (by kernel_rfl) rfl Tryz.ntmps9 (by simp) (by simp) ?_
 repeat (first | refine chk.ga ?_ | simp -dsimp)
 have hF := ob hF; obtain ⟨v, e1, hF⟩ := hF
 refine ((C.spec_ExprValid B hB1 hB2 w funs vars t e v e1)).goW (by simp) (by simp) ?_
 repeat (first | refine chk.ga ?_ | simp -dsimp)
 refine abr.split (fun h2 => ?_) (fun h2 => ?_)
 ·have q3 : ¬ (v = true) := auq h2
  rw [if_neg q3] at hF
  cases hF
  repeat (first | refine chk.ga ?_ | simp -dsimp [h2, q3])
  all_goals (try first | omega | rfl)
 ·have q3 : (v = true) := auq h2
  rw [if_pos q3] at hF
  repeat (first | refine chk.ga ?_ | simp -dsimp [h2, q3])
  have hF := ob hF; obtain ⟨v4, e5, hF⟩ := hF
  refine (((CC.spec_l12Text B hB1 hB2 w funs).1 t e v4 e5)).goW (by first | simp [h2, q3]; done | simp_all) (by simp) ?_
  cases hF
  repeat (first | refine chk.ga ?_ | simp -dsimp [h2, q3])
  all_goals (try first | omega | rfl)

theorem C.impl_within (n : Int) (low : Int) (high : Int) (r : Bool) (hF : F.impl_within n low high = some r) : PureCall Tryz.prog B 89 [.lit (.int .i64 n), .lit (.int .i64 low), .lit (.int .i64 high)] (.lit (.bool r)) := by
 unfold F.impl_within at hF
 refine PureCall.enterLe Tryz.func89 (by kernel_rfl) rfl Tryz.ntmps89 (by simp) (by simp) ?_
 repeat (first | refine chk.ga ?_ | simp -dsimp)
 refine abr.split (fun h1 => ?_) (fun h1 => ?_)
 ·have q2 : (low ≤ n) := auq h1
  rw [if_pos q2] at hF
  cases hF
  repeat (first | refine chk.ga ?_ | simp -dsimp [h1])
  all_goals (try first | omega | rfl)
 ·have q2 : ¬ (low ≤ n) := auq h1
  rw [if_neg q2] at hF
  cases hF
  repeat (first | refine chk.ga ?_ | simp -dsimp [h1, q2])
  all_goals (try first | omega | rfl)

theorem CC.impl_NameValid_l1 (s : ByteArray) : (∀ (i : Nat) (o : Lo Bool Unit), F.impl_NameValid_l1 s i = some o → ∀ (c : Code), navO [1, 1, 0, 1, 0, 0] (bodyOf Tryz.f141) = some c → ∀ (Q : Exit → ASt → Prop), o.post (fun r => ∀ st, Post Tryz.prog Tryz.f141 (fun r' _ => r'.le (.lit (.bool r))) .ret st → Q .ret st) (fun s => Q (.exit 0) ⟨[], []⟩) → ALoopU Tryz.prog B 0 34 (hold c .mk) ⟨[(0, .lit (.string s)), (3, .lit (.int .i64 (i : Int)))], []⟩ (hold Q .mk)) := by
 refine F.impl_NameValid_l1.partial_correctness s
  _
  ?_
 ·intro _f_impl_NameValid_l1 ih_impl_NameValid_l1 i o hF
  intro c hc Q hq
  obtain rfl : c = _ := navEq hc rfl
  refine ALoopU.know fun hk hs => ?_
  clear hk hs
  refine ALoopU.enter ?_
  repeat (first | refine chk.ga ?_ | simp -dsimp)
  refine abr.split (fun h11 => ?_) (fun h11 => ?_)
  ·have q12 : (i < s.size) := auq h11
   have z13 : ((i : Int) < (s.size : Int)) := auz
   rw [if_pos q12] at hF
   repeat (first | refine chk.ga ?_ | simp -dsimp [h11, z13])
   refine abr.split (fun h14 => ?_) (fun h14 => ?_)
   ·have q15 : ¬ (byteAt s i < 97) := auq h14
    have z16 : ¬ (((byteAt s i : Nat) : Int) < (97 : Int)) := auz
    rw [if_neg q15] at hF
    repeat (first | refine chk.ga ?_ | simp -dsimp [h11, z13, h14, q15, z16])
    refine abr.split (fun h17 => ?_) (fun h17 => ?_)
    ·have q18 : (122 < byteAt s i) := auq h17
     have z19 : ((122 : Int) < ((byteAt s i : Nat) : Int)) := auz
     rw [if_pos q18] at hF
     cases hF
     repeat (first | refine chk.ga ?_ | simp -dsimp [h11, z13, h14, q15, z16, h17, z19])
     refine Leave.go _ (Gh.refl _) (hq _ ?_)
     repeat (first | refine chk.ga ?_ | simp -dsimp [h11, z13, h14, q15, z16, h17, z19])
    ·have q18 : ¬ (122 < byteAt s i) := auq h17
     have z19 : ¬ ((122 : Int) < ((byteAt s i : Nat) : Int)) := auz
     rw [if_neg q18] at hF
     have hF := oc hF; obtain ⟨c20, hF⟩ := hF
     have w21 : IntKind.i64.wrap ((i : Int) + 1) = (i : Int) + 1 := wrap_in (by omega) (by omega)
     repeat (first | refine chk.ga ?_ | simp -dsimp [h11, z13, h14, q15, z16, h17, q18, z19, w21])
     refine Again.go _ ?_ ((ih_impl_NameValid_l1 (i + 1) o hF) _ rfl _ hq)
     exact (Gh.to3 (by simp) (by first | simp -dsimp [h11, z13, h14, q15, z16, h17, q18, z19, w21]; done | simp_all))
   ·have q15 : (byteAt s i < 97) := auq h14
    have z16 : (((byteAt s i : Nat) : Int) < (97 : Int)) := auz
    rw [if_pos q15] at hF
    cases hF
    repeat (first | refine chk.ga ?_ | simp -dsimp [h11, z13, h14, q15, z16])
    refine Leave.go _ (Gh.refl _) (hq _ ?_)
    repeat (first | refine chk.ga ?_ | simp -dsimp [h11, z13, h14, q15, z16])
  ·have q12 : ¬ (i < s.size) := auq h11
   have z13 : ¬ ((i : Int) < (s.size : Int)) := auz
   rw [if_neg q12] at hF
   cases hF
   repeat (first | refine chk.ga ?_ | simp -dsimp [h11, q12, z13])
   refine Leave.go ⟨[], []⟩ (Gh.to3 (by simp) (by first | simp -dsimp [h11, q12, z13]; done | simp_all)) ?_
   exact hq

theorem C.impl_NameValid (s : ByteArray) (r : Bool) (hF : F.impl_NameValid s = some r) : PureCall Tryz.prog B 141 [.lit (.string s)] (.lit (.bool r)) := by
 unfold F.impl_NameValid at hF
 refine PureCall.enterLe Tryz.func141 (by kernel_rfl) rfl Tryz.ntmps141 (by simp) (by simp) ?_
 repeat (first | refine chk.ga ?_ | simp -dsimp)
 have hF := ob hF; obtain ⟨v, e1, hF⟩ := hF
 refine ((C.impl_within B hB1 hB2 (s.size : Int) (1 : Int) (5 : Int) v e1)).goW (by simp) (by simp) ?_
 repeat (first | refine chk.ga ?_ | simp -dsimp)
 refine abr.split (fun h2 => ?_) (fun h2 => ?_)
 ·have q3 : (v = true) := auq h2
  rw [if_pos q3] at hF
  have hF := oc hF; obtain ⟨c4, hF⟩ := hF
  repeat (first | refine chk.ga ?_ | simp -dsimp [h2])
  refine abr.split (fun h5 => ?_) (fun h5 => ?_)
  ·have q6 : ¬ (byteAt s 0 < 65) := auq h5
   have z7 : ¬ (((byteAt s 0 : Nat) : Int) < (65 : Int)) := auz
   rw [if_neg q6] at hF
   repeat (first | refine chk.ga ?_ | simp -dsimp [h2, h5, q6, z7])
   refine abr.split (fun h8 => ?_) (fun h8 => ?_)
   ·have q9 : (90 < byteAt s 0) := auq h8
    have z10 : ((90 : Int) < ((byteAt s 0 : Nat) : Int)) := auz
    rw [if_pos q9] at hF
    cases hF
    repeat (first | refine chk.ga ?_ | simp -dsimp [h2, h5, q6, z7, h8, z10])
    all_goals (try first | omega | rfl)
   ·have q9 : ¬ (90 < byteAt s 0) := auq h8
    have z10 : ¬ ((90 : Int) < ((byteAt s 0 : Nat) : Int)) := auz
    rw [if_neg q9] at hF
    repeat (first | refine chk.ga ?_ | simp -dsimp [h2, h5, q6, z7, h8, q9, z10])
    have hF := ob hF; obtain ⟨o', ho22, hF⟩ := hF
    refine ALoop.goU _ ?_ (((CC.impl_NameValid_l1 B hB1 hB2 s) 1 o' ho22) _ rfl _ ?_)
    ·exact (Gh.to3 (by simp) (by first | simp -dsimp [h2, h5, q6, z7, h8, q9, z10]; done | simp_all))
    rcases o' with r0 | sx
    ·dsimp only at hF
     cases hF
     intro st h
     simpa using h
    ·dsimp only at hF
     cases hF
     repeat (first | refine chk.ga ?_ | simp -dsimp)
     all_goals (try first | omega | rfl)
  ·have q6 : (byteAt s 0 < 65) := auq h5
   have z7 : (((byteAt s 0 : Nat) : Int) < (65 : Int)) := auz
   rw [if_pos q6] at hF
   cases hF
   repeat (first | refine chk.ga ?_ | simp -dsimp [h2, h5, q6, z7])
   all_goals (try first | omega | rfl)
 ·have q3 : ¬ (v = true) := auq h2
  rw [if_neg q3] at hF
  cases hF
  repeat (first | refine chk.ga ?_ | simp -dsimp [h2, q3])
  all_goals (try first | omega | rfl)

theorem C.impl_argOk (w : List Vl.Data) (t : Vl.Ty) (r : Bool) (hF : F.impl_argOk w t = some r) : PureCall Tryz.prog B 144 [.arr (List.map Vl.Data.c w), .agg [.lit (.int .i64 t.data), .lit (.int .i64 t.index)]] (.lit (.bool r)) := by
 unfold F.impl_argOk at hF
 refine PureCall.enterLe Tryz.func144 (by kernel_rfl) rfl Tryz.ntmps144 (by simp) (by simp) ?_
 repeat (first | refine chk.ga ?_ | simp -dsimp)
 refine abr.split (fun h1 => ?_) (fun h1 => ?_)
 ·have q2 : ¬ (dec (eq2 (t.data, t.index) ((-1), 0)) = true) := auq h1
  rw [if_neg q2] at hF
  repeat (first | refine chk.ga ?_ | simp -dsimp [h1, q2])
  have hF := ob hF; obtain ⟨v, e3, hF⟩ := hF
  refine ((C.impl_within B hB1 hB2 t.data (0 : Int) (IntKind.i64.wrap ((w.length : Int) - 1)) v e3)).goW (by first | simp [h1, q2]; done | simp_all) (by simp) ?_
  repeat (first | refine chk.ga ?_ | simp -dsimp [h1, q2])
  refine abr.split (fun h4 => ?_) (fun h4 => ?_)
  ·have q5 : (v = true) := auq h4
   rw [if_pos q5] at hF
   repeat (first | refine chk.ga ?_ | simp -dsimp [h1, q2, h4])
   have hF := ob hF; obtain ⟨v6, e7, hF⟩ := hF
   refine ((C.impl_within B hB1 hB2 t.index (-1 : Int) (3 : Int) v6 e7)).goW (by first | simp [h1, q2, h4]; done | simp_all) (by simp) ?_
   cases hF
   repeat (first | refine chk.ga ?_ | simp -dsimp [h1, q2, h4])
   all_goals (try first | omega | rfl)
  ·have q5 : ¬ (v = true) := auq h4
   rw [if_neg q5] at hF
   cases hF
   repeat (first | refine chk.ga ?_ | simp -dsimp [h1, q2, h4, q5])
   all_goals (try first | omega | rfl)
 ·have q2 : (dec (eq2 (t.data, t.index) ((-1), 0)) = true) := auq h1
  rw [if_pos q2] at hF
  cases hF
  repeat (first | refine chk.ga ?_ | simp -dsimp [h1, q2])
  all_goals (try first | omega | rfl)

theorem C.impl_ctorOk_1 (t : Vl.Ty) (a1 : List Vl.Data) (r : Bool) (hF : F.impl_ctorOk_1 t a1 = some r) : PureCall Tryz.prog B 143 [.agg [.lit (.int .i64 t.data), .lit (.int .i64 t.index)], .rptr [.arr (List.map Vl.Data.c a1)] 0] (.lit (.bool r)) := by
 unfold F.impl_ctorOk_1 at hF
 refine PureCall.enterLe Tryz.func143 (by kernel_rfl) rfl Tryz.ntmps143 (by simp) (by simp) ?_
 repeat (first | refine chk.ga ?_ | simp -dsimp)
 have hF := ob hF; obtain ⟨v, e1, hF⟩ := hF
 refine ((C.impl_argOk B hB1 hB2 a1 t v e1)).goW (by simp) (by simp) ?_
 cases hF
 repeat (first | refine chk.ga ?_ | simp -dsimp)
 all_goals (try first | omega | rfl)

theorem CC.slices_IndexFunc_Type__impl_ctorOk_1_l1 (s : List Vl.Ty) (k0 : List Vl.Data) : (∀ (i : Nat) (o : Lo Int Unit), F.slices_IndexFunc_Type__impl_ctorOk_1_l1 s k0 i = some o → ∀ (c : Code), navO [1, 0, 1, 0, 0] (bodyOf Tryz.f160) = some c → ∀ (Q : Exit → ASt → Prop), o.post (fun r => ∀ st, Post Tryz.prog Tryz.f160 (fun r' _ => r'.le (.lit (.int .i64 r))) .ret st → Q .ret st) (fun s => Q (.exit 0) ⟨[], []⟩) → ALoopU Tryz.prog B 0 19 (hold c .mk) ⟨[(0, .arr (List.map Vl.Ty.c s)), (1, .fn (.func 143) [] [.rptr [.arr (List.map Vl.Data.c k0)] 0]), (7, .lit (.int .i64 (s.length : Int))), (8, .lit (.int .i64 (i : Int)))], []⟩ (hold Q .mk)) := by
 refine F.slices_IndexFunc_Type__impl_ctorOk_1_l1.partial_correctness s k0
  _
  ?_
 ·intro _f_slices_IndexFunc_Type__impl_ctorOk_1_l1 ih_slices_IndexFunc_Type__impl_ctorOk_1_l1 i o hF
  intro c hc Q hq
  obtain rfl : c = _ := navEq hc rfl
  refine ALoopU.know fun hk hs => ?_
  have b0 := hk 0
  simp -dsimp at b0
  clear hk hs
  refine ALoopU.enter ?_
  repeat (first | refine chk.ga ?_ | simp -dsimp)
  refine abr.split (fun h1 => ?_) (fun h1 => ?_)
  ·have q2 : (i < s.length) := auq h1
   have z3 : ((i : Int) < (s.length : Int)) := auz
   rw [if_pos q2] at hF
   have hF := ob hF; obtain ⟨x, e4, hF⟩ := hF
   have le4 := lt_of_get e4
   repeat (first | refine chk.ga ?_ | simp -dsimp [h1, z3, ↓e4])
   have hF := ob hF; obtain ⟨v, e5, hF⟩ := hF
   refine ((C.impl_ctorOk_1 B hB1 hB2 x k0 v e5)).goW (by first | simp [h1, z3, ↓e4]; done | simp_all) (by simp) ?_
   repeat (first | refine chk.ga ?_ | simp -dsimp [h1, z3, ↓e4])
   refine abr.split (fun h6 => ?_) (fun h6 => ?_)
   ·have q7 : (v = true) := auq h6
    rw [if_pos q7] at hF
    cases hF
    repeat (first | refine chk.ga ?_ | simp -dsimp [h1, z3, ↓e4, h6])
    refine Leave.go _ (Gh.refl _) (hq _ ?_)
    repeat (first | refine chk.ga ?_ | simp -dsimp [h1, z3, ↓e4, h6])
   ·have q7 : ¬ (v = true) := auq h6
    rw [if_neg q7] at hF
    have w8 : IntKind.i64.wrap ((i : Int) + 1) = (i : Int) + 1 := wrap_in (by omega) (by omega)
    repeat (first | refine chk.ga ?_ | simp -dsimp [h1, z3, ↓e4, h6, q7, w8])
    refine Again.go _ ?_ ((ih_slices_IndexFunc_Type__impl_ctorOk_1_l1 (i + 1) o hF) _ rfl _ hq)
    exact (Gh.to3 (by simp) (by first | simp -dsimp [h1, z3, ↓e4, h6, q7, w8]; done | simp_all))
  ·have q2 : ¬ (i < s.length) := auq h1
   have z3 : ¬ ((i : Int) < (s.length : Int)) := auz
   rw [if_neg q2] at hF
   cases hF
   repeat (first | refine chk.ga ?_ | simp -dsimp [h1, q2, z3])
   refine Leave.go ⟨[], []⟩ (Gh.to3 (by simp) (by first | simp -dsimp [h1, q2, z3]; done | simp_all)) ?_
   exact hq

theorem C.slices_IndexFunc_Type__impl_ctorOk_1 (s : List Vl.Ty) (k0 : List Vl.Data) (r : Int) (hF : F.slices_IndexFunc_Type__impl_ctorOk_1 s k0 = some r) : PureCall Tryz.prog B 160 [.arr (List.map Vl.Ty.c s), .fn (.func 143) [] [.rptr [.arr (List.map Vl.Data.c k0)] 0]] (.lit (.int .i64 r)) := by
 unfold F.slices_IndexFunc_Type__impl_ctorOk_1 at hF
 refine PureCall.enterLe Tryz.func160 (by kernel_rfl) rfl Tryz.ntmps160 (by simp) (by simp) ?_
 repeat (first | refine chk.ga ?_ | simp -dsimp)
 have hF := ob hF; obtain ⟨o', ho9, hF⟩ := hF
 refine ALoop.goU _ ?_ (((CC.slices_IndexFunc_Type__impl_ctorOk_1_l1 B hB1 hB2 s k0) 0 o' ho9) _ rfl _ ?_)
 ·exact (Gh.to3 (by simp) (by simp -dsimp))
 rcases o' with r0 | sx
 ·dsimp only at hF
  cases hF
  intro st h
  simpa using h
 ·dsimp only at hF
  cases hF
  repeat (first | refine chk.ga ?_ | simp -dsimp)
  all_goals (try first | omega | rfl)

theorem C.slices_ContainsFunc_Type__impl_ctorOk_1 (s : List Vl.Ty) (k0 : List Vl.Data) (r : Bool) (hF : F.slices_ContainsFunc_Type__impl_ctorOk_1 s k0 = some r) : PureCall Tryz.prog B 142 [.arr (List.map Vl.Ty.c s), .fn (.func 143) [] [.rptr [.arr (List.map Vl.Data.c k0)] 0]] (.lit (.bool r)) := by
 unfold F.slices_ContainsFunc_Type__impl_ctorOk_1 at hF
 refine PureCall.enterLe Tryz.func142 (by kernel_rfl) rfl Tryz.ntmps142 (by simp) (by simp) ?_
 repeat (first | refine chk.ga ?_ | simp -dsimp)
 have hF := ob hF; obtain ⟨v, e1, hF⟩ := hF
 refine ((C.slices_IndexFunc_Type__impl_ctorOk_1 B hB1 hB2 s k0 v e1)).goW (by simp) (by simp) ?_
 cases hF
 repeat (first | refine chk.ga ?_ | simp -dsimp)
 all_goals (try first | omega | rfl)

theorem C.impl_ctorOk (w : List Vl.Data) (c' : Vl.Ctor) (r : Bool) (hF : F.impl_ctorOk w c' = some r) : PureCall Tryz.prog B 118 [.arr (List.map Vl.Data.c w), .agg [.lit (.string c'.name), .arr (List.map Vl.Ty.c c'.args), .lit (.int .i64 c'.index)]] (.lit (.bool r)) := by
 unfold F.impl_ctorOk at hF
 refine PureCall.enterLe Tryz.func118 (by kernel_rfl) rfl Tryz.ntmps118 (by simp) (by simp) ?_
 repeat (first | refine chk.ga ?_ | simp -dsimp)
 have hF := ob hF; obtain ⟨v, e1, hF⟩ := hF
 refine ((C.impl_NameValid B hB1 hB2 c'.name v e1)).goW (by simp) (by simp) ?_
 repeat (first | refine chk.ga ?_ | simp -dsimp)
 refine abr.split (fun h2 => ?_) (fun h2 => ?_)
 ·have q3 : (v = true) := auq h2
  rw [if_pos q3] at hF
  repeat (first | refine chk.ga ?_ | simp -dsimp [h2])
  refine abr.split (fun h4 => ?_) (fun h4 => ?_)
  ·have q5 : (c'.args.length ≤ 3) := auq h4
   have z6 : ((c'.args.length : Int) ≤ (3 : Int)) := auz
   rw [if_pos q5] at hF
   repeat (first | refine chk.ga ?_ | simp -dsimp [h2, h4, z6])
   have hF := ob hF; obtain ⟨v7, e8, hF⟩ := hF
   refine ((C.impl_within B hB1 hB2 c'.index (0 : Int) (3 : Int) v7 e8)).goW (by first | simp [h2, h4, z6]; done | simp_all) (by simp) ?_
   repeat (first | refine chk.ga ?_ | simp -dsimp [h2, h4, z6])
   refine abr.split (fun h9 => ?_) (fun h9 => ?_)
   ·have q10 : (v7 = true) := auq h9
    rw [if_pos q10] at hF
    repeat (first | refine chk.ga ?_ | simp -dsimp [h2, h4, z6, h9])
    have hF := ob hF; obtain ⟨v11, e12, hF⟩ := hF
    refine ((C.slices_ContainsFunc_Type__impl_ctorOk_1 B hB1 hB2 c'.args w v11 e12)).lend (by first | simp -dsimp [h2, h4, z6, h9]; done | simp_all) (by simp -dsimp) ?_
    cases hF
    repeat (first | refine chk.ga ?_ | simp -dsimp [h2, h4, z6, h9])
    all_goals (try first | omega | rfl)
   ·have q10 : ¬ (v7 = true) := auq h9
    rw [if_neg q10] at hF
    cases hF
    repeat (first | refine chk.ga ?_ | simp -dsimp [h2, h4, z6, h9, q10])
    all_goals (try first | omega | rfl)
  ·have q5 : ¬ (c'.args.length ≤ 3) := auq h4
   have z6 : ¬ ((c'.args.length : Int) ≤ (3 : Int)) := auz
   rw [if_neg q5] at hF
   cases hF
   repeat (first | refine chk.ga ?_ | simp -dsimp [h2, h4, q5, z6])
   all_goals (try first | omega | rfl)
 ·have q3 : ¬ (v = true) := auq h2
  rw [if_neg q3] at hF
  cases hF
  repeat (first | refine chk.ga ?_ | simp -dsimp [h2, q3])
  all_goals (try first | omega | rfl)

theorem CC.impl_WorldValid_l2 (w : List Vl.Data) (met4 : List ByteArray) (i : Nat) (x : Vl.Data) : (∀ (met26 : List ByteArray) (i27 : Nat) (o : Lo Bool (List ByteArray)), F.impl_WorldValid_l2 w met4 i x met26 i27 = some o → ∀ (b1 b2 : Nat), ¬ b1 = b2 → ∀ (c : Code), navO [1, 1, 1, 1, 0, 1, 0, 0, 1, 1, 0, 0, 1, 1, 1, 1, 0, 0] (bodyOf Tryz.f83) = some c → ∀ (Q : Exit → ASt → Ms → Prop), o.post (fun r => ∀ st, Post Tryz.prog Tryz.f83 (fun r' _ => r' = (.lit (.bool r))) .ret st → ∀ ms, Q .ret st ms) (fun s => Q (.exit 2) ⟨[(0, .arr (List.map Vl.Data.c w)), (3, .lit (.map (some b1))), (4, .lit (.map (some b2))), (14, .arr (List.map Vl.Data.c w)), (15, .lit (.int .i64 (w.length : Int))), (16, .lit (.int .i64 (i : Int)))], []⟩ [(b1, s), (b2, msIns met4 x.name)]) → MLoop Tryz.prog B 79 (hold c .mk) ⟨[(0, .arr (List.map Vl.Data.c w)), (3, .lit (.map (some b1))), (4, .lit (.map (some b2))), (14, .arr (List.map Vl.Data.c w)), (15, .lit (.int .i64 (w.length : Int))), (16, .lit (.int .i64 (i : Int))), (58, .arr (List.map Vl.Ctor.c x.ctors)), (59, .lit (.int .i64 (x.ctors.length : Int))), (60, .lit (.int .i64 (i27 : Int)))], []⟩ [(b1, met26), (b2, msIns met4 x.name)] (hold Q .mk)) := by
 refine F.impl_WorldValid_l2.partial_correctness w met4 i x
  _
  ?_
 ·intro _f_impl_WorldValid_l2 ih_impl_WorldValid_l2 met26 i27 o hF
  intro b1 b2 hb2 c hc Q hq
  obtain rfl : c = _ := navEq hc rfl
  refine MLoop.know fun hk hs => ?_
  have b0 := hk 0
  simp -dsimp at b0
  have b14 := hk 14
  simp -dsimp at b14
  have b58 := hk 58
  simp -dsimp at b58
  clear hk hs
  refine MLoop.enter ?_
  repeat (first | refine chk.ga ?_ | simp -dsimp [hb2])
  refine abr.split (fun h28 => ?_) (fun h28 => ?_)
  ·have q29 : (i27 < x.ctors.length) := auq h28
   have z30 : ((i27 : Int) < (x.ctors.length : Int)) := auz
   rw [if_pos q29] at hF
   have hF := ob hF; obtain ⟨x31, e32, hF⟩ := hF
   have le32 := lt_of_get e32
   repeat (first | refine chk.ga ?_ | simp -dsimp [hb2, h28, z30, ↓e32])
   have hF := ob hF; obtain ⟨v33, e34, hF⟩ := hF
   refine ((C.impl_ctorOk B hB1 hB2 w x31 v33 e34)).goW (by first | simp [hb2, h28, z30, ↓e32]; done | simp_all) (by simp) ?_
   repeat (first | refine chk.ga ?_ | simp -dsimp [hb2, h28, z30, ↓e32])
   refine abr.split (fun h35 => ?_) (fun h35 => ?_)
   ·have q36 : (v33 = true) := auq h35
    rw [if_pos q36] at hF
    repeat (first | refine chk.ga ?_ | simp -dsimp [hb2, h28, z30, ↓e32, h35])
    refine abr.split (fun h37 => ?_) (fun h37 => ?_)
    ·have q38 : (dec (x31.name ∈ met26) = true) := auq h37
     rw [if_pos q38] at hF
     cases hF
     repeat (first | refine chk.ga ?_ | simp -dsimp [hb2, h28, z30, ↓e32, h35, h37])
     refine LeaveM.go _ (Gh.refl _) (hq _ ?_ _)
     repeat (first | refine chk.ga ?_ | simp -dsimp [hb2, h28, z30, ↓e32, h35, h37])
    ·have q38 : ¬ (dec (x31.name ∈ met26) = true) := auq h37
     rw [if_neg q38] at hF
     have w39 : IntKind.i64.wrap ((i27 : Int) + 1) = (i27 : Int) + 1 := wrap_in (by omega) (by omega)
     repeat (first | refine chk.ga ?_ | simp -dsimp [hb2, h28, z30, ↓e32, h35, h37, q38, w39])
     refine AgainM.go ⟨[(0, .arr (List.map Vl.Data.c w)), (3, .lit (.map (some b1))), (4, .lit (.map (some b2))), (14, .arr (List.map Vl.Data.c w)), (15, .lit (.int .i64 (w.length : Int))), (16, .lit (.int .i64 (i : Int))), (58, .arr (List.map Vl.Ctor.c x.ctors)), (59, .lit (.int .i64 (x.ctors.length : Int))), (60, .lit (.int .i64 ((i27 + 1) : Int)))], []⟩ (Gh.to3 (by simp) (by first | simp -dsimp [hb2, h28, z30, ↓e32, h35, h37, q38, w39]; done | simp_all)) ?_
     exact (ih_impl_WorldValid_l2 (msIns met26 x31.name) (i27 + 1) o hF) b1 b2 hb2 _ rfl _ hq
   ·have q36 : ¬ (v33 = true) := auq h35
    rw [if_neg q36] at hF
    cases hF
    repeat (first | refine chk.ga ?_ | simp -dsimp [hb2, h28, z30, ↓e32, h35, q36])
    refine LeaveM.go _ (Gh.refl _) (hq _ ?_ _)
    repeat (first | refine chk.ga ?_ | simp -dsimp [hb2, h28, z30, ↓e32, h35, q36])
  ·have q29 : ¬ (i27 < x.ctors.length) := auq h28
   have z30 : ¬ ((i27 : Int) < (x.ctors.length : Int)) := auz
   rw [if_neg q29] at hF
   cases hF
   repeat (first | refine chk.ga ?_ | simp -dsimp [hb2, h28, q29, z30])
   refine LeaveM.go ⟨[(0, .arr (List.map Vl.Data.c w)), (3, .lit (.map (some b1))), (4, .lit (.map (some b2))), (14, .arr (List.map Vl.Data.c w)), (15, .lit (.int .i64 (w.length : Int))), (16, .lit (.int .i64 (i : Int)))], []⟩ (Gh.to3 (by simp) (by first | simp -dsimp [hb2, h28, q29, z30]; done | simp_all)) ?_
   exact hq

theorem CC.impl_WorldValid_l1 (w : List Vl.Data) : (∀ (met : List ByteArray) (met4 : List ByteArray) (i : Nat) (o : Lo Bool ((List ByteArray) × (List ByteArray))), F.impl_WorldValid_l1 w met met4 i = some o → ∀ (b1 b2 : Nat), ¬ b1 = b2 → ∀ (c : Code), navO [1, 1, 1, 1, 0, 1, 0, 0] (bodyOf Tryz.f83) = some c → ∀ (Q : Exit → ASt → Ms → Prop), o.post (fun r => ∀ st, Post Tryz.prog Tryz.f83 (fun r' _ => r' = (.lit (.bool r))) .ret st → ∀ ms, Q .ret st ms) (fun s => Q (.exit 0) ⟨[], []⟩ [(b1, s.1), (b2, s.2)]) → MLoop Tryz.prog B 79 (hold c .mk) ⟨[(0, .arr (List.map Vl.Data.c w)), (3, .lit (.map (some b1))), (4, .lit (.map (some b2))), (14, .arr (List.map Vl.Data.c w)), (15, .lit (.int .i64 (w.length : Int))), (16, .lit (.int .i64 (i : Int)))], []⟩ [(b1, met), (b2, met4)] (hold Q .mk)) := by
 refine F.impl_WorldValid_l1.partial_correctness w
  _
  ?_
 ·intro _f_impl_WorldValid_l1 ih_impl_WorldValid_l1 met met4 i o hF
  intro b1 b2 hb2 c hc Q hq
  obtain rfl : c = _ := navEq hc rfl
  refine MLoop.know fun hk hs => ?_
  have b0 := hk 0
  simp -dsimp at b0
  have b14 := hk 14
  simp -dsimp at b14
  clear hk hs
  refine MLoop.enter ?_
  repeat (first | refine chk.ga ?_ | simp -dsimp [hb2])
  refine abr.split (fun h5 => ?_) (fun h5 => ?_)
  ·have q6 : (i < w.length) := auq h5
   have z7 : ((i : Int) < (w.length : Int)) := auz
   rw [if_pos q6] at hF
   have hF := ob hF; obtain ⟨x, e8, hF⟩ := hF
   have le8 := lt_of_get e8
   repeat (first | refine chk.ga ?_ | simp -dsimp [hb2, h5, z7, ↓e8])
   refine abr.split (fun h9 => ?_) (fun h9 => ?_)
   ·have q10 : (x.name.size = 1) := auq h9
    have z11 : ((x.name.size : Int) = (1 : Int)) := auz
    rw [if_pos q10] at hF
    have hF := oc hF; obtain ⟨c12, hF⟩ := hF
    repeat (first | refine chk.ga ?_ | simp -dsimp [hb2, h5, z7, ↓e8, h9, z11])
    refine abr.split (fun h13 => ?_) (fun h13 => ?_)
    ·have q14 : ¬ (byteAt x.name 0 < 65) := auq h13
     have z15 : ¬ (((byteAt x.name 0 : Nat) : Int) < (65 : Int)) := auz
     rw [if_neg q14] at hF
     repeat (first | refine chk.ga ?_ | simp -dsimp [hb2, h5, z7, ↓e8, h9, z11, h13, q14, z15])
     refine abr.split (fun h16 => ?_) (fun h16 => ?_)
     ·have q17 : ¬ (90 < byteAt x.name 0) := auq h16
      have z18 : ¬ ((90 : Int) < ((byteAt x.name 0 : Nat) : Int)) := auz
      rw [if_neg q17] at hF
      repeat (first | refine chk.ga ?_ | simp -dsimp [hb2, h5, z7, ↓e8, h9, z11, h13, q14, z15, h16, q17, z18])
      refine abr.split (fun h19 => ?_) (fun h19 => ?_)
      ·have q20 : ¬ (x.name.toList = (⟨#[73]⟩ : ByteArray).toList) := auq h19
       rw [if_neg q20] at hF
       repeat (first | refine chk.ga ?_ | simp -dsimp [hb2, h5, z7, ↓e8, h9, z11, h13, q14, z15, h16, q17, z18, h19, q20])
       refine abr.split (fun h21 => ?_) (fun h21 => ?_)
       ·have q22 : ¬ (dec (x.name ∈ met4) = true) := auq h21
        rw [if_neg q22] at hF
        repeat (first | refine chk.ga ?_ | simp -dsimp [hb2, h5, z7, ↓e8, h9, z11, h13, q14, z15, h16, q17, z18, h19, q20, h21, q22])
        have hF := ob hF; obtain ⟨v, e23, hF⟩ := hF
        refine ((C.impl_within B hB1 hB2 (x.ctors.length : Int) (1 : Int) (4 : Int) v e23)).goW (by first | simp [hb2, h5, z7, ↓e8, h9, z11, h13, q14, z15, h16, q17, z18, h19, q20, h21, q22]; done | simp_all) (by simp) ?_
        repeat (first | refine chk.ga ?_ | simp -dsimp [hb2, h5, z7, ↓e8, h9, z11, h13, q14, z15, h16, q17, z18, h19, q20, h21, q22])
        refine abr.split (fun h24 => ?_) (fun h24 => ?_)
        ·have q25 : ¬ (v = true) := auq h24
         rw [if_neg q25] at hF
         cases hF
         repeat (first | refine chk.ga ?_ | simp -dsimp [hb2, h5, z7, ↓e8, h9, z11, h13, q14, z15, h16, q17, z18, h19, q20, h21, q22, h24, q25])
         refine LeaveM.go _ (Gh.refl _) (hq _ ?_ _)
         repeat (first | refine chk.ga ?_ | simp -dsimp [hb2, h5, z7, ↓e8, h9, z11, h13, q14, z15, h16, q17, z18, h19, q20, h21, q22, h24, q25])
        ·have q25 : (v = true) := auq h24
         rw [if_pos q25] at hF
         repeat (first | refine chk.ga ?_ | simp -dsimp [hb2, h5, z7, ↓e8, h9, z11, h13, q14, z15, h16, q17, z18, h19, q20, h21, q22, h24, q25])
         have hF := ob hF; obtain ⟨o', ho40, hF⟩ := hF
         refine MLoop.goU ⟨[(0, .arr (List.map Vl.Data.c w)), (3, .lit (.map (some b1))), (4, .lit (.map (some b2))), (14, .arr (List.map Vl.Data.c w)), (15, .lit (.int .i64 (w.length : Int))), (16, .lit (.int .i64 (i : Int))), (58, .arr (List.map Vl.Ctor.c x.ctors)), (59, .lit (.int .i64 (x.ctors.length : Int))), (60, .lit (.int .i64 (0 : Int)))], []⟩ (Gh.to3 (by simp) (by first | simp -dsimp [hb2, h5, z7, ↓e8, h9, z11, h13, q14, z15, h16, q17, z18, h19, q20, h21, q22, h24, q25]; done | simp_all)) ?_
         refine ((CC.impl_WorldValid_l2 B hB1 hB2 w met4 i x) met 0 o' ho40) b1 b2 hb2 _ rfl _ ?_
         rcases o' with r0 | sx
         ·dsimp only at hF
          cases hF
          intro st h ms
          simp -dsimp
          refine LeaveM.go st (Gh.refl _) (hq st h ms)
         ·dsimp only at hF
          have hF := oc hF; obtain ⟨c41, hF⟩ := hF
          have w42 : IntKind.i64.wrap ((i : Int) + 1) = (i : Int) + 1 := wrap_in (by omega) (by omega)
          repeat (first | refine chk.ga ?_ | simp -dsimp [w42])
          refine AgainM.go ⟨[(0, .arr (List.map Vl.Data.c w)), (3, .lit (.map (some b1))), (4, .lit (.map (some b2))), (14, .arr (List.map Vl.Data.c w)), (15, .lit (.int .i64 (w.length : Int))), (16, .lit (.int .i64 ((i + 1) : Int)))], []⟩ (Gh.to3 (by simp) (by first | simp -dsimp [w42]; done | simp_all)) ?_
          exact (ih_impl_WorldValid_l1 sx (msIns met4 x.name) (i + 1) o hF) b1 b2 hb2 _ rfl _ hq
       ·have q22 : (dec (x.name ∈ met4) = true) := auq h21
        rw [if_pos q22] at hF
        cases hF
        repeat (first | refine chk.ga ?_ | simp -dsimp [hb2, h5, z7, ↓e8, h9, z11, h13, q14, z15, h16, q17, z18, h19, q20, h21, q22])
        refine LeaveM.go _ (Gh.refl _) (hq _ ?_ _)
        repeat (first | refine chk.ga ?_ | simp -dsimp [hb2, h5, z7, ↓e8, h9, z11, h13, q14, z15, h16, q17, z18, h19, q20, h21, q22])
      ·have q20 : (x.name.toList = (⟨#[73]⟩ : ByteArray).toList) := auq h19
       rw [if_pos q20] at hF
       cases hF
       repeat (first | refine chk.ga ?_ | simp -dsimp [hb2, h5, z7, ↓e8, h9, z11, h13, q14, z15, h16, q17, z18, h19, q20])
       refine LeaveM.go _ (Gh.refl _) (hq _ ?_ _)
       repeat (first | refine chk.ga ?_ | simp -dsimp [hb2, h5, z7, ↓e8, h9, z11, h13, q14, z15, h16, q17, z18, h19, q20])
     ·have q17 : (90 < byteAt x.name 0) := auq h16
      have z18 : ((90 : Int) < ((byteAt x.name 0 : Nat) : Int)) := auz
      rw [if_pos q17] at hF
      cases hF
      repeat (first | refine chk.ga ?_ | simp -dsimp [hb2, h5, z7, ↓e8, h9, z11, h13, q14, z15, h16, q17, z18])
      refine LeaveM.go _ (Gh.refl _) (hq _ ?_ _)
      repeat (first | refine chk.ga ?_ | simp -dsimp [hb2, h5, z7, ↓e8, h9, z11, h13, q14, z15, h16, q17, z18])
    ·have q14 : (byteAt x.name 0 < 65) := auq h13
     have z15 : (((byteAt x.name 0 : Nat) : Int) < (65 : Int)) := auz
     rw [if_pos q14] at hF
     cases hF
     repeat (first | refine chk.ga ?_ | simp -dsimp [hb2, h5, z7, ↓e8, h9, z11, h13, q14, z15])
     refine LeaveM.go _ (Gh.refl _) (hq _ ?_ _)
     repeat (first | refine chk.ga ?_ | simp -dsimp [hb2, h5, z7, ↓e8, h9, z11, h13, q14, z15])
   ·have q10 : ¬ (x.name.size = 1) := auq h9
    have z11 : ¬ ((x.name.size : Int) = (1 : Int)) := auz
    rw [if_neg q10] at hF
    cases hF
    repeat (first | refine chk.ga ?_ | simp -dsimp [hb2, h5, z7, ↓e8, h9, q10, z11])
    refine LeaveM.go _ (Gh.refl _) (hq _ ?_ _)
    repeat (first | refine chk.ga ?_ | simp -dsimp [hb2, h5, z7, ↓e8, h9, q10, z11])
  ·have q6 : ¬ (i < w.length) := auq h5
   have z7 : ¬ ((i : Int) < (w.length : Int)) := auz
   rw [if_neg q6] at hF
   cases hF
   repeat (first | refine chk.ga ?_ | simp -dsimp [hb2, h5, q6, z7])
   refine LeaveM.go ⟨[], []⟩ (Gh.to3 (by simp) (by first | simp -dsimp [hb2, h5, q6, z7]; done | simp_all)) ?_
   exact hq

theorem C.impl_WorldValid (w : List Vl.Data) (r : Bool) (hF : F.impl_WorldValid w = some r) : PureCall Tryz.prog B 83 [.arr (List.map Vl.Data.c w)] (.lit (.bool r)) := by
 unfold F.impl_WorldValid at hF
 refine PureCall.enterM Tryz.func83 (by kernel_rfl) rfl Tryz.ntmps83 (by simp) ?_
 repeat (first | refine chk.ga ?_ | simp -dsimp)
 refine abr.split (fun h1 => ?_) (fun h1 => ?_)
 ·have q2 : (4 < w.length) := auq h1
  have z3 : ((4 : Int) < (w.length : Int)) := auz
  rw [if_pos q2] at hF
  cases hF
  repeat (first | refine chk.ga ?_ | simp -dsimp [h1, z3])
  all_goals (try first | omega | rfl)
 ·have q2 : ¬ (4 < w.length) := auq h1
  have z3 : ¬ ((4 : Int) < (w.length : Int)) := auz
  rw [if_neg q2] at hF
  repeat (first | refine chk.ga ?_ | simp -dsimp [h1, q2, z3])
  refine AMake.go fun b1 hb1 => ?_
  repeat (first | refine chk.ga ?_ | simp -dsimp [h1, q2, z3])
  refine AMake.go fun b2 hb2 => ?_
  simp at hb2
  repeat (first | refine chk.ga ?_ | simp -dsimp [h1, q2, z3, hb2])
  have hF := ob hF; obtain ⟨o'44, ho43, hF⟩ := hF
  refine MLoop.goU ⟨[(0, .arr (List.map Vl.Data.c w)), (3, .lit (.map (some b1))), (4, .lit (.map (some b2))), (14, .arr (List.map Vl.Data.c w)), (15, .lit (.int .i64 (w.length : Int))), (16, .lit (.int .i64 (0 : Int)))], []⟩ (Gh.to3 (by simp) (by first | simp -dsimp [h1, q2, z3, hb2]; done | simp_all)) ?_
  refine ((CC.impl_WorldValid_l1 B hB1 hB2 w) [] [] 0 o'44 ho43) b1 b2 hb2 _ rfl _ ?_
  rcases o'44 with r046 | sx45
  ·dsimp only at hF
   cases hF
   intro st h ms
   simpa using h
  ·dsimp only at hF
   cases hF
   repeat (first | refine chk.ga ?_ | simp -dsimp)
   all_goals (try first | omega | rfl)

theorem C.impl_typeOk (w : List Vl.Data) (t : Vl.Ty) (r : Bool) (hF : F.impl_typeOk w t = some r) : PureCall Tryz.prog B 84 [.arr (List.map Vl.Data.c w), .agg [.lit (.int .i64 t.data), .lit (.int .i64 t.index)]] (.lit (.bool r)) := by
 unfold F.impl_typeOk at hF
 refine PureCall.enterLe Tryz.func84 (by kernel_rfl) rfl Tryz.ntmps84 (by simp) (by simp) ?_
 repeat (first | refine chk.ga ?_ | simp -dsimp)
 refine abr.split (fun h1 => ?_) (fun h1 => ?_)
 ·have q2 : ¬ (dec (eq2 (t.data, t.index) ((-1), 0)) = true) := auq h1
  rw [if_neg q2] at hF
  repeat (first | refine chk.ga ?_ | simp -dsimp [h1, q2])
  have hF := ob hF; obtain ⟨v, e3, hF⟩ := hF
  refine ((C.impl_within B hB1 hB2 t.data (0 : Int) (IntKind.i64.wrap ((w.length : Int) - 1)) v e3)).goW (by first | simp [h1, q2]; done | simp_all) (by simp) ?_
  repeat (first | refine chk.ga ?_ | simp -dsimp [h1, q2])
  refine abr.split (fun h4 => ?_) (fun h4 => ?_)
  ·have q5 : (v = true) := auq h4
   rw [if_pos q5] at hF
   repeat (first | refine chk.ga ?_ | simp -dsimp [h1, q2, h4])
   have hF := ob hF; obtain ⟨v6, e7, hF⟩ := hF
   refine ((C.impl_within B hB1 hB2 t.index (0 : Int) (3 : Int) v6 e7)).goW (by first | simp [h1, q2, h4]; done | simp_all) (by simp) ?_
   cases hF
   repeat (first | refine chk.ga ?_ | simp -dsimp [h1, q2, h4])
   all_goals (try first | omega | rfl)
  ·have q5 : ¬ (v = true) := auq h4
   rw [if_neg q5] at hF
   cases hF
   repeat (first | refine chk.ga ?_ | simp -dsimp [h1, q2, h4, q5])
   all_goals (try first | omega | rfl)
 ·have q2 : (dec (eq2 (t.data, t.index) ((-1), 0)) = true) := auq h1
  rw [if_pos q2] at hF
  cases hF
  repeat (first | refine chk.ga ?_ | simp -dsimp [h1, q2])
  all_goals (try first | omega | rfl)

theorem C.impl_TypeValid (w : List Vl.Data) (t : Vl.Ty) (r : Bool) (hF : F.impl_TypeValid w t = some r) : PureCall Tryz.prog B 53 [.arr (List.map Vl.Data.c w), .agg [.lit (.int .i64 t.data), .lit (.int .i64 t.index)]] (.lit (.bool r)) := by
 unfold F.impl_TypeValid at hF
 refine PureCall.enterLe Tryz.func53 (by kernel_rfl) rfl Tryz.ntmps53 (by simp) (by simp) ?_
 repeat (first | refine chk.ga ?_ | simp -dsimp)
 have hF := ob hF; obtain ⟨v, e1, hF⟩ := hF
 refine ((C.impl_WorldValid B hB1 hB2 w v e1)).goW (by simp) (by simp) ?_
 repeat (first | refine chk.ga ?_ | simp -dsimp)
 refine abr.split (fun h2 => ?_) (fun h2 => ?_)
 ·have q3 : (v = true) := auq h2
  rw [if_pos q3] at hF
  repeat (first | refine chk.ga ?_ | simp -dsimp [h2])
  have hF := ob hF; obtain ⟨v4, e5, hF⟩ := hF
  refine ((C.impl_typeOk B hB1 hB2 w t v4 e5)).goW (by first | simp [h2]; done | simp_all) (by simp) ?_
  cases hF
  repeat (first | refine chk.ga ?_ | simp -dsimp [h2])
  all_goals (try first | omega | rfl)
 ·have q3 : ¬ (v = true) := auq h2
  rw [if_neg q3] at hF
  cases hF
  repeat (first | refine chk.ga ?_ | simp -dsimp [h2, q3])
  all_goals (try first | omega | rfl)

theorem C.impl_scope_ok_1 (f : Vl.FunType) (a1 : Vl.T_impl_scope) (r : Bool) (hF : F.impl_scope_ok_1 f a1 = some r) : PureCall Tryz.prog B 86 [.agg [.lit (.int .i64 f.arg.data), .lit (.int .i64 f.arg.index), .lit (.int .i64 f.res.data), .lit (.int .i64 f.res.index)], .rptr [.arr (List.map Vl.Data.c a1.f0), .arr (List.map Vl.FunType.c a1.f1), .arr (List.map Vl.VarType.c a1.f2)] 0] (.lit (.bool r)) := by
 unfold F.impl_scope_ok_1 at hF
 refine PureCall.enterLe Tryz.func86 (by kernel_rfl) rfl Tryz.ntmps86 (by simp) (by simp) ?_
 repeat (first | refine chk.ga ?_ | simp -dsimp)
 have hF := ob hF; obtain ⟨v, e1, hF⟩ := hF
 refine ((C.impl_typeOk B hB1 hB2 a1.f0 f.arg v e1)).goW (by simp) (by simp) ?_
 repeat (first | refine chk.ga ?_ | simp -dsimp)
 refine abr.split (fun h2 => ?_) (fun h2 => ?_)
 ·have q3 : (v = true) := auq h2
  rw [if_pos q3] at hF
  repeat (first | refine chk.ga ?_ | simp -dsimp [h2])
  have hF := ob hF; obtain ⟨v4, e5, hF⟩ := hF
  refine ((C.impl_typeOk B hB1 hB2 a1.f0 f.res v4 e5)).goW (by first | simp [h2]; done | simp_all) (by simp) ?_
  cases hF
  repeat (first | refine chk.ga ?_ | simp -dsimp [h2])
  all_goals (try first | omega | rfl)
 ·have q3 : ¬ (v = true) := auq h2
  rw [if_neg q3] at hF
  cases hF
  repeat (first | refine chk.ga ?_ | simp -dsimp [h2, q3])
  all_goals (try first | omega | rfl)

theorem CC.slices_IndexFunc_FunType__impl_scope_ok_1_l1 (s : List Vl.FunType) (k0 : Vl.T_impl_scope) : (∀ (i : Nat) (o : Lo Int Unit), F.slices_IndexFunc_FunType__impl_scope_ok_1_l1 s k0 i = some o → ∀ (c : Code), navO [1, 0, 1, 0, 0] (bodyOf Tryz.f119) = some c → ∀ (Q : Exit → ASt → Prop), o.post (fun r => ∀ st, Post Tryz.prog Tryz.f119 (fun r' _ => r'.le (.lit (.int .i64 r))) .ret st → Q .ret st) (fun s => Q (.exit 0) ⟨[], []⟩) → ALoopU Tryz.prog B 0 19 (hold c .mk) ⟨[(0, .arr (List.map Vl.FunType.c s)), (1, .fn (.func 86) [] [.rptr [.arr (List.map Vl.Data.c k0.f0), .arr (List.map Vl.FunType.c k0.f1), .arr (List.map Vl.VarType.c k0.f2)] 0]), (7, .lit (.int .i64 (s.length : Int))), (8, .lit (.int .i64 (i : Int)))], []⟩ (hold Q .mk)) := by
 refine F.slices_IndexFunc_FunType__impl_scope_ok_1_l1.partial_correctness s k0
  _
  ?_
 ·intro _f_slices_IndexFunc_FunType__impl_scope_ok_1_l1 ih_slices_IndexFunc_FunType__impl_scope_ok_1_l1 i o hF
  intro c hc Q hq
  obtain rfl : c = _ := navEq hc rfl
  refine ALoopU.know fun hk hs => ?_
  have b0 := hk 0
  simp -dsimp at b0
  clear hk hs
  refine ALoopU.enter ?_
  repeat (first | refine chk.ga ?_ | simp -dsimp)
  refine abr.split (fun h1 => ?_) (fun h1 => ?_)
  ·have q2 : (i < s.length) := auq h1
   have z3 : ((i : Int) < (s.length : Int)) := auz
   rw [if_pos q2] at hF
   have hF := ob hF; obtain ⟨x, e4, hF⟩ := hF
   have le4 := lt_of_get e4
   repeat (first | refine chk.ga ?_ | simp -dsimp [h1, z3, ↓e4])
   have hF := ob hF; obtain ⟨v, e5, hF⟩ := hF
   refine ((C.impl_scope_ok_1 B hB1 hB2 x k0 v e5)).goW (by first | simp [h1, z3, ↓e4]; done | simp_all) (by simp) ?_
   repeat (first | refine chk.ga ?_ | simp -dsimp [h1, z3, ↓e4])
   refine abr.split (fun h6 => ?_) (fun h6 => ?_)
   ·have q7 : (v = true) := auq h6
    rw [if_pos q7] at hF
    cases hF
    repeat (first | refine chk.ga ?_ | simp -dsimp [h1, z3, ↓e4, h6])
    refine Leave.go _ (Gh.refl _) (hq _ ?_)
    repeat (first | refine chk.ga ?_ | simp -dsimp [h1, z3, ↓e4, h6])
   ·have q7 : ¬ (v = true) := auq h6
    rw [if_neg q7] at hF
    have w8 : IntKind.i64.wrap ((i : Int) + 1) = (i : Int) + 1 := wrap_in (by omega) (by omega)
    repeat (first | refine chk.ga ?_ | simp -dsimp [h1, z3, ↓e4, h6, q7, w8])
    refine Again.go _ ?_ ((ih_slices_IndexFunc_FunType__impl_scope_ok_1_l1 (i + 1) o hF) _ rfl _ hq)
    exact (Gh.to3 (by simp) (by first | simp -dsimp [h1, z3, ↓e4, h6, q7, w8]; done | simp_all))
  ·have q2 : ¬ (i < s.length) := auq h1
   have z3 : ¬ ((i : Int) < (s.length : Int)) := auz
   rw [if_neg q2] at hF
   cases hF
   repeat (first | refine chk.ga ?_ | simp -dsimp [h1, q2, z3])
   refine Leave.go ⟨[], []⟩ (Gh.to3 (by simp) (by first | simp -dsimp [h1, q2, z3]; done | simp_all)) ?_
   exact hq

theorem C.slices_IndexFunc_FunType__impl_scope_ok_1 (s : List Vl.FunType) (k0 : Vl.T_impl_scope) (r : Int) (hF : F.slices_IndexFunc_FunType__impl_scope_ok_1 s k0 = some r) : PureCall Tryz.prog B 119 [.arr (List.map Vl.FunType.c s), .fn (.func 86) [] [.rptr [.arr (List.map Vl.Data.c k0.f0), .arr (List.map Vl.FunType.c k0.f1), .arr (List.map Vl.VarType.c k0.f2)] 0]] (.lit (.int .i64 r)) := by
 unfold F.slices_IndexFunc_FunType__impl_scope_ok_1 at hF
 refine PureCall.enterLe Tryz.func119 (by kernel_rfl) rfl Tryz.ntmps119 (by simp) (by simp) ?_
 repeat (first | refine chk.ga ?_ | simp -dsimp)
 have hF := ob hF; obtain ⟨o', ho9, hF⟩ := hF
 refine ALoop.goU _ ?_ (((CC.slices_IndexFunc_FunType__impl_scope_ok_1_l1 B hB1 hB2 s k0) 0 o' ho9) _ rfl _ ?_)
 ·exact (Gh.to3 (by simp) (by simp -dsimp))
 rcases o' with r0 | sx
 ·dsimp only at hF
  cases hF
  intro st h
  simpa using h
 ·dsimp only at hF
  cases hF
  repeat (first | refine chk.ga ?_ | simp -dsimp)
  all_goals (try first | omega | rfl)

theorem C.slices_ContainsFunc_FunType__impl_scope_ok_1 (s : List Vl.FunType) (k0 : Vl.T_impl_scope) (r : Bool) (hF : F.slices_ContainsFunc_FunType__impl_scope_ok_1 s k0 = some r) : PureCall Tryz.prog B 85 [.arr (List.map Vl.FunType.c s), .fn (.func 86) [] [.rptr [.arr (List.map Vl.Data.c k0.f0), .arr (List.map Vl.FunType.c k0.f1), .arr (List.map Vl.VarType.c k0.f2)] 0]] (.lit (.bool r)) := by
 unfold F.slices_ContainsFunc_FunType__impl_scope_ok_1 at hF
 refine PureCall.enterLe Tryz.func85 (by kernel_rfl) rfl Tryz.ntmps85 (by simp) (by simp) ?_
 repeat (first | refine chk.ga ?_ | simp -dsimp)
 have hF := ob hF; obtain ⟨v, e1, hF⟩ := hF
 refine ((C.slices_IndexFunc_FunType__impl_scope_ok_1 B hB1 hB2 s k0 v e1)).goW (by simp) (by simp) ?_
 cases hF
 repeat (first | refine chk.ga ?_ | simp -dsimp)
 all_goals (try first | omega | rfl)

theorem C.impl_isVar (v : Int) (r : Bool) (hF : F.impl_isVar v = some r) : PureCall Tryz.prog B 87 [.lit (.int .i64 v)] (.lit (.bool r)) := by
 unfold F.impl_isVar at hF
 refine PureCall.enterLe Tryz.func87 (by kernel_rfl) rfl Tryz.ntmps87 (by simp) (by simp) ?_
 repeat (first | refine chk.ga ?_ | simp -dsimp)
 have hF := ob hF; obtain ⟨v1, e2, hF⟩ := hF
 refine ((C.impl_within B hB1 hB2 v (0 : Int) (5 : Int) v1 e2)).goW (by simp) (by simp) ?_
 cases hF
 repeat (first | refine chk.ga ?_ | simp -dsimp)
 all_goals (try first | omega | rfl)

theorem CC.impl_scope_ok_l1 (s : Vl.T_impl_scope) : (∀ (set' : Nat → Bool) (i : Nat) (o : Lo Bool Unit), F.impl_scope_ok_l1 s set' i = some o → ∀ (c : Code), navO [1, 1, 1, 0, 1, 0, 0] (bodyOf Tryz.f54) = some c → ∀ (Q : Exit → ASt → Prop), o.post (fun r => ∀ st, Post Tryz.prog Tryz.f54 (fun r' _ => r'.le (.lit (.bool r))) .ret st → Q .ret st) (fun s => Q (.exit 0) ⟨[], []⟩) → ALoopU Tryz.prog B 0 45 (hold c .mk) ⟨[(1, .ptr 0 0), (3, .ptr 1 0), (17, .arr (List.map Vl.VarType.c s.f2)), (18, .lit (.int .i64 (s.f2.length : Int))), (19, .lit (.int .i64 (i : Int)))], [.cells [.arr (List.map Vl.Data.c s.f0), .arr (List.map Vl.FunType.c s.f1), .arr (List.map Vl.VarType.c s.f2)], .cells (fcB 6 set')]⟩ (hold Q .mk)) := by
 refine F.impl_scope_ok_l1.partial_correctness s
  _
  ?_
 ·intro _f_impl_scope_ok_l1 ih_impl_scope_ok_l1 set' i o hF
  intro c hc Q hq
  obtain rfl : c = _ := navEq hc rfl
  refine ALoopU.know fun hk hs => ?_
  have b17 := hk 17
  simp -dsimp at b17
  have d0 := hs 0 _ rfl
  simp -dsimp [Blk.bnd] at d0
  clear hk hs
  refine ALoopU.enter ?_
  repeat (first | refine chk.ga ?_ | simp -dsimp)
  refine abr.split (fun h7 => ?_) (fun h7 => ?_)
  ·have q8 : (i < s.f2.length) := auq h7
   have z9 : ((i : Int) < (s.f2.length : Int)) := auz
   rw [if_pos q8] at hF
   have hF := ob hF; obtain ⟨x, e10, hF⟩ := hF
   have le10 := lt_of_get e10
   repeat (first | refine chk.ga ?_ | simp -dsimp [h7, z9, ↓e10])
   have hF := ob hF; obtain ⟨v11, e12, hF⟩ := hF
   refine ((C.impl_isVar B hB1 hB2 x.var v11 e12)).goW (by first | simp [h7, z9, ↓e10]; done | simp_all) (by simp) ?_
   repeat (first | refine chk.ga ?_ | simp -dsimp [h7, z9, ↓e10])
   refine abr.split (fun h13 => ?_) (fun h13 => ?_)
   ·have q14 : (v11 = true) := auq h13
    rw [if_pos q14] at hF
    have hF := oc hF; obtain ⟨c15, hF⟩ := hF
    repeat (first | refine chk.ga ?_ | simp -dsimp [h7, z9, ↓e10, h13, c15])
    refine abr.split (fun h16 => ?_) (fun h16 => ?_)
    ·have q17 : ¬ (set' x.var.toNat = true) := auq h16
     rw [if_neg q17] at hF
     repeat (first | refine chk.ga ?_ | simp -dsimp [h7, z9, ↓e10, h13, c15, h16, q17])
     have hF := ob hF; obtain ⟨v18, e19, hF⟩ := hF
     refine ((C.impl_typeOk B hB1 hB2 s.f0 x.type v18 e19)).goW (by first | simp [h7, z9, ↓e10, h13, c15, h16, q17]; done | simp_all) (by simp) ?_
     repeat (first | refine chk.ga ?_ | simp -dsimp [h7, z9, ↓e10, h13, c15, h16, q17])
     refine abr.split (fun h20 => ?_) (fun h20 => ?_)
     ·have q21 : ¬ (v18 = true) := auq h20
      rw [if_neg q21] at hF
      cases hF
      repeat (first | refine chk.ga ?_ | simp -dsimp [h7, z9, ↓e10, h13, c15, h16, q17, h20, q21])
      refine Leave.go _ (Gh.refl _) (hq _ ?_)
      repeat (first | refine chk.ga ?_ | simp -dsimp [h7, z9, ↓e10, h13, c15, h16, q17, h20, q21])
     ·have q21 : (v18 = true) := auq h20
      rw [if_pos q21] at hF
      have w22 : IntKind.i64.wrap ((i : Int) + 1) = (i : Int) + 1 := wrap_in (by omega) (by omega)
      repeat (first | refine chk.ga ?_ | simp -dsimp [h7, z9, ↓e10, h13, c15, h16, q17, h20, q21, w22])
      refine Again.go _ ?_ ((ih_impl_scope_ok_l1 (updF set' x.var.toNat true) (i + 1) o hF) _ rfl _ hq)
      exact (Gh.to3 (by simp) (by first | simp -dsimp [h7, z9, ↓e10, h13, c15, h16, q17, h20, q21, w22]; done | simp_all))
    ·have q17 : (set' x.var.toNat = true) := auq h16
     rw [if_pos q17] at hF
     cases hF
     repeat (first | refine chk.ga ?_ | simp -dsimp [h7, z9, ↓e10, h13, c15, h16, q17])
     refine Leave.go _ (Gh.refl _) (hq _ ?_)
     repeat (first | refine chk.ga ?_ | simp -dsimp [h7, z9, ↓e10, h13, c15, h16, q17])
   ·have q14 : ¬ (v11 = true) := auq h13
    rw [if_neg q14] at hF
    cases hF
    repeat (first | refine chk.ga ?_ | simp -dsimp [h7, z9, ↓e10, h13, q14])
    refine Leave.go _ (Gh.refl _) (hq _ ?_)
    repeat (first | refine chk.ga ?_ | simp -dsimp [h7, z9, ↓e10, h13, q14])
  ·have q8 : ¬ (i < s.f2.length) := auq h7
   have z9 : ¬ ((i : Int) < (s.f2.length : Int)) := auz
   rw [if_neg q8] at hF
   cases hF
   repeat (first | refine chk.ga ?_ | simp -dsimp [h7, q8, z9])
   refine Leave.go ⟨[], []⟩ (Gh.to3 (by simp) (by first | simp -dsimp [h7, q8, z9]; done | simp_all)) ?_
   exact hq

theorem C.impl_scope_ok (s : Vl.T_impl_scope) (r : Bool) (hF : F.impl_scope_ok s = some r) : PureCall Tryz.prog B 54 [.agg [.arr (List.map Vl.Data.c s.f0), .arr (List.map Vl.FunType.c s.f1), .arr (List.map Vl.VarType.c s.f2)]] (.lit (.bool r)) := by
 unfold F.impl_scope_ok at hF
 refine PureCall.enterLe Tryz.func54 (by kernel_rfl) rfl Tryz.ntmps54 (by simp) (by simp) ?_
 repeat (first | refine chk.ga ?_ | simp -dsimp)
 refine abr.split (fun h1 => ?_) (fun h1 => ?_)
 ·have q2 : ¬ (4 < s.f1.length) := auq h1
  have z3 : ¬ ((4 : Int) < (s.f1.length : Int)) := auz
  rw [if_neg q2] at hF
  repeat (first | refine chk.ga ?_ | simp -dsimp [h1, q2, z3])
  have hF := ob hF; obtain ⟨v, e4, hF⟩ := hF
  refine ((C.slices_ContainsFunc_FunType__impl_scope_ok_1 B hB1 hB2 s.f1 s v e4)).lend (by first | simp -dsimp [h1, q2, z3]; done | simp_all) (by simp -dsimp) ?_
  repeat (first | refine chk.ga ?_ | simp -dsimp [h1, q2, z3])
  refine abr.split (fun h5 => ?_) (fun h5 => ?_)
  ·have q6 : (v = true) := auq h5
   rw [if_pos q6] at hF
   cases hF
   repeat (first | refine chk.ga ?_ | simp -dsimp [h1, q2, z3, h5])
   all_goals (try first | omega | rfl)
  ·have q6 : ¬ (v = true) := auq h5
   rw [if_neg q6] at hF
   repeat (first | refine chk.ga ?_ | simp -dsimp [h1, q2, z3, h5, q6])
   have hF := ob hF; obtain ⟨o', ho23, hF⟩ := hF
   refine ALoop.goU _ ?_ (((CC.impl_scope_ok_l1 B hB1 hB2 s) (fun _ => false) 0 o' ho23) _ rfl _ ?_)
   ·exact (Gh.to3 (by simp) (by first | simp -dsimp [h1, q2, z3, h5, q6]; done | simp_all))
   rcases o' with r0 | sx
   ·dsimp only at hF
    cases hF
    intro st h
    simpa using h
   ·dsimp only at hF
    cases hF
    repeat (first | refine chk.ga ?_ | simp -dsimp)
    all_goals (try first | omega | rfl)
 ·have q2 : (4 < s.f1.length) := auq h1
  have z3 : ((4 : Int) < (s.f1.length : Int)) := auz
  rw [if_pos q2] at hF
  cases hF
  repeat (first | refine chk.ga ?_ | simp -dsimp [h1, q2, z3])
  all_goals (try first | omega | rfl)

theorem C.impl_scope_typeOfVar_1 (x : Vl.VarType) (a1 : Int) (r : Bool) (hF : F.impl_scope_typeOfVar_1 x a1 = some r) : PureCall Tryz.prog B 121 [.agg [.lit (.int .i64 x.var), .lit (.int .i64 x.type.data), .lit (.int .i64 x.type.index)], .rptr [.lit (.int .i64 a1)] 0] (.lit (.bool r)) := by
 unfold F.impl_scope_typeOfVar_1 at hF
 refine PureCall.enterLe Tryz.func121 (by kernel_rfl) rfl Tryz.ntmps121 (by simp) (by simp) ?_
 cases hF
 repeat (first | refine chk.ga ?_ | simp -dsimp)
 all_goals (try first | omega | rfl)

theorem CC.slices_IndexFunc_VarType__impl_scope_typeOfVar_1_l1 (s : List Vl.VarType) (k0 : Int) : (∀ (i : Nat) (o : Lo Int Unit), F.slices_IndexFunc_VarType__impl_scope_typeOfVar_1_l1 s k0 i = some o → ∀ (c : Code), navO [1, 0, 1, 0, 0] (bodyOf Tryz.f120) = some c → ∀ (Q : Exit → ASt → Prop), o.post (fun r => ∀ st, Post Tryz.prog Tryz.f120 (fun r' _ => r'.le (.lit (.int .i64 r))) .ret st → Q .ret st) (fun s => Q (.exit 0) ⟨[], []⟩) → ALoopU Tryz.prog B 0 19 (hold c .mk) ⟨[(0, .arr (List.map Vl.VarType.c s)), (1, .fn (.func 121) [] [.rptr [.lit (.int .i64 k0)] 0]), (7, .lit (.int .i64 (s.length : Int))), (8, .lit (.int .i64 (i : Int)))], []⟩ (hold Q .mk)) := by
 refine F.slices_IndexFunc_VarType__impl_scope_typeOfVar_1_l1.partial_correctness s k0
  _
  ?_
 ·intro _f_slices_IndexFunc_VarType__impl_scope_typeOfVar_1_l1 ih_slices_IndexFunc_VarType__impl_scope_typeOfVar_1_l1 i o hF
  intro c hc Q hq
  obtain rfl : c = _ := navEq hc rfl
  refine ALoopU.know fun hk hs => ?_
  have b0 := hk 0
  simp -dsimp at b0
  clear hk hs
  refine ALoopU.enter ?_
  repeat (first | refine chk.ga ?_ | simp -dsimp)
  refine abr.split (fun h1 => ?_) (fun h1 => ?_)
  ·have q2 : (i < s.length) := auq h1
   have z3 : ((i : Int) < (s.length : Int)) := auz
   rw [if_pos q2] at hF
   have hF := ob hF; obtain ⟨x, e4, hF⟩ := hF
   have le4 := lt_of_get e4
   repeat (first | refine chk.ga ?_ | simp -dsimp [h1, z3, ↓e4])
   have hF := ob hF; obtain ⟨v, e5, hF⟩ := hF
   refine ((C.impl_scope_typeOfVar_1 B hB1 hB2 x k0 v e5)).goW (by first | simp [h1, z3, ↓e4]; done | simp_all) (by simp) ?_
   repeat (first | refine chk.ga ?_ | simp -dsimp [h1, z3, ↓e4])
   refine abr.split (fun h6 => ?_) (fun h6 => ?_)
   ·have q7 : (v = true) := auq h6
    rw [if_pos q7] at hF
    cases hF
    repeat (first | refine chk.ga ?_ | simp -dsimp [h1, z3, ↓e4, h6])
    refine Leave.go _ (Gh.refl _) (hq _ ?_)
    repeat (first | refine chk.ga ?_ | simp -dsimp [h1, z3, ↓e4, h6])
   ·have q7 : ¬ (v = true) := auq h6
    rw [if_neg q7] at hF
    have w8 : IntKind.i64.wrap ((i : Int) + 1) = (i : Int) + 1 := wrap_in (by omega) (by omega)
    repeat (first | refine chk.ga ?_ | simp -dsimp [h1, z3, ↓e4, h6, q7, w8])
    refine Again.go _ ?_ ((ih_slices_IndexFunc_VarType__impl_scope_typeOfVar_1_l1 (i + 1) o hF) _ rfl _ hq)
    exact (Gh.to3 (by simp) (by first | simp -dsimp [h1, z3, ↓e4, h6, q7, w8]; done | simp_all))
  ·have q2 : ¬ (i < s.length) := auq h1
   have z3 : ¬ ((i : Int) < (s.length : Int)) := auz
   rw [if_neg q2] at hF
   cases hF
   repeat (first | refine chk.ga ?_ | simp -dsimp [h1, q2, z3])
   refine Leave.go ⟨[], []⟩ (Gh.to3 (by simp) (by first | simp -dsimp [h1, q2, z3]; done | simp_all)) ?_
   exact hq

theorem C.slices_IndexFunc_VarType__impl_scope_typeOfVar_1 (s : List Vl.VarType) (k0 : Int) (r : Int) (hF : F.slices_IndexFunc_VarType__impl_scope_typeOfVar_1 s k0 = some r) : PureCall Tryz.prog B 120 [.arr (List.map Vl.VarType.c s), .fn (.func 121) [] [.rptr [.lit (.int .i64 k0)] 0]] (.lit (.int .i64 r)) := by
 unfold F.slices_IndexFunc_VarType__impl_scope_typeOfVar_1 at hF
 refine PureCall.enterLe Tryz.func120 (by kernel_rfl) rfl Tryz.ntmps120 (by simp) (by simp) ?_
 repeat (first | refine chk.ga ?_ | simp -dsimp)
 have hF := ob hF; obtain ⟨o', ho9, hF⟩ := hF
 refine ALoop.goU _ ?_ (((CC.slices_IndexFunc_VarType__impl_scope_typeOfVar_1_l1 B hB1 hB2 s k0) 0 o' ho9) _ rfl _ ?_)
 ·exact (Gh.to3 (by simp) (by simp -dsimp))
 rcases o' with r0 | sx
 ·dsimp only at hF
  cases hF
  intro st h
  simpa using h
 ·dsimp only at hF
  cases hF
  repeat (first | refine chk.ga ?_ | simp -dsimp)
  all_goals (try first | omega | rfl)

theorem C.impl_scope_typeOfVar (s : Vl.T_impl_scope) (v : Int) (r : Vl.Ty × Bool) (hF : F.impl_scope_typeOfVar s v = some r) : PureCall Tryz.prog B 90 [.agg [.arr (List.map Vl.Data.c s.f0), .arr (List.map Vl.FunType.c s.f1), .arr (List.map Vl.VarType.c s.f2)], .lit (.int .i64 v)] (.tup [.agg [.lit (.int .i64 r.1.data), .lit (.int .i64 r.1.index)], .lit (.bool r.2)]) := by
 unfold F.impl_scope_typeOfVar at hF
 refine PureCall.enterLe Tryz.func90 (by kernel_rfl) rfl Tryz.ntmps90 (by simp) (by simp) ?_
 repeat (first | refine chk.ga ?_ | simp -dsimp)
 have hF := ob hF; obtain ⟨v1, e2, hF⟩ := hF
 refine ((C.slices_IndexFunc_VarType__impl_scope_typeOfVar_1 B hB1 hB2 s.f2 v v1 e2)).lend (by simp -dsimp) (by simp -dsimp) ?_
 repeat (first | refine chk.ga ?_ | simp -dsimp)
 refine abr.split (fun h3 => ?_) (fun h3 => ?_)
 ·have q4 : (v1 < 0) := auq h3
  rw [if_pos q4] at hF
  cases hF
  repeat (first | refine chk.ga ?_ | simp -dsimp [h3])
  all_goals (try first | omega | rfl)
 ·have q4 : ¬ (v1 < 0) := auq h3
  rw [if_neg q4] at hF
  have hF := ob hF; obtain ⟨x, e5a, hF⟩ := hF
  have e5a := at_some e5a; obtain ⟨ne5, e5⟩ := e5a
  have le5 := lt_of_get e5
  cases hF
  repeat (first | refine chk.ga ?_ | simp -dsimp [h3, q4, ↓e5])
  all_goals (try first | omega | rfl)

theorem C.impl_fits (a : Vl.Ty) (b : Vl.Ty) (r : Bool) (hF : F.impl_fits a b = some r) : PureCall Tryz.prog B 91 [.agg [.lit (.int .i64 a.data), .lit (.int .i64 a.index)], .agg [.lit (.int .i64 b.data), .lit (.int .i64 b.index)]] (.lit (.bool r)) := by
 unfold F.impl_fits at hF
 refine PureCall.enterLe Tryz.func91 (by kernel_rfl) rfl Tryz.ntmps91 (by simp) (by simp) ?_
 repeat (first | refine chk.ga ?_ | simp -dsimp)
 refine abr.split (fun h1 => ?_) (fun h1 => ?_)
 ·have q2 : (a.data = b.data) := auq h1
  rw [if_pos q2] at hF
  repeat (first | refine chk.ga ?_ | simp -dsimp [h1])
  refine abr.split (fun h3 => ?_) (fun h3 => ?_)
  ·have q4 : ¬ (b.index = 0) := auq h3
   rw [if_neg q4] at hF
   cases hF
   repeat (first | refine chk.ga ?_ | simp -dsimp [h1, h3, q4])
   all_goals (try first | omega | rfl)
  ·have q4 : (b.index = 0) := auq h3
   rw [if_pos q4] at hF
   cases hF
   repeat (first | refine chk.ga ?_ | simp -dsimp [h1, h3, q4])
   all_goals (try first | omega | rfl)
 ·have q2 : ¬ (a.data = b.data) := auq h1
  rw [if_neg q2] at hF
  cases hF
  repeat (first | refine chk.ga ?_ | simp -dsimp [h1, q2])
  all_goals (try first | omega | rfl)

theorem CC.impl_ctorsOf_l1 (t : Vl.Ty) (x : Vl.Data) : (∀ (i : Nat) (out : List Int) (o : List Int), F.impl_ctorsOf_l1 t x i out = some o → ∀ (c : Code), navO [1, 1, 0, 1, 0, 1, 0, 0] (bodyOf Tryz.f93) = some c → ∀ (Q : Exit → ASt → Prop), (Q (.exit 0) ⟨[(5, .own 1 (List.length (α := Int) o))], [.dead, .elems 1 (List.map cI o)]⟩) → ALoopU Tryz.prog B 0 44 (hold c .mk) ⟨[(3, .ptr 0 0), (5, .own 1 (List.length (α := Int) out)), (16, .arr (List.map Vl.Ctor.c x.ctors)), (17, .lit (.int .i64 (x.ctors.length : Int))), (18, .lit (.int .i64 (i : Int)))], [.cells [.lit (.int .i64 t.data), .lit (.int .i64 t.index)], .elems 1 (List.map cI out)]⟩ (hold Q .mk)) := by
 refine F.impl_ctorsOf_l1.partial_correctness t x
  _
  ?_
 ·intro _f_impl_ctorsOf_l1 ih_impl_ctorsOf_l1 i out o hF
  intro c hc Q hq
  obtain rfl : c = _ := navEq hc rfl
  refine ALoopU.know fun hk hs => ?_
  have b16 := hk 16
  simp -dsimp at b16
  have d1 := hs 1 _ rfl
  simp -dsimp [Blk.bnd] at d1
  clear hk hs
  refine ALoopU.enter ?_
  repeat (first | refine chk.ga ?_ | simp -dsimp)
  refine abr.split (fun h4 => ?_) (fun h4 => ?_)
  ·have q5 : (i < x.ctors.length) := auq h4
   have z6 : ((i : Int) < (x.ctors.length : Int)) := auz
   rw [if_pos q5] at hF
   have hF := ob hF; obtain ⟨x7, e8, hF⟩ := hF
   have le8 := lt_of_get e8
   repeat (first | refine chk.ga ?_ | simp -dsimp [h4, z6, ↓e8])
   refine abr.split (fun h9 => ?_) (fun h9 => ?_)
   ·have q10 : ¬ (t.index = 0) := auq h9
    rw [if_neg q10] at hF
    repeat (first | refine chk.ga ?_ | simp -dsimp [h4, z6, ↓e8, h9, q10])
    refine abr.split (fun h11 => ?_) (fun h11 => ?_)
    ·have q12 : ¬ (x7.index = 0) := auq h11
     rw [if_neg q12] at hF
     repeat (first | refine chk.ga ?_ | simp -dsimp [h4, z6, ↓e8, h9, q10, h11, q12])
     refine abr.split (fun h13 => ?_) (fun h13 => ?_)
     ·have q14 : (x7.index = t.index) := auq h13
      rw [if_pos q14] at hF
      have hF := oc hF; obtain ⟨c15, hF⟩ := hF
      have w16 : IntKind.i64.wrap ((i : Int) + 1) = (i : Int) + 1 := wrap_in (by omega) (by omega)
      repeat (first | refine chk.ga ?_ | simp -dsimp [h4, z6, ↓e8, h9, q10, h11, q12, h13, w16])
      refine Again.go _ ?_ ((ih_impl_ctorsOf_l1 (i + 1) (out ++ [(i : Int)]) o hF) _ rfl _ hq)
      exact (Gh.to3 (by simp) (by first | simp -dsimp [h4, z6, ↓e8, h9, q10, h11, q12, h13, w16]; done | simp_all))
     ·have q14 : ¬ (x7.index = t.index) := auq h13
      rw [if_neg q14] at hF
      have w17 : IntKind.i64.wrap ((i : Int) + 1) = (i : Int) + 1 := wrap_in (by omega) (by omega)
      repeat (first | refine chk.ga ?_ | simp -dsimp [h4, z6, ↓e8, h9, q10, h11, q12, h13, q14, w17])
      refine Again.go _ ?_ ((ih_impl_ctorsOf_l1 (i + 1) out o hF) _ rfl _ hq)
      exact (Gh.to3 (by simp) (by first | simp -dsimp [h4, z6, ↓e8, h9, q10, h11, q12, h13, q14, w17]; done | simp_all))
    ·have q12 : (x7.index = 0) := auq h11
     rw [if_pos q12] at hF
     have hF := oc hF; obtain ⟨c18, hF⟩ := hF
     have w19 : IntKind.i64.wrap ((i : Int) + 1) = (i : Int) + 1 := wrap_in (by omega) (by omega)
     repeat (first | refine chk.ga ?_ | simp -dsimp [h4, z6, ↓e8, h9, q10, h11, q12, w19])
     refine Again.go _ ?_ ((ih_impl_ctorsOf_l1 (i + 1) (out ++ [(i : Int)]) o hF) _ rfl _ hq)
     exact (Gh.to3 (by simp) (by first | simp -dsimp [h4, z6, ↓e8, h9, q10, h11, q12, w19]; done | simp_all))
   ·have q10 : (t.index = 0) := auq h9
    rw [if_pos q10] at hF
    have hF := oc hF; obtain ⟨c20, hF⟩ := hF
    have w21 : IntKind.i64.wrap ((i : Int) + 1) = (i : Int) + 1 := wrap_in (by omega) (by omega)
    repeat (first | refine chk.ga ?_ | simp -dsimp [h4, z6, ↓e8, h9, q10, w21])
    refine Again.go _ ?_ ((ih_impl_ctorsOf_l1 (i + 1) (out ++ [(i : Int)]) o hF) _ rfl _ hq)
    exact (Gh.to3 (by simp) (by first | simp -dsimp [h4, z6, ↓e8, h9, q10, w21]; done | simp_all))
  ·have q5 : ¬ (i < x.ctors.length) := auq h4
   have z6 : ¬ ((i : Int) < (x.ctors.length : Int)) := auz
   rw [if_neg q5] at hF
   cases hF
   repeat (first | refine chk.ga ?_ | simp -dsimp [h4, q5, z6])
   refine Leave.go ⟨[(5, .own 1 (List.length (α := Int) out))], [.dead, .elems 1 (List.map cI out)]⟩ (Gh.to3 (by simp) (by first | simp -dsimp [h4, q5, z6]; done | simp_all)) ?_
   exact hq

theorem C.impl_ctorsOf (w : List Vl.Data) (t : Vl.Ty) (r : List Int) (hF : F.impl_ctorsOf w t = some r) : PureCall Tryz.prog B 93 [.arr (List.map Vl.Data.c w), .agg [.lit (.int .i64 t.data), .lit (.int .i64 t.index)]] (.arr (List.map cI r)) := by
 unfold F.impl_ctorsOf at hF
 refine PureCall.enterLe Tryz.func93 (by kernel_rfl) rfl Tryz.ntmps93 (by simp) (by simp) ?_
 repeat (first | refine chk.ga ?_ | simp -dsimp)
 refine abr.split (fun h1 => ?_) (fun h1 => ?_)
 ·have q2 : ¬ (t.data = (-1)) := auq h1
  rw [if_neg q2] at hF
  have hF := ob hF; obtain ⟨x, e3a, hF⟩ := hF
  have e3a := at_some e3a; obtain ⟨ne3, e3⟩ := e3a
  have le3 := lt_of_get e3
  repeat (first | refine chk.ga ?_ | simp -dsimp [h1, q2, ↓e3])
  have hF := ob hF; obtain ⟨o', ho22, hF⟩ := hF
  refine ALoop.goU ⟨[(3, .ptr 0 0), (5, .own 1 (List.length (α := Int) [])), (16, .arr (List.map Vl.Ctor.c x.ctors)), (17, .lit (.int .i64 (x.ctors.length : Int))), (18, .lit (.int .i64 (0 : Int)))], [.cells [.lit (.int .i64 t.data), .lit (.int .i64 t.index)], .elems 1 (List.map cI [])]⟩ (by refine Gh.trans (Gh.nil 5 1 (by simp -dsimp)) ?_; exact (Gh.to3 (by simp) (by first | simp -dsimp [h1, q2, ↓e3]; done | simp_all))) ?_
  refine ((CC.impl_ctorsOf_l1 B hB1 hB2 t x) 0 [] o' ho22) _ rfl _ ?_
  cases hF
  repeat (first | refine chk.ga ?_ | simp -dsimp)
  all_goals (try first | omega | rfl)
 ·have q2 : (t.data = (-1)) := auq h1
  rw [if_pos q2] at hF
  cases hF
  repeat (first | refine chk.ga ?_ | simp -dsimp [h1, q2])
  all_goals (try first | omega | rfl)

theorem CC.slices_Index_int_l1 (s : List Int) (v : Int) : (∀ (i : Nat) (o : Lo Int Unit), F.slices_Index_int_l1 s v i = some o → ∀ (c : Code), navO [1, 0, 1, 0, 0] (bodyOf Tryz.f122) = some c → ∀ (Q : Exit → ASt → Prop), o.post (fun r => ∀ st, Post Tryz.prog Tryz.f122 (fun r' _ => r'.le (.lit (.int .i64 r))) .ret st → Q .ret st) (fun s => Q (.exit 0) ⟨[], []⟩) → ALoopU Tryz.prog B 0 19 (hold c .mk) ⟨[(0, .arr (List.map cI s)), (1, .lit (.int .i64 v)), (7, .lit (.int .i64 (s.length : Int))), (8, .lit (.int .i64 (i : Int)))], []⟩ (hold Q .mk)) := by
 refine F.slices_Index_int_l1.partial_correctness s v
  _
  ?_
 ·intro _f_slices_Index_int_l1 ih_slices_Index_int_l1 i o hF
  intro c hc Q hq
  obtain rfl : c = _ := navEq hc rfl
  refine ALoopU.know fun hk hs => ?_
  have b0 := hk 0
  simp -dsimp at b0
  clear hk hs
  refine ALoopU.enter ?_
  repeat (first | refine chk.ga ?_ | simp -dsimp)
  refine abr.split (fun h1 => ?_) (fun h1 => ?_)
  ·have q2 : (i < s.length) := auq h1
   have z3 : ((i : Int) < (s.length : Int)) := auz
   rw [if_pos q2] at hF
   have hF := ob hF; obtain ⟨x, e4, hF⟩ := hF
   have le4 := lt_of_get e4
   repeat (first | refine chk.ga ?_ | simp -dsimp [h1, z3, ↓e4])
   refine abr.split (fun h5 => ?_) (fun h5 => ?_)
   ·have q6 : (v = x) := auq h5
    rw [if_pos q6] at hF
    cases hF
    repeat (first | refine chk.ga ?_ | simp -dsimp [h1, z3, ↓e4, h5])
    refine Leave.go _ (Gh.refl _) (hq _ ?_)
    repeat (first | refine chk.ga ?_ | simp -dsimp [h1, z3, ↓e4, h5])
   ·have q6 : ¬ (v = x) := auq h5
    rw [if_neg q6] at hF
    have w7 : IntKind.i64.wrap ((i : Int) + 1) = (i : Int) + 1 := wrap_in (by omega) (by omega)
    repeat (first | refine chk.ga ?_ | simp -dsimp [h1, z3, ↓e4, h5, q6, w7])
    refine Again.go _ ?_ ((ih_slices_Index_int_l1 (i + 1) o hF) _ rfl _ hq)
    exact (Gh.to3 (by simp) (by first | simp -dsimp [h1, z3, ↓e4, h5, q6, w7]; done | simp_all))
  ·have q2 : ¬ (i < s.length) := auq h1
   have z3 : ¬ ((i : Int) < (s.length : Int)) := auz
   rw [if_neg q2] at hF
   cases hF
   repeat (first | refine chk.ga ?_ | simp -dsimp [h1, q2, z3])
   refine Leave.go ⟨[], []⟩ (Gh.to3 (by simp) (by first | simp -dsimp [h1, q2, z3]; done | simp_all)) ?_
   exact hq

theorem C.slices_Index_int (s : List Int) (v : Int) (r : Int) (hF : F.slices_Index_int s v = some r) : PureCall Tryz.prog B 122 [.arr (List.map cI s), .lit (.int .i64 v)] (.lit (.int .i64 r)) := by
 unfold F.slices_Index_int at hF
 refine PureCall.enterLe Tryz.func122 (by kernel_rfl) rfl Tryz.ntmps122 (by simp) (by simp) ?_
 repeat (first | refine chk.ga ?_ | simp -dsimp)
 have hF := ob hF; obtain ⟨o', ho8, hF⟩ := hF
 refine ALoop.goU _ ?_ (((CC.slices_Index_int_l1 B hB1 hB2 s v) 0 o' ho8) _ rfl _ ?_)
 ·exact (Gh.to3 (by simp) (by simp -dsimp))
 rcases o' with r0 | sx
 ·dsimp only at hF
  cases hF
  intro st h
  simpa using h
 ·dsimp only at hF
  cases hF
  repeat (first | refine chk.ga ?_ | simp -dsimp)
  all_goals (try first | omega | rfl)

theorem C.slices_Contains_int (s : List Int) (v : Int) (r : Bool) (hF : F.slices_Contains_int s v = some r) : PureCall Tryz.prog B 92 [.arr (List.map cI s), .lit (.int .i64 v)] (.lit (.bool r)) := by
 unfold F.slices_Contains_int at hF
 refine PureCall.enterLe Tryz.func92 (by kernel_rfl) rfl Tryz.ntmps92 (by simp) (by simp) ?_
 repeat (first | refine chk.ga ?_ | simp -dsimp)
 have hF := ob hF; obtain ⟨v1, e2, hF⟩ := hF
 refine ((C.slices_Index_int B hB1 hB2 s v v1 e2)).goW (by simp) (by simp) ?_
 cases hF
 repeat (first | refine chk.ga ?_ | simp -dsimp)
 all_goals (try first | omega | rfl)

theorem CC.impl_argTypes_l1 (t : Vl.Ty) (x2 : Vl.Ctor) : (∀ (i : Nat) (out : List Vl.Ty) (o : List Vl.Ty), F.impl_argTypes_l1 t x2 i out = some o → ∀ (c : Code), navO [1, 1, 1, 1, 1, 0, 1, 0, 0] (bodyOf Tryz.f94) = some c → ∀ (Q : Exit → ASt → Prop), (Q (.exit 0) ⟨[(9, .own 2 (List.length (α := Vl.Ty) o))], [.dead, .dead, .elems 2 (List.map Vl.Ty.c o)]⟩) → ALoopU Tryz.prog B 0 45 (hold c .mk) ⟨[(8, .lit (.int .i64 t.index)), (9, .own 2 (List.length (α := Vl.Ty) out)), (28, .arr (List.map Vl.Ty.c x2.args)), (29, .lit (.int .i64 (x2.args.length : Int))), (30, .lit (.int .i64 (i : Int)))], [.dead, .dead, .elems 2 (List.map Vl.Ty.c out)]⟩ (hold Q .mk)) := by
 refine F.impl_argTypes_l1.partial_correctness t x2
  _
  ?_
 ·intro _f_impl_argTypes_l1 ih_impl_argTypes_l1 i out o hF
  intro c hc Q hq
  obtain rfl : c = _ := navEq hc rfl
  refine ALoopU.know fun hk hs => ?_
  have b28 := hk 28
  simp -dsimp at b28
  have d2 := hs 2 _ rfl
  simp -dsimp [Blk.bnd] at d2
  clear hk hs
  refine ALoopU.enter ?_
  repeat (first | refine chk.ga ?_ | simp -dsimp)
  refine abr.split (fun h6 => ?_) (fun h6 => ?_)
  ·have q7 : (i < x2.args.length) := auq h6
   have z8 : ((i : Int) < (x2.args.length : Int)) := auz
   rw [if_pos q7] at hF
   have hF := ob hF; obtain ⟨x9, e10, hF⟩ := hF
   have le10 := lt_of_get e10
   repeat (first | refine chk.ga ?_ | simp -dsimp [h6, z8, ↓e10])
   refine abr.split (fun h11 => ?_) (fun h11 => ?_)
   ·have q12 : (x9.index = (-1)) := auq h11
    rw [if_pos q12] at hF
    have hF := oc hF; obtain ⟨c13, hF⟩ := hF
    have w14 : IntKind.i64.wrap ((i : Int) + 1) = (i : Int) + 1 := wrap_in (by omega) (by omega)
    repeat (first | refine chk.ga ?_ | simp -dsimp [h6, z8, ↓e10, h11, w14])
    refine Again.go _ ?_ ((ih_impl_argTypes_l1 (i + 1) (out ++ [(⟨x9.data, t.index⟩ : Vl.Ty)]) o hF) _ rfl _ hq)
    exact (Gh.to3 (by simp) (by first | simp -dsimp [h6, z8, ↓e10, h11, w14]; done | simp_all))
   ·have q12 : ¬ (x9.index = (-1)) := auq h11
    rw [if_neg q12] at hF
    have hF := oc hF; obtain ⟨c15, hF⟩ := hF
    have w16 : IntKind.i64.wrap ((i : Int) + 1) = (i : Int) + 1 := wrap_in (by omega) (by omega)
    repeat (first | refine chk.ga ?_ | simp -dsimp [h6, z8, ↓e10, h11, q12, w16])
    refine Again.go _ ?_ ((ih_impl_argTypes_l1 (i + 1) (out ++ [x9]) o hF) _ rfl _ hq)
    exact (Gh.to3 (by simp) (by first | simp -dsimp [h6, z8, ↓e10, h11, q12, w16]; done | simp_all))
  ·have q7 : ¬ (i < x2.args.length) := auq h6
   have z8 : ¬ ((i : Int) < (x2.args.length : Int)) := auz
   rw [if_neg q7] at hF
   cases hF
   repeat (first | refine chk.ga ?_ | simp -dsimp [h6, q7, z8])
   refine Leave.go ⟨[(9, .own 2 (List.length (α := Vl.Ty) out))], [.dead, .dead, .elems 2 (List.map Vl.Ty.c out)]⟩ (Gh.to3 (by simp) (by first | simp -dsimp [h6, q7, z8]; done | simp_all)) ?_
   exact hq

end Go.Proofs.YtdehlcjhndoclaaGreatDoor
