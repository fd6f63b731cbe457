/- The contracts: the code computes the functions (printed by gen.py). -/
import Derived.Test.YtelglbenbnkjmaaProg
import Derived.Test.YtelglbenbnkjmaaExactMaskValueF
namespace Go.Proofs.Ytelglbenbnkjmaa
open Go Go.Proofs Go.Vl
set_option linter.unusedSimpArgs false
set_option linter.unusedVariables false
set_option linter.unusedSectionVars false
set_option maxRecDepth 100000
set_option maxHeartbeats 4000000

attribute [local irreducible] ECallA NCallA aL aLg AMake MLoop AgainM LeaveM awpM aopsM MutCall BCall chk abr ACall ALoop ALoopU ADraw Again Leave PCallA PCall Post awp aops PureCall hold
theorem follows : Try.prog.follows .mixedOrders = true := by kernel_rfl
@[simp] theorem ti2 : tiOf Try.prog 2 = some ⟨.word, 1, [.int .i64 0]⟩ := by kernel_rfl
@[simp] theorem ti3 : tiOf Try.prog 3 = some ⟨.word, 1, [.int .i64 0]⟩ := by kernel_rfl
@[simp] theorem ti4 : tiOf Try.prog 4 = some ⟨.word, 1, [.bool false]⟩ := by kernel_rfl
@[simp] theorem ti5 : tiOf Try.prog 5 = some ⟨.word, 1, [.int .u8 0]⟩ := by kernel_rfl
@[simp] theorem ti9 : tiOf Try.prog 9 = some ⟨.word, 1, [.string ByteArray.empty]⟩ := by kernel_rfl
@[simp] theorem ti22 : tiOf Try.prog 22 = some ⟨.slice 2 40 [.string ByteArray.empty, .slice none 0 0], 1, [.slice none 0 0]⟩ := by kernel_rfl
@[simp] theorem sl22 : isSl Try.prog 22 = true := by kernel_rfl
@[simp] theorem ti26 : tiOf Try.prog 26 = some ⟨.struct [(0, 1), (1, 1)], 2, [.int .i64 0, .int .i64 0]⟩ := by kernel_rfl
@[simp] theorem pr26 : pair2B Try.prog 26 = true := by kernel_rfl
@[simp] theorem ti35 : tiOf Try.prog 35 = some ⟨.slice 2 40 [.string ByteArray.empty, .slice none 0 0], 1, [.slice none 0 0]⟩ := by kernel_rfl
@[simp] theorem sl35 : isSl Try.prog 35 = true := by kernel_rfl
@[simp] theorem ti41 : tiOf Try.prog 41 = some ⟨.struct [(0, 1), (1, 1)], 2, [.int .i64 0, .int .i64 0]⟩ := by kernel_rfl
@[simp] theorem pr41 : pair2B Try.prog 41 = true := by kernel_rfl
@[simp] theorem ti75 : tiOf Try.prog 75 = some ⟨.slice 1 1 [.int .u8 0], 1, [.slice none 0 0]⟩ := by kernel_rfl
@[simp] theorem sl75 : isSl Try.prog 75 = true := by kernel_rfl
@[simp] theorem ti80 : tiOf Try.prog 80 = some ⟨.slice 3 40 [.int .i64 0, .int .i64 0, .slice none 0 0], 1, [.slice none 0 0]⟩ := by kernel_rfl
@[simp] theorem sl80 : isSl Try.prog 80 = true := by kernel_rfl
@[simp] theorem ti82 : tiOf Try.prog 82 = some ⟨.struct [(0, 1), (1, 1), (2, 1)], 3, [.int .i64 0, .int .i64 0, .slice none 0 0]⟩ := by kernel_rfl
@[simp] theorem ti86 : tiOf Try.prog 86 = some ⟨.slice 3 40 [.int .i64 0, .int .i64 0, .slice none 0 0], 1, [.slice none 0 0]⟩ := by kernel_rfl
@[simp] theorem sl86 : isSl Try.prog 86 = true := by kernel_rfl
@[simp] theorem ti88 : tiOf Try.prog 88 = some ⟨.struct [(0, 1), (1, 1), (2, 1)], 3, [.int .i64 0, .int .i64 0, .slice none 0 0]⟩ := by kernel_rfl
@[simp] theorem ti95 : tiOf Try.prog 95 = some ⟨.slice 1 24 [.slice none 0 0], 1, [.slice none 0 0]⟩ := by kernel_rfl
@[simp] theorem sl95 : isSl Try.prog 95 = true := by kernel_rfl
@[simp] theorem ti103 : tiOf Try.prog 103 = some ⟨.slice 3 48 [.string ByteArray.empty, .slice none 0 0, .int .i64 0], 1, [.slice none 0 0]⟩ := by kernel_rfl
@[simp] theorem sl103 : isSl Try.prog 103 = true := by kernel_rfl
@[simp] theorem ti105 : tiOf Try.prog 105 = some ⟨.struct [(0, 1), (1, 1)], 2, [.string ByteArray.empty, .slice none 0 0]⟩ := by kernel_rfl
@[simp] theorem ti108 : tiOf Try.prog 108 = some ⟨.slice 3 48 [.string ByteArray.empty, .slice none 0 0, .int .i64 0], 1, [.slice none 0 0]⟩ := by kernel_rfl
@[simp] theorem sl108 : isSl Try.prog 108 = true := by kernel_rfl
@[simp] theorem ti110 : tiOf Try.prog 110 = some ⟨.struct [(0, 1), (1, 1)], 2, [.string ByteArray.empty, .slice none 0 0]⟩ := by kernel_rfl
@[simp] theorem ti134 : tiOf Try.prog 134 = some ⟨.slice 1 8 [.int .i64 0], 1, [.slice none 0 0]⟩ := by kernel_rfl
@[simp] theorem sl134 : isSl Try.prog 134 = true := by kernel_rfl
@[simp] theorem ti185 : tiOf Try.prog 185 = some ⟨.slice 2 16 [.int .i64 0, .int .i64 0], 1, [.slice none 0 0]⟩ := by kernel_rfl
@[simp] theorem sl185 : isSl Try.prog 185 = true := by kernel_rfl
@[simp] theorem ti208 : tiOf Try.prog 208 = some ⟨.struct [(0, 1), (1, 1), (2, 1)], 3, [.string ByteArray.empty, .slice none 0 0, .int .i64 0]⟩ := by kernel_rfl
@[simp] theorem ti215 : tiOf Try.prog 215 = some ⟨.slice 2 16 [.int .i64 0, .int .i64 0], 1, [.slice none 0 0]⟩ := by kernel_rfl
@[simp] theorem sl215 : isSl Try.prog 215 = true := by kernel_rfl
@[simp] theorem ti217 : tiOf Try.prog 217 = some ⟨.struct [(0, 1), (1, 1), (2, 1)], 3, [.string ByteArray.empty, .slice none 0 0, .int .i64 0]⟩ := by kernel_rfl
@[simp] theorem ti222 : mapB Try.prog 222 = true := by kernel_rfl
attribute [simp] Try.underlying2 Try.underlying3 Try.underlying4 Try.underlying5 Try.underlying9 Try.underlying22 Try.underlying35 Try.underlying75 Try.underlying80 Try.underlying86 Try.underlying95 Try.underlying103 Try.underlying108 Try.underlying134 Try.underlying185 Try.underlying215 Try.results8 Try.results9 Try.results14 Try.results17 Try.results20 Try.results36 Try.results38 Try.results40 Try.results41 Try.results42 Try.results45 Try.results46 Try.results47 Try.results48 Try.results49 Try.results50 Try.results51 Try.results52 Try.results56 Try.results60 Try.results63 Try.results89 Try.results91 Try.results94 Try.results97 Try.results98 Try.results99 Try.results100 Try.results103 Try.results104 Try.results105 Try.results106 Try.results107 Try.results108 Try.results109 Try.results110 Try.results111 Try.results112 Try.results113 Try.results118 Try.results119 Try.results124 Try.results125 Try.results128 Try.results129 Try.results145 Try.results148 Try.results149 Try.results150 Try.results151 Try.results152 Try.results153 Try.results154 Try.results155 Try.results156 Try.results157 Try.results158 Try.results161 Try.results162 Try.results165 Try.results170 Try.results171 Try.results173 Try.results183 Try.results184 Try.results185 Try.results186 Try.results187 Try.results188 Try.results189 Try.results190 Try.results191 Try.results192 Try.results193 Try.results194 Try.results195 Try.results196 Try.results197 Try.results198 Try.results199 Try.results200 Try.results201 Try.results202 Try.results204 Try.results214 Try.results215 Try.results216 Try.results217 Try.results218 Try.results219
variable (B : Nat) (hB1 : 67108864 ≤ B) (hB2 : B ≤ 9223372036854775807)
include hB1 hB2

theorem CC.laws_markText_l1  : (∀ (k3 : Int) (out : ByteArray) (o : ByteArray), F.laws_markText_l1 k3 out = some o → ∀ (c : Code), navO [1, 1, 1, 0, 0, 0] (bodyOf Try.f98) = some c → ∀ (Q : Exit → ASt → Prop), (Q (.exit 0) ⟨[(3, .lit (.string o))], []⟩) → ALoopU Try.prog B 0 20 (hold c .mk) ⟨[(0, .lit (.int .i64 k3)), (3, .lit (.string out))], []⟩ (hold Q .mk)) := by
 refine F.laws_markText_l1.partial_correctness 
  _
  ?_
 ·intro _f_laws_markText_l1 ih_laws_markText_l1 k3 out o hF
  intro c hc Q hq
  obtain rfl : c = _ := navEq hc rfl
  refine ALoopU.know fun hk hs => ?_
  clear hk hs
  refine ALoopU.enter ?_
  repeat (first | refine chk.ga ?_ | simp -dsimp)
  refine abr.split (fun h4 => ?_) (fun h4 => ?_)
  ·have q5 : (0 < k3) := auq h4
   rw [if_pos q5] at hF
   have hF := oc hF; obtain ⟨c6, hF⟩ := hF
   repeat (first | refine chk.ga ?_ | simp -dsimp [h4])
   refine Again.go _ ?_ ((ih_laws_markText_l1 (IntKind.i64.wrap (k3.tdiv 10)) ((strB [IntKind.u8.wrap (IntKind.i64.wrap (48 + k3.tmod 10))]) ++ out) o hF) _ rfl _ hq)
   exact (Gh.to3 (by simp) (by first | simp -dsimp [h4]; done | simp_all))
  ·have q5 : ¬ (0 < k3) := auq h4
   rw [if_neg q5] at hF
   cases hF
   repeat (first | refine chk.ga ?_ | simp -dsimp [h4, q5])
   refine Leave.go ⟨[(3, .lit (.string out))], []⟩ (Gh.to3 (by simp) (by first | simp -dsimp [h4, q5]; done | simp_all)) ?_
   exact hq

theorem C.laws_markText (k : Int) (r : ByteArray) (hF : F.laws_markText k = some r) : PureCall Try.prog B 98 [.lit (.int .i64 k)] (.lit (.string r)) := by
 unfold F.laws_markText at hF
 refine PureCall.enterLe Try.func98 (by kernel_rfl) rfl Try.ntmps98 (by simp) (by simp) ?_
 repeat (first | refine chk.ga ?_ | simp -dsimp)
 refine abr.split (fun h1 => ?_) (fun h1 => ?_)
 ·have q2 : (k ≤ 0) := auq h1
  rw [if_pos q2] at hF
  cases hF
  repeat (first | refine chk.ga ?_ | simp -dsimp [h1])
  all_goals (try first | omega | rfl)
 ·have q2 : ¬ (k ≤ 0) := auq h1
  rw [if_neg q2] at hF
  repeat (first | refine chk.ga ?_ | simp -dsimp [h1, q2])
  have hF := ob hF; obtain ⟨o', ho7, hF⟩ := hF
  refine ALoop.goU _ ?_ (((CC.laws_markText_l1 B hB1 hB2 ) k ByteArray.empty o' ho7) _ rfl _ ?_)
  ·exact (Gh.to3 (by simp) (by first | simp -dsimp [h1, q2]; done | simp_all))
  have hF := oc hF; obtain ⟨c8, hF⟩ := hF
  cases hF
  repeat (first | refine chk.ga ?_ | simp -dsimp)
  all_goals (try first | omega | rfl)

theorem C.laws_szTypeS (a : List Vl.Ty) (left' : Int) (r : Int) (hF : F.laws_szTypeS a left' = some r) : PureCall Try.prog B 192 [.arr (List.map Vl.Ty.c a), .lit (.int .i64 left')] (.lit (.int .i64 r)) := by
 unfold F.laws_szTypeS at hF
 refine PureCall.enterLe Try.func192 (by kernel_rfl) rfl Try.ntmps192 (by simp) (by simp) ?_
 repeat (first | refine chk.ga ?_ | simp -dsimp)
 refine abr.split (fun h1 => ?_) (fun h1 => ?_)
 ·have q2 : (IntKind.i64.wrap (left' - (a.length : Int)) < 0) := auq h1
  rw [if_pos q2] at hF
  cases hF
  repeat (first | refine chk.ga ?_ | simp -dsimp [h1])
  all_goals (try first | omega | rfl)
 ·have q2 : ¬ (IntKind.i64.wrap (left' - (a.length : Int)) < 0) := auq h1
  rw [if_neg q2] at hF
  cases hF
  repeat (first | refine chk.ga ?_ | simp -dsimp [h1, q2])
  all_goals (try first | omega | rfl)

theorem C.laws_szCtor (a : Vl.Ctor) (left' : Int) (r : Int) (hF : F.laws_szCtor a left' = some r) : PureCall Try.prog B 156 [.agg [.lit (.string a.name), .arr (List.map Vl.Ty.c a.args), .lit (.int .i64 a.index)], .lit (.int .i64 left')] (.lit (.int .i64 r)) := by
 unfold F.laws_szCtor at hF
 refine PureCall.enterLe Try.func156 (by kernel_rfl) rfl Try.ntmps156 (by simp) (by simp) ?_
 repeat (first | refine chk.ga ?_ | simp -dsimp)
 refine abr.split (fun h1 => ?_) (fun h1 => ?_)
 ·have q2 : (IntKind.i64.wrap (left' - (a.name.size : Int)) < 0) := auq h1
  rw [if_pos q2] at hF
  cases hF
  repeat (first | refine chk.ga ?_ | simp -dsimp [h1])
  all_goals (try first | omega | rfl)
 ·have q2 : ¬ (IntKind.i64.wrap (left' - (a.name.size : Int)) < 0) := auq h1
  rw [if_neg q2] at hF
  repeat (first | refine chk.ga ?_ | simp -dsimp [h1, q2])
  have hF := ob hF; obtain ⟨v, e3, hF⟩ := hF
  refine ((C.laws_szTypeS B hB1 hB2 a.args (IntKind.i64.wrap (left' - (a.name.size : Int))) v e3)).goW (by first | simp [h1, q2]; done | simp_all) (by simp) ?_
  repeat (first | refine chk.ga ?_ | simp -dsimp [h1, q2])
  refine abr.split (fun h4 => ?_) (fun h4 => ?_)
  ·have q5 : (v < 0) := auq h4
   rw [if_pos q5] at hF
   cases hF
   repeat (first | refine chk.ga ?_ | simp -dsimp [h1, q2, h4])
   all_goals (try first | omega | rfl)
  ·have q5 : ¬ (v < 0) := auq h4
   rw [if_neg q5] at hF
   cases hF
   repeat (first | refine chk.ga ?_ | simp -dsimp [h1, q2, h4, q5])
   all_goals (try first | omega | rfl)

theorem CC.laws_szCtorS_l1 (a : List Vl.Ctor) : (∀ (left'3 : Int) (i : Nat) (o : Lo Int Int), F.laws_szCtorS_l1 a left'3 i = some o → ∀ (c : Code), navO [1, 1, 1, 0, 1, 0, 0] (bodyOf Try.f112) = some c → ∀ (Q : Exit → ASt → Prop), o.post (fun r => ∀ st, Post Try.prog Try.f112 (fun r' _ => r'.le (.lit (.int .i64 r))) .ret st → Q .ret st) (fun s => Q (.exit 0) ⟨[(1, .lit (.int .i64 s))], []⟩) → ALoopU Try.prog B 0 27 (hold c .mk) ⟨[(0, .arr (List.map Vl.Ctor.c a)), (1, .lit (.int .i64 left'3)), (5, .lit (.int .i64 (i : Int)))], []⟩ (hold Q .mk)) := by
 refine F.laws_szCtorS_l1.partial_correctness a
  _
  ?_
 ·intro _f_laws_szCtorS_l1 ih_laws_szCtorS_l1 left'3 i o hF
  intro c hc Q hq
  obtain rfl : c = _ := navEq hc rfl
  refine ALoopU.know fun hk hs => ?_
  have b0 := hk 0
  simp -dsimp at b0
  clear hk hs
  refine ALoopU.enter ?_
  repeat (first | refine chk.ga ?_ | simp -dsimp)
  refine abr.split (fun h4 => ?_) (fun h4 => ?_)
  ·have q5 : (i < a.length) := auq h4
   have z6 : ((i : Int) < (a.length : Int)) := auz
   rw [if_pos q5] at hF
   have hF := ob hF; obtain ⟨x, e7, hF⟩ := hF
   have le7 := lt_of_get e7
   repeat (first | refine chk.ga ?_ | simp -dsimp [h4, z6, ↓e7])
   have hF := ob hF; obtain ⟨v, e8, hF⟩ := hF
   refine ((C.laws_szCtor B hB1 hB2 x left'3 v e8)).goW (by first | simp [h4, z6, ↓e7]; done | simp_all) (by simp) ?_
   repeat (first | refine chk.ga ?_ | simp -dsimp [h4, z6, ↓e7])
   refine abr.split (fun h9 => ?_) (fun h9 => ?_)
   ·have q10 : (v < 0) := auq h9
    rw [if_pos q10] at hF
    cases hF
    repeat (first | refine chk.ga ?_ | simp -dsimp [h4, z6, ↓e7, h9])
    refine Leave.go _ (Gh.refl _) (hq _ ?_)
    repeat (first | refine chk.ga ?_ | simp -dsimp [h4, z6, ↓e7, h9])
   ·have q10 : ¬ (v < 0) := auq h9
    rw [if_neg q10] at hF
    have w11 : IntKind.i64.wrap ((i : Int) + 1) = (i : Int) + 1 := wrap_in (by omega) (by omega)
    repeat (first | refine chk.ga ?_ | simp -dsimp [h4, z6, ↓e7, h9, q10, w11])
    refine Again.go _ ?_ ((ih_laws_szCtorS_l1 v (i + 1) o hF) _ rfl _ hq)
    exact (Gh.to3 (by simp) (by first | simp -dsimp [h4, z6, ↓e7, h9, q10, w11]; done | simp_all))
  ·have q5 : ¬ (i < a.length) := auq h4
   have z6 : ¬ ((i : Int) < (a.length : Int)) := auz
   rw [if_neg q5] at hF
   cases hF
   repeat (first | refine chk.ga ?_ | simp -dsimp [h4, q5, z6])
   refine Leave.go ⟨[(1, .lit (.int .i64 left'3))], []⟩ (Gh.to3 (by simp) (by first | simp -dsimp [h4, q5, z6]; done | simp_all)) ?_
   exact hq

theorem C.laws_szCtorS (a : List Vl.Ctor) (left' : Int) (r : Int) (hF : F.laws_szCtorS a left' = some r) : PureCall Try.prog B 112 [.arr (List.map Vl.Ctor.c a), .lit (.int .i64 left')] (.lit (.int .i64 r)) := by
 unfold F.laws_szCtorS at hF
 refine PureCall.enterLe Try.func112 (by kernel_rfl) rfl Try.ntmps112 (by simp) (by simp) ?_
 repeat (first | refine chk.ga ?_ | simp -dsimp)
 refine abr.split (fun h1 => ?_) (fun h1 => ?_)
 ·have q2 : (IntKind.i64.wrap (left' - (a.length : Int)) < 0) := auq h1
  rw [if_pos q2] at hF
  cases hF
  repeat (first | refine chk.ga ?_ | simp -dsimp [h1])
  all_goals (try first | omega | rfl)
 ·have q2 : ¬ (IntKind.i64.wrap (left' - (a.length : Int)) < 0) := auq h1
  rw [if_neg q2] at hF
  repeat (first | refine chk.ga ?_ | simp -dsimp [h1, q2])
  have hF := ob hF; obtain ⟨o', ho12, hF⟩ := hF
  refine ALoop.goU _ ?_ (((CC.laws_szCtorS_l1 B hB1 hB2 a) (IntKind.i64.wrap (left' - (a.length : Int))) 0 o' ho12) _ rfl _ ?_)
  ·exact (Gh.to3 (by simp) (by first | simp -dsimp [h1, q2]; done | simp_all))
  rcases o' with r0 | sx
  ·dsimp only at hF
   cases hF
   intro st h
   simpa using h
  ·dsimp only at hF
   cases hF
   repeat (first | refine chk.ga ?_ | simp -dsimp)
   all_goals (try first | omega | rfl)

theorem C.laws_szData (a : Vl.Data) (left' : Int) (r : Int) (hF : F.laws_szData a left' = some r) : PureCall Try.prog B 52 [.agg [.lit (.string a.name), .arr (List.map Vl.Ctor.c a.ctors)], .lit (.int .i64 left')] (.lit (.int .i64 r)) := by
 unfold F.laws_szData at hF
 refine PureCall.enterLe Try.func52 (by kernel_rfl) rfl Try.ntmps52 (by simp) (by simp) ?_
 repeat (first | refine chk.ga ?_ | simp -dsimp)
 refine abr.split (fun h1 => ?_) (fun h1 => ?_)
 ·have q2 : (IntKind.i64.wrap (left' - (a.name.size : Int)) < 0) := auq h1
  rw [if_pos q2] at hF
  cases hF
  repeat (first | refine chk.ga ?_ | simp -dsimp [h1])
  all_goals (try first | omega | rfl)
 ·have q2 : ¬ (IntKind.i64.wrap (left' - (a.name.size : Int)) < 0) := auq h1
  rw [if_neg q2] at hF
  repeat (first | refine chk.ga ?_ | simp -dsimp [h1, q2])
  have hF := ob hF; obtain ⟨v, e3, hF⟩ := hF
  refine ((C.laws_szCtorS B hB1 hB2 a.ctors (IntKind.i64.wrap (left' - (a.name.size : Int))) v e3)).goW (by first | simp [h1, q2]; done | simp_all) (by simp) ?_
  repeat (first | refine chk.ga ?_ | simp -dsimp [h1, q2])
  refine abr.split (fun h4 => ?_) (fun h4 => ?_)
  ·have q5 : (v < 0) := auq h4
   rw [if_pos q5] at hF
   cases hF
   repeat (first | refine chk.ga ?_ | simp -dsimp [h1, q2, h4])
   all_goals (try first | omega | rfl)
  ·have q5 : ¬ (v < 0) := auq h4
   rw [if_neg q5] at hF
   cases hF
   repeat (first | refine chk.ga ?_ | simp -dsimp [h1, q2, h4, q5])
   all_goals (try first | omega | rfl)

theorem CC.laws_szDataS_l1 (a : List Vl.Data) : (∀ (left'3 : Int) (i : Nat) (o : Lo Int Int), F.laws_szDataS_l1 a left'3 i = some o → ∀ (c : Code), navO [1, 1, 1, 0, 1, 0, 0] (bodyOf Try.f9) = some c → ∀ (Q : Exit → ASt → Prop), o.post (fun r => ∀ st, Post Try.prog Try.f9 (fun r' _ => r'.le (.lit (.int .i64 r))) .ret st → Q .ret st) (fun s => Q (.exit 0) ⟨[(1, .lit (.int .i64 s))], []⟩) → ALoopU Try.prog B 0 27 (hold c .mk) ⟨[(0, .arr (List.map Vl.Data.c a)), (1, .lit (.int .i64 left'3)), (5, .lit (.int .i64 (i : Int)))], []⟩ (hold Q .mk)) := by
 refine F.laws_szDataS_l1.partial_correctness a
  _
  ?_
 ·intro _f_laws_szDataS_l1 ih_laws_szDataS_l1 left'3 i o hF
  intro c hc Q hq
  obtain rfl : c = _ := navEq hc rfl
  refine ALoopU.know fun hk hs => ?_
  have b0 := hk 0
  simp -dsimp at b0
  clear hk hs
  refine ALoopU.enter ?_
  repeat (first | refine chk.ga ?_ | simp -dsimp)
  refine abr.split (fun h4 => ?_) (fun h4 => ?_)
  ·have q5 : (i < a.length) := auq h4
   have z6 : ((i : Int) < (a.length : Int)) := auz
   rw [if_pos q5] at hF
   have hF := ob hF; obtain ⟨x, e7, hF⟩ := hF
   have le7 := lt_of_get e7
   repeat (first | refine chk.ga ?_ | simp -dsimp [h4, z6, ↓e7])
   have hF := ob hF; obtain ⟨v, e8, hF⟩ := hF
   refine ((C.laws_szData B hB1 hB2 x left'3 v e8)).goW (by first | simp [h4, z6, ↓e7]; done | simp_all) (by simp) ?_
   repeat (first | refine chk.ga ?_ | simp -dsimp [h4, z6, ↓e7])
   refine abr.split (fun h9 => ?_) (fun h9 => ?_)
   ·have q10 : (v < 0) := auq h9
    rw [if_pos q10] at hF
    cases hF
    repeat (first | refine chk.ga ?_ | simp -dsimp [h4, z6, ↓e7, h9])
    refine Leave.go _ (Gh.refl _) (hq _ ?_)
    repeat (first | refine chk.ga ?_ | simp -dsimp [h4, z6, ↓e7, h9])
   ·have q10 : ¬ (v < 0) := auq h9
    rw [if_neg q10] at hF
    have w11 : IntKind.i64.wrap ((i : Int) + 1) = (i : Int) + 1 := wrap_in (by omega) (by omega)
    repeat (first | refine chk.ga ?_ | simp -dsimp [h4, z6, ↓e7, h9, q10, w11])
    refine Again.go _ ?_ ((ih_laws_szDataS_l1 v (i + 1) o hF) _ rfl _ hq)
    exact (Gh.to3 (by simp) (by first | simp -dsimp [h4, z6, ↓e7, h9, q10, w11]; done | simp_all))
  ·have q5 : ¬ (i < a.length) := auq h4
   have z6 : ¬ ((i : Int) < (a.length : Int)) := auz
   rw [if_neg q5] at hF
   cases hF
   repeat (first | refine chk.ga ?_ | simp -dsimp [h4, q5, z6])
   refine Leave.go ⟨[(1, .lit (.int .i64 left'3))], []⟩ (Gh.to3 (by simp) (by first | simp -dsimp [h4, q5, z6]; done | simp_all)) ?_
   exact hq

theorem C.laws_szDataS (a : List Vl.Data) (left' : Int) (r : Int) (hF : F.laws_szDataS a left' = some r) : PureCall Try.prog B 9 [.arr (List.map Vl.Data.c a), .lit (.int .i64 left')] (.lit (.int .i64 r)) := by
 unfold F.laws_szDataS at hF
 refine PureCall.enterLe Try.func9 (by kernel_rfl) rfl Try.ntmps9 (by simp) (by simp) ?_
 repeat (first | refine chk.ga ?_ | simp -dsimp)
 refine abr.split (fun h1 => ?_) (fun h1 => ?_)
 ·have q2 : (IntKind.i64.wrap (left' - (a.length : Int)) < 0) := auq h1
  rw [if_pos q2] at hF
  cases hF
  repeat (first | refine chk.ga ?_ | simp -dsimp [h1])
  all_goals (try first | omega | rfl)
 ·have q2 : ¬ (IntKind.i64.wrap (left' - (a.length : Int)) < 0) := auq h1
  rw [if_neg q2] at hF
  repeat (first | refine chk.ga ?_ | simp -dsimp [h1, q2])
  have hF := ob hF; obtain ⟨o', ho12, hF⟩ := hF
  refine ALoop.goU _ ?_ (((CC.laws_szDataS_l1 B hB1 hB2 a) (IntKind.i64.wrap (left' - (a.length : Int))) 0 o' ho12) _ rfl _ ?_)
  ·exact (Gh.to3 (by simp) (by first | simp -dsimp [h1, q2]; done | simp_all))
  rcases o' with r0 | sx
  ·dsimp only at hF
   cases hF
   intro st h
   simpa using h
  ·dsimp only at hF
   cases hF
   repeat (first | refine chk.ga ?_ | simp -dsimp)
   all_goals (try first | omega | rfl)

theorem CC.laws_szValue  : (∀ (a : Vl.Value) (left' : Int) (r : Int), F.laws_szValue a left' = some r → PureCall Try.prog B 36 [.agg [.lit (.int .i64 a.ctor), .lit (.int .i64 a.n), .arr (List.map Vl.Value.c a.kids)], .lit (.int .i64 left')] (.lit (.int .i64 r))) ∧
  (∀ (a : List Vl.Value) (left' : Int) (r : Int), F.laws_szValueS a left' = some r → PureCall Try.prog B 91 [.arr (List.map Vl.Value.c a), .lit (.int .i64 left')] (.lit (.int .i64 r))) ∧
  (∀ (a : List Vl.Value) (left'3 : Int) (i : Nat) (o : Lo Int Int), F.laws_szValueS_l1 a left'3 i = some o → ∀ (c : Code), navO [1, 1, 1, 0, 1, 0, 0] (bodyOf Try.f91) = some c → ∀ (Q : Exit → ASt → Prop), o.post (fun r => ∀ st, Post Try.prog Try.f91 (fun r' _ => r'.le (.lit (.int .i64 r))) .ret st → Q .ret st) (fun s => Q (.exit 0) ⟨[(1, .lit (.int .i64 s))], []⟩) → ALoopU Try.prog B 0 27 (hold c .mk) ⟨[(0, .arr (List.map Vl.Value.c a)), (1, .lit (.int .i64 left'3)), (5, .lit (.int .i64 (i : Int)))], []⟩ (hold Q .mk)) := by
 refine F.laws_szValue.mutual_partial_correctness 
  _ _ _
  ?_ ?_ ?_
 ·intro _f_laws_szValueS ih_laws_szValueS a left' r hF
  refine PureCall.enterLe Try.func36 (by kernel_rfl) rfl Try.ntmps36 (by simp) (by simp) ?_
  repeat (first | refine chk.ga ?_ | simp -dsimp)
  have hF := ob hF; obtain ⟨v, e1, hF⟩ := hF
  refine ((ih_laws_szValueS a.kids left' v e1)).goW (by simp) (by simp) ?_
  repeat (first | refine chk.ga ?_ | simp -dsimp)
  refine abr.split (fun h2 => ?_) (fun h2 => ?_)
  ·have q3 : (v < 0) := auq h2
   rw [if_pos q3] at hF
   cases hF
   repeat (first | refine chk.ga ?_ | simp -dsimp [h2])
   all_goals (try first | omega | rfl)
  ·have q3 : ¬ (v < 0) := auq h2
   rw [if_neg q3] at hF
   cases hF
   repeat (first | refine chk.ga ?_ | simp -dsimp [h2, q3])
   all_goals (try first | omega | rfl)
 ·intro _f_laws_szValueS_l1 ih_laws_szValueS_l1 a left' r hF
  refine PureCall.enterLe Try.func91 (by kernel_rfl) rfl Try.ntmps91 (by simp) (by simp) ?_
  repeat (first | refine chk.ga ?_ | simp -dsimp)
  refine abr.split (fun h1 => ?_) (fun h1 => ?_)
  ·have q2 : (IntKind.i64.wrap (left' - (a.length : Int)) < 0) := auq h1
   rw [if_pos q2] at hF
   cases hF
   repeat (first | refine chk.ga ?_ | simp -dsimp [h1])
   all_goals (try first | omega | rfl)
  ·have q2 : ¬ (IntKind.i64.wrap (left' - (a.length : Int)) < 0) := auq h1
   rw [if_neg q2] at hF
   repeat (first | refine chk.ga ?_ | simp -dsimp [h1, q2])
   have hF := ob hF; obtain ⟨o', ho12, hF⟩ := hF
   refine ALoop.goU _ ?_ ((ih_laws_szValueS_l1 a (IntKind.i64.wrap (left' - (a.length : Int))) 0 o' ho12) _ rfl _ ?_)
   ·exact (Gh.to3 (by simp) (by first | simp -dsimp [h1, q2]; done | simp_all))
   rcases o' with r0 | sx
   ·dsimp only at hF
    cases hF
    intro st h
    simpa using h
   ·dsimp only at hF
    cases hF
    repeat (first | refine chk.ga ?_ | simp -dsimp)
    all_goals (try first | omega | rfl)
 ·intro _f_laws_szValue _f_laws_szValueS_l1 ih_laws_szValue ih_laws_szValueS_l1 a left'3 i o hF
  intro c hc Q hq
  obtain rfl : c = _ := navEq hc rfl
  refine ALoopU.know fun hk hs => ?_
  have b0 := hk 0
  simp -dsimp at b0
  clear hk hs
  refine ALoopU.enter ?_
  repeat (first | refine chk.ga ?_ | simp -dsimp)
  refine abr.split (fun h4 => ?_) (fun h4 => ?_)
  ·have q5 : (i < a.length) := auq h4
   have z6 : ((i : Int) < (a.length : Int)) := auz
   rw [if_pos q5] at hF
   have hF := ob hF; obtain ⟨x, e7, hF⟩ := hF
   have le7 := lt_of_get e7
   repeat (first | refine chk.ga ?_ | simp -dsimp [h4, z6, ↓e7])
   have hF := ob hF; obtain ⟨v, e8, hF⟩ := hF
   refine ((ih_laws_szValue x left'3 v e8)).goW (by first | simp [h4, z6, ↓e7]; done | simp_all) (by simp) ?_
   repeat (first | refine chk.ga ?_ | simp -dsimp [h4, z6, ↓e7])
   refine abr.split (fun h9 => ?_) (fun h9 => ?_)
   ·have q10 : (v < 0) := auq h9
    rw [if_pos q10] at hF
    cases hF
    repeat (first | refine chk.ga ?_ | simp -dsimp [h4, z6, ↓e7, h9])
    refine Leave.go _ (Gh.refl _) (hq _ ?_)
    repeat (first | refine chk.ga ?_ | simp -dsimp [h4, z6, ↓e7, h9])
   ·have q10 : ¬ (v < 0) := auq h9
    rw [if_neg q10] at hF
    have w11 : IntKind.i64.wrap ((i : Int) + 1) = (i : Int) + 1 := wrap_in (by omega) (by omega)
    repeat (first | refine chk.ga ?_ | simp -dsimp [h4, z6, ↓e7, h9, q10, w11])
    refine Again.go _ ?_ ((ih_laws_szValueS_l1 a v (i + 1) o hF) _ rfl _ hq)
    exact (Gh.to3 (by simp) (by first | simp -dsimp [h4, z6, ↓e7, h9, q10, w11]; done | simp_all))
  ·have q5 : ¬ (i < a.length) := auq h4
   have z6 : ¬ ((i : Int) < (a.length : Int)) := auz
   rw [if_neg q5] at hF
   cases hF
   repeat (first | refine chk.ga ?_ | simp -dsimp [h4, q5, z6])
   refine Leave.go ⟨[(1, .lit (.int .i64 left'3))], []⟩ (Gh.to3 (by simp) (by first | simp -dsimp [h4, q5, z6]; done | simp_all)) ?_
   exact hq

theorem C.laws_szIntS (a : List Int) (left' : Int) (r : Int) (hF : F.laws_szIntS a left' = some r) : PureCall Try.prog B 103 [.arr (List.map cI a), .lit (.int .i64 left')] (.lit (.int .i64 r)) := by
 unfold F.laws_szIntS at hF
 refine PureCall.enterLe Try.func103 (by kernel_rfl) rfl Try.ntmps103 (by simp) (by simp) ?_
 repeat (first | refine chk.ga ?_ | simp -dsimp)
 refine abr.split (fun h1 => ?_) (fun h1 => ?_)
 ·have q2 : (IntKind.i64.wrap (left' - (a.length : Int)) < 0) := auq h1
  rw [if_pos q2] at hF
  cases hF
  repeat (first | refine chk.ga ?_ | simp -dsimp [h1])
  all_goals (try first | omega | rfl)
 ·have q2 : ¬ (IntKind.i64.wrap (left' - (a.length : Int)) < 0) := auq h1
  rw [if_neg q2] at hF
  cases hF
  repeat (first | refine chk.ga ?_ | simp -dsimp [h1, q2])
  all_goals (try first | omega | rfl)

theorem CC.laws_szIntSS_l1 (a : List (List Int)) : (∀ (left'3 : Int) (i : Nat) (o : Lo Int Int), F.laws_szIntSS_l1 a left'3 i = some o → ∀ (c : Code), navO [1, 1, 1, 0, 1, 0, 0] (bodyOf Try.f45) = some c → ∀ (Q : Exit → ASt → Prop), o.post (fun r => ∀ st, Post Try.prog Try.f45 (fun r' _ => r'.le (.lit (.int .i64 r))) .ret st → Q .ret st) (fun s => Q (.exit 0) ⟨[(1, .lit (.int .i64 s))], []⟩) → ALoopU Try.prog B 0 27 (hold c .mk) ⟨[(0, .arr (List.map (cL cI) a)), (1, .lit (.int .i64 left'3)), (5, .lit (.int .i64 (i : Int)))], []⟩ (hold Q .mk)) := by
 refine F.laws_szIntSS_l1.partial_correctness a
  _
  ?_
 ·intro _f_laws_szIntSS_l1 ih_laws_szIntSS_l1 left'3 i o hF
  intro c hc Q hq
  obtain rfl : c = _ := navEq hc rfl
  refine ALoopU.know fun hk hs => ?_
  have b0 := hk 0
  simp -dsimp at b0
  clear hk hs
  refine ALoopU.enter ?_
  repeat (first | refine chk.ga ?_ | simp -dsimp)
  refine abr.split (fun h4 => ?_) (fun h4 => ?_)
  ·have q5 : (i < a.length) := auq h4
   have z6 : ((i : Int) < (a.length : Int)) := auz
   rw [if_pos q5] at hF
   have hF := ob hF; obtain ⟨x, e7, hF⟩ := hF
   have le7 := lt_of_get e7
   repeat (first | refine chk.ga ?_ | simp -dsimp [h4, z6, ↓e7])
   have hF := ob hF; obtain ⟨v, e8, hF⟩ := hF
   refine ((C.laws_szIntS B hB1 hB2 x left'3 v e8)).goW (by first | simp [h4, z6, ↓e7]; done | simp_all) (by simp) ?_
   repeat (first | refine chk.ga ?_ | simp -dsimp [h4, z6, ↓e7])
   refine abr.split (fun h9 => ?_) (fun h9 => ?_)
   ·have q10 : (v < 0) := auq h9
    rw [if_pos q10] at hF
    cases hF
    repeat (first | refine chk.ga ?_ | simp -dsimp [h4, z6, ↓e7, h9])
    refine Leave.go _ (Gh.refl _) (hq _ ?_)
    repeat (first | refine chk.ga ?_ | simp -dsimp [h4, z6, ↓e7, h9])
   ·have q10 : ¬ (v < 0) := auq h9
    rw [if_neg q10] at hF
    have w11 : IntKind.i64.wrap ((i : Int) + 1) = (i : Int) + 1 := wrap_in (by omega) (by omega)
    repeat (first | refine chk.ga ?_ | simp -dsimp [h4, z6, ↓e7, h9, q10, w11])
    refine Again.go _ ?_ ((ih_laws_szIntSS_l1 v (i + 1) o hF) _ rfl _ hq)
    exact (Gh.to3 (by simp) (by first | simp -dsimp [h4, z6, ↓e7, h9, q10, w11]; done | simp_all))
  ·have q5 : ¬ (i < a.length) := auq h4
   have z6 : ¬ ((i : Int) < (a.length : Int)) := auz
   rw [if_neg q5] at hF
   cases hF
   repeat (first | refine chk.ga ?_ | simp -dsimp [h4, q5, z6])
   refine Leave.go ⟨[(1, .lit (.int .i64 left'3))], []⟩ (Gh.to3 (by simp) (by first | simp -dsimp [h4, q5, z6]; done | simp_all)) ?_
   exact hq

theorem C.laws_szIntSS (a : List (List Int)) (left' : Int) (r : Int) (hF : F.laws_szIntSS a left' = some r) : PureCall Try.prog B 45 [.arr (List.map (cL cI) a), .lit (.int .i64 left')] (.lit (.int .i64 r)) := by
 unfold F.laws_szIntSS at hF
 refine PureCall.enterLe Try.func45 (by kernel_rfl) rfl Try.ntmps45 (by simp) (by simp) ?_
 repeat (first | refine chk.ga ?_ | simp -dsimp)
 refine abr.split (fun h1 => ?_) (fun h1 => ?_)
 ·have q2 : (IntKind.i64.wrap (left' - (a.length : Int)) < 0) := auq h1
  rw [if_pos q2] at hF
  cases hF
  repeat (first | refine chk.ga ?_ | simp -dsimp [h1])
  all_goals (try first | omega | rfl)
 ·have q2 : ¬ (IntKind.i64.wrap (left' - (a.length : Int)) < 0) := auq h1
  rw [if_neg q2] at hF
  repeat (first | refine chk.ga ?_ | simp -dsimp [h1, q2])
  have hF := ob hF; obtain ⟨o', ho12, hF⟩ := hF
  refine ALoop.goU _ ?_ (((CC.laws_szIntSS_l1 B hB1 hB2 a) (IntKind.i64.wrap (left' - (a.length : Int))) 0 o' ho12) _ rfl _ ?_)
  ·exact (Gh.to3 (by simp) (by first | simp -dsimp [h1, q2]; done | simp_all))
  rcases o' with r0 | sx
  ·dsimp only at hF
   cases hF
   intro st h
   simpa using h
  ·dsimp only at hF
   cases hF
   repeat (first | refine chk.ga ?_ | simp -dsimp)
   all_goals (try first | omega | rfl)

theorem C.laws_toType (a : Vl.Ty) (r : Vl.Ty) (hF : F.laws_toType a = some r) : PureCall Try.prog B 17 [.agg [.lit (.int .i64 a.data), .lit (.int .i64 a.index)]] (.agg [.lit (.int .i64 r.data), .lit (.int .i64 r.index)]) := by
 unfold F.laws_toType at hF
 refine PureCall.enterLe Try.func17 (by kernel_rfl) rfl Try.ntmps17 (by simp) (by simp) ?_
 cases hF
 repeat (first | refine chk.ga ?_ | simp -dsimp)
 all_goals (try first | omega | rfl)

theorem CC.laws_toTypeS_l1 (a : List Vl.Ty) : (∀ (out : List Vl.Ty) (i : Nat) (o : List Vl.Ty), F.laws_toTypeS_l1 a out i = some o → ∀ (c : Code), navO [1, 1, 0, 1, 0, 0] (bodyOf Try.f198) = some c → ∀ (Q : Exit → ASt → Prop), (Q (.exit 0) ⟨[(3, .own 0 (List.length (α := Vl.Ty) o))], [.elems 2 (List.map Vl.Ty.c o)]⟩) → ALoopU Try.prog B 0 23 (hold c .mk) ⟨[(0, .arr (List.map Vl.Ty.c a)), (3, .own 0 (List.length (α := Vl.Ty) out)), (4, .lit (.int .i64 (i : Int)))], [.elems 2 (List.map Vl.Ty.c out)]⟩ (hold Q .mk)) := by
 refine F.laws_toTypeS_l1.partial_correctness a
  _
  ?_
 ·intro _f_laws_toTypeS_l1 ih_laws_toTypeS_l1 out i o hF
  intro c hc Q hq
  obtain rfl : c = _ := navEq hc rfl
  refine ALoopU.know fun hk hs => ?_
  have b0 := hk 0
  simp -dsimp at b0
  have d0 := hs 0 _ rfl
  simp -dsimp [Blk.bnd] at d0
  clear hk hs
  refine ALoopU.enter ?_
  repeat (first | refine chk.ga ?_ | simp -dsimp)
  refine abr.split (fun h2 => ?_) (fun h2 => ?_)
  ·have q3 : (i < a.length) := auq h2
   have z4 : ((i : Int) < (a.length : Int)) := auz
   rw [if_pos q3] at hF
   have hF := ob hF; obtain ⟨x, e5, hF⟩ := hF
   have le5 := lt_of_get e5
   repeat (first | refine chk.ga ?_ | simp -dsimp [h2, z4, ↓e5])
   have hF := ob hF; obtain ⟨v, e6, hF⟩ := hF
   refine ((C.laws_toType B hB1 hB2 x v e6)).goW (by first | simp [h2, z4, ↓e5]; done | simp_all) (by simp) ?_
   have hF := ob hF; obtain ⟨x7, e8, hF⟩ := hF
   have le8 := lt_of_get e8
   have w9 : IntKind.i64.wrap ((i : Int) + 1) = (i : Int) + 1 := wrap_in (by omega) (by omega)
   repeat (first | refine chk.ga ?_ | simp -dsimp [h2, z4, ↓e5, ↓e8, w9])
   refine Again.go _ ?_ ((ih_laws_toTypeS_l1 (out.set i v) (i + 1) o hF) _ rfl _ hq)
   exact (Gh.to3 (by simp) (by first | simp -dsimp [h2, z4, ↓e5, ↓e8, w9]; done | simp_all))
  ·have q3 : ¬ (i < a.length) := auq h2
   have z4 : ¬ ((i : Int) < (a.length : Int)) := auz
   rw [if_neg q3] at hF
   cases hF
   repeat (first | refine chk.ga ?_ | simp -dsimp [h2, q3, z4])
   refine Leave.go ⟨[(3, .own 0 (List.length (α := Vl.Ty) out))], [.elems 2 (List.map Vl.Ty.c out)]⟩ (Gh.to3 (by simp) (by first | simp -dsimp [h2, q3, z4]; done | simp_all)) ?_
   exact hq

theorem C.laws_toTypeS (a : List Vl.Ty) (r : List Vl.Ty) (hF : F.laws_toTypeS a = some r) : PureCall Try.prog B 198 [.arr (List.map Vl.Ty.c a)] (.arr (List.map Vl.Ty.c r)) := by
 unfold F.laws_toTypeS at hF
 refine PureCall.enterLe Try.func198 (by kernel_rfl) rfl Try.ntmps198 (by simp) (by simp) ?_
 have hF := oc hF; obtain ⟨c1, hF⟩ := hF
 repeat (first | refine chk.ga ?_ | simp -dsimp)
 have hF := ob hF; obtain ⟨o', ho10, hF⟩ := hF
 refine ALoop.goU _ ?_ (((CC.laws_toTypeS_l1 B hB1 hB2 a) (List.replicate a.length Vl.Ty.z) 0 o' ho10) _ rfl _ ?_)
 ·exact (Gh.to3 (by simp) (by simp -dsimp))
 cases hF
 repeat (first | refine chk.ga ?_ | simp -dsimp)
 all_goals (try first | omega | rfl)

theorem C.laws_toCtor (a : Vl.Ctor) (r : Vl.Ctor) (hF : F.laws_toCtor a = some r) : PureCall Try.prog B 161 [.agg [.lit (.string a.name), .arr (List.map Vl.Ty.c a.args), .lit (.int .i64 a.index)]] (.agg [.lit (.string r.name), .arr (List.map Vl.Ty.c r.args), .lit (.int .i64 r.index)]) := by
 unfold F.laws_toCtor at hF
 refine PureCall.enterLe Try.func161 (by kernel_rfl) rfl Try.ntmps161 (by simp) (by simp) ?_
 repeat (first | refine chk.ga ?_ | simp -dsimp)
 have hF := ob hF; obtain ⟨v, e1, hF⟩ := hF
 refine ((C.laws_toTypeS B hB1 hB2 a.args v e1)).goW (by simp) (by simp) ?_
 cases hF
 repeat (first | refine chk.ga ?_ | simp -dsimp)
 all_goals (try first | omega | rfl)

theorem CC.laws_toCtorS_l1 (a : List Vl.Ctor) : (∀ (out : List Vl.Ctor) (i : Nat) (o : List Vl.Ctor), F.laws_toCtorS_l1 a out i = some o → ∀ (c : Code), navO [1, 1, 0, 1, 0, 0] (bodyOf Try.f118) = some c → ∀ (Q : Exit → ASt → Prop), (Q (.exit 0) ⟨[(3, .own 0 (List.length (α := Vl.Ctor) o))], [.elems 3 (List.map Vl.Ctor.c o)]⟩) → ALoopU Try.prog B 0 23 (hold c .mk) ⟨[(0, .arr (List.map Vl.Ctor.c a)), (3, .own 0 (List.length (α := Vl.Ctor) out)), (4, .lit (.int .i64 (i : Int)))], [.elems 3 (List.map Vl.Ctor.c out)]⟩ (hold Q .mk)) := by
 refine F.laws_toCtorS_l1.partial_correctness a
  _
  ?_
 ·intro _f_laws_toCtorS_l1 ih_laws_toCtorS_l1 out i o hF
  intro c hc Q hq
  obtain rfl : c = _ := navEq hc rfl
  refine ALoopU.know fun hk hs => ?_
  have b0 := hk 0
  simp -dsimp at b0
  have d0 := hs 0 _ rfl
  simp -dsimp [Blk.bnd] at d0
  clear hk hs
  refine ALoopU.enter ?_
  repeat (first | refine chk.ga ?_ | simp -dsimp)
  refine abr.split (fun h2 => ?_) (fun h2 => ?_)
  ·have q3 : (i < a.length) := auq h2
   have z4 : ((i : Int) < (a.length : Int)) := auz
   rw [if_pos q3] at hF
   have hF := ob hF; obtain ⟨x, e5, hF⟩ := hF
   have le5 := lt_of_get e5
   repeat (first | refine chk.ga ?_ | simp -dsimp [h2, z4, ↓e5])
   have hF := ob hF; obtain ⟨v, e6, hF⟩ := hF
   refine ((C.laws_toCtor B hB1 hB2 x v e6)).goW (by first | simp [h2, z4, ↓e5]; done | simp_all) (by simp) ?_
   have hF := ob hF; obtain ⟨x7, e8, hF⟩ := hF
   have le8 := lt_of_get e8
   have w9 : IntKind.i64.wrap ((i : Int) + 1) = (i : Int) + 1 := wrap_in (by omega) (by omega)
   repeat (first | refine chk.ga ?_ | simp -dsimp [h2, z4, ↓e5, ↓e8, w9])
   refine Again.go _ ?_ ((ih_laws_toCtorS_l1 (out.set i v) (i + 1) o hF) _ rfl _ hq)
   exact (Gh.to3 (by simp) (by first | simp -dsimp [h2, z4, ↓e5, ↓e8, w9]; done | simp_all))
  ·have q3 : ¬ (i < a.length) := auq h2
   have z4 : ¬ ((i : Int) < (a.length : Int)) := auz
   rw [if_neg q3] at hF
   cases hF
   repeat (first | refine chk.ga ?_ | simp -dsimp [h2, q3, z4])
   refine Leave.go ⟨[(3, .own 0 (List.length (α := Vl.Ctor) out))], [.elems 3 (List.map Vl.Ctor.c out)]⟩ (Gh.to3 (by simp) (by first | simp -dsimp [h2, q3, z4]; done | simp_all)) ?_
   exact hq

theorem C.laws_toCtorS (a : List Vl.Ctor) (r : List Vl.Ctor) (hF : F.laws_toCtorS a = some r) : PureCall Try.prog B 118 [.arr (List.map Vl.Ctor.c a)] (.arr (List.map Vl.Ctor.c r)) := by
 unfold F.laws_toCtorS at hF
 refine PureCall.enterLe Try.func118 (by kernel_rfl) rfl Try.ntmps118 (by simp) (by simp) ?_
 have hF := oc hF; obtain ⟨c1, hF⟩ := hF
 repeat (first | refine chk.ga ?_ | simp -dsimp)
 have hF := ob hF; obtain ⟨o', ho10, hF⟩ := hF
 refine ALoop.goU _ ?_ (((CC.laws_toCtorS_l1 B hB1 hB2 a) (List.replicate a.length Vl.Ctor.z) 0 o' ho10) _ rfl _ ?_)
 ·exact (Gh.to3 (by simp) (by simp -dsimp))
 cases hF
 repeat (first | refine chk.ga ?_ | simp -dsimp)
 all_goals (try first | omega | rfl)

theorem C.laws_toData (a : Vl.Data) (r : Vl.Data) (hF : F.laws_toData a = some r) : PureCall Try.prog B 56 [.agg [.lit (.string a.name), .arr (List.map Vl.Ctor.c a.ctors)]] (.agg [.lit (.string r.name), .arr (List.map Vl.Ctor.c r.ctors)]) := by
 unfold F.laws_toData at hF
 refine PureCall.enterLe Try.func56 (by kernel_rfl) rfl Try.ntmps56 (by simp) (by simp) ?_
 repeat (first | refine chk.ga ?_ | simp -dsimp)
 have hF := ob hF; obtain ⟨v, e1, hF⟩ := hF
 refine ((C.laws_toCtorS B hB1 hB2 a.ctors v e1)).goW (by simp) (by simp) ?_
 cases hF
 repeat (first | refine chk.ga ?_ | simp -dsimp)
 all_goals (try first | omega | rfl)

theorem CC.laws_toDataS_l1 (a : List Vl.Data) : (∀ (out : List Vl.Data) (i : Nat) (o : List Vl.Data), F.laws_toDataS_l1 a out i = some o → ∀ (c : Code), navO [1, 1, 0, 1, 0, 0] (bodyOf Try.f14) = some c → ∀ (Q : Exit → ASt → Prop), (Q (.exit 0) ⟨[(3, .own 0 (List.length (α := Vl.Data) o))], [.elems 2 (List.map Vl.Data.c o)]⟩) → ALoopU Try.prog B 0 23 (hold c .mk) ⟨[(0, .arr (List.map Vl.Data.c a)), (3, .own 0 (List.length (α := Vl.Data) out)), (4, .lit (.int .i64 (i : Int)))], [.elems 2 (List.map Vl.Data.c out)]⟩ (hold Q .mk)) := by
 refine F.laws_toDataS_l1.partial_correctness a
  _
  ?_
 ·intro _f_laws_toDataS_l1 ih_laws_toDataS_l1 out i o hF
  intro c hc Q hq
  obtain rfl : c = _ := navEq hc rfl
  refine ALoopU.know fun hk hs => ?_
  have b0 := hk 0
  simp -dsimp at b0
  have d0 := hs 0 _ rfl
  simp -dsimp [Blk.bnd] at d0
  clear hk hs
  refine ALoopU.enter ?_
  repeat (first | refine chk.ga ?_ | simp -dsimp)
  refine abr.split (fun h2 => ?_) (fun h2 => ?_)
  ·have q3 : (i < a.length) := auq h2
   have z4 : ((i : Int) < (a.length : Int)) := auz
   rw [if_pos q3] at hF
   have hF := ob hF; obtain ⟨x, e5, hF⟩ := hF
   have le5 := lt_of_get e5
   repeat (first | refine chk.ga ?_ | simp -dsimp [h2, z4, ↓e5])
   have hF := ob hF; obtain ⟨v, e6, hF⟩ := hF
   refine ((C.laws_toData B hB1 hB2 x v e6)).goW (by first | simp [h2, z4, ↓e5]; done | simp_all) (by simp) ?_
   have hF := ob hF; obtain ⟨x7, e8, hF⟩ := hF
   have le8 := lt_of_get e8
   have w9 : IntKind.i64.wrap ((i : Int) + 1) = (i : Int) + 1 := wrap_in (by omega) (by omega)
   repeat (first | refine chk.ga ?_ | simp -dsimp [h2, z4, ↓e5, ↓e8, w9])
   refine Again.go _ ?_ ((ih_laws_toDataS_l1 (out.set i v) (i + 1) o hF) _ rfl _ hq)
   exact (Gh.to3 (by simp) (by first | simp -dsimp [h2, z4, ↓e5, ↓e8, w9]; done | simp_all))
  ·have q3 : ¬ (i < a.length) := auq h2
   have z4 : ¬ ((i : Int) < (a.length : Int)) := auz
   rw [if_neg q3] at hF
   cases hF
   repeat (first | refine chk.ga ?_ | simp -dsimp [h2, q3, z4])
   refine Leave.go ⟨[(3, .own 0 (List.length (α := Vl.Data) out))], [.elems 2 (List.map Vl.Data.c out)]⟩ (Gh.to3 (by simp) (by first | simp -dsimp [h2, q3, z4]; done | simp_all)) ?_
   exact hq

theorem C.laws_toDataS (a : List Vl.Data) (r : List Vl.Data) (hF : F.laws_toDataS a = some r) : PureCall Try.prog B 14 [.arr (List.map Vl.Data.c a)] (.arr (List.map Vl.Data.c r)) := by
 unfold F.laws_toDataS at hF
 refine PureCall.enterLe Try.func14 (by kernel_rfl) rfl Try.ntmps14 (by simp) (by simp) ?_
 have hF := oc hF; obtain ⟨c1, hF⟩ := hF
 repeat (first | refine chk.ga ?_ | simp -dsimp)
 have hF := ob hF; obtain ⟨o', ho10, hF⟩ := hF
 refine ALoop.goU _ ?_ (((CC.laws_toDataS_l1 B hB1 hB2 a) (List.replicate a.length Vl.Data.z) 0 o' ho10) _ rfl _ ?_)
 ·exact (Gh.to3 (by simp) (by simp -dsimp))
 cases hF
 repeat (first | refine chk.ga ?_ | simp -dsimp)
 all_goals (try first | omega | rfl)

theorem CC.laws_toValue  : (∀ (a : Vl.Value) (r : Vl.Value), F.laws_toValue a = some r → PureCall Try.prog B 38 [.agg [.lit (.int .i64 a.ctor), .lit (.int .i64 a.n), .arr (List.map Vl.Value.c a.kids)]] (.agg [.lit (.int .i64 r.ctor), .lit (.int .i64 r.n), .arr (List.map Vl.Value.c r.kids)])) ∧
  (∀ (a : List Vl.Value) (r : List Vl.Value), F.laws_toValueS a = some r → PureCall Try.prog B 94 [.arr (List.map Vl.Value.c a)] (.arr (List.map Vl.Value.c r))) ∧
  (∀ (a : List Vl.Value) (out : List Vl.Value) (i : Nat) (o : List Vl.Value), F.laws_toValueS_l1 a out i = some o → ∀ (c : Code), navO [1, 1, 0, 1, 0, 0] (bodyOf Try.f94) = some c → ∀ (Q : Exit → ASt → Prop), (Q (.exit 0) ⟨[(3, .own 0 (List.length (α := Vl.Value) o))], [.elems 3 (List.map Vl.Value.c o)]⟩) → ALoopU Try.prog B 0 23 (hold c .mk) ⟨[(0, .arr (List.map Vl.Value.c a)), (3, .own 0 (List.length (α := Vl.Value) out)), (4, .lit (.int .i64 (i : Int)))], [.elems 3 (List.map Vl.Value.c out)]⟩ (hold Q .mk)) := by
 refine F.laws_toValue.mutual_partial_correctness 
  _ _ _
  ?_ ?_ ?_
 ·intro _f_laws_toValueS ih_laws_toValueS a r hF
  refine PureCall.enterLe Try.func38 (by kernel_rfl) rfl Try.ntmps38 (by simp) (by simp) ?_
  repeat (first | refine chk.ga ?_ | simp -dsimp)
  have hF := ob hF; obtain ⟨v, e1, hF⟩ := hF
  refine ((ih_laws_toValueS a.kids v e1)).goW (by simp) (by simp) ?_
  cases hF
  repeat (first | refine chk.ga ?_ | simp -dsimp)
  all_goals (try first | omega | rfl)
 ·intro _f_laws_toValueS_l1 ih_laws_toValueS_l1 a r hF
  refine PureCall.enterLe Try.func94 (by kernel_rfl) rfl Try.ntmps94 (by simp) (by simp) ?_
  have hF := oc hF; obtain ⟨c1, hF⟩ := hF
  repeat (first | refine chk.ga ?_ | simp -dsimp)
  have hF := ob hF; obtain ⟨o', ho10, hF⟩ := hF
  refine ALoop.goU _ ?_ ((ih_laws_toValueS_l1 a (List.replicate a.length Vl.Value.z) 0 o' ho10) _ rfl _ ?_)
  ·exact (Gh.to3 (by simp) (by simp -dsimp))
  cases hF
  repeat (first | refine chk.ga ?_ | simp -dsimp)
  all_goals (try first | omega | rfl)
 ·intro _f_laws_toValue _f_laws_toValueS_l1 ih_laws_toValue ih_laws_toValueS_l1 a out i o hF
  intro c hc Q hq
  obtain rfl : c = _ := navEq hc rfl
  refine ALoopU.know fun hk hs => ?_
  have b0 := hk 0
  simp -dsimp at b0
  have d0 := hs 0 _ rfl
  simp -dsimp [Blk.bnd] at d0
  clear hk hs
  refine ALoopU.enter ?_
  repeat (first | refine chk.ga ?_ | simp -dsimp)
  refine abr.split (fun h2 => ?_) (fun h2 => ?_)
  ·have q3 : (i < a.length) := auq h2
   have z4 : ((i : Int) < (a.length : Int)) := auz
   rw [if_pos q3] at hF
   have hF := ob hF; obtain ⟨x, e5, hF⟩ := hF
   have le5 := lt_of_get e5
   repeat (first | refine chk.ga ?_ | simp -dsimp [h2, z4, ↓e5])
   have hF := ob hF; obtain ⟨v, e6, hF⟩ := hF
   refine ((ih_laws_toValue x v e6)).goW (by first | simp [h2, z4, ↓e5]; done | simp_all) (by simp) ?_
   have hF := ob hF; obtain ⟨x7, e8, hF⟩ := hF
   have le8 := lt_of_get e8
   have w9 : IntKind.i64.wrap ((i : Int) + 1) = (i : Int) + 1 := wrap_in (by omega) (by omega)
   repeat (first | refine chk.ga ?_ | simp -dsimp [h2, z4, ↓e5, ↓e8, w9])
   refine Again.go _ ?_ ((ih_laws_toValueS_l1 a (out.set i v) (i + 1) o hF) _ rfl _ hq)
   exact (Gh.to3 (by simp) (by first | simp -dsimp [h2, z4, ↓e5, ↓e8, w9]; done | simp_all))
  ·have q3 : ¬ (i < a.length) := auq h2
   have z4 : ¬ ((i : Int) < (a.length : Int)) := auz
   rw [if_neg q3] at hF
   cases hF
   repeat (first | refine chk.ga ?_ | simp -dsimp [h2, q3, z4])
   refine Leave.go ⟨[(3, .own 0 (List.length (α := Vl.Value) out))], [.elems 3 (List.map Vl.Value.c out)]⟩ (Gh.to3 (by simp) (by first | simp -dsimp [h2, q3, z4]; done | simp_all)) ?_
   exact hq

theorem CC.laws_toIntS_l1 (a : List Int) : (∀ (out : List Int) (i : Nat) (o : List Int), F.laws_toIntS_l1 a out i = some o → ∀ (c : Code), navO [1, 1, 0, 1, 0, 0] (bodyOf Try.f106) = some c → ∀ (Q : Exit → ASt → Prop), (Q (.exit 0) ⟨[(3, .own 0 (List.length (α := Int) o))], [.elems 1 (List.map cI o)]⟩) → ALoopU Try.prog B 0 22 (hold c .mk) ⟨[(0, .arr (List.map cI a)), (3, .own 0 (List.length (α := Int) out)), (4, .lit (.int .i64 (i : Int)))], [.elems 1 (List.map cI out)]⟩ (hold Q .mk)) := by
 refine F.laws_toIntS_l1.partial_correctness a
  _
  ?_
 ·intro _f_laws_toIntS_l1 ih_laws_toIntS_l1 out i o hF
  intro c hc Q hq
  obtain rfl : c = _ := navEq hc rfl
  refine ALoopU.know fun hk hs => ?_
  have b0 := hk 0
  simp -dsimp at b0
  have d0 := hs 0 _ rfl
  simp -dsimp [Blk.bnd] at d0
  clear hk hs
  refine ALoopU.enter ?_
  repeat (first | refine chk.ga ?_ | simp -dsimp)
  refine abr.split (fun h2 => ?_) (fun h2 => ?_)
  ·have q3 : (i < a.length) := auq h2
   have z4 : ((i : Int) < (a.length : Int)) := auz
   rw [if_pos q3] at hF
   have hF := ob hF; obtain ⟨x, e5, hF⟩ := hF
   have le5 := lt_of_get e5
   have hF := ob hF; obtain ⟨x6, e7, hF⟩ := hF
   have le7 := lt_of_get e7
   have w8 : IntKind.i64.wrap ((i : Int) + 1) = (i : Int) + 1 := wrap_in (by omega) (by omega)
   repeat (first | refine chk.ga ?_ | simp -dsimp [h2, z4, ↓e5, ↓e7, w8])
   refine Again.go _ ?_ ((ih_laws_toIntS_l1 (out.set i x) (i + 1) o hF) _ rfl _ hq)
   exact (Gh.to3 (by simp) (by first | simp -dsimp [h2, z4, ↓e5, ↓e7, w8]; done | simp_all))
  ·have q3 : ¬ (i < a.length) := auq h2
   have z4 : ¬ ((i : Int) < (a.length : Int)) := auz
   rw [if_neg q3] at hF
   cases hF
   repeat (first | refine chk.ga ?_ | simp -dsimp [h2, q3, z4])
   refine Leave.go ⟨[(3, .own 0 (List.length (α := Int) out))], [.elems 1 (List.map cI out)]⟩ (Gh.to3 (by simp) (by first | simp -dsimp [h2, q3, z4]; done | simp_all)) ?_
   exact hq

theorem C.laws_toIntS (a : List Int) (r : List Int) (hF : F.laws_toIntS a = some r) : PureCall Try.prog B 106 [.arr (List.map cI a)] (.arr (List.map cI r)) := by
 unfold F.laws_toIntS at hF
 refine PureCall.enterLe Try.func106 (by kernel_rfl) rfl Try.ntmps106 (by simp) (by simp) ?_
 have hF := oc hF; obtain ⟨c1, hF⟩ := hF
 repeat (first | refine chk.ga ?_ | simp -dsimp)
 have hF := ob hF; obtain ⟨o', ho9, hF⟩ := hF
 refine ALoop.goU _ ?_ (((CC.laws_toIntS_l1 B hB1 hB2 a) (List.replicate a.length (0 : Int)) 0 o' ho9) _ rfl _ ?_)
 ·exact (Gh.to3 (by simp) (by simp -dsimp))
 cases hF
 repeat (first | refine chk.ga ?_ | simp -dsimp)
 all_goals (try first | omega | rfl)

theorem CC.laws_toIntSS_l1 (a : List (List Int)) : (∀ (out : List (List Int)) (i : Nat) (o : List (List Int)), F.laws_toIntSS_l1 a out i = some o → ∀ (c : Code), navO [1, 1, 0, 1, 0, 0] (bodyOf Try.f47) = some c → ∀ (Q : Exit → ASt → Prop), (Q (.exit 0) ⟨[(3, .own 0 (List.length (α := List Int) o))], [.elems 1 (List.map (cL cI) o)]⟩) → ALoopU Try.prog B 0 23 (hold c .mk) ⟨[(0, .arr (List.map (cL cI) a)), (3, .own 0 (List.length (α := List Int) out)), (4, .lit (.int .i64 (i : Int)))], [.elems 1 (List.map (cL cI) out)]⟩ (hold Q .mk)) := by
 refine F.laws_toIntSS_l1.partial_correctness a
  _
  ?_
 ·intro _f_laws_toIntSS_l1 ih_laws_toIntSS_l1 out i o hF
  intro c hc Q hq
  obtain rfl : c = _ := navEq hc rfl
  refine ALoopU.know fun hk hs => ?_
  have b0 := hk 0
  simp -dsimp at b0
  have d0 := hs 0 _ rfl
  simp -dsimp [Blk.bnd] at d0
  clear hk hs
  refine ALoopU.enter ?_
  repeat (first | refine chk.ga ?_ | simp -dsimp)
  refine abr.split (fun h2 => ?_) (fun h2 => ?_)
  ·have q3 : (i < a.length) := auq h2
   have z4 : ((i : Int) < (a.length : Int)) := auz
   rw [if_pos q3] at hF
   have hF := ob hF; obtain ⟨x, e5, hF⟩ := hF
   have le5 := lt_of_get e5
   repeat (first | refine chk.ga ?_ | simp -dsimp [h2, z4, ↓e5])
   have hF := ob hF; obtain ⟨v, e6, hF⟩ := hF
   refine ((C.laws_toIntS B hB1 hB2 x v e6)).goW (by first | simp [h2, z4, ↓e5]; done | simp_all) (by simp) ?_
   have hF := ob hF; obtain ⟨x7, e8, hF⟩ := hF
   have le8 := lt_of_get e8
   have w9 : IntKind.i64.wrap ((i : Int) + 1) = (i : Int) + 1 := wrap_in (by omega) (by omega)
   repeat (first | refine chk.ga ?_ | simp -dsimp [h2, z4, ↓e5, ↓e8, w9])
   refine Again.go _ ?_ ((ih_laws_toIntSS_l1 (out.set i v) (i + 1) o hF) _ rfl _ hq)
   exact (Gh.to3 (by simp) (by first | simp -dsimp [h2, z4, ↓e5, ↓e8, w9]; done | simp_all))
  ·have q3 : ¬ (i < a.length) := auq h2
   have z4 : ¬ ((i : Int) < (a.length : Int)) := auz
   rw [if_neg q3] at hF
   cases hF
   repeat (first | refine chk.ga ?_ | simp -dsimp [h2, q3, z4])
   refine Leave.go ⟨[(3, .own 0 (List.length (α := List Int) out))], [.elems 1 (List.map (cL cI) out)]⟩ (Gh.to3 (by simp) (by first | simp -dsimp [h2, q3, z4]; done | simp_all)) ?_
   exact hq

theorem C.laws_toIntSS (a : List (List Int)) (r : List (List Int)) (hF : F.laws_toIntSS a = some r) : PureCall Try.prog B 47 [.arr (List.map (cL cI) a)] (.arr (List.map (cL cI) r)) := by
 unfold F.laws_toIntSS at hF
 refine PureCall.enterLe Try.func47 (by kernel_rfl) rfl Try.ntmps47 (by simp) (by simp) ?_
 have hF := oc hF; obtain ⟨c1, hF⟩ := hF
 repeat (first | refine chk.ga ?_ | simp -dsimp)
 have hF := ob hF; obtain ⟨o', ho10, hF⟩ := hF
 refine ALoop.goU _ ?_ (((CC.laws_toIntSS_l1 B hB1 hB2 a) (List.replicate a.length []) 0 o' ho10) _ rfl _ ?_)
 ·exact (Gh.to3 (by simp) (by simp -dsimp))
 cases hF
 repeat (first | refine chk.ga ?_ | simp -dsimp)
 all_goals (try first | omega | rfl)

theorem C.spec_l1Big (c' : Int) (r : Bool) (hF : F.spec_l1Big c' = some r) : PureCall Try.prog B 217 [.lit (.int .u8 c')] (.lit (.bool r)) := by
 unfold F.spec_l1Big at hF
 refine PureCall.enterLe Try.func217 (by kernel_rfl) rfl Try.ntmps217 (by simp) (by simp) ?_
 repeat (first | refine chk.ga ?_ | simp -dsimp)
 refine abr.split (fun h1 => ?_) (fun h1 => ?_)
 ·have q2 : (65 ≤ c') := auq h1
  rw [if_pos q2] at hF
  cases hF
  repeat (first | refine chk.ga ?_ | simp -dsimp [h1])
  all_goals (try first | omega | rfl)
 ·have q2 : ¬ (65 ≤ c') := auq h1
  rw [if_neg q2] at hF
  cases hF
  repeat (first | refine chk.ga ?_ | simp -dsimp [h1, q2])
  all_goals (try first | omega | rfl)

theorem C.spec_l1Data (s : ByteArray) (r : Bool) (hF : F.spec_l1Data s = some r) : PureCall Try.prog B 193 [.lit (.string s)] (.lit (.bool r)) := by
 unfold F.spec_l1Data at hF
 refine PureCall.enterLe Try.func193 (by kernel_rfl) rfl Try.ntmps193 (by simp) (by simp) ?_
 repeat (first | refine chk.ga ?_ | simp -dsimp)
 refine abr.split (fun h1 => ?_) (fun h1 => ?_)
 ·have q2 : (s.size = 1) := auq h1
  have z3 : ((s.size : Int) = (1 : Int)) := auz
  rw [if_pos q2] at hF
  have hF := oc hF; obtain ⟨c4, hF⟩ := hF
  repeat (first | refine chk.ga ?_ | simp -dsimp [h1, z3])
  have hF := ob hF; obtain ⟨v, e5, hF⟩ := hF
  refine ((C.spec_l1Big B hB1 hB2 ((byteAt s 0 : Nat) : Int) v e5)).goW (by first | simp [h1, z3]; done | simp_all) (by simp) ?_
  repeat (first | refine chk.ga ?_ | simp -dsimp [h1, z3])
  refine abr.split (fun h6 => ?_) (fun h6 => ?_)
  ·have q7 : (v = true) := auq h6
   rw [if_pos q7] at hF
   cases hF
   repeat (first | refine chk.ga ?_ | simp -dsimp [h1, z3, h6])
   all_goals (try first | omega | rfl)
  ·have q7 : ¬ (v = true) := auq h6
   rw [if_neg q7] at hF
   cases hF
   repeat (first | refine chk.ga ?_ | simp -dsimp [h1, z3, h6, q7])
   all_goals (try first | omega | rfl)
 ·have q2 : ¬ (s.size = 1) := auq h1
  have z3 : ¬ ((s.size : Int) = (1 : Int)) := auz
  rw [if_neg q2] at hF
  cases hF
  repeat (first | refine chk.ga ?_ | simp -dsimp [h1, q2, z3])
  all_goals (try first | omega | rfl)

theorem CC.spec_NameValid_l1 (s : ByteArray) : (∀ (i : Nat) (o : Lo Bool Unit), F.spec_NameValid_l1 s i = some o → ∀ (c : Code), navO [1, 1, 0, 1, 0, 0] (bodyOf Try.f218) = some c → ∀ (Q : Exit → ASt → Prop), o.post (fun r => ∀ st, Post Try.prog Try.f218 (fun r' _ => r'.le (.lit (.bool r))) .ret st → Q .ret st) (fun s => Q (.exit 0) ⟨[], []⟩) → ALoopU Try.prog B 0 34 (hold c .mk) ⟨[(0, .lit (.string s)), (3, .lit (.int .i64 (i : Int)))], []⟩ (hold Q .mk)) := by
 refine F.spec_NameValid_l1.partial_correctness s
  _
  ?_
 ·intro _f_spec_NameValid_l1 ih_spec_NameValid_l1 i o hF
  intro c hc Q hq
  obtain rfl : c = _ := navEq hc rfl
  refine ALoopU.know fun hk hs => ?_
  clear hk hs
  refine ALoopU.enter ?_
  repeat (first | refine chk.ga ?_ | simp -dsimp)
  refine abr.split (fun h11 => ?_) (fun h11 => ?_)
  ·have q12 : (i < s.size) := auq h11
   have z13 : ((i : Int) < (s.size : Int)) := auz
   rw [if_pos q12] at hF
   repeat (first | refine chk.ga ?_ | simp -dsimp [h11, z13])
   refine abr.split (fun h14 => ?_) (fun h14 => ?_)
   ·have q15 : ¬ (byteAt s i < 97) := auq h14
    have z16 : ¬ (((byteAt s i : Nat) : Int) < (97 : Int)) := auz
    rw [if_neg q15] at hF
    repeat (first | refine chk.ga ?_ | simp -dsimp [h11, z13, h14, q15, z16])
    refine abr.split (fun h17 => ?_) (fun h17 => ?_)
    ·have q18 : (122 < byteAt s i) := auq h17
     have z19 : ((122 : Int) < ((byteAt s i : Nat) : Int)) := auz
     rw [if_pos q18] at hF
     cases hF
     repeat (first | refine chk.ga ?_ | simp -dsimp [h11, z13, h14, q15, z16, h17, z19])
     refine Leave.go _ (Gh.refl _) (hq _ ?_)
     repeat (first | refine chk.ga ?_ | simp -dsimp [h11, z13, h14, q15, z16, h17, z19])
    ·have q18 : ¬ (122 < byteAt s i) := auq h17
     have z19 : ¬ ((122 : Int) < ((byteAt s i : Nat) : Int)) := auz
     rw [if_neg q18] at hF
     have hF := oc hF; obtain ⟨c20, hF⟩ := hF
     have w21 : IntKind.i64.wrap ((i : Int) + 1) = (i : Int) + 1 := wrap_in (by omega) (by omega)
     repeat (first | refine chk.ga ?_ | simp -dsimp [h11, z13, h14, q15, z16, h17, q18, z19, w21])
     refine Again.go _ ?_ ((ih_spec_NameValid_l1 (i + 1) o hF) _ rfl _ hq)
     exact (Gh.to3 (by simp) (by first | simp -dsimp [h11, z13, h14, q15, z16, h17, q18, z19, w21]; done | simp_all))
   ·have q15 : (byteAt s i < 97) := auq h14
    have z16 : (((byteAt s i : Nat) : Int) < (97 : Int)) := auz
    rw [if_pos q15] at hF
    cases hF
    repeat (first | refine chk.ga ?_ | simp -dsimp [h11, z13, h14, q15, z16])
    refine Leave.go _ (Gh.refl _) (hq _ ?_)
    repeat (first | refine chk.ga ?_ | simp -dsimp [h11, z13, h14, q15, z16])
  ·have q12 : ¬ (i < s.size) := auq h11
   have z13 : ¬ ((i : Int) < (s.size : Int)) := auz
   rw [if_neg q12] at hF
   cases hF
   repeat (first | refine chk.ga ?_ | simp -dsimp [h11, q12, z13])
   refine Leave.go ⟨[], []⟩ (Gh.to3 (by simp) (by first | simp -dsimp [h11, q12, z13]; done | simp_all)) ?_
   exact hq

theorem C.spec_NameValid (s : ByteArray) (r : Bool) (hF : F.spec_NameValid s = some r) : PureCall Try.prog B 218 [.lit (.string s)] (.lit (.bool r)) := by
 unfold F.spec_NameValid at hF
 refine PureCall.enterLe Try.func218 (by kernel_rfl) rfl Try.ntmps218 (by simp) (by simp) ?_
 repeat (first | refine chk.ga ?_ | simp -dsimp)
 refine abr.split (fun h1 => ?_) (fun h1 => ?_)
 ·have q2 : ¬ (s.size = 0) := auq h1
  have z3 : ¬ ((s.size : Int) = (0 : Int)) := auz
  rw [if_neg q2] at hF
  repeat (first | refine chk.ga ?_ | simp -dsimp [h1, q2, z3])
  refine abr.split (fun h4 => ?_) (fun h4 => ?_)
  ·have q5 : ¬ (5 < s.size) := auq h4
   have z6 : ¬ ((5 : Int) < (s.size : Int)) := auz
   rw [if_neg q5] at hF
   have hF := oc hF; obtain ⟨c7, hF⟩ := hF
   repeat (first | refine chk.ga ?_ | simp -dsimp [h1, q2, z3, h4, q5, z6])
   have hF := ob hF; obtain ⟨v, e8, hF⟩ := hF
   refine ((C.spec_l1Big B hB1 hB2 ((byteAt s 0 : Nat) : Int) v e8)).goW (by first | simp [h1, q2, z3, h4, q5, z6]; done | simp_all) (by simp) ?_
   repeat (first | refine chk.ga ?_ | simp -dsimp [h1, q2, z3, h4, q5, z6])
   refine abr.split (fun h9 => ?_) (fun h9 => ?_)
   ·have q10 : ¬ (v = true) := auq h9
    rw [if_neg q10] at hF
    cases hF
    repeat (first | refine chk.ga ?_ | simp -dsimp [h1, q2, z3, h4, q5, z6, h9, q10])
    all_goals (try first | omega | rfl)
   ·have q10 : (v = true) := auq h9
    rw [if_pos q10] at hF
    repeat (first | refine chk.ga ?_ | simp -dsimp [h1, q2, z3, h4, q5, z6, h9, q10])
    have hF := ob hF; obtain ⟨o', ho22, hF⟩ := hF
    refine ALoop.goU _ ?_ (((CC.spec_NameValid_l1 B hB1 hB2 s) 1 o' ho22) _ rfl _ ?_)
    ·exact (Gh.to3 (by simp) (by first | simp -dsimp [h1, q2, z3, h4, q5, z6, h9, q10]; done | simp_all))
    rcases o' with r0 | sx
    ·dsimp only at hF
     cases hF
     intro st h
     simpa using h
    ·dsimp only at hF
     cases hF
     repeat (first | refine chk.ga ?_ | simp -dsimp)
     all_goals (try first | omega | rfl)
  ·have q5 : (5 < s.size) := auq h4
   have z6 : ((5 : Int) < (s.size : Int)) := auz
   rw [if_pos q5] at hF
   cases hF
   repeat (first | refine chk.ga ?_ | simp -dsimp [h1, q2, z3, h4, q5, z6])
   all_goals (try first | omega | rfl)
 ·have q2 : (s.size = 0) := auq h1
  have z3 : ((s.size : Int) = (0 : Int)) := auz
  rw [if_pos q2] at hF
  cases hF
  repeat (first | refine chk.ga ?_ | simp -dsimp [h1, q2, z3])
  all_goals (try first | omega | rfl)

theorem C.spec_l1Arg (n : Int) (t : Vl.Ty) (r : Bool) (hF : F.spec_l1Arg n t = some r) : PureCall Try.prog B 196 [.lit (.int .i64 n), .agg [.lit (.int .i64 t.data), .lit (.int .i64 t.index)]] (.lit (.bool r)) := by
 unfold F.spec_l1Arg at hF
 refine PureCall.enterLe Try.func196 (by kernel_rfl) rfl Try.ntmps196 (by simp) (by simp) ?_
 repeat (first | refine chk.ga ?_ | simp -dsimp)
 refine abr.split (fun h1 => ?_) (fun h1 => ?_)
 ·have q2 : (t.data = (-1)) := auq h1
  rw [if_pos q2] at hF
  cases hF
  repeat (first | refine chk.ga ?_ | simp -dsimp [h1])
  all_goals (try first | omega | rfl)
 ·have q2 : ¬ (t.data = (-1)) := auq h1
  rw [if_neg q2] at hF
  repeat (first | refine chk.ga ?_ | simp -dsimp [h1, q2])
  refine abr.split (fun h3 => ?_) (fun h3 => ?_)
  ·have q4 : (0 ≤ t.data) := auq h3
   rw [if_pos q4] at hF
   repeat (first | refine chk.ga ?_ | simp -dsimp [h1, q2, h3])
   refine abr.split (fun h5 => ?_) (fun h5 => ?_)
   ·have q6 : (t.data < n) := auq h5
    rw [if_pos q6] at hF
    repeat (first | refine chk.ga ?_ | simp -dsimp [h1, q2, h3, h5])
    refine abr.split (fun h7 => ?_) (fun h7 => ?_)
    ·have q8 : ((-1) ≤ t.index) := auq h7
     rw [if_pos q8] at hF
     cases hF
     repeat (first | refine chk.ga ?_ | simp -dsimp [h1, q2, h3, h5, h7])
     all_goals (try first | omega | rfl)
    ·have q8 : ¬ ((-1) ≤ t.index) := auq h7
     rw [if_neg q8] at hF
     cases hF
     repeat (first | refine chk.ga ?_ | simp -dsimp [h1, q2, h3, h5, h7, q8])
     all_goals (try first | omega | rfl)
   ·have q6 : ¬ (t.data < n) := auq h5
    rw [if_neg q6] at hF
    cases hF
    repeat (first | refine chk.ga ?_ | simp -dsimp [h1, q2, h3, h5, q6])
    all_goals (try first | omega | rfl)
  ·have q4 : ¬ (0 ≤ t.data) := auq h3
   rw [if_neg q4] at hF
   cases hF
   repeat (first | refine chk.ga ?_ | simp -dsimp [h1, q2, h3, q4])
   all_goals (try first | omega | rfl)

theorem CC.spec_l1Ctor_l1 (n : Int) (c' : Vl.Ctor) : (∀ (i : Nat) (o : Lo Bool Unit), F.spec_l1Ctor_l1 n c' i = some o → ∀ (c : Code), navO [1, 1, 0, 1, 0, 0] (bodyOf Try.f194) = some c → ∀ (Q : Exit → ASt → Prop), o.post (fun r => ∀ st, Post Try.prog Try.f194 (fun r' _ => r'.le (.lit (.bool r))) .ret st → Q .ret st) (fun s => Q (.exit 0) ⟨[], []⟩) → ALoopU Try.prog B 0 41 (hold c .mk) ⟨[(0, .lit (.int .i64 n)), (3, .ptr 0 0), (5, .lit (.int .i64 (i : Int)))], [.cells [.lit (.string c'.name), .arr (List.map Vl.Ty.c c'.args), .lit (.int .i64 c'.index)]]⟩ (hold Q .mk)) := by
 refine F.spec_l1Ctor_l1.partial_correctness n c'
  _
  ?_
 ·intro _f_spec_l1Ctor_l1 ih_spec_l1Ctor_l1 i o hF
  intro c hc Q hq
  obtain rfl : c = _ := navEq hc rfl
  refine ALoopU.know fun hk hs => ?_
  have d0 := hs 0 _ rfl
  simp -dsimp [Blk.bnd] at d0
  clear hk hs
  refine ALoopU.enter ?_
  repeat (first | refine chk.ga ?_ | simp -dsimp)
  refine abr.split (fun h11 => ?_) (fun h11 => ?_)
  ·have q12 : (i < c'.args.length) := auq h11
   have z13 : ((i : Int) < (c'.args.length : Int)) := auz
   rw [if_pos q12] at hF
   have hF := ob hF; obtain ⟨x, e14, hF⟩ := hF
   have le14 := lt_of_get e14
   repeat (first | refine chk.ga ?_ | simp -dsimp [h11, z13, ↓e14])
   have hF := ob hF; obtain ⟨v15, e16, hF⟩ := hF
   refine ((C.spec_l1Arg B hB1 hB2 n x v15 e16)).goW (by first | simp [h11, z13, ↓e14]; done | simp_all) (by simp) ?_
   repeat (first | refine chk.ga ?_ | simp -dsimp [h11, z13, ↓e14])
   refine abr.split (fun h17 => ?_) (fun h17 => ?_)
   ·have q18 : ¬ (v15 = true) := auq h17
    rw [if_neg q18] at hF
    cases hF
    repeat (first | refine chk.ga ?_ | simp -dsimp [h11, z13, ↓e14, h17, q18])
    refine Leave.go _ (Gh.refl _) (hq _ ?_)
    repeat (first | refine chk.ga ?_ | simp -dsimp [h11, z13, ↓e14, h17, q18])
   ·have q18 : (v15 = true) := auq h17
    rw [if_pos q18] at hF
    have w19 : IntKind.i64.wrap ((i : Int) + 1) = (i : Int) + 1 := wrap_in (by omega) (by omega)
    repeat (first | refine chk.ga ?_ | simp -dsimp [h11, z13, ↓e14, h17, q18, w19])
    refine Again.go _ ?_ ((ih_spec_l1Ctor_l1 (i + 1) o hF) _ rfl _ hq)
    exact (Gh.to3 (by simp) (by first | simp -dsimp [h11, z13, ↓e14, h17, q18, w19]; done | simp_all))
  ·have q12 : ¬ (i < c'.args.length) := auq h11
   have z13 : ¬ ((i : Int) < (c'.args.length : Int)) := auz
   rw [if_neg q12] at hF
   cases hF
   repeat (first | refine chk.ga ?_ | simp -dsimp [h11, q12, z13])
   refine Leave.go ⟨[], []⟩ (Gh.to3 (by simp) (by first | simp -dsimp [h11, q12, z13]; done | simp_all)) ?_
   exact hq

theorem C.spec_l1Ctor (n : Int) (c' : Vl.Ctor) (r : Bool) (hF : F.spec_l1Ctor n c' = some r) : PureCall Try.prog B 194 [.lit (.int .i64 n), .agg [.lit (.string c'.name), .arr (List.map Vl.Ty.c c'.args), .lit (.int .i64 c'.index)]] (.lit (.bool r)) := by
 unfold F.spec_l1Ctor at hF
 refine PureCall.enterLe Try.func194 (by kernel_rfl) rfl Try.ntmps194 (by simp) (by simp) ?_
 repeat (first | refine chk.ga ?_ | simp -dsimp)
 have hF := ob hF; obtain ⟨v, e1, hF⟩ := hF
 refine ((C.spec_NameValid B hB1 hB2 c'.name v e1)).goW (by simp) (by simp) ?_
 repeat (first | refine chk.ga ?_ | simp -dsimp)
 refine abr.split (fun h2 => ?_) (fun h2 => ?_)
 ·have q3 : (v = true) := auq h2
  rw [if_pos q3] at hF
  repeat (first | refine chk.ga ?_ | simp -dsimp [h2])
  refine abr.split (fun h4 => ?_) (fun h4 => ?_)
  ·have q5 : ¬ (3 < c'.args.length) := auq h4
   have z6 : ¬ ((3 : Int) < (c'.args.length : Int)) := auz
   rw [if_neg q5] at hF
   repeat (first | refine chk.ga ?_ | simp -dsimp [h2, h4, q5, z6])
   refine abr.split (fun h7 => ?_) (fun h7 => ?_)
   ·have q8 : ¬ (c'.index < 0) := auq h7
    rw [if_neg q8] at hF
    repeat (first | refine chk.ga ?_ | simp -dsimp [h2, h4, q5, z6, h7, q8])
    refine abr.split (fun h9 => ?_) (fun h9 => ?_)
    ·have q10 : (3 < c'.index) := auq h9
     rw [if_pos q10] at hF
     cases hF
     repeat (first | refine chk.ga ?_ | simp -dsimp [h2, h4, q5, z6, h7, q8, h9])
     all_goals (try first | omega | rfl)
    ·have q10 : ¬ (3 < c'.index) := auq h9
     rw [if_neg q10] at hF
     repeat (first | refine chk.ga ?_ | simp -dsimp [h2, h4, q5, z6, h7, q8, h9, q10])
     have hF := ob hF; obtain ⟨o', ho20, hF⟩ := hF
     refine ALoop.goU _ ?_ (((CC.spec_l1Ctor_l1 B hB1 hB2 n c') 0 o' ho20) _ rfl _ ?_)
     ·exact (Gh.to3 (by simp) (by first | simp -dsimp [h2, h4, q5, z6, h7, q8, h9, q10]; done | simp_all))
     rcases o' with r0 | sx
     ·dsimp only at hF
      cases hF
      intro st h
      simpa using h
     ·dsimp only at hF
      cases hF
      repeat (first | refine chk.ga ?_ | simp -dsimp)
      all_goals (try first | omega | rfl)
   ·have q8 : (c'.index < 0) := auq h7
    rw [if_pos q8] at hF
    cases hF
    repeat (first | refine chk.ga ?_ | simp -dsimp [h2, h4, q5, z6, h7, q8])
    all_goals (try first | omega | rfl)
  ·have q5 : (3 < c'.args.length) := auq h4
   have z6 : ((3 : Int) < (c'.args.length : Int)) := auz
   rw [if_pos q5] at hF
   cases hF
   repeat (first | refine chk.ga ?_ | simp -dsimp [h2, h4, q5, z6])
   all_goals (try first | omega | rfl)
 ·have q3 : ¬ (v = true) := auq h2
  rw [if_neg q3] at hF
  cases hF
  repeat (first | refine chk.ga ?_ | simp -dsimp [h2, q3])
  all_goals (try first | omega | rfl)

theorem CC.spec_l1Twice_l2 (w : List Vl.Data) (d : Int) (k : Int) (i : Nat) : (∀ (j : Nat) (o : Lo Bool Unit), F.spec_l1Twice_l2 w d k i j = some o → ∀ (c : Code), navO [1, 0, 1, 0, 0, 1, 0, 0, 1, 1, 0, 0] (bodyOf Try.f195) = some c → ∀ (Q : Exit → ASt → Prop), o.post (fun r => ∀ st, Post Try.prog Try.f195 (fun r' _ => r'.le (.lit (.bool r))) .ret st → Q .ret st) (fun s => Q (.exit 2) ⟨[(0, .arr (List.map Vl.Data.c w)), (1, .lit (.int .i64 d)), (2, .lit (.int .i64 k)), (7, .lit (.int .i64 (i : Int)))], []⟩) → ALoopU Try.prog B 0 79 (hold c .mk) ⟨[(0, .arr (List.map Vl.Data.c w)), (1, .lit (.int .i64 d)), (2, .lit (.int .i64 k)), (7, .lit (.int .i64 (i : Int))), (8, .lit (.int .i64 (j : Int)))], []⟩ (hold Q .mk)) := by
 refine F.spec_l1Twice_l2.partial_correctness w d k i
  _
  ?_
 ·intro _f_spec_l1Twice_l2 ih_spec_l1Twice_l2 j o hF
  intro c hc Q hq
  obtain rfl : c = _ := navEq hc rfl
  refine ALoopU.know fun hk hs => ?_
  have b0 := hk 0
  simp -dsimp at b0
  clear hk hs
  refine ALoopU.enter ?_
  have hF := ob hF; obtain ⟨x10, e11, hF⟩ := hF
  have le11 := lt_of_get e11
  repeat (first | refine chk.ga ?_ | simp -dsimp [↓e11])
  refine abr.split (fun h12 => ?_) (fun h12 => ?_)
  ·have q13 : (j < x10.ctors.length) := auq h12
   have z14 : ((j : Int) < (x10.ctors.length : Int)) := auz
   rw [if_pos q13] at hF
   repeat (first | refine chk.ga ?_ | simp -dsimp [↓e11, h12, z14])
   refine abr.split (fun h15 => ?_) (fun h15 => ?_)
   ·have q16 : ¬ ((i : Int) < d) := auq h15
    rw [if_neg q16] at hF
    repeat (first | refine chk.ga ?_ | simp -dsimp [↓e11, h12, z14, h15, q16])
    refine abr.split (fun h17 => ?_) (fun h17 => ?_)
    ·have q18 : ((j : Int) < k) := auq h17
     rw [if_pos q18] at hF
     repeat (first | refine chk.ga ?_ | simp -dsimp [↓e11, h12, z14, h15, q16, h17])
     refine ADraw.simple follows (by kernel_rfl) (by kernel_rfl) ?_
     have hF := ob hF; obtain ⟨x19, e20a, hF⟩ := hF
     have e20a := at_some e20a; obtain ⟨ne20, e20⟩ := e20a
     have le20 := lt_of_get e20
     repeat (first | refine chk.ga ?_ | simp -dsimp [↓e11, h12, z14, h15, q16, h17, ↓e20])
     refine abr.split (fun h21 => ?_) (fun h21 => ?_)
     ·have q22 : (k < (x19.ctors.length : Int)) := auq h21
      rw [if_pos q22] at hF
      have hF := ob hF; obtain ⟨x23, e24, hF⟩ := hF
      have le24 := lt_of_get e24
      have hF := ob hF; obtain ⟨x25, e26a, hF⟩ := hF
      have e26a := at_some e26a; obtain ⟨ne26, e26⟩ := e26a
      have le26 := lt_of_get e26
      repeat (first | refine chk.ga ?_ | simp -dsimp [↓e11, h12, z14, h15, q16, h17, ↓e20, h21, ↓e24, ↓e26])
      refine abr.split (fun h27 => ?_) (fun h27 => ?_)
      ·have q28 : (x23.name.toList = x25.name.toList) := auq h27
       rw [if_pos q28] at hF
       cases hF
       repeat (first | refine chk.ga ?_ | simp -dsimp [↓e11, h12, z14, h15, q16, h17, ↓e20, h21, ↓e24, ↓e26, h27])
       refine Leave.go _ (Gh.refl _) (hq _ ?_)
       repeat (first | refine chk.ga ?_ | simp -dsimp [↓e11, h12, z14, h15, q16, h17, ↓e20, h21, ↓e24, ↓e26, h27])
      ·have q28 : ¬ (x23.name.toList = x25.name.toList) := auq h27
       rw [if_neg q28] at hF
       have hF := oc hF; obtain ⟨c29, hF⟩ := hF
       have w30 : IntKind.i64.wrap ((j : Int) + 1) = (j : Int) + 1 := wrap_in (by omega) (by omega)
       repeat (first | refine chk.ga ?_ | simp -dsimp [↓e11, h12, z14, h15, q16, h17, ↓e20, h21, ↓e24, ↓e26, h27, q28, w30])
       refine Again.go _ ?_ ((ih_spec_l1Twice_l2 (j + 1) o hF) _ rfl _ hq)
       exact (Gh.to3 (by simp) (by first | simp -dsimp [↓e11, h12, z14, h15, q16, h17, ↓e20, h21, ↓e24, ↓e26, h27, q28, w30]; done | simp_all))
     ·have q22 : ¬ (k < (x19.ctors.length : Int)) := auq h21
      rw [if_neg q22] at hF
      have hF := oc hF; obtain ⟨c31, hF⟩ := hF
      have w32 : IntKind.i64.wrap ((j : Int) + 1) = (j : Int) + 1 := wrap_in (by omega) (by omega)
      repeat (first | refine chk.ga ?_ | simp -dsimp [↓e11, h12, z14, h15, q16, h17, ↓e20, h21, q22, w32])
      refine Again.go _ ?_ ((ih_spec_l1Twice_l2 (j + 1) o hF) _ rfl _ hq)
      exact (Gh.to3 (by simp) (by first | simp -dsimp [↓e11, h12, z14, h15, q16, h17, ↓e20, h21, q22, w32]; done | simp_all))
    ·have q18 : ¬ ((j : Int) < k) := auq h17
     rw [if_neg q18] at hF
     cases hF
     repeat (first | refine chk.ga ?_ | simp -dsimp [↓e11, h12, z14, h15, q16, h17, q18])
     refine Leave.go ⟨[(0, .arr (List.map Vl.Data.c w)), (1, .lit (.int .i64 d)), (2, .lit (.int .i64 k)), (7, .lit (.int .i64 (i : Int)))], []⟩ (Gh.to3 (by simp) (by first | simp -dsimp [↓e11, h12, z14, h15, q16, h17, q18]; done | simp_all)) ?_
     exact hq
   ·have q16 : ((i : Int) < d) := auq h15
    rw [if_pos q16] at hF
    repeat (first | refine chk.ga ?_ | simp -dsimp [↓e11, h12, z14, h15, q16])
    refine ADraw.simple follows (by kernel_rfl) (by kernel_rfl) ?_
    have hF := ob hF; obtain ⟨x33, e34a, hF⟩ := hF
    have e34a := at_some e34a; obtain ⟨ne34, e34⟩ := e34a
    have le34 := lt_of_get e34
    repeat (first | refine chk.ga ?_ | simp -dsimp [↓e11, h12, z14, h15, q16, ↓e34])
    refine abr.split (fun h35 => ?_) (fun h35 => ?_)
    ·have q36 : (k < (x33.ctors.length : Int)) := auq h35
     rw [if_pos q36] at hF
     have hF := ob hF; obtain ⟨x37, e38, hF⟩ := hF
     have le38 := lt_of_get e38
     have hF := ob hF; obtain ⟨x39, e40a, hF⟩ := hF
     have e40a := at_some e40a; obtain ⟨ne40, e40⟩ := e40a
     have le40 := lt_of_get e40
     repeat (first | refine chk.ga ?_ | simp -dsimp [↓e11, h12, z14, h15, q16, ↓e34, h35, ↓e38, ↓e40])
     refine abr.split (fun h41 => ?_) (fun h41 => ?_)
     ·have q42 : (x37.name.toList = x39.name.toList) := auq h41
      rw [if_pos q42] at hF
      cases hF
      repeat (first | refine chk.ga ?_ | simp -dsimp [↓e11, h12, z14, h15, q16, ↓e34, h35, ↓e38, ↓e40, h41])
      refine Leave.go _ (Gh.refl _) (hq _ ?_)
      repeat (first | refine chk.ga ?_ | simp -dsimp [↓e11, h12, z14, h15, q16, ↓e34, h35, ↓e38, ↓e40, h41])
     ·have q42 : ¬ (x37.name.toList = x39.name.toList) := auq h41
      rw [if_neg q42] at hF
      have hF := oc hF; obtain ⟨c43, hF⟩ := hF
      have w44 : IntKind.i64.wrap ((j : Int) + 1) = (j : Int) + 1 := wrap_in (by omega) (by omega)
      repeat (first | refine chk.ga ?_ | simp -dsimp [↓e11, h12, z14, h15, q16, ↓e34, h35, ↓e38, ↓e40, h41, q42, w44])
      refine Again.go _ ?_ ((ih_spec_l1Twice_l2 (j + 1) o hF) _ rfl _ hq)
      exact (Gh.to3 (by simp) (by first | simp -dsimp [↓e11, h12, z14, h15, q16, ↓e34, h35, ↓e38, ↓e40, h41, q42, w44]; done | simp_all))
    ·have q36 : ¬ (k < (x33.ctors.length : Int)) := auq h35
     rw [if_neg q36] at hF
     have hF := oc hF; obtain ⟨c45, hF⟩ := hF
     have w46 : IntKind.i64.wrap ((j : Int) + 1) = (j : Int) + 1 := wrap_in (by omega) (by omega)
     repeat (first | refine chk.ga ?_ | simp -dsimp [↓e11, h12, z14, h15, q16, ↓e34, h35, q36, w46])
     refine Again.go _ ?_ ((ih_spec_l1Twice_l2 (j + 1) o hF) _ rfl _ hq)
     exact (Gh.to3 (by simp) (by first | simp -dsimp [↓e11, h12, z14, h15, q16, ↓e34, h35, q36, w46]; done | simp_all))
  ·have q13 : ¬ (j < x10.ctors.length) := auq h12
   have z14 : ¬ ((j : Int) < (x10.ctors.length : Int)) := auz
   rw [if_neg q13] at hF
   cases hF
   repeat (first | refine chk.ga ?_ | simp -dsimp [↓e11, h12, q13, z14])
   refine Leave.go ⟨[(0, .arr (List.map Vl.Data.c w)), (1, .lit (.int .i64 d)), (2, .lit (.int .i64 k)), (7, .lit (.int .i64 (i : Int)))], []⟩ (Gh.to3 (by simp) (by first | simp -dsimp [↓e11, h12, q13, z14]; done | simp_all)) ?_
   exact hq

theorem CC.spec_l1Twice_l3 (w : List Vl.Data) (d : Int) (k : Int) (i : Nat) : (∀ (j50 : Nat) (o : Lo Bool Unit), F.spec_l1Twice_l3 w d k i j50 = some o → ∀ (c : Code), navO [1, 0, 1, 0, 0, 1, 0, 0, 1, 1, 0, 0] (bodyOf Try.f195) = some c → ∀ (Q : Exit → ASt → Prop), o.post (fun r => ∀ st, Post Try.prog Try.f195 (fun r' _ => r'.le (.lit (.bool r))) .ret st → Q .ret st) (fun s => Q (.exit 2) ⟨[(0, .arr (List.map Vl.Data.c w)), (1, .lit (.int .i64 d)), (2, .lit (.int .i64 k)), (7, .lit (.int .i64 (i : Int)))], []⟩) → ALoopU Try.prog B 0 79 (hold c .mk) ⟨[(0, .arr (List.map Vl.Data.c w)), (1, .lit (.int .i64 d)), (2, .lit (.int .i64 k)), (7, .lit (.int .i64 (i : Int))), (8, .lit (.int .i64 (j50 : Int)))], []⟩ (hold Q .mk)) := by
 refine F.spec_l1Twice_l3.partial_correctness w d k i
  _
  ?_
 ·intro _f_spec_l1Twice_l3 ih_spec_l1Twice_l3 j50 o hF
  intro c hc Q hq
  obtain rfl : c = _ := navEq hc rfl
  refine ALoopU.know fun hk hs => ?_
  have b0 := hk 0
  simp -dsimp at b0
  clear hk hs
  refine ALoopU.enter ?_
  have hF := ob hF; obtain ⟨x51, e52, hF⟩ := hF
  have le52 := lt_of_get e52
  repeat (first | refine chk.ga ?_ | simp -dsimp [↓e52])
  refine abr.split (fun h53 => ?_) (fun h53 => ?_)
  ·have q54 : (j50 < x51.ctors.length) := auq h53
   have z55 : ((j50 : Int) < (x51.ctors.length : Int)) := auz
   rw [if_pos q54] at hF
   repeat (first | refine chk.ga ?_ | simp -dsimp [↓e52, h53, z55])
   refine abr.split (fun h56 => ?_) (fun h56 => ?_)
   ·have q57 : ¬ ((i : Int) < d) := auq h56
    rw [if_neg q57] at hF
    repeat (first | refine chk.ga ?_ | simp -dsimp [↓e52, h53, z55, h56, q57])
    refine abr.split (fun h58 => ?_) (fun h58 => ?_)
    ·have q59 : ((j50 : Int) < k) := auq h58
     rw [if_pos q59] at hF
     repeat (first | refine chk.ga ?_ | simp -dsimp [↓e52, h53, z55, h56, q57, h58])
     refine ADraw.simple follows (by kernel_rfl) (by kernel_rfl) ?_
     have hF := ob hF; obtain ⟨x60, e61a, hF⟩ := hF
     have e61a := at_some e61a; obtain ⟨ne61, e61⟩ := e61a
     have le61 := lt_of_get e61
     repeat (first | refine chk.ga ?_ | simp -dsimp [↓e52, h53, z55, h56, q57, h58, ↓e61])
     refine abr.split (fun h62 => ?_) (fun h62 => ?_)
     ·have q63 : (k < (x60.ctors.length : Int)) := auq h62
      rw [if_pos q63] at hF
      have hF := ob hF; obtain ⟨x64, e65, hF⟩ := hF
      have le65 := lt_of_get e65
      have hF := ob hF; obtain ⟨x66, e67a, hF⟩ := hF
      have e67a := at_some e67a; obtain ⟨ne67, e67⟩ := e67a
      have le67 := lt_of_get e67
      repeat (first | refine chk.ga ?_ | simp -dsimp [↓e52, h53, z55, h56, q57, h58, ↓e61, h62, ↓e65, ↓e67])
      refine abr.split (fun h68 => ?_) (fun h68 => ?_)
      ·have q69 : (x64.name.toList = x66.name.toList) := auq h68
       rw [if_pos q69] at hF
       cases hF
       repeat (first | refine chk.ga ?_ | simp -dsimp [↓e52, h53, z55, h56, q57, h58, ↓e61, h62, ↓e65, ↓e67, h68])
       refine Leave.go _ (Gh.refl _) (hq _ ?_)
       repeat (first | refine chk.ga ?_ | simp -dsimp [↓e52, h53, z55, h56, q57, h58, ↓e61, h62, ↓e65, ↓e67, h68])
      ·have q69 : ¬ (x64.name.toList = x66.name.toList) := auq h68
       rw [if_neg q69] at hF
       have hF := oc hF; obtain ⟨c70, hF⟩ := hF
       have w71 : IntKind.i64.wrap ((j50 : Int) + 1) = (j50 : Int) + 1 := wrap_in (by omega) (by omega)
       repeat (first | refine chk.ga ?_ | simp -dsimp [↓e52, h53, z55, h56, q57, h58, ↓e61, h62, ↓e65, ↓e67, h68, q69, w71])
       refine Again.go _ ?_ ((ih_spec_l1Twice_l3 (j50 + 1) o hF) _ rfl _ hq)
       exact (Gh.to3 (by simp) (by first | simp -dsimp [↓e52, h53, z55, h56, q57, h58, ↓e61, h62, ↓e65, ↓e67, h68, q69, w71]; done | simp_all))
     ·have q63 : ¬ (k < (x60.ctors.length : Int)) := auq h62
      rw [if_neg q63] at hF
      have hF := oc hF; obtain ⟨c72, hF⟩ := hF
      have w73 : IntKind.i64.wrap ((j50 : Int) + 1) = (j50 : Int) + 1 := wrap_in (by omega) (by omega)
      repeat (first | refine chk.ga ?_ | simp -dsimp [↓e52, h53, z55, h56, q57, h58, ↓e61, h62, q63, w73])
      refine Again.go _ ?_ ((ih_spec_l1Twice_l3 (j50 + 1) o hF) _ rfl _ hq)
      exact (Gh.to3 (by simp) (by first | simp -dsimp [↓e52, h53, z55, h56, q57, h58, ↓e61, h62, q63, w73]; done | simp_all))
    ·have q59 : ¬ ((j50 : Int) < k) := auq h58
     rw [if_neg q59] at hF
     cases hF
     repeat (first | refine chk.ga ?_ | simp -dsimp [↓e52, h53, z55, h56, q57, h58, q59])
     refine Leave.go ⟨[(0, .arr (List.map Vl.Data.c w)), (1, .lit (.int .i64 d)), (2, .lit (.int .i64 k)), (7, .lit (.int .i64 (i : Int)))], []⟩ (Gh.to3 (by simp) (by first | simp -dsimp [↓e52, h53, z55, h56, q57, h58, q59]; done | simp_all)) ?_
     exact hq
   ·have q57 : ((i : Int) < d) := auq h56
    rw [if_pos q57] at hF
    repeat (first | refine chk.ga ?_ | simp -dsimp [↓e52, h53, z55, h56, q57])
    refine ADraw.simple follows (by kernel_rfl) (by kernel_rfl) ?_
    have hF := ob hF; obtain ⟨x74, e75a, hF⟩ := hF
    have e75a := at_some e75a; obtain ⟨ne75, e75⟩ := e75a
    have le75 := lt_of_get e75
    repeat (first | refine chk.ga ?_ | simp -dsimp [↓e52, h53, z55, h56, q57, ↓e75])
    refine abr.split (fun h76 => ?_) (fun h76 => ?_)
    ·have q77 : (k < (x74.ctors.length : Int)) := auq h76
     rw [if_pos q77] at hF
     have hF := ob hF; obtain ⟨x78, e79, hF⟩ := hF
     have le79 := lt_of_get e79
     have hF := ob hF; obtain ⟨x80, e81a, hF⟩ := hF
     have e81a := at_some e81a; obtain ⟨ne81, e81⟩ := e81a
     have le81 := lt_of_get e81
     repeat (first | refine chk.ga ?_ | simp -dsimp [↓e52, h53, z55, h56, q57, ↓e75, h76, ↓e79, ↓e81])
     refine abr.split (fun h82 => ?_) (fun h82 => ?_)
     ·have q83 : (x78.name.toList = x80.name.toList) := auq h82
      rw [if_pos q83] at hF
      cases hF
      repeat (first | refine chk.ga ?_ | simp -dsimp [↓e52, h53, z55, h56, q57, ↓e75, h76, ↓e79, ↓e81, h82])
      refine Leave.go _ (Gh.refl _) (hq _ ?_)
      repeat (first | refine chk.ga ?_ | simp -dsimp [↓e52, h53, z55, h56, q57, ↓e75, h76, ↓e79, ↓e81, h82])
     ·have q83 : ¬ (x78.name.toList = x80.name.toList) := auq h82
      rw [if_neg q83] at hF
      have hF := oc hF; obtain ⟨c84, hF⟩ := hF
      have w85 : IntKind.i64.wrap ((j50 : Int) + 1) = (j50 : Int) + 1 := wrap_in (by omega) (by omega)
      repeat (first | refine chk.ga ?_ | simp -dsimp [↓e52, h53, z55, h56, q57, ↓e75, h76, ↓e79, ↓e81, h82, q83, w85])
      refine Again.go _ ?_ ((ih_spec_l1Twice_l3 (j50 + 1) o hF) _ rfl _ hq)
      exact (Gh.to3 (by simp) (by first | simp -dsimp [↓e52, h53, z55, h56, q57, ↓e75, h76, ↓e79, ↓e81, h82, q83, w85]; done | simp_all))
    ·have q77 : ¬ (k < (x74.ctors.length : Int)) := auq h76
     rw [if_neg q77] at hF
     have hF := oc hF; obtain ⟨c86, hF⟩ := hF
     have w87 : IntKind.i64.wrap ((j50 : Int) + 1) = (j50 : Int) + 1 := wrap_in (by omega) (by omega)
     repeat (first | refine chk.ga ?_ | simp -dsimp [↓e52, h53, z55, h56, q57, ↓e75, h76, q77, w87])
     refine Again.go _ ?_ ((ih_spec_l1Twice_l3 (j50 + 1) o hF) _ rfl _ hq)
     exact (Gh.to3 (by simp) (by first | simp -dsimp [↓e52, h53, z55, h56, q57, ↓e75, h76, q77, w87]; done | simp_all))
  ·have q54 : ¬ (j50 < x51.ctors.length) := auq h53
   have z55 : ¬ ((j50 : Int) < (x51.ctors.length : Int)) := auz
   rw [if_neg q54] at hF
   cases hF
   repeat (first | refine chk.ga ?_ | simp -dsimp [↓e52, h53, q54, z55])
   refine Leave.go ⟨[(0, .arr (List.map Vl.Data.c w)), (1, .lit (.int .i64 d)), (2, .lit (.int .i64 k)), (7, .lit (.int .i64 (i : Int)))], []⟩ (Gh.to3 (by simp) (by first | simp -dsimp [↓e52, h53, q54, z55]; done | simp_all)) ?_
   exact hq

theorem CC.spec_l1Twice_l1 (w : List Vl.Data) (d : Int) (k : Int) : (∀ (i : Nat) (o : Lo Bool Unit), F.spec_l1Twice_l1 w d k i = some o → ∀ (c : Code), navO [1, 0, 1, 0, 0] (bodyOf Try.f195) = some c → ∀ (Q : Exit → ASt → Prop), o.post (fun r => ∀ st, Post Try.prog Try.f195 (fun r' _ => r'.le (.lit (.bool r))) .ret st → Q .ret st) (fun s => Q (.exit 0) ⟨[], []⟩) → ALoopU Try.prog B 0 79 (hold c .mk) ⟨[(0, .arr (List.map Vl.Data.c w)), (1, .lit (.int .i64 d)), (2, .lit (.int .i64 k)), (7, .lit (.int .i64 (i : Int)))], []⟩ (hold Q .mk)) := by
 refine F.spec_l1Twice_l1.partial_correctness w d k
  _
  ?_
 ·intro _f_spec_l1Twice_l1 ih_spec_l1Twice_l1 i o hF
  intro c hc Q hq
  obtain rfl : c = _ := navEq hc rfl
  refine ALoopU.know fun hk hs => ?_
  have b0 := hk 0
  simp -dsimp at b0
  clear hk hs
  refine ALoopU.enter ?_
  repeat (first | refine chk.ga ?_ | simp -dsimp)
  refine abr.split (fun h1 => ?_) (fun h1 => ?_)
  ·have q2 : ((i : Int) ≤ d) := auq h1
   rw [if_pos q2] at hF
   repeat (first | refine chk.ga ?_ | simp -dsimp [h1])
   refine ADraw.simple follows (by kernel_rfl) (by kernel_rfl) ?_
   repeat (first | refine chk.ga ?_ | simp -dsimp [h1])
   refine abr.split (fun h3 => ?_) (fun h3 => ?_)
   ·have q4 : ((i : Int) < d) := auq h3
    rw [if_pos q4] at hF
    have hF := ob hF; obtain ⟨x, e5, hF⟩ := hF
    have le5 := lt_of_get e5
    have hF := ob hF; obtain ⟨x6, e7a, hF⟩ := hF
    have e7a := at_some e7a; obtain ⟨ne7, e7⟩ := e7a
    have le7 := lt_of_get e7
    repeat (first | refine chk.ga ?_ | simp -dsimp [h1, h3, ↓e5, ↓e7])
    refine abr.split (fun h8 => ?_) (fun h8 => ?_)
    ·have q9 : (x.name.toList = x6.name.toList) := auq h8
     rw [if_pos q9] at hF
     cases hF
     repeat (first | refine chk.ga ?_ | simp -dsimp [h1, h3, ↓e5, ↓e7, h8])
     refine Leave.go _ (Gh.refl _) (hq _ ?_)
     repeat (first | refine chk.ga ?_ | simp -dsimp [h1, h3, ↓e5, ↓e7, h8])
    ·have q9 : ¬ (x.name.toList = x6.name.toList) := auq h8
     rw [if_neg q9] at hF
     repeat (first | refine chk.ga ?_ | simp -dsimp [h1, h3, ↓e5, ↓e7, h8, q9])
     have hF := ob hF; obtain ⟨o', ho47, hF⟩ := hF
     refine ALoop.goU _ ?_ (((CC.spec_l1Twice_l2 B hB1 hB2 w d k i) 0 o' ho47) _ rfl _ ?_)
     ·exact (Gh.to3 (by simp) (by first | simp -dsimp [h1, h3, ↓e5, ↓e7, h8, q9]; done | simp_all))
     rcases o' with r0 | sx
     ·dsimp only at hF
      cases hF
      intro st h
      simp -dsimp
      refine Leave.go st (Gh.refl _) (hq st h)
     ·dsimp only at hF
      have hF := oc hF; obtain ⟨c48, hF⟩ := hF
      have w49 : IntKind.i64.wrap ((i : Int) + 1) = (i : Int) + 1 := wrap_in (by omega) (by omega)
      repeat (first | refine chk.ga ?_ | simp -dsimp [w49])
      refine Again.go _ ?_ ((ih_spec_l1Twice_l1 (i + 1) o hF) _ rfl _ hq)
      exact (Gh.to3 (by simp) (by first | simp -dsimp [w49]; done | simp_all))
   ·have q4 : ¬ ((i : Int) < d) := auq h3
    rw [if_neg q4] at hF
    repeat (first | refine chk.ga ?_ | simp -dsimp [h1, h3, q4])
    have hF := ob hF; obtain ⟨o'89, ho88, hF⟩ := hF
    refine ALoop.goU _ ?_ (((CC.spec_l1Twice_l3 B hB1 hB2 w d k i) 0 o'89 ho88) _ rfl _ ?_)
    ·exact (Gh.to3 (by simp) (by first | simp -dsimp [h1, h3, q4]; done | simp_all))
    rcases o'89 with r093 | sx90
    ·dsimp only at hF
     cases hF
     intro st h
     simp -dsimp
     refine Leave.go st (Gh.refl _) (hq st h)
    ·dsimp only at hF
     have hF := oc hF; obtain ⟨c91, hF⟩ := hF
     have w92 : IntKind.i64.wrap ((i : Int) + 1) = (i : Int) + 1 := wrap_in (by omega) (by omega)
     repeat (first | refine chk.ga ?_ | simp -dsimp [w92])
     refine Again.go _ ?_ ((ih_spec_l1Twice_l1 (i + 1) o hF) _ rfl _ hq)
     exact (Gh.to3 (by simp) (by first | simp -dsimp [w92]; done | simp_all))
  ·have q2 : ¬ ((i : Int) ≤ d) := auq h1
   rw [if_neg q2] at hF
   cases hF
   repeat (first | refine chk.ga ?_ | simp -dsimp [h1, q2])
   refine Leave.go ⟨[], []⟩ (Gh.to3 (by simp) (by first | simp -dsimp [h1, q2]; done | simp_all)) ?_
   exact hq

theorem C.spec_l1Twice (w : List Vl.Data) (d : Int) (k : Int) (r : Bool) (hF : F.spec_l1Twice w d k = some r) : PureCall Try.prog B 195 [.arr (List.map Vl.Data.c w), .lit (.int .i64 d), .lit (.int .i64 k)] (.lit (.bool r)) := by
 unfold F.spec_l1Twice at hF
 refine PureCall.enterLe Try.func195 (by kernel_rfl) rfl Try.ntmps195 (by simp) (by simp) ?_
 repeat (first | refine chk.ga ?_ | simp -dsimp)
 have hF := ob hF; obtain ⟨o'95, ho94, hF⟩ := hF
 refine ALoop.goU _ ?_ (((CC.spec_l1Twice_l1 B hB1 hB2 w d k) 0 o'95 ho94) _ rfl _ ?_)
 ·exact (Gh.to3 (by simp) (by simp -dsimp))
 rcases o'95 with r097 | sx96
 ·dsimp only at hF
  cases hF
  intro st h
  simpa using h
 ·dsimp only at hF
  cases hF
  repeat (first | refine chk.ga ?_ | simp -dsimp)
  all_goals (try first | omega | rfl)

theorem CC.spec_WorldValid_l2 (w : List Vl.Data) (d : Nat) : (∀ (k : Nat) (o : Lo Bool Unit), F.spec_WorldValid_l2 w d k = some o → ∀ (c : Code), navO [1, 1, 0, 1, 0, 0, 1, 0, 0, 1, 1, 0, 0] (bodyOf Try.f157) = some c → ∀ (Q : Exit → ASt → Prop), o.post (fun r => ∀ st, Post Try.prog Try.f157 (fun r' _ => r'.le (.lit (.bool r))) .ret st → Q .ret st) (fun s => Q (.exit 2) ⟨[(0, .arr (List.map Vl.Data.c w)), (3, .lit (.int .i64 (d : Int)))], []⟩) → ALoopU Try.prog B 0 67 (hold c .mk) ⟨[(0, .arr (List.map Vl.Data.c w)), (3, .lit (.int .i64 (d : Int))), (4, .lit (.int .i64 (k : Int)))], []⟩ (hold Q .mk)) := by
 refine F.spec_WorldValid_l2.partial_correctness w d
  _
  ?_
 ·intro _f_spec_WorldValid_l2 ih_spec_WorldValid_l2 k o hF
  intro c hc Q hq
  obtain rfl : c = _ := navEq hc rfl
  refine ALoopU.know fun hk hs => ?_
  have b0 := hk 0
  simp -dsimp at b0
  clear hk hs
  refine ALoopU.enter ?_
  have hF := ob hF; obtain ⟨x17, e18, hF⟩ := hF
  have le18 := lt_of_get e18
  repeat (first | refine chk.ga ?_ | simp -dsimp [↓e18])
  refine abr.split (fun h19 => ?_) (fun h19 => ?_)
  ·have q20 : (k < x17.ctors.length) := auq h19
   have z21 : ((k : Int) < (x17.ctors.length : Int)) := auz
   rw [if_pos q20] at hF
   have hF := ob hF; obtain ⟨x22, e23, hF⟩ := hF
   have le23 := lt_of_get e23
   repeat (first | refine chk.ga ?_ | simp -dsimp [↓e18, h19, z21, ↓e23])
   have hF := ob hF; obtain ⟨v24, e25, hF⟩ := hF
   refine ((C.spec_l1Ctor B hB1 hB2 (w.length : Int) x22 v24 e25)).goW (by first | simp [↓e18, h19, z21, ↓e23]; done | simp_all) (by simp) ?_
   repeat (first | refine chk.ga ?_ | simp -dsimp [↓e18, h19, z21, ↓e23])
   refine abr.split (fun h26 => ?_) (fun h26 => ?_)
   ·have q27 : (v24 = true) := auq h26
    rw [if_pos q27] at hF
    repeat (first | refine chk.ga ?_ | simp -dsimp [↓e18, h19, z21, ↓e23, h26])
    have hF := ob hF; obtain ⟨v28, e29, hF⟩ := hF
    refine ((C.spec_l1Twice B hB1 hB2 w (d : Int) (k : Int) v28 e29)).goW (by first | simp [↓e18, h19, z21, ↓e23, h26]; done | simp_all) (by simp) ?_
    repeat (first | refine chk.ga ?_ | simp -dsimp [↓e18, h19, z21, ↓e23, h26])
    refine abr.split (fun h30 => ?_) (fun h30 => ?_)
    ·have q31 : (v28 = true) := auq h30
     rw [if_pos q31] at hF
     cases hF
     repeat (first | refine chk.ga ?_ | simp -dsimp [↓e18, h19, z21, ↓e23, h26, h30])
     refine Leave.go _ (Gh.refl _) (hq _ ?_)
     repeat (first | refine chk.ga ?_ | simp -dsimp [↓e18, h19, z21, ↓e23, h26, h30])
    ·have q31 : ¬ (v28 = true) := auq h30
     rw [if_neg q31] at hF
     have hF := oc hF; obtain ⟨c32, hF⟩ := hF
     have w33 : IntKind.i64.wrap ((k : Int) + 1) = (k : Int) + 1 := wrap_in (by omega) (by omega)
     repeat (first | refine chk.ga ?_ | simp -dsimp [↓e18, h19, z21, ↓e23, h26, h30, q31, w33])
     refine Again.go _ ?_ ((ih_spec_WorldValid_l2 (k + 1) o hF) _ rfl _ hq)
     exact (Gh.to3 (by simp) (by first | simp -dsimp [↓e18, h19, z21, ↓e23, h26, h30, q31, w33]; done | simp_all))
   ·have q27 : ¬ (v24 = true) := auq h26
    rw [if_neg q27] at hF
    cases hF
    repeat (first | refine chk.ga ?_ | simp -dsimp [↓e18, h19, z21, ↓e23, h26, q27])
    refine Leave.go _ (Gh.refl _) (hq _ ?_)
    repeat (first | refine chk.ga ?_ | simp -dsimp [↓e18, h19, z21, ↓e23, h26, q27])
  ·have q20 : ¬ (k < x17.ctors.length) := auq h19
   have z21 : ¬ ((k : Int) < (x17.ctors.length : Int)) := auz
   rw [if_neg q20] at hF
   cases hF
   repeat (first | refine chk.ga ?_ | simp -dsimp [↓e18, h19, q20, z21])
   refine Leave.go ⟨[(0, .arr (List.map Vl.Data.c w)), (3, .lit (.int .i64 (d : Int)))], []⟩ (Gh.to3 (by simp) (by first | simp -dsimp [↓e18, h19, q20, z21]; done | simp_all)) ?_
   exact hq

theorem CC.spec_WorldValid_l1 (w : List Vl.Data) : (∀ (d : Nat) (o : Lo Bool Unit), F.spec_WorldValid_l1 w d = some o → ∀ (c : Code), navO [1, 1, 0, 1, 0, 0] (bodyOf Try.f157) = some c → ∀ (Q : Exit → ASt → Prop), o.post (fun r => ∀ st, Post Try.prog Try.f157 (fun r' _ => r'.le (.lit (.bool r))) .ret st → Q .ret st) (fun s => Q (.exit 0) ⟨[], []⟩) → ALoopU Try.prog B 0 67 (hold c .mk) ⟨[(0, .arr (List.map Vl.Data.c w)), (3, .lit (.int .i64 (d : Int)))], []⟩ (hold Q .mk)) := by
 refine F.spec_WorldValid_l1.partial_correctness w
  _
  ?_
 ·intro _f_spec_WorldValid_l1 ih_spec_WorldValid_l1 d o hF
  intro c hc Q hq
  obtain rfl : c = _ := navEq hc rfl
  refine ALoopU.know fun hk hs => ?_
  have b0 := hk 0
  simp -dsimp at b0
  clear hk hs
  refine ALoopU.enter ?_
  repeat (first | refine chk.ga ?_ | simp -dsimp)
  refine abr.split (fun h4 => ?_) (fun h4 => ?_)
  ·have q5 : (d < w.length) := auq h4
   have z6 : ((d : Int) < (w.length : Int)) := auz
   rw [if_pos q5] at hF
   have hF := ob hF; obtain ⟨x, e7, hF⟩ := hF
   have le7 := lt_of_get e7
   repeat (first | refine chk.ga ?_ | simp -dsimp [h4, z6, ↓e7])
   have hF := ob hF; obtain ⟨v, e8, hF⟩ := hF
   refine ((C.spec_l1Data B hB1 hB2 x.name v e8)).goW (by first | simp [h4, z6, ↓e7]; done | simp_all) (by simp) ?_
   repeat (first | refine chk.ga ?_ | simp -dsimp [h4, z6, ↓e7])
   refine abr.split (fun h9 => ?_) (fun h9 => ?_)
   ·have q10 : (v = true) := auq h9
    rw [if_pos q10] at hF
    repeat (first | refine chk.ga ?_ | simp -dsimp [h4, z6, ↓e7, h9])
    refine abr.split (fun h11 => ?_) (fun h11 => ?_)
    ·have q12 : ¬ (x.ctors.length = 0) := auq h11
     have z13 : ¬ ((x.ctors.length : Int) = (0 : Int)) := auz
     rw [if_neg q12] at hF
     repeat (first | refine chk.ga ?_ | simp -dsimp [h4, z6, ↓e7, h9, h11, q12, z13])
     refine abr.split (fun h14 => ?_) (fun h14 => ?_)
     ·have q15 : (4 < x.ctors.length) := auq h14
      have z16 : ((4 : Int) < (x.ctors.length : Int)) := auz
      rw [if_pos q15] at hF
      cases hF
      repeat (first | refine chk.ga ?_ | simp -dsimp [h4, z6, ↓e7, h9, h11, q12, z13, h14, z16])
      refine Leave.go _ (Gh.refl _) (hq _ ?_)
      repeat (first | refine chk.ga ?_ | simp -dsimp [h4, z6, ↓e7, h9, h11, q12, z13, h14, z16])
     ·have q15 : ¬ (4 < x.ctors.length) := auq h14
      have z16 : ¬ ((4 : Int) < (x.ctors.length : Int)) := auz
      rw [if_neg q15] at hF
      repeat (first | refine chk.ga ?_ | simp -dsimp [h4, z6, ↓e7, h9, h11, q12, z13, h14, q15, z16])
      have hF := ob hF; obtain ⟨o', ho34, hF⟩ := hF
      refine ALoop.goU _ ?_ (((CC.spec_WorldValid_l2 B hB1 hB2 w d) 0 o' ho34) _ rfl _ ?_)
      ·exact (Gh.to3 (by simp) (by first | simp -dsimp [h4, z6, ↓e7, h9, h11, q12, z13, h14, q15, z16]; done | simp_all))
      rcases o' with r0 | sx
      ·dsimp only at hF
       cases hF
       intro st h
       simp -dsimp
       refine Leave.go st (Gh.refl _) (hq st h)
      ·dsimp only at hF
       have hF := oc hF; obtain ⟨c35, hF⟩ := hF
       have w36 : IntKind.i64.wrap ((d : Int) + 1) = (d : Int) + 1 := wrap_in (by omega) (by omega)
       repeat (first | refine chk.ga ?_ | simp -dsimp [w36])
       refine Again.go _ ?_ ((ih_spec_WorldValid_l1 (d + 1) o hF) _ rfl _ hq)
       exact (Gh.to3 (by simp) (by first | simp -dsimp [w36]; done | simp_all))
    ·have q12 : (x.ctors.length = 0) := auq h11
     have z13 : ((x.ctors.length : Int) = (0 : Int)) := auz
     rw [if_pos q12] at hF
     cases hF
     repeat (first | refine chk.ga ?_ | simp -dsimp [h4, z6, ↓e7, h9, h11, q12, z13])
     refine Leave.go _ (Gh.refl _) (hq _ ?_)
     repeat (first | refine chk.ga ?_ | simp -dsimp [h4, z6, ↓e7, h9, h11, q12, z13])
   ·have q10 : ¬ (v = true) := auq h9
    rw [if_neg q10] at hF
    cases hF
    repeat (first | refine chk.ga ?_ | simp -dsimp [h4, z6, ↓e7, h9, q10])
    refine Leave.go _ (Gh.refl _) (hq _ ?_)
    repeat (first | refine chk.ga ?_ | simp -dsimp [h4, z6, ↓e7, h9, q10])
  ·have q5 : ¬ (d < w.length) := auq h4
   have z6 : ¬ ((d : Int) < (w.length : Int)) := auz
   rw [if_neg q5] at hF
   cases hF
   repeat (first | refine chk.ga ?_ | simp -dsimp [h4, q5, z6])
   refine Leave.go ⟨[], []⟩ (Gh.to3 (by simp) (by first | simp -dsimp [h4, q5, z6]; done | simp_all)) ?_
   exact hq

theorem C.spec_WorldValid (w : List Vl.Data) (r : Bool) (hF : F.spec_WorldValid w = some r) : PureCall Try.prog B 157 [.arr (List.map Vl.Data.c w)] (.lit (.bool r)) := by
 unfold F.spec_WorldValid at hF
 refine PureCall.enterLe Try.func157 (by kernel_rfl) rfl Try.ntmps157 (by simp) (by simp) ?_
 repeat (first | refine chk.ga ?_ | simp -dsimp)
 refine abr.split (fun h1 => ?_) (fun h1 => ?_)
 ·have q2 : (4 < w.length) := auq h1
  have z3 : ((4 : Int) < (w.length : Int)) := auz
  rw [if_pos q2] at hF
  cases hF
  repeat (first | refine chk.ga ?_ | simp -dsimp [h1, z3])
  all_goals (try first | omega | rfl)
 ·have q2 : ¬ (4 < w.length) := auq h1
  have z3 : ¬ ((4 : Int) < (w.length : Int)) := auz
  rw [if_neg q2] at hF
  repeat (first | refine chk.ga ?_ | simp -dsimp [h1, q2, z3])
  have hF := ob hF; obtain ⟨o'38, ho37, hF⟩ := hF
  refine ALoop.goU _ ?_ (((CC.spec_WorldValid_l1 B hB1 hB2 w) 0 o'38 ho37) _ rfl _ ?_)
  ·exact (Gh.to3 (by simp) (by first | simp -dsimp [h1, q2, z3]; done | simp_all))
  rcases o'38 with r040 | sx39
  ·dsimp only at hF
   cases hF
   intro st h
   simpa using h
  ·dsimp only at hF
   cases hF
   repeat (first | refine chk.ga ?_ | simp -dsimp)
   all_goals (try first | omega | rfl)

theorem C.spec_l1Is (w : List Vl.Data) (t : Vl.Ty) (r : Bool) (hF : F.spec_l1Is w t = some r) : PureCall Try.prog B 158 [.arr (List.map Vl.Data.c w), .agg [.lit (.int .i64 t.data), .lit (.int .i64 t.index)]] (.lit (.bool r)) := by
 unfold F.spec_l1Is at hF
 refine PureCall.enterLe Try.func158 (by kernel_rfl) rfl Try.ntmps158 (by simp) (by simp) ?_
 repeat (first | refine chk.ga ?_ | simp -dsimp)
 have hF := ob hF; obtain ⟨v, e1, hF⟩ := hF
 refine ((C.spec_l1Arg B hB1 hB2 (w.length : Int) t v e1)).goW (by simp) (by simp) ?_
 repeat (first | refine chk.ga ?_ | simp -dsimp)
 refine abr.split (fun h2 => ?_) (fun h2 => ?_)
 ·have q3 : (v = true) := auq h2
  rw [if_pos q3] at hF
  cases hF
  repeat (first | refine chk.ga ?_ | simp -dsimp [h2])
  all_goals (try first | omega | rfl)
 ·have q3 : ¬ (v = true) := auq h2
  rw [if_neg q3] at hF
  cases hF
  repeat (first | refine chk.ga ?_ | simp -dsimp [h2, q3])
  all_goals (try first | omega | rfl)

theorem C.spec_TypeValid (w : List Vl.Data) (t : Vl.Ty) (r : Bool) (hF : F.spec_TypeValid w t = some r) : PureCall Try.prog B 113 [.arr (List.map Vl.Data.c w), .agg [.lit (.int .i64 t.data), .lit (.int .i64 t.index)]] (.lit (.bool r)) := by
 unfold F.spec_TypeValid at hF
 refine PureCall.enterLe Try.func113 (by kernel_rfl) rfl Try.ntmps113 (by simp) (by simp) ?_
 repeat (first | refine chk.ga ?_ | simp -dsimp)
 have hF := ob hF; obtain ⟨v, e1, hF⟩ := hF
 refine ((C.spec_WorldValid B hB1 hB2 w v e1)).goW (by simp) (by simp) ?_
 repeat (first | refine chk.ga ?_ | simp -dsimp)
 refine abr.split (fun h2 => ?_) (fun h2 => ?_)
 ·have q3 : (v = true) := auq h2
  rw [if_pos q3] at hF
  repeat (first | refine chk.ga ?_ | simp -dsimp [h2])
  have hF := ob hF; obtain ⟨v4, e5, hF⟩ := hF
  refine ((C.spec_l1Is B hB1 hB2 w t v4 e5)).goW (by first | simp [h2]; done | simp_all) (by simp) ?_
  cases hF
  repeat (first | refine chk.ga ?_ | simp -dsimp [h2])
  all_goals (try first | omega | rfl)
 ·have q3 : ¬ (v = true) := auq h2
  rw [if_neg q3] at hF
  cases hF
  repeat (first | refine chk.ga ?_ | simp -dsimp [h2, q3])
  all_goals (try first | omega | rfl)

theorem C.spec_l10Hole (v : Vl.Value) (r : Bool) (hF : F.spec_l10Hole v = some r) : PureCall Try.prog B 214 [.agg [.lit (.int .i64 v.ctor), .lit (.int .i64 v.n), .arr (List.map Vl.Value.c v.kids)]] (.lit (.bool r)) := by
 unfold F.spec_l10Hole at hF
 refine PureCall.enterLe Try.func214 (by kernel_rfl) rfl Try.ntmps214 (by simp) (by simp) ?_
 repeat (first | refine chk.ga ?_ | simp -dsimp)
 refine abr.split (fun h1 => ?_) (fun h1 => ?_)
 ·have q2 : (v.ctor = (-2)) := auq h1
  rw [if_pos q2] at hF
  repeat (first | refine chk.ga ?_ | simp -dsimp [h1])
  refine abr.split (fun h3 => ?_) (fun h3 => ?_)
  ·have q4 : (v.n = 0) := auq h3
   rw [if_pos q4] at hF
   cases hF
   repeat (first | refine chk.ga ?_ | simp -dsimp [h1, h3])
   all_goals (try first | omega | rfl)
  ·have q4 : ¬ (v.n = 0) := auq h3
   rw [if_neg q4] at hF
   cases hF
   repeat (first | refine chk.ga ?_ | simp -dsimp [h1, h3, q4])
   all_goals (try first | omega | rfl)
 ·have q2 : ¬ (v.ctor = (-2)) := auq h1
  rw [if_neg q2] at hF
  cases hF
  repeat (first | refine chk.ga ?_ | simp -dsimp [h1, q2])
  all_goals (try first | omega | rfl)

theorem C.spec_l1Fits (c' : Vl.Ctor) (index' : Int) (r : Bool) (hF : F.spec_l1Fits c' index' = some r) : PureCall Try.prog B 171 [.agg [.lit (.string c'.name), .arr (List.map Vl.Ty.c c'.args), .lit (.int .i64 c'.index)], .lit (.int .i64 index')] (.lit (.bool r)) := by
 unfold F.spec_l1Fits at hF
 refine PureCall.enterLe Try.func171 (by kernel_rfl) rfl Try.ntmps171 (by simp) (by simp) ?_
 repeat (first | refine chk.ga ?_ | simp -dsimp)
 refine abr.split (fun h1 => ?_) (fun h1 => ?_)
 ·have q2 : ¬ (c'.index = 0) := auq h1
  rw [if_neg q2] at hF
  repeat (first | refine chk.ga ?_ | simp -dsimp [h1, q2])
  refine abr.split (fun h3 => ?_) (fun h3 => ?_)
  ·have q4 : ¬ (index' = 0) := auq h3
   rw [if_neg q4] at hF
   cases hF
   repeat (first | refine chk.ga ?_ | simp -dsimp [h1, q2, h3, q4])
   all_goals (try first | omega | rfl)
  ·have q4 : (index' = 0) := auq h3
   rw [if_pos q4] at hF
   cases hF
   repeat (first | refine chk.ga ?_ | simp -dsimp [h1, q2, eq_true h3, eq_true q4])
   all_goals (try first | omega | rfl)
 ·have q2 : (c'.index = 0) := auq h1
  rw [if_pos q2] at hF
  cases hF
  repeat (first | refine chk.ga ?_ | simp -dsimp [h1, q2])
  all_goals (try first | omega | rfl)

theorem CC.spec_l1Ctors_l1 (w : List Vl.Data) (t : Vl.Ty) : (∀ (out : List Int) (k : Nat) (o : List Int), F.spec_l1Ctors_l1 w t out k = some o → ∀ (c : Code), navO [1, 1, 1, 0, 1, 0, 0] (bodyOf Try.f129) = some c → ∀ (Q : Exit → ASt → Prop), (Q (.exit 0) ⟨[(5, .own 1 (List.length (α := Int) o))], [.dead, .elems 1 (List.map cI o)]⟩) → ALoopU Try.prog B 0 40 (hold c .mk) ⟨[(0, .arr (List.map Vl.Data.c w)), (3, .ptr 0 0), (5, .own 1 (List.length (α := Int) out)), (6, .lit (.int .i64 (k : Int)))], [.cells [.lit (.int .i64 t.data), .lit (.int .i64 t.index)], .elems 1 (List.map cI out)]⟩ (hold Q .mk)) := by
 refine F.spec_l1Ctors_l1.partial_correctness w t
  _
  ?_
 ·intro _f_spec_l1Ctors_l1 ih_spec_l1Ctors_l1 out k o hF
  intro c hc Q hq
  obtain rfl : c = _ := navEq hc rfl
  refine ALoopU.know fun hk hs => ?_
  have b0 := hk 0
  simp -dsimp at b0
  have d1 := hs 1 _ rfl
  simp -dsimp [Blk.bnd] at d1
  clear hk hs
  refine ALoopU.enter ?_
  have hF := ob hF; obtain ⟨x, e3a, hF⟩ := hF
  have e3a := at_some e3a; obtain ⟨ne3, e3⟩ := e3a
  have le3 := lt_of_get e3
  repeat (first | refine chk.ga ?_ | simp -dsimp [↓e3])
  refine abr.split (fun h4 => ?_) (fun h4 => ?_)
  ·have q5 : (k < x.ctors.length) := auq h4
   have z6 : ((k : Int) < (x.ctors.length : Int)) := auz
   rw [if_pos q5] at hF
   repeat (first | refine chk.ga ?_ | simp -dsimp [↓e3, h4, z6])
   refine ADraw.simple follows (by kernel_rfl) (by kernel_rfl) ?_
   have hF := ob hF; obtain ⟨x7, e8, hF⟩ := hF
   have le8 := lt_of_get e8
   repeat (first | refine chk.ga ?_ | simp -dsimp [↓e3, h4, z6, ↓e8])
   have hF := ob hF; obtain ⟨v, e9, hF⟩ := hF
   refine ((C.spec_l1Fits B hB1 hB2 x7 t.index v e9)).pgoW (by first | simp [↓e3, h4, z6, ↓e8]; done | simp_all) (by simp) ?_
   repeat (first | refine chk.ga ?_ | simp -dsimp [↓e3, h4, z6, ↓e8])
   refine abr.split (fun h10 => ?_) (fun h10 => ?_)
   ·have q11 : (v = true) := auq h10
    rw [if_pos q11] at hF
    have hF := oc hF; obtain ⟨c12, hF⟩ := hF
    have hF := oc hF; obtain ⟨c13, hF⟩ := hF
    have w14 : IntKind.i64.wrap ((k : Int) + 1) = (k : Int) + 1 := wrap_in (by omega) (by omega)
    repeat (first | refine chk.ga ?_ | simp -dsimp [↓e3, h4, z6, ↓e8, h10, w14])
    refine Again.go _ ?_ ((ih_spec_l1Ctors_l1 (out ++ [(k : Int)]) (k + 1) o hF) _ rfl _ hq)
    exact (Gh.to3 (by simp) (by first | simp -dsimp [↓e3, h4, z6, ↓e8, h10, w14]; done | simp_all))
   ·have q11 : ¬ (v = true) := auq h10
    rw [if_neg q11] at hF
    have hF := oc hF; obtain ⟨c15, hF⟩ := hF
    have w16 : IntKind.i64.wrap ((k : Int) + 1) = (k : Int) + 1 := wrap_in (by omega) (by omega)
    repeat (first | refine chk.ga ?_ | simp -dsimp [↓e3, h4, z6, ↓e8, h10, q11, w16])
    refine Again.go _ ?_ ((ih_spec_l1Ctors_l1 out (k + 1) o hF) _ rfl _ hq)
    exact (Gh.to3 (by simp) (by first | simp -dsimp [↓e3, h4, z6, ↓e8, h10, q11, w16]; done | simp_all))
  ·have q5 : ¬ (k < x.ctors.length) := auq h4
   have z6 : ¬ ((k : Int) < (x.ctors.length : Int)) := auz
   rw [if_neg q5] at hF
   cases hF
   repeat (first | refine chk.ga ?_ | simp -dsimp [↓e3, h4, q5, z6])
   refine Leave.go ⟨[(5, .own 1 (List.length (α := Int) out))], [.dead, .elems 1 (List.map cI out)]⟩ (Gh.to3 (by simp) (by first | simp -dsimp [↓e3, h4, q5, z6]; done | simp_all)) ?_
   exact hq

theorem C.spec_l1Ctors (w : List Vl.Data) (t : Vl.Ty) (r : List Int) (hF : F.spec_l1Ctors w t = some r) : PureCall Try.prog B 129 [.arr (List.map Vl.Data.c w), .agg [.lit (.int .i64 t.data), .lit (.int .i64 t.index)]] (.arr (List.map cI r)) := by
 unfold F.spec_l1Ctors at hF
 refine PureCall.enterLe Try.func129 (by kernel_rfl) rfl Try.ntmps129 (by simp) (by simp) ?_
 repeat (first | refine chk.ga ?_ | simp -dsimp)
 refine abr.split (fun h1 => ?_) (fun h1 => ?_)
 ·have q2 : (t.data = (-1)) := auq h1
  rw [if_pos q2] at hF
  cases hF
  repeat (first | refine chk.ga ?_ | simp -dsimp [h1])
  all_goals (try first | omega | rfl)
 ·have q2 : ¬ (t.data = (-1)) := auq h1
  rw [if_neg q2] at hF
  repeat (first | refine chk.ga ?_ | simp -dsimp [h1, q2])
  have hF := ob hF; obtain ⟨o', ho17, hF⟩ := hF
  refine ALoop.goU _ ?_ (((CC.spec_l1Ctors_l1 B hB1 hB2 w t) [] 0 o' ho17) _ rfl _ ?_)
  ·exact (Gh.to3 (by simp) (by first | simp -dsimp [h1, q2]; done | simp_all))
  cases hF
  repeat (first | refine chk.ga ?_ | simp -dsimp)
  all_goals (try first | omega | rfl)

theorem CC.spec_l1Has_l1 (list : List Int) (n : Int) : (∀ (i : Nat) (o : Lo Bool Unit), F.spec_l1Has_l1 list n i = some o → ∀ (c : Code), navO [1, 0, 1, 0, 0] (bodyOf Try.f197) = some c → ∀ (Q : Exit → ASt → Prop), o.post (fun r => ∀ st, Post Try.prog Try.f197 (fun r' _ => r'.le (.lit (.bool r))) .ret st → Q .ret st) (fun s => Q (.exit 0) ⟨[], []⟩) → ALoopU Try.prog B 0 18 (hold c .mk) ⟨[(0, .arr (List.map cI list)), (1, .lit (.int .i64 n)), (5, .lit (.int .i64 (i : Int)))], []⟩ (hold Q .mk)) := by
 refine F.spec_l1Has_l1.partial_correctness list n
  _
  ?_
 ·intro _f_spec_l1Has_l1 ih_spec_l1Has_l1 i o hF
  intro c hc Q hq
  obtain rfl : c = _ := navEq hc rfl
  refine ALoopU.know fun hk hs => ?_
  have b0 := hk 0
  simp -dsimp at b0
  clear hk hs
  refine ALoopU.enter ?_
  repeat (first | refine chk.ga ?_ | simp -dsimp)
  refine abr.split (fun h1 => ?_) (fun h1 => ?_)
  ·have q2 : (i < list.length) := auq h1
   have z3 : ((i : Int) < (list.length : Int)) := auz
   rw [if_pos q2] at hF
   have hF := ob hF; obtain ⟨x, e4, hF⟩ := hF
   have le4 := lt_of_get e4
   repeat (first | refine chk.ga ?_ | simp -dsimp [h1, z3, ↓e4])
   refine abr.split (fun h5 => ?_) (fun h5 => ?_)
   ·have q6 : (x = n) := auq h5
    rw [if_pos q6] at hF
    cases hF
    repeat (first | refine chk.ga ?_ | simp -dsimp [h1, z3, ↓e4, h5])
    refine Leave.go _ (Gh.refl _) (hq _ ?_)
    repeat (first | refine chk.ga ?_ | simp -dsimp [h1, z3, ↓e4, h5])
   ·have q6 : ¬ (x = n) := auq h5
    rw [if_neg q6] at hF
    have w7 : IntKind.i64.wrap ((i : Int) + 1) = (i : Int) + 1 := wrap_in (by omega) (by omega)
    repeat (first | refine chk.ga ?_ | simp -dsimp [h1, z3, ↓e4, h5, q6, w7])
    refine Again.go _ ?_ ((ih_spec_l1Has_l1 (i + 1) o hF) _ rfl _ hq)
    exact (Gh.to3 (by simp) (by first | simp -dsimp [h1, z3, ↓e4, h5, q6, w7]; done | simp_all))
  ·have q2 : ¬ (i < list.length) := auq h1
   have z3 : ¬ ((i : Int) < (list.length : Int)) := auz
   rw [if_neg q2] at hF
   cases hF
   repeat (first | refine chk.ga ?_ | simp -dsimp [h1, q2, z3])
   refine Leave.go ⟨[], []⟩ (Gh.to3 (by simp) (by first | simp -dsimp [h1, q2, z3]; done | simp_all)) ?_
   exact hq

theorem C.spec_l1Has (list : List Int) (n : Int) (r : Bool) (hF : F.spec_l1Has list n = some r) : PureCall Try.prog B 197 [.arr (List.map cI list), .lit (.int .i64 n)] (.lit (.bool r)) := by
 unfold F.spec_l1Has at hF
 refine PureCall.enterLe Try.func197 (by kernel_rfl) rfl Try.ntmps197 (by simp) (by simp) ?_
 repeat (first | refine chk.ga ?_ | simp -dsimp)
 have hF := ob hF; obtain ⟨o', ho8, hF⟩ := hF
 refine ALoop.goU _ ?_ (((CC.spec_l1Has_l1 B hB1 hB2 list n) 0 o' ho8) _ rfl _ ?_)
 ·exact (Gh.to3 (by simp) (by simp -dsimp))
 rcases o' with r0 | sx
 ·dsimp only at hF
  cases hF
  intro st h
  simpa using h
 ·dsimp only at hF
  cases hF
  repeat (first | refine chk.ga ?_ | simp -dsimp)
  all_goals (try first | omega | rfl)

theorem C.spec_l1Result (c' : Vl.Ctor) (index' : Int) (r : Int) (hF : F.spec_l1Result c' index' = some r) : PureCall Try.prog B 170 [.agg [.lit (.string c'.name), .arr (List.map Vl.Ty.c c'.args), .lit (.int .i64 c'.index)], .lit (.int .i64 index')] (.lit (.int .i64 r)) := by
 unfold F.spec_l1Result at hF
 refine PureCall.enterLe Try.func170 (by kernel_rfl) rfl Try.ntmps170 (by simp) (by simp) ?_
 repeat (first | refine chk.ga ?_ | simp -dsimp)
 refine abr.split (fun h1 => ?_) (fun h1 => ?_)
 ·have q2 : (c'.index = 0) := auq h1
  rw [if_pos q2] at hF
  cases hF
  repeat (first | refine chk.ga ?_ | simp -dsimp [h1])
  all_goals (try first | omega | rfl)
 ·have q2 : ¬ (c'.index = 0) := auq h1
  rw [if_neg q2] at hF
  cases hF
  repeat (first | refine chk.ga ?_ | simp -dsimp [h1, q2])
  all_goals (try first | omega | rfl)

theorem CC.spec_l1Args_l1 (t : Vl.Ty) (x2 : Vl.Ctor) : (∀ (out : List Vl.Ty) (i : Nat) (o : List Vl.Ty), F.spec_l1Args_l1 t x2 out i = some o → ∀ (c : Code), navO [1, 1, 1, 0, 1, 0, 0] (bodyOf Try.f128) = some c → ∀ (Q : Exit → ASt → Prop), (Q (.exit 0) ⟨[(7, .own 1 (List.length (α := Vl.Ty) o))], [.dead, .elems 2 (List.map Vl.Ty.c o)]⟩) → ALoopU Try.prog B 0 46 (hold c .mk) ⟨[(4, .ptr 0 0), (7, .own 1 (List.length (α := Vl.Ty) out)), (8, .ptr 2 0), (9, .lit (.int .i64 (i : Int)))], [.cells [.lit (.int .i64 t.data), .lit (.int .i64 t.index)], .elems 2 (List.map Vl.Ty.c out), .cells [.lit (.string x2.name), .arr (List.map Vl.Ty.c x2.args), .lit (.int .i64 x2.index)]]⟩ (hold Q .mk)) := by
 refine F.spec_l1Args_l1.partial_correctness t x2
  _
  ?_
 ·intro _f_spec_l1Args_l1 ih_spec_l1Args_l1 out i o hF
  intro c hc Q hq
  obtain rfl : c = _ := navEq hc rfl
  refine ALoopU.know fun hk hs => ?_
  have d1 := hs 1 _ rfl
  simp -dsimp [Blk.bnd] at d1
  have d2 := hs 2 _ rfl
  simp -dsimp [Blk.bnd] at d2
  clear hk hs
  refine ALoopU.enter ?_
  repeat (first | refine chk.ga ?_ | simp -dsimp)
  refine abr.split (fun h4 => ?_) (fun h4 => ?_)
  ·have q5 : (i < x2.args.length) := auq h4
   have z6 : ((i : Int) < (x2.args.length : Int)) := auz
   rw [if_pos q5] at hF
   have hF := ob hF; obtain ⟨x7, e8, hF⟩ := hF
   have le8 := lt_of_get e8
   repeat (first | refine chk.ga ?_ | simp -dsimp [h4, z6, ↓e8])
   refine abr.split (fun h9 => ?_) (fun h9 => ?_)
   ·have q10 : (x7.index = (-1)) := auq h9
    rw [if_pos q10] at hF
    repeat (first | refine chk.ga ?_ | simp -dsimp [h4, z6, ↓e8, h9])
    have hF := ob hF; obtain ⟨v, e11, hF⟩ := hF
    refine ((C.spec_l1Result B hB1 hB2 x2 t.index v e11)).goW (by first | simp [h4, z6, ↓e8, h9]; done | simp_all) (by simp) ?_
    have hF := oc hF; obtain ⟨c12, hF⟩ := hF
    have w13 : IntKind.i64.wrap ((i : Int) + 1) = (i : Int) + 1 := wrap_in (by omega) (by omega)
    repeat (first | refine chk.ga ?_ | simp -dsimp [h4, z6, ↓e8, h9, w13])
    refine Again.go _ ?_ ((ih_spec_l1Args_l1 (out ++ [(⟨x7.data, v⟩ : Vl.Ty)]) (i + 1) o hF) _ rfl _ hq)
    exact (Gh.to3 (by simp) (by first | simp -dsimp [h4, z6, ↓e8, h9, w13]; done | simp_all))
   ·have q10 : ¬ (x7.index = (-1)) := auq h9
    rw [if_neg q10] at hF
    have hF := oc hF; obtain ⟨c14, hF⟩ := hF
    have w15 : IntKind.i64.wrap ((i : Int) + 1) = (i : Int) + 1 := wrap_in (by omega) (by omega)
    repeat (first | refine chk.ga ?_ | simp -dsimp [h4, z6, ↓e8, h9, q10, w15])
    refine Again.go _ ?_ ((ih_spec_l1Args_l1 (out ++ [x7]) (i + 1) o hF) _ rfl _ hq)
    exact (Gh.to3 (by simp) (by first | simp -dsimp [h4, z6, ↓e8, h9, q10, w15]; done | simp_all))
  ·have q5 : ¬ (i < x2.args.length) := auq h4
   have z6 : ¬ ((i : Int) < (x2.args.length : Int)) := auz
   rw [if_neg q5] at hF
   cases hF
   repeat (first | refine chk.ga ?_ | simp -dsimp [h4, q5, z6])
   refine Leave.go ⟨[(7, .own 1 (List.length (α := Vl.Ty) out))], [.dead, .elems 2 (List.map Vl.Ty.c out)]⟩ (Gh.to3 (by simp) (by first | simp -dsimp [h4, q5, z6]; done | simp_all)) ?_
   exact hq

theorem C.spec_l1Args (w : List Vl.Data) (t : Vl.Ty) (ctor : Int) (r : List Vl.Ty) (hF : F.spec_l1Args w t ctor = some r) : PureCall Try.prog B 128 [.arr (List.map Vl.Data.c w), .agg [.lit (.int .i64 t.data), .lit (.int .i64 t.index)], .lit (.int .i64 ctor)] (.arr (List.map Vl.Ty.c r)) := by
 unfold F.spec_l1Args at hF
 refine PureCall.enterLe Try.func128 (by kernel_rfl) rfl Try.ntmps128 (by simp) (by simp) ?_
 have hF := ob hF; obtain ⟨x, e1a, hF⟩ := hF
 have e1a := at_some e1a; obtain ⟨ne1, e1⟩ := e1a
 have le1 := lt_of_get e1
 have hF := ob hF; obtain ⟨x2, e3a, hF⟩ := hF
 have e3a := at_some e3a; obtain ⟨ne3, e3⟩ := e3a
 have le3 := lt_of_get e3
 repeat (first | refine chk.ga ?_ | simp -dsimp [↓e1, ↓e3])
 have hF := ob hF; obtain ⟨o', ho16, hF⟩ := hF
 refine ALoop.goU _ ?_ (((CC.spec_l1Args_l1 B hB1 hB2 t x2) [] 0 o' ho16) _ rfl _ ?_)
 ·exact (Gh.to3 (by simp) (by first | simp -dsimp [↓e1, ↓e3]; done | simp_all))
 cases hF
 repeat (first | refine chk.ga ?_ | simp -dsimp)
 all_goals (try first | omega | rfl)

theorem CC.spec_l2Fits (w : List Vl.Data) : (∀ (t : Vl.Ty) (v : Vl.Value) (depth : Int) (r : Bool), F.spec_l2Fits w t v depth = some r → PureCall Try.prog B 183 [.arr (List.map Vl.Data.c w), .agg [.lit (.int .i64 t.data), .lit (.int .i64 t.index)], .agg [.lit (.int .i64 v.ctor), .lit (.int .i64 v.n), .arr (List.map Vl.Value.c v.kids)], .lit (.int .i64 depth)] (.lit (.bool r))) ∧
  (∀ (v : Vl.Value) (depth : Int) (v19 : List Vl.Ty) (i : Nat) (o : Lo Bool Unit), F.spec_l2Fits_l1 w v depth v19 i = some o → ∀ (c : Code), navO [1, 1, 1, 1, 1, 1, 0, 1, 0, 0] (bodyOf Try.f183) = some c → ∀ (Q : Exit → ASt → Prop), o.post (fun r => ∀ st, Post Try.prog Try.f183 (fun r' _ => r'.le (.lit (.bool r))) .ret st → Q .ret st) (fun s => Q (.exit 0) ⟨[], []⟩) → ALoopU Try.prog B 0 78 (hold c .mk) ⟨[(0, .arr (List.map Vl.Data.c w)), (3, .lit (.int .i64 depth)), (6, .ptr 1 0), (9, .arr (List.map Vl.Ty.c v19)), (10, .lit (.int .i64 (i : Int)))], [.dead, .cells [.lit (.int .i64 v.ctor), .lit (.int .i64 v.n), .arr (List.map Vl.Value.c v.kids)]]⟩ (hold Q .mk)) := by
 refine F.spec_l2Fits.mutual_partial_correctness w
  _ _
  ?_ ?_
 ·intro _f_spec_l2Fits_l1 ih_spec_l2Fits_l1 t v depth r hF
  refine PureCall.enterLe Try.func183 (by kernel_rfl) rfl Try.ntmps183 (by simp) (by simp) ?_
  repeat (first | refine chk.ga ?_ | simp -dsimp)
  refine abr.split (fun h1 => ?_) (fun h1 => ?_)
  ·have q2 : (depth < 1) := auq h1
   rw [if_pos q2] at hF
   cases hF
   repeat (first | refine chk.ga ?_ | simp -dsimp [h1])
   all_goals (try first | omega | rfl)
  ·have q2 : ¬ (depth < 1) := auq h1
   rw [if_neg q2] at hF
   repeat (first | refine chk.ga ?_ | simp -dsimp [h1, q2])
   refine abr.split (fun h3 => ?_) (fun h3 => ?_)
   ·have q4 : (t.data = (-1)) := auq h3
    rw [if_pos q4] at hF
    repeat (first | refine chk.ga ?_ | simp -dsimp [h1, q2, h3])
    refine abr.split (fun h5 => ?_) (fun h5 => ?_)
    ·have q6 : (v.ctor = (-1)) := auq h5
     rw [if_pos q6] at hF
     repeat (first | refine chk.ga ?_ | simp -dsimp [h1, q2, h3, h5])
     refine abr.split (fun h7 => ?_) (fun h7 => ?_)
     ·have q8 : (0 ≤ v.n) := auq h7
      rw [if_pos q8] at hF
      repeat (first | refine chk.ga ?_ | simp -dsimp [h1, q2, h3, h5, h7])
      refine abr.split (fun h9 => ?_) (fun h9 => ?_)
      ·have q10 : (v.n ≤ 9) := auq h9
       rw [if_pos q10] at hF
       cases hF
       repeat (first | refine chk.ga ?_ | simp -dsimp [h1, q2, h3, h5, h7, h9])
       all_goals (try first | omega | rfl)
      ·have q10 : ¬ (v.n ≤ 9) := auq h9
       rw [if_neg q10] at hF
       cases hF
       repeat (first | refine chk.ga ?_ | simp -dsimp [h1, q2, h3, h5, h7, h9, q10])
       all_goals (try first | omega | rfl)
     ·have q8 : ¬ (0 ≤ v.n) := auq h7
      rw [if_neg q8] at hF
      cases hF
      repeat (first | refine chk.ga ?_ | simp -dsimp [h1, q2, h3, h5, h7, q8])
      all_goals (try first | omega | rfl)
    ·have q6 : ¬ (v.ctor = (-1)) := auq h5
     rw [if_neg q6] at hF
     cases hF
     repeat (first | refine chk.ga ?_ | simp -dsimp [h1, q2, h3, h5, q6])
     all_goals (try first | omega | rfl)
   ·have q4 : ¬ (t.data = (-1)) := auq h3
    rw [if_neg q4] at hF
    repeat (first | refine chk.ga ?_ | simp -dsimp [h1, q2, h3, q4])
    refine ADraw.simple follows (by kernel_rfl) (by kernel_rfl) ?_
    repeat (first | refine chk.ga ?_ | simp -dsimp [h1, q2, h3, q4])
    refine abr.split (fun h11 => ?_) (fun h11 => ?_)
    ·have q12 : (v.n = 0) := auq h11
     rw [if_pos q12] at hF
     repeat (first | refine chk.ga ?_ | simp -dsimp [h1, q2, h3, q4, h11])
     have hF := ob hF; obtain ⟨v13, e14, hF⟩ := hF
     refine ((C.spec_l1Ctors B hB1 hB2 w t v13 e14)).pgoW (by first | simp [h1, q2, h3, q4, h11]; done | simp_all) (by simp) ?_
     repeat (first | refine chk.ga ?_ | simp -dsimp [h1, q2, h3, q4, h11])
     have hF := ob hF; obtain ⟨v15, e16, hF⟩ := hF
     refine ((C.spec_l1Has B hB1 hB2 v13 v.ctor v15 e16)).pgoW (by first | simp [h1, q2, h3, q4, h11]; done | simp_all) (by simp) ?_
     repeat (first | refine chk.ga ?_ | simp -dsimp [h1, q2, h3, q4, h11])
     refine abr.split (fun h17 => ?_) (fun h17 => ?_)
     ·have q18 : ¬ (v15 = true) := auq h17
      rw [if_neg q18] at hF
      cases hF
      repeat (first | refine chk.ga ?_ | simp -dsimp [h1, q2, h3, q4, h11, h17, q18])
      all_goals (try first | omega | rfl)
     ·have q18 : (v15 = true) := auq h17
      rw [if_pos q18] at hF
      repeat (first | refine chk.ga ?_ | simp -dsimp [h1, q2, h3, q4, h11, h17, q18])
      have hF := ob hF; obtain ⟨v19, e20, hF⟩ := hF
      refine ((C.spec_l1Args B hB1 hB2 w t v.ctor v19 e20)).goW (by first | simp [h1, q2, h3, q4, h11, h17, q18]; done | simp_all) (by simp) ?_
      repeat (first | refine chk.ga ?_ | simp -dsimp [h1, q2, h3, q4, h11, h17, q18])
      refine abr.split (fun h21 => ?_) (fun h21 => ?_)
      ·have q22 : ¬ (v.kids.length = v19.length) := auq h21
       have z23 : ¬ ((v.kids.length : Int) = (v19.length : Int)) := auz
       rw [if_neg q22] at hF
       cases hF
       repeat (first | refine chk.ga ?_ | simp -dsimp [h1, q2, h3, q4, h11, h17, q18, h21, q22, z23])
       all_goals (try first | omega | rfl)
      ·have q22 : (v.kids.length = v19.length) := auq h21
       have z23 : ((v.kids.length : Int) = (v19.length : Int)) := auz
       rw [if_pos q22] at hF
       repeat (first | refine chk.ga ?_ | simp -dsimp [h1, q2, h3, q4, h11, h17, q18, h21, q22, z23])
       have hF := ob hF; obtain ⟨o', ho35, hF⟩ := hF
       refine ALoop.goU _ ?_ ((ih_spec_l2Fits_l1 v depth v19 0 o' ho35) _ rfl _ ?_)
       ·exact (Gh.to3 (by simp) (by first | simp -dsimp [h1, q2, h3, q4, h11, h17, q18, h21, q22, z23]; done | simp_all))
       rcases o' with r0 | sx
       ·dsimp only at hF
        cases hF
        intro st h
        simpa using h
       ·dsimp only at hF
        cases hF
        repeat (first | refine chk.ga ?_ | simp -dsimp)
        all_goals (try first | omega | rfl)
    ·have q12 : ¬ (v.n = 0) := auq h11
     rw [if_neg q12] at hF
     cases hF
     repeat (first | refine chk.ga ?_ | simp -dsimp [h1, q2, h3, q4, h11, q12])
     all_goals (try first | omega | rfl)
 ·intro _f_spec_l2Fits _f_spec_l2Fits_l1 ih_spec_l2Fits ih_spec_l2Fits_l1 v depth v19 i o hF
  intro c hc Q hq
  obtain rfl : c = _ := navEq hc rfl
  refine ALoopU.know fun hk hs => ?_
  have b0 := hk 0
  simp -dsimp at b0
  have b9 := hk 9
  simp -dsimp at b9
  have d1 := hs 1 _ rfl
  simp -dsimp [Blk.bnd] at d1
  clear hk hs
  refine ALoopU.enter ?_
  repeat (first | refine chk.ga ?_ | simp -dsimp)
  refine abr.split (fun h24 => ?_) (fun h24 => ?_)
  ·have q25 : (i < v19.length) := auq h24
   have z26 : ((i : Int) < (v19.length : Int)) := auz
   rw [if_pos q25] at hF
   repeat (first | refine chk.ga ?_ | simp -dsimp [h24, z26])
   refine ADraw.simple follows (by kernel_rfl) (by kernel_rfl) ?_
   have hF := ob hF; obtain ⟨x, e27, hF⟩ := hF
   have le27 := lt_of_get e27
   have hF := ob hF; obtain ⟨x28, e29, hF⟩ := hF
   have le29 := lt_of_get e29
   repeat (first | refine chk.ga ?_ | simp -dsimp [h24, z26, ↓e27, ↓e29])
   have hF := ob hF; obtain ⟨v30, e31, hF⟩ := hF
   refine ((ih_spec_l2Fits x x28 (IntKind.i64.wrap (depth - 1)) v30 e31)).pgoW (by first | simp [h24, z26, ↓e27, ↓e29]; done | simp_all) (by simp) ?_
   repeat (first | refine chk.ga ?_ | simp -dsimp [h24, z26, ↓e27, ↓e29])
   refine abr.split (fun h32 => ?_) (fun h32 => ?_)
   ·have q33 : ¬ (v30 = true) := auq h32
    rw [if_neg q33] at hF
    cases hF
    repeat (first | refine chk.ga ?_ | simp -dsimp [h24, z26, ↓e27, ↓e29, h32, q33])
    refine Leave.go _ (Gh.refl _) (hq _ ?_)
    repeat (first | refine chk.ga ?_ | simp -dsimp [h24, z26, ↓e27, ↓e29, h32, q33])
   ·have q33 : (v30 = true) := auq h32
    rw [if_pos q33] at hF
    have w34 : IntKind.i64.wrap ((i : Int) + 1) = (i : Int) + 1 := wrap_in (by omega) (by omega)
    repeat (first | refine chk.ga ?_ | simp -dsimp [h24, z26, ↓e27, ↓e29, h32, q33, w34])
    refine Again.go _ ?_ ((ih_spec_l2Fits_l1 v depth v19 (i + 1) o hF) _ rfl _ hq)
    exact (Gh.to3 (by simp) (by first | simp -dsimp [h24, z26, ↓e27, ↓e29, h32, q33, w34]; done | simp_all))
  ·have q25 : ¬ (i < v19.length) := auq h24
   have z26 : ¬ ((i : Int) < (v19.length : Int)) := auz
   rw [if_neg q25] at hF
   cases hF
   repeat (first | refine chk.ga ?_ | simp -dsimp [h24, q25, z26])
   refine Leave.go ⟨[], []⟩ (Gh.to3 (by simp) (by first | simp -dsimp [h24, q25, z26]; done | simp_all)) ?_
   exact hq

theorem CC.spec_l10Fits (w : List Vl.Data) : (∀ (t : Vl.Ty) (v : Vl.Value) (depth : Int) (r : Bool), F.spec_l10Fits w t v depth = some r → PureCall Try.prog B 185 [.arr (List.map Vl.Data.c w), .agg [.lit (.int .i64 t.data), .lit (.int .i64 t.index)], .agg [.lit (.int .i64 v.ctor), .lit (.int .i64 v.n), .arr (List.map Vl.Value.c v.kids)], .lit (.int .i64 depth)] (.lit (.bool r))) ∧
  (∀ (v : Vl.Value) (depth : Int) (v19 : List Vl.Ty) (i : Nat) (o : Lo Bool Unit), F.spec_l10Fits_l1 w v depth v19 i = some o → ∀ (c : Code), navO [1, 1, 1, 1, 1, 1, 1, 0, 1, 0, 0] (bodyOf Try.f185) = some c → ∀ (Q : Exit → ASt → Prop), o.post (fun r => ∀ st, Post Try.prog Try.f185 (fun r' _ => r'.le (.lit (.bool r))) .ret st → Q .ret st) (fun s => Q (.exit 0) ⟨[], []⟩) → ALoopU Try.prog B 0 69 (hold c .mk) ⟨[(0, .arr (List.map Vl.Data.c w)), (3, .lit (.int .i64 depth)), (6, .ptr 1 0), (9, .arr (List.map Vl.Ty.c v19)), (10, .lit (.int .i64 (i : Int)))], [.dead, .cells [.lit (.int .i64 v.ctor), .lit (.int .i64 v.n), .arr (List.map Vl.Value.c v.kids)]]⟩ (hold Q .mk)) := by
 refine F.spec_l10Fits.mutual_partial_correctness w
  _ _
  ?_ ?_
 ·intro _f_spec_l10Fits_l1 ih_spec_l10Fits_l1 t v depth r hF
  refine PureCall.enterLe Try.func185 (by kernel_rfl) rfl Try.ntmps185 (by simp) (by simp) ?_
  repeat (first | refine chk.ga ?_ | simp -dsimp)
  refine abr.split (fun h1 => ?_) (fun h1 => ?_)
  ·have q2 : (depth < 1) := auq h1
   rw [if_pos q2] at hF
   cases hF
   repeat (first | refine chk.ga ?_ | simp -dsimp [h1])
   all_goals (try first | omega | rfl)
  ·have q2 : ¬ (depth < 1) := auq h1
   rw [if_neg q2] at hF
   repeat (first | refine chk.ga ?_ | simp -dsimp [h1, q2])
   refine abr.split (fun h3 => ?_) (fun h3 => ?_)
   ·have q4 : (v.ctor = (-2)) := auq h3
    rw [if_pos q4] at hF
    repeat (first | refine chk.ga ?_ | simp -dsimp [h1, q2, h3])
    have hF := ob hF; obtain ⟨v5, e6, hF⟩ := hF
    refine ((C.spec_l10Hole B hB1 hB2 v v5 e6)).goW (by first | simp [h1, q2, h3]; done | simp_all) (by simp) ?_
    cases hF
    repeat (first | refine chk.ga ?_ | simp -dsimp [h1, q2, h3])
    all_goals (try first | omega | rfl)
   ·have q4 : ¬ (v.ctor = (-2)) := auq h3
    rw [if_neg q4] at hF
    repeat (first | refine chk.ga ?_ | simp -dsimp [h1, q2, h3, q4])
    refine abr.split (fun h7 => ?_) (fun h7 => ?_)
    ·have q8 : (t.data = (-1)) := auq h7
     rw [if_pos q8] at hF
     repeat (first | refine chk.ga ?_ | simp -dsimp [h1, q2, h3, q4, h7])
     have hF := ob hF; obtain ⟨v9, e10, hF⟩ := hF
     refine (((CC.spec_l2Fits B hB1 hB2 w).1 t v depth v9 e10)).goW (by first | simp [h1, q2, h3, q4, h7]; done | simp_all) (by simp) ?_
     cases hF
     repeat (first | refine chk.ga ?_ | simp -dsimp [h1, q2, h3, q4, h7])
     all_goals (try first | omega | rfl)
    ·have q8 : ¬ (t.data = (-1)) := auq h7
     rw [if_neg q8] at hF
     repeat (first | refine chk.ga ?_ | simp -dsimp [h1, q2, h3, q4, h7, q8])
     refine ADraw.simple follows (by kernel_rfl) (by kernel_rfl) ?_
     repeat (first | refine chk.ga ?_ | simp -dsimp [h1, q2, h3, q4, h7, q8])
     refine abr.split (fun h11 => ?_) (fun h11 => ?_)
     ·have q12 : (v.n = 0) := auq h11
      rw [if_pos q12] at hF
      repeat (first | refine chk.ga ?_ | simp -dsimp [h1, q2, h3, q4, h7, q8, h11])
      have hF := ob hF; obtain ⟨v13, e14, hF⟩ := hF
      refine ((C.spec_l1Ctors B hB1 hB2 w t v13 e14)).pgoW (by first | simp [h1, q2, h3, q4, h7, q8, h11]; done | simp_all) (by simp) ?_
      repeat (first | refine chk.ga ?_ | simp -dsimp [h1, q2, h3, q4, h7, q8, h11])
      have hF := ob hF; obtain ⟨v15, e16, hF⟩ := hF
      refine ((C.spec_l1Has B hB1 hB2 v13 v.ctor v15 e16)).pgoW (by first | simp [h1, q2, h3, q4, h7, q8, h11]; done | simp_all) (by simp) ?_
      repeat (first | refine chk.ga ?_ | simp -dsimp [h1, q2, h3, q4, h7, q8, h11])
      refine abr.split (fun h17 => ?_) (fun h17 => ?_)
      ·have q18 : ¬ (v15 = true) := auq h17
       rw [if_neg q18] at hF
       cases hF
       repeat (first | refine chk.ga ?_ | simp -dsimp [h1, q2, h3, q4, h7, q8, h11, h17, q18])
       all_goals (try first | omega | rfl)
      ·have q18 : (v15 = true) := auq h17
       rw [if_pos q18] at hF
       repeat (first | refine chk.ga ?_ | simp -dsimp [h1, q2, h3, q4, h7, q8, h11, h17, q18])
       have hF := ob hF; obtain ⟨v19, e20, hF⟩ := hF
       refine ((C.spec_l1Args B hB1 hB2 w t v.ctor v19 e20)).goW (by first | simp [h1, q2, h3, q4, h7, q8, h11, h17, q18]; done | simp_all) (by simp) ?_
       repeat (first | refine chk.ga ?_ | simp -dsimp [h1, q2, h3, q4, h7, q8, h11, h17, q18])
       refine abr.split (fun h21 => ?_) (fun h21 => ?_)
       ·have q22 : ¬ (v.kids.length = v19.length) := auq h21
        have z23 : ¬ ((v.kids.length : Int) = (v19.length : Int)) := auz
        rw [if_neg q22] at hF
        cases hF
        repeat (first | refine chk.ga ?_ | simp -dsimp [h1, q2, h3, q4, h7, q8, h11, h17, q18, h21, q22, z23])
        all_goals (try first | omega | rfl)
       ·have q22 : (v.kids.length = v19.length) := auq h21
        have z23 : ((v.kids.length : Int) = (v19.length : Int)) := auz
        rw [if_pos q22] at hF
        repeat (first | refine chk.ga ?_ | simp -dsimp [h1, q2, h3, q4, h7, q8, h11, h17, q18, h21, q22, z23])
        have hF := ob hF; obtain ⟨o', ho35, hF⟩ := hF
        refine ALoop.goU _ ?_ ((ih_spec_l10Fits_l1 v depth v19 0 o' ho35) _ rfl _ ?_)
        ·exact (Gh.to3 (by simp) (by first | simp -dsimp [h1, q2, h3, q4, h7, q8, h11, h17, q18, h21, q22, z23]; done | simp_all))
        rcases o' with r0 | sx
        ·dsimp only at hF
         cases hF
         intro st h
         simpa using h
        ·dsimp only at hF
         cases hF
         repeat (first | refine chk.ga ?_ | simp -dsimp)
         all_goals (try first | omega | rfl)
     ·have q12 : ¬ (v.n = 0) := auq h11
      rw [if_neg q12] at hF
      cases hF
      repeat (first | refine chk.ga ?_ | simp -dsimp [h1, q2, h3, q4, h7, q8, h11, q12])
      all_goals (try first | omega | rfl)
 ·intro _f_spec_l10Fits _f_spec_l10Fits_l1 ih_spec_l10Fits ih_spec_l10Fits_l1 v depth v19 i o hF
  intro c hc Q hq
  obtain rfl : c = _ := navEq hc rfl
  refine ALoopU.know fun hk hs => ?_
  have b0 := hk 0
  simp -dsimp at b0
  have b9 := hk 9
  simp -dsimp at b9
  have d1 := hs 1 _ rfl
  simp -dsimp [Blk.bnd] at d1
  clear hk hs
  refine ALoopU.enter ?_
  repeat (first | refine chk.ga ?_ | simp -dsimp)
  refine abr.split (fun h24 => ?_) (fun h24 => ?_)
  ·have q25 : (i < v19.length) := auq h24
   have z26 : ((i : Int) < (v19.length : Int)) := auz
   rw [if_pos q25] at hF
   repeat (first | refine chk.ga ?_ | simp -dsimp [h24, z26])
   refine ADraw.simple follows (by kernel_rfl) (by kernel_rfl) ?_
   have hF := ob hF; obtain ⟨x, e27, hF⟩ := hF
   have le27 := lt_of_get e27
   have hF := ob hF; obtain ⟨x28, e29, hF⟩ := hF
   have le29 := lt_of_get e29
   repeat (first | refine chk.ga ?_ | simp -dsimp [h24, z26, ↓e27, ↓e29])
   have hF := ob hF; obtain ⟨v30, e31, hF⟩ := hF
   refine ((ih_spec_l10Fits x x28 (IntKind.i64.wrap (depth - 1)) v30 e31)).pgoW (by first | simp [h24, z26, ↓e27, ↓e29]; done | simp_all) (by simp) ?_
   repeat (first | refine chk.ga ?_ | simp -dsimp [h24, z26, ↓e27, ↓e29])
   refine abr.split (fun h32 => ?_) (fun h32 => ?_)
   ·have q33 : ¬ (v30 = true) := auq h32
    rw [if_neg q33] at hF
    cases hF
    repeat (first | refine chk.ga ?_ | simp -dsimp [h24, z26, ↓e27, ↓e29, h32, q33])
    refine Leave.go _ (Gh.refl _) (hq _ ?_)
    repeat (first | refine chk.ga ?_ | simp -dsimp [h24, z26, ↓e27, ↓e29, h32, q33])
   ·have q33 : (v30 = true) := auq h32
    rw [if_pos q33] at hF
    have w34 : IntKind.i64.wrap ((i : Int) + 1) = (i : Int) + 1 := wrap_in (by omega) (by omega)
    repeat (first | refine chk.ga ?_ | simp -dsimp [h24, z26, ↓e27, ↓e29, h32, q33, w34])
    refine Again.go _ ?_ ((ih_spec_l10Fits_l1 v depth v19 (i + 1) o hF) _ rfl _ hq)
    exact (Gh.to3 (by simp) (by first | simp -dsimp [h24, z26, ↓e27, ↓e29, h32, q33, w34]; done | simp_all))
  ·have q25 : ¬ (i < v19.length) := auq h24
   have z26 : ¬ ((i : Int) < (v19.length : Int)) := auz
   rw [if_neg q25] at hF
   cases hF
   repeat (first | refine chk.ga ?_ | simp -dsimp [h24, q25, z26])
   refine Leave.go ⟨[], []⟩ (Gh.to3 (by simp) (by first | simp -dsimp [h24, q25, z26]; done | simp_all)) ?_
   exact hq

theorem CC.spec_l2Count  : (∀ (v : Vl.Value) (most : Int) (r : Int), F.spec_l2Count v most = some r → PureCall Try.prog B 184 [.agg [.lit (.int .i64 v.ctor), .lit (.int .i64 v.n), .arr (List.map Vl.Value.c v.kids)], .lit (.int .i64 most)] (.lit (.int .i64 r))) ∧
  (∀ (v : Vl.Value) (most : Int) (n : Int) (i : Nat) (o : Int), F.spec_l2Count_l1 v most n i = some o → ∀ (c : Code), navO [1, 1, 0, 1, 0, 0] (bodyOf Try.f184) = some c → ∀ (Q : Exit → ASt → Prop), (Q (.exit 0) ⟨[(5, .lit (.int .i64 o))], []⟩) → ALoopU Try.prog B 0 31 (hold c .mk) ⟨[(1, .lit (.int .i64 most)), (2, .ptr 0 0), (5, .lit (.int .i64 n)), (6, .lit (.int .i64 (i : Int)))], [.cells [.lit (.int .i64 v.ctor), .lit (.int .i64 v.n), .arr (List.map Vl.Value.c v.kids)]]⟩ (hold Q .mk)) := by
 refine F.spec_l2Count.mutual_partial_correctness 
  _ _
  ?_ ?_
 ·intro _f_spec_l2Count_l1 ih_spec_l2Count_l1 v most r hF
  refine PureCall.enterLe Try.func184 (by kernel_rfl) rfl Try.ntmps184 (by simp) (by simp) ?_
  repeat (first | refine chk.ga ?_ | simp -dsimp)
  have hF := ob hF; obtain ⟨o', ho10, hF⟩ := hF
  refine ALoop.goU _ ?_ ((ih_spec_l2Count_l1 v most (1 : Int) 0 o' ho10) _ rfl _ ?_)
  ·exact (Gh.to3 (by simp) (by simp -dsimp))
  cases hF
  repeat (first | refine chk.ga ?_ | simp -dsimp)
  all_goals (try first | omega | rfl)
 ·intro _f_spec_l2Count _f_spec_l2Count_l1 ih_spec_l2Count ih_spec_l2Count_l1 v most n i o hF
  intro c hc Q hq
  obtain rfl : c = _ := navEq hc rfl
  refine ALoopU.know fun hk hs => ?_
  have d0 := hs 0 _ rfl
  simp -dsimp [Blk.bnd] at d0
  clear hk hs
  refine ALoopU.enter ?_
  repeat (first | refine chk.ga ?_ | simp -dsimp)
  refine abr.split (fun h1 => ?_) (fun h1 => ?_)
  ·have q2 : (i < v.kids.length) := auq h1
   have z3 : ((i : Int) < (v.kids.length : Int)) := auz
   rw [if_pos q2] at hF
   repeat (first | refine chk.ga ?_ | simp -dsimp [h1, z3])
   refine abr.split (fun h4 => ?_) (fun h4 => ?_)
   ·have q5 : (n ≤ most) := auq h4
    rw [if_pos q5] at hF
    have hF := ob hF; obtain ⟨x, e6, hF⟩ := hF
    have le6 := lt_of_get e6
    repeat (first | refine chk.ga ?_ | simp -dsimp [h1, z3, h4, ↓e6])
    have hF := ob hF; obtain ⟨v7, e8, hF⟩ := hF
    refine ((ih_spec_l2Count x (IntKind.i64.wrap (most - n)) v7 e8)).goW (by first | simp [h1, z3, h4, ↓e6]; done | simp_all) (by simp) ?_
    have w9 : IntKind.i64.wrap ((i : Int) + 1) = (i : Int) + 1 := wrap_in (by omega) (by omega)
    repeat (first | refine chk.ga ?_ | simp -dsimp [h1, z3, h4, ↓e6, w9])
    refine Again.go _ ?_ ((ih_spec_l2Count_l1 v most (IntKind.i64.wrap (n + v7)) (i + 1) o hF) _ rfl _ hq)
    exact (Gh.to3 (by simp) (by first | simp -dsimp [h1, z3, h4, ↓e6, w9]; done | simp_all))
   ·have q5 : ¬ (n ≤ most) := auq h4
    rw [if_neg q5] at hF
    cases hF
    repeat (first | refine chk.ga ?_ | simp -dsimp [h1, z3, h4, q5])
    refine Leave.go ⟨[(5, .lit (.int .i64 n))], []⟩ (Gh.to3 (by simp) (by first | simp -dsimp [h1, z3, h4, q5]; done | simp_all)) ?_
    exact hq
  ·have q2 : ¬ (i < v.kids.length) := auq h1
   have z3 : ¬ ((i : Int) < (v.kids.length : Int)) := auz
   rw [if_neg q2] at hF
   cases hF
   repeat (first | refine chk.ga ?_ | simp -dsimp [h1, q2, z3])
   refine Leave.go ⟨[(5, .lit (.int .i64 n))], []⟩ (Gh.to3 (by simp) (by first | simp -dsimp [h1, q2, z3]; done | simp_all)) ?_
   exact hq

theorem C.spec_l10Is (w : List Vl.Data) (t : Vl.Ty) (v : Vl.Value) (r : Bool) (hF : F.spec_l10Is w t v = some r) : PureCall Try.prog B 149 [.arr (List.map Vl.Data.c w), .agg [.lit (.int .i64 t.data), .lit (.int .i64 t.index)], .agg [.lit (.int .i64 v.ctor), .lit (.int .i64 v.n), .arr (List.map Vl.Value.c v.kids)]] (.lit (.bool r)) := by
 unfold F.spec_l10Is at hF
 refine PureCall.enterLe Try.func149 (by kernel_rfl) rfl Try.ntmps149 (by simp) (by simp) ?_
 repeat (first | refine chk.ga ?_ | simp -dsimp)
 have hF := ob hF; obtain ⟨v1, e2, hF⟩ := hF
 refine (((CC.spec_l10Fits B hB1 hB2 w).1 t v (10 : Int) v1 e2)).goW (by simp) (by simp) ?_
 repeat (first | refine chk.ga ?_ | simp -dsimp)
 refine abr.split (fun h3 => ?_) (fun h3 => ?_)
 ·have q4 : (v1 = true) := auq h3
  rw [if_pos q4] at hF
  repeat (first | refine chk.ga ?_ | simp -dsimp [h3])
  have hF := ob hF; obtain ⟨v5, e6, hF⟩ := hF
  refine (((CC.spec_l2Count B hB1 hB2 ).1 v (60 : Int) v5 e6)).goW (by first | simp [h3]; done | simp_all) (by simp) ?_
  cases hF
  repeat (first | refine chk.ga ?_ | simp -dsimp [h3])
  all_goals (try first | omega | rfl)
 ·have q4 : ¬ (v1 = true) := auq h3
  rw [if_neg q4] at hF
  cases hF
  repeat (first | refine chk.ga ?_ | simp -dsimp [h3, q4])
  all_goals (try first | omega | rfl)

theorem C.spec_PartialValid (w : List Vl.Data) (t : Vl.Ty) (v : Vl.Value) (r : Bool) (hF : F.spec_PartialValid w t v = some r) : PureCall Try.prog B 104 [.arr (List.map Vl.Data.c w), .agg [.lit (.int .i64 t.data), .lit (.int .i64 t.index)], .agg [.lit (.int .i64 v.ctor), .lit (.int .i64 v.n), .arr (List.map Vl.Value.c v.kids)]] (.lit (.bool r)) := by
 unfold F.spec_PartialValid at hF
 refine PureCall.enterLe Try.func104 (by kernel_rfl) rfl Try.ntmps104 (by simp) (by simp) ?_
 repeat (first | refine chk.ga ?_ | simp -dsimp)
 have hF := ob hF; obtain ⟨v1, e2, hF⟩ := hF
 refine ((C.spec_TypeValid B hB1 hB2 w t v1 e2)).goW (by simp) (by simp) ?_
 repeat (first | refine chk.ga ?_ | simp -dsimp)
 refine abr.split (fun h3 => ?_) (fun h3 => ?_)
 ·have q4 : (v1 = true) := auq h3
  rw [if_pos q4] at hF
  repeat (first | refine chk.ga ?_ | simp -dsimp [h3])
  have hF := ob hF; obtain ⟨v5, e6, hF⟩ := hF
  refine ((C.spec_l10Is B hB1 hB2 w t v v5 e6)).goW (by first | simp [h3]; done | simp_all) (by simp) ?_
  cases hF
  repeat (first | refine chk.ga ?_ | simp -dsimp [h3])
  all_goals (try first | omega | rfl)
 ·have q4 : ¬ (v1 = true) := auq h3
  rw [if_neg q4] at hF
  cases hF
  repeat (first | refine chk.ga ?_ | simp -dsimp [h3, q4])
  all_goals (try first | omega | rfl)

theorem CC.spec_l7SamePath_l1 (a : List Int) (b : List Int) : (∀ (i : Nat) (o : Lo Bool Unit), F.spec_l7SamePath_l1 a b i = some o → ∀ (c : Code), navO [1, 1, 0, 1, 0, 0] (bodyOf Try.f186) = some c → ∀ (Q : Exit → ASt → Prop), o.post (fun r => ∀ st, Post Try.prog Try.f186 (fun r' _ => r'.le (.lit (.bool r))) .ret st → Q .ret st) (fun s => Q (.exit 0) ⟨[], []⟩) → ALoopU Try.prog B 0 26 (hold c .mk) ⟨[(0, .arr (List.map cI a)), (1, .arr (List.map cI b)), (5, .lit (.int .i64 (i : Int)))], []⟩ (hold Q .mk)) := by
 refine F.spec_l7SamePath_l1.partial_correctness a b
  _
  ?_
 ·intro _f_spec_l7SamePath_l1 ih_spec_l7SamePath_l1 i o hF
  intro c hc Q hq
  obtain rfl : c = _ := navEq hc rfl
  refine ALoopU.know fun hk hs => ?_
  have b0 := hk 0
  simp -dsimp at b0
  have b1 := hk 1
  simp -dsimp at b1
  clear hk hs
  refine ALoopU.enter ?_
  repeat (first | refine chk.ga ?_ | simp -dsimp)
  refine abr.split (fun h4 => ?_) (fun h4 => ?_)
  ·have q5 : (i < a.length) := auq h4
   have z6 : ((i : Int) < (a.length : Int)) := auz
   rw [if_pos q5] at hF
   repeat (first | refine chk.ga ?_ | simp -dsimp [h4, z6])
   refine ADraw.simple follows (by kernel_rfl) (by kernel_rfl) ?_
   have hF := ob hF; obtain ⟨x, e7, hF⟩ := hF
   have le7 := lt_of_get e7
   have hF := ob hF; obtain ⟨x8, e9, hF⟩ := hF
   have le9 := lt_of_get e9
   repeat (first | refine chk.ga ?_ | simp -dsimp [h4, z6, ↓e7, ↓e9])
   refine abr.split (fun h10 => ?_) (fun h10 => ?_)
   ·have q11 : ¬ (x = x8) := auq h10
    rw [if_neg q11] at hF
    cases hF
    repeat (first | refine chk.ga ?_ | simp -dsimp [h4, z6, ↓e7, ↓e9, h10, q11])
    refine Leave.go _ (Gh.refl _) (hq _ ?_)
    repeat (first | refine chk.ga ?_ | simp -dsimp [h4, z6, ↓e7, ↓e9, h10, q11])
   ·have q11 : (x = x8) := auq h10
    rw [if_pos q11] at hF
    have w12 : IntKind.i64.wrap ((i : Int) + 1) = (i : Int) + 1 := wrap_in (by omega) (by omega)
    repeat (first | refine chk.ga ?_ | simp -dsimp [h4, z6, ↓e7, ↓e9, h10, q11, w12])
    refine Again.go _ ?_ ((ih_spec_l7SamePath_l1 (i + 1) o hF) _ rfl _ hq)
    exact (Gh.to3 (by simp) (by first | simp -dsimp [h4, z6, ↓e7, ↓e9, h10, q11, w12]; done | simp_all))
  ·have q5 : ¬ (i < a.length) := auq h4
   have z6 : ¬ ((i : Int) < (a.length : Int)) := auz
   rw [if_neg q5] at hF
   cases hF
   repeat (first | refine chk.ga ?_ | simp -dsimp [h4, q5, z6])
   refine Leave.go ⟨[], []⟩ (Gh.to3 (by simp) (by first | simp -dsimp [h4, q5, z6]; done | simp_all)) ?_
   exact hq

theorem C.spec_l7SamePath (a : List Int) (b : List Int) (r : Bool) (hF : F.spec_l7SamePath a b = some r) : PureCall Try.prog B 186 [.arr (List.map cI a), .arr (List.map cI b)] (.lit (.bool r)) := by
 unfold F.spec_l7SamePath at hF
 refine PureCall.enterLe Try.func186 (by kernel_rfl) rfl Try.ntmps186 (by simp) (by simp) ?_
 repeat (first | refine chk.ga ?_ | simp -dsimp)
 refine abr.split (fun h1 => ?_) (fun h1 => ?_)
 ·have q2 : ¬ (a.length = b.length) := auq h1
  have z3 : ¬ ((a.length : Int) = (b.length : Int)) := auz
  rw [if_neg q2] at hF
  cases hF
  repeat (first | refine chk.ga ?_ | simp -dsimp [h1, q2, z3])
  all_goals (try first | omega | rfl)
 ·have q2 : (a.length = b.length) := auq h1
  have z3 : ((a.length : Int) = (b.length : Int)) := auz
  rw [if_pos q2] at hF
  repeat (first | refine chk.ga ?_ | simp -dsimp [h1, q2, z3])
  have hF := ob hF; obtain ⟨o', ho13, hF⟩ := hF
  refine ALoop.goU _ ?_ (((CC.spec_l7SamePath_l1 B hB1 hB2 a b) 0 o' ho13) _ rfl _ ?_)
  ·exact (Gh.to3 (by simp) (by first | simp -dsimp [h1, q2, z3]; done | simp_all))
  rcases o' with r0 | sx
  ·dsimp only at hF
   cases hF
   intro st h
   simpa using h
  ·dsimp only at hF
   cases hF
   repeat (first | refine chk.ga ?_ | simp -dsimp)
   all_goals (try first | omega | rfl)

theorem CC.spec_l10Path_l1 (list : List (List Int)) (path : List Int) : (∀ (i : Nat) (o : Lo Bool Unit), F.spec_l10Path_l1 list path i = some o → ∀ (c : Code), navO [1, 0, 1, 0, 0] (bodyOf Try.f150) = some c → ∀ (Q : Exit → ASt → Prop), o.post (fun r => ∀ st, Post Try.prog Try.f150 (fun r' _ => r'.le (.lit (.bool r))) .ret st → Q .ret st) (fun s => Q (.exit 0) ⟨[], []⟩) → ALoopU Try.prog B 0 18 (hold c .mk) ⟨[(0, .arr (List.map (cL cI) list)), (1, .arr (List.map cI path)), (5, .lit (.int .i64 (i : Int)))], []⟩ (hold Q .mk)) := by
 refine F.spec_l10Path_l1.partial_correctness list path
  _
  ?_
 ·intro _f_spec_l10Path_l1 ih_spec_l10Path_l1 i o hF
  intro c hc Q hq
  obtain rfl : c = _ := navEq hc rfl
  refine ALoopU.know fun hk hs => ?_
  have b0 := hk 0
  simp -dsimp at b0
  have b1 := hk 1
  simp -dsimp at b1
  clear hk hs
  refine ALoopU.enter ?_
  repeat (first | refine chk.ga ?_ | simp -dsimp)
  refine abr.split (fun h1 => ?_) (fun h1 => ?_)
  ·have q2 : (i < list.length) := auq h1
   have z3 : ((i : Int) < (list.length : Int)) := auz
   rw [if_pos q2] at hF
   have hF := ob hF; obtain ⟨x, e4, hF⟩ := hF
   have le4 := lt_of_get e4
   repeat (first | refine chk.ga ?_ | simp -dsimp [h1, z3, ↓e4])
   have hF := ob hF; obtain ⟨v, e5, hF⟩ := hF
   refine ((C.spec_l7SamePath B hB1 hB2 x path v e5)).goW (by first | simp [h1, z3, ↓e4]; done | simp_all) (by simp) ?_
   repeat (first | refine chk.ga ?_ | simp -dsimp [h1, z3, ↓e4])
   refine abr.split (fun h6 => ?_) (fun h6 => ?_)
   ·have q7 : (v = true) := auq h6
    rw [if_pos q7] at hF
    cases hF
    repeat (first | refine chk.ga ?_ | simp -dsimp [h1, z3, ↓e4, h6])
    refine Leave.go _ (Gh.refl _) (hq _ ?_)
    repeat (first | refine chk.ga ?_ | simp -dsimp [h1, z3, ↓e4, h6])
   ·have q7 : ¬ (v = true) := auq h6
    rw [if_neg q7] at hF
    have w8 : IntKind.i64.wrap ((i : Int) + 1) = (i : Int) + 1 := wrap_in (by omega) (by omega)
    repeat (first | refine chk.ga ?_ | simp -dsimp [h1, z3, ↓e4, h6, q7, w8])
    refine Again.go _ ?_ ((ih_spec_l10Path_l1 (i + 1) o hF) _ rfl _ hq)
    exact (Gh.to3 (by simp) (by first | simp -dsimp [h1, z3, ↓e4, h6, q7, w8]; done | simp_all))
  ·have q2 : ¬ (i < list.length) := auq h1
   have z3 : ¬ ((i : Int) < (list.length : Int)) := auz
   rw [if_neg q2] at hF
   cases hF
   repeat (first | refine chk.ga ?_ | simp -dsimp [h1, q2, z3])
   refine Leave.go ⟨[], []⟩ (Gh.to3 (by simp) (by first | simp -dsimp [h1, q2, z3]; done | simp_all)) ?_
   exact hq

theorem C.spec_l10Path (list : List (List Int)) (path : List Int) (r : Bool) (hF : F.spec_l10Path list path = some r) : PureCall Try.prog B 150 [.arr (List.map (cL cI) list), .arr (List.map cI path)] (.lit (.bool r)) := by
 unfold F.spec_l10Path at hF
 refine PureCall.enterLe Try.func150 (by kernel_rfl) rfl Try.ntmps150 (by simp) (by simp) ?_
 repeat (first | refine chk.ga ?_ | simp -dsimp)
 have hF := ob hF; obtain ⟨o', ho9, hF⟩ := hF
 refine ALoop.goU _ ?_ (((CC.spec_l10Path_l1 B hB1 hB2 list path) 0 o' ho9) _ rfl _ ?_)
 ·exact (Gh.to3 (by simp) (by simp -dsimp))
 rcases o' with r0 | sx
 ·dsimp only at hF
  cases hF
  intro st h
  simpa using h
 ·dsimp only at hF
  cases hF
  repeat (first | refine chk.ga ?_ | simp -dsimp)
  all_goals (try first | omega | rfl)

theorem C.spec_l7Path (path : List Int) (i : Int) (r : List Int) (hF : F.spec_l7Path path i = some r) : PureCall Try.prog B 151 [.arr (List.map cI path), .lit (.int .i64 i)] (.arr (List.map cI r)) := by
 unfold F.spec_l7Path at hF
 refine PureCall.enterLe Try.func151 (by kernel_rfl) rfl Try.ntmps151 (by simp) (by simp) ?_
 have hF := oc hF; obtain ⟨c1, hF⟩ := hF
 have hF := oc hF; obtain ⟨c2, hF⟩ := hF
 cases hF
 repeat (first | refine chk.ga ?_ | simp -dsimp)
 all_goals (try first | omega | rfl)

theorem CC.spec_l10Mask (paths : List (List Int)) : (∀ (v : Vl.Value) (path : List Int) (r : Vl.Value), F.spec_l10Mask v paths path = some r → PureCall Try.prog B 105 [.agg [.lit (.int .i64 v.ctor), .lit (.int .i64 v.n), .arr (List.map Vl.Value.c v.kids)], .arr (List.map (cL cI) paths), .arr (List.map cI path)] (.agg [.lit (.int .i64 r.ctor), .lit (.int .i64 r.n), .arr (List.map Vl.Value.c r.kids)])) ∧
  (∀ (v : Vl.Value) (path : List Int) (out : List Vl.Value) (i : Nat) (o : List Vl.Value), F.spec_l10Mask_l1 v paths path out i = some o → ∀ (c : Code), navO [1, 1, 1, 0, 1, 0, 0] (bodyOf Try.f105) = some c → ∀ (Q : Exit → ASt → Prop), (Q (.exit 0) ⟨[(6, .ptr 1 0), (7, .ptr 2 0)], [.dead, .cells [.lit (.int .i64 0), .lit (.int .i64 0), .lit (.slice none 0 0)], .cells [.lit (.int .i64 v.ctor), .lit (.int .i64 v.n), .own 3 (List.length (α := Vl.Value) o)], .elems 3 (List.map Vl.Value.c o)]⟩) → ALoopU Try.prog B 0 42 (hold c .mk) ⟨[(1, .arr (List.map (cL cI) paths)), (2, .arr (List.map cI path)), (3, .ptr 0 0), (6, .ptr 1 0), (7, .ptr 2 0), (8, .lit (.int .i64 (i : Int)))], [.cells [.lit (.int .i64 v.ctor), .lit (.int .i64 v.n), .arr (List.map Vl.Value.c v.kids)], .cells [.lit (.int .i64 0), .lit (.int .i64 0), .lit (.slice none 0 0)], .cells [.lit (.int .i64 v.ctor), .lit (.int .i64 v.n), .own 3 (List.length (α := Vl.Value) out)], .elems 3 (List.map Vl.Value.c out)]⟩ (hold Q .mk)) := by
 refine F.spec_l10Mask.mutual_partial_correctness paths
  _ _
  ?_ ?_
 ·intro _f_spec_l10Mask_l1 ih_spec_l10Mask_l1 v path r hF
  refine PureCall.enterLe Try.func105 (by kernel_rfl) rfl Try.ntmps105 (by simp) (by simp) ?_
  repeat (first | refine chk.ga ?_ | simp -dsimp)
  have hF := ob hF; obtain ⟨v1, e2, hF⟩ := hF
  refine ((C.spec_l10Path B hB1 hB2 paths path v1 e2)).goW (by simp) (by simp) ?_
  repeat (first | refine chk.ga ?_ | simp -dsimp)
  refine abr.split (fun h3 => ?_) (fun h3 => ?_)
  ·have q4 : ¬ (v1 = true) := auq h3
   rw [if_neg q4] at hF
   cases hF
   repeat (first | refine chk.ga ?_ | simp -dsimp [h3, q4])
   all_goals (try first | omega | rfl)
  ·have q4 : (v1 = true) := auq h3
   rw [if_pos q4] at hF
   repeat (first | refine chk.ga ?_ | simp -dsimp [h3, q4])
   have hF := ob hF; obtain ⟨o', ho15, hF⟩ := hF
   refine ALoop.goU ⟨[(1, .arr (List.map (cL cI) paths)), (2, .arr (List.map cI path)), (3, .ptr 0 0), (6, .ptr 1 0), (7, .ptr 2 0), (8, .lit (.int .i64 (0 : Int)))], [.cells [.lit (.int .i64 v.ctor), .lit (.int .i64 v.n), .arr (List.map Vl.Value.c v.kids)], .cells [.lit (.int .i64 0), .lit (.int .i64 0), .lit (.slice none 0 0)], .cells [.lit (.int .i64 v.ctor), .lit (.int .i64 v.n), .own 3 (List.length (α := Vl.Value) [])], .elems 3 (List.map Vl.Value.c [])]⟩ (by refine Gh.trans (Gh.nilCell 2 2 3 (by simp -dsimp; rfl) (by simp -dsimp)) ?_; exact (Gh.to3 (by simp) (by first | simp -dsimp [h3, q4]; done | simp_all))) ?_
   refine (ih_spec_l10Mask_l1 v path [] 0 o' ho15) _ rfl _ ?_
   cases hF
   repeat (first | refine chk.ga ?_ | simp -dsimp)
   all_goals (try first | omega | rfl)
 ·intro _f_spec_l10Mask _f_spec_l10Mask_l1 ih_spec_l10Mask ih_spec_l10Mask_l1 v path out i o hF
  intro c hc Q hq
  obtain rfl : c = _ := navEq hc rfl
  refine ALoopU.know fun hk hs => ?_
  have b1 := hk 1
  simp -dsimp at b1
  have b2 := hk 2
  simp -dsimp at b2
  have d0 := hs 0 _ rfl
  simp -dsimp [Blk.bnd] at d0
  have d3 := hs 3 _ rfl
  simp -dsimp [Blk.bnd] at d3
  clear hk hs
  refine ALoopU.enter ?_
  repeat (first | refine chk.ga ?_ | simp -dsimp)
  refine abr.split (fun h5 => ?_) (fun h5 => ?_)
  ·have q6 : (i < v.kids.length) := auq h5
   have z7 : ((i : Int) < (v.kids.length : Int)) := auz
   rw [if_pos q6] at hF
   repeat (first | refine chk.ga ?_ | simp -dsimp [h5, z7])
   refine ADraw.eff [] [(0, 1), (0, 1), (0, 0), (0, 0), (0, 0), (0, 0), (0, 0), (0, 0), (0, 0), (0, 0), (0, 3), (0, 3), (0, 3), (0, 3), (2, 2), (0, 3)] [0, 2, 1, 1, 1, 1, 1, 1, 1, 1, 1, 1, 1, 1, 1, 1] follows (by kernel_rfl) (by kernel_rfl) (by kernel_rfl) ?_
   have hF := ob hF; obtain ⟨x, e8, hF⟩ := hF
   have le8 := lt_of_get e8
   repeat (first | refine chk.ga ?_ | simp -dsimp [h5, z7, ↓e8])
   have hF := ob hF; obtain ⟨v9, e10, hF⟩ := hF
   refine ((C.spec_l7Path B hB1 hB2 path (i : Int) v9 e10)).pgoW (by first | simp [h5, z7, ↓e8]; done | simp_all) (by simp) ?_
   repeat (first | refine chk.ga ?_ | simp -dsimp [h5, z7, ↓e8])
   have hF := ob hF; obtain ⟨v11, e12, hF⟩ := hF
   refine ((ih_spec_l10Mask x v9 v11 e12)).pgoW (by first | simp [h5, z7, ↓e8]; done | simp_all) (by simp) ?_
   have hF := oc hF; obtain ⟨c13, hF⟩ := hF
   have w14 : IntKind.i64.wrap ((i : Int) + 1) = (i : Int) + 1 := wrap_in (by omega) (by omega)
   repeat (first | refine chk.ga ?_ | simp -dsimp [h5, z7, ↓e8, w14])
   refine Again.go _ ?_ ((ih_spec_l10Mask_l1 v path (out ++ [v11]) (i + 1) o hF) _ rfl _ hq)
   exact (Gh.to3 (by simp) (by first | simp -dsimp [h5, z7, ↓e8, w14]; done | simp_all))
  ·have q6 : ¬ (i < v.kids.length) := auq h5
   have z7 : ¬ ((i : Int) < (v.kids.length : Int)) := auz
   rw [if_neg q6] at hF
   cases hF
   repeat (first | refine chk.ga ?_ | simp -dsimp [h5, q6, z7])
   refine Leave.go ⟨[(6, .ptr 1 0), (7, .ptr 2 0)], [.dead, .cells [.lit (.int .i64 0), .lit (.int .i64 0), .lit (.slice none 0 0)], .cells [.lit (.int .i64 v.ctor), .lit (.int .i64 v.n), .own 3 (List.length (α := Vl.Value) out)], .elems 3 (List.map Vl.Value.c out)]⟩ (Gh.to3 (by simp) (by first | simp -dsimp [h5, q6, z7]; done | simp_all)) ?_
   exact hq

theorem C.spec_MaskValue (w : List Vl.Data) (t : Vl.Ty) (v : Vl.Value) (paths : List (List Int)) (r : Vl.Value × Bool) (hF : F.spec_MaskValue w t v paths = some r) : PureCall Try.prog B 46 [.arr (List.map Vl.Data.c w), .agg [.lit (.int .i64 t.data), .lit (.int .i64 t.index)], .agg [.lit (.int .i64 v.ctor), .lit (.int .i64 v.n), .arr (List.map Vl.Value.c v.kids)], .arr (List.map (cL cI) paths)] (.tup [.agg [.lit (.int .i64 r.1.ctor), .lit (.int .i64 r.1.n), .arr (List.map Vl.Value.c r.1.kids)], .lit (.bool r.2)]) := by
 unfold F.spec_MaskValue at hF
 refine PureCall.enterLe Try.func46 (by kernel_rfl) rfl Try.ntmps46 (by simp) (by simp) ?_
 repeat (first | refine chk.ga ?_ | simp -dsimp)
 have hF := ob hF; obtain ⟨v1, e2, hF⟩ := hF
 refine ((C.spec_PartialValid B hB1 hB2 w t v v1 e2)).goW (by simp) (by simp) ?_
 repeat (first | refine chk.ga ?_ | simp -dsimp)
 refine abr.split (fun h3 => ?_) (fun h3 => ?_)
 ·have q4 : ¬ (v1 = true) := auq h3
  rw [if_neg q4] at hF
  cases hF
  repeat (first | refine chk.ga ?_ | simp -dsimp [h3, q4])
  all_goals (try first | omega | rfl)
 ·have q4 : (v1 = true) := auq h3
  rw [if_pos q4] at hF
  repeat (first | refine chk.ga ?_ | simp -dsimp [h3, q4])
  have hF := ob hF; obtain ⟨v5, e6, hF⟩ := hF
  refine (((CC.spec_l10Mask B hB1 hB2 paths).1 v [] v5 e6)).goW (by first | simp [h3, q4]; done | simp_all) (by simp) ?_
  cases hF
  repeat (first | refine chk.ga ?_ | simp -dsimp [h3, q4])
  all_goals (try first | omega | rfl)

theorem CC.laws_toTypeS__f_l1 (a : List Vl.Ty) : (∀ (out : List Vl.Ty) (i : Nat) (o : List Vl.Ty), F.laws_toTypeS_l1 a out i = some o → ∀ (c : Code), navO [1, 1, 0, 1, 0, 0] (bodyOf Try.f198) = some c → ∀ (Q : Exit → ASt → Prop), (Q (.exit 0) ⟨[(3, .own 1 (List.length (α := Vl.Ty) o))], [.pack [] [], .elems 2 (List.map Vl.Ty.c o)]⟩) → ALoopU Try.prog B 0 23 (hold c .mk) ⟨[(0, .arr (List.map Vl.Ty.c a)), (3, .own 1 (List.length (α := Vl.Ty) out)), (4, .lit (.int .i64 (i : Int)))], [.pack [] [], .elems 2 (List.map Vl.Ty.c out)]⟩ (hold Q .mk)) := by
 refine F.laws_toTypeS_l1.partial_correctness a
  _
  ?_
 ·intro _f_laws_toTypeS__f_l1 ih_laws_toTypeS__f_l1 out i o hF
  intro c hc Q hq
  obtain rfl : c = _ := navEq hc rfl
  refine ALoopU.know fun hk hs => ?_
  have b0 := hk 0
  simp -dsimp at b0
  have d1 := hs 1 _ rfl
  simp -dsimp [Blk.bnd] at d1
  clear hk hs
  refine ALoopU.enter ?_
  repeat (first | refine chk.ga ?_ | simp -dsimp)
  refine abr.split (fun h2 => ?_) (fun h2 => ?_)
  ·have q3 : (i < a.length) := auq h2
   have z4 : ((i : Int) < (a.length : Int)) := auz
   rw [if_pos q3] at hF
   have hF := ob hF; obtain ⟨x, e5, hF⟩ := hF
   have le5 := lt_of_get e5
   repeat (first | refine chk.ga ?_ | simp -dsimp [h2, z4, ↓e5])
   have hF := ob hF; obtain ⟨v, e6, hF⟩ := hF
   refine ((C.laws_toType B hB1 hB2 x v e6)).goW (by first | simp [h2, z4, ↓e5]; done | simp_all) (by simp) ?_
   have hF := ob hF; obtain ⟨x7, e8, hF⟩ := hF
   have le8 := lt_of_get e8
   have w9 : IntKind.i64.wrap ((i : Int) + 1) = (i : Int) + 1 := wrap_in (by omega) (by omega)
   repeat (first | refine chk.ga ?_ | simp -dsimp [h2, z4, ↓e5, ↓e8, w9])
   refine Again.go _ ?_ ((ih_laws_toTypeS__f_l1 (out.set i v) (i + 1) o hF) _ rfl _ hq)
   exact (Gh.to3 (by simp) (by first | simp -dsimp [h2, z4, ↓e5, ↓e8, w9]; done | simp_all))
  ·have q3 : ¬ (i < a.length) := auq h2
   have z4 : ¬ ((i : Int) < (a.length : Int)) := auz
   rw [if_neg q3] at hF
   cases hF
   repeat (first | refine chk.ga ?_ | simp -dsimp [h2, q3, z4])
   refine Leave.go ⟨[(3, .own 1 (List.length (α := Vl.Ty) out))], [.pack [] [], .elems 2 (List.map Vl.Ty.c out)]⟩ (Gh.to3 (by simp) (by first | simp -dsimp [h2, q3, z4]; done | simp_all)) ?_
   exact hq

theorem C.laws_toTypeS__f (a : List Vl.Ty) (r : List Vl.Ty) (hF : F.laws_toTypeS a = some r) : FCall Try.prog B 198 [.arr (List.map Vl.Ty.c a)] (.arr (List.map Vl.Ty.c r)) := by
 unfold F.laws_toTypeS at hF
 refine FCall.enterG Try.func198 (by kernel_rfl) rfl Try.ntmps198 (by simp) (Gh.packZ .nil) ?_
 have hF := oc hF; obtain ⟨c1, hF⟩ := hF
 repeat (first | refine chk.ga ?_ | simp -dsimp)
 have hF := ob hF; obtain ⟨o', ho10, hF⟩ := hF
 refine ALoop.goU _ ?_ (((CC.laws_toTypeS__f_l1 B hB1 hB2 a) (List.replicate a.length Vl.Ty.z) 0 o' ho10) _ rfl _ ?_)
 ·exact (Gh.to3 (by simp) (by simp -dsimp))
 cases hF
 repeat (first | refine chk.ga ?_ | simp -dsimp)
 exact ⟨_, by decide, (.cell (CD.ownE 1 _ 2 rfl (Vl.Ty.lits_c _) (by simp) .nil) .nil : CT _ _ _ _)⟩

theorem C.laws_toCtor__f (a : Vl.Ctor) (r : Vl.Ctor) (hF : F.laws_toCtor a = some r) : FCall Try.prog B 161 [.agg [.lit (.string a.name), .arr (List.map Vl.Ty.c a.args), .lit (.int .i64 a.index)]] (.agg [.lit (.string r.name), .arr (List.map Vl.Ty.c r.args), .lit (.int .i64 r.index)]) := by
 unfold F.laws_toCtor at hF
 refine FCall.enterG Try.func161 (by kernel_rfl) rfl Try.ntmps161 (by simp) (Gh.packZ .nil) ?_
 repeat (first | refine chk.ga ?_ | simp -dsimp)
 have hF := ob hF; obtain ⟨v, e1, hF⟩ := hF
 refine ((C.laws_toTypeS__f B hB1 hB2 a.args v e1)).go1 (by simp -dsimp) (by simp) (fun h o_h => ?_)
 cases hF
 repeat (first | refine chk.ga ?_ | simp -dsimp [o_h])
 exact ⟨_, by decide, (.agg (.lit _ (.pk 4 rfl (.lit _ .nil))) .nil : CT _ _ _ _)⟩

theorem CC.laws_toCtorS__f_l1 (a : List Vl.Ctor) : (∀ (out : List Vl.Ctor) (i : Nat) (o : List Vl.Ctor), F.laws_toCtorS_l1 a out i = some o → ∀ (R : List (List AV)), ∀ (U : List Value), RW 3 (List.length (α := Vl.Ctor) out) R U → ∀ (c : Code), navO [1, 1, 0, 1, 0, 0] (bodyOf Try.f118) = some c → ∀ (Q : Exit → ASt → Prop), (∀ (Rq : List (List AV)) (Uq : List Value), RW 3 (List.length (α := Vl.Ctor) o) Rq Uq → Q (.exit 0) ⟨[(3, .own 1 (List.length (α := Vl.Ctor) o))], [.pack [] [], .elems 3 Rq, .pack (List.flatten (List.map Vl.Ctor.c o)) Uq]⟩) → ALoopU Try.prog B 0 23 (hold c .mk) ⟨[(0, .arr (List.map Vl.Ctor.c a)), (3, .own 1 (List.length (α := Vl.Ctor) out)), (4, .lit (.int .i64 (i : Int)))], [.pack [] [], .elems 3 R, .pack (List.flatten (List.map Vl.Ctor.c out)) U]⟩ (hold Q .mk)) := by
 refine F.laws_toCtorS_l1.partial_correctness a
  _
  ?_
 ·intro _f_laws_toCtorS__f_l1 ih_laws_toCtorS__f_l1 out i o hF
  intro R U H2 c hc Q hq
  obtain rfl : c = _ := navEq hc rfl
  refine ALoopU.know fun hk hs => ?_
  have b0 := hk 0
  simp -dsimp at b0
  have d1 := hs 1 _ rfl
  simp -dsimp [Blk.bnd] at d1
  clear hk hs
  refine ALoopU.enter ?_
  repeat (first | refine chk.ga ?_ | simp -dsimp [RW.len H2, RW.closed H2])
  refine abr.split (fun h4 => ?_) (fun h4 => ?_)
  ·have q5 : (i < a.length) := auq h4
   have z6 : ((i : Int) < (a.length : Int)) := auz
   rw [if_pos q5] at hF
   have hF := ob hF; obtain ⟨x, e7, hF⟩ := hF
   have le7 := lt_of_get e7
   repeat (first | refine chk.ga ?_ | simp -dsimp [RW.len H2, RW.closed H2, h4, z6, ↓e7])
   have hF := ob hF; obtain ⟨v, e8, hF⟩ := hF
   refine ((C.laws_toCtor__f B hB1 hB2 x v e8)).go1 (by first | simp -dsimp [RW.len H2, RW.closed H2, h4, z6, ↓e7]; done | simp_all) (by simp) (fun h o_h => ?_)
   have hF := ob hF; obtain ⟨x9, e10, hF⟩ := hF
   have le10 := lt_of_get e10
   obtain ⟨row11, hrow11, lrow11⟩ := RW.row H2 le10
   have w12 : IntKind.i64.wrap ((i : Int) + 1) = (i : Int) + 1 := wrap_in (by omega) (by omega)
   repeat (first | refine chk.ga ?_ | simp -dsimp [RW.len H2, RW.closed H2, h4, z6, ↓e7, o_h, ↓e10, hrow11, lrow11, w12])
   refine Again.go ⟨[(0, .arr (List.map Vl.Ctor.c a)), (3, .own 1 (List.length (α := Vl.Ctor) (out.set i v))), (4, .lit (.int .i64 ((i + 1) : Int)))], [.pack [] [], .elems 3 (R.set i [.lit (.string v.name), .lit h, .lit (.int .i64 v.index)]), .pack (List.flatten (List.map Vl.Ctor.c (out.set i v))) (setU 3 i U [.string v.name, h, .int .i64 v.index])]⟩ (by refine Gh.trans (Gh.setRow (c := Vl.Ctor.c) (y := v) 2 [3] (by exact rfl) e10 (by simp) H2 (by simp) (.lit (.string v.name) (.pk 3 (by exact rfl) (.lit (.int .i64 v.index) .nil))) (by simp) (by decide)) ?_; exact (Gh.to3 (by simp) (by first | simp -dsimp [RW.len H2, RW.closed H2, h4, z6, ↓e7, o_h, ↓e10, hrow11, lrow11, w12]; done | simp_all))) ?_
   exact (ih_laws_toCtorS__f_l1 (out.set i v) (i + 1) o hF) (R.set i [.lit (.string v.name), .lit h, .lit (.int .i64 v.index)]) (setU 3 i U [.string v.name, h, .int .i64 v.index]) ((RW.set H2 le10 [.string v.name, h, .int .i64 v.index] rfl).cong (by simp) (by simp) rfl) _ rfl _ hq
  ·have q5 : ¬ (i < a.length) := auq h4
   have z6 : ¬ ((i : Int) < (a.length : Int)) := auz
   rw [if_neg q5] at hF
   cases hF
   repeat (first | refine chk.ga ?_ | simp -dsimp [RW.len H2, RW.closed H2, h4, q5, z6])
   refine Leave.go ⟨[(3, .own 1 (List.length (α := Vl.Ctor) out))], [.pack [] [], .elems 3 R, .pack (List.flatten (List.map Vl.Ctor.c out)) U]⟩ (Gh.to3 (by simp) (by first | simp -dsimp [RW.len H2, RW.closed H2, h4, q5, z6]; done | simp_all)) ?_
   exact hq R U H2

theorem C.laws_toCtorS__f (a : List Vl.Ctor) (r : List Vl.Ctor) (hF : F.laws_toCtorS a = some r) : FCall Try.prog B 118 [.arr (List.map Vl.Ctor.c a)] (.arr (List.map Vl.Ctor.c r)) := by
 unfold F.laws_toCtorS at hF
 refine FCall.enterG Try.func118 (by kernel_rfl) rfl Try.ntmps118 (by simp) (Gh.packZ .nil) ?_
 have hF := oc hF; obtain ⟨c1, hF⟩ := hF
 repeat (first | refine chk.ga ?_ | simp -dsimp)
 have hF := ob hF; obtain ⟨o', ho13, hF⟩ := hF
 refine ALoop.goU ⟨[(0, .arr (List.map Vl.Ctor.c a)), (3, .own 1 (List.length (α := Vl.Ctor) (List.replicate a.length Vl.Ctor.z))), (4, .lit (.int .i64 (0 : Int)))], [.pack [] [], .elems 3 (List.replicate a.length [.lit (.string ByteArray.empty), .lit (.slice none 0 0), .lit (.int .i64 0)]), .pack (List.flatten (List.map Vl.Ctor.c (List.replicate a.length Vl.Ctor.z))) (List.flatten (List.replicate a.length [.string ByteArray.empty, .slice none 0 0, .int .i64 0]))]⟩ (by refine Gh.trans (Gh.packZ (ZC.rep (.lit (.string ByteArray.empty) (.emp none 0 (.lit (.int .i64 0) .nil))) a.length)) ?_; exact (Gh.to3 (by simp) (by simp -dsimp))) ?_
 refine ((CC.laws_toCtorS__f_l1 B hB1 hB2 a) (List.replicate a.length Vl.Ctor.z) 0 o' ho13) (List.replicate a.length [.lit (.string ByteArray.empty), .lit (.slice none 0 0), .lit (.int .i64 0)]) (List.flatten (List.replicate a.length [.string ByteArray.empty, .slice none 0 0, .int .i64 0])) ((RW.rep a.length [.string ByteArray.empty, .slice none 0 0, .int .i64 0]).cong (by simp) (by simp) rfl) _ rfl _ ?_
 intro Rq Uq Hq3
 cases hF
 repeat (first | refine chk.ga ?_ | simp -dsimp [RW.len Hq3, RW.closed Hq3])
 exact ⟨_, by decide, (.cell (.ownP 1 _ 3 rfl (by simp) (.blk 2 rfl .nil) (by simp [Hq3.2.2]) (by simp [Hq3.1]) (by simp) (by simp) .nil) .nil : CT _ _ _ _)⟩

theorem C.laws_toData__f (a : Vl.Data) (r : Vl.Data) (hF : F.laws_toData a = some r) : FCall Try.prog B 56 [.agg [.lit (.string a.name), .arr (List.map Vl.Ctor.c a.ctors)]] (.agg [.lit (.string r.name), .arr (List.map Vl.Ctor.c r.ctors)]) := by
 unfold F.laws_toData at hF
 refine FCall.enterG Try.func56 (by kernel_rfl) rfl Try.ntmps56 (by simp) (Gh.packZ .nil) ?_
 repeat (first | refine chk.ga ?_ | simp -dsimp)
 have hF := ob hF; obtain ⟨v, e1, hF⟩ := hF
 refine ((C.laws_toCtorS__f B hB1 hB2 a.ctors v e1)).go1 (by simp -dsimp) (by simp) (fun h o_h => ?_)
 cases hF
 repeat (first | refine chk.ga ?_ | simp -dsimp [o_h])
 exact ⟨_, by decide, (.agg (.lit _ (.pk 4 rfl .nil)) .nil : CT _ _ _ _)⟩

theorem CC.laws_toDataS__f_l1 (a : List Vl.Data) : (∀ (out : List Vl.Data) (i : Nat) (o : List Vl.Data), F.laws_toDataS_l1 a out i = some o → ∀ (R : List (List AV)), ∀ (U : List Value), RW 2 (List.length (α := Vl.Data) out) R U → ∀ (c : Code), navO [1, 1, 0, 1, 0, 0] (bodyOf Try.f14) = some c → ∀ (Q : Exit → ASt → Prop), (∀ (Rq : List (List AV)) (Uq : List Value), RW 2 (List.length (α := Vl.Data) o) Rq Uq → Q (.exit 0) ⟨[(3, .own 1 (List.length (α := Vl.Data) o))], [.pack [] [], .elems 2 Rq, .pack (List.flatten (List.map Vl.Data.c o)) Uq]⟩) → ALoopU Try.prog B 0 23 (hold c .mk) ⟨[(0, .arr (List.map Vl.Data.c a)), (3, .own 1 (List.length (α := Vl.Data) out)), (4, .lit (.int .i64 (i : Int)))], [.pack [] [], .elems 2 R, .pack (List.flatten (List.map Vl.Data.c out)) U]⟩ (hold Q .mk)) := by
 refine F.laws_toDataS_l1.partial_correctness a
  _
  ?_
 ·intro _f_laws_toDataS__f_l1 ih_laws_toDataS__f_l1 out i o hF
  intro R U H2 c hc Q hq
  obtain rfl : c = _ := navEq hc rfl
  refine ALoopU.know fun hk hs => ?_
  have b0 := hk 0
  simp -dsimp at b0
  have d1 := hs 1 _ rfl
  simp -dsimp [Blk.bnd] at d1
  clear hk hs
  refine ALoopU.enter ?_
  repeat (first | refine chk.ga ?_ | simp -dsimp [RW.len H2, RW.closed H2])
  refine abr.split (fun h4 => ?_) (fun h4 => ?_)
  ·have q5 : (i < a.length) := auq h4
   have z6 : ((i : Int) < (a.length : Int)) := auz
   rw [if_pos q5] at hF
   have hF := ob hF; obtain ⟨x, e7, hF⟩ := hF
   have le7 := lt_of_get e7
   repeat (first | refine chk.ga ?_ | simp -dsimp [RW.len H2, RW.closed H2, h4, z6, ↓e7])
   have hF := ob hF; obtain ⟨v, e8, hF⟩ := hF
   refine ((C.laws_toData__f B hB1 hB2 x v e8)).go1 (by first | simp -dsimp [RW.len H2, RW.closed H2, h4, z6, ↓e7]; done | simp_all) (by simp) (fun h o_h => ?_)
   have hF := ob hF; obtain ⟨x9, e10, hF⟩ := hF
   have le10 := lt_of_get e10
   obtain ⟨row11, hrow11, lrow11⟩ := RW.row H2 le10
   have w12 : IntKind.i64.wrap ((i : Int) + 1) = (i : Int) + 1 := wrap_in (by omega) (by omega)
   repeat (first | refine chk.ga ?_ | simp -dsimp [RW.len H2, RW.closed H2, h4, z6, ↓e7, o_h, ↓e10, hrow11, lrow11, w12])
   refine Again.go ⟨[(0, .arr (List.map Vl.Data.c a)), (3, .own 1 (List.length (α := Vl.Data) (out.set i v))), (4, .lit (.int .i64 ((i + 1) : Int)))], [.pack [] [], .elems 2 (R.set i [.lit (.string v.name), .lit h]), .pack (List.flatten (List.map Vl.Data.c (out.set i v))) (setU 2 i U [.string v.name, h])]⟩ (by refine Gh.trans (Gh.setRow (c := Vl.Data.c) (y := v) 2 [3] (by exact rfl) e10 (by simp) H2 (by simp) (.lit (.string v.name) (.pk 3 (by exact rfl) .nil)) (by simp) (by decide)) ?_; exact (Gh.to3 (by simp) (by first | simp -dsimp [RW.len H2, RW.closed H2, h4, z6, ↓e7, o_h, ↓e10, hrow11, lrow11, w12]; done | simp_all))) ?_
   exact (ih_laws_toDataS__f_l1 (out.set i v) (i + 1) o hF) (R.set i [.lit (.string v.name), .lit h]) (setU 2 i U [.string v.name, h]) ((RW.set H2 le10 [.string v.name, h] rfl).cong (by simp) (by simp) rfl) _ rfl _ hq
  ·have q5 : ¬ (i < a.length) := auq h4
   have z6 : ¬ ((i : Int) < (a.length : Int)) := auz
   rw [if_neg q5] at hF
   cases hF
   repeat (first | refine chk.ga ?_ | simp -dsimp [RW.len H2, RW.closed H2, h4, q5, z6])
   refine Leave.go ⟨[(3, .own 1 (List.length (α := Vl.Data) out))], [.pack [] [], .elems 2 R, .pack (List.flatten (List.map Vl.Data.c out)) U]⟩ (Gh.to3 (by simp) (by first | simp -dsimp [RW.len H2, RW.closed H2, h4, q5, z6]; done | simp_all)) ?_
   exact hq R U H2

theorem C.laws_toDataS__f (a : List Vl.Data) (r : List Vl.Data) (hF : F.laws_toDataS a = some r) : FCall Try.prog B 14 [.arr (List.map Vl.Data.c a)] (.arr (List.map Vl.Data.c r)) := by
 unfold F.laws_toDataS at hF
 refine FCall.enterG Try.func14 (by kernel_rfl) rfl Try.ntmps14 (by simp) (Gh.packZ .nil) ?_
 have hF := oc hF; obtain ⟨c1, hF⟩ := hF
 repeat (first | refine chk.ga ?_ | simp -dsimp)
 have hF := ob hF; obtain ⟨o', ho13, hF⟩ := hF
 refine ALoop.goU ⟨[(0, .arr (List.map Vl.Data.c a)), (3, .own 1 (List.length (α := Vl.Data) (List.replicate a.length Vl.Data.z))), (4, .lit (.int .i64 (0 : Int)))], [.pack [] [], .elems 2 (List.replicate a.length [.lit (.string ByteArray.empty), .lit (.slice none 0 0)]), .pack (List.flatten (List.map Vl.Data.c (List.replicate a.length Vl.Data.z))) (List.flatten (List.replicate a.length [.string ByteArray.empty, .slice none 0 0]))]⟩ (by refine Gh.trans (Gh.packZ (ZC.rep (.lit (.string ByteArray.empty) (.emp none 0 .nil)) a.length)) ?_; exact (Gh.to3 (by simp) (by simp -dsimp))) ?_
 refine ((CC.laws_toDataS__f_l1 B hB1 hB2 a) (List.replicate a.length Vl.Data.z) 0 o' ho13) (List.replicate a.length [.lit (.string ByteArray.empty), .lit (.slice none 0 0)]) (List.flatten (List.replicate a.length [.string ByteArray.empty, .slice none 0 0])) ((RW.rep a.length [.string ByteArray.empty, .slice none 0 0]).cong (by simp) (by simp) rfl) _ rfl _ ?_
 intro Rq Uq Hq3
 cases hF
 repeat (first | refine chk.ga ?_ | simp -dsimp [RW.len Hq3, RW.closed Hq3])
 exact ⟨_, by decide, (.cell (.ownP 1 _ 2 rfl (by simp) (.blk 2 rfl .nil) (by simp [Hq3.2.2]) (by simp [Hq3.1]) (by simp) (by simp) .nil) .nil : CT _ _ _ _)⟩

theorem CC.laws_toValue__f  : (∀ (a : Vl.Value) (r : Vl.Value), F.laws_toValue a = some r → FCall Try.prog B 38 [.agg [.lit (.int .i64 a.ctor), .lit (.int .i64 a.n), .arr (List.map Vl.Value.c a.kids)]] (.agg [.lit (.int .i64 r.ctor), .lit (.int .i64 r.n), .arr (List.map Vl.Value.c r.kids)])) ∧
  (∀ (a : List Vl.Value) (r : List Vl.Value), F.laws_toValueS a = some r → FCall Try.prog B 94 [.arr (List.map Vl.Value.c a)] (.arr (List.map Vl.Value.c r))) ∧
  (∀ (a : List Vl.Value) (out : List Vl.Value) (i : Nat) (o : List Vl.Value), F.laws_toValueS_l1 a out i = some o → ∀ (R : List (List AV)), ∀ (U : List Value), RW 3 (List.length (α := Vl.Value) out) R U → ∀ (c : Code), navO [1, 1, 0, 1, 0, 0] (bodyOf Try.f94) = some c → ∀ (Q : Exit → ASt → Prop), (∀ (Rq : List (List AV)) (Uq : List Value), RW 3 (List.length (α := Vl.Value) o) Rq Uq → Q (.exit 0) ⟨[(3, .own 1 (List.length (α := Vl.Value) o))], [.pack [] [], .elems 3 Rq, .pack (List.flatten (List.map Vl.Value.c o)) Uq]⟩) → ALoopU Try.prog B 0 23 (hold c .mk) ⟨[(0, .arr (List.map Vl.Value.c a)), (3, .own 1 (List.length (α := Vl.Value) out)), (4, .lit (.int .i64 (i : Int)))], [.pack [] [], .elems 3 R, .pack (List.flatten (List.map Vl.Value.c out)) U]⟩ (hold Q .mk)) := by
 refine F.laws_toValue.mutual_partial_correctness 
  _ _ _
  ?_ ?_ ?_
 ·intro _f_laws_toValueS__f ih_laws_toValueS__f a r hF
  refine FCall.enterG Try.func38 (by kernel_rfl) rfl Try.ntmps38 (by simp) (Gh.packZ .nil) ?_
  repeat (first | refine chk.ga ?_ | simp -dsimp)
  have hF := ob hF; obtain ⟨v, e1, hF⟩ := hF
  refine ((ih_laws_toValueS__f a.kids v e1)).go1 (by simp -dsimp) (by simp) (fun h o_h => ?_)
  cases hF
  repeat (first | refine chk.ga ?_ | simp -dsimp [o_h])
  exact ⟨_, by decide, (.agg (.lit _ (.lit _ (.pk 4 rfl .nil))) .nil : CT _ _ _ _)⟩
 ·intro _f_laws_toValueS__f_l1 ih_laws_toValueS__f_l1 a r hF
  refine FCall.enterG Try.func94 (by kernel_rfl) rfl Try.ntmps94 (by simp) (Gh.packZ .nil) ?_
  have hF := oc hF; obtain ⟨c1, hF⟩ := hF
  repeat (first | refine chk.ga ?_ | simp -dsimp)
  have hF := ob hF; obtain ⟨o', ho13, hF⟩ := hF
  refine ALoop.goU ⟨[(0, .arr (List.map Vl.Value.c a)), (3, .own 1 (List.length (α := Vl.Value) (List.replicate a.length Vl.Value.z))), (4, .lit (.int .i64 (0 : Int)))], [.pack [] [], .elems 3 (List.replicate a.length [.lit (.int .i64 0), .lit (.int .i64 0), .lit (.slice none 0 0)]), .pack (List.flatten (List.map Vl.Value.c (List.replicate a.length Vl.Value.z))) (List.flatten (List.replicate a.length [.int .i64 0, .int .i64 0, .slice none 0 0]))]⟩ (by refine Gh.trans (Gh.packZ (ZC.rep (.lit (.int .i64 0) (.lit (.int .i64 0) (.emp none 0 .nil))) a.length)) ?_; exact (Gh.to3 (by simp) (by simp -dsimp))) ?_
  refine (ih_laws_toValueS__f_l1 a (List.replicate a.length Vl.Value.z) 0 o' ho13) (List.replicate a.length [.lit (.int .i64 0), .lit (.int .i64 0), .lit (.slice none 0 0)]) (List.flatten (List.replicate a.length [.int .i64 0, .int .i64 0, .slice none 0 0])) ((RW.rep a.length [.int .i64 0, .int .i64 0, .slice none 0 0]).cong (by simp) (by simp) rfl) _ rfl _ ?_
  intro Rq Uq Hq3
  cases hF
  repeat (first | refine chk.ga ?_ | simp -dsimp [RW.len Hq3, RW.closed Hq3])
  exact ⟨_, by decide, (.cell (.ownP 1 _ 3 rfl (by simp) (.blk 2 rfl .nil) (by simp [Hq3.2.2]) (by simp [Hq3.1]) (by simp) (by simp) .nil) .nil : CT _ _ _ _)⟩
 ·intro _f_laws_toValue__f _f_laws_toValueS__f_l1 ih_laws_toValue__f ih_laws_toValueS__f_l1 a out i o hF
  intro R U H2 c hc Q hq
  obtain rfl : c = _ := navEq hc rfl
  refine ALoopU.know fun hk hs => ?_
  have b0 := hk 0
  simp -dsimp at b0
  have d1 := hs 1 _ rfl
  simp -dsimp [Blk.bnd] at d1
  clear hk hs
  refine ALoopU.enter ?_
  repeat (first | refine chk.ga ?_ | simp -dsimp [RW.len H2, RW.closed H2])
  refine abr.split (fun h4 => ?_) (fun h4 => ?_)
  ·have q5 : (i < a.length) := auq h4
   have z6 : ((i : Int) < (a.length : Int)) := auz
   rw [if_pos q5] at hF
   have hF := ob hF; obtain ⟨x, e7, hF⟩ := hF
   have le7 := lt_of_get e7
   repeat (first | refine chk.ga ?_ | simp -dsimp [RW.len H2, RW.closed H2, h4, z6, ↓e7])
   have hF := ob hF; obtain ⟨v, e8, hF⟩ := hF
   refine ((ih_laws_toValue__f x v e8)).go1 (by first | simp -dsimp [RW.len H2, RW.closed H2, h4, z6, ↓e7]; done | simp_all) (by simp) (fun h o_h => ?_)
   have hF := ob hF; obtain ⟨x9, e10, hF⟩ := hF
   have le10 := lt_of_get e10
   obtain ⟨row11, hrow11, lrow11⟩ := RW.row H2 le10
   have w12 : IntKind.i64.wrap ((i : Int) + 1) = (i : Int) + 1 := wrap_in (by omega) (by omega)
   repeat (first | refine chk.ga ?_ | simp -dsimp [RW.len H2, RW.closed H2, h4, z6, ↓e7, o_h, ↓e10, hrow11, lrow11, w12])
   refine Again.go ⟨[(0, .arr (List.map Vl.Value.c a)), (3, .own 1 (List.length (α := Vl.Value) (out.set i v))), (4, .lit (.int .i64 ((i + 1) : Int)))], [.pack [] [], .elems 3 (R.set i [.lit (.int .i64 v.ctor), .lit (.int .i64 v.n), .lit h]), .pack (List.flatten (List.map Vl.Value.c (out.set i v))) (setU 3 i U [.int .i64 v.ctor, .int .i64 v.n, h])]⟩ (by refine Gh.trans (Gh.setRow (c := Vl.Value.c) (y := v) 2 [3] (by exact rfl) e10 (by simp) H2 (by simp) (.lit (.int .i64 v.ctor) (.lit (.int .i64 v.n) (.pk 3 (by exact rfl) .nil))) (by simp) (by decide)) ?_; exact (Gh.to3 (by simp) (by first | simp -dsimp [RW.len H2, RW.closed H2, h4, z6, ↓e7, o_h, ↓e10, hrow11, lrow11, w12]; done | simp_all))) ?_
   exact (ih_laws_toValueS__f_l1 a (out.set i v) (i + 1) o hF) (R.set i [.lit (.int .i64 v.ctor), .lit (.int .i64 v.n), .lit h]) (setU 3 i U [.int .i64 v.ctor, .int .i64 v.n, h]) ((RW.set H2 le10 [.int .i64 v.ctor, .int .i64 v.n, h] rfl).cong (by simp) (by simp) rfl) _ rfl _ hq
  ·have q5 : ¬ (i < a.length) := auq h4
   have z6 : ¬ ((i : Int) < (a.length : Int)) := auz
   rw [if_neg q5] at hF
   cases hF
   repeat (first | refine chk.ga ?_ | simp -dsimp [RW.len H2, RW.closed H2, h4, q5, z6])
   refine Leave.go ⟨[(3, .own 1 (List.length (α := Vl.Value) out))], [.pack [] [], .elems 3 R, .pack (List.flatten (List.map Vl.Value.c out)) U]⟩ (Gh.to3 (by simp) (by first | simp -dsimp [RW.len H2, RW.closed H2, h4, q5, z6]; done | simp_all)) ?_
   exact hq R U H2

theorem CC.laws_toIntS__f_l1 (a : List Int) : (∀ (out : List Int) (i : Nat) (o : List Int), F.laws_toIntS_l1 a out i = some o → ∀ (c : Code), navO [1, 1, 0, 1, 0, 0] (bodyOf Try.f106) = some c → ∀ (Q : Exit → ASt → Prop), (Q (.exit 0) ⟨[(3, .own 1 (List.length (α := Int) o))], [.pack [] [], .elems 1 (List.map cI o)]⟩) → ALoopU Try.prog B 0 22 (hold c .mk) ⟨[(0, .arr (List.map cI a)), (3, .own 1 (List.length (α := Int) out)), (4, .lit (.int .i64 (i : Int)))], [.pack [] [], .elems 1 (List.map cI out)]⟩ (hold Q .mk)) := by
 refine F.laws_toIntS_l1.partial_correctness a
  _
  ?_
 ·intro _f_laws_toIntS__f_l1 ih_laws_toIntS__f_l1 out i o hF
  intro c hc Q hq
  obtain rfl : c = _ := navEq hc rfl
  refine ALoopU.know fun hk hs => ?_
  have b0 := hk 0
  simp -dsimp at b0
  have d1 := hs 1 _ rfl
  simp -dsimp [Blk.bnd] at d1
  clear hk hs
  refine ALoopU.enter ?_
  repeat (first | refine chk.ga ?_ | simp -dsimp)
  refine abr.split (fun h2 => ?_) (fun h2 => ?_)
  ·have q3 : (i < a.length) := auq h2
   have z4 : ((i : Int) < (a.length : Int)) := auz
   rw [if_pos q3] at hF
   have hF := ob hF; obtain ⟨x, e5, hF⟩ := hF
   have le5 := lt_of_get e5
   have hF := ob hF; obtain ⟨x6, e7, hF⟩ := hF
   have le7 := lt_of_get e7
   have w8 : IntKind.i64.wrap ((i : Int) + 1) = (i : Int) + 1 := wrap_in (by omega) (by omega)
   repeat (first | refine chk.ga ?_ | simp -dsimp [h2, z4, ↓e5, ↓e7, w8])
   refine Again.go _ ?_ ((ih_laws_toIntS__f_l1 (out.set i x) (i + 1) o hF) _ rfl _ hq)
   exact (Gh.to3 (by simp) (by first | simp -dsimp [h2, z4, ↓e5, ↓e7, w8]; done | simp_all))
  ·have q3 : ¬ (i < a.length) := auq h2
   have z4 : ¬ ((i : Int) < (a.length : Int)) := auz
   rw [if_neg q3] at hF
   cases hF
   repeat (first | refine chk.ga ?_ | simp -dsimp [h2, q3, z4])
   refine Leave.go ⟨[(3, .own 1 (List.length (α := Int) out))], [.pack [] [], .elems 1 (List.map cI out)]⟩ (Gh.to3 (by simp) (by first | simp -dsimp [h2, q3, z4]; done | simp_all)) ?_
   exact hq

theorem C.laws_toIntS__f (a : List Int) (r : List Int) (hF : F.laws_toIntS a = some r) : FCall Try.prog B 106 [.arr (List.map cI a)] (.arr (List.map cI r)) := by
 unfold F.laws_toIntS at hF
 refine FCall.enterG Try.func106 (by kernel_rfl) rfl Try.ntmps106 (by simp) (Gh.packZ .nil) ?_
 have hF := oc hF; obtain ⟨c1, hF⟩ := hF
 repeat (first | refine chk.ga ?_ | simp -dsimp)
 have hF := ob hF; obtain ⟨o', ho9, hF⟩ := hF
 refine ALoop.goU _ ?_ (((CC.laws_toIntS__f_l1 B hB1 hB2 a) (List.replicate a.length (0 : Int)) 0 o' ho9) _ rfl _ ?_)
 ·exact (Gh.to3 (by simp) (by simp -dsimp))
 cases hF
 repeat (first | refine chk.ga ?_ | simp -dsimp)
 exact ⟨_, by decide, (.cell (CD.ownE 1 _ 1 rfl (lits_cI _) (by simp) .nil) .nil : CT _ _ _ _)⟩

theorem CC.laws_toIntSS__f_l1 (a : List (List Int)) : (∀ (out : List (List Int)) (i : Nat) (o : List (List Int)), F.laws_toIntSS_l1 a out i = some o → ∀ (R : List (List AV)), ∀ (U : List Value), RW 1 (List.length (α := List Int) out) R U → ∀ (c : Code), navO [1, 1, 0, 1, 0, 0] (bodyOf Try.f47) = some c → ∀ (Q : Exit → ASt → Prop), (∀ (Rq : List (List AV)) (Uq : List Value), RW 1 (List.length (α := List Int) o) Rq Uq → Q (.exit 0) ⟨[(3, .own 1 (List.length (α := List Int) o))], [.pack [] [], .elems 1 Rq, .pack (List.flatten (List.map (cL cI) o)) Uq]⟩) → ALoopU Try.prog B 0 23 (hold c .mk) ⟨[(0, .arr (List.map (cL cI) a)), (3, .own 1 (List.length (α := List Int) out)), (4, .lit (.int .i64 (i : Int)))], [.pack [] [], .elems 1 R, .pack (List.flatten (List.map (cL cI) out)) U]⟩ (hold Q .mk)) := by
 refine F.laws_toIntSS_l1.partial_correctness a
  _
  ?_
 ·intro _f_laws_toIntSS__f_l1 ih_laws_toIntSS__f_l1 out i o hF
  intro R U H2 c hc Q hq
  obtain rfl : c = _ := navEq hc rfl
  refine ALoopU.know fun hk hs => ?_
  have b0 := hk 0
  simp -dsimp at b0
  have d1 := hs 1 _ rfl
  simp -dsimp [Blk.bnd] at d1
  clear hk hs
  refine ALoopU.enter ?_
  repeat (first | refine chk.ga ?_ | simp -dsimp [RW.len H2, RW.closed H2])
  refine abr.split (fun h4 => ?_) (fun h4 => ?_)
  ·have q5 : (i < a.length) := auq h4
   have z6 : ((i : Int) < (a.length : Int)) := auz
   rw [if_pos q5] at hF
   have hF := ob hF; obtain ⟨x, e7, hF⟩ := hF
   have le7 := lt_of_get e7
   repeat (first | refine chk.ga ?_ | simp -dsimp [RW.len H2, RW.closed H2, h4, z6, ↓e7])
   have hF := ob hF; obtain ⟨v, e8, hF⟩ := hF
   refine ((C.laws_toIntS__f B hB1 hB2 x v e8)).go1 (by first | simp -dsimp [RW.len H2, RW.closed H2, h4, z6, ↓e7]; done | simp_all) (by simp) (fun h o_h => ?_)
   have hF := ob hF; obtain ⟨x9, e10, hF⟩ := hF
   have le10 := lt_of_get e10
   obtain ⟨row11, hrow11, lrow11⟩ := RW.row H2 le10
   have w12 : IntKind.i64.wrap ((i : Int) + 1) = (i : Int) + 1 := wrap_in (by omega) (by omega)
   repeat (first | refine chk.ga ?_ | simp -dsimp [RW.len H2, RW.closed H2, h4, z6, ↓e7, o_h, ↓e10, hrow11, lrow11, w12])
   refine Again.go ⟨[(0, .arr (List.map (cL cI) a)), (3, .own 1 (List.length (α := List Int) (out.set i v))), (4, .lit (.int .i64 ((i + 1) : Int)))], [.pack [] [], .elems 1 (R.set i [.lit h]), .pack (List.flatten (List.map (cL cI) (out.set i v))) (setU 1 i U [h])]⟩ (by refine Gh.trans (Gh.setRow (c := (cL cI)) (y := v) 2 [3] (by exact rfl) e10 (by simp) H2 (by simp) (.pk 3 (by exact rfl) .nil) (by simp) (by decide)) ?_; exact (Gh.to3 (by simp) (by first | simp -dsimp [RW.len H2, RW.closed H2, h4, z6, ↓e7, o_h, ↓e10, hrow11, lrow11, w12]; done | simp_all))) ?_
   exact (ih_laws_toIntSS__f_l1 (out.set i v) (i + 1) o hF) (R.set i [.lit h]) (setU 1 i U [h]) ((RW.set H2 le10 [h] rfl).cong (by simp) (by simp) rfl) _ rfl _ hq
  ·have q5 : ¬ (i < a.length) := auq h4
   have z6 : ¬ ((i : Int) < (a.length : Int)) := auz
   rw [if_neg q5] at hF
   cases hF
   repeat (first | refine chk.ga ?_ | simp -dsimp [RW.len H2, RW.closed H2, h4, q5, z6])
   refine Leave.go ⟨[(3, .own 1 (List.length (α := List Int) out))], [.pack [] [], .elems 1 R, .pack (List.flatten (List.map (cL cI) out)) U]⟩ (Gh.to3 (by simp) (by first | simp -dsimp [RW.len H2, RW.closed H2, h4, q5, z6]; done | simp_all)) ?_
   exact hq R U H2

theorem C.laws_toIntSS__f (a : List (List Int)) (r : List (List Int)) (hF : F.laws_toIntSS a = some r) : FCall Try.prog B 47 [.arr (List.map (cL cI) a)] (.arr (List.map (cL cI) r)) := by
 unfold F.laws_toIntSS at hF
 refine FCall.enterG Try.func47 (by kernel_rfl) rfl Try.ntmps47 (by simp) (Gh.packZ .nil) ?_
 have hF := oc hF; obtain ⟨c1, hF⟩ := hF
 repeat (first | refine chk.ga ?_ | simp -dsimp)
 have hF := ob hF; obtain ⟨o', ho13, hF⟩ := hF
 refine ALoop.goU ⟨[(0, .arr (List.map (cL cI) a)), (3, .own 1 (List.length (α := List Int) (List.replicate a.length []))), (4, .lit (.int .i64 (0 : Int)))], [.pack [] [], .elems 1 (List.replicate a.length [.lit (.slice none 0 0)]), .pack (List.flatten (List.map (cL cI) (List.replicate a.length []))) (List.flatten (List.replicate a.length [.slice none 0 0]))]⟩ (by refine Gh.trans (Gh.packZ (ZC.rep (.emp none 0 .nil) a.length)) ?_; exact (Gh.to3 (by simp) (by simp -dsimp))) ?_
 refine ((CC.laws_toIntSS__f_l1 B hB1 hB2 a) (List.replicate a.length []) 0 o' ho13) (List.replicate a.length [.lit (.slice none 0 0)]) (List.flatten (List.replicate a.length [.slice none 0 0])) ((RW.rep a.length [.slice none 0 0]).cong (by simp) (by simp) rfl) _ rfl _ ?_
 intro Rq Uq Hq3
 cases hF
 repeat (first | refine chk.ga ?_ | simp -dsimp [RW.len Hq3, RW.closed Hq3])
 exact ⟨_, by decide, (.cell (.ownP 1 _ 1 rfl (by simp) (.blk 2 rfl .nil) (by simp [Hq3.2.2]) (by simp [Hq3.1]) (by simp) (by simp) .nil) .nil : CT _ _ _ _)⟩

theorem C.impl_within (n : Int) (low : Int) (high : Int) (r : Bool) (hF : F.impl_within n low high = some r) : PureCall Try.prog B 145 [.lit (.int .i64 n), .lit (.int .i64 low), .lit (.int .i64 high)] (.lit (.bool r)) := by
 unfold F.impl_within at hF
 refine PureCall.enterLe Try.func145 (by kernel_rfl) rfl Try.ntmps145 (by simp) (by simp) ?_
 repeat (first | refine chk.ga ?_ | simp -dsimp)
 refine abr.split (fun h1 => ?_) (fun h1 => ?_)
 ·have q2 : (low ≤ n) := auq h1
  rw [if_pos q2] at hF
  cases hF
  repeat (first | refine chk.ga ?_ | simp -dsimp [h1])
  all_goals (try first | omega | rfl)
 ·have q2 : ¬ (low ≤ n) := auq h1
  rw [if_neg q2] at hF
  cases hF
  repeat (first | refine chk.ga ?_ | simp -dsimp [h1, q2])
  all_goals (try first | omega | rfl)

theorem CC.impl_NameValid_l1 (s : ByteArray) : (∀ (i : Nat) (o : Lo Bool Unit), F.impl_NameValid_l1 s i = some o → ∀ (c : Code), navO [1, 1, 0, 1, 0, 0] (bodyOf Try.f199) = some c → ∀ (Q : Exit → ASt → Prop), o.post (fun r => ∀ st, Post Try.prog Try.f199 (fun r' _ => r'.le (.lit (.bool r))) .ret st → Q .ret st) (fun s => Q (.exit 0) ⟨[], []⟩) → ALoopU Try.prog B 0 34 (hold c .mk) ⟨[(0, .lit (.string s)), (3, .lit (.int .i64 (i : Int)))], []⟩ (hold Q .mk)) := by
 refine F.impl_NameValid_l1.partial_correctness s
  _
  ?_
 ·intro _f_impl_NameValid_l1 ih_impl_NameValid_l1 i o hF
  intro c hc Q hq
  obtain rfl : c = _ := navEq hc rfl
  refine ALoopU.know fun hk hs => ?_
  clear hk hs
  refine ALoopU.enter ?_
  repeat (first | refine chk.ga ?_ | simp -dsimp)
  refine abr.split (fun h11 => ?_) (fun h11 => ?_)
  ·have q12 : (i < s.size) := auq h11
   have z13 : ((i : Int) < (s.size : Int)) := auz
   rw [if_pos q12] at hF
   repeat (first | refine chk.ga ?_ | simp -dsimp [h11, z13])
   refine abr.split (fun h14 => ?_) (fun h14 => ?_)
   ·have q15 : ¬ (byteAt s i < 97) := auq h14
    have z16 : ¬ (((byteAt s i : Nat) : Int) < (97 : Int)) := auz
    rw [if_neg q15] at hF
    repeat (first | refine chk.ga ?_ | simp -dsimp [h11, z13, h14, q15, z16])
    refine abr.split (fun h17 => ?_) (fun h17 => ?_)
    ·have q18 : (122 < byteAt s i) := auq h17
     have z19 : ((122 : Int) < ((byteAt s i : Nat) : Int)) := auz
     rw [if_pos q18] at hF
     cases hF
     repeat (first | refine chk.ga ?_ | simp -dsimp [h11, z13, h14, q15, z16, h17, z19])
     refine Leave.go _ (Gh.refl _) (hq _ ?_)
     repeat (first | refine chk.ga ?_ | simp -dsimp [h11, z13, h14, q15, z16, h17, z19])
    ·have q18 : ¬ (122 < byteAt s i) := auq h17
     have z19 : ¬ ((122 : Int) < ((byteAt s i : Nat) : Int)) := auz
     rw [if_neg q18] at hF
     have hF := oc hF; obtain ⟨c20, hF⟩ := hF
     have w21 : IntKind.i64.wrap ((i : Int) + 1) = (i : Int) + 1 := wrap_in (by omega) (by omega)
     repeat (first | refine chk.ga ?_ | simp -dsimp [h11, z13, h14, q15, z16, h17, q18, z19, w21])
     refine Again.go _ ?_ ((ih_impl_NameValid_l1 (i + 1) o hF) _ rfl _ hq)
     exact (Gh.to3 (by simp) (by first | simp -dsimp [h11, z13, h14, q15, z16, h17, q18, z19, w21]; done | simp_all))
   ·have q15 : (byteAt s i < 97) := auq h14
    have z16 : (((byteAt s i : Nat) : Int) < (97 : Int)) := auz
    rw [if_pos q15] at hF
    cases hF
    repeat (first | refine chk.ga ?_ | simp -dsimp [h11, z13, h14, q15, z16])
    refine Leave.go _ (Gh.refl _) (hq _ ?_)
    repeat (first | refine chk.ga ?_ | simp -dsimp [h11, z13, h14, q15, z16])
  ·have q12 : ¬ (i < s.size) := auq h11
   have z13 : ¬ ((i : Int) < (s.size : Int)) := auz
   rw [if_neg q12] at hF
   cases hF
   repeat (first | refine chk.ga ?_ | simp -dsimp [h11, q12, z13])
   refine Leave.go ⟨[], []⟩ (Gh.to3 (by simp) (by first | simp -dsimp [h11, q12, z13]; done | simp_all)) ?_
   exact hq

theorem C.impl_NameValid (s : ByteArray) (r : Bool) (hF : F.impl_NameValid s = some r) : PureCall Try.prog B 199 [.lit (.string s)] (.lit (.bool r)) := by
 unfold F.impl_NameValid at hF
 refine PureCall.enterLe Try.func199 (by kernel_rfl) rfl Try.ntmps199 (by simp) (by simp) ?_
 repeat (first | refine chk.ga ?_ | simp -dsimp)
 have hF := ob hF; obtain ⟨v, e1, hF⟩ := hF
 refine ((C.impl_within B hB1 hB2 (s.size : Int) (1 : Int) (5 : Int) v e1)).goW (by simp) (by simp) ?_
 repeat (first | refine chk.ga ?_ | simp -dsimp)
 refine abr.split (fun h2 => ?_) (fun h2 => ?_)
 ·have q3 : (v = true) := auq h2
  rw [if_pos q3] at hF
  have hF := oc hF; obtain ⟨c4, hF⟩ := hF
  repeat (first | refine chk.ga ?_ | simp -dsimp [h2])
  refine abr.split (fun h5 => ?_) (fun h5 => ?_)
  ·have q6 : ¬ (byteAt s 0 < 65) := auq h5
   have z7 : ¬ (((byteAt s 0 : Nat) : Int) < (65 : Int)) := auz
   rw [if_neg q6] at hF
   repeat (first | refine chk.ga ?_ | simp -dsimp [h2, h5, q6, z7])
   refine abr.split (fun h8 => ?_) (fun h8 => ?_)
   ·have q9 : (90 < byteAt s 0) := auq h8
    have z10 : ((90 : Int) < ((byteAt s 0 : Nat) : Int)) := auz
    rw [if_pos q9] at hF
    cases hF
    repeat (first | refine chk.ga ?_ | simp -dsimp [h2, h5, q6, z7, h8, z10])
    all_goals (try first | omega | rfl)
   ·have q9 : ¬ (90 < byteAt s 0) := auq h8
    have z10 : ¬ ((90 : Int) < ((byteAt s 0 : Nat) : Int)) := auz
    rw [if_neg q9] at hF
    repeat (first | refine chk.ga ?_ | simp -dsimp [h2, h5, q6, z7, h8, q9, z10])
    have hF := ob hF; obtain ⟨o', ho22, hF⟩ := hF
    refine ALoop.goU _ ?_ (((CC.impl_NameValid_l1 B hB1 hB2 s) 1 o' ho22) _ rfl _ ?_)
    ·exact (Gh.to3 (by simp) (by first | simp -dsimp [h2, h5, q6, z7, h8, q9, z10]; done | simp_all))
    rcases o' with r0 | sx
    ·dsimp only at hF
     cases hF
     intro st h
     simpa using h
    ·dsimp only at hF
     cases hF
     repeat (first | refine chk.ga ?_ | simp -dsimp)
     all_goals (try first | omega | rfl)
  ·have q6 : (byteAt s 0 < 65) := auq h5
   have z7 : (((byteAt s 0 : Nat) : Int) < (65 : Int)) := auz
   rw [if_pos q6] at hF
   cases hF
   repeat (first | refine chk.ga ?_ | simp -dsimp [h2, h5, q6, z7])
   all_goals (try first | omega | rfl)
 ·have q3 : ¬ (v = true) := auq h2
  rw [if_neg q3] at hF
  cases hF
  repeat (first | refine chk.ga ?_ | simp -dsimp [h2, q3])
  all_goals (try first | omega | rfl)

theorem C.impl_argOk (w : List Vl.Data) (t : Vl.Ty) (r : Bool) (hF : F.impl_argOk w t = some r) : PureCall Try.prog B 202 [.arr (List.map Vl.Data.c w), .agg [.lit (.int .i64 t.data), .lit (.int .i64 t.index)]] (.lit (.bool r)) := by
 unfold F.impl_argOk at hF
 refine PureCall.enterLe Try.func202 (by kernel_rfl) rfl Try.ntmps202 (by simp) (by simp) ?_
 repeat (first | refine chk.ga ?_ | simp -dsimp)
 refine abr.split (fun h1 => ?_) (fun h1 => ?_)
 ·have q2 : ¬ (dec (eq2 (t.data, t.index) ((-1), 0)) = true) := auq h1
  rw [if_neg q2] at hF
  repeat (first | refine chk.ga ?_ | simp -dsimp [h1, q2])
  have hF := ob hF; obtain ⟨v, e3, hF⟩ := hF
  refine ((C.impl_within B hB1 hB2 t.data (0 : Int) (IntKind.i64.wrap ((w.length : Int) - 1)) v e3)).goW (by first | simp [h1, q2]; done | simp_all) (by simp) ?_
  repeat (first | refine chk.ga ?_ | simp -dsimp [h1, q2])
  refine abr.split (fun h4 => ?_) (fun h4 => ?_)
  ·have q5 : (v = true) := auq h4
   rw [if_pos q5] at hF
   repeat (first | refine chk.ga ?_ | simp -dsimp [h1, q2, h4])
   have hF := ob hF; obtain ⟨v6, e7, hF⟩ := hF
   refine ((C.impl_within B hB1 hB2 t.index (-1 : Int) (3 : Int) v6 e7)).goW (by first | simp [h1, q2, h4]; done | simp_all) (by simp) ?_
   cases hF
   repeat (first | refine chk.ga ?_ | simp -dsimp [h1, q2, h4])
   all_goals (try first | omega | rfl)
  ·have q5 : ¬ (v = true) := auq h4
   rw [if_neg q5] at hF
   cases hF
   repeat (first | refine chk.ga ?_ | simp -dsimp [h1, q2, h4, q5])
   all_goals (try first | omega | rfl)
 ·have q2 : (dec (eq2 (t.data, t.index) ((-1), 0)) = true) := auq h1
  rw [if_pos q2] at hF
  cases hF
  repeat (first | refine chk.ga ?_ | simp -dsimp [h1, q2])
  all_goals (try first | omega | rfl)

theorem C.impl_ctorOk_1 (t : Vl.Ty) (a1 : List Vl.Data) (r : Bool) (hF : F.impl_ctorOk_1 t a1 = some r) : PureCall Try.prog B 201 [.agg [.lit (.int .i64 t.data), .lit (.int .i64 t.index)], .rptr [.arr (List.map Vl.Data.c a1)] 0] (.lit (.bool r)) := by
 unfold F.impl_ctorOk_1 at hF
 refine PureCall.enterLe Try.func201 (by kernel_rfl) rfl Try.ntmps201 (by simp) (by simp) ?_
 repeat (first | refine chk.ga ?_ | simp -dsimp)
 have hF := ob hF; obtain ⟨v, e1, hF⟩ := hF
 refine ((C.impl_argOk B hB1 hB2 a1 t v e1)).goW (by simp) (by simp) ?_
 cases hF
 repeat (first | refine chk.ga ?_ | simp -dsimp)
 all_goals (try first | omega | rfl)

theorem CC.slices_IndexFunc_Type__impl_ctorOk_1_l1 (s : List Vl.Ty) (k0 : List Vl.Data) : (∀ (i : Nat) (o : Lo Int Unit), F.slices_IndexFunc_Type__impl_ctorOk_1_l1 s k0 i = some o → ∀ (c : Code), navO [1, 0, 1, 0, 0] (bodyOf Try.f219) = some c → ∀ (Q : Exit → ASt → Prop), o.post (fun r => ∀ st, Post Try.prog Try.f219 (fun r' _ => r'.le (.lit (.int .i64 r))) .ret st → Q .ret st) (fun s => Q (.exit 0) ⟨[], []⟩) → ALoopU Try.prog B 0 19 (hold c .mk) ⟨[(0, .arr (List.map Vl.Ty.c s)), (1, .fn (.func 201) [] [.rptr [.arr (List.map Vl.Data.c k0)] 0]), (7, .lit (.int .i64 (s.length : Int))), (8, .lit (.int .i64 (i : Int)))], []⟩ (hold Q .mk)) := by
 refine F.slices_IndexFunc_Type__impl_ctorOk_1_l1.partial_correctness s k0
  _
  ?_
 ·intro _f_slices_IndexFunc_Type__impl_ctorOk_1_l1 ih_slices_IndexFunc_Type__impl_ctorOk_1_l1 i o hF
  intro c hc Q hq
  obtain rfl : c = _ := navEq hc rfl
  refine ALoopU.know fun hk hs => ?_
  have b0 := hk 0
  simp -dsimp at b0
  clear hk hs
  refine ALoopU.enter ?_
  repeat (first | refine chk.ga ?_ | simp -dsimp)
  refine abr.split (fun h1 => ?_) (fun h1 => ?_)
  ·have q2 : (i < s.length) := auq h1
   have z3 : ((i : Int) < (s.length : Int)) := auz
   rw [if_pos q2] at hF
   have hF := ob hF; obtain ⟨x, e4, hF⟩ := hF
   have le4 := lt_of_get e4
   repeat (first | refine chk.ga ?_ | simp -dsimp [h1, z3, ↓e4])
   have hF := ob hF; obtain ⟨v, e5, hF⟩ := hF
   refine ((C.impl_ctorOk_1 B hB1 hB2 x k0 v e5)).goW (by first | simp [h1, z3, ↓e4]; done | simp_all) (by simp) ?_
   repeat (first | refine chk.ga ?_ | simp -dsimp [h1, z3, ↓e4])
   refine abr.split (fun h6 => ?_) (fun h6 => ?_)
   ·have q7 : (v = true) := auq h6
    rw [if_pos q7] at hF
    cases hF
    repeat (first | refine chk.ga ?_ | simp -dsimp [h1, z3, ↓e4, h6])
    refine Leave.go _ (Gh.refl _) (hq _ ?_)
    repeat (first | refine chk.ga ?_ | simp -dsimp [h1, z3, ↓e4, h6])
   ·have q7 : ¬ (v = true) := auq h6
    rw [if_neg q7] at hF
    have w8 : IntKind.i64.wrap ((i : Int) + 1) = (i : Int) + 1 := wrap_in (by omega) (by omega)
    repeat (first | refine chk.ga ?_ | simp -dsimp [h1, z3, ↓e4, h6, q7, w8])
    refine Again.go _ ?_ ((ih_slices_IndexFunc_Type__impl_ctorOk_1_l1 (i + 1) o hF) _ rfl _ hq)
    exact (Gh.to3 (by simp) (by first | simp -dsimp [h1, z3, ↓e4, h6, q7, w8]; done | simp_all))
  ·have q2 : ¬ (i < s.length) := auq h1
   have z3 : ¬ ((i : Int) < (s.length : Int)) := auz
   rw [if_neg q2] at hF
   cases hF
   repeat (first | refine chk.ga ?_ | simp -dsimp [h1, q2, z3])
   refine Leave.go ⟨[], []⟩ (Gh.to3 (by simp) (by first | simp -dsimp [h1, q2, z3]; done | simp_all)) ?_
   exact hq

theorem C.slices_IndexFunc_Type__impl_ctorOk_1 (s : List Vl.Ty) (k0 : List Vl.Data) (r : Int) (hF : F.slices_IndexFunc_Type__impl_ctorOk_1 s k0 = some r) : PureCall Try.prog B 219 [.arr (List.map Vl.Ty.c s), .fn (.func 201) [] [.rptr [.arr (List.map Vl.Data.c k0)] 0]] (.lit (.int .i64 r)) := by
 unfold F.slices_IndexFunc_Type__impl_ctorOk_1 at hF
 refine PureCall.enterLe Try.func219 (by kernel_rfl) rfl Try.ntmps219 (by simp) (by simp) ?_
 repeat (first | refine chk.ga ?_ | simp -dsimp)
 have hF := ob hF; obtain ⟨o', ho9, hF⟩ := hF
 refine ALoop.goU _ ?_ (((CC.slices_IndexFunc_Type__impl_ctorOk_1_l1 B hB1 hB2 s k0) 0 o' ho9) _ rfl _ ?_)
 ·exact (Gh.to3 (by simp) (by simp -dsimp))
 rcases o' with r0 | sx
 ·dsimp only at hF
  cases hF
  intro st h
  simpa using h
 ·dsimp only at hF
  cases hF
  repeat (first | refine chk.ga ?_ | simp -dsimp)
  all_goals (try first | omega | rfl)

theorem C.slices_ContainsFunc_Type__impl_ctorOk_1 (s : List Vl.Ty) (k0 : List Vl.Data) (r : Bool) (hF : F.slices_ContainsFunc_Type__impl_ctorOk_1 s k0 = some r) : PureCall Try.prog B 200 [.arr (List.map Vl.Ty.c s), .fn (.func 201) [] [.rptr [.arr (List.map Vl.Data.c k0)] 0]] (.lit (.bool r)) := by
 unfold F.slices_ContainsFunc_Type__impl_ctorOk_1 at hF
 refine PureCall.enterLe Try.func200 (by kernel_rfl) rfl Try.ntmps200 (by simp) (by simp) ?_
 repeat (first | refine chk.ga ?_ | simp -dsimp)
 have hF := ob hF; obtain ⟨v, e1, hF⟩ := hF
 refine ((C.slices_IndexFunc_Type__impl_ctorOk_1 B hB1 hB2 s k0 v e1)).goW (by simp) (by simp) ?_
 cases hF
 repeat (first | refine chk.ga ?_ | simp -dsimp)
 all_goals (try first | omega | rfl)

theorem C.impl_ctorOk (w : List Vl.Data) (c' : Vl.Ctor) (r : Bool) (hF : F.impl_ctorOk w c' = some r) : PureCall Try.prog B 162 [.arr (List.map Vl.Data.c w), .agg [.lit (.string c'.name), .arr (List.map Vl.Ty.c c'.args), .lit (.int .i64 c'.index)]] (.lit (.bool r)) := by
 unfold F.impl_ctorOk at hF
 refine PureCall.enterLe Try.func162 (by kernel_rfl) rfl Try.ntmps162 (by simp) (by simp) ?_
 repeat (first | refine chk.ga ?_ | simp -dsimp)
 have hF := ob hF; obtain ⟨v, e1, hF⟩ := hF
 refine ((C.impl_NameValid B hB1 hB2 c'.name v e1)).goW (by simp) (by simp) ?_
 repeat (first | refine chk.ga ?_ | simp -dsimp)
 refine abr.split (fun h2 => ?_) (fun h2 => ?_)
 ·have q3 : (v = true) := auq h2
  rw [if_pos q3] at hF
  repeat (first | refine chk.ga ?_ | simp -dsimp [h2])
  refine abr.split (fun h4 => ?_) (fun h4 => ?_)
  ·have q5 : (c'.args.length ≤ 3) := auq h4
   have z6 : ((c'.args.length : Int) ≤ (3 : Int)) := auz
   rw [if_pos q5] at hF
   repeat (first | refine chk.ga ?_ | simp -dsimp [h2, h4, z6])
   have hF := ob hF; obtain ⟨v7, e8, hF⟩ := hF
   refine ((C.impl_within B hB1 hB2 c'.index (0 : Int) (3 : Int) v7 e8)).goW (by first | simp [h2, h4, z6]; done | simp_all) (by simp) ?_
   repeat (first | refine chk.ga ?_ | simp -dsimp [h2, h4, z6])
   refine abr.split (fun h9 => ?_) (fun h9 => ?_)
   ·have q10 : (v7 = true) := auq h9
    rw [if_pos q10] at hF
    repeat (first | refine chk.ga ?_ | simp -dsimp [h2, h4, z6, h9])
    have hF := ob hF; obtain ⟨v11, e12, hF⟩ := hF
    refine ((C.slices_ContainsFunc_Type__impl_ctorOk_1 B hB1 hB2 c'.args w v11 e12)).lend (by first | simp -dsimp [h2, h4, z6, h9]; done | simp_all) (by simp -dsimp) ?_
    cases hF
    repeat (first | refine chk.ga ?_ | simp -dsimp [h2, h4, z6, h9])
    all_goals (try first | omega | rfl)
   ·have q10 : ¬ (v7 = true) := auq h9
    rw [if_neg q10] at hF
    cases hF
    repeat (first | refine chk.ga ?_ | simp -dsimp [h2, h4, z6, h9, q10])
    all_goals (try first | omega | rfl)
  ·have q5 : ¬ (c'.args.length ≤ 3) := auq h4
   have z6 : ¬ ((c'.args.length : Int) ≤ (3 : Int)) := auz
   rw [if_neg q5] at hF
   cases hF
   repeat (first | refine chk.ga ?_ | simp -dsimp [h2, h4, q5, z6])
   all_goals (try first | omega | rfl)
 ·have q3 : ¬ (v = true) := auq h2
  rw [if_neg q3] at hF
  cases hF
  repeat (first | refine chk.ga ?_ | simp -dsimp [h2, q3])
  all_goals (try first | omega | rfl)

theorem CC.impl_WorldValid_l2 (w : List Vl.Data) (met4 : List ByteArray) (i : Nat) (x : Vl.Data) : (∀ (met26 : List ByteArray) (i27 : Nat) (o : Lo Bool (List ByteArray)), F.impl_WorldValid_l2 w met4 i x met26 i27 = some o → ∀ (b1 b2 : Nat), ¬ b1 = b2 → ∀ (c : Code), navO [1, 1, 1, 1, 0, 1, 0, 0, 1, 1, 0, 0, 1, 1, 1, 1, 0, 0] (bodyOf Try.f119) = some c → ∀ (Q : Exit → ASt → Ms → Prop), o.post (fun r => ∀ st, Post Try.prog Try.f119 (fun r' _ => r' = (.lit (.bool r))) .ret st → ∀ ms, Q .ret st ms) (fun s => Q (.exit 2) ⟨[(0, .arr (List.map Vl.Data.c w)), (3, .lit (.map (some b1))), (4, .lit (.map (some b2))), (14, .arr (List.map Vl.Data.c w)), (15, .lit (.int .i64 (w.length : Int))), (16, .lit (.int .i64 (i : Int)))], []⟩ [(b1, s), (b2, msIns met4 x.name)]) → MLoop Try.prog B 79 (hold c .mk) ⟨[(0, .arr (List.map Vl.Data.c w)), (3, .lit (.map (some b1))), (4, .lit (.map (some b2))), (14, .arr (List.map Vl.Data.c w)), (15, .lit (.int .i64 (w.length : Int))), (16, .lit (.int .i64 (i : Int))), (58, .arr (List.map Vl.Ctor.c x.ctors)), (59, .lit (.int .i64 (x.ctors.length : Int))), (60, .lit (.int .i64 (i27 : Int)))], []⟩ [(b1, met26), (b2, msIns met4 x.name)] (hold Q .mk)) := by
 refine F.impl_WorldValid_l2.partial_correctness w met4 i x
  _
  ?_
 ·intro _f_impl_WorldValid_l2 ih_impl_WorldValid_l2 met26 i27 o hF
  intro b1 b2 hb2 c hc Q hq
  obtain rfl : c = _ := navEq hc rfl
  refine MLoop.know fun hk hs => ?_
  have b0 := hk 0
  simp -dsimp at b0
  have b14 := hk 14
  simp -dsimp at b14
  have b58 := hk 58
  simp -dsimp at b58
  clear hk hs
  refine MLoop.enter ?_
  repeat (first | refine chk.ga ?_ | simp -dsimp [hb2])
  refine abr.split (fun h28 => ?_) (fun h28 => ?_)
  ·have q29 : (i27 < x.ctors.length) := auq h28
   have z30 : ((i27 : Int) < (x.ctors.length : Int)) := auz
   rw [if_pos q29] at hF
   have hF := ob hF; obtain ⟨x31, e32, hF⟩ := hF
   have le32 := lt_of_get e32
   repeat (first | refine chk.ga ?_ | simp -dsimp [hb2, h28, z30, ↓e32])
   have hF := ob hF; obtain ⟨v33, e34, hF⟩ := hF
   refine ((C.impl_ctorOk B hB1 hB2 w x31 v33 e34)).goW (by first | simp [hb2, h28, z30, ↓e32]; done | simp_all) (by simp) ?_
   repeat (first | refine chk.ga ?_ | simp -dsimp [hb2, h28, z30, ↓e32])
   refine abr.split (fun h35 => ?_) (fun h35 => ?_)
   ·have q36 : (v33 = true) := auq h35
    rw [if_pos q36] at hF
    repeat (first | refine chk.ga ?_ | simp -dsimp [hb2, h28, z30, ↓e32, h35])
    refine abr.split (fun h37 => ?_) (fun h37 => ?_)
    ·have q38 : (dec (x31.name ∈ met26) = true) := auq h37
     rw [if_pos q38] at hF
     cases hF
     repeat (first | refine chk.ga ?_ | simp -dsimp [hb2, h28, z30, ↓e32, h35, h37])
     refine LeaveM.go _ (Gh.refl _) (hq _ ?_ _)
     repeat (first | refine chk.ga ?_ | simp -dsimp [hb2, h28, z30, ↓e32, h35, h37])
    ·have q38 : ¬ (dec (x31.name ∈ met26) = true) := auq h37
     rw [if_neg q38] at hF
     have w39 : IntKind.i64.wrap ((i27 : Int) + 1) = (i27 : Int) + 1 := wrap_in (by omega) (by omega)
     repeat (first | refine chk.ga ?_ | simp -dsimp [hb2, h28, z30, ↓e32, h35, h37, q38, w39])
     refine AgainM.go ⟨[(0, .arr (List.map Vl.Data.c w)), (3, .lit (.map (some b1))), (4, .lit (.map (some b2))), (14, .arr (List.map Vl.Data.c w)), (15, .lit (.int .i64 (w.length : Int))), (16, .lit (.int .i64 (i : Int))), (58, .arr (List.map Vl.Ctor.c x.ctors)), (59, .lit (.int .i64 (x.ctors.length : Int))), (60, .lit (.int .i64 ((i27 + 1) : Int)))], []⟩ (Gh.to3 (by simp) (by first | simp -dsimp [hb2, h28, z30, ↓e32, h35, h37, q38, w39]; done | simp_all)) ?_
     exact (ih_impl_WorldValid_l2 (msIns met26 x31.name) (i27 + 1) o hF) b1 b2 hb2 _ rfl _ hq
   ·have q36 : ¬ (v33 = true) := auq h35
    rw [if_neg q36] at hF
    cases hF
    repeat (first | refine chk.ga ?_ | simp -dsimp [hb2, h28, z30, ↓e32, h35, q36])
    refine LeaveM.go _ (Gh.refl _) (hq _ ?_ _)
    repeat (first | refine chk.ga ?_ | simp -dsimp [hb2, h28, z30, ↓e32, h35, q36])
  ·have q29 : ¬ (i27 < x.ctors.length) := auq h28
   have z30 : ¬ ((i27 : Int) < (x.ctors.length : Int)) := auz
   rw [if_neg q29] at hF
   cases hF
   repeat (first | refine chk.ga ?_ | simp -dsimp [hb2, h28, q29, z30])
   refine LeaveM.go ⟨[(0, .arr (List.map Vl.Data.c w)), (3, .lit (.map (some b1))), (4, .lit (.map (some b2))), (14, .arr (List.map Vl.Data.c w)), (15, .lit (.int .i64 (w.length : Int))), (16, .lit (.int .i64 (i : Int)))], []⟩ (Gh.to3 (by simp) (by first | simp -dsimp [hb2, h28, q29, z30]; done | simp_all)) ?_
   exact hq

theorem CC.impl_WorldValid_l1 (w : List Vl.Data) : (∀ (met : List ByteArray) (met4 : List ByteArray) (i : Nat) (o : Lo Bool ((List ByteArray) × (List ByteArray))), F.impl_WorldValid_l1 w met met4 i = some o → ∀ (b1 b2 : Nat), ¬ b1 = b2 → ∀ (c : Code), navO [1, 1, 1, 1, 0, 1, 0, 0] (bodyOf Try.f119) = some c → ∀ (Q : Exit → ASt → Ms → Prop), o.post (fun r => ∀ st, Post Try.prog Try.f119 (fun r' _ => r' = (.lit (.bool r))) .ret st → ∀ ms, Q .ret st ms) (fun s => Q (.exit 0) ⟨[], []⟩ [(b1, s.1), (b2, s.2)]) → MLoop Try.prog B 79 (hold c .mk) ⟨[(0, .arr (List.map Vl.Data.c w)), (3, .lit (.map (some b1))), (4, .lit (.map (some b2))), (14, .arr (List.map Vl.Data.c w)), (15, .lit (.int .i64 (w.length : Int))), (16, .lit (.int .i64 (i : Int)))], []⟩ [(b1, met), (b2, met4)] (hold Q .mk)) := by
 refine F.impl_WorldValid_l1.partial_correctness w
  _
  ?_
 ·intro _f_impl_WorldValid_l1 ih_impl_WorldValid_l1 met met4 i o hF
  intro b1 b2 hb2 c hc Q hq
  obtain rfl : c = _ := navEq hc rfl
  refine MLoop.know fun hk hs => ?_
  have b0 := hk 0
  simp -dsimp at b0
  have b14 := hk 14
  simp -dsimp at b14
  clear hk hs
  refine MLoop.enter ?_
  repeat (first | refine chk.ga ?_ | simp -dsimp [hb2])
  refine abr.split (fun h5 => ?_) (fun h5 => ?_)
  ·have q6 : (i < w.length) := auq h5
   have z7 : ((i : Int) < (w.length : Int)) := auz
   rw [if_pos q6] at hF
   have hF := ob hF; obtain ⟨x, e8, hF⟩ := hF
   have le8 := lt_of_get e8
   repeat (first | refine chk.ga ?_ | simp -dsimp [hb2, h5, z7, ↓e8])
   refine abr.split (fun h9 => ?_) (fun h9 => ?_)
   ·have q10 : (x.name.size = 1) := auq h9
    have z11 : ((x.name.size : Int) = (1 : Int)) := auz
    rw [if_pos q10] at hF
    have hF := oc hF; obtain ⟨c12, hF⟩ := hF
    repeat (first | refine chk.ga ?_ | simp -dsimp [hb2, h5, z7, ↓e8, h9, z11])
    refine abr.split (fun h13 => ?_) (fun h13 => ?_)
    ·have q14 : ¬ (byteAt x.name 0 < 65) := auq h13
     have z15 : ¬ (((byteAt x.name 0 : Nat) : Int) < (65 : Int)) := auz
     rw [if_neg q14] at hF
     repeat (first | refine chk.ga ?_ | simp -dsimp [hb2, h5, z7, ↓e8, h9, z11, h13, q14, z15])
     refine abr.split (fun h16 => ?_) (fun h16 => ?_)
     ·have q17 : ¬ (90 < byteAt x.name 0) := auq h16
      have z18 : ¬ ((90 : Int) < ((byteAt x.name 0 : Nat) : Int)) := auz
      rw [if_neg q17] at hF
      repeat (first | refine chk.ga ?_ | simp -dsimp [hb2, h5, z7, ↓e8, h9, z11, h13, q14, z15, h16, q17, z18])
      refine abr.split (fun h19 => ?_) (fun h19 => ?_)
      ·have q20 : ¬ (x.name.toList = (⟨#[73]⟩ : ByteArray).toList) := auq h19
       rw [if_neg q20] at hF
       repeat (first | refine chk.ga ?_ | simp -dsimp [hb2, h5, z7, ↓e8, h9, z11, h13, q14, z15, h16, q17, z18, h19, q20])
       refine abr.split (fun h21 => ?_) (fun h21 => ?_)
       ·have q22 : ¬ (dec (x.name ∈ met4) = true) := auq h21
        rw [if_neg q22] at hF
        repeat (first | refine chk.ga ?_ | simp -dsimp [hb2, h5, z7, ↓e8, h9, z11, h13, q14, z15, h16, q17, z18, h19, q20, h21, q22])
        have hF := ob hF; obtain ⟨v, e23, hF⟩ := hF
        refine ((C.impl_within B hB1 hB2 (x.ctors.length : Int) (1 : Int) (4 : Int) v e23)).goW (by first | simp [hb2, h5, z7, ↓e8, h9, z11, h13, q14, z15, h16, q17, z18, h19, q20, h21, q22]; done | simp_all) (by simp) ?_
        repeat (first | refine chk.ga ?_ | simp -dsimp [hb2, h5, z7, ↓e8, h9, z11, h13, q14, z15, h16, q17, z18, h19, q20, h21, q22])
        refine abr.split (fun h24 => ?_) (fun h24 => ?_)
        ·have q25 : ¬ (v = true) := auq h24
         rw [if_neg q25] at hF
         cases hF
         repeat (first | refine chk.ga ?_ | simp -dsimp [hb2, h5, z7, ↓e8, h9, z11, h13, q14, z15, h16, q17, z18, h19, q20, h21, q22, h24, q25])
         refine LeaveM.go _ (Gh.refl _) (hq _ ?_ _)
         repeat (first | refine chk.ga ?_ | simp -dsimp [hb2, h5, z7, ↓e8, h9, z11, h13, q14, z15, h16, q17, z18, h19, q20, h21, q22, h24, q25])
        ·have q25 : (v = true) := auq h24
         rw [if_pos q25] at hF
         repeat (first | refine chk.ga ?_ | simp -dsimp [hb2, h5, z7, ↓e8, h9, z11, h13, q14, z15, h16, q17, z18, h19, q20, h21, q22, h24, q25])
         have hF := ob hF; obtain ⟨o', ho40, hF⟩ := hF
         refine MLoop.goU ⟨[(0, .arr (List.map Vl.Data.c w)), (3, .lit (.map (some b1))), (4, .lit (.map (some b2))), (14, .arr (List.map Vl.Data.c w)), (15, .lit (.int .i64 (w.length : Int))), (16, .lit (.int .i64 (i : Int))), (58, .arr (List.map Vl.Ctor.c x.ctors)), (59, .lit (.int .i64 (x.ctors.length : Int))), (60, .lit (.int .i64 (0 : Int)))], []⟩ (Gh.to3 (by simp) (by first | simp -dsimp [hb2, h5, z7, ↓e8, h9, z11, h13, q14, z15, h16, q17, z18, h19, q20, h21, q22, h24, q25]; done | simp_all)) ?_
         refine ((CC.impl_WorldValid_l2 B hB1 hB2 w met4 i x) met 0 o' ho40) b1 b2 hb2 _ rfl _ ?_
         rcases o' with r0 | sx
         ·dsimp only at hF
          cases hF
          intro st h ms
          simp -dsimp
          refine LeaveM.go st (Gh.refl _) (hq st h ms)
         ·dsimp only at hF
          have hF := oc hF; obtain ⟨c41, hF⟩ := hF
          have w42 : IntKind.i64.wrap ((i : Int) + 1) = (i : Int) + 1 := wrap_in (by omega) (by omega)
          repeat (first | refine chk.ga ?_ | simp -dsimp [w42])
          refine AgainM.go ⟨[(0, .arr (List.map Vl.Data.c w)), (3, .lit (.map (some b1))), (4, .lit (.map (some b2))), (14, .arr (List.map Vl.Data.c w)), (15, .lit (.int .i64 (w.length : Int))), (16, .lit (.int .i64 ((i + 1) : Int)))], []⟩ (Gh.to3 (by simp) (by first | simp -dsimp [w42]; done | simp_all)) ?_
          exact (ih_impl_WorldValid_l1 sx (msIns met4 x.name) (i + 1) o hF) b1 b2 hb2 _ rfl _ hq
       ·have q22 : (dec (x.name ∈ met4) = true) := auq h21
        rw [if_pos q22] at hF
        cases hF
        repeat (first | refine chk.ga ?_ | simp -dsimp [hb2, h5, z7, ↓e8, h9, z11, h13, q14, z15, h16, q17, z18, h19, q20, h21, q22])
        refine LeaveM.go _ (Gh.refl _) (hq _ ?_ _)
        repeat (first | refine chk.ga ?_ | simp -dsimp [hb2, h5, z7, ↓e8, h9, z11, h13, q14, z15, h16, q17, z18, h19, q20, h21, q22])
      ·have q20 : (x.name.toList = (⟨#[73]⟩ : ByteArray).toList) := auq h19
       rw [if_pos q20] at hF
       cases hF
       repeat (first | refine chk.ga ?_ | simp -dsimp [hb2, h5, z7, ↓e8, h9, z11, h13, q14, z15, h16, q17, z18, h19, q20])
       refine LeaveM.go _ (Gh.refl _) (hq _ ?_ _)
       repeat (first | refine chk.ga ?_ | simp -dsimp [hb2, h5, z7, ↓e8, h9, z11, h13, q14, z15, h16, q17, z18, h19, q20])
     ·have q17 : (90 < byteAt x.name 0) := auq h16
      have z18 : ((90 : Int) < ((byteAt x.name 0 : Nat) : Int)) := auz
      rw [if_pos q17] at hF
      cases hF
      repeat (first | refine chk.ga ?_ | simp -dsimp [hb2, h5, z7, ↓e8, h9, z11, h13, q14, z15, h16, q17, z18])
      refine LeaveM.go _ (Gh.refl _) (hq _ ?_ _)
      repeat (first | refine chk.ga ?_ | simp -dsimp [hb2, h5, z7, ↓e8, h9, z11, h13, q14, z15, h16, q17, z18])
    ·have q14 : (byteAt x.name 0 < 65) := auq h13
     have z15 : (((byteAt x.name 0 : Nat) : Int) < (65 : Int)) := auz
     rw [if_pos q14] at hF
     cases hF
     repeat (first | refine chk.ga ?_ | simp -dsimp [hb2, h5, z7, ↓e8, h9, z11, h13, q14, z15])
     refine LeaveM.go _ (Gh.refl _) (hq _ ?_ _)
     repeat (first | refine chk.ga ?_ | simp -dsimp [hb2, h5, z7, ↓e8, h9, z11, h13, q14, z15])
   ·have q10 : ¬ (x.name.size = 1) := auq h9
    have z11 : ¬ ((x.name.size : Int) = (1 : Int)) := auz
    rw [if_neg q10] at hF
    cases hF
    repeat (first | refine chk.ga ?_ | simp -dsimp [hb2, h5, z7, ↓e8, h9, q10, z11])
    refine LeaveM.go _ (Gh.refl _) (hq _ ?_ _)
    repeat (first | refine chk.ga ?_ | simp -dsimp [hb2, h5, z7, ↓e8, h9, q10, z11])
  ·have q6 : ¬ (i < w.length) := auq h5
   have z7 : ¬ ((i : Int) < (w.length : Int)) := auz
   rw [if_neg q6] at hF
   cases hF
   repeat (first | refine chk.ga ?_ | simp -dsimp [hb2, h5, q6, z7])
   refine LeaveM.go ⟨[], []⟩ (Gh.to3 (by simp) (by first | simp -dsimp [hb2, h5, q6, z7]; done | simp_all)) ?_
   exact hq

theorem C.impl_WorldValid (w : List Vl.Data) (r : Bool) (hF : F.impl_WorldValid w = some r) : PureCall Try.prog B 119 [.arr (List.map Vl.Data.c w)] (.lit (.bool r)) := by
 unfold F.impl_WorldValid at hF
 refine PureCall.enterM Try.func119 (by kernel_rfl) rfl Try.ntmps119 (by simp) ?_
 repeat (first | refine chk.ga ?_ | simp -dsimp)
 refine abr.split (fun h1 => ?_) (fun h1 => ?_)
 ·have q2 : (4 < w.length) := auq h1
  have z3 : ((4 : Int) < (w.length : Int)) := auz
  rw [if_pos q2] at hF
  cases hF
  repeat (first | refine chk.ga ?_ | simp -dsimp [h1, z3])
  all_goals (try first | omega | rfl)
 ·have q2 : ¬ (4 < w.length) := auq h1
  have z3 : ¬ ((4 : Int) < (w.length : Int)) := auz
  rw [if_neg q2] at hF
  repeat (first | refine chk.ga ?_ | simp -dsimp [h1, q2, z3])
  refine AMake.go fun b1 hb1 => ?_
  repeat (first | refine chk.ga ?_ | simp -dsimp [h1, q2, z3])
  refine AMake.go fun b2 hb2 => ?_
  simp at hb2
  repeat (first | refine chk.ga ?_ | simp -dsimp [h1, q2, z3, hb2])
  have hF := ob hF; obtain ⟨o'44, ho43, hF⟩ := hF
  refine MLoop.goU ⟨[(0, .arr (List.map Vl.Data.c w)), (3, .lit (.map (some b1))), (4, .lit (.map (some b2))), (14, .arr (List.map Vl.Data.c w)), (15, .lit (.int .i64 (w.length : Int))), (16, .lit (.int .i64 (0 : Int)))], []⟩ (Gh.to3 (by simp) (by first | simp -dsimp [h1, q2, z3, hb2]; done | simp_all)) ?_
  refine ((CC.impl_WorldValid_l1 B hB1 hB2 w) [] [] 0 o'44 ho43) b1 b2 hb2 _ rfl _ ?_
  rcases o'44 with r046 | sx45
  ·dsimp only at hF
   cases hF
   intro st h ms
   simpa using h
  ·dsimp only at hF
   cases hF
   repeat (first | refine chk.ga ?_ | simp -dsimp)
   all_goals (try first | omega | rfl)

theorem C.impl_typeOk (w : List Vl.Data) (t : Vl.Ty) (r : Bool) (hF : F.impl_typeOk w t = some r) : PureCall Try.prog B 89 [.arr (List.map Vl.Data.c w), .agg [.lit (.int .i64 t.data), .lit (.int .i64 t.index)]] (.lit (.bool r)) := by
 unfold F.impl_typeOk at hF
 refine PureCall.enterLe Try.func89 (by kernel_rfl) rfl Try.ntmps89 (by simp) (by simp) ?_
 repeat (first | refine chk.ga ?_ | simp -dsimp)
 refine abr.split (fun h1 => ?_) (fun h1 => ?_)
 ·have q2 : ¬ (dec (eq2 (t.data, t.index) ((-1), 0)) = true) := auq h1
  rw [if_neg q2] at hF
  repeat (first | refine chk.ga ?_ | simp -dsimp [h1, q2])
  have hF := ob hF; obtain ⟨v, e3, hF⟩ := hF
  refine ((C.impl_within B hB1 hB2 t.data (0 : Int) (IntKind.i64.wrap ((w.length : Int) - 1)) v e3)).goW (by first | simp [h1, q2]; done | simp_all) (by simp) ?_
  repeat (first | refine chk.ga ?_ | simp -dsimp [h1, q2])
  refine abr.split (fun h4 => ?_) (fun h4 => ?_)
  ·have q5 : (v = true) := auq h4
   rw [if_pos q5] at hF
   repeat (first | refine chk.ga ?_ | simp -dsimp [h1, q2, h4])
   have hF := ob hF; obtain ⟨v6, e7, hF⟩ := hF
   refine ((C.impl_within B hB1 hB2 t.index (0 : Int) (3 : Int) v6 e7)).goW (by first | simp [h1, q2, h4]; done | simp_all) (by simp) ?_
   cases hF
   repeat (first | refine chk.ga ?_ | simp -dsimp [h1, q2, h4])
   all_goals (try first | omega | rfl)
  ·have q5 : ¬ (v = true) := auq h4
   rw [if_neg q5] at hF
   cases hF
   repeat (first | refine chk.ga ?_ | simp -dsimp [h1, q2, h4, q5])
   all_goals (try first | omega | rfl)
 ·have q2 : (dec (eq2 (t.data, t.index) ((-1), 0)) = true) := auq h1
  rw [if_pos q2] at hF
  cases hF
  repeat (first | refine chk.ga ?_ | simp -dsimp [h1, q2])
  all_goals (try first | omega | rfl)

theorem C.impl_TypeValid (w : List Vl.Data) (t : Vl.Ty) (r : Bool) (hF : F.impl_TypeValid w t = some r) : PureCall Try.prog B 60 [.arr (List.map Vl.Data.c w), .agg [.lit (.int .i64 t.data), .lit (.int .i64 t.index)]] (.lit (.bool r)) := by
 unfold F.impl_TypeValid at hF
 refine PureCall.enterLe Try.func60 (by kernel_rfl) rfl Try.ntmps60 (by simp) (by simp) ?_
 repeat (first | refine chk.ga ?_ | simp -dsimp)
 have hF := ob hF; obtain ⟨v, e1, hF⟩ := hF
 refine ((C.impl_WorldValid B hB1 hB2 w v e1)).goW (by simp) (by simp) ?_
 repeat (first | refine chk.ga ?_ | simp -dsimp)
 refine abr.split (fun h2 => ?_) (fun h2 => ?_)
 ·have q3 : (v = true) := auq h2
  rw [if_pos q3] at hF
  repeat (first | refine chk.ga ?_ | simp -dsimp [h2])
  have hF := ob hF; obtain ⟨v4, e5, hF⟩ := hF
  refine ((C.impl_typeOk B hB1 hB2 w t v4 e5)).goW (by first | simp [h2]; done | simp_all) (by simp) ?_
  cases hF
  repeat (first | refine chk.ga ?_ | simp -dsimp [h2])
  all_goals (try first | omega | rfl)
 ·have q3 : ¬ (v = true) := auq h2
  rw [if_neg q3] at hF
  cases hF
  repeat (first | refine chk.ga ?_ | simp -dsimp [h2, q3])
  all_goals (try first | omega | rfl)

theorem CC.impl_ctorsOf_l1 (t : Vl.Ty) (x : Vl.Data) : (∀ (i : Nat) (out : List Int) (o : List Int), F.impl_ctorsOf_l1 t x i out = some o → ∀ (c : Code), navO [1, 1, 0, 1, 0, 1, 0, 0] (bodyOf Try.f173) = some c → ∀ (Q : Exit → ASt → Prop), (Q (.exit 0) ⟨[(5, .own 1 (List.length (α := Int) o))], [.dead, .elems 1 (List.map cI o)]⟩) → ALoopU Try.prog B 0 44 (hold c .mk) ⟨[(3, .ptr 0 0), (5, .own 1 (List.length (α := Int) out)), (16, .arr (List.map Vl.Ctor.c x.ctors)), (17, .lit (.int .i64 (x.ctors.length : Int))), (18, .lit (.int .i64 (i : Int)))], [.cells [.lit (.int .i64 t.data), .lit (.int .i64 t.index)], .elems 1 (List.map cI out)]⟩ (hold Q .mk)) := by
 refine F.impl_ctorsOf_l1.partial_correctness t x
  _
  ?_
 ·intro _f_impl_ctorsOf_l1 ih_impl_ctorsOf_l1 i out o hF
  intro c hc Q hq
  obtain rfl : c = _ := navEq hc rfl
  refine ALoopU.know fun hk hs => ?_
  have b16 := hk 16
  simp -dsimp at b16
  have d1 := hs 1 _ rfl
  simp -dsimp [Blk.bnd] at d1
  clear hk hs
  refine ALoopU.enter ?_
  repeat (first | refine chk.ga ?_ | simp -dsimp)
  refine abr.split (fun h4 => ?_) (fun h4 => ?_)
  ·have q5 : (i < x.ctors.length) := auq h4
   have z6 : ((i : Int) < (x.ctors.length : Int)) := auz
   rw [if_pos q5] at hF
   have hF := ob hF; obtain ⟨x7, e8, hF⟩ := hF
   have le8 := lt_of_get e8
   repeat (first | refine chk.ga ?_ | simp -dsimp [h4, z6, ↓e8])
   refine abr.split (fun h9 => ?_) (fun h9 => ?_)
   ·have q10 : ¬ (t.index = 0) := auq h9
    rw [if_neg q10] at hF
    repeat (first | refine chk.ga ?_ | simp -dsimp [h4, z6, ↓e8, h9, q10])
    refine abr.split (fun h11 => ?_) (fun h11 => ?_)
    ·have q12 : ¬ (x7.index = 0) := auq h11
     rw [if_neg q12] at hF
     repeat (first | refine chk.ga ?_ | simp -dsimp [h4, z6, ↓e8, h9, q10, h11, q12])
     refine abr.split (fun h13 => ?_) (fun h13 => ?_)
     ·have q14 : (x7.index = t.index) := auq h13
      rw [if_pos q14] at hF
      have hF := oc hF; obtain ⟨c15, hF⟩ := hF
      have w16 : IntKind.i64.wrap ((i : Int) + 1) = (i : Int) + 1 := wrap_in (by omega) (by omega)
      repeat (first | refine chk.ga ?_ | simp -dsimp [h4, z6, ↓e8, h9, q10, h11, q12, h13, w16])
      refine Again.go _ ?_ ((ih_impl_ctorsOf_l1 (i + 1) (out ++ [(i : Int)]) o hF) _ rfl _ hq)
      exact (Gh.to3 (by simp) (by first | simp -dsimp [h4, z6, ↓e8, h9, q10, h11, q12, h13, w16]; done | simp_all))
     ·have q14 : ¬ (x7.index = t.index) := auq h13
      rw [if_neg q14] at hF
      have w17 : IntKind.i64.wrap ((i : Int) + 1) = (i : Int) + 1 := wrap_in (by omega) (by omega)
      repeat (first | refine chk.ga ?_ | simp -dsimp [h4, z6, ↓e8, h9, q10, h11, q12, h13, q14, w17])
      refine Again.go _ ?_ ((ih_impl_ctorsOf_l1 (i + 1) out o hF) _ rfl _ hq)
      exact (Gh.to3 (by simp) (by first | simp -dsimp [h4, z6, ↓e8, h9, q10, h11, q12, h13, q14, w17]; done | simp_all))
    ·have q12 : (x7.index = 0) := auq h11
     rw [if_pos q12] at hF
     have hF := oc hF; obtain ⟨c18, hF⟩ := hF
     have w19 : IntKind.i64.wrap ((i : Int) + 1) = (i : Int) + 1 := wrap_in (by omega) (by omega)
     repeat (first | refine chk.ga ?_ | simp -dsimp [h4, z6, ↓e8, h9, q10, h11, q12, w19])
     refine Again.go _ ?_ ((ih_impl_ctorsOf_l1 (i + 1) (out ++ [(i : Int)]) o hF) _ rfl _ hq)
     exact (Gh.to3 (by simp) (by first | simp -dsimp [h4, z6, ↓e8, h9, q10, h11, q12, w19]; done | simp_all))
   ·have q10 : (t.index = 0) := auq h9
    rw [if_pos q10] at hF
    have hF := oc hF; obtain ⟨c20, hF⟩ := hF
    have w21 : IntKind.i64.wrap ((i : Int) + 1) = (i : Int) + 1 := wrap_in (by omega) (by omega)
    repeat (first | refine chk.ga ?_ | simp -dsimp [h4, z6, ↓e8, h9, q10, w21])
    refine Again.go _ ?_ ((ih_impl_ctorsOf_l1 (i + 1) (out ++ [(i : Int)]) o hF) _ rfl _ hq)
    exact (Gh.to3 (by simp) (by first | simp -dsimp [h4, z6, ↓e8, h9, q10, w21]; done | simp_all))
  ·have q5 : ¬ (i < x.ctors.length) := auq h4
   have z6 : ¬ ((i : Int) < (x.ctors.length : Int)) := auz
   rw [if_neg q5] at hF
   cases hF
   repeat (first | refine chk.ga ?_ | simp -dsimp [h4, q5, z6])
   refine Leave.go ⟨[(5, .own 1 (List.length (α := Int) out))], [.dead, .elems 1 (List.map cI out)]⟩ (Gh.to3 (by simp) (by first | simp -dsimp [h4, q5, z6]; done | simp_all)) ?_
   exact hq

theorem C.impl_ctorsOf (w : List Vl.Data) (t : Vl.Ty) (r : List Int) (hF : F.impl_ctorsOf w t = some r) : PureCall Try.prog B 173 [.arr (List.map Vl.Data.c w), .agg [.lit (.int .i64 t.data), .lit (.int .i64 t.index)]] (.arr (List.map cI r)) := by
 unfold F.impl_ctorsOf at hF
 refine PureCall.enterLe Try.func173 (by kernel_rfl) rfl Try.ntmps173 (by simp) (by simp) ?_
 repeat (first | refine chk.ga ?_ | simp -dsimp)
 refine abr.split (fun h1 => ?_) (fun h1 => ?_)
 ·have q2 : ¬ (t.data = (-1)) := auq h1
  rw [if_neg q2] at hF
  have hF := ob hF; obtain ⟨x, e3a, hF⟩ := hF
  have e3a := at_some e3a; obtain ⟨ne3, e3⟩ := e3a
  have le3 := lt_of_get e3
  repeat (first | refine chk.ga ?_ | simp -dsimp [h1, q2, ↓e3])
  have hF := ob hF; obtain ⟨o', ho22, hF⟩ := hF
  refine ALoop.goU ⟨[(3, .ptr 0 0), (5, .own 1 (List.length (α := Int) [])), (16, .arr (List.map Vl.Ctor.c x.ctors)), (17, .lit (.int .i64 (x.ctors.length : Int))), (18, .lit (.int .i64 (0 : Int)))], [.cells [.lit (.int .i64 t.data), .lit (.int .i64 t.index)], .elems 1 (List.map cI [])]⟩ (by refine Gh.trans (Gh.nil 5 1 (by simp -dsimp)) ?_; exact (Gh.to3 (by simp) (by first | simp -dsimp [h1, q2, ↓e3]; done | simp_all))) ?_
  refine ((CC.impl_ctorsOf_l1 B hB1 hB2 t x) 0 [] o' ho22) _ rfl _ ?_
  cases hF
  repeat (first | refine chk.ga ?_ | simp -dsimp)
  all_goals (try first | omega | rfl)
 ·have q2 : (t.data = (-1)) := auq h1
  rw [if_pos q2] at hF
  cases hF
  repeat (first | refine chk.ga ?_ | simp -dsimp [h1, q2])
  all_goals (try first | omega | rfl)

theorem CC.slices_Index_int_l1 (s : List Int) (v : Int) : (∀ (i : Nat) (o : Lo Int Unit), F.slices_Index_int_l1 s v i = some o → ∀ (c : Code), navO [1, 0, 1, 0, 0] (bodyOf Try.f215) = some c → ∀ (Q : Exit → ASt → Prop), o.post (fun r => ∀ st, Post Try.prog Try.f215 (fun r' _ => r'.le (.lit (.int .i64 r))) .ret st → Q .ret st) (fun s => Q (.exit 0) ⟨[], []⟩) → ALoopU Try.prog B 0 19 (hold c .mk) ⟨[(0, .arr (List.map cI s)), (1, .lit (.int .i64 v)), (7, .lit (.int .i64 (s.length : Int))), (8, .lit (.int .i64 (i : Int)))], []⟩ (hold Q .mk)) := by
 refine F.slices_Index_int_l1.partial_correctness s v
  _
  ?_
 ·intro _f_slices_Index_int_l1 ih_slices_Index_int_l1 i o hF
  intro c hc Q hq
  obtain rfl : c = _ := navEq hc rfl
  refine ALoopU.know fun hk hs => ?_
  have b0 := hk 0
  simp -dsimp at b0
  clear hk hs
  refine ALoopU.enter ?_
  repeat (first | refine chk.ga ?_ | simp -dsimp)
  refine abr.split (fun h1 => ?_) (fun h1 => ?_)
  ·have q2 : (i < s.length) := auq h1
   have z3 : ((i : Int) < (s.length : Int)) := auz
   rw [if_pos q2] at hF
   have hF := ob hF; obtain ⟨x, e4, hF⟩ := hF
   have le4 := lt_of_get e4
   repeat (first | refine chk.ga ?_ | simp -dsimp [h1, z3, ↓e4])
   refine abr.split (fun h5 => ?_) (fun h5 => ?_)
   ·have q6 : (v = x) := auq h5
    rw [if_pos q6] at hF
    cases hF
    repeat (first | refine chk.ga ?_ | simp -dsimp [h1, z3, ↓e4, h5])
    refine Leave.go _ (Gh.refl _) (hq _ ?_)
    repeat (first | refine chk.ga ?_ | simp -dsimp [h1, z3, ↓e4, h5])
   ·have q6 : ¬ (v = x) := auq h5
    rw [if_neg q6] at hF
    have w7 : IntKind.i64.wrap ((i : Int) + 1) = (i : Int) + 1 := wrap_in (by omega) (by omega)
    repeat (first | refine chk.ga ?_ | simp -dsimp [h1, z3, ↓e4, h5, q6, w7])
    refine Again.go _ ?_ ((ih_slices_Index_int_l1 (i + 1) o hF) _ rfl _ hq)
    exact (Gh.to3 (by simp) (by first | simp -dsimp [h1, z3, ↓e4, h5, q6, w7]; done | simp_all))
  ·have q2 : ¬ (i < s.length) := auq h1
   have z3 : ¬ ((i : Int) < (s.length : Int)) := auz
   rw [if_neg q2] at hF
   cases hF
   repeat (first | refine chk.ga ?_ | simp -dsimp [h1, q2, z3])
   refine Leave.go ⟨[], []⟩ (Gh.to3 (by simp) (by first | simp -dsimp [h1, q2, z3]; done | simp_all)) ?_
   exact hq

theorem C.slices_Index_int (s : List Int) (v : Int) (r : Int) (hF : F.slices_Index_int s v = some r) : PureCall Try.prog B 215 [.arr (List.map cI s), .lit (.int .i64 v)] (.lit (.int .i64 r)) := by
 unfold F.slices_Index_int at hF
 refine PureCall.enterLe Try.func215 (by kernel_rfl) rfl Try.ntmps215 (by simp) (by simp) ?_
 repeat (first | refine chk.ga ?_ | simp -dsimp)
 have hF := ob hF; obtain ⟨o', ho8, hF⟩ := hF
 refine ALoop.goU _ ?_ (((CC.slices_Index_int_l1 B hB1 hB2 s v) 0 o' ho8) _ rfl _ ?_)
 ·exact (Gh.to3 (by simp) (by simp -dsimp))
 rcases o' with r0 | sx
 ·dsimp only at hF
  cases hF
  intro st h
  simpa using h
 ·dsimp only at hF
  cases hF
  repeat (first | refine chk.ga ?_ | simp -dsimp)
  all_goals (try first | omega | rfl)

theorem C.slices_Contains_int (s : List Int) (v : Int) (r : Bool) (hF : F.slices_Contains_int s v = some r) : PureCall Try.prog B 187 [.arr (List.map cI s), .lit (.int .i64 v)] (.lit (.bool r)) := by
 unfold F.slices_Contains_int at hF
 refine PureCall.enterLe Try.func187 (by kernel_rfl) rfl Try.ntmps187 (by simp) (by simp) ?_
 repeat (first | refine chk.ga ?_ | simp -dsimp)
 have hF := ob hF; obtain ⟨v1, e2, hF⟩ := hF
 refine ((C.slices_Index_int B hB1 hB2 s v v1 e2)).goW (by simp) (by simp) ?_
 cases hF
 repeat (first | refine chk.ga ?_ | simp -dsimp)
 all_goals (try first | omega | rfl)

theorem CC.impl_argTypes_l1 (t : Vl.Ty) (x2 : Vl.Ctor) : (∀ (i : Nat) (out : List Vl.Ty) (o : List Vl.Ty), F.impl_argTypes_l1 t x2 i out = some o → ∀ (c : Code), navO [1, 1, 1, 1, 1, 0, 1, 0, 0] (bodyOf Try.f188) = some c → ∀ (Q : Exit → ASt → Prop), (Q (.exit 0) ⟨[(9, .own 2 (List.length (α := Vl.Ty) o))], [.dead, .dead, .elems 2 (List.map Vl.Ty.c o)]⟩) → ALoopU Try.prog B 0 45 (hold c .mk) ⟨[(8, .lit (.int .i64 t.index)), (9, .own 2 (List.length (α := Vl.Ty) out)), (28, .arr (List.map Vl.Ty.c x2.args)), (29, .lit (.int .i64 (x2.args.length : Int))), (30, .lit (.int .i64 (i : Int)))], [.dead, .dead, .elems 2 (List.map Vl.Ty.c out)]⟩ (hold Q .mk)) := by
 refine F.impl_argTypes_l1.partial_correctness t x2
  _
  ?_
 ·intro _f_impl_argTypes_l1 ih_impl_argTypes_l1 i out o hF
  intro c hc Q hq
  obtain rfl : c = _ := navEq hc rfl
  refine ALoopU.know fun hk hs => ?_
  have b28 := hk 28
  simp -dsimp at b28
  have d2 := hs 2 _ rfl
  simp -dsimp [Blk.bnd] at d2
  clear hk hs
  refine ALoopU.enter ?_
  repeat (first | refine chk.ga ?_ | simp -dsimp)
  refine abr.split (fun h6 => ?_) (fun h6 => ?_)
  ·have q7 : (i < x2.args.length) := auq h6
   have z8 : ((i : Int) < (x2.args.length : Int)) := auz
   rw [if_pos q7] at hF
   have hF := ob hF; obtain ⟨x9, e10, hF⟩ := hF
   have le10 := lt_of_get e10
   repeat (first | refine chk.ga ?_ | simp -dsimp [h6, z8, ↓e10])
   refine abr.split (fun h11 => ?_) (fun h11 => ?_)
   ·have q12 : (x9.index = (-1)) := auq h11
    rw [if_pos q12] at hF
    have hF := oc hF; obtain ⟨c13, hF⟩ := hF
    have w14 : IntKind.i64.wrap ((i : Int) + 1) = (i : Int) + 1 := wrap_in (by omega) (by omega)
    repeat (first | refine chk.ga ?_ | simp -dsimp [h6, z8, ↓e10, h11, w14])
    refine Again.go _ ?_ ((ih_impl_argTypes_l1 (i + 1) (out ++ [(⟨x9.data, t.index⟩ : Vl.Ty)]) o hF) _ rfl _ hq)
    exact (Gh.to3 (by simp) (by first | simp -dsimp [h6, z8, ↓e10, h11, w14]; done | simp_all))
   ·have q12 : ¬ (x9.index = (-1)) := auq h11
    rw [if_neg q12] at hF
    have hF := oc hF; obtain ⟨c15, hF⟩ := hF
    have w16 : IntKind.i64.wrap ((i : Int) + 1) = (i : Int) + 1 := wrap_in (by omega) (by omega)
    repeat (first | refine chk.ga ?_ | simp -dsimp [h6, z8, ↓e10, h11, q12, w16])
    refine Again.go _ ?_ ((ih_impl_argTypes_l1 (i + 1) (out ++ [x9]) o hF) _ rfl _ hq)
    exact (Gh.to3 (by simp) (by first | simp -dsimp [h6, z8, ↓e10, h11, q12, w16]; done | simp_all))
  ·have q7 : ¬ (i < x2.args.length) := auq h6
   have z8 : ¬ ((i : Int) < (x2.args.length : Int)) := auz
   rw [if_neg q7] at hF
   cases hF
   repeat (first | refine chk.ga ?_ | simp -dsimp [h6, q7, z8])
   refine Leave.go ⟨[(9, .own 2 (List.length (α := Vl.Ty) out))], [.dead, .dead, .elems 2 (List.map Vl.Ty.c out)]⟩ (Gh.to3 (by simp) (by first | simp -dsimp [h6, q7, z8]; done | simp_all)) ?_
   exact hq

theorem CC.impl_argTypes_l2 (x2 : Vl.Ctor) : (∀ (i18 : Nat) (out19 : List Vl.Ty) (o : List Vl.Ty), F.impl_argTypes_l2 x2 i18 out19 = some o → ∀ (c : Code), navO [1, 1, 1, 1, 1, 0, 1, 0, 0] (bodyOf Try.f188) = some c → ∀ (Q : Exit → ASt → Prop), (Q (.exit 0) ⟨[(9, .own 2 (List.length (α := Vl.Ty) o))], [.dead, .dead, .elems 2 (List.map Vl.Ty.c o)]⟩) → ALoopU Try.prog B 0 45 (hold c .mk) ⟨[(8, .lit (.int .i64 x2.index)), (9, .own 2 (List.length (α := Vl.Ty) out19)), (28, .arr (List.map Vl.Ty.c x2.args)), (29, .lit (.int .i64 (x2.args.length : Int))), (30, .lit (.int .i64 (i18 : Int)))], [.dead, .dead, .elems 2 (List.map Vl.Ty.c out19)]⟩ (hold Q .mk)) := by
 refine F.impl_argTypes_l2.partial_correctness x2
  _
  ?_
 ·intro _f_impl_argTypes_l2 ih_impl_argTypes_l2 i18 out19 o hF
  intro c hc Q hq
  obtain rfl : c = _ := navEq hc rfl
  refine ALoopU.know fun hk hs => ?_
  have b28 := hk 28
  simp -dsimp at b28
  have d2 := hs 2 _ rfl
  simp -dsimp [Blk.bnd] at d2
  clear hk hs
  refine ALoopU.enter ?_
  repeat (first | refine chk.ga ?_ | simp -dsimp)
  refine abr.split (fun h20 => ?_) (fun h20 => ?_)
  ·have q21 : (i18 < x2.args.length) := auq h20
   have z22 : ((i18 : Int) < (x2.args.length : Int)) := auz
   rw [if_pos q21] at hF
   have hF := ob hF; obtain ⟨x23, e24, hF⟩ := hF
   have le24 := lt_of_get e24
   repeat (first | refine chk.ga ?_ | simp -dsimp [h20, z22, ↓e24])
   refine abr.split (fun h25 => ?_) (fun h25 => ?_)
   ·have q26 : (x23.index = (-1)) := auq h25
    rw [if_pos q26] at hF
    have hF := oc hF; obtain ⟨c27, hF⟩ := hF
    have w28 : IntKind.i64.wrap ((i18 : Int) + 1) = (i18 : Int) + 1 := wrap_in (by omega) (by omega)
    repeat (first | refine chk.ga ?_ | simp -dsimp [h20, z22, ↓e24, h25, w28])
    refine Again.go _ ?_ ((ih_impl_argTypes_l2 (i18 + 1) (out19 ++ [(⟨x23.data, x2.index⟩ : Vl.Ty)]) o hF) _ rfl _ hq)
    exact (Gh.to3 (by simp) (by first | simp -dsimp [h20, z22, ↓e24, h25, w28]; done | simp_all))
   ·have q26 : ¬ (x23.index = (-1)) := auq h25
    rw [if_neg q26] at hF
    have hF := oc hF; obtain ⟨c29, hF⟩ := hF
    have w30 : IntKind.i64.wrap ((i18 : Int) + 1) = (i18 : Int) + 1 := wrap_in (by omega) (by omega)
    repeat (first | refine chk.ga ?_ | simp -dsimp [h20, z22, ↓e24, h25, q26, w30])
    refine Again.go _ ?_ ((ih_impl_argTypes_l2 (i18 + 1) (out19 ++ [x23]) o hF) _ rfl _ hq)
    exact (Gh.to3 (by simp) (by first | simp -dsimp [h20, z22, ↓e24, h25, q26, w30]; done | simp_all))
  ·have q21 : ¬ (i18 < x2.args.length) := auq h20
   have z22 : ¬ ((i18 : Int) < (x2.args.length : Int)) := auz
   rw [if_neg q21] at hF
   cases hF
   repeat (first | refine chk.ga ?_ | simp -dsimp [h20, q21, z22])
   refine Leave.go ⟨[(9, .own 2 (List.length (α := Vl.Ty) out19))], [.dead, .dead, .elems 2 (List.map Vl.Ty.c out19)]⟩ (Gh.to3 (by simp) (by first | simp -dsimp [h20, q21, z22]; done | simp_all)) ?_
   exact hq

theorem C.impl_argTypes (w : List Vl.Data) (t : Vl.Ty) (ctor : Int) (r : List Vl.Ty) (hF : F.impl_argTypes w t ctor = some r) : PureCall Try.prog B 188 [.arr (List.map Vl.Data.c w), .agg [.lit (.int .i64 t.data), .lit (.int .i64 t.index)], .lit (.int .i64 ctor)] (.arr (List.map Vl.Ty.c r)) := by
 unfold F.impl_argTypes at hF
 refine PureCall.enterLe Try.func188 (by kernel_rfl) rfl Try.ntmps188 (by simp) (by simp) ?_
 have hF := ob hF; obtain ⟨x, e1a, hF⟩ := hF
 have e1a := at_some e1a; obtain ⟨ne1, e1⟩ := e1a
 have le1 := lt_of_get e1
 have hF := ob hF; obtain ⟨x2, e3a, hF⟩ := hF
 have e3a := at_some e3a; obtain ⟨ne3, e3⟩ := e3a
 have le3 := lt_of_get e3
 repeat (first | refine chk.ga ?_ | simp -dsimp [↓e1, ↓e3])
 refine abr.split (fun h4 => ?_) (fun h4 => ?_)
 ·have q5 : (x2.index = 0) := auq h4
  rw [if_pos q5] at hF
  repeat (first | refine chk.ga ?_ | simp -dsimp [↓e1, ↓e3, h4])
  have hF := ob hF; obtain ⟨o', ho17, hF⟩ := hF
  refine ALoop.goU ⟨[(8, .lit (.int .i64 t.index)), (9, .own 2 (List.length (α := Vl.Ty) [])), (28, .arr (List.map Vl.Ty.c x2.args)), (29, .lit (.int .i64 (x2.args.length : Int))), (30, .lit (.int .i64 (0 : Int)))], [.dead, .dead, .elems 2 (List.map Vl.Ty.c [])]⟩ (by refine Gh.trans (Gh.nil 9 2 (by simp -dsimp)) ?_; exact (Gh.to3 (by simp) (by first | simp -dsimp [↓e1, ↓e3, h4]; done | simp_all))) ?_
  refine ((CC.impl_argTypes_l1 B hB1 hB2 t x2) 0 [] o' ho17) _ rfl _ ?_
  cases hF
  repeat (first | refine chk.ga ?_ | simp -dsimp)
  all_goals (try first | omega | rfl)
 ·have q5 : ¬ (x2.index = 0) := auq h4
  rw [if_neg q5] at hF
  repeat (first | refine chk.ga ?_ | simp -dsimp [↓e1, ↓e3, h4, q5])
  have hF := ob hF; obtain ⟨o'32, ho31, hF⟩ := hF
  refine ALoop.goU ⟨[(8, .lit (.int .i64 x2.index)), (9, .own 2 (List.length (α := Vl.Ty) [])), (28, .arr (List.map Vl.Ty.c x2.args)), (29, .lit (.int .i64 (x2.args.length : Int))), (30, .lit (.int .i64 (0 : Int)))], [.dead, .dead, .elems 2 (List.map Vl.Ty.c [])]⟩ (by refine Gh.trans (Gh.nil 9 2 (by simp -dsimp)) ?_; exact (Gh.to3 (by simp) (by first | simp -dsimp [↓e1, ↓e3, h4, q5]; done | simp_all))) ?_
  refine ((CC.impl_argTypes_l2 B hB1 hB2 x2) 0 [] o'32 ho31) _ rfl _ ?_
  cases hF
  repeat (first | refine chk.ga ?_ | simp -dsimp)
  all_goals (try first | omega | rfl)

end Go.Proofs.Ytelglbenbnkjmaa
