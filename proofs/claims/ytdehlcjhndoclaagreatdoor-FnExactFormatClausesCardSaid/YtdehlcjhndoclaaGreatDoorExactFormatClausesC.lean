/- The contracts: the code computes the functions (printed by gen.py). -/
import Derived.Test.YtdehlcjhndoclaaGreatDoorProg
import Derived.Test.YtdehlcjhndoclaaGreatDoorExactFormatClausesF
import Derived.Test.YtdehlcjhndoclaaGreatDoorExactFormatClausesC1
import Derived.Test.YtdehlcjhndoclaaGreatDoorVlShelf
import Derived.Test.YtdehlcjhndoclaaGreatDoorShelf
namespace Go.Proofs.YtdehlcjhndoclaaGreatDoor
open Go Go.Proofs Go.Vl
set_option linter.unusedSimpArgs false
set_option linter.unusedVariables false
set_option linter.unusedSectionVars false
set_option maxRecDepth 100000
set_option maxHeartbeats 4000000

attribute [local irreducible] ECallA NCallA aL aLg AMake MLoop AgainM LeaveM awpM aopsM MutCall BCall chk abr ACall ALoop ALoopU ADraw Again Leave PCallA PCall Post awp aops PureCall hold

variable (B : Nat) (hB1 : 67108864 ≤ B) (hB2 : B ≤ 9223372036854775807)
include hB1 hB2

theorem C.impl_ctorOk (w : List Vl.Data) (c' : Vl.Ctor) (r : Bool) (hF : F.impl_ctorOk w c' = some r) : PureCall Tryz.prog B 118 [.arr (List.map Vl.Data.c w), .agg [.lit (.string c'.name), .arr (List.map Vl.Ty.c c'.args), .lit (.int .i64 c'.index)]] (.lit (.bool r)) := by
 unfold F.impl_ctorOk at hF
 refine PureCall.enterLe Tryz.func118 (by kernel_rfl) rfl Tryz.ntmps118 (by simp) (by simp) ?_
 repeat (first | refine chk.ga ?_ | simp -dsimp)
 have hF := ob hF; obtain ⟨v, e1, hF⟩ := hF
 refine ((C.impl_NameValid B hB1 hB2 c'.name v e1)).goW (by simp) (by simp) ?_
 repeat (first | refine chk.ga ?_ | simp -dsimp)
 refine abr.split (fun h2 => ?_) (fun h2 => ?_)
 ·have q3 : (v = true) := auq h2
  rw [if_pos q3] at hF
  repeat (first | refine chk.ga ?_ | simp -dsimp [h2])
  refine abr.split (fun h4 => ?_) (fun h4 => ?_)
  ·have q5 : (c'.args.length ≤ 3) := auq h4
   have z6 : ((c'.args.length : Int) ≤ (3 : Int)) := auz
   rw [if_pos q5] at hF
   repeat (first | refine chk.ga ?_ | simp -dsimp [h2, h4, z6])
   have hF := ob hF; obtain ⟨v7, e8, hF⟩ := hF
   refine ((C.impl_within B hB1 hB2 c'.index (0 : Int) (3 : Int) v7 e8)).goW (by first | simp [h2, h4, z6]; done | simp_all) (by simp) ?_
   repeat (first | refine chk.ga ?_ | simp -dsimp [h2, h4, z6])
   refine abr.split (fun h9 => ?_) (fun h9 => ?_)
   ·have q10 : (v7 = true) := auq h9
    rw [if_pos q10] at hF
    repeat (first | refine chk.ga ?_ | simp -dsimp [h2, h4, z6, h9])
    have hF := ob hF; obtain ⟨v11, e12, hF⟩ := hF
    refine ((C.slices_ContainsFunc_Type__impl_ctorOk_1 B hB1 hB2 c'.args w v11 e12)).lend (by first | simp -dsimp [h2, h4, z6, h9]; done | simp_all) (by simp -dsimp) ?_
    cases hF
    repeat (first | refine chk.ga ?_ | simp -dsimp [h2, h4, z6, h9])
    all_goals (try first | omega | rfl)
   ·have q10 : ¬ (v7 = true) := auq h9
    rw [if_neg q10] at hF
    cases hF
    repeat (first | refine chk.ga ?_ | simp -dsimp [h2, h4, z6, h9, q10])
    all_goals (try first | omega | rfl)
  ·have q5 : ¬ (c'.args.length ≤ 3) := auq h4
   have z6 : ¬ ((c'.args.length : Int) ≤ (3 : Int)) := auz
   rw [if_neg q5] at hF
   cases hF
   repeat (first | refine chk.ga ?_ | simp -dsimp [h2, h4, q5, z6])
   all_goals (try first | omega | rfl)
 ·have q3 : ¬ (v = true) := auq h2
  rw [if_neg q3] at hF
  cases hF
  repeat (first | refine chk.ga ?_ | simp -dsimp [h2, q3])
  all_goals (try first | omega | rfl)

theorem CC.impl_WorldValid_l2 (w : List Vl.Data) (met4 : List ByteArray) (i : Nat) (x : Vl.Data) : (∀ (met26 : List ByteArray) (i27 : Nat) (o : Lo Bool (List ByteArray)), F.impl_WorldValid_l2 w met4 i x met26 i27 = some o → ∀ (b1 b2 : Nat), ¬ b1 = b2 → ∀ (c : Code), navO [1, 1, 1, 1, 0, 1, 0, 0, 1, 1, 0, 0, 1, 1, 1, 1, 0, 0] (bodyOf Tryz.f83) = some c → ∀ (Q : Exit → ASt → Ms → Prop), o.post (fun r => ∀ st, Post Tryz.prog Tryz.f83 (fun r' _ => r' = (.lit (.bool r))) .ret st → ∀ ms, Q .ret st ms) (fun s => Q (.exit 2) ⟨[(0, .arr (List.map Vl.Data.c w)), (3, .lit (.map (some b1))), (4, .lit (.map (some b2))), (14, .arr (List.map Vl.Data.c w)), (15, .lit (.int .i64 (w.length : Int))), (16, .lit (.int .i64 (i : Int)))], []⟩ [(b1, s), (b2, msIns met4 x.name)]) → MLoop Tryz.prog B 79 (hold c .mk) ⟨[(0, .arr (List.map Vl.Data.c w)), (3, .lit (.map (some b1))), (4, .lit (.map (some b2))), (14, .arr (List.map Vl.Data.c w)), (15, .lit (.int .i64 (w.length : Int))), (16, .lit (.int .i64 (i : Int))), (58, .arr (List.map Vl.Ctor.c x.ctors)), (59, .lit (.int .i64 (x.ctors.length : Int))), (60, .lit (.int .i64 (i27 : Int)))], []⟩ [(b1, met26), (b2, msIns met4 x.name)] (hold Q .mk)) := by
 refine F.impl_WorldValid_l2.partial_correctness w met4 i x
  _
  ?_
 ·intro _f_impl_WorldValid_l2 ih_impl_WorldValid_l2 met26 i27 o hF
  intro b1 b2 hb2 c hc Q hq
  obtain rfl : c = _ := navEq hc rfl
  refine MLoop.know fun hk hs => ?_
  have b0 := hk 0
  simp -dsimp at b0
  have b14 := hk 14
  simp -dsimp at b14
  have b58 := hk 58
  simp -dsimp at b58
  clear hk hs
  refine MLoop.enter ?_
  repeat (first | refine chk.ga ?_ | simp -dsimp [hb2])
  refine abr.split (fun h28 => ?_) (fun h28 => ?_)
  ·have q29 : (i27 < x.ctors.length) := auq h28
   have z30 : ((i27 : Int) < (x.ctors.length : Int)) := auz
   rw [if_pos q29] at hF
   have hF := ob hF; obtain ⟨x31, e32, hF⟩ := hF
   have le32 := lt_of_get e32
   repeat (first | refine chk.ga ?_ | simp -dsimp [hb2, h28, z30, ↓e32])
   have hF := ob hF; obtain ⟨v33, e34, hF⟩ := hF
   refine ((C.impl_ctorOk B hB1 hB2 w x31 v33 e34)).goW (by first | simp [hb2, h28, z30, ↓e32]; done | simp_all) (by simp) ?_
   repeat (first | refine chk.ga ?_ | simp -dsimp [hb2, h28, z30, ↓e32])
   refine abr.split (fun h35 => ?_) (fun h35 => ?_)
   ·have q36 : (v33 = true) := auq h35
    rw [if_pos q36] at hF
    repeat (first | refine chk.ga ?_ | simp -dsimp [hb2, h28, z30, ↓e32, h35])
    refine abr.split (fun h37 => ?_) (fun h37 => ?_)
    ·have q38 : (dec (x31.name ∈ met26) = true) := auq h37
     rw [if_pos q38] at hF
     cases hF
     repeat (first | refine chk.ga ?_ | simp -dsimp [hb2, h28, z30, ↓e32, h35, h37])
     refine LeaveM.go _ (Gh.refl _) (hq _ ?_ _)
     repeat (first | refine chk.ga ?_ | simp -dsimp [hb2, h28, z30, ↓e32, h35, h37])
    ·have q38 : ¬ (dec (x31.name ∈ met26) = true) := auq h37
     rw [if_neg q38] at hF
     have w39 : IntKind.i64.wrap ((i27 : Int) + 1) = (i27 : Int) + 1 := wrap_in (by omega) (by omega)
     repeat (first | refine chk.ga ?_ | simp -dsimp [hb2, h28, z30, ↓e32, h35, h37, q38, w39])
     refine AgainM.go ⟨[(0, .arr (List.map Vl.Data.c w)), (3, .lit (.map (some b1))), (4, .lit (.map (some b2))), (14, .arr (List.map Vl.Data.c w)), (15, .lit (.int .i64 (w.length : Int))), (16, .lit (.int .i64 (i : Int))), (58, .arr (List.map Vl.Ctor.c x.ctors)), (59, .lit (.int .i64 (x.ctors.length : Int))), (60, .lit (.int .i64 ((i27 + 1) : Int)))], []⟩ (Gh.to3 (by simp) (by first | simp -dsimp [hb2, h28, z30, ↓e32, h35, h37, q38, w39]; done | simp_all)) ?_
     exact (ih_impl_WorldValid_l2 (msIns met26 x31.name) (i27 + 1) o hF) b1 b2 hb2 _ rfl _ hq
   ·have q36 : ¬ (v33 = true) := auq h35
    rw [if_neg q36] at hF
    cases hF
    repeat (first | refine chk.ga ?_ | simp -dsimp [hb2, h28, z30, ↓e32, h35, q36])
    refine LeaveM.go _ (Gh.refl _) (hq _ ?_ _)
    repeat (first | refine chk.ga ?_ | simp -dsimp [hb2, h28, z30, ↓e32, h35, q36])
  ·have q29 : ¬ (i27 < x.ctors.length) := auq h28
   have z30 : ¬ ((i27 : Int) < (x.ctors.length : Int)) := auz
   rw [if_neg q29] at hF
   cases hF
   repeat (first | refine chk.ga ?_ | simp -dsimp [hb2, h28, q29, z30])
   refine LeaveM.go ⟨[(0, .arr (List.map Vl.Data.c w)), (3, .lit (.map (some b1))), (4, .lit (.map (some b2))), (14, .arr (List.map Vl.Data.c w)), (15, .lit (.int .i64 (w.length : Int))), (16, .lit (.int .i64 (i : Int)))], []⟩ (Gh.to3 (by simp) (by first | simp -dsimp [hb2, h28, q29, z30]; done | simp_all)) ?_
   exact hq

theorem CC.impl_WorldValid_l1 (w : List Vl.Data) : (∀ (met : List ByteArray) (met4 : List ByteArray) (i : Nat) (o : Lo Bool ((List ByteArray) × (List ByteArray))), F.impl_WorldValid_l1 w met met4 i = some o → ∀ (b1 b2 : Nat), ¬ b1 = b2 → ∀ (c : Code), navO [1, 1, 1, 1, 0, 1, 0, 0] (bodyOf Tryz.f83) = some c → ∀ (Q : Exit → ASt → Ms → Prop), o.post (fun r => ∀ st, Post Tryz.prog Tryz.f83 (fun r' _ => r' = (.lit (.bool r))) .ret st → ∀ ms, Q .ret st ms) (fun s => Q (.exit 0) ⟨[], []⟩ [(b1, s.1), (b2, s.2)]) → MLoop Tryz.prog B 79 (hold c .mk) ⟨[(0, .arr (List.map Vl.Data.c w)), (3, .lit (.map (some b1))), (4, .lit (.map (some b2))), (14, .arr (List.map Vl.Data.c w)), (15, .lit (.int .i64 (w.length : Int))), (16, .lit (.int .i64 (i : Int)))], []⟩ [(b1, met), (b2, met4)] (hold Q .mk)) := by
 refine F.impl_WorldValid_l1.partial_correctness w
  _
  ?_
 ·intro _f_impl_WorldValid_l1 ih_impl_WorldValid_l1 met met4 i o hF
  intro b1 b2 hb2 c hc Q hq
  obtain rfl : c = _ := navEq hc rfl
  refine MLoop.know fun hk hs => ?_
  have b0 := hk 0
  simp -dsimp at b0
  have b14 := hk 14
  simp -dsimp at b14
  clear hk hs
  refine MLoop.enter ?_
  repeat (first | refine chk.ga ?_ | simp -dsimp [hb2])
  refine abr.split (fun h5 => ?_) (fun h5 => ?_)
  ·have q6 : (i < w.length) := auq h5
   have z7 : ((i : Int) < (w.length : Int)) := auz
   rw [if_pos q6] at hF
   have hF := ob hF; obtain ⟨x, e8, hF⟩ := hF
   have le8 := lt_of_get e8
   repeat (first | refine chk.ga ?_ | simp -dsimp [hb2, h5, z7, ↓e8])
   refine abr.split (fun h9 => ?_) (fun h9 => ?_)
   ·have q10 : (x.name.size = 1) := auq h9
    have z11 : ((x.name.size : Int) = (1 : Int)) := auz
    rw [if_pos q10] at hF
    have hF := oc hF; obtain ⟨c12, hF⟩ := hF
    repeat (first | refine chk.ga ?_ | simp -dsimp [hb2, h5, z7, ↓e8, h9, z11])
    refine abr.split (fun h13 => ?_) (fun h13 => ?_)
    ·have q14 : ¬ (byteAt x.name 0 < 65) := auq h13
     have z15 : ¬ (((byteAt x.name 0 : Nat) : Int) < (65 : Int)) := auz
     rw [if_neg q14] at hF
     repeat (first | refine chk.ga ?_ | simp -dsimp [hb2, h5, z7, ↓e8, h9, z11, h13, q14, z15])
     refine abr.split (fun h16 => ?_) (fun h16 => ?_)
     ·have q17 : ¬ (90 < byteAt x.name 0) := auq h16
      have z18 : ¬ ((90 : Int) < ((byteAt x.name 0 : Nat) : Int)) := auz
      rw [if_neg q17] at hF
      repeat (first | refine chk.ga ?_ | simp -dsimp [hb2, h5, z7, ↓e8, h9, z11, h13, q14, z15, h16, q17, z18])
      refine abr.split (fun h19 => ?_) (fun h19 => ?_)
      ·have q20 : ¬ (x.name.toList = (⟨#[73]⟩ : ByteArray).toList) := auq h19
       rw [if_neg q20] at hF
       repeat (first | refine chk.ga ?_ | simp -dsimp [hb2, h5, z7, ↓e8, h9, z11, h13, q14, z15, h16, q17, z18, h19, q20])
       refine abr.split (fun h21 => ?_) (fun h21 => ?_)
       ·have q22 : ¬ (dec (x.name ∈ met4) = true) := auq h21
        rw [if_neg q22] at hF
        repeat (first | refine chk.ga ?_ | simp -dsimp [hb2, h5, z7, ↓e8, h9, z11, h13, q14, z15, h16, q17, z18, h19, q20, h21, q22])
        have hF := ob hF; obtain ⟨v, e23, hF⟩ := hF
        refine ((C.impl_within B hB1 hB2 (x.ctors.length : Int) (1 : Int) (4 : Int) v e23)).goW (by first | simp [hb2, h5, z7, ↓e8, h9, z11, h13, q14, z15, h16, q17, z18, h19, q20, h21, q22]; done | simp_all) (by simp) ?_
        repeat (first | refine chk.ga ?_ | simp -dsimp [hb2, h5, z7, ↓e8, h9, z11, h13, q14, z15, h16, q17, z18, h19, q20, h21, q22])
        refine abr.split (fun h24 => ?_) (fun h24 => ?_)
        ·have q25 : ¬ (v = true) := auq h24
         rw [if_neg q25] at hF
         cases hF
         repeat (first | refine chk.ga ?_ | simp -dsimp [hb2, h5, z7, ↓e8, h9, z11, h13, q14, z15, h16, q17, z18, h19, q20, h21, q22, h24, q25])
         refine LeaveM.go _ (Gh.refl _) (hq _ ?_ _)
         repeat (first | refine chk.ga ?_ | simp -dsimp [hb2, h5, z7, ↓e8, h9, z11, h13, q14, z15, h16, q17, z18, h19, q20, h21, q22, h24, q25])
        ·have q25 : (v = true) := auq h24
         rw [if_pos q25] at hF
         repeat (first | refine chk.ga ?_ | simp -dsimp [hb2, h5, z7, ↓e8, h9, z11, h13, q14, z15, h16, q17, z18, h19, q20, h21, q22, h24, q25])
         have hF := ob hF; obtain ⟨o', ho40, hF⟩ := hF
         refine MLoop.goU ⟨[(0, .arr (List.map Vl.Data.c w)), (3, .lit (.map (some b1))), (4, .lit (.map (some b2))), (14, .arr (List.map Vl.Data.c w)), (15, .lit (.int .i64 (w.length : Int))), (16, .lit (.int .i64 (i : Int))), (58, .arr (List.map Vl.Ctor.c x.ctors)), (59, .lit (.int .i64 (x.ctors.length : Int))), (60, .lit (.int .i64 (0 : Int)))], []⟩ (Gh.to3 (by simp) (by first | simp -dsimp [hb2, h5, z7, ↓e8, h9, z11, h13, q14, z15, h16, q17, z18, h19, q20, h21, q22, h24, q25]; done | simp_all)) ?_
         refine ((CC.impl_WorldValid_l2 B hB1 hB2 w met4 i x) met 0 o' ho40) b1 b2 hb2 _ rfl _ ?_
         rcases o' with r0 | sx
         ·dsimp only at hF
          cases hF
          intro st h ms
          simp -dsimp
          refine LeaveM.go st (Gh.refl _) (hq st h ms)
         ·dsimp only at hF
          have hF := oc hF; obtain ⟨c41, hF⟩ := hF
          have w42 : IntKind.i64.wrap ((i : Int) + 1) = (i : Int) + 1 := wrap_in (by omega) (by omega)
          repeat (first | refine chk.ga ?_ | simp -dsimp [w42])
          refine AgainM.go ⟨[(0, .arr (List.map Vl.Data.c w)), (3, .lit (.map (some b1))), (4, .lit (.map (some b2))), (14, .arr (List.map Vl.Data.c w)), (15, .lit (.int .i64 (w.length : Int))), (16, .lit (.int .i64 ((i + 1) : Int)))], []⟩ (Gh.to3 (by simp) (by first | simp -dsimp [w42]; done | simp_all)) ?_
          exact (ih_impl_WorldValid_l1 sx (msIns met4 x.name) (i + 1) o hF) b1 b2 hb2 _ rfl _ hq
       ·have q22 : (dec (x.name ∈ met4) = true) := auq h21
        rw [if_pos q22] at hF
        cases hF
        repeat (first | refine chk.ga ?_ | simp -dsimp [hb2, h5, z7, ↓e8, h9, z11, h13, q14, z15, h16, q17, z18, h19, q20, h21, q22])
        refine LeaveM.go _ (Gh.refl _) (hq _ ?_ _)
        repeat (first | refine chk.ga ?_ | simp -dsimp [hb2, h5, z7, ↓e8, h9, z11, h13, q14, z15, h16, q17, z18, h19, q20, h21, q22])
      ·have q20 : (x.name.toList = (⟨#[73]⟩ : ByteArray).toList) := auq h19
       rw [if_pos q20] at hF
       cases hF
       repeat (first | refine chk.ga ?_ | simp -dsimp [hb2, h5, z7, ↓e8, h9, z11, h13, q14, z15, h16, q17, z18, h19, q20])
       refine LeaveM.go _ (Gh.refl _) (hq _ ?_ _)
       repeat (first | refine chk.ga ?_ | simp -dsimp [hb2, h5, z7, ↓e8, h9, z11, h13, q14, z15, h16, q17, z18, h19, q20])
     ·have q17 : (90 < byteAt x.name 0) := auq h16
      have z18 : ((90 : Int) < ((byteAt x.name 0 : Nat) : Int)) := auz
      rw [if_pos q17] at hF
      cases hF
      repeat (first | refine chk.ga ?_ | simp -dsimp [hb2, h5, z7, ↓e8, h9, z11, h13, q14, z15, h16, q17, z18])
      refine LeaveM.go _ (Gh.refl _) (hq _ ?_ _)
      repeat (first | refine chk.ga ?_ | simp -dsimp [hb2, h5, z7, ↓e8, h9, z11, h13, q14, z15, h16, q17, z18])
    ·have q14 : (byteAt x.name 0 < 65) := auq h13
     have z15 : (((byteAt x.name 0 : Nat) : Int) < (65 : Int)) := auz
     rw [if_pos q14] at hF
     cases hF
     repeat (first | refine chk.ga ?_ | simp -dsimp [hb2, h5, z7, ↓e8, h9, z11, h13, q14, z15])
     refine LeaveM.go _ (Gh.refl _) (hq _ ?_ _)
     repeat (first | refine chk.ga ?_ | simp -dsimp [hb2, h5, z7, ↓e8, h9, z11, h13, q14, z15])
   ·have q10 : ¬ (x.name.size = 1) := auq h9
    have z11 : ¬ ((x.name.size : Int) = (1 : Int)) := auz
    rw [if_neg q10] at hF
    cases hF
    repeat (first | refine chk.ga ?_ | simp -dsimp [hb2, h5, z7, ↓e8, h9, q10, z11])
    refine LeaveM.go _ (Gh.refl _) (hq _ ?_ _)
    repeat (first | refine chk.ga ?_ | simp -dsimp [hb2, h5, z7, ↓e8, h9, q10, z11])
  ·have q6 : ¬ (i < w.length) := auq h5
   have z7 : ¬ ((i : Int) < (w.length : Int)) := auz
   rw [if_neg q6] at hF
   cases hF
   repeat (first | refine chk.ga ?_ | simp -dsimp [hb2, h5, q6, z7])
   refine LeaveM.go ⟨[], []⟩ (Gh.to3 (by simp) (by first | simp -dsimp [hb2, h5, q6, z7]; done | simp_all)) ?_
   exact hq

theorem C.impl_WorldValid (w : List Vl.Data) (r : Bool) (hF : F.impl_WorldValid w = some r) : PureCall Tryz.prog B 83 [.arr (List.map Vl.Data.c w)] (.lit (.bool r)) := by
 unfold F.impl_WorldValid at hF
 refine PureCall.enterM Tryz.func83 (by kernel_rfl) rfl Tryz.ntmps83 (by simp) ?_
 repeat (first | refine chk.ga ?_ | simp -dsimp)
 refine abr.split (fun h1 => ?_) (fun h1 => ?_)
 ·have q2 : (4 < w.length) := auq h1
  have z3 : ((4 : Int) < (w.length : Int)) := auz
  rw [if_pos q2] at hF
  cases hF
  repeat (first | refine chk.ga ?_ | simp -dsimp [h1, z3])
  all_goals (try first | omega | rfl)
 ·have q2 : ¬ (4 < w.length) := auq h1
  have z3 : ¬ ((4 : Int) < (w.length : Int)) := auz
  rw [if_neg q2] at hF
  repeat (first | refine chk.ga ?_ | simp -dsimp [h1, q2, z3])
  refine AMake.go fun b1 hb1 => ?_
  repeat (first | refine chk.ga ?_ | simp -dsimp [h1, q2, z3])
  refine AMake.go fun b2 hb2 => ?_
  simp at hb2
  repeat (first | refine chk.ga ?_ | simp -dsimp [h1, q2, z3, hb2])
  have hF := ob hF; obtain ⟨o'44, ho43, hF⟩ := hF
  refine MLoop.goU ⟨[(0, .arr (List.map Vl.Data.c w)), (3, .lit (.map (some b1))), (4, .lit (.map (some b2))), (14, .arr (List.map Vl.Data.c w)), (15, .lit (.int .i64 (w.length : Int))), (16, .lit (.int .i64 (0 : Int)))], []⟩ (Gh.to3 (by simp) (by first | simp -dsimp [h1, q2, z3, hb2]; done | simp_all)) ?_
  refine ((CC.impl_WorldValid_l1 B hB1 hB2 w) [] [] 0 o'44 ho43) b1 b2 hb2 _ rfl _ ?_
  rcases o'44 with r046 | sx45
  ·dsimp only at hF
   cases hF
   intro st h ms
   simpa using h
  ·dsimp only at hF
   cases hF
   repeat (first | refine chk.ga ?_ | simp -dsimp)
   all_goals (try first | omega | rfl)

theorem C.impl_typeOk (w : List Vl.Data) (t : Vl.Ty) (r : Bool) (hF : F.impl_typeOk w t = some r) : PureCall Tryz.prog B 84 [.arr (List.map Vl.Data.c w), .agg [.lit (.int .i64 t.data), .lit (.int .i64 t.index)]] (.lit (.bool r)) := by
 unfold F.impl_typeOk at hF
 refine PureCall.enterLe Tryz.func84 (by kernel_rfl) rfl Tryz.ntmps84 (by simp) (by simp) ?_
 repeat (first | refine chk.ga ?_ | simp -dsimp)
 refine abr.split (fun h1 => ?_) (fun h1 => ?_)
 ·have q2 : ¬ (dec (eq2 (t.data, t.index) ((-1), 0)) = true) := auq h1
  rw [if_neg q2] at hF
  repeat (first | refine chk.ga ?_ | simp -dsimp [h1, q2])
  have hF := ob hF; obtain ⟨v, e3, hF⟩ := hF
  refine ((C.impl_within B hB1 hB2 t.data (0 : Int) (IntKind.i64.wrap ((w.length : Int) - 1)) v e3)).goW (by first | simp [h1, q2]; done | simp_all) (by simp) ?_
  repeat (first | refine chk.ga ?_ | simp -dsimp [h1, q2])
  refine abr.split (fun h4 => ?_) (fun h4 => ?_)
  ·have q5 : (v = true) := auq h4
   rw [if_pos q5] at hF
   repeat (first | refine chk.ga ?_ | simp -dsimp [h1, q2, h4])
   have hF := ob hF; obtain ⟨v6, e7, hF⟩ := hF
   refine ((C.impl_within B hB1 hB2 t.index (0 : Int) (3 : Int) v6 e7)).goW (by first | simp [h1, q2, h4]; done | simp_all) (by simp) ?_
   cases hF
   repeat (first | refine chk.ga ?_ | simp -dsimp [h1, q2, h4])
   all_goals (try first | omega | rfl)
  ·have q5 : ¬ (v = true) := auq h4
   rw [if_neg q5] at hF
   cases hF
   repeat (first | refine chk.ga ?_ | simp -dsimp [h1, q2, h4, q5])
   all_goals (try first | omega | rfl)
 ·have q2 : (dec (eq2 (t.data, t.index) ((-1), 0)) = true) := auq h1
  rw [if_pos q2] at hF
  cases hF
  repeat (first | refine chk.ga ?_ | simp -dsimp [h1, q2])
  all_goals (try first | omega | rfl)

theorem C.impl_TypeValid (w : List Vl.Data) (t : Vl.Ty) (r : Bool) (hF : F.impl_TypeValid w t = some r) : PureCall Tryz.prog B 53 [.arr (List.map Vl.Data.c w), .agg [.lit (.int .i64 t.data), .lit (.int .i64 t.index)]] (.lit (.bool r)) := by
 unfold F.impl_TypeValid at hF
 refine PureCall.enterLe Tryz.func53 (by kernel_rfl) rfl Tryz.ntmps53 (by simp) (by simp) ?_
 repeat (first | refine chk.ga ?_ | simp -dsimp)
 have hF := ob hF; obtain ⟨v, e1, hF⟩ := hF
 refine ((C.impl_WorldValid B hB1 hB2 w v e1)).goW (by simp) (by simp) ?_
 repeat (first | refine chk.ga ?_ | simp -dsimp)
 refine abr.split (fun h2 => ?_) (fun h2 => ?_)
 ·have q3 : (v = true) := auq h2
  rw [if_pos q3] at hF
  repeat (first | refine chk.ga ?_ | simp -dsimp [h2])
  have hF := ob hF; obtain ⟨v4, e5, hF⟩ := hF
  refine ((C.impl_typeOk B hB1 hB2 w t v4 e5)).goW (by first | simp [h2]; done | simp_all) (by simp) ?_
  cases hF
  repeat (first | refine chk.ga ?_ | simp -dsimp [h2])
  all_goals (try first | omega | rfl)
 ·have q3 : ¬ (v = true) := auq h2
  rw [if_neg q3] at hF
  cases hF
  repeat (first | refine chk.ga ?_ | simp -dsimp [h2, q3])
  all_goals (try first | omega | rfl)

theorem C.impl_only (p : Vl.Pattern) (ctor : Bool) (numbers : Bool) (variable' : Bool) (kids : Int) (r : Bool) (hF : F.impl_only p ctor numbers variable' kids = some r) : PureCall Tryz.prog B 156 [.agg [.lit (.int .i64 p.op), .lit (.int .i64 p.ctor), .lit (.int .i64 p.n), .lit (.int .i64 p.m), .lit (.int .i64 p.var), .arr (List.map Vl.Pattern.c p.kids)], .lit (.bool ctor), .lit (.bool numbers), .lit (.bool variable'), .lit (.int .i64 kids)] (.lit (.bool r)) := by
 unfold F.impl_only at hF
 refine PureCall.enterLe Tryz.func156 (by kernel_rfl) rfl Tryz.ntmps156 (by simp) (by simp) ?_
 repeat (first | refine chk.ga ?_ | simp -dsimp)
 refine abr.split (fun h1 => ?_) (fun h1 => ?_)
 ·have q2 : ¬ (ctor = true) := auq h1
  rw [if_neg q2] at hF
  repeat (first | refine chk.ga ?_ | simp -dsimp [h1, q2])
  refine abr.split (fun h3 => ?_) (fun h3 => ?_)
  ·have q4 : (p.ctor = 0) := auq h3
   rw [if_pos q4] at hF
   repeat (first | refine chk.ga ?_ | simp -dsimp [h1, q2, h3])
   refine abr.split (fun h5 => ?_) (fun h5 => ?_)
   ·have q6 : ¬ (numbers = true) := auq h5
    rw [if_neg q6] at hF
    repeat (first | refine chk.ga ?_ | simp -dsimp [h1, q2, h3, h5, q6])
    refine abr.split (fun h7 => ?_) (fun h7 => ?_)
    ·have q8 : (p.n = 0) := auq h7
     rw [if_pos q8] at hF
     repeat (first | refine chk.ga ?_ | simp -dsimp [h1, q2, h3, h5, q6, h7])
     refine abr.split (fun h9 => ?_) (fun h9 => ?_)
     ·have q10 : (p.m = 0) := auq h9
      rw [if_pos q10] at hF
      repeat (first | refine chk.ga ?_ | simp -dsimp [h1, q2, h3, h5, q6, h7, h9])
      refine abr.split (fun h11 => ?_) (fun h11 => ?_)
      ·have q12 : ¬ (variable' = true) := auq h11
       rw [if_neg q12] at hF
       repeat (first | refine chk.ga ?_ | simp -dsimp [h1, q2, h3, h5, q6, h7, h9, h11, q12])
       refine abr.split (fun h13 => ?_) (fun h13 => ?_)
       ·have q14 : (p.var = 0) := auq h13
        rw [if_pos q14] at hF
        cases hF
        repeat (first | refine chk.ga ?_ | simp -dsimp [h1, q2, h3, h5, q6, h7, h9, h11, q12, h13])
        all_goals (try first | omega | rfl)
       ·have q14 : ¬ (p.var = 0) := auq h13
        rw [if_neg q14] at hF
        cases hF
        repeat (first | refine chk.ga ?_ | simp -dsimp [h1, q2, h3, h5, q6, h7, h9, h11, q12, h13, q14])
        all_goals (try first | omega | rfl)
      ·have q12 : (variable' = true) := auq h11
       rw [if_pos q12] at hF
       cases hF
       repeat (first | refine chk.ga ?_ | simp -dsimp [h1, q2, h3, h5, q6, h7, h9, h11, q12])
       all_goals (try first | omega | rfl)
     ·have q10 : ¬ (p.m = 0) := auq h9
      rw [if_neg q10] at hF
      cases hF
      repeat (first | refine chk.ga ?_ | simp -dsimp [h1, q2, h3, h5, q6, h7, h9, q10])
      all_goals (try first | omega | rfl)
    ·have q8 : ¬ (p.n = 0) := auq h7
     rw [if_neg q8] at hF
     cases hF
     repeat (first | refine chk.ga ?_ | simp -dsimp [h1, q2, h3, h5, q6, h7, q8])
     all_goals (try first | omega | rfl)
   ·have q6 : (numbers = true) := auq h5
    rw [if_pos q6] at hF
    repeat (first | refine chk.ga ?_ | simp -dsimp [h1, q2, h3, h5, q6])
    refine abr.split (fun h15 => ?_) (fun h15 => ?_)
    ·have q16 : ¬ (variable' = true) := auq h15
     rw [if_neg q16] at hF
     repeat (first | refine chk.ga ?_ | simp -dsimp [h1, q2, h3, h5, q6, h15, q16])
     refine abr.split (fun h17 => ?_) (fun h17 => ?_)
     ·have q18 : (p.var = 0) := auq h17
      rw [if_pos q18] at hF
      cases hF
      repeat (first | refine chk.ga ?_ | simp -dsimp [h1, q2, h3, h5, q6, h15, q16, h17])
      all_goals (try first | omega | rfl)
     ·have q18 : ¬ (p.var = 0) := auq h17
      rw [if_neg q18] at hF
      cases hF
      repeat (first | refine chk.ga ?_ | simp -dsimp [h1, q2, h3, h5, q6, h15, q16, h17, q18])
      all_goals (try first | omega | rfl)
    ·have q16 : (variable' = true) := auq h15
     rw [if_pos q16] at hF
     cases hF
     repeat (first | refine chk.ga ?_ | simp -dsimp [h1, q2, h3, h5, q6, h15, q16])
     all_goals (try first | omega | rfl)
  ·have q4 : ¬ (p.ctor = 0) := auq h3
   rw [if_neg q4] at hF
   cases hF
   repeat (first | refine chk.ga ?_ | simp -dsimp [h1, q2, h3, q4])
   all_goals (try first | omega | rfl)
 ·have q2 : (ctor = true) := auq h1
  rw [if_pos q2] at hF
  repeat (first | refine chk.ga ?_ | simp -dsimp [h1, q2])
  refine abr.split (fun h19 => ?_) (fun h19 => ?_)
  ·have q20 : ¬ (numbers = true) := auq h19
   rw [if_neg q20] at hF
   repeat (first | refine chk.ga ?_ | simp -dsimp [h1, q2, h19, q20])
   refine abr.split (fun h21 => ?_) (fun h21 => ?_)
   ·have q22 : (p.n = 0) := auq h21
    rw [if_pos q22] at hF
    repeat (first | refine chk.ga ?_ | simp -dsimp [h1, q2, h19, q20, h21])
    refine abr.split (fun h23 => ?_) (fun h23 => ?_)
    ·have q24 : (p.m = 0) := auq h23
     rw [if_pos q24] at hF
     repeat (first | refine chk.ga ?_ | simp -dsimp [h1, q2, h19, q20, h21, h23])
     refine abr.split (fun h25 => ?_) (fun h25 => ?_)
     ·have q26 : ¬ (variable' = true) := auq h25
      rw [if_neg q26] at hF
      repeat (first | refine chk.ga ?_ | simp -dsimp [h1, q2, h19, q20, h21, h23, h25, q26])
      refine abr.split (fun h27 => ?_) (fun h27 => ?_)
      ·have q28 : (p.var = 0) := auq h27
       rw [if_pos q28] at hF
       cases hF
       repeat (first | refine chk.ga ?_ | simp -dsimp [h1, q2, h19, q20, h21, h23, h25, q26, h27])
       all_goals (try first | omega | rfl)
      ·have q28 : ¬ (p.var = 0) := auq h27
       rw [if_neg q28] at hF
       cases hF
       repeat (first | refine chk.ga ?_ | simp -dsimp [h1, q2, h19, q20, h21, h23, h25, q26, h27, q28])
       all_goals (try first | omega | rfl)
     ·have q26 : (variable' = true) := auq h25
      rw [if_pos q26] at hF
      cases hF
      repeat (first | refine chk.ga ?_ | simp -dsimp [h1, q2, h19, q20, h21, h23, h25, q26])
      all_goals (try first | omega | rfl)
    ·have q24 : ¬ (p.m = 0) := auq h23
     rw [if_neg q24] at hF
     cases hF
     repeat (first | refine chk.ga ?_ | simp -dsimp [h1, q2, h19, q20, h21, h23, q24])
     all_goals (try first | omega | rfl)
   ·have q22 : ¬ (p.n = 0) := auq h21
    rw [if_neg q22] at hF
    cases hF
    repeat (first | refine chk.ga ?_ | simp -dsimp [h1, q2, h19, q20, h21, q22])
    all_goals (try first | omega | rfl)
  ·have q20 : (numbers = true) := auq h19
   rw [if_pos q20] at hF
   repeat (first | refine chk.ga ?_ | simp -dsimp [h1, q2, h19, q20])
   refine abr.split (fun h29 => ?_) (fun h29 => ?_)
   ·have q30 : ¬ (variable' = true) := auq h29
    rw [if_neg q30] at hF
    repeat (first | refine chk.ga ?_ | simp -dsimp [h1, q2, h19, q20, h29, q30])
    refine abr.split (fun h31 => ?_) (fun h31 => ?_)
    ·have q32 : (p.var = 0) := auq h31
     rw [if_pos q32] at hF
     cases hF
     repeat (first | refine chk.ga ?_ | simp -dsimp [h1, q2, h19, q20, h29, q30, h31])
     all_goals (try first | omega | rfl)
    ·have q32 : ¬ (p.var = 0) := auq h31
     rw [if_neg q32] at hF
     cases hF
     repeat (first | refine chk.ga ?_ | simp -dsimp [h1, q2, h19, q20, h29, q30, h31, q32])
     all_goals (try first | omega | rfl)
   ·have q30 : (variable' = true) := auq h29
    rw [if_pos q30] at hF
    cases hF
    repeat (first | refine chk.ga ?_ | simp -dsimp [h1, q2, h19, q20, h29, q30])
    all_goals (try first | omega | rfl)

theorem C.impl_isVar (v : Int) (r : Bool) (hF : F.impl_isVar v = some r) : PureCall Tryz.prog B 87 [.lit (.int .i64 v)] (.lit (.bool r)) := by
 unfold F.impl_isVar at hF
 refine PureCall.enterLe Tryz.func87 (by kernel_rfl) rfl Tryz.ntmps87 (by simp) (by simp) ?_
 repeat (first | refine chk.ga ?_ | simp -dsimp)
 have hF := ob hF; obtain ⟨v1, e2, hF⟩ := hF
 refine ((C.impl_within B hB1 hB2 v (0 : Int) (5 : Int) v1 e2)).goW (by simp) (by simp) ?_
 cases hF
 repeat (first | refine chk.ga ?_ | simp -dsimp)
 all_goals (try first | omega | rfl)

theorem CC.impl_ctorsOf_l1 (t : Vl.Ty) (x : Vl.Data) : (∀ (i : Nat) (out : List Int) (o : List Int), F.impl_ctorsOf_l1 t x i out = some o → ∀ (c : Code), navO [1, 1, 0, 1, 0, 1, 0, 0] (bodyOf Tryz.f93) = some c → ∀ (Q : Exit → ASt → Prop), (Q (.exit 0) ⟨[(5, .own 1 (List.length (α := Int) o))], [.dead, .elems 1 (List.map cI o)]⟩) → ALoopU Tryz.prog B 0 44 (hold c .mk) ⟨[(3, .ptr 0 0), (5, .own 1 (List.length (α := Int) out)), (16, .arr (List.map Vl.Ctor.c x.ctors)), (17, .lit (.int .i64 (x.ctors.length : Int))), (18, .lit (.int .i64 (i : Int)))], [.cells [.lit (.int .i64 t.data), .lit (.int .i64 t.index)], .elems 1 (List.map cI out)]⟩ (hold Q .mk)) := by
 refine F.impl_ctorsOf_l1.partial_correctness t x
  _
  ?_
 ·intro _f_impl_ctorsOf_l1 ih_impl_ctorsOf_l1 i out o hF
  intro c hc Q hq
  obtain rfl : c = _ := navEq hc rfl
  refine ALoopU.know fun hk hs => ?_
  have b16 := hk 16
  simp -dsimp at b16
  have d1 := hs 1 _ rfl
  simp -dsimp [Blk.bnd] at d1
  clear hk hs
  refine ALoopU.enter ?_
  repeat (first | refine chk.ga ?_ | simp -dsimp)
  refine abr.split (fun h4 => ?_) (fun h4 => ?_)
  ·have q5 : (i < x.ctors.length) := auq h4
   have z6 : ((i : Int) < (x.ctors.length : Int)) := auz
   rw [if_pos q5] at hF
   have hF := ob hF; obtain ⟨x7, e8, hF⟩ := hF
   have le8 := lt_of_get e8
   repeat (first | refine chk.ga ?_ | simp -dsimp [h4, z6, ↓e8])
   refine abr.split (fun h9 => ?_) (fun h9 => ?_)
   ·have q10 : ¬ (t.index = 0) := auq h9
    rw [if_neg q10] at hF
    repeat (first | refine chk.ga ?_ | simp -dsimp [h4, z6, ↓e8, h9, q10])
    refine abr.split (fun h11 => ?_) (fun h11 => ?_)
    ·have q12 : ¬ (x7.index = 0) := auq h11
     rw [if_neg q12] at hF
     repeat (first | refine chk.ga ?_ | simp -dsimp [h4, z6, ↓e8, h9, q10, h11, q12])
     refine abr.split (fun h13 => ?_) (fun h13 => ?_)
     ·have q14 : (x7.index = t.index) := auq h13
      rw [if_pos q14] at hF
      have hF := oc hF; obtain ⟨c15, hF⟩ := hF
      have w16 : IntKind.i64.wrap ((i : Int) + 1) = (i : Int) + 1 := wrap_in (by omega) (by omega)
      repeat (first | refine chk.ga ?_ | simp -dsimp [h4, z6, ↓e8, h9, q10, h11, q12, h13, w16])
      refine Again.go _ ?_ ((ih_impl_ctorsOf_l1 (i + 1) (out ++ [(i : Int)]) o hF) _ rfl _ hq)
      exact (Gh.to3 (by simp) (by first | simp -dsimp [h4, z6, ↓e8, h9, q10, h11, q12, h13, w16]; done | simp_all))
     ·have q14 : ¬ (x7.index = t.index) := auq h13
      rw [if_neg q14] at hF
      have w17 : IntKind.i64.wrap ((i : Int) + 1) = (i : Int) + 1 := wrap_in (by omega) (by omega)
      repeat (first | refine chk.ga ?_ | simp -dsimp [h4, z6, ↓e8, h9, q10, h11, q12, h13, q14, w17])
      refine Again.go _ ?_ ((ih_impl_ctorsOf_l1 (i + 1) out o hF) _ rfl _ hq)
      exact (Gh.to3 (by simp) (by first | simp -dsimp [h4, z6, ↓e8, h9, q10, h11, q12, h13, q14, w17]; done | simp_all))
    ·have q12 : (x7.index = 0) := auq h11
     rw [if_pos q12] at hF
     have hF := oc hF; obtain ⟨c18, hF⟩ := hF
     have w19 : IntKind.i64.wrap ((i : Int) + 1) = (i : Int) + 1 := wrap_in (by omega) (by omega)
     repeat (first | refine chk.ga ?_ | simp -dsimp [h4, z6, ↓e8, h9, q10, h11, q12, w19])
     refine Again.go _ ?_ ((ih_impl_ctorsOf_l1 (i + 1) (out ++ [(i : Int)]) o hF) _ rfl _ hq)
     exact (Gh.to3 (by simp) (by first | simp -dsimp [h4, z6, ↓e8, h9, q10, h11, q12, w19]; done | simp_all))
   ·have q10 : (t.index = 0) := auq h9
    rw [if_pos q10] at hF
    have hF := oc hF; obtain ⟨c20, hF⟩ := hF
    have w21 : IntKind.i64.wrap ((i : Int) + 1) = (i : Int) + 1 := wrap_in (by omega) (by omega)
    repeat (first | refine chk.ga ?_ | simp -dsimp [h4, z6, ↓e8, h9, q10, w21])
    refine Again.go _ ?_ ((ih_impl_ctorsOf_l1 (i + 1) (out ++ [(i : Int)]) o hF) _ rfl _ hq)
    exact (Gh.to3 (by simp) (by first | simp -dsimp [h4, z6, ↓e8, h9, q10, w21]; done | simp_all))
  ·have q5 : ¬ (i < x.ctors.length) := auq h4
   have z6 : ¬ ((i : Int) < (x.ctors.length : Int)) := auz
   rw [if_neg q5] at hF
   cases hF
   repeat (first | refine chk.ga ?_ | simp -dsimp [h4, q5, z6])
   refine Leave.go ⟨[(5, .own 1 (List.length (α := Int) out))], [.dead, .elems 1 (List.map cI out)]⟩ (Gh.to3 (by simp) (by first | simp -dsimp [h4, q5, z6]; done | simp_all)) ?_
   exact hq

theorem C.impl_ctorsOf (w : List Vl.Data) (t : Vl.Ty) (r : List Int) (hF : F.impl_ctorsOf w t = some r) : PureCall Tryz.prog B 93 [.arr (List.map Vl.Data.c w), .agg [.lit (.int .i64 t.data), .lit (.int .i64 t.index)]] (.arr (List.map cI r)) := by
 unfold F.impl_ctorsOf at hF
 refine PureCall.enterLe Tryz.func93 (by kernel_rfl) rfl Tryz.ntmps93 (by simp) (by simp) ?_
 repeat (first | refine chk.ga ?_ | simp -dsimp)
 refine abr.split (fun h1 => ?_) (fun h1 => ?_)
 ·have q2 : ¬ (t.data = (-1)) := auq h1
  rw [if_neg q2] at hF
  have hF := ob hF; obtain ⟨x, e3a, hF⟩ := hF
  have e3a := at_some e3a; obtain ⟨ne3, e3⟩ := e3a
  have le3 := lt_of_get e3
  repeat (first | refine chk.ga ?_ | simp -dsimp [h1, q2, ↓e3])
  have hF := ob hF; obtain ⟨o', ho22, hF⟩ := hF
  refine ALoop.goU ⟨[(3, .ptr 0 0), (5, .own 1 (List.length (α := Int) [])), (16, .arr (List.map Vl.Ctor.c x.ctors)), (17, .lit (.int .i64 (x.ctors.length : Int))), (18, .lit (.int .i64 (0 : Int)))], [.cells [.lit (.int .i64 t.data), .lit (.int .i64 t.index)], .elems 1 (List.map cI [])]⟩ (by refine Gh.trans (Gh.nil 5 1 (by simp -dsimp)) ?_; exact (Gh.to3 (by simp) (by first | simp -dsimp [h1, q2, ↓e3]; done | simp_all))) ?_
  refine ((CC.impl_ctorsOf_l1 B hB1 hB2 t x) 0 [] o' ho22) _ rfl _ ?_
  cases hF
  repeat (first | refine chk.ga ?_ | simp -dsimp)
  all_goals (try first | omega | rfl)
 ·have q2 : (t.data = (-1)) := auq h1
  rw [if_pos q2] at hF
  cases hF
  repeat (first | refine chk.ga ?_ | simp -dsimp [h1, q2])
  all_goals (try first | omega | rfl)

theorem CC.slices_Index_int_l1 (s : List Int) (v : Int) : (∀ (i : Nat) (o : Lo Int Unit), F.slices_Index_int_l1 s v i = some o → ∀ (c : Code), navO [1, 0, 1, 0, 0] (bodyOf Tryz.f122) = some c → ∀ (Q : Exit → ASt → Prop), o.post (fun r => ∀ st, Post Tryz.prog Tryz.f122 (fun r' _ => r'.le (.lit (.int .i64 r))) .ret st → Q .ret st) (fun s => Q (.exit 0) ⟨[], []⟩) → ALoopU Tryz.prog B 0 19 (hold c .mk) ⟨[(0, .arr (List.map cI s)), (1, .lit (.int .i64 v)), (7, .lit (.int .i64 (s.length : Int))), (8, .lit (.int .i64 (i : Int)))], []⟩ (hold Q .mk)) := by
 refine F.slices_Index_int_l1.partial_correctness s v
  _
  ?_
 ·intro _f_slices_Index_int_l1 ih_slices_Index_int_l1 i o hF
  intro c hc Q hq
  obtain rfl : c = _ := navEq hc rfl
  refine ALoopU.know fun hk hs => ?_
  have b0 := hk 0
  simp -dsimp at b0
  clear hk hs
  refine ALoopU.enter ?_
  repeat (first | refine chk.ga ?_ | simp -dsimp)
  refine abr.split (fun h1 => ?_) (fun h1 => ?_)
  ·have q2 : (i < s.length) := auq h1
   have z3 : ((i : Int) < (s.length : Int)) := auz
   rw [if_pos q2] at hF
   have hF := ob hF; obtain ⟨x, e4, hF⟩ := hF
   have le4 := lt_of_get e4
   repeat (first | refine chk.ga ?_ | simp -dsimp [h1, z3, ↓e4])
   refine abr.split (fun h5 => ?_) (fun h5 => ?_)
   ·have q6 : (v = x) := auq h5
    rw [if_pos q6] at hF
    cases hF
    repeat (first | refine chk.ga ?_ | simp -dsimp [h1, z3, ↓e4, h5])
    refine Leave.go _ (Gh.refl _) (hq _ ?_)
    repeat (first | refine chk.ga ?_ | simp -dsimp [h1, z3, ↓e4, h5])
   ·have q6 : ¬ (v = x) := auq h5
    rw [if_neg q6] at hF
    have w7 : IntKind.i64.wrap ((i : Int) + 1) = (i : Int) + 1 := wrap_in (by omega) (by omega)
    repeat (first | refine chk.ga ?_ | simp -dsimp [h1, z3, ↓e4, h5, q6, w7])
    refine Again.go _ ?_ ((ih_slices_Index_int_l1 (i + 1) o hF) _ rfl _ hq)
    exact (Gh.to3 (by simp) (by first | simp -dsimp [h1, z3, ↓e4, h5, q6, w7]; done | simp_all))
  ·have q2 : ¬ (i < s.length) := auq h1
   have z3 : ¬ ((i : Int) < (s.length : Int)) := auz
   rw [if_neg q2] at hF
   cases hF
   repeat (first | refine chk.ga ?_ | simp -dsimp [h1, q2, z3])
   refine Leave.go ⟨[], []⟩ (Gh.to3 (by simp) (by first | simp -dsimp [h1, q2, z3]; done | simp_all)) ?_
   exact hq

theorem C.slices_Index_int (s : List Int) (v : Int) (r : Int) (hF : F.slices_Index_int s v = some r) : PureCall Tryz.prog B 122 [.arr (List.map cI s), .lit (.int .i64 v)] (.lit (.int .i64 r)) := by
 unfold F.slices_Index_int at hF
 refine PureCall.enterLe Tryz.func122 (by kernel_rfl) rfl Tryz.ntmps122 (by simp) (by simp) ?_
 repeat (first | refine chk.ga ?_ | simp -dsimp)
 have hF := ob hF; obtain ⟨o', ho8, hF⟩ := hF
 refine ALoop.goU _ ?_ (((CC.slices_Index_int_l1 B hB1 hB2 s v) 0 o' ho8) _ rfl _ ?_)
 ·exact (Gh.to3 (by simp) (by simp -dsimp))
 rcases o' with r0 | sx
 ·dsimp only at hF
  cases hF
  intro st h
  simpa using h
 ·dsimp only at hF
  cases hF
  repeat (first | refine chk.ga ?_ | simp -dsimp)
  all_goals (try first | omega | rfl)

theorem C.slices_Contains_int (s : List Int) (v : Int) (r : Bool) (hF : F.slices_Contains_int s v = some r) : PureCall Tryz.prog B 92 [.arr (List.map cI s), .lit (.int .i64 v)] (.lit (.bool r)) := by
 unfold F.slices_Contains_int at hF
 refine PureCall.enterLe Tryz.func92 (by kernel_rfl) rfl Tryz.ntmps92 (by simp) (by simp) ?_
 repeat (first | refine chk.ga ?_ | simp -dsimp)
 have hF := ob hF; obtain ⟨v1, e2, hF⟩ := hF
 refine ((C.slices_Index_int B hB1 hB2 s v v1 e2)).goW (by simp) (by simp) ?_
 cases hF
 repeat (first | refine chk.ga ?_ | simp -dsimp)
 all_goals (try first | omega | rfl)

theorem CC.impl_argTypes_l1 (t : Vl.Ty) (x2 : Vl.Ctor) : (∀ (i : Nat) (out : List Vl.Ty) (o : List Vl.Ty), F.impl_argTypes_l1 t x2 i out = some o → ∀ (c : Code), navO [1, 1, 1, 1, 1, 0, 1, 0, 0] (bodyOf Tryz.f94) = some c → ∀ (Q : Exit → ASt → Prop), (Q (.exit 0) ⟨[(9, .own 2 (List.length (α := Vl.Ty) o))], [.dead, .dead, .elems 2 (List.map Vl.Ty.c o)]⟩) → ALoopU Tryz.prog B 0 45 (hold c .mk) ⟨[(8, .lit (.int .i64 t.index)), (9, .own 2 (List.length (α := Vl.Ty) out)), (28, .arr (List.map Vl.Ty.c x2.args)), (29, .lit (.int .i64 (x2.args.length : Int))), (30, .lit (.int .i64 (i : Int)))], [.dead, .dead, .elems 2 (List.map Vl.Ty.c out)]⟩ (hold Q .mk)) := by
 refine F.impl_argTypes_l1.partial_correctness t x2
  _
  ?_
 ·intro _f_impl_argTypes_l1 ih_impl_argTypes_l1 i out o hF
  intro c hc Q hq
  obtain rfl : c = _ := navEq hc rfl
  refine ALoopU.know fun hk hs => ?_
  have b28 := hk 28
  simp -dsimp at b28
  have d2 := hs 2 _ rfl
  simp -dsimp [Blk.bnd] at d2
  clear hk hs
  refine ALoopU.enter ?_
  repeat (first | refine chk.ga ?_ | simp -dsimp)
  refine abr.split (fun h6 => ?_) (fun h6 => ?_)
  ·have q7 : (i < x2.args.length) := auq h6
   have z8 : ((i : Int) < (x2.args.length : Int)) := auz
   rw [if_pos q7] at hF
   have hF := ob hF; obtain ⟨x9, e10, hF⟩ := hF
   have le10 := lt_of_get e10
   repeat (first | refine chk.ga ?_ | simp -dsimp [h6, z8, ↓e10])
   refine abr.split (fun h11 => ?_) (fun h11 => ?_)
   ·have q12 : (x9.index = (-1)) := auq h11
    rw [if_pos q12] at hF
    have hF := oc hF; obtain ⟨c13, hF⟩ := hF
    have w14 : IntKind.i64.wrap ((i : Int) + 1) = (i : Int) + 1 := wrap_in (by omega) (by omega)
    repeat (first | refine chk.ga ?_ | simp -dsimp [h6, z8, ↓e10, h11, w14])
    refine Again.go _ ?_ ((ih_impl_argTypes_l1 (i + 1) (out ++ [(⟨x9.data, t.index⟩ : Vl.Ty)]) o hF) _ rfl _ hq)
    exact (Gh.to3 (by simp) (by first | simp -dsimp [h6, z8, ↓e10, h11, w14]; done | simp_all))
   ·have q12 : ¬ (x9.index = (-1)) := auq h11
    rw [if_neg q12] at hF
    have hF := oc hF; obtain ⟨c15, hF⟩ := hF
    have w16 : IntKind.i64.wrap ((i : Int) + 1) = (i : Int) + 1 := wrap_in (by omega) (by omega)
    repeat (first | refine chk.ga ?_ | simp -dsimp [h6, z8, ↓e10, h11, q12, w16])
    refine Again.go _ ?_ ((ih_impl_argTypes_l1 (i + 1) (out ++ [x9]) o hF) _ rfl _ hq)
    exact (Gh.to3 (by simp) (by first | simp -dsimp [h6, z8, ↓e10, h11, q12, w16]; done | simp_all))
  ·have q7 : ¬ (i < x2.args.length) := auq h6
   have z8 : ¬ ((i : Int) < (x2.args.length : Int)) := auz
   rw [if_neg q7] at hF
   cases hF
   repeat (first | refine chk.ga ?_ | simp -dsimp [h6, q7, z8])
   refine Leave.go ⟨[(9, .own 2 (List.length (α := Vl.Ty) out))], [.dead, .dead, .elems 2 (List.map Vl.Ty.c out)]⟩ (Gh.to3 (by simp) (by first | simp -dsimp [h6, q7, z8]; done | simp_all)) ?_
   exact hq

theorem CC.impl_argTypes_l2 (x2 : Vl.Ctor) : (∀ (i18 : Nat) (out19 : List Vl.Ty) (o : List Vl.Ty), F.impl_argTypes_l2 x2 i18 out19 = some o → ∀ (c : Code), navO [1, 1, 1, 1, 1, 0, 1, 0, 0] (bodyOf Tryz.f94) = some c → ∀ (Q : Exit → ASt → Prop), (Q (.exit 0) ⟨[(9, .own 2 (List.length (α := Vl.Ty) o))], [.dead, .dead, .elems 2 (List.map Vl.Ty.c o)]⟩) → ALoopU Tryz.prog B 0 45 (hold c .mk) ⟨[(8, .lit (.int .i64 x2.index)), (9, .own 2 (List.length (α := Vl.Ty) out19)), (28, .arr (List.map Vl.Ty.c x2.args)), (29, .lit (.int .i64 (x2.args.length : Int))), (30, .lit (.int .i64 (i18 : Int)))], [.dead, .dead, .elems 2 (List.map Vl.Ty.c out19)]⟩ (hold Q .mk)) := by
 refine F.impl_argTypes_l2.partial_correctness x2
  _
  ?_
 ·intro _f_impl_argTypes_l2 ih_impl_argTypes_l2 i18 out19 o hF
  intro c hc Q hq
  obtain rfl : c = _ := navEq hc rfl
  refine ALoopU.know fun hk hs => ?_
  have b28 := hk 28
  simp -dsimp at b28
  have d2 := hs 2 _ rfl
  simp -dsimp [Blk.bnd] at d2
  clear hk hs
  refine ALoopU.enter ?_
  repeat (first | refine chk.ga ?_ | simp -dsimp)
  refine abr.split (fun h20 => ?_) (fun h20 => ?_)
  ·have q21 : (i18 < x2.args.length) := auq h20
   have z22 : ((i18 : Int) < (x2.args.length : Int)) := auz
   rw [if_pos q21] at hF
   have hF := ob hF; obtain ⟨x23, e24, hF⟩ := hF
   have le24 := lt_of_get e24
   repeat (first | refine chk.ga ?_ | simp -dsimp [h20, z22, ↓e24])
   refine abr.split (fun h25 => ?_) (fun h25 => ?_)
   ·have q26 : (x23.index = (-1)) := auq h25
    rw [if_pos q26] at hF
    have hF := oc hF; obtain ⟨c27, hF⟩ := hF
    have w28 : IntKind.i64.wrap ((i18 : Int) + 1) = (i18 : Int) + 1 := wrap_in (by omega) (by omega)
    repeat (first | refine chk.ga ?_ | simp -dsimp [h20, z22, ↓e24, h25, w28])
    refine Again.go _ ?_ ((ih_impl_argTypes_l2 (i18 + 1) (out19 ++ [(⟨x23.data, x2.index⟩ : Vl.Ty)]) o hF) _ rfl _ hq)
    exact (Gh.to3 (by simp) (by first | simp -dsimp [h20, z22, ↓e24, h25, w28]; done | simp_all))
   ·have q26 : ¬ (x23.index = (-1)) := auq h25
    rw [if_neg q26] at hF
    have hF := oc hF; obtain ⟨c29, hF⟩ := hF
    have w30 : IntKind.i64.wrap ((i18 : Int) + 1) = (i18 : Int) + 1 := wrap_in (by omega) (by omega)
    repeat (first | refine chk.ga ?_ | simp -dsimp [h20, z22, ↓e24, h25, q26, w30])
    refine Again.go _ ?_ ((ih_impl_argTypes_l2 (i18 + 1) (out19 ++ [x23]) o hF) _ rfl _ hq)
    exact (Gh.to3 (by simp) (by first | simp -dsimp [h20, z22, ↓e24, h25, q26, w30]; done | simp_all))
  ·have q21 : ¬ (i18 < x2.args.length) := auq h20
   have z22 : ¬ ((i18 : Int) < (x2.args.length : Int)) := auz
   rw [if_neg q21] at hF
   cases hF
   repeat (first | refine chk.ga ?_ | simp -dsimp [h20, q21, z22])
   refine Leave.go ⟨[(9, .own 2 (List.length (α := Vl.Ty) out19))], [.dead, .dead, .elems 2 (List.map Vl.Ty.c out19)]⟩ (Gh.to3 (by simp) (by first | simp -dsimp [h20, q21, z22]; done | simp_all)) ?_
   exact hq

theorem C.impl_argTypes (w : List Vl.Data) (t : Vl.Ty) (ctor : Int) (r : List Vl.Ty) (hF : F.impl_argTypes w t ctor = some r) : PureCall Tryz.prog B 94 [.arr (List.map Vl.Data.c w), .agg [.lit (.int .i64 t.data), .lit (.int .i64 t.index)], .lit (.int .i64 ctor)] (.arr (List.map Vl.Ty.c r)) := by
 unfold F.impl_argTypes at hF
 refine PureCall.enterLe Tryz.func94 (by kernel_rfl) rfl Tryz.ntmps94 (by simp) (by simp) ?_
 have hF := ob hF; obtain ⟨x, e1a, hF⟩ := hF
 have e1a := at_some e1a; obtain ⟨ne1, e1⟩ := e1a
 have le1 := lt_of_get e1
 have hF := ob hF; obtain ⟨x2, e3a, hF⟩ := hF
 have e3a := at_some e3a; obtain ⟨ne3, e3⟩ := e3a
 have le3 := lt_of_get e3
 repeat (first | refine chk.ga ?_ | simp -dsimp [↓e1, ↓e3])
 refine abr.split (fun h4 => ?_) (fun h4 => ?_)
 ·have q5 : (x2.index = 0) := auq h4
  rw [if_pos q5] at hF
  repeat (first | refine chk.ga ?_ | simp -dsimp [↓e1, ↓e3, h4])
  have hF := ob hF; obtain ⟨o', ho17, hF⟩ := hF
  refine ALoop.goU ⟨[(8, .lit (.int .i64 t.index)), (9, .own 2 (List.length (α := Vl.Ty) [])), (28, .arr (List.map Vl.Ty.c x2.args)), (29, .lit (.int .i64 (x2.args.length : Int))), (30, .lit (.int .i64 (0 : Int)))], [.dead, .dead, .elems 2 (List.map Vl.Ty.c [])]⟩ (by refine Gh.trans (Gh.nil 9 2 (by simp -dsimp)) ?_; exact (Gh.to3 (by simp) (by first | simp -dsimp [↓e1, ↓e3, h4]; done | simp_all))) ?_
  refine ((CC.impl_argTypes_l1 B hB1 hB2 t x2) 0 [] o' ho17) _ rfl _ ?_
  cases hF
  repeat (first | refine chk.ga ?_ | simp -dsimp)
  all_goals (try first | omega | rfl)
 ·have q5 : ¬ (x2.index = 0) := auq h4
  rw [if_neg q5] at hF
  repeat (first | refine chk.ga ?_ | simp -dsimp [↓e1, ↓e3, h4, q5])
  have hF := ob hF; obtain ⟨o'32, ho31, hF⟩ := hF
  refine ALoop.goU ⟨[(8, .lit (.int .i64 x2.index)), (9, .own 2 (List.length (α := Vl.Ty) [])), (28, .arr (List.map Vl.Ty.c x2.args)), (29, .lit (.int .i64 (x2.args.length : Int))), (30, .lit (.int .i64 (0 : Int)))], [.dead, .dead, .elems 2 (List.map Vl.Ty.c [])]⟩ (by refine Gh.trans (Gh.nil 9 2 (by simp -dsimp)) ?_; exact (Gh.to3 (by simp) (by first | simp -dsimp [↓e1, ↓e3, h4, q5]; done | simp_all))) ?_
  refine ((CC.impl_argTypes_l2 B hB1 hB2 x2) 0 [] o'32 ho31) _ rfl _ ?_
  cases hF
  repeat (first | refine chk.ga ?_ | simp -dsimp)
  all_goals (try first | omega | rfl)

theorem C.impl_shape (w : List Vl.Data) (t : Vl.Ty) (p : Vl.Pattern) (r : (List Vl.Ty) × Bool) (hF : F.impl_shape w t p = some r) : PureCall Tryz.prog B 135 [.arr (List.map Vl.Data.c w), .agg [.lit (.int .i64 t.data), .lit (.int .i64 t.index)], .agg [.lit (.int .i64 p.op), .lit (.int .i64 p.ctor), .lit (.int .i64 p.n), .lit (.int .i64 p.m), .lit (.int .i64 p.var), .arr (List.map Vl.Pattern.c p.kids)]] (.tup [.arr (List.map Vl.Ty.c r.1), .lit (.bool r.2)]) := by
 unfold F.impl_shape at hF
 refine PureCall.enterLe Tryz.func135 (by kernel_rfl) rfl Tryz.ntmps135 (by simp) (by simp) ?_
 repeat (first | refine chk.ga ?_ | simp -dsimp)
 refine abr.split (fun h1 => ?_) (fun h1 => ?_)
 ·have q2 : (p.op = 1) := auq h1
  rw [if_pos q2] at hF
  repeat (first | refine chk.ga ?_ | simp -dsimp [h1])
  have hF := ob hF; obtain ⟨v, e3, hF⟩ := hF
  refine ((C.impl_only B hB1 hB2 p false false false (0 : Int) v e3)).goW (by first | simp [h1]; done | simp_all) (by simp) ?_
  cases hF
  repeat (first | refine chk.ga ?_ | simp -dsimp [h1])
  all_goals (try first | omega | rfl)
 ·have q2 : ¬ (p.op = 1) := auq h1
  rw [if_neg q2] at hF
  repeat (first | refine chk.ga ?_ | simp -dsimp [h1, q2])
  refine abr.split (fun h4 => ?_) (fun h4 => ?_)
  ·have q5 : (p.op = 2) := auq h4
   rw [if_pos q5] at hF
   repeat (first | refine chk.ga ?_ | simp -dsimp [h1, q2, h4])
   have hF := ob hF; obtain ⟨v6, e7, hF⟩ := hF
   refine ((C.impl_only B hB1 hB2 p false false true (0 : Int) v6 e7)).goW (by first | simp [h1, q2, h4]; done | simp_all) (by simp) ?_
   repeat (first | refine chk.ga ?_ | simp -dsimp [h1, q2, h4])
   refine abr.split (fun h8 => ?_) (fun h8 => ?_)
   ·have q9 : (v6 = true) := auq h8
    rw [if_pos q9] at hF
    repeat (first | refine chk.ga ?_ | simp -dsimp [h1, q2, h4, h8])
    have hF := ob hF; obtain ⟨v10, e11, hF⟩ := hF
    refine ((C.impl_isVar B hB1 hB2 p.var v10 e11)).goW (by first | simp [h1, q2, h4, h8]; done | simp_all) (by simp) ?_
    cases hF
    repeat (first | refine chk.ga ?_ | simp -dsimp [h1, q2, h4, h8])
    all_goals (try first | omega | rfl)
   ·have q9 : ¬ (v6 = true) := auq h8
    rw [if_neg q9] at hF
    cases hF
    repeat (first | refine chk.ga ?_ | simp -dsimp [h1, q2, h4, h8, q9])
    all_goals (try first | omega | rfl)
  ·have q5 : ¬ (p.op = 2) := auq h4
   rw [if_neg q5] at hF
   repeat (first | refine chk.ga ?_ | simp -dsimp [h1, q2, h4, q5])
   refine abr.split (fun h12 => ?_) (fun h12 => ?_)
   ·have q13 : (p.op = 3) := auq h12
    rw [if_pos q13] at hF
    repeat (first | refine chk.ga ?_ | simp -dsimp [h1, q2, h4, q5, h12])
    refine ADraw.simple follows (by kernel_rfl) (by kernel_rfl) ?_
    repeat (first | refine chk.ga ?_ | simp -dsimp [h1, q2, h4, q5, h12])
    refine abr.split (fun h14 => ?_) (fun h14 => ?_)
    ·have q15 : (t.data = (-1)) := auq h14
     rw [if_pos q15] at hF
     repeat (first | refine chk.ga ?_ | simp -dsimp [h1, q2, h4, q5, h12, h14])
     have hF := ob hF; obtain ⟨v16, e17, hF⟩ := hF
     refine ((C.impl_only B hB1 hB2 p false true false (0 : Int) v16 e17)).pgoW (by first | simp [h1, q2, h4, q5, h12, h14]; done | simp_all) (by simp) ?_
     repeat (first | refine chk.ga ?_ | simp -dsimp [h1, q2, h4, q5, h12, h14])
     refine abr.split (fun h18 => ?_) (fun h18 => ?_)
     ·have q19 : (v16 = true) := auq h18
      rw [if_pos q19] at hF
      repeat (first | refine chk.ga ?_ | simp -dsimp [h1, q2, h4, q5, h12, h14, h18])
      refine abr.split (fun h20 => ?_) (fun h20 => ?_)
      ·have q21 : (0 ≤ p.n) := auq h20
       rw [if_pos q21] at hF
       repeat (first | refine chk.ga ?_ | simp -dsimp [h1, q2, h4, q5, h12, h14, h18, h20])
       refine abr.split (fun h22 => ?_) (fun h22 => ?_)
       ·have q23 : (p.n ≤ p.m) := auq h22
        rw [if_pos q23] at hF
        cases hF
        repeat (first | refine chk.ga ?_ | simp -dsimp [h1, q2, h4, q5, h12, h14, h18, h20, h22])
        all_goals (try first | omega | rfl)
       ·have q23 : ¬ (p.n ≤ p.m) := auq h22
        rw [if_neg q23] at hF
        cases hF
        repeat (first | refine chk.ga ?_ | simp -dsimp [h1, q2, h4, q5, h12, h14, h18, h20, h22, q23])
        all_goals (try first | omega | rfl)
      ·have q21 : ¬ (0 ≤ p.n) := auq h20
       rw [if_neg q21] at hF
       cases hF
       repeat (first | refine chk.ga ?_ | simp -dsimp [h1, q2, h4, q5, h12, h14, h18, h20, q21])
       all_goals (try first | omega | rfl)
     ·have q19 : ¬ (v16 = true) := auq h18
      rw [if_neg q19] at hF
      cases hF
      repeat (first | refine chk.ga ?_ | simp -dsimp [h1, q2, h4, q5, h12, h14, h18, q19])
      all_goals (try first | omega | rfl)
    ·have q15 : ¬ (t.data = (-1)) := auq h14
     rw [if_neg q15] at hF
     cases hF
     repeat (first | refine chk.ga ?_ | simp -dsimp [h1, q2, h4, q5, h12, h14, q15])
     all_goals (try first | omega | rfl)
   ·have q13 : ¬ (p.op = 3) := auq h12
    rw [if_neg q13] at hF
    repeat (first | refine chk.ga ?_ | simp -dsimp [h1, q2, h4, q5, h12, q13])
    refine abr.split (fun h24 => ?_) (fun h24 => ?_)
    ·have q25 : (p.op = 4) := auq h24
     rw [if_pos q25] at hF
     repeat (first | refine chk.ga ?_ | simp -dsimp [h1, q2, h4, q5, h12, q13, h24])
     refine ADraw.simple follows (by kernel_rfl) (by kernel_rfl) ?_
     repeat (first | refine chk.ga ?_ | simp -dsimp [h1, q2, h4, q5, h12, q13, h24])
     have hF := ob hF; obtain ⟨v26, e27, hF⟩ := hF
     refine ((C.impl_ctorsOf B hB1 hB2 w t v26 e27)).pgoW (by first | simp [h1, q2, h4, q5, h12, q13, h24]; done | simp_all) (by simp) ?_
     repeat (first | refine chk.ga ?_ | simp -dsimp [h1, q2, h4, q5, h12, q13, h24])
     have hF := ob hF; obtain ⟨v28, e29, hF⟩ := hF
     refine ((C.slices_Contains_int B hB1 hB2 v26 p.ctor v28 e29)).pgoW (by first | simp [h1, q2, h4, q5, h12, q13, h24]; done | simp_all) (by simp) ?_
     repeat (first | refine chk.ga ?_ | simp -dsimp [h1, q2, h4, q5, h12, q13, h24])
     refine abr.split (fun h30 => ?_) (fun h30 => ?_)
     ·have q31 : ¬ (v28 = true) := auq h30
      rw [if_neg q31] at hF
      cases hF
      repeat (first | refine chk.ga ?_ | simp -dsimp [h1, q2, h4, q5, h12, q13, h24, h30, q31])
      all_goals (try first | omega | rfl)
     ·have q31 : (v28 = true) := auq h30
      rw [if_pos q31] at hF
      repeat (first | refine chk.ga ?_ | simp -dsimp [h1, q2, h4, q5, h12, q13, h24, h30, q31])
      have hF := ob hF; obtain ⟨v32, e33, hF⟩ := hF
      refine ((C.impl_argTypes B hB1 hB2 w t p.ctor v32 e33)).goW (by first | simp [h1, q2, h4, q5, h12, q13, h24, h30, q31]; done | simp_all) (by simp) ?_
      repeat (first | refine chk.ga ?_ | simp -dsimp [h1, q2, h4, q5, h12, q13, h24, h30, q31])
      have hF := ob hF; obtain ⟨v34, e35, hF⟩ := hF
      refine ((C.impl_only B hB1 hB2 p true false false (v32.length : Int) v34 e35)).goW (by first | simp [h1, q2, h4, q5, h12, q13, h24, h30, q31]; done | simp_all) (by simp) ?_
      cases hF
      repeat (first | refine chk.ga ?_ | simp -dsimp [h1, q2, h4, q5, h12, q13, h24, h30, q31])
      all_goals (try first | omega | rfl)
    ·have q25 : ¬ (p.op = 4) := auq h24
     rw [if_neg q25] at hF
     repeat (first | refine chk.ga ?_ | simp -dsimp [h1, q2, h4, q5, h12, q13, h24, q25])
     refine abr.split (fun h36 => ?_) (fun h36 => ?_)
     ·have q37 : (p.op = 5) := auq h36
      rw [if_pos q37] at hF
      repeat (first | refine chk.ga ?_ | simp -dsimp [h1, q2, h4, q5, h12, q13, h24, q25, h36])
      refine ADraw.eff [] [(0, 0), (0, 0), (0, 1), (0, 1), (0, 1), (1, 1), (1, 1)] [1, 1, 1, 2, 1, 1, 1] follows (by kernel_rfl) (by kernel_rfl) (by kernel_rfl) ?_
      repeat (first | refine chk.ga ?_ | simp -dsimp [h1, q2, h4, q5, h12, q13, h24, q25, h36])
      have hF := ob hF; obtain ⟨v38, e39, hF⟩ := hF
      refine ((C.impl_only B hB1 hB2 p false false false (2 : Int) v38 e39)).pgoW (by first | simp [h1, q2, h4, q5, h12, q13, h24, q25, h36]; done | simp_all) (by simp) ?_
      cases hF
      repeat (first | refine chk.ga ?_ | simp -dsimp [h1, q2, h4, q5, h12, q13, h24, q25, h36])
      all_goals (try first | omega | rfl)
     ·have q37 : ¬ (p.op = 5) := auq h36
      rw [if_neg q37] at hF
      repeat (first | refine chk.ga ?_ | simp -dsimp [h1, q2, h4, q5, h12, q13, h24, q25, h36, q37])
      refine abr.split (fun h40 => ?_) (fun h40 => ?_)
      ·have q41 : (p.op = 6) := auq h40
       rw [if_pos q41] at hF
       repeat (first | refine chk.ga ?_ | simp -dsimp [h1, q2, h4, q5, h12, q13, h24, q25, h36, q37, h40])
       refine ADraw.eff [] [(0, 0), (0, 1), (0, 1), (0, 1), (0, 1), (0, 1), (0, 1), (0, 1), (0, 1), (1, 1), (1, 1)] [1, 1, 2, 1, 1, 0, 2, 1, 1, 1, 1] follows (by kernel_rfl) (by kernel_rfl) (by kernel_rfl) ?_
       repeat (first | refine chk.ga ?_ | simp -dsimp [h1, q2, h4, q5, h12, q13, h24, q25, h36, q37, h40])
       have hF := ob hF; obtain ⟨v42, e43, hF⟩ := hF
       refine ((C.impl_only B hB1 hB2 p false false true (1 : Int) v42 e43)).pgoW (by first | simp [h1, q2, h4, q5, h12, q13, h24, q25, h36, q37, h40]; done | simp_all) (by simp) ?_
       repeat (first | refine chk.ga ?_ | simp -dsimp [h1, q2, h4, q5, h12, q13, h24, q25, h36, q37, h40])
       refine abr.split (fun h44 => ?_) (fun h44 => ?_)
       ·have q45 : (v42 = true) := auq h44
        rw [if_pos q45] at hF
        repeat (first | refine chk.ga ?_ | simp -dsimp [h1, q2, h4, q5, h12, q13, h24, q25, h36, q37, h40, h44])
        have hF := ob hF; obtain ⟨v46, e47, hF⟩ := hF
        refine ((C.impl_isVar B hB1 hB2 p.var v46 e47)).pgoW (by first | simp [h1, q2, h4, q5, h12, q13, h24, q25, h36, q37, h40, h44]; done | simp_all) (by simp) ?_
        cases hF
        repeat (first | refine chk.ga ?_ | simp -dsimp [h1, q2, h4, q5, h12, q13, h24, q25, h36, q37, h40, h44])
        all_goals (try first | omega | rfl)
       ·have q45 : ¬ (v42 = true) := auq h44
        rw [if_neg q45] at hF
        cases hF
        repeat (first | refine chk.ga ?_ | simp -dsimp [h1, q2, h4, q5, h12, q13, h24, q25, h36, q37, h40, h44, q45])
        all_goals (try first | omega | rfl)
      ·have q41 : ¬ (p.op = 6) := auq h40
       rw [if_neg q41] at hF
       cases hF
       repeat (first | refine chk.ga ?_ | simp -dsimp [h1, q2, h4, q5, h12, q13, h24, q25, h36, q37, h40, q41])
       all_goals (try first | omega | rfl)

theorem CC.slices_Index_VarType_l1 (s : List Vl.VarType) (v : Vl.VarType) : (∀ (i : Nat) (o : Lo Int Unit), F.slices_Index_VarType_l1 s v i = some o → ∀ (c : Code), navO [1, 0, 1, 0, 0] (bodyOf Tryz.f155) = some c → ∀ (Q : Exit → ASt → Prop), o.post (fun r => ∀ st, Post Tryz.prog Tryz.f155 (fun r' _ => r'.le (.lit (.int .i64 r))) .ret st → Q .ret st) (fun s => Q (.exit 0) ⟨[], []⟩) → ALoopU Tryz.prog B 0 19 (hold c .mk) ⟨[(0, .arr (List.map Vl.VarType.c s)), (3, .ptr 0 0), (7, .lit (.int .i64 (s.length : Int))), (8, .lit (.int .i64 (i : Int)))], [.cells [.lit (.int .i64 v.var), .lit (.int .i64 v.type.data), .lit (.int .i64 v.type.index)]]⟩ (hold Q .mk)) := by
 refine F.slices_Index_VarType_l1.partial_correctness s v
  _
  ?_
 ·intro _f_slices_Index_VarType_l1 ih_slices_Index_VarType_l1 i o hF
  intro c hc Q hq
  obtain rfl : c = _ := navEq hc rfl
  refine ALoopU.know fun hk hs => ?_
  have b0 := hk 0
  simp -dsimp at b0
  clear hk hs
  refine ALoopU.enter ?_
  repeat (first | refine chk.ga ?_ | simp -dsimp)
  refine abr.split (fun h1 => ?_) (fun h1 => ?_)
  ·have q2 : (i < s.length) := auq h1
   have z3 : ((i : Int) < (s.length : Int)) := auz
   rw [if_pos q2] at hF
   repeat (first | refine chk.ga ?_ | simp -dsimp [h1, z3])
   refine ADraw.simple follows (by kernel_rfl) (by kernel_rfl) ?_
   have hF := ob hF; obtain ⟨x, e4, hF⟩ := hF
   have le4 := lt_of_get e4
   repeat (first | refine chk.ga ?_ | simp -dsimp [h1, z3, ↓e4])
   refine abr.split (fun h5 => ?_) (fun h5 => ?_)
   ·have q6 : (dec (eq3 (v.var, v.type.data, v.type.index) (x.var, x.type.data, x.type.index)) = true) := auq h5
    rw [if_pos q6] at hF
    cases hF
    repeat (first | refine chk.ga ?_ | simp -dsimp [h1, z3, ↓e4, h5])
    refine Leave.go _ (Gh.refl _) (hq _ ?_)
    repeat (first | refine chk.ga ?_ | simp -dsimp [h1, z3, ↓e4, h5])
   ·have q6 : ¬ (dec (eq3 (v.var, v.type.data, v.type.index) (x.var, x.type.data, x.type.index)) = true) := auq h5
    rw [if_neg q6] at hF
    have w7 : IntKind.i64.wrap ((i : Int) + 1) = (i : Int) + 1 := wrap_in (by omega) (by omega)
    repeat (first | refine chk.ga ?_ | simp -dsimp [h1, z3, ↓e4, h5, q6, w7])
    refine Again.go _ ?_ ((ih_slices_Index_VarType_l1 (i + 1) o hF) _ rfl _ hq)
    exact (Gh.to3 (by simp) (by first | simp -dsimp [h1, z3, ↓e4, h5, q6, w7]; done | simp_all))
  ·have q2 : ¬ (i < s.length) := auq h1
   have z3 : ¬ ((i : Int) < (s.length : Int)) := auz
   rw [if_neg q2] at hF
   cases hF
   repeat (first | refine chk.ga ?_ | simp -dsimp [h1, q2, z3])
   refine Leave.go ⟨[], []⟩ (Gh.to3 (by simp) (by first | simp -dsimp [h1, q2, z3]; done | simp_all)) ?_
   exact hq

theorem C.slices_Index_VarType (s : List Vl.VarType) (v : Vl.VarType) (r : Int) (hF : F.slices_Index_VarType s v = some r) : PureCall Tryz.prog B 155 [.arr (List.map Vl.VarType.c s), .agg [.lit (.int .i64 v.var), .lit (.int .i64 v.type.data), .lit (.int .i64 v.type.index)]] (.lit (.int .i64 r)) := by
 unfold F.slices_Index_VarType at hF
 refine PureCall.enterLe Tryz.func155 (by kernel_rfl) rfl Tryz.ntmps155 (by simp) (by simp) ?_
 repeat (first | refine chk.ga ?_ | simp -dsimp)
 have hF := ob hF; obtain ⟨o', ho8, hF⟩ := hF
 refine ALoop.goU _ ?_ (((CC.slices_Index_VarType_l1 B hB1 hB2 s v) 0 o' ho8) _ rfl _ ?_)
 ·exact (Gh.to3 (by simp) (by simp -dsimp))
 rcases o' with r0 | sx
 ·dsimp only at hF
  cases hF
  intro st h
  simpa using h
 ·dsimp only at hF
  cases hF
  repeat (first | refine chk.ga ?_ | simp -dsimp)
  all_goals (try first | omega | rfl)

theorem C.slices_Contains_VarType (s : List Vl.VarType) (v : Vl.VarType) (r : Bool) (hF : F.slices_Contains_VarType s v = some r) : PureCall Tryz.prog B 134 [.arr (List.map Vl.VarType.c s), .agg [.lit (.int .i64 v.var), .lit (.int .i64 v.type.data), .lit (.int .i64 v.type.index)]] (.lit (.bool r)) := by
 unfold F.slices_Contains_VarType at hF
 refine PureCall.enterLe Tryz.func134 (by kernel_rfl) rfl Tryz.ntmps134 (by simp) (by simp) ?_
 repeat (first | refine chk.ga ?_ | simp -dsimp)
 have hF := ob hF; obtain ⟨v1, e2, hF⟩ := hF
 refine ((C.slices_Index_VarType B hB1 hB2 s v v1 e2)).goW (by simp) (by simp) ?_
 cases hF
 repeat (first | refine chk.ga ?_ | simp -dsimp)
 all_goals (try first | omega | rfl)

theorem C.impl_sameVars_1 (v : Vl.VarType) (a1 : List Vl.VarType) (r : Bool) (hF : F.impl_sameVars_1 v a1 = some r) : PureCall Tryz.prog B 167 [.agg [.lit (.int .i64 v.var), .lit (.int .i64 v.type.data), .lit (.int .i64 v.type.index)], .rptr [.arr (List.map Vl.VarType.c a1)] 0] (.lit (.bool r)) := by
 unfold F.impl_sameVars_1 at hF
 refine PureCall.enterLe Tryz.func167 (by kernel_rfl) rfl Tryz.ntmps167 (by simp) (by simp) ?_
 repeat (first | refine chk.ga ?_ | simp -dsimp)
 have hF := ob hF; obtain ⟨v1, e2, hF⟩ := hF
 refine ((C.slices_Contains_VarType B hB1 hB2 a1 v v1 e2)).goW (by simp) (by simp) ?_
 cases hF
 repeat (first | refine chk.ga ?_ | simp -dsimp)
 all_goals (try first | omega | rfl)

theorem CC.slices_IndexFunc_VarType__impl_sameVars_1_l1 (s : List Vl.VarType) (k0 : List Vl.VarType) : (∀ (i : Nat) (o : Lo Int Unit), F.slices_IndexFunc_VarType__impl_sameVars_1_l1 s k0 i = some o → ∀ (c : Code), navO [1, 0, 1, 0, 0] (bodyOf Tryz.f120) = some c → ∀ (Q : Exit → ASt → Prop), o.post (fun r => ∀ st, Post Tryz.prog Tryz.f120 (fun r' _ => r'.le (.lit (.int .i64 r))) .ret st → Q .ret st) (fun s => Q (.exit 0) ⟨[], []⟩) → ALoopU Tryz.prog B 0 19 (hold c .mk) ⟨[(0, .arr (List.map Vl.VarType.c s)), (1, .fn (.func 167) [] [.rptr [.arr (List.map Vl.VarType.c k0)] 0]), (7, .lit (.int .i64 (s.length : Int))), (8, .lit (.int .i64 (i : Int)))], []⟩ (hold Q .mk)) := by
 refine F.slices_IndexFunc_VarType__impl_sameVars_1_l1.partial_correctness s k0
  _
  ?_
 ·intro _f_slices_IndexFunc_VarType__impl_sameVars_1_l1 ih_slices_IndexFunc_VarType__impl_sameVars_1_l1 i o hF
  intro c hc Q hq
  obtain rfl : c = _ := navEq hc rfl
  refine ALoopU.know fun hk hs => ?_
  have b0 := hk 0
  simp -dsimp at b0
  clear hk hs
  refine ALoopU.enter ?_
  repeat (first | refine chk.ga ?_ | simp -dsimp)
  refine abr.split (fun h1 => ?_) (fun h1 => ?_)
  ·have q2 : (i < s.length) := auq h1
   have z3 : ((i : Int) < (s.length : Int)) := auz
   rw [if_pos q2] at hF
   have hF := ob hF; obtain ⟨x, e4, hF⟩ := hF
   have le4 := lt_of_get e4
   repeat (first | refine chk.ga ?_ | simp -dsimp [h1, z3, ↓e4])
   have hF := ob hF; obtain ⟨v, e5, hF⟩ := hF
   refine ((C.impl_sameVars_1 B hB1 hB2 x k0 v e5)).goW (by first | simp [h1, z3, ↓e4]; done | simp_all) (by simp) ?_
   repeat (first | refine chk.ga ?_ | simp -dsimp [h1, z3, ↓e4])
   refine abr.split (fun h6 => ?_) (fun h6 => ?_)
   ·have q7 : (v = true) := auq h6
    rw [if_pos q7] at hF
    cases hF
    repeat (first | refine chk.ga ?_ | simp -dsimp [h1, z3, ↓e4, h6])
    refine Leave.go _ (Gh.refl _) (hq _ ?_)
    repeat (first | refine chk.ga ?_ | simp -dsimp [h1, z3, ↓e4, h6])
   ·have q7 : ¬ (v = true) := auq h6
    rw [if_neg q7] at hF
    have w8 : IntKind.i64.wrap ((i : Int) + 1) = (i : Int) + 1 := wrap_in (by omega) (by omega)
    repeat (first | refine chk.ga ?_ | simp -dsimp [h1, z3, ↓e4, h6, q7, w8])
    refine Again.go _ ?_ ((ih_slices_IndexFunc_VarType__impl_sameVars_1_l1 (i + 1) o hF) _ rfl _ hq)
    exact (Gh.to3 (by simp) (by first | simp -dsimp [h1, z3, ↓e4, h6, q7, w8]; done | simp_all))
  ·have q2 : ¬ (i < s.length) := auq h1
   have z3 : ¬ ((i : Int) < (s.length : Int)) := auz
   rw [if_neg q2] at hF
   cases hF
   repeat (first | refine chk.ga ?_ | simp -dsimp [h1, q2, z3])
   refine Leave.go ⟨[], []⟩ (Gh.to3 (by simp) (by first | simp -dsimp [h1, q2, z3]; done | simp_all)) ?_
   exact hq

theorem C.slices_IndexFunc_VarType__impl_sameVars_1 (s : List Vl.VarType) (k0 : List Vl.VarType) (r : Int) (hF : F.slices_IndexFunc_VarType__impl_sameVars_1 s k0 = some r) : PureCall Tryz.prog B 120 [.arr (List.map Vl.VarType.c s), .fn (.func 167) [] [.rptr [.arr (List.map Vl.VarType.c k0)] 0]] (.lit (.int .i64 r)) := by
 unfold F.slices_IndexFunc_VarType__impl_sameVars_1 at hF
 refine PureCall.enterLe Tryz.func120 (by kernel_rfl) rfl Tryz.ntmps120 (by simp) (by simp) ?_
 repeat (first | refine chk.ga ?_ | simp -dsimp)
 have hF := ob hF; obtain ⟨o', ho9, hF⟩ := hF
 refine ALoop.goU _ ?_ (((CC.slices_IndexFunc_VarType__impl_sameVars_1_l1 B hB1 hB2 s k0) 0 o' ho9) _ rfl _ ?_)
 ·exact (Gh.to3 (by simp) (by simp -dsimp))
 rcases o' with r0 | sx
 ·dsimp only at hF
  cases hF
  intro st h
  simpa using h
 ·dsimp only at hF
  cases hF
  repeat (first | refine chk.ga ?_ | simp -dsimp)
  all_goals (try first | omega | rfl)

theorem C.slices_ContainsFunc_VarType__impl_sameVars_1 (s : List Vl.VarType) (k0 : List Vl.VarType) (r : Bool) (hF : F.slices_ContainsFunc_VarType__impl_sameVars_1 s k0 = some r) : PureCall Tryz.prog B 166 [.arr (List.map Vl.VarType.c s), .fn (.func 167) [] [.rptr [.arr (List.map Vl.VarType.c k0)] 0]] (.lit (.bool r)) := by
 unfold F.slices_ContainsFunc_VarType__impl_sameVars_1 at hF
 refine PureCall.enterLe Tryz.func166 (by kernel_rfl) rfl Tryz.ntmps166 (by simp) (by simp) ?_
 repeat (first | refine chk.ga ?_ | simp -dsimp)
 have hF := ob hF; obtain ⟨v, e1, hF⟩ := hF
 refine ((C.slices_IndexFunc_VarType__impl_sameVars_1 B hB1 hB2 s k0 v e1)).goW (by simp) (by simp) ?_
 cases hF
 repeat (first | refine chk.ga ?_ | simp -dsimp)
 all_goals (try first | omega | rfl)

theorem C.impl_sameVars (a : List Vl.VarType) (b : List Vl.VarType) (r : Bool) (hF : F.impl_sameVars a b = some r) : PureCall Tryz.prog B 154 [.arr (List.map Vl.VarType.c a), .arr (List.map Vl.VarType.c b)] (.lit (.bool r)) := by
 unfold F.impl_sameVars at hF
 refine PureCall.enterLe Tryz.func154 (by kernel_rfl) rfl Tryz.ntmps154 (by simp) (by simp) ?_
 repeat (first | refine chk.ga ?_ | simp -dsimp)
 refine abr.split (fun h1 => ?_) (fun h1 => ?_)
 ·have q2 : (a.length = b.length) := auq h1
  have z3 : ((a.length : Int) = (b.length : Int)) := auz
  rw [if_pos q2] at hF
  repeat (first | refine chk.ga ?_ | simp -dsimp [h1, z3])
  have hF := ob hF; obtain ⟨v, e4, hF⟩ := hF
  refine ((C.slices_ContainsFunc_VarType__impl_sameVars_1 B hB1 hB2 a b v e4)).lend (by first | simp -dsimp [h1, z3]; done | simp_all) (by simp -dsimp) ?_
  cases hF
  repeat (first | refine chk.ga ?_ | simp -dsimp [h1, z3])
  all_goals (try first | omega | rfl)
 ·have q2 : ¬ (a.length = b.length) := auq h1
  have z3 : ¬ ((a.length : Int) = (b.length : Int)) := auz
  rw [if_neg q2] at hF
  cases hF
  repeat (first | refine chk.ga ?_ | simp -dsimp [h1, q2, z3])
  all_goals (try first | omega | rfl)

theorem CC.impl_patternScan_l2 (sx : Int × (List Vl.VarType)) : (∀ (set' : Nat → Bool) (i37 : Nat) (o : Lo ((List Vl.VarType) × Bool × Int) Unit), F.impl_patternScan_l2 sx set' i37 = some o → ∀ (c : Code), navO [1, 1, 1, 1, 1, 1, 1, 1, 1, 0, 1, 0, 0] (bodyOf Tryz.f133) = some c → ∀ (Q : Exit → ASt → Prop), o.post (fun r => ∀ st, Post Tryz.prog Tryz.f133 (fun r' σ' => r'.le (.tup [.arr (List.map Vl.VarType.c r.1), .lit (.bool r.2.1)]) ∧ mcell σ' [.lit (.int .i64 r.2.2)]) .ret st → Q .ret st) (fun s => Q (.exit 3) ⟨[(14, .own 4 (List.length (α := Vl.VarType) sx.2))], [.cells [.lit (.int .i64 sx.1)], .dead, .dead, .dead, .elems 3 (List.map Vl.VarType.c sx.2)]⟩) → ALoopU Tryz.prog B 1 114 (hold c .mk) ⟨[(14, .own 4 (List.length (α := Vl.VarType) sx.2)), (19, .ptr 5 0), (99, .own 4 (List.length (α := Vl.VarType) sx.2)), (100, .lit (.int .i64 (sx.2.length : Int))), (101, .lit (.int .i64 (i37 : Int)))], [.cells [.lit (.int .i64 sx.1)], .dead, .dead, .dead, .elems 3 (List.map Vl.VarType.c sx.2), .cells (fcB 6 set')]⟩ (hold Q .mk)) := by
 refine F.impl_patternScan_l2.partial_correctness sx
  _
  ?_
 ·intro _f_impl_patternScan_l2 ih_impl_patternScan_l2 set' i37 o hF
  intro c hc Q hq
  obtain rfl : c = _ := navEq hc rfl
  refine ALoopU.know fun hk hs => ?_
  have d4 := hs 4 _ rfl
  simp -dsimp [Blk.bnd] at d4
  clear hk hs
  refine ALoopU.enter ?_
  repeat (first | refine chk.ga ?_ | simp -dsimp)
  refine abr.split (fun h38 => ?_) (fun h38 => ?_)
  ·have q39 : (i37 < sx.2.length) := auq h38
   have z40 : ((i37 : Int) < (sx.2.length : Int)) := auz
   rw [if_pos q39] at hF
   have hF := ob hF; obtain ⟨x41, e42, hF⟩ := hF
   have le42 := lt_of_get e42
   have hF := oc hF; obtain ⟨c43, hF⟩ := hF
   repeat (first | refine chk.ga ?_ | simp -dsimp [h38, z40, ↓e42, c43])
   refine abr.split (fun h44 => ?_) (fun h44 => ?_)
   ·have q45 : (set' x41.var.toNat = true) := auq h44
    rw [if_pos q45] at hF
    cases hF
    repeat (first | refine chk.ga ?_ | simp -dsimp [h38, z40, ↓e42, c43, h44])
    refine Leave.go _ (Gh.refl _) (hq _ ?_)
    repeat (first | refine chk.ga ?_ | simp -dsimp [h38, z40, ↓e42, c43, h44])
   ·have q45 : ¬ (set' x41.var.toNat = true) := auq h44
    rw [if_neg q45] at hF
    have w46 : IntKind.i64.wrap ((i37 : Int) + 1) = (i37 : Int) + 1 := wrap_in (by omega) (by omega)
    repeat (first | refine chk.ga ?_ | simp -dsimp [h38, z40, ↓e42, c43, h44, q45, w46])
    refine Again.go _ ?_ ((ih_impl_patternScan_l2 (updF set' x41.var.toNat true) (i37 + 1) o hF) _ rfl _ hq)
    exact (Gh.to3 (by simp) (by first | simp -dsimp [h38, z40, ↓e42, c43, h44, q45, w46]; done | simp_all))
  ·have q39 : ¬ (i37 < sx.2.length) := auq h38
   have z40 : ¬ ((i37 : Int) < (sx.2.length : Int)) := auz
   rw [if_neg q39] at hF
   cases hF
   repeat (first | refine chk.ga ?_ | simp -dsimp [h38, q39, z40])
   refine Leave.go ⟨[(14, .own 4 (List.length (α := Vl.VarType) sx.2))], [.cells [.lit (.int .i64 sx.1)], .dead, .dead, .dead, .elems 3 (List.map Vl.VarType.c sx.2)]⟩ (Gh.to3 (by simp) (by first | simp -dsimp [h38, q39, z40]; done | simp_all)) ?_
   exact hq

theorem CC.impl_patternScan_l4 (sx81 : Int × (List Vl.VarType)) : (∀ (set'82 : Nat → Bool) (i83 : Nat) (o : Lo ((List Vl.VarType) × Bool × Int) Unit), F.impl_patternScan_l4 sx81 set'82 i83 = some o → ∀ (c : Code), navO [1, 1, 1, 1, 1, 1, 1, 1, 1, 0, 1, 0, 0] (bodyOf Tryz.f133) = some c → ∀ (Q : Exit → ASt → Prop), o.post (fun r => ∀ st, Post Tryz.prog Tryz.f133 (fun r' σ' => r'.le (.tup [.arr (List.map Vl.VarType.c r.1), .lit (.bool r.2.1)]) ∧ mcell σ' [.lit (.int .i64 r.2.2)]) .ret st → Q .ret st) (fun s => Q (.exit 3) ⟨[(14, .own 3 (List.length (α := Vl.VarType) sx81.2))], [.cells [.lit (.int .i64 sx81.1)], .dead, .dead, .elems 3 (List.map Vl.VarType.c sx81.2)]⟩) → ALoopU Tryz.prog B 1 114 (hold c .mk) ⟨[(14, .own 3 (List.length (α := Vl.VarType) sx81.2)), (19, .ptr 4 0), (99, .own 3 (List.length (α := Vl.VarType) sx81.2)), (100, .lit (.int .i64 (sx81.2.length : Int))), (101, .lit (.int .i64 (i83 : Int)))], [.cells [.lit (.int .i64 sx81.1)], .dead, .dead, .elems 3 (List.map Vl.VarType.c sx81.2), .cells (fcB 6 set'82)]⟩ (hold Q .mk)) := by
 refine F.impl_patternScan_l4.partial_correctness sx81
  _
  ?_
 ·intro _f_impl_patternScan_l4 ih_impl_patternScan_l4 set'82 i83 o hF
  intro c hc Q hq
  obtain rfl : c = _ := navEq hc rfl
  refine ALoopU.know fun hk hs => ?_
  have d3 := hs 3 _ rfl
  simp -dsimp [Blk.bnd] at d3
  clear hk hs
  refine ALoopU.enter ?_
  repeat (first | refine chk.ga ?_ | simp -dsimp)
  refine abr.split (fun h84 => ?_) (fun h84 => ?_)
  ·have q85 : (i83 < sx81.2.length) := auq h84
   have z86 : ((i83 : Int) < (sx81.2.length : Int)) := auz
   rw [if_pos q85] at hF
   have hF := ob hF; obtain ⟨x87, e88, hF⟩ := hF
   have le88 := lt_of_get e88
   have hF := oc hF; obtain ⟨c89, hF⟩ := hF
   repeat (first | refine chk.ga ?_ | simp -dsimp [h84, z86, ↓e88, c89])
   refine abr.split (fun h90 => ?_) (fun h90 => ?_)
   ·have q91 : (set'82 x87.var.toNat = true) := auq h90
    rw [if_pos q91] at hF
    cases hF
    repeat (first | refine chk.ga ?_ | simp -dsimp [h84, z86, ↓e88, c89, h90])
    refine Leave.go _ (Gh.refl _) (hq _ ?_)
    repeat (first | refine chk.ga ?_ | simp -dsimp [h84, z86, ↓e88, c89, h90])
   ·have q91 : ¬ (set'82 x87.var.toNat = true) := auq h90
    rw [if_neg q91] at hF
    have w92 : IntKind.i64.wrap ((i83 : Int) + 1) = (i83 : Int) + 1 := wrap_in (by omega) (by omega)
    repeat (first | refine chk.ga ?_ | simp -dsimp [h84, z86, ↓e88, c89, h90, q91, w92])
    refine Again.go _ ?_ ((ih_impl_patternScan_l4 (updF set'82 x87.var.toNat true) (i83 + 1) o hF) _ rfl _ hq)
    exact (Gh.to3 (by simp) (by first | simp -dsimp [h84, z86, ↓e88, c89, h90, q91, w92]; done | simp_all))
  ·have q85 : ¬ (i83 < sx81.2.length) := auq h84
   have z86 : ¬ ((i83 : Int) < (sx81.2.length : Int)) := auz
   rw [if_neg q85] at hF
   cases hF
   repeat (first | refine chk.ga ?_ | simp -dsimp [h84, q85, z86])
   refine Leave.go ⟨[(14, .own 3 (List.length (α := Vl.VarType) sx81.2))], [.cells [.lit (.int .i64 sx81.1)], .dead, .dead, .elems 3 (List.map Vl.VarType.c sx81.2)]⟩ (Gh.to3 (by simp) (by first | simp -dsimp [h84, q85, z86]; done | simp_all)) ?_
   exact hq

theorem CC.impl_patternScan_l6 (sx128 : Int × (List Vl.VarType)) : (∀ (set'129 : Nat → Bool) (i130 : Nat) (o : Lo ((List Vl.VarType) × Bool × Int) Unit), F.impl_patternScan_l6 sx128 set'129 i130 = some o → ∀ (c : Code), navO [1, 1, 1, 1, 1, 1, 1, 1, 1, 0, 1, 0, 0] (bodyOf Tryz.f133) = some c → ∀ (Q : Exit → ASt → Prop), o.post (fun r => ∀ st, Post Tryz.prog Tryz.f133 (fun r' σ' => r'.le (.tup [.arr (List.map Vl.VarType.c r.1), .lit (.bool r.2.1)]) ∧ mcell σ' [.lit (.int .i64 r.2.2)]) .ret st → Q .ret st) (fun s => Q (.exit 3) ⟨[(14, .own 4 (List.length (α := Vl.VarType) sx128.2))], [.cells [.lit (.int .i64 sx128.1)], .dead, .dead, .dead, .elems 3 (List.map Vl.VarType.c sx128.2)]⟩) → ALoopU Tryz.prog B 1 114 (hold c .mk) ⟨[(14, .own 4 (List.length (α := Vl.VarType) sx128.2)), (19, .ptr 5 0), (99, .own 4 (List.length (α := Vl.VarType) sx128.2)), (100, .lit (.int .i64 (sx128.2.length : Int))), (101, .lit (.int .i64 (i130 : Int)))], [.cells [.lit (.int .i64 sx128.1)], .dead, .dead, .dead, .elems 3 (List.map Vl.VarType.c sx128.2), .cells (fcB 6 set'129)]⟩ (hold Q .mk)) := by
 refine F.impl_patternScan_l6.partial_correctness sx128
  _
  ?_
 ·intro _f_impl_patternScan_l6 ih_impl_patternScan_l6 set'129 i130 o hF
  intro c hc Q hq
  obtain rfl : c = _ := navEq hc rfl
  refine ALoopU.know fun hk hs => ?_
  have d4 := hs 4 _ rfl
  simp -dsimp [Blk.bnd] at d4
  clear hk hs
  refine ALoopU.enter ?_
  repeat (first | refine chk.ga ?_ | simp -dsimp)
  refine abr.split (fun h131 => ?_) (fun h131 => ?_)
  ·have q132 : (i130 < sx128.2.length) := auq h131
   have z133 : ((i130 : Int) < (sx128.2.length : Int)) := auz
   rw [if_pos q132] at hF
   have hF := ob hF; obtain ⟨x134, e135, hF⟩ := hF
   have le135 := lt_of_get e135
   have hF := oc hF; obtain ⟨c136, hF⟩ := hF
   repeat (first | refine chk.ga ?_ | simp -dsimp [h131, z133, ↓e135, c136])
   refine abr.split (fun h137 => ?_) (fun h137 => ?_)
   ·have q138 : (set'129 x134.var.toNat = true) := auq h137
    rw [if_pos q138] at hF
    cases hF
    repeat (first | refine chk.ga ?_ | simp -dsimp [h131, z133, ↓e135, c136, h137])
    refine Leave.go _ (Gh.refl _) (hq _ ?_)
    repeat (first | refine chk.ga ?_ | simp -dsimp [h131, z133, ↓e135, c136, h137])
   ·have q138 : ¬ (set'129 x134.var.toNat = true) := auq h137
    rw [if_neg q138] at hF
    have w139 : IntKind.i64.wrap ((i130 : Int) + 1) = (i130 : Int) + 1 := wrap_in (by omega) (by omega)
    repeat (first | refine chk.ga ?_ | simp -dsimp [h131, z133, ↓e135, c136, h137, q138, w139])
    refine Again.go _ ?_ ((ih_impl_patternScan_l6 (updF set'129 x134.var.toNat true) (i130 + 1) o hF) _ rfl _ hq)
    exact (Gh.to3 (by simp) (by first | simp -dsimp [h131, z133, ↓e135, c136, h137, q138, w139]; done | simp_all))
  ·have q132 : ¬ (i130 < sx128.2.length) := auq h131
   have z133 : ¬ ((i130 : Int) < (sx128.2.length : Int)) := auz
   rw [if_neg q132] at hF
   cases hF
   repeat (first | refine chk.ga ?_ | simp -dsimp [h131, q132, z133])
   refine Leave.go ⟨[(14, .own 4 (List.length (α := Vl.VarType) sx128.2))], [.cells [.lit (.int .i64 sx128.1)], .dead, .dead, .dead, .elems 3 (List.map Vl.VarType.c sx128.2)]⟩ (Gh.to3 (by simp) (by first | simp -dsimp [h131, q132, z133]; done | simp_all)) ?_
   exact hq

theorem CC.impl_patternScan (w : List Vl.Data) : (∀ (t : Vl.Ty) (p : Vl.Pattern) (deep : Int) (count : Int) (r : (List Vl.VarType) × Bool × Int), F.impl_patternScan w t p deep count = some r → MutCall Tryz.prog B 133 [.lit (.int .i64 count)] [.arr (List.map Vl.Data.c w), .agg [.lit (.int .i64 t.data), .lit (.int .i64 t.index)], .agg [.lit (.int .i64 p.op), .lit (.int .i64 p.ctor), .lit (.int .i64 p.n), .lit (.int .i64 p.m), .lit (.int .i64 p.var), .arr (List.map Vl.Pattern.c p.kids)], .lit (.int .i64 deep), .ptr 0 0] (.tup [.arr (List.map Vl.VarType.c r.1), .lit (.bool r.2.1)]) [.lit (.int .i64 r.2.2)]) ∧
  (∀ (p : Vl.Pattern) (deep : Int) (v : (List Vl.Ty) × Bool) (z51 : Int) (vars52 : List Vl.VarType) (i53 : Nat) (o : Lo ((List Vl.VarType) × Bool × Int) (Int × (List Vl.VarType))), F.impl_patternScan_l3 w p deep v z51 vars52 i53 = some o → ∀ (c : Code), navO [1, 1, 1, 1, 1, 1, 1, 0, 1, 0, 0] (bodyOf Tryz.f133) = some c → ∀ (Q : Exit → ASt → Prop), o.post (fun r => ∀ st, Post Tryz.prog Tryz.f133 (fun r' σ' => r'.le (.tup [.arr (List.map Vl.VarType.c r.1), .lit (.bool r.2.1)]) ∧ mcell σ' [.lit (.int .i64 r.2.2)]) .ret st → Q .ret st) (fun s => Q (.exit 0) ⟨[(14, .own 3 (List.length (α := Vl.VarType) s.2))], [.cells [.lit (.int .i64 s.1)], .dead, .dead, .elems 3 (List.map Vl.VarType.c s.2)]⟩) → ALoopU Tryz.prog B 1 114 (hold c .mk) ⟨[(0, .arr (List.map Vl.Data.c w)), (3, .lit (.int .i64 deep)), (4, .ptr 0 0), (7, .ptr 2 0), (12, .arr (List.map Vl.Ty.c v.1)), (14, .own 3 (List.length (α := Vl.VarType) vars52)), (60, .arr (List.map Vl.Pattern.c p.kids)), (61, .lit (.int .i64 (p.kids.length : Int))), (62, .lit (.int .i64 (i53 : Int)))], [.cells [.lit (.int .i64 z51)], .dead, .cells [.lit (.int .i64 p.op), .lit (.int .i64 p.ctor), .lit (.int .i64 p.n), .lit (.int .i64 p.m), .lit (.int .i64 p.var), .arr (List.map Vl.Pattern.c p.kids)], .elems 3 (List.map Vl.VarType.c vars52)]⟩ (hold Q .mk)) ∧
  (∀ (p : Vl.Pattern) (deep : Int) (v : (List Vl.Ty) × Bool) (z : Int) (vars : List Vl.VarType) (i : Nat) (o : Lo ((List Vl.VarType) × Bool × Int) (Int × (List Vl.VarType))), F.impl_patternScan_l1 w p deep v z vars i = some o → ∀ (c : Code), navO [1, 1, 1, 1, 1, 1, 1, 0, 1, 0, 0] (bodyOf Tryz.f133) = some c → ∀ (Q : Exit → ASt → Prop), o.post (fun r => ∀ st, Post Tryz.prog Tryz.f133 (fun r' σ' => r'.le (.tup [.arr (List.map Vl.VarType.c r.1), .lit (.bool r.2.1)]) ∧ mcell σ' [.lit (.int .i64 r.2.2)]) .ret st → Q .ret st) (fun s => Q (.exit 0) ⟨[(14, .own 4 (List.length (α := Vl.VarType) s.2))], [.cells [.lit (.int .i64 s.1)], .dead, .dead, .dead, .elems 3 (List.map Vl.VarType.c s.2)]⟩) → ALoopU Tryz.prog B 1 114 (hold c .mk) ⟨[(0, .arr (List.map Vl.Data.c w)), (3, .lit (.int .i64 deep)), (4, .ptr 0 0), (7, .ptr 2 0), (12, .arr (List.map Vl.Ty.c v.1)), (14, .own 4 (List.length (α := Vl.VarType) vars)), (60, .arr (List.map Vl.Pattern.c p.kids)), (61, .lit (.int .i64 (p.kids.length : Int))), (62, .lit (.int .i64 (i : Int)))], [.cells [.lit (.int .i64 z)], .dead, .cells [.lit (.int .i64 p.op), .lit (.int .i64 p.ctor), .lit (.int .i64 p.n), .lit (.int .i64 p.m), .lit (.int .i64 p.var), .arr (List.map Vl.Pattern.c p.kids)], .dead, .elems 3 (List.map Vl.VarType.c vars)]⟩ (hold Q .mk)) ∧
  (∀ (p : Vl.Pattern) (deep : Int) (v : (List Vl.Ty) × Bool) (z98 : Int) (vars99 : List Vl.VarType) (i100 : Nat) (o : Lo ((List Vl.VarType) × Bool × Int) (Int × (List Vl.VarType))), F.impl_patternScan_l5 w p deep v z98 vars99 i100 = some o → ∀ (c : Code), navO [1, 1, 1, 1, 1, 1, 1, 0, 1, 0, 0] (bodyOf Tryz.f133) = some c → ∀ (Q : Exit → ASt → Prop), o.post (fun r => ∀ st, Post Tryz.prog Tryz.f133 (fun r' σ' => r'.le (.tup [.arr (List.map Vl.VarType.c r.1), .lit (.bool r.2.1)]) ∧ mcell σ' [.lit (.int .i64 r.2.2)]) .ret st → Q .ret st) (fun s => Q (.exit 0) ⟨[(14, .own 4 (List.length (α := Vl.VarType) s.2))], [.cells [.lit (.int .i64 s.1)], .dead, .dead, .dead, .elems 3 (List.map Vl.VarType.c s.2)]⟩) → ALoopU Tryz.prog B 1 114 (hold c .mk) ⟨[(0, .arr (List.map Vl.Data.c w)), (3, .lit (.int .i64 deep)), (4, .ptr 0 0), (7, .ptr 2 0), (12, .arr (List.map Vl.Ty.c v.1)), (14, .own 4 (List.length (α := Vl.VarType) vars99)), (60, .arr (List.map Vl.Pattern.c p.kids)), (61, .lit (.int .i64 (p.kids.length : Int))), (62, .lit (.int .i64 (i100 : Int)))], [.cells [.lit (.int .i64 z98)], .dead, .cells [.lit (.int .i64 p.op), .lit (.int .i64 p.ctor), .lit (.int .i64 p.n), .lit (.int .i64 p.m), .lit (.int .i64 p.var), .arr (List.map Vl.Pattern.c p.kids)], .dead, .elems 3 (List.map Vl.VarType.c vars99)]⟩ (hold Q .mk)) := by
 refine F.impl_patternScan.mutual_partial_correctness w
  _ _ _ _
  ?_ ?_ ?_ ?_
 ·intro _f_impl_patternScan_l3 _f_impl_patternScan_l1 _f_impl_patternScan_l5 ih_impl_patternScan_l3 ih_impl_patternScan_l1 ih_impl_patternScan_l5 t p deep count r hF
  refine MutCall.enter Tryz.func133 (by kernel_rfl) rfl Tryz.ntmps133 (by simp) (by simp) (by simp) (by simp) ?_
  repeat (first | refine chk.ga ?_ | simp -dsimp)
  refine abr.split (fun h1 => ?_) (fun h1 => ?_)
  ·have q2 : ¬ (60 < IntKind.i64.wrap (count + 1)) := auq h1
   rw [if_neg q2] at hF
   repeat (first | refine chk.ga ?_ | simp -dsimp [h1, q2])
   refine abr.split (fun h3 => ?_) (fun h3 => ?_)
   ·have q4 : (10 < deep) := auq h3
    rw [if_pos q4] at hF
    cases hF
    repeat (first | refine chk.ga ?_ | simp -dsimp [h1, q2, h3])
    all_goals (try first | omega | rfl)
   ·have q4 : ¬ (10 < deep) := auq h3
    rw [if_neg q4] at hF
    repeat (first | refine chk.ga ?_ | simp -dsimp [h1, q2, h3, q4])
    have hF := ob hF; obtain ⟨v, e5, hF⟩ := hF
    refine ((C.impl_shape B hB1 hB2 w t p v e5)).goW (by first | simp [h1, q2, h3, q4]; done | simp_all) (by simp) ?_
    repeat (first | refine chk.ga ?_ | simp -dsimp [h1, q2, h3, q4])
    refine abr.split (fun h6 => ?_) (fun h6 => ?_)
    ·have q7 : ¬ (v.2 = true) := auq h6
     rw [if_neg q7] at hF
     cases hF
     repeat (first | refine chk.ga ?_ | simp -dsimp [h1, q2, h3, q4, h6, q7])
     all_goals (try first | omega | rfl)
    ·have q7 : (v.2 = true) := auq h6
     rw [if_pos q7] at hF
     repeat (first | refine chk.ga ?_ | simp -dsimp [h1, q2, h3, q4, h6, q7])
     refine abr.split (fun h8 => ?_) (fun h8 => ?_)
     ·have q9 : ¬ (p.op = 2) := auq h8
      rw [if_neg q9] at hF
      repeat (first | refine chk.ga ?_ | simp -dsimp [h1, q2, h3, q4, h6, q7, h8, q9])
      refine abr.split (fun h10 => ?_) (fun h10 => ?_)
      ·have q11 : (p.op = 6) := auq h10
       rw [if_pos q11] at hF
       repeat (first | refine chk.ga ?_ | simp -dsimp [h1, q2, h3, q4, h6, q7, h8, q9, h10])
       have hF := ob hF; obtain ⟨o', ho36, hF⟩ := hF
       refine ALoop.goU _ ?_ ((ih_impl_patternScan_l1 p deep v (IntKind.i64.wrap (count + 1)) [(⟨p.var, t⟩ : Vl.VarType)] 0 o' ho36) _ rfl _ ?_)
       ·exact (Gh.to3 (by simp) (by first | simp -dsimp [h1, q2, h3, q4, h6, q7, h8, q9, h10]; done | simp_all))
       rcases o' with r050 | sx
       ·dsimp only at hF
        cases hF
        intro st h
        simpa using h
       ·dsimp only at hF
        repeat (first | refine chk.ga ?_ | simp -dsimp)
        have hF := ob hF; obtain ⟨o'48, ho47, hF⟩ := hF
        refine ALoop.goU _ ?_ (((CC.impl_patternScan_l2 B hB1 hB2 sx) (fun _ => false) 0 o'48 ho47) _ rfl _ ?_)
        ·exact (Gh.to3 (by simp) (by simp -dsimp))
        rcases o'48 with r0 | sx49
        ·dsimp only at hF
         cases hF
         intro st h
         simpa using h
        ·dsimp only at hF
         cases hF
         repeat (first | refine chk.ga ?_ | simp -dsimp)
         all_goals (try first | omega | rfl)
      ·have q11 : ¬ (p.op = 6) := auq h10
       rw [if_neg q11] at hF
       repeat (first | refine chk.ga ?_ | simp -dsimp [h1, q2, h3, q4, h6, q7, h8, q9, h10, q11])
       have hF := ob hF; obtain ⟨o'80, ho79, hF⟩ := hF
       refine ALoop.goU ⟨[(0, .arr (List.map Vl.Data.c w)), (3, .lit (.int .i64 deep)), (4, .ptr 0 0), (7, .ptr 2 0), (12, .arr (List.map Vl.Ty.c v.1)), (14, .own 3 (List.length (α := Vl.VarType) [])), (60, .arr (List.map Vl.Pattern.c p.kids)), (61, .lit (.int .i64 (p.kids.length : Int))), (62, .lit (.int .i64 (0 : Int)))], [.cells [.lit (.int .i64 (IntKind.i64.wrap (count + 1)))], .dead, .cells [.lit (.int .i64 p.op), .lit (.int .i64 p.ctor), .lit (.int .i64 p.n), .lit (.int .i64 p.m), .lit (.int .i64 p.var), .arr (List.map Vl.Pattern.c p.kids)], .elems 3 (List.map Vl.VarType.c [])]⟩ (by refine Gh.trans (Gh.nil 14 3 (by simp -dsimp)) ?_; exact (Gh.to3 (by simp) (by first | simp -dsimp [h1, q2, h3, q4, h6, q7, h8, q9, h10, q11]; done | simp_all))) ?_
       refine (ih_impl_patternScan_l3 p deep v (IntKind.i64.wrap (count + 1)) [] 0 o'80 ho79) _ rfl _ ?_
       rcases o'80 with r097 | sx81
       ·dsimp only at hF
        cases hF
        intro st h
        simpa using h
       ·dsimp only at hF
        repeat (first | refine chk.ga ?_ | simp -dsimp)
        have hF := ob hF; obtain ⟨o'94, ho93, hF⟩ := hF
        refine ALoop.goU _ ?_ (((CC.impl_patternScan_l4 B hB1 hB2 sx81) (fun _ => false) 0 o'94 ho93) _ rfl _ ?_)
        ·exact (Gh.to3 (by simp) (by simp -dsimp))
        rcases o'94 with r096 | sx95
        ·dsimp only at hF
         cases hF
         intro st h
         simpa using h
        ·dsimp only at hF
         cases hF
         repeat (first | refine chk.ga ?_ | simp -dsimp)
         all_goals (try first | omega | rfl)
     ·have q9 : (p.op = 2) := auq h8
      rw [if_pos q9] at hF
      repeat (first | refine chk.ga ?_ | simp -dsimp [h1, q2, h3, q4, h6, q7, h8, q9])
      have hF := ob hF; obtain ⟨o'127, ho126, hF⟩ := hF
      refine ALoop.goU _ ?_ ((ih_impl_patternScan_l5 p deep v (IntKind.i64.wrap (count + 1)) [(⟨p.var, t⟩ : Vl.VarType)] 0 o'127 ho126) _ rfl _ ?_)
      ·exact (Gh.to3 (by simp) (by first | simp -dsimp [h1, q2, h3, q4, h6, q7, h8, q9]; done | simp_all))
      rcases o'127 with r0144 | sx128
      ·dsimp only at hF
       cases hF
       intro st h
       simpa using h
      ·dsimp only at hF
       repeat (first | refine chk.ga ?_ | simp -dsimp)
       have hF := ob hF; obtain ⟨o'141, ho140, hF⟩ := hF
       refine ALoop.goU _ ?_ (((CC.impl_patternScan_l6 B hB1 hB2 sx128) (fun _ => false) 0 o'141 ho140) _ rfl _ ?_)
       ·exact (Gh.to3 (by simp) (by simp -dsimp))
       rcases o'141 with r0143 | sx142
       ·dsimp only at hF
        cases hF
        intro st h
        simpa using h
       ·dsimp only at hF
        cases hF
        repeat (first | refine chk.ga ?_ | simp -dsimp)
        all_goals (try first | omega | rfl)
  ·have q2 : (60 < IntKind.i64.wrap (count + 1)) := auq h1
   rw [if_pos q2] at hF
   cases hF
   repeat (first | refine chk.ga ?_ | simp -dsimp [h1, q2])
   all_goals (try first | omega | rfl)
 ·intro _f_impl_patternScan _f_impl_patternScan_l3 ih_impl_patternScan ih_impl_patternScan_l3 p deep v z51 vars52 i53 o hF
  intro c hc Q hq
  obtain rfl : c = _ := navEq hc rfl
  refine ALoopU.know fun hk hs => ?_
  have b0 := hk 0
  simp -dsimp at b0
  have b12 := hk 12
  simp -dsimp at b12
  have b60 := hk 60
  simp -dsimp at b60
  have d2 := hs 2 _ rfl
  simp -dsimp [Blk.bnd] at d2
  have d3 := hs 3 _ rfl
  simp -dsimp [Blk.bnd] at d3
  clear hk hs
  refine ALoopU.enter ?_
  repeat (first | refine chk.ga ?_ | simp -dsimp)
  refine abr.split (fun h54 => ?_) (fun h54 => ?_)
  ·have q55 : (i53 < p.kids.length) := auq h54
   have z56 : ((i53 : Int) < (p.kids.length : Int)) := auz
   rw [if_pos q55] at hF
   have hF := ob hF; obtain ⟨x57, e58, hF⟩ := hF
   have le58 := lt_of_get e58
   repeat (first | refine chk.ga ?_ | simp -dsimp [h54, z56, ↓e58])
   refine ADraw.eff [133] [(0, 0), (0, 0), (0, 0), (0, 0), (0, 0), (0, 0), (0, 0), (0, 0), (0, 0), (0, 1), (1, 1), (1, 1), (1, 1), (1, 1), (1, 1)] [1, 1, 1, 1, 1, 1, 1, 1, 1, 1, 1, 1, 1, 1, 1] follows (by kernel_rfl) (by kernel_rfl) (by kernel_rfl) ?_
   have hF := ob hF; obtain ⟨x59, e60, hF⟩ := hF
   have le60 := lt_of_get e60
   repeat (first | refine chk.ga ?_ | simp -dsimp [h54, z56, ↓e58, ↓e60])
   have hF := ob hF; obtain ⟨v61, e62, hF⟩ := hF
   refine ((ih_impl_patternScan x59 x57 (IntKind.i64.wrap (deep + 1)) z51 v61 e62)).ego 0 rfl (by first | simp [h54, z56, ↓e58, ↓e60]; done | simp_all) (by simp) (by first | simp [h54, z56, ↓e58, ↓e60]; done | simp_all) ?_
   repeat (first | refine chk.ga ?_ | simp -dsimp [h54, z56, ↓e58, ↓e60])
   refine abr.split (fun h63 => ?_) (fun h63 => ?_)
   ·have q64 : ¬ (v61.2.1 = true) := auq h63
    rw [if_neg q64] at hF
    cases hF
    repeat (first | refine chk.ga ?_ | simp -dsimp [h54, z56, ↓e58, ↓e60, h63, q64])
    refine Leave.go _ (Gh.refl _) (hq _ ?_)
    repeat (first | refine chk.ga ?_ | simp -dsimp [h54, z56, ↓e58, ↓e60, h63, q64])
   ·have q64 : (v61.2.1 = true) := auq h63
    rw [if_pos q64] at hF
    repeat (first | refine chk.ga ?_ | simp -dsimp [h54, z56, ↓e58, ↓e60, h63, q64])
    refine abr.split (fun h65 => ?_) (fun h65 => ?_)
    ·have q66 : (p.op = 5) := auq h65
     rw [if_pos q66] at hF
     repeat (first | refine chk.ga ?_ | simp -dsimp [h54, z56, ↓e58, ↓e60, h63, q64, h65])
     refine abr.split (fun h67 => ?_) (fun h67 => ?_)
     ·have q68 : (i53 = 1) := auq h67
      have z69 : ((i53 : Int) = (1 : Int)) := auz
      rw [if_pos q68] at hF
      repeat (first | refine chk.ga ?_ | simp -dsimp [h54, z56, ↓e58, ↓e60, h63, q64, h65, eq_true h67, eq_true z69])
      have hF := ob hF; obtain ⟨v70, e71, hF⟩ := hF
      refine ((C.impl_sameVars B hB1 hB2 vars52 v61.1 v70 e71)).lend (by first | simp -dsimp [h54, z56, ↓e58, ↓e60, h63, q64, h65, eq_true h67, eq_true z69]; done | simp_all) (by simp -dsimp) ?_
      repeat (first | refine chk.ga ?_ | simp -dsimp [h54, z56, ↓e58, ↓e60, h63, q64, h65, eq_true h67, eq_true z69])
      refine abr.split (fun h72 => ?_) (fun h72 => ?_)
      ·have q73 : ¬ (v70 = true) := auq h72
       rw [if_neg q73] at hF
       cases hF
       repeat (first | refine chk.ga ?_ | simp -dsimp [h54, z56, ↓e58, ↓e60, h63, q64, h65, eq_true h67, eq_true z69, h72, q73])
       refine Leave.go _ (Gh.refl _) (hq _ ?_)
       repeat (first | refine chk.ga ?_ | simp -dsimp [h54, z56, ↓e58, ↓e60, h63, q64, h65, eq_true h67, eq_true z69, h72, q73])
      ·have q73 : (v70 = true) := auq h72
       rw [if_pos q73] at hF
       have w74 : IntKind.i64.wrap ((i53 : Int) + 1) = (i53 : Int) + 1 := wrap_in (by omega) (by omega)
       repeat (first | refine chk.ga ?_ | simp -dsimp [h54, z56, ↓e58, ↓e60, h63, q64, h65, eq_true h67, eq_true z69, h72, q73, w74])
       refine Again.go _ ?_ ((ih_impl_patternScan_l3 p deep v v61.2.2 vars52 (i53 + 1) o hF) _ rfl _ hq)
       exact (Gh.to3 (by simp) (by first | simp -dsimp [h54, z56, ↓e58, ↓e60, h63, q64, h65, eq_true h67, eq_true z69, h72, q73, w74]; done | simp_all))
     ·have q68 : ¬ (i53 = 1) := auq h67
      have z69 : ¬ ((i53 : Int) = (1 : Int)) := auz
      rw [if_neg q68] at hF
      have hF := oc hF; obtain ⟨c75, hF⟩ := hF
      have w76 : IntKind.i64.wrap ((i53 : Int) + 1) = (i53 : Int) + 1 := wrap_in (by omega) (by omega)
      repeat (first | refine chk.ga ?_ | simp -dsimp [h54, z56, ↓e58, ↓e60, h63, q64, h65, h67, q68, z69, w76])
      refine Again.go _ ?_ ((ih_impl_patternScan_l3 p deep v v61.2.2 (vars52 ++ v61.1) (i53 + 1) o hF) _ rfl _ hq)
      exact (Gh.to3 (by simp) (by first | simp -dsimp [h54, z56, ↓e58, ↓e60, h63, q64, h65, h67, q68, z69, w76]; done | simp_all))
    ·have q66 : ¬ (p.op = 5) := auq h65
     rw [if_neg q66] at hF
     have hF := oc hF; obtain ⟨c77, hF⟩ := hF
     have w78 : IntKind.i64.wrap ((i53 : Int) + 1) = (i53 : Int) + 1 := wrap_in (by omega) (by omega)
     repeat (first | refine chk.ga ?_ | simp -dsimp [h54, z56, ↓e58, ↓e60, h63, q64, h65, q66, w78])
     refine Again.go _ ?_ ((ih_impl_patternScan_l3 p deep v v61.2.2 (vars52 ++ v61.1) (i53 + 1) o hF) _ rfl _ hq)
     exact (Gh.to3 (by simp) (by first | simp -dsimp [h54, z56, ↓e58, ↓e60, h63, q64, h65, q66, w78]; done | simp_all))
  ·have q55 : ¬ (i53 < p.kids.length) := auq h54
   have z56 : ¬ ((i53 : Int) < (p.kids.length : Int)) := auz
   rw [if_neg q55] at hF
   cases hF
   repeat (first | refine chk.ga ?_ | simp -dsimp [h54, q55, z56])
   refine Leave.go ⟨[(14, .own 3 (List.length (α := Vl.VarType) vars52))], [.cells [.lit (.int .i64 z51)], .dead, .dead, .elems 3 (List.map Vl.VarType.c vars52)]⟩ (Gh.to3 (by simp) (by first | simp -dsimp [h54, q55, z56]; done | simp_all)) ?_
   exact hq
 ·intro _f_impl_patternScan _f_impl_patternScan_l1 ih_impl_patternScan ih_impl_patternScan_l1 p deep v z vars i o hF
  intro c hc Q hq
  obtain rfl : c = _ := navEq hc rfl
  refine ALoopU.know fun hk hs => ?_
  have b0 := hk 0
  simp -dsimp at b0
  have b12 := hk 12
  simp -dsimp at b12
  have b60 := hk 60
  simp -dsimp at b60
  have d2 := hs 2 _ rfl
  simp -dsimp [Blk.bnd] at d2
  have d4 := hs 4 _ rfl
  simp -dsimp [Blk.bnd] at d4
  clear hk hs
  refine ALoopU.enter ?_
  repeat (first | refine chk.ga ?_ | simp -dsimp)
  refine abr.split (fun h12 => ?_) (fun h12 => ?_)
  ·have q13 : (i < p.kids.length) := auq h12
   have z14 : ((i : Int) < (p.kids.length : Int)) := auz
   rw [if_pos q13] at hF
   have hF := ob hF; obtain ⟨x, e15, hF⟩ := hF
   have le15 := lt_of_get e15
   repeat (first | refine chk.ga ?_ | simp -dsimp [h12, z14, ↓e15])
   refine ADraw.eff [133] [(0, 0), (0, 0), (0, 0), (0, 0), (0, 0), (0, 0), (0, 0), (0, 0), (0, 0), (0, 1), (1, 1), (1, 1), (1, 1), (1, 1), (1, 1)] [1, 1, 1, 1, 1, 1, 1, 1, 1, 1, 1, 1, 1, 1, 1] follows (by kernel_rfl) (by kernel_rfl) (by kernel_rfl) ?_
   have hF := ob hF; obtain ⟨x16, e17, hF⟩ := hF
   have le17 := lt_of_get e17
   repeat (first | refine chk.ga ?_ | simp -dsimp [h12, z14, ↓e15, ↓e17])
   have hF := ob hF; obtain ⟨v18, e19, hF⟩ := hF
   refine ((ih_impl_patternScan x16 x (IntKind.i64.wrap (deep + 1)) z v18 e19)).ego 0 rfl (by first | simp [h12, z14, ↓e15, ↓e17]; done | simp_all) (by simp) (by first | simp [h12, z14, ↓e15, ↓e17]; done | simp_all) ?_
   repeat (first | refine chk.ga ?_ | simp -dsimp [h12, z14, ↓e15, ↓e17])
   refine abr.split (fun h20 => ?_) (fun h20 => ?_)
   ·have q21 : ¬ (v18.2.1 = true) := auq h20
    rw [if_neg q21] at hF
    cases hF
    repeat (first | refine chk.ga ?_ | simp -dsimp [h12, z14, ↓e15, ↓e17, h20, q21])
    refine Leave.go _ (Gh.refl _) (hq _ ?_)
    repeat (first | refine chk.ga ?_ | simp -dsimp [h12, z14, ↓e15, ↓e17, h20, q21])
   ·have q21 : (v18.2.1 = true) := auq h20
    rw [if_pos q21] at hF
    repeat (first | refine chk.ga ?_ | simp -dsimp [h12, z14, ↓e15, ↓e17, h20, q21])
    refine abr.split (fun h22 => ?_) (fun h22 => ?_)
    ·have q23 : (p.op = 5) := auq h22
     rw [if_pos q23] at hF
     repeat (first | refine chk.ga ?_ | simp -dsimp [h12, z14, ↓e15, ↓e17, h20, q21, h22])
     refine abr.split (fun h24 => ?_) (fun h24 => ?_)
     ·have q25 : (i = 1) := auq h24
      have z26 : ((i : Int) = (1 : Int)) := auz
      rw [if_pos q25] at hF
      repeat (first | refine chk.ga ?_ | simp -dsimp [h12, z14, ↓e15, ↓e17, h20, q21, h22, eq_true h24, eq_true z26])
      have hF := ob hF; obtain ⟨v27, e28, hF⟩ := hF
      refine ((C.impl_sameVars B hB1 hB2 vars v18.1 v27 e28)).lend (by first | simp -dsimp [h12, z14, ↓e15, ↓e17, h20, q21, h22, eq_true h24, eq_true z26]; done | simp_all) (by simp -dsimp) ?_
      repeat (first | refine chk.ga ?_ | simp -dsimp [h12, z14, ↓e15, ↓e17, h20, q21, h22, eq_true h24, eq_true z26])
      refine abr.split (fun h29 => ?_) (fun h29 => ?_)
      ·have q30 : ¬ (v27 = true) := auq h29
       rw [if_neg q30] at hF
       cases hF
       repeat (first | refine chk.ga ?_ | simp -dsimp [h12, z14, ↓e15, ↓e17, h20, q21, h22, eq_true h24, eq_true z26, h29, q30])
       refine Leave.go _ (Gh.refl _) (hq _ ?_)
       repeat (first | refine chk.ga ?_ | simp -dsimp [h12, z14, ↓e15, ↓e17, h20, q21, h22, eq_true h24, eq_true z26, h29, q30])
      ·have q30 : (v27 = true) := auq h29
       rw [if_pos q30] at hF
       have w31 : IntKind.i64.wrap ((i : Int) + 1) = (i : Int) + 1 := wrap_in (by omega) (by omega)
       repeat (first | refine chk.ga ?_ | simp -dsimp [h12, z14, ↓e15, ↓e17, h20, q21, h22, eq_true h24, eq_true z26, h29, q30, w31])
       refine Again.go _ ?_ ((ih_impl_patternScan_l1 p deep v v18.2.2 vars (i + 1) o hF) _ rfl _ hq)
       exact (Gh.to3 (by simp) (by first | simp -dsimp [h12, z14, ↓e15, ↓e17, h20, q21, h22, eq_true h24, eq_true z26, h29, q30, w31]; done | simp_all))
     ·have q25 : ¬ (i = 1) := auq h24
      have z26 : ¬ ((i : Int) = (1 : Int)) := auz
      rw [if_neg q25] at hF
      have hF := oc hF; obtain ⟨c32, hF⟩ := hF
      have w33 : IntKind.i64.wrap ((i : Int) + 1) = (i : Int) + 1 := wrap_in (by omega) (by omega)
      repeat (first | refine chk.ga ?_ | simp -dsimp [h12, z14, ↓e15, ↓e17, h20, q21, h22, h24, q25, z26, w33])
      refine Again.go _ ?_ ((ih_impl_patternScan_l1 p deep v v18.2.2 (vars ++ v18.1) (i + 1) o hF) _ rfl _ hq)
      exact (Gh.to3 (by simp) (by first | simp -dsimp [h12, z14, ↓e15, ↓e17, h20, q21, h22, h24, q25, z26, w33]; done | simp_all))
    ·have q23 : ¬ (p.op = 5) := auq h22
     rw [if_neg q23] at hF
     have hF := oc hF; obtain ⟨c34, hF⟩ := hF
     have w35 : IntKind.i64.wrap ((i : Int) + 1) = (i : Int) + 1 := wrap_in (by omega) (by omega)
     repeat (first | refine chk.ga ?_ | simp -dsimp [h12, z14, ↓e15, ↓e17, h20, q21, h22, q23, w35])
     refine Again.go _ ?_ ((ih_impl_patternScan_l1 p deep v v18.2.2 (vars ++ v18.1) (i + 1) o hF) _ rfl _ hq)
     exact (Gh.to3 (by simp) (by first | simp -dsimp [h12, z14, ↓e15, ↓e17, h20, q21, h22, q23, w35]; done | simp_all))
  ·have q13 : ¬ (i < p.kids.length) := auq h12
   have z14 : ¬ ((i : Int) < (p.kids.length : Int)) := auz
   rw [if_neg q13] at hF
   cases hF
   repeat (first | refine chk.ga ?_ | simp -dsimp [h12, q13, z14])
   refine Leave.go ⟨[(14, .own 4 (List.length (α := Vl.VarType) vars))], [.cells [.lit (.int .i64 z)], .dead, .dead, .dead, .elems 3 (List.map Vl.VarType.c vars)]⟩ (Gh.to3 (by simp) (by first | simp -dsimp [h12, q13, z14]; done | simp_all)) ?_
   exact hq
 ·intro _f_impl_patternScan _f_impl_patternScan_l5 ih_impl_patternScan ih_impl_patternScan_l5 p deep v z98 vars99 i100 o hF
  intro c hc Q hq
  obtain rfl : c = _ := navEq hc rfl
  refine ALoopU.know fun hk hs => ?_
  have b0 := hk 0
  simp -dsimp at b0
  have b12 := hk 12
  simp -dsimp at b12
  have b60 := hk 60
  simp -dsimp at b60
  have d2 := hs 2 _ rfl
  simp -dsimp [Blk.bnd] at d2
  have d4 := hs 4 _ rfl
  simp -dsimp [Blk.bnd] at d4
  clear hk hs
  refine ALoopU.enter ?_
  repeat (first | refine chk.ga ?_ | simp -dsimp)
  refine abr.split (fun h101 => ?_) (fun h101 => ?_)
  ·have q102 : (i100 < p.kids.length) := auq h101
   have z103 : ((i100 : Int) < (p.kids.length : Int)) := auz
   rw [if_pos q102] at hF
   have hF := ob hF; obtain ⟨x104, e105, hF⟩ := hF
   have le105 := lt_of_get e105
   repeat (first | refine chk.ga ?_ | simp -dsimp [h101, z103, ↓e105])
   refine ADraw.eff [133] [(0, 0), (0, 0), (0, 0), (0, 0), (0, 0), (0, 0), (0, 0), (0, 0), (0, 0), (0, 1), (1, 1), (1, 1), (1, 1), (1, 1), (1, 1)] [1, 1, 1, 1, 1, 1, 1, 1, 1, 1, 1, 1, 1, 1, 1] follows (by kernel_rfl) (by kernel_rfl) (by kernel_rfl) ?_
   have hF := ob hF; obtain ⟨x106, e107, hF⟩ := hF
   have le107 := lt_of_get e107
   repeat (first | refine chk.ga ?_ | simp -dsimp [h101, z103, ↓e105, ↓e107])
   have hF := ob hF; obtain ⟨v108, e109, hF⟩ := hF
   refine ((ih_impl_patternScan x106 x104 (IntKind.i64.wrap (deep + 1)) z98 v108 e109)).ego 0 rfl (by first | simp [h101, z103, ↓e105, ↓e107]; done | simp_all) (by simp) (by first | simp [h101, z103, ↓e105, ↓e107]; done | simp_all) ?_
   repeat (first | refine chk.ga ?_ | simp -dsimp [h101, z103, ↓e105, ↓e107])
   refine abr.split (fun h110 => ?_) (fun h110 => ?_)
   ·have q111 : ¬ (v108.2.1 = true) := auq h110
    rw [if_neg q111] at hF
    cases hF
    repeat (first | refine chk.ga ?_ | simp -dsimp [h101, z103, ↓e105, ↓e107, h110, q111])
    refine Leave.go _ (Gh.refl _) (hq _ ?_)
    repeat (first | refine chk.ga ?_ | simp -dsimp [h101, z103, ↓e105, ↓e107, h110, q111])
   ·have q111 : (v108.2.1 = true) := auq h110
    rw [if_pos q111] at hF
    repeat (first | refine chk.ga ?_ | simp -dsimp [h101, z103, ↓e105, ↓e107, h110, q111])
    refine abr.split (fun h112 => ?_) (fun h112 => ?_)
    ·have q113 : (p.op = 5) := auq h112
     rw [if_pos q113] at hF
     repeat (first | refine chk.ga ?_ | simp -dsimp [h101, z103, ↓e105, ↓e107, h110, q111, h112])
     refine abr.split (fun h114 => ?_) (fun h114 => ?_)
     ·have q115 : (i100 = 1) := auq h114
      have z116 : ((i100 : Int) = (1 : Int)) := auz
      rw [if_pos q115] at hF
      repeat (first | refine chk.ga ?_ | simp -dsimp [h101, z103, ↓e105, ↓e107, h110, q111, h112, eq_true h114, eq_true z116])
      have hF := ob hF; obtain ⟨v117, e118, hF⟩ := hF
      refine ((C.impl_sameVars B hB1 hB2 vars99 v108.1 v117 e118)).lend (by first | simp -dsimp [h101, z103, ↓e105, ↓e107, h110, q111, h112, eq_true h114, eq_true z116]; done | simp_all) (by simp -dsimp) ?_
      repeat (first | refine chk.ga ?_ | simp -dsimp [h101, z103, ↓e105, ↓e107, h110, q111, h112, eq_true h114, eq_true z116])
      refine abr.split (fun h119 => ?_) (fun h119 => ?_)
      ·have q120 : ¬ (v117 = true) := auq h119
       rw [if_neg q120] at hF
       cases hF
       repeat (first | refine chk.ga ?_ | simp -dsimp [h101, z103, ↓e105, ↓e107, h110, q111, h112, eq_true h114, eq_true z116, h119, q120])
       refine Leave.go _ (Gh.refl _) (hq _ ?_)
       repeat (first | refine chk.ga ?_ | simp -dsimp [h101, z103, ↓e105, ↓e107, h110, q111, h112, eq_true h114, eq_true z116, h119, q120])
      ·have q120 : (v117 = true) := auq h119
       rw [if_pos q120] at hF
       have w121 : IntKind.i64.wrap ((i100 : Int) + 1) = (i100 : Int) + 1 := wrap_in (by omega) (by omega)
       repeat (first | refine chk.ga ?_ | simp -dsimp [h101, z103, ↓e105, ↓e107, h110, q111, h112, eq_true h114, eq_true z116, h119, q120, w121])
       refine Again.go _ ?_ ((ih_impl_patternScan_l5 p deep v v108.2.2 vars99 (i100 + 1) o hF) _ rfl _ hq)
       exact (Gh.to3 (by simp) (by first | simp -dsimp [h101, z103, ↓e105, ↓e107, h110, q111, h112, eq_true h114, eq_true z116, h119, q120, w121]; done | simp_all))
     ·have q115 : ¬ (i100 = 1) := auq h114
      have z116 : ¬ ((i100 : Int) = (1 : Int)) := auz
      rw [if_neg q115] at hF
      have hF := oc hF; obtain ⟨c122, hF⟩ := hF
      have w123 : IntKind.i64.wrap ((i100 : Int) + 1) = (i100 : Int) + 1 := wrap_in (by omega) (by omega)
      repeat (first | refine chk.ga ?_ | simp -dsimp [h101, z103, ↓e105, ↓e107, h110, q111, h112, h114, q115, z116, w123])
      refine Again.go _ ?_ ((ih_impl_patternScan_l5 p deep v v108.2.2 (vars99 ++ v108.1) (i100 + 1) o hF) _ rfl _ hq)
      exact (Gh.to3 (by simp) (by first | simp -dsimp [h101, z103, ↓e105, ↓e107, h110, q111, h112, h114, q115, z116, w123]; done | simp_all))
    ·have q113 : ¬ (p.op = 5) := auq h112
     rw [if_neg q113] at hF
     have hF := oc hF; obtain ⟨c124, hF⟩ := hF
     have w125 : IntKind.i64.wrap ((i100 : Int) + 1) = (i100 : Int) + 1 := wrap_in (by omega) (by omega)
     repeat (first | refine chk.ga ?_ | simp -dsimp [h101, z103, ↓e105, ↓e107, h110, q111, h112, q113, w125])
     refine Again.go _ ?_ ((ih_impl_patternScan_l5 p deep v v108.2.2 (vars99 ++ v108.1) (i100 + 1) o hF) _ rfl _ hq)
     exact (Gh.to3 (by simp) (by first | simp -dsimp [h101, z103, ↓e105, ↓e107, h110, q111, h112, q113, w125]; done | simp_all))
  ·have q102 : ¬ (i100 < p.kids.length) := auq h101
   have z103 : ¬ ((i100 : Int) < (p.kids.length : Int)) := auz
   rw [if_neg q102] at hF
   cases hF
   repeat (first | refine chk.ga ?_ | simp -dsimp [h101, q102, z103])
   refine Leave.go ⟨[(14, .own 4 (List.length (α := Vl.VarType) vars99))], [.cells [.lit (.int .i64 z98)], .dead, .dead, .dead, .elems 3 (List.map Vl.VarType.c vars99)]⟩ (Gh.to3 (by simp) (by first | simp -dsimp [h101, q102, z103]; done | simp_all)) ?_
   exact hq

theorem C.impl_patternVars (w : List Vl.Data) (t : Vl.Ty) (p : Vl.Pattern) (r : (List Vl.VarType) × Bool) (hF : F.impl_patternVars w t p = some r) : PureCall Tryz.prog B 106 [.arr (List.map Vl.Data.c w), .agg [.lit (.int .i64 t.data), .lit (.int .i64 t.index)], .agg [.lit (.int .i64 p.op), .lit (.int .i64 p.ctor), .lit (.int .i64 p.n), .lit (.int .i64 p.m), .lit (.int .i64 p.var), .arr (List.map Vl.Pattern.c p.kids)]] (.tup [.arr (List.map Vl.VarType.c r.1), .lit (.bool r.2)]) := by
 unfold F.impl_patternVars at hF
 refine PureCall.enterLe Tryz.func106 (by kernel_rfl) rfl Tryz.ntmps106 (by simp) (by simp) ?_
 repeat (first | refine chk.ga ?_ | simp -dsimp)
 have hF := ob hF; obtain ⟨v, e1, hF⟩ := hF
 refine (((CC.impl_patternScan B hB1 hB2 w).1 t p (1 : Int) (0 : Int) v e1)).go 2 rfl (by simp) (by simp) (by simp) ?_
 cases hF
 repeat (first | refine chk.ga ?_ | simp -dsimp)
 all_goals (try first | omega | rfl)

theorem C.impl_guardOk (g : Vl.Guard) (vars : List Vl.VarType) (r : Bool) (hF : F.impl_guardOk g vars = some r) : PureCall Tryz.prog B 107 [.agg [.lit (.int .i64 g.op), .lit (.int .i64 g.var), .lit (.int .i64 g.n)], .arr (List.map Vl.VarType.c vars)] (.lit (.bool r)) := by
 unfold F.impl_guardOk at hF
 refine PureCall.enterLe Tryz.func107 (by kernel_rfl) rfl Tryz.ntmps107 (by simp) (by simp) ?_
 repeat (first | refine chk.ga ?_ | simp -dsimp)
 refine abr.split (fun h1 => ?_) (fun h1 => ?_)
 ·have q2 : (g.op = 0) := auq h1
  rw [if_pos q2] at hF
  cases hF
  repeat (first | refine chk.ga ?_ | simp -dsimp [h1])
  all_goals (try first | omega | rfl)
 ·have q2 : ¬ (g.op = 0) := auq h1
  rw [if_neg q2] at hF
  repeat (first | refine chk.ga ?_ | simp -dsimp [h1, q2])
  have hF := ob hF; obtain ⟨v, e3, hF⟩ := hF
  refine ((C.impl_within B hB1 hB2 g.op (1 : Int) (2 : Int) v e3)).goW (by first | simp [h1, q2]; done | simp_all) (by simp) ?_
  repeat (first | refine chk.ga ?_ | simp -dsimp [h1, q2])
  refine abr.split (fun h4 => ?_) (fun h4 => ?_)
  ·have q5 : (v = true) := auq h4
   rw [if_pos q5] at hF
   repeat (first | refine chk.ga ?_ | simp -dsimp [h1, q2, h4])
   have hF := ob hF; obtain ⟨v6, e7, hF⟩ := hF
   refine ((C.impl_within B hB1 hB2 g.n (0 : Int) (9 : Int) v6 e7)).goW (by first | simp [h1, q2, h4]; done | simp_all) (by simp) ?_
   repeat (first | refine chk.ga ?_ | simp -dsimp [h1, q2, h4])
   refine abr.split (fun h8 => ?_) (fun h8 => ?_)
   ·have q9 : (v6 = true) := auq h8
    rw [if_pos q9] at hF
    repeat (first | refine chk.ga ?_ | simp -dsimp [h1, q2, h4, h8])
    have hF := ob hF; obtain ⟨v10, e11, hF⟩ := hF
    refine ((C.slices_Contains_VarType B hB1 hB2 vars (⟨g.var, (⟨(-1 : Int), (0 : Int)⟩ : Vl.Ty)⟩ : Vl.VarType) v10 e11)).goW (by first | simp [h1, q2, h4, h8]; done | simp_all) (by simp) ?_
    cases hF
    repeat (first | refine chk.ga ?_ | simp -dsimp [h1, q2, h4, h8])
    all_goals (try first | omega | rfl)
   ·have q9 : ¬ (v6 = true) := auq h8
    rw [if_neg q9] at hF
    cases hF
    repeat (first | refine chk.ga ?_ | simp -dsimp [h1, q2, h4, h8, q9])
    all_goals (try first | omega | rfl)
  ·have q5 : ¬ (v = true) := auq h4
   rw [if_neg q5] at hF
   cases hF
   repeat (first | refine chk.ga ?_ | simp -dsimp [h1, q2, h4, q5])
   all_goals (try first | omega | rfl)

theorem C.impl_clauseOk (w : List Vl.Data) (t : Vl.Ty) (c' : Vl.Clause) (r : Bool) (hF : F.impl_clauseOk w t c' = some r) : PureCall Tryz.prog B 70 [.arr (List.map Vl.Data.c w), .agg [.lit (.int .i64 t.data), .lit (.int .i64 t.index)], .agg [.lit (.int .i64 c'.pat.op), .lit (.int .i64 c'.pat.ctor), .lit (.int .i64 c'.pat.n), .lit (.int .i64 c'.pat.m), .lit (.int .i64 c'.pat.var), .arr (List.map Vl.Pattern.c c'.pat.kids), .lit (.int .i64 c'.guard.op), .lit (.int .i64 c'.guard.var), .lit (.int .i64 c'.guard.n)]] (.lit (.bool r)) := by
 unfold F.impl_clauseOk at hF
 refine PureCall.enterLe Tryz.func70 (by kernel_rfl) rfl Tryz.ntmps70 (by simp) (by simp) ?_
 repeat (first | refine chk.ga ?_ | simp -dsimp)
 have hF := ob hF; obtain ⟨v, e1, hF⟩ := hF
 refine ((C.impl_patternVars B hB1 hB2 w t c'.pat v e1)).goW (by simp) (by simp) ?_
 repeat (first | refine chk.ga ?_ | simp -dsimp)
 refine abr.split (fun h2 => ?_) (fun h2 => ?_)
 ·have q3 : (v.2 = true) := auq h2
  rw [if_pos q3] at hF
  repeat (first | refine chk.ga ?_ | simp -dsimp [h2])
  have hF := ob hF; obtain ⟨v4, e5, hF⟩ := hF
  refine ((C.impl_guardOk B hB1 hB2 c'.guard v.1 v4 e5)).goW (by first | simp [h2]; done | simp_all) (by simp) ?_
  cases hF
  repeat (first | refine chk.ga ?_ | simp -dsimp [h2])
  all_goals (try first | omega | rfl)
 ·have q3 : ¬ (v.2 = true) := auq h2
  rw [if_neg q3] at hF
  cases hF
  repeat (first | refine chk.ga ?_ | simp -dsimp [h2, q3])
  all_goals (try first | omega | rfl)

theorem C.impl_ClausesValid_1 (c' : Vl.Clause) (a1 : List Vl.Data) (a2 : Vl.Ty) (r : Bool) (hF : F.impl_ClausesValid_1 c' a1 a2 = some r) : PureCall Tryz.prog B 69 [.agg [.lit (.int .i64 c'.pat.op), .lit (.int .i64 c'.pat.ctor), .lit (.int .i64 c'.pat.n), .lit (.int .i64 c'.pat.m), .lit (.int .i64 c'.pat.var), .arr (List.map Vl.Pattern.c c'.pat.kids), .lit (.int .i64 c'.guard.op), .lit (.int .i64 c'.guard.var), .lit (.int .i64 c'.guard.n)], .rptr [.arr (List.map Vl.Data.c a1)] 0, .rptr [.lit (.int .i64 a2.data), .lit (.int .i64 a2.index)] 0] (.lit (.bool r)) := by
 unfold F.impl_ClausesValid_1 at hF
 refine PureCall.enterLe Tryz.func69 (by kernel_rfl) rfl Tryz.ntmps69 (by simp) (by simp) ?_
 repeat (first | refine chk.ga ?_ | simp -dsimp)
 have hF := ob hF; obtain ⟨v, e1, hF⟩ := hF
 refine ((C.impl_clauseOk B hB1 hB2 a1 a2 c' v e1)).goW (by simp) (by simp) ?_
 cases hF
 repeat (first | refine chk.ga ?_ | simp -dsimp)
 all_goals (try first | omega | rfl)

theorem CC.slices_IndexFunc_Clause__impl_ClausesValid_1_l1 (s : List Vl.Clause) (k0 : List Vl.Data) (k1 : Vl.Ty) : (∀ (i : Nat) (o : Lo Int Unit), F.slices_IndexFunc_Clause__impl_ClausesValid_1_l1 s k0 k1 i = some o → ∀ (c : Code), navO [1, 0, 1, 0, 0] (bodyOf Tryz.f105) = some c → ∀ (Q : Exit → ASt → Prop), o.post (fun r => ∀ st, Post Tryz.prog Tryz.f105 (fun r' _ => r'.le (.lit (.int .i64 r))) .ret st → Q .ret st) (fun s => Q (.exit 0) ⟨[], []⟩) → ALoopU Tryz.prog B 0 19 (hold c .mk) ⟨[(0, .arr (List.map Vl.Clause.c s)), (1, .fn (.func 69) [] [.rptr [.arr (List.map Vl.Data.c k0)] 0, .rptr [.lit (.int .i64 k1.data), .lit (.int .i64 k1.index)] 0]), (7, .lit (.int .i64 (s.length : Int))), (8, .lit (.int .i64 (i : Int)))], []⟩ (hold Q .mk)) := by
 refine F.slices_IndexFunc_Clause__impl_ClausesValid_1_l1.partial_correctness s k0 k1
  _
  ?_
 ·intro _f_slices_IndexFunc_Clause__impl_ClausesValid_1_l1 ih_slices_IndexFunc_Clause__impl_ClausesValid_1_l1 i o hF
  intro c hc Q hq
  obtain rfl : c = _ := navEq hc rfl
  refine ALoopU.know fun hk hs => ?_
  have b0 := hk 0
  simp -dsimp at b0
  clear hk hs
  refine ALoopU.enter ?_
  repeat (first | refine chk.ga ?_ | simp -dsimp)
  refine abr.split (fun h1 => ?_) (fun h1 => ?_)
  ·have q2 : (i < s.length) := auq h1
   have z3 : ((i : Int) < (s.length : Int)) := auz
   rw [if_pos q2] at hF
   have hF := ob hF; obtain ⟨x, e4, hF⟩ := hF
   have le4 := lt_of_get e4
   repeat (first | refine chk.ga ?_ | simp -dsimp [h1, z3, ↓e4])
   have hF := ob hF; obtain ⟨v, e5, hF⟩ := hF
   refine ((C.impl_ClausesValid_1 B hB1 hB2 x k0 k1 v e5)).goW (by first | simp [h1, z3, ↓e4]; done | simp_all) (by simp) ?_
   repeat (first | refine chk.ga ?_ | simp -dsimp [h1, z3, ↓e4])
   refine abr.split (fun h6 => ?_) (fun h6 => ?_)
   ·have q7 : (v = true) := auq h6
    rw [if_pos q7] at hF
    cases hF
    repeat (first | refine chk.ga ?_ | simp -dsimp [h1, z3, ↓e4, h6])
    refine Leave.go _ (Gh.refl _) (hq _ ?_)
    repeat (first | refine chk.ga ?_ | simp -dsimp [h1, z3, ↓e4, h6])
   ·have q7 : ¬ (v = true) := auq h6
    rw [if_neg q7] at hF
    have w8 : IntKind.i64.wrap ((i : Int) + 1) = (i : Int) + 1 := wrap_in (by omega) (by omega)
    repeat (first | refine chk.ga ?_ | simp -dsimp [h1, z3, ↓e4, h6, q7, w8])
    refine Again.go _ ?_ ((ih_slices_IndexFunc_Clause__impl_ClausesValid_1_l1 (i + 1) o hF) _ rfl _ hq)
    exact (Gh.to3 (by simp) (by first | simp -dsimp [h1, z3, ↓e4, h6, q7, w8]; done | simp_all))
  ·have q2 : ¬ (i < s.length) := auq h1
   have z3 : ¬ ((i : Int) < (s.length : Int)) := auz
   rw [if_neg q2] at hF
   cases hF
   repeat (first | refine chk.ga ?_ | simp -dsimp [h1, q2, z3])
   refine Leave.go ⟨[], []⟩ (Gh.to3 (by simp) (by first | simp -dsimp [h1, q2, z3]; done | simp_all)) ?_
   exact hq

theorem C.slices_IndexFunc_Clause__impl_ClausesValid_1 (s : List Vl.Clause) (k0 : List Vl.Data) (k1 : Vl.Ty) (r : Int) (hF : F.slices_IndexFunc_Clause__impl_ClausesValid_1 s k0 k1 = some r) : PureCall Tryz.prog B 105 [.arr (List.map Vl.Clause.c s), .fn (.func 69) [] [.rptr [.arr (List.map Vl.Data.c k0)] 0, .rptr [.lit (.int .i64 k1.data), .lit (.int .i64 k1.index)] 0]] (.lit (.int .i64 r)) := by
 unfold F.slices_IndexFunc_Clause__impl_ClausesValid_1 at hF
 refine PureCall.enterLe Tryz.func105 (by kernel_rfl) rfl Tryz.ntmps105 (by simp) (by simp) ?_
 repeat (first | refine chk.ga ?_ | simp -dsimp)
 have hF := ob hF; obtain ⟨o', ho9, hF⟩ := hF
 refine ALoop.goU _ ?_ (((CC.slices_IndexFunc_Clause__impl_ClausesValid_1_l1 B hB1 hB2 s k0 k1) 0 o' ho9) _ rfl _ ?_)
 ·exact (Gh.to3 (by simp) (by simp -dsimp))
 rcases o' with r0 | sx
 ·dsimp only at hF
  cases hF
  intro st h
  simpa using h
 ·dsimp only at hF
  cases hF
  repeat (first | refine chk.ga ?_ | simp -dsimp)
  all_goals (try first | omega | rfl)

theorem C.slices_ContainsFunc_Clause__impl_ClausesValid_1 (s : List Vl.Clause) (k0 : List Vl.Data) (k1 : Vl.Ty) (r : Bool) (hF : F.slices_ContainsFunc_Clause__impl_ClausesValid_1 s k0 k1 = some r) : PureCall Tryz.prog B 68 [.arr (List.map Vl.Clause.c s), .fn (.func 69) [] [.rptr [.arr (List.map Vl.Data.c k0)] 0, .rptr [.lit (.int .i64 k1.data), .lit (.int .i64 k1.index)] 0]] (.lit (.bool r)) := by
 unfold F.slices_ContainsFunc_Clause__impl_ClausesValid_1 at hF
 refine PureCall.enterLe Tryz.func68 (by kernel_rfl) rfl Tryz.ntmps68 (by simp) (by simp) ?_
 repeat (first | refine chk.ga ?_ | simp -dsimp)
 have hF := ob hF; obtain ⟨v, e1, hF⟩ := hF
 refine ((C.slices_IndexFunc_Clause__impl_ClausesValid_1 B hB1 hB2 s k0 k1 v e1)).goW (by simp) (by simp) ?_
 cases hF
 repeat (first | refine chk.ga ?_ | simp -dsimp)
 all_goals (try first | omega | rfl)

theorem C.impl_ClausesValid (w : List Vl.Data) (t : Vl.Ty) (list : List Vl.Clause) (r : Bool) (hF : F.impl_ClausesValid w t list = some r) : PureCall Tryz.prog B 43 [.arr (List.map Vl.Data.c w), .agg [.lit (.int .i64 t.data), .lit (.int .i64 t.index)], .arr (List.map Vl.Clause.c list)] (.lit (.bool r)) := by
 unfold F.impl_ClausesValid at hF
 refine PureCall.enterLe Tryz.func43 (by kernel_rfl) rfl Tryz.ntmps43 (by simp) (by simp) ?_
 repeat (first | refine chk.ga ?_ | simp -dsimp)
 have hF := ob hF; obtain ⟨v, e1, hF⟩ := hF
 refine ((C.impl_TypeValid B hB1 hB2 w t v e1)).goW (by simp) (by simp) ?_
 repeat (first | refine chk.ga ?_ | simp -dsimp)
 refine abr.split (fun h2 => ?_) (fun h2 => ?_)
 ·have q3 : (v = true) := auq h2
  rw [if_pos q3] at hF
  repeat (first | refine chk.ga ?_ | simp -dsimp [h2])
  refine abr.split (fun h4 => ?_) (fun h4 => ?_)
  ·have q5 : (list.length ≤ 8) := auq h4
   have z6 : ((list.length : Int) ≤ (8 : Int)) := auz
   rw [if_pos q5] at hF
   repeat (first | refine chk.ga ?_ | simp -dsimp [h2, h4, z6])
   have hF := ob hF; obtain ⟨v7, e8, hF⟩ := hF
   refine ((C.slices_ContainsFunc_Clause__impl_ClausesValid_1 B hB1 hB2 list w t v7 e8)).lend (by first | simp -dsimp [h2, h4, z6]; done | simp_all) (by simp -dsimp) ?_
   cases hF
   repeat (first | refine chk.ga ?_ | simp -dsimp [h2, h4, z6])
   all_goals (try first | omega | rfl)
  ·have q5 : ¬ (list.length ≤ 8) := auq h4
   have z6 : ¬ ((list.length : Int) ≤ (8 : Int)) := auz
   rw [if_neg q5] at hF
   cases hF
   repeat (first | refine chk.ga ?_ | simp -dsimp [h2, h4, q5, z6])
   all_goals (try first | omega | rfl)
 ·have q3 : ¬ (v = true) := auq h2
  rw [if_neg q3] at hF
  cases hF
  repeat (first | refine chk.ga ?_ | simp -dsimp [h2, q3])
  all_goals (try first | omega | rfl)

theorem C.impl_kidTypes (w : List Vl.Data) (t : Vl.Ty) (p : Vl.Pattern) (r : List Vl.Ty) (hF : F.impl_kidTypes w t p = some r) : PureCall Tryz.prog B 108 [.arr (List.map Vl.Data.c w), .agg [.lit (.int .i64 t.data), .lit (.int .i64 t.index)], .agg [.lit (.int .i64 p.op), .lit (.int .i64 p.ctor), .lit (.int .i64 p.n), .lit (.int .i64 p.m), .lit (.int .i64 p.var), .arr (List.map Vl.Pattern.c p.kids)]] (.arr (List.map Vl.Ty.c r)) := by
 unfold F.impl_kidTypes at hF
 refine PureCall.enterLe Tryz.func108 (by kernel_rfl) rfl Tryz.ntmps108 (by simp) (by simp) ?_
 repeat (first | refine chk.ga ?_ | simp -dsimp)
 have hF := ob hF; obtain ⟨v, e1, hF⟩ := hF
 refine ((C.impl_shape B hB1 hB2 w t p v e1)).goW (by simp) (by simp) ?_
 cases hF
 repeat (first | refine chk.ga ?_ | simp -dsimp)
 all_goals (try first | omega | rfl)

theorem C.impl_letter (v : Int) (r : ByteArray) (hF : F.impl_letter v = some r) : PureCall Tryz.prog B 58 [.lit (.int .i64 v)] (.lit (.string r)) := by
 unfold F.impl_letter at hF
 refine PureCall.enterLe Tryz.func58 (by kernel_rfl) rfl Tryz.ntmps58 (by simp) (by simp) ?_
 cases hF
 repeat (first | refine chk.ga ?_ | simp -dsimp)
 all_goals (try first | omega | rfl)

theorem C.strconv_Itoa (i : Int) (r : ByteArray) (hF : F.strconv_Itoa i = some r) : PureCall Tryz.prog B 57 [.lit (.int .i64 i)] (.lit (.string r)) := by
 unfold F.strconv_Itoa at hF
 have hF := oc hF; obtain ⟨c1, hF⟩ := hF
 cases hF
 exact shelf_itoa Tryz.lays171 ⟨Tryz.f57, Tryz.func57, by kernel_rfl, by kernel_rfl⟩ c1.1 c1.2

theorem C.impl_rangeText (n : Int) (m : Int) (r : ByteArray) (hF : F.impl_rangeText n m = some r) : PureCall Tryz.prog B 109 [.lit (.int .i64 n), .lit (.int .i64 m)] (.lit (.string r)) := by
 unfold F.impl_rangeText at hF
 refine PureCall.enterLe Tryz.func109 (by kernel_rfl) rfl Tryz.ntmps109 (by simp) (by simp) ?_
 repeat (first | refine chk.ga ?_ | simp -dsimp)
 refine abr.split (fun h1 => ?_) (fun h1 => ?_)
 ·have q2 : (n = m) := auq h1
  rw [if_pos q2] at hF
  repeat (first | refine chk.ga ?_ | simp -dsimp [h1])
  have hF := ob hF; obtain ⟨v, e3, hF⟩ := hF
  refine ((C.strconv_Itoa B hB1 hB2 n v e3)).goW (by first | simp [h1]; done | simp_all) (by simp) ?_
  cases hF
  repeat (first | refine chk.ga ?_ | simp -dsimp [h1])
  all_goals (try first | omega | rfl)
 ·have q2 : ¬ (n = m) := auq h1
  rw [if_neg q2] at hF
  repeat (first | refine chk.ga ?_ | simp -dsimp [h1, q2])
  have hF := ob hF; obtain ⟨v4, e5, hF⟩ := hF
  refine ((C.strconv_Itoa B hB1 hB2 n v4 e5)).goW (by first | simp [h1, q2]; done | simp_all) (by simp) ?_
  have hF := oc hF; obtain ⟨c6, hF⟩ := hF
  repeat (first | refine chk.ga ?_ | simp -dsimp [h1, q2])
  have hF := ob hF; obtain ⟨v7, e8, hF⟩ := hF
  refine ((C.strconv_Itoa B hB1 hB2 m v7 e8)).goW (by first | simp [h1, q2]; done | simp_all) (by simp) ?_
  have hF := oc hF; obtain ⟨c9, hF⟩ := hF
  cases hF
  repeat (first | refine chk.ga ?_ | simp -dsimp [h1, q2])
  all_goals (try first | omega | rfl)

theorem C.strings_Join (elems : List ByteArray) (sep : ByteArray) (r : ByteArray) (hF : F.strings_Join elems sep = some r) : PureCall Tryz.prog B 73 [.arr (List.map cS elems), .lit (.string sep)] (.lit (.string r)) := by
 unfold F.strings_Join at hF
 have hF := oc hF; obtain ⟨c1, hF⟩ := hF
 cases hF
 exact shelf_join Tryz.lays156 Tryz.Builder_Extra_156 ⟨Tryz.f73, Tryz.func73, by kernel_rfl, by kernel_rfl⟩ c1

theorem C.impl_listed (list : List ByteArray) (r : ByteArray) (hF : F.impl_listed list = some r) : PureCall Tryz.prog B 59 [.arr (List.map cS list)] (.lit (.string r)) := by
 unfold F.impl_listed at hF
 refine PureCall.enterLe Tryz.func59 (by kernel_rfl) rfl Tryz.ntmps59 (by simp) (by simp) ?_
 repeat (first | refine chk.ga ?_ | simp -dsimp)
 refine abr.split (fun h1 => ?_) (fun h1 => ?_)
 ·have q2 : (list.length = 0) := auq h1
  have z3 : ((list.length : Int) = (0 : Int)) := auz
  rw [if_pos q2] at hF
  cases hF
  repeat (first | refine chk.ga ?_ | simp -dsimp [h1, z3])
  all_goals (try first | omega | rfl)
 ·have q2 : ¬ (list.length = 0) := auq h1
  have z3 : ¬ ((list.length : Int) = (0 : Int)) := auz
  rw [if_neg q2] at hF
  repeat (first | refine chk.ga ?_ | simp -dsimp [h1, q2, z3])
  have hF := ob hF; obtain ⟨v, e4, hF⟩ := hF
  refine ((C.strings_Join B hB1 hB2 list (⟨#[44]⟩ : ByteArray) v e4)).goW (by first | simp [h1, q2, z3]; done | simp_all) (by simp) ?_
  have hF := oc hF; obtain ⟨c5, hF⟩ := hF
  have hF := oc hF; obtain ⟨c6, hF⟩ := hF
  cases hF
  repeat (first | refine chk.ga ?_ | simp -dsimp [h1, q2, z3])
  all_goals (try first | omega | rfl)

theorem CC.impl_patternText (w : List Vl.Data) : (∀ (t : Vl.Ty) (p : Vl.Pattern) (r : ByteArray), F.impl_patternText w t p = some r → PureCall Tryz.prog B 71 [.arr (List.map Vl.Data.c w), .agg [.lit (.int .i64 t.data), .lit (.int .i64 t.index)], .agg [.lit (.int .i64 p.op), .lit (.int .i64 p.ctor), .lit (.int .i64 p.n), .lit (.int .i64 p.m), .lit (.int .i64 p.var), .arr (List.map Vl.Pattern.c p.kids)]] (.lit (.string r))) ∧
  (∀ (t : Vl.Ty) (p : Vl.Pattern) (v : List Vl.Ty) (i : Nat) (kids : List ByteArray) (o : List ByteArray), F.impl_patternText_l1 w t p v i kids = some o → ∀ (c : Code), navO [1, 1, 1, 0, 1, 0, 0] (bodyOf Tryz.f71) = some c → ∀ (Q : Exit → ASt → Prop), (Q (.exit 0) ⟨[(0, .arr (List.map Vl.Data.c w)), (4, .ptr 0 0), (5, .ptr 1 0), (8, .own 2 (List.length (α := ByteArray) o))], [.cells [.lit (.int .i64 t.data), .lit (.int .i64 t.index)], .cells [.lit (.int .i64 p.op), .lit (.int .i64 p.ctor), .lit (.int .i64 p.n), .lit (.int .i64 p.m), .lit (.int .i64 p.var), .arr (List.map Vl.Pattern.c p.kids)], .elems 1 (List.map cS o)]⟩) → ALoopU Tryz.prog B 0 86 (hold c .mk) ⟨[(0, .arr (List.map Vl.Data.c w)), (4, .ptr 0 0), (5, .ptr 1 0), (7, .arr (List.map Vl.Ty.c v)), (8, .own 2 (List.length (α := ByteArray) kids)), (16, .arr (List.map Vl.Pattern.c p.kids)), (17, .lit (.int .i64 (p.kids.length : Int))), (18, .lit (.int .i64 (i : Int)))], [.cells [.lit (.int .i64 t.data), .lit (.int .i64 t.index)], .cells [.lit (.int .i64 p.op), .lit (.int .i64 p.ctor), .lit (.int .i64 p.n), .lit (.int .i64 p.m), .lit (.int .i64 p.var), .arr (List.map Vl.Pattern.c p.kids)], .elems 1 (List.map cS kids)]⟩ (hold Q .mk)) := by
 refine F.impl_patternText.mutual_partial_correctness w
  _ _
  ?_ ?_
 ·intro _f_impl_patternText_l1 ih_impl_patternText_l1 t p r hF
  refine PureCall.enterLe Tryz.func71 (by kernel_rfl) rfl Tryz.ntmps71 (by simp) (by simp) ?_
  repeat (first | refine chk.ga ?_ | simp -dsimp)
  have hF := ob hF; obtain ⟨v, e1, hF⟩ := hF
  refine ((C.impl_kidTypes B hB1 hB2 w t p v e1)).goW (by simp) (by simp) ?_
  repeat (first | refine chk.ga ?_ | simp -dsimp)
  have hF := ob hF; obtain ⟨o', ho12, hF⟩ := hF
  refine ALoop.goU ⟨[(0, .arr (List.map Vl.Data.c w)), (4, .ptr 0 0), (5, .ptr 1 0), (7, .arr (List.map Vl.Ty.c v)), (8, .own 2 (List.length (α := ByteArray) [])), (16, .arr (List.map Vl.Pattern.c p.kids)), (17, .lit (.int .i64 (p.kids.length : Int))), (18, .lit (.int .i64 (0 : Int)))], [.cells [.lit (.int .i64 t.data), .lit (.int .i64 t.index)], .cells [.lit (.int .i64 p.op), .lit (.int .i64 p.ctor), .lit (.int .i64 p.n), .lit (.int .i64 p.m), .lit (.int .i64 p.var), .arr (List.map Vl.Pattern.c p.kids)], .elems 1 (List.map cS [])]⟩ (by refine Gh.trans (Gh.nil 8 1 (by simp -dsimp)) ?_; exact (Gh.to3 (by simp) (by simp -dsimp))) ?_
  refine (ih_impl_patternText_l1 t p v 0 [] o' ho12) _ rfl _ ?_
  repeat (first | refine chk.ga ?_ | simp -dsimp)
  refine abr.split (fun h13 => ?_) (fun h13 => ?_)
  ·have q14 : (p.op = 1) := auq h13
   rw [if_pos q14] at hF
   cases hF
   repeat (first | refine chk.ga ?_ | simp -dsimp [h13])
   all_goals (try first | omega | rfl)
  ·have q14 : ¬ (p.op = 1) := auq h13
   rw [if_neg q14] at hF
   repeat (first | refine chk.ga ?_ | simp -dsimp [h13, q14])
   refine abr.split (fun h15 => ?_) (fun h15 => ?_)
   ·have q16 : (p.op = 2) := auq h15
    rw [if_pos q16] at hF
    repeat (first | refine chk.ga ?_ | simp -dsimp [h13, q14, h15])
    have hF := ob hF; obtain ⟨v17, e18, hF⟩ := hF
    refine ((C.impl_letter B hB1 hB2 p.var v17 e18)).goW (by first | simp [h13, q14, h15]; done | simp_all) (by simp) ?_
    cases hF
    repeat (first | refine chk.ga ?_ | simp -dsimp [h13, q14, h15])
    all_goals (try first | omega | rfl)
   ·have q16 : ¬ (p.op = 2) := auq h15
    rw [if_neg q16] at hF
    repeat (first | refine chk.ga ?_ | simp -dsimp [h13, q14, h15, q16])
    refine abr.split (fun h19 => ?_) (fun h19 => ?_)
    ·have q20 : (p.op = 3) := auq h19
     rw [if_pos q20] at hF
     repeat (first | refine chk.ga ?_ | simp -dsimp [h13, q14, h15, q16, h19])
     have hF := ob hF; obtain ⟨v21, e22, hF⟩ := hF
     refine ((C.impl_rangeText B hB1 hB2 p.n p.m v21 e22)).goW (by first | simp [h13, q14, h15, q16, h19]; done | simp_all) (by simp) ?_
     cases hF
     repeat (first | refine chk.ga ?_ | simp -dsimp [h13, q14, h15, q16, h19])
     all_goals (try first | omega | rfl)
    ·have q20 : ¬ (p.op = 3) := auq h19
     rw [if_neg q20] at hF
     repeat (first | refine chk.ga ?_ | simp -dsimp [h13, q14, h15, q16, h19, q20])
     refine abr.split (fun h23 => ?_) (fun h23 => ?_)
     ·have q24 : (p.op = 4) := auq h23
      rw [if_pos q24] at hF
      repeat (first | refine chk.ga ?_ | simp -dsimp [h13, q14, h15, q16, h19, q20, h23])
      refine ADraw.eff [59] [(0, 1), (0, 1), (0, 1), (0, 1), (0, 1), (0, 1), (0, 1), (0, 1), (0, 1), (0, 1), (0, 1), (0, 0), (0, 1), (1, 1), (1, 1)] [1, 0, 2, 0, 0, 0, 0, 2, 0, 0, 0, 1, 1, 1, 1] follows (by kernel_rfl) (by kernel_rfl) (by kernel_rfl) ?_
      have hF := ob hF; obtain ⟨x25, e26a, hF⟩ := hF
      have e26a := at_some e26a; obtain ⟨ne26, e26⟩ := e26a
      have le26 := lt_of_get e26
      have hF := ob hF; obtain ⟨x27, e28a, hF⟩ := hF
      have e28a := at_some e28a; obtain ⟨ne28, e28⟩ := e28a
      have le28 := lt_of_get e28
      repeat (first | refine chk.ga ?_ | simp -dsimp [h13, q14, h15, q16, h19, q20, h23, ↓e26, ↓e28])
      have hF := ob hF; obtain ⟨v29, e30, hF⟩ := hF
      refine ((C.impl_listed B hB1 hB2 o' v29 e30)).elend (by first | simp -dsimp [h13, q14, h15, q16, h19, q20, h23, ↓e26, ↓e28]; done | simp_all) (by simp -dsimp) ?_
      have hF := oc hF; obtain ⟨c31, hF⟩ := hF
      cases hF
      repeat (first | refine chk.ga ?_ | simp -dsimp [h13, q14, h15, q16, h19, q20, h23, ↓e26, ↓e28])
      all_goals (try first | omega | rfl)
     ·have q24 : ¬ (p.op = 4) := auq h23
      rw [if_neg q24] at hF
      repeat (first | refine chk.ga ?_ | simp -dsimp [h13, q14, h15, q16, h19, q20, h23, q24])
      refine abr.split (fun h32 => ?_) (fun h32 => ?_)
      ·have q33 : (p.op = 5) := auq h32
       rw [if_pos q33] at hF
       repeat (first | refine chk.ga ?_ | simp -dsimp [h13, q14, h15, q16, h19, q20, h23, q24, h32])
       refine ADraw.simple follows (by kernel_rfl) (by kernel_rfl) ?_
       have hF := ob hF; obtain ⟨x34, e35, hF⟩ := hF
       have le35 := lt_of_get e35
       have hF := oc hF; obtain ⟨c36, hF⟩ := hF
       have hF := oc hF; obtain ⟨c37, hF⟩ := hF
       have hF := ob hF; obtain ⟨x38, e39, hF⟩ := hF
       have le39 := lt_of_get e39
       have hF := oc hF; obtain ⟨c40, hF⟩ := hF
       have hF := oc hF; obtain ⟨c41, hF⟩ := hF
       cases hF
       repeat (first | refine chk.ga ?_ | simp -dsimp [h13, q14, h15, q16, h19, q20, h23, q24, h32, ↓e35, ↓e39])
       all_goals (try first | omega | rfl)
      ·have q33 : ¬ (p.op = 5) := auq h32
       rw [if_neg q33] at hF
       repeat (first | refine chk.ga ?_ | simp -dsimp [h13, q14, h15, q16, h19, q20, h23, q24, h32, q33])
       refine ADraw.simple follows (by kernel_rfl) (by kernel_rfl) ?_
       repeat (first | refine chk.ga ?_ | simp -dsimp [h13, q14, h15, q16, h19, q20, h23, q24, h32, q33])
       have hF := ob hF; obtain ⟨v42, e43, hF⟩ := hF
       refine ((C.impl_letter B hB1 hB2 p.var v42 e43)).pgoW (by first | simp [h13, q14, h15, q16, h19, q20, h23, q24, h32, q33]; done | simp_all) (by simp) ?_
       have hF := oc hF; obtain ⟨c44, hF⟩ := hF
       have hF := ob hF; obtain ⟨x45, e46, hF⟩ := hF
       have le46 := lt_of_get e46
       have hF := oc hF; obtain ⟨c47, hF⟩ := hF
       cases hF
       repeat (first | refine chk.ga ?_ | simp -dsimp [h13, q14, h15, q16, h19, q20, h23, q24, h32, q33, ↓e46])
       all_goals (try first | omega | rfl)
 ·intro _f_impl_patternText _f_impl_patternText_l1 ih_impl_patternText ih_impl_patternText_l1 t p v i kids o hF
  intro c hc Q hq
  obtain rfl : c = _ := navEq hc rfl
  refine ALoopU.know fun hk hs => ?_
  have b0 := hk 0
  simp -dsimp at b0
  have b7 := hk 7
  simp -dsimp at b7
  have b16 := hk 16
  simp -dsimp at b16
  have d1 := hs 1 _ rfl
  simp -dsimp [Blk.bnd] at d1
  have d2 := hs 2 _ rfl
  simp -dsimp [Blk.bnd] at d2
  clear hk hs
  refine ALoopU.enter ?_
  repeat (first | refine chk.ga ?_ | simp -dsimp)
  refine abr.split (fun h2 => ?_) (fun h2 => ?_)
  ·have q3 : (i < p.kids.length) := auq h2
   have z4 : ((i : Int) < (p.kids.length : Int)) := auz
   rw [if_pos q3] at hF
   have hF := ob hF; obtain ⟨x, e5, hF⟩ := hF
   have le5 := lt_of_get e5
   repeat (first | refine chk.ga ?_ | simp -dsimp [h2, z4, ↓e5])
   refine ADraw.eff [] [(0, 1), (0, 0), (0, 0), (0, 0), (0, 0), (0, 0), (0, 0), (0, 2), (0, 2), (0, 2), (2, 2)] [1, 1, 1, 1, 1, 1, 1, 1, 1, 1, 1] follows (by kernel_rfl) (by kernel_rfl) (by kernel_rfl) ?_
   have hF := ob hF; obtain ⟨x6, e7, hF⟩ := hF
   have le7 := lt_of_get e7
   repeat (first | refine chk.ga ?_ | simp -dsimp [h2, z4, ↓e5, ↓e7])
   have hF := ob hF; obtain ⟨v8, e9, hF⟩ := hF
   refine ((ih_impl_patternText x6 x v8 e9)).pgoW (by first | simp [h2, z4, ↓e5, ↓e7]; done | simp_all) (by simp) ?_
   have hF := oc hF; obtain ⟨c10, hF⟩ := hF
   have w11 : IntKind.i64.wrap ((i : Int) + 1) = (i : Int) + 1 := wrap_in (by omega) (by omega)
   repeat (first | refine chk.ga ?_ | simp -dsimp [h2, z4, ↓e5, ↓e7, w11])
   refine Again.go _ ?_ ((ih_impl_patternText_l1 t p v (i + 1) (kids ++ [v8]) o hF) _ rfl _ hq)
   exact (Gh.to3 (by simp) (by first | simp -dsimp [h2, z4, ↓e5, ↓e7, w11]; done | simp_all))
  ·have q3 : ¬ (i < p.kids.length) := auq h2
   have z4 : ¬ ((i : Int) < (p.kids.length : Int)) := auz
   rw [if_neg q3] at hF
   cases hF
   repeat (first | refine chk.ga ?_ | simp -dsimp [h2, q3, z4])
   refine Leave.go ⟨[(0, .arr (List.map Vl.Data.c w)), (4, .ptr 0 0), (5, .ptr 1 0), (8, .own 2 (List.length (α := ByteArray) kids))], [.cells [.lit (.int .i64 t.data), .lit (.int .i64 t.index)], .cells [.lit (.int .i64 p.op), .lit (.int .i64 p.ctor), .lit (.int .i64 p.n), .lit (.int .i64 p.m), .lit (.int .i64 p.var), .arr (List.map Vl.Pattern.c p.kids)], .elems 1 (List.map cS kids)]⟩ (Gh.to3 (by simp) (by first | simp -dsimp [h2, q3, z4]; done | simp_all)) ?_
   exact hq

theorem C.impl_guardText (g : Vl.Guard) (r : ByteArray) (hF : F.impl_guardText g = some r) : PureCall Tryz.prog B 72 [.agg [.lit (.int .i64 g.op), .lit (.int .i64 g.var), .lit (.int .i64 g.n)]] (.lit (.string r)) := by
 unfold F.impl_guardText at hF
 refine PureCall.enterLe Tryz.func72 (by kernel_rfl) rfl Tryz.ntmps72 (by simp) (by simp) ?_
 repeat (first | refine chk.ga ?_ | simp -dsimp)
 refine abr.split (fun h1 => ?_) (fun h1 => ?_)
 ·have q2 : (g.op = 1) := auq h1
  rw [if_pos q2] at hF
  repeat (first | refine chk.ga ?_ | simp -dsimp [h1])
  refine ADraw.simple follows (by kernel_rfl) (by kernel_rfl) ?_
  repeat (first | refine chk.ga ?_ | simp -dsimp [h1])
  have hF := ob hF; obtain ⟨v, e3, hF⟩ := hF
  refine ((C.impl_letter B hB1 hB2 g.var v e3)).pgoW (by first | simp [h1]; done | simp_all) (by simp) ?_
  have hF := oc hF; obtain ⟨c4, hF⟩ := hF
  repeat (first | refine chk.ga ?_ | simp -dsimp [h1])
  have hF := ob hF; obtain ⟨v5, e6, hF⟩ := hF
  refine ((C.strconv_Itoa B hB1 hB2 g.n v5 e6)).pgoW (by first | simp [h1]; done | simp_all) (by simp) ?_
  have hF := oc hF; obtain ⟨c7, hF⟩ := hF
  cases hF
  repeat (first | refine chk.ga ?_ | simp -dsimp [h1])
  all_goals (try first | omega | rfl)
 ·have q2 : ¬ (g.op = 1) := auq h1
  rw [if_neg q2] at hF
  repeat (first | refine chk.ga ?_ | simp -dsimp [h1, q2])
  refine ADraw.simple follows (by kernel_rfl) (by kernel_rfl) ?_
  repeat (first | refine chk.ga ?_ | simp -dsimp [h1, q2])
  have hF := ob hF; obtain ⟨v8, e9, hF⟩ := hF
  refine ((C.impl_letter B hB1 hB2 g.var v8 e9)).pgoW (by first | simp [h1, q2]; done | simp_all) (by simp) ?_
  have hF := oc hF; obtain ⟨c10, hF⟩ := hF
  repeat (first | refine chk.ga ?_ | simp -dsimp [h1, q2])
  have hF := ob hF; obtain ⟨v11, e12, hF⟩ := hF
  refine ((C.strconv_Itoa B hB1 hB2 g.n v11 e12)).pgoW (by first | simp [h1, q2]; done | simp_all) (by simp) ?_
  have hF := oc hF; obtain ⟨c13, hF⟩ := hF
  cases hF
  repeat (first | refine chk.ga ?_ | simp -dsimp [h1, q2])
  all_goals (try first | omega | rfl)

theorem CC.impl_clausesText_l1 (w : List Vl.Data) (t : Vl.Ty) (list : List Vl.Clause) : (∀ (i : Nat) (out : List ByteArray) (o : List ByteArray), F.impl_clausesText_l1 w t list i out = some o → ∀ (c : Code), navO [1, 1, 0, 1, 0, 0] (bodyOf Tryz.f44) = some c → ∀ (Q : Exit → ASt → Prop), (Q (.exit 0) ⟨[(7, .own 1 (List.length (α := ByteArray) o))], [.dead, .elems 1 (List.map cS o)]⟩) → ALoopU Tryz.prog B 0 39 (hold c .mk) ⟨[(0, .arr (List.map Vl.Data.c w)), (4, .ptr 0 0), (7, .own 1 (List.length (α := ByteArray) out)), (11, .arr (List.map Vl.Clause.c list)), (12, .lit (.int .i64 (list.length : Int))), (13, .lit (.int .i64 (i : Int)))], [.cells [.lit (.int .i64 t.data), .lit (.int .i64 t.index)], .elems 1 (List.map cS out)]⟩ (hold Q .mk)) := by
 refine F.impl_clausesText_l1.partial_correctness w t list
  _
  ?_
 ·intro _f_impl_clausesText_l1 ih_impl_clausesText_l1 i out o hF
  intro c hc Q hq
  obtain rfl : c = _ := navEq hc rfl
  refine ALoopU.know fun hk hs => ?_
  have b0 := hk 0
  simp -dsimp at b0
  have b11 := hk 11
  simp -dsimp at b11
  have d1 := hs 1 _ rfl
  simp -dsimp [Blk.bnd] at d1
  clear hk hs
  refine ALoopU.enter ?_
  repeat (first | refine chk.ga ?_ | simp -dsimp)
  refine abr.split (fun h1 => ?_) (fun h1 => ?_)
  ·have q2 : (i < list.length) := auq h1
   have z3 : ((i : Int) < (list.length : Int)) := auz
   rw [if_pos q2] at hF
   have hF := ob hF; obtain ⟨x, e4, hF⟩ := hF
   have le4 := lt_of_get e4
   repeat (first | refine chk.ga ?_ | simp -dsimp [h1, z3, ↓e4])
   have hF := ob hF; obtain ⟨v, e5, hF⟩ := hF
   refine (((CC.impl_patternText B hB1 hB2 w).1 t x.pat v e5)).goW (by first | simp [h1, z3, ↓e4]; done | simp_all) (by simp) ?_
   repeat (first | refine chk.ga ?_ | simp -dsimp [h1, z3, ↓e4])
   refine abr.split (fun h6 => ?_) (fun h6 => ?_)
   ·have q7 : ¬ (x.guard.op = 0) := auq h6
    rw [if_neg q7] at hF
    repeat (first | refine chk.ga ?_ | simp -dsimp [h1, z3, ↓e4, h6, q7])
    have hF := ob hF; obtain ⟨v8, e9, hF⟩ := hF
    refine ((C.impl_guardText B hB1 hB2 x.guard v8 e9)).goW (by first | simp [h1, z3, ↓e4, h6, q7]; done | simp_all) (by simp) ?_
    have hF := oc hF; obtain ⟨c10, hF⟩ := hF
    have hF := oc hF; obtain ⟨c11, hF⟩ := hF
    have hF := oc hF; obtain ⟨c12, hF⟩ := hF
    have w13 : IntKind.i64.wrap ((i : Int) + 1) = (i : Int) + 1 := wrap_in (by omega) (by omega)
    repeat (first | refine chk.ga ?_ | simp -dsimp [h1, z3, ↓e4, h6, q7, w13])
    refine Again.go _ ?_ ((ih_impl_clausesText_l1 (i + 1) (out ++ [v ++ ((⟨#[32]⟩ : ByteArray) ++ v8)]) o hF) _ rfl _ hq)
    exact (Gh.to3 (by simp) (by first | simp -dsimp [h1, z3, ↓e4, h6, q7, w13]; done | simp_all))
   ·have q7 : (x.guard.op = 0) := auq h6
    rw [if_pos q7] at hF
    have hF := oc hF; obtain ⟨c14, hF⟩ := hF
    have w15 : IntKind.i64.wrap ((i : Int) + 1) = (i : Int) + 1 := wrap_in (by omega) (by omega)
    repeat (first | refine chk.ga ?_ | simp -dsimp [h1, z3, ↓e4, h6, q7, w15])
    refine Again.go _ ?_ ((ih_impl_clausesText_l1 (i + 1) (out ++ [v]) o hF) _ rfl _ hq)
    exact (Gh.to3 (by simp) (by first | simp -dsimp [h1, z3, ↓e4, h6, q7, w15]; done | simp_all))
  ·have q2 : ¬ (i < list.length) := auq h1
   have z3 : ¬ ((i : Int) < (list.length : Int)) := auz
   rw [if_neg q2] at hF
   cases hF
   repeat (first | refine chk.ga ?_ | simp -dsimp [h1, q2, z3])
   refine Leave.go ⟨[(7, .own 1 (List.length (α := ByteArray) out))], [.dead, .elems 1 (List.map cS out)]⟩ (Gh.to3 (by simp) (by first | simp -dsimp [h1, q2, z3]; done | simp_all)) ?_
   exact hq

theorem C.impl_clausesText (w : List Vl.Data) (t : Vl.Ty) (list : List Vl.Clause) (r : ByteArray) (hF : F.impl_clausesText w t list = some r) : PureCall Tryz.prog B 44 [.arr (List.map Vl.Data.c w), .agg [.lit (.int .i64 t.data), .lit (.int .i64 t.index)], .arr (List.map Vl.Clause.c list)] (.lit (.string r)) := by
 unfold F.impl_clausesText at hF
 refine PureCall.enterLe Tryz.func44 (by kernel_rfl) rfl Tryz.ntmps44 (by simp) (by simp) ?_
 repeat (first | refine chk.ga ?_ | simp -dsimp)
 have hF := ob hF; obtain ⟨o', ho16, hF⟩ := hF
 refine ALoop.goU ⟨[(0, .arr (List.map Vl.Data.c w)), (4, .ptr 0 0), (7, .own 1 (List.length (α := ByteArray) [])), (11, .arr (List.map Vl.Clause.c list)), (12, .lit (.int .i64 (list.length : Int))), (13, .lit (.int .i64 (0 : Int)))], [.cells [.lit (.int .i64 t.data), .lit (.int .i64 t.index)], .elems 1 (List.map cS [])]⟩ (by refine Gh.trans (Gh.nil 7 1 (by simp -dsimp)) ?_; exact (Gh.to3 (by simp) (by simp -dsimp))) ?_
 refine ((CC.impl_clausesText_l1 B hB1 hB2 w t list) 0 [] o' ho16) _ rfl _ ?_
 repeat (first | refine chk.ga ?_ | simp -dsimp)
 have hF := ob hF; obtain ⟨v17, e18, hF⟩ := hF
 refine ((C.strings_Join B hB1 hB2 o' (⟨#[47]⟩ : ByteArray) v17 e18)).lend (by simp -dsimp) (by simp -dsimp) ?_
 cases hF
 repeat (first | refine chk.ga ?_ | simp -dsimp)
 all_goals (try first | omega | rfl)

theorem C.impl_FormatClauses (w : List Vl.Data) (t : Vl.Ty) (list : List Vl.Clause) (r : ByteArray) (hF : F.impl_FormatClauses w t list = some r) : PureCall Tryz.prog B 23 [.arr (List.map Vl.Data.c w), .agg [.lit (.int .i64 t.data), .lit (.int .i64 t.index)], .arr (List.map Vl.Clause.c list)] (.lit (.string r)) := by
 unfold F.impl_FormatClauses at hF
 refine PureCall.enterLe Tryz.func23 (by kernel_rfl) rfl Tryz.ntmps23 (by simp) (by simp) ?_
 repeat (first | refine chk.ga ?_ | simp -dsimp)
 have hF := ob hF; obtain ⟨v, e1, hF⟩ := hF
 refine ((C.impl_ClausesValid B hB1 hB2 w t list v e1)).goW (by simp) (by simp) ?_
 repeat (first | refine chk.ga ?_ | simp -dsimp)
 refine abr.split (fun h2 => ?_) (fun h2 => ?_)
 ·have q3 : ¬ (v = true) := auq h2
  rw [if_neg q3] at hF
  cases hF
  repeat (first | refine chk.ga ?_ | simp -dsimp [h2, q3])
  all_goals (try first | omega | rfl)
 ·have q3 : (v = true) := auq h2
  rw [if_pos q3] at hF
  repeat (first | refine chk.ga ?_ | simp -dsimp [h2, q3])
  have hF := ob hF; obtain ⟨v4, e5, hF⟩ := hF
  refine ((C.impl_clausesText B hB1 hB2 w t list v4 e5)).goW (by first | simp [h2, q3]; done | simp_all) (by simp) ?_
  cases hF
  repeat (first | refine chk.ga ?_ | simp -dsimp [h2, q3])
  all_goals (try first | omega | rfl)

theorem C.laws_eqType (a : Vl.Ty) (b : Vl.Ty) (r : Bool) (hF : F.laws_eqType a b = some r) : PureCall Tryz.prog B 61 [.agg [.lit (.int .i64 a.data), .lit (.int .i64 a.index)], .agg [.lit (.int .i64 b.data), .lit (.int .i64 b.index)]] (.lit (.bool r)) := by
 unfold F.laws_eqType at hF
 refine PureCall.enterLe Tryz.func61 (by kernel_rfl) rfl Tryz.ntmps61 (by simp) (by simp) ?_
 repeat (first | refine chk.ga ?_ | simp -dsimp)
 refine abr.split (fun h1 => ?_) (fun h1 => ?_)
 ·have q2 : ¬ (a.data = b.data) := auq h1
  rw [if_neg q2] at hF
  cases hF
  repeat (first | refine chk.ga ?_ | simp -dsimp [h1, q2])
  all_goals (try first | omega | rfl)
 ·have q2 : (a.data = b.data) := auq h1
  rw [if_pos q2] at hF
  repeat (first | refine chk.ga ?_ | simp -dsimp [h1, q2])
  refine abr.split (fun h3 => ?_) (fun h3 => ?_)
  ·have q4 : ¬ (a.index = b.index) := auq h3
   rw [if_neg q4] at hF
   cases hF
   repeat (first | refine chk.ga ?_ | simp -dsimp [h1, q2, h3, q4])
   all_goals (try first | omega | rfl)
  ·have q4 : (a.index = b.index) := auq h3
   rw [if_pos q4] at hF
   cases hF
   repeat (first | refine chk.ga ?_ | simp -dsimp [h1, q2, h3, q4])
   all_goals (try first | omega | rfl)

theorem CC.laws_eqTypeS_l1 (a : List Vl.Ty) (b : List Vl.Ty) : (∀ (i : Nat) (o : Lo Bool Unit), F.laws_eqTypeS_l1 a b i = some o → ∀ (c : Code), navO [1, 1, 0, 1, 0, 0] (bodyOf Tryz.f124) = some c → ∀ (Q : Exit → ASt → Prop), o.post (fun r => ∀ st, Post Tryz.prog Tryz.f124 (fun r' _ => r'.le (.lit (.bool r))) .ret st → Q .ret st) (fun s => Q (.exit 0) ⟨[], []⟩) → ALoopU Tryz.prog B 0 27 (hold c .mk) ⟨[(0, .arr (List.map Vl.Ty.c a)), (1, .arr (List.map Vl.Ty.c b)), (5, .lit (.int .i64 (i : Int)))], []⟩ (hold Q .mk)) := by
 refine F.laws_eqTypeS_l1.partial_correctness a b
  _
  ?_
 ·intro _f_laws_eqTypeS_l1 ih_laws_eqTypeS_l1 i o hF
  intro c hc Q hq
  obtain rfl : c = _ := navEq hc rfl
  refine ALoopU.know fun hk hs => ?_
  have b0 := hk 0
  simp -dsimp at b0
  have b1 := hk 1
  simp -dsimp at b1
  clear hk hs
  refine ALoopU.enter ?_
  repeat (first | refine chk.ga ?_ | simp -dsimp)
  refine abr.split (fun h4 => ?_) (fun h4 => ?_)
  ·have q5 : (i < a.length) := auq h4
   have z6 : ((i : Int) < (a.length : Int)) := auz
   rw [if_pos q5] at hF
   repeat (first | refine chk.ga ?_ | simp -dsimp [h4, z6])
   refine ADraw.simple follows (by kernel_rfl) (by kernel_rfl) ?_
   have hF := ob hF; obtain ⟨x, e7, hF⟩ := hF
   have le7 := lt_of_get e7
   have hF := ob hF; obtain ⟨x8, e9, hF⟩ := hF
   have le9 := lt_of_get e9
   repeat (first | refine chk.ga ?_ | simp -dsimp [h4, z6, ↓e7, ↓e9])
   have hF := ob hF; obtain ⟨v, e10, hF⟩ := hF
   refine ((C.laws_eqType B hB1 hB2 x x8 v e10)).pgoW (by first | simp [h4, z6, ↓e7, ↓e9]; done | simp_all) (by simp) ?_
   repeat (first | refine chk.ga ?_ | simp -dsimp [h4, z6, ↓e7, ↓e9])
   refine abr.split (fun h11 => ?_) (fun h11 => ?_)
   ·have q12 : ¬ (v = true) := auq h11
    rw [if_neg q12] at hF
    cases hF
    repeat (first | refine chk.ga ?_ | simp -dsimp [h4, z6, ↓e7, ↓e9, h11, q12])
    refine Leave.go _ (Gh.refl _) (hq _ ?_)
    repeat (first | refine chk.ga ?_ | simp -dsimp [h4, z6, ↓e7, ↓e9, h11, q12])
   ·have q12 : (v = true) := auq h11
    rw [if_pos q12] at hF
    have w13 : IntKind.i64.wrap ((i : Int) + 1) = (i : Int) + 1 := wrap_in (by omega) (by omega)
    repeat (first | refine chk.ga ?_ | simp -dsimp [h4, z6, ↓e7, ↓e9, h11, q12, w13])
    refine Again.go _ ?_ ((ih_laws_eqTypeS_l1 (i + 1) o hF) _ rfl _ hq)
    exact (Gh.to3 (by simp) (by first | simp -dsimp [h4, z6, ↓e7, ↓e9, h11, q12, w13]; done | simp_all))
  ·have q5 : ¬ (i < a.length) := auq h4
   have z6 : ¬ ((i : Int) < (a.length : Int)) := auz
   rw [if_neg q5] at hF
   cases hF
   repeat (first | refine chk.ga ?_ | simp -dsimp [h4, q5, z6])
   refine Leave.go ⟨[], []⟩ (Gh.to3 (by simp) (by first | simp -dsimp [h4, q5, z6]; done | simp_all)) ?_
   exact hq

theorem C.laws_eqTypeS (a : List Vl.Ty) (b : List Vl.Ty) (r : Bool) (hF : F.laws_eqTypeS a b = some r) : PureCall Tryz.prog B 124 [.arr (List.map Vl.Ty.c a), .arr (List.map Vl.Ty.c b)] (.lit (.bool r)) := by
 unfold F.laws_eqTypeS at hF
 refine PureCall.enterLe Tryz.func124 (by kernel_rfl) rfl Tryz.ntmps124 (by simp) (by simp) ?_
 repeat (first | refine chk.ga ?_ | simp -dsimp)
 refine abr.split (fun h1 => ?_) (fun h1 => ?_)
 ·have q2 : ¬ (a.length = b.length) := auq h1
  have z3 : ¬ ((a.length : Int) = (b.length : Int)) := auz
  rw [if_neg q2] at hF
  cases hF
  repeat (first | refine chk.ga ?_ | simp -dsimp [h1, q2, z3])
  all_goals (try first | omega | rfl)
 ·have q2 : (a.length = b.length) := auq h1
  have z3 : ((a.length : Int) = (b.length : Int)) := auz
  rw [if_pos q2] at hF
  repeat (first | refine chk.ga ?_ | simp -dsimp [h1, q2, z3])
  have hF := ob hF; obtain ⟨o', ho14, hF⟩ := hF
  refine ALoop.goU _ ?_ (((CC.laws_eqTypeS_l1 B hB1 hB2 a b) 0 o' ho14) _ rfl _ ?_)
  ·exact (Gh.to3 (by simp) (by first | simp -dsimp [h1, q2, z3]; done | simp_all))
  rcases o' with r0 | sx
  ·dsimp only at hF
   cases hF
   intro st h
   simpa using h
  ·dsimp only at hF
   cases hF
   repeat (first | refine chk.ga ?_ | simp -dsimp)
   all_goals (try first | omega | rfl)

theorem C.laws_eqCtor (a : Vl.Ctor) (b : Vl.Ctor) (r : Bool) (hF : F.laws_eqCtor a b = some r) : PureCall Tryz.prog B 96 [.agg [.lit (.string a.name), .arr (List.map Vl.Ty.c a.args), .lit (.int .i64 a.index)], .agg [.lit (.string b.name), .arr (List.map Vl.Ty.c b.args), .lit (.int .i64 b.index)]] (.lit (.bool r)) := by
 unfold F.laws_eqCtor at hF
 refine PureCall.enterLe Tryz.func96 (by kernel_rfl) rfl Tryz.ntmps96 (by simp) (by simp) ?_
 repeat (first | refine chk.ga ?_ | simp -dsimp)
 refine abr.split (fun h1 => ?_) (fun h1 => ?_)
 ·have q2 : ¬ (a.name.toList = b.name.toList) := auq h1
  rw [if_neg q2] at hF
  cases hF
  repeat (first | refine chk.ga ?_ | simp -dsimp [h1, q2])
  all_goals (try first | omega | rfl)
 ·have q2 : (a.name.toList = b.name.toList) := auq h1
  rw [if_pos q2] at hF
  repeat (first | refine chk.ga ?_ | simp -dsimp [h1, q2])
  have hF := ob hF; obtain ⟨v, e3, hF⟩ := hF
  refine ((C.laws_eqTypeS B hB1 hB2 a.args b.args v e3)).goW (by first | simp [h1, q2]; done | simp_all) (by simp) ?_
  repeat (first | refine chk.ga ?_ | simp -dsimp [h1, q2])
  refine abr.split (fun h4 => ?_) (fun h4 => ?_)
  ·have q5 : ¬ (v = true) := auq h4
   rw [if_neg q5] at hF
   cases hF
   repeat (first | refine chk.ga ?_ | simp -dsimp [h1, q2, h4, q5])
   all_goals (try first | omega | rfl)
  ·have q5 : (v = true) := auq h4
   rw [if_pos q5] at hF
   repeat (first | refine chk.ga ?_ | simp -dsimp [h1, q2, h4, q5])
   refine abr.split (fun h6 => ?_) (fun h6 => ?_)
   ·have q7 : ¬ (a.index = b.index) := auq h6
    rw [if_neg q7] at hF
    cases hF
    repeat (first | refine chk.ga ?_ | simp -dsimp [h1, q2, h4, q5, h6, q7])
    all_goals (try first | omega | rfl)
   ·have q7 : (a.index = b.index) := auq h6
    rw [if_pos q7] at hF
    cases hF
    repeat (first | refine chk.ga ?_ | simp -dsimp [h1, q2, h4, q5, h6, q7])
    all_goals (try first | omega | rfl)

theorem CC.laws_eqCtorS_l1 (a : List Vl.Ctor) (b : List Vl.Ctor) : (∀ (i : Nat) (o : Lo Bool Unit), F.laws_eqCtorS_l1 a b i = some o → ∀ (c : Code), navO [1, 1, 0, 1, 0, 0] (bodyOf Tryz.f60) = some c → ∀ (Q : Exit → ASt → Prop), o.post (fun r => ∀ st, Post Tryz.prog Tryz.f60 (fun r' _ => r'.le (.lit (.bool r))) .ret st → Q .ret st) (fun s => Q (.exit 0) ⟨[], []⟩) → ALoopU Tryz.prog B 0 27 (hold c .mk) ⟨[(0, .arr (List.map Vl.Ctor.c a)), (1, .arr (List.map Vl.Ctor.c b)), (5, .lit (.int .i64 (i : Int)))], []⟩ (hold Q .mk)) := by
 refine F.laws_eqCtorS_l1.partial_correctness a b
  _
  ?_
 ·intro _f_laws_eqCtorS_l1 ih_laws_eqCtorS_l1 i o hF
  intro c hc Q hq
  obtain rfl : c = _ := navEq hc rfl
  refine ALoopU.know fun hk hs => ?_
  have b0 := hk 0
  simp -dsimp at b0
  have b1 := hk 1
  simp -dsimp at b1
  clear hk hs
  refine ALoopU.enter ?_
  repeat (first | refine chk.ga ?_ | simp -dsimp)
  refine abr.split (fun h4 => ?_) (fun h4 => ?_)
  ·have q5 : (i < a.length) := auq h4
   have z6 : ((i : Int) < (a.length : Int)) := auz
   rw [if_pos q5] at hF
   repeat (first | refine chk.ga ?_ | simp -dsimp [h4, z6])
   refine ADraw.simple follows (by kernel_rfl) (by kernel_rfl) ?_
   have hF := ob hF; obtain ⟨x, e7, hF⟩ := hF
   have le7 := lt_of_get e7
   have hF := ob hF; obtain ⟨x8, e9, hF⟩ := hF
   have le9 := lt_of_get e9
   repeat (first | refine chk.ga ?_ | simp -dsimp [h4, z6, ↓e7, ↓e9])
   have hF := ob hF; obtain ⟨v, e10, hF⟩ := hF
   refine ((C.laws_eqCtor B hB1 hB2 x x8 v e10)).pgoW (by first | simp [h4, z6, ↓e7, ↓e9]; done | simp_all) (by simp) ?_
   repeat (first | refine chk.ga ?_ | simp -dsimp [h4, z6, ↓e7, ↓e9])
   refine abr.split (fun h11 => ?_) (fun h11 => ?_)
   ·have q12 : ¬ (v = true) := auq h11
    rw [if_neg q12] at hF
    cases hF
    repeat (first | refine chk.ga ?_ | simp -dsimp [h4, z6, ↓e7, ↓e9, h11, q12])
    refine Leave.go _ (Gh.refl _) (hq _ ?_)
    repeat (first | refine chk.ga ?_ | simp -dsimp [h4, z6, ↓e7, ↓e9, h11, q12])
   ·have q12 : (v = true) := auq h11
    rw [if_pos q12] at hF
    have w13 : IntKind.i64.wrap ((i : Int) + 1) = (i : Int) + 1 := wrap_in (by omega) (by omega)
    repeat (first | refine chk.ga ?_ | simp -dsimp [h4, z6, ↓e7, ↓e9, h11, q12, w13])
    refine Again.go _ ?_ ((ih_laws_eqCtorS_l1 (i + 1) o hF) _ rfl _ hq)
    exact (Gh.to3 (by simp) (by first | simp -dsimp [h4, z6, ↓e7, ↓e9, h11, q12, w13]; done | simp_all))
  ·have q5 : ¬ (i < a.length) := auq h4
   have z6 : ¬ ((i : Int) < (a.length : Int)) := auz
   rw [if_neg q5] at hF
   cases hF
   repeat (first | refine chk.ga ?_ | simp -dsimp [h4, q5, z6])
   refine Leave.go ⟨[], []⟩ (Gh.to3 (by simp) (by first | simp -dsimp [h4, q5, z6]; done | simp_all)) ?_
   exact hq

theorem C.laws_eqCtorS (a : List Vl.Ctor) (b : List Vl.Ctor) (r : Bool) (hF : F.laws_eqCtorS a b = some r) : PureCall Tryz.prog B 60 [.arr (List.map Vl.Ctor.c a), .arr (List.map Vl.Ctor.c b)] (.lit (.bool r)) := by
 unfold F.laws_eqCtorS at hF
 refine PureCall.enterLe Tryz.func60 (by kernel_rfl) rfl Tryz.ntmps60 (by simp) (by simp) ?_
 repeat (first | refine chk.ga ?_ | simp -dsimp)
 refine abr.split (fun h1 => ?_) (fun h1 => ?_)
 ·have q2 : ¬ (a.length = b.length) := auq h1
  have z3 : ¬ ((a.length : Int) = (b.length : Int)) := auz
  rw [if_neg q2] at hF
  cases hF
  repeat (first | refine chk.ga ?_ | simp -dsimp [h1, q2, z3])
  all_goals (try first | omega | rfl)
 ·have q2 : (a.length = b.length) := auq h1
  have z3 : ((a.length : Int) = (b.length : Int)) := auz
  rw [if_pos q2] at hF
  repeat (first | refine chk.ga ?_ | simp -dsimp [h1, q2, z3])
  have hF := ob hF; obtain ⟨o', ho14, hF⟩ := hF
  refine ALoop.goU _ ?_ (((CC.laws_eqCtorS_l1 B hB1 hB2 a b) 0 o' ho14) _ rfl _ ?_)
  ·exact (Gh.to3 (by simp) (by first | simp -dsimp [h1, q2, z3]; done | simp_all))
  rcases o' with r0 | sx
  ·dsimp only at hF
   cases hF
   intro st h
   simpa using h
  ·dsimp only at hF
   cases hF
   repeat (first | refine chk.ga ?_ | simp -dsimp)
   all_goals (try first | omega | rfl)

theorem C.laws_eqData (a : Vl.Data) (b : Vl.Data) (r : Bool) (hF : F.laws_eqData a b = some r) : PureCall Tryz.prog B 35 [.agg [.lit (.string a.name), .arr (List.map Vl.Ctor.c a.ctors)], .agg [.lit (.string b.name), .arr (List.map Vl.Ctor.c b.ctors)]] (.lit (.bool r)) := by
 unfold F.laws_eqData at hF
 refine PureCall.enterLe Tryz.func35 (by kernel_rfl) rfl Tryz.ntmps35 (by simp) (by simp) ?_
 repeat (first | refine chk.ga ?_ | simp -dsimp)
 refine abr.split (fun h1 => ?_) (fun h1 => ?_)
 ·have q2 : ¬ (a.name.toList = b.name.toList) := auq h1
  rw [if_neg q2] at hF
  cases hF
  repeat (first | refine chk.ga ?_ | simp -dsimp [h1, q2])
  all_goals (try first | omega | rfl)
 ·have q2 : (a.name.toList = b.name.toList) := auq h1
  rw [if_pos q2] at hF
  repeat (first | refine chk.ga ?_ | simp -dsimp [h1, q2])
  have hF := ob hF; obtain ⟨v, e3, hF⟩ := hF
  refine ((C.laws_eqCtorS B hB1 hB2 a.ctors b.ctors v e3)).goW (by first | simp [h1, q2]; done | simp_all) (by simp) ?_
  repeat (first | refine chk.ga ?_ | simp -dsimp [h1, q2])
  refine abr.split (fun h4 => ?_) (fun h4 => ?_)
  ·have q5 : ¬ (v = true) := auq h4
   rw [if_neg q5] at hF
   cases hF
   repeat (first | refine chk.ga ?_ | simp -dsimp [h1, q2, h4, q5])
   all_goals (try first | omega | rfl)
  ·have q5 : (v = true) := auq h4
   rw [if_pos q5] at hF
   cases hF
   repeat (first | refine chk.ga ?_ | simp -dsimp [h1, q2, h4, q5])
   all_goals (try first | omega | rfl)

theorem CC.laws_eqDataS_l1 (a : List Vl.Data) (b : List Vl.Data) : (∀ (i : Nat) (o : Lo Bool Unit), F.laws_eqDataS_l1 a b i = some o → ∀ (c : Code), navO [1, 1, 0, 1, 0, 0] (bodyOf Tryz.f16) = some c → ∀ (Q : Exit → ASt → Prop), o.post (fun r => ∀ st, Post Tryz.prog Tryz.f16 (fun r' _ => r'.le (.lit (.bool r))) .ret st → Q .ret st) (fun s => Q (.exit 0) ⟨[], []⟩) → ALoopU Tryz.prog B 0 27 (hold c .mk) ⟨[(0, .arr (List.map Vl.Data.c a)), (1, .arr (List.map Vl.Data.c b)), (5, .lit (.int .i64 (i : Int)))], []⟩ (hold Q .mk)) := by
 refine F.laws_eqDataS_l1.partial_correctness a b
  _
  ?_
 ·intro _f_laws_eqDataS_l1 ih_laws_eqDataS_l1 i o hF
  intro c hc Q hq
  obtain rfl : c = _ := navEq hc rfl
  refine ALoopU.know fun hk hs => ?_
  have b0 := hk 0
  simp -dsimp at b0
  have b1 := hk 1
  simp -dsimp at b1
  clear hk hs
  refine ALoopU.enter ?_
  repeat (first | refine chk.ga ?_ | simp -dsimp)
  refine abr.split (fun h4 => ?_) (fun h4 => ?_)
  ·have q5 : (i < a.length) := auq h4
   have z6 : ((i : Int) < (a.length : Int)) := auz
   rw [if_pos q5] at hF
   repeat (first | refine chk.ga ?_ | simp -dsimp [h4, z6])
   refine ADraw.simple follows (by kernel_rfl) (by kernel_rfl) ?_
   have hF := ob hF; obtain ⟨x, e7, hF⟩ := hF
   have le7 := lt_of_get e7
   have hF := ob hF; obtain ⟨x8, e9, hF⟩ := hF
   have le9 := lt_of_get e9
   repeat (first | refine chk.ga ?_ | simp -dsimp [h4, z6, ↓e7, ↓e9])
   have hF := ob hF; obtain ⟨v, e10, hF⟩ := hF
   refine ((C.laws_eqData B hB1 hB2 x x8 v e10)).pgoW (by first | simp [h4, z6, ↓e7, ↓e9]; done | simp_all) (by simp) ?_
   repeat (first | refine chk.ga ?_ | simp -dsimp [h4, z6, ↓e7, ↓e9])
   refine abr.split (fun h11 => ?_) (fun h11 => ?_)
   ·have q12 : ¬ (v = true) := auq h11
    rw [if_neg q12] at hF
    cases hF
    repeat (first | refine chk.ga ?_ | simp -dsimp [h4, z6, ↓e7, ↓e9, h11, q12])
    refine Leave.go _ (Gh.refl _) (hq _ ?_)
    repeat (first | refine chk.ga ?_ | simp -dsimp [h4, z6, ↓e7, ↓e9, h11, q12])
   ·have q12 : (v = true) := auq h11
    rw [if_pos q12] at hF
    have w13 : IntKind.i64.wrap ((i : Int) + 1) = (i : Int) + 1 := wrap_in (by omega) (by omega)
    repeat (first | refine chk.ga ?_ | simp -dsimp [h4, z6, ↓e7, ↓e9, h11, q12, w13])
    refine Again.go _ ?_ ((ih_laws_eqDataS_l1 (i + 1) o hF) _ rfl _ hq)
    exact (Gh.to3 (by simp) (by first | simp -dsimp [h4, z6, ↓e7, ↓e9, h11, q12, w13]; done | simp_all))
  ·have q5 : ¬ (i < a.length) := auq h4
   have z6 : ¬ ((i : Int) < (a.length : Int)) := auz
   rw [if_neg q5] at hF
   cases hF
   repeat (first | refine chk.ga ?_ | simp -dsimp [h4, q5, z6])
   refine Leave.go ⟨[], []⟩ (Gh.to3 (by simp) (by first | simp -dsimp [h4, q5, z6]; done | simp_all)) ?_
   exact hq

theorem C.laws_eqDataS (a : List Vl.Data) (b : List Vl.Data) (r : Bool) (hF : F.laws_eqDataS a b = some r) : PureCall Tryz.prog B 16 [.arr (List.map Vl.Data.c a), .arr (List.map Vl.Data.c b)] (.lit (.bool r)) := by
 unfold F.laws_eqDataS at hF
 refine PureCall.enterLe Tryz.func16 (by kernel_rfl) rfl Tryz.ntmps16 (by simp) (by simp) ?_
 repeat (first | refine chk.ga ?_ | simp -dsimp)
 refine abr.split (fun h1 => ?_) (fun h1 => ?_)
 ·have q2 : ¬ (a.length = b.length) := auq h1
  have z3 : ¬ ((a.length : Int) = (b.length : Int)) := auz
  rw [if_neg q2] at hF
  cases hF
  repeat (first | refine chk.ga ?_ | simp -dsimp [h1, q2, z3])
  all_goals (try first | omega | rfl)
 ·have q2 : (a.length = b.length) := auq h1
  have z3 : ((a.length : Int) = (b.length : Int)) := auz
  rw [if_pos q2] at hF
  repeat (first | refine chk.ga ?_ | simp -dsimp [h1, q2, z3])
  have hF := ob hF; obtain ⟨o', ho14, hF⟩ := hF
  refine ALoop.goU _ ?_ (((CC.laws_eqDataS_l1 B hB1 hB2 a b) 0 o' ho14) _ rfl _ ?_)
  ·exact (Gh.to3 (by simp) (by first | simp -dsimp [h1, q2, z3]; done | simp_all))
  rcases o' with r0 | sx
  ·dsimp only at hF
   cases hF
   intro st h
   simpa using h
  ·dsimp only at hF
   cases hF
   repeat (first | refine chk.ga ?_ | simp -dsimp)
   all_goals (try first | omega | rfl)

theorem CC.laws_eqPattern  : (∀ (a : Vl.Pattern) (b : Vl.Pattern) (r : Bool), F.laws_eqPattern a b = some r → PureCall Tryz.prog B 74 [.agg [.lit (.int .i64 a.op), .lit (.int .i64 a.ctor), .lit (.int .i64 a.n), .lit (.int .i64 a.m), .lit (.int .i64 a.var), .arr (List.map Vl.Pattern.c a.kids)], .agg [.lit (.int .i64 b.op), .lit (.int .i64 b.ctor), .lit (.int .i64 b.n), .lit (.int .i64 b.m), .lit (.int .i64 b.var), .arr (List.map Vl.Pattern.c b.kids)]] (.lit (.bool r))) ∧
  (∀ (a : List Vl.Pattern) (b : List Vl.Pattern) (r : Bool), F.laws_eqPatternS a b = some r → PureCall Tryz.prog B 113 [.arr (List.map Vl.Pattern.c a), .arr (List.map Vl.Pattern.c b)] (.lit (.bool r))) ∧
  (∀ (a : List Vl.Pattern) (b : List Vl.Pattern) (i : Nat) (o : Lo Bool Unit), F.laws_eqPatternS_l1 a b i = some o → ∀ (c : Code), navO [1, 1, 0, 1, 0, 0] (bodyOf Tryz.f113) = some c → ∀ (Q : Exit → ASt → Prop), o.post (fun r => ∀ st, Post Tryz.prog Tryz.f113 (fun r' _ => r'.le (.lit (.bool r))) .ret st → Q .ret st) (fun s => Q (.exit 0) ⟨[], []⟩) → ALoopU Tryz.prog B 0 27 (hold c .mk) ⟨[(0, .arr (List.map Vl.Pattern.c a)), (1, .arr (List.map Vl.Pattern.c b)), (5, .lit (.int .i64 (i : Int)))], []⟩ (hold Q .mk)) := by
 refine F.laws_eqPattern.mutual_partial_correctness 
  _ _ _
  ?_ ?_ ?_
 ·intro _f_laws_eqPatternS ih_laws_eqPatternS a b r hF
  refine PureCall.enterLe Tryz.func74 (by kernel_rfl) rfl Tryz.ntmps74 (by simp) (by simp) ?_
  repeat (first | refine chk.ga ?_ | simp -dsimp)
  refine abr.split (fun h1 => ?_) (fun h1 => ?_)
  ·have q2 : ¬ (a.op = b.op) := auq h1
   rw [if_neg q2] at hF
   cases hF
   repeat (first | refine chk.ga ?_ | simp -dsimp [h1, q2])
   all_goals (try first | omega | rfl)
  ·have q2 : (a.op = b.op) := auq h1
   rw [if_pos q2] at hF
   repeat (first | refine chk.ga ?_ | simp -dsimp [h1, q2])
   refine abr.split (fun h3 => ?_) (fun h3 => ?_)
   ·have q4 : ¬ (a.ctor = b.ctor) := auq h3
    rw [if_neg q4] at hF
    cases hF
    repeat (first | refine chk.ga ?_ | simp -dsimp [h1, q2, h3, q4])
    all_goals (try first | omega | rfl)
   ·have q4 : (a.ctor = b.ctor) := auq h3
    rw [if_pos q4] at hF
    repeat (first | refine chk.ga ?_ | simp -dsimp [h1, q2, h3, q4])
    refine abr.split (fun h5 => ?_) (fun h5 => ?_)
    ·have q6 : ¬ (a.n = b.n) := auq h5
     rw [if_neg q6] at hF
     cases hF
     repeat (first | refine chk.ga ?_ | simp -dsimp [h1, q2, h3, q4, h5, q6])
     all_goals (try first | omega | rfl)
    ·have q6 : (a.n = b.n) := auq h5
     rw [if_pos q6] at hF
     repeat (first | refine chk.ga ?_ | simp -dsimp [h1, q2, h3, q4, h5, q6])
     refine abr.split (fun h7 => ?_) (fun h7 => ?_)
     ·have q8 : ¬ (a.m = b.m) := auq h7
      rw [if_neg q8] at hF
      cases hF
      repeat (first | refine chk.ga ?_ | simp -dsimp [h1, q2, h3, q4, h5, q6, h7, q8])
      all_goals (try first | omega | rfl)
     ·have q8 : (a.m = b.m) := auq h7
      rw [if_pos q8] at hF
      repeat (first | refine chk.ga ?_ | simp -dsimp [h1, q2, h3, q4, h5, q6, h7, q8])
      refine abr.split (fun h9 => ?_) (fun h9 => ?_)
      ·have q10 : ¬ (a.var = b.var) := auq h9
       rw [if_neg q10] at hF
       cases hF
       repeat (first | refine chk.ga ?_ | simp -dsimp [h1, q2, h3, q4, h5, q6, h7, q8, h9, q10])
       all_goals (try first | omega | rfl)
      ·have q10 : (a.var = b.var) := auq h9
       rw [if_pos q10] at hF
       repeat (first | refine chk.ga ?_ | simp -dsimp [h1, q2, h3, q4, h5, q6, h7, q8, h9, q10])
       have hF := ob hF; obtain ⟨v, e11, hF⟩ := hF
       refine ((ih_laws_eqPatternS a.kids b.kids v e11)).goW (by first | simp [h1, q2, h3, q4, h5, q6, h7, q8, h9, q10]; done | simp_all) (by simp) ?_
       repeat (first | refine chk.ga ?_ | simp -dsimp [h1, q2, h3, q4, h5, q6, h7, q8, h9, q10])
       refine abr.split (fun h12 => ?_) (fun h12 => ?_)
       ·have q13 : ¬ (v = true) := auq h12
        rw [if_neg q13] at hF
        cases hF
        repeat (first | refine chk.ga ?_ | simp -dsimp [h1, q2, h3, q4, h5, q6, h7, q8, h9, q10, h12, q13])
        all_goals (try first | omega | rfl)
       ·have q13 : (v = true) := auq h12
        rw [if_pos q13] at hF
        cases hF
        repeat (first | refine chk.ga ?_ | simp -dsimp [h1, q2, h3, q4, h5, q6, h7, q8, h9, q10, h12, q13])
        all_goals (try first | omega | rfl)
 ·intro _f_laws_eqPatternS_l1 ih_laws_eqPatternS_l1 a b r hF
  refine PureCall.enterLe Tryz.func113 (by kernel_rfl) rfl Tryz.ntmps113 (by simp) (by simp) ?_
  repeat (first | refine chk.ga ?_ | simp -dsimp)
  refine abr.split (fun h1 => ?_) (fun h1 => ?_)
  ·have q2 : ¬ (a.length = b.length) := auq h1
   have z3 : ¬ ((a.length : Int) = (b.length : Int)) := auz
   rw [if_neg q2] at hF
   cases hF
   repeat (first | refine chk.ga ?_ | simp -dsimp [h1, q2, z3])
   all_goals (try first | omega | rfl)
  ·have q2 : (a.length = b.length) := auq h1
   have z3 : ((a.length : Int) = (b.length : Int)) := auz
   rw [if_pos q2] at hF
   repeat (first | refine chk.ga ?_ | simp -dsimp [h1, q2, z3])
   have hF := ob hF; obtain ⟨o', ho14, hF⟩ := hF
   refine ALoop.goU _ ?_ ((ih_laws_eqPatternS_l1 a b 0 o' ho14) _ rfl _ ?_)
   ·exact (Gh.to3 (by simp) (by first | simp -dsimp [h1, q2, z3]; done | simp_all))
   rcases o' with r0 | sx
   ·dsimp only at hF
    cases hF
    intro st h
    simpa using h
   ·dsimp only at hF
    cases hF
    repeat (first | refine chk.ga ?_ | simp -dsimp)
    all_goals (try first | omega | rfl)
 ·intro _f_laws_eqPattern _f_laws_eqPatternS_l1 ih_laws_eqPattern ih_laws_eqPatternS_l1 a b i o hF
  intro c hc Q hq
  obtain rfl : c = _ := navEq hc rfl
  refine ALoopU.know fun hk hs => ?_
  have b0 := hk 0
  simp -dsimp at b0
  have b1 := hk 1
  simp -dsimp at b1
  clear hk hs
  refine ALoopU.enter ?_
  repeat (first | refine chk.ga ?_ | simp -dsimp)
  refine abr.split (fun h4 => ?_) (fun h4 => ?_)
  ·have q5 : (i < a.length) := auq h4
   have z6 : ((i : Int) < (a.length : Int)) := auz
   rw [if_pos q5] at hF
   repeat (first | refine chk.ga ?_ | simp -dsimp [h4, z6])
   refine ADraw.simple follows (by kernel_rfl) (by kernel_rfl) ?_
   have hF := ob hF; obtain ⟨x, e7, hF⟩ := hF
   have le7 := lt_of_get e7
   have hF := ob hF; obtain ⟨x8, e9, hF⟩ := hF
   have le9 := lt_of_get e9
   repeat (first | refine chk.ga ?_ | simp -dsimp [h4, z6, ↓e7, ↓e9])
   have hF := ob hF; obtain ⟨v, e10, hF⟩ := hF
   refine ((ih_laws_eqPattern x x8 v e10)).pgoW (by first | simp [h4, z6, ↓e7, ↓e9]; done | simp_all) (by simp) ?_
   repeat (first | refine chk.ga ?_ | simp -dsimp [h4, z6, ↓e7, ↓e9])
   refine abr.split (fun h11 => ?_) (fun h11 => ?_)
   ·have q12 : ¬ (v = true) := auq h11
    rw [if_neg q12] at hF
    cases hF
    repeat (first | refine chk.ga ?_ | simp -dsimp [h4, z6, ↓e7, ↓e9, h11, q12])
    refine Leave.go _ (Gh.refl _) (hq _ ?_)
    repeat (first | refine chk.ga ?_ | simp -dsimp [h4, z6, ↓e7, ↓e9, h11, q12])
   ·have q12 : (v = true) := auq h11
    rw [if_pos q12] at hF
    have w13 : IntKind.i64.wrap ((i : Int) + 1) = (i : Int) + 1 := wrap_in (by omega) (by omega)
    repeat (first | refine chk.ga ?_ | simp -dsimp [h4, z6, ↓e7, ↓e9, h11, q12, w13])
    refine Again.go _ ?_ ((ih_laws_eqPatternS_l1 a b (i + 1) o hF) _ rfl _ hq)
    exact (Gh.to3 (by simp) (by first | simp -dsimp [h4, z6, ↓e7, ↓e9, h11, q12, w13]; done | simp_all))
  ·have q5 : ¬ (i < a.length) := auq h4
   have z6 : ¬ ((i : Int) < (a.length : Int)) := auz
   rw [if_neg q5] at hF
   cases hF
   repeat (first | refine chk.ga ?_ | simp -dsimp [h4, q5, z6])
   refine Leave.go ⟨[], []⟩ (Gh.to3 (by simp) (by first | simp -dsimp [h4, q5, z6]; done | simp_all)) ?_
   exact hq

theorem C.laws_eqGuard (a : Vl.Guard) (b : Vl.Guard) (r : Bool) (hF : F.laws_eqGuard a b = some r) : PureCall Tryz.prog B 75 [.agg [.lit (.int .i64 a.op), .lit (.int .i64 a.var), .lit (.int .i64 a.n)], .agg [.lit (.int .i64 b.op), .lit (.int .i64 b.var), .lit (.int .i64 b.n)]] (.lit (.bool r)) := by
 unfold F.laws_eqGuard at hF
 refine PureCall.enterLe Tryz.func75 (by kernel_rfl) rfl Tryz.ntmps75 (by simp) (by simp) ?_
 repeat (first | refine chk.ga ?_ | simp -dsimp)
 refine abr.split (fun h1 => ?_) (fun h1 => ?_)
 ·have q2 : ¬ (a.op = b.op) := auq h1
  rw [if_neg q2] at hF
  cases hF
  repeat (first | refine chk.ga ?_ | simp -dsimp [h1, q2])
  all_goals (try first | omega | rfl)
 ·have q2 : (a.op = b.op) := auq h1
  rw [if_pos q2] at hF
  repeat (first | refine chk.ga ?_ | simp -dsimp [h1, q2])
  refine abr.split (fun h3 => ?_) (fun h3 => ?_)
  ·have q4 : ¬ (a.var = b.var) := auq h3
   rw [if_neg q4] at hF
   cases hF
   repeat (first | refine chk.ga ?_ | simp -dsimp [h1, q2, h3, q4])
   all_goals (try first | omega | rfl)
  ·have q4 : (a.var = b.var) := auq h3
   rw [if_pos q4] at hF
   repeat (first | refine chk.ga ?_ | simp -dsimp [h1, q2, h3, q4])
   refine abr.split (fun h5 => ?_) (fun h5 => ?_)
   ·have q6 : ¬ (a.n = b.n) := auq h5
    rw [if_neg q6] at hF
    cases hF
    repeat (first | refine chk.ga ?_ | simp -dsimp [h1, q2, h3, q4, h5, q6])
    all_goals (try first | omega | rfl)
   ·have q6 : (a.n = b.n) := auq h5
    rw [if_pos q6] at hF
    cases hF
    repeat (first | refine chk.ga ?_ | simp -dsimp [h1, q2, h3, q4, h5, q6])
    all_goals (try first | omega | rfl)

theorem C.laws_eqClause (a : Vl.Clause) (b : Vl.Clause) (r : Bool) (hF : F.laws_eqClause a b = some r) : PureCall Tryz.prog B 45 [.agg [.lit (.int .i64 a.pat.op), .lit (.int .i64 a.pat.ctor), .lit (.int .i64 a.pat.n), .lit (.int .i64 a.pat.m), .lit (.int .i64 a.pat.var), .arr (List.map Vl.Pattern.c a.pat.kids), .lit (.int .i64 a.guard.op), .lit (.int .i64 a.guard.var), .lit (.int .i64 a.guard.n)], .agg [.lit (.int .i64 b.pat.op), .lit (.int .i64 b.pat.ctor), .lit (.int .i64 b.pat.n), .lit (.int .i64 b.pat.m), .lit (.int .i64 b.pat.var), .arr (List.map Vl.Pattern.c b.pat.kids), .lit (.int .i64 b.guard.op), .lit (.int .i64 b.guard.var), .lit (.int .i64 b.guard.n)]] (.lit (.bool r)) := by
 unfold F.laws_eqClause at hF
 refine PureCall.enterLe Tryz.func45 (by kernel_rfl) rfl Tryz.ntmps45 (by simp) (by simp) ?_
 repeat (first | refine chk.ga ?_ | simp -dsimp)
 have hF := ob hF; obtain ⟨v, e1, hF⟩ := hF
 refine (((CC.laws_eqPattern B hB1 hB2 ).1 a.pat b.pat v e1)).goW (by simp) (by simp) ?_
 repeat (first | refine chk.ga ?_ | simp -dsimp)
 refine abr.split (fun h2 => ?_) (fun h2 => ?_)
 ·have q3 : ¬ (v = true) := auq h2
  rw [if_neg q3] at hF
  cases hF
  repeat (first | refine chk.ga ?_ | simp -dsimp [h2, q3])
  all_goals (try first | omega | rfl)
 ·have q3 : (v = true) := auq h2
  rw [if_pos q3] at hF
  repeat (first | refine chk.ga ?_ | simp -dsimp [h2, q3])
  have hF := ob hF; obtain ⟨v4, e5, hF⟩ := hF
  refine ((C.laws_eqGuard B hB1 hB2 a.guard b.guard v4 e5)).goW (by first | simp [h2, q3]; done | simp_all) (by simp) ?_
  repeat (first | refine chk.ga ?_ | simp -dsimp [h2, q3])
  refine abr.split (fun h6 => ?_) (fun h6 => ?_)
  ·have q7 : ¬ (v4 = true) := auq h6
   rw [if_neg q7] at hF
   cases hF
   repeat (first | refine chk.ga ?_ | simp -dsimp [h2, q3, h6, q7])
   all_goals (try first | omega | rfl)
  ·have q7 : (v4 = true) := auq h6
   rw [if_pos q7] at hF
   cases hF
   repeat (first | refine chk.ga ?_ | simp -dsimp [h2, q3, h6, q7])
   all_goals (try first | omega | rfl)

theorem CC.laws_eqClauseS_l1 (a : List Vl.Clause) (b : List Vl.Clause) : (∀ (i : Nat) (o : Lo Bool Unit), F.laws_eqClauseS_l1 a b i = some o → ∀ (c : Code), navO [1, 1, 0, 1, 0, 0] (bodyOf Tryz.f24) = some c → ∀ (Q : Exit → ASt → Prop), o.post (fun r => ∀ st, Post Tryz.prog Tryz.f24 (fun r' _ => r'.le (.lit (.bool r))) .ret st → Q .ret st) (fun s => Q (.exit 0) ⟨[], []⟩) → ALoopU Tryz.prog B 0 27 (hold c .mk) ⟨[(0, .arr (List.map Vl.Clause.c a)), (1, .arr (List.map Vl.Clause.c b)), (5, .lit (.int .i64 (i : Int)))], []⟩ (hold Q .mk)) := by
 refine F.laws_eqClauseS_l1.partial_correctness a b
  _
  ?_
 ·intro _f_laws_eqClauseS_l1 ih_laws_eqClauseS_l1 i o hF
  intro c hc Q hq
  obtain rfl : c = _ := navEq hc rfl
  refine ALoopU.know fun hk hs => ?_
  have b0 := hk 0
  simp -dsimp at b0
  have b1 := hk 1
  simp -dsimp at b1
  clear hk hs
  refine ALoopU.enter ?_
  repeat (first | refine chk.ga ?_ | simp -dsimp)
  refine abr.split (fun h4 => ?_) (fun h4 => ?_)
  ·have q5 : (i < a.length) := auq h4
   have z6 : ((i : Int) < (a.length : Int)) := auz
   rw [if_pos q5] at hF
   repeat (first | refine chk.ga ?_ | simp -dsimp [h4, z6])
   refine ADraw.simple follows (by kernel_rfl) (by kernel_rfl) ?_
   have hF := ob hF; obtain ⟨x, e7, hF⟩ := hF
   have le7 := lt_of_get e7
   have hF := ob hF; obtain ⟨x8, e9, hF⟩ := hF
   have le9 := lt_of_get e9
   repeat (first | refine chk.ga ?_ | simp -dsimp [h4, z6, ↓e7, ↓e9])
   have hF := ob hF; obtain ⟨v, e10, hF⟩ := hF
   refine ((C.laws_eqClause B hB1 hB2 x x8 v e10)).pgoW (by first | simp [h4, z6, ↓e7, ↓e9]; done | simp_all) (by simp) ?_
   repeat (first | refine chk.ga ?_ | simp -dsimp [h4, z6, ↓e7, ↓e9])
   refine abr.split (fun h11 => ?_) (fun h11 => ?_)
   ·have q12 : ¬ (v = true) := auq h11
    rw [if_neg q12] at hF
    cases hF
    repeat (first | refine chk.ga ?_ | simp -dsimp [h4, z6, ↓e7, ↓e9, h11, q12])
    refine Leave.go _ (Gh.refl _) (hq _ ?_)
    repeat (first | refine chk.ga ?_ | simp -dsimp [h4, z6, ↓e7, ↓e9, h11, q12])
   ·have q12 : (v = true) := auq h11
    rw [if_pos q12] at hF
    have w13 : IntKind.i64.wrap ((i : Int) + 1) = (i : Int) + 1 := wrap_in (by omega) (by omega)
    repeat (first | refine chk.ga ?_ | simp -dsimp [h4, z6, ↓e7, ↓e9, h11, q12, w13])
    refine Again.go _ ?_ ((ih_laws_eqClauseS_l1 (i + 1) o hF) _ rfl _ hq)
    exact (Gh.to3 (by simp) (by first | simp -dsimp [h4, z6, ↓e7, ↓e9, h11, q12, w13]; done | simp_all))
  ·have q5 : ¬ (i < a.length) := auq h4
   have z6 : ¬ ((i : Int) < (a.length : Int)) := auz
   rw [if_neg q5] at hF
   cases hF
   repeat (first | refine chk.ga ?_ | simp -dsimp [h4, q5, z6])
   refine Leave.go ⟨[], []⟩ (Gh.to3 (by simp) (by first | simp -dsimp [h4, q5, z6]; done | simp_all)) ?_
   exact hq

theorem C.laws_eqClauseS (a : List Vl.Clause) (b : List Vl.Clause) (r : Bool) (hF : F.laws_eqClauseS a b = some r) : PureCall Tryz.prog B 24 [.arr (List.map Vl.Clause.c a), .arr (List.map Vl.Clause.c b)] (.lit (.bool r)) := by
 unfold F.laws_eqClauseS at hF
 refine PureCall.enterLe Tryz.func24 (by kernel_rfl) rfl Tryz.ntmps24 (by simp) (by simp) ?_
 repeat (first | refine chk.ga ?_ | simp -dsimp)
 refine abr.split (fun h1 => ?_) (fun h1 => ?_)
 ·have q2 : ¬ (a.length = b.length) := auq h1
  have z3 : ¬ ((a.length : Int) = (b.length : Int)) := auz
  rw [if_neg q2] at hF
  cases hF
  repeat (first | refine chk.ga ?_ | simp -dsimp [h1, q2, z3])
  all_goals (try first | omega | rfl)
 ·have q2 : (a.length = b.length) := auq h1
  have z3 : ((a.length : Int) = (b.length : Int)) := auz
  rw [if_pos q2] at hF
  repeat (first | refine chk.ga ?_ | simp -dsimp [h1, q2, z3])
  have hF := ob hF; obtain ⟨o', ho14, hF⟩ := hF
  refine ALoop.goU _ ?_ (((CC.laws_eqClauseS_l1 B hB1 hB2 a b) 0 o' ho14) _ rfl _ ?_)
  ·exact (Gh.to3 (by simp) (by first | simp -dsimp [h1, q2, z3]; done | simp_all))
  rcases o' with r0 | sx
  ·dsimp only at hF
   cases hF
   intro st h
   simpa using h
  ·dsimp only at hF
   cases hF
   repeat (first | refine chk.ga ?_ | simp -dsimp)
   all_goals (try first | omega | rfl)

theorem C.laws_FnExactFormatClauses (aW : List Vl.Data) (aT : Vl.Ty) (aList : List Vl.Clause) (r : Bool) (hF : F.laws_FnExactFormatClauses aW aT aList = some r) : PureCall Tryz.prog B 4 [.arr (List.map Vl.Data.c aW), .agg [.lit (.int .i64 aT.data), .lit (.int .i64 aT.index)], .arr (List.map Vl.Clause.c aList)] (.lit (.bool r)) := by
 unfold F.laws_FnExactFormatClauses at hF
 refine PureCall.enterLe Tryz.func4 (by kernel_rfl) rfl Tryz.ntmps4 (by simp) (by simp) ?_
 repeat (first | refine chk.ga ?_ | simp -dsimp)
 have hF := ob hF; obtain ⟨v, e1, hF⟩ := hF
 refine ((C.laws_szDataS B hB1 hB2 aW (1048576 : Int) v e1)).goW (by simp) (by simp) ?_
 repeat (first | refine chk.ga ?_ | simp -dsimp)
 refine abr.split (fun h2 => ?_) (fun h2 => ?_)
 ·have q3 : (v < 0) := auq h2
  rw [if_pos q3] at hF
  cases hF
  repeat (first | refine chk.ga ?_ | simp -dsimp [h2])
  all_goals (try first | omega | rfl)
 ·have q3 : ¬ (v < 0) := auq h2
  rw [if_neg q3] at hF
  repeat (first | refine chk.ga ?_ | simp -dsimp [h2, q3])
  have hF := ob hF; obtain ⟨v4, e5, hF⟩ := hF
  refine ((C.laws_szClauseS B hB1 hB2 aList v v4 e5)).goW (by first | simp [h2, q3]; done | simp_all) (by simp) ?_
  repeat (first | refine chk.ga ?_ | simp -dsimp [h2, q3])
  refine abr.split (fun h6 => ?_) (fun h6 => ?_)
  ·have q7 : (v4 < 0) := auq h6
   rw [if_pos q7] at hF
   cases hF
   repeat (first | refine chk.ga ?_ | simp -dsimp [h2, q3, h6])
   all_goals (try first | omega | rfl)
  ·have q7 : ¬ (v4 < 0) := auq h6
   rw [if_neg q7] at hF
   repeat (first | refine chk.ga ?_ | simp -dsimp [h2, q3, h6, q7])
   refine ADraw.simple follows (by kernel_rfl) (by kernel_rfl) ?_
   repeat (first | refine chk.ga ?_ | simp -dsimp [h2, q3, h6, q7])
   have hF := ob hF; obtain ⟨v8, e9, hF⟩ := hF
   refine ((C.laws_toDataS B hB1 hB2 aW v8 e9)).pgoW (by first | simp [h2, q3, h6, q7]; done | simp_all) (by simp) ?_
   repeat (first | refine chk.ga ?_ | simp -dsimp [h2, q3, h6, q7])
   have hF := ob hF; obtain ⟨v10, e11, hF⟩ := hF
   refine ((C.laws_toType B hB1 hB2 aT v10 e11)).pgoW (by first | simp [h2, q3, h6, q7]; done | simp_all) (by simp) ?_
   repeat (first | refine chk.ga ?_ | simp -dsimp [h2, q3, h6, q7])
   have hF := ob hF; obtain ⟨v12, e13, hF⟩ := hF
   refine ((C.laws_toClauseS B hB1 hB2 aList v12 e13)).pgoW (by first | simp [h2, q3, h6, q7]; done | simp_all) (by simp) ?_
   repeat (first | refine chk.ga ?_ | simp -dsimp [h2, q3, h6, q7])
   have hF := ob hF; obtain ⟨v14, e15, hF⟩ := hF
   refine ((C.spec_FormatClauses B hB1 hB2 v8 v10 v12 v14 e15)).pgoW (by first | simp [h2, q3, h6, q7]; done | simp_all) (by simp) ?_
   repeat (first | refine chk.ga ?_ | simp -dsimp [h2, q3, h6, q7])
   have hF := ob hF; obtain ⟨v16, e17, hF⟩ := hF
   refine ((C.laws_toDataS B hB1 hB2 aW v16 e17)).goW (by first | simp [h2, q3, h6, q7]; done | simp_all) (by simp) ?_
   repeat (first | refine chk.ga ?_ | simp -dsimp [h2, q3, h6, q7])
   have hF := ob hF; obtain ⟨v18, e19, hF⟩ := hF
   refine ((C.laws_toClauseS B hB1 hB2 aList v18 e19)).goW (by first | simp [h2, q3, h6, q7]; done | simp_all) (by simp) ?_
   repeat (first | refine chk.ga ?_ | simp -dsimp [h2, q3, h6, q7])
   have hF := ob hF; obtain ⟨v20, e21, hF⟩ := hF
   refine ((C.laws_toType B hB1 hB2 aT v20 e21)).goW (by first | simp [h2, q3, h6, q7]; done | simp_all) (by simp) ?_
   repeat (first | refine chk.ga ?_ | simp -dsimp [h2, q3, h6, q7])
   have hF := ob hF; obtain ⟨v22, e23, hF⟩ := hF
   refine ((C.impl_FormatClauses B hB1 hB2 v16 v20 v18 v22 e23)).goW (by first | simp [h2, q3, h6, q7]; done | simp_all) (by simp) ?_
   repeat (first | refine chk.ga ?_ | simp -dsimp [h2, q3, h6, q7])
   refine abr.split (fun h24 => ?_) (fun h24 => ?_)
   ·have q25 : ¬ (v22.toList = v14.toList) := auq h24
    rw [if_neg q25] at hF
    cases hF
    repeat (first | refine chk.ga ?_ | simp -dsimp [h2, q3, h6, q7, h24, q25])
    all_goals (try first | omega | rfl)
   ·have q25 : (v22.toList = v14.toList) := auq h24
    rw [if_pos q25] at hF
    repeat (first | refine chk.ga ?_ | simp -dsimp [h2, q3, h6, q7, h24, q25])
    have hF := ob hF; obtain ⟨v26, e27, hF⟩ := hF
    refine ((C.laws_toDataS B hB1 hB2 aW v26 e27)).goW (by first | simp [h2, q3, h6, q7, h24, q25]; done | simp_all) (by simp) ?_
    repeat (first | refine chk.ga ?_ | simp -dsimp [h2, q3, h6, q7, h24, q25])
    have hF := ob hF; obtain ⟨v28, e29, hF⟩ := hF
    refine ((C.laws_eqDataS B hB1 hB2 v16 v26 v28 e29)).goW (by first | simp [h2, q3, h6, q7, h24, q25]; done | simp_all) (by simp) ?_
    repeat (first | refine chk.ga ?_ | simp -dsimp [h2, q3, h6, q7, h24, q25])
    refine abr.split (fun h30 => ?_) (fun h30 => ?_)
    ·have q31 : ¬ (v28 = true) := auq h30
     rw [if_neg q31] at hF
     cases hF
     repeat (first | refine chk.ga ?_ | simp -dsimp [h2, q3, h6, q7, h24, q25, h30, q31])
     all_goals (try first | omega | rfl)
    ·have q31 : (v28 = true) := auq h30
     rw [if_pos q31] at hF
     repeat (first | refine chk.ga ?_ | simp -dsimp [h2, q3, h6, q7, h24, q25, h30, q31])
     have hF := ob hF; obtain ⟨v32, e33, hF⟩ := hF
     refine ((C.laws_toClauseS B hB1 hB2 aList v32 e33)).goW (by first | simp [h2, q3, h6, q7, h24, q25, h30, q31]; done | simp_all) (by simp) ?_
     repeat (first | refine chk.ga ?_ | simp -dsimp [h2, q3, h6, q7, h24, q25, h30, q31])
     have hF := ob hF; obtain ⟨v34, e35, hF⟩ := hF
     refine ((C.laws_eqClauseS B hB1 hB2 v18 v32 v34 e35)).goW (by first | simp [h2, q3, h6, q7, h24, q25, h30, q31]; done | simp_all) (by simp) ?_
     repeat (first | refine chk.ga ?_ | simp -dsimp [h2, q3, h6, q7, h24, q25, h30, q31])
     refine abr.split (fun h36 => ?_) (fun h36 => ?_)
     ·have q37 : ¬ (v34 = true) := auq h36
      rw [if_neg q37] at hF
      cases hF
      repeat (first | refine chk.ga ?_ | simp -dsimp [h2, q3, h6, q7, h24, q25, h30, q31, h36, q37])
      all_goals (try first | omega | rfl)
     ·have q37 : (v34 = true) := auq h36
      rw [if_pos q37] at hF
      cases hF
      repeat (first | refine chk.ga ?_ | simp -dsimp [h2, q3, h6, q7, h24, q25, h30, q31, h36, q37])
      all_goals (try first | omega | rfl)

end Go.Proofs.YtdehlcjhndoclaaGreatDoor
