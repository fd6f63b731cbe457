/- A part of the proof. -/
import Derived.Test.YtkgcopogpmckdaaGreatProg
import Derived.Test.YtkgcopogpmckdaaGreatSimplifySizeF
import Derived.Test.YtkgcopogpmckdaaGreatSimplifySizeC2
namespace Go.Proofs.YtkgcopogpmckdaaGreat
open Go Go.Proofs Go.Vl
open abr renaming sp->aS,ns->aN
open PureCall renaming enterLe->pE
set_option linter.all false
set_option maxRecDepth 100000
set_option maxHeartbeats 4000000
set_option synthInstance.maxSize 100000
set_option synthInstance.maxHeartbeats 4000000
attribute [local irreducible] GhK ECallA NCallA aL aLg AMake MLoop AgainM LeaveM ZBR ZBB MutCall BCall chk abr ACall ALoop ALoopU ADraw Again Leave ZD0 PCall ZAa awp ZHA PureCall hold
variable (B : Nat) (hB1 : 67108864 <= B) (hB2 : B <= 9223372036854775807)
include hB1 hB2
theorem C.f184 (code:List Int)(r:Bool)(hF:F.f184 code=some r):PureCall Tryz.prog B 4 [am cU code] (.lit (.bool r)):=by
 unfold F.f184 at hF
 refine pE Tryz.func4 (by kernel_rfl) rfl Tryz.ntmps4 (by simp) (by simp) ?_
 repeat first|refine cg ?_|simp -dsimp
 revert hF;refine aS ?_ ?_<;>intro h1 q2 hF
 ·have z3:(1048576<(code.length:Int)):=auz
  cases hF
  repeat first|refine cg ?_|simp -dsimp[h1,z3]
  all_goals(try first|omega|rfl)
 ·have z3:¬(1048576<(code.length:Int)):=auz
  repeat first|refine cg ?_|simp -dsimp[h1,q2,z3]
  have hF:=ob hF;obtain⟨v,e4,hF⟩:=hF
  refine((C.f92 B hB1 hB2 code v e4)).goW (by first|simp[h1,q2,z3];done|simp_all) (by simp) ?_
  repeat first|refine cg ?_|simp -dsimp[h1,q2,z3]
  have hF:=ob hF;obtain⟨v5,e6,hF⟩:=hF
  refine((C.f156 B hB1 hB2 v.1 v.2.1 v.2.2 v5 e6)).goW (by first|simp[h1,q2,z3];done|simp_all) (by simp) ?_
  repeat first|refine cg ?_|simp -dsimp[h1,q2,z3]
  have hF:=ob hF;obtain⟨v7,e8,hF⟩:=hF
  refine((C.f172 B hB1 hB2 v.1 v.2.1 v.2.2 v7 e8)).goW (by first|simp[h1,q2,z3];done|simp_all) (by simp) ?_
  repeat first|refine cg ?_|simp -dsimp[h1,q2,z3]
  revert hF;refine aS ?_ ?_<;>intro h9 q10 hF
  ·repeat first|refine cg ?_|simp -dsimp[h1,q2,z3,h9]
   have hF:=ob hF;obtain⟨v11,e12,hF⟩:=hF
   refine(((CC.f144 B hB1 hB2).1 v5.1 v7.1 v11 e12)).goW (by first|simp[h1,q2,z3,h9];done|simp_all) (by simp) ?_
   repeat first|refine cg ?_|simp -dsimp[h1,q2,z3,h9]
   revert hF;refine aS (fun h13 q14 hF=> ?_) (fun h13 q14 hF=> ?_)
   ·repeat first|refine cg ?_|simp -dsimp[h1,q2,z3,h9,h13]
    revert hF;refine aN (fun h15 q16 hF=> ?_) (fun h15 q16 hF=> ?_)
    ·repeat first|refine cg ?_|simp -dsimp[h1,q2,z3,h9,h13,h15,q16]
     have hF:=ob hF;obtain⟨v17,e18,hF⟩:=hF
     refine(((CC.f144 B hB1 hB2).1 v5.1 v7.1 v17 e18)).goW (by first|simp[h1,q2,z3,h9,h13,h15,q16];done|simp_all) (by simp) ?_
     cases hF
     repeat first|refine cg ?_|simp -dsimp[h1,q2,z3,h9,h13,h15,q16]
     all_goals(try first|omega|rfl)
    ·repeat first|refine cg ?_|simp -dsimp[h1,q2,z3,h9,h13,h15,q16]
     have hF:=ob hF;obtain⟨v19,e20,hF⟩:=hF
     refine((C.f183 B hB1 hB2 v.1 v.2.1 v.2.2 v19 e20)).goW (by first|simp[h1,q2,z3,h9,h13,h15,q16];done|simp_all) (by simp) ?_
     repeat first|refine cg ?_|simp -dsimp[h1,q2,z3,h9,h13,h15,q16]
     have hF:=ob hF;obtain⟨v21,e22,hF⟩:=hF
     refine((C.f183 B hB1 hB2 v.1 v.2.1 v5.1 v21 e22)).goW (by first|simp[h1,q2,z3,h9,h13,h15,q16];done|simp_all) (by simp) ?_
     repeat first|refine cg ?_|simp -dsimp[h1,q2,z3,h9,h13,h15,q16]
     revert hF;refine aS (fun h23 q24 hF=> ?_) (fun h23 q24 hF=> ?_)
     ·repeat first|refine cg ?_|simp -dsimp[h1,q2,z3,h9,h13,h15,q16,h23]
      revert hF;refine aS (fun h25 q26 hF=> ?_) (fun h25 q26 hF=> ?_)
      ·cases hF
       repeat first|refine cg ?_|simp -dsimp[h1,q2,z3,h9,h13,h15,q16,h23,h25]
       all_goals(try first|omega|rfl)
      ·cases hF
       repeat first|refine cg ?_|simp -dsimp[h1,q2,z3,h9,h13,h15,q16,h23,h25,q26]
       all_goals(try first|omega|rfl)
     ·cases hF
      repeat first|refine cg ?_|simp -dsimp[h1,q2,z3,h9,h13,h15,q16,h23,q24]
      all_goals(try first|omega|rfl)
   ·repeat first|refine cg ?_|simp -dsimp[h1,q2,z3,h9,h13,q14]
    have hF:=ob hF;obtain⟨v27,e28,hF⟩:=hF
    refine(((CC.f144 B hB1 hB2).1 v5.1 v7.1 v27 e28)).goW (by first|simp[h1,q2,z3,h9,h13,q14];done|simp_all) (by simp) ?_
    cases hF
    repeat first|refine cg ?_|simp -dsimp[h1,q2,z3,h9,h13,q14]
    all_goals(try first|omega|rfl)
  ·cases hF
   repeat first|refine cg ?_|simp -dsimp[h1,q2,z3,h9,q10]
   all_goals(try first|omega|rfl)
end Go.Proofs.YtkgcopogpmckdaaGreat
