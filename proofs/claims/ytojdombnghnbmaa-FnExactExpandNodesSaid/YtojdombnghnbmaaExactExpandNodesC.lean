/- The contracts: the code computes the functions (printed by gen.py). -/
import Derived.Test.YtojdombnghnbmaaProg
import Derived.Test.YtojdombnghnbmaaExactExpandNodesF
import Derived.Test.YtojdombnghnbmaaExactExpandNodesC1
namespace Go.Proofs.Ytojdombnghnbmaa
open Go Go.Proofs Go.Vl
set_option linter.unusedSimpArgs false
set_option linter.unusedVariables false
set_option linter.unusedSectionVars false
set_option maxRecDepth 100000
set_option maxHeartbeats 4000000
set_option synthInstance.maxSize 100000
set_option synthInstance.maxHeartbeats 4000000
attribute [local irreducible] GhK ECallA NCallA aL aLg AMake MLoop AgainM LeaveM awpM aopsM MutCall BCall chk abr ACall ALoop ALoopU ADraw Again Leave PCallA PCall Post awp aops PureCall hold
variable (B : Nat) (hB1 : 1073741824 ≤ bd B) (hB2 : bd B ≤ 9223372036854775807)
include hB1 hB2
theorem C.f76 (aList:List Vl.Node)(r:Bool)(hF:F.f76 aList=some r):PureCall Try.prog B 3 [.arr (List.map Vl.Node.c aList)] (.lit (.bool r)):=by
 unfold F.f76 at hF
 refine PureCall.enterLe Try.func3 (by kernel_rfl) rfl Try.ntmps3 (by simp) (by simp) ?_
 repeat(first|refine chk.ga ?_|simp -dsimp)
 have hF:=ob hF;obtain⟨v,e1,hF⟩:=hF
 refine((C.f7 B hB1 hB2 aList (1048576:Int) v e1)).goW (by simp) (by simp) ?_
 repeat(first|refine chk.ga ?_|simp -dsimp)
 revert hF;refine abr.sp ?_ ?_<;>intro h2 q3 hF
 ·cases hF
  repeat(first|refine chk.ga ?_|simp -dsimp[h2])
  all_goals(try first|omega|rfl)
 ·repeat(first|refine chk.ga ?_|simp -dsimp[h2,q3])
  have hF:=ob hF;obtain⟨v4,e5,hF⟩:=hF
  refine((C.f18 B hB1 hB2 aList v4 e5)).goW (by first|simp[h2,q3];done|simp_all) (by simp) ?_
  repeat(first|refine chk.ga ?_|simp -dsimp[h2,q3])
  have hF:=ob hF;obtain⟨v6,e7,hF⟩:=hF
  refine((C.f27 B hB1 hB2 v4 v6 e7)).goW (by first|simp[h2,q3];done|simp_all) (by simp) ?_
  repeat(first|refine chk.ga ?_|simp -dsimp[h2,q3])
  have hF:=ob hF;obtain⟨v8,e9,hF⟩:=hF
  refine((C.laws_toNodeS__f B hB1 hB2 aList v8 e9)).go1 (by first|simp -dsimp[h2,q3];done|simp_all) (by simp) (fun h o_h=> ?_)
  repeat(first|refine chk.ga ?_|simp -dsimp[h2,q3,o_h])
  have hF:=ob hF;obtain⟨v10,e11,hF⟩:=hF
  refine((C.impl_ExpandNodes__f B hB1 hB2 v8 v10 e11)).go4 (by first|simp -dsimp[h2,q3,o_h];done|simp_all) (by simp) (fun h12 h13 h14 h15 o_h12 o_h13 o_h14 o_h15=> ?_)
  repeat(first|refine chk.ga ?_|simp -dsimp[h2,q3,o_h,o_h12,o_h13,o_h14,o_h15])
  have hF:=ob hF;obtain⟨v16,e17,hF⟩:=hF
  refine(((CC.f49 B hB1 hB2).2.1 v10.1 v6.1 v16 e17)).lend (by first|simp -dsimp[h2,q3,o_h,o_h12,o_h13,o_h14,o_h15];done|simp_all) (by simp -dsimp) ?_
  repeat(first|refine chk.ga ?_|simp -dsimp[h2,q3,o_h,o_h12,o_h13,o_h14,o_h15])
  revert hF;refine abr.sp (fun h18 q19 hF=> ?_) (fun h18 q19 hF=> ?_)
  ·repeat(first|refine chk.ga ?_|simp -dsimp[h2,q3,o_h,o_h12,o_h13,o_h14,o_h15,h18])
   revert hF;refine abr.ns ?_ ?_<;>intro h20 q21 hF
   ·cases hF
    repeat(first|refine chk.ga ?_|simp -dsimp[h2,q3,o_h,o_h12,o_h13,o_h14,o_h15,h18,h20,q21])
    all_goals(try first|omega|rfl)
   ·repeat(first|refine chk.ga ?_|simp -dsimp[h2,q3,o_h,o_h12,o_h13,o_h14,o_h15,h18,h20,q21])
    have hF:=ob hF;obtain⟨v22,e23,hF⟩:=hF
    refine((C.f18 B hB1 hB2 aList v22 e23)).goW (by first|simp[h2,q3,o_h,o_h12,o_h13,o_h14,o_h15,h18,h20,q21];done|simp_all) (by simp) ?_
    repeat(first|refine chk.ga ?_|simp -dsimp[h2,q3,o_h,o_h12,o_h13,o_h14,o_h15,h18,h20,q21])
    have hF:=ob hF;obtain⟨v24,e25,hF⟩:=hF
    refine((C.f60 B hB1 hB2 v8 v22 v24 e25)).lend (by first|simp -dsimp[h2,q3,o_h,o_h12,o_h13,o_h14,o_h15,h18,h20,q21];done|simp_all) (by simp -dsimp) ?_
    repeat(first|refine chk.ga ?_|simp -dsimp[h2,q3,o_h,o_h12,o_h13,o_h14,o_h15,h18,h20,q21])
    revert hF;refine abr.ns (fun h26 q27 hF=> ?_) (fun h26 q27 hF=> ?_)
    ·cases hF
     repeat(first|refine chk.ga ?_|simp -dsimp[h2,q3,o_h,o_h12,o_h13,o_h14,o_h15,h18,h20,q21,h26,q27])
     all_goals(try first|omega|rfl)
    ·repeat(first|refine chk.ga ?_|simp -dsimp[h2,q3,o_h,o_h12,o_h13,o_h14,o_h15,h18,h20,q21,h26,q27])
     have hF:=ob hF;obtain⟨v28,e29,hF⟩:=hF
     refine((C.f73 B hB1 hB2 v8 1 v28 e29)).go 1 rfl (by simp) ?_
     repeat(first|refine chk.ga ?_|simp -dsimp[h2,q3,o_h,o_h12,o_h13,o_h14,o_h15,h18,h20,q21,h26,q27])
     revert hF;refine abr.ns ?_ ?_<;>intro h30 q31 hF
     ·repeat(first|refine chk.ga ?_|simp -dsimp[h2,q3,o_h,o_h12,o_h13,o_h14,o_h15,h18,h20,q21,h26,q27,h30,q31])
      have hF:=ob hF;obtain⟨v32,e33,hF⟩:=hF
      refine(((CC.f49 B hB1 hB2).2.1 v10.1 v6.1 v32 e33)).lend (by first|simp -dsimp[h2,q3,o_h,o_h12,o_h13,o_h14,o_h15,h18,h20,q21,h26,q27,h30,q31];done|simp_all) (by simp -dsimp) ?_
      repeat(first|refine chk.ga ?_|simp -dsimp[h2,q3,o_h,o_h12,o_h13,o_h14,o_h15,h18,h20,q21,h26,q27,h30,q31])
      revert hF;refine abr.sp (fun h34 q35 hF=> ?_) (fun h34 q35 hF=> ?_)
      ·repeat(first|refine chk.ga ?_|simp -dsimp[h2,q3,o_h,o_h12,o_h13,o_h14,o_h15,h18,h20,q21,h26,q27,h30,q31,h34])
       refine ACall.inl Try.func11 (by kernel_rfl) rfl Try.ntmps11 (by simp) ?_
       repeat(first|refine chk.ga ?_|simp -dsimp[h2,q3,o_h,o_h12,o_h13,o_h14,o_h15,h18,h20,q21,h26,q27,h30,q31,h34])
       have hF:=ob hF;obtain⟨v36,e37,hF⟩:=hF
       refine((C.f71 B hB1 hB2 v10.1.binds 1 v36 e37)).go 2 rfl (by simp) ?_
       repeat(first|refine chk.ga ?_|simp -dsimp[h2,q3,o_h,o_h12,o_h13,o_h14,o_h15,h18,h20,q21,h26,q27,h30,q31,h34])
       have hF:=ob hF;obtain⟨v38,e39,hF⟩:=hF
       refine((C.f70 B hB1 hB2 v10.1.path v36.2 v38 e39)).go 3 rfl (by simp) ?_
       repeat(first|refine chk.ga ?_|simp -dsimp[h2,q3,o_h,o_h12,o_h13,o_h14,o_h15,h18,h20,q21,h26,q27,h30,q31,h34])
       have hF:=ob hF;obtain⟨v40,e41,hF⟩:=hF
       refine((C.f74 B hB1 hB2 v10.1.branches v38.2 v40 e41)).go 4 rfl (by simp) ?_
       repeat(first|refine chk.ga ?_|simp -dsimp[h2,q3,o_h,o_h12,o_h13,o_h14,o_h15,h18,h20,q21,h26,q27,h30,q31,h34])
       have hF:=ob hF;obtain⟨v42,e43,hF⟩:=hF
       refine((C.f75 B hB1 hB2 v10.1.els v40.2 v42 e43)).go 5 rfl (by simp) ?_
       repeat(first|refine chk.ga ?_|simp -dsimp[h2,q3,o_h,o_h12,o_h13,o_h14,o_h15,h18,h20,q21,h26,q27,h30,q31,h34])
       have hF:=ob hF;obtain⟨v44,e45,hF⟩:=hF
       refine((C.f69 B hB1 hB2 (⟨v10.1.op,v10.1.clause,v36.1,v38.1,v40.1,v42.1⟩:Vl.Tree) (1:Int) v44 e45)).lend (by first|simp -dsimp[h2,q3,o_h,o_h12,o_h13,o_h14,o_h15,h18,h20,q21,h26,q27,h30,q31,h34];done|simp_all) (by simp -dsimp) ?_
       repeat(first|refine chk.ga ?_|simp -dsimp[h2,q3,o_h,o_h12,o_h13,o_h14,o_h15,h18,h20,q21,h26,q27,h30,q31,h34])
       revert hF;refine abr.sp ?_ ?_<;>intro h46 q47 hF
       ·cases hF
        repeat(first|refine chk.ga ?_|simp -dsimp[h2,q3,o_h,o_h12,o_h13,o_h14,o_h15,h18,h20,q21,h26,q27,h30,q31,h34,h46])
        all_goals(try first|omega|rfl)
       ·repeat(first|refine chk.ga ?_|simp -dsimp[h2,q3,o_h,o_h12,o_h13,o_h14,o_h15,h18,h20,q21,h26,q27,h30,q31,h34,h46,q47])
        revert hF;refine abr.ns ?_ ?_<;>intro h48 q49 hF
        ·cases hF
         repeat(first|refine chk.ga ?_|simp -dsimp[h2,q3,o_h,o_h12,o_h13,o_h14,o_h15,h18,h20,q21,h26,q27,h30,q31,h34,h46,q47,h48,q49])
         all_goals(try first|omega|rfl)
        ·repeat(first|refine chk.ga ?_|simp -dsimp[h2,q3,o_h,o_h12,o_h13,o_h14,o_h15,h18,h20,q21,h26,q27,h30,q31,h34,h46,q47,h48,q49])
         have hF:=ob hF;obtain⟨v50,e51,hF⟩:=hF
         refine((C.f18 B hB1 hB2 aList v50 e51)).goW (by first|simp[h2,q3,o_h,o_h12,o_h13,o_h14,o_h15,h18,h20,q21,h26,q27,h30,q31,h34,h46,q47,h48,q49];done|simp_all) (by simp) ?_
         repeat(first|refine chk.ga ?_|simp -dsimp[h2,q3,o_h,o_h12,o_h13,o_h14,o_h15,h18,h20,q21,h26,q27,h30,q31,h34,h46,q47,h48,q49])
         have hF:=ob hF;obtain⟨v52,e53,hF⟩:=hF
         refine((C.impl_ExpandNodes__f B hB1 hB2 v50 v52 e53)).go4 (by first|simp -dsimp[h2,q3,o_h,o_h12,o_h13,o_h14,o_h15,h18,h20,q21,h26,q27,h30,q31,h34,h46,q47,h48,q49];done|simp_all) (by simp) (fun h54 h55 h56 h57 o_h54 o_h55 o_h56 o_h57=> ?_)
         repeat(first|refine chk.ga ?_|simp -dsimp[h2,q3,o_h,o_h12,o_h13,o_h14,o_h15,h18,h20,q21,h26,q27,h30,q31,h34,h46,q47,h48,q49,o_h54,o_h55,o_h56,o_h57])
         have hF:=ob hF;obtain⟨v58,e59,hF⟩:=hF
         refine(((CC.f49 B hB1 hB2).2.1 v52.1 v6.1 v58 e59)).lend (by first|simp -dsimp[h2,q3,o_h,o_h12,o_h13,o_h14,o_h15,h18,h20,q21,h26,q27,h30,q31,h34,h46,q47,h48,q49,o_h54,o_h55,o_h56,o_h57];done|simp_all) (by simp -dsimp) ?_
         repeat(first|refine chk.ga ?_|simp -dsimp[h2,q3,o_h,o_h12,o_h13,o_h14,o_h15,h18,h20,q21,h26,q27,h30,q31,h34,h46,q47,h48,q49,o_h54,o_h55,o_h56,o_h57])
         revert hF;refine abr.sp (fun h60 q61 hF=> ?_) (fun h60 q61 hF=> ?_)
         ·repeat(first|refine chk.ga ?_|simp -dsimp[h2,q3,o_h,o_h12,o_h13,o_h14,o_h15,h18,h20,q21,h26,q27,h30,q31,h34,h46,q47,h48,q49,o_h54,o_h55,o_h56,o_h57,h60])
          revert hF;refine abr.ns ?_ ?_<;>intro h62 q63 hF
          ·cases hF
           repeat(first|refine chk.ga ?_|simp -dsimp[h2,q3,o_h,o_h12,o_h13,o_h14,o_h15,h18,h20,q21,h26,q27,h30,q31,h34,h46,q47,h48,q49,o_h54,o_h55,o_h56,o_h57,h60,h62,q63])
           all_goals(try first|omega|rfl)
          ·repeat(first|refine chk.ga ?_|simp -dsimp[h2,q3,o_h,o_h12,o_h13,o_h14,o_h15,h18,h20,q21,h26,q27,h30,q31,h34,h46,q47,h48,q49,o_h54,o_h55,o_h56,o_h57,h60,h62,q63])
           have hF:=ob hF;obtain⟨v64,e65,hF⟩:=hF
           refine((C.f69 B hB1 hB2 (⟨v10.1.op,v10.1.clause,v36.1,v38.1,v40.1,v42.1⟩:Vl.Tree) (1:Int) v64 e65)).lend (by first|simp -dsimp[h2,q3,o_h,o_h12,o_h13,o_h14,o_h15,h18,h20,q21,h26,q27,h30,q31,h34,h46,q47,h48,q49,o_h54,o_h55,o_h56,o_h57,h60,h62,q63];done|simp_all) (by simp -dsimp) ?_
           repeat(first|refine chk.ga ?_|simp -dsimp[h2,q3,o_h,o_h12,o_h13,o_h14,o_h15,h18,h20,q21,h26,q27,h30,q31,h34,h46,q47,h48,q49,o_h54,o_h55,o_h56,o_h57,h60,h62,q63])
           revert hF;refine abr.sp ?_ ?_<;>intro h66 q67 hF
           ·cases hF
            repeat(first|refine chk.ga ?_|simp -dsimp[h2,q3,o_h,o_h12,o_h13,o_h14,o_h15,h18,h20,q21,h26,q27,h30,q31,h34,h46,q47,h48,q49,o_h54,o_h55,o_h56,o_h57,h60,h62,q63,h66])
            all_goals(try first|omega|rfl)
           ·repeat(first|refine chk.ga ?_|simp -dsimp[h2,q3,o_h,o_h12,o_h13,o_h14,o_h15,h18,h20,q21,h26,q27,h30,q31,h34,h46,q47,h48,q49,o_h54,o_h55,o_h56,o_h57,h60,h62,q63,h66,q67])
            revert hF;refine abr.ns ?_ ?_<;>intro h68 q69 hF
            ·cases hF
             repeat(first|refine chk.ga ?_|simp -dsimp[h2,q3,o_h,o_h12,o_h13,o_h14,o_h15,h18,h20,q21,h26,q27,h30,q31,h34,h46,q47,h48,q49,o_h54,o_h55,o_h56,o_h57,h60,h62,q63,h66,q67,h68,q69])
             all_goals(try first|omega|rfl)
            ·cases hF
             repeat(first|refine chk.ga ?_|simp -dsimp[h2,q3,o_h,o_h12,o_h13,o_h14,o_h15,h18,h20,q21,h26,q27,h30,q31,h34,h46,q47,h48,q49,o_h54,o_h55,o_h56,o_h57,h60,h62,q63,h66,q67,h68,q69])
             all_goals(try first|omega|rfl)
         ·cases hF
          repeat(first|refine chk.ga ?_|simp -dsimp[h2,q3,o_h,o_h12,o_h13,o_h14,o_h15,h18,h20,q21,h26,q27,h30,q31,h34,h46,q47,h48,q49,o_h54,o_h55,o_h56,o_h57,h60,q61])
          all_goals(try first|omega|rfl)
      ·cases hF
       repeat(first|refine chk.ga ?_|simp -dsimp[h2,q3,o_h,o_h12,o_h13,o_h14,o_h15,h18,h20,q21,h26,q27,h30,q31,h34,q35])
       all_goals(try first|omega|rfl)
     ·cases hF
      repeat(first|refine chk.ga ?_|simp -dsimp[h2,q3,o_h,o_h12,o_h13,o_h14,o_h15,h18,h20,q21,h26,q27,h30,q31])
      all_goals(try first|omega|rfl)
  ·cases hF
   repeat(first|refine chk.ga ?_|simp -dsimp[h2,q3,o_h,o_h12,o_h13,o_h14,o_h15,h18,q19])
   all_goals(try first|omega|rfl)
end Go.Proofs.Ytojdombnghnbmaa
