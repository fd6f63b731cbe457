/- The contracts: the code computes the functions (printed by gen.py). -/
import Derived.Test.YtabldoepgohajaaProg
import Derived.Test.YtabldoepgohajaaExprSameF
import Derived.Test.YtabldoepgohajaaExprSameC1
namespace Go.Proofs.Ytabldoepgohajaa
open Go Go.Proofs Go.Vl
set_option linter.unusedSimpArgs false
set_option linter.unusedVariables false
set_option linter.unusedSectionVars false
set_option maxRecDepth 100000
set_option maxHeartbeats 4000000
attribute [local irreducible] ECallA aL AMake MLoop AgainM LeaveM awpM aopsM MutCall BCall chk abr ACall ALoop ALoopU ADraw Again Leave PCallA PCall Post awp aops PureCall hold
variable (B : Nat) (hB1 : 67108864 ≤ B) (hB2 : B ≤ 9223372036854775807)
include hB1 hB2
theorem CC.f67  :(∀(r':Vl.T_spec_l17Rd) (e:Vl.Expr) (r:Vl.Expr×Vl.T_spec_l17Rd),F.f67 r' e=some r→MutCall Try.prog B 23 [.arr (List.map cU r'.f0),.lit (.int .i64 r'.f1)] [.ptr 0 0,.agg [.lit (.int .i64 e.op),.lit (.int .i64 e.n),.lit (.int .i64 e.ctor),.arr (List.map Vl.Expr.c e.kids)]] (.agg [.lit (.int .i64 r.1.op),.lit (.int .i64 r.1.n),.lit (.int .i64 r.1.ctor),.arr (List.map Vl.Expr.c r.1.kids)]) [.arr (List.map cU r.2.f0),.lit (.int .i64 r.2.f1)]):=by
 refine F.f67.partial_correctness 
  _
  ?_
 ·intro _f_f67 ih_f67 r' e r hF
  refine MutCall.enterG Try.func23 (by kernel_rfl) rfl Try.ntmps23 (by simp) (by simp) (by simp) (by simp) Gh.keep ?_
  repeat(first|refine chk.ga ?_|simp -dsimp)
  refine ADraw.opn ?_
  refine ADraw.split [] [(6,11)] [(11,6)] 6 11 rfl rfl (by kernel_rfl) ?_ ?_
  ·refine ADraw.split [(6,11)] [(6,11),(9,11)] [(6,11),(11,9)] 9 11 rfl rfl (by kernel_rfl) ?_ ?_
   ·refine ADraw.split [(6,11),(9,11)] [(6,11),(9,11),(10,11)] [(6,11),(9,11),(11,10)] 10 11 rfl rfl (by kernel_rfl) ?_ ?_
    ·refine ADraw.effP [(6,11),(9,11),(10,11)] [0,1,2,3,4,5,6,7,8,9,10,11,12] [1000025] [(0,2),(0,2),(0,2),(0,2),(0,2),(0,2),(0,5),(0,1),(0,1),(0,5),(0,5),(0,5),(0,5)] [0,2,0,2,0,2,1,0,2,1,1,1,1] follows (by kernel_rfl) (by kernel_rfl) (by kernel_rfl) (by kernel_rfl) ?_
     have hF:=oc hF;obtain⟨c1,hF⟩:=hF
     repeat(first|refine chk.ga ?_|simp -dsimp)
     have hF:=ob hF;obtain⟨v,e2,hF⟩:=hF
     refine((C.f1 B hB1 hB2 r' (24:Int) v e2)).go 0 rfl (by simp) (by simp) (by simp) ?_
     repeat(first|refine chk.ga ?_|simp -dsimp)
     refine abr.split (fun h3=> ?_) (fun h3=> ?_)
     ·have q4:(v.1=0):=auq h3
      rw[if_pos q4]at hF
      repeat(first|refine chk.ga ?_|simp -dsimp[h3])
      have hF:=ob hF;obtain⟨v5,e6,hF⟩:=hF
      refine ACall.frz ?_ ((C.f54 B hB1 hB2 v.2 [(0:Int),(6:Int),(1:Int),(2:Int),(5:Int)] v5 e6)).ent
      repeat(first|refine chk.ga ?_|simp -dsimp[h3])
      refine((C.f54 B hB1 hB2 v.2 [(0:Int),(6:Int),(1:Int),(2:Int),(5:Int)] v5 e6)).go 0 rfl (by first|simp[h3];done|simp_all) (by simp) (by first|simp[h3];done|simp_all) ?_
      cases hF
      repeat(first|refine chk.ga ?_|simp -dsimp[h3])
      all_goals(try first|omega|rfl)
     ·have q4:¬(v.1=0):=auq h3
      rw[if_neg q4]at hF
      repeat(first|refine chk.ga ?_|simp -dsimp[h3,q4])
      refine abr.split (fun h7=> ?_) (fun h7=> ?_)
      ·have q8:(v.1=1):=auq h7
       rw[if_pos q8]at hF
       repeat(first|refine chk.ga ?_|simp -dsimp[h3,q4,h7])
       have hF:=ob hF;obtain⟨v9,e10,hF⟩:=hF
       refine ACall.frz ?_ ((C.f54 B hB1 hB2 v.2 [(10:Int),(-1:Int),(3:Int)] v9 e10)).ent
       repeat(first|refine chk.ga ?_|simp -dsimp[h3,q4,h7])
       refine((C.f54 B hB1 hB2 v.2 [(10:Int),(-1:Int),(3:Int)] v9 e10)).go 0 rfl (by first|simp[h3,q4,h7];done|simp_all) (by simp) (by first|simp[h3,q4,h7];done|simp_all) ?_
       cases hF
       repeat(first|refine chk.ga ?_|simp -dsimp[h3,q4,h7])
       all_goals(try first|omega|rfl)
      ·have q8:¬(v.1=1):=auq h7
       rw[if_neg q8]at hF
       repeat(first|refine chk.ga ?_|simp -dsimp[h3,q4,h7,q8])
       refine abr.split (fun h11=> ?_) (fun h11=> ?_)
       ·have q12:(v.1=2):=auq h11
        rw[if_pos q12]at hF
        have hF:=oc hF;obtain⟨c13,hF⟩:=hF
        cases hF
        repeat(first|refine chk.ga ?_|simp -dsimp[h3,q4,h7,q8,h11])
        all_goals(try first|omega|rfl)
       ·have q12:¬(v.1=2):=auq h11
        rw[if_neg q12]at hF
        repeat(first|refine chk.ga ?_|simp -dsimp[h3,q4,h7,q8,h11,q12])
        refine abr.split (fun h14=> ?_) (fun h14=> ?_)
        ·have q15:(v.1=3):=auq h14
         rw[if_pos q15]at hF
         repeat(first|refine chk.ga ?_|simp -dsimp[h3,q4,h7,q8,h11,q12,h14])
         refine abr.split (fun h16=> ?_) (fun h16=> ?_)
         ·have q17:(0<e.kids.length):=auq h16
          have z18:((0:Int)<(e.kids.length:Int)):=auz
          rw[if_pos q17]at hF
          repeat(first|refine chk.ga ?_|simp -dsimp[h3,q4,h7,q8,h11,q12,h14,h16,z18])
          refine ADraw.eff [23] [(0,2),(0,2),(0,1),(0,0),(0,0),(0,0),(0,0),(0,0),(0,3),(0,3),(2,2),(0,3)] [0,2,1,1,1,1,1,1,1,1,1,1] follows (by kernel_rfl) (by kernel_rfl) (by kernel_rfl) ?_
          have hF:=ob hF;obtain⟨x,e19,hF⟩:=hF
          have le19:=lt_of_get e19
          repeat(first|refine chk.ga ?_|simp -dsimp[h3,q4,h7,q8,h11,q12,h14,h16,z18,↓e19])
          have hF:=ob hF;obtain⟨v20,e21,hF⟩:=hF
          refine((ih_f67 v.2 x v20 e21)).ego 0 rfl (by first|simp[h3,q4,h7,q8,h11,q12,h14,h16,z18,↓e19];done|simp_all) (by simp) (by first|simp[h3,q4,h7,q8,h11,q12,h14,h16,z18,↓e19];done|simp_all) ?_
          repeat(first|refine chk.ga ?_|simp -dsimp[h3,q4,h7,q8,h11,q12,h14,h16,z18,↓e19])
          have hF:=ob hF;obtain⟨v22,e23,hF⟩:=hF
          refine((ih_f67 v20.2 v20.1 v22 e23)).ego 0 rfl (by first|simp[h3,q4,h7,q8,h11,q12,h14,h16,z18,↓e19];done|simp_all) (by simp) (by first|simp[h3,q4,h7,q8,h11,q12,h14,h16,z18,↓e19];done|simp_all) ?_
          cases hF
          repeat(first|refine chk.ga ?_|simp -dsimp[h3,q4,h7,q8,h11,q12,h14,h16,z18,↓e19])
          all_goals(try first|omega|rfl)
         ·have q17:¬(0<e.kids.length):=auq h16
          have z18:¬((0:Int)<(e.kids.length:Int)):=auz
          rw[if_neg q17]at hF
          cases hF
          repeat(first|refine chk.ga ?_|simp -dsimp[h3,q4,h7,q8,h11,q12,h14,h16,q17,z18])
          all_goals(try first|omega|rfl)
        ·have q15:¬(v.1=3):=auq h14
         rw[if_neg q15]at hF
         cases hF
         repeat(first|refine chk.ga ?_|simp -dsimp[h3,q4,h7,q8,h11,q12,h14,q15])
         all_goals(try first|omega|rfl)
    ·refine ADraw.effP [(6,11),(9,11),(11,10)] [0,1,2,3,4,5,6,7,8,9,11,10,12] [1000025] [(0,3),(0,3),(0,3),(0,3),(0,3),(0,3),(0,5),(0,1),(0,1),(0,5),(0,5),(0,5),(0,5)] [0,2,0,2,0,2,1,0,2,1,1,1,1] follows (by kernel_rfl) (by kernel_rfl) (by kernel_rfl) (by kernel_rfl) ?_
     have hF:=oc hF;obtain⟨c1,hF⟩:=hF
     repeat(first|refine chk.ga ?_|simp -dsimp)
     have hF:=ob hF;obtain⟨v,e2,hF⟩:=hF
     refine((C.f1 B hB1 hB2 r' (24:Int) v e2)).go 0 rfl (by simp) (by simp) (by simp) ?_
     repeat(first|refine chk.ga ?_|simp -dsimp)
     refine abr.split (fun h3=> ?_) (fun h3=> ?_)
     ·have q4:(v.1=0):=auq h3
      rw[if_pos q4]at hF
      repeat(first|refine chk.ga ?_|simp -dsimp[h3])
      have hF:=ob hF;obtain⟨v5,e6,hF⟩:=hF
      refine ACall.frz ?_ ((C.f54 B hB1 hB2 v.2 [(0:Int),(6:Int),(1:Int),(2:Int),(5:Int)] v5 e6)).ent
      repeat(first|refine chk.ga ?_|simp -dsimp[h3])
      refine((C.f54 B hB1 hB2 v.2 [(0:Int),(6:Int),(1:Int),(2:Int),(5:Int)] v5 e6)).go 0 rfl (by first|simp[h3];done|simp_all) (by simp) (by first|simp[h3];done|simp_all) ?_
      cases hF
      repeat(first|refine chk.ga ?_|simp -dsimp[h3])
      all_goals(try first|omega|rfl)
     ·have q4:¬(v.1=0):=auq h3
      rw[if_neg q4]at hF
      repeat(first|refine chk.ga ?_|simp -dsimp[h3,q4])
      refine abr.split (fun h7=> ?_) (fun h7=> ?_)
      ·have q8:(v.1=1):=auq h7
       rw[if_pos q8]at hF
       repeat(first|refine chk.ga ?_|simp -dsimp[h3,q4,h7])
       have hF:=ob hF;obtain⟨v9,e10,hF⟩:=hF
       refine ACall.frz ?_ ((C.f54 B hB1 hB2 v.2 [(10:Int),(-1:Int),(3:Int)] v9 e10)).ent
       repeat(first|refine chk.ga ?_|simp -dsimp[h3,q4,h7])
       refine((C.f54 B hB1 hB2 v.2 [(10:Int),(-1:Int),(3:Int)] v9 e10)).go 0 rfl (by first|simp[h3,q4,h7];done|simp_all) (by simp) (by first|simp[h3,q4,h7];done|simp_all) ?_
       cases hF
       repeat(first|refine chk.ga ?_|simp -dsimp[h3,q4,h7])
       all_goals(try first|omega|rfl)
      ·have q8:¬(v.1=1):=auq h7
       rw[if_neg q8]at hF
       repeat(first|refine chk.ga ?_|simp -dsimp[h3,q4,h7,q8])
       refine abr.split (fun h11=> ?_) (fun h11=> ?_)
       ·have q12:(v.1=2):=auq h11
        rw[if_pos q12]at hF
        have hF:=oc hF;obtain⟨c13,hF⟩:=hF
        cases hF
        repeat(first|refine chk.ga ?_|simp -dsimp[h3,q4,h7,q8,h11])
        all_goals(try first|omega|rfl)
       ·have q12:¬(v.1=2):=auq h11
        rw[if_neg q12]at hF
        repeat(first|refine chk.ga ?_|simp -dsimp[h3,q4,h7,q8,h11,q12])
        refine abr.split (fun h14=> ?_) (fun h14=> ?_)
        ·have q15:(v.1=3):=auq h14
         rw[if_pos q15]at hF
         repeat(first|refine chk.ga ?_|simp -dsimp[h3,q4,h7,q8,h11,q12,h14])
         refine abr.split (fun h16=> ?_) (fun h16=> ?_)
         ·have q17:(0<e.kids.length):=auq h16
          have z18:((0:Int)<(e.kids.length:Int)):=auz
          rw[if_pos q17]at hF
          repeat(first|refine chk.ga ?_|simp -dsimp[h3,q4,h7,q8,h11,q12,h14,h16,z18])
          refine ADraw.eff [23] [(0,2),(0,2),(0,1),(0,0),(0,0),(0,0),(0,0),(0,0),(0,3),(0,3),(2,2),(0,3)] [0,2,1,1,1,1,1,1,1,1,1,1] follows (by kernel_rfl) (by kernel_rfl) (by kernel_rfl) ?_
          have hF:=ob hF;obtain⟨x,e19,hF⟩:=hF
          have le19:=lt_of_get e19
          repeat(first|refine chk.ga ?_|simp -dsimp[h3,q4,h7,q8,h11,q12,h14,h16,z18,↓e19])
          have hF:=ob hF;obtain⟨v20,e21,hF⟩:=hF
          refine((ih_f67 v.2 x v20 e21)).ego 0 rfl (by first|simp[h3,q4,h7,q8,h11,q12,h14,h16,z18,↓e19];done|simp_all) (by simp) (by first|simp[h3,q4,h7,q8,h11,q12,h14,h16,z18,↓e19];done|simp_all) ?_
          repeat(first|refine chk.ga ?_|simp -dsimp[h3,q4,h7,q8,h11,q12,h14,h16,z18,↓e19])
          have hF:=ob hF;obtain⟨v22,e23,hF⟩:=hF
          refine((ih_f67 v20.2 v20.1 v22 e23)).ego 0 rfl (by first|simp[h3,q4,h7,q8,h11,q12,h14,h16,z18,↓e19];done|simp_all) (by simp) (by first|simp[h3,q4,h7,q8,h11,q12,h14,h16,z18,↓e19];done|simp_all) ?_
          cases hF
          repeat(first|refine chk.ga ?_|simp -dsimp[h3,q4,h7,q8,h11,q12,h14,h16,z18,↓e19])
          all_goals(try first|omega|rfl)
         ·have q17:¬(0<e.kids.length):=auq h16
          have z18:¬((0:Int)<(e.kids.length:Int)):=auz
          rw[if_neg q17]at hF
          cases hF
          repeat(first|refine chk.ga ?_|simp -dsimp[h3,q4,h7,q8,h11,q12,h14,h16,q17,z18])
          all_goals(try first|omega|rfl)
        ·have q15:¬(v.1=3):=auq h14
         rw[if_neg q15]at hF
         cases hF
         repeat(first|refine chk.ga ?_|simp -dsimp[h3,q4,h7,q8,h11,q12,h14,q15])
         all_goals(try first|omega|rfl)
   ·refine ADraw.effP [(6,11),(11,9)] [0,1,2,3,4,5,6,7,8,11,9,10,12] [1000025] [(0,3),(0,3),(0,3),(0,3),(0,3),(0,3),(0,5),(0,2),(0,2),(0,5),(0,5),(0,5),(0,5)] [0,2,0,2,0,2,1,0,2,1,1,1,1] follows (by kernel_rfl) (by kernel_rfl) (by kernel_rfl) (by kernel_rfl) ?_
    have hF:=oc hF;obtain⟨c1,hF⟩:=hF
    repeat(first|refine chk.ga ?_|simp -dsimp)
    have hF:=ob hF;obtain⟨v,e2,hF⟩:=hF
    refine((C.f1 B hB1 hB2 r' (24:Int) v e2)).go 0 rfl (by simp) (by simp) (by simp) ?_
    repeat(first|refine chk.ga ?_|simp -dsimp)
    refine abr.split (fun h3=> ?_) (fun h3=> ?_)
    ·have q4:(v.1=0):=auq h3
     rw[if_pos q4]at hF
     repeat(first|refine chk.ga ?_|simp -dsimp[h3])
     have hF:=ob hF;obtain⟨v5,e6,hF⟩:=hF
     refine ACall.frz ?_ ((C.f54 B hB1 hB2 v.2 [(0:Int),(6:Int),(1:Int),(2:Int),(5:Int)] v5 e6)).ent
     repeat(first|refine chk.ga ?_|simp -dsimp[h3])
     refine((C.f54 B hB1 hB2 v.2 [(0:Int),(6:Int),(1:Int),(2:Int),(5:Int)] v5 e6)).go 0 rfl (by first|simp[h3];done|simp_all) (by simp) (by first|simp[h3];done|simp_all) ?_
     cases hF
     repeat(first|refine chk.ga ?_|simp -dsimp[h3])
     all_goals(try first|omega|rfl)
    ·have q4:¬(v.1=0):=auq h3
     rw[if_neg q4]at hF
     repeat(first|refine chk.ga ?_|simp -dsimp[h3,q4])
     refine abr.split (fun h7=> ?_) (fun h7=> ?_)
     ·have q8:(v.1=1):=auq h7
      rw[if_pos q8]at hF
      repeat(first|refine chk.ga ?_|simp -dsimp[h3,q4,h7])
      have hF:=ob hF;obtain⟨v9,e10,hF⟩:=hF
      refine ACall.frz ?_ ((C.f54 B hB1 hB2 v.2 [(10:Int),(-1:Int),(3:Int)] v9 e10)).ent
      repeat(first|refine chk.ga ?_|simp -dsimp[h3,q4,h7])
      refine((C.f54 B hB1 hB2 v.2 [(10:Int),(-1:Int),(3:Int)] v9 e10)).go 0 rfl (by first|simp[h3,q4,h7];done|simp_all) (by simp) (by first|simp[h3,q4,h7];done|simp_all) ?_
      cases hF
      repeat(first|refine chk.ga ?_|simp -dsimp[h3,q4,h7])
      all_goals(try first|omega|rfl)
     ·have q8:¬(v.1=1):=auq h7
      rw[if_neg q8]at hF
      repeat(first|refine chk.ga ?_|simp -dsimp[h3,q4,h7,q8])
      refine abr.split (fun h11=> ?_) (fun h11=> ?_)
      ·have q12:(v.1=2):=auq h11
       rw[if_pos q12]at hF
       have hF:=oc hF;obtain⟨c13,hF⟩:=hF
       cases hF
       repeat(first|refine chk.ga ?_|simp -dsimp[h3,q4,h7,q8,h11])
       all_goals(try first|omega|rfl)
      ·have q12:¬(v.1=2):=auq h11
       rw[if_neg q12]at hF
       repeat(first|refine chk.ga ?_|simp -dsimp[h3,q4,h7,q8,h11,q12])
       refine abr.split (fun h14=> ?_) (fun h14=> ?_)
       ·have q15:(v.1=3):=auq h14
        rw[if_pos q15]at hF
        repeat(first|refine chk.ga ?_|simp -dsimp[h3,q4,h7,q8,h11,q12,h14])
        refine abr.split (fun h16=> ?_) (fun h16=> ?_)
        ·have q17:(0<e.kids.length):=auq h16
         have z18:((0:Int)<(e.kids.length:Int)):=auz
         rw[if_pos q17]at hF
         repeat(first|refine chk.ga ?_|simp -dsimp[h3,q4,h7,q8,h11,q12,h14,h16,z18])
         refine ADraw.eff [23] [(0,2),(0,2),(0,1),(0,0),(0,0),(0,0),(0,0),(0,0),(0,3),(0,3),(2,2),(0,3)] [0,2,1,1,1,1,1,1,1,1,1,1] follows (by kernel_rfl) (by kernel_rfl) (by kernel_rfl) ?_
         have hF:=ob hF;obtain⟨x,e19,hF⟩:=hF
         have le19:=lt_of_get e19
         repeat(first|refine chk.ga ?_|simp -dsimp[h3,q4,h7,q8,h11,q12,h14,h16,z18,↓e19])
         have hF:=ob hF;obtain⟨v20,e21,hF⟩:=hF
         refine((ih_f67 v.2 x v20 e21)).ego 0 rfl (by first|simp[h3,q4,h7,q8,h11,q12,h14,h16,z18,↓e19];done|simp_all) (by simp) (by first|simp[h3,q4,h7,q8,h11,q12,h14,h16,z18,↓e19];done|simp_all) ?_
         repeat(first|refine chk.ga ?_|simp -dsimp[h3,q4,h7,q8,h11,q12,h14,h16,z18,↓e19])
         have hF:=ob hF;obtain⟨v22,e23,hF⟩:=hF
         refine((ih_f67 v20.2 v20.1 v22 e23)).ego 0 rfl (by first|simp[h3,q4,h7,q8,h11,q12,h14,h16,z18,↓e19];done|simp_all) (by simp) (by first|simp[h3,q4,h7,q8,h11,q12,h14,h16,z18,↓e19];done|simp_all) ?_
         cases hF
         repeat(first|refine chk.ga ?_|simp -dsimp[h3,q4,h7,q8,h11,q12,h14,h16,z18,↓e19])
         all_goals(try first|omega|rfl)
        ·have q17:¬(0<e.kids.length):=auq h16
         have z18:¬((0:Int)<(e.kids.length:Int)):=auz
         rw[if_neg q17]at hF
         cases hF
         repeat(first|refine chk.ga ?_|simp -dsimp[h3,q4,h7,q8,h11,q12,h14,h16,q17,z18])
         all_goals(try first|omega|rfl)
       ·have q15:¬(v.1=3):=auq h14
        rw[if_neg q15]at hF
        cases hF
        repeat(first|refine chk.ga ?_|simp -dsimp[h3,q4,h7,q8,h11,q12,h14,q15])
        all_goals(try first|omega|rfl)
  ·refine ADraw.effP [(11,6)] [0,1,2,3,4,5,7,8,11,6,9,10,12] [1000025] [(0,3),(0,3),(0,3),(0,3),(0,3),(0,3),(0,2),(0,2),(0,5),(0,5),(0,5),(0,5),(0,5)] [0,2,0,2,0,2,0,2,1,1,1,1,1] follows (by kernel_rfl) (by kernel_rfl) (by kernel_rfl) (by kernel_rfl) ?_
   have hF:=oc hF;obtain⟨c1,hF⟩:=hF
   repeat(first|refine chk.ga ?_|simp -dsimp)
   have hF:=ob hF;obtain⟨v,e2,hF⟩:=hF
   refine((C.f1 B hB1 hB2 r' (24:Int) v e2)).go 0 rfl (by simp) (by simp) (by simp) ?_
   repeat(first|refine chk.ga ?_|simp -dsimp)
   refine abr.split (fun h3=> ?_) (fun h3=> ?_)
   ·have q4:(v.1=0):=auq h3
    rw[if_pos q4]at hF
    repeat(first|refine chk.ga ?_|simp -dsimp[h3])
    have hF:=ob hF;obtain⟨v5,e6,hF⟩:=hF
    refine ACall.frz ?_ ((C.f54 B hB1 hB2 v.2 [(0:Int),(6:Int),(1:Int),(2:Int),(5:Int)] v5 e6)).ent
    repeat(first|refine chk.ga ?_|simp -dsimp[h3])
    refine((C.f54 B hB1 hB2 v.2 [(0:Int),(6:Int),(1:Int),(2:Int),(5:Int)] v5 e6)).go 0 rfl (by first|simp[h3];done|simp_all) (by simp) (by first|simp[h3];done|simp_all) ?_
    cases hF
    repeat(first|refine chk.ga ?_|simp -dsimp[h3])
    all_goals(try first|omega|rfl)
   ·have q4:¬(v.1=0):=auq h3
    rw[if_neg q4]at hF
    repeat(first|refine chk.ga ?_|simp -dsimp[h3,q4])
    refine abr.split (fun h7=> ?_) (fun h7=> ?_)
    ·have q8:(v.1=1):=auq h7
     rw[if_pos q8]at hF
     repeat(first|refine chk.ga ?_|simp -dsimp[h3,q4,h7])
     have hF:=ob hF;obtain⟨v9,e10,hF⟩:=hF
     refine ACall.frz ?_ ((C.f54 B hB1 hB2 v.2 [(10:Int),(-1:Int),(3:Int)] v9 e10)).ent
     repeat(first|refine chk.ga ?_|simp -dsimp[h3,q4,h7])
     refine((C.f54 B hB1 hB2 v.2 [(10:Int),(-1:Int),(3:Int)] v9 e10)).go 0 rfl (by first|simp[h3,q4,h7];done|simp_all) (by simp) (by first|simp[h3,q4,h7];done|simp_all) ?_
     cases hF
     repeat(first|refine chk.ga ?_|simp -dsimp[h3,q4,h7])
     all_goals(try first|omega|rfl)
    ·have q8:¬(v.1=1):=auq h7
     rw[if_neg q8]at hF
     repeat(first|refine chk.ga ?_|simp -dsimp[h3,q4,h7,q8])
     refine abr.split (fun h11=> ?_) (fun h11=> ?_)
     ·have q12:(v.1=2):=auq h11
      rw[if_pos q12]at hF
      have hF:=oc hF;obtain⟨c13,hF⟩:=hF
      cases hF
      repeat(first|refine chk.ga ?_|simp -dsimp[h3,q4,h7,q8,h11])
      all_goals(try first|omega|rfl)
     ·have q12:¬(v.1=2):=auq h11
      rw[if_neg q12]at hF
      repeat(first|refine chk.ga ?_|simp -dsimp[h3,q4,h7,q8,h11,q12])
      refine abr.split (fun h14=> ?_) (fun h14=> ?_)
      ·have q15:(v.1=3):=auq h14
       rw[if_pos q15]at hF
       repeat(first|refine chk.ga ?_|simp -dsimp[h3,q4,h7,q8,h11,q12,h14])
       refine abr.split (fun h16=> ?_) (fun h16=> ?_)
       ·have q17:(0<e.kids.length):=auq h16
        have z18:((0:Int)<(e.kids.length:Int)):=auz
        rw[if_pos q17]at hF
        repeat(first|refine chk.ga ?_|simp -dsimp[h3,q4,h7,q8,h11,q12,h14,h16,z18])
        refine ADraw.eff [23] [(0,2),(0,2),(0,1),(0,0),(0,0),(0,0),(0,0),(0,0),(0,3),(0,3),(2,2),(0,3)] [0,2,1,1,1,1,1,1,1,1,1,1] follows (by kernel_rfl) (by kernel_rfl) (by kernel_rfl) ?_
        have hF:=ob hF;obtain⟨x,e19,hF⟩:=hF
        have le19:=lt_of_get e19
        repeat(first|refine chk.ga ?_|simp -dsimp[h3,q4,h7,q8,h11,q12,h14,h16,z18,↓e19])
        have hF:=ob hF;obtain⟨v20,e21,hF⟩:=hF
        refine((ih_f67 v.2 x v20 e21)).ego 0 rfl (by first|simp[h3,q4,h7,q8,h11,q12,h14,h16,z18,↓e19];done|simp_all) (by simp) (by first|simp[h3,q4,h7,q8,h11,q12,h14,h16,z18,↓e19];done|simp_all) ?_
        repeat(first|refine chk.ga ?_|simp -dsimp[h3,q4,h7,q8,h11,q12,h14,h16,z18,↓e19])
        have hF:=ob hF;obtain⟨v22,e23,hF⟩:=hF
        refine((ih_f67 v20.2 v20.1 v22 e23)).ego 0 rfl (by first|simp[h3,q4,h7,q8,h11,q12,h14,h16,z18,↓e19];done|simp_all) (by simp) (by first|simp[h3,q4,h7,q8,h11,q12,h14,h16,z18,↓e19];done|simp_all) ?_
        cases hF
        repeat(first|refine chk.ga ?_|simp -dsimp[h3,q4,h7,q8,h11,q12,h14,h16,z18,↓e19])
        all_goals(try first|omega|rfl)
       ·have q17:¬(0<e.kids.length):=auq h16
        have z18:¬((0:Int)<(e.kids.length:Int)):=auz
        rw[if_neg q17]at hF
        cases hF
        repeat(first|refine chk.ga ?_|simp -dsimp[h3,q4,h7,q8,h11,q12,h14,h16,q17,z18])
        all_goals(try first|omega|rfl)
      ·have q15:¬(v.1=3):=auq h14
       rw[if_neg q15]at hF
       cases hF
       repeat(first|refine chk.ga ?_|simp -dsimp[h3,q4,h7,q8,h11,q12,h14,q15])
       all_goals(try first|omega|rfl)
theorem C.f68 (code:List Int)(r:Vl.Expr×Vl.Expr)(hF:F.f68 code=some r):PureCall Try.prog B 7 [.arr (List.map cU code)] (.tup [.agg [.lit (.int .i64 r.1.op),.lit (.int .i64 r.1.n),.lit (.int .i64 r.1.ctor),.arr (List.map Vl.Expr.c r.1.kids)],.agg [.lit (.int .i64 r.2.op),.lit (.int .i64 r.2.n),.lit (.int .i64 r.2.ctor),.arr (List.map Vl.Expr.c r.2.kids)]]):=by
 unfold F.f68 at hF
 refine PureCall.enterLe Try.func7 (by kernel_rfl) rfl Try.ntmps7 (by simp) (by simp) ?_
 repeat(first|refine chk.ga ?_|simp -dsimp)
 refine ACall.inl Try.func19 (by kernel_rfl) rfl Try.ntmps19 (by simp) ?_
 repeat(first|refine chk.ga ?_|simp -dsimp)
 refine abr.split (fun h1=> ?_) (fun h1=> ?_)
 ·have q2:(2000<code.length):=auq h1
  have z3:((2000:Int)<(code.length:Int)):=auz
  rw[if_pos q2]at hF
  have hF:=oc hF;obtain⟨c4,hF⟩:=hF
  repeat(first|refine chk.ga ?_|simp -dsimp[h1,z3])
  have hF:=ob hF;obtain⟨v,e5,hF⟩:=hF
  refine((C.f59 B hB1 hB2 (⟨(code.drop 0).take (2000-0),(0:Int)⟩:Vl.T_spec_l17Rd) v e5)).go 2 rfl (by first|simp[h1,z3];done|simp_all) (by simp) (by first|simp[h1,z3];done|simp_all) ?_
  repeat(first|refine chk.ga ?_|simp -dsimp[h1,z3])
  have hF:=ob hF;obtain⟨v6,e7,hF⟩:=hF
  refine(((CC.f64 B hB1 hB2 v.1 v.2.1 v.2.2.1).1 v.2.2.2.2 v.2.2.2.1 (3:Int) v6 e7)).go 2 rfl (by first|simp[h1,z3];done|simp_all) (by simp) (by first|simp[h1,z3];done|simp_all) ?_
  repeat(first|refine chk.ga ?_|simp -dsimp[h1,z3])
  have hF:=ob hF;obtain⟨v8,e9,hF⟩:=hF
  refine((C.f1 B hB1 hB2 v6.2 (2:Int) v8 e9)).go 2 rfl (by first|simp[h1,z3];done|simp_all) (by simp) (by first|simp[h1,z3];done|simp_all) ?_
  repeat(first|refine chk.ga ?_|simp -dsimp[h1,z3])
  refine abr.split (fun h10=> ?_) (fun h10=> ?_)
  ·have q11:(v8.1=0):=auq h10
   rw[if_pos q11]at hF
   repeat(first|refine chk.ga ?_|simp -dsimp[h1,z3,h10])
   refine ADraw.eff [21] [(0,1),(0,0),(0,0),(0,0),(0,0),(0,0),(0,3),(0,3),(0,3)] [2,1,1,1,1,1,1,1,1] follows (by kernel_rfl) (by kernel_rfl) (by kernel_rfl) ?_
   repeat(first|refine chk.ga ?_|simp -dsimp[h1,z3,h10])
   have hF:=ob hF;obtain⟨v12,e13,hF⟩:=hF
   refine(((CC.f64 B hB1 hB2 v.1 v.2.1 v.2.2.1).1 v8.2 v.2.2.2.1 (3:Int) v12 e13)).ego 2 rfl (by first|simp[h1,z3,h10];done|simp_all) (by simp) (by first|simp[h1,z3,h10];done|simp_all) ?_
   cases hF
   repeat(first|refine chk.ga ?_|simp -dsimp[h1,z3,h10])
   all_goals(try first|omega|rfl)
  ·have q11:¬(v8.1=0):=auq h10
   rw[if_neg q11]at hF
   repeat(first|refine chk.ga ?_|simp -dsimp[h1,z3,h10,q11])
   refine ADraw.eff [23] [(0,2),(0,1),(0,0),(0,0),(0,4),(0,4),(0,4),(0,4)] [2,1,1,1,1,1,1,1] follows (by kernel_rfl) (by kernel_rfl) (by kernel_rfl) ?_
   repeat(first|refine chk.ga ?_|simp -dsimp[h1,z3,h10,q11])
   have hF:=ob hF;obtain⟨v14,e15,hF⟩:=hF
   refine(((CC.f67 B hB1 hB2) v8.2 v6.1 v14 e15)).ego 2 rfl (by first|simp[h1,z3,h10,q11];done|simp_all) (by simp) (by first|simp[h1,z3,h10,q11];done|simp_all) ?_
   repeat(first|refine chk.ga ?_|simp -dsimp[h1,z3,h10,q11])
   have hF:=ob hF;obtain⟨v16,e17,hF⟩:=hF
   refine(((CC.f67 B hB1 hB2) v14.2 v14.1 v16 e17)).ego 2 rfl (by first|simp[h1,z3,h10,q11];done|simp_all) (by simp) (by first|simp[h1,z3,h10,q11];done|simp_all) ?_
   cases hF
   repeat(first|refine chk.ga ?_|simp -dsimp[h1,z3,h10,q11])
   all_goals(try first|omega|rfl)
 ·have q2:¬(2000<code.length):=auq h1
  have z3:¬((2000:Int)<(code.length:Int)):=auz
  rw[if_neg q2]at hF
  repeat(first|refine chk.ga ?_|simp -dsimp[h1,q2,z3])
  have hF:=ob hF;obtain⟨v18,e19,hF⟩:=hF
  refine((C.f59 B hB1 hB2 (⟨code,(0:Int)⟩:Vl.T_spec_l17Rd) v18 e19)).go 2 rfl (by first|simp[h1,q2,z3];done|simp_all) (by simp) (by first|simp[h1,q2,z3];done|simp_all) ?_
  repeat(first|refine chk.ga ?_|simp -dsimp[h1,q2,z3])
  have hF:=ob hF;obtain⟨v20,e21,hF⟩:=hF
  refine(((CC.f64 B hB1 hB2 v18.1 v18.2.1 v18.2.2.1).1 v18.2.2.2.2 v18.2.2.2.1 (3:Int) v20 e21)).go 2 rfl (by first|simp[h1,q2,z3];done|simp_all) (by simp) (by first|simp[h1,q2,z3];done|simp_all) ?_
  repeat(first|refine chk.ga ?_|simp -dsimp[h1,q2,z3])
  have hF:=ob hF;obtain⟨v22,e23,hF⟩:=hF
  refine((C.f1 B hB1 hB2 v20.2 (2:Int) v22 e23)).go 2 rfl (by first|simp[h1,q2,z3];done|simp_all) (by simp) (by first|simp[h1,q2,z3];done|simp_all) ?_
  repeat(first|refine chk.ga ?_|simp -dsimp[h1,q2,z3])
  refine abr.split (fun h24=> ?_) (fun h24=> ?_)
  ·have q25:(v22.1=0):=auq h24
   rw[if_pos q25]at hF
   repeat(first|refine chk.ga ?_|simp -dsimp[h1,q2,z3,h24])
   refine ADraw.eff [21] [(0,1),(0,0),(0,0),(0,0),(0,0),(0,0),(0,3),(0,3),(0,3)] [2,1,1,1,1,1,1,1,1] follows (by kernel_rfl) (by kernel_rfl) (by kernel_rfl) ?_
   repeat(first|refine chk.ga ?_|simp -dsimp[h1,q2,z3,h24])
   have hF:=ob hF;obtain⟨v26,e27,hF⟩:=hF
   refine(((CC.f64 B hB1 hB2 v18.1 v18.2.1 v18.2.2.1).1 v22.2 v18.2.2.2.1 (3:Int) v26 e27)).ego 2 rfl (by first|simp[h1,q2,z3,h24];done|simp_all) (by simp) (by first|simp[h1,q2,z3,h24];done|simp_all) ?_
   cases hF
   repeat(first|refine chk.ga ?_|simp -dsimp[h1,q2,z3,h24])
   all_goals(try first|omega|rfl)
  ·have q25:¬(v22.1=0):=auq h24
   rw[if_neg q25]at hF
   repeat(first|refine chk.ga ?_|simp -dsimp[h1,q2,z3,h24,q25])
   refine ADraw.eff [23] [(0,2),(0,1),(0,0),(0,0),(0,4),(0,4),(0,4),(0,4)] [2,1,1,1,1,1,1,1] follows (by kernel_rfl) (by kernel_rfl) (by kernel_rfl) ?_
   repeat(first|refine chk.ga ?_|simp -dsimp[h1,q2,z3,h24,q25])
   have hF:=ob hF;obtain⟨v28,e29,hF⟩:=hF
   refine(((CC.f67 B hB1 hB2) v22.2 v20.1 v28 e29)).ego 2 rfl (by first|simp[h1,q2,z3,h24,q25];done|simp_all) (by simp) (by first|simp[h1,q2,z3,h24,q25];done|simp_all) ?_
   repeat(first|refine chk.ga ?_|simp -dsimp[h1,q2,z3,h24,q25])
   have hF:=ob hF;obtain⟨v30,e31,hF⟩:=hF
   refine(((CC.f67 B hB1 hB2) v28.2 v28.1 v30 e31)).ego 2 rfl (by first|simp[h1,q2,z3,h24,q25];done|simp_all) (by simp) (by first|simp[h1,q2,z3,h24,q25];done|simp_all) ?_
   cases hF
   repeat(first|refine chk.ga ?_|simp -dsimp[h1,q2,z3,h24,q25])
   all_goals(try first|omega|rfl)
theorem CC.f69  :(∀(a:Vl.Expr) (b:Vl.Expr) (r:Bool),F.f69 a b=some r→PureCall Try.prog B 8 [.agg [.lit (.int .i64 a.op),.lit (.int .i64 a.n),.lit (.int .i64 a.ctor),.arr (List.map Vl.Expr.c a.kids)],.agg [.lit (.int .i64 b.op),.lit (.int .i64 b.n),.lit (.int .i64 b.ctor),.arr (List.map Vl.Expr.c b.kids)]] (.lit (.bool r)))∧
  (∀(s1:List Vl.Expr) (s2:List Vl.Expr) (r:Bool),F.f70 s1 s2=some r→PureCall Try.prog B 24 [.arr (List.map Vl.Expr.c s1),.arr (List.map Vl.Expr.c s2),.fn (.func 8) [] []] (.lit (.bool r)))∧
  (∀(s1:List Vl.Expr) (s2:List Vl.Expr) (i:Nat) (o:Lo Bool Unit),F.f71 s1 s2 i=some o→∀(c:Code),navO [1,1,0,1,0,0] (bodyOf Try.f24)=some c→∀(Q:Exit→ASt→Prop),o.post (fun r=>∀st,Post Try.prog Try.f24 (fun r' _=>r'.le (.lit (.bool r))) .ret st→Q .ret st) (fun s=>Q (.exit 0) ⟨[],[]⟩)→ALoopU Try.prog B 0 32 (hold c .mk) ⟨[(1,.arr (List.map Vl.Expr.c s2)),(2,.fn (.func 8) [] []),(15,.arr (List.map Vl.Expr.c s1)),(16,.lit (.int .i64 (s1.length:Int))),(17,.lit (.int .i64 (i:Int)))],[]⟩ (hold Q .mk)):=by
 refine F.f69.mutual_partial_correctness 
  _ _ _
  ?_ ?_ ?_
 ·intro _f_f70 ih_f70 a b r hF
  refine PureCall.enterLe Try.func8 (by kernel_rfl) rfl Try.ntmps8 (by simp) (by simp) ?_
  repeat(first|refine chk.ga ?_|simp -dsimp)
  refine abr.split (fun h1=> ?_) (fun h1=> ?_)
  ·have q2:(a.op=b.op):=auq h1
   rw[if_pos q2]at hF
   repeat(first|refine chk.ga ?_|simp -dsimp[h1])
   refine abr.split (fun h3=> ?_) (fun h3=> ?_)
   ·have q4:(a.n=b.n):=auq h3
    rw[if_pos q4]at hF
    repeat(first|refine chk.ga ?_|simp -dsimp[h1,h3])
    refine abr.split (fun h5=> ?_) (fun h5=> ?_)
    ·have q6:(a.ctor=b.ctor):=auq h5
     rw[if_pos q6]at hF
     repeat(first|refine chk.ga ?_|simp -dsimp[h1,h3,h5])
     have hF:=ob hF;obtain⟨v,e7,hF⟩:=hF
     refine((ih_f70 a.kids b.kids v e7)).goW (by first|simp[h1,h3,h5];done|simp_all) (by simp) ?_
     cases hF
     repeat(first|refine chk.ga ?_|simp -dsimp[h1,h3,h5])
     all_goals(try first|omega|rfl)
    ·have q6:¬(a.ctor=b.ctor):=auq h5
     rw[if_neg q6]at hF
     cases hF
     repeat(first|refine chk.ga ?_|simp -dsimp[h1,h3,h5,q6])
     all_goals(try first|omega|rfl)
   ·have q4:¬(a.n=b.n):=auq h3
    rw[if_neg q4]at hF
    cases hF
    repeat(first|refine chk.ga ?_|simp -dsimp[h1,h3,q4])
    all_goals(try first|omega|rfl)
  ·have q2:¬(a.op=b.op):=auq h1
   rw[if_neg q2]at hF
   cases hF
   repeat(first|refine chk.ga ?_|simp -dsimp[h1,q2])
   all_goals(try first|omega|rfl)
 ·intro _f_f71 ih_f71 s1 s2 r hF
  refine PureCall.enterLe Try.func24 (by kernel_rfl) rfl Try.ntmps24 (by simp) (by simp) ?_
  repeat(first|refine chk.ga ?_|simp -dsimp)
  refine abr.split (fun h1=> ?_) (fun h1=> ?_)
  ·have q2:¬(s1.length=s2.length):=auq h1
   have z3:¬((s1.length:Int)=(s2.length:Int)):=auz
   rw[if_neg q2]at hF
   cases hF
   repeat(first|refine chk.ga ?_|simp -dsimp[h1,q2,z3])
   all_goals(try first|omega|rfl)
  ·have q2:(s1.length=s2.length):=auq h1
   have z3:((s1.length:Int)=(s2.length:Int)):=auz
   rw[if_pos q2]at hF
   repeat(first|refine chk.ga ?_|simp -dsimp[h1,q2,z3])
   have hF:=ob hF;obtain⟨o',ho14,hF⟩:=hF
   refine ALoop.goU _ ?_ ((ih_f71 s1 s2 0 o' ho14) _ rfl _ ?_)
   ·exact(Gh.to3 (by simp) (by first|simp -dsimp[h1,q2,z3];done|simp_all))
   rcases o' with r0|sx
   ·dsimp only at hF
    cases hF
    intro st h
    simpa using h
   ·dsimp only at hF
    cases hF
    repeat(first|refine chk.ga ?_|simp -dsimp)
    all_goals(try first|omega|rfl)
 ·intro _f_f69 _f_f71 ih_f69 ih_f71 s1 s2 i o hF
  intro c hc Q hq
  obtain rfl:c=_:=navEq hc rfl
  refine ALoopU.know fun hk hs=> ?_
  have b1:=hk 1
  simp -dsimp at b1
  have b15:=hk 15
  simp -dsimp at b15
  clear hk hs
  refine ALoopU.enter ?_
  repeat(first|refine chk.ga ?_|simp -dsimp)
  refine abr.split (fun h4=> ?_) (fun h4=> ?_)
  ·have q5:(i<s1.length):=auq h4
   have z6:((i:Int)<(s1.length:Int)):=auz
   rw[if_pos q5]at hF
   have hF:=ob hF;obtain⟨x,e7,hF⟩:=hF
   have le7:=lt_of_get e7
   have hF:=ob hF;obtain⟨x8,e9,hF⟩:=hF
   have le9:=lt_of_get e9
   repeat(first|refine chk.ga ?_|simp -dsimp[h4,z6,↓e7,↓e9])
   have hF:=ob hF;obtain⟨v,e10,hF⟩:=hF
   refine((ih_f69 x x8 v e10)).goW (by first|simp[h4,z6,↓e7,↓e9];done|simp_all) (by simp) ?_
   repeat(first|refine chk.ga ?_|simp -dsimp[h4,z6,↓e7,↓e9])
   refine abr.split (fun h11=> ?_) (fun h11=> ?_)
   ·have q12:¬(v=true):=auq h11
    rw[if_neg q12]at hF
    cases hF
    repeat(first|refine chk.ga ?_|simp -dsimp[h4,z6,↓e7,↓e9,h11,q12])
    refine Leave.go _ (Gh.refl _) (hq _ ?_)
    repeat(first|refine chk.ga ?_|simp -dsimp[h4,z6,↓e7,↓e9,h11,q12])
   ·have q12:(v=true):=auq h11
    rw[if_pos q12]at hF
    have w13:IntKind.i64.wrap ((i:Int)+1)=(i:Int)+1:=wrap_in (by omega) (by omega)
    repeat(first|refine chk.ga ?_|simp -dsimp[h4,z6,↓e7,↓e9,h11,q12,w13])
    refine Again.go _ ?_ ((ih_f71 s1 s2 (i+1) o hF) _ rfl _ hq)
    exact(Gh.to3 (by simp) (by first|simp -dsimp[h4,z6,↓e7,↓e9,h11,q12,w13];done|simp_all))
  ·have q5:¬(i<s1.length):=auq h4
   have z6:¬((i:Int)<(s1.length:Int)):=auz
   rw[if_neg q5]at hF
   cases hF
   repeat(first|refine chk.ga ?_|simp -dsimp[h4,q5,z6])
   refine Leave.go ⟨[],[]⟩ (Gh.to3 (by simp) (by first|simp -dsimp[h4,q5,z6];done|simp_all)) ?_
   exact hq
theorem CC.f72  :(∀(a:Vl.Expr) (b:Vl.Expr) (r:Bool),F.f72 a b=some r→PureCall Try.prog B 9 [.agg [.lit (.int .i64 a.op),.lit (.int .i64 a.n),.lit (.int .i64 a.ctor),.arr (List.map Vl.Expr.c a.kids)],.agg [.lit (.int .i64 b.op),.lit (.int .i64 b.n),.lit (.int .i64 b.ctor),.arr (List.map Vl.Expr.c b.kids)]] (.lit (.bool r)))∧
  (∀(a:Vl.Expr) (b:Vl.Expr) (i:Nat) (o:Lo Bool Unit),F.f73 a b i=some o→∀(c:Code),navO [1,1,0,1,0,0] (bodyOf Try.f9)=some c→∀(Q:Exit→ASt→Prop),o.post (fun r=>∀st,Post Try.prog Try.f9 (fun r' _=>r'.le (.lit (.bool r))) .ret st→Q .ret st) (fun s=>Q (.exit 0) ⟨[],[]⟩)→ALoopU Try.prog B 0 53 (hold c .mk) ⟨[(2,.ptr 0 0),(3,.ptr 1 0),(5,.lit (.int .i64 (i:Int)))],[.cells [.lit (.int .i64 a.op),.lit (.int .i64 a.n),.lit (.int .i64 a.ctor),.arr (List.map Vl.Expr.c a.kids)],.cells [.lit (.int .i64 b.op),.lit (.int .i64 b.n),.lit (.int .i64 b.ctor),.arr (List.map Vl.Expr.c b.kids)]]⟩ (hold Q .mk)):=by
 refine F.f72.mutual_partial_correctness 
  _ _
  ?_ ?_
 ·intro _f_f73 ih_f73 a b r hF
  refine PureCall.enterLe Try.func9 (by kernel_rfl) rfl Try.ntmps9 (by simp) (by simp) ?_
  repeat(first|refine chk.ga ?_|simp -dsimp)
  refine abr.split (fun h1=> ?_) (fun h1=> ?_)
  ·have q2:(a.op=b.op):=auq h1
   rw[if_pos q2]at hF
   repeat(first|refine chk.ga ?_|simp -dsimp[h1])
   refine abr.split (fun h3=> ?_) (fun h3=> ?_)
   ·have q4:(a.n=b.n):=auq h3
    rw[if_pos q4]at hF
    repeat(first|refine chk.ga ?_|simp -dsimp[h1,h3])
    refine abr.split (fun h5=> ?_) (fun h5=> ?_)
    ·have q6:(a.ctor=b.ctor):=auq h5
     rw[if_pos q6]at hF
     repeat(first|refine chk.ga ?_|simp -dsimp[h1,h3,h5])
     refine abr.split (fun h7=> ?_) (fun h7=> ?_)
     ·have q8:¬(a.kids.length=b.kids.length):=auq h7
      have z9:¬((a.kids.length:Int)=(b.kids.length:Int)):=auz
      rw[if_neg q8]at hF
      cases hF
      repeat(first|refine chk.ga ?_|simp -dsimp[h1,h3,h5,h7,q8,z9])
      all_goals(try first|omega|rfl)
     ·have q8:(a.kids.length=b.kids.length):=auq h7
      have z9:((a.kids.length:Int)=(b.kids.length:Int)):=auz
      rw[if_pos q8]at hF
      repeat(first|refine chk.ga ?_|simp -dsimp[h1,h3,h5,h7,q8,z9])
      have hF:=ob hF;obtain⟨o',ho20,hF⟩:=hF
      refine ALoop.goU _ ?_ ((ih_f73 a b 0 o' ho20) _ rfl _ ?_)
      ·exact(Gh.to3 (by simp) (by first|simp -dsimp[h1,h3,h5,h7,q8,z9];done|simp_all))
      rcases o' with r0|sx
      ·dsimp only at hF
       cases hF
       intro st h
       simpa using h
      ·dsimp only at hF
       cases hF
       repeat(first|refine chk.ga ?_|simp -dsimp)
       all_goals(try first|omega|rfl)
    ·have q6:¬(a.ctor=b.ctor):=auq h5
     rw[if_neg q6]at hF
     cases hF
     repeat(first|refine chk.ga ?_|simp -dsimp[h1,h3,h5,q6])
     all_goals(try first|omega|rfl)
   ·have q4:¬(a.n=b.n):=auq h3
    rw[if_neg q4]at hF
    cases hF
    repeat(first|refine chk.ga ?_|simp -dsimp[h1,h3,q4])
    all_goals(try first|omega|rfl)
  ·have q2:¬(a.op=b.op):=auq h1
   rw[if_neg q2]at hF
   cases hF
   repeat(first|refine chk.ga ?_|simp -dsimp[h1,q2])
   all_goals(try first|omega|rfl)
 ·intro _f_f72 _f_f73 ih_f72 ih_f73 a b i o hF
  intro c hc Q hq
  obtain rfl:c=_:=navEq hc rfl
  refine ALoopU.know fun hk hs=> ?_
  have d0:=hs 0 _ rfl
  simp -dsimp[Blk.bnd]at d0
  have d1:=hs 1 _ rfl
  simp -dsimp[Blk.bnd]at d1
  clear hk hs
  refine ALoopU.enter ?_
  repeat(first|refine chk.ga ?_|simp -dsimp)
  refine abr.split (fun h10=> ?_) (fun h10=> ?_)
  ·have q11:(i<a.kids.length):=auq h10
   have z12:((i:Int)<(a.kids.length:Int)):=auz
   rw[if_pos q11]at hF
   repeat(first|refine chk.ga ?_|simp -dsimp[h10,z12])
   refine ADraw.simple follows (by kernel_rfl) (by kernel_rfl) ?_
   have hF:=ob hF;obtain⟨x,e13,hF⟩:=hF
   have le13:=lt_of_get e13
   have hF:=ob hF;obtain⟨x14,e15,hF⟩:=hF
   have le15:=lt_of_get e15
   repeat(first|refine chk.ga ?_|simp -dsimp[h10,z12,↓e13,↓e15])
   have hF:=ob hF;obtain⟨v,e16,hF⟩:=hF
   refine((ih_f72 x x14 v e16)).pgoW (by first|simp[h10,z12,↓e13,↓e15];done|simp_all) (by simp) ?_
   repeat(first|refine chk.ga ?_|simp -dsimp[h10,z12,↓e13,↓e15])
   refine abr.split (fun h17=> ?_) (fun h17=> ?_)
   ·have q18:¬(v=true):=auq h17
    rw[if_neg q18]at hF
    cases hF
    repeat(first|refine chk.ga ?_|simp -dsimp[h10,z12,↓e13,↓e15,h17,q18])
    refine Leave.go _ (Gh.refl _) (hq _ ?_)
    repeat(first|refine chk.ga ?_|simp -dsimp[h10,z12,↓e13,↓e15,h17,q18])
   ·have q18:(v=true):=auq h17
    rw[if_pos q18]at hF
    have w19:IntKind.i64.wrap ((i:Int)+1)=(i:Int)+1:=wrap_in (by omega) (by omega)
    repeat(first|refine chk.ga ?_|simp -dsimp[h10,z12,↓e13,↓e15,h17,q18,w19])
    refine Again.go _ ?_ ((ih_f73 a b (i+1) o hF) _ rfl _ hq)
    exact(Gh.to3 (by simp) (by first|simp -dsimp[h10,z12,↓e13,↓e15,h17,q18,w19];done|simp_all))
  ·have q11:¬(i<a.kids.length):=auq h10
   have z12:¬((i:Int)<(a.kids.length:Int)):=auz
   rw[if_neg q11]at hF
   cases hF
   repeat(first|refine chk.ga ?_|simp -dsimp[h10,q11,z12])
   refine Leave.go ⟨[],[]⟩ (Gh.to3 (by simp) (by first|simp -dsimp[h10,q11,z12];done|simp_all)) ?_
   exact hq
theorem C.f74 (code:List Int)(r:Bool)(hF:F.f74 code=some r):PureCall Try.prog B 3 [.arr (List.map cU code)] (.lit (.bool r)):=by
 unfold F.f74 at hF
 refine PureCall.enterLe Try.func3 (by kernel_rfl) rfl Try.ntmps3 (by simp) (by simp) ?_
 repeat(first|refine chk.ga ?_|simp -dsimp)
 refine abr.split (fun h1=> ?_) (fun h1=> ?_)
 ·have q2:(1048576<code.length):=auq h1
  have z3:((1048576:Int)<(code.length:Int)):=auz
  rw[if_pos q2]at hF
  cases hF
  repeat(first|refine chk.ga ?_|simp -dsimp[h1,z3])
  all_goals(try first|omega|rfl)
 ·have q2:¬(1048576<code.length):=auq h1
  have z3:¬((1048576:Int)<(code.length:Int)):=auz
  rw[if_neg q2]at hF
  repeat(first|refine chk.ga ?_|simp -dsimp[h1,q2,z3])
  have hF:=ob hF;obtain⟨v,e4,hF⟩:=hF
  refine((C.f68 B hB1 hB2 code v e4)).goW (by first|simp[h1,q2,z3];done|simp_all) (by simp) ?_
  repeat(first|refine chk.ga ?_|simp -dsimp[h1,q2,z3])
  have hF:=ob hF;obtain⟨v5,e6,hF⟩:=hF
  refine(((CC.f69 B hB1 hB2).1 v.1 v.2 v5 e6)).goW (by first|simp[h1,q2,z3];done|simp_all) (by simp) ?_
  repeat(first|refine chk.ga ?_|simp -dsimp[h1,q2,z3])
  have hF:=ob hF;obtain⟨v7,e8,hF⟩:=hF
  refine(((CC.f72 B hB1 hB2).1 v.1 v.2 v7 e8)).goW (by first|simp[h1,q2,z3];done|simp_all) (by simp) ?_
  repeat(first|refine chk.ga ?_|simp -dsimp[h1,q2,z3])
  refine abr.split (fun h9=> ?_) (fun h9=> ?_)
  ·have q10:(v5=v7):=auq h9
   rw[if_pos q10]at hF
   repeat(first|refine chk.ga ?_|simp -dsimp[h1,q2,z3,h9])
   have hF:=ob hF;obtain⟨v11,e12,hF⟩:=hF
   refine(((CC.f69 B hB1 hB2).1 v.2 v.1 v11 e12)).goW (by first|simp[h1,q2,z3,h9];done|simp_all) (by simp) ?_
   repeat(first|refine chk.ga ?_|simp -dsimp[h1,q2,z3,h9])
   refine abr.split (fun h13=> ?_) (fun h13=> ?_)
   ·have q14:(v5=v11):=auq h13
    rw[if_pos q14]at hF
    repeat(first|refine chk.ga ?_|simp -dsimp[h1,q2,z3,h9,h13])
    have hF:=ob hF;obtain⟨v15,e16,hF⟩:=hF
    refine(((CC.f69 B hB1 hB2).1 v.1 v.1 v15 e16)).goW (by first|simp[h1,q2,z3,h9,h13];done|simp_all) (by simp) ?_
    cases hF
    repeat(first|refine chk.ga ?_|simp -dsimp[h1,q2,z3,h9,h13])
    all_goals(try first|omega|rfl)
   ·have q14:¬(v5=v11):=auq h13
    rw[if_neg q14]at hF
    cases hF
    repeat(first|refine chk.ga ?_|simp -dsimp[h1,q2,z3,h9,h13,q14])
    all_goals(try first|omega|rfl)
  ·have q10:¬(v5=v7):=auq h9
   rw[if_neg q10]at hF
   cases hF
   repeat(first|refine chk.ga ?_|simp -dsimp[h1,q2,z3,h9,q10])
   all_goals(try first|omega|rfl)
end Go.Proofs.Ytabldoepgohajaa
