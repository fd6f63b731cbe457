/- A part of the proof. -/
import Derived.Test.YtnmbhmbljbhonaaGreatProg
import Derived.Test.YtnmbhmbljbhonaaGreatExpandNodesF
import Derived.Test.YtnmbhmbljbhonaaGreatExpandNodesC2
namespace Go.Proofs.YtnmbhmbljbhonaaGreat
open Go Go.Proofs Go.Vl
open abr renaming sp->aS,ns->aN
open Leave renaming go->lG
open Again renaming go->aG
open ALoopU renaming know->kN,enter->eN
open Gh renaming to3->gT,refl->gR
open PureCall renaming enterLe->pE
open Go.IntKind (i64)
set_option linter.all false
set_option maxRecDepth 100000
set_option maxHeartbeats 4000000
set_option synthInstance.maxSize 100000
set_option synthInstance.maxHeartbeats 4000000
attribute [local irreducible] GhK ECallA ZHC aL aLg ZK5 ZIF ZFS ZD5 ZG3 ZCA MutCall BCall chk abr ACall ALoop ALoopU ADraw Again Leave ZDW PCall ZAh awp ZGU PureCall hold
variable (B : Nat) (hB1 : 67108864 <= B) (hB2 : B <= 9223372036854775807)
include hB1 hB2
theorem C.spec_l8Nodes__o0 (code:List Int)(r:List Vl.Node)(hF:F.f170 code=some r):BCall Tryz.prog B 10 [] [am cU code] (.own 0 (List.length (α:=Vl.Node) r)) [.elems 6 (List.map Vl.Node.c r)]:=by
 unfold F.f170 at hF
 refine BCall.enterS (τ1:=[]) (ys:=[.own 0 (List.length (α:=Vl.Node) r)]) (news:=[(6,List.map Vl.Node.c r)]) Tryz.func10 (by kernel_rfl) rfl Tryz.ntmps10 (by simp) rfl rfl (by simp) (by simp) (by simp) (by simp) (by simp) (by simp) (gR _) ?_
 repeat first|refine cg ?_|simp -dsimp
 refine ACall.inl Tryz.func20 (by kernel_rfl) rfl Tryz.ntmps20 (by simp) ?_
 repeat first|refine cg ?_|simp -dsimp
 revert hF;refine aS ?_ ?_<;>intro h1 q2 hF
 ·have z3:(2000<(code.length:Int)):=auz
  have hF:=oc hF;obtain⟨c4,hF⟩:=hF
  repeat first|refine cg ?_|simp -dsimp[h1,z3]
  have hF:=ob hF;obtain⟨v,e5,hF⟩:=hF
  refine((C.f150 B hB1 hB2 code v e5)).goW (by simp[h1,z3]) (by simp) ?_
  repeat first|refine cg ?_|simp -dsimp[h1,z3]
  have hF:=ob hF;obtain⟨v6,e7,hF⟩:=hF
  refine((C.f169 B hB1 hB2 v v6 e7)).goW (by simp[h1,z3]) (by simp) ?_
  have hF:=oc hF;obtain⟨c8,hF⟩:=hF
  repeat first|refine cg ?_|simp -dsimp[h1,z3]
  revert hF;refine aN ?_ ?_<;>intro h9 q10 hF
  ·have z11:¬((v6.1.length:Int)=0):=auz
   repeat first|refine cg ?_|simp -dsimp[h1,z3,h9,q10,z11]
   have hF:=ob hF;obtain⟨v12,e13,hF⟩:=hF
   refine((C.f1 B hB1 hB2 (⟨(code.drop 0).take (2000-0),0⟩:ZE) 3 v12 e13)).go 0 rfl (by simp[h1,z3,h9,q10,z11]) (by simp) (by simp[h1,z3,h9,q10,z11]) ?_
   repeat first|refine cg ?_|simp -dsimp[h1,z3,h9,q10,z11]
   revert hF;refine aS ?_ ?_<;>intro h14 q15 hF
   ·cases hF
    repeat first|refine cg ?_|simp -dsimp[h1,z3,h9,q10,z11,h14]
    all_goals(try first|omega|rfl|(simp;done)|(simp only[List.length_cons,List.length_nil]at*;omega)|simp)
   ·repeat first|refine cg ?_|simp -dsimp[h1,z3,h9,q10,z11,h14,q15]
    have hF:=ob hF;obtain⟨v16,e17,hF⟩:=hF
    refine((C.f1 B hB1 hB2 v12.2 (v6.1.length:Int) v16 e17)).go 0 rfl (by simp[h1,z3,h9,q10,z11,h14,q15]) (by simp) (by simp[h1,z3,h9,q10,z11,h14,q15]) ?_
    repeat first|refine cg ?_|simp -dsimp[h1,z3,h9,q10,z11,h14,q15]
    have hF:=ob hF;obtain⟨v18,e19,hF⟩:=hF
    refine((C.f1 B hB1 hB2 v16.2 5 v18 e19)).go 0 rfl (by simp[h1,z3,h9,q10,z11,h14,q15]) (by simp) (by simp[h1,z3,h9,q10,z11,h14,q15]) ?_
    repeat first|refine cg ?_|simp -dsimp[h1,z3,h9,q10,z11,h14,q15]
    revert hF;refine aS ?_ ?_<;>intro h20 q21 hF
    ·repeat first|refine cg ?_|simp -dsimp[h1,z3,h9,q10,z11,h14,q15,h20]
     have hF:=ob hF;obtain⟨v22,e23,hF⟩:=hF
     refine ACall.frz ?_ ((C.f54 B hB1 hB2 v18.2 [0,1,2,3,(-1)] v22 e23)).ent
     repeat first|refine cg ?_|simp -dsimp[h1,z3,h9,q10,z11,h14,q15,h20]
     refine((C.f54 B hB1 hB2 v18.2 [0,1,2,3,(-1)] v22 e23)).go 0 rfl (by simp[h1,z3,h9,q10,z11,h14,q15,h20]) (by simp) (by simp[h1,z3,h9,q10,z11,h14,q15,h20]) ?_
     have hF:=ob hF;obtain⟨x,e24a,hF⟩:=hF
     have e24a:=ZL e24a;obtain⟨ne24,e24⟩:=e24a
     have le24:=ZB e24
     cases hF
     repeat first|refine cg ?_|simp -dsimp[h1,z3,h9,q10,z11,h14,q15,h20,↓e24,le24]
     all_goals(try first|omega|rfl|(simp;done)|(simp only[List.length_cons,List.length_nil]at*;omega)|simp)
    ·repeat first|refine cg ?_|simp -dsimp[h1,z3,h9,q10,z11,h14,q15,h20,q21]
     revert hF;refine aS ?_ ?_<;>intro h25 q26 hF
     ·repeat first|refine cg ?_|simp -dsimp[h1,z3,h9,q10,z11,h14,q15,h20,q21,h25]
      have hF:=ob hF;obtain⟨v27,e28,hF⟩:=hF
      refine ACall.frz ?_ ((C.f54 B hB1 hB2 v18.2 [0,(-1),5,(-2)] v27 e28)).ent
      repeat first|refine cg ?_|simp -dsimp[h1,z3,h9,q10,z11,h14,q15,h20,q21,h25]
      refine((C.f54 B hB1 hB2 v18.2 [0,(-1),5,(-2)] v27 e28)).go 0 rfl (by simp[h1,z3,h9,q10,z11,h14,q15,h20,q21,h25]) (by simp) (by simp[h1,z3,h9,q10,z11,h14,q15,h20,q21,h25]) ?_
      have hF:=ob hF;obtain⟨x29,e30a,hF⟩:=hF
      have e30a:=ZL e30a;obtain⟨ne30,e30⟩:=e30a
      have le30:=ZB e30
      cases hF
      repeat first|refine cg ?_|simp -dsimp[h1,z3,h9,q10,z11,h14,q15,h20,q21,h25,↓e30,le30]
      all_goals(try first|omega|rfl|(simp;done)|(simp only[List.length_cons,List.length_nil]at*;omega)|simp)
     ·repeat first|refine cg ?_|simp -dsimp[h1,z3,h9,q10,z11,h14,q15,h20,q21,h25,q26]
      revert hF;refine aS ?_ ?_<;>intro h31 q32 hF
      ·have hF:=ob hF;obtain⟨x33,e34a,hF⟩:=hF
       have e34a:=ZL e34a;obtain⟨ne34,e34⟩:=e34a
       have le34:=ZB e34
       repeat first|refine cg ?_|simp -dsimp[h1,z3,h9,q10,z11,h14,q15,h20,q21,h25,q26,h31,↓e34,le34]
       revert hF;refine aS ?_ ?_<;>intro h35 q36 hF
       ·have z37:(0<(x33.edges.length:Int)):=auz
        have hF:=oc hF;obtain⟨c38,hF⟩:=hF
        repeat first|refine cg ?_|simp -dsimp[h1,z3,h9,q10,z11,h14,q15,h20,q21,h25,q26,h31,↓e34,le34,h35,z37]
        refine ADraw.post ?_
        repeat first|refine cg ?_|simp -dsimp[h1,z3,h9,q10,z11,h14,q15,h20,q21,h25,q26,h31,↓e34,le34,h35,z37]
        refine ADraw.opn ?_
        refine ADraw.split [] [(2,6)] [(6,2)] 2 6 rfl rfl (by kernel_rfl) ?_ ?_
        ·refine ADraw.effP [(2,6)] [0,1,2,3,4,5,6,7,8,9,10] [24] [(0,0),(0,0),(0,0),(0,2),(0,2),(0,1),(0,3),(0,3),(2,2),(2,2),(0,3)] [1,1,1,0,2,1,1,1,1,1,1] follows (by kernel_rfl) (by kernel_rfl) (by kernel_rfl) (by kernel_rfl) ?_
         repeat first|refine cg ?_|simp -dsimp[h1,z3,h9,q10,z11,h14,q15,h20,q21,h25,q26,h31,↓e34,le34,h35,z37]
         have hF:=ob hF;obtain⟨v39,e40,hF⟩:=hF
         refine ECallA.frz ?_ ((C.f54 B hB1 hB2 v18.2 [0,1,9,(-1)] v39 e40)).ent
         repeat first|refine cg ?_|simp -dsimp[h1,z3,h9,q10,z11,h14,q15,h20,q21,h25,q26,h31,↓e34,le34,h35,z37]
         refine((C.f54 B hB1 hB2 v18.2 [0,1,9,(-1)] v39 e40)).ego 0 rfl (by simp[h1,z3,h9,q10,z11,h14,q15,h20,q21,h25,q26,h31,↓e34,le34,h35,z37]) (by simp) (by simp[h1,z3,h9,q10,z11,h14,q15,h20,q21,h25,q26,h31,↓e34,le34,h35,z37]) ?_
         have hF:=ob hF;obtain⟨x41,e42,hF⟩:=hF
         have le42:=ZB e42
         repeat first|refine cg ?_|simp -dsimp[h1,z3,h9,q10,z11,h14,q15,h20,q21,h25,q26,h31,↓e34,le34,h35,z37,↓e42,le42]
         refine GhK.go (Gh.frzElem 1 v16.1.toNat 4 (l2:=2) (n:=List.length (α:=Vl.Edge) (x33.edges.set 0 (⟨x41.ctor,x41.n,x41.m,v39.1⟩:Vl.Edge))) (sz2:=4) (es2:=List.map Vl.Edge.c (x33.edges.set 0 (⟨x41.ctor,x41.n,x41.m,v39.1⟩:Vl.Edge))) rfl (List.getElem?_set_self (by rw[List.length_map];assumption)) (by simp) (by simp) (by decide) (by simp) (by simp)) ?_
         cases hF
         repeat first|refine cg ?_|simp -dsimp[h1,z3,h9,q10,z11,h14,q15,h20,q21,h25,q26,h31,↓e34,le34,h35,z37,↓e42,le42]
         all_goals(try first|omega|rfl|(simp;done)|(simp only[List.length_cons,List.length_nil]at*;omega)|simp)
        ·refine ADraw.split [(6,2)] [(6,2),(2,7)] [(6,2),(7,2)] 2 7 rfl rfl (by kernel_rfl) ?_ ?_
         ·refine ADraw.effP [(6,2),(2,7)] [0,1,5,6,2,3,4,7,8,9,10] [24] [(0,1),(0,1),(0,1),(0,3),(1,1),(1,2),(1,2),(0,3),(2,2),(2,2),(0,3)] [1,1,1,1,1,0,2,1,1,1,1] follows (by kernel_rfl) (by kernel_rfl) (by kernel_rfl) (by kernel_rfl) ?_
          repeat first|refine cg ?_|simp -dsimp[h1,z3,h9,q10,z11,h14,q15,h20,q21,h25,q26,h31,↓e34,le34,h35,z37]
          have hF:=ob hF;obtain⟨v39,e40,hF⟩:=hF
          refine ECallA.frz ?_ ((C.f54 B hB1 hB2 v18.2 [0,1,9,(-1)] v39 e40)).ent
          repeat first|refine cg ?_|simp -dsimp[h1,z3,h9,q10,z11,h14,q15,h20,q21,h25,q26,h31,↓e34,le34,h35,z37]
          refine((C.f54 B hB1 hB2 v18.2 [0,1,9,(-1)] v39 e40)).ego 0 rfl (by simp[h1,z3,h9,q10,z11,h14,q15,h20,q21,h25,q26,h31,↓e34,le34,h35,z37]) (by simp) (by simp[h1,z3,h9,q10,z11,h14,q15,h20,q21,h25,q26,h31,↓e34,le34,h35,z37]) ?_
          have hF:=ob hF;obtain⟨x41,e42,hF⟩:=hF
          have le42:=ZB e42
          repeat first|refine cg ?_|simp -dsimp[h1,z3,h9,q10,z11,h14,q15,h20,q21,h25,q26,h31,↓e34,le34,h35,z37,↓e42,le42]
          refine GhK.go (Gh.frzElem 1 v16.1.toNat 4 (l2:=2) (n:=List.length (α:=Vl.Edge) (x33.edges.set 0 (⟨x41.ctor,x41.n,x41.m,v39.1⟩:Vl.Edge))) (sz2:=4) (es2:=List.map Vl.Edge.c (x33.edges.set 0 (⟨x41.ctor,x41.n,x41.m,v39.1⟩:Vl.Edge))) rfl (List.getElem?_set_self (by rw[List.length_map];assumption)) (by simp) (by simp) (by decide) (by simp) (by simp)) ?_
          cases hF
          repeat first|refine cg ?_|simp -dsimp[h1,z3,h9,q10,z11,h14,q15,h20,q21,h25,q26,h31,↓e34,le34,h35,z37,↓e42,le42]
          all_goals(try first|omega|rfl|(simp;done)|(simp only[List.length_cons,List.length_nil]at*;omega)|simp)
         ·refine ADraw.effP [(6,2),(7,2)] [0,1,5,6,7,2,3,4,8,9,10] [24] [(0,2),(0,2),(0,1),(0,3),(0,3),(2,2),(2,2),(2,2),(2,2),(2,2),(0,3)] [1,1,1,1,1,1,1,1,1,1,1] follows (by kernel_rfl) (by kernel_rfl) (by kernel_rfl) (by kernel_rfl) ?_
          repeat first|refine cg ?_|simp -dsimp[h1,z3,h9,q10,z11,h14,q15,h20,q21,h25,q26,h31,↓e34,le34,h35,z37]
          have hF:=ob hF;obtain⟨v39,e40,hF⟩:=hF
          refine ECallA.frz ?_ ((C.f54 B hB1 hB2 v18.2 [0,1,9,(-1)] v39 e40)).ent
          repeat first|refine cg ?_|simp -dsimp[h1,z3,h9,q10,z11,h14,q15,h20,q21,h25,q26,h31,↓e34,le34,h35,z37]
          refine((C.f54 B hB1 hB2 v18.2 [0,1,9,(-1)] v39 e40)).ego 0 rfl (by simp[h1,z3,h9,q10,z11,h14,q15,h20,q21,h25,q26,h31,↓e34,le34,h35,z37]) (by simp) (by simp[h1,z3,h9,q10,z11,h14,q15,h20,q21,h25,q26,h31,↓e34,le34,h35,z37]) ?_
          have hF:=ob hF;obtain⟨x41,e42,hF⟩:=hF
          have le42:=ZB e42
          repeat first|refine cg ?_|simp -dsimp[h1,z3,h9,q10,z11,h14,q15,h20,q21,h25,q26,h31,↓e34,le34,h35,z37,↓e42,le42]
          refine GhK.go (Gh.frzElem 1 v16.1.toNat 4 (l2:=2) (n:=List.length (α:=Vl.Edge) (x33.edges.set 0 (⟨x41.ctor,x41.n,x41.m,v39.1⟩:Vl.Edge))) (sz2:=4) (es2:=List.map Vl.Edge.c (x33.edges.set 0 (⟨x41.ctor,x41.n,x41.m,v39.1⟩:Vl.Edge))) rfl (List.getElem?_set_self (by rw[List.length_map];assumption)) (by simp) (by simp) (by decide) (by simp) (by simp)) ?_
          cases hF
          repeat first|refine cg ?_|simp -dsimp[h1,z3,h9,q10,z11,h14,q15,h20,q21,h25,q26,h31,↓e34,le34,h35,z37,↓e42,le42]
          all_goals(try first|omega|rfl|(simp;done)|(simp only[List.length_cons,List.length_nil]at*;omega)|simp)
       ·have z37:¬(0<(x33.edges.length:Int)):=auz
        cases hF
        repeat first|refine cg ?_|simp -dsimp[h1,z3,h9,q10,z11,h14,q15,h20,q21,h25,q26,h31,↓e34,le34,h35,q36,z37]
        all_goals(try first|omega|rfl|(simp;done)|(simp only[List.length_cons,List.length_nil]at*;omega)|simp)
      ·repeat first|refine cg ?_|simp -dsimp[h1,z3,h9,q10,z11,h14,q15,h20,q21,h25,q26,h31,q32]
       revert hF;refine aS ?_ ?_<;>intro h43 q44 hF
       ·have hF:=oc hF;obtain⟨c45,hF⟩:=hF
        cases hF
        repeat first|refine cg ?_|simp -dsimp[h1,z3,h9,q10,z11,h14,q15,h20,q21,h25,q26,h31,q32,h43]
        all_goals(try first|omega|rfl|(simp;done)|(simp only[List.length_cons,List.length_nil]at*;omega)|simp)
       ·repeat first|refine cg ?_|simp -dsimp[h1,z3,h9,q10,z11,h14,q15,h20,q21,h25,q26,h31,q32,h43,q44]
        revert hF;refine aS ?_ ?_<;>intro h46 q47 hF
        ·have hF:=ob hF;obtain⟨x48,e49a,hF⟩:=hF
         have e49a:=ZL e49a;obtain⟨ne49,e49⟩:=e49a
         have le49:=ZB e49
         have hF:=oc hF;obtain⟨c50,hF⟩:=hF
         cases hF
         repeat first|refine cg ?_|simp -dsimp[h1,z3,h9,q10,z11,h14,q15,h20,q21,h25,q26,h31,q32,h43,q44,h46,↓e49,le49]
         all_goals(try first|omega|rfl|(simp;done)|(simp only[List.length_cons,List.length_nil]at*;omega)|simp)
        ·cases hF
         repeat first|refine cg ?_|simp -dsimp[h1,z3,h9,q10,z11,h14,q15,h20,q21,h25,q26,h31,q32,h43,q44,h46,q47]
         all_goals(try first|omega|rfl|(simp;done)|(simp only[List.length_cons,List.length_nil]at*;omega)|simp)
  ·have z11:((v6.1.length:Int)=0):=auz
   cases hF
   repeat first|refine cg ?_|simp -dsimp[h1,z3,h9,q10,z11]
   all_goals(try first|omega|rfl|(simp;done)|(simp only[List.length_cons,List.length_nil]at*;omega)|simp)
 ·have z3:¬(2000<(code.length:Int)):=auz
  repeat first|refine cg ?_|simp -dsimp[h1,q2,z3]
  have hF:=ob hF;obtain⟨v51,e52,hF⟩:=hF
  refine((C.f150 B hB1 hB2 code v51 e52)).goW (by simp[h1,q2,z3]) (by simp) ?_
  repeat first|refine cg ?_|simp -dsimp[h1,q2,z3]
  have hF:=ob hF;obtain⟨v53,e54,hF⟩:=hF
  refine((C.f169 B hB1 hB2 v51 v53 e54)).goW (by simp[h1,q2,z3]) (by simp) ?_
  have hF:=oc hF;obtain⟨c55,hF⟩:=hF
  repeat first|refine cg ?_|simp -dsimp[h1,q2,z3]
  revert hF;refine aN ?_ ?_<;>intro h56 q57 hF
  ·have z58:¬((v53.1.length:Int)=0):=auz
   repeat first|refine cg ?_|simp -dsimp[h1,q2,z3,h56,q57,z58]
   have hF:=ob hF;obtain⟨v59,e60,hF⟩:=hF
   refine((C.f1 B hB1 hB2 (⟨code,0⟩:ZE) 3 v59 e60)).go 0 rfl (by simp[h1,q2,z3,h56,q57,z58]) (by simp) (by simp[h1,q2,z3,h56,q57,z58]) ?_
   repeat first|refine cg ?_|simp -dsimp[h1,q2,z3,h56,q57,z58]
   revert hF;refine aS ?_ ?_<;>intro h61 q62 hF
   ·cases hF
    repeat first|refine cg ?_|simp -dsimp[h1,q2,z3,h56,q57,z58,h61]
    all_goals(try first|omega|rfl|(simp;done)|(simp only[List.length_cons,List.length_nil]at*;omega)|simp)
   ·repeat first|refine cg ?_|simp -dsimp[h1,q2,z3,h56,q57,z58,h61,q62]
    have hF:=ob hF;obtain⟨v63,e64,hF⟩:=hF
    refine((C.f1 B hB1 hB2 v59.2 (v53.1.length:Int) v63 e64)).go 0 rfl (by simp[h1,q2,z3,h56,q57,z58,h61,q62]) (by simp) (by simp[h1,q2,z3,h56,q57,z58,h61,q62]) ?_
    repeat first|refine cg ?_|simp -dsimp[h1,q2,z3,h56,q57,z58,h61,q62]
    have hF:=ob hF;obtain⟨v65,e66,hF⟩:=hF
    refine((C.f1 B hB1 hB2 v63.2 5 v65 e66)).go 0 rfl (by simp[h1,q2,z3,h56,q57,z58,h61,q62]) (by simp) (by simp[h1,q2,z3,h56,q57,z58,h61,q62]) ?_
    repeat first|refine cg ?_|simp -dsimp[h1,q2,z3,h56,q57,z58,h61,q62]
    revert hF;refine aS ?_ ?_<;>intro h67 q68 hF
    ·repeat first|refine cg ?_|simp -dsimp[h1,q2,z3,h56,q57,z58,h61,q62,h67]
     have hF:=ob hF;obtain⟨v69,e70,hF⟩:=hF
     refine ACall.frz ?_ ((C.f54 B hB1 hB2 v65.2 [0,1,2,3,(-1)] v69 e70)).ent
     repeat first|refine cg ?_|simp -dsimp[h1,q2,z3,h56,q57,z58,h61,q62,h67]
     refine((C.f54 B hB1 hB2 v65.2 [0,1,2,3,(-1)] v69 e70)).go 0 rfl (by simp[h1,q2,z3,h56,q57,z58,h61,q62,h67]) (by simp) (by simp[h1,q2,z3,h56,q57,z58,h61,q62,h67]) ?_
     have hF:=ob hF;obtain⟨x71,e72a,hF⟩:=hF
     have e72a:=ZL e72a;obtain⟨ne72,e72⟩:=e72a
     have le72:=ZB e72
     cases hF
     repeat first|refine cg ?_|simp -dsimp[h1,q2,z3,h56,q57,z58,h61,q62,h67,↓e72,le72]
     all_goals(try first|omega|rfl|(simp;done)|(simp only[List.length_cons,List.length_nil]at*;omega)|simp)
    ·repeat first|refine cg ?_|simp -dsimp[h1,q2,z3,h56,q57,z58,h61,q62,h67,q68]
     revert hF;refine aS ?_ ?_<;>intro h73 q74 hF
     ·repeat first|refine cg ?_|simp -dsimp[h1,q2,z3,h56,q57,z58,h61,q62,h67,q68,h73]
      have hF:=ob hF;obtain⟨v75,e76,hF⟩:=hF
      refine ACall.frz ?_ ((C.f54 B hB1 hB2 v65.2 [0,(-1),5,(-2)] v75 e76)).ent
      repeat first|refine cg ?_|simp -dsimp[h1,q2,z3,h56,q57,z58,h61,q62,h67,q68,h73]
      refine((C.f54 B hB1 hB2 v65.2 [0,(-1),5,(-2)] v75 e76)).go 0 rfl (by simp[h1,q2,z3,h56,q57,z58,h61,q62,h67,q68,h73]) (by simp) (by simp[h1,q2,z3,h56,q57,z58,h61,q62,h67,q68,h73]) ?_
      have hF:=ob hF;obtain⟨x77,e78a,hF⟩:=hF
      have e78a:=ZL e78a;obtain⟨ne78,e78⟩:=e78a
      have le78:=ZB e78
      cases hF
      repeat first|refine cg ?_|simp -dsimp[h1,q2,z3,h56,q57,z58,h61,q62,h67,q68,h73,↓e78,le78]
      all_goals(try first|omega|rfl|(simp;done)|(simp only[List.length_cons,List.length_nil]at*;omega)|simp)
     ·repeat first|refine cg ?_|simp -dsimp[h1,q2,z3,h56,q57,z58,h61,q62,h67,q68,h73,q74]
      revert hF;refine aS ?_ ?_<;>intro h79 q80 hF
      ·have hF:=ob hF;obtain⟨x81,e82a,hF⟩:=hF
       have e82a:=ZL e82a;obtain⟨ne82,e82⟩:=e82a
       have le82:=ZB e82
       repeat first|refine cg ?_|simp -dsimp[h1,q2,z3,h56,q57,z58,h61,q62,h67,q68,h73,q74,h79,↓e82,le82]
       revert hF;refine aS ?_ ?_<;>intro h83 q84 hF
       ·have z85:(0<(x81.edges.length:Int)):=auz
        have hF:=oc hF;obtain⟨c86,hF⟩:=hF
        repeat first|refine cg ?_|simp -dsimp[h1,q2,z3,h56,q57,z58,h61,q62,h67,q68,h73,q74,h79,↓e82,le82,h83,z85]
        refine ADraw.post ?_
        repeat first|refine cg ?_|simp -dsimp[h1,q2,z3,h56,q57,z58,h61,q62,h67,q68,h73,q74,h79,↓e82,le82,h83,z85]
        refine ADraw.opn ?_
        refine ADraw.split [] [(2,6)] [(6,2)] 2 6 rfl rfl (by kernel_rfl) ?_ ?_
        ·refine ADraw.effP [(2,6)] [0,1,2,3,4,5,6,7,8,9,10] [24] [(0,0),(0,0),(0,0),(0,2),(0,2),(0,1),(0,3),(0,3),(2,2),(2,2),(0,3)] [1,1,1,0,2,1,1,1,1,1,1] follows (by kernel_rfl) (by kernel_rfl) (by kernel_rfl) (by kernel_rfl) ?_
         repeat first|refine cg ?_|simp -dsimp[h1,q2,z3,h56,q57,z58,h61,q62,h67,q68,h73,q74,h79,↓e82,le82,h83,z85]
         have hF:=ob hF;obtain⟨v87,e88,hF⟩:=hF
         refine ECallA.frz ?_ ((C.f54 B hB1 hB2 v65.2 [0,1,9,(-1)] v87 e88)).ent
         repeat first|refine cg ?_|simp -dsimp[h1,q2,z3,h56,q57,z58,h61,q62,h67,q68,h73,q74,h79,↓e82,le82,h83,z85]
         refine((C.f54 B hB1 hB2 v65.2 [0,1,9,(-1)] v87 e88)).ego 0 rfl (by simp[h1,q2,z3,h56,q57,z58,h61,q62,h67,q68,h73,q74,h79,↓e82,le82,h83,z85]) (by simp) (by simp[h1,q2,z3,h56,q57,z58,h61,q62,h67,q68,h73,q74,h79,↓e82,le82,h83,z85]) ?_
         have hF:=ob hF;obtain⟨x89,e90,hF⟩:=hF
         have le90:=ZB e90
         repeat first|refine cg ?_|simp -dsimp[h1,q2,z3,h56,q57,z58,h61,q62,h67,q68,h73,q74,h79,↓e82,le82,h83,z85,↓e90,le90]
         refine GhK.go (Gh.frzElem 1 v63.1.toNat 4 (l2:=2) (n:=List.length (α:=Vl.Edge) (x81.edges.set 0 (⟨x89.ctor,x89.n,x89.m,v87.1⟩:Vl.Edge))) (sz2:=4) (es2:=List.map Vl.Edge.c (x81.edges.set 0 (⟨x89.ctor,x89.n,x89.m,v87.1⟩:Vl.Edge))) rfl (List.getElem?_set_self (by rw[List.length_map];assumption)) (by simp) (by simp) (by decide) (by simp) (by simp)) ?_
         cases hF
         repeat first|refine cg ?_|simp -dsimp[h1,q2,z3,h56,q57,z58,h61,q62,h67,q68,h73,q74,h79,↓e82,le82,h83,z85,↓e90,le90]
         all_goals(try first|omega|rfl|(simp;done)|(simp only[List.length_cons,List.length_nil]at*;omega)|simp)
        ·refine ADraw.split [(6,2)] [(6,2),(2,7)] [(6,2),(7,2)] 2 7 rfl rfl (by kernel_rfl) ?_ ?_
         ·refine ADraw.effP [(6,2),(2,7)] [0,1,5,6,2,3,4,7,8,9,10] [24] [(0,1),(0,1),(0,1),(0,3),(1,1),(1,2),(1,2),(0,3),(2,2),(2,2),(0,3)] [1,1,1,1,1,0,2,1,1,1,1] follows (by kernel_rfl) (by kernel_rfl) (by kernel_rfl) (by kernel_rfl) ?_
          repeat first|refine cg ?_|simp -dsimp[h1,q2,z3,h56,q57,z58,h61,q62,h67,q68,h73,q74,h79,↓e82,le82,h83,z85]
          have hF:=ob hF;obtain⟨v87,e88,hF⟩:=hF
          refine ECallA.frz ?_ ((C.f54 B hB1 hB2 v65.2 [0,1,9,(-1)] v87 e88)).ent
          repeat first|refine cg ?_|simp -dsimp[h1,q2,z3,h56,q57,z58,h61,q62,h67,q68,h73,q74,h79,↓e82,le82,h83,z85]
          refine((C.f54 B hB1 hB2 v65.2 [0,1,9,(-1)] v87 e88)).ego 0 rfl (by simp[h1,q2,z3,h56,q57,z58,h61,q62,h67,q68,h73,q74,h79,↓e82,le82,h83,z85]) (by simp) (by simp[h1,q2,z3,h56,q57,z58,h61,q62,h67,q68,h73,q74,h79,↓e82,le82,h83,z85]) ?_
          have hF:=ob hF;obtain⟨x89,e90,hF⟩:=hF
          have le90:=ZB e90
          repeat first|refine cg ?_|simp -dsimp[h1,q2,z3,h56,q57,z58,h61,q62,h67,q68,h73,q74,h79,↓e82,le82,h83,z85,↓e90,le90]
          refine GhK.go (Gh.frzElem 1 v63.1.toNat 4 (l2:=2) (n:=List.length (α:=Vl.Edge) (x81.edges.set 0 (⟨x89.ctor,x89.n,x89.m,v87.1⟩:Vl.Edge))) (sz2:=4) (es2:=List.map Vl.Edge.c (x81.edges.set 0 (⟨x89.ctor,x89.n,x89.m,v87.1⟩:Vl.Edge))) rfl (List.getElem?_set_self (by rw[List.length_map];assumption)) (by simp) (by simp) (by decide) (by simp) (by simp)) ?_
          cases hF
          repeat first|refine cg ?_|simp -dsimp[h1,q2,z3,h56,q57,z58,h61,q62,h67,q68,h73,q74,h79,↓e82,le82,h83,z85,↓e90,le90]
          all_goals(try first|omega|rfl|(simp;done)|(simp only[List.length_cons,List.length_nil]at*;omega)|simp)
         ·refine ADraw.effP [(6,2),(7,2)] [0,1,5,6,7,2,3,4,8,9,10] [24] [(0,2),(0,2),(0,1),(0,3),(0,3),(2,2),(2,2),(2,2),(2,2),(2,2),(0,3)] [1,1,1,1,1,1,1,1,1,1,1] follows (by kernel_rfl) (by kernel_rfl) (by kernel_rfl) (by kernel_rfl) ?_
          repeat first|refine cg ?_|simp -dsimp[h1,q2,z3,h56,q57,z58,h61,q62,h67,q68,h73,q74,h79,↓e82,le82,h83,z85]
          have hF:=ob hF;obtain⟨v87,e88,hF⟩:=hF
          refine ECallA.frz ?_ ((C.f54 B hB1 hB2 v65.2 [0,1,9,(-1)] v87 e88)).ent
          repeat first|refine cg ?_|simp -dsimp[h1,q2,z3,h56,q57,z58,h61,q62,h67,q68,h73,q74,h79,↓e82,le82,h83,z85]
          refine((C.f54 B hB1 hB2 v65.2 [0,1,9,(-1)] v87 e88)).ego 0 rfl (by simp[h1,q2,z3,h56,q57,z58,h61,q62,h67,q68,h73,q74,h79,↓e82,le82,h83,z85]) (by simp) (by simp[h1,q2,z3,h56,q57,z58,h61,q62,h67,q68,h73,q74,h79,↓e82,le82,h83,z85]) ?_
          have hF:=ob hF;obtain⟨x89,e90,hF⟩:=hF
          have le90:=ZB e90
          repeat first|refine cg ?_|simp -dsimp[h1,q2,z3,h56,q57,z58,h61,q62,h67,q68,h73,q74,h79,↓e82,le82,h83,z85,↓e90,le90]
          refine GhK.go (Gh.frzElem 1 v63.1.toNat 4 (l2:=2) (n:=List.length (α:=Vl.Edge) (x81.edges.set 0 (⟨x89.ctor,x89.n,x89.m,v87.1⟩:Vl.Edge))) (sz2:=4) (es2:=List.map Vl.Edge.c (x81.edges.set 0 (⟨x89.ctor,x89.n,x89.m,v87.1⟩:Vl.Edge))) rfl (List.getElem?_set_self (by rw[List.length_map];assumption)) (by simp) (by simp) (by decide) (by simp) (by simp)) ?_
          cases hF
          repeat first|refine cg ?_|simp -dsimp[h1,q2,z3,h56,q57,z58,h61,q62,h67,q68,h73,q74,h79,↓e82,le82,h83,z85,↓e90,le90]
          all_goals(try first|omega|rfl|(simp;done)|(simp only[List.length_cons,List.length_nil]at*;omega)|simp)
       ·have z85:¬(0<(x81.edges.length:Int)):=auz
        cases hF
        repeat first|refine cg ?_|simp -dsimp[h1,q2,z3,h56,q57,z58,h61,q62,h67,q68,h73,q74,h79,↓e82,le82,h83,q84,z85]
        all_goals(try first|omega|rfl|(simp;done)|(simp only[List.length_cons,List.length_nil]at*;omega)|simp)
      ·repeat first|refine cg ?_|simp -dsimp[h1,q2,z3,h56,q57,z58,h61,q62,h67,q68,h73,q74,h79,q80]
       revert hF;refine aS ?_ ?_<;>intro h91 q92 hF
       ·have hF:=oc hF;obtain⟨c93,hF⟩:=hF
        cases hF
        repeat first|refine cg ?_|simp -dsimp[h1,q2,z3,h56,q57,z58,h61,q62,h67,q68,h73,q74,h79,q80,h91]
        all_goals(try first|omega|rfl|(simp;done)|(simp only[List.length_cons,List.length_nil]at*;omega)|simp)
       ·repeat first|refine cg ?_|simp -dsimp[h1,q2,z3,h56,q57,z58,h61,q62,h67,q68,h73,q74,h79,q80,h91,q92]
        revert hF;refine aS ?_ ?_<;>intro h94 q95 hF
        ·have hF:=ob hF;obtain⟨x96,e97a,hF⟩:=hF
         have e97a:=ZL e97a;obtain⟨ne97,e97⟩:=e97a
         have le97:=ZB e97
         have hF:=oc hF;obtain⟨c98,hF⟩:=hF
         cases hF
         repeat first|refine cg ?_|simp -dsimp[h1,q2,z3,h56,q57,z58,h61,q62,h67,q68,h73,q74,h79,q80,h91,q92,h94,↓e97,le97]
         all_goals(try first|omega|rfl|(simp;done)|(simp only[List.length_cons,List.length_nil]at*;omega)|simp)
        ·cases hF
         repeat first|refine cg ?_|simp -dsimp[h1,q2,z3,h56,q57,z58,h61,q62,h67,q68,h73,q74,h79,q80,h91,q92,h94,q95]
         all_goals(try first|omega|rfl|(simp;done)|(simp only[List.length_cons,List.length_nil]at*;omega)|simp)
  ·have z58:((v53.1.length:Int)=0):=auz
   cases hF
   repeat first|refine cg ?_|simp -dsimp[h1,q2,z3,h56,q57,z58]
   all_goals(try first|omega|rfl|(simp;done)|(simp only[List.length_cons,List.length_nil]at*;omega)|simp)
theorem C.f171 (code:List Int)(r:List Vl.Node)(hF:F.f171 code=some r):PureCall Tryz.prog B 4 [am cU code] (am Vl.Node.c r):=by
 unfold F.f171 at hF
 refine pE Tryz.func4 (by kernel_rfl) rfl Tryz.ntmps4 (by simp) (by simp) ?_
 repeat first|refine cg ?_|simp -dsimp
 obtain⟨v,e1,hF⟩:=ob hF
 refine((C.spec_l8Nodes__o0 B hB1 hB2 code v e1)).go (pl [0]) (by simp) (by simp) (by intro i j hi;simp at hi) (by intro i hi hi';simp at hi hi';have hi:i=0:=(by omega);rcases hi with rfl<;>simp[pl]) (by simp) (by simp) ?_
 cases hF
 repeat first|refine cg ?_|simp -dsimp
theorem C.f172 (n:Int)(low:Int)(high:Int)(r:Bool)(hF:F.f172 n low high=some r):PureCall Tryz.prog B 25 [li n,li low,li high] (.lit (.bool r)):=by
 unfold F.f172 at hF
 refine pE Tryz.func25 (by kernel_rfl) rfl Tryz.ntmps25 (by simp) (by simp) ?_
 repeat first|refine cg ?_|simp -dsimp
 revert hF;refine aS ?_ ?_<;>intro h1 q2 hF
 ·cases hF
  repeat first|refine cg ?_|simp -dsimp[h1]
 ·cases hF
  repeat first|refine cg ?_|simp -dsimp[q2]
theorem C.f173 (e:Vl.Edge)(a1:Int)(r:Bool)(hF:F.f173 e a1=some r):PureCall Tryz.prog B 27 [.agg [li e.ctor,li e.n,li e.m,li e.to],.rptr [li a1] 0] (.lit (.bool r)):=by
 unfold F.f173 at hF
 refine pE Tryz.func27 (by kernel_rfl) rfl Tryz.ntmps27 (by simp) (by simp) ?_
 repeat first|refine cg ?_|simp -dsimp
 obtain⟨v,e1,hF⟩:=ob hF
 refine((C.f172 B hB1 hB2 e.to 0 (i64.wrap (a1-1)) v e1)).goW (by simp) (by simp) ?_
 cases hF
 repeat first|refine cg ?_|simp -dsimp
theorem CC.f174 (s:List Vl.Edge)(k0:Int):(∀(i:Nat) (o:Lo Int Unit),F.f174 s k0 i=some o->∀(c:Code),ZY [1,0,1,0,0] (ZK Tryz.f42)=some c->∀(Q:Exit->ASt->Prop),o.post (fun r=>∀st,ZAh Tryz.prog Tryz.f42 (fun r' _=>r'.le (li r)) .ret st->Q .ret st) (fun s=>Q (.exit 0) ⟨[],[]⟩)->ALoopU Tryz.prog B 0 19 (hold c .mk) ⟨[(0,am Vl.Edge.c s),(1,.fn (.func 27) [] [.rptr [li k0] 0]),(7,li (s.length:Int)),(8,li (i:Int))],[]⟩ (hold Q .mk)):=by
 refine F.f174.partial_correctness s k0
  _
  ?_
 ·intro _f_f174 ih_f174 i o hF
  intro c hc Q hq
  obtain rfl:c=_:=ZM hc rfl
  refine kN fun hk hs=> ?_
  have b0:=hk 0
  simp -dsimp at b0
  clear hk hs
  refine eN ?_
  repeat first|refine cg ?_|simp -dsimp
  revert hF;refine aS ?_ ?_<;>intro h1 q2 hF
  ·have z3:((i:Int)<(s.length:Int)):=auz
   obtain⟨x,e4,hF⟩:=ob hF
   have le4:=ZB e4
   repeat first|refine cg ?_|simp -dsimp[h1,z3,↓e4]
   obtain⟨v,e5,hF⟩:=ob hF
   refine((C.f173 B hB1 hB2 x k0 v e5)).goW (by simp_all) (by simp) ?_
   repeat first|refine cg ?_|simp -dsimp
   revert hF;refine aS (fun h6 q7 hF=> ?_) (fun h6 q7 hF=> ?_)
   ·cases hF
    repeat first|refine cg ?_|simp -dsimp[h6]
    refine lG _ (gR _) (hq _ ?_)
    repeat first|refine cg ?_|simp -dsimp
   ·have w8:i64.wrap ((i:Int)+1)=(i:Int)+1:=ZG (by omega) (by omega)
    repeat first|refine cg ?_|simp -dsimp[q7,w8]
    refine aG _ ?_ ((ih_f174 (i+1) o hF) _ rfl _ hq)
    exact(gT (by simp) (by simp_all))
  ·have z3:¬((i:Int)<(s.length:Int)):=auz
   cases hF
   repeat first|refine cg ?_|simp -dsimp[h1,q2,z3]
   refine lG _ (gT (by simp) (by simp_all)) hq
theorem C.f175 (s:List Vl.Edge)(k0:Int)(r:Int)(hF:F.f175 s k0=some r):PureCall Tryz.prog B 42 [am Vl.Edge.c s,.fn (.func 27) [] [.rptr [li k0] 0]] (li r):=by
 unfold F.f175 at hF
 refine pE Tryz.func42 (by kernel_rfl) rfl Tryz.ntmps42 (by simp) (by simp) ?_
 repeat first|refine cg ?_|simp -dsimp
 obtain⟨o',ho9,hF⟩:=ob hF
 refine ALoop.goU _ ?_ (((CC.f174 B hB1 hB2 s k0) 0 o' ho9) _ rfl _ ?_)
 ·exact(gT (by simp) (by simp -dsimp))
 rcases o' with r0|sx
 ·dsimp only at hF
  cases hF
  intro st h
  simpa using h
 ·dsimp only at hF
  cases hF
  repeat first|refine cg ?_|simp -dsimp
theorem C.f176 (s:List Vl.Edge)(k0:Int)(r:Bool)(hF:F.f176 s k0=some r):PureCall Tryz.prog B 26 [am Vl.Edge.c s,.fn (.func 27) [] [.rptr [li k0] 0]] (.lit (.bool r)):=by
 unfold F.f176 at hF
 refine pE Tryz.func26 (by kernel_rfl) rfl Tryz.ntmps26 (by simp) (by simp) ?_
 repeat first|refine cg ?_|simp -dsimp
 obtain⟨v,e1,hF⟩:=ob hF
 refine((C.f175 B hB1 hB2 s k0 v e1)).goW (by simp) (by simp) ?_
 cases hF
 repeat first|refine cg ?_|simp -dsimp
theorem CC.f177 (list:List Vl.Node):(∀(i:Nat) (o:Lo Bool Unit),F.f177 list i=some o->∀(c:Code),ZY [1,0,1,0,0] (ZK Tryz.f11)=some c->∀(Q:Exit->ASt->Prop),o.post (fun r=>∀st,ZAh Tryz.prog Tryz.f11 (fun r' _=>r'.le (.lit (.bool r))) .ret st->Q .ret st) (fun s=>Q (.exit 0) ⟨[(0,am Vl.Node.c list)],[]⟩)->ALoopU Tryz.prog B 0 40 (hold c .mk) ⟨[(0,am Vl.Node.c list),(5,am Vl.Node.c list),(6,li (list.length:Int)),(7,li (i:Int))],[]⟩ (hold Q .mk)):=by
 refine F.f177.partial_correctness list
  _
  ?_
 ·intro _f_f177 ih_f177 i o hF
  intro c hc Q hq
  obtain rfl:c=_:=ZM hc rfl
  refine kN fun hk hs=> ?_
  have b0:=hk 0
  simp -dsimp at b0
  have b5:=hk 5
  simp -dsimp at b5
  clear hk hs
  refine eN ?_
  repeat first|refine cg ?_|simp -dsimp
  revert hF;refine aS ?_ ?_<;>intro h1 q2 hF
  ·have z3:((i:Int)<(list.length:Int)):=auz
   have hF:=ob hF;obtain⟨x,e4,hF⟩:=hF
   have le4:=ZB e4
   repeat first|refine cg ?_|simp -dsimp[h1,z3,↓e4]
   have hF:=ob hF;obtain⟨v,e5,hF⟩:=hF
   refine((C.f172 B hB1 hB2 x.op 0 2 v e5)).goW (by simp[h1,z3,↓e4]) (by simp) ?_
   repeat first|refine cg ?_|simp -dsimp[h1,z3,↓e4]
   revert hF;refine aS (fun h6 q7 hF=> ?_) (fun h6 q7 hF=> ?_)
   ·repeat first|refine cg ?_|simp -dsimp[h1,z3,↓e4,h6]
    revert hF;refine aN ?_ ?_<;>intro h8 q9 hF
    ·have z10:¬(10<(x.edges.length:Int)):=auz
     repeat first|refine cg ?_|simp -dsimp[h1,z3,↓e4,h6,h8,q9,z10]
     have hF:=ob hF;obtain⟨v11,e12,hF⟩:=hF
     refine((C.f172 B hB1 hB2 x.els (-1) (i64.wrap ((i:Int) -1)) v11 e12)).goW (by simp[h1,z3,↓e4,h6,h8,q9,z10]) (by simp) ?_
     repeat first|refine cg ?_|simp -dsimp[h1,z3,↓e4,h6,h8,q9,z10]
     revert hF;refine aS (fun h13 q14 hF=> ?_) (fun h13 q14 hF=> ?_)
     ·repeat first|refine cg ?_|simp -dsimp[h1,z3,↓e4,h6,h8,q9,z10,h13]
      have hF:=ob hF;obtain⟨v15,e16,hF⟩:=hF
      refine((C.f176 B hB1 hB2 x.edges (i:Int) v15 e16)).lend (by simp -dsimp[h1,z3,↓e4,h6,h8,q9,z10,h13]) (by simp -dsimp) ?_
      repeat first|refine cg ?_|simp -dsimp[h1,z3,↓e4,h6,h8,q9,z10,h13]
      revert hF;refine aS (fun h17 q18 hF=> ?_) (fun h17 q18 hF=> ?_)
      ·cases hF
       repeat first|refine cg ?_|simp -dsimp[h1,z3,↓e4,h6,h8,q9,z10,h13,h17]
       refine lG _ (gR _) (hq _ ?_)
       repeat first|refine cg ?_|simp -dsimp[h1,z3,↓e4,h6,h8,q9,z10,h13,h17]
      ·have w19:i64.wrap ((i:Int)+1)=(i:Int)+1:=ZG (by omega) (by omega)
       repeat first|refine cg ?_|simp -dsimp[h1,z3,↓e4,h6,h8,q9,z10,h13,h17,q18,w19]
       refine aG _ ?_ ((ih_f177 (i+1) o hF) _ rfl _ hq)
       exact(gT (by simp) (by simp -dsimp[h1,z3,↓e4,h6,h8,q9,z10,h13,h17,q18,w19]))
     ·cases hF
      repeat first|refine cg ?_|simp -dsimp[h1,z3,↓e4,h6,h8,q9,z10,h13,q14]
      refine lG _ (gR _) (hq _ ?_)
      repeat first|refine cg ?_|simp -dsimp[h1,z3,↓e4,h6,h8,q9,z10,h13,q14]
    ·have z10:(10<(x.edges.length:Int)):=auz
     cases hF
     repeat first|refine cg ?_|simp -dsimp[h1,z3,↓e4,h6,h8,q9,z10]
     refine lG _ (gR _) (hq _ ?_)
     repeat first|refine cg ?_|simp -dsimp[h1,z3,↓e4,h6,h8,q9,z10]
   ·cases hF
    repeat first|refine cg ?_|simp -dsimp[h1,z3,↓e4,h6,q7]
    refine lG _ (gR _) (hq _ ?_)
    repeat first|refine cg ?_|simp -dsimp[h1,z3,↓e4,h6,q7]
  ·have z3:¬((i:Int)<(list.length:Int)):=auz
   cases hF
   repeat first|refine cg ?_|simp -dsimp[h1,q2,z3]
   refine lG _ (gT (by simp) (by simp -dsimp[h1,q2,z3])) hq
theorem C.f178 (list:List Vl.Node)(r:Bool)(hF:F.f178 list=some r):PureCall Tryz.prog B 11 [am Vl.Node.c list] (.lit (.bool r)):=by
 unfold F.f178 at hF
 refine pE Tryz.func11 (by kernel_rfl) rfl Tryz.ntmps11 (by simp) (by simp) ?_
 repeat first|refine cg ?_|simp -dsimp
 obtain⟨o',ho20,hF⟩:=ob hF
 refine ALoop.goU _ ?_ (((CC.f177 B hB1 hB2 list) 0 o' ho20) _ rfl _ ?_)
 ·exact(gT (by simp) (by simp -dsimp))
 rcases o' with r0|sx
 ·dsimp only at hF
  cases hF
  intro st h
  simpa using h
 ·dsimp only at hF
  repeat first|refine cg ?_|simp -dsimp
  obtain⟨v21,e22,hF⟩:=ob hF
  refine((C.f172 B hB1 hB2 (list.length:Int) 1 300 v21 e22)).goW (by simp) (by simp) ?_
  cases hF
  repeat first|refine cg ?_|simp -dsimp
theorem CC.f179 (list:List Vl.Node)(i:Nat)(out:List Int)(x:Vl.Node):(∀(i5:Nat) (size:Int) (o:Int),F.f179 list i out x i5 size=some o->∀(c:Code),ZY [1,1,0,1,0,0,1,1,0,0,1,1,0,1,0,0] (ZK Tryz.f12)=some c->∀(Q:Exit->ASt->Prop),(Q (.exit 2) ⟨[(3,.own 0 (List.length (α:=Int) out)),(5,.ptr 1 0),(6,li o),(9,am Vl.Node.c list),(10,li (list.length:Int)),(11,li (i:Int))],[.elems 1 (List.map cI out),.cells [li x.op,li x.clause,am PathBind.c x.binds,am cI x.path,am Vl.Edge.c x.edges,li x.els]]⟩)->ALoopU Tryz.prog B 0 48 (hold c .mk) ⟨[(3,.own 0 (List.length (α:=Int) out)),(5,.ptr 1 0),(6,li size),(9,am Vl.Node.c list),(10,li (list.length:Int)),(11,li (i:Int)),(16,am Vl.Edge.c x.edges),(17,li (x.edges.length:Int)),(18,li (i5:Int))],[.elems 1 (List.map cI out),.cells [li x.op,li x.clause,am PathBind.c x.binds,am cI x.path,am Vl.Edge.c x.edges,li x.els]]⟩ (hold Q .mk)):=by
 refine F.f179.partial_correctness list i out x
  _
  ?_
 ·intro _f_f179 ih_f179 i5 size o hF
  intro c hc Q hq
  obtain rfl:c=_:=ZM hc rfl
  refine kN fun hk hs=> ?_
  have b9:=hk 9
  simp -dsimp at b9
  have b16:=hk 16
  simp -dsimp at b16
  have d0:=hs 0 _ rfl
  simp -dsimp[Blk.bnd]at d0
  have d1:=hs 1 _ rfl
  simp -dsimp[Blk.bnd]at d1
  clear hk hs
  refine eN ?_
  repeat first|refine cg ?_|simp -dsimp
  revert hF;refine aS ?_ ?_<;>intro h6 q7 hF
  ·have z8:((i5:Int)<(x.edges.length:Int)):=auz
   obtain⟨x9,e10,hF⟩:=ob hF
   have le10:=ZB e10
   obtain⟨x11,e12a,hF⟩:=ob hF
   have e12a:=ZL e12a;obtain⟨ne12,e12⟩:=e12a
   have le12:=ZB e12
   have w13:i64.wrap ((i5:Int)+1)=(i5:Int)+1:=ZG (by omega) (by omega)
   repeat first|refine cg ?_|simp -dsimp[h6,z8,↓e10,↓e12,w13]
   refine aG _ ?_ ((ih_f179 (i5+1) (if 301<i64.wrap (size+x11)then 301 else i64.wrap (size+x11)) o hF) _ rfl _ hq)
   exact(gT (by simp) (by simp_all))
  ·have z8:¬((i5:Int)<(x.edges.length:Int)):=auz
   cases hF
   repeat first|refine cg ?_|simp -dsimp[h6,q7,z8]
   refine lG _ (gT (by simp) (by simp_all)) hq
theorem CC.f180 (list:List Vl.Node):(∀(i:Nat) (out:List Int) (o:List Int),F.f180 list i out=some o->∀(c:Code),ZY [1,1,0,1,0,0] (ZK Tryz.f12)=some c->∀(Q:Exit->ASt->Prop),(Q (.exit 0) ⟨[(3,.own 0 (List.length (α:=Int) o))],[.elems 1 (List.map cI o)]⟩)->ALoopU Tryz.prog B 0 48 (hold c .mk) ⟨[(3,.own 0 (List.length (α:=Int) out)),(9,am Vl.Node.c list),(10,li (list.length:Int)),(11,li (i:Int))],[.elems 1 (List.map cI out)]⟩ (hold Q .mk)):=by
 refine F.f180.partial_correctness list
  _
  ?_
 ·intro _f_f180 ih_f180 i out o hF
  intro c hc Q hq
  obtain rfl:c=_:=ZM hc rfl
  refine kN fun hk hs=> ?_
  have b9:=hk 9
  simp -dsimp at b9
  have d0:=hs 0 _ rfl
  simp -dsimp[Blk.bnd]at d0
  clear hk hs
  refine eN ?_
  repeat first|refine cg ?_|simp -dsimp
  revert hF;refine aS ?_ ?_<;>intro h1 q2 hF
  ·have z3:((i:Int)<(list.length:Int)):=auz
   obtain⟨x,e4,hF⟩:=ob hF
   have le4:=ZB e4
   repeat first|refine cg ?_|simp -dsimp[h1,z3,↓e4]
   obtain⟨o',ho14,hF⟩:=ob hF
   refine ALoop.goU _ ?_ (((CC.f179 B hB1 hB2 list i out x) 0 1 o' ho14) _ rfl _ ?_)
   ·exact(gT (by simp) (by simp_all))
   repeat first|refine cg ?_|simp -dsimp
   revert hF;refine aS ?_ ?_<;>intro h15 q16 hF
   ·obtain⟨x17,e18a,hF⟩:=ob hF
    have e18a:=ZL e18a;obtain⟨ne18,e18⟩:=e18a
    have le18:=ZB e18
    obtain⟨c19,hF⟩:=oc hF
    obtain⟨c20,hF⟩:=oc hF
    have w21:i64.wrap ((i:Int)+1)=(i:Int)+1:=ZG (by omega) (by omega)
    repeat first|refine cg ?_|simp -dsimp[h15,↓e18,w21]
    refine aG _ ?_ ((ih_f180 (i+1) (out++[if 301<i64.wrap (o'+x17)then 301 else i64.wrap (o'+x17)]) o hF) _ rfl _ hq)
    exact(gT (by simp) (by simp_all))
   ·obtain⟨c22,hF⟩:=oc hF
    obtain⟨c23,hF⟩:=oc hF
    have w24:i64.wrap ((i:Int)+1)=(i:Int)+1:=ZG (by omega) (by omega)
    repeat first|refine cg ?_|simp -dsimp[h15,q16,w24]
    refine aG _ ?_ ((ih_f180 (i+1) (out++[o']) o hF) _ rfl _ hq)
    exact(gT (by simp) (by simp_all))
  ·have z3:¬((i:Int)<(list.length:Int)):=auz
   cases hF
   repeat first|refine cg ?_|simp -dsimp[h1,q2,z3]
   refine lG _ (gT (by simp) (by simp_all)) hq
theorem C.f181 (list:List Vl.Node)(r:List Int)(hF:F.f181 list=some r):PureCall Tryz.prog B 12 [am Vl.Node.c list] (am cI r):=by
 unfold F.f181 at hF
 refine pE Tryz.func12 (by kernel_rfl) rfl Tryz.ntmps12 (by simp) (by simp) ?_
 repeat first|refine cg ?_|simp -dsimp
 obtain⟨o'26,ho25,hF⟩:=ob hF
 refine ALoop.goU ⟨[(3,.own 0 (List.length (α:=Int) [])),(9,.arr (List.map Vl.Node.c list)),(10,.lit (.int .i64 (list.length:Int))),(11,.lit (.int .i64 0))],[.elems 1 (List.map cI [])]⟩ (by refine Gh.trans (Gh.nil 3 1 (by simp -dsimp)) ?_;exact(gT (by simp) (by simp -dsimp))) ?_
 refine((CC.f180 B hB1 hB2 list) 0 [] o'26 ho25) _ rfl _ ?_
 cases hF
 repeat first|refine cg ?_|simp -dsimp
theorem C.f182 (s:List Int)(r:List Int)(hF:F.f182 s=some r):BCall Tryz.prog B 29 [] [am cI s] (.own 0 (List.length (α:=Int) r)) [.elems 1 (List.map cI r)]:=by
 unfold F.f182 at hF
 obtain⟨c1,hF⟩:=oc hF
 cases hF
 cases s with
 |nil=>
  refine BCall.empty1 fun a c=> ?_
  cases a
  ·refine BCall.ofNil 1 (by simp) (by simp) ?_
   refine pE Tryz.func29 (by kernel_rfl) rfl Tryz.ntmps29 (by simp) (by simp) ?_
   repeat first|refine cg ?_|simp -dsimp
  ·refine BCall.enter Tryz.func29 (by kernel_rfl) rfl Tryz.ntmps29 (by simp) rfl (by simp) (by simp) (by simp) (by simp) (by simp) (gR _) ?_
   repeat first|refine cg ?_|simp -dsimp
 |cons x xs=>
  have c1:xs.length+1<=67108864:=by simpa using c1
  refine BCall.enter Tryz.func29 (by kernel_rfl) rfl Tryz.ntmps29 (by simp) rfl (by simp) (by simp) (by simp) (by simp) (by simp) (gR _) ?_
  repeat first|refine cg ?_|simp -dsimp
theorem CC.f183 (list:List PathBind):(∀(out:List PathBind) (i:Nat) (o:List PathBind),F.f183 list out i=some o->∀(c:Code),ZY [1,1,0,1,0,0] (ZK Tryz.f28)=some c->∀(Q:Exit->ASt->Prop),(Q (.exit 0) ⟨[(3,.own 0 (List.length (α:=PathBind) o))],[.elems 2 (List.map PathBind.c o)]⟩)->ALoopU Tryz.prog B 0 23 (hold c .mk) ⟨[(3,.own 0 (List.length (α:=PathBind) out)),(6,am PathBind.c list),(7,li (list.length:Int)),(8,li (i:Int))],[.elems 2 (List.map PathBind.c out)]⟩ (hold Q .mk)):=by
 refine F.f183.partial_correctness list
  _
  ?_
 ·intro _f_f183 ih_f183 out i o hF
  intro c hc Q hq
  obtain rfl:c=_:=ZM hc rfl
  refine kN fun hk hs=> ?_
  have b6:=hk 6
  simp -dsimp at b6
  have d0:=hs 0 _ rfl
  simp -dsimp[Blk.bnd]at d0
  clear hk hs
  refine eN ?_
  repeat first|refine cg ?_|simp -dsimp
  revert hF;refine aS ?_ ?_<;>intro h1 q2 hF
  ·have z3:((i:Int)<(list.length:Int)):=auz
   obtain⟨x,e4,hF⟩:=ob hF
   have le4:=ZB e4
   repeat first|refine cg ?_|simp -dsimp[h1,z3,↓e4]
   refine ADraw.eff [29,1000045] [(0,3),(0,1),(0,1),(0,0),(0,0),(0,4),(0,4),(0,4),(0,4),(4,4)] [1,0,2,1,1,1,1,1,1,1] follows (by kernel_rfl) (by kernel_rfl) (by kernel_rfl) ?_
   repeat first|refine cg ?_|simp -dsimp
   obtain⟨v,e5,hF⟩:=ob hF
   refine((C.f182 B hB1 hB2 x.path v e5)).ego (pl [2]) (by simp) (by simp) (by intro i j hi;simp at hi) (by intro i hi hi';simp at hi hi';first|omega|(subst hi';simp[pl])) (by simp_all) (by simp_all) ?_
   obtain⟨c6,hF⟩:=oc hF
   have w7:i64.wrap ((i:Int)+1)=(i:Int)+1:=ZG (by omega) (by omega)
   repeat first|refine cg ?_|simp -dsimp[w7]
   refine aG _ ?_ ((ih_f183 (out++[(⟨x.var,v⟩:PathBind)]) (i+1) o hF) _ rfl _ hq)
   exact(gT (by simp) (by simp_all))
  ·have z3:¬((i:Int)<(list.length:Int)):=auz
   cases hF
   repeat first|refine cg ?_|simp -dsimp[h1,q2,z3]
   refine lG _ (gT (by simp) (by simp_all)) hq
theorem C.f184 (list:List PathBind)(r:List PathBind)(hF:F.f184 list=some r):PureCall Tryz.prog B 28 [am PathBind.c list] (am PathBind.c r):=by
 unfold F.f184 at hF
 refine pE Tryz.func28 (by kernel_rfl) rfl Tryz.ntmps28 (by simp) (by simp) ?_
 repeat first|refine cg ?_|simp -dsimp
 obtain⟨o',ho8,hF⟩:=ob hF
 refine ALoop.goU ⟨[(3,.own 0 (List.length (α:=PathBind) [])),(6,.arr (List.map PathBind.c list)),(7,.lit (.int .i64 (list.length:Int))),(8,.lit (.int .i64 0))],[.elems 2 (List.map PathBind.c [])]⟩ (by refine Gh.trans (Gh.nil 3 2 (by simp -dsimp)) ?_;exact(gT (by simp) (by simp -dsimp))) ?_
 refine((CC.f183 B hB1 hB2 list) [] 0 o' ho8) _ rfl _ ?_
 cases hF
 repeat first|refine cg ?_|simp -dsimp
theorem CC.f185 (list:List Vl.Node):(∀(k:Int) (r:Tree),F.f185 list k=some r->PureCall Tryz.prog B 13 [am Vl.Node.c list,li k] (.agg [li r.op,li r.clause,am PathBind.c r.binds,am cI r.path,am Branch.c r.branches,am Tree.c r.els]))/\
  (∀(x:Vl.Node) (v:List PathBind) (v3:List Int) (out:List Branch) (i:Nat) (o:List Branch),F.f186 list x v v3 out i=some o->∀(c:Code),ZY [1,1,1,0,1,0,0] (ZK Tryz.f13)=some c->∀(Q:Exit->ASt->Prop),(Q (.exit 0) ⟨[(0,am Vl.Node.c list),(4,.ptr 0 0),(5,.ptr 1 0),(6,.ptr 3 0)],[.cells [li 0,li 0,.lit (.slice none 0 0),.lit (.slice none 0 0),.lit (.slice none 0 0),.lit (.slice none 0 0)],.cells [li x.op,li x.clause,am PathBind.c x.binds,am cI x.path,am Vl.Edge.c x.edges,li x.els],.dead,.cells [li x.op,li x.clause,am PathBind.c v,am cI v3,.own 4 (List.length (α:=Branch) o),.lit (.slice none 0 0)],.elems 9 (List.map Branch.c o)]⟩)->ALoopU Tryz.prog B 0 58 (hold c .mk) ⟨[(0,am Vl.Node.c list),(4,.ptr 0 0),(5,.ptr 1 0),(6,.ptr 3 0),(25,am Vl.Edge.c x.edges),(26,li (x.edges.length:Int)),(27,li (i:Int))],[.cells [li 0,li 0,.lit (.slice none 0 0),.lit (.slice none 0 0),.lit (.slice none 0 0),.lit (.slice none 0 0)],.cells [li x.op,li x.clause,am PathBind.c x.binds,am cI x.path,am Vl.Edge.c x.edges,li x.els],.dead,.cells [li x.op,li x.clause,am PathBind.c v,am cI v3,.own 4 (List.length (α:=Branch) out),.lit (.slice none 0 0)],.elems 9 (List.map Branch.c out)]⟩ (hold Q .mk)):=by
 refine F.f185.mutual_partial_correctness list
  _ _
  ?_ ?_
 ·intro _f_f185 _f_f186 ih_f185 ih_f186 k r hF
  refine pE Tryz.func13 (by kernel_rfl) rfl Tryz.ntmps13 (by simp) (by simp) ?_
  obtain⟨x,e1a,hF⟩:=ob hF
  have e1a:=ZL e1a;obtain⟨ne1,e1⟩:=e1a
  have le1:=ZB e1
  repeat first|refine cg ?_|simp -dsimp[↓e1]
  refine ADraw.effL [(9,11),(10,11)] 11 [29,1000030] [(0,1),(0,1),(0,1),(0,1),(0,0),(0,0),(0,4),(0,0),(0,0),(0,4),(0,4),(0,4),(0,4)] [0,2,0,2,1,1,1,1,1,1,1,1,1] follows (by kernel_rfl) (by kernel_rfl) (by kernel_rfl) (by kernel_rfl) (by intro d hd;cases hd;rfl) ?_
  repeat first|refine cg ?_|simp -dsimp
  obtain⟨v,e2,hF⟩:=ob hF
  refine((C.f184 B hB1 hB2 x.binds v e2)).pgoW (by simp_all) (by simp) ?_
  repeat first|refine cg ?_|simp -dsimp
  obtain⟨v3,e4,hF⟩:=ob hF
  refine((C.f182 B hB1 hB2 x.path v3 e4)).ego (pl [2]) (by simp) (by simp) (by intro i j hi;simp at hi) (by intro i hi hi';simp at hi hi';first|omega|(subst hi';simp[pl])) (by simp_all) (by simp_all) ?_
  repeat first|refine cg ?_|simp -dsimp
  obtain⟨o',ho14,hF⟩:=ob hF
  refine ALoop.goU ⟨[(0,.arr (List.map Vl.Node.c list)),(4,.ptr 0 0),(5,.ptr 1 0),(6,.ptr 3 0),(25,.arr (List.map Vl.Edge.c x.edges)),(26,.lit (.int .i64 (x.edges.length:Int))),(27,.lit (.int .i64 0))],[.cells [.lit (.int .i64 0),.lit (.int .i64 0),.lit (.slice none 0 0),.lit (.slice none 0 0),.lit (.slice none 0 0),.lit (.slice none 0 0)],.cells [.lit (.int .i64 x.op),.lit (.int .i64 x.clause),.arr (List.map PathBind.c x.binds),.arr (List.map cI x.path),.arr (List.map Vl.Edge.c x.edges),.lit (.int .i64 x.els)],.dead,.cells [.lit (.int .i64 x.op),.lit (.int .i64 x.clause),.arr (List.map PathBind.c v),.arr (List.map cI v3),.own 4 (List.length (α:=Branch) []),.lit (.slice none 0 0)],.elems 9 (List.map Branch.c [])]⟩ (by refine Gh.trans (Gh.nilCell 3 4 9 (by simp -dsimp;rfl) (by simp -dsimp)) ?_;exact(gT (by simp) (by simp_all))) ?_
  refine(ih_f186 x v v3 [] 0 o' ho14) _ rfl _ ?_
  repeat first|refine cg ?_|simp -dsimp
  revert hF;refine aS ?_ ?_<;>intro h15 q16 hF
  ·repeat first|refine cg ?_|simp -dsimp[h15]
   obtain⟨v17,e18,hF⟩:=ob hF
   refine((ih_f185 x.els v17 e18)).goW (by simp_all) (by simp) ?_
   cases hF
   repeat first|refine cg ?_|simp -dsimp
  ·cases hF
   repeat first|refine cg ?_|simp -dsimp[q16]
 ·intro _f_f185 _f_f186 ih_f185 ih_f186 x v v3 out i o hF
  intro c hc Q hq
  obtain rfl:c=_:=ZM hc rfl
  refine kN fun hk hs=> ?_
  have b0:=hk 0
  simp -dsimp at b0
  have b25:=hk 25
  simp -dsimp at b25
  have d1:=hs 1 _ rfl
  simp -dsimp[Blk.bnd]at d1
  have d3:=hs 3 _ rfl
  simp -dsimp[Blk.bnd]at d3
  have d4:=hs 4 _ rfl
  simp -dsimp[Blk.bnd]at d4
  clear hk hs
  refine eN ?_
  repeat first|refine cg ?_|simp -dsimp
  revert hF;refine aS ?_ ?_<;>intro h5 q6 hF
  ·have z7:((i:Int)<(x.edges.length:Int)):=auz
   obtain⟨x8,e9,hF⟩:=ob hF
   have le9:=ZB e9
   repeat first|refine cg ?_|simp -dsimp[h5,z7,↓e9]
   refine ADraw.eff [] [(0,1),(0,1),(0,0),(0,0),(0,0),(0,0),(0,0),(0,0),(0,0),(0,0),(0,0),(0,3),(0,0),(0,3),(0,3),(2,2),(0,3)] [0,2,1,1,1,1,1,1,1,1,1,1,1,1,1,1,1] follows (by kernel_rfl) (by kernel_rfl) (by kernel_rfl) ?_
   repeat first|refine cg ?_|simp -dsimp
   obtain⟨v10,e11,hF⟩:=ob hF
   refine((ih_f185 x8.to v10 e11)).pgoW (by simp_all) (by simp) ?_
   obtain⟨c12,hF⟩:=oc hF
   have w13:i64.wrap ((i:Int)+1)=(i:Int)+1:=ZG (by omega) (by omega)
   repeat first|refine cg ?_|simp -dsimp[w13]
   refine aG _ ?_ ((ih_f186 x v v3 (out++[(⟨x8.ctor,x8.n,x8.m,v10⟩:Branch)]) (i+1) o hF) _ rfl _ hq)
   exact(gT (by simp) (by simp_all))
  ·have z7:¬((i:Int)<(x.edges.length:Int)):=auz
   cases hF
   repeat first|refine cg ?_|simp -dsimp[h5,q6,z7]
   refine lG _ (gT (by simp) (by simp_all)) hq
theorem C.f187 (list:List Vl.Node)(r:Tree×Bool)(hF:F.f187 list=some r):PureCall Tryz.prog B 5 [am Vl.Node.c list] (.tup [.agg [li r.1.op,li r.1.clause,am PathBind.c r.1.binds,am cI r.1.path,am Branch.c r.1.branches,am Tree.c r.1.els],.lit (.bool r.2)]):=by
 unfold F.f187 at hF
 refine pE Tryz.func5 (by kernel_rfl) rfl Tryz.ntmps5 (by simp) (by simp) ?_
 repeat first|refine cg ?_|simp -dsimp
 have hF:=ob hF;obtain⟨v,e1,hF⟩:=hF
 refine((C.f178 B hB1 hB2 list v e1)).goW (by simp) (by simp) ?_
 repeat first|refine cg ?_|simp -dsimp
 revert hF;refine aS (fun h2 q3 hF=> ?_) (fun h2 q3 hF=> ?_)
 ·repeat first|refine cg ?_|simp -dsimp[h2]
  have hF:=ob hF;obtain⟨v4,e5,hF⟩:=hF
  refine((C.f181 B hB1 hB2 list v4 e5)).goW (by simp[h2]) (by simp) ?_
  have hF:=ob hF;obtain⟨x,e6a,hF⟩:=hF
  have e6a:=ZL e6a;obtain⟨ne6,e6⟩:=e6a
  have le6:=ZB e6
  repeat first|refine cg ?_|simp -dsimp[h2,↓e6]
  revert hF;refine aS ?_ ?_<;>intro h7 q8 hF
  ·cases hF
   repeat first|refine cg ?_|simp -dsimp[h2,↓e6,h7]
  ·repeat first|refine cg ?_|simp -dsimp[h2,↓e6,h7,q8]
   have hF:=ob hF;obtain⟨v9,e10,hF⟩:=hF
   refine(((CC.f185 B hB1 hB2 list).1 (i64.wrap ((list.length:Int) -1)) v9 e10)).goW (by simp[h2,↓e6,h7,q8]) (by simp) ?_
   cases hF
   repeat first|refine cg ?_|simp -dsimp[h2,↓e6,h7,q8]
 ·cases hF
  repeat first|refine cg ?_|simp -dsimp[h2,q3]
theorem CC.f188 (list:List Vl.Node)(i:Nat)(x:Vl.Node):(∀(k:Nat) (o:Lo Bool Unit),F.f188 list i x k=some o->∀(c:Code),ZY [1,1,0,1,0,0,1,0,0,1,1,1,0,0] (ZK Tryz.f14)=some c->∀(Q:Exit->ASt->Prop),o.post (fun r=>∀st,ZAh Tryz.prog Tryz.f14 (fun r' _=>r'.le (.lit (.bool r))) .ret st->Q .ret st) (fun s=>Q (.exit 2) ⟨[(0,am Vl.Node.c list),(3,li (i:Int))],[]⟩)->ALoopU Tryz.prog B 0 74 (hold c .mk) ⟨[(0,am Vl.Node.c list),(3,li (i:Int)),(4,.ptr 0 0),(5,li (k:Int))],[.cells [li x.op,li x.clause,am PathBind.c x.binds,am cI x.path,am Vl.Edge.c x.edges,li x.els]]⟩ (hold Q .mk)):=by
 refine F.f188.partial_correctness list i x
  _
  ?_
 ·intro _f_f188 ih_f188 k o hF
  intro c hc Q hq
  obtain rfl:c=_:=ZM hc rfl
  refine kN fun hk hs=> ?_
  have b0:=hk 0
  simp -dsimp at b0
  have d0:=hs 0 _ rfl
  simp -dsimp[Blk.bnd]at d0
  clear hk hs
  refine eN ?_
  repeat first|refine cg ?_|simp -dsimp
  revert hF;refine aS ?_ ?_<;>intro h23 q24 hF
  ·have z25:((k:Int)<(x.edges.length:Int)):=auz
   obtain⟨x26,e27,hF⟩:=ob hF
   have le27:=ZB e27
   repeat first|refine cg ?_|simp -dsimp[h23,z25,↓e27]
   revert hF;refine aN ?_ ?_<;>intro h28 q29 hF
   ·repeat first|refine cg ?_|simp -dsimp[h23,z25,↓e27,h28,q29]
    revert hF;refine aS ?_ ?_<;>intro h30 q31 hF
    ·cases hF
     repeat first|refine cg ?_|simp -dsimp[h23,z25,↓e27,h28,q29,h30]
     refine lG _ (gR _) (hq _ ?_)
     repeat first|refine cg ?_|simp -dsimp[h23,z25,↓e27,h28,q29,h30]
    ·have w32:i64.wrap ((k:Int)+1)=(k:Int)+1:=ZG (by omega) (by omega)
     repeat first|refine cg ?_|simp -dsimp[h23,z25,↓e27,h28,q29,h30,q31,w32]
     refine aG _ ?_ ((ih_f188 (k+1) o hF) _ rfl _ hq)
     exact(gT (by simp) (by simp -dsimp[h23,z25,↓e27,h28,q29,h30,q31,w32]))
   ·cases hF
    repeat first|refine cg ?_|simp -dsimp[h23,z25,↓e27,h28,q29]
    refine lG _ (gR _) (hq _ ?_)
    repeat first|refine cg ?_|simp -dsimp[h23,z25,↓e27,h28,q29]
  ·have z25:¬((k:Int)<(x.edges.length:Int)):=auz
   cases hF
   repeat first|refine cg ?_|simp -dsimp[h23,q24,z25]
   refine lG _ (gT (by simp) (by simp -dsimp[h23,q24,z25])) hq
theorem CC.f189 (list:List Vl.Node):(∀(i:Nat) (o:Lo Bool Unit),F.f189 list i=some o->∀(c:Code),ZY [1,1,0,1,0,0] (ZK Tryz.f14)=some c->∀(Q:Exit->ASt->Prop),o.post (fun r=>∀st,ZAh Tryz.prog Tryz.f14 (fun r' _=>r'.le (.lit (.bool r))) .ret st->Q .ret st) (fun s=>Q (.exit 0) ⟨[],[]⟩)->ALoopU Tryz.prog B 0 74 (hold c .mk) ⟨[(0,am Vl.Node.c list),(3,li (i:Int))],[]⟩ (hold Q .mk)):=by
 refine F.f189.partial_correctness list
  _
  ?_
 ·intro _f_f189 ih_f189 i o hF
  intro c hc Q hq
  obtain rfl:c=_:=ZM hc rfl
  refine kN fun hk hs=> ?_
  have b0:=hk 0
  simp -dsimp at b0
  clear hk hs
  refine eN ?_
  repeat first|refine cg ?_|simp -dsimp
  revert hF;refine aS ?_ ?_<;>intro h7 q8 hF
  ·have z9:((i:Int)<(list.length:Int)):=auz
   obtain⟨x,e10,hF⟩:=ob hF
   have le10:=ZB e10
   repeat first|refine cg ?_|simp -dsimp[h7,z9,↓e10]
   refine ADraw.simple follows (by kernel_rfl) (by kernel_rfl) ?_
   repeat first|refine cg ?_|simp -dsimp[h7,z9,↓e10]
   revert hF;refine aN ?_ ?_<;>intro h11 q12 hF
   ·repeat first|refine cg ?_|simp -dsimp[h7,z9,↓e10,h11,q12]
    revert hF;refine aN ?_ ?_<;>intro h13 q14 hF
    ·repeat first|refine cg ?_|simp -dsimp[h7,z9,↓e10,h11,q12,h13,q14]
     obtain⟨v,e15,hF⟩:=ob hF
     refine((C.f158 B hB1 hB2 v e15)).pgoW (by simp[h7,z9,↓e10,h11,q12,h13,q14]) (by simp) ?_
     repeat first|refine cg ?_|simp -dsimp[h7,z9,↓e10,h11,q12,h13,q14]
     revert hF;refine aN ?_ ?_<;>intro h16 q17 hF
     ·repeat first|refine cg ?_|simp -dsimp[h7,z9,↓e10,h11,q12,h13,q14,h16,q17]
      revert hF;refine aN ?_ ?_<;>intro h18 q19 hF
      ·repeat first|refine cg ?_|simp -dsimp[h7,z9,↓e10,h11,q12,h13,q14,h16,q17,h18,q19]
       revert hF;refine aS ?_ ?_<;>intro h20 q21 hF
       ·have z22:(10<(x.edges.length:Int)):=auz
        cases hF
        repeat first|refine cg ?_|simp -dsimp[h7,z9,↓e10,h11,q12,h13,q14,h16,q17,h18,q19,h20,z22]
        refine lG _ (gR _) (hq _ ?_)
        repeat first|refine cg ?_|simp -dsimp[h7,z9,↓e10,h11,q12,h13,q14,h16,q17,h18,q19,h20,z22]
       ·have z22:¬(10<(x.edges.length:Int)):=auz
        repeat first|refine cg ?_|simp -dsimp[h7,z9,↓e10,h11,q12,h13,q14,h16,q17,h18,q19,h20,q21,z22]
        obtain⟨o',ho33,hF⟩:=ob hF
        refine ALoop.goU _ ?_ (((CC.f188 B hB1 hB2 list i x) 0 o' ho33) _ rfl _ ?_)
        ·exact(gT (by simp) (by simp -dsimp[h7,z9,↓e10,h11,q12,h13,q14,h16,q17,h18,q19,h20,q21,z22]))
        rcases o' with r0|sx
        ·dsimp only at hF
         cases hF
         intro st h
         simp -dsimp
         refine lG st (gR _) (hq st h)
        ·dsimp only at hF
         obtain⟨c34,hF⟩:=oc hF
         have w35:i64.wrap ((i:Int)+1)=(i:Int)+1:=ZG (by omega) (by omega)
         repeat first|refine cg ?_|simp -dsimp[w35]
         refine aG _ ?_ ((ih_f189 (i+1) o hF) _ rfl _ hq)
         exact(gT (by simp) (by simp -dsimp[w35]))
      ·cases hF
       repeat first|refine cg ?_|simp -dsimp[h7,z9,↓e10,h11,q12,h13,q14,h16,q17,h18,q19]
       refine lG _ (gR _) (hq _ ?_)
       repeat first|refine cg ?_|simp -dsimp[h7,z9,↓e10,h11,q12,h13,q14,h16,q17,h18,q19]
     ·cases hF
      repeat first|refine cg ?_|simp -dsimp[h7,z9,↓e10,h11,q12,h13,q14,h16,q17]
      refine lG _ (gR _) (hq _ ?_)
      repeat first|refine cg ?_|simp -dsimp[h7,z9,↓e10,h11,q12,h13,q14,h16,q17]
    ·cases hF
     repeat first|refine cg ?_|simp -dsimp[h7,z9,↓e10,h11,q12,h13,q14]
     refine lG _ (gR _) (hq _ ?_)
     repeat first|refine cg ?_|simp -dsimp[h7,z9,↓e10,h11,q12,h13,q14]
   ·cases hF
    repeat first|refine cg ?_|simp -dsimp[h7,z9,↓e10,h11,q12]
    refine lG _ (gR _) (hq _ ?_)
    repeat first|refine cg ?_|simp -dsimp[h7,z9,↓e10,h11,q12]
  ·have z9:¬((i:Int)<(list.length:Int)):=auz
   cases hF
   repeat first|refine cg ?_|simp -dsimp[h7,q8,z9]
   refine lG _ (gT (by simp) (by simp -dsimp[h7,q8,z9])) hq
theorem C.f190 (list:List Vl.Node)(r:Bool)(hF:F.f190 list=some r):PureCall Tryz.prog B 14 [am Vl.Node.c list] (.lit (.bool r)):=by
 unfold F.f190 at hF
 refine pE Tryz.func14 (by kernel_rfl) rfl Tryz.ntmps14 (by simp) (by simp) ?_
 repeat first|refine cg ?_|simp -dsimp
 revert hF;refine aN ?_ ?_<;>intro h1 q2 hF
 ·have z3:¬((list.length:Int)=0):=auz
  repeat first|refine cg ?_|simp -dsimp[h1,q2,z3]
  revert hF;refine aS ?_ ?_<;>intro h4 q5 hF
  ·have z6:(300<(list.length:Int)):=auz
   cases hF
   repeat first|refine cg ?_|simp -dsimp[h1,q2,z3,h4,z6]
  ·have z6:¬(300<(list.length:Int)):=auz
   repeat first|refine cg ?_|simp -dsimp[h1,q2,z3,h4,q5,z6]
   obtain⟨o'37,ho36,hF⟩:=ob hF
   refine ALoop.goU _ ?_ (((CC.f189 B hB1 hB2 list) 0 o'37 ho36) _ rfl _ ?_)
   ·exact(gT (by simp) (by simp -dsimp[h1,q2,z3,h4,q5,z6]))
   rcases o'37 with r039|sx38
   ·dsimp only at hF
    cases hF
    intro st h
    simpa using h
   ·dsimp only at hF
    cases hF
    repeat first|refine cg ?_|simp -dsimp
 ·have z3:((list.length:Int)=0):=auz
  cases hF
  repeat first|refine cg ?_|simp -dsimp[h1,q2,z3]
theorem CC.f191 (list:List Vl.Node):(∀(at':Int) (left':Int) (r:Tree×Int),F.f191 list at' left'=some r->PureCall Tryz.prog B 15 [am Vl.Node.c list,li at',li left'] (.tup [.agg [li r.1.op,li r.1.clause,am PathBind.c r.1.binds,am cI r.1.path,am Branch.c r.1.branches,am Tree.c r.1.els],li r.2]))/\
  (∀(x:Vl.Node) (v:List PathBind) (out:List Branch) (i:Nat) (left'6:Int) (o:(List Branch)×Int),F.f192 list x v out i left'6=some o->∀(c:Code),ZY [1,1,1,1,1,0,1,0,0] (ZK Tryz.f15)=some c->∀(Q:Exit->ASt->Prop),(Q (.exit 0) ⟨[(0,am Vl.Node.c list),(2,li o.2),(6,.ptr 0 0),(8,.ptr 1 0),(9,.ptr 3 0)],[.cells [li 0,li 0,.lit (.slice none 0 0),.lit (.slice none 0 0),.lit (.slice none 0 0),.lit (.slice none 0 0)],.cells [li x.op,li x.clause,am PathBind.c x.binds,am cI x.path,am Vl.Edge.c x.edges,li x.els],.dead,.cells [li x.op,li x.clause,am PathBind.c v,am cI x.path,.own 4 (List.length (α:=Branch) o.1),.lit (.slice none 0 0)],.elems 9 (List.map Branch.c o.1)]⟩)->ALoopU Tryz.prog B 0 107 (hold c .mk) ⟨[(0,am Vl.Node.c list),(2,li left'6),(6,.ptr 0 0),(8,.ptr 1 0),(9,.ptr 3 0),(10,li (i:Int))],[.cells [li 0,li 0,.lit (.slice none 0 0),.lit (.slice none 0 0),.lit (.slice none 0 0),.lit (.slice none 0 0)],.cells [li x.op,li x.clause,am PathBind.c x.binds,am cI x.path,am Vl.Edge.c x.edges,li x.els],.dead,.cells [li x.op,li x.clause,am PathBind.c v,am cI x.path,.own 4 (List.length (α:=Branch) out),.lit (.slice none 0 0)],.elems 9 (List.map Branch.c out)]⟩ (hold Q .mk)):=by
 refine F.f191.mutual_partial_correctness list
  _ _
  ?_ ?_
 ·intro _f_f191 _f_f192 ih_f191 ih_f192 at' left' r hF
  refine pE Tryz.func15 (by kernel_rfl) rfl Tryz.ntmps15 (by simp) (by simp) ?_
  repeat first|refine cg ?_|simp -dsimp
  revert hF;refine aS ?_ ?_<;>intro h1 q2 hF
  ·cases hF
   repeat first|refine cg ?_|simp -dsimp[h1]
  ·have hF:=ob hF;obtain⟨x,e3a,hF⟩:=hF
   have e3a:=ZL e3a;obtain⟨ne3,e3⟩:=e3a
   have le3:=ZB e3
   repeat first|refine cg ?_|simp -dsimp[q2,↓e3]
   refine ADraw.effL [(7,12),(10,12),(11,12)] 12 [1000030] [(0,2),(0,2),(0,2),(0,2),(0,1),(0,1),(0,5),(0,5),(0,1),(0,1),(0,5),(0,5),(0,5),(0,5)] [0,2,0,2,0,2,1,1,0,2,1,1,1,1] follows (by kernel_rfl) (by kernel_rfl) (by kernel_rfl) (by kernel_rfl) (by intro d hd;cases hd;rfl) ?_
   repeat first|refine cg ?_|simp -dsimp[↓e3]
   have hF:=ob hF;obtain⟨v,e4,hF⟩:=hF
   refine((C.f157 B hB1 hB2 x.binds v e4)).pgoW (by simp_all) (by simp) ?_
   have hF:=oc hF;obtain⟨c5,hF⟩:=hF
   repeat first|refine cg ?_|simp -dsimp[↓e3]
   have hF:=ob hF;obtain⟨o',ho18,hF⟩:=hF
   refine ALoop.goU ⟨[(0,.arr (List.map Vl.Node.c list)),(2,.lit (.int .i64 (i64.wrap (left'-1)))),(6,.ptr 0 0),(8,.ptr 1 0),(9,.ptr 3 0),(10,.lit (.int .i64 0))],[.cells [.lit (.int .i64 0),.lit (.int .i64 0),.lit (.slice none 0 0),.lit (.slice none 0 0),.lit (.slice none 0 0),.lit (.slice none 0 0)],.cells [.lit (.int .i64 x.op),.lit (.int .i64 x.clause),.arr (List.map PathBind.c x.binds),.arr (List.map cI x.path),.arr (List.map Vl.Edge.c x.edges),.lit (.int .i64 x.els)],.dead,.cells [.lit (.int .i64 x.op),.lit (.int .i64 x.clause),.arr (List.map PathBind.c v),.arr (List.map cI x.path),.own 4 (List.length (α:=Branch) []),.lit (.slice none 0 0)],.elems 9 (List.map Branch.c [])]⟩ (by refine Gh.trans (Gh.nilCell 3 4 9 (by simp -dsimp;rfl) (by simp -dsimp)) ?_;exact(gT (by simp) (by simp_all))) ?_
   refine(ih_f192 x v [] 0 (i64.wrap (left'-1)) o' ho18) _ rfl _ ?_
   repeat first|refine cg ?_|simp -dsimp
   revert hF;refine aS ?_ ?_<;>intro h19 q20 hF
   ·repeat first|refine cg ?_|simp -dsimp[h19]
    revert hF;refine aS ?_ ?_<;>intro h21 q22 hF
    ·repeat first|refine cg ?_|simp -dsimp[h21]
     have hF:=ob hF;obtain⟨v23,e24,hF⟩:=hF
     refine((ih_f191 x.els o'.2 v23 e24)).goW (by simp_all) (by simp) ?_
     cases hF
     repeat first|refine cg ?_|simp -dsimp
    ·cases hF
     repeat first|refine cg ?_|simp -dsimp[q22]
   ·cases hF
    repeat first|refine cg ?_|simp -dsimp[q20]
 ·intro _f_f191 _f_f192 ih_f191 ih_f192 x v out i left'6 o hF
  intro c hc Q hq
  obtain rfl:c=_:=ZM hc rfl
  refine kN fun hk hs=> ?_
  have b0:=hk 0
  simp -dsimp at b0
  have d1:=hs 1 _ rfl
  simp -dsimp[Blk.bnd]at d1
  have d3:=hs 3 _ rfl
  simp -dsimp[Blk.bnd]at d3
  have d4:=hs 4 _ rfl
  simp -dsimp[Blk.bnd]at d4
  clear hk hs
  refine eN ?_
  repeat first|refine cg ?_|simp -dsimp
  revert hF;refine aS ?_ ?_<;>intro h7 q8 hF
  ·have z9:((i:Int)<(x.edges.length:Int)):=auz
   repeat first|refine cg ?_|simp -dsimp[h7,z9]
   revert hF;refine aS ?_ ?_<;>intro h10 q11 hF
   ·have hF:=ob hF;obtain⟨x12,e13,hF⟩:=hF
    have le13:=ZB e13
    repeat first|refine cg ?_|simp -dsimp[h10,↓e13]
    have hF:=ob hF;obtain⟨v14,e15,hF⟩:=hF
    refine((ih_f191 x12.to left'6 v14 e15)).goW (by simp_all) (by simp) ?_
    repeat first|refine cg ?_|simp -dsimp[↓e13]
    refine ADraw.eff [] [(0,1),(0,1),(0,0),(0,0),(0,0),(0,0),(0,0),(0,0),(0,0),(0,0),(0,0),(0,0),(0,0),(0,0),(0,0),(0,0),(0,0),(0,0),(0,0),(0,0),(0,0),(0,0),(0,3),(0,3),(2,2),(0,3)] [0,2,1,1,1,1,1,1,1,1,1,1,1,1,1,1,1,1,1,1,1,1,1,1,1,1] follows (by kernel_rfl) (by kernel_rfl) (by kernel_rfl) ?_
    have hF:=oc hF;obtain⟨c16,hF⟩:=hF
    have w17:i64.wrap ((i:Int)+1)=(i:Int)+1:=ZG (by omega) (by omega)
    repeat first|refine cg ?_|simp -dsimp[↓e13,w17]
    refine aG _ ?_ ((ih_f192 x v (out++[(⟨x12.ctor,x12.n,x12.m,v14.1⟩:Branch)]) (i+1) v14.2 o hF) _ rfl _ hq)
    exact(gT (by simp) (by simp_all))
   ·cases hF
    repeat first|refine cg ?_|simp -dsimp[h10,q11]
    refine lG _ (gT (by simp) (by simp_all)) hq
  ·have z9:¬((i:Int)<(x.edges.length:Int)):=auz
   cases hF
   repeat first|refine cg ?_|simp -dsimp[h7,q8,z9]
   refine lG _ (gT (by simp) (by simp_all)) hq
theorem C.f193 (list:List Vl.Node)(r:Tree×Bool)(hF:F.f193 list=some r):PureCall Tryz.prog B 6 [am Vl.Node.c list] (.tup [.agg [li r.1.op,li r.1.clause,am PathBind.c r.1.binds,am cI r.1.path,am Branch.c r.1.branches,am Tree.c r.1.els],.lit (.bool r.2)]):=by
 unfold F.f193 at hF
 refine pE Tryz.func6 (by kernel_rfl) rfl Tryz.ntmps6 (by simp) (by simp) ?_
 repeat first|refine cg ?_|simp -dsimp
 obtain⟨v,e1,hF⟩:=ob hF
 refine((C.f190 B hB1 hB2 list v e1)).goW (by simp) (by simp) ?_
 repeat first|refine cg ?_|simp -dsimp
 revert hF;refine aN (fun h2 q3 hF=> ?_) (fun h2 q3 hF=> ?_)
 ·cases hF
  repeat first|refine cg ?_|simp -dsimp[h2,q3]
 ·repeat first|refine cg ?_|simp -dsimp
  obtain⟨v4,e5,hF⟩:=ob hF
  refine(((CC.f191 B hB1 hB2 list).1 (i64.wrap ((list.length:Int) -1)) 300 v4 e5)).goW (by simp_all) (by simp) ?_
  repeat first|refine cg ?_|simp -dsimp
  revert hF;refine aS ?_ ?_<;>intro h6 q7 hF
  ·cases hF
   repeat first|refine cg ?_|simp -dsimp[h6]
  ·cases hF
   repeat first|refine cg ?_|simp -dsimp[q7]
theorem CC.f194 (a:List Int)(b:List Int):(∀(i:Nat) (o:Lo Bool Unit),F.f194 a b i=some o->∀(c:Code),ZY [1,1,0,1,0,0] (ZK Tryz.f16)=some c->∀(Q:Exit->ASt->Prop),o.post (fun r=>∀st,ZAh Tryz.prog Tryz.f16 (fun r' _=>r'.le (.lit (.bool r))) .ret st->Q .ret st) (fun s=>Q (.exit 0) ⟨[],[]⟩)->ALoopU Tryz.prog B 0 26 (hold c .mk) ⟨[(0,am cI a),(1,am cI b),(5,li (i:Int))],[]⟩ (hold Q .mk)):=by
 refine F.f194.partial_correctness a b
  _
  ?_
 ·intro _f_f194 ih_f194 i o hF
  intro c hc Q hq
  obtain rfl:c=_:=ZM hc rfl
  refine kN fun hk hs=> ?_
  have b0:=hk 0
  simp -dsimp at b0
  have b1:=hk 1
  simp -dsimp at b1
  clear hk hs
  refine eN ?_
  repeat first|refine cg ?_|simp -dsimp
  revert hF;refine aS ?_ ?_<;>intro h4 q5 hF
  ·have z6:((i:Int)<(a.length:Int)):=auz
   repeat first|refine cg ?_|simp -dsimp[h4,z6]
   refine ADraw.simple follows (by kernel_rfl) (by kernel_rfl) ?_
   obtain⟨x,e7,hF⟩:=ob hF
   have le7:=ZB e7
   obtain⟨x8,e9,hF⟩:=ob hF
   have le9:=ZB e9
   repeat first|refine cg ?_|simp -dsimp[↓e7,↓e9]
   revert hF;refine aN ?_ ?_<;>intro h10 q11 hF
   ·cases hF
    repeat first|refine cg ?_|simp -dsimp[h10,q11]
    refine lG _ (gR _) (hq _ ?_)
    repeat first|refine cg ?_|simp -dsimp
   ·have w12:i64.wrap ((i:Int)+1)=(i:Int)+1:=ZG (by omega) (by omega)
    repeat first|refine cg ?_|simp -dsimp[w12]
    refine aG _ ?_ ((ih_f194 (i+1) o hF) _ rfl _ hq)
    exact(gT (by simp) (by simp_all))
  ·have z6:¬((i:Int)<(a.length:Int)):=auz
   cases hF
   repeat first|refine cg ?_|simp -dsimp[h4,q5,z6]
   refine lG _ (gT (by simp) (by simp_all)) hq
theorem C.f195 (a:List Int)(b:List Int)(r:Bool)(hF:F.f195 a b=some r):PureCall Tryz.prog B 16 [am cI a,am cI b] (.lit (.bool r)):=by
 unfold F.f195 at hF
 refine pE Tryz.func16 (by kernel_rfl) rfl Tryz.ntmps16 (by simp) (by simp) ?_
 repeat first|refine cg ?_|simp -dsimp
 revert hF;refine aN ?_ ?_<;>intro h1 q2 hF
 ·have z3:¬((a.length:Int)=(b.length:Int)):=auz
  cases hF
  repeat first|refine cg ?_|simp -dsimp[h1,q2,z3]
 ·have z3:((a.length:Int)=(b.length:Int)):=auz
  repeat first|refine cg ?_|simp -dsimp
  obtain⟨o',ho13,hF⟩:=ob hF
  refine ALoop.goU _ ?_ (((CC.f194 B hB1 hB2 a b) 0 o' ho13) _ rfl _ ?_)
  ·exact(gT (by simp) (by simp_all))
  rcases o' with r0|sx
  ·dsimp only at hF
   cases hF
   intro st h
   simpa using h
  ·dsimp only at hF
   cases hF
   repeat first|refine cg ?_|simp -dsimp
theorem CC.f196 (a:Tree)(b:Tree):(∀(i:Nat) (o:Lo Bool Unit),F.f196 a b i=some o->∀(c:Code),ZY [1,1,0,1,0,0] (ZK Tryz.f7)=some c->∀(Q:Exit->ASt->Prop),o.post (fun r=>∀st,ZAh Tryz.prog Tryz.f7 (fun r' _=>r'.le (.lit (.bool r))) .ret st->Q .ret st) (fun s=>Q (.exit 0) ⟨[(2,.ptr 0 0),(3,.ptr 1 0)],[.cells [li a.op,li a.clause,am PathBind.c a.binds,am cI a.path,am Branch.c a.branches,am Tree.c a.els],.cells [li b.op,li b.clause,am PathBind.c b.binds,am cI b.path,am Branch.c b.branches,am Tree.c b.els]]⟩)->ALoopU Tryz.prog B 0 156 (hold c .mk) ⟨[(2,.ptr 0 0),(3,.ptr 1 0),(5,li (i:Int))],[.cells [li a.op,li a.clause,am PathBind.c a.binds,am cI a.path,am Branch.c a.branches,am Tree.c a.els],.cells [li b.op,li b.clause,am PathBind.c b.binds,am cI b.path,am Branch.c b.branches,am Tree.c b.els]]⟩ (hold Q .mk)):=by
 refine F.f196.partial_correctness a b
  _
  ?_
 ·intro _f_f196 ih_f196 i o hF
  intro c hc Q hq
  obtain rfl:c=_:=ZM hc rfl
  refine kN fun hk hs=> ?_
  have d0:=hs 0 _ rfl
  simp -dsimp[Blk.bnd]at d0
  have d1:=hs 1 _ rfl
  simp -dsimp[Blk.bnd]at d1
  clear hk hs
  refine eN ?_
  repeat first|refine cg ?_|simp -dsimp
  revert hF;refine aS ?_ ?_<;>intro h17 q18 hF
  ·have z19:((i:Int)<(a.binds.length:Int)):=auz
   repeat first|refine cg ?_|simp -dsimp[h17,z19]
   refine ADraw.simple follows (by kernel_rfl) (by kernel_rfl) ?_
   obtain⟨x,e20,hF⟩:=ob hF
   have le20:=ZB e20
   obtain⟨x21,e22,hF⟩:=ob hF
   have le22:=ZB e22
   repeat first|refine cg ?_|simp -dsimp[h17,z19,↓e20,↓e22]
   revert hF;refine aS ?_ ?_<;>intro h23 q24 hF
   ·repeat first|refine cg ?_|simp -dsimp[h17,z19,↓e20,↓e22,h23]
    obtain⟨v25,e26,hF⟩:=ob hF
    refine((C.f195 B hB1 hB2 x.path x21.path v25 e26)).pgoW (by simp[h17,z19,↓e20,↓e22,h23]) (by simp) ?_
    repeat first|refine cg ?_|simp -dsimp[h17,z19,↓e20,↓e22,h23]
    revert hF;refine aN (fun h27 q28 hF=> ?_) (fun h27 q28 hF=> ?_)
    ·cases hF
     repeat first|refine cg ?_|simp -dsimp[h17,z19,↓e20,↓e22,h23,h27,q28]
     refine lG _ (gR _) (hq _ ?_)
     repeat first|refine cg ?_|simp -dsimp[h17,z19,↓e20,↓e22,h23,h27,q28]
    ·have w29:i64.wrap ((i:Int)+1)=(i:Int)+1:=ZG (by omega) (by omega)
     repeat first|refine cg ?_|simp -dsimp[h17,z19,↓e20,↓e22,h23,h27,q28,w29]
     refine aG _ ?_ ((ih_f196 (i+1) o hF) _ rfl _ hq)
     exact(gT (by simp) (by simp -dsimp[h17,z19,↓e20,↓e22,h23,h27,q28,w29]))
   ·cases hF
    repeat first|refine cg ?_|simp -dsimp[h17,z19,↓e20,↓e22,h23,q24]
    refine lG _ (gR _) (hq _ ?_)
    repeat first|refine cg ?_|simp -dsimp[h17,z19,↓e20,↓e22,h23,q24]
  ·have z19:¬((i:Int)<(a.binds.length:Int)):=auz
   cases hF
   repeat first|refine cg ?_|simp -dsimp[h17,q18,z19]
   refine lG _ (gT (by simp) (by simp -dsimp[h17,q18,z19])) hq
theorem CC.f197  :(∀(a:Tree) (b:Tree) (r:Bool),F.f197 a b=some r->PureCall Tryz.prog B 7 [.agg [li a.op,li a.clause,am PathBind.c a.binds,am cI a.path,am Branch.c a.branches,am Tree.c a.els],.agg [li b.op,li b.clause,am PathBind.c b.binds,am cI b.path,am Branch.c b.branches,am Tree.c b.els]] (.lit (.bool r)))/\
  (∀(a:Tree) (b:Tree) (i53:Nat) (o:Lo Bool Unit),F.f199 a b i53=some o->∀(c:Code),ZY [1,1,1,1,0,1,0,0] (ZK Tryz.f7)=some c->∀(Q:Exit->ASt->Prop),o.post (fun r=>∀st,ZAh Tryz.prog Tryz.f7 (fun r' _=>r'.le (.lit (.bool r))) .ret st->Q .ret st) (fun s=>Q (.exit 4) ⟨[],[]⟩)->ALoopU Tryz.prog B 0 156 (hold c .mk) ⟨[(2,.ptr 0 0),(3,.ptr 1 0),(9,li (i53:Int))],[.cells [li a.op,li a.clause,am PathBind.c a.binds,am cI a.path,am Branch.c a.branches,am Tree.c a.els],.cells [li b.op,li b.clause,am PathBind.c b.binds,am cI b.path,am Branch.c b.branches,am Tree.c b.els]]⟩ (hold Q .mk))/\
  (∀(a:Tree) (b:Tree) (i31:Nat) (o:Lo Bool Unit),F.f198 a b i31=some o->∀(c:Code),ZY [1,1,1,0,1,0,0] (ZK Tryz.f7)=some c->∀(Q:Exit->ASt->Prop),o.post (fun r=>∀st,ZAh Tryz.prog Tryz.f7 (fun r' _=>r'.le (.lit (.bool r))) .ret st->Q .ret st) (fun s=>Q (.exit 2) ⟨[(2,.ptr 0 0),(3,.ptr 1 0)],[.cells [li a.op,li a.clause,am PathBind.c a.binds,am cI a.path,am Branch.c a.branches,am Tree.c a.els],.cells [li b.op,li b.clause,am PathBind.c b.binds,am cI b.path,am Branch.c b.branches,am Tree.c b.els]]⟩)->ALoopU Tryz.prog B 0 156 (hold c .mk) ⟨[(2,.ptr 0 0),(3,.ptr 1 0),(6,li (i31:Int))],[.cells [li a.op,li a.clause,am PathBind.c a.binds,am cI a.path,am Branch.c a.branches,am Tree.c a.els],.cells [li b.op,li b.clause,am PathBind.c b.binds,am cI b.path,am Branch.c b.branches,am Tree.c b.els]]⟩ (hold Q .mk)):=by
 refine F.f197.mutual_partial_correctness 
  _ _ _
  ?_ ?_ ?_
 ·intro _f_f199 _f_f198 ih_f199 ih_f198 a b r hF
  refine pE Tryz.func7 (by kernel_rfl) rfl Tryz.ntmps7 (by simp) (by simp) ?_
  repeat first|refine cg ?_|simp -dsimp
  revert hF;refine aS ?_ ?_<;>intro h1 q2 hF
  ·repeat first|refine cg ?_|simp -dsimp[h1]
   revert hF;refine aS ?_ ?_<;>intro h3 q4 hF
   ·repeat first|refine cg ?_|simp -dsimp[h1,h3]
    have hF:=ob hF;obtain⟨v,e5,hF⟩:=hF
    refine((C.f195 B hB1 hB2 a.path b.path v e5)).goW (by simp[h1,h3]) (by simp) ?_
    repeat first|refine cg ?_|simp -dsimp[h1,h3]
    revert hF;refine aS (fun h6 q7 hF=> ?_) (fun h6 q7 hF=> ?_)
    ·repeat first|refine cg ?_|simp -dsimp[h1,h3,h6]
     revert hF;refine aS ?_ ?_<;>intro h8 q9 hF
     ·have z10:((a.binds.length:Int)=(b.binds.length:Int)):=auz
      repeat first|refine cg ?_|simp -dsimp[h1,h3,h6,h8,z10]
      revert hF;refine aS ?_ ?_<;>intro h11 q12 hF
      ·have z13:((a.branches.length:Int)=(b.branches.length:Int)):=auz
       repeat first|refine cg ?_|simp -dsimp[h1,h3,h6,h8,z10,h11,z13]
       revert hF;refine aN ?_ ?_<;>intro h14 q15 hF
       ·have z16:¬((a.els.length:Int)=(b.els.length:Int)):=auz
        cases hF
        repeat first|refine cg ?_|simp -dsimp[h1,h3,h6,h8,z10,h11,z13,h14,q15,z16]
       ·have z16:((a.els.length:Int)=(b.els.length:Int)):=auz
        repeat first|refine cg ?_|simp -dsimp[h1,h3,h6,h8,z10,h11,z13,h14,q15,z16]
        have hF:=ob hF;obtain⟨o',ho30,hF⟩:=hF
        refine ALoop.goU _ ?_ (((CC.f196 B hB1 hB2 a b) 0 o' ho30) _ rfl _ ?_)
        ·exact(gT (by simp) (by simp -dsimp[h1,h3,h6,h8,z10,h11,z13,h14,q15,z16]))
        rcases o' with r070|sx
        ·dsimp only at hF
         cases hF
         intro st h
         simpa using h
        ·dsimp only at hF
         repeat first|refine cg ?_|simp -dsimp
         have hF:=ob hF;obtain⟨o'51,ho50,hF⟩:=hF
         refine ALoop.goU _ ?_ ((ih_f198 a b 0 o'51 ho50) _ rfl _ ?_)
         ·exact(gT (by simp) (by simp -dsimp))
         rcases o'51 with r069|sx52
         ·dsimp only at hF
          cases hF
          intro st h
          simpa using h
         ·dsimp only at hF
          repeat first|refine cg ?_|simp -dsimp
          have hF:=ob hF;obtain⟨o'67,ho66,hF⟩:=hF
          refine ALoop.goU _ ?_ ((ih_f199 a b 0 o'67 ho66) _ rfl _ ?_)
          ·exact(gT (by simp) (by simp -dsimp))
          rcases o'67 with r0|sx68
          ·dsimp only at hF
           cases hF
           intro st h
           simpa using h
          ·dsimp only at hF
           cases hF
           repeat first|refine cg ?_|simp -dsimp
      ·have z13:¬((a.branches.length:Int)=(b.branches.length:Int)):=auz
       cases hF
       repeat first|refine cg ?_|simp -dsimp[h1,h3,h6,h8,z10,h11,q12,z13]
     ·have z10:¬((a.binds.length:Int)=(b.binds.length:Int)):=auz
      cases hF
      repeat first|refine cg ?_|simp -dsimp[h1,h3,h6,h8,q9,z10]
    ·cases hF
     repeat first|refine cg ?_|simp -dsimp[h1,h3,h6,q7]
   ·cases hF
    repeat first|refine cg ?_|simp -dsimp[h1,h3,q4]
  ·cases hF
   repeat first|refine cg ?_|simp -dsimp[h1,q2]
 ·intro _f_f197 _f_f199 ih_f197 ih_f199 a b i53 o hF
  intro c hc Q hq
  obtain rfl:c=_:=ZM hc rfl
  refine kN fun hk hs=> ?_
  have d0:=hs 0 _ rfl
  simp -dsimp[Blk.bnd]at d0
  have d1:=hs 1 _ rfl
  simp -dsimp[Blk.bnd]at d1
  clear hk hs
  refine eN ?_
  repeat first|refine cg ?_|simp -dsimp
  revert hF;refine aS ?_ ?_<;>intro h54 q55 hF
  ·have z56:((i53:Int)<(a.els.length:Int)):=auz
   repeat first|refine cg ?_|simp -dsimp[h54,z56]
   refine ADraw.simple follows (by kernel_rfl) (by kernel_rfl) ?_
   have hF:=ob hF;obtain⟨x57,e58,hF⟩:=hF
   have le58:=ZB e58
   have hF:=ob hF;obtain⟨x59,e60,hF⟩:=hF
   have le60:=ZB e60
   repeat first|refine cg ?_|simp -dsimp[h54,z56,↓e58,↓e60]
   have hF:=ob hF;obtain⟨v61,e62,hF⟩:=hF
   refine((ih_f197 x57 x59 v61 e62)).pgoW (by simp[h54,z56,↓e58,↓e60]) (by simp) ?_
   repeat first|refine cg ?_|simp -dsimp[h54,z56,↓e58,↓e60]
   revert hF;refine aN (fun h63 q64 hF=> ?_) (fun h63 q64 hF=> ?_)
   ·cases hF
    repeat first|refine cg ?_|simp -dsimp[h54,z56,↓e58,↓e60,h63,q64]
    refine lG _ (gR _) (hq _ ?_)
    repeat first|refine cg ?_|simp -dsimp[h54,z56,↓e58,↓e60,h63,q64]
   ·have w65:i64.wrap ((i53:Int)+1)=(i53:Int)+1:=ZG (by omega) (by omega)
    repeat first|refine cg ?_|simp -dsimp[h54,z56,↓e58,↓e60,h63,q64,w65]
    refine aG _ ?_ ((ih_f199 a b (i53+1) o hF) _ rfl _ hq)
    exact(gT (by simp) (by simp -dsimp[h54,z56,↓e58,↓e60,h63,q64,w65]))
  ·have z56:¬((i53:Int)<(a.els.length:Int)):=auz
   cases hF
   repeat first|refine cg ?_|simp -dsimp[h54,q55,z56]
   refine lG _ (gT (by simp) (by simp -dsimp[h54,q55,z56])) hq
 ·intro _f_f197 _f_f198 ih_f197 ih_f198 a b i31 o hF
  intro c hc Q hq
  obtain rfl:c=_:=ZM hc rfl
  refine kN fun hk hs=> ?_
  have d0:=hs 0 _ rfl
  simp -dsimp[Blk.bnd]at d0
  have d1:=hs 1 _ rfl
  simp -dsimp[Blk.bnd]at d1
  clear hk hs
  refine eN ?_
  repeat first|refine cg ?_|simp -dsimp
  revert hF;refine aS ?_ ?_<;>intro h32 q33 hF
  ·have z34:((i31:Int)<(a.branches.length:Int)):=auz
   have hF:=ob hF;obtain⟨x35,e36,hF⟩:=hF
   have le36:=ZB e36
   have hF:=ob hF;obtain⟨x37,e38,hF⟩:=hF
   have le38:=ZB e38
   repeat first|refine cg ?_|simp -dsimp[h32,z34,↓e36,↓e38]
   revert hF;refine aS ?_ ?_<;>intro h39 q40 hF
   ·repeat first|refine cg ?_|simp -dsimp[h32,z34,↓e36,↓e38,h39]
    revert hF;refine aS ?_ ?_<;>intro h41 q42 hF
    ·repeat first|refine cg ?_|simp -dsimp[h32,z34,↓e36,↓e38,h39,h41]
     revert hF;refine aS ?_ ?_<;>intro h43 q44 hF
     ·repeat first|refine cg ?_|simp -dsimp[h32,z34,↓e36,↓e38,h39,h41,h43]
      have hF:=ob hF;obtain⟨v45,e46,hF⟩:=hF
      refine((ih_f197 x35.tree x37.tree v45 e46)).goW (by simp[h32,z34,↓e36,↓e38,h39,h41,h43]) (by simp) ?_
      repeat first|refine cg ?_|simp -dsimp[h32,z34,↓e36,↓e38,h39,h41,h43]
      revert hF;refine aN (fun h47 q48 hF=> ?_) (fun h47 q48 hF=> ?_)
      ·cases hF
       repeat first|refine cg ?_|simp -dsimp[h32,z34,↓e36,↓e38,h39,h41,h43,h47,q48]
       refine lG _ (gR _) (hq _ ?_)
       repeat first|refine cg ?_|simp -dsimp[h32,z34,↓e36,↓e38,h39,h41,h43,h47,q48]
      ·have w49:i64.wrap ((i31:Int)+1)=(i31:Int)+1:=ZG (by omega) (by omega)
       repeat first|refine cg ?_|simp -dsimp[h32,z34,↓e36,↓e38,h39,h41,h43,h47,q48,w49]
       refine aG _ ?_ ((ih_f198 a b (i31+1) o hF) _ rfl _ hq)
       exact(gT (by simp) (by simp -dsimp[h32,z34,↓e36,↓e38,h39,h41,h43,h47,q48,w49]))
     ·cases hF
      repeat first|refine cg ?_|simp -dsimp[h32,z34,↓e36,↓e38,h39,h41,h43,q44]
      refine lG _ (gR _) (hq _ ?_)
      repeat first|refine cg ?_|simp -dsimp[h32,z34,↓e36,↓e38,h39,h41,h43,q44]
    ·cases hF
     repeat first|refine cg ?_|simp -dsimp[h32,z34,↓e36,↓e38,h39,h41,q42]
     refine lG _ (gR _) (hq _ ?_)
     repeat first|refine cg ?_|simp -dsimp[h32,z34,↓e36,↓e38,h39,h41,q42]
   ·cases hF
    repeat first|refine cg ?_|simp -dsimp[h32,z34,↓e36,↓e38,h39,q40]
    refine lG _ (gR _) (hq _ ?_)
    repeat first|refine cg ?_|simp -dsimp[h32,z34,↓e36,↓e38,h39,q40]
  ·have z34:¬((i31:Int)<(a.branches.length:Int)):=auz
   cases hF
   repeat first|refine cg ?_|simp -dsimp[h32,q33,z34]
   refine lG _ (gT (by simp) (by simp -dsimp[h32,q33,z34])) hq
theorem CC.f200 (x:Tree):(∀(out:List Tree) (i:Nat) (o:List Tree),F.f200 x out i=some o->∀(c:Code),ZY [1,1,0,1,0,0] (ZK Tryz.f19)=some c->∀(Q:Exit->ASt->Prop),(Q (.exit 0) ⟨[(1,.ptr 0 0),(3,.own 1 (List.length (α:=Tree) o))],[.cells [li x.op,li x.clause,am PathBind.c x.binds,am cI x.path,am Branch.c x.branches,am Tree.c x.els],.elems 6 (List.map Tree.c o)]⟩)->ALoopU Tryz.prog B 0 23 (hold c .mk) ⟨[(1,.ptr 0 0),(3,.own 1 (List.length (α:=Tree) out)),(7,am Branch.c x.branches),(8,li (x.branches.length:Int)),(9,li (i:Int))],[.cells [li x.op,li x.clause,am PathBind.c x.binds,am cI x.path,am Branch.c x.branches,am Tree.c x.els],.elems 6 (List.map Tree.c out)]⟩ (hold Q .mk)):=by
 refine F.f200.partial_correctness x
  _
  ?_
 ·intro _f_f200 ih_f200 out i o hF
  intro c hc Q hq
  obtain rfl:c=_:=ZM hc rfl
  refine kN fun hk hs=> ?_
  have b7:=hk 7
  simp -dsimp at b7
  have d0:=hs 0 _ rfl
  simp -dsimp[Blk.bnd]at d0
  have d1:=hs 1 _ rfl
  simp -dsimp[Blk.bnd]at d1
  clear hk hs
  refine eN ?_
  repeat first|refine cg ?_|simp -dsimp
  revert hF;refine aS ?_ ?_<;>intro h1 q2 hF
  ·have z3:((i:Int)<(x.branches.length:Int)):=auz
   obtain⟨x4,e5,hF⟩:=ob hF
   have le5:=ZB e5
   obtain⟨c6,hF⟩:=oc hF
   have w7:i64.wrap ((i:Int)+1)=(i:Int)+1:=ZG (by omega) (by omega)
   repeat first|refine cg ?_|simp -dsimp[h1,z3,↓e5,w7]
   refine aG _ ?_ ((ih_f200 (out++[x4.tree]) (i+1) o hF) _ rfl _ hq)
   exact(gT (by simp) (by simp_all))
  ·have z3:¬((i:Int)<(x.branches.length:Int)):=auz
   cases hF
   repeat first|refine cg ?_|simp -dsimp[h1,q2,z3]
   refine lG _ (gT (by simp) (by simp_all)) hq
theorem C.f201 (x:Tree)(r:List Tree)(hF:F.f201 x=some r):PureCall Tryz.prog B 19 [.agg [li x.op,li x.clause,am PathBind.c x.binds,am cI x.path,am Branch.c x.branches,am Tree.c x.els]] (am Tree.c r):=by
 unfold F.f201 at hF
 refine pE Tryz.func19 (by kernel_rfl) rfl Tryz.ntmps19 (by simp) (by simp) ?_
 repeat first|refine cg ?_|simp -dsimp
 obtain⟨o',ho8,hF⟩:=ob hF
 refine ALoop.goU ⟨[(1,.ptr 0 0),(3,.own 1 (List.length (α:=Tree) [])),(7,.arr (List.map Branch.c x.branches)),(8,.lit (.int .i64 (x.branches.length:Int))),(9,.lit (.int .i64 0))],[.cells [.lit (.int .i64 x.op),.lit (.int .i64 x.clause),.arr (List.map PathBind.c x.binds),.arr (List.map cI x.path),.arr (List.map Branch.c x.branches),.arr (List.map Tree.c x.els)],.elems 6 (List.map Tree.c [])]⟩ (by refine Gh.trans (Gh.nil 3 6 (by simp -dsimp)) ?_;exact(gT (by simp) (by simp -dsimp))) ?_
 refine((CC.f200 B hB1 hB2 x) [] 0 o' ho8) _ rfl _ ?_
 obtain⟨c9,hF⟩:=oc hF
 cases hF
 repeat first|refine cg ?_|simp -dsimp
theorem CC.f202  :(∀(x:Tree) (r:Int),F.f202 x=some r->PureCall Tryz.prog B 9 [.agg [li x.op,li x.clause,am PathBind.c x.binds,am cI x.path,am Branch.c x.branches,am Tree.c x.els]] (li r))/\
  (∀(v:List Tree) (n:Int) (i:Nat) (o:Int),F.f203 v n i=some o->∀(c:Code),ZY [1,1,0,1,0,0] (ZK Tryz.f9)=some c->∀(Q:Exit->ASt->Prop),(Q (.exit 0) ⟨[(3,li o)],[]⟩)->ALoopU Tryz.prog B 0 19 (hold c .mk) ⟨[(3,li n),(7,am Tree.c v),(8,li (v.length:Int)),(9,li (i:Int))],[]⟩ (hold Q .mk)):=by
 refine F.f202.mutual_partial_correctness 
  _ _
  ?_ ?_
 ·intro _f_f203 ih_f203 x r hF
  refine pE Tryz.func9 (by kernel_rfl) rfl Tryz.ntmps9 (by simp) (by simp) ?_
  repeat first|refine cg ?_|simp -dsimp
  obtain⟨v,e1,hF⟩:=ob hF
  refine((C.f201 B hB1 hB2 x v e1)).goW (by simp) (by simp) ?_
  repeat first|refine cg ?_|simp -dsimp
  obtain⟨o',ho10,hF⟩:=ob hF
  refine ALoop.goU _ ?_ ((ih_f203 v 1 0 o' ho10) _ rfl _ ?_)
  ·exact(gT (by simp) (by simp -dsimp))
  cases hF
  repeat first|refine cg ?_|simp -dsimp
 ·intro _f_f202 _f_f203 ih_f202 ih_f203 v n i o hF
  intro c hc Q hq
  obtain rfl:c=_:=ZM hc rfl
  refine kN fun hk hs=> ?_
  have b7:=hk 7
  simp -dsimp at b7
  clear hk hs
  refine eN ?_
  repeat first|refine cg ?_|simp -dsimp
  revert hF;refine aS ?_ ?_<;>intro h2 q3 hF
  ·have z4:((i:Int)<(v.length:Int)):=auz
   obtain⟨x5,e6,hF⟩:=ob hF
   have le6:=ZB e6
   repeat first|refine cg ?_|simp -dsimp[h2,z4,↓e6]
   obtain⟨v7,e8,hF⟩:=ob hF
   refine((ih_f202 x5 v7 e8)).goW (by simp_all) (by simp) ?_
   have w9:i64.wrap ((i:Int)+1)=(i:Int)+1:=ZG (by omega) (by omega)
   repeat first|refine cg ?_|simp -dsimp[w9]
   refine aG _ ?_ ((ih_f203 v (i64.wrap (n+v7)) (i+1) o hF) _ rfl _ hq)
   exact(gT (by simp) (by simp_all))
  ·have z4:¬((i:Int)<(v.length:Int)):=auz
   cases hF
   repeat first|refine cg ?_|simp -dsimp[h2,q3,z4]
   refine lG _ (gT (by simp) (by simp_all)) hq
theorem CC.f204  :(∀(x:Tree) (r:Bool),F.f204 x=some r->PureCall Tryz.prog B 17 [.agg [li x.op,li x.clause,am PathBind.c x.binds,am cI x.path,am Branch.c x.branches,am Tree.c x.els]] (.lit (.bool r)))/\
  (∀(s:List Tree) (r:Bool),F.f206 s=some r->PureCall Tryz.prog B 32 [am Tree.c s,.fn (.func 33) [] []] (.lit (.bool r)))/\
  (∀(s:List Tree) (r:Int),F.f207 s=some r->PureCall Tryz.prog B 43 [am Tree.c s,.fn (.func 33) [] []] (li r))/\
  (∀(s:List Tree) (i:Nat) (o:Lo Int Unit),F.f208 s i=some o->∀(c:Code),ZY [1,0,1,0,0] (ZK Tryz.f43)=some c->∀(Q:Exit->ASt->Prop),o.post (fun r=>∀st,ZAh Tryz.prog Tryz.f43 (fun r' _=>r'.le (li r)) .ret st->Q .ret st) (fun s=>Q (.exit 0) ⟨[],[]⟩)->ALoopU Tryz.prog B 0 19 (hold c .mk) ⟨[(0,am Tree.c s),(1,.fn (.func 33) [] []),(7,li (s.length:Int)),(8,li (i:Int))],[]⟩ (hold Q .mk))/\
  (∀(y:Tree) (r:Bool),F.f205 y=some r->PureCall Tryz.prog B 33 [.agg [li y.op,li y.clause,am PathBind.c y.binds,am cI y.path,am Branch.c y.branches,am Tree.c y.els]] (.lit (.bool r))):=by
 refine F.f204.mutual_partial_correctness 
  _ _ _ _ _
  ?_ ?_ ?_ ?_ ?_
 ·intro _f_f206 ih_f206 x r hF
  refine pE Tryz.func17 (by kernel_rfl) rfl Tryz.ntmps17 (by simp) (by simp) ?_
  repeat first|refine cg ?_|simp -dsimp
  have hF:=ob hF;obtain⟨v,e1,hF⟩:=hF
  refine((C.f172 B hB1 hB2 x.op 0 2 v e1)).goW (by simp) (by simp) ?_
  repeat first|refine cg ?_|simp -dsimp
  revert hF;refine aS (fun h2 q3 hF=> ?_) (fun h2 q3 hF=> ?_)
  ·repeat first|refine cg ?_|simp -dsimp[h2]
   revert hF;refine aS ?_ ?_<;>intro h4 q5 hF
   ·have z6:((x.branches.length:Int)<=10):=auz
    repeat first|refine cg ?_|simp -dsimp[h2,h4,z6]
    revert hF;refine aS ?_ ?_<;>intro h7 q8 hF
    ·have z9:((x.els.length:Int)<=1):=auz
     repeat first|refine cg ?_|simp -dsimp[h2,h4,z6,h7,z9]
     have hF:=ob hF;obtain⟨v10,e11,hF⟩:=hF
     refine((C.f201 B hB1 hB2 x v10 e11)).goW (by simp[h2,h4,z6,h7,z9]) (by simp) ?_
     repeat first|refine cg ?_|simp -dsimp[h2,h4,z6,h7,z9]
     have hF:=ob hF;obtain⟨v12,e13,hF⟩:=hF
     refine((ih_f206 v10 v12 e13)).goW (by simp[h2,h4,z6,h7,z9]) (by simp) ?_
     cases hF
     repeat first|refine cg ?_|simp -dsimp[h2,h4,z6,h7,z9]
    ·have z9:¬((x.els.length:Int)<=1):=auz
     cases hF
     repeat first|refine cg ?_|simp -dsimp[h2,h4,z6,h7,q8,z9]
   ·have z6:¬((x.branches.length:Int)<=10):=auz
    cases hF
    repeat first|refine cg ?_|simp -dsimp[h2,h4,q5,z6]
  ·cases hF
   repeat first|refine cg ?_|simp -dsimp[h2,q3]
 ·intro _f_f207 ih_f207 s r hF
  refine pE Tryz.func32 (by kernel_rfl) rfl Tryz.ntmps32 (by simp) (by simp) ?_
  repeat first|refine cg ?_|simp -dsimp
  have hF:=ob hF;obtain⟨v,e1,hF⟩:=hF
  refine((ih_f207 s v e1)).goW (by simp) (by simp) ?_
  cases hF
  repeat first|refine cg ?_|simp -dsimp
 ·intro _f_f208 ih_f208 s r hF
  refine pE Tryz.func43 (by kernel_rfl) rfl Tryz.ntmps43 (by simp) (by simp) ?_
  repeat first|refine cg ?_|simp -dsimp
  have hF:=ob hF;obtain⟨o',ho9,hF⟩:=hF
  refine ALoop.goU _ ?_ ((ih_f208 s 0 o' ho9) _ rfl _ ?_)
  ·exact(gT (by simp) (by simp -dsimp))
  rcases o' with r0|sx
  ·dsimp only at hF
   cases hF
   intro st h
   simpa using h
  ·dsimp only at hF
   cases hF
   repeat first|refine cg ?_|simp -dsimp
 ·intro _f_f208 _f_f205 ih_f208 ih_f205 s i o hF
  intro c hc Q hq
  obtain rfl:c=_:=ZM hc rfl
  refine kN fun hk hs=> ?_
  have b0:=hk 0
  simp -dsimp at b0
  clear hk hs
  refine eN ?_
  repeat first|refine cg ?_|simp -dsimp
  revert hF;refine aS ?_ ?_<;>intro h1 q2 hF
  ·have z3:((i:Int)<(s.length:Int)):=auz
   have hF:=ob hF;obtain⟨x,e4,hF⟩:=hF
   have le4:=ZB e4
   repeat first|refine cg ?_|simp -dsimp[h1,z3,↓e4]
   have hF:=ob hF;obtain⟨v,e5,hF⟩:=hF
   refine((ih_f205 x v e5)).goW (by simp[h1,z3,↓e4]) (by simp) ?_
   repeat first|refine cg ?_|simp -dsimp[h1,z3,↓e4]
   revert hF;refine aS (fun h6 q7 hF=> ?_) (fun h6 q7 hF=> ?_)
   ·cases hF
    repeat first|refine cg ?_|simp -dsimp[h1,z3,↓e4,h6]
    refine lG _ (gR _) (hq _ ?_)
    repeat first|refine cg ?_|simp -dsimp[h1,z3,↓e4,h6]
   ·have w8:i64.wrap ((i:Int)+1)=(i:Int)+1:=ZG (by omega) (by omega)
    repeat first|refine cg ?_|simp -dsimp[h1,z3,↓e4,h6,q7,w8]
    refine aG _ ?_ ((ih_f208 s (i+1) o hF) _ rfl _ hq)
    exact(gT (by simp) (by simp -dsimp[h1,z3,↓e4,h6,q7,w8]))
  ·have z3:¬((i:Int)<(s.length:Int)):=auz
   cases hF
   repeat first|refine cg ?_|simp -dsimp[h1,q2,z3]
   refine lG _ (gT (by simp) (by simp -dsimp[h1,q2,z3])) hq
 ·intro _f_f204 ih_f204 y r hF
  refine pE Tryz.func33 (by kernel_rfl) rfl Tryz.ntmps33 (by simp) (by simp) ?_
  repeat first|refine cg ?_|simp -dsimp
  have hF:=ob hF;obtain⟨v,e1,hF⟩:=hF
  refine((ih_f204 y v e1)).goW (by simp) (by simp) ?_
  cases hF
  repeat first|refine cg ?_|simp -dsimp
theorem CC.f209 (s1:List Int)(s2:List Int):(∀(i:Nat) (o:Lo Bool Unit),F.f209 s1 s2 i=some o->∀(c:Code),ZY [1,1,0,1,0,0] (ZK Tryz.f45)=some c->∀(Q:Exit->ASt->Prop),o.post (fun r=>∀st,ZAh Tryz.prog Tryz.f45 (fun r' _=>r'.le (.lit (.bool r))) .ret st->Q .ret st) (fun s=>Q (.exit 0) ⟨[],[]⟩)->ALoopU Tryz.prog B 0 26 (hold c .mk) ⟨[(0,am cI s1),(1,am cI s2),(12,li (s1.length:Int)),(13,li (i:Int))],[]⟩ (hold Q .mk)):=by
 refine F.f209.partial_correctness s1 s2
  _
  ?_
 ·intro _f_f209 ih_f209 i o hF
  intro c hc Q hq
  obtain rfl:c=_:=ZM hc rfl
  refine kN fun hk hs=> ?_
  have b0:=hk 0
  simp -dsimp at b0
  have b1:=hk 1
  simp -dsimp at b1
  clear hk hs
  refine eN ?_
  repeat first|refine cg ?_|simp -dsimp
  revert hF;refine aS ?_ ?_<;>intro h4 q5 hF
  ·have z6:((i:Int)<(s1.length:Int)):=auz
   repeat first|refine cg ?_|simp -dsimp[h4,z6]
   refine ADraw.simple follows (by kernel_rfl) (by kernel_rfl) ?_
   obtain⟨x,e7,hF⟩:=ob hF
   have le7:=ZB e7
   obtain⟨x8,e9,hF⟩:=ob hF
   have le9:=ZB e9
   repeat first|refine cg ?_|simp -dsimp[↓e7,↓e9]
   revert hF;refine aN ?_ ?_<;>intro h10 q11 hF
   ·cases hF
    repeat first|refine cg ?_|simp -dsimp[h10,q11]
    refine lG _ (gR _) (hq _ ?_)
    repeat first|refine cg ?_|simp -dsimp
   ·have w12:i64.wrap ((i:Int)+1)=(i:Int)+1:=ZG (by omega) (by omega)
    repeat first|refine cg ?_|simp -dsimp[w12]
    refine aG _ ?_ ((ih_f209 (i+1) o hF) _ rfl _ hq)
    exact(gT (by simp) (by simp_all))
  ·have z6:¬((i:Int)<(s1.length:Int)):=auz
   cases hF
   repeat first|refine cg ?_|simp -dsimp[h4,q5,z6]
   refine lG _ (gT (by simp) (by simp_all)) hq
theorem C.f210 (s1:List Int)(s2:List Int)(r:Bool)(hF:F.f210 s1 s2=some r):PureCall Tryz.prog B 45 [am cI s1,am cI s2] (.lit (.bool r)):=by
 unfold F.f210 at hF
 refine pE Tryz.func45 (by kernel_rfl) rfl Tryz.ntmps45 (by simp) (by simp) ?_
 repeat first|refine cg ?_|simp -dsimp
 revert hF;refine aN ?_ ?_<;>intro h1 q2 hF
 ·have z3:¬((s1.length:Int)=(s2.length:Int)):=auz
  cases hF
  repeat first|refine cg ?_|simp -dsimp[h1,q2,z3]
 ·have z3:((s1.length:Int)=(s2.length:Int)):=auz
  repeat first|refine cg ?_|simp -dsimp
  obtain⟨o',ho13,hF⟩:=ob hF
  refine ALoop.goU _ ?_ (((CC.f209 B hB1 hB2 s1 s2) 0 o' ho13) _ rfl _ ?_)
  ·exact(gT (by simp) (by simp_all))
  rcases o' with r0|sx
  ·dsimp only at hF
   cases hF
   intro st h
   simpa using h
  ·dsimp only at hF
   cases hF
   repeat first|refine cg ?_|simp -dsimp
theorem C.f211 (x:PathBind)(y:PathBind)(r:Bool)(hF:F.f211 x y=some r):PureCall Tryz.prog B 52 [.agg [li x.var,am cI x.path],.agg [li y.var,am cI y.path]] (.lit (.bool r)):=by
 unfold F.f211 at hF
 refine pE Tryz.func52 (by kernel_rfl) rfl Tryz.ntmps52 (by simp) (by simp) ?_
 repeat first|refine cg ?_|simp -dsimp
 revert hF;refine aS ?_ ?_<;>intro h1 q2 hF
 ·repeat first|refine cg ?_|simp -dsimp[h1]
  obtain⟨v,e3,hF⟩:=ob hF
  refine((C.f210 B hB1 hB2 x.path y.path v e3)).goW (by simp[h1]) (by simp) ?_
  cases hF
  repeat first|refine cg ?_|simp -dsimp[h1]
 ·cases hF
  repeat first|refine cg ?_|simp -dsimp[h1,q2]
theorem CC.f212 (s1:List PathBind)(s2:List PathBind):(∀(i:Nat) (o:Lo Bool Unit),F.f212 s1 s2 i=some o->∀(c:Code),ZY [1,1,0,1,0,0] (ZK Tryz.f51)=some c->∀(Q:Exit->ASt->Prop),o.post (fun r=>∀st,ZAh Tryz.prog Tryz.f51 (fun r' _=>r'.le (.lit (.bool r))) .ret st->Q .ret st) (fun s=>Q (.exit 0) ⟨[],[]⟩)->ALoopU Tryz.prog B 0 32 (hold c .mk) ⟨[(1,am PathBind.c s2),(2,.fn (.func 52) [] []),(15,am PathBind.c s1),(16,li (s1.length:Int)),(17,li (i:Int))],[]⟩ (hold Q .mk)):=by
 refine F.f212.partial_correctness s1 s2
  _
  ?_
 ·intro _f_f212 ih_f212 i o hF
  intro c hc Q hq
  obtain rfl:c=_:=ZM hc rfl
  refine kN fun hk hs=> ?_
  have b1:=hk 1
  simp -dsimp at b1
  have b15:=hk 15
  simp -dsimp at b15
  clear hk hs
  refine eN ?_
  repeat first|refine cg ?_|simp -dsimp
  revert hF;refine aS ?_ ?_<;>intro h4 q5 hF
  ·have z6:((i:Int)<(s1.length:Int)):=auz
   obtain⟨x,e7,hF⟩:=ob hF
   have le7:=ZB e7
   obtain⟨x8,e9,hF⟩:=ob hF
   have le9:=ZB e9
   repeat first|refine cg ?_|simp -dsimp[h4,z6,↓e7,↓e9]
   obtain⟨v,e10,hF⟩:=ob hF
   refine((C.f211 B hB1 hB2 x x8 v e10)).goW (by simp_all) (by simp) ?_
   repeat first|refine cg ?_|simp -dsimp
   revert hF;refine aN (fun h11 q12 hF=> ?_) (fun h11 q12 hF=> ?_)
   ·cases hF
    repeat first|refine cg ?_|simp -dsimp[h11,q12]
    refine lG _ (gR _) (hq _ ?_)
    repeat first|refine cg ?_|simp -dsimp
   ·have w13:i64.wrap ((i:Int)+1)=(i:Int)+1:=ZG (by omega) (by omega)
    repeat first|refine cg ?_|simp -dsimp[w13]
    refine aG _ ?_ ((ih_f212 (i+1) o hF) _ rfl _ hq)
    exact(gT (by simp) (by simp_all))
  ·have z6:¬((i:Int)<(s1.length:Int)):=auz
   cases hF
   repeat first|refine cg ?_|simp -dsimp[h4,q5,z6]
   refine lG _ (gT (by simp) (by simp_all)) hq
theorem C.f213 (s1:List PathBind)(s2:List PathBind)(r:Bool)(hF:F.f213 s1 s2=some r):PureCall Tryz.prog B 51 [am PathBind.c s1,am PathBind.c s2,.fn (.func 52) [] []] (.lit (.bool r)):=by
 unfold F.f213 at hF
 refine pE Tryz.func51 (by kernel_rfl) rfl Tryz.ntmps51 (by simp) (by simp) ?_
 repeat first|refine cg ?_|simp -dsimp
 revert hF;refine aN ?_ ?_<;>intro h1 q2 hF
 ·have z3:¬((s1.length:Int)=(s2.length:Int)):=auz
  cases hF
  repeat first|refine cg ?_|simp -dsimp[h1,q2,z3]
 ·have z3:((s1.length:Int)=(s2.length:Int)):=auz
  repeat first|refine cg ?_|simp -dsimp
  obtain⟨o',ho14,hF⟩:=ob hF
  refine ALoop.goU _ ?_ (((CC.f212 B hB1 hB2 s1 s2) 0 o' ho14) _ rfl _ ?_)
  ·exact(gT (by simp) (by simp_all))
  rcases o' with r0|sx
  ·dsimp only at hF
   cases hF
   intro st h
   simpa using h
  ·dsimp only at hF
   cases hF
   repeat first|refine cg ?_|simp -dsimp
theorem C.f214 (a:List PathBind)(b:List PathBind)(r:Bool)(hF:F.f214 a b=some r):PureCall Tryz.prog B 44 [am PathBind.c a,am PathBind.c b] (.lit (.bool r)):=by
 unfold F.f214 at hF
 refine pE Tryz.func44 (by kernel_rfl) rfl Tryz.ntmps44 (by simp) (by simp) ?_
 repeat first|refine cg ?_|simp -dsimp
 obtain⟨v,e1,hF⟩:=ob hF
 refine((C.f213 B hB1 hB2 a b v e1)).goW (by simp) (by simp) ?_
 cases hF
 repeat first|refine cg ?_|simp -dsimp
theorem CC.f215 (s1:List Vl.Edge)(s2:List Vl.Edge):(∀(i:Nat) (o:Lo Bool Unit),F.f215 s1 s2 i=some o->∀(c:Code),ZY [1,1,0,1,0,0] (ZK Tryz.f46)=some c->∀(Q:Exit->ASt->Prop),o.post (fun r=>∀st,ZAh Tryz.prog Tryz.f46 (fun r' _=>r'.le (.lit (.bool r))) .ret st->Q .ret st) (fun s=>Q (.exit 0) ⟨[],[]⟩)->ALoopU Tryz.prog B 0 26 (hold c .mk) ⟨[(0,am Vl.Edge.c s1),(1,am Vl.Edge.c s2),(12,li (s1.length:Int)),(13,li (i:Int))],[]⟩ (hold Q .mk)):=by
 refine F.f215.partial_correctness s1 s2
  _
  ?_
 ·intro _f_f215 ih_f215 i o hF
  intro c hc Q hq
  obtain rfl:c=_:=ZM hc rfl
  refine kN fun hk hs=> ?_
  have b0:=hk 0
  simp -dsimp at b0
  have b1:=hk 1
  simp -dsimp at b1
  clear hk hs
  refine eN ?_
  repeat first|refine cg ?_|simp -dsimp
  revert hF;refine aS ?_ ?_<;>intro h4 q5 hF
  ·have z6:((i:Int)<(s1.length:Int)):=auz
   repeat first|refine cg ?_|simp -dsimp[h4,z6]
   refine ADraw.simple follows (by kernel_rfl) (by kernel_rfl) ?_
   obtain⟨x,e7,hF⟩:=ob hF
   have le7:=ZB e7
   obtain⟨x8,e9,hF⟩:=ob hF
   have le9:=ZB e9
   repeat first|refine cg ?_|simp -dsimp[↓e7,↓e9]
   revert hF;refine aN (fun h10 q11 hF=> ?_) (fun h10 q11 hF=> ?_)
   ·cases hF
    repeat first|refine cg ?_|simp -dsimp[h10,q11]
    refine lG _ (gR _) (hq _ ?_)
    repeat first|refine cg ?_|simp -dsimp
   ·have w12:i64.wrap ((i:Int)+1)=(i:Int)+1:=ZG (by omega) (by omega)
    repeat first|refine cg ?_|simp -dsimp[w12]
    refine aG _ ?_ ((ih_f215 (i+1) o hF) _ rfl _ hq)
    exact(gT (by simp) (by simp_all))
  ·have z6:¬((i:Int)<(s1.length:Int)):=auz
   cases hF
   repeat first|refine cg ?_|simp -dsimp[h4,q5,z6]
   refine lG _ (gT (by simp) (by simp_all)) hq
theorem C.f216 (s1:List Vl.Edge)(s2:List Vl.Edge)(r:Bool)(hF:F.f216 s1 s2=some r):PureCall Tryz.prog B 46 [am Vl.Edge.c s1,am Vl.Edge.c s2] (.lit (.bool r)):=by
 unfold F.f216 at hF
 refine pE Tryz.func46 (by kernel_rfl) rfl Tryz.ntmps46 (by simp) (by simp) ?_
 repeat first|refine cg ?_|simp -dsimp
 revert hF;refine aN ?_ ?_<;>intro h1 q2 hF
 ·have z3:¬((s1.length:Int)=(s2.length:Int)):=auz
  cases hF
  repeat first|refine cg ?_|simp -dsimp[h1,q2,z3]
 ·have z3:((s1.length:Int)=(s2.length:Int)):=auz
  repeat first|refine cg ?_|simp -dsimp
  obtain⟨o',ho13,hF⟩:=ob hF
  refine ALoop.goU _ ?_ (((CC.f215 B hB1 hB2 s1 s2) 0 o' ho13) _ rfl _ ?_)
  ·exact(gT (by simp) (by simp_all))
  rcases o' with r0|sx
  ·dsimp only at hF
   cases hF
   intro st h
   simpa using h
  ·dsimp only at hF
   cases hF
   repeat first|refine cg ?_|simp -dsimp
theorem C.f217 (a:Vl.Node)(b:Vl.Node)(r:Bool)(hF:F.f217 a b=some r):PureCall Tryz.prog B 36 [.agg [li a.op,li a.clause,am PathBind.c a.binds,am cI a.path,am Vl.Edge.c a.edges,li a.els],.agg [li b.op,li b.clause,am PathBind.c b.binds,am cI b.path,am Vl.Edge.c b.edges,li b.els]] (.lit (.bool r)):=by
 unfold F.f217 at hF
 refine pE Tryz.func36 (by kernel_rfl) rfl Tryz.ntmps36 (by simp) (by simp) ?_
 repeat first|refine cg ?_|simp -dsimp
 revert hF;refine aS ?_ ?_<;>intro h1 q2 hF
 ·repeat first|refine cg ?_|simp -dsimp[h1]
  revert hF;refine aS ?_ ?_<;>intro h3 q4 hF
  ·repeat first|refine cg ?_|simp -dsimp[h1,h3]
   have hF:=ob hF;obtain⟨v,e5,hF⟩:=hF
   refine((C.f214 B hB1 hB2 a.binds b.binds v e5)).goW (by simp[h1,h3]) (by simp) ?_
   repeat first|refine cg ?_|simp -dsimp[h1,h3]
   revert hF;refine aS (fun h6 q7 hF=> ?_) (fun h6 q7 hF=> ?_)
   ·repeat first|refine cg ?_|simp -dsimp[h1,h3,h6]
    have hF:=ob hF;obtain⟨v8,e9,hF⟩:=hF
    refine((C.f210 B hB1 hB2 a.path b.path v8 e9)).goW (by simp[h1,h3,h6]) (by simp) ?_
    repeat first|refine cg ?_|simp -dsimp[h1,h3,h6]
    revert hF;refine aS (fun h10 q11 hF=> ?_) (fun h10 q11 hF=> ?_)
    ·repeat first|refine cg ?_|simp -dsimp[h1,h3,h6,h10]
     have hF:=ob hF;obtain⟨v12,e13,hF⟩:=hF
     refine((C.f216 B hB1 hB2 a.edges b.edges v12 e13)).goW (by simp[h1,h3,h6,h10]) (by simp) ?_
     repeat first|refine cg ?_|simp -dsimp[h1,h3,h6,h10]
     revert hF;refine aS (fun h14 q15 hF=> ?_) (fun h14 q15 hF=> ?_)
     ·cases hF
      repeat first|refine cg ?_|simp -dsimp[h1,h3,h6,h10,h14]
     ·cases hF
      repeat first|refine cg ?_|simp -dsimp[h1,h3,h6,h10,h14,q15]
    ·cases hF
     repeat first|refine cg ?_|simp -dsimp[h1,h3,h6,h10,q11]
   ·cases hF
    repeat first|refine cg ?_|simp -dsimp[h1,h3,h6,q7]
  ·cases hF
   repeat first|refine cg ?_|simp -dsimp[h1,h3,q4]
 ·cases hF
  repeat first|refine cg ?_|simp -dsimp[h1,q2]
theorem C.f218 (m:Vl.Node)(a1:Vl.Node)(r:Bool)(hF:F.f218 m a1=some r):PureCall Tryz.prog B 35 [.agg [li m.op,li m.clause,am PathBind.c m.binds,am cI m.path,am Vl.Edge.c m.edges,li m.els],.rptr [li a1.op,li a1.clause,am PathBind.c a1.binds,am cI a1.path,am Vl.Edge.c a1.edges,li a1.els] 0] (.lit (.bool r)):=by
 unfold F.f218 at hF
 refine pE Tryz.func35 (by kernel_rfl) rfl Tryz.ntmps35 (by simp) (by simp) ?_
 repeat first|refine cg ?_|simp -dsimp
 obtain⟨v,e1,hF⟩:=ob hF
 refine((C.f217 B hB1 hB2 m a1 v e1)).goW (by simp) (by simp) ?_
 cases hF
 repeat first|refine cg ?_|simp -dsimp
theorem CC.f219 (s:List Vl.Node)(k0:Vl.Node):(∀(i:Nat) (o:Lo Int Unit),F.f219 s k0 i=some o->∀(c:Code),ZY [1,0,1,0,0] (ZK Tryz.f34)=some c->∀(Q:Exit->ASt->Prop),o.post (fun r=>∀st,ZAh Tryz.prog Tryz.f34 (fun r' _=>r'.le (li r)) .ret st->Q .ret st) (fun s=>Q (.exit 0) ⟨[],[]⟩)->ALoopU Tryz.prog B 0 19 (hold c .mk) ⟨[(0,am Vl.Node.c s),(1,.fn (.func 35) [] [.rptr [li k0.op,li k0.clause,am PathBind.c k0.binds,am cI k0.path,am Vl.Edge.c k0.edges,li k0.els] 0]),(7,li (s.length:Int)),(8,li (i:Int))],[]⟩ (hold Q .mk)):=by
 refine F.f219.partial_correctness s k0
  _
  ?_
 ·intro _f_f219 ih_f219 i o hF
  intro c hc Q hq
  obtain rfl:c=_:=ZM hc rfl
  refine kN fun hk hs=> ?_
  have b0:=hk 0
  simp -dsimp at b0
  clear hk hs
  refine eN ?_
  repeat first|refine cg ?_|simp -dsimp
  revert hF;refine aS ?_ ?_<;>intro h1 q2 hF
  ·have z3:((i:Int)<(s.length:Int)):=auz
   obtain⟨x,e4,hF⟩:=ob hF
   have le4:=ZB e4
   repeat first|refine cg ?_|simp -dsimp[h1,z3,↓e4]
   obtain⟨v,e5,hF⟩:=ob hF
   refine((C.f218 B hB1 hB2 x k0 v e5)).goW (by simp_all) (by simp) ?_
   repeat first|refine cg ?_|simp -dsimp
   revert hF;refine aS (fun h6 q7 hF=> ?_) (fun h6 q7 hF=> ?_)
   ·cases hF
    repeat first|refine cg ?_|simp -dsimp[h6]
    refine lG _ (gR _) (hq _ ?_)
    repeat first|refine cg ?_|simp -dsimp
   ·have w8:i64.wrap ((i:Int)+1)=(i:Int)+1:=ZG (by omega) (by omega)
    repeat first|refine cg ?_|simp -dsimp[q7,w8]
    refine aG _ ?_ ((ih_f219 (i+1) o hF) _ rfl _ hq)
    exact(gT (by simp) (by simp_all))
  ·have z3:¬((i:Int)<(s.length:Int)):=auz
   cases hF
   repeat first|refine cg ?_|simp -dsimp[h1,q2,z3]
   refine lG _ (gT (by simp) (by simp_all)) hq
theorem C.f220 (s:List Vl.Node)(k0:Vl.Node)(r:Int)(hF:F.f220 s k0=some r):PureCall Tryz.prog B 34 [am Vl.Node.c s,.fn (.func 35) [] [.rptr [li k0.op,li k0.clause,am PathBind.c k0.binds,am cI k0.path,am Vl.Edge.c k0.edges,li k0.els] 0]] (li r):=by
 unfold F.f220 at hF
 refine pE Tryz.func34 (by kernel_rfl) rfl Tryz.ntmps34 (by simp) (by simp) ?_
 repeat first|refine cg ?_|simp -dsimp
 obtain⟨o',ho9,hF⟩:=ob hF
 refine ALoop.goU _ ?_ (((CC.f219 B hB1 hB2 s k0) 0 o' ho9) _ rfl _ ?_)
 ·exact(gT (by simp) (by simp -dsimp))
 rcases o' with r0|sx
 ·dsimp only at hF
  cases hF
  intro st h
  simpa using h
 ·dsimp only at hF
  cases hF
  repeat first|refine cg ?_|simp -dsimp
theorem CC.impl_share__g  :(∀(x:Tree) (list:List Vl.Node) (r:Int×(List Vl.Node)),F.f221 x list=some r->BCall Tryz.prog B 18 [.cells [.own 1 (List.length (α:=Vl.Node) list)],.elems 6 (List.map Vl.Node.c list)] [.agg [li x.op,li x.clause,am PathBind.c x.binds,am cI x.path,am Branch.c x.branches,am Tree.c x.els],.ptr 0 0] (li r.1) [.cells [.own 1 (List.length (α:=Vl.Node) r.2)],.elems 6 (List.map Vl.Node.c r.2)])/\
  (∀(x:Tree) (v:List PathBind) (v2:List Int) (o':(List Vl.Edge)×(List Vl.Node)) (z:Int) (out15:List Vl.Node) (i16:Nat) (o:Int×(List Vl.Node)),F.f223 x v v2 o' z out15 i16=some o->∀(c:Code),ZY [1,1,1,0,1,0,0] (ZK Tryz.f18)=some c->∀(Q:Exit->ASt->Prop),(Q (.exit 2) ⟨[(1,.ptr 0 0),(5,.ptr 4 0)],[.cells [.own 1 (List.length (α:=Vl.Node) o.2)],.elems 6 (List.map Vl.Node.c o.2),.dead,.dead,.cells [li x.op,li x.clause,am PathBind.c v,am cI v2,.own 5 (List.length (α:=Vl.Edge) o'.1),li o.1],.elems 4 (List.map Vl.Edge.c o'.1)]⟩)->ALoopU Tryz.prog B 2 78 (hold c .mk) ⟨[(1,.ptr 0 0),(5,.ptr 4 0),(47,am Tree.c x.els),(48,li (x.els.length:Int)),(49,li (i16:Int))],[.cells [.own 1 (List.length (α:=Vl.Node) out15)],.elems 6 (List.map Vl.Node.c out15),.dead,.dead,.cells [li x.op,li x.clause,am PathBind.c v,am cI v2,.own 5 (List.length (α:=Vl.Edge) o'.1),li z],.elems 4 (List.map Vl.Edge.c o'.1)]⟩ (hold Q .mk))/\
  (∀(x:Tree) (v:List PathBind) (v2:List Int) (out:List Vl.Edge) (out4:List Vl.Node) (i:Nat) (o:(List Vl.Edge)×(List Vl.Node)),F.f222 x v v2 out out4 i=some o->∀(c:Code),ZY [1,1,0,1,0,0] (ZK Tryz.f18)=some c->∀(Q:Exit->ASt->Prop),(Q (.exit 0) ⟨[(1,.ptr 0 0),(2,.ptr 2 0),(5,.ptr 4 0)],[.cells [.own 1 (List.length (α:=Vl.Node) o.2)],.elems 6 (List.map Vl.Node.c o.2),.cells [li x.op,li x.clause,am PathBind.c x.binds,am cI x.path,am Branch.c x.branches,am Tree.c x.els],.dead,.cells [li x.op,li x.clause,am PathBind.c v,am cI v2,.own 5 (List.length (α:=Vl.Edge) o.1),li (-1)],.elems 4 (List.map Vl.Edge.c o.1)]⟩)->ALoopU Tryz.prog B 2 78 (hold c .mk) ⟨[(1,.ptr 0 0),(2,.ptr 2 0),(5,.ptr 4 0),(23,am Branch.c x.branches),(24,li (x.branches.length:Int)),(25,li (i:Int))],[.cells [.own 1 (List.length (α:=Vl.Node) out4)],.elems 6 (List.map Vl.Node.c out4),.cells [li x.op,li x.clause,am PathBind.c x.binds,am cI x.path,am Branch.c x.branches,am Tree.c x.els],.dead,.cells [li x.op,li x.clause,am PathBind.c v,am cI v2,.own 5 (List.length (α:=Vl.Edge) out),li (-1)],.elems 4 (List.map Vl.Edge.c out)]⟩ (hold Q .mk)):=by
 refine F.f221.mutual_partial_correctness 
  _ _ _
  ?_ ?_ ?_
 ·intro _f_impl_share__g_l2 _f_impl_share__g_l1 ih_impl_share__g_l2 ih_impl_share__g_l1 x list r hF
  refine BCall.enter Tryz.func18 (by kernel_rfl) rfl Tryz.ntmps18 (by simp) rfl (by simp) (by simp) (by simp) (by simp) (by simp) (gR _) ?_
  repeat first|refine cg ?_|simp -dsimp
  refine ADraw.effL [(9,11),(10,11)] 11 [29,1000059] [(0,1),(0,1),(0,1),(0,1),(0,0),(0,0),(0,4),(0,0),(0,0),(0,4),(0,4),(0,4),(0,4)] [0,2,0,2,1,1,1,1,1,1,1,1,1] follows (by kernel_rfl) (by kernel_rfl) (by kernel_rfl) (by kernel_rfl) (by intro d hd;cases hd;rfl) ?_
  repeat first|refine cg ?_|simp -dsimp
  obtain⟨v,e1,hF⟩:=ob hF
  refine((C.f184 B hB1 hB2 x.binds v e1)).pgoW (by simp) (by simp) ?_
  repeat first|refine cg ?_|simp -dsimp
  obtain⟨v2,e3,hF⟩:=ob hF
  refine((C.f182 B hB1 hB2 x.path v2 e3)).ego (pl [3]) (by simp) (by simp) (by intro i j hi;simp at hi) (by intro i hi hi';simp at hi hi';first|omega|(subst hi';simp[pl])) (by simp) (by simp) ?_
  repeat first|refine cg ?_|simp -dsimp
  obtain⟨o',ho14,hF⟩:=ob hF
  refine ALoop.goU ⟨[(1,.ptr 0 0),(2,.ptr 2 0),(5,.ptr 4 0),(23,.arr (List.map Branch.c x.branches)),(24,.lit (.int .i64 (x.branches.length:Int))),(25,.lit (.int .i64 0))],[.cells [.own 1 (List.length (α:=Vl.Node) list)],.elems 6 (List.map Vl.Node.c list),.cells [.lit (.int .i64 x.op),.lit (.int .i64 x.clause),.arr (List.map PathBind.c x.binds),.arr (List.map cI x.path),.arr (List.map Branch.c x.branches),.arr (List.map Tree.c x.els)],.dead,.cells [.lit (.int .i64 x.op),.lit (.int .i64 x.clause),.arr (List.map PathBind.c v),.arr (List.map cI v2),.own 5 (List.length (α:=Vl.Edge) []),.lit (.int .i64 (-1))],.elems 4 (List.map Vl.Edge.c [])]⟩ (by refine Gh.trans (Gh.nilCell 4 4 4 (by simp -dsimp;rfl) (by simp -dsimp)) ?_;exact(gT (by simp) (by simp -dsimp))) ?_
  refine(ih_impl_share__g_l1 x v v2 [] list 0 o' ho14) _ rfl _ ?_
  repeat first|refine cg ?_|simp -dsimp
  obtain⟨o'26,ho25,hF⟩:=ob hF
  refine ALoop.goU _ ?_ ((ih_impl_share__g_l2 x v v2 o' (-1) o'.2 0 o'26 ho25) _ rfl _ ?_)
  ·exact(gT (by simp) (by simp -dsimp))
  repeat first|refine cg ?_|simp -dsimp
  obtain⟨v27,e28,hF⟩:=ob hF
  refine ACall.frzCell 4 4 (l2:=5) (n:=List.length (α:=Vl.Edge) o'.1) (sz:=4) (cs:=[.lit (.int .i64 x.op),.lit (.int .i64 x.clause),.arr (List.map PathBind.c v),.arr (List.map cI v2),.own 5 (List.length (α:=Vl.Edge) o'.1),.lit (.int .i64 o'26.1)]) (es:=List.map Vl.Edge.c o'.1) (by simp) (by simp) (by simp) (by simp) (by simp) ?_
  repeat first|refine cg ?_|simp -dsimp
  refine((C.f220 B hB1 hB2 o'26.2 (⟨x.op,x.clause,v,v2,o'.1,o'26.1⟩:Vl.Node) v27 e28)).lend (by simp -dsimp) (by simp -dsimp) ?_
  repeat first|refine cg ?_|simp -dsimp
  revert hF;refine aS ?_ ?_<;>intro h29 q30 hF
  ·repeat first|refine cg ?_|simp -dsimp[h29]
   refine ADraw.eff [] [(0,2),(0,1),(0,1),(0,1),(0,0),(0,3),(0,3),(2,2),(0,3)] [1,1,0,2,1,1,1,1,1] follows (by kernel_rfl) (by kernel_rfl) (by kernel_rfl) ?_
   obtain⟨c31,hF⟩:=oc hF
   cases hF
   repeat first|refine cg ?_|simp -dsimp
   all_goals(try first|omega|rfl|(simp;done)|(simp only[List.length_cons,List.length_nil]at*;omega)|simp)
  ·cases hF
   repeat first|refine cg ?_|simp -dsimp[q30]
   all_goals(try first|omega|rfl|(simp;done)|(simp only[List.length_cons,List.length_nil]at*;omega)|simp)
 ·intro _f_impl_share__g _f_impl_share__g_l2 ih_impl_share__g ih_impl_share__g_l2 x v v2 o' z out15 i16 o hF
  intro c hc Q hq
  obtain rfl:c=_:=ZM hc rfl
  refine kN fun hk hs=> ?_
  have b47:=hk 47
  simp -dsimp at b47
  have d1:=hs 1 _ rfl
  simp -dsimp[Blk.bnd]at d1
  have d4:=hs 4 _ rfl
  simp -dsimp[Blk.bnd]at d4
  have d5:=hs 5 _ rfl
  simp -dsimp[Blk.bnd]at d5
  clear hk hs
  refine eN ?_
  repeat first|refine cg ?_|simp -dsimp
  revert hF;refine aS ?_ ?_<;>intro h17 q18 hF
  ·have z19:((i16:Int)<(x.els.length:Int)):=auz
   obtain⟨x20,e21,hF⟩:=ob hF
   have le21:=ZB e21
   repeat first|refine cg ?_|simp -dsimp[h17,z19,↓e21]
   obtain⟨v22,e23,hF⟩:=ob hF
   refine((ih_impl_share__g x20 out15 v22 e23)).go (pl [0,1]) (by simp) (by simp) (ZAi _ rfl (by decide)) (by intro i hi hi';simp at hi hi';omega) (by simp_all) (by simp_all) ?_
   have w24:i64.wrap ((i16:Int)+1)=(i16:Int)+1:=ZG (by omega) (by omega)
   repeat first|refine cg ?_|simp -dsimp[w24]
   refine aG _ ?_ ((ih_impl_share__g_l2 x v v2 o' v22.1 v22.2 (i16+1) o hF) _ rfl _ hq)
   exact(gT (by simp) (by simp_all))
  ·have z19:¬((i16:Int)<(x.els.length:Int)):=auz
   cases hF
   repeat first|refine cg ?_|simp -dsimp[h17,q18,z19]
   refine lG _ (gT (by simp) (by simp_all)) hq
 ·intro _f_impl_share__g _f_impl_share__g_l1 ih_impl_share__g ih_impl_share__g_l1 x v v2 out out4 i o hF
  intro c hc Q hq
  obtain rfl:c=_:=ZM hc rfl
  refine kN fun hk hs=> ?_
  have b23:=hk 23
  simp -dsimp at b23
  have d1:=hs 1 _ rfl
  simp -dsimp[Blk.bnd]at d1
  have d2:=hs 2 _ rfl
  simp -dsimp[Blk.bnd]at d2
  have d4:=hs 4 _ rfl
  simp -dsimp[Blk.bnd]at d4
  have d5:=hs 5 _ rfl
  simp -dsimp[Blk.bnd]at d5
  clear hk hs
  refine eN ?_
  repeat first|refine cg ?_|simp -dsimp
  revert hF;refine aS ?_ ?_<;>intro h5 q6 hF
  ·have z7:((i:Int)<(x.branches.length:Int)):=auz
   obtain⟨x8,e9,hF⟩:=ob hF
   have le9:=ZB e9
   repeat first|refine cg ?_|simp -dsimp[h5,z7,↓e9]
   refine ADraw.eff [18] [(0,2),(0,2),(0,1),(0,1),(0,1),(0,1),(0,1),(0,1),(0,0),(0,0),(0,0),(0,4),(1,1),(0,4),(0,4),(3,3),(0,4)] [0,2,0,2,0,2,0,2,1,1,1,1,1,1,1,1,1] follows (by kernel_rfl) (by kernel_rfl) (by kernel_rfl) ?_
   repeat first|refine cg ?_|simp -dsimp
   obtain⟨v10,e11,hF⟩:=ob hF
   refine((ih_impl_share__g x8.tree out4 v10 e11)).ego (pl [0,1]) (by simp) (by simp) (ZAi _ rfl (by decide)) (by intro i hi hi';simp at hi hi';omega) (by simp_all) (by simp_all) ?_
   obtain⟨c12,hF⟩:=oc hF
   have w13:i64.wrap ((i:Int)+1)=(i:Int)+1:=ZG (by omega) (by omega)
   repeat first|refine cg ?_|simp -dsimp[w13]
   refine aG _ ?_ ((ih_impl_share__g_l1 x v v2 (out++[(⟨x8.ctor,x8.n,x8.m,v10.1⟩:Vl.Edge)]) v10.2 (i+1) o hF) _ rfl _ hq)
   exact(gT (by simp) (by simp_all))
  ·have z7:¬((i:Int)<(x.branches.length:Int)):=auz
   cases hF
   repeat first|refine cg ?_|simp -dsimp[h5,q6,z7]
   refine lG _ (gT (by simp) (by simp_all)) hq
theorem C.f224 (x:Tree)(r:(List Vl.Node)×Bool)(hF:F.f224 x=some r):PureCall Tryz.prog B 8 [.agg [li x.op,li x.clause,am PathBind.c x.binds,am cI x.path,am Branch.c x.branches,am Tree.c x.els]] (.tup [am Vl.Node.c r.1,.lit (.bool r.2)]):=by
 unfold F.f224 at hF
 refine pE Tryz.func8 (by kernel_rfl) rfl Tryz.ntmps8 (by simp) (by simp) ?_
 repeat first|refine cg ?_|simp -dsimp
 obtain⟨v,e1,hF⟩:=ob hF
 refine(((CC.f202 B hB1 hB2).1 x v e1)).goW (by simp) (by simp) ?_
 repeat first|refine cg ?_|simp -dsimp
 revert hF;refine aN ?_ ?_<;>intro h2 q3 hF
 ·repeat first|refine cg ?_|simp -dsimp[h2,q3]
  obtain⟨v4,e5,hF⟩:=ob hF
  refine(((CC.f204 B hB1 hB2).1 x v4 e5)).goW (by simp[h2,q3]) (by simp) ?_
  repeat first|refine cg ?_|simp -dsimp[h2,q3]
  revert hF;refine aN (fun h6 q7 hF=> ?_) (fun h6 q7 hF=> ?_)
  ·cases hF
   repeat first|refine cg ?_|simp -dsimp[h2,q3,h6,q7]
  ·repeat first|refine cg ?_|simp -dsimp[h2,q3,h6,q7]
   obtain⟨v8,e9,hF⟩:=ob hF
   refine ACall.nilCell 1 0 6 (cs:=[.lit (.slice none 0 0)]) (by simp) (by simp) ?_
   repeat first|refine cg ?_|simp -dsimp[h2,q3,h6,q7]
   refine(((CC.impl_share__g B hB1 hB2).1 x [] v8 e9)).go (pl [1,2]) (by simp) (by simp) (ZAi _ rfl (by decide)) (by intro i hi hi';simp at hi hi';omega) (by simp[h2,q3,h6,q7]) (by simp[h2,q3,h6,q7]) ?_
   cases hF
   repeat first|refine cg ?_|simp -dsimp[h2,q3,h6,q7]
 ·cases hF
  repeat first|refine cg ?_|simp -dsimp[h2,q3]
theorem C.f225 (code:List Int)(r:Bool)(hF:F.f225 code=some r):PureCall Tryz.prog B 3 [am cU code] (.lit (.bool r)):=by
 unfold F.f225 at hF
 refine pE Tryz.func3 (by kernel_rfl) rfl Tryz.ntmps3 (by simp) (by simp) ?_
 repeat first|refine cg ?_|simp -dsimp
 revert hF;refine aS ?_ ?_<;>intro h1 q2 hF
 ·have z3:(1048576<(code.length:Int)):=auz
  cases hF
  repeat first|refine cg ?_|simp -dsimp[h1,z3]
 ·have z3:¬(1048576<(code.length:Int)):=auz
  repeat first|refine cg ?_|simp -dsimp[h1,q2,z3]
  have hF:=ob hF;obtain⟨v,e4,hF⟩:=hF
  refine((C.f171 B hB1 hB2 code v e4)).goW (by simp[h1,q2,z3]) (by simp) ?_
  repeat first|refine cg ?_|simp -dsimp[h1,q2,z3]
  have hF:=ob hF;obtain⟨v5,e6,hF⟩:=hF
  refine((C.f187 B hB1 hB2 v v5 e6)).goW (by simp[h1,q2,z3]) (by simp) ?_
  repeat first|refine cg ?_|simp -dsimp[h1,q2,z3]
  have hF:=ob hF;obtain⟨v7,e8,hF⟩:=hF
  refine((C.f193 B hB1 hB2 v v7 e8)).goW (by simp[h1,q2,z3]) (by simp) ?_
  repeat first|refine cg ?_|simp -dsimp[h1,q2,z3]
  revert hF;refine aS ?_ ?_<;>intro h9 q10 hF
  ·repeat first|refine cg ?_|simp -dsimp[h1,q2,z3,h9]
   have hF:=ob hF;obtain⟨v11,e12,hF⟩:=hF
   refine(((CC.f197 B hB1 hB2).1 v5.1 v7.1 v11 e12)).goW (by simp[h1,q2,z3,h9]) (by simp) ?_
   repeat first|refine cg ?_|simp -dsimp[h1,q2,z3,h9]
   revert hF;refine aS (fun h13 q14 hF=> ?_) (fun h13 q14 hF=> ?_)
   ·repeat first|refine cg ?_|simp -dsimp[h1,q2,z3,h9,h13]
    revert hF;refine aN (fun h15 q16 hF=> ?_) (fun h15 q16 hF=> ?_)
    ·repeat first|refine cg ?_|simp -dsimp[h1,q2,z3,h9,h13,h15,q16]
     have hF:=ob hF;obtain⟨v17,e18,hF⟩:=hF
     refine(((CC.f197 B hB1 hB2).1 v5.1 v7.1 v17 e18)).goW (by simp[h1,q2,z3,h9,h13,h15,q16]) (by simp) ?_
     cases hF
     repeat first|refine cg ?_|simp -dsimp[h1,q2,z3,h9,h13,h15,q16]
    ·repeat first|refine cg ?_|simp -dsimp[h1,q2,z3,h9,h13,h15,q16]
     have hF:=ob hF;obtain⟨v19,e20,hF⟩:=hF
     refine((C.f224 B hB1 hB2 v5.1 v19 e20)).goW (by simp[h1,q2,z3,h9,h13,h15,q16]) (by simp) ?_
     repeat first|refine cg ?_|simp -dsimp[h1,q2,z3,h9,h13,h15,q16]
     revert hF;refine aS (fun h21 q22 hF=> ?_) (fun h21 q22 hF=> ?_)
     ·repeat first|refine cg ?_|simp -dsimp[h1,q2,z3,h9,h13,h15,q16,h21]
      revert hF;refine aS ?_ ?_<;>intro h23 q24 hF
      ·have z25:((v19.1.length:Int)<=(v.length:Int)):=auz
       repeat first|refine cg ?_|simp -dsimp[h1,q2,z3,h9,h13,h15,q16,h21,h23,z25]
       have hF:=ob hF;obtain⟨v26,e27,hF⟩:=hF
       refine(((CC.f202 B hB1 hB2).1 v5.1 v26 e27)).goW (by simp[h1,q2,z3,h9,h13,h15,q16,h21,h23,z25]) (by simp) ?_
       cases hF
       repeat first|refine cg ?_|simp -dsimp[h1,q2,z3,h9,h13,h15,q16,h21,h23,z25]
      ·have z25:¬((v19.1.length:Int)<=(v.length:Int)):=auz
       cases hF
       repeat first|refine cg ?_|simp -dsimp[h1,q2,z3,h9,h13,h15,q16,h21,h23,q24,z25]
     ·cases hF
      repeat first|refine cg ?_|simp -dsimp[h1,q2,z3,h9,h13,h15,q16,h21,q22]
   ·repeat first|refine cg ?_|simp -dsimp[h1,q2,z3,h9,h13,q14]
    have hF:=ob hF;obtain⟨v28,e29,hF⟩:=hF
    refine(((CC.f197 B hB1 hB2).1 v5.1 v7.1 v28 e29)).goW (by simp[h1,q2,z3,h9,h13,q14]) (by simp) ?_
    cases hF
    repeat first|refine cg ?_|simp -dsimp[h1,q2,z3,h9,h13,q14]
  ·cases hF
   repeat first|refine cg ?_|simp -dsimp[h1,q2,z3,h9,q10]
end Go.Proofs.YtnmbhmbljbhonaaGreat
