/- A part of the proof. -/
import Derived.Test.YtnmbhmbljbhonaaProg
import Derived.Test.YtnmbhmbljbhonaaNodesPrefixF
import Derived.Test.YtnmbhmbljbhonaaNodesPrefixC2
namespace Go.Proofs.Ytnmbhmbljbhonaa
open Go Go.Proofs Go.Vl
open Go.IntKind (i64)
set_option linter.all false
set_option maxRecDepth 100000
set_option maxHeartbeats 4000000
set_option synthInstance.maxSize 100000
set_option synthInstance.maxHeartbeats 4000000
attribute [local irreducible] GhK ECallA ZG5 aL aLg ZK0 ZH7 ZFN ZD3 ZGx ZB7 MutCall BCall chk abr ACall ALoop ALoopU ADraw Again Leave ZDT PCall ZA4 awp ZGP PureCall hold
variable (B : Nat) (hB1 : 67108864 <= B) (hB2 : B <= 9223372036854775807)
include hB1 hB2
theorem C.spec_l8Nodes__o0 (code:List Int)(r:List Vl.Node)(hF:F.f170 code=some r):BCall Try.prog B 15 [] [am cU code] (.own 0 (List.length (α:=Vl.Node) r)) [.elems 6 (List.map Vl.Node.c r)]:=by
 unfold F.f170 at hF
 refine BCall.enterS (τ1:=[]) (ys:=[.own 0 (List.length (α:=Vl.Node) r)]) (news:=[(6,List.map Vl.Node.c r)]) Try.func15 (by kernel_rfl) rfl Try.ntmps15 (by simp) rfl rfl (by simp) (by simp) (by simp) (by simp) (by simp) (by simp) (Gh.refl _) ?_
 repeat first|refine cg ?_|simp -dsimp
 refine ACall.inl Try.func23 (by kernel_rfl) rfl Try.ntmps23 (by simp) ?_
 repeat first|refine cg ?_|simp -dsimp
 revert hF;refine abr.sp ?_ ?_<;>intro h1 q2 hF
 ·have z3:(2000<(code.length:Int)):=auz
  have hF:=oc hF;obtain⟨c4,hF⟩:=hF
  repeat first|refine cg ?_|simp -dsimp[h1,z3]
  have hF:=ob hF;obtain⟨v,e5,hF⟩:=hF
  refine((C.f150 B hB1 hB2 code v e5)).goW (by first|simp[h1,z3];done|simp_all) (by simp) ?_
  repeat first|refine cg ?_|simp -dsimp[h1,z3]
  have hF:=ob hF;obtain⟨v6,e7,hF⟩:=hF
  refine((C.f169 B hB1 hB2 v v6 e7)).goW (by first|simp[h1,z3];done|simp_all) (by simp) ?_
  have hF:=oc hF;obtain⟨c8,hF⟩:=hF
  repeat first|refine cg ?_|simp -dsimp[h1,z3]
  revert hF;refine abr.ns ?_ ?_<;>intro h9 q10 hF
  ·have z11:¬((v6.1.length:Int)=0):=auz
   repeat first|refine cg ?_|simp -dsimp[h1,z3,h9,q10,z11]
   have hF:=ob hF;obtain⟨v12,e13,hF⟩:=hF
   refine((C.f1 B hB1 hB2 (⟨(code.drop 0).take (2000-0),0⟩:ZD) 3 v12 e13)).go 0 rfl (by first|simp[h1,z3,h9,q10,z11];done|simp_all) (by simp) (by first|simp[h1,z3,h9,q10,z11];done|simp_all) ?_
   repeat first|refine cg ?_|simp -dsimp[h1,z3,h9,q10,z11]
   revert hF;refine abr.sp ?_ ?_<;>intro h14 q15 hF
   ·cases hF
    repeat first|refine cg ?_|simp -dsimp[h1,z3,h9,q10,z11,h14]
    all_goals(try first|omega|rfl|(simp;done)|(simp only[List.length_cons,List.length_nil]at*;omega)|simp)
   ·repeat first|refine cg ?_|simp -dsimp[h1,z3,h9,q10,z11,h14,q15]
    have hF:=ob hF;obtain⟨v16,e17,hF⟩:=hF
    refine((C.f1 B hB1 hB2 v12.2 (v6.1.length:Int) v16 e17)).go 0 rfl (by first|simp[h1,z3,h9,q10,z11,h14,q15];done|simp_all) (by simp) (by first|simp[h1,z3,h9,q10,z11,h14,q15];done|simp_all) ?_
    repeat first|refine cg ?_|simp -dsimp[h1,z3,h9,q10,z11,h14,q15]
    have hF:=ob hF;obtain⟨v18,e19,hF⟩:=hF
    refine((C.f1 B hB1 hB2 v16.2 5 v18 e19)).go 0 rfl (by first|simp[h1,z3,h9,q10,z11,h14,q15];done|simp_all) (by simp) (by first|simp[h1,z3,h9,q10,z11,h14,q15];done|simp_all) ?_
    repeat first|refine cg ?_|simp -dsimp[h1,z3,h9,q10,z11,h14,q15]
    revert hF;refine abr.sp ?_ ?_<;>intro h20 q21 hF
    ·repeat first|refine cg ?_|simp -dsimp[h1,z3,h9,q10,z11,h14,q15,h20]
     have hF:=ob hF;obtain⟨v22,e23,hF⟩:=hF
     refine ACall.frz ?_ ((C.f54 B hB1 hB2 v18.2 [0,1,2,3,(-1)] v22 e23)).ent
     repeat first|refine cg ?_|simp -dsimp[h1,z3,h9,q10,z11,h14,q15,h20]
     refine((C.f54 B hB1 hB2 v18.2 [0,1,2,3,(-1)] v22 e23)).go 0 rfl (by first|simp[h1,z3,h9,q10,z11,h14,q15,h20];done|simp_all) (by simp) (by first|simp[h1,z3,h9,q10,z11,h14,q15,h20];done|simp_all) ?_
     have hF:=ob hF;obtain⟨x,e24a,hF⟩:=hF
     have e24a:=ZM e24a;obtain⟨ne24,e24⟩:=e24a
     have le24:=ZE e24
     cases hF
     repeat first|refine cg ?_|simp -dsimp[h1,z3,h9,q10,z11,h14,q15,h20,↓e24,le24]
     all_goals(try first|omega|rfl|(simp;done)|(simp only[List.length_cons,List.length_nil]at*;omega)|simp)
    ·repeat first|refine cg ?_|simp -dsimp[h1,z3,h9,q10,z11,h14,q15,h20,q21]
     revert hF;refine abr.sp ?_ ?_<;>intro h25 q26 hF
     ·repeat first|refine cg ?_|simp -dsimp[h1,z3,h9,q10,z11,h14,q15,h20,q21,h25]
      have hF:=ob hF;obtain⟨v27,e28,hF⟩:=hF
      refine ACall.frz ?_ ((C.f54 B hB1 hB2 v18.2 [0,(-1),5,(-2)] v27 e28)).ent
      repeat first|refine cg ?_|simp -dsimp[h1,z3,h9,q10,z11,h14,q15,h20,q21,h25]
      refine((C.f54 B hB1 hB2 v18.2 [0,(-1),5,(-2)] v27 e28)).go 0 rfl (by first|simp[h1,z3,h9,q10,z11,h14,q15,h20,q21,h25];done|simp_all) (by simp) (by first|simp[h1,z3,h9,q10,z11,h14,q15,h20,q21,h25];done|simp_all) ?_
      have hF:=ob hF;obtain⟨x29,e30a,hF⟩:=hF
      have e30a:=ZM e30a;obtain⟨ne30,e30⟩:=e30a
      have le30:=ZE e30
      cases hF
      repeat first|refine cg ?_|simp -dsimp[h1,z3,h9,q10,z11,h14,q15,h20,q21,h25,↓e30,le30]
      all_goals(try first|omega|rfl|(simp;done)|(simp only[List.length_cons,List.length_nil]at*;omega)|simp)
     ·repeat first|refine cg ?_|simp -dsimp[h1,z3,h9,q10,z11,h14,q15,h20,q21,h25,q26]
      revert hF;refine abr.sp ?_ ?_<;>intro h31 q32 hF
      ·have hF:=ob hF;obtain⟨x33,e34a,hF⟩:=hF
       have e34a:=ZM e34a;obtain⟨ne34,e34⟩:=e34a
       have le34:=ZE e34
       repeat first|refine cg ?_|simp -dsimp[h1,z3,h9,q10,z11,h14,q15,h20,q21,h25,q26,h31,↓e34,le34]
       revert hF;refine abr.sp ?_ ?_<;>intro h35 q36 hF
       ·have z37:(0<(x33.edges.length:Int)):=auz
        have hF:=oc hF;obtain⟨c38,hF⟩:=hF
        repeat first|refine cg ?_|simp -dsimp[h1,z3,h9,q10,z11,h14,q15,h20,q21,h25,q26,h31,↓e34,le34,h35,z37]
        refine ADraw.post ?_
        repeat first|refine cg ?_|simp -dsimp[h1,z3,h9,q10,z11,h14,q15,h20,q21,h25,q26,h31,↓e34,le34,h35,z37]
        refine ADraw.opn ?_
        refine ADraw.split [] [(2,6)] [(6,2)] 2 6 rfl rfl (by kernel_rfl) ?_ ?_
        ·refine ADraw.effP [(2,6)] [0,1,2,3,4,5,6,7,8,9,10] [26] [(0,0),(0,0),(0,0),(0,2),(0,2),(0,1),(0,3),(0,3),(2,2),(2,2),(0,3)] [1,1,1,0,2,1,1,1,1,1,1] follows (by kernel_rfl) (by kernel_rfl) (by kernel_rfl) (by kernel_rfl) ?_
         repeat first|refine cg ?_|simp -dsimp[h1,z3,h9,q10,z11,h14,q15,h20,q21,h25,q26,h31,↓e34,le34,h35,z37]
         have hF:=ob hF;obtain⟨v39,e40,hF⟩:=hF
         refine ECallA.frz ?_ ((C.f54 B hB1 hB2 v18.2 [0,1,9,(-1)] v39 e40)).ent
         repeat first|refine cg ?_|simp -dsimp[h1,z3,h9,q10,z11,h14,q15,h20,q21,h25,q26,h31,↓e34,le34,h35,z37]
         refine((C.f54 B hB1 hB2 v18.2 [0,1,9,(-1)] v39 e40)).ego 0 rfl (by first|simp[h1,z3,h9,q10,z11,h14,q15,h20,q21,h25,q26,h31,↓e34,le34,h35,z37];done|simp_all) (by simp) (by first|simp[h1,z3,h9,q10,z11,h14,q15,h20,q21,h25,q26,h31,↓e34,le34,h35,z37];done|simp_all) ?_
         have hF:=ob hF;obtain⟨x41,e42,hF⟩:=hF
         have le42:=ZE e42
         repeat first|refine cg ?_|simp -dsimp[h1,z3,h9,q10,z11,h14,q15,h20,q21,h25,q26,h31,↓e34,le34,h35,z37,↓e42,le42]
         refine GhK.go (Gh.frzElem 1 v16.1.toNat 4 (l2:=2) (n:=List.length (α:=Vl.Edge) (x33.edges.set 0 (⟨x41.ctor,x41.n,x41.m,v39.1⟩:Vl.Edge))) (sz2:=4) (es2:=List.map Vl.Edge.c (x33.edges.set 0 (⟨x41.ctor,x41.n,x41.m,v39.1⟩:Vl.Edge))) rfl (List.getElem?_set_self (by rw[List.length_map];assumption)) (by simp) (by simp) (by decide) (by simp) (by simp)) ?_
         cases hF
         repeat first|refine cg ?_|simp -dsimp[h1,z3,h9,q10,z11,h14,q15,h20,q21,h25,q26,h31,↓e34,le34,h35,z37,↓e42,le42]
         all_goals(try first|omega|rfl|(simp;done)|(simp only[List.length_cons,List.length_nil]at*;omega)|simp)
        ·refine ADraw.split [(6,2)] [(6,2),(2,7)] [(6,2),(7,2)] 2 7 rfl rfl (by kernel_rfl) ?_ ?_
         ·refine ADraw.effP [(6,2),(2,7)] [0,1,5,6,2,3,4,7,8,9,10] [26] [(0,1),(0,1),(0,1),(0,3),(1,1),(1,2),(1,2),(0,3),(2,2),(2,2),(0,3)] [1,1,1,1,1,0,2,1,1,1,1] follows (by kernel_rfl) (by kernel_rfl) (by kernel_rfl) (by kernel_rfl) ?_
          repeat first|refine cg ?_|simp -dsimp[h1,z3,h9,q10,z11,h14,q15,h20,q21,h25,q26,h31,↓e34,le34,h35,z37]
          have hF:=ob hF;obtain⟨v39,e40,hF⟩:=hF
          refine ECallA.frz ?_ ((C.f54 B hB1 hB2 v18.2 [0,1,9,(-1)] v39 e40)).ent
          repeat first|refine cg ?_|simp -dsimp[h1,z3,h9,q10,z11,h14,q15,h20,q21,h25,q26,h31,↓e34,le34,h35,z37]
          refine((C.f54 B hB1 hB2 v18.2 [0,1,9,(-1)] v39 e40)).ego 0 rfl (by first|simp[h1,z3,h9,q10,z11,h14,q15,h20,q21,h25,q26,h31,↓e34,le34,h35,z37];done|simp_all) (by simp) (by first|simp[h1,z3,h9,q10,z11,h14,q15,h20,q21,h25,q26,h31,↓e34,le34,h35,z37];done|simp_all) ?_
          have hF:=ob hF;obtain⟨x41,e42,hF⟩:=hF
          have le42:=ZE e42
          repeat first|refine cg ?_|simp -dsimp[h1,z3,h9,q10,z11,h14,q15,h20,q21,h25,q26,h31,↓e34,le34,h35,z37,↓e42,le42]
          refine GhK.go (Gh.frzElem 1 v16.1.toNat 4 (l2:=2) (n:=List.length (α:=Vl.Edge) (x33.edges.set 0 (⟨x41.ctor,x41.n,x41.m,v39.1⟩:Vl.Edge))) (sz2:=4) (es2:=List.map Vl.Edge.c (x33.edges.set 0 (⟨x41.ctor,x41.n,x41.m,v39.1⟩:Vl.Edge))) rfl (List.getElem?_set_self (by rw[List.length_map];assumption)) (by simp) (by simp) (by decide) (by simp) (by simp)) ?_
          cases hF
          repeat first|refine cg ?_|simp -dsimp[h1,z3,h9,q10,z11,h14,q15,h20,q21,h25,q26,h31,↓e34,le34,h35,z37,↓e42,le42]
          all_goals(try first|omega|rfl|(simp;done)|(simp only[List.length_cons,List.length_nil]at*;omega)|simp)
         ·refine ADraw.effP [(6,2),(7,2)] [0,1,5,6,7,2,3,4,8,9,10] [26] [(0,2),(0,2),(0,1),(0,3),(0,3),(2,2),(2,2),(2,2),(2,2),(2,2),(0,3)] [1,1,1,1,1,1,1,1,1,1,1] follows (by kernel_rfl) (by kernel_rfl) (by kernel_rfl) (by kernel_rfl) ?_
          repeat first|refine cg ?_|simp -dsimp[h1,z3,h9,q10,z11,h14,q15,h20,q21,h25,q26,h31,↓e34,le34,h35,z37]
          have hF:=ob hF;obtain⟨v39,e40,hF⟩:=hF
          refine ECallA.frz ?_ ((C.f54 B hB1 hB2 v18.2 [0,1,9,(-1)] v39 e40)).ent
          repeat first|refine cg ?_|simp -dsimp[h1,z3,h9,q10,z11,h14,q15,h20,q21,h25,q26,h31,↓e34,le34,h35,z37]
          refine((C.f54 B hB1 hB2 v18.2 [0,1,9,(-1)] v39 e40)).ego 0 rfl (by first|simp[h1,z3,h9,q10,z11,h14,q15,h20,q21,h25,q26,h31,↓e34,le34,h35,z37];done|simp_all) (by simp) (by first|simp[h1,z3,h9,q10,z11,h14,q15,h20,q21,h25,q26,h31,↓e34,le34,h35,z37];done|simp_all) ?_
          have hF:=ob hF;obtain⟨x41,e42,hF⟩:=hF
          have le42:=ZE e42
          repeat first|refine cg ?_|simp -dsimp[h1,z3,h9,q10,z11,h14,q15,h20,q21,h25,q26,h31,↓e34,le34,h35,z37,↓e42,le42]
          refine GhK.go (Gh.frzElem 1 v16.1.toNat 4 (l2:=2) (n:=List.length (α:=Vl.Edge) (x33.edges.set 0 (⟨x41.ctor,x41.n,x41.m,v39.1⟩:Vl.Edge))) (sz2:=4) (es2:=List.map Vl.Edge.c (x33.edges.set 0 (⟨x41.ctor,x41.n,x41.m,v39.1⟩:Vl.Edge))) rfl (List.getElem?_set_self (by rw[List.length_map];assumption)) (by simp) (by simp) (by decide) (by simp) (by simp)) ?_
          cases hF
          repeat first|refine cg ?_|simp -dsimp[h1,z3,h9,q10,z11,h14,q15,h20,q21,h25,q26,h31,↓e34,le34,h35,z37,↓e42,le42]
          all_goals(try first|omega|rfl|(simp;done)|(simp only[List.length_cons,List.length_nil]at*;omega)|simp)
       ·have z37:¬(0<(x33.edges.length:Int)):=auz
        cases hF
        repeat first|refine cg ?_|simp -dsimp[h1,z3,h9,q10,z11,h14,q15,h20,q21,h25,q26,h31,↓e34,le34,h35,q36,z37]
        all_goals(try first|omega|rfl|(simp;done)|(simp only[List.length_cons,List.length_nil]at*;omega)|simp)
      ·repeat first|refine cg ?_|simp -dsimp[h1,z3,h9,q10,z11,h14,q15,h20,q21,h25,q26,h31,q32]
       revert hF;refine abr.sp ?_ ?_<;>intro h43 q44 hF
       ·have hF:=oc hF;obtain⟨c45,hF⟩:=hF
        cases hF
        repeat first|refine cg ?_|simp -dsimp[h1,z3,h9,q10,z11,h14,q15,h20,q21,h25,q26,h31,q32,h43]
        all_goals(try first|omega|rfl|(simp;done)|(simp only[List.length_cons,List.length_nil]at*;omega)|simp)
       ·repeat first|refine cg ?_|simp -dsimp[h1,z3,h9,q10,z11,h14,q15,h20,q21,h25,q26,h31,q32,h43,q44]
        revert hF;refine abr.sp ?_ ?_<;>intro h46 q47 hF
        ·have hF:=ob hF;obtain⟨x48,e49a,hF⟩:=hF
         have e49a:=ZM e49a;obtain⟨ne49,e49⟩:=e49a
         have le49:=ZE e49
         have hF:=oc hF;obtain⟨c50,hF⟩:=hF
         cases hF
         repeat first|refine cg ?_|simp -dsimp[h1,z3,h9,q10,z11,h14,q15,h20,q21,h25,q26,h31,q32,h43,q44,h46,↓e49,le49]
         all_goals(try first|omega|rfl|(simp;done)|(simp only[List.length_cons,List.length_nil]at*;omega)|simp)
        ·cases hF
         repeat first|refine cg ?_|simp -dsimp[h1,z3,h9,q10,z11,h14,q15,h20,q21,h25,q26,h31,q32,h43,q44,h46,q47]
         all_goals(try first|omega|rfl|(simp;done)|(simp only[List.length_cons,List.length_nil]at*;omega)|simp)
  ·have z11:((v6.1.length:Int)=0):=auz
   cases hF
   repeat first|refine cg ?_|simp -dsimp[h1,z3,h9,q10,z11]
   all_goals(try first|omega|rfl|(simp;done)|(simp only[List.length_cons,List.length_nil]at*;omega)|simp)
 ·have z3:¬(2000<(code.length:Int)):=auz
  repeat first|refine cg ?_|simp -dsimp[h1,q2,z3]
  have hF:=ob hF;obtain⟨v51,e52,hF⟩:=hF
  refine((C.f150 B hB1 hB2 code v51 e52)).goW (by first|simp[h1,q2,z3];done|simp_all) (by simp) ?_
  repeat first|refine cg ?_|simp -dsimp[h1,q2,z3]
  have hF:=ob hF;obtain⟨v53,e54,hF⟩:=hF
  refine((C.f169 B hB1 hB2 v51 v53 e54)).goW (by first|simp[h1,q2,z3];done|simp_all) (by simp) ?_
  have hF:=oc hF;obtain⟨c55,hF⟩:=hF
  repeat first|refine cg ?_|simp -dsimp[h1,q2,z3]
  revert hF;refine abr.ns ?_ ?_<;>intro h56 q57 hF
  ·have z58:¬((v53.1.length:Int)=0):=auz
   repeat first|refine cg ?_|simp -dsimp[h1,q2,z3,h56,q57,z58]
   have hF:=ob hF;obtain⟨v59,e60,hF⟩:=hF
   refine((C.f1 B hB1 hB2 (⟨code,0⟩:ZD) 3 v59 e60)).go 0 rfl (by first|simp[h1,q2,z3,h56,q57,z58];done|simp_all) (by simp) (by first|simp[h1,q2,z3,h56,q57,z58];done|simp_all) ?_
   repeat first|refine cg ?_|simp -dsimp[h1,q2,z3,h56,q57,z58]
   revert hF;refine abr.sp ?_ ?_<;>intro h61 q62 hF
   ·cases hF
    repeat first|refine cg ?_|simp -dsimp[h1,q2,z3,h56,q57,z58,h61]
    all_goals(try first|omega|rfl|(simp;done)|(simp only[List.length_cons,List.length_nil]at*;omega)|simp)
   ·repeat first|refine cg ?_|simp -dsimp[h1,q2,z3,h56,q57,z58,h61,q62]
    have hF:=ob hF;obtain⟨v63,e64,hF⟩:=hF
    refine((C.f1 B hB1 hB2 v59.2 (v53.1.length:Int) v63 e64)).go 0 rfl (by first|simp[h1,q2,z3,h56,q57,z58,h61,q62];done|simp_all) (by simp) (by first|simp[h1,q2,z3,h56,q57,z58,h61,q62];done|simp_all) ?_
    repeat first|refine cg ?_|simp -dsimp[h1,q2,z3,h56,q57,z58,h61,q62]
    have hF:=ob hF;obtain⟨v65,e66,hF⟩:=hF
    refine((C.f1 B hB1 hB2 v63.2 5 v65 e66)).go 0 rfl (by first|simp[h1,q2,z3,h56,q57,z58,h61,q62];done|simp_all) (by simp) (by first|simp[h1,q2,z3,h56,q57,z58,h61,q62];done|simp_all) ?_
    repeat first|refine cg ?_|simp -dsimp[h1,q2,z3,h56,q57,z58,h61,q62]
    revert hF;refine abr.sp ?_ ?_<;>intro h67 q68 hF
    ·repeat first|refine cg ?_|simp -dsimp[h1,q2,z3,h56,q57,z58,h61,q62,h67]
     have hF:=ob hF;obtain⟨v69,e70,hF⟩:=hF
     refine ACall.frz ?_ ((C.f54 B hB1 hB2 v65.2 [0,1,2,3,(-1)] v69 e70)).ent
     repeat first|refine cg ?_|simp -dsimp[h1,q2,z3,h56,q57,z58,h61,q62,h67]
     refine((C.f54 B hB1 hB2 v65.2 [0,1,2,3,(-1)] v69 e70)).go 0 rfl (by first|simp[h1,q2,z3,h56,q57,z58,h61,q62,h67];done|simp_all) (by simp) (by first|simp[h1,q2,z3,h56,q57,z58,h61,q62,h67];done|simp_all) ?_
     have hF:=ob hF;obtain⟨x71,e72a,hF⟩:=hF
     have e72a:=ZM e72a;obtain⟨ne72,e72⟩:=e72a
     have le72:=ZE e72
     cases hF
     repeat first|refine cg ?_|simp -dsimp[h1,q2,z3,h56,q57,z58,h61,q62,h67,↓e72,le72]
     all_goals(try first|omega|rfl|(simp;done)|(simp only[List.length_cons,List.length_nil]at*;omega)|simp)
    ·repeat first|refine cg ?_|simp -dsimp[h1,q2,z3,h56,q57,z58,h61,q62,h67,q68]
     revert hF;refine abr.sp ?_ ?_<;>intro h73 q74 hF
     ·repeat first|refine cg ?_|simp -dsimp[h1,q2,z3,h56,q57,z58,h61,q62,h67,q68,h73]
      have hF:=ob hF;obtain⟨v75,e76,hF⟩:=hF
      refine ACall.frz ?_ ((C.f54 B hB1 hB2 v65.2 [0,(-1),5,(-2)] v75 e76)).ent
      repeat first|refine cg ?_|simp -dsimp[h1,q2,z3,h56,q57,z58,h61,q62,h67,q68,h73]
      refine((C.f54 B hB1 hB2 v65.2 [0,(-1),5,(-2)] v75 e76)).go 0 rfl (by first|simp[h1,q2,z3,h56,q57,z58,h61,q62,h67,q68,h73];done|simp_all) (by simp) (by first|simp[h1,q2,z3,h56,q57,z58,h61,q62,h67,q68,h73];done|simp_all) ?_
      have hF:=ob hF;obtain⟨x77,e78a,hF⟩:=hF
      have e78a:=ZM e78a;obtain⟨ne78,e78⟩:=e78a
      have le78:=ZE e78
      cases hF
      repeat first|refine cg ?_|simp -dsimp[h1,q2,z3,h56,q57,z58,h61,q62,h67,q68,h73,↓e78,le78]
      all_goals(try first|omega|rfl|(simp;done)|(simp only[List.length_cons,List.length_nil]at*;omega)|simp)
     ·repeat first|refine cg ?_|simp -dsimp[h1,q2,z3,h56,q57,z58,h61,q62,h67,q68,h73,q74]
      revert hF;refine abr.sp ?_ ?_<;>intro h79 q80 hF
      ·have hF:=ob hF;obtain⟨x81,e82a,hF⟩:=hF
       have e82a:=ZM e82a;obtain⟨ne82,e82⟩:=e82a
       have le82:=ZE e82
       repeat first|refine cg ?_|simp -dsimp[h1,q2,z3,h56,q57,z58,h61,q62,h67,q68,h73,q74,h79,↓e82,le82]
       revert hF;refine abr.sp ?_ ?_<;>intro h83 q84 hF
       ·have z85:(0<(x81.edges.length:Int)):=auz
        have hF:=oc hF;obtain⟨c86,hF⟩:=hF
        repeat first|refine cg ?_|simp -dsimp[h1,q2,z3,h56,q57,z58,h61,q62,h67,q68,h73,q74,h79,↓e82,le82,h83,z85]
        refine ADraw.post ?_
        repeat first|refine cg ?_|simp -dsimp[h1,q2,z3,h56,q57,z58,h61,q62,h67,q68,h73,q74,h79,↓e82,le82,h83,z85]
        refine ADraw.opn ?_
        refine ADraw.split [] [(2,6)] [(6,2)] 2 6 rfl rfl (by kernel_rfl) ?_ ?_
        ·refine ADraw.effP [(2,6)] [0,1,2,3,4,5,6,7,8,9,10] [26] [(0,0),(0,0),(0,0),(0,2),(0,2),(0,1),(0,3),(0,3),(2,2),(2,2),(0,3)] [1,1,1,0,2,1,1,1,1,1,1] follows (by kernel_rfl) (by kernel_rfl) (by kernel_rfl) (by kernel_rfl) ?_
         repeat first|refine cg ?_|simp -dsimp[h1,q2,z3,h56,q57,z58,h61,q62,h67,q68,h73,q74,h79,↓e82,le82,h83,z85]
         have hF:=ob hF;obtain⟨v87,e88,hF⟩:=hF
         refine ECallA.frz ?_ ((C.f54 B hB1 hB2 v65.2 [0,1,9,(-1)] v87 e88)).ent
         repeat first|refine cg ?_|simp -dsimp[h1,q2,z3,h56,q57,z58,h61,q62,h67,q68,h73,q74,h79,↓e82,le82,h83,z85]
         refine((C.f54 B hB1 hB2 v65.2 [0,1,9,(-1)] v87 e88)).ego 0 rfl (by first|simp[h1,q2,z3,h56,q57,z58,h61,q62,h67,q68,h73,q74,h79,↓e82,le82,h83,z85];done|simp_all) (by simp) (by first|simp[h1,q2,z3,h56,q57,z58,h61,q62,h67,q68,h73,q74,h79,↓e82,le82,h83,z85];done|simp_all) ?_
         have hF:=ob hF;obtain⟨x89,e90,hF⟩:=hF
         have le90:=ZE e90
         repeat first|refine cg ?_|simp -dsimp[h1,q2,z3,h56,q57,z58,h61,q62,h67,q68,h73,q74,h79,↓e82,le82,h83,z85,↓e90,le90]
         refine GhK.go (Gh.frzElem 1 v63.1.toNat 4 (l2:=2) (n:=List.length (α:=Vl.Edge) (x81.edges.set 0 (⟨x89.ctor,x89.n,x89.m,v87.1⟩:Vl.Edge))) (sz2:=4) (es2:=List.map Vl.Edge.c (x81.edges.set 0 (⟨x89.ctor,x89.n,x89.m,v87.1⟩:Vl.Edge))) rfl (List.getElem?_set_self (by rw[List.length_map];assumption)) (by simp) (by simp) (by decide) (by simp) (by simp)) ?_
         cases hF
         repeat first|refine cg ?_|simp -dsimp[h1,q2,z3,h56,q57,z58,h61,q62,h67,q68,h73,q74,h79,↓e82,le82,h83,z85,↓e90,le90]
         all_goals(try first|omega|rfl|(simp;done)|(simp only[List.length_cons,List.length_nil]at*;omega)|simp)
        ·refine ADraw.split [(6,2)] [(6,2),(2,7)] [(6,2),(7,2)] 2 7 rfl rfl (by kernel_rfl) ?_ ?_
         ·refine ADraw.effP [(6,2),(2,7)] [0,1,5,6,2,3,4,7,8,9,10] [26] [(0,1),(0,1),(0,1),(0,3),(1,1),(1,2),(1,2),(0,3),(2,2),(2,2),(0,3)] [1,1,1,1,1,0,2,1,1,1,1] follows (by kernel_rfl) (by kernel_rfl) (by kernel_rfl) (by kernel_rfl) ?_
          repeat first|refine cg ?_|simp -dsimp[h1,q2,z3,h56,q57,z58,h61,q62,h67,q68,h73,q74,h79,↓e82,le82,h83,z85]
          have hF:=ob hF;obtain⟨v87,e88,hF⟩:=hF
          refine ECallA.frz ?_ ((C.f54 B hB1 hB2 v65.2 [0,1,9,(-1)] v87 e88)).ent
          repeat first|refine cg ?_|simp -dsimp[h1,q2,z3,h56,q57,z58,h61,q62,h67,q68,h73,q74,h79,↓e82,le82,h83,z85]
          refine((C.f54 B hB1 hB2 v65.2 [0,1,9,(-1)] v87 e88)).ego 0 rfl (by first|simp[h1,q2,z3,h56,q57,z58,h61,q62,h67,q68,h73,q74,h79,↓e82,le82,h83,z85];done|simp_all) (by simp) (by first|simp[h1,q2,z3,h56,q57,z58,h61,q62,h67,q68,h73,q74,h79,↓e82,le82,h83,z85];done|simp_all) ?_
          have hF:=ob hF;obtain⟨x89,e90,hF⟩:=hF
          have le90:=ZE e90
          repeat first|refine cg ?_|simp -dsimp[h1,q2,z3,h56,q57,z58,h61,q62,h67,q68,h73,q74,h79,↓e82,le82,h83,z85,↓e90,le90]
          refine GhK.go (Gh.frzElem 1 v63.1.toNat 4 (l2:=2) (n:=List.length (α:=Vl.Edge) (x81.edges.set 0 (⟨x89.ctor,x89.n,x89.m,v87.1⟩:Vl.Edge))) (sz2:=4) (es2:=List.map Vl.Edge.c (x81.edges.set 0 (⟨x89.ctor,x89.n,x89.m,v87.1⟩:Vl.Edge))) rfl (List.getElem?_set_self (by rw[List.length_map];assumption)) (by simp) (by simp) (by decide) (by simp) (by simp)) ?_
          cases hF
          repeat first|refine cg ?_|simp -dsimp[h1,q2,z3,h56,q57,z58,h61,q62,h67,q68,h73,q74,h79,↓e82,le82,h83,z85,↓e90,le90]
          all_goals(try first|omega|rfl|(simp;done)|(simp only[List.length_cons,List.length_nil]at*;omega)|simp)
         ·refine ADraw.effP [(6,2),(7,2)] [0,1,5,6,7,2,3,4,8,9,10] [26] [(0,2),(0,2),(0,1),(0,3),(0,3),(2,2),(2,2),(2,2),(2,2),(2,2),(0,3)] [1,1,1,1,1,1,1,1,1,1,1] follows (by kernel_rfl) (by kernel_rfl) (by kernel_rfl) (by kernel_rfl) ?_
          repeat first|refine cg ?_|simp -dsimp[h1,q2,z3,h56,q57,z58,h61,q62,h67,q68,h73,q74,h79,↓e82,le82,h83,z85]
          have hF:=ob hF;obtain⟨v87,e88,hF⟩:=hF
          refine ECallA.frz ?_ ((C.f54 B hB1 hB2 v65.2 [0,1,9,(-1)] v87 e88)).ent
          repeat first|refine cg ?_|simp -dsimp[h1,q2,z3,h56,q57,z58,h61,q62,h67,q68,h73,q74,h79,↓e82,le82,h83,z85]
          refine((C.f54 B hB1 hB2 v65.2 [0,1,9,(-1)] v87 e88)).ego 0 rfl (by first|simp[h1,q2,z3,h56,q57,z58,h61,q62,h67,q68,h73,q74,h79,↓e82,le82,h83,z85];done|simp_all) (by simp) (by first|simp[h1,q2,z3,h56,q57,z58,h61,q62,h67,q68,h73,q74,h79,↓e82,le82,h83,z85];done|simp_all) ?_
          have hF:=ob hF;obtain⟨x89,e90,hF⟩:=hF
          have le90:=ZE e90
          repeat first|refine cg ?_|simp -dsimp[h1,q2,z3,h56,q57,z58,h61,q62,h67,q68,h73,q74,h79,↓e82,le82,h83,z85,↓e90,le90]
          refine GhK.go (Gh.frzElem 1 v63.1.toNat 4 (l2:=2) (n:=List.length (α:=Vl.Edge) (x81.edges.set 0 (⟨x89.ctor,x89.n,x89.m,v87.1⟩:Vl.Edge))) (sz2:=4) (es2:=List.map Vl.Edge.c (x81.edges.set 0 (⟨x89.ctor,x89.n,x89.m,v87.1⟩:Vl.Edge))) rfl (List.getElem?_set_self (by rw[List.length_map];assumption)) (by simp) (by simp) (by decide) (by simp) (by simp)) ?_
          cases hF
          repeat first|refine cg ?_|simp -dsimp[h1,q2,z3,h56,q57,z58,h61,q62,h67,q68,h73,q74,h79,↓e82,le82,h83,z85,↓e90,le90]
          all_goals(try first|omega|rfl|(simp;done)|(simp only[List.length_cons,List.length_nil]at*;omega)|simp)
       ·have z85:¬(0<(x81.edges.length:Int)):=auz
        cases hF
        repeat first|refine cg ?_|simp -dsimp[h1,q2,z3,h56,q57,z58,h61,q62,h67,q68,h73,q74,h79,↓e82,le82,h83,q84,z85]
        all_goals(try first|omega|rfl|(simp;done)|(simp only[List.length_cons,List.length_nil]at*;omega)|simp)
      ·repeat first|refine cg ?_|simp -dsimp[h1,q2,z3,h56,q57,z58,h61,q62,h67,q68,h73,q74,h79,q80]
       revert hF;refine abr.sp ?_ ?_<;>intro h91 q92 hF
       ·have hF:=oc hF;obtain⟨c93,hF⟩:=hF
        cases hF
        repeat first|refine cg ?_|simp -dsimp[h1,q2,z3,h56,q57,z58,h61,q62,h67,q68,h73,q74,h79,q80,h91]
        all_goals(try first|omega|rfl|(simp;done)|(simp only[List.length_cons,List.length_nil]at*;omega)|simp)
       ·repeat first|refine cg ?_|simp -dsimp[h1,q2,z3,h56,q57,z58,h61,q62,h67,q68,h73,q74,h79,q80,h91,q92]
        revert hF;refine abr.sp ?_ ?_<;>intro h94 q95 hF
        ·have hF:=ob hF;obtain⟨x96,e97a,hF⟩:=hF
         have e97a:=ZM e97a;obtain⟨ne97,e97⟩:=e97a
         have le97:=ZE e97
         have hF:=oc hF;obtain⟨c98,hF⟩:=hF
         cases hF
         repeat first|refine cg ?_|simp -dsimp[h1,q2,z3,h56,q57,z58,h61,q62,h67,q68,h73,q74,h79,q80,h91,q92,h94,↓e97,le97]
         all_goals(try first|omega|rfl|(simp;done)|(simp only[List.length_cons,List.length_nil]at*;omega)|simp)
        ·cases hF
         repeat first|refine cg ?_|simp -dsimp[h1,q2,z3,h56,q57,z58,h61,q62,h67,q68,h73,q74,h79,q80,h91,q92,h94,q95]
         all_goals(try first|omega|rfl|(simp;done)|(simp only[List.length_cons,List.length_nil]at*;omega)|simp)
  ·have z58:((v53.1.length:Int)=0):=auz
   cases hF
   repeat first|refine cg ?_|simp -dsimp[h1,q2,z3,h56,q57,z58]
   all_goals(try first|omega|rfl|(simp;done)|(simp only[List.length_cons,List.length_nil]at*;omega)|simp)
theorem C.f171 (code:List Int)(r:List Vl.Node)(hF:F.f171 code=some r):PureCall Try.prog B 9 [am cU code] (am Vl.Node.c r):=by
 unfold F.f171 at hF
 refine PureCall.enterLe Try.func9 (by kernel_rfl) rfl Try.ntmps9 (by simp) (by simp) ?_
 repeat first|refine cg ?_|simp -dsimp
 have hF:=ob hF;obtain⟨v,e1,hF⟩:=hF
 refine((C.spec_l8Nodes__o0 B hB1 hB2 code v e1)).go (pl [0]) (by simp) (by simp) (by intro i j hi;simp at hi) (by intro i hi hi';simp at hi hi';have hi:i=0:=(by omega);rcases hi with rfl<;>simp[pl]) (by simp) (by simp) ?_
 cases hF
 repeat first|refine cg ?_|simp -dsimp
 all_goals(try first|omega|rfl)
theorem C.f172 (n:Int)(low:Int)(high:Int)(r:Bool)(hF:F.f172 n low high=some r):PureCall Try.prog B 16 [li n,li low,li high] (.lit (.bool r)):=by
 unfold F.f172 at hF
 refine PureCall.enterLe Try.func16 (by kernel_rfl) rfl Try.ntmps16 (by simp) (by simp) ?_
 repeat first|refine cg ?_|simp -dsimp
 revert hF;refine abr.sp ?_ ?_<;>intro h1 q2 hF
 ·cases hF
  repeat first|refine cg ?_|simp -dsimp[h1]
  all_goals(try first|omega|rfl)
 ·cases hF
  repeat first|refine cg ?_|simp -dsimp[h1,q2]
  all_goals(try first|omega|rfl)
theorem C.f173 (e:Vl.Edge)(a1:Int)(r:Bool)(hF:F.f173 e a1=some r):PureCall Try.prog B 18 [.agg [li e.ctor,li e.n,li e.m,li e.to],.rptr [li a1] 0] (.lit (.bool r)):=by
 unfold F.f173 at hF
 refine PureCall.enterLe Try.func18 (by kernel_rfl) rfl Try.ntmps18 (by simp) (by simp) ?_
 repeat first|refine cg ?_|simp -dsimp
 have hF:=ob hF;obtain⟨v,e1,hF⟩:=hF
 refine((C.f172 B hB1 hB2 e.to 0 (i64.wrap (a1-1)) v e1)).goW (by simp) (by simp) ?_
 cases hF
 repeat first|refine cg ?_|simp -dsimp
 all_goals(try first|omega|rfl)
theorem CC.f174 (s:List Vl.Edge)(k0:Int):(∀(i:Nat) (o:Lo Int Unit),F.f174 s k0 i=some o->∀(c:Code),Zc [1,0,1,0,0] (ZK Try.f27)=some c->∀(Q:Exit->ASt->Prop),o.post (fun r=>∀st,ZA4 Try.prog Try.f27 (fun r' _=>r'.le (li r)) .ret st->Q .ret st) (fun s=>Q (.exit 0) ⟨[],[]⟩)->ALoopU Try.prog B 0 19 (hold c .mk) ⟨[(0,am Vl.Edge.c s),(1,.fn (.func 18) [] [.rptr [li k0] 0]),(7,li (s.length:Int)),(8,li (i:Int))],[]⟩ (hold Q .mk)):=by
 refine F.f174.partial_correctness s k0
  _
  ?_
 ·intro _f_f174 ih_f174 i o hF
  intro c hc Q hq
  obtain rfl:c=_:=ZO hc rfl
  refine ALoopU.know fun hk hs=> ?_
  have b0:=hk 0
  simp -dsimp at b0
  clear hk hs
  refine ALoopU.enter ?_
  repeat first|refine cg ?_|simp -dsimp
  revert hF;refine abr.sp ?_ ?_<;>intro h1 q2 hF
  ·have z3:((i:Int)<(s.length:Int)):=auz
   have hF:=ob hF;obtain⟨x,e4,hF⟩:=hF
   have le4:=ZE e4
   repeat first|refine cg ?_|simp -dsimp[h1,z3,↓e4]
   have hF:=ob hF;obtain⟨v,e5,hF⟩:=hF
   refine((C.f173 B hB1 hB2 x k0 v e5)).goW (by first|simp[h1,z3,↓e4];done|simp_all) (by simp) ?_
   repeat first|refine cg ?_|simp -dsimp[h1,z3,↓e4]
   revert hF;refine abr.sp (fun h6 q7 hF=> ?_) (fun h6 q7 hF=> ?_)
   ·cases hF
    repeat first|refine cg ?_|simp -dsimp[h1,z3,↓e4,h6]
    refine Leave.go _ (Gh.refl _) (hq _ ?_)
    repeat first|refine cg ?_|simp -dsimp[h1,z3,↓e4,h6]
   ·have w8:i64.wrap ((i:Int)+1)=(i:Int)+1:=ZG (by omega) (by omega)
    repeat first|refine cg ?_|simp -dsimp[h1,z3,↓e4,h6,q7,w8]
    refine Again.go _ ?_ ((ih_f174 (i+1) o hF) _ rfl _ hq)
    exact(Gh.to3 (by simp) (by first|simp -dsimp[h1,z3,↓e4,h6,q7,w8];done|simp_all))
  ·have z3:¬((i:Int)<(s.length:Int)):=auz
   cases hF
   repeat first|refine cg ?_|simp -dsimp[h1,q2,z3]
   refine Leave.go _ (Gh.to3 (by simp) (by first|simp -dsimp[h1,q2,z3];done|simp_all)) hq
theorem C.f175 (s:List Vl.Edge)(k0:Int)(r:Int)(hF:F.f175 s k0=some r):PureCall Try.prog B 27 [am Vl.Edge.c s,.fn (.func 18) [] [.rptr [li k0] 0]] (li r):=by
 unfold F.f175 at hF
 refine PureCall.enterLe Try.func27 (by kernel_rfl) rfl Try.ntmps27 (by simp) (by simp) ?_
 repeat first|refine cg ?_|simp -dsimp
 have hF:=ob hF;obtain⟨o',ho9,hF⟩:=hF
 refine ALoop.goU _ ?_ (((CC.f174 B hB1 hB2 s k0) 0 o' ho9) _ rfl _ ?_)
 ·exact(Gh.to3 (by simp) (by simp -dsimp))
 rcases o' with r0|sx
 ·dsimp only at hF
  cases hF
  intro st h
  simpa using h
 ·dsimp only at hF
  cases hF
  repeat first|refine cg ?_|simp -dsimp
  all_goals(try first|omega|rfl)
theorem C.f176 (s:List Vl.Edge)(k0:Int)(r:Bool)(hF:F.f176 s k0=some r):PureCall Try.prog B 17 [am Vl.Edge.c s,.fn (.func 18) [] [.rptr [li k0] 0]] (.lit (.bool r)):=by
 unfold F.f176 at hF
 refine PureCall.enterLe Try.func17 (by kernel_rfl) rfl Try.ntmps17 (by simp) (by simp) ?_
 repeat first|refine cg ?_|simp -dsimp
 have hF:=ob hF;obtain⟨v,e1,hF⟩:=hF
 refine((C.f175 B hB1 hB2 s k0 v e1)).goW (by simp) (by simp) ?_
 cases hF
 repeat first|refine cg ?_|simp -dsimp
 all_goals(try first|omega|rfl)
theorem CC.f177 (list:List Vl.Node):(∀(i:Nat) (o:Lo Bool Unit),F.f177 list i=some o->∀(c:Code),Zc [1,0,1,0,0] (ZK Try.f10)=some c->∀(Q:Exit->ASt->Prop),o.post (fun r=>∀st,ZA4 Try.prog Try.f10 (fun r' _=>r'.le (.lit (.bool r))) .ret st->Q .ret st) (fun s=>Q (.exit 0) ⟨[(0,am Vl.Node.c list)],[]⟩)->ALoopU Try.prog B 0 40 (hold c .mk) ⟨[(0,am Vl.Node.c list),(5,am Vl.Node.c list),(6,li (list.length:Int)),(7,li (i:Int))],[]⟩ (hold Q .mk)):=by
 refine F.f177.partial_correctness list
  _
  ?_
 ·intro _f_f177 ih_f177 i o hF
  intro c hc Q hq
  obtain rfl:c=_:=ZO hc rfl
  refine ALoopU.know fun hk hs=> ?_
  have b0:=hk 0
  simp -dsimp at b0
  have b5:=hk 5
  simp -dsimp at b5
  clear hk hs
  refine ALoopU.enter ?_
  repeat first|refine cg ?_|simp -dsimp
  revert hF;refine abr.sp ?_ ?_<;>intro h1 q2 hF
  ·have z3:((i:Int)<(list.length:Int)):=auz
   have hF:=ob hF;obtain⟨x,e4,hF⟩:=hF
   have le4:=ZE e4
   repeat first|refine cg ?_|simp -dsimp[h1,z3,↓e4]
   have hF:=ob hF;obtain⟨v,e5,hF⟩:=hF
   refine((C.f172 B hB1 hB2 x.op 0 2 v e5)).goW (by first|simp[h1,z3,↓e4];done|simp_all) (by simp) ?_
   repeat first|refine cg ?_|simp -dsimp[h1,z3,↓e4]
   revert hF;refine abr.sp (fun h6 q7 hF=> ?_) (fun h6 q7 hF=> ?_)
   ·repeat first|refine cg ?_|simp -dsimp[h1,z3,↓e4,h6]
    revert hF;refine abr.ns ?_ ?_<;>intro h8 q9 hF
    ·have z10:¬(10<(x.edges.length:Int)):=auz
     repeat first|refine cg ?_|simp -dsimp[h1,z3,↓e4,h6,h8,q9,z10]
     have hF:=ob hF;obtain⟨v11,e12,hF⟩:=hF
     refine((C.f172 B hB1 hB2 x.els (-1) (i64.wrap ((i:Int) -1)) v11 e12)).goW (by first|simp[h1,z3,↓e4,h6,h8,q9,z10];done|simp_all) (by simp) ?_
     repeat first|refine cg ?_|simp -dsimp[h1,z3,↓e4,h6,h8,q9,z10]
     revert hF;refine abr.sp (fun h13 q14 hF=> ?_) (fun h13 q14 hF=> ?_)
     ·repeat first|refine cg ?_|simp -dsimp[h1,z3,↓e4,h6,h8,q9,z10,h13]
      have hF:=ob hF;obtain⟨v15,e16,hF⟩:=hF
      refine((C.f176 B hB1 hB2 x.edges (i:Int) v15 e16)).lend (by first|simp -dsimp[h1,z3,↓e4,h6,h8,q9,z10,h13];done|simp_all) (by simp -dsimp) ?_
      repeat first|refine cg ?_|simp -dsimp[h1,z3,↓e4,h6,h8,q9,z10,h13]
      revert hF;refine abr.sp (fun h17 q18 hF=> ?_) (fun h17 q18 hF=> ?_)
      ·cases hF
       repeat first|refine cg ?_|simp -dsimp[h1,z3,↓e4,h6,h8,q9,z10,h13,h17]
       refine Leave.go _ (Gh.refl _) (hq _ ?_)
       repeat first|refine cg ?_|simp -dsimp[h1,z3,↓e4,h6,h8,q9,z10,h13,h17]
      ·have w19:i64.wrap ((i:Int)+1)=(i:Int)+1:=ZG (by omega) (by omega)
       repeat first|refine cg ?_|simp -dsimp[h1,z3,↓e4,h6,h8,q9,z10,h13,h17,q18,w19]
       refine Again.go _ ?_ ((ih_f177 (i+1) o hF) _ rfl _ hq)
       exact(Gh.to3 (by simp) (by first|simp -dsimp[h1,z3,↓e4,h6,h8,q9,z10,h13,h17,q18,w19];done|simp_all))
     ·cases hF
      repeat first|refine cg ?_|simp -dsimp[h1,z3,↓e4,h6,h8,q9,z10,h13,q14]
      refine Leave.go _ (Gh.refl _) (hq _ ?_)
      repeat first|refine cg ?_|simp -dsimp[h1,z3,↓e4,h6,h8,q9,z10,h13,q14]
    ·have z10:(10<(x.edges.length:Int)):=auz
     cases hF
     repeat first|refine cg ?_|simp -dsimp[h1,z3,↓e4,h6,h8,q9,z10]
     refine Leave.go _ (Gh.refl _) (hq _ ?_)
     repeat first|refine cg ?_|simp -dsimp[h1,z3,↓e4,h6,h8,q9,z10]
   ·cases hF
    repeat first|refine cg ?_|simp -dsimp[h1,z3,↓e4,h6,q7]
    refine Leave.go _ (Gh.refl _) (hq _ ?_)
    repeat first|refine cg ?_|simp -dsimp[h1,z3,↓e4,h6,q7]
  ·have z3:¬((i:Int)<(list.length:Int)):=auz
   cases hF
   repeat first|refine cg ?_|simp -dsimp[h1,q2,z3]
   refine Leave.go _ (Gh.to3 (by simp) (by first|simp -dsimp[h1,q2,z3];done|simp_all)) hq
theorem C.f178 (list:List Vl.Node)(r:Bool)(hF:F.f178 list=some r):PureCall Try.prog B 10 [am Vl.Node.c list] (.lit (.bool r)):=by
 unfold F.f178 at hF
 refine PureCall.enterLe Try.func10 (by kernel_rfl) rfl Try.ntmps10 (by simp) (by simp) ?_
 repeat first|refine cg ?_|simp -dsimp
 have hF:=ob hF;obtain⟨o',ho20,hF⟩:=hF
 refine ALoop.goU _ ?_ (((CC.f177 B hB1 hB2 list) 0 o' ho20) _ rfl _ ?_)
 ·exact(Gh.to3 (by simp) (by simp -dsimp))
 rcases o' with r0|sx
 ·dsimp only at hF
  cases hF
  intro st h
  simpa using h
 ·dsimp only at hF
  repeat first|refine cg ?_|simp -dsimp
  have hF:=ob hF;obtain⟨v21,e22,hF⟩:=hF
  refine((C.f172 B hB1 hB2 (list.length:Int) 1 300 v21 e22)).goW (by simp) (by simp) ?_
  cases hF
  repeat first|refine cg ?_|simp -dsimp
  all_goals(try first|omega|rfl)
theorem CC.f179 (list:List Vl.Node)(i:Nat)(x:Vl.Node):(∀(k:Nat) (o:Lo Bool Unit),F.f179 list i x k=some o->∀(c:Code),Zc [1,1,0,1,0,0,1,0,0,1,1,1,0,0] (ZK Try.f11)=some c->∀(Q:Exit->ASt->Prop),o.post (fun r=>∀st,ZA4 Try.prog Try.f11 (fun r' _=>r'.le (.lit (.bool r))) .ret st->Q .ret st) (fun s=>Q (.exit 2) ⟨[(0,am Vl.Node.c list),(3,li (i:Int))],[]⟩)->ALoopU Try.prog B 0 74 (hold c .mk) ⟨[(0,am Vl.Node.c list),(3,li (i:Int)),(4,.ptr 0 0),(5,li (k:Int))],[.cells [li x.op,li x.clause,am PathBind.c x.binds,am cI x.path,am Vl.Edge.c x.edges,li x.els]]⟩ (hold Q .mk)):=by
 refine F.f179.partial_correctness list i x
  _
  ?_
 ·intro _f_f179 ih_f179 k o hF
  intro c hc Q hq
  obtain rfl:c=_:=ZO hc rfl
  refine ALoopU.know fun hk hs=> ?_
  have b0:=hk 0
  simp -dsimp at b0
  have d0:=hs 0 _ rfl
  simp -dsimp[Blk.bnd]at d0
  clear hk hs
  refine ALoopU.enter ?_
  repeat first|refine cg ?_|simp -dsimp
  revert hF;refine abr.sp ?_ ?_<;>intro h23 q24 hF
  ·have z25:((k:Int)<(x.edges.length:Int)):=auz
   have hF:=ob hF;obtain⟨x26,e27,hF⟩:=hF
   have le27:=ZE e27
   repeat first|refine cg ?_|simp -dsimp[h23,z25,↓e27]
   revert hF;refine abr.ns ?_ ?_<;>intro h28 q29 hF
   ·repeat first|refine cg ?_|simp -dsimp[h23,z25,↓e27,h28,q29]
    revert hF;refine abr.sp ?_ ?_<;>intro h30 q31 hF
    ·cases hF
     repeat first|refine cg ?_|simp -dsimp[h23,z25,↓e27,h28,q29,h30]
     refine Leave.go _ (Gh.refl _) (hq _ ?_)
     repeat first|refine cg ?_|simp -dsimp[h23,z25,↓e27,h28,q29,h30]
    ·have w32:i64.wrap ((k:Int)+1)=(k:Int)+1:=ZG (by omega) (by omega)
     repeat first|refine cg ?_|simp -dsimp[h23,z25,↓e27,h28,q29,h30,q31,w32]
     refine Again.go _ ?_ ((ih_f179 (k+1) o hF) _ rfl _ hq)
     exact(Gh.to3 (by simp) (by first|simp -dsimp[h23,z25,↓e27,h28,q29,h30,q31,w32];done|simp_all))
   ·cases hF
    repeat first|refine cg ?_|simp -dsimp[h23,z25,↓e27,h28,q29]
    refine Leave.go _ (Gh.refl _) (hq _ ?_)
    repeat first|refine cg ?_|simp -dsimp[h23,z25,↓e27,h28,q29]
  ·have z25:¬((k:Int)<(x.edges.length:Int)):=auz
   cases hF
   repeat first|refine cg ?_|simp -dsimp[h23,q24,z25]
   refine Leave.go _ (Gh.to3 (by simp) (by first|simp -dsimp[h23,q24,z25];done|simp_all)) hq
theorem CC.f180 (list:List Vl.Node):(∀(i:Nat) (o:Lo Bool Unit),F.f180 list i=some o->∀(c:Code),Zc [1,1,0,1,0,0] (ZK Try.f11)=some c->∀(Q:Exit->ASt->Prop),o.post (fun r=>∀st,ZA4 Try.prog Try.f11 (fun r' _=>r'.le (.lit (.bool r))) .ret st->Q .ret st) (fun s=>Q (.exit 0) ⟨[],[]⟩)->ALoopU Try.prog B 0 74 (hold c .mk) ⟨[(0,am Vl.Node.c list),(3,li (i:Int))],[]⟩ (hold Q .mk)):=by
 refine F.f180.partial_correctness list
  _
  ?_
 ·intro _f_f180 ih_f180 i o hF
  intro c hc Q hq
  obtain rfl:c=_:=ZO hc rfl
  refine ALoopU.know fun hk hs=> ?_
  have b0:=hk 0
  simp -dsimp at b0
  clear hk hs
  refine ALoopU.enter ?_
  repeat first|refine cg ?_|simp -dsimp
  revert hF;refine abr.sp ?_ ?_<;>intro h7 q8 hF
  ·have z9:((i:Int)<(list.length:Int)):=auz
   have hF:=ob hF;obtain⟨x,e10,hF⟩:=hF
   have le10:=ZE e10
   repeat first|refine cg ?_|simp -dsimp[h7,z9,↓e10]
   refine ADraw.simple follows (by kernel_rfl) (by kernel_rfl) ?_
   repeat first|refine cg ?_|simp -dsimp[h7,z9,↓e10]
   revert hF;refine abr.ns ?_ ?_<;>intro h11 q12 hF
   ·repeat first|refine cg ?_|simp -dsimp[h7,z9,↓e10,h11,q12]
    revert hF;refine abr.ns ?_ ?_<;>intro h13 q14 hF
    ·repeat first|refine cg ?_|simp -dsimp[h7,z9,↓e10,h11,q12,h13,q14]
     have hF:=ob hF;obtain⟨v,e15,hF⟩:=hF
     refine((C.f158 B hB1 hB2 v e15)).pgoW (by first|simp[h7,z9,↓e10,h11,q12,h13,q14];done|simp_all) (by simp) ?_
     repeat first|refine cg ?_|simp -dsimp[h7,z9,↓e10,h11,q12,h13,q14]
     revert hF;refine abr.ns ?_ ?_<;>intro h16 q17 hF
     ·repeat first|refine cg ?_|simp -dsimp[h7,z9,↓e10,h11,q12,h13,q14,h16,q17]
      revert hF;refine abr.ns ?_ ?_<;>intro h18 q19 hF
      ·repeat first|refine cg ?_|simp -dsimp[h7,z9,↓e10,h11,q12,h13,q14,h16,q17,h18,q19]
       revert hF;refine abr.sp ?_ ?_<;>intro h20 q21 hF
       ·have z22:(10<(x.edges.length:Int)):=auz
        cases hF
        repeat first|refine cg ?_|simp -dsimp[h7,z9,↓e10,h11,q12,h13,q14,h16,q17,h18,q19,h20,z22]
        refine Leave.go _ (Gh.refl _) (hq _ ?_)
        repeat first|refine cg ?_|simp -dsimp[h7,z9,↓e10,h11,q12,h13,q14,h16,q17,h18,q19,h20,z22]
       ·have z22:¬(10<(x.edges.length:Int)):=auz
        repeat first|refine cg ?_|simp -dsimp[h7,z9,↓e10,h11,q12,h13,q14,h16,q17,h18,q19,h20,q21,z22]
        have hF:=ob hF;obtain⟨o',ho33,hF⟩:=hF
        refine ALoop.goU _ ?_ (((CC.f179 B hB1 hB2 list i x) 0 o' ho33) _ rfl _ ?_)
        ·exact(Gh.to3 (by simp) (by first|simp -dsimp[h7,z9,↓e10,h11,q12,h13,q14,h16,q17,h18,q19,h20,q21,z22];done|simp_all))
        rcases o' with r0|sx
        ·dsimp only at hF
         cases hF
         intro st h
         simp -dsimp
         refine Leave.go st (Gh.refl _) (hq st h)
        ·dsimp only at hF
         have hF:=oc hF;obtain⟨c34,hF⟩:=hF
         have w35:i64.wrap ((i:Int)+1)=(i:Int)+1:=ZG (by omega) (by omega)
         repeat first|refine cg ?_|simp -dsimp[w35]
         refine Again.go _ ?_ ((ih_f180 (i+1) o hF) _ rfl _ hq)
         exact(Gh.to3 (by simp) (by first|simp -dsimp[w35];done|simp_all))
      ·cases hF
       repeat first|refine cg ?_|simp -dsimp[h7,z9,↓e10,h11,q12,h13,q14,h16,q17,h18,q19]
       refine Leave.go _ (Gh.refl _) (hq _ ?_)
       repeat first|refine cg ?_|simp -dsimp[h7,z9,↓e10,h11,q12,h13,q14,h16,q17,h18,q19]
     ·cases hF
      repeat first|refine cg ?_|simp -dsimp[h7,z9,↓e10,h11,q12,h13,q14,h16,q17]
      refine Leave.go _ (Gh.refl _) (hq _ ?_)
      repeat first|refine cg ?_|simp -dsimp[h7,z9,↓e10,h11,q12,h13,q14,h16,q17]
    ·cases hF
     repeat first|refine cg ?_|simp -dsimp[h7,z9,↓e10,h11,q12,h13,q14]
     refine Leave.go _ (Gh.refl _) (hq _ ?_)
     repeat first|refine cg ?_|simp -dsimp[h7,z9,↓e10,h11,q12,h13,q14]
   ·cases hF
    repeat first|refine cg ?_|simp -dsimp[h7,z9,↓e10,h11,q12]
    refine Leave.go _ (Gh.refl _) (hq _ ?_)
    repeat first|refine cg ?_|simp -dsimp[h7,z9,↓e10,h11,q12]
  ·have z9:¬((i:Int)<(list.length:Int)):=auz
   cases hF
   repeat first|refine cg ?_|simp -dsimp[h7,q8,z9]
   refine Leave.go _ (Gh.to3 (by simp) (by first|simp -dsimp[h7,q8,z9];done|simp_all)) hq
theorem C.f181 (list:List Vl.Node)(r:Bool)(hF:F.f181 list=some r):PureCall Try.prog B 11 [am Vl.Node.c list] (.lit (.bool r)):=by
 unfold F.f181 at hF
 refine PureCall.enterLe Try.func11 (by kernel_rfl) rfl Try.ntmps11 (by simp) (by simp) ?_
 repeat first|refine cg ?_|simp -dsimp
 revert hF;refine abr.ns ?_ ?_<;>intro h1 q2 hF
 ·have z3:¬((list.length:Int)=0):=auz
  repeat first|refine cg ?_|simp -dsimp[h1,q2,z3]
  revert hF;refine abr.sp ?_ ?_<;>intro h4 q5 hF
  ·have z6:(300<(list.length:Int)):=auz
   cases hF
   repeat first|refine cg ?_|simp -dsimp[h1,q2,z3,h4,z6]
   all_goals(try first|omega|rfl)
  ·have z6:¬(300<(list.length:Int)):=auz
   repeat first|refine cg ?_|simp -dsimp[h1,q2,z3,h4,q5,z6]
   have hF:=ob hF;obtain⟨o'37,ho36,hF⟩:=hF
   refine ALoop.goU _ ?_ (((CC.f180 B hB1 hB2 list) 0 o'37 ho36) _ rfl _ ?_)
   ·exact(Gh.to3 (by simp) (by first|simp -dsimp[h1,q2,z3,h4,q5,z6];done|simp_all))
   rcases o'37 with r039|sx38
   ·dsimp only at hF
    cases hF
    intro st h
    simpa using h
   ·dsimp only at hF
    cases hF
    repeat first|refine cg ?_|simp -dsimp
    all_goals(try first|omega|rfl)
 ·have z3:((list.length:Int)=0):=auz
  cases hF
  repeat first|refine cg ?_|simp -dsimp[h1,q2,z3]
  all_goals(try first|omega|rfl)
theorem C.f182 (code:List Int)(more:List Int)(r:Bool)(hF:F.f182 code more=some r):PureCall Try.prog B 4 [am cU code,am cU more] (.lit (.bool r)):=by
 unfold F.f182 at hF
 refine PureCall.enterLe Try.func4 (by kernel_rfl) rfl Try.ntmps4 (by simp) (by simp) ?_
 repeat first|refine cg ?_|simp -dsimp
 revert hF;refine abr.ns ?_ ?_<;>intro h1 q2 hF
 ·have z3:¬(1048576<(code.length:Int)):=auz
  repeat first|refine cg ?_|simp -dsimp[h1,q2,z3]
  revert hF;refine abr.sp ?_ ?_<;>intro h4 q5 hF
  ·have z6:(1048576<(more.length:Int)):=auz
   cases hF
   repeat first|refine cg ?_|simp -dsimp[h1,q2,z3,h4,z6]
   all_goals(try first|omega|rfl)
  ·have z6:¬(1048576<(more.length:Int)):=auz
   repeat first|refine cg ?_|simp -dsimp[h1,q2,z3,h4,q5,z6]
   have hF:=ob hF;obtain⟨v,e7,hF⟩:=hF
   refine((C.f171 B hB1 hB2 code v e7)).goW (by first|simp[h1,q2,z3,h4,q5,z6];done|simp_all) (by simp) ?_
   repeat first|refine cg ?_|simp -dsimp[h1,q2,z3,h4,q5,z6]
   have hF:=ob hF;obtain⟨v8,e9,hF⟩:=hF
   refine((C.f178 B hB1 hB2 v v8 e9)).goW (by first|simp[h1,q2,z3,h4,q5,z6];done|simp_all) (by simp) ?_
   repeat first|refine cg ?_|simp -dsimp[h1,q2,z3,h4,q5,z6]
   have hF:=ob hF;obtain⟨v10,e11,hF⟩:=hF
   refine((C.f181 B hB1 hB2 v v10 e11)).goW (by first|simp[h1,q2,z3,h4,q5,z6];done|simp_all) (by simp) ?_
   repeat first|refine cg ?_|simp -dsimp[h1,q2,z3,h4,q5,z6]
   revert hF;refine abr.sp ?_ ?_<;>intro h12 q13 hF
   ·repeat first|refine cg ?_|simp -dsimp[h1,q2,z3,h4,q5,z6,h12]
    revert hF;refine abr.ns (fun h14 q15 hF=> ?_) (fun h14 q15 hF=> ?_)
    ·repeat first|refine cg ?_|simp -dsimp[h1,q2,z3,h4,q5,z6,h12,h14,q15]
     have hF:=ob hF;obtain⟨v16,e17,hF⟩:=hF
     refine((C.f181 B hB1 hB2 v v16 e17)).goW (by first|simp[h1,q2,z3,h4,q5,z6,h12,h14,q15];done|simp_all) (by simp) ?_
     cases hF
     repeat first|refine cg ?_|simp -dsimp[h1,q2,z3,h4,q5,z6,h12,h14,q15]
     all_goals(try first|omega|rfl)
    ·have hF:=oc hF;obtain⟨c18,hF⟩:=hF
     have hF:=oc hF;obtain⟨c19,hF⟩:=hF
     repeat first|refine cg ?_|simp -dsimp[h1,q2,z3,h4,q5,z6,h12,h14,q15]
     have hF:=ob hF;obtain⟨v20,e21,hF⟩:=hF
     refine((C.f178 B hB1 hB2 ((v.drop 0).take ((i64.wrap (1+(more.length:Int).tmod (v.length:Int))).toNat-0)) v20 e21)).goW (by first|simp[h1,q2,z3,h4,q5,z6,h12,h14,q15];done|simp_all) (by simp) ?_
     cases hF
     repeat first|refine cg ?_|simp -dsimp[h1,q2,z3,h4,q5,z6,h12,h14,q15]
     all_goals(try first|omega|rfl)
   ·repeat first|refine cg ?_|simp -dsimp[h1,q2,z3,h4,q5,z6,h12,q13]
    have hF:=ob hF;obtain⟨v22,e23,hF⟩:=hF
    refine((C.f181 B hB1 hB2 v v22 e23)).goW (by first|simp[h1,q2,z3,h4,q5,z6,h12,q13];done|simp_all) (by simp) ?_
    cases hF
    repeat first|refine cg ?_|simp -dsimp[h1,q2,z3,h4,q5,z6,h12,q13]
    all_goals(try first|omega|rfl)
 ·have z3:(1048576<(code.length:Int)):=auz
  cases hF
  repeat first|refine cg ?_|simp -dsimp[h1,q2,z3]
  all_goals(try first|omega|rfl)
end Go.Proofs.Ytnmbhmbljbhonaa
