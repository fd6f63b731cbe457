/- A part of the proof. -/
import Derived.Test.YtnmbhmbljbhonaaGreatProg
import Derived.Test.YtnmbhmbljbhonaaGreatExpandNodesF
import Derived.Test.YtnmbhmbljbhonaaGreatExpandNodesC1
namespace Go.Proofs.YtnmbhmbljbhonaaGreat
open Go Go.Proofs Go.Vl
open abr renaming sp->aS,ns->aN
open Leave renaming go->lG
open Again renaming go->aG
open ALoopU renaming know->kN,enter->eN
open Gh renaming to3->gT,refl->gR
open PureCall renaming enterLe->pE
open Go.IntKind (i64)
set_option linter.all false
set_option maxRecDepth 100000
set_option maxHeartbeats 4000000
set_option synthInstance.maxSize 100000
set_option synthInstance.maxHeartbeats 4000000
attribute [local irreducible] GhK ECallA ZHC aL aLg ZK5 ZIF ZFS ZD5 ZG3 ZCA MutCall BCall chk abr ACall ALoop ALoopU ADraw Again Leave ZDW PCall ZAh awp ZGU PureCall hold
variable (B : Nat) (hB1 : 67108864 <= B) (hB2 : B <= 9223372036854775807)
include hB1 hB2
theorem C.f92  (r:Pattern)(hF:F.f92=some r):PureCall Tryz.prog B 62 [] (.agg [li r.op,li r.ctor,li r.n,li r.m,li r.var,am Pattern.c r.kids]):=by
 unfold F.f92 at hF
 refine pE Tryz.func62 (by kernel_rfl) rfl Tryz.ntmps62 (by simp) (by simp) ?_
 cases hF
 repeat first|refine cg ?_|simp -dsimp
theorem C.f93 (r':ZE)(p:Pattern)(r:Pattern×ZE)(hF:F.f93 r' p=some r):MutCall Tryz.prog B 80 [am cU r'.f0,li r'.f1] [.ptr 0 0,.agg [li p.op,li p.ctor,li p.n,li p.m,li p.var,am Pattern.c p.kids]] (.agg [li r.1.op,li r.1.ctor,li r.1.n,li r.1.m,li r.1.var,am Pattern.c r.1.kids]) [am cU r.2.f0,li r.2.f1]:=by
 unfold F.f93 at hF
 refine MutCall.enter Tryz.func80 (by kernel_rfl) rfl Tryz.ntmps80 (by simp) (by simp) (by simp) (by simp) ?_
 have hF:=oc hF;obtain⟨c1,hF⟩:=hF
 repeat first|refine cg ?_|simp -dsimp
 have hF:=ob hF;obtain⟨v,e2,hF⟩:=hF
 refine((C.f1 B hB1 hB2 r' 30 v e2)).go 0 rfl (by simp) (by simp) (by simp) ?_
 repeat first|refine cg ?_|simp -dsimp
 revert hF;refine aS ?_ ?_<;>intro h3 q4 hF
 ·repeat first|refine cg ?_|simp -dsimp[h3]
  have hF:=ob hF;obtain⟨v5,e6,hF⟩:=hF
  refine ACall.frz ?_ ((C.f54 B hB1 hB2 v.2 [0,7,1,2,5] v5 e6)).ent
  repeat first|refine cg ?_|simp -dsimp
  refine((C.f54 B hB1 hB2 v.2 [0,7,1,2,5] v5 e6)).go 0 rfl (by simp_all) (by simp) (by simp_all) ?_
  cases hF
  repeat first|refine cg ?_|simp -dsimp
 ·repeat first|refine cg ?_|simp -dsimp[q4]
  revert hF;refine aS ?_ ?_<;>intro h7 q8 hF
  ·repeat first|refine cg ?_|simp -dsimp[h7]
   have hF:=ob hF;obtain⟨v9,e10,hF⟩:=hF
   refine ACall.frz ?_ ((C.f54 B hB1 hB2 v.2 [6,(-1),1] v9 e10)).ent
   repeat first|refine cg ?_|simp -dsimp
   refine((C.f54 B hB1 hB2 v.2 [6,(-1),1] v9 e10)).go 0 rfl (by simp_all) (by simp) (by simp_all) ?_
   cases hF
   repeat first|refine cg ?_|simp -dsimp
  ·repeat first|refine cg ?_|simp -dsimp[q8]
   revert hF;refine aS ?_ ?_<;>intro h11 q12 hF
   ·repeat first|refine cg ?_|simp -dsimp[h11]
    have hF:=ob hF;obtain⟨v13,e14,hF⟩:=hF
    refine ACall.frz ?_ ((C.f54 B hB1 hB2 v.2 [9,(-1),1] v13 e14)).ent
    repeat first|refine cg ?_|simp -dsimp
    refine((C.f54 B hB1 hB2 v.2 [9,(-1),1] v13 e14)).go 0 rfl (by simp_all) (by simp) (by simp_all) ?_
    cases hF
    repeat first|refine cg ?_|simp -dsimp
   ·repeat first|refine cg ?_|simp -dsimp[q12]
    revert hF;refine aS ?_ ?_<;>intro h15 q16 hF
    ·have hF:=oc hF;obtain⟨c17,hF⟩:=hF
     cases hF
     repeat first|refine cg ?_|simp -dsimp[h15]
    ·repeat first|refine cg ?_|simp -dsimp[q16]
     revert hF;refine aS ?_ ?_<;>intro h18 q19 hF
     ·repeat first|refine cg ?_|simp -dsimp[h18]
      revert hF;refine aS ?_ ?_<;>intro h20 q21 hF
      ·have z22:(0<(p.kids.length:Int)):=auz
       have hF:=ob hF;obtain⟨x,e23,hF⟩:=hF
       have le23:=ZB e23
       cases hF
       repeat first|refine cg ?_|simp -dsimp[h20,z22,↓e23]
      ·have z22:¬(0<(p.kids.length:Int)):=auz
       cases hF
       repeat first|refine cg ?_|simp -dsimp[h20,q21,z22]
     ·repeat first|refine cg ?_|simp -dsimp[q19]
      revert hF;refine aS ?_ ?_<;>intro h24 q25 hF
      ·repeat first|refine cg ?_|simp -dsimp[h24]
       have hF:=ob hF;obtain⟨v26,e27,hF⟩:=hF
       refine ACall.frz ?_ ((C.f54 B hB1 hB2 v.2 [10,(-1),5] v26 e27)).ent
       repeat first|refine cg ?_|simp -dsimp
       refine((C.f54 B hB1 hB2 v.2 [10,(-1),5] v26 e27)).go 0 rfl (by simp_all) (by simp) (by simp_all) ?_
       cases hF
       repeat first|refine cg ?_|simp -dsimp
      ·cases hF
       repeat first|refine cg ?_|simp -dsimp[q25]
theorem CC.spec_l4Mutate__o0_l1 (v:Int×ZE):(∀(out:List Clause) (o:List Clause),F.f94 v out=some o->∀(c:Code),ZY [1,1,0,1,0,1,1,1,1,1,0,0,0] (ZK Tryz.f63)=some c->∀(Q:Exit->ASt->Prop),(Q (.exit 1) ⟨[(5,.own 1 (List.length (α:=Clause) o))],[.cells [am cU v.2.f0,li v.2.f1],.elems 9 (List.map Clause.c o)]⟩)->ALoopU Tryz.prog B 1 56 (hold c .mk) ⟨[(5,.own 1 (List.length (α:=Clause) out))],[.cells [am cU v.2.f0,li v.2.f1],.elems 9 (List.map Clause.c out)]⟩ (hold Q .mk)):=by
 refine F.f94.partial_correctness v
  _
  ?_
 ·intro _f_spec_l4Mutate__o0_l1 ih_spec_l4Mutate__o0_l1 out o hF
  intro c hc Q hq
  obtain rfl:c=_:=ZM hc rfl
  refine kN fun hk hs=> ?_
  have d0:=hs 0 _ rfl
  simp -dsimp[Blk.bnd]at d0
  have d1:=hs 1 _ rfl
  simp -dsimp[Blk.bnd]at d1
  clear hk hs
  refine eN ?_
  repeat first|refine cg ?_|simp -dsimp
  revert hF;refine aS ?_ ?_<;>intro h28 q29 hF
  ·have z30:((out.length:Int)<=8):=auz
   obtain⟨c31,hF⟩:=oc hF
   repeat first|refine cg ?_|simp -dsimp[h28,z30]
   refine aG _ ?_ ((ih_spec_l4Mutate__o0_l1 (out++[(⟨(⟨1,0,0,0,0,[]⟩:Pattern),(⟨0,0,0⟩:Guard)⟩:Clause)]) o hF) _ rfl _ hq)
   exact(gT (by simp) (by simp_all))
  ·have z30:¬((out.length:Int)<=8):=auz
   cases hF
   repeat first|refine cg ?_|simp -dsimp[h28,q29,z30]
   refine lG _ (gT (by simp) (by simp_all)) hq
theorem C.spec_l4Mutate__o0 (r':ZE)(list:List Clause)(r:(List Clause)×ZE)(hF:F.f95 r' list=some r):BCall Tryz.prog B 63 [.cells [am cU r'.f0,li r'.f1]] [.ptr 0 0,am Clause.c list] (.own 1 (List.length (α:=Clause) r.1)) [.cells [am cU r.2.f0,li r.2.f1],.elems 9 (List.map Clause.c r.1)]:=by
 unfold F.f95 at hF
 refine BCall.enterS (τ1:=[.cells [.arr (List.map cU r.2.f0),.lit (.int .i64 r.2.f1)]]) (ys:=[.own 1 (List.length (α:=Clause) r.1)]) (news:=[(9,List.map Clause.c r.1)]) Tryz.func63 (by kernel_rfl) rfl Tryz.ntmps63 (by simp) rfl rfl (by simp) (by simp) (by simp) (by simp) (by simp) (by simp) (gR _) ?_
 have hF:=oc hF;obtain⟨c1,hF⟩:=hF
 repeat first|refine cg ?_|simp -dsimp
 have hF:=ob hF;obtain⟨v,e2,hF⟩:=hF
 refine((C.f1 B hB1 hB2 r' 24 v e2)).go 0 rfl (by simp) (by simp) (by simp) ?_
 repeat first|refine cg ?_|simp -dsimp
 revert hF;refine aS ?_ ?_<;>intro h3 q4 hF
 ·repeat first|refine cg ?_|simp -dsimp[h3]
  revert hF;refine aS ?_ ?_<;>intro h5 q6 hF
  ·have z7:(0<(list.length:Int)):=auz
   repeat first|refine cg ?_|simp -dsimp[h5,z7]
   have hF:=ob hF;obtain⟨v8,e9,hF⟩:=hF
   refine ACall.frz ?_ ((C.f54 B hB1 hB2 v.2 [1,2,3,(-1)] v8 e9)).ent
   repeat first|refine cg ?_|simp -dsimp
   refine((C.f54 B hB1 hB2 v.2 [1,2,3,(-1)] v8 e9)).go 0 rfl (by simp_all) (by simp) (by simp_all) ?_
   repeat first|refine cg ?_|simp -dsimp
   have hF:=ob hF;obtain⟨v10,e11,hF⟩:=hF
   refine ACall.frz ?_ ((C.f54 B hB1 hB2 v8.2 [0,5,9] v10 e11)).ent
   repeat first|refine cg ?_|simp -dsimp
   refine((C.f54 B hB1 hB2 v8.2 [0,5,9] v10 e11)).go 0 rfl (by simp_all) (by simp) (by simp_all) ?_
   repeat first|refine cg ?_|simp -dsimp
   have hF:=ob hF;obtain⟨v12,e13,hF⟩:=hF
   refine ACall.frz ?_ ((C.f54 B hB1 hB2 v10.2 [3,10,(-1)] v12 e13)).ent
   repeat first|refine cg ?_|simp -dsimp
   refine((C.f54 B hB1 hB2 v10.2 [3,10,(-1)] v12 e13)).go 0 rfl (by simp_all) (by simp) (by simp_all) ?_
   have hF:=ob hF;obtain⟨x,e14,hF⟩:=hF
   have le14:=ZB e14
   cases hF
   repeat first|refine cg ?_|simp -dsimp[↓e14]
   all_goals(try first|omega|rfl|(simp;done)|(simp only[List.length_cons,List.length_nil]at*;omega)|simp)
  ·have z7:¬(0<(list.length:Int)):=auz
   cases hF
   repeat first|refine cg ?_|simp -dsimp[h5,q6,z7]
   all_goals(try first|omega|rfl|(simp;done)|(simp only[List.length_cons,List.length_nil]at*;omega)|simp)
 ·repeat first|refine cg ?_|simp -dsimp[q4]
  revert hF;refine aS ?_ ?_<;>intro h15 q16 hF
  ·repeat first|refine cg ?_|simp -dsimp[h15]
   revert hF;refine aS ?_ ?_<;>intro h17 q18 hF
   ·have z19:(0<(list.length:Int)):=auz
    have hF:=ob hF;obtain⟨x20,e21,hF⟩:=hF
    have le21:=ZB e21
    repeat first|refine cg ?_|simp -dsimp[h17,z19,↓e21]
    have hF:=ob hF;obtain⟨v22,e23,hF⟩:=hF
    refine((C.f93 B hB1 hB2 v.2 x20.pat v22 e23)).go 0 rfl (by simp_all) (by simp) (by simp_all) ?_
    repeat first|refine cg ?_|simp -dsimp[↓e21]
    have hF:=ob hF;obtain⟨v24,e25,hF⟩:=hF
    refine((C.f93 B hB1 hB2 v22.2 v22.1 v24 e25)).go 0 rfl (by simp_all) (by simp) (by simp_all) ?_
    cases hF
    repeat first|refine cg ?_|simp -dsimp[↓e21]
    all_goals(try first|omega|rfl|(simp;done)|(simp only[List.length_cons,List.length_nil]at*;omega)|simp)
   ·have z19:¬(0<(list.length:Int)):=auz
    cases hF
    repeat first|refine cg ?_|simp -dsimp[h17,q18,z19]
    all_goals(try first|omega|rfl|(simp;done)|(simp only[List.length_cons,List.length_nil]at*;omega)|simp)
  ·repeat first|refine cg ?_|simp -dsimp[q16]
   revert hF;refine aS ?_ ?_<;>intro h26 q27 hF
   ·repeat first|refine cg ?_|simp -dsimp[h26]
    have hF:=ob hF;obtain⟨o',ho32,hF⟩:=hF
    refine ALoop.goU _ ?_ (((CC.spec_l4Mutate__o0_l1 B hB1 hB2 v) list o' ho32) _ rfl _ ?_)
    ·exact(gT (by simp) (by simp_all))
    cases hF
    repeat first|refine cg ?_|simp -dsimp
    all_goals(try first|omega|rfl|(simp;done)|(simp only[List.length_cons,List.length_nil]at*;omega)|simp)
   ·cases hF
    repeat first|refine cg ?_|simp -dsimp[q27]
    all_goals(try first|omega|rfl|(simp;done)|(simp only[List.length_cons,List.length_nil]at*;omega)|simp)
theorem C.spec_DrawMissingPatterns__o2 (code:List Int)(r:(List Vl.Data)×Ty×(List Clause))(hF:F.f96 code=some r):BCall Tryz.prog B 55 [] [am cU code] (.tup [am Vl.Data.c r.1,.agg [li r.2.1.data,li r.2.1.index],.own 0 (List.length (α:=Clause) r.2.2)]) [.elems 9 (List.map Clause.c r.2.2)]:=by
 unfold F.f96 at hF
 refine BCall.enterS (τ1:=[]) (ys:=[.arr (List.map Vl.Data.c r.1),.agg [.lit (.int .i64 r.2.1.data),.lit (.int .i64 r.2.1.index)],.own 0 (List.length (α:=Clause) r.2.2)]) (news:=[(9,List.map Clause.c r.2.2)]) Tryz.func55 (by kernel_rfl) rfl Tryz.ntmps55 (by simp) rfl rfl (by simp) (by simp) (by simp) (by simp) (by simp) (by simp) (gR _) ?_
 repeat first|refine cg ?_|simp -dsimp
 refine ACall.inl Tryz.func20 (by kernel_rfl) rfl Tryz.ntmps20 (by simp) ?_
 repeat first|refine cg ?_|simp -dsimp
 revert hF;refine aS ?_ ?_<;>intro h1 q2 hF
 ·have z3:(2000<(code.length:Int)):=auz
  have hF:=oc hF;obtain⟨c4,hF⟩:=hF
  repeat first|refine cg ?_|simp -dsimp[h1,z3]
  have hF:=ob hF;obtain⟨v,e5,hF⟩:=hF
  refine((C.spec_l4Typed__o2 B hB1 hB2 (⟨(code.drop 0).take (2000-0),0⟩:ZE) v e5)).go (pl [1,2]) (by simp) (by simp) (ZB3 _ (by simp) (by decide)) (by intro i hi hi';simp at hi hi';have hi:i=1:=(by omega);rcases hi with rfl<;>simp[pl]) (by simp[h1,z3]) (by simp[h1,z3]) ?_
  repeat first|refine cg ?_|simp -dsimp[h1,z3]
  revert hF;refine aS ?_ ?_<;>intro h6 q7 hF
  ·have z8:(0<(v.2.2.1.length:Int)):=auz
   repeat first|refine cg ?_|simp -dsimp[h1,z3,h6,z8]
   have hF:=ob hF;obtain⟨v9,e10,hF⟩:=hF
   refine((C.f1 B hB1 hB2 v.2.2.2.2 4 v9 e10)).go 1 rfl (by simp[h1,z3,h6,z8]) (by simp) (by simp[h1,z3,h6,z8]) ?_
   repeat first|refine cg ?_|simp -dsimp[h1,z3,h6,z8]
   revert hF;refine aS ?_ ?_<;>intro h11 q12 hF
   ·repeat first|refine cg ?_|simp -dsimp[h1,z3,h6,z8,h11]
    have hF:=ob hF;obtain⟨v13,e14,hF⟩:=hF
    refine((C.f92 B hB1 hB2 v13 e14)).goW (by simp[h1,z3,h6,z8,h11]) (by simp) ?_
    have hF:=oc hF;obtain⟨c15,hF⟩:=hF
    repeat first|refine cg ?_|simp -dsimp[h1,z3,h6,z8,h11]
    refine ADraw.gh (Gh.frzSlot 8 (l:=2) (n:=List.length (α:=Clause) (v.2.2.1++[(⟨v13,(⟨0,0,0⟩:Guard)⟩:Clause)])) (sz:=9) (es:=List.map Clause.c (v.2.2.1++[(⟨v13,(⟨0,0,0⟩:Guard)⟩:Clause)])) (by simp) (by simp) (by simp) (by simp)) ?_
    repeat first|refine cg ?_|simp -dsimp[h1,z3,h6,z8,h11]
    refine ADraw.eff [63] [(0,1),(0,1),(0,0),(0,0),(0,2),(1,1),(0,2),(2,2)] [1,2,1,1,1,1,1,1] follows (by kernel_rfl) (by kernel_rfl) (by kernel_rfl) ?_
    repeat first|refine cg ?_|simp -dsimp[h1,z3,h6,z8,h11]
    have hF:=ob hF;obtain⟨v16,e17,hF⟩:=hF
    refine((C.spec_l4Mutate__o0 B hB1 hB2 v9.2 (v.2.2.1++[(⟨v13,(⟨0,0,0⟩:Guard)⟩:Clause)]) v16 e17)).ego (pl [1,6]) (by simp) (by simp) (ZB3 _ (by simp) (by decide)) (by intro i hi hi';simp at hi hi';have hi:i=1:=(by omega);rcases hi with rfl<;>simp[pl]) (by simp[h1,z3,h6,z8,h11]) (by simp[h1,z3,h6,z8,h11]) ?_
    cases hF
    repeat first|refine cg ?_|simp -dsimp[h1,z3,h6,z8,h11]
    all_goals(try first|omega|rfl|(simp;done)|(simp only[List.length_cons,List.length_nil]at*;omega)|simp)
   ·repeat first|refine cg ?_|simp -dsimp[h1,z3,h6,z8,h11,q12]
    refine ADraw.gh (Gh.frzSlot 8 (l:=2) (n:=List.length (α:=Clause) v.2.2.1) (sz:=9) (es:=List.map Clause.c v.2.2.1) (by simp) (by simp) (by simp) (by simp)) ?_
    repeat first|refine cg ?_|simp -dsimp[h1,z3,h6,z8,h11,q12]
    refine ADraw.eff [63] [(0,1),(0,1),(0,0),(0,0),(0,2),(1,1),(0,2),(2,2)] [1,2,1,1,1,1,1,1] follows (by kernel_rfl) (by kernel_rfl) (by kernel_rfl) ?_
    repeat first|refine cg ?_|simp -dsimp[h1,z3,h6,z8,h11,q12]
    have hF:=ob hF;obtain⟨v18,e19,hF⟩:=hF
    refine((C.spec_l4Mutate__o0 B hB1 hB2 v9.2 v.2.2.1 v18 e19)).ego (pl [1,5]) (by simp) (by simp) (ZB3 _ (by simp) (by decide)) (by intro i hi hi';simp at hi hi';have hi:i=1:=(by omega);rcases hi with rfl<;>simp[pl]) (by simp[h1,z3,h6,z8,h11,q12]) (by simp[h1,z3,h6,z8,h11,q12]) ?_
    cases hF
    repeat first|refine cg ?_|simp -dsimp[h1,z3,h6,z8,h11,q12]
    all_goals(try first|omega|rfl|(simp;done)|(simp only[List.length_cons,List.length_nil]at*;omega)|simp)
  ·have z8:¬(0<(v.2.2.1.length:Int)):=auz
   repeat first|refine cg ?_|simp -dsimp[h1,z3,h6,q7,z8]
   refine ADraw.gh (Gh.frzSlot 8 (l:=2) (n:=List.length (α:=Clause) v.2.2.1) (sz:=9) (es:=List.map Clause.c v.2.2.1) (by simp) (by simp) (by simp) (by simp)) ?_
   repeat first|refine cg ?_|simp -dsimp[h1,z3,h6,q7,z8]
   refine ADraw.eff [63] [(0,1),(0,1),(0,0),(0,0),(0,2),(1,1),(0,2),(2,2)] [1,2,1,1,1,1,1,1] follows (by kernel_rfl) (by kernel_rfl) (by kernel_rfl) ?_
   repeat first|refine cg ?_|simp -dsimp[h1,z3,h6,q7,z8]
   have hF:=ob hF;obtain⟨v20,e21,hF⟩:=hF
   refine((C.spec_l4Mutate__o0 B hB1 hB2 v.2.2.2.2 v.2.2.1 v20 e21)).ego (pl [1,5]) (by simp) (by simp) (ZB3 _ (by simp) (by decide)) (by intro i hi hi';simp at hi hi';have hi:i=1:=(by omega);rcases hi with rfl<;>simp[pl]) (by simp[h1,z3,h6,q7,z8]) (by simp[h1,z3,h6,q7,z8]) ?_
   cases hF
   repeat first|refine cg ?_|simp -dsimp[h1,z3,h6,q7,z8]
   all_goals(try first|omega|rfl|(simp;done)|(simp only[List.length_cons,List.length_nil]at*;omega)|simp)
 ·have z3:¬(2000<(code.length:Int)):=auz
  repeat first|refine cg ?_|simp -dsimp[h1,q2,z3]
  have hF:=ob hF;obtain⟨v22,e23,hF⟩:=hF
  refine((C.spec_l4Typed__o2 B hB1 hB2 (⟨code,0⟩:ZE) v22 e23)).go (pl [1,2]) (by simp) (by simp) (ZB3 _ (by simp) (by decide)) (by intro i hi hi';simp at hi hi';have hi:i=1:=(by omega);rcases hi with rfl<;>simp[pl]) (by simp[h1,q2,z3]) (by simp[h1,q2,z3]) ?_
  repeat first|refine cg ?_|simp -dsimp[h1,q2,z3]
  revert hF;refine aS ?_ ?_<;>intro h24 q25 hF
  ·have z26:(0<(v22.2.2.1.length:Int)):=auz
   repeat first|refine cg ?_|simp -dsimp[h1,q2,z3,h24,z26]
   have hF:=ob hF;obtain⟨v27,e28,hF⟩:=hF
   refine((C.f1 B hB1 hB2 v22.2.2.2.2 4 v27 e28)).go 1 rfl (by simp[h1,q2,z3,h24,z26]) (by simp) (by simp[h1,q2,z3,h24,z26]) ?_
   repeat first|refine cg ?_|simp -dsimp[h1,q2,z3,h24,z26]
   revert hF;refine aS ?_ ?_<;>intro h29 q30 hF
   ·repeat first|refine cg ?_|simp -dsimp[h1,q2,z3,h24,z26,h29]
    have hF:=ob hF;obtain⟨v31,e32,hF⟩:=hF
    refine((C.f92 B hB1 hB2 v31 e32)).goW (by simp[h1,q2,z3,h24,z26,h29]) (by simp) ?_
    have hF:=oc hF;obtain⟨c33,hF⟩:=hF
    repeat first|refine cg ?_|simp -dsimp[h1,q2,z3,h24,z26,h29]
    refine ADraw.gh (Gh.frzSlot 8 (l:=2) (n:=List.length (α:=Clause) (v22.2.2.1++[(⟨v31,(⟨0,0,0⟩:Guard)⟩:Clause)])) (sz:=9) (es:=List.map Clause.c (v22.2.2.1++[(⟨v31,(⟨0,0,0⟩:Guard)⟩:Clause)])) (by simp) (by simp) (by simp) (by simp)) ?_
    repeat first|refine cg ?_|simp -dsimp[h1,q2,z3,h24,z26,h29]
    refine ADraw.eff [63] [(0,1),(0,1),(0,0),(0,0),(0,2),(1,1),(0,2),(2,2)] [1,2,1,1,1,1,1,1] follows (by kernel_rfl) (by kernel_rfl) (by kernel_rfl) ?_
    repeat first|refine cg ?_|simp -dsimp[h1,q2,z3,h24,z26,h29]
    have hF:=ob hF;obtain⟨v34,e35,hF⟩:=hF
    refine((C.spec_l4Mutate__o0 B hB1 hB2 v27.2 (v22.2.2.1++[(⟨v31,(⟨0,0,0⟩:Guard)⟩:Clause)]) v34 e35)).ego (pl [1,6]) (by simp) (by simp) (ZB3 _ (by simp) (by decide)) (by intro i hi hi';simp at hi hi';have hi:i=1:=(by omega);rcases hi with rfl<;>simp[pl]) (by simp[h1,q2,z3,h24,z26,h29]) (by simp[h1,q2,z3,h24,z26,h29]) ?_
    cases hF
    repeat first|refine cg ?_|simp -dsimp[h1,q2,z3,h24,z26,h29]
    all_goals(try first|omega|rfl|(simp;done)|(simp only[List.length_cons,List.length_nil]at*;omega)|simp)
   ·repeat first|refine cg ?_|simp -dsimp[h1,q2,z3,h24,z26,h29,q30]
    refine ADraw.gh (Gh.frzSlot 8 (l:=2) (n:=List.length (α:=Clause) v22.2.2.1) (sz:=9) (es:=List.map Clause.c v22.2.2.1) (by simp) (by simp) (by simp) (by simp)) ?_
    repeat first|refine cg ?_|simp -dsimp[h1,q2,z3,h24,z26,h29,q30]
    refine ADraw.eff [63] [(0,1),(0,1),(0,0),(0,0),(0,2),(1,1),(0,2),(2,2)] [1,2,1,1,1,1,1,1] follows (by kernel_rfl) (by kernel_rfl) (by kernel_rfl) ?_
    repeat first|refine cg ?_|simp -dsimp[h1,q2,z3,h24,z26,h29,q30]
    have hF:=ob hF;obtain⟨v36,e37,hF⟩:=hF
    refine((C.spec_l4Mutate__o0 B hB1 hB2 v27.2 v22.2.2.1 v36 e37)).ego (pl [1,5]) (by simp) (by simp) (ZB3 _ (by simp) (by decide)) (by intro i hi hi';simp at hi hi';have hi:i=1:=(by omega);rcases hi with rfl<;>simp[pl]) (by simp[h1,q2,z3,h24,z26,h29,q30]) (by simp[h1,q2,z3,h24,z26,h29,q30]) ?_
    cases hF
    repeat first|refine cg ?_|simp -dsimp[h1,q2,z3,h24,z26,h29,q30]
    all_goals(try first|omega|rfl|(simp;done)|(simp only[List.length_cons,List.length_nil]at*;omega)|simp)
  ·have z26:¬(0<(v22.2.2.1.length:Int)):=auz
   repeat first|refine cg ?_|simp -dsimp[h1,q2,z3,h24,q25,z26]
   refine ADraw.gh (Gh.frzSlot 8 (l:=2) (n:=List.length (α:=Clause) v22.2.2.1) (sz:=9) (es:=List.map Clause.c v22.2.2.1) (by simp) (by simp) (by simp) (by simp)) ?_
   repeat first|refine cg ?_|simp -dsimp[h1,q2,z3,h24,q25,z26]
   refine ADraw.eff [63] [(0,1),(0,1),(0,0),(0,0),(0,2),(1,1),(0,2),(2,2)] [1,2,1,1,1,1,1,1] follows (by kernel_rfl) (by kernel_rfl) (by kernel_rfl) ?_
   repeat first|refine cg ?_|simp -dsimp[h1,q2,z3,h24,q25,z26]
   have hF:=ob hF;obtain⟨v38,e39,hF⟩:=hF
   refine((C.spec_l4Mutate__o0 B hB1 hB2 v22.2.2.2.2 v22.2.2.1 v38 e39)).ego (pl [1,5]) (by simp) (by simp) (ZB3 _ (by simp) (by decide)) (by intro i hi hi';simp at hi hi';have hi:i=1:=(by omega);rcases hi with rfl<;>simp[pl]) (by simp[h1,q2,z3,h24,q25,z26]) (by simp[h1,q2,z3,h24,q25,z26]) ?_
   cases hF
   repeat first|refine cg ?_|simp -dsimp[h1,q2,z3,h24,q25,z26]
   all_goals(try first|omega|rfl|(simp;done)|(simp only[List.length_cons,List.length_nil]at*;omega)|simp)
theorem C.f97 (code:List Int)(r:(List Vl.Data)×Ty×(List Clause))(hF:F.f97 code=some r):PureCall Tryz.prog B 48 [am cU code] (.tup [am Vl.Data.c r.1,.agg [li r.2.1.data,li r.2.1.index],am Clause.c r.2.2]):=by
 unfold F.f97 at hF
 refine pE Tryz.func48 (by kernel_rfl) rfl Tryz.ntmps48 (by simp) (by simp) ?_
 repeat first|refine cg ?_|simp -dsimp
 refine ACall.inl Tryz.func20 (by kernel_rfl) rfl Tryz.ntmps20 (by simp) ?_
 repeat first|refine cg ?_|simp -dsimp
 revert hF;refine aS ?_ ?_<;>intro h1 q2 hF
 ·have z3:(2000<(code.length:Int)):=auz
  have hF:=oc hF;obtain⟨c4,hF⟩:=hF
  repeat first|refine cg ?_|simp -dsimp[h1,z3]
  have hF:=ob hF;obtain⟨v,e5,hF⟩:=hF
  refine((C.spec_DrawMissingPatterns__o2 B hB1 hB2 code v e5)).go (pl [2]) (by simp) (by simp) (by intro i j hi;simp at hi) (by intro i hi hi';simp at hi hi';have hi:i=0:=(by omega);rcases hi with rfl<;>simp[pl]) (by simp[h1,z3]) (by simp[h1,z3]) ?_
  repeat first|refine cg ?_|simp -dsimp[h1,z3]
  revert hF;refine aS ?_ ?_<;>intro h6 q7 hF
  ·have z8:(0<(v.2.2.length:Int)):=auz
   repeat first|refine cg ?_|simp -dsimp[h1,z3,h6,z8]
   revert hF;refine aS ?_ ?_<;>intro h9 q10 hF
   ·have z11:((v.2.2.length:Int)<8):=auz
    repeat first|refine cg ?_|simp -dsimp[h1,z3,h6,z8,h9,z11]
    have hF:=ob hF;obtain⟨v12,e13,hF⟩:=hF
    refine((C.f1 B hB1 hB2 (⟨(code.drop 0).take (2000-0),0⟩:ZE) 2 v12 e13)).go 1 rfl (by simp[h1,z3,h6,z8,h9,z11]) (by simp) (by simp[h1,z3,h6,z8,h9,z11]) ?_
    repeat first|refine cg ?_|simp -dsimp[h1,z3,h6,z8,h9,z11]
    revert hF;refine aS ?_ ?_<;>intro h14 q15 hF
    ·repeat first|refine cg ?_|simp -dsimp[h1,z3,h6,z8,h9,z11,h14]
     have hF:=ob hF;obtain⟨v16,e17,hF⟩:=hF
     refine((C.f1 B hB1 hB2 v12.2 (v.2.2.length:Int) v16 e17)).go 1 rfl (by simp[h1,z3,h6,z8,h9,z11,h14]) (by simp) (by simp[h1,z3,h6,z8,h9,z11,h14]) ?_
     have hF:=ob hF;obtain⟨x,e18a,hF⟩:=hF
     have e18a:=ZL e18a;obtain⟨ne18,e18⟩:=e18a
     have le18:=ZB e18
     have hF:=oc hF;obtain⟨c19,hF⟩:=hF
     repeat first|refine cg ?_|simp -dsimp[h1,z3,h6,z8,h9,z11,h14,↓e18]
     refine ADraw.eff [] [(0,0),(0,0),(0,1),(0,0),(0,1),(1,1)] [1,1,1,1,1,1] follows (by kernel_rfl) (by kernel_rfl) (by kernel_rfl) ?_
     cases hF
     repeat first|refine cg ?_|simp -dsimp[h1,z3,h6,z8,h9,z11,h14,↓e18]
    ·repeat first|refine cg ?_|simp -dsimp[h1,z3,h6,z8,h9,z11,h14,q15]
     refine ADraw.eff [] [(0,0),(0,0),(0,1),(0,0),(0,1),(1,1)] [1,1,1,1,1,1] follows (by kernel_rfl) (by kernel_rfl) (by kernel_rfl) ?_
     cases hF
     repeat first|refine cg ?_|simp -dsimp[h1,z3,h6,z8,h9,z11,h14,q15]
   ·have z11:¬((v.2.2.length:Int)<8):=auz
    repeat first|refine cg ?_|simp -dsimp[h1,z3,h6,z8,h9,q10,z11]
    refine ADraw.eff [] [(0,0),(0,0),(0,1),(0,0),(0,1),(1,1)] [1,1,1,1,1,1] follows (by kernel_rfl) (by kernel_rfl) (by kernel_rfl) ?_
    cases hF
    repeat first|refine cg ?_|simp -dsimp[h1,z3,h6,z8,h9,q10,z11]
  ·have z8:¬(0<(v.2.2.length:Int)):=auz
   repeat first|refine cg ?_|simp -dsimp[h1,z3,h6,q7,z8]
   refine ADraw.eff [] [(0,0),(0,0),(0,1),(0,0),(0,1),(1,1)] [1,1,1,1,1,1] follows (by kernel_rfl) (by kernel_rfl) (by kernel_rfl) ?_
   cases hF
   repeat first|refine cg ?_|simp -dsimp[h1,z3,h6,q7,z8]
 ·have z3:¬(2000<(code.length:Int)):=auz
  repeat first|refine cg ?_|simp -dsimp[h1,q2,z3]
  have hF:=ob hF;obtain⟨v20,e21,hF⟩:=hF
  refine((C.spec_DrawMissingPatterns__o2 B hB1 hB2 code v20 e21)).go (pl [2]) (by simp) (by simp) (by intro i j hi;simp at hi) (by intro i hi hi';simp at hi hi';have hi:i=0:=(by omega);rcases hi with rfl<;>simp[pl]) (by simp[h1,q2,z3]) (by simp[h1,q2,z3]) ?_
  repeat first|refine cg ?_|simp -dsimp[h1,q2,z3]
  revert hF;refine aS ?_ ?_<;>intro h22 q23 hF
  ·have z24:(0<(v20.2.2.length:Int)):=auz
   repeat first|refine cg ?_|simp -dsimp[h1,q2,z3,h22,z24]
   revert hF;refine aS ?_ ?_<;>intro h25 q26 hF
   ·have z27:((v20.2.2.length:Int)<8):=auz
    repeat first|refine cg ?_|simp -dsimp[h1,q2,z3,h22,z24,h25,z27]
    have hF:=ob hF;obtain⟨v28,e29,hF⟩:=hF
    refine((C.f1 B hB1 hB2 (⟨code,0⟩:ZE) 2 v28 e29)).go 1 rfl (by simp[h1,q2,z3,h22,z24,h25,z27]) (by simp) (by simp[h1,q2,z3,h22,z24,h25,z27]) ?_
    repeat first|refine cg ?_|simp -dsimp[h1,q2,z3,h22,z24,h25,z27]
    revert hF;refine aS ?_ ?_<;>intro h30 q31 hF
    ·repeat first|refine cg ?_|simp -dsimp[h1,q2,z3,h22,z24,h25,z27,h30]
     have hF:=ob hF;obtain⟨v32,e33,hF⟩:=hF
     refine((C.f1 B hB1 hB2 v28.2 (v20.2.2.length:Int) v32 e33)).go 1 rfl (by simp[h1,q2,z3,h22,z24,h25,z27,h30]) (by simp) (by simp[h1,q2,z3,h22,z24,h25,z27,h30]) ?_
     have hF:=ob hF;obtain⟨x34,e35a,hF⟩:=hF
     have e35a:=ZL e35a;obtain⟨ne35,e35⟩:=e35a
     have le35:=ZB e35
     have hF:=oc hF;obtain⟨c36,hF⟩:=hF
     repeat first|refine cg ?_|simp -dsimp[h1,q2,z3,h22,z24,h25,z27,h30,↓e35]
     refine ADraw.eff [] [(0,0),(0,0),(0,1),(0,0),(0,1),(1,1)] [1,1,1,1,1,1] follows (by kernel_rfl) (by kernel_rfl) (by kernel_rfl) ?_
     cases hF
     repeat first|refine cg ?_|simp -dsimp[h1,q2,z3,h22,z24,h25,z27,h30,↓e35]
    ·repeat first|refine cg ?_|simp -dsimp[h1,q2,z3,h22,z24,h25,z27,h30,q31]
     refine ADraw.eff [] [(0,0),(0,0),(0,1),(0,0),(0,1),(1,1)] [1,1,1,1,1,1] follows (by kernel_rfl) (by kernel_rfl) (by kernel_rfl) ?_
     cases hF
     repeat first|refine cg ?_|simp -dsimp[h1,q2,z3,h22,z24,h25,z27,h30,q31]
   ·have z27:¬((v20.2.2.length:Int)<8):=auz
    repeat first|refine cg ?_|simp -dsimp[h1,q2,z3,h22,z24,h25,q26,z27]
    refine ADraw.eff [] [(0,0),(0,0),(0,1),(0,0),(0,1),(1,1)] [1,1,1,1,1,1] follows (by kernel_rfl) (by kernel_rfl) (by kernel_rfl) ?_
    cases hF
    repeat first|refine cg ?_|simp -dsimp[h1,q2,z3,h22,z24,h25,q26,z27]
  ·have z24:¬(0<(v20.2.2.length:Int)):=auz
   repeat first|refine cg ?_|simp -dsimp[h1,q2,z3,h22,q23,z24]
   refine ADraw.eff [] [(0,0),(0,0),(0,1),(0,0),(0,1),(1,1)] [1,1,1,1,1,1] follows (by kernel_rfl) (by kernel_rfl) (by kernel_rfl) ?_
   cases hF
   repeat first|refine cg ?_|simp -dsimp[h1,q2,z3,h22,q23,z24]
theorem C.spec_l17Open__p (code:List Int)(r:ZE)(hF:F.f98 code=some r):BCall Tryz.prog B 20 [] [am cU code] (.ptr 0 0) [.cells [am cU r.f0,li r.f1]]:=by
 unfold F.f98 at hF
 refine BCall.enter Tryz.func20 (by kernel_rfl) rfl Tryz.ntmps20 (by simp) rfl (by simp) (by simp) (by simp) (by simp) (by simp) (gR _) ?_
 repeat first|refine cg ?_|simp -dsimp
 revert hF;refine aS ?_ ?_<;>intro h1 q2 hF
 ·have z3:(2000<(code.length:Int)):=auz
  obtain⟨c4,hF⟩:=oc hF
  cases hF
  repeat first|refine cg ?_|simp -dsimp[h1,z3]
  all_goals(try first|omega|rfl|(simp;done)|(simp only[List.length_cons,List.length_nil]at*;omega)|simp)
 ·have z3:¬(2000<(code.length:Int)):=auz
  cases hF
  repeat first|refine cg ?_|simp -dsimp[h1,q2,z3]
  all_goals(try first|omega|rfl|(simp;done)|(simp only[List.length_cons,List.length_nil]at*;omega)|simp)
theorem C.f99 (code:List Int)(r:(List Vl.Data)×Ty×(List Clause)×Int)(hF:F.f99 code=some r):PureCall Tryz.prog B 40 [am cU code] (.tup [am Vl.Data.c r.1,.agg [li r.2.1.data,li r.2.1.index],am Clause.c r.2.2.1,li r.2.2.2]):=by
 unfold F.f99 at hF
 refine pE Tryz.func40 (by kernel_rfl) rfl Tryz.ntmps40 (by simp) (by simp) ?_
 repeat first|refine cg ?_|simp -dsimp
 obtain⟨v,e1,hF⟩:=ob hF
 refine((C.f97 B hB1 hB2 code v e1)).goW (by simp) (by simp) ?_
 repeat first|refine cg ?_|simp -dsimp
 refine ADraw.opn ?_
 refine ADraw.split [] [(4,5)] [(5,4)] 4 5 rfl rfl (by kernel_rfl) ?_ ?_
 ·refine ADraw.effP [(4,5)] [0,1,2,3,4,5,6,7,8,9,10] [20,24] [(0,3),(0,3),(0,4),(0,0),(0,4),(0,4),(0,4),(3,3),(0,4),(4,4),(4,4)] [1,2,1,1,1,1,1,1,1,1,1] follows (by kernel_rfl) (by kernel_rfl) (by kernel_rfl) (by kernel_rfl) ?_
  repeat first|refine cg ?_|simp -dsimp
  obtain⟨v2,e3,hF⟩:=ob hF
  refine((C.spec_l17Open__p B hB1 hB2 code v2 e3)).ego (pl [2]) (by simp) (by simp) (by intro i j hi;simp at hi) (by intro i hi hi';simp at hi hi';first|omega|(subst hi';simp[pl])) (by simp) (by simp) ?_
  repeat first|refine cg ?_|simp -dsimp
  obtain⟨v4,e5,hF⟩:=ob hF
  refine ECallA.frz ?_ ((C.f54 B hB1 hB2 v2 [0,1,2,0,1,2,3,(-1)] v4 e5)).ent
  repeat first|refine cg ?_|simp -dsimp
  refine((C.f54 B hB1 hB2 v2 [0,1,2,0,1,2,3,(-1)] v4 e5)).ego 2 rfl (by simp) (by simp) (by simp) ?_
  cases hF
  repeat first|refine cg ?_|simp -dsimp
 ·refine ADraw.effP [(5,4)] [0,1,2,3,5,4,6,7,8,9,10] [20,24] [(0,3),(0,3),(0,4),(0,1),(0,4),(0,4),(0,4),(3,3),(0,4),(4,4),(4,4)] [1,2,1,1,1,1,1,1,1,1,1] follows (by kernel_rfl) (by kernel_rfl) (by kernel_rfl) (by kernel_rfl) ?_
  repeat first|refine cg ?_|simp -dsimp
  obtain⟨v2,e3,hF⟩:=ob hF
  refine((C.spec_l17Open__p B hB1 hB2 code v2 e3)).ego (pl [3]) (by simp) (by simp) (by intro i j hi;simp at hi) (by intro i hi hi';simp at hi hi';first|omega|(subst hi';simp[pl])) (by simp) (by simp) ?_
  repeat first|refine cg ?_|simp -dsimp
  obtain⟨v4,e5,hF⟩:=ob hF
  refine ECallA.frz ?_ ((C.f54 B hB1 hB2 v2 [0,1,2,0,1,2,3,(-1)] v4 e5)).ent
  repeat first|refine cg ?_|simp -dsimp
  refine((C.f54 B hB1 hB2 v2 [0,1,2,0,1,2,3,(-1)] v4 e5)).ego 3 rfl (by simp) (by simp) (by simp) ?_
  cases hF
  repeat first|refine cg ?_|simp -dsimp
theorem C.f100 (w:List Vl.Data)(t:Ty)(r:Bool)(hF:F.f100 w t=some r):PureCall Tryz.prog B 65 [am Vl.Data.c w,.agg [li t.data,li t.index]] (.lit (.bool r)):=by
 unfold F.f100 at hF
 refine pE Tryz.func65 (by kernel_rfl) rfl Tryz.ntmps65 (by simp) (by simp) ?_
 repeat first|refine cg ?_|simp -dsimp
 obtain⟨v,e1,hF⟩:=ob hF
 refine((C.f15 B hB1 hB2 (w.length:Int) t v e1)).goW (by simp) (by simp) ?_
 repeat first|refine cg ?_|simp -dsimp
 revert hF;refine aS (fun h2 q3 hF=> ?_) (fun h2 q3 hF=> ?_)
 ·cases hF
  repeat first|refine cg ?_|simp -dsimp[h2]
 ·cases hF
  repeat first|refine cg ?_|simp -dsimp[q3]
theorem C.f101 (w:List Vl.Data)(t:Ty)(r:Bool)(hF:F.f101 w t=some r):PureCall Tryz.prog B 56 [am Vl.Data.c w,.agg [li t.data,li t.index]] (.lit (.bool r)):=by
 unfold F.f101 at hF
 refine pE Tryz.func56 (by kernel_rfl) rfl Tryz.ntmps56 (by simp) (by simp) ?_
 repeat first|refine cg ?_|simp -dsimp
 obtain⟨v,e1,hF⟩:=ob hF
 refine((C.f24 B hB1 hB2 w v e1)).goW (by simp) (by simp) ?_
 repeat first|refine cg ?_|simp -dsimp
 revert hF;refine aS (fun h2 q3 hF=> ?_) (fun h2 q3 hF=> ?_)
 ·repeat first|refine cg ?_|simp -dsimp[h2]
  obtain⟨v4,e5,hF⟩:=ob hF
  refine((C.f100 B hB1 hB2 w t v4 e5)).goW (by simp[h2]) (by simp) ?_
  cases hF
  repeat first|refine cg ?_|simp -dsimp[h2]
 ·cases hF
  repeat first|refine cg ?_|simp -dsimp[h2,q3]
theorem C.f102 (g:Guard)(vars:List VarType)(r:Bool)(hF:F.f102 g vars=some r):PureCall Tryz.prog B 67 [.agg [li g.op,li g.var,li g.n],am VarType.c vars] (.lit (.bool r)):=by
 unfold F.f102 at hF
 refine pE Tryz.func67 (by kernel_rfl) rfl Tryz.ntmps67 (by simp) (by simp) ?_
 repeat first|refine cg ?_|simp -dsimp
 revert hF;refine aS ?_ ?_<;>intro h1 q2 hF
 ·repeat first|refine cg ?_|simp -dsimp[h1]
  revert hF;refine aS ?_ ?_<;>intro h3 q4 hF
  ·cases hF
   repeat first|refine cg ?_|simp -dsimp[h1,h3]
  ·cases hF
   repeat first|refine cg ?_|simp -dsimp[h1,h3,q4]
 ·repeat first|refine cg ?_|simp -dsimp[h1,q2]
  revert hF;refine aN ?_ ?_<;>intro h5 q6 hF
  ·repeat first|refine cg ?_|simp -dsimp[h1,q2,h5,q6]
   revert hF;refine aS ?_ ?_<;>intro h7 q8 hF
   ·repeat first|refine cg ?_|simp -dsimp[h1,q2,h5,q6,h7]
    revert hF;refine aN ?_ ?_<;>intro h9 q10 hF
    ·repeat first|refine cg ?_|simp -dsimp[h1,q2,h5,q6,h7,h9,q10]
     revert hF;refine aS ?_ ?_<;>intro h11 q12 hF
     ·cases hF
      repeat first|refine cg ?_|simp -dsimp[h1,q2,h5,q6,h7,h9,q10,h11]
     ·repeat first|refine cg ?_|simp -dsimp[h1,q2,h5,q6,h7,h9,q10,h11,q12]
      have hF:=ob hF;obtain⟨v,e13,hF⟩:=hF
      refine((C.f79 B hB1 hB2 vars g.var v e13)).goW (by simp[h1,q2,h5,q6,h7,h9,q10,h11,q12]) (by simp) ?_
      repeat first|refine cg ?_|simp -dsimp[h1,q2,h5,q6,h7,h9,q10,h11,q12]
      revert hF;refine aS ?_ ?_<;>intro h14 q15 hF
      ·have hF:=ob hF;obtain⟨x,e16a,hF⟩:=hF
       have e16a:=ZL e16a;obtain⟨ne16,e16⟩:=e16a
       have le16:=ZB e16
       cases hF
       repeat first|refine cg ?_|simp -dsimp[h1,q2,h5,q6,h7,h9,q10,h11,q12,h14,↓e16]
      ·cases hF
       repeat first|refine cg ?_|simp -dsimp[h1,q2,h5,q6,h7,h9,q10,h11,q12,h14,q15]
    ·cases hF
     repeat first|refine cg ?_|simp -dsimp[h1,q2,h5,q6,h7,h9,q10]
   ·cases hF
    repeat first|refine cg ?_|simp -dsimp[h1,q2,h5,q6,h7,q8]
  ·repeat first|refine cg ?_|simp -dsimp[h1,q2,h5,q6]
   revert hF;refine aN ?_ ?_<;>intro h17 q18 hF
   ·repeat first|refine cg ?_|simp -dsimp[h1,q2,h5,q6,h17,q18]
    revert hF;refine aS ?_ ?_<;>intro h19 q20 hF
    ·cases hF
     repeat first|refine cg ?_|simp -dsimp[h1,q2,h5,q6,h17,q18,h19]
    ·repeat first|refine cg ?_|simp -dsimp[h1,q2,h5,q6,h17,q18,h19,q20]
     have hF:=ob hF;obtain⟨v21,e22,hF⟩:=hF
     refine((C.f79 B hB1 hB2 vars g.var v21 e22)).goW (by simp[h1,q2,h5,q6,h17,q18,h19,q20]) (by simp) ?_
     repeat first|refine cg ?_|simp -dsimp[h1,q2,h5,q6,h17,q18,h19,q20]
     revert hF;refine aS ?_ ?_<;>intro h23 q24 hF
     ·have hF:=ob hF;obtain⟨x25,e26a,hF⟩:=hF
      have e26a:=ZL e26a;obtain⟨ne26,e26⟩:=e26a
      have le26:=ZB e26
      cases hF
      repeat first|refine cg ?_|simp -dsimp[h1,q2,h5,q6,h17,q18,h19,q20,h23,↓e26]
     ·cases hF
      repeat first|refine cg ?_|simp -dsimp[h1,q2,h5,q6,h17,q18,h19,q20,h23,q24]
   ·cases hF
    repeat first|refine cg ?_|simp -dsimp[h1,q2,h5,q6,h17,q18]
theorem C.f103 (w:List Vl.Data)(t:Ty)(c':Clause)(r:Bool)(hF:F.f103 w t c'=some r):PureCall Tryz.prog B 57 [am Vl.Data.c w,.agg [li t.data,li t.index],.agg [li c'.pat.op,li c'.pat.ctor,li c'.pat.n,li c'.pat.m,li c'.pat.var,am Pattern.c c'.pat.kids,li c'.guard.op,li c'.guard.var,li c'.guard.n]] (.lit (.bool r)):=by
 unfold F.f103 at hF
 refine pE Tryz.func57 (by kernel_rfl) rfl Tryz.ntmps57 (by simp) (by simp) ?_
 repeat first|refine cg ?_|simp -dsimp
 refine ADraw.eff [67,68] [(0,0),(0,0),(0,0),(0,0),(0,2),(0,0),(0,1),(0,1),(0,0),(0,0),(0,0),(0,0),(0,2),(0,2),(2,2),(2,2)] [1,1,1,1,1,1,0,2,1,1,1,1,1,1,1,1] follows (by kernel_rfl) (by kernel_rfl) (by kernel_rfl) ?_
 repeat first|refine cg ?_|simp -dsimp
 obtain⟨v,e1,hF⟩:=ob hF
 refine((C.f85 B hB1 hB2 w t c'.pat v e1)).pgoW (by simp) (by simp) ?_
 repeat first|refine cg ?_|simp -dsimp
 revert hF;refine aS (fun h2 q3 hF=> ?_) (fun h2 q3 hF=> ?_)
 ·repeat first|refine cg ?_|simp -dsimp[h2]
  obtain⟨v4,e5,hF⟩:=ob hF
  refine ECallA.nilArg 0 3 (by simp) ?_
  repeat first|refine cg ?_|simp -dsimp
  refine(((CC.f74 B hB1 hB2 w).1 [] t c'.pat v4 e5)).ego (pl [2]) (by simp) (by simp) (ZAi _ rfl (by decide)) (by intro i hi hi';simp at hi hi';first|omega|(subst hi';simp[pl])) (by simp_all) (by simp_all) ?_
  repeat first|refine cg ?_|simp -dsimp
  obtain⟨v6,e7,hF⟩:=ob hF
  refine((C.f102 B hB1 hB2 c'.guard v4 v6 e7)).elend (by simp_all) (by simp -dsimp) ?_
  cases hF
  repeat first|refine cg ?_|simp -dsimp
 ·skip
  cases hF
  repeat first|refine cg ?_|simp -dsimp[q3]
theorem CC.f104 (w:List Vl.Data)(t:Ty)(list:List Clause):(∀(i:Nat) (o:Lo Bool Unit),F.f104 w t list i=some o->∀(c:Code),ZY [1,1,0,1,0,0] (ZK Tryz.f49)=some c->∀(Q:Exit->ASt->Prop),o.post (fun r=>∀st,ZAh Tryz.prog Tryz.f49 (fun r' _=>r'.le (.lit (.bool r))) .ret st->Q .ret st) (fun s=>Q (.exit 0) ⟨[],[]⟩)->ALoopU Tryz.prog B 0 31 (hold c .mk) ⟨[(0,am Vl.Data.c w),(2,am Clause.c list),(4,.ptr 0 0),(7,li (i:Int))],[.cells [li t.data,li t.index]]⟩ (hold Q .mk)):=by
 refine F.f104.partial_correctness w t list
  _
  ?_
 ·intro _f_f104 ih_f104 i o hF
  intro c hc Q hq
  obtain rfl:c=_:=ZM hc rfl
  refine kN fun hk hs=> ?_
  have b0:=hk 0
  simp -dsimp at b0
  have b2:=hk 2
  simp -dsimp at b2
  clear hk hs
  refine eN ?_
  repeat first|refine cg ?_|simp -dsimp
  revert hF;refine aS ?_ ?_<;>intro h7 q8 hF
  ·have z9:((i:Int)<(list.length:Int)):=auz
   repeat first|refine cg ?_|simp -dsimp[h7,z9]
   refine ADraw.simple follows (by kernel_rfl) (by kernel_rfl) ?_
   obtain⟨x,e10,hF⟩:=ob hF
   have le10:=ZB e10
   repeat first|refine cg ?_|simp -dsimp[↓e10]
   obtain⟨v11,e12,hF⟩:=ob hF
   refine((C.f103 B hB1 hB2 w t x v11 e12)).pgoW (by simp_all) (by simp) ?_
   repeat first|refine cg ?_|simp -dsimp
   revert hF;refine aN (fun h13 q14 hF=> ?_) (fun h13 q14 hF=> ?_)
   ·cases hF
    repeat first|refine cg ?_|simp -dsimp[h13,q14]
    refine lG _ (gR _) (hq _ ?_)
    repeat first|refine cg ?_|simp -dsimp
   ·have w15:i64.wrap ((i:Int)+1)=(i:Int)+1:=ZG (by omega) (by omega)
    repeat first|refine cg ?_|simp -dsimp[w15]
    refine aG _ ?_ ((ih_f104 (i+1) o hF) _ rfl _ hq)
    exact(gT (by simp) (by simp_all))
  ·have z9:¬((i:Int)<(list.length:Int)):=auz
   cases hF
   repeat first|refine cg ?_|simp -dsimp[h7,q8,z9]
   refine lG _ (gT (by simp) (by simp_all)) hq
theorem C.f105 (w:List Vl.Data)(t:Ty)(list:List Clause)(r:Bool)(hF:F.f105 w t list=some r):PureCall Tryz.prog B 49 [am Vl.Data.c w,.agg [li t.data,li t.index],am Clause.c list] (.lit (.bool r)):=by
 unfold F.f105 at hF
 refine pE Tryz.func49 (by kernel_rfl) rfl Tryz.ntmps49 (by simp) (by simp) ?_
 repeat first|refine cg ?_|simp -dsimp
 obtain⟨v,e1,hF⟩:=ob hF
 refine((C.f101 B hB1 hB2 w t v e1)).goW (by simp) (by simp) ?_
 repeat first|refine cg ?_|simp -dsimp
 revert hF;refine aS (fun h2 q3 hF=> ?_) (fun h2 q3 hF=> ?_)
 ·repeat first|refine cg ?_|simp -dsimp[h2]
  revert hF;refine aS ?_ ?_<;>intro h4 q5 hF
  ·have z6:(8<(list.length:Int)):=auz
   cases hF
   repeat first|refine cg ?_|simp -dsimp[h4,z6]
  ·have z6:¬(8<(list.length:Int)):=auz
   repeat first|refine cg ?_|simp -dsimp[h4,q5,z6]
   obtain⟨o',ho16,hF⟩:=ob hF
   refine ALoop.goU _ ?_ (((CC.f104 B hB1 hB2 w t list) 0 o' ho16) _ rfl _ ?_)
   ·exact(gT (by simp) (by simp_all))
   rcases o' with r0|sx
   ·dsimp only at hF
    cases hF
    intro st h
    simpa using h
   ·dsimp only at hF
    cases hF
    repeat first|refine cg ?_|simp -dsimp
 ·cases hF
  repeat first|refine cg ?_|simp -dsimp[q3]
theorem CC.f106 (lists:List (List Pattern))(out:List (List Pattern))(i:Nat)(k:Nat):(∀(next10:List (List Pattern)) (j:Nat) (o:List (List Pattern)),F.f106 lists out i k next10 j=some o->∀(c:Code),ZY [1,1,0,1,0,0,1,0,0,1,0,1,0,0,1,0,0,1,0,0] (ZK Tryz.f69)=some c->∀(Q:Exit->ASt->Prop),(Q (.exit 4) ⟨[(0,am (cL Pattern.c) lists),(3,am (cL Pattern.c) out),(4,li (i:Int)),(5,.own 2 (List.length (α:=List Pattern) o)),(6,li (k:Int))],[.dead,.dead,.elems 1 (List.map (cL Pattern.c) o)]⟩)->ALoopU Tryz.prog B 0 62 (hold c .mk) ⟨[(0,am (cL Pattern.c) lists),(3,am (cL Pattern.c) out),(4,li (i:Int)),(5,.own 2 (List.length (α:=List Pattern) next10)),(6,li (k:Int)),(7,li (j:Int))],[.dead,.dead,.elems 1 (List.map (cL Pattern.c) next10)]⟩ (hold Q .mk)):=by
 refine F.f106.partial_correctness lists out i k
  _
  ?_
 ·intro _f_f106 ih_f106 next10 j o hF
  intro c hc Q hq
  obtain rfl:c=_:=ZM hc rfl
  refine kN fun hk hs=> ?_
  have b0:=hk 0
  simp -dsimp at b0
  have b3:=hk 3
  simp -dsimp at b3
  have d2:=hs 2 _ rfl
  simp -dsimp[Blk.bnd]at d2
  clear hk hs
  refine eN ?_
  obtain⟨x,e11,hF⟩:=ob hF
  have le11:=ZB e11
  repeat first|refine cg ?_|simp -dsimp[↓e11]
  revert hF;refine aS ?_ ?_<;>intro h12 q13 hF
  ·have z14:((j:Int)<(x.length:Int)):=auz
   repeat first|refine cg ?_|simp -dsimp[↓e11,h12,z14]
   revert hF;refine aS ?_ ?_<;>intro h15 q16 hF
   ·have z17:((next10.length:Int)<=400):=auz
    repeat first|refine cg ?_|simp -dsimp[↓e11,h15,z17]
    refine ADraw.opn ?_
    refine ADraw.split [] [(1,14)] [(14,1)] 1 14 rfl rfl (by kernel_rfl) ?_ ?_
    ·refine ADraw.split [(1,14)] [(1,14),(6,14)] [(1,14),(14,6)] 6 14 rfl rfl (by kernel_rfl) ?_ ?_
     ·refine ADraw.effP [(1,14),(6,14)] [0,1,2,3,4,5,6,7,8,9,10,11,12,13,14,15,16,17,18] [] [(0,5),(0,6),(0,1),(0,1),(0,1),(0,1),(0,6),(0,2),(0,2),(0,2),(0,2),(0,2),(0,2),(0,2),(0,6),(0,6),(0,6),(0,6),(6,6)] [1,1,1,1,0,0,1,1,1,0,0,1,0,0,1,1,1,1,1] follows (by kernel_rfl) (by kernel_rfl) (by kernel_rfl) (by kernel_rfl) ?_
      obtain⟨x18,e19,hF⟩:=ob hF
      have le19:=ZB e19
      obtain⟨c20,hF⟩:=oc hF
      obtain⟨x21,e22,hF⟩:=ob hF
      have le22:=ZB e22
      obtain⟨c23,hF⟩:=oc hF
      obtain⟨c24,hF⟩:=oc hF
      obtain⟨c25,hF⟩:=oc hF
      have w26:i64.wrap ((j:Int)+1)=(j:Int)+1:=ZG (by omega) (by omega)
      repeat first|refine cg ?_|simp -dsimp[↓e11,↓e19,↓e22,w26]
      refine aG _ ?_ ((ih_f106 (next10++[x18++[x21]]) (j+1) o hF) _ rfl _ hq)
      exact(gT (by simp) (by simp_all))
     ·obtain⟨x18,e19,hF⟩:=ob hF
      obtain⟨c20,hF⟩:=oc hF
      obtain⟨x21,e22,hF⟩:=ob hF
      obtain⟨c23,hF⟩:=oc hF
      obtain⟨c24,hF⟩:=oc hF
      refine ADraw.effP [(1,14),(14,6)] [0,1,2,3,4,5,7,8,9,10,11,12,13,14,6,15,16,17,18] [] [(0,5),(0,6),(0,2),(0,2),(0,2),(0,2),(0,1),(0,1),(0,1),(0,1),(0,1),(0,1),(0,1),(0,6),(0,6),(0,6),(0,6),(0,6),(6,6)] [1,1,1,1,0,0,1,1,0,0,1,0,0,1,1,1,1,1,1] follows (by kernel_rfl) (by kernel_rfl) (by kernel_rfl) (by kernel_rfl) ?_
      have le19:=ZB e19
      have le22:=ZB e22
      obtain⟨c25,hF⟩:=oc hF
      have w26:i64.wrap ((j:Int)+1)=(j:Int)+1:=ZG (by omega) (by omega)
      repeat first|refine cg ?_|simp -dsimp[↓e11,↓e19,↓e22,w26]
      refine aG _ ?_ ((ih_f106 (next10++[x18++[x21]]) (j+1) o hF) _ rfl _ hq)
      exact(gT (by simp) (by simp_all))
    ·obtain⟨x18,e19,hF⟩:=ob hF
     obtain⟨c20,hF⟩:=oc hF
     obtain⟨x21,e22,hF⟩:=ob hF
     obtain⟨c23,hF⟩:=oc hF
     obtain⟨c24,hF⟩:=oc hF
     refine ADraw.effP [(14,1)] [0,2,3,4,5,7,8,9,10,11,12,13,14,1,6,15,16,17,18] [] [(0,5),(0,2),(0,2),(0,2),(0,2),(0,0),(0,0),(0,0),(0,0),(0,0),(0,0),(0,0),(0,6),(0,6),(0,6),(0,6),(0,6),(0,6),(6,6)] [1,1,1,0,0,1,1,1,1,1,1,1,1,1,1,1,1,1,1] follows (by kernel_rfl) (by kernel_rfl) (by kernel_rfl) (by kernel_rfl) ?_
     have le19:=ZB e19
     have le22:=ZB e22
     obtain⟨c25,hF⟩:=oc hF
     have w26:i64.wrap ((j:Int)+1)=(j:Int)+1:=ZG (by omega) (by omega)
     repeat first|refine cg ?_|simp -dsimp[↓e11,↓e19,↓e22,w26]
     refine aG _ ?_ ((ih_f106 (next10++[x18++[x21]]) (j+1) o hF) _ rfl _ hq)
     exact(gT (by simp) (by simp_all))
   ·have z17:¬((next10.length:Int)<=400):=auz
    cases hF
    repeat first|refine cg ?_|simp -dsimp[↓e11,h15,q16,z17]
    refine lG _ (gT (by simp) (by simp_all)) hq
  ·have z14:¬((j:Int)<(x.length:Int)):=auz
   cases hF
   repeat first|refine cg ?_|simp -dsimp[↓e11,h12,q13,z14]
   refine lG _ (gT (by simp) (by simp_all)) hq
theorem CC.f107 (lists:List (List Pattern))(out:List (List Pattern))(i:Nat):(∀(next:List (List Pattern)) (k:Nat) (o:List (List Pattern)),F.f107 lists out i next k=some o->∀(c:Code),ZY [1,1,0,1,0,0,1,0,0,1,0,1,0,0] (ZK Tryz.f69)=some c->∀(Q:Exit->ASt->Prop),(Q (.exit 2) ⟨[(0,am (cL Pattern.c) lists),(4,li (i:Int)),(5,.own 2 (List.length (α:=List Pattern) o))],[.dead,.dead,.elems 1 (List.map (cL Pattern.c) o)]⟩)->ALoopU Tryz.prog B 0 62 (hold c .mk) ⟨[(0,am (cL Pattern.c) lists),(3,am (cL Pattern.c) out),(4,li (i:Int)),(5,.own 2 (List.length (α:=List Pattern) next)),(6,li (k:Int))],[.dead,.dead,.elems 1 (List.map (cL Pattern.c) next)]⟩ (hold Q .mk)):=by
 refine F.f107.partial_correctness lists out i
  _
  ?_
 ·intro _f_f107 ih_f107 next k o hF
  intro c hc Q hq
  obtain rfl:c=_:=ZM hc rfl
  refine kN fun hk hs=> ?_
  have b0:=hk 0
  simp -dsimp at b0
  have b3:=hk 3
  simp -dsimp at b3
  have d2:=hs 2 _ rfl
  simp -dsimp[Blk.bnd]at d2
  clear hk hs
  refine eN ?_
  repeat first|refine cg ?_|simp -dsimp
  revert hF;refine aS ?_ ?_<;>intro h4 q5 hF
  ·have z6:((k:Int)<(out.length:Int)):=auz
   repeat first|refine cg ?_|simp -dsimp[h4,z6]
   revert hF;refine aS ?_ ?_<;>intro h7 q8 hF
   ·have z9:((next.length:Int)<=400):=auz
    repeat first|refine cg ?_|simp -dsimp[h7,z9]
    obtain⟨o',ho27,hF⟩:=ob hF
    refine ALoop.goU _ ?_ (((CC.f106 B hB1 hB2 lists out i k) next 0 o' ho27) _ rfl _ ?_)
    ·exact(gT (by simp) (by simp_all))
    obtain⟨c28,hF⟩:=oc hF
    have w29:i64.wrap ((k:Int)+1)=(k:Int)+1:=ZG (by omega) (by omega)
    repeat first|refine cg ?_|simp -dsimp[w29]
    refine aG _ ?_ ((ih_f107 o' (k+1) o hF) _ rfl _ hq)
    exact(gT (by simp) (by simp_all))
   ·have z9:¬((next.length:Int)<=400):=auz
    cases hF
    repeat first|refine cg ?_|simp -dsimp[h7,q8,z9]
    refine lG _ (gT (by simp) (by simp_all)) hq
  ·have z6:¬((k:Int)<(out.length:Int)):=auz
   cases hF
   repeat first|refine cg ?_|simp -dsimp[h4,q5,z6]
   refine lG _ (gT (by simp) (by simp_all)) hq
theorem CC.f108 (lists:List (List Pattern)):(∀(out:List (List Pattern)) (i:Nat) (o:List (List Pattern)),F.f108 lists out i=some o->∀(c:Code),ZY [1,1,0,1,0,0] (ZK Tryz.f69)=some c->∀(Q:Exit->ASt->Prop),(Q (.exit 0) ⟨[(3,am (cL Pattern.c) o)],[]⟩)->ALoopU Tryz.prog B 0 62 (hold c .mk) ⟨[(0,am (cL Pattern.c) lists),(3,am (cL Pattern.c) out),(4,li (i:Int))],[.dead,.dead]⟩ (hold Q .mk)):=by
 refine F.f108.partial_correctness lists
  _
  ?_
 ·intro _f_f108 ih_f108 out i o hF
  intro c hc Q hq
  obtain rfl:c=_:=ZM hc rfl
  refine kN fun hk hs=> ?_
  have b0:=hk 0
  simp -dsimp at b0
  have b3:=hk 3
  simp -dsimp at b3
  clear hk hs
  refine eN ?_
  repeat first|refine cg ?_|simp -dsimp
  revert hF;refine aS ?_ ?_<;>intro h1 q2 hF
  ·have z3:((i:Int)<(lists.length:Int)):=auz
   repeat first|refine cg ?_|simp -dsimp[h1,z3]
   obtain⟨o'31,ho30,hF⟩:=ob hF
   refine ALoop.goU _ ?_ (((CC.f107 B hB1 hB2 lists out i) [] 0 o'31 ho30) _ rfl _ ?_)
   ·exact(gT (by simp) (by simp_all))
   obtain⟨c32,hF⟩:=oc hF
   have w33:i64.wrap ((i:Int)+1)=(i:Int)+1:=ZG (by omega) (by omega)
   repeat first|refine cg ?_|simp -dsimp[w33]
   refine aG ⟨[(0,.arr (List.map (cL Pattern.c) lists)),(3,.arr (List.map (cL Pattern.c) o'31)),(4,.lit (.int .i64 ((i+1):Int)))],[.dead,.dead]⟩ (by refine Gh.trans (Gh.frzSlot 3 (l:=2) (n:=List.length (α:=List Pattern) o'31) (sz:=1) (es:=List.map (cL Pattern.c) o'31) (by simp) (by simp) (by simp) (by simp)) ?_;exact(gT (by simp) (by simp_all))) ?_
   exact(ih_f108 o'31 (i+1) o hF) _ rfl _ hq
  ·have z3:¬((i:Int)<(lists.length:Int)):=auz
   cases hF
   repeat first|refine cg ?_|simp -dsimp[h1,q2,z3]
   refine lG _ (gT (by simp) (by simp_all)) hq
theorem C.f109 (lists:List (List Pattern))(r:List (List Pattern))(hF:F.f109 lists=some r):PureCall Tryz.prog B 69 [am (cL Pattern.c) lists] (am (cL Pattern.c) r):=by
 unfold F.f109 at hF
 refine pE Tryz.func69 (by kernel_rfl) rfl Tryz.ntmps69 (by simp) (by simp) ?_
 repeat first|refine cg ?_|simp -dsimp
 obtain⟨o'35,ho34,hF⟩:=ob hF
 refine ALoop.goU ⟨[(0,.arr (List.map (cL Pattern.c) lists)),(3,.arr (List.map (cL Pattern.c) [[]])),(4,.lit (.int .i64 0))],[.dead,.dead]⟩ (by refine Gh.trans (Gh.frzSlot 3 (l:=1) (n:=List.length (α:=List Pattern) [[]]) (sz:=1) (es:=List.map (cL Pattern.c) [[]]) (by simp) (by simp) (by simp) (by simp)) ?_;exact(gT (by simp) (by simp -dsimp))) ?_
 refine((CC.f108 B hB1 hB2 lists) [[]] 0 o'35 ho34) _ rfl _ ?_
 cases hF
 repeat first|refine cg ?_|simp -dsimp
theorem CC.spec_l3Split__o0_l2 (p:Pattern)(v24:List (List Pattern)):(∀(out:List Pattern) (i26:Nat) (o:List Pattern),F.f110 p v24 out i26=some o->∀(c:Code),ZY [1,1,1,1,1,1,0,1,0,0] (ZK Tryz.f58)=some c->∀(Q:Exit->ASt->Prop),(Q (.exit 2) ⟨[(7,.own 2 (List.length (α:=Pattern) o))],[.dead,.dead,.elems 6 (List.map Pattern.c o)]⟩)->ALoopU Tryz.prog B 0 67 (hold c .mk) ⟨[(1,.ptr 0 0),(6,am (cL Pattern.c) v24),(7,.own 2 (List.length (α:=Pattern) out)),(8,li (i26:Int))],[.cells [li p.op,li p.ctor,li p.n,li p.m,li p.var,am Pattern.c p.kids],.dead,.elems 6 (List.map Pattern.c out)]⟩ (hold Q .mk)):=by
 refine F.f110.partial_correctness p v24
  _
  ?_
 ·intro _f_spec_l3Split__o0_l2 ih_spec_l3Split__o0_l2 out i26 o hF
  intro c hc Q hq
  obtain rfl:c=_:=ZM hc rfl
  refine kN fun hk hs=> ?_
  have b6:=hk 6
  simp -dsimp at b6
  have d0:=hs 0 _ rfl
  simp -dsimp[Blk.bnd]at d0
  have d2:=hs 2 _ rfl
  simp -dsimp[Blk.bnd]at d2
  clear hk hs
  refine eN ?_
  repeat first|refine cg ?_|simp -dsimp
  revert hF;refine aS ?_ ?_<;>intro h27 q28 hF
  ·have z29:((i26:Int)<(v24.length:Int)):=auz
   obtain⟨x30,e31,hF⟩:=ob hF
   have le31:=ZB e31
   obtain⟨c32,hF⟩:=oc hF
   have w33:i64.wrap ((i26:Int)+1)=(i26:Int)+1:=ZG (by omega) (by omega)
   repeat first|refine cg ?_|simp -dsimp[h27,z29,↓e31,w33]
   refine aG _ ?_ ((ih_spec_l3Split__o0_l2 (out++[(⟨p.op,p.ctor,p.n,p.m,p.var,x30⟩:Pattern)]) (i26+1) o hF) _ rfl _ hq)
   exact(gT (by simp) (by simp_all))
  ·have z29:¬((i26:Int)<(v24.length:Int)):=auz
   cases hF
   repeat first|refine cg ?_|simp -dsimp[h27,q28,z29]
   refine lG _ (gT (by simp) (by simp_all)) hq
theorem CC.spec_l3Split__o0  :(∀(p:Pattern) (r:List Pattern),F.f111 p=some r->BCall Tryz.prog B 58 [] [.agg [li p.op,li p.ctor,li p.n,li p.m,li p.var,am Pattern.c p.kids]] (.own 0 (List.length (α:=Pattern) r)) [.elems 6 (List.map Pattern.c r)])/\
  (∀(p:Pattern) (lists:List (List Pattern)) (i:Nat) (o:List (List Pattern)),F.f112 p lists i=some o->∀(c:Code),ZY [1,1,1,0,1,0,0] (ZK Tryz.f58)=some c->∀(Q:Exit->ASt->Prop),(Q (.exit 0) ⟨[(1,.ptr 0 0),(4,.own 1 (List.length (α:=List Pattern) o))],[.cells [li p.op,li p.ctor,li p.n,li p.m,li p.var,am Pattern.c p.kids],.elems 1 (List.map (cL Pattern.c) o)]⟩)->ALoopU Tryz.prog B 0 67 (hold c .mk) ⟨[(1,.ptr 0 0),(4,.own 1 (List.length (α:=List Pattern) lists)),(5,li (i:Int))],[.cells [li p.op,li p.ctor,li p.n,li p.m,li p.var,am Pattern.c p.kids],.elems 1 (List.map (cL Pattern.c) lists)]⟩ (hold Q .mk)):=by
 refine F.f111.mutual_partial_correctness 
  _ _
  ?_ ?_
 ·intro _f_spec_l3Split__o0 _f_spec_l3Split__o0_l1 ih_spec_l3Split__o0 ih_spec_l3Split__o0_l1 p r hF
  refine BCall.enterS (τ1:=[]) (ys:=[.own 0 (List.length (α:=Pattern) r)]) (news:=[(6,List.map Pattern.c r)]) Tryz.func58 (by kernel_rfl) rfl Tryz.ntmps58 (by simp) rfl rfl (by simp) (by simp) (by simp) (by simp) (by simp) (by simp) (gR _) ?_
  repeat first|refine cg ?_|simp -dsimp
  revert hF;refine aS ?_ ?_<;>intro h1 q2 hF
  ·repeat first|refine cg ?_|simp -dsimp[h1]
   refine ADraw.eff [58] [(0,0),(0,0),(0,0),(0,0),(0,3),(0,1),(0,1),(0,1),(0,1),(0,3),(0,3),(3,3)] [1,1,1,1,1,0,2,0,0,1,1,1] follows (by kernel_rfl) (by kernel_rfl) (by kernel_rfl) ?_
   obtain⟨x,e3,hF⟩:=ob hF
   have le3:=ZB e3
   repeat first|refine cg ?_|simp -dsimp[↓e3]
   obtain⟨v,e4,hF⟩:=ob hF
   refine((ih_spec_l3Split__o0 x v e4)).ego (pl [1]) (by simp) (by simp) (by intro i j hi;simp at hi) (by intro i hi hi';simp at hi hi';have hi:i=0:=(by omega);rcases hi with rfl<;>simp[pl]) (by simp_all) (by simp_all) ?_
   obtain⟨x5,e6,hF⟩:=ob hF
   have le6:=ZB e6
   repeat first|refine cg ?_|simp -dsimp[↓e6]
   obtain⟨v7,e8,hF⟩:=ob hF
   refine((ih_spec_l3Split__o0 x5 v7 e8)).ego (pl [2]) (by simp) (by simp) (by intro i j hi;simp at hi) (by intro i hi hi';simp at hi hi';have hi:i=0:=(by omega);rcases hi with rfl<;>simp[pl]) (by simp_all) (by simp_all) ?_
   obtain⟨c9,hF⟩:=oc hF
   repeat first|refine cg ?_|simp -dsimp
   revert hF;refine aS ?_ ?_<;>intro h10 q11 hF
   ·have z12:(401<(((v++v7).length:Nat):Int)):=auz
    obtain⟨c13,hF⟩:=oc hF
    cases hF
    repeat first|refine cg ?_|simp -dsimp[h10,z12]
    all_goals(try first|omega|rfl|(simp;done)|(simp only[List.length_cons,List.length_nil]at*;omega)|simp)
   ·have z12:¬(401<(((v++v7).length:Nat):Int)):=auz
    cases hF
    repeat first|refine cg ?_|simp -dsimp[h10,q11,z12]
    all_goals(try first|omega|rfl|(simp;done)|(simp only[List.length_cons,List.length_nil]at*;omega)|simp)
  ·repeat first|refine cg ?_|simp -dsimp[q2]
   obtain⟨o',ho23,hF⟩:=ob hF
   refine ALoop.goU _ ?_ ((ih_spec_l3Split__o0_l1 p [] 0 o' ho23) _ rfl _ ?_)
   ·exact(gT (by simp) (by simp_all))
   repeat first|refine cg ?_|simp -dsimp
   obtain⟨v24,e25,hF⟩:=ob hF
   refine ACall.frz ?_ ((C.f109 B hB1 hB2 o' v24 e25)).ent
   repeat first|refine cg ?_|simp -dsimp
   refine((C.f109 B hB1 hB2 o' v24 e25)).goW (by simp) (by simp) ?_
   repeat first|refine cg ?_|simp -dsimp
   obtain⟨o'35,ho34,hF⟩:=ob hF
   refine ALoop.goU _ ?_ (((CC.spec_l3Split__o0_l2 B hB1 hB2 p v24) [] 0 o'35 ho34) _ rfl _ ?_)
   ·exact(gT (by simp) (by simp -dsimp))
   cases hF
   repeat first|refine cg ?_|simp -dsimp
   all_goals(try first|omega|rfl|(simp;done)|(simp only[List.length_cons,List.length_nil]at*;omega)|simp)
 ·intro _f_spec_l3Split__o0 _f_spec_l3Split__o0_l1 ih_spec_l3Split__o0 ih_spec_l3Split__o0_l1 p lists i o hF
  intro c hc Q hq
  obtain rfl:c=_:=ZM hc rfl
  refine kN fun hk hs=> ?_
  have d0:=hs 0 _ rfl
  simp -dsimp[Blk.bnd]at d0
  have d1:=hs 1 _ rfl
  simp -dsimp[Blk.bnd]at d1
  clear hk hs
  refine eN ?_
  repeat first|refine cg ?_|simp -dsimp
  revert hF;refine aS ?_ ?_<;>intro h14 q15 hF
  ·have z16:((i:Int)<(p.kids.length:Int)):=auz
   obtain⟨x17,e18,hF⟩:=ob hF
   have le18:=ZB e18
   repeat first|refine cg ?_|simp -dsimp[h14,z16,↓e18]
   obtain⟨v19,e20,hF⟩:=ob hF
   refine((ih_spec_l3Split__o0 x17 v19 e20)).go (pl [2]) (by simp) (by simp) (by intro i j hi;simp at hi) (by intro i hi hi';simp at hi hi';have hi:i=0:=(by omega);rcases hi with rfl<;>simp[pl]) (by simp_all) (by simp_all) ?_
   obtain⟨c21,hF⟩:=oc hF
   have w22:i64.wrap ((i:Int)+1)=(i:Int)+1:=ZG (by omega) (by omega)
   repeat first|refine cg ?_|simp -dsimp[w22]
   refine aG _ ?_ ((ih_spec_l3Split__o0_l1 p (lists++[v19]) (i+1) o hF) _ rfl _ hq)
   exact(gT (by simp) (by simp_all))
  ·have z16:¬((i:Int)<(p.kids.length:Int)):=auz
   cases hF
   repeat first|refine cg ?_|simp -dsimp[h14,q15,z16]
   refine lG _ (gT (by simp) (by simp_all)) hq
theorem CC.f113 (row:ZA)(path:List Int):(∀(z:List PathBind) (z1:Int) (z2:Int) (z3:Int) (z4:Int) (z5:Int) (z6:List Pattern) (o:(List PathBind)×Int×Int×Int×Int×Int×(List Pattern)),F.f113 row path z z1 z2 z3 z4 z5 z6=some o->∀(c:Code),ZY [1,0,0,0] (ZK Tryz.f77)=some c->∀(Q:Exit->ASt->Prop),(Q (.exit 0) ⟨[(2,am cI path),(3,.ptr 0 0),(4,.ptr 1 0),(6,.ptr 2 0),(7,.ptr 3 0)],[.cells [li row.f0,am Pattern.c row.f1,am PathBind.c o.1],.cells [li o.2.1,li o.2.2.1,li o.2.2.2.1,li o.2.2.2.2.1,li o.2.2.2.2.2.1,am Pattern.c o.2.2.2.2.2.2],.cells [li 0,.lit (.slice none 0 0),.lit (.slice none 0 0)],.cells [li 0,li 0,li 0,li 0,li 0,.lit (.slice none 0 0)]]⟩)->ALoopU Tryz.prog B 0 48 (hold c .mk) ⟨[(2,am cI path),(3,.ptr 0 0),(4,.ptr 1 0),(6,.ptr 2 0),(7,.ptr 3 0)],[.cells [li row.f0,am Pattern.c row.f1,am PathBind.c z],.cells [li z1,li z2,li z3,li z4,li z5,am Pattern.c z6],.cells [li 0,.lit (.slice none 0 0),.lit (.slice none 0 0)],.cells [li 0,li 0,li 0,li 0,li 0,.lit (.slice none 0 0)]]⟩ (hold Q .mk)):=by
 refine F.f113.partial_correctness row path
  _
  ?_
 ·intro _f_f113 ih_f113 z z1 z2 z3 z4 z5 z6 o hF
  intro c hc Q hq
  obtain rfl:c=_:=ZM hc rfl
  refine kN fun hk hs=> ?_
  have b2:=hk 2
  simp -dsimp at b2
  have d0:=hs 0 _ rfl
  simp -dsimp[Blk.bnd]at d0
  have d1:=hs 1 _ rfl
  simp -dsimp[Blk.bnd]at d1
  clear hk hs
  refine eN ?_
  repeat first|refine cg ?_|simp -dsimp
  revert hF;refine aS ?_ ?_<;>intro h7 q8 hF
  ·repeat first|refine cg ?_|simp -dsimp[eq_true h7]
   refine ADraw.opn ?_
   refine ADraw.split [] [(0,6)] [(6,0)] 0 6 rfl rfl (by kernel_rfl) ?_ ?_
   ·refine ADraw.split [(0,6)] [(0,6),(3,6)] [(0,6),(6,3)] 3 6 rfl rfl (by kernel_rfl) ?_ ?_
    ·refine ADraw.effP [(0,6),(3,6)] [0,1,2,3,4,5,6,7,8,9,10,11,12,13] [1000045] [(0,8),(0,1),(0,1),(0,8),(0,4),(0,4),(0,8),(0,3),(0,8),(0,8),(0,8),(0,8),(7,7),(0,8)] [1,0,2,1,0,2,1,1,1,1,1,1,1,1] follows (by kernel_rfl) (by kernel_rfl) (by kernel_rfl) (by kernel_rfl) ?_
     obtain⟨c9,hF⟩:=oc hF
     obtain⟨c10,hF⟩:=oc hF
     obtain⟨c11,hF⟩:=oc hF
     obtain⟨x,e12,hF⟩:=ob hF
     have le12:=ZB e12
     repeat first|refine cg ?_|simp -dsimp[↓e12]
     refine aG ⟨[(2,.arr (List.map cI path)),(3,.ptr 0 0),(4,.ptr 1 0),(6,.ptr 2 0),(7,.ptr 3 0)],[.cells [.lit (.int .i64 row.f0),.arr (List.map Pattern.c row.f1),.arr (List.map PathBind.c (z++[(⟨z5,path⟩:PathBind)]))],.cells [.lit (.int .i64 x.op),.lit (.int .i64 x.ctor),.lit (.int .i64 x.n),.lit (.int .i64 x.m),.lit (.int .i64 x.var),.arr (List.map Pattern.c x.kids)],.cells [.lit (.int .i64 0),.lit (.slice none 0 0),.lit (.slice none 0 0)],.cells [.lit (.int .i64 0),.lit (.int .i64 0),.lit (.int .i64 0),.lit (.int .i64 0),.lit (.int .i64 0),.lit (.slice none 0 0)]]⟩ (by refine Gh.trans (Gh.frzCell 0 2 (l2:=4) (n:=List.length (α:=PathBind) (z++[(⟨z5,path⟩:PathBind)])) (sz:=2) (cs:=[.lit (.int .i64 row.f0),.arr (List.map Pattern.c row.f1),.own 4 (List.length (α:=PathBind) (z++[(⟨z5,path⟩:PathBind)]))]) (es:=List.map PathBind.c (z++[(⟨z5,path⟩:PathBind)])) (by simp) (by simp) (by simp) (by simp) (by simp)) ?_;exact(gT (by simp) (by simp_all))) ?_
     exact(ih_f113 (z++[(⟨z5,path⟩:PathBind)]) x.op x.ctor x.n x.m x.var x.kids o hF) _ rfl _ hq
    ·refine ADraw.effP [(0,6),(6,3)] [0,1,2,4,5,6,3,7,8,9,10,11,12,13] [1000045] [(0,8),(0,2),(0,2),(0,4),(0,4),(0,8),(0,8),(0,3),(0,8),(0,8),(0,8),(0,8),(7,7),(0,8)] [1,0,2,0,2,1,1,1,1,1,1,1,1,1] follows (by kernel_rfl) (by kernel_rfl) (by kernel_rfl) (by kernel_rfl) ?_
     obtain⟨c9,hF⟩:=oc hF
     obtain⟨c10,hF⟩:=oc hF
     obtain⟨c11,hF⟩:=oc hF
     obtain⟨x,e12,hF⟩:=ob hF
     have le12:=ZB e12
     repeat first|refine cg ?_|simp -dsimp[↓e12]
     refine aG ⟨[(2,.arr (List.map cI path)),(3,.ptr 0 0),(4,.ptr 1 0),(6,.ptr 2 0),(7,.ptr 3 0)],[.cells [.lit (.int .i64 row.f0),.arr (List.map Pattern.c row.f1),.arr (List.map PathBind.c (z++[(⟨z5,path⟩:PathBind)]))],.cells [.lit (.int .i64 x.op),.lit (.int .i64 x.ctor),.lit (.int .i64 x.n),.lit (.int .i64 x.m),.lit (.int .i64 x.var),.arr (List.map Pattern.c x.kids)],.cells [.lit (.int .i64 0),.lit (.slice none 0 0),.lit (.slice none 0 0)],.cells [.lit (.int .i64 0),.lit (.int .i64 0),.lit (.int .i64 0),.lit (.int .i64 0),.lit (.int .i64 0),.lit (.slice none 0 0)]]⟩ (by refine Gh.trans (Gh.frzCell 0 2 (l2:=4) (n:=List.length (α:=PathBind) (z++[(⟨z5,path⟩:PathBind)])) (sz:=2) (cs:=[.lit (.int .i64 row.f0),.arr (List.map Pattern.c row.f1),.own 4 (List.length (α:=PathBind) (z++[(⟨z5,path⟩:PathBind)]))]) (es:=List.map PathBind.c (z++[(⟨z5,path⟩:PathBind)])) (by simp) (by simp) (by simp) (by simp) (by simp)) ?_;exact(gT (by simp) (by simp_all))) ?_
     exact(ih_f113 (z++[(⟨z5,path⟩:PathBind)]) x.op x.ctor x.n x.m x.var x.kids o hF) _ rfl _ hq
   ·refine ADraw.effP [(6,0)] [1,2,4,5,6,0,3,7,8,9,10,11,12,13] [1000045] [(0,2),(0,2),(0,4),(0,4),(0,8),(0,8),(0,8),(0,3),(0,8),(0,8),(0,8),(0,8),(7,7),(0,8)] [0,2,0,2,1,1,1,1,1,1,1,1,1,1] follows (by kernel_rfl) (by kernel_rfl) (by kernel_rfl) (by kernel_rfl) ?_
    obtain⟨c9,hF⟩:=oc hF
    obtain⟨c10,hF⟩:=oc hF
    obtain⟨c11,hF⟩:=oc hF
    obtain⟨x,e12,hF⟩:=ob hF
    have le12:=ZB e12
    repeat first|refine cg ?_|simp -dsimp[↓e12]
    refine aG ⟨[(2,.arr (List.map cI path)),(3,.ptr 0 0),(4,.ptr 1 0),(6,.ptr 2 0),(7,.ptr 3 0)],[.cells [.lit (.int .i64 row.f0),.arr (List.map Pattern.c row.f1),.arr (List.map PathBind.c (z++[(⟨z5,path⟩:PathBind)]))],.cells [.lit (.int .i64 x.op),.lit (.int .i64 x.ctor),.lit (.int .i64 x.n),.lit (.int .i64 x.m),.lit (.int .i64 x.var),.arr (List.map Pattern.c x.kids)],.cells [.lit (.int .i64 0),.lit (.slice none 0 0),.lit (.slice none 0 0)],.cells [.lit (.int .i64 0),.lit (.int .i64 0),.lit (.int .i64 0),.lit (.int .i64 0),.lit (.int .i64 0),.lit (.slice none 0 0)]]⟩ (by refine Gh.trans (Gh.frzCell 0 2 (l2:=5) (n:=List.length (α:=PathBind) (z++[(⟨z5,path⟩:PathBind)])) (sz:=2) (cs:=[.lit (.int .i64 row.f0),.arr (List.map Pattern.c row.f1),.own 5 (List.length (α:=PathBind) (z++[(⟨z5,path⟩:PathBind)]))]) (es:=List.map PathBind.c (z++[(⟨z5,path⟩:PathBind)])) (by simp) (by simp) (by simp) (by simp) (by simp)) ?_;exact(gT (by simp) (by simp_all))) ?_
    exact(ih_f113 (z++[(⟨z5,path⟩:PathBind)]) x.op x.ctor x.n x.m x.var x.kids o hF) _ rfl _ hq
  ·cases hF
   repeat first|refine cg ?_|simp -dsimp[h7,q8]
   refine lG _ (gT (by simp) (by simp_all)) hq
theorem C.f114 (row:ZA)(p:Pattern)(path:List Int)(r:ZA×Pattern)(hF:F.f114 row p path=some r):PureCall Tryz.prog B 77 [.agg [li row.f0,am Pattern.c row.f1,am PathBind.c row.f2],.agg [li p.op,li p.ctor,li p.n,li p.m,li p.var,am Pattern.c p.kids],am cI path] (.tup [.agg [li r.1.f0,am Pattern.c r.1.f1,am PathBind.c r.1.f2],.agg [li r.2.op,li r.2.ctor,li r.2.n,li r.2.m,li r.2.var,am Pattern.c r.2.kids]]):=by
 unfold F.f114 at hF
 refine pE Tryz.func77 (by kernel_rfl) rfl Tryz.ntmps77 (by simp) (by simp) ?_
 repeat first|refine cg ?_|simp -dsimp
 obtain⟨o',ho13,hF⟩:=ob hF
 refine ALoop.goU _ ?_ (((CC.f113 B hB1 hB2 row path) row.f2 p.op p.ctor p.n p.m p.var p.kids o' ho13) _ rfl _ ?_)
 ·exact(gT (by simp) (by simp -dsimp))
 repeat first|refine cg ?_|simp -dsimp
 revert hF;refine aS ?_ ?_<;>intro h14 q15 hF
 ·repeat first|refine cg ?_|simp -dsimp[h14]
  refine ADraw.opn ?_
  refine ADraw.split [] [(0,6)] [(6,0)] 0 6 rfl rfl (by kernel_rfl) ?_ ?_
  ·refine ADraw.split [(0,6)] [(0,6),(3,6)] [(0,6),(6,3)] 3 6 rfl rfl (by kernel_rfl) ?_ ?_
   ·refine ADraw.effP [(0,6),(3,6)] [0,1,2,3,4,5,6,7,8,9,10,11,12,13] [1000045] [(0,8),(0,1),(0,1),(0,8),(0,4),(0,4),(0,8),(0,3),(0,8),(0,8),(0,8),(0,8),(7,7),(0,8)] [1,0,2,1,0,2,1,1,1,1,1,1,1,1] follows (by kernel_rfl) (by kernel_rfl) (by kernel_rfl) (by kernel_rfl) ?_
    obtain⟨c16,hF⟩:=oc hF
    obtain⟨c17,hF⟩:=oc hF
    obtain⟨c18,hF⟩:=oc hF
    repeat first|refine cg ?_|simp -dsimp
    refine ADraw.eff [] [(0,0),(0,2),(0,2),(0,2)] [1,1,1,1] follows (by kernel_rfl) (by kernel_rfl) (by kernel_rfl) ?_
    repeat first|refine cg ?_|simp -dsimp
    obtain⟨v,e19,hF⟩:=ob hF
    refine((C.f92 B hB1 hB2 v e19)).pgoW (by simp_all) (by simp) ?_
    cases hF
    repeat first|refine cg ?_|simp -dsimp
   ·refine ADraw.effP [(0,6),(6,3)] [0,1,2,4,5,6,3,7,8,9,10,11,12,13] [1000045] [(0,8),(0,2),(0,2),(0,4),(0,4),(0,8),(0,8),(0,3),(0,8),(0,8),(0,8),(0,8),(7,7),(0,8)] [1,0,2,0,2,1,1,1,1,1,1,1,1,1] follows (by kernel_rfl) (by kernel_rfl) (by kernel_rfl) (by kernel_rfl) ?_
    obtain⟨c16,hF⟩:=oc hF
    obtain⟨c17,hF⟩:=oc hF
    obtain⟨c18,hF⟩:=oc hF
    repeat first|refine cg ?_|simp -dsimp
    refine ADraw.eff [] [(0,0),(0,2),(0,2),(0,2)] [1,1,1,1] follows (by kernel_rfl) (by kernel_rfl) (by kernel_rfl) ?_
    repeat first|refine cg ?_|simp -dsimp
    obtain⟨v,e19,hF⟩:=ob hF
    refine((C.f92 B hB1 hB2 v e19)).pgoW (by simp_all) (by simp) ?_
    cases hF
    repeat first|refine cg ?_|simp -dsimp
  ·refine ADraw.effP [(6,0)] [1,2,4,5,6,0,3,7,8,9,10,11,12,13] [1000045] [(0,2),(0,2),(0,4),(0,4),(0,8),(0,8),(0,8),(0,3),(0,8),(0,8),(0,8),(0,8),(7,7),(0,8)] [0,2,0,2,1,1,1,1,1,1,1,1,1,1] follows (by kernel_rfl) (by kernel_rfl) (by kernel_rfl) (by kernel_rfl) ?_
   obtain⟨c16,hF⟩:=oc hF
   obtain⟨c17,hF⟩:=oc hF
   obtain⟨c18,hF⟩:=oc hF
   repeat first|refine cg ?_|simp -dsimp
   refine ADraw.eff [] [(0,0),(0,2),(0,2),(0,2)] [1,1,1,1] follows (by kernel_rfl) (by kernel_rfl) (by kernel_rfl) ?_
   repeat first|refine cg ?_|simp -dsimp
   obtain⟨v,e19,hF⟩:=ob hF
   refine((C.f92 B hB1 hB2 v e19)).pgoW (by simp_all) (by simp) ?_
   cases hF
   repeat first|refine cg ?_|simp -dsimp
 ·repeat first|refine cg ?_|simp -dsimp[q15]
  refine ADraw.eff [] [(0,0),(0,1),(0,2),(0,2)] [1,2,1,1] follows (by kernel_rfl) (by kernel_rfl) (by kernel_rfl) ?_
  cases hF
  repeat first|refine cg ?_|simp -dsimp
theorem CC.f115 (list:List Clause)(i:Nat)(v:List Pattern):(∀(out6:List ZA) (k:Nat) (o:List ZA),F.f115 list i v out6 k=some o->∀(c:Code),ZY [1,1,0,1,0,0,1,0,0,1,1,0,0] (ZK Tryz.f60)=some c->∀(Q:Exit->ASt->Prop),(Q (.exit 2) ⟨[(0,am Clause.c list),(3,.own 0 (List.length (α:=ZA) o)),(4,li (i:Int))],[.elems 3 (List.map ZA.c o)]⟩)->ALoopU Tryz.prog B 0 46 (hold c .mk) ⟨[(0,am Clause.c list),(3,.own 0 (List.length (α:=ZA) out6)),(4,li (i:Int)),(5,.own 1 (List.length (α:=Pattern) v)),(6,li (k:Int))],[.elems 3 (List.map ZA.c out6),.elems 6 (List.map Pattern.c v)]⟩ (hold Q .mk)):=by
 refine F.f115.partial_correctness list i v
  _
  ?_
 ·intro _f_f115 ih_f115 out6 k o hF
  intro c hc Q hq
  obtain rfl:c=_:=ZM hc rfl
  refine kN fun hk hs=> ?_
  have b0:=hk 0
  simp -dsimp at b0
  have d0:=hs 0 _ rfl
  simp -dsimp[Blk.bnd]at d0
  have d1:=hs 1 _ rfl
  simp -dsimp[Blk.bnd]at d1
  clear hk hs
  refine eN ?_
  repeat first|refine cg ?_|simp -dsimp
  revert hF;refine aS ?_ ?_<;>intro h7 q8 hF
  ·have z9:((k:Int)<(v.length:Int)):=auz
   obtain⟨x10,e11,hF⟩:=ob hF
   have le11:=ZB e11
   repeat first|refine cg ?_|simp -dsimp[h7,z9,↓e11]
   obtain⟨v12,e13,hF⟩:=ob hF
   refine((C.f114 B hB1 hB2 (⟨(i:Int),[],[]⟩:ZA) x10 [] v12 e13)).goW (by simp_all) (by simp) ?_
   obtain⟨c14,hF⟩:=oc hF
   have w15:i64.wrap ((k:Int)+1)=(k:Int)+1:=ZG (by omega) (by omega)
   repeat first|refine cg ?_|simp -dsimp[w15]
   refine aG _ ?_ ((ih_f115 (out6++[(⟨v12.1.f0,[v12.2],v12.1.f2⟩:ZA)]) (k+1) o hF) _ rfl _ hq)
   exact(gT (by simp) (by simp_all))
  ·have z9:¬((k:Int)<(v.length:Int)):=auz
   cases hF
   repeat first|refine cg ?_|simp -dsimp[h7,q8,z9]
   refine lG _ (gT (by simp) (by simp_all)) hq
theorem CC.f116 (list:List Clause):(∀(out:List ZA) (i:Nat) (o:List ZA),F.f116 list out i=some o->∀(c:Code),ZY [1,1,0,1,0,0] (ZK Tryz.f60)=some c->∀(Q:Exit->ASt->Prop),(Q (.exit 0) ⟨[(3,.own 0 (List.length (α:=ZA) o))],[.elems 3 (List.map ZA.c o)]⟩)->ALoopU Tryz.prog B 0 46 (hold c .mk) ⟨[(0,am Clause.c list),(3,.own 0 (List.length (α:=ZA) out)),(4,li (i:Int))],[.elems 3 (List.map ZA.c out)]⟩ (hold Q .mk)):=by
 refine F.f116.partial_correctness list
  _
  ?_
 ·intro _f_f116 ih_f116 out i o hF
  intro c hc Q hq
  obtain rfl:c=_:=ZM hc rfl
  refine kN fun hk hs=> ?_
  have b0:=hk 0
  simp -dsimp at b0
  have d0:=hs 0 _ rfl
  simp -dsimp[Blk.bnd]at d0
  clear hk hs
  refine eN ?_
  repeat first|refine cg ?_|simp -dsimp
  revert hF;refine aS ?_ ?_<;>intro h1 q2 hF
  ·have z3:((i:Int)<(list.length:Int)):=auz
   obtain⟨x,e4,hF⟩:=ob hF
   have le4:=ZB e4
   repeat first|refine cg ?_|simp -dsimp[h1,z3,↓e4]
   obtain⟨v,e5,hF⟩:=ob hF
   refine(((CC.spec_l3Split__o0 B hB1 hB2).1 x.pat v e5)).go (pl [1]) (by simp) (by simp) (by intro i j hi;simp at hi) (by intro i hi hi';simp at hi hi';have hi:i=0:=(by omega);rcases hi with rfl<;>simp[pl]) (by simp_all) (by simp_all) ?_
   repeat first|refine cg ?_|simp -dsimp
   obtain⟨o',ho16,hF⟩:=ob hF
   refine ALoop.goU _ ?_ (((CC.f115 B hB1 hB2 list i v) out 0 o' ho16) _ rfl _ ?_)
   ·exact(gT (by simp) (by simp_all))
   obtain⟨c17,hF⟩:=oc hF
   have w18:i64.wrap ((i:Int)+1)=(i:Int)+1:=ZG (by omega) (by omega)
   repeat first|refine cg ?_|simp -dsimp[w18]
   refine aG _ ?_ ((ih_f116 o' (i+1) o hF) _ rfl _ hq)
   exact(gT (by simp) (by simp_all))
  ·have z3:¬((i:Int)<(list.length:Int)):=auz
   cases hF
   repeat first|refine cg ?_|simp -dsimp[h1,q2,z3]
   refine lG _ (gT (by simp) (by simp_all)) hq
theorem C.f117 (list:List Clause)(r:List ZA)(hF:F.f117 list=some r):PureCall Tryz.prog B 60 [am Clause.c list] (am ZA.c r):=by
 unfold F.f117 at hF
 refine pE Tryz.func60 (by kernel_rfl) rfl Tryz.ntmps60 (by simp) (by simp) ?_
 repeat first|refine cg ?_|simp -dsimp
 obtain⟨o'20,ho19,hF⟩:=ob hF
 refine ALoop.goU _ ?_ (((CC.f116 B hB1 hB2 list) [] 0 o'20 ho19) _ rfl _ ?_)
 ·exact(gT (by simp) (by simp -dsimp))
 cases hF
 repeat first|refine cg ?_|simp -dsimp
theorem CC.f118 (row:ZA):(∀(i:Nat) (o:Lo Int Unit),F.f118 row i=some o->∀(c:Code),ZY [1,0,1,0,0] (ZK Tryz.f70)=some c->∀(Q:Exit->ASt->Prop),o.post (fun r=>∀st,ZAh Tryz.prog Tryz.f70 (fun r' _=>r'.le (li r)) .ret st->Q .ret st) (fun s=>Q (.exit 0) ⟨[],[]⟩)->ALoopU Tryz.prog B 0 19 (hold c .mk) ⟨[(1,.ptr 0 0),(3,li (i:Int))],[.cells [li row.f0,am Pattern.c row.f1,am PathBind.c row.f2]]⟩ (hold Q .mk)):=by
 refine F.f118.partial_correctness row
  _
  ?_
 ·intro _f_f118 ih_f118 i o hF
  intro c hc Q hq
  obtain rfl:c=_:=ZM hc rfl
  refine kN fun hk hs=> ?_
  have d0:=hs 0 _ rfl
  simp -dsimp[Blk.bnd]at d0
  clear hk hs
  refine eN ?_
  repeat first|refine cg ?_|simp -dsimp
  revert hF;refine aS ?_ ?_<;>intro h1 q2 hF
  ·have z3:((i:Int)<(row.f1.length:Int)):=auz
   obtain⟨x,e4,hF⟩:=ob hF
   have le4:=ZB e4
   repeat first|refine cg ?_|simp -dsimp[h1,z3,↓e4]
   revert hF;refine aN ?_ ?_<;>intro h5 q6 hF
   ·cases hF
    repeat first|refine cg ?_|simp -dsimp[h5,q6]
    refine lG _ (gR _) (hq _ ?_)
    repeat first|refine cg ?_|simp -dsimp
   ·have w7:i64.wrap ((i:Int)+1)=(i:Int)+1:=ZG (by omega) (by omega)
    repeat first|refine cg ?_|simp -dsimp[w7]
    refine aG _ ?_ ((ih_f118 (i+1) o hF) _ rfl _ hq)
    exact(gT (by simp) (by simp_all))
  ·have z3:¬((i:Int)<(row.f1.length:Int)):=auz
   cases hF
   repeat first|refine cg ?_|simp -dsimp[h1,q2,z3]
   refine lG _ (gT (by simp) (by simp_all)) hq
theorem C.f119 (row:ZA)(r:Int)(hF:F.f119 row=some r):PureCall Tryz.prog B 70 [.agg [li row.f0,am Pattern.c row.f1,am PathBind.c row.f2]] (li r):=by
 unfold F.f119 at hF
 refine pE Tryz.func70 (by kernel_rfl) rfl Tryz.ntmps70 (by simp) (by simp) ?_
 repeat first|refine cg ?_|simp -dsimp
 obtain⟨o',ho8,hF⟩:=ob hF
 refine ALoop.goU _ ?_ (((CC.f118 B hB1 hB2 row) 0 o' ho8) _ rfl _ ?_)
 ·exact(gT (by simp) (by simp -dsimp))
 rcases o' with r0|sx
 ·dsimp only at hF
  cases hF
  intro st h
  simpa using h
 ·dsimp only at hF
  cases hF
  repeat first|refine cg ?_|simp -dsimp
theorem CC.f120 (list:List PathBind)(n:Nat):(∀(out4:List PathBind) (i:Nat) (o:List PathBind),F.f120 list n out4 i=some o->∀(c:Code),ZY [1,1,0,1,0,0,1,0,0,1,0,0] (ZK Tryz.f71)=some c->∀(Q:Exit->ASt->Prop),(Q (.exit 2) ⟨[(0,am PathBind.c list),(3,.own 0 (List.length (α:=PathBind) o)),(4,li (n:Int))],[.elems 2 (List.map PathBind.c o)]⟩)->ALoopU Tryz.prog B 0 37 (hold c .mk) ⟨[(0,am PathBind.c list),(3,.own 0 (List.length (α:=PathBind) out4)),(4,li (n:Int)),(5,li (i:Int))],[.elems 2 (List.map PathBind.c out4)]⟩ (hold Q .mk)):=by
 refine F.f120.partial_correctness list n
  _
  ?_
 ·intro _f_f120 ih_f120 out4 i o hF
  intro c hc Q hq
  obtain rfl:c=_:=ZM hc rfl
  refine kN fun hk hs=> ?_
  have b0:=hk 0
  simp -dsimp at b0
  have d0:=hs 0 _ rfl
  simp -dsimp[Blk.bnd]at d0
  clear hk hs
  refine eN ?_
  repeat first|refine cg ?_|simp -dsimp
  revert hF;refine aS ?_ ?_<;>intro h5 q6 hF
  ·have z7:((i:Int)<(list.length:Int)):=auz
   obtain⟨x,e8,hF⟩:=ob hF
   have le8:=ZB e8
   repeat first|refine cg ?_|simp -dsimp[h5,z7,↓e8]
   revert hF;refine aS ?_ ?_<;>intro h9 q10 hF
   ·obtain⟨c11,hF⟩:=oc hF
    obtain⟨c12,hF⟩:=oc hF
    have w13:i64.wrap ((i:Int)+1)=(i:Int)+1:=ZG (by omega) (by omega)
    repeat first|refine cg ?_|simp -dsimp[↓e8,h9,w13]
    refine aG _ ?_ ((ih_f120 (out4++[(⟨(n:Int),x.path⟩:PathBind)]) (i+1) o hF) _ rfl _ hq)
    exact(gT (by simp) (by simp_all))
   ·have w14:i64.wrap ((i:Int)+1)=(i:Int)+1:=ZG (by omega) (by omega)
    repeat first|refine cg ?_|simp -dsimp[↓e8,h9,q10,w14]
    refine aG _ ?_ ((ih_f120 out4 (i+1) o hF) _ rfl _ hq)
    exact(gT (by simp) (by simp_all))
  ·have z7:¬((i:Int)<(list.length:Int)):=auz
   cases hF
   repeat first|refine cg ?_|simp -dsimp[h5,q6,z7]
   refine lG _ (gT (by simp) (by simp_all)) hq
theorem CC.f121 (list:List PathBind):(∀(out:List PathBind) (n:Nat) (o:List PathBind),F.f121 list out n=some o->∀(c:Code),ZY [1,1,0,1,0,0] (ZK Tryz.f71)=some c->∀(Q:Exit->ASt->Prop),(Q (.exit 0) ⟨[(3,.own 0 (List.length (α:=PathBind) o))],[.elems 2 (List.map PathBind.c o)]⟩)->ALoopU Tryz.prog B 0 37 (hold c .mk) ⟨[(0,am PathBind.c list),(3,.own 0 (List.length (α:=PathBind) out)),(4,li (n:Int))],[.elems 2 (List.map PathBind.c out)]⟩ (hold Q .mk)):=by
 refine F.f121.partial_correctness list
  _
  ?_
 ·intro _f_f121 ih_f121 out n o hF
  intro c hc Q hq
  obtain rfl:c=_:=ZM hc rfl
  refine kN fun hk hs=> ?_
  have b0:=hk 0
  simp -dsimp at b0
  have d0:=hs 0 _ rfl
  simp -dsimp[Blk.bnd]at d0
  clear hk hs
  refine eN ?_
  repeat first|refine cg ?_|simp -dsimp
  revert hF;refine aS ?_ ?_<;>intro h1 q2 hF
  ·have z3:((n:Int)<=5):=auz
   repeat first|refine cg ?_|simp -dsimp[h1,z3]
   obtain⟨o',ho15,hF⟩:=ob hF
   refine ALoop.goU _ ?_ (((CC.f120 B hB1 hB2 list n) out 0 o' ho15) _ rfl _ ?_)
   ·exact(gT (by simp) (by simp_all))
   obtain⟨c16,hF⟩:=oc hF
   have w17:i64.wrap ((n:Int)+1)=(n:Int)+1:=ZG (by omega) (by omega)
   repeat first|refine cg ?_|simp -dsimp[w17]
   refine aG _ ?_ ((ih_f121 o' (n+1) o hF) _ rfl _ hq)
   exact(gT (by simp) (by simp_all))
  ·have z3:¬((n:Int)<=5):=auz
   cases hF
   repeat first|refine cg ?_|simp -dsimp[h1,q2,z3]
   refine lG _ (gT (by simp) (by simp_all)) hq
theorem C.f122 (list:List PathBind)(r:List PathBind)(hF:F.f122 list=some r):PureCall Tryz.prog B 71 [am PathBind.c list] (am PathBind.c r):=by
 unfold F.f122 at hF
 refine pE Tryz.func71 (by kernel_rfl) rfl Tryz.ntmps71 (by simp) (by simp) ?_
 repeat first|refine cg ?_|simp -dsimp
 obtain⟨o'19,ho18,hF⟩:=ob hF
 refine ALoop.goU _ ?_ (((CC.f121 B hB1 hB2 list) [] 0 o'19 ho18) _ rfl _ ?_)
 ·exact(gT (by simp) (by simp -dsimp))
 cases hF
 repeat first|refine cg ?_|simp -dsimp
theorem CC.f123 (rows:List ZA)(clause:Int):(∀(out:List ZA) (i:Nat) (o:List ZA),F.f123 rows clause out i=some o->∀(c:Code),ZY [1,1,0,1,0,0] (ZK Tryz.f72)=some c->∀(Q:Exit->ASt->Prop),(Q (.exit 0) ⟨[(5,.own 0 (List.length (α:=ZA) o))],[.elems 3 (List.map ZA.c o)]⟩)->ALoopU Tryz.prog B 0 29 (hold c .mk) ⟨[(0,am ZA.c rows),(1,li clause),(5,.own 0 (List.length (α:=ZA) out)),(6,li (i:Int))],[.elems 3 (List.map ZA.c out)]⟩ (hold Q .mk)):=by
 refine F.f123.partial_correctness rows clause
  _
  ?_
 ·intro _f_f123 ih_f123 out i o hF
  intro c hc Q hq
  obtain rfl:c=_:=ZM hc rfl
  refine kN fun hk hs=> ?_
  have b0:=hk 0
  simp -dsimp at b0
  have d0:=hs 0 _ rfl
  simp -dsimp[Blk.bnd]at d0
  clear hk hs
  refine eN ?_
  repeat first|refine cg ?_|simp -dsimp
  revert hF;refine aS ?_ ?_<;>intro h1 q2 hF
  ·have z3:((i:Int)<(rows.length:Int)):=auz
   obtain⟨x,e4,hF⟩:=ob hF
   have le4:=ZB e4
   repeat first|refine cg ?_|simp -dsimp[h1,z3,↓e4]
   revert hF;refine aN ?_ ?_<;>intro h5 q6 hF
   ·obtain⟨c7,hF⟩:=oc hF
    have w8:i64.wrap ((i:Int)+1)=(i:Int)+1:=ZG (by omega) (by omega)
    repeat first|refine cg ?_|simp -dsimp[↓e4,h5,q6,w8]
    refine aG _ ?_ ((ih_f123 (out++[x]) (i+1) o hF) _ rfl _ hq)
    exact(gT (by simp) (by simp_all))
   ·have w9:i64.wrap ((i:Int)+1)=(i:Int)+1:=ZG (by omega) (by omega)
    repeat first|refine cg ?_|simp -dsimp[↓e4,h5,q6,w9]
    refine aG _ ?_ ((ih_f123 out (i+1) o hF) _ rfl _ hq)
    exact(gT (by simp) (by simp_all))
  ·have z3:¬((i:Int)<(rows.length:Int)):=auz
   cases hF
   repeat first|refine cg ?_|simp -dsimp[h1,q2,z3]
   refine lG _ (gT (by simp) (by simp_all)) hq
theorem C.f124 (rows:List ZA)(clause:Int)(r:List ZA)(hF:F.f124 rows clause=some r):PureCall Tryz.prog B 72 [am ZA.c rows,li clause] (am ZA.c r):=by
 unfold F.f124 at hF
 refine pE Tryz.func72 (by kernel_rfl) rfl Tryz.ntmps72 (by simp) (by simp) ?_
 repeat first|refine cg ?_|simp -dsimp
 obtain⟨o',ho10,hF⟩:=ob hF
 refine ALoop.goU _ ?_ (((CC.f123 B hB1 hB2 rows clause) [] 0 o' ho10) _ rfl _ ?_)
 ·exact(gT (by simp) (by simp -dsimp))
 cases hF
 repeat first|refine cg ?_|simp -dsimp
theorem CC.f125 (rows:List ZA)(column:Int):(∀(n:Nat) (i:Nat) (o:Nat),F.f125 rows column n i=some o->∀(c:Code),ZY [1,1,0,1,0,0] (ZK Tryz.f90)=some c->∀(Q:Exit->ASt->Prop),(Q (.exit 0) ⟨[(5,li (o:Int))],[]⟩)->ALoopU Tryz.prog B 0 26 (hold c .mk) ⟨[(0,am ZA.c rows),(1,li column),(5,li (n:Int)),(6,li (i:Int))],[]⟩ (hold Q .mk)):=by
 refine F.f125.partial_correctness rows column
  _
  ?_
 ·intro _f_f125 ih_f125 n i o hF
  intro c hc Q hq
  obtain rfl:c=_:=ZM hc rfl
  refine kN fun hk hs=> ?_
  have b0:=hk 0
  simp -dsimp at b0
  clear hk hs
  refine eN ?_
  repeat first|refine cg ?_|simp -dsimp
  revert hF;refine aS ?_ ?_<;>intro h1 q2 hF
  ·have z3:((i:Int)<(rows.length:Int)):=auz
   obtain⟨x,e4,hF⟩:=ob hF
   have le4:=ZB e4
   obtain⟨x5,e6a,hF⟩:=ob hF
   have e6a:=ZL e6a;obtain⟨ne6,e6⟩:=e6a
   have le6:=ZB e6
   repeat first|refine cg ?_|simp -dsimp[h1,z3,↓e4,↓e6]
   revert hF;refine aN ?_ ?_<;>intro h7 q8 hF
   ·obtain⟨c9,hF⟩:=oc hF
    have w10:i64.wrap ((n:Int)+1)=(n:Int)+1:=ZG (by omega) (by omega)
    have w11:i64.wrap ((i:Int)+1)=(i:Int)+1:=ZG (by omega) (by omega)
    repeat first|refine cg ?_|simp -dsimp[h7,q8,w10,w11]
    refine aG _ ?_ ((ih_f125 (n+1) (i+1) o hF) _ rfl _ hq)
    exact(gT (by simp) (by simp_all))
   ·have w12:i64.wrap ((i:Int)+1)=(i:Int)+1:=ZG (by omega) (by omega)
    repeat first|refine cg ?_|simp -dsimp[h7,q8,w12]
    refine aG _ ?_ ((ih_f125 n (i+1) o hF) _ rfl _ hq)
    exact(gT (by simp) (by simp_all))
  ·have z3:¬((i:Int)<(rows.length:Int)):=auz
   cases hF
   repeat first|refine cg ?_|simp -dsimp[h1,q2,z3]
   refine lG _ (gT (by simp) (by simp_all)) hq
theorem C.f126 (rows:List ZA)(column:Int)(r:Int)(hF:F.f126 rows column=some r):PureCall Tryz.prog B 90 [am ZA.c rows,li column] (li r):=by
 unfold F.f126 at hF
 refine pE Tryz.func90 (by kernel_rfl) rfl Tryz.ntmps90 (by simp) (by simp) ?_
 repeat first|refine cg ?_|simp -dsimp
 obtain⟨o',ho13,hF⟩:=ob hF
 refine ALoop.goU _ ?_ (((CC.f125 B hB1 hB2 rows column) 0 0 o' ho13) _ rfl _ ?_)
 ·exact(gT (by simp) (by simp -dsimp))
 cases hF
 repeat first|refine cg ?_|simp -dsimp
theorem CC.f127 (ctor:Int)(v:List Ty):(∀(out:List Pattern) (i:Nat) (o:List Pattern),F.f127 ctor v out i=some o->∀(c:Code),ZY [1,1,1,0,1,0,0] (ZK Tryz.f94)=some c->∀(Q:Exit->ASt->Prop),(Q (.exit 0) ⟨[(6,.ptr 1 0),(7,.ptr 2 0)],[.dead,.cells [li 0,li 0,li 0,li 0,li 0,.lit (.slice none 0 0)],.cells [li 4,li ctor,li 0,li 0,li 0,.own 3 (List.length (α:=Pattern) o)],.elems 6 (List.map Pattern.c o)]⟩)->ALoopU Tryz.prog B 0 29 (hold c .mk) ⟨[(6,.ptr 1 0),(7,.ptr 2 0),(8,am Ty.c v),(9,li (i:Int))],[.dead,.cells [li 0,li 0,li 0,li 0,li 0,.lit (.slice none 0 0)],.cells [li 4,li ctor,li 0,li 0,li 0,.own 3 (List.length (α:=Pattern) out)],.elems 6 (List.map Pattern.c out)]⟩ (hold Q .mk)):=by
 refine F.f127.partial_correctness ctor v
  _
  ?_
 ·intro _f_f127 ih_f127 out i o hF
  intro c hc Q hq
  obtain rfl:c=_:=ZM hc rfl
  refine kN fun hk hs=> ?_
  have b8:=hk 8
  simp -dsimp at b8
  have d3:=hs 3 _ rfl
  simp -dsimp[Blk.bnd]at d3
  clear hk hs
  refine eN ?_
  repeat first|refine cg ?_|simp -dsimp
  revert hF;refine aS ?_ ?_<;>intro h2 q3 hF
  ·have z4:((i:Int)<(v.length:Int)):=auz
   repeat first|refine cg ?_|simp -dsimp[h2,z4]
   refine ADraw.eff [] [(0,1),(0,1),(0,3),(0,3),(0,3),(2,2),(0,3)] [0,2,1,1,1,1,1] follows (by kernel_rfl) (by kernel_rfl) (by kernel_rfl) ?_
   repeat first|refine cg ?_|simp -dsimp
   obtain⟨v5,e6,hF⟩:=ob hF
   refine((C.f92 B hB1 hB2 v5 e6)).pgoW (by simp_all) (by simp) ?_
   obtain⟨c7,hF⟩:=oc hF
   have w8:i64.wrap ((i:Int)+1)=(i:Int)+1:=ZG (by omega) (by omega)
   repeat first|refine cg ?_|simp -dsimp[w8]
   refine aG _ ?_ ((ih_f127 (out++[v5]) (i+1) o hF) _ rfl _ hq)
   exact(gT (by simp) (by simp_all))
  ·have z4:¬((i:Int)<(v.length:Int)):=auz
   cases hF
   repeat first|refine cg ?_|simp -dsimp[h2,q3,z4]
   refine lG _ (gT (by simp) (by simp_all)) hq
theorem C.f128 (w:List Vl.Data)(t:Ty)(ctor:Int)(r:Pattern)(hF:F.f128 w t ctor=some r):PureCall Tryz.prog B 94 [am Vl.Data.c w,.agg [li t.data,li t.index],li ctor] (.agg [li r.op,li r.ctor,li r.n,li r.m,li r.var,am Pattern.c r.kids]):=by
 unfold F.f128 at hF
 refine pE Tryz.func94 (by kernel_rfl) rfl Tryz.ntmps94 (by simp) (by simp) ?_
 repeat first|refine cg ?_|simp -dsimp
 obtain⟨v,e1,hF⟩:=ob hF
 refine((C.f45 B hB1 hB2 w t ctor v e1)).goW (by simp) (by simp) ?_
 repeat first|refine cg ?_|simp -dsimp
 obtain⟨o',ho9,hF⟩:=ob hF
 refine ALoop.goU ⟨[(6,.ptr 1 0),(7,.ptr 2 0),(8,.arr (List.map Ty.c v)),(9,.lit (.int .i64 0))],[.dead,.cells [.lit (.int .i64 0),.lit (.int .i64 0),.lit (.int .i64 0),.lit (.int .i64 0),.lit (.int .i64 0),.lit (.slice none 0 0)],.cells [.lit (.int .i64 4),.lit (.int .i64 ctor),.lit (.int .i64 0),.lit (.int .i64 0),.lit (.int .i64 0),.own 3 (List.length (α:=Pattern) [])],.elems 6 (List.map Pattern.c [])]⟩ (by refine Gh.trans (Gh.nilCell 2 5 6 (by simp -dsimp;rfl) (by simp -dsimp)) ?_;exact(gT (by simp) (by simp -dsimp))) ?_
 refine((CC.f127 B hB1 hB2 ctor v) [] 0 o' ho9) _ rfl _ ?_
 cases hF
 repeat first|refine cg ?_|simp -dsimp
theorem CC.f129 (w:List Vl.Data)(table:List Int):(∀(t:Ty) (p:Pattern) (r:Bool),F.f129 w table t p=some r->PureCall Tryz.prog B 93 [am Vl.Data.c w,am cI table,.agg [li t.data,li t.index],.agg [li p.op,li p.ctor,li p.n,li p.m,li p.var,am Pattern.c p.kids]] (.lit (.bool r)))/\
  (∀(p:Pattern) (v6:List Ty) (i:Nat) (o:Lo Bool Unit),F.f130 w table p v6 i=some o->∀(c:Code),ZY [1,1,1,1,0,1,0,0] (ZK Tryz.f93)=some c->∀(Q:Exit->ASt->Prop),o.post (fun r=>∀st,ZAh Tryz.prog Tryz.f93 (fun r' _=>r'.le (.lit (.bool r))) .ret st->Q .ret st) (fun s=>Q (.exit 0) ⟨[],[]⟩)->ALoopU Tryz.prog B 0 45 (hold c .mk) ⟨[(0,am Vl.Data.c w),(1,am cI table),(7,.ptr 1 0),(9,am Ty.c v6),(10,li (i:Int))],[.dead,.cells [li p.op,li p.ctor,li p.n,li p.m,li p.var,am Pattern.c p.kids]]⟩ (hold Q .mk)):=by
 refine F.f129.mutual_partial_correctness w table
  _ _
  ?_ ?_
 ·intro _f_f130 ih_f130 t p r hF
  refine pE Tryz.func93 (by kernel_rfl) rfl Tryz.ntmps93 (by simp) (by simp) ?_
  repeat first|refine cg ?_|simp -dsimp
  revert hF;refine aS ?_ ?_<;>intro h1 q2 hF
  ·repeat first|refine cg ?_|simp -dsimp[h1]
   obtain⟨v,e3,hF⟩:=ob hF
   refine((C.f47 B hB1 hB2 table t v e3)).goW (by simp_all) (by simp) ?_
   cases hF
   repeat first|refine cg ?_|simp -dsimp
  ·repeat first|refine cg ?_|simp -dsimp[q2]
   revert hF;refine aS ?_ ?_<;>intro h4 q5 hF
   ·cases hF
    repeat first|refine cg ?_|simp -dsimp[h4]
   ·repeat first|refine cg ?_|simp -dsimp[q5]
    obtain⟨v6,e7,hF⟩:=ob hF
    refine((C.f45 B hB1 hB2 w t p.ctor v6 e7)).goW (by simp_all) (by simp) ?_
    repeat first|refine cg ?_|simp -dsimp
    obtain⟨o',ho19,hF⟩:=ob hF
    refine ALoop.goU _ ?_ ((ih_f130 p v6 0 o' ho19) _ rfl _ ?_)
    ·exact(gT (by simp) (by simp_all))
    rcases o' with r0|sx
    ·dsimp only at hF
     cases hF
     intro st h
     simpa using h
    ·dsimp only at hF
     cases hF
     repeat first|refine cg ?_|simp -dsimp
 ·intro _f_f129 _f_f130 ih_f129 ih_f130 p v6 i o hF
  intro c hc Q hq
  obtain rfl:c=_:=ZM hc rfl
  refine kN fun hk hs=> ?_
  have b0:=hk 0
  simp -dsimp at b0
  have b1:=hk 1
  simp -dsimp at b1
  have b9:=hk 9
  simp -dsimp at b9
  have d1:=hs 1 _ rfl
  simp -dsimp[Blk.bnd]at d1
  clear hk hs
  refine eN ?_
  repeat first|refine cg ?_|simp -dsimp
  revert hF;refine aS ?_ ?_<;>intro h8 q9 hF
  ·have z10:((i:Int)<(v6.length:Int)):=auz
   repeat first|refine cg ?_|simp -dsimp[h8,z10]
   refine ADraw.simple follows (by kernel_rfl) (by kernel_rfl) ?_
   obtain⟨x,e11,hF⟩:=ob hF
   have le11:=ZB e11
   obtain⟨x12,e13,hF⟩:=ob hF
   have le13:=ZB e13
   repeat first|refine cg ?_|simp -dsimp[↓e11,↓e13]
   obtain⟨v14,e15,hF⟩:=ob hF
   refine((ih_f129 x x12 v14 e15)).pgoW (by simp_all) (by simp) ?_
   repeat first|refine cg ?_|simp -dsimp
   revert hF;refine aN (fun h16 q17 hF=> ?_) (fun h16 q17 hF=> ?_)
   ·cases hF
    repeat first|refine cg ?_|simp -dsimp[h16,q17]
    refine lG _ (gR _) (hq _ ?_)
    repeat first|refine cg ?_|simp -dsimp
   ·have w18:i64.wrap ((i:Int)+1)=(i:Int)+1:=ZG (by omega) (by omega)
    repeat first|refine cg ?_|simp -dsimp[w18]
    refine aG _ ?_ ((ih_f130 p v6 (i+1) o hF) _ rfl _ hq)
    exact(gT (by simp) (by simp_all))
  ·have z10:¬((i:Int)<(v6.length:Int)):=auz
   cases hF
   repeat first|refine cg ?_|simp -dsimp[h8,q9,z10]
   refine lG _ (gT (by simp) (by simp_all)) hq
theorem CC.f131 (rows:List ZA)(at':Int)(n:Int):(∀(i:Nat) (o:Lo Bool Unit),F.f131 rows at' n i=some o->∀(c:Code),ZY [1,0,1,0,0] (ZK Tryz.f95)=some c->∀(Q:Exit->ASt->Prop),o.post (fun r=>∀st,ZAh Tryz.prog Tryz.f95 (fun r' _=>r'.le (.lit (.bool r))) .ret st->Q .ret st) (fun s=>Q (.exit 0) ⟨[],[]⟩)->ALoopU Tryz.prog B 0 39 (hold c .mk) ⟨[(0,am ZA.c rows),(1,li at'),(2,li n),(7,li (i:Int))],[]⟩ (hold Q .mk)):=by
 refine F.f131.partial_correctness rows at' n
  _
  ?_
 ·intro _f_f131 ih_f131 i o hF
  intro c hc Q hq
  obtain rfl:c=_:=ZM hc rfl
  refine kN fun hk hs=> ?_
  have b0:=hk 0
  simp -dsimp at b0
  clear hk hs
  refine eN ?_
  repeat first|refine cg ?_|simp -dsimp
  revert hF;refine aS ?_ ?_<;>intro h1 q2 hF
  ·have z3:((i:Int)<(rows.length:Int)):=auz
   obtain⟨x,e4,hF⟩:=ob hF
   have le4:=ZB e4
   obtain⟨x5,e6a,hF⟩:=ob hF
   have e6a:=ZL e6a;obtain⟨ne6,e6⟩:=e6a
   have le6:=ZB e6
   repeat first|refine cg ?_|simp -dsimp[h1,z3,↓e4,↓e6]
   revert hF;refine aS ?_ ?_<;>intro h7 q8 hF
   ·repeat first|refine cg ?_|simp -dsimp[h1,z3,↓e4,↓e6,h7]
    revert hF;refine aN ?_ ?_<;>intro h9 q10 hF
    ·repeat first|refine cg ?_|simp -dsimp[h1,z3,↓e4,↓e6,h7,h9,q10]
     revert hF;refine aS ?_ ?_<;>intro h11 q12 hF
     ·cases hF
      repeat first|refine cg ?_|simp -dsimp[h1,z3,↓e4,↓e6,h7,h9,q10,h11]
      refine lG _ (gR _) (hq _ ?_)
      repeat first|refine cg ?_|simp -dsimp[h1,z3,↓e4,↓e6,h7,h9,q10,h11]
     ·have w13:i64.wrap ((i:Int)+1)=(i:Int)+1:=ZG (by omega) (by omega)
      repeat first|refine cg ?_|simp -dsimp[h1,z3,↓e4,↓e6,h7,h9,q10,h11,q12,w13]
      refine aG _ ?_ ((ih_f131 (i+1) o hF) _ rfl _ hq)
      exact(gT (by simp) (by simp -dsimp[h1,z3,↓e4,↓e6,h7,h9,q10,h11,q12,w13]))
    ·cases hF
     repeat first|refine cg ?_|simp -dsimp[h1,z3,↓e4,↓e6,h7,h9,q10]
     refine lG _ (gR _) (hq _ ?_)
     repeat first|refine cg ?_|simp -dsimp[h1,z3,↓e4,↓e6,h7,h9,q10]
   ·have w14:i64.wrap ((i:Int)+1)=(i:Int)+1:=ZG (by omega) (by omega)
    repeat first|refine cg ?_|simp -dsimp[h1,z3,↓e4,↓e6,h7,q8,w14]
    refine aG _ ?_ ((ih_f131 (i+1) o hF) _ rfl _ hq)
    exact(gT (by simp) (by simp -dsimp[h1,z3,↓e4,↓e6,h7,q8,w14]))
  ·have z3:¬((i:Int)<(rows.length:Int)):=auz
   cases hF
   repeat first|refine cg ?_|simp -dsimp[h1,q2,z3]
   refine lG _ (gT (by simp) (by simp -dsimp[h1,q2,z3])) hq
theorem C.f132 (rows:List ZA)(at':Int)(n:Int)(r:Bool)(hF:F.f132 rows at' n=some r):PureCall Tryz.prog B 95 [am ZA.c rows,li at',li n] (.lit (.bool r)):=by
 unfold F.f132 at hF
 refine pE Tryz.func95 (by kernel_rfl) rfl Tryz.ntmps95 (by simp) (by simp) ?_
 repeat first|refine cg ?_|simp -dsimp
 obtain⟨o',ho15,hF⟩:=ob hF
 refine ALoop.goU _ ?_ (((CC.f131 B hB1 hB2 rows at' n) 0 o' ho15) _ rfl _ ?_)
 ·exact(gT (by simp) (by simp -dsimp))
 rcases o' with r0|sx
 ·dsimp only at hF
  cases hF
  intro st h
  simpa using h
 ·dsimp only at hF
  cases hF
  repeat first|refine cg ?_|simp -dsimp
theorem CC.f133 (w:List Vl.Data)(column:ZD)(v:List Int)(v4:List Int):(∀(out:List Branch) (i:Nat) (o:List Branch),F.f133 w column v v4 out i=some o->∀(c:Code),ZY [1,1,0,1,0,1,1,0,1,0,0] (ZK Tryz.f74)=some c->∀(Q:Exit->ASt->Prop),(Q (.exit 0) ⟨[(9,.own 1 (List.length (α:=Branch) o))],[.dead,.elems 9 (List.map Branch.c o)]⟩)->ALoopU Tryz.prog B 0 75 (hold c .mk) ⟨[(0,am Vl.Data.c w),(5,.ptr 0 0),(9,.own 1 (List.length (α:=Branch) out)),(10,am cI v),(11,am cI v4),(12,li (i:Int))],[.cells [am cI column.f0,li column.f1.data,li column.f1.index],.elems 9 (List.map Branch.c out)]⟩ (hold Q .mk)):=by
 refine F.f133.partial_correctness w column v v4
  _
  ?_
 ·intro _f_f133 ih_f133 out i o hF
  intro c hc Q hq
  obtain rfl:c=_:=ZM hc rfl
  refine kN fun hk hs=> ?_
  have b0:=hk 0
  simp -dsimp at b0
  have b10:=hk 10
  simp -dsimp at b10
  have b11:=hk 11
  simp -dsimp at b11
  have d0:=hs 0 _ rfl
  simp -dsimp[Blk.bnd]at d0
  have d1:=hs 1 _ rfl
  simp -dsimp[Blk.bnd]at d1
  clear hk hs
  refine eN ?_
  repeat first|refine cg ?_|simp -dsimp
  revert hF;refine aS ?_ ?_<;>intro h6 q7 hF
  ·have z8:((i:Int)<(v4.length:Int)):=auz
   repeat first|refine cg ?_|simp -dsimp[h6,z8]
   refine ADraw.simple follows (by kernel_rfl) (by kernel_rfl) ?_
   obtain⟨x,e9,hF⟩:=ob hF
   have le9:=ZB e9
   repeat first|refine cg ?_|simp -dsimp[↓e9]
   obtain⟨v10,e11,hF⟩:=ob hF
   refine((C.f128 B hB1 hB2 w column.f1 x v10 e11)).pgoW (by simp_all) (by simp) ?_
   repeat first|refine cg ?_|simp -dsimp[↓e9]
   obtain⟨v12,e13,hF⟩:=ob hF
   refine(((CC.f129 B hB1 hB2 w v).1 column.f1 v10 v12 e13)).pgoW (by simp_all) (by simp) ?_
   repeat first|refine cg ?_|simp -dsimp[↓e9]
   revert hF;refine aS (fun h14 q15 hF=> ?_) (fun h14 q15 hF=> ?_)
   ·obtain⟨c16,hF⟩:=oc hF
    have w17:i64.wrap ((i:Int)+1)=(i:Int)+1:=ZG (by omega) (by omega)
    repeat first|refine cg ?_|simp -dsimp[↓e9,h14,w17]
    refine aG _ ?_ ((ih_f133 (out++[(⟨x,0,0,(⟨0,0,[],[],[],[]⟩:Tree)⟩:Branch)]) (i+1) o hF) _ rfl _ hq)
    exact(gT (by simp) (by simp_all))
   ·have w18:i64.wrap ((i:Int)+1)=(i:Int)+1:=ZG (by omega) (by omega)
    repeat first|refine cg ?_|simp -dsimp[↓e9,h14,q15,w18]
    refine aG _ ?_ ((ih_f133 out (i+1) o hF) _ rfl _ hq)
    exact(gT (by simp) (by simp_all))
  ·have z8:¬((i:Int)<(v4.length:Int)):=auz
   cases hF
   repeat first|refine cg ?_|simp -dsimp[h6,q7,z8]
   refine lG _ (gT (by simp) (by simp_all)) hq
theorem CC.f134 (rows:List ZA)(at':Int):(∀(out20:List Branch) (from':Nat) (n:Nat) (o:List Branch),F.f134 rows at' out20 from' n=some o->∀(c:Code),ZY [1,1,1,1,0,1,0,0] (ZK Tryz.f74)=some c->∀(Q:Exit->ASt->Prop),(Q (.exit 2) ⟨[(9,.own 1 (List.length (α:=Branch) o))],[.dead,.elems 9 (List.map Branch.c o)]⟩)->ALoopU Tryz.prog B 0 75 (hold c .mk) ⟨[(2,am ZA.c rows),(3,li at'),(9,.own 1 (List.length (α:=Branch) out20)),(13,li (from':Int)),(14,li (n:Int))],[.dead,.elems 9 (List.map Branch.c out20)]⟩ (hold Q .mk)):=by
 refine F.f134.partial_correctness rows at'
  _
  ?_
 ·intro _f_f134 ih_f134 out20 from' n o hF
  intro c hc Q hq
  obtain rfl:c=_:=ZM hc rfl
  refine kN fun hk hs=> ?_
  have b2:=hk 2
  simp -dsimp at b2
  have d1:=hs 1 _ rfl
  simp -dsimp[Blk.bnd]at d1
  clear hk hs
  refine eN ?_
  repeat first|refine cg ?_|simp -dsimp
  revert hF;refine aS ?_ ?_<;>intro h21 q22 hF
  ·have z23:((n:Int)<=10):=auz
   repeat first|refine cg ?_|simp -dsimp[h21,z23]
   revert hF;refine aN ?_ ?_<;>intro h24 q25 hF
   ·have z26:¬((n:Int)=10):=auz
    repeat first|refine cg ?_|simp -dsimp[h21,z23,h24,q25,z26]
    obtain⟨v27,e28,hF⟩:=ob hF
    refine((C.f132 B hB1 hB2 rows at' (n:Int) v27 e28)).goW (by simp[h21,z23,h24,q25,z26]) (by simp) ?_
    repeat first|refine cg ?_|simp -dsimp[h21,z23,h24,q25,z26]
    revert hF;refine aS (fun h29 q30 hF=> ?_) (fun h29 q30 hF=> ?_)
    ·obtain⟨c31,hF⟩:=oc hF
     obtain⟨c32,hF⟩:=oc hF
     have w33:i64.wrap ((n:Int)+1)=(n:Int)+1:=ZG (by omega) (by omega)
     repeat first|refine cg ?_|simp -dsimp[h21,z23,h24,q25,z26,h29,w33]
     refine aG _ ?_ ((ih_f134 (out20++[(⟨(-1),(from':Int),i64.wrap ((n:Int) -1),(⟨0,0,[],[],[],[]⟩:Tree)⟩:Branch)]) n (n+1) o hF) _ rfl _ hq)
     exact(gT (by simp) (by simp -dsimp[h21,z23,h24,q25,z26,h29,w33]))
    ·obtain⟨c34,hF⟩:=oc hF
     have w35:i64.wrap ((n:Int)+1)=(n:Int)+1:=ZG (by omega) (by omega)
     repeat first|refine cg ?_|simp -dsimp[h21,z23,h24,q25,z26,h29,q30,w35]
     refine aG _ ?_ ((ih_f134 out20 from' (n+1) o hF) _ rfl _ hq)
     exact(gT (by simp) (by simp -dsimp[h21,z23,h24,q25,z26,h29,q30,w35]))
   ·have z26:((n:Int)=10):=auz
    obtain⟨c36,hF⟩:=oc hF
    obtain⟨c37,hF⟩:=oc hF
    have w38:i64.wrap ((n:Int)+1)=(n:Int)+1:=ZG (by omega) (by omega)
    repeat first|refine cg ?_|simp -dsimp[h21,z23,eq_true h24,eq_true q25,eq_true z26,w38]
    refine aG _ ?_ ((ih_f134 (out20++[(⟨(-1),(from':Int),i64.wrap ((n:Int) -1),(⟨0,0,[],[],[],[]⟩:Tree)⟩:Branch)]) n (n+1) o hF) _ rfl _ hq)
    exact(gT (by simp) (by simp -dsimp[h21,z23,eq_true h24,eq_true q25,eq_true z26,w38]))
  ·have z23:¬((n:Int)<=10):=auz
   cases hF
   repeat first|refine cg ?_|simp -dsimp[h21,q22,z23]
   refine lG _ (gT (by simp) (by simp -dsimp[h21,q22,z23])) hq
theorem C.f135 (w:List Vl.Data)(column:ZD)(rows:List ZA)(at':Int)(r:List Branch)(hF:F.f135 w column rows at'=some r):PureCall Tryz.prog B 74 [am Vl.Data.c w,.agg [am cI column.f0,li column.f1.data,li column.f1.index],am ZA.c rows,li at'] (am Branch.c r):=by
 unfold F.f135 at hF
 refine pE Tryz.func74 (by kernel_rfl) rfl Tryz.ntmps74 (by simp) (by simp) ?_
 repeat first|refine cg ?_|simp -dsimp
 revert hF;refine aN ?_ ?_<;>intro h1 q2 hF
 ·repeat first|refine cg ?_|simp -dsimp[h1,q2]
  obtain⟨v,e3,hF⟩:=ob hF
  refine((C.f53 B hB1 hB2 w v e3)).goW (by simp_all) (by simp) ?_
  repeat first|refine cg ?_|simp -dsimp
  obtain⟨v4,e5,hF⟩:=ob hF
  refine((C.f42 B hB1 hB2 w column.f1 v4 e5)).goW (by simp_all) (by simp) ?_
  repeat first|refine cg ?_|simp -dsimp
  obtain⟨o',ho19,hF⟩:=ob hF
  refine ALoop.goU _ ?_ (((CC.f133 B hB1 hB2 w column v v4) [] 0 o' ho19) _ rfl _ ?_)
  ·exact(gT (by simp) (by simp_all))
  cases hF
  repeat first|refine cg ?_|simp -dsimp
 ·repeat first|refine cg ?_|simp -dsimp
  obtain⟨o'40,ho39,hF⟩:=ob hF
  refine ALoop.goU _ ?_ (((CC.f134 B hB1 hB2 rows at') [] 0 1 o'40 ho39) _ rfl _ ?_)
  ·exact(gT (by simp) (by simp_all))
  cases hF
  repeat first|refine cg ?_|simp -dsimp
theorem CC.f136 (w:List Vl.Data)(columns:List ZD)(rows:List ZA)(pick:Int):(∀(i:Int) (best:Int) (o:Int),F.f136 w columns rows pick i best=some o->∀(c:Code),ZY [1,1,0,1,0,0] (ZK Tryz.f73)=some c->∀(Q:Exit->ASt->Prop),(Q (.exit 0) ⟨[(9,li o)],[]⟩)->ALoopU Tryz.prog B 0 73 (hold c .mk) ⟨[(0,am Vl.Data.c w),(1,am ZD.c columns),(2,am ZA.c rows),(3,li pick),(9,li best),(10,li i)],[]⟩ (hold Q .mk)):=by
 refine F.f136.partial_correctness w columns rows pick
  _
  ?_
 ·intro _f_f136 ih_f136 i best o hF
  intro c hc Q hq
  obtain rfl:c=_:=ZM hc rfl
  refine kN fun hk hs=> ?_
  have b0:=hk 0
  simp -dsimp at b0
  have b1:=hk 1
  simp -dsimp at b1
  have b2:=hk 2
  simp -dsimp at b2
  clear hk hs
  refine eN ?_
  repeat first|refine cg ?_|simp -dsimp
  revert hF;refine aS ?_ ?_<;>intro h3 q4 hF
  ·repeat first|refine cg ?_|simp -dsimp[h3]
   revert hF;refine aN ?_ ?_<;>intro h5 q6 hF
   ·have hF:=ob hF;obtain⟨x7,e8,hF⟩:=hF
    have le8:=ZB e8
    have hF:=ob hF;obtain⟨x9,e10a,hF⟩:=hF
    have e10a:=ZL e10a;obtain⟨ne10,e10⟩:=e10a
    have le10:=ZB e10
    repeat first|refine cg ?_|simp -dsimp[h3,h5,q6,↓e8,↓e10]
    revert hF;refine aS ?_ ?_<;>intro h11 q12 hF
    ·repeat first|refine cg ?_|simp -dsimp[h3,h5,q6,↓e8,↓e10,h11]
     refine aG _ ?_ ((ih_f136 (i64.wrap (i+1)) best o hF) _ rfl _ hq)
     exact(gT (by simp) (by simp -dsimp[h3,h5,q6,↓e8,↓e10,h11]))
    ·repeat first|refine cg ?_|simp -dsimp[h3,h5,q6,↓e8,↓e10,h11,q12]
     revert hF;refine aS ?_ ?_<;>intro h13 q14 hF
     ·repeat first|refine cg ?_|simp -dsimp[h3,h5,q6,↓e8,↓e10,h11,q12,eq_true h13]
      have hF:=ob hF;obtain⟨v15,e16,hF⟩:=hF
      refine((C.f126 B hB1 hB2 rows i v15 e16)).goW (by simp[h3,h5,q6,↓e8,↓e10,h11,q12,eq_true h13]) (by simp) ?_
      repeat first|refine cg ?_|simp -dsimp[h3,h5,q6,↓e8,↓e10,h11,q12,eq_true h13]
      have hF:=ob hF;obtain⟨v17,e18,hF⟩:=hF
      refine((C.f126 B hB1 hB2 rows best v17 e18)).goW (by simp[h3,h5,q6,↓e8,↓e10,h11,q12,eq_true h13]) (by simp) ?_
      repeat first|refine cg ?_|simp -dsimp[h3,h5,q6,↓e8,↓e10,h11,q12,eq_true h13]
      revert hF;refine aS ?_ ?_<;>intro h19 q20 hF
      ·repeat first|refine cg ?_|simp -dsimp[h3,h5,q6,↓e8,↓e10,h11,q12,eq_true h13,h19]
       refine ADraw.simple follows (by kernel_rfl) (by kernel_rfl) ?_
       have n21:¬(pick=2):=by omega
       repeat first|refine cg ?_|simp -dsimp[h3,h5,q6,↓e8,↓e10,h11,q12,eq_true h13,h19,n21]
       refine aG _ ?_ ((ih_f136 (i64.wrap (i+1)) i o hF) _ rfl _ hq)
       exact(gT (by simp) (by simp -dsimp[h3,h5,q6,↓e8,↓e10,h11,q12,eq_true h13,h19,n21]))
      ·repeat first|refine cg ?_|simp -dsimp[h3,h5,q6,↓e8,↓e10,h11,q12,eq_true h13,h19,q20]
       refine ADraw.simple follows (by kernel_rfl) (by kernel_rfl) ?_
       have n22:¬(pick=2):=by omega
       repeat first|refine cg ?_|simp -dsimp[h3,h5,q6,↓e8,↓e10,h11,q12,eq_true h13,h19,q20,n22]
       refine aG _ ?_ ((ih_f136 (i64.wrap (i+1)) best o hF) _ rfl _ hq)
       exact(gT (by simp) (by simp -dsimp[h3,h5,q6,↓e8,↓e10,h11,q12,eq_true h13,h19,q20,n22]))
     ·repeat first|refine cg ?_|simp -dsimp[h3,h5,q6,↓e8,↓e10,h11,q12,h13,q14]
      refine ADraw.simple follows (by kernel_rfl) (by kernel_rfl) ?_
      repeat first|refine cg ?_|simp -dsimp[h3,h5,q6,↓e8,↓e10,h11,q12,h13,q14]
      revert hF;refine aS ?_ ?_<;>intro h23 q24 hF
      ·have hF:=ob hF;obtain⟨x25,e26a,hF⟩:=hF
       have e26a:=ZL e26a;obtain⟨ne26,e26⟩:=e26a
       have le26:=ZB e26
       repeat first|refine cg ?_|simp -dsimp[h3,h5,q6,↓e8,↓e10,h11,q12,h13,q14,eq_true h23,↓e26]
       have hF:=ob hF;obtain⟨v27,e28,hF⟩:=hF
       refine((C.f135 B hB1 hB2 w x25 rows i v27 e28)).pgoW (by simp[h3,h5,q6,↓e8,↓e10,h11,q12,h13,q14,eq_true h23,↓e26]) (by simp) ?_
       have hF:=ob hF;obtain⟨x29,e30a,hF⟩:=hF
       have e30a:=ZL e30a;obtain⟨ne30,e30⟩:=e30a
       have le30:=ZB e30
       repeat first|refine cg ?_|simp -dsimp[h3,h5,q6,↓e8,↓e10,h11,q12,h13,q14,eq_true h23,↓e26,↓e30]
       have hF:=ob hF;obtain⟨v31,e32,hF⟩:=hF
       refine((C.f135 B hB1 hB2 w x29 rows best v31 e32)).pgoW (by simp[h3,h5,q6,↓e8,↓e10,h11,q12,h13,q14,eq_true h23,↓e26,↓e30]) (by simp) ?_
       repeat first|refine cg ?_|simp -dsimp[h3,h5,q6,↓e8,↓e10,h11,q12,h13,q14,eq_true h23,↓e26,↓e30]
       revert hF;refine aS ?_ ?_<;>intro h33 q34 hF
       ·have z35:((v27.length:Int)<(v31.length:Int)):=auz
        repeat first|refine cg ?_|simp -dsimp[h3,h5,q6,↓e8,↓e10,h11,q12,h13,q14,eq_true h23,↓e26,↓e30,h33,z35]
        refine aG _ ?_ ((ih_f136 (i64.wrap (i+1)) i o hF) _ rfl _ hq)
        exact(gT (by simp) (by simp -dsimp[h3,h5,q6,↓e8,↓e10,h11,q12,h13,q14,eq_true h23,↓e26,↓e30,h33,z35]))
       ·have z35:¬((v27.length:Int)<(v31.length:Int)):=auz
        repeat first|refine cg ?_|simp -dsimp[h3,h5,q6,↓e8,↓e10,h11,q12,h13,q14,eq_true h23,↓e26,↓e30,h33,q34,z35]
        refine aG _ ?_ ((ih_f136 (i64.wrap (i+1)) best o hF) _ rfl _ hq)
        exact(gT (by simp) (by simp -dsimp[h3,h5,q6,↓e8,↓e10,h11,q12,h13,q14,eq_true h23,↓e26,↓e30,h33,q34,z35]))
      ·repeat first|refine cg ?_|simp -dsimp[h3,h5,q6,↓e8,↓e10,h11,q12,h13,q14,h23,q24]
       refine aG _ ?_ ((ih_f136 (i64.wrap (i+1)) best o hF) _ rfl _ hq)
       exact(gT (by simp) (by simp -dsimp[h3,h5,q6,↓e8,↓e10,h11,q12,h13,q14,h23,q24]))
   ·cases hF
    repeat first|refine cg ?_|simp -dsimp[h3,eq_true h5,eq_true q6]
    refine lG _ (gT (by simp) (by simp -dsimp[h3,eq_true h5,eq_true q6])) hq
  ·cases hF
   repeat first|refine cg ?_|simp -dsimp[h3,q4]
   refine lG _ (gT (by simp) (by simp -dsimp[h3,q4])) hq
theorem C.f137 (w:List Vl.Data)(columns:List ZD)(rows:List ZA)(pick:Int)(r:Int)(hF:F.f137 w columns rows pick=some r):PureCall Tryz.prog B 73 [am Vl.Data.c w,am ZD.c columns,am ZA.c rows,li pick] (li r):=by
 unfold F.f137 at hF
 refine pE Tryz.func73 (by kernel_rfl) rfl Tryz.ntmps73 (by simp) (by simp) ?_
 obtain⟨x,e1,hF⟩:=ob hF
 have le1:=ZB e1
 repeat first|refine cg ?_|simp -dsimp[↓e1]
 obtain⟨v,e2,hF⟩:=ob hF
 refine((C.f119 B hB1 hB2 x v e2)).goW (by simp_all) (by simp) ?_
 repeat first|refine cg ?_|simp -dsimp
 obtain⟨o',ho36,hF⟩:=ob hF
 refine ALoop.goU _ ?_ (((CC.f136 B hB1 hB2 w columns rows pick) (i64.wrap (v+1)) v o' ho36) _ rfl _ ?_)
 ·exact(gT (by simp) (by simp_all))
 cases hF
 repeat first|refine cg ?_|simp -dsimp
theorem C.f138 (path:List Int)(i:Int)(r:List Int)(hF:F.f138 path i=some r):PureCall Tryz.prog B 97 [am cI path,li i] (am cI r):=by
 unfold F.f138 at hF
 refine pE Tryz.func97 (by kernel_rfl) rfl Tryz.ntmps97 (by simp) (by simp) ?_
 obtain⟨c1,hF⟩:=oc hF
 obtain⟨c2,hF⟩:=oc hF
 cases hF
 repeat first|refine cg ?_|simp -dsimp
theorem CC.f139 (columns:List ZD)(at':Int)(v:List Ty):(∀(out:List ZD) (i:Nat) (o:List ZD),F.f139 columns at' v out i=some o->∀(c:Code),ZY [1,1,0,1,0,1,1,0,0] (ZK Tryz.f75)=some c->∀(Q:Exit->ASt->Prop),(Q (.exit 0) ⟨[(1,am ZD.c columns),(2,li at'),(9,.own 1 (List.length (α:=ZD) o))],[.dead,.elems 3 (List.map ZD.c o)]⟩)->ALoopU Tryz.prog B 0 56 (hold c .mk) ⟨[(1,am ZD.c columns),(2,li at'),(9,.own 1 (List.length (α:=ZD) out)),(10,am Ty.c v),(11,li (i:Int))],[.dead,.elems 3 (List.map ZD.c out)]⟩ (hold Q .mk)):=by
 refine F.f139.partial_correctness columns at' v
  _
  ?_
 ·intro _f_f139 ih_f139 out i o hF
  intro c hc Q hq
  obtain rfl:c=_:=ZM hc rfl
  refine kN fun hk hs=> ?_
  have b1:=hk 1
  simp -dsimp at b1
  have b10:=hk 10
  simp -dsimp at b10
  have d1:=hs 1 _ rfl
  simp -dsimp[Blk.bnd]at d1
  clear hk hs
  refine eN ?_
  repeat first|refine cg ?_|simp -dsimp
  revert hF;refine aS ?_ ?_<;>intro h7 q8 hF
  ·have z9:((i:Int)<(v.length:Int)):=auz
   repeat first|refine cg ?_|simp -dsimp[h7,z9]
   refine ADraw.eff [] [(0,1),(0,0),(0,0),(0,0),(0,0),(0,0),(0,0),(0,2),(0,0),(0,0),(0,0),(0,0),(0,0),(0,2),(0,2),(2,2)] [1,1,1,1,1,1,1,1,1,1,1,1,1,1,1,1] follows (by kernel_rfl) (by kernel_rfl) (by kernel_rfl) ?_
   obtain⟨x10,e11a,hF⟩:=ob hF
   have e11a:=ZL e11a;obtain⟨ne11,e11⟩:=e11a
   have le11:=ZB e11
   repeat first|refine cg ?_|simp -dsimp[↓e11]
   obtain⟨v12,e13,hF⟩:=ob hF
   refine((C.f138 B hB1 hB2 x10.f0 (i:Int) v12 e13)).pgoW (by simp_all) (by simp) ?_
   obtain⟨x14,e15,hF⟩:=ob hF
   have le15:=ZB e15
   obtain⟨c16,hF⟩:=oc hF
   have w17:i64.wrap ((i:Int)+1)=(i:Int)+1:=ZG (by omega) (by omega)
   repeat first|refine cg ?_|simp -dsimp[↓e15,w17]
   refine aG _ ?_ ((ih_f139 (out++[(⟨v12,x14⟩:ZD)]) (i+1) o hF) _ rfl _ hq)
   exact(gT (by simp) (by simp_all))
  ·have z9:¬((i:Int)<(v.length:Int)):=auz
   cases hF
   repeat first|refine cg ?_|simp -dsimp[h7,q8,z9]
   refine lG _ (gT (by simp) (by simp_all)) hq
theorem C.f140 (w:List Vl.Data)(columns:List ZD)(at':Int)(b:Branch)(r:List ZD)(hF:F.f140 w columns at' b=some r):PureCall Tryz.prog B 75 [am Vl.Data.c w,am ZD.c columns,li at',.agg [li b.ctor,li b.n,li b.m,li b.tree.op,li b.tree.clause,am PathBind.c b.tree.binds,am cI b.tree.path,am Branch.c b.tree.branches,am Tree.c b.tree.els]] (am ZD.c r):=by
 unfold F.f140 at hF
 refine pE Tryz.func75 (by kernel_rfl) rfl Tryz.ntmps75 (by simp) (by simp) ?_
 obtain⟨c1,hF⟩:=oc hF
 obtain⟨c2,hF⟩:=oc hF
 repeat first|refine cg ?_|simp -dsimp
 revert hF;refine aN ?_ ?_<;>intro h3 q4 hF
 ·repeat first|refine cg ?_|simp -dsimp[h3,q4]
  refine ADraw.simple follows (by kernel_rfl) (by kernel_rfl) ?_
  obtain⟨x,e5a,hF⟩:=ob hF
  have e5a:=ZL e5a;obtain⟨ne5,e5⟩:=e5a
  have le5:=ZB e5
  repeat first|refine cg ?_|simp -dsimp[↓e5]
  obtain⟨v,e6,hF⟩:=ob hF
  refine((C.f45 B hB1 hB2 w x.f1 b.ctor v e6)).pgoW (by simp_all) (by simp) ?_
  repeat first|refine cg ?_|simp -dsimp
  obtain⟨o',ho18,hF⟩:=ob hF
  refine ALoop.goU _ ?_ (((CC.f139 B hB1 hB2 columns at' v) ((columns.drop 0).take (at'.toNat-0)) 0 o' ho18) _ rfl _ ?_)
  ·exact(gT (by simp) (by simp_all))
  obtain⟨c19,hF⟩:=oc hF
  obtain⟨c20,hF⟩:=oc hF
  cases hF
  repeat first|refine cg ?_|simp -dsimp
 ·obtain⟨c21,hF⟩:=oc hF
  obtain⟨c22,hF⟩:=oc hF
  cases hF
  repeat first|refine cg ?_|simp -dsimp
theorem C.f141 (p:Pattern)(b:Branch)(r:Bool)(hF:F.f141 p b=some r):PureCall Tryz.prog B 98 [.agg [li p.op,li p.ctor,li p.n,li p.m,li p.var,am Pattern.c p.kids],.agg [li b.ctor,li b.n,li b.m,li b.tree.op,li b.tree.clause,am PathBind.c b.tree.binds,am cI b.tree.path,am Branch.c b.tree.branches,am Tree.c b.tree.els]] (.lit (.bool r)):=by
 unfold F.f141 at hF
 refine pE Tryz.func98 (by kernel_rfl) rfl Tryz.ntmps98 (by simp) (by simp) ?_
 repeat first|refine cg ?_|simp -dsimp
 revert hF;refine aS ?_ ?_<;>intro h1 q2 hF
 ·cases hF
  repeat first|refine cg ?_|simp -dsimp[h1]
 ·repeat first|refine cg ?_|simp -dsimp[q2]
  revert hF;refine aS ?_ ?_<;>intro h3 q4 hF
  ·repeat first|refine cg ?_|simp -dsimp[h3]
   revert hF;refine aS ?_ ?_<;>intro h5 q6 hF
   ·cases hF
    repeat first|refine cg ?_|simp -dsimp[h5]
   ·cases hF
    repeat first|refine cg ?_|simp -dsimp[q6]
  ·cases hF
   repeat first|refine cg ?_|simp -dsimp[q4]
theorem CC.spec_l7Strip__g_l1 (row:ZA)(path:List Int):(∀(z:List PathBind) (z1:Int) (z2:Int) (z3:Int) (z4:Int) (z5:Int) (z6:List Pattern) (o:(List PathBind)×Int×Int×Int×Int×Int×(List Pattern)),F.f113 row path z z1 z2 z3 z4 z5 z6=some o->∀(c:Code),ZY [1,0,0,0] (ZK Tryz.f77)=some c->∀(Q:Exit->ASt->Prop),(Q (.exit 0) ⟨[(2,am cI path),(3,.ptr 1 0),(4,.ptr 2 0),(6,.ptr 3 0),(7,.ptr 4 0)],[.elems 6 (List.map Pattern.c row.f1),.cells [li row.f0,.own 0 (List.length (α:=Pattern) row.f1),am PathBind.c o.1],.cells [li o.2.1,li o.2.2.1,li o.2.2.2.1,li o.2.2.2.2.1,li o.2.2.2.2.2.1,am Pattern.c o.2.2.2.2.2.2],.cells [li 0,.lit (.slice none 0 0),.lit (.slice none 0 0)],.cells [li 0,li 0,li 0,li 0,li 0,.lit (.slice none 0 0)]]⟩)->ALoopU Tryz.prog B 1 48 (hold c .mk) ⟨[(2,am cI path),(3,.ptr 1 0),(4,.ptr 2 0),(6,.ptr 3 0),(7,.ptr 4 0)],[.elems 6 (List.map Pattern.c row.f1),.cells [li row.f0,.own 0 (List.length (α:=Pattern) row.f1),am PathBind.c z],.cells [li z1,li z2,li z3,li z4,li z5,am Pattern.c z6],.cells [li 0,.lit (.slice none 0 0),.lit (.slice none 0 0)],.cells [li 0,li 0,li 0,li 0,li 0,.lit (.slice none 0 0)]]⟩ (hold Q .mk)):=by
 refine F.f113.partial_correctness row path
  _
  ?_
 ·intro _f_spec_l7Strip__g_l1 ih_spec_l7Strip__g_l1 z z1 z2 z3 z4 z5 z6 o hF
  intro c hc Q hq
  obtain rfl:c=_:=ZM hc rfl
  refine kN fun hk hs=> ?_
  have b2:=hk 2
  simp -dsimp at b2
  have d0:=hs 0 _ rfl
  simp -dsimp[Blk.bnd]at d0
  have d1:=hs 1 _ rfl
  simp -dsimp[Blk.bnd]at d1
  have d2:=hs 2 _ rfl
  simp -dsimp[Blk.bnd]at d2
  clear hk hs
  refine eN ?_
  repeat first|refine cg ?_|simp -dsimp
  revert hF;refine aS ?_ ?_<;>intro h7 q8 hF
  ·repeat first|refine cg ?_|simp -dsimp[eq_true h7]
   refine ADraw.opn ?_
   refine ADraw.split [] [(0,6)] [(6,0)] 0 6 rfl rfl (by kernel_rfl) ?_ ?_
   ·refine ADraw.split [(0,6)] [(0,6),(3,6)] [(0,6),(6,3)] 3 6 rfl rfl (by kernel_rfl) ?_ ?_
    ·refine ADraw.effP [(0,6),(3,6)] [0,1,2,3,4,5,6,7,8,9,10,11,12,13] [1000045] [(0,8),(0,1),(0,1),(0,8),(0,4),(0,4),(0,8),(0,3),(0,8),(0,8),(0,8),(0,8),(7,7),(0,8)] [1,0,2,1,0,2,1,1,1,1,1,1,1,1] follows (by kernel_rfl) (by kernel_rfl) (by kernel_rfl) (by kernel_rfl) ?_
     obtain⟨c9,hF⟩:=oc hF
     obtain⟨c10,hF⟩:=oc hF
     obtain⟨c11,hF⟩:=oc hF
     obtain⟨x,e12,hF⟩:=ob hF
     have le12:=ZB e12
     repeat first|refine cg ?_|simp -dsimp[↓e12]
     refine aG ⟨[(2,.arr (List.map cI path)),(3,.ptr 1 0),(4,.ptr 2 0),(6,.ptr 3 0),(7,.ptr 4 0)],[.elems 6 (List.map Pattern.c row.f1),.cells [.lit (.int .i64 row.f0),.own 0 (List.length (α:=Pattern) row.f1),.arr (List.map PathBind.c (z++[(⟨z5,path⟩:PathBind)]))],.cells [.lit (.int .i64 x.op),.lit (.int .i64 x.ctor),.lit (.int .i64 x.n),.lit (.int .i64 x.m),.lit (.int .i64 x.var),.arr (List.map Pattern.c x.kids)],.cells [.lit (.int .i64 0),.lit (.slice none 0 0),.lit (.slice none 0 0)],.cells [.lit (.int .i64 0),.lit (.int .i64 0),.lit (.int .i64 0),.lit (.int .i64 0),.lit (.int .i64 0),.lit (.slice none 0 0)]]⟩ (by refine Gh.trans (Gh.frzCell 1 2 (l2:=5) (n:=List.length (α:=PathBind) (z++[(⟨z5,path⟩:PathBind)])) (sz:=2) (cs:=[.lit (.int .i64 row.f0),.own 0 (List.length (α:=Pattern) row.f1),.own 5 (List.length (α:=PathBind) (z++[(⟨z5,path⟩:PathBind)]))]) (es:=List.map PathBind.c (z++[(⟨z5,path⟩:PathBind)])) (by simp) (by simp) (by simp) (by simp) (by simp)) ?_;exact(gT (by simp) (by simp_all))) ?_
     exact(ih_spec_l7Strip__g_l1 (z++[(⟨z5,path⟩:PathBind)]) x.op x.ctor x.n x.m x.var x.kids o hF) _ rfl _ hq
    ·refine ADraw.effP [(0,6),(6,3)] [0,1,2,4,5,6,3,7,8,9,10,11,12,13] [1000045] [(0,8),(0,2),(0,2),(0,4),(0,4),(0,8),(0,8),(0,3),(0,8),(0,8),(0,8),(0,8),(7,7),(0,8)] [1,0,2,0,2,1,1,1,1,1,1,1,1,1] follows (by kernel_rfl) (by kernel_rfl) (by kernel_rfl) (by kernel_rfl) ?_
     obtain⟨c9,hF⟩:=oc hF
     obtain⟨c10,hF⟩:=oc hF
     obtain⟨c11,hF⟩:=oc hF
     obtain⟨x,e12,hF⟩:=ob hF
     have le12:=ZB e12
     repeat first|refine cg ?_|simp -dsimp[↓e12]
     refine aG ⟨[(2,.arr (List.map cI path)),(3,.ptr 1 0),(4,.ptr 2 0),(6,.ptr 3 0),(7,.ptr 4 0)],[.elems 6 (List.map Pattern.c row.f1),.cells [.lit (.int .i64 row.f0),.own 0 (List.length (α:=Pattern) row.f1),.arr (List.map PathBind.c (z++[(⟨z5,path⟩:PathBind)]))],.cells [.lit (.int .i64 x.op),.lit (.int .i64 x.ctor),.lit (.int .i64 x.n),.lit (.int .i64 x.m),.lit (.int .i64 x.var),.arr (List.map Pattern.c x.kids)],.cells [.lit (.int .i64 0),.lit (.slice none 0 0),.lit (.slice none 0 0)],.cells [.lit (.int .i64 0),.lit (.int .i64 0),.lit (.int .i64 0),.lit (.int .i64 0),.lit (.int .i64 0),.lit (.slice none 0 0)]]⟩ (by refine Gh.trans (Gh.frzCell 1 2 (l2:=5) (n:=List.length (α:=PathBind) (z++[(⟨z5,path⟩:PathBind)])) (sz:=2) (cs:=[.lit (.int .i64 row.f0),.own 0 (List.length (α:=Pattern) row.f1),.own 5 (List.length (α:=PathBind) (z++[(⟨z5,path⟩:PathBind)]))]) (es:=List.map PathBind.c (z++[(⟨z5,path⟩:PathBind)])) (by simp) (by simp) (by simp) (by simp) (by simp)) ?_;exact(gT (by simp) (by simp_all))) ?_
     exact(ih_spec_l7Strip__g_l1 (z++[(⟨z5,path⟩:PathBind)]) x.op x.ctor x.n x.m x.var x.kids o hF) _ rfl _ hq
   ·refine ADraw.effP [(6,0)] [1,2,4,5,6,0,3,7,8,9,10,11,12,13] [1000045] [(0,2),(0,2),(0,4),(0,4),(0,8),(0,8),(0,8),(0,3),(0,8),(0,8),(0,8),(0,8),(7,7),(0,8)] [0,2,0,2,1,1,1,1,1,1,1,1,1,1] follows (by kernel_rfl) (by kernel_rfl) (by kernel_rfl) (by kernel_rfl) ?_
    obtain⟨c9,hF⟩:=oc hF
    obtain⟨c10,hF⟩:=oc hF
    obtain⟨c11,hF⟩:=oc hF
    obtain⟨x,e12,hF⟩:=ob hF
    have le12:=ZB e12
    repeat first|refine cg ?_|simp -dsimp[↓e12]
    refine aG ⟨[(2,.arr (List.map cI path)),(3,.ptr 1 0),(4,.ptr 2 0),(6,.ptr 3 0),(7,.ptr 4 0)],[.elems 6 (List.map Pattern.c row.f1),.cells [.lit (.int .i64 row.f0),.own 0 (List.length (α:=Pattern) row.f1),.arr (List.map PathBind.c (z++[(⟨z5,path⟩:PathBind)]))],.cells [.lit (.int .i64 x.op),.lit (.int .i64 x.ctor),.lit (.int .i64 x.n),.lit (.int .i64 x.m),.lit (.int .i64 x.var),.arr (List.map Pattern.c x.kids)],.cells [.lit (.int .i64 0),.lit (.slice none 0 0),.lit (.slice none 0 0)],.cells [.lit (.int .i64 0),.lit (.int .i64 0),.lit (.int .i64 0),.lit (.int .i64 0),.lit (.int .i64 0),.lit (.slice none 0 0)]]⟩ (by refine Gh.trans (Gh.frzCell 1 2 (l2:=6) (n:=List.length (α:=PathBind) (z++[(⟨z5,path⟩:PathBind)])) (sz:=2) (cs:=[.lit (.int .i64 row.f0),.own 0 (List.length (α:=Pattern) row.f1),.own 6 (List.length (α:=PathBind) (z++[(⟨z5,path⟩:PathBind)]))]) (es:=List.map PathBind.c (z++[(⟨z5,path⟩:PathBind)])) (by simp) (by simp) (by simp) (by simp) (by simp)) ?_;exact(gT (by simp) (by simp_all))) ?_
    exact(ih_spec_l7Strip__g_l1 (z++[(⟨z5,path⟩:PathBind)]) x.op x.ctor x.n x.m x.var x.kids o hF) _ rfl _ hq
  ·cases hF
   repeat first|refine cg ?_|simp -dsimp[h7,q8]
   refine lG _ (gT (by simp) (by simp_all)) hq
theorem C.spec_l7Strip__g (row:ZA)(p:Pattern)(path:List Int)(r:ZA×Pattern)(hF:F.f114 row p path=some r):BCall Tryz.prog B 77 [.elems 6 (List.map Pattern.c row.f1)] [.agg [li row.f0,.own 0 (List.length (α:=Pattern) row.f1),am PathBind.c row.f2],.agg [li p.op,li p.ctor,li p.n,li p.m,li p.var,am Pattern.c p.kids],am cI path] (.tup [.agg [li r.1.f0,.own 0 (List.length (α:=Pattern) r.1.f1),am PathBind.c r.1.f2],.agg [li r.2.op,li r.2.ctor,li r.2.n,li r.2.m,li r.2.var,am Pattern.c r.2.kids]]) [.elems 6 (List.map Pattern.c r.1.f1)]:=by
 unfold F.f114 at hF
 refine BCall.enter Tryz.func77 (by kernel_rfl) rfl Tryz.ntmps77 (by simp) rfl (by simp) (by simp) (by simp) (by simp) (by simp) (gR _) ?_
 repeat first|refine cg ?_|simp -dsimp
 obtain⟨o',ho13,hF⟩:=ob hF
 refine ALoop.goU _ ?_ (((CC.spec_l7Strip__g_l1 B hB1 hB2 row path) row.f2 p.op p.ctor p.n p.m p.var p.kids o' ho13) _ rfl _ ?_)
 ·exact(gT (by simp) (by simp -dsimp))
 repeat first|refine cg ?_|simp -dsimp
 revert hF;refine aS ?_ ?_<;>intro h14 q15 hF
 ·repeat first|refine cg ?_|simp -dsimp[h14]
  refine ADraw.opn ?_
  refine ADraw.split [] [(0,6)] [(6,0)] 0 6 rfl rfl (by kernel_rfl) ?_ ?_
  ·refine ADraw.split [(0,6)] [(0,6),(3,6)] [(0,6),(6,3)] 3 6 rfl rfl (by kernel_rfl) ?_ ?_
   ·refine ADraw.effP [(0,6),(3,6)] [0,1,2,3,4,5,6,7,8,9,10,11,12,13] [1000045] [(0,8),(0,1),(0,1),(0,8),(0,4),(0,4),(0,8),(0,3),(0,8),(0,8),(0,8),(0,8),(7,7),(0,8)] [1,0,2,1,0,2,1,1,1,1,1,1,1,1] follows (by kernel_rfl) (by kernel_rfl) (by kernel_rfl) (by kernel_rfl) ?_
    obtain⟨c16,hF⟩:=oc hF
    obtain⟨c17,hF⟩:=oc hF
    obtain⟨c18,hF⟩:=oc hF
    repeat first|refine cg ?_|simp -dsimp
    refine ADraw.gh (Gh.frzCell 1 2 (l2:=5) (n:=List.length (α:=PathBind) (o'.1++[(⟨o'.2.2.2.2.2.1,path⟩:PathBind)])) (sz:=2) (cs:=[.lit (.int .i64 row.f0),.own 0 (List.length (α:=Pattern) row.f1),.own 5 (List.length (α:=PathBind) (o'.1++[(⟨o'.2.2.2.2.2.1,path⟩:PathBind)]))]) (es:=List.map PathBind.c (o'.1++[(⟨o'.2.2.2.2.2.1,path⟩:PathBind)])) (by simp) (by simp) (by simp) (by simp) (by simp)) ?_
    repeat first|refine cg ?_|simp -dsimp
    refine ADraw.eff [] [(0,0),(0,2),(0,2),(0,2)] [1,1,1,1] follows (by kernel_rfl) (by kernel_rfl) (by kernel_rfl) ?_
    repeat first|refine cg ?_|simp -dsimp
    obtain⟨v,e19,hF⟩:=ob hF
    refine((C.f92 B hB1 hB2 v e19)).pgoW (by simp_all) (by simp) ?_
    cases hF
    repeat first|refine cg ?_|simp -dsimp
    all_goals(try first|omega|rfl|(simp;done)|(simp only[List.length_cons,List.length_nil]at*;omega)|simp)
   ·refine ADraw.effP [(0,6),(6,3)] [0,1,2,4,5,6,3,7,8,9,10,11,12,13] [1000045] [(0,8),(0,2),(0,2),(0,4),(0,4),(0,8),(0,8),(0,3),(0,8),(0,8),(0,8),(0,8),(7,7),(0,8)] [1,0,2,0,2,1,1,1,1,1,1,1,1,1] follows (by kernel_rfl) (by kernel_rfl) (by kernel_rfl) (by kernel_rfl) ?_
    obtain⟨c16,hF⟩:=oc hF
    obtain⟨c17,hF⟩:=oc hF
    obtain⟨c18,hF⟩:=oc hF
    repeat first|refine cg ?_|simp -dsimp
    refine ADraw.gh (Gh.frzCell 1 2 (l2:=5) (n:=List.length (α:=PathBind) (o'.1++[(⟨o'.2.2.2.2.2.1,path⟩:PathBind)])) (sz:=2) (cs:=[.lit (.int .i64 row.f0),.own 0 (List.length (α:=Pattern) row.f1),.own 5 (List.length (α:=PathBind) (o'.1++[(⟨o'.2.2.2.2.2.1,path⟩:PathBind)]))]) (es:=List.map PathBind.c (o'.1++[(⟨o'.2.2.2.2.2.1,path⟩:PathBind)])) (by simp) (by simp) (by simp) (by simp) (by simp)) ?_
    repeat first|refine cg ?_|simp -dsimp
    refine ADraw.eff [] [(0,0),(0,2),(0,2),(0,2)] [1,1,1,1] follows (by kernel_rfl) (by kernel_rfl) (by kernel_rfl) ?_
    repeat first|refine cg ?_|simp -dsimp
    obtain⟨v,e19,hF⟩:=ob hF
    refine((C.f92 B hB1 hB2 v e19)).pgoW (by simp_all) (by simp) ?_
    cases hF
    repeat first|refine cg ?_|simp -dsimp
    all_goals(try first|omega|rfl|(simp;done)|(simp only[List.length_cons,List.length_nil]at*;omega)|simp)
  ·refine ADraw.effP [(6,0)] [1,2,4,5,6,0,3,7,8,9,10,11,12,13] [1000045] [(0,2),(0,2),(0,4),(0,4),(0,8),(0,8),(0,8),(0,3),(0,8),(0,8),(0,8),(0,8),(7,7),(0,8)] [0,2,0,2,1,1,1,1,1,1,1,1,1,1] follows (by kernel_rfl) (by kernel_rfl) (by kernel_rfl) (by kernel_rfl) ?_
   obtain⟨c16,hF⟩:=oc hF
   obtain⟨c17,hF⟩:=oc hF
   obtain⟨c18,hF⟩:=oc hF
   repeat first|refine cg ?_|simp -dsimp
   refine ADraw.gh (Gh.frzCell 1 2 (l2:=6) (n:=List.length (α:=PathBind) (o'.1++[(⟨o'.2.2.2.2.2.1,path⟩:PathBind)])) (sz:=2) (cs:=[.lit (.int .i64 row.f0),.own 0 (List.length (α:=Pattern) row.f1),.own 6 (List.length (α:=PathBind) (o'.1++[(⟨o'.2.2.2.2.2.1,path⟩:PathBind)]))]) (es:=List.map PathBind.c (o'.1++[(⟨o'.2.2.2.2.2.1,path⟩:PathBind)])) (by simp) (by simp) (by simp) (by simp) (by simp)) ?_
   repeat first|refine cg ?_|simp -dsimp
   refine ADraw.eff [] [(0,0),(0,2),(0,2),(0,2)] [1,1,1,1] follows (by kernel_rfl) (by kernel_rfl) (by kernel_rfl) ?_
   repeat first|refine cg ?_|simp -dsimp
   obtain⟨v,e19,hF⟩:=ob hF
   refine((C.f92 B hB1 hB2 v e19)).pgoW (by simp_all) (by simp) ?_
   cases hF
   repeat first|refine cg ?_|simp -dsimp
   all_goals(try first|omega|rfl|(simp;done)|(simp only[List.length_cons,List.length_nil]at*;omega)|simp)
 ·repeat first|refine cg ?_|simp -dsimp[q15]
  refine ADraw.eff [] [(0,0),(0,1),(0,2),(0,2)] [1,2,1,1] follows (by kernel_rfl) (by kernel_rfl) (by kernel_rfl) ?_
  cases hF
  repeat first|refine cg ?_|simp -dsimp
  all_goals(try first|omega|rfl|(simp;done)|(simp only[List.length_cons,List.length_nil]at*;omega)|simp)
theorem CC.f142 (columns:List ZD)(rows:List ZA)(at':Int)(b:Branch)(v:List ZD)(out:List ZA)(i:Nat)(x6:Pattern):(∀(z:Int) (z15:List PathBind) (out16:List Pattern) (k:Int) (o:Int×(List PathBind)×(List Pattern)),F.f142 columns rows at' b v out i x6 z z15 out16 k=some o->∀(c:Code),ZY [1,1,1,0,1,0,0,1,0,0,1,1,1,0,1,0,0] (ZK Tryz.f76)=some c->∀(Q:Exit->ASt->Prop),(Q (.exit 2) ⟨[(1,am ZD.c columns),(2,am ZA.c rows),(3,li at'),(9,.ptr 1 0),(11,.own 2 (List.length (α:=ZA) out)),(12,am ZD.c v),(13,li (i:Int)),(15,.ptr 5 0)],[.elems 0 [],.cells [li b.ctor,li b.n,li b.m,li b.tree.op,li b.tree.clause,am PathBind.c b.tree.binds,am cI b.tree.path,am Branch.c b.tree.branches,am Tree.c b.tree.els],.elems 3 (List.map ZA.c out),.dead,.elems 6 (List.map Pattern.c o.2.2),.cells [li o.1,.own 4 (List.length (α:=Pattern) o.2.2),am PathBind.c o.2.1]]⟩)->ALoopU Tryz.prog B 0 123 (hold c .mk) ⟨[(1,am ZD.c columns),(2,am ZA.c rows),(3,li at'),(9,.ptr 1 0),(11,.own 2 (List.length (α:=ZA) out)),(12,am ZD.c v),(13,li (i:Int)),(14,.ptr 3 0),(15,.ptr 5 0),(16,li k)],[.elems 0 [],.cells [li b.ctor,li b.n,li b.m,li b.tree.op,li b.tree.clause,am PathBind.c b.tree.binds,am cI b.tree.path,am Branch.c b.tree.branches,am Tree.c b.tree.els],.elems 3 (List.map ZA.c out),.cells [li x6.op,li x6.ctor,li x6.n,li x6.m,li x6.var,am Pattern.c x6.kids],.elems 6 (List.map Pattern.c out16),.cells [li z,.own 4 (List.length (α:=Pattern) out16),am PathBind.c z15]]⟩ (hold Q .mk)):=by
 refine F.f142.partial_correctness columns rows at' b v out i x6
  _
  ?_
 ·intro _f_f142 ih_f142 z z15 out16 k o hF
  intro c hc Q hq
  obtain rfl:c=_:=ZM hc rfl
  refine kN fun hk hs=> ?_
  have b1:=hk 1
  simp -dsimp at b1
  have b2:=hk 2
  simp -dsimp at b2
  have b12:=hk 12
  simp -dsimp at b12
  have d1:=hs 1 _ rfl
  simp -dsimp[Blk.bnd]at d1
  have d2:=hs 2 _ rfl
  simp -dsimp[Blk.bnd]at d2
  have d3:=hs 3 _ rfl
  simp -dsimp[Blk.bnd]at d3
  have d4:=hs 4 _ rfl
  simp -dsimp[Blk.bnd]at d4
  have d5:=hs 5 _ rfl
  simp -dsimp[Blk.bnd]at d5
  clear hk hs
  refine eN ?_
  repeat first|refine cg ?_|simp -dsimp
  revert hF;refine aS ?_ ?_<;>intro h17 q18 hF
  ·repeat first|refine cg ?_|simp -dsimp[h17]
   obtain⟨v19,e20,hF⟩:=ob hF
   refine((C.f92 B hB1 hB2 v19 e20)).goW (by simp_all) (by simp) ?_
   repeat first|refine cg ?_|simp -dsimp
   revert hF;refine aS ?_ ?_<;>intro h21 q22 hF
   ·obtain⟨x23,e24a,hF⟩:=ob hF
    have e24a:=ZL e24a;obtain⟨ne24,e24⟩:=e24a
    have le24:=ZB e24
    repeat first|refine cg ?_|simp -dsimp[h21,↓e24]
    refine ADraw.opn ?_
    refine ADraw.split [] [(7,11)] [(11,7)] 7 11 rfl rfl (by kernel_rfl) ?_ ?_
    ·refine ADraw.effLP [(7,11)] [0,1,2,3,4,5,6,7,8,9,10,11,12,13,14] [(7,12),(11,12)] 12 12 [77] [(0,0),(0,0),(0,0),(0,0),(0,0),(0,0),(0,0),(0,5),(1,3),(1,3),(1,4),(0,5),(0,5),(0,5),(0,5)] [1,1,1,1,1,1,1,1,1,1,1,1,1,1,1] follows (by kernel_rfl) (by kernel_rfl) (by kernel_rfl) (by kernel_rfl) (by kernel_rfl) rfl (by intro d hd;cases hd;rfl) ?_
     obtain⟨x25,e26a,hF⟩:=ob hF
     have e26a:=ZL e26a;obtain⟨ne26,e26⟩:=e26a
     have le26:=ZB e26
     repeat first|refine cg ?_|simp -dsimp[↓e26]
     obtain⟨v27,e28,hF⟩:=ob hF
     refine((C.spec_l7Strip__g B hB1 hB2 (⟨z,out16,z15⟩:ZA) x23 x25.f0 v27 e28)).ego (pl [4]) (by simp) (by simp) (ZAi _ rfl (by decide)) (by intro i hi hi';simp at hi hi';omega) (by simp_all) (by simp_all) ?_
     obtain⟨c29,hF⟩:=oc hF
     repeat first|refine cg ?_|simp -dsimp
     refine aG _ ?_ ((ih_f142 v27.1.f0 v27.1.f2 (v27.1.f1++[v27.2]) (i64.wrap (k+1)) o hF) _ rfl _ hq)
     exact(gT (by simp) (by simp_all))
    ·refine ADraw.effLP [(11,7)] [0,1,2,3,4,5,6,11,7,8,9,10,12,13,14] [(7,12),(8,12)] 12 12 [77] [(0,1),(0,1),(0,1),(0,1),(0,1),(0,1),(0,1),(0,5),(0,5),(2,3),(2,3),(2,4),(0,5),(0,5),(0,5)] [2,2,1,1,0,0,0,1,1,1,1,1,1,1,1] follows (by kernel_rfl) (by kernel_rfl) (by kernel_rfl) (by kernel_rfl) (by kernel_rfl) rfl (by intro d hd;cases hd;rfl) ?_
     obtain⟨x25,e26a,hF⟩:=ob hF
     have e26a:=ZL e26a;obtain⟨ne26,e26⟩:=e26a
     have le26:=ZB e26
     repeat first|refine cg ?_|simp -dsimp
     obtain⟨v27,e28,hF⟩:=ob hF
     refine((C.spec_l7Strip__g B hB1 hB2 (⟨z,out16,z15⟩:ZA) x23 x25.f0 v27 e28)).ego (pl [4]) (by simp) (by simp) (ZAi _ rfl (by decide)) (by intro i hi hi';simp at hi hi';omega) (by simp_all) (by simp_all) ?_
     obtain⟨c29,hF⟩:=oc hF
     repeat first|refine cg ?_|simp -dsimp
     refine aG _ ?_ ((ih_f142 v27.1.f0 v27.1.f2 (v27.1.f1++[v27.2]) (i64.wrap (k+1)) o hF) _ rfl _ hq)
     exact(gT (by simp) (by simp_all))
   ·repeat first|refine cg ?_|simp -dsimp[h21,q22]
    refine ADraw.opn ?_
    refine ADraw.split [] [(7,11)] [(11,7)] 7 11 rfl rfl (by kernel_rfl) ?_ ?_
    ·refine ADraw.effLP [(7,11)] [0,1,2,3,4,5,6,7,8,9,10,11,12,13,14] [(7,12),(11,12)] 12 12 [77] [(0,0),(0,0),(0,0),(0,0),(0,0),(0,0),(0,0),(0,5),(1,3),(1,3),(1,4),(0,5),(0,5),(0,5),(0,5)] [1,1,1,1,1,1,1,1,1,1,1,1,1,1,1] follows (by kernel_rfl) (by kernel_rfl) (by kernel_rfl) (by kernel_rfl) (by kernel_rfl) rfl (by intro d hd;cases hd;rfl) ?_
     obtain⟨x30,e31a,hF⟩:=ob hF
     have e31a:=ZL e31a;obtain⟨ne31,e31⟩:=e31a
     have le31:=ZB e31
     repeat first|refine cg ?_|simp -dsimp[↓e31]
     obtain⟨v32,e33,hF⟩:=ob hF
     refine((C.spec_l7Strip__g B hB1 hB2 (⟨z,out16,z15⟩:ZA) v19 x30.f0 v32 e33)).ego (pl [4]) (by simp) (by simp) (ZAi _ rfl (by decide)) (by intro i hi hi';simp at hi hi';omega) (by simp_all) (by simp_all) ?_
     obtain⟨c34,hF⟩:=oc hF
     repeat first|refine cg ?_|simp -dsimp
     refine aG _ ?_ ((ih_f142 v32.1.f0 v32.1.f2 (v32.1.f1++[v32.2]) (i64.wrap (k+1)) o hF) _ rfl _ hq)
     exact(gT (by simp) (by simp_all))
    ·refine ADraw.effLP [(11,7)] [0,1,2,3,4,5,6,11,7,8,9,10,12,13,14] [(7,12),(8,12)] 12 12 [77] [(0,1),(0,1),(0,1),(0,1),(0,1),(0,1),(0,1),(0,5),(0,5),(2,3),(2,3),(2,4),(0,5),(0,5),(0,5)] [2,2,1,1,0,0,0,1,1,1,1,1,1,1,1] follows (by kernel_rfl) (by kernel_rfl) (by kernel_rfl) (by kernel_rfl) (by kernel_rfl) rfl (by intro d hd;cases hd;rfl) ?_
     obtain⟨x30,e31a,hF⟩:=ob hF
     have e31a:=ZL e31a;obtain⟨ne31,e31⟩:=e31a
     have le31:=ZB e31
     repeat first|refine cg ?_|simp -dsimp
     obtain⟨v32,e33,hF⟩:=ob hF
     refine((C.spec_l7Strip__g B hB1 hB2 (⟨z,out16,z15⟩:ZA) v19 x30.f0 v32 e33)).ego (pl [4]) (by simp) (by simp) (ZAi _ rfl (by decide)) (by intro i hi hi';simp at hi hi';omega) (by simp_all) (by simp_all) ?_
     obtain⟨c34,hF⟩:=oc hF
     repeat first|refine cg ?_|simp -dsimp
     refine aG _ ?_ ((ih_f142 v32.1.f0 v32.1.f2 (v32.1.f1++[v32.2]) (i64.wrap (k+1)) o hF) _ rfl _ hq)
     exact(gT (by simp) (by simp_all))
  ·cases hF
   repeat first|refine cg ?_|simp -dsimp[q18]
   refine lG _ (gT (by simp) (by simp_all)) hq
theorem CC.f143 (columns:List ZD)(rows:List ZA)(at':Int)(b:Branch)(v:List ZD):(∀(out:List ZA) (i:Nat) (o:List ZA),F.f143 columns rows at' b v out i=some o->∀(c:Code),ZY [1,1,1,0,1,0,0] (ZK Tryz.f76)=some c->∀(Q:Exit->ASt->Prop),(Q (.exit 0) ⟨[(11,.own 2 (List.length (α:=ZA) o))],[.elems 0 [],.dead,.elems 3 (List.map ZA.c o)]⟩)->ALoopU Tryz.prog B 0 123 (hold c .mk) ⟨[(1,am ZD.c columns),(2,am ZA.c rows),(3,li at'),(9,.ptr 1 0),(11,.own 2 (List.length (α:=ZA) out)),(12,am ZD.c v),(13,li (i:Int))],[.elems 0 [],.cells [li b.ctor,li b.n,li b.m,li b.tree.op,li b.tree.clause,am PathBind.c b.tree.binds,am cI b.tree.path,am Branch.c b.tree.branches,am Tree.c b.tree.els],.elems 3 (List.map ZA.c out)]⟩ (hold Q .mk)):=by
 refine F.f143.partial_correctness columns rows at' b v
  _
  ?_
 ·intro _f_f143 ih_f143 out i o hF
  intro c hc Q hq
  obtain rfl:c=_:=ZM hc rfl
  refine kN fun hk hs=> ?_
  have b1:=hk 1
  simp -dsimp at b1
  have b2:=hk 2
  simp -dsimp at b2
  have b12:=hk 12
  simp -dsimp at b12
  have d1:=hs 1 _ rfl
  simp -dsimp[Blk.bnd]at d1
  have d2:=hs 2 _ rfl
  simp -dsimp[Blk.bnd]at d2
  clear hk hs
  refine eN ?_
  repeat first|refine cg ?_|simp -dsimp
  revert hF;refine aS ?_ ?_<;>intro h2 q3 hF
  ·have z4:((i:Int)<(rows.length:Int)):=auz
   have hF:=ob hF;obtain⟨x,e5,hF⟩:=hF
   have le5:=ZB e5
   have hF:=ob hF;obtain⟨x6,e7a,hF⟩:=hF
   have e7a:=ZL e7a;obtain⟨ne7,e7⟩:=e7a
   have le7:=ZB e7
   repeat first|refine cg ?_|simp -dsimp[h2,z4,↓e5,↓e7]
   have hF:=ob hF;obtain⟨v8,e9,hF⟩:=hF
   refine((C.f141 B hB1 hB2 x6 b v8 e9)).goW (by simp_all) (by simp) ?_
   repeat first|refine cg ?_|simp -dsimp[↓e5,↓e7]
   revert hF;refine aN (fun h10 q11 hF=> ?_) (fun h10 q11 hF=> ?_)
   ·have w12:i64.wrap ((i:Int)+1)=(i:Int)+1:=ZG (by omega) (by omega)
    repeat first|refine cg ?_|simp -dsimp[↓e5,↓e7,h10,q11,w12]
    refine aG _ ?_ ((ih_f143 out (i+1) o hF) _ rfl _ hq)
    exact(gT (by simp) (by simp_all))
   ·repeat first|refine cg ?_|simp -dsimp[↓e5,↓e7,h10,q11]
    refine ADraw.effL [(10,20),(18,20),(19,20)] 20 [1000124] [(0,2),(0,2),(0,2),(0,2),(0,2),(0,2),(0,2),(0,2),(0,2),(0,2),(0,5),(0,1),(0,1),(0,1),(0,1),(0,1),(0,1),(0,1),(0,5),(0,5),(0,5),(0,5)] [1,1,0,0,0,1,1,0,0,0,1,1,1,0,0,0,1,1,1,1,1,1] follows (by kernel_rfl) (by kernel_rfl) (by kernel_rfl) (by kernel_rfl) (by intro d hd;cases hd;rfl) ?_
    have hF:=oc hF;obtain⟨c13,hF⟩:=hF
    have hF:=oc hF;obtain⟨c14,hF⟩:=hF
    repeat first|refine cg ?_|simp -dsimp[↓e5,↓e7]
    have hF:=ob hF;obtain⟨o',ho35,hF⟩:=hF
    refine ALoop.goU _ ?_ (((CC.f142 B hB1 hB2 columns rows at' b v out i x6) x.f0 x.f2 ((x.f1.drop 0).take (at'.toNat-0)) at' o' ho35) _ rfl _ ?_)
    ·exact(gT (by simp) (by simp_all))
    repeat first|refine cg ?_|simp -dsimp
    refine ADraw.eff [] [(0,0),(0,0),(0,0),(0,0),(0,0),(0,0),(0,0),(0,0),(0,0),(0,0),(0,2),(1,1),(0,2)] [1,1,1,1,1,1,1,1,1,1,1,1,1] follows (by kernel_rfl) (by kernel_rfl) (by kernel_rfl) ?_
    have hF:=ob hF;obtain⟨x36,e37,hF⟩:=hF
    have le37:=ZB e37
    have hF:=oc hF;obtain⟨c38,hF⟩:=hF
    have hF:=oc hF;obtain⟨c39,hF⟩:=hF
    have hF:=oc hF;obtain⟨c40,hF⟩:=hF
    have hF:=oc hF;obtain⟨c41,hF⟩:=hF
    have w42:i64.wrap ((i:Int)+1)=(i:Int)+1:=ZG (by omega) (by omega)
    repeat first|refine cg ?_|simp -dsimp[↓e37,w42]
    refine aG _ ?_ ((ih_f143 (out++[(⟨o'.1,o'.2.2++((x36.f1.drop ((i64.wrap (at'+1)).toNat)).take (x36.f1.length- ((i64.wrap (at'+1)).toNat))),o'.2.1⟩:ZA)]) (i+1) o hF) _ rfl _ hq)
    exact(gT (by simp) (by simp_all))
  ·have z4:¬((i:Int)<(rows.length:Int)):=auz
   cases hF
   repeat first|refine cg ?_|simp -dsimp[h2,q3,z4]
   refine lG _ (gT (by simp) (by simp_all)) hq
theorem C.f144 (w:List Vl.Data)(columns:List ZD)(rows:List ZA)(at':Int)(b:Branch)(r:List ZA)(hF:F.f144 w columns rows at' b=some r):PureCall Tryz.prog B 76 [am Vl.Data.c w,am ZD.c columns,am ZA.c rows,li at',.agg [li b.ctor,li b.n,li b.m,li b.tree.op,li b.tree.clause,am PathBind.c b.tree.binds,am cI b.tree.path,am Branch.c b.tree.branches,am Tree.c b.tree.els]] (am ZA.c r):=by
 unfold F.f144 at hF
 refine PureCall.enterG Tryz.func76 (by kernel_rfl) rfl Tryz.ntmps76 (by simp) (by simp) Gh.keep ?_
 repeat first|refine cg ?_|simp -dsimp
 obtain⟨v,e1,hF⟩:=ob hF
 refine((C.f140 B hB1 hB2 w columns at' b v e1)).goW (by simp) (by simp) ?_
 repeat first|refine cg ?_|simp -dsimp
 obtain⟨o'44,ho43,hF⟩:=ob hF
 refine ALoop.goU _ ?_ (((CC.f143 B hB1 hB2 columns rows at' b v) [] 0 o'44 ho43) _ rfl _ ?_)
 ·exact(gT (by simp) (by simp -dsimp))
 cases hF
 repeat first|refine cg ?_|simp -dsimp
theorem CC.f145 (w:List Vl.Data)(list:List Clause)(pick:Int):(∀(columns:List ZD) (rows:List ZA) (left':Int) (r:Tree×Int),F.f145 w list pick columns rows left'=some r->PureCall Tryz.prog B 59 [am Vl.Data.c w,am Clause.c list,am ZD.c columns,am ZA.c rows,li pick,li left'] (.tup [.agg [li r.1.op,li r.1.clause,am PathBind.c r.1.binds,am cI r.1.path,am Branch.c r.1.branches,am Tree.c r.1.els],li r.2]))/\
  (∀(columns:List ZD) (rows:List ZA) (v20:Int) (x22:ZD) (v25:List Branch) (out:List Branch) (i:Nat) (left'27:Int) (o:(List Branch)×Int),F.f146 w list pick columns rows v20 x22 v25 out i left'27=some o->∀(c:Code),ZY [1,1,1,1,1,1,1,1,0,1,0,0] (ZK Tryz.f59)=some c->∀(Q:Exit->ASt->Prop),(Q (.exit 0) ⟨[(5,li o.2),(12,.ptr 0 0),(19,.ptr 3 0)],[.cells [li 0,li 0,.lit (.slice none 0 0),.lit (.slice none 0 0),.lit (.slice none 0 0),.lit (.slice none 0 0)],.dead,.dead,.cells [li 2,li 0,.lit (.slice none 0 0),am cI x22.f0,.own 4 (List.length (α:=Branch) o.1),.lit (.slice none 0 0)],.elems 9 (List.map Branch.c o.1)]⟩)->ALoopU Tryz.prog B 0 141 (hold c .mk) ⟨[(0,am Vl.Data.c w),(1,am Clause.c list),(2,am ZD.c columns),(3,am ZA.c rows),(4,li pick),(5,li left'27),(12,.ptr 0 0),(18,li v20),(19,.ptr 3 0),(20,am Branch.c v25),(21,li (i:Int))],[.cells [li 0,li 0,.lit (.slice none 0 0),.lit (.slice none 0 0),.lit (.slice none 0 0),.lit (.slice none 0 0)],.dead,.dead,.cells [li 2,li 0,.lit (.slice none 0 0),am cI x22.f0,.own 4 (List.length (α:=Branch) out),.lit (.slice none 0 0)],.elems 9 (List.map Branch.c out)]⟩ (hold Q .mk)):=by
 refine F.f145.mutual_partial_correctness w list pick
  _ _
  ?_ ?_
 ·intro _f_f145 _f_f146 ih_f145 ih_f146 columns rows left' r hF
  refine pE Tryz.func59 (by kernel_rfl) rfl Tryz.ntmps59 (by simp) (by simp) ?_
  repeat first|refine cg ?_|simp -dsimp
  revert hF;refine aN ?_ ?_<;>intro h1 q2 hF
  ·repeat first|refine cg ?_|simp -dsimp[h1,q2]
   revert hF;refine aS ?_ ?_<;>intro h3 q4 hF
   ·have z5:((rows.length:Int)=0):=auz
    cases hF
    repeat first|refine cg ?_|simp -dsimp[h1,q2,h3,z5]
   ·have z5:¬((rows.length:Int)=0):=auz
    have hF:=ob hF;obtain⟨x,e6,hF⟩:=hF
    have le6:=ZB e6
    repeat first|refine cg ?_|simp -dsimp[h1,q2,h3,q4,z5,↓e6]
    have hF:=ob hF;obtain⟨v,e7,hF⟩:=hF
    refine((C.f119 B hB1 hB2 x v e7)).goW (by simp[h1,q2,h3,q4,z5,↓e6]) (by simp) ?_
    repeat first|refine cg ?_|simp -dsimp[h1,q2,h3,q4,z5,↓e6]
    revert hF;refine aS ?_ ?_<;>intro h8 q9 hF
    ·repeat first|refine cg ?_|simp -dsimp[h1,q2,h3,q4,z5,↓e6,h8]
     refine ADraw.eff [] [(0,1),(0,1),(0,1),(0,1),(0,2),(0,1),(0,2),(0,2)] [0,2,0,2,1,0,1,1] follows (by kernel_rfl) (by kernel_rfl) (by kernel_rfl) ?_
     repeat first|refine cg ?_|simp -dsimp[h1,q2,h3,q4,z5,↓e6,h8]
     have hF:=ob hF;obtain⟨v10,e11,hF⟩:=hF
     refine((C.f122 B hB1 hB2 x.f2 v10 e11)).pgoW (by simp[h1,q2,h3,q4,z5,↓e6,h8]) (by simp) ?_
     have hF:=ob hF;obtain⟨x12,e13a,hF⟩:=hF
     have e13a:=ZL e13a;obtain⟨ne13,e13⟩:=e13a
     have le13:=ZB e13
     repeat first|refine cg ?_|simp -dsimp[h1,q2,h3,q4,z5,↓e6,h8,↓e13]
     revert hF;refine aS ?_ ?_<;>intro h14 q15 hF
     ·cases hF
      repeat first|refine cg ?_|simp -dsimp[h1,q2,h3,q4,z5,↓e6,h8,↓e13,h14]
     ·repeat first|refine cg ?_|simp -dsimp[h1,q2,h3,q4,z5,↓e6,h8,↓e13,h14,q15]
      have hF:=ob hF;obtain⟨v16,e17,hF⟩:=hF
      refine((C.f124 B hB1 hB2 rows x.f0 v16 e17)).goW (by simp[h1,q2,h3,q4,z5,↓e6,h8,↓e13,h14,q15]) (by simp) ?_
      repeat first|refine cg ?_|simp -dsimp[h1,q2,h3,q4,z5,↓e6,h8,↓e13,h14,q15]
      have hF:=ob hF;obtain⟨v18,e19,hF⟩:=hF
      refine((ih_f145 columns v16 (i64.wrap (left'-1)) v18 e19)).goW (by simp[h1,q2,h3,q4,z5,↓e6,h8,↓e13,h14,q15]) (by simp) ?_
      cases hF
      repeat first|refine cg ?_|simp -dsimp[h1,q2,h3,q4,z5,↓e6,h8,↓e13,h14,q15]
    ·repeat first|refine cg ?_|simp -dsimp[h1,q2,h3,q4,z5,↓e6,h8,q9]
     have hF:=ob hF;obtain⟨v20,e21,hF⟩:=hF
     refine((C.f137 B hB1 hB2 w columns rows pick v20 e21)).goW (by simp[h1,q2,h3,q4,z5,↓e6,h8,q9]) (by simp) ?_
     have hF:=ob hF;obtain⟨x22,e23a,hF⟩:=hF
     have e23a:=ZL e23a;obtain⟨ne23,e23⟩:=e23a
     have le23:=ZB e23
     have hF:=oc hF;obtain⟨c24,hF⟩:=hF
     repeat first|refine cg ?_|simp -dsimp[h1,q2,h3,q4,z5,↓e6,h8,q9,↓e23]
     have hF:=ob hF;obtain⟨v25,e26,hF⟩:=hF
     refine((C.f135 B hB1 hB2 w x22 rows v20 v25 e26)).goW (by simp[h1,q2,h3,q4,z5,↓e6,h8,q9,↓e23]) (by simp) ?_
     repeat first|refine cg ?_|simp -dsimp[h1,q2,h3,q4,z5,↓e6,h8,q9,↓e23]
     have hF:=ob hF;obtain⟨o',ho43,hF⟩:=hF
     refine ALoop.goU ⟨[(0,.arr (List.map Vl.Data.c w)),(1,.arr (List.map Clause.c list)),(2,.arr (List.map ZD.c columns)),(3,.arr (List.map ZA.c rows)),(4,.lit (.int .i64 pick)),(5,.lit (.int .i64 (i64.wrap (left'-1)))),(12,.ptr 0 0),(18,.lit (.int .i64 v20)),(19,.ptr 3 0),(20,.arr (List.map Branch.c v25)),(21,.lit (.int .i64 0))],[.cells [.lit (.int .i64 0),.lit (.int .i64 0),.lit (.slice none 0 0),.lit (.slice none 0 0),.lit (.slice none 0 0),.lit (.slice none 0 0)],.dead,.dead,.cells [.lit (.int .i64 2),.lit (.int .i64 0),.lit (.slice none 0 0),.arr (List.map cI x22.f0),.own 4 (List.length (α:=Branch) []),.lit (.slice none 0 0)],.elems 9 (List.map Branch.c [])]⟩ (by refine Gh.trans (Gh.nilCell 3 4 9 (by simp -dsimp;rfl) (by simp -dsimp)) ?_;exact(gT (by simp) (by simp -dsimp[h1,q2,h3,q4,z5,↓e6,h8,q9,↓e23]))) ?_
     refine(ih_f146 columns rows v20 x22 v25 [] 0 (i64.wrap (left'-1)) o' ho43) _ rfl _ ?_
     cases hF
     repeat first|refine cg ?_|simp -dsimp
  ·cases hF
   repeat first|refine cg ?_|simp -dsimp[h1,q2]
 ·intro _f_f145 _f_f146 ih_f145 ih_f146 columns rows v20 x22 v25 out i left'27 o hF
  intro c hc Q hq
  obtain rfl:c=_:=ZM hc rfl
  refine kN fun hk hs=> ?_
  have b0:=hk 0
  simp -dsimp at b0
  have b1:=hk 1
  simp -dsimp at b1
  have b2:=hk 2
  simp -dsimp at b2
  have b3:=hk 3
  simp -dsimp at b3
  have b20:=hk 20
  simp -dsimp at b20
  have d3:=hs 3 _ rfl
  simp -dsimp[Blk.bnd]at d3
  have d4:=hs 4 _ rfl
  simp -dsimp[Blk.bnd]at d4
  clear hk hs
  refine eN ?_
  repeat first|refine cg ?_|simp -dsimp
  revert hF;refine aS ?_ ?_<;>intro h28 q29 hF
  ·have z30:((i:Int)<(v25.length:Int)):=auz
   repeat first|refine cg ?_|simp -dsimp[h28,z30]
   revert hF;refine aS ?_ ?_<;>intro h31 q32 hF
   ·have hF:=ob hF;obtain⟨x33,e34,hF⟩:=hF
    have le34:=ZB e34
    repeat first|refine cg ?_|simp -dsimp[h28,z30,h31,↓e34]
    refine ADraw.eff [] [(0,1),(0,1),(0,1),(0,1),(0,1),(0,1),(0,2),(0,1),(0,1),(0,1),(0,1),(0,1),(0,2),(0,1),(0,1),(0,2),(0,1),(0,1),(0,2),(0,2),(0,2),(2,2)] [1,1,1,1,1,2,1,1,1,1,1,2,1,1,1,1,1,1,1,1,1,1] follows (by kernel_rfl) (by kernel_rfl) (by kernel_rfl) ?_
    repeat first|refine cg ?_|simp -dsimp[h28,z30,h31,↓e34]
    have hF:=ob hF;obtain⟨v35,e36,hF⟩:=hF
    refine((C.f140 B hB1 hB2 w columns v20 x33 v35 e36)).pgoW (by simp[h28,z30,h31,↓e34]) (by simp) ?_
    repeat first|refine cg ?_|simp -dsimp[h28,z30,h31,↓e34]
    have hF:=ob hF;obtain⟨v37,e38,hF⟩:=hF
    refine((C.f144 B hB1 hB2 w columns rows v20 x33 v37 e38)).pgoW (by simp[h28,z30,h31,↓e34]) (by simp) ?_
    repeat first|refine cg ?_|simp -dsimp[h28,z30,h31,↓e34]
    have hF:=ob hF;obtain⟨v39,e40,hF⟩:=hF
    refine((ih_f145 v35 v37 left'27 v39 e40)).pgoW (by simp[h28,z30,h31,↓e34]) (by simp) ?_
    have hF:=oc hF;obtain⟨c41,hF⟩:=hF
    have w42:i64.wrap ((i:Int)+1)=(i:Int)+1:=ZG (by omega) (by omega)
    repeat first|refine cg ?_|simp -dsimp[h28,z30,h31,↓e34,w42]
    refine aG _ ?_ ((ih_f146 columns rows v20 x22 v25 (out++[(⟨x33.ctor,x33.n,x33.m,v39.1⟩:Branch)]) (i+1) v39.2 o hF) _ rfl _ hq)
    exact(gT (by simp) (by simp -dsimp[h28,z30,h31,↓e34,w42]))
   ·cases hF
    repeat first|refine cg ?_|simp -dsimp[h28,z30,h31,q32]
    refine lG _ (gT (by simp) (by simp -dsimp[h28,z30,h31,q32])) hq
  ·have z30:¬((i:Int)<(v25.length:Int)):=auz
   cases hF
   repeat first|refine cg ?_|simp -dsimp[h28,q29,z30]
   refine lG _ (gT (by simp) (by simp -dsimp[h28,q29,z30])) hq
theorem CC.f147 (w:List Vl.Data)(t:Ty)(list:List Clause)(pick:Int):(∀(i:Nat) (o:Lo (Tree×Bool) Unit),F.f147 w t list pick i=some o->∀(c:Code),ZY [1,0,1,0,0] (ZK Tryz.f50)=some c->∀(Q:Exit->ASt->Prop),o.post (fun r=>∀st,ZAh Tryz.prog Tryz.f50 (fun r' _=>r'.le (.tup [.agg [li r.1.op,li r.1.clause,am PathBind.c r.1.binds,am cI r.1.path,am Branch.c r.1.branches,am Tree.c r.1.els],.lit (.bool r.2)])) .ret st->Q .ret st) (fun s=>Q (.exit 0) ⟨[(0,am Vl.Data.c w),(2,am Clause.c list),(3,li pick),(5,.ptr 0 0),(8,.ptr 1 0)],[.cells [li t.data,li t.index],.cells [li 0,li 0,.lit (.slice none 0 0),.lit (.slice none 0 0),.lit (.slice none 0 0),.lit (.slice none 0 0)]]⟩)->ALoopU Tryz.prog B 0 44 (hold c .mk) ⟨[(0,am Vl.Data.c w),(2,am Clause.c list),(3,li pick),(5,.ptr 0 0),(8,.ptr 1 0),(10,li (i:Int))],[.cells [li t.data,li t.index],.cells [li 0,li 0,.lit (.slice none 0 0),.lit (.slice none 0 0),.lit (.slice none 0 0),.lit (.slice none 0 0)]]⟩ (hold Q .mk)):=by
 refine F.f147.partial_correctness w t list pick
  _
  ?_
 ·intro _f_f147 ih_f147 i o hF
  intro c hc Q hq
  obtain rfl:c=_:=ZM hc rfl
  refine kN fun hk hs=> ?_
  have b0:=hk 0
  simp -dsimp at b0
  have b2:=hk 2
  simp -dsimp at b2
  clear hk hs
  refine eN ?_
  repeat first|refine cg ?_|simp -dsimp
  revert hF;refine aS ?_ ?_<;>intro h1 q2 hF
  ·have z3:((i:Int)<(list.length:Int)):=auz
   obtain⟨x,e4,hF⟩:=ob hF
   have le4:=ZB e4
   repeat first|refine cg ?_|simp -dsimp[h1,z3,↓e4]
   obtain⟨v,e5,hF⟩:=ob hF
   refine(((CC.spec_l3Split__o0 B hB1 hB2).1 x.pat v e5)).go (pl [2]) (by simp) (by simp) (by intro i j hi;simp at hi) (by intro i hi hi';simp at hi hi';have hi:i=0:=(by omega);rcases hi with rfl<;>simp[pl]) (by simp_all) (by simp_all) ?_
   repeat first|refine cg ?_|simp -dsimp
   revert hF;refine aS ?_ ?_<;>intro h6 q7 hF
   ·have z8:(40<(v.length:Int)):=auz
    cases hF
    repeat first|refine cg ?_|simp -dsimp[h6,z8]
    refine lG _ (gR _) (hq _ ?_)
    repeat first|refine cg ?_|simp -dsimp
   ·have z8:¬(40<(v.length:Int)):=auz
    have w9:i64.wrap ((i:Int)+1)=(i:Int)+1:=ZG (by omega) (by omega)
    repeat first|refine cg ?_|simp -dsimp[h6,q7,z8,w9]
    refine aG _ ?_ ((ih_f147 (i+1) o hF) _ rfl _ hq)
    exact(gT (by simp) (by simp_all))
  ·have z3:¬((i:Int)<(list.length:Int)):=auz
   cases hF
   repeat first|refine cg ?_|simp -dsimp[h1,q2,z3]
   refine lG _ (gT (by simp) (by simp_all)) hq
theorem C.f148 (w:List Vl.Data)(t:Ty)(list:List Clause)(pick:Int)(r:Tree×Bool)(hF:F.f148 w t list pick=some r):PureCall Tryz.prog B 50 [am Vl.Data.c w,.agg [li t.data,li t.index],am Clause.c list,li pick] (.tup [.agg [li r.1.op,li r.1.clause,am PathBind.c r.1.binds,am cI r.1.path,am Branch.c r.1.branches,am Tree.c r.1.els],.lit (.bool r.2)]):=by
 unfold F.f148 at hF
 refine pE Tryz.func50 (by kernel_rfl) rfl Tryz.ntmps50 (by simp) (by simp) ?_
 repeat first|refine cg ?_|simp -dsimp
 obtain⟨o',ho10,hF⟩:=ob hF
 refine ALoop.goU _ ?_ (((CC.f147 B hB1 hB2 w t list pick) 0 o' ho10) _ rfl _ ?_)
 ·exact(gT (by simp) (by simp -dsimp))
 rcases o' with r0|sx
 ·dsimp only at hF
  cases hF
  intro st h
  simpa using h
 ·dsimp only at hF
  repeat first|refine cg ?_|simp -dsimp
  refine ADraw.effL [(4,12),(8,12)] 12 [59] [(0,1),(0,1),(0,0),(0,0),(0,4),(0,1),(0,4),(0,1),(0,4),(2,3),(2,3),(2,4),(0,4),(0,4),(4,4)] [1,1,1,1,1,1,1,1,1,1,1,1,1,1,1] follows (by kernel_rfl) (by kernel_rfl) (by kernel_rfl) (by kernel_rfl) (by intro d hd;cases hd;rfl) ?_
  repeat first|refine cg ?_|simp -dsimp
  obtain⟨v11,e12,hF⟩:=ob hF
  refine((C.f117 B hB1 hB2 list v11 e12)).pgoW (by simp) (by simp) ?_
  repeat first|refine cg ?_|simp -dsimp
  obtain⟨v13,e14,hF⟩:=ob hF
  refine ECallA.frz ?_ (((CC.f145 B hB1 hB2 w list pick).1 [(⟨[],t⟩:ZD)] v11 300 v13 e14)).ent
  repeat first|refine cg ?_|simp -dsimp
  refine(((CC.f145 B hB1 hB2 w list pick).1 [(⟨[],t⟩:ZD)] v11 300 v13 e14)).ego (by simp) (by simp) ?_
  repeat first|refine cg ?_|simp -dsimp
  revert hF;refine aS ?_ ?_<;>intro h15 q16 hF
  ·cases hF
   repeat first|refine cg ?_|simp -dsimp[h15]
  ·cases hF
   repeat first|refine cg ?_|simp -dsimp[q16]
theorem C.f149 (w:List Vl.Data)(t:Ty)(list:List Clause)(pick:Int)(r:Tree×Bool)(hF:F.f149 w t list pick=some r):PureCall Tryz.prog B 41 [am Vl.Data.c w,.agg [li t.data,li t.index],am Clause.c list,li pick] (.tup [.agg [li r.1.op,li r.1.clause,am PathBind.c r.1.binds,am cI r.1.path,am Branch.c r.1.branches,am Tree.c r.1.els],.lit (.bool r.2)]):=by
 unfold F.f149 at hF
 refine pE Tryz.func41 (by kernel_rfl) rfl Tryz.ntmps41 (by simp) (by simp) ?_
 repeat first|refine cg ?_|simp -dsimp
 have hF:=ob hF;obtain⟨v,e1,hF⟩:=hF
 refine((C.f105 B hB1 hB2 w t list v e1)).goW (by simp) (by simp) ?_
 repeat first|refine cg ?_|simp -dsimp
 revert hF;refine aS (fun h2 q3 hF=> ?_) (fun h2 q3 hF=> ?_)
 ·repeat first|refine cg ?_|simp -dsimp[h2]
  revert hF;refine aN ?_ ?_<;>intro h4 q5 hF
  ·repeat first|refine cg ?_|simp -dsimp[h2,h4,q5]
   revert hF;refine aS ?_ ?_<;>intro h6 q7 hF
   ·cases hF
    repeat first|refine cg ?_|simp -dsimp[h2,h4,q5,h6]
   ·repeat first|refine cg ?_|simp -dsimp[h2,h4,q5,h6,q7]
    have hF:=ob hF;obtain⟨v8,e9,hF⟩:=hF
    refine((C.f148 B hB1 hB2 w t list pick v8 e9)).goW (by simp[h2,h4,q5,h6,q7]) (by simp) ?_
    cases hF
    repeat first|refine cg ?_|simp -dsimp[h2,h4,q5,h6,q7]
  ·cases hF
   repeat first|refine cg ?_|simp -dsimp[h2,h4,q5]
 ·cases hF
  repeat first|refine cg ?_|simp -dsimp[h2,q3]
theorem C.f150 (code:List Int)(r:Tree)(hF:F.f150 code=some r):PureCall Tryz.prog B 22 [am cU code] (.agg [li r.op,li r.clause,am PathBind.c r.binds,am cI r.path,am Branch.c r.branches,am Tree.c r.els]):=by
 unfold F.f150 at hF
 refine pE Tryz.func22 (by kernel_rfl) rfl Tryz.ntmps22 (by simp) (by simp) ?_
 repeat first|refine cg ?_|simp -dsimp
 have hF:=ob hF;obtain⟨v,e1,hF⟩:=hF
 refine((C.f99 B hB1 hB2 code v e1)).goW (by simp) (by simp) ?_
 repeat first|refine cg ?_|simp -dsimp
 have hF:=ob hF;obtain⟨v2,e3,hF⟩:=hF
 refine((C.f149 B hB1 hB2 v.1 v.2.1 v.2.2.1 v.2.2.2 v2 e3)).goW (by simp) (by simp) ?_
 cases hF
 repeat first|refine cg ?_|simp -dsimp
theorem CC.f151  :(∀(x:Tree) (most:Int) (r:Int),F.f151 x most=some r->PureCall Tryz.prog B 37 [.agg [li x.op,li x.clause,am PathBind.c x.binds,am cI x.path,am Branch.c x.branches,am Tree.c x.els],li most] (li r))/\
  (∀(x:Tree) (most:Int) (n11:Int) (i12:Nat) (o:Int),F.f153 x most n11 i12=some o->∀(c:Code),ZY [1,1,1,0,1,0,0] (ZK Tryz.f37)=some c->∀(Q:Exit->ASt->Prop),(Q (.exit 2) ⟨[(5,li o)],[]⟩)->ALoopU Tryz.prog B 0 56 (hold c .mk) ⟨[(1,li most),(2,.ptr 0 0),(5,li n11),(7,li (i12:Int))],[.cells [li x.op,li x.clause,am PathBind.c x.binds,am cI x.path,am Branch.c x.branches,am Tree.c x.els]]⟩ (hold Q .mk))/\
  (∀(x:Tree) (most:Int) (n:Int) (i:Nat) (o:Int),F.f152 x most n i=some o->∀(c:Code),ZY [1,1,0,1,0,0] (ZK Tryz.f37)=some c->∀(Q:Exit->ASt->Prop),(Q (.exit 0) ⟨[(1,li most),(2,.ptr 0 0),(5,li o)],[.cells [li x.op,li x.clause,am PathBind.c x.binds,am cI x.path,am Branch.c x.branches,am Tree.c x.els]]⟩)->ALoopU Tryz.prog B 0 56 (hold c .mk) ⟨[(1,li most),(2,.ptr 0 0),(5,li n),(6,li (i:Int))],[.cells [li x.op,li x.clause,am PathBind.c x.binds,am cI x.path,am Branch.c x.branches,am Tree.c x.els]]⟩ (hold Q .mk)):=by
 refine F.f151.mutual_partial_correctness 
  _ _ _
  ?_ ?_ ?_
 ·intro _f_f153 _f_f152 ih_f153 ih_f152 x most r hF
  refine pE Tryz.func37 (by kernel_rfl) rfl Tryz.ntmps37 (by simp) (by simp) ?_
  repeat first|refine cg ?_|simp -dsimp
  have hF:=ob hF;obtain⟨o',ho10,hF⟩:=hF
  refine ALoop.goU _ ?_ ((ih_f152 x most 1 0 o' ho10) _ rfl _ ?_)
  ·exact(gT (by simp) (by simp -dsimp))
  repeat first|refine cg ?_|simp -dsimp
  have hF:=ob hF;obtain⟨o'24,ho23,hF⟩:=hF
  refine ALoop.goU _ ?_ ((ih_f153 x most o' 0 o'24 ho23) _ rfl _ ?_)
  ·exact(gT (by simp) (by simp -dsimp))
  cases hF
  repeat first|refine cg ?_|simp -dsimp
 ·intro _f_f151 _f_f153 ih_f151 ih_f153 x most n11 i12 o hF
  intro c hc Q hq
  obtain rfl:c=_:=ZM hc rfl
  refine kN fun hk hs=> ?_
  have d0:=hs 0 _ rfl
  simp -dsimp[Blk.bnd]at d0
  clear hk hs
  refine eN ?_
  repeat first|refine cg ?_|simp -dsimp
  revert hF;refine aS ?_ ?_<;>intro h13 q14 hF
  ·have z15:((i12:Int)<(x.els.length:Int)):=auz
   repeat first|refine cg ?_|simp -dsimp[h13,z15]
   revert hF;refine aS ?_ ?_<;>intro h16 q17 hF
   ·have hF:=ob hF;obtain⟨x18,e19,hF⟩:=hF
    have le19:=ZB e19
    repeat first|refine cg ?_|simp -dsimp[h16,↓e19]
    have hF:=ob hF;obtain⟨v20,e21,hF⟩:=hF
    refine((ih_f151 x18 (i64.wrap (most-n11)) v20 e21)).goW (by simp_all) (by simp) ?_
    have w22:i64.wrap ((i12:Int)+1)=(i12:Int)+1:=ZG (by omega) (by omega)
    repeat first|refine cg ?_|simp -dsimp[w22]
    refine aG _ ?_ ((ih_f153 x most (i64.wrap (n11+v20)) (i12+1) o hF) _ rfl _ hq)
    exact(gT (by simp) (by simp_all))
   ·cases hF
    repeat first|refine cg ?_|simp -dsimp[h16,q17]
    refine lG _ (gT (by simp) (by simp_all)) hq
  ·have z15:¬((i12:Int)<(x.els.length:Int)):=auz
   cases hF
   repeat first|refine cg ?_|simp -dsimp[h13,q14,z15]
   refine lG _ (gT (by simp) (by simp_all)) hq
 ·intro _f_f151 _f_f152 ih_f151 ih_f152 x most n i o hF
  intro c hc Q hq
  obtain rfl:c=_:=ZM hc rfl
  refine kN fun hk hs=> ?_
  have d0:=hs 0 _ rfl
  simp -dsimp[Blk.bnd]at d0
  clear hk hs
  refine eN ?_
  repeat first|refine cg ?_|simp -dsimp
  revert hF;refine aS ?_ ?_<;>intro h1 q2 hF
  ·have z3:((i:Int)<(x.branches.length:Int)):=auz
   repeat first|refine cg ?_|simp -dsimp[h1,z3]
   revert hF;refine aS ?_ ?_<;>intro h4 q5 hF
   ·have hF:=ob hF;obtain⟨x6,e7,hF⟩:=hF
    have le7:=ZB e7
    repeat first|refine cg ?_|simp -dsimp[h4,↓e7]
    have hF:=ob hF;obtain⟨v,e8,hF⟩:=hF
    refine((ih_f151 x6.tree (i64.wrap (most-n)) v e8)).goW (by simp_all) (by simp) ?_
    have w9:i64.wrap ((i:Int)+1)=(i:Int)+1:=ZG (by omega) (by omega)
    repeat first|refine cg ?_|simp -dsimp[w9]
    refine aG _ ?_ ((ih_f152 x most (i64.wrap (n+v)) (i+1) o hF) _ rfl _ hq)
    exact(gT (by simp) (by simp_all))
   ·cases hF
    repeat first|refine cg ?_|simp -dsimp[h4,q5]
    refine lG _ (gT (by simp) (by simp_all)) hq
  ·have z3:¬((i:Int)<(x.branches.length:Int)):=auz
   cases hF
   repeat first|refine cg ?_|simp -dsimp[h1,q2,z3]
   refine lG _ (gT (by simp) (by simp_all)) hq
theorem CC.f154  :(∀(x:Tree) (r:Bool),F.f154 x=some r->PureCall Tryz.prog B 38 [.agg [li x.op,li x.clause,am PathBind.c x.binds,am cI x.path,am Branch.c x.branches,am Tree.c x.els]] (.lit (.bool r)))/\
  (∀(x:Tree) (i:Nat) (o:Lo Bool Unit),F.f155 x i=some o->∀(c:Code),ZY [1,1,0,1,0,0] (ZK Tryz.f38)=some c->∀(Q:Exit->ASt->Prop),o.post (fun r=>∀st,ZAh Tryz.prog Tryz.f38 (fun r' _=>r'.le (.lit (.bool r))) .ret st->Q .ret st) (fun s=>Q (.exit 0) ⟨[(1,.ptr 0 0)],[.cells [li x.op,li x.clause,am PathBind.c x.binds,am cI x.path,am Branch.c x.branches,am Tree.c x.els]]⟩)->ALoopU Tryz.prog B 0 50 (hold c .mk) ⟨[(1,.ptr 0 0),(3,li (i:Int))],[.cells [li x.op,li x.clause,am PathBind.c x.binds,am cI x.path,am Branch.c x.branches,am Tree.c x.els]]⟩ (hold Q .mk)):=by
 refine F.f154.mutual_partial_correctness 
  _ _
  ?_ ?_
 ·intro _f_f154 _f_f155 ih_f154 ih_f155 x r hF
  refine pE Tryz.func38 (by kernel_rfl) rfl Tryz.ntmps38 (by simp) (by simp) ?_
  repeat first|refine cg ?_|simp -dsimp
  revert hF;refine aN ?_ ?_<;>intro h1 q2 hF
  ·repeat first|refine cg ?_|simp -dsimp[h1,q2]
   revert hF;refine aN ?_ ?_<;>intro h3 q4 hF
   ·repeat first|refine cg ?_|simp -dsimp[h1,q2,h3,q4]
    revert hF;refine aN ?_ ?_<;>intro h5 q6 hF
    ·have z7:¬(1<(x.els.length:Int)):=auz
     repeat first|refine cg ?_|simp -dsimp[h1,q2,h3,q4,h5,q6,z7]
     revert hF;refine aS ?_ ?_<;>intro h8 q9 hF
     ·have z10:(10<(x.branches.length:Int)):=auz
      cases hF
      repeat first|refine cg ?_|simp -dsimp[h1,q2,h3,q4,h5,q6,z7,h8,z10]
     ·have z10:¬(10<(x.branches.length:Int)):=auz
      repeat first|refine cg ?_|simp -dsimp[h1,q2,h3,q4,h5,q6,z7,h8,q9,z10]
      obtain⟨o',ho20,hF⟩:=ob hF
      refine ALoop.goU _ ?_ ((ih_f155 x 0 o' ho20) _ rfl _ ?_)
      ·exact(gT (by simp) (by simp -dsimp[h1,q2,h3,q4,h5,q6,z7,h8,q9,z10]))
      rcases o' with r0|sx
      ·dsimp only at hF
       cases hF
       intro st h
       simpa using h
      ·dsimp only at hF
       repeat first|refine cg ?_|simp -dsimp
       revert hF;refine aN ?_ ?_<;>intro h21 q22 hF
       ·have z23:¬((x.els.length:Int)=0):=auz
        obtain⟨x24,e25,hF⟩:=ob hF
        have le25:=ZB e25
        repeat first|refine cg ?_|simp -dsimp[h21,q22,z23,↓e25]
        obtain⟨v26,e27,hF⟩:=ob hF
        refine((ih_f154 x24 v26 e27)).goW (by simp[h21,q22,z23,↓e25]) (by simp) ?_
        cases hF
        repeat first|refine cg ?_|simp -dsimp[h21,q22,z23,↓e25]
       ·have z23:((x.els.length:Int)=0):=auz
        cases hF
        repeat first|refine cg ?_|simp -dsimp[h21,q22,z23]
    ·have z7:(1<(x.els.length:Int)):=auz
     cases hF
     repeat first|refine cg ?_|simp -dsimp[h1,q2,h3,q4,h5,q6,z7]
   ·cases hF
    repeat first|refine cg ?_|simp -dsimp[h1,q2,h3,q4]
  ·cases hF
   repeat first|refine cg ?_|simp -dsimp[h1,q2]
 ·intro _f_f154 _f_f155 ih_f154 ih_f155 x i o hF
  intro c hc Q hq
  obtain rfl:c=_:=ZM hc rfl
  refine kN fun hk hs=> ?_
  have d0:=hs 0 _ rfl
  simp -dsimp[Blk.bnd]at d0
  clear hk hs
  refine eN ?_
  repeat first|refine cg ?_|simp -dsimp
  revert hF;refine aS ?_ ?_<;>intro h11 q12 hF
  ·have z13:((i:Int)<(x.branches.length:Int)):=auz
   obtain⟨x14,e15,hF⟩:=ob hF
   have le15:=ZB e15
   repeat first|refine cg ?_|simp -dsimp[h11,z13,↓e15]
   obtain⟨v,e16,hF⟩:=ob hF
   refine((ih_f154 x14.tree v e16)).goW (by simp[h11,z13,↓e15]) (by simp) ?_
   repeat first|refine cg ?_|simp -dsimp[h11,z13,↓e15]
   revert hF;refine aN (fun h17 q18 hF=> ?_) (fun h17 q18 hF=> ?_)
   ·cases hF
    repeat first|refine cg ?_|simp -dsimp[h11,z13,↓e15,h17,q18]
    refine lG _ (gR _) (hq _ ?_)
    repeat first|refine cg ?_|simp -dsimp[h11,z13,↓e15,h17,q18]
   ·have w19:i64.wrap ((i:Int)+1)=(i:Int)+1:=ZG (by omega) (by omega)
    repeat first|refine cg ?_|simp -dsimp[h11,z13,↓e15,h17,q18,w19]
    refine aG _ ?_ ((ih_f155 x (i+1) o hF) _ rfl _ hq)
    exact(gT (by simp) (by simp -dsimp[h11,z13,↓e15,h17,q18,w19]))
  ·have z13:¬((i:Int)<(x.branches.length:Int)):=auz
   cases hF
   repeat first|refine cg ?_|simp -dsimp[h11,q12,z13]
   refine lG _ (gT (by simp) (by simp -dsimp[h11,q12,z13])) hq
theorem CC.f156 (list:List PathBind):(∀(out:List PathBind) (i:Nat) (o:List PathBind),F.f156 list out i=some o->∀(c:Code),ZY [1,1,0,1,0,0] (ZK Tryz.f31)=some c->∀(Q:Exit->ASt->Prop),(Q (.exit 0) ⟨[(3,.own 0 (List.length (α:=PathBind) o))],[.elems 2 (List.map PathBind.c o)]⟩)->ALoopU Tryz.prog B 0 29 (hold c .mk) ⟨[(0,am PathBind.c list),(3,.own 0 (List.length (α:=PathBind) out)),(4,li (i:Int))],[.elems 2 (List.map PathBind.c out)]⟩ (hold Q .mk)):=by
 refine F.f156.partial_correctness list
  _
  ?_
 ·intro _f_f156 ih_f156 out i o hF
  intro c hc Q hq
  obtain rfl:c=_:=ZM hc rfl
  refine kN fun hk hs=> ?_
  have b0:=hk 0
  simp -dsimp at b0
  have d0:=hs 0 _ rfl
  simp -dsimp[Blk.bnd]at d0
  clear hk hs
  refine eN ?_
  repeat first|refine cg ?_|simp -dsimp
  revert hF;refine aS ?_ ?_<;>intro h1 q2 hF
  ·have z3:((i:Int)<(list.length:Int)):=auz
   repeat first|refine cg ?_|simp -dsimp[h1,z3]
   refine ADraw.eff [1000045] [(0,4),(0,2),(0,2),(0,2),(0,2),(0,2),(0,5),(0,1),(0,1),(0,1),(0,1),(0,1),(0,5),(0,5),(0,5),(0,5),(5,5)] [1,1,1,0,0,0,1,1,1,0,0,0,1,1,1,1,1] follows (by kernel_rfl) (by kernel_rfl) (by kernel_rfl) ?_
   obtain⟨x,e4,hF⟩:=ob hF
   have le4:=ZB e4
   obtain⟨c5,hF⟩:=oc hF
   obtain⟨c6,hF⟩:=oc hF
   have w7:i64.wrap ((i:Int)+1)=(i:Int)+1:=ZG (by omega) (by omega)
   repeat first|refine cg ?_|simp -dsimp[↓e4,w7]
   refine aG _ ?_ ((ih_f156 (out++[x]) (i+1) o hF) _ rfl _ hq)
   exact(gT (by simp) (by simp_all))
  ·have z3:¬((i:Int)<(list.length:Int)):=auz
   cases hF
   repeat first|refine cg ?_|simp -dsimp[h1,q2,z3]
   refine lG _ (gT (by simp) (by simp_all)) hq
theorem C.f157 (list:List PathBind)(r:List PathBind)(hF:F.f157 list=some r):PureCall Tryz.prog B 31 [am PathBind.c list] (am PathBind.c r):=by
 unfold F.f157 at hF
 refine pE Tryz.func31 (by kernel_rfl) rfl Tryz.ntmps31 (by simp) (by simp) ?_
 repeat first|refine cg ?_|simp -dsimp
 obtain⟨o',ho8,hF⟩:=ob hF
 refine ALoop.goU _ ?_ (((CC.f156 B hB1 hB2 list) [] 0 o' ho8) _ rfl _ ?_)
 ·exact(gT (by simp) (by simp -dsimp))
 cases hF
 repeat first|refine cg ?_|simp -dsimp
theorem C.f158  (r:Int)(hF:F.f158=some r):PureCall Tryz.prog B 30 [] (li r):=by
 unfold F.f158 at hF
 refine pE Tryz.func30 (by kernel_rfl) rfl Tryz.ntmps30 (by simp) (by simp) ?_
 cases hF
 repeat first|refine cg ?_|simp -dsimp
theorem CC.f159 (a:List Int)(b:List Int):(∀(i:Nat) (o:Lo Bool Unit),F.f159 a b i=some o->∀(c:Code),ZY [1,1,0,1,0,0] (ZK Tryz.f54)=some c->∀(Q:Exit->ASt->Prop),o.post (fun r=>∀st,ZAh Tryz.prog Tryz.f54 (fun r' _=>r'.le (.lit (.bool r))) .ret st->Q .ret st) (fun s=>Q (.exit 0) ⟨[],[]⟩)->ALoopU Tryz.prog B 0 26 (hold c .mk) ⟨[(0,am cI a),(1,am cI b),(5,li (i:Int))],[]⟩ (hold Q .mk)):=by
 refine F.f159.partial_correctness a b
  _
  ?_
 ·intro _f_f159 ih_f159 i o hF
  intro c hc Q hq
  obtain rfl:c=_:=ZM hc rfl
  refine kN fun hk hs=> ?_
  have b0:=hk 0
  simp -dsimp at b0
  have b1:=hk 1
  simp -dsimp at b1
  clear hk hs
  refine eN ?_
  repeat first|refine cg ?_|simp -dsimp
  revert hF;refine aS ?_ ?_<;>intro h4 q5 hF
  ·have z6:((i:Int)<(a.length:Int)):=auz
   repeat first|refine cg ?_|simp -dsimp[h4,z6]
   refine ADraw.simple follows (by kernel_rfl) (by kernel_rfl) ?_
   obtain⟨x,e7,hF⟩:=ob hF
   have le7:=ZB e7
   obtain⟨x8,e9,hF⟩:=ob hF
   have le9:=ZB e9
   repeat first|refine cg ?_|simp -dsimp[↓e7,↓e9]
   revert hF;refine aN ?_ ?_<;>intro h10 q11 hF
   ·cases hF
    repeat first|refine cg ?_|simp -dsimp[h10,q11]
    refine lG _ (gR _) (hq _ ?_)
    repeat first|refine cg ?_|simp -dsimp
   ·have w12:i64.wrap ((i:Int)+1)=(i:Int)+1:=ZG (by omega) (by omega)
    repeat first|refine cg ?_|simp -dsimp[w12]
    refine aG _ ?_ ((ih_f159 (i+1) o hF) _ rfl _ hq)
    exact(gT (by simp) (by simp_all))
  ·have z6:¬((i:Int)<(a.length:Int)):=auz
   cases hF
   repeat first|refine cg ?_|simp -dsimp[h4,q5,z6]
   refine lG _ (gT (by simp) (by simp_all)) hq
theorem C.f160 (a:List Int)(b:List Int)(r:Bool)(hF:F.f160 a b=some r):PureCall Tryz.prog B 54 [am cI a,am cI b] (.lit (.bool r)):=by
 unfold F.f160 at hF
 refine pE Tryz.func54 (by kernel_rfl) rfl Tryz.ntmps54 (by simp) (by simp) ?_
 repeat first|refine cg ?_|simp -dsimp
 revert hF;refine aN ?_ ?_<;>intro h1 q2 hF
 ·have z3:¬((a.length:Int)=(b.length:Int)):=auz
  cases hF
  repeat first|refine cg ?_|simp -dsimp[h1,q2,z3]
 ·have z3:((a.length:Int)=(b.length:Int)):=auz
  repeat first|refine cg ?_|simp -dsimp
  obtain⟨o',ho13,hF⟩:=ob hF
  refine ALoop.goU _ ?_ (((CC.f159 B hB1 hB2 a b) 0 o' ho13) _ rfl _ ?_)
  ·exact(gT (by simp) (by simp_all))
  rcases o' with r0|sx
  ·dsimp only at hF
   cases hF
   intro st h
   simpa using h
  ·dsimp only at hF
   cases hF
   repeat first|refine cg ?_|simp -dsimp
theorem CC.f161 (a:List PathBind)(b:List PathBind):(∀(i:Nat) (o:Lo Bool Unit),F.f161 a b i=some o->∀(c:Code),ZY [1,1,0,1,0,0] (ZK Tryz.f53)=some c->∀(Q:Exit->ASt->Prop),o.post (fun r=>∀st,ZAh Tryz.prog Tryz.f53 (fun r' _=>r'.le (.lit (.bool r))) .ret st->Q .ret st) (fun s=>Q (.exit 0) ⟨[],[]⟩)->ALoopU Tryz.prog B 0 42 (hold c .mk) ⟨[(0,am PathBind.c a),(1,am PathBind.c b),(5,li (i:Int))],[]⟩ (hold Q .mk)):=by
 refine F.f161.partial_correctness a b
  _
  ?_
 ·intro _f_f161 ih_f161 i o hF
  intro c hc Q hq
  obtain rfl:c=_:=ZM hc rfl
  refine kN fun hk hs=> ?_
  have b0:=hk 0
  simp -dsimp at b0
  have b1:=hk 1
  simp -dsimp at b1
  clear hk hs
  refine eN ?_
  repeat first|refine cg ?_|simp -dsimp
  revert hF;refine aS ?_ ?_<;>intro h4 q5 hF
  ·have z6:((i:Int)<(a.length:Int)):=auz
   repeat first|refine cg ?_|simp -dsimp[h4,z6]
   refine ADraw.simple follows (by kernel_rfl) (by kernel_rfl) ?_
   obtain⟨x,e7,hF⟩:=ob hF
   have le7:=ZB e7
   obtain⟨x8,e9,hF⟩:=ob hF
   have le9:=ZB e9
   repeat first|refine cg ?_|simp -dsimp[h4,z6,↓e7,↓e9]
   revert hF;refine aS ?_ ?_<;>intro h10 q11 hF
   ·repeat first|refine cg ?_|simp -dsimp[h4,z6,↓e7,↓e9,h10]
    obtain⟨v,e12,hF⟩:=ob hF
    refine((C.f160 B hB1 hB2 x.path x8.path v e12)).pgoW (by simp[h4,z6,↓e7,↓e9,h10]) (by simp) ?_
    repeat first|refine cg ?_|simp -dsimp[h4,z6,↓e7,↓e9,h10]
    revert hF;refine aN (fun h13 q14 hF=> ?_) (fun h13 q14 hF=> ?_)
    ·cases hF
     repeat first|refine cg ?_|simp -dsimp[h4,z6,↓e7,↓e9,h10,h13,q14]
     refine lG _ (gR _) (hq _ ?_)
     repeat first|refine cg ?_|simp -dsimp[h4,z6,↓e7,↓e9,h10,h13,q14]
    ·have w15:i64.wrap ((i:Int)+1)=(i:Int)+1:=ZG (by omega) (by omega)
     repeat first|refine cg ?_|simp -dsimp[h4,z6,↓e7,↓e9,h10,h13,q14,w15]
     refine aG _ ?_ ((ih_f161 (i+1) o hF) _ rfl _ hq)
     exact(gT (by simp) (by simp -dsimp[h4,z6,↓e7,↓e9,h10,h13,q14,w15]))
   ·cases hF
    repeat first|refine cg ?_|simp -dsimp[h4,z6,↓e7,↓e9,h10,q11]
    refine lG _ (gR _) (hq _ ?_)
    repeat first|refine cg ?_|simp -dsimp[h4,z6,↓e7,↓e9,h10,q11]
  ·have z6:¬((i:Int)<(a.length:Int)):=auz
   cases hF
   repeat first|refine cg ?_|simp -dsimp[h4,q5,z6]
   refine lG _ (gT (by simp) (by simp -dsimp[h4,q5,z6])) hq
theorem C.f162 (a:List PathBind)(b:List PathBind)(r:Bool)(hF:F.f162 a b=some r):PureCall Tryz.prog B 53 [am PathBind.c a,am PathBind.c b] (.lit (.bool r)):=by
 unfold F.f162 at hF
 refine pE Tryz.func53 (by kernel_rfl) rfl Tryz.ntmps53 (by simp) (by simp) ?_
 repeat first|refine cg ?_|simp -dsimp
 revert hF;refine aN ?_ ?_<;>intro h1 q2 hF
 ·have z3:¬((a.length:Int)=(b.length:Int)):=auz
  cases hF
  repeat first|refine cg ?_|simp -dsimp[h1,q2,z3]
 ·have z3:((a.length:Int)=(b.length:Int)):=auz
  repeat first|refine cg ?_|simp -dsimp
  obtain⟨o',ho16,hF⟩:=ob hF
  refine ALoop.goU _ ?_ (((CC.f161 B hB1 hB2 a b) 0 o' ho16) _ rfl _ ?_)
  ·exact(gT (by simp) (by simp_all))
  rcases o' with r0|sx
  ·dsimp only at hF
   cases hF
   intro st h
   simpa using h
  ·dsimp only at hF
   cases hF
   repeat first|refine cg ?_|simp -dsimp
theorem CC.f163 (a:Vl.Node)(b:Vl.Node):(∀(i:Nat) (o:Lo Bool Unit),F.f163 a b i=some o->∀(c:Code),ZY [1,1,0,1,0,0] (ZK Tryz.f47)=some c->∀(Q:Exit->ASt->Prop),o.post (fun r=>∀st,ZAh Tryz.prog Tryz.f47 (fun r' _=>r'.le (.lit (.bool r))) .ret st->Q .ret st) (fun s=>Q (.exit 0) ⟨[],[]⟩)->ALoopU Tryz.prog B 0 68 (hold c .mk) ⟨[(2,.ptr 0 0),(3,.ptr 1 0),(5,li (i:Int))],[.cells [li a.op,li a.clause,am PathBind.c a.binds,am cI a.path,am Vl.Edge.c a.edges,li a.els],.cells [li b.op,li b.clause,am PathBind.c b.binds,am cI b.path,am Vl.Edge.c b.edges,li b.els]]⟩ (hold Q .mk)):=by
 refine F.f163.partial_correctness a b
  _
  ?_
 ·intro _f_f163 ih_f163 i o hF
  intro c hc Q hq
  obtain rfl:c=_:=ZM hc rfl
  refine kN fun hk hs=> ?_
  have d0:=hs 0 _ rfl
  simp -dsimp[Blk.bnd]at d0
  have d1:=hs 1 _ rfl
  simp -dsimp[Blk.bnd]at d1
  clear hk hs
  refine eN ?_
  repeat first|refine cg ?_|simp -dsimp
  revert hF;refine aS ?_ ?_<;>intro h17 q18 hF
  ·have z19:((i:Int)<(a.edges.length:Int)):=auz
   repeat first|refine cg ?_|simp -dsimp[h17,z19]
   refine ADraw.simple follows (by kernel_rfl) (by kernel_rfl) ?_
   obtain⟨x,e20,hF⟩:=ob hF
   have le20:=ZB e20
   obtain⟨x21,e22,hF⟩:=ob hF
   have le22:=ZB e22
   repeat first|refine cg ?_|simp -dsimp[↓e20,↓e22]
   revert hF;refine aN (fun h23 q24 hF=> ?_) (fun h23 q24 hF=> ?_)
   ·cases hF
    repeat first|refine cg ?_|simp -dsimp[h23,q24]
    refine lG _ (gR _) (hq _ ?_)
    repeat first|refine cg ?_|simp -dsimp
   ·have w25:i64.wrap ((i:Int)+1)=(i:Int)+1:=ZG (by omega) (by omega)
    repeat first|refine cg ?_|simp -dsimp[w25]
    refine aG _ ?_ ((ih_f163 (i+1) o hF) _ rfl _ hq)
    exact(gT (by simp) (by simp_all))
  ·have z19:¬((i:Int)<(a.edges.length:Int)):=auz
   cases hF
   repeat first|refine cg ?_|simp -dsimp[h17,q18,z19]
   refine lG _ (gT (by simp) (by simp_all)) hq
theorem C.f164 (a:Vl.Node)(b:Vl.Node)(r:Bool)(hF:F.f164 a b=some r):PureCall Tryz.prog B 47 [.agg [li a.op,li a.clause,am PathBind.c a.binds,am cI a.path,am Vl.Edge.c a.edges,li a.els],.agg [li b.op,li b.clause,am PathBind.c b.binds,am cI b.path,am Vl.Edge.c b.edges,li b.els]] (.lit (.bool r)):=by
 unfold F.f164 at hF
 refine pE Tryz.func47 (by kernel_rfl) rfl Tryz.ntmps47 (by simp) (by simp) ?_
 repeat first|refine cg ?_|simp -dsimp
 revert hF;refine aS ?_ ?_<;>intro h1 q2 hF
 ·repeat first|refine cg ?_|simp -dsimp[h1]
  revert hF;refine aS ?_ ?_<;>intro h3 q4 hF
  ·repeat first|refine cg ?_|simp -dsimp[h1,h3]
   revert hF;refine aS ?_ ?_<;>intro h5 q6 hF
   ·repeat first|refine cg ?_|simp -dsimp[h1,h3,h5]
    have hF:=ob hF;obtain⟨v,e7,hF⟩:=hF
    refine((C.f162 B hB1 hB2 a.binds b.binds v e7)).goW (by simp[h1,h3,h5]) (by simp) ?_
    repeat first|refine cg ?_|simp -dsimp[h1,h3,h5]
    revert hF;refine aS (fun h8 q9 hF=> ?_) (fun h8 q9 hF=> ?_)
    ·repeat first|refine cg ?_|simp -dsimp[h1,h3,h5,h8]
     have hF:=ob hF;obtain⟨v10,e11,hF⟩:=hF
     refine((C.f160 B hB1 hB2 a.path b.path v10 e11)).goW (by simp[h1,h3,h5,h8]) (by simp) ?_
     repeat first|refine cg ?_|simp -dsimp[h1,h3,h5,h8]
     revert hF;refine aS (fun h12 q13 hF=> ?_) (fun h12 q13 hF=> ?_)
     ·repeat first|refine cg ?_|simp -dsimp[h1,h3,h5,h8,h12]
      revert hF;refine aN ?_ ?_<;>intro h14 q15 hF
      ·have z16:¬((a.edges.length:Int)=(b.edges.length:Int)):=auz
       cases hF
       repeat first|refine cg ?_|simp -dsimp[h1,h3,h5,h8,h12,h14,q15,z16]
      ·have z16:((a.edges.length:Int)=(b.edges.length:Int)):=auz
       repeat first|refine cg ?_|simp -dsimp[h1,h3,h5,h8,h12,h14,q15,z16]
       have hF:=ob hF;obtain⟨o',ho26,hF⟩:=hF
       refine ALoop.goU _ ?_ (((CC.f163 B hB1 hB2 a b) 0 o' ho26) _ rfl _ ?_)
       ·exact(gT (by simp) (by simp -dsimp[h1,h3,h5,h8,h12,h14,q15,z16]))
       rcases o' with r0|sx
       ·dsimp only at hF
        cases hF
        intro st h
        simpa using h
       ·dsimp only at hF
        cases hF
        repeat first|refine cg ?_|simp -dsimp
     ·cases hF
      repeat first|refine cg ?_|simp -dsimp[h1,h3,h5,h8,h12,q13]
    ·cases hF
     repeat first|refine cg ?_|simp -dsimp[h1,h3,h5,h8,q9]
   ·cases hF
    repeat first|refine cg ?_|simp -dsimp[h1,h3,h5,q6]
  ·cases hF
   repeat first|refine cg ?_|simp -dsimp[h1,h3,q4]
 ·cases hF
  repeat first|refine cg ?_|simp -dsimp[h1,q2]
theorem CC.f165 (x:Tree)(v:List PathBind)(o':(List Vl.Edge)×(List Vl.Node))(v21:(List Vl.Node)×Int):(∀(i23:Nat) (o:Lo ((List Vl.Node)×Int) Unit),F.f165 x v o' v21 i23=some o->∀(c:Code),ZY [1,1,1,1,0,1,0,0] (ZK Tryz.f39)=some c->∀(Q:Exit->ASt->Prop),o.post (fun r=>∀st,ZGb Tryz.prog Tryz.f39 (hold (fun r' σ'=>r'.le (.tup [.own 0 (List.length (α:=Vl.Node) r.1),li r.2])/\ZEA σ' [.elems 6 (List.map Vl.Node.c r.1)]) .mk) .ret st->Q .ret st) (fun s=>Q (.exit 2) ⟨[(0,.own 0 (List.length (α:=Vl.Node) v21.1)),(6,.ptr 3 0)],[.elems 6 (List.map Vl.Node.c v21.1),.dead,.dead,.cells [li x.op,li x.clause,am PathBind.c v,am cI x.path,.own 4 (List.length (α:=Vl.Edge) o'.1),li v21.2],.elems 4 (List.map Vl.Edge.c o'.1)]⟩)->ALoopU Tryz.prog B 1 106 (hold c .mk) ⟨[(0,.own 0 (List.length (α:=Vl.Node) v21.1)),(6,.ptr 3 0),(12,li (i23:Int))],[.elems 6 (List.map Vl.Node.c v21.1),.dead,.dead,.cells [li x.op,li x.clause,am PathBind.c v,am cI x.path,.own 4 (List.length (α:=Vl.Edge) o'.1),li v21.2],.elems 4 (List.map Vl.Edge.c o'.1)]⟩ (hold Q .mk)):=by
 refine F.f165.partial_correctness x v o' v21
  _
  ?_
 ·intro _f_f165 ih_f165 i23 o hF
  intro c hc Q hq
  obtain rfl:c=_:=ZM hc rfl
  refine kN fun hk hs=> ?_
  have d0:=hs 0 _ rfl
  simp -dsimp[Blk.bnd]at d0
  have d3:=hs 3 _ rfl
  simp -dsimp[Blk.bnd]at d3
  have d4:=hs 4 _ rfl
  simp -dsimp[Blk.bnd]at d4
  clear hk hs
  refine eN ?_
  repeat first|refine cg ?_|simp -dsimp
  revert hF;refine aS ?_ ?_<;>intro h24 q25 hF
  ·have z26:((i23:Int)<(v21.1.length:Int)):=auz
   repeat first|refine cg ?_|simp -dsimp[h24,z26]
   refine ADraw.eff [47] [(0,0),(0,0),(0,0),(0,0),(0,0),(0,1)] [1,1,1,1,1,1] follows (by kernel_rfl) (by kernel_rfl) (by kernel_rfl) ?_
   obtain⟨x27,e28,hF⟩:=ob hF
   have le28:=ZB e28
   repeat first|refine cg ?_|simp -dsimp[↓e28]
   obtain⟨v29,e30,hF⟩:=ob hF
   refine((C.f164 B hB1 hB2 x27 (⟨x.op,x.clause,v,x.path,o'.1,v21.2⟩:Vl.Node) v29 e30)).elend (by simp_all) (by simp -dsimp) ?_
   repeat first|refine cg ?_|simp -dsimp
   revert hF;refine aS (fun h31 q32 hF=> ?_) (fun h31 q32 hF=> ?_)
   ·cases hF
    repeat first|refine cg ?_|simp -dsimp[h31]
    refine lG _ (gR _) (hq _ ?_)
    repeat first|refine cg ?_|simp -dsimp
   ·have w33:i64.wrap ((i23:Int)+1)=(i23:Int)+1:=ZG (by omega) (by omega)
    repeat first|refine cg ?_|simp -dsimp[q32,w33]
    refine aG _ ?_ ((ih_f165 (i23+1) o hF) _ rfl _ hq)
    exact(gT (by simp) (by simp_all))
  ·have z26:¬((i23:Int)<(v21.1.length:Int)):=auz
   cases hF
   repeat first|refine cg ?_|simp -dsimp[h24,q25,z26]
   refine lG _ (gT (by simp) (by simp_all)) hq
theorem CC.f166 (x:Tree)(v:List PathBind)(v3:Int)(o':(List Vl.Edge)×(List Vl.Node)):(∀(i37:Nat) (o:Lo ((List Vl.Node)×Int) Unit),F.f166 x v v3 o' i37=some o->∀(c:Code),ZY [1,1,1,1,0,1,0,0] (ZK Tryz.f39)=some c->∀(Q:Exit->ASt->Prop),o.post (fun r=>∀st,ZGb Tryz.prog Tryz.f39 (hold (fun r' σ'=>r'.le (.tup [.own 0 (List.length (α:=Vl.Node) r.1),li r.2])/\ZEA σ' [.elems 6 (List.map Vl.Node.c r.1)]) .mk) .ret st->Q .ret st) (fun s=>Q (.exit 2) ⟨[(0,.own 0 (List.length (α:=Vl.Node) o'.2)),(6,.ptr 3 0)],[.elems 6 (List.map Vl.Node.c o'.2),.dead,.dead,.cells [li x.op,li x.clause,am PathBind.c v,am cI x.path,.own 4 (List.length (α:=Vl.Edge) o'.1),li v3],.elems 4 (List.map Vl.Edge.c o'.1)]⟩)->ALoopU Tryz.prog B 1 106 (hold c .mk) ⟨[(0,.own 0 (List.length (α:=Vl.Node) o'.2)),(6,.ptr 3 0),(12,li (i37:Int))],[.elems 6 (List.map Vl.Node.c o'.2),.dead,.dead,.cells [li x.op,li x.clause,am PathBind.c v,am cI x.path,.own 4 (List.length (α:=Vl.Edge) o'.1),li v3],.elems 4 (List.map Vl.Edge.c o'.1)]⟩ (hold Q .mk)):=by
 refine F.f166.partial_correctness x v v3 o'
  _
  ?_
 ·intro _f_f166 ih_f166 i37 o hF
  intro c hc Q hq
  obtain rfl:c=_:=ZM hc rfl
  refine kN fun hk hs=> ?_
  have d0:=hs 0 _ rfl
  simp -dsimp[Blk.bnd]at d0
  have d3:=hs 3 _ rfl
  simp -dsimp[Blk.bnd]at d3
  have d4:=hs 4 _ rfl
  simp -dsimp[Blk.bnd]at d4
  clear hk hs
  refine eN ?_
  repeat first|refine cg ?_|simp -dsimp
  revert hF;refine aS ?_ ?_<;>intro h38 q39 hF
  ·have z40:((i37:Int)<(o'.2.length:Int)):=auz
   repeat first|refine cg ?_|simp -dsimp[h38,z40]
   refine ADraw.eff [47] [(0,0),(0,0),(0,0),(0,0),(0,0),(0,1)] [1,1,1,1,1,1] follows (by kernel_rfl) (by kernel_rfl) (by kernel_rfl) ?_
   obtain⟨x41,e42,hF⟩:=ob hF
   have le42:=ZB e42
   repeat first|refine cg ?_|simp -dsimp[↓e42]
   obtain⟨v43,e44,hF⟩:=ob hF
   refine((C.f164 B hB1 hB2 x41 (⟨x.op,x.clause,v,x.path,o'.1,v3⟩:Vl.Node) v43 e44)).elend (by simp_all) (by simp -dsimp) ?_
   repeat first|refine cg ?_|simp -dsimp
   revert hF;refine aS (fun h45 q46 hF=> ?_) (fun h45 q46 hF=> ?_)
   ·cases hF
    repeat first|refine cg ?_|simp -dsimp[h45]
    refine lG _ (gR _) (hq _ ?_)
    repeat first|refine cg ?_|simp -dsimp
   ·have w47:i64.wrap ((i37:Int)+1)=(i37:Int)+1:=ZG (by omega) (by omega)
    repeat first|refine cg ?_|simp -dsimp[q46,w47]
    refine aG _ ?_ ((ih_f166 (i37+1) o hF) _ rfl _ hq)
    exact(gT (by simp) (by simp_all))
  ·have z40:¬((i37:Int)<(o'.2.length:Int)):=auz
   cases hF
   repeat first|refine cg ?_|simp -dsimp[h38,q39,z40]
   refine lG _ (gT (by simp) (by simp_all)) hq
theorem CC.f167  :(∀(list:List Vl.Node) (x:Tree) (r:(List Vl.Node)×Int),F.f167 list x=some r->BCall Tryz.prog B 39 [.elems 6 (List.map Vl.Node.c list)] [.own 0 (List.length (α:=Vl.Node) list),.agg [li x.op,li x.clause,am PathBind.c x.binds,am cI x.path,am Branch.c x.branches,am Tree.c x.els]] (.tup [.own 0 (List.length (α:=Vl.Node) r.1),li r.2]) [.elems 6 (List.map Vl.Node.c r.1)])/\
  (∀(x:Tree) (v:List PathBind) (v3:Int) (out:List Vl.Edge) (list5:List Vl.Node) (i:Nat) (o:(List Vl.Edge)×(List Vl.Node)),F.f168 x v v3 out list5 i=some o->∀(c:Code),ZY [1,1,0,1,0,0] (ZK Tryz.f39)=some c->∀(Q:Exit->ASt->Prop),(Q (.exit 0) ⟨[(0,.own 0 (List.length (α:=Vl.Node) o.2)),(3,.ptr 1 0),(6,.ptr 3 0)],[.elems 6 (List.map Vl.Node.c o.2),.cells [li x.op,li x.clause,am PathBind.c x.binds,am cI x.path,am Branch.c x.branches,am Tree.c x.els],.dead,.cells [li x.op,li x.clause,am PathBind.c v,am cI x.path,.own 4 (List.length (α:=Vl.Edge) o.1),li v3],.elems 4 (List.map Vl.Edge.c o.1)]⟩)->ALoopU Tryz.prog B 1 106 (hold c .mk) ⟨[(0,.own 0 (List.length (α:=Vl.Node) list5)),(3,.ptr 1 0),(6,.ptr 3 0),(7,li (i:Int))],[.elems 6 (List.map Vl.Node.c list5),.cells [li x.op,li x.clause,am PathBind.c x.binds,am cI x.path,am Branch.c x.branches,am Tree.c x.els],.dead,.cells [li x.op,li x.clause,am PathBind.c v,am cI x.path,.own 4 (List.length (α:=Vl.Edge) out),li v3],.elems 4 (List.map Vl.Edge.c out)]⟩ (hold Q .mk)):=by
 refine F.f167.mutual_partial_correctness 
  _ _
  ?_ ?_
 ·intro _f_f167 _f_f168 ih_f167 ih_f168 list x r hF
  refine BCall.enter Tryz.func39 (by kernel_rfl) rfl Tryz.ntmps39 (by simp) rfl (by simp) (by simp) (by simp) (by simp) (by simp) (gR _) ?_
  repeat first|refine cg ?_|simp -dsimp
  refine ADraw.effL [(7,13),(10,13),(12,13)] 13 [1000059] [(0,2),(0,2),(0,2),(0,2),(0,1),(0,1),(0,5),(0,5),(0,1),(0,1),(0,5),(0,5),(0,5),(0,5),(0,5)] [0,2,0,2,0,2,1,1,0,2,1,1,1,1,1] follows (by kernel_rfl) (by kernel_rfl) (by kernel_rfl) (by kernel_rfl) (by intro d hd;cases hd;rfl) ?_
  repeat first|refine cg ?_|simp -dsimp
  obtain⟨v,e1,hF⟩:=ob hF
  refine((C.f157 B hB1 hB2 x.binds v e1)).pgoW (by simp) (by simp) ?_
  obtain⟨c2,hF⟩:=oc hF
  repeat first|refine cg ?_|simp -dsimp
  obtain⟨v3,e4,hF⟩:=ob hF
  refine((C.f158 B hB1 hB2 v3 e4)).pgoW (by simp) (by simp) ?_
  repeat first|refine cg ?_|simp -dsimp
  obtain⟨o',ho15,hF⟩:=ob hF
  refine ALoop.goU ⟨[(0,.own 0 (List.length (α:=Vl.Node) list)),(3,.ptr 1 0),(6,.ptr 3 0),(7,.lit (.int .i64 0))],[.elems 6 (List.map Vl.Node.c list),.cells [.lit (.int .i64 x.op),.lit (.int .i64 x.clause),.arr (List.map PathBind.c x.binds),.arr (List.map cI x.path),.arr (List.map Branch.c x.branches),.arr (List.map Tree.c x.els)],.dead,.cells [.lit (.int .i64 x.op),.lit (.int .i64 x.clause),.arr (List.map PathBind.c v),.arr (List.map cI x.path),.own 4 (List.length (α:=Vl.Edge) []),.lit (.int .i64 v3)],.elems 4 (List.map Vl.Edge.c [])]⟩ (by refine Gh.trans (Gh.nilCell 3 4 4 (by simp -dsimp;rfl) (by simp -dsimp)) ?_;exact(gT (by simp) (by simp -dsimp))) ?_
  refine(ih_f168 x v v3 [] list 0 o' ho15) _ rfl _ ?_
  repeat first|refine cg ?_|simp -dsimp
  revert hF;refine aS ?_ ?_<;>intro h16 q17 hF
  ·have z18:(0<(x.els.length:Int)):=auz
   obtain⟨x19,e20,hF⟩:=ob hF
   have le20:=ZB e20
   repeat first|refine cg ?_|simp -dsimp[h16,z18,↓e20]
   obtain⟨v21,e22,hF⟩:=ob hF
   refine((ih_f167 o'.2 x19 v21 e22)).go (pl [0]) (by simp) (by simp) (ZAi _ rfl (by decide)) (by intro i hi hi';simp at hi hi';first|omega|(subst hi';simp[pl])) (by simp_all) (by simp_all) ?_
   repeat first|refine cg ?_|simp -dsimp[↓e20]
   obtain⟨o'35,ho34,hF⟩:=ob hF
   refine ALoop.goU _ ?_ (((CC.f165 B hB1 hB2 x v o' v21) 0 o'35 ho34) _ rfl _ ?_)
   ·exact(gT (by simp) (by simp_all))
   rcases o'35 with r0|sx
   ·dsimp only at hF
    cases hF
    intro st h
    simpa using h
   ·dsimp only at hF
    obtain⟨c36,hF⟩:=oc hF
    cases hF
    repeat first|refine cg ?_|simp -dsimp
  ·have z18:¬(0<(x.els.length:Int)):=auz
   repeat first|refine cg ?_|simp -dsimp[h16,q17,z18]
   obtain⟨o'49,ho48,hF⟩:=ob hF
   refine ALoop.goU _ ?_ (((CC.f166 B hB1 hB2 x v v3 o') 0 o'49 ho48) _ rfl _ ?_)
   ·exact(gT (by simp) (by simp_all))
   rcases o'49 with r052|sx50
   ·dsimp only at hF
    cases hF
    intro st h
    simpa using h
   ·dsimp only at hF
    obtain⟨c51,hF⟩:=oc hF
    cases hF
    repeat first|refine cg ?_|simp -dsimp
 ·intro _f_f167 _f_f168 ih_f167 ih_f168 x v v3 out list5 i o hF
  intro c hc Q hq
  obtain rfl:c=_:=ZM hc rfl
  refine kN fun hk hs=> ?_
  have d0:=hs 0 _ rfl
  simp -dsimp[Blk.bnd]at d0
  have d1:=hs 1 _ rfl
  simp -dsimp[Blk.bnd]at d1
  have d3:=hs 3 _ rfl
  simp -dsimp[Blk.bnd]at d3
  have d4:=hs 4 _ rfl
  simp -dsimp[Blk.bnd]at d4
  clear hk hs
  refine eN ?_
  repeat first|refine cg ?_|simp -dsimp
  revert hF;refine aS ?_ ?_<;>intro h6 q7 hF
  ·have z8:((i:Int)<(x.branches.length:Int)):=auz
   obtain⟨x9,e10,hF⟩:=ob hF
   have le10:=ZB e10
   repeat first|refine cg ?_|simp -dsimp[h6,z8,↓e10]
   obtain⟨v11,e12,hF⟩:=ob hF
   refine((ih_f167 list5 x9.tree v11 e12)).go (pl [0]) (by simp) (by simp) (ZAi _ rfl (by decide)) (by intro i hi hi';simp at hi hi';first|omega|(subst hi';simp[pl])) (by simp_all) (by simp_all) ?_
   repeat first|refine cg ?_|simp -dsimp[↓e10]
   refine ADraw.eff [] [(0,1),(0,1),(0,0),(0,0),(0,0),(0,0),(0,0),(0,0),(0,0),(0,0),(0,0),(0,0),(0,0),(0,0),(0,0),(0,0),(0,0),(0,0),(0,0),(0,0),(0,0),(0,0),(0,3),(0,3),(2,2),(0,3)] [0,2,1,1,1,1,1,1,1,1,1,1,1,1,1,1,1,1,1,1,1,1,1,1,1,1] follows (by kernel_rfl) (by kernel_rfl) (by kernel_rfl) ?_
   obtain⟨c13,hF⟩:=oc hF
   have w14:i64.wrap ((i:Int)+1)=(i:Int)+1:=ZG (by omega) (by omega)
   repeat first|refine cg ?_|simp -dsimp[↓e10,w14]
   refine aG _ ?_ ((ih_f168 x v v3 (out++[(⟨x9.ctor,x9.n,x9.m,v11.2⟩:Vl.Edge)]) v11.1 (i+1) o hF) _ rfl _ hq)
   exact(gT (by simp) (by simp_all))
  ·have z8:¬((i:Int)<(x.branches.length:Int)):=auz
   cases hF
   repeat first|refine cg ?_|simp -dsimp[h6,q7,z8]
   refine lG _ (gT (by simp) (by simp_all)) hq
theorem C.f169 (x:Tree)(r:(List Vl.Node)×Bool)(hF:F.f169 x=some r):PureCall Tryz.prog B 21 [.agg [li x.op,li x.clause,am PathBind.c x.binds,am cI x.path,am Branch.c x.branches,am Tree.c x.els]] (.tup [am Vl.Node.c r.1,.lit (.bool r.2)]):=by
 unfold F.f169 at hF
 refine pE Tryz.func21 (by kernel_rfl) rfl Tryz.ntmps21 (by simp) (by simp) ?_
 repeat first|refine cg ?_|simp -dsimp
 obtain⟨v,e1,hF⟩:=ob hF
 refine(((CC.f151 B hB1 hB2).1 x 300 v e1)).goW (by simp) (by simp) ?_
 repeat first|refine cg ?_|simp -dsimp
 revert hF;refine aN ?_ ?_<;>intro h2 q3 hF
 ·repeat first|refine cg ?_|simp -dsimp[h2,q3]
  obtain⟨v4,e5,hF⟩:=ob hF
  refine(((CC.f154 B hB1 hB2).1 x v4 e5)).goW (by simp[h2,q3]) (by simp) ?_
  repeat first|refine cg ?_|simp -dsimp[h2,q3]
  revert hF;refine aN (fun h6 q7 hF=> ?_) (fun h6 q7 hF=> ?_)
  ·cases hF
   repeat first|refine cg ?_|simp -dsimp[h2,q3,h6,q7]
  ·repeat first|refine cg ?_|simp -dsimp[h2,q3,h6,q7]
   obtain⟨v8,e9,hF⟩:=ob hF
   refine ACall.nilArg 0 6 (by simp) ?_
   repeat first|refine cg ?_|simp -dsimp[h2,q3,h6,q7]
   refine(((CC.f167 B hB1 hB2).1 [] x v8 e9)).go (pl [1]) (by simp) (by simp) (ZAi _ rfl (by decide)) (by intro i hi hi';simp at hi hi';first|omega|(subst hi';simp[pl])) (by simp[h2,q3,h6,q7]) (by simp[h2,q3,h6,q7]) ?_
   cases hF
   repeat first|refine cg ?_|simp -dsimp[h2,q3,h6,q7]
 ·cases hF
  repeat first|refine cg ?_|simp -dsimp[h2,q3]
end Go.Proofs.YtnmbhmbljbhonaaGreat
