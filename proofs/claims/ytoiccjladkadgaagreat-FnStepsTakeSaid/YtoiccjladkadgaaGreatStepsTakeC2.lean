/- A part of the proof. -/
import Derived.Test.YtoiccjladkadgaaGreatProg
import Derived.Test.YtoiccjladkadgaaGreatStepsTakeF
import Derived.Test.YtoiccjladkadgaaGreatStepsTakeC1
import Derived.Test.YtoiccjladkadgaaGreatVlSort
import Derived.Test.YtoiccjladkadgaaGreatShelf
namespace Go.Proofs.YtoiccjladkadgaaGreat
open Go Go.Proofs Go.Vl
open abr renaming sp->aS,ns->aN
open Leave renaming go->lG
open Again renaming go->aG
open ALoopU renaming know->kN,enter->eN
open Gh renaming to3->gT,refl->gR
open PureCall renaming enterLe->pE
open Go.IntKind (i64)
set_option linter.all false
set_option maxRecDepth 100000
set_option maxHeartbeats 4000000
set_option synthInstance.maxSize 100000
set_option synthInstance.maxHeartbeats 4000000
attribute [local irreducible] GhK ECallA ZHe aL aLg AMake MLoop AgainM LeaveM ZBV ZA5 MutCall BCall chk abr ACall ALoop ALoopU ADraw Again Leave ZDj PCall ZAf awp ZGy PureCall hold
variable (B : Nat) (hB1 : 67108864 <= B) (hB2 : B <= 9223372036854775807)
include hB1 hB2
theorem C.spec_l4Typed__o2 (r':ZA)(r:(List Vl.Data)×Ty×(List Clause)×Vl.Value×ZA)(hF:F.f91 r'=some r):BCall Tryz.prog B 97 [.cells [am cU r'.f0,li r'.f1]] [.ptr 0 0] (.tup [am Vl.Data.c r.1,.agg [li r.2.1.data,li r.2.1.index],.own 1 (List.length (α:=Clause) r.2.2.1),.agg [li r.2.2.2.1.ctor,li r.2.2.2.1.n,am Vl.Value.c r.2.2.2.1.kids]]) [.cells [am cU r.2.2.2.2.f0,li r.2.2.2.2.f1],.elems 9 (List.map Clause.c r.2.2.1)]:=by
 unfold F.f91 at hF
 refine BCall.enterS (τ1:=[.cells [.arr (List.map cU r.2.2.2.2.f0),.lit (.int .i64 r.2.2.2.2.f1)]]) (ys:=[.arr (List.map Vl.Data.c r.1),.agg [.lit (.int .i64 r.2.1.data),.lit (.int .i64 r.2.1.index)],.own 1 (List.length (α:=Clause) r.2.2.1),.agg [.lit (.int .i64 r.2.2.2.1.ctor),.lit (.int .i64 r.2.2.2.1.n),.arr (List.map Vl.Value.c r.2.2.2.1.kids)]]) (news:=[(9,List.map Clause.c r.2.2.1)]) Tryz.func97 (by kernel_rfl) rfl Tryz.ntmps97 (by simp) rfl rfl (by simp) (by simp) (by simp) (by simp) (by simp) (by simp) (gR _) ?_
 repeat first|refine cg ?_|simp -dsimp
 have hF:=ob hF;obtain⟨v,e1,hF⟩:=hF
 refine((C.f58 B hB1 hB2 r' v e1)).go 0 rfl (by simp) (by simp) (by simp) ?_
 repeat first|refine cg ?_|simp -dsimp
 refine ADraw.eff [135] [(0,1),(0,1),(0,0),(0,0),(0,0),(0,3),(0,2),(1,1),(0,3),(2,2),(0,3)] [1,2,1,1,1,1,2,1,1,1,1] follows (by kernel_rfl) (by kernel_rfl) (by kernel_rfl) ?_
 repeat first|refine cg ?_|simp -dsimp
 have hF:=ob hF;obtain⟨v2,e3,hF⟩:=hF
 refine((C.spec_l4List__o0 B hB1 hB2 v.2.2.2 v.1 v.2.1 v2 e3)).ego (pl [0,5]) (by simp) (by simp) (ZB9 _ (by simp) (by decide)) (by intro i hi hi';simp at hi hi';have hi:i=1:=(by omega);rcases hi with rfl<;>simp[pl]) (by simp) (by simp) ?_
 cases hF
 repeat first|refine cg ?_|simp -dsimp
 all_goals(try first|omega|rfl|(simp;done)|(simp only[List.length_cons,List.length_nil]at*;omega)|simp)
theorem C.f92  (r:Pattern)(hF:F.f92=some r):PureCall Tryz.prog B 83 [] (.agg [li r.op,li r.ctor,li r.n,li r.m,li r.var,am Pattern.c r.kids]):=by
 unfold F.f92 at hF
 refine pE Tryz.func83 (by kernel_rfl) rfl Tryz.ntmps83 (by simp) (by simp) ?_
 cases hF
 repeat first|refine cg ?_|simp -dsimp
theorem C.f93 (r':ZA)(p:Pattern)(r:Pattern×ZA)(hF:F.f93 r' p=some r):MutCall Tryz.prog B 35 [am cU r'.f0,li r'.f1] [.ptr 0 0,.agg [li p.op,li p.ctor,li p.n,li p.m,li p.var,am Pattern.c p.kids]] (.agg [li r.1.op,li r.1.ctor,li r.1.n,li r.1.m,li r.1.var,am Pattern.c r.1.kids]) [am cU r.2.f0,li r.2.f1]:=by
 unfold F.f93 at hF
 refine MutCall.enter Tryz.func35 (by kernel_rfl) rfl Tryz.ntmps35 (by simp) (by simp) (by simp) (by simp) ?_
 have hF:=oc hF;obtain⟨c1,hF⟩:=hF
 repeat first|refine cg ?_|simp -dsimp
 have hF:=ob hF;obtain⟨v,e2,hF⟩:=hF
 refine((C.f1 B hB1 hB2 r' 30 v e2)).go 0 rfl (by simp) (by simp) (by simp) ?_
 repeat first|refine cg ?_|simp -dsimp
 revert hF;refine aS ?_ ?_<;>intro h3 q4 hF
 ·repeat first|refine cg ?_|simp -dsimp[h3]
  have hF:=ob hF;obtain⟨v5,e6,hF⟩:=hF
  refine ACall.frz ?_ ((C.f54 B hB1 hB2 v.2 [0,7,1,2,5] v5 e6)).ent
  repeat first|refine cg ?_|simp -dsimp
  refine((C.f54 B hB1 hB2 v.2 [0,7,1,2,5] v5 e6)).go 0 rfl (by simp_all) (by simp) (by simp_all) ?_
  cases hF
  repeat first|refine cg ?_|simp -dsimp
 ·repeat first|refine cg ?_|simp -dsimp[q4]
  revert hF;refine aS ?_ ?_<;>intro h7 q8 hF
  ·repeat first|refine cg ?_|simp -dsimp[h7]
   have hF:=ob hF;obtain⟨v9,e10,hF⟩:=hF
   refine ACall.frz ?_ ((C.f54 B hB1 hB2 v.2 [6,(-1),1] v9 e10)).ent
   repeat first|refine cg ?_|simp -dsimp
   refine((C.f54 B hB1 hB2 v.2 [6,(-1),1] v9 e10)).go 0 rfl (by simp_all) (by simp) (by simp_all) ?_
   cases hF
   repeat first|refine cg ?_|simp -dsimp
  ·repeat first|refine cg ?_|simp -dsimp[q8]
   revert hF;refine aS ?_ ?_<;>intro h11 q12 hF
   ·repeat first|refine cg ?_|simp -dsimp[h11]
    have hF:=ob hF;obtain⟨v13,e14,hF⟩:=hF
    refine ACall.frz ?_ ((C.f54 B hB1 hB2 v.2 [9,(-1),1] v13 e14)).ent
    repeat first|refine cg ?_|simp -dsimp
    refine((C.f54 B hB1 hB2 v.2 [9,(-1),1] v13 e14)).go 0 rfl (by simp_all) (by simp) (by simp_all) ?_
    cases hF
    repeat first|refine cg ?_|simp -dsimp
   ·repeat first|refine cg ?_|simp -dsimp[q12]
    revert hF;refine aS ?_ ?_<;>intro h15 q16 hF
    ·have hF:=oc hF;obtain⟨c17,hF⟩:=hF
     cases hF
     repeat first|refine cg ?_|simp -dsimp[h15]
    ·repeat first|refine cg ?_|simp -dsimp[q16]
     revert hF;refine aS ?_ ?_<;>intro h18 q19 hF
     ·repeat first|refine cg ?_|simp -dsimp[h18]
      revert hF;refine aS ?_ ?_<;>intro h20 q21 hF
      ·have z22:(0<(p.kids.length:Int)):=auz
       have hF:=ob hF;obtain⟨x,e23,hF⟩:=hF
       have le23:=ZD e23
       cases hF
       repeat first|refine cg ?_|simp -dsimp[h20,z22,↓e23]
      ·have z22:¬(0<(p.kids.length:Int)):=auz
       cases hF
       repeat first|refine cg ?_|simp -dsimp[h20,q21,z22]
     ·repeat first|refine cg ?_|simp -dsimp[q19]
      revert hF;refine aS ?_ ?_<;>intro h24 q25 hF
      ·repeat first|refine cg ?_|simp -dsimp[h24]
       have hF:=ob hF;obtain⟨v26,e27,hF⟩:=hF
       refine ACall.frz ?_ ((C.f54 B hB1 hB2 v.2 [10,(-1),5] v26 e27)).ent
       repeat first|refine cg ?_|simp -dsimp
       refine((C.f54 B hB1 hB2 v.2 [10,(-1),5] v26 e27)).go 0 rfl (by simp_all) (by simp) (by simp_all) ?_
       cases hF
       repeat first|refine cg ?_|simp -dsimp
      ·cases hF
       repeat first|refine cg ?_|simp -dsimp[q25]
theorem CC.spec_l4Mutate__o0_l1 (v:Int×ZA):(∀(out:List Clause) (o:List Clause),F.f94 v out=some o->∀(c:Code),ZY [1,1,0,1,0,1,1,1,1,1,0,0,0] (ZJ Tryz.f98)=some c->∀(Q:Exit->ASt->Prop),(Q (.exit 1) ⟨[(5,.own 1 (List.length (α:=Clause) o))],[.cells [am cU v.2.f0,li v.2.f1],.elems 9 (List.map Clause.c o)]⟩)->ALoopU Tryz.prog B 1 56 (hold c .mk) ⟨[(5,.own 1 (List.length (α:=Clause) out))],[.cells [am cU v.2.f0,li v.2.f1],.elems 9 (List.map Clause.c out)]⟩ (hold Q .mk)):=by
 refine F.f94.partial_correctness v
  _
  ?_
 ·intro _f_spec_l4Mutate__o0_l1 ih_spec_l4Mutate__o0_l1 out o hF
  intro c hc Q hq
  obtain rfl:c=_:=ZK hc rfl
  refine kN fun hk hs=> ?_
  have d0:=hs 0 _ rfl
  simp -dsimp[Blk.bnd]at d0
  have d1:=hs 1 _ rfl
  simp -dsimp[Blk.bnd]at d1
  clear hk hs
  refine eN ?_
  repeat first|refine cg ?_|simp -dsimp
  revert hF;refine aS ?_ ?_<;>intro h28 q29 hF
  ·have z30:((out.length:Int)<=8):=auz
   have hF:=oc hF;obtain⟨c31,hF⟩:=hF
   repeat first|refine cg ?_|simp -dsimp[h28,z30]
   refine aG _ ?_ ((ih_spec_l4Mutate__o0_l1 (out++[(⟨(⟨1,0,0,0,0,[]⟩:Pattern),(⟨0,0,0⟩:Guard)⟩:Clause)]) o hF) _ rfl _ hq)
   exact(gT (by simp) (by simp_all))
  ·have z30:¬((out.length:Int)<=8):=auz
   cases hF
   repeat first|refine cg ?_|simp -dsimp[h28,q29,z30]
   refine lG _ (gT (by simp) (by simp_all)) hq
theorem C.spec_l4Mutate__o0 (r':ZA)(list:List Clause)(r:(List Clause)×ZA)(hF:F.f95 r' list=some r):BCall Tryz.prog B 98 [.cells [am cU r'.f0,li r'.f1]] [.ptr 0 0,am Clause.c list] (.own 1 (List.length (α:=Clause) r.1)) [.cells [am cU r.2.f0,li r.2.f1],.elems 9 (List.map Clause.c r.1)]:=by
 unfold F.f95 at hF
 refine BCall.enterS (τ1:=[.cells [.arr (List.map cU r.2.f0),.lit (.int .i64 r.2.f1)]]) (ys:=[.own 1 (List.length (α:=Clause) r.1)]) (news:=[(9,List.map Clause.c r.1)]) Tryz.func98 (by kernel_rfl) rfl Tryz.ntmps98 (by simp) rfl rfl (by simp) (by simp) (by simp) (by simp) (by simp) (by simp) (gR _) ?_
 have hF:=oc hF;obtain⟨c1,hF⟩:=hF
 repeat first|refine cg ?_|simp -dsimp
 have hF:=ob hF;obtain⟨v,e2,hF⟩:=hF
 refine((C.f1 B hB1 hB2 r' 24 v e2)).go 0 rfl (by simp) (by simp) (by simp) ?_
 repeat first|refine cg ?_|simp -dsimp
 revert hF;refine aS ?_ ?_<;>intro h3 q4 hF
 ·repeat first|refine cg ?_|simp -dsimp[h3]
  revert hF;refine aS ?_ ?_<;>intro h5 q6 hF
  ·have z7:(0<(list.length:Int)):=auz
   repeat first|refine cg ?_|simp -dsimp[h5,z7]
   have hF:=ob hF;obtain⟨v8,e9,hF⟩:=hF
   refine ACall.frz ?_ ((C.f54 B hB1 hB2 v.2 [1,2,3,(-1)] v8 e9)).ent
   repeat first|refine cg ?_|simp -dsimp
   refine((C.f54 B hB1 hB2 v.2 [1,2,3,(-1)] v8 e9)).go 0 rfl (by simp_all) (by simp) (by simp_all) ?_
   repeat first|refine cg ?_|simp -dsimp
   have hF:=ob hF;obtain⟨v10,e11,hF⟩:=hF
   refine ACall.frz ?_ ((C.f54 B hB1 hB2 v8.2 [0,5,9] v10 e11)).ent
   repeat first|refine cg ?_|simp -dsimp
   refine((C.f54 B hB1 hB2 v8.2 [0,5,9] v10 e11)).go 0 rfl (by simp_all) (by simp) (by simp_all) ?_
   repeat first|refine cg ?_|simp -dsimp
   have hF:=ob hF;obtain⟨v12,e13,hF⟩:=hF
   refine ACall.frz ?_ ((C.f54 B hB1 hB2 v10.2 [3,10,(-1)] v12 e13)).ent
   repeat first|refine cg ?_|simp -dsimp
   refine((C.f54 B hB1 hB2 v10.2 [3,10,(-1)] v12 e13)).go 0 rfl (by simp_all) (by simp) (by simp_all) ?_
   have hF:=ob hF;obtain⟨x,e14,hF⟩:=hF
   have le14:=ZD e14
   cases hF
   repeat first|refine cg ?_|simp -dsimp[↓e14]
   all_goals(try first|omega|rfl|(simp;done)|(simp only[List.length_cons,List.length_nil]at*;omega)|simp)
  ·have z7:¬(0<(list.length:Int)):=auz
   cases hF
   repeat first|refine cg ?_|simp -dsimp[h5,q6,z7]
   all_goals(try first|omega|rfl|(simp;done)|(simp only[List.length_cons,List.length_nil]at*;omega)|simp)
 ·repeat first|refine cg ?_|simp -dsimp[q4]
  revert hF;refine aS ?_ ?_<;>intro h15 q16 hF
  ·repeat first|refine cg ?_|simp -dsimp[h15]
   revert hF;refine aS ?_ ?_<;>intro h17 q18 hF
   ·have z19:(0<(list.length:Int)):=auz
    have hF:=ob hF;obtain⟨x20,e21,hF⟩:=hF
    have le21:=ZD e21
    repeat first|refine cg ?_|simp -dsimp[h17,z19,↓e21]
    have hF:=ob hF;obtain⟨v22,e23,hF⟩:=hF
    refine((C.f93 B hB1 hB2 v.2 x20.pat v22 e23)).go 0 rfl (by simp_all) (by simp) (by simp_all) ?_
    repeat first|refine cg ?_|simp -dsimp[↓e21]
    have hF:=ob hF;obtain⟨v24,e25,hF⟩:=hF
    refine((C.f93 B hB1 hB2 v22.2 v22.1 v24 e25)).go 0 rfl (by simp_all) (by simp) (by simp_all) ?_
    cases hF
    repeat first|refine cg ?_|simp -dsimp[↓e21]
    all_goals(try first|omega|rfl|(simp;done)|(simp only[List.length_cons,List.length_nil]at*;omega)|simp)
   ·have z19:¬(0<(list.length:Int)):=auz
    cases hF
    repeat first|refine cg ?_|simp -dsimp[h17,q18,z19]
    all_goals(try first|omega|rfl|(simp;done)|(simp only[List.length_cons,List.length_nil]at*;omega)|simp)
  ·repeat first|refine cg ?_|simp -dsimp[q16]
   revert hF;refine aS ?_ ?_<;>intro h26 q27 hF
   ·repeat first|refine cg ?_|simp -dsimp[h26]
    have hF:=ob hF;obtain⟨o',ho32,hF⟩:=hF
    refine ALoop.goU _ ?_ (((CC.spec_l4Mutate__o0_l1 B hB1 hB2 v) list o' ho32) _ rfl _ ?_)
    ·exact(gT (by simp) (by simp_all))
    cases hF
    repeat first|refine cg ?_|simp -dsimp
    all_goals(try first|omega|rfl|(simp;done)|(simp only[List.length_cons,List.length_nil]at*;omega)|simp)
   ·cases hF
    repeat first|refine cg ?_|simp -dsimp[q27]
    all_goals(try first|omega|rfl|(simp;done)|(simp only[List.length_cons,List.length_nil]at*;omega)|simp)
theorem C.spec_DrawMissingPatterns__o2 (code:List Int)(r:(List Vl.Data)×Ty×(List Clause))(hF:F.f96 code=some r):BCall Tryz.prog B 51 [] [am cU code] (.tup [am Vl.Data.c r.1,.agg [li r.2.1.data,li r.2.1.index],.own 0 (List.length (α:=Clause) r.2.2)]) [.elems 9 (List.map Clause.c r.2.2)]:=by
 unfold F.f96 at hF
 refine BCall.enterS (τ1:=[]) (ys:=[.arr (List.map Vl.Data.c r.1),.agg [.lit (.int .i64 r.2.1.data),.lit (.int .i64 r.2.1.index)],.own 0 (List.length (α:=Clause) r.2.2)]) (news:=[(9,List.map Clause.c r.2.2)]) Tryz.func51 (by kernel_rfl) rfl Tryz.ntmps51 (by simp) rfl rfl (by simp) (by simp) (by simp) (by simp) (by simp) (by simp) (gR _) ?_
 repeat first|refine cg ?_|simp -dsimp
 refine ACall.inl Tryz.func30 (by kernel_rfl) rfl Tryz.ntmps30 (by simp) ?_
 repeat first|refine cg ?_|simp -dsimp
 revert hF;refine aS ?_ ?_<;>intro h1 q2 hF
 ·have z3:(2000<(code.length:Int)):=auz
  have hF:=oc hF;obtain⟨c4,hF⟩:=hF
  repeat first|refine cg ?_|simp -dsimp[h1,z3]
  have hF:=ob hF;obtain⟨v,e5,hF⟩:=hF
  refine((C.spec_l4Typed__o2 B hB1 hB2 (⟨(code.drop 0).take (2000-0),0⟩:ZA) v e5)).go (pl [1,2]) (by simp) (by simp) (ZB9 _ (by simp) (by decide)) (by intro i hi hi';simp at hi hi';have hi:i=1:=(by omega);rcases hi with rfl<;>simp[pl]) (by simp[h1,z3]) (by simp[h1,z3]) ?_
  repeat first|refine cg ?_|simp -dsimp[h1,z3]
  revert hF;refine aS ?_ ?_<;>intro h6 q7 hF
  ·have z8:(0<(v.2.2.1.length:Int)):=auz
   repeat first|refine cg ?_|simp -dsimp[h1,z3,h6,z8]
   have hF:=ob hF;obtain⟨v9,e10,hF⟩:=hF
   refine((C.f1 B hB1 hB2 v.2.2.2.2 4 v9 e10)).go 1 rfl (by simp[h1,z3,h6,z8]) (by simp) (by simp[h1,z3,h6,z8]) ?_
   repeat first|refine cg ?_|simp -dsimp[h1,z3,h6,z8]
   revert hF;refine aS ?_ ?_<;>intro h11 q12 hF
   ·repeat first|refine cg ?_|simp -dsimp[h1,z3,h6,z8,h11]
    have hF:=ob hF;obtain⟨v13,e14,hF⟩:=hF
    refine((C.f92 B hB1 hB2 v13 e14)).goW (by simp[h1,z3,h6,z8,h11]) (by simp) ?_
    have hF:=oc hF;obtain⟨c15,hF⟩:=hF
    repeat first|refine cg ?_|simp -dsimp[h1,z3,h6,z8,h11]
    refine ADraw.gh (Gh.frzSlot 8 (l:=2) (n:=List.length (α:=Clause) (v.2.2.1++[(⟨v13,(⟨0,0,0⟩:Guard)⟩:Clause)])) (sz:=9) (es:=List.map Clause.c (v.2.2.1++[(⟨v13,(⟨0,0,0⟩:Guard)⟩:Clause)])) (by simp) (by simp) (by simp) (by simp)) ?_
    repeat first|refine cg ?_|simp -dsimp[h1,z3,h6,z8,h11]
    refine ADraw.eff [98] [(0,1),(0,1),(0,0),(0,0),(0,2),(1,1),(0,2),(2,2)] [1,2,1,1,1,1,1,1] follows (by kernel_rfl) (by kernel_rfl) (by kernel_rfl) ?_
    repeat first|refine cg ?_|simp -dsimp[h1,z3,h6,z8,h11]
    have hF:=ob hF;obtain⟨v16,e17,hF⟩:=hF
    refine((C.spec_l4Mutate__o0 B hB1 hB2 v9.2 (v.2.2.1++[(⟨v13,(⟨0,0,0⟩:Guard)⟩:Clause)]) v16 e17)).ego (pl [1,6]) (by simp) (by simp) (ZB9 _ (by simp) (by decide)) (by intro i hi hi';simp at hi hi';have hi:i=1:=(by omega);rcases hi with rfl<;>simp[pl]) (by simp[h1,z3,h6,z8,h11]) (by simp[h1,z3,h6,z8,h11]) ?_
    cases hF
    repeat first|refine cg ?_|simp -dsimp[h1,z3,h6,z8,h11]
    all_goals(try first|omega|rfl|(simp;done)|(simp only[List.length_cons,List.length_nil]at*;omega)|simp)
   ·repeat first|refine cg ?_|simp -dsimp[h1,z3,h6,z8,h11,q12]
    refine ADraw.gh (Gh.frzSlot 8 (l:=2) (n:=List.length (α:=Clause) v.2.2.1) (sz:=9) (es:=List.map Clause.c v.2.2.1) (by simp) (by simp) (by simp) (by simp)) ?_
    repeat first|refine cg ?_|simp -dsimp[h1,z3,h6,z8,h11,q12]
    refine ADraw.eff [98] [(0,1),(0,1),(0,0),(0,0),(0,2),(1,1),(0,2),(2,2)] [1,2,1,1,1,1,1,1] follows (by kernel_rfl) (by kernel_rfl) (by kernel_rfl) ?_
    repeat first|refine cg ?_|simp -dsimp[h1,z3,h6,z8,h11,q12]
    have hF:=ob hF;obtain⟨v18,e19,hF⟩:=hF
    refine((C.spec_l4Mutate__o0 B hB1 hB2 v9.2 v.2.2.1 v18 e19)).ego (pl [1,5]) (by simp) (by simp) (ZB9 _ (by simp) (by decide)) (by intro i hi hi';simp at hi hi';have hi:i=1:=(by omega);rcases hi with rfl<;>simp[pl]) (by simp[h1,z3,h6,z8,h11,q12]) (by simp[h1,z3,h6,z8,h11,q12]) ?_
    cases hF
    repeat first|refine cg ?_|simp -dsimp[h1,z3,h6,z8,h11,q12]
    all_goals(try first|omega|rfl|(simp;done)|(simp only[List.length_cons,List.length_nil]at*;omega)|simp)
  ·have z8:¬(0<(v.2.2.1.length:Int)):=auz
   repeat first|refine cg ?_|simp -dsimp[h1,z3,h6,q7,z8]
   refine ADraw.gh (Gh.frzSlot 8 (l:=2) (n:=List.length (α:=Clause) v.2.2.1) (sz:=9) (es:=List.map Clause.c v.2.2.1) (by simp) (by simp) (by simp) (by simp)) ?_
   repeat first|refine cg ?_|simp -dsimp[h1,z3,h6,q7,z8]
   refine ADraw.eff [98] [(0,1),(0,1),(0,0),(0,0),(0,2),(1,1),(0,2),(2,2)] [1,2,1,1,1,1,1,1] follows (by kernel_rfl) (by kernel_rfl) (by kernel_rfl) ?_
   repeat first|refine cg ?_|simp -dsimp[h1,z3,h6,q7,z8]
   have hF:=ob hF;obtain⟨v20,e21,hF⟩:=hF
   refine((C.spec_l4Mutate__o0 B hB1 hB2 v.2.2.2.2 v.2.2.1 v20 e21)).ego (pl [1,5]) (by simp) (by simp) (ZB9 _ (by simp) (by decide)) (by intro i hi hi';simp at hi hi';have hi:i=1:=(by omega);rcases hi with rfl<;>simp[pl]) (by simp[h1,z3,h6,q7,z8]) (by simp[h1,z3,h6,q7,z8]) ?_
   cases hF
   repeat first|refine cg ?_|simp -dsimp[h1,z3,h6,q7,z8]
   all_goals(try first|omega|rfl|(simp;done)|(simp only[List.length_cons,List.length_nil]at*;omega)|simp)
 ·have z3:¬(2000<(code.length:Int)):=auz
  repeat first|refine cg ?_|simp -dsimp[h1,q2,z3]
  have hF:=ob hF;obtain⟨v22,e23,hF⟩:=hF
  refine((C.spec_l4Typed__o2 B hB1 hB2 (⟨code,0⟩:ZA) v22 e23)).go (pl [1,2]) (by simp) (by simp) (ZB9 _ (by simp) (by decide)) (by intro i hi hi';simp at hi hi';have hi:i=1:=(by omega);rcases hi with rfl<;>simp[pl]) (by simp[h1,q2,z3]) (by simp[h1,q2,z3]) ?_
  repeat first|refine cg ?_|simp -dsimp[h1,q2,z3]
  revert hF;refine aS ?_ ?_<;>intro h24 q25 hF
  ·have z26:(0<(v22.2.2.1.length:Int)):=auz
   repeat first|refine cg ?_|simp -dsimp[h1,q2,z3,h24,z26]
   have hF:=ob hF;obtain⟨v27,e28,hF⟩:=hF
   refine((C.f1 B hB1 hB2 v22.2.2.2.2 4 v27 e28)).go 1 rfl (by simp[h1,q2,z3,h24,z26]) (by simp) (by simp[h1,q2,z3,h24,z26]) ?_
   repeat first|refine cg ?_|simp -dsimp[h1,q2,z3,h24,z26]
   revert hF;refine aS ?_ ?_<;>intro h29 q30 hF
   ·repeat first|refine cg ?_|simp -dsimp[h1,q2,z3,h24,z26,h29]
    have hF:=ob hF;obtain⟨v31,e32,hF⟩:=hF
    refine((C.f92 B hB1 hB2 v31 e32)).goW (by simp[h1,q2,z3,h24,z26,h29]) (by simp) ?_
    have hF:=oc hF;obtain⟨c33,hF⟩:=hF
    repeat first|refine cg ?_|simp -dsimp[h1,q2,z3,h24,z26,h29]
    refine ADraw.gh (Gh.frzSlot 8 (l:=2) (n:=List.length (α:=Clause) (v22.2.2.1++[(⟨v31,(⟨0,0,0⟩:Guard)⟩:Clause)])) (sz:=9) (es:=List.map Clause.c (v22.2.2.1++[(⟨v31,(⟨0,0,0⟩:Guard)⟩:Clause)])) (by simp) (by simp) (by simp) (by simp)) ?_
    repeat first|refine cg ?_|simp -dsimp[h1,q2,z3,h24,z26,h29]
    refine ADraw.eff [98] [(0,1),(0,1),(0,0),(0,0),(0,2),(1,1),(0,2),(2,2)] [1,2,1,1,1,1,1,1] follows (by kernel_rfl) (by kernel_rfl) (by kernel_rfl) ?_
    repeat first|refine cg ?_|simp -dsimp[h1,q2,z3,h24,z26,h29]
    have hF:=ob hF;obtain⟨v34,e35,hF⟩:=hF
    refine((C.spec_l4Mutate__o0 B hB1 hB2 v27.2 (v22.2.2.1++[(⟨v31,(⟨0,0,0⟩:Guard)⟩:Clause)]) v34 e35)).ego (pl [1,6]) (by simp) (by simp) (ZB9 _ (by simp) (by decide)) (by intro i hi hi';simp at hi hi';have hi:i=1:=(by omega);rcases hi with rfl<;>simp[pl]) (by simp[h1,q2,z3,h24,z26,h29]) (by simp[h1,q2,z3,h24,z26,h29]) ?_
    cases hF
    repeat first|refine cg ?_|simp -dsimp[h1,q2,z3,h24,z26,h29]
    all_goals(try first|omega|rfl|(simp;done)|(simp only[List.length_cons,List.length_nil]at*;omega)|simp)
   ·repeat first|refine cg ?_|simp -dsimp[h1,q2,z3,h24,z26,h29,q30]
    refine ADraw.gh (Gh.frzSlot 8 (l:=2) (n:=List.length (α:=Clause) v22.2.2.1) (sz:=9) (es:=List.map Clause.c v22.2.2.1) (by simp) (by simp) (by simp) (by simp)) ?_
    repeat first|refine cg ?_|simp -dsimp[h1,q2,z3,h24,z26,h29,q30]
    refine ADraw.eff [98] [(0,1),(0,1),(0,0),(0,0),(0,2),(1,1),(0,2),(2,2)] [1,2,1,1,1,1,1,1] follows (by kernel_rfl) (by kernel_rfl) (by kernel_rfl) ?_
    repeat first|refine cg ?_|simp -dsimp[h1,q2,z3,h24,z26,h29,q30]
    have hF:=ob hF;obtain⟨v36,e37,hF⟩:=hF
    refine((C.spec_l4Mutate__o0 B hB1 hB2 v27.2 v22.2.2.1 v36 e37)).ego (pl [1,5]) (by simp) (by simp) (ZB9 _ (by simp) (by decide)) (by intro i hi hi';simp at hi hi';have hi:i=1:=(by omega);rcases hi with rfl<;>simp[pl]) (by simp[h1,q2,z3,h24,z26,h29,q30]) (by simp[h1,q2,z3,h24,z26,h29,q30]) ?_
    cases hF
    repeat first|refine cg ?_|simp -dsimp[h1,q2,z3,h24,z26,h29,q30]
    all_goals(try first|omega|rfl|(simp;done)|(simp only[List.length_cons,List.length_nil]at*;omega)|simp)
  ·have z26:¬(0<(v22.2.2.1.length:Int)):=auz
   repeat first|refine cg ?_|simp -dsimp[h1,q2,z3,h24,q25,z26]
   refine ADraw.gh (Gh.frzSlot 8 (l:=2) (n:=List.length (α:=Clause) v22.2.2.1) (sz:=9) (es:=List.map Clause.c v22.2.2.1) (by simp) (by simp) (by simp) (by simp)) ?_
   repeat first|refine cg ?_|simp -dsimp[h1,q2,z3,h24,q25,z26]
   refine ADraw.eff [98] [(0,1),(0,1),(0,0),(0,0),(0,2),(1,1),(0,2),(2,2)] [1,2,1,1,1,1,1,1] follows (by kernel_rfl) (by kernel_rfl) (by kernel_rfl) ?_
   repeat first|refine cg ?_|simp -dsimp[h1,q2,z3,h24,q25,z26]
   have hF:=ob hF;obtain⟨v38,e39,hF⟩:=hF
   refine((C.spec_l4Mutate__o0 B hB1 hB2 v22.2.2.2.2 v22.2.2.1 v38 e39)).ego (pl [1,5]) (by simp) (by simp) (ZB9 _ (by simp) (by decide)) (by intro i hi hi';simp at hi hi';have hi:i=1:=(by omega);rcases hi with rfl<;>simp[pl]) (by simp[h1,q2,z3,h24,q25,z26]) (by simp[h1,q2,z3,h24,q25,z26]) ?_
   cases hF
   repeat first|refine cg ?_|simp -dsimp[h1,q2,z3,h24,q25,z26]
   all_goals(try first|omega|rfl|(simp;done)|(simp only[List.length_cons,List.length_nil]at*;omega)|simp)
theorem C.f97 (code:List Int)(r:(List Vl.Data)×Ty×(List Clause))(hF:F.f97 code=some r):PureCall Tryz.prog B 17 [am cU code] (.tup [am Vl.Data.c r.1,.agg [li r.2.1.data,li r.2.1.index],am Clause.c r.2.2]):=by
 unfold F.f97 at hF
 refine pE Tryz.func17 (by kernel_rfl) rfl Tryz.ntmps17 (by simp) (by simp) ?_
 repeat first|refine cg ?_|simp -dsimp
 refine ACall.inl Tryz.func30 (by kernel_rfl) rfl Tryz.ntmps30 (by simp) ?_
 repeat first|refine cg ?_|simp -dsimp
 revert hF;refine aS ?_ ?_<;>intro h1 q2 hF
 ·have z3:(2000<(code.length:Int)):=auz
  have hF:=oc hF;obtain⟨c4,hF⟩:=hF
  repeat first|refine cg ?_|simp -dsimp[h1,z3]
  have hF:=ob hF;obtain⟨v,e5,hF⟩:=hF
  refine((C.spec_DrawMissingPatterns__o2 B hB1 hB2 code v e5)).go (pl [2]) (by simp) (by simp) (by intro i j hi;simp at hi) (by intro i hi hi';simp at hi hi';have hi:i=0:=(by omega);rcases hi with rfl<;>simp[pl]) (by simp[h1,z3]) (by simp[h1,z3]) ?_
  repeat first|refine cg ?_|simp -dsimp[h1,z3]
  revert hF;refine aS ?_ ?_<;>intro h6 q7 hF
  ·have z8:(0<(v.2.2.length:Int)):=auz
   repeat first|refine cg ?_|simp -dsimp[h1,z3,h6,z8]
   revert hF;refine aS ?_ ?_<;>intro h9 q10 hF
   ·have z11:((v.2.2.length:Int)<8):=auz
    repeat first|refine cg ?_|simp -dsimp[h1,z3,h6,z8,h9,z11]
    have hF:=ob hF;obtain⟨v12,e13,hF⟩:=hF
    refine((C.f1 B hB1 hB2 (⟨(code.drop 0).take (2000-0),0⟩:ZA) 2 v12 e13)).go 1 rfl (by simp[h1,z3,h6,z8,h9,z11]) (by simp) (by simp[h1,z3,h6,z8,h9,z11]) ?_
    repeat first|refine cg ?_|simp -dsimp[h1,z3,h6,z8,h9,z11]
    revert hF;refine aS ?_ ?_<;>intro h14 q15 hF
    ·repeat first|refine cg ?_|simp -dsimp[h1,z3,h6,z8,h9,z11,h14]
     have hF:=ob hF;obtain⟨v16,e17,hF⟩:=hF
     refine((C.f1 B hB1 hB2 v12.2 (v.2.2.length:Int) v16 e17)).go 1 rfl (by simp[h1,z3,h6,z8,h9,z11,h14]) (by simp) (by simp[h1,z3,h6,z8,h9,z11,h14]) ?_
     have hF:=ob hF;obtain⟨x,e18a,hF⟩:=hF
     have e18a:=ZU e18a;obtain⟨ne18,e18⟩:=e18a
     have le18:=ZD e18
     have hF:=oc hF;obtain⟨c19,hF⟩:=hF
     repeat first|refine cg ?_|simp -dsimp[h1,z3,h6,z8,h9,z11,h14,↓e18]
     refine ADraw.eff [] [(0,0),(0,0),(0,1),(0,0),(0,1),(1,1)] [1,1,1,1,1,1] follows (by kernel_rfl) (by kernel_rfl) (by kernel_rfl) ?_
     cases hF
     repeat first|refine cg ?_|simp -dsimp[h1,z3,h6,z8,h9,z11,h14,↓e18]
    ·repeat first|refine cg ?_|simp -dsimp[h1,z3,h6,z8,h9,z11,h14,q15]
     refine ADraw.eff [] [(0,0),(0,0),(0,1),(0,0),(0,1),(1,1)] [1,1,1,1,1,1] follows (by kernel_rfl) (by kernel_rfl) (by kernel_rfl) ?_
     cases hF
     repeat first|refine cg ?_|simp -dsimp[h1,z3,h6,z8,h9,z11,h14,q15]
   ·have z11:¬((v.2.2.length:Int)<8):=auz
    repeat first|refine cg ?_|simp -dsimp[h1,z3,h6,z8,h9,q10,z11]
    refine ADraw.eff [] [(0,0),(0,0),(0,1),(0,0),(0,1),(1,1)] [1,1,1,1,1,1] follows (by kernel_rfl) (by kernel_rfl) (by kernel_rfl) ?_
    cases hF
    repeat first|refine cg ?_|simp -dsimp[h1,z3,h6,z8,h9,q10,z11]
  ·have z8:¬(0<(v.2.2.length:Int)):=auz
   repeat first|refine cg ?_|simp -dsimp[h1,z3,h6,q7,z8]
   refine ADraw.eff [] [(0,0),(0,0),(0,1),(0,0),(0,1),(1,1)] [1,1,1,1,1,1] follows (by kernel_rfl) (by kernel_rfl) (by kernel_rfl) ?_
   cases hF
   repeat first|refine cg ?_|simp -dsimp[h1,z3,h6,q7,z8]
 ·have z3:¬(2000<(code.length:Int)):=auz
  repeat first|refine cg ?_|simp -dsimp[h1,q2,z3]
  have hF:=ob hF;obtain⟨v20,e21,hF⟩:=hF
  refine((C.spec_DrawMissingPatterns__o2 B hB1 hB2 code v20 e21)).go (pl [2]) (by simp) (by simp) (by intro i j hi;simp at hi) (by intro i hi hi';simp at hi hi';have hi:i=0:=(by omega);rcases hi with rfl<;>simp[pl]) (by simp[h1,q2,z3]) (by simp[h1,q2,z3]) ?_
  repeat first|refine cg ?_|simp -dsimp[h1,q2,z3]
  revert hF;refine aS ?_ ?_<;>intro h22 q23 hF
  ·have z24:(0<(v20.2.2.length:Int)):=auz
   repeat first|refine cg ?_|simp -dsimp[h1,q2,z3,h22,z24]
   revert hF;refine aS ?_ ?_<;>intro h25 q26 hF
   ·have z27:((v20.2.2.length:Int)<8):=auz
    repeat first|refine cg ?_|simp -dsimp[h1,q2,z3,h22,z24,h25,z27]
    have hF:=ob hF;obtain⟨v28,e29,hF⟩:=hF
    refine((C.f1 B hB1 hB2 (⟨code,0⟩:ZA) 2 v28 e29)).go 1 rfl (by simp[h1,q2,z3,h22,z24,h25,z27]) (by simp) (by simp[h1,q2,z3,h22,z24,h25,z27]) ?_
    repeat first|refine cg ?_|simp -dsimp[h1,q2,z3,h22,z24,h25,z27]
    revert hF;refine aS ?_ ?_<;>intro h30 q31 hF
    ·repeat first|refine cg ?_|simp -dsimp[h1,q2,z3,h22,z24,h25,z27,h30]
     have hF:=ob hF;obtain⟨v32,e33,hF⟩:=hF
     refine((C.f1 B hB1 hB2 v28.2 (v20.2.2.length:Int) v32 e33)).go 1 rfl (by simp[h1,q2,z3,h22,z24,h25,z27,h30]) (by simp) (by simp[h1,q2,z3,h22,z24,h25,z27,h30]) ?_
     have hF:=ob hF;obtain⟨x34,e35a,hF⟩:=hF
     have e35a:=ZU e35a;obtain⟨ne35,e35⟩:=e35a
     have le35:=ZD e35
     have hF:=oc hF;obtain⟨c36,hF⟩:=hF
     repeat first|refine cg ?_|simp -dsimp[h1,q2,z3,h22,z24,h25,z27,h30,↓e35]
     refine ADraw.eff [] [(0,0),(0,0),(0,1),(0,0),(0,1),(1,1)] [1,1,1,1,1,1] follows (by kernel_rfl) (by kernel_rfl) (by kernel_rfl) ?_
     cases hF
     repeat first|refine cg ?_|simp -dsimp[h1,q2,z3,h22,z24,h25,z27,h30,↓e35]
    ·repeat first|refine cg ?_|simp -dsimp[h1,q2,z3,h22,z24,h25,z27,h30,q31]
     refine ADraw.eff [] [(0,0),(0,0),(0,1),(0,0),(0,1),(1,1)] [1,1,1,1,1,1] follows (by kernel_rfl) (by kernel_rfl) (by kernel_rfl) ?_
     cases hF
     repeat first|refine cg ?_|simp -dsimp[h1,q2,z3,h22,z24,h25,z27,h30,q31]
   ·have z27:¬((v20.2.2.length:Int)<8):=auz
    repeat first|refine cg ?_|simp -dsimp[h1,q2,z3,h22,z24,h25,q26,z27]
    refine ADraw.eff [] [(0,0),(0,0),(0,1),(0,0),(0,1),(1,1)] [1,1,1,1,1,1] follows (by kernel_rfl) (by kernel_rfl) (by kernel_rfl) ?_
    cases hF
    repeat first|refine cg ?_|simp -dsimp[h1,q2,z3,h22,z24,h25,q26,z27]
  ·have z24:¬(0<(v20.2.2.length:Int)):=auz
   repeat first|refine cg ?_|simp -dsimp[h1,q2,z3,h22,q23,z24]
   refine ADraw.eff [] [(0,0),(0,0),(0,1),(0,0),(0,1),(1,1)] [1,1,1,1,1,1] follows (by kernel_rfl) (by kernel_rfl) (by kernel_rfl) ?_
   cases hF
   repeat first|refine cg ?_|simp -dsimp[h1,q2,z3,h22,q23,z24]
theorem C.f98 (code:List Int)(r:(List Vl.Data)×Ty×(List Clause))(hF:F.f98 code=some r):PureCall Tryz.prog B 5 [am cU code] (.tup [am Vl.Data.c r.1,.agg [li r.2.1.data,li r.2.1.index],am Clause.c r.2.2]):=by
 unfold F.f98 at hF
 refine pE Tryz.func5 (by kernel_rfl) rfl Tryz.ntmps5 (by simp) (by simp) ?_
 repeat first|refine cg ?_|simp -dsimp
 have hF:=ob hF;obtain⟨v,e1,hF⟩:=hF
 refine((C.f97 B hB1 hB2 code v e1)).goW (by simp) (by simp) ?_
 cases hF
 repeat first|refine cg ?_|simp -dsimp
theorem C.f99 (n:Int)(low:Int)(high:Int)(r:Bool)(hF:F.f99 n low high=some r):PureCall Tryz.prog B 43 [li n,li low,li high] (.lit (.bool r)):=by
 unfold F.f99 at hF
 refine pE Tryz.func43 (by kernel_rfl) rfl Tryz.ntmps43 (by simp) (by simp) ?_
 repeat first|refine cg ?_|simp -dsimp
 revert hF;refine aS ?_ ?_<;>intro h1 q2 hF
 ·cases hF
  repeat first|refine cg ?_|simp -dsimp[h1]
 ·cases hF
  repeat first|refine cg ?_|simp -dsimp[q2]
theorem CC.f100 (s:ByteArray):(∀(i:Nat) (o:Lo Bool Unit),F.f100 s i=some o->∀(c:Code),ZY [1,1,0,1,0,0] (ZJ Tryz.f157)=some c->∀(Q:Exit->ASt->Prop),o.post (fun r=>∀st,ZAf Tryz.prog Tryz.f157 (fun r' _=>r'.le (.lit (.bool r))) .ret st->Q .ret st) (fun s=>Q (.exit 0) ⟨[],[]⟩)->ALoopU Tryz.prog B 0 34 (hold c .mk) ⟨[(0,.lit (.string s)),(3,li (i:Int))],[]⟩ (hold Q .mk)):=by
 refine F.f100.partial_correctness s
  _
  ?_
 ·intro _f_f100 ih_f100 i o hF
  intro c hc Q hq
  obtain rfl:c=_:=ZK hc rfl
  refine kN fun hk hs=> ?_
  clear hk hs
  refine eN ?_
  repeat first|refine cg ?_|simp -dsimp
  revert hF;refine aS ?_ ?_<;>intro h11 q12 hF
  ·have z13:((i:Int)<(s.size:Int)):=auz
   repeat first|refine cg ?_|simp -dsimp[h11,z13]
   revert hF;refine aN ?_ ?_<;>intro h14 q15 hF
   ·have z16:¬(((byteAt s i:Nat):Int)<97):=auz
    repeat first|refine cg ?_|simp -dsimp[h11,z13,h14,q15,z16]
    revert hF;refine aS ?_ ?_<;>intro h17 q18 hF
    ·have z19:(122<((byteAt s i:Nat):Int)):=auz
     cases hF
     repeat first|refine cg ?_|simp -dsimp[h11,z13,h14,q15,z16,h17,z19]
     refine lG _ (gR _) (hq _ ?_)
     repeat first|refine cg ?_|simp -dsimp[h11,z13,h14,q15,z16,h17,z19]
    ·have z19:¬(122<((byteAt s i:Nat):Int)):=auz
     have hF:=oc hF;obtain⟨c20,hF⟩:=hF
     have w21:i64.wrap ((i:Int)+1)=(i:Int)+1:=ZE (by omega) (by omega)
     repeat first|refine cg ?_|simp -dsimp[h11,z13,h14,q15,z16,h17,q18,z19,w21]
     refine aG _ ?_ ((ih_f100 (i+1) o hF) _ rfl _ hq)
     exact(gT (by simp) (by simp -dsimp[h11,z13,h14,q15,z16,h17,q18,z19,w21]))
   ·have z16:(((byteAt s i:Nat):Int)<97):=auz
    cases hF
    repeat first|refine cg ?_|simp -dsimp[h11,z13,h14,q15,z16]
    refine lG _ (gR _) (hq _ ?_)
    repeat first|refine cg ?_|simp -dsimp[h11,z13,h14,q15,z16]
  ·have z13:¬((i:Int)<(s.size:Int)):=auz
   cases hF
   repeat first|refine cg ?_|simp -dsimp[h11,q12,z13]
   refine lG _ (gT (by simp) (by simp -dsimp[h11,q12,z13])) hq
theorem C.f101 (s:ByteArray)(r:Bool)(hF:F.f101 s=some r):PureCall Tryz.prog B 157 [.lit (.string s)] (.lit (.bool r)):=by
 unfold F.f101 at hF
 refine pE Tryz.func157 (by kernel_rfl) rfl Tryz.ntmps157 (by simp) (by simp) ?_
 repeat first|refine cg ?_|simp -dsimp
 have hF:=ob hF;obtain⟨v,e1,hF⟩:=hF
 refine((C.f99 B hB1 hB2 (s.size:Int) 1 5 v e1)).goW (by simp) (by simp) ?_
 repeat first|refine cg ?_|simp -dsimp
 revert hF;refine aS (fun h2 q3 hF=> ?_) (fun h2 q3 hF=> ?_)
 ·have hF:=oc hF;obtain⟨c4,hF⟩:=hF
  repeat first|refine cg ?_|simp -dsimp[h2]
  revert hF;refine aN ?_ ?_<;>intro h5 q6 hF
  ·have z7:¬(((byteAt s 0:Nat):Int)<65):=auz
   repeat first|refine cg ?_|simp -dsimp[h2,h5,q6,z7]
   revert hF;refine aS ?_ ?_<;>intro h8 q9 hF
   ·have z10:(90<((byteAt s 0:Nat):Int)):=auz
    cases hF
    repeat first|refine cg ?_|simp -dsimp[h2,h5,q6,z7,h8,z10]
   ·have z10:¬(90<((byteAt s 0:Nat):Int)):=auz
    repeat first|refine cg ?_|simp -dsimp[h2,h5,q6,z7,h8,q9,z10]
    have hF:=ob hF;obtain⟨o',ho22,hF⟩:=hF
    refine ALoop.goU _ ?_ (((CC.f100 B hB1 hB2 s) 1 o' ho22) _ rfl _ ?_)
    ·exact(gT (by simp) (by simp -dsimp[h2,h5,q6,z7,h8,q9,z10]))
    rcases o' with r0|sx
    ·dsimp only at hF
     cases hF
     intro st h
     simpa using h
    ·dsimp only at hF
     cases hF
     repeat first|refine cg ?_|simp -dsimp
  ·have z7:(((byteAt s 0:Nat):Int)<65):=auz
   cases hF
   repeat first|refine cg ?_|simp -dsimp[h2,h5,q6,z7]
 ·cases hF
  repeat first|refine cg ?_|simp -dsimp[h2,q3]
theorem C.f102 (w:List Vl.Data)(t:Ty)(r:Bool)(hF:F.f102 w t=some r):PureCall Tryz.prog B 159 [am Vl.Data.c w,.agg [li t.data,li t.index]] (.lit (.bool r)):=by
 unfold F.f102 at hF
 refine pE Tryz.func159 (by kernel_rfl) rfl Tryz.ntmps159 (by simp) (by simp) ?_
 repeat first|refine cg ?_|simp -dsimp
 revert hF;refine aN (fun h1 q2 hF=> ?_) (fun h1 q2 hF=> ?_)
 ·repeat first|refine cg ?_|simp -dsimp[h1,q2]
  have hF:=ob hF;obtain⟨v,e3,hF⟩:=hF
  refine((C.f99 B hB1 hB2 t.data 0 (i64.wrap ((w.length:Int) -1)) v e3)).goW (by simp[h1,q2]) (by simp) ?_
  repeat first|refine cg ?_|simp -dsimp[h1,q2]
  revert hF;refine aS (fun h4 q5 hF=> ?_) (fun h4 q5 hF=> ?_)
  ·repeat first|refine cg ?_|simp -dsimp[h1,q2,h4]
   have hF:=ob hF;obtain⟨v6,e7,hF⟩:=hF
   refine((C.f99 B hB1 hB2 t.index (-1) 3 v6 e7)).goW (by simp[h1,q2,h4]) (by simp) ?_
   cases hF
   repeat first|refine cg ?_|simp -dsimp[h1,q2,h4]
  ·cases hF
   repeat first|refine cg ?_|simp -dsimp[h1,q2,h4,q5]
 ·cases hF
  repeat first|refine cg ?_|simp -dsimp[h1,q2]
theorem C.f103 (t:Ty)(a1:List Vl.Data)(r:Bool)(hF:F.f103 t a1=some r):PureCall Tryz.prog B 158 [.agg [li t.data,li t.index],.rptr [am Vl.Data.c a1] 0] (.lit (.bool r)):=by
 unfold F.f103 at hF
 refine pE Tryz.func158 (by kernel_rfl) rfl Tryz.ntmps158 (by simp) (by simp) ?_
 repeat first|refine cg ?_|simp -dsimp
 have hF:=ob hF;obtain⟨v,e1,hF⟩:=hF
 refine((C.f102 B hB1 hB2 a1 t v e1)).goW (by simp) (by simp) ?_
 cases hF
 repeat first|refine cg ?_|simp -dsimp
theorem CC.f104 (s:List Ty)(k0:List Vl.Data):(∀(i:Nat) (o:Lo Int Unit),F.f104 s k0 i=some o->∀(c:Code),ZY [1,0,1,0,0] (ZJ Tryz.f131)=some c->∀(Q:Exit->ASt->Prop),o.post (fun r=>∀st,ZAf Tryz.prog Tryz.f131 (fun r' _=>r'.le (li r)) .ret st->Q .ret st) (fun s=>Q (.exit 0) ⟨[],[]⟩)->ALoopU Tryz.prog B 0 19 (hold c .mk) ⟨[(0,am Ty.c s),(1,.fn (.func 158) [] [.rptr [am Vl.Data.c k0] 0]),(7,li (s.length:Int)),(8,li (i:Int))],[]⟩ (hold Q .mk)):=by
 refine F.f104.partial_correctness s k0
  _
  ?_
 ·intro _f_f104 ih_f104 i o hF
  intro c hc Q hq
  obtain rfl:c=_:=ZK hc rfl
  refine kN fun hk hs=> ?_
  have b0:=hk 0
  simp -dsimp at b0
  clear hk hs
  refine eN ?_
  repeat first|refine cg ?_|simp -dsimp
  revert hF;refine aS ?_ ?_<;>intro h1 q2 hF
  ·have z3:((i:Int)<(s.length:Int)):=auz
   have hF:=ob hF;obtain⟨x,e4,hF⟩:=hF
   have le4:=ZD e4
   repeat first|refine cg ?_|simp -dsimp[h1,z3,↓e4]
   have hF:=ob hF;obtain⟨v,e5,hF⟩:=hF
   refine((C.f103 B hB1 hB2 x k0 v e5)).goW (by simp_all) (by simp) ?_
   repeat first|refine cg ?_|simp -dsimp
   revert hF;refine aS (fun h6 q7 hF=> ?_) (fun h6 q7 hF=> ?_)
   ·cases hF
    repeat first|refine cg ?_|simp -dsimp[h6]
    refine lG _ (gR _) (hq _ ?_)
    repeat first|refine cg ?_|simp -dsimp
   ·have w8:i64.wrap ((i:Int)+1)=(i:Int)+1:=ZE (by omega) (by omega)
    repeat first|refine cg ?_|simp -dsimp[q7,w8]
    refine aG _ ?_ ((ih_f104 (i+1) o hF) _ rfl _ hq)
    exact(gT (by simp) (by simp_all))
  ·have z3:¬((i:Int)<(s.length:Int)):=auz
   cases hF
   repeat first|refine cg ?_|simp -dsimp[h1,q2,z3]
   refine lG _ (gT (by simp) (by simp_all)) hq
theorem C.f105 (s:List Ty)(k0:List Vl.Data)(r:Int)(hF:F.f105 s k0=some r):PureCall Tryz.prog B 131 [am Ty.c s,.fn (.func 158) [] [.rptr [am Vl.Data.c k0] 0]] (li r):=by
 unfold F.f105 at hF
 refine pE Tryz.func131 (by kernel_rfl) rfl Tryz.ntmps131 (by simp) (by simp) ?_
 repeat first|refine cg ?_|simp -dsimp
 have hF:=ob hF;obtain⟨o',ho9,hF⟩:=hF
 refine ALoop.goU _ ?_ (((CC.f104 B hB1 hB2 s k0) 0 o' ho9) _ rfl _ ?_)
 ·exact(gT (by simp) (by simp -dsimp))
 rcases o' with r0|sx
 ·dsimp only at hF
  cases hF
  intro st h
  simpa using h
 ·dsimp only at hF
  cases hF
  repeat first|refine cg ?_|simp -dsimp
theorem C.f106 (s:List Ty)(k0:List Vl.Data)(r:Bool)(hF:F.f106 s k0=some r):PureCall Tryz.prog B 88 [am Ty.c s,.fn (.func 158) [] [.rptr [am Vl.Data.c k0] 0]] (.lit (.bool r)):=by
 unfold F.f106 at hF
 refine pE Tryz.func88 (by kernel_rfl) rfl Tryz.ntmps88 (by simp) (by simp) ?_
 repeat first|refine cg ?_|simp -dsimp
 have hF:=ob hF;obtain⟨v,e1,hF⟩:=hF
 refine((C.f105 B hB1 hB2 s k0 v e1)).goW (by simp) (by simp) ?_
 cases hF
 repeat first|refine cg ?_|simp -dsimp
theorem C.f107 (w:List Vl.Data)(c':Ctor)(r:Bool)(hF:F.f107 w c'=some r):PureCall Tryz.prog B 130 [am Vl.Data.c w,.agg [.lit (.string c'.name),am Ty.c c'.args,li c'.index]] (.lit (.bool r)):=by
 unfold F.f107 at hF
 refine pE Tryz.func130 (by kernel_rfl) rfl Tryz.ntmps130 (by simp) (by simp) ?_
 repeat first|refine cg ?_|simp -dsimp
 have hF:=ob hF;obtain⟨v,e1,hF⟩:=hF
 refine((C.f101 B hB1 hB2 c'.name v e1)).goW (by simp) (by simp) ?_
 repeat first|refine cg ?_|simp -dsimp
 revert hF;refine aS (fun h2 q3 hF=> ?_) (fun h2 q3 hF=> ?_)
 ·repeat first|refine cg ?_|simp -dsimp[h2]
  revert hF;refine aS ?_ ?_<;>intro h4 q5 hF
  ·have z6:((c'.args.length:Int)<=3):=auz
   repeat first|refine cg ?_|simp -dsimp[h2,h4,z6]
   have hF:=ob hF;obtain⟨v7,e8,hF⟩:=hF
   refine((C.f99 B hB1 hB2 c'.index 0 3 v7 e8)).goW (by simp[h2,h4,z6]) (by simp) ?_
   repeat first|refine cg ?_|simp -dsimp[h2,h4,z6]
   revert hF;refine aS (fun h9 q10 hF=> ?_) (fun h9 q10 hF=> ?_)
   ·repeat first|refine cg ?_|simp -dsimp[h2,h4,z6,h9]
    have hF:=ob hF;obtain⟨v11,e12,hF⟩:=hF
    refine((C.f106 B hB1 hB2 c'.args w v11 e12)).lend (by simp -dsimp[h2,h4,z6,h9]) (by simp -dsimp) ?_
    cases hF
    repeat first|refine cg ?_|simp -dsimp[h2,h4,z6,h9]
   ·cases hF
    repeat first|refine cg ?_|simp -dsimp[h2,h4,z6,h9,q10]
  ·have z6:¬((c'.args.length:Int)<=3):=auz
   cases hF
   repeat first|refine cg ?_|simp -dsimp[h2,h4,q5,z6]
 ·cases hF
  repeat first|refine cg ?_|simp -dsimp[h2,q3]
theorem CC.f108 (w:List Vl.Data)(met4:List ByteArray)(i:Nat)(x:Vl.Data):(∀(met26:List ByteArray) (i27:Nat) (o:Lo Bool (List ByteArray)),F.f108 w met4 i x met26 i27=some o->∀(b1 b2:Nat),¬b1=b2->∀(c:Code),ZY [1,1,1,1,0,1,0,0,1,1,0,0,1,1,1,1,0,0] (ZJ Tryz.f84)=some c->∀(Q:Exit->ASt->Ms->Prop),o.post (fun r=>∀st,ZAf Tryz.prog Tryz.f84 (fun r' _=>r'=(.lit (.bool r))) .ret st->∀ms,Q .ret st ms) (fun s=>Q (.exit 2) ⟨[(0,am Vl.Data.c w),(3,.lit (.map (some b1))),(4,.lit (.map (some b2))),(14,am Vl.Data.c w),(15,li (w.length:Int)),(16,li (i:Int))],[]⟩ [(b1,s),(b2,ZCB met4 x.name)])->MLoop Tryz.prog B 79 (hold c .mk) ⟨[(0,am Vl.Data.c w),(3,.lit (.map (some b1))),(4,.lit (.map (some b2))),(14,am Vl.Data.c w),(15,li (w.length:Int)),(16,li (i:Int)),(58,am Ctor.c x.ctors),(59,li (x.ctors.length:Int)),(60,li (i27:Int))],[]⟩ [(b1,met26),(b2,ZCB met4 x.name)] (hold Q .mk)):=by
 refine F.f108.partial_correctness w met4 i x
  _
  ?_
 ·intro _f_f108 ih_f108 met26 i27 o hF
  intro b1 b2 hb2 c hc Q hq
  obtain rfl:c=_:=ZK hc rfl
  refine MLoop.know fun hk hs=> ?_
  have b0:=hk 0
  simp -dsimp at b0
  have b14:=hk 14
  simp -dsimp at b14
  have b58:=hk 58
  simp -dsimp at b58
  clear hk hs
  refine MLoop.enter ?_
  repeat first|refine cg ?_|simp -dsimp[hb2]
  revert hF;refine aS ?_ ?_<;>intro h28 q29 hF
  ·have z30:((i27:Int)<(x.ctors.length:Int)):=auz
   have hF:=ob hF;obtain⟨x31,e32,hF⟩:=hF
   have le32:=ZD e32
   repeat first|refine cg ?_|simp -dsimp[h28,z30,↓e32]
   have hF:=ob hF;obtain⟨v33,e34,hF⟩:=hF
   refine((C.f107 B hB1 hB2 w x31 v33 e34)).goW (by simp_all) (by simp) ?_
   repeat first|refine cg ?_|simp -dsimp
   revert hF;refine aS (fun h35 q36 hF=> ?_) (fun h35 q36 hF=> ?_)
   ·repeat first|refine cg ?_|simp -dsimp[h35]
    revert hF;refine aS (fun h37 q38 hF=> ?_) (fun h37 q38 hF=> ?_)
    ·cases hF
     repeat first|refine cg ?_|simp -dsimp[h37]
     refine LeaveM.go _ (gR _) (hq _ ?_ _)
     repeat first|refine cg ?_|simp -dsimp
    ·have w39:i64.wrap ((i27:Int)+1)=(i27:Int)+1:=ZE (by omega) (by omega)
     repeat first|refine cg ?_|simp -dsimp[q38,w39]
     refine AgainM.go ⟨[(0,.arr (List.map Vl.Data.c w)),(3,.lit (.map (some b1))),(4,.lit (.map (some b2))),(14,.arr (List.map Vl.Data.c w)),(15,.lit (.int .i64 (w.length:Int))),(16,.lit (.int .i64 (i:Int))),(58,.arr (List.map Ctor.c x.ctors)),(59,.lit (.int .i64 (x.ctors.length:Int))),(60,.lit (.int .i64 ((i27+1):Int)))],[]⟩ (gT (by simp) (by simp_all)) ?_
     exact(ih_f108 (ZCB met26 x31.name) (i27+1) o hF) b1 b2 hb2 _ rfl _ hq
   ·cases hF
    repeat first|refine cg ?_|simp -dsimp[q36]
    refine LeaveM.go _ (gR _) (hq _ ?_ _)
    repeat first|refine cg ?_|simp -dsimp
  ·have z30:¬((i27:Int)<(x.ctors.length:Int)):=auz
   cases hF
   repeat first|refine cg ?_|simp -dsimp[h28,q29,z30]
   refine LeaveM.go ⟨[(0,.arr (List.map Vl.Data.c w)),(3,.lit (.map (some b1))),(4,.lit (.map (some b2))),(14,.arr (List.map Vl.Data.c w)),(15,.lit (.int .i64 (w.length:Int))),(16,.lit (.int .i64 (i:Int)))],[]⟩ (gT (by simp) (by simp_all)) ?_
   exact hq
theorem CC.f109 (w:List Vl.Data):(∀(met:List ByteArray) (met4:List ByteArray) (i:Nat) (o:Lo Bool ((List ByteArray)×(List ByteArray))),F.f109 w met met4 i=some o->∀(b1 b2:Nat),¬b1=b2->∀(c:Code),ZY [1,1,1,1,0,1,0,0] (ZJ Tryz.f84)=some c->∀(Q:Exit->ASt->Ms->Prop),o.post (fun r=>∀st,ZAf Tryz.prog Tryz.f84 (fun r' _=>r'=(.lit (.bool r))) .ret st->∀ms,Q .ret st ms) (fun s=>Q (.exit 0) ⟨[],[]⟩ [(b1,s.1),(b2,s.2)])->MLoop Tryz.prog B 79 (hold c .mk) ⟨[(0,am Vl.Data.c w),(3,.lit (.map (some b1))),(4,.lit (.map (some b2))),(14,am Vl.Data.c w),(15,li (w.length:Int)),(16,li (i:Int))],[]⟩ [(b1,met),(b2,met4)] (hold Q .mk)):=by
 refine F.f109.partial_correctness w
  _
  ?_
 ·intro _f_f109 ih_f109 met met4 i o hF
  intro b1 b2 hb2 c hc Q hq
  obtain rfl:c=_:=ZK hc rfl
  refine MLoop.know fun hk hs=> ?_
  have b0:=hk 0
  simp -dsimp at b0
  have b14:=hk 14
  simp -dsimp at b14
  clear hk hs
  refine MLoop.enter ?_
  repeat first|refine cg ?_|simp -dsimp[hb2]
  revert hF;refine aS ?_ ?_<;>intro h5 q6 hF
  ·have z7:((i:Int)<(w.length:Int)):=auz
   have hF:=ob hF;obtain⟨x,e8,hF⟩:=hF
   have le8:=ZD e8
   repeat first|refine cg ?_|simp -dsimp[hb2,h5,z7,↓e8]
   revert hF;refine aS ?_ ?_<;>intro h9 q10 hF
   ·have z11:((x.name.size:Int)=1):=auz
    have hF:=oc hF;obtain⟨c12,hF⟩:=hF
    repeat first|refine cg ?_|simp -dsimp[hb2,h5,z7,↓e8,h9,z11]
    revert hF;refine aN ?_ ?_<;>intro h13 q14 hF
    ·have z15:¬(((byteAt x.name 0:Nat):Int)<65):=auz
     repeat first|refine cg ?_|simp -dsimp[hb2,h5,z7,↓e8,h9,z11,h13,q14,z15]
     revert hF;refine aN ?_ ?_<;>intro h16 q17 hF
     ·have z18:¬(90<((byteAt x.name 0:Nat):Int)):=auz
      repeat first|refine cg ?_|simp -dsimp[hb2,h5,z7,↓e8,h9,z11,h13,q14,z15,h16,q17,z18]
      revert hF;refine aN ?_ ?_<;>intro h19 q20 hF
      ·repeat first|refine cg ?_|simp -dsimp[hb2,h5,z7,↓e8,h9,z11,h13,q14,z15,h16,q17,z18,h19,q20]
       revert hF;refine aN (fun h21 q22 hF=> ?_) (fun h21 q22 hF=> ?_)
       ·repeat first|refine cg ?_|simp -dsimp[hb2,h5,z7,↓e8,h9,z11,h13,q14,z15,h16,q17,z18,h19,q20,h21,q22]
        have hF:=ob hF;obtain⟨v,e23,hF⟩:=hF
        refine((C.f99 B hB1 hB2 (x.ctors.length:Int) 1 4 v e23)).goW (by simp[hb2,h5,z7,↓e8,h9,z11,h13,q14,z15,h16,q17,z18,h19,q20,h21,q22]) (by simp) ?_
        repeat first|refine cg ?_|simp -dsimp[hb2,h5,z7,↓e8,h9,z11,h13,q14,z15,h16,q17,z18,h19,q20,h21,q22]
        revert hF;refine aN (fun h24 q25 hF=> ?_) (fun h24 q25 hF=> ?_)
        ·cases hF
         repeat first|refine cg ?_|simp -dsimp[hb2,h5,z7,↓e8,h9,z11,h13,q14,z15,h16,q17,z18,h19,q20,h21,q22,h24,q25]
         refine LeaveM.go _ (gR _) (hq _ ?_ _)
         repeat first|refine cg ?_|simp -dsimp[hb2,h5,z7,↓e8,h9,z11,h13,q14,z15,h16,q17,z18,h19,q20,h21,q22,h24,q25]
        ·repeat first|refine cg ?_|simp -dsimp[hb2,h5,z7,↓e8,h9,z11,h13,q14,z15,h16,q17,z18,h19,q20,h21,q22,h24,q25]
         have hF:=ob hF;obtain⟨o',ho40,hF⟩:=hF
         refine MLoop.goU ⟨[(0,.arr (List.map Vl.Data.c w)),(3,.lit (.map (some b1))),(4,.lit (.map (some b2))),(14,.arr (List.map Vl.Data.c w)),(15,.lit (.int .i64 (w.length:Int))),(16,.lit (.int .i64 (i:Int))),(58,.arr (List.map Ctor.c x.ctors)),(59,.lit (.int .i64 (x.ctors.length:Int))),(60,.lit (.int .i64 0))],[]⟩ (gT (by simp) (by simp -dsimp[hb2,h5,z7,↓e8,h9,z11,h13,q14,z15,h16,q17,z18,h19,q20,h21,q22,h24,q25])) ?_
         refine((CC.f108 B hB1 hB2 w met4 i x) met 0 o' ho40) b1 b2 hb2 _ rfl _ ?_
         rcases o' with r0|sx
         ·dsimp only at hF
          cases hF
          intro st h ms
          simp -dsimp
          refine LeaveM.go st (gR _) (hq st h ms)
         ·dsimp only at hF
          have hF:=oc hF;obtain⟨c41,hF⟩:=hF
          have w42:i64.wrap ((i:Int)+1)=(i:Int)+1:=ZE (by omega) (by omega)
          repeat first|refine cg ?_|simp -dsimp[w42]
          refine AgainM.go ⟨[(0,.arr (List.map Vl.Data.c w)),(3,.lit (.map (some b1))),(4,.lit (.map (some b2))),(14,.arr (List.map Vl.Data.c w)),(15,.lit (.int .i64 (w.length:Int))),(16,.lit (.int .i64 ((i+1):Int)))],[]⟩ (gT (by simp) (by simp -dsimp[w42])) ?_
          exact(ih_f109 sx (ZCB met4 x.name) (i+1) o hF) b1 b2 hb2 _ rfl _ hq
       ·cases hF
        repeat first|refine cg ?_|simp -dsimp[hb2,h5,z7,↓e8,h9,z11,h13,q14,z15,h16,q17,z18,h19,q20,h21,q22]
        refine LeaveM.go _ (gR _) (hq _ ?_ _)
        repeat first|refine cg ?_|simp -dsimp[hb2,h5,z7,↓e8,h9,z11,h13,q14,z15,h16,q17,z18,h19,q20,h21,q22]
      ·cases hF
       repeat first|refine cg ?_|simp -dsimp[hb2,h5,z7,↓e8,h9,z11,h13,q14,z15,h16,q17,z18,h19,q20]
       refine LeaveM.go _ (gR _) (hq _ ?_ _)
       repeat first|refine cg ?_|simp -dsimp[hb2,h5,z7,↓e8,h9,z11,h13,q14,z15,h16,q17,z18,h19,q20]
     ·have z18:(90<((byteAt x.name 0:Nat):Int)):=auz
      cases hF
      repeat first|refine cg ?_|simp -dsimp[hb2,h5,z7,↓e8,h9,z11,h13,q14,z15,h16,q17,z18]
      refine LeaveM.go _ (gR _) (hq _ ?_ _)
      repeat first|refine cg ?_|simp -dsimp[hb2,h5,z7,↓e8,h9,z11,h13,q14,z15,h16,q17,z18]
    ·have z15:(((byteAt x.name 0:Nat):Int)<65):=auz
     cases hF
     repeat first|refine cg ?_|simp -dsimp[hb2,h5,z7,↓e8,h9,z11,h13,q14,z15]
     refine LeaveM.go _ (gR _) (hq _ ?_ _)
     repeat first|refine cg ?_|simp -dsimp[hb2,h5,z7,↓e8,h9,z11,h13,q14,z15]
   ·have z11:¬((x.name.size:Int)=1):=auz
    cases hF
    repeat first|refine cg ?_|simp -dsimp[hb2,h5,z7,↓e8,h9,q10,z11]
    refine LeaveM.go _ (gR _) (hq _ ?_ _)
    repeat first|refine cg ?_|simp -dsimp[hb2,h5,z7,↓e8,h9,q10,z11]
  ·have z7:¬((i:Int)<(w.length:Int)):=auz
   cases hF
   repeat first|refine cg ?_|simp -dsimp[hb2,h5,q6,z7]
   refine LeaveM.go ⟨[],[]⟩ (gT (by simp) (by simp -dsimp[hb2,h5,q6,z7])) ?_
   exact hq
theorem C.f110 (w:List Vl.Data)(r:Bool)(hF:F.f110 w=some r):PureCall Tryz.prog B 84 [am Vl.Data.c w] (.lit (.bool r)):=by
 unfold F.f110 at hF
 refine PureCall.enterM Tryz.func84 (by kernel_rfl) rfl Tryz.ntmps84 (by simp) ?_
 repeat first|refine cg ?_|simp -dsimp
 revert hF;refine aS ?_ ?_<;>intro h1 q2 hF
 ·have z3:(4<(w.length:Int)):=auz
  cases hF
  repeat first|refine cg ?_|simp -dsimp[h1,z3]
 ·have z3:¬(4<(w.length:Int)):=auz
  repeat first|refine cg ?_|simp -dsimp[h1,q2,z3]
  refine AMake.go fun b1 hb1=> ?_
  repeat first|refine cg ?_|simp -dsimp
  refine AMake.go fun b2 hb2=> ?_
  simp at hb2
  repeat first|refine cg ?_|simp -dsimp[hb2]
  have hF:=ob hF;obtain⟨o'44,ho43,hF⟩:=hF
  refine MLoop.goU ⟨[(0,.arr (List.map Vl.Data.c w)),(3,.lit (.map (some b1))),(4,.lit (.map (some b2))),(14,.arr (List.map Vl.Data.c w)),(15,.lit (.int .i64 (w.length:Int))),(16,.lit (.int .i64 0))],[]⟩ (gT (by simp) (by simp_all)) ?_
  refine((CC.f109 B hB1 hB2 w) [] [] 0 o'44 ho43) b1 b2 hb2 _ rfl _ ?_
  rcases o'44 with r046|sx45
  ·dsimp only at hF
   cases hF
   intro st h ms
   simpa using h
  ·dsimp only at hF
   cases hF
   repeat first|refine cg ?_|simp -dsimp
theorem C.f111 (w:List Vl.Data)(t:Ty)(r:Bool)(hF:F.f111 w t=some r):PureCall Tryz.prog B 85 [am Vl.Data.c w,.agg [li t.data,li t.index]] (.lit (.bool r)):=by
 unfold F.f111 at hF
 refine pE Tryz.func85 (by kernel_rfl) rfl Tryz.ntmps85 (by simp) (by simp) ?_
 repeat first|refine cg ?_|simp -dsimp
 revert hF;refine aN (fun h1 q2 hF=> ?_) (fun h1 q2 hF=> ?_)
 ·repeat first|refine cg ?_|simp -dsimp[h1,q2]
  have hF:=ob hF;obtain⟨v,e3,hF⟩:=hF
  refine((C.f99 B hB1 hB2 t.data 0 (i64.wrap ((w.length:Int) -1)) v e3)).goW (by simp[h1,q2]) (by simp) ?_
  repeat first|refine cg ?_|simp -dsimp[h1,q2]
  revert hF;refine aS (fun h4 q5 hF=> ?_) (fun h4 q5 hF=> ?_)
  ·repeat first|refine cg ?_|simp -dsimp[h1,q2,h4]
   have hF:=ob hF;obtain⟨v6,e7,hF⟩:=hF
   refine((C.f99 B hB1 hB2 t.index 0 3 v6 e7)).goW (by simp[h1,q2,h4]) (by simp) ?_
   cases hF
   repeat first|refine cg ?_|simp -dsimp[h1,q2,h4]
  ·cases hF
   repeat first|refine cg ?_|simp -dsimp[h1,q2,h4,q5]
 ·cases hF
  repeat first|refine cg ?_|simp -dsimp[h1,q2]
theorem C.f112 (w:List Vl.Data)(t:Ty)(r:Bool)(hF:F.f112 w t=some r):PureCall Tryz.prog B 42 [am Vl.Data.c w,.agg [li t.data,li t.index]] (.lit (.bool r)):=by
 unfold F.f112 at hF
 refine pE Tryz.func42 (by kernel_rfl) rfl Tryz.ntmps42 (by simp) (by simp) ?_
 repeat first|refine cg ?_|simp -dsimp
 have hF:=ob hF;obtain⟨v,e1,hF⟩:=hF
 refine((C.f110 B hB1 hB2 w v e1)).goW (by simp) (by simp) ?_
 repeat first|refine cg ?_|simp -dsimp
 revert hF;refine aS (fun h2 q3 hF=> ?_) (fun h2 q3 hF=> ?_)
 ·repeat first|refine cg ?_|simp -dsimp[h2]
  have hF:=ob hF;obtain⟨v4,e5,hF⟩:=hF
  refine((C.f111 B hB1 hB2 w t v4 e5)).goW (by simp[h2]) (by simp) ?_
  cases hF
  repeat first|refine cg ?_|simp -dsimp[h2]
 ·cases hF
  repeat first|refine cg ?_|simp -dsimp[h2,q3]
theorem C.f113 (p:Pattern)(ctor:Bool)(numbers:Bool)(variable':Bool)(kids:Int)(r:Bool)(hF:F.f113 p ctor numbers variable' kids=some r):PureCall Tryz.prog B 154 [.agg [li p.op,li p.ctor,li p.n,li p.m,li p.var,am Pattern.c p.kids],.lit (.bool ctor),.lit (.bool numbers),.lit (.bool variable'),li kids] (.lit (.bool r)):=by
 unfold F.f113 at hF
 refine pE Tryz.func154 (by kernel_rfl) rfl Tryz.ntmps154 (by simp) (by simp) ?_
 repeat first|refine cg ?_|simp -dsimp
 revert hF;refine aN (fun h1 q2 hF=> ?_) (fun h1 q2 hF=> ?_)
 ·repeat first|refine cg ?_|simp -dsimp[h1,q2]
  revert hF;refine aS ?_ ?_<;>intro h3 q4 hF
  ·repeat first|refine cg ?_|simp -dsimp[h1,q2,h3]
   revert hF;refine aN (fun h5 q6 hF=> ?_) (fun h5 q6 hF=> ?_)
   ·repeat first|refine cg ?_|simp -dsimp[h1,q2,h3,h5,q6]
    revert hF;refine aS ?_ ?_<;>intro h7 q8 hF
    ·repeat first|refine cg ?_|simp -dsimp[h1,q2,h3,h5,q6,h7]
     revert hF;refine aS ?_ ?_<;>intro h9 q10 hF
     ·repeat first|refine cg ?_|simp -dsimp[h1,q2,h3,h5,q6,h7,h9]
      revert hF;refine aN (fun h11 q12 hF=> ?_) (fun h11 q12 hF=> ?_)
      ·repeat first|refine cg ?_|simp -dsimp[h1,q2,h3,h5,q6,h7,h9,h11,q12]
       revert hF;refine aS ?_ ?_<;>intro h13 q14 hF
       ·cases hF
        repeat first|refine cg ?_|simp -dsimp[h1,q2,h3,h5,q6,h7,h9,h11,q12,h13]
       ·cases hF
        repeat first|refine cg ?_|simp -dsimp[h1,q2,h3,h5,q6,h7,h9,h11,q12,h13,q14]
      ·cases hF
       repeat first|refine cg ?_|simp -dsimp[h1,q2,h3,h5,q6,h7,h9,h11,q12]
     ·cases hF
      repeat first|refine cg ?_|simp -dsimp[h1,q2,h3,h5,q6,h7,h9,q10]
    ·cases hF
     repeat first|refine cg ?_|simp -dsimp[h1,q2,h3,h5,q6,h7,q8]
   ·repeat first|refine cg ?_|simp -dsimp[h1,q2,h3,h5,q6]
    revert hF;refine aN (fun h15 q16 hF=> ?_) (fun h15 q16 hF=> ?_)
    ·repeat first|refine cg ?_|simp -dsimp[h1,q2,h3,h5,q6,h15,q16]
     revert hF;refine aS ?_ ?_<;>intro h17 q18 hF
     ·cases hF
      repeat first|refine cg ?_|simp -dsimp[h1,q2,h3,h5,q6,h15,q16,h17]
     ·cases hF
      repeat first|refine cg ?_|simp -dsimp[h1,q2,h3,h5,q6,h15,q16,h17,q18]
    ·cases hF
     repeat first|refine cg ?_|simp -dsimp[h1,q2,h3,h5,q6,h15,q16]
  ·cases hF
   repeat first|refine cg ?_|simp -dsimp[h1,q2,h3,q4]
 ·repeat first|refine cg ?_|simp -dsimp[h1,q2]
  revert hF;refine aN (fun h19 q20 hF=> ?_) (fun h19 q20 hF=> ?_)
  ·repeat first|refine cg ?_|simp -dsimp[h1,q2,h19,q20]
   revert hF;refine aS ?_ ?_<;>intro h21 q22 hF
   ·repeat first|refine cg ?_|simp -dsimp[h1,q2,h19,q20,h21]
    revert hF;refine aS ?_ ?_<;>intro h23 q24 hF
    ·repeat first|refine cg ?_|simp -dsimp[h1,q2,h19,q20,h21,h23]
     revert hF;refine aN (fun h25 q26 hF=> ?_) (fun h25 q26 hF=> ?_)
     ·repeat first|refine cg ?_|simp -dsimp[h1,q2,h19,q20,h21,h23,h25,q26]
      revert hF;refine aS ?_ ?_<;>intro h27 q28 hF
      ·cases hF
       repeat first|refine cg ?_|simp -dsimp[h1,q2,h19,q20,h21,h23,h25,q26,h27]
      ·cases hF
       repeat first|refine cg ?_|simp -dsimp[h1,q2,h19,q20,h21,h23,h25,q26,h27,q28]
     ·cases hF
      repeat first|refine cg ?_|simp -dsimp[h1,q2,h19,q20,h21,h23,h25,q26]
    ·cases hF
     repeat first|refine cg ?_|simp -dsimp[h1,q2,h19,q20,h21,h23,q24]
   ·cases hF
    repeat first|refine cg ?_|simp -dsimp[h1,q2,h19,q20,h21,q22]
  ·repeat first|refine cg ?_|simp -dsimp[h1,q2,h19,q20]
   revert hF;refine aN (fun h29 q30 hF=> ?_) (fun h29 q30 hF=> ?_)
   ·repeat first|refine cg ?_|simp -dsimp[h1,q2,h19,q20,h29,q30]
    revert hF;refine aS ?_ ?_<;>intro h31 q32 hF
    ·cases hF
     repeat first|refine cg ?_|simp -dsimp[h1,q2,h19,q20,h29,q30,h31]
    ·cases hF
     repeat first|refine cg ?_|simp -dsimp[h1,q2,h19,q20,h29,q30,h31,q32]
   ·cases hF
    repeat first|refine cg ?_|simp -dsimp[h1,q2,h19,q20,h29,q30]
theorem C.f114 (v:Int)(r:Bool)(hF:F.f114 v=some r):PureCall Tryz.prog B 155 [li v] (.lit (.bool r)):=by
 unfold F.f114 at hF
 refine pE Tryz.func155 (by kernel_rfl) rfl Tryz.ntmps155 (by simp) (by simp) ?_
 repeat first|refine cg ?_|simp -dsimp
 have hF:=ob hF;obtain⟨v1,e2,hF⟩:=hF
 refine((C.f99 B hB1 hB2 v 0 5 v1 e2)).goW (by simp) (by simp) ?_
 cases hF
 repeat first|refine cg ?_|simp -dsimp
theorem CC.f115 (t:Ty)(x:Vl.Data):(∀(i:Nat) (out:List Int) (o:List Int),F.f115 t x i out=some o->∀(c:Code),ZY [1,1,0,1,0,1,0,0] (ZJ Tryz.f74)=some c->∀(Q:Exit->ASt->Prop),(Q (.exit 0) ⟨[(5,.own 1 (List.length (α:=Int) o))],[.dead,.elems 1 (List.map cI o)]⟩)->ALoopU Tryz.prog B 0 44 (hold c .mk) ⟨[(3,.ptr 0 0),(5,.own 1 (List.length (α:=Int) out)),(16,am Ctor.c x.ctors),(17,li (x.ctors.length:Int)),(18,li (i:Int))],[.cells [li t.data,li t.index],.elems 1 (List.map cI out)]⟩ (hold Q .mk)):=by
 refine F.f115.partial_correctness t x
  _
  ?_
 ·intro _f_f115 ih_f115 i out o hF
  intro c hc Q hq
  obtain rfl:c=_:=ZK hc rfl
  refine kN fun hk hs=> ?_
  have b16:=hk 16
  simp -dsimp at b16
  have d1:=hs 1 _ rfl
  simp -dsimp[Blk.bnd]at d1
  clear hk hs
  refine eN ?_
  repeat first|refine cg ?_|simp -dsimp
  revert hF;refine aS ?_ ?_<;>intro h4 q5 hF
  ·have z6:((i:Int)<(x.ctors.length:Int)):=auz
   have hF:=ob hF;obtain⟨x7,e8,hF⟩:=hF
   have le8:=ZD e8
   repeat first|refine cg ?_|simp -dsimp[h4,z6,↓e8]
   revert hF;refine aN ?_ ?_<;>intro h9 q10 hF
   ·repeat first|refine cg ?_|simp -dsimp[h4,z6,↓e8,h9,q10]
    revert hF;refine aN ?_ ?_<;>intro h11 q12 hF
    ·repeat first|refine cg ?_|simp -dsimp[h4,z6,↓e8,h9,q10,h11,q12]
     revert hF;refine aS ?_ ?_<;>intro h13 q14 hF
     ·have hF:=oc hF;obtain⟨c15,hF⟩:=hF
      have w16:i64.wrap ((i:Int)+1)=(i:Int)+1:=ZE (by omega) (by omega)
      repeat first|refine cg ?_|simp -dsimp[h4,z6,↓e8,h9,q10,h11,q12,h13,w16]
      refine aG _ ?_ ((ih_f115 (i+1) (out++[(i:Int)]) o hF) _ rfl _ hq)
      exact(gT (by simp) (by simp -dsimp[h4,z6,↓e8,h9,q10,h11,q12,h13,w16]))
     ·have w17:i64.wrap ((i:Int)+1)=(i:Int)+1:=ZE (by omega) (by omega)
      repeat first|refine cg ?_|simp -dsimp[h4,z6,↓e8,h9,q10,h11,q12,h13,q14,w17]
      refine aG _ ?_ ((ih_f115 (i+1) out o hF) _ rfl _ hq)
      exact(gT (by simp) (by simp -dsimp[h4,z6,↓e8,h9,q10,h11,q12,h13,q14,w17]))
    ·have hF:=oc hF;obtain⟨c18,hF⟩:=hF
     have w19:i64.wrap ((i:Int)+1)=(i:Int)+1:=ZE (by omega) (by omega)
     repeat first|refine cg ?_|simp -dsimp[h4,z6,↓e8,h9,q10,h11,q12,w19]
     refine aG _ ?_ ((ih_f115 (i+1) (out++[(i:Int)]) o hF) _ rfl _ hq)
     exact(gT (by simp) (by simp -dsimp[h4,z6,↓e8,h9,q10,h11,q12,w19]))
   ·have hF:=oc hF;obtain⟨c20,hF⟩:=hF
    have w21:i64.wrap ((i:Int)+1)=(i:Int)+1:=ZE (by omega) (by omega)
    repeat first|refine cg ?_|simp -dsimp[h4,z6,↓e8,h9,q10,w21]
    refine aG _ ?_ ((ih_f115 (i+1) (out++[(i:Int)]) o hF) _ rfl _ hq)
    exact(gT (by simp) (by simp -dsimp[h4,z6,↓e8,h9,q10,w21]))
  ·have z6:¬((i:Int)<(x.ctors.length:Int)):=auz
   cases hF
   repeat first|refine cg ?_|simp -dsimp[h4,q5,z6]
   refine lG _ (gT (by simp) (by simp -dsimp[h4,q5,z6])) hq
theorem C.f116 (w:List Vl.Data)(t:Ty)(r:List Int)(hF:F.f116 w t=some r):PureCall Tryz.prog B 74 [am Vl.Data.c w,.agg [li t.data,li t.index]] (am cI r):=by
 unfold F.f116 at hF
 refine pE Tryz.func74 (by kernel_rfl) rfl Tryz.ntmps74 (by simp) (by simp) ?_
 repeat first|refine cg ?_|simp -dsimp
 revert hF;refine aN ?_ ?_<;>intro h1 q2 hF
 ·have hF:=ob hF;obtain⟨x,e3a,hF⟩:=hF
  have e3a:=ZU e3a;obtain⟨ne3,e3⟩:=e3a
  have le3:=ZD e3
  repeat first|refine cg ?_|simp -dsimp[h1,q2,↓e3]
  have hF:=ob hF;obtain⟨o',ho22,hF⟩:=hF
  refine ALoop.goU ⟨[(3,.ptr 0 0),(5,.own 1 (List.length (α:=Int) [])),(16,.arr (List.map Ctor.c x.ctors)),(17,.lit (.int .i64 (x.ctors.length:Int))),(18,.lit (.int .i64 0))],[.cells [.lit (.int .i64 t.data),.lit (.int .i64 t.index)],.elems 1 (List.map cI [])]⟩ (by refine Gh.trans (Gh.nil 5 1 (by simp -dsimp)) ?_;exact(gT (by simp) (by simp_all))) ?_
  refine((CC.f115 B hB1 hB2 t x) 0 [] o' ho22) _ rfl _ ?_
  cases hF
  repeat first|refine cg ?_|simp -dsimp
 ·cases hF
  repeat first|refine cg ?_|simp -dsimp[h1,q2]
theorem CC.f117 (s:List Int)(v:Int):(∀(i:Nat) (o:Lo Int Unit),F.f117 s v i=some o->∀(c:Code),ZY [1,0,1,0,0] (ZJ Tryz.f160)=some c->∀(Q:Exit->ASt->Prop),o.post (fun r=>∀st,ZAf Tryz.prog Tryz.f160 (fun r' _=>r'.le (li r)) .ret st->Q .ret st) (fun s=>Q (.exit 0) ⟨[],[]⟩)->ALoopU Tryz.prog B 0 19 (hold c .mk) ⟨[(0,am cI s),(1,li v),(7,li (s.length:Int)),(8,li (i:Int))],[]⟩ (hold Q .mk)):=by
 refine F.f117.partial_correctness s v
  _
  ?_
 ·intro _f_f117 ih_f117 i o hF
  intro c hc Q hq
  obtain rfl:c=_:=ZK hc rfl
  refine kN fun hk hs=> ?_
  have b0:=hk 0
  simp -dsimp at b0
  clear hk hs
  refine eN ?_
  repeat first|refine cg ?_|simp -dsimp
  revert hF;refine aS ?_ ?_<;>intro h1 q2 hF
  ·have z3:((i:Int)<(s.length:Int)):=auz
   have hF:=ob hF;obtain⟨x,e4,hF⟩:=hF
   have le4:=ZD e4
   repeat first|refine cg ?_|simp -dsimp[h1,z3,↓e4]
   revert hF;refine aS ?_ ?_<;>intro h5 q6 hF
   ·cases hF
    repeat first|refine cg ?_|simp -dsimp[h5]
    refine lG _ (gR _) (hq _ ?_)
    repeat first|refine cg ?_|simp -dsimp
   ·have w7:i64.wrap ((i:Int)+1)=(i:Int)+1:=ZE (by omega) (by omega)
    repeat first|refine cg ?_|simp -dsimp[q6,w7]
    refine aG _ ?_ ((ih_f117 (i+1) o hF) _ rfl _ hq)
    exact(gT (by simp) (by simp_all))
  ·have z3:¬((i:Int)<(s.length:Int)):=auz
   cases hF
   repeat first|refine cg ?_|simp -dsimp[h1,q2,z3]
   refine lG _ (gT (by simp) (by simp_all)) hq
theorem C.f118 (s:List Int)(v:Int)(r:Int)(hF:F.f118 s v=some r):PureCall Tryz.prog B 160 [am cI s,li v] (li r):=by
 unfold F.f118 at hF
 refine pE Tryz.func160 (by kernel_rfl) rfl Tryz.ntmps160 (by simp) (by simp) ?_
 repeat first|refine cg ?_|simp -dsimp
 have hF:=ob hF;obtain⟨o',ho8,hF⟩:=hF
 refine ALoop.goU _ ?_ (((CC.f117 B hB1 hB2 s v) 0 o' ho8) _ rfl _ ?_)
 ·exact(gT (by simp) (by simp -dsimp))
 rcases o' with r0|sx
 ·dsimp only at hF
  cases hF
  intro st h
  simpa using h
 ·dsimp only at hF
  cases hF
  repeat first|refine cg ?_|simp -dsimp
theorem C.f119 (s:List Int)(v:Int)(r:Bool)(hF:F.f119 s v=some r):PureCall Tryz.prog B 132 [am cI s,li v] (.lit (.bool r)):=by
 unfold F.f119 at hF
 refine pE Tryz.func132 (by kernel_rfl) rfl Tryz.ntmps132 (by simp) (by simp) ?_
 repeat first|refine cg ?_|simp -dsimp
 have hF:=ob hF;obtain⟨v1,e2,hF⟩:=hF
 refine((C.f118 B hB1 hB2 s v v1 e2)).goW (by simp) (by simp) ?_
 cases hF
 repeat first|refine cg ?_|simp -dsimp
theorem CC.f120 (t:Ty)(x2:Ctor):(∀(i:Nat) (out:List Ty) (o:List Ty),F.f120 t x2 i out=some o->∀(c:Code),ZY [1,1,1,1,1,0,1,0,0] (ZJ Tryz.f86)=some c->∀(Q:Exit->ASt->Prop),(Q (.exit 0) ⟨[(9,.own 2 (List.length (α:=Ty) o))],[.dead,.dead,.elems 2 (List.map Ty.c o)]⟩)->ALoopU Tryz.prog B 0 45 (hold c .mk) ⟨[(8,li t.index),(9,.own 2 (List.length (α:=Ty) out)),(28,am Ty.c x2.args),(29,li (x2.args.length:Int)),(30,li (i:Int))],[.dead,.dead,.elems 2 (List.map Ty.c out)]⟩ (hold Q .mk)):=by
 refine F.f120.partial_correctness t x2
  _
  ?_
 ·intro _f_f120 ih_f120 i out o hF
  intro c hc Q hq
  obtain rfl:c=_:=ZK hc rfl
  refine kN fun hk hs=> ?_
  have b28:=hk 28
  simp -dsimp at b28
  have d2:=hs 2 _ rfl
  simp -dsimp[Blk.bnd]at d2
  clear hk hs
  refine eN ?_
  repeat first|refine cg ?_|simp -dsimp
  revert hF;refine aS ?_ ?_<;>intro h6 q7 hF
  ·have z8:((i:Int)<(x2.args.length:Int)):=auz
   have hF:=ob hF;obtain⟨x9,e10,hF⟩:=hF
   have le10:=ZD e10
   repeat first|refine cg ?_|simp -dsimp[h6,z8,↓e10]
   revert hF;refine aS ?_ ?_<;>intro h11 q12 hF
   ·have hF:=oc hF;obtain⟨c13,hF⟩:=hF
    have w14:i64.wrap ((i:Int)+1)=(i:Int)+1:=ZE (by omega) (by omega)
    repeat first|refine cg ?_|simp -dsimp[h11,w14]
    refine aG _ ?_ ((ih_f120 (i+1) (out++[(⟨x9.data,t.index⟩:Ty)]) o hF) _ rfl _ hq)
    exact(gT (by simp) (by simp_all))
   ·have hF:=oc hF;obtain⟨c15,hF⟩:=hF
    have w16:i64.wrap ((i:Int)+1)=(i:Int)+1:=ZE (by omega) (by omega)
    repeat first|refine cg ?_|simp -dsimp[h11,q12,w16]
    refine aG _ ?_ ((ih_f120 (i+1) (out++[x9]) o hF) _ rfl _ hq)
    exact(gT (by simp) (by simp_all))
  ·have z8:¬((i:Int)<(x2.args.length:Int)):=auz
   cases hF
   repeat first|refine cg ?_|simp -dsimp[h6,q7,z8]
   refine lG _ (gT (by simp) (by simp_all)) hq
theorem CC.f121 (x2:Ctor):(∀(i18:Nat) (out19:List Ty) (o:List Ty),F.f121 x2 i18 out19=some o->∀(c:Code),ZY [1,1,1,1,1,0,1,0,0] (ZJ Tryz.f86)=some c->∀(Q:Exit->ASt->Prop),(Q (.exit 0) ⟨[(9,.own 2 (List.length (α:=Ty) o))],[.dead,.dead,.elems 2 (List.map Ty.c o)]⟩)->ALoopU Tryz.prog B 0 45 (hold c .mk) ⟨[(8,li x2.index),(9,.own 2 (List.length (α:=Ty) out19)),(28,am Ty.c x2.args),(29,li (x2.args.length:Int)),(30,li (i18:Int))],[.dead,.dead,.elems 2 (List.map Ty.c out19)]⟩ (hold Q .mk)):=by
 refine F.f121.partial_correctness x2
  _
  ?_
 ·intro _f_f121 ih_f121 i18 out19 o hF
  intro c hc Q hq
  obtain rfl:c=_:=ZK hc rfl
  refine kN fun hk hs=> ?_
  have b28:=hk 28
  simp -dsimp at b28
  have d2:=hs 2 _ rfl
  simp -dsimp[Blk.bnd]at d2
  clear hk hs
  refine eN ?_
  repeat first|refine cg ?_|simp -dsimp
  revert hF;refine aS ?_ ?_<;>intro h20 q21 hF
  ·have z22:((i18:Int)<(x2.args.length:Int)):=auz
   have hF:=ob hF;obtain⟨x23,e24,hF⟩:=hF
   have le24:=ZD e24
   repeat first|refine cg ?_|simp -dsimp[h20,z22,↓e24]
   revert hF;refine aS ?_ ?_<;>intro h25 q26 hF
   ·have hF:=oc hF;obtain⟨c27,hF⟩:=hF
    have w28:i64.wrap ((i18:Int)+1)=(i18:Int)+1:=ZE (by omega) (by omega)
    repeat first|refine cg ?_|simp -dsimp[h25,w28]
    refine aG _ ?_ ((ih_f121 (i18+1) (out19++[(⟨x23.data,x2.index⟩:Ty)]) o hF) _ rfl _ hq)
    exact(gT (by simp) (by simp_all))
   ·have hF:=oc hF;obtain⟨c29,hF⟩:=hF
    have w30:i64.wrap ((i18:Int)+1)=(i18:Int)+1:=ZE (by omega) (by omega)
    repeat first|refine cg ?_|simp -dsimp[h25,q26,w30]
    refine aG _ ?_ ((ih_f121 (i18+1) (out19++[x23]) o hF) _ rfl _ hq)
    exact(gT (by simp) (by simp_all))
  ·have z22:¬((i18:Int)<(x2.args.length:Int)):=auz
   cases hF
   repeat first|refine cg ?_|simp -dsimp[h20,q21,z22]
   refine lG _ (gT (by simp) (by simp_all)) hq
theorem C.f122 (w:List Vl.Data)(t:Ty)(ctor:Int)(r:List Ty)(hF:F.f122 w t ctor=some r):PureCall Tryz.prog B 86 [am Vl.Data.c w,.agg [li t.data,li t.index],li ctor] (am Ty.c r):=by
 unfold F.f122 at hF
 refine pE Tryz.func86 (by kernel_rfl) rfl Tryz.ntmps86 (by simp) (by simp) ?_
 have hF:=ob hF;obtain⟨x,e1a,hF⟩:=hF
 have e1a:=ZU e1a;obtain⟨ne1,e1⟩:=e1a
 have le1:=ZD e1
 have hF:=ob hF;obtain⟨x2,e3a,hF⟩:=hF
 have e3a:=ZU e3a;obtain⟨ne3,e3⟩:=e3a
 have le3:=ZD e3
 repeat first|refine cg ?_|simp -dsimp[↓e1,↓e3]
 revert hF;refine aS ?_ ?_<;>intro h4 q5 hF
 ·repeat first|refine cg ?_|simp -dsimp[h4]
  have hF:=ob hF;obtain⟨o',ho17,hF⟩:=hF
  refine ALoop.goU ⟨[(8,.lit (.int .i64 t.index)),(9,.own 2 (List.length (α:=Ty) [])),(28,.arr (List.map Ty.c x2.args)),(29,.lit (.int .i64 (x2.args.length:Int))),(30,.lit (.int .i64 0))],[.dead,.dead,.elems 2 (List.map Ty.c [])]⟩ (by refine Gh.trans (Gh.nil 9 2 (by simp -dsimp)) ?_;exact(gT (by simp) (by simp_all))) ?_
  refine((CC.f120 B hB1 hB2 t x2) 0 [] o' ho17) _ rfl _ ?_
  cases hF
  repeat first|refine cg ?_|simp -dsimp
 ·repeat first|refine cg ?_|simp -dsimp[q5]
  have hF:=ob hF;obtain⟨o'32,ho31,hF⟩:=hF
  refine ALoop.goU ⟨[(8,.lit (.int .i64 x2.index)),(9,.own 2 (List.length (α:=Ty) [])),(28,.arr (List.map Ty.c x2.args)),(29,.lit (.int .i64 (x2.args.length:Int))),(30,.lit (.int .i64 0))],[.dead,.dead,.elems 2 (List.map Ty.c [])]⟩ (by refine Gh.trans (Gh.nil 9 2 (by simp -dsimp)) ?_;exact(gT (by simp) (by simp_all))) ?_
  refine((CC.f121 B hB1 hB2 x2) 0 [] o'32 ho31) _ rfl _ ?_
  cases hF
  repeat first|refine cg ?_|simp -dsimp
theorem C.f123 (w:List Vl.Data)(t:Ty)(p:Pattern)(r:(List Ty)×Bool)(hF:F.f123 w t p=some r):PureCall Tryz.prog B 123 [am Vl.Data.c w,.agg [li t.data,li t.index],.agg [li p.op,li p.ctor,li p.n,li p.m,li p.var,am Pattern.c p.kids]] (.tup [am Ty.c r.1,.lit (.bool r.2)]):=by
 unfold F.f123 at hF
 refine pE Tryz.func123 (by kernel_rfl) rfl Tryz.ntmps123 (by simp) (by simp) ?_
 repeat first|refine cg ?_|simp -dsimp
 revert hF;refine aS ?_ ?_<;>intro h1 q2 hF
 ·repeat first|refine cg ?_|simp -dsimp[h1]
  have hF:=ob hF;obtain⟨v,e3,hF⟩:=hF
  refine((C.f113 B hB1 hB2 p false false false 0 v e3)).goW (by simp[h1]) (by simp) ?_
  cases hF
  repeat first|refine cg ?_|simp -dsimp[h1]
 ·repeat first|refine cg ?_|simp -dsimp[h1,q2]
  revert hF;refine aS ?_ ?_<;>intro h4 q5 hF
  ·repeat first|refine cg ?_|simp -dsimp[h1,q2,h4]
   have hF:=ob hF;obtain⟨v6,e7,hF⟩:=hF
   refine((C.f113 B hB1 hB2 p false false true 0 v6 e7)).goW (by simp[h1,q2,h4]) (by simp) ?_
   repeat first|refine cg ?_|simp -dsimp[h1,q2,h4]
   revert hF;refine aS (fun h8 q9 hF=> ?_) (fun h8 q9 hF=> ?_)
   ·repeat first|refine cg ?_|simp -dsimp[h1,q2,h4,h8]
    have hF:=ob hF;obtain⟨v10,e11,hF⟩:=hF
    refine((C.f114 B hB1 hB2 p.var v10 e11)).goW (by simp[h1,q2,h4,h8]) (by simp) ?_
    cases hF
    repeat first|refine cg ?_|simp -dsimp[h1,q2,h4,h8]
   ·cases hF
    repeat first|refine cg ?_|simp -dsimp[h1,q2,h4,h8,q9]
  ·repeat first|refine cg ?_|simp -dsimp[h1,q2,h4,q5]
   revert hF;refine aS ?_ ?_<;>intro h12 q13 hF
   ·repeat first|refine cg ?_|simp -dsimp[h1,q2,h4,q5,h12]
    refine ADraw.simple follows (by kernel_rfl) (by kernel_rfl) ?_
    repeat first|refine cg ?_|simp -dsimp[h1,q2,h4,q5,h12]
    revert hF;refine aS ?_ ?_<;>intro h14 q15 hF
    ·repeat first|refine cg ?_|simp -dsimp[h1,q2,h4,q5,h12,h14]
     have hF:=ob hF;obtain⟨v16,e17,hF⟩:=hF
     refine((C.f113 B hB1 hB2 p false true false 0 v16 e17)).pgoW (by simp[h1,q2,h4,q5,h12,h14]) (by simp) ?_
     repeat first|refine cg ?_|simp -dsimp[h1,q2,h4,q5,h12,h14]
     revert hF;refine aS (fun h18 q19 hF=> ?_) (fun h18 q19 hF=> ?_)
     ·repeat first|refine cg ?_|simp -dsimp[h1,q2,h4,q5,h12,h14,h18]
      revert hF;refine aS ?_ ?_<;>intro h20 q21 hF
      ·repeat first|refine cg ?_|simp -dsimp[h1,q2,h4,q5,h12,h14,h18,h20]
       revert hF;refine aS ?_ ?_<;>intro h22 q23 hF
       ·cases hF
        repeat first|refine cg ?_|simp -dsimp[h1,q2,h4,q5,h12,h14,h18,h20,h22]
       ·cases hF
        repeat first|refine cg ?_|simp -dsimp[h1,q2,h4,q5,h12,h14,h18,h20,h22,q23]
      ·cases hF
       repeat first|refine cg ?_|simp -dsimp[h1,q2,h4,q5,h12,h14,h18,h20,q21]
     ·cases hF
      repeat first|refine cg ?_|simp -dsimp[h1,q2,h4,q5,h12,h14,h18,q19]
    ·cases hF
     repeat first|refine cg ?_|simp -dsimp[h1,q2,h4,q5,h12,h14,q15]
   ·repeat first|refine cg ?_|simp -dsimp[h1,q2,h4,q5,h12,q13]
    revert hF;refine aS ?_ ?_<;>intro h24 q25 hF
    ·repeat first|refine cg ?_|simp -dsimp[h1,q2,h4,q5,h12,q13,h24]
     refine ADraw.simple follows (by kernel_rfl) (by kernel_rfl) ?_
     repeat first|refine cg ?_|simp -dsimp[h1,q2,h4,q5,h12,q13,h24]
     have hF:=ob hF;obtain⟨v26,e27,hF⟩:=hF
     refine((C.f116 B hB1 hB2 w t v26 e27)).pgoW (by simp[h1,q2,h4,q5,h12,q13,h24]) (by simp) ?_
     repeat first|refine cg ?_|simp -dsimp[h1,q2,h4,q5,h12,q13,h24]
     have hF:=ob hF;obtain⟨v28,e29,hF⟩:=hF
     refine((C.f119 B hB1 hB2 v26 p.ctor v28 e29)).pgoW (by simp[h1,q2,h4,q5,h12,q13,h24]) (by simp) ?_
     repeat first|refine cg ?_|simp -dsimp[h1,q2,h4,q5,h12,q13,h24]
     revert hF;refine aN (fun h30 q31 hF=> ?_) (fun h30 q31 hF=> ?_)
     ·cases hF
      repeat first|refine cg ?_|simp -dsimp[h1,q2,h4,q5,h12,q13,h24,h30,q31]
     ·repeat first|refine cg ?_|simp -dsimp[h1,q2,h4,q5,h12,q13,h24,h30,q31]
      have hF:=ob hF;obtain⟨v32,e33,hF⟩:=hF
      refine((C.f122 B hB1 hB2 w t p.ctor v32 e33)).goW (by simp[h1,q2,h4,q5,h12,q13,h24,h30,q31]) (by simp) ?_
      repeat first|refine cg ?_|simp -dsimp[h1,q2,h4,q5,h12,q13,h24,h30,q31]
      have hF:=ob hF;obtain⟨v34,e35,hF⟩:=hF
      refine((C.f113 B hB1 hB2 p true false false (v32.length:Int) v34 e35)).goW (by simp[h1,q2,h4,q5,h12,q13,h24,h30,q31]) (by simp) ?_
      cases hF
      repeat first|refine cg ?_|simp -dsimp[h1,q2,h4,q5,h12,q13,h24,h30,q31]
    ·repeat first|refine cg ?_|simp -dsimp[h1,q2,h4,q5,h12,q13,h24,q25]
     revert hF;refine aS ?_ ?_<;>intro h36 q37 hF
     ·repeat first|refine cg ?_|simp -dsimp[h1,q2,h4,q5,h12,q13,h24,q25,h36]
      refine ADraw.eff [] [(0,0),(0,0),(0,1),(0,1),(0,1),(1,1),(1,1)] [1,1,1,2,1,1,1] follows (by kernel_rfl) (by kernel_rfl) (by kernel_rfl) ?_
      repeat first|refine cg ?_|simp -dsimp[h1,q2,h4,q5,h12,q13,h24,q25,h36]
      have hF:=ob hF;obtain⟨v38,e39,hF⟩:=hF
      refine((C.f113 B hB1 hB2 p false false false 2 v38 e39)).pgoW (by simp[h1,q2,h4,q5,h12,q13,h24,q25,h36]) (by simp) ?_
      cases hF
      repeat first|refine cg ?_|simp -dsimp[h1,q2,h4,q5,h12,q13,h24,q25,h36]
     ·repeat first|refine cg ?_|simp -dsimp[h1,q2,h4,q5,h12,q13,h24,q25,h36,q37]
      revert hF;refine aS ?_ ?_<;>intro h40 q41 hF
      ·repeat first|refine cg ?_|simp -dsimp[h1,q2,h4,q5,h12,q13,h24,q25,h36,q37,h40]
       refine ADraw.eff [] [(0,0),(0,1),(0,1),(0,1),(0,1),(0,1),(0,1),(0,1),(0,1),(1,1),(1,1)] [1,1,2,1,1,0,2,1,1,1,1] follows (by kernel_rfl) (by kernel_rfl) (by kernel_rfl) ?_
       repeat first|refine cg ?_|simp -dsimp[h1,q2,h4,q5,h12,q13,h24,q25,h36,q37,h40]
       have hF:=ob hF;obtain⟨v42,e43,hF⟩:=hF
       refine((C.f113 B hB1 hB2 p false false true 1 v42 e43)).pgoW (by simp[h1,q2,h4,q5,h12,q13,h24,q25,h36,q37,h40]) (by simp) ?_
       repeat first|refine cg ?_|simp -dsimp[h1,q2,h4,q5,h12,q13,h24,q25,h36,q37,h40]
       revert hF;refine aS (fun h44 q45 hF=> ?_) (fun h44 q45 hF=> ?_)
       ·repeat first|refine cg ?_|simp -dsimp[h1,q2,h4,q5,h12,q13,h24,q25,h36,q37,h40,h44]
        have hF:=ob hF;obtain⟨v46,e47,hF⟩:=hF
        refine((C.f114 B hB1 hB2 p.var v46 e47)).pgoW (by simp[h1,q2,h4,q5,h12,q13,h24,q25,h36,q37,h40,h44]) (by simp) ?_
        cases hF
        repeat first|refine cg ?_|simp -dsimp[h1,q2,h4,q5,h12,q13,h24,q25,h36,q37,h40,h44]
       ·skip
        cases hF
        repeat first|refine cg ?_|simp -dsimp[h1,q2,h4,q5,h12,q13,h24,q25,h36,q37,h40,h44,q45]
      ·cases hF
       repeat first|refine cg ?_|simp -dsimp[h1,q2,h4,q5,h12,q13,h24,q25,h36,q37,h40,q41]
theorem CC.f124 (s:List VarType)(v:VarType):(∀(i:Nat) (o:Lo Int Unit),F.f124 s v i=some o->∀(c:Code),ZY [1,0,1,0,0] (ZJ Tryz.f171)=some c->∀(Q:Exit->ASt->Prop),o.post (fun r=>∀st,ZAf Tryz.prog Tryz.f171 (fun r' _=>r'.le (li r)) .ret st->Q .ret st) (fun s=>Q (.exit 0) ⟨[],[]⟩)->ALoopU Tryz.prog B 0 19 (hold c .mk) ⟨[(0,am VarType.c s),(3,.ptr 0 0),(7,li (s.length:Int)),(8,li (i:Int))],[.cells [li v.var,li v.type.data,li v.type.index]]⟩ (hold Q .mk)):=by
 refine F.f124.partial_correctness s v
  _
  ?_
 ·intro _f_f124 ih_f124 i o hF
  intro c hc Q hq
  obtain rfl:c=_:=ZK hc rfl
  refine kN fun hk hs=> ?_
  have b0:=hk 0
  simp -dsimp at b0
  clear hk hs
  refine eN ?_
  repeat first|refine cg ?_|simp -dsimp
  revert hF;refine aS ?_ ?_<;>intro h1 q2 hF
  ·have z3:((i:Int)<(s.length:Int)):=auz
   repeat first|refine cg ?_|simp -dsimp[h1,z3]
   refine ADraw.simple follows (by kernel_rfl) (by kernel_rfl) ?_
   have hF:=ob hF;obtain⟨x,e4,hF⟩:=hF
   have le4:=ZD e4
   repeat first|refine cg ?_|simp -dsimp[↓e4]
   revert hF;refine aS (fun h5 q6 hF=> ?_) (fun h5 q6 hF=> ?_)
   ·cases hF
    repeat first|refine cg ?_|simp -dsimp[h5]
    refine lG _ (gR _) (hq _ ?_)
    repeat first|refine cg ?_|simp -dsimp
   ·have w7:i64.wrap ((i:Int)+1)=(i:Int)+1:=ZE (by omega) (by omega)
    repeat first|refine cg ?_|simp -dsimp[q6,w7]
    refine aG _ ?_ ((ih_f124 (i+1) o hF) _ rfl _ hq)
    exact(gT (by simp) (by simp_all))
  ·have z3:¬((i:Int)<(s.length:Int)):=auz
   cases hF
   repeat first|refine cg ?_|simp -dsimp[h1,q2,z3]
   refine lG _ (gT (by simp) (by simp_all)) hq
theorem C.f125 (s:List VarType)(v:VarType)(r:Int)(hF:F.f125 s v=some r):PureCall Tryz.prog B 171 [am VarType.c s,.agg [li v.var,li v.type.data,li v.type.index]] (li r):=by
 unfold F.f125 at hF
 refine pE Tryz.func171 (by kernel_rfl) rfl Tryz.ntmps171 (by simp) (by simp) ?_
 repeat first|refine cg ?_|simp -dsimp
 have hF:=ob hF;obtain⟨o',ho8,hF⟩:=hF
 refine ALoop.goU _ ?_ (((CC.f124 B hB1 hB2 s v) 0 o' ho8) _ rfl _ ?_)
 ·exact(gT (by simp) (by simp -dsimp))
 rcases o' with r0|sx
 ·dsimp only at hF
  cases hF
  intro st h
  simpa using h
 ·dsimp only at hF
  cases hF
  repeat first|refine cg ?_|simp -dsimp
theorem C.f126 (s:List VarType)(v:VarType)(r:Bool)(hF:F.f126 s v=some r):PureCall Tryz.prog B 136 [am VarType.c s,.agg [li v.var,li v.type.data,li v.type.index]] (.lit (.bool r)):=by
 unfold F.f126 at hF
 refine pE Tryz.func136 (by kernel_rfl) rfl Tryz.ntmps136 (by simp) (by simp) ?_
 repeat first|refine cg ?_|simp -dsimp
 have hF:=ob hF;obtain⟨v1,e2,hF⟩:=hF
 refine((C.f125 B hB1 hB2 s v v1 e2)).goW (by simp) (by simp) ?_
 cases hF
 repeat first|refine cg ?_|simp -dsimp
theorem C.f127 (v:VarType)(a1:List VarType)(r:Bool)(hF:F.f127 v a1=some r):PureCall Tryz.prog B 184 [.agg [li v.var,li v.type.data,li v.type.index],.rptr [am VarType.c a1] 0] (.lit (.bool r)):=by
 unfold F.f127 at hF
 refine pE Tryz.func184 (by kernel_rfl) rfl Tryz.ntmps184 (by simp) (by simp) ?_
 repeat first|refine cg ?_|simp -dsimp
 have hF:=ob hF;obtain⟨v1,e2,hF⟩:=hF
 refine((C.f126 B hB1 hB2 a1 v v1 e2)).goW (by simp) (by simp) ?_
 cases hF
 repeat first|refine cg ?_|simp -dsimp
theorem CC.f128 (s:List VarType)(k0:List VarType):(∀(i:Nat) (o:Lo Int Unit),F.f128 s k0 i=some o->∀(c:Code),ZY [1,0,1,0,0] (ZJ Tryz.f188)=some c->∀(Q:Exit->ASt->Prop),o.post (fun r=>∀st,ZAf Tryz.prog Tryz.f188 (fun r' _=>r'.le (li r)) .ret st->Q .ret st) (fun s=>Q (.exit 0) ⟨[],[]⟩)->ALoopU Tryz.prog B 0 19 (hold c .mk) ⟨[(0,am VarType.c s),(1,.fn (.func 184) [] [.rptr [am VarType.c k0] 0]),(7,li (s.length:Int)),(8,li (i:Int))],[]⟩ (hold Q .mk)):=by
 refine F.f128.partial_correctness s k0
  _
  ?_
 ·intro _f_f128 ih_f128 i o hF
  intro c hc Q hq
  obtain rfl:c=_:=ZK hc rfl
  refine kN fun hk hs=> ?_
  have b0:=hk 0
  simp -dsimp at b0
  clear hk hs
  refine eN ?_
  repeat first|refine cg ?_|simp -dsimp
  revert hF;refine aS ?_ ?_<;>intro h1 q2 hF
  ·have z3:((i:Int)<(s.length:Int)):=auz
   have hF:=ob hF;obtain⟨x,e4,hF⟩:=hF
   have le4:=ZD e4
   repeat first|refine cg ?_|simp -dsimp[h1,z3,↓e4]
   have hF:=ob hF;obtain⟨v,e5,hF⟩:=hF
   refine((C.f127 B hB1 hB2 x k0 v e5)).goW (by simp_all) (by simp) ?_
   repeat first|refine cg ?_|simp -dsimp
   revert hF;refine aS (fun h6 q7 hF=> ?_) (fun h6 q7 hF=> ?_)
   ·cases hF
    repeat first|refine cg ?_|simp -dsimp[h6]
    refine lG _ (gR _) (hq _ ?_)
    repeat first|refine cg ?_|simp -dsimp
   ·have w8:i64.wrap ((i:Int)+1)=(i:Int)+1:=ZE (by omega) (by omega)
    repeat first|refine cg ?_|simp -dsimp[q7,w8]
    refine aG _ ?_ ((ih_f128 (i+1) o hF) _ rfl _ hq)
    exact(gT (by simp) (by simp_all))
  ·have z3:¬((i:Int)<(s.length:Int)):=auz
   cases hF
   repeat first|refine cg ?_|simp -dsimp[h1,q2,z3]
   refine lG _ (gT (by simp) (by simp_all)) hq
theorem C.f129 (s:List VarType)(k0:List VarType)(r:Int)(hF:F.f129 s k0=some r):PureCall Tryz.prog B 188 [am VarType.c s,.fn (.func 184) [] [.rptr [am VarType.c k0] 0]] (li r):=by
 unfold F.f129 at hF
 refine pE Tryz.func188 (by kernel_rfl) rfl Tryz.ntmps188 (by simp) (by simp) ?_
 repeat first|refine cg ?_|simp -dsimp
 have hF:=ob hF;obtain⟨o',ho9,hF⟩:=hF
 refine ALoop.goU _ ?_ (((CC.f128 B hB1 hB2 s k0) 0 o' ho9) _ rfl _ ?_)
 ·exact(gT (by simp) (by simp -dsimp))
 rcases o' with r0|sx
 ·dsimp only at hF
  cases hF
  intro st h
  simpa using h
 ·dsimp only at hF
  cases hF
  repeat first|refine cg ?_|simp -dsimp
theorem C.f130 (s:List VarType)(k0:List VarType)(r:Bool)(hF:F.f130 s k0=some r):PureCall Tryz.prog B 183 [am VarType.c s,.fn (.func 184) [] [.rptr [am VarType.c k0] 0]] (.lit (.bool r)):=by
 unfold F.f130 at hF
 refine pE Tryz.func183 (by kernel_rfl) rfl Tryz.ntmps183 (by simp) (by simp) ?_
 repeat first|refine cg ?_|simp -dsimp
 have hF:=ob hF;obtain⟨v,e1,hF⟩:=hF
 refine((C.f129 B hB1 hB2 s k0 v e1)).goW (by simp) (by simp) ?_
 cases hF
 repeat first|refine cg ?_|simp -dsimp
theorem C.f131 (a:List VarType)(b:List VarType)(r:Bool)(hF:F.f131 a b=some r):PureCall Tryz.prog B 169 [am VarType.c a,am VarType.c b] (.lit (.bool r)):=by
 unfold F.f131 at hF
 refine pE Tryz.func169 (by kernel_rfl) rfl Tryz.ntmps169 (by simp) (by simp) ?_
 repeat first|refine cg ?_|simp -dsimp
 revert hF;refine aS ?_ ?_<;>intro h1 q2 hF
 ·have z3:((a.length:Int)=(b.length:Int)):=auz
  repeat first|refine cg ?_|simp -dsimp[h1,z3]
  have hF:=ob hF;obtain⟨v,e4,hF⟩:=hF
  refine((C.f130 B hB1 hB2 a b v e4)).lend (by simp -dsimp[h1,z3]) (by simp -dsimp) ?_
  cases hF
  repeat first|refine cg ?_|simp -dsimp[h1,z3]
 ·have z3:¬((a.length:Int)=(b.length:Int)):=auz
  cases hF
  repeat first|refine cg ?_|simp -dsimp[h1,q2,z3]
theorem CC.f132 (sx:Int×(List VarType)):(∀(set':Nat->Bool) (i37:Nat) (o:Lo ((List VarType)×Bool×Int) Unit),F.f132 sx set' i37=some o->∀(c:Code),ZY [1,1,1,1,1,1,1,1,1,0,1,0,0] (ZJ Tryz.f134)=some c->∀(Q:Exit->ASt->Prop),o.post (fun r=>∀st,ZAf Tryz.prog Tryz.f134 (fun r' σ'=>r'.le (.tup [am VarType.c r.1,.lit (.bool r.2.1)])/\ZCu σ' [li r.2.2]) .ret st->Q .ret st) (fun s=>Q (.exit 3) ⟨[(14,.own 4 (List.length (α:=VarType) sx.2))],[.cells [li sx.1],.dead,.dead,.dead,.elems 3 (List.map VarType.c sx.2)]⟩)->ALoopU Tryz.prog B 1 114 (hold c .mk) ⟨[(14,.own 4 (List.length (α:=VarType) sx.2)),(19,.ptr 5 0),(99,.own 4 (List.length (α:=VarType) sx.2)),(100,li (sx.2.length:Int)),(101,li (i37:Int))],[.cells [li sx.1],.dead,.dead,.dead,.elems 3 (List.map VarType.c sx.2),.cells (fcB 6 set')]⟩ (hold Q .mk)):=by
 refine F.f132.partial_correctness sx
  _
  ?_
 ·intro _f_f132 ih_f132 set' i37 o hF
  intro c hc Q hq
  obtain rfl:c=_:=ZK hc rfl
  refine kN fun hk hs=> ?_
  have d4:=hs 4 _ rfl
  simp -dsimp[Blk.bnd]at d4
  clear hk hs
  refine eN ?_
  repeat first|refine cg ?_|simp -dsimp
  revert hF;refine aS ?_ ?_<;>intro h38 q39 hF
  ·have z40:((i37:Int)<(sx.2.length:Int)):=auz
   have hF:=ob hF;obtain⟨x41,e42,hF⟩:=hF
   have le42:=ZD e42
   have hF:=oc hF;obtain⟨c43,hF⟩:=hF
   repeat first|refine cg ?_|simp -dsimp[h38,z40,↓e42,c43]
   revert hF;refine aS (fun h44 q45 hF=> ?_) (fun h44 q45 hF=> ?_)
   ·cases hF
    repeat first|refine cg ?_|simp -dsimp[h44]
    refine lG _ (gR _) (hq _ ?_)
    repeat first|refine cg ?_|simp -dsimp
   ·have w46:i64.wrap ((i37:Int)+1)=(i37:Int)+1:=ZE (by omega) (by omega)
    repeat first|refine cg ?_|simp -dsimp[q45,w46]
    refine aG _ ?_ ((ih_f132 (ZHk set' x41.var.toNat true) (i37+1) o hF) _ rfl _ hq)
    exact(gT (by simp) (by simp_all))
  ·have z40:¬((i37:Int)<(sx.2.length:Int)):=auz
   cases hF
   repeat first|refine cg ?_|simp -dsimp[h38,q39,z40]
   refine lG _ (gT (by simp) (by simp_all)) hq
theorem CC.f133 (sx81:Int×(List VarType)):(∀(set'82:Nat->Bool) (i83:Nat) (o:Lo ((List VarType)×Bool×Int) Unit),F.f133 sx81 set'82 i83=some o->∀(c:Code),ZY [1,1,1,1,1,1,1,1,1,0,1,0,0] (ZJ Tryz.f134)=some c->∀(Q:Exit->ASt->Prop),o.post (fun r=>∀st,ZAf Tryz.prog Tryz.f134 (fun r' σ'=>r'.le (.tup [am VarType.c r.1,.lit (.bool r.2.1)])/\ZCu σ' [li r.2.2]) .ret st->Q .ret st) (fun s=>Q (.exit 3) ⟨[(14,.own 3 (List.length (α:=VarType) sx81.2))],[.cells [li sx81.1],.dead,.dead,.elems 3 (List.map VarType.c sx81.2)]⟩)->ALoopU Tryz.prog B 1 114 (hold c .mk) ⟨[(14,.own 3 (List.length (α:=VarType) sx81.2)),(19,.ptr 4 0),(99,.own 3 (List.length (α:=VarType) sx81.2)),(100,li (sx81.2.length:Int)),(101,li (i83:Int))],[.cells [li sx81.1],.dead,.dead,.elems 3 (List.map VarType.c sx81.2),.cells (fcB 6 set'82)]⟩ (hold Q .mk)):=by
 refine F.f133.partial_correctness sx81
  _
  ?_
 ·intro _f_f133 ih_f133 set'82 i83 o hF
  intro c hc Q hq
  obtain rfl:c=_:=ZK hc rfl
  refine kN fun hk hs=> ?_
  have d3:=hs 3 _ rfl
  simp -dsimp[Blk.bnd]at d3
  clear hk hs
  refine eN ?_
  repeat first|refine cg ?_|simp -dsimp
  revert hF;refine aS ?_ ?_<;>intro h84 q85 hF
  ·have z86:((i83:Int)<(sx81.2.length:Int)):=auz
   have hF:=ob hF;obtain⟨x87,e88,hF⟩:=hF
   have le88:=ZD e88
   have hF:=oc hF;obtain⟨c89,hF⟩:=hF
   repeat first|refine cg ?_|simp -dsimp[h84,z86,↓e88,c89]
   revert hF;refine aS (fun h90 q91 hF=> ?_) (fun h90 q91 hF=> ?_)
   ·cases hF
    repeat first|refine cg ?_|simp -dsimp[h90]
    refine lG _ (gR _) (hq _ ?_)
    repeat first|refine cg ?_|simp -dsimp
   ·have w92:i64.wrap ((i83:Int)+1)=(i83:Int)+1:=ZE (by omega) (by omega)
    repeat first|refine cg ?_|simp -dsimp[q91,w92]
    refine aG _ ?_ ((ih_f133 (ZHk set'82 x87.var.toNat true) (i83+1) o hF) _ rfl _ hq)
    exact(gT (by simp) (by simp_all))
  ·have z86:¬((i83:Int)<(sx81.2.length:Int)):=auz
   cases hF
   repeat first|refine cg ?_|simp -dsimp[h84,q85,z86]
   refine lG _ (gT (by simp) (by simp_all)) hq
theorem CC.f134 (sx128:Int×(List VarType)):(∀(set'129:Nat->Bool) (i130:Nat) (o:Lo ((List VarType)×Bool×Int) Unit),F.f134 sx128 set'129 i130=some o->∀(c:Code),ZY [1,1,1,1,1,1,1,1,1,0,1,0,0] (ZJ Tryz.f134)=some c->∀(Q:Exit->ASt->Prop),o.post (fun r=>∀st,ZAf Tryz.prog Tryz.f134 (fun r' σ'=>r'.le (.tup [am VarType.c r.1,.lit (.bool r.2.1)])/\ZCu σ' [li r.2.2]) .ret st->Q .ret st) (fun s=>Q (.exit 3) ⟨[(14,.own 4 (List.length (α:=VarType) sx128.2))],[.cells [li sx128.1],.dead,.dead,.dead,.elems 3 (List.map VarType.c sx128.2)]⟩)->ALoopU Tryz.prog B 1 114 (hold c .mk) ⟨[(14,.own 4 (List.length (α:=VarType) sx128.2)),(19,.ptr 5 0),(99,.own 4 (List.length (α:=VarType) sx128.2)),(100,li (sx128.2.length:Int)),(101,li (i130:Int))],[.cells [li sx128.1],.dead,.dead,.dead,.elems 3 (List.map VarType.c sx128.2),.cells (fcB 6 set'129)]⟩ (hold Q .mk)):=by
 refine F.f134.partial_correctness sx128
  _
  ?_
 ·intro _f_f134 ih_f134 set'129 i130 o hF
  intro c hc Q hq
  obtain rfl:c=_:=ZK hc rfl
  refine kN fun hk hs=> ?_
  have d4:=hs 4 _ rfl
  simp -dsimp[Blk.bnd]at d4
  clear hk hs
  refine eN ?_
  repeat first|refine cg ?_|simp -dsimp
  revert hF;refine aS ?_ ?_<;>intro h131 q132 hF
  ·have z133:((i130:Int)<(sx128.2.length:Int)):=auz
   have hF:=ob hF;obtain⟨x134,e135,hF⟩:=hF
   have le135:=ZD e135
   have hF:=oc hF;obtain⟨c136,hF⟩:=hF
   repeat first|refine cg ?_|simp -dsimp[h131,z133,↓e135,c136]
   revert hF;refine aS (fun h137 q138 hF=> ?_) (fun h137 q138 hF=> ?_)
   ·cases hF
    repeat first|refine cg ?_|simp -dsimp[h137]
    refine lG _ (gR _) (hq _ ?_)
    repeat first|refine cg ?_|simp -dsimp
   ·have w139:i64.wrap ((i130:Int)+1)=(i130:Int)+1:=ZE (by omega) (by omega)
    repeat first|refine cg ?_|simp -dsimp[q138,w139]
    refine aG _ ?_ ((ih_f134 (ZHk set'129 x134.var.toNat true) (i130+1) o hF) _ rfl _ hq)
    exact(gT (by simp) (by simp_all))
  ·have z133:¬((i130:Int)<(sx128.2.length:Int)):=auz
   cases hF
   repeat first|refine cg ?_|simp -dsimp[h131,q132,z133]
   refine lG _ (gT (by simp) (by simp_all)) hq
theorem CC.f135 (w:List Vl.Data):(∀(t:Ty) (p:Pattern) (deep:Int) (count:Int) (r:(List VarType)×Bool×Int),F.f135 w t p deep count=some r->MutCall Tryz.prog B 134 [li count] [am Vl.Data.c w,.agg [li t.data,li t.index],.agg [li p.op,li p.ctor,li p.n,li p.m,li p.var,am Pattern.c p.kids],li deep,.ptr 0 0] (.tup [am VarType.c r.1,.lit (.bool r.2.1)]) [li r.2.2])/\
  (∀(p:Pattern) (deep:Int) (v:(List Ty)×Bool) (z51:Int) (vars52:List VarType) (i53:Nat) (o:Lo ((List VarType)×Bool×Int) (Int×(List VarType))),F.f137 w p deep v z51 vars52 i53=some o->∀(c:Code),ZY [1,1,1,1,1,1,1,0,1,0,0] (ZJ Tryz.f134)=some c->∀(Q:Exit->ASt->Prop),o.post (fun r=>∀st,ZAf Tryz.prog Tryz.f134 (fun r' σ'=>r'.le (.tup [am VarType.c r.1,.lit (.bool r.2.1)])/\ZCu σ' [li r.2.2]) .ret st->Q .ret st) (fun s=>Q (.exit 0) ⟨[(14,.own 3 (List.length (α:=VarType) s.2))],[.cells [li s.1],.dead,.dead,.elems 3 (List.map VarType.c s.2)]⟩)->ALoopU Tryz.prog B 1 114 (hold c .mk) ⟨[(0,am Vl.Data.c w),(3,li deep),(4,.ptr 0 0),(7,.ptr 2 0),(12,am Ty.c v.1),(14,.own 3 (List.length (α:=VarType) vars52)),(60,am Pattern.c p.kids),(61,li (p.kids.length:Int)),(62,li (i53:Int))],[.cells [li z51],.dead,.cells [li p.op,li p.ctor,li p.n,li p.m,li p.var,am Pattern.c p.kids],.elems 3 (List.map VarType.c vars52)]⟩ (hold Q .mk))/\
  (∀(p:Pattern) (deep:Int) (v:(List Ty)×Bool) (z:Int) (vars:List VarType) (i:Nat) (o:Lo ((List VarType)×Bool×Int) (Int×(List VarType))),F.f136 w p deep v z vars i=some o->∀(c:Code),ZY [1,1,1,1,1,1,1,0,1,0,0] (ZJ Tryz.f134)=some c->∀(Q:Exit->ASt->Prop),o.post (fun r=>∀st,ZAf Tryz.prog Tryz.f134 (fun r' σ'=>r'.le (.tup [am VarType.c r.1,.lit (.bool r.2.1)])/\ZCu σ' [li r.2.2]) .ret st->Q .ret st) (fun s=>Q (.exit 0) ⟨[(14,.own 4 (List.length (α:=VarType) s.2))],[.cells [li s.1],.dead,.dead,.dead,.elems 3 (List.map VarType.c s.2)]⟩)->ALoopU Tryz.prog B 1 114 (hold c .mk) ⟨[(0,am Vl.Data.c w),(3,li deep),(4,.ptr 0 0),(7,.ptr 2 0),(12,am Ty.c v.1),(14,.own 4 (List.length (α:=VarType) vars)),(60,am Pattern.c p.kids),(61,li (p.kids.length:Int)),(62,li (i:Int))],[.cells [li z],.dead,.cells [li p.op,li p.ctor,li p.n,li p.m,li p.var,am Pattern.c p.kids],.dead,.elems 3 (List.map VarType.c vars)]⟩ (hold Q .mk))/\
  (∀(p:Pattern) (deep:Int) (v:(List Ty)×Bool) (z98:Int) (vars99:List VarType) (i100:Nat) (o:Lo ((List VarType)×Bool×Int) (Int×(List VarType))),F.f138 w p deep v z98 vars99 i100=some o->∀(c:Code),ZY [1,1,1,1,1,1,1,0,1,0,0] (ZJ Tryz.f134)=some c->∀(Q:Exit->ASt->Prop),o.post (fun r=>∀st,ZAf Tryz.prog Tryz.f134 (fun r' σ'=>r'.le (.tup [am VarType.c r.1,.lit (.bool r.2.1)])/\ZCu σ' [li r.2.2]) .ret st->Q .ret st) (fun s=>Q (.exit 0) ⟨[(14,.own 4 (List.length (α:=VarType) s.2))],[.cells [li s.1],.dead,.dead,.dead,.elems 3 (List.map VarType.c s.2)]⟩)->ALoopU Tryz.prog B 1 114 (hold c .mk) ⟨[(0,am Vl.Data.c w),(3,li deep),(4,.ptr 0 0),(7,.ptr 2 0),(12,am Ty.c v.1),(14,.own 4 (List.length (α:=VarType) vars99)),(60,am Pattern.c p.kids),(61,li (p.kids.length:Int)),(62,li (i100:Int))],[.cells [li z98],.dead,.cells [li p.op,li p.ctor,li p.n,li p.m,li p.var,am Pattern.c p.kids],.dead,.elems 3 (List.map VarType.c vars99)]⟩ (hold Q .mk)):=by
 refine F.f135.mutual_partial_correctness w
  _ _ _ _
  ?_ ?_ ?_ ?_
 ·intro _f_f137 _f_f136 _f_f138 ih_f137 ih_f136 ih_f138 t p deep count r hF
  refine MutCall.enter Tryz.func134 (by kernel_rfl) rfl Tryz.ntmps134 (by simp) (by simp) (by simp) (by simp) ?_
  repeat first|refine cg ?_|simp -dsimp
  revert hF;refine aN ?_ ?_<;>intro h1 q2 hF
  ·repeat first|refine cg ?_|simp -dsimp[h1,q2]
   revert hF;refine aS ?_ ?_<;>intro h3 q4 hF
   ·cases hF
    repeat first|refine cg ?_|simp -dsimp[h1,q2,h3]
    all_goals(try first|omega|rfl)
   ·repeat first|refine cg ?_|simp -dsimp[h1,q2,h3,q4]
    have hF:=ob hF;obtain⟨v,e5,hF⟩:=hF
    refine((C.f123 B hB1 hB2 w t p v e5)).goW (by first|simp[h1,q2,h3,q4];done|simp_all) (by simp) ?_
    repeat first|refine cg ?_|simp -dsimp[h1,q2,h3,q4]
    revert hF;refine aN (fun h6 q7 hF=> ?_) (fun h6 q7 hF=> ?_)
    ·cases hF
     repeat first|refine cg ?_|simp -dsimp[h1,q2,h3,q4,h6,q7]
     all_goals(try first|omega|rfl)
    ·repeat first|refine cg ?_|simp -dsimp[h1,q2,h3,q4,h6,q7]
     revert hF;refine aN ?_ ?_<;>intro h8 q9 hF
     ·repeat first|refine cg ?_|simp -dsimp[h1,q2,h3,q4,h6,q7,h8,q9]
      revert hF;refine aS ?_ ?_<;>intro h10 q11 hF
      ·repeat first|refine cg ?_|simp -dsimp[h1,q2,h3,q4,h6,q7,h8,q9,h10]
       have hF:=ob hF;obtain⟨o',ho36,hF⟩:=hF
       refine ALoop.goU _ ?_ ((ih_f136 p deep v (i64.wrap (count+1)) [(⟨p.var,t⟩:VarType)] 0 o' ho36) _ rfl _ ?_)
       ·exact(gT (by simp) (by first|simp -dsimp[h1,q2,h3,q4,h6,q7,h8,q9,h10];done|simp_all))
       rcases o' with r050|sx
       ·dsimp only at hF
        cases hF
        intro st h
        simpa using h
       ·dsimp only at hF
        repeat first|refine cg ?_|simp -dsimp
        have hF:=ob hF;obtain⟨o'48,ho47,hF⟩:=hF
        refine ALoop.goU _ ?_ (((CC.f132 B hB1 hB2 sx) (fun _=>false) 0 o'48 ho47) _ rfl _ ?_)
        ·exact(gT (by simp) (by simp -dsimp))
        rcases o'48 with r0|sx49
        ·dsimp only at hF
         cases hF
         intro st h
         simpa using h
        ·dsimp only at hF
         cases hF
         repeat first|refine cg ?_|simp -dsimp
         all_goals(try first|omega|rfl)
      ·repeat first|refine cg ?_|simp -dsimp[h1,q2,h3,q4,h6,q7,h8,q9,h10,q11]
       have hF:=ob hF;obtain⟨o'80,ho79,hF⟩:=hF
       refine ALoop.goU ⟨[(0,.arr (List.map Vl.Data.c w)),(3,.lit (.int .i64 deep)),(4,.ptr 0 0),(7,.ptr 2 0),(12,.arr (List.map Ty.c v.1)),(14,.own 3 (List.length (α:=VarType) [])),(60,.arr (List.map Pattern.c p.kids)),(61,.lit (.int .i64 (p.kids.length:Int))),(62,.lit (.int .i64 0))],[.cells [.lit (.int .i64 (i64.wrap (count+1)))],.dead,.cells [.lit (.int .i64 p.op),.lit (.int .i64 p.ctor),.lit (.int .i64 p.n),.lit (.int .i64 p.m),.lit (.int .i64 p.var),.arr (List.map Pattern.c p.kids)],.elems 3 (List.map VarType.c [])]⟩ (by refine Gh.trans (Gh.nil 14 3 (by simp -dsimp)) ?_;exact(gT (by simp) (by first|simp -dsimp[h1,q2,h3,q4,h6,q7,h8,q9,h10,q11];done|simp_all))) ?_
       refine(ih_f137 p deep v (i64.wrap (count+1)) [] 0 o'80 ho79) _ rfl _ ?_
       rcases o'80 with r097|sx81
       ·dsimp only at hF
        cases hF
        intro st h
        simpa using h
       ·dsimp only at hF
        repeat first|refine cg ?_|simp -dsimp
        have hF:=ob hF;obtain⟨o'94,ho93,hF⟩:=hF
        refine ALoop.goU _ ?_ (((CC.f133 B hB1 hB2 sx81) (fun _=>false) 0 o'94 ho93) _ rfl _ ?_)
        ·exact(gT (by simp) (by simp -dsimp))
        rcases o'94 with r096|sx95
        ·dsimp only at hF
         cases hF
         intro st h
         simpa using h
        ·dsimp only at hF
         cases hF
         repeat first|refine cg ?_|simp -dsimp
         all_goals(try first|omega|rfl)
     ·repeat first|refine cg ?_|simp -dsimp[h1,q2,h3,q4,h6,q7,h8,q9]
      have hF:=ob hF;obtain⟨o'127,ho126,hF⟩:=hF
      refine ALoop.goU _ ?_ ((ih_f138 p deep v (i64.wrap (count+1)) [(⟨p.var,t⟩:VarType)] 0 o'127 ho126) _ rfl _ ?_)
      ·exact(gT (by simp) (by first|simp -dsimp[h1,q2,h3,q4,h6,q7,h8,q9];done|simp_all))
      rcases o'127 with r0144|sx128
      ·dsimp only at hF
       cases hF
       intro st h
       simpa using h
      ·dsimp only at hF
       repeat first|refine cg ?_|simp -dsimp
       have hF:=ob hF;obtain⟨o'141,ho140,hF⟩:=hF
       refine ALoop.goU _ ?_ (((CC.f134 B hB1 hB2 sx128) (fun _=>false) 0 o'141 ho140) _ rfl _ ?_)
       ·exact(gT (by simp) (by simp -dsimp))
       rcases o'141 with r0143|sx142
       ·dsimp only at hF
        cases hF
        intro st h
        simpa using h
       ·dsimp only at hF
        cases hF
        repeat first|refine cg ?_|simp -dsimp
        all_goals(try first|omega|rfl)
  ·cases hF
   repeat first|refine cg ?_|simp -dsimp[h1,q2]
   all_goals(try first|omega|rfl)
 ·intro _f_f135 _f_f137 ih_f135 ih_f137 p deep v z51 vars52 i53 o hF
  intro c hc Q hq
  obtain rfl:c=_:=ZK hc rfl
  refine kN fun hk hs=> ?_
  have b0:=hk 0
  simp -dsimp at b0
  have b12:=hk 12
  simp -dsimp at b12
  have b60:=hk 60
  simp -dsimp at b60
  have d2:=hs 2 _ rfl
  simp -dsimp[Blk.bnd]at d2
  have d3:=hs 3 _ rfl
  simp -dsimp[Blk.bnd]at d3
  clear hk hs
  refine eN ?_
  repeat first|refine cg ?_|simp -dsimp
  revert hF;refine aS ?_ ?_<;>intro h54 q55 hF
  ·have z56:((i53:Int)<(p.kids.length:Int)):=auz
   have hF:=ob hF;obtain⟨x57,e58,hF⟩:=hF
   have le58:=ZD e58
   repeat first|refine cg ?_|simp -dsimp[h54,z56,↓e58]
   refine ADraw.eff [134] [(0,0),(0,0),(0,0),(0,0),(0,0),(0,0),(0,0),(0,0),(0,0),(0,1),(1,1),(1,1),(1,1),(1,1),(1,1)] [1,1,1,1,1,1,1,1,1,1,1,1,1,1,1] follows (by kernel_rfl) (by kernel_rfl) (by kernel_rfl) ?_
   have hF:=ob hF;obtain⟨x59,e60,hF⟩:=hF
   have le60:=ZD e60
   repeat first|refine cg ?_|simp -dsimp[h54,z56,↓e58,↓e60]
   have hF:=ob hF;obtain⟨v61,e62,hF⟩:=hF
   refine((ih_f135 x59 x57 (i64.wrap (deep+1)) z51 v61 e62)).ego 0 rfl (by first|simp[h54,z56,↓e58,↓e60];done|simp_all) (by simp) (by first|simp[h54,z56,↓e58,↓e60];done|simp_all) ?_
   repeat first|refine cg ?_|simp -dsimp[h54,z56,↓e58,↓e60]
   revert hF;refine aN (fun h63 q64 hF=> ?_) (fun h63 q64 hF=> ?_)
   ·cases hF
    repeat first|refine cg ?_|simp -dsimp[h54,z56,↓e58,↓e60,h63,q64]
    refine lG _ (gR _) (hq _ ?_)
    repeat first|refine cg ?_|simp -dsimp[h54,z56,↓e58,↓e60,h63,q64]
   ·repeat first|refine cg ?_|simp -dsimp[h54,z56,↓e58,↓e60,h63,q64]
    revert hF;refine aS ?_ ?_<;>intro h65 q66 hF
    ·repeat first|refine cg ?_|simp -dsimp[h54,z56,↓e58,↓e60,h63,q64,h65]
     revert hF;refine aS ?_ ?_<;>intro h67 q68 hF
     ·have z69:((i53:Int)=1):=auz
      repeat first|refine cg ?_|simp -dsimp[h54,z56,↓e58,↓e60,h63,q64,h65,eq_true h67,eq_true z69]
      have hF:=ob hF;obtain⟨v70,e71,hF⟩:=hF
      refine((C.f131 B hB1 hB2 vars52 v61.1 v70 e71)).lend (by first|simp -dsimp[h54,z56,↓e58,↓e60,h63,q64,h65,eq_true h67,eq_true z69];done|simp_all) (by simp -dsimp) ?_
      repeat first|refine cg ?_|simp -dsimp[h54,z56,↓e58,↓e60,h63,q64,h65,eq_true h67,eq_true z69]
      revert hF;refine aN (fun h72 q73 hF=> ?_) (fun h72 q73 hF=> ?_)
      ·cases hF
       repeat first|refine cg ?_|simp -dsimp[h54,z56,↓e58,↓e60,h63,q64,h65,eq_true h67,eq_true z69,h72,q73]
       refine lG _ (gR _) (hq _ ?_)
       repeat first|refine cg ?_|simp -dsimp[h54,z56,↓e58,↓e60,h63,q64,h65,eq_true h67,eq_true z69,h72,q73]
      ·have w74:i64.wrap ((i53:Int)+1)=(i53:Int)+1:=ZE (by omega) (by omega)
       repeat first|refine cg ?_|simp -dsimp[h54,z56,↓e58,↓e60,h63,q64,h65,eq_true h67,eq_true z69,h72,q73,w74]
       refine aG _ ?_ ((ih_f137 p deep v v61.2.2 vars52 (i53+1) o hF) _ rfl _ hq)
       exact(gT (by simp) (by first|simp -dsimp[h54,z56,↓e58,↓e60,h63,q64,h65,eq_true h67,eq_true z69,h72,q73,w74];done|simp_all))
     ·have z69:¬((i53:Int)=1):=auz
      have hF:=oc hF;obtain⟨c75,hF⟩:=hF
      have w76:i64.wrap ((i53:Int)+1)=(i53:Int)+1:=ZE (by omega) (by omega)
      repeat first|refine cg ?_|simp -dsimp[h54,z56,↓e58,↓e60,h63,q64,h65,h67,q68,z69,w76]
      refine aG _ ?_ ((ih_f137 p deep v v61.2.2 (vars52++v61.1) (i53+1) o hF) _ rfl _ hq)
      exact(gT (by simp) (by first|simp -dsimp[h54,z56,↓e58,↓e60,h63,q64,h65,h67,q68,z69,w76];done|simp_all))
    ·have hF:=oc hF;obtain⟨c77,hF⟩:=hF
     have w78:i64.wrap ((i53:Int)+1)=(i53:Int)+1:=ZE (by omega) (by omega)
     repeat first|refine cg ?_|simp -dsimp[h54,z56,↓e58,↓e60,h63,q64,h65,q66,w78]
     refine aG _ ?_ ((ih_f137 p deep v v61.2.2 (vars52++v61.1) (i53+1) o hF) _ rfl _ hq)
     exact(gT (by simp) (by first|simp -dsimp[h54,z56,↓e58,↓e60,h63,q64,h65,q66,w78];done|simp_all))
  ·have z56:¬((i53:Int)<(p.kids.length:Int)):=auz
   cases hF
   repeat first|refine cg ?_|simp -dsimp[h54,q55,z56]
   refine lG _ (gT (by simp) (by first|simp -dsimp[h54,q55,z56];done|simp_all)) hq
 ·intro _f_f135 _f_f136 ih_f135 ih_f136 p deep v z vars i o hF
  intro c hc Q hq
  obtain rfl:c=_:=ZK hc rfl
  refine kN fun hk hs=> ?_
  have b0:=hk 0
  simp -dsimp at b0
  have b12:=hk 12
  simp -dsimp at b12
  have b60:=hk 60
  simp -dsimp at b60
  have d2:=hs 2 _ rfl
  simp -dsimp[Blk.bnd]at d2
  have d4:=hs 4 _ rfl
  simp -dsimp[Blk.bnd]at d4
  clear hk hs
  refine eN ?_
  repeat first|refine cg ?_|simp -dsimp
  revert hF;refine aS ?_ ?_<;>intro h12 q13 hF
  ·have z14:((i:Int)<(p.kids.length:Int)):=auz
   have hF:=ob hF;obtain⟨x,e15,hF⟩:=hF
   have le15:=ZD e15
   repeat first|refine cg ?_|simp -dsimp[h12,z14,↓e15]
   refine ADraw.eff [134] [(0,0),(0,0),(0,0),(0,0),(0,0),(0,0),(0,0),(0,0),(0,0),(0,1),(1,1),(1,1),(1,1),(1,1),(1,1)] [1,1,1,1,1,1,1,1,1,1,1,1,1,1,1] follows (by kernel_rfl) (by kernel_rfl) (by kernel_rfl) ?_
   have hF:=ob hF;obtain⟨x16,e17,hF⟩:=hF
   have le17:=ZD e17
   repeat first|refine cg ?_|simp -dsimp[h12,z14,↓e15,↓e17]
   have hF:=ob hF;obtain⟨v18,e19,hF⟩:=hF
   refine((ih_f135 x16 x (i64.wrap (deep+1)) z v18 e19)).ego 0 rfl (by first|simp[h12,z14,↓e15,↓e17];done|simp_all) (by simp) (by first|simp[h12,z14,↓e15,↓e17];done|simp_all) ?_
   repeat first|refine cg ?_|simp -dsimp[h12,z14,↓e15,↓e17]
   revert hF;refine aN (fun h20 q21 hF=> ?_) (fun h20 q21 hF=> ?_)
   ·cases hF
    repeat first|refine cg ?_|simp -dsimp[h12,z14,↓e15,↓e17,h20,q21]
    refine lG _ (gR _) (hq _ ?_)
    repeat first|refine cg ?_|simp -dsimp[h12,z14,↓e15,↓e17,h20,q21]
   ·repeat first|refine cg ?_|simp -dsimp[h12,z14,↓e15,↓e17,h20,q21]
    revert hF;refine aS ?_ ?_<;>intro h22 q23 hF
    ·repeat first|refine cg ?_|simp -dsimp[h12,z14,↓e15,↓e17,h20,q21,h22]
     revert hF;refine aS ?_ ?_<;>intro h24 q25 hF
     ·have z26:((i:Int)=1):=auz
      repeat first|refine cg ?_|simp -dsimp[h12,z14,↓e15,↓e17,h20,q21,h22,eq_true h24,eq_true z26]
      have hF:=ob hF;obtain⟨v27,e28,hF⟩:=hF
      refine((C.f131 B hB1 hB2 vars v18.1 v27 e28)).lend (by first|simp -dsimp[h12,z14,↓e15,↓e17,h20,q21,h22,eq_true h24,eq_true z26];done|simp_all) (by simp -dsimp) ?_
      repeat first|refine cg ?_|simp -dsimp[h12,z14,↓e15,↓e17,h20,q21,h22,eq_true h24,eq_true z26]
      revert hF;refine aN (fun h29 q30 hF=> ?_) (fun h29 q30 hF=> ?_)
      ·cases hF
       repeat first|refine cg ?_|simp -dsimp[h12,z14,↓e15,↓e17,h20,q21,h22,eq_true h24,eq_true z26,h29,q30]
       refine lG _ (gR _) (hq _ ?_)
       repeat first|refine cg ?_|simp -dsimp[h12,z14,↓e15,↓e17,h20,q21,h22,eq_true h24,eq_true z26,h29,q30]
      ·have w31:i64.wrap ((i:Int)+1)=(i:Int)+1:=ZE (by omega) (by omega)
       repeat first|refine cg ?_|simp -dsimp[h12,z14,↓e15,↓e17,h20,q21,h22,eq_true h24,eq_true z26,h29,q30,w31]
       refine aG _ ?_ ((ih_f136 p deep v v18.2.2 vars (i+1) o hF) _ rfl _ hq)
       exact(gT (by simp) (by first|simp -dsimp[h12,z14,↓e15,↓e17,h20,q21,h22,eq_true h24,eq_true z26,h29,q30,w31];done|simp_all))
     ·have z26:¬((i:Int)=1):=auz
      have hF:=oc hF;obtain⟨c32,hF⟩:=hF
      have w33:i64.wrap ((i:Int)+1)=(i:Int)+1:=ZE (by omega) (by omega)
      repeat first|refine cg ?_|simp -dsimp[h12,z14,↓e15,↓e17,h20,q21,h22,h24,q25,z26,w33]
      refine aG _ ?_ ((ih_f136 p deep v v18.2.2 (vars++v18.1) (i+1) o hF) _ rfl _ hq)
      exact(gT (by simp) (by first|simp -dsimp[h12,z14,↓e15,↓e17,h20,q21,h22,h24,q25,z26,w33];done|simp_all))
    ·have hF:=oc hF;obtain⟨c34,hF⟩:=hF
     have w35:i64.wrap ((i:Int)+1)=(i:Int)+1:=ZE (by omega) (by omega)
     repeat first|refine cg ?_|simp -dsimp[h12,z14,↓e15,↓e17,h20,q21,h22,q23,w35]
     refine aG _ ?_ ((ih_f136 p deep v v18.2.2 (vars++v18.1) (i+1) o hF) _ rfl _ hq)
     exact(gT (by simp) (by first|simp -dsimp[h12,z14,↓e15,↓e17,h20,q21,h22,q23,w35];done|simp_all))
  ·have z14:¬((i:Int)<(p.kids.length:Int)):=auz
   cases hF
   repeat first|refine cg ?_|simp -dsimp[h12,q13,z14]
   refine lG _ (gT (by simp) (by first|simp -dsimp[h12,q13,z14];done|simp_all)) hq
 ·intro _f_f135 _f_f138 ih_f135 ih_f138 p deep v z98 vars99 i100 o hF
  intro c hc Q hq
  obtain rfl:c=_:=ZK hc rfl
  refine kN fun hk hs=> ?_
  have b0:=hk 0
  simp -dsimp at b0
  have b12:=hk 12
  simp -dsimp at b12
  have b60:=hk 60
  simp -dsimp at b60
  have d2:=hs 2 _ rfl
  simp -dsimp[Blk.bnd]at d2
  have d4:=hs 4 _ rfl
  simp -dsimp[Blk.bnd]at d4
  clear hk hs
  refine eN ?_
  repeat first|refine cg ?_|simp -dsimp
  revert hF;refine aS ?_ ?_<;>intro h101 q102 hF
  ·have z103:((i100:Int)<(p.kids.length:Int)):=auz
   have hF:=ob hF;obtain⟨x104,e105,hF⟩:=hF
   have le105:=ZD e105
   repeat first|refine cg ?_|simp -dsimp[h101,z103,↓e105]
   refine ADraw.eff [134] [(0,0),(0,0),(0,0),(0,0),(0,0),(0,0),(0,0),(0,0),(0,0),(0,1),(1,1),(1,1),(1,1),(1,1),(1,1)] [1,1,1,1,1,1,1,1,1,1,1,1,1,1,1] follows (by kernel_rfl) (by kernel_rfl) (by kernel_rfl) ?_
   have hF:=ob hF;obtain⟨x106,e107,hF⟩:=hF
   have le107:=ZD e107
   repeat first|refine cg ?_|simp -dsimp[h101,z103,↓e105,↓e107]
   have hF:=ob hF;obtain⟨v108,e109,hF⟩:=hF
   refine((ih_f135 x106 x104 (i64.wrap (deep+1)) z98 v108 e109)).ego 0 rfl (by first|simp[h101,z103,↓e105,↓e107];done|simp_all) (by simp) (by first|simp[h101,z103,↓e105,↓e107];done|simp_all) ?_
   repeat first|refine cg ?_|simp -dsimp[h101,z103,↓e105,↓e107]
   revert hF;refine aN (fun h110 q111 hF=> ?_) (fun h110 q111 hF=> ?_)
   ·cases hF
    repeat first|refine cg ?_|simp -dsimp[h101,z103,↓e105,↓e107,h110,q111]
    refine lG _ (gR _) (hq _ ?_)
    repeat first|refine cg ?_|simp -dsimp[h101,z103,↓e105,↓e107,h110,q111]
   ·repeat first|refine cg ?_|simp -dsimp[h101,z103,↓e105,↓e107,h110,q111]
    revert hF;refine aS ?_ ?_<;>intro h112 q113 hF
    ·repeat first|refine cg ?_|simp -dsimp[h101,z103,↓e105,↓e107,h110,q111,h112]
     revert hF;refine aS ?_ ?_<;>intro h114 q115 hF
     ·have z116:((i100:Int)=1):=auz
      repeat first|refine cg ?_|simp -dsimp[h101,z103,↓e105,↓e107,h110,q111,h112,eq_true h114,eq_true z116]
      have hF:=ob hF;obtain⟨v117,e118,hF⟩:=hF
      refine((C.f131 B hB1 hB2 vars99 v108.1 v117 e118)).lend (by first|simp -dsimp[h101,z103,↓e105,↓e107,h110,q111,h112,eq_true h114,eq_true z116];done|simp_all) (by simp -dsimp) ?_
      repeat first|refine cg ?_|simp -dsimp[h101,z103,↓e105,↓e107,h110,q111,h112,eq_true h114,eq_true z116]
      revert hF;refine aN (fun h119 q120 hF=> ?_) (fun h119 q120 hF=> ?_)
      ·cases hF
       repeat first|refine cg ?_|simp -dsimp[h101,z103,↓e105,↓e107,h110,q111,h112,eq_true h114,eq_true z116,h119,q120]
       refine lG _ (gR _) (hq _ ?_)
       repeat first|refine cg ?_|simp -dsimp[h101,z103,↓e105,↓e107,h110,q111,h112,eq_true h114,eq_true z116,h119,q120]
      ·have w121:i64.wrap ((i100:Int)+1)=(i100:Int)+1:=ZE (by omega) (by omega)
       repeat first|refine cg ?_|simp -dsimp[h101,z103,↓e105,↓e107,h110,q111,h112,eq_true h114,eq_true z116,h119,q120,w121]
       refine aG _ ?_ ((ih_f138 p deep v v108.2.2 vars99 (i100+1) o hF) _ rfl _ hq)
       exact(gT (by simp) (by first|simp -dsimp[h101,z103,↓e105,↓e107,h110,q111,h112,eq_true h114,eq_true z116,h119,q120,w121];done|simp_all))
     ·have z116:¬((i100:Int)=1):=auz
      have hF:=oc hF;obtain⟨c122,hF⟩:=hF
      have w123:i64.wrap ((i100:Int)+1)=(i100:Int)+1:=ZE (by omega) (by omega)
      repeat first|refine cg ?_|simp -dsimp[h101,z103,↓e105,↓e107,h110,q111,h112,h114,q115,z116,w123]
      refine aG _ ?_ ((ih_f138 p deep v v108.2.2 (vars99++v108.1) (i100+1) o hF) _ rfl _ hq)
      exact(gT (by simp) (by first|simp -dsimp[h101,z103,↓e105,↓e107,h110,q111,h112,h114,q115,z116,w123];done|simp_all))
    ·have hF:=oc hF;obtain⟨c124,hF⟩:=hF
     have w125:i64.wrap ((i100:Int)+1)=(i100:Int)+1:=ZE (by omega) (by omega)
     repeat first|refine cg ?_|simp -dsimp[h101,z103,↓e105,↓e107,h110,q111,h112,q113,w125]
     refine aG _ ?_ ((ih_f138 p deep v v108.2.2 (vars99++v108.1) (i100+1) o hF) _ rfl _ hq)
     exact(gT (by simp) (by first|simp -dsimp[h101,z103,↓e105,↓e107,h110,q111,h112,q113,w125];done|simp_all))
  ·have z103:¬((i100:Int)<(p.kids.length:Int)):=auz
   cases hF
   repeat first|refine cg ?_|simp -dsimp[h101,q102,z103]
   refine lG _ (gT (by simp) (by first|simp -dsimp[h101,q102,z103];done|simp_all)) hq
theorem C.f139 (w:List Vl.Data)(t:Ty)(p:Pattern)(r:(List VarType)×Bool)(hF:F.f139 w t p=some r):PureCall Tryz.prog B 96 [am Vl.Data.c w,.agg [li t.data,li t.index],.agg [li p.op,li p.ctor,li p.n,li p.m,li p.var,am Pattern.c p.kids]] (.tup [am VarType.c r.1,.lit (.bool r.2)]):=by
 unfold F.f139 at hF
 refine pE Tryz.func96 (by kernel_rfl) rfl Tryz.ntmps96 (by simp) (by simp) ?_
 repeat first|refine cg ?_|simp -dsimp
 have hF:=ob hF;obtain⟨v,e1,hF⟩:=hF
 refine(((CC.f135 B hB1 hB2 w).1 t p 1 0 v e1)).go 2 rfl (by simp) (by simp) (by simp) ?_
 cases hF
 repeat first|refine cg ?_|simp -dsimp
theorem C.f140 (g:Guard)(vars:List VarType)(r:Bool)(hF:F.f140 g vars=some r):PureCall Tryz.prog B 100 [.agg [li g.op,li g.var,li g.n],am VarType.c vars] (.lit (.bool r)):=by
 unfold F.f140 at hF
 refine pE Tryz.func100 (by kernel_rfl) rfl Tryz.ntmps100 (by simp) (by simp) ?_
 repeat first|refine cg ?_|simp -dsimp
 revert hF;refine aS ?_ ?_<;>intro h1 q2 hF
 ·cases hF
  repeat first|refine cg ?_|simp -dsimp[h1]
 ·repeat first|refine cg ?_|simp -dsimp[h1,q2]
  have hF:=ob hF;obtain⟨v,e3,hF⟩:=hF
  refine((C.f99 B hB1 hB2 g.op 1 2 v e3)).goW (by simp[h1,q2]) (by simp) ?_
  repeat first|refine cg ?_|simp -dsimp[h1,q2]
  revert hF;refine aS (fun h4 q5 hF=> ?_) (fun h4 q5 hF=> ?_)
  ·repeat first|refine cg ?_|simp -dsimp[h1,q2,h4]
   have hF:=ob hF;obtain⟨v6,e7,hF⟩:=hF
   refine((C.f99 B hB1 hB2 g.n 0 9 v6 e7)).goW (by simp[h1,q2,h4]) (by simp) ?_
   repeat first|refine cg ?_|simp -dsimp[h1,q2,h4]
   revert hF;refine aS (fun h8 q9 hF=> ?_) (fun h8 q9 hF=> ?_)
   ·repeat first|refine cg ?_|simp -dsimp[h1,q2,h4,h8]
    have hF:=ob hF;obtain⟨v10,e11,hF⟩:=hF
    refine((C.f126 B hB1 hB2 vars (⟨g.var,(⟨(-1),0⟩:Ty)⟩:VarType) v10 e11)).goW (by simp[h1,q2,h4,h8]) (by simp) ?_
    cases hF
    repeat first|refine cg ?_|simp -dsimp[h1,q2,h4,h8]
   ·cases hF
    repeat first|refine cg ?_|simp -dsimp[h1,q2,h4,h8,q9]
  ·cases hF
   repeat first|refine cg ?_|simp -dsimp[h1,q2,h4,q5]
theorem C.f141 (w:List Vl.Data)(t:Ty)(c':Clause)(r:Bool)(hF:F.f141 w t c'=some r):PureCall Tryz.prog B 54 [am Vl.Data.c w,.agg [li t.data,li t.index],.agg [li c'.pat.op,li c'.pat.ctor,li c'.pat.n,li c'.pat.m,li c'.pat.var,am Pattern.c c'.pat.kids,li c'.guard.op,li c'.guard.var,li c'.guard.n]] (.lit (.bool r)):=by
 unfold F.f141 at hF
 refine pE Tryz.func54 (by kernel_rfl) rfl Tryz.ntmps54 (by simp) (by simp) ?_
 repeat first|refine cg ?_|simp -dsimp
 have hF:=ob hF;obtain⟨v,e1,hF⟩:=hF
 refine((C.f139 B hB1 hB2 w t c'.pat v e1)).goW (by simp) (by simp) ?_
 repeat first|refine cg ?_|simp -dsimp
 revert hF;refine aS (fun h2 q3 hF=> ?_) (fun h2 q3 hF=> ?_)
 ·repeat first|refine cg ?_|simp -dsimp[h2]
  have hF:=ob hF;obtain⟨v4,e5,hF⟩:=hF
  refine((C.f140 B hB1 hB2 c'.guard v.1 v4 e5)).goW (by simp[h2]) (by simp) ?_
  cases hF
  repeat first|refine cg ?_|simp -dsimp[h2]
 ·cases hF
  repeat first|refine cg ?_|simp -dsimp[h2,q3]
theorem C.f142 (c':Clause)(a1:List Vl.Data)(a2:Ty)(r:Bool)(hF:F.f142 c' a1 a2=some r):PureCall Tryz.prog B 53 [.agg [li c'.pat.op,li c'.pat.ctor,li c'.pat.n,li c'.pat.m,li c'.pat.var,am Pattern.c c'.pat.kids,li c'.guard.op,li c'.guard.var,li c'.guard.n],.rptr [am Vl.Data.c a1] 0,.rptr [li a2.data,li a2.index] 0] (.lit (.bool r)):=by
 unfold F.f142 at hF
 refine pE Tryz.func53 (by kernel_rfl) rfl Tryz.ntmps53 (by simp) (by simp) ?_
 repeat first|refine cg ?_|simp -dsimp
 have hF:=ob hF;obtain⟨v,e1,hF⟩:=hF
 refine((C.f141 B hB1 hB2 a1 a2 c' v e1)).goW (by simp) (by simp) ?_
 cases hF
 repeat first|refine cg ?_|simp -dsimp
theorem CC.f143 (s:List Clause)(k0:List Vl.Data)(k1:Ty):(∀(i:Nat) (o:Lo Int Unit),F.f143 s k0 k1 i=some o->∀(c:Code),ZY [1,0,1,0,0] (ZJ Tryz.f99)=some c->∀(Q:Exit->ASt->Prop),o.post (fun r=>∀st,ZAf Tryz.prog Tryz.f99 (fun r' _=>r'.le (li r)) .ret st->Q .ret st) (fun s=>Q (.exit 0) ⟨[],[]⟩)->ALoopU Tryz.prog B 0 19 (hold c .mk) ⟨[(0,am Clause.c s),(1,.fn (.func 53) [] [.rptr [am Vl.Data.c k0] 0,.rptr [li k1.data,li k1.index] 0]),(7,li (s.length:Int)),(8,li (i:Int))],[]⟩ (hold Q .mk)):=by
 refine F.f143.partial_correctness s k0 k1
  _
  ?_
 ·intro _f_f143 ih_f143 i o hF
  intro c hc Q hq
  obtain rfl:c=_:=ZK hc rfl
  refine kN fun hk hs=> ?_
  have b0:=hk 0
  simp -dsimp at b0
  clear hk hs
  refine eN ?_
  repeat first|refine cg ?_|simp -dsimp
  revert hF;refine aS ?_ ?_<;>intro h1 q2 hF
  ·have z3:((i:Int)<(s.length:Int)):=auz
   have hF:=ob hF;obtain⟨x,e4,hF⟩:=hF
   have le4:=ZD e4
   repeat first|refine cg ?_|simp -dsimp[h1,z3,↓e4]
   have hF:=ob hF;obtain⟨v,e5,hF⟩:=hF
   refine((C.f142 B hB1 hB2 x k0 k1 v e5)).goW (by simp_all) (by simp) ?_
   repeat first|refine cg ?_|simp -dsimp
   revert hF;refine aS (fun h6 q7 hF=> ?_) (fun h6 q7 hF=> ?_)
   ·cases hF
    repeat first|refine cg ?_|simp -dsimp[h6]
    refine lG _ (gR _) (hq _ ?_)
    repeat first|refine cg ?_|simp -dsimp
   ·have w8:i64.wrap ((i:Int)+1)=(i:Int)+1:=ZE (by omega) (by omega)
    repeat first|refine cg ?_|simp -dsimp[q7,w8]
    refine aG _ ?_ ((ih_f143 (i+1) o hF) _ rfl _ hq)
    exact(gT (by simp) (by simp_all))
  ·have z3:¬((i:Int)<(s.length:Int)):=auz
   cases hF
   repeat first|refine cg ?_|simp -dsimp[h1,q2,z3]
   refine lG _ (gT (by simp) (by simp_all)) hq
theorem C.f144 (s:List Clause)(k0:List Vl.Data)(k1:Ty)(r:Int)(hF:F.f144 s k0 k1=some r):PureCall Tryz.prog B 99 [am Clause.c s,.fn (.func 53) [] [.rptr [am Vl.Data.c k0] 0,.rptr [li k1.data,li k1.index] 0]] (li r):=by
 unfold F.f144 at hF
 refine pE Tryz.func99 (by kernel_rfl) rfl Tryz.ntmps99 (by simp) (by simp) ?_
 repeat first|refine cg ?_|simp -dsimp
 have hF:=ob hF;obtain⟨o',ho9,hF⟩:=hF
 refine ALoop.goU _ ?_ (((CC.f143 B hB1 hB2 s k0 k1) 0 o' ho9) _ rfl _ ?_)
 ·exact(gT (by simp) (by simp -dsimp))
 rcases o' with r0|sx
 ·dsimp only at hF
  cases hF
  intro st h
  simpa using h
 ·dsimp only at hF
  cases hF
  repeat first|refine cg ?_|simp -dsimp
theorem C.f145 (s:List Clause)(k0:List Vl.Data)(k1:Ty)(r:Bool)(hF:F.f145 s k0 k1=some r):PureCall Tryz.prog B 52 [am Clause.c s,.fn (.func 53) [] [.rptr [am Vl.Data.c k0] 0,.rptr [li k1.data,li k1.index] 0]] (.lit (.bool r)):=by
 unfold F.f145 at hF
 refine pE Tryz.func52 (by kernel_rfl) rfl Tryz.ntmps52 (by simp) (by simp) ?_
 repeat first|refine cg ?_|simp -dsimp
 have hF:=ob hF;obtain⟨v,e1,hF⟩:=hF
 refine((C.f144 B hB1 hB2 s k0 k1 v e1)).goW (by simp) (by simp) ?_
 cases hF
 repeat first|refine cg ?_|simp -dsimp
theorem C.f146 (w:List Vl.Data)(t:Ty)(list:List Clause)(r:Bool)(hF:F.f146 w t list=some r):PureCall Tryz.prog B 18 [am Vl.Data.c w,.agg [li t.data,li t.index],am Clause.c list] (.lit (.bool r)):=by
 unfold F.f146 at hF
 refine pE Tryz.func18 (by kernel_rfl) rfl Tryz.ntmps18 (by simp) (by simp) ?_
 repeat first|refine cg ?_|simp -dsimp
 have hF:=ob hF;obtain⟨v,e1,hF⟩:=hF
 refine((C.f112 B hB1 hB2 w t v e1)).goW (by simp) (by simp) ?_
 repeat first|refine cg ?_|simp -dsimp
 revert hF;refine aS (fun h2 q3 hF=> ?_) (fun h2 q3 hF=> ?_)
 ·repeat first|refine cg ?_|simp -dsimp[h2]
  revert hF;refine aS ?_ ?_<;>intro h4 q5 hF
  ·have z6:((list.length:Int)<=8):=auz
   repeat first|refine cg ?_|simp -dsimp[h2,h4,z6]
   have hF:=ob hF;obtain⟨v7,e8,hF⟩:=hF
   refine((C.f145 B hB1 hB2 list w t v7 e8)).lend (by simp -dsimp[h2,h4,z6]) (by simp -dsimp) ?_
   cases hF
   repeat first|refine cg ?_|simp -dsimp[h2,h4,z6]
  ·have z6:¬((list.length:Int)<=8):=auz
   cases hF
   repeat first|refine cg ?_|simp -dsimp[h2,h4,q5,z6]
 ·cases hF
  repeat first|refine cg ?_|simp -dsimp[h2,q3]
theorem CC.f147  :(∀(p:Pattern) (r:Int),F.f147 p=some r->PureCall Tryz.prog B 27 [.agg [li p.op,li p.ctor,li p.n,li p.m,li p.var,am Pattern.c p.kids]] (li r))/\
  (∀(p:Pattern) (i15:Nat) (n16:Int) (o:Int),F.f149 p i15 n16=some o->∀(c:Code),ZY [1,1,1,0,1,0,0] (ZJ Tryz.f27)=some c->∀(Q:Exit->ASt->Prop),(Q (.exit 0) ⟨[(3,li o)],[]⟩)->ALoopU Tryz.prog B 0 31 (hold c .mk) ⟨[(1,.ptr 0 0),(3,li n16),(10,am Pattern.c p.kids),(11,li (p.kids.length:Int)),(12,li (i15:Int))],[.cells [li p.op,li p.ctor,li p.n,li p.m,li p.var,am Pattern.c p.kids]]⟩ (hold Q .mk))/\
  (∀(p:Pattern) (i:Nat) (n:Int) (o:Int),F.f148 p i n=some o->∀(c:Code),ZY [1,1,1,0,1,0,0] (ZJ Tryz.f27)=some c->∀(Q:Exit->ASt->Prop),(Q (.exit 0) ⟨[(3,li o)],[]⟩)->ALoopU Tryz.prog B 0 31 (hold c .mk) ⟨[(1,.ptr 0 0),(3,li n),(10,am Pattern.c p.kids),(11,li (p.kids.length:Int)),(12,li (i:Int))],[.cells [li p.op,li p.ctor,li p.n,li p.m,li p.var,am Pattern.c p.kids]]⟩ (hold Q .mk)):=by
 refine F.f147.mutual_partial_correctness 
  _ _ _
  ?_ ?_ ?_
 ·intro _f_f149 _f_f148 ih_f149 ih_f148 p r hF
  refine pE Tryz.func27 (by kernel_rfl) rfl Tryz.ntmps27 (by simp) (by simp) ?_
  repeat first|refine cg ?_|simp -dsimp
  revert hF;refine aS ?_ ?_<;>intro h1 q2 hF
  ·repeat first|refine cg ?_|simp -dsimp[h1]
   have hF:=ob hF;obtain⟨o',ho14,hF⟩:=hF
   refine ALoop.goU _ ?_ ((ih_f148 p 0 0 o' ho14) _ rfl _ ?_)
   ·exact(gT (by simp) (by first|simp -dsimp[h1];done|simp_all))
   cases hF
   repeat first|refine cg ?_|simp -dsimp
   all_goals(try first|omega|rfl)
  ·repeat first|refine cg ?_|simp -dsimp[h1,q2]
   have hF:=ob hF;obtain⟨o'31,ho30,hF⟩:=hF
   refine ALoop.goU _ ?_ ((ih_f149 p 0 1 o'31 ho30) _ rfl _ ?_)
   ·exact(gT (by simp) (by first|simp -dsimp[h1,q2];done|simp_all))
   cases hF
   repeat first|refine cg ?_|simp -dsimp
   all_goals(try first|omega|rfl)
 ·intro _f_f147 _f_f149 ih_f147 ih_f149 p i15 n16 o hF
  intro c hc Q hq
  obtain rfl:c=_:=ZK hc rfl
  refine kN fun hk hs=> ?_
  have b10:=hk 10
  simp -dsimp at b10
  have d0:=hs 0 _ rfl
  simp -dsimp[Blk.bnd]at d0
  clear hk hs
  refine eN ?_
  repeat first|refine cg ?_|simp -dsimp
  revert hF;refine aS ?_ ?_<;>intro h17 q18 hF
  ·have z19:((i15:Int)<(p.kids.length:Int)):=auz
   have hF:=ob hF;obtain⟨x20,e21,hF⟩:=hF
   have le21:=ZD e21
   repeat first|refine cg ?_|simp -dsimp[h17,z19,↓e21]
   revert hF;refine aS ?_ ?_<;>intro h22 q23 hF
   ·repeat first|refine cg ?_|simp -dsimp[h17,z19,↓e21,h22]
    have hF:=ob hF;obtain⟨v24,e25,hF⟩:=hF
    refine((ih_f147 x20 v24 e25)).goW (by first|simp[h17,z19,↓e21,h22];done|simp_all) (by simp) ?_
    have w26:i64.wrap ((i15:Int)+1)=(i15:Int)+1:=ZE (by omega) (by omega)
    repeat first|refine cg ?_|simp -dsimp[h17,z19,↓e21,h22,w26]
    refine aG _ ?_ ((ih_f149 p (i15+1) (if 401<i64.wrap (n16+v24)then 401 else i64.wrap (n16+v24)) o hF) _ rfl _ hq)
    exact(gT (by simp) (by first|simp -dsimp[h17,z19,↓e21,h22,w26];done|simp_all))
   ·repeat first|refine cg ?_|simp -dsimp[h17,z19,↓e21,h22,q23]
    have hF:=ob hF;obtain⟨v27,e28,hF⟩:=hF
    refine((ih_f147 x20 v27 e28)).goW (by first|simp[h17,z19,↓e21,h22,q23];done|simp_all) (by simp) ?_
    have w29:i64.wrap ((i15:Int)+1)=(i15:Int)+1:=ZE (by omega) (by omega)
    repeat first|refine cg ?_|simp -dsimp[h17,z19,↓e21,h22,q23,w29]
    refine aG _ ?_ ((ih_f149 p (i15+1) (if 401<i64.wrap (n16*v27)then 401 else i64.wrap (n16*v27)) o hF) _ rfl _ hq)
    exact(gT (by simp) (by first|simp -dsimp[h17,z19,↓e21,h22,q23,w29];done|simp_all))
  ·have z19:¬((i15:Int)<(p.kids.length:Int)):=auz
   cases hF
   repeat first|refine cg ?_|simp -dsimp[h17,q18,z19]
   refine lG _ (gT (by simp) (by first|simp -dsimp[h17,q18,z19];done|simp_all)) hq
 ·intro _f_f147 _f_f148 ih_f147 ih_f148 p i n o hF
  intro c hc Q hq
  obtain rfl:c=_:=ZK hc rfl
  refine kN fun hk hs=> ?_
  have b10:=hk 10
  simp -dsimp at b10
  have d0:=hs 0 _ rfl
  simp -dsimp[Blk.bnd]at d0
  clear hk hs
  refine eN ?_
  repeat first|refine cg ?_|simp -dsimp
  revert hF;refine aS ?_ ?_<;>intro h3 q4 hF
  ·have z5:((i:Int)<(p.kids.length:Int)):=auz
   have hF:=ob hF;obtain⟨x,e6,hF⟩:=hF
   have le6:=ZD e6
   repeat first|refine cg ?_|simp -dsimp[h3,z5,↓e6]
   revert hF;refine aS ?_ ?_<;>intro h7 q8 hF
   ·repeat first|refine cg ?_|simp -dsimp[h3,z5,↓e6,h7]
    have hF:=ob hF;obtain⟨v,e9,hF⟩:=hF
    refine((ih_f147 x v e9)).goW (by first|simp[h3,z5,↓e6,h7];done|simp_all) (by simp) ?_
    have w10:i64.wrap ((i:Int)+1)=(i:Int)+1:=ZE (by omega) (by omega)
    repeat first|refine cg ?_|simp -dsimp[h3,z5,↓e6,h7,w10]
    refine aG _ ?_ ((ih_f148 p (i+1) (if 401<i64.wrap (n+v)then 401 else i64.wrap (n+v)) o hF) _ rfl _ hq)
    exact(gT (by simp) (by first|simp -dsimp[h3,z5,↓e6,h7,w10];done|simp_all))
   ·repeat first|refine cg ?_|simp -dsimp[h3,z5,↓e6,h7,q8]
    have hF:=ob hF;obtain⟨v11,e12,hF⟩:=hF
    refine((ih_f147 x v11 e12)).goW (by first|simp[h3,z5,↓e6,h7,q8];done|simp_all) (by simp) ?_
    have w13:i64.wrap ((i:Int)+1)=(i:Int)+1:=ZE (by omega) (by omega)
    repeat first|refine cg ?_|simp -dsimp[h3,z5,↓e6,h7,q8,w13]
    refine aG _ ?_ ((ih_f148 p (i+1) (if 401<i64.wrap (n*v11)then 401 else i64.wrap (n*v11)) o hF) _ rfl _ hq)
    exact(gT (by simp) (by first|simp -dsimp[h3,z5,↓e6,h7,q8,w13];done|simp_all))
  ·have z5:¬((i:Int)<(p.kids.length:Int)):=auz
   cases hF
   repeat first|refine cg ?_|simp -dsimp[h3,q4,z5]
   refine lG _ (gT (by simp) (by first|simp -dsimp[h3,q4,z5];done|simp_all)) hq
theorem C.f150 (s:List Pattern)(r:List Pattern)(hF:F.f150 s=some r):BCall Tryz.prog B 65 [] [am Pattern.c s] (.own 0 (List.length (α:=Pattern) r)) [.elems 6 (List.map Pattern.c r)]:=by
 unfold F.f150 at hF
 have hF:=oc hF;obtain⟨c1,hF⟩:=hF
 cases hF
 cases s with
 |nil=>
  refine BCall.empty1 fun a c=> ?_
  cases a
  ·refine BCall.ofNil 6 (by simp) (by simp) ?_
   refine pE Tryz.func65 (by kernel_rfl) rfl Tryz.ntmps65 (by simp) (by simp) ?_
   repeat first|refine cg ?_|simp -dsimp
  ·refine BCall.enter Tryz.func65 (by kernel_rfl) rfl Tryz.ntmps65 (by simp) rfl (by simp) (by simp) (by simp) (by simp) (by simp) (gR _) ?_
   repeat first|refine cg ?_|simp -dsimp
 |cons x xs=>
  have c1:xs.length+1<=67108864:=by simpa using c1
  refine BCall.enter Tryz.func65 (by kernel_rfl) rfl Tryz.ntmps65 (by simp) rfl (by simp) (by simp) (by simp) (by simp) (by simp) (gR _) ?_
  repeat first|refine cg ?_|simp -dsimp
theorem CC.impl_split__o0_l3 (p:Pattern)(list:List Pattern)(i:Nat)(v15:List Pattern)(i17:Nat)(x21:Pattern):(∀(more23:List Pattern) (i24:Nat) (o:List Pattern),F.f151 p list i v15 i17 x21 more23 i24=some o->∀(c:Code),ZY [1,1,1,1,1,0,1,0,0,1,1,0,0,1,1,1,0,1,0,0,1,1,0,0,1,1,0,0] (ZJ Tryz.f29)=some c->∀(Q:Exit->ASt->Prop),(Q (.exit 4) ⟨[(7,.own 3 (List.length (α:=Pattern) v15)),(8,.own 4 (List.length (α:=Pattern) o)),(33,am Pattern.c p.kids),(34,li (p.kids.length:Int)),(35,li (i:Int)),(41,.own 1 (List.length (α:=Pattern) list)),(42,li (list.length:Int)),(43,li (i17:Int))],[.dead,.elems 6 (List.map Pattern.c list),.dead,.elems 6 (List.map Pattern.c v15),.elems 6 (List.map Pattern.c o)]⟩)->ALoopU Tryz.prog B 0 70 (hold c .mk) ⟨[(7,.own 3 (List.length (α:=Pattern) v15)),(8,.own 4 (List.length (α:=Pattern) more23)),(10,.ptr 5 0),(33,am Pattern.c p.kids),(34,li (p.kids.length:Int)),(35,li (i:Int)),(41,.own 1 (List.length (α:=Pattern) list)),(42,li (list.length:Int)),(43,li (i17:Int)),(47,.own 3 (List.length (α:=Pattern) v15)),(48,li (v15.length:Int)),(49,li (i24:Int))],[.dead,.elems 6 (List.map Pattern.c list),.dead,.elems 6 (List.map Pattern.c v15),.elems 6 (List.map Pattern.c more23),.cells [li x21.op,li x21.ctor,li x21.n,li x21.m,li x21.var,am Pattern.c x21.kids]]⟩ (hold Q .mk)):=by
 refine F.f151.partial_correctness p list i v15 i17 x21
  _
  ?_
 ·intro _f_impl_split__o0_l3 ih_impl_split__o0_l3 more23 i24 o hF
  intro c hc Q hq
  obtain rfl:c=_:=ZK hc rfl
  refine kN fun hk hs=> ?_
  have b33:=hk 33
  simp -dsimp at b33
  have d1:=hs 1 _ rfl
  simp -dsimp[Blk.bnd]at d1
  have d3:=hs 3 _ rfl
  simp -dsimp[Blk.bnd]at d3
  have d4:=hs 4 _ rfl
  simp -dsimp[Blk.bnd]at d4
  have d5:=hs 5 _ rfl
  simp -dsimp[Blk.bnd]at d5
  clear hk hs
  refine eN ?_
  repeat first|refine cg ?_|simp -dsimp
  revert hF;refine aS ?_ ?_<;>intro h25 q26 hF
  ·have z27:((i24:Int)<(v15.length:Int)):=auz
   have hF:=ob hF;obtain⟨x28,e29,hF⟩:=hF
   have le29:=ZD e29
   repeat first|refine cg ?_|simp -dsimp[h25,z27,↓e29]
   refine ADraw.opn ?_
   refine ADraw.split [] [(2,4)] [(4,2)] 2 4 rfl rfl (by kernel_rfl) ?_ ?_
   ·refine ADraw.effP [(2,4)] [0,1,2,3,4,5,6,7] [65] [(0,0),(0,0),(0,4),(0,1),(0,4),(0,4),(3,3),(0,4)] [1,1,1,2,1,1,1,1] follows (by kernel_rfl) (by kernel_rfl) (by kernel_rfl) (by kernel_rfl) ?_
    repeat first|refine cg ?_|simp -dsimp
    have hF:=ob hF;obtain⟨v30,e31,hF⟩:=hF
    refine((C.f150 B hB1 hB2 x21.kids v30 e31)).ego (pl [8]) (by simp) (by simp) (by intro i j hi;simp at hi) (by intro i hi hi';simp at hi hi';first|omega|(subst hi';simp[pl])) (by simp_all) (by simp_all) ?_
    have hF:=oc hF;obtain⟨c32,hF⟩:=hF
    have hF:=oc hF;obtain⟨c33,hF⟩:=hF
    have w34:i64.wrap ((i24:Int)+1)=(i24:Int)+1:=ZE (by omega) (by omega)
    repeat first|refine cg ?_|simp -dsimp[w34]
    refine aG _ ?_ ((ih_impl_split__o0_l3 (more23++[(⟨x21.op,x21.ctor,x21.n,x21.m,x21.var,v30++[x28]⟩:Pattern)]) (i24+1) o hF) _ rfl _ hq)
    exact(gT (by simp) (by simp_all))
   ·refine ADraw.effP [(4,2)] [0,1,3,4,2,5,6,7] [65] [(0,1),(0,1),(0,0),(0,4),(0,4),(0,4),(3,3),(0,4)] [0,2,1,1,1,1,1,1] follows (by kernel_rfl) (by kernel_rfl) (by kernel_rfl) (by kernel_rfl) ?_
    repeat first|refine cg ?_|simp -dsimp
    have hF:=ob hF;obtain⟨v30,e31,hF⟩:=hF
    refine((C.f150 B hB1 hB2 x21.kids v30 e31)).ego (pl [9]) (by simp) (by simp) (by intro i j hi;simp at hi) (by intro i hi hi';simp at hi hi';first|omega|(subst hi';simp[pl])) (by simp_all) (by simp_all) ?_
    have hF:=oc hF;obtain⟨c32,hF⟩:=hF
    have hF:=oc hF;obtain⟨c33,hF⟩:=hF
    have w34:i64.wrap ((i24:Int)+1)=(i24:Int)+1:=ZE (by omega) (by omega)
    repeat first|refine cg ?_|simp -dsimp[w34]
    refine aG _ ?_ ((ih_impl_split__o0_l3 (more23++[(⟨x21.op,x21.ctor,x21.n,x21.m,x21.var,v30++[x28]⟩:Pattern)]) (i24+1) o hF) _ rfl _ hq)
    exact(gT (by simp) (by simp_all))
  ·have z27:¬((i24:Int)<(v15.length:Int)):=auz
   cases hF
   repeat first|refine cg ?_|simp -dsimp[h25,q26,z27]
   refine lG _ (gT (by simp) (by simp_all)) hq
theorem CC.impl_split__o0_l2 (p:Pattern)(list:List Pattern)(i:Nat)(v15:List Pattern):(∀(more:List Pattern) (i17:Nat) (o:List Pattern),F.f152 p list i v15 more i17=some o->∀(c:Code),ZY [1,1,1,1,1,0,1,0,0,1,1,0,0,1,1,1,0,1,0,0] (ZJ Tryz.f29)=some c->∀(Q:Exit->ASt->Prop),(Q (.exit 2) ⟨[(8,.own 4 (List.length (α:=Pattern) o)),(33,am Pattern.c p.kids),(34,li (p.kids.length:Int)),(35,li (i:Int))],[.dead,.dead,.dead,.dead,.elems 6 (List.map Pattern.c o)]⟩)->ALoopU Tryz.prog B 0 70 (hold c .mk) ⟨[(7,.own 3 (List.length (α:=Pattern) v15)),(8,.own 4 (List.length (α:=Pattern) more)),(33,am Pattern.c p.kids),(34,li (p.kids.length:Int)),(35,li (i:Int)),(41,.own 1 (List.length (α:=Pattern) list)),(42,li (list.length:Int)),(43,li (i17:Int))],[.dead,.elems 6 (List.map Pattern.c list),.dead,.elems 6 (List.map Pattern.c v15),.elems 6 (List.map Pattern.c more)]⟩ (hold Q .mk)):=by
 refine F.f152.partial_correctness p list i v15
  _
  ?_
 ·intro _f_impl_split__o0_l2 ih_impl_split__o0_l2 more i17 o hF
  intro c hc Q hq
  obtain rfl:c=_:=ZK hc rfl
  refine kN fun hk hs=> ?_
  have b33:=hk 33
  simp -dsimp at b33
  have d1:=hs 1 _ rfl
  simp -dsimp[Blk.bnd]at d1
  have d3:=hs 3 _ rfl
  simp -dsimp[Blk.bnd]at d3
  have d4:=hs 4 _ rfl
  simp -dsimp[Blk.bnd]at d4
  clear hk hs
  refine eN ?_
  repeat first|refine cg ?_|simp -dsimp
  revert hF;refine aS ?_ ?_<;>intro h18 q19 hF
  ·have z20:((i17:Int)<(list.length:Int)):=auz
   have hF:=ob hF;obtain⟨x21,e22,hF⟩:=hF
   have le22:=ZD e22
   repeat first|refine cg ?_|simp -dsimp[h18,z20,↓e22]
   have hF:=ob hF;obtain⟨o',ho35,hF⟩:=hF
   refine ALoop.goU _ ?_ (((CC.impl_split__o0_l3 B hB1 hB2 p list i v15 i17 x21) more 0 o' ho35) _ rfl _ ?_)
   ·exact(gT (by simp) (by simp_all))
   have hF:=oc hF;obtain⟨c36,hF⟩:=hF
   have w37:i64.wrap ((i17:Int)+1)=(i17:Int)+1:=ZE (by omega) (by omega)
   repeat first|refine cg ?_|simp -dsimp[w37]
   refine aG _ ?_ ((ih_impl_split__o0_l2 o' (i17+1) o hF) _ rfl _ hq)
   exact(gT (by simp) (by simp_all))
  ·have z20:¬((i17:Int)<(list.length:Int)):=auz
   cases hF
   repeat first|refine cg ?_|simp -dsimp[h18,q19,z20]
   refine lG _ (gT (by simp) (by simp_all)) hq
theorem CC.impl_split__o0  :(∀(p:Pattern) (r:List Pattern),F.f153 p=some r->BCall Tryz.prog B 29 [] [.agg [li p.op,li p.ctor,li p.n,li p.m,li p.var,am Pattern.c p.kids]] (.own 0 (List.length (α:=Pattern) r)) [.elems 6 (List.map Pattern.c r)])/\
  (∀(p:Pattern) (list:List Pattern) (i:Nat) (o:List Pattern),F.f154 p list i=some o->∀(c:Code),ZY [1,1,1,1,1,0,1,0,0] (ZJ Tryz.f29)=some c->∀(Q:Exit->ASt->Prop),(Q (.exit 0) ⟨[(4,.own 1 (List.length (α:=Pattern) o))],[.dead,.elems 6 (List.map Pattern.c o)]⟩)->ALoopU Tryz.prog B 0 70 (hold c .mk) ⟨[(4,.own 1 (List.length (α:=Pattern) list)),(33,am Pattern.c p.kids),(34,li (p.kids.length:Int)),(35,li (i:Int))],[.dead,.elems 6 (List.map Pattern.c list)]⟩ (hold Q .mk)):=by
 refine F.f153.mutual_partial_correctness 
  _ _
  ?_ ?_
 ·intro _f_impl_split__o0 _f_impl_split__o0_l1 ih_impl_split__o0 ih_impl_split__o0_l1 p r hF
  refine BCall.enterS (τ1:=[]) (ys:=[.own 0 (List.length (α:=Pattern) r)]) (news:=[(6,List.map Pattern.c r)]) Tryz.func29 (by kernel_rfl) rfl Tryz.ntmps29 (by simp) rfl rfl (by simp) (by simp) (by simp) (by simp) (by simp) (by simp) (gR _) ?_
  repeat first|refine cg ?_|simp -dsimp
  revert hF;refine aS ?_ ?_<;>intro h1 q2 hF
  ·repeat first|refine cg ?_|simp -dsimp[h1]
   refine ADraw.eff [29] [(0,0),(0,0),(0,0),(0,0),(0,3),(0,1),(0,1),(0,1),(0,1),(0,3),(0,3),(3,3)] [1,1,1,1,1,0,2,0,0,1,1,1] follows (by kernel_rfl) (by kernel_rfl) (by kernel_rfl) ?_
   have hF:=ob hF;obtain⟨x,e3,hF⟩:=hF
   have le3:=ZD e3
   repeat first|refine cg ?_|simp -dsimp[↓e3]
   have hF:=ob hF;obtain⟨v,e4,hF⟩:=hF
   refine((ih_impl_split__o0 x v e4)).ego (pl [1]) (by simp) (by simp) (by intro i j hi;simp at hi) (by intro i hi hi';simp at hi hi';have hi:i=0:=(by omega);rcases hi with rfl<;>simp[pl]) (by simp_all) (by simp_all) ?_
   have hF:=ob hF;obtain⟨x5,e6,hF⟩:=hF
   have le6:=ZD e6
   repeat first|refine cg ?_|simp -dsimp[↓e6]
   have hF:=ob hF;obtain⟨v7,e8,hF⟩:=hF
   refine((ih_impl_split__o0 x5 v7 e8)).ego (pl [2]) (by simp) (by simp) (by intro i j hi;simp at hi) (by intro i hi hi';simp at hi hi';have hi:i=0:=(by omega);rcases hi with rfl<;>simp[pl]) (by simp_all) (by simp_all) ?_
   have hF:=oc hF;obtain⟨c9,hF⟩:=hF
   cases hF
   repeat first|refine cg ?_|simp -dsimp
   all_goals(try first|omega|rfl|(simp;done)|(simp only[List.length_cons,List.length_nil]at*;omega)|simp)
  ·repeat first|refine cg ?_|simp -dsimp[q2]
   have hF:=ob hF;obtain⟨o'43,ho42,hF⟩:=hF
   refine ALoop.goU _ ?_ ((ih_impl_split__o0_l1 p [(⟨p.op,p.ctor,p.n,p.m,p.var,[]⟩:Pattern)] 0 o'43 ho42) _ rfl _ ?_)
   ·exact(gT (by simp) (by simp_all))
   cases hF
   repeat first|refine cg ?_|simp -dsimp
   all_goals(try first|omega|rfl|(simp;done)|(simp only[List.length_cons,List.length_nil]at*;omega)|simp)
 ·intro _f_impl_split__o0 _f_impl_split__o0_l1 ih_impl_split__o0 ih_impl_split__o0_l1 p list i o hF
  intro c hc Q hq
  obtain rfl:c=_:=ZK hc rfl
  refine kN fun hk hs=> ?_
  have b33:=hk 33
  simp -dsimp at b33
  have d1:=hs 1 _ rfl
  simp -dsimp[Blk.bnd]at d1
  clear hk hs
  refine eN ?_
  repeat first|refine cg ?_|simp -dsimp
  revert hF;refine aS ?_ ?_<;>intro h10 q11 hF
  ·have z12:((i:Int)<(p.kids.length:Int)):=auz
   have hF:=ob hF;obtain⟨x13,e14,hF⟩:=hF
   have le14:=ZD e14
   repeat first|refine cg ?_|simp -dsimp[h10,z12,↓e14]
   have hF:=ob hF;obtain⟨v15,e16,hF⟩:=hF
   refine((ih_impl_split__o0 x13 v15 e16)).go (pl [3]) (by simp) (by simp) (by intro i j hi;simp at hi) (by intro i hi hi';simp at hi hi';have hi:i=0:=(by omega);rcases hi with rfl<;>simp[pl]) (by simp_all) (by simp_all) ?_
   repeat first|refine cg ?_|simp -dsimp
   have hF:=ob hF;obtain⟨o'39,ho38,hF⟩:=hF
   refine ALoop.goU ⟨[(7,.own 3 (List.length (α:=Pattern) v15)),(8,.own 4 (List.length (α:=Pattern) [])),(33,.arr (List.map Pattern.c p.kids)),(34,.lit (.int .i64 (p.kids.length:Int))),(35,.lit (.int .i64 (i:Int))),(41,.own 1 (List.length (α:=Pattern) list)),(42,.lit (.int .i64 (list.length:Int))),(43,.lit (.int .i64 0))],[.dead,.elems 6 (List.map Pattern.c list),.dead,.elems 6 (List.map Pattern.c v15),.elems 6 (List.map Pattern.c [])]⟩ (by refine Gh.trans (Gh.nil 8 6 (by simp -dsimp)) ?_;exact(gT (by simp) (by simp_all))) ?_
   refine((CC.impl_split__o0_l2 B hB1 hB2 p list i v15) [] 0 o'39 ho38) _ rfl _ ?_
   have hF:=oc hF;obtain⟨c40,hF⟩:=hF
   have w41:i64.wrap ((i:Int)+1)=(i:Int)+1:=ZE (by omega) (by omega)
   repeat first|refine cg ?_|simp -dsimp[w41]
   refine aG ⟨[(4,.own 1 (List.length (α:=Pattern) o'39)),(33,.arr (List.map Pattern.c p.kids)),(34,.lit (.int .i64 (p.kids.length:Int))),(35,.lit (.int .i64 ((i+1):Int)))],[.dead,.elems 6 (List.map Pattern.c o'39)]⟩ (by refine Gh.trans (Gh.swap 1 4 (by decide) (by decide) (by simp) (by simp) (by simp)) ?_;exact(gT (by simp) (by simp_all))) ?_
   exact(ih_impl_split__o0_l1 p o'39 (i+1) o hF) _ rfl _ hq
  ·have z12:¬((i:Int)<(p.kids.length:Int)):=auz
   cases hF
   repeat first|refine cg ?_|simp -dsimp[h10,q11,z12]
   refine lG _ (gT (by simp) (by simp_all)) hq
theorem CC.f155 (list:List Clause):(∀(out:List (List Pattern)) (i:Nat) (o:Lo ((List (List Pattern))×Bool) (List (List Pattern))),F.f155 list out i=some o->∀(c:Code),ZY [1,1,0,1,0,0] (ZJ Tryz.f19)=some c->∀(Q:Exit->ASt->Prop),o.post (fun r=>∀st,ZAf Tryz.prog Tryz.f19 (fun r' _=>r'.le (.tup [am (cL Pattern.c) r.1,.lit (.bool r.2)])) .ret st->Q .ret st) (fun s=>Q (.exit 0) ⟨[(4,.own 0 (List.length (α:=List Pattern) s))],[.elems 1 (List.map (cL Pattern.c) s)]⟩)->ALoopU Tryz.prog B 0 25 (hold c .mk) ⟨[(4,.own 0 (List.length (α:=List Pattern) out)),(7,am Clause.c list),(8,li (list.length:Int)),(9,li (i:Int))],[.elems 1 (List.map (cL Pattern.c) out)]⟩ (hold Q .mk)):=by
 refine F.f155.partial_correctness list
  _
  ?_
 ·intro _f_f155 ih_f155 out i o hF
  intro c hc Q hq
  obtain rfl:c=_:=ZK hc rfl
  refine kN fun hk hs=> ?_
  have b7:=hk 7
  simp -dsimp at b7
  have d0:=hs 0 _ rfl
  simp -dsimp[Blk.bnd]at d0
  clear hk hs
  refine eN ?_
  repeat first|refine cg ?_|simp -dsimp
  revert hF;refine aS ?_ ?_<;>intro h1 q2 hF
  ·have z3:((i:Int)<(list.length:Int)):=auz
   have hF:=ob hF;obtain⟨x,e4,hF⟩:=hF
   have le4:=ZD e4
   repeat first|refine cg ?_|simp -dsimp[h1,z3,↓e4]
   have hF:=ob hF;obtain⟨v,e5,hF⟩:=hF
   refine(((CC.f147 B hB1 hB2).1 x.pat v e5)).goW (by simp_all) (by simp) ?_
   repeat first|refine cg ?_|simp -dsimp
   revert hF;refine aS ?_ ?_<;>intro h6 q7 hF
   ·cases hF
    repeat first|refine cg ?_|simp -dsimp[h6]
    refine lG _ (gR _) (hq _ ?_)
    repeat first|refine cg ?_|simp -dsimp
   ·repeat first|refine cg ?_|simp -dsimp[q7]
    have hF:=ob hF;obtain⟨v8,e9,hF⟩:=hF
    refine(((CC.impl_split__o0 B hB1 hB2).1 x.pat v8 e9)).go (pl [2]) (by simp) (by simp) (by intro i j hi;simp at hi) (by intro i hi hi';simp at hi hi';have hi:i=0:=(by omega);rcases hi with rfl<;>simp[pl]) (by simp_all) (by simp_all) ?_
    have hF:=oc hF;obtain⟨c10,hF⟩:=hF
    have w11:i64.wrap ((i:Int)+1)=(i:Int)+1:=ZE (by omega) (by omega)
    repeat first|refine cg ?_|simp -dsimp[w11]
    refine aG _ ?_ ((ih_f155 (out++[v8]) (i+1) o hF) _ rfl _ hq)
    exact(gT (by simp) (by simp_all))
  ·have z3:¬((i:Int)<(list.length:Int)):=auz
   cases hF
   repeat first|refine cg ?_|simp -dsimp[h1,q2,z3]
   refine lG _ (gT (by simp) (by simp_all)) hq
theorem C.f156 (list:List Clause)(r:(List (List Pattern))×Bool)(hF:F.f156 list=some r):PureCall Tryz.prog B 19 [am Clause.c list] (.tup [am (cL Pattern.c) r.1,.lit (.bool r.2)]):=by
 unfold F.f156 at hF
 refine pE Tryz.func19 (by kernel_rfl) rfl Tryz.ntmps19 (by simp) (by simp) ?_
 repeat first|refine cg ?_|simp -dsimp
 have hF:=ob hF;obtain⟨o',ho12,hF⟩:=hF
 refine ALoop.goU ⟨[(4,.own 0 (List.length (α:=List Pattern) [])),(7,.arr (List.map Clause.c list)),(8,.lit (.int .i64 (list.length:Int))),(9,.lit (.int .i64 0))],[.elems 1 (List.map (cL Pattern.c) [])]⟩ (by refine Gh.trans (Gh.nil 4 1 (by simp -dsimp)) ?_;exact(gT (by simp) (by simp -dsimp))) ?_
 refine((CC.f155 B hB1 hB2 list) [] 0 o' ho12) _ rfl _ ?_
 rcases o' with r0|sx
 ·dsimp only at hF
  cases hF
  intro st h
  simpa using h
 ·dsimp only at hF
  cases hF
  repeat first|refine cg ?_|simp -dsimp
theorem C.f157 (s:List Int)(r:List Int)(hF:F.f157 s=some r):BCall Tryz.prog B 55 [] [am cI s] (.own 0 (List.length (α:=Int) r)) [.elems 1 (List.map cI r)]:=by
 unfold F.f157 at hF
 have hF:=oc hF;obtain⟨c1,hF⟩:=hF
 cases hF
 cases s with
 |nil=>
  refine BCall.empty1 fun a c=> ?_
  cases a
  ·refine BCall.ofNil 1 (by simp) (by simp) ?_
   refine pE Tryz.func55 (by kernel_rfl) rfl Tryz.ntmps55 (by simp) (by simp) ?_
   repeat first|refine cg ?_|simp -dsimp
  ·refine BCall.enter Tryz.func55 (by kernel_rfl) rfl Tryz.ntmps55 (by simp) rfl (by simp) (by simp) (by simp) (by simp) (by simp) (gR _) ?_
   repeat first|refine cg ?_|simp -dsimp
 |cons x xs=>
  have c1:xs.length+1<=67108864:=by simpa using c1
  refine BCall.enter Tryz.func55 (by kernel_rfl) rfl Tryz.ntmps55 (by simp) rfl (by simp) (by simp) (by simp) (by simp) (by simp) (gR _) ?_
  repeat first|refine cg ?_|simp -dsimp
theorem CC.impl_tests__g  :(∀(p:Pattern) (path:List Int) (steps':List Step) (binds:List PathBind) (r:(List Step)×(List PathBind)),F.f158 p path steps' binds=some r->BCall Tryz.prog B 20 [.cells [.own 2 (List.length (α:=Step) steps')],.cells [.own 3 (List.length (α:=PathBind) binds)],.elems 8 (List.map Step.c steps'),.elems 2 (List.map PathBind.c binds)] [.agg [li p.op,li p.ctor,li p.n,li p.m,li p.var,am Pattern.c p.kids],am cI path,.ptr 0 0,.ptr 1 0] (.tup []) [.cells [.own 2 (List.length (α:=Step) r.1)],.cells [.own 3 (List.length (α:=PathBind) r.2)],.elems 8 (List.map Step.c r.1),.elems 2 (List.map PathBind.c r.2)])/\
  (∀(p:Pattern) (path:List Int) (out94:List Step) (out95:List PathBind) (i96:Nat) (o:(List Step)×(List PathBind)),F.f163 p path out94 out95 i96=some o->∀(c:Code),ZY [1,1,1,1,0,0] (ZJ Tryz.f20)=some c->∀(Q:Exit->ASt->Prop),(Q (.exit 1) ⟨[],[.cells [.own 2 (List.length (α:=Step) o.1)],.cells [.own 3 (List.length (α:=PathBind) o.2)],.elems 8 (List.map Step.c o.1),.elems 2 (List.map PathBind.c o.2)]⟩)->ALoopU Tryz.prog B 4 81 (hold c .mk) ⟨[(1,am cI path),(2,.ptr 0 0),(3,.ptr 1 0),(4,.ptr 4 0),(59,am Pattern.c p.kids),(60,li (p.kids.length:Int)),(61,li (i96:Int))],[.cells [.own 2 (List.length (α:=Step) out94)],.cells [.own 3 (List.length (α:=PathBind) out95)],.elems 8 (List.map Step.c out94),.elems 2 (List.map PathBind.c out95),.cells [li p.op,li p.ctor,li p.n,li p.m,li p.var,am Pattern.c p.kids]]⟩ (hold Q .mk))/\
  (∀(p:Pattern) (path:List Int) (out73:List Step) (out74:List PathBind) (i75:Nat) (o:(List Step)×(List PathBind)),F.f162 p path out73 out74 i75=some o->∀(c:Code),ZY [1,1,1,1,0,0] (ZJ Tryz.f20)=some c->∀(Q:Exit->ASt->Prop),(Q (.exit 1) ⟨[],[.cells [.own 2 (List.length (α:=Step) o.1)],.cells [.own 3 (List.length (α:=PathBind) o.2)],.elems 8 (List.map Step.c o.1),.elems 2 (List.map PathBind.c o.2)]⟩)->ALoopU Tryz.prog B 4 81 (hold c .mk) ⟨[(1,am cI path),(2,.ptr 0 0),(3,.ptr 1 0),(4,.ptr 4 0),(59,am Pattern.c p.kids),(60,li (p.kids.length:Int)),(61,li (i75:Int))],[.cells [.own 2 (List.length (α:=Step) out73)],.cells [.own 3 (List.length (α:=PathBind) out74)],.elems 8 (List.map Step.c out73),.elems 2 (List.map PathBind.c out74),.cells [li p.op,li p.ctor,li p.n,li p.m,li p.var,am Pattern.c p.kids]]⟩ (hold Q .mk))/\
  (∀(p:Pattern) (path:List Int) (out49:List Step) (out50:List PathBind) (i51:Nat) (o:(List Step)×(List PathBind)),F.f161 p path out49 out50 i51=some o->∀(c:Code),ZY [1,1,1,1,0,0] (ZJ Tryz.f20)=some c->∀(Q:Exit->ASt->Prop),(Q (.exit 1) ⟨[],[.cells [.own 2 (List.length (α:=Step) o.1)],.cells [.own 3 (List.length (α:=PathBind) o.2)],.elems 8 (List.map Step.c o.1),.elems 2 (List.map PathBind.c o.2)]⟩)->ALoopU Tryz.prog B 4 81 (hold c .mk) ⟨[(1,am cI path),(2,.ptr 0 0),(3,.ptr 1 0),(4,.ptr 4 0),(59,am Pattern.c p.kids),(60,li (p.kids.length:Int)),(61,li (i51:Int))],[.cells [.own 2 (List.length (α:=Step) out49)],.cells [.own 3 (List.length (α:=PathBind) out50)],.elems 8 (List.map Step.c out49),.elems 2 (List.map PathBind.c out50),.cells [li p.op,li p.ctor,li p.n,li p.m,li p.var,am Pattern.c p.kids]]⟩ (hold Q .mk))/\
  (∀(p:Pattern) (path:List Int) (out25:List Step) (out26:List PathBind) (i27:Nat) (o:(List Step)×(List PathBind)),F.f160 p path out25 out26 i27=some o->∀(c:Code),ZY [1,1,1,1,0,0] (ZJ Tryz.f20)=some c->∀(Q:Exit->ASt->Prop),(Q (.exit 1) ⟨[],[.cells [.own 2 (List.length (α:=Step) o.1)],.cells [.own 3 (List.length (α:=PathBind) o.2)],.elems 8 (List.map Step.c o.1),.elems 2 (List.map PathBind.c o.2)]⟩)->ALoopU Tryz.prog B 4 81 (hold c .mk) ⟨[(1,am cI path),(2,.ptr 0 0),(3,.ptr 1 0),(4,.ptr 4 0),(59,am Pattern.c p.kids),(60,li (p.kids.length:Int)),(61,li (i27:Int))],[.cells [.own 2 (List.length (α:=Step) out25)],.cells [.own 3 (List.length (α:=PathBind) out26)],.elems 8 (List.map Step.c out25),.elems 2 (List.map PathBind.c out26),.cells [li p.op,li p.ctor,li p.n,li p.m,li p.var,am Pattern.c p.kids]]⟩ (hold Q .mk))/\
  (∀(p:Pattern) (path:List Int) (out:List Step) (out5:List PathBind) (i:Nat) (o:(List Step)×(List PathBind)),F.f159 p path out out5 i=some o->∀(c:Code),ZY [1,1,1,1,0,0] (ZJ Tryz.f20)=some c->∀(Q:Exit->ASt->Prop),(Q (.exit 1) ⟨[],[.cells [.own 2 (List.length (α:=Step) o.1)],.cells [.own 3 (List.length (α:=PathBind) o.2)],.elems 8 (List.map Step.c o.1),.elems 2 (List.map PathBind.c o.2)]⟩)->ALoopU Tryz.prog B 4 81 (hold c .mk) ⟨[(1,am cI path),(2,.ptr 0 0),(3,.ptr 1 0),(4,.ptr 4 0),(59,am Pattern.c p.kids),(60,li (p.kids.length:Int)),(61,li (i:Int))],[.cells [.own 2 (List.length (α:=Step) out)],.cells [.own 3 (List.length (α:=PathBind) out5)],.elems 8 (List.map Step.c out),.elems 2 (List.map PathBind.c out5),.cells [li p.op,li p.ctor,li p.n,li p.m,li p.var,am Pattern.c p.kids]]⟩ (hold Q .mk)):=by
 refine F.f158.mutual_partial_correctness 
  _ _ _ _ _ _
  ?_ ?_ ?_ ?_ ?_ ?_
 ·intro _f_impl_tests__g_l5 _f_impl_tests__g_l4 _f_impl_tests__g_l3 _f_impl_tests__g_l2 _f_impl_tests__g_l1 ih_impl_tests__g_l5 ih_impl_tests__g_l4 ih_impl_tests__g_l3 ih_impl_tests__g_l2 ih_impl_tests__g_l1 p path steps' binds r hF
  refine BCall.enter Tryz.func20 (by kernel_rfl) rfl Tryz.ntmps20 (by simp) rfl (by simp) (by simp) (by simp) (by simp) (by simp) (gR _) ?_
  repeat first|refine cg ?_|simp -dsimp
  have hF:=ob hF;obtain⟨v,e1,hF⟩:=hF
  refine((C.f157 B hB1 hB2 path v e1)).go (pl [5]) (by simp) (by simp) (by intro i j hi;simp at hi) (by intro i hi hi';simp at hi hi';first|omega|(subst hi';simp[pl])) (by simp) (by simp) ?_
  repeat first|refine cg ?_|simp -dsimp
  revert hF;refine aS ?_ ?_<;>intro h2 q3 hF
  ·repeat first|refine cg ?_|simp -dsimp[h2]
   refine ADraw.eff [1000071] [(0,3),(0,2),(0,2),(0,2),(0,0),(0,0),(0,0),(0,4),(0,4),(0,4),(3,3),(0,4)] [1,1,0,2,1,1,1,1,1,1,1,1] follows (by kernel_rfl) (by kernel_rfl) (by kernel_rfl) ?_
   have hF:=oc hF;obtain⟨c4,hF⟩:=hF
   repeat first|refine cg ?_|simp -dsimp[h2]
   have hF:=ob hF;obtain⟨o',ho21,hF⟩:=hF
   refine ALoop.goU _ ?_ ((ih_impl_tests__g_l1 p path steps' (binds++[(⟨p.var,v⟩:PathBind)]) 0 o' ho21) _ rfl _ ?_)
   ·exact(gT (by simp) (by first|simp -dsimp[h2];done|simp_all))
   cases hF
   repeat first|refine cg ?_|simp -dsimp
   all_goals(try first|omega|rfl|(simp;done)|(simp only[List.length_cons,List.length_nil]at*;omega)|simp)
  ·repeat first|refine cg ?_|simp -dsimp[h2,q3]
   revert hF;refine aS ?_ ?_<;>intro h22 q23 hF
   ·repeat first|refine cg ?_|simp -dsimp[h2,q3,h22]
    refine ADraw.eff [1000071] [(0,3),(0,2),(0,2),(0,2),(0,0),(0,0),(0,0),(0,4),(0,4),(0,4),(3,3),(0,4)] [1,1,0,2,1,1,1,1,1,1,1,1] follows (by kernel_rfl) (by kernel_rfl) (by kernel_rfl) ?_
    have hF:=oc hF;obtain⟨c24,hF⟩:=hF
    repeat first|refine cg ?_|simp -dsimp[h2,q3,h22]
    have hF:=ob hF;obtain⟨o'45,ho44,hF⟩:=hF
    refine ALoop.goU _ ?_ ((ih_impl_tests__g_l2 p path steps' (binds++[(⟨p.var,v⟩:PathBind)]) 0 o'45 ho44) _ rfl _ ?_)
    ·exact(gT (by simp) (by first|simp -dsimp[h2,q3,h22];done|simp_all))
    cases hF
    repeat first|refine cg ?_|simp -dsimp
    all_goals(try first|omega|rfl|(simp;done)|(simp only[List.length_cons,List.length_nil]at*;omega)|simp)
   ·repeat first|refine cg ?_|simp -dsimp[h2,q3,h22,q23]
    revert hF;refine aS ?_ ?_<;>intro h46 q47 hF
    ·repeat first|refine cg ?_|simp -dsimp[h2,q3,h22,q23,h46]
     refine ADraw.eff [1000044] [(0,3),(0,2),(0,2),(0,2),(0,0),(0,0),(0,0),(0,0),(0,0),(0,4),(0,4),(0,4),(3,3),(0,4)] [1,1,0,2,1,1,1,1,1,1,1,1,1,1] follows (by kernel_rfl) (by kernel_rfl) (by kernel_rfl) ?_
     have hF:=oc hF;obtain⟨c48,hF⟩:=hF
     repeat first|refine cg ?_|simp -dsimp[h2,q3,h22,q23,h46]
     have hF:=ob hF;obtain⟨o'69,ho68,hF⟩:=hF
     refine ALoop.goU _ ?_ ((ih_impl_tests__g_l3 p path (steps'++[(⟨1,v,(-1),p.n,p.m,0,[],0⟩:Step)]) binds 0 o'69 ho68) _ rfl _ ?_)
     ·exact(gT (by simp) (by first|simp -dsimp[h2,q3,h22,q23,h46];done|simp_all))
     cases hF
     repeat first|refine cg ?_|simp -dsimp
     all_goals(try first|omega|rfl|(simp;done)|(simp only[List.length_cons,List.length_nil]at*;omega)|simp)
    ·repeat first|refine cg ?_|simp -dsimp[h2,q3,h22,q23,h46,q47]
     revert hF;refine aS ?_ ?_<;>intro h70 q71 hF
     ·repeat first|refine cg ?_|simp -dsimp[h2,q3,h22,q23,h46,q47,h70]
      refine ADraw.eff [1000044] [(0,3),(0,2),(0,2),(0,2),(0,0),(0,0),(0,0),(0,4),(0,4),(0,4),(3,3),(0,4)] [1,1,0,2,1,1,1,1,1,1,1,1] follows (by kernel_rfl) (by kernel_rfl) (by kernel_rfl) ?_
      have hF:=oc hF;obtain⟨c72,hF⟩:=hF
      repeat first|refine cg ?_|simp -dsimp[h2,q3,h22,q23,h46,q47,h70]
      have hF:=ob hF;obtain⟨o'93,ho92,hF⟩:=hF
      refine ALoop.goU _ ?_ ((ih_impl_tests__g_l4 p path (steps'++[(⟨1,v,p.ctor,0,0,0,[],0⟩:Step)]) binds 0 o'93 ho92) _ rfl _ ?_)
      ·exact(gT (by simp) (by first|simp -dsimp[h2,q3,h22,q23,h46,q47,h70];done|simp_all))
      cases hF
      repeat first|refine cg ?_|simp -dsimp
      all_goals(try first|omega|rfl|(simp;done)|(simp only[List.length_cons,List.length_nil]at*;omega)|simp)
     ·repeat first|refine cg ?_|simp -dsimp[h2,q3,h22,q23,h46,q47,h70,q71]
      have hF:=ob hF;obtain⟨o'114,ho113,hF⟩:=hF
      refine ALoop.goU _ ?_ ((ih_impl_tests__g_l5 p path steps' binds 0 o'114 ho113) _ rfl _ ?_)
      ·exact(gT (by simp) (by first|simp -dsimp[h2,q3,h22,q23,h46,q47,h70,q71];done|simp_all))
      cases hF
      repeat first|refine cg ?_|simp -dsimp
      all_goals(try first|omega|rfl|(simp;done)|(simp only[List.length_cons,List.length_nil]at*;omega)|simp)
 ·intro _f_impl_tests__g _f_impl_tests__g_l5 ih_impl_tests__g ih_impl_tests__g_l5 p path out94 out95 i96 o hF
  intro c hc Q hq
  obtain rfl:c=_:=ZK hc rfl
  refine kN fun hk hs=> ?_
  have b1:=hk 1
  simp -dsimp at b1
  have b59:=hk 59
  simp -dsimp at b59
  have d2:=hs 2 _ rfl
  simp -dsimp[Blk.bnd]at d2
  have d3:=hs 3 _ rfl
  simp -dsimp[Blk.bnd]at d3
  have d4:=hs 4 _ rfl
  simp -dsimp[Blk.bnd]at d4
  clear hk hs
  refine eN ?_
  repeat first|refine cg ?_|simp -dsimp
  revert hF;refine aS ?_ ?_<;>intro h97 q98 hF
  ·have z99:((i96:Int)<(p.kids.length:Int)):=auz
   have hF:=ob hF;obtain⟨x100,e101,hF⟩:=hF
   have le101:=ZD e101
   repeat first|refine cg ?_|simp -dsimp[h97,z99,↓e101]
   revert hF;refine aS ?_ ?_<;>intro h102 q103 hF
   ·repeat first|refine cg ?_|simp -dsimp[h97,z99,↓e101,h102]
    have hF:=ob hF;obtain⟨v104,e105,hF⟩:=hF
    refine((C.f157 B hB1 hB2 path v104 e105)).go (pl [6]) (by simp) (by simp) (by intro i j hi;simp at hi) (by intro i hi hi';simp at hi hi';first|omega|(subst hi';simp[pl])) (by first|simp[h97,z99,↓e101,h102];done|simp_all) (by first|simp[h97,z99,↓e101,h102];done|simp_all) ?_
    have hF:=oc hF;obtain⟨c106,hF⟩:=hF
    repeat first|refine cg ?_|simp -dsimp[h97,z99,↓e101,h102]
    have hF:=ob hF;obtain⟨v107,e108,hF⟩:=hF
    refine ACall.frzAt 1 (l:=6) (n:=List.length (α:=Int) (v104++[(i96:Int)])) (sz:=1) (es:=List.map cI (v104++[(i96:Int)])) (by simp) (by simp) (by simp) (by simp) ?_
    repeat first|refine cg ?_|simp -dsimp[h97,z99,↓e101,h102]
    refine((ih_impl_tests__g x100 (v104++[(i96:Int)]) out94 out95 v107 e108)).go (pl [0,1,2,3]) (by simp) (by simp) (Zu _ rfl (by decide)) (by intro i hi hi';simp at hi hi';omega) (by first|simp[h97,z99,↓e101,h102];done|simp_all) (by first|simp[h97,z99,↓e101,h102];done|simp_all) ?_
    have w109:i64.wrap ((i96:Int)+1)=(i96:Int)+1:=ZE (by omega) (by omega)
    repeat first|refine cg ?_|simp -dsimp[h97,z99,↓e101,h102,w109]
    refine aG _ ?_ ((ih_impl_tests__g_l5 p path v107.1 v107.2 (i96+1) o hF) _ rfl _ hq)
    exact(gT (by simp) (by first|simp -dsimp[h97,z99,↓e101,h102,w109];done|simp_all))
   ·repeat first|refine cg ?_|simp -dsimp[h97,z99,↓e101,h102,q103]
    have hF:=ob hF;obtain⟨v110,e111,hF⟩:=hF
    refine((ih_impl_tests__g x100 path out94 out95 v110 e111)).go (pl [0,1,2,3]) (by simp) (by simp) (Zu _ rfl (by decide)) (by intro i hi hi';simp at hi hi';omega) (by first|simp[h97,z99,↓e101,h102,q103];done|simp_all) (by first|simp[h97,z99,↓e101,h102,q103];done|simp_all) ?_
    have w112:i64.wrap ((i96:Int)+1)=(i96:Int)+1:=ZE (by omega) (by omega)
    repeat first|refine cg ?_|simp -dsimp[h97,z99,↓e101,h102,q103,w112]
    refine aG _ ?_ ((ih_impl_tests__g_l5 p path v110.1 v110.2 (i96+1) o hF) _ rfl _ hq)
    exact(gT (by simp) (by first|simp -dsimp[h97,z99,↓e101,h102,q103,w112];done|simp_all))
  ·have z99:¬((i96:Int)<(p.kids.length:Int)):=auz
   cases hF
   repeat first|refine cg ?_|simp -dsimp[h97,q98,z99]
   refine lG _ (gT (by simp) (by first|simp -dsimp[h97,q98,z99];done|simp_all)) hq
 ·intro _f_impl_tests__g _f_impl_tests__g_l4 ih_impl_tests__g ih_impl_tests__g_l4 p path out73 out74 i75 o hF
  intro c hc Q hq
  obtain rfl:c=_:=ZK hc rfl
  refine kN fun hk hs=> ?_
  have b1:=hk 1
  simp -dsimp at b1
  have b59:=hk 59
  simp -dsimp at b59
  have d2:=hs 2 _ rfl
  simp -dsimp[Blk.bnd]at d2
  have d3:=hs 3 _ rfl
  simp -dsimp[Blk.bnd]at d3
  have d4:=hs 4 _ rfl
  simp -dsimp[Blk.bnd]at d4
  clear hk hs
  refine eN ?_
  repeat first|refine cg ?_|simp -dsimp
  revert hF;refine aS ?_ ?_<;>intro h76 q77 hF
  ·have z78:((i75:Int)<(p.kids.length:Int)):=auz
   have hF:=ob hF;obtain⟨x79,e80,hF⟩:=hF
   have le80:=ZD e80
   repeat first|refine cg ?_|simp -dsimp[h76,z78,↓e80]
   revert hF;refine aS ?_ ?_<;>intro h81 q82 hF
   ·repeat first|refine cg ?_|simp -dsimp[h76,z78,↓e80,h81]
    have hF:=ob hF;obtain⟨v83,e84,hF⟩:=hF
    refine((C.f157 B hB1 hB2 path v83 e84)).go (pl [6]) (by simp) (by simp) (by intro i j hi;simp at hi) (by intro i hi hi';simp at hi hi';first|omega|(subst hi';simp[pl])) (by first|simp[h76,z78,↓e80,h81];done|simp_all) (by first|simp[h76,z78,↓e80,h81];done|simp_all) ?_
    have hF:=oc hF;obtain⟨c85,hF⟩:=hF
    repeat first|refine cg ?_|simp -dsimp[h76,z78,↓e80,h81]
    have hF:=ob hF;obtain⟨v86,e87,hF⟩:=hF
    refine ACall.frzAt 1 (l:=6) (n:=List.length (α:=Int) (v83++[(i75:Int)])) (sz:=1) (es:=List.map cI (v83++[(i75:Int)])) (by simp) (by simp) (by simp) (by simp) ?_
    repeat first|refine cg ?_|simp -dsimp[h76,z78,↓e80,h81]
    refine((ih_impl_tests__g x79 (v83++[(i75:Int)]) out73 out74 v86 e87)).go (pl [0,1,2,3]) (by simp) (by simp) (Zu _ rfl (by decide)) (by intro i hi hi';simp at hi hi';omega) (by first|simp[h76,z78,↓e80,h81];done|simp_all) (by first|simp[h76,z78,↓e80,h81];done|simp_all) ?_
    have w88:i64.wrap ((i75:Int)+1)=(i75:Int)+1:=ZE (by omega) (by omega)
    repeat first|refine cg ?_|simp -dsimp[h76,z78,↓e80,h81,w88]
    refine aG _ ?_ ((ih_impl_tests__g_l4 p path v86.1 v86.2 (i75+1) o hF) _ rfl _ hq)
    exact(gT (by simp) (by first|simp -dsimp[h76,z78,↓e80,h81,w88];done|simp_all))
   ·repeat first|refine cg ?_|simp -dsimp[h76,z78,↓e80,h81,q82]
    have hF:=ob hF;obtain⟨v89,e90,hF⟩:=hF
    refine((ih_impl_tests__g x79 path out73 out74 v89 e90)).go (pl [0,1,2,3]) (by simp) (by simp) (Zu _ rfl (by decide)) (by intro i hi hi';simp at hi hi';omega) (by first|simp[h76,z78,↓e80,h81,q82];done|simp_all) (by first|simp[h76,z78,↓e80,h81,q82];done|simp_all) ?_
    have w91:i64.wrap ((i75:Int)+1)=(i75:Int)+1:=ZE (by omega) (by omega)
    repeat first|refine cg ?_|simp -dsimp[h76,z78,↓e80,h81,q82,w91]
    refine aG _ ?_ ((ih_impl_tests__g_l4 p path v89.1 v89.2 (i75+1) o hF) _ rfl _ hq)
    exact(gT (by simp) (by first|simp -dsimp[h76,z78,↓e80,h81,q82,w91];done|simp_all))
  ·have z78:¬((i75:Int)<(p.kids.length:Int)):=auz
   cases hF
   repeat first|refine cg ?_|simp -dsimp[h76,q77,z78]
   refine lG _ (gT (by simp) (by first|simp -dsimp[h76,q77,z78];done|simp_all)) hq
 ·intro _f_impl_tests__g _f_impl_tests__g_l3 ih_impl_tests__g ih_impl_tests__g_l3 p path out49 out50 i51 o hF
  intro c hc Q hq
  obtain rfl:c=_:=ZK hc rfl
  refine kN fun hk hs=> ?_
  have b1:=hk 1
  simp -dsimp at b1
  have b59:=hk 59
  simp -dsimp at b59
  have d2:=hs 2 _ rfl
  simp -dsimp[Blk.bnd]at d2
  have d3:=hs 3 _ rfl
  simp -dsimp[Blk.bnd]at d3
  have d4:=hs 4 _ rfl
  simp -dsimp[Blk.bnd]at d4
  clear hk hs
  refine eN ?_
  repeat first|refine cg ?_|simp -dsimp
  revert hF;refine aS ?_ ?_<;>intro h52 q53 hF
  ·have z54:((i51:Int)<(p.kids.length:Int)):=auz
   have hF:=ob hF;obtain⟨x55,e56,hF⟩:=hF
   have le56:=ZD e56
   repeat first|refine cg ?_|simp -dsimp[h52,z54,↓e56]
   revert hF;refine aS ?_ ?_<;>intro h57 q58 hF
   ·repeat first|refine cg ?_|simp -dsimp[h52,z54,↓e56,h57]
    have hF:=ob hF;obtain⟨v59,e60,hF⟩:=hF
    refine((C.f157 B hB1 hB2 path v59 e60)).go (pl [6]) (by simp) (by simp) (by intro i j hi;simp at hi) (by intro i hi hi';simp at hi hi';first|omega|(subst hi';simp[pl])) (by first|simp[h52,z54,↓e56,h57];done|simp_all) (by first|simp[h52,z54,↓e56,h57];done|simp_all) ?_
    have hF:=oc hF;obtain⟨c61,hF⟩:=hF
    repeat first|refine cg ?_|simp -dsimp[h52,z54,↓e56,h57]
    have hF:=ob hF;obtain⟨v62,e63,hF⟩:=hF
    refine ACall.frzAt 1 (l:=6) (n:=List.length (α:=Int) (v59++[(i51:Int)])) (sz:=1) (es:=List.map cI (v59++[(i51:Int)])) (by simp) (by simp) (by simp) (by simp) ?_
    repeat first|refine cg ?_|simp -dsimp[h52,z54,↓e56,h57]
    refine((ih_impl_tests__g x55 (v59++[(i51:Int)]) out49 out50 v62 e63)).go (pl [0,1,2,3]) (by simp) (by simp) (Zu _ rfl (by decide)) (by intro i hi hi';simp at hi hi';omega) (by first|simp[h52,z54,↓e56,h57];done|simp_all) (by first|simp[h52,z54,↓e56,h57];done|simp_all) ?_
    have w64:i64.wrap ((i51:Int)+1)=(i51:Int)+1:=ZE (by omega) (by omega)
    repeat first|refine cg ?_|simp -dsimp[h52,z54,↓e56,h57,w64]
    refine aG _ ?_ ((ih_impl_tests__g_l3 p path v62.1 v62.2 (i51+1) o hF) _ rfl _ hq)
    exact(gT (by simp) (by first|simp -dsimp[h52,z54,↓e56,h57,w64];done|simp_all))
   ·repeat first|refine cg ?_|simp -dsimp[h52,z54,↓e56,h57,q58]
    have hF:=ob hF;obtain⟨v65,e66,hF⟩:=hF
    refine((ih_impl_tests__g x55 path out49 out50 v65 e66)).go (pl [0,1,2,3]) (by simp) (by simp) (Zu _ rfl (by decide)) (by intro i hi hi';simp at hi hi';omega) (by first|simp[h52,z54,↓e56,h57,q58];done|simp_all) (by first|simp[h52,z54,↓e56,h57,q58];done|simp_all) ?_
    have w67:i64.wrap ((i51:Int)+1)=(i51:Int)+1:=ZE (by omega) (by omega)
    repeat first|refine cg ?_|simp -dsimp[h52,z54,↓e56,h57,q58,w67]
    refine aG _ ?_ ((ih_impl_tests__g_l3 p path v65.1 v65.2 (i51+1) o hF) _ rfl _ hq)
    exact(gT (by simp) (by first|simp -dsimp[h52,z54,↓e56,h57,q58,w67];done|simp_all))
  ·have z54:¬((i51:Int)<(p.kids.length:Int)):=auz
   cases hF
   repeat first|refine cg ?_|simp -dsimp[h52,q53,z54]
   refine lG _ (gT (by simp) (by first|simp -dsimp[h52,q53,z54];done|simp_all)) hq
 ·intro _f_impl_tests__g _f_impl_tests__g_l2 ih_impl_tests__g ih_impl_tests__g_l2 p path out25 out26 i27 o hF
  intro c hc Q hq
  obtain rfl:c=_:=ZK hc rfl
  refine kN fun hk hs=> ?_
  have b1:=hk 1
  simp -dsimp at b1
  have b59:=hk 59
  simp -dsimp at b59
  have d2:=hs 2 _ rfl
  simp -dsimp[Blk.bnd]at d2
  have d3:=hs 3 _ rfl
  simp -dsimp[Blk.bnd]at d3
  have d4:=hs 4 _ rfl
  simp -dsimp[Blk.bnd]at d4
  clear hk hs
  refine eN ?_
  repeat first|refine cg ?_|simp -dsimp
  revert hF;refine aS ?_ ?_<;>intro h28 q29 hF
  ·have z30:((i27:Int)<(p.kids.length:Int)):=auz
   have hF:=ob hF;obtain⟨x31,e32,hF⟩:=hF
   have le32:=ZD e32
   repeat first|refine cg ?_|simp -dsimp[h28,z30,↓e32]
   revert hF;refine aS ?_ ?_<;>intro h33 q34 hF
   ·repeat first|refine cg ?_|simp -dsimp[h28,z30,↓e32,h33]
    have hF:=ob hF;obtain⟨v35,e36,hF⟩:=hF
    refine((C.f157 B hB1 hB2 path v35 e36)).go (pl [6]) (by simp) (by simp) (by intro i j hi;simp at hi) (by intro i hi hi';simp at hi hi';first|omega|(subst hi';simp[pl])) (by first|simp[h28,z30,↓e32,h33];done|simp_all) (by first|simp[h28,z30,↓e32,h33];done|simp_all) ?_
    have hF:=oc hF;obtain⟨c37,hF⟩:=hF
    repeat first|refine cg ?_|simp -dsimp[h28,z30,↓e32,h33]
    have hF:=ob hF;obtain⟨v38,e39,hF⟩:=hF
    refine ACall.frzAt 1 (l:=6) (n:=List.length (α:=Int) (v35++[(i27:Int)])) (sz:=1) (es:=List.map cI (v35++[(i27:Int)])) (by simp) (by simp) (by simp) (by simp) ?_
    repeat first|refine cg ?_|simp -dsimp[h28,z30,↓e32,h33]
    refine((ih_impl_tests__g x31 (v35++[(i27:Int)]) out25 out26 v38 e39)).go (pl [0,1,2,3]) (by simp) (by simp) (Zu _ rfl (by decide)) (by intro i hi hi';simp at hi hi';omega) (by first|simp[h28,z30,↓e32,h33];done|simp_all) (by first|simp[h28,z30,↓e32,h33];done|simp_all) ?_
    have w40:i64.wrap ((i27:Int)+1)=(i27:Int)+1:=ZE (by omega) (by omega)
    repeat first|refine cg ?_|simp -dsimp[h28,z30,↓e32,h33,w40]
    refine aG _ ?_ ((ih_impl_tests__g_l2 p path v38.1 v38.2 (i27+1) o hF) _ rfl _ hq)
    exact(gT (by simp) (by first|simp -dsimp[h28,z30,↓e32,h33,w40];done|simp_all))
   ·repeat first|refine cg ?_|simp -dsimp[h28,z30,↓e32,h33,q34]
    have hF:=ob hF;obtain⟨v41,e42,hF⟩:=hF
    refine((ih_impl_tests__g x31 path out25 out26 v41 e42)).go (pl [0,1,2,3]) (by simp) (by simp) (Zu _ rfl (by decide)) (by intro i hi hi';simp at hi hi';omega) (by first|simp[h28,z30,↓e32,h33,q34];done|simp_all) (by first|simp[h28,z30,↓e32,h33,q34];done|simp_all) ?_
    have w43:i64.wrap ((i27:Int)+1)=(i27:Int)+1:=ZE (by omega) (by omega)
    repeat first|refine cg ?_|simp -dsimp[h28,z30,↓e32,h33,q34,w43]
    refine aG _ ?_ ((ih_impl_tests__g_l2 p path v41.1 v41.2 (i27+1) o hF) _ rfl _ hq)
    exact(gT (by simp) (by first|simp -dsimp[h28,z30,↓e32,h33,q34,w43];done|simp_all))
  ·have z30:¬((i27:Int)<(p.kids.length:Int)):=auz
   cases hF
   repeat first|refine cg ?_|simp -dsimp[h28,q29,z30]
   refine lG _ (gT (by simp) (by first|simp -dsimp[h28,q29,z30];done|simp_all)) hq
 ·intro _f_impl_tests__g _f_impl_tests__g_l1 ih_impl_tests__g ih_impl_tests__g_l1 p path out out5 i o hF
  intro c hc Q hq
  obtain rfl:c=_:=ZK hc rfl
  refine kN fun hk hs=> ?_
  have b1:=hk 1
  simp -dsimp at b1
  have b59:=hk 59
  simp -dsimp at b59
  have d2:=hs 2 _ rfl
  simp -dsimp[Blk.bnd]at d2
  have d3:=hs 3 _ rfl
  simp -dsimp[Blk.bnd]at d3
  have d4:=hs 4 _ rfl
  simp -dsimp[Blk.bnd]at d4
  clear hk hs
  refine eN ?_
  repeat first|refine cg ?_|simp -dsimp
  revert hF;refine aS ?_ ?_<;>intro h6 q7 hF
  ·have z8:((i:Int)<(p.kids.length:Int)):=auz
   have hF:=ob hF;obtain⟨x,e9,hF⟩:=hF
   have le9:=ZD e9
   repeat first|refine cg ?_|simp -dsimp[h6,z8,↓e9]
   revert hF;refine aS ?_ ?_<;>intro h10 q11 hF
   ·repeat first|refine cg ?_|simp -dsimp[h6,z8,↓e9,h10]
    have hF:=ob hF;obtain⟨v12,e13,hF⟩:=hF
    refine((C.f157 B hB1 hB2 path v12 e13)).go (pl [6]) (by simp) (by simp) (by intro i j hi;simp at hi) (by intro i hi hi';simp at hi hi';first|omega|(subst hi';simp[pl])) (by first|simp[h6,z8,↓e9,h10];done|simp_all) (by first|simp[h6,z8,↓e9,h10];done|simp_all) ?_
    have hF:=oc hF;obtain⟨c14,hF⟩:=hF
    repeat first|refine cg ?_|simp -dsimp[h6,z8,↓e9,h10]
    have hF:=ob hF;obtain⟨v15,e16,hF⟩:=hF
    refine ACall.frzAt 1 (l:=6) (n:=List.length (α:=Int) (v12++[(i:Int)])) (sz:=1) (es:=List.map cI (v12++[(i:Int)])) (by simp) (by simp) (by simp) (by simp) ?_
    repeat first|refine cg ?_|simp -dsimp[h6,z8,↓e9,h10]
    refine((ih_impl_tests__g x (v12++[(i:Int)]) out out5 v15 e16)).go (pl [0,1,2,3]) (by simp) (by simp) (Zu _ rfl (by decide)) (by intro i hi hi';simp at hi hi';omega) (by first|simp[h6,z8,↓e9,h10];done|simp_all) (by first|simp[h6,z8,↓e9,h10];done|simp_all) ?_
    have w17:i64.wrap ((i:Int)+1)=(i:Int)+1:=ZE (by omega) (by omega)
    repeat first|refine cg ?_|simp -dsimp[h6,z8,↓e9,h10,w17]
    refine aG _ ?_ ((ih_impl_tests__g_l1 p path v15.1 v15.2 (i+1) o hF) _ rfl _ hq)
    exact(gT (by simp) (by first|simp -dsimp[h6,z8,↓e9,h10,w17];done|simp_all))
   ·repeat first|refine cg ?_|simp -dsimp[h6,z8,↓e9,h10,q11]
    have hF:=ob hF;obtain⟨v18,e19,hF⟩:=hF
    refine((ih_impl_tests__g x path out out5 v18 e19)).go (pl [0,1,2,3]) (by simp) (by simp) (Zu _ rfl (by decide)) (by intro i hi hi';simp at hi hi';omega) (by first|simp[h6,z8,↓e9,h10,q11];done|simp_all) (by first|simp[h6,z8,↓e9,h10,q11];done|simp_all) ?_
    have w20:i64.wrap ((i:Int)+1)=(i:Int)+1:=ZE (by omega) (by omega)
    repeat first|refine cg ?_|simp -dsimp[h6,z8,↓e9,h10,q11,w20]
    refine aG _ ?_ ((ih_impl_tests__g_l1 p path v18.1 v18.2 (i+1) o hF) _ rfl _ hq)
    exact(gT (by simp) (by first|simp -dsimp[h6,z8,↓e9,h10,q11,w20];done|simp_all))
  ·have z8:¬((i:Int)<(p.kids.length:Int)):=auz
   cases hF
   repeat first|refine cg ?_|simp -dsimp[h6,q7,z8]
   refine lG _ (gT (by simp) (by first|simp -dsimp[h6,q7,z8];done|simp_all)) hq
theorem C.f164 (x:List PathBind)(r:List PathBind)(hF:F.f164 x=some r):BCall Tryz.prog B 21 [.elems 2 (List.map PathBind.c x)] [.own 0 (List.length (α:=PathBind) x),.fn (.func 22) [] []] (.tup []) [.elems 2 (List.map PathBind.c r)]:=by
 unfold F.f164 at hF
 have hF:=oc hF;obtain⟨c1,hF⟩:=hF
 cases hF
 exact ZHn (c:=PathBind.c) (key:=fun x=>x.var) Tryz.sort21 ⟨Tryz.f21,Tryz.func21,by kernel_rfl,by kernel_rfl⟩ Tryz.isAgg71 Tryz.sizeOf71 (enters_of Tryz.func22 (by kernel_rfl) rfl) Tryz.cmpK22 x (fun x=>⟨_,rfl,rfl⟩) (by simp) c1.1 c1.2
theorem CC.f165 (v4:(List (List Pattern))×Bool)(out:List Step)(i:Nat)(x:List Pattern)(i13:Nat)(v21:List PathBind):(∀(out24:List Step) (k:Nat) (o:List Step),F.f165 v4 out i x i13 v21 out24 k=some o->∀(c:Code),ZY [1,1,1,1,1,0,1,0,0,1,1,0,0,1,1,0,1,0,0,1,1,0,0,1,1,1,1,1,0,1,0,0] (ZJ Tryz.f6)=some c->∀(Q:Exit->ASt->Prop),(Q (.exit 4) ⟨[(10,.ptr 1 0),(11,li (i:Int)),(13,li (out.length:Int)),(17,.ptr 4 0),(32,am (cL Pattern.c) v4.1),(33,li (v4.1.length:Int)),(34,li (i:Int)),(41,am Pattern.c x),(42,li (x.length:Int)),(43,li (i13:Int))],[.dead,.cells [.own 2 (List.length (α:=Step) o)],.elems 8 (List.map Step.c o),.dead,.cells [.own 5 (List.length (α:=PathBind) v21)],.elems 2 (List.map PathBind.c v21)]⟩)->ALoopU Tryz.prog B 0 98 (hold c .mk) ⟨[(10,.ptr 1 0),(11,li (i:Int)),(13,li (out.length:Int)),(17,.ptr 4 0),(18,li (k:Int)),(32,am (cL Pattern.c) v4.1),(33,li (v4.1.length:Int)),(34,li (i:Int)),(41,am Pattern.c x),(42,li (x.length:Int)),(43,li (i13:Int))],[.dead,.cells [.own 2 (List.length (α:=Step) out24)],.elems 8 (List.map Step.c out24),.dead,.cells [.own 5 (List.length (α:=PathBind) v21)],.elems 2 (List.map PathBind.c v21)]⟩ (hold Q .mk)):=by
 refine F.f165.partial_correctness v4 out i x i13 v21
  _
  ?_
 ·intro _f_f165 ih_f165 out24 k o hF
  intro c hc Q hq
  obtain rfl:c=_:=ZK hc rfl
  refine kN fun hk hs=> ?_
  have b32:=hk 32
  simp -dsimp at b32
  have b41:=hk 41
  simp -dsimp at b41
  have d2:=hs 2 _ rfl
  simp -dsimp[Blk.bnd]at d2
  have d5:=hs 5 _ rfl
  simp -dsimp[Blk.bnd]at d5
  clear hk hs
  refine eN ?_
  repeat first|refine cg ?_|simp -dsimp
  revert hF;refine aS ?_ ?_<;>intro h25 q26 hF
  ·have z27:((k:Int)<(out24.length:Int)):=auz
   have hF:=oc hF;obtain⟨c28,hF⟩:=hF
   have w29:i64.wrap ((out24.length:Int)+1)=(out24.length:Int)+1:=ZE (by omega) (by omega)
   have hF:=ob hF;obtain⟨x30,e31,hF⟩:=hF
   have le31:=ZD e31
   have w32:i64.wrap ((k:Int)+1)=(k:Int)+1:=ZE (by omega) (by omega)
   repeat first|refine cg ?_|simp -dsimp[h25,z27,w29,↓e31,w32]
   refine aG _ ?_ ((ih_f165 (out24.set k (⟨x30.op,x30.path,x30.ctor,x30.n,x30.m,x30.clause,x30.binds,((out24.length+1:Nat):Int)⟩:Step)) (k+1) o hF) _ rfl _ hq)
   exact(gT (by simp) (by simp_all))
  ·have z27:¬((k:Int)<(out24.length:Int)):=auz
   cases hF
   repeat first|refine cg ?_|simp -dsimp[h25,q26,z27]
   refine lG _ (gT (by simp) (by simp_all)) hq
theorem CC.f166 (v4:(List (List Pattern))×Bool)(out:List Step)(i:Nat)(x:List Pattern):(∀(out12:List Step) (i13:Nat) (o:List Step),F.f166 v4 out i x out12 i13=some o->∀(c:Code),ZY [1,1,1,1,1,0,1,0,0,1,1,0,0,1,1,0,1,0,0] (ZJ Tryz.f6)=some c->∀(Q:Exit->ASt->Prop),(Q (.exit 2) ⟨[(10,.ptr 1 0),(13,li (out.length:Int)),(32,am (cL Pattern.c) v4.1),(33,li (v4.1.length:Int)),(34,li (i:Int))],[.dead,.cells [.own 2 (List.length (α:=Step) o)],.elems 8 (List.map Step.c o)]⟩)->ALoopU Tryz.prog B 0 98 (hold c .mk) ⟨[(10,.ptr 1 0),(11,li (i:Int)),(13,li (out.length:Int)),(32,am (cL Pattern.c) v4.1),(33,li (v4.1.length:Int)),(34,li (i:Int)),(41,am Pattern.c x),(42,li (x.length:Int)),(43,li (i13:Int))],[.dead,.cells [.own 2 (List.length (α:=Step) out12)],.elems 8 (List.map Step.c out12)]⟩ (hold Q .mk)):=by
 refine F.f166.partial_correctness v4 out i x
  _
  ?_
 ·intro _f_f166 ih_f166 out12 i13 o hF
  intro c hc Q hq
  obtain rfl:c=_:=ZK hc rfl
  refine kN fun hk hs=> ?_
  have b32:=hk 32
  simp -dsimp at b32
  have b41:=hk 41
  simp -dsimp at b41
  have d2:=hs 2 _ rfl
  simp -dsimp[Blk.bnd]at d2
  clear hk hs
  refine eN ?_
  repeat first|refine cg ?_|simp -dsimp
  revert hF;refine aS ?_ ?_<;>intro h14 q15 hF
  ·have z16:((i13:Int)<(x.length:Int)):=auz
   have hF:=ob hF;obtain⟨x17,e18,hF⟩:=hF
   have le18:=ZD e18
   repeat first|refine cg ?_|simp -dsimp[h14,z16,↓e18]
   have hF:=ob hF;obtain⟨v19,e20,hF⟩:=hF
   refine ACall.nilCell 4 0 2 (cs:=[.lit (.slice none 0 0)]) (by simp) (by simp) ?_
   repeat first|refine cg ?_|simp -dsimp
   refine(((CC.impl_tests__g B hB1 hB2).1 x17 [] out12 [] v19 e20)).go (pl [1,4,2,5]) (by simp) (by simp) (Zu _ rfl (by decide)) (by intro i hi hi';simp at hi hi';omega) (by simp_all) (by simp_all) ?_
   repeat first|refine cg ?_|simp -dsimp
   have hF:=ob hF;obtain⟨v21,e22,hF⟩:=hF
   have ZPT:List.length (α:=PathBind) v19.2=List.length (α:=PathBind) v21:=ZKL (key:=fun x=>x.var) (by unfold F.f164 at e22;exact e22)
   refine((C.f164 B hB1 hB2 v19.2 v21 e22)).go (pl [5]) (by simp) (by simp) (Zu _ rfl (by decide)) (by intro i hi hi';simp at hi hi';first|omega|(subst hi';simp[pl])) (by simp_all) (by simp_all) ?_
   repeat first|refine cg ?_|simp -dsimp[ZPT]
   have hF:=ob hF;obtain⟨o',ho33,hF⟩:=hF
   refine ALoop.goU _ ?_ (((CC.f165 B hB1 hB2 v4 out i x i13 v21) v19.1 out12.length o' ho33) _ rfl _ ?_)
   ·exact(gT (by simp) (by simp_all))
   have hF:=oc hF;obtain⟨c34,hF⟩:=hF
   have hF:=oc hF;obtain⟨c35,hF⟩:=hF
   have w36:i64.wrap ((i13:Int)+1)=(i13:Int)+1:=ZE (by omega) (by omega)
   repeat first|refine cg ?_|simp -dsimp[w36]
   refine aG _ ?_ ((ih_f166 (o'++[(⟨2,[],0,0,0,(i:Int),v21,0⟩:Step)]) (i13+1) o hF) _ rfl _ hq)
   exact(gT (by simp) (by simp_all))
  ·have z16:¬((i13:Int)<(x.length:Int)):=auz
   cases hF
   repeat first|refine cg ?_|simp -dsimp[h14,q15,z16]
   refine lG _ (gT (by simp) (by simp_all)) hq
theorem CC.f167 (v4:(List (List Pattern))×Bool)(i:Nat):(∀(out39:List Step) (k40:Nat) (o:List Step),F.f167 v4 i out39 k40=some o->∀(c:Code),ZY [1,1,1,1,1,0,1,0,0,1,1,0,0,1,1,1,1,0,0] (ZJ Tryz.f6)=some c->∀(Q:Exit->ASt->Prop),(Q (.exit 6) ⟨[(10,.ptr 1 0),(32,am (cL Pattern.c) v4.1),(33,li (v4.1.length:Int)),(34,li (i:Int))],[.dead,.cells [.own 2 (List.length (α:=Step) o)],.elems 8 (List.map Step.c o)]⟩)->ALoopU Tryz.prog B 0 98 (hold c .mk) ⟨[(10,.ptr 1 0),(19,li (k40:Int)),(32,am (cL Pattern.c) v4.1),(33,li (v4.1.length:Int)),(34,li (i:Int))],[.dead,.cells [.own 2 (List.length (α:=Step) out39)],.elems 8 (List.map Step.c out39)]⟩ (hold Q .mk)):=by
 refine F.f167.partial_correctness v4 i
  _
  ?_
 ·intro _f_f167 ih_f167 out39 k40 o hF
  intro c hc Q hq
  obtain rfl:c=_:=ZK hc rfl
  refine kN fun hk hs=> ?_
  have b32:=hk 32
  simp -dsimp at b32
  have d2:=hs 2 _ rfl
  simp -dsimp[Blk.bnd]at d2
  clear hk hs
  refine eN ?_
  repeat first|refine cg ?_|simp -dsimp
  revert hF;refine aS ?_ ?_<;>intro h41 q42 hF
  ·have z43:((k40:Int)<(out39.length:Int)):=auz
   have hF:=ob hF;obtain⟨x44,e45,hF⟩:=hF
   have le45:=ZD e45
   repeat first|refine cg ?_|simp -dsimp[h41,z43,↓e45]
   revert hF;refine aS ?_ ?_<;>intro h46 q47 hF
   ·have w48:i64.wrap ((k40:Int)+1)=(k40:Int)+1:=ZE (by omega) (by omega)
    repeat first|refine cg ?_|simp -dsimp[h46,w48]
    refine aG _ ?_ ((ih_f167 (out39.set k40 (⟨x44.op,x44.path,x44.ctor,x44.n,x44.m,x44.clause,x44.binds,(out39.length:Int)⟩:Step)) (k40+1) o hF) _ rfl _ hq)
    exact(gT (by simp) (by simp_all))
   ·have w49:i64.wrap ((k40:Int)+1)=(k40:Int)+1:=ZE (by omega) (by omega)
    repeat first|refine cg ?_|simp -dsimp[h46,q47,w49]
    refine aG _ ?_ ((ih_f167 out39 (k40+1) o hF) _ rfl _ hq)
    exact(gT (by simp) (by simp_all))
  ·have z43:¬((k40:Int)<(out39.length:Int)):=auz
   cases hF
   repeat first|refine cg ?_|simp -dsimp[h41,q42,z43]
   refine lG _ (gT (by simp) (by simp_all)) hq
theorem CC.f168 (v4:(List (List Pattern))×Bool):(∀(out:List Step) (i:Nat) (o:List Step),F.f168 v4 out i=some o->∀(c:Code),ZY [1,1,1,1,1,0,1,0,0] (ZJ Tryz.f6)=some c->∀(Q:Exit->ASt->Prop),(Q (.exit 0) ⟨[(10,.ptr 1 0)],[.dead,.cells [.own 2 (List.length (α:=Step) o)],.elems 8 (List.map Step.c o)]⟩)->ALoopU Tryz.prog B 0 98 (hold c .mk) ⟨[(10,.ptr 1 0),(32,am (cL Pattern.c) v4.1),(33,li (v4.1.length:Int)),(34,li (i:Int))],[.dead,.cells [.own 2 (List.length (α:=Step) out)],.elems 8 (List.map Step.c out)]⟩ (hold Q .mk)):=by
 refine F.f168.partial_correctness v4
  _
  ?_
 ·intro _f_f168 ih_f168 out i o hF
  intro c hc Q hq
  obtain rfl:c=_:=ZK hc rfl
  refine kN fun hk hs=> ?_
  have b32:=hk 32
  simp -dsimp at b32
  have d2:=hs 2 _ rfl
  simp -dsimp[Blk.bnd]at d2
  clear hk hs
  refine eN ?_
  repeat first|refine cg ?_|simp -dsimp
  revert hF;refine aS ?_ ?_<;>intro h8 q9 hF
  ·have z10:((i:Int)<(v4.1.length:Int)):=auz
   have hF:=ob hF;obtain⟨x,e11,hF⟩:=hF
   have le11:=ZD e11
   repeat first|refine cg ?_|simp -dsimp[h8,z10,↓e11]
   have hF:=ob hF;obtain⟨o'38,ho37,hF⟩:=hF
   refine ALoop.goU _ ?_ (((CC.f166 B hB1 hB2 v4 out i x) out 0 o'38 ho37) _ rfl _ ?_)
   ·exact(gT (by simp) (by simp_all))
   repeat first|refine cg ?_|simp -dsimp
   have hF:=ob hF;obtain⟨o'51,ho50,hF⟩:=hF
   refine ALoop.goU _ ?_ (((CC.f167 B hB1 hB2 v4 i) o'38 out.length o'51 ho50) _ rfl _ ?_)
   ·exact(gT (by simp) (by simp -dsimp))
   have hF:=oc hF;obtain⟨c52,hF⟩:=hF
   have w53:i64.wrap ((i:Int)+1)=(i:Int)+1:=ZE (by omega) (by omega)
   repeat first|refine cg ?_|simp -dsimp[w53]
   refine aG _ ?_ ((ih_f168 o'51 (i+1) o hF) _ rfl _ hq)
   exact(gT (by simp) (by simp_all))
  ·have z10:¬((i:Int)<(v4.1.length:Int)):=auz
   cases hF
   repeat first|refine cg ?_|simp -dsimp[h8,q9,z10]
   refine lG _ (gT (by simp) (by simp_all)) hq
theorem C.f169 (w:List Vl.Data)(t:Ty)(list:List Clause)(r:(List Step)×Bool)(hF:F.f169 w t list=some r):PureCall Tryz.prog B 6 [am Vl.Data.c w,.agg [li t.data,li t.index],am Clause.c list] (.tup [am Step.c r.1,.lit (.bool r.2)]):=by
 unfold F.f169 at hF
 refine pE Tryz.func6 (by kernel_rfl) rfl Tryz.ntmps6 (by simp) (by simp) ?_
 repeat first|refine cg ?_|simp -dsimp
 have hF:=ob hF;obtain⟨v,e1,hF⟩:=hF
 refine((C.f146 B hB1 hB2 w t list v e1)).goW (by simp) (by simp) ?_
 repeat first|refine cg ?_|simp -dsimp
 revert hF;refine aN (fun h2 q3 hF=> ?_) (fun h2 q3 hF=> ?_)
 ·cases hF
  repeat first|refine cg ?_|simp -dsimp[h2,q3]
 ·repeat first|refine cg ?_|simp -dsimp
  have hF:=ob hF;obtain⟨v4,e5,hF⟩:=hF
  refine((C.f156 B hB1 hB2 list v4 e5)).goW (by simp_all) (by simp) ?_
  repeat first|refine cg ?_|simp -dsimp
  revert hF;refine aN (fun h6 q7 hF=> ?_) (fun h6 q7 hF=> ?_)
  ·cases hF
   repeat first|refine cg ?_|simp -dsimp[h6,q7]
  ·repeat first|refine cg ?_|simp -dsimp
   have hF:=ob hF;obtain⟨o'55,ho54,hF⟩:=hF
   refine ALoop.goU ⟨[(10,.ptr 1 0),(32,.arr (List.map (cL Pattern.c) v4.1)),(33,.lit (.int .i64 (v4.1.length:Int))),(34,.lit (.int .i64 0))],[.dead,.cells [.own 2 (List.length (α:=Step) [])],.elems 8 (List.map Step.c [])]⟩ (by refine Gh.trans (Gh.nilCell 1 0 8 (by simp -dsimp;rfl) (by simp -dsimp)) ?_;exact(gT (by simp) (by simp_all))) ?_
   refine((CC.f168 B hB1 hB2 v4) [] 0 o'55 ho54) _ rfl _ ?_
   have hF:=oc hF;obtain⟨c56,hF⟩:=hF
   cases hF
   repeat first|refine cg ?_|simp -dsimp
theorem C.f170 (w:List Vl.Data)(t:Ty)(r:Bool)(hF:F.f170 w t=some r):PureCall Tryz.prog B 112 [am Vl.Data.c w,.agg [li t.data,li t.index]] (.lit (.bool r)):=by
 unfold F.f170 at hF
 refine pE Tryz.func112 (by kernel_rfl) rfl Tryz.ntmps112 (by simp) (by simp) ?_
 repeat first|refine cg ?_|simp -dsimp
 have hF:=ob hF;obtain⟨v,e1,hF⟩:=hF
 refine((C.f15 B hB1 hB2 (w.length:Int) t v e1)).goW (by simp) (by simp) ?_
 repeat first|refine cg ?_|simp -dsimp
 revert hF;refine aS (fun h2 q3 hF=> ?_) (fun h2 q3 hF=> ?_)
 ·cases hF
  repeat first|refine cg ?_|simp -dsimp[h2]
 ·cases hF
  repeat first|refine cg ?_|simp -dsimp[q3]
theorem C.f171 (w:List Vl.Data)(t:Ty)(r:Bool)(hF:F.f171 w t=some r):PureCall Tryz.prog B 59 [am Vl.Data.c w,.agg [li t.data,li t.index]] (.lit (.bool r)):=by
 unfold F.f171 at hF
 refine pE Tryz.func59 (by kernel_rfl) rfl Tryz.ntmps59 (by simp) (by simp) ?_
 repeat first|refine cg ?_|simp -dsimp
 have hF:=ob hF;obtain⟨v,e1,hF⟩:=hF
 refine((C.f24 B hB1 hB2 w v e1)).goW (by simp) (by simp) ?_
 repeat first|refine cg ?_|simp -dsimp
 revert hF;refine aS (fun h2 q3 hF=> ?_) (fun h2 q3 hF=> ?_)
 ·repeat first|refine cg ?_|simp -dsimp[h2]
  have hF:=ob hF;obtain⟨v4,e5,hF⟩:=hF
  refine((C.f170 B hB1 hB2 w t v4 e5)).goW (by simp[h2]) (by simp) ?_
  cases hF
  repeat first|refine cg ?_|simp -dsimp[h2]
 ·cases hF
  repeat first|refine cg ?_|simp -dsimp[h2,q3]
theorem C.f172 (g:Guard)(vars:List VarType)(r:Bool)(hF:F.f172 g vars=some r):PureCall Tryz.prog B 113 [.agg [li g.op,li g.var,li g.n],am VarType.c vars] (.lit (.bool r)):=by
 unfold F.f172 at hF
 refine pE Tryz.func113 (by kernel_rfl) rfl Tryz.ntmps113 (by simp) (by simp) ?_
 repeat first|refine cg ?_|simp -dsimp
 revert hF;refine aS ?_ ?_<;>intro h1 q2 hF
 ·repeat first|refine cg ?_|simp -dsimp[h1]
  revert hF;refine aS ?_ ?_<;>intro h3 q4 hF
  ·cases hF
   repeat first|refine cg ?_|simp -dsimp[h1,h3]
  ·cases hF
   repeat first|refine cg ?_|simp -dsimp[h1,h3,q4]
 ·repeat first|refine cg ?_|simp -dsimp[h1,q2]
  revert hF;refine aN ?_ ?_<;>intro h5 q6 hF
  ·repeat first|refine cg ?_|simp -dsimp[h1,q2,h5,q6]
   revert hF;refine aS ?_ ?_<;>intro h7 q8 hF
   ·repeat first|refine cg ?_|simp -dsimp[h1,q2,h5,q6,h7]
    revert hF;refine aN ?_ ?_<;>intro h9 q10 hF
    ·repeat first|refine cg ?_|simp -dsimp[h1,q2,h5,q6,h7,h9,q10]
     revert hF;refine aS ?_ ?_<;>intro h11 q12 hF
     ·cases hF
      repeat first|refine cg ?_|simp -dsimp[h1,q2,h5,q6,h7,h9,q10,h11]
     ·repeat first|refine cg ?_|simp -dsimp[h1,q2,h5,q6,h7,h9,q10,h11,q12]
      have hF:=ob hF;obtain⟨v,e13,hF⟩:=hF
      refine((C.f79 B hB1 hB2 vars g.var v e13)).goW (by simp[h1,q2,h5,q6,h7,h9,q10,h11,q12]) (by simp) ?_
      repeat first|refine cg ?_|simp -dsimp[h1,q2,h5,q6,h7,h9,q10,h11,q12]
      revert hF;refine aS ?_ ?_<;>intro h14 q15 hF
      ·have hF:=ob hF;obtain⟨x,e16a,hF⟩:=hF
       have e16a:=ZU e16a;obtain⟨ne16,e16⟩:=e16a
       have le16:=ZD e16
       cases hF
       repeat first|refine cg ?_|simp -dsimp[h1,q2,h5,q6,h7,h9,q10,h11,q12,h14,↓e16]
      ·cases hF
       repeat first|refine cg ?_|simp -dsimp[h1,q2,h5,q6,h7,h9,q10,h11,q12,h14,q15]
    ·cases hF
     repeat first|refine cg ?_|simp -dsimp[h1,q2,h5,q6,h7,h9,q10]
   ·cases hF
    repeat first|refine cg ?_|simp -dsimp[h1,q2,h5,q6,h7,q8]
  ·repeat first|refine cg ?_|simp -dsimp[h1,q2,h5,q6]
   revert hF;refine aN ?_ ?_<;>intro h17 q18 hF
   ·repeat first|refine cg ?_|simp -dsimp[h1,q2,h5,q6,h17,q18]
    revert hF;refine aS ?_ ?_<;>intro h19 q20 hF
    ·cases hF
     repeat first|refine cg ?_|simp -dsimp[h1,q2,h5,q6,h17,q18,h19]
    ·repeat first|refine cg ?_|simp -dsimp[h1,q2,h5,q6,h17,q18,h19,q20]
     have hF:=ob hF;obtain⟨v21,e22,hF⟩:=hF
     refine((C.f79 B hB1 hB2 vars g.var v21 e22)).goW (by simp[h1,q2,h5,q6,h17,q18,h19,q20]) (by simp) ?_
     repeat first|refine cg ?_|simp -dsimp[h1,q2,h5,q6,h17,q18,h19,q20]
     revert hF;refine aS ?_ ?_<;>intro h23 q24 hF
     ·have hF:=ob hF;obtain⟨x25,e26a,hF⟩:=hF
      have e26a:=ZU e26a;obtain⟨ne26,e26⟩:=e26a
      have le26:=ZD e26
      cases hF
      repeat first|refine cg ?_|simp -dsimp[h1,q2,h5,q6,h17,q18,h19,q20,h23,↓e26]
     ·cases hF
      repeat first|refine cg ?_|simp -dsimp[h1,q2,h5,q6,h17,q18,h19,q20,h23,q24]
   ·cases hF
    repeat first|refine cg ?_|simp -dsimp[h1,q2,h5,q6,h17,q18]
theorem C.f173 (w:List Vl.Data)(t:Ty)(c':Clause)(r:Bool)(hF:F.f173 w t c'=some r):PureCall Tryz.prog B 60 [am Vl.Data.c w,.agg [li t.data,li t.index],.agg [li c'.pat.op,li c'.pat.ctor,li c'.pat.n,li c'.pat.m,li c'.pat.var,am Pattern.c c'.pat.kids,li c'.guard.op,li c'.guard.var,li c'.guard.n]] (.lit (.bool r)):=by
 unfold F.f173 at hF
 refine pE Tryz.func60 (by kernel_rfl) rfl Tryz.ntmps60 (by simp) (by simp) ?_
 repeat first|refine cg ?_|simp -dsimp
 refine ADraw.eff [113,114] [(0,0),(0,0),(0,0),(0,0),(0,2),(0,0),(0,1),(0,1),(0,0),(0,0),(0,0),(0,0),(0,2),(0,2),(2,2),(2,2)] [1,1,1,1,1,1,0,2,1,1,1,1,1,1,1,1] follows (by kernel_rfl) (by kernel_rfl) (by kernel_rfl) ?_
 repeat first|refine cg ?_|simp -dsimp
 have hF:=ob hF;obtain⟨v,e1,hF⟩:=hF
 refine((C.f85 B hB1 hB2 w t c'.pat v e1)).pgoW (by simp) (by simp) ?_
 repeat first|refine cg ?_|simp -dsimp
 revert hF;refine aS (fun h2 q3 hF=> ?_) (fun h2 q3 hF=> ?_)
 ·repeat first|refine cg ?_|simp -dsimp[h2]
  have hF:=ob hF;obtain⟨v4,e5,hF⟩:=hF
  refine ECallA.nilArg 0 3 (by simp) ?_
  repeat first|refine cg ?_|simp -dsimp
  refine(((CC.f74 B hB1 hB2 w).1 [] t c'.pat v4 e5)).ego (pl [2]) (by simp) (by simp) (Zu _ rfl (by decide)) (by intro i hi hi';simp at hi hi';first|omega|(subst hi';simp[pl])) (by simp_all) (by simp_all) ?_
  repeat first|refine cg ?_|simp -dsimp
  have hF:=ob hF;obtain⟨v6,e7,hF⟩:=hF
  refine((C.f172 B hB1 hB2 c'.guard v4 v6 e7)).elend (by simp_all) (by simp -dsimp) ?_
  cases hF
  repeat first|refine cg ?_|simp -dsimp
 ·skip
  cases hF
  repeat first|refine cg ?_|simp -dsimp[q3]
theorem CC.f174 (w:List Vl.Data)(t:Ty)(list:List Clause):(∀(i:Nat) (o:Lo Bool Unit),F.f174 w t list i=some o->∀(c:Code),ZY [1,1,0,1,0,0] (ZJ Tryz.f24)=some c->∀(Q:Exit->ASt->Prop),o.post (fun r=>∀st,ZAf Tryz.prog Tryz.f24 (fun r' _=>r'.le (.lit (.bool r))) .ret st->Q .ret st) (fun s=>Q (.exit 0) ⟨[],[]⟩)->ALoopU Tryz.prog B 0 31 (hold c .mk) ⟨[(0,am Vl.Data.c w),(2,am Clause.c list),(4,.ptr 0 0),(7,li (i:Int))],[.cells [li t.data,li t.index]]⟩ (hold Q .mk)):=by
 refine F.f174.partial_correctness w t list
  _
  ?_
 ·intro _f_f174 ih_f174 i o hF
  intro c hc Q hq
  obtain rfl:c=_:=ZK hc rfl
  refine kN fun hk hs=> ?_
  have b0:=hk 0
  simp -dsimp at b0
  have b2:=hk 2
  simp -dsimp at b2
  clear hk hs
  refine eN ?_
  repeat first|refine cg ?_|simp -dsimp
  revert hF;refine aS ?_ ?_<;>intro h7 q8 hF
  ·have z9:((i:Int)<(list.length:Int)):=auz
   repeat first|refine cg ?_|simp -dsimp[h7,z9]
   refine ADraw.simple follows (by kernel_rfl) (by kernel_rfl) ?_
   have hF:=ob hF;obtain⟨x,e10,hF⟩:=hF
   have le10:=ZD e10
   repeat first|refine cg ?_|simp -dsimp[↓e10]
   have hF:=ob hF;obtain⟨v11,e12,hF⟩:=hF
   refine((C.f173 B hB1 hB2 w t x v11 e12)).pgoW (by simp_all) (by simp) ?_
   repeat first|refine cg ?_|simp -dsimp
   revert hF;refine aN (fun h13 q14 hF=> ?_) (fun h13 q14 hF=> ?_)
   ·cases hF
    repeat first|refine cg ?_|simp -dsimp[h13,q14]
    refine lG _ (gR _) (hq _ ?_)
    repeat first|refine cg ?_|simp -dsimp
   ·have w15:i64.wrap ((i:Int)+1)=(i:Int)+1:=ZE (by omega) (by omega)
    repeat first|refine cg ?_|simp -dsimp[w15]
    refine aG _ ?_ ((ih_f174 (i+1) o hF) _ rfl _ hq)
    exact(gT (by simp) (by simp_all))
  ·have z9:¬((i:Int)<(list.length:Int)):=auz
   cases hF
   repeat first|refine cg ?_|simp -dsimp[h7,q8,z9]
   refine lG _ (gT (by simp) (by simp_all)) hq
theorem C.f175 (w:List Vl.Data)(t:Ty)(list:List Clause)(r:Bool)(hF:F.f175 w t list=some r):PureCall Tryz.prog B 24 [am Vl.Data.c w,.agg [li t.data,li t.index],am Clause.c list] (.lit (.bool r)):=by
 unfold F.f175 at hF
 refine pE Tryz.func24 (by kernel_rfl) rfl Tryz.ntmps24 (by simp) (by simp) ?_
 repeat first|refine cg ?_|simp -dsimp
 have hF:=ob hF;obtain⟨v,e1,hF⟩:=hF
 refine((C.f171 B hB1 hB2 w t v e1)).goW (by simp) (by simp) ?_
 repeat first|refine cg ?_|simp -dsimp
 revert hF;refine aS (fun h2 q3 hF=> ?_) (fun h2 q3 hF=> ?_)
 ·repeat first|refine cg ?_|simp -dsimp[h2]
  revert hF;refine aS ?_ ?_<;>intro h4 q5 hF
  ·have z6:(8<(list.length:Int)):=auz
   cases hF
   repeat first|refine cg ?_|simp -dsimp[h4,z6]
  ·have z6:¬(8<(list.length:Int)):=auz
   repeat first|refine cg ?_|simp -dsimp[h4,q5,z6]
   have hF:=ob hF;obtain⟨o',ho16,hF⟩:=hF
   refine ALoop.goU _ ?_ (((CC.f174 B hB1 hB2 w t list) 0 o' ho16) _ rfl _ ?_)
   ·exact(gT (by simp) (by simp_all))
   rcases o' with r0|sx
   ·dsimp only at hF
    cases hF
    intro st h
    simpa using h
   ·dsimp only at hF
    cases hF
    repeat first|refine cg ?_|simp -dsimp
 ·cases hF
  repeat first|refine cg ?_|simp -dsimp[q3]
theorem CC.f176 (lists:List (List Pattern))(out:List (List Pattern))(i:Nat)(k:Nat):(∀(next10:List (List Pattern)) (j:Nat) (o:List (List Pattern)),F.f176 lists out i k next10 j=some o->∀(c:Code),ZY [1,1,0,1,0,0,1,0,0,1,0,1,0,0,1,0,0,1,0,0] (ZJ Tryz.f61)=some c->∀(Q:Exit->ASt->Prop),(Q (.exit 4) ⟨[(0,am (cL Pattern.c) lists),(3,am (cL Pattern.c) out),(4,li (i:Int)),(5,.own 2 (List.length (α:=List Pattern) o)),(6,li (k:Int))],[.dead,.dead,.elems 1 (List.map (cL Pattern.c) o)]⟩)->ALoopU Tryz.prog B 0 62 (hold c .mk) ⟨[(0,am (cL Pattern.c) lists),(3,am (cL Pattern.c) out),(4,li (i:Int)),(5,.own 2 (List.length (α:=List Pattern) next10)),(6,li (k:Int)),(7,li (j:Int))],[.dead,.dead,.elems 1 (List.map (cL Pattern.c) next10)]⟩ (hold Q .mk)):=by
 refine F.f176.partial_correctness lists out i k
  _
  ?_
 ·intro _f_f176 ih_f176 next10 j o hF
  intro c hc Q hq
  obtain rfl:c=_:=ZK hc rfl
  refine kN fun hk hs=> ?_
  have b0:=hk 0
  simp -dsimp at b0
  have b3:=hk 3
  simp -dsimp at b3
  have d2:=hs 2 _ rfl
  simp -dsimp[Blk.bnd]at d2
  clear hk hs
  refine eN ?_
  have hF:=ob hF;obtain⟨x,e11,hF⟩:=hF
  have le11:=ZD e11
  repeat first|refine cg ?_|simp -dsimp[↓e11]
  revert hF;refine aS ?_ ?_<;>intro h12 q13 hF
  ·have z14:((j:Int)<(x.length:Int)):=auz
   repeat first|refine cg ?_|simp -dsimp[↓e11,h12,z14]
   revert hF;refine aS ?_ ?_<;>intro h15 q16 hF
   ·have z17:((next10.length:Int)<=400):=auz
    repeat first|refine cg ?_|simp -dsimp[↓e11,h15,z17]
    refine ADraw.opn ?_
    refine ADraw.split [] [(1,14)] [(14,1)] 1 14 rfl rfl (by kernel_rfl) ?_ ?_
    ·refine ADraw.split [(1,14)] [(1,14),(6,14)] [(1,14),(14,6)] 6 14 rfl rfl (by kernel_rfl) ?_ ?_
     ·refine ADraw.effP [(1,14),(6,14)] [0,1,2,3,4,5,6,7,8,9,10,11,12,13,14,15,16,17,18] [] [(0,5),(0,6),(0,1),(0,1),(0,1),(0,1),(0,6),(0,2),(0,2),(0,2),(0,2),(0,2),(0,2),(0,2),(0,6),(0,6),(0,6),(0,6),(6,6)] [1,1,1,1,0,0,1,1,1,0,0,1,0,0,1,1,1,1,1] follows (by kernel_rfl) (by kernel_rfl) (by kernel_rfl) (by kernel_rfl) ?_
      have hF:=ob hF;obtain⟨x18,e19,hF⟩:=hF
      have le19:=ZD e19
      have hF:=oc hF;obtain⟨c20,hF⟩:=hF
      have hF:=ob hF;obtain⟨x21,e22,hF⟩:=hF
      have le22:=ZD e22
      have hF:=oc hF;obtain⟨c23,hF⟩:=hF
      have hF:=oc hF;obtain⟨c24,hF⟩:=hF
      have hF:=oc hF;obtain⟨c25,hF⟩:=hF
      have w26:i64.wrap ((j:Int)+1)=(j:Int)+1:=ZE (by omega) (by omega)
      repeat first|refine cg ?_|simp -dsimp[↓e11,↓e19,↓e22,w26]
      refine aG _ ?_ ((ih_f176 (next10++[x18++[x21]]) (j+1) o hF) _ rfl _ hq)
      exact(gT (by simp) (by simp_all))
     ·have hF:=ob hF;obtain⟨x18,e19,hF⟩:=hF
      have hF:=oc hF;obtain⟨c20,hF⟩:=hF
      have hF:=ob hF;obtain⟨x21,e22,hF⟩:=hF
      have hF:=oc hF;obtain⟨c23,hF⟩:=hF
      have hF:=oc hF;obtain⟨c24,hF⟩:=hF
      refine ADraw.effP [(1,14),(14,6)] [0,1,2,3,4,5,7,8,9,10,11,12,13,14,6,15,16,17,18] [] [(0,5),(0,6),(0,2),(0,2),(0,2),(0,2),(0,1),(0,1),(0,1),(0,1),(0,1),(0,1),(0,1),(0,6),(0,6),(0,6),(0,6),(0,6),(6,6)] [1,1,1,1,0,0,1,1,0,0,1,0,0,1,1,1,1,1,1] follows (by kernel_rfl) (by kernel_rfl) (by kernel_rfl) (by kernel_rfl) ?_
      have le19:=ZD e19
      have le22:=ZD e22
      have hF:=oc hF;obtain⟨c25,hF⟩:=hF
      have w26:i64.wrap ((j:Int)+1)=(j:Int)+1:=ZE (by omega) (by omega)
      repeat first|refine cg ?_|simp -dsimp[↓e11,↓e19,↓e22,w26]
      refine aG _ ?_ ((ih_f176 (next10++[x18++[x21]]) (j+1) o hF) _ rfl _ hq)
      exact(gT (by simp) (by simp_all))
    ·have hF:=ob hF;obtain⟨x18,e19,hF⟩:=hF
     have hF:=oc hF;obtain⟨c20,hF⟩:=hF
     have hF:=ob hF;obtain⟨x21,e22,hF⟩:=hF
     have hF:=oc hF;obtain⟨c23,hF⟩:=hF
     have hF:=oc hF;obtain⟨c24,hF⟩:=hF
     refine ADraw.effP [(14,1)] [0,2,3,4,5,7,8,9,10,11,12,13,14,1,6,15,16,17,18] [] [(0,5),(0,2),(0,2),(0,2),(0,2),(0,0),(0,0),(0,0),(0,0),(0,0),(0,0),(0,0),(0,6),(0,6),(0,6),(0,6),(0,6),(0,6),(6,6)] [1,1,1,0,0,1,1,1,1,1,1,1,1,1,1,1,1,1,1] follows (by kernel_rfl) (by kernel_rfl) (by kernel_rfl) (by kernel_rfl) ?_
     have le19:=ZD e19
     have le22:=ZD e22
     have hF:=oc hF;obtain⟨c25,hF⟩:=hF
     have w26:i64.wrap ((j:Int)+1)=(j:Int)+1:=ZE (by omega) (by omega)
     repeat first|refine cg ?_|simp -dsimp[↓e11,↓e19,↓e22,w26]
     refine aG _ ?_ ((ih_f176 (next10++[x18++[x21]]) (j+1) o hF) _ rfl _ hq)
     exact(gT (by simp) (by simp_all))
   ·have z17:¬((next10.length:Int)<=400):=auz
    cases hF
    repeat first|refine cg ?_|simp -dsimp[↓e11,h15,q16,z17]
    refine lG _ (gT (by simp) (by simp_all)) hq
  ·have z14:¬((j:Int)<(x.length:Int)):=auz
   cases hF
   repeat first|refine cg ?_|simp -dsimp[↓e11,h12,q13,z14]
   refine lG _ (gT (by simp) (by simp_all)) hq
theorem CC.f177 (lists:List (List Pattern))(out:List (List Pattern))(i:Nat):(∀(next:List (List Pattern)) (k:Nat) (o:List (List Pattern)),F.f177 lists out i next k=some o->∀(c:Code),ZY [1,1,0,1,0,0,1,0,0,1,0,1,0,0] (ZJ Tryz.f61)=some c->∀(Q:Exit->ASt->Prop),(Q (.exit 2) ⟨[(0,am (cL Pattern.c) lists),(4,li (i:Int)),(5,.own 2 (List.length (α:=List Pattern) o))],[.dead,.dead,.elems 1 (List.map (cL Pattern.c) o)]⟩)->ALoopU Tryz.prog B 0 62 (hold c .mk) ⟨[(0,am (cL Pattern.c) lists),(3,am (cL Pattern.c) out),(4,li (i:Int)),(5,.own 2 (List.length (α:=List Pattern) next)),(6,li (k:Int))],[.dead,.dead,.elems 1 (List.map (cL Pattern.c) next)]⟩ (hold Q .mk)):=by
 refine F.f177.partial_correctness lists out i
  _
  ?_
 ·intro _f_f177 ih_f177 next k o hF
  intro c hc Q hq
  obtain rfl:c=_:=ZK hc rfl
  refine kN fun hk hs=> ?_
  have b0:=hk 0
  simp -dsimp at b0
  have b3:=hk 3
  simp -dsimp at b3
  have d2:=hs 2 _ rfl
  simp -dsimp[Blk.bnd]at d2
  clear hk hs
  refine eN ?_
  repeat first|refine cg ?_|simp -dsimp
  revert hF;refine aS ?_ ?_<;>intro h4 q5 hF
  ·have z6:((k:Int)<(out.length:Int)):=auz
   repeat first|refine cg ?_|simp -dsimp[h4,z6]
   revert hF;refine aS ?_ ?_<;>intro h7 q8 hF
   ·have z9:((next.length:Int)<=400):=auz
    repeat first|refine cg ?_|simp -dsimp[h7,z9]
    have hF:=ob hF;obtain⟨o',ho27,hF⟩:=hF
    refine ALoop.goU _ ?_ (((CC.f176 B hB1 hB2 lists out i k) next 0 o' ho27) _ rfl _ ?_)
    ·exact(gT (by simp) (by simp_all))
    have hF:=oc hF;obtain⟨c28,hF⟩:=hF
    have w29:i64.wrap ((k:Int)+1)=(k:Int)+1:=ZE (by omega) (by omega)
    repeat first|refine cg ?_|simp -dsimp[w29]
    refine aG _ ?_ ((ih_f177 o' (k+1) o hF) _ rfl _ hq)
    exact(gT (by simp) (by simp_all))
   ·have z9:¬((next.length:Int)<=400):=auz
    cases hF
    repeat first|refine cg ?_|simp -dsimp[h7,q8,z9]
    refine lG _ (gT (by simp) (by simp_all)) hq
  ·have z6:¬((k:Int)<(out.length:Int)):=auz
   cases hF
   repeat first|refine cg ?_|simp -dsimp[h4,q5,z6]
   refine lG _ (gT (by simp) (by simp_all)) hq
theorem CC.f178 (lists:List (List Pattern)):(∀(out:List (List Pattern)) (i:Nat) (o:List (List Pattern)),F.f178 lists out i=some o->∀(c:Code),ZY [1,1,0,1,0,0] (ZJ Tryz.f61)=some c->∀(Q:Exit->ASt->Prop),(Q (.exit 0) ⟨[(3,am (cL Pattern.c) o)],[]⟩)->ALoopU Tryz.prog B 0 62 (hold c .mk) ⟨[(0,am (cL Pattern.c) lists),(3,am (cL Pattern.c) out),(4,li (i:Int))],[.dead,.dead]⟩ (hold Q .mk)):=by
 refine F.f178.partial_correctness lists
  _
  ?_
 ·intro _f_f178 ih_f178 out i o hF
  intro c hc Q hq
  obtain rfl:c=_:=ZK hc rfl
  refine kN fun hk hs=> ?_
  have b0:=hk 0
  simp -dsimp at b0
  have b3:=hk 3
  simp -dsimp at b3
  clear hk hs
  refine eN ?_
  repeat first|refine cg ?_|simp -dsimp
  revert hF;refine aS ?_ ?_<;>intro h1 q2 hF
  ·have z3:((i:Int)<(lists.length:Int)):=auz
   repeat first|refine cg ?_|simp -dsimp[h1,z3]
   have hF:=ob hF;obtain⟨o'31,ho30,hF⟩:=hF
   refine ALoop.goU _ ?_ (((CC.f177 B hB1 hB2 lists out i) [] 0 o'31 ho30) _ rfl _ ?_)
   ·exact(gT (by simp) (by simp_all))
   have hF:=oc hF;obtain⟨c32,hF⟩:=hF
   have w33:i64.wrap ((i:Int)+1)=(i:Int)+1:=ZE (by omega) (by omega)
   repeat first|refine cg ?_|simp -dsimp[w33]
   refine aG ⟨[(0,.arr (List.map (cL Pattern.c) lists)),(3,.arr (List.map (cL Pattern.c) o'31)),(4,.lit (.int .i64 ((i+1):Int)))],[.dead,.dead]⟩ (by refine Gh.trans (Gh.frzSlot 3 (l:=2) (n:=List.length (α:=List Pattern) o'31) (sz:=1) (es:=List.map (cL Pattern.c) o'31) (by simp) (by simp) (by simp) (by simp)) ?_;exact(gT (by simp) (by simp_all))) ?_
   exact(ih_f178 o'31 (i+1) o hF) _ rfl _ hq
  ·have z3:¬((i:Int)<(lists.length:Int)):=auz
   cases hF
   repeat first|refine cg ?_|simp -dsimp[h1,q2,z3]
   refine lG _ (gT (by simp) (by simp_all)) hq
theorem C.f179 (lists:List (List Pattern))(r:List (List Pattern))(hF:F.f179 lists=some r):PureCall Tryz.prog B 61 [am (cL Pattern.c) lists] (am (cL Pattern.c) r):=by
 unfold F.f179 at hF
 refine pE Tryz.func61 (by kernel_rfl) rfl Tryz.ntmps61 (by simp) (by simp) ?_
 repeat first|refine cg ?_|simp -dsimp
 have hF:=ob hF;obtain⟨o'35,ho34,hF⟩:=hF
 refine ALoop.goU ⟨[(0,.arr (List.map (cL Pattern.c) lists)),(3,.arr (List.map (cL Pattern.c) [[]])),(4,.lit (.int .i64 0))],[.dead,.dead]⟩ (by refine Gh.trans (Gh.frzSlot 3 (l:=1) (n:=List.length (α:=List Pattern) [[]]) (sz:=1) (es:=List.map (cL Pattern.c) [[]]) (by simp) (by simp) (by simp) (by simp)) ?_;exact(gT (by simp) (by simp -dsimp))) ?_
 refine((CC.f178 B hB1 hB2 lists) [[]] 0 o'35 ho34) _ rfl _ ?_
 cases hF
 repeat first|refine cg ?_|simp -dsimp
theorem CC.spec_l3Split__o0_l2 (p:Pattern)(v24:List (List Pattern)):(∀(out:List Pattern) (i26:Nat) (o:List Pattern),F.f180 p v24 out i26=some o->∀(c:Code),ZY [1,1,1,1,1,1,0,1,0,0] (ZJ Tryz.f25)=some c->∀(Q:Exit->ASt->Prop),(Q (.exit 2) ⟨[(7,.own 2 (List.length (α:=Pattern) o))],[.dead,.dead,.elems 6 (List.map Pattern.c o)]⟩)->ALoopU Tryz.prog B 0 67 (hold c .mk) ⟨[(1,.ptr 0 0),(6,am (cL Pattern.c) v24),(7,.own 2 (List.length (α:=Pattern) out)),(8,li (i26:Int))],[.cells [li p.op,li p.ctor,li p.n,li p.m,li p.var,am Pattern.c p.kids],.dead,.elems 6 (List.map Pattern.c out)]⟩ (hold Q .mk)):=by
 refine F.f180.partial_correctness p v24
  _
  ?_
 ·intro _f_spec_l3Split__o0_l2 ih_spec_l3Split__o0_l2 out i26 o hF
  intro c hc Q hq
  obtain rfl:c=_:=ZK hc rfl
  refine kN fun hk hs=> ?_
  have b6:=hk 6
  simp -dsimp at b6
  have d0:=hs 0 _ rfl
  simp -dsimp[Blk.bnd]at d0
  have d2:=hs 2 _ rfl
  simp -dsimp[Blk.bnd]at d2
  clear hk hs
  refine eN ?_
  repeat first|refine cg ?_|simp -dsimp
  revert hF;refine aS ?_ ?_<;>intro h27 q28 hF
  ·have z29:((i26:Int)<(v24.length:Int)):=auz
   have hF:=ob hF;obtain⟨x30,e31,hF⟩:=hF
   have le31:=ZD e31
   have hF:=oc hF;obtain⟨c32,hF⟩:=hF
   have w33:i64.wrap ((i26:Int)+1)=(i26:Int)+1:=ZE (by omega) (by omega)
   repeat first|refine cg ?_|simp -dsimp[h27,z29,↓e31,w33]
   refine aG _ ?_ ((ih_spec_l3Split__o0_l2 (out++[(⟨p.op,p.ctor,p.n,p.m,p.var,x30⟩:Pattern)]) (i26+1) o hF) _ rfl _ hq)
   exact(gT (by simp) (by simp_all))
  ·have z29:¬((i26:Int)<(v24.length:Int)):=auz
   cases hF
   repeat first|refine cg ?_|simp -dsimp[h27,q28,z29]
   refine lG _ (gT (by simp) (by simp_all)) hq
end Go.Proofs.YtoiccjladkadgaaGreat
