/- A part of the proof. -/
import Derived.Test.YtoiccjladkadgaaGreatProg
import Derived.Test.YtoiccjladkadgaaGreatStepsTakeF
import Derived.Test.YtoiccjladkadgaaGreatStepsTakeC2
import Derived.Test.YtoiccjladkadgaaGreatVlSort
import Derived.Test.YtoiccjladkadgaaGreatShelf
namespace Go.Proofs.YtoiccjladkadgaaGreat
open Go Go.Proofs Go.Vl
open abr renaming sp->aS,ns->aN
open Leave renaming go->lG
open Again renaming go->aG
open ALoopU renaming know->kN,enter->eN
open Gh renaming to3->gT,refl->gR
open PureCall renaming enterLe->pE
open Go.IntKind (i64)
set_option linter.all false
set_option maxRecDepth 100000
set_option maxHeartbeats 4000000
set_option synthInstance.maxSize 100000
set_option synthInstance.maxHeartbeats 4000000
attribute [local irreducible] GhK ECallA ZHe aL aLg AMake MLoop AgainM LeaveM ZBV ZA5 MutCall BCall chk abr ACall ALoop ALoopU ADraw Again Leave ZDj PCall ZAf awp ZGy PureCall hold
variable (B : Nat) (hB1 : 67108864 <= B) (hB2 : B <= 9223372036854775807)
include hB1 hB2
theorem CC.spec_l3Split__o0  :(∀(p:Pattern) (r:List Pattern),F.f181 p=some r->BCall Tryz.prog B 25 [] [.agg [li p.op,li p.ctor,li p.n,li p.m,li p.var,am Pattern.c p.kids]] (.own 0 (List.length (α:=Pattern) r)) [.elems 6 (List.map Pattern.c r)])/\
  (∀(p:Pattern) (lists:List (List Pattern)) (i:Nat) (o:List (List Pattern)),F.f182 p lists i=some o->∀(c:Code),ZY [1,1,1,0,1,0,0] (ZJ Tryz.f25)=some c->∀(Q:Exit->ASt->Prop),(Q (.exit 0) ⟨[(1,.ptr 0 0),(4,.own 1 (List.length (α:=List Pattern) o))],[.cells [li p.op,li p.ctor,li p.n,li p.m,li p.var,am Pattern.c p.kids],.elems 1 (List.map (cL Pattern.c) o)]⟩)->ALoopU Tryz.prog B 0 67 (hold c .mk) ⟨[(1,.ptr 0 0),(4,.own 1 (List.length (α:=List Pattern) lists)),(5,li (i:Int))],[.cells [li p.op,li p.ctor,li p.n,li p.m,li p.var,am Pattern.c p.kids],.elems 1 (List.map (cL Pattern.c) lists)]⟩ (hold Q .mk)):=by
 refine F.f181.mutual_partial_correctness 
  _ _
  ?_ ?_
 ·intro _f_spec_l3Split__o0 _f_spec_l3Split__o0_l1 ih_spec_l3Split__o0 ih_spec_l3Split__o0_l1 p r hF
  refine BCall.enterS (τ1:=[]) (ys:=[.own 0 (List.length (α:=Pattern) r)]) (news:=[(6,List.map Pattern.c r)]) Tryz.func25 (by kernel_rfl) rfl Tryz.ntmps25 (by simp) rfl rfl (by simp) (by simp) (by simp) (by simp) (by simp) (by simp) (gR _) ?_
  repeat first|refine cg ?_|simp -dsimp
  revert hF;refine aS ?_ ?_<;>intro h1 q2 hF
  ·repeat first|refine cg ?_|simp -dsimp[h1]
   refine ADraw.eff [25] [(0,0),(0,0),(0,0),(0,0),(0,3),(0,1),(0,1),(0,1),(0,1),(0,3),(0,3),(3,3)] [1,1,1,1,1,0,2,0,0,1,1,1] follows (by kernel_rfl) (by kernel_rfl) (by kernel_rfl) ?_
   have hF:=ob hF;obtain⟨x,e3,hF⟩:=hF
   have le3:=ZD e3
   repeat first|refine cg ?_|simp -dsimp[↓e3]
   have hF:=ob hF;obtain⟨v,e4,hF⟩:=hF
   refine((ih_spec_l3Split__o0 x v e4)).ego (pl [1]) (by simp) (by simp) (by intro i j hi;simp at hi) (by intro i hi hi';simp at hi hi';have hi:i=0:=(by omega);rcases hi with rfl<;>simp[pl]) (by simp_all) (by simp_all) ?_
   have hF:=ob hF;obtain⟨x5,e6,hF⟩:=hF
   have le6:=ZD e6
   repeat first|refine cg ?_|simp -dsimp[↓e6]
   have hF:=ob hF;obtain⟨v7,e8,hF⟩:=hF
   refine((ih_spec_l3Split__o0 x5 v7 e8)).ego (pl [2]) (by simp) (by simp) (by intro i j hi;simp at hi) (by intro i hi hi';simp at hi hi';have hi:i=0:=(by omega);rcases hi with rfl<;>simp[pl]) (by simp_all) (by simp_all) ?_
   have hF:=oc hF;obtain⟨c9,hF⟩:=hF
   repeat first|refine cg ?_|simp -dsimp
   revert hF;refine aS ?_ ?_<;>intro h10 q11 hF
   ·have z12:(401<(((v++v7).length:Nat):Int)):=auz
    have hF:=oc hF;obtain⟨c13,hF⟩:=hF
    cases hF
    repeat first|refine cg ?_|simp -dsimp[h10,z12]
    all_goals(try first|omega|rfl|(simp;done)|(simp only[List.length_cons,List.length_nil]at*;omega)|simp)
   ·have z12:¬(401<(((v++v7).length:Nat):Int)):=auz
    cases hF
    repeat first|refine cg ?_|simp -dsimp[h10,q11,z12]
    all_goals(try first|omega|rfl|(simp;done)|(simp only[List.length_cons,List.length_nil]at*;omega)|simp)
  ·repeat first|refine cg ?_|simp -dsimp[q2]
   have hF:=ob hF;obtain⟨o',ho23,hF⟩:=hF
   refine ALoop.goU _ ?_ ((ih_spec_l3Split__o0_l1 p [] 0 o' ho23) _ rfl _ ?_)
   ·exact(gT (by simp) (by simp_all))
   repeat first|refine cg ?_|simp -dsimp
   have hF:=ob hF;obtain⟨v24,e25,hF⟩:=hF
   refine ACall.frz ?_ ((C.f179 B hB1 hB2 o' v24 e25)).ent
   repeat first|refine cg ?_|simp -dsimp
   refine((C.f179 B hB1 hB2 o' v24 e25)).goW (by simp) (by simp) ?_
   repeat first|refine cg ?_|simp -dsimp
   have hF:=ob hF;obtain⟨o'35,ho34,hF⟩:=hF
   refine ALoop.goU _ ?_ (((CC.spec_l3Split__o0_l2 B hB1 hB2 p v24) [] 0 o'35 ho34) _ rfl _ ?_)
   ·exact(gT (by simp) (by simp -dsimp))
   cases hF
   repeat first|refine cg ?_|simp -dsimp
   all_goals(try first|omega|rfl|(simp;done)|(simp only[List.length_cons,List.length_nil]at*;omega)|simp)
 ·intro _f_spec_l3Split__o0 _f_spec_l3Split__o0_l1 ih_spec_l3Split__o0 ih_spec_l3Split__o0_l1 p lists i o hF
  intro c hc Q hq
  obtain rfl:c=_:=ZK hc rfl
  refine kN fun hk hs=> ?_
  have d0:=hs 0 _ rfl
  simp -dsimp[Blk.bnd]at d0
  have d1:=hs 1 _ rfl
  simp -dsimp[Blk.bnd]at d1
  clear hk hs
  refine eN ?_
  repeat first|refine cg ?_|simp -dsimp
  revert hF;refine aS ?_ ?_<;>intro h14 q15 hF
  ·have z16:((i:Int)<(p.kids.length:Int)):=auz
   have hF:=ob hF;obtain⟨x17,e18,hF⟩:=hF
   have le18:=ZD e18
   repeat first|refine cg ?_|simp -dsimp[h14,z16,↓e18]
   have hF:=ob hF;obtain⟨v19,e20,hF⟩:=hF
   refine((ih_spec_l3Split__o0 x17 v19 e20)).go (pl [2]) (by simp) (by simp) (by intro i j hi;simp at hi) (by intro i hi hi';simp at hi hi';have hi:i=0:=(by omega);rcases hi with rfl<;>simp[pl]) (by simp_all) (by simp_all) ?_
   have hF:=oc hF;obtain⟨c21,hF⟩:=hF
   have w22:i64.wrap ((i:Int)+1)=(i:Int)+1:=ZE (by omega) (by omega)
   repeat first|refine cg ?_|simp -dsimp[w22]
   refine aG _ ?_ ((ih_spec_l3Split__o0_l1 p (lists++[v19]) (i+1) o hF) _ rfl _ hq)
   exact(gT (by simp) (by simp_all))
  ·have z16:¬((i:Int)<(p.kids.length:Int)):=auz
   cases hF
   repeat first|refine cg ?_|simp -dsimp[h14,q15,z16]
   refine lG _ (gT (by simp) (by simp_all)) hq
theorem C.f183 (path:List Int)(i:Int)(r:List Int)(hF:F.f183 path i=some r):PureCall Tryz.prog B 115 [am cI path,li i] (am cI r):=by
 unfold F.f183 at hF
 refine pE Tryz.func115 (by kernel_rfl) rfl Tryz.ntmps115 (by simp) (by simp) ?_
 have hF:=oc hF;obtain⟨c1,hF⟩:=hF
 have hF:=oc hF;obtain⟨c2,hF⟩:=hF
 cases hF
 repeat first|refine cg ?_|simp -dsimp
theorem CC.f184  :(∀(out:List Step) (p:Pattern) (path:List Int) (r:List Step),F.f184 out p path=some r->BCall Tryz.prog B 62 [.elems 8 (List.map Step.c out)] [.own 0 (List.length (α:=Step) out),.agg [li p.op,li p.ctor,li p.n,li p.m,li p.var,am Pattern.c p.kids],am cI path] (.own 0 (List.length (α:=Step) r)) [.elems 8 (List.map Step.c r)])/\
  (∀(p:Pattern) (path:List Int) (out13:List Step) (i:Nat) (o:List Step),F.f185 p path out13 i=some o->∀(c:Code),ZY [1,0,1,0,1,1,1,1,1,0,1,1,0,0] (ZJ Tryz.f62)=some c->∀(Q:Exit->ASt->Prop),(Q (.exit 1) ⟨[(0,.own 0 (List.length (α:=Step) o))],[.elems 8 (List.map Step.c o)]⟩)->ALoopU Tryz.prog B 1 61 (hold c .mk) ⟨[(0,.own 0 (List.length (α:=Step) out13)),(2,am cI path),(4,.ptr 1 0),(7,li (i:Int))],[.elems 8 (List.map Step.c out13),.cells [li p.op,li p.ctor,li p.n,li p.m,li p.var,am Pattern.c p.kids]]⟩ (hold Q .mk)):=by
 refine F.f184.mutual_partial_correctness 
  _ _
  ?_ ?_
 ·intro _f_f184 _f_f185 ih_f184 ih_f185 out p path r hF
  refine BCall.enter Tryz.func62 (by kernel_rfl) rfl Tryz.ntmps62 (by simp) rfl (by simp) (by simp) (by simp) (by simp) (by simp) (gR _) ?_
  repeat first|refine cg ?_|simp -dsimp
  revert hF;refine aS ?_ ?_<;>intro h1 q2 hF
  ·have hF:=ob hF;obtain⟨x,e3,hF⟩:=hF
   have le3:=ZD e3
   repeat first|refine cg ?_|simp -dsimp[h1,↓e3]
   have hF:=ob hF;obtain⟨v,e4,hF⟩:=hF
   refine((ih_f184 out x path v e4)).go (pl [0]) (by simp) (by simp) (Zu _ rfl (by decide)) (by intro i hi hi';simp at hi hi';first|omega|(subst hi';simp[pl])) (by simp_all) (by simp_all) ?_
   cases hF
   repeat first|refine cg ?_|simp -dsimp
  ·repeat first|refine cg ?_|simp -dsimp[h1,q2]
   revert hF;refine aS ?_ ?_<;>intro h5 q6 hF
   ·repeat first|refine cg ?_|simp -dsimp[h5]
    refine ADraw.eff [1000044] [(0,4),(0,5),(0,1),(0,5),(0,2),(0,2),(0,2),(0,2),(0,5),(0,5),(0,5),(5,5)] [1,1,1,1,0,2,0,2,1,1,1,1] follows (by kernel_rfl) (by kernel_rfl) (by kernel_rfl) ?_
    have hF:=oc hF;obtain⟨c7,hF⟩:=hF
    have hF:=oc hF;obtain⟨c8,hF⟩:=hF
    cases hF
    repeat first|refine cg ?_|simp -dsimp
   ·repeat first|refine cg ?_|simp -dsimp[q6]
    revert hF;refine aS ?_ ?_<;>intro h9 q10 hF
    ·repeat first|refine cg ?_|simp -dsimp[h9]
     refine ADraw.eff [1000044] [(0,4),(0,5),(0,1),(0,5),(0,2),(0,2),(0,5),(0,5),(0,5),(5,5)] [1,1,1,1,0,2,1,1,1,1] follows (by kernel_rfl) (by kernel_rfl) (by kernel_rfl) ?_
     have hF:=oc hF;obtain⟨c11,hF⟩:=hF
     have hF:=oc hF;obtain⟨c12,hF⟩:=hF
     repeat first|refine cg ?_|simp -dsimp
     have hF:=ob hF;obtain⟨o',ho24,hF⟩:=hF
     refine ALoop.goU _ ?_ ((ih_f185 p path (out++[(⟨1,path,p.ctor,0,0,0,[],0⟩:Step)]) 0 o' ho24) _ rfl _ ?_)
     ·exact(gT (by simp) (by simp_all))
     cases hF
     repeat first|refine cg ?_|simp -dsimp
    ·cases hF
     repeat first|refine cg ?_|simp -dsimp[q10]
 ·intro _f_f184 _f_f185 ih_f184 ih_f185 p path out13 i o hF
  intro c hc Q hq
  obtain rfl:c=_:=ZK hc rfl
  refine kN fun hk hs=> ?_
  have b2:=hk 2
  simp -dsimp at b2
  have d0:=hs 0 _ rfl
  simp -dsimp[Blk.bnd]at d0
  have d1:=hs 1 _ rfl
  simp -dsimp[Blk.bnd]at d1
  clear hk hs
  refine eN ?_
  repeat first|refine cg ?_|simp -dsimp
  revert hF;refine aS ?_ ?_<;>intro h14 q15 hF
  ·have z16:((i:Int)<(p.kids.length:Int)):=auz
   repeat first|refine cg ?_|simp -dsimp[h14,z16]
   refine ADraw.eff [62] [(0,0),(0,0),(0,0),(0,0),(0,0),(0,0),(0,0),(0,0),(0,1),(0,1),(1,1)] [1,1,1,1,1,1,1,1,1,1,1] follows (by kernel_rfl) (by kernel_rfl) (by kernel_rfl) ?_
   have hF:=ob hF;obtain⟨x17,e18,hF⟩:=hF
   have le18:=ZD e18
   repeat first|refine cg ?_|simp -dsimp[↓e18]
   have hF:=ob hF;obtain⟨v19,e20,hF⟩:=hF
   refine((C.f183 B hB1 hB2 path (i:Int) v19 e20)).pgoW (by simp_all) (by simp) ?_
   repeat first|refine cg ?_|simp -dsimp
   have hF:=ob hF;obtain⟨v21,e22,hF⟩:=hF
   refine((ih_f184 out13 x17 v19 v21 e22)).ego (pl [0]) (by simp) (by simp) (Zu _ rfl (by decide)) (by intro i hi hi';simp at hi hi';first|omega|(subst hi';simp[pl])) (by simp_all) (by simp_all) ?_
   have w23:i64.wrap ((i:Int)+1)=(i:Int)+1:=ZE (by omega) (by omega)
   repeat first|refine cg ?_|simp -dsimp[w23]
   refine aG _ ?_ ((ih_f185 p path v21 (i+1) o hF) _ rfl _ hq)
   exact(gT (by simp) (by simp_all))
  ·have z16:¬((i:Int)<(p.kids.length:Int)):=auz
   cases hF
   repeat first|refine cg ?_|simp -dsimp[h14,q15,z16]
   refine lG _ (gT (by simp) (by simp_all)) hq
theorem CC.f186  :(∀(out:List PathBind) (p:Pattern) (path:List Int) (r:List PathBind),F.f186 out p path=some r->BCall Tryz.prog B 64 [.elems 2 (List.map PathBind.c out)] [.own 0 (List.length (α:=PathBind) out),.agg [li p.op,li p.ctor,li p.n,li p.m,li p.var,am Pattern.c p.kids],am cI path] (.own 0 (List.length (α:=PathBind) r)) [.elems 2 (List.map PathBind.c r)])/\
  (∀(p:Pattern) (path:List Int) (out24:List PathBind) (i25:Nat) (o:List PathBind),F.f188 p path out24 i25=some o->∀(c:Code),ZY [1,1,0,1,0,0] (ZJ Tryz.f64)=some c->∀(Q:Exit->ASt->Prop),(Q (.exit 0) ⟨[(0,.own 0 (List.length (α:=PathBind) o))],[.elems 2 (List.map PathBind.c o)]⟩)->ALoopU Tryz.prog B 1 49 (hold c .mk) ⟨[(0,.own 0 (List.length (α:=PathBind) out24)),(2,am cI path),(4,.ptr 1 0),(7,li (i25:Int))],[.elems 2 (List.map PathBind.c out24),.cells [li p.op,li p.ctor,li p.n,li p.m,li p.var,am Pattern.c p.kids]]⟩ (hold Q .mk))/\
  (∀(p:Pattern) (path:List Int) (out7:List PathBind) (i:Nat) (o:List PathBind),F.f187 p path out7 i=some o->∀(c:Code),ZY [1,1,0,1,0,0] (ZJ Tryz.f64)=some c->∀(Q:Exit->ASt->Prop),(Q (.exit 0) ⟨[(0,.own 0 (List.length (α:=PathBind) o))],[.elems 2 (List.map PathBind.c o)]⟩)->ALoopU Tryz.prog B 1 49 (hold c .mk) ⟨[(0,.own 0 (List.length (α:=PathBind) out7)),(2,am cI path),(4,.ptr 1 0),(7,li (i:Int))],[.elems 2 (List.map PathBind.c out7),.cells [li p.op,li p.ctor,li p.n,li p.m,li p.var,am Pattern.c p.kids]]⟩ (hold Q .mk))/\
  (∀(p:Pattern) (path:List Int) (out47:List PathBind) (i48:Nat) (o:List PathBind),F.f189 p path out47 i48=some o->∀(c:Code),ZY [1,1,0,1,0,0] (ZJ Tryz.f64)=some c->∀(Q:Exit->ASt->Prop),(Q (.exit 0) ⟨[(0,.own 0 (List.length (α:=PathBind) o))],[.elems 2 (List.map PathBind.c o)]⟩)->ALoopU Tryz.prog B 1 49 (hold c .mk) ⟨[(0,.own 0 (List.length (α:=PathBind) out47)),(2,am cI path),(4,.ptr 1 0),(7,li (i48:Int))],[.elems 2 (List.map PathBind.c out47),.cells [li p.op,li p.ctor,li p.n,li p.m,li p.var,am Pattern.c p.kids]]⟩ (hold Q .mk)):=by
 refine F.f186.mutual_partial_correctness 
  _ _ _ _
  ?_ ?_ ?_ ?_
 ·intro _f_f188 _f_f187 _f_f189 ih_f188 ih_f187 ih_f189 out p path r hF
  refine BCall.enter Tryz.func64 (by kernel_rfl) rfl Tryz.ntmps64 (by simp) rfl (by simp) (by simp) (by simp) (by simp) (by simp) (gR _) ?_
  repeat first|refine cg ?_|simp -dsimp
  revert hF;refine aN ?_ ?_<;>intro h1 q2 hF
  ·repeat first|refine cg ?_|simp -dsimp[h1,q2]
   revert hF;refine aS ?_ ?_<;>intro h3 q4 hF
   ·repeat first|refine cg ?_|simp -dsimp[h1,q2,h3]
    refine ADraw.eff [1000071] [(0,4),(0,2),(0,2),(0,5),(0,1),(0,5),(0,5),(0,5),(0,5),(5,5)] [1,0,2,1,1,1,1,1,1,1] follows (by kernel_rfl) (by kernel_rfl) (by kernel_rfl) ?_
    have hF:=oc hF;obtain⟨c5,hF⟩:=hF
    have hF:=oc hF;obtain⟨c6,hF⟩:=hF
    repeat first|refine cg ?_|simp -dsimp[h1,q2,h3]
    have hF:=ob hF;obtain⟨o',ho23,hF⟩:=hF
    refine ALoop.goU _ ?_ ((ih_f187 p path (out++[(⟨p.var,path⟩:PathBind)]) 0 o' ho23) _ rfl _ ?_)
    ·exact(gT (by simp) (by first|simp -dsimp[h1,q2,h3];done|simp_all))
    cases hF
    repeat first|refine cg ?_|simp -dsimp
    all_goals(try first|omega|rfl)
   ·repeat first|refine cg ?_|simp -dsimp[h1,q2,h3,q4]
    have hF:=ob hF;obtain⟨o'44,ho43,hF⟩:=hF
    refine ALoop.goU _ ?_ ((ih_f188 p path out 0 o'44 ho43) _ rfl _ ?_)
    ·exact(gT (by simp) (by first|simp -dsimp[h1,q2,h3,q4];done|simp_all))
    cases hF
    repeat first|refine cg ?_|simp -dsimp
    all_goals(try first|omega|rfl)
  ·repeat first|refine cg ?_|simp -dsimp[h1,q2]
   refine ADraw.eff [1000071] [(0,4),(0,2),(0,2),(0,5),(0,1),(0,5),(0,5),(0,5),(0,5),(5,5)] [1,0,2,1,1,1,1,1,1,1] follows (by kernel_rfl) (by kernel_rfl) (by kernel_rfl) ?_
   have hF:=oc hF;obtain⟨c45,hF⟩:=hF
   have hF:=oc hF;obtain⟨c46,hF⟩:=hF
   repeat first|refine cg ?_|simp -dsimp[h1,q2]
   have hF:=ob hF;obtain⟨o'67,ho66,hF⟩:=hF
   refine ALoop.goU _ ?_ ((ih_f189 p path (out++[(⟨p.var,path⟩:PathBind)]) 0 o'67 ho66) _ rfl _ ?_)
   ·exact(gT (by simp) (by first|simp -dsimp[h1,q2];done|simp_all))
   cases hF
   repeat first|refine cg ?_|simp -dsimp
   all_goals(try first|omega|rfl)
 ·intro _f_f186 _f_f188 ih_f186 ih_f188 p path out24 i25 o hF
  intro c hc Q hq
  obtain rfl:c=_:=ZK hc rfl
  refine kN fun hk hs=> ?_
  have b2:=hk 2
  simp -dsimp at b2
  have d0:=hs 0 _ rfl
  simp -dsimp[Blk.bnd]at d0
  have d1:=hs 1 _ rfl
  simp -dsimp[Blk.bnd]at d1
  clear hk hs
  refine eN ?_
  repeat first|refine cg ?_|simp -dsimp
  revert hF;refine aS ?_ ?_<;>intro h26 q27 hF
  ·have z28:((i25:Int)<(p.kids.length:Int)):=auz
   repeat first|refine cg ?_|simp -dsimp[h26,z28]
   revert hF;refine aS ?_ ?_<;>intro h29 q30 hF
   ·repeat first|refine cg ?_|simp -dsimp[h26,z28,h29]
    have hF:=ob hF;obtain⟨v31,e32,hF⟩:=hF
    refine((C.f183 B hB1 hB2 path (i25:Int) v31 e32)).goW (by first|simp[h26,z28,h29];done|simp_all) (by simp) ?_
    have hF:=ob hF;obtain⟨x33,e34,hF⟩:=hF
    have le34:=ZD e34
    repeat first|refine cg ?_|simp -dsimp[h26,z28,h29,↓e34]
    have hF:=ob hF;obtain⟨v35,e36,hF⟩:=hF
    refine((ih_f186 out24 x33 v31 v35 e36)).go (pl [0]) (by simp) (by simp) (Zu _ rfl (by decide)) (by intro i hi hi';simp at hi hi';first|omega|(subst hi';simp[pl])) (by first|simp[h26,z28,h29,↓e34];done|simp_all) (by first|simp[h26,z28,h29,↓e34];done|simp_all) ?_
    have w37:i64.wrap ((i25:Int)+1)=(i25:Int)+1:=ZE (by omega) (by omega)
    repeat first|refine cg ?_|simp -dsimp[h26,z28,h29,↓e34,w37]
    refine aG _ ?_ ((ih_f188 p path v35 (i25+1) o hF) _ rfl _ hq)
    exact(gT (by simp) (by first|simp -dsimp[h26,z28,h29,↓e34,w37];done|simp_all))
   ·have hF:=ob hF;obtain⟨x38,e39,hF⟩:=hF
    have le39:=ZD e39
    repeat first|refine cg ?_|simp -dsimp[h26,z28,h29,q30,↓e39]
    have hF:=ob hF;obtain⟨v40,e41,hF⟩:=hF
    refine((ih_f186 out24 x38 path v40 e41)).go (pl [0]) (by simp) (by simp) (Zu _ rfl (by decide)) (by intro i hi hi';simp at hi hi';first|omega|(subst hi';simp[pl])) (by first|simp[h26,z28,h29,q30,↓e39];done|simp_all) (by first|simp[h26,z28,h29,q30,↓e39];done|simp_all) ?_
    have w42:i64.wrap ((i25:Int)+1)=(i25:Int)+1:=ZE (by omega) (by omega)
    repeat first|refine cg ?_|simp -dsimp[h26,z28,h29,q30,↓e39,w42]
    refine aG _ ?_ ((ih_f188 p path v40 (i25+1) o hF) _ rfl _ hq)
    exact(gT (by simp) (by first|simp -dsimp[h26,z28,h29,q30,↓e39,w42];done|simp_all))
  ·have z28:¬((i25:Int)<(p.kids.length:Int)):=auz
   cases hF
   repeat first|refine cg ?_|simp -dsimp[h26,q27,z28]
   refine lG _ (gT (by simp) (by first|simp -dsimp[h26,q27,z28];done|simp_all)) hq
 ·intro _f_f186 _f_f187 ih_f186 ih_f187 p path out7 i o hF
  intro c hc Q hq
  obtain rfl:c=_:=ZK hc rfl
  refine kN fun hk hs=> ?_
  have b2:=hk 2
  simp -dsimp at b2
  have d0:=hs 0 _ rfl
  simp -dsimp[Blk.bnd]at d0
  have d1:=hs 1 _ rfl
  simp -dsimp[Blk.bnd]at d1
  clear hk hs
  refine eN ?_
  repeat first|refine cg ?_|simp -dsimp
  revert hF;refine aS ?_ ?_<;>intro h8 q9 hF
  ·have z10:((i:Int)<(p.kids.length:Int)):=auz
   repeat first|refine cg ?_|simp -dsimp[h8,z10]
   revert hF;refine aS ?_ ?_<;>intro h11 q12 hF
   ·repeat first|refine cg ?_|simp -dsimp[h8,z10,h11]
    have hF:=ob hF;obtain⟨v,e13,hF⟩:=hF
    refine((C.f183 B hB1 hB2 path (i:Int) v e13)).goW (by first|simp[h8,z10,h11];done|simp_all) (by simp) ?_
    have hF:=ob hF;obtain⟨x,e14,hF⟩:=hF
    have le14:=ZD e14
    repeat first|refine cg ?_|simp -dsimp[h8,z10,h11,↓e14]
    have hF:=ob hF;obtain⟨v15,e16,hF⟩:=hF
    refine((ih_f186 out7 x v v15 e16)).go (pl [0]) (by simp) (by simp) (Zu _ rfl (by decide)) (by intro i hi hi';simp at hi hi';first|omega|(subst hi';simp[pl])) (by first|simp[h8,z10,h11,↓e14];done|simp_all) (by first|simp[h8,z10,h11,↓e14];done|simp_all) ?_
    have w17:i64.wrap ((i:Int)+1)=(i:Int)+1:=ZE (by omega) (by omega)
    repeat first|refine cg ?_|simp -dsimp[h8,z10,h11,↓e14,w17]
    refine aG _ ?_ ((ih_f187 p path v15 (i+1) o hF) _ rfl _ hq)
    exact(gT (by simp) (by first|simp -dsimp[h8,z10,h11,↓e14,w17];done|simp_all))
   ·have hF:=ob hF;obtain⟨x18,e19,hF⟩:=hF
    have le19:=ZD e19
    repeat first|refine cg ?_|simp -dsimp[h8,z10,h11,q12,↓e19]
    have hF:=ob hF;obtain⟨v20,e21,hF⟩:=hF
    refine((ih_f186 out7 x18 path v20 e21)).go (pl [0]) (by simp) (by simp) (Zu _ rfl (by decide)) (by intro i hi hi';simp at hi hi';first|omega|(subst hi';simp[pl])) (by first|simp[h8,z10,h11,q12,↓e19];done|simp_all) (by first|simp[h8,z10,h11,q12,↓e19];done|simp_all) ?_
    have w22:i64.wrap ((i:Int)+1)=(i:Int)+1:=ZE (by omega) (by omega)
    repeat first|refine cg ?_|simp -dsimp[h8,z10,h11,q12,↓e19,w22]
    refine aG _ ?_ ((ih_f187 p path v20 (i+1) o hF) _ rfl _ hq)
    exact(gT (by simp) (by first|simp -dsimp[h8,z10,h11,q12,↓e19,w22];done|simp_all))
  ·have z10:¬((i:Int)<(p.kids.length:Int)):=auz
   cases hF
   repeat first|refine cg ?_|simp -dsimp[h8,q9,z10]
   refine lG _ (gT (by simp) (by first|simp -dsimp[h8,q9,z10];done|simp_all)) hq
 ·intro _f_f186 _f_f189 ih_f186 ih_f189 p path out47 i48 o hF
  intro c hc Q hq
  obtain rfl:c=_:=ZK hc rfl
  refine kN fun hk hs=> ?_
  have b2:=hk 2
  simp -dsimp at b2
  have d0:=hs 0 _ rfl
  simp -dsimp[Blk.bnd]at d0
  have d1:=hs 1 _ rfl
  simp -dsimp[Blk.bnd]at d1
  clear hk hs
  refine eN ?_
  repeat first|refine cg ?_|simp -dsimp
  revert hF;refine aS ?_ ?_<;>intro h49 q50 hF
  ·have z51:((i48:Int)<(p.kids.length:Int)):=auz
   repeat first|refine cg ?_|simp -dsimp[h49,z51]
   revert hF;refine aS ?_ ?_<;>intro h52 q53 hF
   ·repeat first|refine cg ?_|simp -dsimp[h49,z51,h52]
    have hF:=ob hF;obtain⟨v54,e55,hF⟩:=hF
    refine((C.f183 B hB1 hB2 path (i48:Int) v54 e55)).goW (by first|simp[h49,z51,h52];done|simp_all) (by simp) ?_
    have hF:=ob hF;obtain⟨x56,e57,hF⟩:=hF
    have le57:=ZD e57
    repeat first|refine cg ?_|simp -dsimp[h49,z51,h52,↓e57]
    have hF:=ob hF;obtain⟨v58,e59,hF⟩:=hF
    refine((ih_f186 out47 x56 v54 v58 e59)).go (pl [0]) (by simp) (by simp) (Zu _ rfl (by decide)) (by intro i hi hi';simp at hi hi';first|omega|(subst hi';simp[pl])) (by first|simp[h49,z51,h52,↓e57];done|simp_all) (by first|simp[h49,z51,h52,↓e57];done|simp_all) ?_
    have w60:i64.wrap ((i48:Int)+1)=(i48:Int)+1:=ZE (by omega) (by omega)
    repeat first|refine cg ?_|simp -dsimp[h49,z51,h52,↓e57,w60]
    refine aG _ ?_ ((ih_f189 p path v58 (i48+1) o hF) _ rfl _ hq)
    exact(gT (by simp) (by first|simp -dsimp[h49,z51,h52,↓e57,w60];done|simp_all))
   ·have hF:=ob hF;obtain⟨x61,e62,hF⟩:=hF
    have le62:=ZD e62
    repeat first|refine cg ?_|simp -dsimp[h49,z51,h52,q53,↓e62]
    have hF:=ob hF;obtain⟨v63,e64,hF⟩:=hF
    refine((ih_f186 out47 x61 path v63 e64)).go (pl [0]) (by simp) (by simp) (Zu _ rfl (by decide)) (by intro i hi hi';simp at hi hi';first|omega|(subst hi';simp[pl])) (by first|simp[h49,z51,h52,q53,↓e62];done|simp_all) (by first|simp[h49,z51,h52,q53,↓e62];done|simp_all) ?_
    have w65:i64.wrap ((i48:Int)+1)=(i48:Int)+1:=ZE (by omega) (by omega)
    repeat first|refine cg ?_|simp -dsimp[h49,z51,h52,q53,↓e62,w65]
    refine aG _ ?_ ((ih_f189 p path v63 (i48+1) o hF) _ rfl _ hq)
    exact(gT (by simp) (by first|simp -dsimp[h49,z51,h52,q53,↓e62,w65];done|simp_all))
  ·have z51:¬((i48:Int)<(p.kids.length:Int)):=auz
   cases hF
   repeat first|refine cg ?_|simp -dsimp[h49,q50,z51]
   refine lG _ (gT (by simp) (by first|simp -dsimp[h49,q50,z51];done|simp_all)) hq
theorem CC.f190 (list:List PathBind)(n:Nat):(∀(out4:List PathBind) (i:Nat) (o:List PathBind),F.f190 list n out4 i=some o->∀(c:Code),ZY [1,1,0,1,0,0,1,0,0,1,0,0] (ZJ Tryz.f63)=some c->∀(Q:Exit->ASt->Prop),(Q (.exit 2) ⟨[(0,am PathBind.c list),(3,.own 0 (List.length (α:=PathBind) o)),(4,li (n:Int))],[.elems 2 (List.map PathBind.c o)]⟩)->ALoopU Tryz.prog B 0 37 (hold c .mk) ⟨[(0,am PathBind.c list),(3,.own 0 (List.length (α:=PathBind) out4)),(4,li (n:Int)),(5,li (i:Int))],[.elems 2 (List.map PathBind.c out4)]⟩ (hold Q .mk)):=by
 refine F.f190.partial_correctness list n
  _
  ?_
 ·intro _f_f190 ih_f190 out4 i o hF
  intro c hc Q hq
  obtain rfl:c=_:=ZK hc rfl
  refine kN fun hk hs=> ?_
  have b0:=hk 0
  simp -dsimp at b0
  have d0:=hs 0 _ rfl
  simp -dsimp[Blk.bnd]at d0
  clear hk hs
  refine eN ?_
  repeat first|refine cg ?_|simp -dsimp
  revert hF;refine aS ?_ ?_<;>intro h5 q6 hF
  ·have z7:((i:Int)<(list.length:Int)):=auz
   have hF:=ob hF;obtain⟨x,e8,hF⟩:=hF
   have le8:=ZD e8
   repeat first|refine cg ?_|simp -dsimp[h5,z7,↓e8]
   revert hF;refine aS ?_ ?_<;>intro h9 q10 hF
   ·have hF:=oc hF;obtain⟨c11,hF⟩:=hF
    have hF:=oc hF;obtain⟨c12,hF⟩:=hF
    have w13:i64.wrap ((i:Int)+1)=(i:Int)+1:=ZE (by omega) (by omega)
    repeat first|refine cg ?_|simp -dsimp[↓e8,h9,w13]
    refine aG _ ?_ ((ih_f190 (out4++[(⟨(n:Int),x.path⟩:PathBind)]) (i+1) o hF) _ rfl _ hq)
    exact(gT (by simp) (by simp_all))
   ·have w14:i64.wrap ((i:Int)+1)=(i:Int)+1:=ZE (by omega) (by omega)
    repeat first|refine cg ?_|simp -dsimp[↓e8,h9,q10,w14]
    refine aG _ ?_ ((ih_f190 out4 (i+1) o hF) _ rfl _ hq)
    exact(gT (by simp) (by simp_all))
  ·have z7:¬((i:Int)<(list.length:Int)):=auz
   cases hF
   repeat first|refine cg ?_|simp -dsimp[h5,q6,z7]
   refine lG _ (gT (by simp) (by simp_all)) hq
theorem CC.f191 (list:List PathBind):(∀(out:List PathBind) (n:Nat) (o:List PathBind),F.f191 list out n=some o->∀(c:Code),ZY [1,1,0,1,0,0] (ZJ Tryz.f63)=some c->∀(Q:Exit->ASt->Prop),(Q (.exit 0) ⟨[(3,.own 0 (List.length (α:=PathBind) o))],[.elems 2 (List.map PathBind.c o)]⟩)->ALoopU Tryz.prog B 0 37 (hold c .mk) ⟨[(0,am PathBind.c list),(3,.own 0 (List.length (α:=PathBind) out)),(4,li (n:Int))],[.elems 2 (List.map PathBind.c out)]⟩ (hold Q .mk)):=by
 refine F.f191.partial_correctness list
  _
  ?_
 ·intro _f_f191 ih_f191 out n o hF
  intro c hc Q hq
  obtain rfl:c=_:=ZK hc rfl
  refine kN fun hk hs=> ?_
  have b0:=hk 0
  simp -dsimp at b0
  have d0:=hs 0 _ rfl
  simp -dsimp[Blk.bnd]at d0
  clear hk hs
  refine eN ?_
  repeat first|refine cg ?_|simp -dsimp
  revert hF;refine aS ?_ ?_<;>intro h1 q2 hF
  ·have z3:((n:Int)<=5):=auz
   repeat first|refine cg ?_|simp -dsimp[h1,z3]
   have hF:=ob hF;obtain⟨o',ho15,hF⟩:=hF
   refine ALoop.goU _ ?_ (((CC.f190 B hB1 hB2 list n) out 0 o' ho15) _ rfl _ ?_)
   ·exact(gT (by simp) (by simp_all))
   have hF:=oc hF;obtain⟨c16,hF⟩:=hF
   have w17:i64.wrap ((n:Int)+1)=(n:Int)+1:=ZE (by omega) (by omega)
   repeat first|refine cg ?_|simp -dsimp[w17]
   refine aG _ ?_ ((ih_f191 o' (n+1) o hF) _ rfl _ hq)
   exact(gT (by simp) (by simp_all))
  ·have z3:¬((n:Int)<=5):=auz
   cases hF
   repeat first|refine cg ?_|simp -dsimp[h1,q2,z3]
   refine lG _ (gT (by simp) (by simp_all)) hq
theorem C.f192 (list:List PathBind)(r:List PathBind)(hF:F.f192 list=some r):PureCall Tryz.prog B 63 [am PathBind.c list] (am PathBind.c r):=by
 unfold F.f192 at hF
 refine pE Tryz.func63 (by kernel_rfl) rfl Tryz.ntmps63 (by simp) (by simp) ?_
 repeat first|refine cg ?_|simp -dsimp
 have hF:=ob hF;obtain⟨o'19,ho18,hF⟩:=hF
 refine ALoop.goU _ ?_ (((CC.f191 B hB1 hB2 list) [] 0 o'19 ho18) _ rfl _ ?_)
 ·exact(gT (by simp) (by simp -dsimp))
 cases hF
 repeat first|refine cg ?_|simp -dsimp
theorem CC.f193 (list:List Clause)(out:List Step)(i:Nat)(v:List Pattern)(k:Nat):(∀(out19:List Step) (n:Nat) (o:List Step),F.f193 list out i v k out19 n=some o->∀(c:Code),ZY [1,1,0,1,0,0,1,0,0,1,1,0,1,0,0,1,0,0,1,1,1,1,0,0] (ZJ Tryz.f26)=some c->∀(Q:Exit->ASt->Prop),(Q (.exit 4) ⟨[(0,am Clause.c list),(3,.own 0 (List.length (α:=Step) o)),(4,li (i:Int)),(5,.own 1 (List.length (α:=Pattern) v)),(6,li (out.length:Int)),(7,li (k:Int))],[.elems 8 (List.map Step.c o),.elems 6 (List.map Pattern.c v)]⟩)->ALoopU Tryz.prog B 0 87 (hold c .mk) ⟨[(0,am Clause.c list),(3,.own 0 (List.length (α:=Step) out19)),(4,li (i:Int)),(5,.own 1 (List.length (α:=Pattern) v)),(6,li (out.length:Int)),(7,li (k:Int)),(9,li (n:Int))],[.elems 8 (List.map Step.c out19),.elems 6 (List.map Pattern.c v)]⟩ (hold Q .mk)):=by
 refine F.f193.partial_correctness list out i v k
  _
  ?_
 ·intro _f_f193 ih_f193 out19 n o hF
  intro c hc Q hq
  obtain rfl:c=_:=ZK hc rfl
  refine kN fun hk hs=> ?_
  have b0:=hk 0
  simp -dsimp at b0
  have d0:=hs 0 _ rfl
  simp -dsimp[Blk.bnd]at d0
  have d1:=hs 1 _ rfl
  simp -dsimp[Blk.bnd]at d1
  clear hk hs
  refine eN ?_
  repeat first|refine cg ?_|simp -dsimp
  revert hF;refine aS ?_ ?_<;>intro h20 q21 hF
  ·have z22:((n:Int)<(out19.length:Int)):=auz
   have hF:=ob hF;obtain⟨x23,e24,hF⟩:=hF
   have le24:=ZD e24
   have w25:i64.wrap ((n:Int)+1)=(n:Int)+1:=ZE (by omega) (by omega)
   repeat first|refine cg ?_|simp -dsimp[h20,z22,↓e24,w25]
   refine aG _ ?_ ((ih_f193 (out19.set n (⟨x23.op,x23.path,x23.ctor,x23.n,x23.m,x23.clause,x23.binds,(out19.length:Int)⟩:Step)) (n+1) o hF) _ rfl _ hq)
   exact(gT (by simp) (by simp_all))
  ·have z22:¬((n:Int)<(out19.length:Int)):=auz
   cases hF
   repeat first|refine cg ?_|simp -dsimp[h20,q21,z22]
   refine lG _ (gT (by simp) (by simp_all)) hq
theorem CC.f194 (list:List Clause)(out:List Step)(i:Nat)(v:List Pattern):(∀(out6:List Step) (k:Nat) (o:List Step),F.f194 list out i v out6 k=some o->∀(c:Code),ZY [1,1,0,1,0,0,1,0,0,1,1,0,1,0,0] (ZJ Tryz.f26)=some c->∀(Q:Exit->ASt->Prop),(Q (.exit 2) ⟨[(0,am Clause.c list),(3,.own 0 (List.length (α:=Step) o)),(4,li (i:Int)),(6,li (out.length:Int))],[.elems 8 (List.map Step.c o)]⟩)->ALoopU Tryz.prog B 0 87 (hold c .mk) ⟨[(0,am Clause.c list),(3,.own 0 (List.length (α:=Step) out6)),(4,li (i:Int)),(5,.own 1 (List.length (α:=Pattern) v)),(6,li (out.length:Int)),(7,li (k:Int))],[.elems 8 (List.map Step.c out6),.elems 6 (List.map Pattern.c v)]⟩ (hold Q .mk)):=by
 refine F.f194.partial_correctness list out i v
  _
  ?_
 ·intro _f_f194 ih_f194 out6 k o hF
  intro c hc Q hq
  obtain rfl:c=_:=ZK hc rfl
  refine kN fun hk hs=> ?_
  have b0:=hk 0
  simp -dsimp at b0
  have d0:=hs 0 _ rfl
  simp -dsimp[Blk.bnd]at d0
  have d1:=hs 1 _ rfl
  simp -dsimp[Blk.bnd]at d1
  clear hk hs
  refine eN ?_
  repeat first|refine cg ?_|simp -dsimp
  revert hF;refine aS ?_ ?_<;>intro h7 q8 hF
  ·have z9:((k:Int)<(v.length:Int)):=auz
   have hF:=ob hF;obtain⟨x10,e11,hF⟩:=hF
   have le11:=ZD e11
   repeat first|refine cg ?_|simp -dsimp[h7,z9,↓e11]
   have hF:=ob hF;obtain⟨v12,e13,hF⟩:=hF
   refine(((CC.f184 B hB1 hB2).1 out6 x10 [] v12 e13)).go (pl [0]) (by simp) (by simp) (Zu _ rfl (by decide)) (by intro i hi hi';simp at hi hi';first|omega|(subst hi';simp[pl])) (by simp_all) (by simp_all) ?_
   repeat first|refine cg ?_|simp -dsimp[↓e11]
   have hF:=ob hF;obtain⟨v14,e15,hF⟩:=hF
   refine ACall.nilArg 0 2 (by simp) ?_
   repeat first|refine cg ?_|simp -dsimp[↓e11]
   refine(((CC.f186 B hB1 hB2).1 [] x10 [] v14 e15)).go (pl [2]) (by simp) (by simp) (Zu _ rfl (by decide)) (by intro i hi hi';simp at hi hi';first|omega|(subst hi';simp[pl])) (by simp_all) (by simp_all) ?_
   repeat first|refine cg ?_|simp -dsimp[↓e11]
   have hF:=ob hF;obtain⟨v16,e17,hF⟩:=hF
   refine ACall.frz ?_ ((C.f192 B hB1 hB2 v14 v16 e17)).ent
   repeat first|refine cg ?_|simp -dsimp[↓e11]
   refine((C.f192 B hB1 hB2 v14 v16 e17)).goW (by simp_all) (by simp) ?_
   have hF:=oc hF;obtain⟨c18,hF⟩:=hF
   repeat first|refine cg ?_|simp -dsimp[↓e11]
   have hF:=ob hF;obtain⟨o',ho26,hF⟩:=hF
   refine ALoop.goU _ ?_ (((CC.f193 B hB1 hB2 list out i v k) (v12++[(⟨2,[],0,0,0,(i:Int),v16,0⟩:Step)]) out6.length o' ho26) _ rfl _ ?_)
   ·exact(gT (by simp) (by simp_all))
   have hF:=oc hF;obtain⟨c27,hF⟩:=hF
   have w28:i64.wrap ((k:Int)+1)=(k:Int)+1:=ZE (by omega) (by omega)
   repeat first|refine cg ?_|simp -dsimp[w28]
   refine aG _ ?_ ((ih_f194 o' (k+1) o hF) _ rfl _ hq)
   exact(gT (by simp) (by simp_all))
  ·have z9:¬((k:Int)<(v.length:Int)):=auz
   cases hF
   repeat first|refine cg ?_|simp -dsimp[h7,q8,z9]
   refine lG _ (gT (by simp) (by simp_all)) hq
theorem CC.f195 (list:List Clause)(i:Nat):(∀(out31:List Step) (n32:Nat) (o:List Step),F.f195 list i out31 n32=some o->∀(c:Code),ZY [1,1,0,1,0,0,1,0,0,1,1,1,1,0,0] (ZJ Tryz.f26)=some c->∀(Q:Exit->ASt->Prop),(Q (.exit 6) ⟨[(0,am Clause.c list),(3,.own 0 (List.length (α:=Step) o)),(4,li (i:Int))],[.elems 8 (List.map Step.c o)]⟩)->ALoopU Tryz.prog B 0 87 (hold c .mk) ⟨[(0,am Clause.c list),(3,.own 0 (List.length (α:=Step) out31)),(4,li (i:Int)),(10,li (n32:Int))],[.elems 8 (List.map Step.c out31)]⟩ (hold Q .mk)):=by
 refine F.f195.partial_correctness list i
  _
  ?_
 ·intro _f_f195 ih_f195 out31 n32 o hF
  intro c hc Q hq
  obtain rfl:c=_:=ZK hc rfl
  refine kN fun hk hs=> ?_
  have b0:=hk 0
  simp -dsimp at b0
  have d0:=hs 0 _ rfl
  simp -dsimp[Blk.bnd]at d0
  clear hk hs
  refine eN ?_
  repeat first|refine cg ?_|simp -dsimp
  revert hF;refine aS ?_ ?_<;>intro h33 q34 hF
  ·have z35:((n32:Int)<(out31.length:Int)):=auz
   have hF:=ob hF;obtain⟨x36,e37,hF⟩:=hF
   have le37:=ZD e37
   repeat first|refine cg ?_|simp -dsimp[h33,z35,↓e37]
   revert hF;refine aS ?_ ?_<;>intro h38 q39 hF
   ·have w40:i64.wrap ((n32:Int)+1)=(n32:Int)+1:=ZE (by omega) (by omega)
    repeat first|refine cg ?_|simp -dsimp[h38,w40]
    refine aG _ ?_ ((ih_f195 (out31.set n32 (⟨x36.op,x36.path,x36.ctor,x36.n,x36.m,x36.clause,x36.binds,(out31.length:Int)⟩:Step)) (n32+1) o hF) _ rfl _ hq)
    exact(gT (by simp) (by simp_all))
   ·have w41:i64.wrap ((n32:Int)+1)=(n32:Int)+1:=ZE (by omega) (by omega)
    repeat first|refine cg ?_|simp -dsimp[h38,q39,w41]
    refine aG _ ?_ ((ih_f195 out31 (n32+1) o hF) _ rfl _ hq)
    exact(gT (by simp) (by simp_all))
  ·have z35:¬((n32:Int)<(out31.length:Int)):=auz
   cases hF
   repeat first|refine cg ?_|simp -dsimp[h33,q34,z35]
   refine lG _ (gT (by simp) (by simp_all)) hq
theorem CC.f196 (list:List Clause):(∀(out:List Step) (i:Nat) (o:List Step),F.f196 list out i=some o->∀(c:Code),ZY [1,1,0,1,0,0] (ZJ Tryz.f26)=some c->∀(Q:Exit->ASt->Prop),(Q (.exit 0) ⟨[(3,.own 0 (List.length (α:=Step) o))],[.elems 8 (List.map Step.c o)]⟩)->ALoopU Tryz.prog B 0 87 (hold c .mk) ⟨[(0,am Clause.c list),(3,.own 0 (List.length (α:=Step) out)),(4,li (i:Int))],[.elems 8 (List.map Step.c out)]⟩ (hold Q .mk)):=by
 refine F.f196.partial_correctness list
  _
  ?_
 ·intro _f_f196 ih_f196 out i o hF
  intro c hc Q hq
  obtain rfl:c=_:=ZK hc rfl
  refine kN fun hk hs=> ?_
  have b0:=hk 0
  simp -dsimp at b0
  have d0:=hs 0 _ rfl
  simp -dsimp[Blk.bnd]at d0
  clear hk hs
  refine eN ?_
  repeat first|refine cg ?_|simp -dsimp
  revert hF;refine aS ?_ ?_<;>intro h1 q2 hF
  ·have z3:((i:Int)<(list.length:Int)):=auz
   have hF:=ob hF;obtain⟨x,e4,hF⟩:=hF
   have le4:=ZD e4
   repeat first|refine cg ?_|simp -dsimp[h1,z3,↓e4]
   have hF:=ob hF;obtain⟨v,e5,hF⟩:=hF
   refine(((CC.spec_l3Split__o0 B hB1 hB2).1 x.pat v e5)).go (pl [1]) (by simp) (by simp) (by intro i j hi;simp at hi) (by intro i hi hi';simp at hi hi';have hi:i=0:=(by omega);rcases hi with rfl<;>simp[pl]) (by simp_all) (by simp_all) ?_
   repeat first|refine cg ?_|simp -dsimp
   have hF:=ob hF;obtain⟨o'30,ho29,hF⟩:=hF
   refine ALoop.goU _ ?_ (((CC.f194 B hB1 hB2 list out i v) out 0 o'30 ho29) _ rfl _ ?_)
   ·exact(gT (by simp) (by simp_all))
   repeat first|refine cg ?_|simp -dsimp
   have hF:=ob hF;obtain⟨o'43,ho42,hF⟩:=hF
   refine ALoop.goU _ ?_ (((CC.f195 B hB1 hB2 list i) o'30 out.length o'43 ho42) _ rfl _ ?_)
   ·exact(gT (by simp) (by simp -dsimp))
   have hF:=oc hF;obtain⟨c44,hF⟩:=hF
   have w45:i64.wrap ((i:Int)+1)=(i:Int)+1:=ZE (by omega) (by omega)
   repeat first|refine cg ?_|simp -dsimp[w45]
   refine aG _ ?_ ((ih_f196 o'43 (i+1) o hF) _ rfl _ hq)
   exact(gT (by simp) (by simp_all))
  ·have z3:¬((i:Int)<(list.length:Int)):=auz
   cases hF
   repeat first|refine cg ?_|simp -dsimp[h1,q2,z3]
   refine lG _ (gT (by simp) (by simp_all)) hq
theorem C.f197 (list:List Clause)(r:List Step)(hF:F.f197 list=some r):PureCall Tryz.prog B 26 [am Clause.c list] (am Step.c r):=by
 unfold F.f197 at hF
 refine pE Tryz.func26 (by kernel_rfl) rfl Tryz.ntmps26 (by simp) (by simp) ?_
 repeat first|refine cg ?_|simp -dsimp
 have hF:=ob hF;obtain⟨o'47,ho46,hF⟩:=hF
 refine ALoop.goU _ ?_ (((CC.f196 B hB1 hB2 list) [] 0 o'47 ho46) _ rfl _ ?_)
 ·exact(gT (by simp) (by simp -dsimp))
 have hF:=oc hF;obtain⟨c48,hF⟩:=hF
 cases hF
 repeat first|refine cg ?_|simp -dsimp
theorem CC.f198 (list:List Clause):(∀(i:Nat) (o:Lo ((List Step)×Bool) Unit),F.f198 list i=some o->∀(c:Code),ZY [1,1,0,1,0,0] (ZJ Tryz.f7)=some c->∀(Q:Exit->ASt->Prop),o.post (fun r=>∀st,ZAf Tryz.prog Tryz.f7 (fun r' _=>r'.le (.tup [am Step.c r.1,.lit (.bool r.2)])) .ret st->Q .ret st) (fun s=>Q (.exit 0) ⟨[(2,am Clause.c list)],[]⟩)->ALoopU Tryz.prog B 0 32 (hold c .mk) ⟨[(2,am Clause.c list),(8,li (i:Int))],[]⟩ (hold Q .mk)):=by
 refine F.f198.partial_correctness list
  _
  ?_
 ·intro _f_f198 ih_f198 i o hF
  intro c hc Q hq
  obtain rfl:c=_:=ZK hc rfl
  refine kN fun hk hs=> ?_
  have b2:=hk 2
  simp -dsimp at b2
  clear hk hs
  refine eN ?_
  repeat first|refine cg ?_|simp -dsimp
  revert hF;refine aS ?_ ?_<;>intro h4 q5 hF
  ·have z6:((i:Int)<(list.length:Int)):=auz
   have hF:=ob hF;obtain⟨x,e7,hF⟩:=hF
   have le7:=ZD e7
   repeat first|refine cg ?_|simp -dsimp[h4,z6,↓e7]
   have hF:=ob hF;obtain⟨v8,e9,hF⟩:=hF
   refine(((CC.spec_l3Split__o0 B hB1 hB2).1 x.pat v8 e9)).go (pl [0]) (by simp) (by simp) (by intro i j hi;simp at hi) (by intro i hi hi';simp at hi hi';have hi:i=0:=(by omega);rcases hi with rfl<;>simp[pl]) (by simp_all) (by simp_all) ?_
   repeat first|refine cg ?_|simp -dsimp
   revert hF;refine aS ?_ ?_<;>intro h10 q11 hF
   ·have z12:(40<(v8.length:Int)):=auz
    cases hF
    repeat first|refine cg ?_|simp -dsimp[h10,z12]
    refine lG _ (gR _) (hq _ ?_)
    repeat first|refine cg ?_|simp -dsimp
   ·have z12:¬(40<(v8.length:Int)):=auz
    have w13:i64.wrap ((i:Int)+1)=(i:Int)+1:=ZE (by omega) (by omega)
    repeat first|refine cg ?_|simp -dsimp[h10,q11,z12,w13]
    refine aG _ ?_ ((ih_f198 (i+1) o hF) _ rfl _ hq)
    exact(gT (by simp) (by simp_all))
  ·have z6:¬((i:Int)<(list.length:Int)):=auz
   cases hF
   repeat first|refine cg ?_|simp -dsimp[h4,q5,z6]
   refine lG _ (gT (by simp) (by simp_all)) hq
theorem C.f199 (w:List Vl.Data)(t:Ty)(list:List Clause)(r:(List Step)×Bool)(hF:F.f199 w t list=some r):PureCall Tryz.prog B 7 [am Vl.Data.c w,.agg [li t.data,li t.index],am Clause.c list] (.tup [am Step.c r.1,.lit (.bool r.2)]):=by
 unfold F.f199 at hF
 refine pE Tryz.func7 (by kernel_rfl) rfl Tryz.ntmps7 (by simp) (by simp) ?_
 repeat first|refine cg ?_|simp -dsimp
 have hF:=ob hF;obtain⟨v,e1,hF⟩:=hF
 refine((C.f175 B hB1 hB2 w t list v e1)).goW (by simp) (by simp) ?_
 repeat first|refine cg ?_|simp -dsimp
 revert hF;refine aN (fun h2 q3 hF=> ?_) (fun h2 q3 hF=> ?_)
 ·cases hF
  repeat first|refine cg ?_|simp -dsimp[h2,q3]
 ·repeat first|refine cg ?_|simp -dsimp
  have hF:=ob hF;obtain⟨o',ho14,hF⟩:=hF
  refine ALoop.goU _ ?_ (((CC.f198 B hB1 hB2 list) 0 o' ho14) _ rfl _ ?_)
  ·exact(gT (by simp) (by simp_all))
  rcases o' with r0|sx
  ·dsimp only at hF
   cases hF
   intro st h
   simpa using h
  ·dsimp only at hF
   repeat first|refine cg ?_|simp -dsimp
   have hF:=ob hF;obtain⟨v15,e16,hF⟩:=hF
   refine((C.f197 B hB1 hB2 list v15 e16)).goW (by simp) (by simp) ?_
   cases hF
   repeat first|refine cg ?_|simp -dsimp
theorem C.f200 (w:List Vl.Data)(t:Ty)(p:Pattern)(r:Bool)(hF:F.f200 w t p=some r):PureCall Tryz.prog B 50 [am Vl.Data.c w,.agg [li t.data,li t.index],.agg [li p.op,li p.ctor,li p.n,li p.m,li p.var,am Pattern.c p.kids]] (.lit (.bool r)):=by
 unfold F.f200 at hF
 refine pE Tryz.func50 (by kernel_rfl) rfl Tryz.ntmps50 (by simp) (by simp) ?_
 repeat first|refine cg ?_|simp -dsimp
 have hF:=ob hF;obtain⟨v,e1,hF⟩:=hF
 refine((C.f139 B hB1 hB2 w t p v e1)).goW (by simp) (by simp) ?_
 cases hF
 repeat first|refine cg ?_|simp -dsimp
theorem C.f201 (w:List Vl.Data)(t:Ty)(p:Pattern)(r:Bool)(hF:F.f201 w t p=some r):PureCall Tryz.prog B 16 [am Vl.Data.c w,.agg [li t.data,li t.index],.agg [li p.op,li p.ctor,li p.n,li p.m,li p.var,am Pattern.c p.kids]] (.lit (.bool r)):=by
 unfold F.f201 at hF
 refine pE Tryz.func16 (by kernel_rfl) rfl Tryz.ntmps16 (by simp) (by simp) ?_
 repeat first|refine cg ?_|simp -dsimp
 have hF:=ob hF;obtain⟨v,e1,hF⟩:=hF
 refine((C.f112 B hB1 hB2 w t v e1)).goW (by simp) (by simp) ?_
 repeat first|refine cg ?_|simp -dsimp
 revert hF;refine aS (fun h2 q3 hF=> ?_) (fun h2 q3 hF=> ?_)
 ·repeat first|refine cg ?_|simp -dsimp[h2]
  have hF:=ob hF;obtain⟨v4,e5,hF⟩:=hF
  refine((C.f200 B hB1 hB2 w t p v4 e5)).goW (by simp[h2]) (by simp) ?_
  cases hF
  repeat first|refine cg ?_|simp -dsimp[h2]
 ·cases hF
  repeat first|refine cg ?_|simp -dsimp[h2,q3]
theorem CC.f202  :(∀(p:Pattern) (r:Pattern),F.f202 p=some r->PureCall Tryz.prog B 36 [.agg [li p.op,li p.ctor,li p.n,li p.m,li p.var,am Pattern.c p.kids]] (.agg [li r.op,li r.ctor,li r.n,li r.m,li r.var,am Pattern.c r.kids]))/\
  (∀(p:Pattern) (out:List Pattern) (i:Nat) (o:List Pattern),F.f203 p out i=some o->∀(c:Code),ZY [1,1,1,0,1,0,0] (ZJ Tryz.f36)=some c->∀(Q:Exit->ASt->Prop),(Q (.exit 0) ⟨[(1,.ptr 0 0),(2,.ptr 1 0)],[.cells [li p.op,li p.ctor,li p.n,li p.m,li p.var,.own 2 (List.length (α:=Pattern) o)],.cells [li 0,li 0,li 0,li 0,li 0,.lit (.slice none 0 0)],.elems 6 (List.map Pattern.c o)]⟩)->ALoopU Tryz.prog B 0 24 (hold c .mk) ⟨[(1,.ptr 0 0),(2,.ptr 1 0),(9,am Pattern.c p.kids),(10,li (p.kids.length:Int)),(11,li (i:Int))],[.cells [li p.op,li p.ctor,li p.n,li p.m,li p.var,.own 2 (List.length (α:=Pattern) out)],.cells [li 0,li 0,li 0,li 0,li 0,.lit (.slice none 0 0)],.elems 6 (List.map Pattern.c out)]⟩ (hold Q .mk)):=by
 refine F.f202.mutual_partial_correctness 
  _ _
  ?_ ?_
 ·intro _f_f203 ih_f203 p r hF
  refine pE Tryz.func36 (by kernel_rfl) rfl Tryz.ntmps36 (by simp) (by simp) ?_
  repeat first|refine cg ?_|simp -dsimp
  have hF:=ob hF;obtain⟨o',ho8,hF⟩:=hF
  refine ALoop.goU ⟨[(1,.ptr 0 0),(2,.ptr 1 0),(9,.arr (List.map Pattern.c p.kids)),(10,.lit (.int .i64 (p.kids.length:Int))),(11,.lit (.int .i64 0))],[.cells [.lit (.int .i64 p.op),.lit (.int .i64 p.ctor),.lit (.int .i64 p.n),.lit (.int .i64 p.m),.lit (.int .i64 p.var),.own 2 (List.length (α:=Pattern) [])],.cells [.lit (.int .i64 0),.lit (.int .i64 0),.lit (.int .i64 0),.lit (.int .i64 0),.lit (.int .i64 0),.lit (.slice none 0 0)],.elems 6 (List.map Pattern.c [])]⟩ (by refine Gh.trans (Gh.nilCell 0 5 6 (by simp -dsimp;rfl) (by simp -dsimp)) ?_;exact(gT (by simp) (by simp -dsimp))) ?_
  refine(ih_f203 p [] 0 o' ho8) _ rfl _ ?_
  cases hF
  repeat first|refine cg ?_|simp -dsimp
 ·intro _f_f202 _f_f203 ih_f202 ih_f203 p out i o hF
  intro c hc Q hq
  obtain rfl:c=_:=ZK hc rfl
  refine kN fun hk hs=> ?_
  have b9:=hk 9
  simp -dsimp at b9
  have d2:=hs 2 _ rfl
  simp -dsimp[Blk.bnd]at d2
  clear hk hs
  refine eN ?_
  repeat first|refine cg ?_|simp -dsimp
  revert hF;refine aS ?_ ?_<;>intro h1 q2 hF
  ·have z3:((i:Int)<(p.kids.length:Int)):=auz
   have hF:=ob hF;obtain⟨x,e4,hF⟩:=hF
   have le4:=ZD e4
   repeat first|refine cg ?_|simp -dsimp[h1,z3,↓e4]
   refine ADraw.eff [] [(0,1),(0,1),(0,0),(0,3),(0,3),(0,3),(2,2),(0,3)] [0,2,1,1,1,1,1,1] follows (by kernel_rfl) (by kernel_rfl) (by kernel_rfl) ?_
   repeat first|refine cg ?_|simp -dsimp
   have hF:=ob hF;obtain⟨v,e5,hF⟩:=hF
   refine((ih_f202 x v e5)).pgoW (by simp_all) (by simp) ?_
   have hF:=oc hF;obtain⟨c6,hF⟩:=hF
   have w7:i64.wrap ((i:Int)+1)=(i:Int)+1:=ZE (by omega) (by omega)
   repeat first|refine cg ?_|simp -dsimp[w7]
   refine aG _ ?_ ((ih_f203 p (out++[v]) (i+1) o hF) _ rfl _ hq)
   exact(gT (by simp) (by simp_all))
  ·have z3:¬((i:Int)<(p.kids.length:Int)):=auz
   cases hF
   repeat first|refine cg ?_|simp -dsimp[h1,q2,z3]
   refine lG _ (gT (by simp) (by simp_all)) hq
theorem CC.f204 (list:List Pattern):(∀(out:List Pattern) (i:Nat) (o:List Pattern),F.f204 list out i=some o->∀(c:Code),ZY [1,1,0,1,0,0] (ZJ Tryz.f28)=some c->∀(Q:Exit->ASt->Prop),(Q (.exit 0) ⟨[(3,.own 0 (List.length (α:=Pattern) o))],[.elems 6 (List.map Pattern.c o)]⟩)->ALoopU Tryz.prog B 0 19 (hold c .mk) ⟨[(3,.own 0 (List.length (α:=Pattern) out)),(6,am Pattern.c list),(7,li (list.length:Int)),(8,li (i:Int))],[.elems 6 (List.map Pattern.c out)]⟩ (hold Q .mk)):=by
 refine F.f204.partial_correctness list
  _
  ?_
 ·intro _f_f204 ih_f204 out i o hF
  intro c hc Q hq
  obtain rfl:c=_:=ZK hc rfl
  refine kN fun hk hs=> ?_
  have b6:=hk 6
  simp -dsimp at b6
  have d0:=hs 0 _ rfl
  simp -dsimp[Blk.bnd]at d0
  clear hk hs
  refine eN ?_
  repeat first|refine cg ?_|simp -dsimp
  revert hF;refine aS ?_ ?_<;>intro h1 q2 hF
  ·have z3:((i:Int)<(list.length:Int)):=auz
   have hF:=ob hF;obtain⟨x,e4,hF⟩:=hF
   have le4:=ZD e4
   repeat first|refine cg ?_|simp -dsimp[h1,z3,↓e4]
   have hF:=ob hF;obtain⟨v,e5,hF⟩:=hF
   refine(((CC.f202 B hB1 hB2).1 x v e5)).goW (by simp_all) (by simp) ?_
   have hF:=oc hF;obtain⟨c6,hF⟩:=hF
   have w7:i64.wrap ((i:Int)+1)=(i:Int)+1:=ZE (by omega) (by omega)
   repeat first|refine cg ?_|simp -dsimp[w7]
   refine aG _ ?_ ((ih_f204 (out++[v]) (i+1) o hF) _ rfl _ hq)
   exact(gT (by simp) (by simp_all))
  ·have z3:¬((i:Int)<(list.length:Int)):=auz
   cases hF
   repeat first|refine cg ?_|simp -dsimp[h1,q2,z3]
   refine lG _ (gT (by simp) (by simp_all)) hq
theorem C.f205 (list:List Pattern)(r:List Pattern)(hF:F.f205 list=some r):PureCall Tryz.prog B 28 [am Pattern.c list] (am Pattern.c r):=by
 unfold F.f205 at hF
 refine pE Tryz.func28 (by kernel_rfl) rfl Tryz.ntmps28 (by simp) (by simp) ?_
 repeat first|refine cg ?_|simp -dsimp
 have hF:=ob hF;obtain⟨o',ho8,hF⟩:=hF
 refine ALoop.goU ⟨[(3,.own 0 (List.length (α:=Pattern) [])),(6,.arr (List.map Pattern.c list)),(7,.lit (.int .i64 (list.length:Int))),(8,.lit (.int .i64 0))],[.elems 6 (List.map Pattern.c [])]⟩ (by refine Gh.trans (Gh.nil 3 6 (by simp -dsimp)) ?_;exact(gT (by simp) (by simp -dsimp))) ?_
 refine((CC.f204 B hB1 hB2 list) [] 0 o' ho8) _ rfl _ ?_
 cases hF
 repeat first|refine cg ?_|simp -dsimp
theorem C.f206 (w:List Vl.Data)(t:Ty)(p:Pattern)(r:(List Pattern)×Bool)(hF:F.f206 w t p=some r):PureCall Tryz.prog B 8 [am Vl.Data.c w,.agg [li t.data,li t.index],.agg [li p.op,li p.ctor,li p.n,li p.m,li p.var,am Pattern.c p.kids]] (.tup [am Pattern.c r.1,.lit (.bool r.2)]):=by
 unfold F.f206 at hF
 refine pE Tryz.func8 (by kernel_rfl) rfl Tryz.ntmps8 (by simp) (by simp) ?_
 repeat first|refine cg ?_|simp -dsimp
 have hF:=ob hF;obtain⟨v,e1,hF⟩:=hF
 refine((C.f201 B hB1 hB2 w t p v e1)).goW (by simp) (by simp) ?_
 repeat first|refine cg ?_|simp -dsimp
 revert hF;refine aS (fun h2 q3 hF=> ?_) (fun h2 q3 hF=> ?_)
 ·repeat first|refine cg ?_|simp -dsimp[h2]
  have hF:=ob hF;obtain⟨v4,e5,hF⟩:=hF
  refine(((CC.f147 B hB1 hB2).1 p v4 e5)).goW (by simp[h2]) (by simp) ?_
  repeat first|refine cg ?_|simp -dsimp[h2]
  revert hF;refine aS ?_ ?_<;>intro h6 q7 hF
  ·cases hF
   repeat first|refine cg ?_|simp -dsimp[h2,h6]
  ·repeat first|refine cg ?_|simp -dsimp[h2,h6,q7]
   have hF:=ob hF;obtain⟨v8,e9,hF⟩:=hF
   refine(((CC.impl_split__o0 B hB1 hB2).1 p v8 e9)).go (pl [2]) (by simp) (by simp) (by intro i j hi;simp at hi) (by intro i hi hi';simp at hi hi';have hi:i=0:=(by omega);rcases hi with rfl<;>simp[pl]) (by simp[h2,h6,q7]) (by simp[h2,h6,q7]) ?_
   repeat first|refine cg ?_|simp -dsimp[h2,h6,q7]
   have hF:=ob hF;obtain⟨v10,e11,hF⟩:=hF
   refine ACall.frz ?_ ((C.f205 B hB1 hB2 v8 v10 e11)).ent
   repeat first|refine cg ?_|simp -dsimp[h2,h6,q7]
   refine((C.f205 B hB1 hB2 v8 v10 e11)).goW (by simp[h2,h6,q7]) (by simp) ?_
   cases hF
   repeat first|refine cg ?_|simp -dsimp[h2,h6,q7]
 ·cases hF
  repeat first|refine cg ?_|simp -dsimp[h2,q3]
theorem CC.f207 (v:(List Vl.Data)×Ty×(List Clause))(v5:(List Step)×Bool)(i:Nat)(v20:(List Pattern)×Bool):(∀(n:Nat) (k:Nat) (o:Nat),F.f207 v v5 i v20 n k=some o->∀(c:Code),ZY [1,1,1,1,1,1,0,1,0,0,1,0,0,1,1,0,1,0,0] (ZJ Tryz.f3)=some c->∀(Q:Exit->ASt->Prop),(Q (.exit 2) ⟨[(3,am Vl.Data.c v.1),(4,.ptr 0 0),(5,am Clause.c v.2.2),(6,am Step.c v5.1),(10,li (i:Int)),(11,am Pattern.c v20.1),(12,.lit (.bool v20.2)),(13,li (o:Int))],[.cells [li v.2.1.data,li v.2.1.index]]⟩)->ALoopU Tryz.prog B 0 110 (hold c .mk) ⟨[(3,am Vl.Data.c v.1),(4,.ptr 0 0),(5,am Clause.c v.2.2),(6,am Step.c v5.1),(10,li (i:Int)),(11,am Pattern.c v20.1),(12,.lit (.bool v20.2)),(13,li (n:Int)),(14,li (k:Int))],[.cells [li v.2.1.data,li v.2.1.index]]⟩ (hold Q .mk)):=by
 refine F.f207.partial_correctness v v5 i v20
  _
  ?_
 ·intro _f_f207 ih_f207 n k o hF
  intro c hc Q hq
  obtain rfl:c=_:=ZK hc rfl
  refine kN fun hk hs=> ?_
  have b3:=hk 3
  simp -dsimp at b3
  have b5:=hk 5
  simp -dsimp at b5
  have b6:=hk 6
  simp -dsimp at b6
  have b11:=hk 11
  simp -dsimp at b11
  clear hk hs
  refine eN ?_
  repeat first|refine cg ?_|simp -dsimp
  revert hF;refine aS ?_ ?_<;>intro h22 q23 hF
  ·have z24:((k:Int)<(v5.1.length:Int)):=auz
   have hF:=ob hF;obtain⟨x25,e26,hF⟩:=hF
   have le26:=ZD e26
   repeat first|refine cg ?_|simp -dsimp[h22,z24,↓e26]
   revert hF;refine aS ?_ ?_<;>intro h27 q28 hF
   ·repeat first|refine cg ?_|simp -dsimp[↓e26,h27]
    revert hF;refine aS ?_ ?_<;>intro h29 q30 hF
    ·have hF:=oc hF;obtain⟨c31,hF⟩:=hF
     have w32:i64.wrap ((n:Int)+1)=(n:Int)+1:=ZE (by omega) (by omega)
     have w33:i64.wrap ((k:Int)+1)=(k:Int)+1:=ZE (by omega) (by omega)
     repeat first|refine cg ?_|simp -dsimp[↓e26,h29,w32,w33]
     refine aG _ ?_ ((ih_f207 (n+1) (k+1) o hF) _ rfl _ hq)
     exact(gT (by simp) (by simp_all))
    ·have w34:i64.wrap ((k:Int)+1)=(k:Int)+1:=ZE (by omega) (by omega)
     repeat first|refine cg ?_|simp -dsimp[↓e26,h29,q30,w34]
     refine aG _ ?_ ((ih_f207 n (k+1) o hF) _ rfl _ hq)
     exact(gT (by simp) (by simp_all))
   ·have w35:i64.wrap ((k:Int)+1)=(k:Int)+1:=ZE (by omega) (by omega)
    repeat first|refine cg ?_|simp -dsimp[↓e26,q28,w35]
    refine aG _ ?_ ((ih_f207 n (k+1) o hF) _ rfl _ hq)
    exact(gT (by simp) (by simp_all))
  ·have z24:¬((k:Int)<(v5.1.length:Int)):=auz
   cases hF
   repeat first|refine cg ?_|simp -dsimp[h22,q23,z24]
   refine lG _ (gT (by simp) (by simp_all)) hq
theorem CC.f208 (v:(List Vl.Data)×Ty×(List Clause))(v5:(List Step)×Bool):(∀(i:Nat) (o:Lo Bool Unit),F.f208 v v5 i=some o->∀(c:Code),ZY [1,1,1,1,1,1,0,1,0,0] (ZJ Tryz.f3)=some c->∀(Q:Exit->ASt->Prop),o.post (fun r=>∀st,ZAf Tryz.prog Tryz.f3 (fun r' _=>r'.le (.lit (.bool r))) .ret st->Q .ret st) (fun s=>Q (.exit 0) ⟨[],[]⟩)->ALoopU Tryz.prog B 0 110 (hold c .mk) ⟨[(3,am Vl.Data.c v.1),(4,.ptr 0 0),(5,am Clause.c v.2.2),(6,am Step.c v5.1),(10,li (i:Int))],[.cells [li v.2.1.data,li v.2.1.index]]⟩ (hold Q .mk)):=by
 refine F.f208.partial_correctness v v5
  _
  ?_
 ·intro _f_f208 ih_f208 i o hF
  intro c hc Q hq
  obtain rfl:c=_:=ZK hc rfl
  refine kN fun hk hs=> ?_
  have b3:=hk 3
  simp -dsimp at b3
  have b5:=hk 5
  simp -dsimp at b5
  have b6:=hk 6
  simp -dsimp at b6
  clear hk hs
  refine eN ?_
  repeat first|refine cg ?_|simp -dsimp
  revert hF;refine aS ?_ ?_<;>intro h16 q17 hF
  ·have z18:((i:Int)<(v.2.2.length:Int)):=auz
   repeat first|refine cg ?_|simp -dsimp[h16,z18]
   refine ADraw.simple follows (by kernel_rfl) (by kernel_rfl) ?_
   have hF:=ob hF;obtain⟨x,e19,hF⟩:=hF
   have le19:=ZD e19
   repeat first|refine cg ?_|simp -dsimp[↓e19]
   have hF:=ob hF;obtain⟨v20,e21,hF⟩:=hF
   refine((C.f206 B hB1 hB2 v.1 v.2.1 x.pat v20 e21)).pgoW (by simp_all) (by simp) ?_
   repeat first|refine cg ?_|simp -dsimp
   have hF:=ob hF;obtain⟨o',ho36,hF⟩:=hF
   refine ALoop.goU _ ?_ (((CC.f207 B hB1 hB2 v v5 i v20) 0 0 o' ho36) _ rfl _ ?_)
   ·exact(gT (by simp) (by simp_all))
   repeat first|refine cg ?_|simp -dsimp
   revert hF;refine aS (fun h37 q38 hF=> ?_) (fun h37 q38 hF=> ?_)
   ·repeat first|refine cg ?_|simp -dsimp[h37]
    revert hF;refine aN ?_ ?_<;>intro h39 q40 hF
    ·have z41:¬((o':Int)=(v20.1.length:Int)):=auz
     cases hF
     repeat first|refine cg ?_|simp -dsimp[h39,q40,z41]
     refine lG _ (gR _) (hq _ ?_)
     repeat first|refine cg ?_|simp -dsimp
    ·have z41:((o':Int)=(v20.1.length:Int)):=auz
     have hF:=oc hF;obtain⟨c42,hF⟩:=hF
     have w43:i64.wrap ((i:Int)+1)=(i:Int)+1:=ZE (by omega) (by omega)
     repeat first|refine cg ?_|simp -dsimp[w43]
     refine aG _ ?_ ((ih_f208 (i+1) o hF) _ rfl _ hq)
     exact(gT (by simp) (by simp_all))
   ·cases hF
    repeat first|refine cg ?_|simp -dsimp[q38]
    refine lG _ (gR _) (hq _ ?_)
    repeat first|refine cg ?_|simp -dsimp
  ·have z18:¬((i:Int)<(v.2.2.length:Int)):=auz
   cases hF
   repeat first|refine cg ?_|simp -dsimp[h16,q17,z18]
   refine lG _ (gT (by simp) (by simp_all)) hq
theorem C.f209 (code:List Int)(r:Bool)(hF:F.f209 code=some r):PureCall Tryz.prog B 3 [am cU code] (.lit (.bool r)):=by
 unfold F.f209 at hF
 refine pE Tryz.func3 (by kernel_rfl) rfl Tryz.ntmps3 (by simp) (by simp) ?_
 repeat first|refine cg ?_|simp -dsimp
 revert hF;refine aS ?_ ?_<;>intro h1 q2 hF
 ·have z3:(1048576<(code.length:Int)):=auz
  cases hF
  repeat first|refine cg ?_|simp -dsimp[h1,z3]
  all_goals(try first|omega|rfl)
 ·have z3:¬(1048576<(code.length:Int)):=auz
  repeat first|refine cg ?_|simp -dsimp[h1,q2,z3]
  have hF:=ob hF;obtain⟨v,e4,hF⟩:=hF
  refine((C.f98 B hB1 hB2 code v e4)).goW (by simp[h1,q2,z3]) (by simp) ?_
  repeat first|refine cg ?_|simp -dsimp[h1,q2,z3]
  have hF:=ob hF;obtain⟨v5,e6,hF⟩:=hF
  refine((C.f169 B hB1 hB2 v.1 v.2.1 v.2.2 v5 e6)).goW (by simp[h1,q2,z3]) (by simp) ?_
  repeat first|refine cg ?_|simp -dsimp[h1,q2,z3]
  have hF:=ob hF;obtain⟨v7,e8,hF⟩:=hF
  refine((C.f199 B hB1 hB2 v.1 v.2.1 v.2.2 v7 e8)).goW (by simp[h1,q2,z3]) (by simp) ?_
  repeat first|refine cg ?_|simp -dsimp[h1,q2,z3]
  revert hF;refine aS ?_ ?_<;>intro h9 q10 hF
  ·repeat first|refine cg ?_|simp -dsimp[h1,q2,z3,h9]
   revert hF;refine aS ?_ ?_<;>intro h11 q12 hF
   ·have z13:((v5.1.length:Int)=(v7.1.length:Int)):=auz
    repeat first|refine cg ?_|simp -dsimp[h1,q2,z3,h9,h11,z13]
    revert hF;refine aN (fun h14 q15 hF=> ?_) (fun h14 q15 hF=> ?_)
    ·cases hF
     repeat first|refine cg ?_|simp -dsimp[h1,q2,z3,h9,h11,z13,h14,q15]
     all_goals(try first|omega|rfl)
    ·repeat first|refine cg ?_|simp -dsimp[h1,q2,z3,h9,h11,z13,h14,q15]
     have hF:=ob hF;obtain⟨o'45,ho44,hF⟩:=hF
     refine ALoop.goU _ ?_ (((CC.f208 B hB1 hB2 v v5) 0 o'45 ho44) _ rfl _ ?_)
     ·exact(gT (by simp) (by simp -dsimp[h1,q2,z3,h9,h11,z13,h14,q15]))
     rcases o'45 with r0|sx
     ·dsimp only at hF
      cases hF
      intro st h
      simpa using h
     ·dsimp only at hF
      cases hF
      repeat first|refine cg ?_|simp -dsimp
      all_goals(try first|omega|rfl)
   ·have z13:¬((v5.1.length:Int)=(v7.1.length:Int)):=auz
    cases hF
    repeat first|refine cg ?_|simp -dsimp[h1,q2,z3,h9,h11,q12,z13]
    all_goals(try first|omega|rfl)
  ·cases hF
   repeat first|refine cg ?_|simp -dsimp[h1,q2,z3,h9,q10]
   all_goals(try first|omega|rfl)
end Go.Proofs.YtoiccjladkadgaaGreat
