/- A part of the proof. -/
import Derived.Test.YtinfmpljhapfgaaGreatDoorProg
import Derived.Test.YtinfmpljhapfgaaGreatDoorClausesPrefixF
import Derived.Test.YtinfmpljhapfgaaGreatDoorClausesPrefixC1
import Derived.Test.YtinfmpljhapfgaaGreatDoorVlShelf
import Derived.Test.YtinfmpljhapfgaaGreatDoorShelf
namespace Go.Proofs.YtinfmpljhapfgaaGreatDoor
open Go Go.Proofs Go.Vl
open abr renaming sp->aS,ns->aN
open Leave renaming go->lG
open Again renaming go->aG
open ALoopU renaming know->kN,enter->eN
open Gh renaming to3->gT,refl->gR
open PureCall renaming enterLe->pE
open Go.IntKind (i64)
set_option linter.all false
set_option maxRecDepth 100000
set_option maxHeartbeats 4000000
set_option synthInstance.maxSize 100000
set_option synthInstance.maxHeartbeats 4000000
attribute [local irreducible] ECallA NCallA aL aLg AMake MLoop AgainM LeaveM ZBW ZBD MutCall BCall chk abr ACall ALoop ALoopU ADraw Again Leave ZEQ PCall ZAe awp ZHc PureCall hold
variable (B : Nat) (hB1 : 67108864 <= B) (hB2 : B <= 9223372036854775807)
include hB1 hB2
theorem CC.f83 (w:List Vl.Data):(∀(t:Ty) (p:Pattern) (r:Bool),F.f83 w t p=some r->PureCall Tryz.prog B 54 [am Vl.Data.c w,.agg [li t.data,li t.index],.agg [li p.op,li p.ctor,li p.n,li p.m,li p.var,am Pattern.c p.kids]] (.lit (.bool r)))/\
  (∀(t:Ty) (p:Pattern) (v:List Ty) (i:Nat) (o:Lo Bool Unit),F.f84 w t p v i=some o->∀(c:Code),Zq [1,1,0,1,0,0] (ZJ Tryz.f54)=some c->∀(Q:Exit->ASt->Prop),o.post (fun r=>∀st,ZAe Tryz.prog Tryz.f54 (fun r' _=>r'.le (.lit (.bool r))) .ret st->Q .ret st) (fun s=>Q (.exit 0) ⟨[(0,am Vl.Data.c w),(4,.ptr 0 0),(5,.ptr 1 0)],[.cells [li t.data,li t.index],.cells [li p.op,li p.ctor,li p.n,li p.m,li p.var,am Pattern.c p.kids]]⟩)->ALoopU Tryz.prog B 0 70 (hold c .mk) ⟨[(0,am Vl.Data.c w),(4,.ptr 0 0),(5,.ptr 1 0),(7,am Ty.c v),(8,li (i:Int))],[.cells [li t.data,li t.index],.cells [li p.op,li p.ctor,li p.n,li p.m,li p.var,am Pattern.c p.kids]]⟩ (hold Q .mk)):=by
 refine F.f83.mutual_partial_correctness w
  _ _
  ?_ ?_
 ·intro _f_f84 ih_f84 t p r hF
  refine pE Tryz.func54 (by kernel_rfl) rfl Tryz.ntmps54 (by simp) (by simp) ?_
  repeat first|refine cg ?_|simp -dsimp
  have hF:=ob hF;obtain⟨v,e1,hF⟩:=hF
  refine((C.f69 B hB1 hB2 w t p v e1)).goW (by simp) (by simp) ?_
  repeat first|refine cg ?_|simp -dsimp
  have hF:=ob hF;obtain⟨o',ho13,hF⟩:=hF
  refine ALoop.goU _ ?_ ((ih_f84 t p v 0 o' ho13) _ rfl _ ?_)
  ·exact(gT (by simp) (by simp -dsimp))
  rcases o' with r042|sx
  ·dsimp only at hF
   cases hF
   intro st h
   simpa using h
  ·dsimp only at hF
   repeat first|refine cg ?_|simp -dsimp
   revert hF;refine aS ?_ ?_<;>intro h14 q15 hF
   ·repeat first|refine cg ?_|simp -dsimp[h14]
    refine ADraw.eff [35,82] [(0,0),(0,0),(0,0),(0,0),(0,0),(0,0),(0,3),(0,1),(0,1),(0,1),(0,1),(0,1),(0,1),(0,3),(0,3),(3,3)] [1,1,1,1,1,1,1,1,2,0,2,0,0,1,1,1] follows (by kernel_rfl) (by kernel_rfl) (by kernel_rfl) ?_
    have hF:=ob hF;obtain⟨x16,e17,hF⟩:=hF
    have le17:=ZD e17
    repeat first|refine cg ?_|simp -dsimp[h14,↓e17]
    have hF:=ob hF;obtain⟨v18,e19,hF⟩:=hF
    refine ECallA.nilArg 0 3 (by simp) ?_
    repeat first|refine cg ?_|simp -dsimp[h14,↓e17]
    refine(((CC.f74 B hB1 hB2 w).1 [] t x16 v18 e19)).ego (pl [2]) (by simp) (by simp) (ZDC _ rfl (by decide)) (by intro i hi hi';simp at hi hi';first|omega|(subst hi';simp[pl])) (by first|simp[h14,↓e17];done|simp_all) (by first|simp[h14,↓e17];done|simp_all) ?_
    have hF:=ob hF;obtain⟨x20,e21,hF⟩:=hF
    have le21:=ZD e21
    repeat first|refine cg ?_|simp -dsimp[h14,↓e17,↓e21]
    have hF:=ob hF;obtain⟨v22,e23,hF⟩:=hF
    refine ECallA.nilArg 0 3 (by simp) ?_
    repeat first|refine cg ?_|simp -dsimp[h14,↓e17,↓e21]
    refine(((CC.f74 B hB1 hB2 w).1 [] t x20 v22 e23)).ego (pl [3]) (by simp) (by simp) (ZDC _ rfl (by decide)) (by intro i hi hi';simp at hi hi';first|omega|(subst hi';simp[pl])) (by first|simp[h14,↓e17,↓e21];done|simp_all) (by first|simp[h14,↓e17,↓e21];done|simp_all) ?_
    repeat first|refine cg ?_|simp -dsimp[h14,↓e17,↓e21]
    have hF:=ob hF;obtain⟨v24,e25,hF⟩:=hF
    refine((C.f81 B hB1 hB2 v18 v22 v24 e25)).elend (by first|simp -dsimp[h14,↓e17,↓e21];done|simp_all) (by simp -dsimp) ?_
    cases hF
    repeat first|refine cg ?_|simp -dsimp[h14,↓e17,↓e21]
    all_goals(try first|omega|rfl)
   ·repeat first|refine cg ?_|simp -dsimp[h14,q15]
    have hF:=ob hF;obtain⟨v26,e27,hF⟩:=hF
    refine ACall.nilArg 0 3 (by simp) ?_
    repeat first|refine cg ?_|simp -dsimp[h14,q15]
    refine(((CC.f74 B hB1 hB2 w).1 [] t p v26 e27)).go (pl [2]) (by simp) (by simp) (ZDC _ rfl (by decide)) (by intro i hi hi';simp at hi hi';first|omega|(subst hi';simp[pl])) (by first|simp[h14,q15];done|simp_all) (by first|simp[h14,q15];done|simp_all) ?_
    repeat first|refine cg ?_|simp -dsimp[h14,q15]
    have hF:=ob hF;obtain⟨o'40,ho39,hF⟩:=hF
    refine ALoop.goU _ ?_ (((CC.f82 B hB1 hB2 v26) 0 o'40 ho39) _ rfl _ ?_)
    ·exact(gT (by simp) (by first|simp -dsimp[h14,q15];done|simp_all))
    rcases o'40 with r0|sx41
    ·dsimp only at hF
     cases hF
     intro st h
     simpa using h
    ·dsimp only at hF
     cases hF
     repeat first|refine cg ?_|simp -dsimp
     all_goals(try first|omega|rfl)
 ·intro _f_f83 _f_f84 ih_f83 ih_f84 t p v i o hF
  intro c hc Q hq
  obtain rfl:c=_:=ZQ hc rfl
  refine kN fun hk hs=> ?_
  have b0:=hk 0
  simp -dsimp at b0
  have b7:=hk 7
  simp -dsimp at b7
  have d1:=hs 1 _ rfl
  simp -dsimp[Blk.bnd]at d1
  clear hk hs
  refine eN ?_
  repeat first|refine cg ?_|simp -dsimp
  revert hF;refine aS ?_ ?_<;>intro h2 q3 hF
  ·have z4:((i:Int)<(v.length:Int)):=auz
   repeat first|refine cg ?_|simp -dsimp[h2,z4]
   refine ADraw.simple follows (by kernel_rfl) (by kernel_rfl) ?_
   have hF:=ob hF;obtain⟨x,e5,hF⟩:=hF
   have le5:=ZD e5
   have hF:=ob hF;obtain⟨x6,e7,hF⟩:=hF
   have le7:=ZD e7
   repeat first|refine cg ?_|simp -dsimp[h2,z4,↓e5,↓e7]
   have hF:=ob hF;obtain⟨v8,e9,hF⟩:=hF
   refine((ih_f83 x x6 v8 e9)).pgoW (by first|simp[h2,z4,↓e5,↓e7];done|simp_all) (by simp) ?_
   repeat first|refine cg ?_|simp -dsimp[h2,z4,↓e5,↓e7]
   revert hF;refine aN (fun h10 q11 hF=> ?_) (fun h10 q11 hF=> ?_)
   ·cases hF
    repeat first|refine cg ?_|simp -dsimp[h2,z4,↓e5,↓e7,h10,q11]
    refine lG _ (gR _) (hq _ ?_)
    repeat first|refine cg ?_|simp -dsimp[h2,z4,↓e5,↓e7,h10,q11]
   ·have w12:i64.wrap ((i:Int)+1)=(i:Int)+1:=ZF (by omega) (by omega)
    repeat first|refine cg ?_|simp -dsimp[h2,z4,↓e5,↓e7,h10,q11,w12]
    refine aG _ ?_ ((ih_f84 t p v (i+1) o hF) _ rfl _ hq)
    exact(gT (by simp) (by first|simp -dsimp[h2,z4,↓e5,↓e7,h10,q11,w12];done|simp_all))
  ·have z4:¬((i:Int)<(v.length:Int)):=auz
   cases hF
   repeat first|refine cg ?_|simp -dsimp[h2,q3,z4]
   refine lG _ (gT (by simp) (by first|simp -dsimp[h2,q3,z4];done|simp_all)) hq
theorem C.f85 (w:List Vl.Data)(t:Ty)(p:Pattern)(r:Bool)(hF:F.f85 w t p=some r):PureCall Tryz.prog B 33 [am Vl.Data.c w,.agg [li t.data,li t.index],.agg [li p.op,li p.ctor,li p.n,li p.m,li p.var,am Pattern.c p.kids]] (.lit (.bool r)):=by
 unfold F.f85 at hF
 refine pE Tryz.func33 (by kernel_rfl) rfl Tryz.ntmps33 (by simp) (by simp) ?_
 repeat first|refine cg ?_|simp -dsimp
 have hF:=ob hF;obtain⟨v,e1,hF⟩:=hF
 refine(((CC.f70 B hB1 hB2 w).1 t p 10 v e1)).goW (by simp) (by simp) ?_
 repeat first|refine cg ?_|simp -dsimp
 revert hF;refine aS (fun h2 q3 hF=> ?_) (fun h2 q3 hF=> ?_)
 ·repeat first|refine cg ?_|simp -dsimp[h2]
  have hF:=ob hF;obtain⟨v4,e5,hF⟩:=hF
  refine(((CC.f72 B hB1 hB2).1 p 60 v4 e5)).goW (by first|simp[h2];done|simp_all) (by simp) ?_
  repeat first|refine cg ?_|simp -dsimp[h2]
  revert hF;refine aS ?_ ?_<;>intro h6 q7 hF
  ·repeat first|refine cg ?_|simp -dsimp[h2,h6]
   have hF:=ob hF;obtain⟨v8,e9,hF⟩:=hF
   refine(((CC.f83 B hB1 hB2 w).1 t p v8 e9)).goW (by first|simp[h2,h6];done|simp_all) (by simp) ?_
   cases hF
   repeat first|refine cg ?_|simp -dsimp[h2,h6]
   all_goals(try first|omega|rfl)
  ·cases hF
   repeat first|refine cg ?_|simp -dsimp[h2,h6,q7]
   all_goals(try first|omega|rfl)
 ·cases hF
  repeat first|refine cg ?_|simp -dsimp[h2,q3]
  all_goals(try first|omega|rfl)
theorem C.f86 (r':ZB)(w:List Vl.Data)(t:Ty)(r:Pattern×ZB)(hF:F.f86 r' w t=some r):MutCall Tryz.prog B 71 [am cU r'.f0,li r'.f1] [.ptr 0 0,am Vl.Data.c w,.agg [li t.data,li t.index]] (.agg [li r.1.op,li r.1.ctor,li r.1.n,li r.1.m,li r.1.var,am Pattern.c r.1.kids]) [am cU r.2.f0,li r.2.f1]:=by
 unfold F.f86 at hF
 refine MutCall.enter Tryz.func71 (by kernel_rfl) rfl Tryz.ntmps71 (by simp) (by simp) (by simp) (by simp) ?_
 repeat first|refine cg ?_|simp -dsimp
 refine ADraw.effL [(5,12),(6,12),(7,12),(8,12)] 12 [24,92,93] [(0,3),(0,2),(0,2),(0,2),(0,1),(0,6),(0,6),(0,6),(0,6),(4,5),(4,5),(4,6),(0,6),(0,6),(6,6)] [1,1,1,2,1,1,1,1,1,1,1,1,1,1,1] follows (by kernel_rfl) (by kernel_rfl) (by kernel_rfl) (by kernel_rfl) (by intro d hd;cases hd;rfl) ?_
 repeat first|refine cg ?_|simp -dsimp
 have hF:=ob hF;obtain⟨v,e1,hF⟩:=hF
 refine ECallA.frz ?_ ((C.f54 B hB1 hB2 r' [3,2,4,1] v e1)).ent
 repeat first|refine cg ?_|simp -dsimp
 refine((C.f54 B hB1 hB2 r' [3,2,4,1] v e1)).ego 0 rfl (by simp) (by simp) (by simp) ?_
 repeat first|refine cg ?_|simp -dsimp
 have hF:=ob hF;obtain⟨v2,e3,hF⟩:=hF
 refine(((CC.f59 B hB1 hB2 w).1 v.2 t v.1 v2 e3)).ego 0 rfl (by simp) (by simp) (by simp) ?_
 repeat first|refine cg ?_|simp -dsimp
 have hF:=ob hF;obtain⟨v4,e5,hF⟩:=hF
 refine(((CC.f61 B hB1 hB2).1 v2.2 v2.1 0 v4 e5)).ego 0 rfl (by simp) (by simp) (by simp) ?_
 repeat first|refine cg ?_|simp -dsimp
 have hF:=ob hF;obtain⟨v6,e7,hF⟩:=hF
 refine((C.f85 B hB1 hB2 w t v4.1 v6 e7)).goW (by simp) (by simp) ?_
 repeat first|refine cg ?_|simp -dsimp
 revert hF;refine aN (fun h8 q9 hF=> ?_) (fun h8 q9 hF=> ?_)
 ·cases hF
  repeat first|refine cg ?_|simp -dsimp[h8,q9]
  all_goals(try first|omega|rfl)
 ·cases hF
  repeat first|refine cg ?_|simp -dsimp[h8,q9]
  all_goals(try first|omega|rfl)
theorem CC.f87 (v:Pattern×ZB)(vars:List VarType):(∀(z:List Int) (z4:Int) (z5:Int) (z6:Int) (z7:Int) (i:Nat) (o:(List Int)×Int×Int×Int×Int),F.f87 v z z4 z5 z6 z7 vars i=some o->∀(c:Code),Zq [1,1,1,0,1,0,0] (ZJ Tryz.f43)=some c->∀(Q:Exit->ASt->Prop),(Q (.exit 0) ⟨[(6,.ptr 2 0),(7,.ptr 3 0)],[.cells [am cU o.1,li o.2.1],.dead,.cells [li 0,li 0,li 0,li 0,li 0,.lit (.slice none 0 0),li 0,li 0,li 0],.cells [li v.1.op,li v.1.ctor,li v.1.n,li v.1.m,li v.1.var,am Pattern.c v.1.kids,li o.2.2.1,li o.2.2.2.1,li o.2.2.2.2]]⟩)->ALoopU Tryz.prog B 1 51 (hold c .mk) ⟨[(0,.ptr 0 0),(6,.ptr 2 0),(7,.ptr 3 0),(8,am VarType.c vars),(9,li (i:Int))],[.cells [am cU z,li z4],.dead,.cells [li 0,li 0,li 0,li 0,li 0,.lit (.slice none 0 0),li 0,li 0,li 0],.cells [li v.1.op,li v.1.ctor,li v.1.n,li v.1.m,li v.1.var,am Pattern.c v.1.kids,li z5,li z6,li z7],.dead]⟩ (hold Q .mk)):=by
 refine F.f87.partial_correctness v vars
  _
  ?_
 ·intro _f_f87 ih_f87 z z4 z5 z6 z7 i o hF
  intro c hc Q hq
  obtain rfl:c=_:=ZQ hc rfl
  refine kN fun hk hs=> ?_
  have b8:=hk 8
  simp -dsimp at b8
  have d0:=hs 0 _ rfl
  simp -dsimp[Blk.bnd]at d0
  have d3:=hs 3 _ rfl
  simp -dsimp[Blk.bnd]at d3
  clear hk hs
  refine eN ?_
  repeat first|refine cg ?_|simp -dsimp
  revert hF;refine aS ?_ ?_<;>intro h8 q9 hF
  ·have z10:((i:Int)<(vars.length:Int)):=auz
   have hF:=ob hF;obtain⟨x,e11,hF⟩:=hF
   have le11:=ZD e11
   repeat first|refine cg ?_|simp -dsimp[h8,z10,↓e11]
   revert hF;refine aS ?_ ?_<;>intro h12 q13 hF
   ·repeat first|refine cg ?_|simp -dsimp[h8,z10,↓e11,h12]
    have hF:=ob hF;obtain⟨v14,e15,hF⟩:=hF
    refine((C.f1 B hB1 hB2 (⟨z,z4⟩:ZB) 2 v14 e15)).go 0 rfl (by first|simp[h8,z10,↓e11,h12];done|simp_all) (by simp) (by first|simp[h8,z10,↓e11,h12];done|simp_all) ?_
    repeat first|refine cg ?_|simp -dsimp[h8,z10,↓e11,h12]
    revert hF;refine aS ?_ ?_<;>intro h16 q17 hF
    ·repeat first|refine cg ?_|simp -dsimp[h8,z10,↓e11,h12,h16]
     refine ADraw.eff [22] [(0,0),(0,3),(1,2),(0,2),(0,2),(0,2),(0,2),(0,2),(0,1),(0,3),(2,2),(2,2),(0,3)] [1,1,1,1,1,0,0,0,1,1,1,1,1] follows (by kernel_rfl) (by kernel_rfl) (by kernel_rfl) ?_
     repeat first|refine cg ?_|simp -dsimp[h8,z10,↓e11,h12,h16]
     have hF:=ob hF;obtain⟨v18,e19,hF⟩:=hF
     refine((C.f1 B hB1 hB2 v14.2 2 v18 e19)).ego 0 rfl (by first|simp[h8,z10,↓e11,h12,h16];done|simp_all) (by simp) (by first|simp[h8,z10,↓e11,h12,h16];done|simp_all) ?_
     repeat first|refine cg ?_|simp -dsimp[h8,z10,↓e11,h12,h16]
     have hF:=ob hF;obtain⟨v20,e21,hF⟩:=hF
     refine((C.f1 B hB1 hB2 v18.2 10 v20 e21)).ego 0 rfl (by first|simp[h8,z10,↓e11,h12,h16];done|simp_all) (by simp) (by first|simp[h8,z10,↓e11,h12,h16];done|simp_all) ?_
     have w22:i64.wrap ((i:Int)+1)=(i:Int)+1:=ZF (by omega) (by omega)
     repeat first|refine cg ?_|simp -dsimp[h8,z10,↓e11,h12,h16,w22]
     refine aG _ ?_ ((ih_f87 v20.2.f0 v20.2.f1 (i64.wrap (1+v18.1)) x.var v20.1 (i+1) o hF) _ rfl _ hq)
     exact(gT (by simp) (by first|simp -dsimp[h8,z10,↓e11,h12,h16,w22];done|simp_all))
    ·have w23:i64.wrap ((i:Int)+1)=(i:Int)+1:=ZF (by omega) (by omega)
     repeat first|refine cg ?_|simp -dsimp[h8,z10,↓e11,h12,h16,q17,w23]
     refine aG _ ?_ ((ih_f87 v14.2.f0 v14.2.f1 z5 z6 z7 (i+1) o hF) _ rfl _ hq)
     exact(gT (by simp) (by first|simp -dsimp[h8,z10,↓e11,h12,h16,q17,w23];done|simp_all))
   ·have w24:i64.wrap ((i:Int)+1)=(i:Int)+1:=ZF (by omega) (by omega)
    repeat first|refine cg ?_|simp -dsimp[h8,z10,↓e11,h12,q13,w24]
    refine aG _ ?_ ((ih_f87 z z4 z5 z6 z7 (i+1) o hF) _ rfl _ hq)
    exact(gT (by simp) (by first|simp -dsimp[h8,z10,↓e11,h12,q13,w24];done|simp_all))
  ·have z10:¬((i:Int)<(vars.length:Int)):=auz
   cases hF
   repeat first|refine cg ?_|simp -dsimp[h8,q9,z10]
   refine lG _ (gT (by simp) (by first|simp -dsimp[h8,q9,z10];done|simp_all)) hq
theorem C.f88 (r':ZB)(w:List Vl.Data)(t:Ty)(r:Clause×ZB)(hF:F.f88 r' w t=some r):MutCall Tryz.prog B 43 [am cU r'.f0,li r'.f1] [.ptr 0 0,am Vl.Data.c w,.agg [li t.data,li t.index]] (.agg [li r.1.pat.op,li r.1.pat.ctor,li r.1.pat.n,li r.1.pat.m,li r.1.pat.var,am Pattern.c r.1.pat.kids,li r.1.guard.op,li r.1.guard.var,li r.1.guard.n]) [am cU r.2.f0,li r.2.f1]:=by
 unfold F.f88 at hF
 refine MutCall.enter Tryz.func43 (by kernel_rfl) rfl Tryz.ntmps43 (by simp) (by simp) (by simp) (by simp) ?_
 repeat first|refine cg ?_|simp -dsimp
 have hF:=ob hF;obtain⟨v,e1,hF⟩:=hF
 refine((C.f86 B hB1 hB2 r' w t v e1)).go 0 rfl (by simp) (by simp) (by simp) ?_
 repeat first|refine cg ?_|simp -dsimp
 have hF:=ob hF;obtain⟨v2,e3,hF⟩:=hF
 refine ACall.nilArg 0 3 (by simp) ?_
 repeat first|refine cg ?_|simp -dsimp
 refine(((CC.f74 B hB1 hB2 w).1 [] t v.1 v2 e3)).go (pl [4]) (by simp) (by simp) (ZDC _ rfl (by decide)) (by intro i hi hi';simp at hi hi';first|omega|(subst hi';simp[pl])) (by simp) (by simp) ?_
 repeat first|refine cg ?_|simp -dsimp
 have hF:=ob hF;obtain⟨o',ho25,hF⟩:=hF
 refine ALoop.goU ⟨[(0,.ptr 0 0),(6,.ptr 2 0),(7,.ptr 3 0),(8,.arr (List.map VarType.c v2)),(9,.lit (.int .i64 0))],[.cells [.arr (List.map cU v.2.f0),.lit (.int .i64 v.2.f1)],.dead,.cells [.lit (.int .i64 0),.lit (.int .i64 0),.lit (.int .i64 0),.lit (.int .i64 0),.lit (.int .i64 0),.lit (.slice none 0 0),.lit (.int .i64 0),.lit (.int .i64 0),.lit (.int .i64 0)],.cells [.lit (.int .i64 v.1.op),.lit (.int .i64 v.1.ctor),.lit (.int .i64 v.1.n),.lit (.int .i64 v.1.m),.lit (.int .i64 v.1.var),.arr (List.map Pattern.c v.1.kids),.lit (.int .i64 0),.lit (.int .i64 0),.lit (.int .i64 0)],.dead]⟩ (by refine Gh.trans (Gh.frzSlot 8 (l:=4) (n:=List.length (α:=VarType) v2) (sz:=3) (es:=List.map VarType.c v2) (by simp) (by simp) (by simp) (by simp)) ?_;exact(gT (by simp) (by simp -dsimp))) ?_
 refine((CC.f87 B hB1 hB2 v v2) v.2.f0 v.2.f1 0 0 0 0 o' ho25) _ rfl _ ?_
 cases hF
 repeat first|refine cg ?_|simp -dsimp
 all_goals(try first|omega|rfl)
theorem CC.f89 (w:List Vl.Data)(t:Ty):(∀(z:List Int) (z2:Int) (out:List Clause) (i:Int) (o:(List Int)×Int×(List Clause)),F.f89 w t z z2 out i=some o->∀(c:Code),Zq [1,1,0,1,0,0] (ZJ Tryz.f20)=some c->∀(Q:Exit->ASt->Prop),(Q (.exit 0) ⟨[(7,.own 2 (List.length (α:=Clause) o.2.2))],[.cells [am cU o.1,li o.2.1],.dead,.elems 9 (List.map Clause.c o.2.2)]⟩)->ALoopU Tryz.prog B 1 25 (hold c .mk) ⟨[(0,.ptr 0 0),(1,am Vl.Data.c w),(5,.ptr 1 0),(7,.own 2 (List.length (α:=Clause) out)),(8,li i)],[.cells [am cU z,li z2],.cells [li t.data,li t.index],.elems 9 (List.map Clause.c out)]⟩ (hold Q .mk)):=by
 refine F.f89.partial_correctness w t
  _
  ?_
 ·intro _f_f89 ih_f89 z z2 out i o hF
  intro c hc Q hq
  obtain rfl:c=_:=ZQ hc rfl
  refine kN fun hk hs=> ?_
  have b1:=hk 1
  simp -dsimp at b1
  have d0:=hs 0 _ rfl
  simp -dsimp[Blk.bnd]at d0
  have d2:=hs 2 _ rfl
  simp -dsimp[Blk.bnd]at d2
  clear hk hs
  refine eN ?_
  repeat first|refine cg ?_|simp -dsimp
  revert hF;refine aS ?_ ?_<;>intro h3 q4 hF
  ·repeat first|refine cg ?_|simp -dsimp[h3]
   have hF:=ob hF;obtain⟨v5,e6,hF⟩:=hF
   refine((C.f88 B hB1 hB2 (⟨z,z2⟩:ZB) w t v5 e6)).go 0 rfl (by first|simp[h3];done|simp_all) (by simp) (by first|simp[h3];done|simp_all) ?_
   have hF:=oc hF;obtain⟨c7,hF⟩:=hF
   repeat first|refine cg ?_|simp -dsimp[h3]
   refine aG _ ?_ ((ih_f89 v5.2.f0 v5.2.f1 (out++[v5.1]) (i64.wrap (i-1)) o hF) _ rfl _ hq)
   exact(gT (by simp) (by first|simp -dsimp[h3];done|simp_all))
  ·cases hF
   repeat first|refine cg ?_|simp -dsimp[h3,q4]
   refine lG _ (gT (by simp) (by first|simp -dsimp[h3,q4];done|simp_all)) hq
theorem C.f90 (r':ZB)(w:List Vl.Data)(t:Ty)(r:(List Clause)×ZB)(hF:F.f90 r' w t=some r):MutCall Tryz.prog B 20 [am cU r'.f0,li r'.f1] [.ptr 0 0,am Vl.Data.c w,.agg [li t.data,li t.index]] (am Clause.c r.1) [am cU r.2.f0,li r.2.f1]:=by
 unfold F.f90 at hF
 refine MutCall.enter Tryz.func20 (by kernel_rfl) rfl Tryz.ntmps20 (by simp) (by simp) (by simp) (by simp) ?_
 repeat first|refine cg ?_|simp -dsimp
 have hF:=ob hF;obtain⟨v,e1,hF⟩:=hF
 refine ACall.frz ?_ ((C.f54 B hB1 hB2 r' [3,2,4,5,1,0] v e1)).ent
 repeat first|refine cg ?_|simp -dsimp
 refine((C.f54 B hB1 hB2 r' [3,2,4,5,1,0] v e1)).go 0 rfl (by simp) (by simp) (by simp) ?_
 repeat first|refine cg ?_|simp -dsimp
 have hF:=ob hF;obtain⟨o',ho8,hF⟩:=hF
 refine ALoop.goU _ ?_ (((CC.f89 B hB1 hB2 w t) v.2.f0 v.2.f1 [] v.1 o' ho8) _ rfl _ ?_)
 ·exact(gT (by simp) (by simp -dsimp))
 cases hF
 repeat first|refine cg ?_|simp -dsimp
 all_goals(try first|omega|rfl)
theorem C.f91 (r':ZB)(r:(List Vl.Data)×Ty×(List Clause)×Vl.Value×ZB)(hF:F.f91 r'=some r):MutCall Tryz.prog B 9 [am cU r'.f0,li r'.f1] [.ptr 0 0] (.tup [am Vl.Data.c r.1,.agg [li r.2.1.data,li r.2.1.index],am Clause.c r.2.2.1,.agg [li r.2.2.2.1.ctor,li r.2.2.2.1.n,am Vl.Value.c r.2.2.2.1.kids]]) [am cU r.2.2.2.2.f0,li r.2.2.2.2.f1]:=by
 unfold F.f91 at hF
 refine MutCall.enter Tryz.func9 (by kernel_rfl) rfl Tryz.ntmps9 (by simp) (by simp) (by simp) (by simp) ?_
 repeat first|refine cg ?_|simp -dsimp
 have hF:=ob hF;obtain⟨v,e1,hF⟩:=hF
 refine((C.f58 B hB1 hB2 r' v e1)).go 0 rfl (by simp) (by simp) (by simp) ?_
 repeat first|refine cg ?_|simp -dsimp
 refine ADraw.eff [20] [(0,1),(0,1),(0,0),(0,0),(0,0),(0,3),(0,2),(1,1),(0,3),(2,2),(0,3)] [1,2,1,1,1,1,2,1,1,1,1] follows (by kernel_rfl) (by kernel_rfl) (by kernel_rfl) ?_
 repeat first|refine cg ?_|simp -dsimp
 have hF:=ob hF;obtain⟨v2,e3,hF⟩:=hF
 refine((C.f90 B hB1 hB2 v.2.2.2 v.1 v.2.1 v2 e3)).ego 0 rfl (by simp) (by simp) (by simp) ?_
 cases hF
 repeat first|refine cg ?_|simp -dsimp
 all_goals(try first|omega|rfl)
theorem CC.spec_l1Copy__f_l2 (w:List Vl.Data)(out:List Vl.Data)(d:Nat)(x:Vl.Data):(∀(out7:List Ctor) (k:Nat) (o:List Ctor),F.f92 w out d x out7 k=some o->∀(R:List (List AV)),∀(U:List Value),∀(R8:List (List AV)),∀(U9:List Value),RW 2 (List.length (α:=Vl.Data) out) R U->RW 3 (List.length (α:=Ctor) out7) R8 U9->∀(c:Code),Zq [1,1,0,1,0,0,1,0,0,1,0,1,0,0] (ZJ Tryz.f21)=some c->∀(Q:Exit->ASt->Prop),(∀(Rq11:List (List AV)) (Uq12:List Value),RW 3 (List.length (α:=Ctor) o) Rq11 Uq12->Q (.exit 2) ⟨[(0,am Vl.Data.c w),(3,.own 2 (List.length (α:=Vl.Data) out)),(4,li (d:Int)),(5,.ptr 4 0)],[.pack [] [],.elems 0 [],.elems 2 R,.pack (List.flatten (List.map Vl.Data.c out)) U,.cells [.lit (.string x.name),.own 5 (List.length (α:=Ctor) o)],.elems 3 Rq11,.pack (List.flatten (List.map Ctor.c o)) Uq12]⟩)->ALoopU Tryz.prog B 0 55 (hold c .mk) ⟨[(0,am Vl.Data.c w),(3,.own 2 (List.length (α:=Vl.Data) out)),(4,li (d:Int)),(5,.ptr 4 0),(6,li (k:Int))],[.pack [] [],.elems 0 [],.elems 2 R,.pack (List.flatten (List.map Vl.Data.c out)) U,.cells [.lit (.string x.name),.own 5 (List.length (α:=Ctor) out7)],.elems 3 R8,.pack (List.flatten (List.map Ctor.c out7)) U9]⟩ (hold Q .mk)):=by
 refine F.f92.partial_correctness w out d x
  _
  ?_
 ·intro _f_spec_l1Copy__f_l2 ih_spec_l1Copy__f_l2 out7 k o hF
  intro R U R8 U9 H1 H10 c hc Q hq
  obtain rfl:c=_:=ZQ hc rfl
  refine kN fun hk hs=> ?_
  have b0:=hk 0
  simp -dsimp at b0
  have d2:=hs 2 _ rfl
  simp -dsimp[Blk.bnd]at d2
  have d5:=hs 5 _ rfl
  simp -dsimp[Blk.bnd]at d5
  clear hk hs
  refine eN ?_
  have hF:=ob hF;obtain⟨x14,e15,hF⟩:=hF
  have le15:=ZD e15
  repeat first|refine cg ?_|simp -dsimp[RW.len H1,RW.closed H1,RW.len H10,RW.closed H10,↓e15]
  revert hF;refine aS ?_ ?_<;>intro h16 q17 hF
  ·have z18:((k:Int)<(x14.ctors.length:Int)):=auz
   have hF:=ob hF;obtain⟨x19,e20,hF⟩:=hF
   have le20:=ZD e20
   have hF:=oc hF;obtain⟨c21,hF⟩:=hF
   have hF:=oc hF;obtain⟨c22,hF⟩:=hF
   have hF:=oc hF;obtain⟨c23,hF⟩:=hF
   have w24:i64.wrap ((k:Int)+1)=(k:Int)+1:=ZF (by omega) (by omega)
   repeat first|refine cg ?_|simp -dsimp[RW.len H1,RW.closed H1,RW.len H10,RW.closed H10,↓e15,h16,z18,↓e20,w24]
   refine Again.sealE 5 1 8 (R:=R8) (by exact rfl) rfl (by exact rfl) (Ty.lits_c _) (by simp) (by simp) (by decide) (fun u25 o_u25=> ?_)
   refine aG ⟨[(0,.arr (List.map Vl.Data.c w)),(3,.own 2 (List.length (α:=Vl.Data) out)),(4,.lit (.int .i64 (d:Int))),(5,.ptr 4 0),(6,.lit (.int .i64 ((k+1):Int)))],[.pack [] [],.elems 0 [],.elems 2 R,.pack (List.flatten (List.map Vl.Data.c out)) U,.cells [.lit (.string x.name),.own 5 (List.length (α:=Ctor) (out7++[x19]))],.elems 3 (R8++[[.lit (.string x19.name),.lit u25,.lit (.int .i64 x19.index)]]),.pack (List.flatten (List.map Ctor.c (out7++[x19]))) (U9++[.string x19.name,u25,.int .i64 x19.index])]⟩ (by refine Gh.trans (Gh.absorb 6 [10] (by exact rfl) (.lit (.string x19.name) (.pk 10 (by exact rfl) (.lit (.int .i64 x19.index) .nil))) (by decide)) ?_;exact(gT (by simp) (by first|simp -dsimp[RW.len H1,RW.closed H1,RW.len H10,RW.closed H10,↓e15,h16,z18,↓e20,w24];done|simp_all))) ?_
   exact(ih_spec_l1Copy__f_l2 (out7++[x19]) (k+1) o hF) R U (R8++[[.lit (.string x19.name),.lit u25,.lit (.int .i64 x19.index)]]) (U9++[.string x19.name,u25,.int .i64 x19.index]) H1 ((RW.snoc H10 [.string x19.name,u25,.int .i64 x19.index] rfl).cong (by simp) (by simp) rfl) _ rfl _ hq
  ·have z18:¬((k:Int)<(x14.ctors.length:Int)):=auz
   cases hF
   repeat first|refine cg ?_|simp -dsimp[RW.len H1,RW.closed H1,RW.len H10,RW.closed H10,↓e15,h16,q17,z18]
   refine lG ⟨[(0,.arr (List.map Vl.Data.c w)),(3,.own 2 (List.length (α:=Vl.Data) out)),(4,.lit (.int .i64 (d:Int))),(5,.ptr 4 0)],[.pack [] [],.elems 0 [],.elems 2 R,.pack (List.flatten (List.map Vl.Data.c out)) U,.cells [.lit (.string x.name),.own 5 (List.length (α:=Ctor) out7)],.elems 3 R8,.pack (List.flatten (List.map Ctor.c out7)) U9]⟩ (gT (by simp) (by first|simp -dsimp[RW.len H1,RW.closed H1,RW.len H10,RW.closed H10,↓e15,h16,q17,z18];done|simp_all)) ?_
   exact hq R8 U9 H10
theorem CC.spec_l1Copy__f_l1 (w:List Vl.Data):(∀(out:List Vl.Data) (d:Nat) (o:List Vl.Data),F.f93 w out d=some o->∀(R:List (List AV)),∀(U:List Value),RW 2 (List.length (α:=Vl.Data) out) R U->∀(c:Code),Zq [1,1,0,1,0,0] (ZJ Tryz.f21)=some c->∀(Q:Exit->ASt->Prop),(∀(Rq:List (List AV)) (Uq:List Value),RW 2 (List.length (α:=Vl.Data) o) Rq Uq->Q (.exit 0) ⟨[(3,.own 2 (List.length (α:=Vl.Data) o))],[.pack [] [],.elems 0 [],.elems 2 Rq,.pack (List.flatten (List.map Vl.Data.c o)) Uq]⟩)->ALoopU Tryz.prog B 0 55 (hold c .mk) ⟨[(0,am Vl.Data.c w),(3,.own 2 (List.length (α:=Vl.Data) out)),(4,li (d:Int))],[.pack [] [],.elems 0 [],.elems 2 R,.pack (List.flatten (List.map Vl.Data.c out)) U]⟩ (hold Q .mk)):=by
 refine F.f93.partial_correctness w
  _
  ?_
 ·intro _f_spec_l1Copy__f_l1 ih_spec_l1Copy__f_l1 out d o hF
  intro R U H1 c hc Q hq
  obtain rfl:c=_:=ZQ hc rfl
  refine kN fun hk hs=> ?_
  have b0:=hk 0
  simp -dsimp at b0
  have d2:=hs 2 _ rfl
  simp -dsimp[Blk.bnd]at d2
  clear hk hs
  refine eN ?_
  repeat first|refine cg ?_|simp -dsimp[RW.len H1,RW.closed H1]
  revert hF;refine aS ?_ ?_<;>intro h3 q4 hF
  ·have z5:((d:Int)<(w.length:Int)):=auz
   have hF:=ob hF;obtain⟨x,e6,hF⟩:=hF
   have le6:=ZD e6
   repeat first|refine cg ?_|simp -dsimp[RW.len H1,RW.closed H1,h3,z5,↓e6]
   have hF:=ob hF;obtain⟨o',ho26,hF⟩:=hF
   refine ALoop.goU ⟨[(0,.arr (List.map Vl.Data.c w)),(3,.own 2 (List.length (α:=Vl.Data) out)),(4,.lit (.int .i64 (d:Int))),(5,.ptr 4 0),(6,.lit (.int .i64 0))],[.pack [] [],.elems 0 [],.elems 2 R,.pack (List.flatten (List.map Vl.Data.c out)) U,.cells [.lit (.string x.name),.own 5 (List.length (α:=Ctor) [])],.elems 3 [],.pack (List.flatten (List.map Ctor.c [])) []]⟩ (by refine Gh.trans (Gh.nilCell 4 1 3 (by simp -dsimp;rfl) (by simp -dsimp)) ?_;refine Gh.trans (Gh.packZ .nil) ?_;exact(gT (by simp) (by first|simp -dsimp[RW.len H1,RW.closed H1,h3,z5,↓e6];done|simp_all))) ?_
   refine((CC.spec_l1Copy__f_l2 B hB1 hB2 w out d x) [] 0 o' ho26) R U [] [] H1 RW.nil _ rfl _ ?_
   intro Rq11 Uq12 Hq13
   have hF:=oc hF;obtain⟨c27,hF⟩:=hF
   have hF:=oc hF;obtain⟨c28,hF⟩:=hF
   have w29:i64.wrap ((d:Int)+1)=(d:Int)+1:=ZF (by omega) (by omega)
   repeat first|refine cg ?_|simp -dsimp[RW.len H1,RW.closed H1,RW.len Hq13,RW.closed Hq13,w29]
   refine Again.seal 2 1 5 [6] (R:=R) (es:=List.map Ctor.c o') (by exact rfl) rfl (by exact rfl) (.blk 6 (by exact rfl) .nil) (by simp) (by simp[Hq13.2.2]) (by simp[Hq13.1]) (by simp) (by simp) (by decide) (by decide) (fun u30 o_u30=> ?_)
   refine aG ⟨[(0,.arr (List.map Vl.Data.c w)),(3,.own 2 (List.length (α:=Vl.Data) (out++[(⟨x.name,o'⟩:Vl.Data)]))),(4,.lit (.int .i64 ((d+1):Int)))],[.pack [] [],.elems 0 [],.elems 2 (R++[[.lit (.string x.name),.lit u30]]),.pack (List.flatten (List.map Vl.Data.c (out++[(⟨x.name,o'⟩:Vl.Data)]))) (U++[.string x.name,u30])]⟩ (by refine Gh.trans (Gh.absorb 3 [8] (by exact rfl) (.lit (.string x.name) (.pk 8 (by exact rfl) .nil)) (by decide)) ?_;exact(gT (by simp) (by first|simp -dsimp[RW.len H1,RW.closed H1,RW.len Hq13,RW.closed Hq13,w29];done|simp_all))) ?_
   exact(ih_spec_l1Copy__f_l1 (out++[(⟨x.name,o'⟩:Vl.Data)]) (d+1) o hF) (R++[[.lit (.string x.name),.lit u30]]) (U++[.string x.name,u30]) ((RW.snoc H1 [.string x.name,u30] rfl).cong (by simp) (by simp) rfl) _ rfl _ hq
  ·have z5:¬((d:Int)<(w.length:Int)):=auz
   cases hF
   repeat first|refine cg ?_|simp -dsimp[RW.len H1,RW.closed H1,h3,q4,z5]
   refine lG ⟨[(3,.own 2 (List.length (α:=Vl.Data) out))],[.pack [] [],.elems 0 [],.elems 2 R,.pack (List.flatten (List.map Vl.Data.c out)) U]⟩ (gT (by simp) (by first|simp -dsimp[RW.len H1,RW.closed H1,h3,q4,z5];done|simp_all)) ?_
   exact hq R U H1
theorem C.spec_l1Copy__f (w:List Vl.Data)(r:List Vl.Data)(hF:F.f94 w=some r):FCall Tryz.prog B 21 [am Vl.Data.c w] (am Vl.Data.c r):=by
 unfold F.f94 at hF
 refine FCall.enterG Tryz.func21 (by kernel_rfl) rfl Tryz.ntmps21 (by simp) (Gh.trans (Gh.packZ .nil) Gh.keep) ?_
 repeat first|refine cg ?_|simp -dsimp
 have hF:=ob hF;obtain⟨o'32,ho31,hF⟩:=hF
 refine ALoop.goU ⟨[(0,.arr (List.map Vl.Data.c w)),(3,.own 2 (List.length (α:=Vl.Data) [])),(4,.lit (.int .i64 0))],[.pack [] [],.elems 0 [],.elems 2 [],.pack (List.flatten (List.map Vl.Data.c [])) []]⟩ (by refine Gh.trans (Gh.packZ .nil) ?_;exact(gT (by simp) (by simp -dsimp))) ?_
 refine((CC.spec_l1Copy__f_l1 B hB1 hB2 w) [] 0 o'32 ho31) [] [] RW.nil _ rfl _ ?_
 intro Rq Uq Hq2
 cases hF
 repeat first|refine cg ?_|simp -dsimp[RW.len Hq2,RW.closed Hq2]
 exact⟨_,by decide,(.cell (.ownP 2 _ 2 rfl (by simp) (.blk 3 rfl .nil) (by simp[Hq2.2.2]) (by simp[Hq2.1]) (by simp) (by simp) .nil) .nil:CT _ _ _ _)⟩
theorem C.f95 (r':ZB)(list:List ByteArray)(r:ByteArray×ZB)(hF:F.f95 r' list=some r):MutCall Tryz.prog B 23 [am cU r'.f0,li r'.f1] [.ptr 0 0,am cS list] (.lit (.string r.1)) [am cU r.2.f0,li r.2.f1]:=by
 unfold F.f95 at hF
 refine MutCall.enter Tryz.func23 (by kernel_rfl) rfl Tryz.ntmps23 (by simp) (by simp) (by simp) (by simp) ?_
 repeat first|refine cg ?_|simp -dsimp
 have hF:=ob hF;obtain⟨v,e1,hF⟩:=hF
 refine((C.f1 B hB1 hB2 r' (list.length:Int) v e1)).go 0 rfl (by simp) (by simp) (by simp) ?_
 have hF:=ob hF;obtain⟨x,e2a,hF⟩:=hF
 have e2a:=ZT e2a;obtain⟨ne2,e2⟩:=e2a
 have le2:=ZD e2
 cases hF
 repeat first|refine cg ?_|simp -dsimp[↓e2]
 all_goals(try first|omega|rfl)
theorem C.f96 (r':ZB)(w:List Vl.Data)(r:(List Vl.Data)×ZB)(hF:F.f96 r' w=some r):MutCall Tryz.prog B 10 [am cU r'.f0,li r'.f1] [.ptr 0 0,am Vl.Data.c w] (am Vl.Data.c r.1) [am cU r.2.f0,li r.2.f1]:=by
 unfold F.f96 at hF
 refine MutCall.enterL Tryz.func10 (by kernel_rfl) rfl Tryz.ntmps10 (by simp) (by simp) (by simp) (by simp) ?_
 have hF:=ob hF;obtain⟨v,e1,hF⟩:=hF
 have hF:=ob hF;obtain⟨v3,e2,hF⟩:=hF
 have hF:=ob hF;obtain⟨x,e3,hF⟩:=hF
 obtain⟨hd,e4⟩:=ZT e3
 have le4:=ZD e4
 have g1:∀e:List AV,((List.map Vl.Data.c v).set v3.1.toNat e)[v3.1.toNat]? =some e:=fun e=>List.getElem?_set_self (by simpa using le4)
 repeat first|refine cg ?_|simp -dsimp
 refine(C.spec_l1Copy__f B hB1 hB2 w v e1).goO (by simp) 2 (by simp) (fun h=>by simp at h;subst h;simp at e4) (fun hne rows us q1 q2 q3 q4=> ?_)
 repeat first|refine cg ?_|simp -dsimp
 refine ACall.stg ?_
 refine((C.f1 B hB1 hB2 r' (v.length:Int) v3 e2)).go 0 rfl (by simp) (by simp) (by simp) ?_
 have g4:∀y:Vl.Data,y=x->v.set v3.1.toNat y=v:=fun y hy=>by
  rw[hy];have:=(List.getElem?_eq_some_iff.1 e4).2;rw[←this];exact List.set_getElem_self _
 have g2:∀e:List AV,(((List.map Vl.Data.c v).set v3.1.toNat e)=[])=False:=fun e=>by
  simp;rintro rfl;simp at le4
 cases hc:x.ctors with
 |nil=>
  refine StgK.opn0 2 3 (rows:=rows) (us:=us) (D:=v) (by simp) (by simp) q1 (by simpa using q2) v3.1.toNat e4 hc (fun us2=> ?_)
  rw[if_pos (by rw[hc];rfl)]at hF
  cases hF
  repeat first|refine cg ?_|simp -dsimp[↓e4,le4,hc]
  refine lG _ (gR _) ?_
  repeat first|refine cg ?_|simp -dsimp
 |cons c cs=>
  refine StgK.opn 2 3 (rows:=rows) (us:=us) (D:=v) (by simp) (by simp) q1 (by simpa using q2) v3.1.toNat e4 hc (fun us3=> ?_)
  rw[if_neg (by rw[hc];simp)]at hF
  have hF:=ob hF;obtain⟨c',e6,hF⟩:=hF
  obtain rfl:c=c':=by rw[hc]at e6;simpa using e6
  have hF:=ob hF;obtain⟨v5,e7,hF⟩:=hF
  have hx:(⟨x.name,⟨c.name,c.args,c.index⟩::cs⟩:Vl.Data)=x:=by rw[show(⟨c.name,c.args,c.index⟩:Ctor)=c from rfl,←hc]
  have z0:((cs.length:Int)+1=0)=False:=eq_false (by omega)
  repeat first|refine cg ?_|simp -dsimp[↓g1,g2,z0]
  refine ACall.stg ?_
  refine((C.f1 B hB1 hB2 v3.2 30 v5 e7)).go 0 rfl (by simp) (by simp) (by simp) ?_
  by_cases hk:v5.1=2∨v5.1=3∨v5.1=4
  ·refine StgK.ghost _ (fun nb N fr=>gR _) ?_
   have k0:¬v5.1=0:=by omega
   have k1:¬v5.1=1:=by omega
   rw[if_neg k0,if_neg k1]at hF
   repeat first|refine cg ?_|simp -dsimp[k0,k1]
   revert hF;refine aS ?_ ?_<;>intro h8 q9 hF
   ·repeat first|refine cg ?_|simp -dsimp[h8]
    refine ADraw.eff [23] [(0,2),(0,2),(0,2),(0,2),(0,2),(0,1),(0,3),(0,3),(2,2),(2,2),(0,3)] [1,1,2,0,2,1,1,1,1,1,1] follows (by kernel_rfl) (by kernel_rfl) (by kernel_rfl) ?_
    repeat first|refine cg ?_|simp -dsimp[h8,↓g1,g2]
    have hF:=ob hF;obtain⟨v9,e14,hF⟩:=hF
    refine ECallA.frz ?_ ((C.f95 B hB1 hB2 v5.2 [ByteArray.empty,(⟨#[110,105,108]⟩:ByteArray),(⟨#[84,111,111,108,111,110,103]⟩:ByteArray),(⟨#[88]⟩:ByteArray)] v9 e14)).ent
    repeat first|refine cg ?_|simp -dsimp[↓g1,g2,h8]
    refine((C.f95 B hB1 hB2 v5.2 [ByteArray.empty,(⟨#[110,105,108]⟩:ByteArray),(⟨#[84,111,111,108,111,110,103]⟩:ByteArray),(⟨#[88]⟩:ByteArray)] v9 e14)).ego 0 rfl (by first|simp[↓g1,g2,h8];done|simp_all) (by simp) (by first|simp[↓g1,g2,h8];done|simp_all) ?_
    repeat first|refine cg ?_|simp -dsimp[↓g1,g2,h8]
    cases hF
    refine lG _ (Gh.clsCtor 2 4 6 (D:=v) (d:=v3.1.toNat) (nm0:=x.name) (nm:=v9.1) (ix:=c.index) (cs:=cs) (ats:=c.args) le4 (by simp) (by simp) (by simp) (by decide) (by decide) (by decide)) ?_
    repeat first|refine cg ?_|simp -dsimp[hc]
   ·repeat first|refine cg ?_|simp -dsimp[h8,q9]
    revert hF;refine aS ?_ ?_<;>intro h10 q11 hF
    ·repeat first|refine cg ?_|simp -dsimp[h8,q9,h10]
     refine ADraw.opn ?_
     refine ADraw.split [] [(14,17)] [(17,14)] 14 17 rfl rfl (by kernel_rfl) ?_ ?_
     ·refine ADraw.split [(14,17)] [(14,17),(15,17)] [(14,17),(17,15)] 15 17 rfl rfl (by kernel_rfl) ?_ ?_
      ·refine ADraw.effP [(14,17),(15,17)] [0,1,2,3,4,5,6,7,8,9,10,11,12,13,14,15,16,17,18,19,20,21,22,23,24] [24] [(0,6),(0,6),(0,6),(0,6),(0,6),(0,5),(0,5),(0,5),(0,5),(0,5),(0,5),(0,5),(0,5),(0,1),(0,7),(0,7),(0,3),(0,7),(0,7),(4,4),(0,7),(0,7),(6,6),(6,6),(0,7)] [1,1,2,0,2,1,1,2,0,2,2,0,2,1,1,1,1,1,1,1,1,1,1,1,1] follows (by kernel_rfl) (by kernel_rfl) (by kernel_rfl) (by kernel_rfl) ?_
       have hF:=ob hF;obtain⟨v11,e15,hF⟩:=hF
       have hF:=ob hF;obtain⟨v13,e16,hF⟩:=hF
       have hF:=oc hF;obtain⟨c17,hF⟩:=hF
       cases hF
       repeat first|refine cg ?_|simp -dsimp[h10,↓g1,g2]
       refine ECallA.frz ?_ ((C.f54 B hB1 hB2 v5.2 [9,(-2),0,(-1)] v11 e15)).ent
       repeat first|refine cg ?_|simp -dsimp[↓g1,g2,h10]
       refine((C.f54 B hB1 hB2 v5.2 [9,(-2),0,(-1)] v11 e15)).ego 0 rfl (by first|simp[↓g1,g2,h10];done|simp_all) (by simp) (by first|simp[↓g1,g2,h10];done|simp_all) ?_
       repeat first|refine cg ?_|simp -dsimp[↓g1,g2,h10]
       refine ECallA.frz ?_ ((C.f54 B hB1 hB2 v11.2 [0,4,(-1),(-2)] v13 e16)).ent
       repeat first|refine cg ?_|simp -dsimp[↓g1,g2,h10]
       refine((C.f54 B hB1 hB2 v11.2 [0,4,(-1),(-2)] v13 e16)).ego 0 rfl (by first|simp[↓g1,g2,h10];done|simp_all) (by simp) (by first|simp[↓g1,g2,h10];done|simp_all) ?_
       repeat first|refine cg ?_|simp -dsimp[↓g1,g2,h10]
       refine lG _ (Gh.clsCtor 2 4 6 (D:=v) (d:=v3.1.toNat) (nm0:=x.name) (nm:=c.name) (ix:=c.index) (cs:=cs) (ats:=c.args++[⟨v11.1,v13.1⟩]) le4 (by simp) (by simp) (by simp) (by decide) (by decide) (by decide)) ?_
       repeat first|refine cg ?_|simp -dsimp[hc]
      ·refine ADraw.effP [(14,17),(17,15)] [0,1,2,3,4,5,6,7,8,9,10,11,12,13,14,16,17,15,18,19,20,21,22,23,24] [24] [(0,6),(0,6),(0,6),(0,6),(0,6),(0,5),(0,5),(0,5),(0,5),(0,5),(0,5),(0,5),(0,5),(0,2),(0,7),(0,3),(0,7),(0,7),(0,7),(4,4),(0,7),(0,7),(6,6),(6,6),(0,7)] [1,1,2,0,2,1,1,2,0,2,2,0,2,1,1,1,1,1,1,1,1,1,1,1,1] follows (by kernel_rfl) (by kernel_rfl) (by kernel_rfl) (by kernel_rfl) ?_
       have hF:=ob hF;obtain⟨v11,e15,hF⟩:=hF
       have hF:=ob hF;obtain⟨v13,e16,hF⟩:=hF
       have hF:=oc hF;obtain⟨c17,hF⟩:=hF
       cases hF
       repeat first|refine cg ?_|simp -dsimp[h10,↓g1,g2]
       refine ECallA.frz ?_ ((C.f54 B hB1 hB2 v5.2 [9,(-2),0,(-1)] v11 e15)).ent
       repeat first|refine cg ?_|simp -dsimp[↓g1,g2,h10]
       refine((C.f54 B hB1 hB2 v5.2 [9,(-2),0,(-1)] v11 e15)).ego 0 rfl (by first|simp[↓g1,g2,h10];done|simp_all) (by simp) (by first|simp[↓g1,g2,h10];done|simp_all) ?_
       repeat first|refine cg ?_|simp -dsimp[↓g1,g2,h10]
       refine ECallA.frz ?_ ((C.f54 B hB1 hB2 v11.2 [0,4,(-1),(-2)] v13 e16)).ent
       repeat first|refine cg ?_|simp -dsimp[↓g1,g2,h10]
       refine((C.f54 B hB1 hB2 v11.2 [0,4,(-1),(-2)] v13 e16)).ego 0 rfl (by first|simp[↓g1,g2,h10];done|simp_all) (by simp) (by first|simp[↓g1,g2,h10];done|simp_all) ?_
       repeat first|refine cg ?_|simp -dsimp[↓g1,g2,h10]
       refine lG _ (Gh.clsCtor 2 4 6 (D:=v) (d:=v3.1.toNat) (nm0:=x.name) (nm:=c.name) (ix:=c.index) (cs:=cs) (ats:=c.args++[⟨v11.1,v13.1⟩]) le4 (by simp) (by simp) (by simp) (by decide) (by decide) (by decide)) ?_
       repeat first|refine cg ?_|simp -dsimp[hc]
     ·refine ADraw.effP [(17,14)] [0,1,2,3,4,5,6,7,8,9,10,11,12,13,16,17,14,15,18,19,20,21,22,23,24] [24] [(0,6),(0,6),(0,6),(0,6),(0,6),(0,5),(0,5),(0,5),(0,5),(0,5),(0,5),(0,5),(0,5),(0,2),(0,3),(0,7),(0,7),(0,7),(0,7),(4,4),(0,7),(0,7),(6,6),(6,6),(0,7)] [1,1,2,0,2,1,1,2,0,2,2,0,2,1,1,1,1,1,1,1,1,1,1,1,1] follows (by kernel_rfl) (by kernel_rfl) (by kernel_rfl) (by kernel_rfl) ?_
      have hF:=ob hF;obtain⟨v11,e15,hF⟩:=hF
      have hF:=ob hF;obtain⟨v13,e16,hF⟩:=hF
      have hF:=oc hF;obtain⟨c17,hF⟩:=hF
      cases hF
      repeat first|refine cg ?_|simp -dsimp[h10,↓g1,g2]
      refine ECallA.frz ?_ ((C.f54 B hB1 hB2 v5.2 [9,(-2),0,(-1)] v11 e15)).ent
      repeat first|refine cg ?_|simp -dsimp[↓g1,g2,h10]
      refine((C.f54 B hB1 hB2 v5.2 [9,(-2),0,(-1)] v11 e15)).ego 0 rfl (by first|simp[↓g1,g2,h10];done|simp_all) (by simp) (by first|simp[↓g1,g2,h10];done|simp_all) ?_
      repeat first|refine cg ?_|simp -dsimp[↓g1,g2,h10]
      refine ECallA.frz ?_ ((C.f54 B hB1 hB2 v11.2 [0,4,(-1),(-2)] v13 e16)).ent
      repeat first|refine cg ?_|simp -dsimp[↓g1,g2,h10]
      refine((C.f54 B hB1 hB2 v11.2 [0,4,(-1),(-2)] v13 e16)).ego 0 rfl (by first|simp[↓g1,g2,h10];done|simp_all) (by simp) (by first|simp[↓g1,g2,h10];done|simp_all) ?_
      repeat first|refine cg ?_|simp -dsimp[↓g1,g2,h10]
      refine lG _ (Gh.clsCtor 2 4 6 (D:=v) (d:=v3.1.toNat) (nm0:=x.name) (nm:=c.name) (ix:=c.index) (cs:=cs) (ats:=c.args++[⟨v11.1,v13.1⟩]) le4 (by simp) (by simp) (by simp) (by decide) (by decide) (by decide)) ?_
      repeat first|refine cg ?_|simp -dsimp[hc]
    ·have k4:v5.1=4:=by omega
     rw[if_pos k4]at hF
     repeat first|refine cg ?_|simp -dsimp[h8,q9,h10,q11,k4]
     refine ADraw.eff [24] [(0,2),(0,2),(0,2),(0,2),(0,2),(0,1),(0,3),(0,3),(2,2),(2,2),(0,3)] [1,1,2,0,2,1,1,1,1,1,1] follows (by kernel_rfl) (by kernel_rfl) (by kernel_rfl) ?_
     repeat first|refine cg ?_|simp -dsimp[h10,k4,↓g1,g2]
     have hF:=ob hF;obtain⟨v15,e18,hF⟩:=hF
     refine ECallA.frz ?_ ((C.f54 B hB1 hB2 v5.2 [4,(-1),1] v15 e18)).ent
     repeat first|refine cg ?_|simp -dsimp[↓g1,g2,h10,k4]
     refine((C.f54 B hB1 hB2 v5.2 [4,(-1),1] v15 e18)).ego 0 rfl (by first|simp[↓g1,g2,h10,k4];done|simp_all) (by simp) (by first|simp[↓g1,g2,h10,k4];done|simp_all) ?_
     repeat first|refine cg ?_|simp -dsimp[↓g1,g2,h10,k4]
     cases hF
     refine lG _ (Gh.clsCtor 2 4 6 (D:=v) (d:=v3.1.toNat) (nm0:=x.name) (nm:=c.name) (ix:=v15.1) (cs:=cs) (ats:=c.args) le4 (by simp) (by simp) (by simp) (by decide) (by decide) (by decide)) ?_
     repeat first|refine cg ?_|simp -dsimp[hc]
  ·refine StgK.ghost _ (fun nb N fr=>Gh.clsCtor 2 4 6 (D:=v) (d:=v3.1.toNat) (nm0:=x.name) (nm:=c.name) (ix:=c.index) (cs:=cs) (ats:=c.args) le4 (by simp) (by simp) (by simp) (by decide) (by decide) (by decide)) ?_
   rw[g4 _ hx]
   have k2:¬v5.1=2:=by omega
   have k3:¬v5.1=3:=by omega
   have k4:¬v5.1=4:=by omega
   rw[if_neg k2,if_neg k3,if_neg k4]at hF
   repeat first|refine cg ?_|simp -dsimp
   revert hF;refine aS ?_ ?_<;>intro h8 q9 hF
   ·have hF:=ob hF;obtain⟨v7,e14,hF⟩:=hF
    repeat first|refine cg ?_|simp -dsimp[h8]
    refine ACall.frz ?_ ((C.f95 B hB1 hB2 v5.2 [(⟨#[73]⟩:ByteArray),ByteArray.empty,(⟨#[97]⟩:ByteArray),(⟨#[76,76]⟩:ByteArray),(⟨#[90]⟩:ByteArray)] v7 e14)).ent
    repeat first|refine cg ?_|simp -dsimp[h8]
    refine((C.f95 B hB1 hB2 v5.2 [(⟨#[73]⟩:ByteArray),ByteArray.empty,(⟨#[97]⟩:ByteArray),(⟨#[76,76]⟩:ByteArray),(⟨#[90]⟩:ByteArray)] v7 e14)).go 0 rfl (by first|simp[h8];done|simp_all) (by simp) (by first|simp[h8];done|simp_all) ?_
    cases hF
    repeat first|refine cg ?_|simp -dsimp[h8,↓e4,le4]
    refine lG _ (gR _) ?_
    repeat first|refine cg ?_|simp -dsimp[List.map_set]
   ·repeat first|refine cg ?_|simp -dsimp[h8,q9]
    revert hF;refine aS ?_ ?_<;>intro h10 q11 hF
    ·cases hF
     repeat first|refine cg ?_|simp -dsimp[h8,q9,h10,↓e4,le4]
     refine lG _ (Gh.frzElem 2 v3.1.toNat 1 (sz:=2) (l2:=8) (n:=0) (es2:=[]) (sz2:=3) (es:=(List.map Vl.Data.c v).set v3.1.toNat [.lit (.string x.name),.own 8 0]) (e:=[.lit (.string x.name),.own 8 0]) (by simp) (g1 _) rfl (by simp) (by decide) rfl (by intro e he;cases he)) ?_
     repeat first|refine cg ?_|simp -dsimp[List.map_set]
    ·repeat first|refine cg ?_|simp -dsimp[h8,q9,h10,q11,k2,k3,k4]
     revert hF;refine aS ?_ ?_<;>intro h12 q13 hF
     ·have hF:=oc hF;obtain⟨c14,hF⟩:=hF
      cases hF
      repeat first|refine cg ?_|simp -dsimp[h8,h10,h12,↓e4,le4]
      refine lG _ (gR _) ?_
      repeat first|refine cg ?_|simp -dsimp
     ·cases hF
      repeat first|refine cg ?_|simp -dsimp[h8,h10,h12,q13]
      refine lG _ (gR _) ?_
      repeat first|refine cg ?_|simp -dsimp
theorem C.f97 (r':ZB)(p:Pattern)(r:Pattern×ZB)(hF:F.f97 r' p=some r):MutCall Tryz.prog B 25 [am cU r'.f0,li r'.f1] [.ptr 0 0,.agg [li p.op,li p.ctor,li p.n,li p.m,li p.var,am Pattern.c p.kids]] (.agg [li r.1.op,li r.1.ctor,li r.1.n,li r.1.m,li r.1.var,am Pattern.c r.1.kids]) [am cU r.2.f0,li r.2.f1]:=by
 unfold F.f97 at hF
 refine MutCall.enter Tryz.func25 (by kernel_rfl) rfl Tryz.ntmps25 (by simp) (by simp) (by simp) (by simp) ?_
 have hF:=oc hF;obtain⟨c1,hF⟩:=hF
 repeat first|refine cg ?_|simp -dsimp
 have hF:=ob hF;obtain⟨v,e2,hF⟩:=hF
 refine((C.f1 B hB1 hB2 r' 30 v e2)).go 0 rfl (by simp) (by simp) (by simp) ?_
 repeat first|refine cg ?_|simp -dsimp
 revert hF;refine aS ?_ ?_<;>intro h3 q4 hF
 ·repeat first|refine cg ?_|simp -dsimp[h3]
  have hF:=ob hF;obtain⟨v5,e6,hF⟩:=hF
  refine ACall.frz ?_ ((C.f54 B hB1 hB2 v.2 [0,7,1,2,5] v5 e6)).ent
  repeat first|refine cg ?_|simp -dsimp[h3]
  refine((C.f54 B hB1 hB2 v.2 [0,7,1,2,5] v5 e6)).go 0 rfl (by first|simp[h3];done|simp_all) (by simp) (by first|simp[h3];done|simp_all) ?_
  cases hF
  repeat first|refine cg ?_|simp -dsimp[h3]
  all_goals(try first|omega|rfl)
 ·repeat first|refine cg ?_|simp -dsimp[h3,q4]
  revert hF;refine aS ?_ ?_<;>intro h7 q8 hF
  ·repeat first|refine cg ?_|simp -dsimp[h3,q4,h7]
   have hF:=ob hF;obtain⟨v9,e10,hF⟩:=hF
   refine ACall.frz ?_ ((C.f54 B hB1 hB2 v.2 [6,(-1),1] v9 e10)).ent
   repeat first|refine cg ?_|simp -dsimp[h3,q4,h7]
   refine((C.f54 B hB1 hB2 v.2 [6,(-1),1] v9 e10)).go 0 rfl (by first|simp[h3,q4,h7];done|simp_all) (by simp) (by first|simp[h3,q4,h7];done|simp_all) ?_
   cases hF
   repeat first|refine cg ?_|simp -dsimp[h3,q4,h7]
   all_goals(try first|omega|rfl)
  ·repeat first|refine cg ?_|simp -dsimp[h3,q4,h7,q8]
   revert hF;refine aS ?_ ?_<;>intro h11 q12 hF
   ·repeat first|refine cg ?_|simp -dsimp[h3,q4,h7,q8,h11]
    have hF:=ob hF;obtain⟨v13,e14,hF⟩:=hF
    refine ACall.frz ?_ ((C.f54 B hB1 hB2 v.2 [9,(-1),1] v13 e14)).ent
    repeat first|refine cg ?_|simp -dsimp[h3,q4,h7,q8,h11]
    refine((C.f54 B hB1 hB2 v.2 [9,(-1),1] v13 e14)).go 0 rfl (by first|simp[h3,q4,h7,q8,h11];done|simp_all) (by simp) (by first|simp[h3,q4,h7,q8,h11];done|simp_all) ?_
    cases hF
    repeat first|refine cg ?_|simp -dsimp[h3,q4,h7,q8,h11]
    all_goals(try first|omega|rfl)
   ·repeat first|refine cg ?_|simp -dsimp[h3,q4,h7,q8,h11,q12]
    revert hF;refine aS ?_ ?_<;>intro h15 q16 hF
    ·have hF:=oc hF;obtain⟨c17,hF⟩:=hF
     cases hF
     repeat first|refine cg ?_|simp -dsimp[h3,q4,h7,q8,h11,q12,h15]
     all_goals(try first|omega|rfl)
    ·repeat first|refine cg ?_|simp -dsimp[h3,q4,h7,q8,h11,q12,h15,q16]
     revert hF;refine aS ?_ ?_<;>intro h18 q19 hF
     ·repeat first|refine cg ?_|simp -dsimp[h3,q4,h7,q8,h11,q12,h15,q16,h18]
      revert hF;refine aS ?_ ?_<;>intro h20 q21 hF
      ·have z22:(0<(p.kids.length:Int)):=auz
       have hF:=ob hF;obtain⟨x,e23,hF⟩:=hF
       have le23:=ZD e23
       cases hF
       repeat first|refine cg ?_|simp -dsimp[h3,q4,h7,q8,h11,q12,h15,q16,h18,h20,z22,↓e23]
       all_goals(try first|omega|rfl)
      ·have z22:¬(0<(p.kids.length:Int)):=auz
       cases hF
       repeat first|refine cg ?_|simp -dsimp[h3,q4,h7,q8,h11,q12,h15,q16,h18,h20,q21,z22]
       all_goals(try first|omega|rfl)
     ·repeat first|refine cg ?_|simp -dsimp[h3,q4,h7,q8,h11,q12,h15,q16,h18,q19]
      revert hF;refine aS ?_ ?_<;>intro h24 q25 hF
      ·repeat first|refine cg ?_|simp -dsimp[h3,q4,h7,q8,h11,q12,h15,q16,h18,q19,h24]
       have hF:=ob hF;obtain⟨v26,e27,hF⟩:=hF
       refine ACall.frz ?_ ((C.f54 B hB1 hB2 v.2 [10,(-1),5] v26 e27)).ent
       repeat first|refine cg ?_|simp -dsimp[h3,q4,h7,q8,h11,q12,h15,q16,h18,q19,h24]
       refine((C.f54 B hB1 hB2 v.2 [10,(-1),5] v26 e27)).go 0 rfl (by first|simp[h3,q4,h7,q8,h11,q12,h15,q16,h18,q19,h24];done|simp_all) (by simp) (by first|simp[h3,q4,h7,q8,h11,q12,h15,q16,h18,q19,h24];done|simp_all) ?_
       cases hF
       repeat first|refine cg ?_|simp -dsimp[h3,q4,h7,q8,h11,q12,h15,q16,h18,q19,h24]
       all_goals(try first|omega|rfl)
      ·cases hF
       repeat first|refine cg ?_|simp -dsimp[h3,q4,h7,q8,h11,q12,h15,q16,h18,q19,h24,q25]
       all_goals(try first|omega|rfl)
theorem CC.f98 (v:Int×ZB):(∀(out:List Clause) (o:List Clause),F.f98 v out=some o->∀(c:Code),Zq [1,1,0,1,0,1,1,1,1,1,0,0,0] (ZJ Tryz.f11)=some c->∀(Q:Exit->ASt->Prop),(Q (.exit 1) ⟨[(5,.own 1 (List.length (α:=Clause) o))],[.cells [am cU v.2.f0,li v.2.f1],.elems 9 (List.map Clause.c o)]⟩)->ALoopU Tryz.prog B 1 56 (hold c .mk) ⟨[(5,.own 1 (List.length (α:=Clause) out))],[.cells [am cU v.2.f0,li v.2.f1],.elems 9 (List.map Clause.c out)]⟩ (hold Q .mk)):=by
 refine F.f98.partial_correctness v
  _
  ?_
 ·intro _f_f98 ih_f98 out o hF
  intro c hc Q hq
  obtain rfl:c=_:=ZQ hc rfl
  refine kN fun hk hs=> ?_
  have d0:=hs 0 _ rfl
  simp -dsimp[Blk.bnd]at d0
  have d1:=hs 1 _ rfl
  simp -dsimp[Blk.bnd]at d1
  clear hk hs
  refine eN ?_
  repeat first|refine cg ?_|simp -dsimp
  revert hF;refine aS ?_ ?_<;>intro h28 q29 hF
  ·have z30:((out.length:Int)<=8):=auz
   have hF:=oc hF;obtain⟨c31,hF⟩:=hF
   repeat first|refine cg ?_|simp -dsimp[h28,z30]
   refine aG _ ?_ ((ih_f98 (out++[(⟨(⟨1,0,0,0,0,[]⟩:Pattern),(⟨0,0,0⟩:Guard)⟩:Clause)]) o hF) _ rfl _ hq)
   exact(gT (by simp) (by first|simp -dsimp[h28,z30];done|simp_all))
  ·have z30:¬((out.length:Int)<=8):=auz
   cases hF
   repeat first|refine cg ?_|simp -dsimp[h28,q29,z30]
   refine lG _ (gT (by simp) (by first|simp -dsimp[h28,q29,z30];done|simp_all)) hq
theorem C.f99 (r':ZB)(list:List Clause)(r:(List Clause)×ZB)(hF:F.f99 r' list=some r):MutCall Tryz.prog B 11 [am cU r'.f0,li r'.f1] [.ptr 0 0,am Clause.c list] (am Clause.c r.1) [am cU r.2.f0,li r.2.f1]:=by
 unfold F.f99 at hF
 refine MutCall.enter Tryz.func11 (by kernel_rfl) rfl Tryz.ntmps11 (by simp) (by simp) (by simp) (by simp) ?_
 have hF:=oc hF;obtain⟨c1,hF⟩:=hF
 repeat first|refine cg ?_|simp -dsimp
 have hF:=ob hF;obtain⟨v,e2,hF⟩:=hF
 refine((C.f1 B hB1 hB2 r' 24 v e2)).go 0 rfl (by simp) (by simp) (by simp) ?_
 repeat first|refine cg ?_|simp -dsimp
 revert hF;refine aS ?_ ?_<;>intro h3 q4 hF
 ·repeat first|refine cg ?_|simp -dsimp[h3]
  revert hF;refine aS ?_ ?_<;>intro h5 q6 hF
  ·have z7:(0<(list.length:Int)):=auz
   repeat first|refine cg ?_|simp -dsimp[h3,h5,z7]
   have hF:=ob hF;obtain⟨v8,e9,hF⟩:=hF
   refine ACall.frz ?_ ((C.f54 B hB1 hB2 v.2 [1,2,3,(-1)] v8 e9)).ent
   repeat first|refine cg ?_|simp -dsimp[h3,h5,z7]
   refine((C.f54 B hB1 hB2 v.2 [1,2,3,(-1)] v8 e9)).go 0 rfl (by first|simp[h3,h5,z7];done|simp_all) (by simp) (by first|simp[h3,h5,z7];done|simp_all) ?_
   repeat first|refine cg ?_|simp -dsimp[h3,h5,z7]
   have hF:=ob hF;obtain⟨v10,e11,hF⟩:=hF
   refine ACall.frz ?_ ((C.f54 B hB1 hB2 v8.2 [0,5,9] v10 e11)).ent
   repeat first|refine cg ?_|simp -dsimp[h3,h5,z7]
   refine((C.f54 B hB1 hB2 v8.2 [0,5,9] v10 e11)).go 0 rfl (by first|simp[h3,h5,z7];done|simp_all) (by simp) (by first|simp[h3,h5,z7];done|simp_all) ?_
   repeat first|refine cg ?_|simp -dsimp[h3,h5,z7]
   have hF:=ob hF;obtain⟨v12,e13,hF⟩:=hF
   refine ACall.frz ?_ ((C.f54 B hB1 hB2 v10.2 [3,10,(-1)] v12 e13)).ent
   repeat first|refine cg ?_|simp -dsimp[h3,h5,z7]
   refine((C.f54 B hB1 hB2 v10.2 [3,10,(-1)] v12 e13)).go 0 rfl (by first|simp[h3,h5,z7];done|simp_all) (by simp) (by first|simp[h3,h5,z7];done|simp_all) ?_
   have hF:=ob hF;obtain⟨x,e14,hF⟩:=hF
   have le14:=ZD e14
   cases hF
   repeat first|refine cg ?_|simp -dsimp[h3,h5,z7,↓e14]
   all_goals(try first|omega|rfl)
  ·have z7:¬(0<(list.length:Int)):=auz
   cases hF
   repeat first|refine cg ?_|simp -dsimp[h3,h5,q6,z7]
   all_goals(try first|omega|rfl)
 ·repeat first|refine cg ?_|simp -dsimp[h3,q4]
  revert hF;refine aS ?_ ?_<;>intro h15 q16 hF
  ·repeat first|refine cg ?_|simp -dsimp[h3,q4,h15]
   revert hF;refine aS ?_ ?_<;>intro h17 q18 hF
   ·have z19:(0<(list.length:Int)):=auz
    have hF:=ob hF;obtain⟨x20,e21,hF⟩:=hF
    have le21:=ZD e21
    repeat first|refine cg ?_|simp -dsimp[h3,q4,h15,h17,z19,↓e21]
    have hF:=ob hF;obtain⟨v22,e23,hF⟩:=hF
    refine((C.f97 B hB1 hB2 v.2 x20.pat v22 e23)).go 0 rfl (by first|simp[h3,q4,h15,h17,z19,↓e21];done|simp_all) (by simp) (by first|simp[h3,q4,h15,h17,z19,↓e21];done|simp_all) ?_
    repeat first|refine cg ?_|simp -dsimp[h3,q4,h15,h17,z19,↓e21]
    have hF:=ob hF;obtain⟨v24,e25,hF⟩:=hF
    refine((C.f97 B hB1 hB2 v22.2 v22.1 v24 e25)).go 0 rfl (by first|simp[h3,q4,h15,h17,z19,↓e21];done|simp_all) (by simp) (by first|simp[h3,q4,h15,h17,z19,↓e21];done|simp_all) ?_
    cases hF
    repeat first|refine cg ?_|simp -dsimp[h3,q4,h15,h17,z19,↓e21]
    all_goals(try first|omega|rfl)
   ·have z19:¬(0<(list.length:Int)):=auz
    cases hF
    repeat first|refine cg ?_|simp -dsimp[h3,q4,h15,h17,q18,z19]
    all_goals(try first|omega|rfl)
  ·repeat first|refine cg ?_|simp -dsimp[h3,q4,h15,q16]
   revert hF;refine aS ?_ ?_<;>intro h26 q27 hF
   ·repeat first|refine cg ?_|simp -dsimp[h3,q4,h15,q16,h26]
    have hF:=ob hF;obtain⟨o',ho32,hF⟩:=hF
    refine ALoop.goU _ ?_ (((CC.f98 B hB1 hB2 v) list o' ho32) _ rfl _ ?_)
    ·exact(gT (by simp) (by first|simp -dsimp[h3,q4,h15,q16,h26];done|simp_all))
    cases hF
    repeat first|refine cg ?_|simp -dsimp
    all_goals(try first|omega|rfl)
   ·cases hF
    repeat first|refine cg ?_|simp -dsimp[h3,q4,h15,q16,h26,q27]
    all_goals(try first|omega|rfl)
theorem C.f100 (code:List Int)(r:(List Vl.Data)×Ty×(List Clause))(hF:F.f100 code=some r):PureCall Tryz.prog B 4 [am cU code] (.tup [am Vl.Data.c r.1,.agg [li r.2.1.data,li r.2.1.index],am Clause.c r.2.2]):=by
 unfold F.f100 at hF
 refine pE Tryz.func4 (by kernel_rfl) rfl Tryz.ntmps4 (by simp) (by simp) ?_
 repeat first|refine cg ?_|simp -dsimp
 refine ACall.inl Tryz.func8 (by kernel_rfl) rfl Tryz.ntmps8 (by simp) ?_
 repeat first|refine cg ?_|simp -dsimp
 revert hF;refine aS ?_ ?_<;>intro h1 q2 hF
 ·have z3:(2000<(code.length:Int)):=auz
  have hF:=oc hF;obtain⟨c4,hF⟩:=hF
  repeat first|refine cg ?_|simp -dsimp[h1,z3]
  have hF:=ob hF;obtain⟨v,e5,hF⟩:=hF
  refine((C.f91 B hB1 hB2 (⟨(code.drop 0).take (2000-0),0⟩:ZB) v e5)).go 1 rfl (by first|simp[h1,z3];done|simp_all) (by simp) (by first|simp[h1,z3];done|simp_all) ?_
  repeat first|refine cg ?_|simp -dsimp[h1,z3]
  refine ADraw.eff [10,11] [(0,0),(0,0),(0,3),(0,2),(0,1),(0,1),(0,3),(2,2),(0,3),(3,3)] [1,1,1,2,1,1,1,1,1,1] follows (by kernel_rfl) (by kernel_rfl) (by kernel_rfl) ?_
  repeat first|refine cg ?_|simp -dsimp[h1,z3]
  have hF:=ob hF;obtain⟨v6,e7,hF⟩:=hF
  refine((C.f96 B hB1 hB2 v.2.2.2.2 v.1 v6 e7)).ego 1 rfl (by first|simp[h1,z3];done|simp_all) (by simp) (by first|simp[h1,z3];done|simp_all) ?_
  repeat first|refine cg ?_|simp -dsimp[h1,z3]
  have hF:=ob hF;obtain⟨v8,e9,hF⟩:=hF
  refine((C.f99 B hB1 hB2 v6.2 v.2.2.1 v8 e9)).ego 1 rfl (by first|simp[h1,z3];done|simp_all) (by simp) (by first|simp[h1,z3];done|simp_all) ?_
  cases hF
  repeat first|refine cg ?_|simp -dsimp[h1,z3]
  all_goals(try first|omega|rfl)
 ·have z3:¬(2000<(code.length:Int)):=auz
  repeat first|refine cg ?_|simp -dsimp[h1,q2,z3]
  have hF:=ob hF;obtain⟨v10,e11,hF⟩:=hF
  refine((C.f91 B hB1 hB2 (⟨code,0⟩:ZB) v10 e11)).go 1 rfl (by first|simp[h1,q2,z3];done|simp_all) (by simp) (by first|simp[h1,q2,z3];done|simp_all) ?_
  repeat first|refine cg ?_|simp -dsimp[h1,q2,z3]
  refine ADraw.eff [10,11] [(0,0),(0,0),(0,3),(0,2),(0,1),(0,1),(0,3),(2,2),(0,3),(3,3)] [1,1,1,2,1,1,1,1,1,1] follows (by kernel_rfl) (by kernel_rfl) (by kernel_rfl) ?_
  repeat first|refine cg ?_|simp -dsimp[h1,q2,z3]
  have hF:=ob hF;obtain⟨v12,e13,hF⟩:=hF
  refine((C.f96 B hB1 hB2 v10.2.2.2.2 v10.1 v12 e13)).ego 1 rfl (by first|simp[h1,q2,z3];done|simp_all) (by simp) (by first|simp[h1,q2,z3];done|simp_all) ?_
  repeat first|refine cg ?_|simp -dsimp[h1,q2,z3]
  have hF:=ob hF;obtain⟨v14,e15,hF⟩:=hF
  refine((C.f99 B hB1 hB2 v12.2 v10.2.2.1 v14 e15)).ego 1 rfl (by first|simp[h1,q2,z3];done|simp_all) (by simp) (by first|simp[h1,q2,z3];done|simp_all) ?_
  cases hF
  repeat first|refine cg ?_|simp -dsimp[h1,q2,z3]
  all_goals(try first|omega|rfl)
theorem C.f101 (n:Int)(low:Int)(high:Int)(r:Bool)(hF:F.f101 n low high=some r):PureCall Tryz.prog B 44 [li n,li low,li high] (.lit (.bool r)):=by
 unfold F.f101 at hF
 refine pE Tryz.func44 (by kernel_rfl) rfl Tryz.ntmps44 (by simp) (by simp) ?_
 repeat first|refine cg ?_|simp -dsimp
 revert hF;refine aS ?_ ?_<;>intro h1 q2 hF
 ·cases hF
  repeat first|refine cg ?_|simp -dsimp[h1]
  all_goals(try first|omega|rfl)
 ·cases hF
  repeat first|refine cg ?_|simp -dsimp[h1,q2]
  all_goals(try first|omega|rfl)
theorem CC.f102 (s:ByteArray):(∀(i:Nat) (o:Lo Bool Unit),F.f102 s i=some o->∀(c:Code),Zq [1,1,0,1,0,0] (ZJ Tryz.f72)=some c->∀(Q:Exit->ASt->Prop),o.post (fun r=>∀st,ZAe Tryz.prog Tryz.f72 (fun r' _=>r'.le (.lit (.bool r))) .ret st->Q .ret st) (fun s=>Q (.exit 0) ⟨[],[]⟩)->ALoopU Tryz.prog B 0 34 (hold c .mk) ⟨[(0,.lit (.string s)),(3,li (i:Int))],[]⟩ (hold Q .mk)):=by
 refine F.f102.partial_correctness s
  _
  ?_
 ·intro _f_f102 ih_f102 i o hF
  intro c hc Q hq
  obtain rfl:c=_:=ZQ hc rfl
  refine kN fun hk hs=> ?_
  clear hk hs
  refine eN ?_
  repeat first|refine cg ?_|simp -dsimp
  revert hF;refine aS ?_ ?_<;>intro h11 q12 hF
  ·have z13:((i:Int)<(s.size:Int)):=auz
   repeat first|refine cg ?_|simp -dsimp[h11,z13]
   revert hF;refine aN ?_ ?_<;>intro h14 q15 hF
   ·have z16:¬(((byteAt s i:Nat):Int)<97):=auz
    repeat first|refine cg ?_|simp -dsimp[h11,z13,h14,q15,z16]
    revert hF;refine aS ?_ ?_<;>intro h17 q18 hF
    ·have z19:(122<((byteAt s i:Nat):Int)):=auz
     cases hF
     repeat first|refine cg ?_|simp -dsimp[h11,z13,h14,q15,z16,h17,z19]
     refine lG _ (gR _) (hq _ ?_)
     repeat first|refine cg ?_|simp -dsimp[h11,z13,h14,q15,z16,h17,z19]
    ·have z19:¬(122<((byteAt s i:Nat):Int)):=auz
     have hF:=oc hF;obtain⟨c20,hF⟩:=hF
     have w21:i64.wrap ((i:Int)+1)=(i:Int)+1:=ZF (by omega) (by omega)
     repeat first|refine cg ?_|simp -dsimp[h11,z13,h14,q15,z16,h17,q18,z19,w21]
     refine aG _ ?_ ((ih_f102 (i+1) o hF) _ rfl _ hq)
     exact(gT (by simp) (by first|simp -dsimp[h11,z13,h14,q15,z16,h17,q18,z19,w21];done|simp_all))
   ·have z16:(((byteAt s i:Nat):Int)<97):=auz
    cases hF
    repeat first|refine cg ?_|simp -dsimp[h11,z13,h14,q15,z16]
    refine lG _ (gR _) (hq _ ?_)
    repeat first|refine cg ?_|simp -dsimp[h11,z13,h14,q15,z16]
  ·have z13:¬((i:Int)<(s.size:Int)):=auz
   cases hF
   repeat first|refine cg ?_|simp -dsimp[h11,q12,z13]
   refine lG _ (gT (by simp) (by first|simp -dsimp[h11,q12,z13];done|simp_all)) hq
theorem C.f103 (s:ByteArray)(r:Bool)(hF:F.f103 s=some r):PureCall Tryz.prog B 72 [.lit (.string s)] (.lit (.bool r)):=by
 unfold F.f103 at hF
 refine pE Tryz.func72 (by kernel_rfl) rfl Tryz.ntmps72 (by simp) (by simp) ?_
 repeat first|refine cg ?_|simp -dsimp
 have hF:=ob hF;obtain⟨v,e1,hF⟩:=hF
 refine((C.f101 B hB1 hB2 (s.size:Int) 1 5 v e1)).goW (by simp) (by simp) ?_
 repeat first|refine cg ?_|simp -dsimp
 revert hF;refine aS (fun h2 q3 hF=> ?_) (fun h2 q3 hF=> ?_)
 ·have hF:=oc hF;obtain⟨c4,hF⟩:=hF
  repeat first|refine cg ?_|simp -dsimp[h2]
  revert hF;refine aN ?_ ?_<;>intro h5 q6 hF
  ·have z7:¬(((byteAt s 0:Nat):Int)<65):=auz
   repeat first|refine cg ?_|simp -dsimp[h2,h5,q6,z7]
   revert hF;refine aS ?_ ?_<;>intro h8 q9 hF
   ·have z10:(90<((byteAt s 0:Nat):Int)):=auz
    cases hF
    repeat first|refine cg ?_|simp -dsimp[h2,h5,q6,z7,h8,z10]
    all_goals(try first|omega|rfl)
   ·have z10:¬(90<((byteAt s 0:Nat):Int)):=auz
    repeat first|refine cg ?_|simp -dsimp[h2,h5,q6,z7,h8,q9,z10]
    have hF:=ob hF;obtain⟨o',ho22,hF⟩:=hF
    refine ALoop.goU _ ?_ (((CC.f102 B hB1 hB2 s) 1 o' ho22) _ rfl _ ?_)
    ·exact(gT (by simp) (by first|simp -dsimp[h2,h5,q6,z7,h8,q9,z10];done|simp_all))
    rcases o' with r0|sx
    ·dsimp only at hF
     cases hF
     intro st h
     simpa using h
    ·dsimp only at hF
     cases hF
     repeat first|refine cg ?_|simp -dsimp
     all_goals(try first|omega|rfl)
  ·have z7:(((byteAt s 0:Nat):Int)<65):=auz
   cases hF
   repeat first|refine cg ?_|simp -dsimp[h2,h5,q6,z7]
   all_goals(try first|omega|rfl)
 ·cases hF
  repeat first|refine cg ?_|simp -dsimp[h2,q3]
  all_goals(try first|omega|rfl)
theorem C.f104 (w:List Vl.Data)(t:Ty)(r:Bool)(hF:F.f104 w t=some r):PureCall Tryz.prog B 75 [am Vl.Data.c w,.agg [li t.data,li t.index]] (.lit (.bool r)):=by
 unfold F.f104 at hF
 refine pE Tryz.func75 (by kernel_rfl) rfl Tryz.ntmps75 (by simp) (by simp) ?_
 repeat first|refine cg ?_|simp -dsimp
 revert hF;refine aN (fun h1 q2 hF=> ?_) (fun h1 q2 hF=> ?_)
 ·repeat first|refine cg ?_|simp -dsimp[h1,q2]
  have hF:=ob hF;obtain⟨v,e3,hF⟩:=hF
  refine((C.f101 B hB1 hB2 t.data 0 (i64.wrap ((w.length:Int) -1)) v e3)).goW (by first|simp[h1,q2];done|simp_all) (by simp) ?_
  repeat first|refine cg ?_|simp -dsimp[h1,q2]
  revert hF;refine aS (fun h4 q5 hF=> ?_) (fun h4 q5 hF=> ?_)
  ·repeat first|refine cg ?_|simp -dsimp[h1,q2,h4]
   have hF:=ob hF;obtain⟨v6,e7,hF⟩:=hF
   refine((C.f101 B hB1 hB2 t.index (-1) 3 v6 e7)).goW (by first|simp[h1,q2,h4];done|simp_all) (by simp) ?_
   cases hF
   repeat first|refine cg ?_|simp -dsimp[h1,q2,h4]
   all_goals(try first|omega|rfl)
  ·cases hF
   repeat first|refine cg ?_|simp -dsimp[h1,q2,h4,q5]
   all_goals(try first|omega|rfl)
 ·cases hF
  repeat first|refine cg ?_|simp -dsimp[h1,q2]
  all_goals(try first|omega|rfl)
theorem C.f105 (t:Ty)(a1:List Vl.Data)(r:Bool)(hF:F.f105 t a1=some r):PureCall Tryz.prog B 74 [.agg [li t.data,li t.index],.rptr [am Vl.Data.c a1] 0] (.lit (.bool r)):=by
 unfold F.f105 at hF
 refine pE Tryz.func74 (by kernel_rfl) rfl Tryz.ntmps74 (by simp) (by simp) ?_
 repeat first|refine cg ?_|simp -dsimp
 have hF:=ob hF;obtain⟨v,e1,hF⟩:=hF
 refine((C.f104 B hB1 hB2 a1 t v e1)).goW (by simp) (by simp) ?_
 cases hF
 repeat first|refine cg ?_|simp -dsimp
 all_goals(try first|omega|rfl)
theorem CC.f106 (s:List Ty)(k0:List Vl.Data):(∀(i:Nat) (o:Lo Int Unit),F.f106 s k0 i=some o->∀(c:Code),Zq [1,0,1,0,0] (ZJ Tryz.f94)=some c->∀(Q:Exit->ASt->Prop),o.post (fun r=>∀st,ZAe Tryz.prog Tryz.f94 (fun r' _=>r'.le (li r)) .ret st->Q .ret st) (fun s=>Q (.exit 0) ⟨[],[]⟩)->ALoopU Tryz.prog B 0 19 (hold c .mk) ⟨[(0,am Ty.c s),(1,.fn (.func 74) [] [.rptr [am Vl.Data.c k0] 0]),(7,li (s.length:Int)),(8,li (i:Int))],[]⟩ (hold Q .mk)):=by
 refine F.f106.partial_correctness s k0
  _
  ?_
 ·intro _f_f106 ih_f106 i o hF
  intro c hc Q hq
  obtain rfl:c=_:=ZQ hc rfl
  refine kN fun hk hs=> ?_
  have b0:=hk 0
  simp -dsimp at b0
  clear hk hs
  refine eN ?_
  repeat first|refine cg ?_|simp -dsimp
  revert hF;refine aS ?_ ?_<;>intro h1 q2 hF
  ·have z3:((i:Int)<(s.length:Int)):=auz
   have hF:=ob hF;obtain⟨x,e4,hF⟩:=hF
   have le4:=ZD e4
   repeat first|refine cg ?_|simp -dsimp[h1,z3,↓e4]
   have hF:=ob hF;obtain⟨v,e5,hF⟩:=hF
   refine((C.f105 B hB1 hB2 x k0 v e5)).goW (by first|simp[h1,z3,↓e4];done|simp_all) (by simp) ?_
   repeat first|refine cg ?_|simp -dsimp[h1,z3,↓e4]
   revert hF;refine aS (fun h6 q7 hF=> ?_) (fun h6 q7 hF=> ?_)
   ·cases hF
    repeat first|refine cg ?_|simp -dsimp[h1,z3,↓e4,h6]
    refine lG _ (gR _) (hq _ ?_)
    repeat first|refine cg ?_|simp -dsimp[h1,z3,↓e4,h6]
   ·have w8:i64.wrap ((i:Int)+1)=(i:Int)+1:=ZF (by omega) (by omega)
    repeat first|refine cg ?_|simp -dsimp[h1,z3,↓e4,h6,q7,w8]
    refine aG _ ?_ ((ih_f106 (i+1) o hF) _ rfl _ hq)
    exact(gT (by simp) (by first|simp -dsimp[h1,z3,↓e4,h6,q7,w8];done|simp_all))
  ·have z3:¬((i:Int)<(s.length:Int)):=auz
   cases hF
   repeat first|refine cg ?_|simp -dsimp[h1,q2,z3]
   refine lG _ (gT (by simp) (by first|simp -dsimp[h1,q2,z3];done|simp_all)) hq
theorem C.f107 (s:List Ty)(k0:List Vl.Data)(r:Int)(hF:F.f107 s k0=some r):PureCall Tryz.prog B 94 [am Ty.c s,.fn (.func 74) [] [.rptr [am Vl.Data.c k0] 0]] (li r):=by
 unfold F.f107 at hF
 refine pE Tryz.func94 (by kernel_rfl) rfl Tryz.ntmps94 (by simp) (by simp) ?_
 repeat first|refine cg ?_|simp -dsimp
 have hF:=ob hF;obtain⟨o',ho9,hF⟩:=hF
 refine ALoop.goU _ ?_ (((CC.f106 B hB1 hB2 s k0) 0 o' ho9) _ rfl _ ?_)
 ·exact(gT (by simp) (by simp -dsimp))
 rcases o' with r0|sx
 ·dsimp only at hF
  cases hF
  intro st h
  simpa using h
 ·dsimp only at hF
  cases hF
  repeat first|refine cg ?_|simp -dsimp
  all_goals(try first|omega|rfl)
theorem C.f108 (s:List Ty)(k0:List Vl.Data)(r:Bool)(hF:F.f108 s k0=some r):PureCall Tryz.prog B 73 [am Ty.c s,.fn (.func 74) [] [.rptr [am Vl.Data.c k0] 0]] (.lit (.bool r)):=by
 unfold F.f108 at hF
 refine pE Tryz.func73 (by kernel_rfl) rfl Tryz.ntmps73 (by simp) (by simp) ?_
 repeat first|refine cg ?_|simp -dsimp
 have hF:=ob hF;obtain⟨v,e1,hF⟩:=hF
 refine((C.f107 B hB1 hB2 s k0 v e1)).goW (by simp) (by simp) ?_
 cases hF
 repeat first|refine cg ?_|simp -dsimp
 all_goals(try first|omega|rfl)
theorem C.f109 (w:List Vl.Data)(c':Ctor)(r:Bool)(hF:F.f109 w c'=some r):PureCall Tryz.prog B 45 [am Vl.Data.c w,.agg [.lit (.string c'.name),am Ty.c c'.args,li c'.index]] (.lit (.bool r)):=by
 unfold F.f109 at hF
 refine pE Tryz.func45 (by kernel_rfl) rfl Tryz.ntmps45 (by simp) (by simp) ?_
 repeat first|refine cg ?_|simp -dsimp
 have hF:=ob hF;obtain⟨v,e1,hF⟩:=hF
 refine((C.f103 B hB1 hB2 c'.name v e1)).goW (by simp) (by simp) ?_
 repeat first|refine cg ?_|simp -dsimp
 revert hF;refine aS (fun h2 q3 hF=> ?_) (fun h2 q3 hF=> ?_)
 ·repeat first|refine cg ?_|simp -dsimp[h2]
  revert hF;refine aS ?_ ?_<;>intro h4 q5 hF
  ·have z6:((c'.args.length:Int)<=3):=auz
   repeat first|refine cg ?_|simp -dsimp[h2,h4,z6]
   have hF:=ob hF;obtain⟨v7,e8,hF⟩:=hF
   refine((C.f101 B hB1 hB2 c'.index 0 3 v7 e8)).goW (by first|simp[h2,h4,z6];done|simp_all) (by simp) ?_
   repeat first|refine cg ?_|simp -dsimp[h2,h4,z6]
   revert hF;refine aS (fun h9 q10 hF=> ?_) (fun h9 q10 hF=> ?_)
   ·repeat first|refine cg ?_|simp -dsimp[h2,h4,z6,h9]
    have hF:=ob hF;obtain⟨v11,e12,hF⟩:=hF
    refine((C.f108 B hB1 hB2 c'.args w v11 e12)).lend (by first|simp -dsimp[h2,h4,z6,h9];done|simp_all) (by simp -dsimp) ?_
    cases hF
    repeat first|refine cg ?_|simp -dsimp[h2,h4,z6,h9]
    all_goals(try first|omega|rfl)
   ·cases hF
    repeat first|refine cg ?_|simp -dsimp[h2,h4,z6,h9,q10]
    all_goals(try first|omega|rfl)
  ·have z6:¬((c'.args.length:Int)<=3):=auz
   cases hF
   repeat first|refine cg ?_|simp -dsimp[h2,h4,q5,z6]
   all_goals(try first|omega|rfl)
 ·cases hF
  repeat first|refine cg ?_|simp -dsimp[h2,q3]
  all_goals(try first|omega|rfl)
theorem CC.f110 (w:List Vl.Data)(met4:List ByteArray)(i:Nat)(x:Vl.Data):(∀(met26:List ByteArray) (i27:Nat) (o:Lo Bool (List ByteArray)),F.f110 w met4 i x met26 i27=some o->∀(b1 b2:Nat),¬b1=b2->∀(c:Code),Zq [1,1,1,1,0,1,0,0,1,1,0,0,1,1,1,1,0,0] (ZJ Tryz.f26)=some c->∀(Q:Exit->ASt->Ms->Prop),o.post (fun r=>∀st,ZAe Tryz.prog Tryz.f26 (fun r' _=>r'=(.lit (.bool r))) .ret st->∀ms,Q .ret st ms) (fun s=>Q (.exit 2) ⟨[(0,am Vl.Data.c w),(3,.lit (.map (some b1))),(4,.lit (.map (some b2))),(14,am Vl.Data.c w),(15,li (w.length:Int)),(16,li (i:Int))],[]⟩ [(b1,s),(b2,ZCA met4 x.name)])->MLoop Tryz.prog B 79 (hold c .mk) ⟨[(0,am Vl.Data.c w),(3,.lit (.map (some b1))),(4,.lit (.map (some b2))),(14,am Vl.Data.c w),(15,li (w.length:Int)),(16,li (i:Int)),(58,am Ctor.c x.ctors),(59,li (x.ctors.length:Int)),(60,li (i27:Int))],[]⟩ [(b1,met26),(b2,ZCA met4 x.name)] (hold Q .mk)):=by
 refine F.f110.partial_correctness w met4 i x
  _
  ?_
 ·intro _f_f110 ih_f110 met26 i27 o hF
  intro b1 b2 hb2 c hc Q hq
  obtain rfl:c=_:=ZQ hc rfl
  refine MLoop.know fun hk hs=> ?_
  have b0:=hk 0
  simp -dsimp at b0
  have b14:=hk 14
  simp -dsimp at b14
  have b58:=hk 58
  simp -dsimp at b58
  clear hk hs
  refine MLoop.enter ?_
  repeat first|refine cg ?_|simp -dsimp[hb2]
  revert hF;refine aS ?_ ?_<;>intro h28 q29 hF
  ·have z30:((i27:Int)<(x.ctors.length:Int)):=auz
   have hF:=ob hF;obtain⟨x31,e32,hF⟩:=hF
   have le32:=ZD e32
   repeat first|refine cg ?_|simp -dsimp[hb2,h28,z30,↓e32]
   have hF:=ob hF;obtain⟨v33,e34,hF⟩:=hF
   refine((C.f109 B hB1 hB2 w x31 v33 e34)).goW (by first|simp[hb2,h28,z30,↓e32];done|simp_all) (by simp) ?_
   repeat first|refine cg ?_|simp -dsimp[hb2,h28,z30,↓e32]
   revert hF;refine aS (fun h35 q36 hF=> ?_) (fun h35 q36 hF=> ?_)
   ·repeat first|refine cg ?_|simp -dsimp[hb2,h28,z30,↓e32,h35]
    revert hF;refine aS (fun h37 q38 hF=> ?_) (fun h37 q38 hF=> ?_)
    ·cases hF
     repeat first|refine cg ?_|simp -dsimp[hb2,h28,z30,↓e32,h35,h37]
     refine LeaveM.go _ (gR _) (hq _ ?_ _)
     repeat first|refine cg ?_|simp -dsimp[hb2,h28,z30,↓e32,h35,h37]
    ·have w39:i64.wrap ((i27:Int)+1)=(i27:Int)+1:=ZF (by omega) (by omega)
     repeat first|refine cg ?_|simp -dsimp[hb2,h28,z30,↓e32,h35,h37,q38,w39]
     refine AgainM.go ⟨[(0,.arr (List.map Vl.Data.c w)),(3,.lit (.map (some b1))),(4,.lit (.map (some b2))),(14,.arr (List.map Vl.Data.c w)),(15,.lit (.int .i64 (w.length:Int))),(16,.lit (.int .i64 (i:Int))),(58,.arr (List.map Ctor.c x.ctors)),(59,.lit (.int .i64 (x.ctors.length:Int))),(60,.lit (.int .i64 ((i27+1):Int)))],[]⟩ (gT (by simp) (by first|simp -dsimp[hb2,h28,z30,↓e32,h35,h37,q38,w39];done|simp_all)) ?_
     exact(ih_f110 (ZCA met26 x31.name) (i27+1) o hF) b1 b2 hb2 _ rfl _ hq
   ·cases hF
    repeat first|refine cg ?_|simp -dsimp[hb2,h28,z30,↓e32,h35,q36]
    refine LeaveM.go _ (gR _) (hq _ ?_ _)
    repeat first|refine cg ?_|simp -dsimp[hb2,h28,z30,↓e32,h35,q36]
  ·have z30:¬((i27:Int)<(x.ctors.length:Int)):=auz
   cases hF
   repeat first|refine cg ?_|simp -dsimp[hb2,h28,q29,z30]
   refine LeaveM.go ⟨[(0,.arr (List.map Vl.Data.c w)),(3,.lit (.map (some b1))),(4,.lit (.map (some b2))),(14,.arr (List.map Vl.Data.c w)),(15,.lit (.int .i64 (w.length:Int))),(16,.lit (.int .i64 (i:Int)))],[]⟩ (gT (by simp) (by first|simp -dsimp[hb2,h28,q29,z30];done|simp_all)) ?_
   exact hq
theorem CC.f111 (w:List Vl.Data):(∀(met:List ByteArray) (met4:List ByteArray) (i:Nat) (o:Lo Bool ((List ByteArray)×(List ByteArray))),F.f111 w met met4 i=some o->∀(b1 b2:Nat),¬b1=b2->∀(c:Code),Zq [1,1,1,1,0,1,0,0] (ZJ Tryz.f26)=some c->∀(Q:Exit->ASt->Ms->Prop),o.post (fun r=>∀st,ZAe Tryz.prog Tryz.f26 (fun r' _=>r'=(.lit (.bool r))) .ret st->∀ms,Q .ret st ms) (fun s=>Q (.exit 0) ⟨[],[]⟩ [(b1,s.1),(b2,s.2)])->MLoop Tryz.prog B 79 (hold c .mk) ⟨[(0,am Vl.Data.c w),(3,.lit (.map (some b1))),(4,.lit (.map (some b2))),(14,am Vl.Data.c w),(15,li (w.length:Int)),(16,li (i:Int))],[]⟩ [(b1,met),(b2,met4)] (hold Q .mk)):=by
 refine F.f111.partial_correctness w
  _
  ?_
 ·intro _f_f111 ih_f111 met met4 i o hF
  intro b1 b2 hb2 c hc Q hq
  obtain rfl:c=_:=ZQ hc rfl
  refine MLoop.know fun hk hs=> ?_
  have b0:=hk 0
  simp -dsimp at b0
  have b14:=hk 14
  simp -dsimp at b14
  clear hk hs
  refine MLoop.enter ?_
  repeat first|refine cg ?_|simp -dsimp[hb2]
  revert hF;refine aS ?_ ?_<;>intro h5 q6 hF
  ·have z7:((i:Int)<(w.length:Int)):=auz
   have hF:=ob hF;obtain⟨x,e8,hF⟩:=hF
   have le8:=ZD e8
   repeat first|refine cg ?_|simp -dsimp[hb2,h5,z7,↓e8]
   revert hF;refine aS ?_ ?_<;>intro h9 q10 hF
   ·have z11:((x.name.size:Int)=1):=auz
    have hF:=oc hF;obtain⟨c12,hF⟩:=hF
    repeat first|refine cg ?_|simp -dsimp[hb2,h5,z7,↓e8,h9,z11]
    revert hF;refine aN ?_ ?_<;>intro h13 q14 hF
    ·have z15:¬(((byteAt x.name 0:Nat):Int)<65):=auz
     repeat first|refine cg ?_|simp -dsimp[hb2,h5,z7,↓e8,h9,z11,h13,q14,z15]
     revert hF;refine aN ?_ ?_<;>intro h16 q17 hF
     ·have z18:¬(90<((byteAt x.name 0:Nat):Int)):=auz
      repeat first|refine cg ?_|simp -dsimp[hb2,h5,z7,↓e8,h9,z11,h13,q14,z15,h16,q17,z18]
      revert hF;refine aN ?_ ?_<;>intro h19 q20 hF
      ·repeat first|refine cg ?_|simp -dsimp[hb2,h5,z7,↓e8,h9,z11,h13,q14,z15,h16,q17,z18,h19,q20]
       revert hF;refine aN (fun h21 q22 hF=> ?_) (fun h21 q22 hF=> ?_)
       ·repeat first|refine cg ?_|simp -dsimp[hb2,h5,z7,↓e8,h9,z11,h13,q14,z15,h16,q17,z18,h19,q20,h21,q22]
        have hF:=ob hF;obtain⟨v,e23,hF⟩:=hF
        refine((C.f101 B hB1 hB2 (x.ctors.length:Int) 1 4 v e23)).goW (by first|simp[hb2,h5,z7,↓e8,h9,z11,h13,q14,z15,h16,q17,z18,h19,q20,h21,q22];done|simp_all) (by simp) ?_
        repeat first|refine cg ?_|simp -dsimp[hb2,h5,z7,↓e8,h9,z11,h13,q14,z15,h16,q17,z18,h19,q20,h21,q22]
        revert hF;refine aN (fun h24 q25 hF=> ?_) (fun h24 q25 hF=> ?_)
        ·cases hF
         repeat first|refine cg ?_|simp -dsimp[hb2,h5,z7,↓e8,h9,z11,h13,q14,z15,h16,q17,z18,h19,q20,h21,q22,h24,q25]
         refine LeaveM.go _ (gR _) (hq _ ?_ _)
         repeat first|refine cg ?_|simp -dsimp[hb2,h5,z7,↓e8,h9,z11,h13,q14,z15,h16,q17,z18,h19,q20,h21,q22,h24,q25]
        ·repeat first|refine cg ?_|simp -dsimp[hb2,h5,z7,↓e8,h9,z11,h13,q14,z15,h16,q17,z18,h19,q20,h21,q22,h24,q25]
         have hF:=ob hF;obtain⟨o',ho40,hF⟩:=hF
         refine MLoop.goU ⟨[(0,.arr (List.map Vl.Data.c w)),(3,.lit (.map (some b1))),(4,.lit (.map (some b2))),(14,.arr (List.map Vl.Data.c w)),(15,.lit (.int .i64 (w.length:Int))),(16,.lit (.int .i64 (i:Int))),(58,.arr (List.map Ctor.c x.ctors)),(59,.lit (.int .i64 (x.ctors.length:Int))),(60,.lit (.int .i64 0))],[]⟩ (gT (by simp) (by first|simp -dsimp[hb2,h5,z7,↓e8,h9,z11,h13,q14,z15,h16,q17,z18,h19,q20,h21,q22,h24,q25];done|simp_all)) ?_
         refine((CC.f110 B hB1 hB2 w met4 i x) met 0 o' ho40) b1 b2 hb2 _ rfl _ ?_
         rcases o' with r0|sx
         ·dsimp only at hF
          cases hF
          intro st h ms
          simp -dsimp
          refine LeaveM.go st (gR _) (hq st h ms)
         ·dsimp only at hF
          have hF:=oc hF;obtain⟨c41,hF⟩:=hF
          have w42:i64.wrap ((i:Int)+1)=(i:Int)+1:=ZF (by omega) (by omega)
          repeat first|refine cg ?_|simp -dsimp[w42]
          refine AgainM.go ⟨[(0,.arr (List.map Vl.Data.c w)),(3,.lit (.map (some b1))),(4,.lit (.map (some b2))),(14,.arr (List.map Vl.Data.c w)),(15,.lit (.int .i64 (w.length:Int))),(16,.lit (.int .i64 ((i+1):Int)))],[]⟩ (gT (by simp) (by first|simp -dsimp[w42];done|simp_all)) ?_
          exact(ih_f111 sx (ZCA met4 x.name) (i+1) o hF) b1 b2 hb2 _ rfl _ hq
       ·cases hF
        repeat first|refine cg ?_|simp -dsimp[hb2,h5,z7,↓e8,h9,z11,h13,q14,z15,h16,q17,z18,h19,q20,h21,q22]
        refine LeaveM.go _ (gR _) (hq _ ?_ _)
        repeat first|refine cg ?_|simp -dsimp[hb2,h5,z7,↓e8,h9,z11,h13,q14,z15,h16,q17,z18,h19,q20,h21,q22]
      ·cases hF
       repeat first|refine cg ?_|simp -dsimp[hb2,h5,z7,↓e8,h9,z11,h13,q14,z15,h16,q17,z18,h19,q20]
       refine LeaveM.go _ (gR _) (hq _ ?_ _)
       repeat first|refine cg ?_|simp -dsimp[hb2,h5,z7,↓e8,h9,z11,h13,q14,z15,h16,q17,z18,h19,q20]
     ·have z18:(90<((byteAt x.name 0:Nat):Int)):=auz
      cases hF
      repeat first|refine cg ?_|simp -dsimp[hb2,h5,z7,↓e8,h9,z11,h13,q14,z15,h16,q17,z18]
      refine LeaveM.go _ (gR _) (hq _ ?_ _)
      repeat first|refine cg ?_|simp -dsimp[hb2,h5,z7,↓e8,h9,z11,h13,q14,z15,h16,q17,z18]
    ·have z15:(((byteAt x.name 0:Nat):Int)<65):=auz
     cases hF
     repeat first|refine cg ?_|simp -dsimp[hb2,h5,z7,↓e8,h9,z11,h13,q14,z15]
     refine LeaveM.go _ (gR _) (hq _ ?_ _)
     repeat first|refine cg ?_|simp -dsimp[hb2,h5,z7,↓e8,h9,z11,h13,q14,z15]
   ·have z11:¬((x.name.size:Int)=1):=auz
    cases hF
    repeat first|refine cg ?_|simp -dsimp[hb2,h5,z7,↓e8,h9,q10,z11]
    refine LeaveM.go _ (gR _) (hq _ ?_ _)
    repeat first|refine cg ?_|simp -dsimp[hb2,h5,z7,↓e8,h9,q10,z11]
  ·have z7:¬((i:Int)<(w.length:Int)):=auz
   cases hF
   repeat first|refine cg ?_|simp -dsimp[hb2,h5,q6,z7]
   refine LeaveM.go ⟨[],[]⟩ (gT (by simp) (by first|simp -dsimp[hb2,h5,q6,z7];done|simp_all)) ?_
   exact hq
theorem C.f112 (w:List Vl.Data)(r:Bool)(hF:F.f112 w=some r):PureCall Tryz.prog B 26 [am Vl.Data.c w] (.lit (.bool r)):=by
 unfold F.f112 at hF
 refine PureCall.enterM Tryz.func26 (by kernel_rfl) rfl Tryz.ntmps26 (by simp) ?_
 repeat first|refine cg ?_|simp -dsimp
 revert hF;refine aS ?_ ?_<;>intro h1 q2 hF
 ·have z3:(4<(w.length:Int)):=auz
  cases hF
  repeat first|refine cg ?_|simp -dsimp[h1,z3]
  all_goals(try first|omega|rfl)
 ·have z3:¬(4<(w.length:Int)):=auz
  repeat first|refine cg ?_|simp -dsimp[h1,q2,z3]
  refine AMake.go fun b1 hb1=> ?_
  repeat first|refine cg ?_|simp -dsimp[h1,q2,z3]
  refine AMake.go fun b2 hb2=> ?_
  simp at hb2
  repeat first|refine cg ?_|simp -dsimp[h1,q2,z3,hb2]
  have hF:=ob hF;obtain⟨o'44,ho43,hF⟩:=hF
  refine MLoop.goU ⟨[(0,.arr (List.map Vl.Data.c w)),(3,.lit (.map (some b1))),(4,.lit (.map (some b2))),(14,.arr (List.map Vl.Data.c w)),(15,.lit (.int .i64 (w.length:Int))),(16,.lit (.int .i64 0))],[]⟩ (gT (by simp) (by first|simp -dsimp[h1,q2,z3,hb2];done|simp_all)) ?_
  refine((CC.f111 B hB1 hB2 w) [] [] 0 o'44 ho43) b1 b2 hb2 _ rfl _ ?_
  rcases o'44 with r046|sx45
  ·dsimp only at hF
   cases hF
   intro st h ms
   simpa using h
  ·dsimp only at hF
   cases hF
   repeat first|refine cg ?_|simp -dsimp
   all_goals(try first|omega|rfl)
theorem C.f113 (w:List Vl.Data)(t:Ty)(r:Bool)(hF:F.f113 w t=some r):PureCall Tryz.prog B 27 [am Vl.Data.c w,.agg [li t.data,li t.index]] (.lit (.bool r)):=by
 unfold F.f113 at hF
 refine pE Tryz.func27 (by kernel_rfl) rfl Tryz.ntmps27 (by simp) (by simp) ?_
 repeat first|refine cg ?_|simp -dsimp
 revert hF;refine aN (fun h1 q2 hF=> ?_) (fun h1 q2 hF=> ?_)
 ·repeat first|refine cg ?_|simp -dsimp[h1,q2]
  have hF:=ob hF;obtain⟨v,e3,hF⟩:=hF
  refine((C.f101 B hB1 hB2 t.data 0 (i64.wrap ((w.length:Int) -1)) v e3)).goW (by first|simp[h1,q2];done|simp_all) (by simp) ?_
  repeat first|refine cg ?_|simp -dsimp[h1,q2]
  revert hF;refine aS (fun h4 q5 hF=> ?_) (fun h4 q5 hF=> ?_)
  ·repeat first|refine cg ?_|simp -dsimp[h1,q2,h4]
   have hF:=ob hF;obtain⟨v6,e7,hF⟩:=hF
   refine((C.f101 B hB1 hB2 t.index 0 3 v6 e7)).goW (by first|simp[h1,q2,h4];done|simp_all) (by simp) ?_
   cases hF
   repeat first|refine cg ?_|simp -dsimp[h1,q2,h4]
   all_goals(try first|omega|rfl)
  ·cases hF
   repeat first|refine cg ?_|simp -dsimp[h1,q2,h4,q5]
   all_goals(try first|omega|rfl)
 ·cases hF
  repeat first|refine cg ?_|simp -dsimp[h1,q2]
  all_goals(try first|omega|rfl)
theorem C.f114 (w:List Vl.Data)(t:Ty)(r:Bool)(hF:F.f114 w t=some r):PureCall Tryz.prog B 12 [am Vl.Data.c w,.agg [li t.data,li t.index]] (.lit (.bool r)):=by
 unfold F.f114 at hF
 refine pE Tryz.func12 (by kernel_rfl) rfl Tryz.ntmps12 (by simp) (by simp) ?_
 repeat first|refine cg ?_|simp -dsimp
 have hF:=ob hF;obtain⟨v,e1,hF⟩:=hF
 refine((C.f112 B hB1 hB2 w v e1)).goW (by simp) (by simp) ?_
 repeat first|refine cg ?_|simp -dsimp
 revert hF;refine aS (fun h2 q3 hF=> ?_) (fun h2 q3 hF=> ?_)
 ·repeat first|refine cg ?_|simp -dsimp[h2]
  have hF:=ob hF;obtain⟨v4,e5,hF⟩:=hF
  refine((C.f113 B hB1 hB2 w t v4 e5)).goW (by first|simp[h2];done|simp_all) (by simp) ?_
  cases hF
  repeat first|refine cg ?_|simp -dsimp[h2]
  all_goals(try first|omega|rfl)
 ·cases hF
  repeat first|refine cg ?_|simp -dsimp[h2,q3]
  all_goals(try first|omega|rfl)
theorem C.f115 (p:Pattern)(ctor:Bool)(numbers:Bool)(variable':Bool)(kids:Int)(r:Bool)(hF:F.f115 p ctor numbers variable' kids=some r):PureCall Tryz.prog B 95 [.agg [li p.op,li p.ctor,li p.n,li p.m,li p.var,am Pattern.c p.kids],.lit (.bool ctor),.lit (.bool numbers),.lit (.bool variable'),li kids] (.lit (.bool r)):=by
 unfold F.f115 at hF
 refine pE Tryz.func95 (by kernel_rfl) rfl Tryz.ntmps95 (by simp) (by simp) ?_
 repeat first|refine cg ?_|simp -dsimp
 revert hF;refine aN (fun h1 q2 hF=> ?_) (fun h1 q2 hF=> ?_)
 ·repeat first|refine cg ?_|simp -dsimp[h1,q2]
  revert hF;refine aS ?_ ?_<;>intro h3 q4 hF
  ·repeat first|refine cg ?_|simp -dsimp[h1,q2,h3]
   revert hF;refine aN (fun h5 q6 hF=> ?_) (fun h5 q6 hF=> ?_)
   ·repeat first|refine cg ?_|simp -dsimp[h1,q2,h3,h5,q6]
    revert hF;refine aS ?_ ?_<;>intro h7 q8 hF
    ·repeat first|refine cg ?_|simp -dsimp[h1,q2,h3,h5,q6,h7]
     revert hF;refine aS ?_ ?_<;>intro h9 q10 hF
     ·repeat first|refine cg ?_|simp -dsimp[h1,q2,h3,h5,q6,h7,h9]
      revert hF;refine aN (fun h11 q12 hF=> ?_) (fun h11 q12 hF=> ?_)
      ·repeat first|refine cg ?_|simp -dsimp[h1,q2,h3,h5,q6,h7,h9,h11,q12]
       revert hF;refine aS ?_ ?_<;>intro h13 q14 hF
       ·cases hF
        repeat first|refine cg ?_|simp -dsimp[h1,q2,h3,h5,q6,h7,h9,h11,q12,h13]
        all_goals(try first|omega|rfl)
       ·cases hF
        repeat first|refine cg ?_|simp -dsimp[h1,q2,h3,h5,q6,h7,h9,h11,q12,h13,q14]
        all_goals(try first|omega|rfl)
      ·cases hF
       repeat first|refine cg ?_|simp -dsimp[h1,q2,h3,h5,q6,h7,h9,h11,q12]
       all_goals(try first|omega|rfl)
     ·cases hF
      repeat first|refine cg ?_|simp -dsimp[h1,q2,h3,h5,q6,h7,h9,q10]
      all_goals(try first|omega|rfl)
    ·cases hF
     repeat first|refine cg ?_|simp -dsimp[h1,q2,h3,h5,q6,h7,q8]
     all_goals(try first|omega|rfl)
   ·repeat first|refine cg ?_|simp -dsimp[h1,q2,h3,h5,q6]
    revert hF;refine aN (fun h15 q16 hF=> ?_) (fun h15 q16 hF=> ?_)
    ·repeat first|refine cg ?_|simp -dsimp[h1,q2,h3,h5,q6,h15,q16]
     revert hF;refine aS ?_ ?_<;>intro h17 q18 hF
     ·cases hF
      repeat first|refine cg ?_|simp -dsimp[h1,q2,h3,h5,q6,h15,q16,h17]
      all_goals(try first|omega|rfl)
     ·cases hF
      repeat first|refine cg ?_|simp -dsimp[h1,q2,h3,h5,q6,h15,q16,h17,q18]
      all_goals(try first|omega|rfl)
    ·cases hF
     repeat first|refine cg ?_|simp -dsimp[h1,q2,h3,h5,q6,h15,q16]
     all_goals(try first|omega|rfl)
  ·cases hF
   repeat first|refine cg ?_|simp -dsimp[h1,q2,h3,q4]
   all_goals(try first|omega|rfl)
 ·repeat first|refine cg ?_|simp -dsimp[h1,q2]
  revert hF;refine aN (fun h19 q20 hF=> ?_) (fun h19 q20 hF=> ?_)
  ·repeat first|refine cg ?_|simp -dsimp[h1,q2,h19,q20]
   revert hF;refine aS ?_ ?_<;>intro h21 q22 hF
   ·repeat first|refine cg ?_|simp -dsimp[h1,q2,h19,q20,h21]
    revert hF;refine aS ?_ ?_<;>intro h23 q24 hF
    ·repeat first|refine cg ?_|simp -dsimp[h1,q2,h19,q20,h21,h23]
     revert hF;refine aN (fun h25 q26 hF=> ?_) (fun h25 q26 hF=> ?_)
     ·repeat first|refine cg ?_|simp -dsimp[h1,q2,h19,q20,h21,h23,h25,q26]
      revert hF;refine aS ?_ ?_<;>intro h27 q28 hF
      ·cases hF
       repeat first|refine cg ?_|simp -dsimp[h1,q2,h19,q20,h21,h23,h25,q26,h27]
       all_goals(try first|omega|rfl)
      ·cases hF
       repeat first|refine cg ?_|simp -dsimp[h1,q2,h19,q20,h21,h23,h25,q26,h27,q28]
       all_goals(try first|omega|rfl)
     ·cases hF
      repeat first|refine cg ?_|simp -dsimp[h1,q2,h19,q20,h21,h23,h25,q26]
      all_goals(try first|omega|rfl)
    ·cases hF
     repeat first|refine cg ?_|simp -dsimp[h1,q2,h19,q20,h21,h23,q24]
     all_goals(try first|omega|rfl)
   ·cases hF
    repeat first|refine cg ?_|simp -dsimp[h1,q2,h19,q20,h21,q22]
    all_goals(try first|omega|rfl)
  ·repeat first|refine cg ?_|simp -dsimp[h1,q2,h19,q20]
   revert hF;refine aN (fun h29 q30 hF=> ?_) (fun h29 q30 hF=> ?_)
   ·repeat first|refine cg ?_|simp -dsimp[h1,q2,h19,q20,h29,q30]
    revert hF;refine aS ?_ ?_<;>intro h31 q32 hF
    ·cases hF
     repeat first|refine cg ?_|simp -dsimp[h1,q2,h19,q20,h29,q30,h31]
     all_goals(try first|omega|rfl)
    ·cases hF
     repeat first|refine cg ?_|simp -dsimp[h1,q2,h19,q20,h29,q30,h31,q32]
     all_goals(try first|omega|rfl)
   ·cases hF
    repeat first|refine cg ?_|simp -dsimp[h1,q2,h19,q20,h29,q30]
    all_goals(try first|omega|rfl)
theorem C.f116 (v:Int)(r:Bool)(hF:F.f116 v=some r):PureCall Tryz.prog B 96 [li v] (.lit (.bool r)):=by
 unfold F.f116 at hF
 refine pE Tryz.func96 (by kernel_rfl) rfl Tryz.ntmps96 (by simp) (by simp) ?_
 repeat first|refine cg ?_|simp -dsimp
 have hF:=ob hF;obtain⟨v1,e2,hF⟩:=hF
 refine((C.f101 B hB1 hB2 v 0 5 v1 e2)).goW (by simp) (by simp) ?_
 cases hF
 repeat first|refine cg ?_|simp -dsimp
 all_goals(try first|omega|rfl)
theorem CC.f117 (t:Ty)(x:Vl.Data):(∀(i:Nat) (out:List Int) (o:List Int),F.f117 t x i out=some o->∀(c:Code),Zq [1,1,0,1,0,1,0,0] (ZJ Tryz.f98)=some c->∀(Q:Exit->ASt->Prop),(Q (.exit 0) ⟨[(5,.own 1 (List.length (α:=Int) o))],[.dead,.elems 1 (List.map cI o)]⟩)->ALoopU Tryz.prog B 0 44 (hold c .mk) ⟨[(3,.ptr 0 0),(5,.own 1 (List.length (α:=Int) out)),(16,am Ctor.c x.ctors),(17,li (x.ctors.length:Int)),(18,li (i:Int))],[.cells [li t.data,li t.index],.elems 1 (List.map cI out)]⟩ (hold Q .mk)):=by
 refine F.f117.partial_correctness t x
  _
  ?_
 ·intro _f_f117 ih_f117 i out o hF
  intro c hc Q hq
  obtain rfl:c=_:=ZQ hc rfl
  refine kN fun hk hs=> ?_
  have b16:=hk 16
  simp -dsimp at b16
  have d1:=hs 1 _ rfl
  simp -dsimp[Blk.bnd]at d1
  clear hk hs
  refine eN ?_
  repeat first|refine cg ?_|simp -dsimp
  revert hF;refine aS ?_ ?_<;>intro h4 q5 hF
  ·have z6:((i:Int)<(x.ctors.length:Int)):=auz
   have hF:=ob hF;obtain⟨x7,e8,hF⟩:=hF
   have le8:=ZD e8
   repeat first|refine cg ?_|simp -dsimp[h4,z6,↓e8]
   revert hF;refine aN ?_ ?_<;>intro h9 q10 hF
   ·repeat first|refine cg ?_|simp -dsimp[h4,z6,↓e8,h9,q10]
    revert hF;refine aN ?_ ?_<;>intro h11 q12 hF
    ·repeat first|refine cg ?_|simp -dsimp[h4,z6,↓e8,h9,q10,h11,q12]
     revert hF;refine aS ?_ ?_<;>intro h13 q14 hF
     ·have hF:=oc hF;obtain⟨c15,hF⟩:=hF
      have w16:i64.wrap ((i:Int)+1)=(i:Int)+1:=ZF (by omega) (by omega)
      repeat first|refine cg ?_|simp -dsimp[h4,z6,↓e8,h9,q10,h11,q12,h13,w16]
      refine aG _ ?_ ((ih_f117 (i+1) (out++[(i:Int)]) o hF) _ rfl _ hq)
      exact(gT (by simp) (by first|simp -dsimp[h4,z6,↓e8,h9,q10,h11,q12,h13,w16];done|simp_all))
     ·have w17:i64.wrap ((i:Int)+1)=(i:Int)+1:=ZF (by omega) (by omega)
      repeat first|refine cg ?_|simp -dsimp[h4,z6,↓e8,h9,q10,h11,q12,h13,q14,w17]
      refine aG _ ?_ ((ih_f117 (i+1) out o hF) _ rfl _ hq)
      exact(gT (by simp) (by first|simp -dsimp[h4,z6,↓e8,h9,q10,h11,q12,h13,q14,w17];done|simp_all))
    ·have hF:=oc hF;obtain⟨c18,hF⟩:=hF
     have w19:i64.wrap ((i:Int)+1)=(i:Int)+1:=ZF (by omega) (by omega)
     repeat first|refine cg ?_|simp -dsimp[h4,z6,↓e8,h9,q10,h11,q12,w19]
     refine aG _ ?_ ((ih_f117 (i+1) (out++[(i:Int)]) o hF) _ rfl _ hq)
     exact(gT (by simp) (by first|simp -dsimp[h4,z6,↓e8,h9,q10,h11,q12,w19];done|simp_all))
   ·have hF:=oc hF;obtain⟨c20,hF⟩:=hF
    have w21:i64.wrap ((i:Int)+1)=(i:Int)+1:=ZF (by omega) (by omega)
    repeat first|refine cg ?_|simp -dsimp[h4,z6,↓e8,h9,q10,w21]
    refine aG _ ?_ ((ih_f117 (i+1) (out++[(i:Int)]) o hF) _ rfl _ hq)
    exact(gT (by simp) (by first|simp -dsimp[h4,z6,↓e8,h9,q10,w21];done|simp_all))
  ·have z6:¬((i:Int)<(x.ctors.length:Int)):=auz
   cases hF
   repeat first|refine cg ?_|simp -dsimp[h4,q5,z6]
   refine lG _ (gT (by simp) (by first|simp -dsimp[h4,q5,z6];done|simp_all)) hq
theorem C.f118 (w:List Vl.Data)(t:Ty)(r:List Int)(hF:F.f118 w t=some r):PureCall Tryz.prog B 98 [am Vl.Data.c w,.agg [li t.data,li t.index]] (am cI r):=by
 unfold F.f118 at hF
 refine pE Tryz.func98 (by kernel_rfl) rfl Tryz.ntmps98 (by simp) (by simp) ?_
 repeat first|refine cg ?_|simp -dsimp
 revert hF;refine aN ?_ ?_<;>intro h1 q2 hF
 ·have hF:=ob hF;obtain⟨x,e3a,hF⟩:=hF
  have e3a:=ZT e3a;obtain⟨ne3,e3⟩:=e3a
  have le3:=ZD e3
  repeat first|refine cg ?_|simp -dsimp[h1,q2,↓e3]
  have hF:=ob hF;obtain⟨o',ho22,hF⟩:=hF
  refine ALoop.goU ⟨[(3,.ptr 0 0),(5,.own 1 (List.length (α:=Int) [])),(16,.arr (List.map Ctor.c x.ctors)),(17,.lit (.int .i64 (x.ctors.length:Int))),(18,.lit (.int .i64 0))],[.cells [.lit (.int .i64 t.data),.lit (.int .i64 t.index)],.elems 1 (List.map cI [])]⟩ (by refine Gh.trans (Gh.nil 5 1 (by simp -dsimp)) ?_;exact(gT (by simp) (by first|simp -dsimp[h1,q2,↓e3];done|simp_all))) ?_
  refine((CC.f117 B hB1 hB2 t x) 0 [] o' ho22) _ rfl _ ?_
  cases hF
  repeat first|refine cg ?_|simp -dsimp
  all_goals(try first|omega|rfl)
 ·cases hF
  repeat first|refine cg ?_|simp -dsimp[h1,q2]
  all_goals(try first|omega|rfl)
theorem CC.f119 (s:List Int)(v:Int):(∀(i:Nat) (o:Lo Int Unit),F.f119 s v i=some o->∀(c:Code),Zq [1,0,1,0,0] (ZJ Tryz.f108)=some c->∀(Q:Exit->ASt->Prop),o.post (fun r=>∀st,ZAe Tryz.prog Tryz.f108 (fun r' _=>r'.le (li r)) .ret st->Q .ret st) (fun s=>Q (.exit 0) ⟨[],[]⟩)->ALoopU Tryz.prog B 0 19 (hold c .mk) ⟨[(0,am cI s),(1,li v),(7,li (s.length:Int)),(8,li (i:Int))],[]⟩ (hold Q .mk)):=by
 refine F.f119.partial_correctness s v
  _
  ?_
 ·intro _f_f119 ih_f119 i o hF
  intro c hc Q hq
  obtain rfl:c=_:=ZQ hc rfl
  refine kN fun hk hs=> ?_
  have b0:=hk 0
  simp -dsimp at b0
  clear hk hs
  refine eN ?_
  repeat first|refine cg ?_|simp -dsimp
  revert hF;refine aS ?_ ?_<;>intro h1 q2 hF
  ·have z3:((i:Int)<(s.length:Int)):=auz
   have hF:=ob hF;obtain⟨x,e4,hF⟩:=hF
   have le4:=ZD e4
   repeat first|refine cg ?_|simp -dsimp[h1,z3,↓e4]
   revert hF;refine aS ?_ ?_<;>intro h5 q6 hF
   ·cases hF
    repeat first|refine cg ?_|simp -dsimp[h1,z3,↓e4,h5]
    refine lG _ (gR _) (hq _ ?_)
    repeat first|refine cg ?_|simp -dsimp[h1,z3,↓e4,h5]
   ·have w7:i64.wrap ((i:Int)+1)=(i:Int)+1:=ZF (by omega) (by omega)
    repeat first|refine cg ?_|simp -dsimp[h1,z3,↓e4,h5,q6,w7]
    refine aG _ ?_ ((ih_f119 (i+1) o hF) _ rfl _ hq)
    exact(gT (by simp) (by first|simp -dsimp[h1,z3,↓e4,h5,q6,w7];done|simp_all))
  ·have z3:¬((i:Int)<(s.length:Int)):=auz
   cases hF
   repeat first|refine cg ?_|simp -dsimp[h1,q2,z3]
   refine lG _ (gT (by simp) (by first|simp -dsimp[h1,q2,z3];done|simp_all)) hq
theorem C.f120 (s:List Int)(v:Int)(r:Int)(hF:F.f120 s v=some r):PureCall Tryz.prog B 108 [am cI s,li v] (li r):=by
 unfold F.f120 at hF
 refine pE Tryz.func108 (by kernel_rfl) rfl Tryz.ntmps108 (by simp) (by simp) ?_
 repeat first|refine cg ?_|simp -dsimp
 have hF:=ob hF;obtain⟨o',ho8,hF⟩:=hF
 refine ALoop.goU _ ?_ (((CC.f119 B hB1 hB2 s v) 0 o' ho8) _ rfl _ ?_)
 ·exact(gT (by simp) (by simp -dsimp))
 rcases o' with r0|sx
 ·dsimp only at hF
  cases hF
  intro st h
  simpa using h
 ·dsimp only at hF
  cases hF
  repeat first|refine cg ?_|simp -dsimp
  all_goals(try first|omega|rfl)
theorem C.f121 (s:List Int)(v:Int)(r:Bool)(hF:F.f121 s v=some r):PureCall Tryz.prog B 97 [am cI s,li v] (.lit (.bool r)):=by
 unfold F.f121 at hF
 refine pE Tryz.func97 (by kernel_rfl) rfl Tryz.ntmps97 (by simp) (by simp) ?_
 repeat first|refine cg ?_|simp -dsimp
 have hF:=ob hF;obtain⟨v1,e2,hF⟩:=hF
 refine((C.f120 B hB1 hB2 s v v1 e2)).goW (by simp) (by simp) ?_
 cases hF
 repeat first|refine cg ?_|simp -dsimp
 all_goals(try first|omega|rfl)
theorem CC.f122 (t:Ty)(x2:Ctor):(∀(i:Nat) (out:List Ty) (o:List Ty),F.f122 t x2 i out=some o->∀(c:Code),Zq [1,1,1,1,1,0,1,0,0] (ZJ Tryz.f99)=some c->∀(Q:Exit->ASt->Prop),(Q (.exit 0) ⟨[(9,.own 2 (List.length (α:=Ty) o))],[.dead,.dead,.elems 2 (List.map Ty.c o)]⟩)->ALoopU Tryz.prog B 0 45 (hold c .mk) ⟨[(8,li t.index),(9,.own 2 (List.length (α:=Ty) out)),(28,am Ty.c x2.args),(29,li (x2.args.length:Int)),(30,li (i:Int))],[.dead,.dead,.elems 2 (List.map Ty.c out)]⟩ (hold Q .mk)):=by
 refine F.f122.partial_correctness t x2
  _
  ?_
 ·intro _f_f122 ih_f122 i out o hF
  intro c hc Q hq
  obtain rfl:c=_:=ZQ hc rfl
  refine kN fun hk hs=> ?_
  have b28:=hk 28
  simp -dsimp at b28
  have d2:=hs 2 _ rfl
  simp -dsimp[Blk.bnd]at d2
  clear hk hs
  refine eN ?_
  repeat first|refine cg ?_|simp -dsimp
  revert hF;refine aS ?_ ?_<;>intro h6 q7 hF
  ·have z8:((i:Int)<(x2.args.length:Int)):=auz
   have hF:=ob hF;obtain⟨x9,e10,hF⟩:=hF
   have le10:=ZD e10
   repeat first|refine cg ?_|simp -dsimp[h6,z8,↓e10]
   revert hF;refine aS ?_ ?_<;>intro h11 q12 hF
   ·have hF:=oc hF;obtain⟨c13,hF⟩:=hF
    have w14:i64.wrap ((i:Int)+1)=(i:Int)+1:=ZF (by omega) (by omega)
    repeat first|refine cg ?_|simp -dsimp[h6,z8,↓e10,h11,w14]
    refine aG _ ?_ ((ih_f122 (i+1) (out++[(⟨x9.data,t.index⟩:Ty)]) o hF) _ rfl _ hq)
    exact(gT (by simp) (by first|simp -dsimp[h6,z8,↓e10,h11,w14];done|simp_all))
   ·have hF:=oc hF;obtain⟨c15,hF⟩:=hF
    have w16:i64.wrap ((i:Int)+1)=(i:Int)+1:=ZF (by omega) (by omega)
    repeat first|refine cg ?_|simp -dsimp[h6,z8,↓e10,h11,q12,w16]
    refine aG _ ?_ ((ih_f122 (i+1) (out++[x9]) o hF) _ rfl _ hq)
    exact(gT (by simp) (by first|simp -dsimp[h6,z8,↓e10,h11,q12,w16];done|simp_all))
  ·have z8:¬((i:Int)<(x2.args.length:Int)):=auz
   cases hF
   repeat first|refine cg ?_|simp -dsimp[h6,q7,z8]
   refine lG _ (gT (by simp) (by first|simp -dsimp[h6,q7,z8];done|simp_all)) hq
theorem CC.f123 (x2:Ctor):(∀(i18:Nat) (out19:List Ty) (o:List Ty),F.f123 x2 i18 out19=some o->∀(c:Code),Zq [1,1,1,1,1,0,1,0,0] (ZJ Tryz.f99)=some c->∀(Q:Exit->ASt->Prop),(Q (.exit 0) ⟨[(9,.own 2 (List.length (α:=Ty) o))],[.dead,.dead,.elems 2 (List.map Ty.c o)]⟩)->ALoopU Tryz.prog B 0 45 (hold c .mk) ⟨[(8,li x2.index),(9,.own 2 (List.length (α:=Ty) out19)),(28,am Ty.c x2.args),(29,li (x2.args.length:Int)),(30,li (i18:Int))],[.dead,.dead,.elems 2 (List.map Ty.c out19)]⟩ (hold Q .mk)):=by
 refine F.f123.partial_correctness x2
  _
  ?_
 ·intro _f_f123 ih_f123 i18 out19 o hF
  intro c hc Q hq
  obtain rfl:c=_:=ZQ hc rfl
  refine kN fun hk hs=> ?_
  have b28:=hk 28
  simp -dsimp at b28
  have d2:=hs 2 _ rfl
  simp -dsimp[Blk.bnd]at d2
  clear hk hs
  refine eN ?_
  repeat first|refine cg ?_|simp -dsimp
  revert hF;refine aS ?_ ?_<;>intro h20 q21 hF
  ·have z22:((i18:Int)<(x2.args.length:Int)):=auz
   have hF:=ob hF;obtain⟨x23,e24,hF⟩:=hF
   have le24:=ZD e24
   repeat first|refine cg ?_|simp -dsimp[h20,z22,↓e24]
   revert hF;refine aS ?_ ?_<;>intro h25 q26 hF
   ·have hF:=oc hF;obtain⟨c27,hF⟩:=hF
    have w28:i64.wrap ((i18:Int)+1)=(i18:Int)+1:=ZF (by omega) (by omega)
    repeat first|refine cg ?_|simp -dsimp[h20,z22,↓e24,h25,w28]
    refine aG _ ?_ ((ih_f123 (i18+1) (out19++[(⟨x23.data,x2.index⟩:Ty)]) o hF) _ rfl _ hq)
    exact(gT (by simp) (by first|simp -dsimp[h20,z22,↓e24,h25,w28];done|simp_all))
   ·have hF:=oc hF;obtain⟨c29,hF⟩:=hF
    have w30:i64.wrap ((i18:Int)+1)=(i18:Int)+1:=ZF (by omega) (by omega)
    repeat first|refine cg ?_|simp -dsimp[h20,z22,↓e24,h25,q26,w30]
    refine aG _ ?_ ((ih_f123 (i18+1) (out19++[x23]) o hF) _ rfl _ hq)
    exact(gT (by simp) (by first|simp -dsimp[h20,z22,↓e24,h25,q26,w30];done|simp_all))
  ·have z22:¬((i18:Int)<(x2.args.length:Int)):=auz
   cases hF
   repeat first|refine cg ?_|simp -dsimp[h20,q21,z22]
   refine lG _ (gT (by simp) (by first|simp -dsimp[h20,q21,z22];done|simp_all)) hq
theorem C.f124 (w:List Vl.Data)(t:Ty)(ctor:Int)(r:List Ty)(hF:F.f124 w t ctor=some r):PureCall Tryz.prog B 99 [am Vl.Data.c w,.agg [li t.data,li t.index],li ctor] (am Ty.c r):=by
 unfold F.f124 at hF
 refine pE Tryz.func99 (by kernel_rfl) rfl Tryz.ntmps99 (by simp) (by simp) ?_
 have hF:=ob hF;obtain⟨x,e1a,hF⟩:=hF
 have e1a:=ZT e1a;obtain⟨ne1,e1⟩:=e1a
 have le1:=ZD e1
 have hF:=ob hF;obtain⟨x2,e3a,hF⟩:=hF
 have e3a:=ZT e3a;obtain⟨ne3,e3⟩:=e3a
 have le3:=ZD e3
 repeat first|refine cg ?_|simp -dsimp[↓e1,↓e3]
 revert hF;refine aS ?_ ?_<;>intro h4 q5 hF
 ·repeat first|refine cg ?_|simp -dsimp[↓e1,↓e3,h4]
  have hF:=ob hF;obtain⟨o',ho17,hF⟩:=hF
  refine ALoop.goU ⟨[(8,.lit (.int .i64 t.index)),(9,.own 2 (List.length (α:=Ty) [])),(28,.arr (List.map Ty.c x2.args)),(29,.lit (.int .i64 (x2.args.length:Int))),(30,.lit (.int .i64 0))],[.dead,.dead,.elems 2 (List.map Ty.c [])]⟩ (by refine Gh.trans (Gh.nil 9 2 (by simp -dsimp)) ?_;exact(gT (by simp) (by first|simp -dsimp[↓e1,↓e3,h4];done|simp_all))) ?_
  refine((CC.f122 B hB1 hB2 t x2) 0 [] o' ho17) _ rfl _ ?_
  cases hF
  repeat first|refine cg ?_|simp -dsimp
  all_goals(try first|omega|rfl)
 ·repeat first|refine cg ?_|simp -dsimp[↓e1,↓e3,h4,q5]
  have hF:=ob hF;obtain⟨o'32,ho31,hF⟩:=hF
  refine ALoop.goU ⟨[(8,.lit (.int .i64 x2.index)),(9,.own 2 (List.length (α:=Ty) [])),(28,.arr (List.map Ty.c x2.args)),(29,.lit (.int .i64 (x2.args.length:Int))),(30,.lit (.int .i64 0))],[.dead,.dead,.elems 2 (List.map Ty.c [])]⟩ (by refine Gh.trans (Gh.nil 9 2 (by simp -dsimp)) ?_;exact(gT (by simp) (by first|simp -dsimp[↓e1,↓e3,h4,q5];done|simp_all))) ?_
  refine((CC.f123 B hB1 hB2 x2) 0 [] o'32 ho31) _ rfl _ ?_
  cases hF
  repeat first|refine cg ?_|simp -dsimp
  all_goals(try first|omega|rfl)
theorem C.f125 (w:List Vl.Data)(t:Ty)(p:Pattern)(r:(List Ty)×Bool)(hF:F.f125 w t p=some r):PureCall Tryz.prog B 76 [am Vl.Data.c w,.agg [li t.data,li t.index],.agg [li p.op,li p.ctor,li p.n,li p.m,li p.var,am Pattern.c p.kids]] (.tup [am Ty.c r.1,.lit (.bool r.2)]):=by
 unfold F.f125 at hF
 refine pE Tryz.func76 (by kernel_rfl) rfl Tryz.ntmps76 (by simp) (by simp) ?_
 repeat first|refine cg ?_|simp -dsimp
 revert hF;refine aS ?_ ?_<;>intro h1 q2 hF
 ·repeat first|refine cg ?_|simp -dsimp[h1]
  have hF:=ob hF;obtain⟨v,e3,hF⟩:=hF
  refine((C.f115 B hB1 hB2 p false false false 0 v e3)).goW (by first|simp[h1];done|simp_all) (by simp) ?_
  cases hF
  repeat first|refine cg ?_|simp -dsimp[h1]
  all_goals(try first|omega|rfl)
 ·repeat first|refine cg ?_|simp -dsimp[h1,q2]
  revert hF;refine aS ?_ ?_<;>intro h4 q5 hF
  ·repeat first|refine cg ?_|simp -dsimp[h1,q2,h4]
   have hF:=ob hF;obtain⟨v6,e7,hF⟩:=hF
   refine((C.f115 B hB1 hB2 p false false true 0 v6 e7)).goW (by first|simp[h1,q2,h4];done|simp_all) (by simp) ?_
   repeat first|refine cg ?_|simp -dsimp[h1,q2,h4]
   revert hF;refine aS (fun h8 q9 hF=> ?_) (fun h8 q9 hF=> ?_)
   ·repeat first|refine cg ?_|simp -dsimp[h1,q2,h4,h8]
    have hF:=ob hF;obtain⟨v10,e11,hF⟩:=hF
    refine((C.f116 B hB1 hB2 p.var v10 e11)).goW (by first|simp[h1,q2,h4,h8];done|simp_all) (by simp) ?_
    cases hF
    repeat first|refine cg ?_|simp -dsimp[h1,q2,h4,h8]
    all_goals(try first|omega|rfl)
   ·cases hF
    repeat first|refine cg ?_|simp -dsimp[h1,q2,h4,h8,q9]
    all_goals(try first|omega|rfl)
  ·repeat first|refine cg ?_|simp -dsimp[h1,q2,h4,q5]
   revert hF;refine aS ?_ ?_<;>intro h12 q13 hF
   ·repeat first|refine cg ?_|simp -dsimp[h1,q2,h4,q5,h12]
    refine ADraw.simple follows (by kernel_rfl) (by kernel_rfl) ?_
    repeat first|refine cg ?_|simp -dsimp[h1,q2,h4,q5,h12]
    revert hF;refine aS ?_ ?_<;>intro h14 q15 hF
    ·repeat first|refine cg ?_|simp -dsimp[h1,q2,h4,q5,h12,h14]
     have hF:=ob hF;obtain⟨v16,e17,hF⟩:=hF
     refine((C.f115 B hB1 hB2 p false true false 0 v16 e17)).pgoW (by first|simp[h1,q2,h4,q5,h12,h14];done|simp_all) (by simp) ?_
     repeat first|refine cg ?_|simp -dsimp[h1,q2,h4,q5,h12,h14]
     revert hF;refine aS (fun h18 q19 hF=> ?_) (fun h18 q19 hF=> ?_)
     ·repeat first|refine cg ?_|simp -dsimp[h1,q2,h4,q5,h12,h14,h18]
      revert hF;refine aS ?_ ?_<;>intro h20 q21 hF
      ·repeat first|refine cg ?_|simp -dsimp[h1,q2,h4,q5,h12,h14,h18,h20]
       revert hF;refine aS ?_ ?_<;>intro h22 q23 hF
       ·cases hF
        repeat first|refine cg ?_|simp -dsimp[h1,q2,h4,q5,h12,h14,h18,h20,h22]
        all_goals(try first|omega|rfl)
       ·cases hF
        repeat first|refine cg ?_|simp -dsimp[h1,q2,h4,q5,h12,h14,h18,h20,h22,q23]
        all_goals(try first|omega|rfl)
      ·cases hF
       repeat first|refine cg ?_|simp -dsimp[h1,q2,h4,q5,h12,h14,h18,h20,q21]
       all_goals(try first|omega|rfl)
     ·cases hF
      repeat first|refine cg ?_|simp -dsimp[h1,q2,h4,q5,h12,h14,h18,q19]
      all_goals(try first|omega|rfl)
    ·cases hF
     repeat first|refine cg ?_|simp -dsimp[h1,q2,h4,q5,h12,h14,q15]
     all_goals(try first|omega|rfl)
   ·repeat first|refine cg ?_|simp -dsimp[h1,q2,h4,q5,h12,q13]
    revert hF;refine aS ?_ ?_<;>intro h24 q25 hF
    ·repeat first|refine cg ?_|simp -dsimp[h1,q2,h4,q5,h12,q13,h24]
     refine ADraw.simple follows (by kernel_rfl) (by kernel_rfl) ?_
     repeat first|refine cg ?_|simp -dsimp[h1,q2,h4,q5,h12,q13,h24]
     have hF:=ob hF;obtain⟨v26,e27,hF⟩:=hF
     refine((C.f118 B hB1 hB2 w t v26 e27)).pgoW (by first|simp[h1,q2,h4,q5,h12,q13,h24];done|simp_all) (by simp) ?_
     repeat first|refine cg ?_|simp -dsimp[h1,q2,h4,q5,h12,q13,h24]
     have hF:=ob hF;obtain⟨v28,e29,hF⟩:=hF
     refine((C.f121 B hB1 hB2 v26 p.ctor v28 e29)).pgoW (by first|simp[h1,q2,h4,q5,h12,q13,h24];done|simp_all) (by simp) ?_
     repeat first|refine cg ?_|simp -dsimp[h1,q2,h4,q5,h12,q13,h24]
     revert hF;refine aN (fun h30 q31 hF=> ?_) (fun h30 q31 hF=> ?_)
     ·cases hF
      repeat first|refine cg ?_|simp -dsimp[h1,q2,h4,q5,h12,q13,h24,h30,q31]
      all_goals(try first|omega|rfl)
     ·repeat first|refine cg ?_|simp -dsimp[h1,q2,h4,q5,h12,q13,h24,h30,q31]
      have hF:=ob hF;obtain⟨v32,e33,hF⟩:=hF
      refine((C.f124 B hB1 hB2 w t p.ctor v32 e33)).goW (by first|simp[h1,q2,h4,q5,h12,q13,h24,h30,q31];done|simp_all) (by simp) ?_
      repeat first|refine cg ?_|simp -dsimp[h1,q2,h4,q5,h12,q13,h24,h30,q31]
      have hF:=ob hF;obtain⟨v34,e35,hF⟩:=hF
      refine((C.f115 B hB1 hB2 p true false false (v32.length:Int) v34 e35)).goW (by first|simp[h1,q2,h4,q5,h12,q13,h24,h30,q31];done|simp_all) (by simp) ?_
      cases hF
      repeat first|refine cg ?_|simp -dsimp[h1,q2,h4,q5,h12,q13,h24,h30,q31]
      all_goals(try first|omega|rfl)
    ·repeat first|refine cg ?_|simp -dsimp[h1,q2,h4,q5,h12,q13,h24,q25]
     revert hF;refine aS ?_ ?_<;>intro h36 q37 hF
     ·repeat first|refine cg ?_|simp -dsimp[h1,q2,h4,q5,h12,q13,h24,q25,h36]
      refine ADraw.eff [] [(0,0),(0,0),(0,1),(0,1),(0,1),(1,1),(1,1)] [1,1,1,2,1,1,1] follows (by kernel_rfl) (by kernel_rfl) (by kernel_rfl) ?_
      repeat first|refine cg ?_|simp -dsimp[h1,q2,h4,q5,h12,q13,h24,q25,h36]
      have hF:=ob hF;obtain⟨v38,e39,hF⟩:=hF
      refine((C.f115 B hB1 hB2 p false false false 2 v38 e39)).pgoW (by first|simp[h1,q2,h4,q5,h12,q13,h24,q25,h36];done|simp_all) (by simp) ?_
      cases hF
      repeat first|refine cg ?_|simp -dsimp[h1,q2,h4,q5,h12,q13,h24,q25,h36]
      all_goals(try first|omega|rfl)
     ·repeat first|refine cg ?_|simp -dsimp[h1,q2,h4,q5,h12,q13,h24,q25,h36,q37]
      revert hF;refine aS ?_ ?_<;>intro h40 q41 hF
      ·repeat first|refine cg ?_|simp -dsimp[h1,q2,h4,q5,h12,q13,h24,q25,h36,q37,h40]
       refine ADraw.eff [] [(0,0),(0,1),(0,1),(0,1),(0,1),(0,1),(0,1),(0,1),(0,1),(1,1),(1,1)] [1,1,2,1,1,0,2,1,1,1,1] follows (by kernel_rfl) (by kernel_rfl) (by kernel_rfl) ?_
       repeat first|refine cg ?_|simp -dsimp[h1,q2,h4,q5,h12,q13,h24,q25,h36,q37,h40]
       have hF:=ob hF;obtain⟨v42,e43,hF⟩:=hF
       refine((C.f115 B hB1 hB2 p false false true 1 v42 e43)).pgoW (by first|simp[h1,q2,h4,q5,h12,q13,h24,q25,h36,q37,h40];done|simp_all) (by simp) ?_
       repeat first|refine cg ?_|simp -dsimp[h1,q2,h4,q5,h12,q13,h24,q25,h36,q37,h40]
       revert hF;refine aS (fun h44 q45 hF=> ?_) (fun h44 q45 hF=> ?_)
       ·repeat first|refine cg ?_|simp -dsimp[h1,q2,h4,q5,h12,q13,h24,q25,h36,q37,h40,h44]
        have hF:=ob hF;obtain⟨v46,e47,hF⟩:=hF
        refine((C.f116 B hB1 hB2 p.var v46 e47)).pgoW (by first|simp[h1,q2,h4,q5,h12,q13,h24,q25,h36,q37,h40,h44];done|simp_all) (by simp) ?_
        cases hF
        repeat first|refine cg ?_|simp -dsimp[h1,q2,h4,q5,h12,q13,h24,q25,h36,q37,h40,h44]
        all_goals(try first|omega|rfl)
       ·skip
        cases hF
        repeat first|refine cg ?_|simp -dsimp[h1,q2,h4,q5,h12,q13,h24,q25,h36,q37,h40,h44,q45]
        all_goals(try first|omega|rfl)
      ·cases hF
       repeat first|refine cg ?_|simp -dsimp[h1,q2,h4,q5,h12,q13,h24,q25,h36,q37,h40,q41]
       all_goals(try first|omega|rfl)
theorem CC.f126 (s:List VarType)(v:VarType):(∀(i:Nat) (o:Lo Int Unit),F.f126 s v i=some o->∀(c:Code),Zq [1,0,1,0,0] (ZJ Tryz.f78)=some c->∀(Q:Exit->ASt->Prop),o.post (fun r=>∀st,ZAe Tryz.prog Tryz.f78 (fun r' _=>r'.le (li r)) .ret st->Q .ret st) (fun s=>Q (.exit 0) ⟨[],[]⟩)->ALoopU Tryz.prog B 0 19 (hold c .mk) ⟨[(0,am VarType.c s),(3,.ptr 0 0),(7,li (s.length:Int)),(8,li (i:Int))],[.cells [li v.var,li v.type.data,li v.type.index]]⟩ (hold Q .mk)):=by
 refine F.f126.partial_correctness s v
  _
  ?_
 ·intro _f_f126 ih_f126 i o hF
  intro c hc Q hq
  obtain rfl:c=_:=ZQ hc rfl
  refine kN fun hk hs=> ?_
  have b0:=hk 0
  simp -dsimp at b0
  clear hk hs
  refine eN ?_
  repeat first|refine cg ?_|simp -dsimp
  revert hF;refine aS ?_ ?_<;>intro h1 q2 hF
  ·have z3:((i:Int)<(s.length:Int)):=auz
   repeat first|refine cg ?_|simp -dsimp[h1,z3]
   refine ADraw.simple follows (by kernel_rfl) (by kernel_rfl) ?_
   have hF:=ob hF;obtain⟨x,e4,hF⟩:=hF
   have le4:=ZD e4
   repeat first|refine cg ?_|simp -dsimp[h1,z3,↓e4]
   revert hF;refine aS (fun h5 q6 hF=> ?_) (fun h5 q6 hF=> ?_)
   ·cases hF
    repeat first|refine cg ?_|simp -dsimp[h1,z3,↓e4,h5]
    refine lG _ (gR _) (hq _ ?_)
    repeat first|refine cg ?_|simp -dsimp[h1,z3,↓e4,h5]
   ·have w7:i64.wrap ((i:Int)+1)=(i:Int)+1:=ZF (by omega) (by omega)
    repeat first|refine cg ?_|simp -dsimp[h1,z3,↓e4,h5,q6,w7]
    refine aG _ ?_ ((ih_f126 (i+1) o hF) _ rfl _ hq)
    exact(gT (by simp) (by first|simp -dsimp[h1,z3,↓e4,h5,q6,w7];done|simp_all))
  ·have z3:¬((i:Int)<(s.length:Int)):=auz
   cases hF
   repeat first|refine cg ?_|simp -dsimp[h1,q2,z3]
   refine lG _ (gT (by simp) (by first|simp -dsimp[h1,q2,z3];done|simp_all)) hq
theorem C.f127 (s:List VarType)(v:VarType)(r:Int)(hF:F.f127 s v=some r):PureCall Tryz.prog B 78 [am VarType.c s,.agg [li v.var,li v.type.data,li v.type.index]] (li r):=by
 unfold F.f127 at hF
 refine pE Tryz.func78 (by kernel_rfl) rfl Tryz.ntmps78 (by simp) (by simp) ?_
 repeat first|refine cg ?_|simp -dsimp
 have hF:=ob hF;obtain⟨o',ho8,hF⟩:=hF
 refine ALoop.goU _ ?_ (((CC.f126 B hB1 hB2 s v) 0 o' ho8) _ rfl _ ?_)
 ·exact(gT (by simp) (by simp -dsimp))
 rcases o' with r0|sx
 ·dsimp only at hF
  cases hF
  intro st h
  simpa using h
 ·dsimp only at hF
  cases hF
  repeat first|refine cg ?_|simp -dsimp
  all_goals(try first|omega|rfl)
theorem C.f128 (s:List VarType)(v:VarType)(r:Bool)(hF:F.f128 s v=some r):PureCall Tryz.prog B 47 [am VarType.c s,.agg [li v.var,li v.type.data,li v.type.index]] (.lit (.bool r)):=by
 unfold F.f128 at hF
 refine pE Tryz.func47 (by kernel_rfl) rfl Tryz.ntmps47 (by simp) (by simp) ?_
 repeat first|refine cg ?_|simp -dsimp
 have hF:=ob hF;obtain⟨v1,e2,hF⟩:=hF
 refine((C.f127 B hB1 hB2 s v v1 e2)).goW (by simp) (by simp) ?_
 cases hF
 repeat first|refine cg ?_|simp -dsimp
 all_goals(try first|omega|rfl)
theorem C.f129 (v:VarType)(a1:List VarType)(r:Bool)(hF:F.f129 v a1=some r):PureCall Tryz.prog B 101 [.agg [li v.var,li v.type.data,li v.type.index],.rptr [am VarType.c a1] 0] (.lit (.bool r)):=by
 unfold F.f129 at hF
 refine pE Tryz.func101 (by kernel_rfl) rfl Tryz.ntmps101 (by simp) (by simp) ?_
 repeat first|refine cg ?_|simp -dsimp
 have hF:=ob hF;obtain⟨v1,e2,hF⟩:=hF
 refine((C.f128 B hB1 hB2 a1 v v1 e2)).goW (by simp) (by simp) ?_
 cases hF
 repeat first|refine cg ?_|simp -dsimp
 all_goals(try first|omega|rfl)
theorem CC.f130 (s:List VarType)(k0:List VarType):(∀(i:Nat) (o:Lo Int Unit),F.f130 s k0 i=some o->∀(c:Code),Zq [1,0,1,0,0] (ZJ Tryz.f109)=some c->∀(Q:Exit->ASt->Prop),o.post (fun r=>∀st,ZAe Tryz.prog Tryz.f109 (fun r' _=>r'.le (li r)) .ret st->Q .ret st) (fun s=>Q (.exit 0) ⟨[],[]⟩)->ALoopU Tryz.prog B 0 19 (hold c .mk) ⟨[(0,am VarType.c s),(1,.fn (.func 101) [] [.rptr [am VarType.c k0] 0]),(7,li (s.length:Int)),(8,li (i:Int))],[]⟩ (hold Q .mk)):=by
 refine F.f130.partial_correctness s k0
  _
  ?_
 ·intro _f_f130 ih_f130 i o hF
  intro c hc Q hq
  obtain rfl:c=_:=ZQ hc rfl
  refine kN fun hk hs=> ?_
  have b0:=hk 0
  simp -dsimp at b0
  clear hk hs
  refine eN ?_
  repeat first|refine cg ?_|simp -dsimp
  revert hF;refine aS ?_ ?_<;>intro h1 q2 hF
  ·have z3:((i:Int)<(s.length:Int)):=auz
   have hF:=ob hF;obtain⟨x,e4,hF⟩:=hF
   have le4:=ZD e4
   repeat first|refine cg ?_|simp -dsimp[h1,z3,↓e4]
   have hF:=ob hF;obtain⟨v,e5,hF⟩:=hF
   refine((C.f129 B hB1 hB2 x k0 v e5)).goW (by first|simp[h1,z3,↓e4];done|simp_all) (by simp) ?_
   repeat first|refine cg ?_|simp -dsimp[h1,z3,↓e4]
   revert hF;refine aS (fun h6 q7 hF=> ?_) (fun h6 q7 hF=> ?_)
   ·cases hF
    repeat first|refine cg ?_|simp -dsimp[h1,z3,↓e4,h6]
    refine lG _ (gR _) (hq _ ?_)
    repeat first|refine cg ?_|simp -dsimp[h1,z3,↓e4,h6]
   ·have w8:i64.wrap ((i:Int)+1)=(i:Int)+1:=ZF (by omega) (by omega)
    repeat first|refine cg ?_|simp -dsimp[h1,z3,↓e4,h6,q7,w8]
    refine aG _ ?_ ((ih_f130 (i+1) o hF) _ rfl _ hq)
    exact(gT (by simp) (by first|simp -dsimp[h1,z3,↓e4,h6,q7,w8];done|simp_all))
  ·have z3:¬((i:Int)<(s.length:Int)):=auz
   cases hF
   repeat first|refine cg ?_|simp -dsimp[h1,q2,z3]
   refine lG _ (gT (by simp) (by first|simp -dsimp[h1,q2,z3];done|simp_all)) hq
theorem C.f131 (s:List VarType)(k0:List VarType)(r:Int)(hF:F.f131 s k0=some r):PureCall Tryz.prog B 109 [am VarType.c s,.fn (.func 101) [] [.rptr [am VarType.c k0] 0]] (li r):=by
 unfold F.f131 at hF
 refine pE Tryz.func109 (by kernel_rfl) rfl Tryz.ntmps109 (by simp) (by simp) ?_
 repeat first|refine cg ?_|simp -dsimp
 have hF:=ob hF;obtain⟨o',ho9,hF⟩:=hF
 refine ALoop.goU _ ?_ (((CC.f130 B hB1 hB2 s k0) 0 o' ho9) _ rfl _ ?_)
 ·exact(gT (by simp) (by simp -dsimp))
 rcases o' with r0|sx
 ·dsimp only at hF
  cases hF
  intro st h
  simpa using h
 ·dsimp only at hF
  cases hF
  repeat first|refine cg ?_|simp -dsimp
  all_goals(try first|omega|rfl)
theorem C.f132 (s:List VarType)(k0:List VarType)(r:Bool)(hF:F.f132 s k0=some r):PureCall Tryz.prog B 100 [am VarType.c s,.fn (.func 101) [] [.rptr [am VarType.c k0] 0]] (.lit (.bool r)):=by
 unfold F.f132 at hF
 refine pE Tryz.func100 (by kernel_rfl) rfl Tryz.ntmps100 (by simp) (by simp) ?_
 repeat first|refine cg ?_|simp -dsimp
 have hF:=ob hF;obtain⟨v,e1,hF⟩:=hF
 refine((C.f131 B hB1 hB2 s k0 v e1)).goW (by simp) (by simp) ?_
 cases hF
 repeat first|refine cg ?_|simp -dsimp
 all_goals(try first|omega|rfl)
theorem C.f133 (a:List VarType)(b:List VarType)(r:Bool)(hF:F.f133 a b=some r):PureCall Tryz.prog B 77 [am VarType.c a,am VarType.c b] (.lit (.bool r)):=by
 unfold F.f133 at hF
 refine pE Tryz.func77 (by kernel_rfl) rfl Tryz.ntmps77 (by simp) (by simp) ?_
 repeat first|refine cg ?_|simp -dsimp
 revert hF;refine aS ?_ ?_<;>intro h1 q2 hF
 ·have z3:((a.length:Int)=(b.length:Int)):=auz
  repeat first|refine cg ?_|simp -dsimp[h1,z3]
  have hF:=ob hF;obtain⟨v,e4,hF⟩:=hF
  refine((C.f132 B hB1 hB2 a b v e4)).lend (by first|simp -dsimp[h1,z3];done|simp_all) (by simp -dsimp) ?_
  cases hF
  repeat first|refine cg ?_|simp -dsimp[h1,z3]
  all_goals(try first|omega|rfl)
 ·have z3:¬((a.length:Int)=(b.length:Int)):=auz
  cases hF
  repeat first|refine cg ?_|simp -dsimp[h1,q2,z3]
  all_goals(try first|omega|rfl)
theorem CC.f134 (sx:Int×(List VarType)):(∀(set':Nat->Bool) (i37:Nat) (o:Lo ((List VarType)×Bool×Int) Unit),F.f134 sx set' i37=some o->∀(c:Code),Zq [1,1,1,1,1,1,1,1,1,0,1,0,0] (ZJ Tryz.f46)=some c->∀(Q:Exit->ASt->Prop),o.post (fun r=>∀st,ZAe Tryz.prog Tryz.f46 (fun r' σ'=>r'.le (.tup [am VarType.c r.1,.lit (.bool r.2.1)])/\ZBC σ' [li r.2.2]) .ret st->Q .ret st) (fun s=>Q (.exit 3) ⟨[(14,.own 4 (List.length (α:=VarType) sx.2))],[.cells [li sx.1],.dead,.dead,.dead,.elems 3 (List.map VarType.c sx.2)]⟩)->ALoopU Tryz.prog B 1 114 (hold c .mk) ⟨[(14,.own 4 (List.length (α:=VarType) sx.2)),(19,.ptr 5 0),(99,.own 4 (List.length (α:=VarType) sx.2)),(100,li (sx.2.length:Int)),(101,li (i37:Int))],[.cells [li sx.1],.dead,.dead,.dead,.elems 3 (List.map VarType.c sx.2),.cells (fcB 6 set')]⟩ (hold Q .mk)):=by
 refine F.f134.partial_correctness sx
  _
  ?_
 ·intro _f_f134 ih_f134 set' i37 o hF
  intro c hc Q hq
  obtain rfl:c=_:=ZQ hc rfl
  refine kN fun hk hs=> ?_
  have d4:=hs 4 _ rfl
  simp -dsimp[Blk.bnd]at d4
  clear hk hs
  refine eN ?_
  repeat first|refine cg ?_|simp -dsimp
  revert hF;refine aS ?_ ?_<;>intro h38 q39 hF
  ·have z40:((i37:Int)<(sx.2.length:Int)):=auz
   have hF:=ob hF;obtain⟨x41,e42,hF⟩:=hF
   have le42:=ZD e42
   have hF:=oc hF;obtain⟨c43,hF⟩:=hF
   repeat first|refine cg ?_|simp -dsimp[h38,z40,↓e42,c43]
   revert hF;refine aS (fun h44 q45 hF=> ?_) (fun h44 q45 hF=> ?_)
   ·cases hF
    repeat first|refine cg ?_|simp -dsimp[h38,z40,↓e42,c43,h44]
    refine lG _ (gR _) (hq _ ?_)
    repeat first|refine cg ?_|simp -dsimp[h38,z40,↓e42,c43,h44]
   ·have w46:i64.wrap ((i37:Int)+1)=(i37:Int)+1:=ZF (by omega) (by omega)
    repeat first|refine cg ?_|simp -dsimp[h38,z40,↓e42,c43,h44,q45,w46]
    refine aG _ ?_ ((ih_f134 (ZF9 set' x41.var.toNat true) (i37+1) o hF) _ rfl _ hq)
    exact(gT (by simp) (by first|simp -dsimp[h38,z40,↓e42,c43,h44,q45,w46];done|simp_all))
  ·have z40:¬((i37:Int)<(sx.2.length:Int)):=auz
   cases hF
   repeat first|refine cg ?_|simp -dsimp[h38,q39,z40]
   refine lG _ (gT (by simp) (by first|simp -dsimp[h38,q39,z40];done|simp_all)) hq
theorem CC.f135 (sx81:Int×(List VarType)):(∀(set'82:Nat->Bool) (i83:Nat) (o:Lo ((List VarType)×Bool×Int) Unit),F.f135 sx81 set'82 i83=some o->∀(c:Code),Zq [1,1,1,1,1,1,1,1,1,0,1,0,0] (ZJ Tryz.f46)=some c->∀(Q:Exit->ASt->Prop),o.post (fun r=>∀st,ZAe Tryz.prog Tryz.f46 (fun r' σ'=>r'.le (.tup [am VarType.c r.1,.lit (.bool r.2.1)])/\ZBC σ' [li r.2.2]) .ret st->Q .ret st) (fun s=>Q (.exit 3) ⟨[(14,.own 3 (List.length (α:=VarType) sx81.2))],[.cells [li sx81.1],.dead,.dead,.elems 3 (List.map VarType.c sx81.2)]⟩)->ALoopU Tryz.prog B 1 114 (hold c .mk) ⟨[(14,.own 3 (List.length (α:=VarType) sx81.2)),(19,.ptr 4 0),(99,.own 3 (List.length (α:=VarType) sx81.2)),(100,li (sx81.2.length:Int)),(101,li (i83:Int))],[.cells [li sx81.1],.dead,.dead,.elems 3 (List.map VarType.c sx81.2),.cells (fcB 6 set'82)]⟩ (hold Q .mk)):=by
 refine F.f135.partial_correctness sx81
  _
  ?_
 ·intro _f_f135 ih_f135 set'82 i83 o hF
  intro c hc Q hq
  obtain rfl:c=_:=ZQ hc rfl
  refine kN fun hk hs=> ?_
  have d3:=hs 3 _ rfl
  simp -dsimp[Blk.bnd]at d3
  clear hk hs
  refine eN ?_
  repeat first|refine cg ?_|simp -dsimp
  revert hF;refine aS ?_ ?_<;>intro h84 q85 hF
  ·have z86:((i83:Int)<(sx81.2.length:Int)):=auz
   have hF:=ob hF;obtain⟨x87,e88,hF⟩:=hF
   have le88:=ZD e88
   have hF:=oc hF;obtain⟨c89,hF⟩:=hF
   repeat first|refine cg ?_|simp -dsimp[h84,z86,↓e88,c89]
   revert hF;refine aS (fun h90 q91 hF=> ?_) (fun h90 q91 hF=> ?_)
   ·cases hF
    repeat first|refine cg ?_|simp -dsimp[h84,z86,↓e88,c89,h90]
    refine lG _ (gR _) (hq _ ?_)
    repeat first|refine cg ?_|simp -dsimp[h84,z86,↓e88,c89,h90]
   ·have w92:i64.wrap ((i83:Int)+1)=(i83:Int)+1:=ZF (by omega) (by omega)
    repeat first|refine cg ?_|simp -dsimp[h84,z86,↓e88,c89,h90,q91,w92]
    refine aG _ ?_ ((ih_f135 (ZF9 set'82 x87.var.toNat true) (i83+1) o hF) _ rfl _ hq)
    exact(gT (by simp) (by first|simp -dsimp[h84,z86,↓e88,c89,h90,q91,w92];done|simp_all))
  ·have z86:¬((i83:Int)<(sx81.2.length:Int)):=auz
   cases hF
   repeat first|refine cg ?_|simp -dsimp[h84,q85,z86]
   refine lG _ (gT (by simp) (by first|simp -dsimp[h84,q85,z86];done|simp_all)) hq
theorem CC.f136 (sx128:Int×(List VarType)):(∀(set'129:Nat->Bool) (i130:Nat) (o:Lo ((List VarType)×Bool×Int) Unit),F.f136 sx128 set'129 i130=some o->∀(c:Code),Zq [1,1,1,1,1,1,1,1,1,0,1,0,0] (ZJ Tryz.f46)=some c->∀(Q:Exit->ASt->Prop),o.post (fun r=>∀st,ZAe Tryz.prog Tryz.f46 (fun r' σ'=>r'.le (.tup [am VarType.c r.1,.lit (.bool r.2.1)])/\ZBC σ' [li r.2.2]) .ret st->Q .ret st) (fun s=>Q (.exit 3) ⟨[(14,.own 4 (List.length (α:=VarType) sx128.2))],[.cells [li sx128.1],.dead,.dead,.dead,.elems 3 (List.map VarType.c sx128.2)]⟩)->ALoopU Tryz.prog B 1 114 (hold c .mk) ⟨[(14,.own 4 (List.length (α:=VarType) sx128.2)),(19,.ptr 5 0),(99,.own 4 (List.length (α:=VarType) sx128.2)),(100,li (sx128.2.length:Int)),(101,li (i130:Int))],[.cells [li sx128.1],.dead,.dead,.dead,.elems 3 (List.map VarType.c sx128.2),.cells (fcB 6 set'129)]⟩ (hold Q .mk)):=by
 refine F.f136.partial_correctness sx128
  _
  ?_
 ·intro _f_f136 ih_f136 set'129 i130 o hF
  intro c hc Q hq
  obtain rfl:c=_:=ZQ hc rfl
  refine kN fun hk hs=> ?_
  have d4:=hs 4 _ rfl
  simp -dsimp[Blk.bnd]at d4
  clear hk hs
  refine eN ?_
  repeat first|refine cg ?_|simp -dsimp
  revert hF;refine aS ?_ ?_<;>intro h131 q132 hF
  ·have z133:((i130:Int)<(sx128.2.length:Int)):=auz
   have hF:=ob hF;obtain⟨x134,e135,hF⟩:=hF
   have le135:=ZD e135
   have hF:=oc hF;obtain⟨c136,hF⟩:=hF
   repeat first|refine cg ?_|simp -dsimp[h131,z133,↓e135,c136]
   revert hF;refine aS (fun h137 q138 hF=> ?_) (fun h137 q138 hF=> ?_)
   ·cases hF
    repeat first|refine cg ?_|simp -dsimp[h131,z133,↓e135,c136,h137]
    refine lG _ (gR _) (hq _ ?_)
    repeat first|refine cg ?_|simp -dsimp[h131,z133,↓e135,c136,h137]
   ·have w139:i64.wrap ((i130:Int)+1)=(i130:Int)+1:=ZF (by omega) (by omega)
    repeat first|refine cg ?_|simp -dsimp[h131,z133,↓e135,c136,h137,q138,w139]
    refine aG _ ?_ ((ih_f136 (ZF9 set'129 x134.var.toNat true) (i130+1) o hF) _ rfl _ hq)
    exact(gT (by simp) (by first|simp -dsimp[h131,z133,↓e135,c136,h137,q138,w139];done|simp_all))
  ·have z133:¬((i130:Int)<(sx128.2.length:Int)):=auz
   cases hF
   repeat first|refine cg ?_|simp -dsimp[h131,q132,z133]
   refine lG _ (gT (by simp) (by first|simp -dsimp[h131,q132,z133];done|simp_all)) hq
theorem CC.f137 (w:List Vl.Data):(∀(t:Ty) (p:Pattern) (deep:Int) (count:Int) (r:(List VarType)×Bool×Int),F.f137 w t p deep count=some r->MutCall Tryz.prog B 46 [li count] [am Vl.Data.c w,.agg [li t.data,li t.index],.agg [li p.op,li p.ctor,li p.n,li p.m,li p.var,am Pattern.c p.kids],li deep,.ptr 0 0] (.tup [am VarType.c r.1,.lit (.bool r.2.1)]) [li r.2.2])/\
  (∀(p:Pattern) (deep:Int) (v:(List Ty)×Bool) (z51:Int) (vars52:List VarType) (i53:Nat) (o:Lo ((List VarType)×Bool×Int) (Int×(List VarType))),F.f139 w p deep v z51 vars52 i53=some o->∀(c:Code),Zq [1,1,1,1,1,1,1,0,1,0,0] (ZJ Tryz.f46)=some c->∀(Q:Exit->ASt->Prop),o.post (fun r=>∀st,ZAe Tryz.prog Tryz.f46 (fun r' σ'=>r'.le (.tup [am VarType.c r.1,.lit (.bool r.2.1)])/\ZBC σ' [li r.2.2]) .ret st->Q .ret st) (fun s=>Q (.exit 0) ⟨[(14,.own 3 (List.length (α:=VarType) s.2))],[.cells [li s.1],.dead,.dead,.elems 3 (List.map VarType.c s.2)]⟩)->ALoopU Tryz.prog B 1 114 (hold c .mk) ⟨[(0,am Vl.Data.c w),(3,li deep),(4,.ptr 0 0),(7,.ptr 2 0),(12,am Ty.c v.1),(14,.own 3 (List.length (α:=VarType) vars52)),(60,am Pattern.c p.kids),(61,li (p.kids.length:Int)),(62,li (i53:Int))],[.cells [li z51],.dead,.cells [li p.op,li p.ctor,li p.n,li p.m,li p.var,am Pattern.c p.kids],.elems 3 (List.map VarType.c vars52)]⟩ (hold Q .mk))/\
  (∀(p:Pattern) (deep:Int) (v:(List Ty)×Bool) (z:Int) (vars:List VarType) (i:Nat) (o:Lo ((List VarType)×Bool×Int) (Int×(List VarType))),F.f138 w p deep v z vars i=some o->∀(c:Code),Zq [1,1,1,1,1,1,1,0,1,0,0] (ZJ Tryz.f46)=some c->∀(Q:Exit->ASt->Prop),o.post (fun r=>∀st,ZAe Tryz.prog Tryz.f46 (fun r' σ'=>r'.le (.tup [am VarType.c r.1,.lit (.bool r.2.1)])/\ZBC σ' [li r.2.2]) .ret st->Q .ret st) (fun s=>Q (.exit 0) ⟨[(14,.own 4 (List.length (α:=VarType) s.2))],[.cells [li s.1],.dead,.dead,.dead,.elems 3 (List.map VarType.c s.2)]⟩)->ALoopU Tryz.prog B 1 114 (hold c .mk) ⟨[(0,am Vl.Data.c w),(3,li deep),(4,.ptr 0 0),(7,.ptr 2 0),(12,am Ty.c v.1),(14,.own 4 (List.length (α:=VarType) vars)),(60,am Pattern.c p.kids),(61,li (p.kids.length:Int)),(62,li (i:Int))],[.cells [li z],.dead,.cells [li p.op,li p.ctor,li p.n,li p.m,li p.var,am Pattern.c p.kids],.dead,.elems 3 (List.map VarType.c vars)]⟩ (hold Q .mk))/\
  (∀(p:Pattern) (deep:Int) (v:(List Ty)×Bool) (z98:Int) (vars99:List VarType) (i100:Nat) (o:Lo ((List VarType)×Bool×Int) (Int×(List VarType))),F.f140 w p deep v z98 vars99 i100=some o->∀(c:Code),Zq [1,1,1,1,1,1,1,0,1,0,0] (ZJ Tryz.f46)=some c->∀(Q:Exit->ASt->Prop),o.post (fun r=>∀st,ZAe Tryz.prog Tryz.f46 (fun r' σ'=>r'.le (.tup [am VarType.c r.1,.lit (.bool r.2.1)])/\ZBC σ' [li r.2.2]) .ret st->Q .ret st) (fun s=>Q (.exit 0) ⟨[(14,.own 4 (List.length (α:=VarType) s.2))],[.cells [li s.1],.dead,.dead,.dead,.elems 3 (List.map VarType.c s.2)]⟩)->ALoopU Tryz.prog B 1 114 (hold c .mk) ⟨[(0,am Vl.Data.c w),(3,li deep),(4,.ptr 0 0),(7,.ptr 2 0),(12,am Ty.c v.1),(14,.own 4 (List.length (α:=VarType) vars99)),(60,am Pattern.c p.kids),(61,li (p.kids.length:Int)),(62,li (i100:Int))],[.cells [li z98],.dead,.cells [li p.op,li p.ctor,li p.n,li p.m,li p.var,am Pattern.c p.kids],.dead,.elems 3 (List.map VarType.c vars99)]⟩ (hold Q .mk)):=by
 refine F.f137.mutual_partial_correctness w
  _ _ _ _
  ?_ ?_ ?_ ?_
 ·intro _f_f139 _f_f138 _f_f140 ih_f139 ih_f138 ih_f140 t p deep count r hF
  refine MutCall.enter Tryz.func46 (by kernel_rfl) rfl Tryz.ntmps46 (by simp) (by simp) (by simp) (by simp) ?_
  repeat first|refine cg ?_|simp -dsimp
  revert hF;refine aN ?_ ?_<;>intro h1 q2 hF
  ·repeat first|refine cg ?_|simp -dsimp[h1,q2]
   revert hF;refine aS ?_ ?_<;>intro h3 q4 hF
   ·cases hF
    repeat first|refine cg ?_|simp -dsimp[h1,q2,h3]
    all_goals(try first|omega|rfl)
   ·repeat first|refine cg ?_|simp -dsimp[h1,q2,h3,q4]
    have hF:=ob hF;obtain⟨v,e5,hF⟩:=hF
    refine((C.f125 B hB1 hB2 w t p v e5)).goW (by first|simp[h1,q2,h3,q4];done|simp_all) (by simp) ?_
    repeat first|refine cg ?_|simp -dsimp[h1,q2,h3,q4]
    revert hF;refine aN (fun h6 q7 hF=> ?_) (fun h6 q7 hF=> ?_)
    ·cases hF
     repeat first|refine cg ?_|simp -dsimp[h1,q2,h3,q4,h6,q7]
     all_goals(try first|omega|rfl)
    ·repeat first|refine cg ?_|simp -dsimp[h1,q2,h3,q4,h6,q7]
     revert hF;refine aN ?_ ?_<;>intro h8 q9 hF
     ·repeat first|refine cg ?_|simp -dsimp[h1,q2,h3,q4,h6,q7,h8,q9]
      revert hF;refine aS ?_ ?_<;>intro h10 q11 hF
      ·repeat first|refine cg ?_|simp -dsimp[h1,q2,h3,q4,h6,q7,h8,q9,h10]
       have hF:=ob hF;obtain⟨o',ho36,hF⟩:=hF
       refine ALoop.goU _ ?_ ((ih_f138 p deep v (i64.wrap (count+1)) [(⟨p.var,t⟩:VarType)] 0 o' ho36) _ rfl _ ?_)
       ·exact(gT (by simp) (by first|simp -dsimp[h1,q2,h3,q4,h6,q7,h8,q9,h10];done|simp_all))
       rcases o' with r050|sx
       ·dsimp only at hF
        cases hF
        intro st h
        simpa using h
       ·dsimp only at hF
        repeat first|refine cg ?_|simp -dsimp
        have hF:=ob hF;obtain⟨o'48,ho47,hF⟩:=hF
        refine ALoop.goU _ ?_ (((CC.f134 B hB1 hB2 sx) (fun _=>false) 0 o'48 ho47) _ rfl _ ?_)
        ·exact(gT (by simp) (by simp -dsimp))
        rcases o'48 with r0|sx49
        ·dsimp only at hF
         cases hF
         intro st h
         simpa using h
        ·dsimp only at hF
         cases hF
         repeat first|refine cg ?_|simp -dsimp
         all_goals(try first|omega|rfl)
      ·repeat first|refine cg ?_|simp -dsimp[h1,q2,h3,q4,h6,q7,h8,q9,h10,q11]
       have hF:=ob hF;obtain⟨o'80,ho79,hF⟩:=hF
       refine ALoop.goU ⟨[(0,.arr (List.map Vl.Data.c w)),(3,.lit (.int .i64 deep)),(4,.ptr 0 0),(7,.ptr 2 0),(12,.arr (List.map Ty.c v.1)),(14,.own 3 (List.length (α:=VarType) [])),(60,.arr (List.map Pattern.c p.kids)),(61,.lit (.int .i64 (p.kids.length:Int))),(62,.lit (.int .i64 0))],[.cells [.lit (.int .i64 (i64.wrap (count+1)))],.dead,.cells [.lit (.int .i64 p.op),.lit (.int .i64 p.ctor),.lit (.int .i64 p.n),.lit (.int .i64 p.m),.lit (.int .i64 p.var),.arr (List.map Pattern.c p.kids)],.elems 3 (List.map VarType.c [])]⟩ (by refine Gh.trans (Gh.nil 14 3 (by simp -dsimp)) ?_;exact(gT (by simp) (by first|simp -dsimp[h1,q2,h3,q4,h6,q7,h8,q9,h10,q11];done|simp_all))) ?_
       refine(ih_f139 p deep v (i64.wrap (count+1)) [] 0 o'80 ho79) _ rfl _ ?_
       rcases o'80 with r097|sx81
       ·dsimp only at hF
        cases hF
        intro st h
        simpa using h
       ·dsimp only at hF
        repeat first|refine cg ?_|simp -dsimp
        have hF:=ob hF;obtain⟨o'94,ho93,hF⟩:=hF
        refine ALoop.goU _ ?_ (((CC.f135 B hB1 hB2 sx81) (fun _=>false) 0 o'94 ho93) _ rfl _ ?_)
        ·exact(gT (by simp) (by simp -dsimp))
        rcases o'94 with r096|sx95
        ·dsimp only at hF
         cases hF
         intro st h
         simpa using h
        ·dsimp only at hF
         cases hF
         repeat first|refine cg ?_|simp -dsimp
         all_goals(try first|omega|rfl)
     ·repeat first|refine cg ?_|simp -dsimp[h1,q2,h3,q4,h6,q7,h8,q9]
      have hF:=ob hF;obtain⟨o'127,ho126,hF⟩:=hF
      refine ALoop.goU _ ?_ ((ih_f140 p deep v (i64.wrap (count+1)) [(⟨p.var,t⟩:VarType)] 0 o'127 ho126) _ rfl _ ?_)
      ·exact(gT (by simp) (by first|simp -dsimp[h1,q2,h3,q4,h6,q7,h8,q9];done|simp_all))
      rcases o'127 with r0144|sx128
      ·dsimp only at hF
       cases hF
       intro st h
       simpa using h
      ·dsimp only at hF
       repeat first|refine cg ?_|simp -dsimp
       have hF:=ob hF;obtain⟨o'141,ho140,hF⟩:=hF
       refine ALoop.goU _ ?_ (((CC.f136 B hB1 hB2 sx128) (fun _=>false) 0 o'141 ho140) _ rfl _ ?_)
       ·exact(gT (by simp) (by simp -dsimp))
       rcases o'141 with r0143|sx142
       ·dsimp only at hF
        cases hF
        intro st h
        simpa using h
       ·dsimp only at hF
        cases hF
        repeat first|refine cg ?_|simp -dsimp
        all_goals(try first|omega|rfl)
  ·cases hF
   repeat first|refine cg ?_|simp -dsimp[h1,q2]
   all_goals(try first|omega|rfl)
 ·intro _f_f137 _f_f139 ih_f137 ih_f139 p deep v z51 vars52 i53 o hF
  intro c hc Q hq
  obtain rfl:c=_:=ZQ hc rfl
  refine kN fun hk hs=> ?_
  have b0:=hk 0
  simp -dsimp at b0
  have b12:=hk 12
  simp -dsimp at b12
  have b60:=hk 60
  simp -dsimp at b60
  have d2:=hs 2 _ rfl
  simp -dsimp[Blk.bnd]at d2
  have d3:=hs 3 _ rfl
  simp -dsimp[Blk.bnd]at d3
  clear hk hs
  refine eN ?_
  repeat first|refine cg ?_|simp -dsimp
  revert hF;refine aS ?_ ?_<;>intro h54 q55 hF
  ·have z56:((i53:Int)<(p.kids.length:Int)):=auz
   have hF:=ob hF;obtain⟨x57,e58,hF⟩:=hF
   have le58:=ZD e58
   repeat first|refine cg ?_|simp -dsimp[h54,z56,↓e58]
   refine ADraw.eff [46] [(0,0),(0,0),(0,0),(0,0),(0,0),(0,0),(0,0),(0,0),(0,0),(0,1),(1,1),(1,1),(1,1),(1,1),(1,1)] [1,1,1,1,1,1,1,1,1,1,1,1,1,1,1] follows (by kernel_rfl) (by kernel_rfl) (by kernel_rfl) ?_
   have hF:=ob hF;obtain⟨x59,e60,hF⟩:=hF
   have le60:=ZD e60
   repeat first|refine cg ?_|simp -dsimp[h54,z56,↓e58,↓e60]
   have hF:=ob hF;obtain⟨v61,e62,hF⟩:=hF
   refine((ih_f137 x59 x57 (i64.wrap (deep+1)) z51 v61 e62)).ego 0 rfl (by first|simp[h54,z56,↓e58,↓e60];done|simp_all) (by simp) (by first|simp[h54,z56,↓e58,↓e60];done|simp_all) ?_
   repeat first|refine cg ?_|simp -dsimp[h54,z56,↓e58,↓e60]
   revert hF;refine aN (fun h63 q64 hF=> ?_) (fun h63 q64 hF=> ?_)
   ·cases hF
    repeat first|refine cg ?_|simp -dsimp[h54,z56,↓e58,↓e60,h63,q64]
    refine lG _ (gR _) (hq _ ?_)
    repeat first|refine cg ?_|simp -dsimp[h54,z56,↓e58,↓e60,h63,q64]
   ·repeat first|refine cg ?_|simp -dsimp[h54,z56,↓e58,↓e60,h63,q64]
    revert hF;refine aS ?_ ?_<;>intro h65 q66 hF
    ·repeat first|refine cg ?_|simp -dsimp[h54,z56,↓e58,↓e60,h63,q64,h65]
     revert hF;refine aS ?_ ?_<;>intro h67 q68 hF
     ·have z69:((i53:Int)=1):=auz
      repeat first|refine cg ?_|simp -dsimp[h54,z56,↓e58,↓e60,h63,q64,h65,eq_true h67,eq_true z69]
      have hF:=ob hF;obtain⟨v70,e71,hF⟩:=hF
      refine((C.f133 B hB1 hB2 vars52 v61.1 v70 e71)).lend (by first|simp -dsimp[h54,z56,↓e58,↓e60,h63,q64,h65,eq_true h67,eq_true z69];done|simp_all) (by simp -dsimp) ?_
      repeat first|refine cg ?_|simp -dsimp[h54,z56,↓e58,↓e60,h63,q64,h65,eq_true h67,eq_true z69]
      revert hF;refine aN (fun h72 q73 hF=> ?_) (fun h72 q73 hF=> ?_)
      ·cases hF
       repeat first|refine cg ?_|simp -dsimp[h54,z56,↓e58,↓e60,h63,q64,h65,eq_true h67,eq_true z69,h72,q73]
       refine lG _ (gR _) (hq _ ?_)
       repeat first|refine cg ?_|simp -dsimp[h54,z56,↓e58,↓e60,h63,q64,h65,eq_true h67,eq_true z69,h72,q73]
      ·have w74:i64.wrap ((i53:Int)+1)=(i53:Int)+1:=ZF (by omega) (by omega)
       repeat first|refine cg ?_|simp -dsimp[h54,z56,↓e58,↓e60,h63,q64,h65,eq_true h67,eq_true z69,h72,q73,w74]
       refine aG _ ?_ ((ih_f139 p deep v v61.2.2 vars52 (i53+1) o hF) _ rfl _ hq)
       exact(gT (by simp) (by first|simp -dsimp[h54,z56,↓e58,↓e60,h63,q64,h65,eq_true h67,eq_true z69,h72,q73,w74];done|simp_all))
     ·have z69:¬((i53:Int)=1):=auz
      have hF:=oc hF;obtain⟨c75,hF⟩:=hF
      have w76:i64.wrap ((i53:Int)+1)=(i53:Int)+1:=ZF (by omega) (by omega)
      repeat first|refine cg ?_|simp -dsimp[h54,z56,↓e58,↓e60,h63,q64,h65,h67,q68,z69,w76]
      refine aG _ ?_ ((ih_f139 p deep v v61.2.2 (vars52++v61.1) (i53+1) o hF) _ rfl _ hq)
      exact(gT (by simp) (by first|simp -dsimp[h54,z56,↓e58,↓e60,h63,q64,h65,h67,q68,z69,w76];done|simp_all))
    ·have hF:=oc hF;obtain⟨c77,hF⟩:=hF
     have w78:i64.wrap ((i53:Int)+1)=(i53:Int)+1:=ZF (by omega) (by omega)
     repeat first|refine cg ?_|simp -dsimp[h54,z56,↓e58,↓e60,h63,q64,h65,q66,w78]
     refine aG _ ?_ ((ih_f139 p deep v v61.2.2 (vars52++v61.1) (i53+1) o hF) _ rfl _ hq)
     exact(gT (by simp) (by first|simp -dsimp[h54,z56,↓e58,↓e60,h63,q64,h65,q66,w78];done|simp_all))
  ·have z56:¬((i53:Int)<(p.kids.length:Int)):=auz
   cases hF
   repeat first|refine cg ?_|simp -dsimp[h54,q55,z56]
   refine lG _ (gT (by simp) (by first|simp -dsimp[h54,q55,z56];done|simp_all)) hq
 ·intro _f_f137 _f_f138 ih_f137 ih_f138 p deep v z vars i o hF
  intro c hc Q hq
  obtain rfl:c=_:=ZQ hc rfl
  refine kN fun hk hs=> ?_
  have b0:=hk 0
  simp -dsimp at b0
  have b12:=hk 12
  simp -dsimp at b12
  have b60:=hk 60
  simp -dsimp at b60
  have d2:=hs 2 _ rfl
  simp -dsimp[Blk.bnd]at d2
  have d4:=hs 4 _ rfl
  simp -dsimp[Blk.bnd]at d4
  clear hk hs
  refine eN ?_
  repeat first|refine cg ?_|simp -dsimp
  revert hF;refine aS ?_ ?_<;>intro h12 q13 hF
  ·have z14:((i:Int)<(p.kids.length:Int)):=auz
   have hF:=ob hF;obtain⟨x,e15,hF⟩:=hF
   have le15:=ZD e15
   repeat first|refine cg ?_|simp -dsimp[h12,z14,↓e15]
   refine ADraw.eff [46] [(0,0),(0,0),(0,0),(0,0),(0,0),(0,0),(0,0),(0,0),(0,0),(0,1),(1,1),(1,1),(1,1),(1,1),(1,1)] [1,1,1,1,1,1,1,1,1,1,1,1,1,1,1] follows (by kernel_rfl) (by kernel_rfl) (by kernel_rfl) ?_
   have hF:=ob hF;obtain⟨x16,e17,hF⟩:=hF
   have le17:=ZD e17
   repeat first|refine cg ?_|simp -dsimp[h12,z14,↓e15,↓e17]
   have hF:=ob hF;obtain⟨v18,e19,hF⟩:=hF
   refine((ih_f137 x16 x (i64.wrap (deep+1)) z v18 e19)).ego 0 rfl (by first|simp[h12,z14,↓e15,↓e17];done|simp_all) (by simp) (by first|simp[h12,z14,↓e15,↓e17];done|simp_all) ?_
   repeat first|refine cg ?_|simp -dsimp[h12,z14,↓e15,↓e17]
   revert hF;refine aN (fun h20 q21 hF=> ?_) (fun h20 q21 hF=> ?_)
   ·cases hF
    repeat first|refine cg ?_|simp -dsimp[h12,z14,↓e15,↓e17,h20,q21]
    refine lG _ (gR _) (hq _ ?_)
    repeat first|refine cg ?_|simp -dsimp[h12,z14,↓e15,↓e17,h20,q21]
   ·repeat first|refine cg ?_|simp -dsimp[h12,z14,↓e15,↓e17,h20,q21]
    revert hF;refine aS ?_ ?_<;>intro h22 q23 hF
    ·repeat first|refine cg ?_|simp -dsimp[h12,z14,↓e15,↓e17,h20,q21,h22]
     revert hF;refine aS ?_ ?_<;>intro h24 q25 hF
     ·have z26:((i:Int)=1):=auz
      repeat first|refine cg ?_|simp -dsimp[h12,z14,↓e15,↓e17,h20,q21,h22,eq_true h24,eq_true z26]
      have hF:=ob hF;obtain⟨v27,e28,hF⟩:=hF
      refine((C.f133 B hB1 hB2 vars v18.1 v27 e28)).lend (by first|simp -dsimp[h12,z14,↓e15,↓e17,h20,q21,h22,eq_true h24,eq_true z26];done|simp_all) (by simp -dsimp) ?_
      repeat first|refine cg ?_|simp -dsimp[h12,z14,↓e15,↓e17,h20,q21,h22,eq_true h24,eq_true z26]
      revert hF;refine aN (fun h29 q30 hF=> ?_) (fun h29 q30 hF=> ?_)
      ·cases hF
       repeat first|refine cg ?_|simp -dsimp[h12,z14,↓e15,↓e17,h20,q21,h22,eq_true h24,eq_true z26,h29,q30]
       refine lG _ (gR _) (hq _ ?_)
       repeat first|refine cg ?_|simp -dsimp[h12,z14,↓e15,↓e17,h20,q21,h22,eq_true h24,eq_true z26,h29,q30]
      ·have w31:i64.wrap ((i:Int)+1)=(i:Int)+1:=ZF (by omega) (by omega)
       repeat first|refine cg ?_|simp -dsimp[h12,z14,↓e15,↓e17,h20,q21,h22,eq_true h24,eq_true z26,h29,q30,w31]
       refine aG _ ?_ ((ih_f138 p deep v v18.2.2 vars (i+1) o hF) _ rfl _ hq)
       exact(gT (by simp) (by first|simp -dsimp[h12,z14,↓e15,↓e17,h20,q21,h22,eq_true h24,eq_true z26,h29,q30,w31];done|simp_all))
     ·have z26:¬((i:Int)=1):=auz
      have hF:=oc hF;obtain⟨c32,hF⟩:=hF
      have w33:i64.wrap ((i:Int)+1)=(i:Int)+1:=ZF (by omega) (by omega)
      repeat first|refine cg ?_|simp -dsimp[h12,z14,↓e15,↓e17,h20,q21,h22,h24,q25,z26,w33]
      refine aG _ ?_ ((ih_f138 p deep v v18.2.2 (vars++v18.1) (i+1) o hF) _ rfl _ hq)
      exact(gT (by simp) (by first|simp -dsimp[h12,z14,↓e15,↓e17,h20,q21,h22,h24,q25,z26,w33];done|simp_all))
    ·have hF:=oc hF;obtain⟨c34,hF⟩:=hF
     have w35:i64.wrap ((i:Int)+1)=(i:Int)+1:=ZF (by omega) (by omega)
     repeat first|refine cg ?_|simp -dsimp[h12,z14,↓e15,↓e17,h20,q21,h22,q23,w35]
     refine aG _ ?_ ((ih_f138 p deep v v18.2.2 (vars++v18.1) (i+1) o hF) _ rfl _ hq)
     exact(gT (by simp) (by first|simp -dsimp[h12,z14,↓e15,↓e17,h20,q21,h22,q23,w35];done|simp_all))
  ·have z14:¬((i:Int)<(p.kids.length:Int)):=auz
   cases hF
   repeat first|refine cg ?_|simp -dsimp[h12,q13,z14]
   refine lG _ (gT (by simp) (by first|simp -dsimp[h12,q13,z14];done|simp_all)) hq
 ·intro _f_f137 _f_f140 ih_f137 ih_f140 p deep v z98 vars99 i100 o hF
  intro c hc Q hq
  obtain rfl:c=_:=ZQ hc rfl
  refine kN fun hk hs=> ?_
  have b0:=hk 0
  simp -dsimp at b0
  have b12:=hk 12
  simp -dsimp at b12
  have b60:=hk 60
  simp -dsimp at b60
  have d2:=hs 2 _ rfl
  simp -dsimp[Blk.bnd]at d2
  have d4:=hs 4 _ rfl
  simp -dsimp[Blk.bnd]at d4
  clear hk hs
  refine eN ?_
  repeat first|refine cg ?_|simp -dsimp
  revert hF;refine aS ?_ ?_<;>intro h101 q102 hF
  ·have z103:((i100:Int)<(p.kids.length:Int)):=auz
   have hF:=ob hF;obtain⟨x104,e105,hF⟩:=hF
   have le105:=ZD e105
   repeat first|refine cg ?_|simp -dsimp[h101,z103,↓e105]
   refine ADraw.eff [46] [(0,0),(0,0),(0,0),(0,0),(0,0),(0,0),(0,0),(0,0),(0,0),(0,1),(1,1),(1,1),(1,1),(1,1),(1,1)] [1,1,1,1,1,1,1,1,1,1,1,1,1,1,1] follows (by kernel_rfl) (by kernel_rfl) (by kernel_rfl) ?_
   have hF:=ob hF;obtain⟨x106,e107,hF⟩:=hF
   have le107:=ZD e107
   repeat first|refine cg ?_|simp -dsimp[h101,z103,↓e105,↓e107]
   have hF:=ob hF;obtain⟨v108,e109,hF⟩:=hF
   refine((ih_f137 x106 x104 (i64.wrap (deep+1)) z98 v108 e109)).ego 0 rfl (by first|simp[h101,z103,↓e105,↓e107];done|simp_all) (by simp) (by first|simp[h101,z103,↓e105,↓e107];done|simp_all) ?_
   repeat first|refine cg ?_|simp -dsimp[h101,z103,↓e105,↓e107]
   revert hF;refine aN (fun h110 q111 hF=> ?_) (fun h110 q111 hF=> ?_)
   ·cases hF
    repeat first|refine cg ?_|simp -dsimp[h101,z103,↓e105,↓e107,h110,q111]
    refine lG _ (gR _) (hq _ ?_)
    repeat first|refine cg ?_|simp -dsimp[h101,z103,↓e105,↓e107,h110,q111]
   ·repeat first|refine cg ?_|simp -dsimp[h101,z103,↓e105,↓e107,h110,q111]
    revert hF;refine aS ?_ ?_<;>intro h112 q113 hF
    ·repeat first|refine cg ?_|simp -dsimp[h101,z103,↓e105,↓e107,h110,q111,h112]
     revert hF;refine aS ?_ ?_<;>intro h114 q115 hF
     ·have z116:((i100:Int)=1):=auz
      repeat first|refine cg ?_|simp -dsimp[h101,z103,↓e105,↓e107,h110,q111,h112,eq_true h114,eq_true z116]
      have hF:=ob hF;obtain⟨v117,e118,hF⟩:=hF
      refine((C.f133 B hB1 hB2 vars99 v108.1 v117 e118)).lend (by first|simp -dsimp[h101,z103,↓e105,↓e107,h110,q111,h112,eq_true h114,eq_true z116];done|simp_all) (by simp -dsimp) ?_
      repeat first|refine cg ?_|simp -dsimp[h101,z103,↓e105,↓e107,h110,q111,h112,eq_true h114,eq_true z116]
      revert hF;refine aN (fun h119 q120 hF=> ?_) (fun h119 q120 hF=> ?_)
      ·cases hF
       repeat first|refine cg ?_|simp -dsimp[h101,z103,↓e105,↓e107,h110,q111,h112,eq_true h114,eq_true z116,h119,q120]
       refine lG _ (gR _) (hq _ ?_)
       repeat first|refine cg ?_|simp -dsimp[h101,z103,↓e105,↓e107,h110,q111,h112,eq_true h114,eq_true z116,h119,q120]
      ·have w121:i64.wrap ((i100:Int)+1)=(i100:Int)+1:=ZF (by omega) (by omega)
       repeat first|refine cg ?_|simp -dsimp[h101,z103,↓e105,↓e107,h110,q111,h112,eq_true h114,eq_true z116,h119,q120,w121]
       refine aG _ ?_ ((ih_f140 p deep v v108.2.2 vars99 (i100+1) o hF) _ rfl _ hq)
       exact(gT (by simp) (by first|simp -dsimp[h101,z103,↓e105,↓e107,h110,q111,h112,eq_true h114,eq_true z116,h119,q120,w121];done|simp_all))
     ·have z116:¬((i100:Int)=1):=auz
      have hF:=oc hF;obtain⟨c122,hF⟩:=hF
      have w123:i64.wrap ((i100:Int)+1)=(i100:Int)+1:=ZF (by omega) (by omega)
      repeat first|refine cg ?_|simp -dsimp[h101,z103,↓e105,↓e107,h110,q111,h112,h114,q115,z116,w123]
      refine aG _ ?_ ((ih_f140 p deep v v108.2.2 (vars99++v108.1) (i100+1) o hF) _ rfl _ hq)
      exact(gT (by simp) (by first|simp -dsimp[h101,z103,↓e105,↓e107,h110,q111,h112,h114,q115,z116,w123];done|simp_all))
    ·have hF:=oc hF;obtain⟨c124,hF⟩:=hF
     have w125:i64.wrap ((i100:Int)+1)=(i100:Int)+1:=ZF (by omega) (by omega)
     repeat first|refine cg ?_|simp -dsimp[h101,z103,↓e105,↓e107,h110,q111,h112,q113,w125]
     refine aG _ ?_ ((ih_f140 p deep v v108.2.2 (vars99++v108.1) (i100+1) o hF) _ rfl _ hq)
     exact(gT (by simp) (by first|simp -dsimp[h101,z103,↓e105,↓e107,h110,q111,h112,q113,w125];done|simp_all))
  ·have z103:¬((i100:Int)<(p.kids.length:Int)):=auz
   cases hF
   repeat first|refine cg ?_|simp -dsimp[h101,q102,z103]
   refine lG _ (gT (by simp) (by first|simp -dsimp[h101,q102,z103];done|simp_all)) hq
theorem C.f141 (w:List Vl.Data)(t:Ty)(p:Pattern)(r:(List VarType)×Bool)(hF:F.f141 w t p=some r):PureCall Tryz.prog B 29 [am Vl.Data.c w,.agg [li t.data,li t.index],.agg [li p.op,li p.ctor,li p.n,li p.m,li p.var,am Pattern.c p.kids]] (.tup [am VarType.c r.1,.lit (.bool r.2)]):=by
 unfold F.f141 at hF
 refine pE Tryz.func29 (by kernel_rfl) rfl Tryz.ntmps29 (by simp) (by simp) ?_
 repeat first|refine cg ?_|simp -dsimp
 have hF:=ob hF;obtain⟨v,e1,hF⟩:=hF
 refine(((CC.f137 B hB1 hB2 w).1 t p 1 0 v e1)).go 2 rfl (by simp) (by simp) (by simp) ?_
 cases hF
 repeat first|refine cg ?_|simp -dsimp
 all_goals(try first|omega|rfl)
theorem C.f142 (g:Guard)(vars:List VarType)(r:Bool)(hF:F.f142 g vars=some r):PureCall Tryz.prog B 30 [.agg [li g.op,li g.var,li g.n],am VarType.c vars] (.lit (.bool r)):=by
 unfold F.f142 at hF
 refine pE Tryz.func30 (by kernel_rfl) rfl Tryz.ntmps30 (by simp) (by simp) ?_
 repeat first|refine cg ?_|simp -dsimp
 revert hF;refine aS ?_ ?_<;>intro h1 q2 hF
 ·cases hF
  repeat first|refine cg ?_|simp -dsimp[h1]
  all_goals(try first|omega|rfl)
 ·repeat first|refine cg ?_|simp -dsimp[h1,q2]
  have hF:=ob hF;obtain⟨v,e3,hF⟩:=hF
  refine((C.f101 B hB1 hB2 g.op 1 2 v e3)).goW (by first|simp[h1,q2];done|simp_all) (by simp) ?_
  repeat first|refine cg ?_|simp -dsimp[h1,q2]
  revert hF;refine aS (fun h4 q5 hF=> ?_) (fun h4 q5 hF=> ?_)
  ·repeat first|refine cg ?_|simp -dsimp[h1,q2,h4]
   have hF:=ob hF;obtain⟨v6,e7,hF⟩:=hF
   refine((C.f101 B hB1 hB2 g.n 0 9 v6 e7)).goW (by first|simp[h1,q2,h4];done|simp_all) (by simp) ?_
   repeat first|refine cg ?_|simp -dsimp[h1,q2,h4]
   revert hF;refine aS (fun h8 q9 hF=> ?_) (fun h8 q9 hF=> ?_)
   ·repeat first|refine cg ?_|simp -dsimp[h1,q2,h4,h8]
    have hF:=ob hF;obtain⟨v10,e11,hF⟩:=hF
    refine((C.f128 B hB1 hB2 vars (⟨g.var,(⟨(-1),0⟩:Ty)⟩:VarType) v10 e11)).goW (by first|simp[h1,q2,h4,h8];done|simp_all) (by simp) ?_
    cases hF
    repeat first|refine cg ?_|simp -dsimp[h1,q2,h4,h8]
    all_goals(try first|omega|rfl)
   ·cases hF
    repeat first|refine cg ?_|simp -dsimp[h1,q2,h4,h8,q9]
    all_goals(try first|omega|rfl)
  ·cases hF
   repeat first|refine cg ?_|simp -dsimp[h1,q2,h4,q5]
   all_goals(try first|omega|rfl)
theorem C.f143 (w:List Vl.Data)(t:Ty)(c':Clause)(r:Bool)(hF:F.f143 w t c'=some r):PureCall Tryz.prog B 15 [am Vl.Data.c w,.agg [li t.data,li t.index],.agg [li c'.pat.op,li c'.pat.ctor,li c'.pat.n,li c'.pat.m,li c'.pat.var,am Pattern.c c'.pat.kids,li c'.guard.op,li c'.guard.var,li c'.guard.n]] (.lit (.bool r)):=by
 unfold F.f143 at hF
 refine pE Tryz.func15 (by kernel_rfl) rfl Tryz.ntmps15 (by simp) (by simp) ?_
 repeat first|refine cg ?_|simp -dsimp
 have hF:=ob hF;obtain⟨v,e1,hF⟩:=hF
 refine((C.f141 B hB1 hB2 w t c'.pat v e1)).goW (by simp) (by simp) ?_
 repeat first|refine cg ?_|simp -dsimp
 revert hF;refine aS (fun h2 q3 hF=> ?_) (fun h2 q3 hF=> ?_)
 ·repeat first|refine cg ?_|simp -dsimp[h2]
  have hF:=ob hF;obtain⟨v4,e5,hF⟩:=hF
  refine((C.f142 B hB1 hB2 c'.guard v.1 v4 e5)).goW (by first|simp[h2];done|simp_all) (by simp) ?_
  cases hF
  repeat first|refine cg ?_|simp -dsimp[h2]
  all_goals(try first|omega|rfl)
 ·cases hF
  repeat first|refine cg ?_|simp -dsimp[h2,q3]
  all_goals(try first|omega|rfl)
theorem C.f144 (c':Clause)(a1:List Vl.Data)(a2:Ty)(r:Bool)(hF:F.f144 c' a1 a2=some r):PureCall Tryz.prog B 14 [.agg [li c'.pat.op,li c'.pat.ctor,li c'.pat.n,li c'.pat.m,li c'.pat.var,am Pattern.c c'.pat.kids,li c'.guard.op,li c'.guard.var,li c'.guard.n],.rptr [am Vl.Data.c a1] 0,.rptr [li a2.data,li a2.index] 0] (.lit (.bool r)):=by
 unfold F.f144 at hF
 refine pE Tryz.func14 (by kernel_rfl) rfl Tryz.ntmps14 (by simp) (by simp) ?_
 repeat first|refine cg ?_|simp -dsimp
 have hF:=ob hF;obtain⟨v,e1,hF⟩:=hF
 refine((C.f143 B hB1 hB2 a1 a2 c' v e1)).goW (by simp) (by simp) ?_
 cases hF
 repeat first|refine cg ?_|simp -dsimp
 all_goals(try first|omega|rfl)
theorem CC.f145 (s:List Clause)(k0:List Vl.Data)(k1:Ty):(∀(i:Nat) (o:Lo Int Unit),F.f145 s k0 k1 i=some o->∀(c:Code),Zq [1,0,1,0,0] (ZJ Tryz.f28)=some c->∀(Q:Exit->ASt->Prop),o.post (fun r=>∀st,ZAe Tryz.prog Tryz.f28 (fun r' _=>r'.le (li r)) .ret st->Q .ret st) (fun s=>Q (.exit 0) ⟨[],[]⟩)->ALoopU Tryz.prog B 0 19 (hold c .mk) ⟨[(0,am Clause.c s),(1,.fn (.func 14) [] [.rptr [am Vl.Data.c k0] 0,.rptr [li k1.data,li k1.index] 0]),(7,li (s.length:Int)),(8,li (i:Int))],[]⟩ (hold Q .mk)):=by
 refine F.f145.partial_correctness s k0 k1
  _
  ?_
 ·intro _f_f145 ih_f145 i o hF
  intro c hc Q hq
  obtain rfl:c=_:=ZQ hc rfl
  refine kN fun hk hs=> ?_
  have b0:=hk 0
  simp -dsimp at b0
  clear hk hs
  refine eN ?_
  repeat first|refine cg ?_|simp -dsimp
  revert hF;refine aS ?_ ?_<;>intro h1 q2 hF
  ·have z3:((i:Int)<(s.length:Int)):=auz
   have hF:=ob hF;obtain⟨x,e4,hF⟩:=hF
   have le4:=ZD e4
   repeat first|refine cg ?_|simp -dsimp[h1,z3,↓e4]
   have hF:=ob hF;obtain⟨v,e5,hF⟩:=hF
   refine((C.f144 B hB1 hB2 x k0 k1 v e5)).goW (by first|simp[h1,z3,↓e4];done|simp_all) (by simp) ?_
   repeat first|refine cg ?_|simp -dsimp[h1,z3,↓e4]
   revert hF;refine aS (fun h6 q7 hF=> ?_) (fun h6 q7 hF=> ?_)
   ·cases hF
    repeat first|refine cg ?_|simp -dsimp[h1,z3,↓e4,h6]
    refine lG _ (gR _) (hq _ ?_)
    repeat first|refine cg ?_|simp -dsimp[h1,z3,↓e4,h6]
   ·have w8:i64.wrap ((i:Int)+1)=(i:Int)+1:=ZF (by omega) (by omega)
    repeat first|refine cg ?_|simp -dsimp[h1,z3,↓e4,h6,q7,w8]
    refine aG _ ?_ ((ih_f145 (i+1) o hF) _ rfl _ hq)
    exact(gT (by simp) (by first|simp -dsimp[h1,z3,↓e4,h6,q7,w8];done|simp_all))
  ·have z3:¬((i:Int)<(s.length:Int)):=auz
   cases hF
   repeat first|refine cg ?_|simp -dsimp[h1,q2,z3]
   refine lG _ (gT (by simp) (by first|simp -dsimp[h1,q2,z3];done|simp_all)) hq
theorem C.f146 (s:List Clause)(k0:List Vl.Data)(k1:Ty)(r:Int)(hF:F.f146 s k0 k1=some r):PureCall Tryz.prog B 28 [am Clause.c s,.fn (.func 14) [] [.rptr [am Vl.Data.c k0] 0,.rptr [li k1.data,li k1.index] 0]] (li r):=by
 unfold F.f146 at hF
 refine pE Tryz.func28 (by kernel_rfl) rfl Tryz.ntmps28 (by simp) (by simp) ?_
 repeat first|refine cg ?_|simp -dsimp
 have hF:=ob hF;obtain⟨o',ho9,hF⟩:=hF
 refine ALoop.goU _ ?_ (((CC.f145 B hB1 hB2 s k0 k1) 0 o' ho9) _ rfl _ ?_)
 ·exact(gT (by simp) (by simp -dsimp))
 rcases o' with r0|sx
 ·dsimp only at hF
  cases hF
  intro st h
  simpa using h
 ·dsimp only at hF
  cases hF
  repeat first|refine cg ?_|simp -dsimp
  all_goals(try first|omega|rfl)
theorem C.f147 (s:List Clause)(k0:List Vl.Data)(k1:Ty)(r:Bool)(hF:F.f147 s k0 k1=some r):PureCall Tryz.prog B 13 [am Clause.c s,.fn (.func 14) [] [.rptr [am Vl.Data.c k0] 0,.rptr [li k1.data,li k1.index] 0]] (.lit (.bool r)):=by
 unfold F.f147 at hF
 refine pE Tryz.func13 (by kernel_rfl) rfl Tryz.ntmps13 (by simp) (by simp) ?_
 repeat first|refine cg ?_|simp -dsimp
 have hF:=ob hF;obtain⟨v,e1,hF⟩:=hF
 refine((C.f146 B hB1 hB2 s k0 k1 v e1)).goW (by simp) (by simp) ?_
 cases hF
 repeat first|refine cg ?_|simp -dsimp
 all_goals(try first|omega|rfl)
theorem C.f148 (w:List Vl.Data)(t:Ty)(list:List Clause)(r:Bool)(hF:F.f148 w t list=some r):PureCall Tryz.prog B 5 [am Vl.Data.c w,.agg [li t.data,li t.index],am Clause.c list] (.lit (.bool r)):=by
 unfold F.f148 at hF
 refine pE Tryz.func5 (by kernel_rfl) rfl Tryz.ntmps5 (by simp) (by simp) ?_
 repeat first|refine cg ?_|simp -dsimp
 have hF:=ob hF;obtain⟨v,e1,hF⟩:=hF
 refine((C.f114 B hB1 hB2 w t v e1)).goW (by simp) (by simp) ?_
 repeat first|refine cg ?_|simp -dsimp
 revert hF;refine aS (fun h2 q3 hF=> ?_) (fun h2 q3 hF=> ?_)
 ·repeat first|refine cg ?_|simp -dsimp[h2]
  revert hF;refine aS ?_ ?_<;>intro h4 q5 hF
  ·have z6:((list.length:Int)<=8):=auz
   repeat first|refine cg ?_|simp -dsimp[h2,h4,z6]
   have hF:=ob hF;obtain⟨v7,e8,hF⟩:=hF
   refine((C.f147 B hB1 hB2 list w t v7 e8)).lend (by first|simp -dsimp[h2,h4,z6];done|simp_all) (by simp -dsimp) ?_
   cases hF
   repeat first|refine cg ?_|simp -dsimp[h2,h4,z6]
   all_goals(try first|omega|rfl)
  ·have z6:¬((list.length:Int)<=8):=auz
   cases hF
   repeat first|refine cg ?_|simp -dsimp[h2,h4,q5,z6]
   all_goals(try first|omega|rfl)
 ·cases hF
  repeat first|refine cg ?_|simp -dsimp[h2,q3]
  all_goals(try first|omega|rfl)
theorem C.f149 (w:List Vl.Data)(t:Ty)(r:Bool)(hF:F.f149 w t=some r):PureCall Tryz.prog B 32 [am Vl.Data.c w,.agg [li t.data,li t.index]] (.lit (.bool r)):=by
 unfold F.f149 at hF
 refine pE Tryz.func32 (by kernel_rfl) rfl Tryz.ntmps32 (by simp) (by simp) ?_
 repeat first|refine cg ?_|simp -dsimp
 have hF:=ob hF;obtain⟨v,e1,hF⟩:=hF
 refine((C.f15 B hB1 hB2 (w.length:Int) t v e1)).goW (by simp) (by simp) ?_
 repeat first|refine cg ?_|simp -dsimp
 revert hF;refine aS (fun h2 q3 hF=> ?_) (fun h2 q3 hF=> ?_)
 ·cases hF
  repeat first|refine cg ?_|simp -dsimp[h2]
  all_goals(try first|omega|rfl)
 ·cases hF
  repeat first|refine cg ?_|simp -dsimp[h2,q3]
  all_goals(try first|omega|rfl)
theorem C.f150 (w:List Vl.Data)(t:Ty)(r:Bool)(hF:F.f150 w t=some r):PureCall Tryz.prog B 16 [am Vl.Data.c w,.agg [li t.data,li t.index]] (.lit (.bool r)):=by
 unfold F.f150 at hF
 refine pE Tryz.func16 (by kernel_rfl) rfl Tryz.ntmps16 (by simp) (by simp) ?_
 repeat first|refine cg ?_|simp -dsimp
 have hF:=ob hF;obtain⟨v,e1,hF⟩:=hF
 refine((C.f24 B hB1 hB2 w v e1)).goW (by simp) (by simp) ?_
 repeat first|refine cg ?_|simp -dsimp
 revert hF;refine aS (fun h2 q3 hF=> ?_) (fun h2 q3 hF=> ?_)
 ·repeat first|refine cg ?_|simp -dsimp[h2]
  have hF:=ob hF;obtain⟨v4,e5,hF⟩:=hF
  refine((C.f149 B hB1 hB2 w t v4 e5)).goW (by first|simp[h2];done|simp_all) (by simp) ?_
  cases hF
  repeat first|refine cg ?_|simp -dsimp[h2]
  all_goals(try first|omega|rfl)
 ·cases hF
  repeat first|refine cg ?_|simp -dsimp[h2,q3]
  all_goals(try first|omega|rfl)
theorem C.f151 (g:Guard)(vars:List VarType)(r:Bool)(hF:F.f151 g vars=some r):PureCall Tryz.prog B 34 [.agg [li g.op,li g.var,li g.n],am VarType.c vars] (.lit (.bool r)):=by
 unfold F.f151 at hF
 refine pE Tryz.func34 (by kernel_rfl) rfl Tryz.ntmps34 (by simp) (by simp) ?_
 repeat first|refine cg ?_|simp -dsimp
 revert hF;refine aS ?_ ?_<;>intro h1 q2 hF
 ·repeat first|refine cg ?_|simp -dsimp[h1]
  revert hF;refine aS ?_ ?_<;>intro h3 q4 hF
  ·cases hF
   repeat first|refine cg ?_|simp -dsimp[h1,h3]
   all_goals(try first|omega|rfl)
  ·cases hF
   repeat first|refine cg ?_|simp -dsimp[h1,h3,q4]
   all_goals(try first|omega|rfl)
 ·repeat first|refine cg ?_|simp -dsimp[h1,q2]
  revert hF;refine aN ?_ ?_<;>intro h5 q6 hF
  ·repeat first|refine cg ?_|simp -dsimp[h1,q2,h5,q6]
   revert hF;refine aS ?_ ?_<;>intro h7 q8 hF
   ·repeat first|refine cg ?_|simp -dsimp[h1,q2,h5,q6,h7]
    revert hF;refine aN ?_ ?_<;>intro h9 q10 hF
    ·repeat first|refine cg ?_|simp -dsimp[h1,q2,h5,q6,h7,h9,q10]
     revert hF;refine aS ?_ ?_<;>intro h11 q12 hF
     ·cases hF
      repeat first|refine cg ?_|simp -dsimp[h1,q2,h5,q6,h7,h9,q10,h11]
      all_goals(try first|omega|rfl)
     ·repeat first|refine cg ?_|simp -dsimp[h1,q2,h5,q6,h7,h9,q10,h11,q12]
      have hF:=ob hF;obtain⟨v,e13,hF⟩:=hF
      refine((C.f79 B hB1 hB2 vars g.var v e13)).goW (by first|simp[h1,q2,h5,q6,h7,h9,q10,h11,q12];done|simp_all) (by simp) ?_
      repeat first|refine cg ?_|simp -dsimp[h1,q2,h5,q6,h7,h9,q10,h11,q12]
      revert hF;refine aS ?_ ?_<;>intro h14 q15 hF
      ·have hF:=ob hF;obtain⟨x,e16a,hF⟩:=hF
       have e16a:=ZT e16a;obtain⟨ne16,e16⟩:=e16a
       have le16:=ZD e16
       cases hF
       repeat first|refine cg ?_|simp -dsimp[h1,q2,h5,q6,h7,h9,q10,h11,q12,h14,↓e16]
       all_goals(try first|omega|rfl)
      ·cases hF
       repeat first|refine cg ?_|simp -dsimp[h1,q2,h5,q6,h7,h9,q10,h11,q12,h14,q15]
       all_goals(try first|omega|rfl)
    ·cases hF
     repeat first|refine cg ?_|simp -dsimp[h1,q2,h5,q6,h7,h9,q10]
     all_goals(try first|omega|rfl)
   ·cases hF
    repeat first|refine cg ?_|simp -dsimp[h1,q2,h5,q6,h7,q8]
    all_goals(try first|omega|rfl)
  ·repeat first|refine cg ?_|simp -dsimp[h1,q2,h5,q6]
   revert hF;refine aN ?_ ?_<;>intro h17 q18 hF
   ·repeat first|refine cg ?_|simp -dsimp[h1,q2,h5,q6,h17,q18]
    revert hF;refine aS ?_ ?_<;>intro h19 q20 hF
    ·cases hF
     repeat first|refine cg ?_|simp -dsimp[h1,q2,h5,q6,h17,q18,h19]
     all_goals(try first|omega|rfl)
    ·repeat first|refine cg ?_|simp -dsimp[h1,q2,h5,q6,h17,q18,h19,q20]
     have hF:=ob hF;obtain⟨v21,e22,hF⟩:=hF
     refine((C.f79 B hB1 hB2 vars g.var v21 e22)).goW (by first|simp[h1,q2,h5,q6,h17,q18,h19,q20];done|simp_all) (by simp) ?_
     repeat first|refine cg ?_|simp -dsimp[h1,q2,h5,q6,h17,q18,h19,q20]
     revert hF;refine aS ?_ ?_<;>intro h23 q24 hF
     ·have hF:=ob hF;obtain⟨x25,e26a,hF⟩:=hF
      have e26a:=ZT e26a;obtain⟨ne26,e26⟩:=e26a
      have le26:=ZD e26
      cases hF
      repeat first|refine cg ?_|simp -dsimp[h1,q2,h5,q6,h17,q18,h19,q20,h23,↓e26]
      all_goals(try first|omega|rfl)
     ·cases hF
      repeat first|refine cg ?_|simp -dsimp[h1,q2,h5,q6,h17,q18,h19,q20,h23,q24]
      all_goals(try first|omega|rfl)
   ·cases hF
    repeat first|refine cg ?_|simp -dsimp[h1,q2,h5,q6,h17,q18]
    all_goals(try first|omega|rfl)
theorem C.f152 (w:List Vl.Data)(t:Ty)(c':Clause)(r:Bool)(hF:F.f152 w t c'=some r):PureCall Tryz.prog B 17 [am Vl.Data.c w,.agg [li t.data,li t.index],.agg [li c'.pat.op,li c'.pat.ctor,li c'.pat.n,li c'.pat.m,li c'.pat.var,am Pattern.c c'.pat.kids,li c'.guard.op,li c'.guard.var,li c'.guard.n]] (.lit (.bool r)):=by
 unfold F.f152 at hF
 refine pE Tryz.func17 (by kernel_rfl) rfl Tryz.ntmps17 (by simp) (by simp) ?_
 repeat first|refine cg ?_|simp -dsimp
 refine ADraw.eff [34,35] [(0,0),(0,0),(0,0),(0,0),(0,2),(0,0),(0,1),(0,1),(0,0),(0,0),(0,0),(0,0),(0,2),(0,2),(2,2),(2,2)] [1,1,1,1,1,1,0,2,1,1,1,1,1,1,1,1] follows (by kernel_rfl) (by kernel_rfl) (by kernel_rfl) ?_
 repeat first|refine cg ?_|simp -dsimp
 have hF:=ob hF;obtain⟨v,e1,hF⟩:=hF
 refine((C.f85 B hB1 hB2 w t c'.pat v e1)).pgoW (by simp) (by simp) ?_
 repeat first|refine cg ?_|simp -dsimp
 revert hF;refine aS (fun h2 q3 hF=> ?_) (fun h2 q3 hF=> ?_)
 ·repeat first|refine cg ?_|simp -dsimp[h2]
  have hF:=ob hF;obtain⟨v4,e5,hF⟩:=hF
  refine ECallA.nilArg 0 3 (by simp) ?_
  repeat first|refine cg ?_|simp -dsimp[h2]
  refine(((CC.f74 B hB1 hB2 w).1 [] t c'.pat v4 e5)).ego (pl [2]) (by simp) (by simp) (ZDC _ rfl (by decide)) (by intro i hi hi';simp at hi hi';first|omega|(subst hi';simp[pl])) (by first|simp[h2];done|simp_all) (by first|simp[h2];done|simp_all) ?_
  repeat first|refine cg ?_|simp -dsimp[h2]
  have hF:=ob hF;obtain⟨v6,e7,hF⟩:=hF
  refine((C.f151 B hB1 hB2 c'.guard v4 v6 e7)).elend (by first|simp -dsimp[h2];done|simp_all) (by simp -dsimp) ?_
  cases hF
  repeat first|refine cg ?_|simp -dsimp[h2]
  all_goals(try first|omega|rfl)
 ·skip
  cases hF
  repeat first|refine cg ?_|simp -dsimp[h2,q3]
  all_goals(try first|omega|rfl)
theorem CC.f153 (w:List Vl.Data)(t:Ty)(list:List Clause):(∀(i:Nat) (o:Lo Bool Unit),F.f153 w t list i=some o->∀(c:Code),Zq [1,1,0,1,0,0] (ZJ Tryz.f6)=some c->∀(Q:Exit->ASt->Prop),o.post (fun r=>∀st,ZAe Tryz.prog Tryz.f6 (fun r' _=>r'.le (.lit (.bool r))) .ret st->Q .ret st) (fun s=>Q (.exit 0) ⟨[],[]⟩)->ALoopU Tryz.prog B 0 31 (hold c .mk) ⟨[(0,am Vl.Data.c w),(2,am Clause.c list),(4,.ptr 0 0),(7,li (i:Int))],[.cells [li t.data,li t.index]]⟩ (hold Q .mk)):=by
 refine F.f153.partial_correctness w t list
  _
  ?_
 ·intro _f_f153 ih_f153 i o hF
  intro c hc Q hq
  obtain rfl:c=_:=ZQ hc rfl
  refine kN fun hk hs=> ?_
  have b0:=hk 0
  simp -dsimp at b0
  have b2:=hk 2
  simp -dsimp at b2
  clear hk hs
  refine eN ?_
  repeat first|refine cg ?_|simp -dsimp
  revert hF;refine aS ?_ ?_<;>intro h7 q8 hF
  ·have z9:((i:Int)<(list.length:Int)):=auz
   repeat first|refine cg ?_|simp -dsimp[h7,z9]
   refine ADraw.simple follows (by kernel_rfl) (by kernel_rfl) ?_
   have hF:=ob hF;obtain⟨x,e10,hF⟩:=hF
   have le10:=ZD e10
   repeat first|refine cg ?_|simp -dsimp[h7,z9,↓e10]
   have hF:=ob hF;obtain⟨v11,e12,hF⟩:=hF
   refine((C.f152 B hB1 hB2 w t x v11 e12)).pgoW (by first|simp[h7,z9,↓e10];done|simp_all) (by simp) ?_
   repeat first|refine cg ?_|simp -dsimp[h7,z9,↓e10]
   revert hF;refine aN (fun h13 q14 hF=> ?_) (fun h13 q14 hF=> ?_)
   ·cases hF
    repeat first|refine cg ?_|simp -dsimp[h7,z9,↓e10,h13,q14]
    refine lG _ (gR _) (hq _ ?_)
    repeat first|refine cg ?_|simp -dsimp[h7,z9,↓e10,h13,q14]
   ·have w15:i64.wrap ((i:Int)+1)=(i:Int)+1:=ZF (by omega) (by omega)
    repeat first|refine cg ?_|simp -dsimp[h7,z9,↓e10,h13,q14,w15]
    refine aG _ ?_ ((ih_f153 (i+1) o hF) _ rfl _ hq)
    exact(gT (by simp) (by first|simp -dsimp[h7,z9,↓e10,h13,q14,w15];done|simp_all))
  ·have z9:¬((i:Int)<(list.length:Int)):=auz
   cases hF
   repeat first|refine cg ?_|simp -dsimp[h7,q8,z9]
   refine lG _ (gT (by simp) (by first|simp -dsimp[h7,q8,z9];done|simp_all)) hq
theorem C.f154 (w:List Vl.Data)(t:Ty)(list:List Clause)(r:Bool)(hF:F.f154 w t list=some r):PureCall Tryz.prog B 6 [am Vl.Data.c w,.agg [li t.data,li t.index],am Clause.c list] (.lit (.bool r)):=by
 unfold F.f154 at hF
 refine pE Tryz.func6 (by kernel_rfl) rfl Tryz.ntmps6 (by simp) (by simp) ?_
 repeat first|refine cg ?_|simp -dsimp
 have hF:=ob hF;obtain⟨v,e1,hF⟩:=hF
 refine((C.f150 B hB1 hB2 w t v e1)).goW (by simp) (by simp) ?_
 repeat first|refine cg ?_|simp -dsimp
 revert hF;refine aS (fun h2 q3 hF=> ?_) (fun h2 q3 hF=> ?_)
 ·repeat first|refine cg ?_|simp -dsimp[h2]
  revert hF;refine aS ?_ ?_<;>intro h4 q5 hF
  ·have z6:(8<(list.length:Int)):=auz
   cases hF
   repeat first|refine cg ?_|simp -dsimp[h2,h4,z6]
   all_goals(try first|omega|rfl)
  ·have z6:¬(8<(list.length:Int)):=auz
   repeat first|refine cg ?_|simp -dsimp[h2,h4,q5,z6]
   have hF:=ob hF;obtain⟨o',ho16,hF⟩:=hF
   refine ALoop.goU _ ?_ (((CC.f153 B hB1 hB2 w t list) 0 o' ho16) _ rfl _ ?_)
   ·exact(gT (by simp) (by first|simp -dsimp[h2,h4,q5,z6];done|simp_all))
   rcases o' with r0|sx
   ·dsimp only at hF
    cases hF
    intro st h
    simpa using h
   ·dsimp only at hF
    cases hF
    repeat first|refine cg ?_|simp -dsimp
    all_goals(try first|omega|rfl)
 ·cases hF
  repeat first|refine cg ?_|simp -dsimp[h2,q3]
  all_goals(try first|omega|rfl)
theorem C.f155 (w:List Vl.Data)(t:Ty)(p:Pattern)(r:List Ty)(hF:F.f155 w t p=some r):PureCall Tryz.prog B 57 [am Vl.Data.c w,.agg [li t.data,li t.index],.agg [li p.op,li p.ctor,li p.n,li p.m,li p.var,am Pattern.c p.kids]] (am Ty.c r):=by
 unfold F.f155 at hF
 refine pE Tryz.func57 (by kernel_rfl) rfl Tryz.ntmps57 (by simp) (by simp) ?_
 repeat first|refine cg ?_|simp -dsimp
 have hF:=ob hF;obtain⟨v,e1,hF⟩:=hF
 refine((C.f125 B hB1 hB2 w t p v e1)).goW (by simp) (by simp) ?_
 cases hF
 repeat first|refine cg ?_|simp -dsimp
 all_goals(try first|omega|rfl)
theorem C.f156 (v:Int)(r:ByteArray)(hF:F.f156 v=some r):PureCall Tryz.prog B 58 [li v] (.lit (.string r)):=by
 unfold F.f156 at hF
 refine pE Tryz.func58 (by kernel_rfl) rfl Tryz.ntmps58 (by simp) (by simp) ?_
 cases hF
 repeat first|refine cg ?_|simp -dsimp
 all_goals(try first|omega|rfl)
theorem C.f157 (i:Int)(r:ByteArray)(hF:F.f157 i=some r):PureCall Tryz.prog B 61 [li i] (.lit (.string r)):=by
 unfold F.f157 at hF
 have hF:=oc hF;obtain⟨c1,hF⟩:=hF
 cases hF
 exact shelf_itoa Tryz.lays171 ⟨Tryz.f61,Tryz.func61,by kernel_rfl,by kernel_rfl⟩ c1.1 c1.2
theorem C.f158 (n:Int)(m:Int)(r:ByteArray)(hF:F.f158 n m=some r):PureCall Tryz.prog B 59 [li n,li m] (.lit (.string r)):=by
 unfold F.f158 at hF
 refine pE Tryz.func59 (by kernel_rfl) rfl Tryz.ntmps59 (by simp) (by simp) ?_
 repeat first|refine cg ?_|simp -dsimp
 revert hF;refine aS ?_ ?_<;>intro h1 q2 hF
 ·repeat first|refine cg ?_|simp -dsimp[h1]
  have hF:=ob hF;obtain⟨v,e3,hF⟩:=hF
  refine((C.f157 B hB1 hB2 n v e3)).goW (by first|simp[h1];done|simp_all) (by simp) ?_
  cases hF
  repeat first|refine cg ?_|simp -dsimp[h1]
  all_goals(try first|omega|rfl)
 ·repeat first|refine cg ?_|simp -dsimp[h1,q2]
  have hF:=ob hF;obtain⟨v4,e5,hF⟩:=hF
  refine((C.f157 B hB1 hB2 n v4 e5)).goW (by first|simp[h1,q2];done|simp_all) (by simp) ?_
  have hF:=oc hF;obtain⟨c6,hF⟩:=hF
  repeat first|refine cg ?_|simp -dsimp[h1,q2]
  have hF:=ob hF;obtain⟨v7,e8,hF⟩:=hF
  refine((C.f157 B hB1 hB2 m v7 e8)).goW (by first|simp[h1,q2];done|simp_all) (by simp) ?_
  have hF:=oc hF;obtain⟨c9,hF⟩:=hF
  cases hF
  repeat first|refine cg ?_|simp -dsimp[h1,q2]
  all_goals(try first|omega|rfl)
theorem C.f159 (elems:List ByteArray)(sep:ByteArray)(r:ByteArray)(hF:F.f159 elems sep=some r):PureCall Tryz.prog B 38 [am cS elems,.lit (.string sep)] (.lit (.string r)):=by
 unfold F.f159 at hF
 have hF:=oc hF;obtain⟨c1,hF⟩:=hF
 cases hF
 exact shelf_join Tryz.lays156 Tryz.Builder_Extra_156 ⟨Tryz.f38,Tryz.func38,by kernel_rfl,by kernel_rfl⟩ c1
theorem C.f160 (list:List ByteArray)(r:ByteArray)(hF:F.f160 list=some r):PureCall Tryz.prog B 60 [am cS list] (.lit (.string r)):=by
 unfold F.f160 at hF
 refine pE Tryz.func60 (by kernel_rfl) rfl Tryz.ntmps60 (by simp) (by simp) ?_
 repeat first|refine cg ?_|simp -dsimp
 revert hF;refine aS ?_ ?_<;>intro h1 q2 hF
 ·have z3:((list.length:Int)=0):=auz
  cases hF
  repeat first|refine cg ?_|simp -dsimp[h1,z3]
  all_goals(try first|omega|rfl)
 ·have z3:¬((list.length:Int)=0):=auz
  repeat first|refine cg ?_|simp -dsimp[h1,q2,z3]
  have hF:=ob hF;obtain⟨v,e4,hF⟩:=hF
  refine((C.f159 B hB1 hB2 list (⟨#[44]⟩:ByteArray) v e4)).goW (by first|simp[h1,q2,z3];done|simp_all) (by simp) ?_
  have hF:=oc hF;obtain⟨c5,hF⟩:=hF
  have hF:=oc hF;obtain⟨c6,hF⟩:=hF
  cases hF
  repeat first|refine cg ?_|simp -dsimp[h1,q2,z3]
  all_goals(try first|omega|rfl)
theorem CC.f161 (w:List Vl.Data):(∀(t:Ty) (p:Pattern) (r:ByteArray),F.f161 w t p=some r->PureCall Tryz.prog B 36 [am Vl.Data.c w,.agg [li t.data,li t.index],.agg [li p.op,li p.ctor,li p.n,li p.m,li p.var,am Pattern.c p.kids]] (.lit (.string r)))/\
  (∀(t:Ty) (p:Pattern) (v:List Ty) (i:Nat) (kids:List ByteArray) (o:List ByteArray),F.f162 w t p v i kids=some o->∀(c:Code),Zq [1,1,1,0,1,0,0] (ZJ Tryz.f36)=some c->∀(Q:Exit->ASt->Prop),(Q (.exit 0) ⟨[(0,am Vl.Data.c w),(4,.ptr 0 0),(5,.ptr 1 0),(8,.own 2 (List.length (α:=ByteArray) o))],[.cells [li t.data,li t.index],.cells [li p.op,li p.ctor,li p.n,li p.m,li p.var,am Pattern.c p.kids],.elems 1 (List.map cS o)]⟩)->ALoopU Tryz.prog B 0 86 (hold c .mk) ⟨[(0,am Vl.Data.c w),(4,.ptr 0 0),(5,.ptr 1 0),(7,am Ty.c v),(8,.own 2 (List.length (α:=ByteArray) kids)),(16,am Pattern.c p.kids),(17,li (p.kids.length:Int)),(18,li (i:Int))],[.cells [li t.data,li t.index],.cells [li p.op,li p.ctor,li p.n,li p.m,li p.var,am Pattern.c p.kids],.elems 1 (List.map cS kids)]⟩ (hold Q .mk)):=by
 refine F.f161.mutual_partial_correctness w
  _ _
  ?_ ?_
 ·intro _f_f162 ih_f162 t p r hF
  refine pE Tryz.func36 (by kernel_rfl) rfl Tryz.ntmps36 (by simp) (by simp) ?_
  repeat first|refine cg ?_|simp -dsimp
  have hF:=ob hF;obtain⟨v,e1,hF⟩:=hF
  refine((C.f155 B hB1 hB2 w t p v e1)).goW (by simp) (by simp) ?_
  repeat first|refine cg ?_|simp -dsimp
  have hF:=ob hF;obtain⟨o',ho12,hF⟩:=hF
  refine ALoop.goU ⟨[(0,.arr (List.map Vl.Data.c w)),(4,.ptr 0 0),(5,.ptr 1 0),(7,.arr (List.map Ty.c v)),(8,.own 2 (List.length (α:=ByteArray) [])),(16,.arr (List.map Pattern.c p.kids)),(17,.lit (.int .i64 (p.kids.length:Int))),(18,.lit (.int .i64 0))],[.cells [.lit (.int .i64 t.data),.lit (.int .i64 t.index)],.cells [.lit (.int .i64 p.op),.lit (.int .i64 p.ctor),.lit (.int .i64 p.n),.lit (.int .i64 p.m),.lit (.int .i64 p.var),.arr (List.map Pattern.c p.kids)],.elems 1 (List.map cS [])]⟩ (by refine Gh.trans (Gh.nil 8 1 (by simp -dsimp)) ?_;exact(gT (by simp) (by simp -dsimp))) ?_
  refine(ih_f162 t p v 0 [] o' ho12) _ rfl _ ?_
  repeat first|refine cg ?_|simp -dsimp
  revert hF;refine aS ?_ ?_<;>intro h13 q14 hF
  ·cases hF
   repeat first|refine cg ?_|simp -dsimp[h13]
   all_goals(try first|omega|rfl)
  ·repeat first|refine cg ?_|simp -dsimp[h13,q14]
   revert hF;refine aS ?_ ?_<;>intro h15 q16 hF
   ·repeat first|refine cg ?_|simp -dsimp[h13,q14,h15]
    have hF:=ob hF;obtain⟨v17,e18,hF⟩:=hF
    refine((C.f156 B hB1 hB2 p.var v17 e18)).goW (by first|simp[h13,q14,h15];done|simp_all) (by simp) ?_
    cases hF
    repeat first|refine cg ?_|simp -dsimp[h13,q14,h15]
    all_goals(try first|omega|rfl)
   ·repeat first|refine cg ?_|simp -dsimp[h13,q14,h15,q16]
    revert hF;refine aS ?_ ?_<;>intro h19 q20 hF
    ·repeat first|refine cg ?_|simp -dsimp[h13,q14,h15,q16,h19]
     have hF:=ob hF;obtain⟨v21,e22,hF⟩:=hF
     refine((C.f158 B hB1 hB2 p.n p.m v21 e22)).goW (by first|simp[h13,q14,h15,q16,h19];done|simp_all) (by simp) ?_
     cases hF
     repeat first|refine cg ?_|simp -dsimp[h13,q14,h15,q16,h19]
     all_goals(try first|omega|rfl)
    ·repeat first|refine cg ?_|simp -dsimp[h13,q14,h15,q16,h19,q20]
     revert hF;refine aS ?_ ?_<;>intro h23 q24 hF
     ·repeat first|refine cg ?_|simp -dsimp[h13,q14,h15,q16,h19,q20,h23]
      refine ADraw.eff [60] [(0,1),(0,1),(0,1),(0,1),(0,1),(0,1),(0,1),(0,1),(0,1),(0,1),(0,1),(0,0),(0,1),(1,1),(1,1)] [1,0,2,0,0,0,0,2,0,0,0,1,1,1,1] follows (by kernel_rfl) (by kernel_rfl) (by kernel_rfl) ?_
      have hF:=ob hF;obtain⟨x25,e26a,hF⟩:=hF
      have e26a:=ZT e26a;obtain⟨ne26,e26⟩:=e26a
      have le26:=ZD e26
      have hF:=ob hF;obtain⟨x27,e28a,hF⟩:=hF
      have e28a:=ZT e28a;obtain⟨ne28,e28⟩:=e28a
      have le28:=ZD e28
      repeat first|refine cg ?_|simp -dsimp[h13,q14,h15,q16,h19,q20,h23,↓e26,↓e28]
      have hF:=ob hF;obtain⟨v29,e30,hF⟩:=hF
      refine((C.f160 B hB1 hB2 o' v29 e30)).elend (by first|simp -dsimp[h13,q14,h15,q16,h19,q20,h23,↓e26,↓e28];done|simp_all) (by simp -dsimp) ?_
      have hF:=oc hF;obtain⟨c31,hF⟩:=hF
      cases hF
      repeat first|refine cg ?_|simp -dsimp[h13,q14,h15,q16,h19,q20,h23,↓e26,↓e28]
      all_goals(try first|omega|rfl)
     ·repeat first|refine cg ?_|simp -dsimp[h13,q14,h15,q16,h19,q20,h23,q24]
      revert hF;refine aS ?_ ?_<;>intro h32 q33 hF
      ·repeat first|refine cg ?_|simp -dsimp[h13,q14,h15,q16,h19,q20,h23,q24,h32]
       refine ADraw.simple follows (by kernel_rfl) (by kernel_rfl) ?_
       have hF:=ob hF;obtain⟨x34,e35,hF⟩:=hF
       have le35:=ZD e35
       have hF:=oc hF;obtain⟨c36,hF⟩:=hF
       have hF:=oc hF;obtain⟨c37,hF⟩:=hF
       have hF:=ob hF;obtain⟨x38,e39,hF⟩:=hF
       have le39:=ZD e39
       have hF:=oc hF;obtain⟨c40,hF⟩:=hF
       have hF:=oc hF;obtain⟨c41,hF⟩:=hF
       cases hF
       repeat first|refine cg ?_|simp -dsimp[h13,q14,h15,q16,h19,q20,h23,q24,h32,↓e35,↓e39]
       all_goals(try first|omega|rfl)
      ·repeat first|refine cg ?_|simp -dsimp[h13,q14,h15,q16,h19,q20,h23,q24,h32,q33]
       refine ADraw.simple follows (by kernel_rfl) (by kernel_rfl) ?_
       repeat first|refine cg ?_|simp -dsimp[h13,q14,h15,q16,h19,q20,h23,q24,h32,q33]
       have hF:=ob hF;obtain⟨v42,e43,hF⟩:=hF
       refine((C.f156 B hB1 hB2 p.var v42 e43)).pgoW (by first|simp[h13,q14,h15,q16,h19,q20,h23,q24,h32,q33];done|simp_all) (by simp) ?_
       have hF:=oc hF;obtain⟨c44,hF⟩:=hF
       have hF:=ob hF;obtain⟨x45,e46,hF⟩:=hF
       have le46:=ZD e46
       have hF:=oc hF;obtain⟨c47,hF⟩:=hF
       cases hF
       repeat first|refine cg ?_|simp -dsimp[h13,q14,h15,q16,h19,q20,h23,q24,h32,q33,↓e46]
       all_goals(try first|omega|rfl)
 ·intro _f_f161 _f_f162 ih_f161 ih_f162 t p v i kids o hF
  intro c hc Q hq
  obtain rfl:c=_:=ZQ hc rfl
  refine kN fun hk hs=> ?_
  have b0:=hk 0
  simp -dsimp at b0
  have b7:=hk 7
  simp -dsimp at b7
  have b16:=hk 16
  simp -dsimp at b16
  have d1:=hs 1 _ rfl
  simp -dsimp[Blk.bnd]at d1
  have d2:=hs 2 _ rfl
  simp -dsimp[Blk.bnd]at d2
  clear hk hs
  refine eN ?_
  repeat first|refine cg ?_|simp -dsimp
  revert hF;refine aS ?_ ?_<;>intro h2 q3 hF
  ·have z4:((i:Int)<(p.kids.length:Int)):=auz
   have hF:=ob hF;obtain⟨x,e5,hF⟩:=hF
   have le5:=ZD e5
   repeat first|refine cg ?_|simp -dsimp[h2,z4,↓e5]
   refine ADraw.eff [] [(0,1),(0,0),(0,0),(0,0),(0,0),(0,0),(0,0),(0,2),(0,2),(0,2),(2,2)] [1,1,1,1,1,1,1,1,1,1,1] follows (by kernel_rfl) (by kernel_rfl) (by kernel_rfl) ?_
   have hF:=ob hF;obtain⟨x6,e7,hF⟩:=hF
   have le7:=ZD e7
   repeat first|refine cg ?_|simp -dsimp[h2,z4,↓e5,↓e7]
   have hF:=ob hF;obtain⟨v8,e9,hF⟩:=hF
   refine((ih_f161 x6 x v8 e9)).pgoW (by first|simp[h2,z4,↓e5,↓e7];done|simp_all) (by simp) ?_
   have hF:=oc hF;obtain⟨c10,hF⟩:=hF
   have w11:i64.wrap ((i:Int)+1)=(i:Int)+1:=ZF (by omega) (by omega)
   repeat first|refine cg ?_|simp -dsimp[h2,z4,↓e5,↓e7,w11]
   refine aG _ ?_ ((ih_f162 t p v (i+1) (kids++[v8]) o hF) _ rfl _ hq)
   exact(gT (by simp) (by first|simp -dsimp[h2,z4,↓e5,↓e7,w11];done|simp_all))
  ·have z4:¬((i:Int)<(p.kids.length:Int)):=auz
   cases hF
   repeat first|refine cg ?_|simp -dsimp[h2,q3,z4]
   refine lG _ (gT (by simp) (by first|simp -dsimp[h2,q3,z4];done|simp_all)) hq
theorem C.f163 (g:Guard)(r:ByteArray)(hF:F.f163 g=some r):PureCall Tryz.prog B 37 [.agg [li g.op,li g.var,li g.n]] (.lit (.string r)):=by
 unfold F.f163 at hF
 refine pE Tryz.func37 (by kernel_rfl) rfl Tryz.ntmps37 (by simp) (by simp) ?_
 repeat first|refine cg ?_|simp -dsimp
 revert hF;refine aS ?_ ?_<;>intro h1 q2 hF
 ·repeat first|refine cg ?_|simp -dsimp[h1]
  refine ADraw.simple follows (by kernel_rfl) (by kernel_rfl) ?_
  repeat first|refine cg ?_|simp -dsimp[h1]
  have hF:=ob hF;obtain⟨v,e3,hF⟩:=hF
  refine((C.f156 B hB1 hB2 g.var v e3)).pgoW (by first|simp[h1];done|simp_all) (by simp) ?_
  have hF:=oc hF;obtain⟨c4,hF⟩:=hF
  repeat first|refine cg ?_|simp -dsimp[h1]
  have hF:=ob hF;obtain⟨v5,e6,hF⟩:=hF
  refine((C.f157 B hB1 hB2 g.n v5 e6)).pgoW (by first|simp[h1];done|simp_all) (by simp) ?_
  have hF:=oc hF;obtain⟨c7,hF⟩:=hF
  cases hF
  repeat first|refine cg ?_|simp -dsimp[h1]
  all_goals(try first|omega|rfl)
 ·repeat first|refine cg ?_|simp -dsimp[h1,q2]
  refine ADraw.simple follows (by kernel_rfl) (by kernel_rfl) ?_
  repeat first|refine cg ?_|simp -dsimp[h1,q2]
  have hF:=ob hF;obtain⟨v8,e9,hF⟩:=hF
  refine((C.f156 B hB1 hB2 g.var v8 e9)).pgoW (by first|simp[h1,q2];done|simp_all) (by simp) ?_
  have hF:=oc hF;obtain⟨c10,hF⟩:=hF
  repeat first|refine cg ?_|simp -dsimp[h1,q2]
  have hF:=ob hF;obtain⟨v11,e12,hF⟩:=hF
  refine((C.f157 B hB1 hB2 g.n v11 e12)).pgoW (by first|simp[h1,q2];done|simp_all) (by simp) ?_
  have hF:=oc hF;obtain⟨c13,hF⟩:=hF
  cases hF
  repeat first|refine cg ?_|simp -dsimp[h1,q2]
  all_goals(try first|omega|rfl)
theorem CC.f164 (w:List Vl.Data)(t:Ty)(list:List Clause):(∀(i:Nat) (out:List ByteArray) (o:List ByteArray),F.f164 w t list i out=some o->∀(c:Code),Zq [1,1,0,1,0,0] (ZJ Tryz.f18)=some c->∀(Q:Exit->ASt->Prop),(Q (.exit 0) ⟨[(7,.own 1 (List.length (α:=ByteArray) o))],[.dead,.elems 1 (List.map cS o)]⟩)->ALoopU Tryz.prog B 0 39 (hold c .mk) ⟨[(0,am Vl.Data.c w),(4,.ptr 0 0),(7,.own 1 (List.length (α:=ByteArray) out)),(11,am Clause.c list),(12,li (list.length:Int)),(13,li (i:Int))],[.cells [li t.data,li t.index],.elems 1 (List.map cS out)]⟩ (hold Q .mk)):=by
 refine F.f164.partial_correctness w t list
  _
  ?_
 ·intro _f_f164 ih_f164 i out o hF
  intro c hc Q hq
  obtain rfl:c=_:=ZQ hc rfl
  refine kN fun hk hs=> ?_
  have b0:=hk 0
  simp -dsimp at b0
  have b11:=hk 11
  simp -dsimp at b11
  have d1:=hs 1 _ rfl
  simp -dsimp[Blk.bnd]at d1
  clear hk hs
  refine eN ?_
  repeat first|refine cg ?_|simp -dsimp
  revert hF;refine aS ?_ ?_<;>intro h1 q2 hF
  ·have z3:((i:Int)<(list.length:Int)):=auz
   have hF:=ob hF;obtain⟨x,e4,hF⟩:=hF
   have le4:=ZD e4
   repeat first|refine cg ?_|simp -dsimp[h1,z3,↓e4]
   have hF:=ob hF;obtain⟨v,e5,hF⟩:=hF
   refine(((CC.f161 B hB1 hB2 w).1 t x.pat v e5)).goW (by first|simp[h1,z3,↓e4];done|simp_all) (by simp) ?_
   repeat first|refine cg ?_|simp -dsimp[h1,z3,↓e4]
   revert hF;refine aN ?_ ?_<;>intro h6 q7 hF
   ·repeat first|refine cg ?_|simp -dsimp[h1,z3,↓e4,h6,q7]
    have hF:=ob hF;obtain⟨v8,e9,hF⟩:=hF
    refine((C.f163 B hB1 hB2 x.guard v8 e9)).goW (by first|simp[h1,z3,↓e4,h6,q7];done|simp_all) (by simp) ?_
    have hF:=oc hF;obtain⟨c10,hF⟩:=hF
    have hF:=oc hF;obtain⟨c11,hF⟩:=hF
    have hF:=oc hF;obtain⟨c12,hF⟩:=hF
    have w13:i64.wrap ((i:Int)+1)=(i:Int)+1:=ZF (by omega) (by omega)
    repeat first|refine cg ?_|simp -dsimp[h1,z3,↓e4,h6,q7,w13]
    refine aG _ ?_ ((ih_f164 (i+1) (out++[v++((⟨#[32]⟩:ByteArray)++v8)]) o hF) _ rfl _ hq)
    exact(gT (by simp) (by first|simp -dsimp[h1,z3,↓e4,h6,q7,w13];done|simp_all))
   ·have hF:=oc hF;obtain⟨c14,hF⟩:=hF
    have w15:i64.wrap ((i:Int)+1)=(i:Int)+1:=ZF (by omega) (by omega)
    repeat first|refine cg ?_|simp -dsimp[h1,z3,↓e4,h6,q7,w15]
    refine aG _ ?_ ((ih_f164 (i+1) (out++[v]) o hF) _ rfl _ hq)
    exact(gT (by simp) (by first|simp -dsimp[h1,z3,↓e4,h6,q7,w15];done|simp_all))
  ·have z3:¬((i:Int)<(list.length:Int)):=auz
   cases hF
   repeat first|refine cg ?_|simp -dsimp[h1,q2,z3]
   refine lG _ (gT (by simp) (by first|simp -dsimp[h1,q2,z3];done|simp_all)) hq
theorem C.f165 (w:List Vl.Data)(t:Ty)(list:List Clause)(r:ByteArray)(hF:F.f165 w t list=some r):PureCall Tryz.prog B 18 [am Vl.Data.c w,.agg [li t.data,li t.index],am Clause.c list] (.lit (.string r)):=by
 unfold F.f165 at hF
 refine pE Tryz.func18 (by kernel_rfl) rfl Tryz.ntmps18 (by simp) (by simp) ?_
 repeat first|refine cg ?_|simp -dsimp
 have hF:=ob hF;obtain⟨o',ho16,hF⟩:=hF
 refine ALoop.goU ⟨[(0,.arr (List.map Vl.Data.c w)),(4,.ptr 0 0),(7,.own 1 (List.length (α:=ByteArray) [])),(11,.arr (List.map Clause.c list)),(12,.lit (.int .i64 (list.length:Int))),(13,.lit (.int .i64 0))],[.cells [.lit (.int .i64 t.data),.lit (.int .i64 t.index)],.elems 1 (List.map cS [])]⟩ (by refine Gh.trans (Gh.nil 7 1 (by simp -dsimp)) ?_;exact(gT (by simp) (by simp -dsimp))) ?_
 refine((CC.f164 B hB1 hB2 w t list) 0 [] o' ho16) _ rfl _ ?_
 repeat first|refine cg ?_|simp -dsimp
 have hF:=ob hF;obtain⟨v17,e18,hF⟩:=hF
 refine((C.f159 B hB1 hB2 o' (⟨#[47]⟩:ByteArray) v17 e18)).lend (by simp -dsimp) (by simp -dsimp) ?_
 cases hF
 repeat first|refine cg ?_|simp -dsimp
 all_goals(try first|omega|rfl)
theorem C.f166 (w:List Vl.Data)(t:Ty)(list:List Clause)(r:ByteArray)(hF:F.f166 w t list=some r):PureCall Tryz.prog B 7 [am Vl.Data.c w,.agg [li t.data,li t.index],am Clause.c list] (.lit (.string r)):=by
 unfold F.f166 at hF
 refine pE Tryz.func7 (by kernel_rfl) rfl Tryz.ntmps7 (by simp) (by simp) ?_
 repeat first|refine cg ?_|simp -dsimp
 have hF:=ob hF;obtain⟨v,e1,hF⟩:=hF
 refine((C.f148 B hB1 hB2 w t list v e1)).goW (by simp) (by simp) ?_
 repeat first|refine cg ?_|simp -dsimp
 revert hF;refine aN (fun h2 q3 hF=> ?_) (fun h2 q3 hF=> ?_)
 ·cases hF
  repeat first|refine cg ?_|simp -dsimp[h2,q3]
  all_goals(try first|omega|rfl)
 ·repeat first|refine cg ?_|simp -dsimp[h2,q3]
  have hF:=ob hF;obtain⟨v4,e5,hF⟩:=hF
  refine((C.f165 B hB1 hB2 w t list v4 e5)).goW (by first|simp[h2,q3];done|simp_all) (by simp) ?_
  cases hF
  repeat first|refine cg ?_|simp -dsimp[h2,q3]
  all_goals(try first|omega|rfl)
theorem C.f167 (code:List Int)(more:List Int)(r:Bool)(hF:F.f167 code more=some r):PureCall Tryz.prog B 3 [am cU code,am cU more] (.lit (.bool r)):=by
 unfold F.f167 at hF
 refine pE Tryz.func3 (by kernel_rfl) rfl Tryz.ntmps3 (by simp) (by simp) ?_
 repeat first|refine cg ?_|simp -dsimp
 revert hF;refine aN ?_ ?_<;>intro h1 q2 hF
 ·have z3:¬(1048576<(code.length:Int)):=auz
  repeat first|refine cg ?_|simp -dsimp[h1,q2,z3]
  revert hF;refine aS ?_ ?_<;>intro h4 q5 hF
  ·have z6:(1048576<(more.length:Int)):=auz
   cases hF
   repeat first|refine cg ?_|simp -dsimp[h1,q2,z3,h4,z6]
   all_goals(try first|omega|rfl)
  ·have z6:¬(1048576<(more.length:Int)):=auz
   repeat first|refine cg ?_|simp -dsimp[h1,q2,z3,h4,q5,z6]
   have hF:=ob hF;obtain⟨v,e7,hF⟩:=hF
   refine((C.f100 B hB1 hB2 code v e7)).goW (by first|simp[h1,q2,z3,h4,q5,z6];done|simp_all) (by simp) ?_
   repeat first|refine cg ?_|simp -dsimp[h1,q2,z3,h4,q5,z6]
   have hF:=ob hF;obtain⟨v8,e9,hF⟩:=hF
   refine((C.f148 B hB1 hB2 v.1 v.2.1 v.2.2 v8 e9)).goW (by first|simp[h1,q2,z3,h4,q5,z6];done|simp_all) (by simp) ?_
   repeat first|refine cg ?_|simp -dsimp[h1,q2,z3,h4,q5,z6]
   have hF:=ob hF;obtain⟨v10,e11,hF⟩:=hF
   refine((C.f154 B hB1 hB2 v.1 v.2.1 v.2.2 v10 e11)).goW (by first|simp[h1,q2,z3,h4,q5,z6];done|simp_all) (by simp) ?_
   repeat first|refine cg ?_|simp -dsimp[h1,q2,z3,h4,q5,z6]
   revert hF;refine aS ?_ ?_<;>intro h12 q13 hF
   ·repeat first|refine cg ?_|simp -dsimp[h1,q2,z3,h4,q5,z6,h12]
    revert hF;refine aS (fun h14 q15 hF=> ?_) (fun h14 q15 hF=> ?_)
    ·repeat first|refine cg ?_|simp -dsimp[h1,q2,z3,h4,q5,z6,h12,h14]
     revert hF;refine aS ?_ ?_<;>intro h16 q17 hF
     ·have z18:((v.2.2.length:Int)=0):=auz
      repeat first|refine cg ?_|simp -dsimp[h1,q2,z3,h4,q5,z6,h12,h14,h16,z18]
      have hF:=ob hF;obtain⟨v19,e20,hF⟩:=hF
      refine((C.f154 B hB1 hB2 v.1 v.2.1 v.2.2 v19 e20)).goW (by first|simp[h1,q2,z3,h4,q5,z6,h12,h14,h16,z18];done|simp_all) (by simp) ?_
      cases hF
      repeat first|refine cg ?_|simp -dsimp[h1,q2,z3,h4,q5,z6,h12,h14,h16,z18]
      all_goals(try first|omega|rfl)
     ·have z18:¬((v.2.2.length:Int)=0):=auz
      have hF:=oc hF;obtain⟨c21,hF⟩:=hF
      repeat first|refine cg ?_|simp -dsimp[h1,q2,z3,h4,q5,z6,h12,h14,h16,q17,z18]
      have hF:=ob hF;obtain⟨v22,e23,hF⟩:=hF
      refine((C.f166 B hB1 hB2 v.1 v.2.1 v.2.2 v22 e23)).goW (by first|simp[h1,q2,z3,h4,q5,z6,h12,h14,h16,q17,z18];done|simp_all) (by simp) ?_
      repeat first|refine cg ?_|simp -dsimp[h1,q2,z3,h4,q5,z6,h12,h14,h16,q17,z18]
      refine ADraw.simple follows (by kernel_rfl) (by kernel_rfl) ?_
      have hF:=oc hF;obtain⟨c24,hF⟩:=hF
      repeat first|refine cg ?_|simp -dsimp[h1,q2,z3,h4,q5,z6,h12,h14,h16,q17,z18]
      have hF:=ob hF;obtain⟨v25,e26,hF⟩:=hF
      refine((C.f166 B hB1 hB2 v.1 v.2.1 ((v.2.2.drop 0).take ((i64.wrap (1+(more.length:Int).tmod (v.2.2.length:Int))).toNat-0)) v25 e26)).pgoW (by first|simp[h1,q2,z3,h4,q5,z6,h12,h14,h16,q17,z18];done|simp_all) (by simp) ?_
      repeat first|refine cg ?_|simp -dsimp[h1,q2,z3,h4,q5,z6,h12,h14,h16,q17,z18]
      refine ADraw.simple follows (by kernel_rfl) (by kernel_rfl) ?_
      repeat first|refine cg ?_|simp -dsimp[h1,q2,z3,h4,q5,z6,h12,h14,h16,q17,z18]
      have hF:=ob hF;obtain⟨v27,e28,hF⟩:=hF
      refine((C.f148 B hB1 hB2 v.1 v.2.1 ((v.2.2.drop 0).take ((i64.wrap (1+(more.length:Int).tmod (v.2.2.length:Int))).toNat-0)) v27 e28)).pgoW (by first|simp[h1,q2,z3,h4,q5,z6,h12,h14,h16,q17,z18];done|simp_all) (by simp) ?_
      repeat first|refine cg ?_|simp -dsimp[h1,q2,z3,h4,q5,z6,h12,h14,h16,q17,z18]
      revert hF;refine aS (fun h29 q30 hF=> ?_) (fun h29 q30 hF=> ?_)
      ·repeat first|refine cg ?_|simp -dsimp[h1,q2,z3,h4,q5,z6,h12,h14,h16,q17,z18,h29]
       revert hF;refine aS ?_ ?_<;>intro h31 q32 hF
       ·have z33:((v25.size:Int)<=(v22.size:Int)):=auz
        cases hF
        repeat first|refine cg ?_|simp -dsimp[h1,q2,z3,h4,q5,z6,h12,h14,h16,q17,z18,h29,h31,z33]
        all_goals(try first|omega|rfl)
       ·have z33:¬((v25.size:Int)<=(v22.size:Int)):=auz
        cases hF
        repeat first|refine cg ?_|simp -dsimp[h1,q2,z3,h4,q5,z6,h12,h14,h16,q17,z18,h29,h31,q32,z33]
        all_goals(try first|omega|rfl)
      ·cases hF
       repeat first|refine cg ?_|simp -dsimp[h1,q2,z3,h4,q5,z6,h12,h14,h16,q17,z18,h29,q30]
       all_goals(try first|omega|rfl)
    ·repeat first|refine cg ?_|simp -dsimp[h1,q2,z3,h4,q5,z6,h12,h14,q15]
     have hF:=ob hF;obtain⟨v34,e35,hF⟩:=hF
     refine((C.f154 B hB1 hB2 v.1 v.2.1 v.2.2 v34 e35)).goW (by first|simp[h1,q2,z3,h4,q5,z6,h12,h14,q15];done|simp_all) (by simp) ?_
     cases hF
     repeat first|refine cg ?_|simp -dsimp[h1,q2,z3,h4,q5,z6,h12,h14,q15]
     all_goals(try first|omega|rfl)
   ·repeat first|refine cg ?_|simp -dsimp[h1,q2,z3,h4,q5,z6,h12,q13]
    have hF:=ob hF;obtain⟨v36,e37,hF⟩:=hF
    refine((C.f154 B hB1 hB2 v.1 v.2.1 v.2.2 v36 e37)).goW (by first|simp[h1,q2,z3,h4,q5,z6,h12,q13];done|simp_all) (by simp) ?_
    cases hF
    repeat first|refine cg ?_|simp -dsimp[h1,q2,z3,h4,q5,z6,h12,q13]
    all_goals(try first|omega|rfl)
 ·have z3:(1048576<(code.length:Int)):=auz
  cases hF
  repeat first|refine cg ?_|simp -dsimp[h1,q2,z3]
  all_goals(try first|omega|rfl)
end Go.Proofs.YtinfmpljhapfgaaGreatDoor
