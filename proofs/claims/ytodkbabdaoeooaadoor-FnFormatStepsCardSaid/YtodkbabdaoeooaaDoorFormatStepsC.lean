/- A part of the proof. -/
import Derived.Test.YtodkbabdaoeooaaDoorProg
import Derived.Test.YtodkbabdaoeooaaDoorFormatStepsF
import Derived.Test.YtodkbabdaoeooaaDoorFormatStepsC1
import Derived.Test.YtodkbabdaoeooaaDoorVlBld
import Derived.Test.YtodkbabdaoeooaaDoorShelf
namespace Go.Proofs.YtodkbabdaoeooaaDoor
open Go Go.Proofs Go.Vl
open abr renaming sp->aS,ns->aN
open Leave renaming go->lG
open Again renaming go->aG
open ALoopU renaming know->kN,enter->eN
open Gh renaming to3->gT,refl->gR
open PureCall renaming enterLe->pE
open Go.IntKind (i64)
set_option linter.all false
set_option maxRecDepth 100000
set_option maxHeartbeats 4000000
set_option synthInstance.maxSize 100000
set_option synthInstance.maxHeartbeats 4000000
attribute [local irreducible] ECallA NCallA aL aLg AMake MLoop AgainM LeaveM ZBq ZBG MutCall BCall chk abr ACall ALoop ALoopU ADraw Again Leave ZFC PCall ZCf awp ZI1 PureCall hold
variable (B : Nat) (hB1 : 1073741824 <= bd B) (hB2 : bd B <= 9223372036854775807 /\ ZKP B = some 0)
include hB1 hB2
theorem CC.f80 (a:List VarType)(b:List VarType):(∀(i:Nat) (o:Lo Bool Unit),F.f80 a b i=some o->∀(c:Code),Zr [1,0,1,0,0] (ZI Tryd.f73)=some c->∀(Q:Exit->ASt->Prop),o.post (fun r=>∀st,ZCf Tryd.prog Tryd.f73 (fun r' _=>r'.le (.lit (.bool r))) .ret st->Q .ret st) (fun s=>Q (.exit 0) ⟨[(0,am VarType.c a),(1,am VarType.c b)],[]⟩)->ALoopU Tryd.prog B 0 40 (hold c .mk) ⟨[(0,am VarType.c a),(1,am VarType.c b),(5,li (i:Int))],[]⟩ (hold Q .mk)):=by
 refine F.f80.partial_correctness a b
  _
  ?_
 ·intro _f_f80 ih_f80 i o hF
  intro c hc Q hq
  obtain rfl:c=_:=ZQ hc rfl
  refine kN fun hk hs=> ?_
  have b0:=hk 0
  simp -dsimp at b0
  have b1:=hk 1
  simp -dsimp at b1
  clear hk hs
  refine eN ?_
  repeat first|refine cg ?_|simp -dsimp
  revert hF;refine aS ?_ ?_<;>intro h1 q2 hF
  ·have z3:((i:Int)<(a.length:Int)):=auz
   have hF:=ob hF;obtain⟨x,e4,hF⟩:=hF
   have le4:=ZD e4
   repeat first|refine cg ?_|simp -dsimp[h1,z3,↓e4]
   have hF:=ob hF;obtain⟨v,e5,hF⟩:=hF
   refine((C.f79 B hB1 hB2 b x.var v e5)).goW (by first|simp[h1,z3,↓e4];done|simp_all) (by simp) ?_
   repeat first|refine cg ?_|simp -dsimp[h1,z3,↓e4]
   refine ADraw.simple follows (by kernel_rfl) (by kernel_rfl) ?_
   repeat first|refine cg ?_|simp -dsimp[h1,z3,↓e4]
   revert hF;refine aN ?_ ?_<;>intro h6 q7 hF
   ·have hF:=ob hF;obtain⟨x8,e9a,hF⟩:=hF
    have e9a:=ZZ e9a;obtain⟨ne9,e9⟩:=e9a
    have le9:=ZD e9
    repeat first|refine cg ?_|simp -dsimp[h1,z3,↓e4,h6,q7,↓e9]
    revert hF;refine aN (fun h10 q11 hF=> ?_) (fun h10 q11 hF=> ?_)
    ·cases hF
     repeat first|refine cg ?_|simp -dsimp[h1,z3,↓e4,h6,q7,↓e9,h10,q11]
     refine lG _ (gR _) (hq _ ?_)
     repeat first|refine cg ?_|simp -dsimp[h1,z3,↓e4,h6,q7,↓e9,h10,q11]
    ·have w12:i64.wrap ((i:Int)+1)=(i:Int)+1:=ZE (by omega) (by omega)
     repeat first|refine cg ?_|simp -dsimp[h1,z3,↓e4,h6,q7,↓e9,h10,q11,w12]
     refine aG _ ?_ ((ih_f80 (i+1) o hF) _ rfl _ hq)
     exact(gT (by simp) (by first|simp -dsimp[h1,z3,↓e4,h6,q7,↓e9,h10,q11,w12];done|simp_all))
   ·cases hF
    repeat first|refine cg ?_|simp -dsimp[h1,z3,↓e4,h6,q7]
    refine lG _ (gR _) (hq _ ?_)
    repeat first|refine cg ?_|simp -dsimp[h1,z3,↓e4,h6,q7]
  ·have z3:¬((i:Int)<(a.length:Int)):=auz
   cases hF
   repeat first|refine cg ?_|simp -dsimp[h1,q2,z3]
   refine lG _ (gT (by simp) (by first|simp -dsimp[h1,q2,z3];done|simp_all)) hq
theorem C.f81 (a:List VarType)(b:List VarType)(r:Bool)(hF:F.f81 a b=some r):PureCall Tryd.prog B 73 [am VarType.c a,am VarType.c b] (.lit (.bool r)):=by
 unfold F.f81 at hF
 refine pE Tryd.func73 (by kernel_rfl) rfl Tryd.ntmps73 (by simp) (by simp) ?_
 repeat first|refine cg ?_|simp -dsimp
 have hF:=ob hF;obtain⟨o',ho13,hF⟩:=hF
 refine ALoop.goU _ ?_ (((CC.f80 B hB1 hB2 a b) 0 o' ho13) _ rfl _ ?_)
 ·exact(gT (by simp) (by simp -dsimp))
 rcases o' with r0|sx
 ·dsimp only at hF
  cases hF
  intro st h
  simpa using h
 ·dsimp only at hF
  cases hF
  repeat first|refine cg ?_|simp -dsimp
  all_goals(try first|omega|rfl)
theorem CC.f82 (v26:List VarType):(∀(i28:Nat) (o:Lo Bool Unit),F.f82 v26 i28=some o->∀(c:Code),Zr [1,1,1,1,1,0,1,0,0] (ZI Tryd.f57)=some c->∀(Q:Exit->ASt->Prop),o.post (fun r=>∀st,ZCf Tryd.prog Tryd.f57 (fun r' _=>r'.le (.lit (.bool r))) .ret st->Q .ret st) (fun s=>Q (.exit 2) ⟨[],[]⟩)->ALoopU Tryd.prog B 0 70 (hold c .mk) ⟨[(9,.own 2 (List.length (α:=VarType) v26)),(10,li (i28:Int))],[.dead,.dead,.elems 3 (List.map VarType.c v26)]⟩ (hold Q .mk)):=by
 refine F.f82.partial_correctness v26
  _
  ?_
 ·intro _f_f82 ih_f82 i28 o hF
  intro c hc Q hq
  obtain rfl:c=_:=ZQ hc rfl
  refine kN fun hk hs=> ?_
  have d2:=hs 2 _ rfl
  simp -dsimp[Blk.bnd]at d2
  clear hk hs
  refine eN ?_
  repeat first|refine cg ?_|simp -dsimp
  revert hF;refine aS ?_ ?_<;>intro h29 q30 hF
  ·have z31:((i28:Int)<(v26.length:Int)):=auz
   have hF:=ob hF;obtain⟨x32,e33,hF⟩:=hF
   have le33:=ZD e33
   repeat first|refine cg ?_|simp -dsimp[h29,z31,↓e33]
   have hF:=ob hF;obtain⟨v34,e35,hF⟩:=hF
   refine((C.f79 B hB1 hB2 v26 x32.var v34 e35)).lend (by first|simp -dsimp[h29,z31,↓e33];done|simp_all) (by simp -dsimp) ?_
   repeat first|refine cg ?_|simp -dsimp[h29,z31,↓e33]
   revert hF;refine aN ?_ ?_<;>intro h36 q37 hF
   ·cases hF
    repeat first|refine cg ?_|simp -dsimp[h29,z31,↓e33,h36,q37]
    refine lG _ (gR _) (hq _ ?_)
    repeat first|refine cg ?_|simp -dsimp[h29,z31,↓e33,h36,q37]
   ·have w38:i64.wrap ((i28:Int)+1)=(i28:Int)+1:=ZE (by omega) (by omega)
    repeat first|refine cg ?_|simp -dsimp[h29,z31,↓e33,h36,q37,w38]
    refine aG _ ?_ ((ih_f82 (i28+1) o hF) _ rfl _ hq)
    exact(gT (by simp) (by first|simp -dsimp[h29,z31,↓e33,h36,q37,w38];done|simp_all))
  ·have z31:¬((i28:Int)<(v26.length:Int)):=auz
   cases hF
   repeat first|refine cg ?_|simp -dsimp[h29,q30,z31]
   refine lG _ (gT (by simp) (by first|simp -dsimp[h29,q30,z31];done|simp_all)) hq
theorem CC.f83 (w:List Vl.Data):(∀(t:Ty) (p:Pattern) (r:Bool),F.f83 w t p=some r->PureCall Tryd.prog B 57 [am Vl.Data.c w,.agg [li t.data,li t.index],.agg [li p.op,li p.ctor,li p.n,li p.m,li p.var,am Pattern.c p.kids]] (.lit (.bool r)))/\
  (∀(t:Ty) (p:Pattern) (v:List Ty) (i:Nat) (o:Lo Bool Unit),F.f84 w t p v i=some o->∀(c:Code),Zr [1,1,0,1,0,0] (ZI Tryd.f57)=some c->∀(Q:Exit->ASt->Prop),o.post (fun r=>∀st,ZCf Tryd.prog Tryd.f57 (fun r' _=>r'.le (.lit (.bool r))) .ret st->Q .ret st) (fun s=>Q (.exit 0) ⟨[(0,am Vl.Data.c w),(4,.ptr 0 0),(5,.ptr 1 0)],[.cells [li t.data,li t.index],.cells [li p.op,li p.ctor,li p.n,li p.m,li p.var,am Pattern.c p.kids]]⟩)->ALoopU Tryd.prog B 0 70 (hold c .mk) ⟨[(0,am Vl.Data.c w),(4,.ptr 0 0),(5,.ptr 1 0),(7,am Ty.c v),(8,li (i:Int))],[.cells [li t.data,li t.index],.cells [li p.op,li p.ctor,li p.n,li p.m,li p.var,am Pattern.c p.kids]]⟩ (hold Q .mk)):=by
 refine F.f83.mutual_partial_correctness w
  _ _
  ?_ ?_
 ·intro _f_f84 ih_f84 t p r hF
  refine pE Tryd.func57 (by kernel_rfl) rfl Tryd.ntmps57 (by simp) (by simp) ?_
  repeat first|refine cg ?_|simp -dsimp
  have hF:=ob hF;obtain⟨v,e1,hF⟩:=hF
  refine((C.f69 B hB1 hB2 w t p v e1)).goW (by simp) (by simp) ?_
  repeat first|refine cg ?_|simp -dsimp
  have hF:=ob hF;obtain⟨o',ho13,hF⟩:=hF
  refine ALoop.goU _ ?_ ((ih_f84 t p v 0 o' ho13) _ rfl _ ?_)
  ·exact(gT (by simp) (by simp -dsimp))
  rcases o' with r042|sx
  ·dsimp only at hF
   cases hF
   intro st h
   simpa using h
  ·dsimp only at hF
   repeat first|refine cg ?_|simp -dsimp
   revert hF;refine aS ?_ ?_<;>intro h14 q15 hF
   ·repeat first|refine cg ?_|simp -dsimp[h14]
    refine ADraw.eff [41,73] [(0,0),(0,0),(0,0),(0,0),(0,0),(0,0),(0,3),(0,1),(0,1),(0,1),(0,1),(0,1),(0,1),(0,3),(0,3),(3,3)] [1,1,1,1,1,1,1,1,2,0,2,0,0,1,1,1] follows (by kernel_rfl) (by kernel_rfl) (by kernel_rfl) ?_
    have hF:=ob hF;obtain⟨x16,e17,hF⟩:=hF
    have le17:=ZD e17
    repeat first|refine cg ?_|simp -dsimp[h14,↓e17]
    have hF:=ob hF;obtain⟨v18,e19,hF⟩:=hF
    refine ECallA.nilArg 0 3 (by simp) ?_
    repeat first|refine cg ?_|simp -dsimp[h14,↓e17]
    refine(((CC.f74 B hB1 hB2 w).1 [] t x16 v18 e19)).ego (pl [2]) (by simp) (by simp) (ZAn _ rfl (by decide)) (by intro i hi hi';simp at hi hi';first|omega|(subst hi';simp[pl])) (by first|simp[h14,↓e17];done|simp_all) (by first|simp[h14,↓e17];done|simp_all) ?_
    have hF:=ob hF;obtain⟨x20,e21,hF⟩:=hF
    have le21:=ZD e21
    repeat first|refine cg ?_|simp -dsimp[h14,↓e17,↓e21]
    have hF:=ob hF;obtain⟨v22,e23,hF⟩:=hF
    refine ECallA.nilArg 0 3 (by simp) ?_
    repeat first|refine cg ?_|simp -dsimp[h14,↓e17,↓e21]
    refine(((CC.f74 B hB1 hB2 w).1 [] t x20 v22 e23)).ego (pl [3]) (by simp) (by simp) (ZAn _ rfl (by decide)) (by intro i hi hi';simp at hi hi';first|omega|(subst hi';simp[pl])) (by first|simp[h14,↓e17,↓e21];done|simp_all) (by first|simp[h14,↓e17,↓e21];done|simp_all) ?_
    repeat first|refine cg ?_|simp -dsimp[h14,↓e17,↓e21]
    have hF:=ob hF;obtain⟨v24,e25,hF⟩:=hF
    refine((C.f81 B hB1 hB2 v18 v22 v24 e25)).elend (by first|simp -dsimp[h14,↓e17,↓e21];done|simp_all) (by simp -dsimp) ?_
    cases hF
    repeat first|refine cg ?_|simp -dsimp[h14,↓e17,↓e21]
    all_goals(try first|omega|rfl)
   ·repeat first|refine cg ?_|simp -dsimp[h14,q15]
    have hF:=ob hF;obtain⟨v26,e27,hF⟩:=hF
    refine ACall.nilArg 0 3 (by simp) ?_
    repeat first|refine cg ?_|simp -dsimp[h14,q15]
    refine(((CC.f74 B hB1 hB2 w).1 [] t p v26 e27)).go (pl [2]) (by simp) (by simp) (ZAn _ rfl (by decide)) (by intro i hi hi';simp at hi hi';first|omega|(subst hi';simp[pl])) (by first|simp[h14,q15];done|simp_all) (by first|simp[h14,q15];done|simp_all) ?_
    repeat first|refine cg ?_|simp -dsimp[h14,q15]
    have hF:=ob hF;obtain⟨o'40,ho39,hF⟩:=hF
    refine ALoop.goU _ ?_ (((CC.f82 B hB1 hB2 v26) 0 o'40 ho39) _ rfl _ ?_)
    ·exact(gT (by simp) (by first|simp -dsimp[h14,q15];done|simp_all))
    rcases o'40 with r0|sx41
    ·dsimp only at hF
     cases hF
     intro st h
     simpa using h
    ·dsimp only at hF
     cases hF
     repeat first|refine cg ?_|simp -dsimp
     all_goals(try first|omega|rfl)
 ·intro _f_f83 _f_f84 ih_f83 ih_f84 t p v i o hF
  intro c hc Q hq
  obtain rfl:c=_:=ZQ hc rfl
  refine kN fun hk hs=> ?_
  have b0:=hk 0
  simp -dsimp at b0
  have b7:=hk 7
  simp -dsimp at b7
  have d1:=hs 1 _ rfl
  simp -dsimp[Blk.bnd]at d1
  clear hk hs
  refine eN ?_
  repeat first|refine cg ?_|simp -dsimp
  revert hF;refine aS ?_ ?_<;>intro h2 q3 hF
  ·have z4:((i:Int)<(v.length:Int)):=auz
   repeat first|refine cg ?_|simp -dsimp[h2,z4]
   refine ADraw.simple follows (by kernel_rfl) (by kernel_rfl) ?_
   have hF:=ob hF;obtain⟨x,e5,hF⟩:=hF
   have le5:=ZD e5
   have hF:=ob hF;obtain⟨x6,e7,hF⟩:=hF
   have le7:=ZD e7
   repeat first|refine cg ?_|simp -dsimp[h2,z4,↓e5,↓e7]
   have hF:=ob hF;obtain⟨v8,e9,hF⟩:=hF
   refine((ih_f83 x x6 v8 e9)).pgoW (by first|simp[h2,z4,↓e5,↓e7];done|simp_all) (by simp) ?_
   repeat first|refine cg ?_|simp -dsimp[h2,z4,↓e5,↓e7]
   revert hF;refine aN (fun h10 q11 hF=> ?_) (fun h10 q11 hF=> ?_)
   ·cases hF
    repeat first|refine cg ?_|simp -dsimp[h2,z4,↓e5,↓e7,h10,q11]
    refine lG _ (gR _) (hq _ ?_)
    repeat first|refine cg ?_|simp -dsimp[h2,z4,↓e5,↓e7,h10,q11]
   ·have w12:i64.wrap ((i:Int)+1)=(i:Int)+1:=ZE (by omega) (by omega)
    repeat first|refine cg ?_|simp -dsimp[h2,z4,↓e5,↓e7,h10,q11,w12]
    refine aG _ ?_ ((ih_f84 t p v (i+1) o hF) _ rfl _ hq)
    exact(gT (by simp) (by first|simp -dsimp[h2,z4,↓e5,↓e7,h10,q11,w12];done|simp_all))
  ·have z4:¬((i:Int)<(v.length:Int)):=auz
   cases hF
   repeat first|refine cg ?_|simp -dsimp[h2,q3,z4]
   refine lG _ (gT (by simp) (by first|simp -dsimp[h2,q3,z4];done|simp_all)) hq
theorem C.f85 (w:List Vl.Data)(t:Ty)(p:Pattern)(r:Bool)(hF:F.f85 w t p=some r):PureCall Tryd.prog B 39 [am Vl.Data.c w,.agg [li t.data,li t.index],.agg [li p.op,li p.ctor,li p.n,li p.m,li p.var,am Pattern.c p.kids]] (.lit (.bool r)):=by
 unfold F.f85 at hF
 refine pE Tryd.func39 (by kernel_rfl) rfl Tryd.ntmps39 (by simp) (by simp) ?_
 repeat first|refine cg ?_|simp -dsimp
 have hF:=ob hF;obtain⟨v,e1,hF⟩:=hF
 refine(((CC.f70 B hB1 hB2 w).1 t p 10 v e1)).goW (by simp) (by simp) ?_
 repeat first|refine cg ?_|simp -dsimp
 revert hF;refine aS (fun h2 q3 hF=> ?_) (fun h2 q3 hF=> ?_)
 ·repeat first|refine cg ?_|simp -dsimp[h2]
  have hF:=ob hF;obtain⟨v4,e5,hF⟩:=hF
  refine(((CC.f72 B hB1 hB2).1 p 60 v4 e5)).goW (by first|simp[h2];done|simp_all) (by simp) ?_
  repeat first|refine cg ?_|simp -dsimp[h2]
  revert hF;refine aS ?_ ?_<;>intro h6 q7 hF
  ·repeat first|refine cg ?_|simp -dsimp[h2,h6]
   have hF:=ob hF;obtain⟨v8,e9,hF⟩:=hF
   refine(((CC.f83 B hB1 hB2 w).1 t p v8 e9)).goW (by first|simp[h2,h6];done|simp_all) (by simp) ?_
   cases hF
   repeat first|refine cg ?_|simp -dsimp[h2,h6]
   all_goals(try first|omega|rfl)
  ·cases hF
   repeat first|refine cg ?_|simp -dsimp[h2,h6,q7]
   all_goals(try first|omega|rfl)
 ·cases hF
  repeat first|refine cg ?_|simp -dsimp[h2,q3]
  all_goals(try first|omega|rfl)
theorem C.f86 (r':ZB)(w:List Vl.Data)(t:Ty)(r:Pattern×ZB)(hF:F.f86 r' w t=some r):MutCall Tryd.prog B 83 [am cU r'.f0,li r'.f1] [.ptr 0 0,am Vl.Data.c w,.agg [li t.data,li t.index]] (.agg [li r.1.op,li r.1.ctor,li r.1.n,li r.1.m,li r.1.var,am Pattern.c r.1.kids]) [am cU r.2.f0,li r.2.f1]:=by
 unfold F.f86 at hF
 refine MutCall.enter Tryd.func83 (by kernel_rfl) rfl Tryd.ntmps83 (by simp) (by simp) (by simp) (by simp) ?_
 repeat first|refine cg ?_|simp -dsimp
 refine ADraw.effL [(5,12),(6,12),(7,12),(8,12)] 12 [49,90,91] [(0,3),(0,2),(0,2),(0,2),(0,1),(0,6),(0,6),(0,6),(0,6),(4,5),(4,5),(4,6),(0,6),(0,6),(6,6)] [1,1,1,2,1,1,1,1,1,1,1,1,1,1,1] follows (by kernel_rfl) (by kernel_rfl) (by kernel_rfl) (by kernel_rfl) (by intro d hd;cases hd;rfl) (by intro t i h k;cases h;cases k;rfl) ?_
 repeat first|refine cg ?_|simp -dsimp
 have hF:=ob hF;obtain⟨v,e1,hF⟩:=hF
 refine ECallA.frz ?_ ((C.f54 B hB1 hB2 r' [3,2,4,1] v e1)).ent
 repeat first|refine cg ?_|simp -dsimp
 refine((C.f54 B hB1 hB2 r' [3,2,4,1] v e1)).ego 0 rfl (by simp) (by simp) (by simp) ?_
 repeat first|refine cg ?_|simp -dsimp
 have hF:=ob hF;obtain⟨v2,e3,hF⟩:=hF
 refine(((CC.f59 B hB1 hB2 w).1 v.2 t v.1 v2 e3)).ego 0 rfl (by simp) (by simp) (by simp) ?_
 repeat first|refine cg ?_|simp -dsimp
 have hF:=ob hF;obtain⟨v4,e5,hF⟩:=hF
 refine(((CC.f61 B hB1 hB2).1 v2.2 v2.1 0 v4 e5)).ego 0 rfl (by simp) (by simp) (by simp) ?_
 repeat first|refine cg ?_|simp -dsimp
 have hF:=ob hF;obtain⟨v6,e7,hF⟩:=hF
 refine((C.f85 B hB1 hB2 w t v4.1 v6 e7)).goW (by simp) (by simp) ?_
 repeat first|refine cg ?_|simp -dsimp
 revert hF;refine aN (fun h8 q9 hF=> ?_) (fun h8 q9 hF=> ?_)
 ·cases hF
  repeat first|refine cg ?_|simp -dsimp[h8,q9]
  all_goals(try first|omega|rfl)
 ·cases hF
  repeat first|refine cg ?_|simp -dsimp[h8,q9]
  all_goals(try first|omega|rfl)
theorem CC.f87 (v:Pattern×ZB)(vars:List VarType):(∀(z:List Int) (z4:Int) (z5:Int) (z6:Int) (z7:Int) (i:Nat) (o:(List Int)×Int×Int×Int×Int),F.f87 v z z4 z5 z6 z7 vars i=some o->∀(c:Code),Zr [1,1,1,0,1,0,0] (ZI Tryd.f69)=some c->∀(Q:Exit->ASt->Prop),(Q (.exit 0) ⟨[(6,.ptr 2 0),(7,.ptr 3 0)],[.cells [am cU o.1,li o.2.1],.dead,.cells [li 0,li 0,li 0,li 0,li 0,.lit (.slice none 0 0),li 0,li 0,li 0],.cells [li v.1.op,li v.1.ctor,li v.1.n,li v.1.m,li v.1.var,am Pattern.c v.1.kids,li o.2.2.1,li o.2.2.2.1,li o.2.2.2.2]]⟩)->ALoopU Tryd.prog B 1 51 (hold c .mk) ⟨[(0,.ptr 0 0),(6,.ptr 2 0),(7,.ptr 3 0),(8,am VarType.c vars),(9,li (i:Int))],[.cells [am cU z,li z4],.dead,.cells [li 0,li 0,li 0,li 0,li 0,.lit (.slice none 0 0),li 0,li 0,li 0],.cells [li v.1.op,li v.1.ctor,li v.1.n,li v.1.m,li v.1.var,am Pattern.c v.1.kids,li z5,li z6,li z7],.dead]⟩ (hold Q .mk)):=by
 refine F.f87.partial_correctness v vars
  _
  ?_
 ·intro _f_f87 ih_f87 z z4 z5 z6 z7 i o hF
  intro c hc Q hq
  obtain rfl:c=_:=ZQ hc rfl
  refine kN fun hk hs=> ?_
  have b8:=hk 8
  simp -dsimp at b8
  have d0:=hs 0 _ rfl
  simp -dsimp[Blk.bnd]at d0
  have d3:=hs 3 _ rfl
  simp -dsimp[Blk.bnd]at d3
  clear hk hs
  refine eN ?_
  repeat first|refine cg ?_|simp -dsimp
  revert hF;refine aS ?_ ?_<;>intro h8 q9 hF
  ·have z10:((i:Int)<(vars.length:Int)):=auz
   have hF:=ob hF;obtain⟨x,e11,hF⟩:=hF
   have le11:=ZD e11
   repeat first|refine cg ?_|simp -dsimp[h8,z10,↓e11]
   revert hF;refine aS ?_ ?_<;>intro h12 q13 hF
   ·repeat first|refine cg ?_|simp -dsimp[h8,z10,↓e11,h12]
    have hF:=ob hF;obtain⟨v14,e15,hF⟩:=hF
    refine((C.f1 B hB1 hB2 (⟨z,z4⟩:ZB) 2 v14 e15)).go 0 rfl (by first|simp[h8,z10,↓e11,h12];done|simp_all) (by simp) (by first|simp[h8,z10,↓e11,h12];done|simp_all) ?_
    repeat first|refine cg ?_|simp -dsimp[h8,z10,↓e11,h12]
    revert hF;refine aS ?_ ?_<;>intro h16 q17 hF
    ·repeat first|refine cg ?_|simp -dsimp[h8,z10,↓e11,h12,h16]
     refine ADraw.eff [24] [(0,0),(0,3),(1,2),(0,2),(0,2),(0,2),(0,2),(0,2),(0,1),(0,3),(2,2),(2,2),(0,3)] [1,1,1,1,1,0,0,0,1,1,1,1,1] follows (by kernel_rfl) (by kernel_rfl) (by kernel_rfl) ?_
     repeat first|refine cg ?_|simp -dsimp[h8,z10,↓e11,h12,h16]
     have hF:=ob hF;obtain⟨v18,e19,hF⟩:=hF
     refine((C.f1 B hB1 hB2 v14.2 2 v18 e19)).ego 0 rfl (by first|simp[h8,z10,↓e11,h12,h16];done|simp_all) (by simp) (by first|simp[h8,z10,↓e11,h12,h16];done|simp_all) ?_
     repeat first|refine cg ?_|simp -dsimp[h8,z10,↓e11,h12,h16]
     have hF:=ob hF;obtain⟨v20,e21,hF⟩:=hF
     refine((C.f1 B hB1 hB2 v18.2 10 v20 e21)).ego 0 rfl (by first|simp[h8,z10,↓e11,h12,h16];done|simp_all) (by simp) (by first|simp[h8,z10,↓e11,h12,h16];done|simp_all) ?_
     have w22:i64.wrap ((i:Int)+1)=(i:Int)+1:=ZE (by omega) (by omega)
     repeat first|refine cg ?_|simp -dsimp[h8,z10,↓e11,h12,h16,w22]
     refine aG _ ?_ ((ih_f87 v20.2.f0 v20.2.f1 (i64.wrap (1+v18.1)) x.var v20.1 (i+1) o hF) _ rfl _ hq)
     exact(gT (by simp) (by first|simp -dsimp[h8,z10,↓e11,h12,h16,w22];done|simp_all))
    ·have w23:i64.wrap ((i:Int)+1)=(i:Int)+1:=ZE (by omega) (by omega)
     repeat first|refine cg ?_|simp -dsimp[h8,z10,↓e11,h12,h16,q17,w23]
     refine aG _ ?_ ((ih_f87 v14.2.f0 v14.2.f1 z5 z6 z7 (i+1) o hF) _ rfl _ hq)
     exact(gT (by simp) (by first|simp -dsimp[h8,z10,↓e11,h12,h16,q17,w23];done|simp_all))
   ·have w24:i64.wrap ((i:Int)+1)=(i:Int)+1:=ZE (by omega) (by omega)
    repeat first|refine cg ?_|simp -dsimp[h8,z10,↓e11,h12,q13,w24]
    refine aG _ ?_ ((ih_f87 z z4 z5 z6 z7 (i+1) o hF) _ rfl _ hq)
    exact(gT (by simp) (by first|simp -dsimp[h8,z10,↓e11,h12,q13,w24];done|simp_all))
  ·have z10:¬((i:Int)<(vars.length:Int)):=auz
   cases hF
   repeat first|refine cg ?_|simp -dsimp[h8,q9,z10]
   refine lG _ (gT (by simp) (by first|simp -dsimp[h8,q9,z10];done|simp_all)) hq
theorem C.f88 (r':ZB)(w:List Vl.Data)(t:Ty)(r:Clause×ZB)(hF:F.f88 r' w t=some r):MutCall Tryd.prog B 69 [am cU r'.f0,li r'.f1] [.ptr 0 0,am Vl.Data.c w,.agg [li t.data,li t.index]] (.agg [li r.1.pat.op,li r.1.pat.ctor,li r.1.pat.n,li r.1.pat.m,li r.1.pat.var,am Pattern.c r.1.pat.kids,li r.1.guard.op,li r.1.guard.var,li r.1.guard.n]) [am cU r.2.f0,li r.2.f1]:=by
 unfold F.f88 at hF
 refine MutCall.enter Tryd.func69 (by kernel_rfl) rfl Tryd.ntmps69 (by simp) (by simp) (by simp) (by simp) ?_
 repeat first|refine cg ?_|simp -dsimp
 have hF:=ob hF;obtain⟨v,e1,hF⟩:=hF
 refine((C.f86 B hB1 hB2 r' w t v e1)).go 0 rfl (by simp) (by simp) (by simp) ?_
 repeat first|refine cg ?_|simp -dsimp
 have hF:=ob hF;obtain⟨v2,e3,hF⟩:=hF
 refine ACall.nilArg 0 3 (by simp) ?_
 repeat first|refine cg ?_|simp -dsimp
 refine(((CC.f74 B hB1 hB2 w).1 [] t v.1 v2 e3)).go (pl [4]) (by simp) (by simp) (ZAn _ rfl (by decide)) (by intro i hi hi';simp at hi hi';first|omega|(subst hi';simp[pl])) (by simp) (by simp) ?_
 repeat first|refine cg ?_|simp -dsimp
 have hF:=ob hF;obtain⟨o',ho25,hF⟩:=hF
 refine ALoop.goU ⟨[(0,.ptr 0 0),(6,.ptr 2 0),(7,.ptr 3 0),(8,.arr (List.map VarType.c v2)),(9,.lit (.int .i64 0))],[.cells [.arr (List.map cU v.2.f0),.lit (.int .i64 v.2.f1)],.dead,.cells [.lit (.int .i64 0),.lit (.int .i64 0),.lit (.int .i64 0),.lit (.int .i64 0),.lit (.int .i64 0),.lit (.slice none 0 0),.lit (.int .i64 0),.lit (.int .i64 0),.lit (.int .i64 0)],.cells [.lit (.int .i64 v.1.op),.lit (.int .i64 v.1.ctor),.lit (.int .i64 v.1.n),.lit (.int .i64 v.1.m),.lit (.int .i64 v.1.var),.arr (List.map Pattern.c v.1.kids),.lit (.int .i64 0),.lit (.int .i64 0),.lit (.int .i64 0)],.dead]⟩ (by refine Gh.trans (Gh.frzSlot 8 (l:=4) (n:=List.length (α:=VarType) v2) (sz:=3) (es:=List.map VarType.c v2) (by simp) (by simp) (by simp) (by simp)) ?_;exact(gT (by simp) (by simp -dsimp))) ?_
 refine((CC.f87 B hB1 hB2 v v2) v.2.f0 v.2.f1 0 0 0 0 o' ho25) _ rfl _ ?_
 cases hF
 repeat first|refine cg ?_|simp -dsimp
 all_goals(try first|omega|rfl)
theorem CC.spec_l4List__o0_l1 (w:List Vl.Data)(t:Ty):(∀(z:List Int) (z2:Int) (out:List Clause) (i:Int) (o:(List Int)×Int×(List Clause)),F.f89 w t z z2 out i=some o->∀(c:Code),Zr [1,1,0,1,0,0] (ZI Tryd.f48)=some c->∀(Q:Exit->ASt->Prop),(Q (.exit 0) ⟨[(7,.own 2 (List.length (α:=Clause) o.2.2))],[.cells [am cU o.1,li o.2.1],.dead,.elems 9 (List.map Clause.c o.2.2)]⟩)->ALoopU Tryd.prog B 1 25 (hold c .mk) ⟨[(0,.ptr 0 0),(1,am Vl.Data.c w),(5,.ptr 1 0),(7,.own 2 (List.length (α:=Clause) out)),(8,li i)],[.cells [am cU z,li z2],.cells [li t.data,li t.index],.elems 9 (List.map Clause.c out)]⟩ (hold Q .mk)):=by
 refine F.f89.partial_correctness w t
  _
  ?_
 ·intro _f_spec_l4List__o0_l1 ih_spec_l4List__o0_l1 z z2 out i o hF
  intro c hc Q hq
  obtain rfl:c=_:=ZQ hc rfl
  refine kN fun hk hs=> ?_
  have b1:=hk 1
  simp -dsimp at b1
  have d0:=hs 0 _ rfl
  simp -dsimp[Blk.bnd]at d0
  have d2:=hs 2 _ rfl
  simp -dsimp[Blk.bnd]at d2
  clear hk hs
  refine eN ?_
  repeat first|refine cg ?_|simp -dsimp
  revert hF;refine aS ?_ ?_<;>intro h3 q4 hF
  ·repeat first|refine cg ?_|simp -dsimp[h3]
   have hF:=ob hF;obtain⟨v5,e6,hF⟩:=hF
   refine((C.f88 B hB1 hB2 (⟨z,z2⟩:ZB) w t v5 e6)).go 0 rfl (by first|simp[h3];done|simp_all) (by simp) (by first|simp[h3];done|simp_all) ?_
   have hF:=oc hF;obtain⟨c7,hF⟩:=hF
   repeat first|refine cg ?_|simp -dsimp[h3]
   refine aG _ ?_ ((ih_spec_l4List__o0_l1 v5.2.f0 v5.2.f1 (out++[v5.1]) (i64.wrap (i-1)) o hF) _ rfl _ hq)
   exact(gT (by simp) (by first|simp -dsimp[h3];done|simp_all))
  ·cases hF
   repeat first|refine cg ?_|simp -dsimp[h3,q4]
   refine lG _ (gT (by simp) (by first|simp -dsimp[h3,q4];done|simp_all)) hq
theorem C.spec_l4List__o0 (r':ZB)(w:List Vl.Data)(t:Ty)(r:(List Clause)×ZB)(hF:F.f90 r' w t=some r):BCall Tryd.prog B 48 [.cells [am cU r'.f0,li r'.f1]] [.ptr 0 0,am Vl.Data.c w,.agg [li t.data,li t.index]] (.own 1 (List.length (α:=Clause) r.1)) [.cells [am cU r.2.f0,li r.2.f1],.elems 9 (List.map Clause.c r.1)]:=by
 unfold F.f90 at hF
 refine BCall.enterS (τ1:=[.cells [.arr (List.map cU r.2.f0),.lit (.int .i64 r.2.f1)]]) (ys:=[.own 1 (List.length (α:=Clause) r.1)]) (news:=[(9,List.map Clause.c r.1)]) Tryd.func48 (by kernel_rfl) rfl Tryd.ntmps48 (by simp) rfl rfl (by simp) (by simp) (by simp) (by simp) (by simp) (by simp) (gR _) ?_
 repeat first|refine cg ?_|simp -dsimp
 have hF:=ob hF;obtain⟨v,e1,hF⟩:=hF
 refine ACall.frz ?_ ((C.f54 B hB1 hB2 r' [3,2,4,5,1,0] v e1)).ent
 repeat first|refine cg ?_|simp -dsimp
 refine((C.f54 B hB1 hB2 r' [3,2,4,5,1,0] v e1)).go 0 rfl (by simp) (by simp) (by simp) ?_
 repeat first|refine cg ?_|simp -dsimp
 have hF:=ob hF;obtain⟨o',ho8,hF⟩:=hF
 refine ALoop.goU _ ?_ (((CC.spec_l4List__o0_l1 B hB1 hB2 w t) v.2.f0 v.2.f1 [] v.1 o' ho8) _ rfl _ ?_)
 ·exact(gT (by simp) (by simp -dsimp))
 cases hF
 repeat first|refine cg ?_|simp -dsimp
 all_goals(try first|omega|rfl|(simp;done)|(simp only[List.length_cons,List.length_nil]at*;omega)|simp)
theorem C.spec_l4Typed__o2 (r':ZB)(r:(List Vl.Data)×Ty×(List Clause)×Vl.Value×ZB)(hF:F.f91 r'=some r):BCall Tryd.prog B 34 [.cells [am cU r'.f0,li r'.f1]] [.ptr 0 0] (.tup [am Vl.Data.c r.1,.agg [li r.2.1.data,li r.2.1.index],.own 1 (List.length (α:=Clause) r.2.2.1),.agg [li r.2.2.2.1.ctor,li r.2.2.2.1.n,am Vl.Value.c r.2.2.2.1.kids]]) [.cells [am cU r.2.2.2.2.f0,li r.2.2.2.2.f1],.elems 9 (List.map Clause.c r.2.2.1)]:=by
 unfold F.f91 at hF
 refine BCall.enterS (τ1:=[.cells [.arr (List.map cU r.2.2.2.2.f0),.lit (.int .i64 r.2.2.2.2.f1)]]) (ys:=[.arr (List.map Vl.Data.c r.1),.agg [.lit (.int .i64 r.2.1.data),.lit (.int .i64 r.2.1.index)],.own 1 (List.length (α:=Clause) r.2.2.1),.agg [.lit (.int .i64 r.2.2.2.1.ctor),.lit (.int .i64 r.2.2.2.1.n),.arr (List.map Vl.Value.c r.2.2.2.1.kids)]]) (news:=[(9,List.map Clause.c r.2.2.1)]) Tryd.func34 (by kernel_rfl) rfl Tryd.ntmps34 (by simp) rfl rfl (by simp) (by simp) (by simp) (by simp) (by simp) (by simp) (gR _) ?_
 repeat first|refine cg ?_|simp -dsimp
 have hF:=ob hF;obtain⟨v,e1,hF⟩:=hF
 refine((C.f58 B hB1 hB2 r' v e1)).go 0 rfl (by simp) (by simp) (by simp) ?_
 repeat first|refine cg ?_|simp -dsimp
 refine ADraw.eff [48] [(0,1),(0,1),(0,0),(0,0),(0,0),(0,3),(0,2),(1,1),(0,3),(2,2),(0,3)] [1,2,1,1,1,1,2,1,1,1,1] follows (by kernel_rfl) (by kernel_rfl) (by kernel_rfl) ?_
 repeat first|refine cg ?_|simp -dsimp
 have hF:=ob hF;obtain⟨v2,e3,hF⟩:=hF
 refine((C.spec_l4List__o0 B hB1 hB2 v.2.2.2 v.1 v.2.1 v2 e3)).ego (pl [0,5]) (by simp) (by simp) (ZCM _ (by simp) (by decide)) (by intro i hi hi';simp at hi hi';have hi:i=1:=(by omega);rcases hi with rfl<;>simp[pl]) (by simp) (by simp) ?_
 cases hF
 repeat first|refine cg ?_|simp -dsimp
 all_goals(try first|omega|rfl|(simp;done)|(simp only[List.length_cons,List.length_nil]at*;omega)|simp)
theorem C.f92  (r:Pattern)(hF:F.f92=some r):PureCall Tryd.prog B 35 [] (.agg [li r.op,li r.ctor,li r.n,li r.m,li r.var,am Pattern.c r.kids]):=by
 unfold F.f92 at hF
 refine pE Tryd.func35 (by kernel_rfl) rfl Tryd.ntmps35 (by simp) (by simp) ?_
 cases hF
 repeat first|refine cg ?_|simp -dsimp
 all_goals(try first|omega|rfl)
theorem C.f93 (r':ZB)(p:Pattern)(r:Pattern×ZB)(hF:F.f93 r' p=some r):MutCall Tryd.prog B 50 [am cU r'.f0,li r'.f1] [.ptr 0 0,.agg [li p.op,li p.ctor,li p.n,li p.m,li p.var,am Pattern.c p.kids]] (.agg [li r.1.op,li r.1.ctor,li r.1.n,li r.1.m,li r.1.var,am Pattern.c r.1.kids]) [am cU r.2.f0,li r.2.f1]:=by
 unfold F.f93 at hF
 refine MutCall.enter Tryd.func50 (by kernel_rfl) rfl Tryd.ntmps50 (by simp) (by simp) (by simp) (by simp) ?_
 have hF:=oc hF;obtain⟨c1,hF⟩:=hF
 repeat first|refine cg ?_|simp -dsimp
 have hF:=ob hF;obtain⟨v,e2,hF⟩:=hF
 refine((C.f1 B hB1 hB2 r' 30 v e2)).go 0 rfl (by simp) (by simp) (by simp) ?_
 repeat first|refine cg ?_|simp -dsimp
 revert hF;refine aS ?_ ?_<;>intro h3 q4 hF
 ·repeat first|refine cg ?_|simp -dsimp[h3]
  have hF:=ob hF;obtain⟨v5,e6,hF⟩:=hF
  refine ACall.frz ?_ ((C.f54 B hB1 hB2 v.2 [0,7,1,2,5] v5 e6)).ent
  repeat first|refine cg ?_|simp -dsimp[h3]
  refine((C.f54 B hB1 hB2 v.2 [0,7,1,2,5] v5 e6)).go 0 rfl (by first|simp[h3];done|simp_all) (by simp) (by first|simp[h3];done|simp_all) ?_
  cases hF
  repeat first|refine cg ?_|simp -dsimp[h3]
  all_goals(try first|omega|rfl)
 ·repeat first|refine cg ?_|simp -dsimp[h3,q4]
  revert hF;refine aS ?_ ?_<;>intro h7 q8 hF
  ·repeat first|refine cg ?_|simp -dsimp[h3,q4,h7]
   have hF:=ob hF;obtain⟨v9,e10,hF⟩:=hF
   refine ACall.frz ?_ ((C.f54 B hB1 hB2 v.2 [6,(-1),1] v9 e10)).ent
   repeat first|refine cg ?_|simp -dsimp[h3,q4,h7]
   refine((C.f54 B hB1 hB2 v.2 [6,(-1),1] v9 e10)).go 0 rfl (by first|simp[h3,q4,h7];done|simp_all) (by simp) (by first|simp[h3,q4,h7];done|simp_all) ?_
   cases hF
   repeat first|refine cg ?_|simp -dsimp[h3,q4,h7]
   all_goals(try first|omega|rfl)
  ·repeat first|refine cg ?_|simp -dsimp[h3,q4,h7,q8]
   revert hF;refine aS ?_ ?_<;>intro h11 q12 hF
   ·repeat first|refine cg ?_|simp -dsimp[h3,q4,h7,q8,h11]
    have hF:=ob hF;obtain⟨v13,e14,hF⟩:=hF
    refine ACall.frz ?_ ((C.f54 B hB1 hB2 v.2 [9,(-1),1] v13 e14)).ent
    repeat first|refine cg ?_|simp -dsimp[h3,q4,h7,q8,h11]
    refine((C.f54 B hB1 hB2 v.2 [9,(-1),1] v13 e14)).go 0 rfl (by first|simp[h3,q4,h7,q8,h11];done|simp_all) (by simp) (by first|simp[h3,q4,h7,q8,h11];done|simp_all) ?_
    cases hF
    repeat first|refine cg ?_|simp -dsimp[h3,q4,h7,q8,h11]
    all_goals(try first|omega|rfl)
   ·repeat first|refine cg ?_|simp -dsimp[h3,q4,h7,q8,h11,q12]
    revert hF;refine aS ?_ ?_<;>intro h15 q16 hF
    ·have hF:=oc hF;obtain⟨c17,hF⟩:=hF
     cases hF
     repeat first|refine cg ?_|simp -dsimp[h3,q4,h7,q8,h11,q12,h15]
     all_goals(try first|omega|rfl)
    ·repeat first|refine cg ?_|simp -dsimp[h3,q4,h7,q8,h11,q12,h15,q16]
     revert hF;refine aS ?_ ?_<;>intro h18 q19 hF
     ·repeat first|refine cg ?_|simp -dsimp[h3,q4,h7,q8,h11,q12,h15,q16,h18]
      revert hF;refine aS ?_ ?_<;>intro h20 q21 hF
      ·have z22:(0<(p.kids.length:Int)):=auz
       have hF:=ob hF;obtain⟨x,e23,hF⟩:=hF
       have le23:=ZD e23
       cases hF
       repeat first|refine cg ?_|simp -dsimp[h3,q4,h7,q8,h11,q12,h15,q16,h18,h20,z22,↓e23]
       all_goals(try first|omega|rfl)
      ·have z22:¬(0<(p.kids.length:Int)):=auz
       cases hF
       repeat first|refine cg ?_|simp -dsimp[h3,q4,h7,q8,h11,q12,h15,q16,h18,h20,q21,z22]
       all_goals(try first|omega|rfl)
     ·repeat first|refine cg ?_|simp -dsimp[h3,q4,h7,q8,h11,q12,h15,q16,h18,q19]
      revert hF;refine aS ?_ ?_<;>intro h24 q25 hF
      ·repeat first|refine cg ?_|simp -dsimp[h3,q4,h7,q8,h11,q12,h15,q16,h18,q19,h24]
       have hF:=ob hF;obtain⟨v26,e27,hF⟩:=hF
       refine ACall.frz ?_ ((C.f54 B hB1 hB2 v.2 [10,(-1),5] v26 e27)).ent
       repeat first|refine cg ?_|simp -dsimp[h3,q4,h7,q8,h11,q12,h15,q16,h18,q19,h24]
       refine((C.f54 B hB1 hB2 v.2 [10,(-1),5] v26 e27)).go 0 rfl (by first|simp[h3,q4,h7,q8,h11,q12,h15,q16,h18,q19,h24];done|simp_all) (by simp) (by first|simp[h3,q4,h7,q8,h11,q12,h15,q16,h18,q19,h24];done|simp_all) ?_
       cases hF
       repeat first|refine cg ?_|simp -dsimp[h3,q4,h7,q8,h11,q12,h15,q16,h18,q19,h24]
       all_goals(try first|omega|rfl)
      ·cases hF
       repeat first|refine cg ?_|simp -dsimp[h3,q4,h7,q8,h11,q12,h15,q16,h18,q19,h24,q25]
       all_goals(try first|omega|rfl)
theorem CC.spec_l4Mutate__o0_l1 (v:Int×ZB):(∀(out:List Clause) (o:List Clause),F.f94 v out=some o->∀(c:Code),Zr [1,1,0,1,0,1,1,1,1,1,0,0,0] (ZI Tryd.f36)=some c->∀(Q:Exit->ASt->Prop),(Q (.exit 1) ⟨[(5,.own 1 (List.length (α:=Clause) o))],[.cells [am cU v.2.f0,li v.2.f1],.elems 9 (List.map Clause.c o)]⟩)->ALoopU Tryd.prog B 1 56 (hold c .mk) ⟨[(5,.own 1 (List.length (α:=Clause) out))],[.cells [am cU v.2.f0,li v.2.f1],.elems 9 (List.map Clause.c out)]⟩ (hold Q .mk)):=by
 refine F.f94.partial_correctness v
  _
  ?_
 ·intro _f_spec_l4Mutate__o0_l1 ih_spec_l4Mutate__o0_l1 out o hF
  intro c hc Q hq
  obtain rfl:c=_:=ZQ hc rfl
  refine kN fun hk hs=> ?_
  have d0:=hs 0 _ rfl
  simp -dsimp[Blk.bnd]at d0
  have d1:=hs 1 _ rfl
  simp -dsimp[Blk.bnd]at d1
  clear hk hs
  refine eN ?_
  repeat first|refine cg ?_|simp -dsimp
  revert hF;refine aS ?_ ?_<;>intro h28 q29 hF
  ·have z30:((out.length:Int)<=8):=auz
   have hF:=oc hF;obtain⟨c31,hF⟩:=hF
   repeat first|refine cg ?_|simp -dsimp[h28,z30]
   refine aG _ ?_ ((ih_spec_l4Mutate__o0_l1 (out++[(⟨(⟨1,0,0,0,0,[]⟩:Pattern),(⟨0,0,0⟩:Guard)⟩:Clause)]) o hF) _ rfl _ hq)
   exact(gT (by simp) (by first|simp -dsimp[h28,z30];done|simp_all))
  ·have z30:¬((out.length:Int)<=8):=auz
   cases hF
   repeat first|refine cg ?_|simp -dsimp[h28,q29,z30]
   refine lG _ (gT (by simp) (by first|simp -dsimp[h28,q29,z30];done|simp_all)) hq
theorem C.spec_l4Mutate__o0 (r':ZB)(list:List Clause)(r:(List Clause)×ZB)(hF:F.f95 r' list=some r):BCall Tryd.prog B 36 [.cells [am cU r'.f0,li r'.f1]] [.ptr 0 0,am Clause.c list] (.own 1 (List.length (α:=Clause) r.1)) [.cells [am cU r.2.f0,li r.2.f1],.elems 9 (List.map Clause.c r.1)]:=by
 unfold F.f95 at hF
 refine BCall.enterS (τ1:=[.cells [.arr (List.map cU r.2.f0),.lit (.int .i64 r.2.f1)]]) (ys:=[.own 1 (List.length (α:=Clause) r.1)]) (news:=[(9,List.map Clause.c r.1)]) Tryd.func36 (by kernel_rfl) rfl Tryd.ntmps36 (by simp) rfl rfl (by simp) (by simp) (by simp) (by simp) (by simp) (by simp) (gR _) ?_
 have hF:=oc hF;obtain⟨c1,hF⟩:=hF
 repeat first|refine cg ?_|simp -dsimp
 have hF:=ob hF;obtain⟨v,e2,hF⟩:=hF
 refine((C.f1 B hB1 hB2 r' 24 v e2)).go 0 rfl (by simp) (by simp) (by simp) ?_
 repeat first|refine cg ?_|simp -dsimp
 revert hF;refine aS ?_ ?_<;>intro h3 q4 hF
 ·repeat first|refine cg ?_|simp -dsimp[h3]
  revert hF;refine aS ?_ ?_<;>intro h5 q6 hF
  ·have z7:(0<(list.length:Int)):=auz
   repeat first|refine cg ?_|simp -dsimp[h3,h5,z7]
   have hF:=ob hF;obtain⟨v8,e9,hF⟩:=hF
   refine ACall.frz ?_ ((C.f54 B hB1 hB2 v.2 [1,2,3,(-1)] v8 e9)).ent
   repeat first|refine cg ?_|simp -dsimp[h3,h5,z7]
   refine((C.f54 B hB1 hB2 v.2 [1,2,3,(-1)] v8 e9)).go 0 rfl (by first|simp[h3,h5,z7];done|simp_all) (by simp) (by first|simp[h3,h5,z7];done|simp_all) ?_
   repeat first|refine cg ?_|simp -dsimp[h3,h5,z7]
   have hF:=ob hF;obtain⟨v10,e11,hF⟩:=hF
   refine ACall.frz ?_ ((C.f54 B hB1 hB2 v8.2 [0,5,9] v10 e11)).ent
   repeat first|refine cg ?_|simp -dsimp[h3,h5,z7]
   refine((C.f54 B hB1 hB2 v8.2 [0,5,9] v10 e11)).go 0 rfl (by first|simp[h3,h5,z7];done|simp_all) (by simp) (by first|simp[h3,h5,z7];done|simp_all) ?_
   repeat first|refine cg ?_|simp -dsimp[h3,h5,z7]
   have hF:=ob hF;obtain⟨v12,e13,hF⟩:=hF
   refine ACall.frz ?_ ((C.f54 B hB1 hB2 v10.2 [3,10,(-1)] v12 e13)).ent
   repeat first|refine cg ?_|simp -dsimp[h3,h5,z7]
   refine((C.f54 B hB1 hB2 v10.2 [3,10,(-1)] v12 e13)).go 0 rfl (by first|simp[h3,h5,z7];done|simp_all) (by simp) (by first|simp[h3,h5,z7];done|simp_all) ?_
   have hF:=ob hF;obtain⟨x,e14,hF⟩:=hF
   have le14:=ZD e14
   cases hF
   repeat first|refine cg ?_|simp -dsimp[h3,h5,z7,↓e14]
   all_goals(try first|omega|rfl|(simp;done)|(simp only[List.length_cons,List.length_nil]at*;omega)|simp)
  ·have z7:¬(0<(list.length:Int)):=auz
   cases hF
   repeat first|refine cg ?_|simp -dsimp[h3,h5,q6,z7]
   all_goals(try first|omega|rfl|(simp;done)|(simp only[List.length_cons,List.length_nil]at*;omega)|simp)
 ·repeat first|refine cg ?_|simp -dsimp[h3,q4]
  revert hF;refine aS ?_ ?_<;>intro h15 q16 hF
  ·repeat first|refine cg ?_|simp -dsimp[h3,q4,h15]
   revert hF;refine aS ?_ ?_<;>intro h17 q18 hF
   ·have z19:(0<(list.length:Int)):=auz
    have hF:=ob hF;obtain⟨x20,e21,hF⟩:=hF
    have le21:=ZD e21
    repeat first|refine cg ?_|simp -dsimp[h3,q4,h15,h17,z19,↓e21]
    have hF:=ob hF;obtain⟨v22,e23,hF⟩:=hF
    refine((C.f93 B hB1 hB2 v.2 x20.pat v22 e23)).go 0 rfl (by first|simp[h3,q4,h15,h17,z19,↓e21];done|simp_all) (by simp) (by first|simp[h3,q4,h15,h17,z19,↓e21];done|simp_all) ?_
    repeat first|refine cg ?_|simp -dsimp[h3,q4,h15,h17,z19,↓e21]
    have hF:=ob hF;obtain⟨v24,e25,hF⟩:=hF
    refine((C.f93 B hB1 hB2 v22.2 v22.1 v24 e25)).go 0 rfl (by first|simp[h3,q4,h15,h17,z19,↓e21];done|simp_all) (by simp) (by first|simp[h3,q4,h15,h17,z19,↓e21];done|simp_all) ?_
    cases hF
    repeat first|refine cg ?_|simp -dsimp[h3,q4,h15,h17,z19,↓e21]
    all_goals(try first|omega|rfl|(simp;done)|(simp only[List.length_cons,List.length_nil]at*;omega)|simp)
   ·have z19:¬(0<(list.length:Int)):=auz
    cases hF
    repeat first|refine cg ?_|simp -dsimp[h3,q4,h15,h17,q18,z19]
    all_goals(try first|omega|rfl|(simp;done)|(simp only[List.length_cons,List.length_nil]at*;omega)|simp)
  ·repeat first|refine cg ?_|simp -dsimp[h3,q4,h15,q16]
   revert hF;refine aS ?_ ?_<;>intro h26 q27 hF
   ·repeat first|refine cg ?_|simp -dsimp[h3,q4,h15,q16,h26]
    have hF:=ob hF;obtain⟨o',ho32,hF⟩:=hF
    refine ALoop.goU _ ?_ (((CC.spec_l4Mutate__o0_l1 B hB1 hB2 v) list o' ho32) _ rfl _ ?_)
    ·exact(gT (by simp) (by first|simp -dsimp[h3,q4,h15,q16,h26];done|simp_all))
    cases hF
    repeat first|refine cg ?_|simp -dsimp
    all_goals(try first|omega|rfl|(simp;done)|(simp only[List.length_cons,List.length_nil]at*;omega)|simp)
   ·cases hF
    repeat first|refine cg ?_|simp -dsimp[h3,q4,h15,q16,h26,q27]
    all_goals(try first|omega|rfl|(simp;done)|(simp only[List.length_cons,List.length_nil]at*;omega)|simp)
theorem C.spec_DrawMissingPatterns__o2 (code:List Int)(r:(List Vl.Data)×Ty×(List Clause))(hF:F.f96 code=some r):BCall Tryd.prog B 23 [] [am cU code] (.tup [am Vl.Data.c r.1,.agg [li r.2.1.data,li r.2.1.index],.own 0 (List.length (α:=Clause) r.2.2)]) [.elems 9 (List.map Clause.c r.2.2)]:=by
 unfold F.f96 at hF
 refine BCall.enterS (τ1:=[]) (ys:=[.arr (List.map Vl.Data.c r.1),.agg [.lit (.int .i64 r.2.1.data),.lit (.int .i64 r.2.1.index)],.own 0 (List.length (α:=Clause) r.2.2)]) (news:=[(9,List.map Clause.c r.2.2)]) Tryd.func23 (by kernel_rfl) rfl Tryd.ntmps23 (by simp) rfl rfl (by simp) (by simp) (by simp) (by simp) (by simp) (by simp) (gR _) ?_
 repeat first|refine cg ?_|simp -dsimp
 refine ACall.inl Tryd.func22 (by kernel_rfl) rfl Tryd.ntmps22 (by simp) ?_
 repeat first|refine cg ?_|simp -dsimp
 revert hF;refine aS ?_ ?_<;>intro h1 q2 hF
 ·have z3:(2000<(code.length:Int)):=auz
  have hF:=oc hF;obtain⟨c4,hF⟩:=hF
  repeat first|refine cg ?_|simp -dsimp[h1,z3]
  have hF:=ob hF;obtain⟨v,e5,hF⟩:=hF
  refine((C.spec_l4Typed__o2 B hB1 hB2 (⟨(code.drop 0).take (2000-0),0⟩:ZB) v e5)).go (pl [1,2]) (by simp) (by simp) (ZCM _ (by simp) (by decide)) (by intro i hi hi';simp at hi hi';have hi:i=1:=(by omega);rcases hi with rfl<;>simp[pl]) (by first|simp[h1,z3];done|simp_all) (by first|simp[h1,z3];done|simp_all) ?_
  repeat first|refine cg ?_|simp -dsimp[h1,z3]
  revert hF;refine aS ?_ ?_<;>intro h6 q7 hF
  ·have z8:(0<(v.2.2.1.length:Int)):=auz
   repeat first|refine cg ?_|simp -dsimp[h1,z3,h6,z8]
   have hF:=ob hF;obtain⟨v9,e10,hF⟩:=hF
   refine((C.f1 B hB1 hB2 v.2.2.2.2 4 v9 e10)).go 1 rfl (by first|simp[h1,z3,h6,z8];done|simp_all) (by simp) (by first|simp[h1,z3,h6,z8];done|simp_all) ?_
   repeat first|refine cg ?_|simp -dsimp[h1,z3,h6,z8]
   revert hF;refine aS ?_ ?_<;>intro h11 q12 hF
   ·repeat first|refine cg ?_|simp -dsimp[h1,z3,h6,z8,h11]
    have hF:=ob hF;obtain⟨v13,e14,hF⟩:=hF
    refine((C.f92 B hB1 hB2 v13 e14)).goW (by first|simp[h1,z3,h6,z8,h11];done|simp_all) (by simp) ?_
    have hF:=oc hF;obtain⟨c15,hF⟩:=hF
    repeat first|refine cg ?_|simp -dsimp[h1,z3,h6,z8,h11]
    refine ADraw.gh (Gh.frzSlot 8 (l:=2) (n:=List.length (α:=Clause) (v.2.2.1++[(⟨v13,(⟨0,0,0⟩:Guard)⟩:Clause)])) (sz:=9) (es:=List.map Clause.c (v.2.2.1++[(⟨v13,(⟨0,0,0⟩:Guard)⟩:Clause)])) (by simp) (by simp) (by simp) (by simp)) ?_
    repeat first|refine cg ?_|simp -dsimp[h1,z3,h6,z8,h11]
    refine ADraw.eff [36] [(0,1),(0,1),(0,0),(0,0),(0,2),(1,1),(0,2),(2,2)] [1,2,1,1,1,1,1,1] follows (by kernel_rfl) (by kernel_rfl) (by kernel_rfl) ?_
    repeat first|refine cg ?_|simp -dsimp[h1,z3,h6,z8,h11]
    have hF:=ob hF;obtain⟨v16,e17,hF⟩:=hF
    refine((C.spec_l4Mutate__o0 B hB1 hB2 v9.2 (v.2.2.1++[(⟨v13,(⟨0,0,0⟩:Guard)⟩:Clause)]) v16 e17)).ego (pl [1,6]) (by simp) (by simp) (ZCM _ (by simp) (by decide)) (by intro i hi hi';simp at hi hi';have hi:i=1:=(by omega);rcases hi with rfl<;>simp[pl]) (by first|simp[h1,z3,h6,z8,h11];done|simp_all) (by first|simp[h1,z3,h6,z8,h11];done|simp_all) ?_
    cases hF
    repeat first|refine cg ?_|simp -dsimp[h1,z3,h6,z8,h11]
    all_goals(try first|omega|rfl|(simp;done)|(simp only[List.length_cons,List.length_nil]at*;omega)|simp)
   ·repeat first|refine cg ?_|simp -dsimp[h1,z3,h6,z8,h11,q12]
    refine ADraw.gh (Gh.frzSlot 8 (l:=2) (n:=List.length (α:=Clause) v.2.2.1) (sz:=9) (es:=List.map Clause.c v.2.2.1) (by simp) (by simp) (by simp) (by simp)) ?_
    repeat first|refine cg ?_|simp -dsimp[h1,z3,h6,z8,h11,q12]
    refine ADraw.eff [36] [(0,1),(0,1),(0,0),(0,0),(0,2),(1,1),(0,2),(2,2)] [1,2,1,1,1,1,1,1] follows (by kernel_rfl) (by kernel_rfl) (by kernel_rfl) ?_
    repeat first|refine cg ?_|simp -dsimp[h1,z3,h6,z8,h11,q12]
    have hF:=ob hF;obtain⟨v18,e19,hF⟩:=hF
    refine((C.spec_l4Mutate__o0 B hB1 hB2 v9.2 v.2.2.1 v18 e19)).ego (pl [1,5]) (by simp) (by simp) (ZCM _ (by simp) (by decide)) (by intro i hi hi';simp at hi hi';have hi:i=1:=(by omega);rcases hi with rfl<;>simp[pl]) (by first|simp[h1,z3,h6,z8,h11,q12];done|simp_all) (by first|simp[h1,z3,h6,z8,h11,q12];done|simp_all) ?_
    cases hF
    repeat first|refine cg ?_|simp -dsimp[h1,z3,h6,z8,h11,q12]
    all_goals(try first|omega|rfl|(simp;done)|(simp only[List.length_cons,List.length_nil]at*;omega)|simp)
  ·have z8:¬(0<(v.2.2.1.length:Int)):=auz
   repeat first|refine cg ?_|simp -dsimp[h1,z3,h6,q7,z8]
   refine ADraw.gh (Gh.frzSlot 8 (l:=2) (n:=List.length (α:=Clause) v.2.2.1) (sz:=9) (es:=List.map Clause.c v.2.2.1) (by simp) (by simp) (by simp) (by simp)) ?_
   repeat first|refine cg ?_|simp -dsimp[h1,z3,h6,q7,z8]
   refine ADraw.eff [36] [(0,1),(0,1),(0,0),(0,0),(0,2),(1,1),(0,2),(2,2)] [1,2,1,1,1,1,1,1] follows (by kernel_rfl) (by kernel_rfl) (by kernel_rfl) ?_
   repeat first|refine cg ?_|simp -dsimp[h1,z3,h6,q7,z8]
   have hF:=ob hF;obtain⟨v20,e21,hF⟩:=hF
   refine((C.spec_l4Mutate__o0 B hB1 hB2 v.2.2.2.2 v.2.2.1 v20 e21)).ego (pl [1,5]) (by simp) (by simp) (ZCM _ (by simp) (by decide)) (by intro i hi hi';simp at hi hi';have hi:i=1:=(by omega);rcases hi with rfl<;>simp[pl]) (by first|simp[h1,z3,h6,q7,z8];done|simp_all) (by first|simp[h1,z3,h6,q7,z8];done|simp_all) ?_
   cases hF
   repeat first|refine cg ?_|simp -dsimp[h1,z3,h6,q7,z8]
   all_goals(try first|omega|rfl|(simp;done)|(simp only[List.length_cons,List.length_nil]at*;omega)|simp)
 ·have z3:¬(2000<(code.length:Int)):=auz
  repeat first|refine cg ?_|simp -dsimp[h1,q2,z3]
  have hF:=ob hF;obtain⟨v22,e23,hF⟩:=hF
  refine((C.spec_l4Typed__o2 B hB1 hB2 (⟨code,0⟩:ZB) v22 e23)).go (pl [1,2]) (by simp) (by simp) (ZCM _ (by simp) (by decide)) (by intro i hi hi';simp at hi hi';have hi:i=1:=(by omega);rcases hi with rfl<;>simp[pl]) (by first|simp[h1,q2,z3];done|simp_all) (by first|simp[h1,q2,z3];done|simp_all) ?_
  repeat first|refine cg ?_|simp -dsimp[h1,q2,z3]
  revert hF;refine aS ?_ ?_<;>intro h24 q25 hF
  ·have z26:(0<(v22.2.2.1.length:Int)):=auz
   repeat first|refine cg ?_|simp -dsimp[h1,q2,z3,h24,z26]
   have hF:=ob hF;obtain⟨v27,e28,hF⟩:=hF
   refine((C.f1 B hB1 hB2 v22.2.2.2.2 4 v27 e28)).go 1 rfl (by first|simp[h1,q2,z3,h24,z26];done|simp_all) (by simp) (by first|simp[h1,q2,z3,h24,z26];done|simp_all) ?_
   repeat first|refine cg ?_|simp -dsimp[h1,q2,z3,h24,z26]
   revert hF;refine aS ?_ ?_<;>intro h29 q30 hF
   ·repeat first|refine cg ?_|simp -dsimp[h1,q2,z3,h24,z26,h29]
    have hF:=ob hF;obtain⟨v31,e32,hF⟩:=hF
    refine((C.f92 B hB1 hB2 v31 e32)).goW (by first|simp[h1,q2,z3,h24,z26,h29];done|simp_all) (by simp) ?_
    have hF:=oc hF;obtain⟨c33,hF⟩:=hF
    repeat first|refine cg ?_|simp -dsimp[h1,q2,z3,h24,z26,h29]
    refine ADraw.gh (Gh.frzSlot 8 (l:=2) (n:=List.length (α:=Clause) (v22.2.2.1++[(⟨v31,(⟨0,0,0⟩:Guard)⟩:Clause)])) (sz:=9) (es:=List.map Clause.c (v22.2.2.1++[(⟨v31,(⟨0,0,0⟩:Guard)⟩:Clause)])) (by simp) (by simp) (by simp) (by simp)) ?_
    repeat first|refine cg ?_|simp -dsimp[h1,q2,z3,h24,z26,h29]
    refine ADraw.eff [36] [(0,1),(0,1),(0,0),(0,0),(0,2),(1,1),(0,2),(2,2)] [1,2,1,1,1,1,1,1] follows (by kernel_rfl) (by kernel_rfl) (by kernel_rfl) ?_
    repeat first|refine cg ?_|simp -dsimp[h1,q2,z3,h24,z26,h29]
    have hF:=ob hF;obtain⟨v34,e35,hF⟩:=hF
    refine((C.spec_l4Mutate__o0 B hB1 hB2 v27.2 (v22.2.2.1++[(⟨v31,(⟨0,0,0⟩:Guard)⟩:Clause)]) v34 e35)).ego (pl [1,6]) (by simp) (by simp) (ZCM _ (by simp) (by decide)) (by intro i hi hi';simp at hi hi';have hi:i=1:=(by omega);rcases hi with rfl<;>simp[pl]) (by first|simp[h1,q2,z3,h24,z26,h29];done|simp_all) (by first|simp[h1,q2,z3,h24,z26,h29];done|simp_all) ?_
    cases hF
    repeat first|refine cg ?_|simp -dsimp[h1,q2,z3,h24,z26,h29]
    all_goals(try first|omega|rfl|(simp;done)|(simp only[List.length_cons,List.length_nil]at*;omega)|simp)
   ·repeat first|refine cg ?_|simp -dsimp[h1,q2,z3,h24,z26,h29,q30]
    refine ADraw.gh (Gh.frzSlot 8 (l:=2) (n:=List.length (α:=Clause) v22.2.2.1) (sz:=9) (es:=List.map Clause.c v22.2.2.1) (by simp) (by simp) (by simp) (by simp)) ?_
    repeat first|refine cg ?_|simp -dsimp[h1,q2,z3,h24,z26,h29,q30]
    refine ADraw.eff [36] [(0,1),(0,1),(0,0),(0,0),(0,2),(1,1),(0,2),(2,2)] [1,2,1,1,1,1,1,1] follows (by kernel_rfl) (by kernel_rfl) (by kernel_rfl) ?_
    repeat first|refine cg ?_|simp -dsimp[h1,q2,z3,h24,z26,h29,q30]
    have hF:=ob hF;obtain⟨v36,e37,hF⟩:=hF
    refine((C.spec_l4Mutate__o0 B hB1 hB2 v27.2 v22.2.2.1 v36 e37)).ego (pl [1,5]) (by simp) (by simp) (ZCM _ (by simp) (by decide)) (by intro i hi hi';simp at hi hi';have hi:i=1:=(by omega);rcases hi with rfl<;>simp[pl]) (by first|simp[h1,q2,z3,h24,z26,h29,q30];done|simp_all) (by first|simp[h1,q2,z3,h24,z26,h29,q30];done|simp_all) ?_
    cases hF
    repeat first|refine cg ?_|simp -dsimp[h1,q2,z3,h24,z26,h29,q30]
    all_goals(try first|omega|rfl|(simp;done)|(simp only[List.length_cons,List.length_nil]at*;omega)|simp)
  ·have z26:¬(0<(v22.2.2.1.length:Int)):=auz
   repeat first|refine cg ?_|simp -dsimp[h1,q2,z3,h24,q25,z26]
   refine ADraw.gh (Gh.frzSlot 8 (l:=2) (n:=List.length (α:=Clause) v22.2.2.1) (sz:=9) (es:=List.map Clause.c v22.2.2.1) (by simp) (by simp) (by simp) (by simp)) ?_
   repeat first|refine cg ?_|simp -dsimp[h1,q2,z3,h24,q25,z26]
   refine ADraw.eff [36] [(0,1),(0,1),(0,0),(0,0),(0,2),(1,1),(0,2),(2,2)] [1,2,1,1,1,1,1,1] follows (by kernel_rfl) (by kernel_rfl) (by kernel_rfl) ?_
   repeat first|refine cg ?_|simp -dsimp[h1,q2,z3,h24,q25,z26]
   have hF:=ob hF;obtain⟨v38,e39,hF⟩:=hF
   refine((C.spec_l4Mutate__o0 B hB1 hB2 v22.2.2.2.2 v22.2.2.1 v38 e39)).ego (pl [1,5]) (by simp) (by simp) (ZCM _ (by simp) (by decide)) (by intro i hi hi';simp at hi hi';have hi:i=1:=(by omega);rcases hi with rfl<;>simp[pl]) (by first|simp[h1,q2,z3,h24,q25,z26];done|simp_all) (by first|simp[h1,q2,z3,h24,q25,z26];done|simp_all) ?_
   cases hF
   repeat first|refine cg ?_|simp -dsimp[h1,q2,z3,h24,q25,z26]
   all_goals(try first|omega|rfl|(simp;done)|(simp only[List.length_cons,List.length_nil]at*;omega)|simp)
theorem C.f97 (code:List Int)(r:(List Vl.Data)×Ty×(List Clause))(hF:F.f97 code=some r):PureCall Tryd.prog B 14 [am cU code] (.tup [am Vl.Data.c r.1,.agg [li r.2.1.data,li r.2.1.index],am Clause.c r.2.2]):=by
 unfold F.f97 at hF
 refine pE Tryd.func14 (by kernel_rfl) rfl Tryd.ntmps14 (by simp) (by simp) ?_
 repeat first|refine cg ?_|simp -dsimp
 refine ACall.inl Tryd.func22 (by kernel_rfl) rfl Tryd.ntmps22 (by simp) ?_
 repeat first|refine cg ?_|simp -dsimp
 revert hF;refine aS ?_ ?_<;>intro h1 q2 hF
 ·have z3:(2000<(code.length:Int)):=auz
  have hF:=oc hF;obtain⟨c4,hF⟩:=hF
  repeat first|refine cg ?_|simp -dsimp[h1,z3]
  have hF:=ob hF;obtain⟨v,e5,hF⟩:=hF
  refine((C.spec_DrawMissingPatterns__o2 B hB1 hB2 code v e5)).go (pl [2]) (by simp) (by simp) (by intro i j hi;simp at hi) (by intro i hi hi';simp at hi hi';have hi:i=0:=(by omega);rcases hi with rfl<;>simp[pl]) (by first|simp[h1,z3];done|simp_all) (by first|simp[h1,z3];done|simp_all) ?_
  repeat first|refine cg ?_|simp -dsimp[h1,z3]
  revert hF;refine aS ?_ ?_<;>intro h6 q7 hF
  ·have z8:(0<(v.2.2.length:Int)):=auz
   repeat first|refine cg ?_|simp -dsimp[h1,z3,h6,z8]
   revert hF;refine aS ?_ ?_<;>intro h9 q10 hF
   ·have z11:((v.2.2.length:Int)<8):=auz
    repeat first|refine cg ?_|simp -dsimp[h1,z3,h6,z8,h9,z11]
    have hF:=ob hF;obtain⟨v12,e13,hF⟩:=hF
    refine((C.f1 B hB1 hB2 (⟨(code.drop 0).take (2000-0),0⟩:ZB) 2 v12 e13)).go 1 rfl (by first|simp[h1,z3,h6,z8,h9,z11];done|simp_all) (by simp) (by first|simp[h1,z3,h6,z8,h9,z11];done|simp_all) ?_
    repeat first|refine cg ?_|simp -dsimp[h1,z3,h6,z8,h9,z11]
    revert hF;refine aS ?_ ?_<;>intro h14 q15 hF
    ·repeat first|refine cg ?_|simp -dsimp[h1,z3,h6,z8,h9,z11,h14]
     have hF:=ob hF;obtain⟨v16,e17,hF⟩:=hF
     refine((C.f1 B hB1 hB2 v12.2 (v.2.2.length:Int) v16 e17)).go 1 rfl (by first|simp[h1,z3,h6,z8,h9,z11,h14];done|simp_all) (by simp) (by first|simp[h1,z3,h6,z8,h9,z11,h14];done|simp_all) ?_
     have hF:=ob hF;obtain⟨x,e18a,hF⟩:=hF
     have e18a:=ZZ e18a;obtain⟨ne18,e18⟩:=e18a
     have le18:=ZD e18
     have hF:=oc hF;obtain⟨c19,hF⟩:=hF
     repeat first|refine cg ?_|simp -dsimp[h1,z3,h6,z8,h9,z11,h14,↓e18]
     refine ADraw.eff [] [(0,0),(0,0),(0,1),(0,0),(0,1),(1,1)] [1,1,1,1,1,1] follows (by kernel_rfl) (by kernel_rfl) (by kernel_rfl) ?_
     cases hF
     repeat first|refine cg ?_|simp -dsimp[h1,z3,h6,z8,h9,z11,h14,↓e18]
     all_goals(try first|omega|rfl)
    ·repeat first|refine cg ?_|simp -dsimp[h1,z3,h6,z8,h9,z11,h14,q15]
     refine ADraw.eff [] [(0,0),(0,0),(0,1),(0,0),(0,1),(1,1)] [1,1,1,1,1,1] follows (by kernel_rfl) (by kernel_rfl) (by kernel_rfl) ?_
     cases hF
     repeat first|refine cg ?_|simp -dsimp[h1,z3,h6,z8,h9,z11,h14,q15]
     all_goals(try first|omega|rfl)
   ·have z11:¬((v.2.2.length:Int)<8):=auz
    repeat first|refine cg ?_|simp -dsimp[h1,z3,h6,z8,h9,q10,z11]
    refine ADraw.eff [] [(0,0),(0,0),(0,1),(0,0),(0,1),(1,1)] [1,1,1,1,1,1] follows (by kernel_rfl) (by kernel_rfl) (by kernel_rfl) ?_
    cases hF
    repeat first|refine cg ?_|simp -dsimp[h1,z3,h6,z8,h9,q10,z11]
    all_goals(try first|omega|rfl)
  ·have z8:¬(0<(v.2.2.length:Int)):=auz
   repeat first|refine cg ?_|simp -dsimp[h1,z3,h6,q7,z8]
   refine ADraw.eff [] [(0,0),(0,0),(0,1),(0,0),(0,1),(1,1)] [1,1,1,1,1,1] follows (by kernel_rfl) (by kernel_rfl) (by kernel_rfl) ?_
   cases hF
   repeat first|refine cg ?_|simp -dsimp[h1,z3,h6,q7,z8]
   all_goals(try first|omega|rfl)
 ·have z3:¬(2000<(code.length:Int)):=auz
  repeat first|refine cg ?_|simp -dsimp[h1,q2,z3]
  have hF:=ob hF;obtain⟨v20,e21,hF⟩:=hF
  refine((C.spec_DrawMissingPatterns__o2 B hB1 hB2 code v20 e21)).go (pl [2]) (by simp) (by simp) (by intro i j hi;simp at hi) (by intro i hi hi';simp at hi hi';have hi:i=0:=(by omega);rcases hi with rfl<;>simp[pl]) (by first|simp[h1,q2,z3];done|simp_all) (by first|simp[h1,q2,z3];done|simp_all) ?_
  repeat first|refine cg ?_|simp -dsimp[h1,q2,z3]
  revert hF;refine aS ?_ ?_<;>intro h22 q23 hF
  ·have z24:(0<(v20.2.2.length:Int)):=auz
   repeat first|refine cg ?_|simp -dsimp[h1,q2,z3,h22,z24]
   revert hF;refine aS ?_ ?_<;>intro h25 q26 hF
   ·have z27:((v20.2.2.length:Int)<8):=auz
    repeat first|refine cg ?_|simp -dsimp[h1,q2,z3,h22,z24,h25,z27]
    have hF:=ob hF;obtain⟨v28,e29,hF⟩:=hF
    refine((C.f1 B hB1 hB2 (⟨code,0⟩:ZB) 2 v28 e29)).go 1 rfl (by first|simp[h1,q2,z3,h22,z24,h25,z27];done|simp_all) (by simp) (by first|simp[h1,q2,z3,h22,z24,h25,z27];done|simp_all) ?_
    repeat first|refine cg ?_|simp -dsimp[h1,q2,z3,h22,z24,h25,z27]
    revert hF;refine aS ?_ ?_<;>intro h30 q31 hF
    ·repeat first|refine cg ?_|simp -dsimp[h1,q2,z3,h22,z24,h25,z27,h30]
     have hF:=ob hF;obtain⟨v32,e33,hF⟩:=hF
     refine((C.f1 B hB1 hB2 v28.2 (v20.2.2.length:Int) v32 e33)).go 1 rfl (by first|simp[h1,q2,z3,h22,z24,h25,z27,h30];done|simp_all) (by simp) (by first|simp[h1,q2,z3,h22,z24,h25,z27,h30];done|simp_all) ?_
     have hF:=ob hF;obtain⟨x34,e35a,hF⟩:=hF
     have e35a:=ZZ e35a;obtain⟨ne35,e35⟩:=e35a
     have le35:=ZD e35
     have hF:=oc hF;obtain⟨c36,hF⟩:=hF
     repeat first|refine cg ?_|simp -dsimp[h1,q2,z3,h22,z24,h25,z27,h30,↓e35]
     refine ADraw.eff [] [(0,0),(0,0),(0,1),(0,0),(0,1),(1,1)] [1,1,1,1,1,1] follows (by kernel_rfl) (by kernel_rfl) (by kernel_rfl) ?_
     cases hF
     repeat first|refine cg ?_|simp -dsimp[h1,q2,z3,h22,z24,h25,z27,h30,↓e35]
     all_goals(try first|omega|rfl)
    ·repeat first|refine cg ?_|simp -dsimp[h1,q2,z3,h22,z24,h25,z27,h30,q31]
     refine ADraw.eff [] [(0,0),(0,0),(0,1),(0,0),(0,1),(1,1)] [1,1,1,1,1,1] follows (by kernel_rfl) (by kernel_rfl) (by kernel_rfl) ?_
     cases hF
     repeat first|refine cg ?_|simp -dsimp[h1,q2,z3,h22,z24,h25,z27,h30,q31]
     all_goals(try first|omega|rfl)
   ·have z27:¬((v20.2.2.length:Int)<8):=auz
    repeat first|refine cg ?_|simp -dsimp[h1,q2,z3,h22,z24,h25,q26,z27]
    refine ADraw.eff [] [(0,0),(0,0),(0,1),(0,0),(0,1),(1,1)] [1,1,1,1,1,1] follows (by kernel_rfl) (by kernel_rfl) (by kernel_rfl) ?_
    cases hF
    repeat first|refine cg ?_|simp -dsimp[h1,q2,z3,h22,z24,h25,q26,z27]
    all_goals(try first|omega|rfl)
  ·have z24:¬(0<(v20.2.2.length:Int)):=auz
   repeat first|refine cg ?_|simp -dsimp[h1,q2,z3,h22,q23,z24]
   refine ADraw.eff [] [(0,0),(0,0),(0,1),(0,0),(0,1),(1,1)] [1,1,1,1,1,1] follows (by kernel_rfl) (by kernel_rfl) (by kernel_rfl) ?_
   cases hF
   repeat first|refine cg ?_|simp -dsimp[h1,q2,z3,h22,q23,z24]
   all_goals(try first|omega|rfl)
theorem C.f98 (code:List Int)(r:(List Vl.Data)×Ty×(List Clause))(hF:F.f98 code=some r):PureCall Tryd.prog B 7 [am cU code] (.tup [am Vl.Data.c r.1,.agg [li r.2.1.data,li r.2.1.index],am Clause.c r.2.2]):=by
 unfold F.f98 at hF
 refine pE Tryd.func7 (by kernel_rfl) rfl Tryd.ntmps7 (by simp) (by simp) ?_
 repeat first|refine cg ?_|simp -dsimp
 have hF:=ob hF;obtain⟨v,e1,hF⟩:=hF
 refine((C.f97 B hB1 hB2 code v e1)).goW (by simp) (by simp) ?_
 cases hF
 repeat first|refine cg ?_|simp -dsimp
 all_goals(try first|omega|rfl)
theorem C.f99 (w:List Vl.Data)(t:Ty)(r:Bool)(hF:F.f99 w t=some r):PureCall Tryd.prog B 38 [am Vl.Data.c w,.agg [li t.data,li t.index]] (.lit (.bool r)):=by
 unfold F.f99 at hF
 refine pE Tryd.func38 (by kernel_rfl) rfl Tryd.ntmps38 (by simp) (by simp) ?_
 repeat first|refine cg ?_|simp -dsimp
 have hF:=ob hF;obtain⟨v,e1,hF⟩:=hF
 refine((C.f15 B hB1 hB2 (w.length:Int) t v e1)).goW (by simp) (by simp) ?_
 repeat first|refine cg ?_|simp -dsimp
 revert hF;refine aS (fun h2 q3 hF=> ?_) (fun h2 q3 hF=> ?_)
 ·cases hF
  repeat first|refine cg ?_|simp -dsimp[h2]
  all_goals(try first|omega|rfl)
 ·cases hF
  repeat first|refine cg ?_|simp -dsimp[h2,q3]
  all_goals(try first|omega|rfl)
theorem C.f100 (w:List Vl.Data)(t:Ty)(r:Bool)(hF:F.f100 w t=some r):PureCall Tryd.prog B 25 [am Vl.Data.c w,.agg [li t.data,li t.index]] (.lit (.bool r)):=by
 unfold F.f100 at hF
 refine pE Tryd.func25 (by kernel_rfl) rfl Tryd.ntmps25 (by simp) (by simp) ?_
 repeat first|refine cg ?_|simp -dsimp
 have hF:=ob hF;obtain⟨v,e1,hF⟩:=hF
 refine((C.f24 B hB1 hB2 w v e1)).goW (by simp) (by simp) ?_
 repeat first|refine cg ?_|simp -dsimp
 revert hF;refine aS (fun h2 q3 hF=> ?_) (fun h2 q3 hF=> ?_)
 ·repeat first|refine cg ?_|simp -dsimp[h2]
  have hF:=ob hF;obtain⟨v4,e5,hF⟩:=hF
  refine((C.f99 B hB1 hB2 w t v4 e5)).goW (by first|simp[h2];done|simp_all) (by simp) ?_
  cases hF
  repeat first|refine cg ?_|simp -dsimp[h2]
  all_goals(try first|omega|rfl)
 ·cases hF
  repeat first|refine cg ?_|simp -dsimp[h2,q3]
  all_goals(try first|omega|rfl)
theorem C.f101 (g:Guard)(vars:List VarType)(r:Bool)(hF:F.f101 g vars=some r):PureCall Tryd.prog B 40 [.agg [li g.op,li g.var,li g.n],am VarType.c vars] (.lit (.bool r)):=by
 unfold F.f101 at hF
 refine pE Tryd.func40 (by kernel_rfl) rfl Tryd.ntmps40 (by simp) (by simp) ?_
 repeat first|refine cg ?_|simp -dsimp
 revert hF;refine aS ?_ ?_<;>intro h1 q2 hF
 ·repeat first|refine cg ?_|simp -dsimp[h1]
  revert hF;refine aS ?_ ?_<;>intro h3 q4 hF
  ·cases hF
   repeat first|refine cg ?_|simp -dsimp[h1,h3]
   all_goals(try first|omega|rfl)
  ·cases hF
   repeat first|refine cg ?_|simp -dsimp[h1,h3,q4]
   all_goals(try first|omega|rfl)
 ·repeat first|refine cg ?_|simp -dsimp[h1,q2]
  revert hF;refine aN ?_ ?_<;>intro h5 q6 hF
  ·repeat first|refine cg ?_|simp -dsimp[h1,q2,h5,q6]
   revert hF;refine aS ?_ ?_<;>intro h7 q8 hF
   ·repeat first|refine cg ?_|simp -dsimp[h1,q2,h5,q6,h7]
    revert hF;refine aN ?_ ?_<;>intro h9 q10 hF
    ·repeat first|refine cg ?_|simp -dsimp[h1,q2,h5,q6,h7,h9,q10]
     revert hF;refine aS ?_ ?_<;>intro h11 q12 hF
     ·cases hF
      repeat first|refine cg ?_|simp -dsimp[h1,q2,h5,q6,h7,h9,q10,h11]
      all_goals(try first|omega|rfl)
     ·repeat first|refine cg ?_|simp -dsimp[h1,q2,h5,q6,h7,h9,q10,h11,q12]
      have hF:=ob hF;obtain⟨v,e13,hF⟩:=hF
      refine((C.f79 B hB1 hB2 vars g.var v e13)).goW (by first|simp[h1,q2,h5,q6,h7,h9,q10,h11,q12];done|simp_all) (by simp) ?_
      repeat first|refine cg ?_|simp -dsimp[h1,q2,h5,q6,h7,h9,q10,h11,q12]
      revert hF;refine aS ?_ ?_<;>intro h14 q15 hF
      ·have hF:=ob hF;obtain⟨x,e16a,hF⟩:=hF
       have e16a:=ZZ e16a;obtain⟨ne16,e16⟩:=e16a
       have le16:=ZD e16
       cases hF
       repeat first|refine cg ?_|simp -dsimp[h1,q2,h5,q6,h7,h9,q10,h11,q12,h14,↓e16]
       all_goals(try first|omega|rfl)
      ·cases hF
       repeat first|refine cg ?_|simp -dsimp[h1,q2,h5,q6,h7,h9,q10,h11,q12,h14,q15]
       all_goals(try first|omega|rfl)
    ·cases hF
     repeat first|refine cg ?_|simp -dsimp[h1,q2,h5,q6,h7,h9,q10]
     all_goals(try first|omega|rfl)
   ·cases hF
    repeat first|refine cg ?_|simp -dsimp[h1,q2,h5,q6,h7,q8]
    all_goals(try first|omega|rfl)
  ·repeat first|refine cg ?_|simp -dsimp[h1,q2,h5,q6]
   revert hF;refine aN ?_ ?_<;>intro h17 q18 hF
   ·repeat first|refine cg ?_|simp -dsimp[h1,q2,h5,q6,h17,q18]
    revert hF;refine aS ?_ ?_<;>intro h19 q20 hF
    ·cases hF
     repeat first|refine cg ?_|simp -dsimp[h1,q2,h5,q6,h17,q18,h19]
     all_goals(try first|omega|rfl)
    ·repeat first|refine cg ?_|simp -dsimp[h1,q2,h5,q6,h17,q18,h19,q20]
     have hF:=ob hF;obtain⟨v21,e22,hF⟩:=hF
     refine((C.f79 B hB1 hB2 vars g.var v21 e22)).goW (by first|simp[h1,q2,h5,q6,h17,q18,h19,q20];done|simp_all) (by simp) ?_
     repeat first|refine cg ?_|simp -dsimp[h1,q2,h5,q6,h17,q18,h19,q20]
     revert hF;refine aS ?_ ?_<;>intro h23 q24 hF
     ·have hF:=ob hF;obtain⟨x25,e26a,hF⟩:=hF
      have e26a:=ZZ e26a;obtain⟨ne26,e26⟩:=e26a
      have le26:=ZD e26
      cases hF
      repeat first|refine cg ?_|simp -dsimp[h1,q2,h5,q6,h17,q18,h19,q20,h23,↓e26]
      all_goals(try first|omega|rfl)
     ·cases hF
      repeat first|refine cg ?_|simp -dsimp[h1,q2,h5,q6,h17,q18,h19,q20,h23,q24]
      all_goals(try first|omega|rfl)
   ·cases hF
    repeat first|refine cg ?_|simp -dsimp[h1,q2,h5,q6,h17,q18]
    all_goals(try first|omega|rfl)
theorem C.f102 (w:List Vl.Data)(t:Ty)(c':Clause)(r:Bool)(hF:F.f102 w t c'=some r):PureCall Tryd.prog B 26 [am Vl.Data.c w,.agg [li t.data,li t.index],.agg [li c'.pat.op,li c'.pat.ctor,li c'.pat.n,li c'.pat.m,li c'.pat.var,am Pattern.c c'.pat.kids,li c'.guard.op,li c'.guard.var,li c'.guard.n]] (.lit (.bool r)):=by
 unfold F.f102 at hF
 refine pE Tryd.func26 (by kernel_rfl) rfl Tryd.ntmps26 (by simp) (by simp) ?_
 repeat first|refine cg ?_|simp -dsimp
 refine ADraw.eff [40,41] [(0,0),(0,0),(0,0),(0,0),(0,2),(0,0),(0,1),(0,1),(0,0),(0,0),(0,0),(0,0),(0,2),(0,2),(2,2),(2,2)] [1,1,1,1,1,1,0,2,1,1,1,1,1,1,1,1] follows (by kernel_rfl) (by kernel_rfl) (by kernel_rfl) ?_
 repeat first|refine cg ?_|simp -dsimp
 have hF:=ob hF;obtain⟨v,e1,hF⟩:=hF
 refine((C.f85 B hB1 hB2 w t c'.pat v e1)).pgoW (by simp) (by simp) ?_
 repeat first|refine cg ?_|simp -dsimp
 revert hF;refine aS (fun h2 q3 hF=> ?_) (fun h2 q3 hF=> ?_)
 ·repeat first|refine cg ?_|simp -dsimp[h2]
  have hF:=ob hF;obtain⟨v4,e5,hF⟩:=hF
  refine ECallA.nilArg 0 3 (by simp) ?_
  repeat first|refine cg ?_|simp -dsimp[h2]
  refine(((CC.f74 B hB1 hB2 w).1 [] t c'.pat v4 e5)).ego (pl [2]) (by simp) (by simp) (ZAn _ rfl (by decide)) (by intro i hi hi';simp at hi hi';first|omega|(subst hi';simp[pl])) (by first|simp[h2];done|simp_all) (by first|simp[h2];done|simp_all) ?_
  repeat first|refine cg ?_|simp -dsimp[h2]
  have hF:=ob hF;obtain⟨v6,e7,hF⟩:=hF
  refine((C.f101 B hB1 hB2 c'.guard v4 v6 e7)).elend (by first|simp -dsimp[h2];done|simp_all) (by simp -dsimp) ?_
  cases hF
  repeat first|refine cg ?_|simp -dsimp[h2]
  all_goals(try first|omega|rfl)
 ·skip
  cases hF
  repeat first|refine cg ?_|simp -dsimp[h2,q3]
  all_goals(try first|omega|rfl)
theorem CC.f103 (w:List Vl.Data)(t:Ty)(list:List Clause):(∀(i:Nat) (o:Lo Bool Unit),F.f103 w t list i=some o->∀(c:Code),Zr [1,1,0,1,0,0] (ZI Tryd.f15)=some c->∀(Q:Exit->ASt->Prop),o.post (fun r=>∀st,ZCf Tryd.prog Tryd.f15 (fun r' _=>r'.le (.lit (.bool r))) .ret st->Q .ret st) (fun s=>Q (.exit 0) ⟨[],[]⟩)->ALoopU Tryd.prog B 0 31 (hold c .mk) ⟨[(0,am Vl.Data.c w),(2,am Clause.c list),(4,.ptr 0 0),(7,li (i:Int))],[.cells [li t.data,li t.index]]⟩ (hold Q .mk)):=by
 refine F.f103.partial_correctness w t list
  _
  ?_
 ·intro _f_f103 ih_f103 i o hF
  intro c hc Q hq
  obtain rfl:c=_:=ZQ hc rfl
  refine kN fun hk hs=> ?_
  have b0:=hk 0
  simp -dsimp at b0
  have b2:=hk 2
  simp -dsimp at b2
  clear hk hs
  refine eN ?_
  repeat first|refine cg ?_|simp -dsimp
  revert hF;refine aS ?_ ?_<;>intro h7 q8 hF
  ·have z9:((i:Int)<(list.length:Int)):=auz
   repeat first|refine cg ?_|simp -dsimp[h7,z9]
   refine ADraw.simple follows (by kernel_rfl) (by kernel_rfl) ?_
   have hF:=ob hF;obtain⟨x,e10,hF⟩:=hF
   have le10:=ZD e10
   repeat first|refine cg ?_|simp -dsimp[h7,z9,↓e10]
   have hF:=ob hF;obtain⟨v11,e12,hF⟩:=hF
   refine((C.f102 B hB1 hB2 w t x v11 e12)).pgoW (by first|simp[h7,z9,↓e10];done|simp_all) (by simp) ?_
   repeat first|refine cg ?_|simp -dsimp[h7,z9,↓e10]
   revert hF;refine aN (fun h13 q14 hF=> ?_) (fun h13 q14 hF=> ?_)
   ·cases hF
    repeat first|refine cg ?_|simp -dsimp[h7,z9,↓e10,h13,q14]
    refine lG _ (gR _) (hq _ ?_)
    repeat first|refine cg ?_|simp -dsimp[h7,z9,↓e10,h13,q14]
   ·have w15:i64.wrap ((i:Int)+1)=(i:Int)+1:=ZE (by omega) (by omega)
    repeat first|refine cg ?_|simp -dsimp[h7,z9,↓e10,h13,q14,w15]
    refine aG _ ?_ ((ih_f103 (i+1) o hF) _ rfl _ hq)
    exact(gT (by simp) (by first|simp -dsimp[h7,z9,↓e10,h13,q14,w15];done|simp_all))
  ·have z9:¬((i:Int)<(list.length:Int)):=auz
   cases hF
   repeat first|refine cg ?_|simp -dsimp[h7,q8,z9]
   refine lG _ (gT (by simp) (by first|simp -dsimp[h7,q8,z9];done|simp_all)) hq
theorem C.f104 (w:List Vl.Data)(t:Ty)(list:List Clause)(r:Bool)(hF:F.f104 w t list=some r):PureCall Tryd.prog B 15 [am Vl.Data.c w,.agg [li t.data,li t.index],am Clause.c list] (.lit (.bool r)):=by
 unfold F.f104 at hF
 refine pE Tryd.func15 (by kernel_rfl) rfl Tryd.ntmps15 (by simp) (by simp) ?_
 repeat first|refine cg ?_|simp -dsimp
 have hF:=ob hF;obtain⟨v,e1,hF⟩:=hF
 refine((C.f100 B hB1 hB2 w t v e1)).goW (by simp) (by simp) ?_
 repeat first|refine cg ?_|simp -dsimp
 revert hF;refine aS (fun h2 q3 hF=> ?_) (fun h2 q3 hF=> ?_)
 ·repeat first|refine cg ?_|simp -dsimp[h2]
  revert hF;refine aS ?_ ?_<;>intro h4 q5 hF
  ·have z6:(8<(list.length:Int)):=auz
   cases hF
   repeat first|refine cg ?_|simp -dsimp[h2,h4,z6]
   all_goals(try first|omega|rfl)
  ·have z6:¬(8<(list.length:Int)):=auz
   repeat first|refine cg ?_|simp -dsimp[h2,h4,q5,z6]
   have hF:=ob hF;obtain⟨o',ho16,hF⟩:=hF
   refine ALoop.goU _ ?_ (((CC.f103 B hB1 hB2 w t list) 0 o' ho16) _ rfl _ ?_)
   ·exact(gT (by simp) (by first|simp -dsimp[h2,h4,q5,z6];done|simp_all))
   rcases o' with r0|sx
   ·dsimp only at hF
    cases hF
    intro st h
    simpa using h
   ·dsimp only at hF
    cases hF
    repeat first|refine cg ?_|simp -dsimp
    all_goals(try first|omega|rfl)
 ·cases hF
  repeat first|refine cg ?_|simp -dsimp[h2,q3]
  all_goals(try first|omega|rfl)
theorem CC.f105 (lists:List (List Pattern))(out:List (List Pattern))(i:Nat)(k:Nat):(∀(next10:List (List Pattern)) (j:Nat) (o:List (List Pattern)),F.f105 lists out i k next10 j=some o->∀(c:Code),Zr [1,1,0,1,0,0,1,0,0,1,0,1,0,0,1,0,0,1,0,0] (ZI Tryd.f27)=some c->∀(Q:Exit->ASt->Prop),(Q (.exit 4) ⟨[(0,am (cL Pattern.c) lists),(3,am (cL Pattern.c) out),(4,li (i:Int)),(5,.own 2 (List.length (α:=List Pattern) o)),(6,li (k:Int))],[.dead,.dead,.elems 1 (List.map (cL Pattern.c) o)]⟩)->ALoopU Tryd.prog B 0 62 (hold c .mk) ⟨[(0,am (cL Pattern.c) lists),(3,am (cL Pattern.c) out),(4,li (i:Int)),(5,.own 2 (List.length (α:=List Pattern) next10)),(6,li (k:Int)),(7,li (j:Int))],[.dead,.dead,.elems 1 (List.map (cL Pattern.c) next10)]⟩ (hold Q .mk)):=by
 refine F.f105.partial_correctness lists out i k
  _
  ?_
 ·intro _f_f105 ih_f105 next10 j o hF
  intro c hc Q hq
  obtain rfl:c=_:=ZQ hc rfl
  refine kN fun hk hs=> ?_
  have b0:=hk 0
  simp -dsimp at b0
  have b3:=hk 3
  simp -dsimp at b3
  have d2:=hs 2 _ rfl
  simp -dsimp[Blk.bnd]at d2
  clear hk hs
  refine eN ?_
  have hF:=ob hF;obtain⟨x,e11,hF⟩:=hF
  have le11:=ZD e11
  repeat first|refine cg ?_|simp -dsimp[↓e11]
  revert hF;refine aS ?_ ?_<;>intro h12 q13 hF
  ·have z14:((j:Int)<(x.length:Int)):=auz
   repeat first|refine cg ?_|simp -dsimp[↓e11,h12,z14]
   revert hF;refine aS ?_ ?_<;>intro h15 q16 hF
   ·have z17:((next10.length:Int)<=400):=auz
    repeat first|refine cg ?_|simp -dsimp[↓e11,h12,z14,h15,z17]
    refine ADraw.opn ?_
    refine ADraw.split [] [(1,14)] [(14,1)] 1 14 rfl rfl (by kernel_rfl) ?_ ?_
    ·refine ADraw.split [(1,14)] [(1,14),(6,14)] [(1,14),(14,6)] 6 14 rfl rfl (by kernel_rfl) ?_ ?_
     ·refine ADraw.effP [(1,14),(6,14)] [0,1,2,3,4,5,6,7,8,9,10,11,12,13,14,15,16,17,18] [] [(0,5),(0,6),(0,1),(0,1),(0,1),(0,1),(0,6),(0,2),(0,2),(0,2),(0,2),(0,2),(0,2),(0,2),(0,6),(0,6),(0,6),(0,6),(6,6)] [1,1,1,1,0,0,1,1,1,0,0,1,0,0,1,1,1,1,1] follows (by kernel_rfl) (by kernel_rfl) (by kernel_rfl) (by kernel_rfl) ?_
      have hF:=ob hF;obtain⟨x18,e19,hF⟩:=hF
      have le19:=ZD e19
      have hF:=oc hF;obtain⟨c20,hF⟩:=hF
      have hF:=ob hF;obtain⟨x21,e22,hF⟩:=hF
      have le22:=ZD e22
      have hF:=oc hF;obtain⟨c23,hF⟩:=hF
      have hF:=oc hF;obtain⟨c24,hF⟩:=hF
      have hF:=oc hF;obtain⟨c25,hF⟩:=hF
      have w26:i64.wrap ((j:Int)+1)=(j:Int)+1:=ZE (by omega) (by omega)
      repeat first|refine cg ?_|simp -dsimp[↓e11,h12,z14,h15,z17,↓e19,↓e22,w26]
      refine aG _ ?_ ((ih_f105 (next10++[x18++[x21]]) (j+1) o hF) _ rfl _ hq)
      exact(gT (by simp) (by first|simp -dsimp[↓e11,h12,z14,h15,z17,↓e19,↓e22,w26];done|simp_all))
     ·have hF:=ob hF;obtain⟨x18,e19,hF⟩:=hF
      have hF:=oc hF;obtain⟨c20,hF⟩:=hF
      have hF:=ob hF;obtain⟨x21,e22,hF⟩:=hF
      have hF:=oc hF;obtain⟨c23,hF⟩:=hF
      have hF:=oc hF;obtain⟨c24,hF⟩:=hF
      refine ADraw.effP [(1,14),(14,6)] [0,1,2,3,4,5,7,8,9,10,11,12,13,14,6,15,16,17,18] [] [(0,5),(0,6),(0,2),(0,2),(0,2),(0,2),(0,1),(0,1),(0,1),(0,1),(0,1),(0,1),(0,1),(0,6),(0,6),(0,6),(0,6),(0,6),(6,6)] [1,1,1,1,0,0,1,1,0,0,1,0,0,1,1,1,1,1,1] follows (by kernel_rfl) (by kernel_rfl) (by kernel_rfl) (by kernel_rfl) ?_
      have le19:=ZD e19
      have le22:=ZD e22
      have hF:=oc hF;obtain⟨c25,hF⟩:=hF
      have w26:i64.wrap ((j:Int)+1)=(j:Int)+1:=ZE (by omega) (by omega)
      repeat first|refine cg ?_|simp -dsimp[↓e11,h12,z14,h15,z17,↓e19,↓e22,w26]
      refine aG _ ?_ ((ih_f105 (next10++[x18++[x21]]) (j+1) o hF) _ rfl _ hq)
      exact(gT (by simp) (by first|simp -dsimp[↓e11,h12,z14,h15,z17,↓e19,↓e22,w26];done|simp_all))
    ·have hF:=ob hF;obtain⟨x18,e19,hF⟩:=hF
     have hF:=oc hF;obtain⟨c20,hF⟩:=hF
     have hF:=ob hF;obtain⟨x21,e22,hF⟩:=hF
     have hF:=oc hF;obtain⟨c23,hF⟩:=hF
     have hF:=oc hF;obtain⟨c24,hF⟩:=hF
     refine ADraw.effP [(14,1)] [0,2,3,4,5,7,8,9,10,11,12,13,14,1,6,15,16,17,18] [] [(0,5),(0,2),(0,2),(0,2),(0,2),(0,0),(0,0),(0,0),(0,0),(0,0),(0,0),(0,0),(0,6),(0,6),(0,6),(0,6),(0,6),(0,6),(6,6)] [1,1,1,0,0,1,1,1,1,1,1,1,1,1,1,1,1,1,1] follows (by kernel_rfl) (by kernel_rfl) (by kernel_rfl) (by kernel_rfl) ?_
     have le19:=ZD e19
     have le22:=ZD e22
     have hF:=oc hF;obtain⟨c25,hF⟩:=hF
     have w26:i64.wrap ((j:Int)+1)=(j:Int)+1:=ZE (by omega) (by omega)
     repeat first|refine cg ?_|simp -dsimp[↓e11,h12,z14,h15,z17,↓e19,↓e22,w26]
     refine aG _ ?_ ((ih_f105 (next10++[x18++[x21]]) (j+1) o hF) _ rfl _ hq)
     exact(gT (by simp) (by first|simp -dsimp[↓e11,h12,z14,h15,z17,↓e19,↓e22,w26];done|simp_all))
   ·have z17:¬((next10.length:Int)<=400):=auz
    cases hF
    repeat first|refine cg ?_|simp -dsimp[↓e11,h12,z14,h15,q16,z17]
    refine lG _ (gT (by simp) (by first|simp -dsimp[↓e11,h12,z14,h15,q16,z17];done|simp_all)) hq
  ·have z14:¬((j:Int)<(x.length:Int)):=auz
   cases hF
   repeat first|refine cg ?_|simp -dsimp[↓e11,h12,q13,z14]
   refine lG _ (gT (by simp) (by first|simp -dsimp[↓e11,h12,q13,z14];done|simp_all)) hq
theorem CC.f106 (lists:List (List Pattern))(out:List (List Pattern))(i:Nat):(∀(next:List (List Pattern)) (k:Nat) (o:List (List Pattern)),F.f106 lists out i next k=some o->∀(c:Code),Zr [1,1,0,1,0,0,1,0,0,1,0,1,0,0] (ZI Tryd.f27)=some c->∀(Q:Exit->ASt->Prop),(Q (.exit 2) ⟨[(0,am (cL Pattern.c) lists),(4,li (i:Int)),(5,.own 2 (List.length (α:=List Pattern) o))],[.dead,.dead,.elems 1 (List.map (cL Pattern.c) o)]⟩)->ALoopU Tryd.prog B 0 62 (hold c .mk) ⟨[(0,am (cL Pattern.c) lists),(3,am (cL Pattern.c) out),(4,li (i:Int)),(5,.own 2 (List.length (α:=List Pattern) next)),(6,li (k:Int))],[.dead,.dead,.elems 1 (List.map (cL Pattern.c) next)]⟩ (hold Q .mk)):=by
 refine F.f106.partial_correctness lists out i
  _
  ?_
 ·intro _f_f106 ih_f106 next k o hF
  intro c hc Q hq
  obtain rfl:c=_:=ZQ hc rfl
  refine kN fun hk hs=> ?_
  have b0:=hk 0
  simp -dsimp at b0
  have b3:=hk 3
  simp -dsimp at b3
  have d2:=hs 2 _ rfl
  simp -dsimp[Blk.bnd]at d2
  clear hk hs
  refine eN ?_
  repeat first|refine cg ?_|simp -dsimp
  revert hF;refine aS ?_ ?_<;>intro h4 q5 hF
  ·have z6:((k:Int)<(out.length:Int)):=auz
   repeat first|refine cg ?_|simp -dsimp[h4,z6]
   revert hF;refine aS ?_ ?_<;>intro h7 q8 hF
   ·have z9:((next.length:Int)<=400):=auz
    repeat first|refine cg ?_|simp -dsimp[h4,z6,h7,z9]
    have hF:=ob hF;obtain⟨o',ho27,hF⟩:=hF
    refine ALoop.goU _ ?_ (((CC.f105 B hB1 hB2 lists out i k) next 0 o' ho27) _ rfl _ ?_)
    ·exact(gT (by simp) (by first|simp -dsimp[h4,z6,h7,z9];done|simp_all))
    have hF:=oc hF;obtain⟨c28,hF⟩:=hF
    have w29:i64.wrap ((k:Int)+1)=(k:Int)+1:=ZE (by omega) (by omega)
    repeat first|refine cg ?_|simp -dsimp[w29]
    refine aG _ ?_ ((ih_f106 o' (k+1) o hF) _ rfl _ hq)
    exact(gT (by simp) (by first|simp -dsimp[w29];done|simp_all))
   ·have z9:¬((next.length:Int)<=400):=auz
    cases hF
    repeat first|refine cg ?_|simp -dsimp[h4,z6,h7,q8,z9]
    refine lG _ (gT (by simp) (by first|simp -dsimp[h4,z6,h7,q8,z9];done|simp_all)) hq
  ·have z6:¬((k:Int)<(out.length:Int)):=auz
   cases hF
   repeat first|refine cg ?_|simp -dsimp[h4,q5,z6]
   refine lG _ (gT (by simp) (by first|simp -dsimp[h4,q5,z6];done|simp_all)) hq
theorem CC.f107 (lists:List (List Pattern)):(∀(out:List (List Pattern)) (i:Nat) (o:List (List Pattern)),F.f107 lists out i=some o->∀(c:Code),Zr [1,1,0,1,0,0] (ZI Tryd.f27)=some c->∀(Q:Exit->ASt->Prop),(Q (.exit 0) ⟨[(3,am (cL Pattern.c) o)],[]⟩)->ALoopU Tryd.prog B 0 62 (hold c .mk) ⟨[(0,am (cL Pattern.c) lists),(3,am (cL Pattern.c) out),(4,li (i:Int))],[.dead,.dead]⟩ (hold Q .mk)):=by
 refine F.f107.partial_correctness lists
  _
  ?_
 ·intro _f_f107 ih_f107 out i o hF
  intro c hc Q hq
  obtain rfl:c=_:=ZQ hc rfl
  refine kN fun hk hs=> ?_
  have b0:=hk 0
  simp -dsimp at b0
  have b3:=hk 3
  simp -dsimp at b3
  clear hk hs
  refine eN ?_
  repeat first|refine cg ?_|simp -dsimp
  revert hF;refine aS ?_ ?_<;>intro h1 q2 hF
  ·have z3:((i:Int)<(lists.length:Int)):=auz
   repeat first|refine cg ?_|simp -dsimp[h1,z3]
   have hF:=ob hF;obtain⟨o'31,ho30,hF⟩:=hF
   refine ALoop.goU _ ?_ (((CC.f106 B hB1 hB2 lists out i) [] 0 o'31 ho30) _ rfl _ ?_)
   ·exact(gT (by simp) (by first|simp -dsimp[h1,z3];done|simp_all))
   have hF:=oc hF;obtain⟨c32,hF⟩:=hF
   have w33:i64.wrap ((i:Int)+1)=(i:Int)+1:=ZE (by omega) (by omega)
   repeat first|refine cg ?_|simp -dsimp[w33]
   refine aG ⟨[(0,.arr (List.map (cL Pattern.c) lists)),(3,.arr (List.map (cL Pattern.c) o'31)),(4,.lit (.int .i64 ((i+1):Int)))],[.dead,.dead]⟩ (by refine Gh.trans (Gh.frzSlot 3 (l:=2) (n:=List.length (α:=List Pattern) o'31) (sz:=1) (es:=List.map (cL Pattern.c) o'31) (by simp) (by simp) (by simp) (by simp)) ?_;exact(gT (by simp) (by first|simp -dsimp[w33];done|simp_all))) ?_
   exact(ih_f107 o'31 (i+1) o hF) _ rfl _ hq
  ·have z3:¬((i:Int)<(lists.length:Int)):=auz
   cases hF
   repeat first|refine cg ?_|simp -dsimp[h1,q2,z3]
   refine lG _ (gT (by simp) (by first|simp -dsimp[h1,q2,z3];done|simp_all)) hq
theorem C.f108 (lists:List (List Pattern))(r:List (List Pattern))(hF:F.f108 lists=some r):PureCall Tryd.prog B 27 [am (cL Pattern.c) lists] (am (cL Pattern.c) r):=by
 unfold F.f108 at hF
 refine pE Tryd.func27 (by kernel_rfl) rfl Tryd.ntmps27 (by simp) (by simp) ?_
 repeat first|refine cg ?_|simp -dsimp
 have hF:=ob hF;obtain⟨o'35,ho34,hF⟩:=hF
 refine ALoop.goU ⟨[(0,.arr (List.map (cL Pattern.c) lists)),(3,.arr (List.map (cL Pattern.c) [[]])),(4,.lit (.int .i64 0))],[.dead,.dead]⟩ (by refine Gh.trans (Gh.frzSlot 3 (l:=1) (n:=List.length (α:=List Pattern) [[]]) (sz:=1) (es:=List.map (cL Pattern.c) [[]]) (by simp) (by simp) (by simp) (by simp)) ?_;exact(gT (by simp) (by simp -dsimp))) ?_
 refine((CC.f107 B hB1 hB2 lists) [[]] 0 o'35 ho34) _ rfl _ ?_
 cases hF
 repeat first|refine cg ?_|simp -dsimp
 all_goals(try first|omega|rfl)
theorem CC.spec_l3Split__o0_l2 (p:Pattern)(v24:List (List Pattern)):(∀(out:List Pattern) (i26:Nat) (o:List Pattern),F.f109 p v24 out i26=some o->∀(c:Code),Zr [1,1,1,1,1,1,0,1,0,0] (ZI Tryd.f16)=some c->∀(Q:Exit->ASt->Prop),(Q (.exit 2) ⟨[(7,.own 2 (List.length (α:=Pattern) o))],[.dead,.dead,.elems 6 (List.map Pattern.c o)]⟩)->ALoopU Tryd.prog B 0 67 (hold c .mk) ⟨[(1,.ptr 0 0),(6,am (cL Pattern.c) v24),(7,.own 2 (List.length (α:=Pattern) out)),(8,li (i26:Int))],[.cells [li p.op,li p.ctor,li p.n,li p.m,li p.var,am Pattern.c p.kids],.dead,.elems 6 (List.map Pattern.c out)]⟩ (hold Q .mk)):=by
 refine F.f109.partial_correctness p v24
  _
  ?_
 ·intro _f_spec_l3Split__o0_l2 ih_spec_l3Split__o0_l2 out i26 o hF
  intro c hc Q hq
  obtain rfl:c=_:=ZQ hc rfl
  refine kN fun hk hs=> ?_
  have b6:=hk 6
  simp -dsimp at b6
  have d0:=hs 0 _ rfl
  simp -dsimp[Blk.bnd]at d0
  have d2:=hs 2 _ rfl
  simp -dsimp[Blk.bnd]at d2
  clear hk hs
  refine eN ?_
  repeat first|refine cg ?_|simp -dsimp
  revert hF;refine aS ?_ ?_<;>intro h27 q28 hF
  ·have z29:((i26:Int)<(v24.length:Int)):=auz
   have hF:=ob hF;obtain⟨x30,e31,hF⟩:=hF
   have le31:=ZD e31
   have hF:=oc hF;obtain⟨c32,hF⟩:=hF
   have w33:i64.wrap ((i26:Int)+1)=(i26:Int)+1:=ZE (by omega) (by omega)
   repeat first|refine cg ?_|simp -dsimp[h27,z29,↓e31,w33]
   refine aG _ ?_ ((ih_spec_l3Split__o0_l2 (out++[(⟨p.op,p.ctor,p.n,p.m,p.var,x30⟩:Pattern)]) (i26+1) o hF) _ rfl _ hq)
   exact(gT (by simp) (by first|simp -dsimp[h27,z29,↓e31,w33];done|simp_all))
  ·have z29:¬((i26:Int)<(v24.length:Int)):=auz
   cases hF
   repeat first|refine cg ?_|simp -dsimp[h27,q28,z29]
   refine lG _ (gT (by simp) (by first|simp -dsimp[h27,q28,z29];done|simp_all)) hq
theorem CC.spec_l3Split__o0  :(∀(p:Pattern) (r:List Pattern),F.f110 p=some r->BCall Tryd.prog B 16 [] [.agg [li p.op,li p.ctor,li p.n,li p.m,li p.var,am Pattern.c p.kids]] (.own 0 (List.length (α:=Pattern) r)) [.elems 6 (List.map Pattern.c r)])/\
  (∀(p:Pattern) (lists:List (List Pattern)) (i:Nat) (o:List (List Pattern)),F.f111 p lists i=some o->∀(c:Code),Zr [1,1,1,0,1,0,0] (ZI Tryd.f16)=some c->∀(Q:Exit->ASt->Prop),(Q (.exit 0) ⟨[(1,.ptr 0 0),(4,.own 1 (List.length (α:=List Pattern) o))],[.cells [li p.op,li p.ctor,li p.n,li p.m,li p.var,am Pattern.c p.kids],.elems 1 (List.map (cL Pattern.c) o)]⟩)->ALoopU Tryd.prog B 0 67 (hold c .mk) ⟨[(1,.ptr 0 0),(4,.own 1 (List.length (α:=List Pattern) lists)),(5,li (i:Int))],[.cells [li p.op,li p.ctor,li p.n,li p.m,li p.var,am Pattern.c p.kids],.elems 1 (List.map (cL Pattern.c) lists)]⟩ (hold Q .mk)):=by
 refine F.f110.mutual_partial_correctness 
  _ _
  ?_ ?_
 ·intro _f_spec_l3Split__o0 _f_spec_l3Split__o0_l1 ih_spec_l3Split__o0 ih_spec_l3Split__o0_l1 p r hF
  refine BCall.enterS (τ1:=[]) (ys:=[.own 0 (List.length (α:=Pattern) r)]) (news:=[(6,List.map Pattern.c r)]) Tryd.func16 (by kernel_rfl) rfl Tryd.ntmps16 (by simp) rfl rfl (by simp) (by simp) (by simp) (by simp) (by simp) (by simp) (gR _) ?_
  repeat first|refine cg ?_|simp -dsimp
  revert hF;refine aS ?_ ?_<;>intro h1 q2 hF
  ·repeat first|refine cg ?_|simp -dsimp[h1]
   refine ADraw.eff [16] [(0,0),(0,0),(0,0),(0,0),(0,3),(0,1),(0,1),(0,1),(0,1),(0,3),(0,3),(3,3)] [1,1,1,1,1,0,2,0,0,1,1,1] follows (by kernel_rfl) (by kernel_rfl) (by kernel_rfl) ?_
   have hF:=ob hF;obtain⟨x,e3,hF⟩:=hF
   have le3:=ZD e3
   repeat first|refine cg ?_|simp -dsimp[h1,↓e3]
   have hF:=ob hF;obtain⟨v,e4,hF⟩:=hF
   refine((ih_spec_l3Split__o0 x v e4)).ego (pl [1]) (by simp) (by simp) (by intro i j hi;simp at hi) (by intro i hi hi';simp at hi hi';have hi:i=0:=(by omega);rcases hi with rfl<;>simp[pl]) (by first|simp[h1,↓e3];done|simp_all) (by first|simp[h1,↓e3];done|simp_all) ?_
   have hF:=ob hF;obtain⟨x5,e6,hF⟩:=hF
   have le6:=ZD e6
   repeat first|refine cg ?_|simp -dsimp[h1,↓e3,↓e6]
   have hF:=ob hF;obtain⟨v7,e8,hF⟩:=hF
   refine((ih_spec_l3Split__o0 x5 v7 e8)).ego (pl [2]) (by simp) (by simp) (by intro i j hi;simp at hi) (by intro i hi hi';simp at hi hi';have hi:i=0:=(by omega);rcases hi with rfl<;>simp[pl]) (by first|simp[h1,↓e3,↓e6];done|simp_all) (by first|simp[h1,↓e3,↓e6];done|simp_all) ?_
   have hF:=oc hF;obtain⟨c9,hF⟩:=hF
   repeat first|refine cg ?_|simp -dsimp[h1,↓e3,↓e6]
   revert hF;refine aS ?_ ?_<;>intro h10 q11 hF
   ·have z12:(401<(((v++v7).length:Nat):Int)):=auz
    have hF:=oc hF;obtain⟨c13,hF⟩:=hF
    cases hF
    repeat first|refine cg ?_|simp -dsimp[h1,↓e3,↓e6,h10,z12]
    all_goals(try first|omega|rfl|(simp;done)|(simp only[List.length_cons,List.length_nil]at*;omega)|simp)
   ·have z12:¬(401<(((v++v7).length:Nat):Int)):=auz
    cases hF
    repeat first|refine cg ?_|simp -dsimp[h1,↓e3,↓e6,h10,q11,z12]
    all_goals(try first|omega|rfl|(simp;done)|(simp only[List.length_cons,List.length_nil]at*;omega)|simp)
  ·repeat first|refine cg ?_|simp -dsimp[h1,q2]
   have hF:=ob hF;obtain⟨o',ho23,hF⟩:=hF
   refine ALoop.goU _ ?_ ((ih_spec_l3Split__o0_l1 p [] 0 o' ho23) _ rfl _ ?_)
   ·exact(gT (by simp) (by first|simp -dsimp[h1,q2];done|simp_all))
   repeat first|refine cg ?_|simp -dsimp
   have hF:=ob hF;obtain⟨v24,e25,hF⟩:=hF
   refine ACall.frz ?_ ((C.f108 B hB1 hB2 o' v24 e25)).ent
   repeat first|refine cg ?_|simp -dsimp
   refine((C.f108 B hB1 hB2 o' v24 e25)).goW (by simp) (by simp) ?_
   repeat first|refine cg ?_|simp -dsimp
   have hF:=ob hF;obtain⟨o'35,ho34,hF⟩:=hF
   refine ALoop.goU _ ?_ (((CC.spec_l3Split__o0_l2 B hB1 hB2 p v24) [] 0 o'35 ho34) _ rfl _ ?_)
   ·exact(gT (by simp) (by simp -dsimp))
   cases hF
   repeat first|refine cg ?_|simp -dsimp
   all_goals(try first|omega|rfl|(simp;done)|(simp only[List.length_cons,List.length_nil]at*;omega)|simp)
 ·intro _f_spec_l3Split__o0 _f_spec_l3Split__o0_l1 ih_spec_l3Split__o0 ih_spec_l3Split__o0_l1 p lists i o hF
  intro c hc Q hq
  obtain rfl:c=_:=ZQ hc rfl
  refine kN fun hk hs=> ?_
  have d0:=hs 0 _ rfl
  simp -dsimp[Blk.bnd]at d0
  have d1:=hs 1 _ rfl
  simp -dsimp[Blk.bnd]at d1
  clear hk hs
  refine eN ?_
  repeat first|refine cg ?_|simp -dsimp
  revert hF;refine aS ?_ ?_<;>intro h14 q15 hF
  ·have z16:((i:Int)<(p.kids.length:Int)):=auz
   have hF:=ob hF;obtain⟨x17,e18,hF⟩:=hF
   have le18:=ZD e18
   repeat first|refine cg ?_|simp -dsimp[h14,z16,↓e18]
   have hF:=ob hF;obtain⟨v19,e20,hF⟩:=hF
   refine((ih_spec_l3Split__o0 x17 v19 e20)).go (pl [2]) (by simp) (by simp) (by intro i j hi;simp at hi) (by intro i hi hi';simp at hi hi';have hi:i=0:=(by omega);rcases hi with rfl<;>simp[pl]) (by first|simp[h14,z16,↓e18];done|simp_all) (by first|simp[h14,z16,↓e18];done|simp_all) ?_
   have hF:=oc hF;obtain⟨c21,hF⟩:=hF
   have w22:i64.wrap ((i:Int)+1)=(i:Int)+1:=ZE (by omega) (by omega)
   repeat first|refine cg ?_|simp -dsimp[h14,z16,↓e18,w22]
   refine aG _ ?_ ((ih_spec_l3Split__o0_l1 p (lists++[v19]) (i+1) o hF) _ rfl _ hq)
   exact(gT (by simp) (by first|simp -dsimp[h14,z16,↓e18,w22];done|simp_all))
  ·have z16:¬((i:Int)<(p.kids.length:Int)):=auz
   cases hF
   repeat first|refine cg ?_|simp -dsimp[h14,q15,z16]
   refine lG _ (gT (by simp) (by first|simp -dsimp[h14,q15,z16];done|simp_all)) hq
theorem C.f112 (path:List Int)(i:Int)(r:List Int)(hF:F.f112 path i=some r):PureCall Tryd.prog B 42 [am cI path,li i] (am cI r):=by
 unfold F.f112 at hF
 refine pE Tryd.func42 (by kernel_rfl) rfl Tryd.ntmps42 (by simp) (by simp) ?_
 have hF:=oc hF;obtain⟨c1,hF⟩:=hF
 have hF:=oc hF;obtain⟨c2,hF⟩:=hF
 cases hF
 repeat first|refine cg ?_|simp -dsimp
 all_goals(try first|omega|rfl)
theorem CC.f113  :(∀(out:List Step) (p:Pattern) (path:List Int) (r:List Step),F.f113 out p path=some r->BCall Tryd.prog B 28 [.elems 8 (List.map Step.c out)] [.own 0 (List.length (α:=Step) out),.agg [li p.op,li p.ctor,li p.n,li p.m,li p.var,am Pattern.c p.kids],am cI path] (.own 0 (List.length (α:=Step) r)) [.elems 8 (List.map Step.c r)])/\
  (∀(p:Pattern) (path:List Int) (out13:List Step) (i:Nat) (o:List Step),F.f114 p path out13 i=some o->∀(c:Code),Zr [1,0,1,0,1,1,1,1,1,0,1,1,0,0] (ZI Tryd.f28)=some c->∀(Q:Exit->ASt->Prop),(Q (.exit 1) ⟨[(0,.own 0 (List.length (α:=Step) o))],[.elems 8 (List.map Step.c o)]⟩)->ALoopU Tryd.prog B 1 61 (hold c .mk) ⟨[(0,.own 0 (List.length (α:=Step) out13)),(2,am cI path),(4,.ptr 1 0),(7,li (i:Int))],[.elems 8 (List.map Step.c out13),.cells [li p.op,li p.ctor,li p.n,li p.m,li p.var,am Pattern.c p.kids]]⟩ (hold Q .mk)):=by
 refine F.f113.mutual_partial_correctness 
  _ _
  ?_ ?_
 ·intro _f_f113 _f_f114 ih_f113 ih_f114 out p path r hF
  refine BCall.enter Tryd.func28 (by kernel_rfl) rfl Tryd.ntmps28 (by simp) rfl (by simp) (by simp) (by simp) (by simp) (by simp) (gR _) ?_
  repeat first|refine cg ?_|simp -dsimp
  revert hF;refine aS ?_ ?_<;>intro h1 q2 hF
  ·have hF:=ob hF;obtain⟨x,e3,hF⟩:=hF
   have le3:=ZD e3
   repeat first|refine cg ?_|simp -dsimp[h1,↓e3]
   have hF:=ob hF;obtain⟨v,e4,hF⟩:=hF
   refine((ih_f113 out x path v e4)).go (pl [0]) (by simp) (by simp) (ZAn _ rfl (by decide)) (by intro i hi hi';simp at hi hi';first|omega|(subst hi';simp[pl])) (by first|simp[h1,↓e3];done|simp_all) (by first|simp[h1,↓e3];done|simp_all) ?_
   cases hF
   repeat first|refine cg ?_|simp -dsimp[h1,↓e3]
   all_goals(try first|omega|rfl)
  ·repeat first|refine cg ?_|simp -dsimp[h1,q2]
   revert hF;refine aS ?_ ?_<;>intro h5 q6 hF
   ·repeat first|refine cg ?_|simp -dsimp[h1,q2,h5]
    refine ADraw.eff [1000041] [(0,4),(0,5),(0,1),(0,5),(0,2),(0,2),(0,2),(0,2),(0,5),(0,5),(0,5),(5,5)] [1,1,1,1,0,2,0,2,1,1,1,1] follows (by kernel_rfl) (by kernel_rfl) (by kernel_rfl) ?_
    have hF:=oc hF;obtain⟨c7,hF⟩:=hF
    have hF:=oc hF;obtain⟨c8,hF⟩:=hF
    cases hF
    repeat first|refine cg ?_|simp -dsimp[h1,q2,h5]
    all_goals(try first|omega|rfl)
   ·repeat first|refine cg ?_|simp -dsimp[h1,q2,h5,q6]
    revert hF;refine aS ?_ ?_<;>intro h9 q10 hF
    ·repeat first|refine cg ?_|simp -dsimp[h1,q2,h5,q6,h9]
     refine ADraw.eff [1000041] [(0,4),(0,5),(0,1),(0,5),(0,2),(0,2),(0,5),(0,5),(0,5),(5,5)] [1,1,1,1,0,2,1,1,1,1] follows (by kernel_rfl) (by kernel_rfl) (by kernel_rfl) ?_
     have hF:=oc hF;obtain⟨c11,hF⟩:=hF
     have hF:=oc hF;obtain⟨c12,hF⟩:=hF
     repeat first|refine cg ?_|simp -dsimp[h1,q2,h5,q6,h9]
     have hF:=ob hF;obtain⟨o',ho24,hF⟩:=hF
     refine ALoop.goU _ ?_ ((ih_f114 p path (out++[(⟨1,path,p.ctor,0,0,0,[],0⟩:Step)]) 0 o' ho24) _ rfl _ ?_)
     ·exact(gT (by simp) (by first|simp -dsimp[h1,q2,h5,q6,h9];done|simp_all))
     cases hF
     repeat first|refine cg ?_|simp -dsimp
     all_goals(try first|omega|rfl)
    ·cases hF
     repeat first|refine cg ?_|simp -dsimp[h1,q2,h5,q6,h9,q10]
     all_goals(try first|omega|rfl)
 ·intro _f_f113 _f_f114 ih_f113 ih_f114 p path out13 i o hF
  intro c hc Q hq
  obtain rfl:c=_:=ZQ hc rfl
  refine kN fun hk hs=> ?_
  have b2:=hk 2
  simp -dsimp at b2
  have d0:=hs 0 _ rfl
  simp -dsimp[Blk.bnd]at d0
  have d1:=hs 1 _ rfl
  simp -dsimp[Blk.bnd]at d1
  clear hk hs
  refine eN ?_
  repeat first|refine cg ?_|simp -dsimp
  revert hF;refine aS ?_ ?_<;>intro h14 q15 hF
  ·have z16:((i:Int)<(p.kids.length:Int)):=auz
   repeat first|refine cg ?_|simp -dsimp[h14,z16]
   refine ADraw.eff [28] [(0,0),(0,0),(0,0),(0,0),(0,0),(0,0),(0,0),(0,0),(0,1),(0,1),(1,1)] [1,1,1,1,1,1,1,1,1,1,1] follows (by kernel_rfl) (by kernel_rfl) (by kernel_rfl) ?_
   have hF:=ob hF;obtain⟨x17,e18,hF⟩:=hF
   have le18:=ZD e18
   repeat first|refine cg ?_|simp -dsimp[h14,z16,↓e18]
   have hF:=ob hF;obtain⟨v19,e20,hF⟩:=hF
   refine((C.f112 B hB1 hB2 path (i:Int) v19 e20)).pgoW (by first|simp[h14,z16,↓e18];done|simp_all) (by simp) ?_
   repeat first|refine cg ?_|simp -dsimp[h14,z16,↓e18]
   have hF:=ob hF;obtain⟨v21,e22,hF⟩:=hF
   refine((ih_f113 out13 x17 v19 v21 e22)).ego (pl [0]) (by simp) (by simp) (ZAn _ rfl (by decide)) (by intro i hi hi';simp at hi hi';first|omega|(subst hi';simp[pl])) (by first|simp[h14,z16,↓e18];done|simp_all) (by first|simp[h14,z16,↓e18];done|simp_all) ?_
   have w23:i64.wrap ((i:Int)+1)=(i:Int)+1:=ZE (by omega) (by omega)
   repeat first|refine cg ?_|simp -dsimp[h14,z16,↓e18,w23]
   refine aG _ ?_ ((ih_f114 p path v21 (i+1) o hF) _ rfl _ hq)
   exact(gT (by simp) (by first|simp -dsimp[h14,z16,↓e18,w23];done|simp_all))
  ·have z16:¬((i:Int)<(p.kids.length:Int)):=auz
   cases hF
   repeat first|refine cg ?_|simp -dsimp[h14,q15,z16]
   refine lG _ (gT (by simp) (by first|simp -dsimp[h14,q15,z16];done|simp_all)) hq
theorem CC.f115  :(∀(out:List PathBind) (p:Pattern) (path:List Int) (r:List PathBind),F.f115 out p path=some r->BCall Tryd.prog B 30 [.elems 2 (List.map PathBind.c out)] [.own 0 (List.length (α:=PathBind) out),.agg [li p.op,li p.ctor,li p.n,li p.m,li p.var,am Pattern.c p.kids],am cI path] (.own 0 (List.length (α:=PathBind) r)) [.elems 2 (List.map PathBind.c r)])/\
  (∀(p:Pattern) (path:List Int) (out24:List PathBind) (i25:Nat) (o:List PathBind),F.f117 p path out24 i25=some o->∀(c:Code),Zr [1,1,0,1,0,0] (ZI Tryd.f30)=some c->∀(Q:Exit->ASt->Prop),(Q (.exit 0) ⟨[(0,.own 0 (List.length (α:=PathBind) o))],[.elems 2 (List.map PathBind.c o)]⟩)->ALoopU Tryd.prog B 1 49 (hold c .mk) ⟨[(0,.own 0 (List.length (α:=PathBind) out24)),(2,am cI path),(4,.ptr 1 0),(7,li (i25:Int))],[.elems 2 (List.map PathBind.c out24),.cells [li p.op,li p.ctor,li p.n,li p.m,li p.var,am Pattern.c p.kids]]⟩ (hold Q .mk))/\
  (∀(p:Pattern) (path:List Int) (out7:List PathBind) (i:Nat) (o:List PathBind),F.f116 p path out7 i=some o->∀(c:Code),Zr [1,1,0,1,0,0] (ZI Tryd.f30)=some c->∀(Q:Exit->ASt->Prop),(Q (.exit 0) ⟨[(0,.own 0 (List.length (α:=PathBind) o))],[.elems 2 (List.map PathBind.c o)]⟩)->ALoopU Tryd.prog B 1 49 (hold c .mk) ⟨[(0,.own 0 (List.length (α:=PathBind) out7)),(2,am cI path),(4,.ptr 1 0),(7,li (i:Int))],[.elems 2 (List.map PathBind.c out7),.cells [li p.op,li p.ctor,li p.n,li p.m,li p.var,am Pattern.c p.kids]]⟩ (hold Q .mk))/\
  (∀(p:Pattern) (path:List Int) (out47:List PathBind) (i48:Nat) (o:List PathBind),F.f118 p path out47 i48=some o->∀(c:Code),Zr [1,1,0,1,0,0] (ZI Tryd.f30)=some c->∀(Q:Exit->ASt->Prop),(Q (.exit 0) ⟨[(0,.own 0 (List.length (α:=PathBind) o))],[.elems 2 (List.map PathBind.c o)]⟩)->ALoopU Tryd.prog B 1 49 (hold c .mk) ⟨[(0,.own 0 (List.length (α:=PathBind) out47)),(2,am cI path),(4,.ptr 1 0),(7,li (i48:Int))],[.elems 2 (List.map PathBind.c out47),.cells [li p.op,li p.ctor,li p.n,li p.m,li p.var,am Pattern.c p.kids]]⟩ (hold Q .mk)):=by
 refine F.f115.mutual_partial_correctness 
  _ _ _ _
  ?_ ?_ ?_ ?_
 ·intro _f_f117 _f_f116 _f_f118 ih_f117 ih_f116 ih_f118 out p path r hF
  refine BCall.enter Tryd.func30 (by kernel_rfl) rfl Tryd.ntmps30 (by simp) rfl (by simp) (by simp) (by simp) (by simp) (by simp) (gR _) ?_
  repeat first|refine cg ?_|simp -dsimp
  revert hF;refine aN ?_ ?_<;>intro h1 q2 hF
  ·repeat first|refine cg ?_|simp -dsimp[h1,q2]
   revert hF;refine aS ?_ ?_<;>intro h3 q4 hF
   ·repeat first|refine cg ?_|simp -dsimp[h1,q2,h3]
    refine ADraw.eff [1000049] [(0,4),(0,2),(0,2),(0,5),(0,1),(0,5),(0,5),(0,5),(0,5),(5,5)] [1,0,2,1,1,1,1,1,1,1] follows (by kernel_rfl) (by kernel_rfl) (by kernel_rfl) ?_
    have hF:=oc hF;obtain⟨c5,hF⟩:=hF
    have hF:=oc hF;obtain⟨c6,hF⟩:=hF
    repeat first|refine cg ?_|simp -dsimp[h1,q2,h3]
    have hF:=ob hF;obtain⟨o',ho23,hF⟩:=hF
    refine ALoop.goU _ ?_ ((ih_f116 p path (out++[(⟨p.var,path⟩:PathBind)]) 0 o' ho23) _ rfl _ ?_)
    ·exact(gT (by simp) (by first|simp -dsimp[h1,q2,h3];done|simp_all))
    cases hF
    repeat first|refine cg ?_|simp -dsimp
    all_goals(try first|omega|rfl)
   ·repeat first|refine cg ?_|simp -dsimp[h1,q2,h3,q4]
    have hF:=ob hF;obtain⟨o'44,ho43,hF⟩:=hF
    refine ALoop.goU _ ?_ ((ih_f117 p path out 0 o'44 ho43) _ rfl _ ?_)
    ·exact(gT (by simp) (by first|simp -dsimp[h1,q2,h3,q4];done|simp_all))
    cases hF
    repeat first|refine cg ?_|simp -dsimp
    all_goals(try first|omega|rfl)
  ·repeat first|refine cg ?_|simp -dsimp[h1,q2]
   refine ADraw.eff [1000049] [(0,4),(0,2),(0,2),(0,5),(0,1),(0,5),(0,5),(0,5),(0,5),(5,5)] [1,0,2,1,1,1,1,1,1,1] follows (by kernel_rfl) (by kernel_rfl) (by kernel_rfl) ?_
   have hF:=oc hF;obtain⟨c45,hF⟩:=hF
   have hF:=oc hF;obtain⟨c46,hF⟩:=hF
   repeat first|refine cg ?_|simp -dsimp[h1,q2]
   have hF:=ob hF;obtain⟨o'67,ho66,hF⟩:=hF
   refine ALoop.goU _ ?_ ((ih_f118 p path (out++[(⟨p.var,path⟩:PathBind)]) 0 o'67 ho66) _ rfl _ ?_)
   ·exact(gT (by simp) (by first|simp -dsimp[h1,q2];done|simp_all))
   cases hF
   repeat first|refine cg ?_|simp -dsimp
   all_goals(try first|omega|rfl)
 ·intro _f_f115 _f_f117 ih_f115 ih_f117 p path out24 i25 o hF
  intro c hc Q hq
  obtain rfl:c=_:=ZQ hc rfl
  refine kN fun hk hs=> ?_
  have b2:=hk 2
  simp -dsimp at b2
  have d0:=hs 0 _ rfl
  simp -dsimp[Blk.bnd]at d0
  have d1:=hs 1 _ rfl
  simp -dsimp[Blk.bnd]at d1
  clear hk hs
  refine eN ?_
  repeat first|refine cg ?_|simp -dsimp
  revert hF;refine aS ?_ ?_<;>intro h26 q27 hF
  ·have z28:((i25:Int)<(p.kids.length:Int)):=auz
   repeat first|refine cg ?_|simp -dsimp[h26,z28]
   revert hF;refine aS ?_ ?_<;>intro h29 q30 hF
   ·repeat first|refine cg ?_|simp -dsimp[h26,z28,h29]
    have hF:=ob hF;obtain⟨v31,e32,hF⟩:=hF
    refine((C.f112 B hB1 hB2 path (i25:Int) v31 e32)).goW (by first|simp[h26,z28,h29];done|simp_all) (by simp) ?_
    have hF:=ob hF;obtain⟨x33,e34,hF⟩:=hF
    have le34:=ZD e34
    repeat first|refine cg ?_|simp -dsimp[h26,z28,h29,↓e34]
    have hF:=ob hF;obtain⟨v35,e36,hF⟩:=hF
    refine((ih_f115 out24 x33 v31 v35 e36)).go (pl [0]) (by simp) (by simp) (ZAn _ rfl (by decide)) (by intro i hi hi';simp at hi hi';first|omega|(subst hi';simp[pl])) (by first|simp[h26,z28,h29,↓e34];done|simp_all) (by first|simp[h26,z28,h29,↓e34];done|simp_all) ?_
    have w37:i64.wrap ((i25:Int)+1)=(i25:Int)+1:=ZE (by omega) (by omega)
    repeat first|refine cg ?_|simp -dsimp[h26,z28,h29,↓e34,w37]
    refine aG _ ?_ ((ih_f117 p path v35 (i25+1) o hF) _ rfl _ hq)
    exact(gT (by simp) (by first|simp -dsimp[h26,z28,h29,↓e34,w37];done|simp_all))
   ·have hF:=ob hF;obtain⟨x38,e39,hF⟩:=hF
    have le39:=ZD e39
    repeat first|refine cg ?_|simp -dsimp[h26,z28,h29,q30,↓e39]
    have hF:=ob hF;obtain⟨v40,e41,hF⟩:=hF
    refine((ih_f115 out24 x38 path v40 e41)).go (pl [0]) (by simp) (by simp) (ZAn _ rfl (by decide)) (by intro i hi hi';simp at hi hi';first|omega|(subst hi';simp[pl])) (by first|simp[h26,z28,h29,q30,↓e39];done|simp_all) (by first|simp[h26,z28,h29,q30,↓e39];done|simp_all) ?_
    have w42:i64.wrap ((i25:Int)+1)=(i25:Int)+1:=ZE (by omega) (by omega)
    repeat first|refine cg ?_|simp -dsimp[h26,z28,h29,q30,↓e39,w42]
    refine aG _ ?_ ((ih_f117 p path v40 (i25+1) o hF) _ rfl _ hq)
    exact(gT (by simp) (by first|simp -dsimp[h26,z28,h29,q30,↓e39,w42];done|simp_all))
  ·have z28:¬((i25:Int)<(p.kids.length:Int)):=auz
   cases hF
   repeat first|refine cg ?_|simp -dsimp[h26,q27,z28]
   refine lG _ (gT (by simp) (by first|simp -dsimp[h26,q27,z28];done|simp_all)) hq
 ·intro _f_f115 _f_f116 ih_f115 ih_f116 p path out7 i o hF
  intro c hc Q hq
  obtain rfl:c=_:=ZQ hc rfl
  refine kN fun hk hs=> ?_
  have b2:=hk 2
  simp -dsimp at b2
  have d0:=hs 0 _ rfl
  simp -dsimp[Blk.bnd]at d0
  have d1:=hs 1 _ rfl
  simp -dsimp[Blk.bnd]at d1
  clear hk hs
  refine eN ?_
  repeat first|refine cg ?_|simp -dsimp
  revert hF;refine aS ?_ ?_<;>intro h8 q9 hF
  ·have z10:((i:Int)<(p.kids.length:Int)):=auz
   repeat first|refine cg ?_|simp -dsimp[h8,z10]
   revert hF;refine aS ?_ ?_<;>intro h11 q12 hF
   ·repeat first|refine cg ?_|simp -dsimp[h8,z10,h11]
    have hF:=ob hF;obtain⟨v,e13,hF⟩:=hF
    refine((C.f112 B hB1 hB2 path (i:Int) v e13)).goW (by first|simp[h8,z10,h11];done|simp_all) (by simp) ?_
    have hF:=ob hF;obtain⟨x,e14,hF⟩:=hF
    have le14:=ZD e14
    repeat first|refine cg ?_|simp -dsimp[h8,z10,h11,↓e14]
    have hF:=ob hF;obtain⟨v15,e16,hF⟩:=hF
    refine((ih_f115 out7 x v v15 e16)).go (pl [0]) (by simp) (by simp) (ZAn _ rfl (by decide)) (by intro i hi hi';simp at hi hi';first|omega|(subst hi';simp[pl])) (by first|simp[h8,z10,h11,↓e14];done|simp_all) (by first|simp[h8,z10,h11,↓e14];done|simp_all) ?_
    have w17:i64.wrap ((i:Int)+1)=(i:Int)+1:=ZE (by omega) (by omega)
    repeat first|refine cg ?_|simp -dsimp[h8,z10,h11,↓e14,w17]
    refine aG _ ?_ ((ih_f116 p path v15 (i+1) o hF) _ rfl _ hq)
    exact(gT (by simp) (by first|simp -dsimp[h8,z10,h11,↓e14,w17];done|simp_all))
   ·have hF:=ob hF;obtain⟨x18,e19,hF⟩:=hF
    have le19:=ZD e19
    repeat first|refine cg ?_|simp -dsimp[h8,z10,h11,q12,↓e19]
    have hF:=ob hF;obtain⟨v20,e21,hF⟩:=hF
    refine((ih_f115 out7 x18 path v20 e21)).go (pl [0]) (by simp) (by simp) (ZAn _ rfl (by decide)) (by intro i hi hi';simp at hi hi';first|omega|(subst hi';simp[pl])) (by first|simp[h8,z10,h11,q12,↓e19];done|simp_all) (by first|simp[h8,z10,h11,q12,↓e19];done|simp_all) ?_
    have w22:i64.wrap ((i:Int)+1)=(i:Int)+1:=ZE (by omega) (by omega)
    repeat first|refine cg ?_|simp -dsimp[h8,z10,h11,q12,↓e19,w22]
    refine aG _ ?_ ((ih_f116 p path v20 (i+1) o hF) _ rfl _ hq)
    exact(gT (by simp) (by first|simp -dsimp[h8,z10,h11,q12,↓e19,w22];done|simp_all))
  ·have z10:¬((i:Int)<(p.kids.length:Int)):=auz
   cases hF
   repeat first|refine cg ?_|simp -dsimp[h8,q9,z10]
   refine lG _ (gT (by simp) (by first|simp -dsimp[h8,q9,z10];done|simp_all)) hq
 ·intro _f_f115 _f_f118 ih_f115 ih_f118 p path out47 i48 o hF
  intro c hc Q hq
  obtain rfl:c=_:=ZQ hc rfl
  refine kN fun hk hs=> ?_
  have b2:=hk 2
  simp -dsimp at b2
  have d0:=hs 0 _ rfl
  simp -dsimp[Blk.bnd]at d0
  have d1:=hs 1 _ rfl
  simp -dsimp[Blk.bnd]at d1
  clear hk hs
  refine eN ?_
  repeat first|refine cg ?_|simp -dsimp
  revert hF;refine aS ?_ ?_<;>intro h49 q50 hF
  ·have z51:((i48:Int)<(p.kids.length:Int)):=auz
   repeat first|refine cg ?_|simp -dsimp[h49,z51]
   revert hF;refine aS ?_ ?_<;>intro h52 q53 hF
   ·repeat first|refine cg ?_|simp -dsimp[h49,z51,h52]
    have hF:=ob hF;obtain⟨v54,e55,hF⟩:=hF
    refine((C.f112 B hB1 hB2 path (i48:Int) v54 e55)).goW (by first|simp[h49,z51,h52];done|simp_all) (by simp) ?_
    have hF:=ob hF;obtain⟨x56,e57,hF⟩:=hF
    have le57:=ZD e57
    repeat first|refine cg ?_|simp -dsimp[h49,z51,h52,↓e57]
    have hF:=ob hF;obtain⟨v58,e59,hF⟩:=hF
    refine((ih_f115 out47 x56 v54 v58 e59)).go (pl [0]) (by simp) (by simp) (ZAn _ rfl (by decide)) (by intro i hi hi';simp at hi hi';first|omega|(subst hi';simp[pl])) (by first|simp[h49,z51,h52,↓e57];done|simp_all) (by first|simp[h49,z51,h52,↓e57];done|simp_all) ?_
    have w60:i64.wrap ((i48:Int)+1)=(i48:Int)+1:=ZE (by omega) (by omega)
    repeat first|refine cg ?_|simp -dsimp[h49,z51,h52,↓e57,w60]
    refine aG _ ?_ ((ih_f118 p path v58 (i48+1) o hF) _ rfl _ hq)
    exact(gT (by simp) (by first|simp -dsimp[h49,z51,h52,↓e57,w60];done|simp_all))
   ·have hF:=ob hF;obtain⟨x61,e62,hF⟩:=hF
    have le62:=ZD e62
    repeat first|refine cg ?_|simp -dsimp[h49,z51,h52,q53,↓e62]
    have hF:=ob hF;obtain⟨v63,e64,hF⟩:=hF
    refine((ih_f115 out47 x61 path v63 e64)).go (pl [0]) (by simp) (by simp) (ZAn _ rfl (by decide)) (by intro i hi hi';simp at hi hi';first|omega|(subst hi';simp[pl])) (by first|simp[h49,z51,h52,q53,↓e62];done|simp_all) (by first|simp[h49,z51,h52,q53,↓e62];done|simp_all) ?_
    have w65:i64.wrap ((i48:Int)+1)=(i48:Int)+1:=ZE (by omega) (by omega)
    repeat first|refine cg ?_|simp -dsimp[h49,z51,h52,q53,↓e62,w65]
    refine aG _ ?_ ((ih_f118 p path v63 (i48+1) o hF) _ rfl _ hq)
    exact(gT (by simp) (by first|simp -dsimp[h49,z51,h52,q53,↓e62,w65];done|simp_all))
  ·have z51:¬((i48:Int)<(p.kids.length:Int)):=auz
   cases hF
   repeat first|refine cg ?_|simp -dsimp[h49,q50,z51]
   refine lG _ (gT (by simp) (by first|simp -dsimp[h49,q50,z51];done|simp_all)) hq
theorem CC.f119 (list:List PathBind)(n:Nat):(∀(out4:List PathBind) (i:Nat) (o:List PathBind),F.f119 list n out4 i=some o->∀(c:Code),Zr [1,1,0,1,0,0,1,0,0,1,0,0] (ZI Tryd.f29)=some c->∀(Q:Exit->ASt->Prop),(Q (.exit 2) ⟨[(0,am PathBind.c list),(3,.own 0 (List.length (α:=PathBind) o)),(4,li (n:Int))],[.elems 2 (List.map PathBind.c o)]⟩)->ALoopU Tryd.prog B 0 37 (hold c .mk) ⟨[(0,am PathBind.c list),(3,.own 0 (List.length (α:=PathBind) out4)),(4,li (n:Int)),(5,li (i:Int))],[.elems 2 (List.map PathBind.c out4)]⟩ (hold Q .mk)):=by
 refine F.f119.partial_correctness list n
  _
  ?_
 ·intro _f_f119 ih_f119 out4 i o hF
  intro c hc Q hq
  obtain rfl:c=_:=ZQ hc rfl
  refine kN fun hk hs=> ?_
  have b0:=hk 0
  simp -dsimp at b0
  have d0:=hs 0 _ rfl
  simp -dsimp[Blk.bnd]at d0
  clear hk hs
  refine eN ?_
  repeat first|refine cg ?_|simp -dsimp
  revert hF;refine aS ?_ ?_<;>intro h5 q6 hF
  ·have z7:((i:Int)<(list.length:Int)):=auz
   have hF:=ob hF;obtain⟨x,e8,hF⟩:=hF
   have le8:=ZD e8
   repeat first|refine cg ?_|simp -dsimp[h5,z7,↓e8]
   revert hF;refine aS ?_ ?_<;>intro h9 q10 hF
   ·have hF:=oc hF;obtain⟨c11,hF⟩:=hF
    have hF:=oc hF;obtain⟨c12,hF⟩:=hF
    have w13:i64.wrap ((i:Int)+1)=(i:Int)+1:=ZE (by omega) (by omega)
    repeat first|refine cg ?_|simp -dsimp[h5,z7,↓e8,h9,w13]
    refine aG _ ?_ ((ih_f119 (out4++[(⟨(n:Int),x.path⟩:PathBind)]) (i+1) o hF) _ rfl _ hq)
    exact(gT (by simp) (by first|simp -dsimp[h5,z7,↓e8,h9,w13];done|simp_all))
   ·have w14:i64.wrap ((i:Int)+1)=(i:Int)+1:=ZE (by omega) (by omega)
    repeat first|refine cg ?_|simp -dsimp[h5,z7,↓e8,h9,q10,w14]
    refine aG _ ?_ ((ih_f119 out4 (i+1) o hF) _ rfl _ hq)
    exact(gT (by simp) (by first|simp -dsimp[h5,z7,↓e8,h9,q10,w14];done|simp_all))
  ·have z7:¬((i:Int)<(list.length:Int)):=auz
   cases hF
   repeat first|refine cg ?_|simp -dsimp[h5,q6,z7]
   refine lG _ (gT (by simp) (by first|simp -dsimp[h5,q6,z7];done|simp_all)) hq
theorem CC.f120 (list:List PathBind):(∀(out:List PathBind) (n:Nat) (o:List PathBind),F.f120 list out n=some o->∀(c:Code),Zr [1,1,0,1,0,0] (ZI Tryd.f29)=some c->∀(Q:Exit->ASt->Prop),(Q (.exit 0) ⟨[(3,.own 0 (List.length (α:=PathBind) o))],[.elems 2 (List.map PathBind.c o)]⟩)->ALoopU Tryd.prog B 0 37 (hold c .mk) ⟨[(0,am PathBind.c list),(3,.own 0 (List.length (α:=PathBind) out)),(4,li (n:Int))],[.elems 2 (List.map PathBind.c out)]⟩ (hold Q .mk)):=by
 refine F.f120.partial_correctness list
  _
  ?_
 ·intro _f_f120 ih_f120 out n o hF
  intro c hc Q hq
  obtain rfl:c=_:=ZQ hc rfl
  refine kN fun hk hs=> ?_
  have b0:=hk 0
  simp -dsimp at b0
  have d0:=hs 0 _ rfl
  simp -dsimp[Blk.bnd]at d0
  clear hk hs
  refine eN ?_
  repeat first|refine cg ?_|simp -dsimp
  revert hF;refine aS ?_ ?_<;>intro h1 q2 hF
  ·have z3:((n:Int)<=5):=auz
   repeat first|refine cg ?_|simp -dsimp[h1,z3]
   have hF:=ob hF;obtain⟨o',ho15,hF⟩:=hF
   refine ALoop.goU _ ?_ (((CC.f119 B hB1 hB2 list n) out 0 o' ho15) _ rfl _ ?_)
   ·exact(gT (by simp) (by first|simp -dsimp[h1,z3];done|simp_all))
   have hF:=oc hF;obtain⟨c16,hF⟩:=hF
   have w17:i64.wrap ((n:Int)+1)=(n:Int)+1:=ZE (by omega) (by omega)
   repeat first|refine cg ?_|simp -dsimp[w17]
   refine aG _ ?_ ((ih_f120 o' (n+1) o hF) _ rfl _ hq)
   exact(gT (by simp) (by first|simp -dsimp[w17];done|simp_all))
  ·have z3:¬((n:Int)<=5):=auz
   cases hF
   repeat first|refine cg ?_|simp -dsimp[h1,q2,z3]
   refine lG _ (gT (by simp) (by first|simp -dsimp[h1,q2,z3];done|simp_all)) hq
theorem C.f121 (list:List PathBind)(r:List PathBind)(hF:F.f121 list=some r):PureCall Tryd.prog B 29 [am PathBind.c list] (am PathBind.c r):=by
 unfold F.f121 at hF
 refine pE Tryd.func29 (by kernel_rfl) rfl Tryd.ntmps29 (by simp) (by simp) ?_
 repeat first|refine cg ?_|simp -dsimp
 have hF:=ob hF;obtain⟨o'19,ho18,hF⟩:=hF
 refine ALoop.goU _ ?_ (((CC.f120 B hB1 hB2 list) [] 0 o'19 ho18) _ rfl _ ?_)
 ·exact(gT (by simp) (by simp -dsimp))
 cases hF
 repeat first|refine cg ?_|simp -dsimp
 all_goals(try first|omega|rfl)
theorem CC.f122 (list:List Clause)(out:List Step)(i:Nat)(v:List Pattern)(k:Nat):(∀(out19:List Step) (n:Nat) (o:List Step),F.f122 list out i v k out19 n=some o->∀(c:Code),Zr [1,1,0,1,0,0,1,0,0,1,1,0,1,0,0,1,0,0,1,1,1,1,0,0] (ZI Tryd.f17)=some c->∀(Q:Exit->ASt->Prop),(Q (.exit 4) ⟨[(0,am Clause.c list),(3,.own 0 (List.length (α:=Step) o)),(4,li (i:Int)),(5,.own 1 (List.length (α:=Pattern) v)),(6,li (out.length:Int)),(7,li (k:Int))],[.elems 8 (List.map Step.c o),.elems 6 (List.map Pattern.c v)]⟩)->ALoopU Tryd.prog B 0 87 (hold c .mk) ⟨[(0,am Clause.c list),(3,.own 0 (List.length (α:=Step) out19)),(4,li (i:Int)),(5,.own 1 (List.length (α:=Pattern) v)),(6,li (out.length:Int)),(7,li (k:Int)),(9,li (n:Int))],[.elems 8 (List.map Step.c out19),.elems 6 (List.map Pattern.c v)]⟩ (hold Q .mk)):=by
 refine F.f122.partial_correctness list out i v k
  _
  ?_
 ·intro _f_f122 ih_f122 out19 n o hF
  intro c hc Q hq
  obtain rfl:c=_:=ZQ hc rfl
  refine kN fun hk hs=> ?_
  have b0:=hk 0
  simp -dsimp at b0
  have d0:=hs 0 _ rfl
  simp -dsimp[Blk.bnd]at d0
  have d1:=hs 1 _ rfl
  simp -dsimp[Blk.bnd]at d1
  clear hk hs
  refine eN ?_
  repeat first|refine cg ?_|simp -dsimp
  revert hF;refine aS ?_ ?_<;>intro h20 q21 hF
  ·have z22:((n:Int)<(out19.length:Int)):=auz
   have hF:=ob hF;obtain⟨x23,e24,hF⟩:=hF
   have le24:=ZD e24
   have w25:i64.wrap ((n:Int)+1)=(n:Int)+1:=ZE (by omega) (by omega)
   repeat first|refine cg ?_|simp -dsimp[h20,z22,↓e24,w25]
   refine aG _ ?_ ((ih_f122 (out19.set n (⟨x23.op,x23.path,x23.ctor,x23.n,x23.m,x23.clause,x23.binds,(out19.length:Int)⟩:Step)) (n+1) o hF) _ rfl _ hq)
   exact(gT (by simp) (by first|simp -dsimp[h20,z22,↓e24,w25];done|simp_all))
  ·have z22:¬((n:Int)<(out19.length:Int)):=auz
   cases hF
   repeat first|refine cg ?_|simp -dsimp[h20,q21,z22]
   refine lG _ (gT (by simp) (by first|simp -dsimp[h20,q21,z22];done|simp_all)) hq
theorem CC.f123 (list:List Clause)(out:List Step)(i:Nat)(v:List Pattern):(∀(out6:List Step) (k:Nat) (o:List Step),F.f123 list out i v out6 k=some o->∀(c:Code),Zr [1,1,0,1,0,0,1,0,0,1,1,0,1,0,0] (ZI Tryd.f17)=some c->∀(Q:Exit->ASt->Prop),(Q (.exit 2) ⟨[(0,am Clause.c list),(3,.own 0 (List.length (α:=Step) o)),(4,li (i:Int)),(6,li (out.length:Int))],[.elems 8 (List.map Step.c o)]⟩)->ALoopU Tryd.prog B 0 87 (hold c .mk) ⟨[(0,am Clause.c list),(3,.own 0 (List.length (α:=Step) out6)),(4,li (i:Int)),(5,.own 1 (List.length (α:=Pattern) v)),(6,li (out.length:Int)),(7,li (k:Int))],[.elems 8 (List.map Step.c out6),.elems 6 (List.map Pattern.c v)]⟩ (hold Q .mk)):=by
 refine F.f123.partial_correctness list out i v
  _
  ?_
 ·intro _f_f123 ih_f123 out6 k o hF
  intro c hc Q hq
  obtain rfl:c=_:=ZQ hc rfl
  refine kN fun hk hs=> ?_
  have b0:=hk 0
  simp -dsimp at b0
  have d0:=hs 0 _ rfl
  simp -dsimp[Blk.bnd]at d0
  have d1:=hs 1 _ rfl
  simp -dsimp[Blk.bnd]at d1
  clear hk hs
  refine eN ?_
  repeat first|refine cg ?_|simp -dsimp
  revert hF;refine aS ?_ ?_<;>intro h7 q8 hF
  ·have z9:((k:Int)<(v.length:Int)):=auz
   have hF:=ob hF;obtain⟨x10,e11,hF⟩:=hF
   have le11:=ZD e11
   repeat first|refine cg ?_|simp -dsimp[h7,z9,↓e11]
   have hF:=ob hF;obtain⟨v12,e13,hF⟩:=hF
   refine(((CC.f113 B hB1 hB2).1 out6 x10 [] v12 e13)).go (pl [0]) (by simp) (by simp) (ZAn _ rfl (by decide)) (by intro i hi hi';simp at hi hi';first|omega|(subst hi';simp[pl])) (by first|simp[h7,z9,↓e11];done|simp_all) (by first|simp[h7,z9,↓e11];done|simp_all) ?_
   repeat first|refine cg ?_|simp -dsimp[h7,z9,↓e11]
   have hF:=ob hF;obtain⟨v14,e15,hF⟩:=hF
   refine ACall.nilArg 0 2 (by simp) ?_
   repeat first|refine cg ?_|simp -dsimp[h7,z9,↓e11]
   refine(((CC.f115 B hB1 hB2).1 [] x10 [] v14 e15)).go (pl [2]) (by simp) (by simp) (ZAn _ rfl (by decide)) (by intro i hi hi';simp at hi hi';first|omega|(subst hi';simp[pl])) (by first|simp[h7,z9,↓e11];done|simp_all) (by first|simp[h7,z9,↓e11];done|simp_all) ?_
   repeat first|refine cg ?_|simp -dsimp[h7,z9,↓e11]
   have hF:=ob hF;obtain⟨v16,e17,hF⟩:=hF
   refine ACall.frz ?_ ((C.f121 B hB1 hB2 v14 v16 e17)).ent
   repeat first|refine cg ?_|simp -dsimp[h7,z9,↓e11]
   refine((C.f121 B hB1 hB2 v14 v16 e17)).goW (by first|simp[h7,z9,↓e11];done|simp_all) (by simp) ?_
   have hF:=oc hF;obtain⟨c18,hF⟩:=hF
   repeat first|refine cg ?_|simp -dsimp[h7,z9,↓e11]
   have hF:=ob hF;obtain⟨o',ho26,hF⟩:=hF
   refine ALoop.goU _ ?_ (((CC.f122 B hB1 hB2 list out i v k) (v12++[(⟨2,[],0,0,0,(i:Int),v16,0⟩:Step)]) out6.length o' ho26) _ rfl _ ?_)
   ·exact(gT (by simp) (by first|simp -dsimp[h7,z9,↓e11];done|simp_all))
   have hF:=oc hF;obtain⟨c27,hF⟩:=hF
   have w28:i64.wrap ((k:Int)+1)=(k:Int)+1:=ZE (by omega) (by omega)
   repeat first|refine cg ?_|simp -dsimp[w28]
   refine aG _ ?_ ((ih_f123 o' (k+1) o hF) _ rfl _ hq)
   exact(gT (by simp) (by first|simp -dsimp[w28];done|simp_all))
  ·have z9:¬((k:Int)<(v.length:Int)):=auz
   cases hF
   repeat first|refine cg ?_|simp -dsimp[h7,q8,z9]
   refine lG _ (gT (by simp) (by first|simp -dsimp[h7,q8,z9];done|simp_all)) hq
theorem CC.f124 (list:List Clause)(i:Nat):(∀(out31:List Step) (n32:Nat) (o:List Step),F.f124 list i out31 n32=some o->∀(c:Code),Zr [1,1,0,1,0,0,1,0,0,1,1,1,1,0,0] (ZI Tryd.f17)=some c->∀(Q:Exit->ASt->Prop),(Q (.exit 6) ⟨[(0,am Clause.c list),(3,.own 0 (List.length (α:=Step) o)),(4,li (i:Int))],[.elems 8 (List.map Step.c o)]⟩)->ALoopU Tryd.prog B 0 87 (hold c .mk) ⟨[(0,am Clause.c list),(3,.own 0 (List.length (α:=Step) out31)),(4,li (i:Int)),(10,li (n32:Int))],[.elems 8 (List.map Step.c out31)]⟩ (hold Q .mk)):=by
 refine F.f124.partial_correctness list i
  _
  ?_
 ·intro _f_f124 ih_f124 out31 n32 o hF
  intro c hc Q hq
  obtain rfl:c=_:=ZQ hc rfl
  refine kN fun hk hs=> ?_
  have b0:=hk 0
  simp -dsimp at b0
  have d0:=hs 0 _ rfl
  simp -dsimp[Blk.bnd]at d0
  clear hk hs
  refine eN ?_
  repeat first|refine cg ?_|simp -dsimp
  revert hF;refine aS ?_ ?_<;>intro h33 q34 hF
  ·have z35:((n32:Int)<(out31.length:Int)):=auz
   have hF:=ob hF;obtain⟨x36,e37,hF⟩:=hF
   have le37:=ZD e37
   repeat first|refine cg ?_|simp -dsimp[h33,z35,↓e37]
   revert hF;refine aS ?_ ?_<;>intro h38 q39 hF
   ·have w40:i64.wrap ((n32:Int)+1)=(n32:Int)+1:=ZE (by omega) (by omega)
    repeat first|refine cg ?_|simp -dsimp[h33,z35,↓e37,h38,w40]
    refine aG _ ?_ ((ih_f124 (out31.set n32 (⟨x36.op,x36.path,x36.ctor,x36.n,x36.m,x36.clause,x36.binds,(out31.length:Int)⟩:Step)) (n32+1) o hF) _ rfl _ hq)
    exact(gT (by simp) (by first|simp -dsimp[h33,z35,↓e37,h38,w40];done|simp_all))
   ·have w41:i64.wrap ((n32:Int)+1)=(n32:Int)+1:=ZE (by omega) (by omega)
    repeat first|refine cg ?_|simp -dsimp[h33,z35,↓e37,h38,q39,w41]
    refine aG _ ?_ ((ih_f124 out31 (n32+1) o hF) _ rfl _ hq)
    exact(gT (by simp) (by first|simp -dsimp[h33,z35,↓e37,h38,q39,w41];done|simp_all))
  ·have z35:¬((n32:Int)<(out31.length:Int)):=auz
   cases hF
   repeat first|refine cg ?_|simp -dsimp[h33,q34,z35]
   refine lG _ (gT (by simp) (by first|simp -dsimp[h33,q34,z35];done|simp_all)) hq
theorem CC.f125 (list:List Clause):(∀(out:List Step) (i:Nat) (o:List Step),F.f125 list out i=some o->∀(c:Code),Zr [1,1,0,1,0,0] (ZI Tryd.f17)=some c->∀(Q:Exit->ASt->Prop),(Q (.exit 0) ⟨[(3,.own 0 (List.length (α:=Step) o))],[.elems 8 (List.map Step.c o)]⟩)->ALoopU Tryd.prog B 0 87 (hold c .mk) ⟨[(0,am Clause.c list),(3,.own 0 (List.length (α:=Step) out)),(4,li (i:Int))],[.elems 8 (List.map Step.c out)]⟩ (hold Q .mk)):=by
 refine F.f125.partial_correctness list
  _
  ?_
 ·intro _f_f125 ih_f125 out i o hF
  intro c hc Q hq
  obtain rfl:c=_:=ZQ hc rfl
  refine kN fun hk hs=> ?_
  have b0:=hk 0
  simp -dsimp at b0
  have d0:=hs 0 _ rfl
  simp -dsimp[Blk.bnd]at d0
  clear hk hs
  refine eN ?_
  repeat first|refine cg ?_|simp -dsimp
  revert hF;refine aS ?_ ?_<;>intro h1 q2 hF
  ·have z3:((i:Int)<(list.length:Int)):=auz
   have hF:=ob hF;obtain⟨x,e4,hF⟩:=hF
   have le4:=ZD e4
   repeat first|refine cg ?_|simp -dsimp[h1,z3,↓e4]
   have hF:=ob hF;obtain⟨v,e5,hF⟩:=hF
   refine(((CC.spec_l3Split__o0 B hB1 hB2).1 x.pat v e5)).go (pl [1]) (by simp) (by simp) (by intro i j hi;simp at hi) (by intro i hi hi';simp at hi hi';have hi:i=0:=(by omega);rcases hi with rfl<;>simp[pl]) (by first|simp[h1,z3,↓e4];done|simp_all) (by first|simp[h1,z3,↓e4];done|simp_all) ?_
   repeat first|refine cg ?_|simp -dsimp[h1,z3,↓e4]
   have hF:=ob hF;obtain⟨o'30,ho29,hF⟩:=hF
   refine ALoop.goU _ ?_ (((CC.f123 B hB1 hB2 list out i v) out 0 o'30 ho29) _ rfl _ ?_)
   ·exact(gT (by simp) (by first|simp -dsimp[h1,z3,↓e4];done|simp_all))
   repeat first|refine cg ?_|simp -dsimp
   have hF:=ob hF;obtain⟨o'43,ho42,hF⟩:=hF
   refine ALoop.goU _ ?_ (((CC.f124 B hB1 hB2 list i) o'30 out.length o'43 ho42) _ rfl _ ?_)
   ·exact(gT (by simp) (by simp -dsimp))
   have hF:=oc hF;obtain⟨c44,hF⟩:=hF
   have w45:i64.wrap ((i:Int)+1)=(i:Int)+1:=ZE (by omega) (by omega)
   repeat first|refine cg ?_|simp -dsimp[w45]
   refine aG _ ?_ ((ih_f125 o'43 (i+1) o hF) _ rfl _ hq)
   exact(gT (by simp) (by first|simp -dsimp[w45];done|simp_all))
  ·have z3:¬((i:Int)<(list.length:Int)):=auz
   cases hF
   repeat first|refine cg ?_|simp -dsimp[h1,q2,z3]
   refine lG _ (gT (by simp) (by first|simp -dsimp[h1,q2,z3];done|simp_all)) hq
theorem C.f126 (list:List Clause)(r:List Step)(hF:F.f126 list=some r):PureCall Tryd.prog B 17 [am Clause.c list] (am Step.c r):=by
 unfold F.f126 at hF
 refine pE Tryd.func17 (by kernel_rfl) rfl Tryd.ntmps17 (by simp) (by simp) ?_
 repeat first|refine cg ?_|simp -dsimp
 have hF:=ob hF;obtain⟨o'47,ho46,hF⟩:=hF
 refine ALoop.goU _ ?_ (((CC.f125 B hB1 hB2 list) [] 0 o'47 ho46) _ rfl _ ?_)
 ·exact(gT (by simp) (by simp -dsimp))
 have hF:=oc hF;obtain⟨c48,hF⟩:=hF
 cases hF
 repeat first|refine cg ?_|simp -dsimp
 all_goals(try first|omega|rfl)
theorem CC.f127 (list:List Clause):(∀(i:Nat) (o:Lo ((List Step)×Bool) Unit),F.f127 list i=some o->∀(c:Code),Zr [1,1,0,1,0,0] (ZI Tryd.f8)=some c->∀(Q:Exit->ASt->Prop),o.post (fun r=>∀st,ZCf Tryd.prog Tryd.f8 (fun r' _=>r'.le (.tup [am Step.c r.1,.lit (.bool r.2)])) .ret st->Q .ret st) (fun s=>Q (.exit 0) ⟨[(2,am Clause.c list)],[]⟩)->ALoopU Tryd.prog B 0 32 (hold c .mk) ⟨[(2,am Clause.c list),(8,li (i:Int))],[]⟩ (hold Q .mk)):=by
 refine F.f127.partial_correctness list
  _
  ?_
 ·intro _f_f127 ih_f127 i o hF
  intro c hc Q hq
  obtain rfl:c=_:=ZQ hc rfl
  refine kN fun hk hs=> ?_
  have b2:=hk 2
  simp -dsimp at b2
  clear hk hs
  refine eN ?_
  repeat first|refine cg ?_|simp -dsimp
  revert hF;refine aS ?_ ?_<;>intro h4 q5 hF
  ·have z6:((i:Int)<(list.length:Int)):=auz
   have hF:=ob hF;obtain⟨x,e7,hF⟩:=hF
   have le7:=ZD e7
   repeat first|refine cg ?_|simp -dsimp[h4,z6,↓e7]
   have hF:=ob hF;obtain⟨v8,e9,hF⟩:=hF
   refine(((CC.spec_l3Split__o0 B hB1 hB2).1 x.pat v8 e9)).go (pl [0]) (by simp) (by simp) (by intro i j hi;simp at hi) (by intro i hi hi';simp at hi hi';have hi:i=0:=(by omega);rcases hi with rfl<;>simp[pl]) (by first|simp[h4,z6,↓e7];done|simp_all) (by first|simp[h4,z6,↓e7];done|simp_all) ?_
   repeat first|refine cg ?_|simp -dsimp[h4,z6,↓e7]
   revert hF;refine aS ?_ ?_<;>intro h10 q11 hF
   ·have z12:(40<(v8.length:Int)):=auz
    cases hF
    repeat first|refine cg ?_|simp -dsimp[h4,z6,↓e7,h10,z12]
    refine lG _ (gR _) (hq _ ?_)
    repeat first|refine cg ?_|simp -dsimp[h4,z6,↓e7,h10,z12]
   ·have z12:¬(40<(v8.length:Int)):=auz
    have w13:i64.wrap ((i:Int)+1)=(i:Int)+1:=ZE (by omega) (by omega)
    repeat first|refine cg ?_|simp -dsimp[h4,z6,↓e7,h10,q11,z12,w13]
    refine aG _ ?_ ((ih_f127 (i+1) o hF) _ rfl _ hq)
    exact(gT (by simp) (by first|simp -dsimp[h4,z6,↓e7,h10,q11,z12,w13];done|simp_all))
  ·have z6:¬((i:Int)<(list.length:Int)):=auz
   cases hF
   repeat first|refine cg ?_|simp -dsimp[h4,q5,z6]
   refine lG _ (gT (by simp) (by first|simp -dsimp[h4,q5,z6];done|simp_all)) hq
theorem C.f128 (w:List Vl.Data)(t:Ty)(list:List Clause)(r:(List Step)×Bool)(hF:F.f128 w t list=some r):PureCall Tryd.prog B 8 [am Vl.Data.c w,.agg [li t.data,li t.index],am Clause.c list] (.tup [am Step.c r.1,.lit (.bool r.2)]):=by
 unfold F.f128 at hF
 refine pE Tryd.func8 (by kernel_rfl) rfl Tryd.ntmps8 (by simp) (by simp) ?_
 repeat first|refine cg ?_|simp -dsimp
 have hF:=ob hF;obtain⟨v,e1,hF⟩:=hF
 refine((C.f104 B hB1 hB2 w t list v e1)).goW (by simp) (by simp) ?_
 repeat first|refine cg ?_|simp -dsimp
 revert hF;refine aN (fun h2 q3 hF=> ?_) (fun h2 q3 hF=> ?_)
 ·cases hF
  repeat first|refine cg ?_|simp -dsimp[h2,q3]
  all_goals(try first|omega|rfl)
 ·repeat first|refine cg ?_|simp -dsimp[h2,q3]
  have hF:=ob hF;obtain⟨o',ho14,hF⟩:=hF
  refine ALoop.goU _ ?_ (((CC.f127 B hB1 hB2 list) 0 o' ho14) _ rfl _ ?_)
  ·exact(gT (by simp) (by first|simp -dsimp[h2,q3];done|simp_all))
  rcases o' with r0|sx
  ·dsimp only at hF
   cases hF
   intro st h
   simpa using h
  ·dsimp only at hF
   repeat first|refine cg ?_|simp -dsimp
   have hF:=ob hF;obtain⟨v15,e16,hF⟩:=hF
   refine((C.f126 B hB1 hB2 list v15 e16)).goW (by simp) (by simp) ?_
   cases hF
   repeat first|refine cg ?_|simp -dsimp
   all_goals(try first|omega|rfl)
theorem C.f129 (code:List Int)(r:List Step)(hF:F.f129 code=some r):PureCall Tryd.prog B 4 [am cU code] (am Step.c r):=by
 unfold F.f129 at hF
 refine pE Tryd.func4 (by kernel_rfl) rfl Tryd.ntmps4 (by simp) (by simp) ?_
 repeat first|refine cg ?_|simp -dsimp
 have hF:=ob hF;obtain⟨v,e1,hF⟩:=hF
 refine((C.f98 B hB1 hB2 code v e1)).goW (by simp) (by simp) ?_
 repeat first|refine cg ?_|simp -dsimp
 have hF:=ob hF;obtain⟨v2,e3,hF⟩:=hF
 refine((C.f128 B hB1 hB2 v.1 v.2.1 v.2.2 v2 e3)).goW (by simp) (by simp) ?_
 cases hF
 repeat first|refine cg ?_|simp -dsimp
 all_goals(try first|omega|rfl)
theorem C.f130 (i:Int)(r:ByteArray)(hF:F.f130 i=some r):PureCall Tryd.prog B 9 [li i] (.lit (.string r)):=by
 unfold F.f130 at hF
 have hF:=oc hF;obtain⟨c1,hF⟩:=hF
 cases hF
 exact ZHJ Tryd.laysM171 ⟨Tryd.f9,Tryd.func9,by kernel_rfl,by kernel_rfl⟩ (by kernel_rfl) (by rfl) hB2.2 c1.1 c1.2
theorem CC.f131 (path:List Int):(∀(out:ByteArray) (i:Nat) (o:ByteArray),F.f131 path out i=some o->∀(c:Code),Zr [1,1,0,1,0,0] (ZI Tryd.f11)=some c->∀(Q:Exit->ASt->Prop),(Q (.exit 0) ⟨[(3,.lit (.string o))],[]⟩)->ALoopU Tryd.prog B 0 19 (hold c .mk) ⟨[(3,.lit (.string out)),(6,am cI path),(7,li (path.length:Int)),(8,li (i:Int))],[]⟩ (hold Q .mk)):=by
 refine F.f131.partial_correctness path
  _
  ?_
 ·intro _f_f131 ih_f131 out i o hF
  intro c hc Q hq
  obtain rfl:c=_:=ZQ hc rfl
  refine kN fun hk hs=> ?_
  have b6:=hk 6
  simp -dsimp at b6
  clear hk hs
  refine eN ?_
  repeat first|refine cg ?_|simp -dsimp
  revert hF;refine aS ?_ ?_<;>intro h1 q2 hF
  ·have z3:((i:Int)<(path.length:Int)):=auz
   have hF:=ob hF;obtain⟨x,e4,hF⟩:=hF
   have le4:=ZD e4
   repeat first|refine cg ?_|simp -dsimp[h1,z3,↓e4]
   have hF:=ob hF;obtain⟨v,e5,hF⟩:=hF
   refine((C.f130 B hB1 hB2 x v e5)).goW (by first|simp[h1,z3,↓e4];done|simp_all) (by simp) ?_
   have hF:=oc hF;obtain⟨c6,hF⟩:=hF
   have hF:=oc hF;obtain⟨c7,hF⟩:=hF
   have dc7:=c7;simp only[ByteArray.size_append]at dc7
   have w8:i64.wrap ((i:Int)+1)=(i:Int)+1:=ZE (by omega) (by omega)
   repeat first|refine cg ?_|simp -dsimp[h1,z3,↓e4,w8]
   refine aG _ ?_ ((ih_f131 (out++((⟨#[46]⟩:ByteArray)++v)) (i+1) o hF) _ rfl _ hq)
   exact(gT (by simp) (by first|simp -dsimp[h1,z3,↓e4,w8];done|simp_all))
  ·have z3:¬((i:Int)<(path.length:Int)):=auz
   cases hF
   repeat first|refine cg ?_|simp -dsimp[h1,q2,z3]
   refine lG _ (gT (by simp) (by first|simp -dsimp[h1,q2,z3];done|simp_all)) hq
theorem C.f132 (path:List Int)(r:ByteArray)(hF:F.f132 path=some r):PureCall Tryd.prog B 11 [am cI path] (.lit (.string r)):=by
 unfold F.f132 at hF
 refine pE Tryd.func11 (by kernel_rfl) rfl Tryd.ntmps11 (by simp) (by simp) ?_
 repeat first|refine cg ?_|simp -dsimp
 have hF:=ob hF;obtain⟨o',ho9,hF⟩:=hF
 refine ALoop.goU _ ?_ (((CC.f131 B hB1 hB2 path) (⟨#[118]⟩:ByteArray) 0 o' ho9) _ rfl _ ?_)
 ·exact(gT (by simp) (by simp -dsimp))
 cases hF
 repeat first|refine cg ?_|simp -dsimp
 all_goals(try first|omega|rfl)
theorem CC.f133 (list:List Step)(i:Nat)(x:Step):(∀(out47:List Int) (i48:Nat) (o:List Int),F.f133 list i x out47 i48=some o->∀(c:Code),Zr [1,1,0,1,0,0,1,1,0,0,1,1,0,1,1,1,0,1,0,1,0,0] (ZI Tryd.f5)=some c->∀(Q:Exit->ASt->Prop),(Q (.exit 3) ⟨[(3,.ptr 0 0),(5,.ptr 2 0),(9,am Step.c list),(10,li (list.length:Int)),(11,li (i:Int))],[.tcells (some 37) [.junk,.own 1 (List.length (α:=Int) o)],.telems (some 5) 1 (List.map cU o),.cells [li x.op,am cI x.path,li x.ctor,li x.n,li x.m,li x.clause,am PathBind.c x.binds,li x.to]]⟩)->ALoopU Tryd.prog B 0 82 (hold c .mk) ⟨[(3,.ptr 0 0),(5,.ptr 2 0),(9,am Step.c list),(10,li (list.length:Int)),(11,li (i:Int)),(57,am PathBind.c x.binds),(58,li (x.binds.length:Int)),(59,li (i48:Int))],[.tcells (some 37) [.junk,.own 1 (List.length (α:=Int) out47)],.telems (some 5) 1 (List.map cU out47),.cells [li x.op,am cI x.path,li x.ctor,li x.n,li x.m,li x.clause,am PathBind.c x.binds,li x.to]]⟩ (hold Q .mk)):=by
 refine F.f133.partial_correctness list i x
  _
  ?_
 ·intro _f_f133 ih_f133 out47 i48 o hF
  intro c hc Q hq
  obtain rfl:c=_:=ZQ hc rfl
  refine kN fun hk hs=> ?_
  have b9:=hk 9
  simp -dsimp at b9
  have b57:=hk 57
  simp -dsimp at b57
  have d1:=hs 1 _ rfl
  simp -dsimp[Blk.bnd]at d1
  have d2:=hs 2 _ rfl
  simp -dsimp[Blk.bnd]at d2
  clear hk hs
  refine eN ?_
  repeat first|refine cg ?_|simp -dsimp
  revert hF;refine aS ?_ ?_<;>intro h49 q50 hF
  ·have z51:((i48:Int)<(x.binds.length:Int)):=auz
   have hF:=ob hF;obtain⟨x52,e53,hF⟩:=hF
   have le53:=ZD e53
   repeat first|refine cg ?_|simp -dsimp[h49,z51,↓e53]
   refine ADraw.eff [10] [(0,0),(0,0),(0,1),(0,0),(0,0),(0,0),(0,0),(0,1),(0,0),(0,1)] [1,1,1,1,1,1,1,1,1,1] follows (by kernel_rfl) (by kernel_rfl) (by kernel_rfl) ?_
   repeat first|refine cg ?_|simp -dsimp[h49,z51,↓e53]
   have hF:=ob hF;obtain⟨v54,e55,hF⟩:=hF
   refine((C.f130 B hB1 hB2 x52.var v54 e55)).pgoW (by first|simp[h49,z51,↓e53];done|simp_all) (by simp) ?_
   have hF:=oc hF;obtain⟨c56,hF⟩:=hF
   have hF:=oc hF;obtain⟨c57,hF⟩:=hF
   have dc57:=c57;simp only[ByteArray.size_append]at dc57
   repeat first|refine cg ?_|simp -dsimp[h49,z51,↓e53]
   have hF:=ob hF;obtain⟨v58,e59,hF⟩:=hF
   refine((C.f132 B hB1 hB2 x52.path v58 e59)).pgoW (by first|simp[h49,z51,↓e53];done|simp_all) (by simp) ?_
   have hF:=oc hF;obtain⟨c60,hF⟩:=hF
   have dc60:=c60;simp only[ByteArray.size_append]at dc60
   have hF:=oc hF;obtain⟨c61,hF⟩:=hF
   have dc61:=c61;simp only[List.length_append,ByteArray.size_append]at dc61
   repeat first|refine cg ?_|simp -dsimp[h49,z51,↓e53]
   refine ECallA.bldW Tryd.bldW ⟨Tryd.f10,Tryd.func10,by kernel_rfl,by kernel_rfl⟩ 0 1 (xs:=out47) (by first|rfl|(simp;done)|(simp[h49,z51,↓e53];done)) (by first|rfl|(simp;done)|(simp[h49,z51,↓e53];done)) (by first|omega|simpa using c61|(simp;omega)) (by omega) ?_
   have w62:i64.wrap ((i48:Int)+1)=(i48:Int)+1:=ZE (by omega) (by omega)
   repeat first|refine cg ?_|simp -dsimp[h49,z51,↓e53,w62]
   refine aG _ ?_ ((ih_f133 (out47++ZY ((((⟨#[32]⟩:ByteArray)++v54)++(⟨#[61]⟩:ByteArray))++v58)) (i48+1) o hF) _ rfl _ hq)
   exact(gT (by simp) (by first|simp -dsimp[h49,z51,↓e53,w62];done|simp_all))
  ·have z51:¬((i48:Int)<(x.binds.length:Int)):=auz
   cases hF
   repeat first|refine cg ?_|simp -dsimp[h49,q50,z51]
   refine lG _ (gT (by simp) (by first|simp -dsimp[h49,q50,z51];done|simp_all)) hq
theorem CC.f134 (list:List Step):(∀(out:List Int) (i:Nat) (o:List Int),F.f134 list out i=some o->∀(c:Code),Zr [1,1,0,1,0,0] (ZI Tryd.f5)=some c->∀(Q:Exit->ASt->Prop),(Q (.exit 0) ⟨[(3,.ptr 0 0)],[.tcells (some 37) [.junk,.own 1 (List.length (α:=Int) o)],.telems (some 5) 1 (List.map cU o)]⟩)->ALoopU Tryd.prog B 0 82 (hold c .mk) ⟨[(3,.ptr 0 0),(9,am Step.c list),(10,li (list.length:Int)),(11,li (i:Int))],[.tcells (some 37) [.junk,.own 1 (List.length (α:=Int) out)],.telems (some 5) 1 (List.map cU out)]⟩ (hold Q .mk)):=by
 refine F.f134.partial_correctness list
  _
  ?_
 ·intro _f_f134 ih_f134 out i o hF
  intro c hc Q hq
  obtain rfl:c=_:=ZQ hc rfl
  refine kN fun hk hs=> ?_
  have b9:=hk 9
  simp -dsimp at b9
  have d1:=hs 1 _ rfl
  simp -dsimp[Blk.bnd]at d1
  clear hk hs
  refine eN ?_
  repeat first|refine cg ?_|simp -dsimp
  revert hF;refine aS ?_ ?_<;>intro h1 q2 hF
  ·have z3:((i:Int)<(list.length:Int)):=auz
   have hF:=ob hF;obtain⟨x,e4,hF⟩:=hF
   have le4:=ZD e4
   repeat first|refine cg ?_|simp -dsimp[h1,z3,↓e4]
   revert hF;refine aS ?_ ?_<;>intro h5 q6 hF
   ·repeat first|refine cg ?_|simp -dsimp[h1,z3,↓e4,h5]
    have hF:=ob hF;obtain⟨v,e7,hF⟩:=hF
    refine((C.f130 B hB1 hB2 x.ctor v e7)).goW (by first|simp[h1,z3,↓e4,h5];done|simp_all) (by simp) ?_
    have hF:=oc hF;obtain⟨c8,hF⟩:=hF
    repeat first|refine cg ?_|simp -dsimp[h1,z3,↓e4,h5]
    revert hF;refine aS ?_ ?_<;>intro h9 q10 hF
    ·repeat first|refine cg ?_|simp -dsimp[h1,z3,↓e4,h5,h9]
     refine ADraw.simple follows (by kernel_rfl) (by kernel_rfl) ?_
     repeat first|refine cg ?_|simp -dsimp[h1,z3,↓e4,h5,h9]
     have hF:=ob hF;obtain⟨v11,e12,hF⟩:=hF
     refine((C.f130 B hB1 hB2 x.n v11 e12)).pgoW (by first|simp[h1,z3,↓e4,h5,h9];done|simp_all) (by simp) ?_
     have hF:=oc hF;obtain⟨c13,hF⟩:=hF
     repeat first|refine cg ?_|simp -dsimp[h1,z3,↓e4,h5,h9]
     have hF:=ob hF;obtain⟨v14,e15,hF⟩:=hF
     refine((C.f130 B hB1 hB2 x.m v14 e15)).pgoW (by first|simp[h1,z3,↓e4,h5,h9];done|simp_all) (by simp) ?_
     have hF:=oc hF;obtain⟨c16,hF⟩:=hF
     have dc16:=c16;simp only[ByteArray.size_append]at dc16
     repeat first|refine cg ?_|simp -dsimp[h1,z3,↓e4,h5,h9]
     refine ADraw.eff [10] [(0,0),(0,0),(0,1),(0,0),(0,0),(0,0),(0,0),(0,0),(0,0),(0,0),(0,1),(0,0),(0,0),(0,1)] [1,1,1,1,1,1,1,1,1,1,1,1,1,1] follows (by kernel_rfl) (by kernel_rfl) (by kernel_rfl) ?_
     repeat first|refine cg ?_|simp -dsimp[h1,z3,↓e4,h5,h9]
     have hF:=ob hF;obtain⟨v17,e18,hF⟩:=hF
     refine((C.f132 B hB1 hB2 x.path v17 e18)).pgoW (by first|simp[h1,z3,↓e4,h5,h9];done|simp_all) (by simp) ?_
     have hF:=oc hF;obtain⟨c19,hF⟩:=hF
     have hF:=oc hF;obtain⟨c20,hF⟩:=hF
     have dc20:=c20;simp only[ByteArray.size_append]at dc20
     have hF:=oc hF;obtain⟨c21,hF⟩:=hF
     have dc21:=c21;simp only[ByteArray.size_append]at dc21
     have hF:=oc hF;obtain⟨c22,hF⟩:=hF
     have dc22:=c22;simp only[ByteArray.size_append]at dc22
     repeat first|refine cg ?_|simp -dsimp[h1,z3,↓e4,h5,h9]
     have hF:=ob hF;obtain⟨v23,e24,hF⟩:=hF
     refine((C.f130 B hB1 hB2 x.to v23 e24)).pgoW (by first|simp[h1,z3,↓e4,h5,h9];done|simp_all) (by simp) ?_
     have hF:=oc hF;obtain⟨c25,hF⟩:=hF
     have dc25:=c25;simp only[ByteArray.size_append]at dc25
     have hF:=oc hF;obtain⟨c26,hF⟩:=hF
     have dc26:=c26;simp only[ByteArray.size_append]at dc26
     have hF:=oc hF;obtain⟨c27,hF⟩:=hF
     have dc27:=c27;simp only[List.length_append,ByteArray.size_append]at dc27
     repeat first|refine cg ?_|simp -dsimp[h1,z3,↓e4,h5,h9]
     refine ECallA.bldW Tryd.bldW ⟨Tryd.f10,Tryd.func10,by kernel_rfl,by kernel_rfl⟩ 0 1 (xs:=out) (by first|rfl|(simp;done)|(simp[h1,z3,↓e4,h5,h9];done)) (by first|rfl|(simp;done)|(simp[h1,z3,↓e4,h5,h9];done)) (by first|omega|simpa using c27|(simp;omega)) (by omega) ?_
     have w28:i64.wrap ((i:Int)+1)=(i:Int)+1:=ZE (by omega) (by omega)
     repeat first|refine cg ?_|simp -dsimp[h1,z3,↓e4,h5,h9,w28]
     refine aG _ ?_ ((ih_f134 (out++ZY (((((((⟨#[116,101,115,116,32]⟩:ByteArray)++v17)++(⟨#[32]⟩:ByteArray))++((v11++(⟨#[45]⟩:ByteArray))++v14))++(⟨#[32]⟩:ByteArray))++v23)++(⟨#[10]⟩:ByteArray))) (i+1) o hF) _ rfl _ hq)
     exact(gT (by simp) (by first|simp -dsimp[h1,z3,↓e4,h5,h9,w28];done|simp_all))
    ·repeat first|refine cg ?_|simp -dsimp[h1,z3,↓e4,h5,h9,q10]
     refine ADraw.eff [10] [(0,0),(0,0),(0,1),(0,0),(0,0),(0,0),(0,0),(0,0),(0,0),(0,0),(0,1),(0,0),(0,0),(0,1)] [1,1,1,1,1,1,1,1,1,1,1,1,1,1] follows (by kernel_rfl) (by kernel_rfl) (by kernel_rfl) ?_
     repeat first|refine cg ?_|simp -dsimp[h1,z3,↓e4,h5,h9,q10]
     have hF:=ob hF;obtain⟨v29,e30,hF⟩:=hF
     refine((C.f132 B hB1 hB2 x.path v29 e30)).pgoW (by first|simp[h1,z3,↓e4,h5,h9,q10];done|simp_all) (by simp) ?_
     have hF:=oc hF;obtain⟨c31,hF⟩:=hF
     have hF:=oc hF;obtain⟨c32,hF⟩:=hF
     have dc32:=c32;simp only[ByteArray.size_append]at dc32
     have hF:=oc hF;obtain⟨c33,hF⟩:=hF
     have dc33:=c33;simp only[ByteArray.size_append]at dc33
     have hF:=oc hF;obtain⟨c34,hF⟩:=hF
     have dc34:=c34;simp only[ByteArray.size_append]at dc34
     repeat first|refine cg ?_|simp -dsimp[h1,z3,↓e4,h5,h9,q10]
     have hF:=ob hF;obtain⟨v35,e36,hF⟩:=hF
     refine((C.f130 B hB1 hB2 x.to v35 e36)).pgoW (by first|simp[h1,z3,↓e4,h5,h9,q10];done|simp_all) (by simp) ?_
     have hF:=oc hF;obtain⟨c37,hF⟩:=hF
     have dc37:=c37;simp only[ByteArray.size_append]at dc37
     have hF:=oc hF;obtain⟨c38,hF⟩:=hF
     have dc38:=c38;simp only[ByteArray.size_append]at dc38
     have hF:=oc hF;obtain⟨c39,hF⟩:=hF
     have dc39:=c39;simp only[List.length_append,ByteArray.size_append]at dc39
     repeat first|refine cg ?_|simp -dsimp[h1,z3,↓e4,h5,h9,q10]
     refine ECallA.bldW Tryd.bldW ⟨Tryd.f10,Tryd.func10,by kernel_rfl,by kernel_rfl⟩ 0 1 (xs:=out) (by first|rfl|(simp;done)|(simp[h1,z3,↓e4,h5,h9,q10];done)) (by first|rfl|(simp;done)|(simp[h1,z3,↓e4,h5,h9,q10];done)) (by first|omega|simpa using c39|(simp;omega)) (by omega) ?_
     have w40:i64.wrap ((i:Int)+1)=(i:Int)+1:=ZE (by omega) (by omega)
     repeat first|refine cg ?_|simp -dsimp[h1,z3,↓e4,h5,h9,q10,w40]
     refine aG _ ?_ ((ih_f134 (out++ZY (((((((⟨#[116,101,115,116,32]⟩:ByteArray)++v29)++(⟨#[32]⟩:ByteArray))++((⟨#[35]⟩:ByteArray)++v))++(⟨#[32]⟩:ByteArray))++v35)++(⟨#[10]⟩:ByteArray))) (i+1) o hF) _ rfl _ hq)
     exact(gT (by simp) (by first|simp -dsimp[h1,z3,↓e4,h5,h9,q10,w40];done|simp_all))
   ·repeat first|refine cg ?_|simp -dsimp[h1,z3,↓e4,h5,q6]
    revert hF;refine aS ?_ ?_<;>intro h41 q42 hF
    ·repeat first|refine cg ?_|simp -dsimp[h1,z3,↓e4,h5,q6,h41]
     have hF:=ob hF;obtain⟨v43,e44,hF⟩:=hF
     refine((C.f130 B hB1 hB2 x.clause v43 e44)).goW (by first|simp[h1,z3,↓e4,h5,q6,h41];done|simp_all) (by simp) ?_
     have hF:=oc hF;obtain⟨c45,hF⟩:=hF
     have hF:=oc hF;obtain⟨c46,hF⟩:=hF
     have dc46:=c46;simp only[List.length_append,ByteArray.size_append]at dc46
     repeat first|refine cg ?_|simp -dsimp[h1,z3,↓e4,h5,q6,h41]
     refine ACall.bldW Tryd.bldW ⟨Tryd.f10,Tryd.func10,by kernel_rfl,by kernel_rfl⟩ 0 1 (xs:=out) (by first|rfl|(simp;done)|(simp[h1,z3,↓e4,h5,q6,h41];done)) (by first|rfl|(simp;done)|(simp[h1,z3,↓e4,h5,q6,h41];done)) (by first|omega|simpa using c46|(simp;omega)) (by omega) ?_
     repeat first|refine cg ?_|simp -dsimp[h1,z3,↓e4,h5,q6,h41]
     have hF:=ob hF;obtain⟨o',ho63,hF⟩:=hF
     refine ALoop.goU _ ?_ (((CC.f133 B hB1 hB2 list i x) (out++ZY ((⟨#[116,97,107,101,32]⟩:ByteArray)++v43)) 0 o' ho63) _ rfl _ ?_)
     ·exact(gT (by simp) (by first|simp -dsimp[h1,z3,↓e4,h5,q6,h41];done|simp_all))
     repeat first|refine cg ?_|simp -dsimp
     have hF:=ob hF;obtain⟨v64,e65,hF⟩:=hF
     refine((C.f130 B hB1 hB2 x.to v64 e65)).goW (by simp) (by simp) ?_
     have hF:=oc hF;obtain⟨c66,hF⟩:=hF
     have hF:=oc hF;obtain⟨c67,hF⟩:=hF
     have dc67:=c67;simp only[ByteArray.size_append]at dc67
     have hF:=oc hF;obtain⟨c68,hF⟩:=hF
     have dc68:=c68;simp only[List.length_append,ByteArray.size_append]at dc68
     repeat first|refine cg ?_|simp -dsimp
     refine ACall.bldW Tryd.bldW ⟨Tryd.f10,Tryd.func10,by kernel_rfl,by kernel_rfl⟩ 0 1 (xs:=o') (by first|rfl|simp) (by first|rfl|simp) (by first|omega|simpa using c68|(simp;omega)) (by omega) ?_
     have hF:=oc hF;obtain⟨c69,hF⟩:=hF
     have w70:i64.wrap ((i:Int)+1)=(i:Int)+1:=ZE (by omega) (by omega)
     repeat first|refine cg ?_|simp -dsimp[w70]
     refine aG _ ?_ ((ih_f134 (o'++ZY (((⟨#[32]⟩:ByteArray)++v64)++(⟨#[10]⟩:ByteArray))) (i+1) o hF) _ rfl _ hq)
     exact(gT (by simp) (by first|simp -dsimp[w70];done|simp_all))
    ·have hF:=oc hF;obtain⟨c71,hF⟩:=hF
     skip
     repeat first|refine cg ?_|simp -dsimp[h1,z3,↓e4,h5,q6,h41,q42]
     refine ACall.bldW Tryd.bldW ⟨Tryd.f10,Tryd.func10,by kernel_rfl,by kernel_rfl⟩ 0 1 (xs:=out) (by first|rfl|(simp;done)|(simp[h1,z3,↓e4,h5,q6,h41,q42];done)) (by first|rfl|(simp;done)|(simp[h1,z3,↓e4,h5,q6,h41,q42];done)) (by first|omega|simpa using c71|(simp;omega)) (by omega) ?_
     have w72:i64.wrap ((i:Int)+1)=(i:Int)+1:=ZE (by omega) (by omega)
     repeat first|refine cg ?_|simp -dsimp[h1,z3,↓e4,h5,q6,h41,q42,w72]
     refine aG _ ?_ ((ih_f134 (out++ZY (⟨#[102,97,105,108,10]⟩:ByteArray)) (i+1) o hF) _ rfl _ hq)
     exact(gT (by simp) (by first|simp -dsimp[h1,z3,↓e4,h5,q6,h41,q42,w72];done|simp_all))
  ·have z3:¬((i:Int)<(list.length:Int)):=auz
   cases hF
   repeat first|refine cg ?_|simp -dsimp[h1,q2,z3]
   refine lG _ (gT (by simp) (by first|simp -dsimp[h1,q2,z3];done|simp_all)) hq
theorem C.f135 (list:List Step)(r:ByteArray)(hF:F.f135 list=some r):PureCall Tryd.prog B 5 [am Step.c list] (.lit (.string r)):=by
 unfold F.f135 at hF
 refine pE Tryd.func5 (by kernel_rfl) rfl Tryd.ntmps5 (by simp) (by simp) ?_
 repeat first|refine cg ?_|simp -dsimp
 have hF:=ob hF;obtain⟨o'74,ho73,hF⟩:=hF
 refine ALoop.goU ⟨[(3,.ptr 0 0),(9,.arr (List.map Step.c list)),(10,.lit (.int .i64 (list.length:Int))),(11,.lit (.int .i64 0))],[.tcells (some 37) [.junk,.own 1 (List.length (α:=Int) [])],.telems (some 5) 1 (List.map cU [])]⟩ (by refine Gh.trans (Gh.nilCellT 37 5 0 1 1 (by simp -dsimp;rfl) (by simp -dsimp)) ?_;exact(gT (by simp) (by simp -dsimp))) ?_
 refine((CC.f134 B hB1 hB2 list) [] 0 o'74 ho73) _ rfl _ ?_
 have hF:=oc hF;obtain⟨c75,hF⟩:=hF
 repeat first|refine cg ?_|simp -dsimp
 refine ACall.bldS Tryd.lays169 Tryd.Builder_Extra_169 (f:=12) (T:=37) (E:=5) (by rfl) (by rfl) (by rfl) ⟨Tryd.f12,Tryd.func12,by kernel_rfl,by kernel_rfl⟩ 0 1 (xs:=o'74) (by first|rfl|simp) (by first|rfl|simp) c75.1 c75.2 ?_
 cases hF
 repeat first|refine cg ?_|simp -dsimp
 all_goals(try first|omega|rfl)
theorem CC.f136 (path:List Int):(∀(out:ByteArray) (i:Nat) (o:ByteArray),F.f136 path out i=some o->∀(c:Code),Zr [1,1,0,1,0,0] (ZI Tryd.f20)=some c->∀(Q:Exit->ASt->Prop),(Q (.exit 0) ⟨[(3,.lit (.string o))],[]⟩)->ALoopU Tryd.prog B 0 20 (hold c .mk) ⟨[(0,am cI path),(3,.lit (.string out)),(4,li (i:Int))],[]⟩ (hold Q .mk)):=by
 refine F.f136.partial_correctness path
  _
  ?_
 ·intro _f_f136 ih_f136 out i o hF
  intro c hc Q hq
  obtain rfl:c=_:=ZQ hc rfl
  refine kN fun hk hs=> ?_
  have b0:=hk 0
  simp -dsimp at b0
  clear hk hs
  refine eN ?_
  repeat first|refine cg ?_|simp -dsimp
  revert hF;refine aS ?_ ?_<;>intro h1 q2 hF
  ·have z3:((i:Int)<(path.length:Int)):=auz
   have hF:=oc hF;obtain⟨c4,hF⟩:=hF
   have hF:=ob hF;obtain⟨x,e5,hF⟩:=hF
   have le5:=ZD e5
   repeat first|refine cg ?_|simp -dsimp[h1,z3,↓e5]
   have hF:=ob hF;obtain⟨v,e6,hF⟩:=hF
   refine(((CC.f26 B hB1 hB2) x v e6)).goW (by first|simp[h1,z3,↓e5];done|simp_all) (by simp) ?_
   have hF:=oc hF;obtain⟨c7,hF⟩:=hF
   have dc7:=c7;simp only[ByteArray.size_append]at dc7
   have w8:i64.wrap ((i:Int)+1)=(i:Int)+1:=ZE (by omega) (by omega)
   repeat first|refine cg ?_|simp -dsimp[h1,z3,↓e5,w8]
   refine aG _ ?_ ((ih_f136 ((out++(⟨#[46]⟩:ByteArray))++v) (i+1) o hF) _ rfl _ hq)
   exact(gT (by simp) (by first|simp -dsimp[h1,z3,↓e5,w8];done|simp_all))
  ·have z3:¬((i:Int)<(path.length:Int)):=auz
   cases hF
   repeat first|refine cg ?_|simp -dsimp[h1,q2,z3]
   refine lG _ (gT (by simp) (by first|simp -dsimp[h1,q2,z3];done|simp_all)) hq
theorem C.f137 (path:List Int)(r:ByteArray)(hF:F.f137 path=some r):PureCall Tryd.prog B 20 [am cI path] (.lit (.string r)):=by
 unfold F.f137 at hF
 refine pE Tryd.func20 (by kernel_rfl) rfl Tryd.ntmps20 (by simp) (by simp) ?_
 repeat first|refine cg ?_|simp -dsimp
 have hF:=ob hF;obtain⟨o',ho9,hF⟩:=hF
 refine ALoop.goU _ ?_ (((CC.f136 B hB1 hB2 path) (⟨#[118]⟩:ByteArray) 0 o' ho9) _ rfl _ ?_)
 ·exact(gT (by simp) (by simp -dsimp))
 cases hF
 repeat first|refine cg ?_|simp -dsimp
 all_goals(try first|omega|rfl)
theorem C.f138 (n:Int)(r:ByteArray)(hF:F.f138 n=some r):PureCall Tryd.prog B 21 [li n] (.lit (.string r)):=by
 unfold F.f138 at hF
 refine pE Tryd.func21 (by kernel_rfl) rfl Tryd.ntmps21 (by simp) (by simp) ?_
 repeat first|refine cg ?_|simp -dsimp
 revert hF;refine aS ?_ ?_<;>intro h1 q2 hF
 ·repeat first|refine cg ?_|simp -dsimp[h1]
  revert hF;refine aS ?_ ?_<;>intro h3 q4 hF
  ·repeat first|refine cg ?_|simp -dsimp[h1,h3]
   have hF:=ob hF;obtain⟨v,e5,hF⟩:=hF
   refine(((CC.f26 B hB1 hB2) (i64.wrap (0-n)) v e5)).goW (by first|simp[h1,h3];done|simp_all) (by simp) ?_
   have hF:=oc hF;obtain⟨c6,hF⟩:=hF
   cases hF
   repeat first|refine cg ?_|simp -dsimp[h1,h3]
   all_goals(try first|omega|rfl)
  ·repeat first|refine cg ?_|simp -dsimp[h1,h3,q4]
   have hF:=ob hF;obtain⟨v7,e8,hF⟩:=hF
   refine(((CC.f26 B hB1 hB2) n v7 e8)).goW (by first|simp[h1,h3,q4];done|simp_all) (by simp) ?_
   cases hF
   repeat first|refine cg ?_|simp -dsimp[h1,h3,q4]
   all_goals(try first|omega|rfl)
 ·repeat first|refine cg ?_|simp -dsimp[h1,q2]
  have hF:=ob hF;obtain⟨v9,e10,hF⟩:=hF
  refine(((CC.f26 B hB1 hB2) n v9 e10)).goW (by first|simp[h1,q2];done|simp_all) (by simp) ?_
  cases hF
  repeat first|refine cg ?_|simp -dsimp[h1,q2]
  all_goals(try first|omega|rfl)
theorem CC.f139 (x:Step):(∀(out:ByteArray) (i:Nat) (o:ByteArray),F.f139 x out i=some o->∀(c:Code),Zr [1,0,1,0,1,1,1,0,1,0,1,0,0] (ZI Tryd.f13)=some c->∀(Q:Exit->ASt->Prop),(Q (.exit 1) ⟨[(1,.ptr 0 0),(3,.lit (.string o))],[.cells [li x.op,am cI x.path,li x.ctor,li x.n,li x.m,li x.clause,am PathBind.c x.binds,li x.to]]⟩)->ALoopU Tryd.prog B 0 83 (hold c .mk) ⟨[(1,.ptr 0 0),(3,.lit (.string out)),(4,li (i:Int))],[.cells [li x.op,am cI x.path,li x.ctor,li x.n,li x.m,li x.clause,am PathBind.c x.binds,li x.to]]⟩ (hold Q .mk)):=by
 refine F.f139.partial_correctness x
  _
  ?_
 ·intro _f_f139 ih_f139 out i o hF
  intro c hc Q hq
  obtain rfl:c=_:=ZQ hc rfl
  refine kN fun hk hs=> ?_
  have d0:=hs 0 _ rfl
  simp -dsimp[Blk.bnd]at d0
  clear hk hs
  refine eN ?_
  repeat first|refine cg ?_|simp -dsimp
  revert hF;refine aS ?_ ?_<;>intro h35 q36 hF
  ·have z37:((i:Int)<(x.binds.length:Int)):=auz
   repeat first|refine cg ?_|simp -dsimp[h35,z37]
   refine ADraw.simple follows (by kernel_rfl) (by kernel_rfl) ?_
   have hF:=oc hF;obtain⟨c38,hF⟩:=hF
   have hF:=ob hF;obtain⟨x39,e40,hF⟩:=hF
   have le40:=ZD e40
   repeat first|refine cg ?_|simp -dsimp[h35,z37,↓e40]
   have hF:=ob hF;obtain⟨v41,e42,hF⟩:=hF
   refine((C.f138 B hB1 hB2 x39.var v41 e42)).pgoW (by first|simp[h35,z37,↓e40];done|simp_all) (by simp) ?_
   have hF:=oc hF;obtain⟨c43,hF⟩:=hF
   have dc43:=c43;simp only[ByteArray.size_append]at dc43
   have hF:=oc hF;obtain⟨c44,hF⟩:=hF
   have dc44:=c44;simp only[ByteArray.size_append]at dc44
   repeat first|refine cg ?_|simp -dsimp[h35,z37,↓e40]
   have hF:=ob hF;obtain⟨v45,e46,hF⟩:=hF
   refine((C.f137 B hB1 hB2 x39.path v45 e46)).pgoW (by first|simp[h35,z37,↓e40];done|simp_all) (by simp) ?_
   have hF:=oc hF;obtain⟨c47,hF⟩:=hF
   have dc47:=c47;simp only[ByteArray.size_append]at dc47
   have w48:i64.wrap ((i:Int)+1)=(i:Int)+1:=ZE (by omega) (by omega)
   repeat first|refine cg ?_|simp -dsimp[h35,z37,↓e40,w48]
   refine aG _ ?_ ((ih_f139 ((((out++(⟨#[32]⟩:ByteArray))++v41)++(⟨#[61]⟩:ByteArray))++v45) (i+1) o hF) _ rfl _ hq)
   exact(gT (by simp) (by first|simp -dsimp[h35,z37,↓e40,w48];done|simp_all))
  ·have z37:¬((i:Int)<(x.binds.length:Int)):=auz
   cases hF
   repeat first|refine cg ?_|simp -dsimp[h35,q36,z37]
   refine lG _ (gT (by simp) (by first|simp -dsimp[h35,q36,z37];done|simp_all)) hq
theorem C.f140 (x:Step)(r:ByteArray)(hF:F.f140 x=some r):PureCall Tryd.prog B 13 [.agg [li x.op,am cI x.path,li x.ctor,li x.n,li x.m,li x.clause,am PathBind.c x.binds,li x.to]] (.lit (.string r)):=by
 unfold F.f140 at hF
 refine pE Tryd.func13 (by kernel_rfl) rfl Tryd.ntmps13 (by simp) (by simp) ?_
 repeat first|refine cg ?_|simp -dsimp
 revert hF;refine aS ?_ ?_<;>intro h1 q2 hF
 ·repeat first|refine cg ?_|simp -dsimp[h1]
  revert hF;refine aS ?_ ?_<;>intro h3 q4 hF
  ·repeat first|refine cg ?_|simp -dsimp[h1,h3]
   refine ADraw.simple follows (by kernel_rfl) (by kernel_rfl) ?_
   repeat first|refine cg ?_|simp -dsimp[h1,h3]
   have hF:=ob hF;obtain⟨v,e5,hF⟩:=hF
   refine((C.f137 B hB1 hB2 x.path v e5)).pgoW (by first|simp[h1,h3];done|simp_all) (by simp) ?_
   have hF:=oc hF;obtain⟨c6,hF⟩:=hF
   have hF:=oc hF;obtain⟨c7,hF⟩:=hF
   have dc7:=c7;simp only[ByteArray.size_append]at dc7
   repeat first|refine cg ?_|simp -dsimp[h1,h3]
   have hF:=ob hF;obtain⟨v8,e9,hF⟩:=hF
   refine((C.f138 B hB1 hB2 x.n v8 e9)).pgoW (by first|simp[h1,h3];done|simp_all) (by simp) ?_
   have hF:=oc hF;obtain⟨c10,hF⟩:=hF
   have dc10:=c10;simp only[ByteArray.size_append]at dc10
   have hF:=oc hF;obtain⟨c11,hF⟩:=hF
   have dc11:=c11;simp only[ByteArray.size_append]at dc11
   repeat first|refine cg ?_|simp -dsimp[h1,h3]
   have hF:=ob hF;obtain⟨v12,e13,hF⟩:=hF
   refine((C.f138 B hB1 hB2 x.m v12 e13)).pgoW (by first|simp[h1,h3];done|simp_all) (by simp) ?_
   have hF:=oc hF;obtain⟨c14,hF⟩:=hF
   have dc14:=c14;simp only[ByteArray.size_append]at dc14
   have hF:=oc hF;obtain⟨c15,hF⟩:=hF
   have dc15:=c15;simp only[ByteArray.size_append]at dc15
   repeat first|refine cg ?_|simp -dsimp[h1,h3]
   have hF:=ob hF;obtain⟨v16,e17,hF⟩:=hF
   refine((C.f138 B hB1 hB2 x.to v16 e17)).pgoW (by first|simp[h1,h3];done|simp_all) (by simp) ?_
   have hF:=oc hF;obtain⟨c18,hF⟩:=hF
   have dc18:=c18;simp only[ByteArray.size_append]at dc18
   cases hF
   repeat first|refine cg ?_|simp -dsimp[h1,h3]
   all_goals(try first|omega|rfl)
  ·repeat first|refine cg ?_|simp -dsimp[h1,h3,q4]
   refine ADraw.simple follows (by kernel_rfl) (by kernel_rfl) ?_
   repeat first|refine cg ?_|simp -dsimp[h1,h3,q4]
   have hF:=ob hF;obtain⟨v19,e20,hF⟩:=hF
   refine((C.f137 B hB1 hB2 x.path v19 e20)).pgoW (by first|simp[h1,h3,q4];done|simp_all) (by simp) ?_
   have hF:=oc hF;obtain⟨c21,hF⟩:=hF
   have hF:=oc hF;obtain⟨c22,hF⟩:=hF
   have dc22:=c22;simp only[ByteArray.size_append]at dc22
   repeat first|refine cg ?_|simp -dsimp[h1,h3,q4]
   have hF:=ob hF;obtain⟨v23,e24,hF⟩:=hF
   refine((C.f138 B hB1 hB2 x.ctor v23 e24)).pgoW (by first|simp[h1,h3,q4];done|simp_all) (by simp) ?_
   have hF:=oc hF;obtain⟨c25,hF⟩:=hF
   have dc25:=c25;simp only[ByteArray.size_append]at dc25
   have hF:=oc hF;obtain⟨c26,hF⟩:=hF
   have dc26:=c26;simp only[ByteArray.size_append]at dc26
   repeat first|refine cg ?_|simp -dsimp[h1,h3,q4]
   have hF:=ob hF;obtain⟨v27,e28,hF⟩:=hF
   refine((C.f138 B hB1 hB2 x.to v27 e28)).pgoW (by first|simp[h1,h3,q4];done|simp_all) (by simp) ?_
   have hF:=oc hF;obtain⟨c29,hF⟩:=hF
   have dc29:=c29;simp only[ByteArray.size_append]at dc29
   cases hF
   repeat first|refine cg ?_|simp -dsimp[h1,h3,q4]
   all_goals(try first|omega|rfl)
 ·repeat first|refine cg ?_|simp -dsimp[h1,q2]
  revert hF;refine aS ?_ ?_<;>intro h30 q31 hF
  ·repeat first|refine cg ?_|simp -dsimp[h1,q2,h30]
   have hF:=ob hF;obtain⟨v32,e33,hF⟩:=hF
   refine((C.f138 B hB1 hB2 x.clause v32 e33)).goW (by first|simp[h1,q2,h30];done|simp_all) (by simp) ?_
   have hF:=oc hF;obtain⟨c34,hF⟩:=hF
   repeat first|refine cg ?_|simp -dsimp[h1,q2,h30]
   have hF:=ob hF;obtain⟨o',ho49,hF⟩:=hF
   refine ALoop.goU _ ?_ (((CC.f139 B hB1 hB2 x) ((⟨#[116,97,107,101,32]⟩:ByteArray)++v32) 0 o' ho49) _ rfl _ ?_)
   ·exact(gT (by simp) (by first|simp -dsimp[h1,q2,h30];done|simp_all))
   have hF:=oc hF;obtain⟨c50,hF⟩:=hF
   repeat first|refine cg ?_|simp -dsimp
   have hF:=ob hF;obtain⟨v51,e52,hF⟩:=hF
   refine((C.f138 B hB1 hB2 x.to v51 e52)).goW (by simp) (by simp) ?_
   have hF:=oc hF;obtain⟨c53,hF⟩:=hF
   have dc53:=c53;simp only[ByteArray.size_append]at dc53
   cases hF
   repeat first|refine cg ?_|simp -dsimp
   all_goals(try first|omega|rfl)
  ·cases hF
   repeat first|refine cg ?_|simp -dsimp[h1,q2,h30,q31]
   all_goals(try first|omega|rfl)
theorem CC.f141 (list:List Step):(∀(out:ByteArray) (i:Nat) (o:ByteArray),F.f141 list out i=some o->∀(c:Code),Zr [1,1,0,1,0,0] (ZI Tryd.f6)=some c->∀(Q:Exit->ASt->Prop),(Q (.exit 0) ⟨[(3,.lit (.string o))],[]⟩)->ALoopU Tryd.prog B 0 20 (hold c .mk) ⟨[(0,am Step.c list),(3,.lit (.string out)),(4,li (i:Int))],[]⟩ (hold Q .mk)):=by
 refine F.f141.partial_correctness list
  _
  ?_
 ·intro _f_f141 ih_f141 out i o hF
  intro c hc Q hq
  obtain rfl:c=_:=ZQ hc rfl
  refine kN fun hk hs=> ?_
  have b0:=hk 0
  simp -dsimp at b0
  clear hk hs
  refine eN ?_
  repeat first|refine cg ?_|simp -dsimp
  revert hF;refine aS ?_ ?_<;>intro h1 q2 hF
  ·have z3:((i:Int)<(list.length:Int)):=auz
   have hF:=ob hF;obtain⟨x,e4,hF⟩:=hF
   have le4:=ZD e4
   repeat first|refine cg ?_|simp -dsimp[h1,z3,↓e4]
   have hF:=ob hF;obtain⟨v,e5,hF⟩:=hF
   refine((C.f140 B hB1 hB2 x v e5)).goW (by first|simp[h1,z3,↓e4];done|simp_all) (by simp) ?_
   have hF:=oc hF;obtain⟨c6,hF⟩:=hF
   have hF:=oc hF;obtain⟨c7,hF⟩:=hF
   have dc7:=c7;simp only[ByteArray.size_append]at dc7
   have w8:i64.wrap ((i:Int)+1)=(i:Int)+1:=ZE (by omega) (by omega)
   repeat first|refine cg ?_|simp -dsimp[h1,z3,↓e4,w8]
   refine aG _ ?_ ((ih_f141 ((out++v)++(⟨#[10]⟩:ByteArray)) (i+1) o hF) _ rfl _ hq)
   exact(gT (by simp) (by first|simp -dsimp[h1,z3,↓e4,w8];done|simp_all))
  ·have z3:¬((i:Int)<(list.length:Int)):=auz
   cases hF
   repeat first|refine cg ?_|simp -dsimp[h1,q2,z3]
   refine lG _ (gT (by simp) (by first|simp -dsimp[h1,q2,z3];done|simp_all)) hq
theorem C.f142 (list:List Step)(r:ByteArray)(hF:F.f142 list=some r):PureCall Tryd.prog B 6 [am Step.c list] (.lit (.string r)):=by
 unfold F.f142 at hF
 refine pE Tryd.func6 (by kernel_rfl) rfl Tryd.ntmps6 (by simp) (by simp) ?_
 repeat first|refine cg ?_|simp -dsimp
 have hF:=ob hF;obtain⟨o',ho9,hF⟩:=hF
 refine ALoop.goU _ ?_ (((CC.f141 B hB1 hB2 list) ByteArray.empty 0 o' ho9) _ rfl _ ?_)
 ·exact(gT (by simp) (by simp -dsimp))
 cases hF
 repeat first|refine cg ?_|simp -dsimp
 all_goals(try first|omega|rfl)
theorem CC.f143 (v:List Step)(v5:ByteArray):(∀(n:Nat) (i:Nat) (o:Nat),F.f143 v v5 n i=some o->∀(c:Code),Zr [1,1,1,1,1,0,1,0,0] (ZI Tryd.f3)=some c->∀(Q:Exit->ASt->Prop),(Q (.exit 0) ⟨[(3,am Step.c v),(4,.lit (.string v5)),(5,li (o:Int))],[]⟩)->ALoopU Tryd.prog B 0 36 (hold c .mk) ⟨[(3,am Step.c v),(4,.lit (.string v5)),(5,li (n:Int)),(6,li (i:Int))],[]⟩ (hold Q .mk)):=by
 refine F.f143.partial_correctness v v5
  _
  ?_
 ·intro _f_f143 ih_f143 n i o hF
  intro c hc Q hq
  obtain rfl:c=_:=ZQ hc rfl
  refine kN fun hk hs=> ?_
  have b3:=hk 3
  simp -dsimp at b3
  clear hk hs
  refine eN ?_
  repeat first|refine cg ?_|simp -dsimp
  revert hF;refine aS ?_ ?_<;>intro h7 q8 hF
  ·have z9:((i:Int)<(v5.size:Int)):=auz
   repeat first|refine cg ?_|simp -dsimp[h7,z9]
   revert hF;refine aS ?_ ?_<;>intro h10 q11 hF
   ·have z12:(((byteAt v5 i:Nat):Int)=10):=auz
    have hF:=oc hF;obtain⟨c13,hF⟩:=hF
    have w14:i64.wrap ((n:Int)+1)=(n:Int)+1:=ZE (by omega) (by omega)
    have hF:=oc hF;obtain⟨c15,hF⟩:=hF
    have w16:i64.wrap ((i:Int)+1)=(i:Int)+1:=ZE (by omega) (by omega)
    repeat first|refine cg ?_|simp -dsimp[h7,z9,h10,z12,w14,w16]
    refine aG _ ?_ ((ih_f143 (n+1) (i+1) o hF) _ rfl _ hq)
    exact(gT (by simp) (by first|simp -dsimp[h7,z9,h10,z12,w14,w16];done|simp_all))
   ·have z12:¬(((byteAt v5 i:Nat):Int)=10):=auz
    have hF:=oc hF;obtain⟨c17,hF⟩:=hF
    have w18:i64.wrap ((i:Int)+1)=(i:Int)+1:=ZE (by omega) (by omega)
    repeat first|refine cg ?_|simp -dsimp[h7,z9,h10,q11,z12,w18]
    refine aG _ ?_ ((ih_f143 n (i+1) o hF) _ rfl _ hq)
    exact(gT (by simp) (by first|simp -dsimp[h7,z9,h10,q11,z12,w18];done|simp_all))
  ·have z9:¬((i:Int)<(v5.size:Int)):=auz
   cases hF
   repeat first|refine cg ?_|simp -dsimp[h7,q8,z9]
   refine lG _ (gT (by simp) (by first|simp -dsimp[h7,q8,z9];done|simp_all)) hq
theorem C.f144 (code:List Int)(r:Bool)(hF:F.f144 code=some r):PureCall Tryd.prog B 3 [am cU code] (.lit (.bool r)):=by
 unfold F.f144 at hF
 refine pE Tryd.func3 (by kernel_rfl) rfl Tryd.ntmps3 (by simp) (by simp) ?_
 repeat first|refine cg ?_|simp -dsimp
 revert hF;refine aS ?_ ?_<;>intro h1 q2 hF
 ·have z3:(1048576<(code.length:Int)):=auz
  cases hF
  repeat first|refine cg ?_|simp -dsimp[h1,z3]
  all_goals(try first|omega|rfl)
 ·have z3:¬(1048576<(code.length:Int)):=auz
  repeat first|refine cg ?_|simp -dsimp[h1,q2,z3]
  have hF:=ob hF;obtain⟨v,e4,hF⟩:=hF
  refine((C.f129 B hB1 hB2 code v e4)).goW (by first|simp[h1,q2,z3];done|simp_all) (by simp) ?_
  repeat first|refine cg ?_|simp -dsimp[h1,q2,z3]
  have hF:=ob hF;obtain⟨v5,e6,hF⟩:=hF
  refine((C.f135 B hB1 hB2 v v5 e6)).goW (by first|simp[h1,q2,z3];done|simp_all) (by simp) ?_
  repeat first|refine cg ?_|simp -dsimp[h1,q2,z3]
  have hF:=ob hF;obtain⟨o',ho19,hF⟩:=hF
  refine ALoop.goU _ ?_ (((CC.f143 B hB1 hB2 v v5) 0 0 o' ho19) _ rfl _ ?_)
  ·exact(gT (by simp) (by first|simp -dsimp[h1,q2,z3];done|simp_all))
  repeat first|refine cg ?_|simp -dsimp
  have hF:=ob hF;obtain⟨v20,e21,hF⟩:=hF
  refine((C.f142 B hB1 hB2 v v20 e21)).goW (by simp) (by simp) ?_
  repeat first|refine cg ?_|simp -dsimp
  revert hF;refine aS ?_ ?_<;>intro h22 q23 hF
  ·cases hF
   repeat first|refine cg ?_|simp -dsimp[h22]
   all_goals(try first|omega|rfl)
  ·cases hF
   repeat first|refine cg ?_|simp -dsimp[h22,q23]
   all_goals(try first|omega|rfl)
end Go.Proofs.YtodkbabdaoeooaaDoor
