/- Part. -/
import Derived.Test.YtodkbabdaoeooaaGreatDoorStepsPrefixC1
open List renaming length->zA,map->zB,length_cons->zC,length_nil->zD,length_append->zE
open ByteArray renaming size_append->zF,empty->zG
namespace Go.Proofs.YtodkbabdaoeooaaGreatDoor
open Go Go.Proofs Go.Vl
open Go.Vl renaming Data->zH
open Go.Vl.Data renaming c->zI
open Pattern renaming c->zJ
open VarType renaming c->zK
open ALoop renaming is->zL,goU->zM
open Gh renaming trans->zN,nil->zO,frzSlot->zP
open Blk renaming bnd->zR
open ADraw renaming effI->zS,simI->zT,effP->zU,split->zV,simple->zW,opn->zX
open Again renaming is->zY
open Leave renaming is->zZ
open PureCall renaming inLe->yA
open Clause renaming c->yB
open BCall renaming enter->yC,enterS->yD,empty1->yE,ofNil->yF
open Step renaming c->yG
open PathBind renaming c->yH
open ACall renaming frzAt->yI,bldW->yJ,frz->yK
open Go.Proofs.Tryz
open Go.Proofs.Tryz renaming prog->zQ
open abr renaming sp->aS,ns->aN
open Leave renaming go->lG
open Again renaming go->aG
open ALoopU renaming enter->eN
open Gh renaming to3->gT,refl->gR
open PureCall renaming enterLe->pE
open Go.IntKind (i64)
set_option linter.all false
set_option maxRecDepth 100000
set_option maxHeartbeats 4000000
set_option synthInstance.maxSize 100000
set_option synthInstance.maxHeartbeats 4000000
attribute [local irreducible] GhK ECallA aL AMake MLoop AgainM LeaveM ZBk ZBO MutCall BCall chk abr ACall ALoop ALoopU ADraw Again Leave ZE8 PCall ZAm awp ZIu PureCall hold
variable (B : Nat) (hB1 : 1073741824 <= bd B) (hB2 : bd B <= 9223372036854775807 /\ ZLn B = some 0)
include hB1 hB2
theorem CC.f135 (w:List zH):(∀(t:Ty) (p:Pattern) (deep:Int) (count:Int) (r:(List VarType)×Bool×Int),F.f135 w t p deep count=some r->MutCall zQ B 108 [li count] [am zI w,.agg [li t.data,li t.index],.agg [li p.op,li p.ctor,li p.n,li p.m,li p.var,am zJ p.kids],li deep,.ptr 0 0] (.tup [am zK r.1,.lit (.bool r.2.1)]) [li r.2.2])/\
  (∀(p:Pattern) (deep:Int) (v:(List Ty)×Bool) (z51:Int) (vars52:List VarType) (i53:Nat) (o:Lo ((List VarType)×Bool×Int) (Int×(List VarType))),F.f137 w p deep v z51 vars52 i53=some o->∀(c:Code),ZZ [1,1,1,1,1,1,1,0,1,0,0] (ZI Tryz.f108)=some c->∀(Q:Exit->ASt->Prop),o.post (fun r=>∀st,ZAm zQ Tryz.f108 (fun r' σ'=>r'.le (.tup [am zK r.1,.lit (.bool r.2.1)])/\ZCq σ' [li r.2.2]) .ret st->Q .ret st) (fun s=>Q (.exit 0) ⟨[(14,.own 3 (zA (α:=VarType) s.2))],[.cells [li s.1],.dead,.dead,.elems 3 (zB zK s.2)]⟩)->ALoopU zQ B 1 114 (hold c .mk) ⟨[(0,am zI w),(3,li deep),(4,.ptr 0 0),(7,.ptr 2 0),(12,am Ty.c v.1),(14,.own 3 (zA (α:=VarType) vars52)),(60,am zJ p.kids),(61,li (p.kids.length:Int)),(62,li (i53:Int))],[.cells [li z51],.dead,.cells [li p.op,li p.ctor,li p.n,li p.m,li p.var,am zJ p.kids],.elems 3 (zB zK vars52)]⟩ (hold Q .mk))/\
  (∀(p:Pattern) (deep:Int) (v:(List Ty)×Bool) (z:Int) (vars:List VarType) (i:Nat) (o:Lo ((List VarType)×Bool×Int) (Int×(List VarType))),F.f136 w p deep v z vars i=some o->∀(c:Code),ZZ [1,1,1,1,1,1,1,0,1,0,0] (ZI Tryz.f108)=some c->∀(Q:Exit->ASt->Prop),o.post (fun r=>∀st,ZAm zQ Tryz.f108 (fun r' σ'=>r'.le (.tup [am zK r.1,.lit (.bool r.2.1)])/\ZCq σ' [li r.2.2]) .ret st->Q .ret st) (fun s=>Q (.exit 0) ⟨[(14,.own 4 (zA (α:=VarType) s.2))],[.cells [li s.1],.dead,.dead,.dead,.elems 3 (zB zK s.2)]⟩)->ALoopU zQ B 1 114 (hold c .mk) ⟨[(0,am zI w),(3,li deep),(4,.ptr 0 0),(7,.ptr 2 0),(12,am Ty.c v.1),(14,.own 4 (zA (α:=VarType) vars)),(60,am zJ p.kids),(61,li (p.kids.length:Int)),(62,li (i:Int))],[.cells [li z],.dead,.cells [li p.op,li p.ctor,li p.n,li p.m,li p.var,am zJ p.kids],.dead,.elems 3 (zB zK vars)]⟩ (hold Q .mk))/\
  (∀(p:Pattern) (deep:Int) (v:(List Ty)×Bool) (z98:Int) (vars99:List VarType) (i100:Nat) (o:Lo ((List VarType)×Bool×Int) (Int×(List VarType))),F.f138 w p deep v z98 vars99 i100=some o->∀(c:Code),ZZ [1,1,1,1,1,1,1,0,1,0,0] (ZI Tryz.f108)=some c->∀(Q:Exit->ASt->Prop),o.post (fun r=>∀st,ZAm zQ Tryz.f108 (fun r' σ'=>r'.le (.tup [am zK r.1,.lit (.bool r.2.1)])/\ZCq σ' [li r.2.2]) .ret st->Q .ret st) (fun s=>Q (.exit 0) ⟨[(14,.own 4 (zA (α:=VarType) s.2))],[.cells [li s.1],.dead,.dead,.dead,.elems 3 (zB zK s.2)]⟩)->ALoopU zQ B 1 114 (hold c .mk) ⟨[(0,am zI w),(3,li deep),(4,.ptr 0 0),(7,.ptr 2 0),(12,am Ty.c v.1),(14,.own 4 (zA (α:=VarType) vars99)),(60,am zJ p.kids),(61,li (p.kids.length:Int)),(62,li (i100:Int))],[.cells [li z98],.dead,.cells [li p.op,li p.ctor,li p.n,li p.m,li p.var,am zJ p.kids],.dead,.elems 3 (zB zK vars99)]⟩ (hold Q .mk)):=by
 refine F.f135.mutual_partial_correctness w
  _ _ _ _
  ?_ ?_ ?_ ?_
 ·intro _f_f137 _f_f136 _f_f138 ih_f137 ih_f136 ih_f138 t p deep count r hF
  refine MutCall.inn func108 rfl ntmps108 ?_
  repeat first|refine cg ?_|simp -dsimp
  revert hF;refine aN ?_ ?_<;>intro h1 q2 hF
  ·repeat first|refine cg ?_|simp -dsimp[h1,q2]
   revert hF;refine aS ?_ ?_<;>intro h3 q4 hF
   ·cases hF
    repeat first|refine cg ?_|simp -dsimp[h1,q2,h3]
   ·repeat first|refine cg ?_|simp -dsimp[h1,q2,h3,q4]
    have hF:=ob hF;obtain⟨v,e5,hF⟩:=hF
    refine((C.f123 B hB1 hB2 w t p v e5)).goI ?_
    repeat first|refine cg ?_|simp -dsimp[h1,q2,h3,q4]
    revert hF;refine aN (fun h6 q7 hF=> ?_) (fun h6 q7 hF=> ?_)
    ·cases hF
     repeat first|refine cg ?_|simp -dsimp[h1,q2,h3,q4,h6,q7]
    ·repeat first|refine cg ?_|simp -dsimp[h1,q2,h3,q4,h6,q7]
     revert hF;refine aN ?_ ?_<;>intro h8 q9 hF
     ·repeat first|refine cg ?_|simp -dsimp[h1,q2,h3,q4,h6,q7,h8,q9]
      revert hF;refine aS ?_ ?_<;>intro h10 q11 hF
      ·repeat first|refine cg ?_|simp -dsimp[h1,q2,h3,q4,h6,q7,h8,q9,h10]
       have hF:=ob hF;obtain⟨o',ho36,hF⟩:=hF
       refine zL ((ih_f136 p deep v (i64.wrap (count+1)) [(⟨p.var,t⟩:VarType)] 0 o' ho36) _ rfl _ ?_)
       rcases o' with r050|sx
       ·dsimp only at hF
        cases hF
        intro st h
        simpa using h
       ·dsimp only at hF
        repeat first|refine cg ?_|simp -dsimp
        have hF:=ob hF;obtain⟨o'48,ho47,hF⟩:=hF
        refine zL (((CC.f132 B hB1 hB2 sx) (fun _=>false) 0 o'48 ho47) _ rfl _ ?_)
        rcases o'48 with r0|sx49
        ·dsimp only at hF
         cases hF
         intro st h
         simpa using h
        ·dsimp only at hF
         cases hF
         repeat first|refine cg ?_|simp -dsimp
      ·repeat first|refine cg ?_|simp -dsimp[h1,q2,h3,q4,h6,q7,h8,q9,h10,q11]
       have hF:=ob hF;obtain⟨o'80,ho79,hF⟩:=hF
       refine zM ⟨[(0,.arr (zB zI w)),(3,.lit (.int .i64 deep)),(4,.ptr 0 0),(7,.ptr 2 0),(12,.arr (zB Ty.c v.1)),(14,.own 3 (zA (α:=VarType) [])),(60,.arr (zB zJ p.kids)),(61,.lit (.int .i64 (p.kids.length:Int))),(62,.lit (.int .i64 0))],[.cells [.lit (.int .i64 (i64.wrap (count+1)))],.dead,.cells [.lit (.int .i64 p.op),.lit (.int .i64 p.ctor),.lit (.int .i64 p.n),.lit (.int .i64 p.m),.lit (.int .i64 p.var),.arr (zB zJ p.kids)],.elems 3 (zB zK [])]⟩ (by refine zN (zO 14 3 (by simp -dsimp)) ?_;exact(gT (by simp) (by simp -dsimp[h1,q2,h3,q4,h6,q7,h8,q9,h10,q11]))) ?_
       refine(ih_f137 p deep v (i64.wrap (count+1)) [] 0 o'80 ho79) _ rfl _ ?_
       rcases o'80 with r097|sx81
       ·dsimp only at hF
        cases hF
        intro st h
        simpa using h
       ·dsimp only at hF
        repeat first|refine cg ?_|simp -dsimp
        have hF:=ob hF;obtain⟨o'94,ho93,hF⟩:=hF
        refine zL (((CC.f133 B hB1 hB2 sx81) (fun _=>false) 0 o'94 ho93) _ rfl _ ?_)
        rcases o'94 with r096|sx95
        ·dsimp only at hF
         cases hF
         intro st h
         simpa using h
        ·dsimp only at hF
         cases hF
         repeat first|refine cg ?_|simp -dsimp
     ·repeat first|refine cg ?_|simp -dsimp[h1,q2,h3,q4,h6,q7,h8,q9]
      have hF:=ob hF;obtain⟨o'127,ho126,hF⟩:=hF
      refine zL ((ih_f138 p deep v (i64.wrap (count+1)) [(⟨p.var,t⟩:VarType)] 0 o'127 ho126) _ rfl _ ?_)
      rcases o'127 with r0144|sx128
      ·dsimp only at hF
       cases hF
       intro st h
       simpa using h
      ·dsimp only at hF
       repeat first|refine cg ?_|simp -dsimp
       have hF:=ob hF;obtain⟨o'141,ho140,hF⟩:=hF
       refine zL (((CC.f134 B hB1 hB2 sx128) (fun _=>false) 0 o'141 ho140) _ rfl _ ?_)
       rcases o'141 with r0143|sx142
       ·dsimp only at hF
        cases hF
        intro st h
        simpa using h
       ·dsimp only at hF
        cases hF
        repeat first|refine cg ?_|simp -dsimp
  ·cases hF
   repeat first|refine cg ?_|simp -dsimp[h1,q2]
 ·intro _f_f135 _f_f137 ih_f135 ih_f137 p deep v z51 vars52 i53 o hF
  refine ZJ rfl fun Q hq hk hs=> ?_
  have b0:=hk 0
  simp -dsimp at b0
  have b12:=hk 12
  simp -dsimp at b12
  have b60:=hk 60
  simp -dsimp at b60
  have d2:=hs 2 _ rfl
  simp -dsimp[zR]at d2
  have d3:=hs 3 _ rfl
  simp -dsimp[zR]at d3
  clear hk hs
  refine eN ?_
  repeat first|refine cg ?_|simp -dsimp
  revert hF;refine aS ?_ ?_<;>intro h54 q55 hF
  ·have z56:((i53:Int)<(p.kids.length:Int)):=auz
   have hF:=ob hF;obtain⟨x57,e58,hF⟩:=hF
   have le58:=ZC e58
   repeat first|refine cg ?_|simp -dsimp[h54,z56,↓e58]
   refine zS [108] [(0,0),(0,0),(0,0),(0,0),(0,0),(0,0),(0,0),(0,0),(0,0),(0,1),(1,1),(1,1),(1,1),(1,1),(1,1)] [1,1,1,1,1,1,1,1,1,1,1,1,1,1,1] follows ?_
   have hF:=ob hF;obtain⟨x59,e60,hF⟩:=hF
   have le60:=ZC e60
   repeat first|refine cg ?_|simp -dsimp[h54,z56,↓e58,↓e60]
   have hF:=ob hF;obtain⟨v61,e62,hF⟩:=hF
   refine((ih_f135 x59 x57 (i64.wrap (deep+1)) z51 v61 e62)).ego 0 rfl (by simp[h54,z56,↓e58,↓e60]) (by simp) (by simp[h54,z56,↓e58,↓e60]) ?_
   repeat first|refine cg ?_|simp -dsimp[h54,z56,↓e58,↓e60]
   revert hF;refine aN (fun h63 q64 hF=> ?_) (fun h63 q64 hF=> ?_)
   ·cases hF
    repeat first|refine cg ?_|simp -dsimp[h54,z56,↓e58,↓e60,h63,q64]
    refine lG _ (gR _) (hq _ ?_)
    repeat first|refine cg ?_|simp -dsimp[h54,z56,↓e58,↓e60,h63,q64]
   ·repeat first|refine cg ?_|simp -dsimp[h54,z56,↓e58,↓e60,h63,q64]
    revert hF;refine aS ?_ ?_<;>intro h65 q66 hF
    ·repeat first|refine cg ?_|simp -dsimp[h54,z56,↓e58,↓e60,h63,q64,h65]
     revert hF;refine aS ?_ ?_<;>intro h67 q68 hF
     ·have z69:((i53:Int)=1):=auz
      repeat first|refine cg ?_|simp -dsimp[h54,z56,↓e58,↓e60,h63,q64,h65,eq_true h67,eq_true z69]
      have hF:=ob hF;obtain⟨v70,e71,hF⟩:=hF
      refine((C.f131 B hB1 hB2 vars52 v61.1 v70 e71)).lend (by simp -dsimp[h54,z56,↓e58,↓e60,h63,q64,h65,eq_true h67,eq_true z69]) (by simp -dsimp) ?_
      repeat first|refine cg ?_|simp -dsimp[h54,z56,↓e58,↓e60,h63,q64,h65,eq_true h67,eq_true z69]
      revert hF;refine aN (fun h72 q73 hF=> ?_) (fun h72 q73 hF=> ?_)
      ·cases hF
       repeat first|refine cg ?_|simp -dsimp[h54,z56,↓e58,↓e60,h63,q64,h65,eq_true h67,eq_true z69,h72,q73]
       refine lG _ (gR _) (hq _ ?_)
       repeat first|refine cg ?_|simp -dsimp[h54,z56,↓e58,↓e60,h63,q64,h65,eq_true h67,eq_true z69,h72,q73]
      ·have w74:i64.wrap ((i53:Int)+1)=(i53:Int)+1:=ZD (by omega) (by omega)
       repeat first|refine cg ?_|simp -dsimp[h54,z56,↓e58,↓e60,h63,q64,h65,eq_true h67,eq_true z69,h72,q73,w74]
       refine zY ((ih_f137 p deep v v61.2.2 vars52 (i53+1) o hF) _ rfl _ hq)
     ·have z69:¬((i53:Int)=1):=auz
      have hF:=oc hF;obtain⟨c75,hF⟩:=hF
      have w76:i64.wrap ((i53:Int)+1)=(i53:Int)+1:=ZD (by omega) (by omega)
      repeat first|refine cg ?_|simp -dsimp[h54,z56,↓e58,↓e60,h63,q64,h65,h67,q68,z69,w76]
      refine zY ((ih_f137 p deep v v61.2.2 (vars52++v61.1) (i53+1) o hF) _ rfl _ hq)
    ·have hF:=oc hF;obtain⟨c77,hF⟩:=hF
     have w78:i64.wrap ((i53:Int)+1)=(i53:Int)+1:=ZD (by omega) (by omega)
     repeat first|refine cg ?_|simp -dsimp[h54,z56,↓e58,↓e60,h63,q64,h65,q66,w78]
     refine zY ((ih_f137 p deep v v61.2.2 (vars52++v61.1) (i53+1) o hF) _ rfl _ hq)
  ·have z56:¬((i53:Int)<(p.kids.length:Int)):=auz
   cases hF
   repeat first|refine cg ?_|simp -dsimp[h54,q55,z56]
   refine zZ hq
 ·intro _f_f135 _f_f136 ih_f135 ih_f136 p deep v z vars i o hF
  refine ZJ rfl fun Q hq hk hs=> ?_
  have b0:=hk 0
  simp -dsimp at b0
  have b12:=hk 12
  simp -dsimp at b12
  have b60:=hk 60
  simp -dsimp at b60
  have d2:=hs 2 _ rfl
  simp -dsimp[zR]at d2
  have d4:=hs 4 _ rfl
  simp -dsimp[zR]at d4
  clear hk hs
  refine eN ?_
  repeat first|refine cg ?_|simp -dsimp
  revert hF;refine aS ?_ ?_<;>intro h12 q13 hF
  ·have z14:((i:Int)<(p.kids.length:Int)):=auz
   have hF:=ob hF;obtain⟨x,e15,hF⟩:=hF
   have le15:=ZC e15
   repeat first|refine cg ?_|simp -dsimp[h12,z14,↓e15]
   refine zS [108] [(0,0),(0,0),(0,0),(0,0),(0,0),(0,0),(0,0),(0,0),(0,0),(0,1),(1,1),(1,1),(1,1),(1,1),(1,1)] [1,1,1,1,1,1,1,1,1,1,1,1,1,1,1] follows ?_
   have hF:=ob hF;obtain⟨x16,e17,hF⟩:=hF
   have le17:=ZC e17
   repeat first|refine cg ?_|simp -dsimp[h12,z14,↓e15,↓e17]
   have hF:=ob hF;obtain⟨v18,e19,hF⟩:=hF
   refine((ih_f135 x16 x (i64.wrap (deep+1)) z v18 e19)).ego 0 rfl (by simp[h12,z14,↓e15,↓e17]) (by simp) (by simp[h12,z14,↓e15,↓e17]) ?_
   repeat first|refine cg ?_|simp -dsimp[h12,z14,↓e15,↓e17]
   revert hF;refine aN (fun h20 q21 hF=> ?_) (fun h20 q21 hF=> ?_)
   ·cases hF
    repeat first|refine cg ?_|simp -dsimp[h12,z14,↓e15,↓e17,h20,q21]
    refine lG _ (gR _) (hq _ ?_)
    repeat first|refine cg ?_|simp -dsimp[h12,z14,↓e15,↓e17,h20,q21]
   ·repeat first|refine cg ?_|simp -dsimp[h12,z14,↓e15,↓e17,h20,q21]
    revert hF;refine aS ?_ ?_<;>intro h22 q23 hF
    ·repeat first|refine cg ?_|simp -dsimp[h12,z14,↓e15,↓e17,h20,q21,h22]
     revert hF;refine aS ?_ ?_<;>intro h24 q25 hF
     ·have z26:((i:Int)=1):=auz
      repeat first|refine cg ?_|simp -dsimp[h12,z14,↓e15,↓e17,h20,q21,h22,eq_true h24,eq_true z26]
      have hF:=ob hF;obtain⟨v27,e28,hF⟩:=hF
      refine((C.f131 B hB1 hB2 vars v18.1 v27 e28)).lend (by simp -dsimp[h12,z14,↓e15,↓e17,h20,q21,h22,eq_true h24,eq_true z26]) (by simp -dsimp) ?_
      repeat first|refine cg ?_|simp -dsimp[h12,z14,↓e15,↓e17,h20,q21,h22,eq_true h24,eq_true z26]
      revert hF;refine aN (fun h29 q30 hF=> ?_) (fun h29 q30 hF=> ?_)
      ·cases hF
       repeat first|refine cg ?_|simp -dsimp[h12,z14,↓e15,↓e17,h20,q21,h22,eq_true h24,eq_true z26,h29,q30]
       refine lG _ (gR _) (hq _ ?_)
       repeat first|refine cg ?_|simp -dsimp[h12,z14,↓e15,↓e17,h20,q21,h22,eq_true h24,eq_true z26,h29,q30]
      ·have w31:i64.wrap ((i:Int)+1)=(i:Int)+1:=ZD (by omega) (by omega)
       repeat first|refine cg ?_|simp -dsimp[h12,z14,↓e15,↓e17,h20,q21,h22,eq_true h24,eq_true z26,h29,q30,w31]
       refine zY ((ih_f136 p deep v v18.2.2 vars (i+1) o hF) _ rfl _ hq)
     ·have z26:¬((i:Int)=1):=auz
      have hF:=oc hF;obtain⟨c32,hF⟩:=hF
      have w33:i64.wrap ((i:Int)+1)=(i:Int)+1:=ZD (by omega) (by omega)
      repeat first|refine cg ?_|simp -dsimp[h12,z14,↓e15,↓e17,h20,q21,h22,h24,q25,z26,w33]
      refine zY ((ih_f136 p deep v v18.2.2 (vars++v18.1) (i+1) o hF) _ rfl _ hq)
    ·have hF:=oc hF;obtain⟨c34,hF⟩:=hF
     have w35:i64.wrap ((i:Int)+1)=(i:Int)+1:=ZD (by omega) (by omega)
     repeat first|refine cg ?_|simp -dsimp[h12,z14,↓e15,↓e17,h20,q21,h22,q23,w35]
     refine zY ((ih_f136 p deep v v18.2.2 (vars++v18.1) (i+1) o hF) _ rfl _ hq)
  ·have z14:¬((i:Int)<(p.kids.length:Int)):=auz
   cases hF
   repeat first|refine cg ?_|simp -dsimp[h12,q13,z14]
   refine zZ hq
 ·intro _f_f135 _f_f138 ih_f135 ih_f138 p deep v z98 vars99 i100 o hF
  refine ZJ rfl fun Q hq hk hs=> ?_
  have b0:=hk 0
  simp -dsimp at b0
  have b12:=hk 12
  simp -dsimp at b12
  have b60:=hk 60
  simp -dsimp at b60
  have d2:=hs 2 _ rfl
  simp -dsimp[zR]at d2
  have d4:=hs 4 _ rfl
  simp -dsimp[zR]at d4
  clear hk hs
  refine eN ?_
  repeat first|refine cg ?_|simp -dsimp
  revert hF;refine aS ?_ ?_<;>intro h101 q102 hF
  ·have z103:((i100:Int)<(p.kids.length:Int)):=auz
   have hF:=ob hF;obtain⟨x104,e105,hF⟩:=hF
   have le105:=ZC e105
   repeat first|refine cg ?_|simp -dsimp[h101,z103,↓e105]
   refine zS [108] [(0,0),(0,0),(0,0),(0,0),(0,0),(0,0),(0,0),(0,0),(0,0),(0,1),(1,1),(1,1),(1,1),(1,1),(1,1)] [1,1,1,1,1,1,1,1,1,1,1,1,1,1,1] follows ?_
   have hF:=ob hF;obtain⟨x106,e107,hF⟩:=hF
   have le107:=ZC e107
   repeat first|refine cg ?_|simp -dsimp[h101,z103,↓e105,↓e107]
   have hF:=ob hF;obtain⟨v108,e109,hF⟩:=hF
   refine((ih_f135 x106 x104 (i64.wrap (deep+1)) z98 v108 e109)).ego 0 rfl (by simp[h101,z103,↓e105,↓e107]) (by simp) (by simp[h101,z103,↓e105,↓e107]) ?_
   repeat first|refine cg ?_|simp -dsimp[h101,z103,↓e105,↓e107]
   revert hF;refine aN (fun h110 q111 hF=> ?_) (fun h110 q111 hF=> ?_)
   ·cases hF
    repeat first|refine cg ?_|simp -dsimp[h101,z103,↓e105,↓e107,h110,q111]
    refine lG _ (gR _) (hq _ ?_)
    repeat first|refine cg ?_|simp -dsimp[h101,z103,↓e105,↓e107,h110,q111]
   ·repeat first|refine cg ?_|simp -dsimp[h101,z103,↓e105,↓e107,h110,q111]
    revert hF;refine aS ?_ ?_<;>intro h112 q113 hF
    ·repeat first|refine cg ?_|simp -dsimp[h101,z103,↓e105,↓e107,h110,q111,h112]
     revert hF;refine aS ?_ ?_<;>intro h114 q115 hF
     ·have z116:((i100:Int)=1):=auz
      repeat first|refine cg ?_|simp -dsimp[h101,z103,↓e105,↓e107,h110,q111,h112,eq_true h114,eq_true z116]
      have hF:=ob hF;obtain⟨v117,e118,hF⟩:=hF
      refine((C.f131 B hB1 hB2 vars99 v108.1 v117 e118)).lend (by simp -dsimp[h101,z103,↓e105,↓e107,h110,q111,h112,eq_true h114,eq_true z116]) (by simp -dsimp) ?_
      repeat first|refine cg ?_|simp -dsimp[h101,z103,↓e105,↓e107,h110,q111,h112,eq_true h114,eq_true z116]
      revert hF;refine aN (fun h119 q120 hF=> ?_) (fun h119 q120 hF=> ?_)
      ·cases hF
       repeat first|refine cg ?_|simp -dsimp[h101,z103,↓e105,↓e107,h110,q111,h112,eq_true h114,eq_true z116,h119,q120]
       refine lG _ (gR _) (hq _ ?_)
       repeat first|refine cg ?_|simp -dsimp[h101,z103,↓e105,↓e107,h110,q111,h112,eq_true h114,eq_true z116,h119,q120]
      ·have w121:i64.wrap ((i100:Int)+1)=(i100:Int)+1:=ZD (by omega) (by omega)
       repeat first|refine cg ?_|simp -dsimp[h101,z103,↓e105,↓e107,h110,q111,h112,eq_true h114,eq_true z116,h119,q120,w121]
       refine zY ((ih_f138 p deep v v108.2.2 vars99 (i100+1) o hF) _ rfl _ hq)
     ·have z116:¬((i100:Int)=1):=auz
      have hF:=oc hF;obtain⟨c122,hF⟩:=hF
      have w123:i64.wrap ((i100:Int)+1)=(i100:Int)+1:=ZD (by omega) (by omega)
      repeat first|refine cg ?_|simp -dsimp[h101,z103,↓e105,↓e107,h110,q111,h112,h114,q115,z116,w123]
      refine zY ((ih_f138 p deep v v108.2.2 (vars99++v108.1) (i100+1) o hF) _ rfl _ hq)
    ·have hF:=oc hF;obtain⟨c124,hF⟩:=hF
     have w125:i64.wrap ((i100:Int)+1)=(i100:Int)+1:=ZD (by omega) (by omega)
     repeat first|refine cg ?_|simp -dsimp[h101,z103,↓e105,↓e107,h110,q111,h112,q113,w125]
     refine zY ((ih_f138 p deep v v108.2.2 (vars99++v108.1) (i100+1) o hF) _ rfl _ hq)
  ·have z103:¬((i100:Int)<(p.kids.length:Int)):=auz
   cases hF
   repeat first|refine cg ?_|simp -dsimp[h101,q102,z103]
   refine zZ hq
theorem C.f139 (w:List zH)(t:Ty)(p:Pattern)(r:(List VarType)×Bool)(hF:F.f139 w t p=some r):PureCall zQ B 78 [am zI w,.agg [li t.data,li t.index],.agg [li p.op,li p.ctor,li p.n,li p.m,li p.var,am zJ p.kids]] (.tup [am zK r.1,.lit (.bool r.2)]):=by
 unfold F.f139 at hF
 refine yA func78 rfl ntmps78 ?_
 repeat first|refine cg ?_|simp -dsimp
 have hF:=ob hF;obtain⟨v,e1,hF⟩:=hF
 refine(((CC.f135 B hB1 hB2 w).1 t p 1 0 v e1)).go 2 rfl (by simp) (by simp) (by simp) ?_
 cases hF
 repeat first|refine cg ?_|simp -dsimp
theorem C.f140 (g:Guard)(vars:List VarType)(r:Bool)(hF:F.f140 g vars=some r):PureCall zQ B 79 [.agg [li g.op,li g.var,li g.n],am zK vars] (.lit (.bool r)):=by
 unfold F.f140 at hF
 refine yA func79 rfl ntmps79 ?_
 repeat first|refine cg ?_|simp -dsimp
 revert hF;refine aS ?_ ?_<;>intro h1 q2 hF
 ·cases hF
  repeat first|refine cg ?_|simp -dsimp[h1]
 ·repeat first|refine cg ?_|simp -dsimp[h1,q2]
  have hF:=ob hF;obtain⟨v,e3,hF⟩:=hF
  refine((C.f99 B hB1 hB2 g.op 1 2 v e3)).goI ?_
  repeat first|refine cg ?_|simp -dsimp[h1,q2]
  revert hF;refine aS (fun h4 q5 hF=> ?_) (fun h4 q5 hF=> ?_)
  ·repeat first|refine cg ?_|simp -dsimp[h1,q2,h4]
   have hF:=ob hF;obtain⟨v6,e7,hF⟩:=hF
   refine((C.f99 B hB1 hB2 g.n 0 9 v6 e7)).goI ?_
   repeat first|refine cg ?_|simp -dsimp[h1,q2,h4]
   revert hF;refine aS (fun h8 q9 hF=> ?_) (fun h8 q9 hF=> ?_)
   ·repeat first|refine cg ?_|simp -dsimp[h1,q2,h4,h8]
    have hF:=ob hF;obtain⟨v10,e11,hF⟩:=hF
    refine((C.f126 B hB1 hB2 vars (⟨g.var,(⟨(-1),0⟩:Ty)⟩:VarType) v10 e11)).goI ?_
    cases hF
    repeat first|refine cg ?_|simp -dsimp[h1,q2,h4,h8]
   ·cases hF
    repeat first|refine cg ?_|simp -dsimp[h1,q2,h4,h8,q9]
  ·cases hF
   repeat first|refine cg ?_|simp -dsimp[h1,q2,h4,q5]
theorem C.f141 (w:List zH)(t:Ty)(c':Clause)(r:Bool)(hF:F.f141 w t c'=some r):PureCall zQ B 52 [am zI w,.agg [li t.data,li t.index],.agg [li c'.pat.op,li c'.pat.ctor,li c'.pat.n,li c'.pat.m,li c'.pat.var,am zJ c'.pat.kids,li c'.guard.op,li c'.guard.var,li c'.guard.n]] (.lit (.bool r)):=by
 unfold F.f141 at hF
 refine yA func52 rfl ntmps52 ?_
 repeat first|refine cg ?_|simp -dsimp
 have hF:=ob hF;obtain⟨v,e1,hF⟩:=hF
 refine((C.f139 B hB1 hB2 w t c'.pat v e1)).goI ?_
 repeat first|refine cg ?_|simp -dsimp
 revert hF;refine aS (fun h2 q3 hF=> ?_) (fun h2 q3 hF=> ?_)
 ·repeat first|refine cg ?_|simp -dsimp[h2]
  have hF:=ob hF;obtain⟨v4,e5,hF⟩:=hF
  refine((C.f140 B hB1 hB2 c'.guard v.1 v4 e5)).goI ?_
  cases hF
  repeat first|refine cg ?_|simp -dsimp[h2]
 ·cases hF
  repeat first|refine cg ?_|simp -dsimp[h2,q3]
theorem C.f142 (c':Clause)(a1:List zH)(a2:Ty)(r:Bool)(hF:F.f142 c' a1 a2=some r):PureCall zQ B 51 [.agg [li c'.pat.op,li c'.pat.ctor,li c'.pat.n,li c'.pat.m,li c'.pat.var,am zJ c'.pat.kids,li c'.guard.op,li c'.guard.var,li c'.guard.n],.rptr [am zI a1] 0,.rptr [li a2.data,li a2.index] 0] (.lit (.bool r)):=by
 unfold F.f142 at hF
 refine yA func51 rfl ntmps51 ?_
 repeat first|refine cg ?_|simp -dsimp
 have hF:=ob hF;obtain⟨v,e1,hF⟩:=hF
 refine((C.f141 B hB1 hB2 a1 a2 c' v e1)).goI ?_
 cases hF
 repeat first|refine cg ?_|simp -dsimp
theorem CC.f143 (s:List Clause)(k0:List zH)(k1:Ty):(∀(i:Nat) (o:Lo Int Unit),F.f143 s k0 k1 i=some o->∀(c:Code),ZZ [1,0,1,0,0] (ZI Tryz.f77)=some c->∀(Q:Exit->ASt->Prop),o.post (fun r=>∀st,ZAm zQ Tryz.f77 (fun r' _=>r'.le (li r)) .ret st->Q .ret st) (fun s=>Q (.exit 0) ⟨[],[]⟩)->ALoopU zQ B 0 19 (hold c .mk) ⟨[(0,am yB s),(1,.fn (.func 51) [] [.rptr [am zI k0] 0,.rptr [li k1.data,li k1.index] 0]),(7,li (s.length:Int)),(8,li (i:Int))],[]⟩ (hold Q .mk)):=by
 refine F.f143.partial_correctness s k0 k1
  _
  ?_
 ·intro _f_f143 ih_f143 i o hF
  refine ZJ rfl fun Q hq hk hs=> ?_
  have b0:=hk 0
  simp -dsimp at b0
  clear hk hs
  refine eN ?_
  repeat first|refine cg ?_|simp -dsimp
  revert hF;refine aS ?_ ?_<;>intro h1 q2 hF
  ·have z3:((i:Int)<(s.length:Int)):=auz
   have hF:=ob hF;obtain⟨x,e4,hF⟩:=hF
   have le4:=ZC e4
   repeat first|refine cg ?_|simp -dsimp[h1,z3,↓e4]
   have hF:=ob hF;obtain⟨v,e5,hF⟩:=hF
   refine((C.f142 B hB1 hB2 x k0 k1 v e5)).goI ?_
   repeat first|refine cg ?_|simp -dsimp
   revert hF;refine aS (fun h6 q7 hF=> ?_) (fun h6 q7 hF=> ?_)
   ·cases hF
    repeat first|refine cg ?_|simp -dsimp[h6]
    refine lG _ (gR _) (hq _ ?_)
    repeat first|refine cg ?_|simp -dsimp
   ·have w8:i64.wrap ((i:Int)+1)=(i:Int)+1:=ZD (by omega) (by omega)
    repeat first|refine cg ?_|simp -dsimp[q7,w8]
    refine zY ((ih_f143 (i+1) o hF) _ rfl _ hq)
  ·have z3:¬((i:Int)<(s.length:Int)):=auz
   cases hF
   repeat first|refine cg ?_|simp -dsimp[h1,q2,z3]
   refine zZ hq
theorem C.f144 (s:List Clause)(k0:List zH)(k1:Ty)(r:Int)(hF:F.f144 s k0 k1=some r):PureCall zQ B 77 [am yB s,.fn (.func 51) [] [.rptr [am zI k0] 0,.rptr [li k1.data,li k1.index] 0]] (li r):=by
 unfold F.f144 at hF
 refine yA func77 rfl ntmps77 ?_
 repeat first|refine cg ?_|simp -dsimp
 have hF:=ob hF;obtain⟨o',ho9,hF⟩:=hF
 refine zL (((CC.f143 B hB1 hB2 s k0 k1) 0 o' ho9) _ rfl _ ?_)
 rcases o' with r0|sx
 ·dsimp only at hF
  cases hF
  intro st h
  simpa using h
 ·dsimp only at hF
  cases hF
  repeat first|refine cg ?_|simp -dsimp
theorem C.f145 (s:List Clause)(k0:List zH)(k1:Ty)(r:Bool)(hF:F.f145 s k0 k1=some r):PureCall zQ B 50 [am yB s,.fn (.func 51) [] [.rptr [am zI k0] 0,.rptr [li k1.data,li k1.index] 0]] (.lit (.bool r)):=by
 unfold F.f145 at hF
 refine yA func50 rfl ntmps50 ?_
 repeat first|refine cg ?_|simp -dsimp
 have hF:=ob hF;obtain⟨v,e1,hF⟩:=hF
 refine((C.f144 B hB1 hB2 s k0 k1 v e1)).goI ?_
 cases hF
 repeat first|refine cg ?_|simp -dsimp
theorem C.f146 (w:List zH)(t:Ty)(list:List Clause)(r:Bool)(hF:F.f146 w t list=some r):PureCall zQ B 28 [am zI w,.agg [li t.data,li t.index],am yB list] (.lit (.bool r)):=by
 unfold F.f146 at hF
 refine yA func28 rfl ntmps28 ?_
 repeat first|refine cg ?_|simp -dsimp
 have hF:=ob hF;obtain⟨v,e1,hF⟩:=hF
 refine((C.f112 B hB1 hB2 w t v e1)).goI ?_
 repeat first|refine cg ?_|simp -dsimp
 revert hF;refine aS (fun h2 q3 hF=> ?_) (fun h2 q3 hF=> ?_)
 ·repeat first|refine cg ?_|simp -dsimp[h2]
  revert hF;refine aS ?_ ?_<;>intro h4 q5 hF
  ·have z6:((list.length:Int)<=8):=auz
   repeat first|refine cg ?_|simp -dsimp[h2,h4,z6]
   have hF:=ob hF;obtain⟨v7,e8,hF⟩:=hF
   refine((C.f145 B hB1 hB2 list w t v7 e8)).lend (by simp -dsimp[h2,h4,z6]) (by simp -dsimp) ?_
   cases hF
   repeat first|refine cg ?_|simp -dsimp[h2,h4,z6]
  ·have z6:¬((list.length:Int)<=8):=auz
   cases hF
   repeat first|refine cg ?_|simp -dsimp[h2,h4,q5,z6]
 ·cases hF
  repeat first|refine cg ?_|simp -dsimp[h2,q3]
theorem CC.f147  :(∀(p:Pattern) (r:Int),F.f147 p=some r->PureCall zQ B 53 [.agg [li p.op,li p.ctor,li p.n,li p.m,li p.var,am zJ p.kids]] (li r))/\
  (∀(p:Pattern) (i15:Nat) (n16:Int) (o:Int),F.f149 p i15 n16=some o->∀(c:Code),ZZ [1,1,1,0,1,0,0] (ZI Tryz.f53)=some c->∀(Q:Exit->ASt->Prop),(Q (.exit 0) ⟨[(3,li o)],[]⟩)->ALoopU zQ B 0 31 (hold c .mk) ⟨[(1,.ptr 0 0),(3,li n16),(10,am zJ p.kids),(11,li (p.kids.length:Int)),(12,li (i15:Int))],[.cells [li p.op,li p.ctor,li p.n,li p.m,li p.var,am zJ p.kids]]⟩ (hold Q .mk))/\
  (∀(p:Pattern) (i:Nat) (n:Int) (o:Int),F.f148 p i n=some o->∀(c:Code),ZZ [1,1,1,0,1,0,0] (ZI Tryz.f53)=some c->∀(Q:Exit->ASt->Prop),(Q (.exit 0) ⟨[(3,li o)],[]⟩)->ALoopU zQ B 0 31 (hold c .mk) ⟨[(1,.ptr 0 0),(3,li n),(10,am zJ p.kids),(11,li (p.kids.length:Int)),(12,li (i:Int))],[.cells [li p.op,li p.ctor,li p.n,li p.m,li p.var,am zJ p.kids]]⟩ (hold Q .mk)):=by
 refine F.f147.mutual_partial_correctness 
  _ _ _
  ?_ ?_ ?_
 ·intro _f_f149 _f_f148 ih_f149 ih_f148 p r hF
  refine yA func53 rfl ntmps53 ?_
  repeat first|refine cg ?_|simp -dsimp
  revert hF;refine aS ?_ ?_<;>intro h1 q2 hF
  ·repeat first|refine cg ?_|simp -dsimp[h1]
   have hF:=ob hF;obtain⟨o',ho14,hF⟩:=hF
   refine zL ((ih_f148 p 0 0 o' ho14) _ rfl _ ?_)
   cases hF
   repeat first|refine cg ?_|simp -dsimp
  ·repeat first|refine cg ?_|simp -dsimp[q2]
   have hF:=ob hF;obtain⟨o'31,ho30,hF⟩:=hF
   refine zL ((ih_f149 p 0 1 o'31 ho30) _ rfl _ ?_)
   cases hF
   repeat first|refine cg ?_|simp -dsimp
 ·intro _f_f147 _f_f149 ih_f147 ih_f149 p i15 n16 o hF
  refine ZJ rfl fun Q hq hk hs=> ?_
  have b10:=hk 10
  simp -dsimp at b10
  have d0:=hs 0 _ rfl
  simp -dsimp[zR]at d0
  clear hk hs
  refine eN ?_
  repeat first|refine cg ?_|simp -dsimp
  revert hF;refine aS ?_ ?_<;>intro h17 q18 hF
  ·have z19:((i15:Int)<(p.kids.length:Int)):=auz
   have hF:=ob hF;obtain⟨x20,e21,hF⟩:=hF
   have le21:=ZC e21
   repeat first|refine cg ?_|simp -dsimp[h17,z19,↓e21]
   revert hF;refine aS ?_ ?_<;>intro h22 q23 hF
   ·repeat first|refine cg ?_|simp -dsimp[h22]
    have hF:=ob hF;obtain⟨v24,e25,hF⟩:=hF
    refine((ih_f147 x20 v24 e25)).goI ?_
    have w26:i64.wrap ((i15:Int)+1)=(i15:Int)+1:=ZD (by omega) (by omega)
    repeat first|refine cg ?_|simp -dsimp[w26]
    refine zY ((ih_f149 p (i15+1) (if 401<i64.wrap (n16+v24)then 401 else i64.wrap (n16+v24)) o hF) _ rfl _ hq)
   ·repeat first|refine cg ?_|simp -dsimp[q23]
    have hF:=ob hF;obtain⟨v27,e28,hF⟩:=hF
    refine((ih_f147 x20 v27 e28)).goI ?_
    have w29:i64.wrap ((i15:Int)+1)=(i15:Int)+1:=ZD (by omega) (by omega)
    repeat first|refine cg ?_|simp -dsimp[w29]
    refine zY ((ih_f149 p (i15+1) (if 401<i64.wrap (n16*v27)then 401 else i64.wrap (n16*v27)) o hF) _ rfl _ hq)
  ·have z19:¬((i15:Int)<(p.kids.length:Int)):=auz
   cases hF
   repeat first|refine cg ?_|simp -dsimp[h17,q18,z19]
   refine zZ hq
 ·intro _f_f147 _f_f148 ih_f147 ih_f148 p i n o hF
  refine ZJ rfl fun Q hq hk hs=> ?_
  have b10:=hk 10
  simp -dsimp at b10
  have d0:=hs 0 _ rfl
  simp -dsimp[zR]at d0
  clear hk hs
  refine eN ?_
  repeat first|refine cg ?_|simp -dsimp
  revert hF;refine aS ?_ ?_<;>intro h3 q4 hF
  ·have z5:((i:Int)<(p.kids.length:Int)):=auz
   have hF:=ob hF;obtain⟨x,e6,hF⟩:=hF
   have le6:=ZC e6
   repeat first|refine cg ?_|simp -dsimp[h3,z5,↓e6]
   revert hF;refine aS ?_ ?_<;>intro h7 q8 hF
   ·repeat first|refine cg ?_|simp -dsimp[h7]
    have hF:=ob hF;obtain⟨v,e9,hF⟩:=hF
    refine((ih_f147 x v e9)).goI ?_
    have w10:i64.wrap ((i:Int)+1)=(i:Int)+1:=ZD (by omega) (by omega)
    repeat first|refine cg ?_|simp -dsimp[w10]
    refine zY ((ih_f148 p (i+1) (if 401<i64.wrap (n+v)then 401 else i64.wrap (n+v)) o hF) _ rfl _ hq)
   ·repeat first|refine cg ?_|simp -dsimp[q8]
    have hF:=ob hF;obtain⟨v11,e12,hF⟩:=hF
    refine((ih_f147 x v11 e12)).goI ?_
    have w13:i64.wrap ((i:Int)+1)=(i:Int)+1:=ZD (by omega) (by omega)
    repeat first|refine cg ?_|simp -dsimp[w13]
    refine zY ((ih_f148 p (i+1) (if 401<i64.wrap (n*v11)then 401 else i64.wrap (n*v11)) o hF) _ rfl _ hq)
  ·have z5:¬((i:Int)<(p.kids.length:Int)):=auz
   cases hF
   repeat first|refine cg ?_|simp -dsimp[h3,q4,z5]
   refine zZ hq
theorem C.f150 (s:List Pattern)(r:List Pattern)(hF:F.f150 s=some r):BCall zQ B 80 [] [am zJ s] (.own 0 (zA (α:=Pattern) r)) [.elems 6 (zB zJ r)]:=by
 unfold F.f150 at hF
 have hF:=oc hF;obtain⟨c1,hF⟩:=hF
 cases hF
 cases s with
 |nil=>
  refine yE fun a c=> ?_
  cases a
  ·refine yF 6 (by simp) (by simp) ?_
   refine yA func80 rfl ntmps80 ?_
   repeat first|refine cg ?_|simp -dsimp
  ·refine yC func80 (by kernel_rfl) rfl ntmps80 (by simp) rfl (by simp) (by simp) (by simp) (by simp) (by simp) (gR _) ?_
   repeat first|refine cg ?_|simp -dsimp
 |cons x xs=>
  have c1:xs.length+1<=67108864:=by simpa using c1
  refine yC func80 (by kernel_rfl) rfl ntmps80 (by simp) rfl (by simp) (by simp) (by simp) (by simp) (by simp) (gR _) ?_
  repeat first|refine cg ?_|simp -dsimp
theorem CC.impl_split__o0_l3 (p:Pattern)(list:List Pattern)(i:Nat)(v15:List Pattern)(i17:Nat)(x21:Pattern):(∀(more23:List Pattern) (i24:Nat) (o:List Pattern),F.f151 p list i v15 i17 x21 more23 i24=some o->∀(c:Code),ZZ [1,1,1,1,1,0,1,0,0,1,1,0,0,1,1,1,0,1,0,0,1,1,0,0,1,1,0,0] (ZI Tryz.f54)=some c->∀(Q:Exit->ASt->Prop),(Q (.exit 4) ⟨[(7,.own 3 (zA (α:=Pattern) v15)),(8,.own 4 (zA (α:=Pattern) o)),(33,am zJ p.kids),(34,li (p.kids.length:Int)),(35,li (i:Int)),(41,.own 1 (zA (α:=Pattern) list)),(42,li (list.length:Int)),(43,li (i17:Int))],[.dead,.elems 6 (zB zJ list),.dead,.elems 6 (zB zJ v15),.elems 6 (zB zJ o)]⟩)->ALoopU zQ B 0 70 (hold c .mk) ⟨[(7,.own 3 (zA (α:=Pattern) v15)),(8,.own 4 (zA (α:=Pattern) more23)),(10,.ptr 5 0),(33,am zJ p.kids),(34,li (p.kids.length:Int)),(35,li (i:Int)),(41,.own 1 (zA (α:=Pattern) list)),(42,li (list.length:Int)),(43,li (i17:Int)),(47,.own 3 (zA (α:=Pattern) v15)),(48,li (v15.length:Int)),(49,li (i24:Int))],[.dead,.elems 6 (zB zJ list),.dead,.elems 6 (zB zJ v15),.elems 6 (zB zJ more23),.cells [li x21.op,li x21.ctor,li x21.n,li x21.m,li x21.var,am zJ x21.kids]]⟩ (hold Q .mk)):=by
 refine F.f151.partial_correctness p list i v15 i17 x21
  _
  ?_
 ·intro _f_impl_split__o0_l3 ih_impl_split__o0_l3 more23 i24 o hF
  refine ZJ rfl fun Q hq hk hs=> ?_
  have b33:=hk 33
  simp -dsimp at b33
  have d1:=hs 1 _ rfl
  simp -dsimp[zR]at d1
  have d3:=hs 3 _ rfl
  simp -dsimp[zR]at d3
  have d4:=hs 4 _ rfl
  simp -dsimp[zR]at d4
  have d5:=hs 5 _ rfl
  simp -dsimp[zR]at d5
  clear hk hs
  refine eN ?_
  repeat first|refine cg ?_|simp -dsimp
  revert hF;refine aS ?_ ?_<;>intro h25 q26 hF
  ·have z27:((i24:Int)<(v15.length:Int)):=auz
   have hF:=ob hF;obtain⟨x28,e29,hF⟩:=hF
   have le29:=ZC e29
   repeat first|refine cg ?_|simp -dsimp[h25,z27,↓e29]
   refine zX ?_
   refine zV [] [(2,4)] [(4,2)] 2 4 rfl rfl (by kernel_rfl) ?_ ?_
   ·refine zU [(2,4)] [0,1,2,3,4,5,6,7] [80] [(0,0),(0,0),(0,4),(0,1),(0,4),(0,4),(3,3),(0,4)] [1,1,1,2,1,1,1,1] follows (by kernel_rfl) (by kernel_rfl) (by kernel_rfl) (by kernel_rfl) ?_
    repeat first|refine cg ?_|simp -dsimp
    have hF:=ob hF;obtain⟨v30,e31,hF⟩:=hF
    refine((C.f150 B hB1 hB2 x21.kids v30 e31)).ego (pl [8]) (by simp) (by simp) (by intro i j hi;simp at hi) (by intro i hi hi';simp at hi hi';first|omega|(subst hi';simp[pl])) (by simp_all) (by simp_all) ?_
    have hF:=oc hF;obtain⟨c32,hF⟩:=hF
    have hF:=oc hF;obtain⟨c33,hF⟩:=hF
    have w34:i64.wrap ((i24:Int)+1)=(i24:Int)+1:=ZD (by omega) (by omega)
    repeat first|refine cg ?_|simp -dsimp[w34]
    refine zY ((ih_impl_split__o0_l3 (more23++[(⟨x21.op,x21.ctor,x21.n,x21.m,x21.var,v30++[x28]⟩:Pattern)]) (i24+1) o hF) _ rfl _ hq)
   ·refine zU [(4,2)] [0,1,3,4,2,5,6,7] [80] [(0,1),(0,1),(0,0),(0,4),(0,4),(0,4),(3,3),(0,4)] [0,2,1,1,1,1,1,1] follows (by kernel_rfl) (by kernel_rfl) (by kernel_rfl) (by kernel_rfl) ?_
    repeat first|refine cg ?_|simp -dsimp
    have hF:=ob hF;obtain⟨v30,e31,hF⟩:=hF
    refine((C.f150 B hB1 hB2 x21.kids v30 e31)).ego (pl [9]) (by simp) (by simp) (by intro i j hi;simp at hi) (by intro i hi hi';simp at hi hi';first|omega|(subst hi';simp[pl])) (by simp_all) (by simp_all) ?_
    have hF:=oc hF;obtain⟨c32,hF⟩:=hF
    have hF:=oc hF;obtain⟨c33,hF⟩:=hF
    have w34:i64.wrap ((i24:Int)+1)=(i24:Int)+1:=ZD (by omega) (by omega)
    repeat first|refine cg ?_|simp -dsimp[w34]
    refine zY ((ih_impl_split__o0_l3 (more23++[(⟨x21.op,x21.ctor,x21.n,x21.m,x21.var,v30++[x28]⟩:Pattern)]) (i24+1) o hF) _ rfl _ hq)
  ·have z27:¬((i24:Int)<(v15.length:Int)):=auz
   cases hF
   repeat first|refine cg ?_|simp -dsimp[h25,q26,z27]
   refine zZ hq
theorem CC.impl_split__o0_l2 (p:Pattern)(list:List Pattern)(i:Nat)(v15:List Pattern):(∀(more:List Pattern) (i17:Nat) (o:List Pattern),F.f152 p list i v15 more i17=some o->∀(c:Code),ZZ [1,1,1,1,1,0,1,0,0,1,1,0,0,1,1,1,0,1,0,0] (ZI Tryz.f54)=some c->∀(Q:Exit->ASt->Prop),(Q (.exit 2) ⟨[(8,.own 4 (zA (α:=Pattern) o)),(33,am zJ p.kids),(34,li (p.kids.length:Int)),(35,li (i:Int))],[.dead,.dead,.dead,.dead,.elems 6 (zB zJ o)]⟩)->ALoopU zQ B 0 70 (hold c .mk) ⟨[(7,.own 3 (zA (α:=Pattern) v15)),(8,.own 4 (zA (α:=Pattern) more)),(33,am zJ p.kids),(34,li (p.kids.length:Int)),(35,li (i:Int)),(41,.own 1 (zA (α:=Pattern) list)),(42,li (list.length:Int)),(43,li (i17:Int))],[.dead,.elems 6 (zB zJ list),.dead,.elems 6 (zB zJ v15),.elems 6 (zB zJ more)]⟩ (hold Q .mk)):=by
 refine F.f152.partial_correctness p list i v15
  _
  ?_
 ·intro _f_impl_split__o0_l2 ih_impl_split__o0_l2 more i17 o hF
  refine ZJ rfl fun Q hq hk hs=> ?_
  have b33:=hk 33
  simp -dsimp at b33
  have d1:=hs 1 _ rfl
  simp -dsimp[zR]at d1
  have d3:=hs 3 _ rfl
  simp -dsimp[zR]at d3
  have d4:=hs 4 _ rfl
  simp -dsimp[zR]at d4
  clear hk hs
  refine eN ?_
  repeat first|refine cg ?_|simp -dsimp
  revert hF;refine aS ?_ ?_<;>intro h18 q19 hF
  ·have z20:((i17:Int)<(list.length:Int)):=auz
   have hF:=ob hF;obtain⟨x21,e22,hF⟩:=hF
   have le22:=ZC e22
   repeat first|refine cg ?_|simp -dsimp[h18,z20,↓e22]
   have hF:=ob hF;obtain⟨o',ho35,hF⟩:=hF
   refine zL (((CC.impl_split__o0_l3 B hB1 hB2 p list i v15 i17 x21) more 0 o' ho35) _ rfl _ ?_)
   have hF:=oc hF;obtain⟨c36,hF⟩:=hF
   have w37:i64.wrap ((i17:Int)+1)=(i17:Int)+1:=ZD (by omega) (by omega)
   repeat first|refine cg ?_|simp -dsimp[w37]
   refine zY ((ih_impl_split__o0_l2 o' (i17+1) o hF) _ rfl _ hq)
  ·have z20:¬((i17:Int)<(list.length:Int)):=auz
   cases hF
   repeat first|refine cg ?_|simp -dsimp[h18,q19,z20]
   refine zZ hq
theorem CC.impl_split__o0  :(∀(p:Pattern) (r:List Pattern),F.f153 p=some r->BCall zQ B 54 [] [.agg [li p.op,li p.ctor,li p.n,li p.m,li p.var,am zJ p.kids]] (.own 0 (zA (α:=Pattern) r)) [.elems 6 (zB zJ r)])/\
  (∀(p:Pattern) (list:List Pattern) (i:Nat) (o:List Pattern),F.f154 p list i=some o->∀(c:Code),ZZ [1,1,1,1,1,0,1,0,0] (ZI Tryz.f54)=some c->∀(Q:Exit->ASt->Prop),(Q (.exit 0) ⟨[(4,.own 1 (zA (α:=Pattern) o))],[.dead,.elems 6 (zB zJ o)]⟩)->ALoopU zQ B 0 70 (hold c .mk) ⟨[(4,.own 1 (zA (α:=Pattern) list)),(33,am zJ p.kids),(34,li (p.kids.length:Int)),(35,li (i:Int))],[.dead,.elems 6 (zB zJ list)]⟩ (hold Q .mk)):=by
 refine F.f153.mutual_partial_correctness 
  _ _
  ?_ ?_
 ·intro _f_impl_split__o0 _f_impl_split__o0_l1 ih_impl_split__o0 ih_impl_split__o0_l1 p r hF
  refine yD (τ1:=[]) (ys:=[.own 0 (zA (α:=Pattern) r)]) (news:=[(6,zB zJ r)]) func54 (by kernel_rfl) rfl ntmps54 (by simp) rfl rfl (by simp) (by simp) (by simp) (by simp) (by simp) (by simp) (gR _) ?_
  repeat first|refine cg ?_|simp -dsimp
  revert hF;refine aS ?_ ?_<;>intro h1 q2 hF
  ·repeat first|refine cg ?_|simp -dsimp[h1]
   refine zS [54] [(0,0),(0,0),(0,0),(0,0),(0,3),(0,1),(0,1),(0,1),(0,1),(0,3),(0,3),(3,3)] [1,1,1,1,1,0,2,0,0,1,1,1] follows ?_
   have hF:=ob hF;obtain⟨x,e3,hF⟩:=hF
   have le3:=ZC e3
   repeat first|refine cg ?_|simp -dsimp[↓e3]
   have hF:=ob hF;obtain⟨v,e4,hF⟩:=hF
   refine((ih_impl_split__o0 x v e4)).ego (pl [1]) (by simp) (by simp) (by intro i j hi;simp at hi) (by intro i hi hi';simp at hi hi';have hi:i=0:=(by omega);rcases hi with rfl<;>simp[pl]) (by simp_all) (by simp_all) ?_
   have hF:=ob hF;obtain⟨x5,e6,hF⟩:=hF
   have le6:=ZC e6
   repeat first|refine cg ?_|simp -dsimp[↓e6]
   have hF:=ob hF;obtain⟨v7,e8,hF⟩:=hF
   refine((ih_impl_split__o0 x5 v7 e8)).ego (pl [2]) (by simp) (by simp) (by intro i j hi;simp at hi) (by intro i hi hi';simp at hi hi';have hi:i=0:=(by omega);rcases hi with rfl<;>simp[pl]) (by simp_all) (by simp_all) ?_
   have hF:=oc hF;obtain⟨c9,hF⟩:=hF
   cases hF
   repeat first|refine cg ?_|simp -dsimp
   all_goals(try first|omega|rfl|(simp;done)|(simp only[zC,zD]at*;omega)|simp)
  ·repeat first|refine cg ?_|simp -dsimp[q2]
   have hF:=ob hF;obtain⟨o'43,ho42,hF⟩:=hF
   refine zL ((ih_impl_split__o0_l1 p [(⟨p.op,p.ctor,p.n,p.m,p.var,[]⟩:Pattern)] 0 o'43 ho42) _ rfl _ ?_)
   cases hF
   repeat first|refine cg ?_|simp -dsimp
   all_goals(try first|omega|rfl|(simp;done)|(simp only[zC,zD]at*;omega)|simp)
 ·intro _f_impl_split__o0 _f_impl_split__o0_l1 ih_impl_split__o0 ih_impl_split__o0_l1 p list i o hF
  refine ZJ rfl fun Q hq hk hs=> ?_
  have b33:=hk 33
  simp -dsimp at b33
  have d1:=hs 1 _ rfl
  simp -dsimp[zR]at d1
  clear hk hs
  refine eN ?_
  repeat first|refine cg ?_|simp -dsimp
  revert hF;refine aS ?_ ?_<;>intro h10 q11 hF
  ·have z12:((i:Int)<(p.kids.length:Int)):=auz
   have hF:=ob hF;obtain⟨x13,e14,hF⟩:=hF
   have le14:=ZC e14
   repeat first|refine cg ?_|simp -dsimp[h10,z12,↓e14]
   have hF:=ob hF;obtain⟨v15,e16,hF⟩:=hF
   refine((ih_impl_split__o0 x13 v15 e16)).go (pl [3]) (by simp) (by simp) (by intro i j hi;simp at hi) (by intro i hi hi';simp at hi hi';have hi:i=0:=(by omega);rcases hi with rfl<;>simp[pl]) (by simp_all) (by simp_all) ?_
   repeat first|refine cg ?_|simp -dsimp
   have hF:=ob hF;obtain⟨o'39,ho38,hF⟩:=hF
   refine zM ⟨[(7,.own 3 (zA (α:=Pattern) v15)),(8,.own 4 (zA (α:=Pattern) [])),(33,.arr (zB zJ p.kids)),(34,.lit (.int .i64 (p.kids.length:Int))),(35,.lit (.int .i64 (i:Int))),(41,.own 1 (zA (α:=Pattern) list)),(42,.lit (.int .i64 (list.length:Int))),(43,.lit (.int .i64 0))],[.dead,.elems 6 (zB zJ list),.dead,.elems 6 (zB zJ v15),.elems 6 (zB zJ [])]⟩ (by refine zN (zO 8 6 (by simp -dsimp)) ?_;exact(gT (by simp) (by simp_all))) ?_
   refine((CC.impl_split__o0_l2 B hB1 hB2 p list i v15) [] 0 o'39 ho38) _ rfl _ ?_
   have hF:=oc hF;obtain⟨c40,hF⟩:=hF
   have w41:i64.wrap ((i:Int)+1)=(i:Int)+1:=ZD (by omega) (by omega)
   repeat first|refine cg ?_|simp -dsimp[w41]
   refine aG ⟨[(4,.own 1 (zA (α:=Pattern) o'39)),(33,.arr (zB zJ p.kids)),(34,.lit (.int .i64 (p.kids.length:Int))),(35,.lit (.int .i64 ((i+1):Int)))],[.dead,.elems 6 (zB zJ o'39)]⟩ (by refine zN (Gh.swap 1 4 (by decide) (by decide) (by simp) (by simp) (by simp)) ?_;exact(gT (by simp) (by simp_all))) ?_
   exact(ih_impl_split__o0_l1 p o'39 (i+1) o hF) _ rfl _ hq
  ·have z12:¬((i:Int)<(p.kids.length:Int)):=auz
   cases hF
   repeat first|refine cg ?_|simp -dsimp[h10,q11,z12]
   refine zZ hq
theorem CC.f155 (list:List Clause):(∀(out:List (List Pattern)) (i:Nat) (o:Lo ((List (List Pattern))×Bool) (List (List Pattern))),F.f155 list out i=some o->∀(c:Code),ZZ [1,1,0,1,0,0] (ZI Tryz.f29)=some c->∀(Q:Exit->ASt->Prop),o.post (fun r=>∀st,ZAm zQ Tryz.f29 (fun r' _=>r'.le (.tup [am (cL zJ) r.1,.lit (.bool r.2)])) .ret st->Q .ret st) (fun s=>Q (.exit 0) ⟨[(4,.own 0 (zA (α:=List Pattern) s))],[.elems 1 (zB (cL zJ) s)]⟩)->ALoopU zQ B 0 25 (hold c .mk) ⟨[(4,.own 0 (zA (α:=List Pattern) out)),(7,am yB list),(8,li (list.length:Int)),(9,li (i:Int))],[.elems 1 (zB (cL zJ) out)]⟩ (hold Q .mk)):=by
 refine F.f155.partial_correctness list
  _
  ?_
 ·intro _f_f155 ih_f155 out i o hF
  refine ZJ rfl fun Q hq hk hs=> ?_
  have b7:=hk 7
  simp -dsimp at b7
  have d0:=hs 0 _ rfl
  simp -dsimp[zR]at d0
  clear hk hs
  refine eN ?_
  repeat first|refine cg ?_|simp -dsimp
  revert hF;refine aS ?_ ?_<;>intro h1 q2 hF
  ·have z3:((i:Int)<(list.length:Int)):=auz
   have hF:=ob hF;obtain⟨x,e4,hF⟩:=hF
   have le4:=ZC e4
   repeat first|refine cg ?_|simp -dsimp[h1,z3,↓e4]
   have hF:=ob hF;obtain⟨v,e5,hF⟩:=hF
   refine(((CC.f147 B hB1 hB2).1 x.pat v e5)).goI ?_
   repeat first|refine cg ?_|simp -dsimp
   revert hF;refine aS ?_ ?_<;>intro h6 q7 hF
   ·cases hF
    repeat first|refine cg ?_|simp -dsimp[h6]
    refine lG _ (gR _) (hq _ ?_)
    repeat first|refine cg ?_|simp -dsimp
   ·repeat first|refine cg ?_|simp -dsimp[q7]
    have hF:=ob hF;obtain⟨v8,e9,hF⟩:=hF
    refine(((CC.impl_split__o0 B hB1 hB2).1 x.pat v8 e9)).go (pl [2]) (by simp) (by simp) (by intro i j hi;simp at hi) (by intro i hi hi';simp at hi hi';have hi:i=0:=(by omega);rcases hi with rfl<;>simp[pl]) (by simp_all) (by simp_all) ?_
    have hF:=oc hF;obtain⟨c10,hF⟩:=hF
    have w11:i64.wrap ((i:Int)+1)=(i:Int)+1:=ZD (by omega) (by omega)
    repeat first|refine cg ?_|simp -dsimp[w11]
    refine zY ((ih_f155 (out++[v8]) (i+1) o hF) _ rfl _ hq)
  ·have z3:¬((i:Int)<(list.length:Int)):=auz
   cases hF
   repeat first|refine cg ?_|simp -dsimp[h1,q2,z3]
   refine zZ hq
theorem C.f156 (list:List Clause)(r:(List (List Pattern))×Bool)(hF:F.f156 list=some r):PureCall zQ B 29 [am yB list] (.tup [am (cL zJ) r.1,.lit (.bool r.2)]):=by
 unfold F.f156 at hF
 refine yA func29 rfl ntmps29 ?_
 repeat first|refine cg ?_|simp -dsimp
 have hF:=ob hF;obtain⟨o',ho12,hF⟩:=hF
 refine zM ⟨[(4,.own 0 (zA (α:=List Pattern) [])),(7,.arr (zB yB list)),(8,.lit (.int .i64 (list.length:Int))),(9,.lit (.int .i64 0))],[.elems 1 (zB (cL zJ) [])]⟩ (by refine zN (zO 4 1 (by simp -dsimp)) ?_;exact(gT (by simp) (by simp -dsimp))) ?_
 refine((CC.f155 B hB1 hB2 list) [] 0 o' ho12) _ rfl _ ?_
 rcases o' with r0|sx
 ·dsimp only at hF
  cases hF
  intro st h
  simpa using h
 ·dsimp only at hF
  cases hF
  repeat first|refine cg ?_|simp -dsimp
theorem C.f157 (s:List Int)(r:List Int)(hF:F.f157 s=some r):BCall zQ B 55 [] [am cI s] (.own 0 (zA (α:=Int) r)) [.elems 1 (zB cI r)]:=by
 unfold F.f157 at hF
 have hF:=oc hF;obtain⟨c1,hF⟩:=hF
 cases hF
 cases s with
 |nil=>
  refine yE fun a c=> ?_
  cases a
  ·refine yF 1 (by simp) (by simp) ?_
   refine yA func55 rfl ntmps55 ?_
   repeat first|refine cg ?_|simp -dsimp
  ·refine yC func55 (by kernel_rfl) rfl ntmps55 (by simp) rfl (by simp) (by simp) (by simp) (by simp) (by simp) (gR _) ?_
   repeat first|refine cg ?_|simp -dsimp
 |cons x xs=>
  have c1:xs.length+1<=67108864:=by simpa using c1
  refine yC func55 (by kernel_rfl) rfl ntmps55 (by simp) rfl (by simp) (by simp) (by simp) (by simp) (by simp) (gR _) ?_
  repeat first|refine cg ?_|simp -dsimp
theorem CC.impl_tests__g  :(∀(p:Pattern) (path:List Int) (steps':List Step) (binds:List PathBind) (r:(List Step)×(List PathBind)),F.f158 p path steps' binds=some r->BCall zQ B 30 [.cells [.own 2 (zA (α:=Step) steps')],.cells [.own 3 (zA (α:=PathBind) binds)],.elems 8 (zB yG steps'),.elems 2 (zB yH binds)] [.agg [li p.op,li p.ctor,li p.n,li p.m,li p.var,am zJ p.kids],am cI path,.ptr 0 0,.ptr 1 0] (.tup []) [.cells [.own 2 (zA (α:=Step) r.1)],.cells [.own 3 (zA (α:=PathBind) r.2)],.elems 8 (zB yG r.1),.elems 2 (zB yH r.2)])/\
  (∀(p:Pattern) (path:List Int) (out94:List Step) (out95:List PathBind) (i96:Nat) (o:(List Step)×(List PathBind)),F.f163 p path out94 out95 i96=some o->∀(c:Code),ZZ [1,1,1,1,0,0] (ZI Tryz.f30)=some c->∀(Q:Exit->ASt->Prop),(Q (.exit 1) ⟨[],[.cells [.own 2 (zA (α:=Step) o.1)],.cells [.own 3 (zA (α:=PathBind) o.2)],.elems 8 (zB yG o.1),.elems 2 (zB yH o.2)]⟩)->ALoopU zQ B 4 81 (hold c .mk) ⟨[(1,am cI path),(2,.ptr 0 0),(3,.ptr 1 0),(4,.ptr 4 0),(59,am zJ p.kids),(60,li (p.kids.length:Int)),(61,li (i96:Int))],[.cells [.own 2 (zA (α:=Step) out94)],.cells [.own 3 (zA (α:=PathBind) out95)],.elems 8 (zB yG out94),.elems 2 (zB yH out95),.cells [li p.op,li p.ctor,li p.n,li p.m,li p.var,am zJ p.kids]]⟩ (hold Q .mk))/\
  (∀(p:Pattern) (path:List Int) (out73:List Step) (out74:List PathBind) (i75:Nat) (o:(List Step)×(List PathBind)),F.f162 p path out73 out74 i75=some o->∀(c:Code),ZZ [1,1,1,1,0,0] (ZI Tryz.f30)=some c->∀(Q:Exit->ASt->Prop),(Q (.exit 1) ⟨[],[.cells [.own 2 (zA (α:=Step) o.1)],.cells [.own 3 (zA (α:=PathBind) o.2)],.elems 8 (zB yG o.1),.elems 2 (zB yH o.2)]⟩)->ALoopU zQ B 4 81 (hold c .mk) ⟨[(1,am cI path),(2,.ptr 0 0),(3,.ptr 1 0),(4,.ptr 4 0),(59,am zJ p.kids),(60,li (p.kids.length:Int)),(61,li (i75:Int))],[.cells [.own 2 (zA (α:=Step) out73)],.cells [.own 3 (zA (α:=PathBind) out74)],.elems 8 (zB yG out73),.elems 2 (zB yH out74),.cells [li p.op,li p.ctor,li p.n,li p.m,li p.var,am zJ p.kids]]⟩ (hold Q .mk))/\
  (∀(p:Pattern) (path:List Int) (out49:List Step) (out50:List PathBind) (i51:Nat) (o:(List Step)×(List PathBind)),F.f161 p path out49 out50 i51=some o->∀(c:Code),ZZ [1,1,1,1,0,0] (ZI Tryz.f30)=some c->∀(Q:Exit->ASt->Prop),(Q (.exit 1) ⟨[],[.cells [.own 2 (zA (α:=Step) o.1)],.cells [.own 3 (zA (α:=PathBind) o.2)],.elems 8 (zB yG o.1),.elems 2 (zB yH o.2)]⟩)->ALoopU zQ B 4 81 (hold c .mk) ⟨[(1,am cI path),(2,.ptr 0 0),(3,.ptr 1 0),(4,.ptr 4 0),(59,am zJ p.kids),(60,li (p.kids.length:Int)),(61,li (i51:Int))],[.cells [.own 2 (zA (α:=Step) out49)],.cells [.own 3 (zA (α:=PathBind) out50)],.elems 8 (zB yG out49),.elems 2 (zB yH out50),.cells [li p.op,li p.ctor,li p.n,li p.m,li p.var,am zJ p.kids]]⟩ (hold Q .mk))/\
  (∀(p:Pattern) (path:List Int) (out25:List Step) (out26:List PathBind) (i27:Nat) (o:(List Step)×(List PathBind)),F.f160 p path out25 out26 i27=some o->∀(c:Code),ZZ [1,1,1,1,0,0] (ZI Tryz.f30)=some c->∀(Q:Exit->ASt->Prop),(Q (.exit 1) ⟨[],[.cells [.own 2 (zA (α:=Step) o.1)],.cells [.own 3 (zA (α:=PathBind) o.2)],.elems 8 (zB yG o.1),.elems 2 (zB yH o.2)]⟩)->ALoopU zQ B 4 81 (hold c .mk) ⟨[(1,am cI path),(2,.ptr 0 0),(3,.ptr 1 0),(4,.ptr 4 0),(59,am zJ p.kids),(60,li (p.kids.length:Int)),(61,li (i27:Int))],[.cells [.own 2 (zA (α:=Step) out25)],.cells [.own 3 (zA (α:=PathBind) out26)],.elems 8 (zB yG out25),.elems 2 (zB yH out26),.cells [li p.op,li p.ctor,li p.n,li p.m,li p.var,am zJ p.kids]]⟩ (hold Q .mk))/\
  (∀(p:Pattern) (path:List Int) (out:List Step) (out5:List PathBind) (i:Nat) (o:(List Step)×(List PathBind)),F.f159 p path out out5 i=some o->∀(c:Code),ZZ [1,1,1,1,0,0] (ZI Tryz.f30)=some c->∀(Q:Exit->ASt->Prop),(Q (.exit 1) ⟨[],[.cells [.own 2 (zA (α:=Step) o.1)],.cells [.own 3 (zA (α:=PathBind) o.2)],.elems 8 (zB yG o.1),.elems 2 (zB yH o.2)]⟩)->ALoopU zQ B 4 81 (hold c .mk) ⟨[(1,am cI path),(2,.ptr 0 0),(3,.ptr 1 0),(4,.ptr 4 0),(59,am zJ p.kids),(60,li (p.kids.length:Int)),(61,li (i:Int))],[.cells [.own 2 (zA (α:=Step) out)],.cells [.own 3 (zA (α:=PathBind) out5)],.elems 8 (zB yG out),.elems 2 (zB yH out5),.cells [li p.op,li p.ctor,li p.n,li p.m,li p.var,am zJ p.kids]]⟩ (hold Q .mk)):=by
 refine F.f158.mutual_partial_correctness 
  _ _ _ _ _ _
  ?_ ?_ ?_ ?_ ?_ ?_
 ·intro _f_impl_tests__g_l5 _f_impl_tests__g_l4 _f_impl_tests__g_l3 _f_impl_tests__g_l2 _f_impl_tests__g_l1 ih_impl_tests__g_l5 ih_impl_tests__g_l4 ih_impl_tests__g_l3 ih_impl_tests__g_l2 ih_impl_tests__g_l1 p path steps' binds r hF
  refine yC func30 (by kernel_rfl) rfl ntmps30 (by simp) rfl (by simp) (by simp) (by simp) (by simp) (by simp) (gR _) ?_
  repeat first|refine cg ?_|simp -dsimp
  have hF:=ob hF;obtain⟨v,e1,hF⟩:=hF
  refine((C.f157 B hB1 hB2 path v e1)).go (pl [5]) (by simp) (by simp) (by intro i j hi;simp at hi) (by intro i hi hi';simp at hi hi';first|omega|(subst hi';simp[pl])) (by simp) (by simp) ?_
  repeat first|refine cg ?_|simp -dsimp
  revert hF;refine aS ?_ ?_<;>intro h2 q3 hF
  ·repeat first|refine cg ?_|simp -dsimp[h2]
   refine zS [1000074] [(0,3),(0,2),(0,2),(0,2),(0,0),(0,0),(0,0),(0,4),(0,4),(0,4),(3,3),(0,4)] [1,1,0,2,1,1,1,1,1,1,1,1] follows ?_
   have hF:=oc hF;obtain⟨c4,hF⟩:=hF
   repeat first|refine cg ?_|simp -dsimp
   have hF:=ob hF;obtain⟨o',ho21,hF⟩:=hF
   refine zL ((ih_impl_tests__g_l1 p path steps' (binds++[(⟨p.var,v⟩:PathBind)]) 0 o' ho21) _ rfl _ ?_)
   cases hF
   repeat first|refine cg ?_|simp -dsimp
   all_goals(try first|omega|rfl|(simp;done)|(simp only[zC,zD]at*;omega)|simp)
  ·repeat first|refine cg ?_|simp -dsimp[q3]
   revert hF;refine aS ?_ ?_<;>intro h22 q23 hF
   ·repeat first|refine cg ?_|simp -dsimp[h22]
    refine zS [1000074] [(0,3),(0,2),(0,2),(0,2),(0,0),(0,0),(0,0),(0,4),(0,4),(0,4),(3,3),(0,4)] [1,1,0,2,1,1,1,1,1,1,1,1] follows ?_
    have hF:=oc hF;obtain⟨c24,hF⟩:=hF
    repeat first|refine cg ?_|simp -dsimp
    have hF:=ob hF;obtain⟨o'45,ho44,hF⟩:=hF
    refine zL ((ih_impl_tests__g_l2 p path steps' (binds++[(⟨p.var,v⟩:PathBind)]) 0 o'45 ho44) _ rfl _ ?_)
    cases hF
    repeat first|refine cg ?_|simp -dsimp
    all_goals(try first|omega|rfl|(simp;done)|(simp only[zC,zD]at*;omega)|simp)
   ·repeat first|refine cg ?_|simp -dsimp[q23]
    revert hF;refine aS ?_ ?_<;>intro h46 q47 hF
    ·repeat first|refine cg ?_|simp -dsimp[h46]
     refine zS [1000041] [(0,3),(0,2),(0,2),(0,2),(0,0),(0,0),(0,0),(0,0),(0,0),(0,4),(0,4),(0,4),(3,3),(0,4)] [1,1,0,2,1,1,1,1,1,1,1,1,1,1] follows ?_
     have hF:=oc hF;obtain⟨c48,hF⟩:=hF
     repeat first|refine cg ?_|simp -dsimp
     have hF:=ob hF;obtain⟨o'69,ho68,hF⟩:=hF
     refine zL ((ih_impl_tests__g_l3 p path (steps'++[(⟨1,v,(-1),p.n,p.m,0,[],0⟩:Step)]) binds 0 o'69 ho68) _ rfl _ ?_)
     cases hF
     repeat first|refine cg ?_|simp -dsimp
     all_goals(try first|omega|rfl|(simp;done)|(simp only[zC,zD]at*;omega)|simp)
    ·repeat first|refine cg ?_|simp -dsimp[q47]
     revert hF;refine aS ?_ ?_<;>intro h70 q71 hF
     ·repeat first|refine cg ?_|simp -dsimp[h70]
      refine zS [1000041] [(0,3),(0,2),(0,2),(0,2),(0,0),(0,0),(0,0),(0,4),(0,4),(0,4),(3,3),(0,4)] [1,1,0,2,1,1,1,1,1,1,1,1] follows ?_
      have hF:=oc hF;obtain⟨c72,hF⟩:=hF
      repeat first|refine cg ?_|simp -dsimp
      have hF:=ob hF;obtain⟨o'93,ho92,hF⟩:=hF
      refine zL ((ih_impl_tests__g_l4 p path (steps'++[(⟨1,v,p.ctor,0,0,0,[],0⟩:Step)]) binds 0 o'93 ho92) _ rfl _ ?_)
      cases hF
      repeat first|refine cg ?_|simp -dsimp
      all_goals(try first|omega|rfl|(simp;done)|(simp only[zC,zD]at*;omega)|simp)
     ·repeat first|refine cg ?_|simp -dsimp[q71]
      have hF:=ob hF;obtain⟨o'114,ho113,hF⟩:=hF
      refine zL ((ih_impl_tests__g_l5 p path steps' binds 0 o'114 ho113) _ rfl _ ?_)
      cases hF
      repeat first|refine cg ?_|simp -dsimp
      all_goals(try first|omega|rfl|(simp;done)|(simp only[zC,zD]at*;omega)|simp)
 ·intro _f_impl_tests__g _f_impl_tests__g_l5 ih_impl_tests__g ih_impl_tests__g_l5 p path out94 out95 i96 o hF
  refine ZJ rfl fun Q hq hk hs=> ?_
  have b1:=hk 1
  simp -dsimp at b1
  have b59:=hk 59
  simp -dsimp at b59
  have d2:=hs 2 _ rfl
  simp -dsimp[zR]at d2
  have d3:=hs 3 _ rfl
  simp -dsimp[zR]at d3
  have d4:=hs 4 _ rfl
  simp -dsimp[zR]at d4
  clear hk hs
  refine eN ?_
  repeat first|refine cg ?_|simp -dsimp
  revert hF;refine aS ?_ ?_<;>intro h97 q98 hF
  ·have z99:((i96:Int)<(p.kids.length:Int)):=auz
   have hF:=ob hF;obtain⟨x100,e101,hF⟩:=hF
   have le101:=ZC e101
   repeat first|refine cg ?_|simp -dsimp[h97,z99,↓e101]
   revert hF;refine aS ?_ ?_<;>intro h102 q103 hF
   ·repeat first|refine cg ?_|simp -dsimp[h102]
    have hF:=ob hF;obtain⟨v104,e105,hF⟩:=hF
    refine((C.f157 B hB1 hB2 path v104 e105)).go (pl [6]) (by simp) (by simp) (by intro i j hi;simp at hi) (by intro i hi hi';simp at hi hi';first|omega|(subst hi';simp[pl])) (by simp_all) (by simp_all) ?_
    have hF:=oc hF;obtain⟨c106,hF⟩:=hF
    repeat first|refine cg ?_|simp -dsimp
    have hF:=ob hF;obtain⟨v107,e108,hF⟩:=hF
    refine yI 1 (l:=6) (n:=zA (α:=Int) (v104++[(i96:Int)])) (sz:=1) (es:=zB cI (v104++[(i96:Int)])) (by simp) (by simp) (by simp) (by simp) ?_
    repeat first|refine cg ?_|simp -dsimp
    refine((ih_impl_tests__g x100 (v104++[(i96:Int)]) out94 out95 v107 e108)).go (pl [0,1,2,3]) (by simp) (by simp) (Zy _ rfl (by decide)) (by intro i hi hi';simp at hi hi';omega) (by simp_all) (by simp_all) ?_
    have w109:i64.wrap ((i96:Int)+1)=(i96:Int)+1:=ZD (by omega) (by omega)
    repeat first|refine cg ?_|simp -dsimp[w109]
    refine zY ((ih_impl_tests__g_l5 p path v107.1 v107.2 (i96+1) o hF) _ rfl _ hq)
   ·repeat first|refine cg ?_|simp -dsimp[q103]
    have hF:=ob hF;obtain⟨v110,e111,hF⟩:=hF
    refine((ih_impl_tests__g x100 path out94 out95 v110 e111)).go (pl [0,1,2,3]) (by simp) (by simp) (Zy _ rfl (by decide)) (by intro i hi hi';simp at hi hi';omega) (by simp_all) (by simp_all) ?_
    have w112:i64.wrap ((i96:Int)+1)=(i96:Int)+1:=ZD (by omega) (by omega)
    repeat first|refine cg ?_|simp -dsimp[w112]
    refine zY ((ih_impl_tests__g_l5 p path v110.1 v110.2 (i96+1) o hF) _ rfl _ hq)
  ·have z99:¬((i96:Int)<(p.kids.length:Int)):=auz
   cases hF
   repeat first|refine cg ?_|simp -dsimp[h97,q98,z99]
   refine zZ hq
 ·intro _f_impl_tests__g _f_impl_tests__g_l4 ih_impl_tests__g ih_impl_tests__g_l4 p path out73 out74 i75 o hF
  refine ZJ rfl fun Q hq hk hs=> ?_
  have b1:=hk 1
  simp -dsimp at b1
  have b59:=hk 59
  simp -dsimp at b59
  have d2:=hs 2 _ rfl
  simp -dsimp[zR]at d2
  have d3:=hs 3 _ rfl
  simp -dsimp[zR]at d3
  have d4:=hs 4 _ rfl
  simp -dsimp[zR]at d4
  clear hk hs
  refine eN ?_
  repeat first|refine cg ?_|simp -dsimp
  revert hF;refine aS ?_ ?_<;>intro h76 q77 hF
  ·have z78:((i75:Int)<(p.kids.length:Int)):=auz
   have hF:=ob hF;obtain⟨x79,e80,hF⟩:=hF
   have le80:=ZC e80
   repeat first|refine cg ?_|simp -dsimp[h76,z78,↓e80]
   revert hF;refine aS ?_ ?_<;>intro h81 q82 hF
   ·repeat first|refine cg ?_|simp -dsimp[h81]
    have hF:=ob hF;obtain⟨v83,e84,hF⟩:=hF
    refine((C.f157 B hB1 hB2 path v83 e84)).go (pl [6]) (by simp) (by simp) (by intro i j hi;simp at hi) (by intro i hi hi';simp at hi hi';first|omega|(subst hi';simp[pl])) (by simp_all) (by simp_all) ?_
    have hF:=oc hF;obtain⟨c85,hF⟩:=hF
    repeat first|refine cg ?_|simp -dsimp
    have hF:=ob hF;obtain⟨v86,e87,hF⟩:=hF
    refine yI 1 (l:=6) (n:=zA (α:=Int) (v83++[(i75:Int)])) (sz:=1) (es:=zB cI (v83++[(i75:Int)])) (by simp) (by simp) (by simp) (by simp) ?_
    repeat first|refine cg ?_|simp -dsimp
    refine((ih_impl_tests__g x79 (v83++[(i75:Int)]) out73 out74 v86 e87)).go (pl [0,1,2,3]) (by simp) (by simp) (Zy _ rfl (by decide)) (by intro i hi hi';simp at hi hi';omega) (by simp_all) (by simp_all) ?_
    have w88:i64.wrap ((i75:Int)+1)=(i75:Int)+1:=ZD (by omega) (by omega)
    repeat first|refine cg ?_|simp -dsimp[w88]
    refine zY ((ih_impl_tests__g_l4 p path v86.1 v86.2 (i75+1) o hF) _ rfl _ hq)
   ·repeat first|refine cg ?_|simp -dsimp[q82]
    have hF:=ob hF;obtain⟨v89,e90,hF⟩:=hF
    refine((ih_impl_tests__g x79 path out73 out74 v89 e90)).go (pl [0,1,2,3]) (by simp) (by simp) (Zy _ rfl (by decide)) (by intro i hi hi';simp at hi hi';omega) (by simp_all) (by simp_all) ?_
    have w91:i64.wrap ((i75:Int)+1)=(i75:Int)+1:=ZD (by omega) (by omega)
    repeat first|refine cg ?_|simp -dsimp[w91]
    refine zY ((ih_impl_tests__g_l4 p path v89.1 v89.2 (i75+1) o hF) _ rfl _ hq)
  ·have z78:¬((i75:Int)<(p.kids.length:Int)):=auz
   cases hF
   repeat first|refine cg ?_|simp -dsimp[h76,q77,z78]
   refine zZ hq
 ·intro _f_impl_tests__g _f_impl_tests__g_l3 ih_impl_tests__g ih_impl_tests__g_l3 p path out49 out50 i51 o hF
  refine ZJ rfl fun Q hq hk hs=> ?_
  have b1:=hk 1
  simp -dsimp at b1
  have b59:=hk 59
  simp -dsimp at b59
  have d2:=hs 2 _ rfl
  simp -dsimp[zR]at d2
  have d3:=hs 3 _ rfl
  simp -dsimp[zR]at d3
  have d4:=hs 4 _ rfl
  simp -dsimp[zR]at d4
  clear hk hs
  refine eN ?_
  repeat first|refine cg ?_|simp -dsimp
  revert hF;refine aS ?_ ?_<;>intro h52 q53 hF
  ·have z54:((i51:Int)<(p.kids.length:Int)):=auz
   have hF:=ob hF;obtain⟨x55,e56,hF⟩:=hF
   have le56:=ZC e56
   repeat first|refine cg ?_|simp -dsimp[h52,z54,↓e56]
   revert hF;refine aS ?_ ?_<;>intro h57 q58 hF
   ·repeat first|refine cg ?_|simp -dsimp[h57]
    have hF:=ob hF;obtain⟨v59,e60,hF⟩:=hF
    refine((C.f157 B hB1 hB2 path v59 e60)).go (pl [6]) (by simp) (by simp) (by intro i j hi;simp at hi) (by intro i hi hi';simp at hi hi';first|omega|(subst hi';simp[pl])) (by simp_all) (by simp_all) ?_
    have hF:=oc hF;obtain⟨c61,hF⟩:=hF
    repeat first|refine cg ?_|simp -dsimp
    have hF:=ob hF;obtain⟨v62,e63,hF⟩:=hF
    refine yI 1 (l:=6) (n:=zA (α:=Int) (v59++[(i51:Int)])) (sz:=1) (es:=zB cI (v59++[(i51:Int)])) (by simp) (by simp) (by simp) (by simp) ?_
    repeat first|refine cg ?_|simp -dsimp
    refine((ih_impl_tests__g x55 (v59++[(i51:Int)]) out49 out50 v62 e63)).go (pl [0,1,2,3]) (by simp) (by simp) (Zy _ rfl (by decide)) (by intro i hi hi';simp at hi hi';omega) (by simp_all) (by simp_all) ?_
    have w64:i64.wrap ((i51:Int)+1)=(i51:Int)+1:=ZD (by omega) (by omega)
    repeat first|refine cg ?_|simp -dsimp[w64]
    refine zY ((ih_impl_tests__g_l3 p path v62.1 v62.2 (i51+1) o hF) _ rfl _ hq)
   ·repeat first|refine cg ?_|simp -dsimp[q58]
    have hF:=ob hF;obtain⟨v65,e66,hF⟩:=hF
    refine((ih_impl_tests__g x55 path out49 out50 v65 e66)).go (pl [0,1,2,3]) (by simp) (by simp) (Zy _ rfl (by decide)) (by intro i hi hi';simp at hi hi';omega) (by simp_all) (by simp_all) ?_
    have w67:i64.wrap ((i51:Int)+1)=(i51:Int)+1:=ZD (by omega) (by omega)
    repeat first|refine cg ?_|simp -dsimp[w67]
    refine zY ((ih_impl_tests__g_l3 p path v65.1 v65.2 (i51+1) o hF) _ rfl _ hq)
  ·have z54:¬((i51:Int)<(p.kids.length:Int)):=auz
   cases hF
   repeat first|refine cg ?_|simp -dsimp[h52,q53,z54]
   refine zZ hq
 ·intro _f_impl_tests__g _f_impl_tests__g_l2 ih_impl_tests__g ih_impl_tests__g_l2 p path out25 out26 i27 o hF
  refine ZJ rfl fun Q hq hk hs=> ?_
  have b1:=hk 1
  simp -dsimp at b1
  have b59:=hk 59
  simp -dsimp at b59
  have d2:=hs 2 _ rfl
  simp -dsimp[zR]at d2
  have d3:=hs 3 _ rfl
  simp -dsimp[zR]at d3
  have d4:=hs 4 _ rfl
  simp -dsimp[zR]at d4
  clear hk hs
  refine eN ?_
  repeat first|refine cg ?_|simp -dsimp
  revert hF;refine aS ?_ ?_<;>intro h28 q29 hF
  ·have z30:((i27:Int)<(p.kids.length:Int)):=auz
   have hF:=ob hF;obtain⟨x31,e32,hF⟩:=hF
   have le32:=ZC e32
   repeat first|refine cg ?_|simp -dsimp[h28,z30,↓e32]
   revert hF;refine aS ?_ ?_<;>intro h33 q34 hF
   ·repeat first|refine cg ?_|simp -dsimp[h33]
    have hF:=ob hF;obtain⟨v35,e36,hF⟩:=hF
    refine((C.f157 B hB1 hB2 path v35 e36)).go (pl [6]) (by simp) (by simp) (by intro i j hi;simp at hi) (by intro i hi hi';simp at hi hi';first|omega|(subst hi';simp[pl])) (by simp_all) (by simp_all) ?_
    have hF:=oc hF;obtain⟨c37,hF⟩:=hF
    repeat first|refine cg ?_|simp -dsimp
    have hF:=ob hF;obtain⟨v38,e39,hF⟩:=hF
    refine yI 1 (l:=6) (n:=zA (α:=Int) (v35++[(i27:Int)])) (sz:=1) (es:=zB cI (v35++[(i27:Int)])) (by simp) (by simp) (by simp) (by simp) ?_
    repeat first|refine cg ?_|simp -dsimp
    refine((ih_impl_tests__g x31 (v35++[(i27:Int)]) out25 out26 v38 e39)).go (pl [0,1,2,3]) (by simp) (by simp) (Zy _ rfl (by decide)) (by intro i hi hi';simp at hi hi';omega) (by simp_all) (by simp_all) ?_
    have w40:i64.wrap ((i27:Int)+1)=(i27:Int)+1:=ZD (by omega) (by omega)
    repeat first|refine cg ?_|simp -dsimp[w40]
    refine zY ((ih_impl_tests__g_l2 p path v38.1 v38.2 (i27+1) o hF) _ rfl _ hq)
   ·repeat first|refine cg ?_|simp -dsimp[q34]
    have hF:=ob hF;obtain⟨v41,e42,hF⟩:=hF
    refine((ih_impl_tests__g x31 path out25 out26 v41 e42)).go (pl [0,1,2,3]) (by simp) (by simp) (Zy _ rfl (by decide)) (by intro i hi hi';simp at hi hi';omega) (by simp_all) (by simp_all) ?_
    have w43:i64.wrap ((i27:Int)+1)=(i27:Int)+1:=ZD (by omega) (by omega)
    repeat first|refine cg ?_|simp -dsimp[w43]
    refine zY ((ih_impl_tests__g_l2 p path v41.1 v41.2 (i27+1) o hF) _ rfl _ hq)
  ·have z30:¬((i27:Int)<(p.kids.length:Int)):=auz
   cases hF
   repeat first|refine cg ?_|simp -dsimp[h28,q29,z30]
   refine zZ hq
 ·intro _f_impl_tests__g _f_impl_tests__g_l1 ih_impl_tests__g ih_impl_tests__g_l1 p path out out5 i o hF
  refine ZJ rfl fun Q hq hk hs=> ?_
  have b1:=hk 1
  simp -dsimp at b1
  have b59:=hk 59
  simp -dsimp at b59
  have d2:=hs 2 _ rfl
  simp -dsimp[zR]at d2
  have d3:=hs 3 _ rfl
  simp -dsimp[zR]at d3
  have d4:=hs 4 _ rfl
  simp -dsimp[zR]at d4
  clear hk hs
  refine eN ?_
  repeat first|refine cg ?_|simp -dsimp
  revert hF;refine aS ?_ ?_<;>intro h6 q7 hF
  ·have z8:((i:Int)<(p.kids.length:Int)):=auz
   have hF:=ob hF;obtain⟨x,e9,hF⟩:=hF
   have le9:=ZC e9
   repeat first|refine cg ?_|simp -dsimp[h6,z8,↓e9]
   revert hF;refine aS ?_ ?_<;>intro h10 q11 hF
   ·repeat first|refine cg ?_|simp -dsimp[h10]
    have hF:=ob hF;obtain⟨v12,e13,hF⟩:=hF
    refine((C.f157 B hB1 hB2 path v12 e13)).go (pl [6]) (by simp) (by simp) (by intro i j hi;simp at hi) (by intro i hi hi';simp at hi hi';first|omega|(subst hi';simp[pl])) (by simp_all) (by simp_all) ?_
    have hF:=oc hF;obtain⟨c14,hF⟩:=hF
    repeat first|refine cg ?_|simp -dsimp
    have hF:=ob hF;obtain⟨v15,e16,hF⟩:=hF
    refine yI 1 (l:=6) (n:=zA (α:=Int) (v12++[(i:Int)])) (sz:=1) (es:=zB cI (v12++[(i:Int)])) (by simp) (by simp) (by simp) (by simp) ?_
    repeat first|refine cg ?_|simp -dsimp
    refine((ih_impl_tests__g x (v12++[(i:Int)]) out out5 v15 e16)).go (pl [0,1,2,3]) (by simp) (by simp) (Zy _ rfl (by decide)) (by intro i hi hi';simp at hi hi';omega) (by simp_all) (by simp_all) ?_
    have w17:i64.wrap ((i:Int)+1)=(i:Int)+1:=ZD (by omega) (by omega)
    repeat first|refine cg ?_|simp -dsimp[w17]
    refine zY ((ih_impl_tests__g_l1 p path v15.1 v15.2 (i+1) o hF) _ rfl _ hq)
   ·repeat first|refine cg ?_|simp -dsimp[q11]
    have hF:=ob hF;obtain⟨v18,e19,hF⟩:=hF
    refine((ih_impl_tests__g x path out out5 v18 e19)).go (pl [0,1,2,3]) (by simp) (by simp) (Zy _ rfl (by decide)) (by intro i hi hi';simp at hi hi';omega) (by simp_all) (by simp_all) ?_
    have w20:i64.wrap ((i:Int)+1)=(i:Int)+1:=ZD (by omega) (by omega)
    repeat first|refine cg ?_|simp -dsimp[w20]
    refine zY ((ih_impl_tests__g_l1 p path v18.1 v18.2 (i+1) o hF) _ rfl _ hq)
  ·have z8:¬((i:Int)<(p.kids.length:Int)):=auz
   cases hF
   repeat first|refine cg ?_|simp -dsimp[h6,q7,z8]
   refine zZ hq
theorem C.f164 (x:List PathBind)(r:List PathBind)(hF:F.f164 x=some r):BCall zQ B 31 [.elems 2 (zB yH x)] [.own 0 (zA (α:=PathBind) x),.fn (.func 32) [] []] (.tup []) [.elems 2 (zB yH r)]:=by
 unfold F.f164 at hF
 have hF:=oc hF;obtain⟨c1,hF⟩:=hF
 cases hF
 exact ZI8 (c:=yH) (key:=fun x=>x.var) Tryz.sort31 ⟨Tryz.f31,func31,by kernel_rfl,by kernel_rfl⟩ Tryz.isAgg74 Tryz.sizeOf74 (enters_of func32 (by kernel_rfl) rfl) Tryz.cmpK32 x (fun x=>⟨_,rfl,rfl⟩) (by simp) c1.1 c1.2
theorem CC.f165 (v4:(List (List Pattern))×Bool)(out:List Step)(i:Nat)(x:List Pattern)(i13:Nat)(v21:List PathBind):(∀(out24:List Step) (k:Nat) (o:List Step),F.f165 v4 out i x i13 v21 out24 k=some o->∀(c:Code),ZZ [1,1,1,1,1,0,1,0,0,1,1,0,0,1,1,0,1,0,0,1,1,0,0,1,1,1,1,1,0,1,0,0] (ZI Tryz.f12)=some c->∀(Q:Exit->ASt->Prop),(Q (.exit 4) ⟨[(10,.ptr 1 0),(11,li (i:Int)),(13,li (out.length:Int)),(17,.ptr 4 0),(32,am (cL zJ) v4.1),(33,li (v4.1.length:Int)),(34,li (i:Int)),(41,am zJ x),(42,li (x.length:Int)),(43,li (i13:Int))],[.dead,.cells [.own 2 (zA (α:=Step) o)],.elems 8 (zB yG o),.dead,.cells [.own 5 (zA (α:=PathBind) v21)],.elems 2 (zB yH v21)]⟩)->ALoopU zQ B 0 98 (hold c .mk) ⟨[(10,.ptr 1 0),(11,li (i:Int)),(13,li (out.length:Int)),(17,.ptr 4 0),(18,li (k:Int)),(32,am (cL zJ) v4.1),(33,li (v4.1.length:Int)),(34,li (i:Int)),(41,am zJ x),(42,li (x.length:Int)),(43,li (i13:Int))],[.dead,.cells [.own 2 (zA (α:=Step) out24)],.elems 8 (zB yG out24),.dead,.cells [.own 5 (zA (α:=PathBind) v21)],.elems 2 (zB yH v21)]⟩ (hold Q .mk)):=by
 refine F.f165.partial_correctness v4 out i x i13 v21
  _
  ?_
 ·intro _f_f165 ih_f165 out24 k o hF
  refine ZJ rfl fun Q hq hk hs=> ?_
  have b32:=hk 32
  simp -dsimp at b32
  have b41:=hk 41
  simp -dsimp at b41
  have d2:=hs 2 _ rfl
  simp -dsimp[zR]at d2
  have d5:=hs 5 _ rfl
  simp -dsimp[zR]at d5
  clear hk hs
  refine eN ?_
  repeat first|refine cg ?_|simp -dsimp
  revert hF;refine aS ?_ ?_<;>intro h25 q26 hF
  ·have z27:((k:Int)<(out24.length:Int)):=auz
   have hF:=oc hF;obtain⟨c28,hF⟩:=hF
   have w29:i64.wrap ((out24.length:Int)+1)=(out24.length:Int)+1:=ZD (by omega) (by omega)
   have hF:=ob hF;obtain⟨x30,e31,hF⟩:=hF
   have le31:=ZC e31
   have w32:i64.wrap ((k:Int)+1)=(k:Int)+1:=ZD (by omega) (by omega)
   repeat first|refine cg ?_|simp -dsimp[h25,z27,w29,↓e31,w32]
   refine zY ((ih_f165 (out24.set k (⟨x30.op,x30.path,x30.ctor,x30.n,x30.m,x30.clause,x30.binds,((out24.length+1:Nat):Int)⟩:Step)) (k+1) o hF) _ rfl _ hq)
  ·have z27:¬((k:Int)<(out24.length:Int)):=auz
   cases hF
   repeat first|refine cg ?_|simp -dsimp[h25,q26,z27]
   refine zZ hq
theorem CC.f166 (v4:(List (List Pattern))×Bool)(out:List Step)(i:Nat)(x:List Pattern):(∀(out12:List Step) (i13:Nat) (o:List Step),F.f166 v4 out i x out12 i13=some o->∀(c:Code),ZZ [1,1,1,1,1,0,1,0,0,1,1,0,0,1,1,0,1,0,0] (ZI Tryz.f12)=some c->∀(Q:Exit->ASt->Prop),(Q (.exit 2) ⟨[(10,.ptr 1 0),(13,li (out.length:Int)),(32,am (cL zJ) v4.1),(33,li (v4.1.length:Int)),(34,li (i:Int))],[.dead,.cells [.own 2 (zA (α:=Step) o)],.elems 8 (zB yG o)]⟩)->ALoopU zQ B 0 98 (hold c .mk) ⟨[(10,.ptr 1 0),(11,li (i:Int)),(13,li (out.length:Int)),(32,am (cL zJ) v4.1),(33,li (v4.1.length:Int)),(34,li (i:Int)),(41,am zJ x),(42,li (x.length:Int)),(43,li (i13:Int))],[.dead,.cells [.own 2 (zA (α:=Step) out12)],.elems 8 (zB yG out12)]⟩ (hold Q .mk)):=by
 refine F.f166.partial_correctness v4 out i x
  _
  ?_
 ·intro _f_f166 ih_f166 out12 i13 o hF
  refine ZJ rfl fun Q hq hk hs=> ?_
  have b32:=hk 32
  simp -dsimp at b32
  have b41:=hk 41
  simp -dsimp at b41
  have d2:=hs 2 _ rfl
  simp -dsimp[zR]at d2
  clear hk hs
  refine eN ?_
  repeat first|refine cg ?_|simp -dsimp
  revert hF;refine aS ?_ ?_<;>intro h14 q15 hF
  ·have z16:((i13:Int)<(x.length:Int)):=auz
   have hF:=ob hF;obtain⟨x17,e18,hF⟩:=hF
   have le18:=ZC e18
   repeat first|refine cg ?_|simp -dsimp[h14,z16,↓e18]
   have hF:=ob hF;obtain⟨v19,e20,hF⟩:=hF
   refine ACall.nilCell 4 0 2 (cs:=[.lit (.slice none 0 0)]) (by simp) (by simp) ?_
   repeat first|refine cg ?_|simp -dsimp
   refine(((CC.impl_tests__g B hB1 hB2).1 x17 [] out12 [] v19 e20)).go (pl [1,4,2,5]) (by simp) (by simp) (Zy _ rfl (by decide)) (by intro i hi hi';simp at hi hi';omega) (by simp_all) (by simp_all) ?_
   repeat first|refine cg ?_|simp -dsimp
   have hF:=ob hF;obtain⟨v21,e22,hF⟩:=hF
   have sl23:zA (α:=PathBind) v19.2=zA (α:=PathBind) v21:=ZLz (key:=fun x=>x.var) (by unfold F.f164 at e22;exact e22)
   refine((C.f164 B hB1 hB2 v19.2 v21 e22)).go (pl [5]) (by simp) (by simp) (Zy _ rfl (by decide)) (by intro i hi hi';simp at hi hi';first|omega|(subst hi';simp[pl])) (by simp_all) (by simp_all) ?_
   repeat first|refine cg ?_|simp -dsimp[sl23]
   have hF:=ob hF;obtain⟨o',ho33,hF⟩:=hF
   refine zL (((CC.f165 B hB1 hB2 v4 out i x i13 v21) v19.1 out12.length o' ho33) _ rfl _ ?_)
   have hF:=oc hF;obtain⟨c34,hF⟩:=hF
   have hF:=oc hF;obtain⟨c35,hF⟩:=hF
   have w36:i64.wrap ((i13:Int)+1)=(i13:Int)+1:=ZD (by omega) (by omega)
   repeat first|refine cg ?_|simp -dsimp[w36]
   refine zY ((ih_f166 (o'++[(⟨2,[],0,0,0,(i:Int),v21,0⟩:Step)]) (i13+1) o hF) _ rfl _ hq)
  ·have z16:¬((i13:Int)<(x.length:Int)):=auz
   cases hF
   repeat first|refine cg ?_|simp -dsimp[h14,q15,z16]
   refine zZ hq
theorem CC.f167 (v4:(List (List Pattern))×Bool)(i:Nat):(∀(out39:List Step) (k40:Nat) (o:List Step),F.f167 v4 i out39 k40=some o->∀(c:Code),ZZ [1,1,1,1,1,0,1,0,0,1,1,0,0,1,1,1,1,0,0] (ZI Tryz.f12)=some c->∀(Q:Exit->ASt->Prop),(Q (.exit 6) ⟨[(10,.ptr 1 0),(32,am (cL zJ) v4.1),(33,li (v4.1.length:Int)),(34,li (i:Int))],[.dead,.cells [.own 2 (zA (α:=Step) o)],.elems 8 (zB yG o)]⟩)->ALoopU zQ B 0 98 (hold c .mk) ⟨[(10,.ptr 1 0),(19,li (k40:Int)),(32,am (cL zJ) v4.1),(33,li (v4.1.length:Int)),(34,li (i:Int))],[.dead,.cells [.own 2 (zA (α:=Step) out39)],.elems 8 (zB yG out39)]⟩ (hold Q .mk)):=by
 refine F.f167.partial_correctness v4 i
  _
  ?_
 ·intro _f_f167 ih_f167 out39 k40 o hF
  refine ZJ rfl fun Q hq hk hs=> ?_
  have b32:=hk 32
  simp -dsimp at b32
  have d2:=hs 2 _ rfl
  simp -dsimp[zR]at d2
  clear hk hs
  refine eN ?_
  repeat first|refine cg ?_|simp -dsimp
  revert hF;refine aS ?_ ?_<;>intro h41 q42 hF
  ·have z43:((k40:Int)<(out39.length:Int)):=auz
   have hF:=ob hF;obtain⟨x44,e45,hF⟩:=hF
   have le45:=ZC e45
   repeat first|refine cg ?_|simp -dsimp[h41,z43,↓e45]
   revert hF;refine aS ?_ ?_<;>intro h46 q47 hF
   ·have w48:i64.wrap ((k40:Int)+1)=(k40:Int)+1:=ZD (by omega) (by omega)
    repeat first|refine cg ?_|simp -dsimp[h46,w48]
    refine zY ((ih_f167 (out39.set k40 (⟨x44.op,x44.path,x44.ctor,x44.n,x44.m,x44.clause,x44.binds,(out39.length:Int)⟩:Step)) (k40+1) o hF) _ rfl _ hq)
   ·have w49:i64.wrap ((k40:Int)+1)=(k40:Int)+1:=ZD (by omega) (by omega)
    repeat first|refine cg ?_|simp -dsimp[h46,q47,w49]
    refine zY ((ih_f167 out39 (k40+1) o hF) _ rfl _ hq)
  ·have z43:¬((k40:Int)<(out39.length:Int)):=auz
   cases hF
   repeat first|refine cg ?_|simp -dsimp[h41,q42,z43]
   refine zZ hq
theorem CC.f168 (v4:(List (List Pattern))×Bool):(∀(out:List Step) (i:Nat) (o:List Step),F.f168 v4 out i=some o->∀(c:Code),ZZ [1,1,1,1,1,0,1,0,0] (ZI Tryz.f12)=some c->∀(Q:Exit->ASt->Prop),(Q (.exit 0) ⟨[(10,.ptr 1 0)],[.dead,.cells [.own 2 (zA (α:=Step) o)],.elems 8 (zB yG o)]⟩)->ALoopU zQ B 0 98 (hold c .mk) ⟨[(10,.ptr 1 0),(32,am (cL zJ) v4.1),(33,li (v4.1.length:Int)),(34,li (i:Int))],[.dead,.cells [.own 2 (zA (α:=Step) out)],.elems 8 (zB yG out)]⟩ (hold Q .mk)):=by
 refine F.f168.partial_correctness v4
  _
  ?_
 ·intro _f_f168 ih_f168 out i o hF
  refine ZJ rfl fun Q hq hk hs=> ?_
  have b32:=hk 32
  simp -dsimp at b32
  have d2:=hs 2 _ rfl
  simp -dsimp[zR]at d2
  clear hk hs
  refine eN ?_
  repeat first|refine cg ?_|simp -dsimp
  revert hF;refine aS ?_ ?_<;>intro h8 q9 hF
  ·have z10:((i:Int)<(v4.1.length:Int)):=auz
   have hF:=ob hF;obtain⟨x,e11,hF⟩:=hF
   have le11:=ZC e11
   repeat first|refine cg ?_|simp -dsimp[h8,z10,↓e11]
   have hF:=ob hF;obtain⟨o'38,ho37,hF⟩:=hF
   refine zL (((CC.f166 B hB1 hB2 v4 out i x) out 0 o'38 ho37) _ rfl _ ?_)
   repeat first|refine cg ?_|simp -dsimp
   have hF:=ob hF;obtain⟨o'51,ho50,hF⟩:=hF
   refine zL (((CC.f167 B hB1 hB2 v4 i) o'38 out.length o'51 ho50) _ rfl _ ?_)
   have hF:=oc hF;obtain⟨c52,hF⟩:=hF
   have w53:i64.wrap ((i:Int)+1)=(i:Int)+1:=ZD (by omega) (by omega)
   repeat first|refine cg ?_|simp -dsimp[w53]
   refine zY ((ih_f168 o'51 (i+1) o hF) _ rfl _ hq)
  ·have z10:¬((i:Int)<(v4.1.length:Int)):=auz
   cases hF
   repeat first|refine cg ?_|simp -dsimp[h8,q9,z10]
   refine zZ hq
theorem C.f169 (w:List zH)(t:Ty)(list:List Clause)(r:(List Step)×Bool)(hF:F.f169 w t list=some r):PureCall zQ B 12 [am zI w,.agg [li t.data,li t.index],am yB list] (.tup [am yG r.1,.lit (.bool r.2)]):=by
 unfold F.f169 at hF
 refine yA func12 rfl ntmps12 ?_
 repeat first|refine cg ?_|simp -dsimp
 have hF:=ob hF;obtain⟨v,e1,hF⟩:=hF
 refine((C.f146 B hB1 hB2 w t list v e1)).goI ?_
 repeat first|refine cg ?_|simp -dsimp
 revert hF;refine aN (fun h2 q3 hF=> ?_) (fun h2 q3 hF=> ?_)
 ·cases hF
  repeat first|refine cg ?_|simp -dsimp[h2,q3]
 ·repeat first|refine cg ?_|simp -dsimp
  have hF:=ob hF;obtain⟨v4,e5,hF⟩:=hF
  refine((C.f156 B hB1 hB2 list v4 e5)).goI ?_
  repeat first|refine cg ?_|simp -dsimp
  revert hF;refine aN (fun h6 q7 hF=> ?_) (fun h6 q7 hF=> ?_)
  ·cases hF
   repeat first|refine cg ?_|simp -dsimp[h6,q7]
  ·repeat first|refine cg ?_|simp -dsimp
   have hF:=ob hF;obtain⟨o'55,ho54,hF⟩:=hF
   refine zM ⟨[(10,.ptr 1 0),(32,.arr (zB (cL zJ) v4.1)),(33,.lit (.int .i64 (v4.1.length:Int))),(34,.lit (.int .i64 0))],[.dead,.cells [.own 2 (zA (α:=Step) [])],.elems 8 (zB yG [])]⟩ (by refine zN (Gh.nilCell 1 0 8 (by simp -dsimp;rfl) (by simp -dsimp)) ?_;exact(gT (by simp) (by simp_all))) ?_
   refine((CC.f168 B hB1 hB2 v4) [] 0 o'55 ho54) _ rfl _ ?_
   have hF:=oc hF;obtain⟨c56,hF⟩:=hF
   cases hF
   repeat first|refine cg ?_|simp -dsimp
theorem C.f170 (w:List zH)(t:Ty)(r:Bool)(hF:F.f170 w t=some r):PureCall zQ B 92 [am zI w,.agg [li t.data,li t.index]] (.lit (.bool r)):=by
 unfold F.f170 at hF
 refine yA func92 rfl ntmps92 ?_
 repeat first|refine cg ?_|simp -dsimp
 have hF:=ob hF;obtain⟨v,e1,hF⟩:=hF
 refine((C.f15 B hB1 hB2 (w.length:Int) t v e1)).goI ?_
 repeat first|refine cg ?_|simp -dsimp
 revert hF;refine aS (fun h2 q3 hF=> ?_) (fun h2 q3 hF=> ?_)
 ·cases hF
  repeat first|refine cg ?_|simp -dsimp[h2]
 ·cases hF
  repeat first|refine cg ?_|simp -dsimp[q3]
theorem C.f171 (w:List zH)(t:Ty)(r:Bool)(hF:F.f171 w t=some r):PureCall zQ B 59 [am zI w,.agg [li t.data,li t.index]] (.lit (.bool r)):=by
 unfold F.f171 at hF
 refine yA func59 rfl ntmps59 ?_
 repeat first|refine cg ?_|simp -dsimp
 have hF:=ob hF;obtain⟨v,e1,hF⟩:=hF
 refine((C.f24 B hB1 hB2 w v e1)).goI ?_
 repeat first|refine cg ?_|simp -dsimp
 revert hF;refine aS (fun h2 q3 hF=> ?_) (fun h2 q3 hF=> ?_)
 ·repeat first|refine cg ?_|simp -dsimp[h2]
  have hF:=ob hF;obtain⟨v4,e5,hF⟩:=hF
  refine((C.f170 B hB1 hB2 w t v4 e5)).goI ?_
  cases hF
  repeat first|refine cg ?_|simp -dsimp[h2]
 ·cases hF
  repeat first|refine cg ?_|simp -dsimp[h2,q3]
theorem C.f172 (g:Guard)(vars:List VarType)(r:Bool)(hF:F.f172 g vars=some r):PureCall zQ B 94 [.agg [li g.op,li g.var,li g.n],am zK vars] (.lit (.bool r)):=by
 unfold F.f172 at hF
 refine yA func94 rfl ntmps94 ?_
 repeat first|refine cg ?_|simp -dsimp
 revert hF;refine aS ?_ ?_<;>intro h1 q2 hF
 ·repeat first|refine cg ?_|simp -dsimp[h1]
  revert hF;refine aS ?_ ?_<;>intro h3 q4 hF
  ·cases hF
   repeat first|refine cg ?_|simp -dsimp[h1,h3]
  ·cases hF
   repeat first|refine cg ?_|simp -dsimp[h1,h3,q4]
 ·repeat first|refine cg ?_|simp -dsimp[h1,q2]
  revert hF;refine aN ?_ ?_<;>intro h5 q6 hF
  ·repeat first|refine cg ?_|simp -dsimp[h1,q2,h5,q6]
   revert hF;refine aS ?_ ?_<;>intro h7 q8 hF
   ·repeat first|refine cg ?_|simp -dsimp[h1,q2,h5,q6,h7]
    revert hF;refine aN ?_ ?_<;>intro h9 q10 hF
    ·repeat first|refine cg ?_|simp -dsimp[h1,q2,h5,q6,h7,h9,q10]
     revert hF;refine aS ?_ ?_<;>intro h11 q12 hF
     ·cases hF
      repeat first|refine cg ?_|simp -dsimp[h1,q2,h5,q6,h7,h9,q10,h11]
     ·repeat first|refine cg ?_|simp -dsimp[h1,q2,h5,q6,h7,h9,q10,h11,q12]
      have hF:=ob hF;obtain⟨v,e13,hF⟩:=hF
      refine((C.f79 B hB1 hB2 vars g.var v e13)).goI ?_
      repeat first|refine cg ?_|simp -dsimp[h1,q2,h5,q6,h7,h9,q10,h11,q12]
      revert hF;refine aS ?_ ?_<;>intro h14 q15 hF
      ·have hF:=ob hF;obtain⟨x,e16a,hF⟩:=hF
       have e16a:=ZV e16a;obtain⟨ne16,e16⟩:=e16a
       have le16:=ZC e16
       cases hF
       repeat first|refine cg ?_|simp -dsimp[h1,q2,h5,q6,h7,h9,q10,h11,q12,h14,↓e16]
      ·cases hF
       repeat first|refine cg ?_|simp -dsimp[h1,q2,h5,q6,h7,h9,q10,h11,q12,h14,q15]
    ·cases hF
     repeat first|refine cg ?_|simp -dsimp[h1,q2,h5,q6,h7,h9,q10]
   ·cases hF
    repeat first|refine cg ?_|simp -dsimp[h1,q2,h5,q6,h7,q8]
  ·repeat first|refine cg ?_|simp -dsimp[h1,q2,h5,q6]
   revert hF;refine aN ?_ ?_<;>intro h17 q18 hF
   ·repeat first|refine cg ?_|simp -dsimp[h1,q2,h5,q6,h17,q18]
    revert hF;refine aS ?_ ?_<;>intro h19 q20 hF
    ·cases hF
     repeat first|refine cg ?_|simp -dsimp[h1,q2,h5,q6,h17,q18,h19]
    ·repeat first|refine cg ?_|simp -dsimp[h1,q2,h5,q6,h17,q18,h19,q20]
     have hF:=ob hF;obtain⟨v21,e22,hF⟩:=hF
     refine((C.f79 B hB1 hB2 vars g.var v21 e22)).goI ?_
     repeat first|refine cg ?_|simp -dsimp[h1,q2,h5,q6,h17,q18,h19,q20]
     revert hF;refine aS ?_ ?_<;>intro h23 q24 hF
     ·have hF:=ob hF;obtain⟨x25,e26a,hF⟩:=hF
      have e26a:=ZV e26a;obtain⟨ne26,e26⟩:=e26a
      have le26:=ZC e26
      cases hF
      repeat first|refine cg ?_|simp -dsimp[h1,q2,h5,q6,h17,q18,h19,q20,h23,↓e26]
     ·cases hF
      repeat first|refine cg ?_|simp -dsimp[h1,q2,h5,q6,h17,q18,h19,q20,h23,q24]
   ·cases hF
    repeat first|refine cg ?_|simp -dsimp[h1,q2,h5,q6,h17,q18]
theorem C.f173 (w:List zH)(t:Ty)(c':Clause)(r:Bool)(hF:F.f173 w t c'=some r):PureCall zQ B 60 [am zI w,.agg [li t.data,li t.index],.agg [li c'.pat.op,li c'.pat.ctor,li c'.pat.n,li c'.pat.m,li c'.pat.var,am zJ c'.pat.kids,li c'.guard.op,li c'.guard.var,li c'.guard.n]] (.lit (.bool r)):=by
 unfold F.f173 at hF
 refine yA func60 rfl ntmps60 ?_
 repeat first|refine cg ?_|simp -dsimp
 refine zS [94,95] [(0,0),(0,0),(0,0),(0,0),(0,2),(0,0),(0,1),(0,1),(0,0),(0,0),(0,0),(0,0),(0,2),(0,2),(2,2),(2,2)] [1,1,1,1,1,1,0,2,1,1,1,1,1,1,1,1] follows ?_
 repeat first|refine cg ?_|simp -dsimp
 have hF:=ob hF;obtain⟨v,e1,hF⟩:=hF
 refine((C.f85 B hB1 hB2 w t c'.pat v e1)).pgoW (by simp) (by simp) ?_
 repeat first|refine cg ?_|simp -dsimp
 revert hF;refine aS (fun h2 q3 hF=> ?_) (fun h2 q3 hF=> ?_)
 ·repeat first|refine cg ?_|simp -dsimp[h2]
  have hF:=ob hF;obtain⟨v4,e5,hF⟩:=hF
  refine ECallA.nilArg 0 3 (by simp) ?_
  repeat first|refine cg ?_|simp -dsimp
  refine(((CC.f74 B hB1 hB2 w).1 [] t c'.pat v4 e5)).ego (pl [2]) (by simp) (by simp) (Zy _ rfl (by decide)) (by intro i hi hi';simp at hi hi';first|omega|(subst hi';simp[pl])) (by simp_all) (by simp_all) ?_
  repeat first|refine cg ?_|simp -dsimp
  have hF:=ob hF;obtain⟨v6,e7,hF⟩:=hF
  refine((C.f172 B hB1 hB2 c'.guard v4 v6 e7)).elend (by simp_all) (by simp -dsimp) ?_
  cases hF
  repeat first|refine cg ?_|simp -dsimp
 ·skip
  cases hF
  repeat first|refine cg ?_|simp -dsimp[q3]
theorem CC.f174 (w:List zH)(t:Ty)(list:List Clause):(∀(i:Nat) (o:Lo Bool Unit),F.f174 w t list i=some o->∀(c:Code),ZZ [1,1,0,1,0,0] (ZI Tryz.f34)=some c->∀(Q:Exit->ASt->Prop),o.post (fun r=>∀st,ZAm zQ Tryz.f34 (fun r' _=>r'.le (.lit (.bool r))) .ret st->Q .ret st) (fun s=>Q (.exit 0) ⟨[],[]⟩)->ALoopU zQ B 0 31 (hold c .mk) ⟨[(0,am zI w),(2,am yB list),(4,.ptr 0 0),(7,li (i:Int))],[.cells [li t.data,li t.index]]⟩ (hold Q .mk)):=by
 refine F.f174.partial_correctness w t list
  _
  ?_
 ·intro _f_f174 ih_f174 i o hF
  refine ZJ rfl fun Q hq hk hs=> ?_
  have b0:=hk 0
  simp -dsimp at b0
  have b2:=hk 2
  simp -dsimp at b2
  clear hk hs
  refine eN ?_
  repeat first|refine cg ?_|simp -dsimp
  revert hF;refine aS ?_ ?_<;>intro h7 q8 hF
  ·have z9:((i:Int)<(list.length:Int)):=auz
   repeat first|refine cg ?_|simp -dsimp[h7,z9]
   refine zT follows ?_
   have hF:=ob hF;obtain⟨x,e10,hF⟩:=hF
   have le10:=ZC e10
   repeat first|refine cg ?_|simp -dsimp[↓e10]
   have hF:=ob hF;obtain⟨v11,e12,hF⟩:=hF
   refine((C.f173 B hB1 hB2 w t x v11 e12)).pgoW (by simp_all) (by simp) ?_
   repeat first|refine cg ?_|simp -dsimp
   revert hF;refine aN (fun h13 q14 hF=> ?_) (fun h13 q14 hF=> ?_)
   ·cases hF
    repeat first|refine cg ?_|simp -dsimp[h13,q14]
    refine lG _ (gR _) (hq _ ?_)
    repeat first|refine cg ?_|simp -dsimp
   ·have w15:i64.wrap ((i:Int)+1)=(i:Int)+1:=ZD (by omega) (by omega)
    repeat first|refine cg ?_|simp -dsimp[w15]
    refine zY ((ih_f174 (i+1) o hF) _ rfl _ hq)
  ·have z9:¬((i:Int)<(list.length:Int)):=auz
   cases hF
   repeat first|refine cg ?_|simp -dsimp[h7,q8,z9]
   refine zZ hq
theorem C.f175 (w:List zH)(t:Ty)(list:List Clause)(r:Bool)(hF:F.f175 w t list=some r):PureCall zQ B 34 [am zI w,.agg [li t.data,li t.index],am yB list] (.lit (.bool r)):=by
 unfold F.f175 at hF
 refine yA func34 rfl ntmps34 ?_
 repeat first|refine cg ?_|simp -dsimp
 have hF:=ob hF;obtain⟨v,e1,hF⟩:=hF
 refine((C.f171 B hB1 hB2 w t v e1)).goI ?_
 repeat first|refine cg ?_|simp -dsimp
 revert hF;refine aS (fun h2 q3 hF=> ?_) (fun h2 q3 hF=> ?_)
 ·repeat first|refine cg ?_|simp -dsimp[h2]
  revert hF;refine aS ?_ ?_<;>intro h4 q5 hF
  ·have z6:(8<(list.length:Int)):=auz
   cases hF
   repeat first|refine cg ?_|simp -dsimp[h4,z6]
  ·have z6:¬(8<(list.length:Int)):=auz
   repeat first|refine cg ?_|simp -dsimp[h4,q5,z6]
   have hF:=ob hF;obtain⟨o',ho16,hF⟩:=hF
   refine zL (((CC.f174 B hB1 hB2 w t list) 0 o' ho16) _ rfl _ ?_)
   rcases o' with r0|sx
   ·dsimp only at hF
    cases hF
    intro st h
    simpa using h
   ·dsimp only at hF
    cases hF
    repeat first|refine cg ?_|simp -dsimp
 ·cases hF
  repeat first|refine cg ?_|simp -dsimp[q3]
theorem CC.f176 (lists:List (List Pattern))(out:List (List Pattern))(i:Nat)(k:Nat):(∀(next10:List (List Pattern)) (j:Nat) (o:List (List Pattern)),F.f176 lists out i k next10 j=some o->∀(c:Code),ZZ [1,1,0,1,0,0,1,0,0,1,0,1,0,0,1,0,0,1,0,0] (ZI Tryz.f61)=some c->∀(Q:Exit->ASt->Prop),(Q (.exit 4) ⟨[(0,am (cL zJ) lists),(3,am (cL zJ) out),(4,li (i:Int)),(5,.own 2 (zA (α:=List Pattern) o)),(6,li (k:Int))],[.dead,.dead,.elems 1 (zB (cL zJ) o)]⟩)->ALoopU zQ B 0 62 (hold c .mk) ⟨[(0,am (cL zJ) lists),(3,am (cL zJ) out),(4,li (i:Int)),(5,.own 2 (zA (α:=List Pattern) next10)),(6,li (k:Int)),(7,li (j:Int))],[.dead,.dead,.elems 1 (zB (cL zJ) next10)]⟩ (hold Q .mk)):=by
 refine F.f176.partial_correctness lists out i k
  _
  ?_
 ·intro _f_f176 ih_f176 next10 j o hF
  refine ZJ rfl fun Q hq hk hs=> ?_
  have b0:=hk 0
  simp -dsimp at b0
  have b3:=hk 3
  simp -dsimp at b3
  have d2:=hs 2 _ rfl
  simp -dsimp[zR]at d2
  clear hk hs
  refine eN ?_
  have hF:=ob hF;obtain⟨x,e11,hF⟩:=hF
  have le11:=ZC e11
  repeat first|refine cg ?_|simp -dsimp[↓e11]
  revert hF;refine aS ?_ ?_<;>intro h12 q13 hF
  ·have z14:((j:Int)<(x.length:Int)):=auz
   repeat first|refine cg ?_|simp -dsimp[↓e11,h12,z14]
   revert hF;refine aS ?_ ?_<;>intro h15 q16 hF
   ·have z17:((next10.length:Int)<=400):=auz
    repeat first|refine cg ?_|simp -dsimp[↓e11,h15,z17]
    refine zX ?_
    refine zV [] [(1,14)] [(14,1)] 1 14 rfl rfl (by kernel_rfl) ?_ ?_
    ·refine zV [(1,14)] [(1,14),(6,14)] [(1,14),(14,6)] 6 14 rfl rfl (by kernel_rfl) ?_ ?_
     ·refine zU [(1,14),(6,14)] [0,1,2,3,4,5,6,7,8,9,10,11,12,13,14,15,16,17,18] [] [(0,5),(0,6),(0,1),(0,1),(0,1),(0,1),(0,6),(0,2),(0,2),(0,2),(0,2),(0,2),(0,2),(0,2),(0,6),(0,6),(0,6),(0,6),(6,6)] [1,1,1,1,0,0,1,1,1,0,0,1,0,0,1,1,1,1,1] follows (by kernel_rfl) (by kernel_rfl) (by kernel_rfl) (by kernel_rfl) ?_
      have hF:=ob hF;obtain⟨x18,e19,hF⟩:=hF
      have le19:=ZC e19
      have hF:=oc hF;obtain⟨c20,hF⟩:=hF
      have hF:=ob hF;obtain⟨x21,e22,hF⟩:=hF
      have le22:=ZC e22
      have hF:=oc hF;obtain⟨c23,hF⟩:=hF
      have hF:=oc hF;obtain⟨c24,hF⟩:=hF
      have hF:=oc hF;obtain⟨c25,hF⟩:=hF
      have w26:i64.wrap ((j:Int)+1)=(j:Int)+1:=ZD (by omega) (by omega)
      repeat first|refine cg ?_|simp -dsimp[↓e11,↓e19,↓e22,w26]
      refine zY ((ih_f176 (next10++[x18++[x21]]) (j+1) o hF) _ rfl _ hq)
     ·have hF:=ob hF;obtain⟨x18,e19,hF⟩:=hF
      have hF:=oc hF;obtain⟨c20,hF⟩:=hF
      have hF:=ob hF;obtain⟨x21,e22,hF⟩:=hF
      have hF:=oc hF;obtain⟨c23,hF⟩:=hF
      have hF:=oc hF;obtain⟨c24,hF⟩:=hF
      refine zU [(1,14),(14,6)] [0,1,2,3,4,5,7,8,9,10,11,12,13,14,6,15,16,17,18] [] [(0,5),(0,6),(0,2),(0,2),(0,2),(0,2),(0,1),(0,1),(0,1),(0,1),(0,1),(0,1),(0,1),(0,6),(0,6),(0,6),(0,6),(0,6),(6,6)] [1,1,1,1,0,0,1,1,0,0,1,0,0,1,1,1,1,1,1] follows (by kernel_rfl) (by kernel_rfl) (by kernel_rfl) (by kernel_rfl) ?_
      have le19:=ZC e19
      have le22:=ZC e22
      have hF:=oc hF;obtain⟨c25,hF⟩:=hF
      have w26:i64.wrap ((j:Int)+1)=(j:Int)+1:=ZD (by omega) (by omega)
      repeat first|refine cg ?_|simp -dsimp[↓e11,↓e19,↓e22,w26]
      refine zY ((ih_f176 (next10++[x18++[x21]]) (j+1) o hF) _ rfl _ hq)
    ·have hF:=ob hF;obtain⟨x18,e19,hF⟩:=hF
     have hF:=oc hF;obtain⟨c20,hF⟩:=hF
     have hF:=ob hF;obtain⟨x21,e22,hF⟩:=hF
     have hF:=oc hF;obtain⟨c23,hF⟩:=hF
     have hF:=oc hF;obtain⟨c24,hF⟩:=hF
     refine zU [(14,1)] [0,2,3,4,5,7,8,9,10,11,12,13,14,1,6,15,16,17,18] [] [(0,5),(0,2),(0,2),(0,2),(0,2),(0,0),(0,0),(0,0),(0,0),(0,0),(0,0),(0,0),(0,6),(0,6),(0,6),(0,6),(0,6),(0,6),(6,6)] [1,1,1,0,0,1,1,1,1,1,1,1,1,1,1,1,1,1,1] follows (by kernel_rfl) (by kernel_rfl) (by kernel_rfl) (by kernel_rfl) ?_
     have le19:=ZC e19
     have le22:=ZC e22
     have hF:=oc hF;obtain⟨c25,hF⟩:=hF
     have w26:i64.wrap ((j:Int)+1)=(j:Int)+1:=ZD (by omega) (by omega)
     repeat first|refine cg ?_|simp -dsimp[↓e11,↓e19,↓e22,w26]
     refine zY ((ih_f176 (next10++[x18++[x21]]) (j+1) o hF) _ rfl _ hq)
   ·have z17:¬((next10.length:Int)<=400):=auz
    cases hF
    repeat first|refine cg ?_|simp -dsimp[↓e11,h15,q16,z17]
    refine zZ hq
  ·have z14:¬((j:Int)<(x.length:Int)):=auz
   cases hF
   repeat first|refine cg ?_|simp -dsimp[↓e11,h12,q13,z14]
   refine zZ hq
theorem CC.f177 (lists:List (List Pattern))(out:List (List Pattern))(i:Nat):(∀(next:List (List Pattern)) (k:Nat) (o:List (List Pattern)),F.f177 lists out i next k=some o->∀(c:Code),ZZ [1,1,0,1,0,0,1,0,0,1,0,1,0,0] (ZI Tryz.f61)=some c->∀(Q:Exit->ASt->Prop),(Q (.exit 2) ⟨[(0,am (cL zJ) lists),(4,li (i:Int)),(5,.own 2 (zA (α:=List Pattern) o))],[.dead,.dead,.elems 1 (zB (cL zJ) o)]⟩)->ALoopU zQ B 0 62 (hold c .mk) ⟨[(0,am (cL zJ) lists),(3,am (cL zJ) out),(4,li (i:Int)),(5,.own 2 (zA (α:=List Pattern) next)),(6,li (k:Int))],[.dead,.dead,.elems 1 (zB (cL zJ) next)]⟩ (hold Q .mk)):=by
 refine F.f177.partial_correctness lists out i
  _
  ?_
 ·intro _f_f177 ih_f177 next k o hF
  refine ZJ rfl fun Q hq hk hs=> ?_
  have b0:=hk 0
  simp -dsimp at b0
  have b3:=hk 3
  simp -dsimp at b3
  have d2:=hs 2 _ rfl
  simp -dsimp[zR]at d2
  clear hk hs
  refine eN ?_
  repeat first|refine cg ?_|simp -dsimp
  revert hF;refine aS ?_ ?_<;>intro h4 q5 hF
  ·have z6:((k:Int)<(out.length:Int)):=auz
   repeat first|refine cg ?_|simp -dsimp[h4,z6]
   revert hF;refine aS ?_ ?_<;>intro h7 q8 hF
   ·have z9:((next.length:Int)<=400):=auz
    repeat first|refine cg ?_|simp -dsimp[h7,z9]
    have hF:=ob hF;obtain⟨o',ho27,hF⟩:=hF
    refine zL (((CC.f176 B hB1 hB2 lists out i k) next 0 o' ho27) _ rfl _ ?_)
    have hF:=oc hF;obtain⟨c28,hF⟩:=hF
    have w29:i64.wrap ((k:Int)+1)=(k:Int)+1:=ZD (by omega) (by omega)
    repeat first|refine cg ?_|simp -dsimp[w29]
    refine zY ((ih_f177 o' (k+1) o hF) _ rfl _ hq)
   ·have z9:¬((next.length:Int)<=400):=auz
    cases hF
    repeat first|refine cg ?_|simp -dsimp[h7,q8,z9]
    refine zZ hq
  ·have z6:¬((k:Int)<(out.length:Int)):=auz
   cases hF
   repeat first|refine cg ?_|simp -dsimp[h4,q5,z6]
   refine zZ hq
theorem CC.f178 (lists:List (List Pattern)):(∀(out:List (List Pattern)) (i:Nat) (o:List (List Pattern)),F.f178 lists out i=some o->∀(c:Code),ZZ [1,1,0,1,0,0] (ZI Tryz.f61)=some c->∀(Q:Exit->ASt->Prop),(Q (.exit 0) ⟨[(3,am (cL zJ) o)],[]⟩)->ALoopU zQ B 0 62 (hold c .mk) ⟨[(0,am (cL zJ) lists),(3,am (cL zJ) out),(4,li (i:Int))],[.dead,.dead]⟩ (hold Q .mk)):=by
 refine F.f178.partial_correctness lists
  _
  ?_
 ·intro _f_f178 ih_f178 out i o hF
  refine ZJ rfl fun Q hq hk hs=> ?_
  have b0:=hk 0
  simp -dsimp at b0
  have b3:=hk 3
  simp -dsimp at b3
  clear hk hs
  refine eN ?_
  repeat first|refine cg ?_|simp -dsimp
  revert hF;refine aS ?_ ?_<;>intro h1 q2 hF
  ·have z3:((i:Int)<(lists.length:Int)):=auz
   repeat first|refine cg ?_|simp -dsimp[h1,z3]
   have hF:=ob hF;obtain⟨o'31,ho30,hF⟩:=hF
   refine zL (((CC.f177 B hB1 hB2 lists out i) [] 0 o'31 ho30) _ rfl _ ?_)
   have hF:=oc hF;obtain⟨c32,hF⟩:=hF
   have w33:i64.wrap ((i:Int)+1)=(i:Int)+1:=ZD (by omega) (by omega)
   repeat first|refine cg ?_|simp -dsimp[w33]
   refine aG ⟨[(0,.arr (zB (cL zJ) lists)),(3,.arr (zB (cL zJ) o'31)),(4,.lit (.int .i64 ((i+1):Int)))],[.dead,.dead]⟩ (by refine zN (zP 3 (l:=2) (n:=zA (α:=List Pattern) o'31) (sz:=1) (es:=zB (cL zJ) o'31) (by simp) (by simp) (by simp) (by simp)) ?_;exact(gT (by simp) (by simp_all))) ?_
   exact(ih_f178 o'31 (i+1) o hF) _ rfl _ hq
  ·have z3:¬((i:Int)<(lists.length:Int)):=auz
   cases hF
   repeat first|refine cg ?_|simp -dsimp[h1,q2,z3]
   refine zZ hq
theorem C.f179 (lists:List (List Pattern))(r:List (List Pattern))(hF:F.f179 lists=some r):PureCall zQ B 61 [am (cL zJ) lists] (am (cL zJ) r):=by
 unfold F.f179 at hF
 refine yA func61 rfl ntmps61 ?_
 repeat first|refine cg ?_|simp -dsimp
 have hF:=ob hF;obtain⟨o'35,ho34,hF⟩:=hF
 refine zM ⟨[(0,.arr (zB (cL zJ) lists)),(3,.arr (zB (cL zJ) [[]])),(4,.lit (.int .i64 0))],[.dead,.dead]⟩ (by refine zN (zP 3 (l:=1) (n:=zA (α:=List Pattern) [[]]) (sz:=1) (es:=zB (cL zJ) [[]]) (by simp) (by simp) (by simp) (by simp)) ?_;exact(gT (by simp) (by simp -dsimp))) ?_
 refine((CC.f178 B hB1 hB2 lists) [[]] 0 o'35 ho34) _ rfl _ ?_
 cases hF
 repeat first|refine cg ?_|simp -dsimp
theorem CC.spec_l3Split__o0_l2 (p:Pattern)(v24:List (List Pattern)):(∀(out:List Pattern) (i26:Nat) (o:List Pattern),F.f180 p v24 out i26=some o->∀(c:Code),ZZ [1,1,1,1,1,1,0,1,0,0] (ZI Tryz.f35)=some c->∀(Q:Exit->ASt->Prop),(Q (.exit 2) ⟨[(7,.own 2 (zA (α:=Pattern) o))],[.dead,.dead,.elems 6 (zB zJ o)]⟩)->ALoopU zQ B 0 67 (hold c .mk) ⟨[(1,.ptr 0 0),(6,am (cL zJ) v24),(7,.own 2 (zA (α:=Pattern) out)),(8,li (i26:Int))],[.cells [li p.op,li p.ctor,li p.n,li p.m,li p.var,am zJ p.kids],.dead,.elems 6 (zB zJ out)]⟩ (hold Q .mk)):=by
 refine F.f180.partial_correctness p v24
  _
  ?_
 ·intro _f_spec_l3Split__o0_l2 ih_spec_l3Split__o0_l2 out i26 o hF
  refine ZJ rfl fun Q hq hk hs=> ?_
  have b6:=hk 6
  simp -dsimp at b6
  have d0:=hs 0 _ rfl
  simp -dsimp[zR]at d0
  have d2:=hs 2 _ rfl
  simp -dsimp[zR]at d2
  clear hk hs
  refine eN ?_
  repeat first|refine cg ?_|simp -dsimp
  revert hF;refine aS ?_ ?_<;>intro h27 q28 hF
  ·have z29:((i26:Int)<(v24.length:Int)):=auz
   have hF:=ob hF;obtain⟨x30,e31,hF⟩:=hF
   have le31:=ZC e31
   have hF:=oc hF;obtain⟨c32,hF⟩:=hF
   have w33:i64.wrap ((i26:Int)+1)=(i26:Int)+1:=ZD (by omega) (by omega)
   repeat first|refine cg ?_|simp -dsimp[h27,z29,↓e31,w33]
   refine zY ((ih_spec_l3Split__o0_l2 (out++[(⟨p.op,p.ctor,p.n,p.m,p.var,x30⟩:Pattern)]) (i26+1) o hF) _ rfl _ hq)
  ·have z29:¬((i26:Int)<(v24.length:Int)):=auz
   cases hF
   repeat first|refine cg ?_|simp -dsimp[h27,q28,z29]
   refine zZ hq
theorem CC.spec_l3Split__o0  :(∀(p:Pattern) (r:List Pattern),F.f181 p=some r->BCall zQ B 35 [] [.agg [li p.op,li p.ctor,li p.n,li p.m,li p.var,am zJ p.kids]] (.own 0 (zA (α:=Pattern) r)) [.elems 6 (zB zJ r)])/\
  (∀(p:Pattern) (lists:List (List Pattern)) (i:Nat) (o:List (List Pattern)),F.f182 p lists i=some o->∀(c:Code),ZZ [1,1,1,0,1,0,0] (ZI Tryz.f35)=some c->∀(Q:Exit->ASt->Prop),(Q (.exit 0) ⟨[(1,.ptr 0 0),(4,.own 1 (zA (α:=List Pattern) o))],[.cells [li p.op,li p.ctor,li p.n,li p.m,li p.var,am zJ p.kids],.elems 1 (zB (cL zJ) o)]⟩)->ALoopU zQ B 0 67 (hold c .mk) ⟨[(1,.ptr 0 0),(4,.own 1 (zA (α:=List Pattern) lists)),(5,li (i:Int))],[.cells [li p.op,li p.ctor,li p.n,li p.m,li p.var,am zJ p.kids],.elems 1 (zB (cL zJ) lists)]⟩ (hold Q .mk)):=by
 refine F.f181.mutual_partial_correctness 
  _ _
  ?_ ?_
 ·intro _f_spec_l3Split__o0 _f_spec_l3Split__o0_l1 ih_spec_l3Split__o0 ih_spec_l3Split__o0_l1 p r hF
  refine yD (τ1:=[]) (ys:=[.own 0 (zA (α:=Pattern) r)]) (news:=[(6,zB zJ r)]) func35 (by kernel_rfl) rfl ntmps35 (by simp) rfl rfl (by simp) (by simp) (by simp) (by simp) (by simp) (by simp) (gR _) ?_
  repeat first|refine cg ?_|simp -dsimp
  revert hF;refine aS ?_ ?_<;>intro h1 q2 hF
  ·repeat first|refine cg ?_|simp -dsimp[h1]
   refine zS [35] [(0,0),(0,0),(0,0),(0,0),(0,3),(0,1),(0,1),(0,1),(0,1),(0,3),(0,3),(3,3)] [1,1,1,1,1,0,2,0,0,1,1,1] follows ?_
   have hF:=ob hF;obtain⟨x,e3,hF⟩:=hF
   have le3:=ZC e3
   repeat first|refine cg ?_|simp -dsimp[↓e3]
   have hF:=ob hF;obtain⟨v,e4,hF⟩:=hF
   refine((ih_spec_l3Split__o0 x v e4)).ego (pl [1]) (by simp) (by simp) (by intro i j hi;simp at hi) (by intro i hi hi';simp at hi hi';have hi:i=0:=(by omega);rcases hi with rfl<;>simp[pl]) (by simp_all) (by simp_all) ?_
   have hF:=ob hF;obtain⟨x5,e6,hF⟩:=hF
   have le6:=ZC e6
   repeat first|refine cg ?_|simp -dsimp[↓e6]
   have hF:=ob hF;obtain⟨v7,e8,hF⟩:=hF
   refine((ih_spec_l3Split__o0 x5 v7 e8)).ego (pl [2]) (by simp) (by simp) (by intro i j hi;simp at hi) (by intro i hi hi';simp at hi hi';have hi:i=0:=(by omega);rcases hi with rfl<;>simp[pl]) (by simp_all) (by simp_all) ?_
   have hF:=oc hF;obtain⟨c9,hF⟩:=hF
   repeat first|refine cg ?_|simp -dsimp
   revert hF;refine aS ?_ ?_<;>intro h10 q11 hF
   ·have z12:(401<(((v++v7).length:Nat):Int)):=auz
    have hF:=oc hF;obtain⟨c13,hF⟩:=hF
    cases hF
    repeat first|refine cg ?_|simp -dsimp[h10,z12]
    all_goals(try first|omega|rfl|(simp;done)|(simp only[zC,zD]at*;omega)|simp)
   ·have z12:¬(401<(((v++v7).length:Nat):Int)):=auz
    cases hF
    repeat first|refine cg ?_|simp -dsimp[h10,q11,z12]
    all_goals(try first|omega|rfl|(simp;done)|(simp only[zC,zD]at*;omega)|simp)
  ·repeat first|refine cg ?_|simp -dsimp[q2]
   have hF:=ob hF;obtain⟨o',ho23,hF⟩:=hF
   refine zL ((ih_spec_l3Split__o0_l1 p [] 0 o' ho23) _ rfl _ ?_)
   repeat first|refine cg ?_|simp -dsimp
   have hF:=ob hF;obtain⟨v24,e25,hF⟩:=hF
   refine yK ?_ ((C.f179 B hB1 hB2 o' v24 e25)).ent
   repeat first|refine cg ?_|simp -dsimp
   refine((C.f179 B hB1 hB2 o' v24 e25)).goI ?_
   repeat first|refine cg ?_|simp -dsimp
   have hF:=ob hF;obtain⟨o'35,ho34,hF⟩:=hF
   refine zL (((CC.spec_l3Split__o0_l2 B hB1 hB2 p v24) [] 0 o'35 ho34) _ rfl _ ?_)
   cases hF
   repeat first|refine cg ?_|simp -dsimp
   all_goals(try first|omega|rfl|(simp;done)|(simp only[zC,zD]at*;omega)|simp)
 ·intro _f_spec_l3Split__o0 _f_spec_l3Split__o0_l1 ih_spec_l3Split__o0 ih_spec_l3Split__o0_l1 p lists i o hF
  refine ZJ rfl fun Q hq hk hs=> ?_
  have d0:=hs 0 _ rfl
  simp -dsimp[zR]at d0
  have d1:=hs 1 _ rfl
  simp -dsimp[zR]at d1
  clear hk hs
  refine eN ?_
  repeat first|refine cg ?_|simp -dsimp
  revert hF;refine aS ?_ ?_<;>intro h14 q15 hF
  ·have z16:((i:Int)<(p.kids.length:Int)):=auz
   have hF:=ob hF;obtain⟨x17,e18,hF⟩:=hF
   have le18:=ZC e18
   repeat first|refine cg ?_|simp -dsimp[h14,z16,↓e18]
   have hF:=ob hF;obtain⟨v19,e20,hF⟩:=hF
   refine((ih_spec_l3Split__o0 x17 v19 e20)).go (pl [2]) (by simp) (by simp) (by intro i j hi;simp at hi) (by intro i hi hi';simp at hi hi';have hi:i=0:=(by omega);rcases hi with rfl<;>simp[pl]) (by simp_all) (by simp_all) ?_
   have hF:=oc hF;obtain⟨c21,hF⟩:=hF
   have w22:i64.wrap ((i:Int)+1)=(i:Int)+1:=ZD (by omega) (by omega)
   repeat first|refine cg ?_|simp -dsimp[w22]
   refine zY ((ih_spec_l3Split__o0_l1 p (lists++[v19]) (i+1) o hF) _ rfl _ hq)
  ·have z16:¬((i:Int)<(p.kids.length:Int)):=auz
   cases hF
   repeat first|refine cg ?_|simp -dsimp[h14,q15,z16]
   refine zZ hq
theorem C.f183 (path:List Int)(i:Int)(r:List Int)(hF:F.f183 path i=some r):PureCall zQ B 96 [am cI path,li i] (am cI r):=by
 unfold F.f183 at hF
 refine yA func96 rfl ntmps96 ?_
 have hF:=oc hF;obtain⟨c1,hF⟩:=hF
 have hF:=oc hF;obtain⟨c2,hF⟩:=hF
 cases hF
 repeat first|refine cg ?_|simp -dsimp
theorem CC.f184  :(∀(out:List Step) (p:Pattern) (path:List Int) (r:List Step),F.f184 out p path=some r->BCall zQ B 62 [.elems 8 (zB yG out)] [.own 0 (zA (α:=Step) out),.agg [li p.op,li p.ctor,li p.n,li p.m,li p.var,am zJ p.kids],am cI path] (.own 0 (zA (α:=Step) r)) [.elems 8 (zB yG r)])/\
  (∀(p:Pattern) (path:List Int) (out13:List Step) (i:Nat) (o:List Step),F.f185 p path out13 i=some o->∀(c:Code),ZZ [1,0,1,0,1,1,1,1,1,0,1,1,0,0] (ZI Tryz.f62)=some c->∀(Q:Exit->ASt->Prop),(Q (.exit 1) ⟨[(0,.own 0 (zA (α:=Step) o))],[.elems 8 (zB yG o)]⟩)->ALoopU zQ B 1 61 (hold c .mk) ⟨[(0,.own 0 (zA (α:=Step) out13)),(2,am cI path),(4,.ptr 1 0),(7,li (i:Int))],[.elems 8 (zB yG out13),.cells [li p.op,li p.ctor,li p.n,li p.m,li p.var,am zJ p.kids]]⟩ (hold Q .mk)):=by
 refine F.f184.mutual_partial_correctness 
  _ _
  ?_ ?_
 ·intro _f_f184 _f_f185 ih_f184 ih_f185 out p path r hF
  refine yC func62 (by kernel_rfl) rfl ntmps62 (by simp) rfl (by simp) (by simp) (by simp) (by simp) (by simp) (gR _) ?_
  repeat first|refine cg ?_|simp -dsimp
  revert hF;refine aS ?_ ?_<;>intro h1 q2 hF
  ·have hF:=ob hF;obtain⟨x,e3,hF⟩:=hF
   have le3:=ZC e3
   repeat first|refine cg ?_|simp -dsimp[h1,↓e3]
   have hF:=ob hF;obtain⟨v,e4,hF⟩:=hF
   refine((ih_f184 out x path v e4)).go (pl [0]) (by simp) (by simp) (Zy _ rfl (by decide)) (by intro i hi hi';simp at hi hi';first|omega|(subst hi';simp[pl])) (by simp_all) (by simp_all) ?_
   cases hF
   repeat first|refine cg ?_|simp -dsimp
  ·repeat first|refine cg ?_|simp -dsimp[h1,q2]
   revert hF;refine aS ?_ ?_<;>intro h5 q6 hF
   ·repeat first|refine cg ?_|simp -dsimp[h5]
    refine zS [1000041] [(0,4),(0,5),(0,1),(0,5),(0,2),(0,2),(0,2),(0,2),(0,5),(0,5),(0,5),(5,5)] [1,1,1,1,0,2,0,2,1,1,1,1] follows ?_
    have hF:=oc hF;obtain⟨c7,hF⟩:=hF
    have hF:=oc hF;obtain⟨c8,hF⟩:=hF
    cases hF
    repeat first|refine cg ?_|simp -dsimp
   ·repeat first|refine cg ?_|simp -dsimp[q6]
    revert hF;refine aS ?_ ?_<;>intro h9 q10 hF
    ·repeat first|refine cg ?_|simp -dsimp[h9]
     refine zS [1000041] [(0,4),(0,5),(0,1),(0,5),(0,2),(0,2),(0,5),(0,5),(0,5),(5,5)] [1,1,1,1,0,2,1,1,1,1] follows ?_
     have hF:=oc hF;obtain⟨c11,hF⟩:=hF
     have hF:=oc hF;obtain⟨c12,hF⟩:=hF
     repeat first|refine cg ?_|simp -dsimp
     have hF:=ob hF;obtain⟨o',ho24,hF⟩:=hF
     refine zL ((ih_f185 p path (out++[(⟨1,path,p.ctor,0,0,0,[],0⟩:Step)]) 0 o' ho24) _ rfl _ ?_)
     cases hF
     repeat first|refine cg ?_|simp -dsimp
    ·cases hF
     repeat first|refine cg ?_|simp -dsimp[q10]
 ·intro _f_f184 _f_f185 ih_f184 ih_f185 p path out13 i o hF
  refine ZJ rfl fun Q hq hk hs=> ?_
  have b2:=hk 2
  simp -dsimp at b2
  have d0:=hs 0 _ rfl
  simp -dsimp[zR]at d0
  have d1:=hs 1 _ rfl
  simp -dsimp[zR]at d1
  clear hk hs
  refine eN ?_
  repeat first|refine cg ?_|simp -dsimp
  revert hF;refine aS ?_ ?_<;>intro h14 q15 hF
  ·have z16:((i:Int)<(p.kids.length:Int)):=auz
   repeat first|refine cg ?_|simp -dsimp[h14,z16]
   refine zS [62] [(0,0),(0,0),(0,0),(0,0),(0,0),(0,0),(0,0),(0,0),(0,1),(0,1),(1,1)] [1,1,1,1,1,1,1,1,1,1,1] follows ?_
   have hF:=ob hF;obtain⟨x17,e18,hF⟩:=hF
   have le18:=ZC e18
   repeat first|refine cg ?_|simp -dsimp[↓e18]
   have hF:=ob hF;obtain⟨v19,e20,hF⟩:=hF
   refine((C.f183 B hB1 hB2 path (i:Int) v19 e20)).pgoW (by simp_all) (by simp) ?_
   repeat first|refine cg ?_|simp -dsimp
   have hF:=ob hF;obtain⟨v21,e22,hF⟩:=hF
   refine((ih_f184 out13 x17 v19 v21 e22)).ego (pl [0]) (by simp) (by simp) (Zy _ rfl (by decide)) (by intro i hi hi';simp at hi hi';first|omega|(subst hi';simp[pl])) (by simp_all) (by simp_all) ?_
   have w23:i64.wrap ((i:Int)+1)=(i:Int)+1:=ZD (by omega) (by omega)
   repeat first|refine cg ?_|simp -dsimp[w23]
   refine zY ((ih_f185 p path v21 (i+1) o hF) _ rfl _ hq)
  ·have z16:¬((i:Int)<(p.kids.length:Int)):=auz
   cases hF
   repeat first|refine cg ?_|simp -dsimp[h14,q15,z16]
   refine zZ hq
theorem CC.f186  :(∀(out:List PathBind) (p:Pattern) (path:List Int) (r:List PathBind),F.f186 out p path=some r->BCall zQ B 64 [.elems 2 (zB yH out)] [.own 0 (zA (α:=PathBind) out),.agg [li p.op,li p.ctor,li p.n,li p.m,li p.var,am zJ p.kids],am cI path] (.own 0 (zA (α:=PathBind) r)) [.elems 2 (zB yH r)])/\
  (∀(p:Pattern) (path:List Int) (out24:List PathBind) (i25:Nat) (o:List PathBind),F.f188 p path out24 i25=some o->∀(c:Code),ZZ [1,1,0,1,0,0] (ZI Tryz.f64)=some c->∀(Q:Exit->ASt->Prop),(Q (.exit 0) ⟨[(0,.own 0 (zA (α:=PathBind) o))],[.elems 2 (zB yH o)]⟩)->ALoopU zQ B 1 49 (hold c .mk) ⟨[(0,.own 0 (zA (α:=PathBind) out24)),(2,am cI path),(4,.ptr 1 0),(7,li (i25:Int))],[.elems 2 (zB yH out24),.cells [li p.op,li p.ctor,li p.n,li p.m,li p.var,am zJ p.kids]]⟩ (hold Q .mk))/\
  (∀(p:Pattern) (path:List Int) (out7:List PathBind) (i:Nat) (o:List PathBind),F.f187 p path out7 i=some o->∀(c:Code),ZZ [1,1,0,1,0,0] (ZI Tryz.f64)=some c->∀(Q:Exit->ASt->Prop),(Q (.exit 0) ⟨[(0,.own 0 (zA (α:=PathBind) o))],[.elems 2 (zB yH o)]⟩)->ALoopU zQ B 1 49 (hold c .mk) ⟨[(0,.own 0 (zA (α:=PathBind) out7)),(2,am cI path),(4,.ptr 1 0),(7,li (i:Int))],[.elems 2 (zB yH out7),.cells [li p.op,li p.ctor,li p.n,li p.m,li p.var,am zJ p.kids]]⟩ (hold Q .mk))/\
  (∀(p:Pattern) (path:List Int) (out47:List PathBind) (i48:Nat) (o:List PathBind),F.f189 p path out47 i48=some o->∀(c:Code),ZZ [1,1,0,1,0,0] (ZI Tryz.f64)=some c->∀(Q:Exit->ASt->Prop),(Q (.exit 0) ⟨[(0,.own 0 (zA (α:=PathBind) o))],[.elems 2 (zB yH o)]⟩)->ALoopU zQ B 1 49 (hold c .mk) ⟨[(0,.own 0 (zA (α:=PathBind) out47)),(2,am cI path),(4,.ptr 1 0),(7,li (i48:Int))],[.elems 2 (zB yH out47),.cells [li p.op,li p.ctor,li p.n,li p.m,li p.var,am zJ p.kids]]⟩ (hold Q .mk)):=by
 refine F.f186.mutual_partial_correctness 
  _ _ _ _
  ?_ ?_ ?_ ?_
 ·intro _f_f188 _f_f187 _f_f189 ih_f188 ih_f187 ih_f189 out p path r hF
  refine yC func64 (by kernel_rfl) rfl ntmps64 (by simp) rfl (by simp) (by simp) (by simp) (by simp) (by simp) (gR _) ?_
  repeat first|refine cg ?_|simp -dsimp
  revert hF;refine aN ?_ ?_<;>intro h1 q2 hF
  ·repeat first|refine cg ?_|simp -dsimp[h1,q2]
   revert hF;refine aS ?_ ?_<;>intro h3 q4 hF
   ·repeat first|refine cg ?_|simp -dsimp[h3]
    refine zS [1000074] [(0,4),(0,2),(0,2),(0,5),(0,1),(0,5),(0,5),(0,5),(0,5),(5,5)] [1,0,2,1,1,1,1,1,1,1] follows ?_
    have hF:=oc hF;obtain⟨c5,hF⟩:=hF
    have hF:=oc hF;obtain⟨c6,hF⟩:=hF
    repeat first|refine cg ?_|simp -dsimp
    have hF:=ob hF;obtain⟨o',ho23,hF⟩:=hF
    refine zL ((ih_f187 p path (out++[(⟨p.var,path⟩:PathBind)]) 0 o' ho23) _ rfl _ ?_)
    cases hF
    repeat first|refine cg ?_|simp -dsimp
   ·repeat first|refine cg ?_|simp -dsimp[q4]
    have hF:=ob hF;obtain⟨o'44,ho43,hF⟩:=hF
    refine zL ((ih_f188 p path out 0 o'44 ho43) _ rfl _ ?_)
    cases hF
    repeat first|refine cg ?_|simp -dsimp
  ·repeat first|refine cg ?_|simp -dsimp[h1,q2]
   refine zS [1000074] [(0,4),(0,2),(0,2),(0,5),(0,1),(0,5),(0,5),(0,5),(0,5),(5,5)] [1,0,2,1,1,1,1,1,1,1] follows ?_
   have hF:=oc hF;obtain⟨c45,hF⟩:=hF
   have hF:=oc hF;obtain⟨c46,hF⟩:=hF
   repeat first|refine cg ?_|simp -dsimp
   have hF:=ob hF;obtain⟨o'67,ho66,hF⟩:=hF
   refine zL ((ih_f189 p path (out++[(⟨p.var,path⟩:PathBind)]) 0 o'67 ho66) _ rfl _ ?_)
   cases hF
   repeat first|refine cg ?_|simp -dsimp
 ·intro _f_f186 _f_f188 ih_f186 ih_f188 p path out24 i25 o hF
  refine ZJ rfl fun Q hq hk hs=> ?_
  have b2:=hk 2
  simp -dsimp at b2
  have d0:=hs 0 _ rfl
  simp -dsimp[zR]at d0
  have d1:=hs 1 _ rfl
  simp -dsimp[zR]at d1
  clear hk hs
  refine eN ?_
  repeat first|refine cg ?_|simp -dsimp
  revert hF;refine aS ?_ ?_<;>intro h26 q27 hF
  ·have z28:((i25:Int)<(p.kids.length:Int)):=auz
   repeat first|refine cg ?_|simp -dsimp[h26,z28]
   revert hF;refine aS ?_ ?_<;>intro h29 q30 hF
   ·repeat first|refine cg ?_|simp -dsimp[h29]
    have hF:=ob hF;obtain⟨v31,e32,hF⟩:=hF
    refine((C.f183 B hB1 hB2 path (i25:Int) v31 e32)).goI ?_
    have hF:=ob hF;obtain⟨x33,e34,hF⟩:=hF
    have le34:=ZC e34
    repeat first|refine cg ?_|simp -dsimp[↓e34]
    have hF:=ob hF;obtain⟨v35,e36,hF⟩:=hF
    refine((ih_f186 out24 x33 v31 v35 e36)).go (pl [0]) (by simp) (by simp) (Zy _ rfl (by decide)) (by intro i hi hi';simp at hi hi';first|omega|(subst hi';simp[pl])) (by simp[h26,z28,h29,↓e34]) (by simp[h26,z28,h29,↓e34]) ?_
    have w37:i64.wrap ((i25:Int)+1)=(i25:Int)+1:=ZD (by omega) (by omega)
    repeat first|refine cg ?_|simp -dsimp[w37]
    refine zY ((ih_f188 p path v35 (i25+1) o hF) _ rfl _ hq)
   ·have hF:=ob hF;obtain⟨x38,e39,hF⟩:=hF
    have le39:=ZC e39
    repeat first|refine cg ?_|simp -dsimp[q30,↓e39]
    have hF:=ob hF;obtain⟨v40,e41,hF⟩:=hF
    refine((ih_f186 out24 x38 path v40 e41)).go (pl [0]) (by simp) (by simp) (Zy _ rfl (by decide)) (by intro i hi hi';simp at hi hi';first|omega|(subst hi';simp[pl])) (by simp[h26,z28,h29,q30,↓e39]) (by simp[h26,z28,h29,q30,↓e39]) ?_
    have w42:i64.wrap ((i25:Int)+1)=(i25:Int)+1:=ZD (by omega) (by omega)
    repeat first|refine cg ?_|simp -dsimp[w42]
    refine zY ((ih_f188 p path v40 (i25+1) o hF) _ rfl _ hq)
  ·have z28:¬((i25:Int)<(p.kids.length:Int)):=auz
   cases hF
   repeat first|refine cg ?_|simp -dsimp[h26,q27,z28]
   refine zZ hq
 ·intro _f_f186 _f_f187 ih_f186 ih_f187 p path out7 i o hF
  refine ZJ rfl fun Q hq hk hs=> ?_
  have b2:=hk 2
  simp -dsimp at b2
  have d0:=hs 0 _ rfl
  simp -dsimp[zR]at d0
  have d1:=hs 1 _ rfl
  simp -dsimp[zR]at d1
  clear hk hs
  refine eN ?_
  repeat first|refine cg ?_|simp -dsimp
  revert hF;refine aS ?_ ?_<;>intro h8 q9 hF
  ·have z10:((i:Int)<(p.kids.length:Int)):=auz
   repeat first|refine cg ?_|simp -dsimp[h8,z10]
   revert hF;refine aS ?_ ?_<;>intro h11 q12 hF
   ·repeat first|refine cg ?_|simp -dsimp[h11]
    have hF:=ob hF;obtain⟨v,e13,hF⟩:=hF
    refine((C.f183 B hB1 hB2 path (i:Int) v e13)).goI ?_
    have hF:=ob hF;obtain⟨x,e14,hF⟩:=hF
    have le14:=ZC e14
    repeat first|refine cg ?_|simp -dsimp[↓e14]
    have hF:=ob hF;obtain⟨v15,e16,hF⟩:=hF
    refine((ih_f186 out7 x v v15 e16)).go (pl [0]) (by simp) (by simp) (Zy _ rfl (by decide)) (by intro i hi hi';simp at hi hi';first|omega|(subst hi';simp[pl])) (by simp[h8,z10,h11,↓e14]) (by simp[h8,z10,h11,↓e14]) ?_
    have w17:i64.wrap ((i:Int)+1)=(i:Int)+1:=ZD (by omega) (by omega)
    repeat first|refine cg ?_|simp -dsimp[w17]
    refine zY ((ih_f187 p path v15 (i+1) o hF) _ rfl _ hq)
   ·have hF:=ob hF;obtain⟨x18,e19,hF⟩:=hF
    have le19:=ZC e19
    repeat first|refine cg ?_|simp -dsimp[q12,↓e19]
    have hF:=ob hF;obtain⟨v20,e21,hF⟩:=hF
    refine((ih_f186 out7 x18 path v20 e21)).go (pl [0]) (by simp) (by simp) (Zy _ rfl (by decide)) (by intro i hi hi';simp at hi hi';first|omega|(subst hi';simp[pl])) (by simp[h8,z10,h11,q12,↓e19]) (by simp[h8,z10,h11,q12,↓e19]) ?_
    have w22:i64.wrap ((i:Int)+1)=(i:Int)+1:=ZD (by omega) (by omega)
    repeat first|refine cg ?_|simp -dsimp[w22]
    refine zY ((ih_f187 p path v20 (i+1) o hF) _ rfl _ hq)
  ·have z10:¬((i:Int)<(p.kids.length:Int)):=auz
   cases hF
   repeat first|refine cg ?_|simp -dsimp[h8,q9,z10]
   refine zZ hq
 ·intro _f_f186 _f_f189 ih_f186 ih_f189 p path out47 i48 o hF
  refine ZJ rfl fun Q hq hk hs=> ?_
  have b2:=hk 2
  simp -dsimp at b2
  have d0:=hs 0 _ rfl
  simp -dsimp[zR]at d0
  have d1:=hs 1 _ rfl
  simp -dsimp[zR]at d1
  clear hk hs
  refine eN ?_
  repeat first|refine cg ?_|simp -dsimp
  revert hF;refine aS ?_ ?_<;>intro h49 q50 hF
  ·have z51:((i48:Int)<(p.kids.length:Int)):=auz
   repeat first|refine cg ?_|simp -dsimp[h49,z51]
   revert hF;refine aS ?_ ?_<;>intro h52 q53 hF
   ·repeat first|refine cg ?_|simp -dsimp[h52]
    have hF:=ob hF;obtain⟨v54,e55,hF⟩:=hF
    refine((C.f183 B hB1 hB2 path (i48:Int) v54 e55)).goI ?_
    have hF:=ob hF;obtain⟨x56,e57,hF⟩:=hF
    have le57:=ZC e57
    repeat first|refine cg ?_|simp -dsimp[↓e57]
    have hF:=ob hF;obtain⟨v58,e59,hF⟩:=hF
    refine((ih_f186 out47 x56 v54 v58 e59)).go (pl [0]) (by simp) (by simp) (Zy _ rfl (by decide)) (by intro i hi hi';simp at hi hi';first|omega|(subst hi';simp[pl])) (by simp[h49,z51,h52,↓e57]) (by simp[h49,z51,h52,↓e57]) ?_
    have w60:i64.wrap ((i48:Int)+1)=(i48:Int)+1:=ZD (by omega) (by omega)
    repeat first|refine cg ?_|simp -dsimp[w60]
    refine zY ((ih_f189 p path v58 (i48+1) o hF) _ rfl _ hq)
   ·have hF:=ob hF;obtain⟨x61,e62,hF⟩:=hF
    have le62:=ZC e62
    repeat first|refine cg ?_|simp -dsimp[q53,↓e62]
    have hF:=ob hF;obtain⟨v63,e64,hF⟩:=hF
    refine((ih_f186 out47 x61 path v63 e64)).go (pl [0]) (by simp) (by simp) (Zy _ rfl (by decide)) (by intro i hi hi';simp at hi hi';first|omega|(subst hi';simp[pl])) (by simp[h49,z51,h52,q53,↓e62]) (by simp[h49,z51,h52,q53,↓e62]) ?_
    have w65:i64.wrap ((i48:Int)+1)=(i48:Int)+1:=ZD (by omega) (by omega)
    repeat first|refine cg ?_|simp -dsimp[w65]
    refine zY ((ih_f189 p path v63 (i48+1) o hF) _ rfl _ hq)
  ·have z51:¬((i48:Int)<(p.kids.length:Int)):=auz
   cases hF
   repeat first|refine cg ?_|simp -dsimp[h49,q50,z51]
   refine zZ hq
theorem CC.f190 (list:List PathBind)(n:Nat):(∀(out4:List PathBind) (i:Nat) (o:List PathBind),F.f190 list n out4 i=some o->∀(c:Code),ZZ [1,1,0,1,0,0,1,0,0,1,0,0] (ZI Tryz.f63)=some c->∀(Q:Exit->ASt->Prop),(Q (.exit 2) ⟨[(0,am yH list),(3,.own 0 (zA (α:=PathBind) o)),(4,li (n:Int))],[.elems 2 (zB yH o)]⟩)->ALoopU zQ B 0 37 (hold c .mk) ⟨[(0,am yH list),(3,.own 0 (zA (α:=PathBind) out4)),(4,li (n:Int)),(5,li (i:Int))],[.elems 2 (zB yH out4)]⟩ (hold Q .mk)):=by
 refine F.f190.partial_correctness list n
  _
  ?_
 ·intro _f_f190 ih_f190 out4 i o hF
  refine ZJ rfl fun Q hq hk hs=> ?_
  have b0:=hk 0
  simp -dsimp at b0
  have d0:=hs 0 _ rfl
  simp -dsimp[zR]at d0
  clear hk hs
  refine eN ?_
  repeat first|refine cg ?_|simp -dsimp
  revert hF;refine aS ?_ ?_<;>intro h5 q6 hF
  ·have z7:((i:Int)<(list.length:Int)):=auz
   have hF:=ob hF;obtain⟨x,e8,hF⟩:=hF
   have le8:=ZC e8
   repeat first|refine cg ?_|simp -dsimp[h5,z7,↓e8]
   revert hF;refine aS ?_ ?_<;>intro h9 q10 hF
   ·have hF:=oc hF;obtain⟨c11,hF⟩:=hF
    have hF:=oc hF;obtain⟨c12,hF⟩:=hF
    have w13:i64.wrap ((i:Int)+1)=(i:Int)+1:=ZD (by omega) (by omega)
    repeat first|refine cg ?_|simp -dsimp[↓e8,h9,w13]
    refine zY ((ih_f190 (out4++[(⟨(n:Int),x.path⟩:PathBind)]) (i+1) o hF) _ rfl _ hq)
   ·have w14:i64.wrap ((i:Int)+1)=(i:Int)+1:=ZD (by omega) (by omega)
    repeat first|refine cg ?_|simp -dsimp[↓e8,h9,q10,w14]
    refine zY ((ih_f190 out4 (i+1) o hF) _ rfl _ hq)
  ·have z7:¬((i:Int)<(list.length:Int)):=auz
   cases hF
   repeat first|refine cg ?_|simp -dsimp[h5,q6,z7]
   refine zZ hq
theorem CC.f191 (list:List PathBind):(∀(out:List PathBind) (n:Nat) (o:List PathBind),F.f191 list out n=some o->∀(c:Code),ZZ [1,1,0,1,0,0] (ZI Tryz.f63)=some c->∀(Q:Exit->ASt->Prop),(Q (.exit 0) ⟨[(3,.own 0 (zA (α:=PathBind) o))],[.elems 2 (zB yH o)]⟩)->ALoopU zQ B 0 37 (hold c .mk) ⟨[(0,am yH list),(3,.own 0 (zA (α:=PathBind) out)),(4,li (n:Int))],[.elems 2 (zB yH out)]⟩ (hold Q .mk)):=by
 refine F.f191.partial_correctness list
  _
  ?_
 ·intro _f_f191 ih_f191 out n o hF
  refine ZJ rfl fun Q hq hk hs=> ?_
  have b0:=hk 0
  simp -dsimp at b0
  have d0:=hs 0 _ rfl
  simp -dsimp[zR]at d0
  clear hk hs
  refine eN ?_
  repeat first|refine cg ?_|simp -dsimp
  revert hF;refine aS ?_ ?_<;>intro h1 q2 hF
  ·have z3:((n:Int)<=5):=auz
   repeat first|refine cg ?_|simp -dsimp[h1,z3]
   have hF:=ob hF;obtain⟨o',ho15,hF⟩:=hF
   refine zL (((CC.f190 B hB1 hB2 list n) out 0 o' ho15) _ rfl _ ?_)
   have hF:=oc hF;obtain⟨c16,hF⟩:=hF
   have w17:i64.wrap ((n:Int)+1)=(n:Int)+1:=ZD (by omega) (by omega)
   repeat first|refine cg ?_|simp -dsimp[w17]
   refine zY ((ih_f191 o' (n+1) o hF) _ rfl _ hq)
  ·have z3:¬((n:Int)<=5):=auz
   cases hF
   repeat first|refine cg ?_|simp -dsimp[h1,q2,z3]
   refine zZ hq
theorem C.f192 (list:List PathBind)(r:List PathBind)(hF:F.f192 list=some r):PureCall zQ B 63 [am yH list] (am yH r):=by
 unfold F.f192 at hF
 refine yA func63 rfl ntmps63 ?_
 repeat first|refine cg ?_|simp -dsimp
 have hF:=ob hF;obtain⟨o'19,ho18,hF⟩:=hF
 refine zL (((CC.f191 B hB1 hB2 list) [] 0 o'19 ho18) _ rfl _ ?_)
 cases hF
 repeat first|refine cg ?_|simp -dsimp
theorem CC.f193 (list:List Clause)(out:List Step)(i:Nat)(v:List Pattern)(k:Nat):(∀(out19:List Step) (n:Nat) (o:List Step),F.f193 list out i v k out19 n=some o->∀(c:Code),ZZ [1,1,0,1,0,0,1,0,0,1,1,0,1,0,0,1,0,0,1,1,1,1,0,0] (ZI Tryz.f36)=some c->∀(Q:Exit->ASt->Prop),(Q (.exit 4) ⟨[(0,am yB list),(3,.own 0 (zA (α:=Step) o)),(4,li (i:Int)),(5,.own 1 (zA (α:=Pattern) v)),(6,li (out.length:Int)),(7,li (k:Int))],[.elems 8 (zB yG o),.elems 6 (zB zJ v)]⟩)->ALoopU zQ B 0 87 (hold c .mk) ⟨[(0,am yB list),(3,.own 0 (zA (α:=Step) out19)),(4,li (i:Int)),(5,.own 1 (zA (α:=Pattern) v)),(6,li (out.length:Int)),(7,li (k:Int)),(9,li (n:Int))],[.elems 8 (zB yG out19),.elems 6 (zB zJ v)]⟩ (hold Q .mk)):=by
 refine F.f193.partial_correctness list out i v k
  _
  ?_
 ·intro _f_f193 ih_f193 out19 n o hF
  refine ZJ rfl fun Q hq hk hs=> ?_
  have b0:=hk 0
  simp -dsimp at b0
  have d0:=hs 0 _ rfl
  simp -dsimp[zR]at d0
  have d1:=hs 1 _ rfl
  simp -dsimp[zR]at d1
  clear hk hs
  refine eN ?_
  repeat first|refine cg ?_|simp -dsimp
  revert hF;refine aS ?_ ?_<;>intro h20 q21 hF
  ·have z22:((n:Int)<(out19.length:Int)):=auz
   have hF:=ob hF;obtain⟨x23,e24,hF⟩:=hF
   have le24:=ZC e24
   have w25:i64.wrap ((n:Int)+1)=(n:Int)+1:=ZD (by omega) (by omega)
   repeat first|refine cg ?_|simp -dsimp[h20,z22,↓e24,w25]
   refine zY ((ih_f193 (out19.set n (⟨x23.op,x23.path,x23.ctor,x23.n,x23.m,x23.clause,x23.binds,(out19.length:Int)⟩:Step)) (n+1) o hF) _ rfl _ hq)
  ·have z22:¬((n:Int)<(out19.length:Int)):=auz
   cases hF
   repeat first|refine cg ?_|simp -dsimp[h20,q21,z22]
   refine zZ hq
theorem CC.f194 (list:List Clause)(out:List Step)(i:Nat)(v:List Pattern):(∀(out6:List Step) (k:Nat) (o:List Step),F.f194 list out i v out6 k=some o->∀(c:Code),ZZ [1,1,0,1,0,0,1,0,0,1,1,0,1,0,0] (ZI Tryz.f36)=some c->∀(Q:Exit->ASt->Prop),(Q (.exit 2) ⟨[(0,am yB list),(3,.own 0 (zA (α:=Step) o)),(4,li (i:Int)),(6,li (out.length:Int))],[.elems 8 (zB yG o)]⟩)->ALoopU zQ B 0 87 (hold c .mk) ⟨[(0,am yB list),(3,.own 0 (zA (α:=Step) out6)),(4,li (i:Int)),(5,.own 1 (zA (α:=Pattern) v)),(6,li (out.length:Int)),(7,li (k:Int))],[.elems 8 (zB yG out6),.elems 6 (zB zJ v)]⟩ (hold Q .mk)):=by
 refine F.f194.partial_correctness list out i v
  _
  ?_
 ·intro _f_f194 ih_f194 out6 k o hF
  refine ZJ rfl fun Q hq hk hs=> ?_
  have b0:=hk 0
  simp -dsimp at b0
  have d0:=hs 0 _ rfl
  simp -dsimp[zR]at d0
  have d1:=hs 1 _ rfl
  simp -dsimp[zR]at d1
  clear hk hs
  refine eN ?_
  repeat first|refine cg ?_|simp -dsimp
  revert hF;refine aS ?_ ?_<;>intro h7 q8 hF
  ·have z9:((k:Int)<(v.length:Int)):=auz
   have hF:=ob hF;obtain⟨x10,e11,hF⟩:=hF
   have le11:=ZC e11
   repeat first|refine cg ?_|simp -dsimp[h7,z9,↓e11]
   have hF:=ob hF;obtain⟨v12,e13,hF⟩:=hF
   refine(((CC.f184 B hB1 hB2).1 out6 x10 [] v12 e13)).go (pl [0]) (by simp) (by simp) (Zy _ rfl (by decide)) (by intro i hi hi';simp at hi hi';first|omega|(subst hi';simp[pl])) (by simp_all) (by simp_all) ?_
   repeat first|refine cg ?_|simp -dsimp[↓e11]
   have hF:=ob hF;obtain⟨v14,e15,hF⟩:=hF
   refine ACall.nilArg 0 2 (by simp) ?_
   repeat first|refine cg ?_|simp -dsimp[↓e11]
   refine(((CC.f186 B hB1 hB2).1 [] x10 [] v14 e15)).go (pl [2]) (by simp) (by simp) (Zy _ rfl (by decide)) (by intro i hi hi';simp at hi hi';first|omega|(subst hi';simp[pl])) (by simp_all) (by simp_all) ?_
   repeat first|refine cg ?_|simp -dsimp[↓e11]
   have hF:=ob hF;obtain⟨v16,e17,hF⟩:=hF
   refine yK ?_ ((C.f192 B hB1 hB2 v14 v16 e17)).ent
   repeat first|refine cg ?_|simp -dsimp[↓e11]
   refine((C.f192 B hB1 hB2 v14 v16 e17)).goI ?_
   have hF:=oc hF;obtain⟨c18,hF⟩:=hF
   repeat first|refine cg ?_|simp -dsimp[↓e11]
   have hF:=ob hF;obtain⟨o',ho26,hF⟩:=hF
   refine zL (((CC.f193 B hB1 hB2 list out i v k) (v12++[(⟨2,[],0,0,0,(i:Int),v16,0⟩:Step)]) out6.length o' ho26) _ rfl _ ?_)
   have hF:=oc hF;obtain⟨c27,hF⟩:=hF
   have w28:i64.wrap ((k:Int)+1)=(k:Int)+1:=ZD (by omega) (by omega)
   repeat first|refine cg ?_|simp -dsimp[w28]
   refine zY ((ih_f194 o' (k+1) o hF) _ rfl _ hq)
  ·have z9:¬((k:Int)<(v.length:Int)):=auz
   cases hF
   repeat first|refine cg ?_|simp -dsimp[h7,q8,z9]
   refine zZ hq
theorem CC.f195 (list:List Clause)(i:Nat):(∀(out31:List Step) (n32:Nat) (o:List Step),F.f195 list i out31 n32=some o->∀(c:Code),ZZ [1,1,0,1,0,0,1,0,0,1,1,1,1,0,0] (ZI Tryz.f36)=some c->∀(Q:Exit->ASt->Prop),(Q (.exit 6) ⟨[(0,am yB list),(3,.own 0 (zA (α:=Step) o)),(4,li (i:Int))],[.elems 8 (zB yG o)]⟩)->ALoopU zQ B 0 87 (hold c .mk) ⟨[(0,am yB list),(3,.own 0 (zA (α:=Step) out31)),(4,li (i:Int)),(10,li (n32:Int))],[.elems 8 (zB yG out31)]⟩ (hold Q .mk)):=by
 refine F.f195.partial_correctness list i
  _
  ?_
 ·intro _f_f195 ih_f195 out31 n32 o hF
  refine ZJ rfl fun Q hq hk hs=> ?_
  have b0:=hk 0
  simp -dsimp at b0
  have d0:=hs 0 _ rfl
  simp -dsimp[zR]at d0
  clear hk hs
  refine eN ?_
  repeat first|refine cg ?_|simp -dsimp
  revert hF;refine aS ?_ ?_<;>intro h33 q34 hF
  ·have z35:((n32:Int)<(out31.length:Int)):=auz
   have hF:=ob hF;obtain⟨x36,e37,hF⟩:=hF
   have le37:=ZC e37
   repeat first|refine cg ?_|simp -dsimp[h33,z35,↓e37]
   revert hF;refine aS ?_ ?_<;>intro h38 q39 hF
   ·have w40:i64.wrap ((n32:Int)+1)=(n32:Int)+1:=ZD (by omega) (by omega)
    repeat first|refine cg ?_|simp -dsimp[h38,w40]
    refine zY ((ih_f195 (out31.set n32 (⟨x36.op,x36.path,x36.ctor,x36.n,x36.m,x36.clause,x36.binds,(out31.length:Int)⟩:Step)) (n32+1) o hF) _ rfl _ hq)
   ·have w41:i64.wrap ((n32:Int)+1)=(n32:Int)+1:=ZD (by omega) (by omega)
    repeat first|refine cg ?_|simp -dsimp[h38,q39,w41]
    refine zY ((ih_f195 out31 (n32+1) o hF) _ rfl _ hq)
  ·have z35:¬((n32:Int)<(out31.length:Int)):=auz
   cases hF
   repeat first|refine cg ?_|simp -dsimp[h33,q34,z35]
   refine zZ hq
theorem CC.f196 (list:List Clause):(∀(out:List Step) (i:Nat) (o:List Step),F.f196 list out i=some o->∀(c:Code),ZZ [1,1,0,1,0,0] (ZI Tryz.f36)=some c->∀(Q:Exit->ASt->Prop),(Q (.exit 0) ⟨[(3,.own 0 (zA (α:=Step) o))],[.elems 8 (zB yG o)]⟩)->ALoopU zQ B 0 87 (hold c .mk) ⟨[(0,am yB list),(3,.own 0 (zA (α:=Step) out)),(4,li (i:Int))],[.elems 8 (zB yG out)]⟩ (hold Q .mk)):=by
 refine F.f196.partial_correctness list
  _
  ?_
 ·intro _f_f196 ih_f196 out i o hF
  refine ZJ rfl fun Q hq hk hs=> ?_
  have b0:=hk 0
  simp -dsimp at b0
  have d0:=hs 0 _ rfl
  simp -dsimp[zR]at d0
  clear hk hs
  refine eN ?_
  repeat first|refine cg ?_|simp -dsimp
  revert hF;refine aS ?_ ?_<;>intro h1 q2 hF
  ·have z3:((i:Int)<(list.length:Int)):=auz
   have hF:=ob hF;obtain⟨x,e4,hF⟩:=hF
   have le4:=ZC e4
   repeat first|refine cg ?_|simp -dsimp[h1,z3,↓e4]
   have hF:=ob hF;obtain⟨v,e5,hF⟩:=hF
   refine(((CC.spec_l3Split__o0 B hB1 hB2).1 x.pat v e5)).go (pl [1]) (by simp) (by simp) (by intro i j hi;simp at hi) (by intro i hi hi';simp at hi hi';have hi:i=0:=(by omega);rcases hi with rfl<;>simp[pl]) (by simp_all) (by simp_all) ?_
   repeat first|refine cg ?_|simp -dsimp
   have hF:=ob hF;obtain⟨o'30,ho29,hF⟩:=hF
   refine zL (((CC.f194 B hB1 hB2 list out i v) out 0 o'30 ho29) _ rfl _ ?_)
   repeat first|refine cg ?_|simp -dsimp
   have hF:=ob hF;obtain⟨o'43,ho42,hF⟩:=hF
   refine zL (((CC.f195 B hB1 hB2 list i) o'30 out.length o'43 ho42) _ rfl _ ?_)
   have hF:=oc hF;obtain⟨c44,hF⟩:=hF
   have w45:i64.wrap ((i:Int)+1)=(i:Int)+1:=ZD (by omega) (by omega)
   repeat first|refine cg ?_|simp -dsimp[w45]
   refine zY ((ih_f196 o'43 (i+1) o hF) _ rfl _ hq)
  ·have z3:¬((i:Int)<(list.length:Int)):=auz
   cases hF
   repeat first|refine cg ?_|simp -dsimp[h1,q2,z3]
   refine zZ hq
theorem C.f197 (list:List Clause)(r:List Step)(hF:F.f197 list=some r):PureCall zQ B 36 [am yB list] (am yG r):=by
 unfold F.f197 at hF
 refine yA func36 rfl ntmps36 ?_
 repeat first|refine cg ?_|simp -dsimp
 have hF:=ob hF;obtain⟨o'47,ho46,hF⟩:=hF
 refine zL (((CC.f196 B hB1 hB2 list) [] 0 o'47 ho46) _ rfl _ ?_)
 have hF:=oc hF;obtain⟨c48,hF⟩:=hF
 cases hF
 repeat first|refine cg ?_|simp -dsimp
theorem CC.f198 (list:List Clause):(∀(i:Nat) (o:Lo ((List Step)×Bool) Unit),F.f198 list i=some o->∀(c:Code),ZZ [1,1,0,1,0,0] (ZI Tryz.f13)=some c->∀(Q:Exit->ASt->Prop),o.post (fun r=>∀st,ZAm zQ Tryz.f13 (fun r' _=>r'.le (.tup [am yG r.1,.lit (.bool r.2)])) .ret st->Q .ret st) (fun s=>Q (.exit 0) ⟨[(2,am yB list)],[]⟩)->ALoopU zQ B 0 32 (hold c .mk) ⟨[(2,am yB list),(8,li (i:Int))],[]⟩ (hold Q .mk)):=by
 refine F.f198.partial_correctness list
  _
  ?_
 ·intro _f_f198 ih_f198 i o hF
  refine ZJ rfl fun Q hq hk hs=> ?_
  have b2:=hk 2
  simp -dsimp at b2
  clear hk hs
  refine eN ?_
  repeat first|refine cg ?_|simp -dsimp
  revert hF;refine aS ?_ ?_<;>intro h4 q5 hF
  ·have z6:((i:Int)<(list.length:Int)):=auz
   have hF:=ob hF;obtain⟨x,e7,hF⟩:=hF
   have le7:=ZC e7
   repeat first|refine cg ?_|simp -dsimp[h4,z6,↓e7]
   have hF:=ob hF;obtain⟨v8,e9,hF⟩:=hF
   refine(((CC.spec_l3Split__o0 B hB1 hB2).1 x.pat v8 e9)).go (pl [0]) (by simp) (by simp) (by intro i j hi;simp at hi) (by intro i hi hi';simp at hi hi';have hi:i=0:=(by omega);rcases hi with rfl<;>simp[pl]) (by simp_all) (by simp_all) ?_
   repeat first|refine cg ?_|simp -dsimp
   revert hF;refine aS ?_ ?_<;>intro h10 q11 hF
   ·have z12:(40<(v8.length:Int)):=auz
    cases hF
    repeat first|refine cg ?_|simp -dsimp[h10,z12]
    refine lG _ (gR _) (hq _ ?_)
    repeat first|refine cg ?_|simp -dsimp
   ·have z12:¬(40<(v8.length:Int)):=auz
    have w13:i64.wrap ((i:Int)+1)=(i:Int)+1:=ZD (by omega) (by omega)
    repeat first|refine cg ?_|simp -dsimp[h10,q11,z12,w13]
    refine zY ((ih_f198 (i+1) o hF) _ rfl _ hq)
  ·have z6:¬((i:Int)<(list.length:Int)):=auz
   cases hF
   repeat first|refine cg ?_|simp -dsimp[h4,q5,z6]
   refine zZ hq
theorem C.f199 (w:List zH)(t:Ty)(list:List Clause)(r:(List Step)×Bool)(hF:F.f199 w t list=some r):PureCall zQ B 13 [am zI w,.agg [li t.data,li t.index],am yB list] (.tup [am yG r.1,.lit (.bool r.2)]):=by
 unfold F.f199 at hF
 refine yA func13 rfl ntmps13 ?_
 repeat first|refine cg ?_|simp -dsimp
 have hF:=ob hF;obtain⟨v,e1,hF⟩:=hF
 refine((C.f175 B hB1 hB2 w t list v e1)).goI ?_
 repeat first|refine cg ?_|simp -dsimp
 revert hF;refine aN (fun h2 q3 hF=> ?_) (fun h2 q3 hF=> ?_)
 ·cases hF
  repeat first|refine cg ?_|simp -dsimp[h2,q3]
 ·repeat first|refine cg ?_|simp -dsimp
  have hF:=ob hF;obtain⟨o',ho14,hF⟩:=hF
  refine zL (((CC.f198 B hB1 hB2 list) 0 o' ho14) _ rfl _ ?_)
  rcases o' with r0|sx
  ·dsimp only at hF
   cases hF
   intro st h
   simpa using h
  ·dsimp only at hF
   repeat first|refine cg ?_|simp -dsimp
   have hF:=ob hF;obtain⟨v15,e16,hF⟩:=hF
   refine((C.f197 B hB1 hB2 list v15 e16)).goI ?_
   cases hF
   repeat first|refine cg ?_|simp -dsimp
theorem C.f200 (i:Int)(r:ByteArray)(hF:F.f200 i=some r):PureCall zQ B 17 [li i] (.lit (.string r)):=by
 unfold F.f200 at hF
 have hF:=oc hF;obtain⟨c1,hF⟩:=hF
 cases hF
 exact ZHG Tryz.laysM171 ⟨Tryz.f17,func17,by kernel_rfl,by kernel_rfl⟩ (by kernel_rfl) (by rfl) hB2.2 c1.1 c1.2
theorem CC.f201 (path:List Int):(∀(out:ByteArray) (i:Nat) (o:ByteArray),F.f201 path out i=some o->∀(c:Code),ZZ [1,1,0,1,0,0] (ZI Tryz.f19)=some c->∀(Q:Exit->ASt->Prop),(Q (.exit 0) ⟨[(3,.lit (.string o))],[]⟩)->ALoopU zQ B 0 19 (hold c .mk) ⟨[(3,.lit (.string out)),(6,am cI path),(7,li (path.length:Int)),(8,li (i:Int))],[]⟩ (hold Q .mk)):=by
 refine F.f201.partial_correctness path
  _
  ?_
 ·intro _f_f201 ih_f201 out i o hF
  refine ZJ rfl fun Q hq hk hs=> ?_
  have b6:=hk 6
  simp -dsimp at b6
  clear hk hs
  refine eN ?_
  repeat first|refine cg ?_|simp -dsimp
  revert hF;refine aS ?_ ?_<;>intro h1 q2 hF
  ·have z3:((i:Int)<(path.length:Int)):=auz
   have hF:=ob hF;obtain⟨x,e4,hF⟩:=hF
   have le4:=ZC e4
   repeat first|refine cg ?_|simp -dsimp[h1,z3,↓e4]
   have hF:=ob hF;obtain⟨v,e5,hF⟩:=hF
   refine((C.f200 B hB1 hB2 x v e5)).goI ?_
   have hF:=oc hF;obtain⟨c6,hF⟩:=hF
   have hF:=oc hF;obtain⟨c7,hF⟩:=hF
   have dc7:=c7;simp only[zF]at dc7
   have w8:i64.wrap ((i:Int)+1)=(i:Int)+1:=ZD (by omega) (by omega)
   repeat first|refine cg ?_|simp -dsimp[w8]
   refine zY ((ih_f201 (out++((⟨#[46]⟩:ByteArray)++v)) (i+1) o hF) _ rfl _ hq)
  ·have z3:¬((i:Int)<(path.length:Int)):=auz
   cases hF
   repeat first|refine cg ?_|simp -dsimp[h1,q2,z3]
   refine zZ hq
theorem C.f202 (path:List Int)(r:ByteArray)(hF:F.f202 path=some r):PureCall zQ B 19 [am cI path] (.lit (.string r)):=by
 unfold F.f202 at hF
 refine yA func19 rfl ntmps19 ?_
 repeat first|refine cg ?_|simp -dsimp
 have hF:=ob hF;obtain⟨o',ho9,hF⟩:=hF
 refine zL (((CC.f201 B hB1 hB2 path) (⟨#[118]⟩:ByteArray) 0 o' ho9) _ rfl _ ?_)
 cases hF
 repeat first|refine cg ?_|simp -dsimp
theorem CC.f203 (list:List Step)(i:Nat)(x:Step):(∀(out47:List Int) (i48:Nat) (o:List Int),F.f203 list i x out47 i48=some o->∀(c:Code),ZZ [1,1,0,1,0,0,1,1,0,0,1,1,0,1,1,1,0,1,0,1,0,0] (ZI Tryz.f14)=some c->∀(Q:Exit->ASt->Prop),(Q (.exit 3) ⟨[(3,.ptr 0 0),(5,.ptr 2 0),(9,am yG list),(10,li (list.length:Int)),(11,li (i:Int))],[.tcells (some 44) [.junk,.own 1 (zA (α:=Int) o)],.telems (some 5) 1 (zB cU o),.cells [li x.op,am cI x.path,li x.ctor,li x.n,li x.m,li x.clause,am yH x.binds,li x.to]]⟩)->ALoopU zQ B 0 82 (hold c .mk) ⟨[(3,.ptr 0 0),(5,.ptr 2 0),(9,am yG list),(10,li (list.length:Int)),(11,li (i:Int)),(57,am yH x.binds),(58,li (x.binds.length:Int)),(59,li (i48:Int))],[.tcells (some 44) [.junk,.own 1 (zA (α:=Int) out47)],.telems (some 5) 1 (zB cU out47),.cells [li x.op,am cI x.path,li x.ctor,li x.n,li x.m,li x.clause,am yH x.binds,li x.to]]⟩ (hold Q .mk)):=by
 refine F.f203.partial_correctness list i x
  _
  ?_
 ·intro _f_f203 ih_f203 out47 i48 o hF
  refine ZJ rfl fun Q hq hk hs=> ?_
  have b9:=hk 9
  simp -dsimp at b9
  have b57:=hk 57
  simp -dsimp at b57
  have d1:=hs 1 _ rfl
  simp -dsimp[zR]at d1
  have d2:=hs 2 _ rfl
  simp -dsimp[zR]at d2
  clear hk hs
  refine eN ?_
  repeat first|refine cg ?_|simp -dsimp
  revert hF;refine aS ?_ ?_<;>intro h49 q50 hF
  ·have z51:((i48:Int)<(x.binds.length:Int)):=auz
   have hF:=ob hF;obtain⟨x52,e53,hF⟩:=hF
   have le53:=ZC e53
   repeat first|refine cg ?_|simp -dsimp[h49,z51,↓e53]
   refine zS [18] [(0,0),(0,0),(0,1),(0,0),(0,0),(0,0),(0,0),(0,1),(0,0),(0,1)] [1,1,1,1,1,1,1,1,1,1] follows ?_
   repeat first|refine cg ?_|simp -dsimp
   have hF:=ob hF;obtain⟨v54,e55,hF⟩:=hF
   refine((C.f200 B hB1 hB2 x52.var v54 e55)).pgoW (by simp_all) (by simp) ?_
   have hF:=oc hF;obtain⟨c56,hF⟩:=hF
   have hF:=oc hF;obtain⟨c57,hF⟩:=hF
   have dc57:=c57;simp only[zF]at dc57
   repeat first|refine cg ?_|simp -dsimp
   have hF:=ob hF;obtain⟨v58,e59,hF⟩:=hF
   refine((C.f202 B hB1 hB2 x52.path v58 e59)).pgoW (by simp_all) (by simp) ?_
   have hF:=oc hF;obtain⟨c60,hF⟩:=hF
   have dc60:=c60;simp only[zF]at dc60
   have hF:=oc hF;obtain⟨c61,hF⟩:=hF
   have dc61:=c61;simp only[zE,zF]at dc61
   repeat first|refine cg ?_|simp -dsimp
   refine ECallA.bldW Tryz.bldW ⟨Tryz.f18,func18,by kernel_rfl,by kernel_rfl⟩ 0 1 (xs:=out47) (by first|rfl|(simp;done)|(simp[h49,z51,↓e53];done)) (by first|rfl|(simp;done)|(simp[h49,z51,↓e53];done)) (by first|omega|simpa using c61|(simp;omega)) (by omega) ?_
   have w62:i64.wrap ((i48:Int)+1)=(i48:Int)+1:=ZD (by omega) (by omega)
   repeat first|refine cg ?_|simp -dsimp[w62]
   refine zY ((ih_f203 (out47++Za ((((⟨#[32]⟩:ByteArray)++v54)++(⟨#[61]⟩:ByteArray))++v58)) (i48+1) o hF) _ rfl _ hq)
  ·have z51:¬((i48:Int)<(x.binds.length:Int)):=auz
   cases hF
   repeat first|refine cg ?_|simp -dsimp[h49,q50,z51]
   refine zZ hq
theorem CC.f204 (list:List Step):(∀(out:List Int) (i:Nat) (o:List Int),F.f204 list out i=some o->∀(c:Code),ZZ [1,1,0,1,0,0] (ZI Tryz.f14)=some c->∀(Q:Exit->ASt->Prop),(Q (.exit 0) ⟨[(3,.ptr 0 0)],[.tcells (some 44) [.junk,.own 1 (zA (α:=Int) o)],.telems (some 5) 1 (zB cU o)]⟩)->ALoopU zQ B 0 82 (hold c .mk) ⟨[(3,.ptr 0 0),(9,am yG list),(10,li (list.length:Int)),(11,li (i:Int))],[.tcells (some 44) [.junk,.own 1 (zA (α:=Int) out)],.telems (some 5) 1 (zB cU out)]⟩ (hold Q .mk)):=by
 refine F.f204.partial_correctness list
  _
  ?_
 ·intro _f_f204 ih_f204 out i o hF
  refine ZJ rfl fun Q hq hk hs=> ?_
  have b9:=hk 9
  simp -dsimp at b9
  have d1:=hs 1 _ rfl
  simp -dsimp[zR]at d1
  clear hk hs
  refine eN ?_
  repeat first|refine cg ?_|simp -dsimp
  revert hF;refine aS ?_ ?_<;>intro h1 q2 hF
  ·have z3:((i:Int)<(list.length:Int)):=auz
   have hF:=ob hF;obtain⟨x,e4,hF⟩:=hF
   have le4:=ZC e4
   repeat first|refine cg ?_|simp -dsimp[h1,z3,↓e4]
   revert hF;refine aS ?_ ?_<;>intro h5 q6 hF
   ·repeat first|refine cg ?_|simp -dsimp[h5]
    have hF:=ob hF;obtain⟨v,e7,hF⟩:=hF
    refine((C.f200 B hB1 hB2 x.ctor v e7)).goI ?_
    have hF:=oc hF;obtain⟨c8,hF⟩:=hF
    repeat first|refine cg ?_|simp -dsimp
    revert hF;refine aS ?_ ?_<;>intro h9 q10 hF
    ·repeat first|refine cg ?_|simp -dsimp[h9]
     refine zT follows ?_
     repeat first|refine cg ?_|simp -dsimp
     have hF:=ob hF;obtain⟨v11,e12,hF⟩:=hF
     refine((C.f200 B hB1 hB2 x.n v11 e12)).pgoW (by simp[h1,z3,↓e4,h5,h9]) (by simp) ?_
     have hF:=oc hF;obtain⟨c13,hF⟩:=hF
     repeat first|refine cg ?_|simp -dsimp
     have hF:=ob hF;obtain⟨v14,e15,hF⟩:=hF
     refine((C.f200 B hB1 hB2 x.m v14 e15)).pgoW (by simp[h1,z3,↓e4,h5,h9]) (by simp) ?_
     have hF:=oc hF;obtain⟨c16,hF⟩:=hF
     have dc16:=c16;simp only[zF]at dc16
     repeat first|refine cg ?_|simp -dsimp
     refine zS [18] [(0,0),(0,0),(0,1),(0,0),(0,0),(0,0),(0,0),(0,0),(0,0),(0,0),(0,1),(0,0),(0,0),(0,1)] [1,1,1,1,1,1,1,1,1,1,1,1,1,1] follows ?_
     repeat first|refine cg ?_|simp -dsimp
     have hF:=ob hF;obtain⟨v17,e18,hF⟩:=hF
     refine((C.f202 B hB1 hB2 x.path v17 e18)).pgoW (by simp[h1,z3,↓e4,h5,h9]) (by simp) ?_
     have hF:=oc hF;obtain⟨c19,hF⟩:=hF
     have hF:=oc hF;obtain⟨c20,hF⟩:=hF
     have dc20:=c20;simp only[zF]at dc20
     have hF:=oc hF;obtain⟨c21,hF⟩:=hF
     have dc21:=c21;simp only[zF]at dc21
     have hF:=oc hF;obtain⟨c22,hF⟩:=hF
     have dc22:=c22;simp only[zF]at dc22
     repeat first|refine cg ?_|simp -dsimp
     have hF:=ob hF;obtain⟨v23,e24,hF⟩:=hF
     refine((C.f200 B hB1 hB2 x.to v23 e24)).pgoW (by simp[h1,z3,↓e4,h5,h9]) (by simp) ?_
     have hF:=oc hF;obtain⟨c25,hF⟩:=hF
     have dc25:=c25;simp only[zF]at dc25
     have hF:=oc hF;obtain⟨c26,hF⟩:=hF
     have dc26:=c26;simp only[zF]at dc26
     have hF:=oc hF;obtain⟨c27,hF⟩:=hF
     have dc27:=c27;simp only[zE,zF]at dc27
     repeat first|refine cg ?_|simp -dsimp
     refine ECallA.bldW Tryz.bldW ⟨Tryz.f18,func18,by kernel_rfl,by kernel_rfl⟩ 0 1 (xs:=out) (by first|rfl|(simp;done)|(simp[h1,z3,↓e4,h5,h9];done)) (by first|rfl|(simp;done)|(simp[h1,z3,↓e4,h5,h9];done)) (by first|omega|simpa using c27|(simp;omega)) (by omega) ?_
     have w28:i64.wrap ((i:Int)+1)=(i:Int)+1:=ZD (by omega) (by omega)
     repeat first|refine cg ?_|simp -dsimp[w28]
     refine aG _ ?_ ((ih_f204 (out++Za (((((((⟨#[116,101,115,116,32]⟩:ByteArray)++v17)++(⟨#[32]⟩:ByteArray))++((v11++(⟨#[45]⟩:ByteArray))++v14))++(⟨#[32]⟩:ByteArray))++v23)++(⟨#[10]⟩:ByteArray))) (i+1) o hF) _ rfl _ hq)
     exact(gT (by simp) (by simp -dsimp[h1,z3,↓e4,h5,h9,w28]))
    ·repeat first|refine cg ?_|simp -dsimp[q10]
     refine zS [18] [(0,0),(0,0),(0,1),(0,0),(0,0),(0,0),(0,0),(0,0),(0,0),(0,0),(0,1),(0,0),(0,0),(0,1)] [1,1,1,1,1,1,1,1,1,1,1,1,1,1] follows ?_
     repeat first|refine cg ?_|simp -dsimp
     have hF:=ob hF;obtain⟨v29,e30,hF⟩:=hF
     refine((C.f202 B hB1 hB2 x.path v29 e30)).pgoW (by simp[h1,z3,↓e4,h5,h9,q10]) (by simp) ?_
     have hF:=oc hF;obtain⟨c31,hF⟩:=hF
     have hF:=oc hF;obtain⟨c32,hF⟩:=hF
     have dc32:=c32;simp only[zF]at dc32
     have hF:=oc hF;obtain⟨c33,hF⟩:=hF
     have dc33:=c33;simp only[zF]at dc33
     have hF:=oc hF;obtain⟨c34,hF⟩:=hF
     have dc34:=c34;simp only[zF]at dc34
     repeat first|refine cg ?_|simp -dsimp
     have hF:=ob hF;obtain⟨v35,e36,hF⟩:=hF
     refine((C.f200 B hB1 hB2 x.to v35 e36)).pgoW (by simp[h1,z3,↓e4,h5,h9,q10]) (by simp) ?_
     have hF:=oc hF;obtain⟨c37,hF⟩:=hF
     have dc37:=c37;simp only[zF]at dc37
     have hF:=oc hF;obtain⟨c38,hF⟩:=hF
     have dc38:=c38;simp only[zF]at dc38
     have hF:=oc hF;obtain⟨c39,hF⟩:=hF
     have dc39:=c39;simp only[zE,zF]at dc39
     repeat first|refine cg ?_|simp -dsimp
     refine ECallA.bldW Tryz.bldW ⟨Tryz.f18,func18,by kernel_rfl,by kernel_rfl⟩ 0 1 (xs:=out) (by first|rfl|(simp;done)|(simp[h1,z3,↓e4,h5,h9,q10];done)) (by first|rfl|(simp;done)|(simp[h1,z3,↓e4,h5,h9,q10];done)) (by first|omega|simpa using c39|(simp;omega)) (by omega) ?_
     have w40:i64.wrap ((i:Int)+1)=(i:Int)+1:=ZD (by omega) (by omega)
     repeat first|refine cg ?_|simp -dsimp[w40]
     refine aG _ ?_ ((ih_f204 (out++Za (((((((⟨#[116,101,115,116,32]⟩:ByteArray)++v29)++(⟨#[32]⟩:ByteArray))++((⟨#[35]⟩:ByteArray)++v))++(⟨#[32]⟩:ByteArray))++v35)++(⟨#[10]⟩:ByteArray))) (i+1) o hF) _ rfl _ hq)
     exact(gT (by simp) (by simp -dsimp[h1,z3,↓e4,h5,h9,q10,w40]))
   ·repeat first|refine cg ?_|simp -dsimp[q6]
    revert hF;refine aS ?_ ?_<;>intro h41 q42 hF
    ·repeat first|refine cg ?_|simp -dsimp[h41]
     have hF:=ob hF;obtain⟨v43,e44,hF⟩:=hF
     refine((C.f200 B hB1 hB2 x.clause v43 e44)).goI ?_
     have hF:=oc hF;obtain⟨c45,hF⟩:=hF
     have hF:=oc hF;obtain⟨c46,hF⟩:=hF
     have dc46:=c46;simp only[zE,zF]at dc46
     repeat first|refine cg ?_|simp -dsimp
     refine yJ Tryz.bldW ⟨Tryz.f18,func18,by kernel_rfl,by kernel_rfl⟩ 0 1 (xs:=out) (by first|rfl|(simp;done)|(simp[h1,z3,↓e4,h5,q6,h41];done)) (by first|rfl|(simp;done)|(simp[h1,z3,↓e4,h5,q6,h41];done)) (by first|omega|simpa using c46|(simp;omega)) (by omega) ?_
     repeat first|refine cg ?_|simp -dsimp
     have hF:=ob hF;obtain⟨o',ho63,hF⟩:=hF
     refine zM _ ?_ (((CC.f203 B hB1 hB2 list i x) (out++Za ((⟨#[116,97,107,101,32]⟩:ByteArray)++v43)) 0 o' ho63) _ rfl _ ?_)
     ·exact(gT (by simp) (by simp -dsimp[h1,z3,↓e4,h5,q6,h41]))
     repeat first|refine cg ?_|simp -dsimp
     have hF:=ob hF;obtain⟨v64,e65,hF⟩:=hF
     refine((C.f200 B hB1 hB2 x.to v64 e65)).goI ?_
     have hF:=oc hF;obtain⟨c66,hF⟩:=hF
     have hF:=oc hF;obtain⟨c67,hF⟩:=hF
     have dc67:=c67;simp only[zF]at dc67
     have hF:=oc hF;obtain⟨c68,hF⟩:=hF
     have dc68:=c68;simp only[zE,zF]at dc68
     repeat first|refine cg ?_|simp -dsimp
     refine yJ Tryz.bldW ⟨Tryz.f18,func18,by kernel_rfl,by kernel_rfl⟩ 0 1 (xs:=o') (by first|rfl|simp) (by first|rfl|simp) (by first|omega|simpa using c68|(simp;omega)) (by omega) ?_
     have hF:=oc hF;obtain⟨c69,hF⟩:=hF
     have w70:i64.wrap ((i:Int)+1)=(i:Int)+1:=ZD (by omega) (by omega)
     repeat first|refine cg ?_|simp -dsimp[w70]
     refine aG _ ?_ ((ih_f204 (o'++Za (((⟨#[32]⟩:ByteArray)++v64)++(⟨#[10]⟩:ByteArray))) (i+1) o hF) _ rfl _ hq)
     exact(gT (by simp) (by simp -dsimp[w70]))
    ·have hF:=oc hF;obtain⟨c71,hF⟩:=hF
     skip
     repeat first|refine cg ?_|simp -dsimp[q42]
     refine yJ Tryz.bldW ⟨Tryz.f18,func18,by kernel_rfl,by kernel_rfl⟩ 0 1 (xs:=out) (by first|rfl|(simp;done)|(simp[h1,z3,↓e4,h5,q6,h41,q42];done)) (by first|rfl|(simp;done)|(simp[h1,z3,↓e4,h5,q6,h41,q42];done)) (by first|omega|simpa using c71|(simp;omega)) (by omega) ?_
     have w72:i64.wrap ((i:Int)+1)=(i:Int)+1:=ZD (by omega) (by omega)
     repeat first|refine cg ?_|simp -dsimp[w72]
     refine aG _ ?_ ((ih_f204 (out++Za (⟨#[102,97,105,108,10]⟩:ByteArray)) (i+1) o hF) _ rfl _ hq)
     exact(gT (by simp) (by simp -dsimp[h1,z3,↓e4,h5,q6,h41,q42,w72]))
  ·have z3:¬((i:Int)<(list.length:Int)):=auz
   cases hF
   repeat first|refine cg ?_|simp -dsimp[h1,q2,z3]
   refine zZ hq
theorem C.f205 (list:List Step)(r:ByteArray)(hF:F.f205 list=some r):PureCall zQ B 14 [am yG list] (.lit (.string r)):=by
 unfold F.f205 at hF
 refine yA func14 rfl ntmps14 ?_
 repeat first|refine cg ?_|simp -dsimp
 have hF:=ob hF;obtain⟨o'74,ho73,hF⟩:=hF
 refine zM ⟨[(3,.ptr 0 0),(9,.arr (zB yG list)),(10,.lit (.int .i64 (list.length:Int))),(11,.lit (.int .i64 0))],[.tcells (some 44) [.junk,.own 1 (zA (α:=Int) [])],.telems (some 5) 1 (zB cU [])]⟩ (by refine zN (Gh.nilCellT 44 5 0 1 1 (by simp -dsimp;rfl) (by simp -dsimp)) ?_;exact(gT (by simp) (by simp -dsimp))) ?_
 refine((CC.f204 B hB1 hB2 list) [] 0 o'74 ho73) _ rfl _ ?_
 have hF:=oc hF;obtain⟨c75,hF⟩:=hF
 repeat first|refine cg ?_|simp -dsimp
 refine ACall.bldS Tryz.lays169 Tryz.Builder_Extra_169 (f:=20) (T:=44) (E:=5) (by rfl) (by rfl) (by rfl) ⟨Tryz.f20,func20,by kernel_rfl,by kernel_rfl⟩ 0 1 (xs:=o'74) (by first|rfl|simp) (by first|rfl|simp) c75.1 c75.2 ?_
 cases hF
 repeat first|refine cg ?_|simp -dsimp
theorem CC.f206 (path:List Int):(∀(out:ByteArray) (i:Nat) (o:ByteArray),F.f206 path out i=some o->∀(c:Code),ZZ [1,1,0,1,0,0] (ZI Tryz.f47)=some c->∀(Q:Exit->ASt->Prop),(Q (.exit 0) ⟨[(3,.lit (.string o))],[]⟩)->ALoopU zQ B 0 20 (hold c .mk) ⟨[(0,am cI path),(3,.lit (.string out)),(4,li (i:Int))],[]⟩ (hold Q .mk)):=by
 refine F.f206.partial_correctness path
  _
  ?_
 ·intro _f_f206 ih_f206 out i o hF
  refine ZJ rfl fun Q hq hk hs=> ?_
  have b0:=hk 0
  simp -dsimp at b0
  clear hk hs
  refine eN ?_
  repeat first|refine cg ?_|simp -dsimp
  revert hF;refine aS ?_ ?_<;>intro h1 q2 hF
  ·have z3:((i:Int)<(path.length:Int)):=auz
   have hF:=oc hF;obtain⟨c4,hF⟩:=hF
   have hF:=ob hF;obtain⟨x,e5,hF⟩:=hF
   have le5:=ZC e5
   repeat first|refine cg ?_|simp -dsimp[h1,z3,↓e5]
   have hF:=ob hF;obtain⟨v,e6,hF⟩:=hF
   refine(((CC.f26 B hB1 hB2) x v e6)).goI ?_
   have hF:=oc hF;obtain⟨c7,hF⟩:=hF
   have dc7:=c7;simp only[zF]at dc7
   have w8:i64.wrap ((i:Int)+1)=(i:Int)+1:=ZD (by omega) (by omega)
   repeat first|refine cg ?_|simp -dsimp[w8]
   refine zY ((ih_f206 ((out++(⟨#[46]⟩:ByteArray))++v) (i+1) o hF) _ rfl _ hq)
  ·have z3:¬((i:Int)<(path.length:Int)):=auz
   cases hF
   repeat first|refine cg ?_|simp -dsimp[h1,q2,z3]
   refine zZ hq
theorem C.f207 (path:List Int)(r:ByteArray)(hF:F.f207 path=some r):PureCall zQ B 47 [am cI path] (.lit (.string r)):=by
 unfold F.f207 at hF
 refine yA func47 rfl ntmps47 ?_
 repeat first|refine cg ?_|simp -dsimp
 have hF:=ob hF;obtain⟨o',ho9,hF⟩:=hF
 refine zL (((CC.f206 B hB1 hB2 path) (⟨#[118]⟩:ByteArray) 0 o' ho9) _ rfl _ ?_)
 cases hF
 repeat first|refine cg ?_|simp -dsimp
theorem C.f208 (n:Int)(r:ByteArray)(hF:F.f208 n=some r):PureCall zQ B 46 [li n] (.lit (.string r)):=by
 unfold F.f208 at hF
 refine yA func46 rfl ntmps46 ?_
 repeat first|refine cg ?_|simp -dsimp
 revert hF;refine aS ?_ ?_<;>intro h1 q2 hF
 ·repeat first|refine cg ?_|simp -dsimp[h1]
  revert hF;refine aS ?_ ?_<;>intro h3 q4 hF
  ·repeat first|refine cg ?_|simp -dsimp[h3]
   have hF:=ob hF;obtain⟨v,e5,hF⟩:=hF
   refine(((CC.f26 B hB1 hB2) (i64.wrap (0-n)) v e5)).goI ?_
   have hF:=oc hF;obtain⟨c6,hF⟩:=hF
   cases hF
   repeat first|refine cg ?_|simp -dsimp
  ·repeat first|refine cg ?_|simp -dsimp[q4]
   have hF:=ob hF;obtain⟨v7,e8,hF⟩:=hF
   refine(((CC.f26 B hB1 hB2) n v7 e8)).goI ?_
   cases hF
   repeat first|refine cg ?_|simp -dsimp
 ·repeat first|refine cg ?_|simp -dsimp[q2]
  have hF:=ob hF;obtain⟨v9,e10,hF⟩:=hF
  refine(((CC.f26 B hB1 hB2) n v9 e10)).goI ?_
  cases hF
  repeat first|refine cg ?_|simp -dsimp
theorem CC.f209 (x:Step):(∀(out:ByteArray) (i:Nat) (o:ByteArray),F.f209 x out i=some o->∀(c:Code),ZZ [1,0,1,0,1,1,1,0,1,0,1,0,0] (ZI Tryz.f37)=some c->∀(Q:Exit->ASt->Prop),(Q (.exit 1) ⟨[(1,.ptr 0 0),(3,.lit (.string o))],[.cells [li x.op,am cI x.path,li x.ctor,li x.n,li x.m,li x.clause,am yH x.binds,li x.to]]⟩)->ALoopU zQ B 0 83 (hold c .mk) ⟨[(1,.ptr 0 0),(3,.lit (.string out)),(4,li (i:Int))],[.cells [li x.op,am cI x.path,li x.ctor,li x.n,li x.m,li x.clause,am yH x.binds,li x.to]]⟩ (hold Q .mk)):=by
 refine F.f209.partial_correctness x
  _
  ?_
 ·intro _f_f209 ih_f209 out i o hF
  refine ZJ rfl fun Q hq hk hs=> ?_
  have d0:=hs 0 _ rfl
  simp -dsimp[zR]at d0
  clear hk hs
  refine eN ?_
  repeat first|refine cg ?_|simp -dsimp
  revert hF;refine aS ?_ ?_<;>intro h35 q36 hF
  ·have z37:((i:Int)<(x.binds.length:Int)):=auz
   repeat first|refine cg ?_|simp -dsimp[h35,z37]
   refine zT follows ?_
   have hF:=oc hF;obtain⟨c38,hF⟩:=hF
   have hF:=ob hF;obtain⟨x39,e40,hF⟩:=hF
   have le40:=ZC e40
   repeat first|refine cg ?_|simp -dsimp[↓e40]
   have hF:=ob hF;obtain⟨v41,e42,hF⟩:=hF
   refine((C.f208 B hB1 hB2 x39.var v41 e42)).pgoW (by simp_all) (by simp) ?_
   have hF:=oc hF;obtain⟨c43,hF⟩:=hF
   have dc43:=c43;simp only[zF]at dc43
   have hF:=oc hF;obtain⟨c44,hF⟩:=hF
   have dc44:=c44;simp only[zF]at dc44
   repeat first|refine cg ?_|simp -dsimp[↓e40]
   have hF:=ob hF;obtain⟨v45,e46,hF⟩:=hF
   refine((C.f207 B hB1 hB2 x39.path v45 e46)).pgoW (by simp_all) (by simp) ?_
   have hF:=oc hF;obtain⟨c47,hF⟩:=hF
   have dc47:=c47;simp only[zF]at dc47
   have w48:i64.wrap ((i:Int)+1)=(i:Int)+1:=ZD (by omega) (by omega)
   repeat first|refine cg ?_|simp -dsimp[↓e40,w48]
   refine zY ((ih_f209 ((((out++(⟨#[32]⟩:ByteArray))++v41)++(⟨#[61]⟩:ByteArray))++v45) (i+1) o hF) _ rfl _ hq)
  ·have z37:¬((i:Int)<(x.binds.length:Int)):=auz
   cases hF
   repeat first|refine cg ?_|simp -dsimp[h35,q36,z37]
   refine zZ hq
theorem C.f210 (x:Step)(r:ByteArray)(hF:F.f210 x=some r):PureCall zQ B 37 [.agg [li x.op,am cI x.path,li x.ctor,li x.n,li x.m,li x.clause,am yH x.binds,li x.to]] (.lit (.string r)):=by
 unfold F.f210 at hF
 refine yA func37 rfl ntmps37 ?_
 repeat first|refine cg ?_|simp -dsimp
 revert hF;refine aS ?_ ?_<;>intro h1 q2 hF
 ·repeat first|refine cg ?_|simp -dsimp[h1]
  revert hF;refine aS ?_ ?_<;>intro h3 q4 hF
  ·repeat first|refine cg ?_|simp -dsimp[h3]
   refine zT follows ?_
   repeat first|refine cg ?_|simp -dsimp
   have hF:=ob hF;obtain⟨v,e5,hF⟩:=hF
   refine((C.f207 B hB1 hB2 x.path v e5)).pgoW (by simp_all) (by simp) ?_
   have hF:=oc hF;obtain⟨c6,hF⟩:=hF
   have hF:=oc hF;obtain⟨c7,hF⟩:=hF
   have dc7:=c7;simp only[zF]at dc7
   repeat first|refine cg ?_|simp -dsimp
   have hF:=ob hF;obtain⟨v8,e9,hF⟩:=hF
   refine((C.f208 B hB1 hB2 x.n v8 e9)).pgoW (by simp_all) (by simp) ?_
   have hF:=oc hF;obtain⟨c10,hF⟩:=hF
   have dc10:=c10;simp only[zF]at dc10
   have hF:=oc hF;obtain⟨c11,hF⟩:=hF
   have dc11:=c11;simp only[zF]at dc11
   repeat first|refine cg ?_|simp -dsimp
   have hF:=ob hF;obtain⟨v12,e13,hF⟩:=hF
   refine((C.f208 B hB1 hB2 x.m v12 e13)).pgoW (by simp_all) (by simp) ?_
   have hF:=oc hF;obtain⟨c14,hF⟩:=hF
   have dc14:=c14;simp only[zF]at dc14
   have hF:=oc hF;obtain⟨c15,hF⟩:=hF
   have dc15:=c15;simp only[zF]at dc15
   repeat first|refine cg ?_|simp -dsimp
   have hF:=ob hF;obtain⟨v16,e17,hF⟩:=hF
   refine((C.f208 B hB1 hB2 x.to v16 e17)).pgoW (by simp_all) (by simp) ?_
   have hF:=oc hF;obtain⟨c18,hF⟩:=hF
   have dc18:=c18;simp only[zF]at dc18
   cases hF
   repeat first|refine cg ?_|simp -dsimp
  ·repeat first|refine cg ?_|simp -dsimp[q4]
   refine zT follows ?_
   repeat first|refine cg ?_|simp -dsimp
   have hF:=ob hF;obtain⟨v19,e20,hF⟩:=hF
   refine((C.f207 B hB1 hB2 x.path v19 e20)).pgoW (by simp_all) (by simp) ?_
   have hF:=oc hF;obtain⟨c21,hF⟩:=hF
   have hF:=oc hF;obtain⟨c22,hF⟩:=hF
   have dc22:=c22;simp only[zF]at dc22
   repeat first|refine cg ?_|simp -dsimp
   have hF:=ob hF;obtain⟨v23,e24,hF⟩:=hF
   refine((C.f208 B hB1 hB2 x.ctor v23 e24)).pgoW (by simp_all) (by simp) ?_
   have hF:=oc hF;obtain⟨c25,hF⟩:=hF
   have dc25:=c25;simp only[zF]at dc25
   have hF:=oc hF;obtain⟨c26,hF⟩:=hF
   have dc26:=c26;simp only[zF]at dc26
   repeat first|refine cg ?_|simp -dsimp
   have hF:=ob hF;obtain⟨v27,e28,hF⟩:=hF
   refine((C.f208 B hB1 hB2 x.to v27 e28)).pgoW (by simp_all) (by simp) ?_
   have hF:=oc hF;obtain⟨c29,hF⟩:=hF
   have dc29:=c29;simp only[zF]at dc29
   cases hF
   repeat first|refine cg ?_|simp -dsimp
 ·repeat first|refine cg ?_|simp -dsimp[q2]
  revert hF;refine aS ?_ ?_<;>intro h30 q31 hF
  ·repeat first|refine cg ?_|simp -dsimp[h30]
   have hF:=ob hF;obtain⟨v32,e33,hF⟩:=hF
   refine((C.f208 B hB1 hB2 x.clause v32 e33)).goI ?_
   have hF:=oc hF;obtain⟨c34,hF⟩:=hF
   repeat first|refine cg ?_|simp -dsimp
   have hF:=ob hF;obtain⟨o',ho49,hF⟩:=hF
   refine zL (((CC.f209 B hB1 hB2 x) ((⟨#[116,97,107,101,32]⟩:ByteArray)++v32) 0 o' ho49) _ rfl _ ?_)
   have hF:=oc hF;obtain⟨c50,hF⟩:=hF
   repeat first|refine cg ?_|simp -dsimp
   have hF:=ob hF;obtain⟨v51,e52,hF⟩:=hF
   refine((C.f208 B hB1 hB2 x.to v51 e52)).goI ?_
   have hF:=oc hF;obtain⟨c53,hF⟩:=hF
   have dc53:=c53;simp only[zF]at dc53
   cases hF
   repeat first|refine cg ?_|simp -dsimp
  ·cases hF
   repeat first|refine cg ?_|simp -dsimp[q31]
theorem CC.f211 (list:List Step):(∀(out:ByteArray) (i:Nat) (o:ByteArray),F.f211 list out i=some o->∀(c:Code),ZZ [1,1,0,1,0,0] (ZI Tryz.f15)=some c->∀(Q:Exit->ASt->Prop),(Q (.exit 0) ⟨[(3,.lit (.string o))],[]⟩)->ALoopU zQ B 0 20 (hold c .mk) ⟨[(0,am yG list),(3,.lit (.string out)),(4,li (i:Int))],[]⟩ (hold Q .mk)):=by
 refine F.f211.partial_correctness list
  _
  ?_
 ·intro _f_f211 ih_f211 out i o hF
  refine ZJ rfl fun Q hq hk hs=> ?_
  have b0:=hk 0
  simp -dsimp at b0
  clear hk hs
  refine eN ?_
  repeat first|refine cg ?_|simp -dsimp
  revert hF;refine aS ?_ ?_<;>intro h1 q2 hF
  ·have z3:((i:Int)<(list.length:Int)):=auz
   have hF:=ob hF;obtain⟨x,e4,hF⟩:=hF
   have le4:=ZC e4
   repeat first|refine cg ?_|simp -dsimp[h1,z3,↓e4]
   have hF:=ob hF;obtain⟨v,e5,hF⟩:=hF
   refine((C.f210 B hB1 hB2 x v e5)).goI ?_
   have hF:=oc hF;obtain⟨c6,hF⟩:=hF
   have hF:=oc hF;obtain⟨c7,hF⟩:=hF
   have dc7:=c7;simp only[zF]at dc7
   have w8:i64.wrap ((i:Int)+1)=(i:Int)+1:=ZD (by omega) (by omega)
   repeat first|refine cg ?_|simp -dsimp[w8]
   refine zY ((ih_f211 ((out++v)++(⟨#[10]⟩:ByteArray)) (i+1) o hF) _ rfl _ hq)
  ·have z3:¬((i:Int)<(list.length:Int)):=auz
   cases hF
   repeat first|refine cg ?_|simp -dsimp[h1,q2,z3]
   refine zZ hq
theorem C.f212 (list:List Step)(r:ByteArray)(hF:F.f212 list=some r):PureCall zQ B 15 [am yG list] (.lit (.string r)):=by
 unfold F.f212 at hF
 refine yA func15 rfl ntmps15 ?_
 repeat first|refine cg ?_|simp -dsimp
 have hF:=ob hF;obtain⟨o',ho9,hF⟩:=hF
 refine zL (((CC.f211 B hB1 hB2 list) zG 0 o' ho9) _ rfl _ ?_)
 cases hF
 repeat first|refine cg ?_|simp -dsimp
theorem C.f213 (code : List Int) (r : Bool) (hF : F.f213 code = some r) : PureCall zQ B 5 [am cU code] (.lit (.bool r)) := by
 unfold F.f213 at hF
 refine pE func5 (by kernel_rfl) rfl ntmps5 (by simp) (by simp) ?_
 repeat first | refine cg ?_ | simp -dsimp
 revert hF; refine aS ?_ ?_ <;> intro h1 q2 hF
 ·have z3 : (1048576 < (code.length : Int)) := auz
  cases hF
  repeat first | refine cg ?_ | simp -dsimp [h1, z3]
  all_goals (try first | omega | rfl)
 ·have z3 : ¬ (1048576 < (code.length : Int)) := auz
  repeat first | refine cg ?_ | simp -dsimp [h1, q2, z3]
  have hF := ob hF; obtain ⟨v, e4, hF⟩ := hF
  refine ((C.f98 B hB1 hB2 code v e4)).goW (by first | simp [h1, q2, z3]; done | simp_all) (by simp) ?_
  repeat first | refine cg ?_ | simp -dsimp [h1, q2, z3]
  have hF := ob hF; obtain ⟨v5, e6, hF⟩ := hF
  refine ((C.f169 B hB1 hB2 v.1 v.2.1 v.2.2 v5 e6)).goW (by first | simp [h1, q2, z3]; done | simp_all) (by simp) ?_
  repeat first | refine cg ?_ | simp -dsimp [h1, q2, z3]
  have hF := ob hF; obtain ⟨v7, e8, hF⟩ := hF
  refine ((C.f199 B hB1 hB2 v.1 v.2.1 v.2.2 v7 e8)).goW (by first | simp [h1, q2, z3]; done | simp_all) (by simp) ?_
  repeat first | refine cg ?_ | simp -dsimp [h1, q2, z3]
  revert hF; refine aS ?_ ?_ <;> intro h9 q10 hF
  ·repeat first | refine cg ?_ | simp -dsimp [h1, q2, z3, h9]
   have hF := ob hF; obtain ⟨v11, e12, hF⟩ := hF
   refine ((C.f205 B hB1 hB2 v5.1 v11 e12)).goW (by first | simp [h1, q2, z3, h9]; done | simp_all) (by simp) ?_
   repeat first | refine cg ?_ | simp -dsimp [h1, q2, z3, h9]
   have hF := ob hF; obtain ⟨v13, e14, hF⟩ := hF
   refine ((C.f212 B hB1 hB2 v7.1 v13 e14)).goW (by first | simp [h1, q2, z3, h9]; done | simp_all) (by simp) ?_
   repeat first | refine cg ?_ | simp -dsimp [h1, q2, z3, h9]
   revert hF; refine aS ?_ ?_ <;> intro h15 q16 hF
   ·repeat first | refine cg ?_ | simp -dsimp [h1, q2, z3, h9, h15]
    revert hF; refine aS (e := fun h => by simpa [h9] using h) (e' := fun h => by simpa [h9] using h) (fun h17 q18 hF => ?_) (fun h17 q18 hF => ?_)
    ·repeat first | refine cg ?_ | simp -dsimp [h1, q2, z3, h9, h15, h17]
     revert hF; refine aS ?_ ?_ <;> intro h19 q20 hF
     ·have z21 : ((v.2.2.length : Int) = 0) := auz
      repeat first | refine cg ?_ | simp -dsimp [h1, q2, z3, h9, h15, h17, h19, z21]
      have hF := ob hF; obtain ⟨v22, e23, hF⟩ := hF
      refine ((C.f205 B hB1 hB2 v5.1 v22 e23)).goW (by first | simp [h1, q2, z3, h9, h15, h17, h19, z21]; done | simp_all) (by simp) ?_
      repeat first | refine cg ?_ | simp -dsimp [h1, q2, z3, h9, h15, h17, h19, z21]
      have hF := ob hF; obtain ⟨v24, e25, hF⟩ := hF
      refine ((C.f212 B hB1 hB2 v7.1 v24 e25)).goW (by first | simp [h1, q2, z3, h9, h15, h17, h19, z21]; done | simp_all) (by simp) ?_
      cases hF
      repeat first | refine cg ?_ | simp -dsimp [h1, q2, z3, h9, h15, h17, h19, z21]
      all_goals (try first | omega | rfl)
     ·have z21 : ¬ ((v.2.2.length : Int) = 0) := auz
      repeat first | refine cg ?_ | simp -dsimp [h1, q2, z3, h9, h15, h17, h19, q20, z21]
      refine zW follows (by kernel_rfl) (by kernel_rfl) ?_
      have hF := oc hF; obtain ⟨c26, hF⟩ := hF
      repeat first | refine cg ?_ | simp -dsimp [h1, q2, z3, h9, h15, h17, h19, q20, z21]
      have hF := ob hF; obtain ⟨v27, e28, hF⟩ := hF
      refine ((C.f169 B hB1 hB2 v.1 v.2.1 ((v.2.2.drop 0).take ((i64.wrap ((v.2.2.length : Int) - 1)).toNat - 0)) v27 e28)).pgoW (by first | simp [h1, q2, z3, h9, h15, h17, h19, q20, z21]; done | simp_all) (by simp) ?_
      repeat first | refine cg ?_ | simp -dsimp [h1, q2, z3, h9, h15, h17, h19, q20, z21]
      revert hF; refine aS (fun h29 q30 hF => ?_) (fun h29 q30 hF => ?_)
      ·repeat first | refine cg ?_ | simp -dsimp [h1, q2, z3, h9, h15, h17, h19, q20, z21, h29]
       revert hF; refine aS ?_ ?_ <;> intro h31 q32 hF
       ·have z33 : ((v5.1.length : Int) < (v27.1.length : Int)) := auz
        cases hF
        repeat first | refine cg ?_ | simp -dsimp [h1, q2, z3, h9, h15, h17, h19, q20, z21, h29, h31, z33]
        all_goals (try first | omega | rfl)
       ·have z33 : ¬ ((v5.1.length : Int) < (v27.1.length : Int)) := auz
        repeat first | refine cg ?_ | simp -dsimp [h1, q2, z3, h9, h15, h17, h19, q20, z21, h29, h31, q32, z33]
        refine zW follows (by kernel_rfl) (by kernel_rfl) ?_
        have hF := oc hF; obtain ⟨c34, hF⟩ := hF
        repeat first | refine cg ?_ | simp -dsimp [h1, q2, z3, h9, h15, h17, h19, q20, z21, h29, h31, q32, z33]
        have hF := ob hF; obtain ⟨v35, e36, hF⟩ := hF
        refine ((C.f205 B hB1 hB2 ((v27.1.drop 0).take ((i64.wrap ((v27.1.length : Int) - 1)).toNat - 0)) v35 e36)).pgoW (by first | simp [h1, q2, z3, h9, h15, h17, h19, q20, z21, h29, h31, q32, z33]; done | simp_all) (by simp) ?_
        have hF := oc hF; obtain ⟨c37, hF⟩ := hF
        repeat first | refine cg ?_ | simp -dsimp [h1, q2, z3, h9, h15, h17, h19, q20, z21, h29, h31, q32, z33]
        have hF := ob hF; obtain ⟨v38, e39, hF⟩ := hF
        refine ((C.f205 B hB1 hB2 ((v5.1.drop 0).take ((i64.wrap ((v27.1.length : Int) - 1)).toNat - 0)) v38 e39)).pgoW (by first | simp [h1, q2, z3, h9, h15, h17, h19, q20, z21, h29, h31, q32, z33]; done | simp_all) (by simp) ?_
        cases hF
        repeat first | refine cg ?_ | simp -dsimp [h1, q2, z3, h9, h15, h17, h19, q20, z21, h29, h31, q32, z33]
        all_goals (try first | omega | rfl)
      ·cases hF
       repeat first | refine cg ?_ | simp -dsimp [h1, q2, z3, h9, h15, h17, h19, q20, z21, h29, q30]
       all_goals (try first | omega | rfl)
    ·repeat first | refine cg ?_ | simp -dsimp [h1, q2, z3, h9, h15, h17, q18]
     have hF := ob hF; obtain ⟨v40, e41, hF⟩ := hF
     refine ((C.f205 B hB1 hB2 v5.1 v40 e41)).goW (by first | simp [h1, q2, z3, h9, h15, h17, q18]; done | simp_all) (by simp) ?_
     repeat first | refine cg ?_ | simp -dsimp [h1, q2, z3, h9, h15, h17, q18]
     have hF := ob hF; obtain ⟨v42, e43, hF⟩ := hF
     refine ((C.f212 B hB1 hB2 v7.1 v42 e43)).goW (by first | simp [h1, q2, z3, h9, h15, h17, q18]; done | simp_all) (by simp) ?_
     cases hF
     repeat first | refine cg ?_ | simp -dsimp [h1, q2, z3, h9, h15, h17, q18]
     all_goals (try first | omega | rfl)
   ·repeat first | refine cg ?_ | simp -dsimp [h1, q2, z3, h9, h15, q16]
    have hF := ob hF; obtain ⟨v44, e45, hF⟩ := hF
    refine ((C.f205 B hB1 hB2 v5.1 v44 e45)).goW (by first | simp [h1, q2, z3, h9, h15, q16]; done | simp_all) (by simp) ?_
    repeat first | refine cg ?_ | simp -dsimp [h1, q2, z3, h9, h15, q16]
    have hF := ob hF; obtain ⟨v46, e47, hF⟩ := hF
    refine ((C.f212 B hB1 hB2 v7.1 v46 e47)).goW (by first | simp [h1, q2, z3, h9, h15, q16]; done | simp_all) (by simp) ?_
    cases hF
    repeat first | refine cg ?_ | simp -dsimp [h1, q2, z3, h9, h15, q16]
    all_goals (try first | omega | rfl)
  ·cases hF
   repeat first | refine cg ?_ | simp -dsimp [h1, q2, z3, h9, q10]
   all_goals (try first | omega | rfl)
end Go.Proofs.YtodkbabdaoeooaaGreatDoor
