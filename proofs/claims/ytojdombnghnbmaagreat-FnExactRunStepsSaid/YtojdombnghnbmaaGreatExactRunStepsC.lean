/- Part. -/
import Derived.Test.YtojdombnghnbmaaGreatExactRunStepsC1
open List renaming map->zA,length->zB,getElem?_eq_getElem->zC,mem_map->zD,getElem?_set_self->zE,sizeOf_lt_of_mem->zF,mem_cons_of_mem->zG,length_cons->zH,length_nil->zI
open Nat renaming not_lt_zero->zJ
open Option.some renaming inj->zK
namespace Go.Proofs.YtojdombnghnbmaaGreat
open Go Go.Proofs Go.Vl
open VarType renaming c->zL
open Blk renaming bnd->zM
open Again renaming is->zN
open Leave renaming is->zO
open Go.Vl renaming Data->zP
open Go.Vl.Data renaming c->zR,mkL->zS,c_len->zT,mkL_len->zU,mkE->zV
open Pattern renaming c->zW,mkL->zX,c_len->zY,mkL_len->zZ,mkE->yA
open Ty renaming mkL->yB,c->yC,c_len->yD,mkL_len->yE
open ALoop renaming goU->yF,is->yG
open Gh renaming trans->yH,setAt->yI,packZ->yJ,nil->yK,nilCell->yL,absorb->yM
open ADraw renaming simI->yN,effI->yO,effN2->yP,effP->yQ
open PureCall renaming inLe->yR
open Clause renaming c->yS,mkL->yT,c_len->yU,mkL_len->yV
open BCall renaming enter->yW,empty1->yX,ofNil->yY
open Step renaming c->yZ
open PathBind renaming c->xA
open ACall renaming frzAt->xB
open Go.Vl.Bind renaming c->xC,mkL->xD,c_len->xE,mkL_len->xF
open Ctor renaming mkL->xG,c->xH,c_len->xI,mkL_len->xJ
open ALoopU renaming opnAt1->xK
open Go.Proofs.Tryz
open Go.Proofs.Tryz renaming prog->zQ
open abr renaming sp->aS,ns->aN
open Leave renaming go->lG
open Again renaming go->aG
open ALoopU renaming know->kN,enter->eN
open Gh renaming to3->gT,refl->gR
open PureCall renaming enterLe->pE
open Go.IntKind (i64)
set_option linter.all false
set_option maxRecDepth 100000
set_option maxHeartbeats 4000000
set_option synthInstance.maxSize 100000
set_option synthInstance.maxHeartbeats 4000000
attribute [local irreducible] GhK ECallA ZGf aL aLg AMake MLoop AgainM LeaveM ZBd ZBG MutCall BCall chk abr ACall ALoop ALoopU ADraw Again Leave ZEr PCall ZAD awp ZIT PureCall hold
variable (B : Nat) (hB1 : 1073741824 <= bd B) (hB2 : bd B <= 9223372036854775807)
include hB1 hB2
theorem CC.f160 (sx81:Int×(List VarType)):(∀(set'82:Nat->Bool) (i83:Nat) (o:Lo ((List VarType)×Bool×Int) Unit),F.f160 sx81 set'82 i83=some o->∀(c:Code),ZP [1,1,1,1,1,1,1,1,1,0,1,0,0] (ZG Tryz.f144)=some c->∀(Q:Exit->ASt->Prop),o.post (fun r=>∀st,ZAD zQ Tryz.f144 (fun r' σ'=>r'.le (.tup [am zL r.1,.lit (.bool r.2.1)])/\ZBx σ' [li r.2.2]) .ret st->Q .ret st) (fun s=>Q (.exit 3) ⟨[(14,.own 3 (zB (α:=VarType) sx81.2))],[.cells [li sx81.1],.dead,.dead,.elems 3 (zA zL sx81.2)]⟩)->ALoopU zQ B 1 114 (hold c .mk) ⟨[(14,.own 3 (zB (α:=VarType) sx81.2)),(19,.ptr 4 0),(99,.own 3 (zB (α:=VarType) sx81.2)),(100,li (sx81.2.length:Int)),(101,li (i83:Int))],[.cells [li sx81.1],.dead,.dead,.elems 3 (zA zL sx81.2),.cells (fcB 6 set'82)]⟩ (hold Q .mk)):=by
 refine F.f160.partial_correctness sx81
  _
  ?_
 ·intro _f_f160 ih_f160 set'82 i83 o hF
  refine ZI rfl fun Q hq hk hs=> ?_
  have d3:=hs 3 _ rfl
  simp -dsimp[zM]at d3
  clear hk hs
  refine eN ?_
  refine kz ?_
  revert hF;refine aS ?_ ?_<;>intro h84 q85 hF
  ·have z86:((i83:Int)<(sx81.2.length:Int)):=auz
   have hF:=ob hF;obtain⟨x87,e88,hF⟩:=hF
   have le88:=ZB e88
   have hF:=oc hF;obtain⟨c89,hF⟩:=hF
   repeat first|refine cg ?_|simp -dsimp[h84,z86,↓e88,c89]
   revert hF;refine aS (fun h90 q91 hF=> ?_) (fun h90 q91 hF=> ?_)
   ·cases hF
    refine kx1 h90 ?_
    refine lG _ (gR _) (hq _ ?_)
    repeat first|refine cg ?_|simp -dsimp
   ·have w92:i64.wrap ((i83:Int)+1)=(i83:Int)+1:=ZE (by omega) (by omega)
    refine kx2 q91 w92 ?_
    refine zN ((ih_f160 (ZGl set'82 x87.var.toNat true) (i83+1) o hF) _ rfl _ hq)
  ·have z86:¬((i83:Int)<(sx81.2.length:Int)):=auz
   cases hF
   refine kx3 h84 q85 z86 ?_
   refine zO hq
theorem CC.f161 (sx128:Int×(List VarType)):(∀(set'129:Nat->Bool) (i130:Nat) (o:Lo ((List VarType)×Bool×Int) Unit),F.f161 sx128 set'129 i130=some o->∀(c:Code),ZP [1,1,1,1,1,1,1,1,1,0,1,0,0] (ZG Tryz.f144)=some c->∀(Q:Exit->ASt->Prop),o.post (fun r=>∀st,ZAD zQ Tryz.f144 (fun r' σ'=>r'.le (.tup [am zL r.1,.lit (.bool r.2.1)])/\ZBx σ' [li r.2.2]) .ret st->Q .ret st) (fun s=>Q (.exit 3) ⟨[(14,.own 4 (zB (α:=VarType) sx128.2))],[.cells [li sx128.1],.dead,.dead,.dead,.elems 3 (zA zL sx128.2)]⟩)->ALoopU zQ B 1 114 (hold c .mk) ⟨[(14,.own 4 (zB (α:=VarType) sx128.2)),(19,.ptr 5 0),(99,.own 4 (zB (α:=VarType) sx128.2)),(100,li (sx128.2.length:Int)),(101,li (i130:Int))],[.cells [li sx128.1],.dead,.dead,.dead,.elems 3 (zA zL sx128.2),.cells (fcB 6 set'129)]⟩ (hold Q .mk)):=by
 refine F.f161.partial_correctness sx128
  _
  ?_
 ·intro _f_f161 ih_f161 set'129 i130 o hF
  refine ZI rfl fun Q hq hk hs=> ?_
  have d4:=hs 4 _ rfl
  simp -dsimp[zM]at d4
  clear hk hs
  refine eN ?_
  refine kz ?_
  revert hF;refine aS ?_ ?_<;>intro h131 q132 hF
  ·have z133:((i130:Int)<(sx128.2.length:Int)):=auz
   have hF:=ob hF;obtain⟨x134,e135,hF⟩:=hF
   have le135:=ZB e135
   have hF:=oc hF;obtain⟨c136,hF⟩:=hF
   repeat first|refine cg ?_|simp -dsimp[h131,z133,↓e135,c136]
   revert hF;refine aS (fun h137 q138 hF=> ?_) (fun h137 q138 hF=> ?_)
   ·cases hF
    refine kx1 h137 ?_
    refine lG _ (gR _) (hq _ ?_)
    repeat first|refine cg ?_|simp -dsimp
   ·have w139:i64.wrap ((i130:Int)+1)=(i130:Int)+1:=ZE (by omega) (by omega)
    refine kx2 q138 w139 ?_
    refine zN ((ih_f161 (ZGl set'129 x134.var.toNat true) (i130+1) o hF) _ rfl _ hq)
  ·have z133:¬((i130:Int)<(sx128.2.length:Int)):=auz
   cases hF
   refine kx3 h131 q132 z133 ?_
   refine zO hq
theorem CC.f162 (w:List zP):(∀(t:Ty) (p:Pattern) (deep:Int) (count:Int) (r:(List VarType)×Bool×Int),F.f162 w t p deep count=some r->MutCall zQ B 144 [li count] [am zR w,.agg [li t.data,li t.index],.agg [li p.op,li p.ctor,li p.n,li p.m,li p.var,am zW p.kids],li deep,.ptr 0 0] (.tup [am zL r.1,.lit (.bool r.2.1)]) [li r.2.2])/\
  (∀(p:Pattern) (deep:Int) (v:(List Ty)×Bool) (z51:Int) (vars52:List VarType) (i53:Nat) (o:Lo ((List VarType)×Bool×Int) (Int×(List VarType))),F.f164 w p deep v z51 vars52 i53=some o->∀(c:Code),ZP [1,1,1,1,1,1,1,0,1,0,0] (ZG Tryz.f144)=some c->∀(Q:Exit->ASt->Prop),o.post (fun r=>∀st,ZAD zQ Tryz.f144 (fun r' σ'=>r'.le (.tup [am zL r.1,.lit (.bool r.2.1)])/\ZBx σ' [li r.2.2]) .ret st->Q .ret st) (fun s=>Q (.exit 0) ⟨[(14,.own 3 (zB (α:=VarType) s.2))],[.cells [li s.1],.dead,.dead,.elems 3 (zA zL s.2)]⟩)->ALoopU zQ B 1 114 (hold c .mk) ⟨[(0,am zR w),(3,li deep),(4,.ptr 0 0),(7,.ptr 2 0),(12,am yC v.1),(14,.own 3 (zB (α:=VarType) vars52)),(60,am zW p.kids),(61,li (p.kids.length:Int)),(62,li (i53:Int))],[.cells [li z51],.dead,.cells [li p.op,li p.ctor,li p.n,li p.m,li p.var,am zW p.kids],.elems 3 (zA zL vars52)]⟩ (hold Q .mk))/\
  (∀(p:Pattern) (deep:Int) (v:(List Ty)×Bool) (z:Int) (vars:List VarType) (i:Nat) (o:Lo ((List VarType)×Bool×Int) (Int×(List VarType))),F.f163 w p deep v z vars i=some o->∀(c:Code),ZP [1,1,1,1,1,1,1,0,1,0,0] (ZG Tryz.f144)=some c->∀(Q:Exit->ASt->Prop),o.post (fun r=>∀st,ZAD zQ Tryz.f144 (fun r' σ'=>r'.le (.tup [am zL r.1,.lit (.bool r.2.1)])/\ZBx σ' [li r.2.2]) .ret st->Q .ret st) (fun s=>Q (.exit 0) ⟨[(14,.own 4 (zB (α:=VarType) s.2))],[.cells [li s.1],.dead,.dead,.dead,.elems 3 (zA zL s.2)]⟩)->ALoopU zQ B 1 114 (hold c .mk) ⟨[(0,am zR w),(3,li deep),(4,.ptr 0 0),(7,.ptr 2 0),(12,am yC v.1),(14,.own 4 (zB (α:=VarType) vars)),(60,am zW p.kids),(61,li (p.kids.length:Int)),(62,li (i:Int))],[.cells [li z],.dead,.cells [li p.op,li p.ctor,li p.n,li p.m,li p.var,am zW p.kids],.dead,.elems 3 (zA zL vars)]⟩ (hold Q .mk))/\
  (∀(p:Pattern) (deep:Int) (v:(List Ty)×Bool) (z98:Int) (vars99:List VarType) (i100:Nat) (o:Lo ((List VarType)×Bool×Int) (Int×(List VarType))),F.f165 w p deep v z98 vars99 i100=some o->∀(c:Code),ZP [1,1,1,1,1,1,1,0,1,0,0] (ZG Tryz.f144)=some c->∀(Q:Exit->ASt->Prop),o.post (fun r=>∀st,ZAD zQ Tryz.f144 (fun r' σ'=>r'.le (.tup [am zL r.1,.lit (.bool r.2.1)])/\ZBx σ' [li r.2.2]) .ret st->Q .ret st) (fun s=>Q (.exit 0) ⟨[(14,.own 4 (zB (α:=VarType) s.2))],[.cells [li s.1],.dead,.dead,.dead,.elems 3 (zA zL s.2)]⟩)->ALoopU zQ B 1 114 (hold c .mk) ⟨[(0,am zR w),(3,li deep),(4,.ptr 0 0),(7,.ptr 2 0),(12,am yC v.1),(14,.own 4 (zB (α:=VarType) vars99)),(60,am zW p.kids),(61,li (p.kids.length:Int)),(62,li (i100:Int))],[.cells [li z98],.dead,.cells [li p.op,li p.ctor,li p.n,li p.m,li p.var,am zW p.kids],.dead,.elems 3 (zA zL vars99)]⟩ (hold Q .mk)):=by
 refine F.f162.mutual_partial_correctness w
  _ _ _ _
  ?_ ?_ ?_ ?_
 ·intro _f_f164 _f_f163 _f_f165 ih_f164 ih_f163 ih_f165 t p deep count r hF
  refine MutCall.inn func144 rfl ntmps144 ?_
  repeat first|refine cg ?_|simp -dsimp
  revert hF;refine aN ?_ ?_<;>intro h1 q2 hF
  ·refine kx2 h1 q2 ?_
   revert hF;refine aS ?_ ?_<;>intro h3 q4 hF
   ·cases hF
    repeat first|refine cg ?_|simp -dsimp[h1,q2,h3]
   ·refine kx4 h1 q2 h3 q4 ?_
    have hF:=ob hF;obtain⟨v,e5,hF⟩:=hF
    refine((C.f150 B hB1 hB2 w t p v e5)).goI ?_
    refine kx4 h1 q2 h3 q4 ?_
    revert hF;refine aN (fun h6 q7 hF=> ?_) (fun h6 q7 hF=> ?_)
    ·cases hF
     repeat first|refine cg ?_|simp -dsimp[h1,q2,h3,q4,h6,q7]
    ·refine kx6 h1 q2 h3 q4 h6 q7 ?_
     revert hF;refine aN ?_ ?_<;>intro h8 q9 hF
     ·refine kx8 h1 q2 h3 q4 h6 q7 h8 q9 ?_
      revert hF;refine aS ?_ ?_<;>intro h10 q11 hF
      ·refine kx9 h1 q2 h3 q4 h6 q7 h8 q9 h10 ?_
       have hF:=ob hF;obtain⟨o',ho36,hF⟩:=hF
       refine yF _ ?_ ((ih_f163 p deep v (i64.wrap (count+1)) [(⟨p.var,t⟩:VarType)] 0 o' ho36) _ rfl _ ?_)
       ·exact(gT (by simp) (by simp -dsimp[h1,q2,h3,q4,h6,q7,h8,q9,h10]))
       rcases o' with r050|sx
       ·dsimp only at hF
        cases hF
        intro st h
        simpa using h
       ·dsimp only at hF
        repeat first|refine cg ?_|simp -dsimp
        have hF:=ob hF;obtain⟨o'48,ho47,hF⟩:=hF
        refine yF _ ?_ (((CC.f159 B hB1 hB2 sx) (fun _=>false) 0 o'48 ho47) _ rfl _ ?_)
        ·exact(gT (by simp) (by simp -dsimp))
        rcases o'48 with r0|sx49
        ·dsimp only at hF
         cases hF
         intro st h
         simpa using h
        ·dsimp only at hF
         cases hF
         repeat first|refine cg ?_|simp -dsimp
      ·repeat first|refine cg ?_|simp -dsimp[h1,q2,h3,q4,h6,q7,h8,q9,h10,q11]
       have hF:=ob hF;obtain⟨o'80,ho79,hF⟩:=hF
       refine yF ⟨[(0,.arr (zA zR w)),(3,.lit (.int .i64 deep)),(4,.ptr 0 0),(7,.ptr 2 0),(12,.arr (zA yC v.1)),(14,.own 3 (zB (α:=VarType) [])),(60,.arr (zA zW p.kids)),(61,.lit (.int .i64 (p.kids.length:Int))),(62,.lit (.int .i64 0))],[.cells [.lit (.int .i64 (i64.wrap (count+1)))],.dead,.cells [.lit (.int .i64 p.op),.lit (.int .i64 p.ctor),.lit (.int .i64 p.n),.lit (.int .i64 p.m),.lit (.int .i64 p.var),.arr (zA zW p.kids)],.elems 3 (zA zL [])]⟩ (by refine yH (yK 14 3 (by simp -dsimp)) ?_;exact(gT (by simp) (by simp -dsimp[h1,q2,h3,q4,h6,q7,h8,q9,h10,q11]))) ?_
       refine(ih_f164 p deep v (i64.wrap (count+1)) [] 0 o'80 ho79) _ rfl _ ?_
       rcases o'80 with r097|sx81
       ·dsimp only at hF
        cases hF
        intro st h
        simpa using h
       ·dsimp only at hF
        repeat first|refine cg ?_|simp -dsimp
        have hF:=ob hF;obtain⟨o'94,ho93,hF⟩:=hF
        refine yF _ ?_ (((CC.f160 B hB1 hB2 sx81) (fun _=>false) 0 o'94 ho93) _ rfl _ ?_)
        ·exact(gT (by simp) (by simp -dsimp))
        rcases o'94 with r096|sx95
        ·dsimp only at hF
         cases hF
         intro st h
         simpa using h
        ·dsimp only at hF
         cases hF
         repeat first|refine cg ?_|simp -dsimp
     ·refine kx8 h1 q2 h3 q4 h6 q7 h8 q9 ?_
      have hF:=ob hF;obtain⟨o'127,ho126,hF⟩:=hF
      refine yF _ ?_ ((ih_f165 p deep v (i64.wrap (count+1)) [(⟨p.var,t⟩:VarType)] 0 o'127 ho126) _ rfl _ ?_)
      ·exact(gT (by simp) (by simp -dsimp[h1,q2,h3,q4,h6,q7,h8,q9]))
      rcases o'127 with r0144|sx128
      ·dsimp only at hF
       cases hF
       intro st h
       simpa using h
      ·dsimp only at hF
       repeat first|refine cg ?_|simp -dsimp
       have hF:=ob hF;obtain⟨o'141,ho140,hF⟩:=hF
       refine yF _ ?_ (((CC.f161 B hB1 hB2 sx128) (fun _=>false) 0 o'141 ho140) _ rfl _ ?_)
       ·exact(gT (by simp) (by simp -dsimp))
       rcases o'141 with r0143|sx142
       ·dsimp only at hF
        cases hF
        intro st h
        simpa using h
       ·dsimp only at hF
        cases hF
        repeat first|refine cg ?_|simp -dsimp
  ·cases hF
   repeat first|refine cg ?_|simp -dsimp[h1,q2]
 ·intro _f_f162 _f_f164 ih_f162 ih_f164 p deep v z51 vars52 i53 o hF
  refine ZI rfl fun Q hq hk hs=> ?_
  have b0:=hk 0
  simp -dsimp at b0
  have b12:=hk 12
  simp -dsimp at b12
  have b60:=hk 60
  simp -dsimp at b60
  have d2:=hs 2 _ rfl
  simp -dsimp[zM]at d2
  have d3:=hs 3 _ rfl
  simp -dsimp[zM]at d3
  clear hk hs
  refine eN ?_
  repeat first|refine cg ?_|simp -dsimp
  revert hF;refine aS ?_ ?_<;>intro h54 q55 hF
  ·have z56:((i53:Int)<(p.kids.length:Int)):=auz
   have hF:=ob hF;obtain⟨x57,e58,hF⟩:=hF
   have le58:=ZB e58
   repeat first|refine cg ?_|simp -dsimp[h54,z56,↓e58]
   refine yO [144] [(0,0),(0,0),(0,0),(0,0),(0,0),(0,0),(0,0),(0,0),(0,0),(0,1),(1,1),(1,1),(1,1),(1,1),(1,1)] [1,1,1,1,1,1,1,1,1,1,1,1,1,1,1] follows ?_
   have hF:=ob hF;obtain⟨x59,e60,hF⟩:=hF
   have le60:=ZB e60
   repeat first|refine cg ?_|simp -dsimp[h54,z56,↓e58,↓e60]
   have hF:=ob hF;obtain⟨v61,e62,hF⟩:=hF
   refine((ih_f162 x59 x57 (i64.wrap (deep+1)) z51 v61 e62)).ego 0 rfl (by simp[h54,z56,↓e58,↓e60]) (by simp) (by simp[h54,z56,↓e58,↓e60]) ?_
   repeat first|refine cg ?_|simp -dsimp[h54,z56,↓e58,↓e60]
   revert hF;refine aN (fun h63 q64 hF=> ?_) (fun h63 q64 hF=> ?_)
   ·cases hF
    repeat first|refine cg ?_|simp -dsimp[h54,z56,↓e58,↓e60,h63,q64]
    refine lG _ (gR _) (hq _ ?_)
    repeat first|refine cg ?_|simp -dsimp[h54,z56,↓e58,↓e60,h63,q64]
   ·repeat first|refine cg ?_|simp -dsimp[h54,z56,↓e58,↓e60,h63,q64]
    revert hF;refine aS ?_ ?_<;>intro h65 q66 hF
    ·repeat first|refine cg ?_|simp -dsimp[h54,z56,↓e58,↓e60,h63,q64,h65]
     revert hF;refine aS ?_ ?_<;>intro h67 q68 hF
     ·have z69:((i53:Int)=1):=auz
      repeat first|refine cg ?_|simp -dsimp[h54,z56,↓e58,↓e60,h63,q64,h65,eq_true h67,eq_true z69]
      have hF:=ob hF;obtain⟨v70,e71,hF⟩:=hF
      refine((C.f158 B hB1 hB2 vars52 v61.1 v70 e71)).lend (by simp -dsimp[h54,z56,↓e58,↓e60,h63,q64,h65,eq_true h67,eq_true z69]) (by simp -dsimp) ?_
      repeat first|refine cg ?_|simp -dsimp[h54,z56,↓e58,↓e60,h63,q64,h65,eq_true h67,eq_true z69]
      revert hF;refine aN (fun h72 q73 hF=> ?_) (fun h72 q73 hF=> ?_)
      ·cases hF
       repeat first|refine cg ?_|simp -dsimp[h54,z56,↓e58,↓e60,h63,q64,h65,eq_true h67,eq_true z69,h72,q73]
       refine lG _ (gR _) (hq _ ?_)
       repeat first|refine cg ?_|simp -dsimp[h54,z56,↓e58,↓e60,h63,q64,h65,eq_true h67,eq_true z69,h72,q73]
      ·have w74:i64.wrap ((i53:Int)+1)=(i53:Int)+1:=ZE (by omega) (by omega)
       repeat first|refine cg ?_|simp -dsimp[h54,z56,↓e58,↓e60,h63,q64,h65,eq_true h67,eq_true z69,h72,q73,w74]
       refine aG _ ?_ ((ih_f164 p deep v v61.2.2 vars52 (i53+1) o hF) _ rfl _ hq)
       exact(gT (by simp) (by simp -dsimp[h54,z56,↓e58,↓e60,h63,q64,h65,eq_true h67,eq_true z69,h72,q73,w74]))
     ·have z69:¬((i53:Int)=1):=auz
      have hF:=oc hF;obtain⟨c75,hF⟩:=hF
      have w76:i64.wrap ((i53:Int)+1)=(i53:Int)+1:=ZE (by omega) (by omega)
      repeat first|refine cg ?_|simp -dsimp[h54,z56,↓e58,↓e60,h63,q64,h65,h67,q68,z69,w76]
      refine aG _ ?_ ((ih_f164 p deep v v61.2.2 (vars52++v61.1) (i53+1) o hF) _ rfl _ hq)
      exact(gT (by simp) (by simp -dsimp[h54,z56,↓e58,↓e60,h63,q64,h65,h67,q68,z69,w76]))
    ·have hF:=oc hF;obtain⟨c77,hF⟩:=hF
     have w78:i64.wrap ((i53:Int)+1)=(i53:Int)+1:=ZE (by omega) (by omega)
     repeat first|refine cg ?_|simp -dsimp[h54,z56,↓e58,↓e60,h63,q64,h65,q66,w78]
     refine aG _ ?_ ((ih_f164 p deep v v61.2.2 (vars52++v61.1) (i53+1) o hF) _ rfl _ hq)
     exact(gT (by simp) (by simp -dsimp[h54,z56,↓e58,↓e60,h63,q64,h65,q66,w78]))
  ·have z56:¬((i53:Int)<(p.kids.length:Int)):=auz
   cases hF
   refine kx3 h54 q55 z56 ?_
   refine zO hq
 ·intro _f_f162 _f_f163 ih_f162 ih_f163 p deep v z vars i o hF
  refine ZI rfl fun Q hq hk hs=> ?_
  have b0:=hk 0
  simp -dsimp at b0
  have b12:=hk 12
  simp -dsimp at b12
  have b60:=hk 60
  simp -dsimp at b60
  have d2:=hs 2 _ rfl
  simp -dsimp[zM]at d2
  have d4:=hs 4 _ rfl
  simp -dsimp[zM]at d4
  clear hk hs
  refine eN ?_
  repeat first|refine cg ?_|simp -dsimp
  revert hF;refine aS ?_ ?_<;>intro h12 q13 hF
  ·have z14:((i:Int)<(p.kids.length:Int)):=auz
   have hF:=ob hF;obtain⟨x,e15,hF⟩:=hF
   have le15:=ZB e15
   repeat first|refine cg ?_|simp -dsimp[h12,z14,↓e15]
   refine yO [144] [(0,0),(0,0),(0,0),(0,0),(0,0),(0,0),(0,0),(0,0),(0,0),(0,1),(1,1),(1,1),(1,1),(1,1),(1,1)] [1,1,1,1,1,1,1,1,1,1,1,1,1,1,1] follows ?_
   have hF:=ob hF;obtain⟨x16,e17,hF⟩:=hF
   have le17:=ZB e17
   repeat first|refine cg ?_|simp -dsimp[h12,z14,↓e15,↓e17]
   have hF:=ob hF;obtain⟨v18,e19,hF⟩:=hF
   refine((ih_f162 x16 x (i64.wrap (deep+1)) z v18 e19)).ego 0 rfl (by simp[h12,z14,↓e15,↓e17]) (by simp) (by simp[h12,z14,↓e15,↓e17]) ?_
   repeat first|refine cg ?_|simp -dsimp[h12,z14,↓e15,↓e17]
   revert hF;refine aN (fun h20 q21 hF=> ?_) (fun h20 q21 hF=> ?_)
   ·cases hF
    repeat first|refine cg ?_|simp -dsimp[h12,z14,↓e15,↓e17,h20,q21]
    refine lG _ (gR _) (hq _ ?_)
    repeat first|refine cg ?_|simp -dsimp[h12,z14,↓e15,↓e17,h20,q21]
   ·repeat first|refine cg ?_|simp -dsimp[h12,z14,↓e15,↓e17,h20,q21]
    revert hF;refine aS ?_ ?_<;>intro h22 q23 hF
    ·repeat first|refine cg ?_|simp -dsimp[h12,z14,↓e15,↓e17,h20,q21,h22]
     revert hF;refine aS ?_ ?_<;>intro h24 q25 hF
     ·have z26:((i:Int)=1):=auz
      repeat first|refine cg ?_|simp -dsimp[h12,z14,↓e15,↓e17,h20,q21,h22,eq_true h24,eq_true z26]
      have hF:=ob hF;obtain⟨v27,e28,hF⟩:=hF
      refine((C.f158 B hB1 hB2 vars v18.1 v27 e28)).lend (by simp -dsimp[h12,z14,↓e15,↓e17,h20,q21,h22,eq_true h24,eq_true z26]) (by simp -dsimp) ?_
      repeat first|refine cg ?_|simp -dsimp[h12,z14,↓e15,↓e17,h20,q21,h22,eq_true h24,eq_true z26]
      revert hF;refine aN (fun h29 q30 hF=> ?_) (fun h29 q30 hF=> ?_)
      ·cases hF
       repeat first|refine cg ?_|simp -dsimp[h12,z14,↓e15,↓e17,h20,q21,h22,eq_true h24,eq_true z26,h29,q30]
       refine lG _ (gR _) (hq _ ?_)
       repeat first|refine cg ?_|simp -dsimp[h12,z14,↓e15,↓e17,h20,q21,h22,eq_true h24,eq_true z26,h29,q30]
      ·have w31:i64.wrap ((i:Int)+1)=(i:Int)+1:=ZE (by omega) (by omega)
       repeat first|refine cg ?_|simp -dsimp[h12,z14,↓e15,↓e17,h20,q21,h22,eq_true h24,eq_true z26,h29,q30,w31]
       refine aG _ ?_ ((ih_f163 p deep v v18.2.2 vars (i+1) o hF) _ rfl _ hq)
       exact(gT (by simp) (by simp -dsimp[h12,z14,↓e15,↓e17,h20,q21,h22,eq_true h24,eq_true z26,h29,q30,w31]))
     ·have z26:¬((i:Int)=1):=auz
      have hF:=oc hF;obtain⟨c32,hF⟩:=hF
      have w33:i64.wrap ((i:Int)+1)=(i:Int)+1:=ZE (by omega) (by omega)
      repeat first|refine cg ?_|simp -dsimp[h12,z14,↓e15,↓e17,h20,q21,h22,h24,q25,z26,w33]
      refine aG _ ?_ ((ih_f163 p deep v v18.2.2 (vars++v18.1) (i+1) o hF) _ rfl _ hq)
      exact(gT (by simp) (by simp -dsimp[h12,z14,↓e15,↓e17,h20,q21,h22,h24,q25,z26,w33]))
    ·have hF:=oc hF;obtain⟨c34,hF⟩:=hF
     have w35:i64.wrap ((i:Int)+1)=(i:Int)+1:=ZE (by omega) (by omega)
     repeat first|refine cg ?_|simp -dsimp[h12,z14,↓e15,↓e17,h20,q21,h22,q23,w35]
     refine aG _ ?_ ((ih_f163 p deep v v18.2.2 (vars++v18.1) (i+1) o hF) _ rfl _ hq)
     exact(gT (by simp) (by simp -dsimp[h12,z14,↓e15,↓e17,h20,q21,h22,q23,w35]))
  ·have z14:¬((i:Int)<(p.kids.length:Int)):=auz
   cases hF
   refine kx3 h12 q13 z14 ?_
   refine zO hq
 ·intro _f_f162 _f_f165 ih_f162 ih_f165 p deep v z98 vars99 i100 o hF
  refine ZI rfl fun Q hq hk hs=> ?_
  have b0:=hk 0
  simp -dsimp at b0
  have b12:=hk 12
  simp -dsimp at b12
  have b60:=hk 60
  simp -dsimp at b60
  have d2:=hs 2 _ rfl
  simp -dsimp[zM]at d2
  have d4:=hs 4 _ rfl
  simp -dsimp[zM]at d4
  clear hk hs
  refine eN ?_
  repeat first|refine cg ?_|simp -dsimp
  revert hF;refine aS ?_ ?_<;>intro h101 q102 hF
  ·have z103:((i100:Int)<(p.kids.length:Int)):=auz
   have hF:=ob hF;obtain⟨x104,e105,hF⟩:=hF
   have le105:=ZB e105
   repeat first|refine cg ?_|simp -dsimp[h101,z103,↓e105]
   refine yO [144] [(0,0),(0,0),(0,0),(0,0),(0,0),(0,0),(0,0),(0,0),(0,0),(0,1),(1,1),(1,1),(1,1),(1,1),(1,1)] [1,1,1,1,1,1,1,1,1,1,1,1,1,1,1] follows ?_
   have hF:=ob hF;obtain⟨x106,e107,hF⟩:=hF
   have le107:=ZB e107
   repeat first|refine cg ?_|simp -dsimp[h101,z103,↓e105,↓e107]
   have hF:=ob hF;obtain⟨v108,e109,hF⟩:=hF
   refine((ih_f162 x106 x104 (i64.wrap (deep+1)) z98 v108 e109)).ego 0 rfl (by simp[h101,z103,↓e105,↓e107]) (by simp) (by simp[h101,z103,↓e105,↓e107]) ?_
   repeat first|refine cg ?_|simp -dsimp[h101,z103,↓e105,↓e107]
   revert hF;refine aN (fun h110 q111 hF=> ?_) (fun h110 q111 hF=> ?_)
   ·cases hF
    repeat first|refine cg ?_|simp -dsimp[h101,z103,↓e105,↓e107,h110,q111]
    refine lG _ (gR _) (hq _ ?_)
    repeat first|refine cg ?_|simp -dsimp[h101,z103,↓e105,↓e107,h110,q111]
   ·repeat first|refine cg ?_|simp -dsimp[h101,z103,↓e105,↓e107,h110,q111]
    revert hF;refine aS ?_ ?_<;>intro h112 q113 hF
    ·repeat first|refine cg ?_|simp -dsimp[h101,z103,↓e105,↓e107,h110,q111,h112]
     revert hF;refine aS ?_ ?_<;>intro h114 q115 hF
     ·have z116:((i100:Int)=1):=auz
      repeat first|refine cg ?_|simp -dsimp[h101,z103,↓e105,↓e107,h110,q111,h112,eq_true h114,eq_true z116]
      have hF:=ob hF;obtain⟨v117,e118,hF⟩:=hF
      refine((C.f158 B hB1 hB2 vars99 v108.1 v117 e118)).lend (by simp -dsimp[h101,z103,↓e105,↓e107,h110,q111,h112,eq_true h114,eq_true z116]) (by simp -dsimp) ?_
      repeat first|refine cg ?_|simp -dsimp[h101,z103,↓e105,↓e107,h110,q111,h112,eq_true h114,eq_true z116]
      revert hF;refine aN (fun h119 q120 hF=> ?_) (fun h119 q120 hF=> ?_)
      ·cases hF
       repeat first|refine cg ?_|simp -dsimp[h101,z103,↓e105,↓e107,h110,q111,h112,eq_true h114,eq_true z116,h119,q120]
       refine lG _ (gR _) (hq _ ?_)
       repeat first|refine cg ?_|simp -dsimp[h101,z103,↓e105,↓e107,h110,q111,h112,eq_true h114,eq_true z116,h119,q120]
      ·have w121:i64.wrap ((i100:Int)+1)=(i100:Int)+1:=ZE (by omega) (by omega)
       repeat first|refine cg ?_|simp -dsimp[h101,z103,↓e105,↓e107,h110,q111,h112,eq_true h114,eq_true z116,h119,q120,w121]
       refine aG _ ?_ ((ih_f165 p deep v v108.2.2 vars99 (i100+1) o hF) _ rfl _ hq)
       exact(gT (by simp) (by simp -dsimp[h101,z103,↓e105,↓e107,h110,q111,h112,eq_true h114,eq_true z116,h119,q120,w121]))
     ·have z116:¬((i100:Int)=1):=auz
      have hF:=oc hF;obtain⟨c122,hF⟩:=hF
      have w123:i64.wrap ((i100:Int)+1)=(i100:Int)+1:=ZE (by omega) (by omega)
      repeat first|refine cg ?_|simp -dsimp[h101,z103,↓e105,↓e107,h110,q111,h112,h114,q115,z116,w123]
      refine aG _ ?_ ((ih_f165 p deep v v108.2.2 (vars99++v108.1) (i100+1) o hF) _ rfl _ hq)
      exact(gT (by simp) (by simp -dsimp[h101,z103,↓e105,↓e107,h110,q111,h112,h114,q115,z116,w123]))
    ·have hF:=oc hF;obtain⟨c124,hF⟩:=hF
     have w125:i64.wrap ((i100:Int)+1)=(i100:Int)+1:=ZE (by omega) (by omega)
     repeat first|refine cg ?_|simp -dsimp[h101,z103,↓e105,↓e107,h110,q111,h112,q113,w125]
     refine aG _ ?_ ((ih_f165 p deep v v108.2.2 (vars99++v108.1) (i100+1) o hF) _ rfl _ hq)
     exact(gT (by simp) (by simp -dsimp[h101,z103,↓e105,↓e107,h110,q111,h112,q113,w125]))
  ·have z103:¬((i100:Int)<(p.kids.length:Int)):=auz
   cases hF
   refine kx3 h101 q102 z103 ?_
   refine zO hq
theorem C.f166 (w:List zP)(t:Ty)(p:Pattern)(r:(List VarType)×Bool)(hF:F.f166 w t p=some r):PureCall zQ B 119 [am zR w,.agg [li t.data,li t.index],.agg [li p.op,li p.ctor,li p.n,li p.m,li p.var,am zW p.kids]] (.tup [am zL r.1,.lit (.bool r.2)]):=by
 unfold F.f166 at hF
 refine yR func119 rfl ntmps119 ?_
 refine kz ?_
 have hF:=ob hF;obtain⟨v,e1,hF⟩:=hF
 refine(((CC.f162 B hB1 hB2 w).1 t p 1 0 v e1)).go 2 rfl (by simp) (by simp) (by simp) ?_
 cases hF
 repeat first|refine cg ?_|simp -dsimp
theorem C.f167 (g:Guard)(vars:List VarType)(r:Bool)(hF:F.f167 g vars=some r):PureCall zQ B 120 [.agg [li g.op,li g.var,li g.n],am zL vars] (.lit (.bool r)):=by
 unfold F.f167 at hF
 refine yR func120 rfl ntmps120 ?_
 refine kz ?_
 revert hF;refine aS ?_ ?_<;>intro h1 q2 hF
 ·cases hF
  repeat first|refine cg ?_|simp -dsimp[h1]
 ·refine kx2 h1 q2 ?_
  have hF:=ob hF;obtain⟨v,e3,hF⟩:=hF
  refine((C.f126 B hB1 hB2 g.op 1 2 v e3)).goI ?_
  refine kx2 h1 q2 ?_
  revert hF;refine aS (fun h4 q5 hF=> ?_) (fun h4 q5 hF=> ?_)
  ·refine kx3 h1 q2 h4 ?_
   have hF:=ob hF;obtain⟨v6,e7,hF⟩:=hF
   refine((C.f126 B hB1 hB2 g.n 0 9 v6 e7)).goI ?_
   refine kx3 h1 q2 h4 ?_
   revert hF;refine aS (fun h8 q9 hF=> ?_) (fun h8 q9 hF=> ?_)
   ·refine kx4 h1 q2 h4 h8 ?_
    have hF:=ob hF;obtain⟨v10,e11,hF⟩:=hF
    refine((C.f153 B hB1 hB2 vars (⟨g.var,(⟨(-1),0⟩:Ty)⟩:VarType) v10 e11)).goI ?_
    cases hF
    repeat first|refine cg ?_|simp -dsimp[h1,q2,h4,h8]
   ·cases hF
    repeat first|refine cg ?_|simp -dsimp[h1,q2,h4,h8,q9]
  ·cases hF
   repeat first|refine cg ?_|simp -dsimp[h1,q2,h4,q5]
theorem C.f168 (w:List zP)(t:Ty)(c':Clause)(r:Bool)(hF:F.f168 w t c'=some r):PureCall zQ B 90 [am zR w,.agg [li t.data,li t.index],.agg [li c'.pat.op,li c'.pat.ctor,li c'.pat.n,li c'.pat.m,li c'.pat.var,am zW c'.pat.kids,li c'.guard.op,li c'.guard.var,li c'.guard.n]] (.lit (.bool r)):=by
 unfold F.f168 at hF
 refine yR func90 rfl ntmps90 ?_
 refine kz ?_
 have hF:=ob hF;obtain⟨v,e1,hF⟩:=hF
 refine((C.f166 B hB1 hB2 w t c'.pat v e1)).goI ?_
 refine kz ?_
 revert hF;refine aS (fun h2 q3 hF=> ?_) (fun h2 q3 hF=> ?_)
 ·refine kx1 h2 ?_
  have hF:=ob hF;obtain⟨v4,e5,hF⟩:=hF
  refine((C.f167 B hB1 hB2 c'.guard v.1 v4 e5)).goI ?_
  cases hF
  repeat first|refine cg ?_|simp -dsimp[h2]
 ·cases hF
  repeat first|refine cg ?_|simp -dsimp[h2,q3]
theorem C.f169 (c':Clause)(a1:List zP)(a2:Ty)(r:Bool)(hF:F.f169 c' a1 a2=some r):PureCall zQ B 89 [.agg [li c'.pat.op,li c'.pat.ctor,li c'.pat.n,li c'.pat.m,li c'.pat.var,am zW c'.pat.kids,li c'.guard.op,li c'.guard.var,li c'.guard.n],.rptr [am zR a1] 0,.rptr [li a2.data,li a2.index] 0] (.lit (.bool r)):=by
 unfold F.f169 at hF
 refine yR func89 rfl ntmps89 ?_
 refine kz ?_
 have hF:=ob hF;obtain⟨v,e1,hF⟩:=hF
 refine((C.f168 B hB1 hB2 a1 a2 c' v e1)).goI ?_
 cases hF
 repeat first|refine cg ?_|simp -dsimp
theorem CC.f170 (s:List Clause)(k0:List zP)(k1:Ty):(∀(i:Nat) (o:Lo Int Unit),F.f170 s k0 k1 i=some o->∀(c:Code),ZP [1,0,1,0,0] (ZG Tryz.f118)=some c->∀(Q:Exit->ASt->Prop),o.post (fun r=>∀st,ZAD zQ Tryz.f118 (fun r' _=>r'.le (li r)) .ret st->Q .ret st) (fun s=>Q (.exit 0) ⟨[],[]⟩)->ALoopU zQ B 0 19 (hold c .mk) ⟨[(0,am yS s),(1,.fn (.func 89) [] [.rptr [am zR k0] 0,.rptr [li k1.data,li k1.index] 0]),(7,li (s.length:Int)),(8,li (i:Int))],[]⟩ (hold Q .mk)):=by
 refine F.f170.partial_correctness s k0 k1
  _
  ?_
 ·intro _f_f170 ih_f170 i o hF
  refine ZI rfl fun Q hq hk hs=> ?_
  have b0:=hk 0
  simp -dsimp at b0
  clear hk hs
  refine eN ?_
  refine kz ?_
  revert hF;refine aS ?_ ?_<;>intro h1 q2 hF
  ·have z3:((i:Int)<(s.length:Int)):=auz
   have hF:=ob hF;obtain⟨x,e4,hF⟩:=hF
   have le4:=ZB e4
   repeat first|refine cg ?_|simp -dsimp[h1,z3,↓e4]
   have hF:=ob hF;obtain⟨v,e5,hF⟩:=hF
   refine((C.f169 B hB1 hB2 x k0 k1 v e5)).goI ?_
   refine kz ?_
   revert hF;refine aS (fun h6 q7 hF=> ?_) (fun h6 q7 hF=> ?_)
   ·cases hF
    refine kx1 h6 ?_
    refine lG _ (gR _) (hq _ ?_)
    repeat first|refine cg ?_|simp -dsimp
   ·have w8:i64.wrap ((i:Int)+1)=(i:Int)+1:=ZE (by omega) (by omega)
    refine kx2 q7 w8 ?_
    refine zN ((ih_f170 (i+1) o hF) _ rfl _ hq)
  ·have z3:¬((i:Int)<(s.length:Int)):=auz
   cases hF
   refine kx3 h1 q2 z3 ?_
   refine zO hq
theorem C.f171 (s:List Clause)(k0:List zP)(k1:Ty)(r:Int)(hF:F.f171 s k0 k1=some r):PureCall zQ B 118 [am yS s,.fn (.func 89) [] [.rptr [am zR k0] 0,.rptr [li k1.data,li k1.index] 0]] (li r):=by
 unfold F.f171 at hF
 refine yR func118 rfl ntmps118 ?_
 refine kz ?_
 have hF:=ob hF;obtain⟨o',ho9,hF⟩:=hF
 refine yG (((CC.f170 B hB1 hB2 s k0 k1) 0 o' ho9) _ rfl _ ?_)
 rcases o' with r0|sx
 ·dsimp only at hF
  cases hF
  intro st h
  simpa using h
 ·dsimp only at hF
  cases hF
  repeat first|refine cg ?_|simp -dsimp
theorem C.f172 (s:List Clause)(k0:List zP)(k1:Ty)(r:Bool)(hF:F.f172 s k0 k1=some r):PureCall zQ B 88 [am yS s,.fn (.func 89) [] [.rptr [am zR k0] 0,.rptr [li k1.data,li k1.index] 0]] (.lit (.bool r)):=by
 unfold F.f172 at hF
 refine yR func88 rfl ntmps88 ?_
 refine kz ?_
 have hF:=ob hF;obtain⟨v,e1,hF⟩:=hF
 refine((C.f171 B hB1 hB2 s k0 k1 v e1)).goI ?_
 cases hF
 repeat first|refine cg ?_|simp -dsimp
theorem C.f173 (w:List zP)(t:Ty)(list:List Clause)(r:Bool)(hF:F.f173 w t list=some r):PureCall zQ B 58 [am zR w,.agg [li t.data,li t.index],am yS list] (.lit (.bool r)):=by
 unfold F.f173 at hF
 refine yR func58 rfl ntmps58 ?_
 refine kz ?_
 have hF:=ob hF;obtain⟨v,e1,hF⟩:=hF
 refine((C.f139 B hB1 hB2 w t v e1)).goI ?_
 refine kz ?_
 revert hF;refine aS (fun h2 q3 hF=> ?_) (fun h2 q3 hF=> ?_)
 ·refine kx1 h2 ?_
  revert hF;refine aS ?_ ?_<;>intro h4 q5 hF
  ·have z6:((list.length:Int)<=8):=auz
   refine kx3 h2 h4 z6 ?_
   have hF:=ob hF;obtain⟨v7,e8,hF⟩:=hF
   refine((C.f172 B hB1 hB2 list w t v7 e8)).lend (by simp -dsimp[h2,h4,z6]) (by simp -dsimp) ?_
   cases hF
   repeat first|refine cg ?_|simp -dsimp[h2,h4,z6]
  ·have z6:¬((list.length:Int)<=8):=auz
   cases hF
   repeat first|refine cg ?_|simp -dsimp[h2,h4,q5,z6]
 ·cases hF
  repeat first|refine cg ?_|simp -dsimp[h2,q3]
theorem CC.f174  :(∀(p:Pattern) (r:Int),F.f174 p=some r->PureCall zQ B 91 [.agg [li p.op,li p.ctor,li p.n,li p.m,li p.var,am zW p.kids]] (li r))/\
  (∀(p:Pattern) (i15:Nat) (n16:Int) (o:Int),F.f176 p i15 n16=some o->∀(c:Code),ZP [1,1,1,0,1,0,0] (ZG Tryz.f91)=some c->∀(Q:Exit->ASt->Prop),(Q (.exit 0) ⟨[(3,li o)],[]⟩)->ALoopU zQ B 0 31 (hold c .mk) ⟨[(1,.ptr 0 0),(3,li n16),(10,am zW p.kids),(11,li (p.kids.length:Int)),(12,li (i15:Int))],[.cells [li p.op,li p.ctor,li p.n,li p.m,li p.var,am zW p.kids]]⟩ (hold Q .mk))/\
  (∀(p:Pattern) (i:Nat) (n:Int) (o:Int),F.f175 p i n=some o->∀(c:Code),ZP [1,1,1,0,1,0,0] (ZG Tryz.f91)=some c->∀(Q:Exit->ASt->Prop),(Q (.exit 0) ⟨[(3,li o)],[]⟩)->ALoopU zQ B 0 31 (hold c .mk) ⟨[(1,.ptr 0 0),(3,li n),(10,am zW p.kids),(11,li (p.kids.length:Int)),(12,li (i:Int))],[.cells [li p.op,li p.ctor,li p.n,li p.m,li p.var,am zW p.kids]]⟩ (hold Q .mk)):=by
 refine F.f174.mutual_partial_correctness 
  _ _ _
  ?_ ?_ ?_
 ·intro _f_f176 _f_f175 ih_f176 ih_f175 p r hF
  refine yR func91 rfl ntmps91 ?_
  refine kz ?_
  revert hF;refine aS ?_ ?_<;>intro h1 q2 hF
  ·refine kx1 h1 ?_
   have hF:=ob hF;obtain⟨o',ho14,hF⟩:=hF
   refine yG ((ih_f175 p 0 0 o' ho14) _ rfl _ ?_)
   cases hF
   repeat first|refine cg ?_|simp -dsimp
  ·refine kx1 q2 ?_
   have hF:=ob hF;obtain⟨o'31,ho30,hF⟩:=hF
   refine yG ((ih_f176 p 0 1 o'31 ho30) _ rfl _ ?_)
   cases hF
   repeat first|refine cg ?_|simp -dsimp
 ·intro _f_f174 _f_f176 ih_f174 ih_f176 p i15 n16 o hF
  refine ZI rfl fun Q hq hk hs=> ?_
  have b10:=hk 10
  simp -dsimp at b10
  have d0:=hs 0 _ rfl
  simp -dsimp[zM]at d0
  clear hk hs
  refine eN ?_
  refine kz ?_
  revert hF;refine aS ?_ ?_<;>intro h17 q18 hF
  ·have z19:((i15:Int)<(p.kids.length:Int)):=auz
   have hF:=ob hF;obtain⟨x20,e21,hF⟩:=hF
   have le21:=ZB e21
   repeat first|refine cg ?_|simp -dsimp[h17,z19,↓e21]
   revert hF;refine aS ?_ ?_<;>intro h22 q23 hF
   ·refine kx1 h22 ?_
    have hF:=ob hF;obtain⟨v24,e25,hF⟩:=hF
    refine((ih_f174 x20 v24 e25)).goI ?_
    have w26:i64.wrap ((i15:Int)+1)=(i15:Int)+1:=ZE (by omega) (by omega)
    refine kx1 w26 ?_
    refine zN ((ih_f176 p (i15+1) (if 401<i64.wrap (n16+v24)then 401 else i64.wrap (n16+v24)) o hF) _ rfl _ hq)
   ·refine kx1 q23 ?_
    have hF:=ob hF;obtain⟨v27,e28,hF⟩:=hF
    refine((ih_f174 x20 v27 e28)).goI ?_
    have w29:i64.wrap ((i15:Int)+1)=(i15:Int)+1:=ZE (by omega) (by omega)
    refine kx1 w29 ?_
    refine zN ((ih_f176 p (i15+1) (if 401<i64.wrap (n16*v27)then 401 else i64.wrap (n16*v27)) o hF) _ rfl _ hq)
  ·have z19:¬((i15:Int)<(p.kids.length:Int)):=auz
   cases hF
   refine kx3 h17 q18 z19 ?_
   refine zO hq
 ·intro _f_f174 _f_f175 ih_f174 ih_f175 p i n o hF
  refine ZI rfl fun Q hq hk hs=> ?_
  have b10:=hk 10
  simp -dsimp at b10
  have d0:=hs 0 _ rfl
  simp -dsimp[zM]at d0
  clear hk hs
  refine eN ?_
  refine kz ?_
  revert hF;refine aS ?_ ?_<;>intro h3 q4 hF
  ·have z5:((i:Int)<(p.kids.length:Int)):=auz
   have hF:=ob hF;obtain⟨x,e6,hF⟩:=hF
   have le6:=ZB e6
   repeat first|refine cg ?_|simp -dsimp[h3,z5,↓e6]
   revert hF;refine aS ?_ ?_<;>intro h7 q8 hF
   ·refine kx1 h7 ?_
    have hF:=ob hF;obtain⟨v,e9,hF⟩:=hF
    refine((ih_f174 x v e9)).goI ?_
    have w10:i64.wrap ((i:Int)+1)=(i:Int)+1:=ZE (by omega) (by omega)
    refine kx1 w10 ?_
    refine zN ((ih_f175 p (i+1) (if 401<i64.wrap (n+v)then 401 else i64.wrap (n+v)) o hF) _ rfl _ hq)
   ·refine kx1 q8 ?_
    have hF:=ob hF;obtain⟨v11,e12,hF⟩:=hF
    refine((ih_f174 x v11 e12)).goI ?_
    have w13:i64.wrap ((i:Int)+1)=(i:Int)+1:=ZE (by omega) (by omega)
    refine kx1 w13 ?_
    refine zN ((ih_f175 p (i+1) (if 401<i64.wrap (n*v11)then 401 else i64.wrap (n*v11)) o hF) _ rfl _ hq)
  ·have z5:¬((i:Int)<(p.kids.length:Int)):=auz
   cases hF
   refine kx3 h3 q4 z5 ?_
   refine zO hq
theorem C.f177 (s:List Pattern)(r:List Pattern)(hF:F.f177 s=some r):BCall zQ B 121 [] [am zW s] (.own 0 (zB (α:=Pattern) r)) [.elems 6 (zA zW r)]:=by
 unfold F.f177 at hF
 have hF:=oc hF;obtain⟨c1,hF⟩:=hF
 cases hF
 cases s with
 |nil=>
  refine yX fun a c=> ?_
  cases a
  ·refine yY 6 (by simp) (by simp) ?_
   refine yR func121 rfl ntmps121 ?_
   repeat first|refine cg ?_|simp -dsimp
  ·refine yW func121 (by kernel_rfl) rfl ntmps121 (by simp) rfl (by simp) (by simp) (by simp) (by simp) (by simp) (gR _) ?_
   repeat first|refine cg ?_|simp -dsimp
 |cons x xs=>
  have c1:xs.length+1<=67108864:=by simpa using c1
  refine yW func121 (by kernel_rfl) rfl ntmps121 (by simp) rfl (by simp) (by simp) (by simp) (by simp) (by simp) (gR _) ?_
  repeat first|refine cg ?_|simp -dsimp
theorem CC.impl_split__o0_l3 (p:Pattern)(list:List Pattern)(i:Nat)(v15:List Pattern)(i17:Nat)(x21:Pattern):(∀(more23:List Pattern) (i24:Nat) (o:List Pattern),F.f178 p list i v15 i17 x21 more23 i24=some o->∀(c:Code),ZP [1,1,1,1,1,0,1,0,0,1,1,0,0,1,1,1,0,1,0,0,1,1,0,0,1,1,0,0] (ZG Tryz.f92)=some c->∀(Q:Exit->ASt->Prop),(Q (.exit 4) ⟨[(7,.own 3 (zB (α:=Pattern) v15)),(8,.own 4 (zB (α:=Pattern) o)),(33,am zW p.kids),(34,li (p.kids.length:Int)),(35,li (i:Int)),(41,.own 1 (zB (α:=Pattern) list)),(42,li (list.length:Int)),(43,li (i17:Int))],[.dead,.elems 6 (zA zW list),.dead,.elems 6 (zA zW v15),.elems 6 (zA zW o)]⟩)->ALoopU zQ B 0 70 (hold c .mk) ⟨[(7,.own 3 (zB (α:=Pattern) v15)),(8,.own 4 (zB (α:=Pattern) more23)),(10,.ptr 5 0),(33,am zW p.kids),(34,li (p.kids.length:Int)),(35,li (i:Int)),(41,.own 1 (zB (α:=Pattern) list)),(42,li (list.length:Int)),(43,li (i17:Int)),(47,.own 3 (zB (α:=Pattern) v15)),(48,li (v15.length:Int)),(49,li (i24:Int))],[.dead,.elems 6 (zA zW list),.dead,.elems 6 (zA zW v15),.elems 6 (zA zW more23),.cells [li x21.op,li x21.ctor,li x21.n,li x21.m,li x21.var,am zW x21.kids]]⟩ (hold Q .mk)):=by
 refine F.f178.partial_correctness p list i v15 i17 x21
  _
  ?_
 ·intro _f_impl_split__o0_l3 ih_impl_split__o0_l3 more23 i24 o hF
  refine ZI rfl fun Q hq hk hs=> ?_
  have b33:=hk 33
  simp -dsimp at b33
  have d1:=hs 1 _ rfl
  simp -dsimp[zM]at d1
  have d3:=hs 3 _ rfl
  simp -dsimp[zM]at d3
  have d4:=hs 4 _ rfl
  simp -dsimp[zM]at d4
  have d5:=hs 5 _ rfl
  simp -dsimp[zM]at d5
  clear hk hs
  refine eN ?_
  repeat first|refine cg ?_|simp -dsimp
  revert hF;refine aS ?_ ?_<;>intro h25 q26 hF
  ·have z27:((i24:Int)<(v15.length:Int)):=auz
   have hF:=ob hF;obtain⟨x28,e29,hF⟩:=hF
   have le29:=ZB e29
   repeat first|refine cg ?_|simp -dsimp[h25,z27,↓e29]
   refine ADraw.opn ?_
   refine ADraw.split [] [(2,4)] [(4,2)] 2 4 rfl rfl (by kernel_rfl) ?_ ?_
   ·refine yQ [(2,4)] [0,1,2,3,4,5,6,7] [121] [(0,0),(0,0),(0,4),(0,1),(0,4),(0,4),(3,3),(0,4)] [1,1,1,2,1,1,1,1] follows (by kernel_rfl) (by kernel_rfl) (by kernel_rfl) (by kernel_rfl) ?_
    repeat first|refine cg ?_|simp -dsimp
    have hF:=ob hF;obtain⟨v30,e31,hF⟩:=hF
    refine((C.f177 B hB1 hB2 x21.kids v30 e31)).ego (pl [8]) (by simp) (by simp) (by intro i j hi;simp at hi) (by intro i hi hi';simp at hi hi';first|omega|(subst hi';simp[pl])) (by simp_all) (by simp_all) ?_
    have hF:=oc hF;obtain⟨c32,hF⟩:=hF
    have hF:=oc hF;obtain⟨c33,hF⟩:=hF
    have w34:i64.wrap ((i24:Int)+1)=(i24:Int)+1:=ZE (by omega) (by omega)
    repeat first|refine cg ?_|simp -dsimp[w34]
    refine zN ((ih_impl_split__o0_l3 (more23++[(⟨x21.op,x21.ctor,x21.n,x21.m,x21.var,v30++[x28]⟩:Pattern)]) (i24+1) o hF) _ rfl _ hq)
   ·refine yQ [(4,2)] [0,1,3,4,2,5,6,7] [121] [(0,1),(0,1),(0,0),(0,4),(0,4),(0,4),(3,3),(0,4)] [0,2,1,1,1,1,1,1] follows (by kernel_rfl) (by kernel_rfl) (by kernel_rfl) (by kernel_rfl) ?_
    repeat first|refine cg ?_|simp -dsimp
    have hF:=ob hF;obtain⟨v30,e31,hF⟩:=hF
    refine((C.f177 B hB1 hB2 x21.kids v30 e31)).ego (pl [9]) (by simp) (by simp) (by intro i j hi;simp at hi) (by intro i hi hi';simp at hi hi';first|omega|(subst hi';simp[pl])) (by simp_all) (by simp_all) ?_
    have hF:=oc hF;obtain⟨c32,hF⟩:=hF
    have hF:=oc hF;obtain⟨c33,hF⟩:=hF
    have w34:i64.wrap ((i24:Int)+1)=(i24:Int)+1:=ZE (by omega) (by omega)
    repeat first|refine cg ?_|simp -dsimp[w34]
    refine zN ((ih_impl_split__o0_l3 (more23++[(⟨x21.op,x21.ctor,x21.n,x21.m,x21.var,v30++[x28]⟩:Pattern)]) (i24+1) o hF) _ rfl _ hq)
  ·have z27:¬((i24:Int)<(v15.length:Int)):=auz
   cases hF
   repeat first|refine cg ?_|simp -dsimp[h25,q26,z27]
   refine zO hq
theorem CC.impl_split__o0_l2 (p:Pattern)(list:List Pattern)(i:Nat)(v15:List Pattern):(∀(more:List Pattern) (i17:Nat) (o:List Pattern),F.f179 p list i v15 more i17=some o->∀(c:Code),ZP [1,1,1,1,1,0,1,0,0,1,1,0,0,1,1,1,0,1,0,0] (ZG Tryz.f92)=some c->∀(Q:Exit->ASt->Prop),(Q (.exit 2) ⟨[(8,.own 4 (zB (α:=Pattern) o)),(33,am zW p.kids),(34,li (p.kids.length:Int)),(35,li (i:Int))],[.dead,.dead,.dead,.dead,.elems 6 (zA zW o)]⟩)->ALoopU zQ B 0 70 (hold c .mk) ⟨[(7,.own 3 (zB (α:=Pattern) v15)),(8,.own 4 (zB (α:=Pattern) more)),(33,am zW p.kids),(34,li (p.kids.length:Int)),(35,li (i:Int)),(41,.own 1 (zB (α:=Pattern) list)),(42,li (list.length:Int)),(43,li (i17:Int))],[.dead,.elems 6 (zA zW list),.dead,.elems 6 (zA zW v15),.elems 6 (zA zW more)]⟩ (hold Q .mk)):=by
 refine F.f179.partial_correctness p list i v15
  _
  ?_
 ·intro _f_impl_split__o0_l2 ih_impl_split__o0_l2 more i17 o hF
  refine ZI rfl fun Q hq hk hs=> ?_
  have b33:=hk 33
  simp -dsimp at b33
  have d1:=hs 1 _ rfl
  simp -dsimp[zM]at d1
  have d3:=hs 3 _ rfl
  simp -dsimp[zM]at d3
  have d4:=hs 4 _ rfl
  simp -dsimp[zM]at d4
  clear hk hs
  refine eN ?_
  refine kz ?_
  revert hF;refine aS ?_ ?_<;>intro h18 q19 hF
  ·have z20:((i17:Int)<(list.length:Int)):=auz
   have hF:=ob hF;obtain⟨x21,e22,hF⟩:=hF
   have le22:=ZB e22
   repeat first|refine cg ?_|simp -dsimp[h18,z20,↓e22]
   have hF:=ob hF;obtain⟨o',ho35,hF⟩:=hF
   refine yG (((CC.impl_split__o0_l3 B hB1 hB2 p list i v15 i17 x21) more 0 o' ho35) _ rfl _ ?_)
   have hF:=oc hF;obtain⟨c36,hF⟩:=hF
   have w37:i64.wrap ((i17:Int)+1)=(i17:Int)+1:=ZE (by omega) (by omega)
   refine kx1 w37 ?_
   refine zN ((ih_impl_split__o0_l2 o' (i17+1) o hF) _ rfl _ hq)
  ·have z20:¬((i17:Int)<(list.length:Int)):=auz
   cases hF
   refine kx3 h18 q19 z20 ?_
   refine zO hq
theorem CC.impl_split__o0  :(∀(p:Pattern) (r:List Pattern),F.f180 p=some r->BCall zQ B 92 [] [.agg [li p.op,li p.ctor,li p.n,li p.m,li p.var,am zW p.kids]] (.own 0 (zB (α:=Pattern) r)) [.elems 6 (zA zW r)])/\
  (∀(p:Pattern) (list:List Pattern) (i:Nat) (o:List Pattern),F.f181 p list i=some o->∀(c:Code),ZP [1,1,1,1,1,0,1,0,0] (ZG Tryz.f92)=some c->∀(Q:Exit->ASt->Prop),(Q (.exit 0) ⟨[(4,.own 1 (zB (α:=Pattern) o))],[.dead,.elems 6 (zA zW o)]⟩)->ALoopU zQ B 0 70 (hold c .mk) ⟨[(4,.own 1 (zB (α:=Pattern) list)),(33,am zW p.kids),(34,li (p.kids.length:Int)),(35,li (i:Int))],[.dead,.elems 6 (zA zW list)]⟩ (hold Q .mk)):=by
 refine F.f180.mutual_partial_correctness 
  _ _
  ?_ ?_
 ·intro _f_impl_split__o0 _f_impl_split__o0_l1 ih_impl_split__o0 ih_impl_split__o0_l1 p r hF
  refine BCall.enterS (τ1:=[]) (ys:=[.own 0 (zB (α:=Pattern) r)]) (news:=[(6,zA zW r)]) func92 (by kernel_rfl) rfl ntmps92 (by simp) rfl rfl (by simp) (by simp) (by simp) (by simp) (by simp) (by simp) (gR _) ?_
  refine kz ?_
  revert hF;refine aS ?_ ?_<;>intro h1 q2 hF
  ·refine kx1 h1 ?_
   refine yO [92] [(0,0),(0,0),(0,0),(0,0),(0,3),(0,1),(0,1),(0,1),(0,1),(0,3),(0,3),(3,3)] [1,1,1,1,1,0,2,0,0,1,1,1] follows ?_
   have hF:=ob hF;obtain⟨x,e3,hF⟩:=hF
   have le3:=ZB e3
   repeat first|refine cg ?_|simp -dsimp[↓e3]
   have hF:=ob hF;obtain⟨v,e4,hF⟩:=hF
   refine((ih_impl_split__o0 x v e4)).ego (pl [1]) (by simp) (by simp) (by intro i j hi;simp at hi) (by intro i hi hi';simp at hi hi';have hi:i=0:=(by omega);rcases hi with rfl<;>simp[pl]) (by simp_all) (by simp_all) ?_
   have hF:=ob hF;obtain⟨x5,e6,hF⟩:=hF
   have le6:=ZB e6
   repeat first|refine cg ?_|simp -dsimp[↓e6]
   have hF:=ob hF;obtain⟨v7,e8,hF⟩:=hF
   refine((ih_impl_split__o0 x5 v7 e8)).ego (pl [2]) (by simp) (by simp) (by intro i j hi;simp at hi) (by intro i hi hi';simp at hi hi';have hi:i=0:=(by omega);rcases hi with rfl<;>simp[pl]) (by simp_all) (by simp_all) ?_
   have hF:=oc hF;obtain⟨c9,hF⟩:=hF
   cases hF
   repeat first|refine cg ?_|simp -dsimp
   all_goals(try first|omega|rfl|(simp;done)|(simp only[zH,zI]at*;omega)|simp)
  ·refine kx1 q2 ?_
   have hF:=ob hF;obtain⟨o'43,ho42,hF⟩:=hF
   refine yG ((ih_impl_split__o0_l1 p [(⟨p.op,p.ctor,p.n,p.m,p.var,[]⟩:Pattern)] 0 o'43 ho42) _ rfl _ ?_)
   cases hF
   repeat first|refine cg ?_|simp -dsimp
   all_goals(try first|omega|rfl|(simp;done)|(simp only[zH,zI]at*;omega)|simp)
 ·intro _f_impl_split__o0 _f_impl_split__o0_l1 ih_impl_split__o0 ih_impl_split__o0_l1 p list i o hF
  refine ZI rfl fun Q hq hk hs=> ?_
  have b33:=hk 33
  simp -dsimp at b33
  have d1:=hs 1 _ rfl
  simp -dsimp[zM]at d1
  clear hk hs
  refine eN ?_
  refine kz ?_
  revert hF;refine aS ?_ ?_<;>intro h10 q11 hF
  ·have z12:((i:Int)<(p.kids.length:Int)):=auz
   have hF:=ob hF;obtain⟨x13,e14,hF⟩:=hF
   have le14:=ZB e14
   repeat first|refine cg ?_|simp -dsimp[h10,z12,↓e14]
   have hF:=ob hF;obtain⟨v15,e16,hF⟩:=hF
   refine((ih_impl_split__o0 x13 v15 e16)).go (pl [3]) (by simp) (by simp) (by intro i j hi;simp at hi) (by intro i hi hi';simp at hi hi';have hi:i=0:=(by omega);rcases hi with rfl<;>simp[pl]) (by simp_all) (by simp_all) ?_
   refine kz ?_
   have hF:=ob hF;obtain⟨o'39,ho38,hF⟩:=hF
   refine yF ⟨[(7,.own 3 (zB (α:=Pattern) v15)),(8,.own 4 (zB (α:=Pattern) [])),(33,.arr (zA zW p.kids)),(34,.lit (.int .i64 (p.kids.length:Int))),(35,.lit (.int .i64 (i:Int))),(41,.own 1 (zB (α:=Pattern) list)),(42,.lit (.int .i64 (list.length:Int))),(43,.lit (.int .i64 0))],[.dead,.elems 6 (zA zW list),.dead,.elems 6 (zA zW v15),.elems 6 (zA zW [])]⟩ (by refine yH (yK 8 6 (by simp -dsimp)) ?_;exact(gT (by simp) (by simp_all))) ?_
   refine((CC.impl_split__o0_l2 B hB1 hB2 p list i v15) [] 0 o'39 ho38) _ rfl _ ?_
   have hF:=oc hF;obtain⟨c40,hF⟩:=hF
   have w41:i64.wrap ((i:Int)+1)=(i:Int)+1:=ZE (by omega) (by omega)
   refine kx1 w41 ?_
   refine aG ⟨[(4,.own 1 (zB (α:=Pattern) o'39)),(33,.arr (zA zW p.kids)),(34,.lit (.int .i64 (p.kids.length:Int))),(35,.lit (.int .i64 ((i+1):Int)))],[.dead,.elems 6 (zA zW o'39)]⟩ (by refine yH (Gh.swap 1 4 (by decide) (by decide) (by simp) (by simp) (by simp)) ?_;exact(gT (by simp) (by simp_all))) ?_
   exact(ih_impl_split__o0_l1 p o'39 (i+1) o hF) _ rfl _ hq
  ·have z12:¬((i:Int)<(p.kids.length:Int)):=auz
   cases hF
   refine kx3 h10 q11 z12 ?_
   refine zO hq
theorem CC.f182 (list:List Clause):(∀(out:List (List Pattern)) (i:Nat) (o:Lo ((List (List Pattern))×Bool) (List (List Pattern))),F.f182 list out i=some o->∀(c:Code),ZP [1,1,0,1,0,0] (ZG Tryz.f59)=some c->∀(Q:Exit->ASt->Prop),o.post (fun r=>∀st,ZAD zQ Tryz.f59 (fun r' _=>r'.le (.tup [am (cL zW) r.1,.lit (.bool r.2)])) .ret st->Q .ret st) (fun s=>Q (.exit 0) ⟨[(4,.own 0 (zB (α:=List Pattern) s))],[.elems 1 (zA (cL zW) s)]⟩)->ALoopU zQ B 0 25 (hold c .mk) ⟨[(4,.own 0 (zB (α:=List Pattern) out)),(7,am yS list),(8,li (list.length:Int)),(9,li (i:Int))],[.elems 1 (zA (cL zW) out)]⟩ (hold Q .mk)):=by
 refine F.f182.partial_correctness list
  _
  ?_
 ·intro _f_f182 ih_f182 out i o hF
  refine ZI rfl fun Q hq hk hs=> ?_
  have b7:=hk 7
  simp -dsimp at b7
  have d0:=hs 0 _ rfl
  simp -dsimp[zM]at d0
  clear hk hs
  refine eN ?_
  refine kz ?_
  revert hF;refine aS ?_ ?_<;>intro h1 q2 hF
  ·have z3:((i:Int)<(list.length:Int)):=auz
   have hF:=ob hF;obtain⟨x,e4,hF⟩:=hF
   have le4:=ZB e4
   repeat first|refine cg ?_|simp -dsimp[h1,z3,↓e4]
   have hF:=ob hF;obtain⟨v,e5,hF⟩:=hF
   refine(((CC.f174 B hB1 hB2).1 x.pat v e5)).goI ?_
   refine kz ?_
   revert hF;refine aS ?_ ?_<;>intro h6 q7 hF
   ·cases hF
    refine kx1 h6 ?_
    refine lG _ (gR _) (hq _ ?_)
    repeat first|refine cg ?_|simp -dsimp
   ·refine kx1 q7 ?_
    have hF:=ob hF;obtain⟨v8,e9,hF⟩:=hF
    refine(((CC.impl_split__o0 B hB1 hB2).1 x.pat v8 e9)).go (pl [2]) (by simp) (by simp) (by intro i j hi;simp at hi) (by intro i hi hi';simp at hi hi';have hi:i=0:=(by omega);rcases hi with rfl<;>simp[pl]) (by simp_all) (by simp_all) ?_
    have hF:=oc hF;obtain⟨c10,hF⟩:=hF
    have w11:i64.wrap ((i:Int)+1)=(i:Int)+1:=ZE (by omega) (by omega)
    refine kx1 w11 ?_
    refine zN ((ih_f182 (out++[v8]) (i+1) o hF) _ rfl _ hq)
  ·have z3:¬((i:Int)<(list.length:Int)):=auz
   cases hF
   refine kx3 h1 q2 z3 ?_
   refine zO hq
theorem C.f183 (list:List Clause)(r:(List (List Pattern))×Bool)(hF:F.f183 list=some r):PureCall zQ B 59 [am yS list] (.tup [am (cL zW) r.1,.lit (.bool r.2)]):=by
 unfold F.f183 at hF
 refine yR func59 rfl ntmps59 ?_
 refine kz ?_
 have hF:=ob hF;obtain⟨o',ho12,hF⟩:=hF
 refine yF ⟨[(4,.own 0 (zB (α:=List Pattern) [])),(7,.arr (zA yS list)),(8,.lit (.int .i64 (list.length:Int))),(9,.lit (.int .i64 0))],[.elems 1 (zA (cL zW) [])]⟩ (by refine yH (yK 4 1 (by simp -dsimp)) ?_;exact(gT (by simp) (by simp -dsimp))) ?_
 refine((CC.f182 B hB1 hB2 list) [] 0 o' ho12) _ rfl _ ?_
 rcases o' with r0|sx
 ·dsimp only at hF
  cases hF
  intro st h
  simpa using h
 ·dsimp only at hF
  cases hF
  repeat first|refine cg ?_|simp -dsimp
theorem C.f184 (s:List Int)(r:List Int)(hF:F.f184 s=some r):BCall zQ B 93 [] [am cI s] (.own 0 (zB (α:=Int) r)) [.elems 1 (zA cI r)]:=by
 unfold F.f184 at hF
 have hF:=oc hF;obtain⟨c1,hF⟩:=hF
 cases hF
 cases s with
 |nil=>
  refine yX fun a c=> ?_
  cases a
  ·refine yY 1 (by simp) (by simp) ?_
   refine yR func93 rfl ntmps93 ?_
   repeat first|refine cg ?_|simp -dsimp
  ·refine yW func93 (by kernel_rfl) rfl ntmps93 (by simp) rfl (by simp) (by simp) (by simp) (by simp) (by simp) (gR _) ?_
   repeat first|refine cg ?_|simp -dsimp
 |cons x xs=>
  have c1:xs.length+1<=67108864:=by simpa using c1
  refine yW func93 (by kernel_rfl) rfl ntmps93 (by simp) rfl (by simp) (by simp) (by simp) (by simp) (by simp) (gR _) ?_
  repeat first|refine cg ?_|simp -dsimp
theorem CC.impl_tests__g  :(∀(p:Pattern) (path:List Int) (steps':List Step) (binds:List PathBind) (r:(List Step)×(List PathBind)),F.f185 p path steps' binds=some r->BCall zQ B 60 [.cells [.own 2 (zB (α:=Step) steps')],.cells [.own 3 (zB (α:=PathBind) binds)],.elems 8 (zA yZ steps'),.elems 2 (zA xA binds)] [.agg [li p.op,li p.ctor,li p.n,li p.m,li p.var,am zW p.kids],am cI path,.ptr 0 0,.ptr 1 0] (.tup []) [.cells [.own 2 (zB (α:=Step) r.1)],.cells [.own 3 (zB (α:=PathBind) r.2)],.elems 8 (zA yZ r.1),.elems 2 (zA xA r.2)])/\
  (∀(p:Pattern) (path:List Int) (out94:List Step) (out95:List PathBind) (i96:Nat) (o:(List Step)×(List PathBind)),F.f190 p path out94 out95 i96=some o->∀(c:Code),ZP [1,1,1,1,0,0] (ZG Tryz.f60)=some c->∀(Q:Exit->ASt->Prop),(Q (.exit 1) ⟨[],[.cells [.own 2 (zB (α:=Step) o.1)],.cells [.own 3 (zB (α:=PathBind) o.2)],.elems 8 (zA yZ o.1),.elems 2 (zA xA o.2)]⟩)->ALoopU zQ B 4 81 (hold c .mk) ⟨[(1,am cI path),(2,.ptr 0 0),(3,.ptr 1 0),(4,.ptr 4 0),(59,am zW p.kids),(60,li (p.kids.length:Int)),(61,li (i96:Int))],[.cells [.own 2 (zB (α:=Step) out94)],.cells [.own 3 (zB (α:=PathBind) out95)],.elems 8 (zA yZ out94),.elems 2 (zA xA out95),.cells [li p.op,li p.ctor,li p.n,li p.m,li p.var,am zW p.kids]]⟩ (hold Q .mk))/\
  (∀(p:Pattern) (path:List Int) (out73:List Step) (out74:List PathBind) (i75:Nat) (o:(List Step)×(List PathBind)),F.f189 p path out73 out74 i75=some o->∀(c:Code),ZP [1,1,1,1,0,0] (ZG Tryz.f60)=some c->∀(Q:Exit->ASt->Prop),(Q (.exit 1) ⟨[],[.cells [.own 2 (zB (α:=Step) o.1)],.cells [.own 3 (zB (α:=PathBind) o.2)],.elems 8 (zA yZ o.1),.elems 2 (zA xA o.2)]⟩)->ALoopU zQ B 4 81 (hold c .mk) ⟨[(1,am cI path),(2,.ptr 0 0),(3,.ptr 1 0),(4,.ptr 4 0),(59,am zW p.kids),(60,li (p.kids.length:Int)),(61,li (i75:Int))],[.cells [.own 2 (zB (α:=Step) out73)],.cells [.own 3 (zB (α:=PathBind) out74)],.elems 8 (zA yZ out73),.elems 2 (zA xA out74),.cells [li p.op,li p.ctor,li p.n,li p.m,li p.var,am zW p.kids]]⟩ (hold Q .mk))/\
  (∀(p:Pattern) (path:List Int) (out49:List Step) (out50:List PathBind) (i51:Nat) (o:(List Step)×(List PathBind)),F.f188 p path out49 out50 i51=some o->∀(c:Code),ZP [1,1,1,1,0,0] (ZG Tryz.f60)=some c->∀(Q:Exit->ASt->Prop),(Q (.exit 1) ⟨[],[.cells [.own 2 (zB (α:=Step) o.1)],.cells [.own 3 (zB (α:=PathBind) o.2)],.elems 8 (zA yZ o.1),.elems 2 (zA xA o.2)]⟩)->ALoopU zQ B 4 81 (hold c .mk) ⟨[(1,am cI path),(2,.ptr 0 0),(3,.ptr 1 0),(4,.ptr 4 0),(59,am zW p.kids),(60,li (p.kids.length:Int)),(61,li (i51:Int))],[.cells [.own 2 (zB (α:=Step) out49)],.cells [.own 3 (zB (α:=PathBind) out50)],.elems 8 (zA yZ out49),.elems 2 (zA xA out50),.cells [li p.op,li p.ctor,li p.n,li p.m,li p.var,am zW p.kids]]⟩ (hold Q .mk))/\
  (∀(p:Pattern) (path:List Int) (out25:List Step) (out26:List PathBind) (i27:Nat) (o:(List Step)×(List PathBind)),F.f187 p path out25 out26 i27=some o->∀(c:Code),ZP [1,1,1,1,0,0] (ZG Tryz.f60)=some c->∀(Q:Exit->ASt->Prop),(Q (.exit 1) ⟨[],[.cells [.own 2 (zB (α:=Step) o.1)],.cells [.own 3 (zB (α:=PathBind) o.2)],.elems 8 (zA yZ o.1),.elems 2 (zA xA o.2)]⟩)->ALoopU zQ B 4 81 (hold c .mk) ⟨[(1,am cI path),(2,.ptr 0 0),(3,.ptr 1 0),(4,.ptr 4 0),(59,am zW p.kids),(60,li (p.kids.length:Int)),(61,li (i27:Int))],[.cells [.own 2 (zB (α:=Step) out25)],.cells [.own 3 (zB (α:=PathBind) out26)],.elems 8 (zA yZ out25),.elems 2 (zA xA out26),.cells [li p.op,li p.ctor,li p.n,li p.m,li p.var,am zW p.kids]]⟩ (hold Q .mk))/\
  (∀(p:Pattern) (path:List Int) (out:List Step) (out5:List PathBind) (i:Nat) (o:(List Step)×(List PathBind)),F.f186 p path out out5 i=some o->∀(c:Code),ZP [1,1,1,1,0,0] (ZG Tryz.f60)=some c->∀(Q:Exit->ASt->Prop),(Q (.exit 1) ⟨[],[.cells [.own 2 (zB (α:=Step) o.1)],.cells [.own 3 (zB (α:=PathBind) o.2)],.elems 8 (zA yZ o.1),.elems 2 (zA xA o.2)]⟩)->ALoopU zQ B 4 81 (hold c .mk) ⟨[(1,am cI path),(2,.ptr 0 0),(3,.ptr 1 0),(4,.ptr 4 0),(59,am zW p.kids),(60,li (p.kids.length:Int)),(61,li (i:Int))],[.cells [.own 2 (zB (α:=Step) out)],.cells [.own 3 (zB (α:=PathBind) out5)],.elems 8 (zA yZ out),.elems 2 (zA xA out5),.cells [li p.op,li p.ctor,li p.n,li p.m,li p.var,am zW p.kids]]⟩ (hold Q .mk)):=by
 refine F.f185.mutual_partial_correctness 
  _ _ _ _ _ _
  ?_ ?_ ?_ ?_ ?_ ?_
 ·intro _f_impl_tests__g_l5 _f_impl_tests__g_l4 _f_impl_tests__g_l3 _f_impl_tests__g_l2 _f_impl_tests__g_l1 ih_impl_tests__g_l5 ih_impl_tests__g_l4 ih_impl_tests__g_l3 ih_impl_tests__g_l2 ih_impl_tests__g_l1 p path steps' binds r hF
  refine yW func60 (by kernel_rfl) rfl ntmps60 (by simp) rfl (by simp) (by simp) (by simp) (by simp) (by simp) (gR _) ?_
  repeat first|refine cg ?_|simp -dsimp
  have hF:=ob hF;obtain⟨v,e1,hF⟩:=hF
  refine((C.f184 B hB1 hB2 path v e1)).go (pl [5]) (by simp) (by simp) (by intro i j hi;simp at hi) (by intro i hi hi';simp at hi hi';first|omega|(subst hi';simp[pl])) (by simp) (by simp) ?_
  repeat first|refine cg ?_|simp -dsimp
  revert hF;refine aS ?_ ?_<;>intro h2 q3 hF
  ·repeat first|refine cg ?_|simp -dsimp[h2]
   refine yO [1000123] [(0,3),(0,2),(0,2),(0,2),(0,0),(0,0),(0,0),(0,4),(0,4),(0,4),(3,3),(0,4)] [1,1,0,2,1,1,1,1,1,1,1,1] follows ?_
   have hF:=oc hF;obtain⟨c4,hF⟩:=hF
   repeat first|refine cg ?_|simp -dsimp
   have hF:=ob hF;obtain⟨o',ho21,hF⟩:=hF
   refine yG ((ih_impl_tests__g_l1 p path steps' (binds++[(⟨p.var,v⟩:PathBind)]) 0 o' ho21) _ rfl _ ?_)
   cases hF
   repeat first|refine cg ?_|simp -dsimp
   all_goals(try first|omega|rfl|(simp;done)|(simp only[zH,zI]at*;omega)|simp)
  ·repeat first|refine cg ?_|simp -dsimp[q3]
   revert hF;refine aS ?_ ?_<;>intro h22 q23 hF
   ·repeat first|refine cg ?_|simp -dsimp[h22]
    refine yO [1000123] [(0,3),(0,2),(0,2),(0,2),(0,0),(0,0),(0,0),(0,4),(0,4),(0,4),(3,3),(0,4)] [1,1,0,2,1,1,1,1,1,1,1,1] follows ?_
    have hF:=oc hF;obtain⟨c24,hF⟩:=hF
    repeat first|refine cg ?_|simp -dsimp
    have hF:=ob hF;obtain⟨o'45,ho44,hF⟩:=hF
    refine yG ((ih_impl_tests__g_l2 p path steps' (binds++[(⟨p.var,v⟩:PathBind)]) 0 o'45 ho44) _ rfl _ ?_)
    cases hF
    repeat first|refine cg ?_|simp -dsimp
    all_goals(try first|omega|rfl|(simp;done)|(simp only[zH,zI]at*;omega)|simp)
   ·repeat first|refine cg ?_|simp -dsimp[q23]
    revert hF;refine aS ?_ ?_<;>intro h46 q47 hF
    ·repeat first|refine cg ?_|simp -dsimp[h46]
     refine yO [1000090] [(0,3),(0,2),(0,2),(0,2),(0,0),(0,0),(0,0),(0,0),(0,0),(0,4),(0,4),(0,4),(3,3),(0,4)] [1,1,0,2,1,1,1,1,1,1,1,1,1,1] follows ?_
     have hF:=oc hF;obtain⟨c48,hF⟩:=hF
     repeat first|refine cg ?_|simp -dsimp
     have hF:=ob hF;obtain⟨o'69,ho68,hF⟩:=hF
     refine yG ((ih_impl_tests__g_l3 p path (steps'++[(⟨1,v,(-1),p.n,p.m,0,[],0⟩:Step)]) binds 0 o'69 ho68) _ rfl _ ?_)
     cases hF
     repeat first|refine cg ?_|simp -dsimp
     all_goals(try first|omega|rfl|(simp;done)|(simp only[zH,zI]at*;omega)|simp)
    ·repeat first|refine cg ?_|simp -dsimp[q47]
     revert hF;refine aS ?_ ?_<;>intro h70 q71 hF
     ·repeat first|refine cg ?_|simp -dsimp[h70]
      refine yO [1000090] [(0,3),(0,2),(0,2),(0,2),(0,0),(0,0),(0,0),(0,4),(0,4),(0,4),(3,3),(0,4)] [1,1,0,2,1,1,1,1,1,1,1,1] follows ?_
      have hF:=oc hF;obtain⟨c72,hF⟩:=hF
      repeat first|refine cg ?_|simp -dsimp
      have hF:=ob hF;obtain⟨o'93,ho92,hF⟩:=hF
      refine yG ((ih_impl_tests__g_l4 p path (steps'++[(⟨1,v,p.ctor,0,0,0,[],0⟩:Step)]) binds 0 o'93 ho92) _ rfl _ ?_)
      cases hF
      repeat first|refine cg ?_|simp -dsimp
      all_goals(try first|omega|rfl|(simp;done)|(simp only[zH,zI]at*;omega)|simp)
     ·repeat first|refine cg ?_|simp -dsimp[q71]
      have hF:=ob hF;obtain⟨o'114,ho113,hF⟩:=hF
      refine yG ((ih_impl_tests__g_l5 p path steps' binds 0 o'114 ho113) _ rfl _ ?_)
      cases hF
      repeat first|refine cg ?_|simp -dsimp
      all_goals(try first|omega|rfl|(simp;done)|(simp only[zH,zI]at*;omega)|simp)
 ·intro _f_impl_tests__g _f_impl_tests__g_l5 ih_impl_tests__g ih_impl_tests__g_l5 p path out94 out95 i96 o hF
  refine ZI rfl fun Q hq hk hs=> ?_
  have b1:=hk 1
  simp -dsimp at b1
  have b59:=hk 59
  simp -dsimp at b59
  have d2:=hs 2 _ rfl
  simp -dsimp[zM]at d2
  have d3:=hs 3 _ rfl
  simp -dsimp[zM]at d3
  have d4:=hs 4 _ rfl
  simp -dsimp[zM]at d4
  clear hk hs
  refine eN ?_
  repeat first|refine cg ?_|simp -dsimp
  revert hF;refine aS ?_ ?_<;>intro h97 q98 hF
  ·have z99:((i96:Int)<(p.kids.length:Int)):=auz
   have hF:=ob hF;obtain⟨x100,e101,hF⟩:=hF
   have le101:=ZB e101
   repeat first|refine cg ?_|simp -dsimp[h97,z99,↓e101]
   revert hF;refine aS ?_ ?_<;>intro h102 q103 hF
   ·repeat first|refine cg ?_|simp -dsimp[h102]
    have hF:=ob hF;obtain⟨v104,e105,hF⟩:=hF
    refine((C.f184 B hB1 hB2 path v104 e105)).go (pl [6]) (by simp) (by simp) (by intro i j hi;simp at hi) (by intro i hi hi';simp at hi hi';first|omega|(subst hi';simp[pl])) (by simp_all) (by simp_all) ?_
    have hF:=oc hF;obtain⟨c106,hF⟩:=hF
    repeat first|refine cg ?_|simp -dsimp
    have hF:=ob hF;obtain⟨v107,e108,hF⟩:=hF
    refine xB 1 (l:=6) (n:=zB (α:=Int) (v104++[(i96:Int)])) (sz:=1) (es:=zA cI (v104++[(i96:Int)])) (by simp) (by simp) (by simp) (by simp) ?_
    repeat first|refine cg ?_|simp -dsimp
    refine((ih_impl_tests__g x100 (v104++[(i96:Int)]) out94 out95 v107 e108)).go (pl [0,1,2,3]) (by simp) (by simp) (Zz _ rfl (by decide)) (by intro i hi hi';simp at hi hi';omega) (by simp_all) (by simp_all) ?_
    have w109:i64.wrap ((i96:Int)+1)=(i96:Int)+1:=ZE (by omega) (by omega)
    repeat first|refine cg ?_|simp -dsimp[w109]
    refine zN ((ih_impl_tests__g_l5 p path v107.1 v107.2 (i96+1) o hF) _ rfl _ hq)
   ·repeat first|refine cg ?_|simp -dsimp[q103]
    have hF:=ob hF;obtain⟨v110,e111,hF⟩:=hF
    refine((ih_impl_tests__g x100 path out94 out95 v110 e111)).go (pl [0,1,2,3]) (by simp) (by simp) (Zz _ rfl (by decide)) (by intro i hi hi';simp at hi hi';omega) (by simp_all) (by simp_all) ?_
    have w112:i64.wrap ((i96:Int)+1)=(i96:Int)+1:=ZE (by omega) (by omega)
    repeat first|refine cg ?_|simp -dsimp[w112]
    refine zN ((ih_impl_tests__g_l5 p path v110.1 v110.2 (i96+1) o hF) _ rfl _ hq)
  ·have z99:¬((i96:Int)<(p.kids.length:Int)):=auz
   cases hF
   repeat first|refine cg ?_|simp -dsimp[h97,q98,z99]
   refine zO hq
 ·intro _f_impl_tests__g _f_impl_tests__g_l4 ih_impl_tests__g ih_impl_tests__g_l4 p path out73 out74 i75 o hF
  refine ZI rfl fun Q hq hk hs=> ?_
  have b1:=hk 1
  simp -dsimp at b1
  have b59:=hk 59
  simp -dsimp at b59
  have d2:=hs 2 _ rfl
  simp -dsimp[zM]at d2
  have d3:=hs 3 _ rfl
  simp -dsimp[zM]at d3
  have d4:=hs 4 _ rfl
  simp -dsimp[zM]at d4
  clear hk hs
  refine eN ?_
  repeat first|refine cg ?_|simp -dsimp
  revert hF;refine aS ?_ ?_<;>intro h76 q77 hF
  ·have z78:((i75:Int)<(p.kids.length:Int)):=auz
   have hF:=ob hF;obtain⟨x79,e80,hF⟩:=hF
   have le80:=ZB e80
   repeat first|refine cg ?_|simp -dsimp[h76,z78,↓e80]
   revert hF;refine aS ?_ ?_<;>intro h81 q82 hF
   ·repeat first|refine cg ?_|simp -dsimp[h81]
    have hF:=ob hF;obtain⟨v83,e84,hF⟩:=hF
    refine((C.f184 B hB1 hB2 path v83 e84)).go (pl [6]) (by simp) (by simp) (by intro i j hi;simp at hi) (by intro i hi hi';simp at hi hi';first|omega|(subst hi';simp[pl])) (by simp_all) (by simp_all) ?_
    have hF:=oc hF;obtain⟨c85,hF⟩:=hF
    repeat first|refine cg ?_|simp -dsimp
    have hF:=ob hF;obtain⟨v86,e87,hF⟩:=hF
    refine xB 1 (l:=6) (n:=zB (α:=Int) (v83++[(i75:Int)])) (sz:=1) (es:=zA cI (v83++[(i75:Int)])) (by simp) (by simp) (by simp) (by simp) ?_
    repeat first|refine cg ?_|simp -dsimp
    refine((ih_impl_tests__g x79 (v83++[(i75:Int)]) out73 out74 v86 e87)).go (pl [0,1,2,3]) (by simp) (by simp) (Zz _ rfl (by decide)) (by intro i hi hi';simp at hi hi';omega) (by simp_all) (by simp_all) ?_
    have w88:i64.wrap ((i75:Int)+1)=(i75:Int)+1:=ZE (by omega) (by omega)
    repeat first|refine cg ?_|simp -dsimp[w88]
    refine zN ((ih_impl_tests__g_l4 p path v86.1 v86.2 (i75+1) o hF) _ rfl _ hq)
   ·repeat first|refine cg ?_|simp -dsimp[q82]
    have hF:=ob hF;obtain⟨v89,e90,hF⟩:=hF
    refine((ih_impl_tests__g x79 path out73 out74 v89 e90)).go (pl [0,1,2,3]) (by simp) (by simp) (Zz _ rfl (by decide)) (by intro i hi hi';simp at hi hi';omega) (by simp_all) (by simp_all) ?_
    have w91:i64.wrap ((i75:Int)+1)=(i75:Int)+1:=ZE (by omega) (by omega)
    repeat first|refine cg ?_|simp -dsimp[w91]
    refine zN ((ih_impl_tests__g_l4 p path v89.1 v89.2 (i75+1) o hF) _ rfl _ hq)
  ·have z78:¬((i75:Int)<(p.kids.length:Int)):=auz
   cases hF
   repeat first|refine cg ?_|simp -dsimp[h76,q77,z78]
   refine zO hq
 ·intro _f_impl_tests__g _f_impl_tests__g_l3 ih_impl_tests__g ih_impl_tests__g_l3 p path out49 out50 i51 o hF
  refine ZI rfl fun Q hq hk hs=> ?_
  have b1:=hk 1
  simp -dsimp at b1
  have b59:=hk 59
  simp -dsimp at b59
  have d2:=hs 2 _ rfl
  simp -dsimp[zM]at d2
  have d3:=hs 3 _ rfl
  simp -dsimp[zM]at d3
  have d4:=hs 4 _ rfl
  simp -dsimp[zM]at d4
  clear hk hs
  refine eN ?_
  repeat first|refine cg ?_|simp -dsimp
  revert hF;refine aS ?_ ?_<;>intro h52 q53 hF
  ·have z54:((i51:Int)<(p.kids.length:Int)):=auz
   have hF:=ob hF;obtain⟨x55,e56,hF⟩:=hF
   have le56:=ZB e56
   repeat first|refine cg ?_|simp -dsimp[h52,z54,↓e56]
   revert hF;refine aS ?_ ?_<;>intro h57 q58 hF
   ·repeat first|refine cg ?_|simp -dsimp[h57]
    have hF:=ob hF;obtain⟨v59,e60,hF⟩:=hF
    refine((C.f184 B hB1 hB2 path v59 e60)).go (pl [6]) (by simp) (by simp) (by intro i j hi;simp at hi) (by intro i hi hi';simp at hi hi';first|omega|(subst hi';simp[pl])) (by simp_all) (by simp_all) ?_
    have hF:=oc hF;obtain⟨c61,hF⟩:=hF
    repeat first|refine cg ?_|simp -dsimp
    have hF:=ob hF;obtain⟨v62,e63,hF⟩:=hF
    refine xB 1 (l:=6) (n:=zB (α:=Int) (v59++[(i51:Int)])) (sz:=1) (es:=zA cI (v59++[(i51:Int)])) (by simp) (by simp) (by simp) (by simp) ?_
    repeat first|refine cg ?_|simp -dsimp
    refine((ih_impl_tests__g x55 (v59++[(i51:Int)]) out49 out50 v62 e63)).go (pl [0,1,2,3]) (by simp) (by simp) (Zz _ rfl (by decide)) (by intro i hi hi';simp at hi hi';omega) (by simp_all) (by simp_all) ?_
    have w64:i64.wrap ((i51:Int)+1)=(i51:Int)+1:=ZE (by omega) (by omega)
    repeat first|refine cg ?_|simp -dsimp[w64]
    refine zN ((ih_impl_tests__g_l3 p path v62.1 v62.2 (i51+1) o hF) _ rfl _ hq)
   ·repeat first|refine cg ?_|simp -dsimp[q58]
    have hF:=ob hF;obtain⟨v65,e66,hF⟩:=hF
    refine((ih_impl_tests__g x55 path out49 out50 v65 e66)).go (pl [0,1,2,3]) (by simp) (by simp) (Zz _ rfl (by decide)) (by intro i hi hi';simp at hi hi';omega) (by simp_all) (by simp_all) ?_
    have w67:i64.wrap ((i51:Int)+1)=(i51:Int)+1:=ZE (by omega) (by omega)
    repeat first|refine cg ?_|simp -dsimp[w67]
    refine zN ((ih_impl_tests__g_l3 p path v65.1 v65.2 (i51+1) o hF) _ rfl _ hq)
  ·have z54:¬((i51:Int)<(p.kids.length:Int)):=auz
   cases hF
   repeat first|refine cg ?_|simp -dsimp[h52,q53,z54]
   refine zO hq
 ·intro _f_impl_tests__g _f_impl_tests__g_l2 ih_impl_tests__g ih_impl_tests__g_l2 p path out25 out26 i27 o hF
  refine ZI rfl fun Q hq hk hs=> ?_
  have b1:=hk 1
  simp -dsimp at b1
  have b59:=hk 59
  simp -dsimp at b59
  have d2:=hs 2 _ rfl
  simp -dsimp[zM]at d2
  have d3:=hs 3 _ rfl
  simp -dsimp[zM]at d3
  have d4:=hs 4 _ rfl
  simp -dsimp[zM]at d4
  clear hk hs
  refine eN ?_
  repeat first|refine cg ?_|simp -dsimp
  revert hF;refine aS ?_ ?_<;>intro h28 q29 hF
  ·have z30:((i27:Int)<(p.kids.length:Int)):=auz
   have hF:=ob hF;obtain⟨x31,e32,hF⟩:=hF
   have le32:=ZB e32
   repeat first|refine cg ?_|simp -dsimp[h28,z30,↓e32]
   revert hF;refine aS ?_ ?_<;>intro h33 q34 hF
   ·repeat first|refine cg ?_|simp -dsimp[h33]
    have hF:=ob hF;obtain⟨v35,e36,hF⟩:=hF
    refine((C.f184 B hB1 hB2 path v35 e36)).go (pl [6]) (by simp) (by simp) (by intro i j hi;simp at hi) (by intro i hi hi';simp at hi hi';first|omega|(subst hi';simp[pl])) (by simp_all) (by simp_all) ?_
    have hF:=oc hF;obtain⟨c37,hF⟩:=hF
    repeat first|refine cg ?_|simp -dsimp
    have hF:=ob hF;obtain⟨v38,e39,hF⟩:=hF
    refine xB 1 (l:=6) (n:=zB (α:=Int) (v35++[(i27:Int)])) (sz:=1) (es:=zA cI (v35++[(i27:Int)])) (by simp) (by simp) (by simp) (by simp) ?_
    repeat first|refine cg ?_|simp -dsimp
    refine((ih_impl_tests__g x31 (v35++[(i27:Int)]) out25 out26 v38 e39)).go (pl [0,1,2,3]) (by simp) (by simp) (Zz _ rfl (by decide)) (by intro i hi hi';simp at hi hi';omega) (by simp_all) (by simp_all) ?_
    have w40:i64.wrap ((i27:Int)+1)=(i27:Int)+1:=ZE (by omega) (by omega)
    repeat first|refine cg ?_|simp -dsimp[w40]
    refine zN ((ih_impl_tests__g_l2 p path v38.1 v38.2 (i27+1) o hF) _ rfl _ hq)
   ·repeat first|refine cg ?_|simp -dsimp[q34]
    have hF:=ob hF;obtain⟨v41,e42,hF⟩:=hF
    refine((ih_impl_tests__g x31 path out25 out26 v41 e42)).go (pl [0,1,2,3]) (by simp) (by simp) (Zz _ rfl (by decide)) (by intro i hi hi';simp at hi hi';omega) (by simp_all) (by simp_all) ?_
    have w43:i64.wrap ((i27:Int)+1)=(i27:Int)+1:=ZE (by omega) (by omega)
    repeat first|refine cg ?_|simp -dsimp[w43]
    refine zN ((ih_impl_tests__g_l2 p path v41.1 v41.2 (i27+1) o hF) _ rfl _ hq)
  ·have z30:¬((i27:Int)<(p.kids.length:Int)):=auz
   cases hF
   repeat first|refine cg ?_|simp -dsimp[h28,q29,z30]
   refine zO hq
 ·intro _f_impl_tests__g _f_impl_tests__g_l1 ih_impl_tests__g ih_impl_tests__g_l1 p path out out5 i o hF
  refine ZI rfl fun Q hq hk hs=> ?_
  have b1:=hk 1
  simp -dsimp at b1
  have b59:=hk 59
  simp -dsimp at b59
  have d2:=hs 2 _ rfl
  simp -dsimp[zM]at d2
  have d3:=hs 3 _ rfl
  simp -dsimp[zM]at d3
  have d4:=hs 4 _ rfl
  simp -dsimp[zM]at d4
  clear hk hs
  refine eN ?_
  repeat first|refine cg ?_|simp -dsimp
  revert hF;refine aS ?_ ?_<;>intro h6 q7 hF
  ·have z8:((i:Int)<(p.kids.length:Int)):=auz
   have hF:=ob hF;obtain⟨x,e9,hF⟩:=hF
   have le9:=ZB e9
   repeat first|refine cg ?_|simp -dsimp[h6,z8,↓e9]
   revert hF;refine aS ?_ ?_<;>intro h10 q11 hF
   ·repeat first|refine cg ?_|simp -dsimp[h10]
    have hF:=ob hF;obtain⟨v12,e13,hF⟩:=hF
    refine((C.f184 B hB1 hB2 path v12 e13)).go (pl [6]) (by simp) (by simp) (by intro i j hi;simp at hi) (by intro i hi hi';simp at hi hi';first|omega|(subst hi';simp[pl])) (by simp_all) (by simp_all) ?_
    have hF:=oc hF;obtain⟨c14,hF⟩:=hF
    repeat first|refine cg ?_|simp -dsimp
    have hF:=ob hF;obtain⟨v15,e16,hF⟩:=hF
    refine xB 1 (l:=6) (n:=zB (α:=Int) (v12++[(i:Int)])) (sz:=1) (es:=zA cI (v12++[(i:Int)])) (by simp) (by simp) (by simp) (by simp) ?_
    repeat first|refine cg ?_|simp -dsimp
    refine((ih_impl_tests__g x (v12++[(i:Int)]) out out5 v15 e16)).go (pl [0,1,2,3]) (by simp) (by simp) (Zz _ rfl (by decide)) (by intro i hi hi';simp at hi hi';omega) (by simp_all) (by simp_all) ?_
    have w17:i64.wrap ((i:Int)+1)=(i:Int)+1:=ZE (by omega) (by omega)
    repeat first|refine cg ?_|simp -dsimp[w17]
    refine zN ((ih_impl_tests__g_l1 p path v15.1 v15.2 (i+1) o hF) _ rfl _ hq)
   ·repeat first|refine cg ?_|simp -dsimp[q11]
    have hF:=ob hF;obtain⟨v18,e19,hF⟩:=hF
    refine((ih_impl_tests__g x path out out5 v18 e19)).go (pl [0,1,2,3]) (by simp) (by simp) (Zz _ rfl (by decide)) (by intro i hi hi';simp at hi hi';omega) (by simp_all) (by simp_all) ?_
    have w20:i64.wrap ((i:Int)+1)=(i:Int)+1:=ZE (by omega) (by omega)
    repeat first|refine cg ?_|simp -dsimp[w20]
    refine zN ((ih_impl_tests__g_l1 p path v18.1 v18.2 (i+1) o hF) _ rfl _ hq)
  ·have z8:¬((i:Int)<(p.kids.length:Int)):=auz
   cases hF
   repeat first|refine cg ?_|simp -dsimp[h6,q7,z8]
   refine zO hq
theorem C.f191 (x:List PathBind)(r:List PathBind)(hF:F.f191 x=some r):BCall zQ B 61 [.elems 2 (zA xA x)] [.own 0 (zB (α:=PathBind) x),.fn (.func 62) [] []] (.tup []) [.elems 2 (zA xA r)]:=by
 unfold F.f191 at hF
 have hF:=oc hF;obtain⟨c1,hF⟩:=hF
 cases hF
 exact ZIe (c:=xA) (key:=fun x=>x.var) Tryz.sort61 ⟨Tryz.f61,func61,by kernel_rfl,by kernel_rfl⟩ Tryz.isAgg123 Tryz.sizeOf123 (enters_of func62 (by kernel_rfl) rfl) Tryz.cmpK62 x (fun x=>⟨_,rfl,rfl⟩) (by simp) c1.1 c1.2
theorem CC.f192 (v4:(List (List Pattern))×Bool)(out:List Step)(i:Nat)(x:List Pattern)(i13:Nat)(v21:List PathBind):(∀(out24:List Step) (k:Nat) (o:List Step),F.f192 v4 out i x i13 v21 out24 k=some o->∀(c:Code),ZP [1,1,1,1,1,0,1,0,0,1,1,0,0,1,1,0,1,0,0,1,1,0,0,1,1,1,1,1,0,1,0,0] (ZG Tryz.f31)=some c->∀(Q:Exit->ASt->Prop),(Q (.exit 4) ⟨[(10,.ptr 1 0),(11,li (i:Int)),(13,li (out.length:Int)),(17,.ptr 4 0),(32,am (cL zW) v4.1),(33,li (v4.1.length:Int)),(34,li (i:Int)),(41,am zW x),(42,li (x.length:Int)),(43,li (i13:Int))],[.dead,.cells [.own 2 (zB (α:=Step) o)],.elems 8 (zA yZ o),.dead,.cells [.own 5 (zB (α:=PathBind) v21)],.elems 2 (zA xA v21)]⟩)->ALoopU zQ B 0 98 (hold c .mk) ⟨[(10,.ptr 1 0),(11,li (i:Int)),(13,li (out.length:Int)),(17,.ptr 4 0),(18,li (k:Int)),(32,am (cL zW) v4.1),(33,li (v4.1.length:Int)),(34,li (i:Int)),(41,am zW x),(42,li (x.length:Int)),(43,li (i13:Int))],[.dead,.cells [.own 2 (zB (α:=Step) out24)],.elems 8 (zA yZ out24),.dead,.cells [.own 5 (zB (α:=PathBind) v21)],.elems 2 (zA xA v21)]⟩ (hold Q .mk)):=by
 refine F.f192.partial_correctness v4 out i x i13 v21
  _
  ?_
 ·intro _f_f192 ih_f192 out24 k o hF
  refine ZI rfl fun Q hq hk hs=> ?_
  have b32:=hk 32
  simp -dsimp at b32
  have b41:=hk 41
  simp -dsimp at b41
  have d2:=hs 2 _ rfl
  simp -dsimp[zM]at d2
  have d5:=hs 5 _ rfl
  simp -dsimp[zM]at d5
  clear hk hs
  refine eN ?_
  refine kz ?_
  revert hF;refine aS ?_ ?_<;>intro h25 q26 hF
  ·have z27:((k:Int)<(out24.length:Int)):=auz
   have hF:=oc hF;obtain⟨c28,hF⟩:=hF
   have w29:i64.wrap ((out24.length:Int)+1)=(out24.length:Int)+1:=ZE (by omega) (by omega)
   have hF:=ob hF;obtain⟨x30,e31,hF⟩:=hF
   have le31:=ZB e31
   have w32:i64.wrap ((k:Int)+1)=(k:Int)+1:=ZE (by omega) (by omega)
   repeat first|refine cg ?_|simp -dsimp[h25,z27,w29,↓e31,w32]
   refine zN ((ih_f192 (out24.set k (⟨x30.op,x30.path,x30.ctor,x30.n,x30.m,x30.clause,x30.binds,((out24.length+1:Nat):Int)⟩:Step)) (k+1) o hF) _ rfl _ hq)
  ·have z27:¬((k:Int)<(out24.length:Int)):=auz
   cases hF
   refine kx3 h25 q26 z27 ?_
   refine zO hq
theorem CC.f193 (v4:(List (List Pattern))×Bool)(out:List Step)(i:Nat)(x:List Pattern):(∀(out12:List Step) (i13:Nat) (o:List Step),F.f193 v4 out i x out12 i13=some o->∀(c:Code),ZP [1,1,1,1,1,0,1,0,0,1,1,0,0,1,1,0,1,0,0] (ZG Tryz.f31)=some c->∀(Q:Exit->ASt->Prop),(Q (.exit 2) ⟨[(10,.ptr 1 0),(13,li (out.length:Int)),(32,am (cL zW) v4.1),(33,li (v4.1.length:Int)),(34,li (i:Int))],[.dead,.cells [.own 2 (zB (α:=Step) o)],.elems 8 (zA yZ o)]⟩)->ALoopU zQ B 0 98 (hold c .mk) ⟨[(10,.ptr 1 0),(11,li (i:Int)),(13,li (out.length:Int)),(32,am (cL zW) v4.1),(33,li (v4.1.length:Int)),(34,li (i:Int)),(41,am zW x),(42,li (x.length:Int)),(43,li (i13:Int))],[.dead,.cells [.own 2 (zB (α:=Step) out12)],.elems 8 (zA yZ out12)]⟩ (hold Q .mk)):=by
 refine F.f193.partial_correctness v4 out i x
  _
  ?_
 ·intro _f_f193 ih_f193 out12 i13 o hF
  refine ZI rfl fun Q hq hk hs=> ?_
  have b32:=hk 32
  simp -dsimp at b32
  have b41:=hk 41
  simp -dsimp at b41
  have d2:=hs 2 _ rfl
  simp -dsimp[zM]at d2
  clear hk hs
  refine eN ?_
  refine kz ?_
  revert hF;refine aS ?_ ?_<;>intro h14 q15 hF
  ·have z16:((i13:Int)<(x.length:Int)):=auz
   have hF:=ob hF;obtain⟨x17,e18,hF⟩:=hF
   have le18:=ZB e18
   repeat first|refine cg ?_|simp -dsimp[h14,z16,↓e18]
   have hF:=ob hF;obtain⟨v19,e20,hF⟩:=hF
   refine ACall.nilCell 4 0 2 (cs:=[.lit (.slice none 0 0)]) (by simp) (by simp) ?_
   refine kz ?_
   refine(((CC.impl_tests__g B hB1 hB2).1 x17 [] out12 [] v19 e20)).go (pl [1,4,2,5]) (by simp) (by simp) (Zz _ rfl (by decide)) (by intro i hi hi';simp at hi hi';omega) (by simp_all) (by simp_all) ?_
   refine kz ?_
   have hF:=ob hF;obtain⟨v21,e22,hF⟩:=hF
   have sl23:zB (α:=PathBind) v19.2=zB (α:=PathBind) v21:=ZLD (key:=fun x=>x.var) (by unfold F.f191 at e22;exact e22)
   refine((C.f191 B hB1 hB2 v19.2 v21 e22)).go (pl [5]) (by simp) (by simp) (Zz _ rfl (by decide)) (by intro i hi hi';simp at hi hi';first|omega|(subst hi';simp[pl])) (by simp_all) (by simp_all) ?_
   refine kx1 sl23 ?_
   have hF:=ob hF;obtain⟨o',ho33,hF⟩:=hF
   refine yG (((CC.f192 B hB1 hB2 v4 out i x i13 v21) v19.1 out12.length o' ho33) _ rfl _ ?_)
   have hF:=oc hF;obtain⟨c34,hF⟩:=hF
   have hF:=oc hF;obtain⟨c35,hF⟩:=hF
   have w36:i64.wrap ((i13:Int)+1)=(i13:Int)+1:=ZE (by omega) (by omega)
   refine kx1 w36 ?_
   refine zN ((ih_f193 (o'++[(⟨2,[],0,0,0,(i:Int),v21,0⟩:Step)]) (i13+1) o hF) _ rfl _ hq)
  ·have z16:¬((i13:Int)<(x.length:Int)):=auz
   cases hF
   refine kx3 h14 q15 z16 ?_
   refine zO hq
theorem CC.f194 (v4:(List (List Pattern))×Bool)(i:Nat):(∀(out39:List Step) (k40:Nat) (o:List Step),F.f194 v4 i out39 k40=some o->∀(c:Code),ZP [1,1,1,1,1,0,1,0,0,1,1,0,0,1,1,1,1,0,0] (ZG Tryz.f31)=some c->∀(Q:Exit->ASt->Prop),(Q (.exit 6) ⟨[(10,.ptr 1 0),(32,am (cL zW) v4.1),(33,li (v4.1.length:Int)),(34,li (i:Int))],[.dead,.cells [.own 2 (zB (α:=Step) o)],.elems 8 (zA yZ o)]⟩)->ALoopU zQ B 0 98 (hold c .mk) ⟨[(10,.ptr 1 0),(19,li (k40:Int)),(32,am (cL zW) v4.1),(33,li (v4.1.length:Int)),(34,li (i:Int))],[.dead,.cells [.own 2 (zB (α:=Step) out39)],.elems 8 (zA yZ out39)]⟩ (hold Q .mk)):=by
 refine F.f194.partial_correctness v4 i
  _
  ?_
 ·intro _f_f194 ih_f194 out39 k40 o hF
  refine ZI rfl fun Q hq hk hs=> ?_
  have b32:=hk 32
  simp -dsimp at b32
  have d2:=hs 2 _ rfl
  simp -dsimp[zM]at d2
  clear hk hs
  refine eN ?_
  refine kz ?_
  revert hF;refine aS ?_ ?_<;>intro h41 q42 hF
  ·have z43:((k40:Int)<(out39.length:Int)):=auz
   have hF:=ob hF;obtain⟨x44,e45,hF⟩:=hF
   have le45:=ZB e45
   repeat first|refine cg ?_|simp -dsimp[h41,z43,↓e45]
   revert hF;refine aS ?_ ?_<;>intro h46 q47 hF
   ·have w48:i64.wrap ((k40:Int)+1)=(k40:Int)+1:=ZE (by omega) (by omega)
    refine kx2 h46 w48 ?_
    refine zN ((ih_f194 (out39.set k40 (⟨x44.op,x44.path,x44.ctor,x44.n,x44.m,x44.clause,x44.binds,(out39.length:Int)⟩:Step)) (k40+1) o hF) _ rfl _ hq)
   ·have w49:i64.wrap ((k40:Int)+1)=(k40:Int)+1:=ZE (by omega) (by omega)
    refine kx3 h46 q47 w49 ?_
    refine zN ((ih_f194 out39 (k40+1) o hF) _ rfl _ hq)
  ·have z43:¬((k40:Int)<(out39.length:Int)):=auz
   cases hF
   refine kx3 h41 q42 z43 ?_
   refine zO hq
theorem CC.f195 (v4:(List (List Pattern))×Bool):(∀(out:List Step) (i:Nat) (o:List Step),F.f195 v4 out i=some o->∀(c:Code),ZP [1,1,1,1,1,0,1,0,0] (ZG Tryz.f31)=some c->∀(Q:Exit->ASt->Prop),(Q (.exit 0) ⟨[(10,.ptr 1 0)],[.dead,.cells [.own 2 (zB (α:=Step) o)],.elems 8 (zA yZ o)]⟩)->ALoopU zQ B 0 98 (hold c .mk) ⟨[(10,.ptr 1 0),(32,am (cL zW) v4.1),(33,li (v4.1.length:Int)),(34,li (i:Int))],[.dead,.cells [.own 2 (zB (α:=Step) out)],.elems 8 (zA yZ out)]⟩ (hold Q .mk)):=by
 refine F.f195.partial_correctness v4
  _
  ?_
 ·intro _f_f195 ih_f195 out i o hF
  refine ZI rfl fun Q hq hk hs=> ?_
  have b32:=hk 32
  simp -dsimp at b32
  have d2:=hs 2 _ rfl
  simp -dsimp[zM]at d2
  clear hk hs
  refine eN ?_
  refine kz ?_
  revert hF;refine aS ?_ ?_<;>intro h8 q9 hF
  ·have z10:((i:Int)<(v4.1.length:Int)):=auz
   have hF:=ob hF;obtain⟨x,e11,hF⟩:=hF
   have le11:=ZB e11
   repeat first|refine cg ?_|simp -dsimp[h8,z10,↓e11]
   have hF:=ob hF;obtain⟨o'38,ho37,hF⟩:=hF
   refine yG (((CC.f193 B hB1 hB2 v4 out i x) out 0 o'38 ho37) _ rfl _ ?_)
   refine kz ?_
   have hF:=ob hF;obtain⟨o'51,ho50,hF⟩:=hF
   refine yG (((CC.f194 B hB1 hB2 v4 i) o'38 out.length o'51 ho50) _ rfl _ ?_)
   have hF:=oc hF;obtain⟨c52,hF⟩:=hF
   have w53:i64.wrap ((i:Int)+1)=(i:Int)+1:=ZE (by omega) (by omega)
   refine kx1 w53 ?_
   refine zN ((ih_f195 o'51 (i+1) o hF) _ rfl _ hq)
  ·have z10:¬((i:Int)<(v4.1.length:Int)):=auz
   cases hF
   refine kx3 h8 q9 z10 ?_
   refine zO hq
theorem C.f196 (w:List zP)(t:Ty)(list:List Clause)(r:(List Step)×Bool)(hF:F.f196 w t list=some r):PureCall zQ B 31 [am zR w,.agg [li t.data,li t.index],am yS list] (.tup [am yZ r.1,.lit (.bool r.2)]):=by
 unfold F.f196 at hF
 refine yR func31 rfl ntmps31 ?_
 refine kz ?_
 have hF:=ob hF;obtain⟨v,e1,hF⟩:=hF
 refine((C.f173 B hB1 hB2 w t list v e1)).goI ?_
 refine kz ?_
 revert hF;refine aN (fun h2 q3 hF=> ?_) (fun h2 q3 hF=> ?_)
 ·cases hF
  repeat first|refine cg ?_|simp -dsimp[h2,q3]
 ·refine kz ?_
  have hF:=ob hF;obtain⟨v4,e5,hF⟩:=hF
  refine((C.f183 B hB1 hB2 list v4 e5)).goI ?_
  refine kz ?_
  revert hF;refine aN (fun h6 q7 hF=> ?_) (fun h6 q7 hF=> ?_)
  ·cases hF
   repeat first|refine cg ?_|simp -dsimp[h6,q7]
  ·refine kz ?_
   have hF:=ob hF;obtain⟨o'55,ho54,hF⟩:=hF
   refine yF ⟨[(10,.ptr 1 0),(32,.arr (zA (cL zW) v4.1)),(33,.lit (.int .i64 (v4.1.length:Int))),(34,.lit (.int .i64 0))],[.dead,.cells [.own 2 (zB (α:=Step) [])],.elems 8 (zA yZ [])]⟩ (by refine yH (yL 1 0 8 (by simp -dsimp;rfl) (by simp -dsimp)) ?_;exact(gT (by simp) (by simp_all))) ?_
   refine((CC.f195 B hB1 hB2 v4) [] 0 o'55 ho54) _ rfl _ ?_
   have hF:=oc hF;obtain⟨c56,hF⟩:=hF
   cases hF
   repeat first|refine cg ?_|simp -dsimp
theorem CC.f197 (w:List zP)(holes:Bool):(∀(t:Ty) (v:Vl.Value) (deep:Int) (count:Int) (r:Bool×Int),F.f197 w t v deep holes count=some r->MutCall zQ B 64 [li count] [am zR w,.agg [li t.data,li t.index],.agg [li v.ctor,li v.n,am Vl.Value.c v.kids],li deep,.lit (.bool holes),.ptr 0 0] (.lit (.bool r.1)) [li r.2])/\
  (∀(v:Vl.Value) (deep:Int) (v60:List Ty) (z65:Int) (i66:Nat) (o:Lo (Bool×Int) Int),F.f199 w v deep holes v60 z65 i66=some o->∀(c:Code),ZP [1,1,1,1,1,1,0,1,0,0] (ZG Tryz.f64)=some c->∀(Q:Exit->ASt->Prop),o.post (fun r=>∀st,ZAD zQ Tryz.f64 (fun r' σ'=>r'.le (.lit (.bool r.1))/\ZBx σ' [li r.2]) .ret st->Q .ret st) (fun s=>Q (.exit 1) ⟨[],[.cells [li s]]⟩)->ALoopU zQ B 1 108 (hold c .mk) ⟨[(0,am zR w),(3,li deep),(4,.lit (.bool holes)),(5,.ptr 0 0),(13,am yC v60),(88,am Vl.Value.c v.kids),(89,li (v.kids.length:Int)),(90,li (i66:Int))],[.cells [li z65]]⟩ (hold Q .mk))/\
  (∀(v:Vl.Value) (deep:Int) (v27:List Ty) (z:Int) (i:Nat) (o:Lo (Bool×Int) Int),F.f198 w v deep holes v27 z i=some o->∀(c:Code),ZP [1,1,1,1,1,1,0,1,0,0] (ZG Tryz.f64)=some c->∀(Q:Exit->ASt->Prop),o.post (fun r=>∀st,ZAD zQ Tryz.f64 (fun r' σ'=>r'.le (.lit (.bool r.1))/\ZBx σ' [li r.2]) .ret st->Q .ret st) (fun s=>Q (.exit 1) ⟨[],[.cells [li s]]⟩)->ALoopU zQ B 1 108 (hold c .mk) ⟨[(0,am zR w),(3,li deep),(4,.lit (.bool holes)),(5,.ptr 0 0),(13,am yC v27),(88,am Vl.Value.c v.kids),(89,li (v.kids.length:Int)),(90,li (i:Int))],[.cells [li z]]⟩ (hold Q .mk)):=by
 refine F.f197.mutual_partial_correctness w holes
  _ _ _
  ?_ ?_ ?_
 ·intro _f_f199 _f_f198 ih_f199 ih_f198 t v deep count r hF
  refine MutCall.inn func64 rfl ntmps64 ?_
  refine kz ?_
  revert hF;refine aN ?_ ?_<;>intro h1 q2 hF
  ·refine kx2 h1 q2 ?_
   revert hF;refine aS ?_ ?_<;>intro h3 q4 hF
   ·cases hF
    repeat first|refine cg ?_|simp -dsimp[h1,q2,h3]
   ·refine kx4 h1 q2 h3 q4 ?_
    revert hF;refine aS (fun h5 q6 hF=> ?_) (fun h5 q6 hF=> ?_)
    ·refine kx5 h1 q2 h3 q4 h5 ?_
     revert hF;refine aS ?_ ?_<;>intro h7 q8 hF
     ·refine kx6 h1 q2 h3 q4 h5 h7 ?_
      revert hF;refine aS ?_ ?_<;>intro h9 q10 hF
      ·cases hF
       repeat first|refine cg ?_|simp -dsimp[h1,q2,h3,q4,h5,h7,h9]
      ·cases hF
       repeat first|refine cg ?_|simp -dsimp[h1,q2,h3,q4,h5,h7,h9,q10]
     ·refine kx7 h1 q2 h3 q4 h5 h7 q8 ?_
      revert hF;refine aS ?_ ?_<;>intro h11 q12 hF
      ·refine kx8 h1 q2 h3 q4 h5 h7 q8 h11 ?_
       revert hF;refine aS ?_ ?_<;>intro h13 q14 hF
       ·refine kx9 h1 q2 h3 q4 h5 h7 q8 h11 h13 ?_
        have hF:=ob hF;obtain⟨v15,e16,hF⟩:=hF
        refine((C.f126 B hB1 hB2 v.n 0 9 v15 e16)).goI ?_
        refine kx9 h1 q2 h3 q4 h5 h7 q8 h11 h13 ?_
        revert hF;refine aS (fun h17 q18 hF=> ?_) (fun h17 q18 hF=> ?_)
        ·cases hF
         repeat first|refine cg ?_|simp -dsimp[h1,q2,h3,q4,h5,h7,q8,h11,h13,h17]
        ·cases hF
         repeat first|refine cg ?_|simp -dsimp[h1,q2,h3,q4,h5,h7,q8,h11,h13,h17,q18]
       ·cases hF
        repeat first|refine cg ?_|simp -dsimp[h1,q2,h3,q4,h5,h7,q8,h11,h13,q14]
      ·refine kx9 h1 q2 h3 q4 h5 h7 q8 h11 q12 ?_
       refine yN follows ?_
       refine kx9 h1 q2 h3 q4 h5 h7 q8 h11 q12 ?_
       revert hF;refine aS ?_ ?_<;>intro h19 q20 hF
       ·repeat first|refine cg ?_|simp -dsimp[h1,q2,h3,q4,h5,h7,q8,h11,q12,h19]
        have hF:=ob hF;obtain⟨v21,e22,hF⟩:=hF
        refine((C.f143 B hB1 hB2 w t v21 e22)).pgoW (by simp[h1,q2,h3,q4,h5,h7,q8,h11,q12,h19]) (by simp) ?_
        repeat first|refine cg ?_|simp -dsimp[h1,q2,h3,q4,h5,h7,q8,h11,q12,h19]
        have hF:=ob hF;obtain⟨v23,e24,hF⟩:=hF
        refine((C.f146 B hB1 hB2 v21 v.ctor v23 e24)).pgoW (by simp[h1,q2,h3,q4,h5,h7,q8,h11,q12,h19]) (by simp) ?_
        repeat first|refine cg ?_|simp -dsimp[h1,q2,h3,q4,h5,h7,q8,h11,q12,h19]
        revert hF;refine aN (fun h25 q26 hF=> ?_) (fun h25 q26 hF=> ?_)
        ·cases hF
         repeat first|refine cg ?_|simp -dsimp[h1,q2,h3,q4,h5,h7,q8,h11,q12,h19,h25,q26]
        ·repeat first|refine cg ?_|simp -dsimp[h1,q2,h3,q4,h5,h7,q8,h11,q12,h19,h25,q26]
         have hF:=ob hF;obtain⟨v27,e28,hF⟩:=hF
         refine((C.f149 B hB1 hB2 w t v.ctor v27 e28)).goI ?_
         repeat first|refine cg ?_|simp -dsimp[h1,q2,h3,q4,h5,h7,q8,h11,q12,h19,h25,q26]
         revert hF;refine aN ?_ ?_<;>intro h29 q30 hF
         ·have z31:¬((v27.length:Int)=(v.kids.length:Int)):=auz
          cases hF
          repeat first|refine cg ?_|simp -dsimp[h1,q2,h3,q4,h5,h7,q8,h11,q12,h19,h25,q26,h29,q30,z31]
         ·have z31:((v27.length:Int)=(v.kids.length:Int)):=auz
          repeat first|refine cg ?_|simp -dsimp[h1,q2,h3,q4,h5,h7,q8,h11,q12,h19,h25,q26,h29,q30,z31]
          have hF:=ob hF;obtain⟨o',ho43,hF⟩:=hF
          refine yG ((ih_f198 v deep v27 (i64.wrap (count+1)) 0 o' ho43) _ rfl _ ?_)
          rcases o' with r0|sx
          ·dsimp only at hF
           cases hF
           intro st h
           simpa using h
          ·dsimp only at hF
           cases hF
           repeat first|refine cg ?_|simp -dsimp
       ·cases hF
        repeat first|refine cg ?_|simp -dsimp[h1,q2,h3,q4,h5,h7,q8,h11,q12,h19,q20]
    ·refine kx6 h1 q2 h3 q4 h5 q6 ?_
     revert hF;refine aS ?_ ?_<;>intro h44 q45 hF
     ·refine kx7 h1 q2 h3 q4 h5 q6 h44 ?_
      revert hF;refine aS ?_ ?_<;>intro h46 q47 hF
      ·refine kx8 h1 q2 h3 q4 h5 q6 h44 h46 ?_
       have hF:=ob hF;obtain⟨v48,e49,hF⟩:=hF
       refine((C.f126 B hB1 hB2 v.n 0 9 v48 e49)).goI ?_
       refine kx8 h1 q2 h3 q4 h5 q6 h44 h46 ?_
       revert hF;refine aS (fun h50 q51 hF=> ?_) (fun h50 q51 hF=> ?_)
       ·cases hF
        repeat first|refine cg ?_|simp -dsimp[h1,q2,h3,q4,h5,q6,h44,h46,h50]
       ·cases hF
        repeat first|refine cg ?_|simp -dsimp[h1,q2,h3,q4,h5,q6,h44,h46,h50,q51]
      ·cases hF
       repeat first|refine cg ?_|simp -dsimp[h1,q2,h3,q4,h5,q6,h44,h46,q47]
     ·refine kx8 h1 q2 h3 q4 h5 q6 h44 q45 ?_
      refine yN follows ?_
      refine kx8 h1 q2 h3 q4 h5 q6 h44 q45 ?_
      revert hF;refine aS ?_ ?_<;>intro h52 q53 hF
      ·refine kx9 h1 q2 h3 q4 h5 q6 h44 q45 h52 ?_
       have hF:=ob hF;obtain⟨v54,e55,hF⟩:=hF
       refine((C.f143 B hB1 hB2 w t v54 e55)).pgoW (by simp[h1,q2,h3,q4,h5,q6,h44,q45,h52]) (by simp) ?_
       refine kx9 h1 q2 h3 q4 h5 q6 h44 q45 h52 ?_
       have hF:=ob hF;obtain⟨v56,e57,hF⟩:=hF
       refine((C.f146 B hB1 hB2 v54 v.ctor v56 e57)).pgoW (by simp[h1,q2,h3,q4,h5,q6,h44,q45,h52]) (by simp) ?_
       refine kx9 h1 q2 h3 q4 h5 q6 h44 q45 h52 ?_
       revert hF;refine aN (fun h58 q59 hF=> ?_) (fun h58 q59 hF=> ?_)
       ·cases hF
        repeat first|refine cg ?_|simp -dsimp[h1,q2,h3,q4,h5,q6,h44,q45,h52,h58,q59]
       ·repeat first|refine cg ?_|simp -dsimp[h1,q2,h3,q4,h5,q6,h44,q45,h52,h58,q59]
        have hF:=ob hF;obtain⟨v60,e61,hF⟩:=hF
        refine((C.f149 B hB1 hB2 w t v.ctor v60 e61)).goI ?_
        repeat first|refine cg ?_|simp -dsimp[h1,q2,h3,q4,h5,q6,h44,q45,h52,h58,q59]
        revert hF;refine aN ?_ ?_<;>intro h62 q63 hF
        ·have z64:¬((v60.length:Int)=(v.kids.length:Int)):=auz
         cases hF
         repeat first|refine cg ?_|simp -dsimp[h1,q2,h3,q4,h5,q6,h44,q45,h52,h58,q59,h62,q63,z64]
        ·have z64:((v60.length:Int)=(v.kids.length:Int)):=auz
         repeat first|refine cg ?_|simp -dsimp[h1,q2,h3,q4,h5,q6,h44,q45,h52,h58,q59,h62,q63,z64]
         have hF:=ob hF;obtain⟨o'80,ho79,hF⟩:=hF
         refine yG ((ih_f199 v deep v60 (i64.wrap (count+1)) 0 o'80 ho79) _ rfl _ ?_)
         rcases o'80 with r082|sx81
         ·dsimp only at hF
          cases hF
          intro st h
          simpa using h
         ·dsimp only at hF
          cases hF
          repeat first|refine cg ?_|simp -dsimp
      ·cases hF
       repeat first|refine cg ?_|simp -dsimp[h1,q2,h3,q4,h5,q6,h44,q45,h52,q53]
  ·cases hF
   repeat first|refine cg ?_|simp -dsimp[h1,q2]
 ·intro _f_f197 _f_f199 ih_f197 ih_f199 v deep v60 z65 i66 o hF
  refine ZI rfl fun Q hq hk hs=> ?_
  have b0:=hk 0
  simp -dsimp at b0
  have b13:=hk 13
  simp -dsimp at b13
  have b88:=hk 88
  simp -dsimp at b88
  clear hk hs
  refine eN ?_
  refine kz ?_
  revert hF;refine aS ?_ ?_<;>intro h67 q68 hF
  ·have z69:((i66:Int)<(v.kids.length:Int)):=auz
   have hF:=ob hF;obtain⟨x70,e71,hF⟩:=hF
   have le71:=ZB e71
   repeat first|refine cg ?_|simp -dsimp[h67,z69,↓e71]
   refine yO [64] [(0,0),(0,0),(0,0),(0,0),(0,0),(0,0),(0,0),(0,0),(0,0),(0,0),(0,1),(1,1)] [1,1,1,1,1,1,1,1,1,1,1,1] follows ?_
   have hF:=ob hF;obtain⟨x72,e73,hF⟩:=hF
   have le73:=ZB e73
   repeat first|refine cg ?_|simp -dsimp[h67,z69,↓e71,↓e73]
   have hF:=ob hF;obtain⟨v74,e75,hF⟩:=hF
   refine((ih_f197 x72 x70 (i64.wrap (deep+1)) z65 v74 e75)).ego 0 rfl (by simp[h67,z69,↓e71,↓e73]) (by simp) (by simp[h67,z69,↓e71,↓e73]) ?_
   repeat first|refine cg ?_|simp -dsimp[h67,z69,↓e71,↓e73]
   revert hF;refine aN (fun h76 q77 hF=> ?_) (fun h76 q77 hF=> ?_)
   ·cases hF
    repeat first|refine cg ?_|simp -dsimp[h67,z69,↓e71,↓e73,h76,q77]
    refine lG _ (gR _) (hq _ ?_)
    repeat first|refine cg ?_|simp -dsimp[h67,z69,↓e71,↓e73,h76,q77]
   ·have w78:i64.wrap ((i66:Int)+1)=(i66:Int)+1:=ZE (by omega) (by omega)
    repeat first|refine cg ?_|simp -dsimp[h67,z69,↓e71,↓e73,h76,q77,w78]
    refine zN ((ih_f199 v deep v60 v74.2 (i66+1) o hF) _ rfl _ hq)
  ·have z69:¬((i66:Int)<(v.kids.length:Int)):=auz
   cases hF
   refine kx3 h67 q68 z69 ?_
   refine zO hq
 ·intro _f_f197 _f_f198 ih_f197 ih_f198 v deep v27 z i o hF
  refine ZI rfl fun Q hq hk hs=> ?_
  have b0:=hk 0
  simp -dsimp at b0
  have b13:=hk 13
  simp -dsimp at b13
  have b88:=hk 88
  simp -dsimp at b88
  clear hk hs
  refine eN ?_
  refine kz ?_
  revert hF;refine aS ?_ ?_<;>intro h32 q33 hF
  ·have z34:((i:Int)<(v.kids.length:Int)):=auz
   have hF:=ob hF;obtain⟨x,e35,hF⟩:=hF
   have le35:=ZB e35
   repeat first|refine cg ?_|simp -dsimp[h32,z34,↓e35]
   refine yO [64] [(0,0),(0,0),(0,0),(0,0),(0,0),(0,0),(0,0),(0,0),(0,0),(0,0),(0,1),(1,1)] [1,1,1,1,1,1,1,1,1,1,1,1] follows ?_
   have hF:=ob hF;obtain⟨x36,e37,hF⟩:=hF
   have le37:=ZB e37
   repeat first|refine cg ?_|simp -dsimp[h32,z34,↓e35,↓e37]
   have hF:=ob hF;obtain⟨v38,e39,hF⟩:=hF
   refine((ih_f197 x36 x (i64.wrap (deep+1)) z v38 e39)).ego 0 rfl (by simp[h32,z34,↓e35,↓e37]) (by simp) (by simp[h32,z34,↓e35,↓e37]) ?_
   repeat first|refine cg ?_|simp -dsimp[h32,z34,↓e35,↓e37]
   revert hF;refine aN (fun h40 q41 hF=> ?_) (fun h40 q41 hF=> ?_)
   ·cases hF
    repeat first|refine cg ?_|simp -dsimp[h32,z34,↓e35,↓e37,h40,q41]
    refine lG _ (gR _) (hq _ ?_)
    repeat first|refine cg ?_|simp -dsimp[h32,z34,↓e35,↓e37,h40,q41]
   ·have w42:i64.wrap ((i:Int)+1)=(i:Int)+1:=ZE (by omega) (by omega)
    repeat first|refine cg ?_|simp -dsimp[h32,z34,↓e35,↓e37,h40,q41,w42]
    refine zN ((ih_f198 v deep v27 v38.2 (i+1) o hF) _ rfl _ hq)
  ·have z34:¬((i:Int)<(v.kids.length:Int)):=auz
   cases hF
   refine kx3 h32 q33 z34 ?_
   refine zO hq
theorem C.f200 (w:List zP)(t:Ty)(v:Vl.Value)(r:Bool)(hF:F.f200 w t v=some r):PureCall zQ B 32 [am zR w,.agg [li t.data,li t.index],.agg [li v.ctor,li v.n,am Vl.Value.c v.kids]] (.lit (.bool r)):=by
 unfold F.f200 at hF
 refine yR func32 rfl ntmps32 ?_
 refine kz ?_
 have hF:=ob hF;obtain⟨v1,e2,hF⟩:=hF
 refine(((CC.f197 B hB1 hB2 w false).1 t v 1 0 v1 e2)).go 2 rfl (by simp) (by simp) (by simp) ?_
 cases hF
 repeat first|refine cg ?_|simp -dsimp
theorem C.f201 (a0:Step)(r:Unit)(hF:F.f201 a0=some r):PureCall zQ B 34 [.agg [li a0.op,am cI a0.path,li a0.ctor,li a0.n,li a0.m,li a0.clause,am xA a0.binds,li a0.to]] (.tup []):=by
 unfold F.f201 at hF
 refine pE func34 (by kernel_rfl) rfl ntmps34 (by simp) (by simp) ?_
 cases hF
 simp -dsimp[-ZDp]
 rw[ZDp,ZH9,show Tryz.f34.results.toList=[]from rfl,ZEd]
 show ZKd _ (.tup []) _
 rw[ZMi]
 simp -dsimp
theorem CC.f202 (path:List Int):(∀(z:Int) (z1:Int) (z2:List Vl.Value) (i:Nat) (o:Int×Int×(List Vl.Value)),F.f202 path z z1 z2 i=some o->∀(c:Code),ZP [1,0,1,0,0] (ZG Tryz.f66)=some c->∀(Q:Exit->ASt->Prop),(Q (.exit 0) ⟨[(2,.ptr 0 0),(4,.ptr 1 0)],[.cells [li o.1,li o.2.1,am Vl.Value.c o.2.2],.cells [li 0,li 0,.lit (.slice none 0 0)]]⟩)->ALoopU zQ B 0 20 (hold c .mk) ⟨[(2,.ptr 0 0),(4,.ptr 1 0),(7,am cI path),(8,li (path.length:Int)),(9,li (i:Int))],[.cells [li z,li z1,am Vl.Value.c z2],.cells [li 0,li 0,.lit (.slice none 0 0)]]⟩ (hold Q .mk)):=by
 refine F.f202.partial_correctness path
  _
  ?_
 ·intro _f_f202 ih_f202 z z1 z2 i o hF
  refine ZI rfl fun Q hq hk hs=> ?_
  have b7:=hk 7
  simp -dsimp at b7
  have d0:=hs 0 _ rfl
  simp -dsimp[zM]at d0
  clear hk hs
  refine eN ?_
  refine kz ?_
  revert hF;refine aS ?_ ?_<;>intro h3 q4 hF
  ·have z5:((i:Int)<(path.length:Int)):=auz
   have hF:=ob hF;obtain⟨x,e6,hF⟩:=hF
   have le6:=ZB e6
   have hF:=ob hF;obtain⟨x7,e8a,hF⟩:=hF
   have e8a:=ZX e8a;obtain⟨ne8,e8⟩:=e8a
   have le8:=ZB e8
   have w9:i64.wrap ((i:Int)+1)=(i:Int)+1:=ZE (by omega) (by omega)
   repeat first|refine cg ?_|simp -dsimp[h3,z5,↓e6,↓e8,w9]
   refine zN ((ih_f202 x7.ctor x7.n x7.kids (i+1) o hF) _ rfl _ hq)
  ·have z5:¬((i:Int)<(path.length:Int)):=auz
   cases hF
   refine kx3 h3 q4 z5 ?_
   refine zO hq
theorem C.f203 (v:Vl.Value)(path:List Int)(r:Vl.Value)(hF:F.f203 v path=some r):PureCall zQ B 66 [.agg [li v.ctor,li v.n,am Vl.Value.c v.kids],am cI path] (.agg [li r.ctor,li r.n,am Vl.Value.c r.kids]):=by
 unfold F.f203 at hF
 refine yR func66 rfl ntmps66 ?_
 refine kz ?_
 have hF:=ob hF;obtain⟨o',ho10,hF⟩:=hF
 refine yG (((CC.f202 B hB1 hB2 path) v.ctor v.n v.kids 0 o' ho10) _ rfl _ ?_)
 cases hF
 repeat first|refine cg ?_|simp -dsimp
theorem C.f204 (ctor:Int)(n:Int)(m:Int)(x:Vl.Value)(r:Bool)(hF:F.f204 ctor n m x=some r):PureCall zQ B 65 [li ctor,li n,li m,.agg [li x.ctor,li x.n,am Vl.Value.c x.kids]] (.lit (.bool r)):=by
 unfold F.f204 at hF
 refine yR func65 rfl ntmps65 ?_
 refine kz ?_
 revert hF;refine aS ?_ ?_<;>intro h1 q2 hF
 ·refine kx1 h1 ?_
  revert hF;refine aS ?_ ?_<;>intro h3 q4 hF
  ·refine kx2 h1 h3 ?_
   have hF:=ob hF;obtain⟨v,e5,hF⟩:=hF
   refine((C.f126 B hB1 hB2 x.n n m v e5)).goI ?_
   cases hF
   repeat first|refine cg ?_|simp -dsimp[h1,h3]
  ·cases hF
   repeat first|refine cg ?_|simp -dsimp[h1,h3,q4]
 ·cases hF
  repeat first|refine cg ?_|simp -dsimp[h1,q2]
theorem CC.impl_ownValue__f  :(∀(v:Vl.Value) (r:Vl.Value),F.f205 v=some r->FCall zQ B 101 [.agg [li v.ctor,li v.n,am Vl.Value.c v.kids]] (.agg [li r.ctor,li r.n,am Vl.Value.c r.kids]))/\
  (∀(v:Vl.Value) (out:List Vl.Value) (i:Nat) (o:List Vl.Value),F.f206 v out i=some o->∀(R:List (List AV)),∀(U:List Value),RW 3 (zB (α:=Vl.Value) out) R U->∀(c:Code),ZP [1,1,0,1,0,0] (ZG Tryz.f101)=some c->∀(Q:Exit->ASt->Prop),(∀(Rq:List (List AV)) (Uq:List Value),RW 3 (zB (α:=Vl.Value) o) Rq Uq->Q (.exit 0) ⟨[(2,.ptr 2 0),(3,.ptr 3 0)],[.pack [] [],.dead,.cells [li 0,li 0,.lit (.slice none 0 0)],.cells [li v.ctor,li v.n,.own 4 (zB (α:=Vl.Value) o)],.elems 3 Rq,.pack (List.flatten (zA Vl.Value.c o)) Uq]⟩)->ALoopU zQ B 0 27 (hold c .mk) ⟨[(2,.ptr 2 0),(3,.ptr 3 0),(12,am Vl.Value.c v.kids),(13,li (v.kids.length:Int)),(14,li (i:Int))],[.pack [] [],.dead,.cells [li 0,li 0,.lit (.slice none 0 0)],.cells [li v.ctor,li v.n,.own 4 (zB (α:=Vl.Value) out)],.elems 3 R,.pack (List.flatten (zA Vl.Value.c out)) U]⟩ (hold Q .mk)):=by
 refine F.f205.mutual_partial_correctness 
  _ _
  ?_ ?_
 ·intro _f_impl_ownValue__f_l1 ih_impl_ownValue__f_l1 v r hF
  refine FCall.enterG func101 (by kernel_rfl) rfl ntmps101 (by simp) (yJ .nil) ?_
  refine kz ?_
  have hF:=ob hF;obtain⟨o',ho11,hF⟩:=hF
  refine yF ⟨[(2,.ptr 2 0),(3,.ptr 3 0),(12,.arr (zA Vl.Value.c v.kids)),(13,.lit (.int .i64 (v.kids.length:Int))),(14,.lit (.int .i64 0))],[.pack [] [],.dead,.cells [.lit (.int .i64 0),.lit (.int .i64 0),.lit (.slice none 0 0)],.cells [.lit (.int .i64 v.ctor),.lit (.int .i64 v.n),.own 4 (zB (α:=Vl.Value) [])],.elems 3 [],.pack (List.flatten (zA Vl.Value.c [])) []]⟩ (by refine yH (yL 3 2 3 (by simp -dsimp;rfl) (by simp -dsimp)) ?_;refine yH (yJ .nil) ?_;exact(gT (by simp) (by simp -dsimp))) ?_
  refine(ih_impl_ownValue__f_l1 v [] 0 o' ho11) [] [] RW.nil _ rfl _ ?_
  intro Rq Uq Hq2
  cases hF
  repeat first|refine cg ?_|simp -dsimp[RW.len Hq2,RW.closed Hq2]
  exact⟨_,by decide,(.agg (.lit _ (.lit _ (.ownP 4 _ 3 rfl (by simp) (.blk 5 rfl .nil) (by simp[Hq2.2.2]) (by simp[Hq2.1]) (by simp) (by simp) .nil))) .nil:CT _ _ _ _)⟩
 ·intro _f_impl_ownValue__f _f_impl_ownValue__f_l1 ih_impl_ownValue__f ih_impl_ownValue__f_l1 v out i o hF
  intro R U H1 c hc Q hq
  obtain rfl:c=_:=ZAi hc rfl
  refine kN fun hk hs=> ?_
  have b12:=hk 12
  simp -dsimp at b12
  have d4:=hs 4 _ rfl
  simp -dsimp[zM]at d4
  clear hk hs
  refine eN ?_
  repeat first|refine cg ?_|simp -dsimp[RW.len H1,RW.closed H1]
  revert hF;refine aS ?_ ?_<;>intro h3 q4 hF
  ·have z5:((i:Int)<(v.kids.length:Int)):=auz
   have hF:=ob hF;obtain⟨x,e6,hF⟩:=hF
   have le6:=ZB e6
   repeat first|refine cg ?_|simp -dsimp[RW.len H1,RW.closed H1,h3,z5,↓e6]
   refine yP [101] [(0,2),(0,2),(0,0),(0,4),(0,4),(0,4),(3,3),(0,4)] [0,2,1,1,1,1,1,1] 3 (by decide) follows (by kernel_rfl) (by kernel_rfl) (by kernel_rfl) (by kernel_rfl) (by kernel_rfl) rfl ?_
   repeat first|refine cg ?_|simp -dsimp[RW.len H1,RW.closed H1,h3,z5,↓e6]
   have hF:=ob hF;obtain⟨v7,e8,hF⟩:=hF
   refine((ih_impl_ownValue__f x v7 e8)).ngo1 (by simp -dsimp[RW.len H1,RW.closed H1,h3,z5,↓e6]) (by simp) (fun h o_h=> ?_)
   have hF:=oc hF;obtain⟨c9,hF⟩:=hF
   have w10:i64.wrap ((i:Int)+1)=(i:Int)+1:=ZE (by omega) (by omega)
   repeat first|refine cg ?_|simp -dsimp[RW.len H1,RW.closed H1,h3,z5,↓e6,o_h,w10]
   refine aG ⟨[(2,.ptr 2 0),(3,.ptr 3 0),(12,.arr (zA Vl.Value.c v.kids)),(13,.lit (.int .i64 (v.kids.length:Int))),(14,.lit (.int .i64 ((i+1):Int)))],[.pack [] [],.dead,.cells [.lit (.int .i64 0),.lit (.int .i64 0),.lit (.slice none 0 0)],.cells [.lit (.int .i64 v.ctor),.lit (.int .i64 v.n),.own 4 (zB (α:=Vl.Value) (out++[v7]))],.elems 3 (R++[[.lit (.int .i64 v7.ctor),.lit (.int .i64 v7.n),.lit h]]),.pack (List.flatten (zA Vl.Value.c (out++[v7]))) (U++[.int .i64 v7.ctor,.int .i64 v7.n,h])]⟩ (by refine yH (yM 5 [7] (by exact rfl) (.lit (.int .i64 v7.ctor) (.lit (.int .i64 v7.n) (.pk 7 (by exact rfl) .nil))) (by decide)) ?_;exact(gT (by simp) (by simp -dsimp[RW.len H1,RW.closed H1,h3,z5,↓e6,o_h,w10]))) ?_
   exact(ih_impl_ownValue__f_l1 v (out++[v7]) (i+1) o hF) (R++[[.lit (.int .i64 v7.ctor),.lit (.int .i64 v7.n),.lit h]]) (U++[.int .i64 v7.ctor,.int .i64 v7.n,h]) ((RW.snoc H1 [.int .i64 v7.ctor,.int .i64 v7.n,h] rfl).cong (by simp) (by simp) rfl) _ rfl _ hq
  ·have z5:¬((i:Int)<(v.kids.length:Int)):=auz
   cases hF
   repeat first|refine cg ?_|simp -dsimp[RW.len H1,RW.closed H1,h3,q4,z5]
   refine lG ⟨[(2,.ptr 2 0),(3,.ptr 3 0)],[.pack [] [],.dead,.cells [.lit (.int .i64 0),.lit (.int .i64 0),.lit (.slice none 0 0)],.cells [.lit (.int .i64 v.ctor),.lit (.int .i64 v.n),.own 4 (zB (α:=Vl.Value) out)],.elems 3 R,.pack (List.flatten (zA Vl.Value.c out)) U]⟩ (gT (by simp) (by simp -dsimp[RW.len H1,RW.closed H1,h3,q4,z5])) ?_
   exact hq R U H1
theorem CC.impl_bound__f_l1 (list:List PathBind)(v:Vl.Value):(∀(i:Nat) (out:List Bind) (o:List Bind),F.f207 list v i out=some o->∀(R:List (List AV)),∀(U:List Value),RW 4 (zB (α:=Bind) out) R U->∀(c:Code),ZP [1,1,0,1,0,0] (ZG Tryz.f67)=some c->∀(Q:Exit->ASt->Prop),(∀(Rq:List (List AV)) (Uq:List Value),RW 4 (zB (α:=Bind) o) Rq Uq->Q (.exit 0) ⟨[(5,.own 2 (zB (α:=Bind) o))],[.pack [] [],.dead,.elems 4 Rq,.pack (List.flatten (zA xC o)) Uq]⟩)->ALoopU zQ B 0 27 (hold c .mk) ⟨[(3,.ptr 1 0),(5,.own 2 (zB (α:=Bind) out)),(8,am xA list),(9,li (list.length:Int)),(10,li (i:Int))],[.pack [] [],.cells [li v.ctor,li v.n,am Vl.Value.c v.kids],.elems 4 R,.pack (List.flatten (zA xC out)) U]⟩ (hold Q .mk)):=by
 refine F.f207.partial_correctness list v
  _
  ?_
 ·intro _f_impl_bound__f_l1 ih_impl_bound__f_l1 i out o hF
  intro R U H1 c hc Q hq
  obtain rfl:c=_:=ZAi hc rfl
  refine kN fun hk hs=> ?_
  have b8:=hk 8
  simp -dsimp at b8
  have d1:=hs 1 _ rfl
  simp -dsimp[zM]at d1
  have d2:=hs 2 _ rfl
  simp -dsimp[zM]at d2
  clear hk hs
  refine eN ?_
  repeat first|refine cg ?_|simp -dsimp[RW.len H1,RW.closed H1]
  revert hF;refine aS ?_ ?_<;>intro h3 q4 hF
  ·have z5:((i:Int)<(list.length:Int)):=auz
   have hF:=ob hF;obtain⟨x,e6,hF⟩:=hF
   have le6:=ZB e6
   repeat first|refine cg ?_|simp -dsimp[RW.len H1,RW.closed H1,h3,z5,↓e6]
   refine yP [101] [(0,2),(0,1),(0,1),(0,0),(0,0),(0,0),(0,3),(0,3),(1,1),(0,3),(0,3),(3,3)] [1,0,2,1,1,1,1,1,1,1,1,1] 7 (by decide) follows (by kernel_rfl) (by kernel_rfl) (by kernel_rfl) (by kernel_rfl) (by kernel_rfl) rfl ?_
   repeat first|refine cg ?_|simp -dsimp[RW.len H1,RW.closed H1,h3,z5,↓e6]
   have hF:=ob hF;obtain⟨v7,e8,hF⟩:=hF
   refine((C.f203 B hB1 hB2 v x.path v7 e8)).pgoW (by simp[RW.len H1,RW.closed H1,h3,z5,↓e6]) (by simp) ?_
   repeat first|refine cg ?_|simp -dsimp[RW.len H1,RW.closed H1,h3,z5,↓e6]
   have hF:=ob hF;obtain⟨v9,e10,hF⟩:=hF
   refine(((CC.impl_ownValue__f B hB1 hB2).1 v7 v9 e10)).ngo1 (by simp -dsimp[RW.len H1,RW.closed H1,h3,z5,↓e6]) (by simp) (fun h o_h=> ?_)
   have hF:=oc hF;obtain⟨c11,hF⟩:=hF
   have w12:i64.wrap ((i:Int)+1)=(i:Int)+1:=ZE (by omega) (by omega)
   repeat first|refine cg ?_|simp -dsimp[RW.len H1,RW.closed H1,h3,z5,↓e6,o_h,w12]
   refine aG ⟨[(3,.ptr 1 0),(5,.own 2 (zB (α:=Bind) (out++[(⟨x.var,v9⟩:Bind)]))),(8,.arr (zA xA list)),(9,.lit (.int .i64 (list.length:Int))),(10,.lit (.int .i64 ((i+1):Int)))],[.pack [] [],.cells [.lit (.int .i64 v.ctor),.lit (.int .i64 v.n),.arr (zA Vl.Value.c v.kids)],.elems 4 (R++[[.lit (.int .i64 x.var),.lit (.int .i64 v9.ctor),.lit (.int .i64 v9.n),.lit h]]),.pack (List.flatten (zA xC (out++[(⟨x.var,v9⟩:Bind)]))) (U++[.int .i64 x.var,.int .i64 v9.ctor,.int .i64 v9.n,h])]⟩ (by refine yH (yM 3 [5] (by exact rfl) (.lit (.int .i64 x.var) (.lit (.int .i64 v9.ctor) (.lit (.int .i64 v9.n) (.pk 5 (by exact rfl) .nil)))) (by decide)) ?_;exact(gT (by simp) (by simp -dsimp[RW.len H1,RW.closed H1,h3,z5,↓e6,o_h,w12]))) ?_
   exact(ih_impl_bound__f_l1 (i+1) (out++[(⟨x.var,v9⟩:Bind)]) o hF) (R++[[.lit (.int .i64 x.var),.lit (.int .i64 v9.ctor),.lit (.int .i64 v9.n),.lit h]]) (U++[.int .i64 x.var,.int .i64 v9.ctor,.int .i64 v9.n,h]) ((RW.snoc H1 [.int .i64 x.var,.int .i64 v9.ctor,.int .i64 v9.n,h] rfl).cong (by simp) (by simp) rfl) _ rfl _ hq
  ·have z5:¬((i:Int)<(list.length:Int)):=auz
   cases hF
   repeat first|refine cg ?_|simp -dsimp[RW.len H1,RW.closed H1,h3,q4,z5]
   refine lG ⟨[(5,.own 2 (zB (α:=Bind) out))],[.pack [] [],.dead,.elems 4 R,.pack (List.flatten (zA xC out)) U]⟩ (gT (by simp) (by simp -dsimp[RW.len H1,RW.closed H1,h3,q4,z5])) ?_
   exact hq R U H1
theorem C.impl_bound__f (list:List PathBind)(v:Vl.Value)(r:List Bind)(hF:F.f208 list v=some r):FCall zQ B 67 [am xA list,.agg [li v.ctor,li v.n,am Vl.Value.c v.kids]] (am xC r):=by
 unfold F.f208 at hF
 refine FCall.enterG func67 (by kernel_rfl) rfl ntmps67 (by simp) (yJ .nil) ?_
 refine kz ?_
 have hF:=ob hF;obtain⟨o',ho13,hF⟩:=hF
 refine yF ⟨[(3,.ptr 1 0),(5,.own 2 (zB (α:=Bind) [])),(8,.arr (zA xA list)),(9,.lit (.int .i64 (list.length:Int))),(10,.lit (.int .i64 0))],[.pack [] [],.cells [.lit (.int .i64 v.ctor),.lit (.int .i64 v.n),.arr (zA Vl.Value.c v.kids)],.elems 4 [],.pack (List.flatten (zA xC [])) []]⟩ (by refine yH (yK 5 4 (by simp -dsimp)) ?_;refine yH (yJ .nil) ?_;exact(gT (by simp) (by simp -dsimp))) ?_
 refine((CC.impl_bound__f_l1 B hB1 hB2 list v) 0 [] o' ho13) [] [] RW.nil _ rfl _ ?_
 intro Rq Uq Hq2
 cases hF
 repeat first|refine cg ?_|simp -dsimp[RW.len Hq2,RW.closed Hq2]
 exact⟨_,by decide,(.cell (.ownP 2 _ 4 rfl (by simp) (.blk 3 rfl .nil) (by simp[Hq2.2.2]) (by simp[Hq2.1]) (by simp) (by simp) .nil) .nil:CT _ _ _ _)⟩
theorem C.f209 (b:Bind)(a1:Guard)(r:Bool)(hF:F.f209 b a1=some r):PureCall zQ B 103 [.agg [li b.var,li b.value.ctor,li b.value.n,am Vl.Value.c b.value.kids],.rptr [li a1.op,li a1.var,li a1.n] 0] (.lit (.bool r)):=by
 unfold F.f209 at hF
 refine yR func103 rfl ntmps103 ?_
 cases hF
 repeat first|refine cg ?_|simp -dsimp
theorem CC.f210 (s:List Bind)(k0:Guard):(∀(i:Nat) (o:Lo Int Unit),F.f210 s k0 i=some o->∀(c:Code),ZP [1,0,1,0,0] (ZG Tryz.f102)=some c->∀(Q:Exit->ASt->Prop),o.post (fun r=>∀st,ZAD zQ Tryz.f102 (fun r' _=>r'.le (li r)) .ret st->Q .ret st) (fun s=>Q (.exit 0) ⟨[],[]⟩)->ALoopU zQ B 0 19 (hold c .mk) ⟨[(0,am xC s),(1,.fn (.func 103) [] [.rptr [li k0.op,li k0.var,li k0.n] 0]),(7,li (s.length:Int)),(8,li (i:Int))],[]⟩ (hold Q .mk)):=by
 refine F.f210.partial_correctness s k0
  _
  ?_
 ·intro _f_f210 ih_f210 i o hF
  refine ZI rfl fun Q hq hk hs=> ?_
  have b0:=hk 0
  simp -dsimp at b0
  clear hk hs
  refine eN ?_
  refine kz ?_
  revert hF;refine aS ?_ ?_<;>intro h1 q2 hF
  ·have z3:((i:Int)<(s.length:Int)):=auz
   have hF:=ob hF;obtain⟨x,e4,hF⟩:=hF
   have le4:=ZB e4
   repeat first|refine cg ?_|simp -dsimp[h1,z3,↓e4]
   have hF:=ob hF;obtain⟨v,e5,hF⟩:=hF
   refine((C.f209 B hB1 hB2 x k0 v e5)).goI ?_
   refine kz ?_
   revert hF;refine aS (fun h6 q7 hF=> ?_) (fun h6 q7 hF=> ?_)
   ·cases hF
    refine kx1 h6 ?_
    refine lG _ (gR _) (hq _ ?_)
    repeat first|refine cg ?_|simp -dsimp
   ·have w8:i64.wrap ((i:Int)+1)=(i:Int)+1:=ZE (by omega) (by omega)
    refine kx2 q7 w8 ?_
    refine zN ((ih_f210 (i+1) o hF) _ rfl _ hq)
  ·have z3:¬((i:Int)<(s.length:Int)):=auz
   cases hF
   refine kx3 h1 q2 z3 ?_
   refine zO hq
theorem C.f211 (s:List Bind)(k0:Guard)(r:Int)(hF:F.f211 s k0=some r):PureCall zQ B 102 [am xC s,.fn (.func 103) [] [.rptr [li k0.op,li k0.var,li k0.n] 0]] (li r):=by
 unfold F.f211 at hF
 refine yR func102 rfl ntmps102 ?_
 refine kz ?_
 have hF:=ob hF;obtain⟨o',ho9,hF⟩:=hF
 refine yG (((CC.f210 B hB1 hB2 s k0) 0 o' ho9) _ rfl _ ?_)
 rcases o' with r0|sx
 ·dsimp only at hF
  cases hF
  intro st h
  simpa using h
 ·dsimp only at hF
  cases hF
  repeat first|refine cg ?_|simp -dsimp
theorem C.f212 (g:Guard)(binds:List Bind)(r:Bool)(hF:F.f212 g binds=some r):PureCall zQ B 68 [.agg [li g.op,li g.var,li g.n],am xC binds] (.lit (.bool r)):=by
 unfold F.f212 at hF
 refine yR func68 rfl ntmps68 ?_
 refine kz ?_
 revert hF;refine aS ?_ ?_<;>intro h1 q2 hF
 ·cases hF
  repeat first|refine cg ?_|simp -dsimp[h1]
 ·refine kx1 q2 ?_
  have hF:=ob hF;obtain⟨v,e3,hF⟩:=hF
  refine((C.f211 B hB1 hB2 binds g v e3)).lend (by simp_all) (by simp -dsimp) ?_
  refine kz ?_
  revert hF;refine aN ?_ ?_<;>intro h4 q5 hF
  ·have hF:=ob hF;obtain⟨x,e6a,hF⟩:=hF
   have e6a:=ZX e6a;obtain⟨ne6,e6⟩:=e6a
   have le6:=ZB e6
   repeat first|refine cg ?_|simp -dsimp[h4,q5,↓e6]
   revert hF;refine aN ?_ ?_<;>intro h7 q8 hF
   ·cases hF
    repeat first|refine cg ?_|simp -dsimp[↓e6,h7,q8]
   ·repeat first|refine cg ?_|simp -dsimp[↓e6]
    revert hF;refine aS ?_ ?_<;>intro h9 q10 hF
    ·repeat first|refine cg ?_|simp -dsimp[↓e6,h9]
     revert hF;refine aN ?_ ?_<;>intro h11 q12 hF
     ·have n13:¬(g.op=2):=by omega
      cases hF
      repeat first|refine cg ?_|simp -dsimp[↓e6,h11,q12,n13]
     ·cases hF
      repeat first|refine cg ?_|simp -dsimp[↓e6,h11,q12]
    ·repeat first|refine cg ?_|simp -dsimp[↓e6,q10]
     revert hF;refine aS ?_ ?_<;>intro h14 q15 hF
     ·cases hF
      repeat first|refine cg ?_|simp -dsimp[↓e6,h14]
     ·cases hF
      repeat first|refine cg ?_|simp -dsimp[↓e6,q15]
  ·cases hF
   repeat first|refine cg ?_|simp -dsimp[h4,q5]
theorem CC.impl_runSteps__impl_RunSteps_1__f_l1 (steps':List Step)(list:List Clause)(v:Vl.Value):(∀(count:Nat) (at':Int) (o:Int×(List Bind)×Int),F.f213 steps' list v count at'=some o->∀(c:Code),ZP [1,1,1,0,0] (ZG Tryz.f33)=some c->∀(Q:Exit->ASt->Prop),(∀st,ZMP zQ Tryz.f33 (.tup [li o.1,am xC o.2.1,li o.2.2]) .ret st->Q .ret st)->ALoopU zQ B 0 65 (hold c .mk) ⟨[(0,am yZ steps'),(1,am yS list),(3,.fn (.func 34) [] []),(6,.ptr 1 0),(11,li (count:Int)),(12,li at')],[.pack [] [],.cells [li v.ctor,li v.n,am Vl.Value.c v.kids]]⟩ (hold Q .mk)):=by
 refine F.f213.partial_correctness steps' list v
  _
  ?_
 ·intro _f_impl_runSteps__impl_RunSteps_1__f_l1 ih_impl_runSteps__impl_RunSteps_1__f_l1 count at' o hF
  refine ZI rfl fun Q hq hk hs=> ?_
  have b0:=hk 0
  simp -dsimp at b0
  have b1:=hk 1
  simp -dsimp at b1
  have d1:=hs 1 _ rfl
  simp -dsimp[zM]at d1
  clear hk hs
  refine eN ?_
  have hF:=ob hF;obtain⟨x,e1a,hF⟩:=hF
  have e1a:=ZX e1a;obtain⟨ne1,e1⟩:=e1a
  have le1:=ZB e1
  repeat first|refine cg ?_|simp -dsimp[↓e1]
  revert hF;refine aS ?_ ?_<;>intro h2 q3 hF
  ·cases hF
   refine kx1 h2 ?_
   refine lG _ (gR _) (hq _ ?_)
   refine kz ?_
   exact⟨_,by decide,(.cell (.lit _ .nil) (.cell (.nilS none 0 .nil) (.cell (.lit _ .nil) .nil)):CT _ _ _ _)⟩
  ·refine kx1 q3 ?_
   have hF:=ob hF;obtain⟨v4,e5,hF⟩:=hF
   refine((C.f201 B hB1 hB2 x v4 e5)).goI ?_
   refine kz ?_
   revert hF;refine aS ?_ ?_<;>intro h6 q7 hF
   ·have hF:=oc hF;obtain⟨c8,hF⟩:=hF
    have w9:i64.wrap ((count:Int)+1)=(count:Int)+1:=ZE (by omega) (by omega)
    refine kx2 h6 w9 ?_
    refine yN follows ?_
    refine kz ?_
    have hF:=ob hF;obtain⟨v10,e11,hF⟩:=hF
    refine((C.f203 B hB1 hB2 v x.path v10 e11)).pgoW (by simp_all) (by simp) ?_
    refine kz ?_
    have hF:=ob hF;obtain⟨v12,e13,hF⟩:=hF
    refine((C.f204 B hB1 hB2 x.ctor x.n x.m v10 v12 e13)).pgoW (by simp_all) (by simp) ?_
    refine kz ?_
    revert hF;refine aN (fun h14 q15 hF=> ?_) (fun h14 q15 hF=> ?_)
    ·refine kx2 h14 q15 ?_
     refine zN ((ih_impl_runSteps__impl_RunSteps_1__f_l1 (count+1) x.to o hF) _ rfl _ hq)
    ·refine kz ?_
     refine zN ((ih_impl_runSteps__impl_RunSteps_1__f_l1 (count+1) (i64.wrap (at'+1)) o hF) _ rfl _ hq)
   ·refine kx2 h6 q7 ?_
    have hF:=ob hF;obtain⟨v16,e17,hF⟩:=hF
    refine((C.impl_bound__f B hB1 hB2 x.binds v v16 e17)).go1 (by simp_all) (by simp) (fun h o_h=> ?_)
    have hF:=ob hF;obtain⟨x18,e19a,hF⟩:=hF
    have e19a:=ZX e19a;obtain⟨ne19,e19⟩:=e19a
    have le19:=ZB e19
    repeat first|refine cg ?_|simp -dsimp[o_h,↓e19]
    have hF:=ob hF;obtain⟨v20,e21,hF⟩:=hF
    refine((C.f212 B hB1 hB2 x18.guard v16 v20 e21)).lend (by simp_all) (by simp -dsimp) ?_
    refine kz ?_
    revert hF;refine aS (fun h22 q23 hF=> ?_) (fun h22 q23 hF=> ?_)
    ·cases hF
     refine kx1 h22 ?_
     refine lG _ (gR _) (hq _ ?_)
     refine kz ?_
     exact⟨_,by decide,(.cell (.lit _ .nil) (.cell (.pk 3 rfl .nil) (.cell (.lit _ .nil) .nil)):CT _ _ _ _)⟩
    ·refine kx1 q23 ?_
     refine zN ((ih_impl_runSteps__impl_RunSteps_1__f_l1 count x.to o hF) _ rfl _ hq)
theorem C.impl_runSteps__impl_RunSteps_1__f (steps':List Step)(list:List Clause)(v:Vl.Value)(r:Int×(List Bind)×Int)(hF:F.f214 steps' list v=some r):FCall zQ B 33 [am yZ steps',am yS list,.agg [li v.ctor,li v.n,am Vl.Value.c v.kids],.fn (.func 34) [] []] (.tup [li r.1,am xC r.2.1,li r.2.2]):=by
 unfold F.f214 at hF
 refine FCall.enterG func33 (by kernel_rfl) rfl ntmps33 (by simp) (yJ .nil) ?_
 refine kz ?_
 have hF:=ob hF;obtain⟨o',ho24,hF⟩:=hF
 refine yG (((CC.impl_runSteps__impl_RunSteps_1__f_l1 B hB1 hB2 steps' list v) 0 0 o' ho24) _ rfl _ ?_)
 cases hF
 intro st h
 simpa using h
theorem C.impl_RunSteps__f (w:List zP)(t:Ty)(list:List Clause)(v:Vl.Value)(r:Int×(List Bind)×Int)(hF:F.f215 w t list v=some r):FCall zQ B 12 [am zR w,.agg [li t.data,li t.index],am yS list,.agg [li v.ctor,li v.n,am Vl.Value.c v.kids]] (.tup [li r.1,am xC r.2.1,li r.2.2]):=by
 unfold F.f215 at hF
 refine FCall.enterG func12 (by kernel_rfl) rfl ntmps12 (by simp) (yJ .nil) ?_
 refine kz ?_
 have hF:=ob hF;obtain⟨v1,e2,hF⟩:=hF
 refine((C.f196 B hB1 hB2 w t list v1 e2)).goI ?_
 refine kz ?_
 revert hF;refine aS (fun h3 q4 hF=> ?_) (fun h3 q4 hF=> ?_)
 ·refine kx1 h3 ?_
  have hF:=ob hF;obtain⟨v5,e6,hF⟩:=hF
  refine((C.f200 B hB1 hB2 w t v v5 e6)).goI ?_
  refine kx1 h3 ?_
  revert hF;refine aN (fun h7 q8 hF=> ?_) (fun h7 q8 hF=> ?_)
  ·cases hF
   refine kx3 h3 h7 q8 ?_
   exact⟨_,by decide,(.cell (.lit _ .nil) (.cell (.nilS none 0 .nil) (.cell (.lit _ .nil) .nil)):CT _ _ _ _)⟩
  ·refine kx3 h3 h7 q8 ?_
   have hF:=ob hF;obtain⟨v9,e10,hF⟩:=hF
   refine((C.impl_runSteps__impl_RunSteps_1__f B hB1 hB2 v1.1 list v v9 e10)).go1 (by simp -dsimp[h3,h7,q8]) (by simp) (fun h o_h=> ?_)
   cases hF
   refine kx4 h3 h7 q8 o_h ?_
   exact⟨_,by decide,(.cell (.lit _ .nil) (.cell (.pk 3 rfl .nil) (.cell (.lit _ .nil) .nil)):CT _ _ _ _)⟩
 ·cases hF
  refine kx2 h3 q4 ?_
  exact⟨_,by decide,(.cell (.lit _ .nil) (.cell (.nilS none 0 .nil) (.cell (.lit _ .nil) .nil)):CT _ _ _ _)⟩
theorem CC.f216  :(∀(a:Vl.Value) (b:Vl.Value) (r:Bool),F.f216 a b=some r->PureCall zQ B 16 [.agg [li a.ctor,li a.n,am Vl.Value.c a.kids],.agg [li b.ctor,li b.n,am Vl.Value.c b.kids]] (.lit (.bool r)))/\
  (∀(a:List Vl.Value) (b:List Vl.Value) (r:Bool),F.f217 a b=some r->PureCall zQ B 38 [am Vl.Value.c a,am Vl.Value.c b] (.lit (.bool r)))/\
  (∀(a:List Vl.Value) (b:List Vl.Value) (i:Nat) (o:Lo Bool Unit),F.f218 a b i=some o->∀(c:Code),ZP [1,1,0,1,0,0] (ZG Tryz.f38)=some c->∀(Q:Exit->ASt->Prop),o.post (fun r=>∀st,ZAD zQ Tryz.f38 (fun r' _=>r'.le (.lit (.bool r))) .ret st->Q .ret st) (fun s=>Q (.exit 0) ⟨[],[]⟩)->ALoopU zQ B 0 27 (hold c .mk) ⟨[(0,am Vl.Value.c a),(1,am Vl.Value.c b),(5,li (i:Int))],[]⟩ (hold Q .mk)):=by
 refine F.f216.mutual_partial_correctness 
  _ _ _
  ?_ ?_ ?_
 ·intro _f_f217 ih_f217 a b r hF
  refine yR func16 rfl ntmps16 ?_
  refine kz ?_
  revert hF;refine aN ?_ ?_<;>intro h1 q2 hF
  ·cases hF
   repeat first|refine cg ?_|simp -dsimp[h1,q2]
  ·refine kz ?_
   revert hF;refine aN ?_ ?_<;>intro h3 q4 hF
   ·cases hF
    repeat first|refine cg ?_|simp -dsimp[h3,q4]
   ·refine kz ?_
    have hF:=ob hF;obtain⟨v,e5,hF⟩:=hF
    refine((ih_f217 a.kids b.kids v e5)).goI ?_
    refine kz ?_
    revert hF;refine aN (fun h6 q7 hF=> ?_) (fun h6 q7 hF=> ?_)
    ·cases hF
     repeat first|refine cg ?_|simp -dsimp[h6,q7]
    ·cases hF
     repeat first|refine cg ?_|simp -dsimp
 ·intro _f_f218 ih_f218 a b r hF
  refine yR func38 rfl ntmps38 ?_
  refine kz ?_
  revert hF;refine aN ?_ ?_<;>intro h1 q2 hF
  ·have z3:¬((a.length:Int)=(b.length:Int)):=auz
   cases hF
   repeat first|refine cg ?_|simp -dsimp[z3]
  ·have z3:((a.length:Int)=(b.length:Int)):=auz
   refine kz ?_
   have hF:=ob hF;obtain⟨o',ho14,hF⟩:=hF
   refine yG ((ih_f218 a b 0 o' ho14) _ rfl _ ?_)
   rcases o' with r0|sx
   ·dsimp only at hF
    cases hF
    intro st h
    simpa using h
   ·dsimp only at hF
    cases hF
    repeat first|refine cg ?_|simp -dsimp
 ·intro _f_f216 _f_f218 ih_f216 ih_f218 a b i o hF
  refine ZI rfl fun Q hq hk hs=> ?_
  have b0:=hk 0
  simp -dsimp at b0
  have b1:=hk 1
  simp -dsimp at b1
  clear hk hs
  refine eN ?_
  refine kz ?_
  revert hF;refine aS ?_ ?_<;>intro h4 q5 hF
  ·have z6:((i:Int)<(a.length:Int)):=auz
   refine kx2 h4 z6 ?_
   refine yN follows ?_
   have hF:=ob hF;obtain⟨x,e7,hF⟩:=hF
   have le7:=ZB e7
   have hF:=ob hF;obtain⟨x8,e9,hF⟩:=hF
   have le9:=ZB e9
   repeat first|refine cg ?_|simp -dsimp[↓e7,↓e9]
   have hF:=ob hF;obtain⟨v,e10,hF⟩:=hF
   refine((ih_f216 x x8 v e10)).pgoW (by simp_all) (by simp) ?_
   refine kz ?_
   revert hF;refine aN (fun h11 q12 hF=> ?_) (fun h11 q12 hF=> ?_)
   ·cases hF
    refine kx2 h11 q12 ?_
    refine lG _ (gR _) (hq _ ?_)
    repeat first|refine cg ?_|simp -dsimp
   ·have w13:i64.wrap ((i:Int)+1)=(i:Int)+1:=ZE (by omega) (by omega)
    refine kx1 w13 ?_
    refine zN ((ih_f218 a b (i+1) o hF) _ rfl _ hq)
  ·have z6:¬((i:Int)<(a.length:Int)):=auz
   cases hF
   refine kx3 h4 q5 z6 ?_
   refine zO hq
theorem C.f219 (a:Bind)(b:Bind)(r:Bool)(hF:F.f219 a b=some r):PureCall zQ B 35 [.agg [li a.var,li a.value.ctor,li a.value.n,am Vl.Value.c a.value.kids],.agg [li b.var,li b.value.ctor,li b.value.n,am Vl.Value.c b.value.kids]] (.lit (.bool r)):=by
 unfold F.f219 at hF
 refine yR func35 rfl ntmps35 ?_
 refine kz ?_
 revert hF;refine aN ?_ ?_<;>intro h1 q2 hF
 ·cases hF
  repeat first|refine cg ?_|simp -dsimp[h1,q2]
 ·refine kz ?_
  have hF:=ob hF;obtain⟨v,e3,hF⟩:=hF
  refine(((CC.f216 B hB1 hB2).1 a.value b.value v e3)).goI ?_
  refine kz ?_
  revert hF;refine aN (fun h4 q5 hF=> ?_) (fun h4 q5 hF=> ?_)
  ·cases hF
   repeat first|refine cg ?_|simp -dsimp[h4,q5]
  ·cases hF
   repeat first|refine cg ?_|simp -dsimp
theorem CC.f220 (a:List Bind)(b:List Bind):(∀(i:Nat) (o:Lo Bool Unit),F.f220 a b i=some o->∀(c:Code),ZP [1,1,0,1,0,0] (ZG Tryz.f13)=some c->∀(Q:Exit->ASt->Prop),o.post (fun r=>∀st,ZAD zQ Tryz.f13 (fun r' _=>r'.le (.lit (.bool r))) .ret st->Q .ret st) (fun s=>Q (.exit 0) ⟨[],[]⟩)->ALoopU zQ B 0 27 (hold c .mk) ⟨[(0,am xC a),(1,am xC b),(5,li (i:Int))],[]⟩ (hold Q .mk)):=by
 refine F.f220.partial_correctness a b
  _
  ?_
 ·intro _f_f220 ih_f220 i o hF
  refine ZI rfl fun Q hq hk hs=> ?_
  have b0:=hk 0
  simp -dsimp at b0
  have b1:=hk 1
  simp -dsimp at b1
  clear hk hs
  refine eN ?_
  refine kz ?_
  revert hF;refine aS ?_ ?_<;>intro h4 q5 hF
  ·have z6:((i:Int)<(a.length:Int)):=auz
   refine kx2 h4 z6 ?_
   refine yN follows ?_
   have hF:=ob hF;obtain⟨x,e7,hF⟩:=hF
   have le7:=ZB e7
   have hF:=ob hF;obtain⟨x8,e9,hF⟩:=hF
   have le9:=ZB e9
   repeat first|refine cg ?_|simp -dsimp[↓e7,↓e9]
   have hF:=ob hF;obtain⟨v,e10,hF⟩:=hF
   refine((C.f219 B hB1 hB2 x x8 v e10)).pgoW (by simp_all) (by simp) ?_
   refine kz ?_
   revert hF;refine aN (fun h11 q12 hF=> ?_) (fun h11 q12 hF=> ?_)
   ·cases hF
    refine kx2 h11 q12 ?_
    refine lG _ (gR _) (hq _ ?_)
    repeat first|refine cg ?_|simp -dsimp
   ·have w13:i64.wrap ((i:Int)+1)=(i:Int)+1:=ZE (by omega) (by omega)
    refine kx1 w13 ?_
    refine zN ((ih_f220 (i+1) o hF) _ rfl _ hq)
  ·have z6:¬((i:Int)<(a.length:Int)):=auz
   cases hF
   refine kx3 h4 q5 z6 ?_
   refine zO hq
theorem C.f221 (a:List Bind)(b:List Bind)(r:Bool)(hF:F.f221 a b=some r):PureCall zQ B 13 [am xC a,am xC b] (.lit (.bool r)):=by
 unfold F.f221 at hF
 refine yR func13 rfl ntmps13 ?_
 refine kz ?_
 revert hF;refine aN ?_ ?_<;>intro h1 q2 hF
 ·have z3:¬((a.length:Int)=(b.length:Int)):=auz
  cases hF
  repeat first|refine cg ?_|simp -dsimp[h1,q2,z3]
 ·have z3:((a.length:Int)=(b.length:Int)):=auz
  refine kz ?_
  have hF:=ob hF;obtain⟨o',ho14,hF⟩:=hF
  refine yG (((CC.f220 B hB1 hB2 a b) 0 o' ho14) _ rfl _ ?_)
  rcases o' with r0|sx
  ·dsimp only at hF
   cases hF
   intro st h
   simpa using h
  ·dsimp only at hF
   cases hF
   repeat first|refine cg ?_|simp -dsimp
theorem C.f222 (a:Ty)(b:Ty)(r:Bool)(hF:F.f222 a b=some r):PureCall zQ B 151 [.agg [li a.data,li a.index],.agg [li b.data,li b.index]] (.lit (.bool r)):=by
 unfold F.f222 at hF
 refine yR func151 rfl ntmps151 ?_
 refine kz ?_
 revert hF;refine aN ?_ ?_<;>intro h1 q2 hF
 ·cases hF
  repeat first|refine cg ?_|simp -dsimp[h1,q2]
 ·refine kz ?_
  revert hF;refine aN ?_ ?_<;>intro h3 q4 hF
  ·cases hF
   repeat first|refine cg ?_|simp -dsimp[h3,q4]
  ·cases hF
   repeat first|refine cg ?_|simp -dsimp
theorem CC.f223 (a:List Ty)(b:List Ty):(∀(i:Nat) (o:Lo Bool Unit),F.f223 a b i=some o->∀(c:Code),ZP [1,1,0,1,0,0] (ZG Tryz.f133)=some c->∀(Q:Exit->ASt->Prop),o.post (fun r=>∀st,ZAD zQ Tryz.f133 (fun r' _=>r'.le (.lit (.bool r))) .ret st->Q .ret st) (fun s=>Q (.exit 0) ⟨[],[]⟩)->ALoopU zQ B 0 27 (hold c .mk) ⟨[(0,am yC a),(1,am yC b),(5,li (i:Int))],[]⟩ (hold Q .mk)):=by
 refine F.f223.partial_correctness a b
  _
  ?_
 ·intro _f_f223 ih_f223 i o hF
  refine ZI rfl fun Q hq hk hs=> ?_
  have b0:=hk 0
  simp -dsimp at b0
  have b1:=hk 1
  simp -dsimp at b1
  clear hk hs
  refine eN ?_
  refine kz ?_
  revert hF;refine aS ?_ ?_<;>intro h4 q5 hF
  ·have z6:((i:Int)<(a.length:Int)):=auz
   refine kx2 h4 z6 ?_
   refine yN follows ?_
   have hF:=ob hF;obtain⟨x,e7,hF⟩:=hF
   have le7:=ZB e7
   have hF:=ob hF;obtain⟨x8,e9,hF⟩:=hF
   have le9:=ZB e9
   repeat first|refine cg ?_|simp -dsimp[↓e7,↓e9]
   have hF:=ob hF;obtain⟨v,e10,hF⟩:=hF
   refine((C.f222 B hB1 hB2 x x8 v e10)).pgoW (by simp_all) (by simp) ?_
   refine kz ?_
   revert hF;refine aN (fun h11 q12 hF=> ?_) (fun h11 q12 hF=> ?_)
   ·cases hF
    refine kx2 h11 q12 ?_
    refine lG _ (gR _) (hq _ ?_)
    repeat first|refine cg ?_|simp -dsimp
   ·have w13:i64.wrap ((i:Int)+1)=(i:Int)+1:=ZE (by omega) (by omega)
    refine kx1 w13 ?_
    refine zN ((ih_f223 (i+1) o hF) _ rfl _ hq)
  ·have z6:¬((i:Int)<(a.length:Int)):=auz
   cases hF
   refine kx3 h4 q5 z6 ?_
   refine zO hq
theorem C.f224 (a:List Ty)(b:List Ty)(r:Bool)(hF:F.f224 a b=some r):PureCall zQ B 133 [am yC a,am yC b] (.lit (.bool r)):=by
 unfold F.f224 at hF
 refine yR func133 rfl ntmps133 ?_
 refine kz ?_
 revert hF;refine aN ?_ ?_<;>intro h1 q2 hF
 ·have z3:¬((a.length:Int)=(b.length:Int)):=auz
  cases hF
  repeat first|refine cg ?_|simp -dsimp[h1,q2,z3]
 ·have z3:((a.length:Int)=(b.length:Int)):=auz
  refine kz ?_
  have hF:=ob hF;obtain⟨o',ho14,hF⟩:=hF
  refine yG (((CC.f223 B hB1 hB2 a b) 0 o' ho14) _ rfl _ ?_)
  rcases o' with r0|sx
  ·dsimp only at hF
   cases hF
   intro st h
   simpa using h
  ·dsimp only at hF
   cases hF
   repeat first|refine cg ?_|simp -dsimp
theorem C.f225 (a:Ctor)(b:Ctor)(r:Bool)(hF:F.f225 a b=some r):PureCall zQ B 104 [.agg [.lit (.string a.name),am yC a.args,li a.index],.agg [.lit (.string b.name),am yC b.args,li b.index]] (.lit (.bool r)):=by
 unfold F.f225 at hF
 refine yR func104 rfl ntmps104 ?_
 refine kz ?_
 revert hF;refine aN ?_ ?_<;>intro h1 q2 hF
 ·cases hF
  repeat first|refine cg ?_|simp -dsimp[h1,q2]
 ·refine kz ?_
  have hF:=ob hF;obtain⟨v,e3,hF⟩:=hF
  refine((C.f224 B hB1 hB2 a.args b.args v e3)).goI ?_
  refine kz ?_
  revert hF;refine aN (fun h4 q5 hF=> ?_) (fun h4 q5 hF=> ?_)
  ·cases hF
   repeat first|refine cg ?_|simp -dsimp[h4,q5]
  ·refine kz ?_
   revert hF;refine aN ?_ ?_<;>intro h6 q7 hF
   ·cases hF
    repeat first|refine cg ?_|simp -dsimp[h6,q7]
   ·cases hF
    repeat first|refine cg ?_|simp -dsimp
theorem CC.f226 (a:List Ctor)(b:List Ctor):(∀(i:Nat) (o:Lo Bool Unit),F.f226 a b i=some o->∀(c:Code),ZP [1,1,0,1,0,0] (ZG Tryz.f69)=some c->∀(Q:Exit->ASt->Prop),o.post (fun r=>∀st,ZAD zQ Tryz.f69 (fun r' _=>r'.le (.lit (.bool r))) .ret st->Q .ret st) (fun s=>Q (.exit 0) ⟨[],[]⟩)->ALoopU zQ B 0 27 (hold c .mk) ⟨[(0,am xH a),(1,am xH b),(5,li (i:Int))],[]⟩ (hold Q .mk)):=by
 refine F.f226.partial_correctness a b
  _
  ?_
 ·intro _f_f226 ih_f226 i o hF
  refine ZI rfl fun Q hq hk hs=> ?_
  have b0:=hk 0
  simp -dsimp at b0
  have b1:=hk 1
  simp -dsimp at b1
  clear hk hs
  refine eN ?_
  refine kz ?_
  revert hF;refine aS ?_ ?_<;>intro h4 q5 hF
  ·have z6:((i:Int)<(a.length:Int)):=auz
   refine kx2 h4 z6 ?_
   refine yN follows ?_
   have hF:=ob hF;obtain⟨x,e7,hF⟩:=hF
   have le7:=ZB e7
   have hF:=ob hF;obtain⟨x8,e9,hF⟩:=hF
   have le9:=ZB e9
   repeat first|refine cg ?_|simp -dsimp[↓e7,↓e9]
   have hF:=ob hF;obtain⟨v,e10,hF⟩:=hF
   refine((C.f225 B hB1 hB2 x x8 v e10)).pgoW (by simp_all) (by simp) ?_
   refine kz ?_
   revert hF;refine aN (fun h11 q12 hF=> ?_) (fun h11 q12 hF=> ?_)
   ·cases hF
    refine kx2 h11 q12 ?_
    refine lG _ (gR _) (hq _ ?_)
    repeat first|refine cg ?_|simp -dsimp
   ·have w13:i64.wrap ((i:Int)+1)=(i:Int)+1:=ZE (by omega) (by omega)
    refine kx1 w13 ?_
    refine zN ((ih_f226 (i+1) o hF) _ rfl _ hq)
  ·have z6:¬((i:Int)<(a.length:Int)):=auz
   cases hF
   refine kx3 h4 q5 z6 ?_
   refine zO hq
theorem C.f227 (a:List Ctor)(b:List Ctor)(r:Bool)(hF:F.f227 a b=some r):PureCall zQ B 69 [am xH a,am xH b] (.lit (.bool r)):=by
 unfold F.f227 at hF
 refine yR func69 rfl ntmps69 ?_
 refine kz ?_
 revert hF;refine aN ?_ ?_<;>intro h1 q2 hF
 ·have z3:¬((a.length:Int)=(b.length:Int)):=auz
  cases hF
  repeat first|refine cg ?_|simp -dsimp[h1,q2,z3]
 ·have z3:((a.length:Int)=(b.length:Int)):=auz
  refine kz ?_
  have hF:=ob hF;obtain⟨o',ho14,hF⟩:=hF
  refine yG (((CC.f226 B hB1 hB2 a b) 0 o' ho14) _ rfl _ ?_)
  rcases o' with r0|sx
  ·dsimp only at hF
   cases hF
   intro st h
   simpa using h
  ·dsimp only at hF
   cases hF
   repeat first|refine cg ?_|simp -dsimp
theorem C.f228 (a:zP)(b:zP)(r:Bool)(hF:F.f228 a b=some r):PureCall zQ B 36 [.agg [.lit (.string a.name),am xH a.ctors],.agg [.lit (.string b.name),am xH b.ctors]] (.lit (.bool r)):=by
 unfold F.f228 at hF
 refine yR func36 rfl ntmps36 ?_
 refine kz ?_
 revert hF;refine aN ?_ ?_<;>intro h1 q2 hF
 ·cases hF
  repeat first|refine cg ?_|simp -dsimp[h1,q2]
 ·refine kz ?_
  have hF:=ob hF;obtain⟨v,e3,hF⟩:=hF
  refine((C.f227 B hB1 hB2 a.ctors b.ctors v e3)).goI ?_
  refine kz ?_
  revert hF;refine aN (fun h4 q5 hF=> ?_) (fun h4 q5 hF=> ?_)
  ·cases hF
   repeat first|refine cg ?_|simp -dsimp[h4,q5]
  ·cases hF
   repeat first|refine cg ?_|simp -dsimp
theorem CC.f229 (a:List zP)(b:List zP):(∀(i:Nat) (o:Lo Bool Unit),F.f229 a b i=some o->∀(c:Code),ZP [1,1,0,1,0,0] (ZG Tryz.f14)=some c->∀(Q:Exit->ASt->Prop),o.post (fun r=>∀st,ZAD zQ Tryz.f14 (fun r' _=>r'.le (.lit (.bool r))) .ret st->Q .ret st) (fun s=>Q (.exit 0) ⟨[],[]⟩)->ALoopU zQ B 0 27 (hold c .mk) ⟨[(0,am zR a),(1,am zR b),(5,li (i:Int))],[]⟩ (hold Q .mk)):=by
 refine F.f229.partial_correctness a b
  _
  ?_
 ·intro _f_f229 ih_f229 i o hF
  refine ZI rfl fun Q hq hk hs=> ?_
  have b0:=hk 0
  simp -dsimp at b0
  have b1:=hk 1
  simp -dsimp at b1
  clear hk hs
  refine eN ?_
  refine kz ?_
  revert hF;refine aS ?_ ?_<;>intro h4 q5 hF
  ·have z6:((i:Int)<(a.length:Int)):=auz
   refine kx2 h4 z6 ?_
   refine yN follows ?_
   have hF:=ob hF;obtain⟨x,e7,hF⟩:=hF
   have le7:=ZB e7
   have hF:=ob hF;obtain⟨x8,e9,hF⟩:=hF
   have le9:=ZB e9
   repeat first|refine cg ?_|simp -dsimp[↓e7,↓e9]
   have hF:=ob hF;obtain⟨v,e10,hF⟩:=hF
   refine((C.f228 B hB1 hB2 x x8 v e10)).pgoW (by simp_all) (by simp) ?_
   refine kz ?_
   revert hF;refine aN (fun h11 q12 hF=> ?_) (fun h11 q12 hF=> ?_)
   ·cases hF
    refine kx2 h11 q12 ?_
    refine lG _ (gR _) (hq _ ?_)
    repeat first|refine cg ?_|simp -dsimp
   ·have w13:i64.wrap ((i:Int)+1)=(i:Int)+1:=ZE (by omega) (by omega)
    refine kx1 w13 ?_
    refine zN ((ih_f229 (i+1) o hF) _ rfl _ hq)
  ·have z6:¬((i:Int)<(a.length:Int)):=auz
   cases hF
   refine kx3 h4 q5 z6 ?_
   refine zO hq
theorem C.f230 (a:List zP)(b:List zP)(r:Bool)(hF:F.f230 a b=some r):PureCall zQ B 14 [am zR a,am zR b] (.lit (.bool r)):=by
 unfold F.f230 at hF
 refine yR func14 rfl ntmps14 ?_
 refine kz ?_
 revert hF;refine aN ?_ ?_<;>intro h1 q2 hF
 ·have z3:¬((a.length:Int)=(b.length:Int)):=auz
  cases hF
  repeat first|refine cg ?_|simp -dsimp[h1,q2,z3]
 ·have z3:((a.length:Int)=(b.length:Int)):=auz
  refine kz ?_
  have hF:=ob hF;obtain⟨o',ho14,hF⟩:=hF
  refine yG (((CC.f229 B hB1 hB2 a b) 0 o' ho14) _ rfl _ ?_)
  rcases o' with r0|sx
  ·dsimp only at hF
   cases hF
   intro st h
   simpa using h
  ·dsimp only at hF
   cases hF
   repeat first|refine cg ?_|simp -dsimp
theorem CC.f231  :(∀(a:Pattern) (b:Pattern) (r:Bool),F.f231 a b=some r->PureCall zQ B 70 [.agg [li a.op,li a.ctor,li a.n,li a.m,li a.var,am zW a.kids],.agg [li b.op,li b.ctor,li b.n,li b.m,li b.var,am zW b.kids]] (.lit (.bool r)))/\
  (∀(a:List Pattern) (b:List Pattern) (r:Bool),F.f232 a b=some r->PureCall zQ B 105 [am zW a,am zW b] (.lit (.bool r)))/\
  (∀(a:List Pattern) (b:List Pattern) (i:Nat) (o:Lo Bool Unit),F.f233 a b i=some o->∀(c:Code),ZP [1,1,0,1,0,0] (ZG Tryz.f105)=some c->∀(Q:Exit->ASt->Prop),o.post (fun r=>∀st,ZAD zQ Tryz.f105 (fun r' _=>r'.le (.lit (.bool r))) .ret st->Q .ret st) (fun s=>Q (.exit 0) ⟨[],[]⟩)->ALoopU zQ B 0 27 (hold c .mk) ⟨[(0,am zW a),(1,am zW b),(5,li (i:Int))],[]⟩ (hold Q .mk)):=by
 refine F.f231.mutual_partial_correctness 
  _ _ _
  ?_ ?_ ?_
 ·intro _f_f232 ih_f232 a b r hF
  refine yR func70 rfl ntmps70 ?_
  refine kz ?_
  revert hF;refine aN ?_ ?_<;>intro h1 q2 hF
  ·cases hF
   repeat first|refine cg ?_|simp -dsimp[h1,q2]
  ·refine kz ?_
   revert hF;refine aN ?_ ?_<;>intro h3 q4 hF
   ·cases hF
    repeat first|refine cg ?_|simp -dsimp[h3,q4]
   ·refine kz ?_
    revert hF;refine aN ?_ ?_<;>intro h5 q6 hF
    ·cases hF
     repeat first|refine cg ?_|simp -dsimp[h5,q6]
    ·refine kz ?_
     revert hF;refine aN ?_ ?_<;>intro h7 q8 hF
     ·cases hF
      repeat first|refine cg ?_|simp -dsimp[h7,q8]
     ·refine kz ?_
      revert hF;refine aN ?_ ?_<;>intro h9 q10 hF
      ·cases hF
       repeat first|refine cg ?_|simp -dsimp[h9,q10]
      ·refine kz ?_
       have hF:=ob hF;obtain⟨v,e11,hF⟩:=hF
       refine((ih_f232 a.kids b.kids v e11)).goI ?_
       refine kz ?_
       revert hF;refine aN (fun h12 q13 hF=> ?_) (fun h12 q13 hF=> ?_)
       ·cases hF
        repeat first|refine cg ?_|simp -dsimp[h12,q13]
       ·cases hF
        repeat first|refine cg ?_|simp -dsimp
 ·intro _f_f233 ih_f233 a b r hF
  refine yR func105 rfl ntmps105 ?_
  refine kz ?_
  revert hF;refine aN ?_ ?_<;>intro h1 q2 hF
  ·have z3:¬((a.length:Int)=(b.length:Int)):=auz
   cases hF
   repeat first|refine cg ?_|simp -dsimp[z3]
  ·have z3:((a.length:Int)=(b.length:Int)):=auz
   refine kz ?_
   have hF:=ob hF;obtain⟨o',ho14,hF⟩:=hF
   refine yG ((ih_f233 a b 0 o' ho14) _ rfl _ ?_)
   rcases o' with r0|sx
   ·dsimp only at hF
    cases hF
    intro st h
    simpa using h
   ·dsimp only at hF
    cases hF
    repeat first|refine cg ?_|simp -dsimp
 ·intro _f_f231 _f_f233 ih_f231 ih_f233 a b i o hF
  refine ZI rfl fun Q hq hk hs=> ?_
  have b0:=hk 0
  simp -dsimp at b0
  have b1:=hk 1
  simp -dsimp at b1
  clear hk hs
  refine eN ?_
  refine kz ?_
  revert hF;refine aS ?_ ?_<;>intro h4 q5 hF
  ·have z6:((i:Int)<(a.length:Int)):=auz
   refine kx2 h4 z6 ?_
   refine yN follows ?_
   have hF:=ob hF;obtain⟨x,e7,hF⟩:=hF
   have le7:=ZB e7
   have hF:=ob hF;obtain⟨x8,e9,hF⟩:=hF
   have le9:=ZB e9
   repeat first|refine cg ?_|simp -dsimp[↓e7,↓e9]
   have hF:=ob hF;obtain⟨v,e10,hF⟩:=hF
   refine((ih_f231 x x8 v e10)).pgoW (by simp_all) (by simp) ?_
   refine kz ?_
   revert hF;refine aN (fun h11 q12 hF=> ?_) (fun h11 q12 hF=> ?_)
   ·cases hF
    refine kx2 h11 q12 ?_
    refine lG _ (gR _) (hq _ ?_)
    repeat first|refine cg ?_|simp -dsimp
   ·have w13:i64.wrap ((i:Int)+1)=(i:Int)+1:=ZE (by omega) (by omega)
    refine kx1 w13 ?_
    refine zN ((ih_f233 a b (i+1) o hF) _ rfl _ hq)
  ·have z6:¬((i:Int)<(a.length:Int)):=auz
   cases hF
   refine kx3 h4 q5 z6 ?_
   refine zO hq
theorem C.f234 (a:Guard)(b:Guard)(r:Bool)(hF:F.f234 a b=some r):PureCall zQ B 71 [.agg [li a.op,li a.var,li a.n],.agg [li b.op,li b.var,li b.n]] (.lit (.bool r)):=by
 unfold F.f234 at hF
 refine yR func71 rfl ntmps71 ?_
 refine kz ?_
 revert hF;refine aN ?_ ?_<;>intro h1 q2 hF
 ·cases hF
  repeat first|refine cg ?_|simp -dsimp[h1,q2]
 ·refine kz ?_
  revert hF;refine aN ?_ ?_<;>intro h3 q4 hF
  ·cases hF
   repeat first|refine cg ?_|simp -dsimp[h3,q4]
  ·refine kz ?_
   revert hF;refine aN ?_ ?_<;>intro h5 q6 hF
   ·cases hF
    repeat first|refine cg ?_|simp -dsimp[h5,q6]
   ·cases hF
    repeat first|refine cg ?_|simp -dsimp
theorem C.f235 (a:Clause)(b:Clause)(r:Bool)(hF:F.f235 a b=some r):PureCall zQ B 37 [.agg [li a.pat.op,li a.pat.ctor,li a.pat.n,li a.pat.m,li a.pat.var,am zW a.pat.kids,li a.guard.op,li a.guard.var,li a.guard.n],.agg [li b.pat.op,li b.pat.ctor,li b.pat.n,li b.pat.m,li b.pat.var,am zW b.pat.kids,li b.guard.op,li b.guard.var,li b.guard.n]] (.lit (.bool r)):=by
 unfold F.f235 at hF
 refine yR func37 rfl ntmps37 ?_
 refine kz ?_
 have hF:=ob hF;obtain⟨v,e1,hF⟩:=hF
 refine(((CC.f231 B hB1 hB2).1 a.pat b.pat v e1)).goI ?_
 refine kz ?_
 revert hF;refine aN (fun h2 q3 hF=> ?_) (fun h2 q3 hF=> ?_)
 ·cases hF
  repeat first|refine cg ?_|simp -dsimp[h2,q3]
 ·refine kz ?_
  have hF:=ob hF;obtain⟨v4,e5,hF⟩:=hF
  refine((C.f234 B hB1 hB2 a.guard b.guard v4 e5)).goI ?_
  refine kz ?_
  revert hF;refine aN (fun h6 q7 hF=> ?_) (fun h6 q7 hF=> ?_)
  ·cases hF
   repeat first|refine cg ?_|simp -dsimp[h6,q7]
  ·cases hF
   repeat first|refine cg ?_|simp -dsimp
theorem CC.f236 (a:List Clause)(b:List Clause):(∀(i:Nat) (o:Lo Bool Unit),F.f236 a b i=some o->∀(c:Code),ZP [1,1,0,1,0,0] (ZG Tryz.f15)=some c->∀(Q:Exit->ASt->Prop),o.post (fun r=>∀st,ZAD zQ Tryz.f15 (fun r' _=>r'.le (.lit (.bool r))) .ret st->Q .ret st) (fun s=>Q (.exit 0) ⟨[],[]⟩)->ALoopU zQ B 0 27 (hold c .mk) ⟨[(0,am yS a),(1,am yS b),(5,li (i:Int))],[]⟩ (hold Q .mk)):=by
 refine F.f236.partial_correctness a b
  _
  ?_
 ·intro _f_f236 ih_f236 i o hF
  refine ZI rfl fun Q hq hk hs=> ?_
  have b0:=hk 0
  simp -dsimp at b0
  have b1:=hk 1
  simp -dsimp at b1
  clear hk hs
  refine eN ?_
  refine kz ?_
  revert hF;refine aS ?_ ?_<;>intro h4 q5 hF
  ·have z6:((i:Int)<(a.length:Int)):=auz
   refine kx2 h4 z6 ?_
   refine yN follows ?_
   have hF:=ob hF;obtain⟨x,e7,hF⟩:=hF
   have le7:=ZB e7
   have hF:=ob hF;obtain⟨x8,e9,hF⟩:=hF
   have le9:=ZB e9
   repeat first|refine cg ?_|simp -dsimp[↓e7,↓e9]
   have hF:=ob hF;obtain⟨v,e10,hF⟩:=hF
   refine((C.f235 B hB1 hB2 x x8 v e10)).pgoW (by simp_all) (by simp) ?_
   refine kz ?_
   revert hF;refine aN (fun h11 q12 hF=> ?_) (fun h11 q12 hF=> ?_)
   ·cases hF
    refine kx2 h11 q12 ?_
    refine lG _ (gR _) (hq _ ?_)
    repeat first|refine cg ?_|simp -dsimp
   ·have w13:i64.wrap ((i:Int)+1)=(i:Int)+1:=ZE (by omega) (by omega)
    refine kx1 w13 ?_
    refine zN ((ih_f236 (i+1) o hF) _ rfl _ hq)
  ·have z6:¬((i:Int)<(a.length:Int)):=auz
   cases hF
   refine kx3 h4 q5 z6 ?_
   refine zO hq
theorem C.f237 (a:List Clause)(b:List Clause)(r:Bool)(hF:F.f237 a b=some r):PureCall zQ B 15 [am yS a,am yS b] (.lit (.bool r)):=by
 unfold F.f237 at hF
 refine yR func15 rfl ntmps15 ?_
 refine kz ?_
 revert hF;refine aN ?_ ?_<;>intro h1 q2 hF
 ·have z3:¬((a.length:Int)=(b.length:Int)):=auz
  cases hF
  repeat first|refine cg ?_|simp -dsimp[h1,q2,z3]
 ·have z3:((a.length:Int)=(b.length:Int)):=auz
  refine kz ?_
  have hF:=ob hF;obtain⟨o',ho14,hF⟩:=hF
  refine yG (((CC.f236 B hB1 hB2 a b) 0 o' ho14) _ rfl _ ?_)
  rcases o' with r0|sx
  ·dsimp only at hF
   cases hF
   intro st h
   simpa using h
  ·dsimp only at hF
   cases hF
   repeat first|refine cg ?_|simp -dsimp
theorem CC.f238  :(∀(a:List Vl.Value) (k:Int) (r:Int),F.f238 a k=some r->PureCall zQ B 43 [am Vl.Value.c a,li k] (li r))/\
  (∀(a:List Vl.Value) (k1:Int) (i:Nat) (o:Lo Int Int),F.f239 a k1 i=some o->∀(c:Code),ZP [1,0,1,0,0] (ZG Tryz.f43)=some c->∀(Q:Exit->ASt->Prop),o.post (fun r=>∀st,ZAD zQ Tryz.f43 (fun r' _=>r'.le (li r)) .ret st->Q .ret st) (fun s=>Q (.exit 0) ⟨[(1,li s)],[]⟩)->ALoopU zQ B 0 40 (hold c .mk) ⟨[(0,am Vl.Value.c a),(1,li k1),(5,li (i:Int))],[]⟩ (hold Q .mk)):=by
 refine F.f238.mutual_partial_correctness 
  _ _
  ?_ ?_
 ·intro _f_f239 ih_f239 a k r hF
  refine yR func43 rfl ntmps43 ?_
  refine kz ?_
  have hF:=ob hF;obtain⟨o',ho14,hF⟩:=hF
  refine yG ((ih_f239 a k 0 o' ho14) _ rfl _ ?_)
  rcases o' with r0|sx
  ·dsimp only at hF
   cases hF
   intro st h
   simpa using h
  ·dsimp only at hF
   cases hF
   repeat first|refine cg ?_|simp -dsimp
 ·intro _f_f238 _f_f239 ih_f238 ih_f239 a k1 i o hF
  refine ZI rfl fun Q hq hk hs=> ?_
  have b0:=hk 0
  simp -dsimp at b0
  clear hk hs
  refine eN ?_
  refine kz ?_
  revert hF;refine aS ?_ ?_<;>intro h2 q3 hF
  ·have z4:((i:Int)<(a.length:Int)):=auz
   have hF:=ob hF;obtain⟨x,e5,hF⟩:=hF
   have le5:=ZB e5
   repeat first|refine cg ?_|simp -dsimp[h2,z4,↓e5]
   revert hF;refine aN ?_ ?_<;>intro h6 q7 hF
   ·cases hF
    repeat first|refine cg ?_|simp -dsimp[↓e5,h6,q7]
    refine lG _ (gR _) (hq _ ?_)
    repeat first|refine cg ?_|simp -dsimp[↓e5]
   ·repeat first|refine cg ?_|simp -dsimp[↓e5]
    revert hF;refine aN ?_ ?_<;>intro h8 q9 hF
    ·cases hF
     repeat first|refine cg ?_|simp -dsimp[↓e5,h8,q9]
     refine lG _ (gR _) (hq _ ?_)
     repeat first|refine cg ?_|simp -dsimp[↓e5]
    ·repeat first|refine cg ?_|simp -dsimp[↓e5]
     have hF:=ob hF;obtain⟨v,e10,hF⟩:=hF
     refine((ih_f238 x.kids (i64.wrap (i64.wrap (k1+1)+1)) v e10)).goI ?_
     repeat first|refine cg ?_|simp -dsimp[↓e5]
     revert hF;refine aS ?_ ?_<;>intro h11 q12 hF
     ·cases hF
      repeat first|refine cg ?_|simp -dsimp[↓e5,h11]
      refine lG _ (gR _) (hq _ ?_)
      repeat first|refine cg ?_|simp -dsimp[↓e5]
     ·have w13:i64.wrap ((i:Int)+1)=(i:Int)+1:=ZE (by omega) (by omega)
      repeat first|refine cg ?_|simp -dsimp[↓e5,q12,w13]
      refine zN ((ih_f239 a v (i+1) o hF) _ rfl _ hq)
  ·have z4:¬((i:Int)<(a.length:Int)):=auz
   cases hF
   refine kx3 h2 q3 z4 ?_
   refine zO hq
theorem CC.f240 (a:List Bind):(∀(k1:Int) (i:Nat) (o:Lo Int Int),F.f240 a k1 i=some o->∀(c:Code),ZP [1,0,1,0,0] (ZG Tryz.f21)=some c->∀(Q:Exit->ASt->Prop),o.post (fun r=>∀st,ZAD zQ Tryz.f21 (fun r' _=>r'.le (li r)) .ret st->Q .ret st) (fun s=>Q (.exit 0) ⟨[(1,li s)],[]⟩)->ALoopU zQ B 0 52 (hold c .mk) ⟨[(0,am xC a),(1,li k1),(5,li (i:Int))],[]⟩ (hold Q .mk)):=by
 refine F.f240.partial_correctness a
  _
  ?_
 ·intro _f_f240 ih_f240 k1 i o hF
  refine ZI rfl fun Q hq hk hs=> ?_
  have b0:=hk 0
  simp -dsimp at b0
  clear hk hs
  refine eN ?_
  refine kz ?_
  revert hF;refine aS ?_ ?_<;>intro h2 q3 hF
  ·have z4:((i:Int)<(a.length:Int)):=auz
   have hF:=ob hF;obtain⟨x,e5,hF⟩:=hF
   have le5:=ZB e5
   repeat first|refine cg ?_|simp -dsimp[h2,z4,↓e5]
   revert hF;refine aN ?_ ?_<;>intro h6 q7 hF
   ·cases hF
    repeat first|refine cg ?_|simp -dsimp[↓e5,h6,q7]
    refine lG _ (gR _) (hq _ ?_)
    repeat first|refine cg ?_|simp -dsimp[↓e5]
   ·repeat first|refine cg ?_|simp -dsimp[↓e5]
    revert hF;refine aN ?_ ?_<;>intro h8 q9 hF
    ·cases hF
     repeat first|refine cg ?_|simp -dsimp[↓e5,h8,q9]
     refine lG _ (gR _) (hq _ ?_)
     repeat first|refine cg ?_|simp -dsimp[↓e5]
    ·repeat first|refine cg ?_|simp -dsimp[↓e5]
     revert hF;refine aN ?_ ?_<;>intro h10 q11 hF
     ·cases hF
      repeat first|refine cg ?_|simp -dsimp[↓e5,h10,q11]
      refine lG _ (gR _) (hq _ ?_)
      repeat first|refine cg ?_|simp -dsimp[↓e5]
     ·repeat first|refine cg ?_|simp -dsimp[↓e5]
      have hF:=ob hF;obtain⟨v,e12,hF⟩:=hF
      refine(((CC.f238 B hB1 hB2).1 x.value.kids (i64.wrap (i64.wrap (i64.wrap (k1+1)+1)+1)) v e12)).goI ?_
      repeat first|refine cg ?_|simp -dsimp[↓e5]
      revert hF;refine aS ?_ ?_<;>intro h13 q14 hF
      ·cases hF
       repeat first|refine cg ?_|simp -dsimp[↓e5,h13]
       refine lG _ (gR _) (hq _ ?_)
       repeat first|refine cg ?_|simp -dsimp[↓e5]
      ·have w15:i64.wrap ((i:Int)+1)=(i:Int)+1:=ZE (by omega) (by omega)
       repeat first|refine cg ?_|simp -dsimp[↓e5,q14,w15]
       refine zN ((ih_f240 v (i+1) o hF) _ rfl _ hq)
  ·have z4:¬((i:Int)<(a.length:Int)):=auz
   cases hF
   refine kx3 h2 q3 z4 ?_
   refine zO hq
theorem C.f241 (a:List Bind)(k:Int)(r:Int)(hF:F.f241 a k=some r):PureCall zQ B 21 [am xC a,li k] (li r):=by
 unfold F.f241 at hF
 refine yR func21 rfl ntmps21 ?_
 refine kz ?_
 have hF:=ob hF;obtain⟨o',ho16,hF⟩:=hF
 refine yG (((CC.f240 B hB1 hB2 a) k 0 o' ho16) _ rfl _ ?_)
 rcases o' with r0|sx
 ·dsimp only at hF
  cases hF
  intro st h
  simpa using h
 ·dsimp only at hF
  cases hF
  repeat first|refine cg ?_|simp -dsimp
theorem CM.laws_markPatternS :∀m:Nat,(∀(a:List Pattern) (k:Int),SizeOf.sizeOf a<m->MCall zQ B 41 (zA zW a) [.int .i64 k] (zA zW (zX a k).1) (.int .i64 (zX a k).2)):=by
 intro m
 induction m with
 |zero=>exact fun a k h=>absurd h (zJ _)
 |succ m ih=>
  intro a0 k0 hm
  have hz0:∀x,x∈a0->SizeOf.sizeOf x<m:=fun x hx=>by have:=zF hx;omega
  have loop:∀(rest D:List Pattern) (k:Int) (i n:Nat) (rows:List (List AV)) (us:List Go.Value),(∀x,x∈rest->SizeOf.sizeOf x<m)->i=D.length->n=i+rest.length->RW 6 n rows us->
    ∀(c:Code),ZP [1,0,1,0,0] (ZG Tryz.f41)=some c->∀(Q:Exit->ASt->Prop),
    (∀(R:List (List AV)) (U:List Go.Value),RW 6 n R U->Q (.exit 0) ⟨[(1,.lit (.int .i64 (zX rest k).2))],[.elems 6 R,.pack (List.flatten (zA zW (D++(zX rest k).1))) U]⟩)->
    ALoopU zQ B 2 55 (hold c .mk) ⟨[(0,.own 0 n),(1,.lit (.int .i64 k)),(5,.lit (.int .i64 (i:Int)))],[.elems 6 rows,.pack (List.flatten (zA zW (D++rest))) us]⟩ (hold Q .mk):=by
   intro rest
   induction rest with
   |nil=>
    intro D k i n rows us hz hi hn H c hc Q hq
    obtain rfl:c=_:=ZAi hc rfl
    have hn':n=i:=by simpa using hn
    subst hn'
    refine eN ?_
    repeat first|refine cg ?_|simp -dsimp[RW.len H]
    refine lG ⟨[(1,.lit (.int .i64 k))],[.elems 6 rows,.pack (List.flatten (zA zW D)) us]⟩ (gT (by simp) (by simp -dsimp[RW.closed H])) ?_
    simpa[zX]using hq rows us H
   |cons x r ihr=>
    intro D k i n rows us hz hi hn H c hc Q hq
    refine xK 1 (List.flatten (zA zW D)) (zW x) (List.flatten (zA zW r)) rfl (by simp) (by simp) ?_
    intro h1 vs UA UC o_h1 hlt hU hlA
    have hv:vs=[.int .i64 x.op,.int .i64 x.ctor,.int .i64 x.n,.int .i64 x.m,.int .i64 x.var,h1]:=by apply ZA9;rw[←hlt];simp
    subst hv hU
    have hUA:UA.length=i*6:=by rw[hlA,ZAF zY,hi]
    have hin:i<n:=by simp at hn;omega
    have hrow:rows[i]? =some [.lit (.int .i64 x.op),.lit (.int .i64 x.ctor),.lit (.int .i64 x.n),.lit (.int .i64 x.m),.lit (.int .i64 x.var),.lit h1]:=by simpa using H.at hin rfl hUA rfl
    have hne:¬rows=[]:=by intro e;rw[e]at hrow;simp at hrow
    have hrl:=RW.len H
    have hrow':∀(h:i<rows.length),rows[i]=[.lit (.int .i64 x.op),.lit (.int .i64 x.ctor),.lit (.int .i64 x.n),.lit (.int .i64 x.m),.lit (.int .i64 x.var),.lit h1]:=fun h=>by rw[zC h]at hrow;exact zK hrow
    have hset:∀a,(rows.set i a)[i]? =some a:=fun a=>zE (by omega)
    clear hlt
    refine kN fun hk hs=> ?_
    have d0:=hs 0 _ rfl
    simp -dsimp[zM]at d0
    clear hk hs
    obtain rfl:c=_:=ZAi hc rfl
    have w1:i64.wrap ((i:Int)+1)=(i:Int)+1:=ZE (by omega) (by omega)
    refine eN ?_
    repeat first|refine cg ?_|simp -dsimp[hne,hrow,hrow',hset,hrl,hin,w1,List.set_set,o_h1]
    have sz0:SizeOf.sizeOf x.kids<m:=by have h0:=hz x (by simp);cases x;simp at h0 ⊢;omega
    refine(ih x.kids (i64.wrap ((i64.wrap ((i64.wrap ((i64.wrap ((i64.wrap (k+1))+1))+1))+1))+1)) sz0).go 2 rfl (by simp) ?_
    refine kx1 w1 ?_
    refine aG ⟨[(0,.own 0 n),(1,.lit (.int .i64 ((zX x.kids (i64.wrap ((i64.wrap ((i64.wrap ((i64.wrap ((i64.wrap (k+1))+1))+1))+1))+1))).2))),(5,.lit (.int .i64 ((i+1:Nat):Int)))],[.elems 6 (rows.set i [.lit (.int .i64 k),.lit (.int .i64 (i64.wrap (k+1))),.lit (.int .i64 (i64.wrap ((i64.wrap (k+1))+1))),.lit (.int .i64 (i64.wrap ((i64.wrap ((i64.wrap (k+1))+1))+1))),.lit (.int .i64 (i64.wrap ((i64.wrap ((i64.wrap ((i64.wrap (k+1))+1))+1))+1))),.lit h1]),.pack (List.flatten (zA zW ((D++[(⟨k,i64.wrap (k+1),i64.wrap ((i64.wrap (k+1))+1),i64.wrap ((i64.wrap ((i64.wrap (k+1))+1))+1),i64.wrap ((i64.wrap ((i64.wrap ((i64.wrap (k+1))+1))+1))+1),(zX x.kids (i64.wrap ((i64.wrap ((i64.wrap ((i64.wrap ((i64.wrap (k+1))+1))+1))+1))+1))).1⟩:Pattern)])++r))) (UA++([.int .i64 k,.int .i64 (i64.wrap (k+1)),.int .i64 (i64.wrap ((i64.wrap (k+1))+1)),.int .i64 (i64.wrap ((i64.wrap ((i64.wrap (k+1))+1))+1)),.int .i64 (i64.wrap ((i64.wrap ((i64.wrap ((i64.wrap (k+1))+1))+1))+1)),h1]++UC))]⟩
     (by refine yH (yI 1 [2] (XA:=List.flatten (zA zW D)) (old:=[.lit (.int .i64 x.op),.lit (.int .i64 x.ctor),.lit (.int .i64 x.n),.lit (.int .i64 x.m),.lit (.int .i64 x.var),.lit h1]) (XC:=List.flatten (zA zW r)) (UA:=UA) (uo:=[.int .i64 x.op,.int .i64 x.ctor,.int .i64 x.n,.int .i64 x.m,.int .i64 x.var,h1]) (UC:=UC) (by exact rfl) (by simp) (by simp) hlA rfl (.lit (.int .i64 k) (.lit (.int .i64 (i64.wrap (k+1))) (.lit (.int .i64 (i64.wrap ((i64.wrap (k+1))+1))) (.lit (.int .i64 (i64.wrap ((i64.wrap ((i64.wrap (k+1))+1))+1))) (.lit (.int .i64 (i64.wrap ((i64.wrap ((i64.wrap ((i64.wrap (k+1))+1))+1))+1))) (.pk 2 (by exact rfl) .nil)))))) (by decide)) ?_;exact gT (by simp) (by simp -dsimp[RW.closed H])) ?_
    have he:zX (x::r) k=((⟨k,i64.wrap (k+1),i64.wrap ((i64.wrap (k+1))+1),i64.wrap ((i64.wrap ((i64.wrap (k+1))+1))+1),i64.wrap ((i64.wrap ((i64.wrap ((i64.wrap (k+1))+1))+1))+1),(zX x.kids (i64.wrap ((i64.wrap ((i64.wrap ((i64.wrap ((i64.wrap (k+1))+1))+1))+1))+1))).1⟩:Pattern)::(zX r ((zX x.kids (i64.wrap ((i64.wrap ((i64.wrap ((i64.wrap ((i64.wrap (k+1))+1))+1))+1))+1))).2)).1,(zX r ((zX x.kids (i64.wrap ((i64.wrap ((i64.wrap ((i64.wrap ((i64.wrap (k+1))+1))+1))+1))+1))).2)).2):=by(first|rfl|(cases x;simp[zX,yA]))
    rw[he]at hq
    refine ihr (D++[(⟨k,i64.wrap (k+1),i64.wrap ((i64.wrap (k+1))+1),i64.wrap ((i64.wrap ((i64.wrap (k+1))+1))+1),i64.wrap ((i64.wrap ((i64.wrap ((i64.wrap (k+1))+1))+1))+1),(zX x.kids (i64.wrap ((i64.wrap ((i64.wrap ((i64.wrap ((i64.wrap (k+1))+1))+1))+1))+1))).1⟩:Pattern)]) _ (i+1) n _ _ (fun y hy=>hz y (zG _ hy)) (by simp[hi]) (by simp at hn;omega) (by simpa using H.setAt hin hUA rfl [.int .i64 k,.int .i64 (i64.wrap (k+1)),.int .i64 (i64.wrap ((i64.wrap (k+1))+1)),.int .i64 (i64.wrap ((i64.wrap ((i64.wrap (k+1))+1))+1)),.int .i64 (i64.wrap ((i64.wrap ((i64.wrap ((i64.wrap (k+1))+1))+1))+1)),h1] rfl) _ rfl _ fun R U hR=> ?_
    simpa using hq R U hR
  refine MCall.enter 6 func41 (by kernel_rfl) rfl ntmps41 (by simp) (by simp[zZ]) (fun e he=>by obtain⟨x,_,rfl⟩:=zD.1 he;exact zY x) ?_ ?_
  ·intro he
   have he:a0=[]:=by simpa using he
   subst he
   refine kz ?_
   refine yF ⟨[(0,.arr []),(1,.lit (.int .i64 k0)),(5,.lit (.int .i64 0))],[]⟩ (gT (by simp) (by simp -dsimp)) ?_
   refine eN ?_
   refine kz ?_
   refine lG _ (gR _) ?_
   repeat first|refine cg ?_|simp -dsimp
   all_goals(try simp[zX])
  ·intro hne rows us e1 e2 e3 e4
   have H:RW 6 a0.length rows us:=⟨by simpa using e2,e3,e1⟩
   refine kz ?_
   refine yF ⟨[(0,.own 0 a0.length),(1,.lit (.int .i64 k0)),(5,.lit (.int .i64 ((0:Nat):Int)))],[.elems 6 rows,.pack (List.flatten (zA zW ([]++a0))) us]⟩ (gT (by simp) (by simp -dsimp[RW.closed H])) ?_
   refine loop a0 [] k0 0 a0.length rows us hz0 rfl (by simp) H _ rfl _ ?_
   intro R U hR
   refine kz ?_
   exact⟨rfl,R,U,rfl,⟨1,by simp⟩,hR.2.2,by rw[hR.1];simp[zZ],fun x hx=>by obtain⟨y,_,rfl⟩:=zD.1 hx;exact zY y⟩
theorem C.f244 (a:List Pattern)(k:Int)(v:List Pattern×Int)(hF:F.f244 a k=some v):MCall zQ B 41 (zA zW a) [.int .i64 k] (zA zW v.1) (.int .i64 v.2):=by
 obtain rfl:=zK hF
 exact(CM.laws_markPatternS B hB1 hB2 (SizeOf.sizeOf a+1)) a k (Nat.lt_succ_self _)
theorem CM.laws_markClauseS :∀m:Nat,(∀(a:List Clause) (k:Int),SizeOf.sizeOf a<m->MCall zQ B 18 (zA yS a) [.int .i64 k] (zA yS (yT a k).1) (.int .i64 (yT a k).2)):=by
 intro m
 induction m with
 |zero=>exact fun a k h=>absurd h (zJ _)
 |succ m ih=>
  intro a0 k0 hm
  have hz0:∀x,x∈a0->SizeOf.sizeOf x<m:=fun x hx=>by have:=zF hx;omega
  have loop:∀(rest D:List Clause) (k:Int) (i n:Nat) (rows:List (List AV)) (us:List Go.Value),(∀x,x∈rest->SizeOf.sizeOf x<m)->i=D.length->n=i+rest.length->RW 9 n rows us->
    ∀(c:Code),ZP [1,0,1,0,0] (ZG Tryz.f18)=some c->∀(Q:Exit->ASt->Prop),
    (∀(R:List (List AV)) (U:List Go.Value),RW 9 n R U->Q (.exit 0) ⟨[(1,.lit (.int .i64 (yT rest k).2))],[.elems 9 R,.pack (List.flatten (zA yS (D++(yT rest k).1))) U]⟩)->
    ALoopU zQ B 2 85 (hold c .mk) ⟨[(0,.own 0 n),(1,.lit (.int .i64 k)),(5,.lit (.int .i64 (i:Int)))],[.elems 9 rows,.pack (List.flatten (zA yS (D++rest))) us]⟩ (hold Q .mk):=by
   intro rest
   induction rest with
   |nil=>
    intro D k i n rows us hz hi hn H c hc Q hq
    obtain rfl:c=_:=ZAi hc rfl
    have hn':n=i:=by simpa using hn
    subst hn'
    refine eN ?_
    repeat first|refine cg ?_|simp -dsimp[RW.len H]
    refine lG ⟨[(1,.lit (.int .i64 k))],[.elems 9 rows,.pack (List.flatten (zA yS D)) us]⟩ (gT (by simp) (by simp -dsimp[RW.closed H])) ?_
    simpa[yT]using hq rows us H
   |cons x r ihr=>
    intro D k i n rows us hz hi hn H c hc Q hq
    refine xK 1 (List.flatten (zA yS D)) (yS x) (List.flatten (zA yS r)) rfl (by simp) (by simp) ?_
    intro h1 vs UA UC o_h1 hlt hU hlA
    have hv:vs=[.int .i64 x.pat.op,.int .i64 x.pat.ctor,.int .i64 x.pat.n,.int .i64 x.pat.m,.int .i64 x.pat.var,h1,.int .i64 x.guard.op,.int .i64 x.guard.var,.int .i64 x.guard.n]:=by apply ZA9;rw[←hlt];simp
    subst hv hU
    have hUA:UA.length=i*9:=by rw[hlA,ZAF yU,hi]
    have hin:i<n:=by simp at hn;omega
    have hrow:rows[i]? =some [.lit (.int .i64 x.pat.op),.lit (.int .i64 x.pat.ctor),.lit (.int .i64 x.pat.n),.lit (.int .i64 x.pat.m),.lit (.int .i64 x.pat.var),.lit h1,.lit (.int .i64 x.guard.op),.lit (.int .i64 x.guard.var),.lit (.int .i64 x.guard.n)]:=by simpa using H.at hin rfl hUA rfl
    have hne:¬rows=[]:=by intro e;rw[e]at hrow;simp at hrow
    have hrl:=RW.len H
    have hrow':∀(h:i<rows.length),rows[i]=[.lit (.int .i64 x.pat.op),.lit (.int .i64 x.pat.ctor),.lit (.int .i64 x.pat.n),.lit (.int .i64 x.pat.m),.lit (.int .i64 x.pat.var),.lit h1,.lit (.int .i64 x.guard.op),.lit (.int .i64 x.guard.var),.lit (.int .i64 x.guard.n)]:=fun h=>by rw[zC h]at hrow;exact zK hrow
    have hset:∀a,(rows.set i a)[i]? =some a:=fun a=>zE (by omega)
    clear hlt
    refine kN fun hk hs=> ?_
    have d0:=hs 0 _ rfl
    simp -dsimp[zM]at d0
    clear hk hs
    obtain rfl:c=_:=ZAi hc rfl
    have w1:i64.wrap ((i:Int)+1)=(i:Int)+1:=ZE (by omega) (by omega)
    refine eN ?_
    repeat first|refine cg ?_|simp -dsimp[hne,hrow,hrow',hset,hrl,hin,w1,List.set_set,o_h1]
    refine(C.f244 B hB1 hB2 x.pat.kids (i64.wrap ((i64.wrap ((i64.wrap ((i64.wrap ((i64.wrap (k+1))+1))+1))+1))+1)) _ rfl).go 2 rfl (by simp) ?_
    repeat first|refine cg ?_|simp -dsimp[hne,hrow,hrow',hset,hrl,hin,w1,List.set_set,o_h1]
    refine aG ⟨[(0,.own 0 n),(1,.lit (.int .i64 (i64.wrap ((i64.wrap ((i64.wrap (((zX x.pat.kids (i64.wrap ((i64.wrap ((i64.wrap ((i64.wrap ((i64.wrap (k+1))+1))+1))+1))+1))).2)+1))+1))+1)))),(5,.lit (.int .i64 ((i+1:Nat):Int)))],[.elems 9 (rows.set i [.lit (.int .i64 k),.lit (.int .i64 (i64.wrap (k+1))),.lit (.int .i64 (i64.wrap ((i64.wrap (k+1))+1))),.lit (.int .i64 (i64.wrap ((i64.wrap ((i64.wrap (k+1))+1))+1))),.lit (.int .i64 (i64.wrap ((i64.wrap ((i64.wrap ((i64.wrap (k+1))+1))+1))+1))),.lit h1,.lit (.int .i64 ((zX x.pat.kids (i64.wrap ((i64.wrap ((i64.wrap ((i64.wrap ((i64.wrap (k+1))+1))+1))+1))+1))).2)),.lit (.int .i64 (i64.wrap (((zX x.pat.kids (i64.wrap ((i64.wrap ((i64.wrap ((i64.wrap ((i64.wrap (k+1))+1))+1))+1))+1))).2)+1))),.lit (.int .i64 (i64.wrap ((i64.wrap (((zX x.pat.kids (i64.wrap ((i64.wrap ((i64.wrap ((i64.wrap ((i64.wrap (k+1))+1))+1))+1))+1))).2)+1))+1)))]),.pack (List.flatten (zA yS ((D++[(⟨(⟨k,i64.wrap (k+1),i64.wrap ((i64.wrap (k+1))+1),i64.wrap ((i64.wrap ((i64.wrap (k+1))+1))+1),i64.wrap ((i64.wrap ((i64.wrap ((i64.wrap (k+1))+1))+1))+1),(zX x.pat.kids (i64.wrap ((i64.wrap ((i64.wrap ((i64.wrap ((i64.wrap (k+1))+1))+1))+1))+1))).1⟩:Pattern),(⟨(zX x.pat.kids (i64.wrap ((i64.wrap ((i64.wrap ((i64.wrap ((i64.wrap (k+1))+1))+1))+1))+1))).2,i64.wrap (((zX x.pat.kids (i64.wrap ((i64.wrap ((i64.wrap ((i64.wrap ((i64.wrap (k+1))+1))+1))+1))+1))).2)+1),i64.wrap ((i64.wrap (((zX x.pat.kids (i64.wrap ((i64.wrap ((i64.wrap ((i64.wrap ((i64.wrap (k+1))+1))+1))+1))+1))).2)+1))+1)⟩:Guard)⟩:Clause)])++r))) (UA++([.int .i64 k,.int .i64 (i64.wrap (k+1)),.int .i64 (i64.wrap ((i64.wrap (k+1))+1)),.int .i64 (i64.wrap ((i64.wrap ((i64.wrap (k+1))+1))+1)),.int .i64 (i64.wrap ((i64.wrap ((i64.wrap ((i64.wrap (k+1))+1))+1))+1)),h1,.int .i64 ((zX x.pat.kids (i64.wrap ((i64.wrap ((i64.wrap ((i64.wrap ((i64.wrap (k+1))+1))+1))+1))+1))).2),.int .i64 (i64.wrap (((zX x.pat.kids (i64.wrap ((i64.wrap ((i64.wrap ((i64.wrap ((i64.wrap (k+1))+1))+1))+1))+1))).2)+1)),.int .i64 (i64.wrap ((i64.wrap (((zX x.pat.kids (i64.wrap ((i64.wrap ((i64.wrap ((i64.wrap ((i64.wrap (k+1))+1))+1))+1))+1))).2)+1))+1))]++UC))]⟩
     (by refine yH (yI 1 [2] (XA:=List.flatten (zA yS D)) (old:=[.lit (.int .i64 x.pat.op),.lit (.int .i64 x.pat.ctor),.lit (.int .i64 x.pat.n),.lit (.int .i64 x.pat.m),.lit (.int .i64 x.pat.var),.lit h1,.lit (.int .i64 x.guard.op),.lit (.int .i64 x.guard.var),.lit (.int .i64 x.guard.n)]) (XC:=List.flatten (zA yS r)) (UA:=UA) (uo:=[.int .i64 x.pat.op,.int .i64 x.pat.ctor,.int .i64 x.pat.n,.int .i64 x.pat.m,.int .i64 x.pat.var,h1,.int .i64 x.guard.op,.int .i64 x.guard.var,.int .i64 x.guard.n]) (UC:=UC) (by exact rfl) (by simp) (by simp) hlA rfl (.lit (.int .i64 k) (.lit (.int .i64 (i64.wrap (k+1))) (.lit (.int .i64 (i64.wrap ((i64.wrap (k+1))+1))) (.lit (.int .i64 (i64.wrap ((i64.wrap ((i64.wrap (k+1))+1))+1))) (.lit (.int .i64 (i64.wrap ((i64.wrap ((i64.wrap ((i64.wrap (k+1))+1))+1))+1))) (.pk 2 (by exact rfl) (.lit (.int .i64 ((zX x.pat.kids (i64.wrap ((i64.wrap ((i64.wrap ((i64.wrap ((i64.wrap (k+1))+1))+1))+1))+1))).2)) (.lit (.int .i64 (i64.wrap (((zX x.pat.kids (i64.wrap ((i64.wrap ((i64.wrap ((i64.wrap ((i64.wrap (k+1))+1))+1))+1))+1))).2)+1))) (.lit (.int .i64 (i64.wrap ((i64.wrap (((zX x.pat.kids (i64.wrap ((i64.wrap ((i64.wrap ((i64.wrap ((i64.wrap (k+1))+1))+1))+1))+1))).2)+1))+1))) .nil))))))))) (by decide)) ?_;exact gT (by simp) (by simp -dsimp[RW.closed H])) ?_
    have he:yT (x::r) k=((⟨(⟨k,i64.wrap (k+1),i64.wrap ((i64.wrap (k+1))+1),i64.wrap ((i64.wrap ((i64.wrap (k+1))+1))+1),i64.wrap ((i64.wrap ((i64.wrap ((i64.wrap (k+1))+1))+1))+1),(zX x.pat.kids (i64.wrap ((i64.wrap ((i64.wrap ((i64.wrap ((i64.wrap (k+1))+1))+1))+1))+1))).1⟩:Pattern),(⟨(zX x.pat.kids (i64.wrap ((i64.wrap ((i64.wrap ((i64.wrap ((i64.wrap (k+1))+1))+1))+1))+1))).2,i64.wrap (((zX x.pat.kids (i64.wrap ((i64.wrap ((i64.wrap ((i64.wrap ((i64.wrap (k+1))+1))+1))+1))+1))).2)+1),i64.wrap ((i64.wrap (((zX x.pat.kids (i64.wrap ((i64.wrap ((i64.wrap ((i64.wrap ((i64.wrap (k+1))+1))+1))+1))+1))).2)+1))+1)⟩:Guard)⟩:Clause)::(yT r (i64.wrap ((i64.wrap ((i64.wrap (((zX x.pat.kids (i64.wrap ((i64.wrap ((i64.wrap ((i64.wrap ((i64.wrap (k+1))+1))+1))+1))+1))).2)+1))+1))+1))).1,(yT r (i64.wrap ((i64.wrap ((i64.wrap (((zX x.pat.kids (i64.wrap ((i64.wrap ((i64.wrap ((i64.wrap ((i64.wrap (k+1))+1))+1))+1))+1))).2)+1))+1))+1))).2):=by(first|rfl|(cases x;all_goals(try(rename_i t1 t0;cases t1;cases t0));simp[yT,Clause.mkE,yA,Guard.mkE]))
    rw[he]at hq
    refine ihr (D++[(⟨(⟨k,i64.wrap (k+1),i64.wrap ((i64.wrap (k+1))+1),i64.wrap ((i64.wrap ((i64.wrap (k+1))+1))+1),i64.wrap ((i64.wrap ((i64.wrap ((i64.wrap (k+1))+1))+1))+1),(zX x.pat.kids (i64.wrap ((i64.wrap ((i64.wrap ((i64.wrap ((i64.wrap (k+1))+1))+1))+1))+1))).1⟩:Pattern),(⟨(zX x.pat.kids (i64.wrap ((i64.wrap ((i64.wrap ((i64.wrap ((i64.wrap (k+1))+1))+1))+1))+1))).2,i64.wrap (((zX x.pat.kids (i64.wrap ((i64.wrap ((i64.wrap ((i64.wrap ((i64.wrap (k+1))+1))+1))+1))+1))).2)+1),i64.wrap ((i64.wrap (((zX x.pat.kids (i64.wrap ((i64.wrap ((i64.wrap ((i64.wrap ((i64.wrap (k+1))+1))+1))+1))+1))).2)+1))+1)⟩:Guard)⟩:Clause)]) _ (i+1) n _ _ (fun y hy=>hz y (zG _ hy)) (by simp[hi]) (by simp at hn;omega) (by simpa using H.setAt hin hUA rfl [.int .i64 k,.int .i64 (i64.wrap (k+1)),.int .i64 (i64.wrap ((i64.wrap (k+1))+1)),.int .i64 (i64.wrap ((i64.wrap ((i64.wrap (k+1))+1))+1)),.int .i64 (i64.wrap ((i64.wrap ((i64.wrap ((i64.wrap (k+1))+1))+1))+1)),h1,.int .i64 ((zX x.pat.kids (i64.wrap ((i64.wrap ((i64.wrap ((i64.wrap ((i64.wrap (k+1))+1))+1))+1))+1))).2),.int .i64 (i64.wrap (((zX x.pat.kids (i64.wrap ((i64.wrap ((i64.wrap ((i64.wrap ((i64.wrap (k+1))+1))+1))+1))+1))).2)+1)),.int .i64 (i64.wrap ((i64.wrap (((zX x.pat.kids (i64.wrap ((i64.wrap ((i64.wrap ((i64.wrap ((i64.wrap (k+1))+1))+1))+1))+1))).2)+1))+1))] rfl) _ rfl _ fun R U hR=> ?_
    simpa using hq R U hR
  refine MCall.enter 9 func18 (by kernel_rfl) rfl ntmps18 (by simp) (by simp[yV]) (fun e he=>by obtain⟨x,_,rfl⟩:=zD.1 he;exact yU x) ?_ ?_
  ·intro he
   have he:a0=[]:=by simpa using he
   subst he
   refine kz ?_
   refine yF ⟨[(0,.arr []),(1,.lit (.int .i64 k0)),(5,.lit (.int .i64 0))],[]⟩ (gT (by simp) (by simp -dsimp)) ?_
   refine eN ?_
   refine kz ?_
   refine lG _ (gR _) ?_
   repeat first|refine cg ?_|simp -dsimp
   all_goals(try simp[yT])
  ·intro hne rows us e1 e2 e3 e4
   have H:RW 9 a0.length rows us:=⟨by simpa using e2,e3,e1⟩
   refine kz ?_
   refine yF ⟨[(0,.own 0 a0.length),(1,.lit (.int .i64 k0)),(5,.lit (.int .i64 ((0:Nat):Int)))],[.elems 9 rows,.pack (List.flatten (zA yS ([]++a0))) us]⟩ (gT (by simp) (by simp -dsimp[RW.closed H])) ?_
   refine loop a0 [] k0 0 a0.length rows us hz0 rfl (by simp) H _ rfl _ ?_
   intro R U hR
   refine kz ?_
   exact⟨rfl,R,U,rfl,⟨1,by simp⟩,hR.2.2,by rw[hR.1];simp[yV],fun x hx=>by obtain⟨y,_,rfl⟩:=zD.1 hx;exact yU y⟩
theorem C.f245 (a:List Clause)(k:Int)(v:List Clause×Int)(hF:F.f245 a k=some v):MCall zQ B 18 (zA yS a) [.int .i64 k] (zA yS v.1) (.int .i64 v.2):=by
 obtain rfl:=zK hF
 exact(CM.laws_markClauseS B hB1 hB2 (SizeOf.sizeOf a+1)) a k (Nat.lt_succ_self _)
theorem CM.laws_markTypeS :∀m:Nat,(∀(a:List Ty) (k:Int),SizeOf.sizeOf a<m->MCall zQ B 72 (zA yC a) [.int .i64 k] (zA yC (yB a k).1) (.int .i64 (yB a k).2)):=by
 intro m
 induction m with
 |zero=>exact fun a k h=>absurd h (zJ _)
 |succ m ih=>
  intro a0 k0 hm
  have hz0:∀x,x∈a0->SizeOf.sizeOf x<m:=fun x hx=>by have:=zF hx;omega
  have loop:∀(rest D:List Ty) (k:Int) (i n:Nat) (rows:List (List AV)) (us:List Go.Value),(∀x,x∈rest->SizeOf.sizeOf x<m)->i=D.length->n=i+rest.length->RW 2 n rows us->
    ∀(c:Code),ZP [1,0,1,0,0] (ZG Tryz.f72)=some c->∀(Q:Exit->ASt->Prop),
    (∀(R:List (List AV)) (U:List Go.Value),RW 2 n R U->Q (.exit 0) ⟨[(1,.lit (.int .i64 (yB rest k).2))],[.elems 2 R,.pack (List.flatten (zA yC (D++(yB rest k).1))) U]⟩)->
    ALoopU zQ B 2 27 (hold c .mk) ⟨[(0,.own 0 n),(1,.lit (.int .i64 k)),(5,.lit (.int .i64 (i:Int)))],[.elems 2 rows,.pack (List.flatten (zA yC (D++rest))) us]⟩ (hold Q .mk):=by
   intro rest
   induction rest with
   |nil=>
    intro D k i n rows us hz hi hn H c hc Q hq
    obtain rfl:c=_:=ZAi hc rfl
    have hn':n=i:=by simpa using hn
    subst hn'
    refine eN ?_
    repeat first|refine cg ?_|simp -dsimp[RW.len H]
    refine lG ⟨[(1,.lit (.int .i64 k))],[.elems 2 rows,.pack (List.flatten (zA yC D)) us]⟩ (gT (by simp) (by simp -dsimp[RW.closed H])) ?_
    simpa[yB]using hq rows us H
   |cons x r ihr=>
    intro D k i n rows us hz hi hn H c hc Q hq
    refine ALoopU.opnAt 1 (List.flatten (zA yC D)) (yC x) (List.flatten (zA yC r)) rfl (by simp) ?_
    intro hs vs UA UC hl ho hlt hU hlA
    have hs0:hs=[]:=List.length_eq_zero_iff.1 (by simpa using hl)
    subst hs0
    have hv:vs=[.int .i64 x.data,.int .i64 x.index]:=by apply ZA9;rw[←hlt];simp
    subst hv hU
    have hUA:UA.length=i*2:=by rw[hlA,ZAF yD,hi]
    have hin:i<n:=by simp at hn;omega
    have hrow:rows[i]? =some [.lit (.int .i64 x.data),.lit (.int .i64 x.index)]:=by simpa using H.at hin rfl hUA rfl
    have hne:¬rows=[]:=by intro e;rw[e]at hrow;simp at hrow
    have hrl:=RW.len H
    have hrow':∀(h:i<rows.length),rows[i]=[.lit (.int .i64 x.data),.lit (.int .i64 x.index)]:=fun h=>by rw[zC h]at hrow;exact zK hrow
    have hset:∀a,(rows.set i a)[i]? =some a:=fun a=>zE (by omega)
    clear hlt
    refine kN fun hk hs=> ?_
    have d0:=hs 0 _ rfl
    simp -dsimp[zM]at d0
    clear hk hs
    obtain rfl:c=_:=ZAi hc rfl
    have w1:i64.wrap ((i:Int)+1)=(i:Int)+1:=ZE (by omega) (by omega)
    refine eN ?_
    repeat first|refine cg ?_|simp -dsimp[hne,hrow,hrow',hset,hrl,hin,w1,List.set_set]
    refine aG ⟨[(0,.own 0 n),(1,.lit (.int .i64 (i64.wrap ((i64.wrap (k+1))+1)))),(5,.lit (.int .i64 ((i+1:Nat):Int)))],[.elems 2 (rows.set i [.lit (.int .i64 k),.lit (.int .i64 (i64.wrap (k+1)))]),.pack (List.flatten (zA yC ((D++[(⟨k,i64.wrap (k+1)⟩:Ty)])++r))) (UA++([.int .i64 k,.int .i64 (i64.wrap (k+1))]++UC))]⟩
     (by refine yH (yI 1 [] (XA:=List.flatten (zA yC D)) (old:=[.lit (.int .i64 x.data),.lit (.int .i64 x.index)]) (XC:=List.flatten (zA yC r)) (UA:=UA) (uo:=[.int .i64 x.data,.int .i64 x.index]) (UC:=UC) (by exact rfl) (by simp) (by simp) hlA rfl (.lit (.int .i64 k) (.lit (.int .i64 (i64.wrap (k+1))) .nil)) (by decide)) ?_;exact gT (by simp) (by simp -dsimp[RW.closed H])) ?_
    have he:yB (x::r) k=((⟨k,i64.wrap (k+1)⟩:Ty)::(yB r (i64.wrap ((i64.wrap (k+1))+1))).1,(yB r (i64.wrap ((i64.wrap (k+1))+1))).2):=by(first|rfl|(cases x;simp[yB,Ty.mkE]))
    rw[he]at hq
    refine ihr (D++[(⟨k,i64.wrap (k+1)⟩:Ty)]) _ (i+1) n _ _ (fun y hy=>hz y (zG _ hy)) (by simp[hi]) (by simp at hn;omega) (by simpa using H.setAt hin hUA rfl [.int .i64 k,.int .i64 (i64.wrap (k+1))] rfl) _ rfl _ fun R U hR=> ?_
    simpa using hq R U hR
  refine MCall.enter 2 func72 (by kernel_rfl) rfl ntmps72 (by simp) (by simp[yE]) (fun e he=>by obtain⟨x,_,rfl⟩:=zD.1 he;exact yD x) ?_ ?_
  ·intro he
   have he:a0=[]:=by simpa using he
   subst he
   refine kz ?_
   refine yF ⟨[(0,.arr []),(1,.lit (.int .i64 k0)),(5,.lit (.int .i64 0))],[]⟩ (gT (by simp) (by simp -dsimp)) ?_
   refine eN ?_
   refine kz ?_
   refine lG _ (gR _) ?_
   repeat first|refine cg ?_|simp -dsimp
   all_goals(try simp[yB])
  ·intro hne rows us e1 e2 e3 e4
   have H:RW 2 a0.length rows us:=⟨by simpa using e2,e3,e1⟩
   refine kz ?_
   refine yF ⟨[(0,.own 0 a0.length),(1,.lit (.int .i64 k0)),(5,.lit (.int .i64 ((0:Nat):Int)))],[.elems 2 rows,.pack (List.flatten (zA yC ([]++a0))) us]⟩ (gT (by simp) (by simp -dsimp[RW.closed H])) ?_
   refine loop a0 [] k0 0 a0.length rows us hz0 rfl (by simp) H _ rfl _ ?_
   intro R U hR
   refine kz ?_
   exact⟨rfl,R,U,rfl,⟨1,by simp⟩,hR.2.2,by rw[hR.1];simp[yE],fun x hx=>by obtain⟨y,_,rfl⟩:=zD.1 hx;exact yD y⟩
theorem C.f246 (a:List Ty)(k:Int)(v:List Ty×Int)(hF:F.f246 a k=some v):MCall zQ B 72 (zA yC a) [.int .i64 k] (zA yC v.1) (.int .i64 v.2):=by
 obtain rfl:=zK hF
 exact(CM.laws_markTypeS B hB1 hB2 (SizeOf.sizeOf a+1)) a k (Nat.lt_succ_self _)
theorem CM.laws_markCtorS :∀m:Nat,(∀(a:List Ctor) (k:Int),SizeOf.sizeOf a<m->MCall zQ B 40 (zA xH a) [.int .i64 k] (zA xH (xG mtF a k).1) (.int .i64 (xG mtF a k).2)):=by
 intro m
 induction m with
 |zero=>exact fun a k h=>absurd h (zJ _)
 |succ m ih=>
  intro a0 k0 hm
  have hz0:∀x,x∈a0->SizeOf.sizeOf x<m:=fun x hx=>by have:=zF hx;omega
  have loop:∀(rest D:List Ctor) (k:Int) (i n:Nat) (rows:List (List AV)) (us:List Go.Value),(∀x,x∈rest->SizeOf.sizeOf x<m)->i=D.length->n=i+rest.length->RW 3 n rows us->
    ∀(c:Code),ZP [1,0,1,0,0] (ZG Tryz.f40)=some c->∀(Q:Exit->ASt->Prop),
    (∀(R:List (List AV)) (U:List Go.Value),RW 3 n R U->Q (.exit 0) ⟨[(1,.lit (.int .i64 (xG mtF rest k).2))],[.elems 3 R,.pack (List.flatten (zA xH (D++(xG mtF rest k).1))) U]⟩)->
    ALoopU zQ B 2 35 (hold c .mk) ⟨[(0,.own 0 n),(1,.lit (.int .i64 k)),(5,.lit (.int .i64 (i:Int)))],[.elems 3 rows,.pack (List.flatten (zA xH (D++rest))) us]⟩ (hold Q .mk):=by
   intro rest
   induction rest with
   |nil=>
    intro D k i n rows us hz hi hn H c hc Q hq
    obtain rfl:c=_:=ZAi hc rfl
    have hn':n=i:=by simpa using hn
    subst hn'
    refine eN ?_
    repeat first|refine cg ?_|simp -dsimp[RW.len H]
    refine lG ⟨[(1,.lit (.int .i64 k))],[.elems 3 rows,.pack (List.flatten (zA xH D)) us]⟩ (gT (by simp) (by simp -dsimp[RW.closed H])) ?_
    simpa[xG]using hq rows us H
   |cons x r ihr=>
    intro D k i n rows us hz hi hn H c hc Q hq
    refine xK 1 (List.flatten (zA xH D)) (xH x) (List.flatten (zA xH r)) rfl (by simp) (by simp) ?_
    intro h1 vs UA UC o_h1 hlt hU hlA
    have hv:vs=[.string x.name,h1,.int .i64 x.index]:=by apply ZA9;rw[←hlt];simp
    subst hv hU
    have hUA:UA.length=i*3:=by rw[hlA,ZAF xI,hi]
    have hin:i<n:=by simp at hn;omega
    have hrow:rows[i]? =some [.lit (.string x.name),.lit h1,.lit (.int .i64 x.index)]:=by simpa using H.at hin rfl hUA rfl
    have hne:¬rows=[]:=by intro e;rw[e]at hrow;simp at hrow
    have hrl:=RW.len H
    have hrow':∀(h:i<rows.length),rows[i]=[.lit (.string x.name),.lit h1,.lit (.int .i64 x.index)]:=fun h=>by rw[zC h]at hrow;exact zK hrow
    have hset:∀a,(rows.set i a)[i]? =some a:=fun a=>zE (by omega)
    clear hlt
    refine kN fun hk hs=> ?_
    have d0:=hs 0 _ rfl
    simp -dsimp[zM]at d0
    clear hk hs
    obtain rfl:c=_:=ZAi hc rfl
    have w1:i64.wrap ((i:Int)+1)=(i:Int)+1:=ZE (by omega) (by omega)
    refine eN ?_
    repeat first|refine cg ?_|simp -dsimp[hne,hrow,hrow',hset,hrl,hin,w1,List.set_set,o_h1]
    refine(C.f1 B hB1 hB2 k _ (ZMc k)).goI ?_
    repeat first|refine cg ?_|simp -dsimp[hne,hrow,hrow',hset,hrl,hin,w1,List.set_set,o_h1]
    refine(C.f246 B hB1 hB2 x.args (i64.wrap (k+1)) _ rfl).go 2 rfl (by simp) ?_
    repeat first|refine cg ?_|simp -dsimp[hne,hrow,hrow',hset,hrl,hin,w1,List.set_set,o_h1]
    refine aG ⟨[(0,.own 0 n),(1,.lit (.int .i64 (i64.wrap (((yB x.args (i64.wrap (k+1))).2)+1)))),(5,.lit (.int .i64 ((i+1:Nat):Int)))],[.elems 3 (rows.set i [.lit (.string (mtF k)),.lit h1,.lit (.int .i64 ((yB x.args (i64.wrap (k+1))).2))]),.pack (List.flatten (zA xH ((D++[(⟨mtF k,(yB x.args (i64.wrap (k+1))).1,(yB x.args (i64.wrap (k+1))).2⟩:Ctor)])++r))) (UA++([.string (mtF k),h1,.int .i64 ((yB x.args (i64.wrap (k+1))).2)]++UC))]⟩
     (by refine yH (yI 1 [2] (XA:=List.flatten (zA xH D)) (old:=[.lit (.string x.name),.lit h1,.lit (.int .i64 x.index)]) (XC:=List.flatten (zA xH r)) (UA:=UA) (uo:=[.string x.name,h1,.int .i64 x.index]) (UC:=UC) (by exact rfl) (by simp) (by simp) hlA rfl (.lit (.string (mtF k)) (.pk 2 (by exact rfl) (.lit (.int .i64 ((yB x.args (i64.wrap (k+1))).2)) .nil))) (by decide)) ?_;exact gT (by simp) (by simp -dsimp[RW.closed H])) ?_
    have he:xG mtF (x::r) k=((⟨mtF k,(yB x.args (i64.wrap (k+1))).1,(yB x.args (i64.wrap (k+1))).2⟩:Ctor)::(xG mtF r (i64.wrap (((yB x.args (i64.wrap (k+1))).2)+1))).1,(xG mtF r (i64.wrap (((yB x.args (i64.wrap (k+1))).2)+1))).2):=by(first|rfl|(cases x;simp[xG,Ctor.mkE]))
    rw[he]at hq
    refine ihr (D++[(⟨mtF k,(yB x.args (i64.wrap (k+1))).1,(yB x.args (i64.wrap (k+1))).2⟩:Ctor)]) _ (i+1) n _ _ (fun y hy=>hz y (zG _ hy)) (by simp[hi]) (by simp at hn;omega) (by simpa using H.setAt hin hUA rfl [.string (mtF k),h1,.int .i64 ((yB x.args (i64.wrap (k+1))).2)] rfl) _ rfl _ fun R U hR=> ?_
    simpa using hq R U hR
  refine MCall.enter 3 func40 (by kernel_rfl) rfl ntmps40 (by simp) (by simp[xJ]) (fun e he=>by obtain⟨x,_,rfl⟩:=zD.1 he;exact xI x) ?_ ?_
  ·intro he
   have he:a0=[]:=by simpa using he
   subst he
   refine kz ?_
   refine yF ⟨[(0,.arr []),(1,.lit (.int .i64 k0)),(5,.lit (.int .i64 0))],[]⟩ (gT (by simp) (by simp -dsimp)) ?_
   refine eN ?_
   refine kz ?_
   refine lG _ (gR _) ?_
   repeat first|refine cg ?_|simp -dsimp
   all_goals(try simp[xG])
  ·intro hne rows us e1 e2 e3 e4
   have H:RW 3 a0.length rows us:=⟨by simpa using e2,e3,e1⟩
   refine kz ?_
   refine yF ⟨[(0,.own 0 a0.length),(1,.lit (.int .i64 k0)),(5,.lit (.int .i64 ((0:Nat):Int)))],[.elems 3 rows,.pack (List.flatten (zA xH ([]++a0))) us]⟩ (gT (by simp) (by simp -dsimp[RW.closed H])) ?_
   refine loop a0 [] k0 0 a0.length rows us hz0 rfl (by simp) H _ rfl _ ?_
   intro R U hR
   refine kz ?_
   exact⟨rfl,R,U,rfl,⟨1,by simp⟩,hR.2.2,by rw[hR.1];simp[xJ],fun x hx=>by obtain⟨y,_,rfl⟩:=zD.1 hx;exact xI y⟩
theorem C.f247 (a:List Ctor)(k:Int)(v:List Ctor×Int)(hF:F.f247 a k=some v):MCall zQ B 40 (zA xH a) [.int .i64 k] (zA xH v.1) (.int .i64 v.2):=by
 obtain rfl:=zK hF
 exact(CM.laws_markCtorS B hB1 hB2 (SizeOf.sizeOf a+1)) a k (Nat.lt_succ_self _)
theorem CM.laws_markDataS :∀m:Nat,(∀(a:List zP) (k:Int),SizeOf.sizeOf a<m->MCall zQ B 17 (zA zR a) [.int .i64 k] (zA zR (zS mtF a k).1) (.int .i64 (zS mtF a k).2)):=by
 intro m
 induction m with
 |zero=>exact fun a k h=>absurd h (zJ _)
 |succ m ih=>
  intro a0 k0 hm
  have hz0:∀x,x∈a0->SizeOf.sizeOf x<m:=fun x hx=>by have:=zF hx;omega
  have loop:∀(rest D:List zP) (k:Int) (i n:Nat) (rows:List (List AV)) (us:List Go.Value),(∀x,x∈rest->SizeOf.sizeOf x<m)->i=D.length->n=i+rest.length->RW 2 n rows us->
    ∀(c:Code),ZP [1,0,1,0,0] (ZG Tryz.f17)=some c->∀(Q:Exit->ASt->Prop),
    (∀(R:List (List AV)) (U:List Go.Value),RW 2 n R U->Q (.exit 0) ⟨[(1,.lit (.int .i64 (zS mtF rest k).2))],[.elems 2 R,.pack (List.flatten (zA zR (D++(zS mtF rest k).1))) U]⟩)->
    ALoopU zQ B 2 28 (hold c .mk) ⟨[(0,.own 0 n),(1,.lit (.int .i64 k)),(5,.lit (.int .i64 (i:Int)))],[.elems 2 rows,.pack (List.flatten (zA zR (D++rest))) us]⟩ (hold Q .mk):=by
   intro rest
   induction rest with
   |nil=>
    intro D k i n rows us hz hi hn H c hc Q hq
    obtain rfl:c=_:=ZAi hc rfl
    have hn':n=i:=by simpa using hn
    subst hn'
    refine eN ?_
    repeat first|refine cg ?_|simp -dsimp[RW.len H]
    refine lG ⟨[(1,.lit (.int .i64 k))],[.elems 2 rows,.pack (List.flatten (zA zR D)) us]⟩ (gT (by simp) (by simp -dsimp[RW.closed H])) ?_
    simpa[zS]using hq rows us H
   |cons x r ihr=>
    intro D k i n rows us hz hi hn H c hc Q hq
    refine xK 1 (List.flatten (zA zR D)) (zR x) (List.flatten (zA zR r)) rfl (by simp) (by simp) ?_
    intro h1 vs UA UC o_h1 hlt hU hlA
    have hv:vs=[.string x.name,h1]:=by apply ZA9;rw[←hlt];simp
    subst hv hU
    have hUA:UA.length=i*2:=by rw[hlA,ZAF zT,hi]
    have hin:i<n:=by simp at hn;omega
    have hrow:rows[i]? =some [.lit (.string x.name),.lit h1]:=by simpa using H.at hin rfl hUA rfl
    have hne:¬rows=[]:=by intro e;rw[e]at hrow;simp at hrow
    have hrl:=RW.len H
    have hrow':∀(h:i<rows.length),rows[i]=[.lit (.string x.name),.lit h1]:=fun h=>by rw[zC h]at hrow;exact zK hrow
    have hset:∀a,(rows.set i a)[i]? =some a:=fun a=>zE (by omega)
    clear hlt
    refine kN fun hk hs=> ?_
    have d0:=hs 0 _ rfl
    simp -dsimp[zM]at d0
    clear hk hs
    obtain rfl:c=_:=ZAi hc rfl
    have w1:i64.wrap ((i:Int)+1)=(i:Int)+1:=ZE (by omega) (by omega)
    refine eN ?_
    repeat first|refine cg ?_|simp -dsimp[hne,hrow,hrow',hset,hrl,hin,w1,List.set_set,o_h1]
    refine(C.f1 B hB1 hB2 k _ (ZMc k)).goI ?_
    repeat first|refine cg ?_|simp -dsimp[hne,hrow,hrow',hset,hrl,hin,w1,List.set_set,o_h1]
    refine(C.f247 B hB1 hB2 x.ctors (i64.wrap (k+1)) _ rfl).go 2 rfl (by simp) ?_
    repeat first|refine cg ?_|simp -dsimp[hne,hrow,hrow',hset,hrl,hin,w1,List.set_set,o_h1]
    refine aG ⟨[(0,.own 0 n),(1,.lit (.int .i64 ((xG mtF x.ctors (i64.wrap (k+1))).2))),(5,.lit (.int .i64 ((i+1:Nat):Int)))],[.elems 2 (rows.set i [.lit (.string (mtF k)),.lit h1]),.pack (List.flatten (zA zR ((D++[(⟨mtF k,(xG mtF x.ctors (i64.wrap (k+1))).1⟩:zP)])++r))) (UA++([.string (mtF k),h1]++UC))]⟩
     (by refine yH (yI 1 [2] (XA:=List.flatten (zA zR D)) (old:=[.lit (.string x.name),.lit h1]) (XC:=List.flatten (zA zR r)) (UA:=UA) (uo:=[.string x.name,h1]) (UC:=UC) (by exact rfl) (by simp) (by simp) hlA rfl (.lit (.string (mtF k)) (.pk 2 (by exact rfl) .nil)) (by decide)) ?_;exact gT (by simp) (by simp -dsimp[RW.closed H])) ?_
    have he:zS mtF (x::r) k=((⟨mtF k,(xG mtF x.ctors (i64.wrap (k+1))).1⟩:zP)::(zS mtF r ((xG mtF x.ctors (i64.wrap (k+1))).2)).1,(zS mtF r ((xG mtF x.ctors (i64.wrap (k+1))).2)).2):=by(first|rfl|(cases x;simp[zS,zV]))
    rw[he]at hq
    refine ihr (D++[(⟨mtF k,(xG mtF x.ctors (i64.wrap (k+1))).1⟩:zP)]) _ (i+1) n _ _ (fun y hy=>hz y (zG _ hy)) (by simp[hi]) (by simp at hn;omega) (by simpa using H.setAt hin hUA rfl [.string (mtF k),h1] rfl) _ rfl _ fun R U hR=> ?_
    simpa using hq R U hR
  refine MCall.enter 2 func17 (by kernel_rfl) rfl ntmps17 (by simp) (by simp[zU]) (fun e he=>by obtain⟨x,_,rfl⟩:=zD.1 he;exact zT x) ?_ ?_
  ·intro he
   have he:a0=[]:=by simpa using he
   subst he
   refine kz ?_
   refine yF ⟨[(0,.arr []),(1,.lit (.int .i64 k0)),(5,.lit (.int .i64 0))],[]⟩ (gT (by simp) (by simp -dsimp)) ?_
   refine eN ?_
   refine kz ?_
   refine lG _ (gR _) ?_
   repeat first|refine cg ?_|simp -dsimp
   all_goals(try simp[zS])
  ·intro hne rows us e1 e2 e3 e4
   have H:RW 2 a0.length rows us:=⟨by simpa using e2,e3,e1⟩
   refine kz ?_
   refine yF ⟨[(0,.own 0 a0.length),(1,.lit (.int .i64 k0)),(5,.lit (.int .i64 ((0:Nat):Int)))],[.elems 2 rows,.pack (List.flatten (zA zR ([]++a0))) us]⟩ (gT (by simp) (by simp -dsimp[RW.closed H])) ?_
   refine loop a0 [] k0 0 a0.length rows us hz0 rfl (by simp) H _ rfl _ ?_
   intro R U hR
   refine kz ?_
   exact⟨rfl,R,U,rfl,⟨1,by simp⟩,hR.2.2,by rw[hR.1];simp[zU],fun x hx=>by obtain⟨y,_,rfl⟩:=zD.1 hx;exact zT y⟩
theorem C.f248 (a:List zP)(k:Int)(v:List zP×Int)(hF:F.f248 a k=some v):MCall zQ B 17 (zA zR a) [.int .i64 k] (zA zR v.1) (.int .i64 v.2):=by
 obtain rfl:=zK hF
 exact(CM.laws_markDataS B hB1 hB2 (SizeOf.sizeOf a+1)) a k (Nat.lt_succ_self _)
theorem CM.laws_markValueS :∀m:Nat,(∀(a:List Vl.Value) (k:Int),SizeOf.sizeOf a<m->MCall zQ B 42 (zA Vl.Value.c a) [.int .i64 k] (zA Vl.Value.c (Vl.Value.mkL a k).1) (.int .i64 (Vl.Value.mkL a k).2)):=by
 intro m
 induction m with
 |zero=>exact fun a k h=>absurd h (zJ _)
 |succ m ih=>
  intro a0 k0 hm
  have hz0:∀x,x∈a0->SizeOf.sizeOf x<m:=fun x hx=>by have:=zF hx;omega
  have loop:∀(rest D:List Vl.Value) (k:Int) (i n:Nat) (rows:List (List AV)) (us:List Go.Value),(∀x,x∈rest->SizeOf.sizeOf x<m)->i=D.length->n=i+rest.length->RW 3 n rows us->
    ∀(c:Code),ZP [1,0,1,0,0] (ZG Tryz.f42)=some c->∀(Q:Exit->ASt->Prop),
    (∀(R:List (List AV)) (U:List Go.Value),RW 3 n R U->Q (.exit 0) ⟨[(1,.lit (.int .i64 (Vl.Value.mkL rest k).2))],[.elems 3 R,.pack (List.flatten (zA Vl.Value.c (D++(Vl.Value.mkL rest k).1))) U]⟩)->
    ALoopU zQ B 2 34 (hold c .mk) ⟨[(0,.own 0 n),(1,.lit (.int .i64 k)),(5,.lit (.int .i64 (i:Int)))],[.elems 3 rows,.pack (List.flatten (zA Vl.Value.c (D++rest))) us]⟩ (hold Q .mk):=by
   intro rest
   induction rest with
   |nil=>
    intro D k i n rows us hz hi hn H c hc Q hq
    obtain rfl:c=_:=ZAi hc rfl
    have hn':n=i:=by simpa using hn
    subst hn'
    refine eN ?_
    repeat first|refine cg ?_|simp -dsimp[RW.len H]
    refine lG ⟨[(1,.lit (.int .i64 k))],[.elems 3 rows,.pack (List.flatten (zA Vl.Value.c D)) us]⟩ (gT (by simp) (by simp -dsimp[RW.closed H])) ?_
    simpa[Vl.Value.mkL]using hq rows us H
   |cons x r ihr=>
    intro D k i n rows us hz hi hn H c hc Q hq
    refine xK 1 (List.flatten (zA Vl.Value.c D)) (Vl.Value.c x) (List.flatten (zA Vl.Value.c r)) rfl (by simp) (by simp) ?_
    intro h1 vs UA UC o_h1 hlt hU hlA
    have hv:vs=[.int .i64 x.ctor,.int .i64 x.n,h1]:=by apply ZA9;rw[←hlt];simp
    subst hv hU
    have hUA:UA.length=i*3:=by rw[hlA,ZAF Vl.Value.c_len,hi]
    have hin:i<n:=by simp at hn;omega
    have hrow:rows[i]? =some [.lit (.int .i64 x.ctor),.lit (.int .i64 x.n),.lit h1]:=by simpa using H.at hin rfl hUA rfl
    have hne:¬rows=[]:=by intro e;rw[e]at hrow;simp at hrow
    have hrl:=RW.len H
    have hrow':∀(h:i<rows.length),rows[i]=[.lit (.int .i64 x.ctor),.lit (.int .i64 x.n),.lit h1]:=fun h=>by rw[zC h]at hrow;exact zK hrow
    have hset:∀a,(rows.set i a)[i]? =some a:=fun a=>zE (by omega)
    clear hlt
    refine kN fun hk hs=> ?_
    have d0:=hs 0 _ rfl
    simp -dsimp[zM]at d0
    clear hk hs
    obtain rfl:c=_:=ZAi hc rfl
    have w1:i64.wrap ((i:Int)+1)=(i:Int)+1:=ZE (by omega) (by omega)
    refine eN ?_
    repeat first|refine cg ?_|simp -dsimp[hne,hrow,hrow',hset,hrl,hin,w1,List.set_set,o_h1]
    have sz0:SizeOf.sizeOf x.kids<m:=by have h0:=hz x (by simp);cases x;simp at h0 ⊢;omega
    refine(ih x.kids (i64.wrap ((i64.wrap (k+1))+1)) sz0).go 2 rfl (by simp) ?_
    refine kx1 w1 ?_
    refine aG ⟨[(0,.own 0 n),(1,.lit (.int .i64 ((Vl.Value.mkL x.kids (i64.wrap ((i64.wrap (k+1))+1))).2))),(5,.lit (.int .i64 ((i+1:Nat):Int)))],[.elems 3 (rows.set i [.lit (.int .i64 k),.lit (.int .i64 (i64.wrap (k+1))),.lit h1]),.pack (List.flatten (zA Vl.Value.c ((D++[(⟨k,i64.wrap (k+1),(Vl.Value.mkL x.kids (i64.wrap ((i64.wrap (k+1))+1))).1⟩:Vl.Value)])++r))) (UA++([.int .i64 k,.int .i64 (i64.wrap (k+1)),h1]++UC))]⟩
     (by refine yH (yI 1 [2] (XA:=List.flatten (zA Vl.Value.c D)) (old:=[.lit (.int .i64 x.ctor),.lit (.int .i64 x.n),.lit h1]) (XC:=List.flatten (zA Vl.Value.c r)) (UA:=UA) (uo:=[.int .i64 x.ctor,.int .i64 x.n,h1]) (UC:=UC) (by exact rfl) (by simp) (by simp) hlA rfl (.lit (.int .i64 k) (.lit (.int .i64 (i64.wrap (k+1))) (.pk 2 (by exact rfl) .nil))) (by decide)) ?_;exact gT (by simp) (by simp -dsimp[RW.closed H])) ?_
    have he:Vl.Value.mkL (x::r) k=((⟨k,i64.wrap (k+1),(Vl.Value.mkL x.kids (i64.wrap ((i64.wrap (k+1))+1))).1⟩:Vl.Value)::(Vl.Value.mkL r ((Vl.Value.mkL x.kids (i64.wrap ((i64.wrap (k+1))+1))).2)).1,(Vl.Value.mkL r ((Vl.Value.mkL x.kids (i64.wrap ((i64.wrap (k+1))+1))).2)).2):=by(first|rfl|(cases x;simp[Vl.Value.mkL,Vl.Value.mkE]))
    rw[he]at hq
    refine ihr (D++[(⟨k,i64.wrap (k+1),(Vl.Value.mkL x.kids (i64.wrap ((i64.wrap (k+1))+1))).1⟩:Vl.Value)]) _ (i+1) n _ _ (fun y hy=>hz y (zG _ hy)) (by simp[hi]) (by simp at hn;omega) (by simpa using H.setAt hin hUA rfl [.int .i64 k,.int .i64 (i64.wrap (k+1)),h1] rfl) _ rfl _ fun R U hR=> ?_
    simpa using hq R U hR
  refine MCall.enter 3 func42 (by kernel_rfl) rfl ntmps42 (by simp) (by simp[Vl.Value.mkL_len]) (fun e he=>by obtain⟨x,_,rfl⟩:=zD.1 he;exact Vl.Value.c_len x) ?_ ?_
  ·intro he
   have he:a0=[]:=by simpa using he
   subst he
   refine kz ?_
   refine yF ⟨[(0,.arr []),(1,.lit (.int .i64 k0)),(5,.lit (.int .i64 0))],[]⟩ (gT (by simp) (by simp -dsimp)) ?_
   refine eN ?_
   refine kz ?_
   refine lG _ (gR _) ?_
   repeat first|refine cg ?_|simp -dsimp
   all_goals(try simp[Vl.Value.mkL])
  ·intro hne rows us e1 e2 e3 e4
   have H:RW 3 a0.length rows us:=⟨by simpa using e2,e3,e1⟩
   refine kz ?_
   refine yF ⟨[(0,.own 0 a0.length),(1,.lit (.int .i64 k0)),(5,.lit (.int .i64 ((0:Nat):Int)))],[.elems 3 rows,.pack (List.flatten (zA Vl.Value.c ([]++a0))) us]⟩ (gT (by simp) (by simp -dsimp[RW.closed H])) ?_
   refine loop a0 [] k0 0 a0.length rows us hz0 rfl (by simp) H _ rfl _ ?_
   intro R U hR
   refine kz ?_
   exact⟨rfl,R,U,rfl,⟨1,by simp⟩,hR.2.2,by rw[hR.1];simp[Vl.Value.mkL_len],fun x hx=>by obtain⟨y,_,rfl⟩:=zD.1 hx;exact Vl.Value.c_len y⟩
theorem C.f242 (a:List Vl.Value)(k:Int)(v:List Vl.Value×Int)(hF:F.f242 a k=some v):MCall zQ B 42 (zA Vl.Value.c a) [.int .i64 k] (zA Vl.Value.c v.1) (.int .i64 v.2):=by
 obtain rfl:=zK hF
 exact(CM.laws_markValueS B hB1 hB2 (SizeOf.sizeOf a+1)) a k (Nat.lt_succ_self _)
theorem CM.laws_markBindS :∀m:Nat,(∀(a:List Bind) (k:Int),SizeOf.sizeOf a<m->MCall zQ B 20 (zA xC a) [.int .i64 k] (zA xC (xD a k).1) (.int .i64 (xD a k).2)):=by
 intro m
 induction m with
 |zero=>exact fun a k h=>absurd h (zJ _)
 |succ m ih=>
  intro a0 k0 hm
  have hz0:∀x,x∈a0->SizeOf.sizeOf x<m:=fun x hx=>by have:=zF hx;omega
  have loop:∀(rest D:List Bind) (k:Int) (i n:Nat) (rows:List (List AV)) (us:List Go.Value),(∀x,x∈rest->SizeOf.sizeOf x<m)->i=D.length->n=i+rest.length->RW 4 n rows us->
    ∀(c:Code),ZP [1,0,1,0,0] (ZG Tryz.f20)=some c->∀(Q:Exit->ASt->Prop),
    (∀(R:List (List AV)) (U:List Go.Value),RW 4 n R U->Q (.exit 0) ⟨[(1,.lit (.int .i64 (xD rest k).2))],[.elems 4 R,.pack (List.flatten (zA xC (D++(xD rest k).1))) U]⟩)->
    ALoopU zQ B 2 44 (hold c .mk) ⟨[(0,.own 0 n),(1,.lit (.int .i64 k)),(5,.lit (.int .i64 (i:Int)))],[.elems 4 rows,.pack (List.flatten (zA xC (D++rest))) us]⟩ (hold Q .mk):=by
   intro rest
   induction rest with
   |nil=>
    intro D k i n rows us hz hi hn H c hc Q hq
    obtain rfl:c=_:=ZAi hc rfl
    have hn':n=i:=by simpa using hn
    subst hn'
    refine eN ?_
    repeat first|refine cg ?_|simp -dsimp[RW.len H]
    refine lG ⟨[(1,.lit (.int .i64 k))],[.elems 4 rows,.pack (List.flatten (zA xC D)) us]⟩ (gT (by simp) (by simp -dsimp[RW.closed H])) ?_
    simpa[xD]using hq rows us H
   |cons x r ihr=>
    intro D k i n rows us hz hi hn H c hc Q hq
    refine xK 1 (List.flatten (zA xC D)) (xC x) (List.flatten (zA xC r)) rfl (by simp) (by simp) ?_
    intro h1 vs UA UC o_h1 hlt hU hlA
    have hv:vs=[.int .i64 x.var,.int .i64 x.value.ctor,.int .i64 x.value.n,h1]:=by apply ZA9;rw[←hlt];simp
    subst hv hU
    have hUA:UA.length=i*4:=by rw[hlA,ZAF xE,hi]
    have hin:i<n:=by simp at hn;omega
    have hrow:rows[i]? =some [.lit (.int .i64 x.var),.lit (.int .i64 x.value.ctor),.lit (.int .i64 x.value.n),.lit h1]:=by simpa using H.at hin rfl hUA rfl
    have hne:¬rows=[]:=by intro e;rw[e]at hrow;simp at hrow
    have hrl:=RW.len H
    have hrow':∀(h:i<rows.length),rows[i]=[.lit (.int .i64 x.var),.lit (.int .i64 x.value.ctor),.lit (.int .i64 x.value.n),.lit h1]:=fun h=>by rw[zC h]at hrow;exact zK hrow
    have hset:∀a,(rows.set i a)[i]? =some a:=fun a=>zE (by omega)
    clear hlt
    refine kN fun hk hs=> ?_
    have d0:=hs 0 _ rfl
    simp -dsimp[zM]at d0
    clear hk hs
    obtain rfl:c=_:=ZAi hc rfl
    have w1:i64.wrap ((i:Int)+1)=(i:Int)+1:=ZE (by omega) (by omega)
    refine eN ?_
    repeat first|refine cg ?_|simp -dsimp[hne,hrow,hrow',hset,hrl,hin,w1,List.set_set,o_h1]
    refine(C.f242 B hB1 hB2 x.value.kids (i64.wrap ((i64.wrap ((i64.wrap (k+1))+1))+1)) _ rfl).go 2 rfl (by simp) ?_
    refine kx1 w1 ?_
    refine aG ⟨[(0,.own 0 n),(1,.lit (.int .i64 ((Vl.Value.mkL x.value.kids (i64.wrap ((i64.wrap ((i64.wrap (k+1))+1))+1))).2))),(5,.lit (.int .i64 ((i+1:Nat):Int)))],[.elems 4 (rows.set i [.lit (.int .i64 k),.lit (.int .i64 (i64.wrap (k+1))),.lit (.int .i64 (i64.wrap ((i64.wrap (k+1))+1))),.lit h1]),.pack (List.flatten (zA xC ((D++[(⟨k,(⟨i64.wrap (k+1),i64.wrap ((i64.wrap (k+1))+1),(Vl.Value.mkL x.value.kids (i64.wrap ((i64.wrap ((i64.wrap (k+1))+1))+1))).1⟩:Vl.Value)⟩:Bind)])++r))) (UA++([.int .i64 k,.int .i64 (i64.wrap (k+1)),.int .i64 (i64.wrap ((i64.wrap (k+1))+1)),h1]++UC))]⟩
     (by refine yH (yI 1 [2] (XA:=List.flatten (zA xC D)) (old:=[.lit (.int .i64 x.var),.lit (.int .i64 x.value.ctor),.lit (.int .i64 x.value.n),.lit h1]) (XC:=List.flatten (zA xC r)) (UA:=UA) (uo:=[.int .i64 x.var,.int .i64 x.value.ctor,.int .i64 x.value.n,h1]) (UC:=UC) (by exact rfl) (by simp) (by simp) hlA rfl (.lit (.int .i64 k) (.lit (.int .i64 (i64.wrap (k+1))) (.lit (.int .i64 (i64.wrap ((i64.wrap (k+1))+1))) (.pk 2 (by exact rfl) .nil)))) (by decide)) ?_;exact gT (by simp) (by simp -dsimp[RW.closed H])) ?_
    have he:xD (x::r) k=((⟨k,(⟨i64.wrap (k+1),i64.wrap ((i64.wrap (k+1))+1),(Vl.Value.mkL x.value.kids (i64.wrap ((i64.wrap ((i64.wrap (k+1))+1))+1))).1⟩:Vl.Value)⟩:Bind)::(xD r ((Vl.Value.mkL x.value.kids (i64.wrap ((i64.wrap ((i64.wrap (k+1))+1))+1))).2)).1,(xD r ((Vl.Value.mkL x.value.kids (i64.wrap ((i64.wrap ((i64.wrap (k+1))+1))+1))).2)).2):=by(first|rfl|(cases x;all_goals(try(rename_i t0;cases t0));simp[xD,Bind.mkE,Vl.Value.mkE]))
    rw[he]at hq
    refine ihr (D++[(⟨k,(⟨i64.wrap (k+1),i64.wrap ((i64.wrap (k+1))+1),(Vl.Value.mkL x.value.kids (i64.wrap ((i64.wrap ((i64.wrap (k+1))+1))+1))).1⟩:Vl.Value)⟩:Bind)]) _ (i+1) n _ _ (fun y hy=>hz y (zG _ hy)) (by simp[hi]) (by simp at hn;omega) (by simpa using H.setAt hin hUA rfl [.int .i64 k,.int .i64 (i64.wrap (k+1)),.int .i64 (i64.wrap ((i64.wrap (k+1))+1)),h1] rfl) _ rfl _ fun R U hR=> ?_
    simpa using hq R U hR
  refine MCall.enter 4 func20 (by kernel_rfl) rfl ntmps20 (by simp) (by simp[xF]) (fun e he=>by obtain⟨x,_,rfl⟩:=zD.1 he;exact xE x) ?_ ?_
  ·intro he
   have he:a0=[]:=by simpa using he
   subst he
   refine kz ?_
   refine yF ⟨[(0,.arr []),(1,.lit (.int .i64 k0)),(5,.lit (.int .i64 0))],[]⟩ (gT (by simp) (by simp -dsimp)) ?_
   refine eN ?_
   refine kz ?_
   refine lG _ (gR _) ?_
   repeat first|refine cg ?_|simp -dsimp
   all_goals(try simp[xD])
  ·intro hne rows us e1 e2 e3 e4
   have H:RW 4 a0.length rows us:=⟨by simpa using e2,e3,e1⟩
   refine kz ?_
   refine yF ⟨[(0,.own 0 a0.length),(1,.lit (.int .i64 k0)),(5,.lit (.int .i64 ((0:Nat):Int)))],[.elems 4 rows,.pack (List.flatten (zA xC ([]++a0))) us]⟩ (gT (by simp) (by simp -dsimp[RW.closed H])) ?_
   refine loop a0 [] k0 0 a0.length rows us hz0 rfl (by simp) H _ rfl _ ?_
   intro R U hR
   refine kz ?_
   exact⟨rfl,R,U,rfl,⟨1,by simp⟩,hR.2.2,by rw[hR.1];simp[xF],fun x hx=>by obtain⟨y,_,rfl⟩:=zD.1 hx;exact xE y⟩
theorem C.f243 (a:List Bind)(k:Int)(v:List Bind×Int)(hF:F.f243 a k=some v):MCall zQ B 20 (zA xC a) [.int .i64 k] (zA xC v.1) (.int .i64 v.2):=by
 obtain rfl:=zK hF
 exact(CM.laws_markBindS B hB1 hB2 (SizeOf.sizeOf a+1)) a k (Nat.lt_succ_self _)
theorem C.f249 (aW:List zP)(aT:Ty)(aList:List Clause)(aV:Vl.Value)(r:Bool)(hF:F.f249 aW aT aList aV=some r):PureCall zQ B 3 [am zR aW,.agg [li aT.data,li aT.index],am yS aList,.agg [li aV.ctor,li aV.n,am Vl.Value.c aV.kids]] (.lit (.bool r)):=by
 unfold F.f249 at hF
 refine pE func3 (by kernel_rfl) rfl ntmps3 (by simp) (by simp) ?_
 refine kz ?_
 have hF:=ob hF;obtain⟨v,e1,hF⟩:=hF
 refine((C.f8 B hB1 hB2 aW 1048576 v e1)).goW (by simp) (by simp) ?_
 refine kz ?_
 revert hF;refine aS ?_ ?_<;>intro h2 q3 hF
 ·cases hF
  repeat first|refine cg ?_|simp -dsimp[h2]
 ·refine kx2 h2 q3 ?_
  have hF:=ob hF;obtain⟨v4,e5,hF⟩:=hF
  refine((C.f14 B hB1 hB2 aList v v4 e5)).goW (by simp[h2,q3]) (by simp) ?_
  refine kx2 h2 q3 ?_
  revert hF;refine aS ?_ ?_<;>intro h6 q7 hF
  ·cases hF
   repeat first|refine cg ?_|simp -dsimp[h2,q3,h6]
  ·refine kx4 h2 q3 h6 q7 ?_
   have hF:=ob hF;obtain⟨v8,e9,hF⟩:=hF
   refine(((CC.f15 B hB1 hB2).1 aV v4 v8 e9)).goW (by simp[h2,q3,h6,q7]) (by simp) ?_
   refine kx4 h2 q3 h6 q7 ?_
   revert hF;refine aS ?_ ?_<;>intro h10 q11 hF
   ·cases hF
    repeat first|refine cg ?_|simp -dsimp[h2,q3,h6,q7,h10]
   ·refine kx6 h2 q3 h6 q7 h10 q11 ?_
    refine ADraw.simple follows (by kernel_rfl) (by kernel_rfl) ?_
    refine kx6 h2 q3 h6 q7 h10 q11 ?_
    have hF:=ob hF;obtain⟨v12,e13,hF⟩:=hF
    refine((C.f26 B hB1 hB2 aW v12 e13)).pgoW (by simp[h2,q3,h6,q7,h10,q11]) (by simp) ?_
    refine kx6 h2 q3 h6 q7 h10 q11 ?_
    have hF:=ob hF;obtain⟨v14,e15,hF⟩:=hF
    refine((C.f18 B hB1 hB2 aT v14 e15)).pgoW (by simp[h2,q3,h6,q7,h10,q11]) (by simp) ?_
    refine kx6 h2 q3 h6 q7 h10 q11 ?_
    have hF:=ob hF;obtain⟨v16,e17,hF⟩:=hF
    refine((C.f33 B hB1 hB2 aList v16 e17)).pgoW (by simp[h2,q3,h6,q7,h10,q11]) (by simp) ?_
    refine kx6 h2 q3 h6 q7 h10 q11 ?_
    have hF:=ob hF;obtain⟨v18,e19,hF⟩:=hF
    refine(((CC.f34 B hB1 hB2).1 aV v18 e19)).pgoW (by simp[h2,q3,h6,q7,h10,q11]) (by simp) ?_
    refine kx6 h2 q3 h6 q7 h10 q11 ?_
    have hF:=ob hF;obtain⟨v20,e21,hF⟩:=hF
    refine((C.f125 B hB1 hB2 v12 v14 v16 v18 v20 e21)).pgoW (by simp[h2,q3,h6,q7,h10,q11]) (by simp) ?_
    refine kx6 h2 q3 h6 q7 h10 q11 ?_
    have hF:=ob hF;obtain⟨v22,e23,hF⟩:=hF
    refine((C.laws_toDataS__f B hB1 hB2 aW v22 e23)).go1 (by simp -dsimp[h2,q3,h6,q7,h10,q11]) (by simp) (fun h o_h=> ?_)
    refine kx7 h2 q3 h6 q7 h10 q11 o_h ?_
    have hF:=ob hF;obtain⟨v24,e25,hF⟩:=hF
    refine((C.laws_toClauseS__f B hB1 hB2 aList v24 e25)).go1 (by simp -dsimp[h2,q3,h6,q7,h10,q11,o_h]) (by simp) (fun h26 o_h26=> ?_)
    refine kx8 h2 q3 h6 q7 h10 q11 o_h o_h26 ?_
    have hF:=ob hF;obtain⟨v27,e28,hF⟩:=hF
    refine(((CC.laws_toValue__f B hB1 hB2).1 aV v27 e28)).go1 (by simp -dsimp[h2,q3,h6,q7,h10,q11,o_h,o_h26]) (by simp) (fun h29 o_h29=> ?_)
    refine kx9 h2 q3 h6 q7 h10 q11 o_h o_h26 o_h29 ?_
    refine yP [12] [(0,0),(0,0),(0,1),(0,0),(0,0),(0,1),(1,1),(1,1),(1,1),(1,1),(1,1),(1,1),(1,1)] [1,1,1,1,1,1,1,1,1,1,1,1,1] 5 (by decide) follows (by kernel_rfl) (by kernel_rfl) (by kernel_rfl) (by kernel_rfl) (by kernel_rfl) rfl ?_
    refine kx9 h2 q3 h6 q7 h10 q11 o_h o_h26 o_h29 ?_
    have hF:=ob hF;obtain⟨v30,e31,hF⟩:=hF
    refine((C.f18 B hB1 hB2 aT v30 e31)).pgoW (by simp[h2,q3,h6,q7,h10,q11,o_h,o_h26,o_h29]) (by simp) ?_
    refine kx9 h2 q3 h6 q7 h10 q11 o_h o_h26 o_h29 ?_
    have hF:=ob hF;obtain⟨v32,e33,hF⟩:=hF
    refine((C.impl_RunSteps__f B hB1 hB2 v22 v30 v24 v27 v32 e33)).ngo1 (by simp -dsimp[h2,q3,h6,q7,h10,q11,o_h,o_h26,o_h29]) (by simp) (fun h34 o_h34=> ?_)
    repeat first|refine cg ?_|simp -dsimp[h2,q3,h6,q7,h10,q11,o_h,o_h26,o_h29,o_h34]
    revert hF;refine aS ?_ ?_<;>intro h35 q36 hF
    ·repeat first|refine cg ?_|simp -dsimp[h2,q3,h6,q7,h10,q11,o_h,o_h26,o_h29,o_h34,h35]
     have hF:=ob hF;obtain⟨v37,e38,hF⟩:=hF
     refine((C.f221 B hB1 hB2 v32.2.1 v20.2.1 v37 e38)).lend (by simp -dsimp[h2,q3,h6,q7,h10,q11,o_h,o_h26,o_h29,o_h34,h35]) (by simp -dsimp) ?_
     repeat first|refine cg ?_|simp -dsimp[h2,q3,h6,q7,h10,q11,o_h,o_h26,o_h29,o_h34,h35]
     revert hF;refine aS (fun h39 q40 hF=> ?_) (fun h39 q40 hF=> ?_)
     ·repeat first|refine cg ?_|simp -dsimp[h2,q3,h6,q7,h10,q11,o_h,o_h26,o_h29,o_h34,h35,h39]
      revert hF;refine aN ?_ ?_<;>intro h41 q42 hF
      ·cases hF
       repeat first|refine cg ?_|simp -dsimp[h2,q3,h6,q7,h10,q11,o_h,o_h26,o_h29,o_h34,h35,h39,h41,q42]
      ·repeat first|refine cg ?_|simp -dsimp[h2,q3,h6,q7,h10,q11,o_h,o_h26,o_h29,o_h34,h35,h39,h41,q42]
       have hF:=ob hF;obtain⟨v43,e44,hF⟩:=hF
       refine((C.f26 B hB1 hB2 aW v43 e44)).goW (by simp[h2,q3,h6,q7,h10,q11,o_h,o_h26,o_h29,o_h34,h35,h39,h41,q42]) (by simp) ?_
       repeat first|refine cg ?_|simp -dsimp[h2,q3,h6,q7,h10,q11,o_h,o_h26,o_h29,o_h34,h35,h39,h41,q42]
       have hF:=ob hF;obtain⟨v45,e46,hF⟩:=hF
       refine((C.f230 B hB1 hB2 v22 v43 v45 e46)).lend (by simp -dsimp[h2,q3,h6,q7,h10,q11,o_h,o_h26,o_h29,o_h34,h35,h39,h41,q42]) (by simp -dsimp) ?_
       repeat first|refine cg ?_|simp -dsimp[h2,q3,h6,q7,h10,q11,o_h,o_h26,o_h29,o_h34,h35,h39,h41,q42]
       revert hF;refine aN (fun h47 q48 hF=> ?_) (fun h47 q48 hF=> ?_)
       ·cases hF
        repeat first|refine cg ?_|simp -dsimp[h2,q3,h6,q7,h10,q11,o_h,o_h26,o_h29,o_h34,h35,h39,h41,q42,h47,q48]
       ·repeat first|refine cg ?_|simp -dsimp[h2,q3,h6,q7,h10,q11,o_h,o_h26,o_h29,o_h34,h35,h39,h41,q42,h47,q48]
        have hF:=ob hF;obtain⟨v49,e50,hF⟩:=hF
        refine((C.f33 B hB1 hB2 aList v49 e50)).goW (by simp[h2,q3,h6,q7,h10,q11,o_h,o_h26,o_h29,o_h34,h35,h39,h41,q42,h47,q48]) (by simp) ?_
        repeat first|refine cg ?_|simp -dsimp[h2,q3,h6,q7,h10,q11,o_h,o_h26,o_h29,o_h34,h35,h39,h41,q42,h47,q48]
        have hF:=ob hF;obtain⟨v51,e52,hF⟩:=hF
        refine((C.f237 B hB1 hB2 v24 v49 v51 e52)).lend (by simp -dsimp[h2,q3,h6,q7,h10,q11,o_h,o_h26,o_h29,o_h34,h35,h39,h41,q42,h47,q48]) (by simp -dsimp) ?_
        repeat first|refine cg ?_|simp -dsimp[h2,q3,h6,q7,h10,q11,o_h,o_h26,o_h29,o_h34,h35,h39,h41,q42,h47,q48]
        revert hF;refine aN (fun h53 q54 hF=> ?_) (fun h53 q54 hF=> ?_)
        ·cases hF
         repeat first|refine cg ?_|simp -dsimp[h2,q3,h6,q7,h10,q11,o_h,o_h26,o_h29,o_h34,h35,h39,h41,q42,h47,q48,h53,q54]
        ·repeat first|refine cg ?_|simp -dsimp[h2,q3,h6,q7,h10,q11,o_h,o_h26,o_h29,o_h34,h35,h39,h41,q42,h47,q48,h53,q54]
         refine ADraw.eff [16] [(0,0),(0,0),(0,1),(0,1),(1,1)] [1,1,1,1,1] follows (by kernel_rfl) (by kernel_rfl) (by kernel_rfl) ?_
         repeat first|refine cg ?_|simp -dsimp[h2,q3,h6,q7,h10,q11,o_h,o_h26,o_h29,o_h34,h35,h39,h41,q42,h47,q48,h53,q54]
         have hF:=ob hF;obtain⟨v55,e56,hF⟩:=hF
         refine(((CC.f34 B hB1 hB2).1 aV v55 e56)).pgoW (by simp[h2,q3,h6,q7,h10,q11,o_h,o_h26,o_h29,o_h34,h35,h39,h41,q42,h47,q48,h53,q54]) (by simp) ?_
         repeat first|refine cg ?_|simp -dsimp[h2,q3,h6,q7,h10,q11,o_h,o_h26,o_h29,o_h34,h35,h39,h41,q42,h47,q48,h53,q54]
         have hF:=ob hF;obtain⟨v57,e58,hF⟩:=hF
         refine(((CC.f216 B hB1 hB2).1 v27 v55 v57 e58)).elend (by simp -dsimp[h2,q3,h6,q7,h10,q11,o_h,o_h26,o_h29,o_h34,h35,h39,h41,q42,h47,q48,h53,q54]) (by simp -dsimp) ?_
         repeat first|refine cg ?_|simp -dsimp[h2,q3,h6,q7,h10,q11,o_h,o_h26,o_h29,o_h34,h35,h39,h41,q42,h47,q48,h53,q54]
         revert hF;refine aN (fun h59 q60 hF=> ?_) (fun h59 q60 hF=> ?_)
         ·cases hF
          repeat first|refine cg ?_|simp -dsimp[h2,q3,h6,q7,h10,q11,o_h,o_h26,o_h29,o_h34,h35,h39,h41,q42,h47,q48,h53,q54,h59,q60]
         ·repeat first|refine cg ?_|simp -dsimp[h2,q3,h6,q7,h10,q11,o_h,o_h26,o_h29,o_h34,h35,h39,h41,q42,h47,q48,h53,q54,h59,q60]
          have hF:=ob hF;obtain⟨v61,e62,hF⟩:=hF
          refine((C.f248 B hB1 hB2 v22 1 v61 e62)).go 2 rfl (by simp) ?_
          repeat first|refine cg ?_|simp -dsimp[h2,q3,h6,q7,h10,q11,o_h,o_h26,o_h29,o_h34,h35,h39,h41,q42,h47,q48,h53,q54,h59,q60]
          have hF:=ob hF;obtain⟨v63,e64,hF⟩:=hF
          refine((C.f245 B hB1 hB2 v24 v61.2 v63 e64)).go 3 rfl (by simp) ?_
          repeat first|refine cg ?_|simp -dsimp[h2,q3,h6,q7,h10,q11,o_h,o_h26,o_h29,o_h34,h35,h39,h41,q42,h47,q48,h53,q54,h59,q60]
          refine ACall.inl func19 (by kernel_rfl) rfl ntmps19 (by simp) ?_
          repeat first|refine cg ?_|simp -dsimp[h2,q3,h6,q7,h10,q11,o_h,o_h26,o_h29,o_h34,h35,h39,h41,q42,h47,q48,h53,q54,h59,q60]
          have hF:=ob hF;obtain⟨v65,e66,hF⟩:=hF
          refine((C.f242 B hB1 hB2 v27.kids v63.2 v65 e66)).go 4 rfl (by simp) ?_
          repeat first|refine cg ?_|simp -dsimp[h2,q3,h6,q7,h10,q11,o_h,o_h26,o_h29,o_h34,h35,h39,h41,q42,h47,q48,h53,q54,h59,q60]
          revert hF;refine aN ?_ ?_<;>intro h67 q68 hF
          ·repeat first|refine cg ?_|simp -dsimp[h2,q3,h6,q7,h10,q11,o_h,o_h26,o_h29,o_h34,h35,h39,h41,q42,h47,q48,h53,q54,h59,q60,h67,q68]
           have hF:=ob hF;obtain⟨v69,e70,hF⟩:=hF
           refine((C.f221 B hB1 hB2 v32.2.1 v20.2.1 v69 e70)).lend (by simp -dsimp[h2,q3,h6,q7,h10,q11,o_h,o_h26,o_h29,o_h34,h35,h39,h41,q42,h47,q48,h53,q54,h59,q60,h67,q68]) (by simp -dsimp) ?_
           repeat first|refine cg ?_|simp -dsimp[h2,q3,h6,q7,h10,q11,o_h,o_h26,o_h29,o_h34,h35,h39,h41,q42,h47,q48,h53,q54,h59,q60,h67,q68]
           revert hF;refine aS (fun h71 q72 hF=> ?_) (fun h71 q72 hF=> ?_)
           ·repeat first|refine cg ?_|simp -dsimp[h2,q3,h6,q7,h10,q11,o_h,o_h26,o_h29,o_h34,h35,h39,h41,q42,h47,q48,h53,q54,h59,q60,h67,q68,h71]
            have hF:=ob hF;obtain⟨v73,e74,hF⟩:=hF
            refine((C.f243 B hB1 hB2 v32.2.1 1 v73 e74)).go 6 rfl (by simp) ?_
            repeat first|refine cg ?_|simp -dsimp[h2,q3,h6,q7,h10,q11,o_h,o_h26,o_h29,o_h34,h35,h39,h41,q42,h47,q48,h53,q54,h59,q60,h67,q68,h71]
            have hF:=ob hF;obtain⟨v75,e76,hF⟩:=hF
            refine((C.f241 B hB1 hB2 v73.1 1 v75 e76)).lend (by simp -dsimp[h2,q3,h6,q7,h10,q11,o_h,o_h26,o_h29,o_h34,h35,h39,h41,q42,h47,q48,h53,q54,h59,q60,h67,q68,h71]) (by simp -dsimp) ?_
            repeat first|refine cg ?_|simp -dsimp[h2,q3,h6,q7,h10,q11,o_h,o_h26,o_h29,o_h34,h35,h39,h41,q42,h47,q48,h53,q54,h59,q60,h67,q68,h71]
            revert hF;refine aS ?_ ?_<;>intro h77 q78 hF
            ·cases hF
             repeat first|refine cg ?_|simp -dsimp[h2,q3,h6,q7,h10,q11,o_h,o_h26,o_h29,o_h34,h35,h39,h41,q42,h47,q48,h53,q54,h59,q60,h67,q68,h71,h77]
            ·repeat first|refine cg ?_|simp -dsimp[h2,q3,h6,q7,h10,q11,o_h,o_h26,o_h29,o_h34,h35,h39,h41,q42,h47,q48,h53,q54,h59,q60,h67,q68,h71,h77,q78]
             revert hF;refine aN ?_ ?_<;>intro h79 q80 hF
             ·cases hF
              repeat first|refine cg ?_|simp -dsimp[h2,q3,h6,q7,h10,q11,o_h,o_h26,o_h29,o_h34,h35,h39,h41,q42,h47,q48,h53,q54,h59,q60,h67,q68,h71,h77,q78,h79,q80]
             ·repeat first|refine cg ?_|simp -dsimp[h2,q3,h6,q7,h10,q11,o_h,o_h26,o_h29,o_h34,h35,h39,h41,q42,h47,q48,h53,q54,h59,q60,h67,q68,h71,h77,q78,h79,q80]
              refine yP [12] [(0,0),(0,1),(0,0),(0,1),(0,0),(0,1),(0,0),(0,1),(0,1),(1,1),(1,1),(1,1),(1,1),(1,1),(1,1),(1,1)] [1,1,1,1,1,1,1,1,1,1,1,1,1,1,1,1] 8 (by decide) follows (by kernel_rfl) (by kernel_rfl) (by kernel_rfl) (by kernel_rfl) (by kernel_rfl) rfl ?_
              repeat first|refine cg ?_|simp -dsimp[h2,q3,h6,q7,h10,q11,o_h,o_h26,o_h29,o_h34,h35,h39,h41,q42,h47,q48,h53,q54,h59,q60,h67,q68,h71,h77,q78,h79,q80]
              have hF:=ob hF;obtain⟨v81,e82,hF⟩:=hF
              refine((C.f26 B hB1 hB2 aW v81 e82)).pgoW (by simp[h2,q3,h6,q7,h10,q11,o_h,o_h26,o_h29,o_h34,h35,h39,h41,q42,h47,q48,h53,q54,h59,q60,h67,q68,h71,h77,q78,h79,q80]) (by simp) ?_
              repeat first|refine cg ?_|simp -dsimp[h2,q3,h6,q7,h10,q11,o_h,o_h26,o_h29,o_h34,h35,h39,h41,q42,h47,q48,h53,q54,h59,q60,h67,q68,h71,h77,q78,h79,q80]
              have hF:=ob hF;obtain⟨v83,e84,hF⟩:=hF
              refine((C.f18 B hB1 hB2 aT v83 e84)).pgoW (by simp[h2,q3,h6,q7,h10,q11,o_h,o_h26,o_h29,o_h34,h35,h39,h41,q42,h47,q48,h53,q54,h59,q60,h67,q68,h71,h77,q78,h79,q80]) (by simp) ?_
              repeat first|refine cg ?_|simp -dsimp[h2,q3,h6,q7,h10,q11,o_h,o_h26,o_h29,o_h34,h35,h39,h41,q42,h47,q48,h53,q54,h59,q60,h67,q68,h71,h77,q78,h79,q80]
              have hF:=ob hF;obtain⟨v85,e86,hF⟩:=hF
              refine((C.f33 B hB1 hB2 aList v85 e86)).pgoW (by simp[h2,q3,h6,q7,h10,q11,o_h,o_h26,o_h29,o_h34,h35,h39,h41,q42,h47,q48,h53,q54,h59,q60,h67,q68,h71,h77,q78,h79,q80]) (by simp) ?_
              repeat first|refine cg ?_|simp -dsimp[h2,q3,h6,q7,h10,q11,o_h,o_h26,o_h29,o_h34,h35,h39,h41,q42,h47,q48,h53,q54,h59,q60,h67,q68,h71,h77,q78,h79,q80]
              have hF:=ob hF;obtain⟨v87,e88,hF⟩:=hF
              refine(((CC.f34 B hB1 hB2).1 aV v87 e88)).pgoW (by simp[h2,q3,h6,q7,h10,q11,o_h,o_h26,o_h29,o_h34,h35,h39,h41,q42,h47,q48,h53,q54,h59,q60,h67,q68,h71,h77,q78,h79,q80]) (by simp) ?_
              repeat first|refine cg ?_|simp -dsimp[h2,q3,h6,q7,h10,q11,o_h,o_h26,o_h29,o_h34,h35,h39,h41,q42,h47,q48,h53,q54,h59,q60,h67,q68,h71,h77,q78,h79,q80]
              have hF:=ob hF;obtain⟨v89,e90,hF⟩:=hF
              refine((C.impl_RunSteps__f B hB1 hB2 v81 v83 v85 v87 v89 e90)).ngo1 (by simp -dsimp[h2,q3,h6,q7,h10,q11,o_h,o_h26,o_h29,o_h34,h35,h39,h41,q42,h47,q48,h53,q54,h59,q60,h67,q68,h71,h77,q78,h79,q80]) (by simp) (fun h91 o_h91=> ?_)
              repeat first|refine cg ?_|simp -dsimp[h2,q3,h6,q7,h10,q11,o_h,o_h26,o_h29,o_h34,h35,h39,h41,q42,h47,q48,h53,q54,h59,q60,h67,q68,h71,h77,q78,h79,q80,o_h91]
              revert hF;refine aS ?_ ?_<;>intro h92 q93 hF
              ·repeat first|refine cg ?_|simp -dsimp[h2,q3,h6,q7,h10,q11,o_h,o_h26,o_h29,o_h34,h35,h39,h41,q42,h47,q48,h53,q54,h59,q60,h67,q68,h71,h77,q78,h79,q80,o_h91,h92]
               have hF:=ob hF;obtain⟨v94,e95,hF⟩:=hF
               refine((C.f221 B hB1 hB2 v89.2.1 v20.2.1 v94 e95)).lend (by simp -dsimp[h2,q3,h6,q7,h10,q11,o_h,o_h26,o_h29,o_h34,h35,h39,h41,q42,h47,q48,h53,q54,h59,q60,h67,q68,h71,h77,q78,h79,q80,o_h91,h92]) (by simp -dsimp) ?_
               repeat first|refine cg ?_|simp -dsimp[h2,q3,h6,q7,h10,q11,o_h,o_h26,o_h29,o_h34,h35,h39,h41,q42,h47,q48,h53,q54,h59,q60,h67,q68,h71,h77,q78,h79,q80,o_h91,h92]
               revert hF;refine aS (fun h96 q97 hF=> ?_) (fun h96 q97 hF=> ?_)
               ·repeat first|refine cg ?_|simp -dsimp[h2,q3,h6,q7,h10,q11,o_h,o_h26,o_h29,o_h34,h35,h39,h41,q42,h47,q48,h53,q54,h59,q60,h67,q68,h71,h77,q78,h79,q80,o_h91,h92,h96]
                revert hF;refine aN ?_ ?_<;>intro h98 q99 hF
                ·cases hF
                 repeat first|refine cg ?_|simp -dsimp[h2,q3,h6,q7,h10,q11,o_h,o_h26,o_h29,o_h34,h35,h39,h41,q42,h47,q48,h53,q54,h59,q60,h67,q68,h71,h77,q78,h79,q80,o_h91,h92,h96,h98,q99]
                ·repeat first|refine cg ?_|simp -dsimp[h2,q3,h6,q7,h10,q11,o_h,o_h26,o_h29,o_h34,h35,h39,h41,q42,h47,q48,h53,q54,h59,q60,h67,q68,h71,h77,q78,h79,q80,o_h91,h92,h96,h98,q99]
                 have hF:=ob hF;obtain⟨v100,e101,hF⟩:=hF
                 refine((C.f241 B hB1 hB2 v73.1 1 v100 e101)).lend (by simp -dsimp[h2,q3,h6,q7,h10,q11,o_h,o_h26,o_h29,o_h34,h35,h39,h41,q42,h47,q48,h53,q54,h59,q60,h67,q68,h71,h77,q78,h79,q80,o_h91,h92,h96,h98,q99]) (by simp -dsimp) ?_
                 repeat first|refine cg ?_|simp -dsimp[h2,q3,h6,q7,h10,q11,o_h,o_h26,o_h29,o_h34,h35,h39,h41,q42,h47,q48,h53,q54,h59,q60,h67,q68,h71,h77,q78,h79,q80,o_h91,h92,h96,h98,q99]
                 revert hF;refine aS ?_ ?_<;>intro h102 q103 hF
                 ·cases hF
                  repeat first|refine cg ?_|simp -dsimp[h2,q3,h6,q7,h10,q11,o_h,o_h26,o_h29,o_h34,h35,h39,h41,q42,h47,q48,h53,q54,h59,q60,h67,q68,h71,h77,q78,h79,q80,o_h91,h92,h96,h98,q99,h102]
                 ·repeat first|refine cg ?_|simp -dsimp[h2,q3,h6,q7,h10,q11,o_h,o_h26,o_h29,o_h34,h35,h39,h41,q42,h47,q48,h53,q54,h59,q60,h67,q68,h71,h77,q78,h79,q80,o_h91,h92,h96,h98,q99,h102,q103]
                  revert hF;refine aN ?_ ?_<;>intro h104 q105 hF
                  ·cases hF
                   repeat first|refine cg ?_|simp -dsimp[h2,q3,h6,q7,h10,q11,o_h,o_h26,o_h29,o_h34,h35,h39,h41,q42,h47,q48,h53,q54,h59,q60,h67,q68,h71,h77,q78,h79,q80,o_h91,h92,h96,h98,q99,h102,q103,h104,q105]
                  ·cases hF
                   repeat first|refine cg ?_|simp -dsimp[h2,q3,h6,q7,h10,q11,o_h,o_h26,o_h29,o_h34,h35,h39,h41,q42,h47,q48,h53,q54,h59,q60,h67,q68,h71,h77,q78,h79,q80,o_h91,h92,h96,h98,q99,h102,q103,h104,q105]
               ·cases hF
                repeat first|refine cg ?_|simp -dsimp[h2,q3,h6,q7,h10,q11,o_h,o_h26,o_h29,o_h34,h35,h39,h41,q42,h47,q48,h53,q54,h59,q60,h67,q68,h71,h77,q78,h79,q80,o_h91,h92,h96,q97]
              ·cases hF
               repeat first|refine cg ?_|simp -dsimp[h2,q3,h6,q7,h10,q11,o_h,o_h26,o_h29,o_h34,h35,h39,h41,q42,h47,q48,h53,q54,h59,q60,h67,q68,h71,h77,q78,h79,q80,o_h91,h92,q93]
           ·cases hF
            repeat first|refine cg ?_|simp -dsimp[h2,q3,h6,q7,h10,q11,o_h,o_h26,o_h29,o_h34,h35,h39,h41,q42,h47,q48,h53,q54,h59,q60,h67,q68,h71,q72]
          ·cases hF
           repeat first|refine cg ?_|simp -dsimp[h2,q3,h6,q7,h10,q11,o_h,o_h26,o_h29,o_h34,h35,h39,h41,q42,h47,q48,h53,q54,h59,q60,h67,q68]
     ·cases hF
      repeat first|refine cg ?_|simp -dsimp[h2,q3,h6,q7,h10,q11,o_h,o_h26,o_h29,o_h34,h35,h39,q40]
    ·cases hF
     repeat first|refine cg ?_|simp -dsimp[h2,q3,h6,q7,h10,q11,o_h,o_h26,o_h29,o_h34,h35,q36]
end Go.Proofs.YtojdombnghnbmaaGreat
