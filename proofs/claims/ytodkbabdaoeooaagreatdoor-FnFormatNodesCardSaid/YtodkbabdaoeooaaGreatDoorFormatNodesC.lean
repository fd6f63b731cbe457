/- Part. -/
import Derived.Test.YtodkbabdaoeooaaGreatDoorFormatNodesC1
open List renaming length->zA,map->zB,length_cons->zC,length_nil->zD,getElem?_set_self->zE,length_map->zF,length_append->zG
open ByteArray renaming size_append->zH,empty->zI
namespace Go.Proofs.YtodkbabdaoeooaaGreatDoor
open Go Go.Proofs Go.Vl
open Go.Vl renaming Node->zJ,Edge->zK,Data->zL
open Branch renaming c->zM
open Go.Vl.Data renaming c->zN
open Blk renaming bnd->zO
open ADraw renaming simI->zP,effP->zR,effI->zS,split->zT,opn->zU,effLP->zV,effL->zW,gh->zX,post->zY
open Again renaming is->zZ
open Leave renaming is->yA
open PureCall renaming inLe->yB,enterG->yC
open ALoop renaming is->yD,goU->yE
open PathBind renaming c->yF
open Tree renaming c->yG
open Pattern renaming c->yH
open Gh renaming frzElem->yI,frzCell->yJ,trans->yK,nilCell->yL
open C renaming f54->yM,f1->yN,f92->yO
open Clause renaming c->yP
open ECallA renaming frz->yQ
open ACall renaming bldW->yR,frz->yS
open CC renaming f26->yT
open Go.Proofs.Tryz
open Go.Proofs.Tryz renaming prog->zQ
open abr renaming sp->aS,ns->aN
open Leave renaming go->lG
open Again renaming go->aG
open ALoopU renaming enter->eN
open Gh renaming to3->gT,refl->gR
open PureCall renaming enterLe->pE
open Go.IntKind (i64)
set_option linter.all false
set_option maxRecDepth 100000
set_option maxHeartbeats 4000000
set_option synthInstance.maxSize 100000
set_option synthInstance.maxHeartbeats 4000000
attribute [local irreducible] GhK ECallA aL AMake MLoop AgainM LeaveM ZBu ZBM MutCall BCall chk abr ACall ALoop ALoopU ADraw Again Leave ZEx PCall ZA2 awp ZIg PureCall hold
variable (B : Nat) (hB1 : 1073741824 <= bd B) (hB2 : bd B <= 9223372036854775807 /\ ZLa B = some 0)
include hB1 hB2
theorem CC.f133 (w:List zL)(column:ZC)(v:List Int)(v4:List Int):(∀(out:List Branch) (i:Nat) (o:List Branch),F.f133 w column v v4 out i=some o->∀(c:Code),Zb [1,1,0,1,0,1,1,0,1,0,0] (ZK Tryz.f154)=some c->∀(Q:Exit->ASt->Prop),(Q (.exit 0) ⟨[(9,.own 1 (zA (α:=Branch) o))],[.dead,.elems 9 (zB zM o)]⟩)->ALoopU zQ B 0 75 (hold c .mk) ⟨[(0,am zN w),(5,.ptr 0 0),(9,.own 1 (zA (α:=Branch) out)),(10,am cI v),(11,am cI v4),(12,li (i:Int))],[.cells [am cI column.f0,li column.f1.data,li column.f1.index],.elems 9 (zB zM out)]⟩ (hold Q .mk)):=by
 refine F.f133.partial_correctness w column v v4
  _
  ?_
 ·intro _f_f133 ih_f133 out i o hF
  refine ZJ rfl fun Q hq hk hs=> ?_
  have b0:=hk 0
  simp -dsimp at b0
  have b10:=hk 10
  simp -dsimp at b10
  have b11:=hk 11
  simp -dsimp at b11
  have d0:=hs 0 _ rfl
  simp -dsimp[zO]at d0
  have d1:=hs 1 _ rfl
  simp -dsimp[zO]at d1
  clear hk hs
  refine eN ?_
  repeat first|refine cg ?_|simp -dsimp
  revert hF;refine aS ?_ ?_<;>intro h6 q7 hF
  ·have z8:((i:Int)<(v4.length:Int)):=auz
   repeat first|refine cg ?_|simp -dsimp[h6,z8]
   refine zP follows ?_
   have hF:=ob hF;obtain⟨x,e9,hF⟩:=hF
   have le9:=ZD e9
   repeat first|refine cg ?_|simp -dsimp[↓e9]
   have hF:=ob hF;obtain⟨v10,e11,hF⟩:=hF
   refine((C.f128 B hB1 hB2 w column.f1 x v10 e11)).pgoW (by simp_all) (by simp) ?_
   repeat first|refine cg ?_|simp -dsimp[↓e9]
   have hF:=ob hF;obtain⟨v12,e13,hF⟩:=hF
   refine(((CC.f129 B hB1 hB2 w v).1 column.f1 v10 v12 e13)).pgoW (by simp_all) (by simp) ?_
   repeat first|refine cg ?_|simp -dsimp[↓e9]
   revert hF;refine aS (fun h14 q15 hF=> ?_) (fun h14 q15 hF=> ?_)
   ·have hF:=oc hF;obtain⟨c16,hF⟩:=hF
    have w17:i64.wrap ((i:Int)+1)=(i:Int)+1:=ZF (by omega) (by omega)
    repeat first|refine cg ?_|simp -dsimp[↓e9,h14,w17]
    refine zZ ((ih_f133 (out++[(⟨x,0,0,(⟨0,0,[],[],[],[]⟩:Tree)⟩:Branch)]) (i+1) o hF) _ rfl _ hq)
   ·have w18:i64.wrap ((i:Int)+1)=(i:Int)+1:=ZF (by omega) (by omega)
    repeat first|refine cg ?_|simp -dsimp[↓e9,h14,q15,w18]
    refine zZ ((ih_f133 out (i+1) o hF) _ rfl _ hq)
  ·have z8:¬((i:Int)<(v4.length:Int)):=auz
   cases hF
   repeat first|refine cg ?_|simp -dsimp[h6,q7,z8]
   refine yA hq
theorem CC.f134 (rows:List ZA)(at':Int):(∀(out20:List Branch) (from':Nat) (n:Nat) (o:List Branch),F.f134 rows at' out20 from' n=some o->∀(c:Code),Zb [1,1,1,1,0,1,0,0] (ZK Tryz.f154)=some c->∀(Q:Exit->ASt->Prop),(Q (.exit 2) ⟨[(9,.own 1 (zA (α:=Branch) o))],[.dead,.elems 9 (zB zM o)]⟩)->ALoopU zQ B 0 75 (hold c .mk) ⟨[(2,am ZA.c rows),(3,li at'),(9,.own 1 (zA (α:=Branch) out20)),(13,li (from':Int)),(14,li (n:Int))],[.dead,.elems 9 (zB zM out20)]⟩ (hold Q .mk)):=by
 refine F.f134.partial_correctness rows at'
  _
  ?_
 ·intro _f_f134 ih_f134 out20 from' n o hF
  refine ZJ rfl fun Q hq hk hs=> ?_
  have b2:=hk 2
  simp -dsimp at b2
  have d1:=hs 1 _ rfl
  simp -dsimp[zO]at d1
  clear hk hs
  refine eN ?_
  repeat first|refine cg ?_|simp -dsimp
  revert hF;refine aS ?_ ?_<;>intro h21 q22 hF
  ·have z23:((n:Int)<=10):=auz
   repeat first|refine cg ?_|simp -dsimp[h21,z23]
   revert hF;refine aN ?_ ?_<;>intro h24 q25 hF
   ·have z26:¬((n:Int)=10):=auz
    repeat first|refine cg ?_|simp -dsimp[h21,z23,h24,q25,z26]
    have hF:=ob hF;obtain⟨v27,e28,hF⟩:=hF
    refine((C.f132 B hB1 hB2 rows at' (n:Int) v27 e28)).goI ?_
    repeat first|refine cg ?_|simp -dsimp[h21,z23,h24,q25,z26]
    revert hF;refine aS (fun h29 q30 hF=> ?_) (fun h29 q30 hF=> ?_)
    ·have hF:=oc hF;obtain⟨c31,hF⟩:=hF
     have hF:=oc hF;obtain⟨c32,hF⟩:=hF
     have w33:i64.wrap ((n:Int)+1)=(n:Int)+1:=ZF (by omega) (by omega)
     repeat first|refine cg ?_|simp -dsimp[h21,z23,h24,q25,z26,h29,w33]
     refine zZ ((ih_f134 (out20++[(⟨(-1),(from':Int),i64.wrap ((n:Int) -1),(⟨0,0,[],[],[],[]⟩:Tree)⟩:Branch)]) n (n+1) o hF) _ rfl _ hq)
    ·have hF:=oc hF;obtain⟨c34,hF⟩:=hF
     have w35:i64.wrap ((n:Int)+1)=(n:Int)+1:=ZF (by omega) (by omega)
     repeat first|refine cg ?_|simp -dsimp[h21,z23,h24,q25,z26,h29,q30,w35]
     refine zZ ((ih_f134 out20 from' (n+1) o hF) _ rfl _ hq)
   ·have z26:((n:Int)=10):=auz
    have hF:=oc hF;obtain⟨c36,hF⟩:=hF
    have hF:=oc hF;obtain⟨c37,hF⟩:=hF
    have w38:i64.wrap ((n:Int)+1)=(n:Int)+1:=ZF (by omega) (by omega)
    repeat first|refine cg ?_|simp -dsimp[h21,z23,eq_true h24,eq_true q25,eq_true z26,w38]
    refine zZ ((ih_f134 (out20++[(⟨(-1),(from':Int),i64.wrap ((n:Int) -1),(⟨0,0,[],[],[],[]⟩:Tree)⟩:Branch)]) n (n+1) o hF) _ rfl _ hq)
  ·have z23:¬((n:Int)<=10):=auz
   cases hF
   repeat first|refine cg ?_|simp -dsimp[h21,q22,z23]
   refine yA hq
theorem C.f135 (w:List zL)(column:ZC)(rows:List ZA)(at':Int)(r:List Branch)(hF:F.f135 w column rows at'=some r):PureCall zQ B 154 [am zN w,.agg [am cI column.f0,li column.f1.data,li column.f1.index],am ZA.c rows,li at'] (am zM r):=by
 unfold F.f135 at hF
 refine yB func154 rfl ntmps154 ?_
 repeat first|refine cg ?_|simp -dsimp
 revert hF;refine aN ?_ ?_<;>intro h1 q2 hF
 ·repeat first|refine cg ?_|simp -dsimp[h1,q2]
  have hF:=ob hF;obtain⟨v,e3,hF⟩:=hF
  refine((C.f53 B hB1 hB2 w v e3)).goI ?_
  repeat first|refine cg ?_|simp -dsimp
  have hF:=ob hF;obtain⟨v4,e5,hF⟩:=hF
  refine((C.f42 B hB1 hB2 w column.f1 v4 e5)).goI ?_
  repeat first|refine cg ?_|simp -dsimp
  have hF:=ob hF;obtain⟨o',ho19,hF⟩:=hF
  refine yD (((CC.f133 B hB1 hB2 w column v v4) [] 0 o' ho19) _ rfl _ ?_)
  cases hF
  repeat first|refine cg ?_|simp -dsimp
 ·repeat first|refine cg ?_|simp -dsimp
  have hF:=ob hF;obtain⟨o'40,ho39,hF⟩:=hF
  refine yD (((CC.f134 B hB1 hB2 rows at') [] 0 1 o'40 ho39) _ rfl _ ?_)
  cases hF
  repeat first|refine cg ?_|simp -dsimp
theorem CC.f136 (w:List zL)(columns:List ZC)(rows:List ZA)(pick:Int):(∀(i:Int) (best:Int) (o:Int),F.f136 w columns rows pick i best=some o->∀(c:Code),Zb [1,1,0,1,0,0] (ZK Tryz.f153)=some c->∀(Q:Exit->ASt->Prop),(Q (.exit 0) ⟨[(9,li o)],[]⟩)->ALoopU zQ B 0 73 (hold c .mk) ⟨[(0,am zN w),(1,am ZC.c columns),(2,am ZA.c rows),(3,li pick),(9,li best),(10,li i)],[]⟩ (hold Q .mk)):=by
 refine F.f136.partial_correctness w columns rows pick
  _
  ?_
 ·intro _f_f136 ih_f136 i best o hF
  refine ZJ rfl fun Q hq hk hs=> ?_
  have b0:=hk 0
  simp -dsimp at b0
  have b1:=hk 1
  simp -dsimp at b1
  have b2:=hk 2
  simp -dsimp at b2
  clear hk hs
  refine eN ?_
  repeat first|refine cg ?_|simp -dsimp
  revert hF;refine aS ?_ ?_<;>intro h3 q4 hF
  ·repeat first|refine cg ?_|simp -dsimp[h3]
   revert hF;refine aN ?_ ?_<;>intro h5 q6 hF
   ·have hF:=ob hF;obtain⟨x7,e8,hF⟩:=hF
    have le8:=ZD e8
    have hF:=ob hF;obtain⟨x9,e10a,hF⟩:=hF
    have e10a:=ZO e10a;obtain⟨ne10,e10⟩:=e10a
    have le10:=ZD e10
    repeat first|refine cg ?_|simp -dsimp[h3,h5,q6,↓e8,↓e10]
    revert hF;refine aS ?_ ?_<;>intro h11 q12 hF
    ·repeat first|refine cg ?_|simp -dsimp[h3,h5,q6,↓e8,↓e10,h11]
     refine zZ ((ih_f136 (i64.wrap (i+1)) best o hF) _ rfl _ hq)
    ·repeat first|refine cg ?_|simp -dsimp[h3,h5,q6,↓e8,↓e10,h11,q12]
     revert hF;refine aS ?_ ?_<;>intro h13 q14 hF
     ·repeat first|refine cg ?_|simp -dsimp[h3,h5,q6,↓e8,↓e10,h11,q12,eq_true h13]
      have hF:=ob hF;obtain⟨v15,e16,hF⟩:=hF
      refine((C.f126 B hB1 hB2 rows i v15 e16)).goI ?_
      repeat first|refine cg ?_|simp -dsimp[h3,h5,q6,↓e8,↓e10,h11,q12,eq_true h13]
      have hF:=ob hF;obtain⟨v17,e18,hF⟩:=hF
      refine((C.f126 B hB1 hB2 rows best v17 e18)).goI ?_
      repeat first|refine cg ?_|simp -dsimp[h3,h5,q6,↓e8,↓e10,h11,q12,eq_true h13]
      revert hF;refine aS ?_ ?_<;>intro h19 q20 hF
      ·repeat first|refine cg ?_|simp -dsimp[h3,h5,q6,↓e8,↓e10,h11,q12,eq_true h13,h19]
       refine zP follows ?_
       have n21:¬(pick=2):=by omega
       repeat first|refine cg ?_|simp -dsimp[h3,h5,q6,↓e8,↓e10,h11,q12,eq_true h13,h19,n21]
       refine zZ ((ih_f136 (i64.wrap (i+1)) i o hF) _ rfl _ hq)
      ·repeat first|refine cg ?_|simp -dsimp[h3,h5,q6,↓e8,↓e10,h11,q12,eq_true h13,h19,q20]
       refine zP follows ?_
       have n22:¬(pick=2):=by omega
       repeat first|refine cg ?_|simp -dsimp[h3,h5,q6,↓e8,↓e10,h11,q12,eq_true h13,h19,q20,n22]
       refine zZ ((ih_f136 (i64.wrap (i+1)) best o hF) _ rfl _ hq)
     ·repeat first|refine cg ?_|simp -dsimp[h3,h5,q6,↓e8,↓e10,h11,q12,h13,q14]
      refine zP follows ?_
      repeat first|refine cg ?_|simp -dsimp[h3,h5,q6,↓e8,↓e10,h11,q12,h13,q14]
      revert hF;refine aS ?_ ?_<;>intro h23 q24 hF
      ·have hF:=ob hF;obtain⟨x25,e26a,hF⟩:=hF
       have e26a:=ZO e26a;obtain⟨ne26,e26⟩:=e26a
       have le26:=ZD e26
       repeat first|refine cg ?_|simp -dsimp[h3,h5,q6,↓e8,↓e10,h11,q12,h13,q14,eq_true h23,↓e26]
       have hF:=ob hF;obtain⟨v27,e28,hF⟩:=hF
       refine((C.f135 B hB1 hB2 w x25 rows i v27 e28)).pgoW (by simp[h3,h5,q6,↓e8,↓e10,h11,q12,h13,q14,eq_true h23,↓e26]) (by simp) ?_
       have hF:=ob hF;obtain⟨x29,e30a,hF⟩:=hF
       have e30a:=ZO e30a;obtain⟨ne30,e30⟩:=e30a
       have le30:=ZD e30
       repeat first|refine cg ?_|simp -dsimp[h3,h5,q6,↓e8,↓e10,h11,q12,h13,q14,eq_true h23,↓e26,↓e30]
       have hF:=ob hF;obtain⟨v31,e32,hF⟩:=hF
       refine((C.f135 B hB1 hB2 w x29 rows best v31 e32)).pgoW (by simp[h3,h5,q6,↓e8,↓e10,h11,q12,h13,q14,eq_true h23,↓e26,↓e30]) (by simp) ?_
       repeat first|refine cg ?_|simp -dsimp[h3,h5,q6,↓e8,↓e10,h11,q12,h13,q14,eq_true h23,↓e26,↓e30]
       revert hF;refine aS ?_ ?_<;>intro h33 q34 hF
       ·have z35:((v27.length:Int)<(v31.length:Int)):=auz
        repeat first|refine cg ?_|simp -dsimp[h3,h5,q6,↓e8,↓e10,h11,q12,h13,q14,eq_true h23,↓e26,↓e30,h33,z35]
        refine zZ ((ih_f136 (i64.wrap (i+1)) i o hF) _ rfl _ hq)
       ·have z35:¬((v27.length:Int)<(v31.length:Int)):=auz
        repeat first|refine cg ?_|simp -dsimp[h3,h5,q6,↓e8,↓e10,h11,q12,h13,q14,eq_true h23,↓e26,↓e30,h33,q34,z35]
        refine zZ ((ih_f136 (i64.wrap (i+1)) best o hF) _ rfl _ hq)
      ·repeat first|refine cg ?_|simp -dsimp[h3,h5,q6,↓e8,↓e10,h11,q12,h13,q14,h23,q24]
       refine zZ ((ih_f136 (i64.wrap (i+1)) best o hF) _ rfl _ hq)
   ·cases hF
    repeat first|refine cg ?_|simp -dsimp[h3,eq_true h5,eq_true q6]
    refine yA hq
  ·cases hF
   repeat first|refine cg ?_|simp -dsimp[h3,q4]
   refine yA hq
theorem C.f137 (w:List zL)(columns:List ZC)(rows:List ZA)(pick:Int)(r:Int)(hF:F.f137 w columns rows pick=some r):PureCall zQ B 153 [am zN w,am ZC.c columns,am ZA.c rows,li pick] (li r):=by
 unfold F.f137 at hF
 refine yB func153 rfl ntmps153 ?_
 have hF:=ob hF;obtain⟨x,e1,hF⟩:=hF
 have le1:=ZD e1
 repeat first|refine cg ?_|simp -dsimp[↓e1]
 have hF:=ob hF;obtain⟨v,e2,hF⟩:=hF
 refine((C.f119 B hB1 hB2 x v e2)).goI ?_
 repeat first|refine cg ?_|simp -dsimp
 have hF:=ob hF;obtain⟨o',ho36,hF⟩:=hF
 refine yD (((CC.f136 B hB1 hB2 w columns rows pick) (i64.wrap (v+1)) v o' ho36) _ rfl _ ?_)
 cases hF
 repeat first|refine cg ?_|simp -dsimp
theorem C.f138 (path:List Int)(i:Int)(r:List Int)(hF:F.f138 path i=some r):PureCall zQ B 96 [am cI path,li i] (am cI r):=by
 unfold F.f138 at hF
 refine yB func96 rfl ntmps96 ?_
 have hF:=oc hF;obtain⟨c1,hF⟩:=hF
 have hF:=oc hF;obtain⟨c2,hF⟩:=hF
 cases hF
 repeat first|refine cg ?_|simp -dsimp
theorem CC.f139 (columns:List ZC)(at':Int)(v:List Ty):(∀(out:List ZC) (i:Nat) (o:List ZC),F.f139 columns at' v out i=some o->∀(c:Code),Zb [1,1,0,1,0,1,1,0,0] (ZK Tryz.f155)=some c->∀(Q:Exit->ASt->Prop),(Q (.exit 0) ⟨[(1,am ZC.c columns),(2,li at'),(9,.own 1 (zA (α:=ZC) o))],[.dead,.elems 3 (zB ZC.c o)]⟩)->ALoopU zQ B 0 56 (hold c .mk) ⟨[(1,am ZC.c columns),(2,li at'),(9,.own 1 (zA (α:=ZC) out)),(10,am Ty.c v),(11,li (i:Int))],[.dead,.elems 3 (zB ZC.c out)]⟩ (hold Q .mk)):=by
 refine F.f139.partial_correctness columns at' v
  _
  ?_
 ·intro _f_f139 ih_f139 out i o hF
  refine ZJ rfl fun Q hq hk hs=> ?_
  have b1:=hk 1
  simp -dsimp at b1
  have b10:=hk 10
  simp -dsimp at b10
  have d1:=hs 1 _ rfl
  simp -dsimp[zO]at d1
  clear hk hs
  refine eN ?_
  repeat first|refine cg ?_|simp -dsimp
  revert hF;refine aS ?_ ?_<;>intro h7 q8 hF
  ·have z9:((i:Int)<(v.length:Int)):=auz
   repeat first|refine cg ?_|simp -dsimp[h7,z9]
   refine zS [] [(0,1),(0,0),(0,0),(0,0),(0,0),(0,0),(0,0),(0,2),(0,0),(0,0),(0,0),(0,0),(0,0),(0,2),(0,2),(2,2)] [1,1,1,1,1,1,1,1,1,1,1,1,1,1,1,1] follows ?_
   have hF:=ob hF;obtain⟨x10,e11a,hF⟩:=hF
   have e11a:=ZO e11a;obtain⟨ne11,e11⟩:=e11a
   have le11:=ZD e11
   repeat first|refine cg ?_|simp -dsimp[↓e11]
   have hF:=ob hF;obtain⟨v12,e13,hF⟩:=hF
   refine((C.f138 B hB1 hB2 x10.f0 (i:Int) v12 e13)).pgoW (by simp_all) (by simp) ?_
   have hF:=ob hF;obtain⟨x14,e15,hF⟩:=hF
   have le15:=ZD e15
   have hF:=oc hF;obtain⟨c16,hF⟩:=hF
   have w17:i64.wrap ((i:Int)+1)=(i:Int)+1:=ZF (by omega) (by omega)
   repeat first|refine cg ?_|simp -dsimp[↓e15,w17]
   refine zZ ((ih_f139 (out++[(⟨v12,x14⟩:ZC)]) (i+1) o hF) _ rfl _ hq)
  ·have z9:¬((i:Int)<(v.length:Int)):=auz
   cases hF
   repeat first|refine cg ?_|simp -dsimp[h7,q8,z9]
   refine yA hq
theorem C.f140 (w:List zL)(columns:List ZC)(at':Int)(b:Branch)(r:List ZC)(hF:F.f140 w columns at' b=some r):PureCall zQ B 155 [am zN w,am ZC.c columns,li at',.agg [li b.ctor,li b.n,li b.m,li b.tree.op,li b.tree.clause,am yF b.tree.binds,am cI b.tree.path,am zM b.tree.branches,am yG b.tree.els]] (am ZC.c r):=by
 unfold F.f140 at hF
 refine yB func155 rfl ntmps155 ?_
 have hF:=oc hF;obtain⟨c1,hF⟩:=hF
 have hF:=oc hF;obtain⟨c2,hF⟩:=hF
 repeat first|refine cg ?_|simp -dsimp
 revert hF;refine aN ?_ ?_<;>intro h3 q4 hF
 ·repeat first|refine cg ?_|simp -dsimp[h3,q4]
  refine zP follows ?_
  have hF:=ob hF;obtain⟨x,e5a,hF⟩:=hF
  have e5a:=ZO e5a;obtain⟨ne5,e5⟩:=e5a
  have le5:=ZD e5
  repeat first|refine cg ?_|simp -dsimp[↓e5]
  have hF:=ob hF;obtain⟨v,e6,hF⟩:=hF
  refine((C.f45 B hB1 hB2 w x.f1 b.ctor v e6)).pgoW (by simp_all) (by simp) ?_
  repeat first|refine cg ?_|simp -dsimp
  have hF:=ob hF;obtain⟨o',ho18,hF⟩:=hF
  refine yD (((CC.f139 B hB1 hB2 columns at' v) ((columns.drop 0).take (at'.toNat-0)) 0 o' ho18) _ rfl _ ?_)
  have hF:=oc hF;obtain⟨c19,hF⟩:=hF
  have hF:=oc hF;obtain⟨c20,hF⟩:=hF
  cases hF
  repeat first|refine cg ?_|simp -dsimp
 ·have hF:=oc hF;obtain⟨c21,hF⟩:=hF
  have hF:=oc hF;obtain⟨c22,hF⟩:=hF
  cases hF
  repeat first|refine cg ?_|simp -dsimp
theorem C.f141 (p:Pattern)(b:Branch)(r:Bool)(hF:F.f141 p b=some r):PureCall zQ B 180 [.agg [li p.op,li p.ctor,li p.n,li p.m,li p.var,am yH p.kids],.agg [li b.ctor,li b.n,li b.m,li b.tree.op,li b.tree.clause,am yF b.tree.binds,am cI b.tree.path,am zM b.tree.branches,am yG b.tree.els]] (.lit (.bool r)):=by
 unfold F.f141 at hF
 refine yB func180 rfl ntmps180 ?_
 repeat first|refine cg ?_|simp -dsimp
 revert hF;refine aS ?_ ?_<;>intro h1 q2 hF
 ·cases hF
  repeat first|refine cg ?_|simp -dsimp[h1]
 ·repeat first|refine cg ?_|simp -dsimp[q2]
  revert hF;refine aS ?_ ?_<;>intro h3 q4 hF
  ·repeat first|refine cg ?_|simp -dsimp[h3]
   revert hF;refine aS ?_ ?_<;>intro h5 q6 hF
   ·cases hF
    repeat first|refine cg ?_|simp -dsimp[h5]
   ·cases hF
    repeat first|refine cg ?_|simp -dsimp[q6]
  ·cases hF
   repeat first|refine cg ?_|simp -dsimp[q4]
theorem CC.spec_l7Strip__g_l1 (row:ZA)(path:List Int):(∀(z:List PathBind) (z1:Int) (z2:Int) (z3:Int) (z4:Int) (z5:Int) (z6:List Pattern) (o:(List PathBind)×Int×Int×Int×Int×Int×(List Pattern)),F.f113 row path z z1 z2 z3 z4 z5 z6=some o->∀(c:Code),Zb [1,0,0,0] (ZK Tryz.f157)=some c->∀(Q:Exit->ASt->Prop),(Q (.exit 0) ⟨[(2,am cI path),(3,.ptr 1 0),(4,.ptr 2 0),(6,.ptr 3 0),(7,.ptr 4 0)],[.elems 6 (zB yH row.f1),.cells [li row.f0,.own 0 (zA (α:=Pattern) row.f1),am yF o.1],.cells [li o.2.1,li o.2.2.1,li o.2.2.2.1,li o.2.2.2.2.1,li o.2.2.2.2.2.1,am yH o.2.2.2.2.2.2],.cells [li 0,.lit (.slice none 0 0),.lit (.slice none 0 0)],.cells [li 0,li 0,li 0,li 0,li 0,.lit (.slice none 0 0)]]⟩)->ALoopU zQ B 1 48 (hold c .mk) ⟨[(2,am cI path),(3,.ptr 1 0),(4,.ptr 2 0),(6,.ptr 3 0),(7,.ptr 4 0)],[.elems 6 (zB yH row.f1),.cells [li row.f0,.own 0 (zA (α:=Pattern) row.f1),am yF z],.cells [li z1,li z2,li z3,li z4,li z5,am yH z6],.cells [li 0,.lit (.slice none 0 0),.lit (.slice none 0 0)],.cells [li 0,li 0,li 0,li 0,li 0,.lit (.slice none 0 0)]]⟩ (hold Q .mk)):=by
 refine F.f113.partial_correctness row path
  _
  ?_
 ·intro _f_spec_l7Strip__g_l1 ih_spec_l7Strip__g_l1 z z1 z2 z3 z4 z5 z6 o hF
  refine ZJ rfl fun Q hq hk hs=> ?_
  have b2:=hk 2
  simp -dsimp at b2
  have d0:=hs 0 _ rfl
  simp -dsimp[zO]at d0
  have d1:=hs 1 _ rfl
  simp -dsimp[zO]at d1
  have d2:=hs 2 _ rfl
  simp -dsimp[zO]at d2
  clear hk hs
  refine eN ?_
  repeat first|refine cg ?_|simp -dsimp
  revert hF;refine aS ?_ ?_<;>intro h7 q8 hF
  ·repeat first|refine cg ?_|simp -dsimp[eq_true h7]
   refine zU ?_
   refine zT [] [(0,6)] [(6,0)] 0 6 rfl rfl (by kernel_rfl) ?_ ?_
   ·refine zT [(0,6)] [(0,6),(3,6)] [(0,6),(6,3)] 3 6 rfl rfl (by kernel_rfl) ?_ ?_
    ·refine zR [(0,6),(3,6)] [0,1,2,3,4,5,6,7,8,9,10,11,12,13] [1000074] [(0,8),(0,1),(0,1),(0,8),(0,4),(0,4),(0,8),(0,3),(0,8),(0,8),(0,8),(0,8),(7,7),(0,8)] [1,0,2,1,0,2,1,1,1,1,1,1,1,1] follows (by kernel_rfl) (by kernel_rfl) (by kernel_rfl) (by kernel_rfl) ?_
     have hF:=oc hF;obtain⟨c9,hF⟩:=hF
     have hF:=oc hF;obtain⟨c10,hF⟩:=hF
     have hF:=oc hF;obtain⟨c11,hF⟩:=hF
     have hF:=ob hF;obtain⟨x,e12,hF⟩:=hF
     have le12:=ZD e12
     repeat first|refine cg ?_|simp -dsimp[↓e12]
     refine aG ⟨[(2,.arr (zB cI path)),(3,.ptr 1 0),(4,.ptr 2 0),(6,.ptr 3 0),(7,.ptr 4 0)],[.elems 6 (zB yH row.f1),.cells [.lit (.int .i64 row.f0),.own 0 (zA (α:=Pattern) row.f1),.arr (zB yF (z++[(⟨z5,path⟩:PathBind)]))],.cells [.lit (.int .i64 x.op),.lit (.int .i64 x.ctor),.lit (.int .i64 x.n),.lit (.int .i64 x.m),.lit (.int .i64 x.var),.arr (zB yH x.kids)],.cells [.lit (.int .i64 0),.lit (.slice none 0 0),.lit (.slice none 0 0)],.cells [.lit (.int .i64 0),.lit (.int .i64 0),.lit (.int .i64 0),.lit (.int .i64 0),.lit (.int .i64 0),.lit (.slice none 0 0)]]⟩ (by refine yK (yJ 1 2 (l2:=5) (n:=zA (α:=PathBind) (z++[(⟨z5,path⟩:PathBind)])) (sz:=2) (cs:=[.lit (.int .i64 row.f0),.own 0 (zA (α:=Pattern) row.f1),.own 5 (zA (α:=PathBind) (z++[(⟨z5,path⟩:PathBind)]))]) (es:=zB yF (z++[(⟨z5,path⟩:PathBind)])) (by simp) (by simp) (by simp) (by simp) (by simp)) ?_;exact(gT (by simp) (by simp_all))) ?_
     exact(ih_spec_l7Strip__g_l1 (z++[(⟨z5,path⟩:PathBind)]) x.op x.ctor x.n x.m x.var x.kids o hF) _ rfl _ hq
    ·refine zR [(0,6),(6,3)] [0,1,2,4,5,6,3,7,8,9,10,11,12,13] [1000074] [(0,8),(0,2),(0,2),(0,4),(0,4),(0,8),(0,8),(0,3),(0,8),(0,8),(0,8),(0,8),(7,7),(0,8)] [1,0,2,0,2,1,1,1,1,1,1,1,1,1] follows (by kernel_rfl) (by kernel_rfl) (by kernel_rfl) (by kernel_rfl) ?_
     have hF:=oc hF;obtain⟨c9,hF⟩:=hF
     have hF:=oc hF;obtain⟨c10,hF⟩:=hF
     have hF:=oc hF;obtain⟨c11,hF⟩:=hF
     have hF:=ob hF;obtain⟨x,e12,hF⟩:=hF
     have le12:=ZD e12
     repeat first|refine cg ?_|simp -dsimp[↓e12]
     refine aG ⟨[(2,.arr (zB cI path)),(3,.ptr 1 0),(4,.ptr 2 0),(6,.ptr 3 0),(7,.ptr 4 0)],[.elems 6 (zB yH row.f1),.cells [.lit (.int .i64 row.f0),.own 0 (zA (α:=Pattern) row.f1),.arr (zB yF (z++[(⟨z5,path⟩:PathBind)]))],.cells [.lit (.int .i64 x.op),.lit (.int .i64 x.ctor),.lit (.int .i64 x.n),.lit (.int .i64 x.m),.lit (.int .i64 x.var),.arr (zB yH x.kids)],.cells [.lit (.int .i64 0),.lit (.slice none 0 0),.lit (.slice none 0 0)],.cells [.lit (.int .i64 0),.lit (.int .i64 0),.lit (.int .i64 0),.lit (.int .i64 0),.lit (.int .i64 0),.lit (.slice none 0 0)]]⟩ (by refine yK (yJ 1 2 (l2:=5) (n:=zA (α:=PathBind) (z++[(⟨z5,path⟩:PathBind)])) (sz:=2) (cs:=[.lit (.int .i64 row.f0),.own 0 (zA (α:=Pattern) row.f1),.own 5 (zA (α:=PathBind) (z++[(⟨z5,path⟩:PathBind)]))]) (es:=zB yF (z++[(⟨z5,path⟩:PathBind)])) (by simp) (by simp) (by simp) (by simp) (by simp)) ?_;exact(gT (by simp) (by simp_all))) ?_
     exact(ih_spec_l7Strip__g_l1 (z++[(⟨z5,path⟩:PathBind)]) x.op x.ctor x.n x.m x.var x.kids o hF) _ rfl _ hq
   ·refine zR [(6,0)] [1,2,4,5,6,0,3,7,8,9,10,11,12,13] [1000074] [(0,2),(0,2),(0,4),(0,4),(0,8),(0,8),(0,8),(0,3),(0,8),(0,8),(0,8),(0,8),(7,7),(0,8)] [0,2,0,2,1,1,1,1,1,1,1,1,1,1] follows (by kernel_rfl) (by kernel_rfl) (by kernel_rfl) (by kernel_rfl) ?_
    have hF:=oc hF;obtain⟨c9,hF⟩:=hF
    have hF:=oc hF;obtain⟨c10,hF⟩:=hF
    have hF:=oc hF;obtain⟨c11,hF⟩:=hF
    have hF:=ob hF;obtain⟨x,e12,hF⟩:=hF
    have le12:=ZD e12
    repeat first|refine cg ?_|simp -dsimp[↓e12]
    refine aG ⟨[(2,.arr (zB cI path)),(3,.ptr 1 0),(4,.ptr 2 0),(6,.ptr 3 0),(7,.ptr 4 0)],[.elems 6 (zB yH row.f1),.cells [.lit (.int .i64 row.f0),.own 0 (zA (α:=Pattern) row.f1),.arr (zB yF (z++[(⟨z5,path⟩:PathBind)]))],.cells [.lit (.int .i64 x.op),.lit (.int .i64 x.ctor),.lit (.int .i64 x.n),.lit (.int .i64 x.m),.lit (.int .i64 x.var),.arr (zB yH x.kids)],.cells [.lit (.int .i64 0),.lit (.slice none 0 0),.lit (.slice none 0 0)],.cells [.lit (.int .i64 0),.lit (.int .i64 0),.lit (.int .i64 0),.lit (.int .i64 0),.lit (.int .i64 0),.lit (.slice none 0 0)]]⟩ (by refine yK (yJ 1 2 (l2:=6) (n:=zA (α:=PathBind) (z++[(⟨z5,path⟩:PathBind)])) (sz:=2) (cs:=[.lit (.int .i64 row.f0),.own 0 (zA (α:=Pattern) row.f1),.own 6 (zA (α:=PathBind) (z++[(⟨z5,path⟩:PathBind)]))]) (es:=zB yF (z++[(⟨z5,path⟩:PathBind)])) (by simp) (by simp) (by simp) (by simp) (by simp)) ?_;exact(gT (by simp) (by simp_all))) ?_
    exact(ih_spec_l7Strip__g_l1 (z++[(⟨z5,path⟩:PathBind)]) x.op x.ctor x.n x.m x.var x.kids o hF) _ rfl _ hq
  ·cases hF
   repeat first|refine cg ?_|simp -dsimp[h7,q8]
   refine yA hq
theorem C.spec_l7Strip__g (row:ZA)(p:Pattern)(path:List Int)(r:ZA×Pattern)(hF:F.f114 row p path=some r):BCall zQ B 157 [.elems 6 (zB yH row.f1)] [.agg [li row.f0,.own 0 (zA (α:=Pattern) row.f1),am yF row.f2],.agg [li p.op,li p.ctor,li p.n,li p.m,li p.var,am yH p.kids],am cI path] (.tup [.agg [li r.1.f0,.own 0 (zA (α:=Pattern) r.1.f1),am yF r.1.f2],.agg [li r.2.op,li r.2.ctor,li r.2.n,li r.2.m,li r.2.var,am yH r.2.kids]]) [.elems 6 (zB yH r.1.f1)]:=by
 unfold F.f114 at hF
 refine BCall.enter func157 (by kernel_rfl) rfl ntmps157 (by simp) rfl (by simp) (by simp) (by simp) (by simp) (by simp) (gR _) ?_
 repeat first|refine cg ?_|simp -dsimp
 have hF:=ob hF;obtain⟨o',ho13,hF⟩:=hF
 refine yD (((CC.spec_l7Strip__g_l1 B hB1 hB2 row path) row.f2 p.op p.ctor p.n p.m p.var p.kids o' ho13) _ rfl _ ?_)
 repeat first|refine cg ?_|simp -dsimp
 revert hF;refine aS ?_ ?_<;>intro h14 q15 hF
 ·repeat first|refine cg ?_|simp -dsimp[h14]
  refine zU ?_
  refine zT [] [(0,6)] [(6,0)] 0 6 rfl rfl (by kernel_rfl) ?_ ?_
  ·refine zT [(0,6)] [(0,6),(3,6)] [(0,6),(6,3)] 3 6 rfl rfl (by kernel_rfl) ?_ ?_
   ·refine zR [(0,6),(3,6)] [0,1,2,3,4,5,6,7,8,9,10,11,12,13] [1000074] [(0,8),(0,1),(0,1),(0,8),(0,4),(0,4),(0,8),(0,3),(0,8),(0,8),(0,8),(0,8),(7,7),(0,8)] [1,0,2,1,0,2,1,1,1,1,1,1,1,1] follows (by kernel_rfl) (by kernel_rfl) (by kernel_rfl) (by kernel_rfl) ?_
    have hF:=oc hF;obtain⟨c16,hF⟩:=hF
    have hF:=oc hF;obtain⟨c17,hF⟩:=hF
    have hF:=oc hF;obtain⟨c18,hF⟩:=hF
    repeat first|refine cg ?_|simp -dsimp
    refine zX (yJ 1 2 (l2:=5) (n:=zA (α:=PathBind) (o'.1++[(⟨o'.2.2.2.2.2.1,path⟩:PathBind)])) (sz:=2) (cs:=[.lit (.int .i64 row.f0),.own 0 (zA (α:=Pattern) row.f1),.own 5 (zA (α:=PathBind) (o'.1++[(⟨o'.2.2.2.2.2.1,path⟩:PathBind)]))]) (es:=zB yF (o'.1++[(⟨o'.2.2.2.2.2.1,path⟩:PathBind)])) (by simp) (by simp) (by simp) (by simp) (by simp)) ?_
    repeat first|refine cg ?_|simp -dsimp
    refine zS [] [(0,0),(0,2),(0,2),(0,2)] [1,1,1,1] follows ?_
    repeat first|refine cg ?_|simp -dsimp
    have hF:=ob hF;obtain⟨v,e19,hF⟩:=hF
    refine((yO B hB1 hB2 v e19)).pgoW (by simp_all) (by simp) ?_
    cases hF
    repeat first|refine cg ?_|simp -dsimp
    all_goals(try first|omega|rfl|(simp;done)|(simp only[zC,zD]at*;omega)|simp)
   ·refine zR [(0,6),(6,3)] [0,1,2,4,5,6,3,7,8,9,10,11,12,13] [1000074] [(0,8),(0,2),(0,2),(0,4),(0,4),(0,8),(0,8),(0,3),(0,8),(0,8),(0,8),(0,8),(7,7),(0,8)] [1,0,2,0,2,1,1,1,1,1,1,1,1,1] follows (by kernel_rfl) (by kernel_rfl) (by kernel_rfl) (by kernel_rfl) ?_
    have hF:=oc hF;obtain⟨c16,hF⟩:=hF
    have hF:=oc hF;obtain⟨c17,hF⟩:=hF
    have hF:=oc hF;obtain⟨c18,hF⟩:=hF
    repeat first|refine cg ?_|simp -dsimp
    refine zX (yJ 1 2 (l2:=5) (n:=zA (α:=PathBind) (o'.1++[(⟨o'.2.2.2.2.2.1,path⟩:PathBind)])) (sz:=2) (cs:=[.lit (.int .i64 row.f0),.own 0 (zA (α:=Pattern) row.f1),.own 5 (zA (α:=PathBind) (o'.1++[(⟨o'.2.2.2.2.2.1,path⟩:PathBind)]))]) (es:=zB yF (o'.1++[(⟨o'.2.2.2.2.2.1,path⟩:PathBind)])) (by simp) (by simp) (by simp) (by simp) (by simp)) ?_
    repeat first|refine cg ?_|simp -dsimp
    refine zS [] [(0,0),(0,2),(0,2),(0,2)] [1,1,1,1] follows ?_
    repeat first|refine cg ?_|simp -dsimp
    have hF:=ob hF;obtain⟨v,e19,hF⟩:=hF
    refine((yO B hB1 hB2 v e19)).pgoW (by simp_all) (by simp) ?_
    cases hF
    repeat first|refine cg ?_|simp -dsimp
    all_goals(try first|omega|rfl|(simp;done)|(simp only[zC,zD]at*;omega)|simp)
  ·refine zR [(6,0)] [1,2,4,5,6,0,3,7,8,9,10,11,12,13] [1000074] [(0,2),(0,2),(0,4),(0,4),(0,8),(0,8),(0,8),(0,3),(0,8),(0,8),(0,8),(0,8),(7,7),(0,8)] [0,2,0,2,1,1,1,1,1,1,1,1,1,1] follows (by kernel_rfl) (by kernel_rfl) (by kernel_rfl) (by kernel_rfl) ?_
   have hF:=oc hF;obtain⟨c16,hF⟩:=hF
   have hF:=oc hF;obtain⟨c17,hF⟩:=hF
   have hF:=oc hF;obtain⟨c18,hF⟩:=hF
   repeat first|refine cg ?_|simp -dsimp
   refine zX (yJ 1 2 (l2:=6) (n:=zA (α:=PathBind) (o'.1++[(⟨o'.2.2.2.2.2.1,path⟩:PathBind)])) (sz:=2) (cs:=[.lit (.int .i64 row.f0),.own 0 (zA (α:=Pattern) row.f1),.own 6 (zA (α:=PathBind) (o'.1++[(⟨o'.2.2.2.2.2.1,path⟩:PathBind)]))]) (es:=zB yF (o'.1++[(⟨o'.2.2.2.2.2.1,path⟩:PathBind)])) (by simp) (by simp) (by simp) (by simp) (by simp)) ?_
   repeat first|refine cg ?_|simp -dsimp
   refine zS [] [(0,0),(0,2),(0,2),(0,2)] [1,1,1,1] follows ?_
   repeat first|refine cg ?_|simp -dsimp
   have hF:=ob hF;obtain⟨v,e19,hF⟩:=hF
   refine((yO B hB1 hB2 v e19)).pgoW (by simp_all) (by simp) ?_
   cases hF
   repeat first|refine cg ?_|simp -dsimp
   all_goals(try first|omega|rfl|(simp;done)|(simp only[zC,zD]at*;omega)|simp)
 ·repeat first|refine cg ?_|simp -dsimp[q15]
  refine zS [] [(0,0),(0,1),(0,2),(0,2)] [1,2,1,1] follows ?_
  cases hF
  repeat first|refine cg ?_|simp -dsimp
  all_goals(try first|omega|rfl|(simp;done)|(simp only[zC,zD]at*;omega)|simp)
theorem CC.f142 (columns:List ZC)(rows:List ZA)(at':Int)(b:Branch)(v:List ZC)(out:List ZA)(i:Nat)(x6:Pattern):(∀(z:Int) (z15:List PathBind) (out16:List Pattern) (k:Int) (o:Int×(List PathBind)×(List Pattern)),F.f142 columns rows at' b v out i x6 z z15 out16 k=some o->∀(c:Code),Zb [1,1,1,0,1,0,0,1,0,0,1,1,1,0,1,0,0] (ZK Tryz.f156)=some c->∀(Q:Exit->ASt->Prop),(Q (.exit 2) ⟨[(1,am ZC.c columns),(2,am ZA.c rows),(3,li at'),(9,.ptr 1 0),(11,.own 2 (zA (α:=ZA) out)),(12,am ZC.c v),(13,li (i:Int)),(15,.ptr 5 0)],[.elems 0 [],.cells [li b.ctor,li b.n,li b.m,li b.tree.op,li b.tree.clause,am yF b.tree.binds,am cI b.tree.path,am zM b.tree.branches,am yG b.tree.els],.elems 3 (zB ZA.c out),.dead,.elems 6 (zB yH o.2.2),.cells [li o.1,.own 4 (zA (α:=Pattern) o.2.2),am yF o.2.1]]⟩)->ALoopU zQ B 0 123 (hold c .mk) ⟨[(1,am ZC.c columns),(2,am ZA.c rows),(3,li at'),(9,.ptr 1 0),(11,.own 2 (zA (α:=ZA) out)),(12,am ZC.c v),(13,li (i:Int)),(14,.ptr 3 0),(15,.ptr 5 0),(16,li k)],[.elems 0 [],.cells [li b.ctor,li b.n,li b.m,li b.tree.op,li b.tree.clause,am yF b.tree.binds,am cI b.tree.path,am zM b.tree.branches,am yG b.tree.els],.elems 3 (zB ZA.c out),.cells [li x6.op,li x6.ctor,li x6.n,li x6.m,li x6.var,am yH x6.kids],.elems 6 (zB yH out16),.cells [li z,.own 4 (zA (α:=Pattern) out16),am yF z15]]⟩ (hold Q .mk)):=by
 refine F.f142.partial_correctness columns rows at' b v out i x6
  _
  ?_
 ·intro _f_f142 ih_f142 z z15 out16 k o hF
  refine ZJ rfl fun Q hq hk hs=> ?_
  have b1:=hk 1
  simp -dsimp at b1
  have b2:=hk 2
  simp -dsimp at b2
  have b12:=hk 12
  simp -dsimp at b12
  have d1:=hs 1 _ rfl
  simp -dsimp[zO]at d1
  have d2:=hs 2 _ rfl
  simp -dsimp[zO]at d2
  have d3:=hs 3 _ rfl
  simp -dsimp[zO]at d3
  have d4:=hs 4 _ rfl
  simp -dsimp[zO]at d4
  have d5:=hs 5 _ rfl
  simp -dsimp[zO]at d5
  clear hk hs
  refine eN ?_
  repeat first|refine cg ?_|simp -dsimp
  revert hF;refine aS ?_ ?_<;>intro h17 q18 hF
  ·repeat first|refine cg ?_|simp -dsimp[h17]
   have hF:=ob hF;obtain⟨v19,e20,hF⟩:=hF
   refine((yO B hB1 hB2 v19 e20)).goI ?_
   repeat first|refine cg ?_|simp -dsimp
   revert hF;refine aS ?_ ?_<;>intro h21 q22 hF
   ·have hF:=ob hF;obtain⟨x23,e24a,hF⟩:=hF
    have e24a:=ZO e24a;obtain⟨ne24,e24⟩:=e24a
    have le24:=ZD e24
    repeat first|refine cg ?_|simp -dsimp[h21,↓e24]
    refine zU ?_
    refine zT [] [(7,11)] [(11,7)] 7 11 rfl rfl (by kernel_rfl) ?_ ?_
    ·refine zV [(7,11)] [0,1,2,3,4,5,6,7,8,9,10,11,12,13,14] [(7,12),(11,12)] 12 12 [157] [(0,0),(0,0),(0,0),(0,0),(0,0),(0,0),(0,0),(0,5),(1,3),(1,3),(1,4),(0,5),(0,5),(0,5),(0,5)] [1,1,1,1,1,1,1,1,1,1,1,1,1,1,1] follows (by kernel_rfl) (by kernel_rfl) (by kernel_rfl) (by kernel_rfl) (by kernel_rfl) rfl (by intro d hd;cases hd;rfl) (by intro t i h k;cases h;cases k;rfl) ?_
     have hF:=ob hF;obtain⟨x25,e26a,hF⟩:=hF
     have e26a:=ZO e26a;obtain⟨ne26,e26⟩:=e26a
     have le26:=ZD e26
     repeat first|refine cg ?_|simp -dsimp[↓e26]
     have hF:=ob hF;obtain⟨v27,e28,hF⟩:=hF
     refine((C.spec_l7Strip__g B hB1 hB2 (⟨z,out16,z15⟩:ZA) x23 x25.f0 v27 e28)).ego (pl [4]) (by simp) (by simp) (ZBE _ rfl (by decide)) (by intro i hi hi';simp at hi hi';omega) (by simp_all) (by simp_all) ?_
     have hF:=oc hF;obtain⟨c29,hF⟩:=hF
     repeat first|refine cg ?_|simp -dsimp
     refine zZ ((ih_f142 v27.1.f0 v27.1.f2 (v27.1.f1++[v27.2]) (i64.wrap (k+1)) o hF) _ rfl _ hq)
    ·refine zV [(11,7)] [0,1,2,3,4,5,6,11,7,8,9,10,12,13,14] [(7,12),(8,12)] 12 12 [157] [(0,1),(0,1),(0,1),(0,1),(0,1),(0,1),(0,1),(0,5),(0,5),(2,3),(2,3),(2,4),(0,5),(0,5),(0,5)] [2,2,1,1,0,0,0,1,1,1,1,1,1,1,1] follows (by kernel_rfl) (by kernel_rfl) (by kernel_rfl) (by kernel_rfl) (by kernel_rfl) rfl (by intro d hd;cases hd;rfl) (by intro t i h k;cases h;cases k;rfl) ?_
     have hF:=ob hF;obtain⟨x25,e26a,hF⟩:=hF
     have e26a:=ZO e26a;obtain⟨ne26,e26⟩:=e26a
     have le26:=ZD e26
     repeat first|refine cg ?_|simp -dsimp
     have hF:=ob hF;obtain⟨v27,e28,hF⟩:=hF
     refine((C.spec_l7Strip__g B hB1 hB2 (⟨z,out16,z15⟩:ZA) x23 x25.f0 v27 e28)).ego (pl [4]) (by simp) (by simp) (ZBE _ rfl (by decide)) (by intro i hi hi';simp at hi hi';omega) (by simp_all) (by simp_all) ?_
     have hF:=oc hF;obtain⟨c29,hF⟩:=hF
     repeat first|refine cg ?_|simp -dsimp
     refine zZ ((ih_f142 v27.1.f0 v27.1.f2 (v27.1.f1++[v27.2]) (i64.wrap (k+1)) o hF) _ rfl _ hq)
   ·repeat first|refine cg ?_|simp -dsimp[h21,q22]
    refine zU ?_
    refine zT [] [(7,11)] [(11,7)] 7 11 rfl rfl (by kernel_rfl) ?_ ?_
    ·refine zV [(7,11)] [0,1,2,3,4,5,6,7,8,9,10,11,12,13,14] [(7,12),(11,12)] 12 12 [157] [(0,0),(0,0),(0,0),(0,0),(0,0),(0,0),(0,0),(0,5),(1,3),(1,3),(1,4),(0,5),(0,5),(0,5),(0,5)] [1,1,1,1,1,1,1,1,1,1,1,1,1,1,1] follows (by kernel_rfl) (by kernel_rfl) (by kernel_rfl) (by kernel_rfl) (by kernel_rfl) rfl (by intro d hd;cases hd;rfl) (by intro t i h k;cases h;cases k;rfl) ?_
     have hF:=ob hF;obtain⟨x30,e31a,hF⟩:=hF
     have e31a:=ZO e31a;obtain⟨ne31,e31⟩:=e31a
     have le31:=ZD e31
     repeat first|refine cg ?_|simp -dsimp[↓e31]
     have hF:=ob hF;obtain⟨v32,e33,hF⟩:=hF
     refine((C.spec_l7Strip__g B hB1 hB2 (⟨z,out16,z15⟩:ZA) v19 x30.f0 v32 e33)).ego (pl [4]) (by simp) (by simp) (ZBE _ rfl (by decide)) (by intro i hi hi';simp at hi hi';omega) (by simp_all) (by simp_all) ?_
     have hF:=oc hF;obtain⟨c34,hF⟩:=hF
     repeat first|refine cg ?_|simp -dsimp
     refine zZ ((ih_f142 v32.1.f0 v32.1.f2 (v32.1.f1++[v32.2]) (i64.wrap (k+1)) o hF) _ rfl _ hq)
    ·refine zV [(11,7)] [0,1,2,3,4,5,6,11,7,8,9,10,12,13,14] [(7,12),(8,12)] 12 12 [157] [(0,1),(0,1),(0,1),(0,1),(0,1),(0,1),(0,1),(0,5),(0,5),(2,3),(2,3),(2,4),(0,5),(0,5),(0,5)] [2,2,1,1,0,0,0,1,1,1,1,1,1,1,1] follows (by kernel_rfl) (by kernel_rfl) (by kernel_rfl) (by kernel_rfl) (by kernel_rfl) rfl (by intro d hd;cases hd;rfl) (by intro t i h k;cases h;cases k;rfl) ?_
     have hF:=ob hF;obtain⟨x30,e31a,hF⟩:=hF
     have e31a:=ZO e31a;obtain⟨ne31,e31⟩:=e31a
     have le31:=ZD e31
     repeat first|refine cg ?_|simp -dsimp
     have hF:=ob hF;obtain⟨v32,e33,hF⟩:=hF
     refine((C.spec_l7Strip__g B hB1 hB2 (⟨z,out16,z15⟩:ZA) v19 x30.f0 v32 e33)).ego (pl [4]) (by simp) (by simp) (ZBE _ rfl (by decide)) (by intro i hi hi';simp at hi hi';omega) (by simp_all) (by simp_all) ?_
     have hF:=oc hF;obtain⟨c34,hF⟩:=hF
     repeat first|refine cg ?_|simp -dsimp
     refine zZ ((ih_f142 v32.1.f0 v32.1.f2 (v32.1.f1++[v32.2]) (i64.wrap (k+1)) o hF) _ rfl _ hq)
  ·cases hF
   repeat first|refine cg ?_|simp -dsimp[q18]
   refine yA hq
theorem CC.f143 (columns:List ZC)(rows:List ZA)(at':Int)(b:Branch)(v:List ZC):(∀(out:List ZA) (i:Nat) (o:List ZA),F.f143 columns rows at' b v out i=some o->∀(c:Code),Zb [1,1,1,0,1,0,0] (ZK Tryz.f156)=some c->∀(Q:Exit->ASt->Prop),(Q (.exit 0) ⟨[(11,.own 2 (zA (α:=ZA) o))],[.elems 0 [],.dead,.elems 3 (zB ZA.c o)]⟩)->ALoopU zQ B 0 123 (hold c .mk) ⟨[(1,am ZC.c columns),(2,am ZA.c rows),(3,li at'),(9,.ptr 1 0),(11,.own 2 (zA (α:=ZA) out)),(12,am ZC.c v),(13,li (i:Int))],[.elems 0 [],.cells [li b.ctor,li b.n,li b.m,li b.tree.op,li b.tree.clause,am yF b.tree.binds,am cI b.tree.path,am zM b.tree.branches,am yG b.tree.els],.elems 3 (zB ZA.c out)]⟩ (hold Q .mk)):=by
 refine F.f143.partial_correctness columns rows at' b v
  _
  ?_
 ·intro _f_f143 ih_f143 out i o hF
  refine ZJ rfl fun Q hq hk hs=> ?_
  have b1:=hk 1
  simp -dsimp at b1
  have b2:=hk 2
  simp -dsimp at b2
  have b12:=hk 12
  simp -dsimp at b12
  have d1:=hs 1 _ rfl
  simp -dsimp[zO]at d1
  have d2:=hs 2 _ rfl
  simp -dsimp[zO]at d2
  clear hk hs
  refine eN ?_
  repeat first|refine cg ?_|simp -dsimp
  revert hF;refine aS ?_ ?_<;>intro h2 q3 hF
  ·have z4:((i:Int)<(rows.length:Int)):=auz
   have hF:=ob hF;obtain⟨x,e5,hF⟩:=hF
   have le5:=ZD e5
   have hF:=ob hF;obtain⟨x6,e7a,hF⟩:=hF
   have e7a:=ZO e7a;obtain⟨ne7,e7⟩:=e7a
   have le7:=ZD e7
   repeat first|refine cg ?_|simp -dsimp[h2,z4,↓e5,↓e7]
   have hF:=ob hF;obtain⟨v8,e9,hF⟩:=hF
   refine((C.f141 B hB1 hB2 x6 b v8 e9)).goI ?_
   repeat first|refine cg ?_|simp -dsimp[↓e5,↓e7]
   revert hF;refine aN (fun h10 q11 hF=> ?_) (fun h10 q11 hF=> ?_)
   ·have w12:i64.wrap ((i:Int)+1)=(i:Int)+1:=ZF (by omega) (by omega)
    repeat first|refine cg ?_|simp -dsimp[↓e5,↓e7,h10,q11,w12]
    refine zZ ((ih_f143 out (i+1) o hF) _ rfl _ hq)
   ·repeat first|refine cg ?_|simp -dsimp[↓e5,↓e7,h10,q11]
    refine zW [(10,20),(18,20),(19,20)] 20 [1000220] [(0,2),(0,2),(0,2),(0,2),(0,2),(0,2),(0,2),(0,2),(0,2),(0,2),(0,5),(0,1),(0,1),(0,1),(0,1),(0,1),(0,1),(0,1),(0,5),(0,5),(0,5),(0,5)] [1,1,0,0,0,1,1,0,0,0,1,1,1,0,0,0,1,1,1,1,1,1] follows (by kernel_rfl) (by kernel_rfl) (by kernel_rfl) (by kernel_rfl) (by intro d hd;cases hd;rfl) (by intro t i h k;cases h;cases k;rfl) ?_
    have hF:=oc hF;obtain⟨c13,hF⟩:=hF
    have hF:=oc hF;obtain⟨c14,hF⟩:=hF
    repeat first|refine cg ?_|simp -dsimp[↓e5,↓e7]
    have hF:=ob hF;obtain⟨o',ho35,hF⟩:=hF
    refine yD (((CC.f142 B hB1 hB2 columns rows at' b v out i x6) x.f0 x.f2 ((x.f1.drop 0).take (at'.toNat-0)) at' o' ho35) _ rfl _ ?_)
    repeat first|refine cg ?_|simp -dsimp
    refine zS [] [(0,0),(0,0),(0,0),(0,0),(0,0),(0,0),(0,0),(0,0),(0,0),(0,0),(0,2),(1,1),(0,2)] [1,1,1,1,1,1,1,1,1,1,1,1,1] follows ?_
    have hF:=ob hF;obtain⟨x36,e37,hF⟩:=hF
    have le37:=ZD e37
    have hF:=oc hF;obtain⟨c38,hF⟩:=hF
    have hF:=oc hF;obtain⟨c39,hF⟩:=hF
    have hF:=oc hF;obtain⟨c40,hF⟩:=hF
    have hF:=oc hF;obtain⟨c41,hF⟩:=hF
    have w42:i64.wrap ((i:Int)+1)=(i:Int)+1:=ZF (by omega) (by omega)
    repeat first|refine cg ?_|simp -dsimp[↓e37,w42]
    refine zZ ((ih_f143 (out++[(⟨o'.1,o'.2.2++((x36.f1.drop ((i64.wrap (at'+1)).toNat)).take (x36.f1.length- ((i64.wrap (at'+1)).toNat))),o'.2.1⟩:ZA)]) (i+1) o hF) _ rfl _ hq)
  ·have z4:¬((i:Int)<(rows.length:Int)):=auz
   cases hF
   repeat first|refine cg ?_|simp -dsimp[h2,q3,z4]
   refine yA hq
theorem C.f144 (w:List zL)(columns:List ZC)(rows:List ZA)(at':Int)(b:Branch)(r:List ZA)(hF:F.f144 w columns rows at' b=some r):PureCall zQ B 156 [am zN w,am ZC.c columns,am ZA.c rows,li at',.agg [li b.ctor,li b.n,li b.m,li b.tree.op,li b.tree.clause,am yF b.tree.binds,am cI b.tree.path,am zM b.tree.branches,am yG b.tree.els]] (am ZA.c r):=by
 unfold F.f144 at hF
 refine yC func156 (by kernel_rfl) rfl ntmps156 (by simp) (by simp) Gh.keep ?_
 repeat first|refine cg ?_|simp -dsimp
 have hF:=ob hF;obtain⟨v,e1,hF⟩:=hF
 refine((C.f140 B hB1 hB2 w columns at' b v e1)).goI ?_
 repeat first|refine cg ?_|simp -dsimp
 have hF:=ob hF;obtain⟨o'44,ho43,hF⟩:=hF
 refine yD (((CC.f143 B hB1 hB2 columns rows at' b v) [] 0 o'44 ho43) _ rfl _ ?_)
 cases hF
 repeat first|refine cg ?_|simp -dsimp
theorem CC.f145 (w:List zL)(list:List Clause)(pick:Int):(∀(columns:List ZC) (rows:List ZA) (left':Int) (r:Tree×Int),F.f145 w list pick columns rows left'=some r->PureCall zQ B 126 [am zN w,am yP list,am ZC.c columns,am ZA.c rows,li pick,li left'] (.tup [.agg [li r.1.op,li r.1.clause,am yF r.1.binds,am cI r.1.path,am zM r.1.branches,am yG r.1.els],li r.2]))/\
  (∀(columns:List ZC) (rows:List ZA) (v20:Int) (x22:ZC) (v25:List Branch) (out:List Branch) (i:Nat) (left'27:Int) (o:(List Branch)×Int),F.f146 w list pick columns rows v20 x22 v25 out i left'27=some o->∀(c:Code),Zb [1,1,1,1,1,1,1,1,0,1,0,0] (ZK Tryz.f126)=some c->∀(Q:Exit->ASt->Prop),(Q (.exit 0) ⟨[(5,li o.2),(12,.ptr 0 0),(19,.ptr 3 0)],[.cells [li 0,li 0,.lit (.slice none 0 0),.lit (.slice none 0 0),.lit (.slice none 0 0),.lit (.slice none 0 0)],.dead,.dead,.cells [li 2,li 0,.lit (.slice none 0 0),am cI x22.f0,.own 4 (zA (α:=Branch) o.1),.lit (.slice none 0 0)],.elems 9 (zB zM o.1)]⟩)->ALoopU zQ B 0 141 (hold c .mk) ⟨[(0,am zN w),(1,am yP list),(2,am ZC.c columns),(3,am ZA.c rows),(4,li pick),(5,li left'27),(12,.ptr 0 0),(18,li v20),(19,.ptr 3 0),(20,am zM v25),(21,li (i:Int))],[.cells [li 0,li 0,.lit (.slice none 0 0),.lit (.slice none 0 0),.lit (.slice none 0 0),.lit (.slice none 0 0)],.dead,.dead,.cells [li 2,li 0,.lit (.slice none 0 0),am cI x22.f0,.own 4 (zA (α:=Branch) out),.lit (.slice none 0 0)],.elems 9 (zB zM out)]⟩ (hold Q .mk)):=by
 refine F.f145.mutual_partial_correctness w list pick
  _ _
  ?_ ?_
 ·intro _f_f145 _f_f146 ih_f145 ih_f146 columns rows left' r hF
  refine yB func126 rfl ntmps126 ?_
  repeat first|refine cg ?_|simp -dsimp
  revert hF;refine aN ?_ ?_<;>intro h1 q2 hF
  ·repeat first|refine cg ?_|simp -dsimp[h1,q2]
   revert hF;refine aS ?_ ?_<;>intro h3 q4 hF
   ·have z5:((rows.length:Int)=0):=auz
    cases hF
    repeat first|refine cg ?_|simp -dsimp[h1,q2,h3,z5]
   ·have z5:¬((rows.length:Int)=0):=auz
    have hF:=ob hF;obtain⟨x,e6,hF⟩:=hF
    have le6:=ZD e6
    repeat first|refine cg ?_|simp -dsimp[h1,q2,h3,q4,z5,↓e6]
    have hF:=ob hF;obtain⟨v,e7,hF⟩:=hF
    refine((C.f119 B hB1 hB2 x v e7)).goI ?_
    repeat first|refine cg ?_|simp -dsimp[h1,q2,h3,q4,z5,↓e6]
    revert hF;refine aS ?_ ?_<;>intro h8 q9 hF
    ·repeat first|refine cg ?_|simp -dsimp[h1,q2,h3,q4,z5,↓e6,h8]
     refine zS [] [(0,1),(0,1),(0,1),(0,1),(0,2),(0,1),(0,2),(0,2)] [0,2,0,2,1,0,1,1] follows ?_
     repeat first|refine cg ?_|simp -dsimp[h1,q2,h3,q4,z5,↓e6,h8]
     have hF:=ob hF;obtain⟨v10,e11,hF⟩:=hF
     refine((C.f122 B hB1 hB2 x.f2 v10 e11)).pgoW (by simp[h1,q2,h3,q4,z5,↓e6,h8]) (by simp) ?_
     have hF:=ob hF;obtain⟨x12,e13a,hF⟩:=hF
     have e13a:=ZO e13a;obtain⟨ne13,e13⟩:=e13a
     have le13:=ZD e13
     repeat first|refine cg ?_|simp -dsimp[h1,q2,h3,q4,z5,↓e6,h8,↓e13]
     revert hF;refine aS ?_ ?_<;>intro h14 q15 hF
     ·cases hF
      repeat first|refine cg ?_|simp -dsimp[h1,q2,h3,q4,z5,↓e6,h8,↓e13,h14]
     ·repeat first|refine cg ?_|simp -dsimp[h1,q2,h3,q4,z5,↓e6,h8,↓e13,h14,q15]
      have hF:=ob hF;obtain⟨v16,e17,hF⟩:=hF
      refine((C.f124 B hB1 hB2 rows x.f0 v16 e17)).goI ?_
      repeat first|refine cg ?_|simp -dsimp[h1,q2,h3,q4,z5,↓e6,h8,↓e13,h14,q15]
      have hF:=ob hF;obtain⟨v18,e19,hF⟩:=hF
      refine((ih_f145 columns v16 (i64.wrap (left'-1)) v18 e19)).goI ?_
      cases hF
      repeat first|refine cg ?_|simp -dsimp[h1,q2,h3,q4,z5,↓e6,h8,↓e13,h14,q15]
    ·repeat first|refine cg ?_|simp -dsimp[h1,q2,h3,q4,z5,↓e6,h8,q9]
     have hF:=ob hF;obtain⟨v20,e21,hF⟩:=hF
     refine((C.f137 B hB1 hB2 w columns rows pick v20 e21)).goI ?_
     have hF:=ob hF;obtain⟨x22,e23a,hF⟩:=hF
     have e23a:=ZO e23a;obtain⟨ne23,e23⟩:=e23a
     have le23:=ZD e23
     have hF:=oc hF;obtain⟨c24,hF⟩:=hF
     repeat first|refine cg ?_|simp -dsimp[h1,q2,h3,q4,z5,↓e6,h8,q9,↓e23]
     have hF:=ob hF;obtain⟨v25,e26,hF⟩:=hF
     refine((C.f135 B hB1 hB2 w x22 rows v20 v25 e26)).goI ?_
     repeat first|refine cg ?_|simp -dsimp[h1,q2,h3,q4,z5,↓e6,h8,q9,↓e23]
     have hF:=ob hF;obtain⟨o',ho43,hF⟩:=hF
     refine yE ⟨[(0,.arr (zB zN w)),(1,.arr (zB yP list)),(2,.arr (zB ZC.c columns)),(3,.arr (zB ZA.c rows)),(4,.lit (.int .i64 pick)),(5,.lit (.int .i64 (i64.wrap (left'-1)))),(12,.ptr 0 0),(18,.lit (.int .i64 v20)),(19,.ptr 3 0),(20,.arr (zB zM v25)),(21,.lit (.int .i64 0))],[.cells [.lit (.int .i64 0),.lit (.int .i64 0),.lit (.slice none 0 0),.lit (.slice none 0 0),.lit (.slice none 0 0),.lit (.slice none 0 0)],.dead,.dead,.cells [.lit (.int .i64 2),.lit (.int .i64 0),.lit (.slice none 0 0),.arr (zB cI x22.f0),.own 4 (zA (α:=Branch) []),.lit (.slice none 0 0)],.elems 9 (zB zM [])]⟩ (by refine yK (yL 3 4 9 (by simp -dsimp;rfl) (by simp -dsimp)) ?_;exact(gT (by simp) (by simp -dsimp[h1,q2,h3,q4,z5,↓e6,h8,q9,↓e23]))) ?_
     refine(ih_f146 columns rows v20 x22 v25 [] 0 (i64.wrap (left'-1)) o' ho43) _ rfl _ ?_
     cases hF
     repeat first|refine cg ?_|simp -dsimp
  ·cases hF
   repeat first|refine cg ?_|simp -dsimp[h1,q2]
 ·intro _f_f145 _f_f146 ih_f145 ih_f146 columns rows v20 x22 v25 out i left'27 o hF
  refine ZJ rfl fun Q hq hk hs=> ?_
  have b0:=hk 0
  simp -dsimp at b0
  have b1:=hk 1
  simp -dsimp at b1
  have b2:=hk 2
  simp -dsimp at b2
  have b3:=hk 3
  simp -dsimp at b3
  have b20:=hk 20
  simp -dsimp at b20
  have d3:=hs 3 _ rfl
  simp -dsimp[zO]at d3
  have d4:=hs 4 _ rfl
  simp -dsimp[zO]at d4
  clear hk hs
  refine eN ?_
  repeat first|refine cg ?_|simp -dsimp
  revert hF;refine aS ?_ ?_<;>intro h28 q29 hF
  ·have z30:((i:Int)<(v25.length:Int)):=auz
   repeat first|refine cg ?_|simp -dsimp[h28,z30]
   revert hF;refine aS ?_ ?_<;>intro h31 q32 hF
   ·have hF:=ob hF;obtain⟨x33,e34,hF⟩:=hF
    have le34:=ZD e34
    repeat first|refine cg ?_|simp -dsimp[h28,z30,h31,↓e34]
    refine zS [] [(0,1),(0,1),(0,1),(0,1),(0,1),(0,1),(0,2),(0,1),(0,1),(0,1),(0,1),(0,1),(0,2),(0,1),(0,1),(0,2),(0,1),(0,1),(0,2),(0,2),(0,2),(2,2)] [1,1,1,1,1,2,1,1,1,1,1,2,1,1,1,1,1,1,1,1,1,1] follows ?_
    repeat first|refine cg ?_|simp -dsimp[h28,z30,h31,↓e34]
    have hF:=ob hF;obtain⟨v35,e36,hF⟩:=hF
    refine((C.f140 B hB1 hB2 w columns v20 x33 v35 e36)).pgoW (by simp[h28,z30,h31,↓e34]) (by simp) ?_
    repeat first|refine cg ?_|simp -dsimp[h28,z30,h31,↓e34]
    have hF:=ob hF;obtain⟨v37,e38,hF⟩:=hF
    refine((C.f144 B hB1 hB2 w columns rows v20 x33 v37 e38)).pgoW (by simp[h28,z30,h31,↓e34]) (by simp) ?_
    repeat first|refine cg ?_|simp -dsimp[h28,z30,h31,↓e34]
    have hF:=ob hF;obtain⟨v39,e40,hF⟩:=hF
    refine((ih_f145 v35 v37 left'27 v39 e40)).pgoW (by simp[h28,z30,h31,↓e34]) (by simp) ?_
    have hF:=oc hF;obtain⟨c41,hF⟩:=hF
    have w42:i64.wrap ((i:Int)+1)=(i:Int)+1:=ZF (by omega) (by omega)
    repeat first|refine cg ?_|simp -dsimp[h28,z30,h31,↓e34,w42]
    refine zZ ((ih_f146 columns rows v20 x22 v25 (out++[(⟨x33.ctor,x33.n,x33.m,v39.1⟩:Branch)]) (i+1) v39.2 o hF) _ rfl _ hq)
   ·cases hF
    repeat first|refine cg ?_|simp -dsimp[h28,z30,h31,q32]
    refine yA hq
  ·have z30:¬((i:Int)<(v25.length:Int)):=auz
   cases hF
   repeat first|refine cg ?_|simp -dsimp[h28,q29,z30]
   refine yA hq
theorem CC.f147 (w:List zL)(t:Ty)(list:List Clause)(pick:Int):(∀(i:Nat) (o:Lo (Tree×Bool) Unit),F.f147 w t list pick i=some o->∀(c:Code),Zb [1,0,1,0,0] (ZK Tryz.f99)=some c->∀(Q:Exit->ASt->Prop),o.post (fun r=>∀st,ZA2 zQ Tryz.f99 (fun r' _=>r'.le (.tup [.agg [li r.1.op,li r.1.clause,am yF r.1.binds,am cI r.1.path,am zM r.1.branches,am yG r.1.els],.lit (.bool r.2)])) .ret st->Q .ret st) (fun s=>Q (.exit 0) ⟨[(0,am zN w),(2,am yP list),(3,li pick),(5,.ptr 0 0),(8,.ptr 1 0)],[.cells [li t.data,li t.index],.cells [li 0,li 0,.lit (.slice none 0 0),.lit (.slice none 0 0),.lit (.slice none 0 0),.lit (.slice none 0 0)]]⟩)->ALoopU zQ B 0 44 (hold c .mk) ⟨[(0,am zN w),(2,am yP list),(3,li pick),(5,.ptr 0 0),(8,.ptr 1 0),(10,li (i:Int))],[.cells [li t.data,li t.index],.cells [li 0,li 0,.lit (.slice none 0 0),.lit (.slice none 0 0),.lit (.slice none 0 0),.lit (.slice none 0 0)]]⟩ (hold Q .mk)):=by
 refine F.f147.partial_correctness w t list pick
  _
  ?_
 ·intro _f_f147 ih_f147 i o hF
  refine ZJ rfl fun Q hq hk hs=> ?_
  have b0:=hk 0
  simp -dsimp at b0
  have b2:=hk 2
  simp -dsimp at b2
  clear hk hs
  refine eN ?_
  repeat first|refine cg ?_|simp -dsimp
  revert hF;refine aS ?_ ?_<;>intro h1 q2 hF
  ·have z3:((i:Int)<(list.length:Int)):=auz
   have hF:=ob hF;obtain⟨x,e4,hF⟩:=hF
   have le4:=ZD e4
   repeat first|refine cg ?_|simp -dsimp[h1,z3,↓e4]
   have hF:=ob hF;obtain⟨v,e5,hF⟩:=hF
   refine(((CC.spec_l3Split__o0 B hB1 hB2).1 x.pat v e5)).go (pl [2]) (by simp) (by simp) (by intro i j hi;simp at hi) (by intro i hi hi';simp at hi hi';have hi:i=0:=(by omega);rcases hi with rfl<;>simp[pl]) (by simp_all) (by simp_all) ?_
   repeat first|refine cg ?_|simp -dsimp
   revert hF;refine aS ?_ ?_<;>intro h6 q7 hF
   ·have z8:(40<(v.length:Int)):=auz
    cases hF
    repeat first|refine cg ?_|simp -dsimp[h6,z8]
    refine lG _ (gR _) (hq _ ?_)
    repeat first|refine cg ?_|simp -dsimp
   ·have z8:¬(40<(v.length:Int)):=auz
    have w9:i64.wrap ((i:Int)+1)=(i:Int)+1:=ZF (by omega) (by omega)
    repeat first|refine cg ?_|simp -dsimp[h6,q7,z8,w9]
    refine zZ ((ih_f147 (i+1) o hF) _ rfl _ hq)
  ·have z3:¬((i:Int)<(list.length:Int)):=auz
   cases hF
   repeat first|refine cg ?_|simp -dsimp[h1,q2,z3]
   refine yA hq
theorem C.f148 (w:List zL)(t:Ty)(list:List Clause)(pick:Int)(r:Tree×Bool)(hF:F.f148 w t list pick=some r):PureCall zQ B 99 [am zN w,.agg [li t.data,li t.index],am yP list,li pick] (.tup [.agg [li r.1.op,li r.1.clause,am yF r.1.binds,am cI r.1.path,am zM r.1.branches,am yG r.1.els],.lit (.bool r.2)]):=by
 unfold F.f148 at hF
 refine yB func99 rfl ntmps99 ?_
 repeat first|refine cg ?_|simp -dsimp
 have hF:=ob hF;obtain⟨o',ho10,hF⟩:=hF
 refine yD (((CC.f147 B hB1 hB2 w t list pick) 0 o' ho10) _ rfl _ ?_)
 rcases o' with r0|sx
 ·dsimp only at hF
  cases hF
  intro st h
  simpa using h
 ·dsimp only at hF
  repeat first|refine cg ?_|simp -dsimp
  refine zW [(4,12),(8,12)] 12 [126] [(0,1),(0,1),(0,0),(0,0),(0,4),(0,1),(0,4),(0,1),(0,4),(2,3),(2,3),(2,4),(0,4),(0,4),(4,4)] [1,1,1,1,1,1,1,1,1,1,1,1,1,1,1] follows (by kernel_rfl) (by kernel_rfl) (by kernel_rfl) (by kernel_rfl) (by intro d hd;cases hd;rfl) (by intro t i h k;cases h;cases k;rfl) ?_
  repeat first|refine cg ?_|simp -dsimp
  have hF:=ob hF;obtain⟨v11,e12,hF⟩:=hF
  refine((C.f117 B hB1 hB2 list v11 e12)).pgoW (by simp) (by simp) ?_
  repeat first|refine cg ?_|simp -dsimp
  have hF:=ob hF;obtain⟨v13,e14,hF⟩:=hF
  refine yQ ?_ (((CC.f145 B hB1 hB2 w list pick).1 [(⟨[],t⟩:ZC)] v11 300 v13 e14)).ent
  repeat first|refine cg ?_|simp -dsimp
  refine(((CC.f145 B hB1 hB2 w list pick).1 [(⟨[],t⟩:ZC)] v11 300 v13 e14)).ego (by simp) (by simp) ?_
  repeat first|refine cg ?_|simp -dsimp
  revert hF;refine aS ?_ ?_<;>intro h15 q16 hF
  ·cases hF
   repeat first|refine cg ?_|simp -dsimp[h15]
  ·cases hF
   repeat first|refine cg ?_|simp -dsimp[q16]
theorem C.f149 (w:List zL)(t:Ty)(list:List Clause)(pick:Int)(r:Tree×Bool)(hF:F.f149 w t list pick=some r):PureCall zQ B 69 [am zN w,.agg [li t.data,li t.index],am yP list,li pick] (.tup [.agg [li r.1.op,li r.1.clause,am yF r.1.binds,am cI r.1.path,am zM r.1.branches,am yG r.1.els],.lit (.bool r.2)]):=by
 unfold F.f149 at hF
 refine yB func69 rfl ntmps69 ?_
 repeat first|refine cg ?_|simp -dsimp
 have hF:=ob hF;obtain⟨v,e1,hF⟩:=hF
 refine((C.f105 B hB1 hB2 w t list v e1)).goI ?_
 repeat first|refine cg ?_|simp -dsimp
 revert hF;refine aS (fun h2 q3 hF=> ?_) (fun h2 q3 hF=> ?_)
 ·repeat first|refine cg ?_|simp -dsimp[h2]
  revert hF;refine aN ?_ ?_<;>intro h4 q5 hF
  ·repeat first|refine cg ?_|simp -dsimp[h2,h4,q5]
   revert hF;refine aS ?_ ?_<;>intro h6 q7 hF
   ·cases hF
    repeat first|refine cg ?_|simp -dsimp[h2,h4,q5,h6]
   ·repeat first|refine cg ?_|simp -dsimp[h2,h4,q5,h6,q7]
    have hF:=ob hF;obtain⟨v8,e9,hF⟩:=hF
    refine((C.f148 B hB1 hB2 w t list pick v8 e9)).goI ?_
    cases hF
    repeat first|refine cg ?_|simp -dsimp[h2,h4,q5,h6,q7]
  ·cases hF
   repeat first|refine cg ?_|simp -dsimp[h2,h4,q5]
 ·cases hF
  repeat first|refine cg ?_|simp -dsimp[h2,q3]
theorem C.f150 (code:List Int)(r:Tree)(hF:F.f150 code=some r):PureCall zQ B 40 [am cU code] (.agg [li r.op,li r.clause,am yF r.binds,am cI r.path,am zM r.branches,am yG r.els]):=by
 unfold F.f150 at hF
 refine yB func40 rfl ntmps40 ?_
 repeat first|refine cg ?_|simp -dsimp
 have hF:=ob hF;obtain⟨v,e1,hF⟩:=hF
 refine((C.f99 B hB1 hB2 code v e1)).goI ?_
 repeat first|refine cg ?_|simp -dsimp
 have hF:=ob hF;obtain⟨v2,e3,hF⟩:=hF
 refine((C.f149 B hB1 hB2 v.1 v.2.1 v.2.2.1 v.2.2.2 v2 e3)).goI ?_
 cases hF
 repeat first|refine cg ?_|simp -dsimp
theorem CC.f151  :(∀(x:Tree) (most:Int) (r:Int),F.f151 x most=some r->PureCall zQ B 65 [.agg [li x.op,li x.clause,am yF x.binds,am cI x.path,am zM x.branches,am yG x.els],li most] (li r))/\
  (∀(x:Tree) (most:Int) (n11:Int) (i12:Nat) (o:Int),F.f153 x most n11 i12=some o->∀(c:Code),Zb [1,1,1,0,1,0,0] (ZK Tryz.f65)=some c->∀(Q:Exit->ASt->Prop),(Q (.exit 2) ⟨[(5,li o)],[]⟩)->ALoopU zQ B 0 56 (hold c .mk) ⟨[(1,li most),(2,.ptr 0 0),(5,li n11),(7,li (i12:Int))],[.cells [li x.op,li x.clause,am yF x.binds,am cI x.path,am zM x.branches,am yG x.els]]⟩ (hold Q .mk))/\
  (∀(x:Tree) (most:Int) (n:Int) (i:Nat) (o:Int),F.f152 x most n i=some o->∀(c:Code),Zb [1,1,0,1,0,0] (ZK Tryz.f65)=some c->∀(Q:Exit->ASt->Prop),(Q (.exit 0) ⟨[(1,li most),(2,.ptr 0 0),(5,li o)],[.cells [li x.op,li x.clause,am yF x.binds,am cI x.path,am zM x.branches,am yG x.els]]⟩)->ALoopU zQ B 0 56 (hold c .mk) ⟨[(1,li most),(2,.ptr 0 0),(5,li n),(6,li (i:Int))],[.cells [li x.op,li x.clause,am yF x.binds,am cI x.path,am zM x.branches,am yG x.els]]⟩ (hold Q .mk)):=by
 refine F.f151.mutual_partial_correctness 
  _ _ _
  ?_ ?_ ?_
 ·intro _f_f153 _f_f152 ih_f153 ih_f152 x most r hF
  refine yB func65 rfl ntmps65 ?_
  repeat first|refine cg ?_|simp -dsimp
  have hF:=ob hF;obtain⟨o',ho10,hF⟩:=hF
  refine yD ((ih_f152 x most 1 0 o' ho10) _ rfl _ ?_)
  repeat first|refine cg ?_|simp -dsimp
  have hF:=ob hF;obtain⟨o'24,ho23,hF⟩:=hF
  refine yD ((ih_f153 x most o' 0 o'24 ho23) _ rfl _ ?_)
  cases hF
  repeat first|refine cg ?_|simp -dsimp
 ·intro _f_f151 _f_f153 ih_f151 ih_f153 x most n11 i12 o hF
  refine ZJ rfl fun Q hq hk hs=> ?_
  have d0:=hs 0 _ rfl
  simp -dsimp[zO]at d0
  clear hk hs
  refine eN ?_
  repeat first|refine cg ?_|simp -dsimp
  revert hF;refine aS ?_ ?_<;>intro h13 q14 hF
  ·have z15:((i12:Int)<(x.els.length:Int)):=auz
   repeat first|refine cg ?_|simp -dsimp[h13,z15]
   revert hF;refine aS ?_ ?_<;>intro h16 q17 hF
   ·have hF:=ob hF;obtain⟨x18,e19,hF⟩:=hF
    have le19:=ZD e19
    repeat first|refine cg ?_|simp -dsimp[h16,↓e19]
    have hF:=ob hF;obtain⟨v20,e21,hF⟩:=hF
    refine((ih_f151 x18 (i64.wrap (most-n11)) v20 e21)).goI ?_
    have w22:i64.wrap ((i12:Int)+1)=(i12:Int)+1:=ZF (by omega) (by omega)
    repeat first|refine cg ?_|simp -dsimp[w22]
    refine zZ ((ih_f153 x most (i64.wrap (n11+v20)) (i12+1) o hF) _ rfl _ hq)
   ·cases hF
    repeat first|refine cg ?_|simp -dsimp[h16,q17]
    refine yA hq
  ·have z15:¬((i12:Int)<(x.els.length:Int)):=auz
   cases hF
   repeat first|refine cg ?_|simp -dsimp[h13,q14,z15]
   refine yA hq
 ·intro _f_f151 _f_f152 ih_f151 ih_f152 x most n i o hF
  refine ZJ rfl fun Q hq hk hs=> ?_
  have d0:=hs 0 _ rfl
  simp -dsimp[zO]at d0
  clear hk hs
  refine eN ?_
  repeat first|refine cg ?_|simp -dsimp
  revert hF;refine aS ?_ ?_<;>intro h1 q2 hF
  ·have z3:((i:Int)<(x.branches.length:Int)):=auz
   repeat first|refine cg ?_|simp -dsimp[h1,z3]
   revert hF;refine aS ?_ ?_<;>intro h4 q5 hF
   ·have hF:=ob hF;obtain⟨x6,e7,hF⟩:=hF
    have le7:=ZD e7
    repeat first|refine cg ?_|simp -dsimp[h4,↓e7]
    have hF:=ob hF;obtain⟨v,e8,hF⟩:=hF
    refine((ih_f151 x6.tree (i64.wrap (most-n)) v e8)).goI ?_
    have w9:i64.wrap ((i:Int)+1)=(i:Int)+1:=ZF (by omega) (by omega)
    repeat first|refine cg ?_|simp -dsimp[w9]
    refine zZ ((ih_f152 x most (i64.wrap (n+v)) (i+1) o hF) _ rfl _ hq)
   ·cases hF
    repeat first|refine cg ?_|simp -dsimp[h4,q5]
    refine yA hq
  ·have z3:¬((i:Int)<(x.branches.length:Int)):=auz
   cases hF
   repeat first|refine cg ?_|simp -dsimp[h1,q2,z3]
   refine yA hq
theorem CC.f154  :(∀(x:Tree) (r:Bool),F.f154 x=some r->PureCall zQ B 66 [.agg [li x.op,li x.clause,am yF x.binds,am cI x.path,am zM x.branches,am yG x.els]] (.lit (.bool r)))/\
  (∀(x:Tree) (i:Nat) (o:Lo Bool Unit),F.f155 x i=some o->∀(c:Code),Zb [1,1,0,1,0,0] (ZK Tryz.f66)=some c->∀(Q:Exit->ASt->Prop),o.post (fun r=>∀st,ZA2 zQ Tryz.f66 (fun r' _=>r'.le (.lit (.bool r))) .ret st->Q .ret st) (fun s=>Q (.exit 0) ⟨[(1,.ptr 0 0)],[.cells [li x.op,li x.clause,am yF x.binds,am cI x.path,am zM x.branches,am yG x.els]]⟩)->ALoopU zQ B 0 50 (hold c .mk) ⟨[(1,.ptr 0 0),(3,li (i:Int))],[.cells [li x.op,li x.clause,am yF x.binds,am cI x.path,am zM x.branches,am yG x.els]]⟩ (hold Q .mk)):=by
 refine F.f154.mutual_partial_correctness 
  _ _
  ?_ ?_
 ·intro _f_f154 _f_f155 ih_f154 ih_f155 x r hF
  refine yB func66 rfl ntmps66 ?_
  repeat first|refine cg ?_|simp -dsimp
  revert hF;refine aN ?_ ?_<;>intro h1 q2 hF
  ·repeat first|refine cg ?_|simp -dsimp[h1,q2]
   revert hF;refine aN ?_ ?_<;>intro h3 q4 hF
   ·repeat first|refine cg ?_|simp -dsimp[h1,q2,h3,q4]
    revert hF;refine aN ?_ ?_<;>intro h5 q6 hF
    ·have z7:¬(1<(x.els.length:Int)):=auz
     repeat first|refine cg ?_|simp -dsimp[h1,q2,h3,q4,h5,q6,z7]
     revert hF;refine aS ?_ ?_<;>intro h8 q9 hF
     ·have z10:(10<(x.branches.length:Int)):=auz
      cases hF
      repeat first|refine cg ?_|simp -dsimp[h1,q2,h3,q4,h5,q6,z7,h8,z10]
     ·have z10:¬(10<(x.branches.length:Int)):=auz
      repeat first|refine cg ?_|simp -dsimp[h1,q2,h3,q4,h5,q6,z7,h8,q9,z10]
      have hF:=ob hF;obtain⟨o',ho20,hF⟩:=hF
      refine yD ((ih_f155 x 0 o' ho20) _ rfl _ ?_)
      rcases o' with r0|sx
      ·dsimp only at hF
       cases hF
       intro st h
       simpa using h
      ·dsimp only at hF
       repeat first|refine cg ?_|simp -dsimp
       revert hF;refine aN ?_ ?_<;>intro h21 q22 hF
       ·have z23:¬((x.els.length:Int)=0):=auz
        have hF:=ob hF;obtain⟨x24,e25,hF⟩:=hF
        have le25:=ZD e25
        repeat first|refine cg ?_|simp -dsimp[h21,q22,z23,↓e25]
        have hF:=ob hF;obtain⟨v26,e27,hF⟩:=hF
        refine((ih_f154 x24 v26 e27)).goI ?_
        cases hF
        repeat first|refine cg ?_|simp -dsimp[h21,q22,z23,↓e25]
       ·have z23:((x.els.length:Int)=0):=auz
        cases hF
        repeat first|refine cg ?_|simp -dsimp[h21,q22,z23]
    ·have z7:(1<(x.els.length:Int)):=auz
     cases hF
     repeat first|refine cg ?_|simp -dsimp[h1,q2,h3,q4,h5,q6,z7]
   ·cases hF
    repeat first|refine cg ?_|simp -dsimp[h1,q2,h3,q4]
  ·cases hF
   repeat first|refine cg ?_|simp -dsimp[h1,q2]
 ·intro _f_f154 _f_f155 ih_f154 ih_f155 x i o hF
  refine ZJ rfl fun Q hq hk hs=> ?_
  have d0:=hs 0 _ rfl
  simp -dsimp[zO]at d0
  clear hk hs
  refine eN ?_
  repeat first|refine cg ?_|simp -dsimp
  revert hF;refine aS ?_ ?_<;>intro h11 q12 hF
  ·have z13:((i:Int)<(x.branches.length:Int)):=auz
   have hF:=ob hF;obtain⟨x14,e15,hF⟩:=hF
   have le15:=ZD e15
   repeat first|refine cg ?_|simp -dsimp[h11,z13,↓e15]
   have hF:=ob hF;obtain⟨v,e16,hF⟩:=hF
   refine((ih_f154 x14.tree v e16)).goI ?_
   repeat first|refine cg ?_|simp -dsimp[h11,z13,↓e15]
   revert hF;refine aN (fun h17 q18 hF=> ?_) (fun h17 q18 hF=> ?_)
   ·cases hF
    repeat first|refine cg ?_|simp -dsimp[h11,z13,↓e15,h17,q18]
    refine lG _ (gR _) (hq _ ?_)
    repeat first|refine cg ?_|simp -dsimp[h11,z13,↓e15,h17,q18]
   ·have w19:i64.wrap ((i:Int)+1)=(i:Int)+1:=ZF (by omega) (by omega)
    repeat first|refine cg ?_|simp -dsimp[h11,z13,↓e15,h17,q18,w19]
    refine zZ ((ih_f155 x (i+1) o hF) _ rfl _ hq)
  ·have z13:¬((i:Int)<(x.branches.length:Int)):=auz
   cases hF
   repeat first|refine cg ?_|simp -dsimp[h11,q12,z13]
   refine yA hq
theorem CC.f156 (list:List PathBind):(∀(out:List PathBind) (i:Nat) (o:List PathBind),F.f156 list out i=some o->∀(c:Code),Zb [1,1,0,1,0,0] (ZK Tryz.f97)=some c->∀(Q:Exit->ASt->Prop),(Q (.exit 0) ⟨[(3,.own 0 (zA (α:=PathBind) o))],[.elems 2 (zB yF o)]⟩)->ALoopU zQ B 0 29 (hold c .mk) ⟨[(0,am yF list),(3,.own 0 (zA (α:=PathBind) out)),(4,li (i:Int))],[.elems 2 (zB yF out)]⟩ (hold Q .mk)):=by
 refine F.f156.partial_correctness list
  _
  ?_
 ·intro _f_f156 ih_f156 out i o hF
  refine ZJ rfl fun Q hq hk hs=> ?_
  have b0:=hk 0
  simp -dsimp at b0
  have d0:=hs 0 _ rfl
  simp -dsimp[zO]at d0
  clear hk hs
  refine eN ?_
  repeat first|refine cg ?_|simp -dsimp
  revert hF;refine aS ?_ ?_<;>intro h1 q2 hF
  ·have z3:((i:Int)<(list.length:Int)):=auz
   repeat first|refine cg ?_|simp -dsimp[h1,z3]
   refine zS [1000074] [(0,4),(0,2),(0,2),(0,2),(0,2),(0,2),(0,5),(0,1),(0,1),(0,1),(0,1),(0,1),(0,5),(0,5),(0,5),(0,5),(5,5)] [1,1,1,0,0,0,1,1,1,0,0,0,1,1,1,1,1] follows ?_
   have hF:=ob hF;obtain⟨x,e4,hF⟩:=hF
   have le4:=ZD e4
   have hF:=oc hF;obtain⟨c5,hF⟩:=hF
   have hF:=oc hF;obtain⟨c6,hF⟩:=hF
   have w7:i64.wrap ((i:Int)+1)=(i:Int)+1:=ZF (by omega) (by omega)
   repeat first|refine cg ?_|simp -dsimp[↓e4,w7]
   refine zZ ((ih_f156 (out++[x]) (i+1) o hF) _ rfl _ hq)
  ·have z3:¬((i:Int)<(list.length:Int)):=auz
   cases hF
   repeat first|refine cg ?_|simp -dsimp[h1,q2,z3]
   refine yA hq
theorem C.f157 (list:List PathBind)(r:List PathBind)(hF:F.f157 list=some r):PureCall zQ B 97 [am yF list] (am yF r):=by
 unfold F.f157 at hF
 refine yB func97 rfl ntmps97 ?_
 repeat first|refine cg ?_|simp -dsimp
 have hF:=ob hF;obtain⟨o',ho8,hF⟩:=hF
 refine yD (((CC.f156 B hB1 hB2 list) [] 0 o' ho8) _ rfl _ ?_)
 cases hF
 repeat first|refine cg ?_|simp -dsimp
theorem C.f158  (r:Int)(hF:F.f158=some r):PureCall zQ B 26 [] (li r):=by
 unfold F.f158 at hF
 refine yB func26 rfl ntmps26 ?_
 cases hF
 repeat first|refine cg ?_|simp -dsimp
theorem CC.f159 (a:List Int)(b:List Int):(∀(i:Nat) (o:Lo Bool Unit),F.f159 a b i=some o->∀(c:Code),Zb [1,1,0,1,0,0] (ZK Tryz.f125)=some c->∀(Q:Exit->ASt->Prop),o.post (fun r=>∀st,ZA2 zQ Tryz.f125 (fun r' _=>r'.le (.lit (.bool r))) .ret st->Q .ret st) (fun s=>Q (.exit 0) ⟨[],[]⟩)->ALoopU zQ B 0 26 (hold c .mk) ⟨[(0,am cI a),(1,am cI b),(5,li (i:Int))],[]⟩ (hold Q .mk)):=by
 refine F.f159.partial_correctness a b
  _
  ?_
 ·intro _f_f159 ih_f159 i o hF
  refine ZJ rfl fun Q hq hk hs=> ?_
  have b0:=hk 0
  simp -dsimp at b0
  have b1:=hk 1
  simp -dsimp at b1
  clear hk hs
  refine eN ?_
  repeat first|refine cg ?_|simp -dsimp
  revert hF;refine aS ?_ ?_<;>intro h4 q5 hF
  ·have z6:((i:Int)<(a.length:Int)):=auz
   repeat first|refine cg ?_|simp -dsimp[h4,z6]
   refine zP follows ?_
   have hF:=ob hF;obtain⟨x,e7,hF⟩:=hF
   have le7:=ZD e7
   have hF:=ob hF;obtain⟨x8,e9,hF⟩:=hF
   have le9:=ZD e9
   repeat first|refine cg ?_|simp -dsimp[↓e7,↓e9]
   revert hF;refine aN ?_ ?_<;>intro h10 q11 hF
   ·cases hF
    repeat first|refine cg ?_|simp -dsimp[h10,q11]
    refine lG _ (gR _) (hq _ ?_)
    repeat first|refine cg ?_|simp -dsimp
   ·have w12:i64.wrap ((i:Int)+1)=(i:Int)+1:=ZF (by omega) (by omega)
    repeat first|refine cg ?_|simp -dsimp[w12]
    refine zZ ((ih_f159 (i+1) o hF) _ rfl _ hq)
  ·have z6:¬((i:Int)<(a.length:Int)):=auz
   cases hF
   repeat first|refine cg ?_|simp -dsimp[h4,q5,z6]
   refine yA hq
theorem C.f160 (a:List Int)(b:List Int)(r:Bool)(hF:F.f160 a b=some r):PureCall zQ B 125 [am cI a,am cI b] (.lit (.bool r)):=by
 unfold F.f160 at hF
 refine yB func125 rfl ntmps125 ?_
 repeat first|refine cg ?_|simp -dsimp
 revert hF;refine aN ?_ ?_<;>intro h1 q2 hF
 ·have z3:¬((a.length:Int)=(b.length:Int)):=auz
  cases hF
  repeat first|refine cg ?_|simp -dsimp[h1,q2,z3]
 ·have z3:((a.length:Int)=(b.length:Int)):=auz
  repeat first|refine cg ?_|simp -dsimp
  have hF:=ob hF;obtain⟨o',ho13,hF⟩:=hF
  refine yD (((CC.f159 B hB1 hB2 a b) 0 o' ho13) _ rfl _ ?_)
  rcases o' with r0|sx
  ·dsimp only at hF
   cases hF
   intro st h
   simpa using h
  ·dsimp only at hF
   cases hF
   repeat first|refine cg ?_|simp -dsimp
theorem CC.f161 (a:List PathBind)(b:List PathBind):(∀(i:Nat) (o:Lo Bool Unit),F.f161 a b i=some o->∀(c:Code),Zb [1,1,0,1,0,0] (ZK Tryz.f124)=some c->∀(Q:Exit->ASt->Prop),o.post (fun r=>∀st,ZA2 zQ Tryz.f124 (fun r' _=>r'.le (.lit (.bool r))) .ret st->Q .ret st) (fun s=>Q (.exit 0) ⟨[],[]⟩)->ALoopU zQ B 0 42 (hold c .mk) ⟨[(0,am yF a),(1,am yF b),(5,li (i:Int))],[]⟩ (hold Q .mk)):=by
 refine F.f161.partial_correctness a b
  _
  ?_
 ·intro _f_f161 ih_f161 i o hF
  refine ZJ rfl fun Q hq hk hs=> ?_
  have b0:=hk 0
  simp -dsimp at b0
  have b1:=hk 1
  simp -dsimp at b1
  clear hk hs
  refine eN ?_
  repeat first|refine cg ?_|simp -dsimp
  revert hF;refine aS ?_ ?_<;>intro h4 q5 hF
  ·have z6:((i:Int)<(a.length:Int)):=auz
   repeat first|refine cg ?_|simp -dsimp[h4,z6]
   refine zP follows ?_
   have hF:=ob hF;obtain⟨x,e7,hF⟩:=hF
   have le7:=ZD e7
   have hF:=ob hF;obtain⟨x8,e9,hF⟩:=hF
   have le9:=ZD e9
   repeat first|refine cg ?_|simp -dsimp[h4,z6,↓e7,↓e9]
   revert hF;refine aS ?_ ?_<;>intro h10 q11 hF
   ·repeat first|refine cg ?_|simp -dsimp[h4,z6,↓e7,↓e9,h10]
    have hF:=ob hF;obtain⟨v,e12,hF⟩:=hF
    refine((C.f160 B hB1 hB2 x.path x8.path v e12)).pgoW (by simp[h4,z6,↓e7,↓e9,h10]) (by simp) ?_
    repeat first|refine cg ?_|simp -dsimp[h4,z6,↓e7,↓e9,h10]
    revert hF;refine aN (fun h13 q14 hF=> ?_) (fun h13 q14 hF=> ?_)
    ·cases hF
     repeat first|refine cg ?_|simp -dsimp[h4,z6,↓e7,↓e9,h10,h13,q14]
     refine lG _ (gR _) (hq _ ?_)
     repeat first|refine cg ?_|simp -dsimp[h4,z6,↓e7,↓e9,h10,h13,q14]
    ·have w15:i64.wrap ((i:Int)+1)=(i:Int)+1:=ZF (by omega) (by omega)
     repeat first|refine cg ?_|simp -dsimp[h4,z6,↓e7,↓e9,h10,h13,q14,w15]
     refine zZ ((ih_f161 (i+1) o hF) _ rfl _ hq)
   ·cases hF
    repeat first|refine cg ?_|simp -dsimp[h4,z6,↓e7,↓e9,h10,q11]
    refine lG _ (gR _) (hq _ ?_)
    repeat first|refine cg ?_|simp -dsimp[h4,z6,↓e7,↓e9,h10,q11]
  ·have z6:¬((i:Int)<(a.length:Int)):=auz
   cases hF
   repeat first|refine cg ?_|simp -dsimp[h4,q5,z6]
   refine yA hq
theorem C.f162 (a:List PathBind)(b:List PathBind)(r:Bool)(hF:F.f162 a b=some r):PureCall zQ B 124 [am yF a,am yF b] (.lit (.bool r)):=by
 unfold F.f162 at hF
 refine yB func124 rfl ntmps124 ?_
 repeat first|refine cg ?_|simp -dsimp
 revert hF;refine aN ?_ ?_<;>intro h1 q2 hF
 ·have z3:¬((a.length:Int)=(b.length:Int)):=auz
  cases hF
  repeat first|refine cg ?_|simp -dsimp[h1,q2,z3]
 ·have z3:((a.length:Int)=(b.length:Int)):=auz
  repeat first|refine cg ?_|simp -dsimp
  have hF:=ob hF;obtain⟨o',ho16,hF⟩:=hF
  refine yD (((CC.f161 B hB1 hB2 a b) 0 o' ho16) _ rfl _ ?_)
  rcases o' with r0|sx
  ·dsimp only at hF
   cases hF
   intro st h
   simpa using h
  ·dsimp only at hF
   cases hF
   repeat first|refine cg ?_|simp -dsimp
theorem CC.f163 (a:zJ)(b:zJ):(∀(i:Nat) (o:Lo Bool Unit),F.f163 a b i=some o->∀(c:Code),Zb [1,1,0,1,0,0] (ZK Tryz.f98)=some c->∀(Q:Exit->ASt->Prop),o.post (fun r=>∀st,ZA2 zQ Tryz.f98 (fun r' _=>r'.le (.lit (.bool r))) .ret st->Q .ret st) (fun s=>Q (.exit 0) ⟨[],[]⟩)->ALoopU zQ B 0 68 (hold c .mk) ⟨[(2,.ptr 0 0),(3,.ptr 1 0),(5,li (i:Int))],[.cells [li a.op,li a.clause,am yF a.binds,am cI a.path,am zK.c a.edges,li a.els],.cells [li b.op,li b.clause,am yF b.binds,am cI b.path,am zK.c b.edges,li b.els]]⟩ (hold Q .mk)):=by
 refine F.f163.partial_correctness a b
  _
  ?_
 ·intro _f_f163 ih_f163 i o hF
  refine ZJ rfl fun Q hq hk hs=> ?_
  have d0:=hs 0 _ rfl
  simp -dsimp[zO]at d0
  have d1:=hs 1 _ rfl
  simp -dsimp[zO]at d1
  clear hk hs
  refine eN ?_
  repeat first|refine cg ?_|simp -dsimp
  revert hF;refine aS ?_ ?_<;>intro h17 q18 hF
  ·have z19:((i:Int)<(a.edges.length:Int)):=auz
   repeat first|refine cg ?_|simp -dsimp[h17,z19]
   refine zP follows ?_
   have hF:=ob hF;obtain⟨x,e20,hF⟩:=hF
   have le20:=ZD e20
   have hF:=ob hF;obtain⟨x21,e22,hF⟩:=hF
   have le22:=ZD e22
   repeat first|refine cg ?_|simp -dsimp[↓e20,↓e22]
   revert hF;refine aN (fun h23 q24 hF=> ?_) (fun h23 q24 hF=> ?_)
   ·cases hF
    repeat first|refine cg ?_|simp -dsimp[h23,q24]
    refine lG _ (gR _) (hq _ ?_)
    repeat first|refine cg ?_|simp -dsimp
   ·have w25:i64.wrap ((i:Int)+1)=(i:Int)+1:=ZF (by omega) (by omega)
    repeat first|refine cg ?_|simp -dsimp[w25]
    refine zZ ((ih_f163 (i+1) o hF) _ rfl _ hq)
  ·have z19:¬((i:Int)<(a.edges.length:Int)):=auz
   cases hF
   repeat first|refine cg ?_|simp -dsimp[h17,q18,z19]
   refine yA hq
theorem C.f164 (a:zJ)(b:zJ)(r:Bool)(hF:F.f164 a b=some r):PureCall zQ B 98 [.agg [li a.op,li a.clause,am yF a.binds,am cI a.path,am zK.c a.edges,li a.els],.agg [li b.op,li b.clause,am yF b.binds,am cI b.path,am zK.c b.edges,li b.els]] (.lit (.bool r)):=by
 unfold F.f164 at hF
 refine yB func98 rfl ntmps98 ?_
 repeat first|refine cg ?_|simp -dsimp
 revert hF;refine aS ?_ ?_<;>intro h1 q2 hF
 ·repeat first|refine cg ?_|simp -dsimp[h1]
  revert hF;refine aS ?_ ?_<;>intro h3 q4 hF
  ·repeat first|refine cg ?_|simp -dsimp[h1,h3]
   revert hF;refine aS ?_ ?_<;>intro h5 q6 hF
   ·repeat first|refine cg ?_|simp -dsimp[h1,h3,h5]
    have hF:=ob hF;obtain⟨v,e7,hF⟩:=hF
    refine((C.f162 B hB1 hB2 a.binds b.binds v e7)).goI ?_
    repeat first|refine cg ?_|simp -dsimp[h1,h3,h5]
    revert hF;refine aS (fun h8 q9 hF=> ?_) (fun h8 q9 hF=> ?_)
    ·repeat first|refine cg ?_|simp -dsimp[h1,h3,h5,h8]
     have hF:=ob hF;obtain⟨v10,e11,hF⟩:=hF
     refine((C.f160 B hB1 hB2 a.path b.path v10 e11)).goI ?_
     repeat first|refine cg ?_|simp -dsimp[h1,h3,h5,h8]
     revert hF;refine aS (fun h12 q13 hF=> ?_) (fun h12 q13 hF=> ?_)
     ·repeat first|refine cg ?_|simp -dsimp[h1,h3,h5,h8,h12]
      revert hF;refine aN ?_ ?_<;>intro h14 q15 hF
      ·have z16:¬((a.edges.length:Int)=(b.edges.length:Int)):=auz
       cases hF
       repeat first|refine cg ?_|simp -dsimp[h1,h3,h5,h8,h12,h14,q15,z16]
      ·have z16:((a.edges.length:Int)=(b.edges.length:Int)):=auz
       repeat first|refine cg ?_|simp -dsimp[h1,h3,h5,h8,h12,h14,q15,z16]
       have hF:=ob hF;obtain⟨o',ho26,hF⟩:=hF
       refine yD (((CC.f163 B hB1 hB2 a b) 0 o' ho26) _ rfl _ ?_)
       rcases o' with r0|sx
       ·dsimp only at hF
        cases hF
        intro st h
        simpa using h
       ·dsimp only at hF
        cases hF
        repeat first|refine cg ?_|simp -dsimp
     ·cases hF
      repeat first|refine cg ?_|simp -dsimp[h1,h3,h5,h8,h12,q13]
    ·cases hF
     repeat first|refine cg ?_|simp -dsimp[h1,h3,h5,h8,q9]
   ·cases hF
    repeat first|refine cg ?_|simp -dsimp[h1,h3,h5,q6]
  ·cases hF
   repeat first|refine cg ?_|simp -dsimp[h1,h3,q4]
 ·cases hF
  repeat first|refine cg ?_|simp -dsimp[h1,q2]
theorem CC.f165 (x:Tree)(v:List PathBind)(o':(List zK)×(List zJ))(v21:(List zJ)×Int):(∀(i23:Nat) (o:Lo ((List zJ)×Int) Unit),F.f165 x v o' v21 i23=some o->∀(c:Code),Zb [1,1,1,1,0,1,0,0] (ZK Tryz.f67)=some c->∀(Q:Exit->ASt->Prop),o.post (fun r=>∀st,ZH2 zQ Tryz.f67 (hold (fun r' σ'=>r'.le (.tup [.own 0 (zA (α:=zJ) r.1),li r.2])/\ZDb σ' [.elems 6 (zB zJ.c r.1)]) .mk) .ret st->Q .ret st) (fun s=>Q (.exit 2) ⟨[(0,.own 0 (zA (α:=zJ) v21.1)),(6,.ptr 3 0)],[.elems 6 (zB zJ.c v21.1),.dead,.dead,.cells [li x.op,li x.clause,am yF v,am cI x.path,.own 4 (zA (α:=zK) o'.1),li v21.2],.elems 4 (zB zK.c o'.1)]⟩)->ALoopU zQ B 1 106 (hold c .mk) ⟨[(0,.own 0 (zA (α:=zJ) v21.1)),(6,.ptr 3 0),(12,li (i23:Int))],[.elems 6 (zB zJ.c v21.1),.dead,.dead,.cells [li x.op,li x.clause,am yF v,am cI x.path,.own 4 (zA (α:=zK) o'.1),li v21.2],.elems 4 (zB zK.c o'.1)]⟩ (hold Q .mk)):=by
 refine F.f165.partial_correctness x v o' v21
  _
  ?_
 ·intro _f_f165 ih_f165 i23 o hF
  refine ZJ rfl fun Q hq hk hs=> ?_
  have d0:=hs 0 _ rfl
  simp -dsimp[zO]at d0
  have d3:=hs 3 _ rfl
  simp -dsimp[zO]at d3
  have d4:=hs 4 _ rfl
  simp -dsimp[zO]at d4
  clear hk hs
  refine eN ?_
  repeat first|refine cg ?_|simp -dsimp
  revert hF;refine aS ?_ ?_<;>intro h24 q25 hF
  ·have z26:((i23:Int)<(v21.1.length:Int)):=auz
   repeat first|refine cg ?_|simp -dsimp[h24,z26]
   refine zS [98] [(0,0),(0,0),(0,0),(0,0),(0,0),(0,1)] [1,1,1,1,1,1] follows ?_
   have hF:=ob hF;obtain⟨x27,e28,hF⟩:=hF
   have le28:=ZD e28
   repeat first|refine cg ?_|simp -dsimp[↓e28]
   have hF:=ob hF;obtain⟨v29,e30,hF⟩:=hF
   refine((C.f164 B hB1 hB2 x27 (⟨x.op,x.clause,v,x.path,o'.1,v21.2⟩:zJ) v29 e30)).elend (by simp_all) (by simp -dsimp) ?_
   repeat first|refine cg ?_|simp -dsimp
   revert hF;refine aS (fun h31 q32 hF=> ?_) (fun h31 q32 hF=> ?_)
   ·cases hF
    repeat first|refine cg ?_|simp -dsimp[h31]
    refine lG _ (gR _) (hq _ ?_)
    repeat first|refine cg ?_|simp -dsimp
   ·have w33:i64.wrap ((i23:Int)+1)=(i23:Int)+1:=ZF (by omega) (by omega)
    repeat first|refine cg ?_|simp -dsimp[q32,w33]
    refine zZ ((ih_f165 (i23+1) o hF) _ rfl _ hq)
  ·have z26:¬((i23:Int)<(v21.1.length:Int)):=auz
   cases hF
   repeat first|refine cg ?_|simp -dsimp[h24,q25,z26]
   refine yA hq
theorem CC.f166 (x:Tree)(v:List PathBind)(v3:Int)(o':(List zK)×(List zJ)):(∀(i37:Nat) (o:Lo ((List zJ)×Int) Unit),F.f166 x v v3 o' i37=some o->∀(c:Code),Zb [1,1,1,1,0,1,0,0] (ZK Tryz.f67)=some c->∀(Q:Exit->ASt->Prop),o.post (fun r=>∀st,ZH2 zQ Tryz.f67 (hold (fun r' σ'=>r'.le (.tup [.own 0 (zA (α:=zJ) r.1),li r.2])/\ZDb σ' [.elems 6 (zB zJ.c r.1)]) .mk) .ret st->Q .ret st) (fun s=>Q (.exit 2) ⟨[(0,.own 0 (zA (α:=zJ) o'.2)),(6,.ptr 3 0)],[.elems 6 (zB zJ.c o'.2),.dead,.dead,.cells [li x.op,li x.clause,am yF v,am cI x.path,.own 4 (zA (α:=zK) o'.1),li v3],.elems 4 (zB zK.c o'.1)]⟩)->ALoopU zQ B 1 106 (hold c .mk) ⟨[(0,.own 0 (zA (α:=zJ) o'.2)),(6,.ptr 3 0),(12,li (i37:Int))],[.elems 6 (zB zJ.c o'.2),.dead,.dead,.cells [li x.op,li x.clause,am yF v,am cI x.path,.own 4 (zA (α:=zK) o'.1),li v3],.elems 4 (zB zK.c o'.1)]⟩ (hold Q .mk)):=by
 refine F.f166.partial_correctness x v v3 o'
  _
  ?_
 ·intro _f_f166 ih_f166 i37 o hF
  refine ZJ rfl fun Q hq hk hs=> ?_
  have d0:=hs 0 _ rfl
  simp -dsimp[zO]at d0
  have d3:=hs 3 _ rfl
  simp -dsimp[zO]at d3
  have d4:=hs 4 _ rfl
  simp -dsimp[zO]at d4
  clear hk hs
  refine eN ?_
  repeat first|refine cg ?_|simp -dsimp
  revert hF;refine aS ?_ ?_<;>intro h38 q39 hF
  ·have z40:((i37:Int)<(o'.2.length:Int)):=auz
   repeat first|refine cg ?_|simp -dsimp[h38,z40]
   refine zS [98] [(0,0),(0,0),(0,0),(0,0),(0,0),(0,1)] [1,1,1,1,1,1] follows ?_
   have hF:=ob hF;obtain⟨x41,e42,hF⟩:=hF
   have le42:=ZD e42
   repeat first|refine cg ?_|simp -dsimp[↓e42]
   have hF:=ob hF;obtain⟨v43,e44,hF⟩:=hF
   refine((C.f164 B hB1 hB2 x41 (⟨x.op,x.clause,v,x.path,o'.1,v3⟩:zJ) v43 e44)).elend (by simp_all) (by simp -dsimp) ?_
   repeat first|refine cg ?_|simp -dsimp
   revert hF;refine aS (fun h45 q46 hF=> ?_) (fun h45 q46 hF=> ?_)
   ·cases hF
    repeat first|refine cg ?_|simp -dsimp[h45]
    refine lG _ (gR _) (hq _ ?_)
    repeat first|refine cg ?_|simp -dsimp
   ·have w47:i64.wrap ((i37:Int)+1)=(i37:Int)+1:=ZF (by omega) (by omega)
    repeat first|refine cg ?_|simp -dsimp[q46,w47]
    refine zZ ((ih_f166 (i37+1) o hF) _ rfl _ hq)
  ·have z40:¬((i37:Int)<(o'.2.length:Int)):=auz
   cases hF
   repeat first|refine cg ?_|simp -dsimp[h38,q39,z40]
   refine yA hq
theorem CC.f167  :(∀(list:List zJ) (x:Tree) (r:(List zJ)×Int),F.f167 list x=some r->BCall zQ B 67 [.elems 6 (zB zJ.c list)] [.own 0 (zA (α:=zJ) list),.agg [li x.op,li x.clause,am yF x.binds,am cI x.path,am zM x.branches,am yG x.els]] (.tup [.own 0 (zA (α:=zJ) r.1),li r.2]) [.elems 6 (zB zJ.c r.1)])/\
  (∀(x:Tree) (v:List PathBind) (v3:Int) (out:List zK) (list5:List zJ) (i:Nat) (o:(List zK)×(List zJ)),F.f168 x v v3 out list5 i=some o->∀(c:Code),Zb [1,1,0,1,0,0] (ZK Tryz.f67)=some c->∀(Q:Exit->ASt->Prop),(Q (.exit 0) ⟨[(0,.own 0 (zA (α:=zJ) o.2)),(3,.ptr 1 0),(6,.ptr 3 0)],[.elems 6 (zB zJ.c o.2),.cells [li x.op,li x.clause,am yF x.binds,am cI x.path,am zM x.branches,am yG x.els],.dead,.cells [li x.op,li x.clause,am yF v,am cI x.path,.own 4 (zA (α:=zK) o.1),li v3],.elems 4 (zB zK.c o.1)]⟩)->ALoopU zQ B 1 106 (hold c .mk) ⟨[(0,.own 0 (zA (α:=zJ) list5)),(3,.ptr 1 0),(6,.ptr 3 0),(7,li (i:Int))],[.elems 6 (zB zJ.c list5),.cells [li x.op,li x.clause,am yF x.binds,am cI x.path,am zM x.branches,am yG x.els],.dead,.cells [li x.op,li x.clause,am yF v,am cI x.path,.own 4 (zA (α:=zK) out),li v3],.elems 4 (zB zK.c out)]⟩ (hold Q .mk)):=by
 refine F.f167.mutual_partial_correctness 
  _ _
  ?_ ?_
 ·intro _f_f167 _f_f168 ih_f167 ih_f168 list x r hF
  refine BCall.enter func67 (by kernel_rfl) rfl ntmps67 (by simp) rfl (by simp) (by simp) (by simp) (by simp) (by simp) (gR _) ?_
  repeat first|refine cg ?_|simp -dsimp
  refine zW [(7,13),(10,13),(12,13)] 13 [1000047] [(0,2),(0,2),(0,2),(0,2),(0,1),(0,1),(0,5),(0,5),(0,1),(0,1),(0,5),(0,5),(0,5),(0,5),(0,5)] [0,2,0,2,0,2,1,1,0,2,1,1,1,1,1] follows (by kernel_rfl) (by kernel_rfl) (by kernel_rfl) (by kernel_rfl) (by intro d hd;cases hd;rfl) (by intro t i h k;cases h;cases k;rfl) ?_
  repeat first|refine cg ?_|simp -dsimp
  have hF:=ob hF;obtain⟨v,e1,hF⟩:=hF
  refine((C.f157 B hB1 hB2 x.binds v e1)).pgoW (by simp) (by simp) ?_
  have hF:=oc hF;obtain⟨c2,hF⟩:=hF
  repeat first|refine cg ?_|simp -dsimp
  have hF:=ob hF;obtain⟨v3,e4,hF⟩:=hF
  refine((C.f158 B hB1 hB2 v3 e4)).pgoW (by simp) (by simp) ?_
  repeat first|refine cg ?_|simp -dsimp
  have hF:=ob hF;obtain⟨o',ho15,hF⟩:=hF
  refine yE ⟨[(0,.own 0 (zA (α:=zJ) list)),(3,.ptr 1 0),(6,.ptr 3 0),(7,.lit (.int .i64 0))],[.elems 6 (zB zJ.c list),.cells [.lit (.int .i64 x.op),.lit (.int .i64 x.clause),.arr (zB yF x.binds),.arr (zB cI x.path),.arr (zB zM x.branches),.arr (zB yG x.els)],.dead,.cells [.lit (.int .i64 x.op),.lit (.int .i64 x.clause),.arr (zB yF v),.arr (zB cI x.path),.own 4 (zA (α:=zK) []),.lit (.int .i64 v3)],.elems 4 (zB zK.c [])]⟩ (by refine yK (yL 3 4 4 (by simp -dsimp;rfl) (by simp -dsimp)) ?_;exact(gT (by simp) (by simp -dsimp))) ?_
  refine(ih_f168 x v v3 [] list 0 o' ho15) _ rfl _ ?_
  repeat first|refine cg ?_|simp -dsimp
  revert hF;refine aS ?_ ?_<;>intro h16 q17 hF
  ·have z18:(0<(x.els.length:Int)):=auz
   have hF:=ob hF;obtain⟨x19,e20,hF⟩:=hF
   have le20:=ZD e20
   repeat first|refine cg ?_|simp -dsimp[h16,z18,↓e20]
   have hF:=ob hF;obtain⟨v21,e22,hF⟩:=hF
   refine((ih_f167 o'.2 x19 v21 e22)).go (pl [0]) (by simp) (by simp) (ZBE _ rfl (by decide)) (by intro i hi hi';simp at hi hi';first|omega|(subst hi';simp[pl])) (by simp_all) (by simp_all) ?_
   repeat first|refine cg ?_|simp -dsimp[↓e20]
   have hF:=ob hF;obtain⟨o'35,ho34,hF⟩:=hF
   refine yD (((CC.f165 B hB1 hB2 x v o' v21) 0 o'35 ho34) _ rfl _ ?_)
   rcases o'35 with r0|sx
   ·dsimp only at hF
    cases hF
    intro st h
    simpa using h
   ·dsimp only at hF
    have hF:=oc hF;obtain⟨c36,hF⟩:=hF
    cases hF
    repeat first|refine cg ?_|simp -dsimp
  ·have z18:¬(0<(x.els.length:Int)):=auz
   repeat first|refine cg ?_|simp -dsimp[h16,q17,z18]
   have hF:=ob hF;obtain⟨o'49,ho48,hF⟩:=hF
   refine yD (((CC.f166 B hB1 hB2 x v v3 o') 0 o'49 ho48) _ rfl _ ?_)
   rcases o'49 with r052|sx50
   ·dsimp only at hF
    cases hF
    intro st h
    simpa using h
   ·dsimp only at hF
    have hF:=oc hF;obtain⟨c51,hF⟩:=hF
    cases hF
    repeat first|refine cg ?_|simp -dsimp
 ·intro _f_f167 _f_f168 ih_f167 ih_f168 x v v3 out list5 i o hF
  refine ZJ rfl fun Q hq hk hs=> ?_
  have d0:=hs 0 _ rfl
  simp -dsimp[zO]at d0
  have d1:=hs 1 _ rfl
  simp -dsimp[zO]at d1
  have d3:=hs 3 _ rfl
  simp -dsimp[zO]at d3
  have d4:=hs 4 _ rfl
  simp -dsimp[zO]at d4
  clear hk hs
  refine eN ?_
  repeat first|refine cg ?_|simp -dsimp
  revert hF;refine aS ?_ ?_<;>intro h6 q7 hF
  ·have z8:((i:Int)<(x.branches.length:Int)):=auz
   have hF:=ob hF;obtain⟨x9,e10,hF⟩:=hF
   have le10:=ZD e10
   repeat first|refine cg ?_|simp -dsimp[h6,z8,↓e10]
   have hF:=ob hF;obtain⟨v11,e12,hF⟩:=hF
   refine((ih_f167 list5 x9.tree v11 e12)).go (pl [0]) (by simp) (by simp) (ZBE _ rfl (by decide)) (by intro i hi hi';simp at hi hi';first|omega|(subst hi';simp[pl])) (by simp_all) (by simp_all) ?_
   repeat first|refine cg ?_|simp -dsimp[↓e10]
   refine zS [] [(0,1),(0,1),(0,0),(0,0),(0,0),(0,0),(0,0),(0,0),(0,0),(0,0),(0,0),(0,0),(0,0),(0,0),(0,0),(0,0),(0,0),(0,0),(0,0),(0,0),(0,0),(0,0),(0,3),(0,3),(2,2),(0,3)] [0,2,1,1,1,1,1,1,1,1,1,1,1,1,1,1,1,1,1,1,1,1,1,1,1,1] follows ?_
   have hF:=oc hF;obtain⟨c13,hF⟩:=hF
   have w14:i64.wrap ((i:Int)+1)=(i:Int)+1:=ZF (by omega) (by omega)
   repeat first|refine cg ?_|simp -dsimp[↓e10,w14]
   refine zZ ((ih_f168 x v v3 (out++[(⟨x9.ctor,x9.n,x9.m,v11.2⟩:zK)]) v11.1 (i+1) o hF) _ rfl _ hq)
  ·have z8:¬((i:Int)<(x.branches.length:Int)):=auz
   cases hF
   repeat first|refine cg ?_|simp -dsimp[h6,q7,z8]
   refine yA hq
theorem C.f169 (x:Tree)(r:(List zJ)×Bool)(hF:F.f169 x=some r):PureCall zQ B 39 [.agg [li x.op,li x.clause,am yF x.binds,am cI x.path,am zM x.branches,am yG x.els]] (.tup [am zJ.c r.1,.lit (.bool r.2)]):=by
 unfold F.f169 at hF
 refine yB func39 rfl ntmps39 ?_
 repeat first|refine cg ?_|simp -dsimp
 have hF:=ob hF;obtain⟨v,e1,hF⟩:=hF
 refine(((CC.f151 B hB1 hB2).1 x 300 v e1)).goI ?_
 repeat first|refine cg ?_|simp -dsimp
 revert hF;refine aN ?_ ?_<;>intro h2 q3 hF
 ·repeat first|refine cg ?_|simp -dsimp[h2,q3]
  have hF:=ob hF;obtain⟨v4,e5,hF⟩:=hF
  refine(((CC.f154 B hB1 hB2).1 x v4 e5)).goI ?_
  repeat first|refine cg ?_|simp -dsimp[h2,q3]
  revert hF;refine aN (fun h6 q7 hF=> ?_) (fun h6 q7 hF=> ?_)
  ·cases hF
   repeat first|refine cg ?_|simp -dsimp[h2,q3,h6,q7]
   all_goals(try first|omega|rfl)
  ·repeat first|refine cg ?_|simp -dsimp[h2,q3,h6,q7]
   have hF:=ob hF;obtain⟨v8,e9,hF⟩:=hF
   refine ACall.nilArg 0 6 (by simp) ?_
   repeat first|refine cg ?_|simp -dsimp[h2,q3,h6,q7]
   refine(((CC.f167 B hB1 hB2).1 [] x v8 e9)).go (pl [1]) (by simp) (by simp) (ZBE _ rfl (by decide)) (by intro i hi hi';simp at hi hi';first|omega|(subst hi';simp[pl])) (by first|simp[h2,q3,h6,q7];done|simp_all) (by first|simp[h2,q3,h6,q7];done|simp_all) ?_
   cases hF
   repeat first|refine cg ?_|simp -dsimp[h2,q3,h6,q7]
   all_goals(try first|omega|rfl)
 ·cases hF
  repeat first|refine cg ?_|simp -dsimp[h2,q3]
  all_goals(try first|omega|rfl)
theorem C.spec_l8Nodes__o0 (code:List Int)(r:List zJ)(hF:F.f170 code=some r):BCall zQ B 16 [] [am cU code] (.own 0 (zA (α:=zJ) r)) [.elems 6 (zB zJ.c r)]:=by
 unfold F.f170 at hF
 refine BCall.enterS (τ1:=[]) (ys:=[.own 0 (zA (α:=zJ) r)]) (news:=[(6,zB zJ.c r)]) func16 (by kernel_rfl) rfl ntmps16 (by simp) rfl rfl (by simp) (by simp) (by simp) (by simp) (by simp) (by simp) (gR _) ?_
 repeat first|refine cg ?_|simp -dsimp
 refine ACall.inl func38 (by kernel_rfl) rfl ntmps38 (by simp) ?_
 repeat first|refine cg ?_|simp -dsimp
 revert hF;refine aS ?_ ?_<;>intro h1 q2 hF
 ·have z3:(2000<(code.length:Int)):=auz
  have hF:=oc hF;obtain⟨c4,hF⟩:=hF
  repeat first|refine cg ?_|simp -dsimp[h1,z3]
  have hF:=ob hF;obtain⟨v,e5,hF⟩:=hF
  refine((C.f150 B hB1 hB2 code v e5)).goI ?_
  repeat first|refine cg ?_|simp -dsimp[h1,z3]
  have hF:=ob hF;obtain⟨v6,e7,hF⟩:=hF
  refine((C.f169 B hB1 hB2 v v6 e7)).goI ?_
  have hF:=oc hF;obtain⟨c8,hF⟩:=hF
  repeat first|refine cg ?_|simp -dsimp[h1,z3]
  revert hF;refine aN ?_ ?_<;>intro h9 q10 hF
  ·have z11:¬((v6.1.length:Int)=0):=auz
   repeat first|refine cg ?_|simp -dsimp[h1,z3,h9,q10,z11]
   have hF:=ob hF;obtain⟨v12,e13,hF⟩:=hF
   refine((yN B hB1 hB2 (⟨(code.drop 0).take (2000-0),0⟩:ZB) 3 v12 e13)).go 0 rfl (by first|simp[h1,z3,h9,q10,z11];done|simp_all) (by simp) (by first|simp[h1,z3,h9,q10,z11];done|simp_all) ?_
   repeat first|refine cg ?_|simp -dsimp[h1,z3,h9,q10,z11]
   revert hF;refine aS ?_ ?_<;>intro h14 q15 hF
   ·cases hF
    repeat first|refine cg ?_|simp -dsimp[h1,z3,h9,q10,z11,h14]
    all_goals(try first|omega|rfl|(simp;done)|(simp only[zC,zD]at*;omega)|simp)
   ·repeat first|refine cg ?_|simp -dsimp[h1,z3,h9,q10,z11,h14,q15]
    have hF:=ob hF;obtain⟨v16,e17,hF⟩:=hF
    refine((yN B hB1 hB2 v12.2 (v6.1.length:Int) v16 e17)).go 0 rfl (by first|simp[h1,z3,h9,q10,z11,h14,q15];done|simp_all) (by simp) (by first|simp[h1,z3,h9,q10,z11,h14,q15];done|simp_all) ?_
    repeat first|refine cg ?_|simp -dsimp[h1,z3,h9,q10,z11,h14,q15]
    have hF:=ob hF;obtain⟨v18,e19,hF⟩:=hF
    refine((yN B hB1 hB2 v16.2 5 v18 e19)).go 0 rfl (by first|simp[h1,z3,h9,q10,z11,h14,q15];done|simp_all) (by simp) (by first|simp[h1,z3,h9,q10,z11,h14,q15];done|simp_all) ?_
    repeat first|refine cg ?_|simp -dsimp[h1,z3,h9,q10,z11,h14,q15]
    revert hF;refine aS ?_ ?_<;>intro h20 q21 hF
    ·repeat first|refine cg ?_|simp -dsimp[h1,z3,h9,q10,z11,h14,q15,h20]
     have hF:=ob hF;obtain⟨v22,e23,hF⟩:=hF
     refine yS ?_ ((yM B hB1 hB2 v18.2 [0,1,2,3,(-1)] v22 e23)).ent
     repeat first|refine cg ?_|simp -dsimp[h1,z3,h9,q10,z11,h14,q15,h20]
     refine((yM B hB1 hB2 v18.2 [0,1,2,3,(-1)] v22 e23)).go 0 rfl (by first|simp[h1,z3,h9,q10,z11,h14,q15,h20];done|simp_all) (by simp) (by first|simp[h1,z3,h9,q10,z11,h14,q15,h20];done|simp_all) ?_
     have hF:=ob hF;obtain⟨x,e24a,hF⟩:=hF
     have e24a:=ZO e24a;obtain⟨ne24,e24⟩:=e24a
     have le24:=ZD e24
     cases hF
     repeat first|refine cg ?_|simp -dsimp[h1,z3,h9,q10,z11,h14,q15,h20,↓e24,le24]
     all_goals(try first|omega|rfl|(simp;done)|(simp only[zC,zD]at*;omega)|simp)
    ·repeat first|refine cg ?_|simp -dsimp[h1,z3,h9,q10,z11,h14,q15,h20,q21]
     revert hF;refine aS ?_ ?_<;>intro h25 q26 hF
     ·repeat first|refine cg ?_|simp -dsimp[h1,z3,h9,q10,z11,h14,q15,h20,q21,h25]
      have hF:=ob hF;obtain⟨v27,e28,hF⟩:=hF
      refine yS ?_ ((yM B hB1 hB2 v18.2 [0,(-1),5,(-2)] v27 e28)).ent
      repeat first|refine cg ?_|simp -dsimp[h1,z3,h9,q10,z11,h14,q15,h20,q21,h25]
      refine((yM B hB1 hB2 v18.2 [0,(-1),5,(-2)] v27 e28)).go 0 rfl (by first|simp[h1,z3,h9,q10,z11,h14,q15,h20,q21,h25];done|simp_all) (by simp) (by first|simp[h1,z3,h9,q10,z11,h14,q15,h20,q21,h25];done|simp_all) ?_
      have hF:=ob hF;obtain⟨x29,e30a,hF⟩:=hF
      have e30a:=ZO e30a;obtain⟨ne30,e30⟩:=e30a
      have le30:=ZD e30
      cases hF
      repeat first|refine cg ?_|simp -dsimp[h1,z3,h9,q10,z11,h14,q15,h20,q21,h25,↓e30,le30]
      all_goals(try first|omega|rfl|(simp;done)|(simp only[zC,zD]at*;omega)|simp)
     ·repeat first|refine cg ?_|simp -dsimp[h1,z3,h9,q10,z11,h14,q15,h20,q21,h25,q26]
      revert hF;refine aS ?_ ?_<;>intro h31 q32 hF
      ·have hF:=ob hF;obtain⟨x33,e34a,hF⟩:=hF
       have e34a:=ZO e34a;obtain⟨ne34,e34⟩:=e34a
       have le34:=ZD e34
       repeat first|refine cg ?_|simp -dsimp[h1,z3,h9,q10,z11,h14,q15,h20,q21,h25,q26,h31,↓e34,le34]
       revert hF;refine aS ?_ ?_<;>intro h35 q36 hF
       ·have z37:(0<(x33.edges.length:Int)):=auz
        have hF:=oc hF;obtain⟨c38,hF⟩:=hF
        repeat first|refine cg ?_|simp -dsimp[h1,z3,h9,q10,z11,h14,q15,h20,q21,h25,q26,h31,↓e34,le34,h35,z37]
        refine zY ?_
        repeat first|refine cg ?_|simp -dsimp[h1,z3,h9,q10,z11,h14,q15,h20,q21,h25,q26,h31,↓e34,le34,h35,z37]
        refine zU ?_
        refine zT [] [(2,6)] [(6,2)] 2 6 rfl rfl (by kernel_rfl) ?_ ?_
        ·refine zR [(2,6)] [0,1,2,3,4,5,6,7,8,9,10] [42] [(0,0),(0,0),(0,0),(0,2),(0,2),(0,1),(0,3),(0,3),(2,2),(2,2),(0,3)] [1,1,1,0,2,1,1,1,1,1,1] follows (by kernel_rfl) (by kernel_rfl) (by kernel_rfl) (by kernel_rfl) ?_
         repeat first|refine cg ?_|simp -dsimp[h1,z3,h9,q10,z11,h14,q15,h20,q21,h25,q26,h31,↓e34,le34,h35,z37]
         have hF:=ob hF;obtain⟨v39,e40,hF⟩:=hF
         refine yQ ?_ ((yM B hB1 hB2 v18.2 [0,1,9,(-1)] v39 e40)).ent
         repeat first|refine cg ?_|simp -dsimp[h1,z3,h9,q10,z11,h14,q15,h20,q21,h25,q26,h31,↓e34,le34,h35,z37]
         refine((yM B hB1 hB2 v18.2 [0,1,9,(-1)] v39 e40)).ego 0 rfl (by first|simp[h1,z3,h9,q10,z11,h14,q15,h20,q21,h25,q26,h31,↓e34,le34,h35,z37];done|simp_all) (by simp) (by first|simp[h1,z3,h9,q10,z11,h14,q15,h20,q21,h25,q26,h31,↓e34,le34,h35,z37];done|simp_all) ?_
         have hF:=ob hF;obtain⟨x41,e42,hF⟩:=hF
         have le42:=ZD e42
         repeat first|refine cg ?_|simp -dsimp[h1,z3,h9,q10,z11,h14,q15,h20,q21,h25,q26,h31,↓e34,le34,h35,z37,↓e42,le42]
         refine GhK.go (yI 1 v16.1.toNat 4 (l2:=2) (n:=zA (α:=zK) (x33.edges.set 0 (⟨x41.ctor,x41.n,x41.m,v39.1⟩:zK))) (sz2:=4) (es2:=zB zK.c (x33.edges.set 0 (⟨x41.ctor,x41.n,x41.m,v39.1⟩:zK))) rfl (zE (by rw[zF];assumption)) (by simp) (by simp) (by decide) (by simp) (by simp)) ?_
         cases hF
         repeat first|refine cg ?_|simp -dsimp[h1,z3,h9,q10,z11,h14,q15,h20,q21,h25,q26,h31,↓e34,le34,h35,z37,↓e42,le42]
         all_goals(try first|omega|rfl|(simp;done)|(simp only[zC,zD]at*;omega)|simp)
        ·refine zT [(6,2)] [(6,2),(2,7)] [(6,2),(7,2)] 2 7 rfl rfl (by kernel_rfl) ?_ ?_
         ·refine zR [(6,2),(2,7)] [0,1,5,6,2,3,4,7,8,9,10] [42] [(0,1),(0,1),(0,1),(0,3),(1,1),(1,2),(1,2),(0,3),(2,2),(2,2),(0,3)] [1,1,1,1,1,0,2,1,1,1,1] follows (by kernel_rfl) (by kernel_rfl) (by kernel_rfl) (by kernel_rfl) ?_
          repeat first|refine cg ?_|simp -dsimp[h1,z3,h9,q10,z11,h14,q15,h20,q21,h25,q26,h31,↓e34,le34,h35,z37]
          have hF:=ob hF;obtain⟨v39,e40,hF⟩:=hF
          refine yQ ?_ ((yM B hB1 hB2 v18.2 [0,1,9,(-1)] v39 e40)).ent
          repeat first|refine cg ?_|simp -dsimp[h1,z3,h9,q10,z11,h14,q15,h20,q21,h25,q26,h31,↓e34,le34,h35,z37]
          refine((yM B hB1 hB2 v18.2 [0,1,9,(-1)] v39 e40)).ego 0 rfl (by first|simp[h1,z3,h9,q10,z11,h14,q15,h20,q21,h25,q26,h31,↓e34,le34,h35,z37];done|simp_all) (by simp) (by first|simp[h1,z3,h9,q10,z11,h14,q15,h20,q21,h25,q26,h31,↓e34,le34,h35,z37];done|simp_all) ?_
          have hF:=ob hF;obtain⟨x41,e42,hF⟩:=hF
          have le42:=ZD e42
          repeat first|refine cg ?_|simp -dsimp[h1,z3,h9,q10,z11,h14,q15,h20,q21,h25,q26,h31,↓e34,le34,h35,z37,↓e42,le42]
          refine GhK.go (yI 1 v16.1.toNat 4 (l2:=2) (n:=zA (α:=zK) (x33.edges.set 0 (⟨x41.ctor,x41.n,x41.m,v39.1⟩:zK))) (sz2:=4) (es2:=zB zK.c (x33.edges.set 0 (⟨x41.ctor,x41.n,x41.m,v39.1⟩:zK))) rfl (zE (by rw[zF];assumption)) (by simp) (by simp) (by decide) (by simp) (by simp)) ?_
          cases hF
          repeat first|refine cg ?_|simp -dsimp[h1,z3,h9,q10,z11,h14,q15,h20,q21,h25,q26,h31,↓e34,le34,h35,z37,↓e42,le42]
          all_goals(try first|omega|rfl|(simp;done)|(simp only[zC,zD]at*;omega)|simp)
         ·refine zR [(6,2),(7,2)] [0,1,5,6,7,2,3,4,8,9,10] [42] [(0,2),(0,2),(0,1),(0,3),(0,3),(2,2),(2,2),(2,2),(2,2),(2,2),(0,3)] [1,1,1,1,1,1,1,1,1,1,1] follows (by kernel_rfl) (by kernel_rfl) (by kernel_rfl) (by kernel_rfl) ?_
          repeat first|refine cg ?_|simp -dsimp[h1,z3,h9,q10,z11,h14,q15,h20,q21,h25,q26,h31,↓e34,le34,h35,z37]
          have hF:=ob hF;obtain⟨v39,e40,hF⟩:=hF
          refine yQ ?_ ((yM B hB1 hB2 v18.2 [0,1,9,(-1)] v39 e40)).ent
          repeat first|refine cg ?_|simp -dsimp[h1,z3,h9,q10,z11,h14,q15,h20,q21,h25,q26,h31,↓e34,le34,h35,z37]
          refine((yM B hB1 hB2 v18.2 [0,1,9,(-1)] v39 e40)).ego 0 rfl (by first|simp[h1,z3,h9,q10,z11,h14,q15,h20,q21,h25,q26,h31,↓e34,le34,h35,z37];done|simp_all) (by simp) (by first|simp[h1,z3,h9,q10,z11,h14,q15,h20,q21,h25,q26,h31,↓e34,le34,h35,z37];done|simp_all) ?_
          have hF:=ob hF;obtain⟨x41,e42,hF⟩:=hF
          have le42:=ZD e42
          repeat first|refine cg ?_|simp -dsimp[h1,z3,h9,q10,z11,h14,q15,h20,q21,h25,q26,h31,↓e34,le34,h35,z37,↓e42,le42]
          refine GhK.go (yI 1 v16.1.toNat 4 (l2:=2) (n:=zA (α:=zK) (x33.edges.set 0 (⟨x41.ctor,x41.n,x41.m,v39.1⟩:zK))) (sz2:=4) (es2:=zB zK.c (x33.edges.set 0 (⟨x41.ctor,x41.n,x41.m,v39.1⟩:zK))) rfl (zE (by rw[zF];assumption)) (by simp) (by simp) (by decide) (by simp) (by simp)) ?_
          cases hF
          repeat first|refine cg ?_|simp -dsimp[h1,z3,h9,q10,z11,h14,q15,h20,q21,h25,q26,h31,↓e34,le34,h35,z37,↓e42,le42]
          all_goals(try first|omega|rfl|(simp;done)|(simp only[zC,zD]at*;omega)|simp)
       ·have z37:¬(0<(x33.edges.length:Int)):=auz
        cases hF
        repeat first|refine cg ?_|simp -dsimp[h1,z3,h9,q10,z11,h14,q15,h20,q21,h25,q26,h31,↓e34,le34,h35,q36,z37]
        all_goals(try first|omega|rfl|(simp;done)|(simp only[zC,zD]at*;omega)|simp)
      ·repeat first|refine cg ?_|simp -dsimp[h1,z3,h9,q10,z11,h14,q15,h20,q21,h25,q26,h31,q32]
       revert hF;refine aS ?_ ?_<;>intro h43 q44 hF
       ·have hF:=oc hF;obtain⟨c45,hF⟩:=hF
        cases hF
        repeat first|refine cg ?_|simp -dsimp[h1,z3,h9,q10,z11,h14,q15,h20,q21,h25,q26,h31,q32,h43]
        all_goals(try first|omega|rfl|(simp;done)|(simp only[zC,zD]at*;omega)|simp)
       ·repeat first|refine cg ?_|simp -dsimp[h1,z3,h9,q10,z11,h14,q15,h20,q21,h25,q26,h31,q32,h43,q44]
        revert hF;refine aS ?_ ?_<;>intro h46 q47 hF
        ·have hF:=ob hF;obtain⟨x48,e49a,hF⟩:=hF
         have e49a:=ZO e49a;obtain⟨ne49,e49⟩:=e49a
         have le49:=ZD e49
         have hF:=oc hF;obtain⟨c50,hF⟩:=hF
         cases hF
         repeat first|refine cg ?_|simp -dsimp[h1,z3,h9,q10,z11,h14,q15,h20,q21,h25,q26,h31,q32,h43,q44,h46,↓e49,le49]
         all_goals(try first|omega|rfl|(simp;done)|(simp only[zC,zD]at*;omega)|simp)
        ·cases hF
         repeat first|refine cg ?_|simp -dsimp[h1,z3,h9,q10,z11,h14,q15,h20,q21,h25,q26,h31,q32,h43,q44,h46,q47]
         all_goals(try first|omega|rfl|(simp;done)|(simp only[zC,zD]at*;omega)|simp)
  ·have z11:((v6.1.length:Int)=0):=auz
   cases hF
   repeat first|refine cg ?_|simp -dsimp[h1,z3,h9,q10,z11]
   all_goals(try first|omega|rfl|(simp;done)|(simp only[zC,zD]at*;omega)|simp)
 ·have z3:¬(2000<(code.length:Int)):=auz
  repeat first|refine cg ?_|simp -dsimp[h1,q2,z3]
  have hF:=ob hF;obtain⟨v51,e52,hF⟩:=hF
  refine((C.f150 B hB1 hB2 code v51 e52)).goI ?_
  repeat first|refine cg ?_|simp -dsimp[h1,q2,z3]
  have hF:=ob hF;obtain⟨v53,e54,hF⟩:=hF
  refine((C.f169 B hB1 hB2 v51 v53 e54)).goI ?_
  have hF:=oc hF;obtain⟨c55,hF⟩:=hF
  repeat first|refine cg ?_|simp -dsimp[h1,q2,z3]
  revert hF;refine aN ?_ ?_<;>intro h56 q57 hF
  ·have z58:¬((v53.1.length:Int)=0):=auz
   repeat first|refine cg ?_|simp -dsimp[h1,q2,z3,h56,q57,z58]
   have hF:=ob hF;obtain⟨v59,e60,hF⟩:=hF
   refine((yN B hB1 hB2 (⟨code,0⟩:ZB) 3 v59 e60)).go 0 rfl (by first|simp[h1,q2,z3,h56,q57,z58];done|simp_all) (by simp) (by first|simp[h1,q2,z3,h56,q57,z58];done|simp_all) ?_
   repeat first|refine cg ?_|simp -dsimp[h1,q2,z3,h56,q57,z58]
   revert hF;refine aS ?_ ?_<;>intro h61 q62 hF
   ·cases hF
    repeat first|refine cg ?_|simp -dsimp[h1,q2,z3,h56,q57,z58,h61]
    all_goals(try first|omega|rfl|(simp;done)|(simp only[zC,zD]at*;omega)|simp)
   ·repeat first|refine cg ?_|simp -dsimp[h1,q2,z3,h56,q57,z58,h61,q62]
    have hF:=ob hF;obtain⟨v63,e64,hF⟩:=hF
    refine((yN B hB1 hB2 v59.2 (v53.1.length:Int) v63 e64)).go 0 rfl (by first|simp[h1,q2,z3,h56,q57,z58,h61,q62];done|simp_all) (by simp) (by first|simp[h1,q2,z3,h56,q57,z58,h61,q62];done|simp_all) ?_
    repeat first|refine cg ?_|simp -dsimp[h1,q2,z3,h56,q57,z58,h61,q62]
    have hF:=ob hF;obtain⟨v65,e66,hF⟩:=hF
    refine((yN B hB1 hB2 v63.2 5 v65 e66)).go 0 rfl (by first|simp[h1,q2,z3,h56,q57,z58,h61,q62];done|simp_all) (by simp) (by first|simp[h1,q2,z3,h56,q57,z58,h61,q62];done|simp_all) ?_
    repeat first|refine cg ?_|simp -dsimp[h1,q2,z3,h56,q57,z58,h61,q62]
    revert hF;refine aS ?_ ?_<;>intro h67 q68 hF
    ·repeat first|refine cg ?_|simp -dsimp[h1,q2,z3,h56,q57,z58,h61,q62,h67]
     have hF:=ob hF;obtain⟨v69,e70,hF⟩:=hF
     refine yS ?_ ((yM B hB1 hB2 v65.2 [0,1,2,3,(-1)] v69 e70)).ent
     repeat first|refine cg ?_|simp -dsimp[h1,q2,z3,h56,q57,z58,h61,q62,h67]
     refine((yM B hB1 hB2 v65.2 [0,1,2,3,(-1)] v69 e70)).go 0 rfl (by first|simp[h1,q2,z3,h56,q57,z58,h61,q62,h67];done|simp_all) (by simp) (by first|simp[h1,q2,z3,h56,q57,z58,h61,q62,h67];done|simp_all) ?_
     have hF:=ob hF;obtain⟨x71,e72a,hF⟩:=hF
     have e72a:=ZO e72a;obtain⟨ne72,e72⟩:=e72a
     have le72:=ZD e72
     cases hF
     repeat first|refine cg ?_|simp -dsimp[h1,q2,z3,h56,q57,z58,h61,q62,h67,↓e72,le72]
     all_goals(try first|omega|rfl|(simp;done)|(simp only[zC,zD]at*;omega)|simp)
    ·repeat first|refine cg ?_|simp -dsimp[h1,q2,z3,h56,q57,z58,h61,q62,h67,q68]
     revert hF;refine aS ?_ ?_<;>intro h73 q74 hF
     ·repeat first|refine cg ?_|simp -dsimp[h1,q2,z3,h56,q57,z58,h61,q62,h67,q68,h73]
      have hF:=ob hF;obtain⟨v75,e76,hF⟩:=hF
      refine yS ?_ ((yM B hB1 hB2 v65.2 [0,(-1),5,(-2)] v75 e76)).ent
      repeat first|refine cg ?_|simp -dsimp[h1,q2,z3,h56,q57,z58,h61,q62,h67,q68,h73]
      refine((yM B hB1 hB2 v65.2 [0,(-1),5,(-2)] v75 e76)).go 0 rfl (by first|simp[h1,q2,z3,h56,q57,z58,h61,q62,h67,q68,h73];done|simp_all) (by simp) (by first|simp[h1,q2,z3,h56,q57,z58,h61,q62,h67,q68,h73];done|simp_all) ?_
      have hF:=ob hF;obtain⟨x77,e78a,hF⟩:=hF
      have e78a:=ZO e78a;obtain⟨ne78,e78⟩:=e78a
      have le78:=ZD e78
      cases hF
      repeat first|refine cg ?_|simp -dsimp[h1,q2,z3,h56,q57,z58,h61,q62,h67,q68,h73,↓e78,le78]
      all_goals(try first|omega|rfl|(simp;done)|(simp only[zC,zD]at*;omega)|simp)
     ·repeat first|refine cg ?_|simp -dsimp[h1,q2,z3,h56,q57,z58,h61,q62,h67,q68,h73,q74]
      revert hF;refine aS ?_ ?_<;>intro h79 q80 hF
      ·have hF:=ob hF;obtain⟨x81,e82a,hF⟩:=hF
       have e82a:=ZO e82a;obtain⟨ne82,e82⟩:=e82a
       have le82:=ZD e82
       repeat first|refine cg ?_|simp -dsimp[h1,q2,z3,h56,q57,z58,h61,q62,h67,q68,h73,q74,h79,↓e82,le82]
       revert hF;refine aS ?_ ?_<;>intro h83 q84 hF
       ·have z85:(0<(x81.edges.length:Int)):=auz
        have hF:=oc hF;obtain⟨c86,hF⟩:=hF
        repeat first|refine cg ?_|simp -dsimp[h1,q2,z3,h56,q57,z58,h61,q62,h67,q68,h73,q74,h79,↓e82,le82,h83,z85]
        refine zY ?_
        repeat first|refine cg ?_|simp -dsimp[h1,q2,z3,h56,q57,z58,h61,q62,h67,q68,h73,q74,h79,↓e82,le82,h83,z85]
        refine zU ?_
        refine zT [] [(2,6)] [(6,2)] 2 6 rfl rfl (by kernel_rfl) ?_ ?_
        ·refine zR [(2,6)] [0,1,2,3,4,5,6,7,8,9,10] [42] [(0,0),(0,0),(0,0),(0,2),(0,2),(0,1),(0,3),(0,3),(2,2),(2,2),(0,3)] [1,1,1,0,2,1,1,1,1,1,1] follows (by kernel_rfl) (by kernel_rfl) (by kernel_rfl) (by kernel_rfl) ?_
         repeat first|refine cg ?_|simp -dsimp[h1,q2,z3,h56,q57,z58,h61,q62,h67,q68,h73,q74,h79,↓e82,le82,h83,z85]
         have hF:=ob hF;obtain⟨v87,e88,hF⟩:=hF
         refine yQ ?_ ((yM B hB1 hB2 v65.2 [0,1,9,(-1)] v87 e88)).ent
         repeat first|refine cg ?_|simp -dsimp[h1,q2,z3,h56,q57,z58,h61,q62,h67,q68,h73,q74,h79,↓e82,le82,h83,z85]
         refine((yM B hB1 hB2 v65.2 [0,1,9,(-1)] v87 e88)).ego 0 rfl (by first|simp[h1,q2,z3,h56,q57,z58,h61,q62,h67,q68,h73,q74,h79,↓e82,le82,h83,z85];done|simp_all) (by simp) (by first|simp[h1,q2,z3,h56,q57,z58,h61,q62,h67,q68,h73,q74,h79,↓e82,le82,h83,z85];done|simp_all) ?_
         have hF:=ob hF;obtain⟨x89,e90,hF⟩:=hF
         have le90:=ZD e90
         repeat first|refine cg ?_|simp -dsimp[h1,q2,z3,h56,q57,z58,h61,q62,h67,q68,h73,q74,h79,↓e82,le82,h83,z85,↓e90,le90]
         refine GhK.go (yI 1 v63.1.toNat 4 (l2:=2) (n:=zA (α:=zK) (x81.edges.set 0 (⟨x89.ctor,x89.n,x89.m,v87.1⟩:zK))) (sz2:=4) (es2:=zB zK.c (x81.edges.set 0 (⟨x89.ctor,x89.n,x89.m,v87.1⟩:zK))) rfl (zE (by rw[zF];assumption)) (by simp) (by simp) (by decide) (by simp) (by simp)) ?_
         cases hF
         repeat first|refine cg ?_|simp -dsimp[h1,q2,z3,h56,q57,z58,h61,q62,h67,q68,h73,q74,h79,↓e82,le82,h83,z85,↓e90,le90]
         all_goals(try first|omega|rfl|(simp;done)|(simp only[zC,zD]at*;omega)|simp)
        ·refine zT [(6,2)] [(6,2),(2,7)] [(6,2),(7,2)] 2 7 rfl rfl (by kernel_rfl) ?_ ?_
         ·refine zR [(6,2),(2,7)] [0,1,5,6,2,3,4,7,8,9,10] [42] [(0,1),(0,1),(0,1),(0,3),(1,1),(1,2),(1,2),(0,3),(2,2),(2,2),(0,3)] [1,1,1,1,1,0,2,1,1,1,1] follows (by kernel_rfl) (by kernel_rfl) (by kernel_rfl) (by kernel_rfl) ?_
          repeat first|refine cg ?_|simp -dsimp[h1,q2,z3,h56,q57,z58,h61,q62,h67,q68,h73,q74,h79,↓e82,le82,h83,z85]
          have hF:=ob hF;obtain⟨v87,e88,hF⟩:=hF
          refine yQ ?_ ((yM B hB1 hB2 v65.2 [0,1,9,(-1)] v87 e88)).ent
          repeat first|refine cg ?_|simp -dsimp[h1,q2,z3,h56,q57,z58,h61,q62,h67,q68,h73,q74,h79,↓e82,le82,h83,z85]
          refine((yM B hB1 hB2 v65.2 [0,1,9,(-1)] v87 e88)).ego 0 rfl (by first|simp[h1,q2,z3,h56,q57,z58,h61,q62,h67,q68,h73,q74,h79,↓e82,le82,h83,z85];done|simp_all) (by simp) (by first|simp[h1,q2,z3,h56,q57,z58,h61,q62,h67,q68,h73,q74,h79,↓e82,le82,h83,z85];done|simp_all) ?_
          have hF:=ob hF;obtain⟨x89,e90,hF⟩:=hF
          have le90:=ZD e90
          repeat first|refine cg ?_|simp -dsimp[h1,q2,z3,h56,q57,z58,h61,q62,h67,q68,h73,q74,h79,↓e82,le82,h83,z85,↓e90,le90]
          refine GhK.go (yI 1 v63.1.toNat 4 (l2:=2) (n:=zA (α:=zK) (x81.edges.set 0 (⟨x89.ctor,x89.n,x89.m,v87.1⟩:zK))) (sz2:=4) (es2:=zB zK.c (x81.edges.set 0 (⟨x89.ctor,x89.n,x89.m,v87.1⟩:zK))) rfl (zE (by rw[zF];assumption)) (by simp) (by simp) (by decide) (by simp) (by simp)) ?_
          cases hF
          repeat first|refine cg ?_|simp -dsimp[h1,q2,z3,h56,q57,z58,h61,q62,h67,q68,h73,q74,h79,↓e82,le82,h83,z85,↓e90,le90]
          all_goals(try first|omega|rfl|(simp;done)|(simp only[zC,zD]at*;omega)|simp)
         ·refine zR [(6,2),(7,2)] [0,1,5,6,7,2,3,4,8,9,10] [42] [(0,2),(0,2),(0,1),(0,3),(0,3),(2,2),(2,2),(2,2),(2,2),(2,2),(0,3)] [1,1,1,1,1,1,1,1,1,1,1] follows (by kernel_rfl) (by kernel_rfl) (by kernel_rfl) (by kernel_rfl) ?_
          repeat first|refine cg ?_|simp -dsimp[h1,q2,z3,h56,q57,z58,h61,q62,h67,q68,h73,q74,h79,↓e82,le82,h83,z85]
          have hF:=ob hF;obtain⟨v87,e88,hF⟩:=hF
          refine yQ ?_ ((yM B hB1 hB2 v65.2 [0,1,9,(-1)] v87 e88)).ent
          repeat first|refine cg ?_|simp -dsimp[h1,q2,z3,h56,q57,z58,h61,q62,h67,q68,h73,q74,h79,↓e82,le82,h83,z85]
          refine((yM B hB1 hB2 v65.2 [0,1,9,(-1)] v87 e88)).ego 0 rfl (by first|simp[h1,q2,z3,h56,q57,z58,h61,q62,h67,q68,h73,q74,h79,↓e82,le82,h83,z85];done|simp_all) (by simp) (by first|simp[h1,q2,z3,h56,q57,z58,h61,q62,h67,q68,h73,q74,h79,↓e82,le82,h83,z85];done|simp_all) ?_
          have hF:=ob hF;obtain⟨x89,e90,hF⟩:=hF
          have le90:=ZD e90
          repeat first|refine cg ?_|simp -dsimp[h1,q2,z3,h56,q57,z58,h61,q62,h67,q68,h73,q74,h79,↓e82,le82,h83,z85,↓e90,le90]
          refine GhK.go (yI 1 v63.1.toNat 4 (l2:=2) (n:=zA (α:=zK) (x81.edges.set 0 (⟨x89.ctor,x89.n,x89.m,v87.1⟩:zK))) (sz2:=4) (es2:=zB zK.c (x81.edges.set 0 (⟨x89.ctor,x89.n,x89.m,v87.1⟩:zK))) rfl (zE (by rw[zF];assumption)) (by simp) (by simp) (by decide) (by simp) (by simp)) ?_
          cases hF
          repeat first|refine cg ?_|simp -dsimp[h1,q2,z3,h56,q57,z58,h61,q62,h67,q68,h73,q74,h79,↓e82,le82,h83,z85,↓e90,le90]
          all_goals(try first|omega|rfl|(simp;done)|(simp only[zC,zD]at*;omega)|simp)
       ·have z85:¬(0<(x81.edges.length:Int)):=auz
        cases hF
        repeat first|refine cg ?_|simp -dsimp[h1,q2,z3,h56,q57,z58,h61,q62,h67,q68,h73,q74,h79,↓e82,le82,h83,q84,z85]
        all_goals(try first|omega|rfl|(simp;done)|(simp only[zC,zD]at*;omega)|simp)
      ·repeat first|refine cg ?_|simp -dsimp[h1,q2,z3,h56,q57,z58,h61,q62,h67,q68,h73,q74,h79,q80]
       revert hF;refine aS ?_ ?_<;>intro h91 q92 hF
       ·have hF:=oc hF;obtain⟨c93,hF⟩:=hF
        cases hF
        repeat first|refine cg ?_|simp -dsimp[h1,q2,z3,h56,q57,z58,h61,q62,h67,q68,h73,q74,h79,q80,h91]
        all_goals(try first|omega|rfl|(simp;done)|(simp only[zC,zD]at*;omega)|simp)
       ·repeat first|refine cg ?_|simp -dsimp[h1,q2,z3,h56,q57,z58,h61,q62,h67,q68,h73,q74,h79,q80,h91,q92]
        revert hF;refine aS ?_ ?_<;>intro h94 q95 hF
        ·have hF:=ob hF;obtain⟨x96,e97a,hF⟩:=hF
         have e97a:=ZO e97a;obtain⟨ne97,e97⟩:=e97a
         have le97:=ZD e97
         have hF:=oc hF;obtain⟨c98,hF⟩:=hF
         cases hF
         repeat first|refine cg ?_|simp -dsimp[h1,q2,z3,h56,q57,z58,h61,q62,h67,q68,h73,q74,h79,q80,h91,q92,h94,↓e97,le97]
         all_goals(try first|omega|rfl|(simp;done)|(simp only[zC,zD]at*;omega)|simp)
        ·cases hF
         repeat first|refine cg ?_|simp -dsimp[h1,q2,z3,h56,q57,z58,h61,q62,h67,q68,h73,q74,h79,q80,h91,q92,h94,q95]
         all_goals(try first|omega|rfl|(simp;done)|(simp only[zC,zD]at*;omega)|simp)
  ·have z58:((v53.1.length:Int)=0):=auz
   cases hF
   repeat first|refine cg ?_|simp -dsimp[h1,q2,z3,h56,q57,z58]
   all_goals(try first|omega|rfl|(simp;done)|(simp only[zC,zD]at*;omega)|simp)
theorem C.f171 (code:List Int)(r:List zJ)(hF:F.f171 code=some r):PureCall zQ B 6 [am cU code] (am zJ.c r):=by
 unfold F.f171 at hF
 refine yB func6 rfl ntmps6 ?_
 repeat first|refine cg ?_|simp -dsimp
 have hF:=ob hF;obtain⟨v,e1,hF⟩:=hF
 refine((C.spec_l8Nodes__o0 B hB1 hB2 code v e1)).go (pl [0]) (by simp) (by simp) (by intro i j hi;simp at hi) (by intro i hi hi';simp at hi hi';have hi:i=0:=(by omega);rcases hi with rfl<;>simp[pl]) (by simp) (by simp) ?_
 cases hF
 repeat first|refine cg ?_|simp -dsimp
theorem C.f172 (n:Int)(low:Int)(high:Int)(r:Bool)(hF:F.f172 n low high=some r):PureCall zQ B 21 [li n,li low,li high] (.lit (.bool r)):=by
 unfold F.f172 at hF
 refine yB func21 rfl ntmps21 ?_
 repeat first|refine cg ?_|simp -dsimp
 revert hF;refine aS ?_ ?_<;>intro h1 q2 hF
 ·cases hF
  repeat first|refine cg ?_|simp -dsimp[h1]
 ·cases hF
  repeat first|refine cg ?_|simp -dsimp[q2]
theorem C.f173 (e:zK)(a1:Int)(r:Bool)(hF:F.f173 e a1=some r):PureCall zQ B 23 [.agg [li e.ctor,li e.n,li e.m,li e.to],.rptr [li a1] 0] (.lit (.bool r)):=by
 unfold F.f173 at hF
 refine yB func23 rfl ntmps23 ?_
 repeat first|refine cg ?_|simp -dsimp
 have hF:=ob hF;obtain⟨v,e1,hF⟩:=hF
 refine((C.f172 B hB1 hB2 e.to 0 (i64.wrap (a1-1)) v e1)).goI ?_
 cases hF
 repeat first|refine cg ?_|simp -dsimp
theorem CC.f174 (s:List zK)(k0:Int):(∀(i:Nat) (o:Lo Int Unit),F.f174 s k0 i=some o->∀(c:Code),Zb [1,0,1,0,0] (ZK Tryz.f45)=some c->∀(Q:Exit->ASt->Prop),o.post (fun r=>∀st,ZA2 zQ Tryz.f45 (fun r' _=>r'.le (li r)) .ret st->Q .ret st) (fun s=>Q (.exit 0) ⟨[],[]⟩)->ALoopU zQ B 0 19 (hold c .mk) ⟨[(0,am zK.c s),(1,.fn (.func 23) [] [.rptr [li k0] 0]),(7,li (s.length:Int)),(8,li (i:Int))],[]⟩ (hold Q .mk)):=by
 refine F.f174.partial_correctness s k0
  _
  ?_
 ·intro _f_f174 ih_f174 i o hF
  refine ZJ rfl fun Q hq hk hs=> ?_
  have b0:=hk 0
  simp -dsimp at b0
  clear hk hs
  refine eN ?_
  repeat first|refine cg ?_|simp -dsimp
  revert hF;refine aS ?_ ?_<;>intro h1 q2 hF
  ·have z3:((i:Int)<(s.length:Int)):=auz
   have hF:=ob hF;obtain⟨x,e4,hF⟩:=hF
   have le4:=ZD e4
   repeat first|refine cg ?_|simp -dsimp[h1,z3,↓e4]
   have hF:=ob hF;obtain⟨v,e5,hF⟩:=hF
   refine((C.f173 B hB1 hB2 x k0 v e5)).goI ?_
   repeat first|refine cg ?_|simp -dsimp
   revert hF;refine aS (fun h6 q7 hF=> ?_) (fun h6 q7 hF=> ?_)
   ·cases hF
    repeat first|refine cg ?_|simp -dsimp[h6]
    refine lG _ (gR _) (hq _ ?_)
    repeat first|refine cg ?_|simp -dsimp
   ·have w8:i64.wrap ((i:Int)+1)=(i:Int)+1:=ZF (by omega) (by omega)
    repeat first|refine cg ?_|simp -dsimp[q7,w8]
    refine zZ ((ih_f174 (i+1) o hF) _ rfl _ hq)
  ·have z3:¬((i:Int)<(s.length:Int)):=auz
   cases hF
   repeat first|refine cg ?_|simp -dsimp[h1,q2,z3]
   refine yA hq
theorem C.f175 (s:List zK)(k0:Int)(r:Int)(hF:F.f175 s k0=some r):PureCall zQ B 45 [am zK.c s,.fn (.func 23) [] [.rptr [li k0] 0]] (li r):=by
 unfold F.f175 at hF
 refine yB func45 rfl ntmps45 ?_
 repeat first|refine cg ?_|simp -dsimp
 have hF:=ob hF;obtain⟨o',ho9,hF⟩:=hF
 refine yD (((CC.f174 B hB1 hB2 s k0) 0 o' ho9) _ rfl _ ?_)
 rcases o' with r0|sx
 ·dsimp only at hF
  cases hF
  intro st h
  simpa using h
 ·dsimp only at hF
  cases hF
  repeat first|refine cg ?_|simp -dsimp
theorem C.f176 (s:List zK)(k0:Int)(r:Bool)(hF:F.f176 s k0=some r):PureCall zQ B 22 [am zK.c s,.fn (.func 23) [] [.rptr [li k0] 0]] (.lit (.bool r)):=by
 unfold F.f176 at hF
 refine yB func22 rfl ntmps22 ?_
 repeat first|refine cg ?_|simp -dsimp
 have hF:=ob hF;obtain⟨v,e1,hF⟩:=hF
 refine((C.f175 B hB1 hB2 s k0 v e1)).goI ?_
 cases hF
 repeat first|refine cg ?_|simp -dsimp
theorem CC.f177 (list:List zJ):(∀(i:Nat) (o:Lo Bool Unit),F.f177 list i=some o->∀(c:Code),Zb [1,0,1,0,0] (ZK Tryz.f8)=some c->∀(Q:Exit->ASt->Prop),o.post (fun r=>∀st,ZA2 zQ Tryz.f8 (fun r' _=>r'.le (.lit (.bool r))) .ret st->Q .ret st) (fun s=>Q (.exit 0) ⟨[(0,am zJ.c list)],[]⟩)->ALoopU zQ B 0 40 (hold c .mk) ⟨[(0,am zJ.c list),(5,am zJ.c list),(6,li (list.length:Int)),(7,li (i:Int))],[]⟩ (hold Q .mk)):=by
 refine F.f177.partial_correctness list
  _
  ?_
 ·intro _f_f177 ih_f177 i o hF
  refine ZJ rfl fun Q hq hk hs=> ?_
  have b0:=hk 0
  simp -dsimp at b0
  have b5:=hk 5
  simp -dsimp at b5
  clear hk hs
  refine eN ?_
  repeat first|refine cg ?_|simp -dsimp
  revert hF;refine aS ?_ ?_<;>intro h1 q2 hF
  ·have z3:((i:Int)<(list.length:Int)):=auz
   have hF:=ob hF;obtain⟨x,e4,hF⟩:=hF
   have le4:=ZD e4
   repeat first|refine cg ?_|simp -dsimp[h1,z3,↓e4]
   have hF:=ob hF;obtain⟨v,e5,hF⟩:=hF
   refine((C.f172 B hB1 hB2 x.op 0 2 v e5)).goI ?_
   repeat first|refine cg ?_|simp -dsimp[h1,z3,↓e4]
   revert hF;refine aS (fun h6 q7 hF=> ?_) (fun h6 q7 hF=> ?_)
   ·repeat first|refine cg ?_|simp -dsimp[h1,z3,↓e4,h6]
    revert hF;refine aN ?_ ?_<;>intro h8 q9 hF
    ·have z10:¬(10<(x.edges.length:Int)):=auz
     repeat first|refine cg ?_|simp -dsimp[h1,z3,↓e4,h6,h8,q9,z10]
     have hF:=ob hF;obtain⟨v11,e12,hF⟩:=hF
     refine((C.f172 B hB1 hB2 x.els (-1) (i64.wrap ((i:Int) -1)) v11 e12)).goI ?_
     repeat first|refine cg ?_|simp -dsimp[h1,z3,↓e4,h6,h8,q9,z10]
     revert hF;refine aS (fun h13 q14 hF=> ?_) (fun h13 q14 hF=> ?_)
     ·repeat first|refine cg ?_|simp -dsimp[h1,z3,↓e4,h6,h8,q9,z10,h13]
      have hF:=ob hF;obtain⟨v15,e16,hF⟩:=hF
      refine((C.f176 B hB1 hB2 x.edges (i:Int) v15 e16)).lend (by simp -dsimp[h1,z3,↓e4,h6,h8,q9,z10,h13]) (by simp -dsimp) ?_
      repeat first|refine cg ?_|simp -dsimp[h1,z3,↓e4,h6,h8,q9,z10,h13]
      revert hF;refine aS (fun h17 q18 hF=> ?_) (fun h17 q18 hF=> ?_)
      ·cases hF
       repeat first|refine cg ?_|simp -dsimp[h1,z3,↓e4,h6,h8,q9,z10,h13,h17]
       refine lG _ (gR _) (hq _ ?_)
       repeat first|refine cg ?_|simp -dsimp[h1,z3,↓e4,h6,h8,q9,z10,h13,h17]
      ·have w19:i64.wrap ((i:Int)+1)=(i:Int)+1:=ZF (by omega) (by omega)
       repeat first|refine cg ?_|simp -dsimp[h1,z3,↓e4,h6,h8,q9,z10,h13,h17,q18,w19]
       refine zZ ((ih_f177 (i+1) o hF) _ rfl _ hq)
     ·cases hF
      repeat first|refine cg ?_|simp -dsimp[h1,z3,↓e4,h6,h8,q9,z10,h13,q14]
      refine lG _ (gR _) (hq _ ?_)
      repeat first|refine cg ?_|simp -dsimp[h1,z3,↓e4,h6,h8,q9,z10,h13,q14]
    ·have z10:(10<(x.edges.length:Int)):=auz
     cases hF
     repeat first|refine cg ?_|simp -dsimp[h1,z3,↓e4,h6,h8,q9,z10]
     refine lG _ (gR _) (hq _ ?_)
     repeat first|refine cg ?_|simp -dsimp[h1,z3,↓e4,h6,h8,q9,z10]
   ·cases hF
    repeat first|refine cg ?_|simp -dsimp[h1,z3,↓e4,h6,q7]
    refine lG _ (gR _) (hq _ ?_)
    repeat first|refine cg ?_|simp -dsimp[h1,z3,↓e4,h6,q7]
  ·have z3:¬((i:Int)<(list.length:Int)):=auz
   cases hF
   repeat first|refine cg ?_|simp -dsimp[h1,q2,z3]
   refine yA hq
theorem C.f178 (list:List zJ)(r:Bool)(hF:F.f178 list=some r):PureCall zQ B 8 [am zJ.c list] (.lit (.bool r)):=by
 unfold F.f178 at hF
 refine yB func8 rfl ntmps8 ?_
 repeat first|refine cg ?_|simp -dsimp
 have hF:=ob hF;obtain⟨o',ho20,hF⟩:=hF
 refine yD (((CC.f177 B hB1 hB2 list) 0 o' ho20) _ rfl _ ?_)
 rcases o' with r0|sx
 ·dsimp only at hF
  cases hF
  intro st h
  simpa using h
 ·dsimp only at hF
  repeat first|refine cg ?_|simp -dsimp
  have hF:=ob hF;obtain⟨v21,e22,hF⟩:=hF
  refine((C.f172 B hB1 hB2 (list.length:Int) 1 300 v21 e22)).goI ?_
  cases hF
  repeat first|refine cg ?_|simp -dsimp
theorem C.f179 (i:Int)(r:ByteArray)(hF:F.f179 i=some r):PureCall zQ B 17 [li i] (.lit (.string r)):=by
 unfold F.f179 at hF
 have hF:=oc hF;obtain⟨c1,hF⟩:=hF
 cases hF
 exact ZGx Tryz.laysM171 ⟨Tryz.f17,func17,by kernel_rfl,by kernel_rfl⟩ (by kernel_rfl) (by rfl) hB2.2 c1.1 c1.2
theorem CC.f180 (path:List Int):(∀(out:ByteArray) (i:Nat) (o:ByteArray),F.f180 path out i=some o->∀(c:Code),Zb [1,1,0,1,0,0] (ZK Tryz.f19)=some c->∀(Q:Exit->ASt->Prop),(Q (.exit 0) ⟨[(3,.lit (.string o))],[]⟩)->ALoopU zQ B 0 19 (hold c .mk) ⟨[(3,.lit (.string out)),(6,am cI path),(7,li (path.length:Int)),(8,li (i:Int))],[]⟩ (hold Q .mk)):=by
 refine F.f180.partial_correctness path
  _
  ?_
 ·intro _f_f180 ih_f180 out i o hF
  refine ZJ rfl fun Q hq hk hs=> ?_
  have b6:=hk 6
  simp -dsimp at b6
  clear hk hs
  refine eN ?_
  repeat first|refine cg ?_|simp -dsimp
  revert hF;refine aS ?_ ?_<;>intro h1 q2 hF
  ·have z3:((i:Int)<(path.length:Int)):=auz
   have hF:=ob hF;obtain⟨x,e4,hF⟩:=hF
   have le4:=ZD e4
   repeat first|refine cg ?_|simp -dsimp[h1,z3,↓e4]
   have hF:=ob hF;obtain⟨v,e5,hF⟩:=hF
   refine((C.f179 B hB1 hB2 x v e5)).goI ?_
   have hF:=oc hF;obtain⟨c6,hF⟩:=hF
   have hF:=oc hF;obtain⟨c7,hF⟩:=hF
   have dc7:=c7;simp only[zH]at dc7
   have w8:i64.wrap ((i:Int)+1)=(i:Int)+1:=ZF (by omega) (by omega)
   repeat first|refine cg ?_|simp -dsimp[w8]
   refine zZ ((ih_f180 (out++((⟨#[46]⟩:ByteArray)++v)) (i+1) o hF) _ rfl _ hq)
  ·have z3:¬((i:Int)<(path.length:Int)):=auz
   cases hF
   repeat first|refine cg ?_|simp -dsimp[h1,q2,z3]
   refine yA hq
theorem C.f181 (path:List Int)(r:ByteArray)(hF:F.f181 path=some r):PureCall zQ B 19 [am cI path] (.lit (.string r)):=by
 unfold F.f181 at hF
 refine yB func19 rfl ntmps19 ?_
 repeat first|refine cg ?_|simp -dsimp
 have hF:=ob hF;obtain⟨o',ho9,hF⟩:=hF
 refine yD (((CC.f180 B hB1 hB2 path) (⟨#[118]⟩:ByteArray) 0 o' ho9) _ rfl _ ?_)
 cases hF
 repeat first|refine cg ?_|simp -dsimp
theorem CC.f182 (list:List zJ)(out:List Int)(i:Nat)(x:zJ):(∀(i21:Nat) (s:ByteArray) (o:ByteArray),F.f182 list out i x i21 s=some o->∀(c:Code),Zb [1,1,1,0,1,0,0,1,1,0,0,1,1,1,0,1,0,0] (ZK Tryz.f7)=some c->∀(Q:Exit->ASt->Prop),(Q (.exit 3) ⟨[(3,.ptr 0 0),(5,.ptr 2 0),(6,.lit (.string o)),(12,am zJ.c list),(13,li (list.length:Int)),(14,li (i:Int))],[.tcells (some 44) [.junk,.own 1 (zA (α:=Int) out)],.telems (some 5) 1 (zB cU out),.cells [li x.op,li x.clause,am yF x.binds,am cI x.path,am zK.c x.edges,li x.els]]⟩)->ALoopU zQ B 0 85 (hold c .mk) ⟨[(3,.ptr 0 0),(5,.ptr 2 0),(6,.lit (.string s)),(12,am zJ.c list),(13,li (list.length:Int)),(14,li (i:Int)),(43,am zK.c x.edges),(44,li (x.edges.length:Int)),(45,li (i21:Int))],[.tcells (some 44) [.junk,.own 1 (zA (α:=Int) out)],.telems (some 5) 1 (zB cU out),.cells [li x.op,li x.clause,am yF x.binds,am cI x.path,am zK.c x.edges,li x.els]]⟩ (hold Q .mk)):=by
 refine F.f182.partial_correctness list out i x
  _
  ?_
 ·intro _f_f182 ih_f182 i21 s o hF
  refine ZJ rfl fun Q hq hk hs=> ?_
  have b12:=hk 12
  simp -dsimp at b12
  have b43:=hk 43
  simp -dsimp at b43
  have d1:=hs 1 _ rfl
  simp -dsimp[zO]at d1
  have d2:=hs 2 _ rfl
  simp -dsimp[zO]at d2
  clear hk hs
  refine eN ?_
  repeat first|refine cg ?_|simp -dsimp
  revert hF;refine aS ?_ ?_<;>intro h22 q23 hF
  ·have z24:((i21:Int)<(x.edges.length:Int)):=auz
   have hF:=ob hF;obtain⟨x25,e26,hF⟩:=hF
   have le26:=ZD e26
   repeat first|refine cg ?_|simp -dsimp[h22,z24,↓e26]
   refine zP follows ?_
   repeat first|refine cg ?_|simp -dsimp[↓e26]
   have hF:=ob hF;obtain⟨v27,e28,hF⟩:=hF
   refine((C.f179 B hB1 hB2 x25.ctor v27 e28)).pgoW (by simp[h22,z24,↓e26]) (by simp) ?_
   have hF:=oc hF;obtain⟨c29,hF⟩:=hF
   have hF:=oc hF;obtain⟨c30,hF⟩:=hF
   have dc30:=c30;simp only[zH]at dc30
   repeat first|refine cg ?_|simp -dsimp[↓e26]
   have hF:=ob hF;obtain⟨v31,e32,hF⟩:=hF
   refine((C.f179 B hB1 hB2 x25.n v31 e32)).pgoW (by simp[h22,z24,↓e26]) (by simp) ?_
   have hF:=oc hF;obtain⟨c33,hF⟩:=hF
   have dc33:=c33;simp only[zH]at dc33
   have hF:=oc hF;obtain⟨c34,hF⟩:=hF
   have dc34:=c34;simp only[zH]at dc34
   repeat first|refine cg ?_|simp -dsimp[↓e26]
   have hF:=ob hF;obtain⟨v35,e36,hF⟩:=hF
   refine((C.f179 B hB1 hB2 x25.m v35 e36)).pgoW (by simp[h22,z24,↓e26]) (by simp) ?_
   have hF:=oc hF;obtain⟨c37,hF⟩:=hF
   have dc37:=c37;simp only[zH]at dc37
   have hF:=oc hF;obtain⟨c38,hF⟩:=hF
   have dc38:=c38;simp only[zH]at dc38
   repeat first|refine cg ?_|simp -dsimp[↓e26]
   have hF:=ob hF;obtain⟨v39,e40,hF⟩:=hF
   refine((C.f179 B hB1 hB2 x25.to v39 e40)).pgoW (by simp[h22,z24,↓e26]) (by simp) ?_
   have hF:=oc hF;obtain⟨c41,hF⟩:=hF
   have dc41:=c41;simp only[zH]at dc41
   have hF:=oc hF;obtain⟨c42,hF⟩:=hF
   have dc42:=c42;simp only[zH]at dc42
   have w43:i64.wrap ((i21:Int)+1)=(i21:Int)+1:=ZF (by omega) (by omega)
   repeat first|refine cg ?_|simp -dsimp[↓e26,w43]
   refine zZ ((ih_f182 (i21+1) (s++((((((((⟨#[32]⟩:ByteArray)++v27)++(⟨#[58]⟩:ByteArray))++v31)++(⟨#[45]⟩:ByteArray))++v35)++(⟨#[62]⟩:ByteArray))++v39)) o hF) _ rfl _ hq)
  ·have z24:¬((i21:Int)<(x.edges.length:Int)):=auz
   cases hF
   repeat first|refine cg ?_|simp -dsimp[h22,q23,z24]
   refine yA hq
theorem CC.f183 (list:List zJ)(out:List Int)(i:Nat)(x:zJ):(∀(i63:Nat) (s64:ByteArray) (o:ByteArray),F.f183 list out i x i63 s64=some o->∀(c:Code),Zb [1,1,1,0,1,0,0,1,1,0,0,1,1,1,0,1,0,0] (ZK Tryz.f7)=some c->∀(Q:Exit->ASt->Prop),(Q (.exit 3) ⟨[(3,.ptr 0 0),(5,.ptr 2 0),(6,.lit (.string o)),(12,am zJ.c list),(13,li (list.length:Int)),(14,li (i:Int))],[.tcells (some 44) [.junk,.own 1 (zA (α:=Int) out)],.telems (some 5) 1 (zB cU out),.cells [li x.op,li x.clause,am yF x.binds,am cI x.path,am zK.c x.edges,li x.els]]⟩)->ALoopU zQ B 0 85 (hold c .mk) ⟨[(3,.ptr 0 0),(5,.ptr 2 0),(6,.lit (.string s64)),(12,am zJ.c list),(13,li (list.length:Int)),(14,li (i:Int)),(43,am zK.c x.edges),(44,li (x.edges.length:Int)),(45,li (i63:Int))],[.tcells (some 44) [.junk,.own 1 (zA (α:=Int) out)],.telems (some 5) 1 (zB cU out),.cells [li x.op,li x.clause,am yF x.binds,am cI x.path,am zK.c x.edges,li x.els]]⟩ (hold Q .mk)):=by
 refine F.f183.partial_correctness list out i x
  _
  ?_
 ·intro _f_f183 ih_f183 i63 s64 o hF
  refine ZJ rfl fun Q hq hk hs=> ?_
  have b12:=hk 12
  simp -dsimp at b12
  have b43:=hk 43
  simp -dsimp at b43
  have d1:=hs 1 _ rfl
  simp -dsimp[zO]at d1
  have d2:=hs 2 _ rfl
  simp -dsimp[zO]at d2
  clear hk hs
  refine eN ?_
  repeat first|refine cg ?_|simp -dsimp
  revert hF;refine aS ?_ ?_<;>intro h65 q66 hF
  ·have z67:((i63:Int)<(x.edges.length:Int)):=auz
   have hF:=ob hF;obtain⟨x68,e69,hF⟩:=hF
   have le69:=ZD e69
   repeat first|refine cg ?_|simp -dsimp[h65,z67,↓e69]
   refine zP follows ?_
   repeat first|refine cg ?_|simp -dsimp[↓e69]
   have hF:=ob hF;obtain⟨v70,e71,hF⟩:=hF
   refine((C.f179 B hB1 hB2 x68.ctor v70 e71)).pgoW (by simp[h65,z67,↓e69]) (by simp) ?_
   have hF:=oc hF;obtain⟨c72,hF⟩:=hF
   have hF:=oc hF;obtain⟨c73,hF⟩:=hF
   have dc73:=c73;simp only[zH]at dc73
   repeat first|refine cg ?_|simp -dsimp[↓e69]
   have hF:=ob hF;obtain⟨v74,e75,hF⟩:=hF
   refine((C.f179 B hB1 hB2 x68.n v74 e75)).pgoW (by simp[h65,z67,↓e69]) (by simp) ?_
   have hF:=oc hF;obtain⟨c76,hF⟩:=hF
   have dc76:=c76;simp only[zH]at dc76
   have hF:=oc hF;obtain⟨c77,hF⟩:=hF
   have dc77:=c77;simp only[zH]at dc77
   repeat first|refine cg ?_|simp -dsimp[↓e69]
   have hF:=ob hF;obtain⟨v78,e79,hF⟩:=hF
   refine((C.f179 B hB1 hB2 x68.m v78 e79)).pgoW (by simp[h65,z67,↓e69]) (by simp) ?_
   have hF:=oc hF;obtain⟨c80,hF⟩:=hF
   have dc80:=c80;simp only[zH]at dc80
   have hF:=oc hF;obtain⟨c81,hF⟩:=hF
   have dc81:=c81;simp only[zH]at dc81
   repeat first|refine cg ?_|simp -dsimp[↓e69]
   have hF:=ob hF;obtain⟨v82,e83,hF⟩:=hF
   refine((C.f179 B hB1 hB2 x68.to v82 e83)).pgoW (by simp[h65,z67,↓e69]) (by simp) ?_
   have hF:=oc hF;obtain⟨c84,hF⟩:=hF
   have dc84:=c84;simp only[zH]at dc84
   have hF:=oc hF;obtain⟨c85,hF⟩:=hF
   have dc85:=c85;simp only[zH]at dc85
   have w86:i64.wrap ((i63:Int)+1)=(i63:Int)+1:=ZF (by omega) (by omega)
   repeat first|refine cg ?_|simp -dsimp[↓e69,w86]
   refine zZ ((ih_f183 (i63+1) (s64++((((((((⟨#[32]⟩:ByteArray)++v70)++(⟨#[58]⟩:ByteArray))++v74)++(⟨#[45]⟩:ByteArray))++v78)++(⟨#[62]⟩:ByteArray))++v82)) o hF) _ rfl _ hq)
  ·have z67:¬((i63:Int)<(x.edges.length:Int)):=auz
   cases hF
   repeat first|refine cg ?_|simp -dsimp[h65,q66,z67]
   refine yA hq
theorem CC.f184 (list:List zJ):(∀(out:List Int) (i:Nat) (o:List Int),F.f184 list out i=some o->∀(c:Code),Zb [1,1,1,0,1,0,0] (ZK Tryz.f7)=some c->∀(Q:Exit->ASt->Prop),(Q (.exit 0) ⟨[(3,.ptr 0 0)],[.tcells (some 44) [.junk,.own 1 (zA (α:=Int) o)],.telems (some 5) 1 (zB cU o)]⟩)->ALoopU zQ B 0 85 (hold c .mk) ⟨[(3,.ptr 0 0),(12,am zJ.c list),(13,li (list.length:Int)),(14,li (i:Int))],[.tcells (some 44) [.junk,.own 1 (zA (α:=Int) out)],.telems (some 5) 1 (zB cU out)]⟩ (hold Q .mk)):=by
 refine F.f184.partial_correctness list
  _
  ?_
 ·intro _f_f184 ih_f184 out i o hF
  refine ZJ rfl fun Q hq hk hs=> ?_
  have b12:=hk 12
  simp -dsimp at b12
  have d1:=hs 1 _ rfl
  simp -dsimp[zO]at d1
  clear hk hs
  refine eN ?_
  repeat first|refine cg ?_|simp -dsimp
  revert hF;refine aS ?_ ?_<;>intro h4 q5 hF
  ·have z6:((i:Int)<(list.length:Int)):=auz
   have hF:=ob hF;obtain⟨x,e7,hF⟩:=hF
   have le7:=ZD e7
   repeat first|refine cg ?_|simp -dsimp[h4,z6,↓e7]
   have hF:=ob hF;obtain⟨v8,e9,hF⟩:=hF
   refine((C.f179 B hB1 hB2 (i:Int) v8 e9)).goI ?_
   repeat first|refine cg ?_|simp -dsimp[↓e7]
   revert hF;refine aS ?_ ?_<;>intro h10 q11 hF
   ·have hF:=oc hF;obtain⟨c12,hF⟩:=hF
    have hF:=oc hF;obtain⟨c13,hF⟩:=hF
    have dc13:=c13;simp only[zG,zH]at dc13
    repeat first|refine cg ?_|simp -dsimp[↓e7,h10]
    refine yR Tryz.bldW ⟨Tryz.f18,func18,by kernel_rfl,by kernel_rfl⟩ 0 1 (xs:=out) (by first|rfl|(simp;done)|(simp[h4,z6,↓e7,h10];done)) (by first|rfl|(simp;done)|(simp[h4,z6,↓e7,h10];done)) (by first|omega|simpa using c13|(simp;omega)) (by omega) ?_
    have w14:i64.wrap ((i:Int)+1)=(i:Int)+1:=ZF (by omega) (by omega)
    repeat first|refine cg ?_|simp -dsimp[↓e7,w14]
    refine aG _ ?_ ((ih_f184 (out++Zh (v8++(⟨#[32,102,97,105,108,10]⟩:ByteArray))) (i+1) o hF) _ rfl _ hq)
    exact(gT (by simp) (by simp -dsimp[h4,z6,↓e7,h10,w14]))
   ·repeat first|refine cg ?_|simp -dsimp[↓e7,q11]
    revert hF;refine aS ?_ ?_<;>intro h15 q16 hF
    ·repeat first|refine cg ?_|simp -dsimp[↓e7,h15]
     have hF:=ob hF;obtain⟨v17,e18,hF⟩:=hF
     refine((C.f179 B hB1 hB2 x.clause v17 e18)).goI ?_
     have hF:=oc hF;obtain⟨c19,hF⟩:=hF
     have hF:=oc hF;obtain⟨c20,hF⟩:=hF
     have dc20:=c20;simp only[zH]at dc20
     repeat first|refine cg ?_|simp -dsimp[↓e7]
     have hF:=ob hF;obtain⟨o',ho44,hF⟩:=hF
     refine yE _ ?_ (((CC.f182 B hB1 hB2 list out i x) 0 (v8++((⟨#[32,108,101,97,102,32]⟩:ByteArray)++v17)) o' ho44) _ rfl _ ?_)
     ·exact(gT (by simp) (by simp -dsimp[h4,z6,↓e7,h10,q11,h15]))
     repeat first|refine cg ?_|simp -dsimp
     revert hF;refine aS ?_ ?_<;>intro h45 q46 hF
     ·repeat first|refine cg ?_|simp -dsimp[h45]
      have hF:=ob hF;obtain⟨v47,e48,hF⟩:=hF
      refine((C.f179 B hB1 hB2 x.els v47 e48)).goI ?_
      have hF:=oc hF;obtain⟨c49,hF⟩:=hF
      have hF:=oc hF;obtain⟨c50,hF⟩:=hF
      have dc50:=c50;simp only[zH]at dc50
      have hF:=oc hF;obtain⟨c51,hF⟩:=hF
      have dc51:=c51;simp only[zH]at dc51
      have hF:=oc hF;obtain⟨c52,hF⟩:=hF
      have dc52:=c52;simp only[zG,zH]at dc52
      repeat first|refine cg ?_|simp -dsimp
      refine yR Tryz.bldW ⟨Tryz.f18,func18,by kernel_rfl,by kernel_rfl⟩ 0 1 (xs:=out) (by first|rfl|(simp;done)|(simp[h45];done)) (by first|rfl|(simp;done)|(simp[h45];done)) (by first|omega|simpa using c52|(simp;omega)) (by omega) ?_
      have hF:=oc hF;obtain⟨c53,hF⟩:=hF
      have w54:i64.wrap ((i:Int)+1)=(i:Int)+1:=ZF (by omega) (by omega)
      repeat first|refine cg ?_|simp -dsimp[w54]
      refine aG _ ?_ ((ih_f184 (out++Zh ((o'++((⟨#[32,101,108,115,101,32]⟩:ByteArray)++v47))++(⟨#[10]⟩:ByteArray))) (i+1) o hF) _ rfl _ hq)
      exact(gT (by simp) (by simp -dsimp[h45,w54]))
     ·have hF:=oc hF;obtain⟨c55,hF⟩:=hF
      have hF:=oc hF;obtain⟨c56,hF⟩:=hF
      have dc56:=c56;simp only[zG,zH]at dc56
      repeat first|refine cg ?_|simp -dsimp[q46]
      refine yR Tryz.bldW ⟨Tryz.f18,func18,by kernel_rfl,by kernel_rfl⟩ 0 1 (xs:=out) (by first|rfl|(simp;done)|(simp[h45,q46];done)) (by first|rfl|(simp;done)|(simp[h45,q46];done)) (by first|omega|simpa using c56|(simp;omega)) (by omega) ?_
      have hF:=oc hF;obtain⟨c57,hF⟩:=hF
      have w58:i64.wrap ((i:Int)+1)=(i:Int)+1:=ZF (by omega) (by omega)
      repeat first|refine cg ?_|simp -dsimp[w58]
      refine aG _ ?_ ((ih_f184 (out++Zh (o'++(⟨#[10]⟩:ByteArray))) (i+1) o hF) _ rfl _ hq)
      exact(gT (by simp) (by simp -dsimp[h45,q46,w58]))
    ·repeat first|refine cg ?_|simp -dsimp[↓e7,q16]
     have hF:=ob hF;obtain⟨v59,e60,hF⟩:=hF
     refine((C.f181 B hB1 hB2 x.path v59 e60)).goI ?_
     have hF:=oc hF;obtain⟨c61,hF⟩:=hF
     have hF:=oc hF;obtain⟨c62,hF⟩:=hF
     have dc62:=c62;simp only[zH]at dc62
     repeat first|refine cg ?_|simp -dsimp[↓e7]
     have hF:=ob hF;obtain⟨o'88,ho87,hF⟩:=hF
     refine yE _ ?_ (((CC.f183 B hB1 hB2 list out i x) 0 (v8++((⟨#[32,115,119,105,116,99,104,32]⟩:ByteArray)++v59)) o'88 ho87) _ rfl _ ?_)
     ·exact(gT (by simp) (by simp -dsimp[h4,z6,↓e7,h10,q11,h15,q16]))
     repeat first|refine cg ?_|simp -dsimp
     revert hF;refine aS ?_ ?_<;>intro h89 q90 hF
     ·repeat first|refine cg ?_|simp -dsimp[h89]
      have hF:=ob hF;obtain⟨v91,e92,hF⟩:=hF
      refine((C.f179 B hB1 hB2 x.els v91 e92)).goI ?_
      have hF:=oc hF;obtain⟨c93,hF⟩:=hF
      have hF:=oc hF;obtain⟨c94,hF⟩:=hF
      have dc94:=c94;simp only[zH]at dc94
      have hF:=oc hF;obtain⟨c95,hF⟩:=hF
      have dc95:=c95;simp only[zH]at dc95
      have hF:=oc hF;obtain⟨c96,hF⟩:=hF
      have dc96:=c96;simp only[zG,zH]at dc96
      repeat first|refine cg ?_|simp -dsimp
      refine yR Tryz.bldW ⟨Tryz.f18,func18,by kernel_rfl,by kernel_rfl⟩ 0 1 (xs:=out) (by first|rfl|(simp;done)|(simp[h89];done)) (by first|rfl|(simp;done)|(simp[h89];done)) (by first|omega|simpa using c96|(simp;omega)) (by omega) ?_
      have hF:=oc hF;obtain⟨c97,hF⟩:=hF
      have w98:i64.wrap ((i:Int)+1)=(i:Int)+1:=ZF (by omega) (by omega)
      repeat first|refine cg ?_|simp -dsimp[w98]
      refine aG _ ?_ ((ih_f184 (out++Zh ((o'88++((⟨#[32,101,108,115,101,32]⟩:ByteArray)++v91))++(⟨#[10]⟩:ByteArray))) (i+1) o hF) _ rfl _ hq)
      exact(gT (by simp) (by simp -dsimp[h89,w98]))
     ·have hF:=oc hF;obtain⟨c99,hF⟩:=hF
      have hF:=oc hF;obtain⟨c100,hF⟩:=hF
      have dc100:=c100;simp only[zG,zH]at dc100
      repeat first|refine cg ?_|simp -dsimp[q90]
      refine yR Tryz.bldW ⟨Tryz.f18,func18,by kernel_rfl,by kernel_rfl⟩ 0 1 (xs:=out) (by first|rfl|(simp;done)|(simp[h89,q90];done)) (by first|rfl|(simp;done)|(simp[h89,q90];done)) (by first|omega|simpa using c100|(simp;omega)) (by omega) ?_
      have hF:=oc hF;obtain⟨c101,hF⟩:=hF
      have w102:i64.wrap ((i:Int)+1)=(i:Int)+1:=ZF (by omega) (by omega)
      repeat first|refine cg ?_|simp -dsimp[w102]
      refine aG _ ?_ ((ih_f184 (out++Zh (o'88++(⟨#[10]⟩:ByteArray))) (i+1) o hF) _ rfl _ hq)
      exact(gT (by simp) (by simp -dsimp[h89,q90,w102]))
  ·have z6:¬((i:Int)<(list.length:Int)):=auz
   cases hF
   repeat first|refine cg ?_|simp -dsimp[h4,q5,z6]
   refine yA hq
theorem C.f185 (list:List zJ)(r:ByteArray)(hF:F.f185 list=some r):PureCall zQ B 7 [am zJ.c list] (.lit (.string r)):=by
 unfold F.f185 at hF
 refine yB func7 rfl ntmps7 ?_
 repeat first|refine cg ?_|simp -dsimp
 have hF:=ob hF;obtain⟨v,e1,hF⟩:=hF
 refine((C.f178 B hB1 hB2 list v e1)).goI ?_
 repeat first|refine cg ?_|simp -dsimp
 revert hF;refine aN (fun h2 q3 hF=> ?_) (fun h2 q3 hF=> ?_)
 ·cases hF
  repeat first|refine cg ?_|simp -dsimp[h2,q3]
 ·repeat first|refine cg ?_|simp -dsimp
  have hF:=ob hF;obtain⟨o'104,ho103,hF⟩:=hF
  refine yE ⟨[(3,.ptr 0 0),(12,.arr (zB zJ.c list)),(13,.lit (.int .i64 (list.length:Int))),(14,.lit (.int .i64 0))],[.tcells (some 44) [.junk,.own 1 (zA (α:=Int) [])],.telems (some 5) 1 (zB cU [])]⟩ (by refine yK (Gh.nilCellT 44 5 0 1 1 (by simp -dsimp;rfl) (by simp -dsimp)) ?_;exact(gT (by simp) (by simp_all))) ?_
  refine((CC.f184 B hB1 hB2 list) [] 0 o'104 ho103) _ rfl _ ?_
  have hF:=oc hF;obtain⟨c105,hF⟩:=hF
  repeat first|refine cg ?_|simp -dsimp
  refine ACall.bldS Tryz.lays169 Tryz.Builder_Extra_169 (f:=20) (T:=44) (E:=5) (by rfl) (by rfl) (by rfl) ⟨Tryz.f20,func20,by kernel_rfl,by kernel_rfl⟩ 0 1 (xs:=o'104) (by first|rfl|simp) (by first|rfl|simp) c105.1 c105.2 ?_
  cases hF
  repeat first|refine cg ?_|simp -dsimp
theorem CC.f186 (list:List zJ)(i:Nat)(x:zJ):(∀(k:Nat) (o:Lo Bool Unit),F.f186 list i x k=some o->∀(c:Code),Zb [1,1,0,1,0,0,1,0,0,1,1,1,0,0] (ZK Tryz.f10)=some c->∀(Q:Exit->ASt->Prop),o.post (fun r=>∀st,ZA2 zQ Tryz.f10 (fun r' _=>r'.le (.lit (.bool r))) .ret st->Q .ret st) (fun s=>Q (.exit 2) ⟨[(0,am zJ.c list),(3,li (i:Int))],[]⟩)->ALoopU zQ B 0 74 (hold c .mk) ⟨[(0,am zJ.c list),(3,li (i:Int)),(4,.ptr 0 0),(5,li (k:Int))],[.cells [li x.op,li x.clause,am yF x.binds,am cI x.path,am zK.c x.edges,li x.els]]⟩ (hold Q .mk)):=by
 refine F.f186.partial_correctness list i x
  _
  ?_
 ·intro _f_f186 ih_f186 k o hF
  refine ZJ rfl fun Q hq hk hs=> ?_
  have b0:=hk 0
  simp -dsimp at b0
  have d0:=hs 0 _ rfl
  simp -dsimp[zO]at d0
  clear hk hs
  refine eN ?_
  repeat first|refine cg ?_|simp -dsimp
  revert hF;refine aS ?_ ?_<;>intro h23 q24 hF
  ·have z25:((k:Int)<(x.edges.length:Int)):=auz
   have hF:=ob hF;obtain⟨x26,e27,hF⟩:=hF
   have le27:=ZD e27
   repeat first|refine cg ?_|simp -dsimp[h23,z25,↓e27]
   revert hF;refine aN ?_ ?_<;>intro h28 q29 hF
   ·repeat first|refine cg ?_|simp -dsimp[h23,z25,↓e27,h28,q29]
    revert hF;refine aS ?_ ?_<;>intro h30 q31 hF
    ·cases hF
     repeat first|refine cg ?_|simp -dsimp[h23,z25,↓e27,h28,q29,h30]
     refine lG _ (gR _) (hq _ ?_)
     repeat first|refine cg ?_|simp -dsimp[h23,z25,↓e27,h28,q29,h30]
    ·have w32:i64.wrap ((k:Int)+1)=(k:Int)+1:=ZF (by omega) (by omega)
     repeat first|refine cg ?_|simp -dsimp[h23,z25,↓e27,h28,q29,h30,q31,w32]
     refine zZ ((ih_f186 (k+1) o hF) _ rfl _ hq)
   ·cases hF
    repeat first|refine cg ?_|simp -dsimp[h23,z25,↓e27,h28,q29]
    refine lG _ (gR _) (hq _ ?_)
    repeat first|refine cg ?_|simp -dsimp[h23,z25,↓e27,h28,q29]
  ·have z25:¬((k:Int)<(x.edges.length:Int)):=auz
   cases hF
   repeat first|refine cg ?_|simp -dsimp[h23,q24,z25]
   refine yA hq
theorem CC.f187 (list:List zJ):(∀(i:Nat) (o:Lo Bool Unit),F.f187 list i=some o->∀(c:Code),Zb [1,1,0,1,0,0] (ZK Tryz.f10)=some c->∀(Q:Exit->ASt->Prop),o.post (fun r=>∀st,ZA2 zQ Tryz.f10 (fun r' _=>r'.le (.lit (.bool r))) .ret st->Q .ret st) (fun s=>Q (.exit 0) ⟨[],[]⟩)->ALoopU zQ B 0 74 (hold c .mk) ⟨[(0,am zJ.c list),(3,li (i:Int))],[]⟩ (hold Q .mk)):=by
 refine F.f187.partial_correctness list
  _
  ?_
 ·intro _f_f187 ih_f187 i o hF
  refine ZJ rfl fun Q hq hk hs=> ?_
  have b0:=hk 0
  simp -dsimp at b0
  clear hk hs
  refine eN ?_
  repeat first|refine cg ?_|simp -dsimp
  revert hF;refine aS ?_ ?_<;>intro h7 q8 hF
  ·have z9:((i:Int)<(list.length:Int)):=auz
   have hF:=ob hF;obtain⟨x,e10,hF⟩:=hF
   have le10:=ZD e10
   repeat first|refine cg ?_|simp -dsimp[h7,z9,↓e10]
   refine zP follows ?_
   repeat first|refine cg ?_|simp -dsimp[h7,z9,↓e10]
   revert hF;refine aN ?_ ?_<;>intro h11 q12 hF
   ·repeat first|refine cg ?_|simp -dsimp[h7,z9,↓e10,h11,q12]
    revert hF;refine aN ?_ ?_<;>intro h13 q14 hF
    ·repeat first|refine cg ?_|simp -dsimp[h7,z9,↓e10,h11,q12,h13,q14]
     have hF:=ob hF;obtain⟨v,e15,hF⟩:=hF
     refine((C.f158 B hB1 hB2 v e15)).pgoW (by simp[h7,z9,↓e10,h11,q12,h13,q14]) (by simp) ?_
     repeat first|refine cg ?_|simp -dsimp[h7,z9,↓e10,h11,q12,h13,q14]
     revert hF;refine aN ?_ ?_<;>intro h16 q17 hF
     ·repeat first|refine cg ?_|simp -dsimp[h7,z9,↓e10,h11,q12,h13,q14,h16,q17]
      revert hF;refine aN ?_ ?_<;>intro h18 q19 hF
      ·repeat first|refine cg ?_|simp -dsimp[h7,z9,↓e10,h11,q12,h13,q14,h16,q17,h18,q19]
       revert hF;refine aS ?_ ?_<;>intro h20 q21 hF
       ·have z22:(10<(x.edges.length:Int)):=auz
        cases hF
        repeat first|refine cg ?_|simp -dsimp[h7,z9,↓e10,h11,q12,h13,q14,h16,q17,h18,q19,h20,z22]
        refine lG _ (gR _) (hq _ ?_)
        repeat first|refine cg ?_|simp -dsimp[h7,z9,↓e10,h11,q12,h13,q14,h16,q17,h18,q19,h20,z22]
       ·have z22:¬(10<(x.edges.length:Int)):=auz
        repeat first|refine cg ?_|simp -dsimp[h7,z9,↓e10,h11,q12,h13,q14,h16,q17,h18,q19,h20,q21,z22]
        have hF:=ob hF;obtain⟨o',ho33,hF⟩:=hF
        refine yD (((CC.f186 B hB1 hB2 list i x) 0 o' ho33) _ rfl _ ?_)
        rcases o' with r0|sx
        ·dsimp only at hF
         cases hF
         intro st h
         simp -dsimp
         refine lG st (gR _) (hq st h)
        ·dsimp only at hF
         have hF:=oc hF;obtain⟨c34,hF⟩:=hF
         have w35:i64.wrap ((i:Int)+1)=(i:Int)+1:=ZF (by omega) (by omega)
         repeat first|refine cg ?_|simp -dsimp[w35]
         refine zZ ((ih_f187 (i+1) o hF) _ rfl _ hq)
      ·cases hF
       repeat first|refine cg ?_|simp -dsimp[h7,z9,↓e10,h11,q12,h13,q14,h16,q17,h18,q19]
       refine lG _ (gR _) (hq _ ?_)
       repeat first|refine cg ?_|simp -dsimp[h7,z9,↓e10,h11,q12,h13,q14,h16,q17,h18,q19]
     ·cases hF
      repeat first|refine cg ?_|simp -dsimp[h7,z9,↓e10,h11,q12,h13,q14,h16,q17]
      refine lG _ (gR _) (hq _ ?_)
      repeat first|refine cg ?_|simp -dsimp[h7,z9,↓e10,h11,q12,h13,q14,h16,q17]
    ·cases hF
     repeat first|refine cg ?_|simp -dsimp[h7,z9,↓e10,h11,q12,h13,q14]
     refine lG _ (gR _) (hq _ ?_)
     repeat first|refine cg ?_|simp -dsimp[h7,z9,↓e10,h11,q12,h13,q14]
   ·cases hF
    repeat first|refine cg ?_|simp -dsimp[h7,z9,↓e10,h11,q12]
    refine lG _ (gR _) (hq _ ?_)
    repeat first|refine cg ?_|simp -dsimp[h7,z9,↓e10,h11,q12]
  ·have z9:¬((i:Int)<(list.length:Int)):=auz
   cases hF
   repeat first|refine cg ?_|simp -dsimp[h7,q8,z9]
   refine yA hq
theorem C.f188 (list:List zJ)(r:Bool)(hF:F.f188 list=some r):PureCall zQ B 10 [am zJ.c list] (.lit (.bool r)):=by
 unfold F.f188 at hF
 refine yB func10 rfl ntmps10 ?_
 repeat first|refine cg ?_|simp -dsimp
 revert hF;refine aN ?_ ?_<;>intro h1 q2 hF
 ·have z3:¬((list.length:Int)=0):=auz
  repeat first|refine cg ?_|simp -dsimp[h1,q2,z3]
  revert hF;refine aS ?_ ?_<;>intro h4 q5 hF
  ·have z6:(300<(list.length:Int)):=auz
   cases hF
   repeat first|refine cg ?_|simp -dsimp[h1,q2,z3,h4,z6]
  ·have z6:¬(300<(list.length:Int)):=auz
   repeat first|refine cg ?_|simp -dsimp[h1,q2,z3,h4,q5,z6]
   have hF:=ob hF;obtain⟨o'37,ho36,hF⟩:=hF
   refine yD (((CC.f187 B hB1 hB2 list) 0 o'37 ho36) _ rfl _ ?_)
   rcases o'37 with r039|sx38
   ·dsimp only at hF
    cases hF
    intro st h
    simpa using h
   ·dsimp only at hF
    cases hF
    repeat first|refine cg ?_|simp -dsimp
 ·have z3:((list.length:Int)=0):=auz
  cases hF
  repeat first|refine cg ?_|simp -dsimp[h1,q2,z3]
theorem C.f189 (n:Int)(r:ByteArray)(hF:F.f189 n=some r):PureCall zQ B 46 [li n] (.lit (.string r)):=by
 unfold F.f189 at hF
 refine yB func46 rfl ntmps46 ?_
 repeat first|refine cg ?_|simp -dsimp
 revert hF;refine aS ?_ ?_<;>intro h1 q2 hF
 ·repeat first|refine cg ?_|simp -dsimp[h1]
  revert hF;refine aS ?_ ?_<;>intro h3 q4 hF
  ·repeat first|refine cg ?_|simp -dsimp[h3]
   have hF:=ob hF;obtain⟨v,e5,hF⟩:=hF
   refine(((yT B hB1 hB2) (i64.wrap (0-n)) v e5)).goI ?_
   have hF:=oc hF;obtain⟨c6,hF⟩:=hF
   cases hF
   repeat first|refine cg ?_|simp -dsimp
  ·repeat first|refine cg ?_|simp -dsimp[q4]
   have hF:=ob hF;obtain⟨v7,e8,hF⟩:=hF
   refine(((yT B hB1 hB2) n v7 e8)).goI ?_
   cases hF
   repeat first|refine cg ?_|simp -dsimp
 ·repeat first|refine cg ?_|simp -dsimp[q2]
  have hF:=ob hF;obtain⟨v9,e10,hF⟩:=hF
  refine(((yT B hB1 hB2) n v9 e10)).goI ?_
  cases hF
  repeat first|refine cg ?_|simp -dsimp
theorem CC.f190 (path:List Int):(∀(out:ByteArray) (i:Nat) (o:ByteArray),F.f190 path out i=some o->∀(c:Code),Zb [1,1,0,1,0,0] (ZK Tryz.f47)=some c->∀(Q:Exit->ASt->Prop),(Q (.exit 0) ⟨[(3,.lit (.string o))],[]⟩)->ALoopU zQ B 0 20 (hold c .mk) ⟨[(0,am cI path),(3,.lit (.string out)),(4,li (i:Int))],[]⟩ (hold Q .mk)):=by
 refine F.f190.partial_correctness path
  _
  ?_
 ·intro _f_f190 ih_f190 out i o hF
  refine ZJ rfl fun Q hq hk hs=> ?_
  have b0:=hk 0
  simp -dsimp at b0
  clear hk hs
  refine eN ?_
  repeat first|refine cg ?_|simp -dsimp
  revert hF;refine aS ?_ ?_<;>intro h1 q2 hF
  ·have z3:((i:Int)<(path.length:Int)):=auz
   have hF:=oc hF;obtain⟨c4,hF⟩:=hF
   have hF:=ob hF;obtain⟨x,e5,hF⟩:=hF
   have le5:=ZD e5
   repeat first|refine cg ?_|simp -dsimp[h1,z3,↓e5]
   have hF:=ob hF;obtain⟨v,e6,hF⟩:=hF
   refine(((yT B hB1 hB2) x v e6)).goI ?_
   have hF:=oc hF;obtain⟨c7,hF⟩:=hF
   have dc7:=c7;simp only[zH]at dc7
   have w8:i64.wrap ((i:Int)+1)=(i:Int)+1:=ZF (by omega) (by omega)
   repeat first|refine cg ?_|simp -dsimp[w8]
   refine zZ ((ih_f190 ((out++(⟨#[46]⟩:ByteArray))++v) (i+1) o hF) _ rfl _ hq)
  ·have z3:¬((i:Int)<(path.length:Int)):=auz
   cases hF
   repeat first|refine cg ?_|simp -dsimp[h1,q2,z3]
   refine yA hq
theorem C.f191 (path:List Int)(r:ByteArray)(hF:F.f191 path=some r):PureCall zQ B 47 [am cI path] (.lit (.string r)):=by
 unfold F.f191 at hF
 refine yB func47 rfl ntmps47 ?_
 repeat first|refine cg ?_|simp -dsimp
 have hF:=ob hF;obtain⟨o',ho9,hF⟩:=hF
 refine yD (((CC.f190 B hB1 hB2 path) (⟨#[118]⟩:ByteArray) 0 o' ho9) _ rfl _ ?_)
 cases hF
 repeat first|refine cg ?_|simp -dsimp
theorem CC.f192 (x:zJ):(∀(out:ByteArray) (i:Nat) (o:ByteArray),F.f192 x out i=some o->∀(c:Code),Zb [1,1,1,1,0,1,0,0] (ZK Tryz.f25)=some c->∀(Q:Exit->ASt->Prop),(Q (.exit 0) ⟨[(1,.ptr 0 0),(3,.lit (.string o))],[.cells [li x.op,li x.clause,am yF x.binds,am cI x.path,am zK.c x.edges,li x.els]]⟩)->ALoopU zQ B 0 63 (hold c .mk) ⟨[(1,.ptr 0 0),(3,.lit (.string out)),(4,li (i:Int))],[.cells [li x.op,li x.clause,am yF x.binds,am cI x.path,am zK.c x.edges,li x.els]]⟩ (hold Q .mk)):=by
 refine F.f192.partial_correctness x
  _
  ?_
 ·intro _f_f192 ih_f192 out i o hF
  refine ZJ rfl fun Q hq hk hs=> ?_
  have d0:=hs 0 _ rfl
  simp -dsimp[zO]at d0
  clear hk hs
  refine eN ?_
  repeat first|refine cg ?_|simp -dsimp
  revert hF;refine aS ?_ ?_<;>intro h10 q11 hF
  ·have z12:((i:Int)<(x.edges.length:Int)):=auz
   have hF:=ob hF;obtain⟨x13,e14,hF⟩:=hF
   have le14:=ZD e14
   repeat first|refine cg ?_|simp -dsimp[h10,z12,↓e14]
   refine zP follows ?_
   have hF:=oc hF;obtain⟨c15,hF⟩:=hF
   repeat first|refine cg ?_|simp -dsimp
   have hF:=ob hF;obtain⟨v16,e17,hF⟩:=hF
   refine((C.f189 B hB1 hB2 x13.ctor v16 e17)).pgoW (by simp_all) (by simp) ?_
   have hF:=oc hF;obtain⟨c18,hF⟩:=hF
   have dc18:=c18;simp only[zH]at dc18
   have hF:=oc hF;obtain⟨c19,hF⟩:=hF
   have dc19:=c19;simp only[zH]at dc19
   repeat first|refine cg ?_|simp -dsimp
   have hF:=ob hF;obtain⟨v20,e21,hF⟩:=hF
   refine((C.f189 B hB1 hB2 x13.n v20 e21)).pgoW (by simp_all) (by simp) ?_
   have hF:=oc hF;obtain⟨c22,hF⟩:=hF
   have dc22:=c22;simp only[zH]at dc22
   have hF:=oc hF;obtain⟨c23,hF⟩:=hF
   have dc23:=c23;simp only[zH]at dc23
   repeat first|refine cg ?_|simp -dsimp
   have hF:=ob hF;obtain⟨v24,e25,hF⟩:=hF
   refine((C.f189 B hB1 hB2 x13.m v24 e25)).pgoW (by simp_all) (by simp) ?_
   have hF:=oc hF;obtain⟨c26,hF⟩:=hF
   have dc26:=c26;simp only[zH]at dc26
   have hF:=oc hF;obtain⟨c27,hF⟩:=hF
   have dc27:=c27;simp only[zH]at dc27
   repeat first|refine cg ?_|simp -dsimp
   have hF:=ob hF;obtain⟨v28,e29,hF⟩:=hF
   refine(((yT B hB1 hB2) x13.to v28 e29)).pgoW (by simp_all) (by simp) ?_
   have hF:=oc hF;obtain⟨c30,hF⟩:=hF
   have dc30:=c30;simp only[zH]at dc30
   have w31:i64.wrap ((i:Int)+1)=(i:Int)+1:=ZF (by omega) (by omega)
   repeat first|refine cg ?_|simp -dsimp[w31]
   refine zZ ((ih_f192 ((((((((out++(⟨#[32]⟩:ByteArray))++v16)++(⟨#[58]⟩:ByteArray))++v20)++(⟨#[45]⟩:ByteArray))++v24)++(⟨#[62]⟩:ByteArray))++v28) (i+1) o hF) _ rfl _ hq)
  ·have z12:¬((i:Int)<(x.edges.length:Int)):=auz
   cases hF
   repeat first|refine cg ?_|simp -dsimp[h10,q11,z12]
   refine yA hq
theorem CC.f193 (x:zJ):(∀(out39:ByteArray) (i40:Nat) (o:ByteArray),F.f193 x out39 i40=some o->∀(c:Code),Zb [1,1,1,1,0,1,0,0] (ZK Tryz.f25)=some c->∀(Q:Exit->ASt->Prop),(Q (.exit 0) ⟨[(1,.ptr 0 0),(3,.lit (.string o))],[.cells [li x.op,li x.clause,am yF x.binds,am cI x.path,am zK.c x.edges,li x.els]]⟩)->ALoopU zQ B 0 63 (hold c .mk) ⟨[(1,.ptr 0 0),(3,.lit (.string out39)),(4,li (i40:Int))],[.cells [li x.op,li x.clause,am yF x.binds,am cI x.path,am zK.c x.edges,li x.els]]⟩ (hold Q .mk)):=by
 refine F.f193.partial_correctness x
  _
  ?_
 ·intro _f_f193 ih_f193 out39 i40 o hF
  refine ZJ rfl fun Q hq hk hs=> ?_
  have d0:=hs 0 _ rfl
  simp -dsimp[zO]at d0
  clear hk hs
  refine eN ?_
  repeat first|refine cg ?_|simp -dsimp
  revert hF;refine aS ?_ ?_<;>intro h41 q42 hF
  ·have z43:((i40:Int)<(x.edges.length:Int)):=auz
   have hF:=ob hF;obtain⟨x44,e45,hF⟩:=hF
   have le45:=ZD e45
   repeat first|refine cg ?_|simp -dsimp[h41,z43,↓e45]
   refine zP follows ?_
   have hF:=oc hF;obtain⟨c46,hF⟩:=hF
   repeat first|refine cg ?_|simp -dsimp
   have hF:=ob hF;obtain⟨v47,e48,hF⟩:=hF
   refine((C.f189 B hB1 hB2 x44.ctor v47 e48)).pgoW (by simp_all) (by simp) ?_
   have hF:=oc hF;obtain⟨c49,hF⟩:=hF
   have dc49:=c49;simp only[zH]at dc49
   have hF:=oc hF;obtain⟨c50,hF⟩:=hF
   have dc50:=c50;simp only[zH]at dc50
   repeat first|refine cg ?_|simp -dsimp
   have hF:=ob hF;obtain⟨v51,e52,hF⟩:=hF
   refine((C.f189 B hB1 hB2 x44.n v51 e52)).pgoW (by simp_all) (by simp) ?_
   have hF:=oc hF;obtain⟨c53,hF⟩:=hF
   have dc53:=c53;simp only[zH]at dc53
   have hF:=oc hF;obtain⟨c54,hF⟩:=hF
   have dc54:=c54;simp only[zH]at dc54
   repeat first|refine cg ?_|simp -dsimp
   have hF:=ob hF;obtain⟨v55,e56,hF⟩:=hF
   refine((C.f189 B hB1 hB2 x44.m v55 e56)).pgoW (by simp_all) (by simp) ?_
   have hF:=oc hF;obtain⟨c57,hF⟩:=hF
   have dc57:=c57;simp only[zH]at dc57
   have hF:=oc hF;obtain⟨c58,hF⟩:=hF
   have dc58:=c58;simp only[zH]at dc58
   repeat first|refine cg ?_|simp -dsimp
   have hF:=ob hF;obtain⟨v59,e60,hF⟩:=hF
   refine(((yT B hB1 hB2) x44.to v59 e60)).pgoW (by simp_all) (by simp) ?_
   have hF:=oc hF;obtain⟨c61,hF⟩:=hF
   have dc61:=c61;simp only[zH]at dc61
   have w62:i64.wrap ((i40:Int)+1)=(i40:Int)+1:=ZF (by omega) (by omega)
   repeat first|refine cg ?_|simp -dsimp[w62]
   refine zZ ((ih_f193 ((((((((out39++(⟨#[32]⟩:ByteArray))++v47)++(⟨#[58]⟩:ByteArray))++v51)++(⟨#[45]⟩:ByteArray))++v55)++(⟨#[62]⟩:ByteArray))++v59) (i40+1) o hF) _ rfl _ hq)
  ·have z43:¬((i40:Int)<(x.edges.length:Int)):=auz
   cases hF
   repeat first|refine cg ?_|simp -dsimp[h41,q42,z43]
   refine yA hq
theorem C.f194 (x:zJ)(r:ByteArray)(hF:F.f194 x=some r):PureCall zQ B 25 [.agg [li x.op,li x.clause,am yF x.binds,am cI x.path,am zK.c x.edges,li x.els]] (.lit (.string r)):=by
 unfold F.f194 at hF
 refine yB func25 rfl ntmps25 ?_
 repeat first|refine cg ?_|simp -dsimp
 revert hF;refine aS ?_ ?_<;>intro h1 q2 hF
 ·cases hF
  repeat first|refine cg ?_|simp -dsimp[h1]
 ·repeat first|refine cg ?_|simp -dsimp[q2]
  have hF:=ob hF;obtain⟨v,e3,hF⟩:=hF
  refine((C.f189 B hB1 hB2 x.clause v e3)).goI ?_
  have hF:=oc hF;obtain⟨c4,hF⟩:=hF
  repeat first|refine cg ?_|simp -dsimp
  revert hF;refine aS ?_ ?_<;>intro h5 q6 hF
  ·repeat first|refine cg ?_|simp -dsimp[h5]
   have hF:=ob hF;obtain⟨v7,e8,hF⟩:=hF
   refine((C.f191 B hB1 hB2 x.path v7 e8)).goI ?_
   have hF:=oc hF;obtain⟨c9,hF⟩:=hF
   repeat first|refine cg ?_|simp -dsimp
   have hF:=ob hF;obtain⟨o',ho32,hF⟩:=hF
   refine yD (((CC.f192 B hB1 hB2 x) ((⟨#[115,119,105,116,99,104,32]⟩:ByteArray)++v7) 0 o' ho32) _ rfl _ ?_)
   repeat first|refine cg ?_|simp -dsimp
   revert hF;refine aS ?_ ?_<;>intro h33 q34 hF
   ·have hF:=oc hF;obtain⟨c35,hF⟩:=hF
    repeat first|refine cg ?_|simp -dsimp[h33]
    have hF:=ob hF;obtain⟨v36,e37,hF⟩:=hF
    refine(((yT B hB1 hB2) x.els v36 e37)).goI ?_
    have hF:=oc hF;obtain⟨c38,hF⟩:=hF
    have dc38:=c38;simp only[zH]at dc38
    cases hF
    repeat first|refine cg ?_|simp -dsimp
   ·cases hF
    repeat first|refine cg ?_|simp -dsimp[q34]
  ·repeat first|refine cg ?_|simp -dsimp[q6]
   have hF:=ob hF;obtain⟨o'64,ho63,hF⟩:=hF
   refine yD (((CC.f193 B hB1 hB2 x) ((⟨#[108,101,97,102,32]⟩:ByteArray)++v) 0 o'64 ho63) _ rfl _ ?_)
   repeat first|refine cg ?_|simp -dsimp
   revert hF;refine aS ?_ ?_<;>intro h65 q66 hF
   ·have hF:=oc hF;obtain⟨c67,hF⟩:=hF
    repeat first|refine cg ?_|simp -dsimp[h65]
    have hF:=ob hF;obtain⟨v68,e69,hF⟩:=hF
    refine(((yT B hB1 hB2) x.els v68 e69)).goI ?_
    have hF:=oc hF;obtain⟨c70,hF⟩:=hF
    have dc70:=c70;simp only[zH]at dc70
    cases hF
    repeat first|refine cg ?_|simp -dsimp
   ·cases hF
    repeat first|refine cg ?_|simp -dsimp[q66]
theorem CC.f195 (list:List zJ):(∀(out:ByteArray) (i:Nat) (o:ByteArray),F.f195 list out i=some o->∀(c:Code),Zb [1,1,0,1,0,0] (ZK Tryz.f9)=some c->∀(Q:Exit->ASt->Prop),(Q (.exit 0) ⟨[(3,.lit (.string o))],[]⟩)->ALoopU zQ B 0 28 (hold c .mk) ⟨[(0,am zJ.c list),(3,.lit (.string out)),(4,li (i:Int))],[]⟩ (hold Q .mk)):=by
 refine F.f195.partial_correctness list
  _
  ?_
 ·intro _f_f195 ih_f195 out i o hF
  refine ZJ rfl fun Q hq hk hs=> ?_
  have b0:=hk 0
  simp -dsimp at b0
  clear hk hs
  refine eN ?_
  repeat first|refine cg ?_|simp -dsimp
  revert hF;refine aS ?_ ?_<;>intro h1 q2 hF
  ·have z3:((i:Int)<(list.length:Int)):=auz
   repeat first|refine cg ?_|simp -dsimp[h1,z3]
   have hF:=ob hF;obtain⟨v,e4,hF⟩:=hF
   refine((C.f188 B hB1 hB2 list v e4)).goI ?_
   repeat first|refine cg ?_|simp -dsimp[h1,z3]
   revert hF;refine aS (fun h5 q6 hF=> ?_) (fun h5 q6 hF=> ?_)
   ·repeat first|refine cg ?_|simp -dsimp[h1,z3,h5]
    refine zP follows ?_
    repeat first|refine cg ?_|simp -dsimp[h1,z3,h5]
    have hF:=ob hF;obtain⟨v7,e8,hF⟩:=hF
    refine(((yT B hB1 hB2) (i:Int) v7 e8)).pgoW (by simp[h1,z3,h5]) (by simp) ?_
    have hF:=oc hF;obtain⟨c9,hF⟩:=hF
    have hF:=oc hF;obtain⟨c10,hF⟩:=hF
    have dc10:=c10;simp only[zH]at dc10
    have hF:=ob hF;obtain⟨x,e11,hF⟩:=hF
    have le11:=ZD e11
    repeat first|refine cg ?_|simp -dsimp[h1,z3,h5,↓e11]
    have hF:=ob hF;obtain⟨v12,e13,hF⟩:=hF
    refine((C.f194 B hB1 hB2 x v12 e13)).pgoW (by simp[h1,z3,h5,↓e11]) (by simp) ?_
    have hF:=oc hF;obtain⟨c14,hF⟩:=hF
    have dc14:=c14;simp only[zH]at dc14
    have hF:=oc hF;obtain⟨c15,hF⟩:=hF
    have dc15:=c15;simp only[zH]at dc15
    have w16:i64.wrap ((i:Int)+1)=(i:Int)+1:=ZF (by omega) (by omega)
    repeat first|refine cg ?_|simp -dsimp[h1,z3,h5,↓e11,w16]
    refine zZ ((ih_f195 ((((out++v7)++(⟨#[32]⟩:ByteArray))++v12)++(⟨#[10]⟩:ByteArray)) (i+1) o hF) _ rfl _ hq)
   ·cases hF
    repeat first|refine cg ?_|simp -dsimp[h1,z3,h5,q6]
    refine yA hq
  ·have z3:¬((i:Int)<(list.length:Int)):=auz
   cases hF
   repeat first|refine cg ?_|simp -dsimp[h1,q2,z3]
   refine yA hq
theorem C.f196 (list:List zJ)(r:ByteArray)(hF:F.f196 list=some r):PureCall zQ B 9 [am zJ.c list] (.lit (.string r)):=by
 unfold F.f196 at hF
 refine yB func9 rfl ntmps9 ?_
 repeat first|refine cg ?_|simp -dsimp
 have hF:=ob hF;obtain⟨o',ho17,hF⟩:=hF
 refine yD (((CC.f195 B hB1 hB2 list) zI 0 o' ho17) _ rfl _ ?_)
 cases hF
 repeat first|refine cg ?_|simp -dsimp
theorem CC.f197 (v:List zJ)(v5:ByteArray)(v7:Bool):(∀(n:Nat) (i:Nat) (o:Nat),F.f197 v v5 v7 n i=some o->∀(c:Code),Zb [1,1,1,1,1,1,1,0,1,0,0] (ZK Tryz.f3)=some c->∀(Q:Exit->ASt->Prop),(Q (.exit 0) ⟨[(3,am zJ.c v),(5,.lit (.bool v7)),(6,li (o:Int))],[]⟩)->ALoopU zQ B 0 54 (hold c .mk) ⟨[(3,am zJ.c v),(4,.lit (.string v5)),(5,.lit (.bool v7)),(6,li (n:Int)),(7,li (i:Int))],[]⟩ (hold Q .mk)):=by
 refine F.f197.partial_correctness v v5 v7
  _
  ?_
 ·intro _f_f197 ih_f197 n i o hF
  refine ZJ rfl fun Q hq hk hs=> ?_
  have b3:=hk 3
  simp -dsimp at b3
  clear hk hs
  refine eN ?_
  repeat first|refine cg ?_|simp -dsimp
  revert hF;refine aS ?_ ?_<;>intro h17 q18 hF
  ·have z19:((i:Int)<(v5.size:Int)):=auz
   repeat first|refine cg ?_|simp -dsimp[h17,z19]
   revert hF;refine aS ?_ ?_<;>intro h20 q21 hF
   ·have z22:(((byteAt v5 i:Nat):Int)=10):=auz
    have hF:=oc hF;obtain⟨c23,hF⟩:=hF
    have w24:i64.wrap ((n:Int)+1)=(n:Int)+1:=ZF (by omega) (by omega)
    have hF:=oc hF;obtain⟨c25,hF⟩:=hF
    have w26:i64.wrap ((i:Int)+1)=(i:Int)+1:=ZF (by omega) (by omega)
    repeat first|refine cg ?_|simp -dsimp[h20,z22,w24,w26]
    refine zZ ((ih_f197 (n+1) (i+1) o hF) _ rfl _ hq)
   ·have z22:¬(((byteAt v5 i:Nat):Int)=10):=auz
    have hF:=oc hF;obtain⟨c27,hF⟩:=hF
    have w28:i64.wrap ((i:Int)+1)=(i:Int)+1:=ZF (by omega) (by omega)
    repeat first|refine cg ?_|simp -dsimp[h20,q21,z22,w28]
    refine zZ ((ih_f197 n (i+1) o hF) _ rfl _ hq)
  ·have z19:¬((i:Int)<(v5.size:Int)):=auz
   cases hF
   repeat first|refine cg ?_|simp -dsimp[h17,q18,z19]
   refine yA hq
theorem C.f198 (code:List Int)(r:Bool)(hF:F.f198 code=some r):PureCall zQ B 3 [am cU code] (.lit (.bool r)):=by
 unfold F.f198 at hF
 refine pE func3 (by kernel_rfl) rfl ntmps3 (by simp) (by simp) ?_
 repeat first|refine cg ?_|simp -dsimp
 revert hF;refine aS ?_ ?_<;>intro h1 q2 hF
 ·have z3:(1048576<(code.length:Int)):=auz
  cases hF
  repeat first|refine cg ?_|simp -dsimp[h1,z3]
 ·have z3:¬(1048576<(code.length:Int)):=auz
  repeat first|refine cg ?_|simp -dsimp[h1,q2,z3]
  have hF:=ob hF;obtain⟨v,e4,hF⟩:=hF
  refine((C.f171 B hB1 hB2 code v e4)).goW (by simp[h1,q2,z3]) (by simp) ?_
  repeat first|refine cg ?_|simp -dsimp[h1,q2,z3]
  have hF:=ob hF;obtain⟨v5,e6,hF⟩:=hF
  refine((C.f185 B hB1 hB2 v v5 e6)).goW (by simp[h1,q2,z3]) (by simp) ?_
  repeat first|refine cg ?_|simp -dsimp[h1,q2,z3]
  have hF:=ob hF;obtain⟨v7,e8,hF⟩:=hF
  refine((C.f178 B hB1 hB2 v v7 e8)).goW (by simp[h1,q2,z3]) (by simp) ?_
  repeat first|refine cg ?_|simp -dsimp[h1,q2,z3]
  have hF:=ob hF;obtain⟨v9,e10,hF⟩:=hF
  refine((C.f196 B hB1 hB2 v v9 e10)).goW (by simp[h1,q2,z3]) (by simp) ?_
  repeat first|refine cg ?_|simp -dsimp[h1,q2,z3]
  revert hF;refine aS ?_ ?_<;>intro h11 q12 hF
  ·repeat first|refine cg ?_|simp -dsimp[h1,q2,z3,h11]
   have hF:=ob hF;obtain⟨v13,e14,hF⟩:=hF
   refine((C.f188 B hB1 hB2 v v13 e14)).goW (by simp[h1,q2,z3,h11]) (by simp) ?_
   repeat first|refine cg ?_|simp -dsimp[h1,q2,z3,h11]
   revert hF;refine aN ?_ ?_<;>intro h15 q16 hF
   ·cases hF
    repeat first|refine cg ?_|simp -dsimp[h1,q2,z3,h11,h15,q16]
   ·repeat first|refine cg ?_|simp -dsimp[h1,q2,z3,h11,h15,q16]
    have hF:=ob hF;obtain⟨o',ho29,hF⟩:=hF
    refine yE _ ?_ (((CC.f197 B hB1 hB2 v v5 v7) 0 0 o' ho29) _ rfl _ ?_)
    ·exact(gT (by simp) (by simp -dsimp[h1,q2,z3,h11,h15,q16]))
    repeat first|refine cg ?_|simp -dsimp
    revert hF;refine aS (fun h30 q31 hF=> ?_) (fun h30 q31 hF=> ?_)
    ·repeat first|refine cg ?_|simp -dsimp[h30]
     revert hF;refine aN ?_ ?_<;>intro h32 q33 hF
     ·have z34:¬((o':Int)=(v.length:Int)):=auz
      cases hF
      repeat first|refine cg ?_|simp -dsimp[h30,h32,q33,z34]
     ·have z34:((o':Int)=(v.length:Int)):=auz
      cases hF
      repeat first|refine cg ?_|simp -dsimp[h30,h32,q33,z34]
    ·cases hF
     repeat first|refine cg ?_|simp -dsimp[h30,q31]
  ·cases hF
   repeat first|refine cg ?_|simp -dsimp[h1,q2,z3,h11,q12]
end Go.Proofs.YtodkbabdaoeooaaGreatDoor
