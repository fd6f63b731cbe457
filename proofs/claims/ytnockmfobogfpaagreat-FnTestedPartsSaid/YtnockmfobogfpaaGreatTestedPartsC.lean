/- Part. -/
import Derived.Test.YtnockmfobogfpaaGreatTestedPartsC1
open List renaming length->zA,map->zB,length_cons->zC,length_nil->zD
namespace Go.Proofs.YtnockmfobogfpaaGreat
open Go Go.Proofs Go.Vl
open Step renaming c->zE
open PathBind renaming c->zF
open Pattern renaming c->zG
open BCall renaming enter->zH
open C renaming f156->zI,f98->zJ
open ADraw renaming effI->zK,simI->zL,simple->zM,effP->zN,split->zO
open ALoop renaming is->zP,goU->zR
open Blk renaming bnd->zS
open ACall renaming frzAt->zT,nilCell->zU,frz->zV
open Again renaming is->zW
open Leave renaming is->zX
open Go.Vl renaming Data->zY
open Go.Vl.Data renaming c->zZ
open Clause renaming c->yA
open PureCall renaming inLe->yB
open Gh renaming trans->yC,nilCell->yD,frzSlot->yE
open Go.Vl.Bind renaming c->yF
open ALoopU renaming know->yG
open Go.Proofs.Tryz
open Go.Proofs.Tryz renaming prog->zQ
open abr renaming sp->aS,ns->aN
open Leave renaming go->lG
open Again renaming go->aG
open ALoopU renaming enter->eN
open Gh renaming to3->gT,refl->gR
open PureCall renaming enterLe->pE
open Go.IntKind (i64)
set_option linter.all false
set_option maxRecDepth 100000
set_option maxHeartbeats 4000000
set_option synthInstance.maxSize 100000
set_option synthInstance.maxHeartbeats 4000000
attribute [local irreducible] GhK ECallA aL AMake MLoop AgainM LeaveM ZBm ZBM MutCall BCall chk abr ACall ALoop ALoopU ADraw Again Leave ZFC PCall ZAG awp ZIv PureCall hold
variable (B : Nat) (hB1 : 1073741824 <= bd B) (hB2 : bd B <= 9223372036854775807)
include hB1 hB2
theorem CC.impl_tests__g  :(∀(p:Pattern) (path:List Int) (steps':List Step) (binds:List PathBind) (r:(List Step)×(List PathBind)),F.f157 p path steps' binds=some r->BCall zQ B 77 [.cells [.own 2 (zA (α:=Step) steps')],.cells [.own 3 (zA (α:=PathBind) binds)],.elems 8 (zB zE steps'),.elems 2 (zB zF binds)] [.agg [li p.op,li p.ctor,li p.n,li p.m,li p.var,am zG p.kids],am cI path,.ptr 0 0,.ptr 1 0] (.tup []) [.cells [.own 2 (zA (α:=Step) r.1)],.cells [.own 3 (zA (α:=PathBind) r.2)],.elems 8 (zB zE r.1),.elems 2 (zB zF r.2)])/\
  (∀(p:Pattern) (path:List Int) (out94:List Step) (out95:List PathBind) (i96:Nat) (o:(List Step)×(List PathBind)),F.f162 p path out94 out95 i96=some o->∀(c:Code),ZS [1,1,1,1,0,0] (ZH Tryz.f77)=some c->∀(Q:Exit->ASt->Prop),(Q (.exit 1) ⟨[],[.cells [.own 2 (zA (α:=Step) o.1)],.cells [.own 3 (zA (α:=PathBind) o.2)],.elems 8 (zB zE o.1),.elems 2 (zB zF o.2)]⟩)->ALoopU zQ B 4 81 (hold c .mk) ⟨[(1,am cI path),(2,.ptr 0 0),(3,.ptr 1 0),(4,.ptr 4 0),(59,am zG p.kids),(60,li (p.kids.length:Int)),(61,li (i96:Int))],[.cells [.own 2 (zA (α:=Step) out94)],.cells [.own 3 (zA (α:=PathBind) out95)],.elems 8 (zB zE out94),.elems 2 (zB zF out95),.cells [li p.op,li p.ctor,li p.n,li p.m,li p.var,am zG p.kids]]⟩ (hold Q .mk))/\
  (∀(p:Pattern) (path:List Int) (out73:List Step) (out74:List PathBind) (i75:Nat) (o:(List Step)×(List PathBind)),F.f161 p path out73 out74 i75=some o->∀(c:Code),ZS [1,1,1,1,0,0] (ZH Tryz.f77)=some c->∀(Q:Exit->ASt->Prop),(Q (.exit 1) ⟨[],[.cells [.own 2 (zA (α:=Step) o.1)],.cells [.own 3 (zA (α:=PathBind) o.2)],.elems 8 (zB zE o.1),.elems 2 (zB zF o.2)]⟩)->ALoopU zQ B 4 81 (hold c .mk) ⟨[(1,am cI path),(2,.ptr 0 0),(3,.ptr 1 0),(4,.ptr 4 0),(59,am zG p.kids),(60,li (p.kids.length:Int)),(61,li (i75:Int))],[.cells [.own 2 (zA (α:=Step) out73)],.cells [.own 3 (zA (α:=PathBind) out74)],.elems 8 (zB zE out73),.elems 2 (zB zF out74),.cells [li p.op,li p.ctor,li p.n,li p.m,li p.var,am zG p.kids]]⟩ (hold Q .mk))/\
  (∀(p:Pattern) (path:List Int) (out49:List Step) (out50:List PathBind) (i51:Nat) (o:(List Step)×(List PathBind)),F.f160 p path out49 out50 i51=some o->∀(c:Code),ZS [1,1,1,1,0,0] (ZH Tryz.f77)=some c->∀(Q:Exit->ASt->Prop),(Q (.exit 1) ⟨[],[.cells [.own 2 (zA (α:=Step) o.1)],.cells [.own 3 (zA (α:=PathBind) o.2)],.elems 8 (zB zE o.1),.elems 2 (zB zF o.2)]⟩)->ALoopU zQ B 4 81 (hold c .mk) ⟨[(1,am cI path),(2,.ptr 0 0),(3,.ptr 1 0),(4,.ptr 4 0),(59,am zG p.kids),(60,li (p.kids.length:Int)),(61,li (i51:Int))],[.cells [.own 2 (zA (α:=Step) out49)],.cells [.own 3 (zA (α:=PathBind) out50)],.elems 8 (zB zE out49),.elems 2 (zB zF out50),.cells [li p.op,li p.ctor,li p.n,li p.m,li p.var,am zG p.kids]]⟩ (hold Q .mk))/\
  (∀(p:Pattern) (path:List Int) (out25:List Step) (out26:List PathBind) (i27:Nat) (o:(List Step)×(List PathBind)),F.f159 p path out25 out26 i27=some o->∀(c:Code),ZS [1,1,1,1,0,0] (ZH Tryz.f77)=some c->∀(Q:Exit->ASt->Prop),(Q (.exit 1) ⟨[],[.cells [.own 2 (zA (α:=Step) o.1)],.cells [.own 3 (zA (α:=PathBind) o.2)],.elems 8 (zB zE o.1),.elems 2 (zB zF o.2)]⟩)->ALoopU zQ B 4 81 (hold c .mk) ⟨[(1,am cI path),(2,.ptr 0 0),(3,.ptr 1 0),(4,.ptr 4 0),(59,am zG p.kids),(60,li (p.kids.length:Int)),(61,li (i27:Int))],[.cells [.own 2 (zA (α:=Step) out25)],.cells [.own 3 (zA (α:=PathBind) out26)],.elems 8 (zB zE out25),.elems 2 (zB zF out26),.cells [li p.op,li p.ctor,li p.n,li p.m,li p.var,am zG p.kids]]⟩ (hold Q .mk))/\
  (∀(p:Pattern) (path:List Int) (out:List Step) (out5:List PathBind) (i:Nat) (o:(List Step)×(List PathBind)),F.f158 p path out out5 i=some o->∀(c:Code),ZS [1,1,1,1,0,0] (ZH Tryz.f77)=some c->∀(Q:Exit->ASt->Prop),(Q (.exit 1) ⟨[],[.cells [.own 2 (zA (α:=Step) o.1)],.cells [.own 3 (zA (α:=PathBind) o.2)],.elems 8 (zB zE o.1),.elems 2 (zB zF o.2)]⟩)->ALoopU zQ B 4 81 (hold c .mk) ⟨[(1,am cI path),(2,.ptr 0 0),(3,.ptr 1 0),(4,.ptr 4 0),(59,am zG p.kids),(60,li (p.kids.length:Int)),(61,li (i:Int))],[.cells [.own 2 (zA (α:=Step) out)],.cells [.own 3 (zA (α:=PathBind) out5)],.elems 8 (zB zE out),.elems 2 (zB zF out5),.cells [li p.op,li p.ctor,li p.n,li p.m,li p.var,am zG p.kids]]⟩ (hold Q .mk)):=by
 refine F.f157.mutual_partial_correctness 
  _ _ _ _ _ _
  ?_ ?_ ?_ ?_ ?_ ?_
 ·intro _f_impl_tests__g_l5 _f_impl_tests__g_l4 _f_impl_tests__g_l3 _f_impl_tests__g_l2 _f_impl_tests__g_l1 ih_impl_tests__g_l5 ih_impl_tests__g_l4 ih_impl_tests__g_l3 ih_impl_tests__g_l2 ih_impl_tests__g_l1 p path steps' binds r hF
  refine zH func77 (by kernel_rfl) rfl ntmps77 (by simp) rfl (by simp) (by simp) (by simp) (by simp) (by simp) (gR _) ?_
  refine kB hF fun v e1 hF=> ?_
  refine((zI B hB1 hB2 path v e1)).go (pl [5]) (by simp) (by simp) (by intro i j hi;simp at hi) (by intro i hi hi';simp at hi hi';first|omega|(subst hi';simp[pl])) (by simp) (by simp) ?_
  revert hF;refine kS ?_ ?_<;>intro h2 q3 hF
  ·refine kx1 h2 ?_
   refine zK [1000133] [(0,3),(0,2),(0,2),(0,2),(0,0),(0,0),(0,0),(0,4),(0,4),(0,4),(3,3),(0,4)] [1,1,0,2,1,1,1,1,1,1,1,1] follows ?_
   apply oC hF;intro c4 hF
   refine kB hF fun o' ho21 hF=> ?_
   refine zP ((ih_impl_tests__g_l1 p path steps' (binds++[(⟨p.var,v⟩:PathBind)]) 0 o' ho21) _ rfl _ ?_)
   cases hF
   repeat first|refine cg ?_|simp -dsimp
   all_goals(try first|omega|rfl|(simp;done)|(simp only[zC,zD]at*;omega)|simp)
  ·refine kx1 q3 ?_
   revert hF;refine aS ?_ ?_<;>intro h22 q23 hF
   ·refine kx1 h22 ?_
    refine zK [1000133] [(0,3),(0,2),(0,2),(0,2),(0,0),(0,0),(0,0),(0,4),(0,4),(0,4),(3,3),(0,4)] [1,1,0,2,1,1,1,1,1,1,1,1] follows ?_
    apply oC hF;intro c24 hF
    refine kB hF fun o'45 ho44 hF=> ?_
    refine zP ((ih_impl_tests__g_l2 p path steps' (binds++[(⟨p.var,v⟩:PathBind)]) 0 o'45 ho44) _ rfl _ ?_)
    cases hF
    repeat first|refine cg ?_|simp -dsimp
    all_goals(try first|omega|rfl|(simp;done)|(simp only[zC,zD]at*;omega)|simp)
   ·refine kx1 q23 ?_
    revert hF;refine aS ?_ ?_<;>intro h46 q47 hF
    ·refine kx1 h46 ?_
     refine zK [1000096] [(0,3),(0,2),(0,2),(0,2),(0,0),(0,0),(0,0),(0,0),(0,0),(0,4),(0,4),(0,4),(3,3),(0,4)] [1,1,0,2,1,1,1,1,1,1,1,1,1,1] follows ?_
     apply oC hF;intro c48 hF
     refine kB hF fun o'69 ho68 hF=> ?_
     refine zP ((ih_impl_tests__g_l3 p path (steps'++[(⟨1,v,(-1),p.n,p.m,0,[],0⟩:Step)]) binds 0 o'69 ho68) _ rfl _ ?_)
     cases hF
     repeat first|refine cg ?_|simp -dsimp
     all_goals(try first|omega|rfl|(simp;done)|(simp only[zC,zD]at*;omega)|simp)
    ·refine kx1 q47 ?_
     revert hF;refine aS ?_ ?_<;>intro h70 q71 hF
     ·refine kx1 h70 ?_
      refine zK [1000096] [(0,3),(0,2),(0,2),(0,2),(0,0),(0,0),(0,0),(0,4),(0,4),(0,4),(3,3),(0,4)] [1,1,0,2,1,1,1,1,1,1,1,1] follows ?_
      apply oC hF;intro c72 hF
      refine kB hF fun o'93 ho92 hF=> ?_
      refine zP ((ih_impl_tests__g_l4 p path (steps'++[(⟨1,v,p.ctor,0,0,0,[],0⟩:Step)]) binds 0 o'93 ho92) _ rfl _ ?_)
      cases hF
      repeat first|refine cg ?_|simp -dsimp
      all_goals(try first|omega|rfl|(simp;done)|(simp only[zC,zD]at*;omega)|simp)
     ·refine kx1 q71 ?_
      apply oB hF;intro o'114 ho113 hF
      refine zP ((ih_impl_tests__g_l5 p path steps' binds 0 o'114 ho113) _ rfl _ ?_)
      cases hF
      repeat first|refine cg ?_|simp -dsimp
      all_goals(try first|omega|rfl|(simp;done)|(simp only[zC,zD]at*;omega)|simp)
 ·intro _f_impl_tests__g _f_impl_tests__g_l5 ih_impl_tests__g ih_impl_tests__g_l5 p path out94 out95 i96 o hF
  refine ZJ rfl fun Q hq hk hs=> ?_
  have b1:=hk 1
  simp -dsimp at b1
  have b59:=hk 59
  simp -dsimp at b59
  have d2:=hs 2 _ rfl
  simp -dsimp[zS]at d2
  have d3:=hs 3 _ rfl
  simp -dsimp[zS]at d3
  have d4:=hs 4 _ rfl
  simp -dsimp[zS]at d4
  clear hk hs
  refine eN ?_
  revert hF;refine kS ?_ ?_<;>intro h97 q98 hF
  ·have z99:((i96:Int)<(p.kids.length:Int)):=auz
   apply oB hF;intro x100 e101 hF
   have le101:=ZA e101
   refine ZW h97 z99 e101 ?_
   revert hF;refine aS ?_ ?_<;>intro h102 q103 hF
   ·refine kx1 h102 ?_
    apply oB hF;intro v104 e105 hF
    refine((zI B hB1 hB2 path v104 e105)).go (pl [6]) (by simp) (by simp) (by intro i j hi;simp at hi) (by intro i hi hi';simp at hi hi';first|omega|(subst hi';simp[pl])) (by simp_all) (by simp_all) ?_
    apply oC hF;intro c106 hF
    refine kB hF fun v107 e108 hF=> ?_
    refine zT 1 (l:=6) (n:=zA (α:=Int) (v104++[(i96:Int)])) (sz:=1) (es:=zB cI (v104++[(i96:Int)])) (by simp) (by simp) (by simp) (by simp) ?_
    refine kx0 ?_
    refine((ih_impl_tests__g x100 (v104++[(i96:Int)]) out94 out95 v107 e108)).go (pl [0,1,2,3]) (by simp) (by simp) (Zs _ rfl (by decide)) (by intro i hi hi';simp at hi hi';omega) (by simp_all) (by simp_all) ?_
    have w109:i64.wrap ((i96:Int)+1)=(i96:Int)+1:=ZC (by omega) (by omega)
    refine kx1 w109 ?_
    refine zW ((ih_impl_tests__g_l5 p path v107.1 v107.2 (i96+1) o hF) _ rfl _ hq)
   ·refine kx1 q103 ?_
    apply oB hF;intro v110 e111 hF
    refine((ih_impl_tests__g x100 path out94 out95 v110 e111)).go (pl [0,1,2,3]) (by simp) (by simp) (Zs _ rfl (by decide)) (by intro i hi hi';simp at hi hi';omega) (by simp_all) (by simp_all) ?_
    have w112:i64.wrap ((i96:Int)+1)=(i96:Int)+1:=ZC (by omega) (by omega)
    refine kx1 w112 ?_
    refine zW ((ih_impl_tests__g_l5 p path v110.1 v110.2 (i96+1) o hF) _ rfl _ hq)
  ·have z99:¬((i96:Int)<(p.kids.length:Int)):=auz
   cases hF
   refine kx3 h97 q98 z99 ?_
   refine zX hq
 ·intro _f_impl_tests__g _f_impl_tests__g_l4 ih_impl_tests__g ih_impl_tests__g_l4 p path out73 out74 i75 o hF
  refine ZJ rfl fun Q hq hk hs=> ?_
  have b1:=hk 1
  simp -dsimp at b1
  have b59:=hk 59
  simp -dsimp at b59
  have d2:=hs 2 _ rfl
  simp -dsimp[zS]at d2
  have d3:=hs 3 _ rfl
  simp -dsimp[zS]at d3
  have d4:=hs 4 _ rfl
  simp -dsimp[zS]at d4
  clear hk hs
  refine eN ?_
  revert hF;refine kS ?_ ?_<;>intro h76 q77 hF
  ·have z78:((i75:Int)<(p.kids.length:Int)):=auz
   apply oB hF;intro x79 e80 hF
   have le80:=ZA e80
   refine ZW h76 z78 e80 ?_
   revert hF;refine aS ?_ ?_<;>intro h81 q82 hF
   ·refine kx1 h81 ?_
    apply oB hF;intro v83 e84 hF
    refine((zI B hB1 hB2 path v83 e84)).go (pl [6]) (by simp) (by simp) (by intro i j hi;simp at hi) (by intro i hi hi';simp at hi hi';first|omega|(subst hi';simp[pl])) (by simp_all) (by simp_all) ?_
    apply oC hF;intro c85 hF
    refine kB hF fun v86 e87 hF=> ?_
    refine zT 1 (l:=6) (n:=zA (α:=Int) (v83++[(i75:Int)])) (sz:=1) (es:=zB cI (v83++[(i75:Int)])) (by simp) (by simp) (by simp) (by simp) ?_
    refine kx0 ?_
    refine((ih_impl_tests__g x79 (v83++[(i75:Int)]) out73 out74 v86 e87)).go (pl [0,1,2,3]) (by simp) (by simp) (Zs _ rfl (by decide)) (by intro i hi hi';simp at hi hi';omega) (by simp_all) (by simp_all) ?_
    have w88:i64.wrap ((i75:Int)+1)=(i75:Int)+1:=ZC (by omega) (by omega)
    refine kx1 w88 ?_
    refine zW ((ih_impl_tests__g_l4 p path v86.1 v86.2 (i75+1) o hF) _ rfl _ hq)
   ·refine kx1 q82 ?_
    apply oB hF;intro v89 e90 hF
    refine((ih_impl_tests__g x79 path out73 out74 v89 e90)).go (pl [0,1,2,3]) (by simp) (by simp) (Zs _ rfl (by decide)) (by intro i hi hi';simp at hi hi';omega) (by simp_all) (by simp_all) ?_
    have w91:i64.wrap ((i75:Int)+1)=(i75:Int)+1:=ZC (by omega) (by omega)
    refine kx1 w91 ?_
    refine zW ((ih_impl_tests__g_l4 p path v89.1 v89.2 (i75+1) o hF) _ rfl _ hq)
  ·have z78:¬((i75:Int)<(p.kids.length:Int)):=auz
   cases hF
   refine kx3 h76 q77 z78 ?_
   refine zX hq
 ·intro _f_impl_tests__g _f_impl_tests__g_l3 ih_impl_tests__g ih_impl_tests__g_l3 p path out49 out50 i51 o hF
  refine ZJ rfl fun Q hq hk hs=> ?_
  have b1:=hk 1
  simp -dsimp at b1
  have b59:=hk 59
  simp -dsimp at b59
  have d2:=hs 2 _ rfl
  simp -dsimp[zS]at d2
  have d3:=hs 3 _ rfl
  simp -dsimp[zS]at d3
  have d4:=hs 4 _ rfl
  simp -dsimp[zS]at d4
  clear hk hs
  refine eN ?_
  revert hF;refine kS ?_ ?_<;>intro h52 q53 hF
  ·have z54:((i51:Int)<(p.kids.length:Int)):=auz
   apply oB hF;intro x55 e56 hF
   have le56:=ZA e56
   refine ZW h52 z54 e56 ?_
   revert hF;refine aS ?_ ?_<;>intro h57 q58 hF
   ·refine kx1 h57 ?_
    apply oB hF;intro v59 e60 hF
    refine((zI B hB1 hB2 path v59 e60)).go (pl [6]) (by simp) (by simp) (by intro i j hi;simp at hi) (by intro i hi hi';simp at hi hi';first|omega|(subst hi';simp[pl])) (by simp_all) (by simp_all) ?_
    apply oC hF;intro c61 hF
    refine kB hF fun v62 e63 hF=> ?_
    refine zT 1 (l:=6) (n:=zA (α:=Int) (v59++[(i51:Int)])) (sz:=1) (es:=zB cI (v59++[(i51:Int)])) (by simp) (by simp) (by simp) (by simp) ?_
    refine kx0 ?_
    refine((ih_impl_tests__g x55 (v59++[(i51:Int)]) out49 out50 v62 e63)).go (pl [0,1,2,3]) (by simp) (by simp) (Zs _ rfl (by decide)) (by intro i hi hi';simp at hi hi';omega) (by simp_all) (by simp_all) ?_
    have w64:i64.wrap ((i51:Int)+1)=(i51:Int)+1:=ZC (by omega) (by omega)
    refine kx1 w64 ?_
    refine zW ((ih_impl_tests__g_l3 p path v62.1 v62.2 (i51+1) o hF) _ rfl _ hq)
   ·refine kx1 q58 ?_
    apply oB hF;intro v65 e66 hF
    refine((ih_impl_tests__g x55 path out49 out50 v65 e66)).go (pl [0,1,2,3]) (by simp) (by simp) (Zs _ rfl (by decide)) (by intro i hi hi';simp at hi hi';omega) (by simp_all) (by simp_all) ?_
    have w67:i64.wrap ((i51:Int)+1)=(i51:Int)+1:=ZC (by omega) (by omega)
    refine kx1 w67 ?_
    refine zW ((ih_impl_tests__g_l3 p path v65.1 v65.2 (i51+1) o hF) _ rfl _ hq)
  ·have z54:¬((i51:Int)<(p.kids.length:Int)):=auz
   cases hF
   refine kx3 h52 q53 z54 ?_
   refine zX hq
 ·intro _f_impl_tests__g _f_impl_tests__g_l2 ih_impl_tests__g ih_impl_tests__g_l2 p path out25 out26 i27 o hF
  refine ZJ rfl fun Q hq hk hs=> ?_
  have b1:=hk 1
  simp -dsimp at b1
  have b59:=hk 59
  simp -dsimp at b59
  have d2:=hs 2 _ rfl
  simp -dsimp[zS]at d2
  have d3:=hs 3 _ rfl
  simp -dsimp[zS]at d3
  have d4:=hs 4 _ rfl
  simp -dsimp[zS]at d4
  clear hk hs
  refine eN ?_
  revert hF;refine kS ?_ ?_<;>intro h28 q29 hF
  ·have z30:((i27:Int)<(p.kids.length:Int)):=auz
   apply oB hF;intro x31 e32 hF
   have le32:=ZA e32
   refine ZW h28 z30 e32 ?_
   revert hF;refine aS ?_ ?_<;>intro h33 q34 hF
   ·refine kx1 h33 ?_
    apply oB hF;intro v35 e36 hF
    refine((zI B hB1 hB2 path v35 e36)).go (pl [6]) (by simp) (by simp) (by intro i j hi;simp at hi) (by intro i hi hi';simp at hi hi';first|omega|(subst hi';simp[pl])) (by simp_all) (by simp_all) ?_
    apply oC hF;intro c37 hF
    refine kB hF fun v38 e39 hF=> ?_
    refine zT 1 (l:=6) (n:=zA (α:=Int) (v35++[(i27:Int)])) (sz:=1) (es:=zB cI (v35++[(i27:Int)])) (by simp) (by simp) (by simp) (by simp) ?_
    refine kx0 ?_
    refine((ih_impl_tests__g x31 (v35++[(i27:Int)]) out25 out26 v38 e39)).go (pl [0,1,2,3]) (by simp) (by simp) (Zs _ rfl (by decide)) (by intro i hi hi';simp at hi hi';omega) (by simp_all) (by simp_all) ?_
    have w40:i64.wrap ((i27:Int)+1)=(i27:Int)+1:=ZC (by omega) (by omega)
    refine kx1 w40 ?_
    refine zW ((ih_impl_tests__g_l2 p path v38.1 v38.2 (i27+1) o hF) _ rfl _ hq)
   ·refine kx1 q34 ?_
    apply oB hF;intro v41 e42 hF
    refine((ih_impl_tests__g x31 path out25 out26 v41 e42)).go (pl [0,1,2,3]) (by simp) (by simp) (Zs _ rfl (by decide)) (by intro i hi hi';simp at hi hi';omega) (by simp_all) (by simp_all) ?_
    have w43:i64.wrap ((i27:Int)+1)=(i27:Int)+1:=ZC (by omega) (by omega)
    refine kx1 w43 ?_
    refine zW ((ih_impl_tests__g_l2 p path v41.1 v41.2 (i27+1) o hF) _ rfl _ hq)
  ·have z30:¬((i27:Int)<(p.kids.length:Int)):=auz
   cases hF
   refine kx3 h28 q29 z30 ?_
   refine zX hq
 ·intro _f_impl_tests__g _f_impl_tests__g_l1 ih_impl_tests__g ih_impl_tests__g_l1 p path out out5 i o hF
  refine ZJ rfl fun Q hq hk hs=> ?_
  have b1:=hk 1
  simp -dsimp at b1
  have b59:=hk 59
  simp -dsimp at b59
  have d2:=hs 2 _ rfl
  simp -dsimp[zS]at d2
  have d3:=hs 3 _ rfl
  simp -dsimp[zS]at d3
  have d4:=hs 4 _ rfl
  simp -dsimp[zS]at d4
  clear hk hs
  refine eN ?_
  revert hF;refine kS ?_ ?_<;>intro h6 q7 hF
  ·have z8:((i:Int)<(p.kids.length:Int)):=auz
   apply oB hF;intro x e9 hF
   have le9:=ZA e9
   refine ZW h6 z8 e9 ?_
   revert hF;refine aS ?_ ?_<;>intro h10 q11 hF
   ·refine kx1 h10 ?_
    apply oB hF;intro v12 e13 hF
    refine((zI B hB1 hB2 path v12 e13)).go (pl [6]) (by simp) (by simp) (by intro i j hi;simp at hi) (by intro i hi hi';simp at hi hi';first|omega|(subst hi';simp[pl])) (by simp_all) (by simp_all) ?_
    apply oC hF;intro c14 hF
    refine kB hF fun v15 e16 hF=> ?_
    refine zT 1 (l:=6) (n:=zA (α:=Int) (v12++[(i:Int)])) (sz:=1) (es:=zB cI (v12++[(i:Int)])) (by simp) (by simp) (by simp) (by simp) ?_
    refine kx0 ?_
    refine((ih_impl_tests__g x (v12++[(i:Int)]) out out5 v15 e16)).go (pl [0,1,2,3]) (by simp) (by simp) (Zs _ rfl (by decide)) (by intro i hi hi';simp at hi hi';omega) (by simp_all) (by simp_all) ?_
    have w17:i64.wrap ((i:Int)+1)=(i:Int)+1:=ZC (by omega) (by omega)
    refine kx1 w17 ?_
    refine zW ((ih_impl_tests__g_l1 p path v15.1 v15.2 (i+1) o hF) _ rfl _ hq)
   ·refine kx1 q11 ?_
    apply oB hF;intro v18 e19 hF
    refine((ih_impl_tests__g x path out out5 v18 e19)).go (pl [0,1,2,3]) (by simp) (by simp) (Zs _ rfl (by decide)) (by intro i hi hi';simp at hi hi';omega) (by simp_all) (by simp_all) ?_
    have w20:i64.wrap ((i:Int)+1)=(i:Int)+1:=ZC (by omega) (by omega)
    refine kx1 w20 ?_
    refine zW ((ih_impl_tests__g_l1 p path v18.1 v18.2 (i+1) o hF) _ rfl _ hq)
  ·have z8:¬((i:Int)<(p.kids.length:Int)):=auz
   cases hF
   refine kx3 h6 q7 z8 ?_
   refine zX hq
theorem C.f163 (x:List PathBind)(r:List PathBind)(hF:F.f163 x=some r):BCall zQ B 78 [.elems 2 (zB zF x)] [.own 0 (zA (α:=PathBind) x),.fn (.func 79) [] []] (.tup []) [.elems 2 (zB zF r)]:=by
 unfold F.f163 at hF
 apply oC hF;intro c1 hF
 cases hF
 exact ZI9 (c:=zF) (key:=fun x=>x.var) Tryz.sort78 ⟨Tryz.f78,func78,by kernel_rfl,by kernel_rfl⟩ Tryz.isAgg133 Tryz.sizeOf133 (enters_of func79 (by kernel_rfl) rfl) Tryz.cmpK79 x (fun x=>⟨_,rfl,rfl⟩) (by simp) c1.1 c1.2
theorem CC.f164 (v4:(List (List Pattern))×Bool)(out:List Step)(i:Nat)(x:List Pattern)(i13:Nat)(v21:List PathBind):(∀(out24:List Step) (k:Nat) (o:List Step),F.f164 v4 out i x i13 v21 out24 k=some o->∀(c:Code),ZS [1,1,1,1,1,0,1,0,0,1,1,0,0,1,1,0,1,0,0,1,1,0,0,1,1,1,1,1,0,1,0,0] (ZH Tryz.f39)=some c->∀(Q:Exit->ASt->Prop),(Q (.exit 4) ⟨[(10,.ptr 1 0),(11,li (i:Int)),(13,li (out.length:Int)),(17,.ptr 4 0),(32,am (cL zG) v4.1),(33,li (v4.1.length:Int)),(34,li (i:Int)),(41,am zG x),(42,li (x.length:Int)),(43,li (i13:Int))],[.dead,.cells [.own 2 (zA (α:=Step) o)],.elems 8 (zB zE o),.dead,.cells [.own 5 (zA (α:=PathBind) v21)],.elems 2 (zB zF v21)]⟩)->ALoopU zQ B 0 98 (hold c .mk) ⟨[(10,.ptr 1 0),(11,li (i:Int)),(13,li (out.length:Int)),(17,.ptr 4 0),(18,li (k:Int)),(32,am (cL zG) v4.1),(33,li (v4.1.length:Int)),(34,li (i:Int)),(41,am zG x),(42,li (x.length:Int)),(43,li (i13:Int))],[.dead,.cells [.own 2 (zA (α:=Step) out24)],.elems 8 (zB zE out24),.dead,.cells [.own 5 (zA (α:=PathBind) v21)],.elems 2 (zB zF v21)]⟩ (hold Q .mk)):=by
 refine F.f164.partial_correctness v4 out i x i13 v21
  _
  ?_
 ·intro _f_f164 ih_f164 out24 k o hF
  refine ZJ rfl fun Q hq hk hs=> ?_
  have b32:=hk 32
  simp -dsimp at b32
  have b41:=hk 41
  simp -dsimp at b41
  have d2:=hs 2 _ rfl
  simp -dsimp[zS]at d2
  have d5:=hs 5 _ rfl
  simp -dsimp[zS]at d5
  clear hk hs
  refine eN ?_
  revert hF;refine kS ?_ ?_<;>intro h25 q26 hF
  ·have z27:((k:Int)<(out24.length:Int)):=auz
   apply oC hF;intro c28 hF
   have w29:i64.wrap ((out24.length:Int)+1)=(out24.length:Int)+1:=ZC (by omega) (by omega)
   apply oB hF;intro x30 e31 hF
   have le31:=ZA e31
   have w32:i64.wrap ((k:Int)+1)=(k:Int)+1:=ZC (by omega) (by omega)
   repeat first|refine cg ?_|simp -dsimp[h25,z27,w29,↓e31,w32]
   refine zW ((ih_f164 (out24.set k (⟨x30.op,x30.path,x30.ctor,x30.n,x30.m,x30.clause,x30.binds,((out24.length+1:Nat):Int)⟩:Step)) (k+1) o hF) _ rfl _ hq)
  ·have z27:¬((k:Int)<(out24.length:Int)):=auz
   cases hF
   refine kx3 h25 q26 z27 ?_
   refine zX hq
theorem CC.f165 (v4:(List (List Pattern))×Bool)(out:List Step)(i:Nat)(x:List Pattern):(∀(out12:List Step) (i13:Nat) (o:List Step),F.f165 v4 out i x out12 i13=some o->∀(c:Code),ZS [1,1,1,1,1,0,1,0,0,1,1,0,0,1,1,0,1,0,0] (ZH Tryz.f39)=some c->∀(Q:Exit->ASt->Prop),(Q (.exit 2) ⟨[(10,.ptr 1 0),(13,li (out.length:Int)),(32,am (cL zG) v4.1),(33,li (v4.1.length:Int)),(34,li (i:Int))],[.dead,.cells [.own 2 (zA (α:=Step) o)],.elems 8 (zB zE o)]⟩)->ALoopU zQ B 0 98 (hold c .mk) ⟨[(10,.ptr 1 0),(11,li (i:Int)),(13,li (out.length:Int)),(32,am (cL zG) v4.1),(33,li (v4.1.length:Int)),(34,li (i:Int)),(41,am zG x),(42,li (x.length:Int)),(43,li (i13:Int))],[.dead,.cells [.own 2 (zA (α:=Step) out12)],.elems 8 (zB zE out12)]⟩ (hold Q .mk)):=by
 refine F.f165.partial_correctness v4 out i x
  _
  ?_
 ·intro _f_f165 ih_f165 out12 i13 o hF
  refine ZJ rfl fun Q hq hk hs=> ?_
  have b32:=hk 32
  simp -dsimp at b32
  have b41:=hk 41
  simp -dsimp at b41
  have d2:=hs 2 _ rfl
  simp -dsimp[zS]at d2
  clear hk hs
  refine eN ?_
  revert hF;refine kS ?_ ?_<;>intro h14 q15 hF
  ·have z16:((i13:Int)<(x.length:Int)):=auz
   apply oB hF;intro x17 e18 hF
   have le18:=ZA e18
   refine ZW h14 z16 e18 ?_
   apply oB hF;intro v19 e20 hF
   refine zU 4 0 2 (cs:=[.lit (.slice none 0 0)]) (by simp) (by simp) ?_
   refine kx0 ?_
   refine(((CC.impl_tests__g B hB1 hB2).1 x17 [] out12 [] v19 e20)).go (pl [1,4,2,5]) (by simp) (by simp) (Zs _ rfl (by decide)) (by intro i hi hi';simp at hi hi';omega) (by simp_all) (by simp_all) ?_
   refine kB hF fun v21 e22 hF=> ?_
   have sl23:zA (α:=PathBind) v19.2=zA (α:=PathBind) v21:=ZL3 (key:=fun x=>x.var) (by unfold F.f163 at e22;exact e22)
   refine((C.f163 B hB1 hB2 v19.2 v21 e22)).go (pl [5]) (by simp) (by simp) (Zs _ rfl (by decide)) (by intro i hi hi';simp at hi hi';first|omega|(subst hi';simp[pl])) (by simp_all) (by simp_all) ?_
   refine kx1 sl23 ?_
   apply oB hF;intro o' ho33 hF
   refine zP (((CC.f164 B hB1 hB2 v4 out i x i13 v21) v19.1 out12.length o' ho33) _ rfl _ ?_)
   apply oC hF;intro c34 hF
   apply oC hF;intro c35 hF
   have w36:i64.wrap ((i13:Int)+1)=(i13:Int)+1:=ZC (by omega) (by omega)
   refine kx1 w36 ?_
   refine zW ((ih_f165 (o'++[(⟨2,[],0,0,0,(i:Int),v21,0⟩:Step)]) (i13+1) o hF) _ rfl _ hq)
  ·have z16:¬((i13:Int)<(x.length:Int)):=auz
   cases hF
   refine kx3 h14 q15 z16 ?_
   refine zX hq
theorem CC.f166 (v4:(List (List Pattern))×Bool)(i:Nat):(∀(out39:List Step) (k40:Nat) (o:List Step),F.f166 v4 i out39 k40=some o->∀(c:Code),ZS [1,1,1,1,1,0,1,0,0,1,1,0,0,1,1,1,1,0,0] (ZH Tryz.f39)=some c->∀(Q:Exit->ASt->Prop),(Q (.exit 6) ⟨[(10,.ptr 1 0),(32,am (cL zG) v4.1),(33,li (v4.1.length:Int)),(34,li (i:Int))],[.dead,.cells [.own 2 (zA (α:=Step) o)],.elems 8 (zB zE o)]⟩)->ALoopU zQ B 0 98 (hold c .mk) ⟨[(10,.ptr 1 0),(19,li (k40:Int)),(32,am (cL zG) v4.1),(33,li (v4.1.length:Int)),(34,li (i:Int))],[.dead,.cells [.own 2 (zA (α:=Step) out39)],.elems 8 (zB zE out39)]⟩ (hold Q .mk)):=by
 refine F.f166.partial_correctness v4 i
  _
  ?_
 ·intro _f_f166 ih_f166 out39 k40 o hF
  refine ZJ rfl fun Q hq hk hs=> ?_
  have b32:=hk 32
  simp -dsimp at b32
  have d2:=hs 2 _ rfl
  simp -dsimp[zS]at d2
  clear hk hs
  refine eN ?_
  revert hF;refine kS ?_ ?_<;>intro h41 q42 hF
  ·have z43:((k40:Int)<(out39.length:Int)):=auz
   apply oB hF;intro x44 e45 hF
   have le45:=ZA e45
   refine ZW h41 z43 e45 ?_
   revert hF;refine aS ?_ ?_<;>intro h46 q47 hF
   ·have w48:i64.wrap ((k40:Int)+1)=(k40:Int)+1:=ZC (by omega) (by omega)
    refine kx2 h46 w48 ?_
    refine zW ((ih_f166 (out39.set k40 (⟨x44.op,x44.path,x44.ctor,x44.n,x44.m,x44.clause,x44.binds,(out39.length:Int)⟩:Step)) (k40+1) o hF) _ rfl _ hq)
   ·have w49:i64.wrap ((k40:Int)+1)=(k40:Int)+1:=ZC (by omega) (by omega)
    refine kx3 h46 q47 w49 ?_
    refine zW ((ih_f166 out39 (k40+1) o hF) _ rfl _ hq)
  ·have z43:¬((k40:Int)<(out39.length:Int)):=auz
   cases hF
   refine kx3 h41 q42 z43 ?_
   refine zX hq
theorem CC.f167 (v4:(List (List Pattern))×Bool):(∀(out:List Step) (i:Nat) (o:List Step),F.f167 v4 out i=some o->∀(c:Code),ZS [1,1,1,1,1,0,1,0,0] (ZH Tryz.f39)=some c->∀(Q:Exit->ASt->Prop),(Q (.exit 0) ⟨[(10,.ptr 1 0)],[.dead,.cells [.own 2 (zA (α:=Step) o)],.elems 8 (zB zE o)]⟩)->ALoopU zQ B 0 98 (hold c .mk) ⟨[(10,.ptr 1 0),(32,am (cL zG) v4.1),(33,li (v4.1.length:Int)),(34,li (i:Int))],[.dead,.cells [.own 2 (zA (α:=Step) out)],.elems 8 (zB zE out)]⟩ (hold Q .mk)):=by
 refine F.f167.partial_correctness v4
  _
  ?_
 ·intro _f_f167 ih_f167 out i o hF
  refine ZJ rfl fun Q hq hk hs=> ?_
  have b32:=hk 32
  simp -dsimp at b32
  have d2:=hs 2 _ rfl
  simp -dsimp[zS]at d2
  clear hk hs
  refine eN ?_
  revert hF;refine kS ?_ ?_<;>intro h8 q9 hF
  ·have z10:((i:Int)<(v4.1.length:Int)):=auz
   apply oB hF;intro x e11 hF
   have le11:=ZA e11
   refine ZW h8 z10 e11 ?_
   apply oB hF;intro o'38 ho37 hF
   refine zP (((CC.f165 B hB1 hB2 v4 out i x) out 0 o'38 ho37) _ rfl _ ?_)
   refine kB hF fun o'51 ho50 hF=> ?_
   refine zP (((CC.f166 B hB1 hB2 v4 i) o'38 out.length o'51 ho50) _ rfl _ ?_)
   apply oC hF;intro c52 hF
   have w53:i64.wrap ((i:Int)+1)=(i:Int)+1:=ZC (by omega) (by omega)
   refine kx1 w53 ?_
   refine zW ((ih_f167 o'51 (i+1) o hF) _ rfl _ hq)
  ·have z10:¬((i:Int)<(v4.1.length:Int)):=auz
   cases hF
   refine kx3 h8 q9 z10 ?_
   refine zX hq
theorem C.f168 (w:List zY)(t:Ty)(list:List Clause)(r:(List Step)×Bool)(hF:F.f168 w t list=some r):PureCall zQ B 39 [am zZ w,.agg [li t.data,li t.index],am yA list] (.tup [am zE r.1,.lit (.bool r.2)]):=by
 unfold F.f168 at hF
 refine yB func39 rfl ntmps39 ?_
 refine kB hF fun v e1 hF=> ?_
 refine((C.f145 B hB1 hB2 w t list v e1)).goI ?_
 revert hF;refine kN (fun h2 q3 hF=> ?_) (fun h2 q3 hF=> ?_)
 ·cases hF
  exact kc2 h2 q3
 ·refine kB hF fun v4 e5 hF=> ?_
  refine((C.f155 B hB1 hB2 list v4 e5)).goI ?_
  revert hF;refine kN (fun h6 q7 hF=> ?_) (fun h6 q7 hF=> ?_)
  ·cases hF
   exact kc2 h6 q7
  ·refine kB hF fun o'55 ho54 hF=> ?_
   refine zR ⟨[(10,.ptr 1 0),(32,.arr (zB (cL zG) v4.1)),(33,.lit (.int .i64 (v4.1.length:Int))),(34,.lit (.int .i64 0))],[.dead,.cells [.own 2 (zA (α:=Step) [])],.elems 8 (zB zE [])]⟩ (by refine yC (yD 1 0 8 (by simp -dsimp;rfl) (by simp -dsimp)) ?_;exact(gT (by simp) (by simp_all))) ?_
   refine((CC.f167 B hB1 hB2 v4) [] 0 o'55 ho54) _ rfl _ ?_
   apply oC hF;intro c56 hF
   cases hF
   exact kc0
theorem CC.f169 (w:List zY)(holes:Bool):(∀(t:Ty) (v:Vl.Value) (deep:Int) (count:Int) (r:Bool×Int),F.f169 w t v deep holes count=some r->MutCall zQ B 81 [li count] [am zZ w,.agg [li t.data,li t.index],.agg [li v.ctor,li v.n,am Vl.Value.c v.kids],li deep,.lit (.bool holes),.ptr 0 0] (.lit (.bool r.1)) [li r.2])/\
  (∀(v:Vl.Value) (deep:Int) (v60:List Ty) (z65:Int) (i66:Nat) (o:Lo (Bool×Int) Int),F.f171 w v deep holes v60 z65 i66=some o->∀(c:Code),ZS [1,1,1,1,1,1,0,1,0,0] (ZH Tryz.f81)=some c->∀(Q:Exit->ASt->Prop),o.post (fun r=>∀st,ZAG zQ Tryz.f81 (fun r' σ'=>r'.le (.lit (.bool r.1))/\ZBL σ' [li r.2]) .ret st->Q .ret st) (fun s=>Q (.exit 1) ⟨[],[.cells [li s]]⟩)->ALoopU zQ B 1 108 (hold c .mk) ⟨[(0,am zZ w),(3,li deep),(4,.lit (.bool holes)),(5,.ptr 0 0),(13,am Ty.c v60),(88,am Vl.Value.c v.kids),(89,li (v.kids.length:Int)),(90,li (i66:Int))],[.cells [li z65]]⟩ (hold Q .mk))/\
  (∀(v:Vl.Value) (deep:Int) (v27:List Ty) (z:Int) (i:Nat) (o:Lo (Bool×Int) Int),F.f170 w v deep holes v27 z i=some o->∀(c:Code),ZS [1,1,1,1,1,1,0,1,0,0] (ZH Tryz.f81)=some c->∀(Q:Exit->ASt->Prop),o.post (fun r=>∀st,ZAG zQ Tryz.f81 (fun r' σ'=>r'.le (.lit (.bool r.1))/\ZBL σ' [li r.2]) .ret st->Q .ret st) (fun s=>Q (.exit 1) ⟨[],[.cells [li s]]⟩)->ALoopU zQ B 1 108 (hold c .mk) ⟨[(0,am zZ w),(3,li deep),(4,.lit (.bool holes)),(5,.ptr 0 0),(13,am Ty.c v27),(88,am Vl.Value.c v.kids),(89,li (v.kids.length:Int)),(90,li (i:Int))],[.cells [li z]]⟩ (hold Q .mk)):=by
 refine F.f169.mutual_partial_correctness w holes
  _ _ _
  ?_ ?_ ?_
 ·intro _f_f171 _f_f170 ih_f171 ih_f170 t v deep count r hF
  refine MutCall.inn func81 rfl ntmps81 ?_
  revert hF;refine kN ?_ ?_<;>intro h1 q2 hF
  ·refine kx2 h1 q2 ?_
   revert hF;refine aS ?_ ?_<;>intro h3 q4 hF
   ·cases hF
    exact kc3 h1 q2 h3
   ·refine kx4 h1 q2 h3 q4 ?_
    revert hF;refine aS (fun h5 q6 hF=> ?_) (fun h5 q6 hF=> ?_)
    ·refine kx5 h1 q2 h3 q4 h5 ?_
     revert hF;refine aS ?_ ?_<;>intro h7 q8 hF
     ·refine kx6 h1 q2 h3 q4 h5 h7 ?_
      revert hF;refine aS ?_ ?_<;>intro h9 q10 hF
      ·cases hF
       exact kc7 h1 q2 h3 q4 h5 h7 h9
      ·cases hF
       exact kc8 h1 q2 h3 q4 h5 h7 h9 q10
     ·refine kx7 h1 q2 h3 q4 h5 h7 q8 ?_
      revert hF;refine aS ?_ ?_<;>intro h11 q12 hF
      ·refine kx8 h1 q2 h3 q4 h5 h7 q8 h11 ?_
       revert hF;refine aS ?_ ?_<;>intro h13 q14 hF
       ·refine kx9 h1 q2 h3 q4 h5 h7 q8 h11 h13 ?_
        apply oB hF;intro v15 e16 hF
        refine((zJ B hB1 hB2 v.n 0 9 v15 e16)).goI ?_
        refine kx9 h1 q2 h3 q4 h5 h7 q8 h11 h13 ?_
        revert hF;refine aS (fun h17 q18 hF=> ?_) (fun h17 q18 hF=> ?_)
        ·cases hF
         repeat first|refine cg ?_|simp -dsimp[h1,q2,h3,q4,h5,h7,q8,h11,h13,h17]
        ·cases hF
         repeat first|refine cg ?_|simp -dsimp[h1,q2,h3,q4,h5,h7,q8,h11,h13,h17,q18]
       ·cases hF
        repeat first|refine cg ?_|simp -dsimp[h1,q2,h3,q4,h5,h7,q8,h11,h13,q14]
      ·refine kx9 h1 q2 h3 q4 h5 h7 q8 h11 q12 ?_
       refine zL follows ?_
       refine kx9 h1 q2 h3 q4 h5 h7 q8 h11 q12 ?_
       revert hF;refine aS ?_ ?_<;>intro h19 q20 hF
       ·repeat first|refine cg ?_|simp -dsimp[h1,q2,h3,q4,h5,h7,q8,h11,q12,h19]
        apply oB hF;intro v21 e22 hF
        refine((C.f115 B hB1 hB2 w t v21 e22)).pgoW (by simp[h1,q2,h3,q4,h5,h7,q8,h11,q12,h19]) (by simp) ?_
        repeat first|refine cg ?_|simp -dsimp[h1,q2,h3,q4,h5,h7,q8,h11,q12,h19]
        apply oB hF;intro v23 e24 hF
        refine((C.f118 B hB1 hB2 v21 v.ctor v23 e24)).pgoW (by simp[h1,q2,h3,q4,h5,h7,q8,h11,q12,h19]) (by simp) ?_
        repeat first|refine cg ?_|simp -dsimp[h1,q2,h3,q4,h5,h7,q8,h11,q12,h19]
        revert hF;refine aN (fun h25 q26 hF=> ?_) (fun h25 q26 hF=> ?_)
        ·cases hF
         repeat first|refine cg ?_|simp -dsimp[h1,q2,h3,q4,h5,h7,q8,h11,q12,h19,h25,q26]
        ·repeat first|refine cg ?_|simp -dsimp[h1,q2,h3,q4,h5,h7,q8,h11,q12,h19,h25,q26]
         apply oB hF;intro v27 e28 hF
         refine((C.f121 B hB1 hB2 w t v.ctor v27 e28)).goI ?_
         repeat first|refine cg ?_|simp -dsimp[h1,q2,h3,q4,h5,h7,q8,h11,q12,h19,h25,q26]
         revert hF;refine aN ?_ ?_<;>intro h29 q30 hF
         ·have z31:¬((v27.length:Int)=(v.kids.length:Int)):=auz
          cases hF
          repeat first|refine cg ?_|simp -dsimp[h1,q2,h3,q4,h5,h7,q8,h11,q12,h19,h25,q26,h29,q30,z31]
         ·have z31:((v27.length:Int)=(v.kids.length:Int)):=auz
          repeat first|refine cg ?_|simp -dsimp[h1,q2,h3,q4,h5,h7,q8,h11,q12,h19,h25,q26,h29,q30,z31]
          apply oB hF;intro o' ho43 hF
          refine zP ((ih_f170 v deep v27 (i64.wrap (count+1)) 0 o' ho43) _ rfl _ ?_)
          rcases o' with r0|sx
          ·dsimp only at hF
           cases hF
           intro st h
           simpa using h
          ·dsimp only at hF
           cases hF
           exact kc0
       ·cases hF
        repeat first|refine cg ?_|simp -dsimp[h1,q2,h3,q4,h5,h7,q8,h11,q12,h19,q20]
    ·refine kx6 h1 q2 h3 q4 h5 q6 ?_
     revert hF;refine aS ?_ ?_<;>intro h44 q45 hF
     ·refine kx7 h1 q2 h3 q4 h5 q6 h44 ?_
      revert hF;refine aS ?_ ?_<;>intro h46 q47 hF
      ·refine kx8 h1 q2 h3 q4 h5 q6 h44 h46 ?_
       apply oB hF;intro v48 e49 hF
       refine((zJ B hB1 hB2 v.n 0 9 v48 e49)).goI ?_
       refine kx8 h1 q2 h3 q4 h5 q6 h44 h46 ?_
       revert hF;refine aS (fun h50 q51 hF=> ?_) (fun h50 q51 hF=> ?_)
       ·cases hF
        exact kc9 h1 q2 h3 q4 h5 q6 h44 h46 h50
       ·cases hF
        repeat first|refine cg ?_|simp -dsimp[h1,q2,h3,q4,h5,q6,h44,h46,h50,q51]
      ·cases hF
       exact kc9 h1 q2 h3 q4 h5 q6 h44 h46 q47
     ·refine kx8 h1 q2 h3 q4 h5 q6 h44 q45 ?_
      refine zL follows ?_
      refine kx8 h1 q2 h3 q4 h5 q6 h44 q45 ?_
      revert hF;refine aS ?_ ?_<;>intro h52 q53 hF
      ·refine kx9 h1 q2 h3 q4 h5 q6 h44 q45 h52 ?_
       apply oB hF;intro v54 e55 hF
       refine((C.f115 B hB1 hB2 w t v54 e55)).pgoW (by simp[h1,q2,h3,q4,h5,q6,h44,q45,h52]) (by simp) ?_
       refine kx9 h1 q2 h3 q4 h5 q6 h44 q45 h52 ?_
       apply oB hF;intro v56 e57 hF
       refine((C.f118 B hB1 hB2 v54 v.ctor v56 e57)).pgoW (by simp[h1,q2,h3,q4,h5,q6,h44,q45,h52]) (by simp) ?_
       refine kx9 h1 q2 h3 q4 h5 q6 h44 q45 h52 ?_
       revert hF;refine aN (fun h58 q59 hF=> ?_) (fun h58 q59 hF=> ?_)
       ·cases hF
        repeat first|refine cg ?_|simp -dsimp[h1,q2,h3,q4,h5,q6,h44,q45,h52,h58,q59]
       ·repeat first|refine cg ?_|simp -dsimp[h1,q2,h3,q4,h5,q6,h44,q45,h52,h58,q59]
        apply oB hF;intro v60 e61 hF
        refine((C.f121 B hB1 hB2 w t v.ctor v60 e61)).goI ?_
        repeat first|refine cg ?_|simp -dsimp[h1,q2,h3,q4,h5,q6,h44,q45,h52,h58,q59]
        revert hF;refine aN ?_ ?_<;>intro h62 q63 hF
        ·have z64:¬((v60.length:Int)=(v.kids.length:Int)):=auz
         cases hF
         repeat first|refine cg ?_|simp -dsimp[h1,q2,h3,q4,h5,q6,h44,q45,h52,h58,q59,h62,q63,z64]
        ·have z64:((v60.length:Int)=(v.kids.length:Int)):=auz
         repeat first|refine cg ?_|simp -dsimp[h1,q2,h3,q4,h5,q6,h44,q45,h52,h58,q59,h62,q63,z64]
         apply oB hF;intro o'80 ho79 hF
         refine zP ((ih_f171 v deep v60 (i64.wrap (count+1)) 0 o'80 ho79) _ rfl _ ?_)
         rcases o'80 with r082|sx81
         ·dsimp only at hF
          cases hF
          intro st h
          simpa using h
         ·dsimp only at hF
          cases hF
          exact kc0
      ·cases hF
       repeat first|refine cg ?_|simp -dsimp[h1,q2,h3,q4,h5,q6,h44,q45,h52,q53]
  ·cases hF
   exact kc2 h1 q2
 ·intro _f_f169 _f_f171 ih_f169 ih_f171 v deep v60 z65 i66 o hF
  refine ZJ rfl fun Q hq hk hs=> ?_
  have b0:=hk 0
  simp -dsimp at b0
  have b13:=hk 13
  simp -dsimp at b13
  have b88:=hk 88
  simp -dsimp at b88
  clear hk hs
  refine eN ?_
  revert hF;refine kS ?_ ?_<;>intro h67 q68 hF
  ·have z69:((i66:Int)<(v.kids.length:Int)):=auz
   apply oB hF;intro x70 e71 hF
   have le71:=ZA e71
   refine ZW h67 z69 e71 ?_
   refine zK [81] [(0,0),(0,0),(0,0),(0,0),(0,0),(0,0),(0,0),(0,0),(0,0),(0,0),(0,1),(1,1)] [1,1,1,1,1,1,1,1,1,1,1,1] follows ?_
   apply oB hF;intro x72 e73 hF
   have le73:=ZA e73
   refine ZAS h67 z69 e71 e73 ?_
   apply oB hF;intro v74 e75 hF
   refine((ih_f169 x72 x70 (i64.wrap (deep+1)) z65 v74 e75)).ego 0 rfl (by simp[h67,z69,↓e71,↓e73]) (by simp) (by simp[h67,z69,↓e71,↓e73]) ?_
   refine ZAS h67 z69 e71 e73 ?_
   revert hF;refine aN (fun h76 q77 hF=> ?_) (fun h76 q77 hF=> ?_)
   ·cases hF
    refine ZAA h67 z69 e71 e73 h76 q77 ?_
    refine lG _ (gR _) (hq _ ?_)
    repeat first|refine cg ?_|simp -dsimp[h67,z69,↓e71,↓e73,h76,q77]
   ·have w78:i64.wrap ((i66:Int)+1)=(i66:Int)+1:=ZC (by omega) (by omega)
    repeat first|refine cg ?_|simp -dsimp[h67,z69,↓e71,↓e73,h76,q77,w78]
    refine zW ((ih_f171 v deep v60 v74.2 (i66+1) o hF) _ rfl _ hq)
  ·have z69:¬((i66:Int)<(v.kids.length:Int)):=auz
   cases hF
   refine kx3 h67 q68 z69 ?_
   refine zX hq
 ·intro _f_f169 _f_f170 ih_f169 ih_f170 v deep v27 z i o hF
  refine ZJ rfl fun Q hq hk hs=> ?_
  have b0:=hk 0
  simp -dsimp at b0
  have b13:=hk 13
  simp -dsimp at b13
  have b88:=hk 88
  simp -dsimp at b88
  clear hk hs
  refine eN ?_
  revert hF;refine kS ?_ ?_<;>intro h32 q33 hF
  ·have z34:((i:Int)<(v.kids.length:Int)):=auz
   apply oB hF;intro x e35 hF
   have le35:=ZA e35
   refine ZW h32 z34 e35 ?_
   refine zK [81] [(0,0),(0,0),(0,0),(0,0),(0,0),(0,0),(0,0),(0,0),(0,0),(0,0),(0,1),(1,1)] [1,1,1,1,1,1,1,1,1,1,1,1] follows ?_
   apply oB hF;intro x36 e37 hF
   have le37:=ZA e37
   refine ZAS h32 z34 e35 e37 ?_
   apply oB hF;intro v38 e39 hF
   refine((ih_f169 x36 x (i64.wrap (deep+1)) z v38 e39)).ego 0 rfl (by simp[h32,z34,↓e35,↓e37]) (by simp) (by simp[h32,z34,↓e35,↓e37]) ?_
   refine ZAS h32 z34 e35 e37 ?_
   revert hF;refine aN (fun h40 q41 hF=> ?_) (fun h40 q41 hF=> ?_)
   ·cases hF
    refine ZAA h32 z34 e35 e37 h40 q41 ?_
    refine lG _ (gR _) (hq _ ?_)
    repeat first|refine cg ?_|simp -dsimp[h32,z34,↓e35,↓e37,h40,q41]
   ·have w42:i64.wrap ((i:Int)+1)=(i:Int)+1:=ZC (by omega) (by omega)
    repeat first|refine cg ?_|simp -dsimp[h32,z34,↓e35,↓e37,h40,q41,w42]
    refine zW ((ih_f170 v deep v27 v38.2 (i+1) o hF) _ rfl _ hq)
  ·have z34:¬((i:Int)<(v.kids.length:Int)):=auz
   cases hF
   refine kx3 h32 q33 z34 ?_
   refine zX hq
theorem C.f172 (w:List zY)(t:Ty)(v:Vl.Value)(r:Bool)(hF:F.f172 w t v=some r):PureCall zQ B 40 [am zZ w,.agg [li t.data,li t.index],.agg [li v.ctor,li v.n,am Vl.Value.c v.kids]] (.lit (.bool r)):=by
 unfold F.f172 at hF
 refine yB func40 rfl ntmps40 ?_
 refine kB hF fun v1 e2 hF=> ?_
 refine(((CC.f169 B hB1 hB2 w false).1 t v 1 0 v1 e2)).go 2 rfl (by simp) (by simp) (by simp) ?_
 cases hF
 exact kc0
theorem CC.f173 (s1:List Int)(s2:List Int):(∀(i:Nat) (o:Lo Bool Unit),F.f173 s1 s2 i=some o->∀(c:Code),ZS [1,1,0,1,0,0] (ZH Tryz.f88)=some c->∀(Q:Exit->ASt->Prop),o.post (fun r=>∀st,ZAG zQ Tryz.f88 (fun r' _=>r'.le (.lit (.bool r))) .ret st->Q .ret st) (fun s=>Q (.exit 0) ⟨[],[]⟩)->ALoopU zQ B 0 26 (hold c .mk) ⟨[(0,am cI s1),(1,am cI s2),(12,li (s1.length:Int)),(13,li (i:Int))],[]⟩ (hold Q .mk)):=by
 refine F.f173.partial_correctness s1 s2
  _
  ?_
 ·intro _f_f173 ih_f173 i o hF
  refine ZJ rfl fun Q hq hk hs=> ?_
  have b0:=hk 0
  simp -dsimp at b0
  have b1:=hk 1
  simp -dsimp at b1
  clear hk hs
  refine eN ?_
  revert hF;refine kS ?_ ?_<;>intro h4 q5 hF
  ·have z6:((i:Int)<(s1.length:Int)):=auz
   refine kx2 h4 z6 ?_
   refine zL follows ?_
   apply oB hF;intro x e7 hF
   have le7:=ZA e7
   apply oB hF;intro x8 e9 hF
   have le9:=ZA e9
   refine ZEQ e7 e9 ?_
   revert hF;refine aN ?_ ?_<;>intro h10 q11 hF
   ·cases hF
    refine kx2 h10 q11 ?_
    refine lG _ (gR _) (hq _ ?_)
    exact kc0
   ·have w12:i64.wrap ((i:Int)+1)=(i:Int)+1:=ZC (by omega) (by omega)
    refine kx1 w12 ?_
    refine zW ((ih_f173 (i+1) o hF) _ rfl _ hq)
  ·have z6:¬((i:Int)<(s1.length:Int)):=auz
   cases hF
   refine kx3 h4 q5 z6 ?_
   refine zX hq
theorem C.f174 (s1:List Int)(s2:List Int)(r:Bool)(hF:F.f174 s1 s2=some r):PureCall zQ B 88 [am cI s1,am cI s2] (.lit (.bool r)):=by
 unfold F.f174 at hF
 refine yB func88 rfl ntmps88 ?_
 revert hF;refine kN ?_ ?_<;>intro h1 q2 hF
 ·have z3:¬((s1.length:Int)=(s2.length:Int)):=auz
  cases hF
  exact kc3 h1 q2 z3
 ·have z3:((s1.length:Int)=(s2.length:Int)):=auz
  refine kB hF fun o' ho13 hF=> ?_
  refine zP (((CC.f173 B hB1 hB2 s1 s2) 0 o' ho13) _ rfl _ ?_)
  rcases o' with r0|sx
  ·dsimp only at hF
   cases hF
   intro st h
   simpa using h
  ·dsimp only at hF
   cases hF
   exact kc0
theorem C.f175 (p:List Int)(a1:List Int)(r:Bool)(hF:F.f175 p a1=some r):PureCall zQ B 87 [am cI p,.rptr [am cI a1] 0] (.lit (.bool r)):=by
 unfold F.f175 at hF
 refine yB func87 rfl ntmps87 ?_
 refine kB hF fun v e1 hF=> ?_
 refine((C.f174 B hB1 hB2 p a1 v e1)).goI ?_
 cases hF
 exact kc0
theorem CC.f176 (s:List (List Int))(k0:List Int):(∀(i:Nat) (o:Lo Int Unit),F.f176 s k0 i=some o->∀(c:Code),ZS [1,0,1,0,0] (ZH Tryz.f131)=some c->∀(Q:Exit->ASt->Prop),o.post (fun r=>∀st,ZAG zQ Tryz.f131 (fun r' _=>r'.le (li r)) .ret st->Q .ret st) (fun s=>Q (.exit 0) ⟨[],[]⟩)->ALoopU zQ B 0 19 (hold c .mk) ⟨[(0,am (cL cI) s),(1,.fn (.func 87) [] [.rptr [am cI k0] 0]),(7,li (s.length:Int)),(8,li (i:Int))],[]⟩ (hold Q .mk)):=by
 refine F.f176.partial_correctness s k0
  _
  ?_
 ·intro _f_f176 ih_f176 i o hF
  refine ZJ rfl fun Q hq hk hs=> ?_
  have b0:=hk 0
  simp -dsimp at b0
  clear hk hs
  refine eN ?_
  revert hF;refine kS ?_ ?_<;>intro h1 q2 hF
  ·have z3:((i:Int)<(s.length:Int)):=auz
   apply oB hF;intro x e4 hF
   have le4:=ZA e4
   refine ZW h1 z3 e4 ?_
   apply oB hF;intro v e5 hF
   refine((C.f175 B hB1 hB2 x k0 v e5)).goI ?_
   revert hF;refine kS (fun h6 q7 hF=> ?_) (fun h6 q7 hF=> ?_)
   ·cases hF
    refine kx1 h6 ?_
    refine lG _ (gR _) (hq _ ?_)
    exact kc0
   ·have w8:i64.wrap ((i:Int)+1)=(i:Int)+1:=ZC (by omega) (by omega)
    refine kx2 q7 w8 ?_
    refine zW ((ih_f176 (i+1) o hF) _ rfl _ hq)
  ·have z3:¬((i:Int)<(s.length:Int)):=auz
   cases hF
   refine kx3 h1 q2 z3 ?_
   refine zX hq
theorem C.f177 (s:List (List Int))(k0:List Int)(r:Int)(hF:F.f177 s k0=some r):PureCall zQ B 131 [am (cL cI) s,.fn (.func 87) [] [.rptr [am cI k0] 0]] (li r):=by
 unfold F.f177 at hF
 refine yB func131 rfl ntmps131 ?_
 refine kB hF fun o' ho9 hF=> ?_
 refine zP (((CC.f176 B hB1 hB2 s k0) 0 o' ho9) _ rfl _ ?_)
 rcases o' with r0|sx
 ·dsimp only at hF
  cases hF
  intro st h
  simpa using h
 ·dsimp only at hF
  cases hF
  exact kc0
theorem C.f178 (s:List (List Int))(k0:List Int)(r:Bool)(hF:F.f178 s k0=some r):PureCall zQ B 86 [am (cL cI) s,.fn (.func 87) [] [.rptr [am cI k0] 0]] (.lit (.bool r)):=by
 unfold F.f178 at hF
 refine yB func86 rfl ntmps86 ?_
 refine kB hF fun v e1 hF=> ?_
 refine((C.f177 B hB1 hB2 s k0 v e1)).goI ?_
 cases hF
 exact kc0
theorem C.f179 (list:List (List Int))(path:List Int)(r:List (List Int))(hF:F.f179 list path=some r):BCall zQ B 43 [.elems 1 (zB (cL cI) list)] [.own 0 (zA (α:=List Int) list),am cI path] (.own 0 (zA (α:=List Int) r)) [.elems 1 (zB (cL cI) r)]:=by
 unfold F.f179 at hF
 refine zH func43 (by kernel_rfl) rfl ntmps43 (by simp) rfl (by simp) (by simp) (by simp) (by simp) (by simp) (gR _) ?_
 refine kB hF fun v e1 hF=> ?_
 refine((C.f178 B hB1 hB2 list path v e1)).lend (by simp -dsimp) (by simp -dsimp) ?_
 revert hF;refine kS (fun h2 q3 hF=> ?_) (fun h2 q3 hF=> ?_)
 ·cases hF
  repeat first|refine cg ?_|simp -dsimp[h2]
  all_goals(try first|omega|rfl)
 ·refine kx2 h2 q3 ?_
  apply oB hF;intro v4 e5 hF
  refine((zI B hB1 hB2 path v4 e5)).go (pl [2]) (by simp) (by simp) (by intro i j hi;simp at hi) (by intro i hi hi';simp at hi hi';first|omega|(subst hi';simp[pl])) (by first|simp[h2,q3];done|simp_all) (by first|simp[h2,q3];done|simp_all) ?_
  apply oC hF;intro c6 hF
  cases hF
  repeat first|refine cg ?_|simp -dsimp[h2,q3]
  all_goals(try first|omega|rfl)
theorem C.impl_TestedPaths_1__g (s:Step)(a1:List (List Int))(r:List (List Int))(hF:F.f180 s a1=some r):BCall zQ B 42 [.cells [.own 1 (zA (α:=List Int) a1)],.elems 1 (zB (cL cI) a1)] [.agg [li s.op,am cI s.path,li s.ctor,li s.n,li s.m,li s.clause,am zF s.binds,li s.to],.ptr 0 0] (.tup []) [.cells [.own 1 (zA (α:=List Int) r)],.elems 1 (zB (cL cI) r)]:=by
 unfold F.f180 at hF
 refine zH func42 (by kernel_rfl) rfl ntmps42 (by simp) rfl (by simp) (by simp) (by simp) (by simp) (by simp) (gR _) ?_
 revert hF;refine kS ?_ ?_<;>intro h1 q2 hF
 ·refine kx1 h1 ?_
  apply oB hF;intro v e3 hF
  refine((C.f179 B hB1 hB2 a1 s.path v e3)).go (pl [1]) (by simp) (by simp) (Zs _ rfl (by decide)) (by intro i hi hi';simp at hi hi';first|omega|(subst hi';simp[pl])) (by first|simp[h1];done|simp_all) (by first|simp[h1];done|simp_all) ?_
  cases hF
  repeat first|refine cg ?_|simp -dsimp[h1]
  all_goals(try first|omega|rfl|(simp;done)|(simp only[zC,zD]at*;omega)|simp)
 ·cases hF
  repeat first|refine cg ?_|simp -dsimp[h1,q2]
  all_goals(try first|omega|rfl|(simp;done)|(simp only[zC,zD]at*;omega)|simp)
theorem CC.f181 (path:List Int):(∀(z:Int) (z1:Int) (z2:List Vl.Value) (i:Nat) (o:Int×Int×(List Vl.Value)),F.f181 path z z1 z2 i=some o->∀(c:Code),ZS [1,0,1,0,0] (ZH Tryz.f83)=some c->∀(Q:Exit->ASt->Prop),(Q (.exit 0) ⟨[(2,.ptr 0 0),(4,.ptr 1 0)],[.cells [li o.1,li o.2.1,am Vl.Value.c o.2.2],.cells [li 0,li 0,.lit (.slice none 0 0)]]⟩)->ALoopU zQ B 0 20 (hold c .mk) ⟨[(2,.ptr 0 0),(4,.ptr 1 0),(7,am cI path),(8,li (path.length:Int)),(9,li (i:Int))],[.cells [li z,li z1,am Vl.Value.c z2],.cells [li 0,li 0,.lit (.slice none 0 0)]]⟩ (hold Q .mk)):=by
 refine F.f181.partial_correctness path
  _
  ?_
 ·intro _f_f181 ih_f181 z z1 z2 i o hF
  refine ZJ rfl fun Q hq hk hs=> ?_
  have b7:=hk 7
  simp -dsimp at b7
  have d0:=hs 0 _ rfl
  simp -dsimp[zS]at d0
  clear hk hs
  refine eN ?_
  revert hF;refine kS ?_ ?_<;>intro h3 q4 hF
  ·have z5:((i:Int)<(path.length:Int)):=auz
   apply oB hF;intro x e6 hF
   have le6:=ZA e6
   apply oB hF;intro x7 e8a hF
   have e8a:=ZQ e8a;obtain⟨ne8,e8⟩:=e8a
   have le8:=ZA e8
   have w9:i64.wrap ((i:Int)+1)=(i:Int)+1:=ZC (by omega) (by omega)
   repeat first|refine cg ?_|simp -dsimp[h3,z5,↓e6,↓e8,w9]
   refine zW ((ih_f181 x7.ctor x7.n x7.kids (i+1) o hF) _ rfl _ hq)
  ·have z5:¬((i:Int)<(path.length:Int)):=auz
   cases hF
   refine kx3 h3 q4 z5 ?_
   refine zX hq
theorem C.f182 (v:Vl.Value)(path:List Int)(r:Vl.Value)(hF:F.f182 v path=some r):PureCall zQ B 83 [.agg [li v.ctor,li v.n,am Vl.Value.c v.kids],am cI path] (.agg [li r.ctor,li r.n,am Vl.Value.c r.kids]):=by
 unfold F.f182 at hF
 refine yB func83 rfl ntmps83 ?_
 refine kB hF fun o' ho10 hF=> ?_
 refine zP (((CC.f181 B hB1 hB2 path) v.ctor v.n v.kids 0 o' ho10) _ rfl _ ?_)
 cases hF
 exact kc0
theorem C.f183 (ctor:Int)(n:Int)(m:Int)(x:Vl.Value)(r:Bool)(hF:F.f183 ctor n m x=some r):PureCall zQ B 82 [li ctor,li n,li m,.agg [li x.ctor,li x.n,am Vl.Value.c x.kids]] (.lit (.bool r)):=by
 unfold F.f183 at hF
 refine yB func82 rfl ntmps82 ?_
 revert hF;refine kS ?_ ?_<;>intro h1 q2 hF
 ·refine kx1 h1 ?_
  revert hF;refine aS ?_ ?_<;>intro h3 q4 hF
  ·refine kx2 h1 h3 ?_
   apply oB hF;intro v e5 hF
   refine((zJ B hB1 hB2 x.n n m v e5)).goI ?_
   cases hF
   exact kc2 h1 h3
  ·cases hF
   exact kc3 h1 h3 q4
 ·cases hF
  exact kc2 h1 q2
theorem CC.f184  :(∀(v:Vl.Value) (r:Vl.Value),F.f184 v=some r->PureCall zQ B 128 [.agg [li v.ctor,li v.n,am Vl.Value.c v.kids]] (.agg [li r.ctor,li r.n,am Vl.Value.c r.kids]))/\
  (∀(v:Vl.Value) (out:List Vl.Value) (i:Nat) (o:List Vl.Value),F.f185 v out i=some o->∀(c:Code),ZS [1,1,0,1,0,0] (ZH Tryz.f128)=some c->∀(Q:Exit->ASt->Prop),(Q (.exit 0) ⟨[(2,.ptr 1 0),(3,.ptr 2 0)],[.dead,.cells [li 0,li 0,.lit (.slice none 0 0)],.cells [li v.ctor,li v.n,.own 3 (zA (α:=Vl.Value) o)],.elems 3 (zB Vl.Value.c o)]⟩)->ALoopU zQ B 0 27 (hold c .mk) ⟨[(2,.ptr 1 0),(3,.ptr 2 0),(12,am Vl.Value.c v.kids),(13,li (v.kids.length:Int)),(14,li (i:Int))],[.dead,.cells [li 0,li 0,.lit (.slice none 0 0)],.cells [li v.ctor,li v.n,.own 3 (zA (α:=Vl.Value) out)],.elems 3 (zB Vl.Value.c out)]⟩ (hold Q .mk)):=by
 refine F.f184.mutual_partial_correctness 
  _ _
  ?_ ?_
 ·intro _f_f185 ih_f185 v r hF
  refine yB func128 rfl ntmps128 ?_
  refine kB hF fun o' ho9 hF=> ?_
  refine zR ⟨[(2,.ptr 1 0),(3,.ptr 2 0),(12,.arr (zB Vl.Value.c v.kids)),(13,.lit (.int .i64 (v.kids.length:Int))),(14,.lit (.int .i64 0))],[.dead,.cells [.lit (.int .i64 0),.lit (.int .i64 0),.lit (.slice none 0 0)],.cells [.lit (.int .i64 v.ctor),.lit (.int .i64 v.n),.own 3 (zA (α:=Vl.Value) [])],.elems 3 (zB Vl.Value.c [])]⟩ (by refine yC (yD 2 2 3 (by simp -dsimp;rfl) (by simp -dsimp)) ?_;exact(gT (by simp) (by simp -dsimp))) ?_
  refine(ih_f185 v [] 0 o' ho9) _ rfl _ ?_
  cases hF
  exact kc0
 ·intro _f_f184 _f_f185 ih_f184 ih_f185 v out i o hF
  refine ZJ rfl fun Q hq hk hs=> ?_
  have b12:=hk 12
  simp -dsimp at b12
  have d3:=hs 3 _ rfl
  simp -dsimp[zS]at d3
  clear hk hs
  refine eN ?_
  revert hF;refine kS ?_ ?_<;>intro h1 q2 hF
  ·have z3:((i:Int)<(v.kids.length:Int)):=auz
   apply oB hF;intro x e4 hF
   have le4:=ZA e4
   refine ZW h1 z3 e4 ?_
   refine zK [] [(0,1),(0,1),(0,0),(0,3),(0,3),(0,3),(2,2),(0,3)] [0,2,1,1,1,1,1,1] follows ?_
   refine kB hF fun v5 e6 hF=> ?_
   refine((ih_f184 x v5 e6)).pgoW (by simp_all) (by simp) ?_
   apply oC hF;intro c7 hF
   have w8:i64.wrap ((i:Int)+1)=(i:Int)+1:=ZC (by omega) (by omega)
   refine kx1 w8 ?_
   refine zW ((ih_f185 v (out++[v5]) (i+1) o hF) _ rfl _ hq)
  ·have z3:¬((i:Int)<(v.kids.length:Int)):=auz
   cases hF
   refine kx3 h1 q2 z3 ?_
   refine zX hq
theorem CC.f186 (list:List PathBind)(v:Vl.Value):(∀(i:Nat) (out:List Bind) (o:List Bind),F.f186 list v i out=some o->∀(c:Code),ZS [1,1,0,1,0,0] (ZH Tryz.f84)=some c->∀(Q:Exit->ASt->Prop),(Q (.exit 0) ⟨[(5,.own 1 (zA (α:=Bind) o))],[.dead,.elems 4 (zB yF o)]⟩)->ALoopU zQ B 0 27 (hold c .mk) ⟨[(3,.ptr 0 0),(5,.own 1 (zA (α:=Bind) out)),(8,am zF list),(9,li (list.length:Int)),(10,li (i:Int))],[.cells [li v.ctor,li v.n,am Vl.Value.c v.kids],.elems 4 (zB yF out)]⟩ (hold Q .mk)):=by
 refine F.f186.partial_correctness list v
  _
  ?_
 ·intro _f_f186 ih_f186 i out o hF
  refine ZJ rfl fun Q hq hk hs=> ?_
  have b8:=hk 8
  simp -dsimp at b8
  have d0:=hs 0 _ rfl
  simp -dsimp[zS]at d0
  have d1:=hs 1 _ rfl
  simp -dsimp[zS]at d1
  clear hk hs
  refine eN ?_
  revert hF;refine kS ?_ ?_<;>intro h1 q2 hF
  ·have z3:((i:Int)<(list.length:Int)):=auz
   apply oB hF;intro x e4 hF
   have le4:=ZA e4
   refine ZW h1 z3 e4 ?_
   refine zK [] [(0,1),(0,0),(0,0),(0,0),(0,0),(0,0),(0,2),(0,2),(0,0),(0,2),(0,2),(2,2)] [1,1,1,1,1,1,1,1,1,1,1,1] follows ?_
   refine kB hF fun v5 e6 hF=> ?_
   refine((C.f182 B hB1 hB2 v x.path v5 e6)).pgoW (by simp_all) (by simp) ?_
   refine kB hF fun v7 e8 hF=> ?_
   refine(((CC.f184 B hB1 hB2).1 v5 v7 e8)).pgoW (by simp_all) (by simp) ?_
   apply oC hF;intro c9 hF
   have w10:i64.wrap ((i:Int)+1)=(i:Int)+1:=ZC (by omega) (by omega)
   refine kx1 w10 ?_
   refine zW ((ih_f186 (i+1) (out++[(⟨x.var,v7⟩:Bind)]) o hF) _ rfl _ hq)
  ·have z3:¬((i:Int)<(list.length:Int)):=auz
   cases hF
   refine kx3 h1 q2 z3 ?_
   refine zX hq
theorem C.f187 (list:List PathBind)(v:Vl.Value)(r:List Bind)(hF:F.f187 list v=some r):PureCall zQ B 84 [am zF list,.agg [li v.ctor,li v.n,am Vl.Value.c v.kids]] (am yF r):=by
 unfold F.f187 at hF
 refine yB func84 rfl ntmps84 ?_
 refine kB hF fun o' ho11 hF=> ?_
 refine zR ⟨[(3,.ptr 0 0),(5,.own 1 (zA (α:=Bind) [])),(8,.arr (zB zF list)),(9,.lit (.int .i64 (list.length:Int))),(10,.lit (.int .i64 0))],[.cells [.lit (.int .i64 v.ctor),.lit (.int .i64 v.n),.arr (zB Vl.Value.c v.kids)],.elems 4 (zB yF [])]⟩ (by refine yC (Gh.nil 5 4 (by simp -dsimp)) ?_;exact(gT (by simp) (by simp -dsimp))) ?_
 refine((CC.f186 B hB1 hB2 list v) 0 [] o' ho11) _ rfl _ ?_
 cases hF
 exact kc0
theorem C.f188 (b:Bind)(a1:Guard)(r:Bool)(hF:F.f188 b a1=some r):PureCall zQ B 130 [.agg [li b.var,li b.value.ctor,li b.value.n,am Vl.Value.c b.value.kids],.rptr [li a1.op,li a1.var,li a1.n] 0] (.lit (.bool r)):=by
 unfold F.f188 at hF
 refine yB func130 rfl ntmps130 ?_
 cases hF
 exact kc0
theorem CC.f189 (s:List Bind)(k0:Guard):(∀(i:Nat) (o:Lo Int Unit),F.f189 s k0 i=some o->∀(c:Code),ZS [1,0,1,0,0] (ZH Tryz.f129)=some c->∀(Q:Exit->ASt->Prop),o.post (fun r=>∀st,ZAG zQ Tryz.f129 (fun r' _=>r'.le (li r)) .ret st->Q .ret st) (fun s=>Q (.exit 0) ⟨[],[]⟩)->ALoopU zQ B 0 19 (hold c .mk) ⟨[(0,am yF s),(1,.fn (.func 130) [] [.rptr [li k0.op,li k0.var,li k0.n] 0]),(7,li (s.length:Int)),(8,li (i:Int))],[]⟩ (hold Q .mk)):=by
 refine F.f189.partial_correctness s k0
  _
  ?_
 ·intro _f_f189 ih_f189 i o hF
  refine ZJ rfl fun Q hq hk hs=> ?_
  have b0:=hk 0
  simp -dsimp at b0
  clear hk hs
  refine eN ?_
  revert hF;refine kS ?_ ?_<;>intro h1 q2 hF
  ·have z3:((i:Int)<(s.length:Int)):=auz
   apply oB hF;intro x e4 hF
   have le4:=ZA e4
   refine ZW h1 z3 e4 ?_
   apply oB hF;intro v e5 hF
   refine((C.f188 B hB1 hB2 x k0 v e5)).goI ?_
   revert hF;refine kS (fun h6 q7 hF=> ?_) (fun h6 q7 hF=> ?_)
   ·cases hF
    refine kx1 h6 ?_
    refine lG _ (gR _) (hq _ ?_)
    exact kc0
   ·have w8:i64.wrap ((i:Int)+1)=(i:Int)+1:=ZC (by omega) (by omega)
    refine kx2 q7 w8 ?_
    refine zW ((ih_f189 (i+1) o hF) _ rfl _ hq)
  ·have z3:¬((i:Int)<(s.length:Int)):=auz
   cases hF
   refine kx3 h1 q2 z3 ?_
   refine zX hq
theorem C.f190 (s:List Bind)(k0:Guard)(r:Int)(hF:F.f190 s k0=some r):PureCall zQ B 129 [am yF s,.fn (.func 130) [] [.rptr [li k0.op,li k0.var,li k0.n] 0]] (li r):=by
 unfold F.f190 at hF
 refine yB func129 rfl ntmps129 ?_
 refine kB hF fun o' ho9 hF=> ?_
 refine zP (((CC.f189 B hB1 hB2 s k0) 0 o' ho9) _ rfl _ ?_)
 rcases o' with r0|sx
 ·dsimp only at hF
  cases hF
  intro st h
  simpa using h
 ·dsimp only at hF
  cases hF
  exact kc0
theorem C.f191 (g:Guard)(binds:List Bind)(r:Bool)(hF:F.f191 g binds=some r):PureCall zQ B 85 [.agg [li g.op,li g.var,li g.n],am yF binds] (.lit (.bool r)):=by
 unfold F.f191 at hF
 refine yB func85 rfl ntmps85 ?_
 revert hF;refine kS ?_ ?_<;>intro h1 q2 hF
 ·cases hF
  exact kc1 h1
 ·refine kx1 q2 ?_
  apply oB hF;intro v e3 hF
  refine((C.f190 B hB1 hB2 binds g v e3)).lend (by simp_all) (by simp -dsimp) ?_
  revert hF;refine kN ?_ ?_<;>intro h4 q5 hF
  ·apply oB hF;intro x e6a hF
   have e6a:=ZQ e6a;obtain⟨ne6,e6⟩:=e6a
   have le6:=ZA e6
   refine ZW h4 q5 e6 ?_
   revert hF;refine aN ?_ ?_<;>intro h7 q8 hF
   ·cases hF
    repeat first|refine cg ?_|simp -dsimp[↓e6,h7,q8]
   ·refine kdd e6 ?_
    revert hF;refine aS ?_ ?_<;>intro h9 q10 hF
    ·refine ZNk e6 h9 ?_
     revert hF;refine aN ?_ ?_<;>intro h11 q12 hF
     ·have n13:¬(g.op=2):=by omega
      cases hF
      repeat first|refine cg ?_|simp -dsimp[↓e6,h11,q12,n13]
     ·cases hF
      repeat first|refine cg ?_|simp -dsimp[↓e6,h11,q12]
    ·refine ZNk e6 q10 ?_
     revert hF;refine aS ?_ ?_<;>intro h14 q15 hF
     ·cases hF
      repeat first|refine cg ?_|simp -dsimp[↓e6,h14]
     ·cases hF
      repeat first|refine cg ?_|simp -dsimp[↓e6,q15]
  ·cases hF
   exact kc2 h4 q5
theorem CC.impl_runSteps__impl_TestedPaths_1__g_l1 (steps':List Step)(list:List Clause)(v:Vl.Value):(∀(out:List (List Int)) (count:Nat) (at':Int) (o:Int×(List Bind)×Int×(List (List Int))),F.f192 steps' list v out count at'=some o->∀(c:Code),ZS [1,1,1,0,0] (ZH Tryz.f41)=some c->∀(Q:Exit->ASt->Prop),(∀st,ZJ2 zQ Tryz.f41 (hold (fun r' σ'=>r'.le (.tup [li o.1,am yF o.2.1,li o.2.2.1])/\ZEH σ' [.cells [.own 1 (zA (α:=List Int) o.2.2.2)],.elems 1 (zB (cL cI) o.2.2.2)]) .mk) .ret st->Q .ret st)->ALoopU zQ B 2 65 (hold c .mk) ⟨[(0,am zE steps'),(1,am yA list),(3,.fn (.func 42) [] [.ptr 0 0]),(6,.ptr 2 0),(11,li (count:Int)),(12,li at')],[.cells [.own 1 (zA (α:=List Int) out)],.elems 1 (zB (cL cI) out),.cells [li v.ctor,li v.n,am Vl.Value.c v.kids]]⟩ (hold Q .mk)):=by
 refine F.f192.partial_correctness steps' list v
  _
  ?_
 ·intro _f_impl_runSteps__impl_TestedPaths_1__g_l1 ih_impl_runSteps__impl_TestedPaths_1__g_l1 out count at' o hF
  intro c hc Q hq
  obtain rfl:c=_:=ZEM hc rfl
  refine yG fun hk hs=> ?_
  have b0:=hk 0
  simp -dsimp at b0
  have b1:=hk 1
  simp -dsimp at b1
  have d1:=hs 1 _ rfl
  simp -dsimp[zS]at d1
  have d2:=hs 2 _ rfl
  simp -dsimp[zS]at d2
  clear hk hs
  refine eN ?_
  apply oB hF;intro x e1a hF
  have e1a:=ZQ e1a;obtain⟨ne1,e1⟩:=e1a
  have le1:=ZA e1
  refine kdd e1 ?_
  revert hF;refine aS ?_ ?_<;>intro h2 q3 hF
  ·cases hF
   refine ZNk e1 h2 ?_
   refine lG _ (gR _) (hq _ ?_)
   repeat first|refine cg ?_|simp -dsimp[↓e1,h2]
  ·refine ZCu e1 h2 q3 ?_
   apply oB hF;intro v4 e5 hF
   refine((C.impl_TestedPaths_1__g B hB1 hB2 x out v4 e5)).go (pl [0,1]) (by simp) (by simp) (Zs _ rfl (by decide)) (by intro i hi hi';simp at hi hi';omega) (by first|simp[↓e1,h2,q3];done|simp_all) (by first|simp[↓e1,h2,q3];done|simp_all) ?_
   refine ZCu e1 h2 q3 ?_
   revert hF;refine aS ?_ ?_<;>intro h6 q7 hF
   ·apply oC hF;intro c8 hF
    have w9:i64.wrap ((count:Int)+1)=(count:Int)+1:=ZC (by omega) (by omega)
    repeat first|refine cg ?_|simp -dsimp[↓e1,h2,q3,h6,w9]
    refine zM follows (by kernel_rfl) (by kernel_rfl) ?_
    repeat first|refine cg ?_|simp -dsimp[↓e1,h2,q3,h6,w9]
    apply oB hF;intro v10 e11 hF
    refine((C.f182 B hB1 hB2 v x.path v10 e11)).pgoW (by first|simp[↓e1,h2,q3,h6,w9];done|simp_all) (by simp) ?_
    repeat first|refine cg ?_|simp -dsimp[↓e1,h2,q3,h6,w9]
    apply oB hF;intro v12 e13 hF
    refine((C.f183 B hB1 hB2 x.ctor x.n x.m v10 v12 e13)).pgoW (by first|simp[↓e1,h2,q3,h6,w9];done|simp_all) (by simp) ?_
    repeat first|refine cg ?_|simp -dsimp[↓e1,h2,q3,h6,w9]
    revert hF;refine aN (fun h14 q15 hF=> ?_) (fun h14 q15 hF=> ?_)
    ·repeat first|refine cg ?_|simp -dsimp[↓e1,h2,q3,h6,w9,h14,q15]
     refine aG _ ?_ ((ih_impl_runSteps__impl_TestedPaths_1__g_l1 v4 (count+1) x.to o hF) _ rfl _ hq)
     exact(gT (by simp) (by first|simp -dsimp[↓e1,h2,q3,h6,w9,h14,q15];done|simp_all))
    ·repeat first|refine cg ?_|simp -dsimp[↓e1,h2,q3,h6,w9,h14,q15]
     refine aG _ ?_ ((ih_impl_runSteps__impl_TestedPaths_1__g_l1 v4 (count+1) (i64.wrap (at'+1)) o hF) _ rfl _ hq)
     exact(gT (by simp) (by first|simp -dsimp[↓e1,h2,q3,h6,w9,h14,q15];done|simp_all))
   ·repeat first|refine cg ?_|simp -dsimp[↓e1,h2,q3,h6,q7]
    apply oB hF;intro v16 e17 hF
    refine((C.f187 B hB1 hB2 x.binds v v16 e17)).goW (by first|simp[↓e1,h2,q3,h6,q7];done|simp_all) (by simp) ?_
    apply oB hF;intro x18 e19a hF
    have e19a:=ZQ e19a;obtain⟨ne19,e19⟩:=e19a
    have le19:=ZA e19
    repeat first|refine cg ?_|simp -dsimp[↓e1,h2,q3,h6,q7,↓e19]
    apply oB hF;intro v20 e21 hF
    refine((C.f191 B hB1 hB2 x18.guard v16 v20 e21)).goW (by first|simp[↓e1,h2,q3,h6,q7,↓e19];done|simp_all) (by simp) ?_
    repeat first|refine cg ?_|simp -dsimp[↓e1,h2,q3,h6,q7,↓e19]
    revert hF;refine aS (fun h22 q23 hF=> ?_) (fun h22 q23 hF=> ?_)
    ·cases hF
     repeat first|refine cg ?_|simp -dsimp[↓e1,h2,q3,h6,q7,↓e19,h22]
     refine lG _ (gR _) (hq _ ?_)
     repeat first|refine cg ?_|simp -dsimp[↓e1,h2,q3,h6,q7,↓e19,h22]
    ·repeat first|refine cg ?_|simp -dsimp[↓e1,h2,q3,h6,q7,↓e19,h22,q23]
     refine aG _ ?_ ((ih_impl_runSteps__impl_TestedPaths_1__g_l1 v4 count x.to o hF) _ rfl _ hq)
     exact(gT (by simp) (by first|simp -dsimp[↓e1,h2,q3,h6,q7,↓e19,h22,q23];done|simp_all))
theorem C.impl_runSteps__impl_TestedPaths_1__g (steps':List Step)(list:List Clause)(v:Vl.Value)(k0:List (List Int))(r:Int×(List Bind)×Int×(List (List Int)))(hF:F.f193 steps' list v k0=some r):BCall zQ B 41 [.cells [.own 1 (zA (α:=List Int) k0)],.elems 1 (zB (cL cI) k0)] [am zE steps',am yA list,.agg [li v.ctor,li v.n,am Vl.Value.c v.kids],.fn (.func 42) [] [.ptr 0 0]] (.tup [li r.1,am yF r.2.1,li r.2.2.1]) [.cells [.own 1 (zA (α:=List Int) r.2.2.2)],.elems 1 (zB (cL cI) r.2.2.2)]:=by
 unfold F.f193 at hF
 refine zH func41 (by kernel_rfl) rfl ntmps41 (by simp) rfl (by simp) (by simp) (by simp) (by simp) (by simp) (gR _) ?_
 refine kB hF fun o' ho24 hF=> ?_
 refine zR _ ?_ (((CC.impl_runSteps__impl_TestedPaths_1__g_l1 B hB1 hB2 steps' list v) k0 0 0 o' ho24) _ rfl _ ?_)
 ·exact(gT (by simp) (by simp -dsimp))
 cases hF
 intro st h
 simpa using h
theorem C.f194 (w:List zY)(t:Ty)(list:List Clause)(v:Vl.Value)(r:List (List Int))(hF:F.f194 w t list v=some r):PureCall zQ B 14 [am zZ w,.agg [li t.data,li t.index],am yA list,.agg [li v.ctor,li v.n,am Vl.Value.c v.kids]] (am (cL cI) r):=by
 unfold F.f194 at hF
 refine pE func14 (by kernel_rfl) rfl ntmps14 (by simp) (by simp) ?_
 refine kB hF fun v1 e2 hF=> ?_
 refine((C.f168 B hB1 hB2 w t list v1 e2)).goW (by simp) (by simp) ?_
 revert hF;refine kS (fun h3 q4 hF=> ?_) (fun h3 q4 hF=> ?_)
 ·refine kx1 h3 ?_
  apply oB hF;intro v5 e6 hF
  refine((C.f172 B hB1 hB2 w t v v5 e6)).goW (by first|simp[h3];done|simp_all) (by simp) ?_
  refine kx1 h3 ?_
  revert hF;refine aN (fun h7 q8 hF=> ?_) (fun h7 q8 hF=> ?_)
  ·cases hF
   repeat first|refine cg ?_|simp -dsimp[h3,h7,q8]
   all_goals(try first|omega|rfl)
  ·refine kx3 h3 h7 q8 ?_
   apply oB hF;intro v9 e10 hF
   refine zU 2 0 1 (cs:=[.lit (.slice none 0 0)]) (by simp) (by simp) ?_
   refine kx3 h3 h7 q8 ?_
   refine((C.impl_runSteps__impl_TestedPaths_1__g B hB1 hB2 v1.1 list v [] v9 e10)).go (pl [2,3]) (by simp) (by simp) (Zs _ rfl (by decide)) (by intro i hi hi';simp at hi hi';omega) (by first|simp[h3,h7,q8];done|simp_all) (by first|simp[h3,h7,q8];done|simp_all) ?_
   cases hF
   repeat first|refine cg ?_|simp -dsimp[h3,h7,q8]
   all_goals(try first|omega|rfl)
 ·cases hF
  repeat first|refine cg ?_|simp -dsimp[h3,q4]
  all_goals(try first|omega|rfl)
theorem C.f195 (w:List zY)(t:Ty)(r:Bool)(hF:F.f195 w t=some r):PureCall zQ B 141 [am zZ w,.agg [li t.data,li t.index]] (.lit (.bool r)):=by
 unfold F.f195 at hF
 refine yB func141 rfl ntmps141 ?_
 refine kB hF fun v e1 hF=> ?_
 refine((C.f15 B hB1 hB2 (w.length:Int) t v e1)).goI ?_
 revert hF;refine kS (fun h2 q3 hF=> ?_) (fun h2 q3 hF=> ?_)
 ·cases hF
  exact kc1 h2
 ·cases hF
  exact kc1 q3
theorem C.f196 (w:List zY)(t:Ty)(r:Bool)(hF:F.f196 w t=some r):PureCall zQ B 103 [am zZ w,.agg [li t.data,li t.index]] (.lit (.bool r)):=by
 unfold F.f196 at hF
 refine yB func103 rfl ntmps103 ?_
 refine kB hF fun v e1 hF=> ?_
 refine((C.f24 B hB1 hB2 w v e1)).goI ?_
 revert hF;refine kS (fun h2 q3 hF=> ?_) (fun h2 q3 hF=> ?_)
 ·refine kx1 h2 ?_
  apply oB hF;intro v4 e5 hF
  refine((C.f195 B hB1 hB2 w t v4 e5)).goI ?_
  cases hF
  exact kc1 h2
 ·cases hF
  exact kc2 h2 q3
theorem C.f197 (g:Guard)(vars:List VarType)(r:Bool)(hF:F.f197 g vars=some r):PureCall zQ B 143 [.agg [li g.op,li g.var,li g.n],am VarType.c vars] (.lit (.bool r)):=by
 unfold F.f197 at hF
 refine yB func143 rfl ntmps143 ?_
 revert hF;refine kS ?_ ?_<;>intro h1 q2 hF
 ·refine kx1 h1 ?_
  revert hF;refine aS ?_ ?_<;>intro h3 q4 hF
  ·cases hF
   exact kc2 h1 h3
  ·cases hF
   exact kc3 h1 h3 q4
 ·refine kx2 h1 q2 ?_
  revert hF;refine aN ?_ ?_<;>intro h5 q6 hF
  ·refine kx4 h1 q2 h5 q6 ?_
   revert hF;refine aS ?_ ?_<;>intro h7 q8 hF
   ·refine kx5 h1 q2 h5 q6 h7 ?_
    revert hF;refine aN ?_ ?_<;>intro h9 q10 hF
    ·refine kx7 h1 q2 h5 q6 h7 h9 q10 ?_
     revert hF;refine aS ?_ ?_<;>intro h11 q12 hF
     ·cases hF
      exact kc8 h1 q2 h5 q6 h7 h9 q10 h11
     ·refine kx9 h1 q2 h5 q6 h7 h9 q10 h11 q12 ?_
      apply oB hF;intro v e13 hF
      refine((C.f79 B hB1 hB2 vars g.var v e13)).goI ?_
      refine kx9 h1 q2 h5 q6 h7 h9 q10 h11 q12 ?_
      revert hF;refine aS ?_ ?_<;>intro h14 q15 hF
      ·apply oB hF;intro x e16a hF
       have e16a:=ZQ e16a;obtain⟨ne16,e16⟩:=e16a
       have le16:=ZA e16
       cases hF
       repeat first|refine cg ?_|simp -dsimp[h1,q2,h5,q6,h7,h9,q10,h11,q12,h14,↓e16]
      ·cases hF
       repeat first|refine cg ?_|simp -dsimp[h1,q2,h5,q6,h7,h9,q10,h11,q12,h14,q15]
    ·cases hF
     exact kc7 h1 q2 h5 q6 h7 h9 q10
   ·cases hF
    exact kc6 h1 q2 h5 q6 h7 q8
  ·refine kx4 h1 q2 h5 q6 ?_
   revert hF;refine aN ?_ ?_<;>intro h17 q18 hF
   ·refine kx6 h1 q2 h5 q6 h17 q18 ?_
    revert hF;refine aS ?_ ?_<;>intro h19 q20 hF
    ·cases hF
     exact kc7 h1 q2 h5 q6 h17 q18 h19
    ·refine kx8 h1 q2 h5 q6 h17 q18 h19 q20 ?_
     apply oB hF;intro v21 e22 hF
     refine((C.f79 B hB1 hB2 vars g.var v21 e22)).goI ?_
     refine kx8 h1 q2 h5 q6 h17 q18 h19 q20 ?_
     revert hF;refine aS ?_ ?_<;>intro h23 q24 hF
     ·apply oB hF;intro x25 e26a hF
      have e26a:=ZQ e26a;obtain⟨ne26,e26⟩:=e26a
      have le26:=ZA e26
      cases hF
      repeat first|refine cg ?_|simp -dsimp[h1,q2,h5,q6,h17,q18,h19,q20,h23,↓e26]
     ·cases hF
      repeat first|refine cg ?_|simp -dsimp[h1,q2,h5,q6,h17,q18,h19,q20,h23,q24]
   ·cases hF
    exact kc6 h1 q2 h5 q6 h17 q18
theorem C.f198 (w:List zY)(t:Ty)(c':Clause)(r:Bool)(hF:F.f198 w t c'=some r):PureCall zQ B 104 [am zZ w,.agg [li t.data,li t.index],.agg [li c'.pat.op,li c'.pat.ctor,li c'.pat.n,li c'.pat.m,li c'.pat.var,am zG c'.pat.kids,li c'.guard.op,li c'.guard.var,li c'.guard.n]] (.lit (.bool r)):=by
 unfold F.f198 at hF
 refine yB func104 rfl ntmps104 ?_
 refine kx0 ?_
 refine zK [143,144] [(0,0),(0,0),(0,0),(0,0),(0,2),(0,0),(0,1),(0,1),(0,0),(0,0),(0,0),(0,0),(0,2),(0,2),(2,2),(2,2)] [1,1,1,1,1,1,0,2,1,1,1,1,1,1,1,1] follows ?_
 refine kB hF fun v e1 hF=> ?_
 refine((C.f85 B hB1 hB2 w t c'.pat v e1)).pgoW (by simp) (by simp) ?_
 revert hF;refine kS (fun h2 q3 hF=> ?_) (fun h2 q3 hF=> ?_)
 ·refine kx1 h2 ?_
  apply oB hF;intro v4 e5 hF
  refine ECallA.nilArg 0 3 (by simp) ?_
  refine kx0 ?_
  refine(((CC.f74 B hB1 hB2 w).1 [] t c'.pat v4 e5)).ego (pl [2]) (by simp) (by simp) (Zs _ rfl (by decide)) (by intro i hi hi';simp at hi hi';first|omega|(subst hi';simp[pl])) (by simp_all) (by simp_all) ?_
  refine kB hF fun v6 e7 hF=> ?_
  refine((C.f197 B hB1 hB2 c'.guard v4 v6 e7)).elend (by simp_all) (by simp -dsimp) ?_
  cases hF
  exact kc0
 ·skip
  cases hF
  exact kc1 q3
theorem CC.f199 (w:List zY)(t:Ty)(list:List Clause):(∀(i:Nat) (o:Lo Bool Unit),F.f199 w t list i=some o->∀(c:Code),ZS [1,1,0,1,0,0] (ZH Tryz.f65)=some c->∀(Q:Exit->ASt->Prop),o.post (fun r=>∀st,ZAG zQ Tryz.f65 (fun r' _=>r'.le (.lit (.bool r))) .ret st->Q .ret st) (fun s=>Q (.exit 0) ⟨[],[]⟩)->ALoopU zQ B 0 31 (hold c .mk) ⟨[(0,am zZ w),(2,am yA list),(4,.ptr 0 0),(7,li (i:Int))],[.cells [li t.data,li t.index]]⟩ (hold Q .mk)):=by
 refine F.f199.partial_correctness w t list
  _
  ?_
 ·intro _f_f199 ih_f199 i o hF
  refine ZJ rfl fun Q hq hk hs=> ?_
  have b0:=hk 0
  simp -dsimp at b0
  have b2:=hk 2
  simp -dsimp at b2
  clear hk hs
  refine eN ?_
  revert hF;refine kS ?_ ?_<;>intro h7 q8 hF
  ·have z9:((i:Int)<(list.length:Int)):=auz
   refine kx2 h7 z9 ?_
   refine zL follows ?_
   apply oB hF;intro x e10 hF
   have le10:=ZA e10
   refine kdd e10 ?_
   apply oB hF;intro v11 e12 hF
   refine((C.f198 B hB1 hB2 w t x v11 e12)).pgoW (by simp_all) (by simp) ?_
   revert hF;refine kN (fun h13 q14 hF=> ?_) (fun h13 q14 hF=> ?_)
   ·cases hF
    refine kx2 h13 q14 ?_
    refine lG _ (gR _) (hq _ ?_)
    exact kc0
   ·have w15:i64.wrap ((i:Int)+1)=(i:Int)+1:=ZC (by omega) (by omega)
    refine kx1 w15 ?_
    refine zW ((ih_f199 (i+1) o hF) _ rfl _ hq)
  ·have z9:¬((i:Int)<(list.length:Int)):=auz
   cases hF
   refine kx3 h7 q8 z9 ?_
   refine zX hq
theorem C.f200 (w:List zY)(t:Ty)(list:List Clause)(r:Bool)(hF:F.f200 w t list=some r):PureCall zQ B 65 [am zZ w,.agg [li t.data,li t.index],am yA list] (.lit (.bool r)):=by
 unfold F.f200 at hF
 refine yB func65 rfl ntmps65 ?_
 refine kB hF fun v e1 hF=> ?_
 refine((C.f196 B hB1 hB2 w t v e1)).goI ?_
 revert hF;refine kS (fun h2 q3 hF=> ?_) (fun h2 q3 hF=> ?_)
 ·refine kx1 h2 ?_
  revert hF;refine aS ?_ ?_<;>intro h4 q5 hF
  ·have z6:(8<(list.length:Int)):=auz
   cases hF
   exact kc2 h4 z6
  ·have z6:¬(8<(list.length:Int)):=auz
   refine kx3 h4 q5 z6 ?_
   apply oB hF;intro o' ho16 hF
   refine zP (((CC.f199 B hB1 hB2 w t list) 0 o' ho16) _ rfl _ ?_)
   rcases o' with r0|sx
   ·dsimp only at hF
    cases hF
    intro st h
    simpa using h
   ·dsimp only at hF
    cases hF
    exact kc0
 ·cases hF
  exact kc1 q3
theorem CC.f201 (lists:List (List Pattern))(out:List (List Pattern))(i:Nat)(k:Nat):(∀(next10:List (List Pattern)) (j:Nat) (o:List (List Pattern)),F.f201 lists out i k next10 j=some o->∀(c:Code),ZS [1,1,0,1,0,0,1,0,0,1,0,1,0,0,1,0,0,1,0,0] (ZH Tryz.f105)=some c->∀(Q:Exit->ASt->Prop),(Q (.exit 4) ⟨[(0,am (cL zG) lists),(3,am (cL zG) out),(4,li (i:Int)),(5,.own 2 (zA (α:=List Pattern) o)),(6,li (k:Int))],[.dead,.dead,.elems 1 (zB (cL zG) o)]⟩)->ALoopU zQ B 0 62 (hold c .mk) ⟨[(0,am (cL zG) lists),(3,am (cL zG) out),(4,li (i:Int)),(5,.own 2 (zA (α:=List Pattern) next10)),(6,li (k:Int)),(7,li (j:Int))],[.dead,.dead,.elems 1 (zB (cL zG) next10)]⟩ (hold Q .mk)):=by
 refine F.f201.partial_correctness lists out i k
  _
  ?_
 ·intro _f_f201 ih_f201 next10 j o hF
  refine ZJ rfl fun Q hq hk hs=> ?_
  have b0:=hk 0
  simp -dsimp at b0
  have b3:=hk 3
  simp -dsimp at b3
  have d2:=hs 2 _ rfl
  simp -dsimp[zS]at d2
  clear hk hs
  refine eN ?_
  apply oB hF;intro x e11 hF
  have le11:=ZA e11
  refine kdd e11 ?_
  revert hF;refine aS ?_ ?_<;>intro h12 q13 hF
  ·have z14:((j:Int)<(x.length:Int)):=auz
   refine ZCu e11 h12 z14 ?_
   revert hF;refine aS ?_ ?_<;>intro h15 q16 hF
   ·have z17:((next10.length:Int)<=400):=auz
    refine ZCu e11 h15 z17 ?_
    refine ADraw.opn ?_
    refine zO [] [(1,14)] [(14,1)] 1 14 rfl rfl (by kernel_rfl) ?_ ?_
    ·refine zO [(1,14)] [(1,14),(6,14)] [(1,14),(14,6)] 6 14 rfl rfl (by kernel_rfl) ?_ ?_
     ·refine zN [(1,14),(6,14)] [0,1,2,3,4,5,6,7,8,9,10,11,12,13,14,15,16,17,18] [] [(0,5),(0,6),(0,1),(0,1),(0,1),(0,1),(0,6),(0,2),(0,2),(0,2),(0,2),(0,2),(0,2),(0,2),(0,6),(0,6),(0,6),(0,6),(6,6)] [1,1,1,1,0,0,1,1,1,0,0,1,0,0,1,1,1,1,1] follows (by kernel_rfl) (by kernel_rfl) (by kernel_rfl) (by kernel_rfl) ?_
      apply oB hF;intro x18 e19 hF
      have le19:=ZA e19
      apply oC hF;intro c20 hF
      apply oB hF;intro x21 e22 hF
      have le22:=ZA e22
      apply oC hF;intro c23 hF
      apply oC hF;intro c24 hF
      apply oC hF;intro c25 hF
      have w26:i64.wrap ((j:Int)+1)=(j:Int)+1:=ZC (by omega) (by omega)
      repeat first|refine cg ?_|simp -dsimp[↓e11,↓e19,↓e22,w26]
      refine zW ((ih_f201 (next10++[x18++[x21]]) (j+1) o hF) _ rfl _ hq)
     ·apply oB hF;intro x18 e19 hF
      apply oC hF;intro c20 hF
      apply oB hF;intro x21 e22 hF
      apply oC hF;intro c23 hF
      apply oC hF;intro c24 hF
      refine zN [(1,14),(14,6)] [0,1,2,3,4,5,7,8,9,10,11,12,13,14,6,15,16,17,18] [] [(0,5),(0,6),(0,2),(0,2),(0,2),(0,2),(0,1),(0,1),(0,1),(0,1),(0,1),(0,1),(0,1),(0,6),(0,6),(0,6),(0,6),(0,6),(6,6)] [1,1,1,1,0,0,1,1,0,0,1,0,0,1,1,1,1,1,1] follows (by kernel_rfl) (by kernel_rfl) (by kernel_rfl) (by kernel_rfl) ?_
      have le19:=ZA e19
      have le22:=ZA e22
      apply oC hF;intro c25 hF
      have w26:i64.wrap ((j:Int)+1)=(j:Int)+1:=ZC (by omega) (by omega)
      repeat first|refine cg ?_|simp -dsimp[↓e11,↓e19,↓e22,w26]
      refine zW ((ih_f201 (next10++[x18++[x21]]) (j+1) o hF) _ rfl _ hq)
    ·apply oB hF;intro x18 e19 hF
     apply oC hF;intro c20 hF
     apply oB hF;intro x21 e22 hF
     apply oC hF;intro c23 hF
     apply oC hF;intro c24 hF
     refine zN [(14,1)] [0,2,3,4,5,7,8,9,10,11,12,13,14,1,6,15,16,17,18] [] [(0,5),(0,2),(0,2),(0,2),(0,2),(0,0),(0,0),(0,0),(0,0),(0,0),(0,0),(0,0),(0,6),(0,6),(0,6),(0,6),(0,6),(0,6),(6,6)] [1,1,1,0,0,1,1,1,1,1,1,1,1,1,1,1,1,1,1] follows (by kernel_rfl) (by kernel_rfl) (by kernel_rfl) (by kernel_rfl) ?_
     have le19:=ZA e19
     have le22:=ZA e22
     apply oC hF;intro c25 hF
     have w26:i64.wrap ((j:Int)+1)=(j:Int)+1:=ZC (by omega) (by omega)
     repeat first|refine cg ?_|simp -dsimp[↓e11,↓e19,↓e22,w26]
     refine zW ((ih_f201 (next10++[x18++[x21]]) (j+1) o hF) _ rfl _ hq)
   ·have z17:¬((next10.length:Int)<=400):=auz
    cases hF
    repeat first|refine cg ?_|simp -dsimp[↓e11,h15,q16,z17]
    refine zX hq
  ·have z14:¬((j:Int)<(x.length:Int)):=auz
   cases hF
   repeat first|refine cg ?_|simp -dsimp[↓e11,h12,q13,z14]
   refine zX hq
theorem CC.f202 (lists:List (List Pattern))(out:List (List Pattern))(i:Nat):(∀(next:List (List Pattern)) (k:Nat) (o:List (List Pattern)),F.f202 lists out i next k=some o->∀(c:Code),ZS [1,1,0,1,0,0,1,0,0,1,0,1,0,0] (ZH Tryz.f105)=some c->∀(Q:Exit->ASt->Prop),(Q (.exit 2) ⟨[(0,am (cL zG) lists),(4,li (i:Int)),(5,.own 2 (zA (α:=List Pattern) o))],[.dead,.dead,.elems 1 (zB (cL zG) o)]⟩)->ALoopU zQ B 0 62 (hold c .mk) ⟨[(0,am (cL zG) lists),(3,am (cL zG) out),(4,li (i:Int)),(5,.own 2 (zA (α:=List Pattern) next)),(6,li (k:Int))],[.dead,.dead,.elems 1 (zB (cL zG) next)]⟩ (hold Q .mk)):=by
 refine F.f202.partial_correctness lists out i
  _
  ?_
 ·intro _f_f202 ih_f202 next k o hF
  refine ZJ rfl fun Q hq hk hs=> ?_
  have b0:=hk 0
  simp -dsimp at b0
  have b3:=hk 3
  simp -dsimp at b3
  have d2:=hs 2 _ rfl
  simp -dsimp[zS]at d2
  clear hk hs
  refine eN ?_
  revert hF;refine kS ?_ ?_<;>intro h4 q5 hF
  ·have z6:((k:Int)<(out.length:Int)):=auz
   refine kx2 h4 z6 ?_
   revert hF;refine aS ?_ ?_<;>intro h7 q8 hF
   ·have z9:((next.length:Int)<=400):=auz
    refine kx2 h7 z9 ?_
    apply oB hF;intro o' ho27 hF
    refine zP (((CC.f201 B hB1 hB2 lists out i k) next 0 o' ho27) _ rfl _ ?_)
    apply oC hF;intro c28 hF
    have w29:i64.wrap ((k:Int)+1)=(k:Int)+1:=ZC (by omega) (by omega)
    refine kx1 w29 ?_
    refine zW ((ih_f202 o' (k+1) o hF) _ rfl _ hq)
   ·have z9:¬((next.length:Int)<=400):=auz
    cases hF
    refine kx3 h7 q8 z9 ?_
    refine zX hq
  ·have z6:¬((k:Int)<(out.length:Int)):=auz
   cases hF
   refine kx3 h4 q5 z6 ?_
   refine zX hq
theorem CC.f203 (lists:List (List Pattern)):(∀(out:List (List Pattern)) (i:Nat) (o:List (List Pattern)),F.f203 lists out i=some o->∀(c:Code),ZS [1,1,0,1,0,0] (ZH Tryz.f105)=some c->∀(Q:Exit->ASt->Prop),(Q (.exit 0) ⟨[(3,am (cL zG) o)],[]⟩)->ALoopU zQ B 0 62 (hold c .mk) ⟨[(0,am (cL zG) lists),(3,am (cL zG) out),(4,li (i:Int))],[.dead,.dead]⟩ (hold Q .mk)):=by
 refine F.f203.partial_correctness lists
  _
  ?_
 ·intro _f_f203 ih_f203 out i o hF
  refine ZJ rfl fun Q hq hk hs=> ?_
  have b0:=hk 0
  simp -dsimp at b0
  have b3:=hk 3
  simp -dsimp at b3
  clear hk hs
  refine eN ?_
  revert hF;refine kS ?_ ?_<;>intro h1 q2 hF
  ·have z3:((i:Int)<(lists.length:Int)):=auz
   refine kx2 h1 z3 ?_
   apply oB hF;intro o'31 ho30 hF
   refine zP (((CC.f202 B hB1 hB2 lists out i) [] 0 o'31 ho30) _ rfl _ ?_)
   apply oC hF;intro c32 hF
   have w33:i64.wrap ((i:Int)+1)=(i:Int)+1:=ZC (by omega) (by omega)
   refine kx1 w33 ?_
   refine aG ⟨[(0,.arr (zB (cL zG) lists)),(3,.arr (zB (cL zG) o'31)),(4,.lit (.int .i64 ((i+1):Int)))],[.dead,.dead]⟩ (by refine yC (yE 3 (l:=2) (n:=zA (α:=List Pattern) o'31) (sz:=1) (es:=zB (cL zG) o'31) (by simp) (by simp) (by simp) (by simp)) ?_;exact(gT (by simp) (by simp_all))) ?_
   exact(ih_f203 o'31 (i+1) o hF) _ rfl _ hq
  ·have z3:¬((i:Int)<(lists.length:Int)):=auz
   cases hF
   refine kx3 h1 q2 z3 ?_
   refine zX hq
theorem C.f204 (lists:List (List Pattern))(r:List (List Pattern))(hF:F.f204 lists=some r):PureCall zQ B 105 [am (cL zG) lists] (am (cL zG) r):=by
 unfold F.f204 at hF
 refine yB func105 rfl ntmps105 ?_
 refine kB hF fun o'35 ho34 hF=> ?_
 refine zR ⟨[(0,.arr (zB (cL zG) lists)),(3,.arr (zB (cL zG) [[]])),(4,.lit (.int .i64 0))],[.dead,.dead]⟩ (by refine yC (yE 3 (l:=1) (n:=zA (α:=List Pattern) [[]]) (sz:=1) (es:=zB (cL zG) [[]]) (by simp) (by simp) (by simp) (by simp)) ?_;exact(gT (by simp) (by simp -dsimp))) ?_
 refine((CC.f203 B hB1 hB2 lists) [[]] 0 o'35 ho34) _ rfl _ ?_
 cases hF
 exact kc0
theorem CC.spec_l3Split__o0_l2 (p:Pattern)(v24:List (List Pattern)):(∀(out:List Pattern) (i26:Nat) (o:List Pattern),F.f205 p v24 out i26=some o->∀(c:Code),ZS [1,1,1,1,1,1,0,1,0,0] (ZH Tryz.f66)=some c->∀(Q:Exit->ASt->Prop),(Q (.exit 2) ⟨[(7,.own 2 (zA (α:=Pattern) o))],[.dead,.dead,.elems 6 (zB zG o)]⟩)->ALoopU zQ B 0 67 (hold c .mk) ⟨[(1,.ptr 0 0),(6,am (cL zG) v24),(7,.own 2 (zA (α:=Pattern) out)),(8,li (i26:Int))],[.cells [li p.op,li p.ctor,li p.n,li p.m,li p.var,am zG p.kids],.dead,.elems 6 (zB zG out)]⟩ (hold Q .mk)):=by
 refine F.f205.partial_correctness p v24
  _
  ?_
 ·intro _f_spec_l3Split__o0_l2 ih_spec_l3Split__o0_l2 out i26 o hF
  refine ZJ rfl fun Q hq hk hs=> ?_
  have b6:=hk 6
  simp -dsimp at b6
  have d0:=hs 0 _ rfl
  simp -dsimp[zS]at d0
  have d2:=hs 2 _ rfl
  simp -dsimp[zS]at d2
  clear hk hs
  refine eN ?_
  revert hF;refine kS ?_ ?_<;>intro h27 q28 hF
  ·have z29:((i26:Int)<(v24.length:Int)):=auz
   apply oB hF;intro x30 e31 hF
   have le31:=ZA e31
   apply oC hF;intro c32 hF
   have w33:i64.wrap ((i26:Int)+1)=(i26:Int)+1:=ZC (by omega) (by omega)
   repeat first|refine cg ?_|simp -dsimp[h27,z29,↓e31,w33]
   refine zW ((ih_spec_l3Split__o0_l2 (out++[(⟨p.op,p.ctor,p.n,p.m,p.var,x30⟩:Pattern)]) (i26+1) o hF) _ rfl _ hq)
  ·have z29:¬((i26:Int)<(v24.length:Int)):=auz
   cases hF
   refine kx3 h27 q28 z29 ?_
   refine zX hq
theorem CC.spec_l3Split__o0  :(∀(p:Pattern) (r:List Pattern),F.f206 p=some r->BCall zQ B 66 [] [.agg [li p.op,li p.ctor,li p.n,li p.m,li p.var,am zG p.kids]] (.own 0 (zA (α:=Pattern) r)) [.elems 6 (zB zG r)])/\
  (∀(p:Pattern) (lists:List (List Pattern)) (i:Nat) (o:List (List Pattern)),F.f207 p lists i=some o->∀(c:Code),ZS [1,1,1,0,1,0,0] (ZH Tryz.f66)=some c->∀(Q:Exit->ASt->Prop),(Q (.exit 0) ⟨[(1,.ptr 0 0),(4,.own 1 (zA (α:=List Pattern) o))],[.cells [li p.op,li p.ctor,li p.n,li p.m,li p.var,am zG p.kids],.elems 1 (zB (cL zG) o)]⟩)->ALoopU zQ B 0 67 (hold c .mk) ⟨[(1,.ptr 0 0),(4,.own 1 (zA (α:=List Pattern) lists)),(5,li (i:Int))],[.cells [li p.op,li p.ctor,li p.n,li p.m,li p.var,am zG p.kids],.elems 1 (zB (cL zG) lists)]⟩ (hold Q .mk)):=by
 refine F.f206.mutual_partial_correctness 
  _ _
  ?_ ?_
 ·intro _f_spec_l3Split__o0 _f_spec_l3Split__o0_l1 ih_spec_l3Split__o0 ih_spec_l3Split__o0_l1 p r hF
  refine BCall.enterS (τ1:=[]) (ys:=[.own 0 (zA (α:=Pattern) r)]) (news:=[(6,zB zG r)]) func66 (by kernel_rfl) rfl ntmps66 (by simp) rfl rfl (by simp) (by simp) (by simp) (by simp) (by simp) (by simp) (gR _) ?_
  revert hF;refine kS ?_ ?_<;>intro h1 q2 hF
  ·refine kx1 h1 ?_
   refine zK [66] [(0,0),(0,0),(0,0),(0,0),(0,3),(0,1),(0,1),(0,1),(0,1),(0,3),(0,3),(3,3)] [1,1,1,1,1,0,2,0,0,1,1,1] follows ?_
   apply oB hF;intro x e3 hF
   have le3:=ZA e3
   refine kdd e3 ?_
   apply oB hF;intro v e4 hF
   refine((ih_spec_l3Split__o0 x v e4)).ego (pl [1]) (by simp) (by simp) (by intro i j hi;simp at hi) (by intro i hi hi';simp at hi hi';have hi:i=0:=(by omega);rcases hi with rfl<;>simp[pl]) (by simp_all) (by simp_all) ?_
   apply oB hF;intro x5 e6 hF
   have le6:=ZA e6
   refine kdd e6 ?_
   apply oB hF;intro v7 e8 hF
   refine((ih_spec_l3Split__o0 x5 v7 e8)).ego (pl [2]) (by simp) (by simp) (by intro i j hi;simp at hi) (by intro i hi hi';simp at hi hi';have hi:i=0:=(by omega);rcases hi with rfl<;>simp[pl]) (by simp_all) (by simp_all) ?_
   apply oC hF;intro c9 hF
   revert hF;refine kS ?_ ?_<;>intro h10 q11 hF
   ·have z12:(401<(((v++v7).length:Nat):Int)):=auz
    apply oC hF;intro c13 hF
    cases hF
    repeat first|refine cg ?_|simp -dsimp[h10,z12]
    all_goals(try first|omega|rfl|(simp;done)|(simp only[zC,zD]at*;omega)|simp)
   ·have z12:¬(401<(((v++v7).length:Nat):Int)):=auz
    cases hF
    repeat first|refine cg ?_|simp -dsimp[h10,q11,z12]
    all_goals(try first|omega|rfl|(simp;done)|(simp only[zC,zD]at*;omega)|simp)
  ·refine kx1 q2 ?_
   apply oB hF;intro o' ho23 hF
   refine zP ((ih_spec_l3Split__o0_l1 p [] 0 o' ho23) _ rfl _ ?_)
   refine kB hF fun v24 e25 hF=> ?_
   refine zV ?_ ((C.f204 B hB1 hB2 o' v24 e25)).ent
   refine kx0 ?_
   refine((C.f204 B hB1 hB2 o' v24 e25)).goI ?_
   refine kB hF fun o'35 ho34 hF=> ?_
   refine zP (((CC.spec_l3Split__o0_l2 B hB1 hB2 p v24) [] 0 o'35 ho34) _ rfl _ ?_)
   cases hF
   repeat first|refine cg ?_|simp -dsimp
   all_goals(try first|omega|rfl|(simp;done)|(simp only[zC,zD]at*;omega)|simp)
 ·intro _f_spec_l3Split__o0 _f_spec_l3Split__o0_l1 ih_spec_l3Split__o0 ih_spec_l3Split__o0_l1 p lists i o hF
  refine ZJ rfl fun Q hq hk hs=> ?_
  have d0:=hs 0 _ rfl
  simp -dsimp[zS]at d0
  have d1:=hs 1 _ rfl
  simp -dsimp[zS]at d1
  clear hk hs
  refine eN ?_
  revert hF;refine kS ?_ ?_<;>intro h14 q15 hF
  ·have z16:((i:Int)<(p.kids.length:Int)):=auz
   apply oB hF;intro x17 e18 hF
   have le18:=ZA e18
   refine ZW h14 z16 e18 ?_
   apply oB hF;intro v19 e20 hF
   refine((ih_spec_l3Split__o0 x17 v19 e20)).go (pl [2]) (by simp) (by simp) (by intro i j hi;simp at hi) (by intro i hi hi';simp at hi hi';have hi:i=0:=(by omega);rcases hi with rfl<;>simp[pl]) (by simp_all) (by simp_all) ?_
   apply oC hF;intro c21 hF
   have w22:i64.wrap ((i:Int)+1)=(i:Int)+1:=ZC (by omega) (by omega)
   refine kx1 w22 ?_
   refine zW ((ih_spec_l3Split__o0_l1 p (lists++[v19]) (i+1) o hF) _ rfl _ hq)
  ·have z16:¬((i:Int)<(p.kids.length:Int)):=auz
   cases hF
   refine kx3 h14 q15 z16 ?_
   refine zX hq
theorem C.f208 (path:List Int)(i:Int)(r:List Int)(hF:F.f208 path i=some r):PureCall zQ B 145 [am cI path,li i] (am cI r):=by
 unfold F.f208 at hF
 refine yB func145 rfl ntmps145 ?_
 apply oC hF;intro c1 hF
 apply oC hF;intro c2 hF
 cases hF
 exact kc0
theorem CC.f209  :(∀(out:List Step) (p:Pattern) (path:List Int) (r:List Step),F.f209 out p path=some r->BCall zQ B 106 [.elems 8 (zB zE out)] [.own 0 (zA (α:=Step) out),.agg [li p.op,li p.ctor,li p.n,li p.m,li p.var,am zG p.kids],am cI path] (.own 0 (zA (α:=Step) r)) [.elems 8 (zB zE r)])/\
  (∀(p:Pattern) (path:List Int) (out13:List Step) (i:Nat) (o:List Step),F.f210 p path out13 i=some o->∀(c:Code),ZS [1,0,1,0,1,1,1,1,1,0,1,1,0,0] (ZH Tryz.f106)=some c->∀(Q:Exit->ASt->Prop),(Q (.exit 1) ⟨[(0,.own 0 (zA (α:=Step) o))],[.elems 8 (zB zE o)]⟩)->ALoopU zQ B 1 61 (hold c .mk) ⟨[(0,.own 0 (zA (α:=Step) out13)),(2,am cI path),(4,.ptr 1 0),(7,li (i:Int))],[.elems 8 (zB zE out13),.cells [li p.op,li p.ctor,li p.n,li p.m,li p.var,am zG p.kids]]⟩ (hold Q .mk)):=by
 refine F.f209.mutual_partial_correctness 
  _ _
  ?_ ?_
 ·intro _f_f209 _f_f210 ih_f209 ih_f210 out p path r hF
  refine zH func106 (by kernel_rfl) rfl ntmps106 (by simp) rfl (by simp) (by simp) (by simp) (by simp) (by simp) (gR _) ?_
  revert hF;refine kS ?_ ?_<;>intro h1 q2 hF
  ·apply oB hF;intro x e3 hF
   have le3:=ZA e3
   refine ZOk h1 e3 ?_
   apply oB hF;intro v e4 hF
   refine((ih_f209 out x path v e4)).go (pl [0]) (by simp) (by simp) (Zs _ rfl (by decide)) (by intro i hi hi';simp at hi hi';first|omega|(subst hi';simp[pl])) (by simp_all) (by simp_all) ?_
   cases hF
   exact kc0
  ·refine kx2 h1 q2 ?_
   revert hF;refine aS ?_ ?_<;>intro h5 q6 hF
   ·refine kx1 h5 ?_
    refine zK [1000096] [(0,4),(0,5),(0,1),(0,5),(0,2),(0,2),(0,2),(0,2),(0,5),(0,5),(0,5),(5,5)] [1,1,1,1,0,2,0,2,1,1,1,1] follows ?_
    apply oC hF;intro c7 hF
    apply oC hF;intro c8 hF
    cases hF
    exact kc0
   ·refine kx1 q6 ?_
    revert hF;refine aS ?_ ?_<;>intro h9 q10 hF
    ·refine kx1 h9 ?_
     refine zK [1000096] [(0,4),(0,5),(0,1),(0,5),(0,2),(0,2),(0,5),(0,5),(0,5),(5,5)] [1,1,1,1,0,2,1,1,1,1] follows ?_
     apply oC hF;intro c11 hF
     apply oC hF;intro c12 hF
     refine kB hF fun o' ho24 hF=> ?_
     refine zP ((ih_f210 p path (out++[(⟨1,path,p.ctor,0,0,0,[],0⟩:Step)]) 0 o' ho24) _ rfl _ ?_)
     cases hF
     exact kc0
    ·cases hF
     exact kc1 q10
 ·intro _f_f209 _f_f210 ih_f209 ih_f210 p path out13 i o hF
  refine ZJ rfl fun Q hq hk hs=> ?_
  have b2:=hk 2
  simp -dsimp at b2
  have d0:=hs 0 _ rfl
  simp -dsimp[zS]at d0
  have d1:=hs 1 _ rfl
  simp -dsimp[zS]at d1
  clear hk hs
  refine eN ?_
  revert hF;refine kS ?_ ?_<;>intro h14 q15 hF
  ·have z16:((i:Int)<(p.kids.length:Int)):=auz
   refine kx2 h14 z16 ?_
   refine zK [106] [(0,0),(0,0),(0,0),(0,0),(0,0),(0,0),(0,0),(0,0),(0,1),(0,1),(1,1)] [1,1,1,1,1,1,1,1,1,1,1] follows ?_
   apply oB hF;intro x17 e18 hF
   have le18:=ZA e18
   refine kdd e18 ?_
   apply oB hF;intro v19 e20 hF
   refine((C.f208 B hB1 hB2 path (i:Int) v19 e20)).pgoW (by simp_all) (by simp) ?_
   refine kB hF fun v21 e22 hF=> ?_
   refine((ih_f209 out13 x17 v19 v21 e22)).ego (pl [0]) (by simp) (by simp) (Zs _ rfl (by decide)) (by intro i hi hi';simp at hi hi';first|omega|(subst hi';simp[pl])) (by simp_all) (by simp_all) ?_
   have w23:i64.wrap ((i:Int)+1)=(i:Int)+1:=ZC (by omega) (by omega)
   refine kx1 w23 ?_
   refine zW ((ih_f210 p path v21 (i+1) o hF) _ rfl _ hq)
  ·have z16:¬((i:Int)<(p.kids.length:Int)):=auz
   cases hF
   refine kx3 h14 q15 z16 ?_
   refine zX hq
theorem CC.f211  :(∀(out:List PathBind) (p:Pattern) (path:List Int) (r:List PathBind),F.f211 out p path=some r->BCall zQ B 108 [.elems 2 (zB zF out)] [.own 0 (zA (α:=PathBind) out),.agg [li p.op,li p.ctor,li p.n,li p.m,li p.var,am zG p.kids],am cI path] (.own 0 (zA (α:=PathBind) r)) [.elems 2 (zB zF r)])/\
  (∀(p:Pattern) (path:List Int) (out24:List PathBind) (i25:Nat) (o:List PathBind),F.f213 p path out24 i25=some o->∀(c:Code),ZS [1,1,0,1,0,0] (ZH Tryz.f108)=some c->∀(Q:Exit->ASt->Prop),(Q (.exit 0) ⟨[(0,.own 0 (zA (α:=PathBind) o))],[.elems 2 (zB zF o)]⟩)->ALoopU zQ B 1 49 (hold c .mk) ⟨[(0,.own 0 (zA (α:=PathBind) out24)),(2,am cI path),(4,.ptr 1 0),(7,li (i25:Int))],[.elems 2 (zB zF out24),.cells [li p.op,li p.ctor,li p.n,li p.m,li p.var,am zG p.kids]]⟩ (hold Q .mk))/\
  (∀(p:Pattern) (path:List Int) (out7:List PathBind) (i:Nat) (o:List PathBind),F.f212 p path out7 i=some o->∀(c:Code),ZS [1,1,0,1,0,0] (ZH Tryz.f108)=some c->∀(Q:Exit->ASt->Prop),(Q (.exit 0) ⟨[(0,.own 0 (zA (α:=PathBind) o))],[.elems 2 (zB zF o)]⟩)->ALoopU zQ B 1 49 (hold c .mk) ⟨[(0,.own 0 (zA (α:=PathBind) out7)),(2,am cI path),(4,.ptr 1 0),(7,li (i:Int))],[.elems 2 (zB zF out7),.cells [li p.op,li p.ctor,li p.n,li p.m,li p.var,am zG p.kids]]⟩ (hold Q .mk))/\
  (∀(p:Pattern) (path:List Int) (out47:List PathBind) (i48:Nat) (o:List PathBind),F.f214 p path out47 i48=some o->∀(c:Code),ZS [1,1,0,1,0,0] (ZH Tryz.f108)=some c->∀(Q:Exit->ASt->Prop),(Q (.exit 0) ⟨[(0,.own 0 (zA (α:=PathBind) o))],[.elems 2 (zB zF o)]⟩)->ALoopU zQ B 1 49 (hold c .mk) ⟨[(0,.own 0 (zA (α:=PathBind) out47)),(2,am cI path),(4,.ptr 1 0),(7,li (i48:Int))],[.elems 2 (zB zF out47),.cells [li p.op,li p.ctor,li p.n,li p.m,li p.var,am zG p.kids]]⟩ (hold Q .mk)):=by
 refine F.f211.mutual_partial_correctness 
  _ _ _ _
  ?_ ?_ ?_ ?_
 ·intro _f_f213 _f_f212 _f_f214 ih_f213 ih_f212 ih_f214 out p path r hF
  refine zH func108 (by kernel_rfl) rfl ntmps108 (by simp) rfl (by simp) (by simp) (by simp) (by simp) (by simp) (gR _) ?_
  revert hF;refine kN ?_ ?_<;>intro h1 q2 hF
  ·refine kx2 h1 q2 ?_
   revert hF;refine aS ?_ ?_<;>intro h3 q4 hF
   ·refine kx1 h3 ?_
    refine zK [1000133] [(0,4),(0,2),(0,2),(0,5),(0,1),(0,5),(0,5),(0,5),(0,5),(5,5)] [1,0,2,1,1,1,1,1,1,1] follows ?_
    apply oC hF;intro c5 hF
    apply oC hF;intro c6 hF
    refine kB hF fun o' ho23 hF=> ?_
    refine zP ((ih_f212 p path (out++[(⟨p.var,path⟩:PathBind)]) 0 o' ho23) _ rfl _ ?_)
    cases hF
    exact kc0
   ·refine kx1 q4 ?_
    apply oB hF;intro o'44 ho43 hF
    refine zP ((ih_f213 p path out 0 o'44 ho43) _ rfl _ ?_)
    cases hF
    exact kc0
  ·refine kx2 h1 q2 ?_
   refine zK [1000133] [(0,4),(0,2),(0,2),(0,5),(0,1),(0,5),(0,5),(0,5),(0,5),(5,5)] [1,0,2,1,1,1,1,1,1,1] follows ?_
   apply oC hF;intro c45 hF
   apply oC hF;intro c46 hF
   refine kB hF fun o'67 ho66 hF=> ?_
   refine zP ((ih_f214 p path (out++[(⟨p.var,path⟩:PathBind)]) 0 o'67 ho66) _ rfl _ ?_)
   cases hF
   exact kc0
 ·intro _f_f211 _f_f213 ih_f211 ih_f213 p path out24 i25 o hF
  refine ZJ rfl fun Q hq hk hs=> ?_
  have b2:=hk 2
  simp -dsimp at b2
  have d0:=hs 0 _ rfl
  simp -dsimp[zS]at d0
  have d1:=hs 1 _ rfl
  simp -dsimp[zS]at d1
  clear hk hs
  refine eN ?_
  revert hF;refine kS ?_ ?_<;>intro h26 q27 hF
  ·have z28:((i25:Int)<(p.kids.length:Int)):=auz
   refine kx2 h26 z28 ?_
   revert hF;refine aS ?_ ?_<;>intro h29 q30 hF
   ·refine kx1 h29 ?_
    apply oB hF;intro v31 e32 hF
    refine((C.f208 B hB1 hB2 path (i25:Int) v31 e32)).goI ?_
    apply oB hF;intro x33 e34 hF
    have le34:=ZA e34
    refine kdd e34 ?_
    apply oB hF;intro v35 e36 hF
    refine((ih_f211 out24 x33 v31 v35 e36)).go (pl [0]) (by simp) (by simp) (Zs _ rfl (by decide)) (by intro i hi hi';simp at hi hi';first|omega|(subst hi';simp[pl])) (by simp[h26,z28,h29,↓e34]) (by simp[h26,z28,h29,↓e34]) ?_
    have w37:i64.wrap ((i25:Int)+1)=(i25:Int)+1:=ZC (by omega) (by omega)
    refine kx1 w37 ?_
    refine zW ((ih_f213 p path v35 (i25+1) o hF) _ rfl _ hq)
   ·apply oB hF;intro x38 e39 hF
    have le39:=ZA e39
    refine ZOk q30 e39 ?_
    apply oB hF;intro v40 e41 hF
    refine((ih_f211 out24 x38 path v40 e41)).go (pl [0]) (by simp) (by simp) (Zs _ rfl (by decide)) (by intro i hi hi';simp at hi hi';first|omega|(subst hi';simp[pl])) (by simp[h26,z28,h29,q30,↓e39]) (by simp[h26,z28,h29,q30,↓e39]) ?_
    have w42:i64.wrap ((i25:Int)+1)=(i25:Int)+1:=ZC (by omega) (by omega)
    refine kx1 w42 ?_
    refine zW ((ih_f213 p path v40 (i25+1) o hF) _ rfl _ hq)
  ·have z28:¬((i25:Int)<(p.kids.length:Int)):=auz
   cases hF
   refine kx3 h26 q27 z28 ?_
   refine zX hq
 ·intro _f_f211 _f_f212 ih_f211 ih_f212 p path out7 i o hF
  refine ZJ rfl fun Q hq hk hs=> ?_
  have b2:=hk 2
  simp -dsimp at b2
  have d0:=hs 0 _ rfl
  simp -dsimp[zS]at d0
  have d1:=hs 1 _ rfl
  simp -dsimp[zS]at d1
  clear hk hs
  refine eN ?_
  revert hF;refine kS ?_ ?_<;>intro h8 q9 hF
  ·have z10:((i:Int)<(p.kids.length:Int)):=auz
   refine kx2 h8 z10 ?_
   revert hF;refine aS ?_ ?_<;>intro h11 q12 hF
   ·refine kx1 h11 ?_
    apply oB hF;intro v e13 hF
    refine((C.f208 B hB1 hB2 path (i:Int) v e13)).goI ?_
    apply oB hF;intro x e14 hF
    have le14:=ZA e14
    refine kdd e14 ?_
    apply oB hF;intro v15 e16 hF
    refine((ih_f211 out7 x v v15 e16)).go (pl [0]) (by simp) (by simp) (Zs _ rfl (by decide)) (by intro i hi hi';simp at hi hi';first|omega|(subst hi';simp[pl])) (by simp[h8,z10,h11,↓e14]) (by simp[h8,z10,h11,↓e14]) ?_
    have w17:i64.wrap ((i:Int)+1)=(i:Int)+1:=ZC (by omega) (by omega)
    refine kx1 w17 ?_
    refine zW ((ih_f212 p path v15 (i+1) o hF) _ rfl _ hq)
   ·apply oB hF;intro x18 e19 hF
    have le19:=ZA e19
    refine ZOk q12 e19 ?_
    apply oB hF;intro v20 e21 hF
    refine((ih_f211 out7 x18 path v20 e21)).go (pl [0]) (by simp) (by simp) (Zs _ rfl (by decide)) (by intro i hi hi';simp at hi hi';first|omega|(subst hi';simp[pl])) (by simp[h8,z10,h11,q12,↓e19]) (by simp[h8,z10,h11,q12,↓e19]) ?_
    have w22:i64.wrap ((i:Int)+1)=(i:Int)+1:=ZC (by omega) (by omega)
    refine kx1 w22 ?_
    refine zW ((ih_f212 p path v20 (i+1) o hF) _ rfl _ hq)
  ·have z10:¬((i:Int)<(p.kids.length:Int)):=auz
   cases hF
   refine kx3 h8 q9 z10 ?_
   refine zX hq
 ·intro _f_f211 _f_f214 ih_f211 ih_f214 p path out47 i48 o hF
  refine ZJ rfl fun Q hq hk hs=> ?_
  have b2:=hk 2
  simp -dsimp at b2
  have d0:=hs 0 _ rfl
  simp -dsimp[zS]at d0
  have d1:=hs 1 _ rfl
  simp -dsimp[zS]at d1
  clear hk hs
  refine eN ?_
  revert hF;refine kS ?_ ?_<;>intro h49 q50 hF
  ·have z51:((i48:Int)<(p.kids.length:Int)):=auz
   refine kx2 h49 z51 ?_
   revert hF;refine aS ?_ ?_<;>intro h52 q53 hF
   ·refine kx1 h52 ?_
    apply oB hF;intro v54 e55 hF
    refine((C.f208 B hB1 hB2 path (i48:Int) v54 e55)).goI ?_
    apply oB hF;intro x56 e57 hF
    have le57:=ZA e57
    refine kdd e57 ?_
    apply oB hF;intro v58 e59 hF
    refine((ih_f211 out47 x56 v54 v58 e59)).go (pl [0]) (by simp) (by simp) (Zs _ rfl (by decide)) (by intro i hi hi';simp at hi hi';first|omega|(subst hi';simp[pl])) (by simp[h49,z51,h52,↓e57]) (by simp[h49,z51,h52,↓e57]) ?_
    have w60:i64.wrap ((i48:Int)+1)=(i48:Int)+1:=ZC (by omega) (by omega)
    refine kx1 w60 ?_
    refine zW ((ih_f214 p path v58 (i48+1) o hF) _ rfl _ hq)
   ·apply oB hF;intro x61 e62 hF
    have le62:=ZA e62
    refine ZOk q53 e62 ?_
    apply oB hF;intro v63 e64 hF
    refine((ih_f211 out47 x61 path v63 e64)).go (pl [0]) (by simp) (by simp) (Zs _ rfl (by decide)) (by intro i hi hi';simp at hi hi';first|omega|(subst hi';simp[pl])) (by simp[h49,z51,h52,q53,↓e62]) (by simp[h49,z51,h52,q53,↓e62]) ?_
    have w65:i64.wrap ((i48:Int)+1)=(i48:Int)+1:=ZC (by omega) (by omega)
    refine kx1 w65 ?_
    refine zW ((ih_f214 p path v63 (i48+1) o hF) _ rfl _ hq)
  ·have z51:¬((i48:Int)<(p.kids.length:Int)):=auz
   cases hF
   refine kx3 h49 q50 z51 ?_
   refine zX hq
theorem CC.f215 (list:List PathBind)(n:Nat):(∀(out4:List PathBind) (i:Nat) (o:List PathBind),F.f215 list n out4 i=some o->∀(c:Code),ZS [1,1,0,1,0,0,1,0,0,1,0,0] (ZH Tryz.f107)=some c->∀(Q:Exit->ASt->Prop),(Q (.exit 2) ⟨[(0,am zF list),(3,.own 0 (zA (α:=PathBind) o)),(4,li (n:Int))],[.elems 2 (zB zF o)]⟩)->ALoopU zQ B 0 37 (hold c .mk) ⟨[(0,am zF list),(3,.own 0 (zA (α:=PathBind) out4)),(4,li (n:Int)),(5,li (i:Int))],[.elems 2 (zB zF out4)]⟩ (hold Q .mk)):=by
 refine F.f215.partial_correctness list n
  _
  ?_
 ·intro _f_f215 ih_f215 out4 i o hF
  refine ZJ rfl fun Q hq hk hs=> ?_
  have b0:=hk 0
  simp -dsimp at b0
  have d0:=hs 0 _ rfl
  simp -dsimp[zS]at d0
  clear hk hs
  refine eN ?_
  revert hF;refine kS ?_ ?_<;>intro h5 q6 hF
  ·have z7:((i:Int)<(list.length:Int)):=auz
   apply oB hF;intro x e8 hF
   have le8:=ZA e8
   refine ZW h5 z7 e8 ?_
   revert hF;refine aS ?_ ?_<;>intro h9 q10 hF
   ·apply oC hF;intro c11 hF
    apply oC hF;intro c12 hF
    have w13:i64.wrap ((i:Int)+1)=(i:Int)+1:=ZC (by omega) (by omega)
    refine ZCu e8 h9 w13 ?_
    refine zW ((ih_f215 (out4++[(⟨(n:Int),x.path⟩:PathBind)]) (i+1) o hF) _ rfl _ hq)
   ·have w14:i64.wrap ((i:Int)+1)=(i:Int)+1:=ZC (by omega) (by omega)
    repeat first|refine cg ?_|simp -dsimp[↓e8,h9,q10,w14]
    refine zW ((ih_f215 out4 (i+1) o hF) _ rfl _ hq)
  ·have z7:¬((i:Int)<(list.length:Int)):=auz
   cases hF
   refine kx3 h5 q6 z7 ?_
   refine zX hq
theorem CC.f216 (list:List PathBind):(∀(out:List PathBind) (n:Nat) (o:List PathBind),F.f216 list out n=some o->∀(c:Code),ZS [1,1,0,1,0,0] (ZH Tryz.f107)=some c->∀(Q:Exit->ASt->Prop),(Q (.exit 0) ⟨[(3,.own 0 (zA (α:=PathBind) o))],[.elems 2 (zB zF o)]⟩)->ALoopU zQ B 0 37 (hold c .mk) ⟨[(0,am zF list),(3,.own 0 (zA (α:=PathBind) out)),(4,li (n:Int))],[.elems 2 (zB zF out)]⟩ (hold Q .mk)):=by
 refine F.f216.partial_correctness list
  _
  ?_
 ·intro _f_f216 ih_f216 out n o hF
  refine ZJ rfl fun Q hq hk hs=> ?_
  have b0:=hk 0
  simp -dsimp at b0
  have d0:=hs 0 _ rfl
  simp -dsimp[zS]at d0
  clear hk hs
  refine eN ?_
  revert hF;refine kS ?_ ?_<;>intro h1 q2 hF
  ·have z3:((n:Int)<=5):=auz
   refine kx2 h1 z3 ?_
   apply oB hF;intro o' ho15 hF
   refine zP (((CC.f215 B hB1 hB2 list n) out 0 o' ho15) _ rfl _ ?_)
   apply oC hF;intro c16 hF
   have w17:i64.wrap ((n:Int)+1)=(n:Int)+1:=ZC (by omega) (by omega)
   refine kx1 w17 ?_
   refine zW ((ih_f216 o' (n+1) o hF) _ rfl _ hq)
  ·have z3:¬((n:Int)<=5):=auz
   cases hF
   refine kx3 h1 q2 z3 ?_
   refine zX hq
theorem C.f217 (list:List PathBind)(r:List PathBind)(hF:F.f217 list=some r):PureCall zQ B 107 [am zF list] (am zF r):=by
 unfold F.f217 at hF
 refine yB func107 rfl ntmps107 ?_
 refine kB hF fun o'19 ho18 hF=> ?_
 refine zP (((CC.f216 B hB1 hB2 list) [] 0 o'19 ho18) _ rfl _ ?_)
 cases hF
 exact kc0
theorem CC.f218 (list:List Clause)(out:List Step)(i:Nat)(v:List Pattern)(k:Nat):(∀(out19:List Step) (n:Nat) (o:List Step),F.f218 list out i v k out19 n=some o->∀(c:Code),ZS [1,1,0,1,0,0,1,0,0,1,1,0,1,0,0,1,0,0,1,1,1,1,0,0] (ZH Tryz.f67)=some c->∀(Q:Exit->ASt->Prop),(Q (.exit 4) ⟨[(0,am yA list),(3,.own 0 (zA (α:=Step) o)),(4,li (i:Int)),(5,.own 1 (zA (α:=Pattern) v)),(6,li (out.length:Int)),(7,li (k:Int))],[.elems 8 (zB zE o),.elems 6 (zB zG v)]⟩)->ALoopU zQ B 0 87 (hold c .mk) ⟨[(0,am yA list),(3,.own 0 (zA (α:=Step) out19)),(4,li (i:Int)),(5,.own 1 (zA (α:=Pattern) v)),(6,li (out.length:Int)),(7,li (k:Int)),(9,li (n:Int))],[.elems 8 (zB zE out19),.elems 6 (zB zG v)]⟩ (hold Q .mk)):=by
 refine F.f218.partial_correctness list out i v k
  _
  ?_
 ·intro _f_f218 ih_f218 out19 n o hF
  refine ZJ rfl fun Q hq hk hs=> ?_
  have b0:=hk 0
  simp -dsimp at b0
  have d0:=hs 0 _ rfl
  simp -dsimp[zS]at d0
  have d1:=hs 1 _ rfl
  simp -dsimp[zS]at d1
  clear hk hs
  refine eN ?_
  revert hF;refine kS ?_ ?_<;>intro h20 q21 hF
  ·have z22:((n:Int)<(out19.length:Int)):=auz
   apply oB hF;intro x23 e24 hF
   have le24:=ZA e24
   have w25:i64.wrap ((n:Int)+1)=(n:Int)+1:=ZC (by omega) (by omega)
   repeat first|refine cg ?_|simp -dsimp[h20,z22,↓e24,w25]
   refine zW ((ih_f218 (out19.set n (⟨x23.op,x23.path,x23.ctor,x23.n,x23.m,x23.clause,x23.binds,(out19.length:Int)⟩:Step)) (n+1) o hF) _ rfl _ hq)
  ·have z22:¬((n:Int)<(out19.length:Int)):=auz
   cases hF
   refine kx3 h20 q21 z22 ?_
   refine zX hq
theorem CC.f219 (list:List Clause)(out:List Step)(i:Nat)(v:List Pattern):(∀(out6:List Step) (k:Nat) (o:List Step),F.f219 list out i v out6 k=some o->∀(c:Code),ZS [1,1,0,1,0,0,1,0,0,1,1,0,1,0,0] (ZH Tryz.f67)=some c->∀(Q:Exit->ASt->Prop),(Q (.exit 2) ⟨[(0,am yA list),(3,.own 0 (zA (α:=Step) o)),(4,li (i:Int)),(6,li (out.length:Int))],[.elems 8 (zB zE o)]⟩)->ALoopU zQ B 0 87 (hold c .mk) ⟨[(0,am yA list),(3,.own 0 (zA (α:=Step) out6)),(4,li (i:Int)),(5,.own 1 (zA (α:=Pattern) v)),(6,li (out.length:Int)),(7,li (k:Int))],[.elems 8 (zB zE out6),.elems 6 (zB zG v)]⟩ (hold Q .mk)):=by
 refine F.f219.partial_correctness list out i v
  _
  ?_
 ·intro _f_f219 ih_f219 out6 k o hF
  refine ZJ rfl fun Q hq hk hs=> ?_
  have b0:=hk 0
  simp -dsimp at b0
  have d0:=hs 0 _ rfl
  simp -dsimp[zS]at d0
  have d1:=hs 1 _ rfl
  simp -dsimp[zS]at d1
  clear hk hs
  refine eN ?_
  revert hF;refine kS ?_ ?_<;>intro h7 q8 hF
  ·have z9:((k:Int)<(v.length:Int)):=auz
   apply oB hF;intro x10 e11 hF
   have le11:=ZA e11
   refine ZW h7 z9 e11 ?_
   apply oB hF;intro v12 e13 hF
   refine(((CC.f209 B hB1 hB2).1 out6 x10 [] v12 e13)).go (pl [0]) (by simp) (by simp) (Zs _ rfl (by decide)) (by intro i hi hi';simp at hi hi';first|omega|(subst hi';simp[pl])) (by simp_all) (by simp_all) ?_
   refine kdd e11 ?_
   apply oB hF;intro v14 e15 hF
   refine ACall.nilArg 0 2 (by simp) ?_
   refine kdd e11 ?_
   refine(((CC.f211 B hB1 hB2).1 [] x10 [] v14 e15)).go (pl [2]) (by simp) (by simp) (Zs _ rfl (by decide)) (by intro i hi hi';simp at hi hi';first|omega|(subst hi';simp[pl])) (by simp_all) (by simp_all) ?_
   refine kdd e11 ?_
   apply oB hF;intro v16 e17 hF
   refine zV ?_ ((C.f217 B hB1 hB2 v14 v16 e17)).ent
   refine kdd e11 ?_
   refine((C.f217 B hB1 hB2 v14 v16 e17)).goI ?_
   apply oC hF;intro c18 hF
   refine kdd e11 ?_
   apply oB hF;intro o' ho26 hF
   refine zP (((CC.f218 B hB1 hB2 list out i v k) (v12++[(⟨2,[],0,0,0,(i:Int),v16,0⟩:Step)]) out6.length o' ho26) _ rfl _ ?_)
   apply oC hF;intro c27 hF
   have w28:i64.wrap ((k:Int)+1)=(k:Int)+1:=ZC (by omega) (by omega)
   refine kx1 w28 ?_
   refine zW ((ih_f219 o' (k+1) o hF) _ rfl _ hq)
  ·have z9:¬((k:Int)<(v.length:Int)):=auz
   cases hF
   refine kx3 h7 q8 z9 ?_
   refine zX hq
theorem CC.f220 (list:List Clause)(i:Nat):(∀(out31:List Step) (n32:Nat) (o:List Step),F.f220 list i out31 n32=some o->∀(c:Code),ZS [1,1,0,1,0,0,1,0,0,1,1,1,1,0,0] (ZH Tryz.f67)=some c->∀(Q:Exit->ASt->Prop),(Q (.exit 6) ⟨[(0,am yA list),(3,.own 0 (zA (α:=Step) o)),(4,li (i:Int))],[.elems 8 (zB zE o)]⟩)->ALoopU zQ B 0 87 (hold c .mk) ⟨[(0,am yA list),(3,.own 0 (zA (α:=Step) out31)),(4,li (i:Int)),(10,li (n32:Int))],[.elems 8 (zB zE out31)]⟩ (hold Q .mk)):=by
 refine F.f220.partial_correctness list i
  _
  ?_
 ·intro _f_f220 ih_f220 out31 n32 o hF
  refine ZJ rfl fun Q hq hk hs=> ?_
  have b0:=hk 0
  simp -dsimp at b0
  have d0:=hs 0 _ rfl
  simp -dsimp[zS]at d0
  clear hk hs
  refine eN ?_
  revert hF;refine kS ?_ ?_<;>intro h33 q34 hF
  ·have z35:((n32:Int)<(out31.length:Int)):=auz
   apply oB hF;intro x36 e37 hF
   have le37:=ZA e37
   refine ZW h33 z35 e37 ?_
   revert hF;refine aS ?_ ?_<;>intro h38 q39 hF
   ·have w40:i64.wrap ((n32:Int)+1)=(n32:Int)+1:=ZC (by omega) (by omega)
    refine kx2 h38 w40 ?_
    refine zW ((ih_f220 (out31.set n32 (⟨x36.op,x36.path,x36.ctor,x36.n,x36.m,x36.clause,x36.binds,(out31.length:Int)⟩:Step)) (n32+1) o hF) _ rfl _ hq)
   ·have w41:i64.wrap ((n32:Int)+1)=(n32:Int)+1:=ZC (by omega) (by omega)
    refine kx3 h38 q39 w41 ?_
    refine zW ((ih_f220 out31 (n32+1) o hF) _ rfl _ hq)
  ·have z35:¬((n32:Int)<(out31.length:Int)):=auz
   cases hF
   refine kx3 h33 q34 z35 ?_
   refine zX hq
theorem CC.f221 (list:List Clause):(∀(out:List Step) (i:Nat) (o:List Step),F.f221 list out i=some o->∀(c:Code),ZS [1,1,0,1,0,0] (ZH Tryz.f67)=some c->∀(Q:Exit->ASt->Prop),(Q (.exit 0) ⟨[(3,.own 0 (zA (α:=Step) o))],[.elems 8 (zB zE o)]⟩)->ALoopU zQ B 0 87 (hold c .mk) ⟨[(0,am yA list),(3,.own 0 (zA (α:=Step) out)),(4,li (i:Int))],[.elems 8 (zB zE out)]⟩ (hold Q .mk)):=by
 refine F.f221.partial_correctness list
  _
  ?_
 ·intro _f_f221 ih_f221 out i o hF
  refine ZJ rfl fun Q hq hk hs=> ?_
  have b0:=hk 0
  simp -dsimp at b0
  have d0:=hs 0 _ rfl
  simp -dsimp[zS]at d0
  clear hk hs
  refine eN ?_
  revert hF;refine kS ?_ ?_<;>intro h1 q2 hF
  ·have z3:((i:Int)<(list.length:Int)):=auz
   apply oB hF;intro x e4 hF
   have le4:=ZA e4
   refine ZW h1 z3 e4 ?_
   apply oB hF;intro v e5 hF
   refine(((CC.spec_l3Split__o0 B hB1 hB2).1 x.pat v e5)).go (pl [1]) (by simp) (by simp) (by intro i j hi;simp at hi) (by intro i hi hi';simp at hi hi';have hi:i=0:=(by omega);rcases hi with rfl<;>simp[pl]) (by simp_all) (by simp_all) ?_
   refine kB hF fun o'30 ho29 hF=> ?_
   refine zP (((CC.f219 B hB1 hB2 list out i v) out 0 o'30 ho29) _ rfl _ ?_)
   refine kB hF fun o'43 ho42 hF=> ?_
   refine zP (((CC.f220 B hB1 hB2 list i) o'30 out.length o'43 ho42) _ rfl _ ?_)
   apply oC hF;intro c44 hF
   have w45:i64.wrap ((i:Int)+1)=(i:Int)+1:=ZC (by omega) (by omega)
   refine kx1 w45 ?_
   refine zW ((ih_f221 o'43 (i+1) o hF) _ rfl _ hq)
  ·have z3:¬((i:Int)<(list.length:Int)):=auz
   cases hF
   refine kx3 h1 q2 z3 ?_
   refine zX hq
theorem C.f222 (list:List Clause)(r:List Step)(hF:F.f222 list=some r):PureCall zQ B 67 [am yA list] (am zE r):=by
 unfold F.f222 at hF
 refine yB func67 rfl ntmps67 ?_
 refine kB hF fun o'47 ho46 hF=> ?_
 refine zP (((CC.f221 B hB1 hB2 list) [] 0 o'47 ho46) _ rfl _ ?_)
 apply oC hF;intro c48 hF
 cases hF
 exact kc0
theorem CC.f223 (list:List Clause):(∀(i:Nat) (o:Lo ((List Step)×Bool) Unit),F.f223 list i=some o->∀(c:Code),ZS [1,1,0,1,0,0] (ZH Tryz.f32)=some c->∀(Q:Exit->ASt->Prop),o.post (fun r=>∀st,ZAG zQ Tryz.f32 (fun r' _=>r'.le (.tup [am zE r.1,.lit (.bool r.2)])) .ret st->Q .ret st) (fun s=>Q (.exit 0) ⟨[(2,am yA list)],[]⟩)->ALoopU zQ B 0 32 (hold c .mk) ⟨[(2,am yA list),(8,li (i:Int))],[]⟩ (hold Q .mk)):=by
 refine F.f223.partial_correctness list
  _
  ?_
 ·intro _f_f223 ih_f223 i o hF
  refine ZJ rfl fun Q hq hk hs=> ?_
  have b2:=hk 2
  simp -dsimp at b2
  clear hk hs
  refine eN ?_
  revert hF;refine kS ?_ ?_<;>intro h4 q5 hF
  ·have z6:((i:Int)<(list.length:Int)):=auz
   apply oB hF;intro x e7 hF
   have le7:=ZA e7
   refine ZW h4 z6 e7 ?_
   apply oB hF;intro v8 e9 hF
   refine(((CC.spec_l3Split__o0 B hB1 hB2).1 x.pat v8 e9)).go (pl [0]) (by simp) (by simp) (by intro i j hi;simp at hi) (by intro i hi hi';simp at hi hi';have hi:i=0:=(by omega);rcases hi with rfl<;>simp[pl]) (by simp_all) (by simp_all) ?_
   revert hF;refine kS ?_ ?_<;>intro h10 q11 hF
   ·have z12:(40<(v8.length:Int)):=auz
    cases hF
    refine kx2 h10 z12 ?_
    refine lG _ (gR _) (hq _ ?_)
    exact kc0
   ·have z12:¬(40<(v8.length:Int)):=auz
    have w13:i64.wrap ((i:Int)+1)=(i:Int)+1:=ZC (by omega) (by omega)
    refine kx4 h10 q11 z12 w13 ?_
    refine zW ((ih_f223 (i+1) o hF) _ rfl _ hq)
  ·have z6:¬((i:Int)<(list.length:Int)):=auz
   cases hF
   refine kx3 h4 q5 z6 ?_
   refine zX hq
theorem C.f224 (w:List zY)(t:Ty)(list:List Clause)(r:(List Step)×Bool)(hF:F.f224 w t list=some r):PureCall zQ B 32 [am zZ w,.agg [li t.data,li t.index],am yA list] (.tup [am zE r.1,.lit (.bool r.2)]):=by
 unfold F.f224 at hF
 refine yB func32 rfl ntmps32 ?_
 refine kB hF fun v e1 hF=> ?_
 refine((C.f200 B hB1 hB2 w t list v e1)).goI ?_
 revert hF;refine kN (fun h2 q3 hF=> ?_) (fun h2 q3 hF=> ?_)
 ·cases hF
  exact kc2 h2 q3
 ·refine kB hF fun o' ho14 hF=> ?_
  refine zP (((CC.f223 B hB1 hB2 list) 0 o' ho14) _ rfl _ ?_)
  rcases o' with r0|sx
  ·dsimp only at hF
   cases hF
   intro st h
   simpa using h
  ·dsimp only at hF
   refine kB hF fun v15 e16 hF=> ?_
   refine((C.f222 B hB1 hB2 list v15 e16)).goI ?_
   cases hF
   exact kc0
theorem CC.f225 (w:List zY):(∀(t:Ty) (v:Vl.Value) (depth:Int) (r:Bool),F.f225 w t v depth=some r->PureCall zQ B 68 [am zZ w,.agg [li t.data,li t.index],.agg [li v.ctor,li v.n,am Vl.Value.c v.kids],li depth] (.lit (.bool r)))/\
  (∀(v:Vl.Value) (depth:Int) (v19:List Ty) (i:Nat) (o:Lo Bool Unit),F.f226 w v depth v19 i=some o->∀(c:Code),ZS [1,1,1,1,1,1,0,1,0,0] (ZH Tryz.f68)=some c->∀(Q:Exit->ASt->Prop),o.post (fun r=>∀st,ZAG zQ Tryz.f68 (fun r' _=>r'.le (.lit (.bool r))) .ret st->Q .ret st) (fun s=>Q (.exit 0) ⟨[],[]⟩)->ALoopU zQ B 0 78 (hold c .mk) ⟨[(0,am zZ w),(3,li depth),(6,.ptr 1 0),(9,am Ty.c v19),(10,li (i:Int))],[.dead,.cells [li v.ctor,li v.n,am Vl.Value.c v.kids]]⟩ (hold Q .mk)):=by
 refine F.f225.mutual_partial_correctness w
  _ _
  ?_ ?_
 ·intro _f_f226 ih_f226 t v depth r hF
  refine yB func68 rfl ntmps68 ?_
  revert hF;refine kS ?_ ?_<;>intro h1 q2 hF
  ·cases hF
   exact kc1 h1
  ·refine kx2 h1 q2 ?_
   revert hF;refine aS ?_ ?_<;>intro h3 q4 hF
   ·refine kx3 h1 q2 h3 ?_
    revert hF;refine aS ?_ ?_<;>intro h5 q6 hF
    ·refine kx4 h1 q2 h3 h5 ?_
     revert hF;refine aS ?_ ?_<;>intro h7 q8 hF
     ·refine kx5 h1 q2 h3 h5 h7 ?_
      revert hF;refine aS ?_ ?_<;>intro h9 q10 hF
      ·cases hF
       exact kc6 h1 q2 h3 h5 h7 h9
      ·cases hF
       exact kc7 h1 q2 h3 h5 h7 h9 q10
     ·cases hF
      exact kc6 h1 q2 h3 h5 h7 q8
    ·cases hF
     exact kc5 h1 q2 h3 h5 q6
   ·refine kx4 h1 q2 h3 q4 ?_
    refine zL follows ?_
    refine kx4 h1 q2 h3 q4 ?_
    revert hF;refine aS ?_ ?_<;>intro h11 q12 hF
    ·refine kx5 h1 q2 h3 q4 h11 ?_
     apply oB hF;intro v13 e14 hF
     refine((C.f42 B hB1 hB2 w t v13 e14)).pgoW (by simp[h1,q2,h3,q4,h11]) (by simp) ?_
     refine kx5 h1 q2 h3 q4 h11 ?_
     apply oB hF;intro v15 e16 hF
     refine((C.f65 B hB1 hB2 v13 v.ctor v15 e16)).pgoW (by simp[h1,q2,h3,q4,h11]) (by simp) ?_
     refine kx5 h1 q2 h3 q4 h11 ?_
     revert hF;refine aN (fun h17 q18 hF=> ?_) (fun h17 q18 hF=> ?_)
     ·cases hF
      exact kc7 h1 q2 h3 q4 h11 h17 q18
     ·refine kx7 h1 q2 h3 q4 h11 h17 q18 ?_
      apply oB hF;intro v19 e20 hF
      refine((C.f45 B hB1 hB2 w t v.ctor v19 e20)).goI ?_
      refine kx7 h1 q2 h3 q4 h11 h17 q18 ?_
      revert hF;refine aN ?_ ?_<;>intro h21 q22 hF
      ·have z23:¬((v.kids.length:Int)=(v19.length:Int)):=auz
       cases hF
       repeat first|refine cg ?_|simp -dsimp[h1,q2,h3,q4,h11,h17,q18,h21,q22,z23]
      ·have z23:((v.kids.length:Int)=(v19.length:Int)):=auz
       repeat first|refine cg ?_|simp -dsimp[h1,q2,h3,q4,h11,h17,q18,h21,q22,z23]
       apply oB hF;intro o' ho35 hF
       refine zP ((ih_f226 v depth v19 0 o' ho35) _ rfl _ ?_)
       rcases o' with r0|sx
       ·dsimp only at hF
        cases hF
        intro st h
        simpa using h
       ·dsimp only at hF
        cases hF
        exact kc0
    ·cases hF
     exact kc6 h1 q2 h3 q4 h11 q12
 ·intro _f_f225 _f_f226 ih_f225 ih_f226 v depth v19 i o hF
  refine ZJ rfl fun Q hq hk hs=> ?_
  have b0:=hk 0
  simp -dsimp at b0
  have b9:=hk 9
  simp -dsimp at b9
  have d1:=hs 1 _ rfl
  simp -dsimp[zS]at d1
  clear hk hs
  refine eN ?_
  revert hF;refine kS ?_ ?_<;>intro h24 q25 hF
  ·have z26:((i:Int)<(v19.length:Int)):=auz
   refine kx2 h24 z26 ?_
   refine zL follows ?_
   apply oB hF;intro x e27 hF
   have le27:=ZA e27
   apply oB hF;intro x28 e29 hF
   have le29:=ZA e29
   refine ZAS h24 z26 e27 e29 ?_
   apply oB hF;intro v30 e31 hF
   refine((ih_f225 x x28 (i64.wrap (depth-1)) v30 e31)).pgoW (by simp[h24,z26,↓e27,↓e29]) (by simp) ?_
   refine ZAS h24 z26 e27 e29 ?_
   revert hF;refine aN (fun h32 q33 hF=> ?_) (fun h32 q33 hF=> ?_)
   ·cases hF
    refine ZAA h24 z26 e27 e29 h32 q33 ?_
    refine lG _ (gR _) (hq _ ?_)
    repeat first|refine cg ?_|simp -dsimp[h24,z26,↓e27,↓e29,h32,q33]
   ·have w34:i64.wrap ((i:Int)+1)=(i:Int)+1:=ZC (by omega) (by omega)
    repeat first|refine cg ?_|simp -dsimp[h24,z26,↓e27,↓e29,h32,q33,w34]
    refine zW ((ih_f226 v depth v19 (i+1) o hF) _ rfl _ hq)
  ·have z26:¬((i:Int)<(v19.length:Int)):=auz
   cases hF
   refine kx3 h24 q25 z26 ?_
   refine zX hq
theorem CC.f227  :(∀(v:Vl.Value) (most:Int) (r:Int),F.f227 v most=some r->PureCall zQ B 69 [.agg [li v.ctor,li v.n,am Vl.Value.c v.kids],li most] (li r))/\
  (∀(v:Vl.Value) (most:Int) (n:Int) (i:Nat) (o:Int),F.f228 v most n i=some o->∀(c:Code),ZS [1,1,0,1,0,0] (ZH Tryz.f69)=some c->∀(Q:Exit->ASt->Prop),(Q (.exit 0) ⟨[(5,li o)],[]⟩)->ALoopU zQ B 0 31 (hold c .mk) ⟨[(1,li most),(2,.ptr 0 0),(5,li n),(6,li (i:Int))],[.cells [li v.ctor,li v.n,am Vl.Value.c v.kids]]⟩ (hold Q .mk)):=by
 refine F.f227.mutual_partial_correctness 
  _ _
  ?_ ?_
 ·intro _f_f228 ih_f228 v most r hF
  refine yB func69 rfl ntmps69 ?_
  refine kB hF fun o' ho10 hF=> ?_
  refine zP ((ih_f228 v most 1 0 o' ho10) _ rfl _ ?_)
  cases hF
  exact kc0
 ·intro _f_f227 _f_f228 ih_f227 ih_f228 v most n i o hF
  refine ZJ rfl fun Q hq hk hs=> ?_
  have d0:=hs 0 _ rfl
  simp -dsimp[zS]at d0
  clear hk hs
  refine eN ?_
  revert hF;refine kS ?_ ?_<;>intro h1 q2 hF
  ·have z3:((i:Int)<(v.kids.length:Int)):=auz
   refine kx2 h1 z3 ?_
   revert hF;refine aS ?_ ?_<;>intro h4 q5 hF
   ·apply oB hF;intro x e6 hF
    have le6:=ZA e6
    refine ZOk h4 e6 ?_
    apply oB hF;intro v7 e8 hF
    refine((ih_f227 x (i64.wrap (most-n)) v7 e8)).goI ?_
    have w9:i64.wrap ((i:Int)+1)=(i:Int)+1:=ZC (by omega) (by omega)
    refine kx1 w9 ?_
    refine zW ((ih_f228 v most (i64.wrap (n+v7)) (i+1) o hF) _ rfl _ hq)
   ·cases hF
    refine kx2 h4 q5 ?_
    refine zX hq
  ·have z3:¬((i:Int)<(v.kids.length:Int)):=auz
   cases hF
   refine kx3 h1 q2 z3 ?_
   refine zX hq
theorem C.f229 (w:List zY)(t:Ty)(v:Vl.Value)(r:Bool)(hF:F.f229 w t v=some r):PureCall zQ B 33 [am zZ w,.agg [li t.data,li t.index],.agg [li v.ctor,li v.n,am Vl.Value.c v.kids]] (.lit (.bool r)):=by
 unfold F.f229 at hF
 refine yB func33 rfl ntmps33 ?_
 refine kB hF fun v1 e2 hF=> ?_
 refine(((CC.f225 B hB1 hB2 w).1 t v 10 v1 e2)).goI ?_
 revert hF;refine kS (fun h3 q4 hF=> ?_) (fun h3 q4 hF=> ?_)
 ·refine kx1 h3 ?_
  apply oB hF;intro v5 e6 hF
  refine(((CC.f227 B hB1 hB2).1 v 60 v5 e6)).goI ?_
  cases hF
  exact kc1 h3
 ·cases hF
  exact kc2 h3 q4
theorem CC.f230 (path:List Int):(∀(z:Int) (z1:Int) (z2:List Vl.Value) (i:Nat) (o:Int×Int×(List Vl.Value)),F.f230 path z z1 z2 i=some o->∀(c:Code),ZS [1,0,1,0,0] (ZH Tryz.f55)=some c->∀(Q:Exit->ASt->Prop),(Q (.exit 0) ⟨[(2,.ptr 0 0),(4,.ptr 1 0)],[.cells [li o.1,li o.2.1,am Vl.Value.c o.2.2],.cells [li 0,li 0,.lit (.slice none 0 0)]]⟩)->ALoopU zQ B 0 21 (hold c .mk) ⟨[(1,am cI path),(2,.ptr 0 0),(4,.ptr 1 0),(5,li (i:Int))],[.cells [li z,li z1,am Vl.Value.c z2],.cells [li 0,li 0,.lit (.slice none 0 0)]]⟩ (hold Q .mk)):=by
 refine F.f230.partial_correctness path
  _
  ?_
 ·intro _f_f230 ih_f230 z z1 z2 i o hF
  refine ZJ rfl fun Q hq hk hs=> ?_
  have b1:=hk 1
  simp -dsimp at b1
  have d0:=hs 0 _ rfl
  simp -dsimp[zS]at d0
  clear hk hs
  refine eN ?_
  revert hF;refine kS ?_ ?_<;>intro h3 q4 hF
  ·have z5:((i:Int)<(path.length:Int)):=auz
   refine kx2 h3 z5 ?_
   refine zK [] [(0,0),(0,0),(0,0),(0,0),(0,0),(0,0),(0,0),(0,0),(0,1)] [1,1,1,1,1,1,1,1,1] follows ?_
   apply oB hF;intro x e6 hF
   have le6:=ZA e6
   apply oB hF;intro x7 e8a hF
   have e8a:=ZQ e8a;obtain⟨ne8,e8⟩:=e8a
   have le8:=ZA e8
   have w9:i64.wrap ((i:Int)+1)=(i:Int)+1:=ZC (by omega) (by omega)
   repeat first|refine cg ?_|simp -dsimp[↓e6,↓e8,w9]
   refine zW ((ih_f230 x7.ctor x7.n x7.kids (i+1) o hF) _ rfl _ hq)
  ·have z5:¬((i:Int)<(path.length:Int)):=auz
   cases hF
   refine kx3 h3 q4 z5 ?_
   refine zX hq
theorem C.f231 (v:Vl.Value)(path:List Int)(r:Vl.Value)(hF:F.f231 v path=some r):PureCall zQ B 55 [.agg [li v.ctor,li v.n,am Vl.Value.c v.kids],am cI path] (.agg [li r.ctor,li r.n,am Vl.Value.c r.kids]):=by
 unfold F.f231 at hF
 refine yB func55 rfl ntmps55 ?_
 refine kB hF fun o' ho10 hF=> ?_
 refine zP (((CC.f230 B hB1 hB2 path) v.ctor v.n v.kids 0 o' ho10) _ rfl _ ?_)
 cases hF
 exact kc0
theorem CC.f232  :(∀(v:Vl.Value) (r:Vl.Value),F.f232 v=some r->PureCall zQ B 112 [.agg [li v.ctor,li v.n,am Vl.Value.c v.kids]] (.agg [li r.ctor,li r.n,am Vl.Value.c r.kids]))/\
  (∀(v:Vl.Value) (out:List Vl.Value) (i:Nat) (o:List Vl.Value),F.f233 v out i=some o->∀(c:Code),ZS [1,1,0,1,0,0] (ZH Tryz.f112)=some c->∀(Q:Exit->ASt->Prop),(Q (.exit 0) ⟨[(2,.ptr 1 0),(3,.ptr 2 0)],[.dead,.cells [li 0,li 0,.lit (.slice none 0 0)],.cells [li v.ctor,li v.n,.own 3 (zA (α:=Vl.Value) o)],.elems 3 (zB Vl.Value.c o)]⟩)->ALoopU zQ B 0 29 (hold c .mk) ⟨[(1,.ptr 0 0),(2,.ptr 1 0),(3,.ptr 2 0),(4,li (i:Int))],[.cells [li v.ctor,li v.n,am Vl.Value.c v.kids],.cells [li 0,li 0,.lit (.slice none 0 0)],.cells [li v.ctor,li v.n,.own 3 (zA (α:=Vl.Value) out)],.elems 3 (zB Vl.Value.c out)]⟩ (hold Q .mk)):=by
 refine F.f232.mutual_partial_correctness 
  _ _
  ?_ ?_
 ·intro _f_f233 ih_f233 v r hF
  refine yB func112 rfl ntmps112 ?_
  refine kB hF fun o' ho9 hF=> ?_
  refine zR ⟨[(1,.ptr 0 0),(2,.ptr 1 0),(3,.ptr 2 0),(4,.lit (.int .i64 0))],[.cells [.lit (.int .i64 v.ctor),.lit (.int .i64 v.n),.arr (zB Vl.Value.c v.kids)],.cells [.lit (.int .i64 0),.lit (.int .i64 0),.lit (.slice none 0 0)],.cells [.lit (.int .i64 v.ctor),.lit (.int .i64 v.n),.own 3 (zA (α:=Vl.Value) [])],.elems 3 (zB Vl.Value.c [])]⟩ (by refine yC (yD 2 2 3 (by simp -dsimp;rfl) (by simp -dsimp)) ?_;exact(gT (by simp) (by simp -dsimp))) ?_
  refine(ih_f233 v [] 0 o' ho9) _ rfl _ ?_
  cases hF
  exact kc0
 ·intro _f_f232 _f_f233 ih_f232 ih_f233 v out i o hF
  refine ZJ rfl fun Q hq hk hs=> ?_
  have d0:=hs 0 _ rfl
  simp -dsimp[zS]at d0
  have d3:=hs 3 _ rfl
  simp -dsimp[zS]at d3
  clear hk hs
  refine eN ?_
  revert hF;refine kS ?_ ?_<;>intro h1 q2 hF
  ·have z3:((i:Int)<(v.kids.length:Int)):=auz
   refine kx2 h1 z3 ?_
   refine zK [] [(0,1),(0,1),(0,0),(0,0),(0,0),(0,0),(0,0),(0,3),(0,3),(0,3),(2,2),(0,3)] [0,2,1,1,1,1,1,1,1,1,1,1] follows ?_
   apply oB hF;intro x e4 hF
   have le4:=ZA e4
   refine kdd e4 ?_
   apply oB hF;intro v5 e6 hF
   refine((ih_f232 x v5 e6)).pgoW (by simp_all) (by simp) ?_
   apply oC hF;intro c7 hF
   have w8:i64.wrap ((i:Int)+1)=(i:Int)+1:=ZC (by omega) (by omega)
   refine kx1 w8 ?_
   refine zW ((ih_f233 v (out++[v5]) (i+1) o hF) _ rfl _ hq)
  ·have z3:¬((i:Int)<(v.kids.length:Int)):=auz
   cases hF
   refine kx3 h1 q2 z3 ?_
   refine zX hq
theorem CC.f234 (binds:List PathBind)(v:Vl.Value):(∀(out:List Bind) (i:Nat) (o:List Bind),F.f234 binds v out i=some o->∀(c:Code),ZS [1,1,0,1,0,0] (ZH Tryz.f70)=some c->∀(Q:Exit->ASt->Prop),(Q (.exit 0) ⟨[(5,.own 1 (zA (α:=Bind) o))],[.dead,.elems 4 (zB yF o)]⟩)->ALoopU zQ B 0 32 (hold c .mk) ⟨[(0,am zF binds),(3,.ptr 0 0),(5,.own 1 (zA (α:=Bind) out)),(6,li (i:Int))],[.cells [li v.ctor,li v.n,am Vl.Value.c v.kids],.elems 4 (zB yF out)]⟩ (hold Q .mk)):=by
 refine F.f234.partial_correctness binds v
  _
  ?_
 ·intro _f_f234 ih_f234 out i o hF
  refine ZJ rfl fun Q hq hk hs=> ?_
  have b0:=hk 0
  simp -dsimp at b0
  have d0:=hs 0 _ rfl
  simp -dsimp[zS]at d0
  have d1:=hs 1 _ rfl
  simp -dsimp[zS]at d1
  clear hk hs
  refine eN ?_
  revert hF;refine kS ?_ ?_<;>intro h1 q2 hF
  ·have z3:((i:Int)<(binds.length:Int)):=auz
   refine kx2 h1 z3 ?_
   refine zK [] [(0,1),(0,0),(0,0),(0,0),(0,0),(0,0),(0,0),(0,0),(0,0),(0,0),(0,0),(0,0),(0,2),(0,2),(0,0),(0,2),(0,2),(2,2)] [1,1,1,1,1,1,1,1,1,1,1,1,1,1,1,1,1,1] follows ?_
   apply oB hF;intro x e4 hF
   have le4:=ZA e4
   refine kdd e4 ?_
   apply oB hF;intro v5 e6 hF
   refine((C.f231 B hB1 hB2 v x.path v5 e6)).pgoW (by simp_all) (by simp) ?_
   refine kB hF fun v7 e8 hF=> ?_
   refine(((CC.f232 B hB1 hB2).1 v5 v7 e8)).pgoW (by simp_all) (by simp) ?_
   apply oC hF;intro c9 hF
   have w10:i64.wrap ((i:Int)+1)=(i:Int)+1:=ZC (by omega) (by omega)
   refine kx1 w10 ?_
   refine zW ((ih_f234 (out++[(⟨x.var,v7⟩:Bind)]) (i+1) o hF) _ rfl _ hq)
  ·have z3:¬((i:Int)<(binds.length:Int)):=auz
   cases hF
   refine kx3 h1 q2 z3 ?_
   refine zX hq
theorem C.f235 (binds:List PathBind)(v:Vl.Value)(r:List Bind)(hF:F.f235 binds v=some r):PureCall zQ B 70 [am zF binds,.agg [li v.ctor,li v.n,am Vl.Value.c v.kids]] (am yF r):=by
 unfold F.f235 at hF
 refine yB func70 rfl ntmps70 ?_
 refine kB hF fun o' ho11 hF=> ?_
 refine zP (((CC.f234 B hB1 hB2 binds v) [] 0 o' ho11) _ rfl _ ?_)
 cases hF
 exact kc0
theorem CC.f236 (g:Guard)(binds:List Bind):(∀(i:Nat) (o:Lo Bool Unit),F.f236 g binds i=some o->∀(c:Code),ZS [1,1,0,1,0,0] (ZH Tryz.f71)=some c->∀(Q:Exit->ASt->Prop),o.post (fun r=>∀st,ZAG zQ Tryz.f71 (fun r' _=>r'.le (.lit (.bool r))) .ret st->Q .ret st) (fun s=>Q (.exit 0) ⟨[],[]⟩)->ALoopU zQ B 0 59 (hold c .mk) ⟨[(1,am yF binds),(2,.ptr 0 0),(5,li (i:Int))],[.cells [li g.op,li g.var,li g.n]]⟩ (hold Q .mk)):=by
 refine F.f236.partial_correctness g binds
  _
  ?_
 ·intro _f_f236 ih_f236 i o hF
  refine ZJ rfl fun Q hq hk hs=> ?_
  have b1:=hk 1
  simp -dsimp at b1
  clear hk hs
  refine eN ?_
  revert hF;refine kS ?_ ?_<;>intro h3 q4 hF
  ·have z5:((i:Int)<(binds.length:Int)):=auz
   refine kx2 h3 z5 ?_
   refine zL follows ?_
   apply oB hF;intro x e6 hF
   have le6:=ZA e6
   refine ZW h3 z5 e6 ?_
   revert hF;refine aN ?_ ?_<;>intro h7 q8 hF
   ·have w9:i64.wrap ((i:Int)+1)=(i:Int)+1:=ZC (by omega) (by omega)
    repeat first|refine cg ?_|simp -dsimp[h3,z5,↓e6,h7,q8,w9]
    refine zW ((ih_f236 (i+1) o hF) _ rfl _ hq)
   ·repeat first|refine cg ?_|simp -dsimp[h3,z5,↓e6,h7,q8]
    revert hF;refine aS ?_ ?_<;>intro h10 q11 hF
    ·repeat first|refine cg ?_|simp -dsimp[h3,z5,↓e6,h7,q8,h10]
     revert hF;refine aS ?_ ?_<;>intro h12 q13 hF
     ·repeat first|refine cg ?_|simp -dsimp[h3,z5,↓e6,h7,q8,h10,h12]
      revert hF;refine aN ?_ ?_<;>intro h14 q15 hF
      ·have n16:¬(g.op=2):=by omega
       cases hF
       repeat first|refine cg ?_|simp -dsimp[h3,z5,↓e6,h7,q8,h10,h12,h14,q15,n16]
       refine lG _ (gR _) (hq _ ?_)
       repeat first|refine cg ?_|simp -dsimp[h3,z5,↓e6,h7,q8,h10,h12,h14,q15,n16]
      ·cases hF
       repeat first|refine cg ?_|simp -dsimp[h3,z5,↓e6,h7,q8,h10,h12,h14,q15]
       refine lG _ (gR _) (hq _ ?_)
       repeat first|refine cg ?_|simp -dsimp[h3,z5,↓e6,h7,q8,h10,h12,h14,q15]
     ·repeat first|refine cg ?_|simp -dsimp[h3,z5,↓e6,h7,q8,h10,h12,q13]
      revert hF;refine aS ?_ ?_<;>intro h17 q18 hF
      ·cases hF
       repeat first|refine cg ?_|simp -dsimp[h3,z5,↓e6,h7,q8,h10,h12,q13,h17]
       refine lG _ (gR _) (hq _ ?_)
       repeat first|refine cg ?_|simp -dsimp[h3,z5,↓e6,h7,q8,h10,h12,q13,h17]
      ·cases hF
       repeat first|refine cg ?_|simp -dsimp[h3,z5,↓e6,h7,q8,h10,h12,q13,h17,q18]
       refine lG _ (gR _) (hq _ ?_)
       repeat first|refine cg ?_|simp -dsimp[h3,z5,↓e6,h7,q8,h10,h12,q13,h17,q18]
    ·cases hF
     repeat first|refine cg ?_|simp -dsimp[h3,z5,↓e6,h7,q8,h10,q11]
     refine lG _ (gR _) (hq _ ?_)
     repeat first|refine cg ?_|simp -dsimp[h3,z5,↓e6,h7,q8,h10,q11]
  ·have z5:¬((i:Int)<(binds.length:Int)):=auz
   cases hF
   refine kx3 h3 q4 z5 ?_
   refine zX hq
theorem C.f237 (g:Guard)(binds:List Bind)(r:Bool)(hF:F.f237 g binds=some r):PureCall zQ B 71 [.agg [li g.op,li g.var,li g.n],am yF binds] (.lit (.bool r)):=by
 unfold F.f237 at hF
 refine yB func71 rfl ntmps71 ?_
 revert hF;refine kS ?_ ?_<;>intro h1 q2 hF
 ·cases hF
  exact kc1 h1
 ·refine kx1 q2 ?_
  apply oB hF;intro o' ho19 hF
  refine zP (((CC.f236 B hB1 hB2 g binds) 0 o' ho19) _ rfl _ ?_)
  rcases o' with r0|sx
  ·dsimp only at hF
   cases hF
   intro st h
   simpa using h
  ·dsimp only at hF
   cases hF
   exact kc0
theorem C.f238 (x:Step)(v:Vl.Value)(r:Bool)(hF:F.f238 x v=some r):PureCall zQ B 54 [.agg [li x.op,am cI x.path,li x.ctor,li x.n,li x.m,li x.clause,am zF x.binds,li x.to],.agg [li v.ctor,li v.n,am Vl.Value.c v.kids]] (.lit (.bool r)):=by
 unfold F.f238 at hF
 refine yB func54 rfl ntmps54 ?_
 revert hF;refine kS ?_ ?_<;>intro h1 q2 hF
 ·refine kx1 h1 ?_
  revert hF;refine aS ?_ ?_<;>intro h3 q4 hF
  ·refine kx2 h1 h3 ?_
   revert hF;refine aS ?_ ?_<;>intro h5 q6 hF
   ·cases hF
    exact kc3 h1 h3 h5
   ·cases hF
    exact kc4 h1 h3 h5 q6
  ·cases hF
   exact kc3 h1 h3 q4
 ·cases hF
  exact kc2 h1 q2
theorem CC.f239 (list:List Clause)(code:List Step)(v:Vl.Value):(∀(paths:List (List Int)) (at':Int) (o:Lo (Int×(List Bind)×(List (List Int))) (List (List Int))),F.f239 list code v paths at'=some o->∀(c:Code),ZS [1,1,1,0,0,0] (ZH Tryz.f34)=some c->∀(Q:Exit->ASt->Prop),o.post (fun r=>∀st,ZAG zQ Tryz.f34 (fun r' _=>r'.le (.tup [li r.1,am yF r.2.1,am (cL cI) r.2.2])) .ret st->Q .ret st) (fun s=>Q (.exit 0) ⟨[(10,.own 1 (zA (α:=List Int) s))],[.dead,.elems 1 (zB (cL cI) s)]⟩)->ALoopU zQ B 0 62 (hold c .mk) ⟨[(0,am yA list),(1,am zE code),(5,.ptr 0 0),(9,li at'),(10,.own 1 (zA (α:=List Int) paths))],[.cells [li v.ctor,li v.n,am Vl.Value.c v.kids],.elems 1 (zB (cL cI) paths)]⟩ (hold Q .mk)):=by
 refine F.f239.partial_correctness list code v
  _
  ?_
 ·intro _f_f239 ih_f239 paths at' o hF
  refine ZJ rfl fun Q hq hk hs=> ?_
  have b0:=hk 0
  simp -dsimp at b0
  have b1:=hk 1
  simp -dsimp at b1
  have d0:=hs 0 _ rfl
  simp -dsimp[zS]at d0
  have d1:=hs 1 _ rfl
  simp -dsimp[zS]at d1
  clear hk hs
  refine eN ?_
  apply oB hF;intro x e1a hF
  have e1a:=ZQ e1a;obtain⟨ne1,e1⟩:=e1a
  have le1:=ZA e1
  refine kdd e1 ?_
  revert hF;refine aN ?_ ?_<;>intro h2 q3 hF
  ·refine ZCu e1 h2 q3 ?_
   revert hF;refine aS ?_ ?_<;>intro h4 q5 hF
   ·refine ZNk e1 h4 ?_
    apply oB hF;intro v6 e7 hF
    refine((C.f235 B hB1 hB2 x.binds v v6 e7)).goI ?_
    apply oB hF;intro x8 e9a hF
    have e9a:=ZQ e9a;obtain⟨ne9,e9⟩:=e9a
    have le9:=ZA e9
    refine ZEQ e1 e9 ?_
    apply oB hF;intro v10 e11 hF
    refine((C.f237 B hB1 hB2 x8.guard v6 v10 e11)).goI ?_
    refine ZEQ e1 e9 ?_
    revert hF;refine aS (fun h12 q13 hF=> ?_) (fun h12 q13 hF=> ?_)
    ·cases hF
     repeat first|refine cg ?_|simp -dsimp[↓e1,↓e9,h12]
     refine lG _ (gR _) (hq _ ?_)
     repeat first|refine cg ?_|simp -dsimp[↓e1,↓e9]
    ·repeat first|refine cg ?_|simp -dsimp[↓e1,↓e9,q13]
     refine zW ((ih_f239 paths x.to o hF) _ rfl _ hq)
   ·apply oC hF;intro c14 hF
    refine ZNk e1 q5 ?_
    refine zL follows ?_
    refine kdd e1 ?_
    apply oB hF;intro v15 e16 hF
    refine((C.f231 B hB1 hB2 v x.path v15 e16)).pgoW (by simp_all) (by simp) ?_
    refine kdd e1 ?_
    apply oB hF;intro v17 e18 hF
    refine((C.f238 B hB1 hB2 x v15 v17 e18)).pgoW (by simp_all) (by simp) ?_
    refine kdd e1 ?_
    revert hF;refine aS (fun h19 q20 hF=> ?_) (fun h19 q20 hF=> ?_)
    ·refine ZNk e1 h19 ?_
     refine zW ((ih_f239 (paths++[x.path]) (i64.wrap (at'+1)) o hF) _ rfl _ hq)
    ·refine ZNk e1 q20 ?_
     refine zW ((ih_f239 (paths++[x.path]) x.to o hF) _ rfl _ hq)
  ·cases hF
   refine kdd e1 ?_
   refine zX hq
theorem C.f240 (list:List Clause)(code:List Step)(v:Vl.Value)(r:Int×(List Bind)×(List (List Int)))(hF:F.f240 list code v=some r):PureCall zQ B 34 [am yA list,am zE code,.agg [li v.ctor,li v.n,am Vl.Value.c v.kids]] (.tup [li r.1,am yF r.2.1,am (cL cI) r.2.2]):=by
 unfold F.f240 at hF
 refine yB func34 rfl ntmps34 ?_
 refine kB hF fun o' ho21 hF=> ?_
 refine zP (((CC.f239 B hB1 hB2 list code v) [] 0 o' ho21) _ rfl _ ?_)
 rcases o' with r0|sx
 ·dsimp only at hF
  cases hF
  intro st h
  simpa using h
 ·dsimp only at hF
  cases hF
  exact kc0
theorem CC.f241 (a:List Int)(b:List Int):(∀(i:Nat) (o:Lo Bool Unit),F.f241 a b i=some o->∀(c:Code),ZS [1,1,0,1,0,0] (ZH Tryz.f35)=some c->∀(Q:Exit->ASt->Prop),o.post (fun r=>∀st,ZAG zQ Tryz.f35 (fun r' _=>r'.le (.lit (.bool r))) .ret st->Q .ret st) (fun s=>Q (.exit 0) ⟨[],[]⟩)->ALoopU zQ B 0 26 (hold c .mk) ⟨[(0,am cI a),(1,am cI b),(5,li (i:Int))],[]⟩ (hold Q .mk)):=by
 refine F.f241.partial_correctness a b
  _
  ?_
 ·intro _f_f241 ih_f241 i o hF
  refine ZJ rfl fun Q hq hk hs=> ?_
  have b0:=hk 0
  simp -dsimp at b0
  have b1:=hk 1
  simp -dsimp at b1
  clear hk hs
  refine eN ?_
  revert hF;refine kS ?_ ?_<;>intro h4 q5 hF
  ·have z6:((i:Int)<(a.length:Int)):=auz
   refine kx2 h4 z6 ?_
   refine zL follows ?_
   apply oB hF;intro x e7 hF
   have le7:=ZA e7
   apply oB hF;intro x8 e9 hF
   have le9:=ZA e9
   refine ZEQ e7 e9 ?_
   revert hF;refine aN ?_ ?_<;>intro h10 q11 hF
   ·cases hF
    refine kx2 h10 q11 ?_
    refine lG _ (gR _) (hq _ ?_)
    exact kc0
   ·have w12:i64.wrap ((i:Int)+1)=(i:Int)+1:=ZC (by omega) (by omega)
    refine kx1 w12 ?_
    refine zW ((ih_f241 (i+1) o hF) _ rfl _ hq)
  ·have z6:¬((i:Int)<(a.length:Int)):=auz
   cases hF
   refine kx3 h4 q5 z6 ?_
   refine zX hq
theorem C.f242 (a:List Int)(b:List Int)(r:Bool)(hF:F.f242 a b=some r):PureCall zQ B 35 [am cI a,am cI b] (.lit (.bool r)):=by
 unfold F.f242 at hF
 refine yB func35 rfl ntmps35 ?_
 revert hF;refine kN ?_ ?_<;>intro h1 q2 hF
 ·have z3:¬((a.length:Int)=(b.length:Int)):=auz
  cases hF
  exact kc3 h1 q2 z3
 ·have z3:((a.length:Int)=(b.length:Int)):=auz
  refine kB hF fun o' ho13 hF=> ?_
  refine zP (((CC.f241 B hB1 hB2 a b) 0 o' ho13) _ rfl _ ?_)
  rcases o' with r0|sx
  ·dsimp only at hF
   cases hF
   intro st h
   simpa using h
  ·dsimp only at hF
   cases hF
   exact kc0
theorem CC.f243 (v9:Int×(List Bind)×(List (List Int)))(out:List (List Int))(i:Nat):(∀(found:Bool) (k:Nat) (o:Bool),F.f243 v9 out i found k=some o->∀(c:Code),ZS [1,1,1,1,1,0,1,0,0,1,0,0,1,0,1,0,0] (ZH Tryz.f9)=some c->∀(Q:Exit->ASt->Prop),(Q (.exit 2) ⟨[(9,.own 2 (zA (α:=List Int) out)),(14,am (cL cI) v9.2.2),(15,li (i:Int)),(16,.lit (.bool o))],[.dead,.dead,.elems 1 (zB (cL cI) out)]⟩)->ALoopU zQ B 0 80 (hold c .mk) ⟨[(9,.own 2 (zA (α:=List Int) out)),(14,am (cL cI) v9.2.2),(15,li (i:Int)),(16,.lit (.bool found)),(17,li (k:Int))],[.dead,.dead,.elems 1 (zB (cL cI) out)]⟩ (hold Q .mk)):=by
 refine F.f243.partial_correctness v9 out i
  _
  ?_
 ·intro _f_f243 ih_f243 found k o hF
  refine ZJ rfl fun Q hq hk hs=> ?_
  have b14:=hk 14
  simp -dsimp at b14
  have d2:=hs 2 _ rfl
  simp -dsimp[zS]at d2
  clear hk hs
  refine eN ?_
  revert hF;refine kS ?_ ?_<;>intro h14 q15 hF
  ·have z16:((k:Int)<(out.length:Int)):=auz
   refine kx2 h14 z16 ?_
   refine zL follows ?_
   refine kx2 h14 z16 ?_
   revert hF;refine aN (fun h17 q18 hF=> ?_) (fun h17 q18 hF=> ?_)
   ·apply oB hF;intro x e19 hF
    have le19:=ZA e19
    apply oB hF;intro x20 e21 hF
    have le21:=ZA e21
    repeat first|refine cg ?_|simp -dsimp[h14,z16,h17,q18,↓e19,↓e21]
    apply oB hF;intro v22 e23 hF
    refine((C.f242 B hB1 hB2 x x20 v22 e23)).pgoW (by simp[h14,z16,h17,q18,↓e19,↓e21]) (by simp) ?_
    have w24:i64.wrap ((k:Int)+1)=(k:Int)+1:=ZC (by omega) (by omega)
    repeat first|refine cg ?_|simp -dsimp[h14,z16,h17,q18,↓e19,↓e21,w24]
    refine zW ((ih_f243 v22 (k+1) o hF) _ rfl _ hq)
   ·have w25:i64.wrap ((k:Int)+1)=(k:Int)+1:=ZC (by omega) (by omega)
    refine kx5 h14 z16 h17 q18 w25 ?_
    refine zW ((ih_f243 true (k+1) o hF) _ rfl _ hq)
  ·have z16:¬((k:Int)<(out.length:Int)):=auz
   cases hF
   refine kx3 h14 q15 z16 ?_
   refine zX hq
theorem CC.f244 (v9:Int×(List Bind)×(List (List Int))):(∀(out:List (List Int)) (i:Nat) (o:List (List Int)),F.f244 v9 out i=some o->∀(c:Code),ZS [1,1,1,1,1,0,1,0,0] (ZH Tryz.f9)=some c->∀(Q:Exit->ASt->Prop),(Q (.exit 0) ⟨[(9,.own 2 (zA (α:=List Int) o))],[.dead,.dead,.elems 1 (zB (cL cI) o)]⟩)->ALoopU zQ B 0 80 (hold c .mk) ⟨[(9,.own 2 (zA (α:=List Int) out)),(14,am (cL cI) v9.2.2),(15,li (i:Int))],[.dead,.dead,.elems 1 (zB (cL cI) out)]⟩ (hold Q .mk)):=by
 refine F.f244.partial_correctness v9
  _
  ?_
 ·intro _f_f244 ih_f244 out i o hF
  refine ZJ rfl fun Q hq hk hs=> ?_
  have b14:=hk 14
  simp -dsimp at b14
  have d2:=hs 2 _ rfl
  simp -dsimp[zS]at d2
  clear hk hs
  refine eN ?_
  revert hF;refine kS ?_ ?_<;>intro h11 q12 hF
  ·have z13:((i:Int)<(v9.2.2.length:Int)):=auz
   refine kx2 h11 z13 ?_
   apply oB hF;intro o' ho26 hF
   refine zP (((CC.f243 B hB1 hB2 v9 out i) false 0 o' ho26) _ rfl _ ?_)
   revert hF;refine kN (fun h27 q28 hF=> ?_) (fun h27 q28 hF=> ?_)
   ·apply oB hF;intro x29 e30 hF
    have le30:=ZA e30
    apply oC hF;intro c31 hF
    apply oC hF;intro c32 hF
    apply oC hF;intro c33 hF
    have w34:i64.wrap ((i:Int)+1)=(i:Int)+1:=ZC (by omega) (by omega)
    repeat first|refine cg ?_|simp -dsimp[h27,q28,↓e30,w34]
    refine zW ((ih_f244 (out++[x29]) (i+1) o hF) _ rfl _ hq)
   ·apply oC hF;intro c35 hF
    have w36:i64.wrap ((i:Int)+1)=(i:Int)+1:=ZC (by omega) (by omega)
    refine kx3 h27 q28 w36 ?_
    refine zW ((ih_f244 out (i+1) o hF) _ rfl _ hq)
  ·have z13:¬((i:Int)<(v9.2.2.length:Int)):=auz
   cases hF
   refine kx3 h11 q12 z13 ?_
   refine zX hq
theorem C.f245 (w:List zY)(t:Ty)(list:List Clause)(v:Vl.Value)(r:List (List Int))(hF:F.f245 w t list v=some r):PureCall zQ B 9 [am zZ w,.agg [li t.data,li t.index],am yA list,.agg [li v.ctor,li v.n,am Vl.Value.c v.kids]] (am (cL cI) r):=by
 unfold F.f245 at hF
 refine yB func9 rfl ntmps9 ?_
 refine kB hF fun v1 e2 hF=> ?_
 refine((C.f224 B hB1 hB2 w t list v1 e2)).goI ?_
 revert hF;refine kS (fun h3 q4 hF=> ?_) (fun h3 q4 hF=> ?_)
 ·refine kx1 h3 ?_
  apply oB hF;intro v5 e6 hF
  refine((C.f229 B hB1 hB2 w t v v5 e6)).goI ?_
  refine kx1 h3 ?_
  revert hF;refine aN (fun h7 q8 hF=> ?_) (fun h7 q8 hF=> ?_)
  ·cases hF
   exact kc3 h3 h7 q8
  ·refine kx3 h3 h7 q8 ?_
   apply oB hF;intro v9 e10 hF
   refine((C.f240 B hB1 hB2 list v1.1 v v9 e10)).goI ?_
   refine kx3 h3 h7 q8 ?_
   apply oB hF;intro o'38 ho37 hF
   refine zP (((CC.f244 B hB1 hB2 v9) [] 0 o'38 ho37) _ rfl _ ?_)
   cases hF
   exact kc0
 ·cases hF
  exact kc2 h3 q4
theorem CC.f246 (a:List Int)(b:List Int):(∀(i:Nat) (o:Lo Bool Unit),F.f246 a b i=some o->∀(c:Code),ZS [1,1,0,1,0,0] (ZH Tryz.f62)=some c->∀(Q:Exit->ASt->Prop),o.post (fun r=>∀st,ZAG zQ Tryz.f62 (fun r' _=>r'.le (.lit (.bool r))) .ret st->Q .ret st) (fun s=>Q (.exit 0) ⟨[],[]⟩)->ALoopU zQ B 0 26 (hold c .mk) ⟨[(0,am cI a),(1,am cI b),(5,li (i:Int))],[]⟩ (hold Q .mk)):=by
 refine F.f246.partial_correctness a b
  _
  ?_
 ·intro _f_f246 ih_f246 i o hF
  intro c hc Q hq
  obtain rfl:c=_:=ZEM hc rfl
  refine yG fun hk hs=> ?_
  have b0:=hk 0
  simp -dsimp at b0
  have b1:=hk 1
  simp -dsimp at b1
  clear hk hs
  refine eN ?_
  revert hF;refine kS ?_ ?_<;>intro h4 q5 hF
  ·have z6:((i:Int)<(a.length:Int)):=auz
   refine kx2 h4 z6 ?_
   refine zM follows (by kernel_rfl) (by kernel_rfl) ?_
   apply oB hF;intro x e7 hF
   have le7:=ZA e7
   apply oB hF;intro x8 e9 hF
   have le9:=ZA e9
   refine ZAS h4 z6 e7 e9 ?_
   revert hF;refine aN ?_ ?_<;>intro h10 q11 hF
   ·cases hF
    refine ZAA h4 z6 e7 e9 h10 q11 ?_
    refine lG _ (gR _) (hq _ ?_)
    repeat first|refine cg ?_|simp -dsimp[h4,z6,↓e7,↓e9,h10,q11]
   ·have w12:i64.wrap ((i:Int)+1)=(i:Int)+1:=ZC (by omega) (by omega)
    repeat first|refine cg ?_|simp -dsimp[h4,z6,↓e7,↓e9,h10,q11,w12]
    refine aG _ ?_ ((ih_f246 (i+1) o hF) _ rfl _ hq)
    exact(gT (by simp) (by first|simp -dsimp[h4,z6,↓e7,↓e9,h10,q11,w12];done|simp_all))
  ·have z6:¬((i:Int)<(a.length:Int)):=auz
   cases hF
   refine kx3 h4 q5 z6 ?_
   refine lG _ (gT (by simp) (by first|simp -dsimp[h4,q5,z6];done|simp_all)) hq
theorem C.f247 (a:List Int)(b:List Int)(r:Bool)(hF:F.f247 a b=some r):PureCall zQ B 62 [am cI a,am cI b] (.lit (.bool r)):=by
 unfold F.f247 at hF
 refine pE func62 (by kernel_rfl) rfl ntmps62 (by simp) (by simp) ?_
 revert hF;refine kN ?_ ?_<;>intro h1 q2 hF
 ·have z3:¬((a.length:Int)=(b.length:Int)):=auz
  cases hF
  repeat first|refine cg ?_|simp -dsimp[h1,q2,z3]
  all_goals(try first|omega|rfl)
 ·have z3:((a.length:Int)=(b.length:Int)):=auz
  refine kx3 h1 q2 z3 ?_
  apply oB hF;intro o' ho13 hF
  refine zR _ ?_ (((CC.f246 B hB1 hB2 a b) 0 o' ho13) _ rfl _ ?_)
  ·exact(gT (by simp) (by first|simp -dsimp[h1,q2,z3];done|simp_all))
  rcases o' with r0|sx
  ·dsimp only at hF
   cases hF
   intro st h
   simpa using h
  ·dsimp only at hF
   cases hF
   repeat first|refine cg ?_|simp -dsimp
   all_goals(try first|omega|rfl)
theorem CC.f248 (a:List (List Int))(b:List (List Int)):(∀(i:Nat) (o:Lo Bool Unit),F.f248 a b i=some o->∀(c:Code),ZS [1,1,0,1,0,0] (ZH Tryz.f27)=some c->∀(Q:Exit->ASt->Prop),o.post (fun r=>∀st,ZAG zQ Tryz.f27 (fun r' _=>r'.le (.lit (.bool r))) .ret st->Q .ret st) (fun s=>Q (.exit 0) ⟨[],[]⟩)->ALoopU zQ B 0 27 (hold c .mk) ⟨[(0,am (cL cI) a),(1,am (cL cI) b),(5,li (i:Int))],[]⟩ (hold Q .mk)):=by
 refine F.f248.partial_correctness a b
  _
  ?_
 ·intro _f_f248 ih_f248 i o hF
  intro c hc Q hq
  obtain rfl:c=_:=ZEM hc rfl
  refine yG fun hk hs=> ?_
  have b0:=hk 0
  simp -dsimp at b0
  have b1:=hk 1
  simp -dsimp at b1
  clear hk hs
  refine eN ?_
  revert hF;refine kS ?_ ?_<;>intro h4 q5 hF
  ·have z6:((i:Int)<(a.length:Int)):=auz
   refine kx2 h4 z6 ?_
   refine zM follows (by kernel_rfl) (by kernel_rfl) ?_
   apply oB hF;intro x e7 hF
   have le7:=ZA e7
   apply oB hF;intro x8 e9 hF
   have le9:=ZA e9
   refine ZAS h4 z6 e7 e9 ?_
   apply oB hF;intro v e10 hF
   refine((C.f247 B hB1 hB2 x x8 v e10)).pgoW (by first|simp[h4,z6,↓e7,↓e9];done|simp_all) (by simp) ?_
   refine ZAS h4 z6 e7 e9 ?_
   revert hF;refine aN (fun h11 q12 hF=> ?_) (fun h11 q12 hF=> ?_)
   ·cases hF
    refine ZAA h4 z6 e7 e9 h11 q12 ?_
    refine lG _ (gR _) (hq _ ?_)
    repeat first|refine cg ?_|simp -dsimp[h4,z6,↓e7,↓e9,h11,q12]
   ·have w13:i64.wrap ((i:Int)+1)=(i:Int)+1:=ZC (by omega) (by omega)
    repeat first|refine cg ?_|simp -dsimp[h4,z6,↓e7,↓e9,h11,q12,w13]
    refine aG _ ?_ ((ih_f248 (i+1) o hF) _ rfl _ hq)
    exact(gT (by simp) (by first|simp -dsimp[h4,z6,↓e7,↓e9,h11,q12,w13];done|simp_all))
  ·have z6:¬((i:Int)<(a.length:Int)):=auz
   cases hF
   refine kx3 h4 q5 z6 ?_
   refine lG _ (gT (by simp) (by first|simp -dsimp[h4,q5,z6];done|simp_all)) hq
theorem C.f249 (a:List (List Int))(b:List (List Int))(r:Bool)(hF:F.f249 a b=some r):PureCall zQ B 27 [am (cL cI) a,am (cL cI) b] (.lit (.bool r)):=by
 unfold F.f249 at hF
 refine pE func27 (by kernel_rfl) rfl ntmps27 (by simp) (by simp) ?_
 revert hF;refine kN ?_ ?_<;>intro h1 q2 hF
 ·have z3:¬((a.length:Int)=(b.length:Int)):=auz
  cases hF
  repeat first|refine cg ?_|simp -dsimp[h1,q2,z3]
  all_goals(try first|omega|rfl)
 ·have z3:((a.length:Int)=(b.length:Int)):=auz
  refine kx3 h1 q2 z3 ?_
  apply oB hF;intro o' ho14 hF
  refine zR _ ?_ (((CC.f248 B hB1 hB2 a b) 0 o' ho14) _ rfl _ ?_)
  ·exact(gT (by simp) (by first|simp -dsimp[h1,q2,z3];done|simp_all))
  rcases o' with r0|sx
  ·dsimp only at hF
   cases hF
   intro st h
   simpa using h
  ·dsimp only at hF
   cases hF
   repeat first|refine cg ?_|simp -dsimp
   all_goals(try first|omega|rfl)
theorem CC.f250 (list:List (List Int))(path:List Int):(∀(i:Nat) (o:Lo Bool Unit),F.f250 list path i=some o->∀(c:Code),ZS [1,0,1,0,0] (ZH Tryz.f28)=some c->∀(Q:Exit->ASt->Prop),o.post (fun r=>∀st,ZAG zQ Tryz.f28 (fun r' _=>r'.le (.lit (.bool r))) .ret st->Q .ret st) (fun s=>Q (.exit 0) ⟨[],[]⟩)->ALoopU zQ B 0 18 (hold c .mk) ⟨[(0,am (cL cI) list),(1,am cI path),(5,li (i:Int))],[]⟩ (hold Q .mk)):=by
 refine F.f250.partial_correctness list path
  _
  ?_
 ·intro _f_f250 ih_f250 i o hF
  intro c hc Q hq
  obtain rfl:c=_:=ZEM hc rfl
  refine yG fun hk hs=> ?_
  have b0:=hk 0
  simp -dsimp at b0
  have b1:=hk 1
  simp -dsimp at b1
  clear hk hs
  refine eN ?_
  revert hF;refine kS ?_ ?_<;>intro h1 q2 hF
  ·have z3:((i:Int)<(list.length:Int)):=auz
   apply oB hF;intro x e4 hF
   have le4:=ZA e4
   refine ZW h1 z3 e4 ?_
   apply oB hF;intro v e5 hF
   refine((C.f247 B hB1 hB2 x path v e5)).goW (by first|simp[h1,z3,↓e4];done|simp_all) (by simp) ?_
   refine ZW h1 z3 e4 ?_
   revert hF;refine aS (fun h6 q7 hF=> ?_) (fun h6 q7 hF=> ?_)
   ·cases hF
    repeat first|refine cg ?_|simp -dsimp[h1,z3,↓e4,h6]
    refine lG _ (gR _) (hq _ ?_)
    repeat first|refine cg ?_|simp -dsimp[h1,z3,↓e4,h6]
   ·have w8:i64.wrap ((i:Int)+1)=(i:Int)+1:=ZC (by omega) (by omega)
    repeat first|refine cg ?_|simp -dsimp[h1,z3,↓e4,h6,q7,w8]
    refine aG _ ?_ ((ih_f250 (i+1) o hF) _ rfl _ hq)
    exact(gT (by simp) (by first|simp -dsimp[h1,z3,↓e4,h6,q7,w8];done|simp_all))
  ·have z3:¬((i:Int)<(list.length:Int)):=auz
   cases hF
   refine kx3 h1 q2 z3 ?_
   refine lG _ (gT (by simp) (by first|simp -dsimp[h1,q2,z3];done|simp_all)) hq
theorem C.f251 (list:List (List Int))(path:List Int)(r:Bool)(hF:F.f251 list path=some r):PureCall zQ B 28 [am (cL cI) list,am cI path] (.lit (.bool r)):=by
 unfold F.f251 at hF
 refine pE func28 (by kernel_rfl) rfl ntmps28 (by simp) (by simp) ?_
 refine kB hF fun o' ho9 hF=> ?_
 refine zR _ ?_ (((CC.f250 B hB1 hB2 list path) 0 o' ho9) _ rfl _ ?_)
 ·exact(gT (by simp) (by simp -dsimp))
 rcases o' with r0|sx
 ·dsimp only at hF
  cases hF
  intro st h
  simpa using h
 ·dsimp only at hF
  cases hF
  repeat first|refine cg ?_|simp -dsimp
  all_goals(try first|omega|rfl)
theorem CC.f252 (v:(List zY)×Ty×(List Clause)×Vl.Value)(v5:List (List Int))(i:Nat):(∀(z:Int) (z16:Int) (z17:List Vl.Value) (k:Nat) (o:Lo Bool Unit),F.f252 v v5 i z z16 z17 k=some o->∀(c:Code),ZS [1,1,1,1,1,0,1,0,0,1,0,0,1,0,1,0,0] (ZH Tryz.f5)=some c->∀(Q:Exit->ASt->Prop),o.post (fun r=>∀st,ZAG zQ Tryz.f5 (fun r' _=>r'.le (.lit (.bool r))) .ret st->Q .ret st) (fun s=>Q (.exit 2) ⟨[(6,.ptr 1 0),(7,am (cL cI) v5),(8,li (i:Int))],[.dead,.cells [li v.2.2.2.ctor,li v.2.2.2.n,am Vl.Value.c v.2.2.2.kids]]⟩)->ALoopU zQ B 0 104 (hold c .mk) ⟨[(6,.ptr 1 0),(7,am (cL cI) v5),(8,li (i:Int)),(9,.ptr 2 0),(10,li (k:Int))],[.dead,.cells [li v.2.2.2.ctor,li v.2.2.2.n,am Vl.Value.c v.2.2.2.kids],.cells [li z,li z16,am Vl.Value.c z17]]⟩ (hold Q .mk)):=by
 refine F.f252.partial_correctness v v5 i
  _
  ?_
 ·intro _f_f252 ih_f252 z z16 z17 k o hF
  intro c hc Q hq
  obtain rfl:c=_:=ZEM hc rfl
  refine yG fun hk hs=> ?_
  have b7:=hk 7
  simp -dsimp at b7
  have d1:=hs 1 _ rfl
  simp -dsimp[zS]at d1
  have d2:=hs 2 _ rfl
  simp -dsimp[zS]at d2
  clear hk hs
  refine eN ?_
  apply oB hF;intro x e18 hF
  have le18:=ZA e18
  refine kdd e18 ?_
  revert hF;refine aS ?_ ?_<;>intro h19 q20 hF
  ·have z21:((k:Int)<(x.length:Int)):=auz
   refine ZCu e18 h19 z21 ?_
   refine zM follows (by kernel_rfl) (by kernel_rfl) ?_
   apply oB hF;intro x22 e23 hF
   have le23:=ZA e23
   repeat first|refine cg ?_|simp -dsimp[↓e18,h19,z21,↓e23]
   revert hF;refine aN ?_ ?_<;>intro h24 q25 hF
   ·repeat first|refine cg ?_|simp -dsimp[↓e18,h19,z21,↓e23,h24,q25]
    revert hF;refine aS ?_ ?_<;>intro h26 q27 hF
    ·cases hF
     repeat first|refine cg ?_|simp -dsimp[↓e18,h19,z21,↓e23,h24,q25,h26]
     refine lG _ (gR _) (hq _ ?_)
     repeat first|refine cg ?_|simp -dsimp[↓e18,h19,z21,↓e23,h24,q25,h26]
    ·repeat first|refine cg ?_|simp -dsimp[↓e18,h19,z21,↓e23,h24,q25,h26,q27]
     refine ADraw.eff [] [(0,0),(0,0),(0,0),(0,0),(0,0),(0,0),(0,0),(0,0),(0,0),(0,0),(0,0),(0,1)] [1,1,1,1,1,1,1,1,1,1,1,1] follows (by kernel_rfl) (by kernel_rfl) (by kernel_rfl) ?_
     apply oB hF;intro x28 e29a hF
     have e29a:=ZQ e29a;obtain⟨ne29,e29⟩:=e29a
     have le29:=ZA e29
     apply oC hF;intro c30 hF
     have w31:i64.wrap ((k:Int)+1)=(k:Int)+1:=ZC (by omega) (by omega)
     repeat first|refine cg ?_|simp -dsimp[↓e18,h19,z21,↓e23,h24,q25,h26,q27,↓e29,w31]
     refine aG _ ?_ ((ih_f252 x28.ctor x28.n x28.kids (k+1) o hF) _ rfl _ hq)
     exact(gT (by simp) (by first|simp -dsimp[↓e18,h19,z21,↓e23,h24,q25,h26,q27,↓e29,w31];done|simp_all))
   ·cases hF
    repeat first|refine cg ?_|simp -dsimp[↓e18,h19,z21,↓e23,h24,q25]
    refine lG _ (gR _) (hq _ ?_)
    repeat first|refine cg ?_|simp -dsimp[↓e18,h19,z21,↓e23,h24,q25]
  ·have z21:¬((k:Int)<(x.length:Int)):=auz
   cases hF
   repeat first|refine cg ?_|simp -dsimp[↓e18,h19,q20,z21]
   refine lG _ (gT (by simp) (by first|simp -dsimp[↓e18,h19,q20,z21];done|simp_all)) hq
theorem CC.f253 (v:(List zY)×Ty×(List Clause)×Vl.Value)(v5:List (List Int)):(∀(i:Nat) (o:Lo Bool Unit),F.f253 v v5 i=some o->∀(c:Code),ZS [1,1,1,1,1,0,1,0,0] (ZH Tryz.f5)=some c->∀(Q:Exit->ASt->Prop),o.post (fun r=>∀st,ZAG zQ Tryz.f5 (fun r' _=>r'.le (.lit (.bool r))) .ret st->Q .ret st) (fun s=>Q (.exit 0) ⟨[],[]⟩)->ALoopU zQ B 0 104 (hold c .mk) ⟨[(6,.ptr 1 0),(7,am (cL cI) v5),(8,li (i:Int))],[.dead,.cells [li v.2.2.2.ctor,li v.2.2.2.n,am Vl.Value.c v.2.2.2.kids]]⟩ (hold Q .mk)):=by
 refine F.f253.partial_correctness v v5
  _
  ?_
 ·intro _f_f253 ih_f253 i o hF
  intro c hc Q hq
  obtain rfl:c=_:=ZEM hc rfl
  refine yG fun hk hs=> ?_
  have b7:=hk 7
  simp -dsimp at b7
  have d1:=hs 1 _ rfl
  simp -dsimp[zS]at d1
  clear hk hs
  refine eN ?_
  revert hF;refine kS ?_ ?_<;>intro h13 q14 hF
  ·have z15:((i:Int)<(v5.length:Int)):=auz
   refine kx2 h13 z15 ?_
   apply oB hF;intro o' ho32 hF
   refine zR _ ?_ (((CC.f252 B hB1 hB2 v v5 i) v.2.2.2.ctor v.2.2.2.n v.2.2.2.kids 0 o' ho32) _ rfl _ ?_)
   ·exact(gT (by simp) (by first|simp -dsimp[h13,z15];done|simp_all))
   rcases o' with r0|sx
   ·dsimp only at hF
    cases hF
    intro st h
    simp -dsimp
    refine lG st (gR _) (hq st h)
   ·dsimp only at hF
    apply oB hF;intro x33 e34 hF
    have le34:=ZA e34
    refine kdd e34 ?_
    refine zM follows (by kernel_rfl) (by kernel_rfl) ?_
    refine kdd e34 ?_
    revert hF;refine aS ?_ ?_<;>intro h35 q36 hF
    ·have z37:(0<(x33.length:Int)):=auz
     apply oC hF;intro c38 hF
     apply oC hF;intro c39 hF
     refine ZCu e34 h35 z37 ?_
     apply oB hF;intro v40 e41 hF
     refine((C.f251 B hB1 hB2 ((v5.drop 0).take (i-0)) ((x33.drop 0).take ((i64.wrap ((x33.length:Int) -1)).toNat-0)) v40 e41)).pgoW (by first|simp[↓e34,h35,z37];done|simp_all) (by simp) ?_
     refine ZCu e34 h35 z37 ?_
     revert hF;refine aN (fun h42 q43 hF=> ?_) (fun h42 q43 hF=> ?_)
     ·cases hF
      repeat first|refine cg ?_|simp -dsimp[↓e34,h35,z37,h42,q43]
      refine lG _ (gR _) (hq _ ?_)
      repeat first|refine cg ?_|simp -dsimp[↓e34,h35,z37,h42,q43]
     ·apply oC hF;intro c44 hF
      have w45:i64.wrap ((i:Int)+1)=(i:Int)+1:=ZC (by omega) (by omega)
      repeat first|refine cg ?_|simp -dsimp[↓e34,h35,z37,h42,q43,w45]
      refine aG _ ?_ ((ih_f253 (i+1) o hF) _ rfl _ hq)
      exact(gT (by simp) (by first|simp -dsimp[↓e34,h35,z37,h42,q43,w45];done|simp_all))
    ·have z37:¬(0<(x33.length:Int)):=auz
     apply oC hF;intro c46 hF
     have w47:i64.wrap ((i:Int)+1)=(i:Int)+1:=ZC (by omega) (by omega)
     repeat first|refine cg ?_|simp -dsimp[↓e34,h35,q36,z37,w47]
     refine aG _ ?_ ((ih_f253 (i+1) o hF) _ rfl _ hq)
     exact(gT (by simp) (by first|simp -dsimp[↓e34,h35,q36,z37,w47];done|simp_all))
  ·have z15:¬((i:Int)<(v5.length:Int)):=auz
   cases hF
   refine kx3 h13 q14 z15 ?_
   refine lG _ (gT (by simp) (by first|simp -dsimp[h13,q14,z15];done|simp_all)) hq
theorem C.f254 (code:List Int)(r:Bool)(hF:F.f254 code=some r):PureCall zQ B 5 [am cU code] (.lit (.bool r)):=by
 unfold F.f254 at hF
 refine pE func5 (by kernel_rfl) rfl ntmps5 (by simp) (by simp) ?_
 revert hF;refine kS ?_ ?_<;>intro h1 q2 hF
 ·have z3:(1048576<(code.length:Int)):=auz
  cases hF
  repeat first|refine cg ?_|simp -dsimp[h1,z3]
  all_goals(try first|omega|rfl)
 ·have z3:¬(1048576<(code.length:Int)):=auz
  refine kx3 h1 q2 z3 ?_
  apply oB hF;intro v e4 hF
  refine((C.f97 B hB1 hB2 code v e4)).goW (by first|simp[h1,q2,z3];done|simp_all) (by simp) ?_
  refine kx3 h1 q2 z3 ?_
  apply oB hF;intro v5 e6 hF
  refine((C.f194 B hB1 hB2 v.1 v.2.1 v.2.2.1 v.2.2.2 v5 e6)).goW (by first|simp[h1,q2,z3];done|simp_all) (by simp) ?_
  refine kx3 h1 q2 z3 ?_
  apply oB hF;intro v7 e8 hF
  refine((C.f245 B hB1 hB2 v.1 v.2.1 v.2.2.1 v.2.2.2 v7 e8)).goW (by first|simp[h1,q2,z3];done|simp_all) (by simp) ?_
  refine kx3 h1 q2 z3 ?_
  apply oB hF;intro v9 e10 hF
  refine((C.f249 B hB1 hB2 v5 v7 v9 e10)).goW (by first|simp[h1,q2,z3];done|simp_all) (by simp) ?_
  refine kx3 h1 q2 z3 ?_
  revert hF;refine aN (fun h11 q12 hF=> ?_) (fun h11 q12 hF=> ?_)
  ·cases hF
   repeat first|refine cg ?_|simp -dsimp[h1,q2,z3,h11,q12]
   all_goals(try first|omega|rfl)
  ·refine kx5 h1 q2 z3 h11 q12 ?_
   apply oB hF;intro o'49 ho48 hF
   refine zR _ ?_ (((CC.f253 B hB1 hB2 v v5) 0 o'49 ho48) _ rfl _ ?_)
   ·exact(gT (by simp) (by first|simp -dsimp[h1,q2,z3,h11,q12];done|simp_all))
   rcases o'49 with r051|sx50
   ·dsimp only at hF
    cases hF
    intro st h
    simpa using h
   ·dsimp only at hF
    cases hF
    repeat first|refine cg ?_|simp -dsimp
    all_goals(try first|omega|rfl)
end Go.Proofs.YtnockmfobogfpaaGreat
