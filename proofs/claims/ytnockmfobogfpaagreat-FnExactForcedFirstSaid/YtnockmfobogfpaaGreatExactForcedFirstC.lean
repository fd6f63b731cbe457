/- Part. -/
import Derived.Test.YtnockmfobogfpaaGreatExactForcedFirstC1
open List renaming map->zA,length->zB,getElem?_eq_getElem->zC,mem_map->zD,getElem?_set_self->zE,sizeOf_lt_of_mem->zF,mem_cons_of_mem->zG,length_cons->zH,length_nil->zI,length_eq_zero_iff->zJ
open Nat renaming not_lt_zero->zK
open Option.some renaming inj->zL
namespace Go.Proofs.YtnockmfobogfpaaGreat
open Go Go.Proofs Go.Vl
open Pattern renaming c->zM,mkL->zN,c_len->zO,mkL_len->zP,mkE->zR
open BCall renaming enter->zS,empty1->zT,ofNil->zU
open PureCall renaming inLe->zV
open Blk renaming bnd->zW
open ADraw renaming simI->zX,effI->zY,effN2->zZ,simple->yA,effP->yB
open Again renaming is->yC
open Leave renaming is->yD
open ALoop renaming goU->yE,is->yF
open Gh renaming trans->yG,setAt->yH,packZ->yI,nilCell->yJ,nil->yK
open Clause renaming c->yL,mkL->yM,c_len->yN,mkL_len->yO
open Step renaming c->yP
open PathBind renaming c->yQ
open ACall renaming frzAt->yR
open Go.Vl renaming Data->yS
open Go.Vl.Data renaming c->yT,mkL->yU,c_len->yV,mkL_len->yW,mkE->yX
open Ty renaming mkL->yY,c->yZ,c_len->xA,mkL_len->xB
open ALoopU renaming know->xC,opnAt1->xD,opnAt->xE
open Go.Vl.Bind renaming c->xF
open Ctor renaming mkL->xG,c->xH,c_len->xI,mkL_len->xJ
open Go.Proofs.Tryz
open Go.Proofs.Tryz renaming prog->zQ
open abr renaming sp->aS,ns->aN
open Leave renaming go->lG
open Again renaming go->aG
open ALoopU renaming enter->eN
open Gh renaming to3->gT,refl->gR
open PureCall renaming enterLe->pE
open Go.IntKind (i64)
set_option linter.all false
set_option maxRecDepth 100000
set_option maxHeartbeats 4000000
set_option synthInstance.maxSize 100000
set_option synthInstance.maxHeartbeats 4000000
attribute [local irreducible] GhK ECallA ZE9 aL aLg AMake MLoop AgainM LeaveM ZBm ZBO MutCall BCall chk abr ACall ALoop ALoopU ADraw Again Leave ZE8 PCall ZAB awp ZIs PureCall hold
variable (B : Nat) (hB1 : 1073741824 <= bd B) (hB2 : bd B <= 9223372036854775807)
include hB1 hB2
theorem C.f179 (s:List Pattern)(r:List Pattern)(hF:F.f179 s=some r):BCall zQ B 154 [] [am zM s] (.own 0 (zB (α:=Pattern) r)) [.elems 6 (zA zM r)]:=by
 unfold F.f179 at hF
 apply oC hF;intro c1 hF
 cases hF
 cases s with
 |nil=>
  refine zT fun a c=> ?_
  cases a
  ·refine zU 6 (by simp) (by simp) ?_
   refine zV func154 rfl ntmps154 ?_
   exact kc0
  ·refine zS func154 (by kernel_rfl) rfl ntmps154 (by simp) rfl (by simp) (by simp) (by simp) (by simp) (by simp) (gR _) ?_
   exact kc0
 |cons x xs=>
  have c1:xs.length+1<=67108864:=by simpa using c1
  refine zS func154 (by kernel_rfl) rfl ntmps154 (by simp) rfl (by simp) (by simp) (by simp) (by simp) (by simp) (gR _) ?_
  exact kc0
theorem CC.impl_split__o0_l3 (p:Pattern)(list:List Pattern)(i:Nat)(v15:List Pattern)(i17:Nat)(x21:Pattern):(∀(more23:List Pattern) (i24:Nat) (o:List Pattern),F.f180 p list i v15 i17 x21 more23 i24=some o->∀(c:Code),ZQ [1,1,1,1,1,0,1,0,0,1,1,0,0,1,1,1,0,1,0,0,1,1,0,0,1,1,0,0] (ZG Tryz.f120)=some c->∀(Q:Exit->ASt->Prop),(Q (.exit 4) ⟨[(7,.own 3 (zB (α:=Pattern) v15)),(8,.own 4 (zB (α:=Pattern) o)),(33,am zM p.kids),(34,li (p.kids.length:Int)),(35,li (i:Int)),(41,.own 1 (zB (α:=Pattern) list)),(42,li (list.length:Int)),(43,li (i17:Int))],[.dead,.elems 6 (zA zM list),.dead,.elems 6 (zA zM v15),.elems 6 (zA zM o)]⟩)->ALoopU zQ B 0 70 (hold c .mk) ⟨[(7,.own 3 (zB (α:=Pattern) v15)),(8,.own 4 (zB (α:=Pattern) more23)),(10,.ptr 5 0),(33,am zM p.kids),(34,li (p.kids.length:Int)),(35,li (i:Int)),(41,.own 1 (zB (α:=Pattern) list)),(42,li (list.length:Int)),(43,li (i17:Int)),(47,.own 3 (zB (α:=Pattern) v15)),(48,li (v15.length:Int)),(49,li (i24:Int))],[.dead,.elems 6 (zA zM list),.dead,.elems 6 (zA zM v15),.elems 6 (zA zM more23),.cells [li x21.op,li x21.ctor,li x21.n,li x21.m,li x21.var,am zM x21.kids]]⟩ (hold Q .mk)):=by
 refine F.f180.partial_correctness p list i v15 i17 x21
  _
  ?_
 ·intro _f_impl_split__o0_l3 ih_impl_split__o0_l3 more23 i24 o hF
  refine ZI rfl fun Q hq hk hs=> ?_
  have b33:=hk 33
  simp -dsimp at b33
  have d1:=hs 1 _ rfl
  simp -dsimp[zW]at d1
  have d3:=hs 3 _ rfl
  simp -dsimp[zW]at d3
  have d4:=hs 4 _ rfl
  simp -dsimp[zW]at d4
  have d5:=hs 5 _ rfl
  simp -dsimp[zW]at d5
  clear hk hs
  refine eN ?_
  revert hF;refine kS ?_ ?_<;>intro h25 q26 hF
  ·have z27:((i24:Int)<(v15.length:Int)):=auz
   apply oB hF;intro x28 e29 hF
   have le29:=ZA e29
   refine ZP h25 z27 e29 ?_
   refine ADraw.opn ?_
   refine ADraw.split [] [(2,4)] [(4,2)] 2 4 rfl rfl (by kernel_rfl) ?_ ?_
   ·refine yB [(2,4)] [0,1,2,3,4,5,6,7] [154] [(0,0),(0,0),(0,4),(0,1),(0,4),(0,4),(3,3),(0,4)] [1,1,1,2,1,1,1,1] follows (by kernel_rfl) (by kernel_rfl) (by kernel_rfl) (by kernel_rfl) ?_
    refine kB hF fun v30 e31 hF=> ?_
    refine((C.f179 B hB1 hB2 x21.kids v30 e31)).ego (pl [8]) (by simp) (by simp) (by intro i j hi;simp at hi) (by intro i hi hi';simp at hi hi';first|omega|(subst hi';simp[pl])) (by simp_all) (by simp_all) ?_
    apply oC hF;intro c32 hF
    apply oC hF;intro c33 hF
    have w34:i64.wrap ((i24:Int)+1)=(i24:Int)+1:=ZD (by omega) (by omega)
    refine kx1 w34 ?_
    refine yC ((ih_impl_split__o0_l3 (more23++[(⟨x21.op,x21.ctor,x21.n,x21.m,x21.var,v30++[x28]⟩:Pattern)]) (i24+1) o hF) _ rfl _ hq)
   ·refine yB [(4,2)] [0,1,3,4,2,5,6,7] [154] [(0,1),(0,1),(0,0),(0,4),(0,4),(0,4),(3,3),(0,4)] [0,2,1,1,1,1,1,1] follows (by kernel_rfl) (by kernel_rfl) (by kernel_rfl) (by kernel_rfl) ?_
    refine kB hF fun v30 e31 hF=> ?_
    refine((C.f179 B hB1 hB2 x21.kids v30 e31)).ego (pl [9]) (by simp) (by simp) (by intro i j hi;simp at hi) (by intro i hi hi';simp at hi hi';first|omega|(subst hi';simp[pl])) (by simp_all) (by simp_all) ?_
    apply oC hF;intro c32 hF
    apply oC hF;intro c33 hF
    have w34:i64.wrap ((i24:Int)+1)=(i24:Int)+1:=ZD (by omega) (by omega)
    refine kx1 w34 ?_
    refine yC ((ih_impl_split__o0_l3 (more23++[(⟨x21.op,x21.ctor,x21.n,x21.m,x21.var,v30++[x28]⟩:Pattern)]) (i24+1) o hF) _ rfl _ hq)
  ·have z27:¬((i24:Int)<(v15.length:Int)):=auz
   cases hF
   refine kx3 h25 q26 z27 ?_
   refine yD hq
theorem CC.impl_split__o0_l2 (p:Pattern)(list:List Pattern)(i:Nat)(v15:List Pattern):(∀(more:List Pattern) (i17:Nat) (o:List Pattern),F.f181 p list i v15 more i17=some o->∀(c:Code),ZQ [1,1,1,1,1,0,1,0,0,1,1,0,0,1,1,1,0,1,0,0] (ZG Tryz.f120)=some c->∀(Q:Exit->ASt->Prop),(Q (.exit 2) ⟨[(8,.own 4 (zB (α:=Pattern) o)),(33,am zM p.kids),(34,li (p.kids.length:Int)),(35,li (i:Int))],[.dead,.dead,.dead,.dead,.elems 6 (zA zM o)]⟩)->ALoopU zQ B 0 70 (hold c .mk) ⟨[(7,.own 3 (zB (α:=Pattern) v15)),(8,.own 4 (zB (α:=Pattern) more)),(33,am zM p.kids),(34,li (p.kids.length:Int)),(35,li (i:Int)),(41,.own 1 (zB (α:=Pattern) list)),(42,li (list.length:Int)),(43,li (i17:Int))],[.dead,.elems 6 (zA zM list),.dead,.elems 6 (zA zM v15),.elems 6 (zA zM more)]⟩ (hold Q .mk)):=by
 refine F.f181.partial_correctness p list i v15
  _
  ?_
 ·intro _f_impl_split__o0_l2 ih_impl_split__o0_l2 more i17 o hF
  refine ZI rfl fun Q hq hk hs=> ?_
  have b33:=hk 33
  simp -dsimp at b33
  have d1:=hs 1 _ rfl
  simp -dsimp[zW]at d1
  have d3:=hs 3 _ rfl
  simp -dsimp[zW]at d3
  have d4:=hs 4 _ rfl
  simp -dsimp[zW]at d4
  clear hk hs
  refine eN ?_
  revert hF;refine kS ?_ ?_<;>intro h18 q19 hF
  ·have z20:((i17:Int)<(list.length:Int)):=auz
   apply oB hF;intro x21 e22 hF
   have le22:=ZA e22
   refine ZP h18 z20 e22 ?_
   apply oB hF;intro o' ho35 hF
   refine yF (((CC.impl_split__o0_l3 B hB1 hB2 p list i v15 i17 x21) more 0 o' ho35) _ rfl _ ?_)
   apply oC hF;intro c36 hF
   have w37:i64.wrap ((i17:Int)+1)=(i17:Int)+1:=ZD (by omega) (by omega)
   refine kx1 w37 ?_
   refine yC ((ih_impl_split__o0_l2 o' (i17+1) o hF) _ rfl _ hq)
  ·have z20:¬((i17:Int)<(list.length:Int)):=auz
   cases hF
   refine kx3 h18 q19 z20 ?_
   refine yD hq
theorem CC.impl_split__o0  :(∀(p:Pattern) (r:List Pattern),F.f182 p=some r->BCall zQ B 120 [] [.agg [li p.op,li p.ctor,li p.n,li p.m,li p.var,am zM p.kids]] (.own 0 (zB (α:=Pattern) r)) [.elems 6 (zA zM r)])/\
  (∀(p:Pattern) (list:List Pattern) (i:Nat) (o:List Pattern),F.f183 p list i=some o->∀(c:Code),ZQ [1,1,1,1,1,0,1,0,0] (ZG Tryz.f120)=some c->∀(Q:Exit->ASt->Prop),(Q (.exit 0) ⟨[(4,.own 1 (zB (α:=Pattern) o))],[.dead,.elems 6 (zA zM o)]⟩)->ALoopU zQ B 0 70 (hold c .mk) ⟨[(4,.own 1 (zB (α:=Pattern) list)),(33,am zM p.kids),(34,li (p.kids.length:Int)),(35,li (i:Int))],[.dead,.elems 6 (zA zM list)]⟩ (hold Q .mk)):=by
 refine F.f182.mutual_partial_correctness 
  _ _
  ?_ ?_
 ·intro _f_impl_split__o0 _f_impl_split__o0_l1 ih_impl_split__o0 ih_impl_split__o0_l1 p r hF
  refine BCall.enterS (τ1:=[]) (ys:=[.own 0 (zB (α:=Pattern) r)]) (news:=[(6,zA zM r)]) func120 (by kernel_rfl) rfl ntmps120 (by simp) rfl rfl (by simp) (by simp) (by simp) (by simp) (by simp) (by simp) (gR _) ?_
  revert hF;refine kS ?_ ?_<;>intro h1 q2 hF
  ·refine kx1 h1 ?_
   refine zY [120] [(0,0),(0,0),(0,0),(0,0),(0,3),(0,1),(0,1),(0,1),(0,1),(0,3),(0,3),(3,3)] [1,1,1,1,1,0,2,0,0,1,1,1] follows ?_
   apply oB hF;intro x e3 hF
   have le3:=ZA e3
   refine kdd e3 ?_
   apply oB hF;intro v e4 hF
   refine((ih_impl_split__o0 x v e4)).ego (pl [1]) (by simp) (by simp) (by intro i j hi;simp at hi) (by intro i hi hi';simp at hi hi';have hi:i=0:=(by omega);rcases hi with rfl<;>simp[pl]) (by simp_all) (by simp_all) ?_
   apply oB hF;intro x5 e6 hF
   have le6:=ZA e6
   refine kdd e6 ?_
   apply oB hF;intro v7 e8 hF
   refine((ih_impl_split__o0 x5 v7 e8)).ego (pl [2]) (by simp) (by simp) (by intro i j hi;simp at hi) (by intro i hi hi';simp at hi hi';have hi:i=0:=(by omega);rcases hi with rfl<;>simp[pl]) (by simp_all) (by simp_all) ?_
   apply oC hF;intro c9 hF
   cases hF
   repeat first|refine cg ?_|simp -dsimp
   all_goals(try first|omega|rfl|(simp;done)|(simp only[zH,zI]at*;omega)|simp)
  ·refine kx1 q2 ?_
   apply oB hF;intro o'43 ho42 hF
   refine yF ((ih_impl_split__o0_l1 p [(⟨p.op,p.ctor,p.n,p.m,p.var,[]⟩:Pattern)] 0 o'43 ho42) _ rfl _ ?_)
   cases hF
   repeat first|refine cg ?_|simp -dsimp
   all_goals(try first|omega|rfl|(simp;done)|(simp only[zH,zI]at*;omega)|simp)
 ·intro _f_impl_split__o0 _f_impl_split__o0_l1 ih_impl_split__o0 ih_impl_split__o0_l1 p list i o hF
  refine ZI rfl fun Q hq hk hs=> ?_
  have b33:=hk 33
  simp -dsimp at b33
  have d1:=hs 1 _ rfl
  simp -dsimp[zW]at d1
  clear hk hs
  refine eN ?_
  revert hF;refine kS ?_ ?_<;>intro h10 q11 hF
  ·have z12:((i:Int)<(p.kids.length:Int)):=auz
   apply oB hF;intro x13 e14 hF
   have le14:=ZA e14
   refine ZP h10 z12 e14 ?_
   apply oB hF;intro v15 e16 hF
   refine((ih_impl_split__o0 x13 v15 e16)).go (pl [3]) (by simp) (by simp) (by intro i j hi;simp at hi) (by intro i hi hi';simp at hi hi';have hi:i=0:=(by omega);rcases hi with rfl<;>simp[pl]) (by simp_all) (by simp_all) ?_
   refine kB hF fun o'39 ho38 hF=> ?_
   refine yE ⟨[(7,.own 3 (zB (α:=Pattern) v15)),(8,.own 4 (zB (α:=Pattern) [])),(33,.arr (zA zM p.kids)),(34,.lit (.int .i64 (p.kids.length:Int))),(35,.lit (.int .i64 (i:Int))),(41,.own 1 (zB (α:=Pattern) list)),(42,.lit (.int .i64 (list.length:Int))),(43,.lit (.int .i64 0))],[.dead,.elems 6 (zA zM list),.dead,.elems 6 (zA zM v15),.elems 6 (zA zM [])]⟩ (by refine yG (yK 8 6 (by simp -dsimp)) ?_;exact(gT (by simp) (by simp_all))) ?_
   refine((CC.impl_split__o0_l2 B hB1 hB2 p list i v15) [] 0 o'39 ho38) _ rfl _ ?_
   apply oC hF;intro c40 hF
   have w41:i64.wrap ((i:Int)+1)=(i:Int)+1:=ZD (by omega) (by omega)
   refine kx1 w41 ?_
   refine aG ⟨[(4,.own 1 (zB (α:=Pattern) o'39)),(33,.arr (zA zM p.kids)),(34,.lit (.int .i64 (p.kids.length:Int))),(35,.lit (.int .i64 ((i+1):Int)))],[.dead,.elems 6 (zA zM o'39)]⟩ (by refine yG (Gh.swap 1 4 (by decide) (by decide) (by simp) (by simp) (by simp)) ?_;exact(gT (by simp) (by simp_all))) ?_
   exact(ih_impl_split__o0_l1 p o'39 (i+1) o hF) _ rfl _ hq
  ·have z12:¬((i:Int)<(p.kids.length:Int)):=auz
   cases hF
   refine kx3 h10 q11 z12 ?_
   refine yD hq
theorem CC.f184 (list:List Clause):(∀(out:List (List Pattern)) (i:Nat) (o:Lo ((List (List Pattern))×Bool) (List (List Pattern))),F.f184 list out i=some o->∀(c:Code),ZQ [1,1,0,1,0,0] (ZG Tryz.f76)=some c->∀(Q:Exit->ASt->Prop),o.post (fun r=>∀st,ZAB zQ Tryz.f76 (fun r' _=>r'.le (.tup [am (cL zM) r.1,.lit (.bool r.2)])) .ret st->Q .ret st) (fun s=>Q (.exit 0) ⟨[(4,.own 0 (zB (α:=List Pattern) s))],[.elems 1 (zA (cL zM) s)]⟩)->ALoopU zQ B 0 25 (hold c .mk) ⟨[(4,.own 0 (zB (α:=List Pattern) out)),(7,am yL list),(8,li (list.length:Int)),(9,li (i:Int))],[.elems 1 (zA (cL zM) out)]⟩ (hold Q .mk)):=by
 refine F.f184.partial_correctness list
  _
  ?_
 ·intro _f_f184 ih_f184 out i o hF
  refine ZI rfl fun Q hq hk hs=> ?_
  have b7:=hk 7
  simp -dsimp at b7
  have d0:=hs 0 _ rfl
  simp -dsimp[zW]at d0
  clear hk hs
  refine eN ?_
  revert hF;refine kS ?_ ?_<;>intro h1 q2 hF
  ·have z3:((i:Int)<(list.length:Int)):=auz
   apply oB hF;intro x e4 hF
   have le4:=ZA e4
   refine ZP h1 z3 e4 ?_
   apply oB hF;intro v e5 hF
   refine(((CC.f176 B hB1 hB2).1 x.pat v e5)).goI ?_
   revert hF;refine kS ?_ ?_<;>intro h6 q7 hF
   ·cases hF
    refine kx1 h6 ?_
    refine lG _ (gR _) (hq _ ?_)
    exact kc0
   ·refine kx1 q7 ?_
    apply oB hF;intro v8 e9 hF
    refine(((CC.impl_split__o0 B hB1 hB2).1 x.pat v8 e9)).go (pl [2]) (by simp) (by simp) (by intro i j hi;simp at hi) (by intro i hi hi';simp at hi hi';have hi:i=0:=(by omega);rcases hi with rfl<;>simp[pl]) (by simp_all) (by simp_all) ?_
    apply oC hF;intro c10 hF
    have w11:i64.wrap ((i:Int)+1)=(i:Int)+1:=ZD (by omega) (by omega)
    refine kx1 w11 ?_
    refine yC ((ih_f184 (out++[v8]) (i+1) o hF) _ rfl _ hq)
  ·have z3:¬((i:Int)<(list.length:Int)):=auz
   cases hF
   refine kx3 h1 q2 z3 ?_
   refine yD hq
theorem C.f185 (list:List Clause)(r:(List (List Pattern))×Bool)(hF:F.f185 list=some r):PureCall zQ B 76 [am yL list] (.tup [am (cL zM) r.1,.lit (.bool r.2)]):=by
 unfold F.f185 at hF
 refine zV func76 rfl ntmps76 ?_
 refine kB hF fun o' ho12 hF=> ?_
 refine yE ⟨[(4,.own 0 (zB (α:=List Pattern) [])),(7,.arr (zA yL list)),(8,.lit (.int .i64 (list.length:Int))),(9,.lit (.int .i64 0))],[.elems 1 (zA (cL zM) [])]⟩ (by refine yG (yK 4 1 (by simp -dsimp)) ?_;exact(gT (by simp) (by simp -dsimp))) ?_
 refine((CC.f184 B hB1 hB2 list) [] 0 o' ho12) _ rfl _ ?_
 rcases o' with r0|sx
 ·dsimp only at hF
  cases hF
  intro st h
  simpa using h
 ·dsimp only at hF
  cases hF
  exact kc0
theorem C.f186 (s:List Int)(r:List Int)(hF:F.f186 s=some r):BCall zQ B 89 [] [am cI s] (.own 0 (zB (α:=Int) r)) [.elems 1 (zA cI r)]:=by
 unfold F.f186 at hF
 apply oC hF;intro c1 hF
 cases hF
 cases s with
 |nil=>
  refine zT fun a c=> ?_
  cases a
  ·refine zU 1 (by simp) (by simp) ?_
   refine zV func89 rfl ntmps89 ?_
   exact kc0
  ·refine zS func89 (by kernel_rfl) rfl ntmps89 (by simp) rfl (by simp) (by simp) (by simp) (by simp) (by simp) (gR _) ?_
   exact kc0
 |cons x xs=>
  have c1:xs.length+1<=67108864:=by simpa using c1
  refine zS func89 (by kernel_rfl) rfl ntmps89 (by simp) rfl (by simp) (by simp) (by simp) (by simp) (by simp) (gR _) ?_
  exact kc0
theorem CC.impl_tests__g  :(∀(p:Pattern) (path:List Int) (steps':List Step) (binds:List PathBind) (r:(List Step)×(List PathBind)),F.f187 p path steps' binds=some r->BCall zQ B 77 [.cells [.own 2 (zB (α:=Step) steps')],.cells [.own 3 (zB (α:=PathBind) binds)],.elems 8 (zA yP steps'),.elems 2 (zA yQ binds)] [.agg [li p.op,li p.ctor,li p.n,li p.m,li p.var,am zM p.kids],am cI path,.ptr 0 0,.ptr 1 0] (.tup []) [.cells [.own 2 (zB (α:=Step) r.1)],.cells [.own 3 (zB (α:=PathBind) r.2)],.elems 8 (zA yP r.1),.elems 2 (zA yQ r.2)])/\
  (∀(p:Pattern) (path:List Int) (out94:List Step) (out95:List PathBind) (i96:Nat) (o:(List Step)×(List PathBind)),F.f192 p path out94 out95 i96=some o->∀(c:Code),ZQ [1,1,1,1,0,0] (ZG Tryz.f77)=some c->∀(Q:Exit->ASt->Prop),(Q (.exit 1) ⟨[],[.cells [.own 2 (zB (α:=Step) o.1)],.cells [.own 3 (zB (α:=PathBind) o.2)],.elems 8 (zA yP o.1),.elems 2 (zA yQ o.2)]⟩)->ALoopU zQ B 4 81 (hold c .mk) ⟨[(1,am cI path),(2,.ptr 0 0),(3,.ptr 1 0),(4,.ptr 4 0),(59,am zM p.kids),(60,li (p.kids.length:Int)),(61,li (i96:Int))],[.cells [.own 2 (zB (α:=Step) out94)],.cells [.own 3 (zB (α:=PathBind) out95)],.elems 8 (zA yP out94),.elems 2 (zA yQ out95),.cells [li p.op,li p.ctor,li p.n,li p.m,li p.var,am zM p.kids]]⟩ (hold Q .mk))/\
  (∀(p:Pattern) (path:List Int) (out73:List Step) (out74:List PathBind) (i75:Nat) (o:(List Step)×(List PathBind)),F.f191 p path out73 out74 i75=some o->∀(c:Code),ZQ [1,1,1,1,0,0] (ZG Tryz.f77)=some c->∀(Q:Exit->ASt->Prop),(Q (.exit 1) ⟨[],[.cells [.own 2 (zB (α:=Step) o.1)],.cells [.own 3 (zB (α:=PathBind) o.2)],.elems 8 (zA yP o.1),.elems 2 (zA yQ o.2)]⟩)->ALoopU zQ B 4 81 (hold c .mk) ⟨[(1,am cI path),(2,.ptr 0 0),(3,.ptr 1 0),(4,.ptr 4 0),(59,am zM p.kids),(60,li (p.kids.length:Int)),(61,li (i75:Int))],[.cells [.own 2 (zB (α:=Step) out73)],.cells [.own 3 (zB (α:=PathBind) out74)],.elems 8 (zA yP out73),.elems 2 (zA yQ out74),.cells [li p.op,li p.ctor,li p.n,li p.m,li p.var,am zM p.kids]]⟩ (hold Q .mk))/\
  (∀(p:Pattern) (path:List Int) (out49:List Step) (out50:List PathBind) (i51:Nat) (o:(List Step)×(List PathBind)),F.f190 p path out49 out50 i51=some o->∀(c:Code),ZQ [1,1,1,1,0,0] (ZG Tryz.f77)=some c->∀(Q:Exit->ASt->Prop),(Q (.exit 1) ⟨[],[.cells [.own 2 (zB (α:=Step) o.1)],.cells [.own 3 (zB (α:=PathBind) o.2)],.elems 8 (zA yP o.1),.elems 2 (zA yQ o.2)]⟩)->ALoopU zQ B 4 81 (hold c .mk) ⟨[(1,am cI path),(2,.ptr 0 0),(3,.ptr 1 0),(4,.ptr 4 0),(59,am zM p.kids),(60,li (p.kids.length:Int)),(61,li (i51:Int))],[.cells [.own 2 (zB (α:=Step) out49)],.cells [.own 3 (zB (α:=PathBind) out50)],.elems 8 (zA yP out49),.elems 2 (zA yQ out50),.cells [li p.op,li p.ctor,li p.n,li p.m,li p.var,am zM p.kids]]⟩ (hold Q .mk))/\
  (∀(p:Pattern) (path:List Int) (out25:List Step) (out26:List PathBind) (i27:Nat) (o:(List Step)×(List PathBind)),F.f189 p path out25 out26 i27=some o->∀(c:Code),ZQ [1,1,1,1,0,0] (ZG Tryz.f77)=some c->∀(Q:Exit->ASt->Prop),(Q (.exit 1) ⟨[],[.cells [.own 2 (zB (α:=Step) o.1)],.cells [.own 3 (zB (α:=PathBind) o.2)],.elems 8 (zA yP o.1),.elems 2 (zA yQ o.2)]⟩)->ALoopU zQ B 4 81 (hold c .mk) ⟨[(1,am cI path),(2,.ptr 0 0),(3,.ptr 1 0),(4,.ptr 4 0),(59,am zM p.kids),(60,li (p.kids.length:Int)),(61,li (i27:Int))],[.cells [.own 2 (zB (α:=Step) out25)],.cells [.own 3 (zB (α:=PathBind) out26)],.elems 8 (zA yP out25),.elems 2 (zA yQ out26),.cells [li p.op,li p.ctor,li p.n,li p.m,li p.var,am zM p.kids]]⟩ (hold Q .mk))/\
  (∀(p:Pattern) (path:List Int) (out:List Step) (out5:List PathBind) (i:Nat) (o:(List Step)×(List PathBind)),F.f188 p path out out5 i=some o->∀(c:Code),ZQ [1,1,1,1,0,0] (ZG Tryz.f77)=some c->∀(Q:Exit->ASt->Prop),(Q (.exit 1) ⟨[],[.cells [.own 2 (zB (α:=Step) o.1)],.cells [.own 3 (zB (α:=PathBind) o.2)],.elems 8 (zA yP o.1),.elems 2 (zA yQ o.2)]⟩)->ALoopU zQ B 4 81 (hold c .mk) ⟨[(1,am cI path),(2,.ptr 0 0),(3,.ptr 1 0),(4,.ptr 4 0),(59,am zM p.kids),(60,li (p.kids.length:Int)),(61,li (i:Int))],[.cells [.own 2 (zB (α:=Step) out)],.cells [.own 3 (zB (α:=PathBind) out5)],.elems 8 (zA yP out),.elems 2 (zA yQ out5),.cells [li p.op,li p.ctor,li p.n,li p.m,li p.var,am zM p.kids]]⟩ (hold Q .mk)):=by
 refine F.f187.mutual_partial_correctness 
  _ _ _ _ _ _
  ?_ ?_ ?_ ?_ ?_ ?_
 ·intro _f_impl_tests__g_l5 _f_impl_tests__g_l4 _f_impl_tests__g_l3 _f_impl_tests__g_l2 _f_impl_tests__g_l1 ih_impl_tests__g_l5 ih_impl_tests__g_l4 ih_impl_tests__g_l3 ih_impl_tests__g_l2 ih_impl_tests__g_l1 p path steps' binds r hF
  refine zS func77 (by kernel_rfl) rfl ntmps77 (by simp) rfl (by simp) (by simp) (by simp) (by simp) (by simp) (gR _) ?_
  refine kB hF fun v e1 hF=> ?_
  refine((C.f186 B hB1 hB2 path v e1)).go (pl [5]) (by simp) (by simp) (by intro i j hi;simp at hi) (by intro i hi hi';simp at hi hi';first|omega|(subst hi';simp[pl])) (by simp) (by simp) ?_
  revert hF;refine kS ?_ ?_<;>intro h2 q3 hF
  ·refine kx1 h2 ?_
   refine zY [1000133] [(0,3),(0,2),(0,2),(0,2),(0,0),(0,0),(0,0),(0,4),(0,4),(0,4),(3,3),(0,4)] [1,1,0,2,1,1,1,1,1,1,1,1] follows ?_
   apply oC hF;intro c4 hF
   refine kB hF fun o' ho21 hF=> ?_
   refine yF ((ih_impl_tests__g_l1 p path steps' (binds++[(⟨p.var,v⟩:PathBind)]) 0 o' ho21) _ rfl _ ?_)
   cases hF
   repeat first|refine cg ?_|simp -dsimp
   all_goals(try first|omega|rfl|(simp;done)|(simp only[zH,zI]at*;omega)|simp)
  ·refine kx1 q3 ?_
   revert hF;refine aS ?_ ?_<;>intro h22 q23 hF
   ·refine kx1 h22 ?_
    refine zY [1000133] [(0,3),(0,2),(0,2),(0,2),(0,0),(0,0),(0,0),(0,4),(0,4),(0,4),(3,3),(0,4)] [1,1,0,2,1,1,1,1,1,1,1,1] follows ?_
    apply oC hF;intro c24 hF
    refine kB hF fun o'45 ho44 hF=> ?_
    refine yF ((ih_impl_tests__g_l2 p path steps' (binds++[(⟨p.var,v⟩:PathBind)]) 0 o'45 ho44) _ rfl _ ?_)
    cases hF
    repeat first|refine cg ?_|simp -dsimp
    all_goals(try first|omega|rfl|(simp;done)|(simp only[zH,zI]at*;omega)|simp)
   ·refine kx1 q23 ?_
    revert hF;refine aS ?_ ?_<;>intro h46 q47 hF
    ·refine kx1 h46 ?_
     refine zY [1000096] [(0,3),(0,2),(0,2),(0,2),(0,0),(0,0),(0,0),(0,0),(0,0),(0,4),(0,4),(0,4),(3,3),(0,4)] [1,1,0,2,1,1,1,1,1,1,1,1,1,1] follows ?_
     apply oC hF;intro c48 hF
     refine kB hF fun o'69 ho68 hF=> ?_
     refine yF ((ih_impl_tests__g_l3 p path (steps'++[(⟨1,v,(-1),p.n,p.m,0,[],0⟩:Step)]) binds 0 o'69 ho68) _ rfl _ ?_)
     cases hF
     repeat first|refine cg ?_|simp -dsimp
     all_goals(try first|omega|rfl|(simp;done)|(simp only[zH,zI]at*;omega)|simp)
    ·refine kx1 q47 ?_
     revert hF;refine aS ?_ ?_<;>intro h70 q71 hF
     ·refine kx1 h70 ?_
      refine zY [1000096] [(0,3),(0,2),(0,2),(0,2),(0,0),(0,0),(0,0),(0,4),(0,4),(0,4),(3,3),(0,4)] [1,1,0,2,1,1,1,1,1,1,1,1] follows ?_
      apply oC hF;intro c72 hF
      refine kB hF fun o'93 ho92 hF=> ?_
      refine yF ((ih_impl_tests__g_l4 p path (steps'++[(⟨1,v,p.ctor,0,0,0,[],0⟩:Step)]) binds 0 o'93 ho92) _ rfl _ ?_)
      cases hF
      repeat first|refine cg ?_|simp -dsimp
      all_goals(try first|omega|rfl|(simp;done)|(simp only[zH,zI]at*;omega)|simp)
     ·refine kx1 q71 ?_
      apply oB hF;intro o'114 ho113 hF
      refine yF ((ih_impl_tests__g_l5 p path steps' binds 0 o'114 ho113) _ rfl _ ?_)
      cases hF
      repeat first|refine cg ?_|simp -dsimp
      all_goals(try first|omega|rfl|(simp;done)|(simp only[zH,zI]at*;omega)|simp)
 ·intro _f_impl_tests__g _f_impl_tests__g_l5 ih_impl_tests__g ih_impl_tests__g_l5 p path out94 out95 i96 o hF
  refine ZI rfl fun Q hq hk hs=> ?_
  have b1:=hk 1
  simp -dsimp at b1
  have b59:=hk 59
  simp -dsimp at b59
  have d2:=hs 2 _ rfl
  simp -dsimp[zW]at d2
  have d3:=hs 3 _ rfl
  simp -dsimp[zW]at d3
  have d4:=hs 4 _ rfl
  simp -dsimp[zW]at d4
  clear hk hs
  refine eN ?_
  revert hF;refine kS ?_ ?_<;>intro h97 q98 hF
  ·have z99:((i96:Int)<(p.kids.length:Int)):=auz
   apply oB hF;intro x100 e101 hF
   have le101:=ZA e101
   refine ZP h97 z99 e101 ?_
   revert hF;refine aS ?_ ?_<;>intro h102 q103 hF
   ·refine kx1 h102 ?_
    apply oB hF;intro v104 e105 hF
    refine((C.f186 B hB1 hB2 path v104 e105)).go (pl [6]) (by simp) (by simp) (by intro i j hi;simp at hi) (by intro i hi hi';simp at hi hi';first|omega|(subst hi';simp[pl])) (by simp_all) (by simp_all) ?_
    apply oC hF;intro c106 hF
    refine kB hF fun v107 e108 hF=> ?_
    refine yR 1 (l:=6) (n:=zB (α:=Int) (v104++[(i96:Int)])) (sz:=1) (es:=zA cI (v104++[(i96:Int)])) (by simp) (by simp) (by simp) (by simp) ?_
    refine kx0 ?_
    refine((ih_impl_tests__g x100 (v104++[(i96:Int)]) out94 out95 v107 e108)).go (pl [0,1,2,3]) (by simp) (by simp) (Zu _ rfl (by decide)) (by intro i hi hi';simp at hi hi';omega) (by simp_all) (by simp_all) ?_
    have w109:i64.wrap ((i96:Int)+1)=(i96:Int)+1:=ZD (by omega) (by omega)
    refine kx1 w109 ?_
    refine yC ((ih_impl_tests__g_l5 p path v107.1 v107.2 (i96+1) o hF) _ rfl _ hq)
   ·refine kx1 q103 ?_
    apply oB hF;intro v110 e111 hF
    refine((ih_impl_tests__g x100 path out94 out95 v110 e111)).go (pl [0,1,2,3]) (by simp) (by simp) (Zu _ rfl (by decide)) (by intro i hi hi';simp at hi hi';omega) (by simp_all) (by simp_all) ?_
    have w112:i64.wrap ((i96:Int)+1)=(i96:Int)+1:=ZD (by omega) (by omega)
    refine kx1 w112 ?_
    refine yC ((ih_impl_tests__g_l5 p path v110.1 v110.2 (i96+1) o hF) _ rfl _ hq)
  ·have z99:¬((i96:Int)<(p.kids.length:Int)):=auz
   cases hF
   refine kx3 h97 q98 z99 ?_
   refine yD hq
 ·intro _f_impl_tests__g _f_impl_tests__g_l4 ih_impl_tests__g ih_impl_tests__g_l4 p path out73 out74 i75 o hF
  refine ZI rfl fun Q hq hk hs=> ?_
  have b1:=hk 1
  simp -dsimp at b1
  have b59:=hk 59
  simp -dsimp at b59
  have d2:=hs 2 _ rfl
  simp -dsimp[zW]at d2
  have d3:=hs 3 _ rfl
  simp -dsimp[zW]at d3
  have d4:=hs 4 _ rfl
  simp -dsimp[zW]at d4
  clear hk hs
  refine eN ?_
  revert hF;refine kS ?_ ?_<;>intro h76 q77 hF
  ·have z78:((i75:Int)<(p.kids.length:Int)):=auz
   apply oB hF;intro x79 e80 hF
   have le80:=ZA e80
   refine ZP h76 z78 e80 ?_
   revert hF;refine aS ?_ ?_<;>intro h81 q82 hF
   ·refine kx1 h81 ?_
    apply oB hF;intro v83 e84 hF
    refine((C.f186 B hB1 hB2 path v83 e84)).go (pl [6]) (by simp) (by simp) (by intro i j hi;simp at hi) (by intro i hi hi';simp at hi hi';first|omega|(subst hi';simp[pl])) (by simp_all) (by simp_all) ?_
    apply oC hF;intro c85 hF
    refine kB hF fun v86 e87 hF=> ?_
    refine yR 1 (l:=6) (n:=zB (α:=Int) (v83++[(i75:Int)])) (sz:=1) (es:=zA cI (v83++[(i75:Int)])) (by simp) (by simp) (by simp) (by simp) ?_
    refine kx0 ?_
    refine((ih_impl_tests__g x79 (v83++[(i75:Int)]) out73 out74 v86 e87)).go (pl [0,1,2,3]) (by simp) (by simp) (Zu _ rfl (by decide)) (by intro i hi hi';simp at hi hi';omega) (by simp_all) (by simp_all) ?_
    have w88:i64.wrap ((i75:Int)+1)=(i75:Int)+1:=ZD (by omega) (by omega)
    refine kx1 w88 ?_
    refine yC ((ih_impl_tests__g_l4 p path v86.1 v86.2 (i75+1) o hF) _ rfl _ hq)
   ·refine kx1 q82 ?_
    apply oB hF;intro v89 e90 hF
    refine((ih_impl_tests__g x79 path out73 out74 v89 e90)).go (pl [0,1,2,3]) (by simp) (by simp) (Zu _ rfl (by decide)) (by intro i hi hi';simp at hi hi';omega) (by simp_all) (by simp_all) ?_
    have w91:i64.wrap ((i75:Int)+1)=(i75:Int)+1:=ZD (by omega) (by omega)
    refine kx1 w91 ?_
    refine yC ((ih_impl_tests__g_l4 p path v89.1 v89.2 (i75+1) o hF) _ rfl _ hq)
  ·have z78:¬((i75:Int)<(p.kids.length:Int)):=auz
   cases hF
   refine kx3 h76 q77 z78 ?_
   refine yD hq
 ·intro _f_impl_tests__g _f_impl_tests__g_l3 ih_impl_tests__g ih_impl_tests__g_l3 p path out49 out50 i51 o hF
  refine ZI rfl fun Q hq hk hs=> ?_
  have b1:=hk 1
  simp -dsimp at b1
  have b59:=hk 59
  simp -dsimp at b59
  have d2:=hs 2 _ rfl
  simp -dsimp[zW]at d2
  have d3:=hs 3 _ rfl
  simp -dsimp[zW]at d3
  have d4:=hs 4 _ rfl
  simp -dsimp[zW]at d4
  clear hk hs
  refine eN ?_
  revert hF;refine kS ?_ ?_<;>intro h52 q53 hF
  ·have z54:((i51:Int)<(p.kids.length:Int)):=auz
   apply oB hF;intro x55 e56 hF
   have le56:=ZA e56
   refine ZP h52 z54 e56 ?_
   revert hF;refine aS ?_ ?_<;>intro h57 q58 hF
   ·refine kx1 h57 ?_
    apply oB hF;intro v59 e60 hF
    refine((C.f186 B hB1 hB2 path v59 e60)).go (pl [6]) (by simp) (by simp) (by intro i j hi;simp at hi) (by intro i hi hi';simp at hi hi';first|omega|(subst hi';simp[pl])) (by simp_all) (by simp_all) ?_
    apply oC hF;intro c61 hF
    refine kB hF fun v62 e63 hF=> ?_
    refine yR 1 (l:=6) (n:=zB (α:=Int) (v59++[(i51:Int)])) (sz:=1) (es:=zA cI (v59++[(i51:Int)])) (by simp) (by simp) (by simp) (by simp) ?_
    refine kx0 ?_
    refine((ih_impl_tests__g x55 (v59++[(i51:Int)]) out49 out50 v62 e63)).go (pl [0,1,2,3]) (by simp) (by simp) (Zu _ rfl (by decide)) (by intro i hi hi';simp at hi hi';omega) (by simp_all) (by simp_all) ?_
    have w64:i64.wrap ((i51:Int)+1)=(i51:Int)+1:=ZD (by omega) (by omega)
    refine kx1 w64 ?_
    refine yC ((ih_impl_tests__g_l3 p path v62.1 v62.2 (i51+1) o hF) _ rfl _ hq)
   ·refine kx1 q58 ?_
    apply oB hF;intro v65 e66 hF
    refine((ih_impl_tests__g x55 path out49 out50 v65 e66)).go (pl [0,1,2,3]) (by simp) (by simp) (Zu _ rfl (by decide)) (by intro i hi hi';simp at hi hi';omega) (by simp_all) (by simp_all) ?_
    have w67:i64.wrap ((i51:Int)+1)=(i51:Int)+1:=ZD (by omega) (by omega)
    refine kx1 w67 ?_
    refine yC ((ih_impl_tests__g_l3 p path v65.1 v65.2 (i51+1) o hF) _ rfl _ hq)
  ·have z54:¬((i51:Int)<(p.kids.length:Int)):=auz
   cases hF
   refine kx3 h52 q53 z54 ?_
   refine yD hq
 ·intro _f_impl_tests__g _f_impl_tests__g_l2 ih_impl_tests__g ih_impl_tests__g_l2 p path out25 out26 i27 o hF
  refine ZI rfl fun Q hq hk hs=> ?_
  have b1:=hk 1
  simp -dsimp at b1
  have b59:=hk 59
  simp -dsimp at b59
  have d2:=hs 2 _ rfl
  simp -dsimp[zW]at d2
  have d3:=hs 3 _ rfl
  simp -dsimp[zW]at d3
  have d4:=hs 4 _ rfl
  simp -dsimp[zW]at d4
  clear hk hs
  refine eN ?_
  revert hF;refine kS ?_ ?_<;>intro h28 q29 hF
  ·have z30:((i27:Int)<(p.kids.length:Int)):=auz
   apply oB hF;intro x31 e32 hF
   have le32:=ZA e32
   refine ZP h28 z30 e32 ?_
   revert hF;refine aS ?_ ?_<;>intro h33 q34 hF
   ·refine kx1 h33 ?_
    apply oB hF;intro v35 e36 hF
    refine((C.f186 B hB1 hB2 path v35 e36)).go (pl [6]) (by simp) (by simp) (by intro i j hi;simp at hi) (by intro i hi hi';simp at hi hi';first|omega|(subst hi';simp[pl])) (by simp_all) (by simp_all) ?_
    apply oC hF;intro c37 hF
    refine kB hF fun v38 e39 hF=> ?_
    refine yR 1 (l:=6) (n:=zB (α:=Int) (v35++[(i27:Int)])) (sz:=1) (es:=zA cI (v35++[(i27:Int)])) (by simp) (by simp) (by simp) (by simp) ?_
    refine kx0 ?_
    refine((ih_impl_tests__g x31 (v35++[(i27:Int)]) out25 out26 v38 e39)).go (pl [0,1,2,3]) (by simp) (by simp) (Zu _ rfl (by decide)) (by intro i hi hi';simp at hi hi';omega) (by simp_all) (by simp_all) ?_
    have w40:i64.wrap ((i27:Int)+1)=(i27:Int)+1:=ZD (by omega) (by omega)
    refine kx1 w40 ?_
    refine yC ((ih_impl_tests__g_l2 p path v38.1 v38.2 (i27+1) o hF) _ rfl _ hq)
   ·refine kx1 q34 ?_
    apply oB hF;intro v41 e42 hF
    refine((ih_impl_tests__g x31 path out25 out26 v41 e42)).go (pl [0,1,2,3]) (by simp) (by simp) (Zu _ rfl (by decide)) (by intro i hi hi';simp at hi hi';omega) (by simp_all) (by simp_all) ?_
    have w43:i64.wrap ((i27:Int)+1)=(i27:Int)+1:=ZD (by omega) (by omega)
    refine kx1 w43 ?_
    refine yC ((ih_impl_tests__g_l2 p path v41.1 v41.2 (i27+1) o hF) _ rfl _ hq)
  ·have z30:¬((i27:Int)<(p.kids.length:Int)):=auz
   cases hF
   refine kx3 h28 q29 z30 ?_
   refine yD hq
 ·intro _f_impl_tests__g _f_impl_tests__g_l1 ih_impl_tests__g ih_impl_tests__g_l1 p path out out5 i o hF
  refine ZI rfl fun Q hq hk hs=> ?_
  have b1:=hk 1
  simp -dsimp at b1
  have b59:=hk 59
  simp -dsimp at b59
  have d2:=hs 2 _ rfl
  simp -dsimp[zW]at d2
  have d3:=hs 3 _ rfl
  simp -dsimp[zW]at d3
  have d4:=hs 4 _ rfl
  simp -dsimp[zW]at d4
  clear hk hs
  refine eN ?_
  revert hF;refine kS ?_ ?_<;>intro h6 q7 hF
  ·have z8:((i:Int)<(p.kids.length:Int)):=auz
   apply oB hF;intro x e9 hF
   have le9:=ZA e9
   refine ZP h6 z8 e9 ?_
   revert hF;refine aS ?_ ?_<;>intro h10 q11 hF
   ·refine kx1 h10 ?_
    apply oB hF;intro v12 e13 hF
    refine((C.f186 B hB1 hB2 path v12 e13)).go (pl [6]) (by simp) (by simp) (by intro i j hi;simp at hi) (by intro i hi hi';simp at hi hi';first|omega|(subst hi';simp[pl])) (by simp_all) (by simp_all) ?_
    apply oC hF;intro c14 hF
    refine kB hF fun v15 e16 hF=> ?_
    refine yR 1 (l:=6) (n:=zB (α:=Int) (v12++[(i:Int)])) (sz:=1) (es:=zA cI (v12++[(i:Int)])) (by simp) (by simp) (by simp) (by simp) ?_
    refine kx0 ?_
    refine((ih_impl_tests__g x (v12++[(i:Int)]) out out5 v15 e16)).go (pl [0,1,2,3]) (by simp) (by simp) (Zu _ rfl (by decide)) (by intro i hi hi';simp at hi hi';omega) (by simp_all) (by simp_all) ?_
    have w17:i64.wrap ((i:Int)+1)=(i:Int)+1:=ZD (by omega) (by omega)
    refine kx1 w17 ?_
    refine yC ((ih_impl_tests__g_l1 p path v15.1 v15.2 (i+1) o hF) _ rfl _ hq)
   ·refine kx1 q11 ?_
    apply oB hF;intro v18 e19 hF
    refine((ih_impl_tests__g x path out out5 v18 e19)).go (pl [0,1,2,3]) (by simp) (by simp) (Zu _ rfl (by decide)) (by intro i hi hi';simp at hi hi';omega) (by simp_all) (by simp_all) ?_
    have w20:i64.wrap ((i:Int)+1)=(i:Int)+1:=ZD (by omega) (by omega)
    refine kx1 w20 ?_
    refine yC ((ih_impl_tests__g_l1 p path v18.1 v18.2 (i+1) o hF) _ rfl _ hq)
  ·have z8:¬((i:Int)<(p.kids.length:Int)):=auz
   cases hF
   refine kx3 h6 q7 z8 ?_
   refine yD hq
theorem C.f193 (x:List PathBind)(r:List PathBind)(hF:F.f193 x=some r):BCall zQ B 78 [.elems 2 (zA yQ x)] [.own 0 (zB (α:=PathBind) x),.fn (.func 79) [] []] (.tup []) [.elems 2 (zA yQ r)]:=by
 unfold F.f193 at hF
 apply oC hF;intro c1 hF
 cases hF
 exact ZI3 (c:=yQ) (key:=fun x=>x.var) Tryz.sort78 ⟨Tryz.f78,func78,by kernel_rfl,by kernel_rfl⟩ Tryz.isAgg133 Tryz.sizeOf133 (enters_of func79 (by kernel_rfl) rfl) Tryz.cmpK79 x (fun x=>⟨_,rfl,rfl⟩) (by simp) c1.1 c1.2
theorem CC.f194 (v4:(List (List Pattern))×Bool)(out:List Step)(i:Nat)(x:List Pattern)(i13:Nat)(v21:List PathBind):(∀(out24:List Step) (k:Nat) (o:List Step),F.f194 v4 out i x i13 v21 out24 k=some o->∀(c:Code),ZQ [1,1,1,1,1,0,1,0,0,1,1,0,0,1,1,0,1,0,0,1,1,0,0,1,1,1,1,1,0,1,0,0] (ZG Tryz.f39)=some c->∀(Q:Exit->ASt->Prop),(Q (.exit 4) ⟨[(10,.ptr 1 0),(11,li (i:Int)),(13,li (out.length:Int)),(17,.ptr 4 0),(32,am (cL zM) v4.1),(33,li (v4.1.length:Int)),(34,li (i:Int)),(41,am zM x),(42,li (x.length:Int)),(43,li (i13:Int))],[.dead,.cells [.own 2 (zB (α:=Step) o)],.elems 8 (zA yP o),.dead,.cells [.own 5 (zB (α:=PathBind) v21)],.elems 2 (zA yQ v21)]⟩)->ALoopU zQ B 0 98 (hold c .mk) ⟨[(10,.ptr 1 0),(11,li (i:Int)),(13,li (out.length:Int)),(17,.ptr 4 0),(18,li (k:Int)),(32,am (cL zM) v4.1),(33,li (v4.1.length:Int)),(34,li (i:Int)),(41,am zM x),(42,li (x.length:Int)),(43,li (i13:Int))],[.dead,.cells [.own 2 (zB (α:=Step) out24)],.elems 8 (zA yP out24),.dead,.cells [.own 5 (zB (α:=PathBind) v21)],.elems 2 (zA yQ v21)]⟩ (hold Q .mk)):=by
 refine F.f194.partial_correctness v4 out i x i13 v21
  _
  ?_
 ·intro _f_f194 ih_f194 out24 k o hF
  refine ZI rfl fun Q hq hk hs=> ?_
  have b32:=hk 32
  simp -dsimp at b32
  have b41:=hk 41
  simp -dsimp at b41
  have d2:=hs 2 _ rfl
  simp -dsimp[zW]at d2
  have d5:=hs 5 _ rfl
  simp -dsimp[zW]at d5
  clear hk hs
  refine eN ?_
  revert hF;refine kS ?_ ?_<;>intro h25 q26 hF
  ·have z27:((k:Int)<(out24.length:Int)):=auz
   apply oC hF;intro c28 hF
   have w29:i64.wrap ((out24.length:Int)+1)=(out24.length:Int)+1:=ZD (by omega) (by omega)
   apply oB hF;intro x30 e31 hF
   have le31:=ZA e31
   have w32:i64.wrap ((k:Int)+1)=(k:Int)+1:=ZD (by omega) (by omega)
   repeat first|refine cg ?_|simp -dsimp[h25,z27,w29,↓e31,w32]
   refine yC ((ih_f194 (out24.set k (⟨x30.op,x30.path,x30.ctor,x30.n,x30.m,x30.clause,x30.binds,((out24.length+1:Nat):Int)⟩:Step)) (k+1) o hF) _ rfl _ hq)
  ·have z27:¬((k:Int)<(out24.length:Int)):=auz
   cases hF
   refine kx3 h25 q26 z27 ?_
   refine yD hq
theorem CC.f195 (v4:(List (List Pattern))×Bool)(out:List Step)(i:Nat)(x:List Pattern):(∀(out12:List Step) (i13:Nat) (o:List Step),F.f195 v4 out i x out12 i13=some o->∀(c:Code),ZQ [1,1,1,1,1,0,1,0,0,1,1,0,0,1,1,0,1,0,0] (ZG Tryz.f39)=some c->∀(Q:Exit->ASt->Prop),(Q (.exit 2) ⟨[(10,.ptr 1 0),(13,li (out.length:Int)),(32,am (cL zM) v4.1),(33,li (v4.1.length:Int)),(34,li (i:Int))],[.dead,.cells [.own 2 (zB (α:=Step) o)],.elems 8 (zA yP o)]⟩)->ALoopU zQ B 0 98 (hold c .mk) ⟨[(10,.ptr 1 0),(11,li (i:Int)),(13,li (out.length:Int)),(32,am (cL zM) v4.1),(33,li (v4.1.length:Int)),(34,li (i:Int)),(41,am zM x),(42,li (x.length:Int)),(43,li (i13:Int))],[.dead,.cells [.own 2 (zB (α:=Step) out12)],.elems 8 (zA yP out12)]⟩ (hold Q .mk)):=by
 refine F.f195.partial_correctness v4 out i x
  _
  ?_
 ·intro _f_f195 ih_f195 out12 i13 o hF
  refine ZI rfl fun Q hq hk hs=> ?_
  have b32:=hk 32
  simp -dsimp at b32
  have b41:=hk 41
  simp -dsimp at b41
  have d2:=hs 2 _ rfl
  simp -dsimp[zW]at d2
  clear hk hs
  refine eN ?_
  revert hF;refine kS ?_ ?_<;>intro h14 q15 hF
  ·have z16:((i13:Int)<(x.length:Int)):=auz
   apply oB hF;intro x17 e18 hF
   have le18:=ZA e18
   refine ZP h14 z16 e18 ?_
   apply oB hF;intro v19 e20 hF
   refine ACall.nilCell 4 0 2 (cs:=[.lit (.slice none 0 0)]) (by simp) (by simp) ?_
   refine kx0 ?_
   refine(((CC.impl_tests__g B hB1 hB2).1 x17 [] out12 [] v19 e20)).go (pl [1,4,2,5]) (by simp) (by simp) (Zu _ rfl (by decide)) (by intro i hi hi';simp at hi hi';omega) (by simp_all) (by simp_all) ?_
   refine kB hF fun v21 e22 hF=> ?_
   have sl23:zB (α:=PathBind) v19.2=zB (α:=PathBind) v21:=ZLh (key:=fun x=>x.var) (by unfold F.f193 at e22;exact e22)
   refine((C.f193 B hB1 hB2 v19.2 v21 e22)).go (pl [5]) (by simp) (by simp) (Zu _ rfl (by decide)) (by intro i hi hi';simp at hi hi';first|omega|(subst hi';simp[pl])) (by simp_all) (by simp_all) ?_
   refine kx1 sl23 ?_
   apply oB hF;intro o' ho33 hF
   refine yF (((CC.f194 B hB1 hB2 v4 out i x i13 v21) v19.1 out12.length o' ho33) _ rfl _ ?_)
   apply oC hF;intro c34 hF
   apply oC hF;intro c35 hF
   have w36:i64.wrap ((i13:Int)+1)=(i13:Int)+1:=ZD (by omega) (by omega)
   refine kx1 w36 ?_
   refine yC ((ih_f195 (o'++[(⟨2,[],0,0,0,(i:Int),v21,0⟩:Step)]) (i13+1) o hF) _ rfl _ hq)
  ·have z16:¬((i13:Int)<(x.length:Int)):=auz
   cases hF
   refine kx3 h14 q15 z16 ?_
   refine yD hq
theorem CC.f196 (v4:(List (List Pattern))×Bool)(i:Nat):(∀(out39:List Step) (k40:Nat) (o:List Step),F.f196 v4 i out39 k40=some o->∀(c:Code),ZQ [1,1,1,1,1,0,1,0,0,1,1,0,0,1,1,1,1,0,0] (ZG Tryz.f39)=some c->∀(Q:Exit->ASt->Prop),(Q (.exit 6) ⟨[(10,.ptr 1 0),(32,am (cL zM) v4.1),(33,li (v4.1.length:Int)),(34,li (i:Int))],[.dead,.cells [.own 2 (zB (α:=Step) o)],.elems 8 (zA yP o)]⟩)->ALoopU zQ B 0 98 (hold c .mk) ⟨[(10,.ptr 1 0),(19,li (k40:Int)),(32,am (cL zM) v4.1),(33,li (v4.1.length:Int)),(34,li (i:Int))],[.dead,.cells [.own 2 (zB (α:=Step) out39)],.elems 8 (zA yP out39)]⟩ (hold Q .mk)):=by
 refine F.f196.partial_correctness v4 i
  _
  ?_
 ·intro _f_f196 ih_f196 out39 k40 o hF
  refine ZI rfl fun Q hq hk hs=> ?_
  have b32:=hk 32
  simp -dsimp at b32
  have d2:=hs 2 _ rfl
  simp -dsimp[zW]at d2
  clear hk hs
  refine eN ?_
  revert hF;refine kS ?_ ?_<;>intro h41 q42 hF
  ·have z43:((k40:Int)<(out39.length:Int)):=auz
   apply oB hF;intro x44 e45 hF
   have le45:=ZA e45
   refine ZP h41 z43 e45 ?_
   revert hF;refine aS ?_ ?_<;>intro h46 q47 hF
   ·have w48:i64.wrap ((k40:Int)+1)=(k40:Int)+1:=ZD (by omega) (by omega)
    refine kx2 h46 w48 ?_
    refine yC ((ih_f196 (out39.set k40 (⟨x44.op,x44.path,x44.ctor,x44.n,x44.m,x44.clause,x44.binds,(out39.length:Int)⟩:Step)) (k40+1) o hF) _ rfl _ hq)
   ·have w49:i64.wrap ((k40:Int)+1)=(k40:Int)+1:=ZD (by omega) (by omega)
    refine kx3 h46 q47 w49 ?_
    refine yC ((ih_f196 out39 (k40+1) o hF) _ rfl _ hq)
  ·have z43:¬((k40:Int)<(out39.length:Int)):=auz
   cases hF
   refine kx3 h41 q42 z43 ?_
   refine yD hq
theorem CC.f197 (v4:(List (List Pattern))×Bool):(∀(out:List Step) (i:Nat) (o:List Step),F.f197 v4 out i=some o->∀(c:Code),ZQ [1,1,1,1,1,0,1,0,0] (ZG Tryz.f39)=some c->∀(Q:Exit->ASt->Prop),(Q (.exit 0) ⟨[(10,.ptr 1 0)],[.dead,.cells [.own 2 (zB (α:=Step) o)],.elems 8 (zA yP o)]⟩)->ALoopU zQ B 0 98 (hold c .mk) ⟨[(10,.ptr 1 0),(32,am (cL zM) v4.1),(33,li (v4.1.length:Int)),(34,li (i:Int))],[.dead,.cells [.own 2 (zB (α:=Step) out)],.elems 8 (zA yP out)]⟩ (hold Q .mk)):=by
 refine F.f197.partial_correctness v4
  _
  ?_
 ·intro _f_f197 ih_f197 out i o hF
  refine ZI rfl fun Q hq hk hs=> ?_
  have b32:=hk 32
  simp -dsimp at b32
  have d2:=hs 2 _ rfl
  simp -dsimp[zW]at d2
  clear hk hs
  refine eN ?_
  revert hF;refine kS ?_ ?_<;>intro h8 q9 hF
  ·have z10:((i:Int)<(v4.1.length:Int)):=auz
   apply oB hF;intro x e11 hF
   have le11:=ZA e11
   refine ZP h8 z10 e11 ?_
   apply oB hF;intro o'38 ho37 hF
   refine yF (((CC.f195 B hB1 hB2 v4 out i x) out 0 o'38 ho37) _ rfl _ ?_)
   refine kB hF fun o'51 ho50 hF=> ?_
   refine yF (((CC.f196 B hB1 hB2 v4 i) o'38 out.length o'51 ho50) _ rfl _ ?_)
   apply oC hF;intro c52 hF
   have w53:i64.wrap ((i:Int)+1)=(i:Int)+1:=ZD (by omega) (by omega)
   refine kx1 w53 ?_
   refine yC ((ih_f197 o'51 (i+1) o hF) _ rfl _ hq)
  ·have z10:¬((i:Int)<(v4.1.length:Int)):=auz
   cases hF
   refine kx3 h8 q9 z10 ?_
   refine yD hq
theorem C.f198 (w:List yS)(t:Ty)(list:List Clause)(r:(List Step)×Bool)(hF:F.f198 w t list=some r):PureCall zQ B 39 [am yT w,.agg [li t.data,li t.index],am yL list] (.tup [am yP r.1,.lit (.bool r.2)]):=by
 unfold F.f198 at hF
 refine zV func39 rfl ntmps39 ?_
 refine kB hF fun v e1 hF=> ?_
 refine((C.f175 B hB1 hB2 w t list v e1)).goI ?_
 revert hF;refine kN (fun h2 q3 hF=> ?_) (fun h2 q3 hF=> ?_)
 ·cases hF
  exact kc2 h2 q3
 ·refine kB hF fun v4 e5 hF=> ?_
  refine((C.f185 B hB1 hB2 list v4 e5)).goI ?_
  revert hF;refine kN (fun h6 q7 hF=> ?_) (fun h6 q7 hF=> ?_)
  ·cases hF
   exact kc2 h6 q7
  ·refine kB hF fun o'55 ho54 hF=> ?_
   refine yE ⟨[(10,.ptr 1 0),(32,.arr (zA (cL zM) v4.1)),(33,.lit (.int .i64 (v4.1.length:Int))),(34,.lit (.int .i64 0))],[.dead,.cells [.own 2 (zB (α:=Step) [])],.elems 8 (zA yP [])]⟩ (by refine yG (yJ 1 0 8 (by simp -dsimp;rfl) (by simp -dsimp)) ?_;exact(gT (by simp) (by simp_all))) ?_
   refine((CC.f197 B hB1 hB2 v4) [] 0 o'55 ho54) _ rfl _ ?_
   apply oC hF;intro c56 hF
   cases hF
   exact kc0
theorem CC.f199 (w:List yS)(holes:Bool):(∀(t:Ty) (v:Vl.Value) (deep:Int) (count:Int) (r:Bool×Int),F.f199 w t v deep holes count=some r->MutCall zQ B 81 [li count] [am yT w,.agg [li t.data,li t.index],.agg [li v.ctor,li v.n,am Vl.Value.c v.kids],li deep,.lit (.bool holes),.ptr 0 0] (.lit (.bool r.1)) [li r.2])/\
  (∀(v:Vl.Value) (deep:Int) (v60:List Ty) (z65:Int) (i66:Nat) (o:Lo (Bool×Int) Int),F.f201 w v deep holes v60 z65 i66=some o->∀(c:Code),ZQ [1,1,1,1,1,1,0,1,0,0] (ZG Tryz.f81)=some c->∀(Q:Exit->ASt->Prop),o.post (fun r=>∀st,ZAB zQ Tryz.f81 (fun r' σ'=>r'.le (.lit (.bool r.1))/\ZB3 σ' [li r.2]) .ret st->Q .ret st) (fun s=>Q (.exit 1) ⟨[],[.cells [li s]]⟩)->ALoopU zQ B 1 108 (hold c .mk) ⟨[(0,am yT w),(3,li deep),(4,.lit (.bool holes)),(5,.ptr 0 0),(13,am yZ v60),(88,am Vl.Value.c v.kids),(89,li (v.kids.length:Int)),(90,li (i66:Int))],[.cells [li z65]]⟩ (hold Q .mk))/\
  (∀(v:Vl.Value) (deep:Int) (v27:List Ty) (z:Int) (i:Nat) (o:Lo (Bool×Int) Int),F.f200 w v deep holes v27 z i=some o->∀(c:Code),ZQ [1,1,1,1,1,1,0,1,0,0] (ZG Tryz.f81)=some c->∀(Q:Exit->ASt->Prop),o.post (fun r=>∀st,ZAB zQ Tryz.f81 (fun r' σ'=>r'.le (.lit (.bool r.1))/\ZB3 σ' [li r.2]) .ret st->Q .ret st) (fun s=>Q (.exit 1) ⟨[],[.cells [li s]]⟩)->ALoopU zQ B 1 108 (hold c .mk) ⟨[(0,am yT w),(3,li deep),(4,.lit (.bool holes)),(5,.ptr 0 0),(13,am yZ v27),(88,am Vl.Value.c v.kids),(89,li (v.kids.length:Int)),(90,li (i:Int))],[.cells [li z]]⟩ (hold Q .mk)):=by
 refine F.f199.mutual_partial_correctness w holes
  _ _ _
  ?_ ?_ ?_
 ·intro _f_f201 _f_f200 ih_f201 ih_f200 t v deep count r hF
  refine MutCall.inn func81 rfl ntmps81 ?_
  revert hF;refine kN ?_ ?_<;>intro h1 q2 hF
  ·refine kx2 h1 q2 ?_
   revert hF;refine aS ?_ ?_<;>intro h3 q4 hF
   ·cases hF
    exact kc3 h1 q2 h3
   ·refine kx4 h1 q2 h3 q4 ?_
    revert hF;refine aS (fun h5 q6 hF=> ?_) (fun h5 q6 hF=> ?_)
    ·refine kx5 h1 q2 h3 q4 h5 ?_
     revert hF;refine aS ?_ ?_<;>intro h7 q8 hF
     ·refine kx6 h1 q2 h3 q4 h5 h7 ?_
      revert hF;refine aS ?_ ?_<;>intro h9 q10 hF
      ·cases hF
       exact kc7 h1 q2 h3 q4 h5 h7 h9
      ·cases hF
       exact kc8 h1 q2 h3 q4 h5 h7 h9 q10
     ·refine kx7 h1 q2 h3 q4 h5 h7 q8 ?_
      revert hF;refine aS ?_ ?_<;>intro h11 q12 hF
      ·refine kx8 h1 q2 h3 q4 h5 h7 q8 h11 ?_
       revert hF;refine aS ?_ ?_<;>intro h13 q14 hF
       ·refine kx9 h1 q2 h3 q4 h5 h7 q8 h11 h13 ?_
        apply oB hF;intro v15 e16 hF
        refine((C.f128 B hB1 hB2 v.n 0 9 v15 e16)).goI ?_
        refine kx9 h1 q2 h3 q4 h5 h7 q8 h11 h13 ?_
        revert hF;refine aS (fun h17 q18 hF=> ?_) (fun h17 q18 hF=> ?_)
        ·cases hF
         repeat first|refine cg ?_|simp -dsimp[h1,q2,h3,q4,h5,h7,q8,h11,h13,h17]
        ·cases hF
         repeat first|refine cg ?_|simp -dsimp[h1,q2,h3,q4,h5,h7,q8,h11,h13,h17,q18]
       ·cases hF
        repeat first|refine cg ?_|simp -dsimp[h1,q2,h3,q4,h5,h7,q8,h11,h13,q14]
      ·refine kx9 h1 q2 h3 q4 h5 h7 q8 h11 q12 ?_
       refine zX follows ?_
       refine kx9 h1 q2 h3 q4 h5 h7 q8 h11 q12 ?_
       revert hF;refine aS ?_ ?_<;>intro h19 q20 hF
       ·repeat first|refine cg ?_|simp -dsimp[h1,q2,h3,q4,h5,h7,q8,h11,q12,h19]
        apply oB hF;intro v21 e22 hF
        refine((C.f145 B hB1 hB2 w t v21 e22)).pgoW (by simp[h1,q2,h3,q4,h5,h7,q8,h11,q12,h19]) (by simp) ?_
        repeat first|refine cg ?_|simp -dsimp[h1,q2,h3,q4,h5,h7,q8,h11,q12,h19]
        apply oB hF;intro v23 e24 hF
        refine((C.f148 B hB1 hB2 v21 v.ctor v23 e24)).pgoW (by simp[h1,q2,h3,q4,h5,h7,q8,h11,q12,h19]) (by simp) ?_
        repeat first|refine cg ?_|simp -dsimp[h1,q2,h3,q4,h5,h7,q8,h11,q12,h19]
        revert hF;refine aN (fun h25 q26 hF=> ?_) (fun h25 q26 hF=> ?_)
        ·cases hF
         repeat first|refine cg ?_|simp -dsimp[h1,q2,h3,q4,h5,h7,q8,h11,q12,h19,h25,q26]
        ·repeat first|refine cg ?_|simp -dsimp[h1,q2,h3,q4,h5,h7,q8,h11,q12,h19,h25,q26]
         apply oB hF;intro v27 e28 hF
         refine((C.f151 B hB1 hB2 w t v.ctor v27 e28)).goI ?_
         repeat first|refine cg ?_|simp -dsimp[h1,q2,h3,q4,h5,h7,q8,h11,q12,h19,h25,q26]
         revert hF;refine aN ?_ ?_<;>intro h29 q30 hF
         ·have z31:¬((v27.length:Int)=(v.kids.length:Int)):=auz
          cases hF
          repeat first|refine cg ?_|simp -dsimp[h1,q2,h3,q4,h5,h7,q8,h11,q12,h19,h25,q26,h29,q30,z31]
         ·have z31:((v27.length:Int)=(v.kids.length:Int)):=auz
          repeat first|refine cg ?_|simp -dsimp[h1,q2,h3,q4,h5,h7,q8,h11,q12,h19,h25,q26,h29,q30,z31]
          apply oB hF;intro o' ho43 hF
          refine yF ((ih_f200 v deep v27 (i64.wrap (count+1)) 0 o' ho43) _ rfl _ ?_)
          rcases o' with r0|sx
          ·dsimp only at hF
           cases hF
           intro st h
           simpa using h
          ·dsimp only at hF
           cases hF
           exact kc0
       ·cases hF
        repeat first|refine cg ?_|simp -dsimp[h1,q2,h3,q4,h5,h7,q8,h11,q12,h19,q20]
    ·refine kx6 h1 q2 h3 q4 h5 q6 ?_
     revert hF;refine aS ?_ ?_<;>intro h44 q45 hF
     ·refine kx7 h1 q2 h3 q4 h5 q6 h44 ?_
      revert hF;refine aS ?_ ?_<;>intro h46 q47 hF
      ·refine kx8 h1 q2 h3 q4 h5 q6 h44 h46 ?_
       apply oB hF;intro v48 e49 hF
       refine((C.f128 B hB1 hB2 v.n 0 9 v48 e49)).goI ?_
       refine kx8 h1 q2 h3 q4 h5 q6 h44 h46 ?_
       revert hF;refine aS (fun h50 q51 hF=> ?_) (fun h50 q51 hF=> ?_)
       ·cases hF
        exact kc9 h1 q2 h3 q4 h5 q6 h44 h46 h50
       ·cases hF
        repeat first|refine cg ?_|simp -dsimp[h1,q2,h3,q4,h5,q6,h44,h46,h50,q51]
      ·cases hF
       exact kc9 h1 q2 h3 q4 h5 q6 h44 h46 q47
     ·refine kx8 h1 q2 h3 q4 h5 q6 h44 q45 ?_
      refine zX follows ?_
      refine kx8 h1 q2 h3 q4 h5 q6 h44 q45 ?_
      revert hF;refine aS ?_ ?_<;>intro h52 q53 hF
      ·refine kx9 h1 q2 h3 q4 h5 q6 h44 q45 h52 ?_
       apply oB hF;intro v54 e55 hF
       refine((C.f145 B hB1 hB2 w t v54 e55)).pgoW (by simp[h1,q2,h3,q4,h5,q6,h44,q45,h52]) (by simp) ?_
       refine kx9 h1 q2 h3 q4 h5 q6 h44 q45 h52 ?_
       apply oB hF;intro v56 e57 hF
       refine((C.f148 B hB1 hB2 v54 v.ctor v56 e57)).pgoW (by simp[h1,q2,h3,q4,h5,q6,h44,q45,h52]) (by simp) ?_
       refine kx9 h1 q2 h3 q4 h5 q6 h44 q45 h52 ?_
       revert hF;refine aN (fun h58 q59 hF=> ?_) (fun h58 q59 hF=> ?_)
       ·cases hF
        repeat first|refine cg ?_|simp -dsimp[h1,q2,h3,q4,h5,q6,h44,q45,h52,h58,q59]
       ·repeat first|refine cg ?_|simp -dsimp[h1,q2,h3,q4,h5,q6,h44,q45,h52,h58,q59]
        apply oB hF;intro v60 e61 hF
        refine((C.f151 B hB1 hB2 w t v.ctor v60 e61)).goI ?_
        repeat first|refine cg ?_|simp -dsimp[h1,q2,h3,q4,h5,q6,h44,q45,h52,h58,q59]
        revert hF;refine aN ?_ ?_<;>intro h62 q63 hF
        ·have z64:¬((v60.length:Int)=(v.kids.length:Int)):=auz
         cases hF
         repeat first|refine cg ?_|simp -dsimp[h1,q2,h3,q4,h5,q6,h44,q45,h52,h58,q59,h62,q63,z64]
        ·have z64:((v60.length:Int)=(v.kids.length:Int)):=auz
         repeat first|refine cg ?_|simp -dsimp[h1,q2,h3,q4,h5,q6,h44,q45,h52,h58,q59,h62,q63,z64]
         apply oB hF;intro o'80 ho79 hF
         refine yF ((ih_f201 v deep v60 (i64.wrap (count+1)) 0 o'80 ho79) _ rfl _ ?_)
         rcases o'80 with r082|sx81
         ·dsimp only at hF
          cases hF
          intro st h
          simpa using h
         ·dsimp only at hF
          cases hF
          exact kc0
      ·cases hF
       repeat first|refine cg ?_|simp -dsimp[h1,q2,h3,q4,h5,q6,h44,q45,h52,q53]
  ·cases hF
   exact kc2 h1 q2
 ·intro _f_f199 _f_f201 ih_f199 ih_f201 v deep v60 z65 i66 o hF
  refine ZI rfl fun Q hq hk hs=> ?_
  have b0:=hk 0
  simp -dsimp at b0
  have b13:=hk 13
  simp -dsimp at b13
  have b88:=hk 88
  simp -dsimp at b88
  clear hk hs
  refine eN ?_
  revert hF;refine kS ?_ ?_<;>intro h67 q68 hF
  ·have z69:((i66:Int)<(v.kids.length:Int)):=auz
   apply oB hF;intro x70 e71 hF
   have le71:=ZA e71
   refine ZP h67 z69 e71 ?_
   refine zY [81] [(0,0),(0,0),(0,0),(0,0),(0,0),(0,0),(0,0),(0,0),(0,0),(0,0),(0,1),(1,1)] [1,1,1,1,1,1,1,1,1,1,1,1] follows ?_
   apply oB hF;intro x72 e73 hF
   have le73:=ZA e73
   refine ZAu h67 z69 e71 e73 ?_
   apply oB hF;intro v74 e75 hF
   refine((ih_f199 x72 x70 (i64.wrap (deep+1)) z65 v74 e75)).ego 0 rfl (by simp[h67,z69,↓e71,↓e73]) (by simp) (by simp[h67,z69,↓e71,↓e73]) ?_
   refine ZAu h67 z69 e71 e73 ?_
   revert hF;refine aN (fun h76 q77 hF=> ?_) (fun h76 q77 hF=> ?_)
   ·cases hF
    refine ZAT h67 z69 e71 e73 h76 q77 ?_
    refine lG _ (gR _) (hq _ ?_)
    repeat first|refine cg ?_|simp -dsimp[h67,z69,↓e71,↓e73,h76,q77]
   ·have w78:i64.wrap ((i66:Int)+1)=(i66:Int)+1:=ZD (by omega) (by omega)
    repeat first|refine cg ?_|simp -dsimp[h67,z69,↓e71,↓e73,h76,q77,w78]
    refine yC ((ih_f201 v deep v60 v74.2 (i66+1) o hF) _ rfl _ hq)
  ·have z69:¬((i66:Int)<(v.kids.length:Int)):=auz
   cases hF
   refine kx3 h67 q68 z69 ?_
   refine yD hq
 ·intro _f_f199 _f_f200 ih_f199 ih_f200 v deep v27 z i o hF
  refine ZI rfl fun Q hq hk hs=> ?_
  have b0:=hk 0
  simp -dsimp at b0
  have b13:=hk 13
  simp -dsimp at b13
  have b88:=hk 88
  simp -dsimp at b88
  clear hk hs
  refine eN ?_
  revert hF;refine kS ?_ ?_<;>intro h32 q33 hF
  ·have z34:((i:Int)<(v.kids.length:Int)):=auz
   apply oB hF;intro x e35 hF
   have le35:=ZA e35
   refine ZP h32 z34 e35 ?_
   refine zY [81] [(0,0),(0,0),(0,0),(0,0),(0,0),(0,0),(0,0),(0,0),(0,0),(0,0),(0,1),(1,1)] [1,1,1,1,1,1,1,1,1,1,1,1] follows ?_
   apply oB hF;intro x36 e37 hF
   have le37:=ZA e37
   refine ZAu h32 z34 e35 e37 ?_
   apply oB hF;intro v38 e39 hF
   refine((ih_f199 x36 x (i64.wrap (deep+1)) z v38 e39)).ego 0 rfl (by simp[h32,z34,↓e35,↓e37]) (by simp) (by simp[h32,z34,↓e35,↓e37]) ?_
   refine ZAu h32 z34 e35 e37 ?_
   revert hF;refine aN (fun h40 q41 hF=> ?_) (fun h40 q41 hF=> ?_)
   ·cases hF
    refine ZAT h32 z34 e35 e37 h40 q41 ?_
    refine lG _ (gR _) (hq _ ?_)
    repeat first|refine cg ?_|simp -dsimp[h32,z34,↓e35,↓e37,h40,q41]
   ·have w42:i64.wrap ((i:Int)+1)=(i:Int)+1:=ZD (by omega) (by omega)
    repeat first|refine cg ?_|simp -dsimp[h32,z34,↓e35,↓e37,h40,q41,w42]
    refine yC ((ih_f200 v deep v27 v38.2 (i+1) o hF) _ rfl _ hq)
  ·have z34:¬((i:Int)<(v.kids.length:Int)):=auz
   cases hF
   refine kx3 h32 q33 z34 ?_
   refine yD hq
theorem C.f202 (w:List yS)(t:Ty)(v:Vl.Value)(r:Bool)(hF:F.f202 w t v=some r):PureCall zQ B 40 [am yT w,.agg [li t.data,li t.index],.agg [li v.ctor,li v.n,am Vl.Value.c v.kids]] (.lit (.bool r)):=by
 unfold F.f202 at hF
 refine zV func40 rfl ntmps40 ?_
 refine kB hF fun v1 e2 hF=> ?_
 refine(((CC.f199 B hB1 hB2 w false).1 t v 1 0 v1 e2)).go 2 rfl (by simp) (by simp) (by simp) ?_
 cases hF
 exact kc0
theorem CC.f203 (s1:List Int)(s2:List Int):(∀(i:Nat) (o:Lo Bool Unit),F.f203 s1 s2 i=some o->∀(c:Code),ZQ [1,1,0,1,0,0] (ZG Tryz.f88)=some c->∀(Q:Exit->ASt->Prop),o.post (fun r=>∀st,ZAB zQ Tryz.f88 (fun r' _=>r'.le (.lit (.bool r))) .ret st->Q .ret st) (fun s=>Q (.exit 0) ⟨[],[]⟩)->ALoopU zQ B 0 26 (hold c .mk) ⟨[(0,am cI s1),(1,am cI s2),(12,li (s1.length:Int)),(13,li (i:Int))],[]⟩ (hold Q .mk)):=by
 refine F.f203.partial_correctness s1 s2
  _
  ?_
 ·intro _f_f203 ih_f203 i o hF
  refine ZI rfl fun Q hq hk hs=> ?_
  have b0:=hk 0
  simp -dsimp at b0
  have b1:=hk 1
  simp -dsimp at b1
  clear hk hs
  refine eN ?_
  revert hF;refine kS ?_ ?_<;>intro h4 q5 hF
  ·have z6:((i:Int)<(s1.length:Int)):=auz
   refine kx2 h4 z6 ?_
   refine zX follows ?_
   apply oB hF;intro x e7 hF
   have le7:=ZA e7
   apply oB hF;intro x8 e9 hF
   have le9:=ZA e9
   refine ZEP e7 e9 ?_
   revert hF;refine aN ?_ ?_<;>intro h10 q11 hF
   ·cases hF
    refine kx2 h10 q11 ?_
    refine lG _ (gR _) (hq _ ?_)
    exact kc0
   ·have w12:i64.wrap ((i:Int)+1)=(i:Int)+1:=ZD (by omega) (by omega)
    refine kx1 w12 ?_
    refine yC ((ih_f203 (i+1) o hF) _ rfl _ hq)
  ·have z6:¬((i:Int)<(s1.length:Int)):=auz
   cases hF
   refine kx3 h4 q5 z6 ?_
   refine yD hq
theorem C.f204 (s1:List Int)(s2:List Int)(r:Bool)(hF:F.f204 s1 s2=some r):PureCall zQ B 88 [am cI s1,am cI s2] (.lit (.bool r)):=by
 unfold F.f204 at hF
 refine zV func88 rfl ntmps88 ?_
 revert hF;refine kN ?_ ?_<;>intro h1 q2 hF
 ·have z3:¬((s1.length:Int)=(s2.length:Int)):=auz
  cases hF
  exact kc3 h1 q2 z3
 ·have z3:((s1.length:Int)=(s2.length:Int)):=auz
  refine kB hF fun o' ho13 hF=> ?_
  refine yF (((CC.f203 B hB1 hB2 s1 s2) 0 o' ho13) _ rfl _ ?_)
  rcases o' with r0|sx
  ·dsimp only at hF
   cases hF
   intro st h
   simpa using h
  ·dsimp only at hF
   cases hF
   exact kc0
theorem C.f205 (p:List Int)(a1:List Int)(r:Bool)(hF:F.f205 p a1=some r):PureCall zQ B 87 [am cI p,.rptr [am cI a1] 0] (.lit (.bool r)):=by
 unfold F.f205 at hF
 refine zV func87 rfl ntmps87 ?_
 refine kB hF fun v e1 hF=> ?_
 refine((C.f204 B hB1 hB2 p a1 v e1)).goI ?_
 cases hF
 exact kc0
theorem CC.f206 (s:List (List Int))(k0:List Int):(∀(i:Nat) (o:Lo Int Unit),F.f206 s k0 i=some o->∀(c:Code),ZQ [1,0,1,0,0] (ZG Tryz.f131)=some c->∀(Q:Exit->ASt->Prop),o.post (fun r=>∀st,ZAB zQ Tryz.f131 (fun r' _=>r'.le (li r)) .ret st->Q .ret st) (fun s=>Q (.exit 0) ⟨[],[]⟩)->ALoopU zQ B 0 19 (hold c .mk) ⟨[(0,am (cL cI) s),(1,.fn (.func 87) [] [.rptr [am cI k0] 0]),(7,li (s.length:Int)),(8,li (i:Int))],[]⟩ (hold Q .mk)):=by
 refine F.f206.partial_correctness s k0
  _
  ?_
 ·intro _f_f206 ih_f206 i o hF
  refine ZI rfl fun Q hq hk hs=> ?_
  have b0:=hk 0
  simp -dsimp at b0
  clear hk hs
  refine eN ?_
  revert hF;refine kS ?_ ?_<;>intro h1 q2 hF
  ·have z3:((i:Int)<(s.length:Int)):=auz
   apply oB hF;intro x e4 hF
   have le4:=ZA e4
   refine ZP h1 z3 e4 ?_
   apply oB hF;intro v e5 hF
   refine((C.f205 B hB1 hB2 x k0 v e5)).goI ?_
   revert hF;refine kS (fun h6 q7 hF=> ?_) (fun h6 q7 hF=> ?_)
   ·cases hF
    refine kx1 h6 ?_
    refine lG _ (gR _) (hq _ ?_)
    exact kc0
   ·have w8:i64.wrap ((i:Int)+1)=(i:Int)+1:=ZD (by omega) (by omega)
    refine kx2 q7 w8 ?_
    refine yC ((ih_f206 (i+1) o hF) _ rfl _ hq)
  ·have z3:¬((i:Int)<(s.length:Int)):=auz
   cases hF
   refine kx3 h1 q2 z3 ?_
   refine yD hq
theorem C.f207 (s:List (List Int))(k0:List Int)(r:Int)(hF:F.f207 s k0=some r):PureCall zQ B 131 [am (cL cI) s,.fn (.func 87) [] [.rptr [am cI k0] 0]] (li r):=by
 unfold F.f207 at hF
 refine zV func131 rfl ntmps131 ?_
 refine kB hF fun o' ho9 hF=> ?_
 refine yF (((CC.f206 B hB1 hB2 s k0) 0 o' ho9) _ rfl _ ?_)
 rcases o' with r0|sx
 ·dsimp only at hF
  cases hF
  intro st h
  simpa using h
 ·dsimp only at hF
  cases hF
  exact kc0
theorem C.f208 (s:List (List Int))(k0:List Int)(r:Bool)(hF:F.f208 s k0=some r):PureCall zQ B 86 [am (cL cI) s,.fn (.func 87) [] [.rptr [am cI k0] 0]] (.lit (.bool r)):=by
 unfold F.f208 at hF
 refine zV func86 rfl ntmps86 ?_
 refine kB hF fun v e1 hF=> ?_
 refine((C.f207 B hB1 hB2 s k0 v e1)).goI ?_
 cases hF
 exact kc0
theorem C.impl_addPath__h (list:List (List Int))(path:List Int)(r:List (List Int))(hF:F.f209 list path=some r):∀(R:List (List AV)),∀(U:List Go.Value),RW 1 (zB (α:=List Int) list) R U->DCall zQ B 43 [.elems 1 R,.pack (List.flatten (zA (cL cI) list)) U] [.own 0 (zB (α:=List Int) list),am cI path] 2 (fun r' τ'=>r'=(.own 0 (zB (α:=List Int) r))/\∃(Rq0:List (List AV)) (Uq0:List Go.Value),RW 1 (zB (α:=List Int) r) Rq0 Uq0/\τ'=[.elems 1 Rq0,.pack (List.flatten (zA (cL cI) r)) Uq0]):=by
 unfold F.f209 at hF
 intro R U H1
 refine DCall.enter func43 (by kernel_rfl) rfl ntmps43 (by simp) rfl (by simp[RW.closed H1]) (by simp) (by rintro _ _ ⟨rfl,Rq0,Uq0,Hq0,rfl⟩;exact⟨by simp,by simp[RW.closed Hq0],rfl,by simp[ZAZ,RW.purss Hq0]⟩) (by simp) (yG (yI .nil) Gh.keep) ?_
 repeat first|refine cg ?_|simp -dsimp[RW.len H1,RW.closed H1]
 apply oB hF;intro v e2 hF
 refine((C.f208 B hB1 hB2 list path v e2)).lendD (.cons (.deep 0 1 _ 1 (by exact rfl) (by exact rfl) rfl H1.2.2 H1.1 (by simp) (by simp)) (.cons (.fn _ .nil (.cons (.ptr 4 0 (by exact rfl) (.cons (.of (by simp)) .nil)) .nil)) .nil)) (by simp -dsimp) ?_
 repeat first|refine cg ?_|simp -dsimp[RW.len H1,RW.closed H1]
 revert hF;refine aS (fun h3 q4 hF=> ?_) (fun h3 q4 hF=> ?_)
 ·cases hF
  repeat first|refine cg ?_|simp -dsimp[RW.len H1,RW.closed H1,h3]
  refine LeaveD.go _ (gR _) ?_
  repeat first|refine cg ?_|simp -dsimp[RW.len H1,RW.closed H1,h3]
  exact LeaveD.fin ⟨rfl,_,_,H1,rfl⟩ (by first|rfl|simp) (by simp)
 ·repeat first|refine cg ?_|simp -dsimp[RW.len H1,RW.closed H1,h3,q4]
  apply oB hF;intro v5 e6 hF
  refine((C.f186 B hB1 hB2 path v5 e6)).go (pl [5]) (by simp) (by simp) (by intro i j hi;simp at hi) (by intro i hi hi';simp at hi hi';first|omega|(subst hi';simp[pl])) (by simp[RW.len H1,RW.closed H1,h3,q4]) (by simp[RW.len H1,RW.closed H1,h3,q4]) ?_
  apply oC hF;intro c7 hF
  cases hF
  repeat first|refine cg ?_|simp -dsimp[RW.len H1,RW.closed H1,h3,q4]
  refine LeaveD.sealE 0 0 5 (R:=R) (by exact rfl) rfl (by exact rfl) (ZN3 _) (by simp) (by simp) (by decide) (fun u8 o_u8=> ?_)
  refine LeaveD.go _ (Gh.absorb 1 [7] (by exact rfl) (.pk 7 (by exact rfl) .nil) (by decide)) ?_
  repeat first|refine cg ?_|simp -dsimp[RW.len H1,RW.closed H1,h3,q4]
  exact LeaveD.fin ⟨rfl,_,_,((RW.snoc H1 [u8] rfl).cong (by simp) rfl rfl),rfl⟩ (by first|rfl|simp) (by simp)
theorem C.f210 (b:PathBind)(a1:Int)(r:Bool)(hF:F.f210 b a1=some r):PureCall zQ B 96 [.agg [li b.var,am cI b.path],.rptr [li a1] 0] (.lit (.bool r)):=by
 unfold F.f210 at hF
 refine pE func96 (by kernel_rfl) rfl ntmps96 (by simp) (by simp) ?_
 cases hF
 repeat first|refine cg ?_|simp -dsimp
 all_goals(try first|omega|rfl)
theorem CC.f211 (s:List PathBind)(k0:Int):(∀(i:Nat) (o:Lo Int Unit),F.f211 s k0 i=some o->∀(c:Code),ZQ [1,0,1,0,0] (ZG Tryz.f95)=some c->∀(Q:Exit->ASt->Prop),o.post (fun r=>∀st,ZAB zQ Tryz.f95 (fun r' _=>r'.le (li r)) .ret st->Q .ret st) (fun s=>Q (.exit 0) ⟨[],[]⟩)->ALoopU zQ B 0 19 (hold c .mk) ⟨[(0,am yQ s),(1,.fn (.func 96) [] [.rptr [li k0] 0]),(7,li (s.length:Int)),(8,li (i:Int))],[]⟩ (hold Q .mk)):=by
 refine F.f211.partial_correctness s k0
  _
  ?_
 ·intro _f_f211 ih_f211 i o hF
  intro c hc Q hq
  obtain rfl:c=_:=ZAI hc rfl
  refine xC fun hk hs=> ?_
  have b0:=hk 0
  simp -dsimp at b0
  clear hk hs
  refine eN ?_
  revert hF;refine kS ?_ ?_<;>intro h1 q2 hF
  ·have z3:((i:Int)<(s.length:Int)):=auz
   apply oB hF;intro x e4 hF
   have le4:=ZA e4
   refine ZP h1 z3 e4 ?_
   apply oB hF;intro v e5 hF
   refine((C.f210 B hB1 hB2 x k0 v e5)).goW (by first|simp[h1,z3,↓e4];done|simp_all) (by simp) ?_
   refine ZP h1 z3 e4 ?_
   revert hF;refine aS (fun h6 q7 hF=> ?_) (fun h6 q7 hF=> ?_)
   ·cases hF
    repeat first|refine cg ?_|simp -dsimp[h1,z3,↓e4,h6]
    refine lG _ (gR _) (hq _ ?_)
    repeat first|refine cg ?_|simp -dsimp[h1,z3,↓e4,h6]
   ·have w8:i64.wrap ((i:Int)+1)=(i:Int)+1:=ZD (by omega) (by omega)
    repeat first|refine cg ?_|simp -dsimp[h1,z3,↓e4,h6,q7,w8]
    refine aG _ ?_ ((ih_f211 (i+1) o hF) _ rfl _ hq)
    exact(gT (by simp) (by first|simp -dsimp[h1,z3,↓e4,h6,q7,w8];done|simp_all))
  ·have z3:¬((i:Int)<(s.length:Int)):=auz
   cases hF
   refine kx3 h1 q2 z3 ?_
   refine lG _ (gT (by simp) (by first|simp -dsimp[h1,q2,z3];done|simp_all)) hq
theorem C.f212 (s:List PathBind)(k0:Int)(r:Int)(hF:F.f212 s k0=some r):PureCall zQ B 95 [am yQ s,.fn (.func 96) [] [.rptr [li k0] 0]] (li r):=by
 unfold F.f212 at hF
 refine pE func95 (by kernel_rfl) rfl ntmps95 (by simp) (by simp) ?_
 refine kB hF fun o' ho9 hF=> ?_
 refine yE _ ?_ (((CC.f211 B hB1 hB2 s k0) 0 o' ho9) _ rfl _ ?_)
 ·exact(gT (by simp) (by simp -dsimp))
 rcases o' with r0|sx
 ·dsimp only at hF
  cases hF
  intro st h
  simpa using h
 ·dsimp only at hF
  cases hF
  repeat first|refine cg ?_|simp -dsimp
  all_goals(try first|omega|rfl)
theorem C.f213 (list:List PathBind)(v:Int)(r:List Int)(hF:F.f213 list v=some r):PureCall zQ B 60 [am yQ list,li v] (am cI r):=by
 unfold F.f213 at hF
 refine pE func60 (by kernel_rfl) rfl ntmps60 (by simp) (by simp) ?_
 refine kB hF fun v1 e2 hF=> ?_
 refine((C.f212 B hB1 hB2 list v v1 e2)).lend (by simp -dsimp) (by simp -dsimp) ?_
 apply oB hF;intro x e3a hF
 have e3a:=ZV e3a;obtain⟨ne3,e3⟩:=e3a
 have le3:=ZA e3
 cases hF
 repeat first|refine cg ?_|simp -dsimp[↓e3]
 all_goals(try first|omega|rfl)
theorem C.impl_ForcedFirst_1__h (s:Step)(a1:List (List Int))(a2:List Clause)(r:List (List Int))(hF:F.f214 s a1 a2=some r):∀(R:List (List AV)),∀(U:List Go.Value),RW 1 (zB (α:=List Int) a1) R U->DCall zQ B 59 [.cells [.own 1 (zB (α:=List Int) a1)],.elems 1 R,.pack (List.flatten (zA (cL cI) a1)) U,.cells [am yL a2]] [.agg [li s.op,am cI s.path,li s.ctor,li s.n,li s.m,li s.clause,am yQ s.binds,li s.to],.ptr 0 0,.ptr 3 0] 4 (fun r' τ'=>r'=(.tup [])/\∃(Rq0:List (List AV)) (Uq0:List Go.Value),RW 1 (zB (α:=List Int) r) Rq0 Uq0/\τ'=[.cells [.own 1 (zB (α:=List Int) r)],.elems 1 Rq0,.pack (List.flatten (zA (cL cI) r)) Uq0,.cells [am yL a2]]):=by
 unfold F.f214 at hF
 intro R U H1
 refine DCall.enter func59 (by kernel_rfl) rfl ntmps59 (by simp) rfl (by simp[RW.closed H1]) (by simp) (by rintro _ _ ⟨rfl,Rq0,Uq0,Hq0,rfl⟩;exact⟨by simp,by simp[RW.closed Hq0],rfl,by simp[ZAZ,RW.purss Hq0]⟩) (by simp) (yI .nil) ?_
 repeat first|refine cg ?_|simp -dsimp[RW.len H1,RW.closed H1]
 revert hF;refine aS ?_ ?_<;>intro h2 q3 hF
 ·repeat first|refine cg ?_|simp -dsimp[RW.len H1,RW.closed H1,h2]
  apply oB hF;intro v e4 hF
  refine((C.impl_addPath__h B hB1 hB2 a1 s.path v e4) R U H1).go (pl [1,2]) (by simp[ZAZ,RW.purss H1]) (Zu _ rfl (by decide)) (by intro i hi hi';simp at hi hi';omega) (by first|simp[RW.len H1,RW.closed H1,h2,RW.len H7,RW.closed H7];done|simp_all) (by first|simp[RW.len H1,RW.closed H1,h2,RW.len H7,RW.closed H7];done|simp_all) ?_
  rintro _ _ ⟨rfl,R5,U6,H7,rfl⟩
  cases hF
  repeat first|refine cg ?_|simp -dsimp[RW.len H1,RW.closed H1,h2,RW.len H7,RW.closed H7]
  refine LeaveD.go _ (gR _) ?_
  repeat first|refine cg ?_|simp -dsimp[RW.len H1,RW.closed H1,h2,RW.len H7,RW.closed H7]
  exact LeaveD.fin ⟨rfl,_,_,H7,rfl⟩ (by first|rfl|simp) (by simp)
 ·apply oB hF;intro x e8a hF
  have e8a:=ZV e8a;obtain⟨ne8,e8⟩:=e8a
  have le8:=ZA e8
  repeat first|refine cg ?_|simp -dsimp[RW.len H1,RW.closed H1,h2,q3,↓e8]
  revert hF;refine aN ?_ ?_<;>intro h9 q10 hF
  ·repeat first|refine cg ?_|simp -dsimp[RW.len H1,RW.closed H1,h2,q3,↓e8,h9,q10]
   refine zZ [43] [(0,0),(0,0),(0,0),(0,0),(0,0),(0,2),(0,2),(0,2)] [1,1,1,1,1,1,1,1] 6 (by decide) follows (by kernel_rfl) (by kernel_rfl) (by kernel_rfl) (by kernel_rfl) (by kernel_rfl) rfl ?_
   repeat first|refine cg ?_|simp -dsimp[RW.len H1,RW.closed H1,h2,q3,↓e8,h9,q10]
   apply oB hF;intro v11 e12 hF
   refine((C.f213 B hB1 hB2 s.binds x.guard.var v11 e12)).pgoW (by first|simp[RW.len H1,RW.closed H1,h2,q3,↓e8,h9,q10];done|simp_all) (by simp) ?_
   repeat first|refine cg ?_|simp -dsimp[RW.len H1,RW.closed H1,h2,q3,↓e8,h9,q10]
   apply oB hF;intro v13 e14 hF
   refine((C.impl_addPath__h B hB1 hB2 a1 v11 v13 e14) R U H1).ngo ⟨_,_,rfl,_,_,RW.any _ _,rfl⟩ (pl [1,2]) (by simp[ZAZ,RW.purss H1]) (Zu _ rfl (by decide)) (by intro i hi hi';simp at hi hi';omega) (by first|simp[RW.len H1,RW.closed H1,h2,q3,↓e8,h9,q10,RW.len H17,RW.closed H17];done|simp_all) (by first|simp[RW.len H1,RW.closed H1,h2,q3,↓e8,h9,q10,RW.len H17,RW.closed H17];done|simp_all) ?_
   rintro _ _ ⟨rfl,R15,U16,H17,rfl⟩
   cases hF
   repeat first|refine cg ?_|simp -dsimp[RW.len H1,RW.closed H1,h2,q3,↓e8,h9,q10,RW.len H17,RW.closed H17]
   refine LeaveD.go _ (gR _) ?_
   repeat first|refine cg ?_|simp -dsimp[RW.len H1,RW.closed H1,h2,q3,↓e8,h9,q10,RW.len H17,RW.closed H17]
   exact LeaveD.fin ⟨rfl,_,_,H17,rfl⟩ (by first|rfl|simp) (by simp)
  ·cases hF
   repeat first|refine cg ?_|simp -dsimp[RW.len H1,RW.closed H1,h2,q3,↓e8,h9,q10]
   refine LeaveD.go _ (gR _) ?_
   repeat first|refine cg ?_|simp -dsimp[RW.len H1,RW.closed H1,h2,q3,↓e8,h9,q10]
   exact LeaveD.fin ⟨rfl,_,_,H1,rfl⟩ (by first|rfl|simp) (by simp)
theorem CC.f215 (path:List Int):(∀(z:Int) (z1:Int) (z2:List Vl.Value) (i:Nat) (o:Int×Int×(List Vl.Value)),F.f215 path z z1 z2 i=some o->∀(c:Code),ZQ [1,0,1,0,0] (ZG Tryz.f83)=some c->∀(Q:Exit->ASt->Prop),(Q (.exit 0) ⟨[(2,.ptr 0 0),(4,.ptr 1 0)],[.cells [li o.1,li o.2.1,am Vl.Value.c o.2.2],.cells [li 0,li 0,.lit (.slice none 0 0)]]⟩)->ALoopU zQ B 0 20 (hold c .mk) ⟨[(2,.ptr 0 0),(4,.ptr 1 0),(7,am cI path),(8,li (path.length:Int)),(9,li (i:Int))],[.cells [li z,li z1,am Vl.Value.c z2],.cells [li 0,li 0,.lit (.slice none 0 0)]]⟩ (hold Q .mk)):=by
 refine F.f215.partial_correctness path
  _
  ?_
 ·intro _f_f215 ih_f215 z z1 z2 i o hF
  refine ZI rfl fun Q hq hk hs=> ?_
  have b7:=hk 7
  simp -dsimp at b7
  have d0:=hs 0 _ rfl
  simp -dsimp[zW]at d0
  clear hk hs
  refine eN ?_
  revert hF;refine kS ?_ ?_<;>intro h3 q4 hF
  ·have z5:((i:Int)<(path.length:Int)):=auz
   apply oB hF;intro x e6 hF
   have le6:=ZA e6
   apply oB hF;intro x7 e8a hF
   have e8a:=ZV e8a;obtain⟨ne8,e8⟩:=e8a
   have le8:=ZA e8
   have w9:i64.wrap ((i:Int)+1)=(i:Int)+1:=ZD (by omega) (by omega)
   repeat first|refine cg ?_|simp -dsimp[h3,z5,↓e6,↓e8,w9]
   refine yC ((ih_f215 x7.ctor x7.n x7.kids (i+1) o hF) _ rfl _ hq)
  ·have z5:¬((i:Int)<(path.length:Int)):=auz
   cases hF
   refine kx3 h3 q4 z5 ?_
   refine yD hq
theorem C.f216 (v:Vl.Value)(path:List Int)(r:Vl.Value)(hF:F.f216 v path=some r):PureCall zQ B 83 [.agg [li v.ctor,li v.n,am Vl.Value.c v.kids],am cI path] (.agg [li r.ctor,li r.n,am Vl.Value.c r.kids]):=by
 unfold F.f216 at hF
 refine zV func83 rfl ntmps83 ?_
 refine kB hF fun o' ho10 hF=> ?_
 refine yF (((CC.f215 B hB1 hB2 path) v.ctor v.n v.kids 0 o' ho10) _ rfl _ ?_)
 cases hF
 exact kc0
theorem C.f217 (ctor:Int)(n:Int)(m:Int)(x:Vl.Value)(r:Bool)(hF:F.f217 ctor n m x=some r):PureCall zQ B 82 [li ctor,li n,li m,.agg [li x.ctor,li x.n,am Vl.Value.c x.kids]] (.lit (.bool r)):=by
 unfold F.f217 at hF
 refine zV func82 rfl ntmps82 ?_
 revert hF;refine kS ?_ ?_<;>intro h1 q2 hF
 ·refine kx1 h1 ?_
  revert hF;refine aS ?_ ?_<;>intro h3 q4 hF
  ·refine kx2 h1 h3 ?_
   apply oB hF;intro v e5 hF
   refine((C.f128 B hB1 hB2 x.n n m v e5)).goI ?_
   cases hF
   exact kc2 h1 h3
  ·cases hF
   exact kc3 h1 h3 q4
 ·cases hF
  exact kc2 h1 q2
theorem CC.f218  :(∀(v:Vl.Value) (r:Vl.Value),F.f218 v=some r->PureCall zQ B 128 [.agg [li v.ctor,li v.n,am Vl.Value.c v.kids]] (.agg [li r.ctor,li r.n,am Vl.Value.c r.kids]))/\
  (∀(v:Vl.Value) (out:List Vl.Value) (i:Nat) (o:List Vl.Value),F.f219 v out i=some o->∀(c:Code),ZQ [1,1,0,1,0,0] (ZG Tryz.f128)=some c->∀(Q:Exit->ASt->Prop),(Q (.exit 0) ⟨[(2,.ptr 1 0),(3,.ptr 2 0)],[.dead,.cells [li 0,li 0,.lit (.slice none 0 0)],.cells [li v.ctor,li v.n,.own 3 (zB (α:=Vl.Value) o)],.elems 3 (zA Vl.Value.c o)]⟩)->ALoopU zQ B 0 27 (hold c .mk) ⟨[(2,.ptr 1 0),(3,.ptr 2 0),(12,am Vl.Value.c v.kids),(13,li (v.kids.length:Int)),(14,li (i:Int))],[.dead,.cells [li 0,li 0,.lit (.slice none 0 0)],.cells [li v.ctor,li v.n,.own 3 (zB (α:=Vl.Value) out)],.elems 3 (zA Vl.Value.c out)]⟩ (hold Q .mk)):=by
 refine F.f218.mutual_partial_correctness 
  _ _
  ?_ ?_
 ·intro _f_f219 ih_f219 v r hF
  refine zV func128 rfl ntmps128 ?_
  refine kB hF fun o' ho9 hF=> ?_
  refine yE ⟨[(2,.ptr 1 0),(3,.ptr 2 0),(12,.arr (zA Vl.Value.c v.kids)),(13,.lit (.int .i64 (v.kids.length:Int))),(14,.lit (.int .i64 0))],[.dead,.cells [.lit (.int .i64 0),.lit (.int .i64 0),.lit (.slice none 0 0)],.cells [.lit (.int .i64 v.ctor),.lit (.int .i64 v.n),.own 3 (zB (α:=Vl.Value) [])],.elems 3 (zA Vl.Value.c [])]⟩ (by refine yG (yJ 2 2 3 (by simp -dsimp;rfl) (by simp -dsimp)) ?_;exact(gT (by simp) (by simp -dsimp))) ?_
  refine(ih_f219 v [] 0 o' ho9) _ rfl _ ?_
  cases hF
  exact kc0
 ·intro _f_f218 _f_f219 ih_f218 ih_f219 v out i o hF
  refine ZI rfl fun Q hq hk hs=> ?_
  have b12:=hk 12
  simp -dsimp at b12
  have d3:=hs 3 _ rfl
  simp -dsimp[zW]at d3
  clear hk hs
  refine eN ?_
  revert hF;refine kS ?_ ?_<;>intro h1 q2 hF
  ·have z3:((i:Int)<(v.kids.length:Int)):=auz
   apply oB hF;intro x e4 hF
   have le4:=ZA e4
   refine ZP h1 z3 e4 ?_
   refine zY [] [(0,1),(0,1),(0,0),(0,3),(0,3),(0,3),(2,2),(0,3)] [0,2,1,1,1,1,1,1] follows ?_
   refine kB hF fun v5 e6 hF=> ?_
   refine((ih_f218 x v5 e6)).pgoW (by simp_all) (by simp) ?_
   apply oC hF;intro c7 hF
   have w8:i64.wrap ((i:Int)+1)=(i:Int)+1:=ZD (by omega) (by omega)
   refine kx1 w8 ?_
   refine yC ((ih_f219 v (out++[v5]) (i+1) o hF) _ rfl _ hq)
  ·have z3:¬((i:Int)<(v.kids.length:Int)):=auz
   cases hF
   refine kx3 h1 q2 z3 ?_
   refine yD hq
theorem CC.f220 (list:List PathBind)(v:Vl.Value):(∀(i:Nat) (out:List Bind) (o:List Bind),F.f220 list v i out=some o->∀(c:Code),ZQ [1,1,0,1,0,0] (ZG Tryz.f84)=some c->∀(Q:Exit->ASt->Prop),(Q (.exit 0) ⟨[(5,.own 1 (zB (α:=Bind) o))],[.dead,.elems 4 (zA xF o)]⟩)->ALoopU zQ B 0 27 (hold c .mk) ⟨[(3,.ptr 0 0),(5,.own 1 (zB (α:=Bind) out)),(8,am yQ list),(9,li (list.length:Int)),(10,li (i:Int))],[.cells [li v.ctor,li v.n,am Vl.Value.c v.kids],.elems 4 (zA xF out)]⟩ (hold Q .mk)):=by
 refine F.f220.partial_correctness list v
  _
  ?_
 ·intro _f_f220 ih_f220 i out o hF
  refine ZI rfl fun Q hq hk hs=> ?_
  have b8:=hk 8
  simp -dsimp at b8
  have d0:=hs 0 _ rfl
  simp -dsimp[zW]at d0
  have d1:=hs 1 _ rfl
  simp -dsimp[zW]at d1
  clear hk hs
  refine eN ?_
  revert hF;refine kS ?_ ?_<;>intro h1 q2 hF
  ·have z3:((i:Int)<(list.length:Int)):=auz
   apply oB hF;intro x e4 hF
   have le4:=ZA e4
   refine ZP h1 z3 e4 ?_
   refine zY [] [(0,1),(0,0),(0,0),(0,0),(0,0),(0,0),(0,2),(0,2),(0,0),(0,2),(0,2),(2,2)] [1,1,1,1,1,1,1,1,1,1,1,1] follows ?_
   refine kB hF fun v5 e6 hF=> ?_
   refine((C.f216 B hB1 hB2 v x.path v5 e6)).pgoW (by simp_all) (by simp) ?_
   refine kB hF fun v7 e8 hF=> ?_
   refine(((CC.f218 B hB1 hB2).1 v5 v7 e8)).pgoW (by simp_all) (by simp) ?_
   apply oC hF;intro c9 hF
   have w10:i64.wrap ((i:Int)+1)=(i:Int)+1:=ZD (by omega) (by omega)
   refine kx1 w10 ?_
   refine yC ((ih_f220 (i+1) (out++[(⟨x.var,v7⟩:Bind)]) o hF) _ rfl _ hq)
  ·have z3:¬((i:Int)<(list.length:Int)):=auz
   cases hF
   refine kx3 h1 q2 z3 ?_
   refine yD hq
theorem C.f221 (list:List PathBind)(v:Vl.Value)(r:List Bind)(hF:F.f221 list v=some r):PureCall zQ B 84 [am yQ list,.agg [li v.ctor,li v.n,am Vl.Value.c v.kids]] (am xF r):=by
 unfold F.f221 at hF
 refine zV func84 rfl ntmps84 ?_
 refine kB hF fun o' ho11 hF=> ?_
 refine yE ⟨[(3,.ptr 0 0),(5,.own 1 (zB (α:=Bind) [])),(8,.arr (zA yQ list)),(9,.lit (.int .i64 (list.length:Int))),(10,.lit (.int .i64 0))],[.cells [.lit (.int .i64 v.ctor),.lit (.int .i64 v.n),.arr (zA Vl.Value.c v.kids)],.elems 4 (zA xF [])]⟩ (by refine yG (yK 5 4 (by simp -dsimp)) ?_;exact(gT (by simp) (by simp -dsimp))) ?_
 refine((CC.f220 B hB1 hB2 list v) 0 [] o' ho11) _ rfl _ ?_
 cases hF
 exact kc0
theorem C.f222 (b:Bind)(a1:Guard)(r:Bool)(hF:F.f222 b a1=some r):PureCall zQ B 130 [.agg [li b.var,li b.value.ctor,li b.value.n,am Vl.Value.c b.value.kids],.rptr [li a1.op,li a1.var,li a1.n] 0] (.lit (.bool r)):=by
 unfold F.f222 at hF
 refine zV func130 rfl ntmps130 ?_
 cases hF
 exact kc0
theorem CC.f223 (s:List Bind)(k0:Guard):(∀(i:Nat) (o:Lo Int Unit),F.f223 s k0 i=some o->∀(c:Code),ZQ [1,0,1,0,0] (ZG Tryz.f129)=some c->∀(Q:Exit->ASt->Prop),o.post (fun r=>∀st,ZAB zQ Tryz.f129 (fun r' _=>r'.le (li r)) .ret st->Q .ret st) (fun s=>Q (.exit 0) ⟨[],[]⟩)->ALoopU zQ B 0 19 (hold c .mk) ⟨[(0,am xF s),(1,.fn (.func 130) [] [.rptr [li k0.op,li k0.var,li k0.n] 0]),(7,li (s.length:Int)),(8,li (i:Int))],[]⟩ (hold Q .mk)):=by
 refine F.f223.partial_correctness s k0
  _
  ?_
 ·intro _f_f223 ih_f223 i o hF
  refine ZI rfl fun Q hq hk hs=> ?_
  have b0:=hk 0
  simp -dsimp at b0
  clear hk hs
  refine eN ?_
  revert hF;refine kS ?_ ?_<;>intro h1 q2 hF
  ·have z3:((i:Int)<(s.length:Int)):=auz
   apply oB hF;intro x e4 hF
   have le4:=ZA e4
   refine ZP h1 z3 e4 ?_
   apply oB hF;intro v e5 hF
   refine((C.f222 B hB1 hB2 x k0 v e5)).goI ?_
   revert hF;refine kS (fun h6 q7 hF=> ?_) (fun h6 q7 hF=> ?_)
   ·cases hF
    refine kx1 h6 ?_
    refine lG _ (gR _) (hq _ ?_)
    exact kc0
   ·have w8:i64.wrap ((i:Int)+1)=(i:Int)+1:=ZD (by omega) (by omega)
    refine kx2 q7 w8 ?_
    refine yC ((ih_f223 (i+1) o hF) _ rfl _ hq)
  ·have z3:¬((i:Int)<(s.length:Int)):=auz
   cases hF
   refine kx3 h1 q2 z3 ?_
   refine yD hq
theorem C.f224 (s:List Bind)(k0:Guard)(r:Int)(hF:F.f224 s k0=some r):PureCall zQ B 129 [am xF s,.fn (.func 130) [] [.rptr [li k0.op,li k0.var,li k0.n] 0]] (li r):=by
 unfold F.f224 at hF
 refine zV func129 rfl ntmps129 ?_
 refine kB hF fun o' ho9 hF=> ?_
 refine yF (((CC.f223 B hB1 hB2 s k0) 0 o' ho9) _ rfl _ ?_)
 rcases o' with r0|sx
 ·dsimp only at hF
  cases hF
  intro st h
  simpa using h
 ·dsimp only at hF
  cases hF
  exact kc0
theorem C.f225 (g:Guard)(binds:List Bind)(r:Bool)(hF:F.f225 g binds=some r):PureCall zQ B 85 [.agg [li g.op,li g.var,li g.n],am xF binds] (.lit (.bool r)):=by
 unfold F.f225 at hF
 refine zV func85 rfl ntmps85 ?_
 revert hF;refine kS ?_ ?_<;>intro h1 q2 hF
 ·cases hF
  exact kc1 h1
 ·refine kx1 q2 ?_
  apply oB hF;intro v e3 hF
  refine((C.f224 B hB1 hB2 binds g v e3)).lend (by simp_all) (by simp -dsimp) ?_
  revert hF;refine kN ?_ ?_<;>intro h4 q5 hF
  ·apply oB hF;intro x e6a hF
   have e6a:=ZV e6a;obtain⟨ne6,e6⟩:=e6a
   have le6:=ZA e6
   refine ZP h4 q5 e6 ?_
   revert hF;refine aN ?_ ?_<;>intro h7 q8 hF
   ·cases hF
    repeat first|refine cg ?_|simp -dsimp[↓e6,h7,q8]
   ·refine kdd e6 ?_
    revert hF;refine aS ?_ ?_<;>intro h9 q10 hF
    ·refine ZMB e6 h9 ?_
     revert hF;refine aN ?_ ?_<;>intro h11 q12 hF
     ·have n13:¬(g.op=2):=by omega
      cases hF
      repeat first|refine cg ?_|simp -dsimp[↓e6,h11,q12,n13]
     ·cases hF
      repeat first|refine cg ?_|simp -dsimp[↓e6,h11,q12]
    ·refine ZMB e6 q10 ?_
     revert hF;refine aS ?_ ?_<;>intro h14 q15 hF
     ·cases hF
      repeat first|refine cg ?_|simp -dsimp[↓e6,h14]
     ·cases hF
      repeat first|refine cg ?_|simp -dsimp[↓e6,q15]
  ·cases hF
   exact kc2 h4 q5
theorem CC.impl_runSteps__impl_ForcedFirst_1__h_l1 (steps':List Step)(list:List Clause)(v:Vl.Value)(k1:List Clause):(∀(out:List (List Int)) (count:Nat) (at':Int) (o:Int×(List Bind)×Int×(List (List Int))),F.f226 steps' list v k1 out count at'=some o->∀(R2:List (List AV)),∀(U3:List Value),RW 1 (zB (α:=List Int) out) R2 U3->∀(c:Code),ZQ [1,1,1,0,0] (ZG Tryz.f41)=some c->∀(Q:Exit->ASt->Prop),(∀st,ZID zQ Tryz.f41 (hold (ZMu (fun r' τ'=>r'=(.tup [li o.1,am xF o.2.1,li o.2.2.1])/\∃(Rq0:List (List AV)) (Uq0:List Go.Value),RW 1 (zB (α:=List Int) o.2.2.2) Rq0 Uq0/\τ'=[.cells [.own 1 (zB (α:=List Int) o.2.2.2)],.elems 1 Rq0,.pack (List.flatten (zA (cL cI) o.2.2.2)) Uq0,.cells [am yL k1]])) .mk) .ret st->Q .ret st)->ALoopU zQ B 4 65 (hold c .mk) ⟨[(0,am yP steps'),(1,am yL list),(3,.fn (.func 59) [] [.ptr 0 0,.ptr 3 0]),(6,.ptr 5 0),(11,li (count:Int)),(12,li at')],[.cells [.own 1 (zB (α:=List Int) out)],.elems 1 R2,.pack (List.flatten (zA (cL cI) out)) U3,.cells [am yL k1],.pack [] [],.cells [li v.ctor,li v.n,am Vl.Value.c v.kids]]⟩ (hold Q .mk)):=by
 refine F.f226.partial_correctness steps' list v k1
  _
  ?_
 ·intro _f_impl_runSteps__impl_ForcedFirst_1__h_l1 ih_impl_runSteps__impl_ForcedFirst_1__h_l1 out count at' o hF
  intro R2 U3 H4 c hc Q hq
  obtain rfl:c=_:=ZAI hc rfl
  refine xC fun hk hs=> ?_
  have b0:=hk 0
  simp -dsimp at b0
  have b1:=hk 1
  simp -dsimp at b1
  have d1:=hs 1 _ rfl
  simp -dsimp[zW]at d1
  have d3:=hs 3 _ rfl
  simp -dsimp[zW]at d3
  have d5:=hs 5 _ rfl
  simp -dsimp[zW]at d5
  clear hk hs
  refine eN ?_
  apply oB hF;intro x e5a hF
  have e5a:=ZV e5a;obtain⟨ne5,e5⟩:=e5a
  have le5:=ZA e5
  repeat first|refine cg ?_|simp -dsimp[RW.len H4,RW.closed H4,↓e5]
  revert hF;refine aS ?_ ?_<;>intro h6 q7 hF
  ·cases hF
   repeat first|refine cg ?_|simp -dsimp[RW.len H4,RW.closed H4,↓e5,h6]
   refine lG _ (gR _) (hq _ ?_)
   repeat first|refine cg ?_|simp -dsimp[RW.len H4,RW.closed H4,↓e5,h6]
   exact LeaveD.fin ⟨rfl,_,_,H4,rfl⟩ (by first|rfl|simp) (by simp)
  ·repeat first|refine cg ?_|simp -dsimp[RW.len H4,RW.closed H4,↓e5,h6,q7]
   apply oB hF;intro v8 e9 hF
   refine((C.impl_ForcedFirst_1__h B hB1 hB2 x out k1 v8 e9) R2 U3 H4).go (pl [0,1,2,3]) (by simp[ZAZ,RW.purss H4]) (Zu _ rfl (by decide)) (by intro i hi hi';simp at hi hi';omega) (by first|simp[RW.len H4,RW.closed H4,↓e5,h6,q7,RW.len H12,RW.closed H12];done|simp_all) (by first|simp[RW.len H4,RW.closed H4,↓e5,h6,q7,RW.len H12,RW.closed H12];done|simp_all) ?_
   rintro _ _ ⟨rfl,R10,U11,H12,rfl⟩
   repeat first|refine cg ?_|simp -dsimp[RW.len H4,RW.closed H4,↓e5,h6,q7,RW.len H12,RW.closed H12]
   revert hF;refine aS ?_ ?_<;>intro h13 q14 hF
   ·apply oC hF;intro c15 hF
    have w16:i64.wrap ((count:Int)+1)=(count:Int)+1:=ZD (by omega) (by omega)
    repeat first|refine cg ?_|simp -dsimp[RW.len H4,RW.closed H4,↓e5,h6,q7,RW.len H12,RW.closed H12,h13,w16]
    refine yA follows (by kernel_rfl) (by kernel_rfl) ?_
    repeat first|refine cg ?_|simp -dsimp[RW.len H4,RW.closed H4,↓e5,h6,q7,RW.len H12,RW.closed H12,h13,w16]
    apply oB hF;intro v17 e18 hF
    refine((C.f216 B hB1 hB2 v x.path v17 e18)).pgoW (by first|simp[RW.len H4,RW.closed H4,↓e5,h6,q7,RW.len H12,RW.closed H12,h13,w16];done|simp_all) (by simp) ?_
    repeat first|refine cg ?_|simp -dsimp[RW.len H4,RW.closed H4,↓e5,h6,q7,RW.len H12,RW.closed H12,h13,w16]
    apply oB hF;intro v19 e20 hF
    refine((C.f217 B hB1 hB2 x.ctor x.n x.m v17 v19 e20)).pgoW (by first|simp[RW.len H4,RW.closed H4,↓e5,h6,q7,RW.len H12,RW.closed H12,h13,w16];done|simp_all) (by simp) ?_
    repeat first|refine cg ?_|simp -dsimp[RW.len H4,RW.closed H4,↓e5,h6,q7,RW.len H12,RW.closed H12,h13,w16]
    revert hF;refine aN (fun h21 q22 hF=> ?_) (fun h21 q22 hF=> ?_)
    ·repeat first|refine cg ?_|simp -dsimp[RW.len H4,RW.closed H4,↓e5,h6,q7,RW.len H12,RW.closed H12,h13,w16,h21,q22]
     refine aG _ ?_ ((ih_impl_runSteps__impl_ForcedFirst_1__h_l1 v8 (count+1) x.to o hF) R10 U11 H12 _ rfl _ hq)
     exact(gT (by simp) (by first|simp -dsimp[RW.len H4,RW.closed H4,↓e5,h6,q7,RW.len H12,RW.closed H12,h13,w16,h21,q22];done|simp_all))
    ·repeat first|refine cg ?_|simp -dsimp[RW.len H4,RW.closed H4,↓e5,h6,q7,RW.len H12,RW.closed H12,h13,w16,h21,q22]
     refine aG _ ?_ ((ih_impl_runSteps__impl_ForcedFirst_1__h_l1 v8 (count+1) (i64.wrap (at'+1)) o hF) R10 U11 H12 _ rfl _ hq)
     exact(gT (by simp) (by first|simp -dsimp[RW.len H4,RW.closed H4,↓e5,h6,q7,RW.len H12,RW.closed H12,h13,w16,h21,q22];done|simp_all))
   ·repeat first|refine cg ?_|simp -dsimp[RW.len H4,RW.closed H4,↓e5,h6,q7,RW.len H12,RW.closed H12,h13,q14]
    apply oB hF;intro v23 e24 hF
    refine((C.f221 B hB1 hB2 x.binds v v23 e24)).goW (by first|simp[RW.len H4,RW.closed H4,↓e5,h6,q7,RW.len H12,RW.closed H12,h13,q14];done|simp_all) (by simp) ?_
    apply oB hF;intro x25 e26a hF
    have e26a:=ZV e26a;obtain⟨ne26,e26⟩:=e26a
    have le26:=ZA e26
    repeat first|refine cg ?_|simp -dsimp[RW.len H4,RW.closed H4,↓e5,h6,q7,RW.len H12,RW.closed H12,h13,q14,↓e26]
    apply oB hF;intro v27 e28 hF
    refine((C.f225 B hB1 hB2 x25.guard v23 v27 e28)).goW (by first|simp[RW.len H4,RW.closed H4,↓e5,h6,q7,RW.len H12,RW.closed H12,h13,q14,↓e26];done|simp_all) (by simp) ?_
    repeat first|refine cg ?_|simp -dsimp[RW.len H4,RW.closed H4,↓e5,h6,q7,RW.len H12,RW.closed H12,h13,q14,↓e26]
    revert hF;refine aS (fun h29 q30 hF=> ?_) (fun h29 q30 hF=> ?_)
    ·cases hF
     repeat first|refine cg ?_|simp -dsimp[RW.len H4,RW.closed H4,↓e5,h6,q7,RW.len H12,RW.closed H12,h13,q14,↓e26,h29]
     refine lG _ (gR _) (hq _ ?_)
     repeat first|refine cg ?_|simp -dsimp[RW.len H4,RW.closed H4,↓e5,h6,q7,RW.len H12,RW.closed H12,h13,q14,↓e26,h29]
     exact LeaveD.fin ⟨rfl,_,_,H12,rfl⟩ (by first|rfl|simp) (by simp)
    ·repeat first|refine cg ?_|simp -dsimp[RW.len H4,RW.closed H4,↓e5,h6,q7,RW.len H12,RW.closed H12,h13,q14,↓e26,h29,q30]
     refine aG _ ?_ ((ih_impl_runSteps__impl_ForcedFirst_1__h_l1 v8 count x.to o hF) R10 U11 H12 _ rfl _ hq)
     exact(gT (by simp) (by first|simp -dsimp[RW.len H4,RW.closed H4,↓e5,h6,q7,RW.len H12,RW.closed H12,h13,q14,↓e26,h29,q30];done|simp_all))
theorem C.impl_runSteps__impl_ForcedFirst_1__h (steps':List Step)(list:List Clause)(v:Vl.Value)(k0:List (List Int))(k1:List Clause)(r:Int×(List Bind)×Int×(List (List Int)))(hF:F.f227 steps' list v k0 k1=some r):∀(R:List (List AV)),∀(U:List Go.Value),RW 1 (zB (α:=List Int) k0) R U->DCall zQ B 41 [.cells [.own 1 (zB (α:=List Int) k0)],.elems 1 R,.pack (List.flatten (zA (cL cI) k0)) U,.cells [am yL k1]] [am yP steps',am yL list,.agg [li v.ctor,li v.n,am Vl.Value.c v.kids],.fn (.func 59) [] [.ptr 0 0,.ptr 3 0]] 4 (fun r' τ'=>r'=(.tup [li r.1,am xF r.2.1,li r.2.2.1])/\∃(Rq0:List (List AV)) (Uq0:List Go.Value),RW 1 (zB (α:=List Int) r.2.2.2) Rq0 Uq0/\τ'=[.cells [.own 1 (zB (α:=List Int) r.2.2.2)],.elems 1 Rq0,.pack (List.flatten (zA (cL cI) r.2.2.2)) Uq0,.cells [am yL k1]]):=by
 unfold F.f227 at hF
 intro R U H1
 refine DCall.enter func41 (by kernel_rfl) rfl ntmps41 (by simp) rfl (by simp[RW.closed H1]) (by simp) (by rintro _ _ ⟨rfl,Rq0,Uq0,Hq0,rfl⟩;exact⟨by simp,by simp[RW.closed Hq0],rfl,by simp[ZAZ,RW.purss Hq0]⟩) (by simp) (yI .nil) ?_
 repeat first|refine cg ?_|simp -dsimp[RW.len H1,RW.closed H1]
 apply oB hF;intro o' ho31 hF
 refine yE _ ?_ (((CC.impl_runSteps__impl_ForcedFirst_1__h_l1 B hB1 hB2 steps' list v k1) k0 0 0 o' ho31) R U H1 _ rfl _ ?_)
 ·exact(gT (by simp) (by first|simp -dsimp[RW.len H1,RW.closed H1];done|simp_all))
 cases hF
 intro st h
 simp -dsimp
 exact LeaveD.go st (gR _) h
theorem C.impl_ForcedFirst__f (w:List yS)(t:Ty)(list:List Clause)(v:Vl.Value)(r:List (List Int))(hF:F.f228 w t list v=some r):FCall zQ B 25 [am yT w,.agg [li t.data,li t.index],am yL list,.agg [li v.ctor,li v.n,am Vl.Value.c v.kids]] (am (cL cI) r):=by
 unfold F.f228 at hF
 refine FCall.enterG func25 (by kernel_rfl) rfl ntmps25 (by simp) (yI .nil) ?_
 refine kB hF fun v1 e2 hF=> ?_
 refine((C.f198 B hB1 hB2 w t list v1 e2)).goW (by simp) (by simp) ?_
 revert hF;refine kS (fun h3 q4 hF=> ?_) (fun h3 q4 hF=> ?_)
 ·refine kx1 h3 ?_
  apply oB hF;intro v5 e6 hF
  refine((C.f202 B hB1 hB2 w t v v5 e6)).goW (by first|simp[h3];done|simp_all) (by simp) ?_
  refine kx1 h3 ?_
  revert hF;refine aN (fun h7 q8 hF=> ?_) (fun h7 q8 hF=> ?_)
  ·cases hF
   refine kx3 h3 h7 q8 ?_
   exact⟨_,by decide,(.cell (.nilS none 0 .nil) .nil:CT _ _ _ _)⟩
  ·refine kx3 h3 h7 q8 ?_
   apply oB hF;intro v9 e10 hF
   refine ACall.gh _ (fun nb N fr=>by refine yG (yJ 4 0 1 (by simp -dsimp;rfl) (by simp -dsimp)) ?_;refine yG (yI .nil) ?_;exact gR _) ?_
   refine kx3 h3 h7 q8 ?_
   refine((C.impl_runSteps__impl_ForcedFirst_1__h B hB1 hB2 v1.1 list v [] list v9 e10) [] [] RW.nil).go (pl [4,5,6,2]) (by simp[ZAZ,RW.purss RW.nil]) (Zu _ rfl (by decide)) (by intro i hi hi';simp at hi hi';omega) (by first|simp[h3,h7,q8,RW.len H11,RW.closed H11];done|simp_all) (by first|simp[h3,h7,q8,RW.len H11,RW.closed H11];done|simp_all) ?_
   rintro _ _ ⟨rfl,R,U,H11,rfl⟩
   cases hF
   repeat first|refine cg ?_|simp -dsimp[h3,h7,q8,RW.len H11,RW.closed H11]
   exact⟨_,by decide,(.cell (.ownP 5 _ 1 rfl (by simp) (.blk 6 rfl .nil) (by simp[H11.2.2]) (by simp[H11.1]) (by simp) (by simp) .nil) .nil:CT _ _ _ _)⟩
 ·cases hF
  refine kx2 h3 q4 ?_
  exact⟨_,by decide,(.cell (.nilS none 0 .nil) .nil:CT _ _ _ _)⟩
theorem CC.f229 (a:List Int)(b:List Int):(∀(i:Nat) (o:Lo Bool Unit),F.f229 a b i=some o->∀(c:Code),ZQ [1,1,0,1,0,0] (ZG Tryz.f44)=some c->∀(Q:Exit->ASt->Prop),o.post (fun r=>∀st,ZAB zQ Tryz.f44 (fun r' _=>r'.le (.lit (.bool r))) .ret st->Q .ret st) (fun s=>Q (.exit 0) ⟨[],[]⟩)->ALoopU zQ B 0 26 (hold c .mk) ⟨[(0,am cI a),(1,am cI b),(5,li (i:Int))],[]⟩ (hold Q .mk)):=by
 refine F.f229.partial_correctness a b
  _
  ?_
 ·intro _f_f229 ih_f229 i o hF
  refine ZI rfl fun Q hq hk hs=> ?_
  have b0:=hk 0
  simp -dsimp at b0
  have b1:=hk 1
  simp -dsimp at b1
  clear hk hs
  refine eN ?_
  revert hF;refine kS ?_ ?_<;>intro h4 q5 hF
  ·have z6:((i:Int)<(a.length:Int)):=auz
   refine kx2 h4 z6 ?_
   refine zX follows ?_
   apply oB hF;intro x e7 hF
   have le7:=ZA e7
   apply oB hF;intro x8 e9 hF
   have le9:=ZA e9
   refine ZEP e7 e9 ?_
   revert hF;refine aN ?_ ?_<;>intro h10 q11 hF
   ·cases hF
    refine kx2 h10 q11 ?_
    refine lG _ (gR _) (hq _ ?_)
    exact kc0
   ·have w12:i64.wrap ((i:Int)+1)=(i:Int)+1:=ZD (by omega) (by omega)
    refine kx1 w12 ?_
    refine yC ((ih_f229 (i+1) o hF) _ rfl _ hq)
  ·have z6:¬((i:Int)<(a.length:Int)):=auz
   cases hF
   refine kx3 h4 q5 z6 ?_
   refine yD hq
theorem C.f230 (a:List Int)(b:List Int)(r:Bool)(hF:F.f230 a b=some r):PureCall zQ B 44 [am cI a,am cI b] (.lit (.bool r)):=by
 unfold F.f230 at hF
 refine zV func44 rfl ntmps44 ?_
 revert hF;refine kN ?_ ?_<;>intro h1 q2 hF
 ·have z3:¬((a.length:Int)=(b.length:Int)):=auz
  cases hF
  exact kc3 h1 q2 z3
 ·have z3:((a.length:Int)=(b.length:Int)):=auz
  refine kB hF fun o' ho13 hF=> ?_
  refine yF (((CC.f229 B hB1 hB2 a b) 0 o' ho13) _ rfl _ ?_)
  rcases o' with r0|sx
  ·dsimp only at hF
   cases hF
   intro st h
   simpa using h
  ·dsimp only at hF
   cases hF
   exact kc0
theorem CC.f231 (a:List (List Int))(b:List (List Int)):(∀(i:Nat) (o:Lo Bool Unit),F.f231 a b i=some o->∀(c:Code),ZQ [1,1,0,1,0,0] (ZG Tryz.f15)=some c->∀(Q:Exit->ASt->Prop),o.post (fun r=>∀st,ZAB zQ Tryz.f15 (fun r' _=>r'.le (.lit (.bool r))) .ret st->Q .ret st) (fun s=>Q (.exit 0) ⟨[],[]⟩)->ALoopU zQ B 0 27 (hold c .mk) ⟨[(0,am (cL cI) a),(1,am (cL cI) b),(5,li (i:Int))],[]⟩ (hold Q .mk)):=by
 refine F.f231.partial_correctness a b
  _
  ?_
 ·intro _f_f231 ih_f231 i o hF
  refine ZI rfl fun Q hq hk hs=> ?_
  have b0:=hk 0
  simp -dsimp at b0
  have b1:=hk 1
  simp -dsimp at b1
  clear hk hs
  refine eN ?_
  revert hF;refine kS ?_ ?_<;>intro h4 q5 hF
  ·have z6:((i:Int)<(a.length:Int)):=auz
   refine kx2 h4 z6 ?_
   refine zX follows ?_
   apply oB hF;intro x e7 hF
   have le7:=ZA e7
   apply oB hF;intro x8 e9 hF
   have le9:=ZA e9
   refine ZEP e7 e9 ?_
   apply oB hF;intro v e10 hF
   refine((C.f230 B hB1 hB2 x x8 v e10)).pgoW (by simp_all) (by simp) ?_
   revert hF;refine kN (fun h11 q12 hF=> ?_) (fun h11 q12 hF=> ?_)
   ·cases hF
    refine kx2 h11 q12 ?_
    refine lG _ (gR _) (hq _ ?_)
    exact kc0
   ·have w13:i64.wrap ((i:Int)+1)=(i:Int)+1:=ZD (by omega) (by omega)
    refine kx1 w13 ?_
    refine yC ((ih_f231 (i+1) o hF) _ rfl _ hq)
  ·have z6:¬((i:Int)<(a.length:Int)):=auz
   cases hF
   refine kx3 h4 q5 z6 ?_
   refine yD hq
theorem C.f232 (a:List (List Int))(b:List (List Int))(r:Bool)(hF:F.f232 a b=some r):PureCall zQ B 15 [am (cL cI) a,am (cL cI) b] (.lit (.bool r)):=by
 unfold F.f232 at hF
 refine zV func15 rfl ntmps15 ?_
 revert hF;refine kN ?_ ?_<;>intro h1 q2 hF
 ·have z3:¬((a.length:Int)=(b.length:Int)):=auz
  cases hF
  exact kc3 h1 q2 z3
 ·have z3:((a.length:Int)=(b.length:Int)):=auz
  refine kB hF fun o' ho14 hF=> ?_
  refine yF (((CC.f231 B hB1 hB2 a b) 0 o' ho14) _ rfl _ ?_)
  rcases o' with r0|sx
  ·dsimp only at hF
   cases hF
   intro st h
   simpa using h
  ·dsimp only at hF
   cases hF
   exact kc0
theorem C.f233 (a:Ty)(b:Ty)(r:Bool)(hF:F.f233 a b=some r):PureCall zQ B 189 [.agg [li a.data,li a.index],.agg [li b.data,li b.index]] (.lit (.bool r)):=by
 unfold F.f233 at hF
 refine zV func189 rfl ntmps189 ?_
 revert hF;refine kN ?_ ?_<;>intro h1 q2 hF
 ·cases hF
  exact kc2 h1 q2
 ·revert hF;refine kN ?_ ?_<;>intro h3 q4 hF
  ·cases hF
   exact kc2 h3 q4
  ·cases hF
   exact kc0
theorem CC.f234 (a:List Ty)(b:List Ty):(∀(i:Nat) (o:Lo Bool Unit),F.f234 a b i=some o->∀(c:Code),ZQ [1,1,0,1,0,0] (ZG Tryz.f166)=some c->∀(Q:Exit->ASt->Prop),o.post (fun r=>∀st,ZAB zQ Tryz.f166 (fun r' _=>r'.le (.lit (.bool r))) .ret st->Q .ret st) (fun s=>Q (.exit 0) ⟨[],[]⟩)->ALoopU zQ B 0 27 (hold c .mk) ⟨[(0,am yZ a),(1,am yZ b),(5,li (i:Int))],[]⟩ (hold Q .mk)):=by
 refine F.f234.partial_correctness a b
  _
  ?_
 ·intro _f_f234 ih_f234 i o hF
  refine ZI rfl fun Q hq hk hs=> ?_
  have b0:=hk 0
  simp -dsimp at b0
  have b1:=hk 1
  simp -dsimp at b1
  clear hk hs
  refine eN ?_
  revert hF;refine kS ?_ ?_<;>intro h4 q5 hF
  ·have z6:((i:Int)<(a.length:Int)):=auz
   refine kx2 h4 z6 ?_
   refine zX follows ?_
   apply oB hF;intro x e7 hF
   have le7:=ZA e7
   apply oB hF;intro x8 e9 hF
   have le9:=ZA e9
   refine ZEP e7 e9 ?_
   apply oB hF;intro v e10 hF
   refine((C.f233 B hB1 hB2 x x8 v e10)).pgoW (by simp_all) (by simp) ?_
   revert hF;refine kN (fun h11 q12 hF=> ?_) (fun h11 q12 hF=> ?_)
   ·cases hF
    refine kx2 h11 q12 ?_
    refine lG _ (gR _) (hq _ ?_)
    exact kc0
   ·have w13:i64.wrap ((i:Int)+1)=(i:Int)+1:=ZD (by omega) (by omega)
    refine kx1 w13 ?_
    refine yC ((ih_f234 (i+1) o hF) _ rfl _ hq)
  ·have z6:¬((i:Int)<(a.length:Int)):=auz
   cases hF
   refine kx3 h4 q5 z6 ?_
   refine yD hq
theorem C.f235 (a:List Ty)(b:List Ty)(r:Bool)(hF:F.f235 a b=some r):PureCall zQ B 166 [am yZ a,am yZ b] (.lit (.bool r)):=by
 unfold F.f235 at hF
 refine zV func166 rfl ntmps166 ?_
 revert hF;refine kN ?_ ?_<;>intro h1 q2 hF
 ·have z3:¬((a.length:Int)=(b.length:Int)):=auz
  cases hF
  exact kc3 h1 q2 z3
 ·have z3:((a.length:Int)=(b.length:Int)):=auz
  refine kB hF fun o' ho14 hF=> ?_
  refine yF (((CC.f234 B hB1 hB2 a b) 0 o' ho14) _ rfl _ ?_)
  rcases o' with r0|sx
  ·dsimp only at hF
   cases hF
   intro st h
   simpa using h
  ·dsimp only at hF
   cases hF
   exact kc0
theorem C.f236 (a:Ctor)(b:Ctor)(r:Bool)(hF:F.f236 a b=some r):PureCall zQ B 132 [.agg [.lit (.string a.name),am yZ a.args,li a.index],.agg [.lit (.string b.name),am yZ b.args,li b.index]] (.lit (.bool r)):=by
 unfold F.f236 at hF
 refine zV func132 rfl ntmps132 ?_
 revert hF;refine kN ?_ ?_<;>intro h1 q2 hF
 ·cases hF
  exact kc2 h1 q2
 ·refine kB hF fun v e3 hF=> ?_
  refine((C.f235 B hB1 hB2 a.args b.args v e3)).goI ?_
  revert hF;refine kN (fun h4 q5 hF=> ?_) (fun h4 q5 hF=> ?_)
  ·cases hF
   exact kc2 h4 q5
  ·revert hF;refine kN ?_ ?_<;>intro h6 q7 hF
   ·cases hF
    exact kc2 h6 q7
   ·cases hF
    exact kc0
theorem CC.f237 (a:List Ctor)(b:List Ctor):(∀(i:Nat) (o:Lo Bool Unit),F.f237 a b i=some o->∀(c:Code),ZQ [1,1,0,1,0,0] (ZG Tryz.f90)=some c->∀(Q:Exit->ASt->Prop),o.post (fun r=>∀st,ZAB zQ Tryz.f90 (fun r' _=>r'.le (.lit (.bool r))) .ret st->Q .ret st) (fun s=>Q (.exit 0) ⟨[],[]⟩)->ALoopU zQ B 0 27 (hold c .mk) ⟨[(0,am xH a),(1,am xH b),(5,li (i:Int))],[]⟩ (hold Q .mk)):=by
 refine F.f237.partial_correctness a b
  _
  ?_
 ·intro _f_f237 ih_f237 i o hF
  refine ZI rfl fun Q hq hk hs=> ?_
  have b0:=hk 0
  simp -dsimp at b0
  have b1:=hk 1
  simp -dsimp at b1
  clear hk hs
  refine eN ?_
  revert hF;refine kS ?_ ?_<;>intro h4 q5 hF
  ·have z6:((i:Int)<(a.length:Int)):=auz
   refine kx2 h4 z6 ?_
   refine zX follows ?_
   apply oB hF;intro x e7 hF
   have le7:=ZA e7
   apply oB hF;intro x8 e9 hF
   have le9:=ZA e9
   refine ZEP e7 e9 ?_
   apply oB hF;intro v e10 hF
   refine((C.f236 B hB1 hB2 x x8 v e10)).pgoW (by simp_all) (by simp) ?_
   revert hF;refine kN (fun h11 q12 hF=> ?_) (fun h11 q12 hF=> ?_)
   ·cases hF
    refine kx2 h11 q12 ?_
    refine lG _ (gR _) (hq _ ?_)
    exact kc0
   ·have w13:i64.wrap ((i:Int)+1)=(i:Int)+1:=ZD (by omega) (by omega)
    refine kx1 w13 ?_
    refine yC ((ih_f237 (i+1) o hF) _ rfl _ hq)
  ·have z6:¬((i:Int)<(a.length:Int)):=auz
   cases hF
   refine kx3 h4 q5 z6 ?_
   refine yD hq
theorem C.f238 (a:List Ctor)(b:List Ctor)(r:Bool)(hF:F.f238 a b=some r):PureCall zQ B 90 [am xH a,am xH b] (.lit (.bool r)):=by
 unfold F.f238 at hF
 refine zV func90 rfl ntmps90 ?_
 revert hF;refine kN ?_ ?_<;>intro h1 q2 hF
 ·have z3:¬((a.length:Int)=(b.length:Int)):=auz
  cases hF
  exact kc3 h1 q2 z3
 ·have z3:((a.length:Int)=(b.length:Int)):=auz
  refine kB hF fun o' ho14 hF=> ?_
  refine yF (((CC.f237 B hB1 hB2 a b) 0 o' ho14) _ rfl _ ?_)
  rcases o' with r0|sx
  ·dsimp only at hF
   cases hF
   intro st h
   simpa using h
  ·dsimp only at hF
   cases hF
   exact kc0
theorem C.f239 (a:yS)(b:yS)(r:Bool)(hF:F.f239 a b=some r):PureCall zQ B 45 [.agg [.lit (.string a.name),am xH a.ctors],.agg [.lit (.string b.name),am xH b.ctors]] (.lit (.bool r)):=by
 unfold F.f239 at hF
 refine zV func45 rfl ntmps45 ?_
 revert hF;refine kN ?_ ?_<;>intro h1 q2 hF
 ·cases hF
  exact kc2 h1 q2
 ·refine kB hF fun v e3 hF=> ?_
  refine((C.f238 B hB1 hB2 a.ctors b.ctors v e3)).goI ?_
  revert hF;refine kN (fun h4 q5 hF=> ?_) (fun h4 q5 hF=> ?_)
  ·cases hF
   exact kc2 h4 q5
  ·cases hF
   exact kc0
theorem CC.f240 (a:List yS)(b:List yS):(∀(i:Nat) (o:Lo Bool Unit),F.f240 a b i=some o->∀(c:Code),ZQ [1,1,0,1,0,0] (ZG Tryz.f16)=some c->∀(Q:Exit->ASt->Prop),o.post (fun r=>∀st,ZAB zQ Tryz.f16 (fun r' _=>r'.le (.lit (.bool r))) .ret st->Q .ret st) (fun s=>Q (.exit 0) ⟨[],[]⟩)->ALoopU zQ B 0 27 (hold c .mk) ⟨[(0,am yT a),(1,am yT b),(5,li (i:Int))],[]⟩ (hold Q .mk)):=by
 refine F.f240.partial_correctness a b
  _
  ?_
 ·intro _f_f240 ih_f240 i o hF
  refine ZI rfl fun Q hq hk hs=> ?_
  have b0:=hk 0
  simp -dsimp at b0
  have b1:=hk 1
  simp -dsimp at b1
  clear hk hs
  refine eN ?_
  revert hF;refine kS ?_ ?_<;>intro h4 q5 hF
  ·have z6:((i:Int)<(a.length:Int)):=auz
   refine kx2 h4 z6 ?_
   refine zX follows ?_
   apply oB hF;intro x e7 hF
   have le7:=ZA e7
   apply oB hF;intro x8 e9 hF
   have le9:=ZA e9
   refine ZEP e7 e9 ?_
   apply oB hF;intro v e10 hF
   refine((C.f239 B hB1 hB2 x x8 v e10)).pgoW (by simp_all) (by simp) ?_
   revert hF;refine kN (fun h11 q12 hF=> ?_) (fun h11 q12 hF=> ?_)
   ·cases hF
    refine kx2 h11 q12 ?_
    refine lG _ (gR _) (hq _ ?_)
    exact kc0
   ·have w13:i64.wrap ((i:Int)+1)=(i:Int)+1:=ZD (by omega) (by omega)
    refine kx1 w13 ?_
    refine yC ((ih_f240 (i+1) o hF) _ rfl _ hq)
  ·have z6:¬((i:Int)<(a.length:Int)):=auz
   cases hF
   refine kx3 h4 q5 z6 ?_
   refine yD hq
theorem C.f241 (a:List yS)(b:List yS)(r:Bool)(hF:F.f241 a b=some r):PureCall zQ B 16 [am yT a,am yT b] (.lit (.bool r)):=by
 unfold F.f241 at hF
 refine zV func16 rfl ntmps16 ?_
 revert hF;refine kN ?_ ?_<;>intro h1 q2 hF
 ·have z3:¬((a.length:Int)=(b.length:Int)):=auz
  cases hF
  exact kc3 h1 q2 z3
 ·have z3:((a.length:Int)=(b.length:Int)):=auz
  refine kB hF fun o' ho14 hF=> ?_
  refine yF (((CC.f240 B hB1 hB2 a b) 0 o' ho14) _ rfl _ ?_)
  rcases o' with r0|sx
  ·dsimp only at hF
   cases hF
   intro st h
   simpa using h
  ·dsimp only at hF
   cases hF
   exact kc0
theorem CC.f242  :(∀(a:Pattern) (b:Pattern) (r:Bool),F.f242 a b=some r->PureCall zQ B 91 [.agg [li a.op,li a.ctor,li a.n,li a.m,li a.var,am zM a.kids],.agg [li b.op,li b.ctor,li b.n,li b.m,li b.var,am zM b.kids]] (.lit (.bool r)))/\
  (∀(a:List Pattern) (b:List Pattern) (r:Bool),F.f243 a b=some r->PureCall zQ B 133 [am zM a,am zM b] (.lit (.bool r)))/\
  (∀(a:List Pattern) (b:List Pattern) (i:Nat) (o:Lo Bool Unit),F.f244 a b i=some o->∀(c:Code),ZQ [1,1,0,1,0,0] (ZG Tryz.f133)=some c->∀(Q:Exit->ASt->Prop),o.post (fun r=>∀st,ZAB zQ Tryz.f133 (fun r' _=>r'.le (.lit (.bool r))) .ret st->Q .ret st) (fun s=>Q (.exit 0) ⟨[],[]⟩)->ALoopU zQ B 0 27 (hold c .mk) ⟨[(0,am zM a),(1,am zM b),(5,li (i:Int))],[]⟩ (hold Q .mk)):=by
 refine F.f242.mutual_partial_correctness 
  _ _ _
  ?_ ?_ ?_
 ·intro _f_f243 ih_f243 a b r hF
  refine zV func91 rfl ntmps91 ?_
  revert hF;refine kN ?_ ?_<;>intro h1 q2 hF
  ·cases hF
   exact kc2 h1 q2
  ·revert hF;refine kN ?_ ?_<;>intro h3 q4 hF
   ·cases hF
    exact kc2 h3 q4
   ·revert hF;refine kN ?_ ?_<;>intro h5 q6 hF
    ·cases hF
     exact kc2 h5 q6
    ·revert hF;refine kN ?_ ?_<;>intro h7 q8 hF
     ·cases hF
      exact kc2 h7 q8
     ·revert hF;refine kN ?_ ?_<;>intro h9 q10 hF
      ·cases hF
       exact kc2 h9 q10
      ·refine kB hF fun v e11 hF=> ?_
       refine((ih_f243 a.kids b.kids v e11)).goI ?_
       revert hF;refine kN (fun h12 q13 hF=> ?_) (fun h12 q13 hF=> ?_)
       ·cases hF
        exact kc2 h12 q13
       ·cases hF
        exact kc0
 ·intro _f_f244 ih_f244 a b r hF
  refine zV func133 rfl ntmps133 ?_
  revert hF;refine kN ?_ ?_<;>intro h1 q2 hF
  ·have z3:¬((a.length:Int)=(b.length:Int)):=auz
   cases hF
   exact kc1 z3
  ·have z3:((a.length:Int)=(b.length:Int)):=auz
   refine kB hF fun o' ho14 hF=> ?_
   refine yF ((ih_f244 a b 0 o' ho14) _ rfl _ ?_)
   rcases o' with r0|sx
   ·dsimp only at hF
    cases hF
    intro st h
    simpa using h
   ·dsimp only at hF
    cases hF
    exact kc0
 ·intro _f_f242 _f_f244 ih_f242 ih_f244 a b i o hF
  refine ZI rfl fun Q hq hk hs=> ?_
  have b0:=hk 0
  simp -dsimp at b0
  have b1:=hk 1
  simp -dsimp at b1
  clear hk hs
  refine eN ?_
  revert hF;refine kS ?_ ?_<;>intro h4 q5 hF
  ·have z6:((i:Int)<(a.length:Int)):=auz
   refine kx2 h4 z6 ?_
   refine zX follows ?_
   apply oB hF;intro x e7 hF
   have le7:=ZA e7
   apply oB hF;intro x8 e9 hF
   have le9:=ZA e9
   refine ZEP e7 e9 ?_
   apply oB hF;intro v e10 hF
   refine((ih_f242 x x8 v e10)).pgoW (by simp_all) (by simp) ?_
   revert hF;refine kN (fun h11 q12 hF=> ?_) (fun h11 q12 hF=> ?_)
   ·cases hF
    refine kx2 h11 q12 ?_
    refine lG _ (gR _) (hq _ ?_)
    exact kc0
   ·have w13:i64.wrap ((i:Int)+1)=(i:Int)+1:=ZD (by omega) (by omega)
    refine kx1 w13 ?_
    refine yC ((ih_f244 a b (i+1) o hF) _ rfl _ hq)
  ·have z6:¬((i:Int)<(a.length:Int)):=auz
   cases hF
   refine kx3 h4 q5 z6 ?_
   refine yD hq
theorem C.f245 (a:Guard)(b:Guard)(r:Bool)(hF:F.f245 a b=some r):PureCall zQ B 92 [.agg [li a.op,li a.var,li a.n],.agg [li b.op,li b.var,li b.n]] (.lit (.bool r)):=by
 unfold F.f245 at hF
 refine zV func92 rfl ntmps92 ?_
 revert hF;refine kN ?_ ?_<;>intro h1 q2 hF
 ·cases hF
  exact kc2 h1 q2
 ·revert hF;refine kN ?_ ?_<;>intro h3 q4 hF
  ·cases hF
   exact kc2 h3 q4
  ·revert hF;refine kN ?_ ?_<;>intro h5 q6 hF
   ·cases hF
    exact kc2 h5 q6
   ·cases hF
    exact kc0
theorem C.f246 (a:Clause)(b:Clause)(r:Bool)(hF:F.f246 a b=some r):PureCall zQ B 46 [.agg [li a.pat.op,li a.pat.ctor,li a.pat.n,li a.pat.m,li a.pat.var,am zM a.pat.kids,li a.guard.op,li a.guard.var,li a.guard.n],.agg [li b.pat.op,li b.pat.ctor,li b.pat.n,li b.pat.m,li b.pat.var,am zM b.pat.kids,li b.guard.op,li b.guard.var,li b.guard.n]] (.lit (.bool r)):=by
 unfold F.f246 at hF
 refine zV func46 rfl ntmps46 ?_
 refine kB hF fun v e1 hF=> ?_
 refine(((CC.f242 B hB1 hB2).1 a.pat b.pat v e1)).goI ?_
 revert hF;refine kN (fun h2 q3 hF=> ?_) (fun h2 q3 hF=> ?_)
 ·cases hF
  exact kc2 h2 q3
 ·refine kB hF fun v4 e5 hF=> ?_
  refine((C.f245 B hB1 hB2 a.guard b.guard v4 e5)).goI ?_
  revert hF;refine kN (fun h6 q7 hF=> ?_) (fun h6 q7 hF=> ?_)
  ·cases hF
   exact kc2 h6 q7
  ·cases hF
   exact kc0
theorem CC.f247 (a:List Clause)(b:List Clause):(∀(i:Nat) (o:Lo Bool Unit),F.f247 a b i=some o->∀(c:Code),ZQ [1,1,0,1,0,0] (ZG Tryz.f17)=some c->∀(Q:Exit->ASt->Prop),o.post (fun r=>∀st,ZAB zQ Tryz.f17 (fun r' _=>r'.le (.lit (.bool r))) .ret st->Q .ret st) (fun s=>Q (.exit 0) ⟨[],[]⟩)->ALoopU zQ B 0 27 (hold c .mk) ⟨[(0,am yL a),(1,am yL b),(5,li (i:Int))],[]⟩ (hold Q .mk)):=by
 refine F.f247.partial_correctness a b
  _
  ?_
 ·intro _f_f247 ih_f247 i o hF
  refine ZI rfl fun Q hq hk hs=> ?_
  have b0:=hk 0
  simp -dsimp at b0
  have b1:=hk 1
  simp -dsimp at b1
  clear hk hs
  refine eN ?_
  revert hF;refine kS ?_ ?_<;>intro h4 q5 hF
  ·have z6:((i:Int)<(a.length:Int)):=auz
   refine kx2 h4 z6 ?_
   refine zX follows ?_
   apply oB hF;intro x e7 hF
   have le7:=ZA e7
   apply oB hF;intro x8 e9 hF
   have le9:=ZA e9
   refine ZEP e7 e9 ?_
   apply oB hF;intro v e10 hF
   refine((C.f246 B hB1 hB2 x x8 v e10)).pgoW (by simp_all) (by simp) ?_
   revert hF;refine kN (fun h11 q12 hF=> ?_) (fun h11 q12 hF=> ?_)
   ·cases hF
    refine kx2 h11 q12 ?_
    refine lG _ (gR _) (hq _ ?_)
    exact kc0
   ·have w13:i64.wrap ((i:Int)+1)=(i:Int)+1:=ZD (by omega) (by omega)
    refine kx1 w13 ?_
    refine yC ((ih_f247 (i+1) o hF) _ rfl _ hq)
  ·have z6:¬((i:Int)<(a.length:Int)):=auz
   cases hF
   refine kx3 h4 q5 z6 ?_
   refine yD hq
theorem C.f248 (a:List Clause)(b:List Clause)(r:Bool)(hF:F.f248 a b=some r):PureCall zQ B 17 [am yL a,am yL b] (.lit (.bool r)):=by
 unfold F.f248 at hF
 refine zV func17 rfl ntmps17 ?_
 revert hF;refine kN ?_ ?_<;>intro h1 q2 hF
 ·have z3:¬((a.length:Int)=(b.length:Int)):=auz
  cases hF
  exact kc3 h1 q2 z3
 ·have z3:((a.length:Int)=(b.length:Int)):=auz
  refine kB hF fun o' ho14 hF=> ?_
  refine yF (((CC.f247 B hB1 hB2 a b) 0 o' ho14) _ rfl _ ?_)
  rcases o' with r0|sx
  ·dsimp only at hF
   cases hF
   intro st h
   simpa using h
  ·dsimp only at hF
   cases hF
   exact kc0
theorem CC.f249  :(∀(a:Vl.Value) (b:Vl.Value) (r:Bool),F.f249 a b=some r->PureCall zQ B 18 [.agg [li a.ctor,li a.n,am Vl.Value.c a.kids],.agg [li b.ctor,li b.n,am Vl.Value.c b.kids]] (.lit (.bool r)))/\
  (∀(a:List Vl.Value) (b:List Vl.Value) (r:Bool),F.f250 a b=some r->PureCall zQ B 47 [am Vl.Value.c a,am Vl.Value.c b] (.lit (.bool r)))/\
  (∀(a:List Vl.Value) (b:List Vl.Value) (i:Nat) (o:Lo Bool Unit),F.f251 a b i=some o->∀(c:Code),ZQ [1,1,0,1,0,0] (ZG Tryz.f47)=some c->∀(Q:Exit->ASt->Prop),o.post (fun r=>∀st,ZAB zQ Tryz.f47 (fun r' _=>r'.le (.lit (.bool r))) .ret st->Q .ret st) (fun s=>Q (.exit 0) ⟨[],[]⟩)->ALoopU zQ B 0 27 (hold c .mk) ⟨[(0,am Vl.Value.c a),(1,am Vl.Value.c b),(5,li (i:Int))],[]⟩ (hold Q .mk)):=by
 refine F.f249.mutual_partial_correctness 
  _ _ _
  ?_ ?_ ?_
 ·intro _f_f250 ih_f250 a b r hF
  refine zV func18 rfl ntmps18 ?_
  revert hF;refine kN ?_ ?_<;>intro h1 q2 hF
  ·cases hF
   exact kc2 h1 q2
  ·revert hF;refine kN ?_ ?_<;>intro h3 q4 hF
   ·cases hF
    exact kc2 h3 q4
   ·refine kB hF fun v e5 hF=> ?_
    refine((ih_f250 a.kids b.kids v e5)).goI ?_
    revert hF;refine kN (fun h6 q7 hF=> ?_) (fun h6 q7 hF=> ?_)
    ·cases hF
     exact kc2 h6 q7
    ·cases hF
     exact kc0
 ·intro _f_f251 ih_f251 a b r hF
  refine zV func47 rfl ntmps47 ?_
  revert hF;refine kN ?_ ?_<;>intro h1 q2 hF
  ·have z3:¬((a.length:Int)=(b.length:Int)):=auz
   cases hF
   exact kc1 z3
  ·have z3:((a.length:Int)=(b.length:Int)):=auz
   refine kB hF fun o' ho14 hF=> ?_
   refine yF ((ih_f251 a b 0 o' ho14) _ rfl _ ?_)
   rcases o' with r0|sx
   ·dsimp only at hF
    cases hF
    intro st h
    simpa using h
   ·dsimp only at hF
    cases hF
    exact kc0
 ·intro _f_f249 _f_f251 ih_f249 ih_f251 a b i o hF
  refine ZI rfl fun Q hq hk hs=> ?_
  have b0:=hk 0
  simp -dsimp at b0
  have b1:=hk 1
  simp -dsimp at b1
  clear hk hs
  refine eN ?_
  revert hF;refine kS ?_ ?_<;>intro h4 q5 hF
  ·have z6:((i:Int)<(a.length:Int)):=auz
   refine kx2 h4 z6 ?_
   refine zX follows ?_
   apply oB hF;intro x e7 hF
   have le7:=ZA e7
   apply oB hF;intro x8 e9 hF
   have le9:=ZA e9
   refine ZEP e7 e9 ?_
   apply oB hF;intro v e10 hF
   refine((ih_f249 x x8 v e10)).pgoW (by simp_all) (by simp) ?_
   revert hF;refine kN (fun h11 q12 hF=> ?_) (fun h11 q12 hF=> ?_)
   ·cases hF
    refine kx2 h11 q12 ?_
    refine lG _ (gR _) (hq _ ?_)
    exact kc0
   ·have w13:i64.wrap ((i:Int)+1)=(i:Int)+1:=ZD (by omega) (by omega)
    refine kx1 w13 ?_
    refine yC ((ih_f251 a b (i+1) o hF) _ rfl _ hq)
  ·have z6:¬((i:Int)<(a.length:Int)):=auz
   cases hF
   refine kx3 h4 q5 z6 ?_
   refine yD hq
theorem CC.f252 (a:List Int):(∀(k1:Int) (i:Nat) (o:Lo Int Int),F.f252 a k1 i=some o->∀(c:Code),ZQ [1,0,1,0,0] (ZG Tryz.f53)=some c->∀(Q:Exit->ASt->Prop),o.post (fun r=>∀st,ZAB zQ Tryz.f53 (fun r' _=>r'.le (li r)) .ret st->Q .ret st) (fun s=>Q (.exit 0) ⟨[(1,li s)],[]⟩)->ALoopU zQ B 0 21 (hold c .mk) ⟨[(0,am cI a),(1,li k1),(5,li (i:Int))],[]⟩ (hold Q .mk)):=by
 refine F.f252.partial_correctness a
  _
  ?_
 ·intro _f_f252 ih_f252 k1 i o hF
  refine ZI rfl fun Q hq hk hs=> ?_
  have b0:=hk 0
  simp -dsimp at b0
  clear hk hs
  refine eN ?_
  revert hF;refine kS ?_ ?_<;>intro h2 q3 hF
  ·have z4:((i:Int)<(a.length:Int)):=auz
   apply oB hF;intro x e5 hF
   have le5:=ZA e5
   refine ZP h2 z4 e5 ?_
   revert hF;refine aN ?_ ?_<;>intro h6 q7 hF
   ·cases hF
    refine kx2 h6 q7 ?_
    refine lG _ (gR _) (hq _ ?_)
    exact kc0
   ·have w8:i64.wrap ((i:Int)+1)=(i:Int)+1:=ZD (by omega) (by omega)
    refine kx1 w8 ?_
    refine yC ((ih_f252 (i64.wrap (k1+1)) (i+1) o hF) _ rfl _ hq)
  ·have z4:¬((i:Int)<(a.length:Int)):=auz
   cases hF
   refine kx3 h2 q3 z4 ?_
   refine yD hq
theorem C.f253 (a:List Int)(k:Int)(r:Int)(hF:F.f253 a k=some r):PureCall zQ B 53 [am cI a,li k] (li r):=by
 unfold F.f253 at hF
 refine zV func53 rfl ntmps53 ?_
 refine kB hF fun o' ho9 hF=> ?_
 refine yF (((CC.f252 B hB1 hB2 a) k 0 o' ho9) _ rfl _ ?_)
 rcases o' with r0|sx
 ·dsimp only at hF
  cases hF
  intro st h
  simpa using h
 ·dsimp only at hF
  cases hF
  exact kc0
theorem CC.f254 (a:List (List Int)):(∀(k1:Int) (i:Nat) (o:Lo Int Int),F.f254 a k1 i=some o->∀(c:Code),ZQ [1,0,1,0,0] (ZG Tryz.f23)=some c->∀(Q:Exit->ASt->Prop),o.post (fun r=>∀st,ZAB zQ Tryz.f23 (fun r' _=>r'.le (li r)) .ret st->Q .ret st) (fun s=>Q (.exit 0) ⟨[(1,li s)],[]⟩)->ALoopU zQ B 0 21 (hold c .mk) ⟨[(0,am (cL cI) a),(1,li k1),(5,li (i:Int))],[]⟩ (hold Q .mk)):=by
 refine F.f254.partial_correctness a
  _
  ?_
 ·intro _f_f254 ih_f254 k1 i o hF
  refine ZI rfl fun Q hq hk hs=> ?_
  have b0:=hk 0
  simp -dsimp at b0
  clear hk hs
  refine eN ?_
  revert hF;refine kS ?_ ?_<;>intro h2 q3 hF
  ·have z4:((i:Int)<(a.length:Int)):=auz
   apply oB hF;intro x e5 hF
   have le5:=ZA e5
   refine ZP h2 z4 e5 ?_
   apply oB hF;intro v e6 hF
   refine((C.f253 B hB1 hB2 x k1 v e6)).goI ?_
   revert hF;refine kS ?_ ?_<;>intro h7 q8 hF
   ·cases hF
    refine kx1 h7 ?_
    refine lG _ (gR _) (hq _ ?_)
    exact kc0
   ·have w9:i64.wrap ((i:Int)+1)=(i:Int)+1:=ZD (by omega) (by omega)
    refine kx2 q8 w9 ?_
    refine yC ((ih_f254 v (i+1) o hF) _ rfl _ hq)
  ·have z4:¬((i:Int)<(a.length:Int)):=auz
   cases hF
   refine kx3 h2 q3 z4 ?_
   refine yD hq
theorem C.f255 (a:List (List Int))(k:Int)(r:Int)(hF:F.f255 a k=some r):PureCall zQ B 23 [am (cL cI) a,li k] (li r):=by
 unfold F.f255 at hF
 refine zV func23 rfl ntmps23 ?_
 refine kB hF fun o' ho10 hF=> ?_
 refine yF (((CC.f254 B hB1 hB2 a) k 0 o' ho10) _ rfl _ ?_)
 rcases o' with r0|sx
 ·dsimp only at hF
  cases hF
  intro st h
  simpa using h
 ·dsimp only at hF
  cases hF
  exact kc0
theorem CM.laws_markIntS :∀m:Nat,(∀(a:List Int) (k:Int),SizeOf.sizeOf a<m->MCall zQ B 52 (zA cI a) [.int .i64 k] (zA cI (mkI a k).1) (.int .i64 (mkI a k).2)):=by
 intro m
 induction m with
 |zero=>exact fun a k h=>absurd h (zK _)
 |succ m ih=>
  intro a0 k0 hm
  have hz0:∀x,x∈a0->SizeOf.sizeOf x<m:=fun x hx=>by have:=zF hx;omega
  have loop:∀(rest D:List Int) (k:Int) (i n:Nat) (rows:List (List AV)) (us:List Go.Value),(∀x,x∈rest->SizeOf.sizeOf x<m)->i=D.length->n=i+rest.length->RW 1 n rows us->
    ∀(c:Code),ZQ [1,0,1,0,0] (ZG Tryz.f52)=some c->∀(Q:Exit->ASt->Prop),
    (∀(R:List (List AV)) (U:List Go.Value),RW 1 n R U->Q (.exit 0) ⟨[(1,.lit (.int .i64 (mkI rest k).2))],[.elems 1 R,.pack (List.flatten (zA cI (D++(mkI rest k).1))) U]⟩)->
    ALoopU zQ B 2 19 (hold c .mk) ⟨[(0,.own 0 n),(1,.lit (.int .i64 k)),(5,.lit (.int .i64 (i:Int)))],[.elems 1 rows,.pack (List.flatten (zA cI (D++rest))) us]⟩ (hold Q .mk):=by
   intro rest
   induction rest with
   |nil=>
    intro D k i n rows us hz hi hn H c hc Q hq
    obtain rfl:c=_:=ZAI hc rfl
    have hn':n=i:=by simpa using hn
    subst hn'
    refine eN ?_
    repeat first|refine cg ?_|simp -dsimp[RW.len H]
    refine lG ⟨[(1,.lit (.int .i64 k))],[.elems 1 rows,.pack (List.flatten (zA cI D)) us]⟩ (gT (by simp) (by simp -dsimp[RW.closed H])) ?_
    simpa[mkI]using hq rows us H
   |cons x r ihr=>
    intro D k i n rows us hz hi hn H c hc Q hq
    refine xE 1 (List.flatten (zA cI D)) (cI x) (List.flatten (zA cI r)) rfl (by simp) ?_
    intro hs vs UA UC hl ho hlt hU hlA
    have hs0:hs=[]:=zJ.1 (by simpa using hl)
    subst hs0
    have hv:vs=[.int .i64 x]:=by apply ZAs;rw[←hlt];simp
    subst hv hU
    have hUA:UA.length=i*1:=by rw[hlA,ZAC ZLJ,hi]
    have hin:i<n:=by simp at hn;omega
    have hrow:rows[i]? =some [.lit (.int .i64 x)]:=by simpa using H.at hin rfl hUA rfl
    have hne:¬rows=[]:=by intro e;rw[e]at hrow;simp at hrow
    have hrl:=RW.len H
    have hrow':∀(h:i<rows.length),rows[i]=[.lit (.int .i64 x)]:=fun h=>by rw[zC h]at hrow;exact zL hrow
    have hset:∀a,(rows.set i a)[i]? =some a:=fun a=>zE (by omega)
    clear hlt
    refine xC fun hk hs=> ?_
    have d0:=hs 0 _ rfl
    simp -dsimp[zW]at d0
    clear hk hs
    obtain rfl:c=_:=ZAI hc rfl
    have w1:i64.wrap ((i:Int)+1)=(i:Int)+1:=ZD (by omega) (by omega)
    refine eN ?_
    repeat first|refine cg ?_|simp -dsimp[hne,hrow,hrow',hset,hrl,hin,w1,List.set_set]
    refine aG ⟨[(0,.own 0 n),(1,.lit (.int .i64 (i64.wrap (k+1)))),(5,.lit (.int .i64 ((i+1:Nat):Int)))],[.elems 1 (rows.set i [.lit (.int .i64 k)]),.pack (List.flatten (zA cI ((D++[k])++r))) (UA++([.int .i64 k]++UC))]⟩
     (by refine yG (yH 1 [] (XA:=List.flatten (zA cI D)) (old:=[.lit (.int .i64 x)]) (XC:=List.flatten (zA cI r)) (UA:=UA) (uo:=[.int .i64 x]) (UC:=UC) (by exact rfl) (by simp) (by simp) hlA rfl (.lit (.int .i64 k) .nil) (by decide)) ?_;exact gT (by simp) (by simp -dsimp[RW.closed H])) ?_
    have he:mkI (x::r) k=(k::(mkI r (i64.wrap (k+1))).1,(mkI r (i64.wrap (k+1))).2):=by rfl
    rw[he]at hq
    refine ihr (D++[k]) _ (i+1) n _ _ (fun y hy=>hz y (zG _ hy)) (by simp[hi]) (by simp at hn;omega) (by simpa using H.setAt hin hUA rfl [.int .i64 k] rfl) _ rfl _ fun R U hR=> ?_
    simpa using hq R U hR
  refine MCall.enter 1 func52 (by kernel_rfl) rfl ntmps52 (by simp) (by simp[ZHW]) (fun e he=>by obtain⟨x,_,rfl⟩:=zD.1 he;exact ZLJ x) ?_ ?_
  ·intro he
   have he:a0=[]:=by simpa using he
   subst he
   refine kx0 ?_
   refine yE ⟨[(0,.arr []),(1,.lit (.int .i64 k0)),(5,.lit (.int .i64 0))],[]⟩ (gT (by simp) (by simp -dsimp)) ?_
   refine eN ?_
   refine kx0 ?_
   refine lG _ (gR _) ?_
   repeat first|refine cg ?_|simp -dsimp
   all_goals(try simp[mkI])
  ·intro hne rows us e1 e2 e3 e4
   have H:RW 1 a0.length rows us:=⟨by simpa using e2,e3,e1⟩
   refine kx0 ?_
   refine yE ⟨[(0,.own 0 a0.length),(1,.lit (.int .i64 k0)),(5,.lit (.int .i64 ((0:Nat):Int)))],[.elems 1 rows,.pack (List.flatten (zA cI ([]++a0))) us]⟩ (gT (by simp) (by simp -dsimp[RW.closed H])) ?_
   refine loop a0 [] k0 0 a0.length rows us hz0 rfl (by simp) H _ rfl _ ?_
   intro R U hR
   refine kx0 ?_
   exact⟨rfl,R,U,rfl,⟨1,by simp⟩,hR.2.2,by rw[hR.1];simp[ZHW],fun x hx=>by obtain⟨y,_,rfl⟩:=zD.1 hx;exact ZLJ y⟩
theorem C.f259 (a:List Int)(k:Int)(v:List Int×Int)(hF:F.f259 a k=some v):MCall zQ B 52 (zA cI a) [.int .i64 k] (zA cI v.1) (.int .i64 v.2):=by
 obtain rfl:=zL hF
 exact(CM.laws_markIntS B hB1 hB2 (SizeOf.sizeOf a+1)) a k (Nat.lt_succ_self _)
theorem CM.laws_markIntSS :∀m:Nat,(∀(a:List (List Int)) (k:Int),SizeOf.sizeOf a<m->MCall zQ B 22 (zA (cL cI) a) [.int .i64 k] (zA (cL cI) (ZDI a k).1) (.int .i64 (ZDI a k).2)):=by
 intro m
 induction m with
 |zero=>exact fun a k h=>absurd h (zK _)
 |succ m ih=>
  intro a0 k0 hm
  have hz0:∀x,x∈a0->SizeOf.sizeOf x<m:=fun x hx=>by have:=zF hx;omega
  have loop:∀(rest D:List (List Int)) (k:Int) (i n:Nat) (rows:List (List AV)) (us:List Go.Value),(∀x,x∈rest->SizeOf.sizeOf x<m)->i=D.length->n=i+rest.length->RW 1 n rows us->
    ∀(c:Code),ZQ [1,0,1,0,0] (ZG Tryz.f22)=some c->∀(Q:Exit->ASt->Prop),
    (∀(R:List (List AV)) (U:List Go.Value),RW 1 n R U->Q (.exit 0) ⟨[(1,.lit (.int .i64 (ZDI rest k).2))],[.elems 1 R,.pack (List.flatten (zA (cL cI) (D++(ZDI rest k).1))) U]⟩)->
    ALoopU zQ B 2 19 (hold c .mk) ⟨[(0,.own 0 n),(1,.lit (.int .i64 k)),(5,.lit (.int .i64 (i:Int)))],[.elems 1 rows,.pack (List.flatten (zA (cL cI) (D++rest))) us]⟩ (hold Q .mk):=by
   intro rest
   induction rest with
   |nil=>
    intro D k i n rows us hz hi hn H c hc Q hq
    obtain rfl:c=_:=ZAI hc rfl
    have hn':n=i:=by simpa using hn
    subst hn'
    refine eN ?_
    repeat first|refine cg ?_|simp -dsimp[RW.len H]
    refine lG ⟨[(1,.lit (.int .i64 k))],[.elems 1 rows,.pack (List.flatten (zA (cL cI) D)) us]⟩ (gT (by simp) (by simp -dsimp[RW.closed H])) ?_
    simpa[ZDI]using hq rows us H
   |cons x r ihr=>
    intro D k i n rows us hz hi hn H c hc Q hq
    refine xD 1 (List.flatten (zA (cL cI) D)) ((cL cI) x) (List.flatten (zA (cL cI) r)) rfl (by simp) (by simp) ?_
    intro h1 vs UA UC o_h1 hlt hU hlA
    have hv:vs=[h1]:=by apply ZAs;rw[←hlt];simp
    subst hv hU
    have hUA:UA.length=i*1:=by rw[hlA,ZAC ZH3,hi]
    have hin:i<n:=by simp at hn;omega
    have hrow:rows[i]? =some [.lit h1]:=by simpa using H.at hin rfl hUA rfl
    have hne:¬rows=[]:=by intro e;rw[e]at hrow;simp at hrow
    have hrl:=RW.len H
    have hrow':∀(h:i<rows.length),rows[i]=[.lit h1]:=fun h=>by rw[zC h]at hrow;exact zL hrow
    have hset:∀a,(rows.set i a)[i]? =some a:=fun a=>zE (by omega)
    clear hlt
    refine xC fun hk hs=> ?_
    have d0:=hs 0 _ rfl
    simp -dsimp[zW]at d0
    clear hk hs
    obtain rfl:c=_:=ZAI hc rfl
    have w1:i64.wrap ((i:Int)+1)=(i:Int)+1:=ZD (by omega) (by omega)
    refine eN ?_
    repeat first|refine cg ?_|simp -dsimp[hne,hrow,hrow',hset,hrl,hin,w1,List.set_set,o_h1]
    refine(C.f259 B hB1 hB2 x k _ rfl).go 2 rfl (by simp) ?_
    refine kx1 w1 ?_
    have hself:rows.set i [.lit h1]=rows:=by have h2:=hrow' (by omega);rw[←h2];exact List.set_getElem_self _
    refine aG ⟨[(0,.own 0 n),(1,.lit (.int .i64 ((mkI x k).2))),(5,.lit (.int .i64 ((i+1:Nat):Int)))],[.elems 1 (rows.set i [.lit h1]),.pack (List.flatten (zA (cL cI) ((D++[(mkI x k).1])++r))) (UA++([h1]++UC))]⟩
     (by refine yG (yH 1 [2] (XA:=List.flatten (zA (cL cI) D)) (old:=[.lit h1]) (XC:=List.flatten (zA (cL cI) r)) (UA:=UA) (uo:=[h1]) (UC:=UC) (by exact rfl) (by simp) (by simp) hlA rfl (.pk 2 (by exact rfl) .nil) (by decide)) ?_;exact gT (by simp) (by simp -dsimp[RW.closed H,hself])) ?_
    have he:ZDI (x::r) k=((mkI x k).1::(ZDI r ((mkI x k).2)).1,(ZDI r ((mkI x k).2)).2):=by rfl
    rw[he]at hq
    refine ihr (D++[(mkI x k).1]) _ (i+1) n _ _ (fun y hy=>hz y (zG _ hy)) (by simp[hi]) (by simp at hn;omega) (by simpa using H.setAt hin hUA rfl [h1] rfl) _ rfl _ fun R U hR=> ?_
    simpa using hq R U hR
  refine MCall.enter 1 func22 (by kernel_rfl) rfl ntmps22 (by simp) (by simp[ZFQ]) (fun e he=>by obtain⟨x,_,rfl⟩:=zD.1 he;exact ZH3 x) ?_ ?_
  ·intro he
   have he:a0=[]:=by simpa using he
   subst he
   refine kx0 ?_
   refine yE ⟨[(0,.arr []),(1,.lit (.int .i64 k0)),(5,.lit (.int .i64 0))],[]⟩ (gT (by simp) (by simp -dsimp)) ?_
   refine eN ?_
   refine kx0 ?_
   refine lG _ (gR _) ?_
   repeat first|refine cg ?_|simp -dsimp
   all_goals(try simp[ZDI])
  ·intro hne rows us e1 e2 e3 e4
   have H:RW 1 a0.length rows us:=⟨by simpa using e2,e3,e1⟩
   refine kx0 ?_
   refine yE ⟨[(0,.own 0 a0.length),(1,.lit (.int .i64 k0)),(5,.lit (.int .i64 ((0:Nat):Int)))],[.elems 1 rows,.pack (List.flatten (zA (cL cI) ([]++a0))) us]⟩ (gT (by simp) (by simp -dsimp[RW.closed H])) ?_
   refine loop a0 [] k0 0 a0.length rows us hz0 rfl (by simp) H _ rfl _ ?_
   intro R U hR
   refine kx0 ?_
   exact⟨rfl,R,U,rfl,⟨1,by simp⟩,hR.2.2,by rw[hR.1];simp[ZFQ],fun x hx=>by obtain⟨y,_,rfl⟩:=zD.1 hx;exact ZH3 y⟩
theorem C.f260 (a:List (List Int))(k:Int)(v:List (List Int)×Int)(hF:F.f260 a k=some v):MCall zQ B 22 (zA (cL cI) a) [.int .i64 k] (zA (cL cI) v.1) (.int .i64 v.2):=by
 obtain rfl:=zL hF
 exact(CM.laws_markIntSS B hB1 hB2 (SizeOf.sizeOf a+1)) a k (Nat.lt_succ_self _)
theorem CM.laws_markPatternS :∀m:Nat,(∀(a:List Pattern) (k:Int),SizeOf.sizeOf a<m->MCall zQ B 50 (zA zM a) [.int .i64 k] (zA zM (zN a k).1) (.int .i64 (zN a k).2)):=by
 intro m
 induction m with
 |zero=>exact fun a k h=>absurd h (zK _)
 |succ m ih=>
  intro a0 k0 hm
  have hz0:∀x,x∈a0->SizeOf.sizeOf x<m:=fun x hx=>by have:=zF hx;omega
  have loop:∀(rest D:List Pattern) (k:Int) (i n:Nat) (rows:List (List AV)) (us:List Go.Value),(∀x,x∈rest->SizeOf.sizeOf x<m)->i=D.length->n=i+rest.length->RW 6 n rows us->
    ∀(c:Code),ZQ [1,0,1,0,0] (ZG Tryz.f50)=some c->∀(Q:Exit->ASt->Prop),
    (∀(R:List (List AV)) (U:List Go.Value),RW 6 n R U->Q (.exit 0) ⟨[(1,.lit (.int .i64 (zN rest k).2))],[.elems 6 R,.pack (List.flatten (zA zM (D++(zN rest k).1))) U]⟩)->
    ALoopU zQ B 2 55 (hold c .mk) ⟨[(0,.own 0 n),(1,.lit (.int .i64 k)),(5,.lit (.int .i64 (i:Int)))],[.elems 6 rows,.pack (List.flatten (zA zM (D++rest))) us]⟩ (hold Q .mk):=by
   intro rest
   induction rest with
   |nil=>
    intro D k i n rows us hz hi hn H c hc Q hq
    obtain rfl:c=_:=ZAI hc rfl
    have hn':n=i:=by simpa using hn
    subst hn'
    refine eN ?_
    repeat first|refine cg ?_|simp -dsimp[RW.len H]
    refine lG ⟨[(1,.lit (.int .i64 k))],[.elems 6 rows,.pack (List.flatten (zA zM D)) us]⟩ (gT (by simp) (by simp -dsimp[RW.closed H])) ?_
    simpa[zN]using hq rows us H
   |cons x r ihr=>
    intro D k i n rows us hz hi hn H c hc Q hq
    refine xD 1 (List.flatten (zA zM D)) (zM x) (List.flatten (zA zM r)) rfl (by simp) (by simp) ?_
    intro h1 vs UA UC o_h1 hlt hU hlA
    have hv:vs=[.int .i64 x.op,.int .i64 x.ctor,.int .i64 x.n,.int .i64 x.m,.int .i64 x.var,h1]:=by apply ZAs;rw[←hlt];simp
    subst hv hU
    have hUA:UA.length=i*6:=by rw[hlA,ZAC zO,hi]
    have hin:i<n:=by simp at hn;omega
    have hrow:rows[i]? =some [.lit (.int .i64 x.op),.lit (.int .i64 x.ctor),.lit (.int .i64 x.n),.lit (.int .i64 x.m),.lit (.int .i64 x.var),.lit h1]:=by simpa using H.at hin rfl hUA rfl
    have hne:¬rows=[]:=by intro e;rw[e]at hrow;simp at hrow
    have hrl:=RW.len H
    have hrow':∀(h:i<rows.length),rows[i]=[.lit (.int .i64 x.op),.lit (.int .i64 x.ctor),.lit (.int .i64 x.n),.lit (.int .i64 x.m),.lit (.int .i64 x.var),.lit h1]:=fun h=>by rw[zC h]at hrow;exact zL hrow
    have hset:∀a,(rows.set i a)[i]? =some a:=fun a=>zE (by omega)
    clear hlt
    refine xC fun hk hs=> ?_
    have d0:=hs 0 _ rfl
    simp -dsimp[zW]at d0
    clear hk hs
    obtain rfl:c=_:=ZAI hc rfl
    have w1:i64.wrap ((i:Int)+1)=(i:Int)+1:=ZD (by omega) (by omega)
    refine eN ?_
    repeat first|refine cg ?_|simp -dsimp[hne,hrow,hrow',hset,hrl,hin,w1,List.set_set,o_h1]
    have sz0:SizeOf.sizeOf x.kids<m:=by have h0:=hz x (by simp);cases x;simp at h0 ⊢;omega
    refine(ih x.kids (i64.wrap ((i64.wrap ((i64.wrap ((i64.wrap ((i64.wrap (k+1))+1))+1))+1))+1)) sz0).go 2 rfl (by simp) ?_
    refine kx1 w1 ?_
    refine aG ⟨[(0,.own 0 n),(1,.lit (.int .i64 ((zN x.kids (i64.wrap ((i64.wrap ((i64.wrap ((i64.wrap ((i64.wrap (k+1))+1))+1))+1))+1))).2))),(5,.lit (.int .i64 ((i+1:Nat):Int)))],[.elems 6 (rows.set i [.lit (.int .i64 k),.lit (.int .i64 (i64.wrap (k+1))),.lit (.int .i64 (i64.wrap ((i64.wrap (k+1))+1))),.lit (.int .i64 (i64.wrap ((i64.wrap ((i64.wrap (k+1))+1))+1))),.lit (.int .i64 (i64.wrap ((i64.wrap ((i64.wrap ((i64.wrap (k+1))+1))+1))+1))),.lit h1]),.pack (List.flatten (zA zM ((D++[(⟨k,i64.wrap (k+1),i64.wrap ((i64.wrap (k+1))+1),i64.wrap ((i64.wrap ((i64.wrap (k+1))+1))+1),i64.wrap ((i64.wrap ((i64.wrap ((i64.wrap (k+1))+1))+1))+1),(zN x.kids (i64.wrap ((i64.wrap ((i64.wrap ((i64.wrap ((i64.wrap (k+1))+1))+1))+1))+1))).1⟩:Pattern)])++r))) (UA++([.int .i64 k,.int .i64 (i64.wrap (k+1)),.int .i64 (i64.wrap ((i64.wrap (k+1))+1)),.int .i64 (i64.wrap ((i64.wrap ((i64.wrap (k+1))+1))+1)),.int .i64 (i64.wrap ((i64.wrap ((i64.wrap ((i64.wrap (k+1))+1))+1))+1)),h1]++UC))]⟩
     (by refine yG (yH 1 [2] (XA:=List.flatten (zA zM D)) (old:=[.lit (.int .i64 x.op),.lit (.int .i64 x.ctor),.lit (.int .i64 x.n),.lit (.int .i64 x.m),.lit (.int .i64 x.var),.lit h1]) (XC:=List.flatten (zA zM r)) (UA:=UA) (uo:=[.int .i64 x.op,.int .i64 x.ctor,.int .i64 x.n,.int .i64 x.m,.int .i64 x.var,h1]) (UC:=UC) (by exact rfl) (by simp) (by simp) hlA rfl (.lit (.int .i64 k) (.lit (.int .i64 (i64.wrap (k+1))) (.lit (.int .i64 (i64.wrap ((i64.wrap (k+1))+1))) (.lit (.int .i64 (i64.wrap ((i64.wrap ((i64.wrap (k+1))+1))+1))) (.lit (.int .i64 (i64.wrap ((i64.wrap ((i64.wrap ((i64.wrap (k+1))+1))+1))+1))) (.pk 2 (by exact rfl) .nil)))))) (by decide)) ?_;exact gT (by simp) (by simp -dsimp[RW.closed H])) ?_
    have he:zN (x::r) k=((⟨k,i64.wrap (k+1),i64.wrap ((i64.wrap (k+1))+1),i64.wrap ((i64.wrap ((i64.wrap (k+1))+1))+1),i64.wrap ((i64.wrap ((i64.wrap ((i64.wrap (k+1))+1))+1))+1),(zN x.kids (i64.wrap ((i64.wrap ((i64.wrap ((i64.wrap ((i64.wrap (k+1))+1))+1))+1))+1))).1⟩:Pattern)::(zN r ((zN x.kids (i64.wrap ((i64.wrap ((i64.wrap ((i64.wrap ((i64.wrap (k+1))+1))+1))+1))+1))).2)).1,(zN r ((zN x.kids (i64.wrap ((i64.wrap ((i64.wrap ((i64.wrap ((i64.wrap (k+1))+1))+1))+1))+1))).2)).2):=by(first|rfl|(cases x;simp[zN,zR]))
    rw[he]at hq
    refine ihr (D++[(⟨k,i64.wrap (k+1),i64.wrap ((i64.wrap (k+1))+1),i64.wrap ((i64.wrap ((i64.wrap (k+1))+1))+1),i64.wrap ((i64.wrap ((i64.wrap ((i64.wrap (k+1))+1))+1))+1),(zN x.kids (i64.wrap ((i64.wrap ((i64.wrap ((i64.wrap ((i64.wrap (k+1))+1))+1))+1))+1))).1⟩:Pattern)]) _ (i+1) n _ _ (fun y hy=>hz y (zG _ hy)) (by simp[hi]) (by simp at hn;omega) (by simpa using H.setAt hin hUA rfl [.int .i64 k,.int .i64 (i64.wrap (k+1)),.int .i64 (i64.wrap ((i64.wrap (k+1))+1)),.int .i64 (i64.wrap ((i64.wrap ((i64.wrap (k+1))+1))+1)),.int .i64 (i64.wrap ((i64.wrap ((i64.wrap ((i64.wrap (k+1))+1))+1))+1)),h1] rfl) _ rfl _ fun R U hR=> ?_
    simpa using hq R U hR
  refine MCall.enter 6 func50 (by kernel_rfl) rfl ntmps50 (by simp) (by simp[zP]) (fun e he=>by obtain⟨x,_,rfl⟩:=zD.1 he;exact zO x) ?_ ?_
  ·intro he
   have he:a0=[]:=by simpa using he
   subst he
   refine kx0 ?_
   refine yE ⟨[(0,.arr []),(1,.lit (.int .i64 k0)),(5,.lit (.int .i64 0))],[]⟩ (gT (by simp) (by simp -dsimp)) ?_
   refine eN ?_
   refine kx0 ?_
   refine lG _ (gR _) ?_
   repeat first|refine cg ?_|simp -dsimp
   all_goals(try simp[zN])
  ·intro hne rows us e1 e2 e3 e4
   have H:RW 6 a0.length rows us:=⟨by simpa using e2,e3,e1⟩
   refine kx0 ?_
   refine yE ⟨[(0,.own 0 a0.length),(1,.lit (.int .i64 k0)),(5,.lit (.int .i64 ((0:Nat):Int)))],[.elems 6 rows,.pack (List.flatten (zA zM ([]++a0))) us]⟩ (gT (by simp) (by simp -dsimp[RW.closed H])) ?_
   refine loop a0 [] k0 0 a0.length rows us hz0 rfl (by simp) H _ rfl _ ?_
   intro R U hR
   refine kx0 ?_
   exact⟨rfl,R,U,rfl,⟨1,by simp⟩,hR.2.2,by rw[hR.1];simp[zP],fun x hx=>by obtain⟨y,_,rfl⟩:=zD.1 hx;exact zO y⟩
theorem C.f257 (a:List Pattern)(k:Int)(v:List Pattern×Int)(hF:F.f257 a k=some v):MCall zQ B 50 (zA zM a) [.int .i64 k] (zA zM v.1) (.int .i64 v.2):=by
 obtain rfl:=zL hF
 exact(CM.laws_markPatternS B hB1 hB2 (SizeOf.sizeOf a+1)) a k (Nat.lt_succ_self _)
theorem CM.laws_markClauseS :∀m:Nat,(∀(a:List Clause) (k:Int),SizeOf.sizeOf a<m->MCall zQ B 20 (zA yL a) [.int .i64 k] (zA yL (yM a k).1) (.int .i64 (yM a k).2)):=by
 intro m
 induction m with
 |zero=>exact fun a k h=>absurd h (zK _)
 |succ m ih=>
  intro a0 k0 hm
  have hz0:∀x,x∈a0->SizeOf.sizeOf x<m:=fun x hx=>by have:=zF hx;omega
  have loop:∀(rest D:List Clause) (k:Int) (i n:Nat) (rows:List (List AV)) (us:List Go.Value),(∀x,x∈rest->SizeOf.sizeOf x<m)->i=D.length->n=i+rest.length->RW 9 n rows us->
    ∀(c:Code),ZQ [1,0,1,0,0] (ZG Tryz.f20)=some c->∀(Q:Exit->ASt->Prop),
    (∀(R:List (List AV)) (U:List Go.Value),RW 9 n R U->Q (.exit 0) ⟨[(1,.lit (.int .i64 (yM rest k).2))],[.elems 9 R,.pack (List.flatten (zA yL (D++(yM rest k).1))) U]⟩)->
    ALoopU zQ B 2 85 (hold c .mk) ⟨[(0,.own 0 n),(1,.lit (.int .i64 k)),(5,.lit (.int .i64 (i:Int)))],[.elems 9 rows,.pack (List.flatten (zA yL (D++rest))) us]⟩ (hold Q .mk):=by
   intro rest
   induction rest with
   |nil=>
    intro D k i n rows us hz hi hn H c hc Q hq
    obtain rfl:c=_:=ZAI hc rfl
    have hn':n=i:=by simpa using hn
    subst hn'
    refine eN ?_
    repeat first|refine cg ?_|simp -dsimp[RW.len H]
    refine lG ⟨[(1,.lit (.int .i64 k))],[.elems 9 rows,.pack (List.flatten (zA yL D)) us]⟩ (gT (by simp) (by simp -dsimp[RW.closed H])) ?_
    simpa[yM]using hq rows us H
   |cons x r ihr=>
    intro D k i n rows us hz hi hn H c hc Q hq
    refine xD 1 (List.flatten (zA yL D)) (yL x) (List.flatten (zA yL r)) rfl (by simp) (by simp) ?_
    intro h1 vs UA UC o_h1 hlt hU hlA
    have hv:vs=[.int .i64 x.pat.op,.int .i64 x.pat.ctor,.int .i64 x.pat.n,.int .i64 x.pat.m,.int .i64 x.pat.var,h1,.int .i64 x.guard.op,.int .i64 x.guard.var,.int .i64 x.guard.n]:=by apply ZAs;rw[←hlt];simp
    subst hv hU
    have hUA:UA.length=i*9:=by rw[hlA,ZAC yN,hi]
    have hin:i<n:=by simp at hn;omega
    have hrow:rows[i]? =some [.lit (.int .i64 x.pat.op),.lit (.int .i64 x.pat.ctor),.lit (.int .i64 x.pat.n),.lit (.int .i64 x.pat.m),.lit (.int .i64 x.pat.var),.lit h1,.lit (.int .i64 x.guard.op),.lit (.int .i64 x.guard.var),.lit (.int .i64 x.guard.n)]:=by simpa using H.at hin rfl hUA rfl
    have hne:¬rows=[]:=by intro e;rw[e]at hrow;simp at hrow
    have hrl:=RW.len H
    have hrow':∀(h:i<rows.length),rows[i]=[.lit (.int .i64 x.pat.op),.lit (.int .i64 x.pat.ctor),.lit (.int .i64 x.pat.n),.lit (.int .i64 x.pat.m),.lit (.int .i64 x.pat.var),.lit h1,.lit (.int .i64 x.guard.op),.lit (.int .i64 x.guard.var),.lit (.int .i64 x.guard.n)]:=fun h=>by rw[zC h]at hrow;exact zL hrow
    have hset:∀a,(rows.set i a)[i]? =some a:=fun a=>zE (by omega)
    clear hlt
    refine xC fun hk hs=> ?_
    have d0:=hs 0 _ rfl
    simp -dsimp[zW]at d0
    clear hk hs
    obtain rfl:c=_:=ZAI hc rfl
    have w1:i64.wrap ((i:Int)+1)=(i:Int)+1:=ZD (by omega) (by omega)
    refine eN ?_
    repeat first|refine cg ?_|simp -dsimp[hne,hrow,hrow',hset,hrl,hin,w1,List.set_set,o_h1]
    refine(C.f257 B hB1 hB2 x.pat.kids (i64.wrap ((i64.wrap ((i64.wrap ((i64.wrap ((i64.wrap (k+1))+1))+1))+1))+1)) _ rfl).go 2 rfl (by simp) ?_
    repeat first|refine cg ?_|simp -dsimp[hne,hrow,hrow',hset,hrl,hin,w1,List.set_set,o_h1]
    refine aG ⟨[(0,.own 0 n),(1,.lit (.int .i64 (i64.wrap ((i64.wrap ((i64.wrap (((zN x.pat.kids (i64.wrap ((i64.wrap ((i64.wrap ((i64.wrap ((i64.wrap (k+1))+1))+1))+1))+1))).2)+1))+1))+1)))),(5,.lit (.int .i64 ((i+1:Nat):Int)))],[.elems 9 (rows.set i [.lit (.int .i64 k),.lit (.int .i64 (i64.wrap (k+1))),.lit (.int .i64 (i64.wrap ((i64.wrap (k+1))+1))),.lit (.int .i64 (i64.wrap ((i64.wrap ((i64.wrap (k+1))+1))+1))),.lit (.int .i64 (i64.wrap ((i64.wrap ((i64.wrap ((i64.wrap (k+1))+1))+1))+1))),.lit h1,.lit (.int .i64 ((zN x.pat.kids (i64.wrap ((i64.wrap ((i64.wrap ((i64.wrap ((i64.wrap (k+1))+1))+1))+1))+1))).2)),.lit (.int .i64 (i64.wrap (((zN x.pat.kids (i64.wrap ((i64.wrap ((i64.wrap ((i64.wrap ((i64.wrap (k+1))+1))+1))+1))+1))).2)+1))),.lit (.int .i64 (i64.wrap ((i64.wrap (((zN x.pat.kids (i64.wrap ((i64.wrap ((i64.wrap ((i64.wrap ((i64.wrap (k+1))+1))+1))+1))+1))).2)+1))+1)))]),.pack (List.flatten (zA yL ((D++[(⟨(⟨k,i64.wrap (k+1),i64.wrap ((i64.wrap (k+1))+1),i64.wrap ((i64.wrap ((i64.wrap (k+1))+1))+1),i64.wrap ((i64.wrap ((i64.wrap ((i64.wrap (k+1))+1))+1))+1),(zN x.pat.kids (i64.wrap ((i64.wrap ((i64.wrap ((i64.wrap ((i64.wrap (k+1))+1))+1))+1))+1))).1⟩:Pattern),(⟨(zN x.pat.kids (i64.wrap ((i64.wrap ((i64.wrap ((i64.wrap ((i64.wrap (k+1))+1))+1))+1))+1))).2,i64.wrap (((zN x.pat.kids (i64.wrap ((i64.wrap ((i64.wrap ((i64.wrap ((i64.wrap (k+1))+1))+1))+1))+1))).2)+1),i64.wrap ((i64.wrap (((zN x.pat.kids (i64.wrap ((i64.wrap ((i64.wrap ((i64.wrap ((i64.wrap (k+1))+1))+1))+1))+1))).2)+1))+1)⟩:Guard)⟩:Clause)])++r))) (UA++([.int .i64 k,.int .i64 (i64.wrap (k+1)),.int .i64 (i64.wrap ((i64.wrap (k+1))+1)),.int .i64 (i64.wrap ((i64.wrap ((i64.wrap (k+1))+1))+1)),.int .i64 (i64.wrap ((i64.wrap ((i64.wrap ((i64.wrap (k+1))+1))+1))+1)),h1,.int .i64 ((zN x.pat.kids (i64.wrap ((i64.wrap ((i64.wrap ((i64.wrap ((i64.wrap (k+1))+1))+1))+1))+1))).2),.int .i64 (i64.wrap (((zN x.pat.kids (i64.wrap ((i64.wrap ((i64.wrap ((i64.wrap ((i64.wrap (k+1))+1))+1))+1))+1))).2)+1)),.int .i64 (i64.wrap ((i64.wrap (((zN x.pat.kids (i64.wrap ((i64.wrap ((i64.wrap ((i64.wrap ((i64.wrap (k+1))+1))+1))+1))+1))).2)+1))+1))]++UC))]⟩
     (by refine yG (yH 1 [2] (XA:=List.flatten (zA yL D)) (old:=[.lit (.int .i64 x.pat.op),.lit (.int .i64 x.pat.ctor),.lit (.int .i64 x.pat.n),.lit (.int .i64 x.pat.m),.lit (.int .i64 x.pat.var),.lit h1,.lit (.int .i64 x.guard.op),.lit (.int .i64 x.guard.var),.lit (.int .i64 x.guard.n)]) (XC:=List.flatten (zA yL r)) (UA:=UA) (uo:=[.int .i64 x.pat.op,.int .i64 x.pat.ctor,.int .i64 x.pat.n,.int .i64 x.pat.m,.int .i64 x.pat.var,h1,.int .i64 x.guard.op,.int .i64 x.guard.var,.int .i64 x.guard.n]) (UC:=UC) (by exact rfl) (by simp) (by simp) hlA rfl (.lit (.int .i64 k) (.lit (.int .i64 (i64.wrap (k+1))) (.lit (.int .i64 (i64.wrap ((i64.wrap (k+1))+1))) (.lit (.int .i64 (i64.wrap ((i64.wrap ((i64.wrap (k+1))+1))+1))) (.lit (.int .i64 (i64.wrap ((i64.wrap ((i64.wrap ((i64.wrap (k+1))+1))+1))+1))) (.pk 2 (by exact rfl) (.lit (.int .i64 ((zN x.pat.kids (i64.wrap ((i64.wrap ((i64.wrap ((i64.wrap ((i64.wrap (k+1))+1))+1))+1))+1))).2)) (.lit (.int .i64 (i64.wrap (((zN x.pat.kids (i64.wrap ((i64.wrap ((i64.wrap ((i64.wrap ((i64.wrap (k+1))+1))+1))+1))+1))).2)+1))) (.lit (.int .i64 (i64.wrap ((i64.wrap (((zN x.pat.kids (i64.wrap ((i64.wrap ((i64.wrap ((i64.wrap ((i64.wrap (k+1))+1))+1))+1))+1))).2)+1))+1))) .nil))))))))) (by decide)) ?_;exact gT (by simp) (by simp -dsimp[RW.closed H])) ?_
    have he:yM (x::r) k=((⟨(⟨k,i64.wrap (k+1),i64.wrap ((i64.wrap (k+1))+1),i64.wrap ((i64.wrap ((i64.wrap (k+1))+1))+1),i64.wrap ((i64.wrap ((i64.wrap ((i64.wrap (k+1))+1))+1))+1),(zN x.pat.kids (i64.wrap ((i64.wrap ((i64.wrap ((i64.wrap ((i64.wrap (k+1))+1))+1))+1))+1))).1⟩:Pattern),(⟨(zN x.pat.kids (i64.wrap ((i64.wrap ((i64.wrap ((i64.wrap ((i64.wrap (k+1))+1))+1))+1))+1))).2,i64.wrap (((zN x.pat.kids (i64.wrap ((i64.wrap ((i64.wrap ((i64.wrap ((i64.wrap (k+1))+1))+1))+1))+1))).2)+1),i64.wrap ((i64.wrap (((zN x.pat.kids (i64.wrap ((i64.wrap ((i64.wrap ((i64.wrap ((i64.wrap (k+1))+1))+1))+1))+1))).2)+1))+1)⟩:Guard)⟩:Clause)::(yM r (i64.wrap ((i64.wrap ((i64.wrap (((zN x.pat.kids (i64.wrap ((i64.wrap ((i64.wrap ((i64.wrap ((i64.wrap (k+1))+1))+1))+1))+1))).2)+1))+1))+1))).1,(yM r (i64.wrap ((i64.wrap ((i64.wrap (((zN x.pat.kids (i64.wrap ((i64.wrap ((i64.wrap ((i64.wrap ((i64.wrap (k+1))+1))+1))+1))+1))).2)+1))+1))+1))).2):=by(first|rfl|(cases x;all_goals(try(rename_i t1 t0;cases t1;cases t0));simp[yM,Clause.mkE,zR,Guard.mkE]))
    rw[he]at hq
    refine ihr (D++[(⟨(⟨k,i64.wrap (k+1),i64.wrap ((i64.wrap (k+1))+1),i64.wrap ((i64.wrap ((i64.wrap (k+1))+1))+1),i64.wrap ((i64.wrap ((i64.wrap ((i64.wrap (k+1))+1))+1))+1),(zN x.pat.kids (i64.wrap ((i64.wrap ((i64.wrap ((i64.wrap ((i64.wrap (k+1))+1))+1))+1))+1))).1⟩:Pattern),(⟨(zN x.pat.kids (i64.wrap ((i64.wrap ((i64.wrap ((i64.wrap ((i64.wrap (k+1))+1))+1))+1))+1))).2,i64.wrap (((zN x.pat.kids (i64.wrap ((i64.wrap ((i64.wrap ((i64.wrap ((i64.wrap (k+1))+1))+1))+1))+1))).2)+1),i64.wrap ((i64.wrap (((zN x.pat.kids (i64.wrap ((i64.wrap ((i64.wrap ((i64.wrap ((i64.wrap (k+1))+1))+1))+1))+1))).2)+1))+1)⟩:Guard)⟩:Clause)]) _ (i+1) n _ _ (fun y hy=>hz y (zG _ hy)) (by simp[hi]) (by simp at hn;omega) (by simpa using H.setAt hin hUA rfl [.int .i64 k,.int .i64 (i64.wrap (k+1)),.int .i64 (i64.wrap ((i64.wrap (k+1))+1)),.int .i64 (i64.wrap ((i64.wrap ((i64.wrap (k+1))+1))+1)),.int .i64 (i64.wrap ((i64.wrap ((i64.wrap ((i64.wrap (k+1))+1))+1))+1)),h1,.int .i64 ((zN x.pat.kids (i64.wrap ((i64.wrap ((i64.wrap ((i64.wrap ((i64.wrap (k+1))+1))+1))+1))+1))).2),.int .i64 (i64.wrap (((zN x.pat.kids (i64.wrap ((i64.wrap ((i64.wrap ((i64.wrap ((i64.wrap (k+1))+1))+1))+1))+1))).2)+1)),.int .i64 (i64.wrap ((i64.wrap (((zN x.pat.kids (i64.wrap ((i64.wrap ((i64.wrap ((i64.wrap ((i64.wrap (k+1))+1))+1))+1))+1))).2)+1))+1))] rfl) _ rfl _ fun R U hR=> ?_
    simpa using hq R U hR
  refine MCall.enter 9 func20 (by kernel_rfl) rfl ntmps20 (by simp) (by simp[yO]) (fun e he=>by obtain⟨x,_,rfl⟩:=zD.1 he;exact yN x) ?_ ?_
  ·intro he
   have he:a0=[]:=by simpa using he
   subst he
   refine kx0 ?_
   refine yE ⟨[(0,.arr []),(1,.lit (.int .i64 k0)),(5,.lit (.int .i64 0))],[]⟩ (gT (by simp) (by simp -dsimp)) ?_
   refine eN ?_
   refine kx0 ?_
   refine lG _ (gR _) ?_
   repeat first|refine cg ?_|simp -dsimp
   all_goals(try simp[yM])
  ·intro hne rows us e1 e2 e3 e4
   have H:RW 9 a0.length rows us:=⟨by simpa using e2,e3,e1⟩
   refine kx0 ?_
   refine yE ⟨[(0,.own 0 a0.length),(1,.lit (.int .i64 k0)),(5,.lit (.int .i64 ((0:Nat):Int)))],[.elems 9 rows,.pack (List.flatten (zA yL ([]++a0))) us]⟩ (gT (by simp) (by simp -dsimp[RW.closed H])) ?_
   refine loop a0 [] k0 0 a0.length rows us hz0 rfl (by simp) H _ rfl _ ?_
   intro R U hR
   refine kx0 ?_
   exact⟨rfl,R,U,rfl,⟨1,by simp⟩,hR.2.2,by rw[hR.1];simp[yO],fun x hx=>by obtain⟨y,_,rfl⟩:=zD.1 hx;exact yN y⟩
theorem C.f258 (a:List Clause)(k:Int)(v:List Clause×Int)(hF:F.f258 a k=some v):MCall zQ B 20 (zA yL a) [.int .i64 k] (zA yL v.1) (.int .i64 v.2):=by
 obtain rfl:=zL hF
 exact(CM.laws_markClauseS B hB1 hB2 (SizeOf.sizeOf a+1)) a k (Nat.lt_succ_self _)
theorem CM.laws_markTypeS :∀m:Nat,(∀(a:List Ty) (k:Int),SizeOf.sizeOf a<m->MCall zQ B 93 (zA yZ a) [.int .i64 k] (zA yZ (yY a k).1) (.int .i64 (yY a k).2)):=by
 intro m
 induction m with
 |zero=>exact fun a k h=>absurd h (zK _)
 |succ m ih=>
  intro a0 k0 hm
  have hz0:∀x,x∈a0->SizeOf.sizeOf x<m:=fun x hx=>by have:=zF hx;omega
  have loop:∀(rest D:List Ty) (k:Int) (i n:Nat) (rows:List (List AV)) (us:List Go.Value),(∀x,x∈rest->SizeOf.sizeOf x<m)->i=D.length->n=i+rest.length->RW 2 n rows us->
    ∀(c:Code),ZQ [1,0,1,0,0] (ZG Tryz.f93)=some c->∀(Q:Exit->ASt->Prop),
    (∀(R:List (List AV)) (U:List Go.Value),RW 2 n R U->Q (.exit 0) ⟨[(1,.lit (.int .i64 (yY rest k).2))],[.elems 2 R,.pack (List.flatten (zA yZ (D++(yY rest k).1))) U]⟩)->
    ALoopU zQ B 2 27 (hold c .mk) ⟨[(0,.own 0 n),(1,.lit (.int .i64 k)),(5,.lit (.int .i64 (i:Int)))],[.elems 2 rows,.pack (List.flatten (zA yZ (D++rest))) us]⟩ (hold Q .mk):=by
   intro rest
   induction rest with
   |nil=>
    intro D k i n rows us hz hi hn H c hc Q hq
    obtain rfl:c=_:=ZAI hc rfl
    have hn':n=i:=by simpa using hn
    subst hn'
    refine eN ?_
    repeat first|refine cg ?_|simp -dsimp[RW.len H]
    refine lG ⟨[(1,.lit (.int .i64 k))],[.elems 2 rows,.pack (List.flatten (zA yZ D)) us]⟩ (gT (by simp) (by simp -dsimp[RW.closed H])) ?_
    simpa[yY]using hq rows us H
   |cons x r ihr=>
    intro D k i n rows us hz hi hn H c hc Q hq
    refine xE 1 (List.flatten (zA yZ D)) (yZ x) (List.flatten (zA yZ r)) rfl (by simp) ?_
    intro hs vs UA UC hl ho hlt hU hlA
    have hs0:hs=[]:=zJ.1 (by simpa using hl)
    subst hs0
    have hv:vs=[.int .i64 x.data,.int .i64 x.index]:=by apply ZAs;rw[←hlt];simp
    subst hv hU
    have hUA:UA.length=i*2:=by rw[hlA,ZAC xA,hi]
    have hin:i<n:=by simp at hn;omega
    have hrow:rows[i]? =some [.lit (.int .i64 x.data),.lit (.int .i64 x.index)]:=by simpa using H.at hin rfl hUA rfl
    have hne:¬rows=[]:=by intro e;rw[e]at hrow;simp at hrow
    have hrl:=RW.len H
    have hrow':∀(h:i<rows.length),rows[i]=[.lit (.int .i64 x.data),.lit (.int .i64 x.index)]:=fun h=>by rw[zC h]at hrow;exact zL hrow
    have hset:∀a,(rows.set i a)[i]? =some a:=fun a=>zE (by omega)
    clear hlt
    refine xC fun hk hs=> ?_
    have d0:=hs 0 _ rfl
    simp -dsimp[zW]at d0
    clear hk hs
    obtain rfl:c=_:=ZAI hc rfl
    have w1:i64.wrap ((i:Int)+1)=(i:Int)+1:=ZD (by omega) (by omega)
    refine eN ?_
    repeat first|refine cg ?_|simp -dsimp[hne,hrow,hrow',hset,hrl,hin,w1,List.set_set]
    refine aG ⟨[(0,.own 0 n),(1,.lit (.int .i64 (i64.wrap ((i64.wrap (k+1))+1)))),(5,.lit (.int .i64 ((i+1:Nat):Int)))],[.elems 2 (rows.set i [.lit (.int .i64 k),.lit (.int .i64 (i64.wrap (k+1)))]),.pack (List.flatten (zA yZ ((D++[(⟨k,i64.wrap (k+1)⟩:Ty)])++r))) (UA++([.int .i64 k,.int .i64 (i64.wrap (k+1))]++UC))]⟩
     (by refine yG (yH 1 [] (XA:=List.flatten (zA yZ D)) (old:=[.lit (.int .i64 x.data),.lit (.int .i64 x.index)]) (XC:=List.flatten (zA yZ r)) (UA:=UA) (uo:=[.int .i64 x.data,.int .i64 x.index]) (UC:=UC) (by exact rfl) (by simp) (by simp) hlA rfl (.lit (.int .i64 k) (.lit (.int .i64 (i64.wrap (k+1))) .nil)) (by decide)) ?_;exact gT (by simp) (by simp -dsimp[RW.closed H])) ?_
    have he:yY (x::r) k=((⟨k,i64.wrap (k+1)⟩:Ty)::(yY r (i64.wrap ((i64.wrap (k+1))+1))).1,(yY r (i64.wrap ((i64.wrap (k+1))+1))).2):=by(first|rfl|(cases x;simp[yY,Ty.mkE]))
    rw[he]at hq
    refine ihr (D++[(⟨k,i64.wrap (k+1)⟩:Ty)]) _ (i+1) n _ _ (fun y hy=>hz y (zG _ hy)) (by simp[hi]) (by simp at hn;omega) (by simpa using H.setAt hin hUA rfl [.int .i64 k,.int .i64 (i64.wrap (k+1))] rfl) _ rfl _ fun R U hR=> ?_
    simpa using hq R U hR
  refine MCall.enter 2 func93 (by kernel_rfl) rfl ntmps93 (by simp) (by simp[xB]) (fun e he=>by obtain⟨x,_,rfl⟩:=zD.1 he;exact xA x) ?_ ?_
  ·intro he
   have he:a0=[]:=by simpa using he
   subst he
   refine kx0 ?_
   refine yE ⟨[(0,.arr []),(1,.lit (.int .i64 k0)),(5,.lit (.int .i64 0))],[]⟩ (gT (by simp) (by simp -dsimp)) ?_
   refine eN ?_
   refine kx0 ?_
   refine lG _ (gR _) ?_
   repeat first|refine cg ?_|simp -dsimp
   all_goals(try simp[yY])
  ·intro hne rows us e1 e2 e3 e4
   have H:RW 2 a0.length rows us:=⟨by simpa using e2,e3,e1⟩
   refine kx0 ?_
   refine yE ⟨[(0,.own 0 a0.length),(1,.lit (.int .i64 k0)),(5,.lit (.int .i64 ((0:Nat):Int)))],[.elems 2 rows,.pack (List.flatten (zA yZ ([]++a0))) us]⟩ (gT (by simp) (by simp -dsimp[RW.closed H])) ?_
   refine loop a0 [] k0 0 a0.length rows us hz0 rfl (by simp) H _ rfl _ ?_
   intro R U hR
   refine kx0 ?_
   exact⟨rfl,R,U,rfl,⟨1,by simp⟩,hR.2.2,by rw[hR.1];simp[xB],fun x hx=>by obtain⟨y,_,rfl⟩:=zD.1 hx;exact xA y⟩
theorem C.f261 (a:List Ty)(k:Int)(v:List Ty×Int)(hF:F.f261 a k=some v):MCall zQ B 93 (zA yZ a) [.int .i64 k] (zA yZ v.1) (.int .i64 v.2):=by
 obtain rfl:=zL hF
 exact(CM.laws_markTypeS B hB1 hB2 (SizeOf.sizeOf a+1)) a k (Nat.lt_succ_self _)
theorem CM.laws_markCtorS :∀m:Nat,(∀(a:List Ctor) (k:Int),SizeOf.sizeOf a<m->MCall zQ B 49 (zA xH a) [.int .i64 k] (zA xH (xG mtF a k).1) (.int .i64 (xG mtF a k).2)):=by
 intro m
 induction m with
 |zero=>exact fun a k h=>absurd h (zK _)
 |succ m ih=>
  intro a0 k0 hm
  have hz0:∀x,x∈a0->SizeOf.sizeOf x<m:=fun x hx=>by have:=zF hx;omega
  have loop:∀(rest D:List Ctor) (k:Int) (i n:Nat) (rows:List (List AV)) (us:List Go.Value),(∀x,x∈rest->SizeOf.sizeOf x<m)->i=D.length->n=i+rest.length->RW 3 n rows us->
    ∀(c:Code),ZQ [1,0,1,0,0] (ZG Tryz.f49)=some c->∀(Q:Exit->ASt->Prop),
    (∀(R:List (List AV)) (U:List Go.Value),RW 3 n R U->Q (.exit 0) ⟨[(1,.lit (.int .i64 (xG mtF rest k).2))],[.elems 3 R,.pack (List.flatten (zA xH (D++(xG mtF rest k).1))) U]⟩)->
    ALoopU zQ B 2 35 (hold c .mk) ⟨[(0,.own 0 n),(1,.lit (.int .i64 k)),(5,.lit (.int .i64 (i:Int)))],[.elems 3 rows,.pack (List.flatten (zA xH (D++rest))) us]⟩ (hold Q .mk):=by
   intro rest
   induction rest with
   |nil=>
    intro D k i n rows us hz hi hn H c hc Q hq
    obtain rfl:c=_:=ZAI hc rfl
    have hn':n=i:=by simpa using hn
    subst hn'
    refine eN ?_
    repeat first|refine cg ?_|simp -dsimp[RW.len H]
    refine lG ⟨[(1,.lit (.int .i64 k))],[.elems 3 rows,.pack (List.flatten (zA xH D)) us]⟩ (gT (by simp) (by simp -dsimp[RW.closed H])) ?_
    simpa[xG]using hq rows us H
   |cons x r ihr=>
    intro D k i n rows us hz hi hn H c hc Q hq
    refine xD 1 (List.flatten (zA xH D)) (xH x) (List.flatten (zA xH r)) rfl (by simp) (by simp) ?_
    intro h1 vs UA UC o_h1 hlt hU hlA
    have hv:vs=[.string x.name,h1,.int .i64 x.index]:=by apply ZAs;rw[←hlt];simp
    subst hv hU
    have hUA:UA.length=i*3:=by rw[hlA,ZAC xI,hi]
    have hin:i<n:=by simp at hn;omega
    have hrow:rows[i]? =some [.lit (.string x.name),.lit h1,.lit (.int .i64 x.index)]:=by simpa using H.at hin rfl hUA rfl
    have hne:¬rows=[]:=by intro e;rw[e]at hrow;simp at hrow
    have hrl:=RW.len H
    have hrow':∀(h:i<rows.length),rows[i]=[.lit (.string x.name),.lit h1,.lit (.int .i64 x.index)]:=fun h=>by rw[zC h]at hrow;exact zL hrow
    have hset:∀a,(rows.set i a)[i]? =some a:=fun a=>zE (by omega)
    clear hlt
    refine xC fun hk hs=> ?_
    have d0:=hs 0 _ rfl
    simp -dsimp[zW]at d0
    clear hk hs
    obtain rfl:c=_:=ZAI hc rfl
    have w1:i64.wrap ((i:Int)+1)=(i:Int)+1:=ZD (by omega) (by omega)
    refine eN ?_
    repeat first|refine cg ?_|simp -dsimp[hne,hrow,hrow',hset,hrl,hin,w1,List.set_set,o_h1]
    refine(C.f1 B hB1 hB2 k _ (ZM8 k)).goI ?_
    repeat first|refine cg ?_|simp -dsimp[hne,hrow,hrow',hset,hrl,hin,w1,List.set_set,o_h1]
    refine(C.f261 B hB1 hB2 x.args (i64.wrap (k+1)) _ rfl).go 2 rfl (by simp) ?_
    repeat first|refine cg ?_|simp -dsimp[hne,hrow,hrow',hset,hrl,hin,w1,List.set_set,o_h1]
    refine aG ⟨[(0,.own 0 n),(1,.lit (.int .i64 (i64.wrap (((yY x.args (i64.wrap (k+1))).2)+1)))),(5,.lit (.int .i64 ((i+1:Nat):Int)))],[.elems 3 (rows.set i [.lit (.string (mtF k)),.lit h1,.lit (.int .i64 ((yY x.args (i64.wrap (k+1))).2))]),.pack (List.flatten (zA xH ((D++[(⟨mtF k,(yY x.args (i64.wrap (k+1))).1,(yY x.args (i64.wrap (k+1))).2⟩:Ctor)])++r))) (UA++([.string (mtF k),h1,.int .i64 ((yY x.args (i64.wrap (k+1))).2)]++UC))]⟩
     (by refine yG (yH 1 [2] (XA:=List.flatten (zA xH D)) (old:=[.lit (.string x.name),.lit h1,.lit (.int .i64 x.index)]) (XC:=List.flatten (zA xH r)) (UA:=UA) (uo:=[.string x.name,h1,.int .i64 x.index]) (UC:=UC) (by exact rfl) (by simp) (by simp) hlA rfl (.lit (.string (mtF k)) (.pk 2 (by exact rfl) (.lit (.int .i64 ((yY x.args (i64.wrap (k+1))).2)) .nil))) (by decide)) ?_;exact gT (by simp) (by simp -dsimp[RW.closed H])) ?_
    have he:xG mtF (x::r) k=((⟨mtF k,(yY x.args (i64.wrap (k+1))).1,(yY x.args (i64.wrap (k+1))).2⟩:Ctor)::(xG mtF r (i64.wrap (((yY x.args (i64.wrap (k+1))).2)+1))).1,(xG mtF r (i64.wrap (((yY x.args (i64.wrap (k+1))).2)+1))).2):=by(first|rfl|(cases x;simp[xG,Ctor.mkE]))
    rw[he]at hq
    refine ihr (D++[(⟨mtF k,(yY x.args (i64.wrap (k+1))).1,(yY x.args (i64.wrap (k+1))).2⟩:Ctor)]) _ (i+1) n _ _ (fun y hy=>hz y (zG _ hy)) (by simp[hi]) (by simp at hn;omega) (by simpa using H.setAt hin hUA rfl [.string (mtF k),h1,.int .i64 ((yY x.args (i64.wrap (k+1))).2)] rfl) _ rfl _ fun R U hR=> ?_
    simpa using hq R U hR
  refine MCall.enter 3 func49 (by kernel_rfl) rfl ntmps49 (by simp) (by simp[xJ]) (fun e he=>by obtain⟨x,_,rfl⟩:=zD.1 he;exact xI x) ?_ ?_
  ·intro he
   have he:a0=[]:=by simpa using he
   subst he
   refine kx0 ?_
   refine yE ⟨[(0,.arr []),(1,.lit (.int .i64 k0)),(5,.lit (.int .i64 0))],[]⟩ (gT (by simp) (by simp -dsimp)) ?_
   refine eN ?_
   refine kx0 ?_
   refine lG _ (gR _) ?_
   repeat first|refine cg ?_|simp -dsimp
   all_goals(try simp[xG])
  ·intro hne rows us e1 e2 e3 e4
   have H:RW 3 a0.length rows us:=⟨by simpa using e2,e3,e1⟩
   refine kx0 ?_
   refine yE ⟨[(0,.own 0 a0.length),(1,.lit (.int .i64 k0)),(5,.lit (.int .i64 ((0:Nat):Int)))],[.elems 3 rows,.pack (List.flatten (zA xH ([]++a0))) us]⟩ (gT (by simp) (by simp -dsimp[RW.closed H])) ?_
   refine loop a0 [] k0 0 a0.length rows us hz0 rfl (by simp) H _ rfl _ ?_
   intro R U hR
   refine kx0 ?_
   exact⟨rfl,R,U,rfl,⟨1,by simp⟩,hR.2.2,by rw[hR.1];simp[xJ],fun x hx=>by obtain⟨y,_,rfl⟩:=zD.1 hx;exact xI y⟩
theorem C.f262 (a:List Ctor)(k:Int)(v:List Ctor×Int)(hF:F.f262 a k=some v):MCall zQ B 49 (zA xH a) [.int .i64 k] (zA xH v.1) (.int .i64 v.2):=by
 obtain rfl:=zL hF
 exact(CM.laws_markCtorS B hB1 hB2 (SizeOf.sizeOf a+1)) a k (Nat.lt_succ_self _)
theorem CM.laws_markDataS :∀m:Nat,(∀(a:List yS) (k:Int),SizeOf.sizeOf a<m->MCall zQ B 19 (zA yT a) [.int .i64 k] (zA yT (yU mtF a k).1) (.int .i64 (yU mtF a k).2)):=by
 intro m
 induction m with
 |zero=>exact fun a k h=>absurd h (zK _)
 |succ m ih=>
  intro a0 k0 hm
  have hz0:∀x,x∈a0->SizeOf.sizeOf x<m:=fun x hx=>by have:=zF hx;omega
  have loop:∀(rest D:List yS) (k:Int) (i n:Nat) (rows:List (List AV)) (us:List Go.Value),(∀x,x∈rest->SizeOf.sizeOf x<m)->i=D.length->n=i+rest.length->RW 2 n rows us->
    ∀(c:Code),ZQ [1,0,1,0,0] (ZG Tryz.f19)=some c->∀(Q:Exit->ASt->Prop),
    (∀(R:List (List AV)) (U:List Go.Value),RW 2 n R U->Q (.exit 0) ⟨[(1,.lit (.int .i64 (yU mtF rest k).2))],[.elems 2 R,.pack (List.flatten (zA yT (D++(yU mtF rest k).1))) U]⟩)->
    ALoopU zQ B 2 28 (hold c .mk) ⟨[(0,.own 0 n),(1,.lit (.int .i64 k)),(5,.lit (.int .i64 (i:Int)))],[.elems 2 rows,.pack (List.flatten (zA yT (D++rest))) us]⟩ (hold Q .mk):=by
   intro rest
   induction rest with
   |nil=>
    intro D k i n rows us hz hi hn H c hc Q hq
    obtain rfl:c=_:=ZAI hc rfl
    have hn':n=i:=by simpa using hn
    subst hn'
    refine eN ?_
    repeat first|refine cg ?_|simp -dsimp[RW.len H]
    refine lG ⟨[(1,.lit (.int .i64 k))],[.elems 2 rows,.pack (List.flatten (zA yT D)) us]⟩ (gT (by simp) (by simp -dsimp[RW.closed H])) ?_
    simpa[yU]using hq rows us H
   |cons x r ihr=>
    intro D k i n rows us hz hi hn H c hc Q hq
    refine xD 1 (List.flatten (zA yT D)) (yT x) (List.flatten (zA yT r)) rfl (by simp) (by simp) ?_
    intro h1 vs UA UC o_h1 hlt hU hlA
    have hv:vs=[.string x.name,h1]:=by apply ZAs;rw[←hlt];simp
    subst hv hU
    have hUA:UA.length=i*2:=by rw[hlA,ZAC yV,hi]
    have hin:i<n:=by simp at hn;omega
    have hrow:rows[i]? =some [.lit (.string x.name),.lit h1]:=by simpa using H.at hin rfl hUA rfl
    have hne:¬rows=[]:=by intro e;rw[e]at hrow;simp at hrow
    have hrl:=RW.len H
    have hrow':∀(h:i<rows.length),rows[i]=[.lit (.string x.name),.lit h1]:=fun h=>by rw[zC h]at hrow;exact zL hrow
    have hset:∀a,(rows.set i a)[i]? =some a:=fun a=>zE (by omega)
    clear hlt
    refine xC fun hk hs=> ?_
    have d0:=hs 0 _ rfl
    simp -dsimp[zW]at d0
    clear hk hs
    obtain rfl:c=_:=ZAI hc rfl
    have w1:i64.wrap ((i:Int)+1)=(i:Int)+1:=ZD (by omega) (by omega)
    refine eN ?_
    repeat first|refine cg ?_|simp -dsimp[hne,hrow,hrow',hset,hrl,hin,w1,List.set_set,o_h1]
    refine(C.f1 B hB1 hB2 k _ (ZM8 k)).goI ?_
    repeat first|refine cg ?_|simp -dsimp[hne,hrow,hrow',hset,hrl,hin,w1,List.set_set,o_h1]
    refine(C.f262 B hB1 hB2 x.ctors (i64.wrap (k+1)) _ rfl).go 2 rfl (by simp) ?_
    repeat first|refine cg ?_|simp -dsimp[hne,hrow,hrow',hset,hrl,hin,w1,List.set_set,o_h1]
    refine aG ⟨[(0,.own 0 n),(1,.lit (.int .i64 ((xG mtF x.ctors (i64.wrap (k+1))).2))),(5,.lit (.int .i64 ((i+1:Nat):Int)))],[.elems 2 (rows.set i [.lit (.string (mtF k)),.lit h1]),.pack (List.flatten (zA yT ((D++[(⟨mtF k,(xG mtF x.ctors (i64.wrap (k+1))).1⟩:yS)])++r))) (UA++([.string (mtF k),h1]++UC))]⟩
     (by refine yG (yH 1 [2] (XA:=List.flatten (zA yT D)) (old:=[.lit (.string x.name),.lit h1]) (XC:=List.flatten (zA yT r)) (UA:=UA) (uo:=[.string x.name,h1]) (UC:=UC) (by exact rfl) (by simp) (by simp) hlA rfl (.lit (.string (mtF k)) (.pk 2 (by exact rfl) .nil)) (by decide)) ?_;exact gT (by simp) (by simp -dsimp[RW.closed H])) ?_
    have he:yU mtF (x::r) k=((⟨mtF k,(xG mtF x.ctors (i64.wrap (k+1))).1⟩:yS)::(yU mtF r ((xG mtF x.ctors (i64.wrap (k+1))).2)).1,(yU mtF r ((xG mtF x.ctors (i64.wrap (k+1))).2)).2):=by(first|rfl|(cases x;simp[yU,yX]))
    rw[he]at hq
    refine ihr (D++[(⟨mtF k,(xG mtF x.ctors (i64.wrap (k+1))).1⟩:yS)]) _ (i+1) n _ _ (fun y hy=>hz y (zG _ hy)) (by simp[hi]) (by simp at hn;omega) (by simpa using H.setAt hin hUA rfl [.string (mtF k),h1] rfl) _ rfl _ fun R U hR=> ?_
    simpa using hq R U hR
  refine MCall.enter 2 func19 (by kernel_rfl) rfl ntmps19 (by simp) (by simp[yW]) (fun e he=>by obtain⟨x,_,rfl⟩:=zD.1 he;exact yV x) ?_ ?_
  ·intro he
   have he:a0=[]:=by simpa using he
   subst he
   refine kx0 ?_
   refine yE ⟨[(0,.arr []),(1,.lit (.int .i64 k0)),(5,.lit (.int .i64 0))],[]⟩ (gT (by simp) (by simp -dsimp)) ?_
   refine eN ?_
   refine kx0 ?_
   refine lG _ (gR _) ?_
   repeat first|refine cg ?_|simp -dsimp
   all_goals(try simp[yU])
  ·intro hne rows us e1 e2 e3 e4
   have H:RW 2 a0.length rows us:=⟨by simpa using e2,e3,e1⟩
   refine kx0 ?_
   refine yE ⟨[(0,.own 0 a0.length),(1,.lit (.int .i64 k0)),(5,.lit (.int .i64 ((0:Nat):Int)))],[.elems 2 rows,.pack (List.flatten (zA yT ([]++a0))) us]⟩ (gT (by simp) (by simp -dsimp[RW.closed H])) ?_
   refine loop a0 [] k0 0 a0.length rows us hz0 rfl (by simp) H _ rfl _ ?_
   intro R U hR
   refine kx0 ?_
   exact⟨rfl,R,U,rfl,⟨1,by simp⟩,hR.2.2,by rw[hR.1];simp[yW],fun x hx=>by obtain⟨y,_,rfl⟩:=zD.1 hx;exact yV y⟩
theorem C.f263 (a:List yS)(k:Int)(v:List yS×Int)(hF:F.f263 a k=some v):MCall zQ B 19 (zA yT a) [.int .i64 k] (zA yT v.1) (.int .i64 v.2):=by
 obtain rfl:=zL hF
 exact(CM.laws_markDataS B hB1 hB2 (SizeOf.sizeOf a+1)) a k (Nat.lt_succ_self _)
theorem CM.laws_markValueS :∀m:Nat,(∀(a:List Vl.Value) (k:Int),SizeOf.sizeOf a<m->MCall zQ B 51 (zA Vl.Value.c a) [.int .i64 k] (zA Vl.Value.c (Vl.Value.mkL a k).1) (.int .i64 (Vl.Value.mkL a k).2)):=by
 intro m
 induction m with
 |zero=>exact fun a k h=>absurd h (zK _)
 |succ m ih=>
  intro a0 k0 hm
  have hz0:∀x,x∈a0->SizeOf.sizeOf x<m:=fun x hx=>by have:=zF hx;omega
  have loop:∀(rest D:List Vl.Value) (k:Int) (i n:Nat) (rows:List (List AV)) (us:List Go.Value),(∀x,x∈rest->SizeOf.sizeOf x<m)->i=D.length->n=i+rest.length->RW 3 n rows us->
    ∀(c:Code),ZQ [1,0,1,0,0] (ZG Tryz.f51)=some c->∀(Q:Exit->ASt->Prop),
    (∀(R:List (List AV)) (U:List Go.Value),RW 3 n R U->Q (.exit 0) ⟨[(1,.lit (.int .i64 (Vl.Value.mkL rest k).2))],[.elems 3 R,.pack (List.flatten (zA Vl.Value.c (D++(Vl.Value.mkL rest k).1))) U]⟩)->
    ALoopU zQ B 2 34 (hold c .mk) ⟨[(0,.own 0 n),(1,.lit (.int .i64 k)),(5,.lit (.int .i64 (i:Int)))],[.elems 3 rows,.pack (List.flatten (zA Vl.Value.c (D++rest))) us]⟩ (hold Q .mk):=by
   intro rest
   induction rest with
   |nil=>
    intro D k i n rows us hz hi hn H c hc Q hq
    obtain rfl:c=_:=ZAI hc rfl
    have hn':n=i:=by simpa using hn
    subst hn'
    refine eN ?_
    repeat first|refine cg ?_|simp -dsimp[RW.len H]
    refine lG ⟨[(1,.lit (.int .i64 k))],[.elems 3 rows,.pack (List.flatten (zA Vl.Value.c D)) us]⟩ (gT (by simp) (by simp -dsimp[RW.closed H])) ?_
    simpa[Vl.Value.mkL]using hq rows us H
   |cons x r ihr=>
    intro D k i n rows us hz hi hn H c hc Q hq
    refine xD 1 (List.flatten (zA Vl.Value.c D)) (Vl.Value.c x) (List.flatten (zA Vl.Value.c r)) rfl (by simp) (by simp) ?_
    intro h1 vs UA UC o_h1 hlt hU hlA
    have hv:vs=[.int .i64 x.ctor,.int .i64 x.n,h1]:=by apply ZAs;rw[←hlt];simp
    subst hv hU
    have hUA:UA.length=i*3:=by rw[hlA,ZAC Vl.Value.c_len,hi]
    have hin:i<n:=by simp at hn;omega
    have hrow:rows[i]? =some [.lit (.int .i64 x.ctor),.lit (.int .i64 x.n),.lit h1]:=by simpa using H.at hin rfl hUA rfl
    have hne:¬rows=[]:=by intro e;rw[e]at hrow;simp at hrow
    have hrl:=RW.len H
    have hrow':∀(h:i<rows.length),rows[i]=[.lit (.int .i64 x.ctor),.lit (.int .i64 x.n),.lit h1]:=fun h=>by rw[zC h]at hrow;exact zL hrow
    have hset:∀a,(rows.set i a)[i]? =some a:=fun a=>zE (by omega)
    clear hlt
    refine xC fun hk hs=> ?_
    have d0:=hs 0 _ rfl
    simp -dsimp[zW]at d0
    clear hk hs
    obtain rfl:c=_:=ZAI hc rfl
    have w1:i64.wrap ((i:Int)+1)=(i:Int)+1:=ZD (by omega) (by omega)
    refine eN ?_
    repeat first|refine cg ?_|simp -dsimp[hne,hrow,hrow',hset,hrl,hin,w1,List.set_set,o_h1]
    have sz0:SizeOf.sizeOf x.kids<m:=by have h0:=hz x (by simp);cases x;simp at h0 ⊢;omega
    refine(ih x.kids (i64.wrap ((i64.wrap (k+1))+1)) sz0).go 2 rfl (by simp) ?_
    refine kx1 w1 ?_
    refine aG ⟨[(0,.own 0 n),(1,.lit (.int .i64 ((Vl.Value.mkL x.kids (i64.wrap ((i64.wrap (k+1))+1))).2))),(5,.lit (.int .i64 ((i+1:Nat):Int)))],[.elems 3 (rows.set i [.lit (.int .i64 k),.lit (.int .i64 (i64.wrap (k+1))),.lit h1]),.pack (List.flatten (zA Vl.Value.c ((D++[(⟨k,i64.wrap (k+1),(Vl.Value.mkL x.kids (i64.wrap ((i64.wrap (k+1))+1))).1⟩:Vl.Value)])++r))) (UA++([.int .i64 k,.int .i64 (i64.wrap (k+1)),h1]++UC))]⟩
     (by refine yG (yH 1 [2] (XA:=List.flatten (zA Vl.Value.c D)) (old:=[.lit (.int .i64 x.ctor),.lit (.int .i64 x.n),.lit h1]) (XC:=List.flatten (zA Vl.Value.c r)) (UA:=UA) (uo:=[.int .i64 x.ctor,.int .i64 x.n,h1]) (UC:=UC) (by exact rfl) (by simp) (by simp) hlA rfl (.lit (.int .i64 k) (.lit (.int .i64 (i64.wrap (k+1))) (.pk 2 (by exact rfl) .nil))) (by decide)) ?_;exact gT (by simp) (by simp -dsimp[RW.closed H])) ?_
    have he:Vl.Value.mkL (x::r) k=((⟨k,i64.wrap (k+1),(Vl.Value.mkL x.kids (i64.wrap ((i64.wrap (k+1))+1))).1⟩:Vl.Value)::(Vl.Value.mkL r ((Vl.Value.mkL x.kids (i64.wrap ((i64.wrap (k+1))+1))).2)).1,(Vl.Value.mkL r ((Vl.Value.mkL x.kids (i64.wrap ((i64.wrap (k+1))+1))).2)).2):=by(first|rfl|(cases x;simp[Vl.Value.mkL,Vl.Value.mkE]))
    rw[he]at hq
    refine ihr (D++[(⟨k,i64.wrap (k+1),(Vl.Value.mkL x.kids (i64.wrap ((i64.wrap (k+1))+1))).1⟩:Vl.Value)]) _ (i+1) n _ _ (fun y hy=>hz y (zG _ hy)) (by simp[hi]) (by simp at hn;omega) (by simpa using H.setAt hin hUA rfl [.int .i64 k,.int .i64 (i64.wrap (k+1)),h1] rfl) _ rfl _ fun R U hR=> ?_
    simpa using hq R U hR
  refine MCall.enter 3 func51 (by kernel_rfl) rfl ntmps51 (by simp) (by simp[Vl.Value.mkL_len]) (fun e he=>by obtain⟨x,_,rfl⟩:=zD.1 he;exact Vl.Value.c_len x) ?_ ?_
  ·intro he
   have he:a0=[]:=by simpa using he
   subst he
   refine kx0 ?_
   refine yE ⟨[(0,.arr []),(1,.lit (.int .i64 k0)),(5,.lit (.int .i64 0))],[]⟩ (gT (by simp) (by simp -dsimp)) ?_
   refine eN ?_
   refine kx0 ?_
   refine lG _ (gR _) ?_
   repeat first|refine cg ?_|simp -dsimp
   all_goals(try simp[Vl.Value.mkL])
  ·intro hne rows us e1 e2 e3 e4
   have H:RW 3 a0.length rows us:=⟨by simpa using e2,e3,e1⟩
   refine kx0 ?_
   refine yE ⟨[(0,.own 0 a0.length),(1,.lit (.int .i64 k0)),(5,.lit (.int .i64 ((0:Nat):Int)))],[.elems 3 rows,.pack (List.flatten (zA Vl.Value.c ([]++a0))) us]⟩ (gT (by simp) (by simp -dsimp[RW.closed H])) ?_
   refine loop a0 [] k0 0 a0.length rows us hz0 rfl (by simp) H _ rfl _ ?_
   intro R U hR
   refine kx0 ?_
   exact⟨rfl,R,U,rfl,⟨1,by simp⟩,hR.2.2,by rw[hR.1];simp[Vl.Value.mkL_len],fun x hx=>by obtain⟨y,_,rfl⟩:=zD.1 hx;exact Vl.Value.c_len y⟩
theorem C.f256 (a:List Vl.Value)(k:Int)(v:List Vl.Value×Int)(hF:F.f256 a k=some v):MCall zQ B 51 (zA Vl.Value.c a) [.int .i64 k] (zA Vl.Value.c v.1) (.int .i64 v.2):=by
 obtain rfl:=zL hF
 exact(CM.laws_markValueS B hB1 hB2 (SizeOf.sizeOf a+1)) a k (Nat.lt_succ_self _)
theorem C.f264 (aW:List yS)(aT:Ty)(aList:List Clause)(aV:Vl.Value)(r:Bool)(hF:F.f264 aW aT aList aV=some r):PureCall zQ B 4 [am yT aW,.agg [li aT.data,li aT.index],am yL aList,.agg [li aV.ctor,li aV.n,am Vl.Value.c aV.kids]] (.lit (.bool r)):=by
 unfold F.f264 at hF
 refine pE func4 (by kernel_rfl) rfl ntmps4 (by simp) (by simp) ?_
 refine kB hF fun v e1 hF=> ?_
 refine((C.f8 B hB1 hB2 aW 1048576 v e1)).goW (by simp) (by simp) ?_
 revert hF;refine kS ?_ ?_<;>intro h2 q3 hF
 ·cases hF
  repeat first|refine cg ?_|simp -dsimp[h2]
  all_goals(try first|omega|rfl)
 ·refine kx2 h2 q3 ?_
  apply oB hF;intro v4 e5 hF
  refine((C.f14 B hB1 hB2 aList v v4 e5)).goW (by first|simp[h2,q3];done|simp_all) (by simp) ?_
  refine kx2 h2 q3 ?_
  revert hF;refine aS ?_ ?_<;>intro h6 q7 hF
  ·cases hF
   repeat first|refine cg ?_|simp -dsimp[h2,q3,h6]
   all_goals(try first|omega|rfl)
  ·refine kx4 h2 q3 h6 q7 ?_
   apply oB hF;intro v8 e9 hF
   refine(((CC.f15 B hB1 hB2).1 aV v4 v8 e9)).goW (by first|simp[h2,q3,h6,q7];done|simp_all) (by simp) ?_
   refine kx4 h2 q3 h6 q7 ?_
   revert hF;refine aS ?_ ?_<;>intro h10 q11 hF
   ·cases hF
    repeat first|refine cg ?_|simp -dsimp[h2,q3,h6,q7,h10]
    all_goals(try first|omega|rfl)
   ·refine kx6 h2 q3 h6 q7 h10 q11 ?_
    refine yA follows (by kernel_rfl) (by kernel_rfl) ?_
    refine kx6 h2 q3 h6 q7 h10 q11 ?_
    apply oB hF;intro v12 e13 hF
    refine((C.f26 B hB1 hB2 aW v12 e13)).pgoW (by first|simp[h2,q3,h6,q7,h10,q11];done|simp_all) (by simp) ?_
    refine kx6 h2 q3 h6 q7 h10 q11 ?_
    apply oB hF;intro v14 e15 hF
    refine((C.f18 B hB1 hB2 aT v14 e15)).pgoW (by first|simp[h2,q3,h6,q7,h10,q11];done|simp_all) (by simp) ?_
    refine kx6 h2 q3 h6 q7 h10 q11 ?_
    apply oB hF;intro v16 e17 hF
    refine((C.f33 B hB1 hB2 aList v16 e17)).pgoW (by first|simp[h2,q3,h6,q7,h10,q11];done|simp_all) (by simp) ?_
    refine kx6 h2 q3 h6 q7 h10 q11 ?_
    apply oB hF;intro v18 e19 hF
    refine(((CC.f34 B hB1 hB2).1 aV v18 e19)).pgoW (by first|simp[h2,q3,h6,q7,h10,q11];done|simp_all) (by simp) ?_
    refine kx6 h2 q3 h6 q7 h10 q11 ?_
    apply oB hF;intro v20 e21 hF
    refine((C.f127 B hB1 hB2 v12 v14 v16 v18 v20 e21)).pgoW (by first|simp[h2,q3,h6,q7,h10,q11];done|simp_all) (by simp) ?_
    refine kx6 h2 q3 h6 q7 h10 q11 ?_
    apply oB hF;intro v22 e23 hF
    refine((C.laws_toDataS__f B hB1 hB2 aW v22 e23)).go1 (by first|simp -dsimp[h2,q3,h6,q7,h10,q11];done|simp_all) (by simp) (fun h o_h=> ?_)
    refine kx7 h2 q3 h6 q7 h10 q11 o_h ?_
    apply oB hF;intro v24 e25 hF
    refine((C.laws_toClauseS__f B hB1 hB2 aList v24 e25)).go1 (by first|simp -dsimp[h2,q3,h6,q7,h10,q11,o_h];done|simp_all) (by simp) (fun h26 o_h26=> ?_)
    refine kx8 h2 q3 h6 q7 h10 q11 o_h o_h26 ?_
    apply oB hF;intro v27 e28 hF
    refine(((CC.laws_toValue__f B hB1 hB2).1 aV v27 e28)).go1 (by first|simp -dsimp[h2,q3,h6,q7,h10,q11,o_h,o_h26];done|simp_all) (by simp) (fun h29 o_h29=> ?_)
    refine kx9 h2 q3 h6 q7 h10 q11 o_h o_h26 o_h29 ?_
    refine zZ [25] [(0,0),(0,0),(0,1),(0,0),(0,0),(0,1),(1,1)] [1,1,1,1,1,1,1] 5 (by decide) follows (by kernel_rfl) (by kernel_rfl) (by kernel_rfl) (by kernel_rfl) (by kernel_rfl) rfl ?_
    refine kx9 h2 q3 h6 q7 h10 q11 o_h o_h26 o_h29 ?_
    apply oB hF;intro v30 e31 hF
    refine((C.f18 B hB1 hB2 aT v30 e31)).pgoW (by first|simp[h2,q3,h6,q7,h10,q11,o_h,o_h26,o_h29];done|simp_all) (by simp) ?_
    refine kx9 h2 q3 h6 q7 h10 q11 o_h o_h26 o_h29 ?_
    apply oB hF;intro v32 e33 hF
    refine((C.impl_ForcedFirst__f B hB1 hB2 v22 v30 v24 v27 v32 e33)).ngo1 (by first|simp -dsimp[h2,q3,h6,q7,h10,q11,o_h,o_h26,o_h29];done|simp_all) (by simp) (fun h34 o_h34=> ?_)
    repeat first|refine cg ?_|simp -dsimp[h2,q3,h6,q7,h10,q11,o_h,o_h26,o_h29,o_h34]
    apply oB hF;intro v35 e36 hF
    refine((C.f232 B hB1 hB2 v32 v20 v35 e36)).lend (by first|simp -dsimp[h2,q3,h6,q7,h10,q11,o_h,o_h26,o_h29,o_h34];done|simp_all) (by simp -dsimp) ?_
    repeat first|refine cg ?_|simp -dsimp[h2,q3,h6,q7,h10,q11,o_h,o_h26,o_h29,o_h34]
    revert hF;refine aN (fun h37 q38 hF=> ?_) (fun h37 q38 hF=> ?_)
    ·cases hF
     repeat first|refine cg ?_|simp -dsimp[h2,q3,h6,q7,h10,q11,o_h,o_h26,o_h29,o_h34,h37,q38]
     all_goals(try first|omega|rfl)
    ·repeat first|refine cg ?_|simp -dsimp[h2,q3,h6,q7,h10,q11,o_h,o_h26,o_h29,o_h34,h37,q38]
     apply oB hF;intro v39 e40 hF
     refine((C.f26 B hB1 hB2 aW v39 e40)).goW (by first|simp[h2,q3,h6,q7,h10,q11,o_h,o_h26,o_h29,o_h34,h37,q38];done|simp_all) (by simp) ?_
     repeat first|refine cg ?_|simp -dsimp[h2,q3,h6,q7,h10,q11,o_h,o_h26,o_h29,o_h34,h37,q38]
     apply oB hF;intro v41 e42 hF
     refine((C.f241 B hB1 hB2 v22 v39 v41 e42)).lend (by first|simp -dsimp[h2,q3,h6,q7,h10,q11,o_h,o_h26,o_h29,o_h34,h37,q38];done|simp_all) (by simp -dsimp) ?_
     repeat first|refine cg ?_|simp -dsimp[h2,q3,h6,q7,h10,q11,o_h,o_h26,o_h29,o_h34,h37,q38]
     revert hF;refine aN (fun h43 q44 hF=> ?_) (fun h43 q44 hF=> ?_)
     ·cases hF
      repeat first|refine cg ?_|simp -dsimp[h2,q3,h6,q7,h10,q11,o_h,o_h26,o_h29,o_h34,h37,q38,h43,q44]
      all_goals(try first|omega|rfl)
     ·repeat first|refine cg ?_|simp -dsimp[h2,q3,h6,q7,h10,q11,o_h,o_h26,o_h29,o_h34,h37,q38,h43,q44]
      apply oB hF;intro v45 e46 hF
      refine((C.f33 B hB1 hB2 aList v45 e46)).goW (by first|simp[h2,q3,h6,q7,h10,q11,o_h,o_h26,o_h29,o_h34,h37,q38,h43,q44];done|simp_all) (by simp) ?_
      repeat first|refine cg ?_|simp -dsimp[h2,q3,h6,q7,h10,q11,o_h,o_h26,o_h29,o_h34,h37,q38,h43,q44]
      apply oB hF;intro v47 e48 hF
      refine((C.f248 B hB1 hB2 v24 v45 v47 e48)).lend (by first|simp -dsimp[h2,q3,h6,q7,h10,q11,o_h,o_h26,o_h29,o_h34,h37,q38,h43,q44];done|simp_all) (by simp -dsimp) ?_
      repeat first|refine cg ?_|simp -dsimp[h2,q3,h6,q7,h10,q11,o_h,o_h26,o_h29,o_h34,h37,q38,h43,q44]
      revert hF;refine aN (fun h49 q50 hF=> ?_) (fun h49 q50 hF=> ?_)
      ·cases hF
       repeat first|refine cg ?_|simp -dsimp[h2,q3,h6,q7,h10,q11,o_h,o_h26,o_h29,o_h34,h37,q38,h43,q44,h49,q50]
       all_goals(try first|omega|rfl)
      ·repeat first|refine cg ?_|simp -dsimp[h2,q3,h6,q7,h10,q11,o_h,o_h26,o_h29,o_h34,h37,q38,h43,q44,h49,q50]
       refine ADraw.eff [18] [(0,0),(0,0),(0,1),(0,1),(1,1)] [1,1,1,1,1] follows (by kernel_rfl) (by kernel_rfl) (by kernel_rfl) ?_
       repeat first|refine cg ?_|simp -dsimp[h2,q3,h6,q7,h10,q11,o_h,o_h26,o_h29,o_h34,h37,q38,h43,q44,h49,q50]
       apply oB hF;intro v51 e52 hF
       refine(((CC.f34 B hB1 hB2).1 aV v51 e52)).pgoW (by first|simp[h2,q3,h6,q7,h10,q11,o_h,o_h26,o_h29,o_h34,h37,q38,h43,q44,h49,q50];done|simp_all) (by simp) ?_
       repeat first|refine cg ?_|simp -dsimp[h2,q3,h6,q7,h10,q11,o_h,o_h26,o_h29,o_h34,h37,q38,h43,q44,h49,q50]
       apply oB hF;intro v53 e54 hF
       refine(((CC.f249 B hB1 hB2).1 v27 v51 v53 e54)).elend (by first|simp -dsimp[h2,q3,h6,q7,h10,q11,o_h,o_h26,o_h29,o_h34,h37,q38,h43,q44,h49,q50];done|simp_all) (by simp -dsimp) ?_
       repeat first|refine cg ?_|simp -dsimp[h2,q3,h6,q7,h10,q11,o_h,o_h26,o_h29,o_h34,h37,q38,h43,q44,h49,q50]
       revert hF;refine aN (fun h55 q56 hF=> ?_) (fun h55 q56 hF=> ?_)
       ·cases hF
        repeat first|refine cg ?_|simp -dsimp[h2,q3,h6,q7,h10,q11,o_h,o_h26,o_h29,o_h34,h37,q38,h43,q44,h49,q50,h55,q56]
        all_goals(try first|omega|rfl)
       ·repeat first|refine cg ?_|simp -dsimp[h2,q3,h6,q7,h10,q11,o_h,o_h26,o_h29,o_h34,h37,q38,h43,q44,h49,q50,h55,q56]
        apply oB hF;intro v57 e58 hF
        refine((C.f263 B hB1 hB2 v22 1 v57 e58)).go 2 rfl (by simp) ?_
        repeat first|refine cg ?_|simp -dsimp[h2,q3,h6,q7,h10,q11,o_h,o_h26,o_h29,o_h34,h37,q38,h43,q44,h49,q50,h55,q56]
        apply oB hF;intro v59 e60 hF
        refine((C.f258 B hB1 hB2 v24 v57.2 v59 e60)).go 3 rfl (by simp) ?_
        repeat first|refine cg ?_|simp -dsimp[h2,q3,h6,q7,h10,q11,o_h,o_h26,o_h29,o_h34,h37,q38,h43,q44,h49,q50,h55,q56]
        refine ACall.inl func21 (by kernel_rfl) rfl ntmps21 (by simp) ?_
        repeat first|refine cg ?_|simp -dsimp[h2,q3,h6,q7,h10,q11,o_h,o_h26,o_h29,o_h34,h37,q38,h43,q44,h49,q50,h55,q56]
        apply oB hF;intro v61 e62 hF
        refine((C.f256 B hB1 hB2 v27.kids v59.2 v61 e62)).go 4 rfl (by simp) ?_
        repeat first|refine cg ?_|simp -dsimp[h2,q3,h6,q7,h10,q11,o_h,o_h26,o_h29,o_h34,h37,q38,h43,q44,h49,q50,h55,q56]
        revert hF;refine aN ?_ ?_<;>intro h63 q64 hF
        ·repeat first|refine cg ?_|simp -dsimp[h2,q3,h6,q7,h10,q11,o_h,o_h26,o_h29,o_h34,h37,q38,h43,q44,h49,q50,h55,q56,h63,q64]
         apply oB hF;intro v65 e66 hF
         refine((C.f232 B hB1 hB2 v32 v20 v65 e66)).lend (by first|simp -dsimp[h2,q3,h6,q7,h10,q11,o_h,o_h26,o_h29,o_h34,h37,q38,h43,q44,h49,q50,h55,q56,h63,q64];done|simp_all) (by simp -dsimp) ?_
         repeat first|refine cg ?_|simp -dsimp[h2,q3,h6,q7,h10,q11,o_h,o_h26,o_h29,o_h34,h37,q38,h43,q44,h49,q50,h55,q56,h63,q64]
         revert hF;refine aN (fun h67 q68 hF=> ?_) (fun h67 q68 hF=> ?_)
         ·cases hF
          repeat first|refine cg ?_|simp -dsimp[h2,q3,h6,q7,h10,q11,o_h,o_h26,o_h29,o_h34,h37,q38,h43,q44,h49,q50,h55,q56,h63,q64,h67,q68]
          all_goals(try first|omega|rfl)
         ·repeat first|refine cg ?_|simp -dsimp[h2,q3,h6,q7,h10,q11,o_h,o_h26,o_h29,o_h34,h37,q38,h43,q44,h49,q50,h55,q56,h63,q64,h67,q68]
          apply oB hF;intro v69 e70 hF
          refine((C.f260 B hB1 hB2 v32 1 v69 e70)).go 6 rfl (by simp) ?_
          repeat first|refine cg ?_|simp -dsimp[h2,q3,h6,q7,h10,q11,o_h,o_h26,o_h29,o_h34,h37,q38,h43,q44,h49,q50,h55,q56,h63,q64,h67,q68]
          apply oB hF;intro v71 e72 hF
          refine((C.f255 B hB1 hB2 v69.1 1 v71 e72)).lend (by first|simp -dsimp[h2,q3,h6,q7,h10,q11,o_h,o_h26,o_h29,o_h34,h37,q38,h43,q44,h49,q50,h55,q56,h63,q64,h67,q68];done|simp_all) (by simp -dsimp) ?_
          repeat first|refine cg ?_|simp -dsimp[h2,q3,h6,q7,h10,q11,o_h,o_h26,o_h29,o_h34,h37,q38,h43,q44,h49,q50,h55,q56,h63,q64,h67,q68]
          revert hF;refine aS ?_ ?_<;>intro h73 q74 hF
          ·cases hF
           repeat first|refine cg ?_|simp -dsimp[h2,q3,h6,q7,h10,q11,o_h,o_h26,o_h29,o_h34,h37,q38,h43,q44,h49,q50,h55,q56,h63,q64,h67,q68,h73]
           all_goals(try first|omega|rfl)
          ·repeat first|refine cg ?_|simp -dsimp[h2,q3,h6,q7,h10,q11,o_h,o_h26,o_h29,o_h34,h37,q38,h43,q44,h49,q50,h55,q56,h63,q64,h67,q68,h73,q74]
           revert hF;refine aN ?_ ?_<;>intro h75 q76 hF
           ·cases hF
            repeat first|refine cg ?_|simp -dsimp[h2,q3,h6,q7,h10,q11,o_h,o_h26,o_h29,o_h34,h37,q38,h43,q44,h49,q50,h55,q56,h63,q64,h67,q68,h73,q74,h75,q76]
            all_goals(try first|omega|rfl)
           ·repeat first|refine cg ?_|simp -dsimp[h2,q3,h6,q7,h10,q11,o_h,o_h26,o_h29,o_h34,h37,q38,h43,q44,h49,q50,h55,q56,h63,q64,h67,q68,h73,q74,h75,q76]
            refine zZ [25] [(0,0),(0,1),(0,0),(0,1),(0,0),(0,1),(0,0),(0,1),(0,1),(1,1)] [1,1,1,1,1,1,1,1,1,1] 8 (by decide) follows (by kernel_rfl) (by kernel_rfl) (by kernel_rfl) (by kernel_rfl) (by kernel_rfl) rfl ?_
            repeat first|refine cg ?_|simp -dsimp[h2,q3,h6,q7,h10,q11,o_h,o_h26,o_h29,o_h34,h37,q38,h43,q44,h49,q50,h55,q56,h63,q64,h67,q68,h73,q74,h75,q76]
            apply oB hF;intro v77 e78 hF
            refine((C.f26 B hB1 hB2 aW v77 e78)).pgoW (by first|simp[h2,q3,h6,q7,h10,q11,o_h,o_h26,o_h29,o_h34,h37,q38,h43,q44,h49,q50,h55,q56,h63,q64,h67,q68,h73,q74,h75,q76];done|simp_all) (by simp) ?_
            repeat first|refine cg ?_|simp -dsimp[h2,q3,h6,q7,h10,q11,o_h,o_h26,o_h29,o_h34,h37,q38,h43,q44,h49,q50,h55,q56,h63,q64,h67,q68,h73,q74,h75,q76]
            apply oB hF;intro v79 e80 hF
            refine((C.f18 B hB1 hB2 aT v79 e80)).pgoW (by first|simp[h2,q3,h6,q7,h10,q11,o_h,o_h26,o_h29,o_h34,h37,q38,h43,q44,h49,q50,h55,q56,h63,q64,h67,q68,h73,q74,h75,q76];done|simp_all) (by simp) ?_
            repeat first|refine cg ?_|simp -dsimp[h2,q3,h6,q7,h10,q11,o_h,o_h26,o_h29,o_h34,h37,q38,h43,q44,h49,q50,h55,q56,h63,q64,h67,q68,h73,q74,h75,q76]
            apply oB hF;intro v81 e82 hF
            refine((C.f33 B hB1 hB2 aList v81 e82)).pgoW (by first|simp[h2,q3,h6,q7,h10,q11,o_h,o_h26,o_h29,o_h34,h37,q38,h43,q44,h49,q50,h55,q56,h63,q64,h67,q68,h73,q74,h75,q76];done|simp_all) (by simp) ?_
            repeat first|refine cg ?_|simp -dsimp[h2,q3,h6,q7,h10,q11,o_h,o_h26,o_h29,o_h34,h37,q38,h43,q44,h49,q50,h55,q56,h63,q64,h67,q68,h73,q74,h75,q76]
            apply oB hF;intro v83 e84 hF
            refine(((CC.f34 B hB1 hB2).1 aV v83 e84)).pgoW (by first|simp[h2,q3,h6,q7,h10,q11,o_h,o_h26,o_h29,o_h34,h37,q38,h43,q44,h49,q50,h55,q56,h63,q64,h67,q68,h73,q74,h75,q76];done|simp_all) (by simp) ?_
            repeat first|refine cg ?_|simp -dsimp[h2,q3,h6,q7,h10,q11,o_h,o_h26,o_h29,o_h34,h37,q38,h43,q44,h49,q50,h55,q56,h63,q64,h67,q68,h73,q74,h75,q76]
            apply oB hF;intro v85 e86 hF
            refine((C.impl_ForcedFirst__f B hB1 hB2 v77 v79 v81 v83 v85 e86)).ngo1 (by first|simp -dsimp[h2,q3,h6,q7,h10,q11,o_h,o_h26,o_h29,o_h34,h37,q38,h43,q44,h49,q50,h55,q56,h63,q64,h67,q68,h73,q74,h75,q76];done|simp_all) (by simp) (fun h87 o_h87=> ?_)
            repeat first|refine cg ?_|simp -dsimp[h2,q3,h6,q7,h10,q11,o_h,o_h26,o_h29,o_h34,h37,q38,h43,q44,h49,q50,h55,q56,h63,q64,h67,q68,h73,q74,h75,q76,o_h87]
            apply oB hF;intro v88 e89 hF
            refine((C.f232 B hB1 hB2 v85 v20 v88 e89)).lend (by first|simp -dsimp[h2,q3,h6,q7,h10,q11,o_h,o_h26,o_h29,o_h34,h37,q38,h43,q44,h49,q50,h55,q56,h63,q64,h67,q68,h73,q74,h75,q76,o_h87];done|simp_all) (by simp -dsimp) ?_
            repeat first|refine cg ?_|simp -dsimp[h2,q3,h6,q7,h10,q11,o_h,o_h26,o_h29,o_h34,h37,q38,h43,q44,h49,q50,h55,q56,h63,q64,h67,q68,h73,q74,h75,q76,o_h87]
            revert hF;refine aN (fun h90 q91 hF=> ?_) (fun h90 q91 hF=> ?_)
            ·cases hF
             repeat first|refine cg ?_|simp -dsimp[h2,q3,h6,q7,h10,q11,o_h,o_h26,o_h29,o_h34,h37,q38,h43,q44,h49,q50,h55,q56,h63,q64,h67,q68,h73,q74,h75,q76,o_h87,h90,q91]
             all_goals(try first|omega|rfl)
            ·repeat first|refine cg ?_|simp -dsimp[h2,q3,h6,q7,h10,q11,o_h,o_h26,o_h29,o_h34,h37,q38,h43,q44,h49,q50,h55,q56,h63,q64,h67,q68,h73,q74,h75,q76,o_h87,h90,q91]
             apply oB hF;intro v92 e93 hF
             refine((C.f255 B hB1 hB2 v69.1 1 v92 e93)).lend (by first|simp -dsimp[h2,q3,h6,q7,h10,q11,o_h,o_h26,o_h29,o_h34,h37,q38,h43,q44,h49,q50,h55,q56,h63,q64,h67,q68,h73,q74,h75,q76,o_h87,h90,q91];done|simp_all) (by simp -dsimp) ?_
             repeat first|refine cg ?_|simp -dsimp[h2,q3,h6,q7,h10,q11,o_h,o_h26,o_h29,o_h34,h37,q38,h43,q44,h49,q50,h55,q56,h63,q64,h67,q68,h73,q74,h75,q76,o_h87,h90,q91]
             revert hF;refine aS ?_ ?_<;>intro h94 q95 hF
             ·cases hF
              repeat first|refine cg ?_|simp -dsimp[h2,q3,h6,q7,h10,q11,o_h,o_h26,o_h29,o_h34,h37,q38,h43,q44,h49,q50,h55,q56,h63,q64,h67,q68,h73,q74,h75,q76,o_h87,h90,q91,h94]
              all_goals(try first|omega|rfl)
             ·repeat first|refine cg ?_|simp -dsimp[h2,q3,h6,q7,h10,q11,o_h,o_h26,o_h29,o_h34,h37,q38,h43,q44,h49,q50,h55,q56,h63,q64,h67,q68,h73,q74,h75,q76,o_h87,h90,q91,h94,q95]
              revert hF;refine aN ?_ ?_<;>intro h96 q97 hF
              ·cases hF
               repeat first|refine cg ?_|simp -dsimp[h2,q3,h6,q7,h10,q11,o_h,o_h26,o_h29,o_h34,h37,q38,h43,q44,h49,q50,h55,q56,h63,q64,h67,q68,h73,q74,h75,q76,o_h87,h90,q91,h94,q95,h96,q97]
               all_goals(try first|omega|rfl)
              ·cases hF
               repeat first|refine cg ?_|simp -dsimp[h2,q3,h6,q7,h10,q11,o_h,o_h26,o_h29,o_h34,h37,q38,h43,q44,h49,q50,h55,q56,h63,q64,h67,q68,h73,q74,h75,q76,o_h87,h90,q91,h94,q95,h96,q97]
               all_goals(try first|omega|rfl)
        ·cases hF
         repeat first|refine cg ?_|simp -dsimp[h2,q3,h6,q7,h10,q11,o_h,o_h26,o_h29,o_h34,h37,q38,h43,q44,h49,q50,h55,q56,h63,q64]
         all_goals(try first|omega|rfl)
end Go.Proofs.YtnockmfobogfpaaGreat
