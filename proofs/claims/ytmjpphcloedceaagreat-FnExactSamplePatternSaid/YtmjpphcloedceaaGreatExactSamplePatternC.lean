/- Part. -/
import Derived.Test.YtmjpphcloedceaaGreatExactSamplePatternC1
open List renaming map->zA,mem_map->zB,getElem?_eq_getElem->zC,getElem?_set_self->zD,sizeOf_lt_of_mem->zE,mem_cons_of_mem->zF,toList_toArray->zG,getD_cons_succ->zH
open Nat renaming not_lt_zero->zI
open Option.some renaming inj->zJ
namespace Go.Proofs.YtmjpphcloedceaaGreat
open Go Go.Proofs Go.Vl
open Ty renaming mkL->zK,c->zL,c_len->zM,mkL_len->zN
open PureCall renaming inLe->zO
open ALoop renaming goU->zP,is->zR
open Ctor renaming mkL->zS,c->zT,c_len->zU,mkL_len->zV
open ADraw renaming simI->zW,effF->zX,opn->zY,eff->zZ
open Go.Vl renaming Data->yA
open Go.Vl.Data renaming c->yB,mkL->yC,c_len->yD,mkL_len->yE,mkE->yF
open Pattern renaming c->yG,mkL->yH,c_len->yI,mkL_len->yJ,mkE->yK
open ALoopU renaming know->yL,opnAt1->yM
open Gh renaming trans->yN,setAt->yO
open C renaming impl_SamplePattern__f->yP,f12->yQ,f20->yR
open Go.Proofs.Tryz
open Go.Proofs.Tryz renaming prog->zQ
open abr renaming sp->aS,ns->aN
open Leave renaming go->lG
open Again renaming go->aG
open ALoopU renaming enter->eN
open Gh renaming to3->gT,refl->gR
open PureCall renaming enterLe->pE
open Go.IntKind (i64)
set_option linter.all false
set_option maxRecDepth 100000
set_option maxHeartbeats 4000000
set_option synthInstance.maxSize 100000
set_option synthInstance.maxHeartbeats 4000000
attribute [local irreducible] ECallA NCallA aL aLg AMake MLoop AgainM LeaveM ZBo ZBQ MutCall BCall chk abr ACall ALoop ALoopU ADraw Again Leave ZEX PCall ZAR awp ZHg PureCall hold
variable (B : Nat) (hB1 : 1073741824 <= bd B) (hB2 : bd B <= 9223372036854775807)
include hB1 hB2
theorem C.f165 (a:List Ty)(b:List Ty)(r:Bool)(hF:F.f165 a b=some r):PureCall zQ B 135 [am zL a,am zL b] (.lit (.bool r)):=by
 unfold F.f165 at hF
 refine zO func135 rfl ntmps135 ?_
 revert hF;refine kN ?_ ?_<;>intro h1 q2 hF
 ·have z3:¬((a.length:Int)=(b.length:Int)):=auz
  cases hF
  exact kc3 h1 q2 z3
 ·have z3:((a.length:Int)=(b.length:Int)):=auz
  refine kB hF fun o' ho14 hF=> ?_
  refine zR (((CC.f164 B hB1 hB2 a b) 0 o' ho14) _ rfl _ ?_)
  rcases o' with r0|sx
  ·dsimp only at hF
   cases hF
   intro st h
   simpa using h
  ·dsimp only at hF
   cases hF
   exact kc0
theorem C.f166 (a:Ctor)(b:Ctor)(r:Bool)(hF:F.f166 a b=some r):PureCall zQ B 106 [.agg [.lit (.string a.name),am zL a.args,li a.index],.agg [.lit (.string b.name),am zL b.args,li b.index]] (.lit (.bool r)):=by
 unfold F.f166 at hF
 refine zO func106 rfl ntmps106 ?_
 revert hF;refine kN ?_ ?_<;>intro h1 q2 hF
 ·cases hF
  exact kc2 h1 q2
 ·refine kB hF fun v e3 hF=> ?_
  refine((C.f165 B hB1 hB2 a.args b.args v e3)).goI ?_
  revert hF;refine kN (fun h4 q5 hF=> ?_) (fun h4 q5 hF=> ?_)
  ·cases hF
   exact kc2 h4 q5
  ·revert hF;refine kN ?_ ?_<;>intro h6 q7 hF
   ·cases hF
    exact kc2 h6 q7
   ·cases hF
    exact kc0
theorem CC.f167 (a:List Ctor)(b:List Ctor):(∀(i:Nat) (o:Lo Bool Unit),F.f167 a b i=some o->∀(c:Code),Zc [1,1,0,1,0,0] (ZJ Tryz.f73)=some c->∀(Q:Exit->ASt->Prop),o.post (fun r=>∀st,ZAR zQ Tryz.f73 (fun r' _=>r'.le (.lit (.bool r))) .ret st->Q .ret st) (fun s=>Q (.exit 0) ⟨[],[]⟩)->ALoopU zQ B 0 27 (hold c .mk) ⟨[(0,am zT a),(1,am zT b),(5,li (i:Int))],[]⟩ (hold Q .mk)):=by
 refine F.f167.partial_correctness a b
  _
  ?_
 ·intro _f_f167 ih_f167 i o hF
  refine ZP rfl fun Q hq hk hs=> ?_
  have b0:=hk 0
  simp -dsimp at b0
  have b1:=hk 1
  simp -dsimp at b1
  clear hk hs
  refine eN ?_
  revert hF;refine kS ?_ ?_<;>intro h4 q5 hF
  ·have z6:((i:Int)<(a.length:Int)):=auz
   refine kx2 h4 z6 ?_
   refine zW follows ?_
   apply oB hF;intro x e7 hF
   have le7:=ZA e7
   apply oB hF;intro x8 e9 hF
   have le9:=ZA e9
   refine ZF5 e7 e9 ?_
   apply oB hF;intro v e10 hF
   refine((C.f166 B hB1 hB2 x x8 v e10)).pgoW (by simp_all) (by simp) ?_
   revert hF;refine kN (fun h11 q12 hF=> ?_) (fun h11 q12 hF=> ?_)
   ·cases hF
    refine kx2 h11 q12 ?_
    refine lG _ (gR _) (hq _ ?_)
    exact kc0
   ·have w13:i64.wrap ((i:Int)+1)=(i:Int)+1:=ZB (by omega) (by omega)
    refine kx1 w13 ?_
    refine Again.is ((ih_f167 (i+1) o hF) _ rfl _ hq)
  ·have z6:¬((i:Int)<(a.length:Int)):=auz
   cases hF
   refine kx3 h4 q5 z6 ?_
   refine Leave.is hq
theorem C.f168 (a:List Ctor)(b:List Ctor)(r:Bool)(hF:F.f168 a b=some r):PureCall zQ B 73 [am zT a,am zT b] (.lit (.bool r)):=by
 unfold F.f168 at hF
 refine zO func73 rfl ntmps73 ?_
 revert hF;refine kN ?_ ?_<;>intro h1 q2 hF
 ·have z3:¬((a.length:Int)=(b.length:Int)):=auz
  cases hF
  exact kc3 h1 q2 z3
 ·have z3:((a.length:Int)=(b.length:Int)):=auz
  refine kB hF fun o' ho14 hF=> ?_
  refine zR (((CC.f167 B hB1 hB2 a b) 0 o' ho14) _ rfl _ ?_)
  rcases o' with r0|sx
  ·dsimp only at hF
   cases hF
   intro st h
   simpa using h
  ·dsimp only at hF
   cases hF
   exact kc0
theorem C.f169 (a:yA)(b:yA)(r:Bool)(hF:F.f169 a b=some r):PureCall zQ B 41 [.agg [.lit (.string a.name),am zT a.ctors],.agg [.lit (.string b.name),am zT b.ctors]] (.lit (.bool r)):=by
 unfold F.f169 at hF
 refine zO func41 rfl ntmps41 ?_
 revert hF;refine kN ?_ ?_<;>intro h1 q2 hF
 ·cases hF
  exact kc2 h1 q2
 ·refine kB hF fun v e3 hF=> ?_
  refine((C.f168 B hB1 hB2 a.ctors b.ctors v e3)).goI ?_
  revert hF;refine kN (fun h4 q5 hF=> ?_) (fun h4 q5 hF=> ?_)
  ·cases hF
   exact kc2 h4 q5
  ·cases hF
   exact kc0
theorem CC.f170 (a:List yA)(b:List yA):(∀(i:Nat) (o:Lo Bool Unit),F.f170 a b i=some o->∀(c:Code),Zc [1,1,0,1,0,0] (ZJ Tryz.f13)=some c->∀(Q:Exit->ASt->Prop),o.post (fun r=>∀st,ZAR zQ Tryz.f13 (fun r' _=>r'.le (.lit (.bool r))) .ret st->Q .ret st) (fun s=>Q (.exit 0) ⟨[],[]⟩)->ALoopU zQ B 0 27 (hold c .mk) ⟨[(0,am yB a),(1,am yB b),(5,li (i:Int))],[]⟩ (hold Q .mk)):=by
 refine F.f170.partial_correctness a b
  _
  ?_
 ·intro _f_f170 ih_f170 i o hF
  refine ZP rfl fun Q hq hk hs=> ?_
  have b0:=hk 0
  simp -dsimp at b0
  have b1:=hk 1
  simp -dsimp at b1
  clear hk hs
  refine eN ?_
  revert hF;refine kS ?_ ?_<;>intro h4 q5 hF
  ·have z6:((i:Int)<(a.length:Int)):=auz
   refine kx2 h4 z6 ?_
   refine zW follows ?_
   apply oB hF;intro x e7 hF
   have le7:=ZA e7
   apply oB hF;intro x8 e9 hF
   have le9:=ZA e9
   refine ZF5 e7 e9 ?_
   apply oB hF;intro v e10 hF
   refine((C.f169 B hB1 hB2 x x8 v e10)).pgoW (by simp_all) (by simp) ?_
   revert hF;refine kN (fun h11 q12 hF=> ?_) (fun h11 q12 hF=> ?_)
   ·cases hF
    refine kx2 h11 q12 ?_
    refine lG _ (gR _) (hq _ ?_)
    exact kc0
   ·have w13:i64.wrap ((i:Int)+1)=(i:Int)+1:=ZB (by omega) (by omega)
    refine kx1 w13 ?_
    refine Again.is ((ih_f170 (i+1) o hF) _ rfl _ hq)
  ·have z6:¬((i:Int)<(a.length:Int)):=auz
   cases hF
   refine kx3 h4 q5 z6 ?_
   refine Leave.is hq
theorem C.f171 (a:List yA)(b:List yA)(r:Bool)(hF:F.f171 a b=some r):PureCall zQ B 13 [am yB a,am yB b] (.lit (.bool r)):=by
 unfold F.f171 at hF
 refine zO func13 rfl ntmps13 ?_
 revert hF;refine kN ?_ ?_<;>intro h1 q2 hF
 ·have z3:¬((a.length:Int)=(b.length:Int)):=auz
  cases hF
  exact kc3 h1 q2 z3
 ·have z3:((a.length:Int)=(b.length:Int)):=auz
  refine kB hF fun o' ho14 hF=> ?_
  refine zR (((CC.f170 B hB1 hB2 a b) 0 o' ho14) _ rfl _ ?_)
  rcases o' with r0|sx
  ·dsimp only at hF
   cases hF
   intro st h
   simpa using h
  ·dsimp only at hF
   cases hF
   exact kc0
theorem CC.f172  :(∀(a:Pattern) (b:Pattern) (r:Bool),F.f172 a b=some r->PureCall zQ B 14 [.agg [li a.op,li a.ctor,li a.n,li a.m,li a.var,am yG a.kids],.agg [li b.op,li b.ctor,li b.n,li b.m,li b.var,am yG b.kids]] (.lit (.bool r)))/\
  (∀(a:List Pattern) (b:List Pattern) (r:Bool),F.f173 a b=some r->PureCall zQ B 42 [am yG a,am yG b] (.lit (.bool r)))/\
  (∀(a:List Pattern) (b:List Pattern) (i:Nat) (o:Lo Bool Unit),F.f174 a b i=some o->∀(c:Code),Zc [1,1,0,1,0,0] (ZJ Tryz.f42)=some c->∀(Q:Exit->ASt->Prop),o.post (fun r=>∀st,ZAR zQ Tryz.f42 (fun r' _=>r'.le (.lit (.bool r))) .ret st->Q .ret st) (fun s=>Q (.exit 0) ⟨[],[]⟩)->ALoopU zQ B 0 27 (hold c .mk) ⟨[(0,am yG a),(1,am yG b),(5,li (i:Int))],[]⟩ (hold Q .mk)):=by
 refine F.f172.mutual_partial_correctness 
  _ _ _
  ?_ ?_ ?_
 ·intro _f_f173 ih_f173 a b r hF
  refine zO func14 rfl ntmps14 ?_
  revert hF;refine kN ?_ ?_<;>intro h1 q2 hF
  ·cases hF
   exact kc2 h1 q2
  ·revert hF;refine kN ?_ ?_<;>intro h3 q4 hF
   ·cases hF
    exact kc2 h3 q4
   ·revert hF;refine kN ?_ ?_<;>intro h5 q6 hF
    ·cases hF
     exact kc2 h5 q6
    ·revert hF;refine kN ?_ ?_<;>intro h7 q8 hF
     ·cases hF
      exact kc2 h7 q8
     ·revert hF;refine kN ?_ ?_<;>intro h9 q10 hF
      ·cases hF
       exact kc2 h9 q10
      ·refine kB hF fun v e11 hF=> ?_
       refine((ih_f173 a.kids b.kids v e11)).goI ?_
       revert hF;refine kN (fun h12 q13 hF=> ?_) (fun h12 q13 hF=> ?_)
       ·cases hF
        exact kc2 h12 q13
       ·cases hF
        exact kc0
 ·intro _f_f174 ih_f174 a b r hF
  refine zO func42 rfl ntmps42 ?_
  revert hF;refine kN ?_ ?_<;>intro h1 q2 hF
  ·have z3:¬((a.length:Int)=(b.length:Int)):=auz
   cases hF
   exact kc1 z3
  ·have z3:((a.length:Int)=(b.length:Int)):=auz
   refine kB hF fun o' ho14 hF=> ?_
   refine zR ((ih_f174 a b 0 o' ho14) _ rfl _ ?_)
   rcases o' with r0|sx
   ·dsimp only at hF
    cases hF
    intro st h
    simpa using h
   ·dsimp only at hF
    cases hF
    exact kc0
 ·intro _f_f172 _f_f174 ih_f172 ih_f174 a b i o hF
  refine ZP rfl fun Q hq hk hs=> ?_
  have b0:=hk 0
  simp -dsimp at b0
  have b1:=hk 1
  simp -dsimp at b1
  clear hk hs
  refine eN ?_
  revert hF;refine kS ?_ ?_<;>intro h4 q5 hF
  ·have z6:((i:Int)<(a.length:Int)):=auz
   refine kx2 h4 z6 ?_
   refine zW follows ?_
   apply oB hF;intro x e7 hF
   have le7:=ZA e7
   apply oB hF;intro x8 e9 hF
   have le9:=ZA e9
   refine ZF5 e7 e9 ?_
   apply oB hF;intro v e10 hF
   refine((ih_f172 x x8 v e10)).pgoW (by simp_all) (by simp) ?_
   revert hF;refine kN (fun h11 q12 hF=> ?_) (fun h11 q12 hF=> ?_)
   ·cases hF
    refine kx2 h11 q12 ?_
    refine lG _ (gR _) (hq _ ?_)
    exact kc0
   ·have w13:i64.wrap ((i:Int)+1)=(i:Int)+1:=ZB (by omega) (by omega)
    refine kx1 w13 ?_
    refine Again.is ((ih_f174 a b (i+1) o hF) _ rfl _ hq)
  ·have z6:¬((i:Int)<(a.length:Int)):=auz
   cases hF
   refine kx3 h4 q5 z6 ?_
   refine Leave.is hq
theorem CC.f175  :(∀(a:List Vl.Value) (k:Int) (r:Int),F.f175 a k=some r->PureCall zQ B 47 [am Vl.Value.c a,li k] (li r))/\
  (∀(a:List Vl.Value) (k1:Int) (i:Nat) (o:Lo Int Int),F.f176 a k1 i=some o->∀(c:Code),Zc [1,0,1,0,0] (ZJ Tryz.f47)=some c->∀(Q:Exit->ASt->Prop),o.post (fun r=>∀st,ZAR zQ Tryz.f47 (fun r' _=>r'.le (li r)) .ret st->Q .ret st) (fun s=>Q (.exit 0) ⟨[(1,li s)],[]⟩)->ALoopU zQ B 0 40 (hold c .mk) ⟨[(0,am Vl.Value.c a),(1,li k1),(5,li (i:Int))],[]⟩ (hold Q .mk)):=by
 refine F.f175.mutual_partial_correctness 
  _ _
  ?_ ?_
 ·intro _f_f176 ih_f176 a k r hF
  refine zO func47 rfl ntmps47 ?_
  refine kB hF fun o' ho14 hF=> ?_
  refine zR ((ih_f176 a k 0 o' ho14) _ rfl _ ?_)
  rcases o' with r0|sx
  ·dsimp only at hF
   cases hF
   intro st h
   simpa using h
  ·dsimp only at hF
   cases hF
   exact kc0
 ·intro _f_f175 _f_f176 ih_f175 ih_f176 a k1 i o hF
  refine ZP rfl fun Q hq hk hs=> ?_
  have b0:=hk 0
  simp -dsimp at b0
  clear hk hs
  refine eN ?_
  revert hF;refine kS ?_ ?_<;>intro h2 q3 hF
  ·have z4:((i:Int)<(a.length:Int)):=auz
   apply oB hF;intro x e5 hF
   have le5:=ZA e5
   refine Zb h2 z4 e5 ?_
   revert hF;refine aN ?_ ?_<;>intro h6 q7 hF
   ·cases hF
    refine ZJV e5 h6 q7 ?_
    refine lG _ (gR _) (hq _ ?_)
    repeat first|refine cg ?_|simp -dsimp[↓e5]
   ·refine kdd e5 ?_
    revert hF;refine aN ?_ ?_<;>intro h8 q9 hF
    ·cases hF
     refine ZJV e5 h8 q9 ?_
     refine lG _ (gR _) (hq _ ?_)
     repeat first|refine cg ?_|simp -dsimp[↓e5]
    ·refine kdd e5 ?_
     apply oB hF;intro v e10 hF
     refine((ih_f175 x.kids (i64.wrap (i64.wrap (k1+1)+1)) v e10)).goI ?_
     refine kdd e5 ?_
     revert hF;refine aS ?_ ?_<;>intro h11 q12 hF
     ·cases hF
      refine ZNG e5 h11 ?_
      refine lG _ (gR _) (hq _ ?_)
      repeat first|refine cg ?_|simp -dsimp[↓e5]
     ·have w13:i64.wrap ((i:Int)+1)=(i:Int)+1:=ZB (by omega) (by omega)
      refine ZJV e5 q12 w13 ?_
      refine Again.is ((ih_f176 a v (i+1) o hF) _ rfl _ hq)
  ·have z4:¬((i:Int)<(a.length:Int)):=auz
   cases hF
   refine kx3 h2 q3 z4 ?_
   refine Leave.is hq
theorem C.f177 (a:Vl.Value)(k:Int)(r:Int)(hF:F.f177 a k=some r):PureCall zQ B 18 [.agg [li a.ctor,li a.n,am Vl.Value.c a.kids],li k] (li r):=by
 unfold F.f177 at hF
 refine pE func18 (by kernel_rfl) rfl ntmps18 (by simp) (by simp) ?_
 refine kB hF fun v e1 hF=> ?_
 refine(((CC.f175 B hB1 hB2).1 a.kids k v e1)).goW (by simp) (by simp) ?_
 revert hF;refine kS ?_ ?_<;>intro h2 q3 hF
 ·cases hF
  repeat first|refine cg ?_|simp -dsimp[h2]
  all_goals(try first|omega|rfl)
 ·cases hF
  repeat first|refine cg ?_|simp -dsimp[h2,q3]
  all_goals(try first|omega|rfl)
theorem CM.laws_markPatternS :∀m:Nat,(∀(a:List Pattern) (k:Int),SizeOf.sizeOf a<m->MCall zQ B 45 (zA yG a) [.int .i64 k] (zA yG (yH a k).1) (.int .i64 (yH a k).2)):=by
 intro m
 induction m with
 |zero=>exact fun a k h=>absurd h (zI _)
 |succ m ih=>
  intro a0 k0 hm
  have hz0:∀x,x∈a0->SizeOf.sizeOf x<m:=fun x hx=>by have:=zE hx;omega
  have loop:∀(rest D:List Pattern) (k:Int) (i n:Nat) (rows:List (List AV)) (us:List Go.Value),(∀x,x∈rest->SizeOf.sizeOf x<m)->i=D.length->n=i+rest.length->RW 6 n rows us->
    ∀(c:Code),Zc [1,0,1,0,0] (ZJ Tryz.f45)=some c->∀(Q:Exit->ASt->Prop),
    (∀(R:List (List AV)) (U:List Go.Value),RW 6 n R U->Q (.exit 0) ⟨[(1,.lit (.int .i64 (yH rest k).2))],[.elems 6 R,.pack (List.flatten (zA yG (D++(yH rest k).1))) U]⟩)->
    ALoopU zQ B 2 55 (hold c .mk) ⟨[(0,.own 0 n),(1,.lit (.int .i64 k)),(5,.lit (.int .i64 (i:Int)))],[.elems 6 rows,.pack (List.flatten (zA yG (D++rest))) us]⟩ (hold Q .mk):=by
   intro rest
   induction rest with
   |nil=>
    intro D k i n rows us hz hi hn H c hc Q hq
    obtain rfl:c=_:=ZAK hc rfl
    have hn':n=i:=by simpa using hn
    subst hn'
    refine eN ?_
    repeat first|refine cg ?_|simp -dsimp[RW.len H]
    refine lG ⟨[(1,.lit (.int .i64 k))],[.elems 6 rows,.pack (List.flatten (zA yG D)) us]⟩ (gT (by simp) (by simp -dsimp[RW.closed H])) ?_
    simpa[yH]using hq rows us H
   |cons x r ihr=>
    intro D k i n rows us hz hi hn H c hc Q hq
    refine yM 1 (List.flatten (zA yG D)) (yG x) (List.flatten (zA yG r)) rfl (by simp) (by simp) ?_
    intro h1 vs UA UC o_h1 hlt hU hlA
    have hv:vs=[.int .i64 x.op,.int .i64 x.ctor,.int .i64 x.n,.int .i64 x.m,.int .i64 x.var,h1]:=by apply ZCQ;rw[←hlt];simp
    subst hv hU
    have hUA:UA.length=i*6:=by rw[hlA,ZAo yI,hi]
    have hin:i<n:=by simp at hn;omega
    have hrow:rows[i]? =some [.lit (.int .i64 x.op),.lit (.int .i64 x.ctor),.lit (.int .i64 x.n),.lit (.int .i64 x.m),.lit (.int .i64 x.var),.lit h1]:=by simpa using H.at hin rfl hUA rfl
    have hne:¬rows=[]:=by intro e;rw[e]at hrow;simp at hrow
    have hrl:=RW.len H
    have hrow':∀(h:i<rows.length),rows[i]=[.lit (.int .i64 x.op),.lit (.int .i64 x.ctor),.lit (.int .i64 x.n),.lit (.int .i64 x.m),.lit (.int .i64 x.var),.lit h1]:=fun h=>by rw[zC h]at hrow;exact zJ hrow
    have hset:∀a,(rows.set i a)[i]? =some a:=fun a=>zD (by omega)
    clear hlt
    refine yL fun hk hs=> ?_
    have d0:=hs 0 _ rfl
    simp -dsimp[Blk.bnd]at d0
    clear hk hs
    obtain rfl:c=_:=ZAK hc rfl
    have w1:i64.wrap ((i:Int)+1)=(i:Int)+1:=ZB (by omega) (by omega)
    refine eN ?_
    repeat first|refine cg ?_|simp -dsimp[hne,hrow,hrow',hset,hrl,hin,w1,List.set_set,o_h1]
    have sz0:SizeOf.sizeOf x.kids<m:=by have h0:=hz x (by simp);cases x;simp at h0 ⊢;omega
    refine(ih x.kids (i64.wrap ((i64.wrap ((i64.wrap ((i64.wrap ((i64.wrap (k+1))+1))+1))+1))+1)) sz0).go 2 rfl (by simp) ?_
    refine kx1 w1 ?_
    refine aG ⟨[(0,.own 0 n),(1,.lit (.int .i64 ((yH x.kids (i64.wrap ((i64.wrap ((i64.wrap ((i64.wrap ((i64.wrap (k+1))+1))+1))+1))+1))).2))),(5,.lit (.int .i64 ((i+1:Nat):Int)))],[.elems 6 (rows.set i [.lit (.int .i64 k),.lit (.int .i64 (i64.wrap (k+1))),.lit (.int .i64 (i64.wrap ((i64.wrap (k+1))+1))),.lit (.int .i64 (i64.wrap ((i64.wrap ((i64.wrap (k+1))+1))+1))),.lit (.int .i64 (i64.wrap ((i64.wrap ((i64.wrap ((i64.wrap (k+1))+1))+1))+1))),.lit h1]),.pack (List.flatten (zA yG ((D++[(⟨k,i64.wrap (k+1),i64.wrap ((i64.wrap (k+1))+1),i64.wrap ((i64.wrap ((i64.wrap (k+1))+1))+1),i64.wrap ((i64.wrap ((i64.wrap ((i64.wrap (k+1))+1))+1))+1),(yH x.kids (i64.wrap ((i64.wrap ((i64.wrap ((i64.wrap ((i64.wrap (k+1))+1))+1))+1))+1))).1⟩:Pattern)])++r))) (UA++([.int .i64 k,.int .i64 (i64.wrap (k+1)),.int .i64 (i64.wrap ((i64.wrap (k+1))+1)),.int .i64 (i64.wrap ((i64.wrap ((i64.wrap (k+1))+1))+1)),.int .i64 (i64.wrap ((i64.wrap ((i64.wrap ((i64.wrap (k+1))+1))+1))+1)),h1]++UC))]⟩
     (by refine yN (yO 1 [2] (XA:=List.flatten (zA yG D)) (old:=[.lit (.int .i64 x.op),.lit (.int .i64 x.ctor),.lit (.int .i64 x.n),.lit (.int .i64 x.m),.lit (.int .i64 x.var),.lit h1]) (XC:=List.flatten (zA yG r)) (UA:=UA) (uo:=[.int .i64 x.op,.int .i64 x.ctor,.int .i64 x.n,.int .i64 x.m,.int .i64 x.var,h1]) (UC:=UC) (by exact rfl) (by simp) (by simp) hlA rfl (.lit (.int .i64 k) (.lit (.int .i64 (i64.wrap (k+1))) (.lit (.int .i64 (i64.wrap ((i64.wrap (k+1))+1))) (.lit (.int .i64 (i64.wrap ((i64.wrap ((i64.wrap (k+1))+1))+1))) (.lit (.int .i64 (i64.wrap ((i64.wrap ((i64.wrap ((i64.wrap (k+1))+1))+1))+1))) (.pk 2 (by exact rfl) .nil)))))) (by decide)) ?_;exact gT (by simp) (by simp -dsimp[RW.closed H])) ?_
    have he:yH (x::r) k=((⟨k,i64.wrap (k+1),i64.wrap ((i64.wrap (k+1))+1),i64.wrap ((i64.wrap ((i64.wrap (k+1))+1))+1),i64.wrap ((i64.wrap ((i64.wrap ((i64.wrap (k+1))+1))+1))+1),(yH x.kids (i64.wrap ((i64.wrap ((i64.wrap ((i64.wrap ((i64.wrap (k+1))+1))+1))+1))+1))).1⟩:Pattern)::(yH r ((yH x.kids (i64.wrap ((i64.wrap ((i64.wrap ((i64.wrap ((i64.wrap (k+1))+1))+1))+1))+1))).2)).1,(yH r ((yH x.kids (i64.wrap ((i64.wrap ((i64.wrap ((i64.wrap ((i64.wrap (k+1))+1))+1))+1))+1))).2)).2):=by(first|rfl|(cases x;simp[yH,yK]))
    rw[he]at hq
    refine ihr (D++[(⟨k,i64.wrap (k+1),i64.wrap ((i64.wrap (k+1))+1),i64.wrap ((i64.wrap ((i64.wrap (k+1))+1))+1),i64.wrap ((i64.wrap ((i64.wrap ((i64.wrap (k+1))+1))+1))+1),(yH x.kids (i64.wrap ((i64.wrap ((i64.wrap ((i64.wrap ((i64.wrap (k+1))+1))+1))+1))+1))).1⟩:Pattern)]) _ (i+1) n _ _ (fun y hy=>hz y (zF _ hy)) (by simp[hi]) (by simp at hn;omega) (by simpa using H.setAt hin hUA rfl [.int .i64 k,.int .i64 (i64.wrap (k+1)),.int .i64 (i64.wrap ((i64.wrap (k+1))+1)),.int .i64 (i64.wrap ((i64.wrap ((i64.wrap (k+1))+1))+1)),.int .i64 (i64.wrap ((i64.wrap ((i64.wrap ((i64.wrap (k+1))+1))+1))+1)),h1] rfl) _ rfl _ fun R U hR=> ?_
    simpa using hq R U hR
  refine MCall.enter 6 func45 (by kernel_rfl) rfl ntmps45 (by simp) (by simp[yJ]) (fun e he=>by obtain⟨x,_,rfl⟩:=zB.1 he;exact yI x) ?_ ?_
  ·intro he
   have he:a0=[]:=by simpa using he
   subst he
   refine kx0 ?_
   refine zP ⟨[(0,.arr []),(1,.lit (.int .i64 k0)),(5,.lit (.int .i64 0))],[]⟩ (gT (by simp) (by simp -dsimp)) ?_
   refine eN ?_
   refine kx0 ?_
   refine lG _ (gR _) ?_
   repeat first|refine cg ?_|simp -dsimp
   all_goals(try simp[yH])
  ·intro hne rows us e1 e2 e3 e4
   have H:RW 6 a0.length rows us:=⟨by simpa using e2,e3,e1⟩
   refine kx0 ?_
   refine zP ⟨[(0,.own 0 a0.length),(1,.lit (.int .i64 k0)),(5,.lit (.int .i64 ((0:Nat):Int)))],[.elems 6 rows,.pack (List.flatten (zA yG ([]++a0))) us]⟩ (gT (by simp) (by simp -dsimp[RW.closed H])) ?_
   refine loop a0 [] k0 0 a0.length rows us hz0 rfl (by simp) H _ rfl _ ?_
   intro R U hR
   refine kx0 ?_
   exact⟨rfl,R,U,rfl,⟨1,by simp⟩,hR.2.2,by rw[hR.1];simp[yJ],fun x hx=>by obtain⟨y,_,rfl⟩:=zB.1 hx;exact yI y⟩
theorem C.f178 (a:List Pattern)(k:Int)(v:List Pattern×Int)(hF:F.f178 a k=some v):MCall zQ B 45 (zA yG a) [.int .i64 k] (zA yG v.1) (.int .i64 v.2):=by
 obtain rfl:=zJ hF
 exact(CM.laws_markPatternS B hB1 hB2 (SizeOf.sizeOf a+1)) a k (Nat.lt_succ_self _)
theorem CM.laws_markTypeS :∀m:Nat,(∀(a:List Ty) (k:Int),SizeOf.sizeOf a<m->MCall zQ B 74 (zA zL a) [.int .i64 k] (zA zL (zK a k).1) (.int .i64 (zK a k).2)):=by
 intro m
 induction m with
 |zero=>exact fun a k h=>absurd h (zI _)
 |succ m ih=>
  intro a0 k0 hm
  have hz0:∀x,x∈a0->SizeOf.sizeOf x<m:=fun x hx=>by have:=zE hx;omega
  have loop:∀(rest D:List Ty) (k:Int) (i n:Nat) (rows:List (List AV)) (us:List Go.Value),(∀x,x∈rest->SizeOf.sizeOf x<m)->i=D.length->n=i+rest.length->RW 2 n rows us->
    ∀(c:Code),Zc [1,0,1,0,0] (ZJ Tryz.f74)=some c->∀(Q:Exit->ASt->Prop),
    (∀(R:List (List AV)) (U:List Go.Value),RW 2 n R U->Q (.exit 0) ⟨[(1,.lit (.int .i64 (zK rest k).2))],[.elems 2 R,.pack (List.flatten (zA zL (D++(zK rest k).1))) U]⟩)->
    ALoopU zQ B 2 27 (hold c .mk) ⟨[(0,.own 0 n),(1,.lit (.int .i64 k)),(5,.lit (.int .i64 (i:Int)))],[.elems 2 rows,.pack (List.flatten (zA zL (D++rest))) us]⟩ (hold Q .mk):=by
   intro rest
   induction rest with
   |nil=>
    intro D k i n rows us hz hi hn H c hc Q hq
    obtain rfl:c=_:=ZAK hc rfl
    have hn':n=i:=by simpa using hn
    subst hn'
    refine eN ?_
    repeat first|refine cg ?_|simp -dsimp[RW.len H]
    refine lG ⟨[(1,.lit (.int .i64 k))],[.elems 2 rows,.pack (List.flatten (zA zL D)) us]⟩ (gT (by simp) (by simp -dsimp[RW.closed H])) ?_
    simpa[zK]using hq rows us H
   |cons x r ihr=>
    intro D k i n rows us hz hi hn H c hc Q hq
    refine ALoopU.opnAt 1 (List.flatten (zA zL D)) (zL x) (List.flatten (zA zL r)) rfl (by simp) ?_
    intro hs vs UA UC hl ho hlt hU hlA
    have hs0:hs=[]:=List.length_eq_zero_iff.1 (by simpa using hl)
    subst hs0
    have hv:vs=[.int .i64 x.data,.int .i64 x.index]:=by apply ZCQ;rw[←hlt];simp
    subst hv hU
    have hUA:UA.length=i*2:=by rw[hlA,ZAo zM,hi]
    have hin:i<n:=by simp at hn;omega
    have hrow:rows[i]? =some [.lit (.int .i64 x.data),.lit (.int .i64 x.index)]:=by simpa using H.at hin rfl hUA rfl
    have hne:¬rows=[]:=by intro e;rw[e]at hrow;simp at hrow
    have hrl:=RW.len H
    have hrow':∀(h:i<rows.length),rows[i]=[.lit (.int .i64 x.data),.lit (.int .i64 x.index)]:=fun h=>by rw[zC h]at hrow;exact zJ hrow
    have hset:∀a,(rows.set i a)[i]? =some a:=fun a=>zD (by omega)
    clear hlt
    refine yL fun hk hs=> ?_
    have d0:=hs 0 _ rfl
    simp -dsimp[Blk.bnd]at d0
    clear hk hs
    obtain rfl:c=_:=ZAK hc rfl
    have w1:i64.wrap ((i:Int)+1)=(i:Int)+1:=ZB (by omega) (by omega)
    refine eN ?_
    repeat first|refine cg ?_|simp -dsimp[hne,hrow,hrow',hset,hrl,hin,w1,List.set_set]
    refine aG ⟨[(0,.own 0 n),(1,.lit (.int .i64 (i64.wrap ((i64.wrap (k+1))+1)))),(5,.lit (.int .i64 ((i+1:Nat):Int)))],[.elems 2 (rows.set i [.lit (.int .i64 k),.lit (.int .i64 (i64.wrap (k+1)))]),.pack (List.flatten (zA zL ((D++[(⟨k,i64.wrap (k+1)⟩:Ty)])++r))) (UA++([.int .i64 k,.int .i64 (i64.wrap (k+1))]++UC))]⟩
     (by refine yN (yO 1 [] (XA:=List.flatten (zA zL D)) (old:=[.lit (.int .i64 x.data),.lit (.int .i64 x.index)]) (XC:=List.flatten (zA zL r)) (UA:=UA) (uo:=[.int .i64 x.data,.int .i64 x.index]) (UC:=UC) (by exact rfl) (by simp) (by simp) hlA rfl (.lit (.int .i64 k) (.lit (.int .i64 (i64.wrap (k+1))) .nil)) (by decide)) ?_;exact gT (by simp) (by simp -dsimp[RW.closed H])) ?_
    have he:zK (x::r) k=((⟨k,i64.wrap (k+1)⟩:Ty)::(zK r (i64.wrap ((i64.wrap (k+1))+1))).1,(zK r (i64.wrap ((i64.wrap (k+1))+1))).2):=by(first|rfl|(cases x;simp[zK,Ty.mkE]))
    rw[he]at hq
    refine ihr (D++[(⟨k,i64.wrap (k+1)⟩:Ty)]) _ (i+1) n _ _ (fun y hy=>hz y (zF _ hy)) (by simp[hi]) (by simp at hn;omega) (by simpa using H.setAt hin hUA rfl [.int .i64 k,.int .i64 (i64.wrap (k+1))] rfl) _ rfl _ fun R U hR=> ?_
    simpa using hq R U hR
  refine MCall.enter 2 func74 (by kernel_rfl) rfl ntmps74 (by simp) (by simp[zN]) (fun e he=>by obtain⟨x,_,rfl⟩:=zB.1 he;exact zM x) ?_ ?_
  ·intro he
   have he:a0=[]:=by simpa using he
   subst he
   refine kx0 ?_
   refine zP ⟨[(0,.arr []),(1,.lit (.int .i64 k0)),(5,.lit (.int .i64 0))],[]⟩ (gT (by simp) (by simp -dsimp)) ?_
   refine eN ?_
   refine kx0 ?_
   refine lG _ (gR _) ?_
   repeat first|refine cg ?_|simp -dsimp
   all_goals(try simp[zK])
  ·intro hne rows us e1 e2 e3 e4
   have H:RW 2 a0.length rows us:=⟨by simpa using e2,e3,e1⟩
   refine kx0 ?_
   refine zP ⟨[(0,.own 0 a0.length),(1,.lit (.int .i64 k0)),(5,.lit (.int .i64 ((0:Nat):Int)))],[.elems 2 rows,.pack (List.flatten (zA zL ([]++a0))) us]⟩ (gT (by simp) (by simp -dsimp[RW.closed H])) ?_
   refine loop a0 [] k0 0 a0.length rows us hz0 rfl (by simp) H _ rfl _ ?_
   intro R U hR
   refine kx0 ?_
   exact⟨rfl,R,U,rfl,⟨1,by simp⟩,hR.2.2,by rw[hR.1];simp[zN],fun x hx=>by obtain⟨y,_,rfl⟩:=zB.1 hx;exact zM y⟩
theorem C.f180 (a:List Ty)(k:Int)(v:List Ty×Int)(hF:F.f180 a k=some v):MCall zQ B 74 (zA zL a) [.int .i64 k] (zA zL v.1) (.int .i64 v.2):=by
 obtain rfl:=zJ hF
 exact(CM.laws_markTypeS B hB1 hB2 (SizeOf.sizeOf a+1)) a k (Nat.lt_succ_self _)
theorem CM.laws_markCtorS :∀m:Nat,(∀(a:List Ctor) (k:Int),SizeOf.sizeOf a<m->MCall zQ B 44 (zA zT a) [.int .i64 k] (zA zT (zS mtF a k).1) (.int .i64 (zS mtF a k).2)):=by
 intro m
 induction m with
 |zero=>exact fun a k h=>absurd h (zI _)
 |succ m ih=>
  intro a0 k0 hm
  have hz0:∀x,x∈a0->SizeOf.sizeOf x<m:=fun x hx=>by have:=zE hx;omega
  have loop:∀(rest D:List Ctor) (k:Int) (i n:Nat) (rows:List (List AV)) (us:List Go.Value),(∀x,x∈rest->SizeOf.sizeOf x<m)->i=D.length->n=i+rest.length->RW 3 n rows us->
    ∀(c:Code),Zc [1,0,1,0,0] (ZJ Tryz.f44)=some c->∀(Q:Exit->ASt->Prop),
    (∀(R:List (List AV)) (U:List Go.Value),RW 3 n R U->Q (.exit 0) ⟨[(1,.lit (.int .i64 (zS mtF rest k).2))],[.elems 3 R,.pack (List.flatten (zA zT (D++(zS mtF rest k).1))) U]⟩)->
    ALoopU zQ B 2 35 (hold c .mk) ⟨[(0,.own 0 n),(1,.lit (.int .i64 k)),(5,.lit (.int .i64 (i:Int)))],[.elems 3 rows,.pack (List.flatten (zA zT (D++rest))) us]⟩ (hold Q .mk):=by
   intro rest
   induction rest with
   |nil=>
    intro D k i n rows us hz hi hn H c hc Q hq
    obtain rfl:c=_:=ZAK hc rfl
    have hn':n=i:=by simpa using hn
    subst hn'
    refine eN ?_
    repeat first|refine cg ?_|simp -dsimp[RW.len H]
    refine lG ⟨[(1,.lit (.int .i64 k))],[.elems 3 rows,.pack (List.flatten (zA zT D)) us]⟩ (gT (by simp) (by simp -dsimp[RW.closed H])) ?_
    simpa[zS]using hq rows us H
   |cons x r ihr=>
    intro D k i n rows us hz hi hn H c hc Q hq
    refine yM 1 (List.flatten (zA zT D)) (zT x) (List.flatten (zA zT r)) rfl (by simp) (by simp) ?_
    intro h1 vs UA UC o_h1 hlt hU hlA
    have hv:vs=[.string x.name,h1,.int .i64 x.index]:=by apply ZCQ;rw[←hlt];simp
    subst hv hU
    have hUA:UA.length=i*3:=by rw[hlA,ZAo zU,hi]
    have hin:i<n:=by simp at hn;omega
    have hrow:rows[i]? =some [.lit (.string x.name),.lit h1,.lit (.int .i64 x.index)]:=by simpa using H.at hin rfl hUA rfl
    have hne:¬rows=[]:=by intro e;rw[e]at hrow;simp at hrow
    have hrl:=RW.len H
    have hrow':∀(h:i<rows.length),rows[i]=[.lit (.string x.name),.lit h1,.lit (.int .i64 x.index)]:=fun h=>by rw[zC h]at hrow;exact zJ hrow
    have hset:∀a,(rows.set i a)[i]? =some a:=fun a=>zD (by omega)
    clear hlt
    refine yL fun hk hs=> ?_
    have d0:=hs 0 _ rfl
    simp -dsimp[Blk.bnd]at d0
    clear hk hs
    obtain rfl:c=_:=ZAK hc rfl
    have w1:i64.wrap ((i:Int)+1)=(i:Int)+1:=ZB (by omega) (by omega)
    refine eN ?_
    repeat first|refine cg ?_|simp -dsimp[hne,hrow,hrow',hset,hrl,hin,w1,List.set_set,o_h1]
    refine(C.f1 B hB1 hB2 k _ (ZLX k)).goI ?_
    repeat first|refine cg ?_|simp -dsimp[hne,hrow,hrow',hset,hrl,hin,w1,List.set_set,o_h1]
    refine(C.f180 B hB1 hB2 x.args (i64.wrap (k+1)) _ rfl).go 2 rfl (by simp) ?_
    repeat first|refine cg ?_|simp -dsimp[hne,hrow,hrow',hset,hrl,hin,w1,List.set_set,o_h1]
    refine aG ⟨[(0,.own 0 n),(1,.lit (.int .i64 (i64.wrap (((zK x.args (i64.wrap (k+1))).2)+1)))),(5,.lit (.int .i64 ((i+1:Nat):Int)))],[.elems 3 (rows.set i [.lit (.string (mtF k)),.lit h1,.lit (.int .i64 ((zK x.args (i64.wrap (k+1))).2))]),.pack (List.flatten (zA zT ((D++[(⟨mtF k,(zK x.args (i64.wrap (k+1))).1,(zK x.args (i64.wrap (k+1))).2⟩:Ctor)])++r))) (UA++([.string (mtF k),h1,.int .i64 ((zK x.args (i64.wrap (k+1))).2)]++UC))]⟩
     (by refine yN (yO 1 [2] (XA:=List.flatten (zA zT D)) (old:=[.lit (.string x.name),.lit h1,.lit (.int .i64 x.index)]) (XC:=List.flatten (zA zT r)) (UA:=UA) (uo:=[.string x.name,h1,.int .i64 x.index]) (UC:=UC) (by exact rfl) (by simp) (by simp) hlA rfl (.lit (.string (mtF k)) (.pk 2 (by exact rfl) (.lit (.int .i64 ((zK x.args (i64.wrap (k+1))).2)) .nil))) (by decide)) ?_;exact gT (by simp) (by simp -dsimp[RW.closed H])) ?_
    have he:zS mtF (x::r) k=((⟨mtF k,(zK x.args (i64.wrap (k+1))).1,(zK x.args (i64.wrap (k+1))).2⟩:Ctor)::(zS mtF r (i64.wrap (((zK x.args (i64.wrap (k+1))).2)+1))).1,(zS mtF r (i64.wrap (((zK x.args (i64.wrap (k+1))).2)+1))).2):=by(first|rfl|(cases x;simp[zS,Ctor.mkE]))
    rw[he]at hq
    refine ihr (D++[(⟨mtF k,(zK x.args (i64.wrap (k+1))).1,(zK x.args (i64.wrap (k+1))).2⟩:Ctor)]) _ (i+1) n _ _ (fun y hy=>hz y (zF _ hy)) (by simp[hi]) (by simp at hn;omega) (by simpa using H.setAt hin hUA rfl [.string (mtF k),h1,.int .i64 ((zK x.args (i64.wrap (k+1))).2)] rfl) _ rfl _ fun R U hR=> ?_
    simpa using hq R U hR
  refine MCall.enter 3 func44 (by kernel_rfl) rfl ntmps44 (by simp) (by simp[zV]) (fun e he=>by obtain⟨x,_,rfl⟩:=zB.1 he;exact zU x) ?_ ?_
  ·intro he
   have he:a0=[]:=by simpa using he
   subst he
   refine kx0 ?_
   refine zP ⟨[(0,.arr []),(1,.lit (.int .i64 k0)),(5,.lit (.int .i64 0))],[]⟩ (gT (by simp) (by simp -dsimp)) ?_
   refine eN ?_
   refine kx0 ?_
   refine lG _ (gR _) ?_
   repeat first|refine cg ?_|simp -dsimp
   all_goals(try simp[zS])
  ·intro hne rows us e1 e2 e3 e4
   have H:RW 3 a0.length rows us:=⟨by simpa using e2,e3,e1⟩
   refine kx0 ?_
   refine zP ⟨[(0,.own 0 a0.length),(1,.lit (.int .i64 k0)),(5,.lit (.int .i64 ((0:Nat):Int)))],[.elems 3 rows,.pack (List.flatten (zA zT ([]++a0))) us]⟩ (gT (by simp) (by simp -dsimp[RW.closed H])) ?_
   refine loop a0 [] k0 0 a0.length rows us hz0 rfl (by simp) H _ rfl _ ?_
   intro R U hR
   refine kx0 ?_
   exact⟨rfl,R,U,rfl,⟨1,by simp⟩,hR.2.2,by rw[hR.1];simp[zV],fun x hx=>by obtain⟨y,_,rfl⟩:=zB.1 hx;exact zU y⟩
theorem C.f181 (a:List Ctor)(k:Int)(v:List Ctor×Int)(hF:F.f181 a k=some v):MCall zQ B 44 (zA zT a) [.int .i64 k] (zA zT v.1) (.int .i64 v.2):=by
 obtain rfl:=zJ hF
 exact(CM.laws_markCtorS B hB1 hB2 (SizeOf.sizeOf a+1)) a k (Nat.lt_succ_self _)
theorem CM.laws_markDataS :∀m:Nat,(∀(a:List yA) (k:Int),SizeOf.sizeOf a<m->MCall zQ B 15 (zA yB a) [.int .i64 k] (zA yB (yC mtF a k).1) (.int .i64 (yC mtF a k).2)):=by
 intro m
 induction m with
 |zero=>exact fun a k h=>absurd h (zI _)
 |succ m ih=>
  intro a0 k0 hm
  have hz0:∀x,x∈a0->SizeOf.sizeOf x<m:=fun x hx=>by have:=zE hx;omega
  have loop:∀(rest D:List yA) (k:Int) (i n:Nat) (rows:List (List AV)) (us:List Go.Value),(∀x,x∈rest->SizeOf.sizeOf x<m)->i=D.length->n=i+rest.length->RW 2 n rows us->
    ∀(c:Code),Zc [1,0,1,0,0] (ZJ Tryz.f15)=some c->∀(Q:Exit->ASt->Prop),
    (∀(R:List (List AV)) (U:List Go.Value),RW 2 n R U->Q (.exit 0) ⟨[(1,.lit (.int .i64 (yC mtF rest k).2))],[.elems 2 R,.pack (List.flatten (zA yB (D++(yC mtF rest k).1))) U]⟩)->
    ALoopU zQ B 2 28 (hold c .mk) ⟨[(0,.own 0 n),(1,.lit (.int .i64 k)),(5,.lit (.int .i64 (i:Int)))],[.elems 2 rows,.pack (List.flatten (zA yB (D++rest))) us]⟩ (hold Q .mk):=by
   intro rest
   induction rest with
   |nil=>
    intro D k i n rows us hz hi hn H c hc Q hq
    obtain rfl:c=_:=ZAK hc rfl
    have hn':n=i:=by simpa using hn
    subst hn'
    refine eN ?_
    repeat first|refine cg ?_|simp -dsimp[RW.len H]
    refine lG ⟨[(1,.lit (.int .i64 k))],[.elems 2 rows,.pack (List.flatten (zA yB D)) us]⟩ (gT (by simp) (by simp -dsimp[RW.closed H])) ?_
    simpa[yC]using hq rows us H
   |cons x r ihr=>
    intro D k i n rows us hz hi hn H c hc Q hq
    refine yM 1 (List.flatten (zA yB D)) (yB x) (List.flatten (zA yB r)) rfl (by simp) (by simp) ?_
    intro h1 vs UA UC o_h1 hlt hU hlA
    have hv:vs=[.string x.name,h1]:=by apply ZCQ;rw[←hlt];simp
    subst hv hU
    have hUA:UA.length=i*2:=by rw[hlA,ZAo yD,hi]
    have hin:i<n:=by simp at hn;omega
    have hrow:rows[i]? =some [.lit (.string x.name),.lit h1]:=by simpa using H.at hin rfl hUA rfl
    have hne:¬rows=[]:=by intro e;rw[e]at hrow;simp at hrow
    have hrl:=RW.len H
    have hrow':∀(h:i<rows.length),rows[i]=[.lit (.string x.name),.lit h1]:=fun h=>by rw[zC h]at hrow;exact zJ hrow
    have hset:∀a,(rows.set i a)[i]? =some a:=fun a=>zD (by omega)
    clear hlt
    refine yL fun hk hs=> ?_
    have d0:=hs 0 _ rfl
    simp -dsimp[Blk.bnd]at d0
    clear hk hs
    obtain rfl:c=_:=ZAK hc rfl
    have w1:i64.wrap ((i:Int)+1)=(i:Int)+1:=ZB (by omega) (by omega)
    refine eN ?_
    repeat first|refine cg ?_|simp -dsimp[hne,hrow,hrow',hset,hrl,hin,w1,List.set_set,o_h1]
    refine(C.f1 B hB1 hB2 k _ (ZLX k)).goI ?_
    repeat first|refine cg ?_|simp -dsimp[hne,hrow,hrow',hset,hrl,hin,w1,List.set_set,o_h1]
    refine(C.f181 B hB1 hB2 x.ctors (i64.wrap (k+1)) _ rfl).go 2 rfl (by simp) ?_
    repeat first|refine cg ?_|simp -dsimp[hne,hrow,hrow',hset,hrl,hin,w1,List.set_set,o_h1]
    refine aG ⟨[(0,.own 0 n),(1,.lit (.int .i64 ((zS mtF x.ctors (i64.wrap (k+1))).2))),(5,.lit (.int .i64 ((i+1:Nat):Int)))],[.elems 2 (rows.set i [.lit (.string (mtF k)),.lit h1]),.pack (List.flatten (zA yB ((D++[(⟨mtF k,(zS mtF x.ctors (i64.wrap (k+1))).1⟩:yA)])++r))) (UA++([.string (mtF k),h1]++UC))]⟩
     (by refine yN (yO 1 [2] (XA:=List.flatten (zA yB D)) (old:=[.lit (.string x.name),.lit h1]) (XC:=List.flatten (zA yB r)) (UA:=UA) (uo:=[.string x.name,h1]) (UC:=UC) (by exact rfl) (by simp) (by simp) hlA rfl (.lit (.string (mtF k)) (.pk 2 (by exact rfl) .nil)) (by decide)) ?_;exact gT (by simp) (by simp -dsimp[RW.closed H])) ?_
    have he:yC mtF (x::r) k=((⟨mtF k,(zS mtF x.ctors (i64.wrap (k+1))).1⟩:yA)::(yC mtF r ((zS mtF x.ctors (i64.wrap (k+1))).2)).1,(yC mtF r ((zS mtF x.ctors (i64.wrap (k+1))).2)).2):=by(first|rfl|(cases x;simp[yC,yF]))
    rw[he]at hq
    refine ihr (D++[(⟨mtF k,(zS mtF x.ctors (i64.wrap (k+1))).1⟩:yA)]) _ (i+1) n _ _ (fun y hy=>hz y (zF _ hy)) (by simp[hi]) (by simp at hn;omega) (by simpa using H.setAt hin hUA rfl [.string (mtF k),h1] rfl) _ rfl _ fun R U hR=> ?_
    simpa using hq R U hR
  refine MCall.enter 2 func15 (by kernel_rfl) rfl ntmps15 (by simp) (by simp[yE]) (fun e he=>by obtain⟨x,_,rfl⟩:=zB.1 he;exact yD x) ?_ ?_
  ·intro he
   have he:a0=[]:=by simpa using he
   subst he
   refine kx0 ?_
   refine zP ⟨[(0,.arr []),(1,.lit (.int .i64 k0)),(5,.lit (.int .i64 0))],[]⟩ (gT (by simp) (by simp -dsimp)) ?_
   refine eN ?_
   refine kx0 ?_
   refine lG _ (gR _) ?_
   repeat first|refine cg ?_|simp -dsimp
   all_goals(try simp[yC])
  ·intro hne rows us e1 e2 e3 e4
   have H:RW 2 a0.length rows us:=⟨by simpa using e2,e3,e1⟩
   refine kx0 ?_
   refine zP ⟨[(0,.own 0 a0.length),(1,.lit (.int .i64 k0)),(5,.lit (.int .i64 ((0:Nat):Int)))],[.elems 2 rows,.pack (List.flatten (zA yB ([]++a0))) us]⟩ (gT (by simp) (by simp -dsimp[RW.closed H])) ?_
   refine loop a0 [] k0 0 a0.length rows us hz0 rfl (by simp) H _ rfl _ ?_
   intro R U hR
   refine kx0 ?_
   exact⟨rfl,R,U,rfl,⟨1,by simp⟩,hR.2.2,by rw[hR.1];simp[yE],fun x hx=>by obtain⟨y,_,rfl⟩:=zB.1 hx;exact yD y⟩
theorem C.f182 (a:List yA)(k:Int)(v:List yA×Int)(hF:F.f182 a k=some v):MCall zQ B 15 (zA yB a) [.int .i64 k] (zA yB v.1) (.int .i64 v.2):=by
 obtain rfl:=zJ hF
 exact(CM.laws_markDataS B hB1 hB2 (SizeOf.sizeOf a+1)) a k (Nat.lt_succ_self _)
theorem CM.laws_markValueS :∀m:Nat,(∀(a:List Vl.Value) (k:Int),SizeOf.sizeOf a<m->MCall zQ B 46 (zA Vl.Value.c a) [.int .i64 k] (zA Vl.Value.c (Vl.Value.mkL a k).1) (.int .i64 (Vl.Value.mkL a k).2)):=by
 intro m
 induction m with
 |zero=>exact fun a k h=>absurd h (zI _)
 |succ m ih=>
  intro a0 k0 hm
  have hz0:∀x,x∈a0->SizeOf.sizeOf x<m:=fun x hx=>by have:=zE hx;omega
  have loop:∀(rest D:List Vl.Value) (k:Int) (i n:Nat) (rows:List (List AV)) (us:List Go.Value),(∀x,x∈rest->SizeOf.sizeOf x<m)->i=D.length->n=i+rest.length->RW 3 n rows us->
    ∀(c:Code),Zc [1,0,1,0,0] (ZJ Tryz.f46)=some c->∀(Q:Exit->ASt->Prop),
    (∀(R:List (List AV)) (U:List Go.Value),RW 3 n R U->Q (.exit 0) ⟨[(1,.lit (.int .i64 (Vl.Value.mkL rest k).2))],[.elems 3 R,.pack (List.flatten (zA Vl.Value.c (D++(Vl.Value.mkL rest k).1))) U]⟩)->
    ALoopU zQ B 2 34 (hold c .mk) ⟨[(0,.own 0 n),(1,.lit (.int .i64 k)),(5,.lit (.int .i64 (i:Int)))],[.elems 3 rows,.pack (List.flatten (zA Vl.Value.c (D++rest))) us]⟩ (hold Q .mk):=by
   intro rest
   induction rest with
   |nil=>
    intro D k i n rows us hz hi hn H c hc Q hq
    obtain rfl:c=_:=ZAK hc rfl
    have hn':n=i:=by simpa using hn
    subst hn'
    refine eN ?_
    repeat first|refine cg ?_|simp -dsimp[RW.len H]
    refine lG ⟨[(1,.lit (.int .i64 k))],[.elems 3 rows,.pack (List.flatten (zA Vl.Value.c D)) us]⟩ (gT (by simp) (by simp -dsimp[RW.closed H])) ?_
    simpa[Vl.Value.mkL]using hq rows us H
   |cons x r ihr=>
    intro D k i n rows us hz hi hn H c hc Q hq
    refine yM 1 (List.flatten (zA Vl.Value.c D)) (Vl.Value.c x) (List.flatten (zA Vl.Value.c r)) rfl (by simp) (by simp) ?_
    intro h1 vs UA UC o_h1 hlt hU hlA
    have hv:vs=[.int .i64 x.ctor,.int .i64 x.n,h1]:=by apply ZCQ;rw[←hlt];simp
    subst hv hU
    have hUA:UA.length=i*3:=by rw[hlA,ZAo Vl.Value.c_len,hi]
    have hin:i<n:=by simp at hn;omega
    have hrow:rows[i]? =some [.lit (.int .i64 x.ctor),.lit (.int .i64 x.n),.lit h1]:=by simpa using H.at hin rfl hUA rfl
    have hne:¬rows=[]:=by intro e;rw[e]at hrow;simp at hrow
    have hrl:=RW.len H
    have hrow':∀(h:i<rows.length),rows[i]=[.lit (.int .i64 x.ctor),.lit (.int .i64 x.n),.lit h1]:=fun h=>by rw[zC h]at hrow;exact zJ hrow
    have hset:∀a,(rows.set i a)[i]? =some a:=fun a=>zD (by omega)
    clear hlt
    refine yL fun hk hs=> ?_
    have d0:=hs 0 _ rfl
    simp -dsimp[Blk.bnd]at d0
    clear hk hs
    obtain rfl:c=_:=ZAK hc rfl
    have w1:i64.wrap ((i:Int)+1)=(i:Int)+1:=ZB (by omega) (by omega)
    refine eN ?_
    repeat first|refine cg ?_|simp -dsimp[hne,hrow,hrow',hset,hrl,hin,w1,List.set_set,o_h1]
    have sz0:SizeOf.sizeOf x.kids<m:=by have h0:=hz x (by simp);cases x;simp at h0 ⊢;omega
    refine(ih x.kids (i64.wrap ((i64.wrap (k+1))+1)) sz0).go 2 rfl (by simp) ?_
    refine kx1 w1 ?_
    refine aG ⟨[(0,.own 0 n),(1,.lit (.int .i64 ((Vl.Value.mkL x.kids (i64.wrap ((i64.wrap (k+1))+1))).2))),(5,.lit (.int .i64 ((i+1:Nat):Int)))],[.elems 3 (rows.set i [.lit (.int .i64 k),.lit (.int .i64 (i64.wrap (k+1))),.lit h1]),.pack (List.flatten (zA Vl.Value.c ((D++[(⟨k,i64.wrap (k+1),(Vl.Value.mkL x.kids (i64.wrap ((i64.wrap (k+1))+1))).1⟩:Vl.Value)])++r))) (UA++([.int .i64 k,.int .i64 (i64.wrap (k+1)),h1]++UC))]⟩
     (by refine yN (yO 1 [2] (XA:=List.flatten (zA Vl.Value.c D)) (old:=[.lit (.int .i64 x.ctor),.lit (.int .i64 x.n),.lit h1]) (XC:=List.flatten (zA Vl.Value.c r)) (UA:=UA) (uo:=[.int .i64 x.ctor,.int .i64 x.n,h1]) (UC:=UC) (by exact rfl) (by simp) (by simp) hlA rfl (.lit (.int .i64 k) (.lit (.int .i64 (i64.wrap (k+1))) (.pk 2 (by exact rfl) .nil))) (by decide)) ?_;exact gT (by simp) (by simp -dsimp[RW.closed H])) ?_
    have he:Vl.Value.mkL (x::r) k=((⟨k,i64.wrap (k+1),(Vl.Value.mkL x.kids (i64.wrap ((i64.wrap (k+1))+1))).1⟩:Vl.Value)::(Vl.Value.mkL r ((Vl.Value.mkL x.kids (i64.wrap ((i64.wrap (k+1))+1))).2)).1,(Vl.Value.mkL r ((Vl.Value.mkL x.kids (i64.wrap ((i64.wrap (k+1))+1))).2)).2):=by(first|rfl|(cases x;simp[Vl.Value.mkL,Vl.Value.mkE]))
    rw[he]at hq
    refine ihr (D++[(⟨k,i64.wrap (k+1),(Vl.Value.mkL x.kids (i64.wrap ((i64.wrap (k+1))+1))).1⟩:Vl.Value)]) _ (i+1) n _ _ (fun y hy=>hz y (zF _ hy)) (by simp[hi]) (by simp at hn;omega) (by simpa using H.setAt hin hUA rfl [.int .i64 k,.int .i64 (i64.wrap (k+1)),h1] rfl) _ rfl _ fun R U hR=> ?_
    simpa using hq R U hR
  refine MCall.enter 3 func46 (by kernel_rfl) rfl ntmps46 (by simp) (by simp[Vl.Value.mkL_len]) (fun e he=>by obtain⟨x,_,rfl⟩:=zB.1 he;exact Vl.Value.c_len x) ?_ ?_
  ·intro he
   have he:a0=[]:=by simpa using he
   subst he
   refine kx0 ?_
   refine zP ⟨[(0,.arr []),(1,.lit (.int .i64 k0)),(5,.lit (.int .i64 0))],[]⟩ (gT (by simp) (by simp -dsimp)) ?_
   refine eN ?_
   refine kx0 ?_
   refine lG _ (gR _) ?_
   repeat first|refine cg ?_|simp -dsimp
   all_goals(try simp[Vl.Value.mkL])
  ·intro hne rows us e1 e2 e3 e4
   have H:RW 3 a0.length rows us:=⟨by simpa using e2,e3,e1⟩
   refine kx0 ?_
   refine zP ⟨[(0,.own 0 a0.length),(1,.lit (.int .i64 k0)),(5,.lit (.int .i64 ((0:Nat):Int)))],[.elems 3 rows,.pack (List.flatten (zA Vl.Value.c ([]++a0))) us]⟩ (gT (by simp) (by simp -dsimp[RW.closed H])) ?_
   refine loop a0 [] k0 0 a0.length rows us hz0 rfl (by simp) H _ rfl _ ?_
   intro R U hR
   refine kx0 ?_
   exact⟨rfl,R,U,rfl,⟨1,by simp⟩,hR.2.2,by rw[hR.1];simp[Vl.Value.mkL_len],fun x hx=>by obtain⟨y,_,rfl⟩:=zB.1 hx;exact Vl.Value.c_len y⟩
theorem C.f179 (a:List Vl.Value)(k:Int)(v:List Vl.Value×Int)(hF:F.f179 a k=some v):MCall zQ B 46 (zA Vl.Value.c a) [.int .i64 k] (zA Vl.Value.c v.1) (.int .i64 v.2):=by
 obtain rfl:=zJ hF
 exact(CM.laws_markValueS B hB1 hB2 (SizeOf.sizeOf a+1)) a k (Nat.lt_succ_self _)
theorem C.f183 (aW:List yA)(aT:Ty)(aP:Pattern)(r:Bool)(hF:F.f183 aW aT aP=some r):PureCall zQ B 3 [am yB aW,.agg [li aT.data,li aT.index],.agg [li aP.op,li aP.ctor,li aP.n,li aP.m,li aP.var,am yG aP.kids]] (.lit (.bool r)):=by
 unfold F.f183 at hF
 refine pE func3 (by kernel_rfl) rfl ntmps3 (by simp) (by simp) ?_
 refine kB hF fun v e1 hF=> ?_
 refine((C.f8 B hB1 hB2 aW 1048576 v e1)).goW (by simp) (by simp) ?_
 revert hF;refine kS ?_ ?_<;>intro h2 q3 hF
 ·cases hF
  repeat first|refine cg ?_|simp -dsimp[h2]
  all_goals(try first|omega|rfl)
 ·refine kx2 h2 q3 ?_
  apply oB hF;intro v4 e5 hF
  refine(((CC.f9 B hB1 hB2).1 aP v v4 e5)).goW (by first|simp[h2,q3];done|simp_all) (by simp) ?_
  refine kx2 h2 q3 ?_
  revert hF;refine aS ?_ ?_<;>intro h6 q7 hF
  ·cases hF
   repeat first|refine cg ?_|simp -dsimp[h2,q3,h6]
   all_goals(try first|omega|rfl)
  ·refine kx4 h2 q3 h6 q7 ?_
   refine zZ [] [(0,1),(0,2),(0,1),(0,2),(0,1),(0,2),(0,2),(0,1),(0,1),(0,2),(0,2),(0,2),(2,2)] [1,1,2,1,2,1,1,1,1,1,1,1,1] follows (by kernel_rfl) (by kernel_rfl) (by kernel_rfl) ?_
   refine kx4 h2 q3 h6 q7 ?_
   apply oB hF;intro v8 e9 hF
   refine((yR B hB1 hB2 aW v8 e9)).pgoW (by first|simp[h2,q3,h6,q7];done|simp_all) (by simp) ?_
   refine kx4 h2 q3 h6 q7 ?_
   apply oB hF;intro v10 e11 hF
   refine((yQ B hB1 hB2 aT v10 e11)).pgoW (by first|simp[h2,q3,h6,q7];done|simp_all) (by simp) ?_
   refine kx4 h2 q3 h6 q7 ?_
   apply oB hF;intro v12 e13 hF
   refine(((CC.f21 B hB1 hB2).1 aP v12 e13)).pgoW (by first|simp[h2,q3,h6,q7];done|simp_all) (by simp) ?_
   refine kx4 h2 q3 h6 q7 ?_
   apply oB hF;intro v14 e15 hF
   refine((C.f92 B hB1 hB2 v8 v10 v12 v14 e15)).pgoW (by first|simp[h2,q3,h6,q7];done|simp_all) (by simp) ?_
   refine kx4 h2 q3 h6 q7 ?_
   apply oB hF;intro v16 e17 hF
   refine((C.laws_toDataS__f B hB1 hB2 aW v16 e17)).go1 (by first|simp -dsimp[h2,q3,h6,q7];done|simp_all) (by simp) (fun h o_h=> ?_)
   refine kx5 h2 q3 h6 q7 o_h ?_
   apply oB hF;intro v18 e19 hF
   refine(((CC.laws_toPattern__f B hB1 hB2).1 aP v18 e19)).go1 (by first|simp -dsimp[h2,q3,h6,q7,o_h];done|simp_all) (by simp) (fun h20 o_h20=> ?_)
   refine kx6 h2 q3 h6 q7 o_h o_h20 ?_
   refine zY ?_
   refine zX [] [0,1,2,3,4,8,5,6,7,9,10] [11] 4 [0,1,2,3,5,4,6,7,8,9,10] [44,45,46,47] [(0,0),(0,0),(0,3),(0,0),(0,3),(0,3),(1,2),(1,2),(1,3),(0,3),(3,3)] [1,1,1,1,1,1,1,1,1,1,1] [(0,1),(0,1),(0,3),(0,1),(0,3),(0,3),(2,2),(2,2),(2,3),(0,3),(3,3)] [1,2,1,2,1,1,1,1,1,1,1] (by decide) follows (by kernel_rfl) (by kernel_rfl) (by kernel_rfl) (by kernel_rfl) (by kernel_rfl) (by kernel_rfl) (by kernel_rfl) (by kernel_rfl) (by kernel_rfl) (by kernel_rfl) (by kernel_rfl) (by kernel_rfl) (by kernel_rfl) (by kernel_rfl) (by kernel_rfl) rfl (by kernel_rfl) rfl ?_
   intro L hL
   simp only[ZBW,ZA5,List.getD_cons_zero,zH,zG]at hL
   subst hL
   refine kx6 h2 q3 h6 q7 o_h o_h20 ?_
   apply oB hF;intro v21 e22 hF
   refine((yQ B hB1 hB2 aT v21 e22)).pgoW (by first|simp[h2,q3,h6,q7,o_h,o_h20];done|simp_all) (by simp) ?_
   refine kx6 h2 q3 h6 q7 o_h o_h20 ?_
   refine⟨ZOG ?_,?_⟩
   focus
    intro L2 hL2
    simp only[ZBW,ZA5,List.getD_cons_zero,zH,zG]at hL2
    subst hL2
    refine kx6 h2 q3 h6 q7 o_h o_h20 ?_
    refine((yQ B hB1 hB2 aT v21 e22)).pgoW (by first|simp[h2,q3,h6,q7,o_h,o_h20];done|simp_all) (by simp) ?_
    repeat first|refine cg ?_|simp -dsimp[h2,q3,h6,q7,o_h,o_h20]
   all_goals
    apply oB hF;intro v23 e24 hF
    refine((yP B hB1 hB2 v16 v21 v18 v23 e24)).ngo1 (by first|simp -dsimp[h2,q3,h6,q7,o_h,o_h20];done|simp_all) (by simp) (fun h25 o_h25=> ?_)
    refine kx7 h2 q3 h6 q7 o_h o_h20 o_h25 ?_
    apply oB hF;intro v26 e27 hF
    refine(((CC.f160 B hB1 hB2).1 v23.1 v14.1 v26 e27)).lend (by first|simp -dsimp[h2,q3,h6,q7,o_h,o_h20,o_h25];done|simp_all) (by simp -dsimp) ?_
    refine kx7 h2 q3 h6 q7 o_h o_h20 o_h25 ?_
    revert hF;refine aS (fun h28 q29 hF=> ?_) (fun h28 q29 hF=> ?_)
    ·refine kx8 h2 q3 h6 q7 o_h o_h20 o_h25 h28 ?_
     revert hF;refine aN ?_ ?_<;>intro h30 q31 hF
     ·cases hF
      repeat first|refine cg ?_|simp -dsimp[h2,q3,h6,q7,o_h,o_h20,o_h25,h28,h30,q31]
      all_goals(try first|omega|rfl)
     ·repeat first|refine cg ?_|simp -dsimp[h2,q3,h6,q7,o_h,o_h20,o_h25,h28,h30,q31]
      apply oB hF;intro v32 e33 hF
      refine((yR B hB1 hB2 aW v32 e33)).goW (by first|simp[h2,q3,h6,q7,o_h,o_h20,o_h25,h28,h30,q31];done|simp_all) (by simp) ?_
      repeat first|refine cg ?_|simp -dsimp[h2,q3,h6,q7,o_h,o_h20,o_h25,h28,h30,q31]
      apply oB hF;intro v34 e35 hF
      refine((C.f171 B hB1 hB2 v16 v32 v34 e35)).lend (by first|simp -dsimp[h2,q3,h6,q7,o_h,o_h20,o_h25,h28,h30,q31];done|simp_all) (by simp -dsimp) ?_
      repeat first|refine cg ?_|simp -dsimp[h2,q3,h6,q7,o_h,o_h20,o_h25,h28,h30,q31]
      revert hF;refine aN (fun h36 q37 hF=> ?_) (fun h36 q37 hF=> ?_)
      ·cases hF
       repeat first|refine cg ?_|simp -dsimp[h2,q3,h6,q7,o_h,o_h20,o_h25,h28,h30,q31,h36,q37]
       all_goals(try first|omega|rfl)
      ·repeat first|refine cg ?_|simp -dsimp[h2,q3,h6,q7,o_h,o_h20,o_h25,h28,h30,q31,h36,q37]
       refine zZ [14] [(0,0),(0,0),(0,1),(0,1),(1,1)] [1,1,1,1,1] follows (by kernel_rfl) (by kernel_rfl) (by kernel_rfl) ?_
       repeat first|refine cg ?_|simp -dsimp[h2,q3,h6,q7,o_h,o_h20,o_h25,h28,h30,q31,h36,q37]
       apply oB hF;intro v38 e39 hF
       refine(((CC.f21 B hB1 hB2).1 aP v38 e39)).pgoW (by first|simp[h2,q3,h6,q7,o_h,o_h20,o_h25,h28,h30,q31,h36,q37];done|simp_all) (by simp) ?_
       repeat first|refine cg ?_|simp -dsimp[h2,q3,h6,q7,o_h,o_h20,o_h25,h28,h30,q31,h36,q37]
       apply oB hF;intro v40 e41 hF
       refine(((CC.f172 B hB1 hB2).1 v18 v38 v40 e41)).elend (by first|simp -dsimp[h2,q3,h6,q7,o_h,o_h20,o_h25,h28,h30,q31,h36,q37];done|simp_all) (by simp -dsimp) ?_
       repeat first|refine cg ?_|simp -dsimp[h2,q3,h6,q7,o_h,o_h20,o_h25,h28,h30,q31,h36,q37]
       revert hF;refine aN (fun h42 q43 hF=> ?_) (fun h42 q43 hF=> ?_)
       ·cases hF
        repeat first|refine cg ?_|simp -dsimp[h2,q3,h6,q7,o_h,o_h20,o_h25,h28,h30,q31,h36,q37,h42,q43]
        all_goals(try first|omega|rfl)
       ·repeat first|refine cg ?_|simp -dsimp[h2,q3,h6,q7,o_h,o_h20,o_h25,h28,h30,q31,h36,q37,h42,q43]
        apply oB hF;intro v44 e45 hF
        refine((C.f182 B hB1 hB2 v16 1 v44 e45)).go 3 rfl (by simp) ?_
        repeat first|refine cg ?_|simp -dsimp[h2,q3,h6,q7,o_h,o_h20,o_h25,h28,h30,q31,h36,q37,h42,q43]
        refine ACall.inl func16 (by kernel_rfl) rfl ntmps16 (by simp) ?_
        repeat first|refine cg ?_|simp -dsimp[h2,q3,h6,q7,o_h,o_h20,o_h25,h28,h30,q31,h36,q37,h42,q43]
        apply oB hF;intro v46 e47 hF
        refine((C.f178 B hB1 hB2 v18.kids v44.2 v46 e47)).go 4 rfl (by simp) ?_
        repeat first|refine cg ?_|simp -dsimp[h2,q3,h6,q7,o_h,o_h20,o_h25,h28,h30,q31,h36,q37,h42,q43]
        revert hF;refine aN ?_ ?_<;>intro h48 q49 hF
        ·repeat first|refine cg ?_|simp -dsimp[h2,q3,h6,q7,o_h,o_h20,o_h25,h28,h30,q31,h36,q37,h42,q43,h48,q49]
         apply oB hF;intro v50 e51 hF
         refine(((CC.f160 B hB1 hB2).1 v23.1 v14.1 v50 e51)).lend (by first|simp -dsimp[h2,q3,h6,q7,o_h,o_h20,o_h25,h28,h30,q31,h36,q37,h42,q43,h48,q49];done|simp_all) (by simp -dsimp) ?_
         repeat first|refine cg ?_|simp -dsimp[h2,q3,h6,q7,o_h,o_h20,o_h25,h28,h30,q31,h36,q37,h42,q43,h48,q49]
         revert hF;refine aS (fun h52 q53 hF=> ?_) (fun h52 q53 hF=> ?_)
         ·repeat first|refine cg ?_|simp -dsimp[h2,q3,h6,q7,o_h,o_h20,o_h25,h28,h30,q31,h36,q37,h42,q43,h48,q49,h52]
          refine ACall.inl func17 (by kernel_rfl) rfl ntmps17 (by simp) ?_
          repeat first|refine cg ?_|simp -dsimp[h2,q3,h6,q7,o_h,o_h20,o_h25,h28,h30,q31,h36,q37,h42,q43,h48,q49,h52]
          apply oB hF;intro v54 e55 hF
          first|(refine((C.f179 B hB1 hB2 v23.1.kids 1 v54 e55)).go 6 rfl (by simp) ?_)|(refine((C.f179 B hB1 hB2 v23.1.kids 1 v54 e55)).go 7 rfl (by simp) ?_)
          repeat first|refine cg ?_|simp -dsimp[h2,q3,h6,q7,o_h,o_h20,o_h25,h28,h30,q31,h36,q37,h42,q43,h48,q49,h52]
          apply oB hF;intro v56 e57 hF
          refine((C.f177 B hB1 hB2 (⟨v23.1.ctor,v23.1.n,v54.1⟩:Vl.Value) 1 v56 e57)).lend (by first|simp -dsimp[h2,q3,h6,q7,o_h,o_h20,o_h25,h28,h30,q31,h36,q37,h42,q43,h48,q49,h52];done|simp_all) (by simp -dsimp) ?_
          repeat first|refine cg ?_|simp -dsimp[h2,q3,h6,q7,o_h,o_h20,o_h25,h28,h30,q31,h36,q37,h42,q43,h48,q49,h52]
          revert hF;refine aS ?_ ?_<;>intro h58 q59 hF
          ·cases hF
           repeat first|refine cg ?_|simp -dsimp[h2,q3,h6,q7,o_h,o_h20,o_h25,h28,h30,q31,h36,q37,h42,q43,h48,q49,h52,h58]
           all_goals(try first|omega|rfl)
          ·repeat first|refine cg ?_|simp -dsimp[h2,q3,h6,q7,o_h,o_h20,o_h25,h28,h30,q31,h36,q37,h42,q43,h48,q49,h52,h58,q59]
           revert hF;refine aN ?_ ?_<;>intro h60 q61 hF
           ·cases hF
            repeat first|refine cg ?_|simp -dsimp[h2,q3,h6,q7,o_h,o_h20,o_h25,h28,h30,q31,h36,q37,h42,q43,h48,q49,h52,h58,q59,h60,q61]
            all_goals(try first|omega|rfl)
           ·repeat first|refine cg ?_|simp -dsimp[h2,q3,h6,q7,o_h,o_h20,o_h25,h28,h30,q31,h36,q37,h42,q43,h48,q49,h52,h58,q59,h60,q61]
            refine zY ?_
            refine zX [] [0,1,2,3,4,5,6,10,7,8,9,11,12] [11] 6 [0,1,2,3,4,5,7,6,8,9,10,11,12] [101,102,103,104,105,106] [(0,0),(0,3),(0,0),(0,3),(0,0),(0,3),(0,3),(0,3),(1,2),(1,2),(1,3),(0,3),(3,3)] [1,1,1,1,1,1,1,1,1,1,1,1,1] [(0,1),(0,3),(0,1),(0,3),(0,1),(0,3),(0,3),(0,3),(2,2),(2,2),(2,3),(0,3),(3,3)] [1,1,2,1,2,1,1,1,1,1,1,1,1] (by decide) follows (by kernel_rfl) (by kernel_rfl) (by kernel_rfl) (by kernel_rfl) (by kernel_rfl) (by kernel_rfl) (by kernel_rfl) (by kernel_rfl) (by kernel_rfl) (by kernel_rfl) (by kernel_rfl) (by kernel_rfl) (by kernel_rfl) (by kernel_rfl) (by kernel_rfl) rfl (by kernel_rfl) rfl ?_
            intro L hL
            simp only[ZBW,ZA5,List.getD_cons_zero,zH,zG]at hL
            subst hL
            repeat first|refine cg ?_|simp -dsimp[h2,q3,h6,q7,o_h,o_h20,o_h25,h28,h30,q31,h36,q37,h42,q43,h48,q49,h52,h58,q59,h60,q61]
            apply oB hF;intro v62 e63 hF
            refine((yR B hB1 hB2 aW v62 e63)).pgoW (by first|simp[h2,q3,h6,q7,o_h,o_h20,o_h25,h28,h30,q31,h36,q37,h42,q43,h48,q49,h52,h58,q59,h60,q61];done|simp_all) (by simp) ?_
            repeat first|refine cg ?_|simp -dsimp[h2,q3,h6,q7,o_h,o_h20,o_h25,h28,h30,q31,h36,q37,h42,q43,h48,q49,h52,h58,q59,h60,q61]
            apply oB hF;intro v64 e65 hF
            refine((yQ B hB1 hB2 aT v64 e65)).pgoW (by first|simp[h2,q3,h6,q7,o_h,o_h20,o_h25,h28,h30,q31,h36,q37,h42,q43,h48,q49,h52,h58,q59,h60,q61];done|simp_all) (by simp) ?_
            repeat first|refine cg ?_|simp -dsimp[h2,q3,h6,q7,o_h,o_h20,o_h25,h28,h30,q31,h36,q37,h42,q43,h48,q49,h52,h58,q59,h60,q61]
            apply oB hF;intro v66 e67 hF
            refine(((CC.f21 B hB1 hB2).1 aP v66 e67)).pgoW (by first|simp[h2,q3,h6,q7,o_h,o_h20,o_h25,h28,h30,q31,h36,q37,h42,q43,h48,q49,h52,h58,q59,h60,q61];done|simp_all) (by simp) ?_
            repeat first|refine cg ?_|simp -dsimp[h2,q3,h6,q7,o_h,o_h20,o_h25,h28,h30,q31,h36,q37,h42,q43,h48,q49,h52,h58,q59,h60,q61]
            refine⟨ZOG ?_,?_⟩
            focus
             intro L2 hL2
             simp only[ZBW,ZA5,List.getD_cons_zero,zH,zG]at hL2
             subst hL2
             repeat first|refine cg ?_|simp -dsimp[h2,q3,h6,q7,o_h,o_h20,o_h25,h28,h30,q31,h36,q37,h42,q43,h48,q49,h52,h58,q59,h60,q61]
             refine((yR B hB1 hB2 aW v62 e63)).pgoW (by first|simp[h2,q3,h6,q7,o_h,o_h20,o_h25,h28,h30,q31,h36,q37,h42,q43,h48,q49,h52,h58,q59,h60,q61];done|simp_all) (by simp) ?_
             repeat first|refine cg ?_|simp -dsimp[h2,q3,h6,q7,o_h,o_h20,o_h25,h28,h30,q31,h36,q37,h42,q43,h48,q49,h52,h58,q59,h60,q61]
             refine((yQ B hB1 hB2 aT v64 e65)).pgoW (by first|simp[h2,q3,h6,q7,o_h,o_h20,o_h25,h28,h30,q31,h36,q37,h42,q43,h48,q49,h52,h58,q59,h60,q61];done|simp_all) (by simp) ?_
             repeat first|refine cg ?_|simp -dsimp[h2,q3,h6,q7,o_h,o_h20,o_h25,h28,h30,q31,h36,q37,h42,q43,h48,q49,h52,h58,q59,h60,q61]
             refine(((CC.f21 B hB1 hB2).1 aP v66 e67)).pgoW (by first|simp[h2,q3,h6,q7,o_h,o_h20,o_h25,h28,h30,q31,h36,q37,h42,q43,h48,q49,h52,h58,q59,h60,q61];done|simp_all) (by simp) ?_
             repeat first|refine cg ?_|simp -dsimp[h2,q3,h6,q7,o_h,o_h20,o_h25,h28,h30,q31,h36,q37,h42,q43,h48,q49,h52,h58,q59,h60,q61]
            all_goals
             apply oB hF;intro v68 e69 hF
             refine((yP B hB1 hB2 v62 v64 v66 v68 e69)).ngo1 (by first|simp -dsimp[h2,q3,h6,q7,o_h,o_h20,o_h25,h28,h30,q31,h36,q37,h42,q43,h48,q49,h52,h58,q59,h60,q61];done|simp_all) (by simp) (fun h70 o_h70=> ?_)
             repeat first|refine cg ?_|simp -dsimp[h2,q3,h6,q7,o_h,o_h20,o_h25,h28,h30,q31,h36,q37,h42,q43,h48,q49,h52,h58,q59,h60,q61,o_h70]
             apply oB hF;intro v71 e72 hF
             refine(((CC.f160 B hB1 hB2).1 v68.1 v14.1 v71 e72)).lend (by first|simp -dsimp[h2,q3,h6,q7,o_h,o_h20,o_h25,h28,h30,q31,h36,q37,h42,q43,h48,q49,h52,h58,q59,h60,q61,o_h70];done|simp_all) (by simp -dsimp) ?_
             repeat first|refine cg ?_|simp -dsimp[h2,q3,h6,q7,o_h,o_h20,o_h25,h28,h30,q31,h36,q37,h42,q43,h48,q49,h52,h58,q59,h60,q61,o_h70]
             revert hF;refine aS (fun h73 q74 hF=> ?_) (fun h73 q74 hF=> ?_)
             ·repeat first|refine cg ?_|simp -dsimp[h2,q3,h6,q7,o_h,o_h20,o_h25,h28,h30,q31,h36,q37,h42,q43,h48,q49,h52,h58,q59,h60,q61,o_h70,h73]
              revert hF;refine aN ?_ ?_<;>intro h75 q76 hF
              ·cases hF
               repeat first|refine cg ?_|simp -dsimp[h2,q3,h6,q7,o_h,o_h20,o_h25,h28,h30,q31,h36,q37,h42,q43,h48,q49,h52,h58,q59,h60,q61,o_h70,h73,h75,q76]
               all_goals(try first|omega|rfl)
              ·repeat first|refine cg ?_|simp -dsimp[h2,q3,h6,q7,o_h,o_h20,o_h25,h28,h30,q31,h36,q37,h42,q43,h48,q49,h52,h58,q59,h60,q61,o_h70,h73,h75,q76]
               apply oB hF;intro v77 e78 hF
               refine((C.f177 B hB1 hB2 (⟨v23.1.ctor,v23.1.n,v54.1⟩:Vl.Value) 1 v77 e78)).lend (by first|simp -dsimp[h2,q3,h6,q7,o_h,o_h20,o_h25,h28,h30,q31,h36,q37,h42,q43,h48,q49,h52,h58,q59,h60,q61,o_h70,h73,h75,q76];done|simp_all) (by simp -dsimp) ?_
               repeat first|refine cg ?_|simp -dsimp[h2,q3,h6,q7,o_h,o_h20,o_h25,h28,h30,q31,h36,q37,h42,q43,h48,q49,h52,h58,q59,h60,q61,o_h70,h73,h75,q76]
               revert hF;refine aS ?_ ?_<;>intro h79 q80 hF
               ·cases hF
                repeat first|refine cg ?_|simp -dsimp[h2,q3,h6,q7,o_h,o_h20,o_h25,h28,h30,q31,h36,q37,h42,q43,h48,q49,h52,h58,q59,h60,q61,o_h70,h73,h75,q76,h79]
                all_goals(try first|omega|rfl)
               ·repeat first|refine cg ?_|simp -dsimp[h2,q3,h6,q7,o_h,o_h20,o_h25,h28,h30,q31,h36,q37,h42,q43,h48,q49,h52,h58,q59,h60,q61,o_h70,h73,h75,q76,h79,q80]
                revert hF;refine aN ?_ ?_<;>intro h81 q82 hF
                ·cases hF
                 repeat first|refine cg ?_|simp -dsimp[h2,q3,h6,q7,o_h,o_h20,o_h25,h28,h30,q31,h36,q37,h42,q43,h48,q49,h52,h58,q59,h60,q61,o_h70,h73,h75,q76,h79,q80,h81,q82]
                 all_goals(try first|omega|rfl)
                ·cases hF
                 repeat first|refine cg ?_|simp -dsimp[h2,q3,h6,q7,o_h,o_h20,o_h25,h28,h30,q31,h36,q37,h42,q43,h48,q49,h52,h58,q59,h60,q61,o_h70,h73,h75,q76,h79,q80,h81,q82]
                 all_goals(try first|omega|rfl)
             ·cases hF
              repeat first|refine cg ?_|simp -dsimp[h2,q3,h6,q7,o_h,o_h20,o_h25,h28,h30,q31,h36,q37,h42,q43,h48,q49,h52,h58,q59,h60,q61,o_h70,h73,q74]
              all_goals(try first|omega|rfl)
         ·cases hF
          repeat first|refine cg ?_|simp -dsimp[h2,q3,h6,q7,o_h,o_h20,o_h25,h28,h30,q31,h36,q37,h42,q43,h48,q49,h52,q53]
          all_goals(try first|omega|rfl)
        ·cases hF
         repeat first|refine cg ?_|simp -dsimp[h2,q3,h6,q7,o_h,o_h20,o_h25,h28,h30,q31,h36,q37,h42,q43,h48,q49]
         all_goals(try first|omega|rfl)
    ·cases hF
     repeat first|refine cg ?_|simp -dsimp[h2,q3,h6,q7,o_h,o_h20,o_h25,h28,q29]
     all_goals(try first|omega|rfl)
end Go.Proofs.YtmjpphcloedceaaGreat
