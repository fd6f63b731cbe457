/- Part. -/
import Derived.Test.YtmjpphcloedceaaProg
import Derived.Test.YtmjpphcloedceaaExactEmptyPatternF
import Derived.Test.YtmjpphcloedceaaVlAuto
open List renaming length->zA,map->zB,replicate->zC,length_cons->zD,length_nil->zE
open ByteArray renaming empty->zF
namespace Go.Proofs.Ytmjpphcloedceaa
open Go Go.Proofs Go.Vl
open Ty renaming c->zG
open PureCall renaming inLe->zH,enterM->zI
open Ctor renaming c->zJ
open Again renaming is->zK
open Leave renaming is->zL
open ALoop renaming is->zM,goU->zN
open Go.Vl renaming Data->zO
open Go.Vl.Data renaming c->zP,z->zQ
open Pattern renaming c->zR,z->zS
open Blk renaming bnd->zT
open ADraw renaming simI->zU,simple->zV,effI->zW
open VarType renaming c->zX
open ALoopU renaming know->zY
open Gh renaming trans->zZ,nil->yA
open abr renaming sp->aS,ns->aN
open Leave renaming go->lG
open Again renaming go->aG
open ALoopU renaming enter->eN
open Gh renaming to3->gT,refl->gR
open PureCall renaming enterLe->pE
open Go.IntKind (i64)
set_option linter.all false
set_option maxRecDepth 100000
set_option maxHeartbeats 4000000
set_option synthInstance.maxSize 100000
set_option synthInstance.maxHeartbeats 4000000
attribute [local irreducible] ECallA ZJD aL aLg AMake MLoop AgainM LeaveM ZBN ZBC MutCall BCall chk abr ACall ALoop ALoopU ADraw Again Leave ZFB PCall ZAK awp ZHh PureCall hold
abbrev li (x:Int):AV:=.lit (.int .i64 x)
abbrev am {α:Type}(f:α->List AV)(l:List α):AV:=.arr (zB f l)
theorem follows :Try.prog.follows .mixedOrders=true:=by kernel_rfl
@[simp] theorem ti2 :Zg Try.prog 2=some ⟨.word,1,[.int .i64 0]⟩:=by kernel_rfl
@[simp] theorem ti3 :Zg Try.prog 3=some ⟨.word,1,[.int .i64 0]⟩:=by kernel_rfl
@[simp] theorem ti4 :Zg Try.prog 4=some ⟨.word,1,[.bool false]⟩:=by kernel_rfl
@[simp] theorem ti5 :Zg Try.prog 5=some ⟨.word,1,[.int .u8 0]⟩:=by kernel_rfl
@[simp] theorem ti9 :Zg Try.prog 9=some ⟨.word,1,[.string zF]⟩:=by kernel_rfl
@[simp] theorem ZPk :Zg Try.prog 22=some ⟨.slice 2 40 [.string zF,.slice none 0 0],1,[.slice none 0 0]⟩:=by kernel_rfl
@[simp] theorem ZPu :ZFD Try.prog 22=true:=by kernel_rfl
@[simp] theorem ZPj :Zg Try.prog 24=some ⟨.struct [(0,1),(1,1)],2,[.int .i64 0,.int .i64 0]⟩:=by kernel_rfl
@[simp] theorem ZPw :ZBP Try.prog 24=true:=by kernel_rfl
@[simp] theorem ZPi :Zg Try.prog 25=some ⟨.slice 6 64 [.int .i64 0,.int .i64 0,.int .i64 0,.int .i64 0,.int .i64 0,.slice none 0 0],1,[.slice none 0 0]⟩:=by kernel_rfl
@[simp] theorem ZPt :ZFD Try.prog 25=true:=by kernel_rfl
@[simp] theorem ZPh :Zg Try.prog 27=some ⟨.struct [(0,1),(1,1),(2,1),(3,1),(4,1),(5,1)],6,[.int .i64 0,.int .i64 0,.int .i64 0,.int .i64 0,.int .i64 0,.slice none 0 0]⟩:=by kernel_rfl
@[simp] theorem ZPg :Zg Try.prog 31=some ⟨.slice 2 40 [.string zF,.slice none 0 0],1,[.slice none 0 0]⟩:=by kernel_rfl
@[simp] theorem ZPs :ZFD Try.prog 31=true:=by kernel_rfl
@[simp] theorem ZPf :Zg Try.prog 33=some ⟨.struct [(0,1),(1,1)],2,[.int .i64 0,.int .i64 0]⟩:=by kernel_rfl
@[simp] theorem ZPv :ZBP Try.prog 33=true:=by kernel_rfl
@[simp] theorem ZPe :Zg Try.prog 35=some ⟨.slice 6 64 [.int .i64 0,.int .i64 0,.int .i64 0,.int .i64 0,.int .i64 0,.slice none 0 0],1,[.slice none 0 0]⟩:=by kernel_rfl
@[simp] theorem ZPr :ZFD Try.prog 35=true:=by kernel_rfl
@[simp] theorem ZPd :Zg Try.prog 37=some ⟨.struct [(0,1),(1,1),(2,1),(3,1),(4,1),(5,1)],6,[.int .i64 0,.int .i64 0,.int .i64 0,.int .i64 0,.int .i64 0,.slice none 0 0]⟩:=by kernel_rfl
@[simp] theorem ZPc :Zg Try.prog 43=some ⟨.slice 3 48 [.string zF,.slice none 0 0,.int .i64 0],1,[.slice none 0 0]⟩:=by kernel_rfl
@[simp] theorem ZPq :ZFD Try.prog 43=true:=by kernel_rfl
@[simp] theorem ZPb :Zg Try.prog 45=some ⟨.struct [(0,1),(1,1)],2,[.string zF,.slice none 0 0]⟩:=by kernel_rfl
@[simp] theorem ZPa :Zg Try.prog 48=some ⟨.slice 1 8 [.int .i64 0],1,[.slice none 0 0]⟩:=by kernel_rfl
@[simp] theorem ZPp :ZFD Try.prog 48=true:=by kernel_rfl
@[simp] theorem ZPZ :Zg Try.prog 50=some ⟨.slice 3 48 [.string zF,.slice none 0 0,.int .i64 0],1,[.slice none 0 0]⟩:=by kernel_rfl
@[simp] theorem ZPo :ZFD Try.prog 50=true:=by kernel_rfl
@[simp] theorem ZPY :Zg Try.prog 52=some ⟨.struct [(0,1),(1,1)],2,[.string zF,.slice none 0 0]⟩:=by kernel_rfl
@[simp] theorem ZPX :Zg Try.prog 63=some ⟨.slice 2 16 [.int .i64 0,.int .i64 0],1,[.slice none 0 0]⟩:=by kernel_rfl
@[simp] theorem ZPn :ZFD Try.prog 63=true:=by kernel_rfl
@[simp] theorem ZPW :Zg Try.prog 71=some ⟨.struct [(0,1),(1,1)],2,[.slice none 0 0,.pointer none]⟩:=by kernel_rfl
@[simp] theorem ZPV :Zg Try.prog 76=some ⟨.slice 2 16 [.int .i64 0,.int .i64 0],1,[.slice none 0 0]⟩:=by kernel_rfl
@[simp] theorem ZPm :ZFD Try.prog 76=true:=by kernel_rfl
@[simp] theorem ZPU :Zg Try.prog 78=some ⟨.struct [(0,1),(1,1),(2,1)],3,[.string zF,.slice none 0 0,.int .i64 0]⟩:=by kernel_rfl
@[simp] theorem ZPT :Zg Try.prog 83=some ⟨.struct [(0,1),(1,1),(2,1)],3,[.string zF,.slice none 0 0,.int .i64 0]⟩:=by kernel_rfl
@[simp] theorem ZPS :Zg Try.prog 87=some ⟨.slice 3 24 [.int .i64 0,.int .i64 0,.int .i64 0],1,[.slice none 0 0]⟩:=by kernel_rfl
@[simp] theorem ZPl :ZFD Try.prog 87=true:=by kernel_rfl
@[simp] theorem ZPR :Zg Try.prog 90=some ⟨.array 4 1,4,[.int .i64 0,.int .i64 0,.int .i64 0,.int .i64 0]⟩:=by kernel_rfl
@[simp] theorem ZPQ :Zg Try.prog 92=some ⟨.array 4 4,16,[.int .i64 0,.int .i64 0,.int .i64 0,.int .i64 0,.int .i64 0,.int .i64 0,.int .i64 0,.int .i64 0,.int .i64 0,.int .i64 0,.int .i64 0,.int .i64 0,.int .i64 0,.int .i64 0,.int .i64 0,.int .i64 0]⟩:=by kernel_rfl
@[simp] theorem ZPD :Zg Try.prog 106=some ⟨.struct [(0,1),(1,2)],3,[.int .i64 0,.int .i64 0,.int .i64 0]⟩:=by kernel_rfl
@[simp] theorem ZPF :ZCd Try.prog 106=true:=by kernel_rfl
@[simp] theorem ZPC :ZJi Try.prog 108=true:=by kernel_rfl
@[simp] theorem ZPB :Zg Try.prog 121=some ⟨.array 6 1,6,[.bool false,.bool false,.bool false,.bool false,.bool false,.bool false]⟩:=by kernel_rfl
attribute [simp] Try.underlying2 Try.underlying3 Try.underlying4 Try.underlying5 Try.underlying9 Try.underlying22 Try.underlying25 Try.underlying31 Try.underlying35 Try.underlying43 Try.underlying48 Try.underlying50 Try.underlying63 Try.underlying76 Try.underlying87 Try.underlying90 Try.underlying92 Try.underlying121 Try.results3 Try.results4 Try.results5 Try.results6 Try.results7 Try.results8 Try.results9 Try.results10 Try.results11 Try.results12 Try.results13 Try.results14 Try.results15 Try.results16 Try.results17 Try.results18 Try.results19 Try.results20 Try.results21 Try.results22 Try.results23 Try.results24 Try.results25 Try.results26 Try.results27 Try.results28 Try.results29 Try.results30 Try.results31 Try.results32 Try.results33 Try.results34 Try.results35 Try.results36 Try.results37 Try.results38 Try.results39 Try.results40 Try.results41 Try.results42 Try.results43 Try.results44 Try.results45 Try.results46 Try.results47 Try.results48 Try.results49 Try.results50 Try.results51 Try.results52 Try.results53 Try.results54 Try.results55 Try.results56 Try.results57 Try.results58 Try.results59 Try.results60 Try.results61 Try.results62 Try.results63 Try.results64 Try.results65 Try.results66 Try.results67 Try.results68 Try.results69 Try.results70 Try.results71 Try.results72 Try.results73 Try.results74 Try.results75 Try.results76 Try.results77 Try.results78 Try.results79 Try.results80 Try.results81 Try.results82 Try.results83 Try.results84 Try.results85 Try.results86 Try.results87 Try.results88 Try.results89 Try.results90 Try.results91
@[simp] theorem ZOA {n:Nat}{s:Nat->Int}{π:Nat->Nat}:AV.ren.rens π (fcI n s)=fcI n s:=by
 unfold fcI
 generalize List.range n=l
 induction l with
 |nil=>rfl
 |cons a r ih=>simp only[List.map_cons,AV.ren.rens,ih];rfl
variable (B : Nat) (hB1 : 1073741824 <= bd B) (hB2 : bd B <= 9223372036854775807)
include hB1 hB2
theorem C.f0 (a:List Ty)(left':Int)(r:Int)(hF:F.f0 a left'=some r):PureCall Try.prog B 56 [am zG a,li left'] (li r):=by
 unfold F.f0 at hF
 refine zH Try.func56 rfl Try.ntmps56 ?_
 revert hF;refine kS ?_ ?_<;>intro h1 q2 hF
 ·cases hF
  exact kc1 h1
 ·cases hF
  exact kc1 q2
theorem C.f1 (a:Ctor)(left':Int)(r:Int)(hF:F.f1 a left'=some r):PureCall Try.prog B 39 [.agg [.lit (.string a.name),am zG a.args,li a.index],li left'] (li r):=by
 unfold F.f1 at hF
 refine zH Try.func39 rfl Try.ntmps39 ?_
 revert hF;refine kS ?_ ?_<;>intro h1 q2 hF
 ·cases hF
  exact kc1 h1
 ·refine kx1 q2 ?_
  apply oB hF;intro v e3 hF
  refine((C.f0 B hB1 hB2 a.args (i64.wrap (left'- (a.name.size:Int))) v e3)).goI ?_
  revert hF;refine kS ?_ ?_<;>intro h4 q5 hF
  ·cases hF
   exact kc1 h4
  ·cases hF
   exact kc1 q5
theorem CC.f2 (a:List Ctor):(∀(left'3:Int) (i:Nat) (o:Lo Int Int),F.f2 a left'3 i=some o->∀(c:Code),Zo [1,1,1,0,1,0,0] (ZK Try.f25)=some c->∀(Q:Exit->ASt->Prop),o.post (fun r=>∀st,ZAK Try.prog Try.f25 (fun r' _=>r'.le (li r)) .ret st->Q .ret st) (fun s=>Q (.exit 0) ⟨[(1,li s)],[]⟩)->ALoopU Try.prog B 0 27 (hold c .mk) ⟨[(0,am zJ a),(1,li left'3),(5,li (i:Int))],[]⟩ (hold Q .mk)):=by
 refine F.f2.partial_correctness a
  _
  ?_
 ·intro _f_f2 ih_f2 left'3 i o hF
  refine ZN rfl fun Q hq hk hs=> ?_
  have b0:=hk 0
  simp -dsimp at b0
  clear hk hs
  refine eN ?_
  revert hF;refine kS ?_ ?_<;>intro h4 q5 hF
  ·have z6:((i:Int)<(a.length:Int)):=auz
   apply oB hF;intro x e7 hF
   have le7:=ZD e7
   refine Zn h4 z6 e7 ?_
   apply oB hF;intro v e8 hF
   refine((C.f1 B hB1 hB2 x left'3 v e8)).goI ?_
   revert hF;refine kS ?_ ?_<;>intro h9 q10 hF
   ·cases hF
    refine kx1 h9 ?_
    refine lG _ (gR _) (hq _ ?_)
    exact kc0
   ·have w11:i64.wrap ((i:Int)+1)=(i:Int)+1:=ZE (by omega) (by omega)
    refine kx2 q10 w11 ?_
    refine zK ((ih_f2 v (i+1) o hF) _ rfl _ hq)
  ·have z6:¬((i:Int)<(a.length:Int)):=auz
   cases hF
   refine kx3 h4 q5 z6 ?_
   refine zL hq
theorem C.f3 (a:List Ctor)(left':Int)(r:Int)(hF:F.f3 a left'=some r):PureCall Try.prog B 25 [am zJ a,li left'] (li r):=by
 unfold F.f3 at hF
 refine zH Try.func25 rfl Try.ntmps25 ?_
 revert hF;refine kS ?_ ?_<;>intro h1 q2 hF
 ·cases hF
  exact kc1 h1
 ·refine kx1 q2 ?_
  apply oB hF;intro o' ho12 hF
  refine zM (((CC.f2 B hB1 hB2 a) (i64.wrap (left'- (a.length:Int))) 0 o' ho12) _ rfl _ ?_)
  rcases o' with r0|sx
  ·dsimp only at hF
   cases hF
   intro st h
   simpa using h
  ·dsimp only at hF
   cases hF
   exact kc0
theorem C.f4 (a:zO)(left':Int)(r:Int)(hF:F.f4 a left'=some r):PureCall Try.prog B 13 [.agg [.lit (.string a.name),am zJ a.ctors],li left'] (li r):=by
 unfold F.f4 at hF
 refine zH Try.func13 rfl Try.ntmps13 ?_
 revert hF;refine kS ?_ ?_<;>intro h1 q2 hF
 ·cases hF
  exact kc1 h1
 ·refine kx1 q2 ?_
  apply oB hF;intro v e3 hF
  refine((C.f3 B hB1 hB2 a.ctors (i64.wrap (left'- (a.name.size:Int))) v e3)).goI ?_
  revert hF;refine kS ?_ ?_<;>intro h4 q5 hF
  ·cases hF
   exact kc1 h4
  ·cases hF
   exact kc1 q5
theorem CC.f5 (a:List zO):(∀(left'3:Int) (i:Nat) (o:Lo Int Int),F.f5 a left'3 i=some o->∀(c:Code),Zo [1,1,1,0,1,0,0] (ZK Try.f4)=some c->∀(Q:Exit->ASt->Prop),o.post (fun r=>∀st,ZAK Try.prog Try.f4 (fun r' _=>r'.le (li r)) .ret st->Q .ret st) (fun s=>Q (.exit 0) ⟨[(1,li s)],[]⟩)->ALoopU Try.prog B 0 27 (hold c .mk) ⟨[(0,am zP a),(1,li left'3),(5,li (i:Int))],[]⟩ (hold Q .mk)):=by
 refine F.f5.partial_correctness a
  _
  ?_
 ·intro _f_f5 ih_f5 left'3 i o hF
  refine ZN rfl fun Q hq hk hs=> ?_
  have b0:=hk 0
  simp -dsimp at b0
  clear hk hs
  refine eN ?_
  revert hF;refine kS ?_ ?_<;>intro h4 q5 hF
  ·have z6:((i:Int)<(a.length:Int)):=auz
   apply oB hF;intro x e7 hF
   have le7:=ZD e7
   refine Zn h4 z6 e7 ?_
   apply oB hF;intro v e8 hF
   refine((C.f4 B hB1 hB2 x left'3 v e8)).goI ?_
   revert hF;refine kS ?_ ?_<;>intro h9 q10 hF
   ·cases hF
    refine kx1 h9 ?_
    refine lG _ (gR _) (hq _ ?_)
    exact kc0
   ·have w11:i64.wrap ((i:Int)+1)=(i:Int)+1:=ZE (by omega) (by omega)
    refine kx2 q10 w11 ?_
    refine zK ((ih_f5 v (i+1) o hF) _ rfl _ hq)
  ·have z6:¬((i:Int)<(a.length:Int)):=auz
   cases hF
   refine kx3 h4 q5 z6 ?_
   refine zL hq
theorem C.f6 (a:List zO)(left':Int)(r:Int)(hF:F.f6 a left'=some r):PureCall Try.prog B 4 [am zP a,li left'] (li r):=by
 unfold F.f6 at hF
 refine zH Try.func4 rfl Try.ntmps4 ?_
 revert hF;refine kS ?_ ?_<;>intro h1 q2 hF
 ·cases hF
  exact kc1 h1
 ·refine kx1 q2 ?_
  apply oB hF;intro o' ho12 hF
  refine zM (((CC.f5 B hB1 hB2 a) (i64.wrap (left'- (a.length:Int))) 0 o' ho12) _ rfl _ ?_)
  rcases o' with r0|sx
  ·dsimp only at hF
   cases hF
   intro st h
   simpa using h
  ·dsimp only at hF
   cases hF
   exact kc0
theorem CC.f7  :(∀(a:Pattern) (left':Int) (r:Int),F.f7 a left'=some r->PureCall Try.prog B 5 [.agg [li a.op,li a.ctor,li a.n,li a.m,li a.var,am zR a.kids],li left'] (li r))/\
  (∀(a:List Pattern) (left':Int) (r:Int),F.f8 a left'=some r->PureCall Try.prog B 14 [am zR a,li left'] (li r))/\
  (∀(a:List Pattern) (left'3:Int) (i:Nat) (o:Lo Int Int),F.f9 a left'3 i=some o->∀(c:Code),Zo [1,1,1,0,1,0,0] (ZK Try.f14)=some c->∀(Q:Exit->ASt->Prop),o.post (fun r=>∀st,ZAK Try.prog Try.f14 (fun r' _=>r'.le (li r)) .ret st->Q .ret st) (fun s=>Q (.exit 0) ⟨[(1,li s)],[]⟩)->ALoopU Try.prog B 0 27 (hold c .mk) ⟨[(0,am zR a),(1,li left'3),(5,li (i:Int))],[]⟩ (hold Q .mk)):=by
 refine F.f7.mutual_partial_correctness 
  _ _ _
  ?_ ?_ ?_
 ·intro _f_f8 ih_f8 a left' r hF
  refine zH Try.func5 rfl Try.ntmps5 ?_
  refine kB hF fun v e1 hF=> ?_
  refine((ih_f8 a.kids left' v e1)).goI ?_
  revert hF;refine kS ?_ ?_<;>intro h2 q3 hF
  ·cases hF
   exact kc1 h2
  ·cases hF
   exact kc1 q3
 ·intro _f_f9 ih_f9 a left' r hF
  refine zH Try.func14 rfl Try.ntmps14 ?_
  revert hF;refine kS ?_ ?_<;>intro h1 q2 hF
  ·cases hF
   exact kc1 h1
  ·refine kx1 q2 ?_
   apply oB hF;intro o' ho12 hF
   refine zM ((ih_f9 a (i64.wrap (left'- (a.length:Int))) 0 o' ho12) _ rfl _ ?_)
   rcases o' with r0|sx
   ·dsimp only at hF
    cases hF
    intro st h
    simpa using h
   ·dsimp only at hF
    cases hF
    exact kc0
 ·intro _f_f7 _f_f9 ih_f7 ih_f9 a left'3 i o hF
  refine ZN rfl fun Q hq hk hs=> ?_
  have b0:=hk 0
  simp -dsimp at b0
  clear hk hs
  refine eN ?_
  revert hF;refine kS ?_ ?_<;>intro h4 q5 hF
  ·have z6:((i:Int)<(a.length:Int)):=auz
   apply oB hF;intro x e7 hF
   have le7:=ZD e7
   refine Zn h4 z6 e7 ?_
   apply oB hF;intro v e8 hF
   refine((ih_f7 x left'3 v e8)).goI ?_
   revert hF;refine kS ?_ ?_<;>intro h9 q10 hF
   ·cases hF
    refine kx1 h9 ?_
    refine lG _ (gR _) (hq _ ?_)
    exact kc0
   ·have w11:i64.wrap ((i:Int)+1)=(i:Int)+1:=ZE (by omega) (by omega)
    refine kx2 q10 w11 ?_
    refine zK ((ih_f9 a v (i+1) o hF) _ rfl _ hq)
  ·have z6:¬((i:Int)<(a.length:Int)):=auz
   cases hF
   refine kx3 h4 q5 z6 ?_
   refine zL hq
theorem C.f10 (a:Ty)(r:Ty)(hF:F.f10 a=some r):PureCall Try.prog B 8 [.agg [li a.data,li a.index]] (.agg [li r.data,li r.index]):=by
 unfold F.f10 at hF
 refine zH Try.func8 rfl Try.ntmps8 ?_
 cases hF
 exact kc0
theorem CC.f11 (a:List Ty):(∀(out:List Ty) (i:Nat) (o:List Ty),F.f11 a out i=some o->∀(c:Code),Zo [1,1,0,1,0,0] (ZK Try.f66)=some c->∀(Q:Exit->ASt->Prop),(Q (.exit 0) ⟨[(3,.own 0 (zA (α:=Ty) o))],[.elems 2 (zB zG o)]⟩)->ALoopU Try.prog B 0 23 (hold c .mk) ⟨[(0,am zG a),(3,.own 0 (zA (α:=Ty) out)),(4,li (i:Int))],[.elems 2 (zB zG out)]⟩ (hold Q .mk)):=by
 refine F.f11.partial_correctness a
  _
  ?_
 ·intro _f_f11 ih_f11 out i o hF
  refine ZN rfl fun Q hq hk hs=> ?_
  have b0:=hk 0
  simp -dsimp at b0
  have d0:=hs 0 _ rfl
  simp -dsimp[zT]at d0
  clear hk hs
  refine eN ?_
  revert hF;refine kS ?_ ?_<;>intro h2 q3 hF
  ·have z4:((i:Int)<(a.length:Int)):=auz
   apply oB hF;intro x e5 hF
   have le5:=ZD e5
   refine Zn h2 z4 e5 ?_
   apply oB hF;intro v e6 hF
   refine((C.f10 B hB1 hB2 x v e6)).goI ?_
   apply oB hF;intro x7 e8 hF
   have le8:=ZD e8
   have w9:i64.wrap ((i:Int)+1)=(i:Int)+1:=ZE (by omega) (by omega)
   refine ZN9 e8 w9 ?_
   refine zK ((ih_f11 (out.set i v) (i+1) o hF) _ rfl _ hq)
  ·have z4:¬((i:Int)<(a.length:Int)):=auz
   cases hF
   refine kx3 h2 q3 z4 ?_
   refine zL hq
theorem C.f12 (a:List Ty)(r:List Ty)(hF:F.f12 a=some r):PureCall Try.prog B 66 [am zG a] (am zG r):=by
 unfold F.f12 at hF
 refine zH Try.func66 rfl Try.ntmps66 ?_
 apply oC hF;intro c1 hF
 refine kB hF fun o' ho10 hF=> ?_
 refine zM (((CC.f11 B hB1 hB2 a) (zC a.length Ty.z) 0 o' ho10) _ rfl _ ?_)
 cases hF
 exact kc0
theorem C.f13 (a:Ctor)(r:Ctor)(hF:F.f13 a=some r):PureCall Try.prog B 48 [.agg [.lit (.string a.name),am zG a.args,li a.index]] (.agg [.lit (.string r.name),am zG r.args,li r.index]):=by
 unfold F.f13 at hF
 refine zH Try.func48 rfl Try.ntmps48 ?_
 refine kB hF fun v e1 hF=> ?_
 refine((C.f12 B hB1 hB2 a.args v e1)).goI ?_
 cases hF
 exact kc0
theorem CC.f14 (a:List Ctor):(∀(out:List Ctor) (i:Nat) (o:List Ctor),F.f14 a out i=some o->∀(c:Code),Zo [1,1,0,1,0,0] (ZK Try.f32)=some c->∀(Q:Exit->ASt->Prop),(Q (.exit 0) ⟨[(3,.own 0 (zA (α:=Ctor) o))],[.elems 3 (zB zJ o)]⟩)->ALoopU Try.prog B 0 23 (hold c .mk) ⟨[(0,am zJ a),(3,.own 0 (zA (α:=Ctor) out)),(4,li (i:Int))],[.elems 3 (zB zJ out)]⟩ (hold Q .mk)):=by
 refine F.f14.partial_correctness a
  _
  ?_
 ·intro _f_f14 ih_f14 out i o hF
  refine ZN rfl fun Q hq hk hs=> ?_
  have b0:=hk 0
  simp -dsimp at b0
  have d0:=hs 0 _ rfl
  simp -dsimp[zT]at d0
  clear hk hs
  refine eN ?_
  revert hF;refine kS ?_ ?_<;>intro h2 q3 hF
  ·have z4:((i:Int)<(a.length:Int)):=auz
   apply oB hF;intro x e5 hF
   have le5:=ZD e5
   refine Zn h2 z4 e5 ?_
   apply oB hF;intro v e6 hF
   refine((C.f13 B hB1 hB2 x v e6)).goI ?_
   apply oB hF;intro x7 e8 hF
   have le8:=ZD e8
   have w9:i64.wrap ((i:Int)+1)=(i:Int)+1:=ZE (by omega) (by omega)
   refine ZN9 e8 w9 ?_
   refine zK ((ih_f14 (out.set i v) (i+1) o hF) _ rfl _ hq)
  ·have z4:¬((i:Int)<(a.length:Int)):=auz
   cases hF
   refine kx3 h2 q3 z4 ?_
   refine zL hq
theorem C.f15 (a:List Ctor)(r:List Ctor)(hF:F.f15 a=some r):PureCall Try.prog B 32 [am zJ a] (am zJ r):=by
 unfold F.f15 at hF
 refine zH Try.func32 rfl Try.ntmps32 ?_
 apply oC hF;intro c1 hF
 refine kB hF fun o' ho10 hF=> ?_
 refine zM (((CC.f14 B hB1 hB2 a) (zC a.length Ctor.z) 0 o' ho10) _ rfl _ ?_)
 cases hF
 exact kc0
theorem C.f16 (a:zO)(r:zO)(hF:F.f16 a=some r):PureCall Try.prog B 18 [.agg [.lit (.string a.name),am zJ a.ctors]] (.agg [.lit (.string r.name),am zJ r.ctors]):=by
 unfold F.f16 at hF
 refine zH Try.func18 rfl Try.ntmps18 ?_
 refine kB hF fun v e1 hF=> ?_
 refine((C.f15 B hB1 hB2 a.ctors v e1)).goI ?_
 cases hF
 exact kc0
theorem CC.f17 (a:List zO):(∀(out:List zO) (i:Nat) (o:List zO),F.f17 a out i=some o->∀(c:Code),Zo [1,1,0,1,0,0] (ZK Try.f7)=some c->∀(Q:Exit->ASt->Prop),(Q (.exit 0) ⟨[(3,.own 0 (zA (α:=zO) o))],[.elems 2 (zB zP o)]⟩)->ALoopU Try.prog B 0 23 (hold c .mk) ⟨[(0,am zP a),(3,.own 0 (zA (α:=zO) out)),(4,li (i:Int))],[.elems 2 (zB zP out)]⟩ (hold Q .mk)):=by
 refine F.f17.partial_correctness a
  _
  ?_
 ·intro _f_f17 ih_f17 out i o hF
  refine ZN rfl fun Q hq hk hs=> ?_
  have b0:=hk 0
  simp -dsimp at b0
  have d0:=hs 0 _ rfl
  simp -dsimp[zT]at d0
  clear hk hs
  refine eN ?_
  revert hF;refine kS ?_ ?_<;>intro h2 q3 hF
  ·have z4:((i:Int)<(a.length:Int)):=auz
   apply oB hF;intro x e5 hF
   have le5:=ZD e5
   refine Zn h2 z4 e5 ?_
   apply oB hF;intro v e6 hF
   refine((C.f16 B hB1 hB2 x v e6)).goI ?_
   apply oB hF;intro x7 e8 hF
   have le8:=ZD e8
   have w9:i64.wrap ((i:Int)+1)=(i:Int)+1:=ZE (by omega) (by omega)
   refine ZN9 e8 w9 ?_
   refine zK ((ih_f17 (out.set i v) (i+1) o hF) _ rfl _ hq)
  ·have z4:¬((i:Int)<(a.length:Int)):=auz
   cases hF
   refine kx3 h2 q3 z4 ?_
   refine zL hq
theorem C.f18 (a:List zO)(r:List zO)(hF:F.f18 a=some r):PureCall Try.prog B 7 [am zP a] (am zP r):=by
 unfold F.f18 at hF
 refine zH Try.func7 rfl Try.ntmps7 ?_
 apply oC hF;intro c1 hF
 refine kB hF fun o' ho10 hF=> ?_
 refine zM (((CC.f17 B hB1 hB2 a) (zC a.length zQ) 0 o' ho10) _ rfl _ ?_)
 cases hF
 exact kc0
theorem CC.f19  :(∀(a:Pattern) (r:Pattern),F.f19 a=some r->PureCall Try.prog B 9 [.agg [li a.op,li a.ctor,li a.n,li a.m,li a.var,am zR a.kids]] (.agg [li r.op,li r.ctor,li r.n,li r.m,li r.var,am zR r.kids]))/\
  (∀(a:List Pattern) (r:List Pattern),F.f20 a=some r->PureCall Try.prog B 19 [am zR a] (am zR r))/\
  (∀(a:List Pattern) (out:List Pattern) (i:Nat) (o:List Pattern),F.f21 a out i=some o->∀(c:Code),Zo [1,1,0,1,0,0] (ZK Try.f19)=some c->∀(Q:Exit->ASt->Prop),(Q (.exit 0) ⟨[(3,.own 0 (zA (α:=Pattern) o))],[.elems 6 (zB zR o)]⟩)->ALoopU Try.prog B 0 23 (hold c .mk) ⟨[(0,am zR a),(3,.own 0 (zA (α:=Pattern) out)),(4,li (i:Int))],[.elems 6 (zB zR out)]⟩ (hold Q .mk)):=by
 refine F.f19.mutual_partial_correctness 
  _ _ _
  ?_ ?_ ?_
 ·intro _f_f20 ih_f20 a r hF
  refine zH Try.func9 rfl Try.ntmps9 ?_
  refine kB hF fun v e1 hF=> ?_
  refine((ih_f20 a.kids v e1)).goI ?_
  cases hF
  exact kc0
 ·intro _f_f21 ih_f21 a r hF
  refine zH Try.func19 rfl Try.ntmps19 ?_
  apply oC hF;intro c1 hF
  refine kB hF fun o' ho10 hF=> ?_
  refine zM ((ih_f21 a (zC a.length zS) 0 o' ho10) _ rfl _ ?_)
  cases hF
  exact kc0
 ·intro _f_f19 _f_f21 ih_f19 ih_f21 a out i o hF
  refine ZN rfl fun Q hq hk hs=> ?_
  have b0:=hk 0
  simp -dsimp at b0
  have d0:=hs 0 _ rfl
  simp -dsimp[zT]at d0
  clear hk hs
  refine eN ?_
  revert hF;refine kS ?_ ?_<;>intro h2 q3 hF
  ·have z4:((i:Int)<(a.length:Int)):=auz
   apply oB hF;intro x e5 hF
   have le5:=ZD e5
   refine Zn h2 z4 e5 ?_
   apply oB hF;intro v e6 hF
   refine((ih_f19 x v e6)).goI ?_
   apply oB hF;intro x7 e8 hF
   have le8:=ZD e8
   have w9:i64.wrap ((i:Int)+1)=(i:Int)+1:=ZE (by omega) (by omega)
   refine ZN9 e8 w9 ?_
   refine zK ((ih_f21 a (out.set i v) (i+1) o hF) _ rfl _ hq)
  ·have z4:¬((i:Int)<(a.length:Int)):=auz
   cases hF
   refine kx3 h2 q3 z4 ?_
   refine zL hq
theorem C.f22 (c':Int)(r:Bool)(hF:F.f22 c'=some r):PureCall Try.prog B 75 [.lit (.int .u8 c')] (.lit (.bool r)):=by
 unfold F.f22 at hF
 refine zH Try.func75 rfl Try.ntmps75 ?_
 revert hF;refine kS ?_ ?_<;>intro h1 q2 hF
 ·cases hF
  exact kc1 h1
 ·cases hF
  exact kc1 q2
theorem C.f23 (s:ByteArray)(r:Bool)(hF:F.f23 s=some r):PureCall Try.prog B 57 [.lit (.string s)] (.lit (.bool r)):=by
 unfold F.f23 at hF
 refine zH Try.func57 rfl Try.ntmps57 ?_
 revert hF;refine kS ?_ ?_<;>intro h1 q2 hF
 ·have z3:((s.size:Int)=1):=auz
  obtain⟨c4,hF⟩:=oc hF
  refine kx2 h1 z3 ?_
  obtain⟨v,e5,hF⟩:=ob hF
  refine((C.f22 B hB1 hB2 ((byteAt s 0:Nat):Int) v e5)).goI ?_
  refine kx2 h1 z3 ?_
  revert hF;refine aS (fun h6 q7 hF=> ?_) (fun h6 q7 hF=> ?_)
  ·cases hF
   exact kc3 h1 z3 h6
  ·cases hF
   exact kc4 h1 z3 h6 q7
 ·have z3:¬((s.size:Int)=1):=auz
  cases hF
  exact kc3 h1 q2 z3
theorem CC.f24 (s:ByteArray):(∀(i:Nat) (o:Lo Bool Unit),F.f24 s i=some o->∀(c:Code),Zo [1,1,0,1,0,0] (ZK Try.f76)=some c->∀(Q:Exit->ASt->Prop),o.post (fun r=>∀st,ZAK Try.prog Try.f76 (fun r' _=>r'.le (.lit (.bool r))) .ret st->Q .ret st) (fun s=>Q (.exit 0) ⟨[],[]⟩)->ALoopU Try.prog B 0 34 (hold c .mk) ⟨[(0,.lit (.string s)),(3,li (i:Int))],[]⟩ (hold Q .mk)):=by
 refine F.f24.partial_correctness s
  _
  ?_
 ·intro _f_f24 ih_f24 i o hF
  refine ZN rfl fun Q hq hk hs=> ?_
  clear hk hs
  refine eN ?_
  revert hF;refine kS ?_ ?_<;>intro h11 q12 hF
  ·have z13:((i:Int)<(s.size:Int)):=auz
   refine kx2 h11 z13 ?_
   revert hF;refine aN ?_ ?_<;>intro h14 q15 hF
   ·have z16:¬(((byteAt s i:Nat):Int)<97):=auz
    refine kx5 h11 z13 h14 q15 z16 ?_
    revert hF;refine aS ?_ ?_<;>intro h17 q18 hF
    ·have z19:(122<((byteAt s i:Nat):Int)):=auz
     cases hF
     refine kx7 h11 z13 h14 q15 z16 h17 z19 ?_
     refine lG _ (gR _) (hq _ ?_)
     exact kc7 h11 z13 h14 q15 z16 h17 z19
    ·have z19:¬(122<((byteAt s i:Nat):Int)):=auz
     obtain⟨c20,hF⟩:=oc hF
     have w21:i64.wrap ((i:Int)+1)=(i:Int)+1:=ZE (by omega) (by omega)
     refine kx9 h11 z13 h14 q15 z16 h17 q18 z19 w21 ?_
     refine zK ((ih_f24 (i+1) o hF) _ rfl _ hq)
   ·have z16:(((byteAt s i:Nat):Int)<97):=auz
    cases hF
    refine kx5 h11 z13 h14 q15 z16 ?_
    refine lG _ (gR _) (hq _ ?_)
    exact kc5 h11 z13 h14 q15 z16
  ·have z13:¬((i:Int)<(s.size:Int)):=auz
   cases hF
   refine kx3 h11 q12 z13 ?_
   refine zL hq
theorem C.f25 (s:ByteArray)(r:Bool)(hF:F.f25 s=some r):PureCall Try.prog B 76 [.lit (.string s)] (.lit (.bool r)):=by
 unfold F.f25 at hF
 refine zH Try.func76 rfl Try.ntmps76 ?_
 revert hF;refine kN ?_ ?_<;>intro h1 q2 hF
 ·have z3:¬((s.size:Int)=0):=auz
  refine kx3 h1 q2 z3 ?_
  revert hF;refine aN ?_ ?_<;>intro h4 q5 hF
  ·have z6:¬(5<(s.size:Int)):=auz
   obtain⟨c7,hF⟩:=oc hF
   refine kx6 h1 q2 z3 h4 q5 z6 ?_
   obtain⟨v,e8,hF⟩:=ob hF
   refine((C.f22 B hB1 hB2 ((byteAt s 0:Nat):Int) v e8)).goI ?_
   refine kx6 h1 q2 z3 h4 q5 z6 ?_
   revert hF;refine aN (fun h9 q10 hF=> ?_) (fun h9 q10 hF=> ?_)
   ·cases hF
    exact kc8 h1 q2 z3 h4 q5 z6 h9 q10
   ·refine kx8 h1 q2 z3 h4 q5 z6 h9 q10 ?_
    obtain⟨o',ho22,hF⟩:=ob hF
    refine zM (((CC.f24 B hB1 hB2 s) 1 o' ho22) _ rfl _ ?_)
    rcases o' with r0|sx
    ·dsimp only at hF
     cases hF
     intro st h
     simpa using h
    ·dsimp only at hF
     cases hF
     exact kc0
  ·have z6:(5<(s.size:Int)):=auz
   cases hF
   exact kc6 h1 q2 z3 h4 q5 z6
 ·have z3:((s.size:Int)=0):=auz
  cases hF
  exact kc3 h1 q2 z3
theorem C.f26 (n:Int)(t:Ty)(r:Bool)(hF:F.f26 n t=some r):PureCall Try.prog B 60 [li n,.agg [li t.data,li t.index]] (.lit (.bool r)):=by
 unfold F.f26 at hF
 refine zH Try.func60 rfl Try.ntmps60 ?_
 revert hF;refine kS ?_ ?_<;>intro h1 q2 hF
 ·cases hF
  exact kc1 h1
 ·refine kx1 q2 ?_
  revert hF;refine aS ?_ ?_<;>intro h3 q4 hF
  ·refine kx1 h3 ?_
   revert hF;refine aS ?_ ?_<;>intro h5 q6 hF
   ·refine kx1 h5 ?_
    revert hF;refine aS ?_ ?_<;>intro h7 q8 hF
    ·cases hF
     exact kc1 h7
    ·cases hF
     exact kc1 q8
   ·cases hF
    exact kc1 q6
  ·cases hF
   exact kc1 q4
theorem CC.f27 (n:Int)(c':Ctor):(∀(i:Nat) (o:Lo Bool Unit),F.f27 n c' i=some o->∀(c:Code),Zo [1,1,0,1,0,0] (ZK Try.f58)=some c->∀(Q:Exit->ASt->Prop),o.post (fun r=>∀st,ZAK Try.prog Try.f58 (fun r' _=>r'.le (.lit (.bool r))) .ret st->Q .ret st) (fun s=>Q (.exit 0) ⟨[],[]⟩)->ALoopU Try.prog B 0 41 (hold c .mk) ⟨[(0,li n),(3,.ptr 0 0),(5,li (i:Int))],[.cells [.lit (.string c'.name),am zG c'.args,li c'.index]]⟩ (hold Q .mk)):=by
 refine F.f27.partial_correctness n c'
  _
  ?_
 ·intro _f_f27 ih_f27 i o hF
  refine ZN rfl fun Q hq hk hs=> ?_
  have d0:=hs 0 _ rfl
  simp -dsimp[zT]at d0
  clear hk hs
  refine eN ?_
  revert hF;refine kS ?_ ?_<;>intro h11 q12 hF
  ·have z13:((i:Int)<(c'.args.length:Int)):=auz
   obtain⟨x,e14,hF⟩:=ob hF
   have le14:=ZD e14
   refine Zn h11 z13 e14 ?_
   obtain⟨v15,e16,hF⟩:=ob hF
   refine((C.f26 B hB1 hB2 n x v15 e16)).goI ?_
   revert hF;refine kN (fun h17 q18 hF=> ?_) (fun h17 q18 hF=> ?_)
   ·cases hF
    refine kx2 h17 q18 ?_
    refine lG _ (gR _) (hq _ ?_)
    exact kc0
   ·have w19:i64.wrap ((i:Int)+1)=(i:Int)+1:=ZE (by omega) (by omega)
    refine kx1 w19 ?_
    refine zK ((ih_f27 (i+1) o hF) _ rfl _ hq)
  ·have z13:¬((i:Int)<(c'.args.length:Int)):=auz
   cases hF
   refine kx3 h11 q12 z13 ?_
   refine zL hq
theorem C.f28 (n:Int)(c':Ctor)(r:Bool)(hF:F.f28 n c'=some r):PureCall Try.prog B 58 [li n,.agg [.lit (.string c'.name),am zG c'.args,li c'.index]] (.lit (.bool r)):=by
 unfold F.f28 at hF
 refine zH Try.func58 rfl Try.ntmps58 ?_
 refine kx0 ?_
 obtain⟨v,e1,hF⟩:=ob hF
 refine((C.f25 B hB1 hB2 c'.name v e1)).goI ?_
 revert hF;refine kS (fun h2 q3 hF=> ?_) (fun h2 q3 hF=> ?_)
 ·refine kx1 h2 ?_
  revert hF;refine aN ?_ ?_<;>intro h4 q5 hF
  ·have z6:¬(3<(c'.args.length:Int)):=auz
   refine kx4 h2 h4 q5 z6 ?_
   revert hF;refine aN ?_ ?_<;>intro h7 q8 hF
   ·refine kx6 h2 h4 q5 z6 h7 q8 ?_
    revert hF;refine aS ?_ ?_<;>intro h9 q10 hF
    ·cases hF
     exact kc7 h2 h4 q5 z6 h7 q8 h9
    ·refine kx8 h2 h4 q5 z6 h7 q8 h9 q10 ?_
     obtain⟨o',ho20,hF⟩:=ob hF
     refine zM (((CC.f27 B hB1 hB2 n c') 0 o' ho20) _ rfl _ ?_)
     rcases o' with r0|sx
     ·dsimp only at hF
      cases hF
      intro st h
      simpa using h
     ·dsimp only at hF
      cases hF
      exact kc0
   ·cases hF
    exact kc6 h2 h4 q5 z6 h7 q8
  ·have z6:(3<(c'.args.length:Int)):=auz
   cases hF
   exact kc4 h2 h4 q5 z6
 ·cases hF
  exact kc2 h2 q3
theorem CC.f29 (w:List zO)(d:Int)(k:Int)(i:Nat):(∀(j:Nat) (o:Lo Bool Unit),F.f29 w d k i j=some o->∀(c:Code),Zo [1,0,1,0,0,1,0,0,1,1,0,0] (ZK Try.f59)=some c->∀(Q:Exit->ASt->Prop),o.post (fun r=>∀st,ZAK Try.prog Try.f59 (fun r' _=>r'.le (.lit (.bool r))) .ret st->Q .ret st) (fun s=>Q (.exit 2) ⟨[(0,am zP w),(1,li d),(2,li k),(7,li (i:Int))],[]⟩)->ALoopU Try.prog B 0 79 (hold c .mk) ⟨[(0,am zP w),(1,li d),(2,li k),(7,li (i:Int)),(8,li (j:Int))],[]⟩ (hold Q .mk)):=by
 refine F.f29.partial_correctness w d k i
  _
  ?_
 ·intro _f_f29 ih_f29 j o hF
  refine ZN rfl fun Q hq hk hs=> ?_
  have b0:=hk 0
  simp -dsimp at b0
  clear hk hs
  refine eN ?_
  apply oB hF;intro x10 e11 hF
  have le11:=ZD e11
  refine kdd e11 ?_
  revert hF;refine aS ?_ ?_<;>intro h12 q13 hF
  ·have z14:((j:Int)<(x10.ctors.length:Int)):=auz
   refine kx2 h12 z14 ?_
   revert hF;refine aN ?_ ?_<;>intro h15 q16 hF
   ·repeat first|refine cg ?_|simp -dsimp[↓e11,h12,z14,h15,q16]
    revert hF;refine aS ?_ ?_<;>intro h17 q18 hF
    ·repeat first|refine cg ?_|simp -dsimp[↓e11,h12,z14,h15,q16,h17]
     refine zU follows ?_
     apply oB hF;intro x19 e20a hF
     have e20a:=Zl e20a;obtain⟨ne20,e20⟩:=e20a
     have le20:=ZD e20
     refine kdd e20 ?_
     revert hF;refine aS ?_ ?_<;>intro h21 q22 hF
     ·apply oB hF;intro x23 e24 hF
      have le24:=ZD e24
      apply oB hF;intro x25 e26a hF
      have e26a:=Zl e26a;obtain⟨ne26,e26⟩:=e26a
      have le26:=ZD e26
      repeat first|refine cg ?_|simp -dsimp[↓e11,h12,z14,h15,q16,h17,↓e20,h21,↓e24,↓e26]
      revert hF;refine aS ?_ ?_<;>intro h27 q28 hF
      ·cases hF
       refine kx1 h27 ?_
       refine lG _ (gR _) (hq _ ?_)
       exact kc0
      ·apply oC hF;intro c29 hF
       have w30:i64.wrap ((j:Int)+1)=(j:Int)+1:=ZE (by omega) (by omega)
       refine kx2 q28 w30 ?_
       refine zK ((ih_f29 (j+1) o hF) _ rfl _ hq)
     ·apply oC hF;intro c31 hF
      have w32:i64.wrap ((j:Int)+1)=(j:Int)+1:=ZE (by omega) (by omega)
      refine kx3 h21 q22 w32 ?_
      refine zK ((ih_f29 (j+1) o hF) _ rfl _ hq)
    ·cases hF
     repeat first|refine cg ?_|simp -dsimp[↓e11,h12,z14,h15,q16,h17,q18]
     refine zL hq
   ·repeat first|refine cg ?_|simp -dsimp[↓e11,h12,z14,h15,q16]
    refine zU follows ?_
    apply oB hF;intro x33 e34a hF
    have e34a:=Zl e34a;obtain⟨ne34,e34⟩:=e34a
    have le34:=ZD e34
    refine kdd e34 ?_
    revert hF;refine aS ?_ ?_<;>intro h35 q36 hF
    ·apply oB hF;intro x37 e38 hF
     have le38:=ZD e38
     apply oB hF;intro x39 e40a hF
     have e40a:=Zl e40a;obtain⟨ne40,e40⟩:=e40a
     have le40:=ZD e40
     repeat first|refine cg ?_|simp -dsimp[↓e11,h12,z14,h15,q16,↓e34,h35,↓e38,↓e40]
     revert hF;refine aS ?_ ?_<;>intro h41 q42 hF
     ·cases hF
      refine kx1 h41 ?_
      refine lG _ (gR _) (hq _ ?_)
      exact kc0
     ·apply oC hF;intro c43 hF
      have w44:i64.wrap ((j:Int)+1)=(j:Int)+1:=ZE (by omega) (by omega)
      refine kx2 q42 w44 ?_
      refine zK ((ih_f29 (j+1) o hF) _ rfl _ hq)
    ·apply oC hF;intro c45 hF
     have w46:i64.wrap ((j:Int)+1)=(j:Int)+1:=ZE (by omega) (by omega)
     refine kx3 h35 q36 w46 ?_
     refine zK ((ih_f29 (j+1) o hF) _ rfl _ hq)
  ·have z14:¬((j:Int)<(x10.ctors.length:Int)):=auz
   cases hF
   refine kx3 h12 q13 z14 ?_
   refine zL hq
theorem CC.f30 (w:List zO)(d:Int)(k:Int)(i:Nat):(∀(j50:Nat) (o:Lo Bool Unit),F.f30 w d k i j50=some o->∀(c:Code),Zo [1,0,1,0,0,1,0,0,1,1,0,0] (ZK Try.f59)=some c->∀(Q:Exit->ASt->Prop),o.post (fun r=>∀st,ZAK Try.prog Try.f59 (fun r' _=>r'.le (.lit (.bool r))) .ret st->Q .ret st) (fun s=>Q (.exit 2) ⟨[(0,am zP w),(1,li d),(2,li k),(7,li (i:Int))],[]⟩)->ALoopU Try.prog B 0 79 (hold c .mk) ⟨[(0,am zP w),(1,li d),(2,li k),(7,li (i:Int)),(8,li (j50:Int))],[]⟩ (hold Q .mk)):=by
 refine F.f30.partial_correctness w d k i
  _
  ?_
 ·intro _f_f30 ih_f30 j50 o hF
  refine ZN rfl fun Q hq hk hs=> ?_
  have b0:=hk 0
  simp -dsimp at b0
  clear hk hs
  refine eN ?_
  apply oB hF;intro x51 e52 hF
  have le52:=ZD e52
  refine kdd e52 ?_
  revert hF;refine aS ?_ ?_<;>intro h53 q54 hF
  ·have z55:((j50:Int)<(x51.ctors.length:Int)):=auz
   refine kx2 h53 z55 ?_
   revert hF;refine aN ?_ ?_<;>intro h56 q57 hF
   ·repeat first|refine cg ?_|simp -dsimp[↓e52,h53,z55,h56,q57]
    revert hF;refine aS ?_ ?_<;>intro h58 q59 hF
    ·repeat first|refine cg ?_|simp -dsimp[↓e52,h53,z55,h56,q57,h58]
     refine zU follows ?_
     apply oB hF;intro x60 e61a hF
     have e61a:=Zl e61a;obtain⟨ne61,e61⟩:=e61a
     have le61:=ZD e61
     refine kdd e61 ?_
     revert hF;refine aS ?_ ?_<;>intro h62 q63 hF
     ·apply oB hF;intro x64 e65 hF
      have le65:=ZD e65
      apply oB hF;intro x66 e67a hF
      have e67a:=Zl e67a;obtain⟨ne67,e67⟩:=e67a
      have le67:=ZD e67
      repeat first|refine cg ?_|simp -dsimp[↓e52,h53,z55,h56,q57,h58,↓e61,h62,↓e65,↓e67]
      revert hF;refine aS ?_ ?_<;>intro h68 q69 hF
      ·cases hF
       refine kx1 h68 ?_
       refine lG _ (gR _) (hq _ ?_)
       exact kc0
      ·apply oC hF;intro c70 hF
       have w71:i64.wrap ((j50:Int)+1)=(j50:Int)+1:=ZE (by omega) (by omega)
       refine kx2 q69 w71 ?_
       refine zK ((ih_f30 (j50+1) o hF) _ rfl _ hq)
     ·apply oC hF;intro c72 hF
      have w73:i64.wrap ((j50:Int)+1)=(j50:Int)+1:=ZE (by omega) (by omega)
      refine kx3 h62 q63 w73 ?_
      refine zK ((ih_f30 (j50+1) o hF) _ rfl _ hq)
    ·cases hF
     repeat first|refine cg ?_|simp -dsimp[↓e52,h53,z55,h56,q57,h58,q59]
     refine zL hq
   ·repeat first|refine cg ?_|simp -dsimp[↓e52,h53,z55,h56,q57]
    refine zU follows ?_
    apply oB hF;intro x74 e75a hF
    have e75a:=Zl e75a;obtain⟨ne75,e75⟩:=e75a
    have le75:=ZD e75
    refine kdd e75 ?_
    revert hF;refine aS ?_ ?_<;>intro h76 q77 hF
    ·apply oB hF;intro x78 e79 hF
     have le79:=ZD e79
     apply oB hF;intro x80 e81a hF
     have e81a:=Zl e81a;obtain⟨ne81,e81⟩:=e81a
     have le81:=ZD e81
     repeat first|refine cg ?_|simp -dsimp[↓e52,h53,z55,h56,q57,↓e75,h76,↓e79,↓e81]
     revert hF;refine aS ?_ ?_<;>intro h82 q83 hF
     ·cases hF
      refine kx1 h82 ?_
      refine lG _ (gR _) (hq _ ?_)
      exact kc0
     ·apply oC hF;intro c84 hF
      have w85:i64.wrap ((j50:Int)+1)=(j50:Int)+1:=ZE (by omega) (by omega)
      refine kx2 q83 w85 ?_
      refine zK ((ih_f30 (j50+1) o hF) _ rfl _ hq)
    ·apply oC hF;intro c86 hF
     have w87:i64.wrap ((j50:Int)+1)=(j50:Int)+1:=ZE (by omega) (by omega)
     refine kx3 h76 q77 w87 ?_
     refine zK ((ih_f30 (j50+1) o hF) _ rfl _ hq)
  ·have z55:¬((j50:Int)<(x51.ctors.length:Int)):=auz
   cases hF
   refine kx3 h53 q54 z55 ?_
   refine zL hq
theorem CC.f31 (w:List zO)(d:Int)(k:Int):(∀(i:Nat) (o:Lo Bool Unit),F.f31 w d k i=some o->∀(c:Code),Zo [1,0,1,0,0] (ZK Try.f59)=some c->∀(Q:Exit->ASt->Prop),o.post (fun r=>∀st,ZAK Try.prog Try.f59 (fun r' _=>r'.le (.lit (.bool r))) .ret st->Q .ret st) (fun s=>Q (.exit 0) ⟨[],[]⟩)->ALoopU Try.prog B 0 79 (hold c .mk) ⟨[(0,am zP w),(1,li d),(2,li k),(7,li (i:Int))],[]⟩ (hold Q .mk)):=by
 refine F.f31.partial_correctness w d k
  _
  ?_
 ·intro _f_f31 ih_f31 i o hF
  refine ZN rfl fun Q hq hk hs=> ?_
  have b0:=hk 0
  simp -dsimp at b0
  clear hk hs
  refine eN ?_
  revert hF;refine kS ?_ ?_<;>intro h1 q2 hF
  ·refine kx1 h1 ?_
   refine zU follows ?_
   revert hF;refine kS ?_ ?_<;>intro h3 q4 hF
   ·obtain⟨x,e5,hF⟩:=ob hF
    have le5:=ZD e5
    obtain⟨x6,e7a,hF⟩:=ob hF
    have e7a:=Zl e7a;obtain⟨ne7,e7⟩:=e7a
    have le7:=ZD e7
    repeat first|refine cg ?_|simp -dsimp[h3,↓e5,↓e7]
    revert hF;refine aS ?_ ?_<;>intro h8 q9 hF
    ·cases hF
     refine kx1 h8 ?_
     refine lG _ (gR _) (hq _ ?_)
     exact kc0
    ·refine kx1 q9 ?_
     obtain⟨o',ho47,hF⟩:=ob hF
     refine zM (((CC.f29 B hB1 hB2 w d k i) 0 o' ho47) _ rfl _ ?_)
     rcases o' with r0|sx
     ·dsimp only at hF
      cases hF
      intro st h
      simp -dsimp
      refine lG st (gR _) (hq st h)
     ·dsimp only at hF
      obtain⟨c48,hF⟩:=oc hF
      have w49:i64.wrap ((i:Int)+1)=(i:Int)+1:=ZE (by omega) (by omega)
      refine kx1 w49 ?_
      refine zK ((ih_f31 (i+1) o hF) _ rfl _ hq)
   ·refine kx2 h3 q4 ?_
    obtain⟨o'89,ho88,hF⟩:=ob hF
    refine zM (((CC.f30 B hB1 hB2 w d k i) 0 o'89 ho88) _ rfl _ ?_)
    rcases o'89 with r093|sx90
    ·dsimp only at hF
     cases hF
     intro st h
     simp -dsimp
     refine lG st (gR _) (hq st h)
    ·dsimp only at hF
     obtain⟨c91,hF⟩:=oc hF
     have w92:i64.wrap ((i:Int)+1)=(i:Int)+1:=ZE (by omega) (by omega)
     refine kx1 w92 ?_
     refine zK ((ih_f31 (i+1) o hF) _ rfl _ hq)
  ·cases hF
   refine kx1 q2 ?_
   refine zL hq
theorem C.f32 (w:List zO)(d:Int)(k:Int)(r:Bool)(hF:F.f32 w d k=some r):PureCall Try.prog B 59 [am zP w,li d,li k] (.lit (.bool r)):=by
 unfold F.f32 at hF
 refine zH Try.func59 rfl Try.ntmps59 ?_
 refine kx0 ?_
 obtain⟨o'95,ho94,hF⟩:=ob hF
 refine zM (((CC.f31 B hB1 hB2 w d k) 0 o'95 ho94) _ rfl _ ?_)
 rcases o'95 with r097|sx96
 ·dsimp only at hF
  cases hF
  intro st h
  simpa using h
 ·dsimp only at hF
  cases hF
  exact kc0
theorem CC.f33 (w:List zO)(d:Nat):(∀(k:Nat) (o:Lo Bool Unit),F.f33 w d k=some o->∀(c:Code),Zo [1,1,0,1,0,0,1,0,0,1,1,0,0] (ZK Try.f40)=some c->∀(Q:Exit->ASt->Prop),o.post (fun r=>∀st,ZAK Try.prog Try.f40 (fun r' _=>r'.le (.lit (.bool r))) .ret st->Q .ret st) (fun s=>Q (.exit 2) ⟨[(0,am zP w),(3,li (d:Int))],[]⟩)->ALoopU Try.prog B 0 67 (hold c .mk) ⟨[(0,am zP w),(3,li (d:Int)),(4,li (k:Int))],[]⟩ (hold Q .mk)):=by
 refine F.f33.partial_correctness w d
  _
  ?_
 ·intro _f_f33 ih_f33 k o hF
  refine ZN rfl fun Q hq hk hs=> ?_
  have b0:=hk 0
  simp -dsimp at b0
  clear hk hs
  refine eN ?_
  apply oB hF;intro x17 e18 hF
  have le18:=ZD e18
  refine kdd e18 ?_
  revert hF;refine aS ?_ ?_<;>intro h19 q20 hF
  ·have z21:((k:Int)<(x17.ctors.length:Int)):=auz
   apply oB hF;intro x22 e23 hF
   have le23:=ZD e23
   repeat first|refine cg ?_|simp -dsimp[↓e18,h19,z21,↓e23]
   apply oB hF;intro v24 e25 hF
   refine((C.f28 B hB1 hB2 (w.length:Int) x22 v24 e25)).goI ?_
   repeat first|refine cg ?_|simp -dsimp[↓e18,h19,z21,↓e23]
   revert hF;refine aS (fun h26 q27 hF=> ?_) (fun h26 q27 hF=> ?_)
   ·repeat first|refine cg ?_|simp -dsimp[↓e18,h19,z21,↓e23,h26]
    apply oB hF;intro v28 e29 hF
    refine((C.f32 B hB1 hB2 w (d:Int) (k:Int) v28 e29)).goI ?_
    repeat first|refine cg ?_|simp -dsimp[↓e18,h19,z21,↓e23,h26]
    revert hF;refine aS (fun h30 q31 hF=> ?_) (fun h30 q31 hF=> ?_)
    ·cases hF
     repeat first|refine cg ?_|simp -dsimp[↓e18,h19,z21,↓e23,h26,h30]
     refine lG _ (gR _) (hq _ ?_)
     repeat first|refine cg ?_|simp -dsimp[↓e18,h19,z21,↓e23,h26,h30]
    ·apply oC hF;intro c32 hF
     have w33:i64.wrap ((k:Int)+1)=(k:Int)+1:=ZE (by omega) (by omega)
     repeat first|refine cg ?_|simp -dsimp[↓e18,h19,z21,↓e23,h26,h30,q31,w33]
     refine zK ((ih_f33 (k+1) o hF) _ rfl _ hq)
   ·cases hF
    repeat first|refine cg ?_|simp -dsimp[↓e18,h19,z21,↓e23,h26,q27]
    refine lG _ (gR _) (hq _ ?_)
    repeat first|refine cg ?_|simp -dsimp[↓e18,h19,z21,↓e23,h26,q27]
  ·have z21:¬((k:Int)<(x17.ctors.length:Int)):=auz
   cases hF
   repeat first|refine cg ?_|simp -dsimp[↓e18,h19,q20,z21]
   refine zL hq
theorem CC.f34 (w:List zO):(∀(d:Nat) (o:Lo Bool Unit),F.f34 w d=some o->∀(c:Code),Zo [1,1,0,1,0,0] (ZK Try.f40)=some c->∀(Q:Exit->ASt->Prop),o.post (fun r=>∀st,ZAK Try.prog Try.f40 (fun r' _=>r'.le (.lit (.bool r))) .ret st->Q .ret st) (fun s=>Q (.exit 0) ⟨[],[]⟩)->ALoopU Try.prog B 0 67 (hold c .mk) ⟨[(0,am zP w),(3,li (d:Int))],[]⟩ (hold Q .mk)):=by
 refine F.f34.partial_correctness w
  _
  ?_
 ·intro _f_f34 ih_f34 d o hF
  refine ZN rfl fun Q hq hk hs=> ?_
  have b0:=hk 0
  simp -dsimp at b0
  clear hk hs
  refine eN ?_
  revert hF;refine kS ?_ ?_<;>intro h4 q5 hF
  ·have z6:((d:Int)<(w.length:Int)):=auz
   obtain⟨x,e7,hF⟩:=ob hF
   have le7:=ZD e7
   refine Zn h4 z6 e7 ?_
   obtain⟨v,e8,hF⟩:=ob hF
   refine((C.f23 B hB1 hB2 x.name v e8)).goI ?_
   refine Zn h4 z6 e7 ?_
   revert hF;refine aS (fun h9 q10 hF=> ?_) (fun h9 q10 hF=> ?_)
   ·repeat first|refine cg ?_|simp -dsimp[h4,z6,↓e7,h9]
    revert hF;refine aN ?_ ?_<;>intro h11 q12 hF
    ·have z13:¬((x.ctors.length:Int)=0):=auz
     repeat first|refine cg ?_|simp -dsimp[h4,z6,↓e7,h9,h11,q12,z13]
     revert hF;refine aS ?_ ?_<;>intro h14 q15 hF
     ·have z16:(4<(x.ctors.length:Int)):=auz
      cases hF
      repeat first|refine cg ?_|simp -dsimp[h4,z6,↓e7,h9,h11,q12,z13,h14,z16]
      refine lG _ (gR _) (hq _ ?_)
      repeat first|refine cg ?_|simp -dsimp[h4,z6,↓e7,h9,h11,q12,z13,h14,z16]
     ·have z16:¬(4<(x.ctors.length:Int)):=auz
      repeat first|refine cg ?_|simp -dsimp[h4,z6,↓e7,h9,h11,q12,z13,h14,q15,z16]
      obtain⟨o',ho34,hF⟩:=ob hF
      refine zM (((CC.f33 B hB1 hB2 w d) 0 o' ho34) _ rfl _ ?_)
      rcases o' with r0|sx
      ·dsimp only at hF
       cases hF
       intro st h
       simp -dsimp
       refine lG st (gR _) (hq st h)
      ·dsimp only at hF
       obtain⟨c35,hF⟩:=oc hF
       have w36:i64.wrap ((d:Int)+1)=(d:Int)+1:=ZE (by omega) (by omega)
       refine kx1 w36 ?_
       refine zK ((ih_f34 (d+1) o hF) _ rfl _ hq)
    ·have z13:((x.ctors.length:Int)=0):=auz
     cases hF
     repeat first|refine cg ?_|simp -dsimp[h4,z6,↓e7,h9,h11,q12,z13]
     refine lG _ (gR _) (hq _ ?_)
     repeat first|refine cg ?_|simp -dsimp[h4,z6,↓e7,h9,h11,q12,z13]
   ·cases hF
    repeat first|refine cg ?_|simp -dsimp[h4,z6,↓e7,h9,q10]
    refine lG _ (gR _) (hq _ ?_)
    repeat first|refine cg ?_|simp -dsimp[h4,z6,↓e7,h9,q10]
  ·have z6:¬((d:Int)<(w.length:Int)):=auz
   cases hF
   refine kx3 h4 q5 z6 ?_
   refine zL hq
theorem C.f35 (w:List zO)(r:Bool)(hF:F.f35 w=some r):PureCall Try.prog B 40 [am zP w] (.lit (.bool r)):=by
 unfold F.f35 at hF
 refine zH Try.func40 rfl Try.ntmps40 ?_
 revert hF;refine kS ?_ ?_<;>intro h1 q2 hF
 ·have z3:(4<(w.length:Int)):=auz
  cases hF
  exact kc2 h1 z3
 ·have z3:¬(4<(w.length:Int)):=auz
  refine kx3 h1 q2 z3 ?_
  obtain⟨o'38,ho37,hF⟩:=ob hF
  refine zM (((CC.f34 B hB1 hB2 w) 0 o'38 ho37) _ rfl _ ?_)
  rcases o'38 with r040|sx39
  ·dsimp only at hF
   cases hF
   intro st h
   simpa using h
  ·dsimp only at hF
   cases hF
   exact kc0
theorem C.f36 (w:List zO)(t:Ty)(r:Bool)(hF:F.f36 w t=some r):PureCall Try.prog B 41 [am zP w,.agg [li t.data,li t.index]] (.lit (.bool r)):=by
 unfold F.f36 at hF
 refine zH Try.func41 rfl Try.ntmps41 ?_
 refine kB hF fun v e1 hF=> ?_
 refine((C.f26 B hB1 hB2 (w.length:Int) t v e1)).goI ?_
 revert hF;refine kS (fun h2 q3 hF=> ?_) (fun h2 q3 hF=> ?_)
 ·cases hF
  exact kc1 h2
 ·cases hF
  exact kc1 q3
theorem C.f37 (w:List zO)(t:Ty)(r:Bool)(hF:F.f37 w t=some r):PureCall Try.prog B 26 [am zP w,.agg [li t.data,li t.index]] (.lit (.bool r)):=by
 unfold F.f37 at hF
 refine zH Try.func26 rfl Try.ntmps26 ?_
 refine kB hF fun v e1 hF=> ?_
 refine((C.f35 B hB1 hB2 w v e1)).goI ?_
 revert hF;refine kS (fun h2 q3 hF=> ?_) (fun h2 q3 hF=> ?_)
 ·refine kx1 h2 ?_
  apply oB hF;intro v4 e5 hF
  refine((C.f36 B hB1 hB2 w t v4 e5)).goI ?_
  cases hF
  exact kc1 h2
 ·cases hF
  exact kc2 h2 q3
theorem C.f38 (c':Ctor)(index':Int)(r:Bool)(hF:F.f38 c' index'=some r):PureCall Try.prog B 47 [.agg [.lit (.string c'.name),am zG c'.args,li c'.index],li index'] (.lit (.bool r)):=by
 unfold F.f38 at hF
 refine zH Try.func47 rfl Try.ntmps47 ?_
 revert hF;refine kN ?_ ?_<;>intro h1 q2 hF
 ·refine kx2 h1 q2 ?_
  revert hF;refine aN ?_ ?_<;>intro h3 q4 hF
  ·cases hF
   exact kc4 h1 q2 h3 q4
  ·cases hF
   repeat first|refine cg ?_|simp -dsimp[h1,q2,eq_true h3,eq_true q4]
 ·cases hF
  exact kc2 h1 q2
theorem CC.f39 (w:List zO)(t:Ty):(∀(out:List Int) (k:Nat) (o:List Int),F.f39 w t out k=some o->∀(c:Code),Zo [1,1,1,0,1,0,0] (ZK Try.f30)=some c->∀(Q:Exit->ASt->Prop),(Q (.exit 0) ⟨[(5,.own 1 (zA (α:=Int) o))],[.dead,.elems 1 (zB cI o)]⟩)->ALoopU Try.prog B 0 40 (hold c .mk) ⟨[(0,am zP w),(3,.ptr 0 0),(5,.own 1 (zA (α:=Int) out)),(6,li (k:Int))],[.cells [li t.data,li t.index],.elems 1 (zB cI out)]⟩ (hold Q .mk)):=by
 refine F.f39.partial_correctness w t
  _
  ?_
 ·intro _f_f39 ih_f39 out k o hF
  refine ZN rfl fun Q hq hk hs=> ?_
  have b0:=hk 0
  simp -dsimp at b0
  have d1:=hs 1 _ rfl
  simp -dsimp[zT]at d1
  clear hk hs
  refine eN ?_
  apply oB hF;intro x e3a hF
  have e3a:=Zl e3a;obtain⟨ne3,e3⟩:=e3a
  have le3:=ZD e3
  refine kdd e3 ?_
  revert hF;refine aS ?_ ?_<;>intro h4 q5 hF
  ·have z6:((k:Int)<(x.ctors.length:Int)):=auz
   refine ZNJ e3 h4 z6 ?_
   refine zU follows ?_
   apply oB hF;intro x7 e8 hF
   have le8:=ZD e8
   refine ZFh e3 e8 ?_
   apply oB hF;intro v e9 hF
   refine((C.f38 B hB1 hB2 x7 t.index v e9)).pgoW (by simp_all) (by simp) ?_
   refine ZFh e3 e8 ?_
   revert hF;refine aS (fun h10 q11 hF=> ?_) (fun h10 q11 hF=> ?_)
   ·apply oC hF;intro c12 hF
    apply oC hF;intro c13 hF
    have w14:i64.wrap ((k:Int)+1)=(k:Int)+1:=ZE (by omega) (by omega)
    repeat first|refine cg ?_|simp -dsimp[↓e3,↓e8,h10,w14]
    refine zK ((ih_f39 (out++[(k:Int)]) (k+1) o hF) _ rfl _ hq)
   ·apply oC hF;intro c15 hF
    have w16:i64.wrap ((k:Int)+1)=(k:Int)+1:=ZE (by omega) (by omega)
    repeat first|refine cg ?_|simp -dsimp[↓e3,↓e8,h10,q11,w16]
    refine zK ((ih_f39 out (k+1) o hF) _ rfl _ hq)
  ·have z6:¬((k:Int)<(x.ctors.length:Int)):=auz
   cases hF
   repeat first|refine cg ?_|simp -dsimp[↓e3,h4,q5,z6]
   refine zL hq
theorem C.f40 (w:List zO)(t:Ty)(r:List Int)(hF:F.f40 w t=some r):PureCall Try.prog B 30 [am zP w,.agg [li t.data,li t.index]] (am cI r):=by
 unfold F.f40 at hF
 refine zH Try.func30 rfl Try.ntmps30 ?_
 revert hF;refine kS ?_ ?_<;>intro h1 q2 hF
 ·cases hF
  exact kc1 h1
 ·refine kx1 q2 ?_
  apply oB hF;intro o' ho17 hF
  refine zM (((CC.f39 B hB1 hB2 w t) [] 0 o' ho17) _ rfl _ ?_)
  cases hF
  exact kc0
theorem CC.f41 (list:List Int)(n:Int):(∀(i:Nat) (o:Lo Bool Unit),F.f41 list n i=some o->∀(c:Code),Zo [1,0,1,0,0] (ZK Try.f77)=some c->∀(Q:Exit->ASt->Prop),o.post (fun r=>∀st,ZAK Try.prog Try.f77 (fun r' _=>r'.le (.lit (.bool r))) .ret st->Q .ret st) (fun s=>Q (.exit 0) ⟨[],[]⟩)->ALoopU Try.prog B 0 18 (hold c .mk) ⟨[(0,am cI list),(1,li n),(5,li (i:Int))],[]⟩ (hold Q .mk)):=by
 refine F.f41.partial_correctness list n
  _
  ?_
 ·intro _f_f41 ih_f41 i o hF
  refine ZN rfl fun Q hq hk hs=> ?_
  have b0:=hk 0
  simp -dsimp at b0
  clear hk hs
  refine eN ?_
  revert hF;refine kS ?_ ?_<;>intro h1 q2 hF
  ·have z3:((i:Int)<(list.length:Int)):=auz
   apply oB hF;intro x e4 hF
   have le4:=ZD e4
   refine Zn h1 z3 e4 ?_
   revert hF;refine aS ?_ ?_<;>intro h5 q6 hF
   ·cases hF
    refine kx1 h5 ?_
    refine lG _ (gR _) (hq _ ?_)
    exact kc0
   ·have w7:i64.wrap ((i:Int)+1)=(i:Int)+1:=ZE (by omega) (by omega)
    refine kx2 q6 w7 ?_
    refine zK ((ih_f41 (i+1) o hF) _ rfl _ hq)
  ·have z3:¬((i:Int)<(list.length:Int)):=auz
   cases hF
   refine kx3 h1 q2 z3 ?_
   refine zL hq
theorem C.f42 (list:List Int)(n:Int)(r:Bool)(hF:F.f42 list n=some r):PureCall Try.prog B 77 [am cI list,li n] (.lit (.bool r)):=by
 unfold F.f42 at hF
 refine zH Try.func77 rfl Try.ntmps77 ?_
 refine kB hF fun o' ho8 hF=> ?_
 refine zM (((CC.f41 B hB1 hB2 list n) 0 o' ho8) _ rfl _ ?_)
 rcases o' with r0|sx
 ·dsimp only at hF
  cases hF
  intro st h
  simpa using h
 ·dsimp only at hF
  cases hF
  exact kc0
theorem C.f43 (w:List zO)(t:Ty)(p:Pattern)(r:Bool)(hF:F.f43 w t p=some r):PureCall Try.prog B 61 [am zP w,.agg [li t.data,li t.index],.agg [li p.op,li p.ctor,li p.n,li p.m,li p.var,am zR p.kids]] (.lit (.bool r)):=by
 unfold F.f43 at hF
 refine zH Try.func61 rfl Try.ntmps61 ?_
 revert hF;refine kN ?_ ?_<;>intro h1 q2 hF
 ·refine kx2 h1 q2 ?_
  revert hF;refine aS ?_ ?_<;>intro h3 q4 hF
  ·refine kx3 h1 q2 h3 ?_
   revert hF;refine aN ?_ ?_<;>intro h5 q6 hF
   ·refine kx5 h1 q2 h3 h5 q6 ?_
    revert hF;refine aN ?_ ?_<;>intro h7 q8 hF
    ·have n9:¬(p.op=3):=by omega
     refine kx8 h1 q2 h3 h5 q6 h7 q8 n9 ?_
     revert hF;refine aS ?_ ?_<;>intro h10 q11 hF
     ·refine kx9 h1 q2 h3 h5 q6 h7 q8 n9 h10 ?_
      revert hF;refine aS ?_ ?_<;>intro h12 q13 hF
      ·have n14:¬(p.op=4):=by omega
       repeat first|refine cg ?_|simp -dsimp[h1,q2,h3,h5,q6,h7,q8,n9,h10,h12,n14]
       revert hF;refine aN ?_ ?_<;>intro h15 q16 hF
       ·cases hF
        repeat first|refine cg ?_|simp -dsimp[h1,q2,h3,h5,q6,h7,q8,n9,h10,h12,n14,h15,q16]
       ·have n17:¬(p.op=1):=by omega
        have n18:¬(p.op=5):=by omega
        cases hF
        repeat first|refine cg ?_|simp -dsimp[h1,q2,h3,h5,q6,h7,q8,n9,h10,h12,n14,h15,q16,n17,n18]
      ·cases hF
       repeat first|refine cg ?_|simp -dsimp[h1,q2,h3,h5,q6,h7,q8,n9,h10,h12,q13]
     ·cases hF
      repeat first|refine cg ?_|simp -dsimp[h1,q2,h3,h5,q6,h7,q8,n9,h10,q11]
    ·cases hF
     exact kc7 h1 q2 h3 h5 q6 h7 q8
   ·cases hF
    exact kc5 h1 q2 h3 h5 q6
  ·refine kx4 h1 q2 h3 q4 ?_
   revert hF;refine aN ?_ ?_<;>intro h19 q20 hF
   ·cases hF
    exact kc6 h1 q2 h3 q4 h19 q20
   ·refine kx6 h1 q2 h3 q4 h19 q20 ?_
    revert hF;refine aN ?_ ?_<;>intro h21 q22 hF
    ·refine kx8 h1 q2 h3 q4 h19 q20 h21 q22 ?_
     revert hF;refine aS ?_ ?_<;>intro h23 q24 hF
     ·refine kx9 h1 q2 h3 q4 h19 q20 h21 q22 h23 ?_
      revert hF;refine aS ?_ ?_<;>intro h25 q26 hF
      ·repeat first|refine cg ?_|simp -dsimp[h1,q2,h3,q4,h19,q20,h21,q22,h23,h25]
       revert hF;refine aN ?_ ?_<;>intro h27 q28 hF
       ·repeat first|refine cg ?_|simp -dsimp[h1,q2,h3,q4,h19,q20,h21,q22,h23,h25,h27,q28]
        revert hF;refine aN ?_ ?_<;>intro h29 q30 hF
        ·cases hF
         repeat first|refine cg ?_|simp -dsimp[h1,q2,h3,q4,h19,q20,h21,q22,h23,h25,h27,q28,h29,q30]
        ·repeat first|refine cg ?_|simp -dsimp[h1,q2,h3,q4,h19,q20,h21,q22,h23,h25,h27,q28,h29,q30]
         revert hF;refine aS ?_ ?_<;>intro h31 q32 hF
         ·cases hF
          repeat first|refine cg ?_|simp -dsimp[h1,q2,h3,q4,h19,q20,h21,q22,h23,h25,h27,q28,h29,q30,h31]
         ·repeat first|refine cg ?_|simp -dsimp[h1,q2,h3,q4,h19,q20,h21,q22,h23,h25,h27,q28,h29,q30,h31,q32]
          revert hF;refine aS ?_ ?_<;>intro h33 q34 hF
          ·cases hF
           repeat first|refine cg ?_|simp -dsimp[h1,q2,h3,q4,h19,q20,h21,q22,h23,h25,h27,q28,h29,q30,h31,q32,h33]
          ·cases hF
           repeat first|refine cg ?_|simp -dsimp[h1,q2,h3,q4,h19,q20,h21,q22,h23,h25,h27,q28,h29,q30,h31,q32,h33,q34]
       ·have n35:¬(p.op=1):=by omega
        have n36:¬(p.op=5):=by omega
        repeat first|refine cg ?_|simp -dsimp[h1,q2,h3,q4,h19,q20,h21,q22,h23,h25,h27,q28,n35,n36]
        refine zU follows ?_
        repeat first|refine cg ?_|simp -dsimp[h1,q2,h3,q4,h19,q20,h21,q22,h23,h25,h27,q28,n35,n36]
        apply oB hF;intro v e37 hF
        refine((C.f40 B hB1 hB2 w t v e37)).pgoW (by simp[h1,q2,h3,q4,h19,q20,h21,q22,h23,h25,h27,q28,n35,n36]) (by simp) ?_
        repeat first|refine cg ?_|simp -dsimp[h1,q2,h3,q4,h19,q20,h21,q22,h23,h25,h27,q28,n35,n36]
        apply oB hF;intro v38 e39 hF
        refine((C.f42 B hB1 hB2 v p.ctor v38 e39)).pgoW (by simp[h1,q2,h3,q4,h19,q20,h21,q22,h23,h25,h27,q28,n35,n36]) (by simp) ?_
        cases hF
        repeat first|refine cg ?_|simp -dsimp[h1,q2,h3,q4,h19,q20,h21,q22,h23,h25,h27,q28,n35,n36]
      ·cases hF
       repeat first|refine cg ?_|simp -dsimp[h1,q2,h3,q4,h19,q20,h21,q22,h23,h25,q26]
     ·cases hF
      repeat first|refine cg ?_|simp -dsimp[h1,q2,h3,q4,h19,q20,h21,q22,h23,q24]
    ·have n40:¬(p.op=4):=by omega
     refine kx9 h1 q2 h3 q4 h19 q20 h21 q22 n40 ?_
     revert hF;refine aN ?_ ?_<;>intro h41 q42 hF
     ·cases hF
      repeat first|refine cg ?_|simp -dsimp[h1,q2,h3,q4,h19,q20,h21,q22,n40,h41,q42]
     ·have n43:¬(p.op=1):=by omega
      have n44:¬(p.op=5):=by omega
      repeat first|refine cg ?_|simp -dsimp[h1,q2,h3,q4,h19,q20,h21,q22,n40,h41,q42,n43,n44]
      revert hF;refine aS ?_ ?_<;>intro h45 q46 hF
      ·repeat first|refine cg ?_|simp -dsimp[h1,q2,h3,q4,h19,q20,h21,q22,n40,h41,q42,n43,n44,h45]
       revert hF;refine aS ?_ ?_<;>intro h47 q48 hF
       ·repeat first|refine cg ?_|simp -dsimp[h1,q2,h3,q4,h19,q20,h21,q22,n40,h41,q42,n43,n44,h45,h47]
        revert hF;refine aS ?_ ?_<;>intro h49 q50 hF
        ·cases hF
         repeat first|refine cg ?_|simp -dsimp[h1,q2,h3,q4,h19,q20,h21,q22,n40,h41,q42,n43,n44,h45,h47,h49]
        ·cases hF
         repeat first|refine cg ?_|simp -dsimp[h1,q2,h3,q4,h19,q20,h21,q22,n40,h41,q42,n43,n44,h45,h47,h49,q50]
       ·cases hF
        repeat first|refine cg ?_|simp -dsimp[h1,q2,h3,q4,h19,q20,h21,q22,n40,h41,q42,n43,n44,h45,h47,q48]
      ·cases hF
       repeat first|refine cg ?_|simp -dsimp[h1,q2,h3,q4,h19,q20,h21,q22,n40,h41,q42,n43,n44,h45,q46]
 ·refine kx2 h1 q2 ?_
  revert hF;refine aN ?_ ?_<;>intro h51 q52 hF
  ·refine kx4 h1 q2 h51 q52 ?_
   revert hF;refine aN ?_ ?_<;>intro h53 q54 hF
   ·have n55:¬(p.op=3):=by omega
    refine kx7 h1 q2 h51 q52 h53 q54 n55 ?_
    revert hF;refine aS ?_ ?_<;>intro h56 q57 hF
    ·refine kx8 h1 q2 h51 q52 h53 q54 n55 h56 ?_
     revert hF;refine aS ?_ ?_<;>intro h58 q59 hF
     ·have n60:¬(p.op=4):=by omega
      repeat first|refine cg ?_|simp -dsimp[h1,q2,h51,q52,h53,q54,n55,h56,h58,n60]
      revert hF;refine aN ?_ ?_<;>intro h61 q62 hF
      ·cases hF
       repeat first|refine cg ?_|simp -dsimp[h1,q2,h51,q52,h53,q54,n55,h56,h58,n60,h61,q62]
      ·have n63:¬(p.op=1):=by omega
       cases hF
       repeat first|refine cg ?_|simp -dsimp[h1,q2,h51,q52,h53,q54,n55,h56,h58,n60,h61,q62,n63]
     ·cases hF
      repeat first|refine cg ?_|simp -dsimp[h1,q2,h51,q52,h53,q54,n55,h56,h58,q59]
    ·cases hF
     exact kc9 h1 q2 h51 q52 h53 q54 n55 h56 q57
   ·cases hF
    exact kc6 h1 q2 h51 q52 h53 q54
  ·cases hF
   exact kc4 h1 q2 h51 q52
theorem C.f44 (c':Ctor)(index':Int)(r:Int)(hF:F.f44 c' index'=some r):PureCall Try.prog B 46 [.agg [.lit (.string c'.name),am zG c'.args,li c'.index],li index'] (li r):=by
 unfold F.f44 at hF
 refine zH Try.func46 rfl Try.ntmps46 ?_
 revert hF;refine kS ?_ ?_<;>intro h1 q2 hF
 ·cases hF
  exact kc1 h1
 ·cases hF
  exact kc1 q2
theorem CC.f45 (t:Ty)(x2:Ctor):(∀(out:List Ty) (i:Nat) (o:List Ty),F.f45 t x2 out i=some o->∀(c:Code),Zo [1,1,1,0,1,0,0] (ZK Try.f29)=some c->∀(Q:Exit->ASt->Prop),(Q (.exit 0) ⟨[(7,.own 1 (zA (α:=Ty) o))],[.dead,.elems 2 (zB zG o)]⟩)->ALoopU Try.prog B 0 46 (hold c .mk) ⟨[(4,.ptr 0 0),(7,.own 1 (zA (α:=Ty) out)),(8,.ptr 2 0),(9,li (i:Int))],[.cells [li t.data,li t.index],.elems 2 (zB zG out),.cells [.lit (.string x2.name),am zG x2.args,li x2.index]]⟩ (hold Q .mk)):=by
 refine F.f45.partial_correctness t x2
  _
  ?_
 ·intro _f_f45 ih_f45 out i o hF
  refine ZN rfl fun Q hq hk hs=> ?_
  have d1:=hs 1 _ rfl
  simp -dsimp[zT]at d1
  have d2:=hs 2 _ rfl
  simp -dsimp[zT]at d2
  clear hk hs
  refine eN ?_
  revert hF;refine kS ?_ ?_<;>intro h4 q5 hF
  ·have z6:((i:Int)<(x2.args.length:Int)):=auz
   apply oB hF;intro x7 e8 hF
   have le8:=ZD e8
   refine Zn h4 z6 e8 ?_
   revert hF;refine aS ?_ ?_<;>intro h9 q10 hF
   ·refine kx1 h9 ?_
    apply oB hF;intro v e11 hF
    refine((C.f44 B hB1 hB2 x2 t.index v e11)).goI ?_
    apply oC hF;intro c12 hF
    have w13:i64.wrap ((i:Int)+1)=(i:Int)+1:=ZE (by omega) (by omega)
    refine kx1 w13 ?_
    refine zK ((ih_f45 (out++[(⟨x7.data,v⟩:Ty)]) (i+1) o hF) _ rfl _ hq)
   ·apply oC hF;intro c14 hF
    have w15:i64.wrap ((i:Int)+1)=(i:Int)+1:=ZE (by omega) (by omega)
    refine kx2 q10 w15 ?_
    refine zK ((ih_f45 (out++[x7]) (i+1) o hF) _ rfl _ hq)
  ·have z6:¬((i:Int)<(x2.args.length:Int)):=auz
   cases hF
   refine kx3 h4 q5 z6 ?_
   refine zL hq
theorem C.f46 (w:List zO)(t:Ty)(ctor:Int)(r:List Ty)(hF:F.f46 w t ctor=some r):PureCall Try.prog B 29 [am zP w,.agg [li t.data,li t.index],li ctor] (am zG r):=by
 unfold F.f46 at hF
 refine zH Try.func29 rfl Try.ntmps29 ?_
 apply oB hF;intro x e1a hF
 have e1a:=Zl e1a;obtain⟨ne1,e1⟩:=e1a
 have le1:=ZD e1
 apply oB hF;intro x2 e3a hF
 have e3a:=Zl e3a;obtain⟨ne3,e3⟩:=e3a
 have le3:=ZD e3
 refine ZFh e1 e3 ?_
 apply oB hF;intro o' ho16 hF
 refine zM (((CC.f45 B hB1 hB2 t x2) [] 0 o' ho16) _ rfl _ ?_)
 cases hF
 exact kc0
theorem C.f47 (op:Int)(r:Int)(hF:F.f47 op=some r):PureCall Try.prog B 78 [li op] (li r):=by
 unfold F.f47 at hF
 refine zH Try.func78 rfl Try.ntmps78 ?_
 revert hF;refine kS ?_ ?_<;>intro h1 q2 hF
 ·cases hF
  repeat first|refine cg ?_|simp -dsimp[eq_true h1]
 ·refine kx2 h1 q2 ?_
  revert hF;refine aS ?_ ?_<;>intro h3 q4 hF
  ·cases hF
   repeat first|refine cg ?_|simp -dsimp[eq_true h3]
  ·refine kx2 h3 q4 ?_
   revert hF;refine aS ?_ ?_<;>intro h5 q6 hF
   ·cases hF
    repeat first|refine cg ?_|simp -dsimp[eq_true h5]
   ·cases hF
    exact kc2 h5 q6
theorem CC.f48 (t:Ty)(p:Pattern):(∀(out:List Ty) (i:Nat) (o:List Ty),F.f48 t p out i=some o->∀(c:Code),Zo [1,1,1,0,1,0,0] (ZK Try.f62)=some c->∀(Q:Exit->ASt->Prop),(Q (.exit 0) ⟨[(7,.own 2 (zA (α:=Ty) o))],[.dead,.dead,.elems 2 (zB zG o)]⟩)->ALoopU Try.prog B 0 30 (hold c .mk) ⟨[(4,.ptr 0 0),(5,.ptr 1 0),(7,.own 2 (zA (α:=Ty) out)),(8,li (i:Int))],[.cells [li t.data,li t.index],.cells [li p.op,li p.ctor,li p.n,li p.m,li p.var,am zR p.kids],.elems 2 (zB zG out)]⟩ (hold Q .mk)):=by
 refine F.f48.partial_correctness t p
  _
  ?_
 ·intro _f_f48 ih_f48 out i o hF
  refine ZN rfl fun Q hq hk hs=> ?_
  have d1:=hs 1 _ rfl
  simp -dsimp[zT]at d1
  have d2:=hs 2 _ rfl
  simp -dsimp[zT]at d2
  clear hk hs
  refine eN ?_
  refine kB hF fun v4 e5 hF=> ?_
  refine((C.f47 B hB1 hB2 p.op v4 e5)).goI ?_
  revert hF;refine kS ?_ ?_<;>intro h6 q7 hF
  ·apply oC hF;intro c8 hF
   apply oC hF;intro c9 hF
   have w10:i64.wrap ((i:Int)+1)=(i:Int)+1:=ZE (by omega) (by omega)
   refine kx2 h6 w10 ?_
   refine zK ((ih_f48 (out++[t]) (i+1) o hF) _ rfl _ hq)
  ·cases hF
   refine kx2 h6 q7 ?_
   refine zL hq
theorem C.f49 (w:List zO)(t:Ty)(p:Pattern)(r:List Ty)(hF:F.f49 w t p=some r):PureCall Try.prog B 62 [am zP w,.agg [li t.data,li t.index],.agg [li p.op,li p.ctor,li p.n,li p.m,li p.var,am zR p.kids]] (am zG r):=by
 unfold F.f49 at hF
 refine zH Try.func62 rfl Try.ntmps62 ?_
 revert hF;refine kS ?_ ?_<;>intro h1 q2 hF
 ·refine kx1 h1 ?_
  apply oB hF;intro v e3 hF
  refine((C.f46 B hB1 hB2 w t p.ctor v e3)).goI ?_
  cases hF
  exact kc0
 ·refine kx1 q2 ?_
  apply oB hF;intro o' ho11 hF
  refine zM (((CC.f48 B hB1 hB2 t p) [] 0 o' ho11) _ rfl _ ?_)
  cases hF
  exact kc0
theorem CC.f50 (w:List zO):(∀(t:Ty) (p:Pattern) (depth:Int) (r:Bool),F.f50 w t p depth=some r->PureCall Try.prog B 42 [am zP w,.agg [li t.data,li t.index],.agg [li p.op,li p.ctor,li p.n,li p.m,li p.var,am zR p.kids],li depth] (.lit (.bool r)))/\
  (∀(p:Pattern) (depth:Int) (v6:List Ty) (i:Nat) (o:Lo Bool Unit),F.f51 w p depth v6 i=some o->∀(c:Code),Zo [1,1,1,1,0,1,0,0] (ZK Try.f42)=some c->∀(Q:Exit->ASt->Prop),o.post (fun r=>∀st,ZAK Try.prog Try.f42 (fun r' _=>r'.le (.lit (.bool r))) .ret st->Q .ret st) (fun s=>Q (.exit 0) ⟨[],[]⟩)->ALoopU Try.prog B 0 50 (hold c .mk) ⟨[(0,am zP w),(3,li depth),(6,.ptr 1 0),(9,am zG v6),(10,li (i:Int))],[.dead,.cells [li p.op,li p.ctor,li p.n,li p.m,li p.var,am zR p.kids]]⟩ (hold Q .mk)):=by
 refine F.f50.mutual_partial_correctness w
  _ _
  ?_ ?_
 ·intro _f_f51 ih_f51 t p depth r hF
  refine zH Try.func42 rfl Try.ntmps42 ?_
  revert hF;refine kN ?_ ?_<;>intro h1 q2 hF
  ·refine kx2 h1 q2 ?_
   apply oB hF;intro v e3 hF
   refine((C.f43 B hB1 hB2 w t p v e3)).goI ?_
   refine kx2 h1 q2 ?_
   revert hF;refine aN (fun h4 q5 hF=> ?_) (fun h4 q5 hF=> ?_)
   ·cases hF
    exact kc4 h1 q2 h4 q5
   ·refine kx4 h1 q2 h4 q5 ?_
    apply oB hF;intro v6 e7 hF
    refine((C.f49 B hB1 hB2 w t p v6 e7)).goI ?_
    refine kx4 h1 q2 h4 q5 ?_
    revert hF;refine aN ?_ ?_<;>intro h8 q9 hF
    ·have z10:¬((p.kids.length:Int)=(v6.length:Int)):=auz
     cases hF
     exact kc7 h1 q2 h4 q5 h8 q9 z10
    ·have z10:((p.kids.length:Int)=(v6.length:Int)):=auz
     refine kx7 h1 q2 h4 q5 h8 q9 z10 ?_
     apply oB hF;intro o' ho22 hF
     refine zM ((ih_f51 p depth v6 0 o' ho22) _ rfl _ ?_)
     rcases o' with r0|sx
     ·dsimp only at hF
      cases hF
      intro st h
      simpa using h
     ·dsimp only at hF
      cases hF
      exact kc0
  ·cases hF
   exact kc2 h1 q2
 ·intro _f_f50 _f_f51 ih_f50 ih_f51 p depth v6 i o hF
  refine ZN rfl fun Q hq hk hs=> ?_
  have b0:=hk 0
  simp -dsimp at b0
  have b9:=hk 9
  simp -dsimp at b9
  have d1:=hs 1 _ rfl
  simp -dsimp[zT]at d1
  clear hk hs
  refine eN ?_
  revert hF;refine kS ?_ ?_<;>intro h11 q12 hF
  ·have z13:((i:Int)<(v6.length:Int)):=auz
   refine kx2 h11 z13 ?_
   refine zU follows ?_
   apply oB hF;intro x e14 hF
   have le14:=ZD e14
   apply oB hF;intro x15 e16 hF
   have le16:=ZD e16
   refine ZA1 h11 z13 e14 e16 ?_
   apply oB hF;intro v17 e18 hF
   refine((ih_f50 x x15 (i64.wrap (depth-1)) v17 e18)).pgoW (by simp[h11,z13,↓e14,↓e16]) (by simp) ?_
   refine ZA1 h11 z13 e14 e16 ?_
   revert hF;refine aN (fun h19 q20 hF=> ?_) (fun h19 q20 hF=> ?_)
   ·cases hF
    refine ZAa h11 z13 e14 e16 h19 q20 ?_
    refine lG _ (gR _) (hq _ ?_)
    repeat first|refine cg ?_|simp -dsimp[h11,z13,↓e14,↓e16,h19,q20]
   ·have w21:i64.wrap ((i:Int)+1)=(i:Int)+1:=ZE (by omega) (by omega)
    repeat first|refine cg ?_|simp -dsimp[h11,z13,↓e14,↓e16,h19,q20,w21]
    refine zK ((ih_f51 p depth v6 (i+1) o hF) _ rfl _ hq)
  ·have z13:¬((i:Int)<(v6.length:Int)):=auz
   cases hF
   refine kx3 h11 q12 z13 ?_
   refine zL hq
theorem CC.f52  :(∀(p:Pattern) (most:Int) (r:Int),F.f52 p most=some r->PureCall Try.prog B 43 [.agg [li p.op,li p.ctor,li p.n,li p.m,li p.var,am zR p.kids],li most] (li r))/\
  (∀(p:Pattern) (most:Int) (n:Int) (i:Nat) (o:Int),F.f53 p most n i=some o->∀(c:Code),Zo [1,1,0,1,0,0] (ZK Try.f43)=some c->∀(Q:Exit->ASt->Prop),(Q (.exit 0) ⟨[(5,li o)],[]⟩)->ALoopU Try.prog B 0 31 (hold c .mk) ⟨[(1,li most),(2,.ptr 0 0),(5,li n),(6,li (i:Int))],[.cells [li p.op,li p.ctor,li p.n,li p.m,li p.var,am zR p.kids]]⟩ (hold Q .mk)):=by
 refine F.f52.mutual_partial_correctness 
  _ _
  ?_ ?_
 ·intro _f_f53 ih_f53 p most r hF
  refine zH Try.func43 rfl Try.ntmps43 ?_
  refine kB hF fun o' ho9 hF=> ?_
  refine zM ((ih_f53 p most 1 0 o' ho9) _ rfl _ ?_)
  cases hF
  exact kc0
 ·intro _f_f52 _f_f53 ih_f52 ih_f53 p most n i o hF
  refine ZN rfl fun Q hq hk hs=> ?_
  have d0:=hs 0 _ rfl
  simp -dsimp[zT]at d0
  clear hk hs
  refine eN ?_
  revert hF;refine kS ?_ ?_<;>intro h1 q2 hF
  ·have z3:((i:Int)<(p.kids.length:Int)):=auz
   refine kx2 h1 z3 ?_
   revert hF;refine aS ?_ ?_<;>intro h4 q5 hF
   ·apply oB hF;intro x e6 hF
    have le6:=ZD e6
    refine ZO8 h4 e6 ?_
    apply oB hF;intro v e7 hF
    refine((ih_f52 x (i64.wrap (most-n)) v e7)).goI ?_
    have w8:i64.wrap ((i:Int)+1)=(i:Int)+1:=ZE (by omega) (by omega)
    refine kx1 w8 ?_
    refine zK ((ih_f53 p most (i64.wrap (n+v)) (i+1) o hF) _ rfl _ hq)
   ·cases hF
    refine kx2 h4 q5 ?_
    refine zL hq
  ·have z3:¬((i:Int)<(p.kids.length:Int)):=auz
   cases hF
   refine kx3 h1 q2 z3 ?_
   refine zL hq
theorem CC.f54 (w:List zO):(∀(out:List VarType) (t:Ty) (p:Pattern) (r:List VarType),F.f54 out w t p=some r->BCall Try.prog B 64 [.elems 3 (zB zX out)] [.own 0 (zA (α:=VarType) out),am zP w,.agg [li t.data,li t.index],.agg [li p.op,li p.ctor,li p.n,li p.m,li p.var,am zR p.kids]] (.own 0 (zA (α:=VarType) r)) [.elems 3 (zB zX r)])/\
  (∀(p:Pattern) (v30:List Ty) (out32:List VarType) (i33:Nat) (o:List VarType),F.f56 w p v30 out32 i33=some o->∀(c:Code),Zo [1,1,1,0,1,0,0] (ZK Try.f64)=some c->∀(Q:Exit->ASt->Prop),(Q (.exit 0) ⟨[(0,.own 0 (zA (α:=VarType) o))],[.elems 3 (zB zX o)]⟩)->ALoopU Try.prog B 1 58 (hold c .mk) ⟨[(0,.own 0 (zA (α:=VarType) out32)),(1,am zP w),(7,.ptr 2 0),(9,am zG v30),(10,li (i33:Int))],[.elems 3 (zB zX out32),.dead,.cells [li p.op,li p.ctor,li p.n,li p.m,li p.var,am zR p.kids]]⟩ (hold Q .mk))/\
  (∀(p:Pattern) (v:List Ty) (out7:List VarType) (i:Nat) (o:List VarType),F.f55 w p v out7 i=some o->∀(c:Code),Zo [1,1,1,0,1,0,0] (ZK Try.f64)=some c->∀(Q:Exit->ASt->Prop),(Q (.exit 0) ⟨[(0,.own 0 (zA (α:=VarType) o))],[.elems 3 (zB zX o)]⟩)->ALoopU Try.prog B 1 58 (hold c .mk) ⟨[(0,.own 0 (zA (α:=VarType) out7)),(1,am zP w),(7,.ptr 2 0),(9,am zG v),(10,li (i:Int))],[.elems 3 (zB zX out7),.dead,.cells [li p.op,li p.ctor,li p.n,li p.m,li p.var,am zR p.kids]]⟩ (hold Q .mk))/\
  (∀(p:Pattern) (v59:List Ty) (out61:List VarType) (i62:Nat) (o:List VarType),F.f57 w p v59 out61 i62=some o->∀(c:Code),Zo [1,1,1,0,1,0,0] (ZK Try.f64)=some c->∀(Q:Exit->ASt->Prop),(Q (.exit 0) ⟨[(0,.own 0 (zA (α:=VarType) o))],[.elems 3 (zB zX o)]⟩)->ALoopU Try.prog B 1 58 (hold c .mk) ⟨[(0,.own 0 (zA (α:=VarType) out61)),(1,am zP w),(7,.ptr 2 0),(9,am zG v59),(10,li (i62:Int))],[.elems 3 (zB zX out61),.dead,.cells [li p.op,li p.ctor,li p.n,li p.m,li p.var,am zR p.kids]]⟩ (hold Q .mk)):=by
 refine F.f54.mutual_partial_correctness w
  _ _ _ _
  ?_ ?_ ?_ ?_
 ·intro _f_f56 _f_f55 _f_f57 ih_f56 ih_f55 ih_f57 out t p r hF
  refine BCall.enter Try.func64 (by kernel_rfl) rfl Try.ntmps64 (by simp) rfl (by simp) (by simp) (by simp) (by simp) (by simp) (gR _) ?_
  revert hF;refine kN ?_ ?_<;>intro h1 q2 hF
  ·refine kx2 h1 q2 ?_
   revert hF;refine aS ?_ ?_<;>intro h3 q4 hF
   ·apply oC hF;intro c5 hF
    refine kx1 h3 ?_
    apply oB hF;intro v e6 hF
    refine((C.f49 B hB1 hB2 w t p v e6)).goI ?_
    refine kB hF fun o' ho29 hF=> ?_
    refine zM ((ih_f55 p v (out++[(⟨p.var,t⟩:VarType)]) 0 o' ho29) _ rfl _ ?_)
    cases hF
    exact kc0
   ·refine kx1 q4 ?_
    apply oB hF;intro v30 e31 hF
    refine((C.f49 B hB1 hB2 w t p v30 e31)).goI ?_
    refine kB hF fun o'57 ho56 hF=> ?_
    refine zM ((ih_f56 p v30 out 0 o'57 ho56) _ rfl _ ?_)
    cases hF
    exact kc0
  ·apply oC hF;intro c58 hF
   refine kx2 h1 q2 ?_
   apply oB hF;intro v59 e60 hF
   refine((C.f49 B hB1 hB2 w t p v59 e60)).goI ?_
   refine kB hF fun o'86 ho85 hF=> ?_
   refine zM ((ih_f57 p v59 (out++[(⟨p.var,t⟩:VarType)]) 0 o'86 ho85) _ rfl _ ?_)
   cases hF
   exact kc0
 ·intro _f_f54 _f_f56 ih_f54 ih_f56 p v30 out32 i33 o hF
  refine ZN rfl fun Q hq hk hs=> ?_
  have b1:=hk 1
  simp -dsimp at b1
  have b9:=hk 9
  simp -dsimp at b9
  have d0:=hs 0 _ rfl
  simp -dsimp[zT]at d0
  have d2:=hs 2 _ rfl
  simp -dsimp[zT]at d2
  clear hk hs
  refine eN ?_
  revert hF;refine kS ?_ ?_<;>intro h34 q35 hF
  ·have z36:((i33:Int)<(v30.length:Int)):=auz
   refine kx2 h34 z36 ?_
   revert hF;refine aN ?_ ?_<;>intro h37 q38 hF
   ·have z39:¬((i33:Int)=0):=auz
    refine kx5 h34 z36 h37 q38 z39 ?_
    revert hF;refine aN ?_ ?_<;>intro h40 q41 hF
    ·refine kx7 h34 z36 h37 q38 z39 h40 q41 ?_
     refine zW [64] [(0,0),(0,0),(0,0),(0,0),(0,0),(0,0),(0,0),(0,0),(0,0),(0,0),(0,0),(0,1),(1,1)] [1,1,1,1,1,1,1,1,1,1,1,1,1] follows ?_
     apply oB hF;intro x42 e43 hF
     have le43:=ZD e43
     apply oB hF;intro x44 e45 hF
     have le45:=ZD e45
     refine ZFh e43 e45 ?_
     apply oB hF;intro v46 e47 hF
     refine((ih_f54 out32 x42 x44 v46 e47)).ego (pl [0]) (by simp) (by simp) (ZDu _ rfl (by decide)) (by intro i hi hi';simp at hi hi';first|omega|(subst hi';simp[pl])) (by simp[h34,z36,h37,q38,z39,h40,q41,↓e43,↓e45]) (by simp[h34,z36,h37,q38,z39,h40,q41,↓e43,↓e45]) ?_
     have w48:i64.wrap ((i33:Int)+1)=(i33:Int)+1:=ZE (by omega) (by omega)
     refine kx1 w48 ?_
     refine zK ((ih_f56 p v30 v46 (i33+1) o hF) _ rfl _ hq)
    ·cases hF
     refine kx7 h34 z36 h37 q38 z39 h40 q41 ?_
     refine zL hq
   ·have z39:((i33:Int)=0):=auz
    repeat first|refine cg ?_|simp -dsimp[h34,z36,eq_true h37,eq_true q38,eq_true z39]
    refine zW [64] [(0,0),(0,0),(0,0),(0,0),(0,0),(0,0),(0,0),(0,0),(0,0),(0,0),(0,0),(0,1),(1,1)] [1,1,1,1,1,1,1,1,1,1,1,1,1] follows ?_
    apply oB hF;intro x49 e50 hF
    have le50:=ZD e50
    apply oB hF;intro x51 e52 hF
    have le52:=ZD e52
    refine ZFh e50 e52 ?_
    apply oB hF;intro v53 e54 hF
    refine((ih_f54 out32 x49 x51 v53 e54)).ego (pl [0]) (by simp) (by simp) (ZDu _ rfl (by decide)) (by intro i hi hi';simp at hi hi';first|omega|(subst hi';simp[pl])) (by simp[h34,z36,eq_true h37,eq_true q38,eq_true z39,↓e50,↓e52]) (by simp[h34,z36,eq_true h37,eq_true q38,eq_true z39,↓e50,↓e52]) ?_
    have w55:i64.wrap ((i33:Int)+1)=(i33:Int)+1:=ZE (by omega) (by omega)
    refine kx1 w55 ?_
    refine zK ((ih_f56 p v30 v53 (i33+1) o hF) _ rfl _ hq)
  ·have z36:¬((i33:Int)<(v30.length:Int)):=auz
   cases hF
   refine kx3 h34 q35 z36 ?_
   refine zL hq
 ·intro _f_f54 _f_f55 ih_f54 ih_f55 p v out7 i o hF
  refine ZN rfl fun Q hq hk hs=> ?_
  have b1:=hk 1
  simp -dsimp at b1
  have b9:=hk 9
  simp -dsimp at b9
  have d0:=hs 0 _ rfl
  simp -dsimp[zT]at d0
  have d2:=hs 2 _ rfl
  simp -dsimp[zT]at d2
  clear hk hs
  refine eN ?_
  revert hF;refine kS ?_ ?_<;>intro h8 q9 hF
  ·have z10:((i:Int)<(v.length:Int)):=auz
   refine kx2 h8 z10 ?_
   revert hF;refine aN ?_ ?_<;>intro h11 q12 hF
   ·have z13:¬((i:Int)=0):=auz
    refine kx5 h8 z10 h11 q12 z13 ?_
    revert hF;refine aN ?_ ?_<;>intro h14 q15 hF
    ·refine kx7 h8 z10 h11 q12 z13 h14 q15 ?_
     refine zW [64] [(0,0),(0,0),(0,0),(0,0),(0,0),(0,0),(0,0),(0,0),(0,0),(0,0),(0,0),(0,1),(1,1)] [1,1,1,1,1,1,1,1,1,1,1,1,1] follows ?_
     apply oB hF;intro x e16 hF
     have le16:=ZD e16
     apply oB hF;intro x17 e18 hF
     have le18:=ZD e18
     refine ZFh e16 e18 ?_
     apply oB hF;intro v19 e20 hF
     refine((ih_f54 out7 x x17 v19 e20)).ego (pl [0]) (by simp) (by simp) (ZDu _ rfl (by decide)) (by intro i hi hi';simp at hi hi';first|omega|(subst hi';simp[pl])) (by simp[h8,z10,h11,q12,z13,h14,q15,↓e16,↓e18]) (by simp[h8,z10,h11,q12,z13,h14,q15,↓e16,↓e18]) ?_
     have w21:i64.wrap ((i:Int)+1)=(i:Int)+1:=ZE (by omega) (by omega)
     refine kx1 w21 ?_
     refine zK ((ih_f55 p v v19 (i+1) o hF) _ rfl _ hq)
    ·cases hF
     refine kx7 h8 z10 h11 q12 z13 h14 q15 ?_
     refine zL hq
   ·have z13:((i:Int)=0):=auz
    repeat first|refine cg ?_|simp -dsimp[h8,z10,eq_true h11,eq_true q12,eq_true z13]
    refine zW [64] [(0,0),(0,0),(0,0),(0,0),(0,0),(0,0),(0,0),(0,0),(0,0),(0,0),(0,0),(0,1),(1,1)] [1,1,1,1,1,1,1,1,1,1,1,1,1] follows ?_
    apply oB hF;intro x22 e23 hF
    have le23:=ZD e23
    apply oB hF;intro x24 e25 hF
    have le25:=ZD e25
    refine ZFh e23 e25 ?_
    apply oB hF;intro v26 e27 hF
    refine((ih_f54 out7 x22 x24 v26 e27)).ego (pl [0]) (by simp) (by simp) (ZDu _ rfl (by decide)) (by intro i hi hi';simp at hi hi';first|omega|(subst hi';simp[pl])) (by simp[h8,z10,eq_true h11,eq_true q12,eq_true z13,↓e23,↓e25]) (by simp[h8,z10,eq_true h11,eq_true q12,eq_true z13,↓e23,↓e25]) ?_
    have w28:i64.wrap ((i:Int)+1)=(i:Int)+1:=ZE (by omega) (by omega)
    refine kx1 w28 ?_
    refine zK ((ih_f55 p v v26 (i+1) o hF) _ rfl _ hq)
  ·have z10:¬((i:Int)<(v.length:Int)):=auz
   cases hF
   refine kx3 h8 q9 z10 ?_
   refine zL hq
 ·intro _f_f54 _f_f57 ih_f54 ih_f57 p v59 out61 i62 o hF
  refine ZN rfl fun Q hq hk hs=> ?_
  have b1:=hk 1
  simp -dsimp at b1
  have b9:=hk 9
  simp -dsimp at b9
  have d0:=hs 0 _ rfl
  simp -dsimp[zT]at d0
  have d2:=hs 2 _ rfl
  simp -dsimp[zT]at d2
  clear hk hs
  refine eN ?_
  revert hF;refine kS ?_ ?_<;>intro h63 q64 hF
  ·have z65:((i62:Int)<(v59.length:Int)):=auz
   refine kx2 h63 z65 ?_
   revert hF;refine aN ?_ ?_<;>intro h66 q67 hF
   ·have z68:¬((i62:Int)=0):=auz
    refine kx5 h63 z65 h66 q67 z68 ?_
    revert hF;refine aN ?_ ?_<;>intro h69 q70 hF
    ·refine kx7 h63 z65 h66 q67 z68 h69 q70 ?_
     refine zW [64] [(0,0),(0,0),(0,0),(0,0),(0,0),(0,0),(0,0),(0,0),(0,0),(0,0),(0,0),(0,1),(1,1)] [1,1,1,1,1,1,1,1,1,1,1,1,1] follows ?_
     apply oB hF;intro x71 e72 hF
     have le72:=ZD e72
     apply oB hF;intro x73 e74 hF
     have le74:=ZD e74
     refine ZFh e72 e74 ?_
     apply oB hF;intro v75 e76 hF
     refine((ih_f54 out61 x71 x73 v75 e76)).ego (pl [0]) (by simp) (by simp) (ZDu _ rfl (by decide)) (by intro i hi hi';simp at hi hi';first|omega|(subst hi';simp[pl])) (by simp[h63,z65,h66,q67,z68,h69,q70,↓e72,↓e74]) (by simp[h63,z65,h66,q67,z68,h69,q70,↓e72,↓e74]) ?_
     have w77:i64.wrap ((i62:Int)+1)=(i62:Int)+1:=ZE (by omega) (by omega)
     refine kx1 w77 ?_
     refine zK ((ih_f57 p v59 v75 (i62+1) o hF) _ rfl _ hq)
    ·cases hF
     refine kx7 h63 z65 h66 q67 z68 h69 q70 ?_
     refine zL hq
   ·have z68:((i62:Int)=0):=auz
    repeat first|refine cg ?_|simp -dsimp[h63,z65,eq_true h66,eq_true q67,eq_true z68]
    refine zW [64] [(0,0),(0,0),(0,0),(0,0),(0,0),(0,0),(0,0),(0,0),(0,0),(0,0),(0,0),(0,1),(1,1)] [1,1,1,1,1,1,1,1,1,1,1,1,1] follows ?_
    apply oB hF;intro x78 e79 hF
    have le79:=ZD e79
    apply oB hF;intro x80 e81 hF
    have le81:=ZD e81
    refine ZFh e79 e81 ?_
    apply oB hF;intro v82 e83 hF
    refine((ih_f54 out61 x78 x80 v82 e83)).ego (pl [0]) (by simp) (by simp) (ZDu _ rfl (by decide)) (by intro i hi hi';simp at hi hi';first|omega|(subst hi';simp[pl])) (by simp[h63,z65,eq_true h66,eq_true q67,eq_true z68,↓e79,↓e81]) (by simp[h63,z65,eq_true h66,eq_true q67,eq_true z68,↓e79,↓e81]) ?_
    have w84:i64.wrap ((i62:Int)+1)=(i62:Int)+1:=ZE (by omega) (by omega)
    refine kx1 w84 ?_
    refine zK ((ih_f57 p v59 v82 (i62+1) o hF) _ rfl _ hq)
  ·have z65:¬((i62:Int)<(v59.length:Int)):=auz
   cases hF
   refine kx3 h63 q64 z65 ?_
   refine zL hq
theorem CC.f58 (list:List VarType)(n:Int):(∀(i:Nat) (o:Lo Int Unit),F.f58 list n i=some o->∀(c:Code),Zo [1,0,1,0,0] (ZK Try.f65)=some c->∀(Q:Exit->ASt->Prop),o.post (fun r=>∀st,ZAK Try.prog Try.f65 (fun r' _=>r'.le (li r)) .ret st->Q .ret st) (fun s=>Q (.exit 0) ⟨[],[]⟩)->ALoopU Try.prog B 0 20 (hold c .mk) ⟨[(0,am zX list),(1,li n),(5,li (i:Int))],[]⟩ (hold Q .mk)):=by
 refine F.f58.partial_correctness list n
  _
  ?_
 ·intro _f_f58 ih_f58 i o hF
  refine ZN rfl fun Q hq hk hs=> ?_
  have b0:=hk 0
  simp -dsimp at b0
  clear hk hs
  refine eN ?_
  revert hF;refine kS ?_ ?_<;>intro h1 q2 hF
  ·have z3:((i:Int)<(list.length:Int)):=auz
   apply oB hF;intro x e4 hF
   have le4:=ZD e4
   refine Zn h1 z3 e4 ?_
   revert hF;refine aS ?_ ?_<;>intro h5 q6 hF
   ·cases hF
    refine kx1 h5 ?_
    refine lG _ (gR _) (hq _ ?_)
    exact kc0
   ·have w7:i64.wrap ((i:Int)+1)=(i:Int)+1:=ZE (by omega) (by omega)
    refine kx2 q6 w7 ?_
    refine zK ((ih_f58 (i+1) o hF) _ rfl _ hq)
  ·have z3:¬((i:Int)<(list.length:Int)):=auz
   cases hF
   refine kx3 h1 q2 z3 ?_
   refine zL hq
theorem C.f59 (list:List VarType)(n:Int)(r:Int)(hF:F.f59 list n=some r):PureCall Try.prog B 65 [am zX list,li n] (li r):=by
 unfold F.f59 at hF
 refine zH Try.func65 rfl Try.ntmps65 ?_
 refine kB hF fun o' ho8 hF=> ?_
 refine zM (((CC.f58 B hB1 hB2 list n) 0 o' ho8) _ rfl _ ?_)
 rcases o' with r0|sx
 ·dsimp only at hF
  cases hF
  intro st h
  simpa using h
 ·dsimp only at hF
  cases hF
  exact kc0
theorem CC.f60 (a:List VarType)(b:List VarType):(∀(i:Nat) (o:Lo Bool Unit),F.f60 a b i=some o->∀(c:Code),Zo [1,0,1,0,0] (ZK Try.f63)=some c->∀(Q:Exit->ASt->Prop),o.post (fun r=>∀st,ZAK Try.prog Try.f63 (fun r' _=>r'.le (.lit (.bool r))) .ret st->Q .ret st) (fun s=>Q (.exit 0) ⟨[(0,am zX a),(1,am zX b)],[]⟩)->ALoopU Try.prog B 0 40 (hold c .mk) ⟨[(0,am zX a),(1,am zX b),(5,li (i:Int))],[]⟩ (hold Q .mk)):=by
 refine F.f60.partial_correctness a b
  _
  ?_
 ·intro _f_f60 ih_f60 i o hF
  refine ZN rfl fun Q hq hk hs=> ?_
  have b0:=hk 0
  simp -dsimp at b0
  have b1:=hk 1
  simp -dsimp at b1
  clear hk hs
  refine eN ?_
  revert hF;refine kS ?_ ?_<;>intro h1 q2 hF
  ·have z3:((i:Int)<(a.length:Int)):=auz
   apply oB hF;intro x e4 hF
   have le4:=ZD e4
   refine Zn h1 z3 e4 ?_
   apply oB hF;intro v e5 hF
   refine((C.f59 B hB1 hB2 b x.var v e5)).goI ?_
   refine kdd e4 ?_
   refine zU follows ?_
   refine kdd e4 ?_
   revert hF;refine aN ?_ ?_<;>intro h6 q7 hF
   ·apply oB hF;intro x8 e9a hF
    have e9a:=Zl e9a;obtain⟨ne9,e9⟩:=e9a
    have le9:=ZD e9
    repeat first|refine cg ?_|simp -dsimp[↓e4,h6,q7,↓e9]
    revert hF;refine aN (fun h10 q11 hF=> ?_) (fun h10 q11 hF=> ?_)
    ·cases hF
     repeat first|refine cg ?_|simp -dsimp[↓e4,↓e9,h10,q11]
     refine lG _ (gR _) (hq _ ?_)
     repeat first|refine cg ?_|simp -dsimp[↓e4,↓e9]
    ·have w12:i64.wrap ((i:Int)+1)=(i:Int)+1:=ZE (by omega) (by omega)
     repeat first|refine cg ?_|simp -dsimp[↓e4,↓e9,w12]
     refine zK ((ih_f60 (i+1) o hF) _ rfl _ hq)
   ·cases hF
    refine ZNJ e4 h6 q7 ?_
    refine lG _ (gR _) (hq _ ?_)
    repeat first|refine cg ?_|simp -dsimp[↓e4]
  ·have z3:¬((i:Int)<(a.length:Int)):=auz
   cases hF
   refine kx3 h1 q2 z3 ?_
   refine zL hq
theorem C.f61 (a:List VarType)(b:List VarType)(r:Bool)(hF:F.f61 a b=some r):PureCall Try.prog B 63 [am zX a,am zX b] (.lit (.bool r)):=by
 unfold F.f61 at hF
 refine zH Try.func63 rfl Try.ntmps63 ?_
 refine kB hF fun o' ho13 hF=> ?_
 refine zM (((CC.f60 B hB1 hB2 a b) 0 o' ho13) _ rfl _ ?_)
 rcases o' with r0|sx
 ·dsimp only at hF
  cases hF
  intro st h
  simpa using h
 ·dsimp only at hF
  cases hF
  repeat first|refine cg ?_|simp -dsimp
  all_goals(try first|omega|rfl)
theorem CC.f62 (v26:List VarType):(∀(i28:Nat) (o:Lo Bool Unit),F.f62 v26 i28=some o->∀(c:Code),Zo [1,1,1,1,1,0,1,0,0] (ZK Try.f44)=some c->∀(Q:Exit->ASt->Prop),o.post (fun r=>∀st,ZAK Try.prog Try.f44 (fun r' _=>r'.le (.lit (.bool r))) .ret st->Q .ret st) (fun s=>Q (.exit 2) ⟨[],[]⟩)->ALoopU Try.prog B 0 70 (hold c .mk) ⟨[(9,.own 2 (zA (α:=VarType) v26)),(10,li (i28:Int))],[.dead,.dead,.elems 3 (zB zX v26)]⟩ (hold Q .mk)):=by
 refine F.f62.partial_correctness v26
  _
  ?_
 ·intro _f_f62 ih_f62 i28 o hF
  refine ZN rfl fun Q hq hk hs=> ?_
  have d2:=hs 2 _ rfl
  simp -dsimp[zT]at d2
  clear hk hs
  refine eN ?_
  revert hF;refine kS ?_ ?_<;>intro h29 q30 hF
  ·have z31:((i28:Int)<(v26.length:Int)):=auz
   apply oB hF;intro x32 e33 hF
   have le33:=ZD e33
   refine Zn h29 z31 e33 ?_
   apply oB hF;intro v34 e35 hF
   refine((C.f59 B hB1 hB2 v26 x32.var v34 e35)).lend (by simp_all) (by simp -dsimp) ?_
   revert hF;refine kN ?_ ?_<;>intro h36 q37 hF
   ·cases hF
    refine kx2 h36 q37 ?_
    refine lG _ (gR _) (hq _ ?_)
    exact kc0
   ·have w38:i64.wrap ((i28:Int)+1)=(i28:Int)+1:=ZE (by omega) (by omega)
    refine kx1 w38 ?_
    refine zK ((ih_f62 (i28+1) o hF) _ rfl _ hq)
  ·have z31:¬((i28:Int)<(v26.length:Int)):=auz
   cases hF
   refine kx3 h29 q30 z31 ?_
   refine zL hq
theorem CC.f63 (w:List zO):(∀(t:Ty) (p:Pattern) (r:Bool),F.f63 w t p=some r->PureCall Try.prog B 44 [am zP w,.agg [li t.data,li t.index],.agg [li p.op,li p.ctor,li p.n,li p.m,li p.var,am zR p.kids]] (.lit (.bool r)))/\
  (∀(t:Ty) (p:Pattern) (v:List Ty) (i:Nat) (o:Lo Bool Unit),F.f64 w t p v i=some o->∀(c:Code),Zo [1,1,0,1,0,0] (ZK Try.f44)=some c->∀(Q:Exit->ASt->Prop),o.post (fun r=>∀st,ZAK Try.prog Try.f44 (fun r' _=>r'.le (.lit (.bool r))) .ret st->Q .ret st) (fun s=>Q (.exit 0) ⟨[(0,am zP w),(4,.ptr 0 0),(5,.ptr 1 0)],[.cells [li t.data,li t.index],.cells [li p.op,li p.ctor,li p.n,li p.m,li p.var,am zR p.kids]]⟩)->ALoopU Try.prog B 0 70 (hold c .mk) ⟨[(0,am zP w),(4,.ptr 0 0),(5,.ptr 1 0),(7,am zG v),(8,li (i:Int))],[.cells [li t.data,li t.index],.cells [li p.op,li p.ctor,li p.n,li p.m,li p.var,am zR p.kids]]⟩ (hold Q .mk)):=by
 refine F.f63.mutual_partial_correctness w
  _ _
  ?_ ?_
 ·intro _f_f64 ih_f64 t p r hF
  refine zH Try.func44 rfl Try.ntmps44 ?_
  refine kB hF fun v e1 hF=> ?_
  refine((C.f49 B hB1 hB2 w t p v e1)).goI ?_
  refine kB hF fun o' ho13 hF=> ?_
  refine zM ((ih_f64 t p v 0 o' ho13) _ rfl _ ?_)
  rcases o' with r042|sx
  ·dsimp only at hF
   cases hF
   intro st h
   simpa using h
  ·dsimp only at hF
   revert hF;refine kS ?_ ?_<;>intro h14 q15 hF
   ·refine kx1 h14 ?_
    refine zW [63,64] [(0,0),(0,0),(0,0),(0,0),(0,0),(0,0),(0,3),(0,1),(0,1),(0,1),(0,1),(0,1),(0,1),(0,3),(0,3),(3,3)] [1,1,1,1,1,1,1,1,2,0,2,0,0,1,1,1] follows ?_
    apply oB hF;intro x16 e17 hF
    have le17:=ZD e17
    refine kdd e17 ?_
    apply oB hF;intro v18 e19 hF
    refine ECallA.nilArg 0 3 (by simp) ?_
    refine kx0 ?_
    refine(((CC.f54 B hB1 hB2 w).1 [] t x16 v18 e19)).ego (pl [2]) (by simp) (by simp) (ZDu _ rfl (by decide)) (by intro i hi hi';simp at hi hi';first|omega|(subst hi';simp[pl])) (by simp_all) (by simp_all) ?_
    apply oB hF;intro x20 e21 hF
    have le21:=ZD e21
    refine kdd e21 ?_
    apply oB hF;intro v22 e23 hF
    refine ECallA.nilArg 0 3 (by simp) ?_
    refine kx0 ?_
    refine(((CC.f54 B hB1 hB2 w).1 [] t x20 v22 e23)).ego (pl [3]) (by simp) (by simp) (ZDu _ rfl (by decide)) (by intro i hi hi';simp at hi hi';first|omega|(subst hi';simp[pl])) (by simp_all) (by simp_all) ?_
    refine kB hF fun v24 e25 hF=> ?_
    refine((C.f61 B hB1 hB2 v18 v22 v24 e25)).elend (by simp_all) (by simp -dsimp) ?_
    cases hF
    exact kc0
   ·refine kx1 q15 ?_
    apply oB hF;intro v26 e27 hF
    refine ACall.nilArg 0 3 (by simp) ?_
    refine kx0 ?_
    refine(((CC.f54 B hB1 hB2 w).1 [] t p v26 e27)).go (pl [2]) (by simp) (by simp) (ZDu _ rfl (by decide)) (by intro i hi hi';simp at hi hi';first|omega|(subst hi';simp[pl])) (by simp_all) (by simp_all) ?_
    refine kB hF fun o'40 ho39 hF=> ?_
    refine zM (((CC.f62 B hB1 hB2 v26) 0 o'40 ho39) _ rfl _ ?_)
    rcases o'40 with r0|sx41
    ·dsimp only at hF
     cases hF
     intro st h
     simpa using h
    ·dsimp only at hF
     cases hF
     exact kc0
 ·intro _f_f63 _f_f64 ih_f63 ih_f64 t p v i o hF
  refine ZN rfl fun Q hq hk hs=> ?_
  have b0:=hk 0
  simp -dsimp at b0
  have b7:=hk 7
  simp -dsimp at b7
  have d1:=hs 1 _ rfl
  simp -dsimp[zT]at d1
  clear hk hs
  refine eN ?_
  revert hF;refine kS ?_ ?_<;>intro h2 q3 hF
  ·have z4:((i:Int)<(v.length:Int)):=auz
   refine kx2 h2 z4 ?_
   refine zU follows ?_
   apply oB hF;intro x e5 hF
   have le5:=ZD e5
   apply oB hF;intro x6 e7 hF
   have le7:=ZD e7
   refine ZFh e5 e7 ?_
   apply oB hF;intro v8 e9 hF
   refine((ih_f63 x x6 v8 e9)).pgoW (by simp_all) (by simp) ?_
   revert hF;refine kN (fun h10 q11 hF=> ?_) (fun h10 q11 hF=> ?_)
   ·cases hF
    refine kx2 h10 q11 ?_
    refine lG _ (gR _) (hq _ ?_)
    exact kc0
   ·have w12:i64.wrap ((i:Int)+1)=(i:Int)+1:=ZE (by omega) (by omega)
    refine kx1 w12 ?_
    refine zK ((ih_f64 t p v (i+1) o hF) _ rfl _ hq)
  ·have z4:¬((i:Int)<(v.length:Int)):=auz
   cases hF
   refine kx3 h2 q3 z4 ?_
   refine zL hq
theorem C.f65 (w:List zO)(t:Ty)(p:Pattern)(r:Bool)(hF:F.f65 w t p=some r):PureCall Try.prog B 27 [am zP w,.agg [li t.data,li t.index],.agg [li p.op,li p.ctor,li p.n,li p.m,li p.var,am zR p.kids]] (.lit (.bool r)):=by
 unfold F.f65 at hF
 refine zH Try.func27 rfl Try.ntmps27 ?_
 refine kB hF fun v e1 hF=> ?_
 refine(((CC.f50 B hB1 hB2 w).1 t p 10 v e1)).goI ?_
 revert hF;refine kS (fun h2 q3 hF=> ?_) (fun h2 q3 hF=> ?_)
 ·refine kx1 h2 ?_
  apply oB hF;intro v4 e5 hF
  refine(((CC.f52 B hB1 hB2).1 p 60 v4 e5)).goI ?_
  refine kx1 h2 ?_
  revert hF;refine aS ?_ ?_<;>intro h6 q7 hF
  ·refine kx2 h2 h6 ?_
   apply oB hF;intro v8 e9 hF
   refine(((CC.f63 B hB1 hB2 w).1 t p v8 e9)).goI ?_
   cases hF
   exact kc2 h2 h6
  ·cases hF
   exact kc3 h2 h6 q7
 ·cases hF
  exact kc2 h2 q3
theorem C.f66 (w:List zO)(t:Ty)(p:Pattern)(r:Bool)(hF:F.f66 w t p=some r):PureCall Try.prog B 15 [am zP w,.agg [li t.data,li t.index],.agg [li p.op,li p.ctor,li p.n,li p.m,li p.var,am zR p.kids]] (.lit (.bool r)):=by
 unfold F.f66 at hF
 refine pE Try.func15 (by kernel_rfl) rfl Try.ntmps15 (by simp) (by simp) ?_
 refine kB hF fun v e1 hF=> ?_
 refine((C.f37 B hB1 hB2 w t v e1)).goW (by simp) (by simp) ?_
 revert hF;refine kS (fun h2 q3 hF=> ?_) (fun h2 q3 hF=> ?_)
 ·refine kx1 h2 ?_
  apply oB hF;intro v4 e5 hF
  refine((C.f65 B hB1 hB2 w t p v4 e5)).goW (by first|simp[h2];done|simp_all) (by simp) ?_
  cases hF
  repeat first|refine cg ?_|simp -dsimp[h2]
  all_goals(try first|omega|rfl)
 ·cases hF
  repeat first|refine cg ?_|simp -dsimp[h2,q3]
  all_goals(try first|omega|rfl)
theorem C.f67 (t:Ty)(r:Int)(hF:F.f67 t=some r):PureCall Try.prog B 45 [.agg [li t.data,li t.index]] (li r):=by
 unfold F.f67 at hF
 refine zH Try.func45 rfl Try.ntmps45 ?_
 cases hF
 exact kc0
theorem C.f68 (table:List Int)(t:Ty)(r:Int)(hF:F.f68 table t=some r):PureCall Try.prog B 28 [am cI table,.agg [li t.data,li t.index]] (li r):=by
 unfold F.f68 at hF
 refine zH Try.func28 rfl Try.ntmps28 ?_
 revert hF;refine kS ?_ ?_<;>intro h1 q2 hF
 ·cases hF
  exact kc1 h1
 ·refine kx1 q2 ?_
  apply oB hF;intro v e3 hF
  refine((C.f67 B hB1 hB2 t v e3)).goI ?_
  apply oB hF;intro x e4a hF
  have e4a:=Zl e4a;obtain⟨ne4,e4⟩:=e4a
  have le4:=ZD e4
  cases hF
  repeat first|refine cg ?_|simp -dsimp[↓e4]
theorem CC.f69 (table:List Int)(v:List Ty):(∀(most:Int) (i:Nat) (o:Lo Int Int),F.f69 table v most i=some o->∀(c:Code),Zo [1,1,1,0,1,0,0] (ZK Try.f31)=some c->∀(Q:Exit->ASt->Prop),o.post (fun r=>∀st,ZAK Try.prog Try.f31 (fun r' _=>r'.le (li r)) .ret st->Q .ret st) (fun s=>Q (.exit 0) ⟨[(10,li s)],[]⟩)->ALoopU Try.prog B 0 37 (hold c .mk) ⟨[(1,am cI table),(9,am zG v),(10,li most),(11,li (i:Int))],[]⟩ (hold Q .mk)):=by
 refine F.f69.partial_correctness table v
  _
  ?_
 ·intro _f_f69 ih_f69 most i o hF
  refine ZN rfl fun Q hq hk hs=> ?_
  have b1:=hk 1
  simp -dsimp at b1
  have b9:=hk 9
  simp -dsimp at b9
  clear hk hs
  refine eN ?_
  revert hF;refine kS ?_ ?_<;>intro h2 q3 hF
  ·have z4:((i:Int)<(v.length:Int)):=auz
   apply oB hF;intro x e5 hF
   have le5:=ZD e5
   refine Zn h2 z4 e5 ?_
   apply oB hF;intro v6 e7 hF
   refine((C.f68 B hB1 hB2 table x v6 e7)).goI ?_
   revert hF;refine kS ?_ ?_<;>intro h8 q9 hF
   ·cases hF
    repeat first|refine cg ?_|simp -dsimp[eq_true h8]
    refine lG _ (gR _) (hq _ ?_)
    exact kc0
   ·refine kx2 h8 q9 ?_
    revert hF;refine aS ?_ ?_<;>intro h10 q11 hF
    ·have w12:i64.wrap ((i:Int)+1)=(i:Int)+1:=ZE (by omega) (by omega)
     refine kx2 h10 w12 ?_
     refine zK ((ih_f69 v6 (i+1) o hF) _ rfl _ hq)
    ·have w13:i64.wrap ((i:Int)+1)=(i:Int)+1:=ZE (by omega) (by omega)
     refine kx3 h10 q11 w13 ?_
     refine zK ((ih_f69 most (i+1) o hF) _ rfl _ hq)
  ·have z4:¬((i:Int)<(v.length:Int)):=auz
   cases hF
   refine kx3 h2 q3 z4 ?_
   refine zL hq
theorem C.f70 (w:List zO)(table:List Int)(t:Ty)(ctor:Int)(r:Int)(hF:F.f70 w table t ctor=some r):PureCall Try.prog B 31 [am zP w,am cI table,.agg [li t.data,li t.index],li ctor] (li r):=by
 unfold F.f70 at hF
 refine zH Try.func31 rfl Try.ntmps31 ?_
 refine kB hF fun v e1 hF=> ?_
 refine((C.f46 B hB1 hB2 w t ctor v e1)).goI ?_
 refine kB hF fun o' ho14 hF=> ?_
 refine zM (((CC.f69 B hB1 hB2 table v) 0 0 o' ho14) _ rfl _ ?_)
 rcases o' with r0|sx
 ·dsimp only at hF
  cases hF
  intro st h
  simpa using h
 ·dsimp only at hF
  cases hF
  exact kc0
theorem CC.f71 (w:List zO)(n:Nat)(s:Nat)(v:List Int):(∀(table10:List Int) (i:Nat) (o:List Int),F.f71 w n s v table10 i=some o->∀(c:Code),Zo [1,1,0,1,0,0,1,0,0,1,0,0,1,0,0,1,1,1,0,0] (ZK Try.f17)=some c->∀(Q:Exit->ASt->Prop),(Q (.exit 4) ⟨[(0,am zP w),(3,.own 0 (zA (α:=Int) o)),(4,li (n:Int)),(5,li (s:Int))],[.elems 1 (zB cI o)]⟩)->ALoopU Try.prog B 0 70 (hold c .mk) ⟨[(0,am zP w),(3,.own 0 (zA (α:=Int) table10)),(4,li (n:Int)),(5,li (s:Int)),(6,.ptr 1 0),(7,am cI v),(8,li (i:Int))],[.elems 1 (zB cI table10),.cells [li (i64.wrap ((s:Int).tdiv 4)),li ((s:Int).tmod 4)]]⟩ (hold Q .mk)):=by
 refine F.f71.partial_correctness w n s v
  _
  ?_
 ·intro _f_f71 ih_f71 table10 i o hF
  refine ZN rfl fun Q hq hk hs=> ?_
  have b0:=hk 0
  simp -dsimp at b0
  have b7:=hk 7
  simp -dsimp at b7
  have d0:=hs 0 _ rfl
  simp -dsimp[zT]at d0
  clear hk hs
  refine eN ?_
  revert hF;refine kS ?_ ?_<;>intro h11 q12 hF
  ·have z13:((i:Int)<(v.length:Int)):=auz
   refine kx2 h11 z13 ?_
   refine zW [31] [(0,0),(0,0),(0,0),(0,0),(0,0),(0,0),(0,0),(0,1),(1,1)] [1,1,1,1,1,1,1,1,1] follows ?_
   apply oB hF;intro x e14 hF
   have le14:=ZD e14
   refine kdd e14 ?_
   apply oB hF;intro v15 e16 hF
   refine((C.f70 B hB1 hB2 w table10 (⟨i64.wrap ((s:Int).tdiv 4),(s:Int).tmod 4⟩:Ty) x v15 e16)).elend (by simp -dsimp[h11,z13,↓e14]) (by simp -dsimp) ?_
   revert hF;refine kS ?_ ?_<;>intro h17 q18 hF
   ·apply oB hF;intro x19 e20 hF
    have le20:=ZD e20
    refine ZO8 h17 e20 ?_
    revert hF;refine aN ?_ ?_<;>intro h21 q22 hF
    ·repeat first|refine cg ?_|simp -dsimp[h11,z13,↓e14,h17,↓e20,h21,q22]
     revert hF;refine aS ?_ ?_<;>intro h23 q24 hF
     ·have w25:i64.wrap ((i:Int)+1)=(i:Int)+1:=ZE (by omega) (by omega)
      repeat first|refine cg ?_|simp -dsimp[h11,z13,↓e14,h17,↓e20,h21,q22,h23,w25]
      refine zK ((ih_f71 (table10.set s v15) (i+1) o hF) _ rfl _ hq)
     ·have w26:i64.wrap ((i:Int)+1)=(i:Int)+1:=ZE (by omega) (by omega)
      refine kx3 h23 q24 w26 ?_
      refine zK ((ih_f71 table10 (i+1) o hF) _ rfl _ hq)
    ·have w27:i64.wrap ((i:Int)+1)=(i:Int)+1:=ZE (by omega) (by omega)
     repeat first|refine cg ?_|simp -dsimp[h11,z13,↓e14,h17,↓e20,eq_true h21,eq_true q22,w27]
     refine zK ((ih_f71 (table10.set s v15) (i+1) o hF) _ rfl _ hq)
   ·have w28:i64.wrap ((i:Int)+1)=(i:Int)+1:=ZE (by omega) (by omega)
    refine kx3 h17 q18 w28 ?_
    refine zK ((ih_f71 table10 (i+1) o hF) _ rfl _ hq)
  ·have z13:¬((i:Int)<(v.length:Int)):=auz
   cases hF
   refine kx3 h11 q12 z13 ?_
   refine zL hq
theorem CC.f72 (w:List zO)(n:Nat):(∀(table5:List Int) (s:Nat) (o:List Int),F.f72 w n table5 s=some o->∀(c:Code),Zo [1,1,0,1,0,0,1,0,0,1,0,0] (ZK Try.f17)=some c->∀(Q:Exit->ASt->Prop),(Q (.exit 2) ⟨[(0,am zP w),(3,.own 0 (zA (α:=Int) o)),(4,li (n:Int))],[.elems 1 (zB cI o)]⟩)->ALoopU Try.prog B 0 70 (hold c .mk) ⟨[(0,am zP w),(3,.own 0 (zA (α:=Int) table5)),(4,li (n:Int)),(5,li (s:Int))],[.elems 1 (zB cI table5)]⟩ (hold Q .mk)):=by
 refine F.f72.partial_correctness w n
  _
  ?_
 ·intro _f_f72 ih_f72 table5 s o hF
  refine ZN rfl fun Q hq hk hs=> ?_
  have b0:=hk 0
  simp -dsimp at b0
  have d0:=hs 0 _ rfl
  simp -dsimp[zT]at d0
  clear hk hs
  refine eN ?_
  revert hF;refine kS ?_ ?_<;>intro h6 q7 hF
  ·have z8:((s:Int)<(table5.length:Int)):=auz
   refine kx2 h6 z8 ?_
   apply oB hF;intro v e9 hF
   refine((C.f40 B hB1 hB2 w (⟨i64.wrap ((s:Int).tdiv 4),(s:Int).tmod 4⟩:Ty) v e9)).goI ?_
   refine kB hF fun o' ho29 hF=> ?_
   refine zM (((CC.f71 B hB1 hB2 w n s v) table5 0 o' ho29) _ rfl _ ?_)
   apply oC hF;intro c30 hF
   have w31:i64.wrap ((s:Int)+1)=(s:Int)+1:=ZE (by omega) (by omega)
   refine kx1 w31 ?_
   refine zK ((ih_f72 o' (s+1) o hF) _ rfl _ hq)
  ·have z8:¬((s:Int)<(table5.length:Int)):=auz
   cases hF
   refine kx3 h6 q7 z8 ?_
   refine zL hq
theorem CC.f73 (w:List zO):(∀(table:List Int) (n:Nat) (o:List Int),F.f73 w table n=some o->∀(c:Code),Zo [1,1,0,1,0,0] (ZK Try.f17)=some c->∀(Q:Exit->ASt->Prop),(Q (.exit 0) ⟨[(3,.own 0 (zA (α:=Int) o))],[.elems 1 (zB cI o)]⟩)->ALoopU Try.prog B 0 70 (hold c .mk) ⟨[(0,am zP w),(3,.own 0 (zA (α:=Int) table)),(4,li (n:Int))],[.elems 1 (zB cI table)]⟩ (hold Q .mk)):=by
 refine F.f73.partial_correctness w
  _
  ?_
 ·intro _f_f73 ih_f73 table n o hF
  refine ZN rfl fun Q hq hk hs=> ?_
  have b0:=hk 0
  simp -dsimp at b0
  have d0:=hs 0 _ rfl
  simp -dsimp[zT]at d0
  clear hk hs
  refine eN ?_
  revert hF;refine kS ?_ ?_<;>intro h2 q3 hF
  ·have z4:((n:Int)<=(table.length:Int)):=auz
   refine kx2 h2 z4 ?_
   apply oB hF;intro o'33 ho32 hF
   refine zM (((CC.f72 B hB1 hB2 w n) table 0 o'33 ho32) _ rfl _ ?_)
   apply oC hF;intro c34 hF
   have w35:i64.wrap ((n:Int)+1)=(n:Int)+1:=ZE (by omega) (by omega)
   refine kx1 w35 ?_
   refine zK ((ih_f73 o'33 (n+1) o hF) _ rfl _ hq)
  ·have z4:¬((n:Int)<=(table.length:Int)):=auz
   cases hF
   refine kx3 h2 q3 z4 ?_
   refine zL hq
theorem C.f74 (w:List zO)(r:List Int)(hF:F.f74 w=some r):PureCall Try.prog B 17 [am zP w] (am cI r):=by
 unfold F.f74 at hF
 refine zH Try.func17 rfl Try.ntmps17 ?_
 apply oC hF;intro c1 hF
 refine kB hF fun o'37 ho36 hF=> ?_
 refine zM (((CC.f73 B hB1 hB2 w) (zC ((i64.wrap ((w.length:Int)*4)).toNat) 0) 0 o'37 ho36) _ rfl _ ?_)
 cases hF
 exact kc0
theorem CC.f75 (w:List zO)(table:List Int):(∀(t:Ty) (p:Pattern) (r:Bool),F.f75 w table t p=some r->PureCall Try.prog B 16 [am zP w,am cI table,.agg [li t.data,li t.index],.agg [li p.op,li p.ctor,li p.n,li p.m,li p.var,am zR p.kids]] (.lit (.bool r)))/\
  (∀(p:Pattern) (v27:List Ty) (i:Nat) (o:Lo Bool Unit),F.f76 w table p v27 i=some o->∀(c:Code),Zo [1,1,1,0,1,0,0] (ZK Try.f16)=some c->∀(Q:Exit->ASt->Prop),o.post (fun r=>∀st,ZAK Try.prog Try.f16 (fun r' _=>r'.le (.lit (.bool r))) .ret st->Q .ret st) (fun s=>Q (.exit 1) ⟨[],[]⟩)->ALoopU Try.prog B 0 76 (hold c .mk) ⟨[(0,am zP w),(1,am cI table),(7,.ptr 1 0),(9,am zG v27),(10,li (i:Int))],[.dead,.cells [li p.op,li p.ctor,li p.n,li p.m,li p.var,am zR p.kids]]⟩ (hold Q .mk)):=by
 refine F.f75.mutual_partial_correctness w table
  _ _
  ?_ ?_
 ·intro _f_f75 _f_f76 ih_f75 ih_f76 t p r hF
  refine pE Try.func16 (by kernel_rfl) rfl Try.ntmps16 (by simp) (by simp) ?_
  revert hF;refine kS ?_ ?_<;>intro h1 q2 hF
  ·refine kx1 h1 ?_
   apply oB hF;intro v e3 hF
   refine((C.f68 B hB1 hB2 table t v e3)).goW (by first|simp[h1];done|simp_all) (by simp) ?_
   cases hF
   repeat first|refine cg ?_|simp -dsimp[h1]
   all_goals(try first|omega|rfl)
  ·refine kx2 h1 q2 ?_
   revert hF;refine aS ?_ ?_<;>intro h4 q5 hF
   ·refine kx3 h1 q2 h4 ?_
    apply oB hF;intro v6 e7 hF
    refine((C.f68 B hB1 hB2 table t v6 e7)).goW (by first|simp[h1,q2,h4];done|simp_all) (by simp) ?_
    cases hF
    repeat first|refine cg ?_|simp -dsimp[h1,q2,h4]
    all_goals(try first|omega|rfl)
   ·refine kx4 h1 q2 h4 q5 ?_
    revert hF;refine aS ?_ ?_<;>intro h8 q9 hF
    ·cases hF
     repeat first|refine cg ?_|simp -dsimp[h1,q2,h4,q5,h8]
     all_goals(try first|omega|rfl)
    ·refine kx6 h1 q2 h4 q5 h8 q9 ?_
     revert hF;refine aS ?_ ?_<;>intro h10 q11 hF
     ·refine kx7 h1 q2 h4 q5 h8 q9 h10 ?_
      refine zV follows (by kernel_rfl) (by kernel_rfl) ?_
      apply oB hF;intro x e12 hF
      have le12:=ZD e12
      repeat first|refine cg ?_|simp -dsimp[h1,q2,h4,q5,h8,q9,h10,↓e12]
      apply oB hF;intro v13 e14 hF
      refine((ih_f75 t x v13 e14)).pgoW (by first|simp[h1,q2,h4,q5,h8,q9,h10,↓e12];done|simp_all) (by simp) ?_
      repeat first|refine cg ?_|simp -dsimp[h1,q2,h4,q5,h8,q9,h10,↓e12]
      revert hF;refine aN (fun h15 q16 hF=> ?_) (fun h15 q16 hF=> ?_)
      ·apply oB hF;intro x17 e18 hF
       have le18:=ZD e18
       repeat first|refine cg ?_|simp -dsimp[h1,q2,h4,q5,h8,q9,h10,↓e12,h15,q16,↓e18]
       apply oB hF;intro v19 e20 hF
       refine((ih_f75 t x17 v19 e20)).pgoW (by first|simp[h1,q2,h4,q5,h8,q9,h10,↓e12,h15,q16,↓e18];done|simp_all) (by simp) ?_
       cases hF
       repeat first|refine cg ?_|simp -dsimp[h1,q2,h4,q5,h8,q9,h10,↓e12,h15,q16,↓e18]
       all_goals(try first|omega|rfl)
      ·cases hF
       repeat first|refine cg ?_|simp -dsimp[h1,q2,h4,q5,h8,q9,h10,↓e12,h15,q16]
       all_goals(try first|omega|rfl)
     ·refine kx8 h1 q2 h4 q5 h8 q9 h10 q11 ?_
      revert hF;refine aS ?_ ?_<;>intro h21 q22 hF
      ·refine kx9 h1 q2 h4 q5 h8 q9 h10 q11 h21 ?_
       refine zV follows (by kernel_rfl) (by kernel_rfl) ?_
       apply oB hF;intro x23 e24 hF
       have le24:=ZD e24
       repeat first|refine cg ?_|simp -dsimp[h1,q2,h4,q5,h8,q9,h10,q11,h21,↓e24]
       apply oB hF;intro v25 e26 hF
       refine((ih_f75 t x23 v25 e26)).pgoW (by first|simp[h1,q2,h4,q5,h8,q9,h10,q11,h21,↓e24];done|simp_all) (by simp) ?_
       cases hF
       repeat first|refine cg ?_|simp -dsimp[h1,q2,h4,q5,h8,q9,h10,q11,h21,↓e24]
       all_goals(try first|omega|rfl)
      ·repeat first|refine cg ?_|simp -dsimp[h1,q2,h4,q5,h8,q9,h10,q11,h21,q22]
       apply oB hF;intro v27 e28 hF
       refine((C.f46 B hB1 hB2 w t p.ctor v27 e28)).goW (by first|simp[h1,q2,h4,q5,h8,q9,h10,q11,h21,q22];done|simp_all) (by simp) ?_
       repeat first|refine cg ?_|simp -dsimp[h1,q2,h4,q5,h8,q9,h10,q11,h21,q22]
       apply oB hF;intro o' ho41 hF
       refine zN _ ?_ ((ih_f76 p v27 0 o' ho41) _ rfl _ ?_)
       ·exact(gT (by simp) (by first|simp -dsimp[h1,q2,h4,q5,h8,q9,h10,q11,h21,q22];done|simp_all))
       rcases o' with r0|sx
       ·dsimp only at hF
        cases hF
        intro st h
        simpa using h
       ·dsimp only at hF
        cases hF
        repeat first|refine cg ?_|simp -dsimp
        all_goals(try first|omega|rfl)
 ·intro _f_f75 _f_f76 ih_f75 ih_f76 p v27 i o hF
  intro c hc Q hq
  obtain rfl:c=_:=ZD0 hc rfl
  refine zY fun hk hs=> ?_
  have b0:=hk 0
  simp -dsimp at b0
  have b1:=hk 1
  simp -dsimp at b1
  have b9:=hk 9
  simp -dsimp at b9
  have d1:=hs 1 _ rfl
  simp -dsimp[zT]at d1
  clear hk hs
  refine eN ?_
  revert hF;refine kS ?_ ?_<;>intro h29 q30 hF
  ·have z31:((i:Int)<(v27.length:Int)):=auz
   refine kx2 h29 z31 ?_
   refine zV follows (by kernel_rfl) (by kernel_rfl) ?_
   apply oB hF;intro x32 e33 hF
   have le33:=ZD e33
   apply oB hF;intro x34 e35 hF
   have le35:=ZD e35
   refine ZA1 h29 z31 e33 e35 ?_
   apply oB hF;intro v36 e37 hF
   refine((ih_f75 x32 x34 v36 e37)).pgoW (by first|simp[h29,z31,↓e33,↓e35];done|simp_all) (by simp) ?_
   refine ZA1 h29 z31 e33 e35 ?_
   revert hF;refine aN (fun h38 q39 hF=> ?_) (fun h38 q39 hF=> ?_)
   ·cases hF
    refine ZAa h29 z31 e33 e35 h38 q39 ?_
    refine lG _ (gR _) (hq _ ?_)
    repeat first|refine cg ?_|simp -dsimp[h29,z31,↓e33,↓e35,h38,q39]
   ·have w40:i64.wrap ((i:Int)+1)=(i:Int)+1:=ZE (by omega) (by omega)
    repeat first|refine cg ?_|simp -dsimp[h29,z31,↓e33,↓e35,h38,q39,w40]
    refine aG _ ?_ ((ih_f76 p v27 (i+1) o hF) _ rfl _ hq)
    exact(gT (by simp) (by first|simp -dsimp[h29,z31,↓e33,↓e35,h38,q39,w40];done|simp_all))
  ·have z31:¬((i:Int)<(v27.length:Int)):=auz
   cases hF
   refine kx3 h29 q30 z31 ?_
   refine lG _ (gT (by simp) (by first|simp -dsimp[h29,q30,z31];done|simp_all)) hq
theorem C.f77 (w:List zO)(t:Ty)(p:Pattern)(r:Bool)(hF:F.f77 w t p=some r):PureCall Try.prog B 6 [am zP w,.agg [li t.data,li t.index],.agg [li p.op,li p.ctor,li p.n,li p.m,li p.var,am zR p.kids]] (.lit (.bool r)):=by
 unfold F.f77 at hF
 refine pE Try.func6 (by kernel_rfl) rfl Try.ntmps6 (by simp) (by simp) ?_
 refine kB hF fun v e1 hF=> ?_
 refine((C.f66 B hB1 hB2 w t p v e1)).goW (by simp) (by simp) ?_
 revert hF;refine kN (fun h2 q3 hF=> ?_) (fun h2 q3 hF=> ?_)
 ·cases hF
  repeat first|refine cg ?_|simp -dsimp[h2,q3]
  all_goals(try first|omega|rfl)
 ·refine kx2 h2 q3 ?_
  refine zV follows (by kernel_rfl) (by kernel_rfl) ?_
  refine kx2 h2 q3 ?_
  apply oB hF;intro v4 e5 hF
  refine((C.f74 B hB1 hB2 w v4 e5)).pgoW (by first|simp[h2,q3];done|simp_all) (by simp) ?_
  refine kx2 h2 q3 ?_
  apply oB hF;intro v6 e7 hF
  refine(((CC.f75 B hB1 hB2 w v4).1 t p v6 e7)).pgoW (by first|simp[h2,q3];done|simp_all) (by simp) ?_
  cases hF
  repeat first|refine cg ?_|simp -dsimp[h2,q3]
  all_goals(try first|omega|rfl)
theorem C.f78 (n:Int)(low:Int)(high:Int)(r:Bool)(hF:F.f78 n low high=some r):PureCall Try.prog B 67 [li n,li low,li high] (.lit (.bool r)):=by
 unfold F.f78 at hF
 refine zH Try.func67 rfl Try.ntmps67 ?_
 revert hF;refine kS ?_ ?_<;>intro h1 q2 hF
 ·cases hF
  exact kc1 h1
 ·cases hF
  exact kc1 q2
theorem CC.f79 (s:ByteArray):(∀(i:Nat) (o:Lo Bool Unit),F.f79 s i=some o->∀(c:Code),Zo [1,1,0,1,0,0] (ZK Try.f79)=some c->∀(Q:Exit->ASt->Prop),o.post (fun r=>∀st,ZAK Try.prog Try.f79 (fun r' _=>r'.le (.lit (.bool r))) .ret st->Q .ret st) (fun s=>Q (.exit 0) ⟨[],[]⟩)->ALoopU Try.prog B 0 34 (hold c .mk) ⟨[(0,.lit (.string s)),(3,li (i:Int))],[]⟩ (hold Q .mk)):=by
 refine F.f79.partial_correctness s
  _
  ?_
 ·intro _f_f79 ih_f79 i o hF
  refine ZN rfl fun Q hq hk hs=> ?_
  clear hk hs
  refine eN ?_
  revert hF;refine kS ?_ ?_<;>intro h11 q12 hF
  ·have z13:((i:Int)<(s.size:Int)):=auz
   refine kx2 h11 z13 ?_
   revert hF;refine aN ?_ ?_<;>intro h14 q15 hF
   ·have z16:¬(((byteAt s i:Nat):Int)<97):=auz
    refine kx5 h11 z13 h14 q15 z16 ?_
    revert hF;refine aS ?_ ?_<;>intro h17 q18 hF
    ·have z19:(122<((byteAt s i:Nat):Int)):=auz
     cases hF
     refine kx7 h11 z13 h14 q15 z16 h17 z19 ?_
     refine lG _ (gR _) (hq _ ?_)
     exact kc7 h11 z13 h14 q15 z16 h17 z19
    ·have z19:¬(122<((byteAt s i:Nat):Int)):=auz
     apply oC hF;intro c20 hF
     have w21:i64.wrap ((i:Int)+1)=(i:Int)+1:=ZE (by omega) (by omega)
     refine kx9 h11 z13 h14 q15 z16 h17 q18 z19 w21 ?_
     refine zK ((ih_f79 (i+1) o hF) _ rfl _ hq)
   ·have z16:(((byteAt s i:Nat):Int)<97):=auz
    cases hF
    refine kx5 h11 z13 h14 q15 z16 ?_
    refine lG _ (gR _) (hq _ ?_)
    exact kc5 h11 z13 h14 q15 z16
  ·have z13:¬((i:Int)<(s.size:Int)):=auz
   cases hF
   refine kx3 h11 q12 z13 ?_
   refine zL hq
theorem C.f80 (s:ByteArray)(r:Bool)(hF:F.f80 s=some r):PureCall Try.prog B 79 [.lit (.string s)] (.lit (.bool r)):=by
 unfold F.f80 at hF
 refine zH Try.func79 rfl Try.ntmps79 ?_
 refine kB hF fun v e1 hF=> ?_
 refine((C.f78 B hB1 hB2 (s.size:Int) 1 5 v e1)).goI ?_
 revert hF;refine kS (fun h2 q3 hF=> ?_) (fun h2 q3 hF=> ?_)
 ·apply oC hF;intro c4 hF
  refine kx1 h2 ?_
  revert hF;refine aN ?_ ?_<;>intro h5 q6 hF
  ·have z7:¬(((byteAt s 0:Nat):Int)<65):=auz
   refine kx4 h2 h5 q6 z7 ?_
   revert hF;refine aS ?_ ?_<;>intro h8 q9 hF
   ·have z10:(90<((byteAt s 0:Nat):Int)):=auz
    cases hF
    exact kc6 h2 h5 q6 z7 h8 z10
   ·have z10:¬(90<((byteAt s 0:Nat):Int)):=auz
    refine kx7 h2 h5 q6 z7 h8 q9 z10 ?_
    apply oB hF;intro o' ho22 hF
    refine zM (((CC.f79 B hB1 hB2 s) 1 o' ho22) _ rfl _ ?_)
    rcases o' with r0|sx
    ·dsimp only at hF
     cases hF
     intro st h
     simpa using h
    ·dsimp only at hF
     cases hF
     exact kc0
  ·have z7:(((byteAt s 0:Nat):Int)<65):=auz
   cases hF
   exact kc4 h2 h5 q6 z7
 ·cases hF
  exact kc2 h2 q3
theorem C.f81 (w:List zO)(t:Ty)(r:Bool)(hF:F.f81 w t=some r):PureCall Try.prog B 82 [am zP w,.agg [li t.data,li t.index]] (.lit (.bool r)):=by
 unfold F.f81 at hF
 refine zH Try.func82 rfl Try.ntmps82 ?_
 revert hF;refine kN (fun h1 q2 hF=> ?_) (fun h1 q2 hF=> ?_)
 ·refine kx2 h1 q2 ?_
  apply oB hF;intro v e3 hF
  refine((C.f78 B hB1 hB2 t.data 0 (i64.wrap ((w.length:Int) -1)) v e3)).goI ?_
  refine kx2 h1 q2 ?_
  revert hF;refine aS (fun h4 q5 hF=> ?_) (fun h4 q5 hF=> ?_)
  ·refine kx3 h1 q2 h4 ?_
   apply oB hF;intro v6 e7 hF
   refine((C.f78 B hB1 hB2 t.index (-1) 3 v6 e7)).goI ?_
   cases hF
   exact kc3 h1 q2 h4
  ·cases hF
   exact kc4 h1 q2 h4 q5
 ·cases hF
  exact kc2 h1 q2
theorem C.f82 (t:Ty)(a1:List zO)(r:Bool)(hF:F.f82 t a1=some r):PureCall Try.prog B 81 [.agg [li t.data,li t.index],.rptr [am zP a1] 0] (.lit (.bool r)):=by
 unfold F.f82 at hF
 refine zH Try.func81 rfl Try.ntmps81 ?_
 refine kB hF fun v e1 hF=> ?_
 refine((C.f81 B hB1 hB2 a1 t v e1)).goI ?_
 cases hF
 exact kc0
theorem CC.f83 (s:List Ty)(k0:List zO):(∀(i:Nat) (o:Lo Int Unit),F.f83 s k0 i=some o->∀(c:Code),Zo [1,0,1,0,0] (ZK Try.f86)=some c->∀(Q:Exit->ASt->Prop),o.post (fun r=>∀st,ZAK Try.prog Try.f86 (fun r' _=>r'.le (li r)) .ret st->Q .ret st) (fun s=>Q (.exit 0) ⟨[],[]⟩)->ALoopU Try.prog B 0 19 (hold c .mk) ⟨[(0,am zG s),(1,.fn (.func 81) [] [.rptr [am zP k0] 0]),(7,li (s.length:Int)),(8,li (i:Int))],[]⟩ (hold Q .mk)):=by
 refine F.f83.partial_correctness s k0
  _
  ?_
 ·intro _f_f83 ih_f83 i o hF
  refine ZN rfl fun Q hq hk hs=> ?_
  have b0:=hk 0
  simp -dsimp at b0
  clear hk hs
  refine eN ?_
  revert hF;refine kS ?_ ?_<;>intro h1 q2 hF
  ·have z3:((i:Int)<(s.length:Int)):=auz
   apply oB hF;intro x e4 hF
   have le4:=ZD e4
   refine Zn h1 z3 e4 ?_
   apply oB hF;intro v e5 hF
   refine((C.f82 B hB1 hB2 x k0 v e5)).goI ?_
   revert hF;refine kS (fun h6 q7 hF=> ?_) (fun h6 q7 hF=> ?_)
   ·cases hF
    refine kx1 h6 ?_
    refine lG _ (gR _) (hq _ ?_)
    exact kc0
   ·have w8:i64.wrap ((i:Int)+1)=(i:Int)+1:=ZE (by omega) (by omega)
    refine kx2 q7 w8 ?_
    refine zK ((ih_f83 (i+1) o hF) _ rfl _ hq)
  ·have z3:¬((i:Int)<(s.length:Int)):=auz
   cases hF
   refine kx3 h1 q2 z3 ?_
   refine zL hq
theorem C.f84 (s:List Ty)(k0:List zO)(r:Int)(hF:F.f84 s k0=some r):PureCall Try.prog B 86 [am zG s,.fn (.func 81) [] [.rptr [am zP k0] 0]] (li r):=by
 unfold F.f84 at hF
 refine zH Try.func86 rfl Try.ntmps86 ?_
 refine kB hF fun o' ho9 hF=> ?_
 refine zM (((CC.f83 B hB1 hB2 s k0) 0 o' ho9) _ rfl _ ?_)
 rcases o' with r0|sx
 ·dsimp only at hF
  cases hF
  intro st h
  simpa using h
 ·dsimp only at hF
  cases hF
  exact kc0
theorem C.f85 (s:List Ty)(k0:List zO)(r:Bool)(hF:F.f85 s k0=some r):PureCall Try.prog B 80 [am zG s,.fn (.func 81) [] [.rptr [am zP k0] 0]] (.lit (.bool r)):=by
 unfold F.f85 at hF
 refine zH Try.func80 rfl Try.ntmps80 ?_
 refine kB hF fun v e1 hF=> ?_
 refine((C.f84 B hB1 hB2 s k0 v e1)).goI ?_
 cases hF
 exact kc0
theorem C.f86 (w:List zO)(c':Ctor)(r:Bool)(hF:F.f86 w c'=some r):PureCall Try.prog B 68 [am zP w,.agg [.lit (.string c'.name),am zG c'.args,li c'.index]] (.lit (.bool r)):=by
 unfold F.f86 at hF
 refine zH Try.func68 rfl Try.ntmps68 ?_
 refine kB hF fun v e1 hF=> ?_
 refine((C.f80 B hB1 hB2 c'.name v e1)).goI ?_
 revert hF;refine kS (fun h2 q3 hF=> ?_) (fun h2 q3 hF=> ?_)
 ·refine kx1 h2 ?_
  revert hF;refine aS ?_ ?_<;>intro h4 q5 hF
  ·have z6:((c'.args.length:Int)<=3):=auz
   refine kx3 h2 h4 z6 ?_
   apply oB hF;intro v7 e8 hF
   refine((C.f78 B hB1 hB2 c'.index 0 3 v7 e8)).goI ?_
   refine kx3 h2 h4 z6 ?_
   revert hF;refine aS (fun h9 q10 hF=> ?_) (fun h9 q10 hF=> ?_)
   ·refine kx4 h2 h4 z6 h9 ?_
    apply oB hF;intro v11 e12 hF
    refine((C.f85 B hB1 hB2 c'.args w v11 e12)).lend (by simp -dsimp[h2,h4,z6,h9]) (by simp -dsimp) ?_
    cases hF
    exact kc4 h2 h4 z6 h9
   ·cases hF
    exact kc5 h2 h4 z6 h9 q10
  ·have z6:¬((c'.args.length:Int)<=3):=auz
   cases hF
   exact kc4 h2 h4 q5 z6
 ·cases hF
  exact kc2 h2 q3
theorem CC.f87 (w:List zO)(met4:List ByteArray)(i:Nat)(x:zO):(∀(met26:List ByteArray) (i27:Nat) (o:Lo Bool (List ByteArray)),F.f87 w met4 i x met26 i27=some o->∀(b1 b2:Nat),¬b1=b2->∀(c:Code),Zo [1,1,1,1,0,1,0,0,1,1,0,0,1,1,1,1,0,0] (ZK Try.f49)=some c->∀(Q:Exit->ASt->Ms->Prop),o.post (fun r=>∀st,ZAK Try.prog Try.f49 (fun r' _=>r'=(.lit (.bool r))) .ret st->∀ms,Q .ret st ms) (fun s=>Q (.exit 2) ⟨[(0,am zP w),(3,.lit (.map (some b1))),(4,.lit (.map (some b2))),(14,am zP w),(15,li (w.length:Int)),(16,li (i:Int))],[]⟩ [(b1,s),(b2,ZBq met4 x.name)])->MLoop Try.prog B 79 (hold c .mk) ⟨[(0,am zP w),(3,.lit (.map (some b1))),(4,.lit (.map (some b2))),(14,am zP w),(15,li (w.length:Int)),(16,li (i:Int)),(58,am zJ x.ctors),(59,li (x.ctors.length:Int)),(60,li (i27:Int))],[]⟩ [(b1,met26),(b2,ZBq met4 x.name)] (hold Q .mk)):=by
 refine F.f87.partial_correctness w met4 i x
  _
  ?_
 ·intro _f_f87 ih_f87 met26 i27 o hF
  intro b1 b2 hb2 c hc Q hq
  obtain rfl:c=_:=ZD0 hc rfl
  refine MLoop.know fun hk hs=> ?_
  have b0:=hk 0
  simp -dsimp at b0
  have b14:=hk 14
  simp -dsimp at b14
  have b58:=hk 58
  simp -dsimp at b58
  clear hk hs
  refine MLoop.enter ?_
  refine kx1 hb2 ?_
  revert hF;refine aS ?_ ?_<;>intro h28 q29 hF
  ·have z30:((i27:Int)<(x.ctors.length:Int)):=auz
   apply oB hF;intro x31 e32 hF
   have le32:=ZD e32
   refine Zn h28 z30 e32 ?_
   apply oB hF;intro v33 e34 hF
   refine((C.f86 B hB1 hB2 w x31 v33 e34)).goI ?_
   revert hF;refine kS (fun h35 q36 hF=> ?_) (fun h35 q36 hF=> ?_)
   ·refine kx1 h35 ?_
    revert hF;refine aS (fun h37 q38 hF=> ?_) (fun h37 q38 hF=> ?_)
    ·cases hF
     refine kx1 h37 ?_
     refine LeaveM.go _ (gR _) (hq _ ?_ _)
     exact kc0
    ·have w39:i64.wrap ((i27:Int)+1)=(i27:Int)+1:=ZE (by omega) (by omega)
     refine kx2 q38 w39 ?_
     refine AgainM.go ⟨[(0,.arr (zB zP w)),(3,.lit (.map (some b1))),(4,.lit (.map (some b2))),(14,.arr (zB zP w)),(15,.lit (.int .i64 (w.length:Int))),(16,.lit (.int .i64 (i:Int))),(58,.arr (zB zJ x.ctors)),(59,.lit (.int .i64 (x.ctors.length:Int))),(60,.lit (.int .i64 ((i27+1):Int)))],[]⟩ (gT (by simp) (by simp_all)) ?_
     exact(ih_f87 (ZBq met26 x31.name) (i27+1) o hF) b1 b2 hb2 _ rfl _ hq
   ·cases hF
    refine kx1 q36 ?_
    refine LeaveM.go _ (gR _) (hq _ ?_ _)
    exact kc0
  ·have z30:¬((i27:Int)<(x.ctors.length:Int)):=auz
   cases hF
   refine kx3 h28 q29 z30 ?_
   refine LeaveM.go ⟨[(0,.arr (zB zP w)),(3,.lit (.map (some b1))),(4,.lit (.map (some b2))),(14,.arr (zB zP w)),(15,.lit (.int .i64 (w.length:Int))),(16,.lit (.int .i64 (i:Int)))],[]⟩ (gT (by simp) (by simp_all)) ?_
   exact hq
theorem CC.f88 (w:List zO):(∀(met:List ByteArray) (met4:List ByteArray) (i:Nat) (o:Lo Bool ((List ByteArray)×(List ByteArray))),F.f88 w met met4 i=some o->∀(b1 b2:Nat),¬b1=b2->∀(c:Code),Zo [1,1,1,1,0,1,0,0] (ZK Try.f49)=some c->∀(Q:Exit->ASt->Ms->Prop),o.post (fun r=>∀st,ZAK Try.prog Try.f49 (fun r' _=>r'=(.lit (.bool r))) .ret st->∀ms,Q .ret st ms) (fun s=>Q (.exit 0) ⟨[],[]⟩ [(b1,s.1),(b2,s.2)])->MLoop Try.prog B 79 (hold c .mk) ⟨[(0,am zP w),(3,.lit (.map (some b1))),(4,.lit (.map (some b2))),(14,am zP w),(15,li (w.length:Int)),(16,li (i:Int))],[]⟩ [(b1,met),(b2,met4)] (hold Q .mk)):=by
 refine F.f88.partial_correctness w
  _
  ?_
 ·intro _f_f88 ih_f88 met met4 i o hF
  intro b1 b2 hb2 c hc Q hq
  obtain rfl:c=_:=ZD0 hc rfl
  refine MLoop.know fun hk hs=> ?_
  have b0:=hk 0
  simp -dsimp at b0
  have b14:=hk 14
  simp -dsimp at b14
  clear hk hs
  refine MLoop.enter ?_
  refine kx1 hb2 ?_
  revert hF;refine aS ?_ ?_<;>intro h5 q6 hF
  ·have z7:((i:Int)<(w.length:Int)):=auz
   apply oB hF;intro x e8 hF
   have le8:=ZD e8
   refine Zn h5 z7 e8 ?_
   revert hF;refine aS ?_ ?_<;>intro h9 q10 hF
   ·have z11:((x.name.size:Int)=1):=auz
    apply oC hF;intro c12 hF
    refine kx2 h9 z11 ?_
    revert hF;refine aN ?_ ?_<;>intro h13 q14 hF
    ·have z15:¬(((byteAt x.name 0:Nat):Int)<65):=auz
     refine kx3 h13 q14 z15 ?_
     revert hF;refine aN ?_ ?_<;>intro h16 q17 hF
     ·have z18:¬(90<((byteAt x.name 0:Nat):Int)):=auz
      refine kx3 h16 q17 z18 ?_
      revert hF;refine aN ?_ ?_<;>intro h19 q20 hF
      ·repeat first|refine cg ?_|simp -dsimp[hb2,h5,z7,↓e8,h9,z11,h13,q14,z15,h16,q17,z18,h19,q20]
       revert hF;refine aN (fun h21 q22 hF=> ?_) (fun h21 q22 hF=> ?_)
       ·refine kx2 h21 q22 ?_
        apply oB hF;intro v e23 hF
        refine((C.f78 B hB1 hB2 (x.ctors.length:Int) 1 4 v e23)).goI ?_
        repeat first|refine cg ?_|simp -dsimp[hb2,h5,z7,↓e8,h9,z11,h13,q14,z15,h16,q17,z18,h19,q20,h21,q22]
        revert hF;refine aN (fun h24 q25 hF=> ?_) (fun h24 q25 hF=> ?_)
        ·cases hF
         refine kx2 h24 q25 ?_
         refine LeaveM.go _ (gR _) (hq _ ?_ _)
         exact kc0
        ·repeat first|refine cg ?_|simp -dsimp[hb2,h5,z7,↓e8,h9,z11,h13,q14,z15,h16,q17,z18,h19,q20,h21,q22,h24,q25]
         apply oB hF;intro o' ho40 hF
         refine MLoop.goU ⟨[(0,.arr (zB zP w)),(3,.lit (.map (some b1))),(4,.lit (.map (some b2))),(14,.arr (zB zP w)),(15,.lit (.int .i64 (w.length:Int))),(16,.lit (.int .i64 (i:Int))),(58,.arr (zB zJ x.ctors)),(59,.lit (.int .i64 (x.ctors.length:Int))),(60,.lit (.int .i64 0))],[]⟩ (gT (by simp) (by simp -dsimp[hb2,h5,z7,↓e8,h9,z11,h13,q14,z15,h16,q17,z18,h19,q20,h21,q22,h24,q25])) ?_
         refine((CC.f87 B hB1 hB2 w met4 i x) met 0 o' ho40) b1 b2 hb2 _ rfl _ ?_
         rcases o' with r0|sx
         ·dsimp only at hF
          cases hF
          intro st h ms
          simp -dsimp
          refine LeaveM.go st (gR _) (hq st h ms)
         ·dsimp only at hF
          apply oC hF;intro c41 hF
          have w42:i64.wrap ((i:Int)+1)=(i:Int)+1:=ZE (by omega) (by omega)
          refine kx1 w42 ?_
          refine AgainM.go ⟨[(0,.arr (zB zP w)),(3,.lit (.map (some b1))),(4,.lit (.map (some b2))),(14,.arr (zB zP w)),(15,.lit (.int .i64 (w.length:Int))),(16,.lit (.int .i64 ((i+1):Int)))],[]⟩ (gT (by simp) (by simp -dsimp[w42])) ?_
          exact(ih_f88 sx (ZBq met4 x.name) (i+1) o hF) b1 b2 hb2 _ rfl _ hq
       ·cases hF
        repeat first|refine cg ?_|simp -dsimp[hb2,h5,z7,↓e8,h9,z11,h13,q14,z15,h16,q17,z18,h19,q20,h21,q22]
        refine LeaveM.go _ (gR _) (hq _ ?_ _)
        exact kc0
      ·cases hF
       repeat first|refine cg ?_|simp -dsimp[hb2,h5,z7,↓e8,h9,z11,h13,q14,z15,h16,q17,z18,h19,q20]
       refine LeaveM.go _ (gR _) (hq _ ?_ _)
       exact kc0
     ·have z18:(90<((byteAt x.name 0:Nat):Int)):=auz
      cases hF
      repeat first|refine cg ?_|simp -dsimp[hb2,h5,z7,↓e8,h9,z11,h13,q14,z15,h16,q17,z18]
      refine LeaveM.go _ (gR _) (hq _ ?_ _)
      exact kc0
    ·have z15:(((byteAt x.name 0:Nat):Int)<65):=auz
     cases hF
     repeat first|refine cg ?_|simp -dsimp[hb2,h5,z7,↓e8,h9,z11,h13,q14,z15]
     refine LeaveM.go _ (gR _) (hq _ ?_ _)
     exact kc0
   ·have z11:¬((x.name.size:Int)=1):=auz
    cases hF
    refine kx3 h9 q10 z11 ?_
    refine LeaveM.go _ (gR _) (hq _ ?_ _)
    exact kc0
  ·have z7:¬((i:Int)<(w.length:Int)):=auz
   cases hF
   refine kx3 h5 q6 z7 ?_
   refine LeaveM.go ⟨[],[]⟩ (gT (by simp) (by simp -dsimp[hb2,h5,q6,z7])) ?_
   exact hq
theorem C.f89 (w:List zO)(r:Bool)(hF:F.f89 w=some r):PureCall Try.prog B 49 [am zP w] (.lit (.bool r)):=by
 unfold F.f89 at hF
 refine zI Try.func49 (by kernel_rfl) rfl Try.ntmps49 (by simp) ?_
 revert hF;refine kS ?_ ?_<;>intro h1 q2 hF
 ·have z3:(4<(w.length:Int)):=auz
  cases hF
  exact kc2 h1 z3
 ·have z3:¬(4<(w.length:Int)):=auz
  refine kx3 h1 q2 z3 ?_
  refine AMake.go fun b1 hb1=> ?_
  refine kx0 ?_
  refine AMake.go fun b2 hb2=> ?_
  simp at hb2
  refine kx1 hb2 ?_
  apply oB hF;intro o'44 ho43 hF
  refine MLoop.goU ⟨[(0,.arr (zB zP w)),(3,.lit (.map (some b1))),(4,.lit (.map (some b2))),(14,.arr (zB zP w)),(15,.lit (.int .i64 (w.length:Int))),(16,.lit (.int .i64 0))],[]⟩ (gT (by simp) (by simp_all)) ?_
  refine((CC.f88 B hB1 hB2 w) [] [] 0 o'44 ho43) b1 b2 hb2 _ rfl _ ?_
  rcases o'44 with r046|sx45
  ·dsimp only at hF
   cases hF
   intro st h ms
   simpa using h
  ·dsimp only at hF
   cases hF
   exact kc0
theorem C.f90 (w:List zO)(t:Ty)(r:Bool)(hF:F.f90 w t=some r):PureCall Try.prog B 50 [am zP w,.agg [li t.data,li t.index]] (.lit (.bool r)):=by
 unfold F.f90 at hF
 refine zH Try.func50 rfl Try.ntmps50 ?_
 revert hF;refine kN (fun h1 q2 hF=> ?_) (fun h1 q2 hF=> ?_)
 ·refine kx2 h1 q2 ?_
  apply oB hF;intro v e3 hF
  refine((C.f78 B hB1 hB2 t.data 0 (i64.wrap ((w.length:Int) -1)) v e3)).goI ?_
  refine kx2 h1 q2 ?_
  revert hF;refine aS (fun h4 q5 hF=> ?_) (fun h4 q5 hF=> ?_)
  ·refine kx3 h1 q2 h4 ?_
   apply oB hF;intro v6 e7 hF
   refine((C.f78 B hB1 hB2 t.index 0 3 v6 e7)).goI ?_
   cases hF
   exact kc3 h1 q2 h4
  ·cases hF
   exact kc4 h1 q2 h4 q5
 ·cases hF
  exact kc2 h1 q2
theorem C.f91 (w:List zO)(t:Ty)(r:Bool)(hF:F.f91 w t=some r):PureCall Try.prog B 33 [am zP w,.agg [li t.data,li t.index]] (.lit (.bool r)):=by
 unfold F.f91 at hF
 refine zH Try.func33 rfl Try.ntmps33 ?_
 refine kB hF fun v e1 hF=> ?_
 refine((C.f89 B hB1 hB2 w v e1)).goI ?_
 revert hF;refine kS (fun h2 q3 hF=> ?_) (fun h2 q3 hF=> ?_)
 ·refine kx1 h2 ?_
  apply oB hF;intro v4 e5 hF
  refine((C.f90 B hB1 hB2 w t v4 e5)).goI ?_
  cases hF
  exact kc1 h2
 ·cases hF
  exact kc2 h2 q3
theorem C.f92 (p:Pattern)(ctor:Bool)(numbers:Bool)(variable':Bool)(kids:Int)(r:Bool)(hF:F.f92 p ctor numbers variable' kids=some r):PureCall Try.prog B 71 [.agg [li p.op,li p.ctor,li p.n,li p.m,li p.var,am zR p.kids],.lit (.bool ctor),.lit (.bool numbers),.lit (.bool variable'),li kids] (.lit (.bool r)):=by
 unfold F.f92 at hF
 refine zH Try.func71 rfl Try.ntmps71 ?_
 revert hF;refine kN (fun h1 q2 hF=> ?_) (fun h1 q2 hF=> ?_)
 ·refine kx2 h1 q2 ?_
  revert hF;refine aS ?_ ?_<;>intro h3 q4 hF
  ·refine kx3 h1 q2 h3 ?_
   revert hF;refine aN (fun h5 q6 hF=> ?_) (fun h5 q6 hF=> ?_)
   ·refine kx5 h1 q2 h3 h5 q6 ?_
    revert hF;refine aS ?_ ?_<;>intro h7 q8 hF
    ·refine kx6 h1 q2 h3 h5 q6 h7 ?_
     revert hF;refine aS ?_ ?_<;>intro h9 q10 hF
     ·refine kx7 h1 q2 h3 h5 q6 h7 h9 ?_
      revert hF;refine aN (fun h11 q12 hF=> ?_) (fun h11 q12 hF=> ?_)
      ·refine kx9 h1 q2 h3 h5 q6 h7 h9 h11 q12 ?_
       revert hF;refine aS ?_ ?_<;>intro h13 q14 hF
       ·cases hF
        repeat first|refine cg ?_|simp -dsimp[h1,q2,h3,h5,q6,h7,h9,h11,q12,h13]
       ·cases hF
        repeat first|refine cg ?_|simp -dsimp[h1,q2,h3,h5,q6,h7,h9,h11,q12,h13,q14]
      ·cases hF
       exact kc9 h1 q2 h3 h5 q6 h7 h9 h11 q12
     ·cases hF
      exact kc8 h1 q2 h3 h5 q6 h7 h9 q10
    ·cases hF
     exact kc7 h1 q2 h3 h5 q6 h7 q8
   ·refine kx5 h1 q2 h3 h5 q6 ?_
    revert hF;refine aN (fun h15 q16 hF=> ?_) (fun h15 q16 hF=> ?_)
    ·refine kx7 h1 q2 h3 h5 q6 h15 q16 ?_
     revert hF;refine aS ?_ ?_<;>intro h17 q18 hF
     ·cases hF
      exact kc8 h1 q2 h3 h5 q6 h15 q16 h17
     ·cases hF
      exact kc9 h1 q2 h3 h5 q6 h15 q16 h17 q18
    ·cases hF
     exact kc7 h1 q2 h3 h5 q6 h15 q16
  ·cases hF
   exact kc4 h1 q2 h3 q4
 ·refine kx2 h1 q2 ?_
  revert hF;refine aN (fun h19 q20 hF=> ?_) (fun h19 q20 hF=> ?_)
  ·refine kx4 h1 q2 h19 q20 ?_
   revert hF;refine aS ?_ ?_<;>intro h21 q22 hF
   ·refine kx5 h1 q2 h19 q20 h21 ?_
    revert hF;refine aS ?_ ?_<;>intro h23 q24 hF
    ·refine kx6 h1 q2 h19 q20 h21 h23 ?_
     revert hF;refine aN (fun h25 q26 hF=> ?_) (fun h25 q26 hF=> ?_)
     ·refine kx8 h1 q2 h19 q20 h21 h23 h25 q26 ?_
      revert hF;refine aS ?_ ?_<;>intro h27 q28 hF
      ·cases hF
       exact kc9 h1 q2 h19 q20 h21 h23 h25 q26 h27
      ·cases hF
       repeat first|refine cg ?_|simp -dsimp[h1,q2,h19,q20,h21,h23,h25,q26,h27,q28]
     ·cases hF
      exact kc8 h1 q2 h19 q20 h21 h23 h25 q26
    ·cases hF
     exact kc7 h1 q2 h19 q20 h21 h23 q24
   ·cases hF
    exact kc6 h1 q2 h19 q20 h21 q22
  ·refine kx4 h1 q2 h19 q20 ?_
   revert hF;refine aN (fun h29 q30 hF=> ?_) (fun h29 q30 hF=> ?_)
   ·refine kx6 h1 q2 h19 q20 h29 q30 ?_
    revert hF;refine aS ?_ ?_<;>intro h31 q32 hF
    ·cases hF
     exact kc7 h1 q2 h19 q20 h29 q30 h31
    ·cases hF
     exact kc8 h1 q2 h19 q20 h29 q30 h31 q32
   ·cases hF
    exact kc6 h1 q2 h19 q20 h29 q30
theorem C.f93 (v:Int)(r:Bool)(hF:F.f93 v=some r):PureCall Try.prog B 72 [li v] (.lit (.bool r)):=by
 unfold F.f93 at hF
 refine zH Try.func72 rfl Try.ntmps72 ?_
 refine kB hF fun v1 e2 hF=> ?_
 refine((C.f78 B hB1 hB2 v 0 5 v1 e2)).goI ?_
 cases hF
 exact kc0
theorem CC.f94 (t:Ty)(x:zO):(∀(i:Nat) (out:List Int) (o:List Int),F.f94 t x i out=some o->∀(c:Code),Zo [1,1,0,1,0,1,0,0] (ZK Try.f52)=some c->∀(Q:Exit->ASt->Prop),(Q (.exit 0) ⟨[(5,.own 1 (zA (α:=Int) o))],[.dead,.elems 1 (zB cI o)]⟩)->ALoopU Try.prog B 0 44 (hold c .mk) ⟨[(3,.ptr 0 0),(5,.own 1 (zA (α:=Int) out)),(16,am zJ x.ctors),(17,li (x.ctors.length:Int)),(18,li (i:Int))],[.cells [li t.data,li t.index],.elems 1 (zB cI out)]⟩ (hold Q .mk)):=by
 refine F.f94.partial_correctness t x
  _
  ?_
 ·intro _f_f94 ih_f94 i out o hF
  refine ZN rfl fun Q hq hk hs=> ?_
  have b16:=hk 16
  simp -dsimp at b16
  have d1:=hs 1 _ rfl
  simp -dsimp[zT]at d1
  clear hk hs
  refine eN ?_
  revert hF;refine kS ?_ ?_<;>intro h4 q5 hF
  ·have z6:((i:Int)<(x.ctors.length:Int)):=auz
   apply oB hF;intro x7 e8 hF
   have le8:=ZD e8
   refine Zn h4 z6 e8 ?_
   revert hF;refine aN ?_ ?_<;>intro h9 q10 hF
   ·refine kx2 h9 q10 ?_
    revert hF;refine aN ?_ ?_<;>intro h11 q12 hF
    ·refine kx2 h11 q12 ?_
     revert hF;refine aS ?_ ?_<;>intro h13 q14 hF
     ·apply oC hF;intro c15 hF
      have w16:i64.wrap ((i:Int)+1)=(i:Int)+1:=ZE (by omega) (by omega)
      refine kx2 h13 w16 ?_
      refine zK ((ih_f94 (i+1) (out++[(i:Int)]) o hF) _ rfl _ hq)
     ·have w17:i64.wrap ((i:Int)+1)=(i:Int)+1:=ZE (by omega) (by omega)
      refine kx3 h13 q14 w17 ?_
      refine zK ((ih_f94 (i+1) out o hF) _ rfl _ hq)
    ·apply oC hF;intro c18 hF
     have w19:i64.wrap ((i:Int)+1)=(i:Int)+1:=ZE (by omega) (by omega)
     repeat first|refine cg ?_|simp -dsimp[h4,z6,↓e8,h9,q10,h11,q12,w19]
     refine zK ((ih_f94 (i+1) (out++[(i:Int)]) o hF) _ rfl _ hq)
   ·apply oC hF;intro c20 hF
    have w21:i64.wrap ((i:Int)+1)=(i:Int)+1:=ZE (by omega) (by omega)
    repeat first|refine cg ?_|simp -dsimp[h4,z6,↓e8,h9,q10,w21]
    refine zK ((ih_f94 (i+1) (out++[(i:Int)]) o hF) _ rfl _ hq)
  ·have z6:¬((i:Int)<(x.ctors.length:Int)):=auz
   cases hF
   refine kx3 h4 q5 z6 ?_
   refine zL hq
theorem C.f95 (w:List zO)(t:Ty)(r:List Int)(hF:F.f95 w t=some r):PureCall Try.prog B 52 [am zP w,.agg [li t.data,li t.index]] (am cI r):=by
 unfold F.f95 at hF
 refine zH Try.func52 rfl Try.ntmps52 ?_
 revert hF;refine kN ?_ ?_<;>intro h1 q2 hF
 ·apply oB hF;intro x e3a hF
  have e3a:=Zl e3a;obtain⟨ne3,e3⟩:=e3a
  have le3:=ZD e3
  refine Zn h1 q2 e3 ?_
  apply oB hF;intro o' ho22 hF
  refine zN ⟨[(3,.ptr 0 0),(5,.own 1 (zA (α:=Int) [])),(16,.arr (zB zJ x.ctors)),(17,.lit (.int .i64 (x.ctors.length:Int))),(18,.lit (.int .i64 0))],[.cells [.lit (.int .i64 t.data),.lit (.int .i64 t.index)],.elems 1 (zB cI [])]⟩ (by refine zZ (yA 5 1 (by simp -dsimp)) ?_;exact(gT (by simp) (by simp_all))) ?_
  refine((CC.f94 B hB1 hB2 t x) 0 [] o' ho22) _ rfl _ ?_
  cases hF
  exact kc0
 ·cases hF
  exact kc2 h1 q2
theorem CC.f96 (s:List Int)(v:Int):(∀(i:Nat) (o:Lo Int Unit),F.f96 s v i=some o->∀(c:Code),Zo [1,0,1,0,0] (ZK Try.f84)=some c->∀(Q:Exit->ASt->Prop),o.post (fun r=>∀st,ZAK Try.prog Try.f84 (fun r' _=>r'.le (li r)) .ret st->Q .ret st) (fun s=>Q (.exit 0) ⟨[],[]⟩)->ALoopU Try.prog B 0 19 (hold c .mk) ⟨[(0,am cI s),(1,li v),(7,li (s.length:Int)),(8,li (i:Int))],[]⟩ (hold Q .mk)):=by
 refine F.f96.partial_correctness s v
  _
  ?_
 ·intro _f_f96 ih_f96 i o hF
  refine ZN rfl fun Q hq hk hs=> ?_
  have b0:=hk 0
  simp -dsimp at b0
  clear hk hs
  refine eN ?_
  revert hF;refine kS ?_ ?_<;>intro h1 q2 hF
  ·have z3:((i:Int)<(s.length:Int)):=auz
   apply oB hF;intro x e4 hF
   have le4:=ZD e4
   refine Zn h1 z3 e4 ?_
   revert hF;refine aS ?_ ?_<;>intro h5 q6 hF
   ·cases hF
    refine kx1 h5 ?_
    refine lG _ (gR _) (hq _ ?_)
    exact kc0
   ·have w7:i64.wrap ((i:Int)+1)=(i:Int)+1:=ZE (by omega) (by omega)
    refine kx2 q6 w7 ?_
    refine zK ((ih_f96 (i+1) o hF) _ rfl _ hq)
  ·have z3:¬((i:Int)<(s.length:Int)):=auz
   cases hF
   refine kx3 h1 q2 z3 ?_
   refine zL hq
theorem C.f97 (s:List Int)(v:Int)(r:Int)(hF:F.f97 s v=some r):PureCall Try.prog B 84 [am cI s,li v] (li r):=by
 unfold F.f97 at hF
 refine zH Try.func84 rfl Try.ntmps84 ?_
 refine kB hF fun o' ho8 hF=> ?_
 refine zM (((CC.f96 B hB1 hB2 s v) 0 o' ho8) _ rfl _ ?_)
 rcases o' with r0|sx
 ·dsimp only at hF
  cases hF
  intro st h
  simpa using h
 ·dsimp only at hF
  cases hF
  exact kc0
theorem C.f98 (s:List Int)(v:Int)(r:Bool)(hF:F.f98 s v=some r):PureCall Try.prog B 73 [am cI s,li v] (.lit (.bool r)):=by
 unfold F.f98 at hF
 refine zH Try.func73 rfl Try.ntmps73 ?_
 refine kB hF fun v1 e2 hF=> ?_
 refine((C.f97 B hB1 hB2 s v v1 e2)).goI ?_
 cases hF
 exact kc0
theorem CC.f99 (t:Ty)(x2:Ctor):(∀(i:Nat) (out:List Ty) (o:List Ty),F.f99 t x2 i out=some o->∀(c:Code),Zo [1,1,1,1,1,0,1,0,0] (ZK Try.f70)=some c->∀(Q:Exit->ASt->Prop),(Q (.exit 0) ⟨[(9,.own 2 (zA (α:=Ty) o))],[.dead,.dead,.elems 2 (zB zG o)]⟩)->ALoopU Try.prog B 0 45 (hold c .mk) ⟨[(8,li t.index),(9,.own 2 (zA (α:=Ty) out)),(28,am zG x2.args),(29,li (x2.args.length:Int)),(30,li (i:Int))],[.dead,.dead,.elems 2 (zB zG out)]⟩ (hold Q .mk)):=by
 refine F.f99.partial_correctness t x2
  _
  ?_
 ·intro _f_f99 ih_f99 i out o hF
  refine ZN rfl fun Q hq hk hs=> ?_
  have b28:=hk 28
  simp -dsimp at b28
  have d2:=hs 2 _ rfl
  simp -dsimp[zT]at d2
  clear hk hs
  refine eN ?_
  revert hF;refine kS ?_ ?_<;>intro h6 q7 hF
  ·have z8:((i:Int)<(x2.args.length:Int)):=auz
   apply oB hF;intro x9 e10 hF
   have le10:=ZD e10
   refine Zn h6 z8 e10 ?_
   revert hF;refine aS ?_ ?_<;>intro h11 q12 hF
   ·apply oC hF;intro c13 hF
    have w14:i64.wrap ((i:Int)+1)=(i:Int)+1:=ZE (by omega) (by omega)
    refine kx2 h11 w14 ?_
    refine zK ((ih_f99 (i+1) (out++[(⟨x9.data,t.index⟩:Ty)]) o hF) _ rfl _ hq)
   ·apply oC hF;intro c15 hF
    have w16:i64.wrap ((i:Int)+1)=(i:Int)+1:=ZE (by omega) (by omega)
    refine kx3 h11 q12 w16 ?_
    refine zK ((ih_f99 (i+1) (out++[x9]) o hF) _ rfl _ hq)
  ·have z8:¬((i:Int)<(x2.args.length:Int)):=auz
   cases hF
   refine kx3 h6 q7 z8 ?_
   refine zL hq
theorem CC.f100 (x2:Ctor):(∀(i18:Nat) (out19:List Ty) (o:List Ty),F.f100 x2 i18 out19=some o->∀(c:Code),Zo [1,1,1,1,1,0,1,0,0] (ZK Try.f70)=some c->∀(Q:Exit->ASt->Prop),(Q (.exit 0) ⟨[(9,.own 2 (zA (α:=Ty) o))],[.dead,.dead,.elems 2 (zB zG o)]⟩)->ALoopU Try.prog B 0 45 (hold c .mk) ⟨[(8,li x2.index),(9,.own 2 (zA (α:=Ty) out19)),(28,am zG x2.args),(29,li (x2.args.length:Int)),(30,li (i18:Int))],[.dead,.dead,.elems 2 (zB zG out19)]⟩ (hold Q .mk)):=by
 refine F.f100.partial_correctness x2
  _
  ?_
 ·intro _f_f100 ih_f100 i18 out19 o hF
  refine ZN rfl fun Q hq hk hs=> ?_
  have b28:=hk 28
  simp -dsimp at b28
  have d2:=hs 2 _ rfl
  simp -dsimp[zT]at d2
  clear hk hs
  refine eN ?_
  revert hF;refine kS ?_ ?_<;>intro h20 q21 hF
  ·have z22:((i18:Int)<(x2.args.length:Int)):=auz
   apply oB hF;intro x23 e24 hF
   have le24:=ZD e24
   refine Zn h20 z22 e24 ?_
   revert hF;refine aS ?_ ?_<;>intro h25 q26 hF
   ·apply oC hF;intro c27 hF
    have w28:i64.wrap ((i18:Int)+1)=(i18:Int)+1:=ZE (by omega) (by omega)
    refine kx2 h25 w28 ?_
    refine zK ((ih_f100 (i18+1) (out19++[(⟨x23.data,x2.index⟩:Ty)]) o hF) _ rfl _ hq)
   ·apply oC hF;intro c29 hF
    have w30:i64.wrap ((i18:Int)+1)=(i18:Int)+1:=ZE (by omega) (by omega)
    refine kx3 h25 q26 w30 ?_
    refine zK ((ih_f100 (i18+1) (out19++[x23]) o hF) _ rfl _ hq)
  ·have z22:¬((i18:Int)<(x2.args.length:Int)):=auz
   cases hF
   refine kx3 h20 q21 z22 ?_
   refine zL hq
theorem C.f101 (w:List zO)(t:Ty)(ctor:Int)(r:List Ty)(hF:F.f101 w t ctor=some r):PureCall Try.prog B 70 [am zP w,.agg [li t.data,li t.index],li ctor] (am zG r):=by
 unfold F.f101 at hF
 refine zH Try.func70 rfl Try.ntmps70 ?_
 apply oB hF;intro x e1a hF
 have e1a:=Zl e1a;obtain⟨ne1,e1⟩:=e1a
 have le1:=ZD e1
 apply oB hF;intro x2 e3a hF
 have e3a:=Zl e3a;obtain⟨ne3,e3⟩:=e3a
 have le3:=ZD e3
 refine ZFh e1 e3 ?_
 revert hF;refine aS ?_ ?_<;>intro h4 q5 hF
 ·refine kx1 h4 ?_
  apply oB hF;intro o' ho17 hF
  refine zN ⟨[(8,.lit (.int .i64 t.index)),(9,.own 2 (zA (α:=Ty) [])),(28,.arr (zB zG x2.args)),(29,.lit (.int .i64 (x2.args.length:Int))),(30,.lit (.int .i64 0))],[.dead,.dead,.elems 2 (zB zG [])]⟩ (by refine zZ (yA 9 2 (by simp -dsimp)) ?_;exact(gT (by simp) (by simp_all))) ?_
  refine((CC.f99 B hB1 hB2 t x2) 0 [] o' ho17) _ rfl _ ?_
  cases hF
  exact kc0
 ·refine kx1 q5 ?_
  apply oB hF;intro o'32 ho31 hF
  refine zN ⟨[(8,.lit (.int .i64 x2.index)),(9,.own 2 (zA (α:=Ty) [])),(28,.arr (zB zG x2.args)),(29,.lit (.int .i64 (x2.args.length:Int))),(30,.lit (.int .i64 0))],[.dead,.dead,.elems 2 (zB zG [])]⟩ (by refine zZ (yA 9 2 (by simp -dsimp)) ?_;exact(gT (by simp) (by simp_all))) ?_
  refine((CC.f100 B hB1 hB2 x2) 0 [] o'32 ho31) _ rfl _ ?_
  cases hF
  exact kc0
theorem C.f102 (w:List zO)(t:Ty)(p:Pattern)(r:(List Ty)×Bool)(hF:F.f102 w t p=some r):PureCall Try.prog B 54 [am zP w,.agg [li t.data,li t.index],.agg [li p.op,li p.ctor,li p.n,li p.m,li p.var,am zR p.kids]] (.tup [am zG r.1,.lit (.bool r.2)]):=by
 unfold F.f102 at hF
 refine zH Try.func54 rfl Try.ntmps54 ?_
 revert hF;refine kS ?_ ?_<;>intro h1 q2 hF
 ·refine kx1 h1 ?_
  apply oB hF;intro v e3 hF
  refine((C.f92 B hB1 hB2 p false false false 0 v e3)).goI ?_
  cases hF
  exact kc1 h1
 ·refine kx2 h1 q2 ?_
  revert hF;refine aS ?_ ?_<;>intro h4 q5 hF
  ·refine kx3 h1 q2 h4 ?_
   apply oB hF;intro v6 e7 hF
   refine((C.f92 B hB1 hB2 p false false true 0 v6 e7)).goI ?_
   refine kx3 h1 q2 h4 ?_
   revert hF;refine aS (fun h8 q9 hF=> ?_) (fun h8 q9 hF=> ?_)
   ·refine kx4 h1 q2 h4 h8 ?_
    apply oB hF;intro v10 e11 hF
    refine((C.f93 B hB1 hB2 p.var v10 e11)).goI ?_
    cases hF
    exact kc4 h1 q2 h4 h8
   ·cases hF
    exact kc5 h1 q2 h4 h8 q9
  ·refine kx4 h1 q2 h4 q5 ?_
   revert hF;refine aS ?_ ?_<;>intro h12 q13 hF
   ·refine kx5 h1 q2 h4 q5 h12 ?_
    refine zU follows ?_
    refine kx5 h1 q2 h4 q5 h12 ?_
    revert hF;refine aS ?_ ?_<;>intro h14 q15 hF
    ·refine kx6 h1 q2 h4 q5 h12 h14 ?_
     apply oB hF;intro v16 e17 hF
     refine((C.f92 B hB1 hB2 p false true false 0 v16 e17)).pgoW (by simp[h1,q2,h4,q5,h12,h14]) (by simp) ?_
     refine kx6 h1 q2 h4 q5 h12 h14 ?_
     revert hF;refine aS (fun h18 q19 hF=> ?_) (fun h18 q19 hF=> ?_)
     ·refine kx7 h1 q2 h4 q5 h12 h14 h18 ?_
      revert hF;refine aS ?_ ?_<;>intro h20 q21 hF
      ·refine kx8 h1 q2 h4 q5 h12 h14 h18 h20 ?_
       revert hF;refine aS ?_ ?_<;>intro h22 q23 hF
       ·cases hF
        exact kc9 h1 q2 h4 q5 h12 h14 h18 h20 h22
       ·cases hF
        repeat first|refine cg ?_|simp -dsimp[h1,q2,h4,q5,h12,h14,h18,h20,h22,q23]
      ·cases hF
       exact kc9 h1 q2 h4 q5 h12 h14 h18 h20 q21
     ·cases hF
      exact kc8 h1 q2 h4 q5 h12 h14 h18 q19
    ·cases hF
     exact kc7 h1 q2 h4 q5 h12 h14 q15
   ·refine kx6 h1 q2 h4 q5 h12 q13 ?_
    revert hF;refine aS ?_ ?_<;>intro h24 q25 hF
    ·refine kx7 h1 q2 h4 q5 h12 q13 h24 ?_
     refine zU follows ?_
     refine kx7 h1 q2 h4 q5 h12 q13 h24 ?_
     apply oB hF;intro v26 e27 hF
     refine((C.f95 B hB1 hB2 w t v26 e27)).pgoW (by simp[h1,q2,h4,q5,h12,q13,h24]) (by simp) ?_
     refine kx7 h1 q2 h4 q5 h12 q13 h24 ?_
     apply oB hF;intro v28 e29 hF
     refine((C.f98 B hB1 hB2 v26 p.ctor v28 e29)).pgoW (by simp[h1,q2,h4,q5,h12,q13,h24]) (by simp) ?_
     refine kx7 h1 q2 h4 q5 h12 q13 h24 ?_
     revert hF;refine aN (fun h30 q31 hF=> ?_) (fun h30 q31 hF=> ?_)
     ·cases hF
      exact kc9 h1 q2 h4 q5 h12 q13 h24 h30 q31
     ·refine kx9 h1 q2 h4 q5 h12 q13 h24 h30 q31 ?_
      apply oB hF;intro v32 e33 hF
      refine((C.f101 B hB1 hB2 w t p.ctor v32 e33)).goI ?_
      refine kx9 h1 q2 h4 q5 h12 q13 h24 h30 q31 ?_
      apply oB hF;intro v34 e35 hF
      refine((C.f92 B hB1 hB2 p true false false (v32.length:Int) v34 e35)).goI ?_
      cases hF
      exact kc9 h1 q2 h4 q5 h12 q13 h24 h30 q31
    ·refine kx8 h1 q2 h4 q5 h12 q13 h24 q25 ?_
     revert hF;refine aS ?_ ?_<;>intro h36 q37 hF
     ·refine kx9 h1 q2 h4 q5 h12 q13 h24 q25 h36 ?_
      refine zW [] [(0,0),(0,0),(0,1),(0,1),(0,1),(1,1),(1,1)] [1,1,1,2,1,1,1] follows ?_
      refine kx9 h1 q2 h4 q5 h12 q13 h24 q25 h36 ?_
      apply oB hF;intro v38 e39 hF
      refine((C.f92 B hB1 hB2 p false false false 2 v38 e39)).pgoW (by simp[h1,q2,h4,q5,h12,q13,h24,q25,h36]) (by simp) ?_
      cases hF
      exact kc9 h1 q2 h4 q5 h12 q13 h24 q25 h36
     ·repeat first|refine cg ?_|simp -dsimp[h1,q2,h4,q5,h12,q13,h24,q25,h36,q37]
      revert hF;refine aS ?_ ?_<;>intro h40 q41 hF
      ·repeat first|refine cg ?_|simp -dsimp[h1,q2,h4,q5,h12,q13,h24,q25,h36,q37,h40]
       refine zW [] [(0,0),(0,1),(0,1),(0,1),(0,1),(0,1),(0,1),(0,1),(0,1),(1,1),(1,1)] [1,1,2,1,1,0,2,1,1,1,1] follows ?_
       repeat first|refine cg ?_|simp -dsimp[h1,q2,h4,q5,h12,q13,h24,q25,h36,q37,h40]
       apply oB hF;intro v42 e43 hF
       refine((C.f92 B hB1 hB2 p false false true 1 v42 e43)).pgoW (by simp[h1,q2,h4,q5,h12,q13,h24,q25,h36,q37,h40]) (by simp) ?_
       repeat first|refine cg ?_|simp -dsimp[h1,q2,h4,q5,h12,q13,h24,q25,h36,q37,h40]
       revert hF;refine aS (fun h44 q45 hF=> ?_) (fun h44 q45 hF=> ?_)
       ·repeat first|refine cg ?_|simp -dsimp[h1,q2,h4,q5,h12,q13,h24,q25,h36,q37,h40,h44]
        apply oB hF;intro v46 e47 hF
        refine((C.f93 B hB1 hB2 p.var v46 e47)).pgoW (by simp[h1,q2,h4,q5,h12,q13,h24,q25,h36,q37,h40,h44]) (by simp) ?_
        cases hF
        repeat first|refine cg ?_|simp -dsimp[h1,q2,h4,q5,h12,q13,h24,q25,h36,q37,h40,h44]
       ·skip
        cases hF
        repeat first|refine cg ?_|simp -dsimp[h1,q2,h4,q5,h12,q13,h24,q25,h36,q37,h40,h44,q45]
      ·cases hF
       repeat first|refine cg ?_|simp -dsimp[h1,q2,h4,q5,h12,q13,h24,q25,h36,q37,h40,q41]
theorem CC.f103 (s:List VarType)(v:VarType):(∀(i:Nat) (o:Lo Int Unit),F.f103 s v i=some o->∀(c:Code),Zo [1,0,1,0,0] (ZK Try.f91)=some c->∀(Q:Exit->ASt->Prop),o.post (fun r=>∀st,ZAK Try.prog Try.f91 (fun r' _=>r'.le (li r)) .ret st->Q .ret st) (fun s=>Q (.exit 0) ⟨[],[]⟩)->ALoopU Try.prog B 0 19 (hold c .mk) ⟨[(0,am zX s),(3,.ptr 0 0),(7,li (s.length:Int)),(8,li (i:Int))],[.cells [li v.var,li v.type.data,li v.type.index]]⟩ (hold Q .mk)):=by
 refine F.f103.partial_correctness s v
  _
  ?_
 ·intro _f_f103 ih_f103 i o hF
  refine ZN rfl fun Q hq hk hs=> ?_
  have b0:=hk 0
  simp -dsimp at b0
  clear hk hs
  refine eN ?_
  revert hF;refine kS ?_ ?_<;>intro h1 q2 hF
  ·have z3:((i:Int)<(s.length:Int)):=auz
   refine kx2 h1 z3 ?_
   refine zU follows ?_
   apply oB hF;intro x e4 hF
   have le4:=ZD e4
   refine kdd e4 ?_
   revert hF;refine aS (fun h5 q6 hF=> ?_) (fun h5 q6 hF=> ?_)
   ·cases hF
    refine kx1 h5 ?_
    refine lG _ (gR _) (hq _ ?_)
    exact kc0
   ·have w7:i64.wrap ((i:Int)+1)=(i:Int)+1:=ZE (by omega) (by omega)
    refine kx2 q6 w7 ?_
    refine zK ((ih_f103 (i+1) o hF) _ rfl _ hq)
  ·have z3:¬((i:Int)<(s.length:Int)):=auz
   cases hF
   refine kx3 h1 q2 z3 ?_
   refine zL hq
theorem C.f104 (s:List VarType)(v:VarType)(r:Int)(hF:F.f104 s v=some r):PureCall Try.prog B 91 [am zX s,.agg [li v.var,li v.type.data,li v.type.index]] (li r):=by
 unfold F.f104 at hF
 refine zH Try.func91 rfl Try.ntmps91 ?_
 refine kB hF fun o' ho8 hF=> ?_
 refine zM (((CC.f103 B hB1 hB2 s v) 0 o' ho8) _ rfl _ ?_)
 rcases o' with r0|sx
 ·dsimp only at hF
  cases hF
  intro st h
  simpa using h
 ·dsimp only at hF
  cases hF
  exact kc0
theorem C.f105 (s:List VarType)(v:VarType)(r:Bool)(hF:F.f105 s v=some r):PureCall Try.prog B 89 [am zX s,.agg [li v.var,li v.type.data,li v.type.index]] (.lit (.bool r)):=by
 unfold F.f105 at hF
 refine zH Try.func89 rfl Try.ntmps89 ?_
 refine kB hF fun v1 e2 hF=> ?_
 refine((C.f104 B hB1 hB2 s v v1 e2)).goI ?_
 cases hF
 exact kc0
theorem C.f106 (v:VarType)(a1:List VarType)(r:Bool)(hF:F.f106 v a1=some r):PureCall Try.prog B 88 [.agg [li v.var,li v.type.data,li v.type.index],.rptr [am zX a1] 0] (.lit (.bool r)):=by
 unfold F.f106 at hF
 refine zH Try.func88 rfl Try.ntmps88 ?_
 refine kB hF fun v1 e2 hF=> ?_
 refine((C.f105 B hB1 hB2 a1 v v1 e2)).goI ?_
 cases hF
 exact kc0
theorem CC.f107 (s:List VarType)(k0:List VarType):(∀(i:Nat) (o:Lo Int Unit),F.f107 s k0 i=some o->∀(c:Code),Zo [1,0,1,0,0] (ZK Try.f90)=some c->∀(Q:Exit->ASt->Prop),o.post (fun r=>∀st,ZAK Try.prog Try.f90 (fun r' _=>r'.le (li r)) .ret st->Q .ret st) (fun s=>Q (.exit 0) ⟨[],[]⟩)->ALoopU Try.prog B 0 19 (hold c .mk) ⟨[(0,am zX s),(1,.fn (.func 88) [] [.rptr [am zX k0] 0]),(7,li (s.length:Int)),(8,li (i:Int))],[]⟩ (hold Q .mk)):=by
 refine F.f107.partial_correctness s k0
  _
  ?_
 ·intro _f_f107 ih_f107 i o hF
  refine ZN rfl fun Q hq hk hs=> ?_
  have b0:=hk 0
  simp -dsimp at b0
  clear hk hs
  refine eN ?_
  revert hF;refine kS ?_ ?_<;>intro h1 q2 hF
  ·have z3:((i:Int)<(s.length:Int)):=auz
   apply oB hF;intro x e4 hF
   have le4:=ZD e4
   refine Zn h1 z3 e4 ?_
   apply oB hF;intro v e5 hF
   refine((C.f106 B hB1 hB2 x k0 v e5)).goI ?_
   revert hF;refine kS (fun h6 q7 hF=> ?_) (fun h6 q7 hF=> ?_)
   ·cases hF
    refine kx1 h6 ?_
    refine lG _ (gR _) (hq _ ?_)
    exact kc0
   ·have w8:i64.wrap ((i:Int)+1)=(i:Int)+1:=ZE (by omega) (by omega)
    refine kx2 q7 w8 ?_
    refine zK ((ih_f107 (i+1) o hF) _ rfl _ hq)
  ·have z3:¬((i:Int)<(s.length:Int)):=auz
   cases hF
   refine kx3 h1 q2 z3 ?_
   refine zL hq
theorem C.f108 (s:List VarType)(k0:List VarType)(r:Int)(hF:F.f108 s k0=some r):PureCall Try.prog B 90 [am zX s,.fn (.func 88) [] [.rptr [am zX k0] 0]] (li r):=by
 unfold F.f108 at hF
 refine zH Try.func90 rfl Try.ntmps90 ?_
 refine kB hF fun o' ho9 hF=> ?_
 refine zM (((CC.f107 B hB1 hB2 s k0) 0 o' ho9) _ rfl _ ?_)
 rcases o' with r0|sx
 ·dsimp only at hF
  cases hF
  intro st h
  simpa using h
 ·dsimp only at hF
  cases hF
  exact kc0
theorem C.f109 (s:List VarType)(k0:List VarType)(r:Bool)(hF:F.f109 s k0=some r):PureCall Try.prog B 87 [am zX s,.fn (.func 88) [] [.rptr [am zX k0] 0]] (.lit (.bool r)):=by
 unfold F.f109 at hF
 refine zH Try.func87 rfl Try.ntmps87 ?_
 refine kB hF fun v e1 hF=> ?_
 refine((C.f108 B hB1 hB2 s k0 v e1)).goI ?_
 cases hF
 exact kc0
theorem C.f110 (a:List VarType)(b:List VarType)(r:Bool)(hF:F.f110 a b=some r):PureCall Try.prog B 83 [am zX a,am zX b] (.lit (.bool r)):=by
 unfold F.f110 at hF
 refine zH Try.func83 rfl Try.ntmps83 ?_
 revert hF;refine kS ?_ ?_<;>intro h1 q2 hF
 ·have z3:((a.length:Int)=(b.length:Int)):=auz
  refine kx2 h1 z3 ?_
  apply oB hF;intro v e4 hF
  refine((C.f109 B hB1 hB2 a b v e4)).lend (by simp -dsimp[h1,z3]) (by simp -dsimp) ?_
  cases hF
  exact kc2 h1 z3
 ·have z3:¬((a.length:Int)=(b.length:Int)):=auz
  cases hF
  exact kc3 h1 q2 z3
theorem CC.f111 (sx:Int×(List VarType)):(∀(set':Nat->Bool) (i37:Nat) (o:Lo ((List VarType)×Bool×Int) Unit),F.f111 sx set' i37=some o->∀(c:Code),Zo [1,1,1,1,1,1,1,1,1,0,1,0,0] (ZK Try.f69)=some c->∀(Q:Exit->ASt->Prop),o.post (fun r=>∀st,ZAK Try.prog Try.f69 (fun r' σ'=>r'.le (.tup [am zX r.1,.lit (.bool r.2.1)])/\ZBM σ' [li r.2.2]) .ret st->Q .ret st) (fun s=>Q (.exit 3) ⟨[(14,.own 4 (zA (α:=VarType) sx.2))],[.cells [li sx.1],.dead,.dead,.dead,.elems 3 (zB zX sx.2)]⟩)->ALoopU Try.prog B 1 114 (hold c .mk) ⟨[(14,.own 4 (zA (α:=VarType) sx.2)),(19,.ptr 5 0),(99,.own 4 (zA (α:=VarType) sx.2)),(100,li (sx.2.length:Int)),(101,li (i37:Int))],[.cells [li sx.1],.dead,.dead,.dead,.elems 3 (zB zX sx.2),.cells (fcB 6 set')]⟩ (hold Q .mk)):=by
 refine F.f111.partial_correctness sx
  _
  ?_
 ·intro _f_f111 ih_f111 set' i37 o hF
  refine ZN rfl fun Q hq hk hs=> ?_
  have d4:=hs 4 _ rfl
  simp -dsimp[zT]at d4
  clear hk hs
  refine eN ?_
  revert hF;refine kS ?_ ?_<;>intro h38 q39 hF
  ·have z40:((i37:Int)<(sx.2.length:Int)):=auz
   apply oB hF;intro x41 e42 hF
   have le42:=ZD e42
   apply oC hF;intro c43 hF
   repeat first|refine cg ?_|simp -dsimp[h38,z40,↓e42,c43]
   revert hF;refine aS (fun h44 q45 hF=> ?_) (fun h44 q45 hF=> ?_)
   ·cases hF
    refine kx1 h44 ?_
    refine lG _ (gR _) (hq _ ?_)
    exact kc0
   ·have w46:i64.wrap ((i37:Int)+1)=(i37:Int)+1:=ZE (by omega) (by omega)
    refine kx2 q45 w46 ?_
    refine zK ((ih_f111 (updF set' x41.var.toNat true) (i37+1) o hF) _ rfl _ hq)
  ·have z40:¬((i37:Int)<(sx.2.length:Int)):=auz
   cases hF
   refine kx3 h38 q39 z40 ?_
   refine zL hq
theorem CC.f112 (sx81:Int×(List VarType)):(∀(set'82:Nat->Bool) (i83:Nat) (o:Lo ((List VarType)×Bool×Int) Unit),F.f112 sx81 set'82 i83=some o->∀(c:Code),Zo [1,1,1,1,1,1,1,1,1,0,1,0,0] (ZK Try.f69)=some c->∀(Q:Exit->ASt->Prop),o.post (fun r=>∀st,ZAK Try.prog Try.f69 (fun r' σ'=>r'.le (.tup [am zX r.1,.lit (.bool r.2.1)])/\ZBM σ' [li r.2.2]) .ret st->Q .ret st) (fun s=>Q (.exit 3) ⟨[(14,.own 3 (zA (α:=VarType) sx81.2))],[.cells [li sx81.1],.dead,.dead,.elems 3 (zB zX sx81.2)]⟩)->ALoopU Try.prog B 1 114 (hold c .mk) ⟨[(14,.own 3 (zA (α:=VarType) sx81.2)),(19,.ptr 4 0),(99,.own 3 (zA (α:=VarType) sx81.2)),(100,li (sx81.2.length:Int)),(101,li (i83:Int))],[.cells [li sx81.1],.dead,.dead,.elems 3 (zB zX sx81.2),.cells (fcB 6 set'82)]⟩ (hold Q .mk)):=by
 refine F.f112.partial_correctness sx81
  _
  ?_
 ·intro _f_f112 ih_f112 set'82 i83 o hF
  refine ZN rfl fun Q hq hk hs=> ?_
  have d3:=hs 3 _ rfl
  simp -dsimp[zT]at d3
  clear hk hs
  refine eN ?_
  revert hF;refine kS ?_ ?_<;>intro h84 q85 hF
  ·have z86:((i83:Int)<(sx81.2.length:Int)):=auz
   apply oB hF;intro x87 e88 hF
   have le88:=ZD e88
   apply oC hF;intro c89 hF
   repeat first|refine cg ?_|simp -dsimp[h84,z86,↓e88,c89]
   revert hF;refine aS (fun h90 q91 hF=> ?_) (fun h90 q91 hF=> ?_)
   ·cases hF
    refine kx1 h90 ?_
    refine lG _ (gR _) (hq _ ?_)
    exact kc0
   ·have w92:i64.wrap ((i83:Int)+1)=(i83:Int)+1:=ZE (by omega) (by omega)
    refine kx2 q91 w92 ?_
    refine zK ((ih_f112 (updF set'82 x87.var.toNat true) (i83+1) o hF) _ rfl _ hq)
  ·have z86:¬((i83:Int)<(sx81.2.length:Int)):=auz
   cases hF
   refine kx3 h84 q85 z86 ?_
   refine zL hq
theorem CC.f113 (sx128:Int×(List VarType)):(∀(set'129:Nat->Bool) (i130:Nat) (o:Lo ((List VarType)×Bool×Int) Unit),F.f113 sx128 set'129 i130=some o->∀(c:Code),Zo [1,1,1,1,1,1,1,1,1,0,1,0,0] (ZK Try.f69)=some c->∀(Q:Exit->ASt->Prop),o.post (fun r=>∀st,ZAK Try.prog Try.f69 (fun r' σ'=>r'.le (.tup [am zX r.1,.lit (.bool r.2.1)])/\ZBM σ' [li r.2.2]) .ret st->Q .ret st) (fun s=>Q (.exit 3) ⟨[(14,.own 4 (zA (α:=VarType) sx128.2))],[.cells [li sx128.1],.dead,.dead,.dead,.elems 3 (zB zX sx128.2)]⟩)->ALoopU Try.prog B 1 114 (hold c .mk) ⟨[(14,.own 4 (zA (α:=VarType) sx128.2)),(19,.ptr 5 0),(99,.own 4 (zA (α:=VarType) sx128.2)),(100,li (sx128.2.length:Int)),(101,li (i130:Int))],[.cells [li sx128.1],.dead,.dead,.dead,.elems 3 (zB zX sx128.2),.cells (fcB 6 set'129)]⟩ (hold Q .mk)):=by
 refine F.f113.partial_correctness sx128
  _
  ?_
 ·intro _f_f113 ih_f113 set'129 i130 o hF
  refine ZN rfl fun Q hq hk hs=> ?_
  have d4:=hs 4 _ rfl
  simp -dsimp[zT]at d4
  clear hk hs
  refine eN ?_
  revert hF;refine kS ?_ ?_<;>intro h131 q132 hF
  ·have z133:((i130:Int)<(sx128.2.length:Int)):=auz
   apply oB hF;intro x134 e135 hF
   have le135:=ZD e135
   apply oC hF;intro c136 hF
   repeat first|refine cg ?_|simp -dsimp[h131,z133,↓e135,c136]
   revert hF;refine aS (fun h137 q138 hF=> ?_) (fun h137 q138 hF=> ?_)
   ·cases hF
    refine kx1 h137 ?_
    refine lG _ (gR _) (hq _ ?_)
    exact kc0
   ·have w139:i64.wrap ((i130:Int)+1)=(i130:Int)+1:=ZE (by omega) (by omega)
    refine kx2 q138 w139 ?_
    refine zK ((ih_f113 (updF set'129 x134.var.toNat true) (i130+1) o hF) _ rfl _ hq)
  ·have z133:¬((i130:Int)<(sx128.2.length:Int)):=auz
   cases hF
   refine kx3 h131 q132 z133 ?_
   refine zL hq
theorem CC.f114 (w:List zO):(∀(t:Ty) (p:Pattern) (deep:Int) (count:Int) (r:(List VarType)×Bool×Int),F.f114 w t p deep count=some r->MutCall Try.prog B 69 [li count] [am zP w,.agg [li t.data,li t.index],.agg [li p.op,li p.ctor,li p.n,li p.m,li p.var,am zR p.kids],li deep,.ptr 0 0] (.tup [am zX r.1,.lit (.bool r.2.1)]) [li r.2.2])/\
  (∀(p:Pattern) (deep:Int) (v:(List Ty)×Bool) (z51:Int) (vars52:List VarType) (i53:Nat) (o:Lo ((List VarType)×Bool×Int) (Int×(List VarType))),F.f116 w p deep v z51 vars52 i53=some o->∀(c:Code),Zo [1,1,1,1,1,1,1,0,1,0,0] (ZK Try.f69)=some c->∀(Q:Exit->ASt->Prop),o.post (fun r=>∀st,ZAK Try.prog Try.f69 (fun r' σ'=>r'.le (.tup [am zX r.1,.lit (.bool r.2.1)])/\ZBM σ' [li r.2.2]) .ret st->Q .ret st) (fun s=>Q (.exit 0) ⟨[(14,.own 3 (zA (α:=VarType) s.2))],[.cells [li s.1],.dead,.dead,.elems 3 (zB zX s.2)]⟩)->ALoopU Try.prog B 1 114 (hold c .mk) ⟨[(0,am zP w),(3,li deep),(4,.ptr 0 0),(7,.ptr 2 0),(12,am zG v.1),(14,.own 3 (zA (α:=VarType) vars52)),(60,am zR p.kids),(61,li (p.kids.length:Int)),(62,li (i53:Int))],[.cells [li z51],.dead,.cells [li p.op,li p.ctor,li p.n,li p.m,li p.var,am zR p.kids],.elems 3 (zB zX vars52)]⟩ (hold Q .mk))/\
  (∀(p:Pattern) (deep:Int) (v:(List Ty)×Bool) (z:Int) (vars:List VarType) (i:Nat) (o:Lo ((List VarType)×Bool×Int) (Int×(List VarType))),F.f115 w p deep v z vars i=some o->∀(c:Code),Zo [1,1,1,1,1,1,1,0,1,0,0] (ZK Try.f69)=some c->∀(Q:Exit->ASt->Prop),o.post (fun r=>∀st,ZAK Try.prog Try.f69 (fun r' σ'=>r'.le (.tup [am zX r.1,.lit (.bool r.2.1)])/\ZBM σ' [li r.2.2]) .ret st->Q .ret st) (fun s=>Q (.exit 0) ⟨[(14,.own 4 (zA (α:=VarType) s.2))],[.cells [li s.1],.dead,.dead,.dead,.elems 3 (zB zX s.2)]⟩)->ALoopU Try.prog B 1 114 (hold c .mk) ⟨[(0,am zP w),(3,li deep),(4,.ptr 0 0),(7,.ptr 2 0),(12,am zG v.1),(14,.own 4 (zA (α:=VarType) vars)),(60,am zR p.kids),(61,li (p.kids.length:Int)),(62,li (i:Int))],[.cells [li z],.dead,.cells [li p.op,li p.ctor,li p.n,li p.m,li p.var,am zR p.kids],.dead,.elems 3 (zB zX vars)]⟩ (hold Q .mk))/\
  (∀(p:Pattern) (deep:Int) (v:(List Ty)×Bool) (z98:Int) (vars99:List VarType) (i100:Nat) (o:Lo ((List VarType)×Bool×Int) (Int×(List VarType))),F.f117 w p deep v z98 vars99 i100=some o->∀(c:Code),Zo [1,1,1,1,1,1,1,0,1,0,0] (ZK Try.f69)=some c->∀(Q:Exit->ASt->Prop),o.post (fun r=>∀st,ZAK Try.prog Try.f69 (fun r' σ'=>r'.le (.tup [am zX r.1,.lit (.bool r.2.1)])/\ZBM σ' [li r.2.2]) .ret st->Q .ret st) (fun s=>Q (.exit 0) ⟨[(14,.own 4 (zA (α:=VarType) s.2))],[.cells [li s.1],.dead,.dead,.dead,.elems 3 (zB zX s.2)]⟩)->ALoopU Try.prog B 1 114 (hold c .mk) ⟨[(0,am zP w),(3,li deep),(4,.ptr 0 0),(7,.ptr 2 0),(12,am zG v.1),(14,.own 4 (zA (α:=VarType) vars99)),(60,am zR p.kids),(61,li (p.kids.length:Int)),(62,li (i100:Int))],[.cells [li z98],.dead,.cells [li p.op,li p.ctor,li p.n,li p.m,li p.var,am zR p.kids],.dead,.elems 3 (zB zX vars99)]⟩ (hold Q .mk)):=by
 refine F.f114.mutual_partial_correctness w
  _ _ _ _
  ?_ ?_ ?_ ?_
 ·intro _f_f116 _f_f115 _f_f117 ih_f116 ih_f115 ih_f117 t p deep count r hF
  refine MutCall.inn Try.func69 rfl Try.ntmps69 ?_
  revert hF;refine kN ?_ ?_<;>intro h1 q2 hF
  ·refine kx2 h1 q2 ?_
   revert hF;refine aS ?_ ?_<;>intro h3 q4 hF
   ·cases hF
    exact kc3 h1 q2 h3
   ·refine kx4 h1 q2 h3 q4 ?_
    apply oB hF;intro v e5 hF
    refine((C.f102 B hB1 hB2 w t p v e5)).goI ?_
    refine kx4 h1 q2 h3 q4 ?_
    revert hF;refine aN (fun h6 q7 hF=> ?_) (fun h6 q7 hF=> ?_)
    ·cases hF
     exact kc6 h1 q2 h3 q4 h6 q7
    ·refine kx6 h1 q2 h3 q4 h6 q7 ?_
     revert hF;refine aN ?_ ?_<;>intro h8 q9 hF
     ·refine kx8 h1 q2 h3 q4 h6 q7 h8 q9 ?_
      revert hF;refine aS ?_ ?_<;>intro h10 q11 hF
      ·refine kx9 h1 q2 h3 q4 h6 q7 h8 q9 h10 ?_
       apply oB hF;intro o' ho36 hF
       refine zN _ ?_ ((ih_f115 p deep v (i64.wrap (count+1)) [(⟨p.var,t⟩:VarType)] 0 o' ho36) _ rfl _ ?_)
       ·exact(gT (by simp) (by simp -dsimp[h1,q2,h3,q4,h6,q7,h8,q9,h10]))
       rcases o' with r050|sx
       ·dsimp only at hF
        cases hF
        intro st h
        simpa using h
       ·dsimp only at hF
        refine kB hF fun o'48 ho47 hF=> ?_
        refine zN _ ?_ (((CC.f111 B hB1 hB2 sx) (fun _=>false) 0 o'48 ho47) _ rfl _ ?_)
        ·exact(gT (by simp) (by simp -dsimp))
        rcases o'48 with r0|sx49
        ·dsimp only at hF
         cases hF
         intro st h
         simpa using h
        ·dsimp only at hF
         cases hF
         exact kc0
      ·repeat first|refine cg ?_|simp -dsimp[h1,q2,h3,q4,h6,q7,h8,q9,h10,q11]
       apply oB hF;intro o'80 ho79 hF
       refine zN ⟨[(0,.arr (zB zP w)),(3,.lit (.int .i64 deep)),(4,.ptr 0 0),(7,.ptr 2 0),(12,.arr (zB zG v.1)),(14,.own 3 (zA (α:=VarType) [])),(60,.arr (zB zR p.kids)),(61,.lit (.int .i64 (p.kids.length:Int))),(62,.lit (.int .i64 0))],[.cells [.lit (.int .i64 (i64.wrap (count+1)))],.dead,.cells [.lit (.int .i64 p.op),.lit (.int .i64 p.ctor),.lit (.int .i64 p.n),.lit (.int .i64 p.m),.lit (.int .i64 p.var),.arr (zB zR p.kids)],.elems 3 (zB zX [])]⟩ (by refine zZ (yA 14 3 (by simp -dsimp)) ?_;exact(gT (by simp) (by simp -dsimp[h1,q2,h3,q4,h6,q7,h8,q9,h10,q11]))) ?_
       refine(ih_f116 p deep v (i64.wrap (count+1)) [] 0 o'80 ho79) _ rfl _ ?_
       rcases o'80 with r097|sx81
       ·dsimp only at hF
        cases hF
        intro st h
        simpa using h
       ·dsimp only at hF
        refine kB hF fun o'94 ho93 hF=> ?_
        refine zN _ ?_ (((CC.f112 B hB1 hB2 sx81) (fun _=>false) 0 o'94 ho93) _ rfl _ ?_)
        ·exact(gT (by simp) (by simp -dsimp))
        rcases o'94 with r096|sx95
        ·dsimp only at hF
         cases hF
         intro st h
         simpa using h
        ·dsimp only at hF
         cases hF
         exact kc0
     ·refine kx8 h1 q2 h3 q4 h6 q7 h8 q9 ?_
      apply oB hF;intro o'127 ho126 hF
      refine zN _ ?_ ((ih_f117 p deep v (i64.wrap (count+1)) [(⟨p.var,t⟩:VarType)] 0 o'127 ho126) _ rfl _ ?_)
      ·exact(gT (by simp) (by simp -dsimp[h1,q2,h3,q4,h6,q7,h8,q9]))
      rcases o'127 with r0144|sx128
      ·dsimp only at hF
       cases hF
       intro st h
       simpa using h
      ·dsimp only at hF
       refine kB hF fun o'141 ho140 hF=> ?_
       refine zN _ ?_ (((CC.f113 B hB1 hB2 sx128) (fun _=>false) 0 o'141 ho140) _ rfl _ ?_)
       ·exact(gT (by simp) (by simp -dsimp))
       rcases o'141 with r0143|sx142
       ·dsimp only at hF
        cases hF
        intro st h
        simpa using h
       ·dsimp only at hF
        cases hF
        exact kc0
  ·cases hF
   exact kc2 h1 q2
 ·intro _f_f114 _f_f116 ih_f114 ih_f116 p deep v z51 vars52 i53 o hF
  refine ZN rfl fun Q hq hk hs=> ?_
  have b0:=hk 0
  simp -dsimp at b0
  have b12:=hk 12
  simp -dsimp at b12
  have b60:=hk 60
  simp -dsimp at b60
  have d2:=hs 2 _ rfl
  simp -dsimp[zT]at d2
  have d3:=hs 3 _ rfl
  simp -dsimp[zT]at d3
  clear hk hs
  refine eN ?_
  revert hF;refine kS ?_ ?_<;>intro h54 q55 hF
  ·have z56:((i53:Int)<(p.kids.length:Int)):=auz
   apply oB hF;intro x57 e58 hF
   have le58:=ZD e58
   refine Zn h54 z56 e58 ?_
   refine zW [69] [(0,0),(0,0),(0,0),(0,0),(0,0),(0,0),(0,0),(0,0),(0,0),(0,1),(1,1),(1,1),(1,1),(1,1),(1,1)] [1,1,1,1,1,1,1,1,1,1,1,1,1,1,1] follows ?_
   apply oB hF;intro x59 e60 hF
   have le60:=ZD e60
   refine ZA1 h54 z56 e58 e60 ?_
   apply oB hF;intro v61 e62 hF
   refine((ih_f114 x59 x57 (i64.wrap (deep+1)) z51 v61 e62)).ego 0 rfl (by simp[h54,z56,↓e58,↓e60]) (by simp) (by simp[h54,z56,↓e58,↓e60]) ?_
   refine ZA1 h54 z56 e58 e60 ?_
   revert hF;refine aN (fun h63 q64 hF=> ?_) (fun h63 q64 hF=> ?_)
   ·cases hF
    refine ZAa h54 z56 e58 e60 h63 q64 ?_
    refine lG _ (gR _) (hq _ ?_)
    repeat first|refine cg ?_|simp -dsimp[h54,z56,↓e58,↓e60,h63,q64]
   ·refine ZAa h54 z56 e58 e60 h63 q64 ?_
    revert hF;refine aS ?_ ?_<;>intro h65 q66 hF
    ·repeat first|refine cg ?_|simp -dsimp[h54,z56,↓e58,↓e60,h63,q64,h65]
     revert hF;refine aS ?_ ?_<;>intro h67 q68 hF
     ·have z69:((i53:Int)=1):=auz
      repeat first|refine cg ?_|simp -dsimp[h54,z56,↓e58,↓e60,h63,q64,h65,eq_true h67,eq_true z69]
      apply oB hF;intro v70 e71 hF
      refine((C.f110 B hB1 hB2 vars52 v61.1 v70 e71)).lend (by simp -dsimp[h54,z56,↓e58,↓e60,h63,q64,h65,eq_true h67,eq_true z69]) (by simp -dsimp) ?_
      repeat first|refine cg ?_|simp -dsimp[h54,z56,↓e58,↓e60,h63,q64,h65,eq_true h67,eq_true z69]
      revert hF;refine aN (fun h72 q73 hF=> ?_) (fun h72 q73 hF=> ?_)
      ·cases hF
       repeat first|refine cg ?_|simp -dsimp[h54,z56,↓e58,↓e60,h63,q64,h65,eq_true h67,eq_true z69,h72,q73]
       refine lG _ (gR _) (hq _ ?_)
       repeat first|refine cg ?_|simp -dsimp[h54,z56,↓e58,↓e60,h63,q64,h65,eq_true h67,eq_true z69,h72,q73]
      ·have w74:i64.wrap ((i53:Int)+1)=(i53:Int)+1:=ZE (by omega) (by omega)
       repeat first|refine cg ?_|simp -dsimp[h54,z56,↓e58,↓e60,h63,q64,h65,eq_true h67,eq_true z69,h72,q73,w74]
       refine aG _ ?_ ((ih_f116 p deep v v61.2.2 vars52 (i53+1) o hF) _ rfl _ hq)
       exact(gT (by simp) (by simp -dsimp[h54,z56,↓e58,↓e60,h63,q64,h65,eq_true h67,eq_true z69,h72,q73,w74]))
     ·have z69:¬((i53:Int)=1):=auz
      apply oC hF;intro c75 hF
      have w76:i64.wrap ((i53:Int)+1)=(i53:Int)+1:=ZE (by omega) (by omega)
      repeat first|refine cg ?_|simp -dsimp[h54,z56,↓e58,↓e60,h63,q64,h65,h67,q68,z69,w76]
      refine aG _ ?_ ((ih_f116 p deep v v61.2.2 (vars52++v61.1) (i53+1) o hF) _ rfl _ hq)
      exact(gT (by simp) (by simp -dsimp[h54,z56,↓e58,↓e60,h63,q64,h65,h67,q68,z69,w76]))
    ·apply oC hF;intro c77 hF
     have w78:i64.wrap ((i53:Int)+1)=(i53:Int)+1:=ZE (by omega) (by omega)
     repeat first|refine cg ?_|simp -dsimp[h54,z56,↓e58,↓e60,h63,q64,h65,q66,w78]
     refine aG _ ?_ ((ih_f116 p deep v v61.2.2 (vars52++v61.1) (i53+1) o hF) _ rfl _ hq)
     exact(gT (by simp) (by simp -dsimp[h54,z56,↓e58,↓e60,h63,q64,h65,q66,w78]))
  ·have z56:¬((i53:Int)<(p.kids.length:Int)):=auz
   cases hF
   refine kx3 h54 q55 z56 ?_
   refine zL hq
 ·intro _f_f114 _f_f115 ih_f114 ih_f115 p deep v z vars i o hF
  refine ZN rfl fun Q hq hk hs=> ?_
  have b0:=hk 0
  simp -dsimp at b0
  have b12:=hk 12
  simp -dsimp at b12
  have b60:=hk 60
  simp -dsimp at b60
  have d2:=hs 2 _ rfl
  simp -dsimp[zT]at d2
  have d4:=hs 4 _ rfl
  simp -dsimp[zT]at d4
  clear hk hs
  refine eN ?_
  revert hF;refine kS ?_ ?_<;>intro h12 q13 hF
  ·have z14:((i:Int)<(p.kids.length:Int)):=auz
   apply oB hF;intro x e15 hF
   have le15:=ZD e15
   refine Zn h12 z14 e15 ?_
   refine zW [69] [(0,0),(0,0),(0,0),(0,0),(0,0),(0,0),(0,0),(0,0),(0,0),(0,1),(1,1),(1,1),(1,1),(1,1),(1,1)] [1,1,1,1,1,1,1,1,1,1,1,1,1,1,1] follows ?_
   apply oB hF;intro x16 e17 hF
   have le17:=ZD e17
   refine ZA1 h12 z14 e15 e17 ?_
   apply oB hF;intro v18 e19 hF
   refine((ih_f114 x16 x (i64.wrap (deep+1)) z v18 e19)).ego 0 rfl (by simp[h12,z14,↓e15,↓e17]) (by simp) (by simp[h12,z14,↓e15,↓e17]) ?_
   refine ZA1 h12 z14 e15 e17 ?_
   revert hF;refine aN (fun h20 q21 hF=> ?_) (fun h20 q21 hF=> ?_)
   ·cases hF
    refine ZAa h12 z14 e15 e17 h20 q21 ?_
    refine lG _ (gR _) (hq _ ?_)
    repeat first|refine cg ?_|simp -dsimp[h12,z14,↓e15,↓e17,h20,q21]
   ·refine ZAa h12 z14 e15 e17 h20 q21 ?_
    revert hF;refine aS ?_ ?_<;>intro h22 q23 hF
    ·repeat first|refine cg ?_|simp -dsimp[h12,z14,↓e15,↓e17,h20,q21,h22]
     revert hF;refine aS ?_ ?_<;>intro h24 q25 hF
     ·have z26:((i:Int)=1):=auz
      repeat first|refine cg ?_|simp -dsimp[h12,z14,↓e15,↓e17,h20,q21,h22,eq_true h24,eq_true z26]
      apply oB hF;intro v27 e28 hF
      refine((C.f110 B hB1 hB2 vars v18.1 v27 e28)).lend (by simp -dsimp[h12,z14,↓e15,↓e17,h20,q21,h22,eq_true h24,eq_true z26]) (by simp -dsimp) ?_
      repeat first|refine cg ?_|simp -dsimp[h12,z14,↓e15,↓e17,h20,q21,h22,eq_true h24,eq_true z26]
      revert hF;refine aN (fun h29 q30 hF=> ?_) (fun h29 q30 hF=> ?_)
      ·cases hF
       repeat first|refine cg ?_|simp -dsimp[h12,z14,↓e15,↓e17,h20,q21,h22,eq_true h24,eq_true z26,h29,q30]
       refine lG _ (gR _) (hq _ ?_)
       repeat first|refine cg ?_|simp -dsimp[h12,z14,↓e15,↓e17,h20,q21,h22,eq_true h24,eq_true z26,h29,q30]
      ·have w31:i64.wrap ((i:Int)+1)=(i:Int)+1:=ZE (by omega) (by omega)
       repeat first|refine cg ?_|simp -dsimp[h12,z14,↓e15,↓e17,h20,q21,h22,eq_true h24,eq_true z26,h29,q30,w31]
       refine aG _ ?_ ((ih_f115 p deep v v18.2.2 vars (i+1) o hF) _ rfl _ hq)
       exact(gT (by simp) (by simp -dsimp[h12,z14,↓e15,↓e17,h20,q21,h22,eq_true h24,eq_true z26,h29,q30,w31]))
     ·have z26:¬((i:Int)=1):=auz
      apply oC hF;intro c32 hF
      have w33:i64.wrap ((i:Int)+1)=(i:Int)+1:=ZE (by omega) (by omega)
      repeat first|refine cg ?_|simp -dsimp[h12,z14,↓e15,↓e17,h20,q21,h22,h24,q25,z26,w33]
      refine aG _ ?_ ((ih_f115 p deep v v18.2.2 (vars++v18.1) (i+1) o hF) _ rfl _ hq)
      exact(gT (by simp) (by simp -dsimp[h12,z14,↓e15,↓e17,h20,q21,h22,h24,q25,z26,w33]))
    ·apply oC hF;intro c34 hF
     have w35:i64.wrap ((i:Int)+1)=(i:Int)+1:=ZE (by omega) (by omega)
     repeat first|refine cg ?_|simp -dsimp[h12,z14,↓e15,↓e17,h20,q21,h22,q23,w35]
     refine aG _ ?_ ((ih_f115 p deep v v18.2.2 (vars++v18.1) (i+1) o hF) _ rfl _ hq)
     exact(gT (by simp) (by simp -dsimp[h12,z14,↓e15,↓e17,h20,q21,h22,q23,w35]))
  ·have z14:¬((i:Int)<(p.kids.length:Int)):=auz
   cases hF
   refine kx3 h12 q13 z14 ?_
   refine zL hq
 ·intro _f_f114 _f_f117 ih_f114 ih_f117 p deep v z98 vars99 i100 o hF
  refine ZN rfl fun Q hq hk hs=> ?_
  have b0:=hk 0
  simp -dsimp at b0
  have b12:=hk 12
  simp -dsimp at b12
  have b60:=hk 60
  simp -dsimp at b60
  have d2:=hs 2 _ rfl
  simp -dsimp[zT]at d2
  have d4:=hs 4 _ rfl
  simp -dsimp[zT]at d4
  clear hk hs
  refine eN ?_
  revert hF;refine kS ?_ ?_<;>intro h101 q102 hF
  ·have z103:((i100:Int)<(p.kids.length:Int)):=auz
   apply oB hF;intro x104 e105 hF
   have le105:=ZD e105
   refine Zn h101 z103 e105 ?_
   refine zW [69] [(0,0),(0,0),(0,0),(0,0),(0,0),(0,0),(0,0),(0,0),(0,0),(0,1),(1,1),(1,1),(1,1),(1,1),(1,1)] [1,1,1,1,1,1,1,1,1,1,1,1,1,1,1] follows ?_
   apply oB hF;intro x106 e107 hF
   have le107:=ZD e107
   refine ZA1 h101 z103 e105 e107 ?_
   apply oB hF;intro v108 e109 hF
   refine((ih_f114 x106 x104 (i64.wrap (deep+1)) z98 v108 e109)).ego 0 rfl (by simp[h101,z103,↓e105,↓e107]) (by simp) (by simp[h101,z103,↓e105,↓e107]) ?_
   refine ZA1 h101 z103 e105 e107 ?_
   revert hF;refine aN (fun h110 q111 hF=> ?_) (fun h110 q111 hF=> ?_)
   ·cases hF
    refine ZAa h101 z103 e105 e107 h110 q111 ?_
    refine lG _ (gR _) (hq _ ?_)
    repeat first|refine cg ?_|simp -dsimp[h101,z103,↓e105,↓e107,h110,q111]
   ·refine ZAa h101 z103 e105 e107 h110 q111 ?_
    revert hF;refine aS ?_ ?_<;>intro h112 q113 hF
    ·repeat first|refine cg ?_|simp -dsimp[h101,z103,↓e105,↓e107,h110,q111,h112]
     revert hF;refine aS ?_ ?_<;>intro h114 q115 hF
     ·have z116:((i100:Int)=1):=auz
      repeat first|refine cg ?_|simp -dsimp[h101,z103,↓e105,↓e107,h110,q111,h112,eq_true h114,eq_true z116]
      apply oB hF;intro v117 e118 hF
      refine((C.f110 B hB1 hB2 vars99 v108.1 v117 e118)).lend (by simp -dsimp[h101,z103,↓e105,↓e107,h110,q111,h112,eq_true h114,eq_true z116]) (by simp -dsimp) ?_
      repeat first|refine cg ?_|simp -dsimp[h101,z103,↓e105,↓e107,h110,q111,h112,eq_true h114,eq_true z116]
      revert hF;refine aN (fun h119 q120 hF=> ?_) (fun h119 q120 hF=> ?_)
      ·cases hF
       repeat first|refine cg ?_|simp -dsimp[h101,z103,↓e105,↓e107,h110,q111,h112,eq_true h114,eq_true z116,h119,q120]
       refine lG _ (gR _) (hq _ ?_)
       repeat first|refine cg ?_|simp -dsimp[h101,z103,↓e105,↓e107,h110,q111,h112,eq_true h114,eq_true z116,h119,q120]
      ·have w121:i64.wrap ((i100:Int)+1)=(i100:Int)+1:=ZE (by omega) (by omega)
       repeat first|refine cg ?_|simp -dsimp[h101,z103,↓e105,↓e107,h110,q111,h112,eq_true h114,eq_true z116,h119,q120,w121]
       refine aG _ ?_ ((ih_f117 p deep v v108.2.2 vars99 (i100+1) o hF) _ rfl _ hq)
       exact(gT (by simp) (by simp -dsimp[h101,z103,↓e105,↓e107,h110,q111,h112,eq_true h114,eq_true z116,h119,q120,w121]))
     ·have z116:¬((i100:Int)=1):=auz
      apply oC hF;intro c122 hF
      have w123:i64.wrap ((i100:Int)+1)=(i100:Int)+1:=ZE (by omega) (by omega)
      repeat first|refine cg ?_|simp -dsimp[h101,z103,↓e105,↓e107,h110,q111,h112,h114,q115,z116,w123]
      refine aG _ ?_ ((ih_f117 p deep v v108.2.2 (vars99++v108.1) (i100+1) o hF) _ rfl _ hq)
      exact(gT (by simp) (by simp -dsimp[h101,z103,↓e105,↓e107,h110,q111,h112,h114,q115,z116,w123]))
    ·apply oC hF;intro c124 hF
     have w125:i64.wrap ((i100:Int)+1)=(i100:Int)+1:=ZE (by omega) (by omega)
     repeat first|refine cg ?_|simp -dsimp[h101,z103,↓e105,↓e107,h110,q111,h112,q113,w125]
     refine aG _ ?_ ((ih_f117 p deep v v108.2.2 (vars99++v108.1) (i100+1) o hF) _ rfl _ hq)
     exact(gT (by simp) (by simp -dsimp[h101,z103,↓e105,↓e107,h110,q111,h112,q113,w125]))
  ·have z103:¬((i100:Int)<(p.kids.length:Int)):=auz
   cases hF
   refine kx3 h101 q102 z103 ?_
   refine zL hq
theorem C.f118 (w:List zO)(t:Ty)(p:Pattern)(r:(List VarType)×Bool)(hF:F.f118 w t p=some r):PureCall Try.prog B 51 [am zP w,.agg [li t.data,li t.index],.agg [li p.op,li p.ctor,li p.n,li p.m,li p.var,am zR p.kids]] (.tup [am zX r.1,.lit (.bool r.2)]):=by
 unfold F.f118 at hF
 refine zH Try.func51 rfl Try.ntmps51 ?_
 refine kB hF fun v e1 hF=> ?_
 refine(((CC.f114 B hB1 hB2 w).1 t p 1 0 v e1)).go 2 rfl (by simp) (by simp) (by simp) ?_
 cases hF
 exact kc0
theorem C.f119 (w:List zO)(t:Ty)(p:Pattern)(r:Bool)(hF:F.f119 w t p=some r):PureCall Try.prog B 34 [am zP w,.agg [li t.data,li t.index],.agg [li p.op,li p.ctor,li p.n,li p.m,li p.var,am zR p.kids]] (.lit (.bool r)):=by
 unfold F.f119 at hF
 refine pE Try.func34 (by kernel_rfl) rfl Try.ntmps34 (by simp) (by simp) ?_
 refine kB hF fun v e1 hF=> ?_
 refine((C.f118 B hB1 hB2 w t p v e1)).goW (by simp) (by simp) ?_
 cases hF
 repeat first|refine cg ?_|simp -dsimp
 all_goals(try first|omega|rfl)
theorem C.f120 (w:List zO)(t:Ty)(p:Pattern)(r:Bool)(hF:F.f120 w t p=some r):PureCall Try.prog B 20 [am zP w,.agg [li t.data,li t.index],.agg [li p.op,li p.ctor,li p.n,li p.m,li p.var,am zR p.kids]] (.lit (.bool r)):=by
 unfold F.f120 at hF
 refine pE Try.func20 (by kernel_rfl) rfl Try.ntmps20 (by simp) (by simp) ?_
 refine kB hF fun v e1 hF=> ?_
 refine((C.f91 B hB1 hB2 w t v e1)).goW (by simp) (by simp) ?_
 revert hF;refine kS (fun h2 q3 hF=> ?_) (fun h2 q3 hF=> ?_)
 ·refine kx1 h2 ?_
  apply oB hF;intro v4 e5 hF
  refine((C.f119 B hB1 hB2 w t p v4 e5)).goW (by first|simp[h2];done|simp_all) (by simp) ?_
  cases hF
  repeat first|refine cg ?_|simp -dsimp[h2]
  all_goals(try first|omega|rfl)
 ·cases hF
  repeat first|refine cg ?_|simp -dsimp[h2,q3]
  all_goals(try first|omega|rfl)
theorem C.f121 (d:Nat->Int)(t:Ty)(r:Int)(hF:F.f121 d t=some r):PureCall Try.prog B 36 [.rptr (fcI 16 d) 0,.agg [li t.data,li t.index]] (li r):=by
 unfold F.f121 at hF
 refine pE Try.func36 (by kernel_rfl) rfl Try.ntmps36 (by simp) (by simp) ?_
 revert hF;refine kS ?_ ?_<;>intro h1 q2 hF
 ·cases hF
  repeat first|refine cg ?_|simp -dsimp[h1]
  all_goals(try first|omega|rfl)
 ·refine kx2 h1 q2 ?_
  refine zV follows (by kernel_rfl) (by kernel_rfl) ?_
  apply oC hF;intro c3 hF
  apply oC hF;intro c4 hF
  have f5:t.data.toNat*4+t.index.toNat<16:=by omega
  cases hF
  repeat first|refine cg ?_|simp -dsimp[h1,q2,c3,c4,f5]
  all_goals(try first|omega|rfl)
theorem CC.f122 (d:Nat->Int)(v:List Ty):(∀(i:Nat) (most:Int) (o:Lo Int Int),F.f122 d v i most=some o->∀(c:Code),Zo [1,1,0,1,0,0] (ZK Try.f53)=some c->∀(Q:Exit->ASt->Prop),o.post (fun r=>∀st,ZAK Try.prog Try.f53 (fun r' _=>r'.le (li r)) .ret st->Q .ret st) (fun s=>Q (.exit 0) ⟨[(9,li s)],[]⟩)->ALoopU Try.prog B 0 33 (hold c .mk) ⟨[(0,.rptr (fcI 16 d) 0),(9,li most),(16,am zG v),(17,li (v.length:Int)),(18,li (i:Int))],[]⟩ (hold Q .mk)):=by
 refine F.f122.partial_correctness d v
  _
  ?_
 ·intro _f_f122 ih_f122 i most o hF
  intro c hc Q hq
  obtain rfl:c=_:=ZD0 hc rfl
  refine zY fun hk hs=> ?_
  have b16:=hk 16
  simp -dsimp at b16
  clear hk hs
  refine eN ?_
  revert hF;refine kS ?_ ?_<;>intro h2 q3 hF
  ·have z4:((i:Int)<(v.length:Int)):=auz
   apply oB hF;intro x e5 hF
   have le5:=ZD e5
   refine Zn h2 z4 e5 ?_
   apply oB hF;intro v6 e7 hF
   refine((C.f121 B hB1 hB2 d x v6 e7)).goW (by first|simp[h2,z4,↓e5];done|simp_all) (by simp) ?_
   refine Zn h2 z4 e5 ?_
   revert hF;refine aS ?_ ?_<;>intro h8 q9 hF
   ·cases hF
    repeat first|refine cg ?_|simp -dsimp[h2,z4,↓e5,eq_true h8]
    refine lG _ (gR _) (hq _ ?_)
    repeat first|refine cg ?_|simp -dsimp[h2,z4,↓e5,eq_true h8]
   ·have w10:i64.wrap ((i:Int)+1)=(i:Int)+1:=ZE (by omega) (by omega)
    repeat first|refine cg ?_|simp -dsimp[h2,z4,↓e5,h8,q9,w10]
    refine aG _ ?_ ((ih_f122 (i+1) (if v6>most then v6 else most) o hF) _ rfl _ hq)
    exact(gT (by simp) (by first|simp -dsimp[h2,z4,↓e5,h8,q9,w10];done|simp_all))
  ·have z4:¬((i:Int)<(v.length:Int)):=auz
   cases hF
   refine kx3 h2 q3 z4 ?_
   refine lG _ (gT (by simp) (by first|simp -dsimp[h2,q3,z4];done|simp_all)) hq
theorem C.f123 (d:Nat->Int)(w:List zO)(t:Ty)(ctor:Int)(r:Int)(hF:F.f123 d w t ctor=some r):PureCall Try.prog B 53 [.rptr (fcI 16 d) 0,am zP w,.agg [li t.data,li t.index],li ctor] (li r):=by
 unfold F.f123 at hF
 refine pE Try.func53 (by kernel_rfl) rfl Try.ntmps53 (by simp) (by simp) ?_
 refine kB hF fun v e1 hF=> ?_
 refine((C.f101 B hB1 hB2 w t ctor v e1)).goW (by simp) (by simp) ?_
 refine kB hF fun o' ho11 hF=> ?_
 refine zN _ ?_ (((CC.f122 B hB1 hB2 d v) 0 0 o' ho11) _ rfl _ ?_)
 ·exact(gT (by simp) (by simp -dsimp))
 rcases o' with r0|sx
 ·dsimp only at hF
  cases hF
  intro st h
  simpa using h
 ·dsimp only at hF
  cases hF
  repeat first|refine cg ?_|simp -dsimp
  all_goals(try first|omega|rfl)
theorem CC.impl_depthsOf__p_l4 (w:List zO)(i:Nat)(index':Nat)(v:List Int):(∀(set'14:Nat->Int) (i15:Nat) (changed16:Bool) (o:(Nat->Int)×Bool),F.f124 w i index' v set'14 i15 changed16=some o->∀(c:Code),Zo [1,1,0,1,0,0,1,0,1,1,0,0,1,1,0,0,1,1,0,0,1,0,0,1,1,0,0] (ZK Try.f35)=some c->∀(Q:Exit->ASt->Prop),(Q (.exit 6) ⟨[(0,am zP w),(3,.ptr 0 0),(4,.lit (.bool o.2)),(5,li (i:Int)),(6,li (index':Int)),(15,li (w.length:Int)),(16,li (i:Int))],[.cells (fcI 16 o.1)]⟩)->ALoopU Try.prog B 0 64 (hold c .mk) ⟨[(0,am zP w),(3,.ptr 0 0),(4,.lit (.bool changed16)),(5,li (i:Int)),(6,li (index':Int)),(7,.ptr 1 0),(15,li (w.length:Int)),(16,li (i:Int)),(28,am cI v),(29,li (v.length:Int)),(30,li (i15:Int))],[.cells (fcI 16 set'14),.cells [li (i:Int),li (index':Int)]]⟩ (hold Q .mk)):=by
 refine F.f124.partial_correctness w i index' v
  _
  ?_
 ·intro _f_impl_depthsOf__p_l4 ih_impl_depthsOf__p_l4 set'14 i15 changed16 o hF
  intro c hc Q hq
  obtain rfl:c=_:=ZD0 hc rfl
  refine zY fun hk hs=> ?_
  have b0:=hk 0
  simp -dsimp at b0
  have b28:=hk 28
  simp -dsimp at b28
  clear hk hs
  refine eN ?_
  revert hF;refine kS ?_ ?_<;>intro h17 q18 hF
  ·have z19:((i15:Int)<(v.length:Int)):=auz
   apply oB hF;intro x e20 hF
   have le20:=ZD e20
   refine Zn h17 z19 e20 ?_
   apply oB hF;intro v21 e22 hF
   refine((C.f123 B hB1 hB2 set'14 w (⟨(i:Int),(index':Int)⟩:Ty) x v21 e22)).lend (by first|simp -dsimp[h17,z19,↓e20];done|simp_all) (by simp -dsimp) ?_
   refine Zn h17 z19 e20 ?_
   revert hF;refine aS ?_ ?_<;>intro h23 q24 hF
   ·repeat first|refine cg ?_|simp -dsimp[h17,z19,↓e20,h23]
    apply oB hF;intro v25 e26 hF
    refine((C.f121 B hB1 hB2 set'14 (⟨(i:Int),(index':Int)⟩:Ty) v25 e26)).lend (by first|simp -dsimp[h17,z19,↓e20,h23];done|simp_all) (by simp -dsimp) ?_
    repeat first|refine cg ?_|simp -dsimp[h17,z19,↓e20,h23]
    revert hF;refine aN ?_ ?_<;>intro h27 q28 hF
    ·repeat first|refine cg ?_|simp -dsimp[h17,z19,↓e20,h23,h27,q28]
     apply oB hF;intro v29 e30 hF
     refine((C.f121 B hB1 hB2 set'14 (⟨(i:Int),(index':Int)⟩:Ty) v29 e30)).lend (by first|simp -dsimp[h17,z19,↓e20,h23,h27,q28];done|simp_all) (by simp -dsimp) ?_
     repeat first|refine cg ?_|simp -dsimp[h17,z19,↓e20,h23,h27,q28]
     revert hF;refine aS ?_ ?_<;>intro h31 q32 hF
     ·apply oC hF;intro c33 hF
      apply oC hF;intro c34 hF
      have f35:i*4+index'<16:=by omega
      have w36:i64.wrap ((i15:Int)+1)=(i15:Int)+1:=ZE (by omega) (by omega)
      repeat first|refine cg ?_|simp -dsimp[h17,z19,↓e20,h23,h27,q28,h31,c33,c34,f35,w36]
      refine aG _ ?_ ((ih_impl_depthsOf__p_l4 (updF set'14 (i*4+index') v21) (i15+1) true o hF) _ rfl _ hq)
      exact(gT (by simp) (by first|simp -dsimp[h17,z19,↓e20,h23,h27,q28,h31,c33,c34,f35,w36];done|simp_all))
     ·have w37:i64.wrap ((i15:Int)+1)=(i15:Int)+1:=ZE (by omega) (by omega)
      repeat first|refine cg ?_|simp -dsimp[h17,z19,↓e20,h23,h27,q28,h31,q32,w37]
      refine aG _ ?_ ((ih_impl_depthsOf__p_l4 set'14 (i15+1) changed16 o hF) _ rfl _ hq)
      exact(gT (by simp) (by first|simp -dsimp[h17,z19,↓e20,h23,h27,q28,h31,q32,w37];done|simp_all))
    ·apply oC hF;intro c38 hF
     apply oC hF;intro c39 hF
     have f40:i*4+index'<16:=by omega
     have w41:i64.wrap ((i15:Int)+1)=(i15:Int)+1:=ZE (by omega) (by omega)
     repeat first|refine cg ?_|simp -dsimp[h17,z19,↓e20,h23,eq_true h27,eq_true q28,c38,c39,f40,w41]
     refine aG _ ?_ ((ih_impl_depthsOf__p_l4 (updF set'14 (i*4+index') v21) (i15+1) true o hF) _ rfl _ hq)
     exact(gT (by simp) (by first|simp -dsimp[h17,z19,↓e20,h23,eq_true h27,eq_true q28,c38,c39,f40,w41];done|simp_all))
   ·have w42:i64.wrap ((i15:Int)+1)=(i15:Int)+1:=ZE (by omega) (by omega)
    repeat first|refine cg ?_|simp -dsimp[h17,z19,↓e20,h23,q24,w42]
    refine aG _ ?_ ((ih_impl_depthsOf__p_l4 set'14 (i15+1) changed16 o hF) _ rfl _ hq)
    exact(gT (by simp) (by first|simp -dsimp[h17,z19,↓e20,h23,q24,w42];done|simp_all))
  ·have z19:¬((i15:Int)<(v.length:Int)):=auz
   cases hF
   refine kx3 h17 q18 z19 ?_
   refine lG _ (gT (by simp) (by first|simp -dsimp[h17,q18,z19];done|simp_all)) hq
theorem CC.impl_depthsOf__p_l3 (w:List zO)(i:Nat):(∀(set'8:Nat->Int) (changed9:Bool) (index':Nat) (o:(Nat->Int)×Bool),F.f125 w i set'8 changed9 index'=some o->∀(c:Code),Zo [1,1,0,1,0,0,1,0,1,1,0,0,1,1,0,0,1,1,0,0] (ZK Try.f35)=some c->∀(Q:Exit->ASt->Prop),(Q (.exit 4) ⟨[(0,am zP w),(3,.ptr 0 0),(4,.lit (.bool o.2)),(15,li (w.length:Int)),(16,li (i:Int))],[.cells (fcI 16 o.1)]⟩)->ALoopU Try.prog B 0 64 (hold c .mk) ⟨[(0,am zP w),(3,.ptr 0 0),(4,.lit (.bool changed9)),(5,li (i:Int)),(6,li (index':Int)),(15,li (w.length:Int)),(16,li (i:Int))],[.cells (fcI 16 set'8)]⟩ (hold Q .mk)):=by
 refine F.f125.partial_correctness w i
  _
  ?_
 ·intro _f_impl_depthsOf__p_l3 ih_impl_depthsOf__p_l3 set'8 changed9 index' o hF
  intro c hc Q hq
  obtain rfl:c=_:=ZD0 hc rfl
  refine zY fun hk hs=> ?_
  have b0:=hk 0
  simp -dsimp at b0
  clear hk hs
  refine eN ?_
  revert hF;refine kS ?_ ?_<;>intro h10 q11 hF
  ·have z12:((index':Int)<=3):=auz
   refine kx2 h10 z12 ?_
   apply oB hF;intro v e13 hF
   refine((C.f95 B hB1 hB2 w (⟨(i:Int),(index':Int)⟩:Ty) v e13)).goW (by first|simp[h10,z12];done|simp_all) (by simp) ?_
   refine kx2 h10 z12 ?_
   apply oB hF;intro o' ho43 hF
   refine zN _ ?_ (((CC.impl_depthsOf__p_l4 B hB1 hB2 w i index' v) set'8 0 changed9 o' ho43) _ rfl _ ?_)
   ·exact(gT (by simp) (by first|simp -dsimp[h10,z12];done|simp_all))
   apply oC hF;intro c44 hF
   have w45:i64.wrap ((index':Int)+1)=(index':Int)+1:=ZE (by omega) (by omega)
   refine kx1 w45 ?_
   refine aG _ ?_ ((ih_impl_depthsOf__p_l3 o'.1 o'.2 (index'+1) o hF) _ rfl _ hq)
   exact(gT (by simp) (by first|simp -dsimp[w45];done|simp_all))
  ·have z12:¬((index':Int)<=3):=auz
   cases hF
   refine kx3 h10 q11 z12 ?_
   refine lG _ (gT (by simp) (by first|simp -dsimp[h10,q11,z12];done|simp_all)) hq
theorem CC.impl_depthsOf__p_l2 (w:List zO):(∀(set'3:Nat->Int) (i:Nat) (changed4:Bool) (o:(Nat->Int)×Bool),F.f126 w set'3 i changed4=some o->∀(c:Code),Zo [1,1,0,1,0,0,1,0,1,1,0,0] (ZK Try.f35)=some c->∀(Q:Exit->ASt->Prop),(Q (.exit 2) ⟨[(0,am zP w),(3,.ptr 0 0),(4,.lit (.bool o.2))],[.cells (fcI 16 o.1)]⟩)->ALoopU Try.prog B 0 64 (hold c .mk) ⟨[(0,am zP w),(3,.ptr 0 0),(4,.lit (.bool changed4)),(15,li (w.length:Int)),(16,li (i:Int))],[.cells (fcI 16 set'3)]⟩ (hold Q .mk)):=by
 refine F.f126.partial_correctness w
  _
  ?_
 ·intro _f_impl_depthsOf__p_l2 ih_impl_depthsOf__p_l2 set'3 i changed4 o hF
  intro c hc Q hq
  obtain rfl:c=_:=ZD0 hc rfl
  refine zY fun hk hs=> ?_
  have b0:=hk 0
  simp -dsimp at b0
  clear hk hs
  refine eN ?_
  revert hF;refine kS ?_ ?_<;>intro h5 q6 hF
  ·have z7:((i:Int)<(w.length:Int)):=auz
   refine kx2 h5 z7 ?_
   apply oB hF;intro o'47 ho46 hF
   refine zN _ ?_ (((CC.impl_depthsOf__p_l3 B hB1 hB2 w i) set'3 changed4 0 o'47 ho46) _ rfl _ ?_)
   ·exact(gT (by simp) (by first|simp -dsimp[h5,z7];done|simp_all))
   apply oC hF;intro c48 hF
   have w49:i64.wrap ((i:Int)+1)=(i:Int)+1:=ZE (by omega) (by omega)
   refine kx1 w49 ?_
   refine aG _ ?_ ((ih_impl_depthsOf__p_l2 o'47.1 (i+1) o'47.2 o hF) _ rfl _ hq)
   exact(gT (by simp) (by first|simp -dsimp[w49];done|simp_all))
  ·have z7:¬((i:Int)<(w.length:Int)):=auz
   cases hF
   refine kx3 h5 q6 z7 ?_
   refine lG _ (gT (by simp) (by first|simp -dsimp[h5,q6,z7];done|simp_all)) hq
theorem CC.impl_depthsOf__p_l1 (w:List zO):(∀(set':Nat->Int) (changed:Bool) (o:Nat->Int),F.f127 w set' changed=some o->∀(c:Code),Zo [1,1,0,1,0,0] (ZK Try.f35)=some c->∀(Q:Exit->ASt->Prop),(Q (.exit 0) ⟨[(3,.ptr 0 0)],[.cells (fcI 16 o)]⟩)->ALoopU Try.prog B 0 64 (hold c .mk) ⟨[(0,am zP w),(3,.ptr 0 0),(4,.lit (.bool changed))],[.cells (fcI 16 set')]⟩ (hold Q .mk)):=by
 refine F.f127.partial_correctness w
  _
  ?_
 ·intro _f_impl_depthsOf__p_l1 ih_impl_depthsOf__p_l1 set' changed o hF
  intro c hc Q hq
  obtain rfl:c=_:=ZD0 hc rfl
  refine zY fun hk hs=> ?_
  have b0:=hk 0
  simp -dsimp at b0
  clear hk hs
  refine eN ?_
  revert hF;refine kS (fun h1 q2 hF=> ?_) (fun h1 q2 hF=> ?_)
  ·refine kx1 h1 ?_
   apply oB hF;intro o'51 ho50 hF
   refine zN _ ?_ (((CC.impl_depthsOf__p_l2 B hB1 hB2 w) set' 0 false o'51 ho50) _ rfl _ ?_)
   ·exact(gT (by simp) (by first|simp -dsimp[h1];done|simp_all))
   refine kx0 ?_
   refine aG _ ?_ ((ih_impl_depthsOf__p_l1 o'51.1 o'51.2 o hF) _ rfl _ hq)
   exact(gT (by simp) (by simp -dsimp))
  ·cases hF
   refine kx2 h1 q2 ?_
   refine lG _ (gT (by simp) (by first|simp -dsimp[h1,q2];done|simp_all)) hq
theorem C.impl_depthsOf__p (w:List zO)(r:Nat->Int)(hF:F.f128 w=some r):BCall Try.prog B 35 [] [am zP w] (.ptr 0 0) [.cells (fcI 16 r)]:=by
 unfold F.f128 at hF
 refine BCall.enter Try.func35 (by kernel_rfl) rfl Try.ntmps35 (by simp) rfl (by simp) (by simp) (by simp) (by simp) (by simp) (gR _) ?_
 refine kB hF fun o'53 ho52 hF=> ?_
 refine zN _ ?_ (((CC.impl_depthsOf__p_l1 B hB1 hB2 w) (fun _=>0) true o'53 ho52) _ rfl _ ?_)
 ·exact(gT (by simp) (by simp -dsimp))
 cases hF
 repeat first|refine cg ?_|simp -dsimp
 all_goals(try first|omega|rfl|(simp;done)|(simp only[zD,zE]at*;omega)|simp)
theorem C.impl_newSpaces__p (w:List zO)(r:ZP)(hF:F.f129 w=some r):BCall Try.prog B 21 [] [am zP w] (.ptr 1 0) [.cells (fcI 16 r.f1),.cells [am zP r.f0,.ptr 0 0]]:=by
 unfold F.f129 at hF
 refine BCall.enter Try.func21 (by kernel_rfl) rfl Try.ntmps21 (by simp) rfl (by simp) (by simp) (by simp) (by simp) (by simp) (gR _) ?_
 refine kB hF fun v e1 hF=> ?_
 refine((C.impl_depthsOf__p B hB1 hB2 w v e1)).go (pl [0]) (by simp) (by simp) (by intro i j hi;simp at hi) (by intro i hi hi';simp at hi hi';first|omega|(subst hi';simp[pl])) (by simp) (by simp) ?_
 cases hF
 repeat first|refine cg ?_|simp -dsimp
 all_goals(try first|omega|rfl|(simp;done)|(simp only[zD,zE]at*;omega)|simp)
theorem C.f130 (w:List zO)(t:Ty)(p:Pattern)(r:List Ty)(hF:F.f130 w t p=some r):PureCall Try.prog B 37 [am zP w,.agg [li t.data,li t.index],.agg [li p.op,li p.ctor,li p.n,li p.m,li p.var,am zR p.kids]] (am zG r):=by
 unfold F.f130 at hF
 refine pE Try.func37 (by kernel_rfl) rfl Try.ntmps37 (by simp) (by simp) ?_
 refine kB hF fun v e1 hF=> ?_
 refine((C.f102 B hB1 hB2 w t p v e1)).goW (by simp) (by simp) ?_
 cases hF
 repeat first|refine cg ?_|simp -dsimp
 all_goals(try first|omega|rfl)
theorem CC.f131 (s:ZP):(∀(t:Ty) (p:Pattern) (r:Bool),F.f131 s t p=some r->PureCall Try.prog B 22 [.rptr [am zP s.f0,.rptr (fcI 16 s.f1) 0] 0,.agg [li t.data,li t.index],.agg [li p.op,li p.ctor,li p.n,li p.m,li p.var,am zR p.kids]] (.lit (.bool r)))/\
  (∀(p:Pattern) (v19:List Ty) (i:Nat) (o:Lo Bool Unit),F.f132 s p v19 i=some o->∀(c:Code),Zo [1,1,0,1,0,0] (ZK Try.f22)=some c->∀(Q:Exit->ASt->Prop),o.post (fun r=>∀st,ZAK Try.prog Try.f22 (fun r' _=>r'.le (.lit (.bool r))) .ret st->Q .ret st) (fun s=>Q (.exit 1) ⟨[],[]⟩)->ALoopU Try.prog B 0 61 (hold c .mk) ⟨[(0,.rptr [am zP s.f0,.rptr (fcI 16 s.f1) 0] 0),(5,.ptr 1 0),(45,am zG v19),(46,li (v19.length:Int)),(47,li (i:Int))],[.dead,.cells [li p.op,li p.ctor,li p.n,li p.m,li p.var,am zR p.kids]]⟩ (hold Q .mk)):=by
 refine F.f131.mutual_partial_correctness s
  _ _
  ?_ ?_
 ·intro _f_f131 _f_f132 ih_f131 ih_f132 t p r hF
  refine pE Try.func22 (by kernel_rfl) rfl Try.ntmps22 (by simp) (by simp) ?_
  revert hF;refine kS ?_ ?_<;>intro h1 q2 hF
  ·refine kx1 h1 ?_
   refine zV follows (by kernel_rfl) (by kernel_rfl) ?_
   refine kx1 h1 ?_
   apply oB hF;intro v e3 hF
   refine((C.f121 B hB1 hB2 s.f1 t v e3)).pgoW (by first|simp[h1];done|simp_all) (by simp) ?_
   cases hF
   repeat first|refine cg ?_|simp -dsimp[h1]
   all_goals(try first|omega|rfl)
  ·refine kx2 h1 q2 ?_
   revert hF;refine aS ?_ ?_<;>intro h4 q5 hF
   ·refine kx3 h1 q2 h4 ?_
    refine zV follows (by kernel_rfl) (by kernel_rfl) ?_
    refine kx3 h1 q2 h4 ?_
    apply oB hF;intro v6 e7 hF
    refine((C.f121 B hB1 hB2 s.f1 t v6 e7)).pgoW (by first|simp[h1,q2,h4];done|simp_all) (by simp) ?_
    cases hF
    repeat first|refine cg ?_|simp -dsimp[h1,q2,h4]
    all_goals(try first|omega|rfl)
   ·refine kx4 h1 q2 h4 q5 ?_
    revert hF;refine aS ?_ ?_<;>intro h8 q9 hF
    ·refine kx5 h1 q2 h4 q5 h8 ?_
     refine zV follows (by kernel_rfl) (by kernel_rfl) ?_
     apply oB hF;intro x e10 hF
     have le10:=ZD e10
     repeat first|refine cg ?_|simp -dsimp[h1,q2,h4,q5,h8,↓e10]
     apply oB hF;intro v11 e12 hF
     refine((ih_f131 t x v11 e12)).pgoW (by first|simp[h1,q2,h4,q5,h8,↓e10];done|simp_all) (by simp) ?_
     repeat first|refine cg ?_|simp -dsimp[h1,q2,h4,q5,h8,↓e10]
     revert hF;refine aS (fun h13 q14 hF=> ?_) (fun h13 q14 hF=> ?_)
     ·apply oB hF;intro x15 e16 hF
      have le16:=ZD e16
      repeat first|refine cg ?_|simp -dsimp[h1,q2,h4,q5,h8,↓e10,h13,↓e16]
      apply oB hF;intro v17 e18 hF
      refine((ih_f131 t x15 v17 e18)).pgoW (by first|simp[h1,q2,h4,q5,h8,↓e10,h13,↓e16];done|simp_all) (by simp) ?_
      cases hF
      repeat first|refine cg ?_|simp -dsimp[h1,q2,h4,q5,h8,↓e10,h13,↓e16]
      all_goals(try first|omega|rfl)
     ·cases hF
      repeat first|refine cg ?_|simp -dsimp[h1,q2,h4,q5,h8,↓e10,h13,q14]
      all_goals(try first|omega|rfl)
    ·refine kx6 h1 q2 h4 q5 h8 q9 ?_
     refine zV follows (by kernel_rfl) (by kernel_rfl) ?_
     refine kx6 h1 q2 h4 q5 h8 q9 ?_
     apply oB hF;intro v19 e20 hF
     refine((C.f130 B hB1 hB2 s.f0 t p v19 e20)).pgoW (by first|simp[h1,q2,h4,q5,h8,q9];done|simp_all) (by simp) ?_
     refine kx6 h1 q2 h4 q5 h8 q9 ?_
     apply oB hF;intro o' ho33 hF
     refine zN _ ?_ ((ih_f132 p v19 0 o' ho33) _ rfl _ ?_)
     ·exact(gT (by simp) (by first|simp -dsimp[h1,q2,h4,q5,h8,q9];done|simp_all))
     rcases o' with r0|sx
     ·dsimp only at hF
      cases hF
      intro st h
      simpa using h
     ·dsimp only at hF
      cases hF
      repeat first|refine cg ?_|simp -dsimp
      all_goals(try first|omega|rfl)
 ·intro _f_f131 _f_f132 ih_f131 ih_f132 p v19 i o hF
  intro c hc Q hq
  obtain rfl:c=_:=ZD0 hc rfl
  refine zY fun hk hs=> ?_
  have b45:=hk 45
  simp -dsimp at b45
  have d1:=hs 1 _ rfl
  simp -dsimp[zT]at d1
  clear hk hs
  refine eN ?_
  revert hF;refine kS ?_ ?_<;>intro h21 q22 hF
  ·have z23:((i:Int)<(v19.length:Int)):=auz
   apply oB hF;intro x24 e25 hF
   have le25:=ZD e25
   refine Zn h21 z23 e25 ?_
   refine zV follows (by kernel_rfl) (by kernel_rfl) ?_
   apply oB hF;intro x26 e27 hF
   have le27:=ZD e27
   refine ZA1 h21 z23 e25 e27 ?_
   apply oB hF;intro v28 e29 hF
   refine((ih_f131 x24 x26 v28 e29)).pgoW (by first|simp[h21,z23,↓e25,↓e27];done|simp_all) (by simp) ?_
   refine ZA1 h21 z23 e25 e27 ?_
   revert hF;refine aS (fun h30 q31 hF=> ?_) (fun h30 q31 hF=> ?_)
   ·cases hF
    repeat first|refine cg ?_|simp -dsimp[h21,z23,↓e25,↓e27,h30]
    refine lG _ (gR _) (hq _ ?_)
    repeat first|refine cg ?_|simp -dsimp[h21,z23,↓e25,↓e27,h30]
   ·have w32:i64.wrap ((i:Int)+1)=(i:Int)+1:=ZE (by omega) (by omega)
    repeat first|refine cg ?_|simp -dsimp[h21,z23,↓e25,↓e27,h30,q31,w32]
    refine aG _ ?_ ((ih_f132 p v19 (i+1) o hF) _ rfl _ hq)
    exact(gT (by simp) (by first|simp -dsimp[h21,z23,↓e25,↓e27,h30,q31,w32];done|simp_all))
  ·have z23:¬((i:Int)<(v19.length:Int)):=auz
   cases hF
   refine kx3 h21 q22 z23 ?_
   refine lG _ (gT (by simp) (by first|simp -dsimp[h21,q22,z23];done|simp_all)) hq
theorem C.f133 (w:List zO)(t:Ty)(p:Pattern)(r:Bool)(hF:F.f133 w t p=some r):PureCall Try.prog B 10 [am zP w,.agg [li t.data,li t.index],.agg [li p.op,li p.ctor,li p.n,li p.m,li p.var,am zR p.kids]] (.lit (.bool r)):=by
 unfold F.f133 at hF
 refine pE Try.func10 (by kernel_rfl) rfl Try.ntmps10 (by simp) (by simp) ?_
 refine kx0 ?_
 refine ADraw.eff [21,22] [(0,0),(0,0),(0,0),(0,2),(0,0),(0,0),(0,2),(0,1),(0,1),(0,2),(2,2),(2,2)] [1,1,1,1,1,1,1,2,2,1,1,1] follows (by kernel_rfl) (by kernel_rfl) (by kernel_rfl) ?_
 refine kB hF fun v e1 hF=> ?_
 refine((C.f120 B hB1 hB2 w t p v e1)).pgoW (by simp) (by simp) ?_
 revert hF;refine kS (fun h2 q3 hF=> ?_) (fun h2 q3 hF=> ?_)
 ·refine kx1 h2 ?_
  apply oB hF;intro v4 e5 hF
  refine((C.impl_newSpaces__p B hB1 hB2 w v4 e5)).ego (pl [2,3]) (by simp) (by simp) (by intro i j hi;simp at hi) (by intro i hi hi';simp at hi hi';have hi:i=0∨i=1:=(by omega);rcases hi with rfl|rfl<;>simp[pl]) (by first|simp[h2];done|simp_all) (by first|simp[h2];done|simp_all) ?_
  refine kx1 h2 ?_
  apply oB hF;intro v6 e7 hF
  refine(((CC.f131 B hB1 hB2 v4).1 t p v6 e7)).elendD (.cons (.ptr 3 0 (by exact rfl) (.cons (.of (by simp)) (.cons (.ptr 2 0 (by exact rfl) (by exact Brds.lits _ _)) .nil))) (.cons (.of (by simp)) (.cons (.of (by simp)) .nil))) (by simp -dsimp) ?_
  cases hF
  repeat first|refine cg ?_|simp -dsimp[h2]
  all_goals(try first|omega|rfl)
 ·skip
  cases hF
  repeat first|refine cg ?_|simp -dsimp[h2,q3]
  all_goals(try first|omega|rfl)
theorem C.f134 (a:Ty)(b:Ty)(r:Bool)(hF:F.f134 a b=some r):PureCall Try.prog B 85 [.agg [li a.data,li a.index],.agg [li b.data,li b.index]] (.lit (.bool r)):=by
 unfold F.f134 at hF
 refine zH Try.func85 rfl Try.ntmps85 ?_
 revert hF;refine kN ?_ ?_<;>intro h1 q2 hF
 ·cases hF
  exact kc2 h1 q2
 ·revert hF;refine kN ?_ ?_<;>intro h3 q4 hF
  ·cases hF
   exact kc2 h3 q4
  ·cases hF
   exact kc0
theorem CC.f135 (a:List Ty)(b:List Ty):(∀(i:Nat) (o:Lo Bool Unit),F.f135 a b i=some o->∀(c:Code),Zo [1,1,0,1,0,0] (ZK Try.f74)=some c->∀(Q:Exit->ASt->Prop),o.post (fun r=>∀st,ZAK Try.prog Try.f74 (fun r' _=>r'.le (.lit (.bool r))) .ret st->Q .ret st) (fun s=>Q (.exit 0) ⟨[],[]⟩)->ALoopU Try.prog B 0 27 (hold c .mk) ⟨[(0,am zG a),(1,am zG b),(5,li (i:Int))],[]⟩ (hold Q .mk)):=by
 refine F.f135.partial_correctness a b
  _
  ?_
 ·intro _f_f135 ih_f135 i o hF
  refine ZN rfl fun Q hq hk hs=> ?_
  have b0:=hk 0
  simp -dsimp at b0
  have b1:=hk 1
  simp -dsimp at b1
  clear hk hs
  refine eN ?_
  revert hF;refine kS ?_ ?_<;>intro h4 q5 hF
  ·have z6:((i:Int)<(a.length:Int)):=auz
   refine kx2 h4 z6 ?_
   refine zU follows ?_
   apply oB hF;intro x e7 hF
   have le7:=ZD e7
   apply oB hF;intro x8 e9 hF
   have le9:=ZD e9
   refine ZFh e7 e9 ?_
   apply oB hF;intro v e10 hF
   refine((C.f134 B hB1 hB2 x x8 v e10)).pgoW (by simp_all) (by simp) ?_
   revert hF;refine kN (fun h11 q12 hF=> ?_) (fun h11 q12 hF=> ?_)
   ·cases hF
    refine kx2 h11 q12 ?_
    refine lG _ (gR _) (hq _ ?_)
    exact kc0
   ·have w13:i64.wrap ((i:Int)+1)=(i:Int)+1:=ZE (by omega) (by omega)
    refine kx1 w13 ?_
    refine zK ((ih_f135 (i+1) o hF) _ rfl _ hq)
  ·have z6:¬((i:Int)<(a.length:Int)):=auz
   cases hF
   refine kx3 h4 q5 z6 ?_
   refine zL hq
theorem C.f136 (a:List Ty)(b:List Ty)(r:Bool)(hF:F.f136 a b=some r):PureCall Try.prog B 74 [am zG a,am zG b] (.lit (.bool r)):=by
 unfold F.f136 at hF
 refine zH Try.func74 rfl Try.ntmps74 ?_
 revert hF;refine kN ?_ ?_<;>intro h1 q2 hF
 ·have z3:¬((a.length:Int)=(b.length:Int)):=auz
  cases hF
  exact kc3 h1 q2 z3
 ·have z3:((a.length:Int)=(b.length:Int)):=auz
  refine kB hF fun o' ho14 hF=> ?_
  refine zM (((CC.f135 B hB1 hB2 a b) 0 o' ho14) _ rfl _ ?_)
  rcases o' with r0|sx
  ·dsimp only at hF
   cases hF
   intro st h
   simpa using h
  ·dsimp only at hF
   cases hF
   exact kc0
theorem C.f137 (a:Ctor)(b:Ctor)(r:Bool)(hF:F.f137 a b=some r):PureCall Try.prog B 55 [.agg [.lit (.string a.name),am zG a.args,li a.index],.agg [.lit (.string b.name),am zG b.args,li b.index]] (.lit (.bool r)):=by
 unfold F.f137 at hF
 refine zH Try.func55 rfl Try.ntmps55 ?_
 revert hF;refine kN ?_ ?_<;>intro h1 q2 hF
 ·cases hF
  exact kc2 h1 q2
 ·refine kB hF fun v e3 hF=> ?_
  refine((C.f136 B hB1 hB2 a.args b.args v e3)).goI ?_
  revert hF;refine kN (fun h4 q5 hF=> ?_) (fun h4 q5 hF=> ?_)
  ·cases hF
   exact kc2 h4 q5
  ·revert hF;refine kN ?_ ?_<;>intro h6 q7 hF
   ·cases hF
    exact kc2 h6 q7
   ·cases hF
    exact kc0
theorem CC.f138 (a:List Ctor)(b:List Ctor):(∀(i:Nat) (o:Lo Bool Unit),F.f138 a b i=some o->∀(c:Code),Zo [1,1,0,1,0,0] (ZK Try.f38)=some c->∀(Q:Exit->ASt->Prop),o.post (fun r=>∀st,ZAK Try.prog Try.f38 (fun r' _=>r'.le (.lit (.bool r))) .ret st->Q .ret st) (fun s=>Q (.exit 0) ⟨[],[]⟩)->ALoopU Try.prog B 0 27 (hold c .mk) ⟨[(0,am zJ a),(1,am zJ b),(5,li (i:Int))],[]⟩ (hold Q .mk)):=by
 refine F.f138.partial_correctness a b
  _
  ?_
 ·intro _f_f138 ih_f138 i o hF
  refine ZN rfl fun Q hq hk hs=> ?_
  have b0:=hk 0
  simp -dsimp at b0
  have b1:=hk 1
  simp -dsimp at b1
  clear hk hs
  refine eN ?_
  revert hF;refine kS ?_ ?_<;>intro h4 q5 hF
  ·have z6:((i:Int)<(a.length:Int)):=auz
   refine kx2 h4 z6 ?_
   refine zU follows ?_
   apply oB hF;intro x e7 hF
   have le7:=ZD e7
   apply oB hF;intro x8 e9 hF
   have le9:=ZD e9
   refine ZFh e7 e9 ?_
   apply oB hF;intro v e10 hF
   refine((C.f137 B hB1 hB2 x x8 v e10)).pgoW (by simp_all) (by simp) ?_
   revert hF;refine kN (fun h11 q12 hF=> ?_) (fun h11 q12 hF=> ?_)
   ·cases hF
    refine kx2 h11 q12 ?_
    refine lG _ (gR _) (hq _ ?_)
    exact kc0
   ·have w13:i64.wrap ((i:Int)+1)=(i:Int)+1:=ZE (by omega) (by omega)
    refine kx1 w13 ?_
    refine zK ((ih_f138 (i+1) o hF) _ rfl _ hq)
  ·have z6:¬((i:Int)<(a.length:Int)):=auz
   cases hF
   refine kx3 h4 q5 z6 ?_
   refine zL hq
theorem C.f139 (a:List Ctor)(b:List Ctor)(r:Bool)(hF:F.f139 a b=some r):PureCall Try.prog B 38 [am zJ a,am zJ b] (.lit (.bool r)):=by
 unfold F.f139 at hF
 refine zH Try.func38 rfl Try.ntmps38 ?_
 revert hF;refine kN ?_ ?_<;>intro h1 q2 hF
 ·have z3:¬((a.length:Int)=(b.length:Int)):=auz
  cases hF
  exact kc3 h1 q2 z3
 ·have z3:((a.length:Int)=(b.length:Int)):=auz
  refine kB hF fun o' ho14 hF=> ?_
  refine zM (((CC.f138 B hB1 hB2 a b) 0 o' ho14) _ rfl _ ?_)
  rcases o' with r0|sx
  ·dsimp only at hF
   cases hF
   intro st h
   simpa using h
  ·dsimp only at hF
   cases hF
   exact kc0
theorem C.f140 (a:zO)(b:zO)(r:Bool)(hF:F.f140 a b=some r):PureCall Try.prog B 23 [.agg [.lit (.string a.name),am zJ a.ctors],.agg [.lit (.string b.name),am zJ b.ctors]] (.lit (.bool r)):=by
 unfold F.f140 at hF
 refine zH Try.func23 rfl Try.ntmps23 ?_
 revert hF;refine kN ?_ ?_<;>intro h1 q2 hF
 ·cases hF
  exact kc2 h1 q2
 ·refine kB hF fun v e3 hF=> ?_
  refine((C.f139 B hB1 hB2 a.ctors b.ctors v e3)).goI ?_
  revert hF;refine kN (fun h4 q5 hF=> ?_) (fun h4 q5 hF=> ?_)
  ·cases hF
   exact kc2 h4 q5
  ·cases hF
   exact kc0
theorem CC.f141 (a:List zO)(b:List zO):(∀(i:Nat) (o:Lo Bool Unit),F.f141 a b i=some o->∀(c:Code),Zo [1,1,0,1,0,0] (ZK Try.f11)=some c->∀(Q:Exit->ASt->Prop),o.post (fun r=>∀st,ZAK Try.prog Try.f11 (fun r' _=>r'.le (.lit (.bool r))) .ret st->Q .ret st) (fun s=>Q (.exit 0) ⟨[],[]⟩)->ALoopU Try.prog B 0 27 (hold c .mk) ⟨[(0,am zP a),(1,am zP b),(5,li (i:Int))],[]⟩ (hold Q .mk)):=by
 refine F.f141.partial_correctness a b
  _
  ?_
 ·intro _f_f141 ih_f141 i o hF
  refine ZN rfl fun Q hq hk hs=> ?_
  have b0:=hk 0
  simp -dsimp at b0
  have b1:=hk 1
  simp -dsimp at b1
  clear hk hs
  refine eN ?_
  revert hF;refine kS ?_ ?_<;>intro h4 q5 hF
  ·have z6:((i:Int)<(a.length:Int)):=auz
   refine kx2 h4 z6 ?_
   refine zU follows ?_
   apply oB hF;intro x e7 hF
   have le7:=ZD e7
   apply oB hF;intro x8 e9 hF
   have le9:=ZD e9
   refine ZFh e7 e9 ?_
   apply oB hF;intro v e10 hF
   refine((C.f140 B hB1 hB2 x x8 v e10)).pgoW (by simp_all) (by simp) ?_
   revert hF;refine kN (fun h11 q12 hF=> ?_) (fun h11 q12 hF=> ?_)
   ·cases hF
    refine kx2 h11 q12 ?_
    refine lG _ (gR _) (hq _ ?_)
    exact kc0
   ·have w13:i64.wrap ((i:Int)+1)=(i:Int)+1:=ZE (by omega) (by omega)
    refine kx1 w13 ?_
    refine zK ((ih_f141 (i+1) o hF) _ rfl _ hq)
  ·have z6:¬((i:Int)<(a.length:Int)):=auz
   cases hF
   refine kx3 h4 q5 z6 ?_
   refine zL hq
theorem C.f142 (a:List zO)(b:List zO)(r:Bool)(hF:F.f142 a b=some r):PureCall Try.prog B 11 [am zP a,am zP b] (.lit (.bool r)):=by
 unfold F.f142 at hF
 refine zH Try.func11 rfl Try.ntmps11 ?_
 revert hF;refine kN ?_ ?_<;>intro h1 q2 hF
 ·have z3:¬((a.length:Int)=(b.length:Int)):=auz
  cases hF
  exact kc3 h1 q2 z3
 ·have z3:((a.length:Int)=(b.length:Int)):=auz
  refine kB hF fun o' ho14 hF=> ?_
  refine zM (((CC.f141 B hB1 hB2 a b) 0 o' ho14) _ rfl _ ?_)
  rcases o' with r0|sx
  ·dsimp only at hF
   cases hF
   intro st h
   simpa using h
  ·dsimp only at hF
   cases hF
   exact kc0
theorem CC.f143  :(∀(a:Pattern) (b:Pattern) (r:Bool),F.f143 a b=some r->PureCall Try.prog B 12 [.agg [li a.op,li a.ctor,li a.n,li a.m,li a.var,am zR a.kids],.agg [li b.op,li b.ctor,li b.n,li b.m,li b.var,am zR b.kids]] (.lit (.bool r)))/\
  (∀(a:List Pattern) (b:List Pattern) (r:Bool),F.f144 a b=some r->PureCall Try.prog B 24 [am zR a,am zR b] (.lit (.bool r)))/\
  (∀(a:List Pattern) (b:List Pattern) (i:Nat) (o:Lo Bool Unit),F.f145 a b i=some o->∀(c:Code),Zo [1,1,0,1,0,0] (ZK Try.f24)=some c->∀(Q:Exit->ASt->Prop),o.post (fun r=>∀st,ZAK Try.prog Try.f24 (fun r' _=>r'.le (.lit (.bool r))) .ret st->Q .ret st) (fun s=>Q (.exit 0) ⟨[],[]⟩)->ALoopU Try.prog B 0 27 (hold c .mk) ⟨[(0,am zR a),(1,am zR b),(5,li (i:Int))],[]⟩ (hold Q .mk)):=by
 refine F.f143.mutual_partial_correctness 
  _ _ _
  ?_ ?_ ?_
 ·intro _f_f144 ih_f144 a b r hF
  refine zH Try.func12 rfl Try.ntmps12 ?_
  revert hF;refine kN ?_ ?_<;>intro h1 q2 hF
  ·cases hF
   exact kc2 h1 q2
  ·revert hF;refine kN ?_ ?_<;>intro h3 q4 hF
   ·cases hF
    exact kc2 h3 q4
   ·revert hF;refine kN ?_ ?_<;>intro h5 q6 hF
    ·cases hF
     exact kc2 h5 q6
    ·revert hF;refine kN ?_ ?_<;>intro h7 q8 hF
     ·cases hF
      exact kc2 h7 q8
     ·revert hF;refine kN ?_ ?_<;>intro h9 q10 hF
      ·cases hF
       exact kc2 h9 q10
      ·refine kB hF fun v e11 hF=> ?_
       refine((ih_f144 a.kids b.kids v e11)).goI ?_
       revert hF;refine kN (fun h12 q13 hF=> ?_) (fun h12 q13 hF=> ?_)
       ·cases hF
        exact kc2 h12 q13
       ·cases hF
        exact kc0
 ·intro _f_f145 ih_f145 a b r hF
  refine zH Try.func24 rfl Try.ntmps24 ?_
  revert hF;refine kN ?_ ?_<;>intro h1 q2 hF
  ·have z3:¬((a.length:Int)=(b.length:Int)):=auz
   cases hF
   exact kc1 z3
  ·have z3:((a.length:Int)=(b.length:Int)):=auz
   refine kB hF fun o' ho14 hF=> ?_
   refine zM ((ih_f145 a b 0 o' ho14) _ rfl _ ?_)
   rcases o' with r0|sx
   ·dsimp only at hF
    cases hF
    intro st h
    simpa using h
   ·dsimp only at hF
    cases hF
    exact kc0
 ·intro _f_f143 _f_f145 ih_f143 ih_f145 a b i o hF
  refine ZN rfl fun Q hq hk hs=> ?_
  have b0:=hk 0
  simp -dsimp at b0
  have b1:=hk 1
  simp -dsimp at b1
  clear hk hs
  refine eN ?_
  revert hF;refine kS ?_ ?_<;>intro h4 q5 hF
  ·have z6:((i:Int)<(a.length:Int)):=auz
   refine kx2 h4 z6 ?_
   refine zU follows ?_
   apply oB hF;intro x e7 hF
   have le7:=ZD e7
   apply oB hF;intro x8 e9 hF
   have le9:=ZD e9
   refine ZFh e7 e9 ?_
   apply oB hF;intro v e10 hF
   refine((ih_f143 x x8 v e10)).pgoW (by simp_all) (by simp) ?_
   revert hF;refine kN (fun h11 q12 hF=> ?_) (fun h11 q12 hF=> ?_)
   ·cases hF
    refine kx2 h11 q12 ?_
    refine lG _ (gR _) (hq _ ?_)
    exact kc0
   ·have w13:i64.wrap ((i:Int)+1)=(i:Int)+1:=ZE (by omega) (by omega)
    refine kx1 w13 ?_
    refine zK ((ih_f145 a b (i+1) o hF) _ rfl _ hq)
  ·have z6:¬((i:Int)<(a.length:Int)):=auz
   cases hF
   refine kx3 h4 q5 z6 ?_
   refine zL hq
theorem C.f146 (aW:List zO)(aT:Ty)(aP:Pattern)(r:Bool)(hF:F.f146 aW aT aP=some r):PureCall Try.prog B 3 [am zP aW,.agg [li aT.data,li aT.index],.agg [li aP.op,li aP.ctor,li aP.n,li aP.m,li aP.var,am zR aP.kids]] (.lit (.bool r)):=by
 unfold F.f146 at hF
 refine pE Try.func3 (by kernel_rfl) rfl Try.ntmps3 (by simp) (by simp) ?_
 refine kB hF fun v e1 hF=> ?_
 refine((C.f6 B hB1 hB2 aW 1048576 v e1)).goW (by simp) (by simp) ?_
 revert hF;refine kS ?_ ?_<;>intro h2 q3 hF
 ·cases hF
  repeat first|refine cg ?_|simp -dsimp[h2]
  all_goals(try first|omega|rfl)
 ·refine kx2 h2 q3 ?_
  apply oB hF;intro v4 e5 hF
  refine(((CC.f7 B hB1 hB2).1 aP v v4 e5)).goW (by first|simp[h2,q3];done|simp_all) (by simp) ?_
  refine kx2 h2 q3 ?_
  revert hF;refine aS ?_ ?_<;>intro h6 q7 hF
  ·cases hF
   repeat first|refine cg ?_|simp -dsimp[h2,q3,h6]
   all_goals(try first|omega|rfl)
  ·refine kx4 h2 q3 h6 q7 ?_
   refine zV follows (by kernel_rfl) (by kernel_rfl) ?_
   refine kx4 h2 q3 h6 q7 ?_
   apply oB hF;intro v8 e9 hF
   refine((C.f18 B hB1 hB2 aW v8 e9)).pgoW (by first|simp[h2,q3,h6,q7];done|simp_all) (by simp) ?_
   refine kx4 h2 q3 h6 q7 ?_
   apply oB hF;intro v10 e11 hF
   refine((C.f10 B hB1 hB2 aT v10 e11)).pgoW (by first|simp[h2,q3,h6,q7];done|simp_all) (by simp) ?_
   refine kx4 h2 q3 h6 q7 ?_
   apply oB hF;intro v12 e13 hF
   refine(((CC.f19 B hB1 hB2).1 aP v12 e13)).pgoW (by first|simp[h2,q3,h6,q7];done|simp_all) (by simp) ?_
   refine kx4 h2 q3 h6 q7 ?_
   apply oB hF;intro v14 e15 hF
   refine((C.f77 B hB1 hB2 v8 v10 v12 v14 e15)).pgoW (by first|simp[h2,q3,h6,q7];done|simp_all) (by simp) ?_
   refine kx4 h2 q3 h6 q7 ?_
   apply oB hF;intro v16 e17 hF
   refine((C.f18 B hB1 hB2 aW v16 e17)).goW (by first|simp[h2,q3,h6,q7];done|simp_all) (by simp) ?_
   refine kx4 h2 q3 h6 q7 ?_
   apply oB hF;intro v18 e19 hF
   refine(((CC.f19 B hB1 hB2).1 aP v18 e19)).goW (by first|simp[h2,q3,h6,q7];done|simp_all) (by simp) ?_
   refine kx4 h2 q3 h6 q7 ?_
   refine zV follows (by kernel_rfl) (by kernel_rfl) ?_
   refine kx4 h2 q3 h6 q7 ?_
   apply oB hF;intro v20 e21 hF
   refine((C.f10 B hB1 hB2 aT v20 e21)).pgoW (by first|simp[h2,q3,h6,q7];done|simp_all) (by simp) ?_
   refine kx4 h2 q3 h6 q7 ?_
   apply oB hF;intro v22 e23 hF
   refine((C.f133 B hB1 hB2 v16 v20 v18 v22 e23)).pgoW (by first|simp[h2,q3,h6,q7];done|simp_all) (by simp) ?_
   refine kx4 h2 q3 h6 q7 ?_
   revert hF;refine aN ?_ ?_<;>intro h24 q25 hF
   ·cases hF
    repeat first|refine cg ?_|simp -dsimp[h2,q3,h6,q7,h24,q25]
    all_goals(try first|omega|rfl)
   ·refine kx6 h2 q3 h6 q7 h24 q25 ?_
    apply oB hF;intro v26 e27 hF
    refine((C.f18 B hB1 hB2 aW v26 e27)).goW (by first|simp[h2,q3,h6,q7,h24,q25];done|simp_all) (by simp) ?_
    refine kx6 h2 q3 h6 q7 h24 q25 ?_
    apply oB hF;intro v28 e29 hF
    refine((C.f142 B hB1 hB2 v16 v26 v28 e29)).goW (by first|simp[h2,q3,h6,q7,h24,q25];done|simp_all) (by simp) ?_
    refine kx6 h2 q3 h6 q7 h24 q25 ?_
    revert hF;refine aN (fun h30 q31 hF=> ?_) (fun h30 q31 hF=> ?_)
    ·cases hF
     repeat first|refine cg ?_|simp -dsimp[h2,q3,h6,q7,h24,q25,h30,q31]
     all_goals(try first|omega|rfl)
    ·refine kx8 h2 q3 h6 q7 h24 q25 h30 q31 ?_
     refine zV follows (by kernel_rfl) (by kernel_rfl) ?_
     refine kx8 h2 q3 h6 q7 h24 q25 h30 q31 ?_
     apply oB hF;intro v32 e33 hF
     refine(((CC.f19 B hB1 hB2).1 aP v32 e33)).pgoW (by first|simp[h2,q3,h6,q7,h24,q25,h30,q31];done|simp_all) (by simp) ?_
     refine kx8 h2 q3 h6 q7 h24 q25 h30 q31 ?_
     apply oB hF;intro v34 e35 hF
     refine(((CC.f143 B hB1 hB2).1 v18 v32 v34 e35)).pgoW (by first|simp[h2,q3,h6,q7,h24,q25,h30,q31];done|simp_all) (by simp) ?_
     refine kx8 h2 q3 h6 q7 h24 q25 h30 q31 ?_
     revert hF;refine aN (fun h36 q37 hF=> ?_) (fun h36 q37 hF=> ?_)
     ·cases hF
      repeat first|refine cg ?_|simp -dsimp[h2,q3,h6,q7,h24,q25,h30,q31,h36,q37]
      all_goals(try first|omega|rfl)
     ·cases hF
      repeat first|refine cg ?_|simp -dsimp[h2,q3,h6,q7,h24,q25,h30,q31,h36,q37]
      all_goals(try first|omega|rfl)
end Go.Proofs.Ytmjpphcloedceaa
