/- Part. -/
import Derived.Test.YtmjpphcloedceaaGreatProg
import Derived.Test.YtmjpphcloedceaaGreatExactSamplePatternF
import Derived.Test.YtmjpphcloedceaaGreatVlAuto
open List renaming length->zA,map->zB,replicate->zC
open ByteArray renaming empty->zD
namespace Go.Proofs.YtmjpphcloedceaaGreat
open Go Go.Proofs Go.Vl
open Again renaming is->zE
open Leave renaming is->zF
open PureCall renaming inLe->zG,enterM->zH
open ALoop renaming is->zI,goU->zJ
open Ty renaming c->zK
open Ctor renaming c->zL,z->zM
open Go.Vl renaming Data->zN
open Go.Vl.Data renaming c->zO,z->zP
open Pattern renaming c->zR,z->zS
open F renaming f21->zT,f20->zU,f19->zV,f18->zW,f17->zX,f16->zY,f15->zZ,f14->yA,f13->yB
open Blk renaming bnd->yC
open ADraw renaming simple->yD,simI->yE,effI->yF,effN2->yG,eff->yH
open VarType renaming c->yI
open ALoopU renaming know->yJ
open Gh renaming trans->yK,packZ->yL,nilCell->yM,setRow->yN,nil->yO,absorb->yP
open Go.Proofs.Tryz
open Go.Proofs.Tryz renaming prog->zQ
open abr renaming sp->aS,ns->aN
open Leave renaming go->lG
open Again renaming go->aG
open ALoopU renaming enter->eN
open Gh renaming to3->gT,refl->gR
open PureCall renaming enterLe->pE
open Go.IntKind (i64)
set_option linter.all false
set_option maxRecDepth 100000
set_option maxHeartbeats 4000000
set_option synthInstance.maxSize 100000
set_option synthInstance.maxHeartbeats 4000000
attribute [local irreducible] ECallA NCallA aL aLg AMake MLoop AgainM LeaveM ZBo ZBQ MutCall BCall chk abr ACall ALoop ALoopU ADraw Again Leave ZEX PCall ZAR awp ZHg PureCall hold
abbrev li (x:Int):AV:=.lit (.int .i64 x)
abbrev am {α:Type}(f:α->List AV)(l:List α):AV:=.arr (zB f l)
theorem follows :Tryz.prog.follows .mixedOrders=true:=by kernel_rfl
@[simp] theorem ti2 :Zs zQ 2=some ⟨.word,1,[.int .i64 0]⟩:=by kernel_rfl
@[simp] theorem ti3 :Zs zQ 3=some ⟨.word,1,[.int .i64 0]⟩:=by kernel_rfl
@[simp] theorem ti4 :Zs zQ 4=some ⟨.word,1,[.bool false]⟩:=by kernel_rfl
@[simp] theorem ti5 :Zs zQ 5=some ⟨.word,1,[.int .u8 0]⟩:=by kernel_rfl
@[simp] theorem ti9 :Zs zQ 9=some ⟨.word,1,[.string zD]⟩:=by kernel_rfl
@[simp] theorem ZQb :Zs zQ 22=some ⟨.slice 2 40 [.string zD,.slice none 0 0],1,[.slice none 0 0]⟩:=by kernel_rfl
@[simp] theorem ZQl :ZE3 zQ 22=true:=by kernel_rfl
@[simp] theorem ZQa :Zs zQ 24=some ⟨.struct [(0,1),(1,1)],2,[.int .i64 0,.int .i64 0]⟩:=by kernel_rfl
@[simp] theorem ZQn :ZBu zQ 24=true:=by kernel_rfl
@[simp] theorem ZQZ :Zs zQ 25=some ⟨.slice 6 64 [.int .i64 0,.int .i64 0,.int .i64 0,.int .i64 0,.int .i64 0,.slice none 0 0],1,[.slice none 0 0]⟩:=by kernel_rfl
@[simp] theorem ZQk :ZE3 zQ 25=true:=by kernel_rfl
@[simp] theorem ZQY :Zs zQ 27=some ⟨.struct [(0,1),(1,1),(2,1),(3,1),(4,1),(5,1)],6,[.int .i64 0,.int .i64 0,.int .i64 0,.int .i64 0,.int .i64 0,.slice none 0 0]⟩:=by kernel_rfl
@[simp] theorem ZQX :Zs zQ 30=some ⟨.slice 3 40 [.int .i64 0,.int .i64 0,.slice none 0 0],1,[.slice none 0 0]⟩:=by kernel_rfl
@[simp] theorem ZQj :ZE3 zQ 30=true:=by kernel_rfl
@[simp] theorem ZQW :Zs zQ 32=some ⟨.struct [(0,1),(1,1),(2,1)],3,[.int .i64 0,.int .i64 0,.slice none 0 0]⟩:=by kernel_rfl
@[simp] theorem ZQV :Zs zQ 35=some ⟨.slice 2 40 [.string zD,.slice none 0 0],1,[.slice none 0 0]⟩:=by kernel_rfl
@[simp] theorem ZQi :ZE3 zQ 35=true:=by kernel_rfl
@[simp] theorem ZQU :Zs zQ 37=some ⟨.struct [(0,1),(1,1)],2,[.int .i64 0,.int .i64 0]⟩:=by kernel_rfl
@[simp] theorem ZQm :ZBu zQ 37=true:=by kernel_rfl
@[simp] theorem ZQT :Zs zQ 39=some ⟨.slice 6 64 [.int .i64 0,.int .i64 0,.int .i64 0,.int .i64 0,.int .i64 0,.slice none 0 0],1,[.slice none 0 0]⟩:=by kernel_rfl
@[simp] theorem ZQh :ZE3 zQ 39=true:=by kernel_rfl
@[simp] theorem ZQS :Zs zQ 41=some ⟨.struct [(0,1),(1,1),(2,1),(3,1),(4,1),(5,1)],6,[.int .i64 0,.int .i64 0,.int .i64 0,.int .i64 0,.int .i64 0,.slice none 0 0]⟩:=by kernel_rfl
@[simp] theorem ZQR :Zs zQ 50=some ⟨.slice 1 1 [.int .u8 0],1,[.slice none 0 0]⟩:=by kernel_rfl
@[simp] theorem ZQg :ZE3 zQ 50=true:=by kernel_rfl
@[simp] theorem ZQQ :Zs zQ 60=some ⟨.slice 3 48 [.string zD,.slice none 0 0,.int .i64 0],1,[.slice none 0 0]⟩:=by kernel_rfl
@[simp] theorem ZQf :ZE3 zQ 60=true:=by kernel_rfl
@[simp] theorem ZQP :Zs zQ 62=some ⟨.struct [(0,1),(1,1)],2,[.string zD,.slice none 0 0]⟩:=by kernel_rfl
@[simp] theorem ZQO :Zs zQ 65=some ⟨.slice 1 8 [.int .i64 0],1,[.slice none 0 0]⟩:=by kernel_rfl
@[simp] theorem ZQe :ZE3 zQ 65=true:=by kernel_rfl
@[simp] theorem ZQN :Zs zQ 68=some ⟨.slice 3 48 [.string zD,.slice none 0 0,.int .i64 0],1,[.slice none 0 0]⟩:=by kernel_rfl
@[simp] theorem ZQd :ZE3 zQ 68=true:=by kernel_rfl
@[simp] theorem ZQM :Zs zQ 70=some ⟨.struct [(0,1),(1,1)],2,[.string zD,.slice none 0 0]⟩:=by kernel_rfl
@[simp] theorem ZQL :Zs zQ 89=some ⟨.slice 2 16 [.int .i64 0,.int .i64 0],1,[.slice none 0 0]⟩:=by kernel_rfl
@[simp] theorem ZQc :ZE3 zQ 89=true:=by kernel_rfl
@[simp] theorem ZP7 :Zs zQ 100=some ⟨.struct [(0,1),(1,1)],2,[.slice none 0 0,.pointer none]⟩:=by kernel_rfl
@[simp] theorem ZP6 :Zs zQ 108=some ⟨.struct [(0,1),(1,1),(2,1)],3,[.string zD,.slice none 0 0,.int .i64 0]⟩:=by kernel_rfl
@[simp] theorem ZP5 :Zs zQ 126=some ⟨.slice 2 16 [.int .i64 0,.int .i64 0],1,[.slice none 0 0]⟩:=by kernel_rfl
@[simp] theorem ZP9 :ZE3 zQ 126=true:=by kernel_rfl
@[simp] theorem ZP4 :Zs zQ 128=some ⟨.struct [(0,1),(1,1),(2,1)],3,[.string zD,.slice none 0 0,.int .i64 0]⟩:=by kernel_rfl
@[simp] theorem ZP3 :Zs zQ 134=some ⟨.slice 3 24 [.int .i64 0,.int .i64 0,.int .i64 0],1,[.slice none 0 0]⟩:=by kernel_rfl
@[simp] theorem ZP8 :ZE3 zQ 134=true:=by kernel_rfl
@[simp] theorem ZP2 :Zs zQ 137=some ⟨.array 4 1,4,[.int .i64 0,.int .i64 0,.int .i64 0,.int .i64 0]⟩:=by kernel_rfl
@[simp] theorem ZP1 :Zs zQ 139=some ⟨.array 4 4,16,[.int .i64 0,.int .i64 0,.int .i64 0,.int .i64 0,.int .i64 0,.int .i64 0,.int .i64 0,.int .i64 0,.int .i64 0,.int .i64 0,.int .i64 0,.int .i64 0,.int .i64 0,.int .i64 0,.int .i64 0,.int .i64 0]⟩:=by kernel_rfl
@[simp] theorem ZP0 :ZKc zQ 163=true:=by kernel_rfl
@[simp] theorem ZPz :Zs zQ 174=some ⟨.struct [(0,1),(1,2)],3,[.int .i64 0,.int .i64 0,.int .i64 0]⟩:=by kernel_rfl
@[simp] theorem ZQA :ZDH zQ 174=true:=by kernel_rfl
@[simp] theorem ZPy :Zs zQ 201=some ⟨.array 6 1,6,[.bool false,.bool false,.bool false,.bool false,.bool false,.bool false]⟩:=by kernel_rfl
attribute [simp] Tryz.underlying2 Tryz.underlying3 Tryz.underlying4 Tryz.underlying5 Tryz.underlying9 Tryz.underlying22 Tryz.underlying25 Tryz.underlying30 Tryz.underlying35 Tryz.underlying39 Tryz.underlying50 Tryz.underlying60 Tryz.underlying65 Tryz.underlying68 Tryz.underlying89 Tryz.underlying126 Tryz.underlying134 Tryz.underlying137 Tryz.underlying139 Tryz.underlying201 Tryz.results3 Tryz.results5 Tryz.results6 Tryz.results7 Tryz.results8 Tryz.results9 Tryz.results10 Tryz.results11 Tryz.results12 Tryz.results13 Tryz.results14 Tryz.results15 Tryz.results16 Tryz.results17 Tryz.results18 Tryz.results24 Tryz.results25 Tryz.results26 Tryz.results27 Tryz.results28 Tryz.results29 Tryz.results30 Tryz.results31 Tryz.results32 Tryz.results33 Tryz.results34 Tryz.results35 Tryz.results36 Tryz.results37 Tryz.results38 Tryz.results39 Tryz.results40 Tryz.results41 Tryz.results42 Tryz.results43 Tryz.results44 Tryz.results45 Tryz.results46 Tryz.results47 Tryz.results51 Tryz.results52 Tryz.results53 Tryz.results54 Tryz.results55 Tryz.results56 Tryz.results57 Tryz.results58 Tryz.results59 Tryz.results60 Tryz.results61 Tryz.results62 Tryz.results63 Tryz.results64 Tryz.results65 Tryz.results66 Tryz.results67 Tryz.results68 Tryz.results69 Tryz.results70 Tryz.results71 Tryz.results72 Tryz.results73 Tryz.results74 Tryz.results86 Tryz.results87 Tryz.results88 Tryz.results89 Tryz.results90 Tryz.results91 Tryz.results92 Tryz.results93 Tryz.results94 Tryz.results95 Tryz.results96 Tryz.results97 Tryz.results98 Tryz.results99 Tryz.results100 Tryz.results101 Tryz.results102 Tryz.results103 Tryz.results104 Tryz.results105 Tryz.results106 Tryz.results120 Tryz.results121 Tryz.results122 Tryz.results123 Tryz.results124 Tryz.results125 Tryz.results126 Tryz.results127 Tryz.results128 Tryz.results129 Tryz.results130 Tryz.results131 Tryz.results132 Tryz.results133 Tryz.results134 Tryz.results135 Tryz.results151 Tryz.results152 Tryz.results153 Tryz.results154 Tryz.results155 Tryz.results156 Tryz.results157 Tryz.results158 Tryz.results169 Tryz.results170 Tryz.results171 Tryz.results172 Tryz.results175 Tryz.results176
@[simp] theorem ZO1 {n:Nat}{s:Nat->Int}{π:Nat->Nat}:AV.ren.rens π (fcI n s)=fcI n s:=by
 unfold fcI
 generalize List.range n=l
 induction l with
 |nil=>rfl
 |cons a r ih=>simp only[List.map_cons,AV.ren.rens,ih];rfl
variable (B : Nat) (hB1 : 1073741824 <= bd B) (hB2 : bd B <= 9223372036854775807)
include hB1 hB2
theorem CC.f0  :(∀(k3:Int) (out:ByteArray) (o:ByteArray),F.f0 k3 out=some o->∀(c:Code),Zc [1,1,1,0,0,0] (ZJ Tryz.f43)=some c->∀(Q:Exit->ASt->Prop),(Q (.exit 0) ⟨[(3,.lit (.string o))],[]⟩)->ALoopU zQ B 0 20 (hold c .mk) ⟨[(0,li k3),(3,.lit (.string out))],[]⟩ (hold Q .mk)):=by
 refine F.f0.partial_correctness 
  _
  ?_
 ·intro _f_f0 ih_f0 k3 out o hF
  refine ZP rfl fun Q hq hk hs=> ?_
  clear hk hs
  refine eN ?_
  revert hF;refine kS ?_ ?_<;>intro h4 q5 hF
  ·apply oC hF;intro c6 hF
   refine kx1 h4 ?_
   refine zE ((ih_f0 (i64.wrap (k3.tdiv 10)) ((ZHC [IntKind.u8.wrap (i64.wrap (48+k3.tmod 10))])++out) o hF) _ rfl _ hq)
  ·cases hF
   refine kx1 q5 ?_
   refine zF hq
theorem C.f1 (k:Int)(r:ByteArray)(hF:F.f1 k=some r):PureCall zQ B 43 [li k] (.lit (.string r)):=by
 unfold F.f1 at hF
 refine zG func43 rfl ntmps43 ?_
 revert hF;refine kS ?_ ?_<;>intro h1 q2 hF
 ·cases hF
  exact kc1 h1
 ·refine kx1 q2 ?_
  apply oB hF;intro o' ho7 hF
  refine zI (((CC.f0 B hB1 hB2) k zD o' ho7) _ rfl _ ?_)
  apply oC hF;intro c8 hF
  cases hF
  exact kc0
theorem C.f2 (a:List Ty)(left':Int)(r:Int)(hF:F.f2 a left'=some r):PureCall zQ B 121 [am zK a,li left'] (li r):=by
 unfold F.f2 at hF
 refine zG func121 rfl ntmps121 ?_
 revert hF;refine kS ?_ ?_<;>intro h1 q2 hF
 ·cases hF
  exact kc1 h1
 ·cases hF
  exact kc1 q2
theorem C.f3 (a:Ctor)(left':Int)(r:Int)(hF:F.f3 a left'=some r):PureCall zQ B 88 [.agg [.lit (.string a.name),am zK a.args,li a.index],li left'] (li r):=by
 unfold F.f3 at hF
 refine zG func88 rfl ntmps88 ?_
 revert hF;refine kS ?_ ?_<;>intro h1 q2 hF
 ·cases hF
  exact kc1 h1
 ·refine kx1 q2 ?_
  apply oB hF;intro v e3 hF
  refine((C.f2 B hB1 hB2 a.args (i64.wrap (left'- (a.name.size:Int))) v e3)).goI ?_
  revert hF;refine kS ?_ ?_<;>intro h4 q5 hF
  ·cases hF
   exact kc1 h4
  ·cases hF
   exact kc1 q5
theorem CC.f4 (a:List Ctor):(∀(left'3:Int) (i:Nat) (o:Lo Int Int),F.f4 a left'3 i=some o->∀(c:Code),Zc [1,1,1,0,1,0,0] (ZJ Tryz.f52)=some c->∀(Q:Exit->ASt->Prop),o.post (fun r=>∀st,ZAR zQ Tryz.f52 (fun r' _=>r'.le (li r)) .ret st->Q .ret st) (fun s=>Q (.exit 0) ⟨[(1,li s)],[]⟩)->ALoopU zQ B 0 27 (hold c .mk) ⟨[(0,am zL a),(1,li left'3),(5,li (i:Int))],[]⟩ (hold Q .mk)):=by
 refine F.f4.partial_correctness a
  _
  ?_
 ·intro _f_f4 ih_f4 left'3 i o hF
  refine ZP rfl fun Q hq hk hs=> ?_
  have b0:=hk 0
  simp -dsimp at b0
  clear hk hs
  refine eN ?_
  revert hF;refine kS ?_ ?_<;>intro h4 q5 hF
  ·have z6:((i:Int)<(a.length:Int)):=auz
   apply oB hF;intro x e7 hF
   have le7:=ZA e7
   refine Zb h4 z6 e7 ?_
   apply oB hF;intro v e8 hF
   refine((C.f3 B hB1 hB2 x left'3 v e8)).goI ?_
   revert hF;refine kS ?_ ?_<;>intro h9 q10 hF
   ·cases hF
    refine kx1 h9 ?_
    refine lG _ (gR _) (hq _ ?_)
    exact kc0
   ·have w11:i64.wrap ((i:Int)+1)=(i:Int)+1:=ZB (by omega) (by omega)
    refine kx2 q10 w11 ?_
    refine zE ((ih_f4 v (i+1) o hF) _ rfl _ hq)
  ·have z6:¬((i:Int)<(a.length:Int)):=auz
   cases hF
   refine kx3 h4 q5 z6 ?_
   refine zF hq
theorem C.f5 (a:List Ctor)(left':Int)(r:Int)(hF:F.f5 a left'=some r):PureCall zQ B 52 [am zL a,li left'] (li r):=by
 unfold F.f5 at hF
 refine zG func52 rfl ntmps52 ?_
 revert hF;refine kS ?_ ?_<;>intro h1 q2 hF
 ·cases hF
  exact kc1 h1
 ·refine kx1 q2 ?_
  apply oB hF;intro o' ho12 hF
  refine zI (((CC.f4 B hB1 hB2 a) (i64.wrap (left'- (a.length:Int))) 0 o' ho12) _ rfl _ ?_)
  rcases o' with r0|sx
  ·dsimp only at hF
   cases hF
   intro st h
   simpa using h
  ·dsimp only at hF
   cases hF
   exact kc0
theorem C.f6 (a:zN)(left':Int)(r:Int)(hF:F.f6 a left'=some r):PureCall zQ B 24 [.agg [.lit (.string a.name),am zL a.ctors],li left'] (li r):=by
 unfold F.f6 at hF
 refine zG func24 rfl ntmps24 ?_
 revert hF;refine kS ?_ ?_<;>intro h1 q2 hF
 ·cases hF
  exact kc1 h1
 ·refine kx1 q2 ?_
  apply oB hF;intro v e3 hF
  refine((C.f5 B hB1 hB2 a.ctors (i64.wrap (left'- (a.name.size:Int))) v e3)).goI ?_
  revert hF;refine kS ?_ ?_<;>intro h4 q5 hF
  ·cases hF
   exact kc1 h4
  ·cases hF
   exact kc1 q5
theorem CC.f7 (a:List zN):(∀(left'3:Int) (i:Nat) (o:Lo Int Int),F.f7 a left'3 i=some o->∀(c:Code),Zc [1,1,1,0,1,0,0] (ZJ Tryz.f5)=some c->∀(Q:Exit->ASt->Prop),o.post (fun r=>∀st,ZAR zQ Tryz.f5 (fun r' _=>r'.le (li r)) .ret st->Q .ret st) (fun s=>Q (.exit 0) ⟨[(1,li s)],[]⟩)->ALoopU zQ B 0 27 (hold c .mk) ⟨[(0,am zO a),(1,li left'3),(5,li (i:Int))],[]⟩ (hold Q .mk)):=by
 refine F.f7.partial_correctness a
  _
  ?_
 ·intro _f_f7 ih_f7 left'3 i o hF
  refine ZP rfl fun Q hq hk hs=> ?_
  have b0:=hk 0
  simp -dsimp at b0
  clear hk hs
  refine eN ?_
  revert hF;refine kS ?_ ?_<;>intro h4 q5 hF
  ·have z6:((i:Int)<(a.length:Int)):=auz
   apply oB hF;intro x e7 hF
   have le7:=ZA e7
   refine Zb h4 z6 e7 ?_
   apply oB hF;intro v e8 hF
   refine((C.f6 B hB1 hB2 x left'3 v e8)).goI ?_
   revert hF;refine kS ?_ ?_<;>intro h9 q10 hF
   ·cases hF
    refine kx1 h9 ?_
    refine lG _ (gR _) (hq _ ?_)
    exact kc0
   ·have w11:i64.wrap ((i:Int)+1)=(i:Int)+1:=ZB (by omega) (by omega)
    refine kx2 q10 w11 ?_
    refine zE ((ih_f7 v (i+1) o hF) _ rfl _ hq)
  ·have z6:¬((i:Int)<(a.length:Int)):=auz
   cases hF
   refine kx3 h4 q5 z6 ?_
   refine zF hq
theorem C.f8 (a:List zN)(left':Int)(r:Int)(hF:F.f8 a left'=some r):PureCall zQ B 5 [am zO a,li left'] (li r):=by
 unfold F.f8 at hF
 refine zG func5 rfl ntmps5 ?_
 revert hF;refine kS ?_ ?_<;>intro h1 q2 hF
 ·cases hF
  exact kc1 h1
 ·refine kx1 q2 ?_
  apply oB hF;intro o' ho12 hF
  refine zI (((CC.f7 B hB1 hB2 a) (i64.wrap (left'- (a.length:Int))) 0 o' ho12) _ rfl _ ?_)
  rcases o' with r0|sx
  ·dsimp only at hF
   cases hF
   intro st h
   simpa using h
  ·dsimp only at hF
   cases hF
   exact kc0
theorem CC.f9  :(∀(a:Pattern) (left':Int) (r:Int),F.f9 a left'=some r->PureCall zQ B 6 [.agg [li a.op,li a.ctor,li a.n,li a.m,li a.var,am zR a.kids],li left'] (li r))/\
  (∀(a:List Pattern) (left':Int) (r:Int),F.f10 a left'=some r->PureCall zQ B 25 [am zR a,li left'] (li r))/\
  (∀(a:List Pattern) (left'3:Int) (i:Nat) (o:Lo Int Int),F.f11 a left'3 i=some o->∀(c:Code),Zc [1,1,1,0,1,0,0] (ZJ Tryz.f25)=some c->∀(Q:Exit->ASt->Prop),o.post (fun r=>∀st,ZAR zQ Tryz.f25 (fun r' _=>r'.le (li r)) .ret st->Q .ret st) (fun s=>Q (.exit 0) ⟨[(1,li s)],[]⟩)->ALoopU zQ B 0 27 (hold c .mk) ⟨[(0,am zR a),(1,li left'3),(5,li (i:Int))],[]⟩ (hold Q .mk)):=by
 refine F.f9.mutual_partial_correctness 
  _ _ _
  ?_ ?_ ?_
 ·intro _f_f10 ih_f10 a left' r hF
  refine zG func6 rfl ntmps6 ?_
  refine kB hF fun v e1 hF=> ?_
  refine((ih_f10 a.kids left' v e1)).goI ?_
  revert hF;refine kS ?_ ?_<;>intro h2 q3 hF
  ·cases hF
   exact kc1 h2
  ·cases hF
   exact kc1 q3
 ·intro _f_f11 ih_f11 a left' r hF
  refine zG func25 rfl ntmps25 ?_
  revert hF;refine kS ?_ ?_<;>intro h1 q2 hF
  ·cases hF
   exact kc1 h1
  ·refine kx1 q2 ?_
   apply oB hF;intro o' ho12 hF
   refine zI ((ih_f11 a (i64.wrap (left'- (a.length:Int))) 0 o' ho12) _ rfl _ ?_)
   rcases o' with r0|sx
   ·dsimp only at hF
    cases hF
    intro st h
    simpa using h
   ·dsimp only at hF
    cases hF
    exact kc0
 ·intro _f_f9 _f_f11 ih_f9 ih_f11 a left'3 i o hF
  refine ZP rfl fun Q hq hk hs=> ?_
  have b0:=hk 0
  simp -dsimp at b0
  clear hk hs
  refine eN ?_
  revert hF;refine kS ?_ ?_<;>intro h4 q5 hF
  ·have z6:((i:Int)<(a.length:Int)):=auz
   apply oB hF;intro x e7 hF
   have le7:=ZA e7
   refine Zb h4 z6 e7 ?_
   apply oB hF;intro v e8 hF
   refine((ih_f9 x left'3 v e8)).goI ?_
   revert hF;refine kS ?_ ?_<;>intro h9 q10 hF
   ·cases hF
    refine kx1 h9 ?_
    refine lG _ (gR _) (hq _ ?_)
    exact kc0
   ·have w11:i64.wrap ((i:Int)+1)=(i:Int)+1:=ZB (by omega) (by omega)
    refine kx2 q10 w11 ?_
    refine zE ((ih_f11 a v (i+1) o hF) _ rfl _ hq)
  ·have z6:¬((i:Int)<(a.length:Int)):=auz
   cases hF
   refine kx3 h4 q5 z6 ?_
   refine zF hq
theorem C.f12 (a:Ty)(r:Ty)(hF:F.f12 a=some r):PureCall zQ B 9 [.agg [li a.data,li a.index]] (.agg [li r.data,li r.index]):=by
 unfold F.f12 at hF
 refine zG func9 rfl ntmps9 ?_
 cases hF
 exact kc0
theorem CC.f13 (a:List Ty):(∀(out:List Ty) (i:Nat) (o:List Ty),yB a out i=some o->∀(c:Code),Zc [1,1,0,1,0,0] (ZJ Tryz.f130)=some c->∀(Q:Exit->ASt->Prop),(Q (.exit 0) ⟨[(3,.own 0 (zA (α:=Ty) o))],[.elems 2 (zB zK o)]⟩)->ALoopU zQ B 0 23 (hold c .mk) ⟨[(0,am zK a),(3,.own 0 (zA (α:=Ty) out)),(4,li (i:Int))],[.elems 2 (zB zK out)]⟩ (hold Q .mk)):=by
 refine F.f13.partial_correctness a
  _
  ?_
 ·intro _f_f13 ih_f13 out i o hF
  refine ZP rfl fun Q hq hk hs=> ?_
  have b0:=hk 0
  simp -dsimp at b0
  have d0:=hs 0 _ rfl
  simp -dsimp[yC]at d0
  clear hk hs
  refine eN ?_
  revert hF;refine kS ?_ ?_<;>intro h2 q3 hF
  ·have z4:((i:Int)<(a.length:Int)):=auz
   apply oB hF;intro x e5 hF
   have le5:=ZA e5
   refine Zb h2 z4 e5 ?_
   apply oB hF;intro v e6 hF
   refine((C.f12 B hB1 hB2 x v e6)).goI ?_
   apply oB hF;intro x7 e8 hF
   have le8:=ZA e8
   have w9:i64.wrap ((i:Int)+1)=(i:Int)+1:=ZB (by omega) (by omega)
   refine ZNG e8 w9 ?_
   refine zE ((ih_f13 (out.set i v) (i+1) o hF) _ rfl _ hq)
  ·have z4:¬((i:Int)<(a.length:Int)):=auz
   cases hF
   refine kx3 h2 q3 z4 ?_
   refine zF hq
theorem C.f14 (a:List Ty)(r:List Ty)(hF:yA a=some r):PureCall zQ B 130 [am zK a] (am zK r):=by
 unfold yA at hF
 refine zG func130 rfl ntmps130 ?_
 apply oC hF;intro c1 hF
 refine kB hF fun o' ho10 hF=> ?_
 refine zI (((CC.f13 B hB1 hB2 a) (zC a.length Ty.z) 0 o' ho10) _ rfl _ ?_)
 cases hF
 exact kc0
theorem C.f15 (a:Ctor)(r:Ctor)(hF:zZ a=some r):PureCall zQ B 99 [.agg [.lit (.string a.name),am zK a.args,li a.index]] (.agg [.lit (.string r.name),am zK r.args,li r.index]):=by
 unfold zZ at hF
 refine zG func99 rfl ntmps99 ?_
 refine kB hF fun v e1 hF=> ?_
 refine((C.f14 B hB1 hB2 a.args v e1)).goI ?_
 cases hF
 exact kc0
theorem CC.f16 (a:List Ctor):(∀(out:List Ctor) (i:Nat) (o:List Ctor),zY a out i=some o->∀(c:Code),Zc [1,1,0,1,0,0] (ZJ Tryz.f64)=some c->∀(Q:Exit->ASt->Prop),(Q (.exit 0) ⟨[(3,.own 0 (zA (α:=Ctor) o))],[.elems 3 (zB zL o)]⟩)->ALoopU zQ B 0 23 (hold c .mk) ⟨[(0,am zL a),(3,.own 0 (zA (α:=Ctor) out)),(4,li (i:Int))],[.elems 3 (zB zL out)]⟩ (hold Q .mk)):=by
 refine F.f16.partial_correctness a
  _
  ?_
 ·intro _f_f16 ih_f16 out i o hF
  refine ZP rfl fun Q hq hk hs=> ?_
  have b0:=hk 0
  simp -dsimp at b0
  have d0:=hs 0 _ rfl
  simp -dsimp[yC]at d0
  clear hk hs
  refine eN ?_
  revert hF;refine kS ?_ ?_<;>intro h2 q3 hF
  ·have z4:((i:Int)<(a.length:Int)):=auz
   apply oB hF;intro x e5 hF
   have le5:=ZA e5
   refine Zb h2 z4 e5 ?_
   apply oB hF;intro v e6 hF
   refine((C.f15 B hB1 hB2 x v e6)).goI ?_
   apply oB hF;intro x7 e8 hF
   have le8:=ZA e8
   have w9:i64.wrap ((i:Int)+1)=(i:Int)+1:=ZB (by omega) (by omega)
   refine ZNG e8 w9 ?_
   refine zE ((ih_f16 (out.set i v) (i+1) o hF) _ rfl _ hq)
  ·have z4:¬((i:Int)<(a.length:Int)):=auz
   cases hF
   refine kx3 h2 q3 z4 ?_
   refine zF hq
theorem C.f17 (a:List Ctor)(r:List Ctor)(hF:zX a=some r):PureCall zQ B 64 [am zL a] (am zL r):=by
 unfold zX at hF
 refine zG func64 rfl ntmps64 ?_
 apply oC hF;intro c1 hF
 refine kB hF fun o' ho10 hF=> ?_
 refine zI (((CC.f16 B hB1 hB2 a) (zC a.length zM) 0 o' ho10) _ rfl _ ?_)
 cases hF
 exact kc0
theorem C.f18 (a:zN)(r:zN)(hF:zW a=some r):PureCall zQ B 32 [.agg [.lit (.string a.name),am zL a.ctors]] (.agg [.lit (.string r.name),am zL r.ctors]):=by
 unfold zW at hF
 refine zG func32 rfl ntmps32 ?_
 refine kB hF fun v e1 hF=> ?_
 refine((C.f17 B hB1 hB2 a.ctors v e1)).goI ?_
 cases hF
 exact kc0
theorem CC.f19 (a:List zN):(∀(out:List zN) (i:Nat) (o:List zN),zV a out i=some o->∀(c:Code),Zc [1,1,0,1,0,0] (ZJ Tryz.f8)=some c->∀(Q:Exit->ASt->Prop),(Q (.exit 0) ⟨[(3,.own 0 (zA (α:=zN) o))],[.elems 2 (zB zO o)]⟩)->ALoopU zQ B 0 23 (hold c .mk) ⟨[(0,am zO a),(3,.own 0 (zA (α:=zN) out)),(4,li (i:Int))],[.elems 2 (zB zO out)]⟩ (hold Q .mk)):=by
 refine F.f19.partial_correctness a
  _
  ?_
 ·intro _f_f19 ih_f19 out i o hF
  refine ZP rfl fun Q hq hk hs=> ?_
  have b0:=hk 0
  simp -dsimp at b0
  have d0:=hs 0 _ rfl
  simp -dsimp[yC]at d0
  clear hk hs
  refine eN ?_
  revert hF;refine kS ?_ ?_<;>intro h2 q3 hF
  ·have z4:((i:Int)<(a.length:Int)):=auz
   apply oB hF;intro x e5 hF
   have le5:=ZA e5
   refine Zb h2 z4 e5 ?_
   apply oB hF;intro v e6 hF
   refine((C.f18 B hB1 hB2 x v e6)).goI ?_
   apply oB hF;intro x7 e8 hF
   have le8:=ZA e8
   have w9:i64.wrap ((i:Int)+1)=(i:Int)+1:=ZB (by omega) (by omega)
   refine ZNG e8 w9 ?_
   refine zE ((ih_f19 (out.set i v) (i+1) o hF) _ rfl _ hq)
  ·have z4:¬((i:Int)<(a.length:Int)):=auz
   cases hF
   refine kx3 h2 q3 z4 ?_
   refine zF hq
theorem C.f20 (a:List zN)(r:List zN)(hF:zU a=some r):PureCall zQ B 8 [am zO a] (am zO r):=by
 unfold zU at hF
 refine zG func8 rfl ntmps8 ?_
 apply oC hF;intro c1 hF
 refine kB hF fun o' ho10 hF=> ?_
 refine zI (((CC.f19 B hB1 hB2 a) (zC a.length zP) 0 o' ho10) _ rfl _ ?_)
 cases hF
 exact kc0
theorem CC.f21  :(∀(a:Pattern) (r:Pattern),zT a=some r->PureCall zQ B 10 [.agg [li a.op,li a.ctor,li a.n,li a.m,li a.var,am zR a.kids]] (.agg [li r.op,li r.ctor,li r.n,li r.m,li r.var,am zR r.kids]))/\
  (∀(a:List Pattern) (r:List Pattern),F.f22 a=some r->PureCall zQ B 33 [am zR a] (am zR r))/\
  (∀(a:List Pattern) (out:List Pattern) (i:Nat) (o:List Pattern),F.f23 a out i=some o->∀(c:Code),Zc [1,1,0,1,0,0] (ZJ Tryz.f33)=some c->∀(Q:Exit->ASt->Prop),(Q (.exit 0) ⟨[(3,.own 0 (zA (α:=Pattern) o))],[.elems 6 (zB zR o)]⟩)->ALoopU zQ B 0 23 (hold c .mk) ⟨[(0,am zR a),(3,.own 0 (zA (α:=Pattern) out)),(4,li (i:Int))],[.elems 6 (zB zR out)]⟩ (hold Q .mk)):=by
 refine F.f21.mutual_partial_correctness 
  _ _ _
  ?_ ?_ ?_
 ·intro _f_f22 ih_f22 a r hF
  refine zG func10 rfl ntmps10 ?_
  refine kB hF fun v e1 hF=> ?_
  refine((ih_f22 a.kids v e1)).goI ?_
  cases hF
  exact kc0
 ·intro _f_f23 ih_f23 a r hF
  refine zG func33 rfl ntmps33 ?_
  apply oC hF;intro c1 hF
  refine kB hF fun o' ho10 hF=> ?_
  refine zI ((ih_f23 a (zC a.length zS) 0 o' ho10) _ rfl _ ?_)
  cases hF
  exact kc0
 ·intro _f_f21 _f_f23 ih_f21 ih_f23 a out i o hF
  refine ZP rfl fun Q hq hk hs=> ?_
  have b0:=hk 0
  simp -dsimp at b0
  have d0:=hs 0 _ rfl
  simp -dsimp[yC]at d0
  clear hk hs
  refine eN ?_
  revert hF;refine kS ?_ ?_<;>intro h2 q3 hF
  ·have z4:((i:Int)<(a.length:Int)):=auz
   apply oB hF;intro x e5 hF
   have le5:=ZA e5
   refine Zb h2 z4 e5 ?_
   apply oB hF;intro v e6 hF
   refine((ih_f21 x v e6)).goI ?_
   apply oB hF;intro x7 e8 hF
   have le8:=ZA e8
   have w9:i64.wrap ((i:Int)+1)=(i:Int)+1:=ZB (by omega) (by omega)
   refine ZNG e8 w9 ?_
   refine zE ((ih_f23 a (out.set i v) (i+1) o hF) _ rfl _ hq)
  ·have z4:¬((i:Int)<(a.length:Int)):=auz
   cases hF
   refine kx3 h2 q3 z4 ?_
   refine zF hq
theorem C.f24 (c':Int)(r:Bool)(hF:F.f24 c'=some r):PureCall zQ B 155 [.lit (.int .u8 c')] (.lit (.bool r)):=by
 unfold F.f24 at hF
 refine zG func155 rfl ntmps155 ?_
 revert hF;refine kS ?_ ?_<;>intro h1 q2 hF
 ·cases hF
  exact kc1 h1
 ·cases hF
  exact kc1 q2
theorem C.f25 (s:ByteArray)(r:Bool)(hF:F.f25 s=some r):PureCall zQ B 122 [.lit (.string s)] (.lit (.bool r)):=by
 unfold F.f25 at hF
 refine zG func122 rfl ntmps122 ?_
 revert hF;refine kS ?_ ?_<;>intro h1 q2 hF
 ·have z3:((s.size:Int)=1):=auz
  obtain⟨c4,hF⟩:=oc hF
  refine kx2 h1 z3 ?_
  obtain⟨v,e5,hF⟩:=ob hF
  refine((C.f24 B hB1 hB2 ((byteAt s 0:Nat):Int) v e5)).goI ?_
  refine kx2 h1 z3 ?_
  revert hF;refine aS (fun h6 q7 hF=> ?_) (fun h6 q7 hF=> ?_)
  ·cases hF
   exact kc3 h1 z3 h6
  ·cases hF
   exact kc4 h1 z3 h6 q7
 ·have z3:¬((s.size:Int)=1):=auz
  cases hF
  exact kc3 h1 q2 z3
theorem CC.f26 (s:ByteArray):(∀(i:Nat) (o:Lo Bool Unit),F.f26 s i=some o->∀(c:Code),Zc [1,1,0,1,0,0] (ZJ Tryz.f156)=some c->∀(Q:Exit->ASt->Prop),o.post (fun r=>∀st,ZAR zQ Tryz.f156 (fun r' _=>r'.le (.lit (.bool r))) .ret st->Q .ret st) (fun s=>Q (.exit 0) ⟨[],[]⟩)->ALoopU zQ B 0 34 (hold c .mk) ⟨[(0,.lit (.string s)),(3,li (i:Int))],[]⟩ (hold Q .mk)):=by
 refine F.f26.partial_correctness s
  _
  ?_
 ·intro _f_f26 ih_f26 i o hF
  refine ZP rfl fun Q hq hk hs=> ?_
  clear hk hs
  refine eN ?_
  revert hF;refine kS ?_ ?_<;>intro h11 q12 hF
  ·have z13:((i:Int)<(s.size:Int)):=auz
   refine kx2 h11 z13 ?_
   revert hF;refine aN ?_ ?_<;>intro h14 q15 hF
   ·have z16:¬(((byteAt s i:Nat):Int)<97):=auz
    refine kx5 h11 z13 h14 q15 z16 ?_
    revert hF;refine aS ?_ ?_<;>intro h17 q18 hF
    ·have z19:(122<((byteAt s i:Nat):Int)):=auz
     cases hF
     refine kx7 h11 z13 h14 q15 z16 h17 z19 ?_
     refine lG _ (gR _) (hq _ ?_)
     exact kc7 h11 z13 h14 q15 z16 h17 z19
    ·have z19:¬(122<((byteAt s i:Nat):Int)):=auz
     obtain⟨c20,hF⟩:=oc hF
     have w21:i64.wrap ((i:Int)+1)=(i:Int)+1:=ZB (by omega) (by omega)
     refine kx9 h11 z13 h14 q15 z16 h17 q18 z19 w21 ?_
     refine zE ((ih_f26 (i+1) o hF) _ rfl _ hq)
   ·have z16:(((byteAt s i:Nat):Int)<97):=auz
    cases hF
    refine kx5 h11 z13 h14 q15 z16 ?_
    refine lG _ (gR _) (hq _ ?_)
    exact kc5 h11 z13 h14 q15 z16
  ·have z13:¬((i:Int)<(s.size:Int)):=auz
   cases hF
   refine kx3 h11 q12 z13 ?_
   refine zF hq
theorem C.f27 (s:ByteArray)(r:Bool)(hF:F.f27 s=some r):PureCall zQ B 156 [.lit (.string s)] (.lit (.bool r)):=by
 unfold F.f27 at hF
 refine zG func156 rfl ntmps156 ?_
 revert hF;refine kN ?_ ?_<;>intro h1 q2 hF
 ·have z3:¬((s.size:Int)=0):=auz
  refine kx3 h1 q2 z3 ?_
  revert hF;refine aN ?_ ?_<;>intro h4 q5 hF
  ·have z6:¬(5<(s.size:Int)):=auz
   obtain⟨c7,hF⟩:=oc hF
   refine kx6 h1 q2 z3 h4 q5 z6 ?_
   obtain⟨v,e8,hF⟩:=ob hF
   refine((C.f24 B hB1 hB2 ((byteAt s 0:Nat):Int) v e8)).goI ?_
   refine kx6 h1 q2 z3 h4 q5 z6 ?_
   revert hF;refine aN (fun h9 q10 hF=> ?_) (fun h9 q10 hF=> ?_)
   ·cases hF
    exact kc8 h1 q2 z3 h4 q5 z6 h9 q10
   ·refine kx8 h1 q2 z3 h4 q5 z6 h9 q10 ?_
    obtain⟨o',ho22,hF⟩:=ob hF
    refine zI (((CC.f26 B hB1 hB2 s) 1 o' ho22) _ rfl _ ?_)
    rcases o' with r0|sx
    ·dsimp only at hF
     cases hF
     intro st h
     simpa using h
    ·dsimp only at hF
     cases hF
     exact kc0
  ·have z6:(5<(s.size:Int)):=auz
   cases hF
   exact kc6 h1 q2 z3 h4 q5 z6
 ·have z3:((s.size:Int)=0):=auz
  cases hF
  exact kc3 h1 q2 z3
theorem C.f28 (n:Int)(t:Ty)(r:Bool)(hF:F.f28 n t=some r):PureCall zQ B 125 [li n,.agg [li t.data,li t.index]] (.lit (.bool r)):=by
 unfold F.f28 at hF
 refine zG func125 rfl ntmps125 ?_
 revert hF;refine kS ?_ ?_<;>intro h1 q2 hF
 ·cases hF
  exact kc1 h1
 ·refine kx1 q2 ?_
  revert hF;refine aS ?_ ?_<;>intro h3 q4 hF
  ·refine kx1 h3 ?_
   revert hF;refine aS ?_ ?_<;>intro h5 q6 hF
   ·refine kx1 h5 ?_
    revert hF;refine aS ?_ ?_<;>intro h7 q8 hF
    ·cases hF
     exact kc1 h7
    ·cases hF
     exact kc1 q8
   ·cases hF
    exact kc1 q6
  ·cases hF
   exact kc1 q4
theorem CC.f29 (n:Int)(c':Ctor):(∀(i:Nat) (o:Lo Bool Unit),F.f29 n c' i=some o->∀(c:Code),Zc [1,1,0,1,0,0] (ZJ Tryz.f123)=some c->∀(Q:Exit->ASt->Prop),o.post (fun r=>∀st,ZAR zQ Tryz.f123 (fun r' _=>r'.le (.lit (.bool r))) .ret st->Q .ret st) (fun s=>Q (.exit 0) ⟨[],[]⟩)->ALoopU zQ B 0 41 (hold c .mk) ⟨[(0,li n),(3,.ptr 0 0),(5,li (i:Int))],[.cells [.lit (.string c'.name),am zK c'.args,li c'.index]]⟩ (hold Q .mk)):=by
 refine F.f29.partial_correctness n c'
  _
  ?_
 ·intro _f_f29 ih_f29 i o hF
  refine ZP rfl fun Q hq hk hs=> ?_
  have d0:=hs 0 _ rfl
  simp -dsimp[yC]at d0
  clear hk hs
  refine eN ?_
  revert hF;refine kS ?_ ?_<;>intro h11 q12 hF
  ·have z13:((i:Int)<(c'.args.length:Int)):=auz
   obtain⟨x,e14,hF⟩:=ob hF
   have le14:=ZA e14
   refine Zb h11 z13 e14 ?_
   obtain⟨v15,e16,hF⟩:=ob hF
   refine((C.f28 B hB1 hB2 n x v15 e16)).goI ?_
   revert hF;refine kN (fun h17 q18 hF=> ?_) (fun h17 q18 hF=> ?_)
   ·cases hF
    refine kx2 h17 q18 ?_
    refine lG _ (gR _) (hq _ ?_)
    exact kc0
   ·have w19:i64.wrap ((i:Int)+1)=(i:Int)+1:=ZB (by omega) (by omega)
    refine kx1 w19 ?_
    refine zE ((ih_f29 (i+1) o hF) _ rfl _ hq)
  ·have z13:¬((i:Int)<(c'.args.length:Int)):=auz
   cases hF
   refine kx3 h11 q12 z13 ?_
   refine zF hq
theorem C.f30 (n:Int)(c':Ctor)(r:Bool)(hF:F.f30 n c'=some r):PureCall zQ B 123 [li n,.agg [.lit (.string c'.name),am zK c'.args,li c'.index]] (.lit (.bool r)):=by
 unfold F.f30 at hF
 refine zG func123 rfl ntmps123 ?_
 refine kx0 ?_
 obtain⟨v,e1,hF⟩:=ob hF
 refine((C.f27 B hB1 hB2 c'.name v e1)).goI ?_
 revert hF;refine kS (fun h2 q3 hF=> ?_) (fun h2 q3 hF=> ?_)
 ·refine kx1 h2 ?_
  revert hF;refine aN ?_ ?_<;>intro h4 q5 hF
  ·have z6:¬(3<(c'.args.length:Int)):=auz
   refine kx4 h2 h4 q5 z6 ?_
   revert hF;refine aN ?_ ?_<;>intro h7 q8 hF
   ·refine kx6 h2 h4 q5 z6 h7 q8 ?_
    revert hF;refine aS ?_ ?_<;>intro h9 q10 hF
    ·cases hF
     exact kc7 h2 h4 q5 z6 h7 q8 h9
    ·refine kx8 h2 h4 q5 z6 h7 q8 h9 q10 ?_
     obtain⟨o',ho20,hF⟩:=ob hF
     refine zI (((CC.f29 B hB1 hB2 n c') 0 o' ho20) _ rfl _ ?_)
     rcases o' with r0|sx
     ·dsimp only at hF
      cases hF
      intro st h
      simpa using h
     ·dsimp only at hF
      cases hF
      exact kc0
   ·cases hF
    exact kc6 h2 h4 q5 z6 h7 q8
  ·have z6:(3<(c'.args.length:Int)):=auz
   cases hF
   exact kc4 h2 h4 q5 z6
 ·cases hF
  exact kc2 h2 q3
theorem CC.f31 (w:List zN)(d:Int)(k:Int)(i:Nat):(∀(j:Nat) (o:Lo Bool Unit),F.f31 w d k i j=some o->∀(c:Code),Zc [1,0,1,0,0,1,0,0,1,1,0,0] (ZJ Tryz.f124)=some c->∀(Q:Exit->ASt->Prop),o.post (fun r=>∀st,ZAR zQ Tryz.f124 (fun r' _=>r'.le (.lit (.bool r))) .ret st->Q .ret st) (fun s=>Q (.exit 2) ⟨[(0,am zO w),(1,li d),(2,li k),(7,li (i:Int))],[]⟩)->ALoopU zQ B 0 79 (hold c .mk) ⟨[(0,am zO w),(1,li d),(2,li k),(7,li (i:Int)),(8,li (j:Int))],[]⟩ (hold Q .mk)):=by
 refine F.f31.partial_correctness w d k i
  _
  ?_
 ·intro _f_f31 ih_f31 j o hF
  refine ZP rfl fun Q hq hk hs=> ?_
  have b0:=hk 0
  simp -dsimp at b0
  clear hk hs
  refine eN ?_
  apply oB hF;intro x10 e11 hF
  have le11:=ZA e11
  refine kdd e11 ?_
  revert hF;refine aS ?_ ?_<;>intro h12 q13 hF
  ·have z14:((j:Int)<(x10.ctors.length:Int)):=auz
   refine kx2 h12 z14 ?_
   revert hF;refine aN ?_ ?_<;>intro h15 q16 hF
   ·repeat first|refine cg ?_|simp -dsimp[↓e11,h12,z14,h15,q16]
    revert hF;refine aS ?_ ?_<;>intro h17 q18 hF
    ·repeat first|refine cg ?_|simp -dsimp[↓e11,h12,z14,h15,q16,h17]
     refine yE follows ?_
     apply oB hF;intro x19 e20a hF
     have e20a:=Zy e20a;obtain⟨ne20,e20⟩:=e20a
     have le20:=ZA e20
     refine kdd e20 ?_
     revert hF;refine aS ?_ ?_<;>intro h21 q22 hF
     ·apply oB hF;intro x23 e24 hF
      have le24:=ZA e24
      apply oB hF;intro x25 e26a hF
      have e26a:=Zy e26a;obtain⟨ne26,e26⟩:=e26a
      have le26:=ZA e26
      repeat first|refine cg ?_|simp -dsimp[↓e11,h12,z14,h15,q16,h17,↓e20,h21,↓e24,↓e26]
      revert hF;refine aS ?_ ?_<;>intro h27 q28 hF
      ·cases hF
       refine kx1 h27 ?_
       refine lG _ (gR _) (hq _ ?_)
       exact kc0
      ·apply oC hF;intro c29 hF
       have w30:i64.wrap ((j:Int)+1)=(j:Int)+1:=ZB (by omega) (by omega)
       refine kx2 q28 w30 ?_
       refine zE ((ih_f31 (j+1) o hF) _ rfl _ hq)
     ·apply oC hF;intro c31 hF
      have w32:i64.wrap ((j:Int)+1)=(j:Int)+1:=ZB (by omega) (by omega)
      refine kx3 h21 q22 w32 ?_
      refine zE ((ih_f31 (j+1) o hF) _ rfl _ hq)
    ·cases hF
     repeat first|refine cg ?_|simp -dsimp[↓e11,h12,z14,h15,q16,h17,q18]
     refine zF hq
   ·repeat first|refine cg ?_|simp -dsimp[↓e11,h12,z14,h15,q16]
    refine yE follows ?_
    apply oB hF;intro x33 e34a hF
    have e34a:=Zy e34a;obtain⟨ne34,e34⟩:=e34a
    have le34:=ZA e34
    refine kdd e34 ?_
    revert hF;refine aS ?_ ?_<;>intro h35 q36 hF
    ·apply oB hF;intro x37 e38 hF
     have le38:=ZA e38
     apply oB hF;intro x39 e40a hF
     have e40a:=Zy e40a;obtain⟨ne40,e40⟩:=e40a
     have le40:=ZA e40
     repeat first|refine cg ?_|simp -dsimp[↓e11,h12,z14,h15,q16,↓e34,h35,↓e38,↓e40]
     revert hF;refine aS ?_ ?_<;>intro h41 q42 hF
     ·cases hF
      refine kx1 h41 ?_
      refine lG _ (gR _) (hq _ ?_)
      exact kc0
     ·apply oC hF;intro c43 hF
      have w44:i64.wrap ((j:Int)+1)=(j:Int)+1:=ZB (by omega) (by omega)
      refine kx2 q42 w44 ?_
      refine zE ((ih_f31 (j+1) o hF) _ rfl _ hq)
    ·apply oC hF;intro c45 hF
     have w46:i64.wrap ((j:Int)+1)=(j:Int)+1:=ZB (by omega) (by omega)
     refine kx3 h35 q36 w46 ?_
     refine zE ((ih_f31 (j+1) o hF) _ rfl _ hq)
  ·have z14:¬((j:Int)<(x10.ctors.length:Int)):=auz
   cases hF
   refine kx3 h12 q13 z14 ?_
   refine zF hq
theorem CC.f32 (w:List zN)(d:Int)(k:Int)(i:Nat):(∀(j50:Nat) (o:Lo Bool Unit),F.f32 w d k i j50=some o->∀(c:Code),Zc [1,0,1,0,0,1,0,0,1,1,0,0] (ZJ Tryz.f124)=some c->∀(Q:Exit->ASt->Prop),o.post (fun r=>∀st,ZAR zQ Tryz.f124 (fun r' _=>r'.le (.lit (.bool r))) .ret st->Q .ret st) (fun s=>Q (.exit 2) ⟨[(0,am zO w),(1,li d),(2,li k),(7,li (i:Int))],[]⟩)->ALoopU zQ B 0 79 (hold c .mk) ⟨[(0,am zO w),(1,li d),(2,li k),(7,li (i:Int)),(8,li (j50:Int))],[]⟩ (hold Q .mk)):=by
 refine F.f32.partial_correctness w d k i
  _
  ?_
 ·intro _f_f32 ih_f32 j50 o hF
  refine ZP rfl fun Q hq hk hs=> ?_
  have b0:=hk 0
  simp -dsimp at b0
  clear hk hs
  refine eN ?_
  apply oB hF;intro x51 e52 hF
  have le52:=ZA e52
  refine kdd e52 ?_
  revert hF;refine aS ?_ ?_<;>intro h53 q54 hF
  ·have z55:((j50:Int)<(x51.ctors.length:Int)):=auz
   refine kx2 h53 z55 ?_
   revert hF;refine aN ?_ ?_<;>intro h56 q57 hF
   ·repeat first|refine cg ?_|simp -dsimp[↓e52,h53,z55,h56,q57]
    revert hF;refine aS ?_ ?_<;>intro h58 q59 hF
    ·repeat first|refine cg ?_|simp -dsimp[↓e52,h53,z55,h56,q57,h58]
     refine yE follows ?_
     apply oB hF;intro x60 e61a hF
     have e61a:=Zy e61a;obtain⟨ne61,e61⟩:=e61a
     have le61:=ZA e61
     refine kdd e61 ?_
     revert hF;refine aS ?_ ?_<;>intro h62 q63 hF
     ·apply oB hF;intro x64 e65 hF
      have le65:=ZA e65
      apply oB hF;intro x66 e67a hF
      have e67a:=Zy e67a;obtain⟨ne67,e67⟩:=e67a
      have le67:=ZA e67
      repeat first|refine cg ?_|simp -dsimp[↓e52,h53,z55,h56,q57,h58,↓e61,h62,↓e65,↓e67]
      revert hF;refine aS ?_ ?_<;>intro h68 q69 hF
      ·cases hF
       refine kx1 h68 ?_
       refine lG _ (gR _) (hq _ ?_)
       exact kc0
      ·apply oC hF;intro c70 hF
       have w71:i64.wrap ((j50:Int)+1)=(j50:Int)+1:=ZB (by omega) (by omega)
       refine kx2 q69 w71 ?_
       refine zE ((ih_f32 (j50+1) o hF) _ rfl _ hq)
     ·apply oC hF;intro c72 hF
      have w73:i64.wrap ((j50:Int)+1)=(j50:Int)+1:=ZB (by omega) (by omega)
      refine kx3 h62 q63 w73 ?_
      refine zE ((ih_f32 (j50+1) o hF) _ rfl _ hq)
    ·cases hF
     repeat first|refine cg ?_|simp -dsimp[↓e52,h53,z55,h56,q57,h58,q59]
     refine zF hq
   ·repeat first|refine cg ?_|simp -dsimp[↓e52,h53,z55,h56,q57]
    refine yE follows ?_
    apply oB hF;intro x74 e75a hF
    have e75a:=Zy e75a;obtain⟨ne75,e75⟩:=e75a
    have le75:=ZA e75
    refine kdd e75 ?_
    revert hF;refine aS ?_ ?_<;>intro h76 q77 hF
    ·apply oB hF;intro x78 e79 hF
     have le79:=ZA e79
     apply oB hF;intro x80 e81a hF
     have e81a:=Zy e81a;obtain⟨ne81,e81⟩:=e81a
     have le81:=ZA e81
     repeat first|refine cg ?_|simp -dsimp[↓e52,h53,z55,h56,q57,↓e75,h76,↓e79,↓e81]
     revert hF;refine aS ?_ ?_<;>intro h82 q83 hF
     ·cases hF
      refine kx1 h82 ?_
      refine lG _ (gR _) (hq _ ?_)
      exact kc0
     ·apply oC hF;intro c84 hF
      have w85:i64.wrap ((j50:Int)+1)=(j50:Int)+1:=ZB (by omega) (by omega)
      refine kx2 q83 w85 ?_
      refine zE ((ih_f32 (j50+1) o hF) _ rfl _ hq)
    ·apply oC hF;intro c86 hF
     have w87:i64.wrap ((j50:Int)+1)=(j50:Int)+1:=ZB (by omega) (by omega)
     refine kx3 h76 q77 w87 ?_
     refine zE ((ih_f32 (j50+1) o hF) _ rfl _ hq)
  ·have z55:¬((j50:Int)<(x51.ctors.length:Int)):=auz
   cases hF
   refine kx3 h53 q54 z55 ?_
   refine zF hq
theorem CC.f33 (w:List zN)(d:Int)(k:Int):(∀(i:Nat) (o:Lo Bool Unit),F.f33 w d k i=some o->∀(c:Code),Zc [1,0,1,0,0] (ZJ Tryz.f124)=some c->∀(Q:Exit->ASt->Prop),o.post (fun r=>∀st,ZAR zQ Tryz.f124 (fun r' _=>r'.le (.lit (.bool r))) .ret st->Q .ret st) (fun s=>Q (.exit 0) ⟨[],[]⟩)->ALoopU zQ B 0 79 (hold c .mk) ⟨[(0,am zO w),(1,li d),(2,li k),(7,li (i:Int))],[]⟩ (hold Q .mk)):=by
 refine F.f33.partial_correctness w d k
  _
  ?_
 ·intro _f_f33 ih_f33 i o hF
  refine ZP rfl fun Q hq hk hs=> ?_
  have b0:=hk 0
  simp -dsimp at b0
  clear hk hs
  refine eN ?_
  revert hF;refine kS ?_ ?_<;>intro h1 q2 hF
  ·refine kx1 h1 ?_
   refine yE follows ?_
   revert hF;refine kS ?_ ?_<;>intro h3 q4 hF
   ·obtain⟨x,e5,hF⟩:=ob hF
    have le5:=ZA e5
    obtain⟨x6,e7a,hF⟩:=ob hF
    have e7a:=Zy e7a;obtain⟨ne7,e7⟩:=e7a
    have le7:=ZA e7
    repeat first|refine cg ?_|simp -dsimp[h3,↓e5,↓e7]
    revert hF;refine aS ?_ ?_<;>intro h8 q9 hF
    ·cases hF
     refine kx1 h8 ?_
     refine lG _ (gR _) (hq _ ?_)
     exact kc0
    ·refine kx1 q9 ?_
     obtain⟨o',ho47,hF⟩:=ob hF
     refine zI (((CC.f31 B hB1 hB2 w d k i) 0 o' ho47) _ rfl _ ?_)
     rcases o' with r0|sx
     ·dsimp only at hF
      cases hF
      intro st h
      simp -dsimp
      refine lG st (gR _) (hq st h)
     ·dsimp only at hF
      obtain⟨c48,hF⟩:=oc hF
      have w49:i64.wrap ((i:Int)+1)=(i:Int)+1:=ZB (by omega) (by omega)
      refine kx1 w49 ?_
      refine zE ((ih_f33 (i+1) o hF) _ rfl _ hq)
   ·refine kx2 h3 q4 ?_
    obtain⟨o'89,ho88,hF⟩:=ob hF
    refine zI (((CC.f32 B hB1 hB2 w d k i) 0 o'89 ho88) _ rfl _ ?_)
    rcases o'89 with r093|sx90
    ·dsimp only at hF
     cases hF
     intro st h
     simp -dsimp
     refine lG st (gR _) (hq st h)
    ·dsimp only at hF
     obtain⟨c91,hF⟩:=oc hF
     have w92:i64.wrap ((i:Int)+1)=(i:Int)+1:=ZB (by omega) (by omega)
     refine kx1 w92 ?_
     refine zE ((ih_f33 (i+1) o hF) _ rfl _ hq)
  ·cases hF
   refine kx1 q2 ?_
   refine zF hq
theorem C.f34 (w:List zN)(d:Int)(k:Int)(r:Bool)(hF:F.f34 w d k=some r):PureCall zQ B 124 [am zO w,li d,li k] (.lit (.bool r)):=by
 unfold F.f34 at hF
 refine zG func124 rfl ntmps124 ?_
 refine kx0 ?_
 obtain⟨o'95,ho94,hF⟩:=ob hF
 refine zI (((CC.f33 B hB1 hB2 w d k) 0 o'95 ho94) _ rfl _ ?_)
 rcases o'95 with r097|sx96
 ·dsimp only at hF
  cases hF
  intro st h
  simpa using h
 ·dsimp only at hF
  cases hF
  exact kc0
theorem CC.f35 (w:List zN)(d:Nat):(∀(k:Nat) (o:Lo Bool Unit),F.f35 w d k=some o->∀(c:Code),Zc [1,1,0,1,0,0,1,0,0,1,1,0,0] (ZJ Tryz.f89)=some c->∀(Q:Exit->ASt->Prop),o.post (fun r=>∀st,ZAR zQ Tryz.f89 (fun r' _=>r'.le (.lit (.bool r))) .ret st->Q .ret st) (fun s=>Q (.exit 2) ⟨[(0,am zO w),(3,li (d:Int))],[]⟩)->ALoopU zQ B 0 67 (hold c .mk) ⟨[(0,am zO w),(3,li (d:Int)),(4,li (k:Int))],[]⟩ (hold Q .mk)):=by
 refine F.f35.partial_correctness w d
  _
  ?_
 ·intro _f_f35 ih_f35 k o hF
  refine ZP rfl fun Q hq hk hs=> ?_
  have b0:=hk 0
  simp -dsimp at b0
  clear hk hs
  refine eN ?_
  apply oB hF;intro x17 e18 hF
  have le18:=ZA e18
  refine kdd e18 ?_
  revert hF;refine aS ?_ ?_<;>intro h19 q20 hF
  ·have z21:((k:Int)<(x17.ctors.length:Int)):=auz
   apply oB hF;intro x22 e23 hF
   have le23:=ZA e23
   repeat first|refine cg ?_|simp -dsimp[↓e18,h19,z21,↓e23]
   apply oB hF;intro v24 e25 hF
   refine((C.f30 B hB1 hB2 (w.length:Int) x22 v24 e25)).goI ?_
   repeat first|refine cg ?_|simp -dsimp[↓e18,h19,z21,↓e23]
   revert hF;refine aS (fun h26 q27 hF=> ?_) (fun h26 q27 hF=> ?_)
   ·repeat first|refine cg ?_|simp -dsimp[↓e18,h19,z21,↓e23,h26]
    apply oB hF;intro v28 e29 hF
    refine((C.f34 B hB1 hB2 w (d:Int) (k:Int) v28 e29)).goI ?_
    repeat first|refine cg ?_|simp -dsimp[↓e18,h19,z21,↓e23,h26]
    revert hF;refine aS (fun h30 q31 hF=> ?_) (fun h30 q31 hF=> ?_)
    ·cases hF
     repeat first|refine cg ?_|simp -dsimp[↓e18,h19,z21,↓e23,h26,h30]
     refine lG _ (gR _) (hq _ ?_)
     repeat first|refine cg ?_|simp -dsimp[↓e18,h19,z21,↓e23,h26,h30]
    ·apply oC hF;intro c32 hF
     have w33:i64.wrap ((k:Int)+1)=(k:Int)+1:=ZB (by omega) (by omega)
     repeat first|refine cg ?_|simp -dsimp[↓e18,h19,z21,↓e23,h26,h30,q31,w33]
     refine zE ((ih_f35 (k+1) o hF) _ rfl _ hq)
   ·cases hF
    repeat first|refine cg ?_|simp -dsimp[↓e18,h19,z21,↓e23,h26,q27]
    refine lG _ (gR _) (hq _ ?_)
    repeat first|refine cg ?_|simp -dsimp[↓e18,h19,z21,↓e23,h26,q27]
  ·have z21:¬((k:Int)<(x17.ctors.length:Int)):=auz
   cases hF
   repeat first|refine cg ?_|simp -dsimp[↓e18,h19,q20,z21]
   refine zF hq
theorem CC.f36 (w:List zN):(∀(d:Nat) (o:Lo Bool Unit),F.f36 w d=some o->∀(c:Code),Zc [1,1,0,1,0,0] (ZJ Tryz.f89)=some c->∀(Q:Exit->ASt->Prop),o.post (fun r=>∀st,ZAR zQ Tryz.f89 (fun r' _=>r'.le (.lit (.bool r))) .ret st->Q .ret st) (fun s=>Q (.exit 0) ⟨[],[]⟩)->ALoopU zQ B 0 67 (hold c .mk) ⟨[(0,am zO w),(3,li (d:Int))],[]⟩ (hold Q .mk)):=by
 refine F.f36.partial_correctness w
  _
  ?_
 ·intro _f_f36 ih_f36 d o hF
  refine ZP rfl fun Q hq hk hs=> ?_
  have b0:=hk 0
  simp -dsimp at b0
  clear hk hs
  refine eN ?_
  revert hF;refine kS ?_ ?_<;>intro h4 q5 hF
  ·have z6:((d:Int)<(w.length:Int)):=auz
   obtain⟨x,e7,hF⟩:=ob hF
   have le7:=ZA e7
   refine Zb h4 z6 e7 ?_
   obtain⟨v,e8,hF⟩:=ob hF
   refine((C.f25 B hB1 hB2 x.name v e8)).goI ?_
   refine Zb h4 z6 e7 ?_
   revert hF;refine aS (fun h9 q10 hF=> ?_) (fun h9 q10 hF=> ?_)
   ·repeat first|refine cg ?_|simp -dsimp[h4,z6,↓e7,h9]
    revert hF;refine aN ?_ ?_<;>intro h11 q12 hF
    ·have z13:¬((x.ctors.length:Int)=0):=auz
     repeat first|refine cg ?_|simp -dsimp[h4,z6,↓e7,h9,h11,q12,z13]
     revert hF;refine aS ?_ ?_<;>intro h14 q15 hF
     ·have z16:(4<(x.ctors.length:Int)):=auz
      cases hF
      repeat first|refine cg ?_|simp -dsimp[h4,z6,↓e7,h9,h11,q12,z13,h14,z16]
      refine lG _ (gR _) (hq _ ?_)
      repeat first|refine cg ?_|simp -dsimp[h4,z6,↓e7,h9,h11,q12,z13,h14,z16]
     ·have z16:¬(4<(x.ctors.length:Int)):=auz
      repeat first|refine cg ?_|simp -dsimp[h4,z6,↓e7,h9,h11,q12,z13,h14,q15,z16]
      obtain⟨o',ho34,hF⟩:=ob hF
      refine zI (((CC.f35 B hB1 hB2 w d) 0 o' ho34) _ rfl _ ?_)
      rcases o' with r0|sx
      ·dsimp only at hF
       cases hF
       intro st h
       simp -dsimp
       refine lG st (gR _) (hq st h)
      ·dsimp only at hF
       obtain⟨c35,hF⟩:=oc hF
       have w36:i64.wrap ((d:Int)+1)=(d:Int)+1:=ZB (by omega) (by omega)
       refine kx1 w36 ?_
       refine zE ((ih_f36 (d+1) o hF) _ rfl _ hq)
    ·have z13:((x.ctors.length:Int)=0):=auz
     cases hF
     repeat first|refine cg ?_|simp -dsimp[h4,z6,↓e7,h9,h11,q12,z13]
     refine lG _ (gR _) (hq _ ?_)
     repeat first|refine cg ?_|simp -dsimp[h4,z6,↓e7,h9,h11,q12,z13]
   ·cases hF
    repeat first|refine cg ?_|simp -dsimp[h4,z6,↓e7,h9,q10]
    refine lG _ (gR _) (hq _ ?_)
    repeat first|refine cg ?_|simp -dsimp[h4,z6,↓e7,h9,q10]
  ·have z6:¬((d:Int)<(w.length:Int)):=auz
   cases hF
   refine kx3 h4 q5 z6 ?_
   refine zF hq
theorem C.f37 (w:List zN)(r:Bool)(hF:F.f37 w=some r):PureCall zQ B 89 [am zO w] (.lit (.bool r)):=by
 unfold F.f37 at hF
 refine zG func89 rfl ntmps89 ?_
 revert hF;refine kS ?_ ?_<;>intro h1 q2 hF
 ·have z3:(4<(w.length:Int)):=auz
  cases hF
  exact kc2 h1 z3
 ·have z3:¬(4<(w.length:Int)):=auz
  refine kx3 h1 q2 z3 ?_
  obtain⟨o'38,ho37,hF⟩:=ob hF
  refine zI (((CC.f36 B hB1 hB2 w) 0 o'38 ho37) _ rfl _ ?_)
  rcases o'38 with r040|sx39
  ·dsimp only at hF
   cases hF
   intro st h
   simpa using h
  ·dsimp only at hF
   cases hF
   exact kc0
theorem C.f38 (w:List zN)(t:Ty)(r:Bool)(hF:F.f38 w t=some r):PureCall zQ B 90 [am zO w,.agg [li t.data,li t.index]] (.lit (.bool r)):=by
 unfold F.f38 at hF
 refine zG func90 rfl ntmps90 ?_
 refine kB hF fun v e1 hF=> ?_
 refine((C.f28 B hB1 hB2 (w.length:Int) t v e1)).goI ?_
 revert hF;refine kS (fun h2 q3 hF=> ?_) (fun h2 q3 hF=> ?_)
 ·cases hF
  exact kc1 h2
 ·cases hF
  exact kc1 q3
theorem C.f39 (w:List zN)(t:Ty)(r:Bool)(hF:F.f39 w t=some r):PureCall zQ B 53 [am zO w,.agg [li t.data,li t.index]] (.lit (.bool r)):=by
 unfold F.f39 at hF
 refine zG func53 rfl ntmps53 ?_
 refine kB hF fun v e1 hF=> ?_
 refine((C.f37 B hB1 hB2 w v e1)).goI ?_
 revert hF;refine kS (fun h2 q3 hF=> ?_) (fun h2 q3 hF=> ?_)
 ·refine kx1 h2 ?_
  apply oB hF;intro v4 e5 hF
  refine((C.f38 B hB1 hB2 w t v4 e5)).goI ?_
  cases hF
  exact kc1 h2
 ·cases hF
  exact kc2 h2 q3
theorem C.f40 (c':Ctor)(index':Int)(r:Bool)(hF:F.f40 c' index'=some r):PureCall zQ B 96 [.agg [.lit (.string c'.name),am zK c'.args,li c'.index],li index'] (.lit (.bool r)):=by
 unfold F.f40 at hF
 refine zG func96 rfl ntmps96 ?_
 revert hF;refine kN ?_ ?_<;>intro h1 q2 hF
 ·refine kx2 h1 q2 ?_
  revert hF;refine aN ?_ ?_<;>intro h3 q4 hF
  ·cases hF
   exact kc4 h1 q2 h3 q4
  ·cases hF
   repeat first|refine cg ?_|simp -dsimp[h1,q2,eq_true h3,eq_true q4]
 ·cases hF
  exact kc2 h1 q2
theorem CC.f41 (w:List zN)(t:Ty):(∀(out:List Int) (k:Nat) (o:List Int),F.f41 w t out k=some o->∀(c:Code),Zc [1,1,1,0,1,0,0] (ZJ Tryz.f58)=some c->∀(Q:Exit->ASt->Prop),(Q (.exit 0) ⟨[(5,.own 1 (zA (α:=Int) o))],[.dead,.elems 1 (zB cI o)]⟩)->ALoopU zQ B 0 40 (hold c .mk) ⟨[(0,am zO w),(3,.ptr 0 0),(5,.own 1 (zA (α:=Int) out)),(6,li (k:Int))],[.cells [li t.data,li t.index],.elems 1 (zB cI out)]⟩ (hold Q .mk)):=by
 refine F.f41.partial_correctness w t
  _
  ?_
 ·intro _f_f41 ih_f41 out k o hF
  refine ZP rfl fun Q hq hk hs=> ?_
  have b0:=hk 0
  simp -dsimp at b0
  have d1:=hs 1 _ rfl
  simp -dsimp[yC]at d1
  clear hk hs
  refine eN ?_
  apply oB hF;intro x e3a hF
  have e3a:=Zy e3a;obtain⟨ne3,e3⟩:=e3a
  have le3:=ZA e3
  refine kdd e3 ?_
  revert hF;refine aS ?_ ?_<;>intro h4 q5 hF
  ·have z6:((k:Int)<(x.ctors.length:Int)):=auz
   refine ZJV e3 h4 z6 ?_
   refine yE follows ?_
   apply oB hF;intro x7 e8 hF
   have le8:=ZA e8
   refine ZF5 e3 e8 ?_
   apply oB hF;intro v e9 hF
   refine((C.f40 B hB1 hB2 x7 t.index v e9)).pgoW (by simp_all) (by simp) ?_
   refine ZF5 e3 e8 ?_
   revert hF;refine aS (fun h10 q11 hF=> ?_) (fun h10 q11 hF=> ?_)
   ·apply oC hF;intro c12 hF
    apply oC hF;intro c13 hF
    have w14:i64.wrap ((k:Int)+1)=(k:Int)+1:=ZB (by omega) (by omega)
    repeat first|refine cg ?_|simp -dsimp[↓e3,↓e8,h10,w14]
    refine zE ((ih_f41 (out++[(k:Int)]) (k+1) o hF) _ rfl _ hq)
   ·apply oC hF;intro c15 hF
    have w16:i64.wrap ((k:Int)+1)=(k:Int)+1:=ZB (by omega) (by omega)
    repeat first|refine cg ?_|simp -dsimp[↓e3,↓e8,h10,q11,w16]
    refine zE ((ih_f41 out (k+1) o hF) _ rfl _ hq)
  ·have z6:¬((k:Int)<(x.ctors.length:Int)):=auz
   cases hF
   repeat first|refine cg ?_|simp -dsimp[↓e3,h4,q5,z6]
   refine zF hq
theorem C.f42 (w:List zN)(t:Ty)(r:List Int)(hF:F.f42 w t=some r):PureCall zQ B 58 [am zO w,.agg [li t.data,li t.index]] (am cI r):=by
 unfold F.f42 at hF
 refine zG func58 rfl ntmps58 ?_
 revert hF;refine kS ?_ ?_<;>intro h1 q2 hF
 ·cases hF
  exact kc1 h1
 ·refine kx1 q2 ?_
  apply oB hF;intro o' ho17 hF
  refine zI (((CC.f41 B hB1 hB2 w t) [] 0 o' ho17) _ rfl _ ?_)
  cases hF
  exact kc0
theorem CC.f43 (list:List Int)(n:Int):(∀(i:Nat) (o:Lo Bool Unit),F.f43 list n i=some o->∀(c:Code),Zc [1,0,1,0,0] (ZJ Tryz.f98)=some c->∀(Q:Exit->ASt->Prop),o.post (fun r=>∀st,ZAR zQ Tryz.f98 (fun r' _=>r'.le (.lit (.bool r))) .ret st->Q .ret st) (fun s=>Q (.exit 0) ⟨[],[]⟩)->ALoopU zQ B 0 18 (hold c .mk) ⟨[(0,am cI list),(1,li n),(5,li (i:Int))],[]⟩ (hold Q .mk)):=by
 refine F.f43.partial_correctness list n
  _
  ?_
 ·intro _f_f43 ih_f43 i o hF
  refine ZP rfl fun Q hq hk hs=> ?_
  have b0:=hk 0
  simp -dsimp at b0
  clear hk hs
  refine eN ?_
  revert hF;refine kS ?_ ?_<;>intro h1 q2 hF
  ·have z3:((i:Int)<(list.length:Int)):=auz
   apply oB hF;intro x e4 hF
   have le4:=ZA e4
   refine Zb h1 z3 e4 ?_
   revert hF;refine aS ?_ ?_<;>intro h5 q6 hF
   ·cases hF
    refine kx1 h5 ?_
    refine lG _ (gR _) (hq _ ?_)
    exact kc0
   ·have w7:i64.wrap ((i:Int)+1)=(i:Int)+1:=ZB (by omega) (by omega)
    refine kx2 q6 w7 ?_
    refine zE ((ih_f43 (i+1) o hF) _ rfl _ hq)
  ·have z3:¬((i:Int)<(list.length:Int)):=auz
   cases hF
   refine kx3 h1 q2 z3 ?_
   refine zF hq
theorem C.f44 (list:List Int)(n:Int)(r:Bool)(hF:F.f44 list n=some r):PureCall zQ B 98 [am cI list,li n] (.lit (.bool r)):=by
 unfold F.f44 at hF
 refine zG func98 rfl ntmps98 ?_
 refine kB hF fun o' ho8 hF=> ?_
 refine zI (((CC.f43 B hB1 hB2 list n) 0 o' ho8) _ rfl _ ?_)
 rcases o' with r0|sx
 ·dsimp only at hF
  cases hF
  intro st h
  simpa using h
 ·dsimp only at hF
  cases hF
  exact kc0
theorem C.f45 (w:List zN)(t:Ty)(p:Pattern)(r:Bool)(hF:F.f45 w t p=some r):PureCall zQ B 126 [am zO w,.agg [li t.data,li t.index],.agg [li p.op,li p.ctor,li p.n,li p.m,li p.var,am zR p.kids]] (.lit (.bool r)):=by
 unfold F.f45 at hF
 refine zG func126 rfl ntmps126 ?_
 revert hF;refine kN ?_ ?_<;>intro h1 q2 hF
 ·refine kx2 h1 q2 ?_
  revert hF;refine aS ?_ ?_<;>intro h3 q4 hF
  ·refine kx3 h1 q2 h3 ?_
   revert hF;refine aN ?_ ?_<;>intro h5 q6 hF
   ·refine kx5 h1 q2 h3 h5 q6 ?_
    revert hF;refine aN ?_ ?_<;>intro h7 q8 hF
    ·have n9:¬(p.op=3):=by omega
     refine kx8 h1 q2 h3 h5 q6 h7 q8 n9 ?_
     revert hF;refine aS ?_ ?_<;>intro h10 q11 hF
     ·refine kx9 h1 q2 h3 h5 q6 h7 q8 n9 h10 ?_
      revert hF;refine aS ?_ ?_<;>intro h12 q13 hF
      ·have n14:¬(p.op=4):=by omega
       repeat first|refine cg ?_|simp -dsimp[h1,q2,h3,h5,q6,h7,q8,n9,h10,h12,n14]
       revert hF;refine aN ?_ ?_<;>intro h15 q16 hF
       ·cases hF
        repeat first|refine cg ?_|simp -dsimp[h1,q2,h3,h5,q6,h7,q8,n9,h10,h12,n14,h15,q16]
       ·have n17:¬(p.op=1):=by omega
        have n18:¬(p.op=5):=by omega
        cases hF
        repeat first|refine cg ?_|simp -dsimp[h1,q2,h3,h5,q6,h7,q8,n9,h10,h12,n14,h15,q16,n17,n18]
      ·cases hF
       repeat first|refine cg ?_|simp -dsimp[h1,q2,h3,h5,q6,h7,q8,n9,h10,h12,q13]
     ·cases hF
      repeat first|refine cg ?_|simp -dsimp[h1,q2,h3,h5,q6,h7,q8,n9,h10,q11]
    ·cases hF
     exact kc7 h1 q2 h3 h5 q6 h7 q8
   ·cases hF
    exact kc5 h1 q2 h3 h5 q6
  ·refine kx4 h1 q2 h3 q4 ?_
   revert hF;refine aN ?_ ?_<;>intro h19 q20 hF
   ·cases hF
    exact kc6 h1 q2 h3 q4 h19 q20
   ·refine kx6 h1 q2 h3 q4 h19 q20 ?_
    revert hF;refine aN ?_ ?_<;>intro h21 q22 hF
    ·refine kx8 h1 q2 h3 q4 h19 q20 h21 q22 ?_
     revert hF;refine aS ?_ ?_<;>intro h23 q24 hF
     ·refine kx9 h1 q2 h3 q4 h19 q20 h21 q22 h23 ?_
      revert hF;refine aS ?_ ?_<;>intro h25 q26 hF
      ·repeat first|refine cg ?_|simp -dsimp[h1,q2,h3,q4,h19,q20,h21,q22,h23,h25]
       revert hF;refine aN ?_ ?_<;>intro h27 q28 hF
       ·repeat first|refine cg ?_|simp -dsimp[h1,q2,h3,q4,h19,q20,h21,q22,h23,h25,h27,q28]
        revert hF;refine aN ?_ ?_<;>intro h29 q30 hF
        ·cases hF
         repeat first|refine cg ?_|simp -dsimp[h1,q2,h3,q4,h19,q20,h21,q22,h23,h25,h27,q28,h29,q30]
        ·repeat first|refine cg ?_|simp -dsimp[h1,q2,h3,q4,h19,q20,h21,q22,h23,h25,h27,q28,h29,q30]
         revert hF;refine aS ?_ ?_<;>intro h31 q32 hF
         ·cases hF
          repeat first|refine cg ?_|simp -dsimp[h1,q2,h3,q4,h19,q20,h21,q22,h23,h25,h27,q28,h29,q30,h31]
         ·repeat first|refine cg ?_|simp -dsimp[h1,q2,h3,q4,h19,q20,h21,q22,h23,h25,h27,q28,h29,q30,h31,q32]
          revert hF;refine aS ?_ ?_<;>intro h33 q34 hF
          ·cases hF
           repeat first|refine cg ?_|simp -dsimp[h1,q2,h3,q4,h19,q20,h21,q22,h23,h25,h27,q28,h29,q30,h31,q32,h33]
          ·cases hF
           repeat first|refine cg ?_|simp -dsimp[h1,q2,h3,q4,h19,q20,h21,q22,h23,h25,h27,q28,h29,q30,h31,q32,h33,q34]
       ·have n35:¬(p.op=1):=by omega
        have n36:¬(p.op=5):=by omega
        repeat first|refine cg ?_|simp -dsimp[h1,q2,h3,q4,h19,q20,h21,q22,h23,h25,h27,q28,n35,n36]
        refine yE follows ?_
        repeat first|refine cg ?_|simp -dsimp[h1,q2,h3,q4,h19,q20,h21,q22,h23,h25,h27,q28,n35,n36]
        apply oB hF;intro v e37 hF
        refine((C.f42 B hB1 hB2 w t v e37)).pgoW (by simp[h1,q2,h3,q4,h19,q20,h21,q22,h23,h25,h27,q28,n35,n36]) (by simp) ?_
        repeat first|refine cg ?_|simp -dsimp[h1,q2,h3,q4,h19,q20,h21,q22,h23,h25,h27,q28,n35,n36]
        apply oB hF;intro v38 e39 hF
        refine((C.f44 B hB1 hB2 v p.ctor v38 e39)).pgoW (by simp[h1,q2,h3,q4,h19,q20,h21,q22,h23,h25,h27,q28,n35,n36]) (by simp) ?_
        cases hF
        repeat first|refine cg ?_|simp -dsimp[h1,q2,h3,q4,h19,q20,h21,q22,h23,h25,h27,q28,n35,n36]
      ·cases hF
       repeat first|refine cg ?_|simp -dsimp[h1,q2,h3,q4,h19,q20,h21,q22,h23,h25,q26]
     ·cases hF
      repeat first|refine cg ?_|simp -dsimp[h1,q2,h3,q4,h19,q20,h21,q22,h23,q24]
    ·have n40:¬(p.op=4):=by omega
     refine kx9 h1 q2 h3 q4 h19 q20 h21 q22 n40 ?_
     revert hF;refine aN ?_ ?_<;>intro h41 q42 hF
     ·cases hF
      repeat first|refine cg ?_|simp -dsimp[h1,q2,h3,q4,h19,q20,h21,q22,n40,h41,q42]
     ·have n43:¬(p.op=1):=by omega
      have n44:¬(p.op=5):=by omega
      repeat first|refine cg ?_|simp -dsimp[h1,q2,h3,q4,h19,q20,h21,q22,n40,h41,q42,n43,n44]
      revert hF;refine aS ?_ ?_<;>intro h45 q46 hF
      ·repeat first|refine cg ?_|simp -dsimp[h1,q2,h3,q4,h19,q20,h21,q22,n40,h41,q42,n43,n44,h45]
       revert hF;refine aS ?_ ?_<;>intro h47 q48 hF
       ·repeat first|refine cg ?_|simp -dsimp[h1,q2,h3,q4,h19,q20,h21,q22,n40,h41,q42,n43,n44,h45,h47]
        revert hF;refine aS ?_ ?_<;>intro h49 q50 hF
        ·cases hF
         repeat first|refine cg ?_|simp -dsimp[h1,q2,h3,q4,h19,q20,h21,q22,n40,h41,q42,n43,n44,h45,h47,h49]
        ·cases hF
         repeat first|refine cg ?_|simp -dsimp[h1,q2,h3,q4,h19,q20,h21,q22,n40,h41,q42,n43,n44,h45,h47,h49,q50]
       ·cases hF
        repeat first|refine cg ?_|simp -dsimp[h1,q2,h3,q4,h19,q20,h21,q22,n40,h41,q42,n43,n44,h45,h47,q48]
      ·cases hF
       repeat first|refine cg ?_|simp -dsimp[h1,q2,h3,q4,h19,q20,h21,q22,n40,h41,q42,n43,n44,h45,q46]
 ·refine kx2 h1 q2 ?_
  revert hF;refine aN ?_ ?_<;>intro h51 q52 hF
  ·refine kx4 h1 q2 h51 q52 ?_
   revert hF;refine aN ?_ ?_<;>intro h53 q54 hF
   ·have n55:¬(p.op=3):=by omega
    refine kx7 h1 q2 h51 q52 h53 q54 n55 ?_
    revert hF;refine aS ?_ ?_<;>intro h56 q57 hF
    ·refine kx8 h1 q2 h51 q52 h53 q54 n55 h56 ?_
     revert hF;refine aS ?_ ?_<;>intro h58 q59 hF
     ·have n60:¬(p.op=4):=by omega
      repeat first|refine cg ?_|simp -dsimp[h1,q2,h51,q52,h53,q54,n55,h56,h58,n60]
      revert hF;refine aN ?_ ?_<;>intro h61 q62 hF
      ·cases hF
       repeat first|refine cg ?_|simp -dsimp[h1,q2,h51,q52,h53,q54,n55,h56,h58,n60,h61,q62]
      ·have n63:¬(p.op=1):=by omega
       cases hF
       repeat first|refine cg ?_|simp -dsimp[h1,q2,h51,q52,h53,q54,n55,h56,h58,n60,h61,q62,n63]
     ·cases hF
      repeat first|refine cg ?_|simp -dsimp[h1,q2,h51,q52,h53,q54,n55,h56,h58,q59]
    ·cases hF
     exact kc9 h1 q2 h51 q52 h53 q54 n55 h56 q57
   ·cases hF
    exact kc6 h1 q2 h51 q52 h53 q54
  ·cases hF
   exact kc4 h1 q2 h51 q52
theorem C.f46 (c':Ctor)(index':Int)(r:Int)(hF:F.f46 c' index'=some r):PureCall zQ B 97 [.agg [.lit (.string c'.name),am zK c'.args,li c'.index],li index'] (li r):=by
 unfold F.f46 at hF
 refine zG func97 rfl ntmps97 ?_
 revert hF;refine kS ?_ ?_<;>intro h1 q2 hF
 ·cases hF
  exact kc1 h1
 ·cases hF
  exact kc1 q2
theorem CC.f47 (t:Ty)(x2:Ctor):(∀(out:List Ty) (i:Nat) (o:List Ty),F.f47 t x2 out i=some o->∀(c:Code),Zc [1,1,1,0,1,0,0] (ZJ Tryz.f61)=some c->∀(Q:Exit->ASt->Prop),(Q (.exit 0) ⟨[(7,.own 1 (zA (α:=Ty) o))],[.dead,.elems 2 (zB zK o)]⟩)->ALoopU zQ B 0 46 (hold c .mk) ⟨[(4,.ptr 0 0),(7,.own 1 (zA (α:=Ty) out)),(8,.ptr 2 0),(9,li (i:Int))],[.cells [li t.data,li t.index],.elems 2 (zB zK out),.cells [.lit (.string x2.name),am zK x2.args,li x2.index]]⟩ (hold Q .mk)):=by
 refine F.f47.partial_correctness t x2
  _
  ?_
 ·intro _f_f47 ih_f47 out i o hF
  refine ZP rfl fun Q hq hk hs=> ?_
  have d1:=hs 1 _ rfl
  simp -dsimp[yC]at d1
  have d2:=hs 2 _ rfl
  simp -dsimp[yC]at d2
  clear hk hs
  refine eN ?_
  revert hF;refine kS ?_ ?_<;>intro h4 q5 hF
  ·have z6:((i:Int)<(x2.args.length:Int)):=auz
   apply oB hF;intro x7 e8 hF
   have le8:=ZA e8
   refine Zb h4 z6 e8 ?_
   revert hF;refine aS ?_ ?_<;>intro h9 q10 hF
   ·refine kx1 h9 ?_
    apply oB hF;intro v e11 hF
    refine((C.f46 B hB1 hB2 x2 t.index v e11)).goI ?_
    apply oC hF;intro c12 hF
    have w13:i64.wrap ((i:Int)+1)=(i:Int)+1:=ZB (by omega) (by omega)
    refine kx1 w13 ?_
    refine zE ((ih_f47 (out++[(⟨x7.data,v⟩:Ty)]) (i+1) o hF) _ rfl _ hq)
   ·apply oC hF;intro c14 hF
    have w15:i64.wrap ((i:Int)+1)=(i:Int)+1:=ZB (by omega) (by omega)
    refine kx2 q10 w15 ?_
    refine zE ((ih_f47 (out++[x7]) (i+1) o hF) _ rfl _ hq)
  ·have z6:¬((i:Int)<(x2.args.length:Int)):=auz
   cases hF
   refine kx3 h4 q5 z6 ?_
   refine zF hq
theorem C.f48 (w:List zN)(t:Ty)(ctor:Int)(r:List Ty)(hF:F.f48 w t ctor=some r):PureCall zQ B 61 [am zO w,.agg [li t.data,li t.index],li ctor] (am zK r):=by
 unfold F.f48 at hF
 refine zG func61 rfl ntmps61 ?_
 apply oB hF;intro x e1a hF
 have e1a:=Zy e1a;obtain⟨ne1,e1⟩:=e1a
 have le1:=ZA e1
 apply oB hF;intro x2 e3a hF
 have e3a:=Zy e3a;obtain⟨ne3,e3⟩:=e3a
 have le3:=ZA e3
 refine ZF5 e1 e3 ?_
 apply oB hF;intro o' ho16 hF
 refine zI (((CC.f47 B hB1 hB2 t x2) [] 0 o' ho16) _ rfl _ ?_)
 cases hF
 exact kc0
theorem C.f49 (op:Int)(r:Int)(hF:F.f49 op=some r):PureCall zQ B 95 [li op] (li r):=by
 unfold F.f49 at hF
 refine zG func95 rfl ntmps95 ?_
 revert hF;refine kS ?_ ?_<;>intro h1 q2 hF
 ·cases hF
  repeat first|refine cg ?_|simp -dsimp[eq_true h1]
 ·refine kx2 h1 q2 ?_
  revert hF;refine aS ?_ ?_<;>intro h3 q4 hF
  ·cases hF
   repeat first|refine cg ?_|simp -dsimp[eq_true h3]
  ·refine kx2 h3 q4 ?_
   revert hF;refine aS ?_ ?_<;>intro h5 q6 hF
   ·cases hF
    repeat first|refine cg ?_|simp -dsimp[eq_true h5]
   ·cases hF
    exact kc2 h5 q6
theorem CC.f50 (t:Ty)(p:Pattern):(∀(out:List Ty) (i:Nat) (o:List Ty),F.f50 t p out i=some o->∀(c:Code),Zc [1,1,1,0,1,0,0] (ZJ Tryz.f57)=some c->∀(Q:Exit->ASt->Prop),(Q (.exit 0) ⟨[(7,.own 2 (zA (α:=Ty) o))],[.dead,.dead,.elems 2 (zB zK o)]⟩)->ALoopU zQ B 0 30 (hold c .mk) ⟨[(4,.ptr 0 0),(5,.ptr 1 0),(7,.own 2 (zA (α:=Ty) out)),(8,li (i:Int))],[.cells [li t.data,li t.index],.cells [li p.op,li p.ctor,li p.n,li p.m,li p.var,am zR p.kids],.elems 2 (zB zK out)]⟩ (hold Q .mk)):=by
 refine F.f50.partial_correctness t p
  _
  ?_
 ·intro _f_f50 ih_f50 out i o hF
  refine ZP rfl fun Q hq hk hs=> ?_
  have d1:=hs 1 _ rfl
  simp -dsimp[yC]at d1
  have d2:=hs 2 _ rfl
  simp -dsimp[yC]at d2
  clear hk hs
  refine eN ?_
  refine kB hF fun v4 e5 hF=> ?_
  refine((C.f49 B hB1 hB2 p.op v4 e5)).goI ?_
  revert hF;refine kS ?_ ?_<;>intro h6 q7 hF
  ·apply oC hF;intro c8 hF
   apply oC hF;intro c9 hF
   have w10:i64.wrap ((i:Int)+1)=(i:Int)+1:=ZB (by omega) (by omega)
   refine kx2 h6 w10 ?_
   refine zE ((ih_f50 (out++[t]) (i+1) o hF) _ rfl _ hq)
  ·cases hF
   refine kx2 h6 q7 ?_
   refine zF hq
theorem C.f51 (w:List zN)(t:Ty)(p:Pattern)(r:List Ty)(hF:F.f51 w t p=some r):PureCall zQ B 57 [am zO w,.agg [li t.data,li t.index],.agg [li p.op,li p.ctor,li p.n,li p.m,li p.var,am zR p.kids]] (am zK r):=by
 unfold F.f51 at hF
 refine zG func57 rfl ntmps57 ?_
 revert hF;refine kS ?_ ?_<;>intro h1 q2 hF
 ·refine kx1 h1 ?_
  apply oB hF;intro v e3 hF
  refine((C.f48 B hB1 hB2 w t p.ctor v e3)).goI ?_
  cases hF
  exact kc0
 ·refine kx1 q2 ?_
  apply oB hF;intro o' ho11 hF
  refine zI (((CC.f50 B hB1 hB2 t p) [] 0 o' ho11) _ rfl _ ?_)
  cases hF
  exact kc0
theorem CC.f52 (w:List zN):(∀(t:Ty) (p:Pattern) (depth:Int) (r:Bool),F.f52 w t p depth=some r->PureCall zQ B 91 [am zO w,.agg [li t.data,li t.index],.agg [li p.op,li p.ctor,li p.n,li p.m,li p.var,am zR p.kids],li depth] (.lit (.bool r)))/\
  (∀(p:Pattern) (depth:Int) (v6:List Ty) (i:Nat) (o:Lo Bool Unit),F.f53 w p depth v6 i=some o->∀(c:Code),Zc [1,1,1,1,0,1,0,0] (ZJ Tryz.f91)=some c->∀(Q:Exit->ASt->Prop),o.post (fun r=>∀st,ZAR zQ Tryz.f91 (fun r' _=>r'.le (.lit (.bool r))) .ret st->Q .ret st) (fun s=>Q (.exit 0) ⟨[],[]⟩)->ALoopU zQ B 0 50 (hold c .mk) ⟨[(0,am zO w),(3,li depth),(6,.ptr 1 0),(9,am zK v6),(10,li (i:Int))],[.dead,.cells [li p.op,li p.ctor,li p.n,li p.m,li p.var,am zR p.kids]]⟩ (hold Q .mk)):=by
 refine F.f52.mutual_partial_correctness w
  _ _
  ?_ ?_
 ·intro _f_f53 ih_f53 t p depth r hF
  refine zG func91 rfl ntmps91 ?_
  revert hF;refine kN ?_ ?_<;>intro h1 q2 hF
  ·refine kx2 h1 q2 ?_
   apply oB hF;intro v e3 hF
   refine((C.f45 B hB1 hB2 w t p v e3)).goI ?_
   refine kx2 h1 q2 ?_
   revert hF;refine aN (fun h4 q5 hF=> ?_) (fun h4 q5 hF=> ?_)
   ·cases hF
    exact kc4 h1 q2 h4 q5
   ·refine kx4 h1 q2 h4 q5 ?_
    apply oB hF;intro v6 e7 hF
    refine((C.f51 B hB1 hB2 w t p v6 e7)).goI ?_
    refine kx4 h1 q2 h4 q5 ?_
    revert hF;refine aN ?_ ?_<;>intro h8 q9 hF
    ·have z10:¬((p.kids.length:Int)=(v6.length:Int)):=auz
     cases hF
     exact kc7 h1 q2 h4 q5 h8 q9 z10
    ·have z10:((p.kids.length:Int)=(v6.length:Int)):=auz
     refine kx7 h1 q2 h4 q5 h8 q9 z10 ?_
     apply oB hF;intro o' ho22 hF
     refine zI ((ih_f53 p depth v6 0 o' ho22) _ rfl _ ?_)
     rcases o' with r0|sx
     ·dsimp only at hF
      cases hF
      intro st h
      simpa using h
     ·dsimp only at hF
      cases hF
      exact kc0
  ·cases hF
   exact kc2 h1 q2
 ·intro _f_f52 _f_f53 ih_f52 ih_f53 p depth v6 i o hF
  refine ZP rfl fun Q hq hk hs=> ?_
  have b0:=hk 0
  simp -dsimp at b0
  have b9:=hk 9
  simp -dsimp at b9
  have d1:=hs 1 _ rfl
  simp -dsimp[yC]at d1
  clear hk hs
  refine eN ?_
  revert hF;refine kS ?_ ?_<;>intro h11 q12 hF
  ·have z13:((i:Int)<(v6.length:Int)):=auz
   refine kx2 h11 z13 ?_
   refine yE follows ?_
   apply oB hF;intro x e14 hF
   have le14:=ZA e14
   apply oB hF;intro x15 e16 hF
   have le16:=ZA e16
   refine Zx h11 z13 e14 e16 ?_
   apply oB hF;intro v17 e18 hF
   refine((ih_f52 x x15 (i64.wrap (depth-1)) v17 e18)).pgoW (by simp[h11,z13,↓e14,↓e16]) (by simp) ?_
   refine Zx h11 z13 e14 e16 ?_
   revert hF;refine aN (fun h19 q20 hF=> ?_) (fun h19 q20 hF=> ?_)
   ·cases hF
    refine ZAD h11 z13 e14 e16 h19 q20 ?_
    refine lG _ (gR _) (hq _ ?_)
    repeat first|refine cg ?_|simp -dsimp[h11,z13,↓e14,↓e16,h19,q20]
   ·have w21:i64.wrap ((i:Int)+1)=(i:Int)+1:=ZB (by omega) (by omega)
    repeat first|refine cg ?_|simp -dsimp[h11,z13,↓e14,↓e16,h19,q20,w21]
    refine zE ((ih_f53 p depth v6 (i+1) o hF) _ rfl _ hq)
  ·have z13:¬((i:Int)<(v6.length:Int)):=auz
   cases hF
   refine kx3 h11 q12 z13 ?_
   refine zF hq
theorem CC.f54  :(∀(p:Pattern) (most:Int) (r:Int),F.f54 p most=some r->PureCall zQ B 92 [.agg [li p.op,li p.ctor,li p.n,li p.m,li p.var,am zR p.kids],li most] (li r))/\
  (∀(p:Pattern) (most:Int) (n:Int) (i:Nat) (o:Int),F.f55 p most n i=some o->∀(c:Code),Zc [1,1,0,1,0,0] (ZJ Tryz.f92)=some c->∀(Q:Exit->ASt->Prop),(Q (.exit 0) ⟨[(5,li o)],[]⟩)->ALoopU zQ B 0 31 (hold c .mk) ⟨[(1,li most),(2,.ptr 0 0),(5,li n),(6,li (i:Int))],[.cells [li p.op,li p.ctor,li p.n,li p.m,li p.var,am zR p.kids]]⟩ (hold Q .mk)):=by
 refine F.f54.mutual_partial_correctness 
  _ _
  ?_ ?_
 ·intro _f_f55 ih_f55 p most r hF
  refine zG func92 rfl ntmps92 ?_
  refine kB hF fun o' ho9 hF=> ?_
  refine zI ((ih_f55 p most 1 0 o' ho9) _ rfl _ ?_)
  cases hF
  exact kc0
 ·intro _f_f54 _f_f55 ih_f54 ih_f55 p most n i o hF
  refine ZP rfl fun Q hq hk hs=> ?_
  have d0:=hs 0 _ rfl
  simp -dsimp[yC]at d0
  clear hk hs
  refine eN ?_
  revert hF;refine kS ?_ ?_<;>intro h1 q2 hF
  ·have z3:((i:Int)<(p.kids.length:Int)):=auz
   refine kx2 h1 z3 ?_
   revert hF;refine aS ?_ ?_<;>intro h4 q5 hF
   ·apply oB hF;intro x e6 hF
    have le6:=ZA e6
    refine ZPY h4 e6 ?_
    apply oB hF;intro v e7 hF
    refine((ih_f54 x (i64.wrap (most-n)) v e7)).goI ?_
    have w8:i64.wrap ((i:Int)+1)=(i:Int)+1:=ZB (by omega) (by omega)
    refine kx1 w8 ?_
    refine zE ((ih_f55 p most (i64.wrap (n+v)) (i+1) o hF) _ rfl _ hq)
   ·cases hF
    refine kx2 h4 q5 ?_
    refine zF hq
  ·have z3:¬((i:Int)<(p.kids.length:Int)):=auz
   cases hF
   refine kx3 h1 q2 z3 ?_
   refine zF hq
theorem CC.f56 (w:List zN):(∀(out:List VarType) (t:Ty) (p:Pattern) (r:List VarType),F.f56 out w t p=some r->BCall zQ B 128 [.elems 3 (zB yI out)] [.own 0 (zA (α:=VarType) out),am zO w,.agg [li t.data,li t.index],.agg [li p.op,li p.ctor,li p.n,li p.m,li p.var,am zR p.kids]] (.own 0 (zA (α:=VarType) r)) [.elems 3 (zB yI r)])/\
  (∀(p:Pattern) (v30:List Ty) (out32:List VarType) (i33:Nat) (o:List VarType),F.f58 w p v30 out32 i33=some o->∀(c:Code),Zc [1,1,1,0,1,0,0] (ZJ Tryz.f128)=some c->∀(Q:Exit->ASt->Prop),(Q (.exit 0) ⟨[(0,.own 0 (zA (α:=VarType) o))],[.elems 3 (zB yI o)]⟩)->ALoopU zQ B 1 58 (hold c .mk) ⟨[(0,.own 0 (zA (α:=VarType) out32)),(1,am zO w),(7,.ptr 2 0),(9,am zK v30),(10,li (i33:Int))],[.elems 3 (zB yI out32),.dead,.cells [li p.op,li p.ctor,li p.n,li p.m,li p.var,am zR p.kids]]⟩ (hold Q .mk))/\
  (∀(p:Pattern) (v:List Ty) (out7:List VarType) (i:Nat) (o:List VarType),F.f57 w p v out7 i=some o->∀(c:Code),Zc [1,1,1,0,1,0,0] (ZJ Tryz.f128)=some c->∀(Q:Exit->ASt->Prop),(Q (.exit 0) ⟨[(0,.own 0 (zA (α:=VarType) o))],[.elems 3 (zB yI o)]⟩)->ALoopU zQ B 1 58 (hold c .mk) ⟨[(0,.own 0 (zA (α:=VarType) out7)),(1,am zO w),(7,.ptr 2 0),(9,am zK v),(10,li (i:Int))],[.elems 3 (zB yI out7),.dead,.cells [li p.op,li p.ctor,li p.n,li p.m,li p.var,am zR p.kids]]⟩ (hold Q .mk))/\
  (∀(p:Pattern) (v59:List Ty) (out61:List VarType) (i62:Nat) (o:List VarType),F.f59 w p v59 out61 i62=some o->∀(c:Code),Zc [1,1,1,0,1,0,0] (ZJ Tryz.f128)=some c->∀(Q:Exit->ASt->Prop),(Q (.exit 0) ⟨[(0,.own 0 (zA (α:=VarType) o))],[.elems 3 (zB yI o)]⟩)->ALoopU zQ B 1 58 (hold c .mk) ⟨[(0,.own 0 (zA (α:=VarType) out61)),(1,am zO w),(7,.ptr 2 0),(9,am zK v59),(10,li (i62:Int))],[.elems 3 (zB yI out61),.dead,.cells [li p.op,li p.ctor,li p.n,li p.m,li p.var,am zR p.kids]]⟩ (hold Q .mk)):=by
 refine F.f56.mutual_partial_correctness w
  _ _ _ _
  ?_ ?_ ?_ ?_
 ·intro _f_f58 _f_f57 _f_f59 ih_f58 ih_f57 ih_f59 out t p r hF
  refine BCall.enter func128 (by kernel_rfl) rfl ntmps128 (by simp) rfl (by simp) (by simp) (by simp) (by simp) (by simp) (gR _) ?_
  revert hF;refine kN ?_ ?_<;>intro h1 q2 hF
  ·refine kx2 h1 q2 ?_
   revert hF;refine aS ?_ ?_<;>intro h3 q4 hF
   ·apply oC hF;intro c5 hF
    refine kx1 h3 ?_
    apply oB hF;intro v e6 hF
    refine((C.f51 B hB1 hB2 w t p v e6)).goI ?_
    refine kB hF fun o' ho29 hF=> ?_
    refine zI ((ih_f57 p v (out++[(⟨p.var,t⟩:VarType)]) 0 o' ho29) _ rfl _ ?_)
    cases hF
    exact kc0
   ·refine kx1 q4 ?_
    apply oB hF;intro v30 e31 hF
    refine((C.f51 B hB1 hB2 w t p v30 e31)).goI ?_
    refine kB hF fun o'57 ho56 hF=> ?_
    refine zI ((ih_f58 p v30 out 0 o'57 ho56) _ rfl _ ?_)
    cases hF
    exact kc0
  ·apply oC hF;intro c58 hF
   refine kx2 h1 q2 ?_
   apply oB hF;intro v59 e60 hF
   refine((C.f51 B hB1 hB2 w t p v59 e60)).goI ?_
   refine kB hF fun o'86 ho85 hF=> ?_
   refine zI ((ih_f59 p v59 (out++[(⟨p.var,t⟩:VarType)]) 0 o'86 ho85) _ rfl _ ?_)
   cases hF
   exact kc0
 ·intro _f_f56 _f_f58 ih_f56 ih_f58 p v30 out32 i33 o hF
  refine ZP rfl fun Q hq hk hs=> ?_
  have b1:=hk 1
  simp -dsimp at b1
  have b9:=hk 9
  simp -dsimp at b9
  have d0:=hs 0 _ rfl
  simp -dsimp[yC]at d0
  have d2:=hs 2 _ rfl
  simp -dsimp[yC]at d2
  clear hk hs
  refine eN ?_
  revert hF;refine kS ?_ ?_<;>intro h34 q35 hF
  ·have z36:((i33:Int)<(v30.length:Int)):=auz
   refine kx2 h34 z36 ?_
   revert hF;refine aN ?_ ?_<;>intro h37 q38 hF
   ·have z39:¬((i33:Int)=0):=auz
    refine kx5 h34 z36 h37 q38 z39 ?_
    revert hF;refine aN ?_ ?_<;>intro h40 q41 hF
    ·refine kx7 h34 z36 h37 q38 z39 h40 q41 ?_
     refine yF [128] [(0,0),(0,0),(0,0),(0,0),(0,0),(0,0),(0,0),(0,0),(0,0),(0,0),(0,0),(0,1),(1,1)] [1,1,1,1,1,1,1,1,1,1,1,1,1] follows ?_
     apply oB hF;intro x42 e43 hF
     have le43:=ZA e43
     apply oB hF;intro x44 e45 hF
     have le45:=ZA e45
     refine ZF5 e43 e45 ?_
     apply oB hF;intro v46 e47 hF
     refine((ih_f56 out32 x42 x44 v46 e47)).ego (pl [0]) (by simp) (by simp) (ZEk _ rfl (by decide)) (by intro i hi hi';simp at hi hi';first|omega|(subst hi';simp[pl])) (by simp[h34,z36,h37,q38,z39,h40,q41,↓e43,↓e45]) (by simp[h34,z36,h37,q38,z39,h40,q41,↓e43,↓e45]) ?_
     have w48:i64.wrap ((i33:Int)+1)=(i33:Int)+1:=ZB (by omega) (by omega)
     refine kx1 w48 ?_
     refine zE ((ih_f58 p v30 v46 (i33+1) o hF) _ rfl _ hq)
    ·cases hF
     refine kx7 h34 z36 h37 q38 z39 h40 q41 ?_
     refine zF hq
   ·have z39:((i33:Int)=0):=auz
    repeat first|refine cg ?_|simp -dsimp[h34,z36,eq_true h37,eq_true q38,eq_true z39]
    refine yF [128] [(0,0),(0,0),(0,0),(0,0),(0,0),(0,0),(0,0),(0,0),(0,0),(0,0),(0,0),(0,1),(1,1)] [1,1,1,1,1,1,1,1,1,1,1,1,1] follows ?_
    apply oB hF;intro x49 e50 hF
    have le50:=ZA e50
    apply oB hF;intro x51 e52 hF
    have le52:=ZA e52
    refine ZF5 e50 e52 ?_
    apply oB hF;intro v53 e54 hF
    refine((ih_f56 out32 x49 x51 v53 e54)).ego (pl [0]) (by simp) (by simp) (ZEk _ rfl (by decide)) (by intro i hi hi';simp at hi hi';first|omega|(subst hi';simp[pl])) (by simp[h34,z36,eq_true h37,eq_true q38,eq_true z39,↓e50,↓e52]) (by simp[h34,z36,eq_true h37,eq_true q38,eq_true z39,↓e50,↓e52]) ?_
    have w55:i64.wrap ((i33:Int)+1)=(i33:Int)+1:=ZB (by omega) (by omega)
    refine kx1 w55 ?_
    refine zE ((ih_f58 p v30 v53 (i33+1) o hF) _ rfl _ hq)
  ·have z36:¬((i33:Int)<(v30.length:Int)):=auz
   cases hF
   refine kx3 h34 q35 z36 ?_
   refine zF hq
 ·intro _f_f56 _f_f57 ih_f56 ih_f57 p v out7 i o hF
  refine ZP rfl fun Q hq hk hs=> ?_
  have b1:=hk 1
  simp -dsimp at b1
  have b9:=hk 9
  simp -dsimp at b9
  have d0:=hs 0 _ rfl
  simp -dsimp[yC]at d0
  have d2:=hs 2 _ rfl
  simp -dsimp[yC]at d2
  clear hk hs
  refine eN ?_
  revert hF;refine kS ?_ ?_<;>intro h8 q9 hF
  ·have z10:((i:Int)<(v.length:Int)):=auz
   refine kx2 h8 z10 ?_
   revert hF;refine aN ?_ ?_<;>intro h11 q12 hF
   ·have z13:¬((i:Int)=0):=auz
    refine kx5 h8 z10 h11 q12 z13 ?_
    revert hF;refine aN ?_ ?_<;>intro h14 q15 hF
    ·refine kx7 h8 z10 h11 q12 z13 h14 q15 ?_
     refine yF [128] [(0,0),(0,0),(0,0),(0,0),(0,0),(0,0),(0,0),(0,0),(0,0),(0,0),(0,0),(0,1),(1,1)] [1,1,1,1,1,1,1,1,1,1,1,1,1] follows ?_
     apply oB hF;intro x e16 hF
     have le16:=ZA e16
     apply oB hF;intro x17 e18 hF
     have le18:=ZA e18
     refine ZF5 e16 e18 ?_
     apply oB hF;intro v19 e20 hF
     refine((ih_f56 out7 x x17 v19 e20)).ego (pl [0]) (by simp) (by simp) (ZEk _ rfl (by decide)) (by intro i hi hi';simp at hi hi';first|omega|(subst hi';simp[pl])) (by simp[h8,z10,h11,q12,z13,h14,q15,↓e16,↓e18]) (by simp[h8,z10,h11,q12,z13,h14,q15,↓e16,↓e18]) ?_
     have w21:i64.wrap ((i:Int)+1)=(i:Int)+1:=ZB (by omega) (by omega)
     refine kx1 w21 ?_
     refine zE ((ih_f57 p v v19 (i+1) o hF) _ rfl _ hq)
    ·cases hF
     refine kx7 h8 z10 h11 q12 z13 h14 q15 ?_
     refine zF hq
   ·have z13:((i:Int)=0):=auz
    repeat first|refine cg ?_|simp -dsimp[h8,z10,eq_true h11,eq_true q12,eq_true z13]
    refine yF [128] [(0,0),(0,0),(0,0),(0,0),(0,0),(0,0),(0,0),(0,0),(0,0),(0,0),(0,0),(0,1),(1,1)] [1,1,1,1,1,1,1,1,1,1,1,1,1] follows ?_
    apply oB hF;intro x22 e23 hF
    have le23:=ZA e23
    apply oB hF;intro x24 e25 hF
    have le25:=ZA e25
    refine ZF5 e23 e25 ?_
    apply oB hF;intro v26 e27 hF
    refine((ih_f56 out7 x22 x24 v26 e27)).ego (pl [0]) (by simp) (by simp) (ZEk _ rfl (by decide)) (by intro i hi hi';simp at hi hi';first|omega|(subst hi';simp[pl])) (by simp[h8,z10,eq_true h11,eq_true q12,eq_true z13,↓e23,↓e25]) (by simp[h8,z10,eq_true h11,eq_true q12,eq_true z13,↓e23,↓e25]) ?_
    have w28:i64.wrap ((i:Int)+1)=(i:Int)+1:=ZB (by omega) (by omega)
    refine kx1 w28 ?_
    refine zE ((ih_f57 p v v26 (i+1) o hF) _ rfl _ hq)
  ·have z10:¬((i:Int)<(v.length:Int)):=auz
   cases hF
   refine kx3 h8 q9 z10 ?_
   refine zF hq
 ·intro _f_f56 _f_f59 ih_f56 ih_f59 p v59 out61 i62 o hF
  refine ZP rfl fun Q hq hk hs=> ?_
  have b1:=hk 1
  simp -dsimp at b1
  have b9:=hk 9
  simp -dsimp at b9
  have d0:=hs 0 _ rfl
  simp -dsimp[yC]at d0
  have d2:=hs 2 _ rfl
  simp -dsimp[yC]at d2
  clear hk hs
  refine eN ?_
  revert hF;refine kS ?_ ?_<;>intro h63 q64 hF
  ·have z65:((i62:Int)<(v59.length:Int)):=auz
   refine kx2 h63 z65 ?_
   revert hF;refine aN ?_ ?_<;>intro h66 q67 hF
   ·have z68:¬((i62:Int)=0):=auz
    refine kx5 h63 z65 h66 q67 z68 ?_
    revert hF;refine aN ?_ ?_<;>intro h69 q70 hF
    ·refine kx7 h63 z65 h66 q67 z68 h69 q70 ?_
     refine yF [128] [(0,0),(0,0),(0,0),(0,0),(0,0),(0,0),(0,0),(0,0),(0,0),(0,0),(0,0),(0,1),(1,1)] [1,1,1,1,1,1,1,1,1,1,1,1,1] follows ?_
     apply oB hF;intro x71 e72 hF
     have le72:=ZA e72
     apply oB hF;intro x73 e74 hF
     have le74:=ZA e74
     refine ZF5 e72 e74 ?_
     apply oB hF;intro v75 e76 hF
     refine((ih_f56 out61 x71 x73 v75 e76)).ego (pl [0]) (by simp) (by simp) (ZEk _ rfl (by decide)) (by intro i hi hi';simp at hi hi';first|omega|(subst hi';simp[pl])) (by simp[h63,z65,h66,q67,z68,h69,q70,↓e72,↓e74]) (by simp[h63,z65,h66,q67,z68,h69,q70,↓e72,↓e74]) ?_
     have w77:i64.wrap ((i62:Int)+1)=(i62:Int)+1:=ZB (by omega) (by omega)
     refine kx1 w77 ?_
     refine zE ((ih_f59 p v59 v75 (i62+1) o hF) _ rfl _ hq)
    ·cases hF
     refine kx7 h63 z65 h66 q67 z68 h69 q70 ?_
     refine zF hq
   ·have z68:((i62:Int)=0):=auz
    repeat first|refine cg ?_|simp -dsimp[h63,z65,eq_true h66,eq_true q67,eq_true z68]
    refine yF [128] [(0,0),(0,0),(0,0),(0,0),(0,0),(0,0),(0,0),(0,0),(0,0),(0,0),(0,0),(0,1),(1,1)] [1,1,1,1,1,1,1,1,1,1,1,1,1] follows ?_
    apply oB hF;intro x78 e79 hF
    have le79:=ZA e79
    apply oB hF;intro x80 e81 hF
    have le81:=ZA e81
    refine ZF5 e79 e81 ?_
    apply oB hF;intro v82 e83 hF
    refine((ih_f56 out61 x78 x80 v82 e83)).ego (pl [0]) (by simp) (by simp) (ZEk _ rfl (by decide)) (by intro i hi hi';simp at hi hi';first|omega|(subst hi';simp[pl])) (by simp[h63,z65,eq_true h66,eq_true q67,eq_true z68,↓e79,↓e81]) (by simp[h63,z65,eq_true h66,eq_true q67,eq_true z68,↓e79,↓e81]) ?_
    have w84:i64.wrap ((i62:Int)+1)=(i62:Int)+1:=ZB (by omega) (by omega)
    refine kx1 w84 ?_
    refine zE ((ih_f59 p v59 v82 (i62+1) o hF) _ rfl _ hq)
  ·have z65:¬((i62:Int)<(v59.length:Int)):=auz
   cases hF
   refine kx3 h63 q64 z65 ?_
   refine zF hq
theorem CC.f60 (list:List VarType)(n:Int):(∀(i:Nat) (o:Lo Int Unit),F.f60 list n i=some o->∀(c:Code),Zc [1,0,1,0,0] (ZJ Tryz.f129)=some c->∀(Q:Exit->ASt->Prop),o.post (fun r=>∀st,ZAR zQ Tryz.f129 (fun r' _=>r'.le (li r)) .ret st->Q .ret st) (fun s=>Q (.exit 0) ⟨[],[]⟩)->ALoopU zQ B 0 20 (hold c .mk) ⟨[(0,am yI list),(1,li n),(5,li (i:Int))],[]⟩ (hold Q .mk)):=by
 refine F.f60.partial_correctness list n
  _
  ?_
 ·intro _f_f60 ih_f60 i o hF
  refine ZP rfl fun Q hq hk hs=> ?_
  have b0:=hk 0
  simp -dsimp at b0
  clear hk hs
  refine eN ?_
  revert hF;refine kS ?_ ?_<;>intro h1 q2 hF
  ·have z3:((i:Int)<(list.length:Int)):=auz
   apply oB hF;intro x e4 hF
   have le4:=ZA e4
   refine Zb h1 z3 e4 ?_
   revert hF;refine aS ?_ ?_<;>intro h5 q6 hF
   ·cases hF
    refine kx1 h5 ?_
    refine lG _ (gR _) (hq _ ?_)
    exact kc0
   ·have w7:i64.wrap ((i:Int)+1)=(i:Int)+1:=ZB (by omega) (by omega)
    refine kx2 q6 w7 ?_
    refine zE ((ih_f60 (i+1) o hF) _ rfl _ hq)
  ·have z3:¬((i:Int)<(list.length:Int)):=auz
   cases hF
   refine kx3 h1 q2 z3 ?_
   refine zF hq
theorem C.f61 (list:List VarType)(n:Int)(r:Int)(hF:F.f61 list n=some r):PureCall zQ B 129 [am yI list,li n] (li r):=by
 unfold F.f61 at hF
 refine zG func129 rfl ntmps129 ?_
 refine kB hF fun o' ho8 hF=> ?_
 refine zI (((CC.f60 B hB1 hB2 list n) 0 o' ho8) _ rfl _ ?_)
 rcases o' with r0|sx
 ·dsimp only at hF
  cases hF
  intro st h
  simpa using h
 ·dsimp only at hF
  cases hF
  exact kc0
theorem CC.f62 (a:List VarType)(b:List VarType):(∀(i:Nat) (o:Lo Bool Unit),F.f62 a b i=some o->∀(c:Code),Zc [1,0,1,0,0] (ZJ Tryz.f127)=some c->∀(Q:Exit->ASt->Prop),o.post (fun r=>∀st,ZAR zQ Tryz.f127 (fun r' _=>r'.le (.lit (.bool r))) .ret st->Q .ret st) (fun s=>Q (.exit 0) ⟨[(0,am yI a),(1,am yI b)],[]⟩)->ALoopU zQ B 0 40 (hold c .mk) ⟨[(0,am yI a),(1,am yI b),(5,li (i:Int))],[]⟩ (hold Q .mk)):=by
 refine F.f62.partial_correctness a b
  _
  ?_
 ·intro _f_f62 ih_f62 i o hF
  refine ZP rfl fun Q hq hk hs=> ?_
  have b0:=hk 0
  simp -dsimp at b0
  have b1:=hk 1
  simp -dsimp at b1
  clear hk hs
  refine eN ?_
  revert hF;refine kS ?_ ?_<;>intro h1 q2 hF
  ·have z3:((i:Int)<(a.length:Int)):=auz
   apply oB hF;intro x e4 hF
   have le4:=ZA e4
   refine Zb h1 z3 e4 ?_
   apply oB hF;intro v e5 hF
   refine((C.f61 B hB1 hB2 b x.var v e5)).goI ?_
   refine kdd e4 ?_
   refine yE follows ?_
   refine kdd e4 ?_
   revert hF;refine aN ?_ ?_<;>intro h6 q7 hF
   ·apply oB hF;intro x8 e9a hF
    have e9a:=Zy e9a;obtain⟨ne9,e9⟩:=e9a
    have le9:=ZA e9
    repeat first|refine cg ?_|simp -dsimp[↓e4,h6,q7,↓e9]
    revert hF;refine aN (fun h10 q11 hF=> ?_) (fun h10 q11 hF=> ?_)
    ·cases hF
     repeat first|refine cg ?_|simp -dsimp[↓e4,↓e9,h10,q11]
     refine lG _ (gR _) (hq _ ?_)
     repeat first|refine cg ?_|simp -dsimp[↓e4,↓e9]
    ·have w12:i64.wrap ((i:Int)+1)=(i:Int)+1:=ZB (by omega) (by omega)
     repeat first|refine cg ?_|simp -dsimp[↓e4,↓e9,w12]
     refine zE ((ih_f62 (i+1) o hF) _ rfl _ hq)
   ·cases hF
    refine ZJV e4 h6 q7 ?_
    refine lG _ (gR _) (hq _ ?_)
    repeat first|refine cg ?_|simp -dsimp[↓e4]
  ·have z3:¬((i:Int)<(a.length:Int)):=auz
   cases hF
   refine kx3 h1 q2 z3 ?_
   refine zF hq
theorem C.f63 (a:List VarType)(b:List VarType)(r:Bool)(hF:F.f63 a b=some r):PureCall zQ B 127 [am yI a,am yI b] (.lit (.bool r)):=by
 unfold F.f63 at hF
 refine zG func127 rfl ntmps127 ?_
 refine kB hF fun o' ho13 hF=> ?_
 refine zI (((CC.f62 B hB1 hB2 a b) 0 o' ho13) _ rfl _ ?_)
 rcases o' with r0|sx
 ·dsimp only at hF
  cases hF
  intro st h
  simpa using h
 ·dsimp only at hF
  cases hF
  repeat first|refine cg ?_|simp -dsimp
  all_goals(try first|omega|rfl)
theorem CC.f64 (v26:List VarType):(∀(i28:Nat) (o:Lo Bool Unit),F.f64 v26 i28=some o->∀(c:Code),Zc [1,1,1,1,1,0,1,0,0] (ZJ Tryz.f93)=some c->∀(Q:Exit->ASt->Prop),o.post (fun r=>∀st,ZAR zQ Tryz.f93 (fun r' _=>r'.le (.lit (.bool r))) .ret st->Q .ret st) (fun s=>Q (.exit 2) ⟨[],[]⟩)->ALoopU zQ B 0 70 (hold c .mk) ⟨[(9,.own 2 (zA (α:=VarType) v26)),(10,li (i28:Int))],[.dead,.dead,.elems 3 (zB yI v26)]⟩ (hold Q .mk)):=by
 refine F.f64.partial_correctness v26
  _
  ?_
 ·intro _f_f64 ih_f64 i28 o hF
  refine ZP rfl fun Q hq hk hs=> ?_
  have d2:=hs 2 _ rfl
  simp -dsimp[yC]at d2
  clear hk hs
  refine eN ?_
  revert hF;refine kS ?_ ?_<;>intro h29 q30 hF
  ·have z31:((i28:Int)<(v26.length:Int)):=auz
   apply oB hF;intro x32 e33 hF
   have le33:=ZA e33
   refine Zb h29 z31 e33 ?_
   apply oB hF;intro v34 e35 hF
   refine((C.f61 B hB1 hB2 v26 x32.var v34 e35)).lend (by simp_all) (by simp -dsimp) ?_
   revert hF;refine kN ?_ ?_<;>intro h36 q37 hF
   ·cases hF
    refine kx2 h36 q37 ?_
    refine lG _ (gR _) (hq _ ?_)
    exact kc0
   ·have w38:i64.wrap ((i28:Int)+1)=(i28:Int)+1:=ZB (by omega) (by omega)
    refine kx1 w38 ?_
    refine zE ((ih_f64 (i28+1) o hF) _ rfl _ hq)
  ·have z31:¬((i28:Int)<(v26.length:Int)):=auz
   cases hF
   refine kx3 h29 q30 z31 ?_
   refine zF hq
theorem CC.f65 (w:List zN):(∀(t:Ty) (p:Pattern) (r:Bool),F.f65 w t p=some r->PureCall zQ B 93 [am zO w,.agg [li t.data,li t.index],.agg [li p.op,li p.ctor,li p.n,li p.m,li p.var,am zR p.kids]] (.lit (.bool r)))/\
  (∀(t:Ty) (p:Pattern) (v:List Ty) (i:Nat) (o:Lo Bool Unit),F.f66 w t p v i=some o->∀(c:Code),Zc [1,1,0,1,0,0] (ZJ Tryz.f93)=some c->∀(Q:Exit->ASt->Prop),o.post (fun r=>∀st,ZAR zQ Tryz.f93 (fun r' _=>r'.le (.lit (.bool r))) .ret st->Q .ret st) (fun s=>Q (.exit 0) ⟨[(0,am zO w),(4,.ptr 0 0),(5,.ptr 1 0)],[.cells [li t.data,li t.index],.cells [li p.op,li p.ctor,li p.n,li p.m,li p.var,am zR p.kids]]⟩)->ALoopU zQ B 0 70 (hold c .mk) ⟨[(0,am zO w),(4,.ptr 0 0),(5,.ptr 1 0),(7,am zK v),(8,li (i:Int))],[.cells [li t.data,li t.index],.cells [li p.op,li p.ctor,li p.n,li p.m,li p.var,am zR p.kids]]⟩ (hold Q .mk)):=by
 refine F.f65.mutual_partial_correctness w
  _ _
  ?_ ?_
 ·intro _f_f66 ih_f66 t p r hF
  refine zG func93 rfl ntmps93 ?_
  refine kB hF fun v e1 hF=> ?_
  refine((C.f51 B hB1 hB2 w t p v e1)).goI ?_
  refine kB hF fun o' ho13 hF=> ?_
  refine zI ((ih_f66 t p v 0 o' ho13) _ rfl _ ?_)
  rcases o' with r042|sx
  ·dsimp only at hF
   cases hF
   intro st h
   simpa using h
  ·dsimp only at hF
   revert hF;refine kS ?_ ?_<;>intro h14 q15 hF
   ·refine kx1 h14 ?_
    refine yF [127,128] [(0,0),(0,0),(0,0),(0,0),(0,0),(0,0),(0,3),(0,1),(0,1),(0,1),(0,1),(0,1),(0,1),(0,3),(0,3),(3,3)] [1,1,1,1,1,1,1,1,2,0,2,0,0,1,1,1] follows ?_
    apply oB hF;intro x16 e17 hF
    have le17:=ZA e17
    refine kdd e17 ?_
    apply oB hF;intro v18 e19 hF
    refine ECallA.nilArg 0 3 (by simp) ?_
    refine kx0 ?_
    refine(((CC.f56 B hB1 hB2 w).1 [] t x16 v18 e19)).ego (pl [2]) (by simp) (by simp) (ZEk _ rfl (by decide)) (by intro i hi hi';simp at hi hi';first|omega|(subst hi';simp[pl])) (by simp_all) (by simp_all) ?_
    apply oB hF;intro x20 e21 hF
    have le21:=ZA e21
    refine kdd e21 ?_
    apply oB hF;intro v22 e23 hF
    refine ECallA.nilArg 0 3 (by simp) ?_
    refine kx0 ?_
    refine(((CC.f56 B hB1 hB2 w).1 [] t x20 v22 e23)).ego (pl [3]) (by simp) (by simp) (ZEk _ rfl (by decide)) (by intro i hi hi';simp at hi hi';first|omega|(subst hi';simp[pl])) (by simp_all) (by simp_all) ?_
    refine kB hF fun v24 e25 hF=> ?_
    refine((C.f63 B hB1 hB2 v18 v22 v24 e25)).elend (by simp_all) (by simp -dsimp) ?_
    cases hF
    exact kc0
   ·refine kx1 q15 ?_
    apply oB hF;intro v26 e27 hF
    refine ACall.nilArg 0 3 (by simp) ?_
    refine kx0 ?_
    refine(((CC.f56 B hB1 hB2 w).1 [] t p v26 e27)).go (pl [2]) (by simp) (by simp) (ZEk _ rfl (by decide)) (by intro i hi hi';simp at hi hi';first|omega|(subst hi';simp[pl])) (by simp_all) (by simp_all) ?_
    refine kB hF fun o'40 ho39 hF=> ?_
    refine zI (((CC.f64 B hB1 hB2 v26) 0 o'40 ho39) _ rfl _ ?_)
    rcases o'40 with r0|sx41
    ·dsimp only at hF
     cases hF
     intro st h
     simpa using h
    ·dsimp only at hF
     cases hF
     exact kc0
 ·intro _f_f65 _f_f66 ih_f65 ih_f66 t p v i o hF
  refine ZP rfl fun Q hq hk hs=> ?_
  have b0:=hk 0
  simp -dsimp at b0
  have b7:=hk 7
  simp -dsimp at b7
  have d1:=hs 1 _ rfl
  simp -dsimp[yC]at d1
  clear hk hs
  refine eN ?_
  revert hF;refine kS ?_ ?_<;>intro h2 q3 hF
  ·have z4:((i:Int)<(v.length:Int)):=auz
   refine kx2 h2 z4 ?_
   refine yE follows ?_
   apply oB hF;intro x e5 hF
   have le5:=ZA e5
   apply oB hF;intro x6 e7 hF
   have le7:=ZA e7
   refine ZF5 e5 e7 ?_
   apply oB hF;intro v8 e9 hF
   refine((ih_f65 x x6 v8 e9)).pgoW (by simp_all) (by simp) ?_
   revert hF;refine kN (fun h10 q11 hF=> ?_) (fun h10 q11 hF=> ?_)
   ·cases hF
    refine kx2 h10 q11 ?_
    refine lG _ (gR _) (hq _ ?_)
    exact kc0
   ·have w12:i64.wrap ((i:Int)+1)=(i:Int)+1:=ZB (by omega) (by omega)
    refine kx1 w12 ?_
    refine zE ((ih_f66 t p v (i+1) o hF) _ rfl _ hq)
  ·have z4:¬((i:Int)<(v.length:Int)):=auz
   cases hF
   refine kx3 h2 q3 z4 ?_
   refine zF hq
theorem C.f67 (w:List zN)(t:Ty)(p:Pattern)(r:Bool)(hF:F.f67 w t p=some r):PureCall zQ B 54 [am zO w,.agg [li t.data,li t.index],.agg [li p.op,li p.ctor,li p.n,li p.m,li p.var,am zR p.kids]] (.lit (.bool r)):=by
 unfold F.f67 at hF
 refine zG func54 rfl ntmps54 ?_
 refine kB hF fun v e1 hF=> ?_
 refine(((CC.f52 B hB1 hB2 w).1 t p 10 v e1)).goI ?_
 revert hF;refine kS (fun h2 q3 hF=> ?_) (fun h2 q3 hF=> ?_)
 ·refine kx1 h2 ?_
  apply oB hF;intro v4 e5 hF
  refine(((CC.f54 B hB1 hB2).1 p 60 v4 e5)).goI ?_
  refine kx1 h2 ?_
  revert hF;refine aS ?_ ?_<;>intro h6 q7 hF
  ·refine kx2 h2 h6 ?_
   apply oB hF;intro v8 e9 hF
   refine(((CC.f65 B hB1 hB2 w).1 t p v8 e9)).goI ?_
   cases hF
   exact kc2 h2 h6
  ·cases hF
   exact kc3 h2 h6 q7
 ·cases hF
  exact kc2 h2 q3
theorem C.f68 (w:List zN)(t:Ty)(p:Pattern)(r:Bool)(hF:F.f68 w t p=some r):PureCall zQ B 26 [am zO w,.agg [li t.data,li t.index],.agg [li p.op,li p.ctor,li p.n,li p.m,li p.var,am zR p.kids]] (.lit (.bool r)):=by
 unfold F.f68 at hF
 refine pE func26 (by kernel_rfl) rfl ntmps26 (by simp) (by simp) ?_
 refine kB hF fun v e1 hF=> ?_
 refine((C.f39 B hB1 hB2 w t v e1)).goW (by simp) (by simp) ?_
 revert hF;refine kS (fun h2 q3 hF=> ?_) (fun h2 q3 hF=> ?_)
 ·refine kx1 h2 ?_
  apply oB hF;intro v4 e5 hF
  refine((C.f67 B hB1 hB2 w t p v4 e5)).goW (by first|simp[h2];done|simp_all) (by simp) ?_
  cases hF
  repeat first|refine cg ?_|simp -dsimp[h2]
  all_goals(try first|omega|rfl)
 ·cases hF
  repeat first|refine cg ?_|simp -dsimp[h2,q3]
  all_goals(try first|omega|rfl)
theorem C.f69 (t:Ty)(r:Int)(hF:F.f69 t=some r):PureCall zQ B 94 [.agg [li t.data,li t.index]] (li r):=by
 unfold F.f69 at hF
 refine zG func94 rfl ntmps94 ?_
 cases hF
 exact kc0
theorem C.f70 (table:List Int)(t:Ty)(r:Int)(hF:F.f70 table t=some r):PureCall zQ B 56 [am cI table,.agg [li t.data,li t.index]] (li r):=by
 unfold F.f70 at hF
 refine zG func56 rfl ntmps56 ?_
 revert hF;refine kS ?_ ?_<;>intro h1 q2 hF
 ·cases hF
  exact kc1 h1
 ·refine kx1 q2 ?_
  apply oB hF;intro v e3 hF
  refine((C.f69 B hB1 hB2 t v e3)).goI ?_
  apply oB hF;intro x e4a hF
  have e4a:=Zy e4a;obtain⟨ne4,e4⟩:=e4a
  have le4:=ZA e4
  cases hF
  repeat first|refine cg ?_|simp -dsimp[↓e4]
theorem CC.f71 (table:List Int)(v:List Ty):(∀(most:Int) (i:Nat) (o:Lo Int Int),F.f71 table v most i=some o->∀(c:Code),Zc [1,1,1,0,1,0,0] (ZJ Tryz.f59)=some c->∀(Q:Exit->ASt->Prop),o.post (fun r=>∀st,ZAR zQ Tryz.f59 (fun r' _=>r'.le (li r)) .ret st->Q .ret st) (fun s=>Q (.exit 0) ⟨[(10,li s)],[]⟩)->ALoopU zQ B 0 37 (hold c .mk) ⟨[(1,am cI table),(9,am zK v),(10,li most),(11,li (i:Int))],[]⟩ (hold Q .mk)):=by
 refine F.f71.partial_correctness table v
  _
  ?_
 ·intro _f_f71 ih_f71 most i o hF
  refine ZP rfl fun Q hq hk hs=> ?_
  have b1:=hk 1
  simp -dsimp at b1
  have b9:=hk 9
  simp -dsimp at b9
  clear hk hs
  refine eN ?_
  revert hF;refine kS ?_ ?_<;>intro h2 q3 hF
  ·have z4:((i:Int)<(v.length:Int)):=auz
   apply oB hF;intro x e5 hF
   have le5:=ZA e5
   refine Zb h2 z4 e5 ?_
   apply oB hF;intro v6 e7 hF
   refine((C.f70 B hB1 hB2 table x v6 e7)).goI ?_
   revert hF;refine kS ?_ ?_<;>intro h8 q9 hF
   ·cases hF
    repeat first|refine cg ?_|simp -dsimp[eq_true h8]
    refine lG _ (gR _) (hq _ ?_)
    exact kc0
   ·refine kx2 h8 q9 ?_
    revert hF;refine aS ?_ ?_<;>intro h10 q11 hF
    ·have w12:i64.wrap ((i:Int)+1)=(i:Int)+1:=ZB (by omega) (by omega)
     refine kx2 h10 w12 ?_
     refine zE ((ih_f71 v6 (i+1) o hF) _ rfl _ hq)
    ·have w13:i64.wrap ((i:Int)+1)=(i:Int)+1:=ZB (by omega) (by omega)
     refine kx3 h10 q11 w13 ?_
     refine zE ((ih_f71 most (i+1) o hF) _ rfl _ hq)
  ·have z4:¬((i:Int)<(v.length:Int)):=auz
   cases hF
   refine kx3 h2 q3 z4 ?_
   refine zF hq
theorem C.f72 (w:List zN)(table:List Int)(t:Ty)(ctor:Int)(r:Int)(hF:F.f72 w table t ctor=some r):PureCall zQ B 59 [am zO w,am cI table,.agg [li t.data,li t.index],li ctor] (li r):=by
 unfold F.f72 at hF
 refine zG func59 rfl ntmps59 ?_
 refine kB hF fun v e1 hF=> ?_
 refine((C.f48 B hB1 hB2 w t ctor v e1)).goI ?_
 refine kB hF fun o' ho14 hF=> ?_
 refine zI (((CC.f71 B hB1 hB2 table v) 0 0 o' ho14) _ rfl _ ?_)
 rcases o' with r0|sx
 ·dsimp only at hF
  cases hF
  intro st h
  simpa using h
 ·dsimp only at hF
  cases hF
  exact kc0
theorem CC.f73 (w:List zN)(n:Nat)(s:Nat)(v:List Int):(∀(table10:List Int) (i:Nat) (o:List Int),F.f73 w n s v table10 i=some o->∀(c:Code),Zc [1,1,0,1,0,0,1,0,0,1,0,0,1,0,0,1,1,1,0,0] (ZJ Tryz.f29)=some c->∀(Q:Exit->ASt->Prop),(Q (.exit 4) ⟨[(0,am zO w),(3,.own 0 (zA (α:=Int) o)),(4,li (n:Int)),(5,li (s:Int))],[.elems 1 (zB cI o)]⟩)->ALoopU zQ B 0 70 (hold c .mk) ⟨[(0,am zO w),(3,.own 0 (zA (α:=Int) table10)),(4,li (n:Int)),(5,li (s:Int)),(6,.ptr 1 0),(7,am cI v),(8,li (i:Int))],[.elems 1 (zB cI table10),.cells [li (i64.wrap ((s:Int).tdiv 4)),li ((s:Int).tmod 4)]]⟩ (hold Q .mk)):=by
 refine F.f73.partial_correctness w n s v
  _
  ?_
 ·intro _f_f73 ih_f73 table10 i o hF
  refine ZP rfl fun Q hq hk hs=> ?_
  have b0:=hk 0
  simp -dsimp at b0
  have b7:=hk 7
  simp -dsimp at b7
  have d0:=hs 0 _ rfl
  simp -dsimp[yC]at d0
  clear hk hs
  refine eN ?_
  revert hF;refine kS ?_ ?_<;>intro h11 q12 hF
  ·have z13:((i:Int)<(v.length:Int)):=auz
   refine kx2 h11 z13 ?_
   refine yF [59] [(0,0),(0,0),(0,0),(0,0),(0,0),(0,0),(0,0),(0,1),(1,1)] [1,1,1,1,1,1,1,1,1] follows ?_
   apply oB hF;intro x e14 hF
   have le14:=ZA e14
   refine kdd e14 ?_
   apply oB hF;intro v15 e16 hF
   refine((C.f72 B hB1 hB2 w table10 (⟨i64.wrap ((s:Int).tdiv 4),(s:Int).tmod 4⟩:Ty) x v15 e16)).elend (by simp -dsimp[h11,z13,↓e14]) (by simp -dsimp) ?_
   revert hF;refine kS ?_ ?_<;>intro h17 q18 hF
   ·apply oB hF;intro x19 e20 hF
    have le20:=ZA e20
    refine ZPY h17 e20 ?_
    revert hF;refine aN ?_ ?_<;>intro h21 q22 hF
    ·repeat first|refine cg ?_|simp -dsimp[h11,z13,↓e14,h17,↓e20,h21,q22]
     revert hF;refine aS ?_ ?_<;>intro h23 q24 hF
     ·have w25:i64.wrap ((i:Int)+1)=(i:Int)+1:=ZB (by omega) (by omega)
      repeat first|refine cg ?_|simp -dsimp[h11,z13,↓e14,h17,↓e20,h21,q22,h23,w25]
      refine zE ((ih_f73 (table10.set s v15) (i+1) o hF) _ rfl _ hq)
     ·have w26:i64.wrap ((i:Int)+1)=(i:Int)+1:=ZB (by omega) (by omega)
      refine kx3 h23 q24 w26 ?_
      refine zE ((ih_f73 table10 (i+1) o hF) _ rfl _ hq)
    ·have w27:i64.wrap ((i:Int)+1)=(i:Int)+1:=ZB (by omega) (by omega)
     repeat first|refine cg ?_|simp -dsimp[h11,z13,↓e14,h17,↓e20,eq_true h21,eq_true q22,w27]
     refine zE ((ih_f73 (table10.set s v15) (i+1) o hF) _ rfl _ hq)
   ·have w28:i64.wrap ((i:Int)+1)=(i:Int)+1:=ZB (by omega) (by omega)
    refine kx3 h17 q18 w28 ?_
    refine zE ((ih_f73 table10 (i+1) o hF) _ rfl _ hq)
  ·have z13:¬((i:Int)<(v.length:Int)):=auz
   cases hF
   refine kx3 h11 q12 z13 ?_
   refine zF hq
theorem CC.f74 (w:List zN)(n:Nat):(∀(table5:List Int) (s:Nat) (o:List Int),F.f74 w n table5 s=some o->∀(c:Code),Zc [1,1,0,1,0,0,1,0,0,1,0,0] (ZJ Tryz.f29)=some c->∀(Q:Exit->ASt->Prop),(Q (.exit 2) ⟨[(0,am zO w),(3,.own 0 (zA (α:=Int) o)),(4,li (n:Int))],[.elems 1 (zB cI o)]⟩)->ALoopU zQ B 0 70 (hold c .mk) ⟨[(0,am zO w),(3,.own 0 (zA (α:=Int) table5)),(4,li (n:Int)),(5,li (s:Int))],[.elems 1 (zB cI table5)]⟩ (hold Q .mk)):=by
 refine F.f74.partial_correctness w n
  _
  ?_
 ·intro _f_f74 ih_f74 table5 s o hF
  refine ZP rfl fun Q hq hk hs=> ?_
  have b0:=hk 0
  simp -dsimp at b0
  have d0:=hs 0 _ rfl
  simp -dsimp[yC]at d0
  clear hk hs
  refine eN ?_
  revert hF;refine kS ?_ ?_<;>intro h6 q7 hF
  ·have z8:((s:Int)<(table5.length:Int)):=auz
   refine kx2 h6 z8 ?_
   apply oB hF;intro v e9 hF
   refine((C.f42 B hB1 hB2 w (⟨i64.wrap ((s:Int).tdiv 4),(s:Int).tmod 4⟩:Ty) v e9)).goI ?_
   refine kB hF fun o' ho29 hF=> ?_
   refine zI (((CC.f73 B hB1 hB2 w n s v) table5 0 o' ho29) _ rfl _ ?_)
   apply oC hF;intro c30 hF
   have w31:i64.wrap ((s:Int)+1)=(s:Int)+1:=ZB (by omega) (by omega)
   refine kx1 w31 ?_
   refine zE ((ih_f74 o' (s+1) o hF) _ rfl _ hq)
  ·have z8:¬((s:Int)<(table5.length:Int)):=auz
   cases hF
   refine kx3 h6 q7 z8 ?_
   refine zF hq
theorem CC.f75 (w:List zN):(∀(table:List Int) (n:Nat) (o:List Int),F.f75 w table n=some o->∀(c:Code),Zc [1,1,0,1,0,0] (ZJ Tryz.f29)=some c->∀(Q:Exit->ASt->Prop),(Q (.exit 0) ⟨[(3,.own 0 (zA (α:=Int) o))],[.elems 1 (zB cI o)]⟩)->ALoopU zQ B 0 70 (hold c .mk) ⟨[(0,am zO w),(3,.own 0 (zA (α:=Int) table)),(4,li (n:Int))],[.elems 1 (zB cI table)]⟩ (hold Q .mk)):=by
 refine F.f75.partial_correctness w
  _
  ?_
 ·intro _f_f75 ih_f75 table n o hF
  refine ZP rfl fun Q hq hk hs=> ?_
  have b0:=hk 0
  simp -dsimp at b0
  have d0:=hs 0 _ rfl
  simp -dsimp[yC]at d0
  clear hk hs
  refine eN ?_
  revert hF;refine kS ?_ ?_<;>intro h2 q3 hF
  ·have z4:((n:Int)<=(table.length:Int)):=auz
   refine kx2 h2 z4 ?_
   apply oB hF;intro o'33 ho32 hF
   refine zI (((CC.f74 B hB1 hB2 w n) table 0 o'33 ho32) _ rfl _ ?_)
   apply oC hF;intro c34 hF
   have w35:i64.wrap ((n:Int)+1)=(n:Int)+1:=ZB (by omega) (by omega)
   refine kx1 w35 ?_
   refine zE ((ih_f75 o'33 (n+1) o hF) _ rfl _ hq)
  ·have z4:¬((n:Int)<=(table.length:Int)):=auz
   cases hF
   refine kx3 h2 q3 z4 ?_
   refine zF hq
theorem C.f76 (w:List zN)(r:List Int)(hF:F.f76 w=some r):PureCall zQ B 29 [am zO w] (am cI r):=by
 unfold F.f76 at hF
 refine zG func29 rfl ntmps29 ?_
 apply oC hF;intro c1 hF
 refine kB hF fun o'37 ho36 hF=> ?_
 refine zI (((CC.f75 B hB1 hB2 w) (zC ((i64.wrap ((w.length:Int)*4)).toNat) 0) 0 o'37 ho36) _ rfl _ ?_)
 cases hF
 exact kc0
theorem CC.f77 (w:List zN)(table:List Int):(∀(t:Ty) (p:Pattern) (r:Bool),F.f77 w table t p=some r->PureCall zQ B 55 [am zO w,am cI table,.agg [li t.data,li t.index],.agg [li p.op,li p.ctor,li p.n,li p.m,li p.var,am zR p.kids]] (.lit (.bool r)))/\
  (∀(p:Pattern) (v27:List Ty) (i:Nat) (o:Lo Bool Unit),F.f78 w table p v27 i=some o->∀(c:Code),Zc [1,1,1,0,1,0,0] (ZJ Tryz.f55)=some c->∀(Q:Exit->ASt->Prop),o.post (fun r=>∀st,ZAR zQ Tryz.f55 (fun r' _=>r'.le (.lit (.bool r))) .ret st->Q .ret st) (fun s=>Q (.exit 1) ⟨[],[]⟩)->ALoopU zQ B 0 76 (hold c .mk) ⟨[(0,am zO w),(1,am cI table),(7,.ptr 1 0),(9,am zK v27),(10,li (i:Int))],[.dead,.cells [li p.op,li p.ctor,li p.n,li p.m,li p.var,am zR p.kids]]⟩ (hold Q .mk)):=by
 refine F.f77.mutual_partial_correctness w table
  _ _
  ?_ ?_
 ·intro _f_f77 _f_f78 ih_f77 ih_f78 t p r hF
  refine pE func55 (by kernel_rfl) rfl ntmps55 (by simp) (by simp) ?_
  revert hF;refine kS ?_ ?_<;>intro h1 q2 hF
  ·refine kx1 h1 ?_
   apply oB hF;intro v e3 hF
   refine((C.f70 B hB1 hB2 table t v e3)).goW (by first|simp[h1];done|simp_all) (by simp) ?_
   cases hF
   repeat first|refine cg ?_|simp -dsimp[h1]
   all_goals(try first|omega|rfl)
  ·refine kx2 h1 q2 ?_
   revert hF;refine aS ?_ ?_<;>intro h4 q5 hF
   ·refine kx3 h1 q2 h4 ?_
    apply oB hF;intro v6 e7 hF
    refine((C.f70 B hB1 hB2 table t v6 e7)).goW (by first|simp[h1,q2,h4];done|simp_all) (by simp) ?_
    cases hF
    repeat first|refine cg ?_|simp -dsimp[h1,q2,h4]
    all_goals(try first|omega|rfl)
   ·refine kx4 h1 q2 h4 q5 ?_
    revert hF;refine aS ?_ ?_<;>intro h8 q9 hF
    ·cases hF
     repeat first|refine cg ?_|simp -dsimp[h1,q2,h4,q5,h8]
     all_goals(try first|omega|rfl)
    ·refine kx6 h1 q2 h4 q5 h8 q9 ?_
     revert hF;refine aS ?_ ?_<;>intro h10 q11 hF
     ·refine kx7 h1 q2 h4 q5 h8 q9 h10 ?_
      refine yD follows (by kernel_rfl) (by kernel_rfl) ?_
      apply oB hF;intro x e12 hF
      have le12:=ZA e12
      repeat first|refine cg ?_|simp -dsimp[h1,q2,h4,q5,h8,q9,h10,↓e12]
      apply oB hF;intro v13 e14 hF
      refine((ih_f77 t x v13 e14)).pgoW (by first|simp[h1,q2,h4,q5,h8,q9,h10,↓e12];done|simp_all) (by simp) ?_
      repeat first|refine cg ?_|simp -dsimp[h1,q2,h4,q5,h8,q9,h10,↓e12]
      revert hF;refine aN (fun h15 q16 hF=> ?_) (fun h15 q16 hF=> ?_)
      ·apply oB hF;intro x17 e18 hF
       have le18:=ZA e18
       repeat first|refine cg ?_|simp -dsimp[h1,q2,h4,q5,h8,q9,h10,↓e12,h15,q16,↓e18]
       apply oB hF;intro v19 e20 hF
       refine((ih_f77 t x17 v19 e20)).pgoW (by first|simp[h1,q2,h4,q5,h8,q9,h10,↓e12,h15,q16,↓e18];done|simp_all) (by simp) ?_
       cases hF
       repeat first|refine cg ?_|simp -dsimp[h1,q2,h4,q5,h8,q9,h10,↓e12,h15,q16,↓e18]
       all_goals(try first|omega|rfl)
      ·cases hF
       repeat first|refine cg ?_|simp -dsimp[h1,q2,h4,q5,h8,q9,h10,↓e12,h15,q16]
       all_goals(try first|omega|rfl)
     ·refine kx8 h1 q2 h4 q5 h8 q9 h10 q11 ?_
      revert hF;refine aS ?_ ?_<;>intro h21 q22 hF
      ·refine kx9 h1 q2 h4 q5 h8 q9 h10 q11 h21 ?_
       refine yD follows (by kernel_rfl) (by kernel_rfl) ?_
       apply oB hF;intro x23 e24 hF
       have le24:=ZA e24
       repeat first|refine cg ?_|simp -dsimp[h1,q2,h4,q5,h8,q9,h10,q11,h21,↓e24]
       apply oB hF;intro v25 e26 hF
       refine((ih_f77 t x23 v25 e26)).pgoW (by first|simp[h1,q2,h4,q5,h8,q9,h10,q11,h21,↓e24];done|simp_all) (by simp) ?_
       cases hF
       repeat first|refine cg ?_|simp -dsimp[h1,q2,h4,q5,h8,q9,h10,q11,h21,↓e24]
       all_goals(try first|omega|rfl)
      ·repeat first|refine cg ?_|simp -dsimp[h1,q2,h4,q5,h8,q9,h10,q11,h21,q22]
       apply oB hF;intro v27 e28 hF
       refine((C.f48 B hB1 hB2 w t p.ctor v27 e28)).goW (by first|simp[h1,q2,h4,q5,h8,q9,h10,q11,h21,q22];done|simp_all) (by simp) ?_
       repeat first|refine cg ?_|simp -dsimp[h1,q2,h4,q5,h8,q9,h10,q11,h21,q22]
       apply oB hF;intro o' ho41 hF
       refine zJ _ ?_ ((ih_f78 p v27 0 o' ho41) _ rfl _ ?_)
       ·exact(gT (by simp) (by first|simp -dsimp[h1,q2,h4,q5,h8,q9,h10,q11,h21,q22];done|simp_all))
       rcases o' with r0|sx
       ·dsimp only at hF
        cases hF
        intro st h
        simpa using h
       ·dsimp only at hF
        cases hF
        repeat first|refine cg ?_|simp -dsimp
        all_goals(try first|omega|rfl)
 ·intro _f_f77 _f_f78 ih_f77 ih_f78 p v27 i o hF
  intro c hc Q hq
  obtain rfl:c=_:=ZAK hc rfl
  refine yJ fun hk hs=> ?_
  have b0:=hk 0
  simp -dsimp at b0
  have b1:=hk 1
  simp -dsimp at b1
  have b9:=hk 9
  simp -dsimp at b9
  have d1:=hs 1 _ rfl
  simp -dsimp[yC]at d1
  clear hk hs
  refine eN ?_
  revert hF;refine kS ?_ ?_<;>intro h29 q30 hF
  ·have z31:((i:Int)<(v27.length:Int)):=auz
   refine kx2 h29 z31 ?_
   refine yD follows (by kernel_rfl) (by kernel_rfl) ?_
   apply oB hF;intro x32 e33 hF
   have le33:=ZA e33
   apply oB hF;intro x34 e35 hF
   have le35:=ZA e35
   refine Zx h29 z31 e33 e35 ?_
   apply oB hF;intro v36 e37 hF
   refine((ih_f77 x32 x34 v36 e37)).pgoW (by first|simp[h29,z31,↓e33,↓e35];done|simp_all) (by simp) ?_
   refine Zx h29 z31 e33 e35 ?_
   revert hF;refine aN (fun h38 q39 hF=> ?_) (fun h38 q39 hF=> ?_)
   ·cases hF
    refine ZAD h29 z31 e33 e35 h38 q39 ?_
    refine lG _ (gR _) (hq _ ?_)
    repeat first|refine cg ?_|simp -dsimp[h29,z31,↓e33,↓e35,h38,q39]
   ·have w40:i64.wrap ((i:Int)+1)=(i:Int)+1:=ZB (by omega) (by omega)
    repeat first|refine cg ?_|simp -dsimp[h29,z31,↓e33,↓e35,h38,q39,w40]
    refine aG _ ?_ ((ih_f78 p v27 (i+1) o hF) _ rfl _ hq)
    exact(gT (by simp) (by first|simp -dsimp[h29,z31,↓e33,↓e35,h38,q39,w40];done|simp_all))
  ·have z31:¬((i:Int)<(v27.length:Int)):=auz
   cases hF
   refine kx3 h29 q30 z31 ?_
   refine lG _ (gT (by simp) (by first|simp -dsimp[h29,q30,z31];done|simp_all)) hq
theorem C.f79 (w:List zN)(t:Ty)(p:Pattern)(r:Bool)(hF:F.f79 w t p=some r):PureCall zQ B 27 [am zO w,.agg [li t.data,li t.index],.agg [li p.op,li p.ctor,li p.n,li p.m,li p.var,am zR p.kids]] (.lit (.bool r)):=by
 unfold F.f79 at hF
 refine pE func27 (by kernel_rfl) rfl ntmps27 (by simp) (by simp) ?_
 refine kB hF fun v e1 hF=> ?_
 refine((C.f68 B hB1 hB2 w t p v e1)).goW (by simp) (by simp) ?_
 revert hF;refine kN (fun h2 q3 hF=> ?_) (fun h2 q3 hF=> ?_)
 ·cases hF
  repeat first|refine cg ?_|simp -dsimp[h2,q3]
  all_goals(try first|omega|rfl)
 ·refine kx2 h2 q3 ?_
  refine yD follows (by kernel_rfl) (by kernel_rfl) ?_
  refine kx2 h2 q3 ?_
  apply oB hF;intro v4 e5 hF
  refine((C.f76 B hB1 hB2 w v4 e5)).pgoW (by first|simp[h2,q3];done|simp_all) (by simp) ?_
  refine kx2 h2 q3 ?_
  apply oB hF;intro v6 e7 hF
  refine(((CC.f77 B hB1 hB2 w v4).1 t p v6 e7)).pgoW (by first|simp[h2,q3];done|simp_all) (by simp) ?_
  cases hF
  repeat first|refine cg ?_|simp -dsimp[h2,q3]
  all_goals(try first|omega|rfl)
theorem CC.f80 (w:List zN)(table:List Int):(∀(t:Ty) (p:Pattern) (r:Bool),F.f80 w table t p=some r->PureCall zQ B 28 [am zO w,am cI table,.agg [li t.data,li t.index],.agg [li p.op,li p.ctor,li p.n,li p.m,li p.var,am zR p.kids]] (.lit (.bool r)))/\
  (∀(p:Pattern) (v6:List Ty) (i:Nat) (o:Lo Bool Unit),F.f81 w table p v6 i=some o->∀(c:Code),Zc [1,1,1,0,1,0,0] (ZJ Tryz.f28)=some c->∀(Q:Exit->ASt->Prop),o.post (fun r=>∀st,ZAR zQ Tryz.f28 (fun r' _=>r'.le (.lit (.bool r))) .ret st->Q .ret st) (fun s=>Q (.exit 0) ⟨[],[]⟩)->ALoopU zQ B 0 46 (hold c .mk) ⟨[(0,am zO w),(1,am cI table),(7,.ptr 1 0),(9,am zK v6),(10,li (i:Int))],[.dead,.cells [li p.op,li p.ctor,li p.n,li p.m,li p.var,am zR p.kids]]⟩ (hold Q .mk)):=by
 refine F.f80.mutual_partial_correctness w table
  _ _
  ?_ ?_
 ·intro _f_f81 ih_f81 t p r hF
  refine pE func28 (by kernel_rfl) rfl ntmps28 (by simp) (by simp) ?_
  revert hF;refine kN ?_ ?_<;>intro h1 q2 hF
  ·refine kx2 h1 q2 ?_
   revert hF;refine aS ?_ ?_<;>intro h3 q4 hF
   ·refine kx3 h1 q2 h3 ?_
    apply oB hF;intro v e5 hF
    refine((C.f70 B hB1 hB2 table t v e5)).goW (by first|simp[h1,q2,h3];done|simp_all) (by simp) ?_
    cases hF
    repeat first|refine cg ?_|simp -dsimp[h1,q2,h3]
    all_goals(try first|omega|rfl)
   ·refine kx4 h1 q2 h3 q4 ?_
    apply oB hF;intro v6 e7 hF
    refine((C.f51 B hB1 hB2 w t p v6 e7)).goW (by first|simp[h1,q2,h3,q4];done|simp_all) (by simp) ?_
    refine kx4 h1 q2 h3 q4 ?_
    apply oB hF;intro o' ho19 hF
    refine zJ _ ?_ ((ih_f81 p v6 0 o' ho19) _ rfl _ ?_)
    ·exact(gT (by simp) (by first|simp -dsimp[h1,q2,h3,q4];done|simp_all))
    rcases o' with r0|sx
    ·dsimp only at hF
     cases hF
     intro st h
     simpa using h
    ·dsimp only at hF
     cases hF
     repeat first|refine cg ?_|simp -dsimp
     all_goals(try first|omega|rfl)
  ·refine kx2 h1 q2 ?_
   apply oB hF;intro v20 e21 hF
   refine((C.f70 B hB1 hB2 table t v20 e21)).goW (by first|simp[h1,q2];done|simp_all) (by simp) ?_
   cases hF
   repeat first|refine cg ?_|simp -dsimp[h1,q2]
   all_goals(try first|omega|rfl)
 ·intro _f_f80 _f_f81 ih_f80 ih_f81 p v6 i o hF
  intro c hc Q hq
  obtain rfl:c=_:=ZAK hc rfl
  refine yJ fun hk hs=> ?_
  have b0:=hk 0
  simp -dsimp at b0
  have b1:=hk 1
  simp -dsimp at b1
  have b9:=hk 9
  simp -dsimp at b9
  have d1:=hs 1 _ rfl
  simp -dsimp[yC]at d1
  clear hk hs
  refine eN ?_
  revert hF;refine kS ?_ ?_<;>intro h8 q9 hF
  ·have z10:((i:Int)<(v6.length:Int)):=auz
   refine kx2 h8 z10 ?_
   refine yD follows (by kernel_rfl) (by kernel_rfl) ?_
   apply oB hF;intro x e11 hF
   have le11:=ZA e11
   apply oB hF;intro x12 e13 hF
   have le13:=ZA e13
   refine Zx h8 z10 e11 e13 ?_
   apply oB hF;intro v14 e15 hF
   refine((ih_f80 x x12 v14 e15)).pgoW (by first|simp[h8,z10,↓e11,↓e13];done|simp_all) (by simp) ?_
   refine Zx h8 z10 e11 e13 ?_
   revert hF;refine aN (fun h16 q17 hF=> ?_) (fun h16 q17 hF=> ?_)
   ·cases hF
    refine ZAD h8 z10 e11 e13 h16 q17 ?_
    refine lG _ (gR _) (hq _ ?_)
    repeat first|refine cg ?_|simp -dsimp[h8,z10,↓e11,↓e13,h16,q17]
   ·have w18:i64.wrap ((i:Int)+1)=(i:Int)+1:=ZB (by omega) (by omega)
    repeat first|refine cg ?_|simp -dsimp[h8,z10,↓e11,↓e13,h16,q17,w18]
    refine aG _ ?_ ((ih_f81 p v6 (i+1) o hF) _ rfl _ hq)
    exact(gT (by simp) (by first|simp -dsimp[h8,z10,↓e11,↓e13,h16,q17,w18];done|simp_all))
  ·have z10:¬((i:Int)<(v6.length:Int)):=auz
   cases hF
   refine kx3 h8 q9 z10 ?_
   refine lG _ (gT (by simp) (by first|simp -dsimp[h8,q9,z10];done|simp_all)) hq
theorem CC.f82 (w:List zN)(table:List Int):(∀(t:Ty) (r:Vl.Value),F.f82 w table t=some r->PureCall zQ B 60 [am zO w,am cI table,.agg [li t.data,li t.index]] (.agg [li r.ctor,li r.n,am Vl.Value.c r.kids]))/\
  (∀(t:Ty) (v:List Int) (i:Nat) (o:Lo Vl.Value Unit),F.f83 w table t v i=some o->∀(c:Code),Zc [1,1,1,0,1,0,0] (ZJ Tryz.f60)=some c->∀(Q:Exit->ASt->Prop),o.post (fun r=>∀st,ZAR zQ Tryz.f60 (fun r' _=>r'.le (.agg [li r.ctor,li r.n,am Vl.Value.c r.kids])) .ret st->Q .ret st) (fun s=>Q (.exit 0) ⟨[(6,.ptr 1 0)],[.dead,.cells [li 0,li 0,.lit (.slice none 0 0)]]⟩)->ALoopU zQ B 0 69 (hold c .mk) ⟨[(0,am zO w),(1,am cI table),(5,.ptr 0 0),(6,.ptr 1 0),(7,am cI v),(8,li (i:Int))],[.cells [li t.data,li t.index],.cells [li 0,li 0,.lit (.slice none 0 0)]]⟩ (hold Q .mk))/\
  (∀(x:Int) (v15:List Ty) (out:List Vl.Value) (k:Nat) (o:List Vl.Value),F.f84 w table x v15 out k=some o->∀(c:Code),Zc [1,1,1,0,1,0,0,1,0,0,1,1,1,0,1,0,0] (ZJ Tryz.f60)=some c->∀(Q:Exit->ASt->Prop),(Q (.exit 2) ⟨[(6,.ptr 1 0),(9,.ptr 2 0)],[.dead,.cells [li 0,li 0,.lit (.slice none 0 0)],.cells [li x,li 0,.own 3 (zA (α:=Vl.Value) o)],.elems 3 (zB Vl.Value.c o)]⟩)->ALoopU zQ B 0 69 (hold c .mk) ⟨[(0,am zO w),(1,am cI table),(6,.ptr 1 0),(9,.ptr 2 0),(10,am zK v15),(11,li (k:Int))],[.dead,.cells [li 0,li 0,.lit (.slice none 0 0)],.cells [li x,li 0,.own 3 (zA (α:=Vl.Value) out)],.elems 3 (zB Vl.Value.c out)]⟩ (hold Q .mk)):=by
 refine F.f82.mutual_partial_correctness w table
  _ _ _
  ?_ ?_ ?_
 ·intro _f_f83 ih_f83 t r hF
  refine pE func60 (by kernel_rfl) rfl ntmps60 (by simp) (by simp) ?_
  revert hF;refine kS ?_ ?_<;>intro h1 q2 hF
  ·cases hF
   repeat first|refine cg ?_|simp -dsimp[h1]
   all_goals(try first|omega|rfl)
  ·refine kx2 h1 q2 ?_
   apply oB hF;intro v e3 hF
   refine((C.f42 B hB1 hB2 w t v e3)).goW (by first|simp[h1,q2];done|simp_all) (by simp) ?_
   refine kx2 h1 q2 ?_
   apply oB hF;intro o'28 ho27 hF
   refine zJ _ ?_ ((ih_f83 t v 0 o'28 ho27) _ rfl _ ?_)
   ·exact(gT (by simp) (by first|simp -dsimp[h1,q2];done|simp_all))
   rcases o'28 with r0|sx
   ·dsimp only at hF
    cases hF
    intro st h
    simpa using h
   ·dsimp only at hF
    cases hF
    repeat first|refine cg ?_|simp -dsimp
    all_goals(try first|omega|rfl)
 ·intro _f_f83 _f_f84 ih_f83 ih_f84 t v i o hF
  intro c hc Q hq
  obtain rfl:c=_:=ZAK hc rfl
  refine yJ fun hk hs=> ?_
  have b0:=hk 0
  simp -dsimp at b0
  have b1:=hk 1
  simp -dsimp at b1
  have b7:=hk 7
  simp -dsimp at b7
  clear hk hs
  refine eN ?_
  revert hF;refine kS ?_ ?_<;>intro h4 q5 hF
  ·have z6:((i:Int)<(v.length:Int)):=auz
   refine kx2 h4 z6 ?_
   refine yD follows (by kernel_rfl) (by kernel_rfl) ?_
   apply oB hF;intro x e7 hF
   have le7:=ZA e7
   refine Zb h4 z6 e7 ?_
   apply oB hF;intro v8 e9 hF
   refine((C.f72 B hB1 hB2 w table t x v8 e9)).pgoW (by first|simp[h4,z6,↓e7];done|simp_all) (by simp) ?_
   refine Zb h4 z6 e7 ?_
   apply oB hF;intro v10 e11 hF
   refine((C.f70 B hB1 hB2 table t v10 e11)).pgoW (by first|simp[h4,z6,↓e7];done|simp_all) (by simp) ?_
   refine Zb h4 z6 e7 ?_
   revert hF;refine aN ?_ ?_<;>intro h12 q13 hF
   ·have w14:i64.wrap ((i:Int)+1)=(i:Int)+1:=ZB (by omega) (by omega)
    repeat first|refine cg ?_|simp -dsimp[h4,z6,↓e7,h12,q13,w14]
    refine aG _ ?_ ((ih_f83 t v (i+1) o hF) _ rfl _ hq)
    exact(gT (by simp) (by first|simp -dsimp[h4,z6,↓e7,h12,q13,w14];done|simp_all))
   ·repeat first|refine cg ?_|simp -dsimp[h4,z6,↓e7,h12,q13]
    refine yD follows (by kernel_rfl) (by kernel_rfl) ?_
    repeat first|refine cg ?_|simp -dsimp[h4,z6,↓e7,h12,q13]
    apply oB hF;intro v15 e16 hF
    refine((C.f48 B hB1 hB2 w t x v15 e16)).pgoW (by first|simp[h4,z6,↓e7,h12,q13];done|simp_all) (by simp) ?_
    repeat first|refine cg ?_|simp -dsimp[h4,z6,↓e7,h12,q13]
    apply oB hF;intro o' ho26 hF
    refine zJ ⟨[(0,.arr (zB zO w)),(1,.arr (zB cI table)),(6,.ptr 1 0),(9,.ptr 2 0),(10,.arr (zB zK v15)),(11,.lit (.int .i64 0))],[.dead,.cells [.lit (.int .i64 0),.lit (.int .i64 0),.lit (.slice none 0 0)],.cells [.lit (.int .i64 x),.lit (.int .i64 0),.own 3 (zA (α:=Vl.Value) [])],.elems 3 (zB Vl.Value.c [])]⟩ (by refine yK (yM 2 2 3 (by simp -dsimp;rfl) (by simp -dsimp)) ?_;exact(gT (by simp) (by first|simp -dsimp[h4,z6,↓e7,h12,q13];done|simp_all))) ?_
    refine(ih_f84 x v15 [] 0 o' ho26) _ rfl _ ?_
    cases hF
    refine kx0 ?_
    refine lG _ (gR _) (hq _ ?_)
    exact kc0
  ·have z6:¬((i:Int)<(v.length:Int)):=auz
   cases hF
   refine kx3 h4 q5 z6 ?_
   refine lG _ (gT (by simp) (by first|simp -dsimp[h4,q5,z6];done|simp_all)) hq
 ·intro _f_f82 _f_f84 ih_f82 ih_f84 x v15 out k o hF
  intro c hc Q hq
  obtain rfl:c=_:=ZAK hc rfl
  refine yJ fun hk hs=> ?_
  have b0:=hk 0
  simp -dsimp at b0
  have b1:=hk 1
  simp -dsimp at b1
  have b10:=hk 10
  simp -dsimp at b10
  have d3:=hs 3 _ rfl
  simp -dsimp[yC]at d3
  clear hk hs
  refine eN ?_
  revert hF;refine kS ?_ ?_<;>intro h17 q18 hF
  ·have z19:((k:Int)<(v15.length:Int)):=auz
   refine kx2 h17 z19 ?_
   refine yH [] [(0,1),(0,1),(0,0),(0,0),(0,0),(0,0),(0,0),(0,0),(0,3),(0,3),(0,3),(2,2),(0,3)] [0,2,1,1,1,1,1,1,1,1,1,1,1] follows (by kernel_rfl) (by kernel_rfl) (by kernel_rfl) ?_
   apply oB hF;intro x20 e21 hF
   have le21:=ZA e21
   refine Zb h17 z19 e21 ?_
   apply oB hF;intro v22 e23 hF
   refine((ih_f82 x20 v22 e23)).pgoW (by first|simp[h17,z19,↓e21];done|simp_all) (by simp) ?_
   apply oC hF;intro c24 hF
   have w25:i64.wrap ((k:Int)+1)=(k:Int)+1:=ZB (by omega) (by omega)
   repeat first|refine cg ?_|simp -dsimp[h17,z19,↓e21,w25]
   refine aG _ ?_ ((ih_f84 x v15 (out++[v22]) (k+1) o hF) _ rfl _ hq)
   exact(gT (by simp) (by first|simp -dsimp[h17,z19,↓e21,w25];done|simp_all))
  ·have z19:¬((k:Int)<(v15.length:Int)):=auz
   cases hF
   refine kx3 h17 q18 z19 ?_
   refine lG _ (gT (by simp) (by first|simp -dsimp[h17,q18,z19];done|simp_all)) hq
theorem CC.f85 (w:List zN)(table:List Int):(∀(t:Ty) (p:Pattern) (r:Vl.Value),F.f85 w table t p=some r->PureCall zQ B 30 [am zO w,am cI table,.agg [li t.data,li t.index],.agg [li p.op,li p.ctor,li p.n,li p.m,li p.var,am zR p.kids]] (.agg [li r.ctor,li r.n,am Vl.Value.c r.kids]))/\
  (∀(p:Pattern) (v29:List Ty) (out:List Vl.Value) (i:Nat) (o:List Vl.Value),F.f86 w table p v29 out i=some o->∀(c:Code),Zc [1,1,1,1,0,1,0,0] (ZJ Tryz.f30)=some c->∀(Q:Exit->ASt->Prop),(Q (.exit 1) ⟨[(8,.ptr 2 0),(9,.ptr 3 0)],[.dead,.dead,.cells [li 0,li 0,.lit (.slice none 0 0)],.cells [li p.ctor,li 0,.own 4 (zA (α:=Vl.Value) o)],.elems 3 (zB Vl.Value.c o)]⟩)->ALoopU zQ B 0 94 (hold c .mk) ⟨[(0,am zO w),(1,am cI table),(7,.ptr 1 0),(8,.ptr 2 0),(9,.ptr 3 0),(10,am zK v29),(11,li (i:Int))],[.dead,.cells [li p.op,li p.ctor,li p.n,li p.m,li p.var,am zR p.kids],.cells [li 0,li 0,.lit (.slice none 0 0)],.cells [li p.ctor,li 0,.own 4 (zA (α:=Vl.Value) out)],.elems 3 (zB Vl.Value.c out)]⟩ (hold Q .mk)):=by
 refine F.f85.mutual_partial_correctness w table
  _ _
  ?_ ?_
 ·intro _f_f85 _f_f86 ih_f85 ih_f86 t p r hF
  refine pE func30 (by kernel_rfl) rfl ntmps30 (by simp) (by simp) ?_
  revert hF;refine kS ?_ ?_<;>intro h1 q2 hF
  ·refine kx1 h1 ?_
   apply oB hF;intro v e3 hF
   refine(((CC.f82 B hB1 hB2 w table).1 t v e3)).goW (by first|simp[h1];done|simp_all) (by simp) ?_
   cases hF
   repeat first|refine cg ?_|simp -dsimp[h1]
   all_goals(try first|omega|rfl)
  ·refine kx2 h1 q2 ?_
   revert hF;refine aS ?_ ?_<;>intro h4 q5 hF
   ·refine kx3 h1 q2 h4 ?_
    apply oB hF;intro v6 e7 hF
    refine(((CC.f82 B hB1 hB2 w table).1 t v6 e7)).goW (by first|simp[h1,q2,h4];done|simp_all) (by simp) ?_
    cases hF
    repeat first|refine cg ?_|simp -dsimp[h1,q2,h4]
    all_goals(try first|omega|rfl)
   ·refine kx4 h1 q2 h4 q5 ?_
    revert hF;refine aS ?_ ?_<;>intro h8 q9 hF
    ·cases hF
     repeat first|refine cg ?_|simp -dsimp[h1,q2,h4,q5,h8]
     all_goals(try first|omega|rfl)
    ·refine kx6 h1 q2 h4 q5 h8 q9 ?_
     revert hF;refine aS ?_ ?_<;>intro h10 q11 hF
     ·refine kx7 h1 q2 h4 q5 h8 q9 h10 ?_
      refine yH [] [(0,0),(0,0),(0,0),(0,0),(0,0),(0,0),(0,0),(0,1),(0,1)] [1,1,1,1,1,1,1,1,1] follows (by kernel_rfl) (by kernel_rfl) (by kernel_rfl) ?_
      apply oB hF;intro x e12 hF
      have le12:=ZA e12
      repeat first|refine cg ?_|simp -dsimp[h1,q2,h4,q5,h8,q9,h10,↓e12]
      apply oB hF;intro v13 e14 hF
      refine((ih_f85 t x v13 e14)).pgoW (by first|simp[h1,q2,h4,q5,h8,q9,h10,↓e12];done|simp_all) (by simp) ?_
      cases hF
      repeat first|refine cg ?_|simp -dsimp[h1,q2,h4,q5,h8,q9,h10,↓e12]
      all_goals(try first|omega|rfl)
     ·refine kx8 h1 q2 h4 q5 h8 q9 h10 q11 ?_
      revert hF;refine aS ?_ ?_<;>intro h15 q16 hF
      ·refine kx9 h1 q2 h4 q5 h8 q9 h10 q11 h15 ?_
       refine yD follows (by kernel_rfl) (by kernel_rfl) ?_
       apply oB hF;intro x17 e18 hF
       have le18:=ZA e18
       repeat first|refine cg ?_|simp -dsimp[h1,q2,h4,q5,h8,q9,h10,q11,h15,↓e18]
       apply oB hF;intro v19 e20 hF
       refine(((CC.f77 B hB1 hB2 w table).1 t x17 v19 e20)).pgoW (by first|simp[h1,q2,h4,q5,h8,q9,h10,q11,h15,↓e18];done|simp_all) (by simp) ?_
       repeat first|refine cg ?_|simp -dsimp[h1,q2,h4,q5,h8,q9,h10,q11,h15,↓e18]
       revert hF;refine aS (fun h21 q22 hF=> ?_) (fun h21 q22 hF=> ?_)
       ·repeat first|refine cg ?_|simp -dsimp[h1,q2,h4,q5,h8,q9,h10,q11,h15,↓e18,h21]
        refine yH [] [(0,0),(0,0),(0,0),(0,0),(0,0),(0,0),(0,0),(0,1),(0,1)] [1,1,1,1,1,1,1,1,1] follows (by kernel_rfl) (by kernel_rfl) (by kernel_rfl) ?_
        repeat first|refine cg ?_|simp -dsimp[h1,q2,h4,q5,h8,q9,h10,q11,h15,↓e18,h21]
        apply oB hF;intro v23 e24 hF
        refine((ih_f85 t x17 v23 e24)).pgoW (by first|simp[h1,q2,h4,q5,h8,q9,h10,q11,h15,↓e18,h21];done|simp_all) (by simp) ?_
        cases hF
        repeat first|refine cg ?_|simp -dsimp[h1,q2,h4,q5,h8,q9,h10,q11,h15,↓e18,h21]
        all_goals(try first|omega|rfl)
       ·repeat first|refine cg ?_|simp -dsimp[h1,q2,h4,q5,h8,q9,h10,q11,h15,↓e18,h21,q22]
        refine yH [] [(0,0),(0,0),(0,0),(0,0),(0,0),(0,0),(0,0),(0,1),(0,1)] [1,1,1,1,1,1,1,1,1] follows (by kernel_rfl) (by kernel_rfl) (by kernel_rfl) ?_
        apply oB hF;intro x25 e26 hF
        have le26:=ZA e26
        repeat first|refine cg ?_|simp -dsimp[h1,q2,h4,q5,h8,q9,h10,q11,h15,↓e18,h21,q22,↓e26]
        apply oB hF;intro v27 e28 hF
        refine((ih_f85 t x25 v27 e28)).pgoW (by first|simp[h1,q2,h4,q5,h8,q9,h10,q11,h15,↓e18,h21,q22,↓e26];done|simp_all) (by simp) ?_
        cases hF
        repeat first|refine cg ?_|simp -dsimp[h1,q2,h4,q5,h8,q9,h10,q11,h15,↓e18,h21,q22,↓e26]
        all_goals(try first|omega|rfl)
      ·repeat first|refine cg ?_|simp -dsimp[h1,q2,h4,q5,h8,q9,h10,q11,h15,q16]
       apply oB hF;intro v29 e30 hF
       refine((C.f48 B hB1 hB2 w t p.ctor v29 e30)).goW (by first|simp[h1,q2,h4,q5,h8,q9,h10,q11,h15,q16];done|simp_all) (by simp) ?_
       repeat first|refine cg ?_|simp -dsimp[h1,q2,h4,q5,h8,q9,h10,q11,h15,q16]
       apply oB hF;intro o' ho42 hF
       refine zJ ⟨[(0,.arr (zB zO w)),(1,.arr (zB cI table)),(7,.ptr 1 0),(8,.ptr 2 0),(9,.ptr 3 0),(10,.arr (zB zK v29)),(11,.lit (.int .i64 0))],[.dead,.cells [.lit (.int .i64 p.op),.lit (.int .i64 p.ctor),.lit (.int .i64 p.n),.lit (.int .i64 p.m),.lit (.int .i64 p.var),.arr (zB zR p.kids)],.cells [.lit (.int .i64 0),.lit (.int .i64 0),.lit (.slice none 0 0)],.cells [.lit (.int .i64 p.ctor),.lit (.int .i64 0),.own 4 (zA (α:=Vl.Value) [])],.elems 3 (zB Vl.Value.c [])]⟩ (by refine yK (yM 3 2 3 (by simp -dsimp;rfl) (by simp -dsimp)) ?_;exact(gT (by simp) (by first|simp -dsimp[h1,q2,h4,q5,h8,q9,h10,q11,h15,q16];done|simp_all))) ?_
       refine(ih_f86 p v29 [] 0 o' ho42) _ rfl _ ?_
       cases hF
       repeat first|refine cg ?_|simp -dsimp
       all_goals(try first|omega|rfl)
 ·intro _f_f85 _f_f86 ih_f85 ih_f86 p v29 out i o hF
  intro c hc Q hq
  obtain rfl:c=_:=ZAK hc rfl
  refine yJ fun hk hs=> ?_
  have b0:=hk 0
  simp -dsimp at b0
  have b1:=hk 1
  simp -dsimp at b1
  have b10:=hk 10
  simp -dsimp at b10
  have d1:=hs 1 _ rfl
  simp -dsimp[yC]at d1
  have d4:=hs 4 _ rfl
  simp -dsimp[yC]at d4
  clear hk hs
  refine eN ?_
  revert hF;refine kS ?_ ?_<;>intro h31 q32 hF
  ·have z33:((i:Int)<(v29.length:Int)):=auz
   refine kx2 h31 z33 ?_
   refine yH [] [(0,1),(0,1),(0,0),(0,0),(0,0),(0,0),(0,0),(0,0),(0,0),(0,0),(0,0),(0,0),(0,0),(0,3),(0,3),(0,3),(2,2),(0,3)] [0,2,1,1,1,1,1,1,1,1,1,1,1,1,1,1,1,1] follows (by kernel_rfl) (by kernel_rfl) (by kernel_rfl) ?_
   apply oB hF;intro x34 e35 hF
   have le35:=ZA e35
   apply oB hF;intro x36 e37 hF
   have le37:=ZA e37
   refine Zx h31 z33 e35 e37 ?_
   apply oB hF;intro v38 e39 hF
   refine((ih_f85 x34 x36 v38 e39)).pgoW (by first|simp[h31,z33,↓e35,↓e37];done|simp_all) (by simp) ?_
   apply oC hF;intro c40 hF
   have w41:i64.wrap ((i:Int)+1)=(i:Int)+1:=ZB (by omega) (by omega)
   repeat first|refine cg ?_|simp -dsimp[h31,z33,↓e35,↓e37,w41]
   refine aG _ ?_ ((ih_f86 p v29 (out++[v38]) (i+1) o hF) _ rfl _ hq)
   exact(gT (by simp) (by first|simp -dsimp[h31,z33,↓e35,↓e37,w41];done|simp_all))
  ·have z33:¬((i:Int)<(v29.length:Int)):=auz
   cases hF
   refine kx3 h31 q32 z33 ?_
   refine lG _ (gT (by simp) (by first|simp -dsimp[h31,q32,z33];done|simp_all)) hq
theorem CC.f87 (w:List zN):(∀(t:Ty) (v:Vl.Value) (depth:Int) (r:Bool),F.f87 w t v depth=some r->PureCall zQ B 62 [am zO w,.agg [li t.data,li t.index],.agg [li v.ctor,li v.n,am Vl.Value.c v.kids],li depth] (.lit (.bool r)))/\
  (∀(v:Vl.Value) (depth:Int) (v19:List Ty) (i:Nat) (o:Lo Bool Unit),F.f88 w v depth v19 i=some o->∀(c:Code),Zc [1,1,1,1,1,1,0,1,0,0] (ZJ Tryz.f62)=some c->∀(Q:Exit->ASt->Prop),o.post (fun r=>∀st,ZAR zQ Tryz.f62 (fun r' _=>r'.le (.lit (.bool r))) .ret st->Q .ret st) (fun s=>Q (.exit 0) ⟨[],[]⟩)->ALoopU zQ B 0 78 (hold c .mk) ⟨[(0,am zO w),(3,li depth),(6,.ptr 1 0),(9,am zK v19),(10,li (i:Int))],[.dead,.cells [li v.ctor,li v.n,am Vl.Value.c v.kids]]⟩ (hold Q .mk)):=by
 refine F.f87.mutual_partial_correctness w
  _ _
  ?_ ?_
 ·intro _f_f88 ih_f88 t v depth r hF
  refine zG func62 rfl ntmps62 ?_
  revert hF;refine kS ?_ ?_<;>intro h1 q2 hF
  ·cases hF
   exact kc1 h1
  ·refine kx2 h1 q2 ?_
   revert hF;refine aS ?_ ?_<;>intro h3 q4 hF
   ·refine kx3 h1 q2 h3 ?_
    revert hF;refine aS ?_ ?_<;>intro h5 q6 hF
    ·refine kx4 h1 q2 h3 h5 ?_
     revert hF;refine aS ?_ ?_<;>intro h7 q8 hF
     ·refine kx5 h1 q2 h3 h5 h7 ?_
      revert hF;refine aS ?_ ?_<;>intro h9 q10 hF
      ·cases hF
       exact kc6 h1 q2 h3 h5 h7 h9
      ·cases hF
       exact kc7 h1 q2 h3 h5 h7 h9 q10
     ·cases hF
      exact kc6 h1 q2 h3 h5 h7 q8
    ·cases hF
     exact kc5 h1 q2 h3 h5 q6
   ·refine kx4 h1 q2 h3 q4 ?_
    refine yE follows ?_
    refine kx4 h1 q2 h3 q4 ?_
    revert hF;refine aS ?_ ?_<;>intro h11 q12 hF
    ·refine kx5 h1 q2 h3 q4 h11 ?_
     apply oB hF;intro v13 e14 hF
     refine((C.f42 B hB1 hB2 w t v13 e14)).pgoW (by simp[h1,q2,h3,q4,h11]) (by simp) ?_
     refine kx5 h1 q2 h3 q4 h11 ?_
     apply oB hF;intro v15 e16 hF
     refine((C.f44 B hB1 hB2 v13 v.ctor v15 e16)).pgoW (by simp[h1,q2,h3,q4,h11]) (by simp) ?_
     refine kx5 h1 q2 h3 q4 h11 ?_
     revert hF;refine aN (fun h17 q18 hF=> ?_) (fun h17 q18 hF=> ?_)
     ·cases hF
      exact kc7 h1 q2 h3 q4 h11 h17 q18
     ·refine kx7 h1 q2 h3 q4 h11 h17 q18 ?_
      apply oB hF;intro v19 e20 hF
      refine((C.f48 B hB1 hB2 w t v.ctor v19 e20)).goI ?_
      refine kx7 h1 q2 h3 q4 h11 h17 q18 ?_
      revert hF;refine aN ?_ ?_<;>intro h21 q22 hF
      ·have z23:¬((v.kids.length:Int)=(v19.length:Int)):=auz
       cases hF
       repeat first|refine cg ?_|simp -dsimp[h1,q2,h3,q4,h11,h17,q18,h21,q22,z23]
      ·have z23:((v.kids.length:Int)=(v19.length:Int)):=auz
       repeat first|refine cg ?_|simp -dsimp[h1,q2,h3,q4,h11,h17,q18,h21,q22,z23]
       apply oB hF;intro o' ho35 hF
       refine zI ((ih_f88 v depth v19 0 o' ho35) _ rfl _ ?_)
       rcases o' with r0|sx
       ·dsimp only at hF
        cases hF
        intro st h
        simpa using h
       ·dsimp only at hF
        cases hF
        exact kc0
    ·cases hF
     exact kc6 h1 q2 h3 q4 h11 q12
 ·intro _f_f87 _f_f88 ih_f87 ih_f88 v depth v19 i o hF
  refine ZP rfl fun Q hq hk hs=> ?_
  have b0:=hk 0
  simp -dsimp at b0
  have b9:=hk 9
  simp -dsimp at b9
  have d1:=hs 1 _ rfl
  simp -dsimp[yC]at d1
  clear hk hs
  refine eN ?_
  revert hF;refine kS ?_ ?_<;>intro h24 q25 hF
  ·have z26:((i:Int)<(v19.length:Int)):=auz
   refine kx2 h24 z26 ?_
   refine yE follows ?_
   apply oB hF;intro x e27 hF
   have le27:=ZA e27
   apply oB hF;intro x28 e29 hF
   have le29:=ZA e29
   refine Zx h24 z26 e27 e29 ?_
   apply oB hF;intro v30 e31 hF
   refine((ih_f87 x x28 (i64.wrap (depth-1)) v30 e31)).pgoW (by simp[h24,z26,↓e27,↓e29]) (by simp) ?_
   refine Zx h24 z26 e27 e29 ?_
   revert hF;refine aN (fun h32 q33 hF=> ?_) (fun h32 q33 hF=> ?_)
   ·cases hF
    refine ZAD h24 z26 e27 e29 h32 q33 ?_
    refine lG _ (gR _) (hq _ ?_)
    repeat first|refine cg ?_|simp -dsimp[h24,z26,↓e27,↓e29,h32,q33]
   ·have w34:i64.wrap ((i:Int)+1)=(i:Int)+1:=ZB (by omega) (by omega)
    repeat first|refine cg ?_|simp -dsimp[h24,z26,↓e27,↓e29,h32,q33,w34]
    refine zE ((ih_f88 v depth v19 (i+1) o hF) _ rfl _ hq)
  ·have z26:¬((i:Int)<(v19.length:Int)):=auz
   cases hF
   refine kx3 h24 q25 z26 ?_
   refine zF hq
theorem CC.f89  :(∀(v:Vl.Value) (most:Int) (r:Int),F.f89 v most=some r->PureCall zQ B 63 [.agg [li v.ctor,li v.n,am Vl.Value.c v.kids],li most] (li r))/\
  (∀(v:Vl.Value) (most:Int) (n:Int) (i:Nat) (o:Int),F.f90 v most n i=some o->∀(c:Code),Zc [1,1,0,1,0,0] (ZJ Tryz.f63)=some c->∀(Q:Exit->ASt->Prop),(Q (.exit 0) ⟨[(5,li o)],[]⟩)->ALoopU zQ B 0 31 (hold c .mk) ⟨[(1,li most),(2,.ptr 0 0),(5,li n),(6,li (i:Int))],[.cells [li v.ctor,li v.n,am Vl.Value.c v.kids]]⟩ (hold Q .mk)):=by
 refine F.f89.mutual_partial_correctness 
  _ _
  ?_ ?_
 ·intro _f_f90 ih_f90 v most r hF
  refine zG func63 rfl ntmps63 ?_
  refine kB hF fun o' ho10 hF=> ?_
  refine zI ((ih_f90 v most 1 0 o' ho10) _ rfl _ ?_)
  cases hF
  exact kc0
 ·intro _f_f89 _f_f90 ih_f89 ih_f90 v most n i o hF
  refine ZP rfl fun Q hq hk hs=> ?_
  have d0:=hs 0 _ rfl
  simp -dsimp[yC]at d0
  clear hk hs
  refine eN ?_
  revert hF;refine kS ?_ ?_<;>intro h1 q2 hF
  ·have z3:((i:Int)<(v.kids.length:Int)):=auz
   refine kx2 h1 z3 ?_
   revert hF;refine aS ?_ ?_<;>intro h4 q5 hF
   ·apply oB hF;intro x e6 hF
    have le6:=ZA e6
    refine ZPY h4 e6 ?_
    apply oB hF;intro v7 e8 hF
    refine((ih_f89 x (i64.wrap (most-n)) v7 e8)).goI ?_
    have w9:i64.wrap ((i:Int)+1)=(i:Int)+1:=ZB (by omega) (by omega)
    refine kx1 w9 ?_
    refine zE ((ih_f90 v most (i64.wrap (n+v7)) (i+1) o hF) _ rfl _ hq)
   ·cases hF
    refine kx2 h4 q5 ?_
    refine zF hq
  ·have z3:¬((i:Int)<(v.kids.length:Int)):=auz
   cases hF
   refine kx3 h1 q2 z3 ?_
   refine zF hq
theorem C.f91 (w:List zN)(t:Ty)(v:Vl.Value)(r:Bool)(hF:F.f91 w t v=some r):PureCall zQ B 31 [am zO w,.agg [li t.data,li t.index],.agg [li v.ctor,li v.n,am Vl.Value.c v.kids]] (.lit (.bool r)):=by
 unfold F.f91 at hF
 refine zG func31 rfl ntmps31 ?_
 refine kB hF fun v1 e2 hF=> ?_
 refine(((CC.f87 B hB1 hB2 w).1 t v 10 v1 e2)).goI ?_
 revert hF;refine kS (fun h3 q4 hF=> ?_) (fun h3 q4 hF=> ?_)
 ·refine kx1 h3 ?_
  apply oB hF;intro v5 e6 hF
  refine(((CC.f89 B hB1 hB2).1 v 60 v5 e6)).goI ?_
  cases hF
  exact kc1 h3
 ·cases hF
  exact kc2 h3 q4
theorem C.f92 (w:List zN)(t:Ty)(p:Pattern)(r:Vl.Value×Bool)(hF:F.f92 w t p=some r):PureCall zQ B 7 [am zO w,.agg [li t.data,li t.index],.agg [li p.op,li p.ctor,li p.n,li p.m,li p.var,am zR p.kids]] (.tup [.agg [li r.1.ctor,li r.1.n,am Vl.Value.c r.1.kids],.lit (.bool r.2)]):=by
 unfold F.f92 at hF
 refine pE func7 (by kernel_rfl) rfl ntmps7 (by simp) (by simp) ?_
 refine kx0 ?_
 refine yD follows (by kernel_rfl) (by kernel_rfl) ?_
 refine kB hF fun v e1 hF=> ?_
 refine((C.f68 B hB1 hB2 w t p v e1)).pgoW (by simp) (by simp) ?_
 revert hF;refine kS (fun h2 q3 hF=> ?_) (fun h2 q3 hF=> ?_)
 ·refine kx1 h2 ?_
  apply oB hF;intro v4 e5 hF
  refine((C.f79 B hB1 hB2 w t p v4 e5)).pgoW (by first|simp[h2];done|simp_all) (by simp) ?_
  refine kx1 h2 ?_
  revert hF;refine aN (fun h6 q7 hF=> ?_) (fun h6 q7 hF=> ?_)
  ·refine kx3 h2 h6 q7 ?_
   apply oB hF;intro v8 e9 hF
   refine((C.f76 B hB1 hB2 w v8 e9)).pgoW (by first|simp[h2,h6,q7];done|simp_all) (by simp) ?_
   refine kx3 h2 h6 q7 ?_
   apply oB hF;intro v10 e11 hF
   refine(((CC.f80 B hB1 hB2 w v8).1 t p v10 e11)).pgoW (by first|simp[h2,h6,q7];done|simp_all) (by simp) ?_
   refine kx3 h2 h6 q7 ?_
   revert hF;refine aN (fun h12 q13 hF=> ?_) (fun h12 q13 hF=> ?_)
   ·cases hF
    repeat first|refine cg ?_|simp -dsimp[h2,h6,q7,h12,q13]
    all_goals(try first|omega|rfl)
   ·refine kx5 h2 h6 q7 h12 q13 ?_
    refine yH [] [(0,1),(0,1),(0,2),(0,1),(0,1),(0,2),(0,2),(0,2)] [1,1,1,2,2,1,1,1] follows (by kernel_rfl) (by kernel_rfl) (by kernel_rfl) ?_
    refine kx5 h2 h6 q7 h12 q13 ?_
    apply oB hF;intro v14 e15 hF
    refine((C.f76 B hB1 hB2 w v14 e15)).pgoW (by first|simp[h2,h6,q7,h12,q13];done|simp_all) (by simp) ?_
    refine kx5 h2 h6 q7 h12 q13 ?_
    apply oB hF;intro v16 e17 hF
    refine(((CC.f85 B hB1 hB2 w v14).1 t p v16 e17)).pgoW (by first|simp[h2,h6,q7,h12,q13];done|simp_all) (by simp) ?_
    refine kx5 h2 h6 q7 h12 q13 ?_
    apply oB hF;intro v18 e19 hF
    refine((C.f91 B hB1 hB2 w t v16 v18 e19)).goW (by first|simp[h2,h6,q7,h12,q13];done|simp_all) (by simp) ?_
    refine kx5 h2 h6 q7 h12 q13 ?_
    revert hF;refine aN (fun h20 q21 hF=> ?_) (fun h20 q21 hF=> ?_)
    ·cases hF
     repeat first|refine cg ?_|simp -dsimp[h2,h6,q7,h12,q13,h20,q21]
     all_goals(try first|omega|rfl)
    ·cases hF
     repeat first|refine cg ?_|simp -dsimp[h2,h6,q7,h12,q13,h20,q21]
     all_goals(try first|omega|rfl)
  ·cases hF
   repeat first|refine cg ?_|simp -dsimp[h2,h6,q7]
   all_goals(try first|omega|rfl)
 ·cases hF
  repeat first|refine cg ?_|simp -dsimp[h2,q3]
  all_goals(try first|omega|rfl)
theorem CC.laws_toTypeS__f_l1 (a:List Ty):(∀(out:List Ty) (i:Nat) (o:List Ty),yB a out i=some o->∀(c:Code),Zc [1,1,0,1,0,0] (ZJ Tryz.f130)=some c->∀(Q:Exit->ASt->Prop),(Q (.exit 0) ⟨[(3,.own 1 (zA (α:=Ty) o))],[.pack [] [],.elems 2 (zB zK o)]⟩)->ALoopU zQ B 0 23 (hold c .mk) ⟨[(0,am zK a),(3,.own 1 (zA (α:=Ty) out)),(4,li (i:Int))],[.pack [] [],.elems 2 (zB zK out)]⟩ (hold Q .mk)):=by
 refine F.f13.partial_correctness a
  _
  ?_
 ·intro _f_laws_toTypeS__f_l1 ih_laws_toTypeS__f_l1 out i o hF
  refine ZP rfl fun Q hq hk hs=> ?_
  have b0:=hk 0
  simp -dsimp at b0
  have d1:=hs 1 _ rfl
  simp -dsimp[yC]at d1
  clear hk hs
  refine eN ?_
  revert hF;refine kS ?_ ?_<;>intro h2 q3 hF
  ·have z4:((i:Int)<(a.length:Int)):=auz
   apply oB hF;intro x e5 hF
   have le5:=ZA e5
   refine Zb h2 z4 e5 ?_
   apply oB hF;intro v e6 hF
   refine((C.f12 B hB1 hB2 x v e6)).goI ?_
   apply oB hF;intro x7 e8 hF
   have le8:=ZA e8
   have w9:i64.wrap ((i:Int)+1)=(i:Int)+1:=ZB (by omega) (by omega)
   refine ZNG e8 w9 ?_
   refine zE ((ih_laws_toTypeS__f_l1 (out.set i v) (i+1) o hF) _ rfl _ hq)
  ·have z4:¬((i:Int)<(a.length:Int)):=auz
   cases hF
   refine kx3 h2 q3 z4 ?_
   refine zF hq
theorem C.laws_toTypeS__f (a:List Ty)(r:List Ty)(hF:yA a=some r):FCall zQ B 130 [am zK a] (am zK r):=by
 unfold yA at hF
 refine FCall.enterG func130 (by kernel_rfl) rfl ntmps130 (by simp) (yL .nil) ?_
 apply oC hF;intro c1 hF
 refine kB hF fun o' ho10 hF=> ?_
 refine zI (((CC.laws_toTypeS__f_l1 B hB1 hB2 a) (zC a.length Ty.z) 0 o' ho10) _ rfl _ ?_)
 cases hF
 refine kx0 ?_
 exact⟨_,by decide,(.cell (CD.ownE 1 _ 2 rfl (Ty.lits_c _) (by simp) .nil) .nil:CT _ _ _ _)⟩
theorem C.laws_toCtor__f (a:Ctor)(r:Ctor)(hF:zZ a=some r):FCall zQ B 99 [.agg [.lit (.string a.name),am zK a.args,li a.index]] (.agg [.lit (.string r.name),am zK r.args,li r.index]):=by
 unfold zZ at hF
 refine FCall.enterG func99 (by kernel_rfl) rfl ntmps99 (by simp) (yL .nil) ?_
 refine kB hF fun v e1 hF=> ?_
 refine((C.laws_toTypeS__f B hB1 hB2 a.args v e1)).go1 (by simp -dsimp) (by simp) (fun h o_h=> ?_)
 cases hF
 refine kx1 o_h ?_
 exact⟨_,by decide,(.agg (.lit _ (.pk 4 rfl (.lit _ .nil))) .nil:CT _ _ _ _)⟩
theorem CC.laws_toCtorS__f_l1 (a:List Ctor):(∀(out:List Ctor) (i:Nat) (o:List Ctor),zY a out i=some o->∀(R:List (List AV)),∀(U:List Value),RW 3 (zA (α:=Ctor) out) R U->∀(c:Code),Zc [1,1,0,1,0,0] (ZJ Tryz.f64)=some c->∀(Q:Exit->ASt->Prop),(∀(Rq:List (List AV)) (Uq:List Value),RW 3 (zA (α:=Ctor) o) Rq Uq->Q (.exit 0) ⟨[(3,.own 1 (zA (α:=Ctor) o))],[.pack [] [],.elems 3 Rq,.pack (List.flatten (zB zL o)) Uq]⟩)->ALoopU zQ B 0 23 (hold c .mk) ⟨[(0,am zL a),(3,.own 1 (zA (α:=Ctor) out)),(4,li (i:Int))],[.pack [] [],.elems 3 R,.pack (List.flatten (zB zL out)) U]⟩ (hold Q .mk)):=by
 refine F.f16.partial_correctness a
  _
  ?_
 ·intro _f_laws_toCtorS__f_l1 ih_laws_toCtorS__f_l1 out i o hF
  intro R U H2 c hc Q hq
  obtain rfl:c=_:=ZAK hc rfl
  refine yJ fun hk hs=> ?_
  have b0:=hk 0
  simp -dsimp at b0
  have d1:=hs 1 _ rfl
  simp -dsimp[yC]at d1
  clear hk hs
  refine eN ?_
  repeat first|refine cg ?_|simp -dsimp[RW.len H2,RW.closed H2]
  revert hF;refine aS ?_ ?_<;>intro h4 q5 hF
  ·have z6:((i:Int)<(a.length:Int)):=auz
   apply oB hF;intro x e7 hF
   have le7:=ZA e7
   repeat first|refine cg ?_|simp -dsimp[RW.len H2,RW.closed H2,h4,z6,↓e7]
   apply oB hF;intro v e8 hF
   refine((C.laws_toCtor__f B hB1 hB2 x v e8)).go1 (by simp -dsimp[RW.len H2,RW.closed H2,h4,z6,↓e7]) (by simp) (fun h o_h=> ?_)
   apply oB hF;intro x9 e10 hF
   have le10:=ZA e10
   obtain⟨row11,hrow11,lrow11⟩:=RW.row H2 le10
   have w12:i64.wrap ((i:Int)+1)=(i:Int)+1:=ZB (by omega) (by omega)
   repeat first|refine cg ?_|simp -dsimp[RW.len H2,RW.closed H2,h4,z6,↓e7,o_h,↓e10,hrow11,lrow11,w12]
   refine aG ⟨[(0,.arr (zB zL a)),(3,.own 1 (zA (α:=Ctor) (out.set i v))),(4,.lit (.int .i64 ((i+1):Int)))],[.pack [] [],.elems 3 (R.set i [.lit (.string v.name),.lit h,.lit (.int .i64 v.index)]),.pack (List.flatten (zB zL (out.set i v))) (ZJ8 3 i U [.string v.name,h,.int .i64 v.index])]⟩ (by refine yK (yN (c:=zL) (y:=v) 2 [3] (by exact rfl) e10 (by simp) H2 (by simp) (.lit (.string v.name) (.pk 3 (by exact rfl) (.lit (.int .i64 v.index) .nil))) (by simp) (by decide)) ?_;exact(gT (by simp) (by simp -dsimp[RW.len H2,RW.closed H2,h4,z6,↓e7,o_h,↓e10,hrow11,lrow11,w12]))) ?_
   exact(ih_laws_toCtorS__f_l1 (out.set i v) (i+1) o hF) (R.set i [.lit (.string v.name),.lit h,.lit (.int .i64 v.index)]) (ZJ8 3 i U [.string v.name,h,.int .i64 v.index]) ((RW.set H2 le10 [.string v.name,h,.int .i64 v.index] rfl).cong (by simp) (by simp) rfl) _ rfl _ hq
  ·have z6:¬((i:Int)<(a.length:Int)):=auz
   cases hF
   repeat first|refine cg ?_|simp -dsimp[RW.len H2,RW.closed H2,h4,q5,z6]
   refine lG ⟨[(3,.own 1 (zA (α:=Ctor) out))],[.pack [] [],.elems 3 R,.pack (List.flatten (zB zL out)) U]⟩ (gT (by simp) (by simp -dsimp[RW.len H2,RW.closed H2,h4,q5,z6])) ?_
   exact hq R U H2
theorem C.laws_toCtorS__f (a:List Ctor)(r:List Ctor)(hF:zX a=some r):FCall zQ B 64 [am zL a] (am zL r):=by
 unfold zX at hF
 refine FCall.enterG func64 (by kernel_rfl) rfl ntmps64 (by simp) (yL .nil) ?_
 apply oC hF;intro c1 hF
 refine kB hF fun o' ho13 hF=> ?_
 refine zJ ⟨[(0,.arr (zB zL a)),(3,.own 1 (zA (α:=Ctor) (zC a.length zM))),(4,.lit (.int .i64 0))],[.pack [] [],.elems 3 (zC a.length [.lit (.string zD),.lit (.slice none 0 0),.lit (.int .i64 0)]),.pack (List.flatten (zB zL (zC a.length zM))) (List.flatten (zC a.length [.string zD,.slice none 0 0,.int .i64 0]))]⟩ (by refine yK (yL (ZC.rep (.lit (.string zD) (.emp none (.lit (.int .i64 0) .nil))) a.length)) ?_;exact(gT (by simp) (by simp -dsimp))) ?_
 refine((CC.laws_toCtorS__f_l1 B hB1 hB2 a) (zC a.length zM) 0 o' ho13) (zC a.length [.lit (.string zD),.lit (.slice none 0 0),.lit (.int .i64 0)]) (List.flatten (zC a.length [.string zD,.slice none 0 0,.int .i64 0])) ((RW.rep a.length [.string zD,.slice none 0 0,.int .i64 0]).cong (by simp) (by simp) rfl) _ rfl _ ?_
 intro Rq Uq Hq3
 cases hF
 repeat first|refine cg ?_|simp -dsimp[RW.len Hq3,RW.closed Hq3]
 exact⟨_,by decide,(.cell (.ownP 1 _ 3 rfl (by simp) (.blk 2 rfl .nil) (by simp[Hq3.2.2]) (by simp[Hq3.1]) (by simp) (by simp) .nil) .nil:CT _ _ _ _)⟩
theorem C.laws_toData__f (a:zN)(r:zN)(hF:zW a=some r):FCall zQ B 32 [.agg [.lit (.string a.name),am zL a.ctors]] (.agg [.lit (.string r.name),am zL r.ctors]):=by
 unfold zW at hF
 refine FCall.enterG func32 (by kernel_rfl) rfl ntmps32 (by simp) (yL .nil) ?_
 refine kB hF fun v e1 hF=> ?_
 refine((C.laws_toCtorS__f B hB1 hB2 a.ctors v e1)).go1 (by simp -dsimp) (by simp) (fun h o_h=> ?_)
 cases hF
 refine kx1 o_h ?_
 exact⟨_,by decide,(.agg (.lit _ (.pk 4 rfl .nil)) .nil:CT _ _ _ _)⟩
theorem CC.laws_toDataS__f_l1 (a:List zN):(∀(out:List zN) (i:Nat) (o:List zN),zV a out i=some o->∀(R:List (List AV)),∀(U:List Value),RW 2 (zA (α:=zN) out) R U->∀(c:Code),Zc [1,1,0,1,0,0] (ZJ Tryz.f8)=some c->∀(Q:Exit->ASt->Prop),(∀(Rq:List (List AV)) (Uq:List Value),RW 2 (zA (α:=zN) o) Rq Uq->Q (.exit 0) ⟨[(3,.own 1 (zA (α:=zN) o))],[.pack [] [],.elems 2 Rq,.pack (List.flatten (zB zO o)) Uq]⟩)->ALoopU zQ B 0 23 (hold c .mk) ⟨[(0,am zO a),(3,.own 1 (zA (α:=zN) out)),(4,li (i:Int))],[.pack [] [],.elems 2 R,.pack (List.flatten (zB zO out)) U]⟩ (hold Q .mk)):=by
 refine F.f19.partial_correctness a
  _
  ?_
 ·intro _f_laws_toDataS__f_l1 ih_laws_toDataS__f_l1 out i o hF
  intro R U H2 c hc Q hq
  obtain rfl:c=_:=ZAK hc rfl
  refine yJ fun hk hs=> ?_
  have b0:=hk 0
  simp -dsimp at b0
  have d1:=hs 1 _ rfl
  simp -dsimp[yC]at d1
  clear hk hs
  refine eN ?_
  repeat first|refine cg ?_|simp -dsimp[RW.len H2,RW.closed H2]
  revert hF;refine aS ?_ ?_<;>intro h4 q5 hF
  ·have z6:((i:Int)<(a.length:Int)):=auz
   apply oB hF;intro x e7 hF
   have le7:=ZA e7
   repeat first|refine cg ?_|simp -dsimp[RW.len H2,RW.closed H2,h4,z6,↓e7]
   apply oB hF;intro v e8 hF
   refine((C.laws_toData__f B hB1 hB2 x v e8)).go1 (by simp -dsimp[RW.len H2,RW.closed H2,h4,z6,↓e7]) (by simp) (fun h o_h=> ?_)
   apply oB hF;intro x9 e10 hF
   have le10:=ZA e10
   obtain⟨row11,hrow11,lrow11⟩:=RW.row H2 le10
   have w12:i64.wrap ((i:Int)+1)=(i:Int)+1:=ZB (by omega) (by omega)
   repeat first|refine cg ?_|simp -dsimp[RW.len H2,RW.closed H2,h4,z6,↓e7,o_h,↓e10,hrow11,lrow11,w12]
   refine aG ⟨[(0,.arr (zB zO a)),(3,.own 1 (zA (α:=zN) (out.set i v))),(4,.lit (.int .i64 ((i+1):Int)))],[.pack [] [],.elems 2 (R.set i [.lit (.string v.name),.lit h]),.pack (List.flatten (zB zO (out.set i v))) (ZJ8 2 i U [.string v.name,h])]⟩ (by refine yK (yN (c:=zO) (y:=v) 2 [3] (by exact rfl) e10 (by simp) H2 (by simp) (.lit (.string v.name) (.pk 3 (by exact rfl) .nil)) (by simp) (by decide)) ?_;exact(gT (by simp) (by simp -dsimp[RW.len H2,RW.closed H2,h4,z6,↓e7,o_h,↓e10,hrow11,lrow11,w12]))) ?_
   exact(ih_laws_toDataS__f_l1 (out.set i v) (i+1) o hF) (R.set i [.lit (.string v.name),.lit h]) (ZJ8 2 i U [.string v.name,h]) ((RW.set H2 le10 [.string v.name,h] rfl).cong (by simp) (by simp) rfl) _ rfl _ hq
  ·have z6:¬((i:Int)<(a.length:Int)):=auz
   cases hF
   repeat first|refine cg ?_|simp -dsimp[RW.len H2,RW.closed H2,h4,q5,z6]
   refine lG ⟨[(3,.own 1 (zA (α:=zN) out))],[.pack [] [],.elems 2 R,.pack (List.flatten (zB zO out)) U]⟩ (gT (by simp) (by simp -dsimp[RW.len H2,RW.closed H2,h4,q5,z6])) ?_
   exact hq R U H2
theorem C.laws_toDataS__f (a:List zN)(r:List zN)(hF:zU a=some r):FCall zQ B 8 [am zO a] (am zO r):=by
 unfold zU at hF
 refine FCall.enterG func8 (by kernel_rfl) rfl ntmps8 (by simp) (yL .nil) ?_
 apply oC hF;intro c1 hF
 refine kB hF fun o' ho13 hF=> ?_
 refine zJ ⟨[(0,.arr (zB zO a)),(3,.own 1 (zA (α:=zN) (zC a.length zP))),(4,.lit (.int .i64 0))],[.pack [] [],.elems 2 (zC a.length [.lit (.string zD),.lit (.slice none 0 0)]),.pack (List.flatten (zB zO (zC a.length zP))) (List.flatten (zC a.length [.string zD,.slice none 0 0]))]⟩ (by refine yK (yL (ZC.rep (.lit (.string zD) (.emp none .nil)) a.length)) ?_;exact(gT (by simp) (by simp -dsimp))) ?_
 refine((CC.laws_toDataS__f_l1 B hB1 hB2 a) (zC a.length zP) 0 o' ho13) (zC a.length [.lit (.string zD),.lit (.slice none 0 0)]) (List.flatten (zC a.length [.string zD,.slice none 0 0])) ((RW.rep a.length [.string zD,.slice none 0 0]).cong (by simp) (by simp) rfl) _ rfl _ ?_
 intro Rq Uq Hq3
 cases hF
 repeat first|refine cg ?_|simp -dsimp[RW.len Hq3,RW.closed Hq3]
 exact⟨_,by decide,(.cell (.ownP 1 _ 2 rfl (by simp) (.blk 2 rfl .nil) (by simp[Hq3.2.2]) (by simp[Hq3.1]) (by simp) (by simp) .nil) .nil:CT _ _ _ _)⟩
theorem CC.laws_toPattern__f  :(∀(a:Pattern) (r:Pattern),zT a=some r->FCall zQ B 10 [.agg [li a.op,li a.ctor,li a.n,li a.m,li a.var,am zR a.kids]] (.agg [li r.op,li r.ctor,li r.n,li r.m,li r.var,am zR r.kids]))/\
  (∀(a:List Pattern) (r:List Pattern),F.f22 a=some r->FCall zQ B 33 [am zR a] (am zR r))/\
  (∀(a:List Pattern) (out:List Pattern) (i:Nat) (o:List Pattern),F.f23 a out i=some o->∀(R:List (List AV)),∀(U:List Value),RW 6 (zA (α:=Pattern) out) R U->∀(c:Code),Zc [1,1,0,1,0,0] (ZJ Tryz.f33)=some c->∀(Q:Exit->ASt->Prop),(∀(Rq:List (List AV)) (Uq:List Value),RW 6 (zA (α:=Pattern) o) Rq Uq->Q (.exit 0) ⟨[(3,.own 1 (zA (α:=Pattern) o))],[.pack [] [],.elems 6 Rq,.pack (List.flatten (zB zR o)) Uq]⟩)->ALoopU zQ B 0 23 (hold c .mk) ⟨[(0,am zR a),(3,.own 1 (zA (α:=Pattern) out)),(4,li (i:Int))],[.pack [] [],.elems 6 R,.pack (List.flatten (zB zR out)) U]⟩ (hold Q .mk)):=by
 refine F.f21.mutual_partial_correctness 
  _ _ _
  ?_ ?_ ?_
 ·intro _f_laws_toPatternS__f ih_laws_toPatternS__f a r hF
  refine FCall.enterG func10 (by kernel_rfl) rfl ntmps10 (by simp) (yL .nil) ?_
  refine kB hF fun v e1 hF=> ?_
  refine((ih_laws_toPatternS__f a.kids v e1)).go1 (by simp -dsimp) (by simp) (fun h o_h=> ?_)
  cases hF
  refine kx1 o_h ?_
  exact⟨_,by decide,(.agg (.lit _ (.lit _ (.lit _ (.lit _ (.lit _ (.pk 4 rfl .nil)))))) .nil:CT _ _ _ _)⟩
 ·intro _f_laws_toPatternS__f_l1 ih_laws_toPatternS__f_l1 a r hF
  refine FCall.enterG func33 (by kernel_rfl) rfl ntmps33 (by simp) (yL .nil) ?_
  apply oC hF;intro c1 hF
  refine kB hF fun o' ho13 hF=> ?_
  refine zJ ⟨[(0,.arr (zB zR a)),(3,.own 1 (zA (α:=Pattern) (zC a.length zS))),(4,.lit (.int .i64 0))],[.pack [] [],.elems 6 (zC a.length [.lit (.int .i64 0),.lit (.int .i64 0),.lit (.int .i64 0),.lit (.int .i64 0),.lit (.int .i64 0),.lit (.slice none 0 0)]),.pack (List.flatten (zB zR (zC a.length zS))) (List.flatten (zC a.length [.int .i64 0,.int .i64 0,.int .i64 0,.int .i64 0,.int .i64 0,.slice none 0 0]))]⟩ (by refine yK (yL (ZC.rep (.lit (.int .i64 0) (.lit (.int .i64 0) (.lit (.int .i64 0) (.lit (.int .i64 0) (.lit (.int .i64 0) (.emp none .nil)))))) a.length)) ?_;exact(gT (by simp) (by simp -dsimp))) ?_
  refine(ih_laws_toPatternS__f_l1 a (zC a.length zS) 0 o' ho13) (zC a.length [.lit (.int .i64 0),.lit (.int .i64 0),.lit (.int .i64 0),.lit (.int .i64 0),.lit (.int .i64 0),.lit (.slice none 0 0)]) (List.flatten (zC a.length [.int .i64 0,.int .i64 0,.int .i64 0,.int .i64 0,.int .i64 0,.slice none 0 0])) ((RW.rep a.length [.int .i64 0,.int .i64 0,.int .i64 0,.int .i64 0,.int .i64 0,.slice none 0 0]).cong (by simp) (by simp) rfl) _ rfl _ ?_
  intro Rq Uq Hq3
  cases hF
  repeat first|refine cg ?_|simp -dsimp[RW.len Hq3,RW.closed Hq3]
  exact⟨_,by decide,(.cell (.ownP 1 _ 6 rfl (by simp) (.blk 2 rfl .nil) (by simp[Hq3.2.2]) (by simp[Hq3.1]) (by simp) (by simp) .nil) .nil:CT _ _ _ _)⟩
 ·intro _f_laws_toPattern__f _f_laws_toPatternS__f_l1 ih_laws_toPattern__f ih_laws_toPatternS__f_l1 a out i o hF
  intro R U H2 c hc Q hq
  obtain rfl:c=_:=ZAK hc rfl
  refine yJ fun hk hs=> ?_
  have b0:=hk 0
  simp -dsimp at b0
  have d1:=hs 1 _ rfl
  simp -dsimp[yC]at d1
  clear hk hs
  refine eN ?_
  repeat first|refine cg ?_|simp -dsimp[RW.len H2,RW.closed H2]
  revert hF;refine aS ?_ ?_<;>intro h4 q5 hF
  ·have z6:((i:Int)<(a.length:Int)):=auz
   apply oB hF;intro x e7 hF
   have le7:=ZA e7
   repeat first|refine cg ?_|simp -dsimp[RW.len H2,RW.closed H2,h4,z6,↓e7]
   apply oB hF;intro v e8 hF
   refine((ih_laws_toPattern__f x v e8)).go1 (by simp -dsimp[RW.len H2,RW.closed H2,h4,z6,↓e7]) (by simp) (fun h o_h=> ?_)
   apply oB hF;intro x9 e10 hF
   have le10:=ZA e10
   obtain⟨row11,hrow11,lrow11⟩:=RW.row H2 le10
   have w12:i64.wrap ((i:Int)+1)=(i:Int)+1:=ZB (by omega) (by omega)
   repeat first|refine cg ?_|simp -dsimp[RW.len H2,RW.closed H2,h4,z6,↓e7,o_h,↓e10,hrow11,lrow11,w12]
   refine aG ⟨[(0,.arr (zB zR a)),(3,.own 1 (zA (α:=Pattern) (out.set i v))),(4,.lit (.int .i64 ((i+1):Int)))],[.pack [] [],.elems 6 (R.set i [.lit (.int .i64 v.op),.lit (.int .i64 v.ctor),.lit (.int .i64 v.n),.lit (.int .i64 v.m),.lit (.int .i64 v.var),.lit h]),.pack (List.flatten (zB zR (out.set i v))) (ZJ8 6 i U [.int .i64 v.op,.int .i64 v.ctor,.int .i64 v.n,.int .i64 v.m,.int .i64 v.var,h])]⟩ (by refine yK (yN (c:=zR) (y:=v) 2 [3] (by exact rfl) e10 (by simp) H2 (by simp) (.lit (.int .i64 v.op) (.lit (.int .i64 v.ctor) (.lit (.int .i64 v.n) (.lit (.int .i64 v.m) (.lit (.int .i64 v.var) (.pk 3 (by exact rfl) .nil)))))) (by simp) (by decide)) ?_;exact(gT (by simp) (by simp -dsimp[RW.len H2,RW.closed H2,h4,z6,↓e7,o_h,↓e10,hrow11,lrow11,w12]))) ?_
   exact(ih_laws_toPatternS__f_l1 a (out.set i v) (i+1) o hF) (R.set i [.lit (.int .i64 v.op),.lit (.int .i64 v.ctor),.lit (.int .i64 v.n),.lit (.int .i64 v.m),.lit (.int .i64 v.var),.lit h]) (ZJ8 6 i U [.int .i64 v.op,.int .i64 v.ctor,.int .i64 v.n,.int .i64 v.m,.int .i64 v.var,h]) ((RW.set H2 le10 [.int .i64 v.op,.int .i64 v.ctor,.int .i64 v.n,.int .i64 v.m,.int .i64 v.var,h] rfl).cong (by simp) (by simp) rfl) _ rfl _ hq
  ·have z6:¬((i:Int)<(a.length:Int)):=auz
   cases hF
   repeat first|refine cg ?_|simp -dsimp[RW.len H2,RW.closed H2,h4,q5,z6]
   refine lG ⟨[(3,.own 1 (zA (α:=Pattern) out))],[.pack [] [],.elems 6 R,.pack (List.flatten (zB zR out)) U]⟩ (gT (by simp) (by simp -dsimp[RW.len H2,RW.closed H2,h4,q5,z6])) ?_
   exact hq R U H2
theorem C.f93 (n:Int)(low:Int)(high:Int)(r:Bool)(hF:F.f93 n low high=some r):PureCall zQ B 104 [li n,li low,li high] (.lit (.bool r)):=by
 unfold F.f93 at hF
 refine zG func104 rfl ntmps104 ?_
 revert hF;refine kS ?_ ?_<;>intro h1 q2 hF
 ·cases hF
  exact kc1 h1
 ·cases hF
  exact kc1 q2
theorem CC.f94 (s:ByteArray):(∀(i:Nat) (o:Lo Bool Unit),F.f94 s i=some o->∀(c:Code),Zc [1,1,0,1,0,0] (ZJ Tryz.f151)=some c->∀(Q:Exit->ASt->Prop),o.post (fun r=>∀st,ZAR zQ Tryz.f151 (fun r' _=>r'.le (.lit (.bool r))) .ret st->Q .ret st) (fun s=>Q (.exit 0) ⟨[],[]⟩)->ALoopU zQ B 0 34 (hold c .mk) ⟨[(0,.lit (.string s)),(3,li (i:Int))],[]⟩ (hold Q .mk)):=by
 refine F.f94.partial_correctness s
  _
  ?_
 ·intro _f_f94 ih_f94 i o hF
  refine ZP rfl fun Q hq hk hs=> ?_
  clear hk hs
  refine eN ?_
  revert hF;refine kS ?_ ?_<;>intro h11 q12 hF
  ·have z13:((i:Int)<(s.size:Int)):=auz
   refine kx2 h11 z13 ?_
   revert hF;refine aN ?_ ?_<;>intro h14 q15 hF
   ·have z16:¬(((byteAt s i:Nat):Int)<97):=auz
    refine kx5 h11 z13 h14 q15 z16 ?_
    revert hF;refine aS ?_ ?_<;>intro h17 q18 hF
    ·have z19:(122<((byteAt s i:Nat):Int)):=auz
     cases hF
     refine kx7 h11 z13 h14 q15 z16 h17 z19 ?_
     refine lG _ (gR _) (hq _ ?_)
     exact kc7 h11 z13 h14 q15 z16 h17 z19
    ·have z19:¬(122<((byteAt s i:Nat):Int)):=auz
     apply oC hF;intro c20 hF
     have w21:i64.wrap ((i:Int)+1)=(i:Int)+1:=ZB (by omega) (by omega)
     refine kx9 h11 z13 h14 q15 z16 h17 q18 z19 w21 ?_
     refine zE ((ih_f94 (i+1) o hF) _ rfl _ hq)
   ·have z16:(((byteAt s i:Nat):Int)<97):=auz
    cases hF
    refine kx5 h11 z13 h14 q15 z16 ?_
    refine lG _ (gR _) (hq _ ?_)
    exact kc5 h11 z13 h14 q15 z16
  ·have z13:¬((i:Int)<(s.size:Int)):=auz
   cases hF
   refine kx3 h11 q12 z13 ?_
   refine zF hq
theorem C.f95 (s:ByteArray)(r:Bool)(hF:F.f95 s=some r):PureCall zQ B 151 [.lit (.string s)] (.lit (.bool r)):=by
 unfold F.f95 at hF
 refine zG func151 rfl ntmps151 ?_
 refine kB hF fun v e1 hF=> ?_
 refine((C.f93 B hB1 hB2 (s.size:Int) 1 5 v e1)).goI ?_
 revert hF;refine kS (fun h2 q3 hF=> ?_) (fun h2 q3 hF=> ?_)
 ·apply oC hF;intro c4 hF
  refine kx1 h2 ?_
  revert hF;refine aN ?_ ?_<;>intro h5 q6 hF
  ·have z7:¬(((byteAt s 0:Nat):Int)<65):=auz
   refine kx4 h2 h5 q6 z7 ?_
   revert hF;refine aS ?_ ?_<;>intro h8 q9 hF
   ·have z10:(90<((byteAt s 0:Nat):Int)):=auz
    cases hF
    exact kc6 h2 h5 q6 z7 h8 z10
   ·have z10:¬(90<((byteAt s 0:Nat):Int)):=auz
    refine kx7 h2 h5 q6 z7 h8 q9 z10 ?_
    apply oB hF;intro o' ho22 hF
    refine zI (((CC.f94 B hB1 hB2 s) 1 o' ho22) _ rfl _ ?_)
    rcases o' with r0|sx
    ·dsimp only at hF
     cases hF
     intro st h
     simpa using h
    ·dsimp only at hF
     cases hF
     exact kc0
  ·have z7:(((byteAt s 0:Nat):Int)<65):=auz
   cases hF
   exact kc4 h2 h5 q6 z7
 ·cases hF
  exact kc2 h2 q3
theorem C.f96 (w:List zN)(t:Ty)(r:Bool)(hF:F.f96 w t=some r):PureCall zQ B 154 [am zO w,.agg [li t.data,li t.index]] (.lit (.bool r)):=by
 unfold F.f96 at hF
 refine zG func154 rfl ntmps154 ?_
 revert hF;refine kN (fun h1 q2 hF=> ?_) (fun h1 q2 hF=> ?_)
 ·refine kx2 h1 q2 ?_
  apply oB hF;intro v e3 hF
  refine((C.f93 B hB1 hB2 t.data 0 (i64.wrap ((w.length:Int) -1)) v e3)).goI ?_
  refine kx2 h1 q2 ?_
  revert hF;refine aS (fun h4 q5 hF=> ?_) (fun h4 q5 hF=> ?_)
  ·refine kx3 h1 q2 h4 ?_
   apply oB hF;intro v6 e7 hF
   refine((C.f93 B hB1 hB2 t.index (-1) 3 v6 e7)).goI ?_
   cases hF
   exact kc3 h1 q2 h4
  ·cases hF
   exact kc4 h1 q2 h4 q5
 ·cases hF
  exact kc2 h1 q2
theorem C.f97 (t:Ty)(a1:List zN)(r:Bool)(hF:F.f97 t a1=some r):PureCall zQ B 153 [.agg [li t.data,li t.index],.rptr [am zO a1] 0] (.lit (.bool r)):=by
 unfold F.f97 at hF
 refine zG func153 rfl ntmps153 ?_
 refine kB hF fun v e1 hF=> ?_
 refine((C.f96 B hB1 hB2 a1 t v e1)).goI ?_
 cases hF
 exact kc0
theorem CC.f98 (s:List Ty)(k0:List zN):(∀(i:Nat) (o:Lo Int Unit),F.f98 s k0 i=some o->∀(c:Code),Zc [1,0,1,0,0] (ZJ Tryz.f169)=some c->∀(Q:Exit->ASt->Prop),o.post (fun r=>∀st,ZAR zQ Tryz.f169 (fun r' _=>r'.le (li r)) .ret st->Q .ret st) (fun s=>Q (.exit 0) ⟨[],[]⟩)->ALoopU zQ B 0 19 (hold c .mk) ⟨[(0,am zK s),(1,.fn (.func 153) [] [.rptr [am zO k0] 0]),(7,li (s.length:Int)),(8,li (i:Int))],[]⟩ (hold Q .mk)):=by
 refine F.f98.partial_correctness s k0
  _
  ?_
 ·intro _f_f98 ih_f98 i o hF
  refine ZP rfl fun Q hq hk hs=> ?_
  have b0:=hk 0
  simp -dsimp at b0
  clear hk hs
  refine eN ?_
  revert hF;refine kS ?_ ?_<;>intro h1 q2 hF
  ·have z3:((i:Int)<(s.length:Int)):=auz
   apply oB hF;intro x e4 hF
   have le4:=ZA e4
   refine Zb h1 z3 e4 ?_
   apply oB hF;intro v e5 hF
   refine((C.f97 B hB1 hB2 x k0 v e5)).goI ?_
   revert hF;refine kS (fun h6 q7 hF=> ?_) (fun h6 q7 hF=> ?_)
   ·cases hF
    refine kx1 h6 ?_
    refine lG _ (gR _) (hq _ ?_)
    exact kc0
   ·have w8:i64.wrap ((i:Int)+1)=(i:Int)+1:=ZB (by omega) (by omega)
    refine kx2 q7 w8 ?_
    refine zE ((ih_f98 (i+1) o hF) _ rfl _ hq)
  ·have z3:¬((i:Int)<(s.length:Int)):=auz
   cases hF
   refine kx3 h1 q2 z3 ?_
   refine zF hq
theorem C.f99 (s:List Ty)(k0:List zN)(r:Int)(hF:F.f99 s k0=some r):PureCall zQ B 169 [am zK s,.fn (.func 153) [] [.rptr [am zO k0] 0]] (li r):=by
 unfold F.f99 at hF
 refine zG func169 rfl ntmps169 ?_
 refine kB hF fun o' ho9 hF=> ?_
 refine zI (((CC.f98 B hB1 hB2 s k0) 0 o' ho9) _ rfl _ ?_)
 rcases o' with r0|sx
 ·dsimp only at hF
  cases hF
  intro st h
  simpa using h
 ·dsimp only at hF
  cases hF
  exact kc0
theorem C.f100 (s:List Ty)(k0:List zN)(r:Bool)(hF:F.f100 s k0=some r):PureCall zQ B 152 [am zK s,.fn (.func 153) [] [.rptr [am zO k0] 0]] (.lit (.bool r)):=by
 unfold F.f100 at hF
 refine zG func152 rfl ntmps152 ?_
 refine kB hF fun v e1 hF=> ?_
 refine((C.f99 B hB1 hB2 s k0 v e1)).goI ?_
 cases hF
 exact kc0
theorem C.f101 (w:List zN)(c':Ctor)(r:Bool)(hF:F.f101 w c'=some r):PureCall zQ B 120 [am zO w,.agg [.lit (.string c'.name),am zK c'.args,li c'.index]] (.lit (.bool r)):=by
 unfold F.f101 at hF
 refine zG func120 rfl ntmps120 ?_
 refine kB hF fun v e1 hF=> ?_
 refine((C.f95 B hB1 hB2 c'.name v e1)).goI ?_
 revert hF;refine kS (fun h2 q3 hF=> ?_) (fun h2 q3 hF=> ?_)
 ·refine kx1 h2 ?_
  revert hF;refine aS ?_ ?_<;>intro h4 q5 hF
  ·have z6:((c'.args.length:Int)<=3):=auz
   refine kx3 h2 h4 z6 ?_
   apply oB hF;intro v7 e8 hF
   refine((C.f93 B hB1 hB2 c'.index 0 3 v7 e8)).goI ?_
   refine kx3 h2 h4 z6 ?_
   revert hF;refine aS (fun h9 q10 hF=> ?_) (fun h9 q10 hF=> ?_)
   ·refine kx4 h2 h4 z6 h9 ?_
    apply oB hF;intro v11 e12 hF
    refine((C.f100 B hB1 hB2 c'.args w v11 e12)).lend (by simp -dsimp[h2,h4,z6,h9]) (by simp -dsimp) ?_
    cases hF
    exact kc4 h2 h4 z6 h9
   ·cases hF
    exact kc5 h2 h4 z6 h9 q10
  ·have z6:¬((c'.args.length:Int)<=3):=auz
   cases hF
   exact kc4 h2 h4 q5 z6
 ·cases hF
  exact kc2 h2 q3
theorem CC.f102 (w:List zN)(met4:List ByteArray)(i:Nat)(x:zN):(∀(met26:List ByteArray) (i27:Nat) (o:Lo Bool (List ByteArray)),F.f102 w met4 i x met26 i27=some o->∀(b1 b2:Nat),¬b1=b2->∀(c:Code),Zc [1,1,1,1,0,1,0,0,1,1,0,0,1,1,1,1,0,0] (ZJ Tryz.f86)=some c->∀(Q:Exit->ASt->Ms->Prop),o.post (fun r=>∀st,ZAR zQ Tryz.f86 (fun r' _=>r'=(.lit (.bool r))) .ret st->∀ms,Q .ret st ms) (fun s=>Q (.exit 2) ⟨[(0,am zO w),(3,.lit (.map (some b1))),(4,.lit (.map (some b2))),(14,am zO w),(15,li (w.length:Int)),(16,li (i:Int))],[]⟩ [(b1,s),(b2,ZCP met4 x.name)])->MLoop zQ B 79 (hold c .mk) ⟨[(0,am zO w),(3,.lit (.map (some b1))),(4,.lit (.map (some b2))),(14,am zO w),(15,li (w.length:Int)),(16,li (i:Int)),(58,am zL x.ctors),(59,li (x.ctors.length:Int)),(60,li (i27:Int))],[]⟩ [(b1,met26),(b2,ZCP met4 x.name)] (hold Q .mk)):=by
 refine F.f102.partial_correctness w met4 i x
  _
  ?_
 ·intro _f_f102 ih_f102 met26 i27 o hF
  intro b1 b2 hb2 c hc Q hq
  obtain rfl:c=_:=ZAK hc rfl
  refine MLoop.know fun hk hs=> ?_
  have b0:=hk 0
  simp -dsimp at b0
  have b14:=hk 14
  simp -dsimp at b14
  have b58:=hk 58
  simp -dsimp at b58
  clear hk hs
  refine MLoop.enter ?_
  refine kx1 hb2 ?_
  revert hF;refine aS ?_ ?_<;>intro h28 q29 hF
  ·have z30:((i27:Int)<(x.ctors.length:Int)):=auz
   apply oB hF;intro x31 e32 hF
   have le32:=ZA e32
   refine Zb h28 z30 e32 ?_
   apply oB hF;intro v33 e34 hF
   refine((C.f101 B hB1 hB2 w x31 v33 e34)).goI ?_
   revert hF;refine kS (fun h35 q36 hF=> ?_) (fun h35 q36 hF=> ?_)
   ·refine kx1 h35 ?_
    revert hF;refine aS (fun h37 q38 hF=> ?_) (fun h37 q38 hF=> ?_)
    ·cases hF
     refine kx1 h37 ?_
     refine LeaveM.go _ (gR _) (hq _ ?_ _)
     exact kc0
    ·have w39:i64.wrap ((i27:Int)+1)=(i27:Int)+1:=ZB (by omega) (by omega)
     refine kx2 q38 w39 ?_
     refine AgainM.go ⟨[(0,.arr (zB zO w)),(3,.lit (.map (some b1))),(4,.lit (.map (some b2))),(14,.arr (zB zO w)),(15,.lit (.int .i64 (w.length:Int))),(16,.lit (.int .i64 (i:Int))),(58,.arr (zB zL x.ctors)),(59,.lit (.int .i64 (x.ctors.length:Int))),(60,.lit (.int .i64 ((i27+1):Int)))],[]⟩ (gT (by simp) (by simp_all)) ?_
     exact(ih_f102 (ZCP met26 x31.name) (i27+1) o hF) b1 b2 hb2 _ rfl _ hq
   ·cases hF
    refine kx1 q36 ?_
    refine LeaveM.go _ (gR _) (hq _ ?_ _)
    exact kc0
  ·have z30:¬((i27:Int)<(x.ctors.length:Int)):=auz
   cases hF
   refine kx3 h28 q29 z30 ?_
   refine LeaveM.go ⟨[(0,.arr (zB zO w)),(3,.lit (.map (some b1))),(4,.lit (.map (some b2))),(14,.arr (zB zO w)),(15,.lit (.int .i64 (w.length:Int))),(16,.lit (.int .i64 (i:Int)))],[]⟩ (gT (by simp) (by simp_all)) ?_
   exact hq
theorem CC.f103 (w:List zN):(∀(met:List ByteArray) (met4:List ByteArray) (i:Nat) (o:Lo Bool ((List ByteArray)×(List ByteArray))),F.f103 w met met4 i=some o->∀(b1 b2:Nat),¬b1=b2->∀(c:Code),Zc [1,1,1,1,0,1,0,0] (ZJ Tryz.f86)=some c->∀(Q:Exit->ASt->Ms->Prop),o.post (fun r=>∀st,ZAR zQ Tryz.f86 (fun r' _=>r'=(.lit (.bool r))) .ret st->∀ms,Q .ret st ms) (fun s=>Q (.exit 0) ⟨[],[]⟩ [(b1,s.1),(b2,s.2)])->MLoop zQ B 79 (hold c .mk) ⟨[(0,am zO w),(3,.lit (.map (some b1))),(4,.lit (.map (some b2))),(14,am zO w),(15,li (w.length:Int)),(16,li (i:Int))],[]⟩ [(b1,met),(b2,met4)] (hold Q .mk)):=by
 refine F.f103.partial_correctness w
  _
  ?_
 ·intro _f_f103 ih_f103 met met4 i o hF
  intro b1 b2 hb2 c hc Q hq
  obtain rfl:c=_:=ZAK hc rfl
  refine MLoop.know fun hk hs=> ?_
  have b0:=hk 0
  simp -dsimp at b0
  have b14:=hk 14
  simp -dsimp at b14
  clear hk hs
  refine MLoop.enter ?_
  refine kx1 hb2 ?_
  revert hF;refine aS ?_ ?_<;>intro h5 q6 hF
  ·have z7:((i:Int)<(w.length:Int)):=auz
   apply oB hF;intro x e8 hF
   have le8:=ZA e8
   refine Zb h5 z7 e8 ?_
   revert hF;refine aS ?_ ?_<;>intro h9 q10 hF
   ·have z11:((x.name.size:Int)=1):=auz
    apply oC hF;intro c12 hF
    refine kx2 h9 z11 ?_
    revert hF;refine aN ?_ ?_<;>intro h13 q14 hF
    ·have z15:¬(((byteAt x.name 0:Nat):Int)<65):=auz
     refine kx3 h13 q14 z15 ?_
     revert hF;refine aN ?_ ?_<;>intro h16 q17 hF
     ·have z18:¬(90<((byteAt x.name 0:Nat):Int)):=auz
      refine kx3 h16 q17 z18 ?_
      revert hF;refine aN ?_ ?_<;>intro h19 q20 hF
      ·repeat first|refine cg ?_|simp -dsimp[hb2,h5,z7,↓e8,h9,z11,h13,q14,z15,h16,q17,z18,h19,q20]
       revert hF;refine aN (fun h21 q22 hF=> ?_) (fun h21 q22 hF=> ?_)
       ·refine kx2 h21 q22 ?_
        apply oB hF;intro v e23 hF
        refine((C.f93 B hB1 hB2 (x.ctors.length:Int) 1 4 v e23)).goI ?_
        repeat first|refine cg ?_|simp -dsimp[hb2,h5,z7,↓e8,h9,z11,h13,q14,z15,h16,q17,z18,h19,q20,h21,q22]
        revert hF;refine aN (fun h24 q25 hF=> ?_) (fun h24 q25 hF=> ?_)
        ·cases hF
         refine kx2 h24 q25 ?_
         refine LeaveM.go _ (gR _) (hq _ ?_ _)
         exact kc0
        ·repeat first|refine cg ?_|simp -dsimp[hb2,h5,z7,↓e8,h9,z11,h13,q14,z15,h16,q17,z18,h19,q20,h21,q22,h24,q25]
         apply oB hF;intro o' ho40 hF
         refine MLoop.goU ⟨[(0,.arr (zB zO w)),(3,.lit (.map (some b1))),(4,.lit (.map (some b2))),(14,.arr (zB zO w)),(15,.lit (.int .i64 (w.length:Int))),(16,.lit (.int .i64 (i:Int))),(58,.arr (zB zL x.ctors)),(59,.lit (.int .i64 (x.ctors.length:Int))),(60,.lit (.int .i64 0))],[]⟩ (gT (by simp) (by simp -dsimp[hb2,h5,z7,↓e8,h9,z11,h13,q14,z15,h16,q17,z18,h19,q20,h21,q22,h24,q25])) ?_
         refine((CC.f102 B hB1 hB2 w met4 i x) met 0 o' ho40) b1 b2 hb2 _ rfl _ ?_
         rcases o' with r0|sx
         ·dsimp only at hF
          cases hF
          intro st h ms
          simp -dsimp
          refine LeaveM.go st (gR _) (hq st h ms)
         ·dsimp only at hF
          apply oC hF;intro c41 hF
          have w42:i64.wrap ((i:Int)+1)=(i:Int)+1:=ZB (by omega) (by omega)
          refine kx1 w42 ?_
          refine AgainM.go ⟨[(0,.arr (zB zO w)),(3,.lit (.map (some b1))),(4,.lit (.map (some b2))),(14,.arr (zB zO w)),(15,.lit (.int .i64 (w.length:Int))),(16,.lit (.int .i64 ((i+1):Int)))],[]⟩ (gT (by simp) (by simp -dsimp[w42])) ?_
          exact(ih_f103 sx (ZCP met4 x.name) (i+1) o hF) b1 b2 hb2 _ rfl _ hq
       ·cases hF
        repeat first|refine cg ?_|simp -dsimp[hb2,h5,z7,↓e8,h9,z11,h13,q14,z15,h16,q17,z18,h19,q20,h21,q22]
        refine LeaveM.go _ (gR _) (hq _ ?_ _)
        exact kc0
      ·cases hF
       repeat first|refine cg ?_|simp -dsimp[hb2,h5,z7,↓e8,h9,z11,h13,q14,z15,h16,q17,z18,h19,q20]
       refine LeaveM.go _ (gR _) (hq _ ?_ _)
       exact kc0
     ·have z18:(90<((byteAt x.name 0:Nat):Int)):=auz
      cases hF
      repeat first|refine cg ?_|simp -dsimp[hb2,h5,z7,↓e8,h9,z11,h13,q14,z15,h16,q17,z18]
      refine LeaveM.go _ (gR _) (hq _ ?_ _)
      exact kc0
    ·have z15:(((byteAt x.name 0:Nat):Int)<65):=auz
     cases hF
     repeat first|refine cg ?_|simp -dsimp[hb2,h5,z7,↓e8,h9,z11,h13,q14,z15]
     refine LeaveM.go _ (gR _) (hq _ ?_ _)
     exact kc0
   ·have z11:¬((x.name.size:Int)=1):=auz
    cases hF
    refine kx3 h9 q10 z11 ?_
    refine LeaveM.go _ (gR _) (hq _ ?_ _)
    exact kc0
  ·have z7:¬((i:Int)<(w.length:Int)):=auz
   cases hF
   refine kx3 h5 q6 z7 ?_
   refine LeaveM.go ⟨[],[]⟩ (gT (by simp) (by simp -dsimp[hb2,h5,q6,z7])) ?_
   exact hq
theorem C.f104 (w:List zN)(r:Bool)(hF:F.f104 w=some r):PureCall zQ B 86 [am zO w] (.lit (.bool r)):=by
 unfold F.f104 at hF
 refine zH func86 (by kernel_rfl) rfl ntmps86 (by simp) ?_
 revert hF;refine kS ?_ ?_<;>intro h1 q2 hF
 ·have z3:(4<(w.length:Int)):=auz
  cases hF
  exact kc2 h1 z3
 ·have z3:¬(4<(w.length:Int)):=auz
  refine kx3 h1 q2 z3 ?_
  refine AMake.go fun b1 hb1=> ?_
  refine kx0 ?_
  refine AMake.go fun b2 hb2=> ?_
  simp at hb2
  refine kx1 hb2 ?_
  apply oB hF;intro o'44 ho43 hF
  refine MLoop.goU ⟨[(0,.arr (zB zO w)),(3,.lit (.map (some b1))),(4,.lit (.map (some b2))),(14,.arr (zB zO w)),(15,.lit (.int .i64 (w.length:Int))),(16,.lit (.int .i64 0))],[]⟩ (gT (by simp) (by simp_all)) ?_
  refine((CC.f103 B hB1 hB2 w) [] [] 0 o'44 ho43) b1 b2 hb2 _ rfl _ ?_
  rcases o'44 with r046|sx45
  ·dsimp only at hF
   cases hF
   intro st h ms
   simpa using h
  ·dsimp only at hF
   cases hF
   exact kc0
theorem C.f105 (w:List zN)(t:Ty)(r:Bool)(hF:F.f105 w t=some r):PureCall zQ B 87 [am zO w,.agg [li t.data,li t.index]] (.lit (.bool r)):=by
 unfold F.f105 at hF
 refine zG func87 rfl ntmps87 ?_
 revert hF;refine kN (fun h1 q2 hF=> ?_) (fun h1 q2 hF=> ?_)
 ·refine kx2 h1 q2 ?_
  apply oB hF;intro v e3 hF
  refine((C.f93 B hB1 hB2 t.data 0 (i64.wrap ((w.length:Int) -1)) v e3)).goI ?_
  refine kx2 h1 q2 ?_
  revert hF;refine aS (fun h4 q5 hF=> ?_) (fun h4 q5 hF=> ?_)
  ·refine kx3 h1 q2 h4 ?_
   apply oB hF;intro v6 e7 hF
   refine((C.f93 B hB1 hB2 t.index 0 3 v6 e7)).goI ?_
   cases hF
   exact kc3 h1 q2 h4
  ·cases hF
   exact kc4 h1 q2 h4 q5
 ·cases hF
  exact kc2 h1 q2
theorem C.f106 (w:List zN)(t:Ty)(r:Bool)(hF:F.f106 w t=some r):PureCall zQ B 51 [am zO w,.agg [li t.data,li t.index]] (.lit (.bool r)):=by
 unfold F.f106 at hF
 refine zG func51 rfl ntmps51 ?_
 refine kB hF fun v e1 hF=> ?_
 refine((C.f104 B hB1 hB2 w v e1)).goI ?_
 revert hF;refine kS (fun h2 q3 hF=> ?_) (fun h2 q3 hF=> ?_)
 ·refine kx1 h2 ?_
  apply oB hF;intro v4 e5 hF
  refine((C.f105 B hB1 hB2 w t v4 e5)).goI ?_
  cases hF
  exact kc1 h2
 ·cases hF
  exact kc2 h2 q3
theorem C.f107 (p:Pattern)(ctor:Bool)(numbers:Bool)(variable':Bool)(kids:Int)(r:Bool)(hF:F.f107 p ctor numbers variable' kids=some r):PureCall zQ B 132 [.agg [li p.op,li p.ctor,li p.n,li p.m,li p.var,am zR p.kids],.lit (.bool ctor),.lit (.bool numbers),.lit (.bool variable'),li kids] (.lit (.bool r)):=by
 unfold F.f107 at hF
 refine zG func132 rfl ntmps132 ?_
 revert hF;refine kN (fun h1 q2 hF=> ?_) (fun h1 q2 hF=> ?_)
 ·refine kx2 h1 q2 ?_
  revert hF;refine aS ?_ ?_<;>intro h3 q4 hF
  ·refine kx3 h1 q2 h3 ?_
   revert hF;refine aN (fun h5 q6 hF=> ?_) (fun h5 q6 hF=> ?_)
   ·refine kx5 h1 q2 h3 h5 q6 ?_
    revert hF;refine aS ?_ ?_<;>intro h7 q8 hF
    ·refine kx6 h1 q2 h3 h5 q6 h7 ?_
     revert hF;refine aS ?_ ?_<;>intro h9 q10 hF
     ·refine kx7 h1 q2 h3 h5 q6 h7 h9 ?_
      revert hF;refine aN (fun h11 q12 hF=> ?_) (fun h11 q12 hF=> ?_)
      ·refine kx9 h1 q2 h3 h5 q6 h7 h9 h11 q12 ?_
       revert hF;refine aS ?_ ?_<;>intro h13 q14 hF
       ·cases hF
        repeat first|refine cg ?_|simp -dsimp[h1,q2,h3,h5,q6,h7,h9,h11,q12,h13]
       ·cases hF
        repeat first|refine cg ?_|simp -dsimp[h1,q2,h3,h5,q6,h7,h9,h11,q12,h13,q14]
      ·cases hF
       exact kc9 h1 q2 h3 h5 q6 h7 h9 h11 q12
     ·cases hF
      exact kc8 h1 q2 h3 h5 q6 h7 h9 q10
    ·cases hF
     exact kc7 h1 q2 h3 h5 q6 h7 q8
   ·refine kx5 h1 q2 h3 h5 q6 ?_
    revert hF;refine aN (fun h15 q16 hF=> ?_) (fun h15 q16 hF=> ?_)
    ·refine kx7 h1 q2 h3 h5 q6 h15 q16 ?_
     revert hF;refine aS ?_ ?_<;>intro h17 q18 hF
     ·cases hF
      exact kc8 h1 q2 h3 h5 q6 h15 q16 h17
     ·cases hF
      exact kc9 h1 q2 h3 h5 q6 h15 q16 h17 q18
    ·cases hF
     exact kc7 h1 q2 h3 h5 q6 h15 q16
  ·cases hF
   exact kc4 h1 q2 h3 q4
 ·refine kx2 h1 q2 ?_
  revert hF;refine aN (fun h19 q20 hF=> ?_) (fun h19 q20 hF=> ?_)
  ·refine kx4 h1 q2 h19 q20 ?_
   revert hF;refine aS ?_ ?_<;>intro h21 q22 hF
   ·refine kx5 h1 q2 h19 q20 h21 ?_
    revert hF;refine aS ?_ ?_<;>intro h23 q24 hF
    ·refine kx6 h1 q2 h19 q20 h21 h23 ?_
     revert hF;refine aN (fun h25 q26 hF=> ?_) (fun h25 q26 hF=> ?_)
     ·refine kx8 h1 q2 h19 q20 h21 h23 h25 q26 ?_
      revert hF;refine aS ?_ ?_<;>intro h27 q28 hF
      ·cases hF
       exact kc9 h1 q2 h19 q20 h21 h23 h25 q26 h27
      ·cases hF
       repeat first|refine cg ?_|simp -dsimp[h1,q2,h19,q20,h21,h23,h25,q26,h27,q28]
     ·cases hF
      exact kc8 h1 q2 h19 q20 h21 h23 h25 q26
    ·cases hF
     exact kc7 h1 q2 h19 q20 h21 h23 q24
   ·cases hF
    exact kc6 h1 q2 h19 q20 h21 q22
  ·refine kx4 h1 q2 h19 q20 ?_
   revert hF;refine aN (fun h29 q30 hF=> ?_) (fun h29 q30 hF=> ?_)
   ·refine kx6 h1 q2 h19 q20 h29 q30 ?_
    revert hF;refine aS ?_ ?_<;>intro h31 q32 hF
    ·cases hF
     exact kc7 h1 q2 h19 q20 h29 q30 h31
    ·cases hF
     exact kc8 h1 q2 h19 q20 h29 q30 h31 q32
   ·cases hF
    exact kc6 h1 q2 h19 q20 h29 q30
theorem C.f108 (v:Int)(r:Bool)(hF:F.f108 v=some r):PureCall zQ B 133 [li v] (.lit (.bool r)):=by
 unfold F.f108 at hF
 refine zG func133 rfl ntmps133 ?_
 refine kB hF fun v1 e2 hF=> ?_
 refine((C.f93 B hB1 hB2 v 0 5 v1 e2)).goI ?_
 cases hF
 exact kc0
theorem CC.f109 (t:Ty)(x:zN):(∀(i:Nat) (out:List Int) (o:List Int),F.f109 t x i out=some o->∀(c:Code),Zc [1,1,0,1,0,1,0,0] (ZJ Tryz.f101)=some c->∀(Q:Exit->ASt->Prop),(Q (.exit 0) ⟨[(5,.own 1 (zA (α:=Int) o))],[.dead,.elems 1 (zB cI o)]⟩)->ALoopU zQ B 0 44 (hold c .mk) ⟨[(3,.ptr 0 0),(5,.own 1 (zA (α:=Int) out)),(16,am zL x.ctors),(17,li (x.ctors.length:Int)),(18,li (i:Int))],[.cells [li t.data,li t.index],.elems 1 (zB cI out)]⟩ (hold Q .mk)):=by
 refine F.f109.partial_correctness t x
  _
  ?_
 ·intro _f_f109 ih_f109 i out o hF
  refine ZP rfl fun Q hq hk hs=> ?_
  have b16:=hk 16
  simp -dsimp at b16
  have d1:=hs 1 _ rfl
  simp -dsimp[yC]at d1
  clear hk hs
  refine eN ?_
  revert hF;refine kS ?_ ?_<;>intro h4 q5 hF
  ·have z6:((i:Int)<(x.ctors.length:Int)):=auz
   apply oB hF;intro x7 e8 hF
   have le8:=ZA e8
   refine Zb h4 z6 e8 ?_
   revert hF;refine aN ?_ ?_<;>intro h9 q10 hF
   ·refine kx2 h9 q10 ?_
    revert hF;refine aN ?_ ?_<;>intro h11 q12 hF
    ·refine kx2 h11 q12 ?_
     revert hF;refine aS ?_ ?_<;>intro h13 q14 hF
     ·apply oC hF;intro c15 hF
      have w16:i64.wrap ((i:Int)+1)=(i:Int)+1:=ZB (by omega) (by omega)
      refine kx2 h13 w16 ?_
      refine zE ((ih_f109 (i+1) (out++[(i:Int)]) o hF) _ rfl _ hq)
     ·have w17:i64.wrap ((i:Int)+1)=(i:Int)+1:=ZB (by omega) (by omega)
      refine kx3 h13 q14 w17 ?_
      refine zE ((ih_f109 (i+1) out o hF) _ rfl _ hq)
    ·apply oC hF;intro c18 hF
     have w19:i64.wrap ((i:Int)+1)=(i:Int)+1:=ZB (by omega) (by omega)
     repeat first|refine cg ?_|simp -dsimp[h4,z6,↓e8,h9,q10,h11,q12,w19]
     refine zE ((ih_f109 (i+1) (out++[(i:Int)]) o hF) _ rfl _ hq)
   ·apply oC hF;intro c20 hF
    have w21:i64.wrap ((i:Int)+1)=(i:Int)+1:=ZB (by omega) (by omega)
    repeat first|refine cg ?_|simp -dsimp[h4,z6,↓e8,h9,q10,w21]
    refine zE ((ih_f109 (i+1) (out++[(i:Int)]) o hF) _ rfl _ hq)
  ·have z6:¬((i:Int)<(x.ctors.length:Int)):=auz
   cases hF
   refine kx3 h4 q5 z6 ?_
   refine zF hq
theorem C.f110 (w:List zN)(t:Ty)(r:List Int)(hF:F.f110 w t=some r):PureCall zQ B 101 [am zO w,.agg [li t.data,li t.index]] (am cI r):=by
 unfold F.f110 at hF
 refine zG func101 rfl ntmps101 ?_
 revert hF;refine kN ?_ ?_<;>intro h1 q2 hF
 ·apply oB hF;intro x e3a hF
  have e3a:=Zy e3a;obtain⟨ne3,e3⟩:=e3a
  have le3:=ZA e3
  refine Zb h1 q2 e3 ?_
  apply oB hF;intro o' ho22 hF
  refine zJ ⟨[(3,.ptr 0 0),(5,.own 1 (zA (α:=Int) [])),(16,.arr (zB zL x.ctors)),(17,.lit (.int .i64 (x.ctors.length:Int))),(18,.lit (.int .i64 0))],[.cells [.lit (.int .i64 t.data),.lit (.int .i64 t.index)],.elems 1 (zB cI [])]⟩ (by refine yK (yO 5 1 (by simp -dsimp)) ?_;exact(gT (by simp) (by simp_all))) ?_
  refine((CC.f109 B hB1 hB2 t x) 0 [] o' ho22) _ rfl _ ?_
  cases hF
  exact kc0
 ·cases hF
  exact kc2 h1 q2
theorem CC.f111 (s:List Int)(v:Int):(∀(i:Nat) (o:Lo Int Unit),F.f111 s v i=some o->∀(c:Code),Zc [1,0,1,0,0] (ZJ Tryz.f134)=some c->∀(Q:Exit->ASt->Prop),o.post (fun r=>∀st,ZAR zQ Tryz.f134 (fun r' _=>r'.le (li r)) .ret st->Q .ret st) (fun s=>Q (.exit 0) ⟨[],[]⟩)->ALoopU zQ B 0 19 (hold c .mk) ⟨[(0,am cI s),(1,li v),(7,li (s.length:Int)),(8,li (i:Int))],[]⟩ (hold Q .mk)):=by
 refine F.f111.partial_correctness s v
  _
  ?_
 ·intro _f_f111 ih_f111 i o hF
  refine ZP rfl fun Q hq hk hs=> ?_
  have b0:=hk 0
  simp -dsimp at b0
  clear hk hs
  refine eN ?_
  revert hF;refine kS ?_ ?_<;>intro h1 q2 hF
  ·have z3:((i:Int)<(s.length:Int)):=auz
   apply oB hF;intro x e4 hF
   have le4:=ZA e4
   refine Zb h1 z3 e4 ?_
   revert hF;refine aS ?_ ?_<;>intro h5 q6 hF
   ·cases hF
    refine kx1 h5 ?_
    refine lG _ (gR _) (hq _ ?_)
    exact kc0
   ·have w7:i64.wrap ((i:Int)+1)=(i:Int)+1:=ZB (by omega) (by omega)
    refine kx2 q6 w7 ?_
    refine zE ((ih_f111 (i+1) o hF) _ rfl _ hq)
  ·have z3:¬((i:Int)<(s.length:Int)):=auz
   cases hF
   refine kx3 h1 q2 z3 ?_
   refine zF hq
theorem C.f112 (s:List Int)(v:Int)(r:Int)(hF:F.f112 s v=some r):PureCall zQ B 134 [am cI s,li v] (li r):=by
 unfold F.f112 at hF
 refine zG func134 rfl ntmps134 ?_
 refine kB hF fun o' ho8 hF=> ?_
 refine zI (((CC.f111 B hB1 hB2 s v) 0 o' ho8) _ rfl _ ?_)
 rcases o' with r0|sx
 ·dsimp only at hF
  cases hF
  intro st h
  simpa using h
 ·dsimp only at hF
  cases hF
  exact kc0
theorem C.f113 (s:List Int)(v:Int)(r:Bool)(hF:F.f113 s v=some r):PureCall zQ B 105 [am cI s,li v] (.lit (.bool r)):=by
 unfold F.f113 at hF
 refine zG func105 rfl ntmps105 ?_
 refine kB hF fun v1 e2 hF=> ?_
 refine((C.f112 B hB1 hB2 s v v1 e2)).goI ?_
 cases hF
 exact kc0
theorem CC.f114 (t:Ty)(x2:Ctor):(∀(i:Nat) (out:List Ty) (o:List Ty),F.f114 t x2 i out=some o->∀(c:Code),Zc [1,1,1,1,1,0,1,0,0] (ZJ Tryz.f71)=some c->∀(Q:Exit->ASt->Prop),(Q (.exit 0) ⟨[(9,.own 2 (zA (α:=Ty) o))],[.dead,.dead,.elems 2 (zB zK o)]⟩)->ALoopU zQ B 0 45 (hold c .mk) ⟨[(8,li t.index),(9,.own 2 (zA (α:=Ty) out)),(28,am zK x2.args),(29,li (x2.args.length:Int)),(30,li (i:Int))],[.dead,.dead,.elems 2 (zB zK out)]⟩ (hold Q .mk)):=by
 refine F.f114.partial_correctness t x2
  _
  ?_
 ·intro _f_f114 ih_f114 i out o hF
  refine ZP rfl fun Q hq hk hs=> ?_
  have b28:=hk 28
  simp -dsimp at b28
  have d2:=hs 2 _ rfl
  simp -dsimp[yC]at d2
  clear hk hs
  refine eN ?_
  revert hF;refine kS ?_ ?_<;>intro h6 q7 hF
  ·have z8:((i:Int)<(x2.args.length:Int)):=auz
   apply oB hF;intro x9 e10 hF
   have le10:=ZA e10
   refine Zb h6 z8 e10 ?_
   revert hF;refine aS ?_ ?_<;>intro h11 q12 hF
   ·apply oC hF;intro c13 hF
    have w14:i64.wrap ((i:Int)+1)=(i:Int)+1:=ZB (by omega) (by omega)
    refine kx2 h11 w14 ?_
    refine zE ((ih_f114 (i+1) (out++[(⟨x9.data,t.index⟩:Ty)]) o hF) _ rfl _ hq)
   ·apply oC hF;intro c15 hF
    have w16:i64.wrap ((i:Int)+1)=(i:Int)+1:=ZB (by omega) (by omega)
    refine kx3 h11 q12 w16 ?_
    refine zE ((ih_f114 (i+1) (out++[x9]) o hF) _ rfl _ hq)
  ·have z8:¬((i:Int)<(x2.args.length:Int)):=auz
   cases hF
   refine kx3 h6 q7 z8 ?_
   refine zF hq
theorem CC.f115 (x2:Ctor):(∀(i18:Nat) (out19:List Ty) (o:List Ty),F.f115 x2 i18 out19=some o->∀(c:Code),Zc [1,1,1,1,1,0,1,0,0] (ZJ Tryz.f71)=some c->∀(Q:Exit->ASt->Prop),(Q (.exit 0) ⟨[(9,.own 2 (zA (α:=Ty) o))],[.dead,.dead,.elems 2 (zB zK o)]⟩)->ALoopU zQ B 0 45 (hold c .mk) ⟨[(8,li x2.index),(9,.own 2 (zA (α:=Ty) out19)),(28,am zK x2.args),(29,li (x2.args.length:Int)),(30,li (i18:Int))],[.dead,.dead,.elems 2 (zB zK out19)]⟩ (hold Q .mk)):=by
 refine F.f115.partial_correctness x2
  _
  ?_
 ·intro _f_f115 ih_f115 i18 out19 o hF
  refine ZP rfl fun Q hq hk hs=> ?_
  have b28:=hk 28
  simp -dsimp at b28
  have d2:=hs 2 _ rfl
  simp -dsimp[yC]at d2
  clear hk hs
  refine eN ?_
  revert hF;refine kS ?_ ?_<;>intro h20 q21 hF
  ·have z22:((i18:Int)<(x2.args.length:Int)):=auz
   apply oB hF;intro x23 e24 hF
   have le24:=ZA e24
   refine Zb h20 z22 e24 ?_
   revert hF;refine aS ?_ ?_<;>intro h25 q26 hF
   ·apply oC hF;intro c27 hF
    have w28:i64.wrap ((i18:Int)+1)=(i18:Int)+1:=ZB (by omega) (by omega)
    refine kx2 h25 w28 ?_
    refine zE ((ih_f115 (i18+1) (out19++[(⟨x23.data,x2.index⟩:Ty)]) o hF) _ rfl _ hq)
   ·apply oC hF;intro c29 hF
    have w30:i64.wrap ((i18:Int)+1)=(i18:Int)+1:=ZB (by omega) (by omega)
    refine kx3 h25 q26 w30 ?_
    refine zE ((ih_f115 (i18+1) (out19++[x23]) o hF) _ rfl _ hq)
  ·have z22:¬((i18:Int)<(x2.args.length:Int)):=auz
   cases hF
   refine kx3 h20 q21 z22 ?_
   refine zF hq
theorem C.f116 (w:List zN)(t:Ty)(ctor:Int)(r:List Ty)(hF:F.f116 w t ctor=some r):PureCall zQ B 71 [am zO w,.agg [li t.data,li t.index],li ctor] (am zK r):=by
 unfold F.f116 at hF
 refine zG func71 rfl ntmps71 ?_
 apply oB hF;intro x e1a hF
 have e1a:=Zy e1a;obtain⟨ne1,e1⟩:=e1a
 have le1:=ZA e1
 apply oB hF;intro x2 e3a hF
 have e3a:=Zy e3a;obtain⟨ne3,e3⟩:=e3a
 have le3:=ZA e3
 refine ZF5 e1 e3 ?_
 revert hF;refine aS ?_ ?_<;>intro h4 q5 hF
 ·refine kx1 h4 ?_
  apply oB hF;intro o' ho17 hF
  refine zJ ⟨[(8,.lit (.int .i64 t.index)),(9,.own 2 (zA (α:=Ty) [])),(28,.arr (zB zK x2.args)),(29,.lit (.int .i64 (x2.args.length:Int))),(30,.lit (.int .i64 0))],[.dead,.dead,.elems 2 (zB zK [])]⟩ (by refine yK (yO 9 2 (by simp -dsimp)) ?_;exact(gT (by simp) (by simp_all))) ?_
  refine((CC.f114 B hB1 hB2 t x2) 0 [] o' ho17) _ rfl _ ?_
  cases hF
  exact kc0
 ·refine kx1 q5 ?_
  apply oB hF;intro o'32 ho31 hF
  refine zJ ⟨[(8,.lit (.int .i64 x2.index)),(9,.own 2 (zA (α:=Ty) [])),(28,.arr (zB zK x2.args)),(29,.lit (.int .i64 (x2.args.length:Int))),(30,.lit (.int .i64 0))],[.dead,.dead,.elems 2 (zB zK [])]⟩ (by refine yK (yO 9 2 (by simp -dsimp)) ?_;exact(gT (by simp) (by simp_all))) ?_
  refine((CC.f115 B hB1 hB2 x2) 0 [] o'32 ho31) _ rfl _ ?_
  cases hF
  exact kc0
theorem C.f117 (w:List zN)(t:Ty)(p:Pattern)(r:(List Ty)×Bool)(hF:F.f117 w t p=some r):PureCall zQ B 103 [am zO w,.agg [li t.data,li t.index],.agg [li p.op,li p.ctor,li p.n,li p.m,li p.var,am zR p.kids]] (.tup [am zK r.1,.lit (.bool r.2)]):=by
 unfold F.f117 at hF
 refine zG func103 rfl ntmps103 ?_
 revert hF;refine kS ?_ ?_<;>intro h1 q2 hF
 ·refine kx1 h1 ?_
  apply oB hF;intro v e3 hF
  refine((C.f107 B hB1 hB2 p false false false 0 v e3)).goI ?_
  cases hF
  exact kc1 h1
 ·refine kx2 h1 q2 ?_
  revert hF;refine aS ?_ ?_<;>intro h4 q5 hF
  ·refine kx3 h1 q2 h4 ?_
   apply oB hF;intro v6 e7 hF
   refine((C.f107 B hB1 hB2 p false false true 0 v6 e7)).goI ?_
   refine kx3 h1 q2 h4 ?_
   revert hF;refine aS (fun h8 q9 hF=> ?_) (fun h8 q9 hF=> ?_)
   ·refine kx4 h1 q2 h4 h8 ?_
    apply oB hF;intro v10 e11 hF
    refine((C.f108 B hB1 hB2 p.var v10 e11)).goI ?_
    cases hF
    exact kc4 h1 q2 h4 h8
   ·cases hF
    exact kc5 h1 q2 h4 h8 q9
  ·refine kx4 h1 q2 h4 q5 ?_
   revert hF;refine aS ?_ ?_<;>intro h12 q13 hF
   ·refine kx5 h1 q2 h4 q5 h12 ?_
    refine yE follows ?_
    refine kx5 h1 q2 h4 q5 h12 ?_
    revert hF;refine aS ?_ ?_<;>intro h14 q15 hF
    ·refine kx6 h1 q2 h4 q5 h12 h14 ?_
     apply oB hF;intro v16 e17 hF
     refine((C.f107 B hB1 hB2 p false true false 0 v16 e17)).pgoW (by simp[h1,q2,h4,q5,h12,h14]) (by simp) ?_
     refine kx6 h1 q2 h4 q5 h12 h14 ?_
     revert hF;refine aS (fun h18 q19 hF=> ?_) (fun h18 q19 hF=> ?_)
     ·refine kx7 h1 q2 h4 q5 h12 h14 h18 ?_
      revert hF;refine aS ?_ ?_<;>intro h20 q21 hF
      ·refine kx8 h1 q2 h4 q5 h12 h14 h18 h20 ?_
       revert hF;refine aS ?_ ?_<;>intro h22 q23 hF
       ·cases hF
        exact kc9 h1 q2 h4 q5 h12 h14 h18 h20 h22
       ·cases hF
        repeat first|refine cg ?_|simp -dsimp[h1,q2,h4,q5,h12,h14,h18,h20,h22,q23]
      ·cases hF
       exact kc9 h1 q2 h4 q5 h12 h14 h18 h20 q21
     ·cases hF
      exact kc8 h1 q2 h4 q5 h12 h14 h18 q19
    ·cases hF
     exact kc7 h1 q2 h4 q5 h12 h14 q15
   ·refine kx6 h1 q2 h4 q5 h12 q13 ?_
    revert hF;refine aS ?_ ?_<;>intro h24 q25 hF
    ·refine kx7 h1 q2 h4 q5 h12 q13 h24 ?_
     refine yE follows ?_
     refine kx7 h1 q2 h4 q5 h12 q13 h24 ?_
     apply oB hF;intro v26 e27 hF
     refine((C.f110 B hB1 hB2 w t v26 e27)).pgoW (by simp[h1,q2,h4,q5,h12,q13,h24]) (by simp) ?_
     refine kx7 h1 q2 h4 q5 h12 q13 h24 ?_
     apply oB hF;intro v28 e29 hF
     refine((C.f113 B hB1 hB2 v26 p.ctor v28 e29)).pgoW (by simp[h1,q2,h4,q5,h12,q13,h24]) (by simp) ?_
     refine kx7 h1 q2 h4 q5 h12 q13 h24 ?_
     revert hF;refine aN (fun h30 q31 hF=> ?_) (fun h30 q31 hF=> ?_)
     ·cases hF
      exact kc9 h1 q2 h4 q5 h12 q13 h24 h30 q31
     ·refine kx9 h1 q2 h4 q5 h12 q13 h24 h30 q31 ?_
      apply oB hF;intro v32 e33 hF
      refine((C.f116 B hB1 hB2 w t p.ctor v32 e33)).goI ?_
      refine kx9 h1 q2 h4 q5 h12 q13 h24 h30 q31 ?_
      apply oB hF;intro v34 e35 hF
      refine((C.f107 B hB1 hB2 p true false false (v32.length:Int) v34 e35)).goI ?_
      cases hF
      exact kc9 h1 q2 h4 q5 h12 q13 h24 h30 q31
    ·refine kx8 h1 q2 h4 q5 h12 q13 h24 q25 ?_
     revert hF;refine aS ?_ ?_<;>intro h36 q37 hF
     ·refine kx9 h1 q2 h4 q5 h12 q13 h24 q25 h36 ?_
      refine yF [] [(0,0),(0,0),(0,1),(0,1),(0,1),(1,1),(1,1)] [1,1,1,2,1,1,1] follows ?_
      refine kx9 h1 q2 h4 q5 h12 q13 h24 q25 h36 ?_
      apply oB hF;intro v38 e39 hF
      refine((C.f107 B hB1 hB2 p false false false 2 v38 e39)).pgoW (by simp[h1,q2,h4,q5,h12,q13,h24,q25,h36]) (by simp) ?_
      cases hF
      exact kc9 h1 q2 h4 q5 h12 q13 h24 q25 h36
     ·repeat first|refine cg ?_|simp -dsimp[h1,q2,h4,q5,h12,q13,h24,q25,h36,q37]
      revert hF;refine aS ?_ ?_<;>intro h40 q41 hF
      ·repeat first|refine cg ?_|simp -dsimp[h1,q2,h4,q5,h12,q13,h24,q25,h36,q37,h40]
       refine yF [] [(0,0),(0,1),(0,1),(0,1),(0,1),(0,1),(0,1),(0,1),(0,1),(1,1),(1,1)] [1,1,2,1,1,0,2,1,1,1,1] follows ?_
       repeat first|refine cg ?_|simp -dsimp[h1,q2,h4,q5,h12,q13,h24,q25,h36,q37,h40]
       apply oB hF;intro v42 e43 hF
       refine((C.f107 B hB1 hB2 p false false true 1 v42 e43)).pgoW (by simp[h1,q2,h4,q5,h12,q13,h24,q25,h36,q37,h40]) (by simp) ?_
       repeat first|refine cg ?_|simp -dsimp[h1,q2,h4,q5,h12,q13,h24,q25,h36,q37,h40]
       revert hF;refine aS (fun h44 q45 hF=> ?_) (fun h44 q45 hF=> ?_)
       ·repeat first|refine cg ?_|simp -dsimp[h1,q2,h4,q5,h12,q13,h24,q25,h36,q37,h40,h44]
        apply oB hF;intro v46 e47 hF
        refine((C.f108 B hB1 hB2 p.var v46 e47)).pgoW (by simp[h1,q2,h4,q5,h12,q13,h24,q25,h36,q37,h40,h44]) (by simp) ?_
        cases hF
        repeat first|refine cg ?_|simp -dsimp[h1,q2,h4,q5,h12,q13,h24,q25,h36,q37,h40,h44]
       ·skip
        cases hF
        repeat first|refine cg ?_|simp -dsimp[h1,q2,h4,q5,h12,q13,h24,q25,h36,q37,h40,h44,q45]
      ·cases hF
       repeat first|refine cg ?_|simp -dsimp[h1,q2,h4,q5,h12,q13,h24,q25,h36,q37,h40,q41]
theorem CC.f118 (s:List VarType)(v:VarType):(∀(i:Nat) (o:Lo Int Unit),F.f118 s v i=some o->∀(c:Code),Zc [1,0,1,0,0] (ZJ Tryz.f176)=some c->∀(Q:Exit->ASt->Prop),o.post (fun r=>∀st,ZAR zQ Tryz.f176 (fun r' _=>r'.le (li r)) .ret st->Q .ret st) (fun s=>Q (.exit 0) ⟨[],[]⟩)->ALoopU zQ B 0 19 (hold c .mk) ⟨[(0,am yI s),(3,.ptr 0 0),(7,li (s.length:Int)),(8,li (i:Int))],[.cells [li v.var,li v.type.data,li v.type.index]]⟩ (hold Q .mk)):=by
 refine F.f118.partial_correctness s v
  _
  ?_
 ·intro _f_f118 ih_f118 i o hF
  refine ZP rfl fun Q hq hk hs=> ?_
  have b0:=hk 0
  simp -dsimp at b0
  clear hk hs
  refine eN ?_
  revert hF;refine kS ?_ ?_<;>intro h1 q2 hF
  ·have z3:((i:Int)<(s.length:Int)):=auz
   refine kx2 h1 z3 ?_
   refine yE follows ?_
   apply oB hF;intro x e4 hF
   have le4:=ZA e4
   refine kdd e4 ?_
   revert hF;refine aS (fun h5 q6 hF=> ?_) (fun h5 q6 hF=> ?_)
   ·cases hF
    refine kx1 h5 ?_
    refine lG _ (gR _) (hq _ ?_)
    exact kc0
   ·have w7:i64.wrap ((i:Int)+1)=(i:Int)+1:=ZB (by omega) (by omega)
    refine kx2 q6 w7 ?_
    refine zE ((ih_f118 (i+1) o hF) _ rfl _ hq)
  ·have z3:¬((i:Int)<(s.length:Int)):=auz
   cases hF
   refine kx3 h1 q2 z3 ?_
   refine zF hq
theorem C.f119 (s:List VarType)(v:VarType)(r:Int)(hF:F.f119 s v=some r):PureCall zQ B 176 [am yI s,.agg [li v.var,li v.type.data,li v.type.index]] (li r):=by
 unfold F.f119 at hF
 refine zG func176 rfl ntmps176 ?_
 refine kB hF fun o' ho8 hF=> ?_
 refine zI (((CC.f118 B hB1 hB2 s v) 0 o' ho8) _ rfl _ ?_)
 rcases o' with r0|sx
 ·dsimp only at hF
  cases hF
  intro st h
  simpa using h
 ·dsimp only at hF
  cases hF
  exact kc0
theorem C.f120 (s:List VarType)(v:VarType)(r:Bool)(hF:F.f120 s v=some r):PureCall zQ B 172 [am yI s,.agg [li v.var,li v.type.data,li v.type.index]] (.lit (.bool r)):=by
 unfold F.f120 at hF
 refine zG func172 rfl ntmps172 ?_
 refine kB hF fun v1 e2 hF=> ?_
 refine((C.f119 B hB1 hB2 s v v1 e2)).goI ?_
 cases hF
 exact kc0
theorem C.f121 (v:VarType)(a1:List VarType)(r:Bool)(hF:F.f121 v a1=some r):PureCall zQ B 171 [.agg [li v.var,li v.type.data,li v.type.index],.rptr [am yI a1] 0] (.lit (.bool r)):=by
 unfold F.f121 at hF
 refine zG func171 rfl ntmps171 ?_
 refine kB hF fun v1 e2 hF=> ?_
 refine((C.f120 B hB1 hB2 a1 v v1 e2)).goI ?_
 cases hF
 exact kc0
theorem CC.f122 (s:List VarType)(k0:List VarType):(∀(i:Nat) (o:Lo Int Unit),F.f122 s k0 i=some o->∀(c:Code),Zc [1,0,1,0,0] (ZJ Tryz.f175)=some c->∀(Q:Exit->ASt->Prop),o.post (fun r=>∀st,ZAR zQ Tryz.f175 (fun r' _=>r'.le (li r)) .ret st->Q .ret st) (fun s=>Q (.exit 0) ⟨[],[]⟩)->ALoopU zQ B 0 19 (hold c .mk) ⟨[(0,am yI s),(1,.fn (.func 171) [] [.rptr [am yI k0] 0]),(7,li (s.length:Int)),(8,li (i:Int))],[]⟩ (hold Q .mk)):=by
 refine F.f122.partial_correctness s k0
  _
  ?_
 ·intro _f_f122 ih_f122 i o hF
  refine ZP rfl fun Q hq hk hs=> ?_
  have b0:=hk 0
  simp -dsimp at b0
  clear hk hs
  refine eN ?_
  revert hF;refine kS ?_ ?_<;>intro h1 q2 hF
  ·have z3:((i:Int)<(s.length:Int)):=auz
   apply oB hF;intro x e4 hF
   have le4:=ZA e4
   refine Zb h1 z3 e4 ?_
   apply oB hF;intro v e5 hF
   refine((C.f121 B hB1 hB2 x k0 v e5)).goI ?_
   revert hF;refine kS (fun h6 q7 hF=> ?_) (fun h6 q7 hF=> ?_)
   ·cases hF
    refine kx1 h6 ?_
    refine lG _ (gR _) (hq _ ?_)
    exact kc0
   ·have w8:i64.wrap ((i:Int)+1)=(i:Int)+1:=ZB (by omega) (by omega)
    refine kx2 q7 w8 ?_
    refine zE ((ih_f122 (i+1) o hF) _ rfl _ hq)
  ·have z3:¬((i:Int)<(s.length:Int)):=auz
   cases hF
   refine kx3 h1 q2 z3 ?_
   refine zF hq
theorem C.f123 (s:List VarType)(k0:List VarType)(r:Int)(hF:F.f123 s k0=some r):PureCall zQ B 175 [am yI s,.fn (.func 171) [] [.rptr [am yI k0] 0]] (li r):=by
 unfold F.f123 at hF
 refine zG func175 rfl ntmps175 ?_
 refine kB hF fun o' ho9 hF=> ?_
 refine zI (((CC.f122 B hB1 hB2 s k0) 0 o' ho9) _ rfl _ ?_)
 rcases o' with r0|sx
 ·dsimp only at hF
  cases hF
  intro st h
  simpa using h
 ·dsimp only at hF
  cases hF
  exact kc0
theorem C.f124 (s:List VarType)(k0:List VarType)(r:Bool)(hF:F.f124 s k0=some r):PureCall zQ B 170 [am yI s,.fn (.func 171) [] [.rptr [am yI k0] 0]] (.lit (.bool r)):=by
 unfold F.f124 at hF
 refine zG func170 rfl ntmps170 ?_
 refine kB hF fun v e1 hF=> ?_
 refine((C.f123 B hB1 hB2 s k0 v e1)).goI ?_
 cases hF
 exact kc0
theorem C.f125 (a:List VarType)(b:List VarType)(r:Bool)(hF:F.f125 a b=some r):PureCall zQ B 157 [am yI a,am yI b] (.lit (.bool r)):=by
 unfold F.f125 at hF
 refine zG func157 rfl ntmps157 ?_
 revert hF;refine kS ?_ ?_<;>intro h1 q2 hF
 ·have z3:((a.length:Int)=(b.length:Int)):=auz
  refine kx2 h1 z3 ?_
  apply oB hF;intro v e4 hF
  refine((C.f124 B hB1 hB2 a b v e4)).lend (by simp -dsimp[h1,z3]) (by simp -dsimp) ?_
  cases hF
  exact kc2 h1 z3
 ·have z3:¬((a.length:Int)=(b.length:Int)):=auz
  cases hF
  exact kc3 h1 q2 z3
theorem CC.f126 (sx:Int×(List VarType)):(∀(set':Nat->Bool) (i37:Nat) (o:Lo ((List VarType)×Bool×Int) Unit),F.f126 sx set' i37=some o->∀(c:Code),Zc [1,1,1,1,1,1,1,1,1,0,1,0,0] (ZJ Tryz.f131)=some c->∀(Q:Exit->ASt->Prop),o.post (fun r=>∀st,ZAR zQ Tryz.f131 (fun r' σ'=>r'.le (.tup [am yI r.1,.lit (.bool r.2.1)])/\ZBP σ' [li r.2.2]) .ret st->Q .ret st) (fun s=>Q (.exit 3) ⟨[(14,.own 4 (zA (α:=VarType) sx.2))],[.cells [li sx.1],.dead,.dead,.dead,.elems 3 (zB yI sx.2)]⟩)->ALoopU zQ B 1 114 (hold c .mk) ⟨[(14,.own 4 (zA (α:=VarType) sx.2)),(19,.ptr 5 0),(99,.own 4 (zA (α:=VarType) sx.2)),(100,li (sx.2.length:Int)),(101,li (i37:Int))],[.cells [li sx.1],.dead,.dead,.dead,.elems 3 (zB yI sx.2),.cells (fcB 6 set')]⟩ (hold Q .mk)):=by
 refine F.f126.partial_correctness sx
  _
  ?_
 ·intro _f_f126 ih_f126 set' i37 o hF
  refine ZP rfl fun Q hq hk hs=> ?_
  have d4:=hs 4 _ rfl
  simp -dsimp[yC]at d4
  clear hk hs
  refine eN ?_
  revert hF;refine kS ?_ ?_<;>intro h38 q39 hF
  ·have z40:((i37:Int)<(sx.2.length:Int)):=auz
   apply oB hF;intro x41 e42 hF
   have le42:=ZA e42
   apply oC hF;intro c43 hF
   repeat first|refine cg ?_|simp -dsimp[h38,z40,↓e42,c43]
   revert hF;refine aS (fun h44 q45 hF=> ?_) (fun h44 q45 hF=> ?_)
   ·cases hF
    refine kx1 h44 ?_
    refine lG _ (gR _) (hq _ ?_)
    exact kc0
   ·have w46:i64.wrap ((i37:Int)+1)=(i37:Int)+1:=ZB (by omega) (by omega)
    refine kx2 q45 w46 ?_
    refine zE ((ih_f126 (updF set' x41.var.toNat true) (i37+1) o hF) _ rfl _ hq)
  ·have z40:¬((i37:Int)<(sx.2.length:Int)):=auz
   cases hF
   refine kx3 h38 q39 z40 ?_
   refine zF hq
theorem CC.f127 (sx81:Int×(List VarType)):(∀(set'82:Nat->Bool) (i83:Nat) (o:Lo ((List VarType)×Bool×Int) Unit),F.f127 sx81 set'82 i83=some o->∀(c:Code),Zc [1,1,1,1,1,1,1,1,1,0,1,0,0] (ZJ Tryz.f131)=some c->∀(Q:Exit->ASt->Prop),o.post (fun r=>∀st,ZAR zQ Tryz.f131 (fun r' σ'=>r'.le (.tup [am yI r.1,.lit (.bool r.2.1)])/\ZBP σ' [li r.2.2]) .ret st->Q .ret st) (fun s=>Q (.exit 3) ⟨[(14,.own 3 (zA (α:=VarType) sx81.2))],[.cells [li sx81.1],.dead,.dead,.elems 3 (zB yI sx81.2)]⟩)->ALoopU zQ B 1 114 (hold c .mk) ⟨[(14,.own 3 (zA (α:=VarType) sx81.2)),(19,.ptr 4 0),(99,.own 3 (zA (α:=VarType) sx81.2)),(100,li (sx81.2.length:Int)),(101,li (i83:Int))],[.cells [li sx81.1],.dead,.dead,.elems 3 (zB yI sx81.2),.cells (fcB 6 set'82)]⟩ (hold Q .mk)):=by
 refine F.f127.partial_correctness sx81
  _
  ?_
 ·intro _f_f127 ih_f127 set'82 i83 o hF
  refine ZP rfl fun Q hq hk hs=> ?_
  have d3:=hs 3 _ rfl
  simp -dsimp[yC]at d3
  clear hk hs
  refine eN ?_
  revert hF;refine kS ?_ ?_<;>intro h84 q85 hF
  ·have z86:((i83:Int)<(sx81.2.length:Int)):=auz
   apply oB hF;intro x87 e88 hF
   have le88:=ZA e88
   apply oC hF;intro c89 hF
   repeat first|refine cg ?_|simp -dsimp[h84,z86,↓e88,c89]
   revert hF;refine aS (fun h90 q91 hF=> ?_) (fun h90 q91 hF=> ?_)
   ·cases hF
    refine kx1 h90 ?_
    refine lG _ (gR _) (hq _ ?_)
    exact kc0
   ·have w92:i64.wrap ((i83:Int)+1)=(i83:Int)+1:=ZB (by omega) (by omega)
    refine kx2 q91 w92 ?_
    refine zE ((ih_f127 (updF set'82 x87.var.toNat true) (i83+1) o hF) _ rfl _ hq)
  ·have z86:¬((i83:Int)<(sx81.2.length:Int)):=auz
   cases hF
   refine kx3 h84 q85 z86 ?_
   refine zF hq
theorem CC.f128 (sx128:Int×(List VarType)):(∀(set'129:Nat->Bool) (i130:Nat) (o:Lo ((List VarType)×Bool×Int) Unit),F.f128 sx128 set'129 i130=some o->∀(c:Code),Zc [1,1,1,1,1,1,1,1,1,0,1,0,0] (ZJ Tryz.f131)=some c->∀(Q:Exit->ASt->Prop),o.post (fun r=>∀st,ZAR zQ Tryz.f131 (fun r' σ'=>r'.le (.tup [am yI r.1,.lit (.bool r.2.1)])/\ZBP σ' [li r.2.2]) .ret st->Q .ret st) (fun s=>Q (.exit 3) ⟨[(14,.own 4 (zA (α:=VarType) sx128.2))],[.cells [li sx128.1],.dead,.dead,.dead,.elems 3 (zB yI sx128.2)]⟩)->ALoopU zQ B 1 114 (hold c .mk) ⟨[(14,.own 4 (zA (α:=VarType) sx128.2)),(19,.ptr 5 0),(99,.own 4 (zA (α:=VarType) sx128.2)),(100,li (sx128.2.length:Int)),(101,li (i130:Int))],[.cells [li sx128.1],.dead,.dead,.dead,.elems 3 (zB yI sx128.2),.cells (fcB 6 set'129)]⟩ (hold Q .mk)):=by
 refine F.f128.partial_correctness sx128
  _
  ?_
 ·intro _f_f128 ih_f128 set'129 i130 o hF
  refine ZP rfl fun Q hq hk hs=> ?_
  have d4:=hs 4 _ rfl
  simp -dsimp[yC]at d4
  clear hk hs
  refine eN ?_
  revert hF;refine kS ?_ ?_<;>intro h131 q132 hF
  ·have z133:((i130:Int)<(sx128.2.length:Int)):=auz
   apply oB hF;intro x134 e135 hF
   have le135:=ZA e135
   apply oC hF;intro c136 hF
   repeat first|refine cg ?_|simp -dsimp[h131,z133,↓e135,c136]
   revert hF;refine aS (fun h137 q138 hF=> ?_) (fun h137 q138 hF=> ?_)
   ·cases hF
    refine kx1 h137 ?_
    refine lG _ (gR _) (hq _ ?_)
    exact kc0
   ·have w139:i64.wrap ((i130:Int)+1)=(i130:Int)+1:=ZB (by omega) (by omega)
    refine kx2 q138 w139 ?_
    refine zE ((ih_f128 (updF set'129 x134.var.toNat true) (i130+1) o hF) _ rfl _ hq)
  ·have z133:¬((i130:Int)<(sx128.2.length:Int)):=auz
   cases hF
   refine kx3 h131 q132 z133 ?_
   refine zF hq
theorem CC.f129 (w:List zN):(∀(t:Ty) (p:Pattern) (deep:Int) (count:Int) (r:(List VarType)×Bool×Int),F.f129 w t p deep count=some r->MutCall zQ B 131 [li count] [am zO w,.agg [li t.data,li t.index],.agg [li p.op,li p.ctor,li p.n,li p.m,li p.var,am zR p.kids],li deep,.ptr 0 0] (.tup [am yI r.1,.lit (.bool r.2.1)]) [li r.2.2])/\
  (∀(p:Pattern) (deep:Int) (v:(List Ty)×Bool) (z51:Int) (vars52:List VarType) (i53:Nat) (o:Lo ((List VarType)×Bool×Int) (Int×(List VarType))),F.f131 w p deep v z51 vars52 i53=some o->∀(c:Code),Zc [1,1,1,1,1,1,1,0,1,0,0] (ZJ Tryz.f131)=some c->∀(Q:Exit->ASt->Prop),o.post (fun r=>∀st,ZAR zQ Tryz.f131 (fun r' σ'=>r'.le (.tup [am yI r.1,.lit (.bool r.2.1)])/\ZBP σ' [li r.2.2]) .ret st->Q .ret st) (fun s=>Q (.exit 0) ⟨[(14,.own 3 (zA (α:=VarType) s.2))],[.cells [li s.1],.dead,.dead,.elems 3 (zB yI s.2)]⟩)->ALoopU zQ B 1 114 (hold c .mk) ⟨[(0,am zO w),(3,li deep),(4,.ptr 0 0),(7,.ptr 2 0),(12,am zK v.1),(14,.own 3 (zA (α:=VarType) vars52)),(60,am zR p.kids),(61,li (p.kids.length:Int)),(62,li (i53:Int))],[.cells [li z51],.dead,.cells [li p.op,li p.ctor,li p.n,li p.m,li p.var,am zR p.kids],.elems 3 (zB yI vars52)]⟩ (hold Q .mk))/\
  (∀(p:Pattern) (deep:Int) (v:(List Ty)×Bool) (z:Int) (vars:List VarType) (i:Nat) (o:Lo ((List VarType)×Bool×Int) (Int×(List VarType))),F.f130 w p deep v z vars i=some o->∀(c:Code),Zc [1,1,1,1,1,1,1,0,1,0,0] (ZJ Tryz.f131)=some c->∀(Q:Exit->ASt->Prop),o.post (fun r=>∀st,ZAR zQ Tryz.f131 (fun r' σ'=>r'.le (.tup [am yI r.1,.lit (.bool r.2.1)])/\ZBP σ' [li r.2.2]) .ret st->Q .ret st) (fun s=>Q (.exit 0) ⟨[(14,.own 4 (zA (α:=VarType) s.2))],[.cells [li s.1],.dead,.dead,.dead,.elems 3 (zB yI s.2)]⟩)->ALoopU zQ B 1 114 (hold c .mk) ⟨[(0,am zO w),(3,li deep),(4,.ptr 0 0),(7,.ptr 2 0),(12,am zK v.1),(14,.own 4 (zA (α:=VarType) vars)),(60,am zR p.kids),(61,li (p.kids.length:Int)),(62,li (i:Int))],[.cells [li z],.dead,.cells [li p.op,li p.ctor,li p.n,li p.m,li p.var,am zR p.kids],.dead,.elems 3 (zB yI vars)]⟩ (hold Q .mk))/\
  (∀(p:Pattern) (deep:Int) (v:(List Ty)×Bool) (z98:Int) (vars99:List VarType) (i100:Nat) (o:Lo ((List VarType)×Bool×Int) (Int×(List VarType))),F.f132 w p deep v z98 vars99 i100=some o->∀(c:Code),Zc [1,1,1,1,1,1,1,0,1,0,0] (ZJ Tryz.f131)=some c->∀(Q:Exit->ASt->Prop),o.post (fun r=>∀st,ZAR zQ Tryz.f131 (fun r' σ'=>r'.le (.tup [am yI r.1,.lit (.bool r.2.1)])/\ZBP σ' [li r.2.2]) .ret st->Q .ret st) (fun s=>Q (.exit 0) ⟨[(14,.own 4 (zA (α:=VarType) s.2))],[.cells [li s.1],.dead,.dead,.dead,.elems 3 (zB yI s.2)]⟩)->ALoopU zQ B 1 114 (hold c .mk) ⟨[(0,am zO w),(3,li deep),(4,.ptr 0 0),(7,.ptr 2 0),(12,am zK v.1),(14,.own 4 (zA (α:=VarType) vars99)),(60,am zR p.kids),(61,li (p.kids.length:Int)),(62,li (i100:Int))],[.cells [li z98],.dead,.cells [li p.op,li p.ctor,li p.n,li p.m,li p.var,am zR p.kids],.dead,.elems 3 (zB yI vars99)]⟩ (hold Q .mk)):=by
 refine F.f129.mutual_partial_correctness w
  _ _ _ _
  ?_ ?_ ?_ ?_
 ·intro _f_f131 _f_f130 _f_f132 ih_f131 ih_f130 ih_f132 t p deep count r hF
  refine MutCall.inn func131 rfl ntmps131 ?_
  revert hF;refine kN ?_ ?_<;>intro h1 q2 hF
  ·refine kx2 h1 q2 ?_
   revert hF;refine aS ?_ ?_<;>intro h3 q4 hF
   ·cases hF
    exact kc3 h1 q2 h3
   ·refine kx4 h1 q2 h3 q4 ?_
    apply oB hF;intro v e5 hF
    refine((C.f117 B hB1 hB2 w t p v e5)).goI ?_
    refine kx4 h1 q2 h3 q4 ?_
    revert hF;refine aN (fun h6 q7 hF=> ?_) (fun h6 q7 hF=> ?_)
    ·cases hF
     exact kc6 h1 q2 h3 q4 h6 q7
    ·refine kx6 h1 q2 h3 q4 h6 q7 ?_
     revert hF;refine aN ?_ ?_<;>intro h8 q9 hF
     ·refine kx8 h1 q2 h3 q4 h6 q7 h8 q9 ?_
      revert hF;refine aS ?_ ?_<;>intro h10 q11 hF
      ·refine kx9 h1 q2 h3 q4 h6 q7 h8 q9 h10 ?_
       apply oB hF;intro o' ho36 hF
       refine zJ _ ?_ ((ih_f130 p deep v (i64.wrap (count+1)) [(⟨p.var,t⟩:VarType)] 0 o' ho36) _ rfl _ ?_)
       ·exact(gT (by simp) (by simp -dsimp[h1,q2,h3,q4,h6,q7,h8,q9,h10]))
       rcases o' with r050|sx
       ·dsimp only at hF
        cases hF
        intro st h
        simpa using h
       ·dsimp only at hF
        refine kB hF fun o'48 ho47 hF=> ?_
        refine zJ _ ?_ (((CC.f126 B hB1 hB2 sx) (fun _=>false) 0 o'48 ho47) _ rfl _ ?_)
        ·exact(gT (by simp) (by simp -dsimp))
        rcases o'48 with r0|sx49
        ·dsimp only at hF
         cases hF
         intro st h
         simpa using h
        ·dsimp only at hF
         cases hF
         exact kc0
      ·repeat first|refine cg ?_|simp -dsimp[h1,q2,h3,q4,h6,q7,h8,q9,h10,q11]
       apply oB hF;intro o'80 ho79 hF
       refine zJ ⟨[(0,.arr (zB zO w)),(3,.lit (.int .i64 deep)),(4,.ptr 0 0),(7,.ptr 2 0),(12,.arr (zB zK v.1)),(14,.own 3 (zA (α:=VarType) [])),(60,.arr (zB zR p.kids)),(61,.lit (.int .i64 (p.kids.length:Int))),(62,.lit (.int .i64 0))],[.cells [.lit (.int .i64 (i64.wrap (count+1)))],.dead,.cells [.lit (.int .i64 p.op),.lit (.int .i64 p.ctor),.lit (.int .i64 p.n),.lit (.int .i64 p.m),.lit (.int .i64 p.var),.arr (zB zR p.kids)],.elems 3 (zB yI [])]⟩ (by refine yK (yO 14 3 (by simp -dsimp)) ?_;exact(gT (by simp) (by simp -dsimp[h1,q2,h3,q4,h6,q7,h8,q9,h10,q11]))) ?_
       refine(ih_f131 p deep v (i64.wrap (count+1)) [] 0 o'80 ho79) _ rfl _ ?_
       rcases o'80 with r097|sx81
       ·dsimp only at hF
        cases hF
        intro st h
        simpa using h
       ·dsimp only at hF
        refine kB hF fun o'94 ho93 hF=> ?_
        refine zJ _ ?_ (((CC.f127 B hB1 hB2 sx81) (fun _=>false) 0 o'94 ho93) _ rfl _ ?_)
        ·exact(gT (by simp) (by simp -dsimp))
        rcases o'94 with r096|sx95
        ·dsimp only at hF
         cases hF
         intro st h
         simpa using h
        ·dsimp only at hF
         cases hF
         exact kc0
     ·refine kx8 h1 q2 h3 q4 h6 q7 h8 q9 ?_
      apply oB hF;intro o'127 ho126 hF
      refine zJ _ ?_ ((ih_f132 p deep v (i64.wrap (count+1)) [(⟨p.var,t⟩:VarType)] 0 o'127 ho126) _ rfl _ ?_)
      ·exact(gT (by simp) (by simp -dsimp[h1,q2,h3,q4,h6,q7,h8,q9]))
      rcases o'127 with r0144|sx128
      ·dsimp only at hF
       cases hF
       intro st h
       simpa using h
      ·dsimp only at hF
       refine kB hF fun o'141 ho140 hF=> ?_
       refine zJ _ ?_ (((CC.f128 B hB1 hB2 sx128) (fun _=>false) 0 o'141 ho140) _ rfl _ ?_)
       ·exact(gT (by simp) (by simp -dsimp))
       rcases o'141 with r0143|sx142
       ·dsimp only at hF
        cases hF
        intro st h
        simpa using h
       ·dsimp only at hF
        cases hF
        exact kc0
  ·cases hF
   exact kc2 h1 q2
 ·intro _f_f129 _f_f131 ih_f129 ih_f131 p deep v z51 vars52 i53 o hF
  refine ZP rfl fun Q hq hk hs=> ?_
  have b0:=hk 0
  simp -dsimp at b0
  have b12:=hk 12
  simp -dsimp at b12
  have b60:=hk 60
  simp -dsimp at b60
  have d2:=hs 2 _ rfl
  simp -dsimp[yC]at d2
  have d3:=hs 3 _ rfl
  simp -dsimp[yC]at d3
  clear hk hs
  refine eN ?_
  revert hF;refine kS ?_ ?_<;>intro h54 q55 hF
  ·have z56:((i53:Int)<(p.kids.length:Int)):=auz
   apply oB hF;intro x57 e58 hF
   have le58:=ZA e58
   refine Zb h54 z56 e58 ?_
   refine yF [131] [(0,0),(0,0),(0,0),(0,0),(0,0),(0,0),(0,0),(0,0),(0,0),(0,1),(1,1),(1,1),(1,1),(1,1),(1,1)] [1,1,1,1,1,1,1,1,1,1,1,1,1,1,1] follows ?_
   apply oB hF;intro x59 e60 hF
   have le60:=ZA e60
   refine Zx h54 z56 e58 e60 ?_
   apply oB hF;intro v61 e62 hF
   refine((ih_f129 x59 x57 (i64.wrap (deep+1)) z51 v61 e62)).ego 0 rfl (by simp[h54,z56,↓e58,↓e60]) (by simp) (by simp[h54,z56,↓e58,↓e60]) ?_
   refine Zx h54 z56 e58 e60 ?_
   revert hF;refine aN (fun h63 q64 hF=> ?_) (fun h63 q64 hF=> ?_)
   ·cases hF
    refine ZAD h54 z56 e58 e60 h63 q64 ?_
    refine lG _ (gR _) (hq _ ?_)
    repeat first|refine cg ?_|simp -dsimp[h54,z56,↓e58,↓e60,h63,q64]
   ·refine ZAD h54 z56 e58 e60 h63 q64 ?_
    revert hF;refine aS ?_ ?_<;>intro h65 q66 hF
    ·repeat first|refine cg ?_|simp -dsimp[h54,z56,↓e58,↓e60,h63,q64,h65]
     revert hF;refine aS ?_ ?_<;>intro h67 q68 hF
     ·have z69:((i53:Int)=1):=auz
      repeat first|refine cg ?_|simp -dsimp[h54,z56,↓e58,↓e60,h63,q64,h65,eq_true h67,eq_true z69]
      apply oB hF;intro v70 e71 hF
      refine((C.f125 B hB1 hB2 vars52 v61.1 v70 e71)).lend (by simp -dsimp[h54,z56,↓e58,↓e60,h63,q64,h65,eq_true h67,eq_true z69]) (by simp -dsimp) ?_
      repeat first|refine cg ?_|simp -dsimp[h54,z56,↓e58,↓e60,h63,q64,h65,eq_true h67,eq_true z69]
      revert hF;refine aN (fun h72 q73 hF=> ?_) (fun h72 q73 hF=> ?_)
      ·cases hF
       repeat first|refine cg ?_|simp -dsimp[h54,z56,↓e58,↓e60,h63,q64,h65,eq_true h67,eq_true z69,h72,q73]
       refine lG _ (gR _) (hq _ ?_)
       repeat first|refine cg ?_|simp -dsimp[h54,z56,↓e58,↓e60,h63,q64,h65,eq_true h67,eq_true z69,h72,q73]
      ·have w74:i64.wrap ((i53:Int)+1)=(i53:Int)+1:=ZB (by omega) (by omega)
       repeat first|refine cg ?_|simp -dsimp[h54,z56,↓e58,↓e60,h63,q64,h65,eq_true h67,eq_true z69,h72,q73,w74]
       refine aG _ ?_ ((ih_f131 p deep v v61.2.2 vars52 (i53+1) o hF) _ rfl _ hq)
       exact(gT (by simp) (by simp -dsimp[h54,z56,↓e58,↓e60,h63,q64,h65,eq_true h67,eq_true z69,h72,q73,w74]))
     ·have z69:¬((i53:Int)=1):=auz
      apply oC hF;intro c75 hF
      have w76:i64.wrap ((i53:Int)+1)=(i53:Int)+1:=ZB (by omega) (by omega)
      repeat first|refine cg ?_|simp -dsimp[h54,z56,↓e58,↓e60,h63,q64,h65,h67,q68,z69,w76]
      refine aG _ ?_ ((ih_f131 p deep v v61.2.2 (vars52++v61.1) (i53+1) o hF) _ rfl _ hq)
      exact(gT (by simp) (by simp -dsimp[h54,z56,↓e58,↓e60,h63,q64,h65,h67,q68,z69,w76]))
    ·apply oC hF;intro c77 hF
     have w78:i64.wrap ((i53:Int)+1)=(i53:Int)+1:=ZB (by omega) (by omega)
     repeat first|refine cg ?_|simp -dsimp[h54,z56,↓e58,↓e60,h63,q64,h65,q66,w78]
     refine aG _ ?_ ((ih_f131 p deep v v61.2.2 (vars52++v61.1) (i53+1) o hF) _ rfl _ hq)
     exact(gT (by simp) (by simp -dsimp[h54,z56,↓e58,↓e60,h63,q64,h65,q66,w78]))
  ·have z56:¬((i53:Int)<(p.kids.length:Int)):=auz
   cases hF
   refine kx3 h54 q55 z56 ?_
   refine zF hq
 ·intro _f_f129 _f_f130 ih_f129 ih_f130 p deep v z vars i o hF
  refine ZP rfl fun Q hq hk hs=> ?_
  have b0:=hk 0
  simp -dsimp at b0
  have b12:=hk 12
  simp -dsimp at b12
  have b60:=hk 60
  simp -dsimp at b60
  have d2:=hs 2 _ rfl
  simp -dsimp[yC]at d2
  have d4:=hs 4 _ rfl
  simp -dsimp[yC]at d4
  clear hk hs
  refine eN ?_
  revert hF;refine kS ?_ ?_<;>intro h12 q13 hF
  ·have z14:((i:Int)<(p.kids.length:Int)):=auz
   apply oB hF;intro x e15 hF
   have le15:=ZA e15
   refine Zb h12 z14 e15 ?_
   refine yF [131] [(0,0),(0,0),(0,0),(0,0),(0,0),(0,0),(0,0),(0,0),(0,0),(0,1),(1,1),(1,1),(1,1),(1,1),(1,1)] [1,1,1,1,1,1,1,1,1,1,1,1,1,1,1] follows ?_
   apply oB hF;intro x16 e17 hF
   have le17:=ZA e17
   refine Zx h12 z14 e15 e17 ?_
   apply oB hF;intro v18 e19 hF
   refine((ih_f129 x16 x (i64.wrap (deep+1)) z v18 e19)).ego 0 rfl (by simp[h12,z14,↓e15,↓e17]) (by simp) (by simp[h12,z14,↓e15,↓e17]) ?_
   refine Zx h12 z14 e15 e17 ?_
   revert hF;refine aN (fun h20 q21 hF=> ?_) (fun h20 q21 hF=> ?_)
   ·cases hF
    refine ZAD h12 z14 e15 e17 h20 q21 ?_
    refine lG _ (gR _) (hq _ ?_)
    repeat first|refine cg ?_|simp -dsimp[h12,z14,↓e15,↓e17,h20,q21]
   ·refine ZAD h12 z14 e15 e17 h20 q21 ?_
    revert hF;refine aS ?_ ?_<;>intro h22 q23 hF
    ·repeat first|refine cg ?_|simp -dsimp[h12,z14,↓e15,↓e17,h20,q21,h22]
     revert hF;refine aS ?_ ?_<;>intro h24 q25 hF
     ·have z26:((i:Int)=1):=auz
      repeat first|refine cg ?_|simp -dsimp[h12,z14,↓e15,↓e17,h20,q21,h22,eq_true h24,eq_true z26]
      apply oB hF;intro v27 e28 hF
      refine((C.f125 B hB1 hB2 vars v18.1 v27 e28)).lend (by simp -dsimp[h12,z14,↓e15,↓e17,h20,q21,h22,eq_true h24,eq_true z26]) (by simp -dsimp) ?_
      repeat first|refine cg ?_|simp -dsimp[h12,z14,↓e15,↓e17,h20,q21,h22,eq_true h24,eq_true z26]
      revert hF;refine aN (fun h29 q30 hF=> ?_) (fun h29 q30 hF=> ?_)
      ·cases hF
       repeat first|refine cg ?_|simp -dsimp[h12,z14,↓e15,↓e17,h20,q21,h22,eq_true h24,eq_true z26,h29,q30]
       refine lG _ (gR _) (hq _ ?_)
       repeat first|refine cg ?_|simp -dsimp[h12,z14,↓e15,↓e17,h20,q21,h22,eq_true h24,eq_true z26,h29,q30]
      ·have w31:i64.wrap ((i:Int)+1)=(i:Int)+1:=ZB (by omega) (by omega)
       repeat first|refine cg ?_|simp -dsimp[h12,z14,↓e15,↓e17,h20,q21,h22,eq_true h24,eq_true z26,h29,q30,w31]
       refine aG _ ?_ ((ih_f130 p deep v v18.2.2 vars (i+1) o hF) _ rfl _ hq)
       exact(gT (by simp) (by simp -dsimp[h12,z14,↓e15,↓e17,h20,q21,h22,eq_true h24,eq_true z26,h29,q30,w31]))
     ·have z26:¬((i:Int)=1):=auz
      apply oC hF;intro c32 hF
      have w33:i64.wrap ((i:Int)+1)=(i:Int)+1:=ZB (by omega) (by omega)
      repeat first|refine cg ?_|simp -dsimp[h12,z14,↓e15,↓e17,h20,q21,h22,h24,q25,z26,w33]
      refine aG _ ?_ ((ih_f130 p deep v v18.2.2 (vars++v18.1) (i+1) o hF) _ rfl _ hq)
      exact(gT (by simp) (by simp -dsimp[h12,z14,↓e15,↓e17,h20,q21,h22,h24,q25,z26,w33]))
    ·apply oC hF;intro c34 hF
     have w35:i64.wrap ((i:Int)+1)=(i:Int)+1:=ZB (by omega) (by omega)
     repeat first|refine cg ?_|simp -dsimp[h12,z14,↓e15,↓e17,h20,q21,h22,q23,w35]
     refine aG _ ?_ ((ih_f130 p deep v v18.2.2 (vars++v18.1) (i+1) o hF) _ rfl _ hq)
     exact(gT (by simp) (by simp -dsimp[h12,z14,↓e15,↓e17,h20,q21,h22,q23,w35]))
  ·have z14:¬((i:Int)<(p.kids.length:Int)):=auz
   cases hF
   refine kx3 h12 q13 z14 ?_
   refine zF hq
 ·intro _f_f129 _f_f132 ih_f129 ih_f132 p deep v z98 vars99 i100 o hF
  refine ZP rfl fun Q hq hk hs=> ?_
  have b0:=hk 0
  simp -dsimp at b0
  have b12:=hk 12
  simp -dsimp at b12
  have b60:=hk 60
  simp -dsimp at b60
  have d2:=hs 2 _ rfl
  simp -dsimp[yC]at d2
  have d4:=hs 4 _ rfl
  simp -dsimp[yC]at d4
  clear hk hs
  refine eN ?_
  revert hF;refine kS ?_ ?_<;>intro h101 q102 hF
  ·have z103:((i100:Int)<(p.kids.length:Int)):=auz
   apply oB hF;intro x104 e105 hF
   have le105:=ZA e105
   refine Zb h101 z103 e105 ?_
   refine yF [131] [(0,0),(0,0),(0,0),(0,0),(0,0),(0,0),(0,0),(0,0),(0,0),(0,1),(1,1),(1,1),(1,1),(1,1),(1,1)] [1,1,1,1,1,1,1,1,1,1,1,1,1,1,1] follows ?_
   apply oB hF;intro x106 e107 hF
   have le107:=ZA e107
   refine Zx h101 z103 e105 e107 ?_
   apply oB hF;intro v108 e109 hF
   refine((ih_f129 x106 x104 (i64.wrap (deep+1)) z98 v108 e109)).ego 0 rfl (by simp[h101,z103,↓e105,↓e107]) (by simp) (by simp[h101,z103,↓e105,↓e107]) ?_
   refine Zx h101 z103 e105 e107 ?_
   revert hF;refine aN (fun h110 q111 hF=> ?_) (fun h110 q111 hF=> ?_)
   ·cases hF
    refine ZAD h101 z103 e105 e107 h110 q111 ?_
    refine lG _ (gR _) (hq _ ?_)
    repeat first|refine cg ?_|simp -dsimp[h101,z103,↓e105,↓e107,h110,q111]
   ·refine ZAD h101 z103 e105 e107 h110 q111 ?_
    revert hF;refine aS ?_ ?_<;>intro h112 q113 hF
    ·repeat first|refine cg ?_|simp -dsimp[h101,z103,↓e105,↓e107,h110,q111,h112]
     revert hF;refine aS ?_ ?_<;>intro h114 q115 hF
     ·have z116:((i100:Int)=1):=auz
      repeat first|refine cg ?_|simp -dsimp[h101,z103,↓e105,↓e107,h110,q111,h112,eq_true h114,eq_true z116]
      apply oB hF;intro v117 e118 hF
      refine((C.f125 B hB1 hB2 vars99 v108.1 v117 e118)).lend (by simp -dsimp[h101,z103,↓e105,↓e107,h110,q111,h112,eq_true h114,eq_true z116]) (by simp -dsimp) ?_
      repeat first|refine cg ?_|simp -dsimp[h101,z103,↓e105,↓e107,h110,q111,h112,eq_true h114,eq_true z116]
      revert hF;refine aN (fun h119 q120 hF=> ?_) (fun h119 q120 hF=> ?_)
      ·cases hF
       repeat first|refine cg ?_|simp -dsimp[h101,z103,↓e105,↓e107,h110,q111,h112,eq_true h114,eq_true z116,h119,q120]
       refine lG _ (gR _) (hq _ ?_)
       repeat first|refine cg ?_|simp -dsimp[h101,z103,↓e105,↓e107,h110,q111,h112,eq_true h114,eq_true z116,h119,q120]
      ·have w121:i64.wrap ((i100:Int)+1)=(i100:Int)+1:=ZB (by omega) (by omega)
       repeat first|refine cg ?_|simp -dsimp[h101,z103,↓e105,↓e107,h110,q111,h112,eq_true h114,eq_true z116,h119,q120,w121]
       refine aG _ ?_ ((ih_f132 p deep v v108.2.2 vars99 (i100+1) o hF) _ rfl _ hq)
       exact(gT (by simp) (by simp -dsimp[h101,z103,↓e105,↓e107,h110,q111,h112,eq_true h114,eq_true z116,h119,q120,w121]))
     ·have z116:¬((i100:Int)=1):=auz
      apply oC hF;intro c122 hF
      have w123:i64.wrap ((i100:Int)+1)=(i100:Int)+1:=ZB (by omega) (by omega)
      repeat first|refine cg ?_|simp -dsimp[h101,z103,↓e105,↓e107,h110,q111,h112,h114,q115,z116,w123]
      refine aG _ ?_ ((ih_f132 p deep v v108.2.2 (vars99++v108.1) (i100+1) o hF) _ rfl _ hq)
      exact(gT (by simp) (by simp -dsimp[h101,z103,↓e105,↓e107,h110,q111,h112,h114,q115,z116,w123]))
    ·apply oC hF;intro c124 hF
     have w125:i64.wrap ((i100:Int)+1)=(i100:Int)+1:=ZB (by omega) (by omega)
     repeat first|refine cg ?_|simp -dsimp[h101,z103,↓e105,↓e107,h110,q111,h112,q113,w125]
     refine aG _ ?_ ((ih_f132 p deep v v108.2.2 (vars99++v108.1) (i100+1) o hF) _ rfl _ hq)
     exact(gT (by simp) (by simp -dsimp[h101,z103,↓e105,↓e107,h110,q111,h112,q113,w125]))
  ·have z103:¬((i100:Int)<(p.kids.length:Int)):=auz
   cases hF
   refine kx3 h101 q102 z103 ?_
   refine zF hq
theorem C.f133 (w:List zN)(t:Ty)(p:Pattern)(r:(List VarType)×Bool)(hF:F.f133 w t p=some r):PureCall zQ B 100 [am zO w,.agg [li t.data,li t.index],.agg [li p.op,li p.ctor,li p.n,li p.m,li p.var,am zR p.kids]] (.tup [am yI r.1,.lit (.bool r.2)]):=by
 unfold F.f133 at hF
 refine zG func100 rfl ntmps100 ?_
 refine kB hF fun v e1 hF=> ?_
 refine(((CC.f129 B hB1 hB2 w).1 t p 1 0 v e1)).go 2 rfl (by simp) (by simp) (by simp) ?_
 cases hF
 exact kc0
theorem C.f134 (w:List zN)(t:Ty)(p:Pattern)(r:Bool)(hF:F.f134 w t p=some r):PureCall zQ B 65 [am zO w,.agg [li t.data,li t.index],.agg [li p.op,li p.ctor,li p.n,li p.m,li p.var,am zR p.kids]] (.lit (.bool r)):=by
 unfold F.f134 at hF
 refine pE func65 (by kernel_rfl) rfl ntmps65 (by simp) (by simp) ?_
 refine kB hF fun v e1 hF=> ?_
 refine((C.f133 B hB1 hB2 w t p v e1)).goW (by simp) (by simp) ?_
 cases hF
 repeat first|refine cg ?_|simp -dsimp
 all_goals(try first|omega|rfl)
theorem C.f135 (w:List zN)(t:Ty)(p:Pattern)(r:Bool)(hF:F.f135 w t p=some r):PureCall zQ B 34 [am zO w,.agg [li t.data,li t.index],.agg [li p.op,li p.ctor,li p.n,li p.m,li p.var,am zR p.kids]] (.lit (.bool r)):=by
 unfold F.f135 at hF
 refine pE func34 (by kernel_rfl) rfl ntmps34 (by simp) (by simp) ?_
 refine kB hF fun v e1 hF=> ?_
 refine((C.f106 B hB1 hB2 w t v e1)).goW (by simp) (by simp) ?_
 revert hF;refine kS (fun h2 q3 hF=> ?_) (fun h2 q3 hF=> ?_)
 ·refine kx1 h2 ?_
  apply oB hF;intro v4 e5 hF
  refine((C.f134 B hB1 hB2 w t p v4 e5)).goW (by first|simp[h2];done|simp_all) (by simp) ?_
  cases hF
  repeat first|refine cg ?_|simp -dsimp[h2]
  all_goals(try first|omega|rfl)
 ·cases hF
  repeat first|refine cg ?_|simp -dsimp[h2,q3]
  all_goals(try first|omega|rfl)
theorem C.f136 (d:Nat->Int)(t:Ty)(r:Int)(hF:F.f136 d t=some r):PureCall zQ B 67 [.rptr (fcI 16 d) 0,.agg [li t.data,li t.index]] (li r):=by
 unfold F.f136 at hF
 refine pE func67 (by kernel_rfl) rfl ntmps67 (by simp) (by simp) ?_
 revert hF;refine kS ?_ ?_<;>intro h1 q2 hF
 ·cases hF
  repeat first|refine cg ?_|simp -dsimp[h1]
  all_goals(try first|omega|rfl)
 ·refine kx2 h1 q2 ?_
  refine yD follows (by kernel_rfl) (by kernel_rfl) ?_
  apply oC hF;intro c3 hF
  apply oC hF;intro c4 hF
  have f5:t.data.toNat*4+t.index.toNat<16:=by omega
  cases hF
  repeat first|refine cg ?_|simp -dsimp[h1,q2,c3,c4,f5]
  all_goals(try first|omega|rfl)
theorem CC.f137 (d:Nat->Int)(v:List Ty):(∀(i:Nat) (most:Int) (o:Lo Int Int),F.f137 d v i most=some o->∀(c:Code),Zc [1,1,0,1,0,0] (ZJ Tryz.f102)=some c->∀(Q:Exit->ASt->Prop),o.post (fun r=>∀st,ZAR zQ Tryz.f102 (fun r' _=>r'.le (li r)) .ret st->Q .ret st) (fun s=>Q (.exit 0) ⟨[(9,li s)],[]⟩)->ALoopU zQ B 0 33 (hold c .mk) ⟨[(0,.rptr (fcI 16 d) 0),(9,li most),(16,am zK v),(17,li (v.length:Int)),(18,li (i:Int))],[]⟩ (hold Q .mk)):=by
 refine F.f137.partial_correctness d v
  _
  ?_
 ·intro _f_f137 ih_f137 i most o hF
  intro c hc Q hq
  obtain rfl:c=_:=ZAK hc rfl
  refine yJ fun hk hs=> ?_
  have b16:=hk 16
  simp -dsimp at b16
  clear hk hs
  refine eN ?_
  revert hF;refine kS ?_ ?_<;>intro h2 q3 hF
  ·have z4:((i:Int)<(v.length:Int)):=auz
   apply oB hF;intro x e5 hF
   have le5:=ZA e5
   refine Zb h2 z4 e5 ?_
   apply oB hF;intro v6 e7 hF
   refine((C.f136 B hB1 hB2 d x v6 e7)).goW (by first|simp[h2,z4,↓e5];done|simp_all) (by simp) ?_
   refine Zb h2 z4 e5 ?_
   revert hF;refine aS ?_ ?_<;>intro h8 q9 hF
   ·cases hF
    repeat first|refine cg ?_|simp -dsimp[h2,z4,↓e5,eq_true h8]
    refine lG _ (gR _) (hq _ ?_)
    repeat first|refine cg ?_|simp -dsimp[h2,z4,↓e5,eq_true h8]
   ·have w10:i64.wrap ((i:Int)+1)=(i:Int)+1:=ZB (by omega) (by omega)
    repeat first|refine cg ?_|simp -dsimp[h2,z4,↓e5,h8,q9,w10]
    refine aG _ ?_ ((ih_f137 (i+1) (if v6>most then v6 else most) o hF) _ rfl _ hq)
    exact(gT (by simp) (by first|simp -dsimp[h2,z4,↓e5,h8,q9,w10];done|simp_all))
  ·have z4:¬((i:Int)<(v.length:Int)):=auz
   cases hF
   refine kx3 h2 q3 z4 ?_
   refine lG _ (gT (by simp) (by first|simp -dsimp[h2,q3,z4];done|simp_all)) hq
theorem C.f138 (d:Nat->Int)(w:List zN)(t:Ty)(ctor:Int)(r:Int)(hF:F.f138 d w t ctor=some r):PureCall zQ B 102 [.rptr (fcI 16 d) 0,am zO w,.agg [li t.data,li t.index],li ctor] (li r):=by
 unfold F.f138 at hF
 refine pE func102 (by kernel_rfl) rfl ntmps102 (by simp) (by simp) ?_
 refine kB hF fun v e1 hF=> ?_
 refine((C.f116 B hB1 hB2 w t ctor v e1)).goW (by simp) (by simp) ?_
 refine kB hF fun o' ho11 hF=> ?_
 refine zJ _ ?_ (((CC.f137 B hB1 hB2 d v) 0 0 o' ho11) _ rfl _ ?_)
 ·exact(gT (by simp) (by simp -dsimp))
 rcases o' with r0|sx
 ·dsimp only at hF
  cases hF
  intro st h
  simpa using h
 ·dsimp only at hF
  cases hF
  repeat first|refine cg ?_|simp -dsimp
  all_goals(try first|omega|rfl)
theorem CC.impl_depthsOf__p_l4 (w:List zN)(i:Nat)(index':Nat)(v:List Int):(∀(set'14:Nat->Int) (i15:Nat) (changed16:Bool) (o:(Nat->Int)×Bool),F.f139 w i index' v set'14 i15 changed16=some o->∀(c:Code),Zc [1,1,0,1,0,0,1,0,1,1,0,0,1,1,0,0,1,1,0,0,1,0,0,1,1,0,0] (ZJ Tryz.f66)=some c->∀(Q:Exit->ASt->Prop),(Q (.exit 6) ⟨[(0,am zO w),(3,.ptr 0 0),(4,.lit (.bool o.2)),(5,li (i:Int)),(6,li (index':Int)),(15,li (w.length:Int)),(16,li (i:Int))],[.cells (fcI 16 o.1)]⟩)->ALoopU zQ B 0 64 (hold c .mk) ⟨[(0,am zO w),(3,.ptr 0 0),(4,.lit (.bool changed16)),(5,li (i:Int)),(6,li (index':Int)),(7,.ptr 1 0),(15,li (w.length:Int)),(16,li (i:Int)),(28,am cI v),(29,li (v.length:Int)),(30,li (i15:Int))],[.cells (fcI 16 set'14),.cells [li (i:Int),li (index':Int)]]⟩ (hold Q .mk)):=by
 refine F.f139.partial_correctness w i index' v
  _
  ?_
 ·intro _f_impl_depthsOf__p_l4 ih_impl_depthsOf__p_l4 set'14 i15 changed16 o hF
  intro c hc Q hq
  obtain rfl:c=_:=ZAK hc rfl
  refine yJ fun hk hs=> ?_
  have b0:=hk 0
  simp -dsimp at b0
  have b28:=hk 28
  simp -dsimp at b28
  clear hk hs
  refine eN ?_
  revert hF;refine kS ?_ ?_<;>intro h17 q18 hF
  ·have z19:((i15:Int)<(v.length:Int)):=auz
   apply oB hF;intro x e20 hF
   have le20:=ZA e20
   refine Zb h17 z19 e20 ?_
   apply oB hF;intro v21 e22 hF
   refine((C.f138 B hB1 hB2 set'14 w (⟨(i:Int),(index':Int)⟩:Ty) x v21 e22)).lend (by first|simp -dsimp[h17,z19,↓e20];done|simp_all) (by simp -dsimp) ?_
   refine Zb h17 z19 e20 ?_
   revert hF;refine aS ?_ ?_<;>intro h23 q24 hF
   ·repeat first|refine cg ?_|simp -dsimp[h17,z19,↓e20,h23]
    apply oB hF;intro v25 e26 hF
    refine((C.f136 B hB1 hB2 set'14 (⟨(i:Int),(index':Int)⟩:Ty) v25 e26)).lend (by first|simp -dsimp[h17,z19,↓e20,h23];done|simp_all) (by simp -dsimp) ?_
    repeat first|refine cg ?_|simp -dsimp[h17,z19,↓e20,h23]
    revert hF;refine aN ?_ ?_<;>intro h27 q28 hF
    ·repeat first|refine cg ?_|simp -dsimp[h17,z19,↓e20,h23,h27,q28]
     apply oB hF;intro v29 e30 hF
     refine((C.f136 B hB1 hB2 set'14 (⟨(i:Int),(index':Int)⟩:Ty) v29 e30)).lend (by first|simp -dsimp[h17,z19,↓e20,h23,h27,q28];done|simp_all) (by simp -dsimp) ?_
     repeat first|refine cg ?_|simp -dsimp[h17,z19,↓e20,h23,h27,q28]
     revert hF;refine aS ?_ ?_<;>intro h31 q32 hF
     ·apply oC hF;intro c33 hF
      apply oC hF;intro c34 hF
      have f35:i*4+index'<16:=by omega
      have w36:i64.wrap ((i15:Int)+1)=(i15:Int)+1:=ZB (by omega) (by omega)
      repeat first|refine cg ?_|simp -dsimp[h17,z19,↓e20,h23,h27,q28,h31,c33,c34,f35,w36]
      refine aG _ ?_ ((ih_impl_depthsOf__p_l4 (updF set'14 (i*4+index') v21) (i15+1) true o hF) _ rfl _ hq)
      exact(gT (by simp) (by first|simp -dsimp[h17,z19,↓e20,h23,h27,q28,h31,c33,c34,f35,w36];done|simp_all))
     ·have w37:i64.wrap ((i15:Int)+1)=(i15:Int)+1:=ZB (by omega) (by omega)
      repeat first|refine cg ?_|simp -dsimp[h17,z19,↓e20,h23,h27,q28,h31,q32,w37]
      refine aG _ ?_ ((ih_impl_depthsOf__p_l4 set'14 (i15+1) changed16 o hF) _ rfl _ hq)
      exact(gT (by simp) (by first|simp -dsimp[h17,z19,↓e20,h23,h27,q28,h31,q32,w37];done|simp_all))
    ·apply oC hF;intro c38 hF
     apply oC hF;intro c39 hF
     have f40:i*4+index'<16:=by omega
     have w41:i64.wrap ((i15:Int)+1)=(i15:Int)+1:=ZB (by omega) (by omega)
     repeat first|refine cg ?_|simp -dsimp[h17,z19,↓e20,h23,eq_true h27,eq_true q28,c38,c39,f40,w41]
     refine aG _ ?_ ((ih_impl_depthsOf__p_l4 (updF set'14 (i*4+index') v21) (i15+1) true o hF) _ rfl _ hq)
     exact(gT (by simp) (by first|simp -dsimp[h17,z19,↓e20,h23,eq_true h27,eq_true q28,c38,c39,f40,w41];done|simp_all))
   ·have w42:i64.wrap ((i15:Int)+1)=(i15:Int)+1:=ZB (by omega) (by omega)
    repeat first|refine cg ?_|simp -dsimp[h17,z19,↓e20,h23,q24,w42]
    refine aG _ ?_ ((ih_impl_depthsOf__p_l4 set'14 (i15+1) changed16 o hF) _ rfl _ hq)
    exact(gT (by simp) (by first|simp -dsimp[h17,z19,↓e20,h23,q24,w42];done|simp_all))
  ·have z19:¬((i15:Int)<(v.length:Int)):=auz
   cases hF
   refine kx3 h17 q18 z19 ?_
   refine lG _ (gT (by simp) (by first|simp -dsimp[h17,q18,z19];done|simp_all)) hq
theorem CC.impl_depthsOf__p_l3 (w:List zN)(i:Nat):(∀(set'8:Nat->Int) (changed9:Bool) (index':Nat) (o:(Nat->Int)×Bool),F.f140 w i set'8 changed9 index'=some o->∀(c:Code),Zc [1,1,0,1,0,0,1,0,1,1,0,0,1,1,0,0,1,1,0,0] (ZJ Tryz.f66)=some c->∀(Q:Exit->ASt->Prop),(Q (.exit 4) ⟨[(0,am zO w),(3,.ptr 0 0),(4,.lit (.bool o.2)),(15,li (w.length:Int)),(16,li (i:Int))],[.cells (fcI 16 o.1)]⟩)->ALoopU zQ B 0 64 (hold c .mk) ⟨[(0,am zO w),(3,.ptr 0 0),(4,.lit (.bool changed9)),(5,li (i:Int)),(6,li (index':Int)),(15,li (w.length:Int)),(16,li (i:Int))],[.cells (fcI 16 set'8)]⟩ (hold Q .mk)):=by
 refine F.f140.partial_correctness w i
  _
  ?_
 ·intro _f_impl_depthsOf__p_l3 ih_impl_depthsOf__p_l3 set'8 changed9 index' o hF
  intro c hc Q hq
  obtain rfl:c=_:=ZAK hc rfl
  refine yJ fun hk hs=> ?_
  have b0:=hk 0
  simp -dsimp at b0
  clear hk hs
  refine eN ?_
  revert hF;refine kS ?_ ?_<;>intro h10 q11 hF
  ·have z12:((index':Int)<=3):=auz
   refine kx2 h10 z12 ?_
   apply oB hF;intro v e13 hF
   refine((C.f110 B hB1 hB2 w (⟨(i:Int),(index':Int)⟩:Ty) v e13)).goW (by first|simp[h10,z12];done|simp_all) (by simp) ?_
   refine kx2 h10 z12 ?_
   apply oB hF;intro o' ho43 hF
   refine zJ _ ?_ (((CC.impl_depthsOf__p_l4 B hB1 hB2 w i index' v) set'8 0 changed9 o' ho43) _ rfl _ ?_)
   ·exact(gT (by simp) (by first|simp -dsimp[h10,z12];done|simp_all))
   apply oC hF;intro c44 hF
   have w45:i64.wrap ((index':Int)+1)=(index':Int)+1:=ZB (by omega) (by omega)
   refine kx1 w45 ?_
   refine aG _ ?_ ((ih_impl_depthsOf__p_l3 o'.1 o'.2 (index'+1) o hF) _ rfl _ hq)
   exact(gT (by simp) (by first|simp -dsimp[w45];done|simp_all))
  ·have z12:¬((index':Int)<=3):=auz
   cases hF
   refine kx3 h10 q11 z12 ?_
   refine lG _ (gT (by simp) (by first|simp -dsimp[h10,q11,z12];done|simp_all)) hq
theorem CC.impl_depthsOf__p_l2 (w:List zN):(∀(set'3:Nat->Int) (i:Nat) (changed4:Bool) (o:(Nat->Int)×Bool),F.f141 w set'3 i changed4=some o->∀(c:Code),Zc [1,1,0,1,0,0,1,0,1,1,0,0] (ZJ Tryz.f66)=some c->∀(Q:Exit->ASt->Prop),(Q (.exit 2) ⟨[(0,am zO w),(3,.ptr 0 0),(4,.lit (.bool o.2))],[.cells (fcI 16 o.1)]⟩)->ALoopU zQ B 0 64 (hold c .mk) ⟨[(0,am zO w),(3,.ptr 0 0),(4,.lit (.bool changed4)),(15,li (w.length:Int)),(16,li (i:Int))],[.cells (fcI 16 set'3)]⟩ (hold Q .mk)):=by
 refine F.f141.partial_correctness w
  _
  ?_
 ·intro _f_impl_depthsOf__p_l2 ih_impl_depthsOf__p_l2 set'3 i changed4 o hF
  intro c hc Q hq
  obtain rfl:c=_:=ZAK hc rfl
  refine yJ fun hk hs=> ?_
  have b0:=hk 0
  simp -dsimp at b0
  clear hk hs
  refine eN ?_
  revert hF;refine kS ?_ ?_<;>intro h5 q6 hF
  ·have z7:((i:Int)<(w.length:Int)):=auz
   refine kx2 h5 z7 ?_
   apply oB hF;intro o'47 ho46 hF
   refine zJ _ ?_ (((CC.impl_depthsOf__p_l3 B hB1 hB2 w i) set'3 changed4 0 o'47 ho46) _ rfl _ ?_)
   ·exact(gT (by simp) (by first|simp -dsimp[h5,z7];done|simp_all))
   apply oC hF;intro c48 hF
   have w49:i64.wrap ((i:Int)+1)=(i:Int)+1:=ZB (by omega) (by omega)
   refine kx1 w49 ?_
   refine aG _ ?_ ((ih_impl_depthsOf__p_l2 o'47.1 (i+1) o'47.2 o hF) _ rfl _ hq)
   exact(gT (by simp) (by first|simp -dsimp[w49];done|simp_all))
  ·have z7:¬((i:Int)<(w.length:Int)):=auz
   cases hF
   refine kx3 h5 q6 z7 ?_
   refine lG _ (gT (by simp) (by first|simp -dsimp[h5,q6,z7];done|simp_all)) hq
theorem CC.impl_depthsOf__p_l1 (w:List zN):(∀(set':Nat->Int) (changed:Bool) (o:Nat->Int),F.f142 w set' changed=some o->∀(c:Code),Zc [1,1,0,1,0,0] (ZJ Tryz.f66)=some c->∀(Q:Exit->ASt->Prop),(Q (.exit 0) ⟨[(3,.ptr 0 0)],[.cells (fcI 16 o)]⟩)->ALoopU zQ B 0 64 (hold c .mk) ⟨[(0,am zO w),(3,.ptr 0 0),(4,.lit (.bool changed))],[.cells (fcI 16 set')]⟩ (hold Q .mk)):=by
 refine F.f142.partial_correctness w
  _
  ?_
 ·intro _f_impl_depthsOf__p_l1 ih_impl_depthsOf__p_l1 set' changed o hF
  intro c hc Q hq
  obtain rfl:c=_:=ZAK hc rfl
  refine yJ fun hk hs=> ?_
  have b0:=hk 0
  simp -dsimp at b0
  clear hk hs
  refine eN ?_
  revert hF;refine kS (fun h1 q2 hF=> ?_) (fun h1 q2 hF=> ?_)
  ·refine kx1 h1 ?_
   apply oB hF;intro o'51 ho50 hF
   refine zJ _ ?_ (((CC.impl_depthsOf__p_l2 B hB1 hB2 w) set' 0 false o'51 ho50) _ rfl _ ?_)
   ·exact(gT (by simp) (by first|simp -dsimp[h1];done|simp_all))
   refine kx0 ?_
   refine aG _ ?_ ((ih_impl_depthsOf__p_l1 o'51.1 o'51.2 o hF) _ rfl _ hq)
   exact(gT (by simp) (by simp -dsimp))
  ·cases hF
   refine kx2 h1 q2 ?_
   refine lG _ (gT (by simp) (by first|simp -dsimp[h1,q2];done|simp_all)) hq
theorem C.impl_depthsOf__p (w:List zN)(r:Nat->Int)(hF:F.f143 w=some r):BCall zQ B 66 [] [am zO w] (.ptr 0 0) [.cells (fcI 16 r)]:=by
 unfold F.f143 at hF
 refine BCall.enter func66 (by kernel_rfl) rfl ntmps66 (by simp) rfl (by simp) (by simp) (by simp) (by simp) (by simp) (gR _) ?_
 refine kB hF fun o'53 ho52 hF=> ?_
 refine zJ _ ?_ (((CC.impl_depthsOf__p_l1 B hB1 hB2 w) (fun _=>0) true o'53 ho52) _ rfl _ ?_)
 ·exact(gT (by simp) (by simp -dsimp))
 cases hF
 repeat first|refine cg ?_|simp -dsimp
 all_goals(try first|omega|rfl|(simp;done)|(simp only[List.length_cons,List.length_nil]at*;omega)|simp)
theorem C.f144 (w:List zN)(t:Ty)(p:Pattern)(r:List Ty)(hF:F.f144 w t p=some r):PureCall zQ B 68 [am zO w,.agg [li t.data,li t.index],.agg [li p.op,li p.ctor,li p.n,li p.m,li p.var,am zR p.kids]] (am zK r):=by
 unfold F.f144 at hF
 refine pE func68 (by kernel_rfl) rfl ntmps68 (by simp) (by simp) ?_
 refine kB hF fun v e1 hF=> ?_
 refine((C.f117 B hB1 hB2 w t p v e1)).goW (by simp) (by simp) ?_
 cases hF
 repeat first|refine cg ?_|simp -dsimp
 all_goals(try first|omega|rfl)
theorem CC.f145 (s:ZL):(∀(t:Ty) (p:Pattern) (r:Bool),F.f145 s t p=some r->PureCall zQ B 36 [.rptr [am zO s.f0,.rptr (fcI 16 s.f1) 0] 0,.agg [li t.data,li t.index],.agg [li p.op,li p.ctor,li p.n,li p.m,li p.var,am zR p.kids]] (.lit (.bool r)))/\
  (∀(p:Pattern) (v19:List Ty) (i:Nat) (o:Lo Bool Unit),F.f146 s p v19 i=some o->∀(c:Code),Zc [1,1,0,1,0,0] (ZJ Tryz.f36)=some c->∀(Q:Exit->ASt->Prop),o.post (fun r=>∀st,ZAR zQ Tryz.f36 (fun r' _=>r'.le (.lit (.bool r))) .ret st->Q .ret st) (fun s=>Q (.exit 1) ⟨[],[]⟩)->ALoopU zQ B 0 61 (hold c .mk) ⟨[(0,.rptr [am zO s.f0,.rptr (fcI 16 s.f1) 0] 0),(5,.ptr 1 0),(45,am zK v19),(46,li (v19.length:Int)),(47,li (i:Int))],[.dead,.cells [li p.op,li p.ctor,li p.n,li p.m,li p.var,am zR p.kids]]⟩ (hold Q .mk)):=by
 refine F.f145.mutual_partial_correctness s
  _ _
  ?_ ?_
 ·intro _f_f145 _f_f146 ih_f145 ih_f146 t p r hF
  refine pE func36 (by kernel_rfl) rfl ntmps36 (by simp) (by simp) ?_
  revert hF;refine kS ?_ ?_<;>intro h1 q2 hF
  ·refine kx1 h1 ?_
   refine yD follows (by kernel_rfl) (by kernel_rfl) ?_
   refine kx1 h1 ?_
   apply oB hF;intro v e3 hF
   refine((C.f136 B hB1 hB2 s.f1 t v e3)).pgoW (by first|simp[h1];done|simp_all) (by simp) ?_
   cases hF
   repeat first|refine cg ?_|simp -dsimp[h1]
   all_goals(try first|omega|rfl)
  ·refine kx2 h1 q2 ?_
   revert hF;refine aS ?_ ?_<;>intro h4 q5 hF
   ·refine kx3 h1 q2 h4 ?_
    refine yD follows (by kernel_rfl) (by kernel_rfl) ?_
    refine kx3 h1 q2 h4 ?_
    apply oB hF;intro v6 e7 hF
    refine((C.f136 B hB1 hB2 s.f1 t v6 e7)).pgoW (by first|simp[h1,q2,h4];done|simp_all) (by simp) ?_
    cases hF
    repeat first|refine cg ?_|simp -dsimp[h1,q2,h4]
    all_goals(try first|omega|rfl)
   ·refine kx4 h1 q2 h4 q5 ?_
    revert hF;refine aS ?_ ?_<;>intro h8 q9 hF
    ·refine kx5 h1 q2 h4 q5 h8 ?_
     refine yD follows (by kernel_rfl) (by kernel_rfl) ?_
     apply oB hF;intro x e10 hF
     have le10:=ZA e10
     repeat first|refine cg ?_|simp -dsimp[h1,q2,h4,q5,h8,↓e10]
     apply oB hF;intro v11 e12 hF
     refine((ih_f145 t x v11 e12)).pgoW (by first|simp[h1,q2,h4,q5,h8,↓e10];done|simp_all) (by simp) ?_
     repeat first|refine cg ?_|simp -dsimp[h1,q2,h4,q5,h8,↓e10]
     revert hF;refine aS (fun h13 q14 hF=> ?_) (fun h13 q14 hF=> ?_)
     ·apply oB hF;intro x15 e16 hF
      have le16:=ZA e16
      repeat first|refine cg ?_|simp -dsimp[h1,q2,h4,q5,h8,↓e10,h13,↓e16]
      apply oB hF;intro v17 e18 hF
      refine((ih_f145 t x15 v17 e18)).pgoW (by first|simp[h1,q2,h4,q5,h8,↓e10,h13,↓e16];done|simp_all) (by simp) ?_
      cases hF
      repeat first|refine cg ?_|simp -dsimp[h1,q2,h4,q5,h8,↓e10,h13,↓e16]
      all_goals(try first|omega|rfl)
     ·cases hF
      repeat first|refine cg ?_|simp -dsimp[h1,q2,h4,q5,h8,↓e10,h13,q14]
      all_goals(try first|omega|rfl)
    ·refine kx6 h1 q2 h4 q5 h8 q9 ?_
     refine yD follows (by kernel_rfl) (by kernel_rfl) ?_
     refine kx6 h1 q2 h4 q5 h8 q9 ?_
     apply oB hF;intro v19 e20 hF
     refine((C.f144 B hB1 hB2 s.f0 t p v19 e20)).pgoW (by first|simp[h1,q2,h4,q5,h8,q9];done|simp_all) (by simp) ?_
     refine kx6 h1 q2 h4 q5 h8 q9 ?_
     apply oB hF;intro o' ho33 hF
     refine zJ _ ?_ ((ih_f146 p v19 0 o' ho33) _ rfl _ ?_)
     ·exact(gT (by simp) (by first|simp -dsimp[h1,q2,h4,q5,h8,q9];done|simp_all))
     rcases o' with r0|sx
     ·dsimp only at hF
      cases hF
      intro st h
      simpa using h
     ·dsimp only at hF
      cases hF
      repeat first|refine cg ?_|simp -dsimp
      all_goals(try first|omega|rfl)
 ·intro _f_f145 _f_f146 ih_f145 ih_f146 p v19 i o hF
  intro c hc Q hq
  obtain rfl:c=_:=ZAK hc rfl
  refine yJ fun hk hs=> ?_
  have b45:=hk 45
  simp -dsimp at b45
  have d1:=hs 1 _ rfl
  simp -dsimp[yC]at d1
  clear hk hs
  refine eN ?_
  revert hF;refine kS ?_ ?_<;>intro h21 q22 hF
  ·have z23:((i:Int)<(v19.length:Int)):=auz
   apply oB hF;intro x24 e25 hF
   have le25:=ZA e25
   refine Zb h21 z23 e25 ?_
   refine yD follows (by kernel_rfl) (by kernel_rfl) ?_
   apply oB hF;intro x26 e27 hF
   have le27:=ZA e27
   refine Zx h21 z23 e25 e27 ?_
   apply oB hF;intro v28 e29 hF
   refine((ih_f145 x24 x26 v28 e29)).pgoW (by first|simp[h21,z23,↓e25,↓e27];done|simp_all) (by simp) ?_
   refine Zx h21 z23 e25 e27 ?_
   revert hF;refine aS (fun h30 q31 hF=> ?_) (fun h30 q31 hF=> ?_)
   ·cases hF
    repeat first|refine cg ?_|simp -dsimp[h21,z23,↓e25,↓e27,h30]
    refine lG _ (gR _) (hq _ ?_)
    repeat first|refine cg ?_|simp -dsimp[h21,z23,↓e25,↓e27,h30]
   ·have w32:i64.wrap ((i:Int)+1)=(i:Int)+1:=ZB (by omega) (by omega)
    repeat first|refine cg ?_|simp -dsimp[h21,z23,↓e25,↓e27,h30,q31,w32]
    refine aG _ ?_ ((ih_f146 p v19 (i+1) o hF) _ rfl _ hq)
    exact(gT (by simp) (by first|simp -dsimp[h21,z23,↓e25,↓e27,h30,q31,w32];done|simp_all))
  ·have z23:¬((i:Int)<(v19.length:Int)):=auz
   cases hF
   refine kx3 h21 q22 z23 ?_
   refine lG _ (gT (by simp) (by first|simp -dsimp[h21,q22,z23];done|simp_all)) hq
theorem CC.f147 (s:ZL):(∀(t:Ty) (p:Pattern) (r:Bool),F.f147 s t p=some r->PureCall zQ B 37 [.rptr [am zO s.f0,.rptr (fcI 16 s.f1) 0] 0,.agg [li t.data,li t.index],.agg [li p.op,li p.ctor,li p.n,li p.m,li p.var,am zR p.kids]] (.lit (.bool r)))/\
  (∀(p:Pattern) (v6:List Ty) (i:Nat) (o:Lo Bool Unit),F.f148 s p v6 i=some o->∀(c:Code),Zc [1,1,0,1,0,0] (ZJ Tryz.f37)=some c->∀(Q:Exit->ASt->Prop),o.post (fun r=>∀st,ZAR zQ Tryz.f37 (fun r' _=>r'.le (.lit (.bool r))) .ret st->Q .ret st) (fun s=>Q (.exit 0) ⟨[],[]⟩)->ALoopU zQ B 0 46 (hold c .mk) ⟨[(0,.rptr [am zO s.f0,.rptr (fcI 16 s.f1) 0] 0),(5,.ptr 1 0),(30,am zK v6),(31,li (v6.length:Int)),(32,li (i:Int))],[.dead,.cells [li p.op,li p.ctor,li p.n,li p.m,li p.var,am zR p.kids]]⟩ (hold Q .mk)):=by
 refine F.f147.mutual_partial_correctness s
  _ _
  ?_ ?_
 ·intro _f_f148 ih_f148 t p r hF
  refine pE func37 (by kernel_rfl) rfl ntmps37 (by simp) (by simp) ?_
  revert hF;refine kN ?_ ?_<;>intro h1 q2 hF
  ·refine kx2 h1 q2 ?_
   revert hF;refine aS ?_ ?_<;>intro h3 q4 hF
   ·refine kx3 h1 q2 h3 ?_
    refine yD follows (by kernel_rfl) (by kernel_rfl) ?_
    refine kx3 h1 q2 h3 ?_
    apply oB hF;intro v e5 hF
    refine((C.f136 B hB1 hB2 s.f1 t v e5)).pgoW (by first|simp[h1,q2,h3];done|simp_all) (by simp) ?_
    cases hF
    repeat first|refine cg ?_|simp -dsimp[h1,q2,h3]
    all_goals(try first|omega|rfl)
   ·refine kx4 h1 q2 h3 q4 ?_
    refine yD follows (by kernel_rfl) (by kernel_rfl) ?_
    refine kx4 h1 q2 h3 q4 ?_
    apply oB hF;intro v6 e7 hF
    refine((C.f144 B hB1 hB2 s.f0 t p v6 e7)).pgoW (by first|simp[h1,q2,h3,q4];done|simp_all) (by simp) ?_
    refine kx4 h1 q2 h3 q4 ?_
    apply oB hF;intro o' ho19 hF
    refine zJ _ ?_ ((ih_f148 p v6 0 o' ho19) _ rfl _ ?_)
    ·exact(gT (by simp) (by first|simp -dsimp[h1,q2,h3,q4];done|simp_all))
    rcases o' with r0|sx
    ·dsimp only at hF
     cases hF
     intro st h
     simpa using h
    ·dsimp only at hF
     cases hF
     repeat first|refine cg ?_|simp -dsimp
     all_goals(try first|omega|rfl)
  ·refine kx2 h1 q2 ?_
   refine yD follows (by kernel_rfl) (by kernel_rfl) ?_
   refine kx2 h1 q2 ?_
   apply oB hF;intro v20 e21 hF
   refine((C.f136 B hB1 hB2 s.f1 t v20 e21)).pgoW (by first|simp[h1,q2];done|simp_all) (by simp) ?_
   cases hF
   repeat first|refine cg ?_|simp -dsimp[h1,q2]
   all_goals(try first|omega|rfl)
 ·intro _f_f147 _f_f148 ih_f147 ih_f148 p v6 i o hF
  intro c hc Q hq
  obtain rfl:c=_:=ZAK hc rfl
  refine yJ fun hk hs=> ?_
  have b30:=hk 30
  simp -dsimp at b30
  have d1:=hs 1 _ rfl
  simp -dsimp[yC]at d1
  clear hk hs
  refine eN ?_
  revert hF;refine kS ?_ ?_<;>intro h8 q9 hF
  ·have z10:((i:Int)<(v6.length:Int)):=auz
   apply oB hF;intro x e11 hF
   have le11:=ZA e11
   refine Zb h8 z10 e11 ?_
   refine yD follows (by kernel_rfl) (by kernel_rfl) ?_
   apply oB hF;intro x12 e13 hF
   have le13:=ZA e13
   refine Zx h8 z10 e11 e13 ?_
   apply oB hF;intro v14 e15 hF
   refine((ih_f147 x x12 v14 e15)).pgoW (by first|simp[h8,z10,↓e11,↓e13];done|simp_all) (by simp) ?_
   refine Zx h8 z10 e11 e13 ?_
   revert hF;refine aS (fun h16 q17 hF=> ?_) (fun h16 q17 hF=> ?_)
   ·cases hF
    repeat first|refine cg ?_|simp -dsimp[h8,z10,↓e11,↓e13,h16]
    refine lG _ (gR _) (hq _ ?_)
    repeat first|refine cg ?_|simp -dsimp[h8,z10,↓e11,↓e13,h16]
   ·have w18:i64.wrap ((i:Int)+1)=(i:Int)+1:=ZB (by omega) (by omega)
    repeat first|refine cg ?_|simp -dsimp[h8,z10,↓e11,↓e13,h16,q17,w18]
    refine aG _ ?_ ((ih_f148 p v6 (i+1) o hF) _ rfl _ hq)
    exact(gT (by simp) (by first|simp -dsimp[h8,z10,↓e11,↓e13,h16,q17,w18];done|simp_all))
  ·have z10:¬((i:Int)<(v6.length:Int)):=auz
   cases hF
   refine kx3 h8 q9 z10 ?_
   refine lG _ (gT (by simp) (by first|simp -dsimp[h8,q9,z10];done|simp_all)) hq
theorem C.impl_number__f (n:Int)(r:Vl.Value)(hF:F.f149 n=some r):FCall zQ B 70 [li n] (.agg [li r.ctor,li r.n,am Vl.Value.c r.kids]):=by
 unfold F.f149 at hF
 refine FCall.enterG func70 (by kernel_rfl) rfl ntmps70 (by simp) (yL .nil) ?_
 cases hF
 refine kx0 ?_
 exact⟨_,by decide,(.agg (.lit _ (.lit _ (.nilS none 0 .nil))) .nil:CT _ _ _ _)⟩
theorem CC.impl_least__f (w:List zN)(d:Nat->Int):(∀(t:Ty) (r:Vl.Value),F.f150 w d t=some r->FCall zQ B 69 [am zO w,.rptr (fcI 16 d) 0,.agg [li t.data,li t.index]] (.agg [li r.ctor,li r.n,am Vl.Value.c r.kids]))/\
  (∀(t:Ty) (v4:List Int) (i:Nat) (o:Lo Vl.Value Unit),F.f151 w d t v4 i=some o->∀(c:Code),Zc [1,1,0,1,0,0] (ZJ Tryz.f69)=some c->∀(Q:Exit->ASt->Prop),o.post (fun r=>∀st,ZJ6 zQ Tryz.f69 (.agg [li r.ctor,li r.n,am Vl.Value.c r.kids]) .ret st->Q .ret st) (fun s=>Q (.exit 0) ⟨[(6,.ptr 2 0)],[.pack [] [],.dead,.cells [li 0,li 0,.lit (.slice none 0 0)]]⟩)->ALoopU zQ B 0 57 (hold c .mk) ⟨[(0,am zO w),(1,.rptr (fcI 16 d) 0),(5,.ptr 1 0),(6,.ptr 2 0),(18,am cI v4),(19,li (v4.length:Int)),(20,li (i:Int))],[.pack [] [],.cells [li t.data,li t.index],.cells [li 0,li 0,.lit (.slice none 0 0)]]⟩ (hold Q .mk))/\
  (∀(x:Int) (v17:List Ty) (out:List Vl.Value) (i20:Nat) (o:List Vl.Value),F.f152 w d x v17 out i20=some o->∀(R:List (List AV)),∀(U:List Value),RW 3 (zA (α:=Vl.Value) out) R U->∀(c:Code),Zc [1,1,0,1,0,0,1,1,0,0,1,1,1,0,1,0,0] (ZJ Tryz.f69)=some c->∀(Q:Exit->ASt->Prop),(∀(Rq:List (List AV)) (Uq:List Value),RW 3 (zA (α:=Vl.Value) o) Rq Uq->Q (.exit 2) ⟨[(6,.ptr 2 0),(9,.ptr 3 0)],[.pack [] [],.dead,.cells [li 0,li 0,.lit (.slice none 0 0)],.cells [li x,li 0,.own 4 (zA (α:=Vl.Value) o)],.elems 3 Rq,.pack (List.flatten (zB Vl.Value.c o)) Uq]⟩)->ALoopU zQ B 0 57 (hold c .mk) ⟨[(0,am zO w),(1,.rptr (fcI 16 d) 0),(6,.ptr 2 0),(9,.ptr 3 0),(38,am zK v17),(39,li (v17.length:Int)),(40,li (i20:Int))],[.pack [] [],.dead,.cells [li 0,li 0,.lit (.slice none 0 0)],.cells [li x,li 0,.own 4 (zA (α:=Vl.Value) out)],.elems 3 R,.pack (List.flatten (zB Vl.Value.c out)) U]⟩ (hold Q .mk)):=by
 refine F.f150.mutual_partial_correctness w d
  _ _ _
  ?_ ?_ ?_
 ·intro _f_impl_least__f_l1 ih_impl_least__f_l1 t r hF
  refine FCall.enterG func69 (by kernel_rfl) rfl ntmps69 (by simp) (yL .nil) ?_
  revert hF;refine kS ?_ ?_<;>intro h1 q2 hF
  ·refine kx1 h1 ?_
   apply oB hF;intro v e3 hF
   refine((C.impl_number__f B hB1 hB2 0 v e3)).go1 (by first|simp -dsimp[h1];done|simp_all) (by simp) (fun h o_h=> ?_)
   cases hF
   refine kx2 h1 o_h ?_
   exact⟨_,by decide,(.agg (.lit _ (.lit _ (.pk 3 rfl .nil))) .nil:CT _ _ _ _)⟩
  ·refine kx2 h1 q2 ?_
   apply oB hF;intro v4 e5 hF
   refine((C.f110 B hB1 hB2 w t v4 e5)).goW (by first|simp[h1,q2];done|simp_all) (by simp) ?_
   refine kx2 h1 q2 ?_
   apply oB hF;intro o'34 ho33 hF
   refine zJ _ ?_ ((ih_impl_least__f_l1 t v4 0 o'34 ho33) _ rfl _ ?_)
   ·exact(gT (by simp) (by first|simp -dsimp[h1,q2];done|simp_all))
   rcases o'34 with r0|sx
   ·dsimp only at hF
    cases hF
    intro st h
    simpa using h
   ·dsimp only at hF
    cases hF
    refine kx0 ?_
    exact⟨_,by decide,(.agg (.lit _ (.lit _ (.nilS none 0 .nil))) .nil:CT _ _ _ _)⟩
 ·intro _f_impl_least__f_l1 _f_impl_least__f_l2 ih_impl_least__f_l1 ih_impl_least__f_l2 t v4 i o hF
  intro c hc Q hq
  obtain rfl:c=_:=ZAK hc rfl
  refine yJ fun hk hs=> ?_
  have b0:=hk 0
  simp -dsimp at b0
  have b18:=hk 18
  simp -dsimp at b18
  clear hk hs
  refine eN ?_
  revert hF;refine kS ?_ ?_<;>intro h6 q7 hF
  ·have z8:((i:Int)<(v4.length:Int)):=auz
   apply oB hF;intro x e9 hF
   have le9:=ZA e9
   refine Zb h6 z8 e9 ?_
   refine yD follows (by kernel_rfl) (by kernel_rfl) ?_
   refine Zb h6 z8 e9 ?_
   apply oB hF;intro v10 e11 hF
   refine((C.f138 B hB1 hB2 d w t x v10 e11)).pgoW (by first|simp[h6,z8,↓e9];done|simp_all) (by simp) ?_
   refine Zb h6 z8 e9 ?_
   apply oB hF;intro v12 e13 hF
   refine((C.f136 B hB1 hB2 d t v12 e13)).pgoW (by first|simp[h6,z8,↓e9];done|simp_all) (by simp) ?_
   refine Zb h6 z8 e9 ?_
   revert hF;refine aN ?_ ?_<;>intro h14 q15 hF
   ·have w16:i64.wrap ((i:Int)+1)=(i:Int)+1:=ZB (by omega) (by omega)
    repeat first|refine cg ?_|simp -dsimp[h6,z8,↓e9,h14,q15,w16]
    refine aG _ ?_ ((ih_impl_least__f_l1 t v4 (i+1) o hF) _ rfl _ hq)
    exact(gT (by simp) (by first|simp -dsimp[h6,z8,↓e9,h14,q15,w16];done|simp_all))
   ·repeat first|refine cg ?_|simp -dsimp[h6,z8,↓e9,h14,q15]
    apply oB hF;intro v17 e18 hF
    refine((C.f116 B hB1 hB2 w t x v17 e18)).goW (by first|simp[h6,z8,↓e9,h14,q15];done|simp_all) (by simp) ?_
    repeat first|refine cg ?_|simp -dsimp[h6,z8,↓e9,h14,q15]
    apply oB hF;intro o' ho32 hF
    refine zJ ⟨[(0,.arr (zB zO w)),(1,.rptr (fcI 16 d) 0),(6,.ptr 2 0),(9,.ptr 3 0),(38,.arr (zB zK v17)),(39,.lit (.int .i64 (v17.length:Int))),(40,.lit (.int .i64 0))],[.pack [] [],.dead,.cells [.lit (.int .i64 0),.lit (.int .i64 0),.lit (.slice none 0 0)],.cells [.lit (.int .i64 x),.lit (.int .i64 0),.own 4 (zA (α:=Vl.Value) [])],.elems 3 [],.pack (List.flatten (zB Vl.Value.c [])) []]⟩ (by refine yK (yM 3 2 3 (by simp -dsimp;rfl) (by simp -dsimp)) ?_;refine yK (yL .nil) ?_;exact(gT (by simp) (by first|simp -dsimp[h6,z8,↓e9,h14,q15];done|simp_all))) ?_
    refine(ih_impl_least__f_l2 x v17 [] 0 o' ho32) [] [] RW.nil _ rfl _ ?_
    intro Rq Uq Hq21
    cases hF
    repeat first|refine cg ?_|simp -dsimp[RW.len Hq21,RW.closed Hq21]
    refine lG _ (gR _) (hq _ ?_)
    repeat first|refine cg ?_|simp -dsimp[RW.len Hq21,RW.closed Hq21]
    exact⟨_,by decide,(.agg (.lit _ (.lit _ (.ownP 4 _ 3 rfl (by simp) (.blk 5 rfl .nil) (by simp[Hq21.2.2]) (by simp[Hq21.1]) (by simp) (by simp) .nil))) .nil:CT _ _ _ _)⟩
  ·have z8:¬((i:Int)<(v4.length:Int)):=auz
   cases hF
   refine kx3 h6 q7 z8 ?_
   refine lG _ (gT (by simp) (by first|simp -dsimp[h6,q7,z8];done|simp_all)) hq
 ·intro _f_impl_least__f _f_impl_least__f_l2 ih_impl_least__f ih_impl_least__f_l2 x v17 out i20 o hF
  intro R U H19 c hc Q hq
  obtain rfl:c=_:=ZAK hc rfl
  refine yJ fun hk hs=> ?_
  have b0:=hk 0
  simp -dsimp at b0
  have b38:=hk 38
  simp -dsimp at b38
  have d4:=hs 4 _ rfl
  simp -dsimp[yC]at d4
  clear hk hs
  refine eN ?_
  repeat first|refine cg ?_|simp -dsimp[RW.len H19,RW.closed H19]
  revert hF;refine aS ?_ ?_<;>intro h22 q23 hF
  ·have z24:((i20:Int)<(v17.length:Int)):=auz
   apply oB hF;intro x25 e26 hF
   have le26:=ZA e26
   repeat first|refine cg ?_|simp -dsimp[RW.len H19,RW.closed H19,h22,z24,↓e26]
   refine yG [69] [(0,2),(0,2),(0,0),(0,0),(0,0),(0,4),(0,4),(0,4),(3,3),(0,4)] [0,2,1,1,1,1,1,1,1,1] 5 (by decide) follows (by kernel_rfl) (by kernel_rfl) (by kernel_rfl) (by kernel_rfl) (by kernel_rfl) rfl ?_
   repeat first|refine cg ?_|simp -dsimp[RW.len H19,RW.closed H19,h22,z24,↓e26]
   apply oB hF;intro v27 e28 hF
   refine((ih_impl_least__f x25 v27 e28)).ngo1 (by first|simp -dsimp[RW.len H19,RW.closed H19,h22,z24,↓e26];done|simp_all) (by simp) (fun h29 o_h29=> ?_)
   apply oC hF;intro c30 hF
   have w31:i64.wrap ((i20:Int)+1)=(i20:Int)+1:=ZB (by omega) (by omega)
   repeat first|refine cg ?_|simp -dsimp[RW.len H19,RW.closed H19,h22,z24,↓e26,o_h29,w31]
   refine aG ⟨[(0,.arr (zB zO w)),(1,.rptr (fcI 16 d) 0),(6,.ptr 2 0),(9,.ptr 3 0),(38,.arr (zB zK v17)),(39,.lit (.int .i64 (v17.length:Int))),(40,.lit (.int .i64 ((i20+1):Int)))],[.pack [] [],.dead,.cells [.lit (.int .i64 0),.lit (.int .i64 0),.lit (.slice none 0 0)],.cells [.lit (.int .i64 x),.lit (.int .i64 0),.own 4 (zA (α:=Vl.Value) (out++[v27]))],.elems 3 (R++[[.lit (.int .i64 v27.ctor),.lit (.int .i64 v27.n),.lit h29]]),.pack (List.flatten (zB Vl.Value.c (out++[v27]))) (U++[.int .i64 v27.ctor,.int .i64 v27.n,h29])]⟩ (by refine yK (yP 5 [7] (by exact rfl) (.lit (.int .i64 v27.ctor) (.lit (.int .i64 v27.n) (.pk 7 (by exact rfl) .nil))) (by decide)) ?_;exact(gT (by simp) (by first|simp -dsimp[RW.len H19,RW.closed H19,h22,z24,↓e26,o_h29,w31];done|simp_all))) ?_
   exact(ih_impl_least__f_l2 x v17 (out++[v27]) (i20+1) o hF) (R++[[.lit (.int .i64 v27.ctor),.lit (.int .i64 v27.n),.lit h29]]) (U++[.int .i64 v27.ctor,.int .i64 v27.n,h29]) ((RW.snoc H19 [.int .i64 v27.ctor,.int .i64 v27.n,h29] rfl).cong (by simp) (by simp) rfl) _ rfl _ hq
  ·have z24:¬((i20:Int)<(v17.length:Int)):=auz
   cases hF
   repeat first|refine cg ?_|simp -dsimp[RW.len H19,RW.closed H19,h22,q23,z24]
   refine lG ⟨[(6,.ptr 2 0),(9,.ptr 3 0)],[.pack [] [],.dead,.cells [.lit (.int .i64 0),.lit (.int .i64 0),.lit (.slice none 0 0)],.cells [.lit (.int .i64 x),.lit (.int .i64 0),.own 4 (zA (α:=Vl.Value) out)],.elems 3 R,.pack (List.flatten (zB Vl.Value.c out)) U]⟩ (gT (by simp) (by first|simp -dsimp[RW.len H19,RW.closed H19,h22,q23,z24];done|simp_all)) ?_
   exact hq R U H19
theorem CC.impl_spaces_sample__f (s:ZL):(∀(t:Ty) (p:Pattern) (r:Vl.Value),F.f153 s t p=some r->FCall zQ B 38 [.rptr [am zO s.f0,.rptr (fcI 16 s.f1) 0] 0,.agg [li t.data,li t.index],.agg [li p.op,li p.ctor,li p.n,li p.m,li p.var,am zR p.kids]] (.agg [li r.ctor,li r.n,am Vl.Value.c r.kids]))/\
  (∀(p:Pattern) (v36:List Ty) (out:List Vl.Value) (i:Nat) (o:List Vl.Value),F.f154 s p v36 out i=some o->∀(R:List (List AV)),∀(U:List Value),RW 3 (zA (α:=Vl.Value) out) R U->∀(c:Code),Zc [1,1,1,0,1,0,0] (ZJ Tryz.f38)=some c->∀(Q:Exit->ASt->Prop),(∀(Rq:List (List AV)) (Uq:List Value),RW 3 (zA (α:=Vl.Value) o) Rq Uq->Q (.exit 1) ⟨[(6,.ptr 3 0),(7,.ptr 4 0)],[.pack [] [],.dead,.dead,.cells [li 0,li 0,.lit (.slice none 0 0)],.cells [li p.ctor,li 0,.own 5 (zA (α:=Vl.Value) o)],.elems 3 Rq,.pack (List.flatten (zB Vl.Value.c o)) Uq]⟩)->ALoopU zQ B 0 94 (hold c .mk) ⟨[(0,.rptr [am zO s.f0,.rptr (fcI 16 s.f1) 0] 0),(5,.ptr 2 0),(6,.ptr 3 0),(7,.ptr 4 0),(72,am zK v36),(73,li (v36.length:Int)),(74,li (i:Int))],[.pack [] [],.dead,.cells [li p.op,li p.ctor,li p.n,li p.m,li p.var,am zR p.kids],.cells [li 0,li 0,.lit (.slice none 0 0)],.cells [li p.ctor,li 0,.own 5 (zA (α:=Vl.Value) out)],.elems 3 R,.pack (List.flatten (zB Vl.Value.c out)) U]⟩ (hold Q .mk)):=by
 refine F.f153.mutual_partial_correctness s
  _ _
  ?_ ?_
 ·intro _f_impl_spaces_sample__f _f_impl_spaces_sample__f_l1 ih_impl_spaces_sample__f ih_impl_spaces_sample__f_l1 t p r hF
  refine FCall.enterG func38 (by kernel_rfl) rfl ntmps38 (by simp) (yL .nil) ?_
  revert hF;refine kS ?_ ?_<;>intro h1 q2 hF
  ·refine kx1 h1 ?_
   refine yG [69] [(0,0),(0,0),(0,0),(0,0),(0,0),(0,0),(0,0),(0,0),(0,0),(0,2),(0,2)] [1,1,1,1,1,1,1,1,1,1,1] 9 (by decide) follows (by kernel_rfl) (by kernel_rfl) (by kernel_rfl) (by kernel_rfl) (by kernel_rfl) rfl ?_
   refine kx1 h1 ?_
   apply oB hF;intro v e3 hF
   refine(((CC.impl_least__f B hB1 hB2 s.f0 s.f1).1 t v e3)).ngo1 (by first|simp -dsimp[h1];done|simp_all) (by simp) (fun h o_h=> ?_)
   cases hF
   refine kx2 h1 o_h ?_
   exact⟨_,by decide,(.agg (.lit _ (.lit _ (.pk 4 rfl .nil))) .nil:CT _ _ _ _)⟩
  ·refine kx2 h1 q2 ?_
   revert hF;refine aS ?_ ?_<;>intro h4 q5 hF
   ·refine kx3 h1 q2 h4 ?_
    refine yG [69] [(0,0),(0,0),(0,0),(0,0),(0,0),(0,0),(0,0),(0,0),(0,0),(0,2),(0,2)] [1,1,1,1,1,1,1,1,1,1,1] 9 (by decide) follows (by kernel_rfl) (by kernel_rfl) (by kernel_rfl) (by kernel_rfl) (by kernel_rfl) rfl ?_
    refine kx3 h1 q2 h4 ?_
    apply oB hF;intro v6 e7 hF
    refine(((CC.impl_least__f B hB1 hB2 s.f0 s.f1).1 t v6 e7)).ngo1 (by first|simp -dsimp[h1,q2,h4];done|simp_all) (by simp) (fun h8 o_h8=> ?_)
    cases hF
    refine kx4 h1 q2 h4 o_h8 ?_
    exact⟨_,by decide,(.agg (.lit _ (.lit _ (.pk 4 rfl .nil))) .nil:CT _ _ _ _)⟩
   ·refine kx4 h1 q2 h4 q5 ?_
    revert hF;refine aS ?_ ?_<;>intro h9 q10 hF
    ·refine kx5 h1 q2 h4 q5 h9 ?_
     apply oB hF;intro v11 e12 hF
     refine((C.impl_number__f B hB1 hB2 p.n v11 e12)).go1 (by first|simp -dsimp[h1,q2,h4,q5,h9];done|simp_all) (by simp) (fun h13 o_h13=> ?_)
     cases hF
     refine kx6 h1 q2 h4 q5 h9 o_h13 ?_
     exact⟨_,by decide,(.agg (.lit _ (.lit _ (.pk 4 rfl .nil))) .nil:CT _ _ _ _)⟩
    ·refine kx6 h1 q2 h4 q5 h9 q10 ?_
     revert hF;refine aS ?_ ?_<;>intro h14 q15 hF
     ·refine kx7 h1 q2 h4 q5 h9 q10 h14 ?_
      refine yG [38] [(0,0),(0,0),(0,0),(0,0),(0,0),(0,0),(0,2),(0,2)] [1,1,1,1,1,1,1,1] 6 (by decide) follows (by kernel_rfl) (by kernel_rfl) (by kernel_rfl) (by kernel_rfl) (by kernel_rfl) rfl ?_
      apply oB hF;intro x e16 hF
      have le16:=ZA e16
      repeat first|refine cg ?_|simp -dsimp[h1,q2,h4,q5,h9,q10,h14,↓e16]
      apply oB hF;intro v17 e18 hF
      refine((ih_impl_spaces_sample__f t x v17 e18)).ngo1 (by first|simp -dsimp[h1,q2,h4,q5,h9,q10,h14,↓e16];done|simp_all) (by simp) (fun h19 o_h19=> ?_)
      cases hF
      repeat first|refine cg ?_|simp -dsimp[h1,q2,h4,q5,h9,q10,h14,↓e16,o_h19]
      exact⟨_,by decide,(.agg (.lit _ (.lit _ (.pk 4 rfl .nil))) .nil:CT _ _ _ _)⟩
     ·refine kx8 h1 q2 h4 q5 h9 q10 h14 q15 ?_
      revert hF;refine aS ?_ ?_<;>intro h20 q21 hF
      ·refine kx9 h1 q2 h4 q5 h9 q10 h14 q15 h20 ?_
       refine yD follows (by kernel_rfl) (by kernel_rfl) ?_
       apply oB hF;intro x22 e23 hF
       have le23:=ZA e23
       repeat first|refine cg ?_|simp -dsimp[h1,q2,h4,q5,h9,q10,h14,q15,h20,↓e23]
       apply oB hF;intro v24 e25 hF
       refine(((CC.f145 B hB1 hB2 s).1 t x22 v24 e25)).pgoW (by first|simp[h1,q2,h4,q5,h9,q10,h14,q15,h20,↓e23];done|simp_all) (by simp) ?_
       repeat first|refine cg ?_|simp -dsimp[h1,q2,h4,q5,h9,q10,h14,q15,h20,↓e23]
       revert hF;refine aS (fun h26 q27 hF=> ?_) (fun h26 q27 hF=> ?_)
       ·repeat first|refine cg ?_|simp -dsimp[h1,q2,h4,q5,h9,q10,h14,q15,h20,↓e23,h26]
        refine yG [38] [(0,0),(0,0),(0,0),(0,0),(0,0),(0,0),(0,2),(0,2)] [1,1,1,1,1,1,1,1] 6 (by decide) follows (by kernel_rfl) (by kernel_rfl) (by kernel_rfl) (by kernel_rfl) (by kernel_rfl) rfl ?_
        apply oB hF;intro x28 e29 hF
        have le29:=ZA e29
        repeat first|refine cg ?_|simp -dsimp[h1,q2,h4,q5,h9,q10,h14,q15,h20,↓e23,h26,↓e29]
        apply oB hF;intro v30 e31 hF
        refine((ih_impl_spaces_sample__f t x28 v30 e31)).ngo1 (by first|simp -dsimp[h1,q2,h4,q5,h9,q10,h14,q15,h20,↓e23,h26,↓e29];done|simp_all) (by simp) (fun h32 o_h32=> ?_)
        cases hF
        repeat first|refine cg ?_|simp -dsimp[h1,q2,h4,q5,h9,q10,h14,q15,h20,↓e23,h26,↓e29,o_h32]
        exact⟨_,by decide,(.agg (.lit _ (.lit _ (.pk 4 rfl .nil))) .nil:CT _ _ _ _)⟩
       ·repeat first|refine cg ?_|simp -dsimp[h1,q2,h4,q5,h9,q10,h14,q15,h20,↓e23,h26,q27]
        refine yG [38] [(0,0),(0,0),(0,0),(0,0),(0,0),(0,0),(0,2),(0,2)] [1,1,1,1,1,1,1,1] 6 (by decide) follows (by kernel_rfl) (by kernel_rfl) (by kernel_rfl) (by kernel_rfl) (by kernel_rfl) rfl ?_
        repeat first|refine cg ?_|simp -dsimp[h1,q2,h4,q5,h9,q10,h14,q15,h20,↓e23,h26,q27]
        apply oB hF;intro v33 e34 hF
        refine((ih_impl_spaces_sample__f t x22 v33 e34)).ngo1 (by first|simp -dsimp[h1,q2,h4,q5,h9,q10,h14,q15,h20,↓e23,h26,q27];done|simp_all) (by simp) (fun h35 o_h35=> ?_)
        cases hF
        repeat first|refine cg ?_|simp -dsimp[h1,q2,h4,q5,h9,q10,h14,q15,h20,↓e23,h26,q27,o_h35]
        exact⟨_,by decide,(.agg (.lit _ (.lit _ (.pk 4 rfl .nil))) .nil:CT _ _ _ _)⟩
      ·repeat first|refine cg ?_|simp -dsimp[h1,q2,h4,q5,h9,q10,h14,q15,h20,q21]
       refine yD follows (by kernel_rfl) (by kernel_rfl) ?_
       repeat first|refine cg ?_|simp -dsimp[h1,q2,h4,q5,h9,q10,h14,q15,h20,q21]
       apply oB hF;intro v36 e37 hF
       refine((C.f116 B hB1 hB2 s.f0 t p.ctor v36 e37)).pgoW (by first|simp[h1,q2,h4,q5,h9,q10,h14,q15,h20,q21];done|simp_all) (by simp) ?_
       repeat first|refine cg ?_|simp -dsimp[h1,q2,h4,q5,h9,q10,h14,q15,h20,q21]
       apply oB hF;intro o' ho52 hF
       refine zJ ⟨[(0,.rptr [.arr (zB zO s.f0),.rptr (fcI 16 s.f1) 0] 0),(5,.ptr 2 0),(6,.ptr 3 0),(7,.ptr 4 0),(72,.arr (zB zK v36)),(73,.lit (.int .i64 (v36.length:Int))),(74,.lit (.int .i64 0))],[.pack [] [],.dead,.cells [.lit (.int .i64 p.op),.lit (.int .i64 p.ctor),.lit (.int .i64 p.n),.lit (.int .i64 p.m),.lit (.int .i64 p.var),.arr (zB zR p.kids)],.cells [.lit (.int .i64 0),.lit (.int .i64 0),.lit (.slice none 0 0)],.cells [.lit (.int .i64 p.ctor),.lit (.int .i64 0),.own 5 (zA (α:=Vl.Value) [])],.elems 3 [],.pack (List.flatten (zB Vl.Value.c [])) []]⟩ (by refine yK (yM 4 2 3 (by simp -dsimp;rfl) (by simp -dsimp)) ?_;refine yK (yL .nil) ?_;exact(gT (by simp) (by first|simp -dsimp[h1,q2,h4,q5,h9,q10,h14,q15,h20,q21];done|simp_all))) ?_
       refine(ih_impl_spaces_sample__f_l1 p v36 [] 0 o' ho52) [] [] RW.nil _ rfl _ ?_
       intro Rq Uq Hq39
       cases hF
       repeat first|refine cg ?_|simp -dsimp[RW.len Hq39,RW.closed Hq39]
       exact⟨_,by decide,(.agg (.lit _ (.lit _ (.ownP 5 _ 3 rfl (by simp) (.blk 6 rfl .nil) (by simp[Hq39.2.2]) (by simp[Hq39.1]) (by simp) (by simp) .nil))) .nil:CT _ _ _ _)⟩
 ·intro _f_impl_spaces_sample__f _f_impl_spaces_sample__f_l1 ih_impl_spaces_sample__f ih_impl_spaces_sample__f_l1 p v36 out i o hF
  intro R U H38 c hc Q hq
  obtain rfl:c=_:=ZAK hc rfl
  refine yJ fun hk hs=> ?_
  have b72:=hk 72
  simp -dsimp at b72
  have d2:=hs 2 _ rfl
  simp -dsimp[yC]at d2
  have d5:=hs 5 _ rfl
  simp -dsimp[yC]at d5
  clear hk hs
  refine eN ?_
  repeat first|refine cg ?_|simp -dsimp[RW.len H38,RW.closed H38]
  revert hF;refine aS ?_ ?_<;>intro h40 q41 hF
  ·have z42:((i:Int)<(v36.length:Int)):=auz
   apply oB hF;intro x43 e44 hF
   have le44:=ZA e44
   repeat first|refine cg ?_|simp -dsimp[RW.len H38,RW.closed H38,h40,z42,↓e44]
   refine yG [38] [(0,2),(0,2),(0,0),(0,0),(0,0),(0,0),(0,0),(0,0),(0,0),(0,4),(0,4),(0,4),(3,3),(0,4)] [0,2,1,1,1,1,1,1,1,1,1,1,1,1] 9 (by decide) follows (by kernel_rfl) (by kernel_rfl) (by kernel_rfl) (by kernel_rfl) (by kernel_rfl) rfl ?_
   apply oB hF;intro x45 e46 hF
   have le46:=ZA e46
   repeat first|refine cg ?_|simp -dsimp[RW.len H38,RW.closed H38,h40,z42,↓e44,↓e46]
   apply oB hF;intro v47 e48 hF
   refine((ih_impl_spaces_sample__f x43 x45 v47 e48)).ngo1 (by first|simp -dsimp[RW.len H38,RW.closed H38,h40,z42,↓e44,↓e46];done|simp_all) (by simp) (fun h49 o_h49=> ?_)
   apply oC hF;intro c50 hF
   have w51:i64.wrap ((i:Int)+1)=(i:Int)+1:=ZB (by omega) (by omega)
   repeat first|refine cg ?_|simp -dsimp[RW.len H38,RW.closed H38,h40,z42,↓e44,↓e46,o_h49,w51]
   refine aG ⟨[(0,.rptr [.arr (zB zO s.f0),.rptr (fcI 16 s.f1) 0] 0),(5,.ptr 2 0),(6,.ptr 3 0),(7,.ptr 4 0),(72,.arr (zB zK v36)),(73,.lit (.int .i64 (v36.length:Int))),(74,.lit (.int .i64 ((i+1):Int)))],[.pack [] [],.dead,.cells [.lit (.int .i64 p.op),.lit (.int .i64 p.ctor),.lit (.int .i64 p.n),.lit (.int .i64 p.m),.lit (.int .i64 p.var),.arr (zB zR p.kids)],.cells [.lit (.int .i64 0),.lit (.int .i64 0),.lit (.slice none 0 0)],.cells [.lit (.int .i64 p.ctor),.lit (.int .i64 0),.own 5 (zA (α:=Vl.Value) (out++[v47]))],.elems 3 (R++[[.lit (.int .i64 v47.ctor),.lit (.int .i64 v47.n),.lit h49]]),.pack (List.flatten (zB Vl.Value.c (out++[v47]))) (U++[.int .i64 v47.ctor,.int .i64 v47.n,h49])]⟩ (by refine yK (yP 6 [8] (by exact rfl) (.lit (.int .i64 v47.ctor) (.lit (.int .i64 v47.n) (.pk 8 (by exact rfl) .nil))) (by decide)) ?_;exact(gT (by simp) (by first|simp -dsimp[RW.len H38,RW.closed H38,h40,z42,↓e44,↓e46,o_h49,w51];done|simp_all))) ?_
   exact(ih_impl_spaces_sample__f_l1 p v36 (out++[v47]) (i+1) o hF) (R++[[.lit (.int .i64 v47.ctor),.lit (.int .i64 v47.n),.lit h49]]) (U++[.int .i64 v47.ctor,.int .i64 v47.n,h49]) ((RW.snoc H38 [.int .i64 v47.ctor,.int .i64 v47.n,h49] rfl).cong (by simp) (by simp) rfl) _ rfl _ hq
  ·have z42:¬((i:Int)<(v36.length:Int)):=auz
   cases hF
   repeat first|refine cg ?_|simp -dsimp[RW.len H38,RW.closed H38,h40,q41,z42]
   refine lG ⟨[(6,.ptr 3 0),(7,.ptr 4 0)],[.pack [] [],.dead,.dead,.cells [.lit (.int .i64 0),.lit (.int .i64 0),.lit (.slice none 0 0)],.cells [.lit (.int .i64 p.ctor),.lit (.int .i64 0),.own 5 (zA (α:=Vl.Value) out)],.elems 3 R,.pack (List.flatten (zB Vl.Value.c out)) U]⟩ (gT (by simp) (by first|simp -dsimp[RW.len H38,RW.closed H38,h40,q41,z42];done|simp_all)) ?_
   exact hq R U H38
theorem CC.f155 (w:List zN)(holes:Bool):(∀(t:Ty) (v:Vl.Value) (deep:Int) (count:Int) (r:Bool×Int),F.f155 w t v deep holes count=some r->MutCall zQ B 72 [li count] [am zO w,.agg [li t.data,li t.index],.agg [li v.ctor,li v.n,am Vl.Value.c v.kids],li deep,.lit (.bool holes),.ptr 0 0] (.lit (.bool r.1)) [li r.2])/\
  (∀(v:Vl.Value) (deep:Int) (v60:List Ty) (z65:Int) (i66:Nat) (o:Lo (Bool×Int) Int),F.f157 w v deep holes v60 z65 i66=some o->∀(c:Code),Zc [1,1,1,1,1,1,0,1,0,0] (ZJ Tryz.f72)=some c->∀(Q:Exit->ASt->Prop),o.post (fun r=>∀st,ZAR zQ Tryz.f72 (fun r' σ'=>r'.le (.lit (.bool r.1))/\ZBP σ' [li r.2]) .ret st->Q .ret st) (fun s=>Q (.exit 1) ⟨[],[.cells [li s]]⟩)->ALoopU zQ B 1 108 (hold c .mk) ⟨[(0,am zO w),(3,li deep),(4,.lit (.bool holes)),(5,.ptr 0 0),(13,am zK v60),(88,am Vl.Value.c v.kids),(89,li (v.kids.length:Int)),(90,li (i66:Int))],[.cells [li z65]]⟩ (hold Q .mk))/\
  (∀(v:Vl.Value) (deep:Int) (v27:List Ty) (z:Int) (i:Nat) (o:Lo (Bool×Int) Int),F.f156 w v deep holes v27 z i=some o->∀(c:Code),Zc [1,1,1,1,1,1,0,1,0,0] (ZJ Tryz.f72)=some c->∀(Q:Exit->ASt->Prop),o.post (fun r=>∀st,ZAR zQ Tryz.f72 (fun r' σ'=>r'.le (.lit (.bool r.1))/\ZBP σ' [li r.2]) .ret st->Q .ret st) (fun s=>Q (.exit 1) ⟨[],[.cells [li s]]⟩)->ALoopU zQ B 1 108 (hold c .mk) ⟨[(0,am zO w),(3,li deep),(4,.lit (.bool holes)),(5,.ptr 0 0),(13,am zK v27),(88,am Vl.Value.c v.kids),(89,li (v.kids.length:Int)),(90,li (i:Int))],[.cells [li z]]⟩ (hold Q .mk)):=by
 refine F.f155.mutual_partial_correctness w holes
  _ _ _
  ?_ ?_ ?_
 ·intro _f_f157 _f_f156 ih_f157 ih_f156 t v deep count r hF
  refine MutCall.inn func72 rfl ntmps72 ?_
  revert hF;refine kN ?_ ?_<;>intro h1 q2 hF
  ·refine kx2 h1 q2 ?_
   revert hF;refine aS ?_ ?_<;>intro h3 q4 hF
   ·cases hF
    exact kc3 h1 q2 h3
   ·refine kx4 h1 q2 h3 q4 ?_
    revert hF;refine aS (fun h5 q6 hF=> ?_) (fun h5 q6 hF=> ?_)
    ·refine kx5 h1 q2 h3 q4 h5 ?_
     revert hF;refine aS ?_ ?_<;>intro h7 q8 hF
     ·refine kx6 h1 q2 h3 q4 h5 h7 ?_
      revert hF;refine aS ?_ ?_<;>intro h9 q10 hF
      ·cases hF
       exact kc7 h1 q2 h3 q4 h5 h7 h9
      ·cases hF
       exact kc8 h1 q2 h3 q4 h5 h7 h9 q10
     ·refine kx7 h1 q2 h3 q4 h5 h7 q8 ?_
      revert hF;refine aS ?_ ?_<;>intro h11 q12 hF
      ·refine kx8 h1 q2 h3 q4 h5 h7 q8 h11 ?_
       revert hF;refine aS ?_ ?_<;>intro h13 q14 hF
       ·refine kx9 h1 q2 h3 q4 h5 h7 q8 h11 h13 ?_
        apply oB hF;intro v15 e16 hF
        refine((C.f93 B hB1 hB2 v.n 0 9 v15 e16)).goI ?_
        refine kx9 h1 q2 h3 q4 h5 h7 q8 h11 h13 ?_
        revert hF;refine aS (fun h17 q18 hF=> ?_) (fun h17 q18 hF=> ?_)
        ·cases hF
         repeat first|refine cg ?_|simp -dsimp[h1,q2,h3,q4,h5,h7,q8,h11,h13,h17]
        ·cases hF
         repeat first|refine cg ?_|simp -dsimp[h1,q2,h3,q4,h5,h7,q8,h11,h13,h17,q18]
       ·cases hF
        repeat first|refine cg ?_|simp -dsimp[h1,q2,h3,q4,h5,h7,q8,h11,h13,q14]
      ·refine kx9 h1 q2 h3 q4 h5 h7 q8 h11 q12 ?_
       refine yE follows ?_
       refine kx9 h1 q2 h3 q4 h5 h7 q8 h11 q12 ?_
       revert hF;refine aS ?_ ?_<;>intro h19 q20 hF
       ·repeat first|refine cg ?_|simp -dsimp[h1,q2,h3,q4,h5,h7,q8,h11,q12,h19]
        apply oB hF;intro v21 e22 hF
        refine((C.f110 B hB1 hB2 w t v21 e22)).pgoW (by simp[h1,q2,h3,q4,h5,h7,q8,h11,q12,h19]) (by simp) ?_
        repeat first|refine cg ?_|simp -dsimp[h1,q2,h3,q4,h5,h7,q8,h11,q12,h19]
        apply oB hF;intro v23 e24 hF
        refine((C.f113 B hB1 hB2 v21 v.ctor v23 e24)).pgoW (by simp[h1,q2,h3,q4,h5,h7,q8,h11,q12,h19]) (by simp) ?_
        repeat first|refine cg ?_|simp -dsimp[h1,q2,h3,q4,h5,h7,q8,h11,q12,h19]
        revert hF;refine aN (fun h25 q26 hF=> ?_) (fun h25 q26 hF=> ?_)
        ·cases hF
         repeat first|refine cg ?_|simp -dsimp[h1,q2,h3,q4,h5,h7,q8,h11,q12,h19,h25,q26]
        ·repeat first|refine cg ?_|simp -dsimp[h1,q2,h3,q4,h5,h7,q8,h11,q12,h19,h25,q26]
         apply oB hF;intro v27 e28 hF
         refine((C.f116 B hB1 hB2 w t v.ctor v27 e28)).goI ?_
         repeat first|refine cg ?_|simp -dsimp[h1,q2,h3,q4,h5,h7,q8,h11,q12,h19,h25,q26]
         revert hF;refine aN ?_ ?_<;>intro h29 q30 hF
         ·have z31:¬((v27.length:Int)=(v.kids.length:Int)):=auz
          cases hF
          repeat first|refine cg ?_|simp -dsimp[h1,q2,h3,q4,h5,h7,q8,h11,q12,h19,h25,q26,h29,q30,z31]
         ·have z31:((v27.length:Int)=(v.kids.length:Int)):=auz
          repeat first|refine cg ?_|simp -dsimp[h1,q2,h3,q4,h5,h7,q8,h11,q12,h19,h25,q26,h29,q30,z31]
          apply oB hF;intro o' ho43 hF
          refine zI ((ih_f156 v deep v27 (i64.wrap (count+1)) 0 o' ho43) _ rfl _ ?_)
          rcases o' with r0|sx
          ·dsimp only at hF
           cases hF
           intro st h
           simpa using h
          ·dsimp only at hF
           cases hF
           exact kc0
       ·cases hF
        repeat first|refine cg ?_|simp -dsimp[h1,q2,h3,q4,h5,h7,q8,h11,q12,h19,q20]
    ·refine kx6 h1 q2 h3 q4 h5 q6 ?_
     revert hF;refine aS ?_ ?_<;>intro h44 q45 hF
     ·refine kx7 h1 q2 h3 q4 h5 q6 h44 ?_
      revert hF;refine aS ?_ ?_<;>intro h46 q47 hF
      ·refine kx8 h1 q2 h3 q4 h5 q6 h44 h46 ?_
       apply oB hF;intro v48 e49 hF
       refine((C.f93 B hB1 hB2 v.n 0 9 v48 e49)).goI ?_
       refine kx8 h1 q2 h3 q4 h5 q6 h44 h46 ?_
       revert hF;refine aS (fun h50 q51 hF=> ?_) (fun h50 q51 hF=> ?_)
       ·cases hF
        exact kc9 h1 q2 h3 q4 h5 q6 h44 h46 h50
       ·cases hF
        repeat first|refine cg ?_|simp -dsimp[h1,q2,h3,q4,h5,q6,h44,h46,h50,q51]
      ·cases hF
       exact kc9 h1 q2 h3 q4 h5 q6 h44 h46 q47
     ·refine kx8 h1 q2 h3 q4 h5 q6 h44 q45 ?_
      refine yE follows ?_
      refine kx8 h1 q2 h3 q4 h5 q6 h44 q45 ?_
      revert hF;refine aS ?_ ?_<;>intro h52 q53 hF
      ·refine kx9 h1 q2 h3 q4 h5 q6 h44 q45 h52 ?_
       apply oB hF;intro v54 e55 hF
       refine((C.f110 B hB1 hB2 w t v54 e55)).pgoW (by simp[h1,q2,h3,q4,h5,q6,h44,q45,h52]) (by simp) ?_
       refine kx9 h1 q2 h3 q4 h5 q6 h44 q45 h52 ?_
       apply oB hF;intro v56 e57 hF
       refine((C.f113 B hB1 hB2 v54 v.ctor v56 e57)).pgoW (by simp[h1,q2,h3,q4,h5,q6,h44,q45,h52]) (by simp) ?_
       refine kx9 h1 q2 h3 q4 h5 q6 h44 q45 h52 ?_
       revert hF;refine aN (fun h58 q59 hF=> ?_) (fun h58 q59 hF=> ?_)
       ·cases hF
        repeat first|refine cg ?_|simp -dsimp[h1,q2,h3,q4,h5,q6,h44,q45,h52,h58,q59]
       ·repeat first|refine cg ?_|simp -dsimp[h1,q2,h3,q4,h5,q6,h44,q45,h52,h58,q59]
        apply oB hF;intro v60 e61 hF
        refine((C.f116 B hB1 hB2 w t v.ctor v60 e61)).goI ?_
        repeat first|refine cg ?_|simp -dsimp[h1,q2,h3,q4,h5,q6,h44,q45,h52,h58,q59]
        revert hF;refine aN ?_ ?_<;>intro h62 q63 hF
        ·have z64:¬((v60.length:Int)=(v.kids.length:Int)):=auz
         cases hF
         repeat first|refine cg ?_|simp -dsimp[h1,q2,h3,q4,h5,q6,h44,q45,h52,h58,q59,h62,q63,z64]
        ·have z64:((v60.length:Int)=(v.kids.length:Int)):=auz
         repeat first|refine cg ?_|simp -dsimp[h1,q2,h3,q4,h5,q6,h44,q45,h52,h58,q59,h62,q63,z64]
         apply oB hF;intro o'80 ho79 hF
         refine zI ((ih_f157 v deep v60 (i64.wrap (count+1)) 0 o'80 ho79) _ rfl _ ?_)
         rcases o'80 with r082|sx81
         ·dsimp only at hF
          cases hF
          intro st h
          simpa using h
         ·dsimp only at hF
          cases hF
          exact kc0
      ·cases hF
       repeat first|refine cg ?_|simp -dsimp[h1,q2,h3,q4,h5,q6,h44,q45,h52,q53]
  ·cases hF
   exact kc2 h1 q2
 ·intro _f_f155 _f_f157 ih_f155 ih_f157 v deep v60 z65 i66 o hF
  refine ZP rfl fun Q hq hk hs=> ?_
  have b0:=hk 0
  simp -dsimp at b0
  have b13:=hk 13
  simp -dsimp at b13
  have b88:=hk 88
  simp -dsimp at b88
  clear hk hs
  refine eN ?_
  revert hF;refine kS ?_ ?_<;>intro h67 q68 hF
  ·have z69:((i66:Int)<(v.kids.length:Int)):=auz
   apply oB hF;intro x70 e71 hF
   have le71:=ZA e71
   refine Zb h67 z69 e71 ?_
   refine yF [72] [(0,0),(0,0),(0,0),(0,0),(0,0),(0,0),(0,0),(0,0),(0,0),(0,0),(0,1),(1,1)] [1,1,1,1,1,1,1,1,1,1,1,1] follows ?_
   apply oB hF;intro x72 e73 hF
   have le73:=ZA e73
   refine Zx h67 z69 e71 e73 ?_
   apply oB hF;intro v74 e75 hF
   refine((ih_f155 x72 x70 (i64.wrap (deep+1)) z65 v74 e75)).ego 0 rfl (by simp[h67,z69,↓e71,↓e73]) (by simp) (by simp[h67,z69,↓e71,↓e73]) ?_
   refine Zx h67 z69 e71 e73 ?_
   revert hF;refine aN (fun h76 q77 hF=> ?_) (fun h76 q77 hF=> ?_)
   ·cases hF
    refine ZAD h67 z69 e71 e73 h76 q77 ?_
    refine lG _ (gR _) (hq _ ?_)
    repeat first|refine cg ?_|simp -dsimp[h67,z69,↓e71,↓e73,h76,q77]
   ·have w78:i64.wrap ((i66:Int)+1)=(i66:Int)+1:=ZB (by omega) (by omega)
    repeat first|refine cg ?_|simp -dsimp[h67,z69,↓e71,↓e73,h76,q77,w78]
    refine zE ((ih_f157 v deep v60 v74.2 (i66+1) o hF) _ rfl _ hq)
  ·have z69:¬((i66:Int)<(v.kids.length:Int)):=auz
   cases hF
   refine kx3 h67 q68 z69 ?_
   refine zF hq
 ·intro _f_f155 _f_f156 ih_f155 ih_f156 v deep v27 z i o hF
  refine ZP rfl fun Q hq hk hs=> ?_
  have b0:=hk 0
  simp -dsimp at b0
  have b13:=hk 13
  simp -dsimp at b13
  have b88:=hk 88
  simp -dsimp at b88
  clear hk hs
  refine eN ?_
  revert hF;refine kS ?_ ?_<;>intro h32 q33 hF
  ·have z34:((i:Int)<(v.kids.length:Int)):=auz
   apply oB hF;intro x e35 hF
   have le35:=ZA e35
   refine Zb h32 z34 e35 ?_
   refine yF [72] [(0,0),(0,0),(0,0),(0,0),(0,0),(0,0),(0,0),(0,0),(0,0),(0,0),(0,1),(1,1)] [1,1,1,1,1,1,1,1,1,1,1,1] follows ?_
   apply oB hF;intro x36 e37 hF
   have le37:=ZA e37
   refine Zx h32 z34 e35 e37 ?_
   apply oB hF;intro v38 e39 hF
   refine((ih_f155 x36 x (i64.wrap (deep+1)) z v38 e39)).ego 0 rfl (by simp[h32,z34,↓e35,↓e37]) (by simp) (by simp[h32,z34,↓e35,↓e37]) ?_
   refine Zx h32 z34 e35 e37 ?_
   revert hF;refine aN (fun h40 q41 hF=> ?_) (fun h40 q41 hF=> ?_)
   ·cases hF
    refine ZAD h32 z34 e35 e37 h40 q41 ?_
    refine lG _ (gR _) (hq _ ?_)
    repeat first|refine cg ?_|simp -dsimp[h32,z34,↓e35,↓e37,h40,q41]
   ·have w42:i64.wrap ((i:Int)+1)=(i:Int)+1:=ZB (by omega) (by omega)
    repeat first|refine cg ?_|simp -dsimp[h32,z34,↓e35,↓e37,h40,q41,w42]
    refine zE ((ih_f156 v deep v27 v38.2 (i+1) o hF) _ rfl _ hq)
  ·have z34:¬((i:Int)<(v.kids.length:Int)):=auz
   cases hF
   refine kx3 h32 q33 z34 ?_
   refine zF hq
theorem C.f158 (w:List zN)(t:Ty)(v:Vl.Value)(r:Bool)(hF:F.f158 w t v=some r):PureCall zQ B 39 [am zO w,.agg [li t.data,li t.index],.agg [li v.ctor,li v.n,am Vl.Value.c v.kids]] (.lit (.bool r)):=by
 unfold F.f158 at hF
 refine zG func39 rfl ntmps39 ?_
 refine kB hF fun v1 e2 hF=> ?_
 refine(((CC.f155 B hB1 hB2 w false).1 t v 1 0 v1 e2)).go 2 rfl (by simp) (by simp) (by simp) ?_
 cases hF
 exact kc0
theorem C.impl_SamplePattern__f (w:List zN)(t:Ty)(p:Pattern)(r:Vl.Value×Bool)(hF:F.f159 w t p=some r):FCall zQ B 11 [am zO w,.agg [li t.data,li t.index],.agg [li p.op,li p.ctor,li p.n,li p.m,li p.var,am zR p.kids]] (.tup [.agg [li r.1.ctor,li r.1.n,am Vl.Value.c r.1.kids],.lit (.bool r.2)]):=by
 unfold F.f159 at hF
 refine FCall.enterG func11 (by kernel_rfl) rfl ntmps11 (by simp) (yL .nil) ?_
 refine kB hF fun v e1 hF=> ?_
 refine((C.f135 B hB1 hB2 w t p v e1)).goW (by simp) (by simp) ?_
 revert hF;refine kN (fun h2 q3 hF=> ?_) (fun h2 q3 hF=> ?_)
 ·cases hF
  refine kx2 h2 q3 ?_
  exact⟨_,by decide,(.agg (.lit _ (.lit _ (.nilS none 0 .nil))) (.cell (.lit _ .nil) .nil):CT _ _ _ _)⟩
 ·refine kx2 h2 q3 ?_
  refine ACall.inl func35 (by kernel_rfl) rfl ntmps35 (by simp) ?_
  refine kx2 h2 q3 ?_
  apply oB hF;intro p4 e5 hF
  refine((C.impl_depthsOf__p B hB1 hB2 w p4 e5)).go (pl [4]) (by simp) (by simp) (by intro i j hi;simp at hi) (by intro i hi hi';simp at hi hi';first|omega|(subst hi';simp[pl])) (by first|simp[h2,q3];done|simp_all) (by first|simp[h2,q3];done|simp_all) ?_
  refine kx2 h2 q3 ?_
  apply oB hF;intro v6 e7 hF
  refine(((CC.f145 B hB1 hB2 (⟨w,p4⟩:ZL)).1 t p v6 e7)).lendD (.cons (.ptr 5 0 (by exact rfl) (.cons (.of (by simp)) (.cons (.ptr 4 0 (by exact rfl) (by exact Brds.lits _ _)) .nil))) (.cons (.of (by simp)) (.cons (.of (by simp)) .nil))) (by simp -dsimp) ?_
  refine kx2 h2 q3 ?_
  revert hF;refine aN (fun h8 q9 hF=> ?_) (fun h8 q9 hF=> ?_)
  ·refine kx4 h2 q3 h8 q9 ?_
   apply oB hF;intro v10 e11 hF
   refine(((CC.f147 B hB1 hB2 (⟨w,p4⟩:ZL)).1 t p v10 e11)).lendD (.cons (.ptr 5 0 (by exact rfl) (.cons (.of (by simp)) (.cons (.ptr 4 0 (by exact rfl) (by exact Brds.lits _ _)) .nil))) (.cons (.of (by simp)) (.cons (.of (by simp)) .nil))) (by simp -dsimp) ?_
   refine kx4 h2 q3 h8 q9 ?_
   revert hF;refine aS (fun h12 q13 hF=> ?_) (fun h12 q13 hF=> ?_)
   ·cases hF
    refine kx5 h2 q3 h8 q9 h12 ?_
    exact⟨_,by decide,(.agg (.lit _ (.lit _ (.nilS none 0 .nil))) (.cell (.lit _ .nil) .nil):CT _ _ _ _)⟩
   ·refine kx6 h2 q3 h8 q9 h12 q13 ?_
    apply oB hF;intro v14 e15 hF
    refine(((CC.impl_spaces_sample__f B hB1 hB2 (⟨w,p4⟩:ZL)).1 t p v14 e15)).go1D (.cons (.ptr 5 0 (by exact rfl) (.cons (.of (by simp)) (.cons (.ptr 4 0 (by exact rfl) (by exact Brds.lits _ _)) .nil))) (.cons (.of (by simp)) (.cons (.of (by simp)) .nil))) (by simp) (fun h o_h=> ?_)
    refine kx7 h2 q3 h8 q9 h12 q13 o_h ?_
    apply oB hF;intro v16 e17 hF
    refine((C.f158 B hB1 hB2 w t v14 v16 e17)).lend (by first|simp -dsimp[h2,q3,h8,q9,h12,q13,o_h];done|simp_all) (by simp -dsimp) ?_
    refine kx7 h2 q3 h8 q9 h12 q13 o_h ?_
    revert hF;refine aN (fun h18 q19 hF=> ?_) (fun h18 q19 hF=> ?_)
    ·cases hF
     refine kx9 h2 q3 h8 q9 h12 q13 o_h h18 q19 ?_
     exact⟨_,by decide,(.agg (.lit _ (.lit _ (.nilS none 0 .nil))) (.cell (.lit _ .nil) .nil):CT _ _ _ _)⟩
    ·cases hF
     refine kx9 h2 q3 h8 q9 h12 q13 o_h h18 q19 ?_
     exact⟨_,by decide,(.agg (.lit _ (.lit _ (.pk 6 rfl .nil))) (.cell (.lit _ .nil) .nil):CT _ _ _ _)⟩
  ·cases hF
   refine kx4 h2 q3 h8 q9 ?_
   exact⟨_,by decide,(.agg (.lit _ (.lit _ (.nilS none 0 .nil))) (.cell (.lit _ .nil) .nil):CT _ _ _ _)⟩
theorem CC.f160  :(∀(a:Vl.Value) (b:Vl.Value) (r:Bool),F.f160 a b=some r->PureCall zQ B 12 [.agg [li a.ctor,li a.n,am Vl.Value.c a.kids],.agg [li b.ctor,li b.n,am Vl.Value.c b.kids]] (.lit (.bool r)))/\
  (∀(a:List Vl.Value) (b:List Vl.Value) (r:Bool),F.f161 a b=some r->PureCall zQ B 40 [am Vl.Value.c a,am Vl.Value.c b] (.lit (.bool r)))/\
  (∀(a:List Vl.Value) (b:List Vl.Value) (i:Nat) (o:Lo Bool Unit),F.f162 a b i=some o->∀(c:Code),Zc [1,1,0,1,0,0] (ZJ Tryz.f40)=some c->∀(Q:Exit->ASt->Prop),o.post (fun r=>∀st,ZAR zQ Tryz.f40 (fun r' _=>r'.le (.lit (.bool r))) .ret st->Q .ret st) (fun s=>Q (.exit 0) ⟨[],[]⟩)->ALoopU zQ B 0 27 (hold c .mk) ⟨[(0,am Vl.Value.c a),(1,am Vl.Value.c b),(5,li (i:Int))],[]⟩ (hold Q .mk)):=by
 refine F.f160.mutual_partial_correctness 
  _ _ _
  ?_ ?_ ?_
 ·intro _f_f161 ih_f161 a b r hF
  refine zG func12 rfl ntmps12 ?_
  revert hF;refine kN ?_ ?_<;>intro h1 q2 hF
  ·cases hF
   exact kc2 h1 q2
  ·revert hF;refine kN ?_ ?_<;>intro h3 q4 hF
   ·cases hF
    exact kc2 h3 q4
   ·refine kB hF fun v e5 hF=> ?_
    refine((ih_f161 a.kids b.kids v e5)).goI ?_
    revert hF;refine kN (fun h6 q7 hF=> ?_) (fun h6 q7 hF=> ?_)
    ·cases hF
     exact kc2 h6 q7
    ·cases hF
     exact kc0
 ·intro _f_f162 ih_f162 a b r hF
  refine zG func40 rfl ntmps40 ?_
  revert hF;refine kN ?_ ?_<;>intro h1 q2 hF
  ·have z3:¬((a.length:Int)=(b.length:Int)):=auz
   cases hF
   exact kc1 z3
  ·have z3:((a.length:Int)=(b.length:Int)):=auz
   refine kB hF fun o' ho14 hF=> ?_
   refine zI ((ih_f162 a b 0 o' ho14) _ rfl _ ?_)
   rcases o' with r0|sx
   ·dsimp only at hF
    cases hF
    intro st h
    simpa using h
   ·dsimp only at hF
    cases hF
    exact kc0
 ·intro _f_f160 _f_f162 ih_f160 ih_f162 a b i o hF
  refine ZP rfl fun Q hq hk hs=> ?_
  have b0:=hk 0
  simp -dsimp at b0
  have b1:=hk 1
  simp -dsimp at b1
  clear hk hs
  refine eN ?_
  revert hF;refine kS ?_ ?_<;>intro h4 q5 hF
  ·have z6:((i:Int)<(a.length:Int)):=auz
   refine kx2 h4 z6 ?_
   refine yE follows ?_
   apply oB hF;intro x e7 hF
   have le7:=ZA e7
   apply oB hF;intro x8 e9 hF
   have le9:=ZA e9
   refine ZF5 e7 e9 ?_
   apply oB hF;intro v e10 hF
   refine((ih_f160 x x8 v e10)).pgoW (by simp_all) (by simp) ?_
   revert hF;refine kN (fun h11 q12 hF=> ?_) (fun h11 q12 hF=> ?_)
   ·cases hF
    refine kx2 h11 q12 ?_
    refine lG _ (gR _) (hq _ ?_)
    exact kc0
   ·have w13:i64.wrap ((i:Int)+1)=(i:Int)+1:=ZB (by omega) (by omega)
    refine kx1 w13 ?_
    refine zE ((ih_f162 a b (i+1) o hF) _ rfl _ hq)
  ·have z6:¬((i:Int)<(a.length:Int)):=auz
   cases hF
   refine kx3 h4 q5 z6 ?_
   refine zF hq
theorem C.f163 (a:Ty)(b:Ty)(r:Bool)(hF:F.f163 a b=some r):PureCall zQ B 158 [.agg [li a.data,li a.index],.agg [li b.data,li b.index]] (.lit (.bool r)):=by
 unfold F.f163 at hF
 refine zG func158 rfl ntmps158 ?_
 revert hF;refine kN ?_ ?_<;>intro h1 q2 hF
 ·cases hF
  exact kc2 h1 q2
 ·revert hF;refine kN ?_ ?_<;>intro h3 q4 hF
  ·cases hF
   exact kc2 h3 q4
  ·cases hF
   exact kc0
theorem CC.f164 (a:List Ty)(b:List Ty):(∀(i:Nat) (o:Lo Bool Unit),F.f164 a b i=some o->∀(c:Code),Zc [1,1,0,1,0,0] (ZJ Tryz.f135)=some c->∀(Q:Exit->ASt->Prop),o.post (fun r=>∀st,ZAR zQ Tryz.f135 (fun r' _=>r'.le (.lit (.bool r))) .ret st->Q .ret st) (fun s=>Q (.exit 0) ⟨[],[]⟩)->ALoopU zQ B 0 27 (hold c .mk) ⟨[(0,am zK a),(1,am zK b),(5,li (i:Int))],[]⟩ (hold Q .mk)):=by
 refine F.f164.partial_correctness a b
  _
  ?_
 ·intro _f_f164 ih_f164 i o hF
  refine ZP rfl fun Q hq hk hs=> ?_
  have b0:=hk 0
  simp -dsimp at b0
  have b1:=hk 1
  simp -dsimp at b1
  clear hk hs
  refine eN ?_
  revert hF;refine kS ?_ ?_<;>intro h4 q5 hF
  ·have z6:((i:Int)<(a.length:Int)):=auz
   refine kx2 h4 z6 ?_
   refine yE follows ?_
   apply oB hF;intro x e7 hF
   have le7:=ZA e7
   apply oB hF;intro x8 e9 hF
   have le9:=ZA e9
   refine ZF5 e7 e9 ?_
   apply oB hF;intro v e10 hF
   refine((C.f163 B hB1 hB2 x x8 v e10)).pgoW (by simp_all) (by simp) ?_
   revert hF;refine kN (fun h11 q12 hF=> ?_) (fun h11 q12 hF=> ?_)
   ·cases hF
    refine kx2 h11 q12 ?_
    refine lG _ (gR _) (hq _ ?_)
    exact kc0
   ·have w13:i64.wrap ((i:Int)+1)=(i:Int)+1:=ZB (by omega) (by omega)
    refine kx1 w13 ?_
    refine zE ((ih_f164 (i+1) o hF) _ rfl _ hq)
  ·have z6:¬((i:Int)<(a.length:Int)):=auz
   cases hF
   refine kx3 h4 q5 z6 ?_
   refine zF hq
end Go.Proofs.YtmjpphcloedceaaGreat
