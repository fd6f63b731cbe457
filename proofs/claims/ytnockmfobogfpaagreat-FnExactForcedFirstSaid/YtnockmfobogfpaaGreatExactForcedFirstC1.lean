/- Part. -/
import Derived.Test.YtnockmfobogfpaaGreatProg
import Derived.Test.YtnockmfobogfpaaGreatExactForcedFirstF
import Derived.Test.YtnockmfobogfpaaGreatVlAuto
import Derived.Test.YtnockmfobogfpaaGreatVlSort
import Derived.Test.YtnockmfobogfpaaGreatShelf
open List renaming length->zA,map->zB,replicate->zC,length_cons->zD,length_nil->zE
open ByteArray renaming empty->zF
namespace Go.Proofs.YtnockmfobogfpaaGreat
open Go Go.Proofs Go.Vl
open Again renaming is->zG
open Leave renaming is->zH
open PureCall renaming inLe->zI,enterM->zJ
open ALoop renaming is->zK,goU->zL
open Ty renaming c->zM
open Ctor renaming c->zN,z->zO
open Go.Vl renaming Data->zP
open Go.Vl.Data renaming c->zR,z->zS
open Pattern renaming c->zT,z->zU
open Clause renaming c->zV,z->zW
open F renaming f34->zX,f33->zY,f32->zZ,f31->yA,f27->yB,f26->yC,f25->yD,f24->yE,f23->yF,f22->yG,f21->yH,f20->yI,f19->yJ
open Blk renaming bnd->yK
open ADraw renaming effI->yL,simI->yM,simple->yN,effP->yO,split->yP
open VarType renaming c->yQ
open ACall renaming frz->yR,nilArg->yS
open Gh renaming trans->yT,packZ->yU,setRow->yV,nil->yW,frzSlot->yX
open Step renaming c->yY
open PathBind renaming c->yZ
open ALoopU renaming know->xA
open Go.Proofs.Tryz
open Go.Proofs.Tryz renaming prog->zQ
open abr renaming sp->aS,ns->aN
open Leave renaming go->lG
open Again renaming go->aG
open ALoopU renaming enter->eN
open Gh renaming to3->gT,refl->gR
open PureCall renaming enterLe->pE
open Go.IntKind (i64)
set_option linter.all false
set_option maxRecDepth 100000
set_option maxHeartbeats 4000000
set_option synthInstance.maxSize 100000
set_option synthInstance.maxHeartbeats 4000000
attribute [local irreducible] GhK ECallA ZE9 aL aLg AMake MLoop AgainM LeaveM ZBm ZBO MutCall BCall chk abr ACall ALoop ALoopU ADraw Again Leave ZE8 PCall ZAB awp ZIs PureCall hold
abbrev li (x:Int):AV:=.lit (.int .i64 x)
abbrev am {α:Type}(f:α->List AV)(l:List α):AV:=.arr (zB f l)
theorem follows :Tryz.prog.follows .mixedOrders=true:=by kernel_rfl
@[simp] theorem ti2 :Ze zQ 2=some ⟨.word,1,[.int .i64 0]⟩:=by kernel_rfl
@[simp] theorem ti3 :Ze zQ 3=some ⟨.word,1,[.int .i64 0]⟩:=by kernel_rfl
@[simp] theorem ti4 :Ze zQ 4=some ⟨.word,1,[.bool false]⟩:=by kernel_rfl
@[simp] theorem ti5 :Ze zQ 5=some ⟨.word,1,[.int .u8 0]⟩:=by kernel_rfl
@[simp] theorem ti6 :Ze zQ 6=some ⟨.word,1,[.int .u8 0]⟩:=by kernel_rfl
@[simp] theorem ti7 :Ze zQ 7=some ⟨.struct [(0,1),(1,1),(2,1),(3,1)],4,[.int .i64 0,.int .i64 0,.bool false,.int .u8 0]⟩:=by kernel_rfl
@[simp] theorem ti9 :Ze zQ 9=some ⟨.word,1,[.string zF]⟩:=by kernel_rfl
@[simp] theorem ZSc :Ze zQ 22=some ⟨.slice 2 40 [.string zF,.slice none 0 0],1,[.slice none 0 0]⟩:=by kernel_rfl
@[simp] theorem ZSs :ZDB zQ 22=true:=by kernel_rfl
@[simp] theorem ZSb :Ze zQ 24=some ⟨.struct [(0,1),(1,1)],2,[.int .i64 0,.int .i64 0]⟩:=by kernel_rfl
@[simp] theorem ZSw :ZBt zQ 24=true:=by kernel_rfl
@[simp] theorem ZSa :Ze zQ 25=some ⟨.slice 9 88 [.int .i64 0,.int .i64 0,.int .i64 0,.int .i64 0,.int .i64 0,.slice none 0 0,.int .i64 0,.int .i64 0,.int .i64 0],1,[.slice none 0 0]⟩:=by kernel_rfl
@[simp] theorem ZSr :ZDB zQ 25=true:=by kernel_rfl
@[simp] theorem ZSZ :Ze zQ 26=some ⟨.slice 3 40 [.int .i64 0,.int .i64 0,.slice none 0 0],1,[.slice none 0 0]⟩:=by kernel_rfl
@[simp] theorem ZSq :ZDB zQ 26=true:=by kernel_rfl
@[simp] theorem ZSY :Ze zQ 28=some ⟨.struct [(0,1),(1,1),(2,1)],3,[.int .i64 0,.int .i64 0,.slice none 0 0]⟩:=by kernel_rfl
@[simp] theorem ZSX :Ze zQ 32=some ⟨.slice 1 24 [.slice none 0 0],1,[.slice none 0 0]⟩:=by kernel_rfl
@[simp] theorem ZSp :ZDB zQ 32=true:=by kernel_rfl
@[simp] theorem ZSW :Ze zQ 34=some ⟨.slice 2 40 [.string zF,.slice none 0 0],1,[.slice none 0 0]⟩:=by kernel_rfl
@[simp] theorem ZSo :ZDB zQ 34=true:=by kernel_rfl
@[simp] theorem ZSV :Ze zQ 36=some ⟨.struct [(0,1),(1,1)],2,[.int .i64 0,.int .i64 0]⟩:=by kernel_rfl
@[simp] theorem ZSv :ZBt zQ 36=true:=by kernel_rfl
@[simp] theorem ZSU :Ze zQ 38=some ⟨.slice 9 88 [.int .i64 0,.int .i64 0,.int .i64 0,.int .i64 0,.int .i64 0,.slice none 0 0,.int .i64 0,.int .i64 0,.int .i64 0],1,[.slice none 0 0]⟩:=by kernel_rfl
@[simp] theorem ZSn :ZDB zQ 38=true:=by kernel_rfl
@[simp] theorem ZST :Ze zQ 40=some ⟨.slice 3 40 [.int .i64 0,.int .i64 0,.slice none 0 0],1,[.slice none 0 0]⟩:=by kernel_rfl
@[simp] theorem ZSm :ZDB zQ 40=true:=by kernel_rfl
@[simp] theorem ZSS :Ze zQ 42=some ⟨.struct [(0,1),(1,1),(2,1)],3,[.int .i64 0,.int .i64 0,.slice none 0 0]⟩:=by kernel_rfl
@[simp] theorem ZSR :Ze zQ 53=some ⟨.slice 1 1 [.int .u8 0],1,[.slice none 0 0]⟩:=by kernel_rfl
@[simp] theorem ZSl :ZDB zQ 53=true:=by kernel_rfl
@[simp] theorem ZSQ :Ze zQ 56=some ⟨.slice 1 8 [.int .i64 0],1,[.slice none 0 0]⟩:=by kernel_rfl
@[simp] theorem ZSk :ZDB zQ 56=true:=by kernel_rfl
@[simp] theorem ZSP :Ze zQ 60=some ⟨.slice 3 48 [.string zF,.slice none 0 0,.int .i64 0],1,[.slice none 0 0]⟩:=by kernel_rfl
@[simp] theorem ZSj :ZDB zQ 60=true:=by kernel_rfl
@[simp] theorem ZSO :Ze zQ 62=some ⟨.struct [(0,1),(1,1)],2,[.string zF,.slice none 0 0]⟩:=by kernel_rfl
@[simp] theorem ZSN :Ze zQ 64=some ⟨.slice 6 64 [.int .i64 0,.int .i64 0,.int .i64 0,.int .i64 0,.int .i64 0,.slice none 0 0],1,[.slice none 0 0]⟩:=by kernel_rfl
@[simp] theorem ZSi :ZDB zQ 64=true:=by kernel_rfl
@[simp] theorem ZSM :Ze zQ 66=some ⟨.struct [(0,1),(1,1),(2,1),(3,1),(4,1),(5,1)],6,[.int .i64 0,.int .i64 0,.int .i64 0,.int .i64 0,.int .i64 0,.slice none 0 0]⟩:=by kernel_rfl
@[simp] theorem ZSL :Ze zQ 68=some ⟨.struct [(0,1),(1,1),(2,1)],3,[.int .i64 0,.int .i64 0,.int .i64 0]⟩:=by kernel_rfl
@[simp] theorem ZSu :ZCE zQ 68=true:=by kernel_rfl
@[simp] theorem ZSK :Ze zQ 70=some ⟨.struct [(0,6),(6,3)],9,[.int .i64 0,.int .i64 0,.int .i64 0,.int .i64 0,.int .i64 0,.slice none 0 0,.int .i64 0,.int .i64 0,.int .i64 0]⟩:=by kernel_rfl
@[simp] theorem ZSJ :Ze zQ 72=some ⟨.slice 8 96 [.int .i64 0,.slice none 0 0,.int .i64 0,.int .i64 0,.int .i64 0,.int .i64 0,.slice none 0 0,.int .i64 0],1,[.slice none 0 0]⟩:=by kernel_rfl
@[simp] theorem ZSh :ZDB zQ 72=true:=by kernel_rfl
@[simp] theorem ZSI :Ze zQ 76=some ⟨.slice 4 48 [.int .i64 0,.int .i64 0,.int .i64 0,.slice none 0 0],1,[.slice none 0 0]⟩:=by kernel_rfl
@[simp] theorem ZSg :ZDB zQ 76=true:=by kernel_rfl
@[simp] theorem ZSH :Ze zQ 80=some ⟨.slice 3 48 [.string zF,.slice none 0 0,.int .i64 0],1,[.slice none 0 0]⟩:=by kernel_rfl
@[simp] theorem ZSf :ZDB zQ 80=true:=by kernel_rfl
@[simp] theorem ZSG :Ze zQ 82=some ⟨.struct [(0,1),(1,1)],2,[.string zF,.slice none 0 0]⟩:=by kernel_rfl
@[simp] theorem ZSF :Ze zQ 84=some ⟨.slice 6 64 [.int .i64 0,.int .i64 0,.int .i64 0,.int .i64 0,.int .i64 0,.slice none 0 0],1,[.slice none 0 0]⟩:=by kernel_rfl
@[simp] theorem ZSe :ZDB zQ 84=true:=by kernel_rfl
@[simp] theorem ZSE :Ze zQ 86=some ⟨.struct [(0,1),(1,1),(2,1),(3,1),(4,1),(5,1)],6,[.int .i64 0,.int .i64 0,.int .i64 0,.int .i64 0,.int .i64 0,.slice none 0 0]⟩:=by kernel_rfl
@[simp] theorem ZSD :Ze zQ 87=some ⟨.struct [(0,1),(1,1),(2,1)],3,[.int .i64 0,.int .i64 0,.int .i64 0]⟩:=by kernel_rfl
@[simp] theorem ZSt :ZCE zQ 87=true:=by kernel_rfl
@[simp] theorem ZSC :Ze zQ 89=some ⟨.struct [(0,6),(6,3)],9,[.int .i64 0,.int .i64 0,.int .i64 0,.int .i64 0,.int .i64 0,.slice none 0 0,.int .i64 0,.int .i64 0,.int .i64 0]⟩:=by kernel_rfl
@[simp] theorem ZSB :Ze zQ 94=some ⟨.slice 2 32 [.int .i64 0,.slice none 0 0],1,[.slice none 0 0]⟩:=by kernel_rfl
@[simp] theorem ZSd :ZDB zQ 94=true:=by kernel_rfl
@[simp] theorem ZSA :Ze zQ 96=some ⟨.struct [(0,1),(1,1),(2,1),(3,1),(4,1),(5,1),(6,1),(7,1)],8,[.int .i64 0,.slice none 0 0,.int .i64 0,.int .i64 0,.int .i64 0,.int .i64 0,.slice none 0 0,.int .i64 0]⟩:=by kernel_rfl
@[simp] theorem ZRu :Ze zQ 125=some ⟨.slice 1 24 [.slice none 0 0],1,[.slice none 0 0]⟩:=by kernel_rfl
@[simp] theorem ZRy :ZDB zQ 125=true:=by kernel_rfl
@[simp] theorem ZRt :Ze zQ 133=some ⟨.struct [(0,1),(1,1)],2,[.int .i64 0,.slice none 0 0]⟩:=by kernel_rfl
@[simp] theorem ZRs :Ze zQ 145=some ⟨.slice 2 16 [.int .i64 0,.int .i64 0],1,[.slice none 0 0]⟩:=by kernel_rfl
@[simp] theorem ZRx :ZDB zQ 145=true:=by kernel_rfl
@[simp] theorem ZRr :Ze zQ 147=some ⟨.struct [(0,1),(1,1),(2,1)],3,[.string zF,.slice none 0 0,.int .i64 0]⟩:=by kernel_rfl
@[simp] theorem ZRq :Ze zQ 157=some ⟨.slice 2 16 [.int .i64 0,.int .i64 0],1,[.slice none 0 0]⟩:=by kernel_rfl
@[simp] theorem ZRw :ZDB zQ 157=true:=by kernel_rfl
@[simp] theorem ZRp :Ze zQ 159=some ⟨.struct [(0,1),(1,1),(2,1)],3,[.string zF,.slice none 0 0,.int .i64 0]⟩:=by kernel_rfl
@[simp] theorem ZRo :Ze zQ 172=some ⟨.struct [(0,1),(1,3)],4,[.int .i64 0,.int .i64 0,.int .i64 0,.slice none 0 0]⟩:=by kernel_rfl
@[simp] theorem ZRn :Ze zQ 180=some ⟨.word,1,[.int .u64 0]⟩:=by kernel_rfl
@[simp] theorem ZRm :Ze zQ 200=some ⟨.slice 3 24 [.int .i64 0,.int .i64 0,.int .i64 0],1,[.slice none 0 0]⟩:=by kernel_rfl
@[simp] theorem ZRv :ZDB zQ 200=true:=by kernel_rfl
@[simp] theorem ZRl :Ze zQ 236=some ⟨.struct [(0,1),(1,2)],3,[.int .i64 0,.int .i64 0,.int .i64 0]⟩:=by kernel_rfl
@[simp] theorem ZRz :ZCE zQ 236=true:=by kernel_rfl
@[simp] theorem ZRk :ZL7 zQ 238=true:=by kernel_rfl
@[simp] theorem ZRj :Ze zQ 261=some ⟨.array 6 1,6,[.bool false,.bool false,.bool false,.bool false,.bool false,.bool false]⟩:=by kernel_rfl
attribute [simp] Tryz.underlying2 Tryz.underlying3 Tryz.underlying4 Tryz.underlying5 Tryz.underlying6 Tryz.underlying9 Tryz.underlying22 Tryz.underlying25 Tryz.underlying26 Tryz.underlying32 Tryz.underlying34 Tryz.underlying38 Tryz.underlying40 Tryz.underlying53 Tryz.underlying56 Tryz.underlying60 Tryz.underlying64 Tryz.underlying72 Tryz.underlying76 Tryz.underlying80 Tryz.underlying84 Tryz.underlying94 Tryz.underlying125 Tryz.underlying145 Tryz.underlying157 Tryz.underlying180 Tryz.underlying200 Tryz.underlying261 Tryz.underlying42 Tryz.results4 Tryz.results6 Tryz.results7 Tryz.results8 Tryz.results10 Tryz.results11 Tryz.results12 Tryz.results13 Tryz.results15 Tryz.results16 Tryz.results17 Tryz.results18 Tryz.results19 Tryz.results20 Tryz.results21 Tryz.results22 Tryz.results23 Tryz.results24 Tryz.results25 Tryz.results29 Tryz.results30 Tryz.results31 Tryz.results32 Tryz.results33 Tryz.results35 Tryz.results36 Tryz.results37 Tryz.results38 Tryz.results39 Tryz.results40 Tryz.results41 Tryz.results43 Tryz.results44 Tryz.results45 Tryz.results46 Tryz.results47 Tryz.results48 Tryz.results49 Tryz.results50 Tryz.results51 Tryz.results52 Tryz.results53 Tryz.results54 Tryz.results55 Tryz.results56 Tryz.results57 Tryz.results58 Tryz.results59 Tryz.results60 Tryz.results63 Tryz.results64 Tryz.results65 Tryz.results66 Tryz.results67 Tryz.results68 Tryz.results69 Tryz.results72 Tryz.results73 Tryz.results74 Tryz.results75 Tryz.results76 Tryz.results77 Tryz.results78 Tryz.results81 Tryz.results82 Tryz.results83 Tryz.results84 Tryz.results85 Tryz.results86 Tryz.results87 Tryz.results88 Tryz.results89 Tryz.results90 Tryz.results91 Tryz.results92 Tryz.results93 Tryz.results94 Tryz.results95 Tryz.results96 Tryz.results101 Tryz.results102 Tryz.results103 Tryz.results104 Tryz.results105 Tryz.results106 Tryz.results107 Tryz.results108 Tryz.results109 Tryz.results110 Tryz.results111 Tryz.results113 Tryz.results114 Tryz.results115 Tryz.results116 Tryz.results117 Tryz.results118 Tryz.results119 Tryz.results120 Tryz.results124 Tryz.results125 Tryz.results126 Tryz.results127 Tryz.results128 Tryz.results129 Tryz.results130 Tryz.results131 Tryz.results132 Tryz.results133 Tryz.results139 Tryz.results140 Tryz.results141 Tryz.results142 Tryz.results143 Tryz.results144 Tryz.results145 Tryz.results146 Tryz.results147 Tryz.results148 Tryz.results149 Tryz.results150 Tryz.results151 Tryz.results152 Tryz.results153 Tryz.results154 Tryz.results165 Tryz.results166 Tryz.results172 Tryz.results173 Tryz.results174 Tryz.results175 Tryz.results176 Tryz.results177 Tryz.results178 Tryz.results179 Tryz.results180 Tryz.results181 Tryz.results182 Tryz.results183 Tryz.results189 Tryz.results195 Tryz.results196 Tryz.results197 Tryz.results198 Tryz.results199 Tryz.results200 Tryz.results201 Tryz.results202 Tryz.results203 Tryz.results204 Tryz.results205 Tryz.results206 Tryz.results213 Tryz.results214 Tryz.results215 Tryz.results216 Tryz.results217 Tryz.results220
variable (B : Nat) (hB1 : 1073741824 <= bd B) (hB2 : bd B <= 9223372036854775807)
include hB1 hB2
theorem CC.f0  :(∀(k3:Int) (out:ByteArray) (o:ByteArray),F.f0 k3 out=some o->∀(c:Code),ZQ [1,1,1,0,0,0] (ZG Tryz.f48)=some c->∀(Q:Exit->ASt->Prop),(Q (.exit 0) ⟨[(3,.lit (.string o))],[]⟩)->ALoopU zQ B 0 20 (hold c .mk) ⟨[(0,li k3),(3,.lit (.string out))],[]⟩ (hold Q .mk)):=by
 refine F.f0.partial_correctness 
  _
  ?_
 ·intro _f_f0 ih_f0 k3 out o hF
  refine ZI rfl fun Q hq hk hs=> ?_
  clear hk hs
  refine eN ?_
  revert hF;refine kS ?_ ?_<;>intro h4 q5 hF
  ·apply oC hF;intro c6 hF
   refine kx1 h4 ?_
   refine zG ((ih_f0 (i64.wrap (k3.tdiv 10)) ((ZIN [IntKind.u8.wrap (i64.wrap (48+k3.tmod 10))])++out) o hF) _ rfl _ hq)
  ·cases hF
   refine kx1 q5 ?_
   refine zH hq
theorem C.f1 (k:Int)(r:ByteArray)(hF:F.f1 k=some r):PureCall zQ B 48 [li k] (.lit (.string r)):=by
 unfold F.f1 at hF
 refine zI func48 rfl ntmps48 ?_
 revert hF;refine kS ?_ ?_<;>intro h1 q2 hF
 ·cases hF
  exact kc1 h1
 ·refine kx1 q2 ?_
  apply oB hF;intro o' ho7 hF
  refine zK (((CC.f0 B hB1 hB2) k zF o' ho7) _ rfl _ ?_)
  apply oC hF;intro c8 hF
  cases hF
  exact kc0
theorem C.f2 (a:List Ty)(left':Int)(r:Int)(hF:F.f2 a left'=some r):PureCall zQ B 139 [am zM a,li left'] (li r):=by
 unfold F.f2 at hF
 refine zI func139 rfl ntmps139 ?_
 revert hF;refine kS ?_ ?_<;>intro h1 q2 hF
 ·cases hF
  exact kc1 h1
 ·cases hF
  exact kc1 q2
theorem C.f3 (a:Ctor)(left':Int)(r:Int)(hF:F.f3 a left'=some r):PureCall zQ B 101 [.agg [.lit (.string a.name),am zM a.args,li a.index],li left'] (li r):=by
 unfold F.f3 at hF
 refine zI func101 rfl ntmps101 ?_
 revert hF;refine kS ?_ ?_<;>intro h1 q2 hF
 ·cases hF
  exact kc1 h1
 ·refine kx1 q2 ?_
  apply oB hF;intro v e3 hF
  refine((C.f2 B hB1 hB2 a.args (i64.wrap (left'- (a.name.size:Int))) v e3)).goI ?_
  revert hF;refine kS ?_ ?_<;>intro h4 q5 hF
  ·cases hF
   exact kc1 h4
  ·cases hF
   exact kc1 q5
theorem CC.f4 (a:List Ctor):(∀(left'3:Int) (i:Nat) (o:Lo Int Int),F.f4 a left'3 i=some o->∀(c:Code),ZQ [1,1,1,0,1,0,0] (ZG Tryz.f63)=some c->∀(Q:Exit->ASt->Prop),o.post (fun r=>∀st,ZAB zQ Tryz.f63 (fun r' _=>r'.le (li r)) .ret st->Q .ret st) (fun s=>Q (.exit 0) ⟨[(1,li s)],[]⟩)->ALoopU zQ B 0 27 (hold c .mk) ⟨[(0,am zN a),(1,li left'3),(5,li (i:Int))],[]⟩ (hold Q .mk)):=by
 refine F.f4.partial_correctness a
  _
  ?_
 ·intro _f_f4 ih_f4 left'3 i o hF
  refine ZI rfl fun Q hq hk hs=> ?_
  have b0:=hk 0
  simp -dsimp at b0
  clear hk hs
  refine eN ?_
  revert hF;refine kS ?_ ?_<;>intro h4 q5 hF
  ·have z6:((i:Int)<(a.length:Int)):=auz
   apply oB hF;intro x e7 hF
   have le7:=ZA e7
   refine ZP h4 z6 e7 ?_
   apply oB hF;intro v e8 hF
   refine((C.f3 B hB1 hB2 x left'3 v e8)).goI ?_
   revert hF;refine kS ?_ ?_<;>intro h9 q10 hF
   ·cases hF
    refine kx1 h9 ?_
    refine lG _ (gR _) (hq _ ?_)
    exact kc0
   ·have w11:i64.wrap ((i:Int)+1)=(i:Int)+1:=ZD (by omega) (by omega)
    refine kx2 q10 w11 ?_
    refine zG ((ih_f4 v (i+1) o hF) _ rfl _ hq)
  ·have z6:¬((i:Int)<(a.length:Int)):=auz
   cases hF
   refine kx3 h4 q5 z6 ?_
   refine zH hq
theorem C.f5 (a:List Ctor)(left':Int)(r:Int)(hF:F.f5 a left'=some r):PureCall zQ B 63 [am zN a,li left'] (li r):=by
 unfold F.f5 at hF
 refine zI func63 rfl ntmps63 ?_
 revert hF;refine kS ?_ ?_<;>intro h1 q2 hF
 ·cases hF
  exact kc1 h1
 ·refine kx1 q2 ?_
  apply oB hF;intro o' ho12 hF
  refine zK (((CC.f4 B hB1 hB2 a) (i64.wrap (left'- (a.length:Int))) 0 o' ho12) _ rfl _ ?_)
  rcases o' with r0|sx
  ·dsimp only at hF
   cases hF
   intro st h
   simpa using h
  ·dsimp only at hF
   cases hF
   exact kc0
theorem C.f6 (a:zP)(left':Int)(r:Int)(hF:F.f6 a left'=some r):PureCall zQ B 29 [.agg [.lit (.string a.name),am zN a.ctors],li left'] (li r):=by
 unfold F.f6 at hF
 refine zI func29 rfl ntmps29 ?_
 revert hF;refine kS ?_ ?_<;>intro h1 q2 hF
 ·cases hF
  exact kc1 h1
 ·refine kx1 q2 ?_
  apply oB hF;intro v e3 hF
  refine((C.f5 B hB1 hB2 a.ctors (i64.wrap (left'- (a.name.size:Int))) v e3)).goI ?_
  revert hF;refine kS ?_ ?_<;>intro h4 q5 hF
  ·cases hF
   exact kc1 h4
  ·cases hF
   exact kc1 q5
theorem CC.f7 (a:List zP):(∀(left'3:Int) (i:Nat) (o:Lo Int Int),F.f7 a left'3 i=some o->∀(c:Code),ZQ [1,1,1,0,1,0,0] (ZG Tryz.f6)=some c->∀(Q:Exit->ASt->Prop),o.post (fun r=>∀st,ZAB zQ Tryz.f6 (fun r' _=>r'.le (li r)) .ret st->Q .ret st) (fun s=>Q (.exit 0) ⟨[(1,li s)],[]⟩)->ALoopU zQ B 0 27 (hold c .mk) ⟨[(0,am zR a),(1,li left'3),(5,li (i:Int))],[]⟩ (hold Q .mk)):=by
 refine F.f7.partial_correctness a
  _
  ?_
 ·intro _f_f7 ih_f7 left'3 i o hF
  refine ZI rfl fun Q hq hk hs=> ?_
  have b0:=hk 0
  simp -dsimp at b0
  clear hk hs
  refine eN ?_
  revert hF;refine kS ?_ ?_<;>intro h4 q5 hF
  ·have z6:((i:Int)<(a.length:Int)):=auz
   apply oB hF;intro x e7 hF
   have le7:=ZA e7
   refine ZP h4 z6 e7 ?_
   apply oB hF;intro v e8 hF
   refine((C.f6 B hB1 hB2 x left'3 v e8)).goI ?_
   revert hF;refine kS ?_ ?_<;>intro h9 q10 hF
   ·cases hF
    refine kx1 h9 ?_
    refine lG _ (gR _) (hq _ ?_)
    exact kc0
   ·have w11:i64.wrap ((i:Int)+1)=(i:Int)+1:=ZD (by omega) (by omega)
    refine kx2 q10 w11 ?_
    refine zG ((ih_f7 v (i+1) o hF) _ rfl _ hq)
  ·have z6:¬((i:Int)<(a.length:Int)):=auz
   cases hF
   refine kx3 h4 q5 z6 ?_
   refine zH hq
theorem C.f8 (a:List zP)(left':Int)(r:Int)(hF:F.f8 a left'=some r):PureCall zQ B 6 [am zR a,li left'] (li r):=by
 unfold F.f8 at hF
 refine zI func6 rfl ntmps6 ?_
 revert hF;refine kS ?_ ?_<;>intro h1 q2 hF
 ·cases hF
  exact kc1 h1
 ·refine kx1 q2 ?_
  apply oB hF;intro o' ho12 hF
  refine zK (((CC.f7 B hB1 hB2 a) (i64.wrap (left'- (a.length:Int))) 0 o' ho12) _ rfl _ ?_)
  rcases o' with r0|sx
  ·dsimp only at hF
   cases hF
   intro st h
   simpa using h
  ·dsimp only at hF
   cases hF
   exact kc0
theorem CC.f9  :(∀(a:Pattern) (left':Int) (r:Int),F.f9 a left'=some r->PureCall zQ B 64 [.agg [li a.op,li a.ctor,li a.n,li a.m,li a.var,am zT a.kids],li left'] (li r))/\
  (∀(a:List Pattern) (left':Int) (r:Int),F.f10 a left'=some r->PureCall zQ B 102 [am zT a,li left'] (li r))/\
  (∀(a:List Pattern) (left'3:Int) (i:Nat) (o:Lo Int Int),F.f11 a left'3 i=some o->∀(c:Code),ZQ [1,1,1,0,1,0,0] (ZG Tryz.f102)=some c->∀(Q:Exit->ASt->Prop),o.post (fun r=>∀st,ZAB zQ Tryz.f102 (fun r' _=>r'.le (li r)) .ret st->Q .ret st) (fun s=>Q (.exit 0) ⟨[(1,li s)],[]⟩)->ALoopU zQ B 0 27 (hold c .mk) ⟨[(0,am zT a),(1,li left'3),(5,li (i:Int))],[]⟩ (hold Q .mk)):=by
 refine F.f9.mutual_partial_correctness 
  _ _ _
  ?_ ?_ ?_
 ·intro _f_f10 ih_f10 a left' r hF
  refine zI func64 rfl ntmps64 ?_
  refine kB hF fun v e1 hF=> ?_
  refine((ih_f10 a.kids left' v e1)).goI ?_
  revert hF;refine kS ?_ ?_<;>intro h2 q3 hF
  ·cases hF
   exact kc1 h2
  ·cases hF
   exact kc1 q3
 ·intro _f_f11 ih_f11 a left' r hF
  refine zI func102 rfl ntmps102 ?_
  revert hF;refine kS ?_ ?_<;>intro h1 q2 hF
  ·cases hF
   exact kc1 h1
  ·refine kx1 q2 ?_
   apply oB hF;intro o' ho12 hF
   refine zK ((ih_f11 a (i64.wrap (left'- (a.length:Int))) 0 o' ho12) _ rfl _ ?_)
   rcases o' with r0|sx
   ·dsimp only at hF
    cases hF
    intro st h
    simpa using h
   ·dsimp only at hF
    cases hF
    exact kc0
 ·intro _f_f9 _f_f11 ih_f9 ih_f11 a left'3 i o hF
  refine ZI rfl fun Q hq hk hs=> ?_
  have b0:=hk 0
  simp -dsimp at b0
  clear hk hs
  refine eN ?_
  revert hF;refine kS ?_ ?_<;>intro h4 q5 hF
  ·have z6:((i:Int)<(a.length:Int)):=auz
   apply oB hF;intro x e7 hF
   have le7:=ZA e7
   refine ZP h4 z6 e7 ?_
   apply oB hF;intro v e8 hF
   refine((ih_f9 x left'3 v e8)).goI ?_
   revert hF;refine kS ?_ ?_<;>intro h9 q10 hF
   ·cases hF
    refine kx1 h9 ?_
    refine lG _ (gR _) (hq _ ?_)
    exact kc0
   ·have w11:i64.wrap ((i:Int)+1)=(i:Int)+1:=ZD (by omega) (by omega)
    refine kx2 q10 w11 ?_
    refine zG ((ih_f11 a v (i+1) o hF) _ rfl _ hq)
  ·have z6:¬((i:Int)<(a.length:Int)):=auz
   cases hF
   refine kx3 h4 q5 z6 ?_
   refine zH hq
theorem C.f12 (a:Clause)(left':Int)(r:Int)(hF:F.f12 a left'=some r):PureCall zQ B 30 [.agg [li a.pat.op,li a.pat.ctor,li a.pat.n,li a.pat.m,li a.pat.var,am zT a.pat.kids,li a.guard.op,li a.guard.var,li a.guard.n],li left'] (li r):=by
 unfold F.f12 at hF
 refine zI func30 rfl ntmps30 ?_
 refine kB hF fun v e1 hF=> ?_
 refine(((CC.f9 B hB1 hB2).1 a.pat left' v e1)).goI ?_
 revert hF;refine kS ?_ ?_<;>intro h2 q3 hF
 ·cases hF
  exact kc1 h2
 ·cases hF
  exact kc1 q3
theorem CC.f13 (a:List Clause):(∀(left'3:Int) (i:Nat) (o:Lo Int Int),F.f13 a left'3 i=some o->∀(c:Code),ZQ [1,1,1,0,1,0,0] (ZG Tryz.f7)=some c->∀(Q:Exit->ASt->Prop),o.post (fun r=>∀st,ZAB zQ Tryz.f7 (fun r' _=>r'.le (li r)) .ret st->Q .ret st) (fun s=>Q (.exit 0) ⟨[(1,li s)],[]⟩)->ALoopU zQ B 0 27 (hold c .mk) ⟨[(0,am zV a),(1,li left'3),(5,li (i:Int))],[]⟩ (hold Q .mk)):=by
 refine F.f13.partial_correctness a
  _
  ?_
 ·intro _f_f13 ih_f13 left'3 i o hF
  refine ZI rfl fun Q hq hk hs=> ?_
  have b0:=hk 0
  simp -dsimp at b0
  clear hk hs
  refine eN ?_
  revert hF;refine kS ?_ ?_<;>intro h4 q5 hF
  ·have z6:((i:Int)<(a.length:Int)):=auz
   apply oB hF;intro x e7 hF
   have le7:=ZA e7
   refine ZP h4 z6 e7 ?_
   apply oB hF;intro v e8 hF
   refine((C.f12 B hB1 hB2 x left'3 v e8)).goI ?_
   revert hF;refine kS ?_ ?_<;>intro h9 q10 hF
   ·cases hF
    refine kx1 h9 ?_
    refine lG _ (gR _) (hq _ ?_)
    exact kc0
   ·have w11:i64.wrap ((i:Int)+1)=(i:Int)+1:=ZD (by omega) (by omega)
    refine kx2 q10 w11 ?_
    refine zG ((ih_f13 v (i+1) o hF) _ rfl _ hq)
  ·have z6:¬((i:Int)<(a.length:Int)):=auz
   cases hF
   refine kx3 h4 q5 z6 ?_
   refine zH hq
theorem C.f14 (a:List Clause)(left':Int)(r:Int)(hF:F.f14 a left'=some r):PureCall zQ B 7 [am zV a,li left'] (li r):=by
 unfold F.f14 at hF
 refine zI func7 rfl ntmps7 ?_
 revert hF;refine kS ?_ ?_<;>intro h1 q2 hF
 ·cases hF
  exact kc1 h1
 ·refine kx1 q2 ?_
  apply oB hF;intro o' ho12 hF
  refine zK (((CC.f13 B hB1 hB2 a) (i64.wrap (left'- (a.length:Int))) 0 o' ho12) _ rfl _ ?_)
  rcases o' with r0|sx
  ·dsimp only at hF
   cases hF
   intro st h
   simpa using h
  ·dsimp only at hF
   cases hF
   exact kc0
theorem CC.f15  :(∀(a:Vl.Value) (left':Int) (r:Int),F.f15 a left'=some r->PureCall zQ B 8 [.agg [li a.ctor,li a.n,am Vl.Value.c a.kids],li left'] (li r))/\
  (∀(a:List Vl.Value) (left':Int) (r:Int),F.f16 a left'=some r->PureCall zQ B 31 [am Vl.Value.c a,li left'] (li r))/\
  (∀(a:List Vl.Value) (left'3:Int) (i:Nat) (o:Lo Int Int),F.f17 a left'3 i=some o->∀(c:Code),ZQ [1,1,1,0,1,0,0] (ZG Tryz.f31)=some c->∀(Q:Exit->ASt->Prop),o.post (fun r=>∀st,ZAB zQ Tryz.f31 (fun r' _=>r'.le (li r)) .ret st->Q .ret st) (fun s=>Q (.exit 0) ⟨[(1,li s)],[]⟩)->ALoopU zQ B 0 27 (hold c .mk) ⟨[(0,am Vl.Value.c a),(1,li left'3),(5,li (i:Int))],[]⟩ (hold Q .mk)):=by
 refine F.f15.mutual_partial_correctness 
  _ _ _
  ?_ ?_ ?_
 ·intro _f_f16 ih_f16 a left' r hF
  refine zI func8 rfl ntmps8 ?_
  refine kB hF fun v e1 hF=> ?_
  refine((ih_f16 a.kids left' v e1)).goI ?_
  revert hF;refine kS ?_ ?_<;>intro h2 q3 hF
  ·cases hF
   exact kc1 h2
  ·cases hF
   exact kc1 q3
 ·intro _f_f17 ih_f17 a left' r hF
  refine zI func31 rfl ntmps31 ?_
  revert hF;refine kS ?_ ?_<;>intro h1 q2 hF
  ·cases hF
   exact kc1 h1
  ·refine kx1 q2 ?_
   apply oB hF;intro o' ho12 hF
   refine zK ((ih_f17 a (i64.wrap (left'- (a.length:Int))) 0 o' ho12) _ rfl _ ?_)
   rcases o' with r0|sx
   ·dsimp only at hF
    cases hF
    intro st h
    simpa using h
   ·dsimp only at hF
    cases hF
    exact kc0
 ·intro _f_f15 _f_f17 ih_f15 ih_f17 a left'3 i o hF
  refine ZI rfl fun Q hq hk hs=> ?_
  have b0:=hk 0
  simp -dsimp at b0
  clear hk hs
  refine eN ?_
  revert hF;refine kS ?_ ?_<;>intro h4 q5 hF
  ·have z6:((i:Int)<(a.length:Int)):=auz
   apply oB hF;intro x e7 hF
   have le7:=ZA e7
   refine ZP h4 z6 e7 ?_
   apply oB hF;intro v e8 hF
   refine((ih_f15 x left'3 v e8)).goI ?_
   revert hF;refine kS ?_ ?_<;>intro h9 q10 hF
   ·cases hF
    refine kx1 h9 ?_
    refine lG _ (gR _) (hq _ ?_)
    exact kc0
   ·have w11:i64.wrap ((i:Int)+1)=(i:Int)+1:=ZD (by omega) (by omega)
    refine kx2 q10 w11 ?_
    refine zG ((ih_f17 a v (i+1) o hF) _ rfl _ hq)
  ·have z6:¬((i:Int)<(a.length:Int)):=auz
   cases hF
   refine kx3 h4 q5 z6 ?_
   refine zH hq
theorem C.f18 (a:Ty)(r:Ty)(hF:F.f18 a=some r):PureCall zQ B 11 [.agg [li a.data,li a.index]] (.agg [li r.data,li r.index]):=by
 unfold F.f18 at hF
 refine zI func11 rfl ntmps11 ?_
 cases hF
 exact kc0
theorem CC.f19 (a:List Ty):(∀(out:List Ty) (i:Nat) (o:List Ty),yJ a out i=some o->∀(c:Code),ZQ [1,1,0,1,0,0] (ZG Tryz.f148)=some c->∀(Q:Exit->ASt->Prop),(Q (.exit 0) ⟨[(3,.own 0 (zA (α:=Ty) o))],[.elems 2 (zB zM o)]⟩)->ALoopU zQ B 0 23 (hold c .mk) ⟨[(0,am zM a),(3,.own 0 (zA (α:=Ty) out)),(4,li (i:Int))],[.elems 2 (zB zM out)]⟩ (hold Q .mk)):=by
 refine F.f19.partial_correctness a
  _
  ?_
 ·intro _f_f19 ih_f19 out i o hF
  refine ZI rfl fun Q hq hk hs=> ?_
  have b0:=hk 0
  simp -dsimp at b0
  have d0:=hs 0 _ rfl
  simp -dsimp[yK]at d0
  clear hk hs
  refine eN ?_
  revert hF;refine kS ?_ ?_<;>intro h2 q3 hF
  ·have z4:((i:Int)<(a.length:Int)):=auz
   apply oB hF;intro x e5 hF
   have le5:=ZA e5
   refine ZP h2 z4 e5 ?_
   apply oB hF;intro v e6 hF
   refine((C.f18 B hB1 hB2 x v e6)).goI ?_
   apply oB hF;intro x7 e8 hF
   have le8:=ZA e8
   have w9:i64.wrap ((i:Int)+1)=(i:Int)+1:=ZD (by omega) (by omega)
   refine ZMB e8 w9 ?_
   refine zG ((ih_f19 (out.set i v) (i+1) o hF) _ rfl _ hq)
  ·have z4:¬((i:Int)<(a.length:Int)):=auz
   cases hF
   refine kx3 h2 q3 z4 ?_
   refine zH hq
theorem C.f20 (a:List Ty)(r:List Ty)(hF:yI a=some r):PureCall zQ B 148 [am zM a] (am zM r):=by
 unfold yI at hF
 refine zI func148 rfl ntmps148 ?_
 apply oC hF;intro c1 hF
 refine kB hF fun o' ho10 hF=> ?_
 refine zK (((CC.f19 B hB1 hB2 a) (zC a.length Ty.z) 0 o' ho10) _ rfl _ ?_)
 cases hF
 exact kc0
theorem C.f21 (a:Ctor)(r:Ctor)(hF:yH a=some r):PureCall zQ B 113 [.agg [.lit (.string a.name),am zM a.args,li a.index]] (.agg [.lit (.string r.name),am zM r.args,li r.index]):=by
 unfold yH at hF
 refine zI func113 rfl ntmps113 ?_
 refine kB hF fun v e1 hF=> ?_
 refine((C.f20 B hB1 hB2 a.args v e1)).goI ?_
 cases hF
 exact kc0
theorem CC.f22 (a:List Ctor):(∀(out:List Ctor) (i:Nat) (o:List Ctor),yG a out i=some o->∀(c:Code),ZQ [1,1,0,1,0,0] (ZG Tryz.f72)=some c->∀(Q:Exit->ASt->Prop),(Q (.exit 0) ⟨[(3,.own 0 (zA (α:=Ctor) o))],[.elems 3 (zB zN o)]⟩)->ALoopU zQ B 0 23 (hold c .mk) ⟨[(0,am zN a),(3,.own 0 (zA (α:=Ctor) out)),(4,li (i:Int))],[.elems 3 (zB zN out)]⟩ (hold Q .mk)):=by
 refine F.f22.partial_correctness a
  _
  ?_
 ·intro _f_f22 ih_f22 out i o hF
  refine ZI rfl fun Q hq hk hs=> ?_
  have b0:=hk 0
  simp -dsimp at b0
  have d0:=hs 0 _ rfl
  simp -dsimp[yK]at d0
  clear hk hs
  refine eN ?_
  revert hF;refine kS ?_ ?_<;>intro h2 q3 hF
  ·have z4:((i:Int)<(a.length:Int)):=auz
   apply oB hF;intro x e5 hF
   have le5:=ZA e5
   refine ZP h2 z4 e5 ?_
   apply oB hF;intro v e6 hF
   refine((C.f21 B hB1 hB2 x v e6)).goI ?_
   apply oB hF;intro x7 e8 hF
   have le8:=ZA e8
   have w9:i64.wrap ((i:Int)+1)=(i:Int)+1:=ZD (by omega) (by omega)
   refine ZMB e8 w9 ?_
   refine zG ((ih_f22 (out.set i v) (i+1) o hF) _ rfl _ hq)
  ·have z4:¬((i:Int)<(a.length:Int)):=auz
   cases hF
   refine kx3 h2 q3 z4 ?_
   refine zH hq
theorem C.f23 (a:List Ctor)(r:List Ctor)(hF:yF a=some r):PureCall zQ B 72 [am zN a] (am zN r):=by
 unfold yF at hF
 refine zI func72 rfl ntmps72 ?_
 apply oC hF;intro c1 hF
 refine kB hF fun o' ho10 hF=> ?_
 refine zK (((CC.f22 B hB1 hB2 a) (zC a.length zO) 0 o' ho10) _ rfl _ ?_)
 cases hF
 exact kc0
theorem C.f24 (a:zP)(r:zP)(hF:yE a=some r):PureCall zQ B 36 [.agg [.lit (.string a.name),am zN a.ctors]] (.agg [.lit (.string r.name),am zN r.ctors]):=by
 unfold yE at hF
 refine zI func36 rfl ntmps36 ?_
 refine kB hF fun v e1 hF=> ?_
 refine((C.f23 B hB1 hB2 a.ctors v e1)).goI ?_
 cases hF
 exact kc0
theorem CC.f25 (a:List zP):(∀(out:List zP) (i:Nat) (o:List zP),yD a out i=some o->∀(c:Code),ZQ [1,1,0,1,0,0] (ZG Tryz.f10)=some c->∀(Q:Exit->ASt->Prop),(Q (.exit 0) ⟨[(3,.own 0 (zA (α:=zP) o))],[.elems 2 (zB zR o)]⟩)->ALoopU zQ B 0 23 (hold c .mk) ⟨[(0,am zR a),(3,.own 0 (zA (α:=zP) out)),(4,li (i:Int))],[.elems 2 (zB zR out)]⟩ (hold Q .mk)):=by
 refine F.f25.partial_correctness a
  _
  ?_
 ·intro _f_f25 ih_f25 out i o hF
  refine ZI rfl fun Q hq hk hs=> ?_
  have b0:=hk 0
  simp -dsimp at b0
  have d0:=hs 0 _ rfl
  simp -dsimp[yK]at d0
  clear hk hs
  refine eN ?_
  revert hF;refine kS ?_ ?_<;>intro h2 q3 hF
  ·have z4:((i:Int)<(a.length:Int)):=auz
   apply oB hF;intro x e5 hF
   have le5:=ZA e5
   refine ZP h2 z4 e5 ?_
   apply oB hF;intro v e6 hF
   refine((C.f24 B hB1 hB2 x v e6)).goI ?_
   apply oB hF;intro x7 e8 hF
   have le8:=ZA e8
   have w9:i64.wrap ((i:Int)+1)=(i:Int)+1:=ZD (by omega) (by omega)
   refine ZMB e8 w9 ?_
   refine zG ((ih_f25 (out.set i v) (i+1) o hF) _ rfl _ hq)
  ·have z4:¬((i:Int)<(a.length:Int)):=auz
   cases hF
   refine kx3 h2 q3 z4 ?_
   refine zH hq
theorem C.f26 (a:List zP)(r:List zP)(hF:yC a=some r):PureCall zQ B 10 [am zR a] (am zR r):=by
 unfold yC at hF
 refine zI func10 rfl ntmps10 ?_
 apply oC hF;intro c1 hF
 refine kB hF fun o' ho10 hF=> ?_
 refine zK (((CC.f25 B hB1 hB2 a) (zC a.length zS) 0 o' ho10) _ rfl _ ?_)
 cases hF
 exact kc0
theorem CC.f27  :(∀(a:Pattern) (r:Pattern),yB a=some r->PureCall zQ B 73 [.agg [li a.op,li a.ctor,li a.n,li a.m,li a.var,am zT a.kids]] (.agg [li r.op,li r.ctor,li r.n,li r.m,li r.var,am zT r.kids]))/\
  (∀(a:List Pattern) (r:List Pattern),F.f28 a=some r->PureCall zQ B 114 [am zT a] (am zT r))/\
  (∀(a:List Pattern) (out:List Pattern) (i:Nat) (o:List Pattern),F.f29 a out i=some o->∀(c:Code),ZQ [1,1,0,1,0,0] (ZG Tryz.f114)=some c->∀(Q:Exit->ASt->Prop),(Q (.exit 0) ⟨[(3,.own 0 (zA (α:=Pattern) o))],[.elems 6 (zB zT o)]⟩)->ALoopU zQ B 0 23 (hold c .mk) ⟨[(0,am zT a),(3,.own 0 (zA (α:=Pattern) out)),(4,li (i:Int))],[.elems 6 (zB zT out)]⟩ (hold Q .mk)):=by
 refine F.f27.mutual_partial_correctness 
  _ _ _
  ?_ ?_ ?_
 ·intro _f_f28 ih_f28 a r hF
  refine zI func73 rfl ntmps73 ?_
  refine kB hF fun v e1 hF=> ?_
  refine((ih_f28 a.kids v e1)).goI ?_
  cases hF
  exact kc0
 ·intro _f_f29 ih_f29 a r hF
  refine zI func114 rfl ntmps114 ?_
  apply oC hF;intro c1 hF
  refine kB hF fun o' ho10 hF=> ?_
  refine zK ((ih_f29 a (zC a.length zU) 0 o' ho10) _ rfl _ ?_)
  cases hF
  exact kc0
 ·intro _f_f27 _f_f29 ih_f27 ih_f29 a out i o hF
  refine ZI rfl fun Q hq hk hs=> ?_
  have b0:=hk 0
  simp -dsimp at b0
  have d0:=hs 0 _ rfl
  simp -dsimp[yK]at d0
  clear hk hs
  refine eN ?_
  revert hF;refine kS ?_ ?_<;>intro h2 q3 hF
  ·have z4:((i:Int)<(a.length:Int)):=auz
   apply oB hF;intro x e5 hF
   have le5:=ZA e5
   refine ZP h2 z4 e5 ?_
   apply oB hF;intro v e6 hF
   refine((ih_f27 x v e6)).goI ?_
   apply oB hF;intro x7 e8 hF
   have le8:=ZA e8
   have w9:i64.wrap ((i:Int)+1)=(i:Int)+1:=ZD (by omega) (by omega)
   refine ZMB e8 w9 ?_
   refine zG ((ih_f29 a (out.set i v) (i+1) o hF) _ rfl _ hq)
  ·have z4:¬((i:Int)<(a.length:Int)):=auz
   cases hF
   refine kx3 h2 q3 z4 ?_
   refine zH hq
theorem C.f30 (a:Guard)(r:Guard)(hF:F.f30 a=some r):PureCall zQ B 74 [.agg [li a.op,li a.var,li a.n]] (.agg [li r.op,li r.var,li r.n]):=by
 unfold F.f30 at hF
 refine zI func74 rfl ntmps74 ?_
 cases hF
 exact kc0
theorem C.f31 (a:Clause)(r:Clause)(hF:yA a=some r):PureCall zQ B 37 [.agg [li a.pat.op,li a.pat.ctor,li a.pat.n,li a.pat.m,li a.pat.var,am zT a.pat.kids,li a.guard.op,li a.guard.var,li a.guard.n]] (.agg [li r.pat.op,li r.pat.ctor,li r.pat.n,li r.pat.m,li r.pat.var,am zT r.pat.kids,li r.guard.op,li r.guard.var,li r.guard.n]):=by
 unfold yA at hF
 refine zI func37 rfl ntmps37 ?_
 refine kB hF fun v e1 hF=> ?_
 refine(((CC.f27 B hB1 hB2).1 a.pat v e1)).goI ?_
 refine kB hF fun v2 e3 hF=> ?_
 refine((C.f30 B hB1 hB2 a.guard v2 e3)).goI ?_
 cases hF
 exact kc0
theorem CC.f32 (a:List Clause):(∀(out:List Clause) (i:Nat) (o:List Clause),zZ a out i=some o->∀(c:Code),ZQ [1,1,0,1,0,0] (ZG Tryz.f12)=some c->∀(Q:Exit->ASt->Prop),(Q (.exit 0) ⟨[(3,.own 0 (zA (α:=Clause) o))],[.elems 9 (zB zV o)]⟩)->ALoopU zQ B 0 23 (hold c .mk) ⟨[(0,am zV a),(3,.own 0 (zA (α:=Clause) out)),(4,li (i:Int))],[.elems 9 (zB zV out)]⟩ (hold Q .mk)):=by
 refine F.f32.partial_correctness a
  _
  ?_
 ·intro _f_f32 ih_f32 out i o hF
  refine ZI rfl fun Q hq hk hs=> ?_
  have b0:=hk 0
  simp -dsimp at b0
  have d0:=hs 0 _ rfl
  simp -dsimp[yK]at d0
  clear hk hs
  refine eN ?_
  revert hF;refine kS ?_ ?_<;>intro h2 q3 hF
  ·have z4:((i:Int)<(a.length:Int)):=auz
   apply oB hF;intro x e5 hF
   have le5:=ZA e5
   refine ZP h2 z4 e5 ?_
   apply oB hF;intro v e6 hF
   refine((C.f31 B hB1 hB2 x v e6)).goI ?_
   apply oB hF;intro x7 e8 hF
   have le8:=ZA e8
   have w9:i64.wrap ((i:Int)+1)=(i:Int)+1:=ZD (by omega) (by omega)
   refine ZMB e8 w9 ?_
   refine zG ((ih_f32 (out.set i v) (i+1) o hF) _ rfl _ hq)
  ·have z4:¬((i:Int)<(a.length:Int)):=auz
   cases hF
   refine kx3 h2 q3 z4 ?_
   refine zH hq
theorem C.f33 (a:List Clause)(r:List Clause)(hF:zY a=some r):PureCall zQ B 12 [am zV a] (am zV r):=by
 unfold zY at hF
 refine zI func12 rfl ntmps12 ?_
 apply oC hF;intro c1 hF
 refine kB hF fun o' ho10 hF=> ?_
 refine zK (((CC.f32 B hB1 hB2 a) (zC a.length zW) 0 o' ho10) _ rfl _ ?_)
 cases hF
 exact kc0
theorem CC.f34  :(∀(a:Vl.Value) (r:Vl.Value),zX a=some r->PureCall zQ B 13 [.agg [li a.ctor,li a.n,am Vl.Value.c a.kids]] (.agg [li r.ctor,li r.n,am Vl.Value.c r.kids]))/\
  (∀(a:List Vl.Value) (r:List Vl.Value),F.f35 a=some r->PureCall zQ B 38 [am Vl.Value.c a] (am Vl.Value.c r))/\
  (∀(a:List Vl.Value) (out:List Vl.Value) (i:Nat) (o:List Vl.Value),F.f36 a out i=some o->∀(c:Code),ZQ [1,1,0,1,0,0] (ZG Tryz.f38)=some c->∀(Q:Exit->ASt->Prop),(Q (.exit 0) ⟨[(3,.own 0 (zA (α:=Vl.Value) o))],[.elems 3 (zB Vl.Value.c o)]⟩)->ALoopU zQ B 0 23 (hold c .mk) ⟨[(0,am Vl.Value.c a),(3,.own 0 (zA (α:=Vl.Value) out)),(4,li (i:Int))],[.elems 3 (zB Vl.Value.c out)]⟩ (hold Q .mk)):=by
 refine F.f34.mutual_partial_correctness 
  _ _ _
  ?_ ?_ ?_
 ·intro _f_f35 ih_f35 a r hF
  refine zI func13 rfl ntmps13 ?_
  refine kB hF fun v e1 hF=> ?_
  refine((ih_f35 a.kids v e1)).goI ?_
  cases hF
  exact kc0
 ·intro _f_f36 ih_f36 a r hF
  refine zI func38 rfl ntmps38 ?_
  apply oC hF;intro c1 hF
  refine kB hF fun o' ho10 hF=> ?_
  refine zK ((ih_f36 a (zC a.length Vl.Value.z) 0 o' ho10) _ rfl _ ?_)
  cases hF
  exact kc0
 ·intro _f_f34 _f_f36 ih_f34 ih_f36 a out i o hF
  refine ZI rfl fun Q hq hk hs=> ?_
  have b0:=hk 0
  simp -dsimp at b0
  have d0:=hs 0 _ rfl
  simp -dsimp[yK]at d0
  clear hk hs
  refine eN ?_
  revert hF;refine kS ?_ ?_<;>intro h2 q3 hF
  ·have z4:((i:Int)<(a.length:Int)):=auz
   apply oB hF;intro x e5 hF
   have le5:=ZA e5
   refine ZP h2 z4 e5 ?_
   apply oB hF;intro v e6 hF
   refine((ih_f34 x v e6)).goI ?_
   apply oB hF;intro x7 e8 hF
   have le8:=ZA e8
   have w9:i64.wrap ((i:Int)+1)=(i:Int)+1:=ZD (by omega) (by omega)
   refine ZMB e8 w9 ?_
   refine zG ((ih_f36 a (out.set i v) (i+1) o hF) _ rfl _ hq)
  ·have z4:¬((i:Int)<(a.length:Int)):=auz
   cases hF
   refine kx3 h2 q3 z4 ?_
   refine zH hq
theorem C.f37 (c':Int)(r:Bool)(hF:F.f37 c'=some r):PureCall zQ B 195 [.lit (.int .u8 c')] (.lit (.bool r)):=by
 unfold F.f37 at hF
 refine zI func195 rfl ntmps195 ?_
 revert hF;refine kS ?_ ?_<;>intro h1 q2 hF
 ·cases hF
  exact kc1 h1
 ·cases hF
  exact kc1 q2
theorem C.f38 (s:ByteArray)(r:Bool)(hF:F.f38 s=some r):PureCall zQ B 172 [.lit (.string s)] (.lit (.bool r)):=by
 unfold F.f38 at hF
 refine zI func172 rfl ntmps172 ?_
 revert hF;refine kS ?_ ?_<;>intro h1 q2 hF
 ·have z3:((s.size:Int)=1):=auz
  obtain⟨c4,hF⟩:=oc hF
  refine kx2 h1 z3 ?_
  obtain⟨v,e5,hF⟩:=ob hF
  refine((C.f37 B hB1 hB2 ((byteAt s 0:Nat):Int) v e5)).goI ?_
  refine kx2 h1 z3 ?_
  revert hF;refine aS (fun h6 q7 hF=> ?_) (fun h6 q7 hF=> ?_)
  ·cases hF
   exact kc3 h1 z3 h6
  ·cases hF
   exact kc4 h1 z3 h6 q7
 ·have z3:¬((s.size:Int)=1):=auz
  cases hF
  exact kc3 h1 q2 z3
theorem CC.f39 (s:ByteArray):(∀(i:Nat) (o:Lo Bool Unit),F.f39 s i=some o->∀(c:Code),ZQ [1,1,0,1,0,0] (ZG Tryz.f196)=some c->∀(Q:Exit->ASt->Prop),o.post (fun r=>∀st,ZAB zQ Tryz.f196 (fun r' _=>r'.le (.lit (.bool r))) .ret st->Q .ret st) (fun s=>Q (.exit 0) ⟨[],[]⟩)->ALoopU zQ B 0 34 (hold c .mk) ⟨[(0,.lit (.string s)),(3,li (i:Int))],[]⟩ (hold Q .mk)):=by
 refine F.f39.partial_correctness s
  _
  ?_
 ·intro _f_f39 ih_f39 i o hF
  refine ZI rfl fun Q hq hk hs=> ?_
  clear hk hs
  refine eN ?_
  revert hF;refine kS ?_ ?_<;>intro h11 q12 hF
  ·have z13:((i:Int)<(s.size:Int)):=auz
   refine kx2 h11 z13 ?_
   revert hF;refine aN ?_ ?_<;>intro h14 q15 hF
   ·have z16:¬(((byteAt s i:Nat):Int)<97):=auz
    refine kx5 h11 z13 h14 q15 z16 ?_
    revert hF;refine aS ?_ ?_<;>intro h17 q18 hF
    ·have z19:(122<((byteAt s i:Nat):Int)):=auz
     cases hF
     refine kx7 h11 z13 h14 q15 z16 h17 z19 ?_
     refine lG _ (gR _) (hq _ ?_)
     exact kc7 h11 z13 h14 q15 z16 h17 z19
    ·have z19:¬(122<((byteAt s i:Nat):Int)):=auz
     obtain⟨c20,hF⟩:=oc hF
     have w21:i64.wrap ((i:Int)+1)=(i:Int)+1:=ZD (by omega) (by omega)
     refine kx9 h11 z13 h14 q15 z16 h17 q18 z19 w21 ?_
     refine zG ((ih_f39 (i+1) o hF) _ rfl _ hq)
   ·have z16:(((byteAt s i:Nat):Int)<97):=auz
    cases hF
    refine kx5 h11 z13 h14 q15 z16 ?_
    refine lG _ (gR _) (hq _ ?_)
    exact kc5 h11 z13 h14 q15 z16
  ·have z13:¬((i:Int)<(s.size:Int)):=auz
   cases hF
   refine kx3 h11 q12 z13 ?_
   refine zH hq
theorem C.f40 (s:ByteArray)(r:Bool)(hF:F.f40 s=some r):PureCall zQ B 196 [.lit (.string s)] (.lit (.bool r)):=by
 unfold F.f40 at hF
 refine zI func196 rfl ntmps196 ?_
 revert hF;refine kN ?_ ?_<;>intro h1 q2 hF
 ·have z3:¬((s.size:Int)=0):=auz
  refine kx3 h1 q2 z3 ?_
  revert hF;refine aN ?_ ?_<;>intro h4 q5 hF
  ·have z6:¬(5<(s.size:Int)):=auz
   obtain⟨c7,hF⟩:=oc hF
   refine kx6 h1 q2 z3 h4 q5 z6 ?_
   obtain⟨v,e8,hF⟩:=ob hF
   refine((C.f37 B hB1 hB2 ((byteAt s 0:Nat):Int) v e8)).goI ?_
   refine kx6 h1 q2 z3 h4 q5 z6 ?_
   revert hF;refine aN (fun h9 q10 hF=> ?_) (fun h9 q10 hF=> ?_)
   ·cases hF
    exact kc8 h1 q2 z3 h4 q5 z6 h9 q10
   ·refine kx8 h1 q2 z3 h4 q5 z6 h9 q10 ?_
    obtain⟨o',ho22,hF⟩:=ob hF
    refine zK (((CC.f39 B hB1 hB2 s) 1 o' ho22) _ rfl _ ?_)
    rcases o' with r0|sx
    ·dsimp only at hF
     cases hF
     intro st h
     simpa using h
    ·dsimp only at hF
     cases hF
     exact kc0
  ·have z6:(5<(s.size:Int)):=auz
   cases hF
   exact kc6 h1 q2 z3 h4 q5 z6
 ·have z3:((s.size:Int)=0):=auz
  cases hF
  exact kc3 h1 q2 z3
theorem C.f41 (n:Int)(t:Ty)(r:Bool)(hF:F.f41 n t=some r):PureCall zQ B 175 [li n,.agg [li t.data,li t.index]] (.lit (.bool r)):=by
 unfold F.f41 at hF
 refine zI func175 rfl ntmps175 ?_
 revert hF;refine kS ?_ ?_<;>intro h1 q2 hF
 ·cases hF
  exact kc1 h1
 ·refine kx1 q2 ?_
  revert hF;refine aS ?_ ?_<;>intro h3 q4 hF
  ·refine kx1 h3 ?_
   revert hF;refine aS ?_ ?_<;>intro h5 q6 hF
   ·refine kx1 h5 ?_
    revert hF;refine aS ?_ ?_<;>intro h7 q8 hF
    ·cases hF
     exact kc1 h7
    ·cases hF
     exact kc1 q8
   ·cases hF
    exact kc1 q6
  ·cases hF
   exact kc1 q4
theorem CC.f42 (n:Int)(c':Ctor):(∀(i:Nat) (o:Lo Bool Unit),F.f42 n c' i=some o->∀(c:Code),ZQ [1,1,0,1,0,0] (ZG Tryz.f173)=some c->∀(Q:Exit->ASt->Prop),o.post (fun r=>∀st,ZAB zQ Tryz.f173 (fun r' _=>r'.le (.lit (.bool r))) .ret st->Q .ret st) (fun s=>Q (.exit 0) ⟨[],[]⟩)->ALoopU zQ B 0 41 (hold c .mk) ⟨[(0,li n),(3,.ptr 0 0),(5,li (i:Int))],[.cells [.lit (.string c'.name),am zM c'.args,li c'.index]]⟩ (hold Q .mk)):=by
 refine F.f42.partial_correctness n c'
  _
  ?_
 ·intro _f_f42 ih_f42 i o hF
  refine ZI rfl fun Q hq hk hs=> ?_
  have d0:=hs 0 _ rfl
  simp -dsimp[yK]at d0
  clear hk hs
  refine eN ?_
  revert hF;refine kS ?_ ?_<;>intro h11 q12 hF
  ·have z13:((i:Int)<(c'.args.length:Int)):=auz
   obtain⟨x,e14,hF⟩:=ob hF
   have le14:=ZA e14
   refine ZP h11 z13 e14 ?_
   obtain⟨v15,e16,hF⟩:=ob hF
   refine((C.f41 B hB1 hB2 n x v15 e16)).goI ?_
   revert hF;refine kN (fun h17 q18 hF=> ?_) (fun h17 q18 hF=> ?_)
   ·cases hF
    refine kx2 h17 q18 ?_
    refine lG _ (gR _) (hq _ ?_)
    exact kc0
   ·have w19:i64.wrap ((i:Int)+1)=(i:Int)+1:=ZD (by omega) (by omega)
    refine kx1 w19 ?_
    refine zG ((ih_f42 (i+1) o hF) _ rfl _ hq)
  ·have z13:¬((i:Int)<(c'.args.length:Int)):=auz
   cases hF
   refine kx3 h11 q12 z13 ?_
   refine zH hq
theorem C.f43 (n:Int)(c':Ctor)(r:Bool)(hF:F.f43 n c'=some r):PureCall zQ B 173 [li n,.agg [.lit (.string c'.name),am zM c'.args,li c'.index]] (.lit (.bool r)):=by
 unfold F.f43 at hF
 refine zI func173 rfl ntmps173 ?_
 refine kx0 ?_
 obtain⟨v,e1,hF⟩:=ob hF
 refine((C.f40 B hB1 hB2 c'.name v e1)).goI ?_
 revert hF;refine kS (fun h2 q3 hF=> ?_) (fun h2 q3 hF=> ?_)
 ·refine kx1 h2 ?_
  revert hF;refine aN ?_ ?_<;>intro h4 q5 hF
  ·have z6:¬(3<(c'.args.length:Int)):=auz
   refine kx4 h2 h4 q5 z6 ?_
   revert hF;refine aN ?_ ?_<;>intro h7 q8 hF
   ·refine kx6 h2 h4 q5 z6 h7 q8 ?_
    revert hF;refine aS ?_ ?_<;>intro h9 q10 hF
    ·cases hF
     exact kc7 h2 h4 q5 z6 h7 q8 h9
    ·refine kx8 h2 h4 q5 z6 h7 q8 h9 q10 ?_
     obtain⟨o',ho20,hF⟩:=ob hF
     refine zK (((CC.f42 B hB1 hB2 n c') 0 o' ho20) _ rfl _ ?_)
     rcases o' with r0|sx
     ·dsimp only at hF
      cases hF
      intro st h
      simpa using h
     ·dsimp only at hF
      cases hF
      exact kc0
   ·cases hF
    exact kc6 h2 h4 q5 z6 h7 q8
  ·have z6:(3<(c'.args.length:Int)):=auz
   cases hF
   exact kc4 h2 h4 q5 z6
 ·cases hF
  exact kc2 h2 q3
theorem CC.f44 (w:List zP)(d:Int)(k:Int)(i:Nat):(∀(j:Nat) (o:Lo Bool Unit),F.f44 w d k i j=some o->∀(c:Code),ZQ [1,0,1,0,0,1,0,0,1,1,0,0] (ZG Tryz.f174)=some c->∀(Q:Exit->ASt->Prop),o.post (fun r=>∀st,ZAB zQ Tryz.f174 (fun r' _=>r'.le (.lit (.bool r))) .ret st->Q .ret st) (fun s=>Q (.exit 2) ⟨[(0,am zR w),(1,li d),(2,li k),(7,li (i:Int))],[]⟩)->ALoopU zQ B 0 79 (hold c .mk) ⟨[(0,am zR w),(1,li d),(2,li k),(7,li (i:Int)),(8,li (j:Int))],[]⟩ (hold Q .mk)):=by
 refine F.f44.partial_correctness w d k i
  _
  ?_
 ·intro _f_f44 ih_f44 j o hF
  refine ZI rfl fun Q hq hk hs=> ?_
  have b0:=hk 0
  simp -dsimp at b0
  clear hk hs
  refine eN ?_
  apply oB hF;intro x10 e11 hF
  have le11:=ZA e11
  refine kdd e11 ?_
  revert hF;refine aS ?_ ?_<;>intro h12 q13 hF
  ·have z14:((j:Int)<(x10.ctors.length:Int)):=auz
   refine kx2 h12 z14 ?_
   revert hF;refine aN ?_ ?_<;>intro h15 q16 hF
   ·repeat first|refine cg ?_|simp -dsimp[↓e11,h12,z14,h15,q16]
    revert hF;refine aS ?_ ?_<;>intro h17 q18 hF
    ·repeat first|refine cg ?_|simp -dsimp[↓e11,h12,z14,h15,q16,h17]
     refine yM follows ?_
     apply oB hF;intro x19 e20a hF
     have e20a:=ZV e20a;obtain⟨ne20,e20⟩:=e20a
     have le20:=ZA e20
     refine kdd e20 ?_
     revert hF;refine aS ?_ ?_<;>intro h21 q22 hF
     ·apply oB hF;intro x23 e24 hF
      have le24:=ZA e24
      apply oB hF;intro x25 e26a hF
      have e26a:=ZV e26a;obtain⟨ne26,e26⟩:=e26a
      have le26:=ZA e26
      repeat first|refine cg ?_|simp -dsimp[↓e11,h12,z14,h15,q16,h17,↓e20,h21,↓e24,↓e26]
      revert hF;refine aS ?_ ?_<;>intro h27 q28 hF
      ·cases hF
       refine kx1 h27 ?_
       refine lG _ (gR _) (hq _ ?_)
       exact kc0
      ·apply oC hF;intro c29 hF
       have w30:i64.wrap ((j:Int)+1)=(j:Int)+1:=ZD (by omega) (by omega)
       refine kx2 q28 w30 ?_
       refine zG ((ih_f44 (j+1) o hF) _ rfl _ hq)
     ·apply oC hF;intro c31 hF
      have w32:i64.wrap ((j:Int)+1)=(j:Int)+1:=ZD (by omega) (by omega)
      refine kx3 h21 q22 w32 ?_
      refine zG ((ih_f44 (j+1) o hF) _ rfl _ hq)
    ·cases hF
     repeat first|refine cg ?_|simp -dsimp[↓e11,h12,z14,h15,q16,h17,q18]
     refine zH hq
   ·repeat first|refine cg ?_|simp -dsimp[↓e11,h12,z14,h15,q16]
    refine yM follows ?_
    apply oB hF;intro x33 e34a hF
    have e34a:=ZV e34a;obtain⟨ne34,e34⟩:=e34a
    have le34:=ZA e34
    refine kdd e34 ?_
    revert hF;refine aS ?_ ?_<;>intro h35 q36 hF
    ·apply oB hF;intro x37 e38 hF
     have le38:=ZA e38
     apply oB hF;intro x39 e40a hF
     have e40a:=ZV e40a;obtain⟨ne40,e40⟩:=e40a
     have le40:=ZA e40
     repeat first|refine cg ?_|simp -dsimp[↓e11,h12,z14,h15,q16,↓e34,h35,↓e38,↓e40]
     revert hF;refine aS ?_ ?_<;>intro h41 q42 hF
     ·cases hF
      refine kx1 h41 ?_
      refine lG _ (gR _) (hq _ ?_)
      exact kc0
     ·apply oC hF;intro c43 hF
      have w44:i64.wrap ((j:Int)+1)=(j:Int)+1:=ZD (by omega) (by omega)
      refine kx2 q42 w44 ?_
      refine zG ((ih_f44 (j+1) o hF) _ rfl _ hq)
    ·apply oC hF;intro c45 hF
     have w46:i64.wrap ((j:Int)+1)=(j:Int)+1:=ZD (by omega) (by omega)
     refine kx3 h35 q36 w46 ?_
     refine zG ((ih_f44 (j+1) o hF) _ rfl _ hq)
  ·have z14:¬((j:Int)<(x10.ctors.length:Int)):=auz
   cases hF
   refine kx3 h12 q13 z14 ?_
   refine zH hq
theorem CC.f45 (w:List zP)(d:Int)(k:Int)(i:Nat):(∀(j50:Nat) (o:Lo Bool Unit),F.f45 w d k i j50=some o->∀(c:Code),ZQ [1,0,1,0,0,1,0,0,1,1,0,0] (ZG Tryz.f174)=some c->∀(Q:Exit->ASt->Prop),o.post (fun r=>∀st,ZAB zQ Tryz.f174 (fun r' _=>r'.le (.lit (.bool r))) .ret st->Q .ret st) (fun s=>Q (.exit 2) ⟨[(0,am zR w),(1,li d),(2,li k),(7,li (i:Int))],[]⟩)->ALoopU zQ B 0 79 (hold c .mk) ⟨[(0,am zR w),(1,li d),(2,li k),(7,li (i:Int)),(8,li (j50:Int))],[]⟩ (hold Q .mk)):=by
 refine F.f45.partial_correctness w d k i
  _
  ?_
 ·intro _f_f45 ih_f45 j50 o hF
  refine ZI rfl fun Q hq hk hs=> ?_
  have b0:=hk 0
  simp -dsimp at b0
  clear hk hs
  refine eN ?_
  apply oB hF;intro x51 e52 hF
  have le52:=ZA e52
  refine kdd e52 ?_
  revert hF;refine aS ?_ ?_<;>intro h53 q54 hF
  ·have z55:((j50:Int)<(x51.ctors.length:Int)):=auz
   refine kx2 h53 z55 ?_
   revert hF;refine aN ?_ ?_<;>intro h56 q57 hF
   ·repeat first|refine cg ?_|simp -dsimp[↓e52,h53,z55,h56,q57]
    revert hF;refine aS ?_ ?_<;>intro h58 q59 hF
    ·repeat first|refine cg ?_|simp -dsimp[↓e52,h53,z55,h56,q57,h58]
     refine yM follows ?_
     apply oB hF;intro x60 e61a hF
     have e61a:=ZV e61a;obtain⟨ne61,e61⟩:=e61a
     have le61:=ZA e61
     refine kdd e61 ?_
     revert hF;refine aS ?_ ?_<;>intro h62 q63 hF
     ·apply oB hF;intro x64 e65 hF
      have le65:=ZA e65
      apply oB hF;intro x66 e67a hF
      have e67a:=ZV e67a;obtain⟨ne67,e67⟩:=e67a
      have le67:=ZA e67
      repeat first|refine cg ?_|simp -dsimp[↓e52,h53,z55,h56,q57,h58,↓e61,h62,↓e65,↓e67]
      revert hF;refine aS ?_ ?_<;>intro h68 q69 hF
      ·cases hF
       refine kx1 h68 ?_
       refine lG _ (gR _) (hq _ ?_)
       exact kc0
      ·apply oC hF;intro c70 hF
       have w71:i64.wrap ((j50:Int)+1)=(j50:Int)+1:=ZD (by omega) (by omega)
       refine kx2 q69 w71 ?_
       refine zG ((ih_f45 (j50+1) o hF) _ rfl _ hq)
     ·apply oC hF;intro c72 hF
      have w73:i64.wrap ((j50:Int)+1)=(j50:Int)+1:=ZD (by omega) (by omega)
      refine kx3 h62 q63 w73 ?_
      refine zG ((ih_f45 (j50+1) o hF) _ rfl _ hq)
    ·cases hF
     repeat first|refine cg ?_|simp -dsimp[↓e52,h53,z55,h56,q57,h58,q59]
     refine zH hq
   ·repeat first|refine cg ?_|simp -dsimp[↓e52,h53,z55,h56,q57]
    refine yM follows ?_
    apply oB hF;intro x74 e75a hF
    have e75a:=ZV e75a;obtain⟨ne75,e75⟩:=e75a
    have le75:=ZA e75
    refine kdd e75 ?_
    revert hF;refine aS ?_ ?_<;>intro h76 q77 hF
    ·apply oB hF;intro x78 e79 hF
     have le79:=ZA e79
     apply oB hF;intro x80 e81a hF
     have e81a:=ZV e81a;obtain⟨ne81,e81⟩:=e81a
     have le81:=ZA e81
     repeat first|refine cg ?_|simp -dsimp[↓e52,h53,z55,h56,q57,↓e75,h76,↓e79,↓e81]
     revert hF;refine aS ?_ ?_<;>intro h82 q83 hF
     ·cases hF
      refine kx1 h82 ?_
      refine lG _ (gR _) (hq _ ?_)
      exact kc0
     ·apply oC hF;intro c84 hF
      have w85:i64.wrap ((j50:Int)+1)=(j50:Int)+1:=ZD (by omega) (by omega)
      refine kx2 q83 w85 ?_
      refine zG ((ih_f45 (j50+1) o hF) _ rfl _ hq)
    ·apply oC hF;intro c86 hF
     have w87:i64.wrap ((j50:Int)+1)=(j50:Int)+1:=ZD (by omega) (by omega)
     refine kx3 h76 q77 w87 ?_
     refine zG ((ih_f45 (j50+1) o hF) _ rfl _ hq)
  ·have z55:¬((j50:Int)<(x51.ctors.length:Int)):=auz
   cases hF
   refine kx3 h53 q54 z55 ?_
   refine zH hq
theorem CC.f46 (w:List zP)(d:Int)(k:Int):(∀(i:Nat) (o:Lo Bool Unit),F.f46 w d k i=some o->∀(c:Code),ZQ [1,0,1,0,0] (ZG Tryz.f174)=some c->∀(Q:Exit->ASt->Prop),o.post (fun r=>∀st,ZAB zQ Tryz.f174 (fun r' _=>r'.le (.lit (.bool r))) .ret st->Q .ret st) (fun s=>Q (.exit 0) ⟨[],[]⟩)->ALoopU zQ B 0 79 (hold c .mk) ⟨[(0,am zR w),(1,li d),(2,li k),(7,li (i:Int))],[]⟩ (hold Q .mk)):=by
 refine F.f46.partial_correctness w d k
  _
  ?_
 ·intro _f_f46 ih_f46 i o hF
  refine ZI rfl fun Q hq hk hs=> ?_
  have b0:=hk 0
  simp -dsimp at b0
  clear hk hs
  refine eN ?_
  revert hF;refine kS ?_ ?_<;>intro h1 q2 hF
  ·refine kx1 h1 ?_
   refine yM follows ?_
   revert hF;refine kS ?_ ?_<;>intro h3 q4 hF
   ·obtain⟨x,e5,hF⟩:=ob hF
    have le5:=ZA e5
    obtain⟨x6,e7a,hF⟩:=ob hF
    have e7a:=ZV e7a;obtain⟨ne7,e7⟩:=e7a
    have le7:=ZA e7
    repeat first|refine cg ?_|simp -dsimp[h3,↓e5,↓e7]
    revert hF;refine aS ?_ ?_<;>intro h8 q9 hF
    ·cases hF
     refine kx1 h8 ?_
     refine lG _ (gR _) (hq _ ?_)
     exact kc0
    ·refine kx1 q9 ?_
     obtain⟨o',ho47,hF⟩:=ob hF
     refine zK (((CC.f44 B hB1 hB2 w d k i) 0 o' ho47) _ rfl _ ?_)
     rcases o' with r0|sx
     ·dsimp only at hF
      cases hF
      intro st h
      simp -dsimp
      refine lG st (gR _) (hq st h)
     ·dsimp only at hF
      obtain⟨c48,hF⟩:=oc hF
      have w49:i64.wrap ((i:Int)+1)=(i:Int)+1:=ZD (by omega) (by omega)
      refine kx1 w49 ?_
      refine zG ((ih_f46 (i+1) o hF) _ rfl _ hq)
   ·refine kx2 h3 q4 ?_
    obtain⟨o'89,ho88,hF⟩:=ob hF
    refine zK (((CC.f45 B hB1 hB2 w d k i) 0 o'89 ho88) _ rfl _ ?_)
    rcases o'89 with r093|sx90
    ·dsimp only at hF
     cases hF
     intro st h
     simp -dsimp
     refine lG st (gR _) (hq st h)
    ·dsimp only at hF
     obtain⟨c91,hF⟩:=oc hF
     have w92:i64.wrap ((i:Int)+1)=(i:Int)+1:=ZD (by omega) (by omega)
     refine kx1 w92 ?_
     refine zG ((ih_f46 (i+1) o hF) _ rfl _ hq)
  ·cases hF
   refine kx1 q2 ?_
   refine zH hq
theorem C.f47 (w:List zP)(d:Int)(k:Int)(r:Bool)(hF:F.f47 w d k=some r):PureCall zQ B 174 [am zR w,li d,li k] (.lit (.bool r)):=by
 unfold F.f47 at hF
 refine zI func174 rfl ntmps174 ?_
 refine kx0 ?_
 obtain⟨o'95,ho94,hF⟩:=ob hF
 refine zK (((CC.f46 B hB1 hB2 w d k) 0 o'95 ho94) _ rfl _ ?_)
 rcases o'95 with r097|sx96
 ·dsimp only at hF
  cases hF
  intro st h
  simpa using h
 ·dsimp only at hF
  cases hF
  exact kc0
theorem CC.f48 (w:List zP)(d:Nat):(∀(k:Nat) (o:Lo Bool Unit),F.f48 w d k=some o->∀(c:Code),ZQ [1,1,0,1,0,0,1,0,0,1,1,0,0] (ZG Tryz.f140)=some c->∀(Q:Exit->ASt->Prop),o.post (fun r=>∀st,ZAB zQ Tryz.f140 (fun r' _=>r'.le (.lit (.bool r))) .ret st->Q .ret st) (fun s=>Q (.exit 2) ⟨[(0,am zR w),(3,li (d:Int))],[]⟩)->ALoopU zQ B 0 67 (hold c .mk) ⟨[(0,am zR w),(3,li (d:Int)),(4,li (k:Int))],[]⟩ (hold Q .mk)):=by
 refine F.f48.partial_correctness w d
  _
  ?_
 ·intro _f_f48 ih_f48 k o hF
  refine ZI rfl fun Q hq hk hs=> ?_
  have b0:=hk 0
  simp -dsimp at b0
  clear hk hs
  refine eN ?_
  apply oB hF;intro x17 e18 hF
  have le18:=ZA e18
  refine kdd e18 ?_
  revert hF;refine aS ?_ ?_<;>intro h19 q20 hF
  ·have z21:((k:Int)<(x17.ctors.length:Int)):=auz
   apply oB hF;intro x22 e23 hF
   have le23:=ZA e23
   repeat first|refine cg ?_|simp -dsimp[↓e18,h19,z21,↓e23]
   apply oB hF;intro v24 e25 hF
   refine((C.f43 B hB1 hB2 (w.length:Int) x22 v24 e25)).goI ?_
   repeat first|refine cg ?_|simp -dsimp[↓e18,h19,z21,↓e23]
   revert hF;refine aS (fun h26 q27 hF=> ?_) (fun h26 q27 hF=> ?_)
   ·repeat first|refine cg ?_|simp -dsimp[↓e18,h19,z21,↓e23,h26]
    apply oB hF;intro v28 e29 hF
    refine((C.f47 B hB1 hB2 w (d:Int) (k:Int) v28 e29)).goI ?_
    repeat first|refine cg ?_|simp -dsimp[↓e18,h19,z21,↓e23,h26]
    revert hF;refine aS (fun h30 q31 hF=> ?_) (fun h30 q31 hF=> ?_)
    ·cases hF
     repeat first|refine cg ?_|simp -dsimp[↓e18,h19,z21,↓e23,h26,h30]
     refine lG _ (gR _) (hq _ ?_)
     repeat first|refine cg ?_|simp -dsimp[↓e18,h19,z21,↓e23,h26,h30]
    ·apply oC hF;intro c32 hF
     have w33:i64.wrap ((k:Int)+1)=(k:Int)+1:=ZD (by omega) (by omega)
     repeat first|refine cg ?_|simp -dsimp[↓e18,h19,z21,↓e23,h26,h30,q31,w33]
     refine zG ((ih_f48 (k+1) o hF) _ rfl _ hq)
   ·cases hF
    repeat first|refine cg ?_|simp -dsimp[↓e18,h19,z21,↓e23,h26,q27]
    refine lG _ (gR _) (hq _ ?_)
    repeat first|refine cg ?_|simp -dsimp[↓e18,h19,z21,↓e23,h26,q27]
  ·have z21:¬((k:Int)<(x17.ctors.length:Int)):=auz
   cases hF
   repeat first|refine cg ?_|simp -dsimp[↓e18,h19,q20,z21]
   refine zH hq
theorem CC.f49 (w:List zP):(∀(d:Nat) (o:Lo Bool Unit),F.f49 w d=some o->∀(c:Code),ZQ [1,1,0,1,0,0] (ZG Tryz.f140)=some c->∀(Q:Exit->ASt->Prop),o.post (fun r=>∀st,ZAB zQ Tryz.f140 (fun r' _=>r'.le (.lit (.bool r))) .ret st->Q .ret st) (fun s=>Q (.exit 0) ⟨[],[]⟩)->ALoopU zQ B 0 67 (hold c .mk) ⟨[(0,am zR w),(3,li (d:Int))],[]⟩ (hold Q .mk)):=by
 refine F.f49.partial_correctness w
  _
  ?_
 ·intro _f_f49 ih_f49 d o hF
  refine ZI rfl fun Q hq hk hs=> ?_
  have b0:=hk 0
  simp -dsimp at b0
  clear hk hs
  refine eN ?_
  revert hF;refine kS ?_ ?_<;>intro h4 q5 hF
  ·have z6:((d:Int)<(w.length:Int)):=auz
   obtain⟨x,e7,hF⟩:=ob hF
   have le7:=ZA e7
   refine ZP h4 z6 e7 ?_
   obtain⟨v,e8,hF⟩:=ob hF
   refine((C.f38 B hB1 hB2 x.name v e8)).goI ?_
   refine ZP h4 z6 e7 ?_
   revert hF;refine aS (fun h9 q10 hF=> ?_) (fun h9 q10 hF=> ?_)
   ·repeat first|refine cg ?_|simp -dsimp[h4,z6,↓e7,h9]
    revert hF;refine aN ?_ ?_<;>intro h11 q12 hF
    ·have z13:¬((x.ctors.length:Int)=0):=auz
     repeat first|refine cg ?_|simp -dsimp[h4,z6,↓e7,h9,h11,q12,z13]
     revert hF;refine aS ?_ ?_<;>intro h14 q15 hF
     ·have z16:(4<(x.ctors.length:Int)):=auz
      cases hF
      repeat first|refine cg ?_|simp -dsimp[h4,z6,↓e7,h9,h11,q12,z13,h14,z16]
      refine lG _ (gR _) (hq _ ?_)
      repeat first|refine cg ?_|simp -dsimp[h4,z6,↓e7,h9,h11,q12,z13,h14,z16]
     ·have z16:¬(4<(x.ctors.length:Int)):=auz
      repeat first|refine cg ?_|simp -dsimp[h4,z6,↓e7,h9,h11,q12,z13,h14,q15,z16]
      obtain⟨o',ho34,hF⟩:=ob hF
      refine zK (((CC.f48 B hB1 hB2 w d) 0 o' ho34) _ rfl _ ?_)
      rcases o' with r0|sx
      ·dsimp only at hF
       cases hF
       intro st h
       simp -dsimp
       refine lG st (gR _) (hq st h)
      ·dsimp only at hF
       obtain⟨c35,hF⟩:=oc hF
       have w36:i64.wrap ((d:Int)+1)=(d:Int)+1:=ZD (by omega) (by omega)
       refine kx1 w36 ?_
       refine zG ((ih_f49 (d+1) o hF) _ rfl _ hq)
    ·have z13:((x.ctors.length:Int)=0):=auz
     cases hF
     repeat first|refine cg ?_|simp -dsimp[h4,z6,↓e7,h9,h11,q12,z13]
     refine lG _ (gR _) (hq _ ?_)
     repeat first|refine cg ?_|simp -dsimp[h4,z6,↓e7,h9,h11,q12,z13]
   ·cases hF
    repeat first|refine cg ?_|simp -dsimp[h4,z6,↓e7,h9,q10]
    refine lG _ (gR _) (hq _ ?_)
    repeat first|refine cg ?_|simp -dsimp[h4,z6,↓e7,h9,q10]
  ·have z6:¬((d:Int)<(w.length:Int)):=auz
   cases hF
   refine kx3 h4 q5 z6 ?_
   refine zH hq
theorem C.f50 (w:List zP)(r:Bool)(hF:F.f50 w=some r):PureCall zQ B 140 [am zR w] (.lit (.bool r)):=by
 unfold F.f50 at hF
 refine zI func140 rfl ntmps140 ?_
 revert hF;refine kS ?_ ?_<;>intro h1 q2 hF
 ·have z3:(4<(w.length:Int)):=auz
  cases hF
  exact kc2 h1 z3
 ·have z3:¬(4<(w.length:Int)):=auz
  refine kx3 h1 q2 z3 ?_
  obtain⟨o'38,ho37,hF⟩:=ob hF
  refine zK (((CC.f49 B hB1 hB2 w) 0 o'38 ho37) _ rfl _ ?_)
  rcases o'38 with r040|sx39
  ·dsimp only at hF
   cases hF
   intro st h
   simpa using h
  ·dsimp only at hF
   cases hF
   exact kc0
theorem C.f51 (w:List zP)(t:Ty)(r:Bool)(hF:F.f51 w t=some r):PureCall zQ B 141 [am zR w,.agg [li t.data,li t.index]] (.lit (.bool r)):=by
 unfold F.f51 at hF
 refine zI func141 rfl ntmps141 ?_
 refine kB hF fun v e1 hF=> ?_
 refine((C.f41 B hB1 hB2 (w.length:Int) t v e1)).goI ?_
 revert hF;refine kS (fun h2 q3 hF=> ?_) (fun h2 q3 hF=> ?_)
 ·cases hF
  exact kc1 h2
 ·cases hF
  exact kc1 q3
theorem C.f52 (w:List zP)(t:Ty)(r:Bool)(hF:F.f52 w t=some r):PureCall zQ B 103 [am zR w,.agg [li t.data,li t.index]] (.lit (.bool r)):=by
 unfold F.f52 at hF
 refine zI func103 rfl ntmps103 ?_
 refine kB hF fun v e1 hF=> ?_
 refine((C.f50 B hB1 hB2 w v e1)).goI ?_
 revert hF;refine kS (fun h2 q3 hF=> ?_) (fun h2 q3 hF=> ?_)
 ·refine kx1 h2 ?_
  apply oB hF;intro v4 e5 hF
  refine((C.f51 B hB1 hB2 w t v4 e5)).goI ?_
  cases hF
  exact kc1 h2
 ·cases hF
  exact kc2 h2 q3
theorem C.f53 (c':Ctor)(index':Int)(r:Bool)(hF:F.f53 c' index'=some r):PureCall zQ B 146 [.agg [.lit (.string c'.name),am zM c'.args,li c'.index],li index'] (.lit (.bool r)):=by
 unfold F.f53 at hF
 refine zI func146 rfl ntmps146 ?_
 revert hF;refine kN ?_ ?_<;>intro h1 q2 hF
 ·refine kx2 h1 q2 ?_
  revert hF;refine aN ?_ ?_<;>intro h3 q4 hF
  ·cases hF
   exact kc4 h1 q2 h3 q4
  ·cases hF
   repeat first|refine cg ?_|simp -dsimp[h1,q2,eq_true h3,eq_true q4]
 ·cases hF
  exact kc2 h1 q2
theorem CC.f54 (w:List zP)(t:Ty):(∀(out:List Int) (k:Nat) (o:List Int),F.f54 w t out k=some o->∀(c:Code),ZQ [1,1,1,0,1,0,0] (ZG Tryz.f110)=some c->∀(Q:Exit->ASt->Prop),(Q (.exit 0) ⟨[(5,.own 1 (zA (α:=Int) o))],[.dead,.elems 1 (zB cI o)]⟩)->ALoopU zQ B 0 40 (hold c .mk) ⟨[(0,am zR w),(3,.ptr 0 0),(5,.own 1 (zA (α:=Int) out)),(6,li (k:Int))],[.cells [li t.data,li t.index],.elems 1 (zB cI out)]⟩ (hold Q .mk)):=by
 refine F.f54.partial_correctness w t
  _
  ?_
 ·intro _f_f54 ih_f54 out k o hF
  refine ZI rfl fun Q hq hk hs=> ?_
  have b0:=hk 0
  simp -dsimp at b0
  have d1:=hs 1 _ rfl
  simp -dsimp[yK]at d1
  clear hk hs
  refine eN ?_
  apply oB hF;intro x e3a hF
  have e3a:=ZV e3a;obtain⟨ne3,e3⟩:=e3a
  have le3:=ZA e3
  refine kdd e3 ?_
  revert hF;refine aS ?_ ?_<;>intro h4 q5 hF
  ·have z6:((k:Int)<(x.ctors.length:Int)):=auz
   refine ZHc e3 h4 z6 ?_
   refine yM follows ?_
   apply oB hF;intro x7 e8 hF
   have le8:=ZA e8
   refine ZEP e3 e8 ?_
   apply oB hF;intro v e9 hF
   refine((C.f53 B hB1 hB2 x7 t.index v e9)).pgoW (by simp_all) (by simp) ?_
   refine ZEP e3 e8 ?_
   revert hF;refine aS (fun h10 q11 hF=> ?_) (fun h10 q11 hF=> ?_)
   ·apply oC hF;intro c12 hF
    apply oC hF;intro c13 hF
    have w14:i64.wrap ((k:Int)+1)=(k:Int)+1:=ZD (by omega) (by omega)
    repeat first|refine cg ?_|simp -dsimp[↓e3,↓e8,h10,w14]
    refine zG ((ih_f54 (out++[(k:Int)]) (k+1) o hF) _ rfl _ hq)
   ·apply oC hF;intro c15 hF
    have w16:i64.wrap ((k:Int)+1)=(k:Int)+1:=ZD (by omega) (by omega)
    repeat first|refine cg ?_|simp -dsimp[↓e3,↓e8,h10,q11,w16]
    refine zG ((ih_f54 out (k+1) o hF) _ rfl _ hq)
  ·have z6:¬((k:Int)<(x.ctors.length:Int)):=auz
   cases hF
   repeat first|refine cg ?_|simp -dsimp[↓e3,h4,q5,z6]
   refine zH hq
theorem C.f55 (w:List zP)(t:Ty)(r:List Int)(hF:F.f55 w t=some r):PureCall zQ B 110 [am zR w,.agg [li t.data,li t.index]] (am cI r):=by
 unfold F.f55 at hF
 refine zI func110 rfl ntmps110 ?_
 revert hF;refine kS ?_ ?_<;>intro h1 q2 hF
 ·cases hF
  exact kc1 h1
 ·refine kx1 q2 ?_
  apply oB hF;intro o' ho17 hF
  refine zK (((CC.f54 B hB1 hB2 w t) [] 0 o' ho17) _ rfl _ ?_)
  cases hF
  exact kc0
theorem CC.f56 (list:List Int)(n:Int):(∀(i:Nat) (o:Lo Bool Unit),F.f56 list n i=some o->∀(c:Code),ZQ [1,0,1,0,0] (ZG Tryz.f109)=some c->∀(Q:Exit->ASt->Prop),o.post (fun r=>∀st,ZAB zQ Tryz.f109 (fun r' _=>r'.le (.lit (.bool r))) .ret st->Q .ret st) (fun s=>Q (.exit 0) ⟨[],[]⟩)->ALoopU zQ B 0 18 (hold c .mk) ⟨[(0,am cI list),(1,li n),(5,li (i:Int))],[]⟩ (hold Q .mk)):=by
 refine F.f56.partial_correctness list n
  _
  ?_
 ·intro _f_f56 ih_f56 i o hF
  refine ZI rfl fun Q hq hk hs=> ?_
  have b0:=hk 0
  simp -dsimp at b0
  clear hk hs
  refine eN ?_
  revert hF;refine kS ?_ ?_<;>intro h1 q2 hF
  ·have z3:((i:Int)<(list.length:Int)):=auz
   apply oB hF;intro x e4 hF
   have le4:=ZA e4
   refine ZP h1 z3 e4 ?_
   revert hF;refine aS ?_ ?_<;>intro h5 q6 hF
   ·cases hF
    refine kx1 h5 ?_
    refine lG _ (gR _) (hq _ ?_)
    exact kc0
   ·have w7:i64.wrap ((i:Int)+1)=(i:Int)+1:=ZD (by omega) (by omega)
    refine kx2 q6 w7 ?_
    refine zG ((ih_f56 (i+1) o hF) _ rfl _ hq)
  ·have z3:¬((i:Int)<(list.length:Int)):=auz
   cases hF
   refine kx3 h1 q2 z3 ?_
   refine zH hq
theorem C.f57 (list:List Int)(n:Int)(r:Bool)(hF:F.f57 list n=some r):PureCall zQ B 109 [am cI list,li n] (.lit (.bool r)):=by
 unfold F.f57 at hF
 refine zI func109 rfl ntmps109 ?_
 refine kB hF fun o' ho8 hF=> ?_
 refine zK (((CC.f56 B hB1 hB2 list n) 0 o' ho8) _ rfl _ ?_)
 rcases o' with r0|sx
 ·dsimp only at hF
  cases hF
  intro st h
  simpa using h
 ·dsimp only at hF
  cases hF
  exact kc0
theorem C.f58 (w:List zP)(t:Ty)(p:Pattern)(r:Bool)(hF:F.f58 w t p=some r):PureCall zQ B 197 [am zR w,.agg [li t.data,li t.index],.agg [li p.op,li p.ctor,li p.n,li p.m,li p.var,am zT p.kids]] (.lit (.bool r)):=by
 unfold F.f58 at hF
 refine zI func197 rfl ntmps197 ?_
 revert hF;refine kN ?_ ?_<;>intro h1 q2 hF
 ·refine kx2 h1 q2 ?_
  revert hF;refine aS ?_ ?_<;>intro h3 q4 hF
  ·refine kx3 h1 q2 h3 ?_
   revert hF;refine aN ?_ ?_<;>intro h5 q6 hF
   ·refine kx5 h1 q2 h3 h5 q6 ?_
    revert hF;refine aN ?_ ?_<;>intro h7 q8 hF
    ·have n9:¬(p.op=3):=by omega
     refine kx8 h1 q2 h3 h5 q6 h7 q8 n9 ?_
     revert hF;refine aS ?_ ?_<;>intro h10 q11 hF
     ·refine kx9 h1 q2 h3 h5 q6 h7 q8 n9 h10 ?_
      revert hF;refine aS ?_ ?_<;>intro h12 q13 hF
      ·have n14:¬(p.op=4):=by omega
       repeat first|refine cg ?_|simp -dsimp[h1,q2,h3,h5,q6,h7,q8,n9,h10,h12,n14]
       revert hF;refine aN ?_ ?_<;>intro h15 q16 hF
       ·cases hF
        repeat first|refine cg ?_|simp -dsimp[h1,q2,h3,h5,q6,h7,q8,n9,h10,h12,n14,h15,q16]
       ·have n17:¬(p.op=1):=by omega
        have n18:¬(p.op=5):=by omega
        cases hF
        repeat first|refine cg ?_|simp -dsimp[h1,q2,h3,h5,q6,h7,q8,n9,h10,h12,n14,h15,q16,n17,n18]
      ·cases hF
       repeat first|refine cg ?_|simp -dsimp[h1,q2,h3,h5,q6,h7,q8,n9,h10,h12,q13]
     ·cases hF
      repeat first|refine cg ?_|simp -dsimp[h1,q2,h3,h5,q6,h7,q8,n9,h10,q11]
    ·cases hF
     exact kc7 h1 q2 h3 h5 q6 h7 q8
   ·cases hF
    exact kc5 h1 q2 h3 h5 q6
  ·refine kx4 h1 q2 h3 q4 ?_
   revert hF;refine aN ?_ ?_<;>intro h19 q20 hF
   ·cases hF
    exact kc6 h1 q2 h3 q4 h19 q20
   ·refine kx6 h1 q2 h3 q4 h19 q20 ?_
    revert hF;refine aN ?_ ?_<;>intro h21 q22 hF
    ·refine kx8 h1 q2 h3 q4 h19 q20 h21 q22 ?_
     revert hF;refine aS ?_ ?_<;>intro h23 q24 hF
     ·refine kx9 h1 q2 h3 q4 h19 q20 h21 q22 h23 ?_
      revert hF;refine aS ?_ ?_<;>intro h25 q26 hF
      ·repeat first|refine cg ?_|simp -dsimp[h1,q2,h3,q4,h19,q20,h21,q22,h23,h25]
       revert hF;refine aN ?_ ?_<;>intro h27 q28 hF
       ·repeat first|refine cg ?_|simp -dsimp[h1,q2,h3,q4,h19,q20,h21,q22,h23,h25,h27,q28]
        revert hF;refine aN ?_ ?_<;>intro h29 q30 hF
        ·cases hF
         repeat first|refine cg ?_|simp -dsimp[h1,q2,h3,q4,h19,q20,h21,q22,h23,h25,h27,q28,h29,q30]
        ·repeat first|refine cg ?_|simp -dsimp[h1,q2,h3,q4,h19,q20,h21,q22,h23,h25,h27,q28,h29,q30]
         revert hF;refine aS ?_ ?_<;>intro h31 q32 hF
         ·cases hF
          repeat first|refine cg ?_|simp -dsimp[h1,q2,h3,q4,h19,q20,h21,q22,h23,h25,h27,q28,h29,q30,h31]
         ·repeat first|refine cg ?_|simp -dsimp[h1,q2,h3,q4,h19,q20,h21,q22,h23,h25,h27,q28,h29,q30,h31,q32]
          revert hF;refine aS ?_ ?_<;>intro h33 q34 hF
          ·cases hF
           repeat first|refine cg ?_|simp -dsimp[h1,q2,h3,q4,h19,q20,h21,q22,h23,h25,h27,q28,h29,q30,h31,q32,h33]
          ·cases hF
           repeat first|refine cg ?_|simp -dsimp[h1,q2,h3,q4,h19,q20,h21,q22,h23,h25,h27,q28,h29,q30,h31,q32,h33,q34]
       ·have n35:¬(p.op=1):=by omega
        have n36:¬(p.op=5):=by omega
        repeat first|refine cg ?_|simp -dsimp[h1,q2,h3,q4,h19,q20,h21,q22,h23,h25,h27,q28,n35,n36]
        refine yM follows ?_
        repeat first|refine cg ?_|simp -dsimp[h1,q2,h3,q4,h19,q20,h21,q22,h23,h25,h27,q28,n35,n36]
        apply oB hF;intro v e37 hF
        refine((C.f55 B hB1 hB2 w t v e37)).pgoW (by simp[h1,q2,h3,q4,h19,q20,h21,q22,h23,h25,h27,q28,n35,n36]) (by simp) ?_
        repeat first|refine cg ?_|simp -dsimp[h1,q2,h3,q4,h19,q20,h21,q22,h23,h25,h27,q28,n35,n36]
        apply oB hF;intro v38 e39 hF
        refine((C.f57 B hB1 hB2 v p.ctor v38 e39)).pgoW (by simp[h1,q2,h3,q4,h19,q20,h21,q22,h23,h25,h27,q28,n35,n36]) (by simp) ?_
        cases hF
        repeat first|refine cg ?_|simp -dsimp[h1,q2,h3,q4,h19,q20,h21,q22,h23,h25,h27,q28,n35,n36]
      ·cases hF
       repeat first|refine cg ?_|simp -dsimp[h1,q2,h3,q4,h19,q20,h21,q22,h23,h25,q26]
     ·cases hF
      repeat first|refine cg ?_|simp -dsimp[h1,q2,h3,q4,h19,q20,h21,q22,h23,q24]
    ·have n40:¬(p.op=4):=by omega
     refine kx9 h1 q2 h3 q4 h19 q20 h21 q22 n40 ?_
     revert hF;refine aN ?_ ?_<;>intro h41 q42 hF
     ·cases hF
      repeat first|refine cg ?_|simp -dsimp[h1,q2,h3,q4,h19,q20,h21,q22,n40,h41,q42]
     ·have n43:¬(p.op=1):=by omega
      have n44:¬(p.op=5):=by omega
      repeat first|refine cg ?_|simp -dsimp[h1,q2,h3,q4,h19,q20,h21,q22,n40,h41,q42,n43,n44]
      revert hF;refine aS ?_ ?_<;>intro h45 q46 hF
      ·repeat first|refine cg ?_|simp -dsimp[h1,q2,h3,q4,h19,q20,h21,q22,n40,h41,q42,n43,n44,h45]
       revert hF;refine aS ?_ ?_<;>intro h47 q48 hF
       ·repeat first|refine cg ?_|simp -dsimp[h1,q2,h3,q4,h19,q20,h21,q22,n40,h41,q42,n43,n44,h45,h47]
        revert hF;refine aS ?_ ?_<;>intro h49 q50 hF
        ·cases hF
         repeat first|refine cg ?_|simp -dsimp[h1,q2,h3,q4,h19,q20,h21,q22,n40,h41,q42,n43,n44,h45,h47,h49]
        ·cases hF
         repeat first|refine cg ?_|simp -dsimp[h1,q2,h3,q4,h19,q20,h21,q22,n40,h41,q42,n43,n44,h45,h47,h49,q50]
       ·cases hF
        repeat first|refine cg ?_|simp -dsimp[h1,q2,h3,q4,h19,q20,h21,q22,n40,h41,q42,n43,n44,h45,h47,q48]
      ·cases hF
       repeat first|refine cg ?_|simp -dsimp[h1,q2,h3,q4,h19,q20,h21,q22,n40,h41,q42,n43,n44,h45,q46]
 ·refine kx2 h1 q2 ?_
  revert hF;refine aN ?_ ?_<;>intro h51 q52 hF
  ·refine kx4 h1 q2 h51 q52 ?_
   revert hF;refine aN ?_ ?_<;>intro h53 q54 hF
   ·have n55:¬(p.op=3):=by omega
    refine kx7 h1 q2 h51 q52 h53 q54 n55 ?_
    revert hF;refine aS ?_ ?_<;>intro h56 q57 hF
    ·refine kx8 h1 q2 h51 q52 h53 q54 n55 h56 ?_
     revert hF;refine aS ?_ ?_<;>intro h58 q59 hF
     ·have n60:¬(p.op=4):=by omega
      repeat first|refine cg ?_|simp -dsimp[h1,q2,h51,q52,h53,q54,n55,h56,h58,n60]
      revert hF;refine aN ?_ ?_<;>intro h61 q62 hF
      ·cases hF
       repeat first|refine cg ?_|simp -dsimp[h1,q2,h51,q52,h53,q54,n55,h56,h58,n60,h61,q62]
      ·have n63:¬(p.op=1):=by omega
       cases hF
       repeat first|refine cg ?_|simp -dsimp[h1,q2,h51,q52,h53,q54,n55,h56,h58,n60,h61,q62,n63]
     ·cases hF
      repeat first|refine cg ?_|simp -dsimp[h1,q2,h51,q52,h53,q54,n55,h56,h58,q59]
    ·cases hF
     exact kc9 h1 q2 h51 q52 h53 q54 n55 h56 q57
   ·cases hF
    exact kc6 h1 q2 h51 q52 h53 q54
  ·cases hF
   exact kc4 h1 q2 h51 q52
theorem C.f59 (c':Ctor)(index':Int)(r:Int)(hF:F.f59 c' index'=some r):PureCall zQ B 147 [.agg [.lit (.string c'.name),am zM c'.args,li c'.index],li index'] (li r):=by
 unfold F.f59 at hF
 refine zI func147 rfl ntmps147 ?_
 revert hF;refine kS ?_ ?_<;>intro h1 q2 hF
 ·cases hF
  exact kc1 h1
 ·cases hF
  exact kc1 q2
theorem CC.f60 (t:Ty)(x2:Ctor):(∀(out:List Ty) (i:Nat) (o:List Ty),F.f60 t x2 out i=some o->∀(c:Code),ZQ [1,1,1,0,1,0,0] (ZG Tryz.f111)=some c->∀(Q:Exit->ASt->Prop),(Q (.exit 0) ⟨[(7,.own 1 (zA (α:=Ty) o))],[.dead,.elems 2 (zB zM o)]⟩)->ALoopU zQ B 0 46 (hold c .mk) ⟨[(4,.ptr 0 0),(7,.own 1 (zA (α:=Ty) out)),(8,.ptr 2 0),(9,li (i:Int))],[.cells [li t.data,li t.index],.elems 2 (zB zM out),.cells [.lit (.string x2.name),am zM x2.args,li x2.index]]⟩ (hold Q .mk)):=by
 refine F.f60.partial_correctness t x2
  _
  ?_
 ·intro _f_f60 ih_f60 out i o hF
  refine ZI rfl fun Q hq hk hs=> ?_
  have d1:=hs 1 _ rfl
  simp -dsimp[yK]at d1
  have d2:=hs 2 _ rfl
  simp -dsimp[yK]at d2
  clear hk hs
  refine eN ?_
  revert hF;refine kS ?_ ?_<;>intro h4 q5 hF
  ·have z6:((i:Int)<(x2.args.length:Int)):=auz
   apply oB hF;intro x7 e8 hF
   have le8:=ZA e8
   refine ZP h4 z6 e8 ?_
   revert hF;refine aS ?_ ?_<;>intro h9 q10 hF
   ·refine kx1 h9 ?_
    apply oB hF;intro v e11 hF
    refine((C.f59 B hB1 hB2 x2 t.index v e11)).goI ?_
    apply oC hF;intro c12 hF
    have w13:i64.wrap ((i:Int)+1)=(i:Int)+1:=ZD (by omega) (by omega)
    refine kx1 w13 ?_
    refine zG ((ih_f60 (out++[(⟨x7.data,v⟩:Ty)]) (i+1) o hF) _ rfl _ hq)
   ·apply oC hF;intro c14 hF
    have w15:i64.wrap ((i:Int)+1)=(i:Int)+1:=ZD (by omega) (by omega)
    refine kx2 q10 w15 ?_
    refine zG ((ih_f60 (out++[x7]) (i+1) o hF) _ rfl _ hq)
  ·have z6:¬((i:Int)<(x2.args.length:Int)):=auz
   cases hF
   refine kx3 h4 q5 z6 ?_
   refine zH hq
theorem C.f61 (w:List zP)(t:Ty)(ctor:Int)(r:List Ty)(hF:F.f61 w t ctor=some r):PureCall zQ B 111 [am zR w,.agg [li t.data,li t.index],li ctor] (am zM r):=by
 unfold F.f61 at hF
 refine zI func111 rfl ntmps111 ?_
 apply oB hF;intro x e1a hF
 have e1a:=ZV e1a;obtain⟨ne1,e1⟩:=e1a
 have le1:=ZA e1
 apply oB hF;intro x2 e3a hF
 have e3a:=ZV e3a;obtain⟨ne3,e3⟩:=e3a
 have le3:=ZA e3
 refine ZEP e1 e3 ?_
 apply oB hF;intro o' ho16 hF
 refine zK (((CC.f60 B hB1 hB2 t x2) [] 0 o' ho16) _ rfl _ ?_)
 cases hF
 exact kc0
theorem C.f62 (op:Int)(r:Int)(hF:F.f62 op=some r):PureCall zQ B 199 [li op] (li r):=by
 unfold F.f62 at hF
 refine zI func199 rfl ntmps199 ?_
 revert hF;refine kS ?_ ?_<;>intro h1 q2 hF
 ·cases hF
  repeat first|refine cg ?_|simp -dsimp[eq_true h1]
 ·refine kx2 h1 q2 ?_
  revert hF;refine aS ?_ ?_<;>intro h3 q4 hF
  ·cases hF
   repeat first|refine cg ?_|simp -dsimp[eq_true h3]
  ·refine kx2 h3 q4 ?_
   revert hF;refine aS ?_ ?_<;>intro h5 q6 hF
   ·cases hF
    repeat first|refine cg ?_|simp -dsimp[eq_true h5]
   ·cases hF
    exact kc2 h5 q6
theorem CC.f63 (t:Ty)(p:Pattern):(∀(out:List Ty) (i:Nat) (o:List Ty),F.f63 t p out i=some o->∀(c:Code),ZQ [1,1,1,0,1,0,0] (ZG Tryz.f180)=some c->∀(Q:Exit->ASt->Prop),(Q (.exit 0) ⟨[(7,.own 2 (zA (α:=Ty) o))],[.dead,.dead,.elems 2 (zB zM o)]⟩)->ALoopU zQ B 0 30 (hold c .mk) ⟨[(4,.ptr 0 0),(5,.ptr 1 0),(7,.own 2 (zA (α:=Ty) out)),(8,li (i:Int))],[.cells [li t.data,li t.index],.cells [li p.op,li p.ctor,li p.n,li p.m,li p.var,am zT p.kids],.elems 2 (zB zM out)]⟩ (hold Q .mk)):=by
 refine F.f63.partial_correctness t p
  _
  ?_
 ·intro _f_f63 ih_f63 out i o hF
  refine ZI rfl fun Q hq hk hs=> ?_
  have d1:=hs 1 _ rfl
  simp -dsimp[yK]at d1
  have d2:=hs 2 _ rfl
  simp -dsimp[yK]at d2
  clear hk hs
  refine eN ?_
  refine kB hF fun v4 e5 hF=> ?_
  refine((C.f62 B hB1 hB2 p.op v4 e5)).goI ?_
  revert hF;refine kS ?_ ?_<;>intro h6 q7 hF
  ·apply oC hF;intro c8 hF
   apply oC hF;intro c9 hF
   have w10:i64.wrap ((i:Int)+1)=(i:Int)+1:=ZD (by omega) (by omega)
   refine kx2 h6 w10 ?_
   refine zG ((ih_f63 (out++[t]) (i+1) o hF) _ rfl _ hq)
  ·cases hF
   refine kx2 h6 q7 ?_
   refine zH hq
theorem C.f64 (w:List zP)(t:Ty)(p:Pattern)(r:List Ty)(hF:F.f64 w t p=some r):PureCall zQ B 180 [am zR w,.agg [li t.data,li t.index],.agg [li p.op,li p.ctor,li p.n,li p.m,li p.var,am zT p.kids]] (am zM r):=by
 unfold F.f64 at hF
 refine zI func180 rfl ntmps180 ?_
 revert hF;refine kS ?_ ?_<;>intro h1 q2 hF
 ·refine kx1 h1 ?_
  apply oB hF;intro v e3 hF
  refine((C.f61 B hB1 hB2 w t p.ctor v e3)).goI ?_
  cases hF
  exact kc0
 ·refine kx1 q2 ?_
  apply oB hF;intro o' ho11 hF
  refine zK (((CC.f63 B hB1 hB2 t p) [] 0 o' ho11) _ rfl _ ?_)
  cases hF
  exact kc0
theorem CC.f65 (w:List zP):(∀(t:Ty) (p:Pattern) (depth:Int) (r:Bool),F.f65 w t p depth=some r->PureCall zQ B 176 [am zR w,.agg [li t.data,li t.index],.agg [li p.op,li p.ctor,li p.n,li p.m,li p.var,am zT p.kids],li depth] (.lit (.bool r)))/\
  (∀(p:Pattern) (depth:Int) (v6:List Ty) (i:Nat) (o:Lo Bool Unit),F.f66 w p depth v6 i=some o->∀(c:Code),ZQ [1,1,1,1,0,1,0,0] (ZG Tryz.f176)=some c->∀(Q:Exit->ASt->Prop),o.post (fun r=>∀st,ZAB zQ Tryz.f176 (fun r' _=>r'.le (.lit (.bool r))) .ret st->Q .ret st) (fun s=>Q (.exit 0) ⟨[],[]⟩)->ALoopU zQ B 0 50 (hold c .mk) ⟨[(0,am zR w),(3,li depth),(6,.ptr 1 0),(9,am zM v6),(10,li (i:Int))],[.dead,.cells [li p.op,li p.ctor,li p.n,li p.m,li p.var,am zT p.kids]]⟩ (hold Q .mk)):=by
 refine F.f65.mutual_partial_correctness w
  _ _
  ?_ ?_
 ·intro _f_f66 ih_f66 t p depth r hF
  refine zI func176 rfl ntmps176 ?_
  revert hF;refine kN ?_ ?_<;>intro h1 q2 hF
  ·refine kx2 h1 q2 ?_
   apply oB hF;intro v e3 hF
   refine((C.f58 B hB1 hB2 w t p v e3)).goI ?_
   refine kx2 h1 q2 ?_
   revert hF;refine aN (fun h4 q5 hF=> ?_) (fun h4 q5 hF=> ?_)
   ·cases hF
    exact kc4 h1 q2 h4 q5
   ·refine kx4 h1 q2 h4 q5 ?_
    apply oB hF;intro v6 e7 hF
    refine((C.f64 B hB1 hB2 w t p v6 e7)).goI ?_
    refine kx4 h1 q2 h4 q5 ?_
    revert hF;refine aN ?_ ?_<;>intro h8 q9 hF
    ·have z10:¬((p.kids.length:Int)=(v6.length:Int)):=auz
     cases hF
     exact kc7 h1 q2 h4 q5 h8 q9 z10
    ·have z10:((p.kids.length:Int)=(v6.length:Int)):=auz
     refine kx7 h1 q2 h4 q5 h8 q9 z10 ?_
     apply oB hF;intro o' ho22 hF
     refine zK ((ih_f66 p depth v6 0 o' ho22) _ rfl _ ?_)
     rcases o' with r0|sx
     ·dsimp only at hF
      cases hF
      intro st h
      simpa using h
     ·dsimp only at hF
      cases hF
      exact kc0
  ·cases hF
   exact kc2 h1 q2
 ·intro _f_f65 _f_f66 ih_f65 ih_f66 p depth v6 i o hF
  refine ZI rfl fun Q hq hk hs=> ?_
  have b0:=hk 0
  simp -dsimp at b0
  have b9:=hk 9
  simp -dsimp at b9
  have d1:=hs 1 _ rfl
  simp -dsimp[yK]at d1
  clear hk hs
  refine eN ?_
  revert hF;refine kS ?_ ?_<;>intro h11 q12 hF
  ·have z13:((i:Int)<(v6.length:Int)):=auz
   refine kx2 h11 z13 ?_
   refine yM follows ?_
   apply oB hF;intro x e14 hF
   have le14:=ZA e14
   apply oB hF;intro x15 e16 hF
   have le16:=ZA e16
   refine ZAu h11 z13 e14 e16 ?_
   apply oB hF;intro v17 e18 hF
   refine((ih_f65 x x15 (i64.wrap (depth-1)) v17 e18)).pgoW (by simp[h11,z13,↓e14,↓e16]) (by simp) ?_
   refine ZAu h11 z13 e14 e16 ?_
   revert hF;refine aN (fun h19 q20 hF=> ?_) (fun h19 q20 hF=> ?_)
   ·cases hF
    refine ZAT h11 z13 e14 e16 h19 q20 ?_
    refine lG _ (gR _) (hq _ ?_)
    repeat first|refine cg ?_|simp -dsimp[h11,z13,↓e14,↓e16,h19,q20]
   ·have w21:i64.wrap ((i:Int)+1)=(i:Int)+1:=ZD (by omega) (by omega)
    repeat first|refine cg ?_|simp -dsimp[h11,z13,↓e14,↓e16,h19,q20,w21]
    refine zG ((ih_f66 p depth v6 (i+1) o hF) _ rfl _ hq)
  ·have z13:¬((i:Int)<(v6.length:Int)):=auz
   cases hF
   refine kx3 h11 q12 z13 ?_
   refine zH hq
theorem CC.f67  :(∀(p:Pattern) (most:Int) (r:Int),F.f67 p most=some r->PureCall zQ B 177 [.agg [li p.op,li p.ctor,li p.n,li p.m,li p.var,am zT p.kids],li most] (li r))/\
  (∀(p:Pattern) (most:Int) (n:Int) (i:Nat) (o:Int),F.f68 p most n i=some o->∀(c:Code),ZQ [1,1,0,1,0,0] (ZG Tryz.f177)=some c->∀(Q:Exit->ASt->Prop),(Q (.exit 0) ⟨[(5,li o)],[]⟩)->ALoopU zQ B 0 31 (hold c .mk) ⟨[(1,li most),(2,.ptr 0 0),(5,li n),(6,li (i:Int))],[.cells [li p.op,li p.ctor,li p.n,li p.m,li p.var,am zT p.kids]]⟩ (hold Q .mk)):=by
 refine F.f67.mutual_partial_correctness 
  _ _
  ?_ ?_
 ·intro _f_f68 ih_f68 p most r hF
  refine zI func177 rfl ntmps177 ?_
  refine kB hF fun o' ho9 hF=> ?_
  refine zK ((ih_f68 p most 1 0 o' ho9) _ rfl _ ?_)
  cases hF
  exact kc0
 ·intro _f_f67 _f_f68 ih_f67 ih_f68 p most n i o hF
  refine ZI rfl fun Q hq hk hs=> ?_
  have d0:=hs 0 _ rfl
  simp -dsimp[yK]at d0
  clear hk hs
  refine eN ?_
  revert hF;refine kS ?_ ?_<;>intro h1 q2 hF
  ·have z3:((i:Int)<(p.kids.length:Int)):=auz
   refine kx2 h1 z3 ?_
   revert hF;refine aS ?_ ?_<;>intro h4 q5 hF
   ·apply oB hF;intro x e6 hF
    have le6:=ZA e6
    refine ZO0 h4 e6 ?_
    apply oB hF;intro v e7 hF
    refine((ih_f67 x (i64.wrap (most-n)) v e7)).goI ?_
    have w8:i64.wrap ((i:Int)+1)=(i:Int)+1:=ZD (by omega) (by omega)
    refine kx1 w8 ?_
    refine zG ((ih_f68 p most (i64.wrap (n+v)) (i+1) o hF) _ rfl _ hq)
   ·cases hF
    refine kx2 h4 q5 ?_
    refine zH hq
  ·have z3:¬((i:Int)<(p.kids.length:Int)):=auz
   cases hF
   refine kx3 h1 q2 z3 ?_
   refine zH hq
theorem CC.f69 (w:List zP):(∀(out:List VarType) (t:Ty) (p:Pattern) (r:List VarType),F.f69 out w t p=some r->BCall zQ B 144 [.elems 3 (zB yQ out)] [.own 0 (zA (α:=VarType) out),am zR w,.agg [li t.data,li t.index],.agg [li p.op,li p.ctor,li p.n,li p.m,li p.var,am zT p.kids]] (.own 0 (zA (α:=VarType) r)) [.elems 3 (zB yQ r)])/\
  (∀(p:Pattern) (v30:List Ty) (out32:List VarType) (i33:Nat) (o:List VarType),F.f71 w p v30 out32 i33=some o->∀(c:Code),ZQ [1,1,1,0,1,0,0] (ZG Tryz.f144)=some c->∀(Q:Exit->ASt->Prop),(Q (.exit 0) ⟨[(0,.own 0 (zA (α:=VarType) o))],[.elems 3 (zB yQ o)]⟩)->ALoopU zQ B 1 58 (hold c .mk) ⟨[(0,.own 0 (zA (α:=VarType) out32)),(1,am zR w),(7,.ptr 2 0),(9,am zM v30),(10,li (i33:Int))],[.elems 3 (zB yQ out32),.dead,.cells [li p.op,li p.ctor,li p.n,li p.m,li p.var,am zT p.kids]]⟩ (hold Q .mk))/\
  (∀(p:Pattern) (v:List Ty) (out7:List VarType) (i:Nat) (o:List VarType),F.f70 w p v out7 i=some o->∀(c:Code),ZQ [1,1,1,0,1,0,0] (ZG Tryz.f144)=some c->∀(Q:Exit->ASt->Prop),(Q (.exit 0) ⟨[(0,.own 0 (zA (α:=VarType) o))],[.elems 3 (zB yQ o)]⟩)->ALoopU zQ B 1 58 (hold c .mk) ⟨[(0,.own 0 (zA (α:=VarType) out7)),(1,am zR w),(7,.ptr 2 0),(9,am zM v),(10,li (i:Int))],[.elems 3 (zB yQ out7),.dead,.cells [li p.op,li p.ctor,li p.n,li p.m,li p.var,am zT p.kids]]⟩ (hold Q .mk))/\
  (∀(p:Pattern) (v59:List Ty) (out61:List VarType) (i62:Nat) (o:List VarType),F.f72 w p v59 out61 i62=some o->∀(c:Code),ZQ [1,1,1,0,1,0,0] (ZG Tryz.f144)=some c->∀(Q:Exit->ASt->Prop),(Q (.exit 0) ⟨[(0,.own 0 (zA (α:=VarType) o))],[.elems 3 (zB yQ o)]⟩)->ALoopU zQ B 1 58 (hold c .mk) ⟨[(0,.own 0 (zA (α:=VarType) out61)),(1,am zR w),(7,.ptr 2 0),(9,am zM v59),(10,li (i62:Int))],[.elems 3 (zB yQ out61),.dead,.cells [li p.op,li p.ctor,li p.n,li p.m,li p.var,am zT p.kids]]⟩ (hold Q .mk)):=by
 refine F.f69.mutual_partial_correctness w
  _ _ _ _
  ?_ ?_ ?_ ?_
 ·intro _f_f71 _f_f70 _f_f72 ih_f71 ih_f70 ih_f72 out t p r hF
  refine BCall.enter func144 (by kernel_rfl) rfl ntmps144 (by simp) rfl (by simp) (by simp) (by simp) (by simp) (by simp) (gR _) ?_
  revert hF;refine kN ?_ ?_<;>intro h1 q2 hF
  ·refine kx2 h1 q2 ?_
   revert hF;refine aS ?_ ?_<;>intro h3 q4 hF
   ·apply oC hF;intro c5 hF
    refine kx1 h3 ?_
    apply oB hF;intro v e6 hF
    refine((C.f64 B hB1 hB2 w t p v e6)).goI ?_
    refine kB hF fun o' ho29 hF=> ?_
    refine zK ((ih_f70 p v (out++[(⟨p.var,t⟩:VarType)]) 0 o' ho29) _ rfl _ ?_)
    cases hF
    exact kc0
   ·refine kx1 q4 ?_
    apply oB hF;intro v30 e31 hF
    refine((C.f64 B hB1 hB2 w t p v30 e31)).goI ?_
    refine kB hF fun o'57 ho56 hF=> ?_
    refine zK ((ih_f71 p v30 out 0 o'57 ho56) _ rfl _ ?_)
    cases hF
    exact kc0
  ·apply oC hF;intro c58 hF
   refine kx2 h1 q2 ?_
   apply oB hF;intro v59 e60 hF
   refine((C.f64 B hB1 hB2 w t p v59 e60)).goI ?_
   refine kB hF fun o'86 ho85 hF=> ?_
   refine zK ((ih_f72 p v59 (out++[(⟨p.var,t⟩:VarType)]) 0 o'86 ho85) _ rfl _ ?_)
   cases hF
   exact kc0
 ·intro _f_f69 _f_f71 ih_f69 ih_f71 p v30 out32 i33 o hF
  refine ZI rfl fun Q hq hk hs=> ?_
  have b1:=hk 1
  simp -dsimp at b1
  have b9:=hk 9
  simp -dsimp at b9
  have d0:=hs 0 _ rfl
  simp -dsimp[yK]at d0
  have d2:=hs 2 _ rfl
  simp -dsimp[yK]at d2
  clear hk hs
  refine eN ?_
  revert hF;refine kS ?_ ?_<;>intro h34 q35 hF
  ·have z36:((i33:Int)<(v30.length:Int)):=auz
   refine kx2 h34 z36 ?_
   revert hF;refine aN ?_ ?_<;>intro h37 q38 hF
   ·have z39:¬((i33:Int)=0):=auz
    refine kx5 h34 z36 h37 q38 z39 ?_
    revert hF;refine aN ?_ ?_<;>intro h40 q41 hF
    ·refine kx7 h34 z36 h37 q38 z39 h40 q41 ?_
     refine yL [144] [(0,0),(0,0),(0,0),(0,0),(0,0),(0,0),(0,0),(0,0),(0,0),(0,0),(0,0),(0,1),(1,1)] [1,1,1,1,1,1,1,1,1,1,1,1,1] follows ?_
     apply oB hF;intro x42 e43 hF
     have le43:=ZA e43
     apply oB hF;intro x44 e45 hF
     have le45:=ZA e45
     refine ZEP e43 e45 ?_
     apply oB hF;intro v46 e47 hF
     refine((ih_f69 out32 x42 x44 v46 e47)).ego (pl [0]) (by simp) (by simp) (Zu _ rfl (by decide)) (by intro i hi hi';simp at hi hi';first|omega|(subst hi';simp[pl])) (by simp[h34,z36,h37,q38,z39,h40,q41,↓e43,↓e45]) (by simp[h34,z36,h37,q38,z39,h40,q41,↓e43,↓e45]) ?_
     have w48:i64.wrap ((i33:Int)+1)=(i33:Int)+1:=ZD (by omega) (by omega)
     refine kx1 w48 ?_
     refine zG ((ih_f71 p v30 v46 (i33+1) o hF) _ rfl _ hq)
    ·cases hF
     refine kx7 h34 z36 h37 q38 z39 h40 q41 ?_
     refine zH hq
   ·have z39:((i33:Int)=0):=auz
    repeat first|refine cg ?_|simp -dsimp[h34,z36,eq_true h37,eq_true q38,eq_true z39]
    refine yL [144] [(0,0),(0,0),(0,0),(0,0),(0,0),(0,0),(0,0),(0,0),(0,0),(0,0),(0,0),(0,1),(1,1)] [1,1,1,1,1,1,1,1,1,1,1,1,1] follows ?_
    apply oB hF;intro x49 e50 hF
    have le50:=ZA e50
    apply oB hF;intro x51 e52 hF
    have le52:=ZA e52
    refine ZEP e50 e52 ?_
    apply oB hF;intro v53 e54 hF
    refine((ih_f69 out32 x49 x51 v53 e54)).ego (pl [0]) (by simp) (by simp) (Zu _ rfl (by decide)) (by intro i hi hi';simp at hi hi';first|omega|(subst hi';simp[pl])) (by simp[h34,z36,eq_true h37,eq_true q38,eq_true z39,↓e50,↓e52]) (by simp[h34,z36,eq_true h37,eq_true q38,eq_true z39,↓e50,↓e52]) ?_
    have w55:i64.wrap ((i33:Int)+1)=(i33:Int)+1:=ZD (by omega) (by omega)
    refine kx1 w55 ?_
    refine zG ((ih_f71 p v30 v53 (i33+1) o hF) _ rfl _ hq)
  ·have z36:¬((i33:Int)<(v30.length:Int)):=auz
   cases hF
   refine kx3 h34 q35 z36 ?_
   refine zH hq
 ·intro _f_f69 _f_f70 ih_f69 ih_f70 p v out7 i o hF
  refine ZI rfl fun Q hq hk hs=> ?_
  have b1:=hk 1
  simp -dsimp at b1
  have b9:=hk 9
  simp -dsimp at b9
  have d0:=hs 0 _ rfl
  simp -dsimp[yK]at d0
  have d2:=hs 2 _ rfl
  simp -dsimp[yK]at d2
  clear hk hs
  refine eN ?_
  revert hF;refine kS ?_ ?_<;>intro h8 q9 hF
  ·have z10:((i:Int)<(v.length:Int)):=auz
   refine kx2 h8 z10 ?_
   revert hF;refine aN ?_ ?_<;>intro h11 q12 hF
   ·have z13:¬((i:Int)=0):=auz
    refine kx5 h8 z10 h11 q12 z13 ?_
    revert hF;refine aN ?_ ?_<;>intro h14 q15 hF
    ·refine kx7 h8 z10 h11 q12 z13 h14 q15 ?_
     refine yL [144] [(0,0),(0,0),(0,0),(0,0),(0,0),(0,0),(0,0),(0,0),(0,0),(0,0),(0,0),(0,1),(1,1)] [1,1,1,1,1,1,1,1,1,1,1,1,1] follows ?_
     apply oB hF;intro x e16 hF
     have le16:=ZA e16
     apply oB hF;intro x17 e18 hF
     have le18:=ZA e18
     refine ZEP e16 e18 ?_
     apply oB hF;intro v19 e20 hF
     refine((ih_f69 out7 x x17 v19 e20)).ego (pl [0]) (by simp) (by simp) (Zu _ rfl (by decide)) (by intro i hi hi';simp at hi hi';first|omega|(subst hi';simp[pl])) (by simp[h8,z10,h11,q12,z13,h14,q15,↓e16,↓e18]) (by simp[h8,z10,h11,q12,z13,h14,q15,↓e16,↓e18]) ?_
     have w21:i64.wrap ((i:Int)+1)=(i:Int)+1:=ZD (by omega) (by omega)
     refine kx1 w21 ?_
     refine zG ((ih_f70 p v v19 (i+1) o hF) _ rfl _ hq)
    ·cases hF
     refine kx7 h8 z10 h11 q12 z13 h14 q15 ?_
     refine zH hq
   ·have z13:((i:Int)=0):=auz
    repeat first|refine cg ?_|simp -dsimp[h8,z10,eq_true h11,eq_true q12,eq_true z13]
    refine yL [144] [(0,0),(0,0),(0,0),(0,0),(0,0),(0,0),(0,0),(0,0),(0,0),(0,0),(0,0),(0,1),(1,1)] [1,1,1,1,1,1,1,1,1,1,1,1,1] follows ?_
    apply oB hF;intro x22 e23 hF
    have le23:=ZA e23
    apply oB hF;intro x24 e25 hF
    have le25:=ZA e25
    refine ZEP e23 e25 ?_
    apply oB hF;intro v26 e27 hF
    refine((ih_f69 out7 x22 x24 v26 e27)).ego (pl [0]) (by simp) (by simp) (Zu _ rfl (by decide)) (by intro i hi hi';simp at hi hi';first|omega|(subst hi';simp[pl])) (by simp[h8,z10,eq_true h11,eq_true q12,eq_true z13,↓e23,↓e25]) (by simp[h8,z10,eq_true h11,eq_true q12,eq_true z13,↓e23,↓e25]) ?_
    have w28:i64.wrap ((i:Int)+1)=(i:Int)+1:=ZD (by omega) (by omega)
    refine kx1 w28 ?_
    refine zG ((ih_f70 p v v26 (i+1) o hF) _ rfl _ hq)
  ·have z10:¬((i:Int)<(v.length:Int)):=auz
   cases hF
   refine kx3 h8 q9 z10 ?_
   refine zH hq
 ·intro _f_f69 _f_f72 ih_f69 ih_f72 p v59 out61 i62 o hF
  refine ZI rfl fun Q hq hk hs=> ?_
  have b1:=hk 1
  simp -dsimp at b1
  have b9:=hk 9
  simp -dsimp at b9
  have d0:=hs 0 _ rfl
  simp -dsimp[yK]at d0
  have d2:=hs 2 _ rfl
  simp -dsimp[yK]at d2
  clear hk hs
  refine eN ?_
  revert hF;refine kS ?_ ?_<;>intro h63 q64 hF
  ·have z65:((i62:Int)<(v59.length:Int)):=auz
   refine kx2 h63 z65 ?_
   revert hF;refine aN ?_ ?_<;>intro h66 q67 hF
   ·have z68:¬((i62:Int)=0):=auz
    refine kx5 h63 z65 h66 q67 z68 ?_
    revert hF;refine aN ?_ ?_<;>intro h69 q70 hF
    ·refine kx7 h63 z65 h66 q67 z68 h69 q70 ?_
     refine yL [144] [(0,0),(0,0),(0,0),(0,0),(0,0),(0,0),(0,0),(0,0),(0,0),(0,0),(0,0),(0,1),(1,1)] [1,1,1,1,1,1,1,1,1,1,1,1,1] follows ?_
     apply oB hF;intro x71 e72 hF
     have le72:=ZA e72
     apply oB hF;intro x73 e74 hF
     have le74:=ZA e74
     refine ZEP e72 e74 ?_
     apply oB hF;intro v75 e76 hF
     refine((ih_f69 out61 x71 x73 v75 e76)).ego (pl [0]) (by simp) (by simp) (Zu _ rfl (by decide)) (by intro i hi hi';simp at hi hi';first|omega|(subst hi';simp[pl])) (by simp[h63,z65,h66,q67,z68,h69,q70,↓e72,↓e74]) (by simp[h63,z65,h66,q67,z68,h69,q70,↓e72,↓e74]) ?_
     have w77:i64.wrap ((i62:Int)+1)=(i62:Int)+1:=ZD (by omega) (by omega)
     refine kx1 w77 ?_
     refine zG ((ih_f72 p v59 v75 (i62+1) o hF) _ rfl _ hq)
    ·cases hF
     refine kx7 h63 z65 h66 q67 z68 h69 q70 ?_
     refine zH hq
   ·have z68:((i62:Int)=0):=auz
    repeat first|refine cg ?_|simp -dsimp[h63,z65,eq_true h66,eq_true q67,eq_true z68]
    refine yL [144] [(0,0),(0,0),(0,0),(0,0),(0,0),(0,0),(0,0),(0,0),(0,0),(0,0),(0,0),(0,1),(1,1)] [1,1,1,1,1,1,1,1,1,1,1,1,1] follows ?_
    apply oB hF;intro x78 e79 hF
    have le79:=ZA e79
    apply oB hF;intro x80 e81 hF
    have le81:=ZA e81
    refine ZEP e79 e81 ?_
    apply oB hF;intro v82 e83 hF
    refine((ih_f69 out61 x78 x80 v82 e83)).ego (pl [0]) (by simp) (by simp) (Zu _ rfl (by decide)) (by intro i hi hi';simp at hi hi';first|omega|(subst hi';simp[pl])) (by simp[h63,z65,eq_true h66,eq_true q67,eq_true z68,↓e79,↓e81]) (by simp[h63,z65,eq_true h66,eq_true q67,eq_true z68,↓e79,↓e81]) ?_
    have w84:i64.wrap ((i62:Int)+1)=(i62:Int)+1:=ZD (by omega) (by omega)
    refine kx1 w84 ?_
    refine zG ((ih_f72 p v59 v82 (i62+1) o hF) _ rfl _ hq)
  ·have z65:¬((i62:Int)<(v59.length:Int)):=auz
   cases hF
   refine kx3 h63 q64 z65 ?_
   refine zH hq
theorem CC.f73 (list:List VarType)(n:Int):(∀(i:Nat) (o:Lo Int Unit),F.f73 list n i=some o->∀(c:Code),ZQ [1,0,1,0,0] (ZG Tryz.f179)=some c->∀(Q:Exit->ASt->Prop),o.post (fun r=>∀st,ZAB zQ Tryz.f179 (fun r' _=>r'.le (li r)) .ret st->Q .ret st) (fun s=>Q (.exit 0) ⟨[],[]⟩)->ALoopU zQ B 0 20 (hold c .mk) ⟨[(0,am yQ list),(1,li n),(5,li (i:Int))],[]⟩ (hold Q .mk)):=by
 refine F.f73.partial_correctness list n
  _
  ?_
 ·intro _f_f73 ih_f73 i o hF
  refine ZI rfl fun Q hq hk hs=> ?_
  have b0:=hk 0
  simp -dsimp at b0
  clear hk hs
  refine eN ?_
  revert hF;refine kS ?_ ?_<;>intro h1 q2 hF
  ·have z3:((i:Int)<(list.length:Int)):=auz
   apply oB hF;intro x e4 hF
   have le4:=ZA e4
   refine ZP h1 z3 e4 ?_
   revert hF;refine aS ?_ ?_<;>intro h5 q6 hF
   ·cases hF
    refine kx1 h5 ?_
    refine lG _ (gR _) (hq _ ?_)
    exact kc0
   ·have w7:i64.wrap ((i:Int)+1)=(i:Int)+1:=ZD (by omega) (by omega)
    refine kx2 q6 w7 ?_
    refine zG ((ih_f73 (i+1) o hF) _ rfl _ hq)
  ·have z3:¬((i:Int)<(list.length:Int)):=auz
   cases hF
   refine kx3 h1 q2 z3 ?_
   refine zH hq
theorem C.f74 (list:List VarType)(n:Int)(r:Int)(hF:F.f74 list n=some r):PureCall zQ B 179 [am yQ list,li n] (li r):=by
 unfold F.f74 at hF
 refine zI func179 rfl ntmps179 ?_
 refine kB hF fun o' ho8 hF=> ?_
 refine zK (((CC.f73 B hB1 hB2 list n) 0 o' ho8) _ rfl _ ?_)
 rcases o' with r0|sx
 ·dsimp only at hF
  cases hF
  intro st h
  simpa using h
 ·dsimp only at hF
  cases hF
  exact kc0
theorem CC.f75 (a:List VarType)(b:List VarType):(∀(i:Nat) (o:Lo Bool Unit),F.f75 a b i=some o->∀(c:Code),ZQ [1,0,1,0,0] (ZG Tryz.f198)=some c->∀(Q:Exit->ASt->Prop),o.post (fun r=>∀st,ZAB zQ Tryz.f198 (fun r' _=>r'.le (.lit (.bool r))) .ret st->Q .ret st) (fun s=>Q (.exit 0) ⟨[(0,am yQ a),(1,am yQ b)],[]⟩)->ALoopU zQ B 0 40 (hold c .mk) ⟨[(0,am yQ a),(1,am yQ b),(5,li (i:Int))],[]⟩ (hold Q .mk)):=by
 refine F.f75.partial_correctness a b
  _
  ?_
 ·intro _f_f75 ih_f75 i o hF
  refine ZI rfl fun Q hq hk hs=> ?_
  have b0:=hk 0
  simp -dsimp at b0
  have b1:=hk 1
  simp -dsimp at b1
  clear hk hs
  refine eN ?_
  revert hF;refine kS ?_ ?_<;>intro h1 q2 hF
  ·have z3:((i:Int)<(a.length:Int)):=auz
   apply oB hF;intro x e4 hF
   have le4:=ZA e4
   refine ZP h1 z3 e4 ?_
   apply oB hF;intro v e5 hF
   refine((C.f74 B hB1 hB2 b x.var v e5)).goI ?_
   refine kdd e4 ?_
   refine yM follows ?_
   refine kdd e4 ?_
   revert hF;refine aN ?_ ?_<;>intro h6 q7 hF
   ·apply oB hF;intro x8 e9a hF
    have e9a:=ZV e9a;obtain⟨ne9,e9⟩:=e9a
    have le9:=ZA e9
    repeat first|refine cg ?_|simp -dsimp[↓e4,h6,q7,↓e9]
    revert hF;refine aN (fun h10 q11 hF=> ?_) (fun h10 q11 hF=> ?_)
    ·cases hF
     repeat first|refine cg ?_|simp -dsimp[↓e4,↓e9,h10,q11]
     refine lG _ (gR _) (hq _ ?_)
     repeat first|refine cg ?_|simp -dsimp[↓e4,↓e9]
    ·have w12:i64.wrap ((i:Int)+1)=(i:Int)+1:=ZD (by omega) (by omega)
     repeat first|refine cg ?_|simp -dsimp[↓e4,↓e9,w12]
     refine zG ((ih_f75 (i+1) o hF) _ rfl _ hq)
   ·cases hF
    refine ZHc e4 h6 q7 ?_
    refine lG _ (gR _) (hq _ ?_)
    repeat first|refine cg ?_|simp -dsimp[↓e4]
  ·have z3:¬((i:Int)<(a.length:Int)):=auz
   cases hF
   refine kx3 h1 q2 z3 ?_
   refine zH hq
theorem C.f76 (a:List VarType)(b:List VarType)(r:Bool)(hF:F.f76 a b=some r):PureCall zQ B 198 [am yQ a,am yQ b] (.lit (.bool r)):=by
 unfold F.f76 at hF
 refine zI func198 rfl ntmps198 ?_
 refine kB hF fun o' ho13 hF=> ?_
 refine zK (((CC.f75 B hB1 hB2 a b) 0 o' ho13) _ rfl _ ?_)
 rcases o' with r0|sx
 ·dsimp only at hF
  cases hF
  intro st h
  simpa using h
 ·dsimp only at hF
  cases hF
  repeat first|refine cg ?_|simp -dsimp
  all_goals(try first|omega|rfl)
theorem CC.f77 (v26:List VarType):(∀(i28:Nat) (o:Lo Bool Unit),F.f77 v26 i28=some o->∀(c:Code),ZQ [1,1,1,1,1,0,1,0,0] (ZG Tryz.f178)=some c->∀(Q:Exit->ASt->Prop),o.post (fun r=>∀st,ZAB zQ Tryz.f178 (fun r' _=>r'.le (.lit (.bool r))) .ret st->Q .ret st) (fun s=>Q (.exit 2) ⟨[],[]⟩)->ALoopU zQ B 0 70 (hold c .mk) ⟨[(9,.own 2 (zA (α:=VarType) v26)),(10,li (i28:Int))],[.dead,.dead,.elems 3 (zB yQ v26)]⟩ (hold Q .mk)):=by
 refine F.f77.partial_correctness v26
  _
  ?_
 ·intro _f_f77 ih_f77 i28 o hF
  refine ZI rfl fun Q hq hk hs=> ?_
  have d2:=hs 2 _ rfl
  simp -dsimp[yK]at d2
  clear hk hs
  refine eN ?_
  revert hF;refine kS ?_ ?_<;>intro h29 q30 hF
  ·have z31:((i28:Int)<(v26.length:Int)):=auz
   apply oB hF;intro x32 e33 hF
   have le33:=ZA e33
   refine ZP h29 z31 e33 ?_
   apply oB hF;intro v34 e35 hF
   refine((C.f74 B hB1 hB2 v26 x32.var v34 e35)).lend (by simp_all) (by simp -dsimp) ?_
   revert hF;refine kN ?_ ?_<;>intro h36 q37 hF
   ·cases hF
    refine kx2 h36 q37 ?_
    refine lG _ (gR _) (hq _ ?_)
    exact kc0
   ·have w38:i64.wrap ((i28:Int)+1)=(i28:Int)+1:=ZD (by omega) (by omega)
    refine kx1 w38 ?_
    refine zG ((ih_f77 (i28+1) o hF) _ rfl _ hq)
  ·have z31:¬((i28:Int)<(v26.length:Int)):=auz
   cases hF
   refine kx3 h29 q30 z31 ?_
   refine zH hq
theorem CC.f78 (w:List zP):(∀(t:Ty) (p:Pattern) (r:Bool),F.f78 w t p=some r->PureCall zQ B 178 [am zR w,.agg [li t.data,li t.index],.agg [li p.op,li p.ctor,li p.n,li p.m,li p.var,am zT p.kids]] (.lit (.bool r)))/\
  (∀(t:Ty) (p:Pattern) (v:List Ty) (i:Nat) (o:Lo Bool Unit),F.f79 w t p v i=some o->∀(c:Code),ZQ [1,1,0,1,0,0] (ZG Tryz.f178)=some c->∀(Q:Exit->ASt->Prop),o.post (fun r=>∀st,ZAB zQ Tryz.f178 (fun r' _=>r'.le (.lit (.bool r))) .ret st->Q .ret st) (fun s=>Q (.exit 0) ⟨[(0,am zR w),(4,.ptr 0 0),(5,.ptr 1 0)],[.cells [li t.data,li t.index],.cells [li p.op,li p.ctor,li p.n,li p.m,li p.var,am zT p.kids]]⟩)->ALoopU zQ B 0 70 (hold c .mk) ⟨[(0,am zR w),(4,.ptr 0 0),(5,.ptr 1 0),(7,am zM v),(8,li (i:Int))],[.cells [li t.data,li t.index],.cells [li p.op,li p.ctor,li p.n,li p.m,li p.var,am zT p.kids]]⟩ (hold Q .mk)):=by
 refine F.f78.mutual_partial_correctness w
  _ _
  ?_ ?_
 ·intro _f_f79 ih_f79 t p r hF
  refine zI func178 rfl ntmps178 ?_
  refine kB hF fun v e1 hF=> ?_
  refine((C.f64 B hB1 hB2 w t p v e1)).goI ?_
  refine kB hF fun o' ho13 hF=> ?_
  refine zK ((ih_f79 t p v 0 o' ho13) _ rfl _ ?_)
  rcases o' with r042|sx
  ·dsimp only at hF
   cases hF
   intro st h
   simpa using h
  ·dsimp only at hF
   revert hF;refine kS ?_ ?_<;>intro h14 q15 hF
   ·refine kx1 h14 ?_
    refine yL [144,198] [(0,0),(0,0),(0,0),(0,0),(0,0),(0,0),(0,3),(0,1),(0,1),(0,1),(0,1),(0,1),(0,1),(0,3),(0,3),(3,3)] [1,1,1,1,1,1,1,1,2,0,2,0,0,1,1,1] follows ?_
    apply oB hF;intro x16 e17 hF
    have le17:=ZA e17
    refine kdd e17 ?_
    apply oB hF;intro v18 e19 hF
    refine ECallA.nilArg 0 3 (by simp) ?_
    refine kx0 ?_
    refine(((CC.f69 B hB1 hB2 w).1 [] t x16 v18 e19)).ego (pl [2]) (by simp) (by simp) (Zu _ rfl (by decide)) (by intro i hi hi';simp at hi hi';first|omega|(subst hi';simp[pl])) (by simp_all) (by simp_all) ?_
    apply oB hF;intro x20 e21 hF
    have le21:=ZA e21
    refine kdd e21 ?_
    apply oB hF;intro v22 e23 hF
    refine ECallA.nilArg 0 3 (by simp) ?_
    refine kx0 ?_
    refine(((CC.f69 B hB1 hB2 w).1 [] t x20 v22 e23)).ego (pl [3]) (by simp) (by simp) (Zu _ rfl (by decide)) (by intro i hi hi';simp at hi hi';first|omega|(subst hi';simp[pl])) (by simp_all) (by simp_all) ?_
    refine kB hF fun v24 e25 hF=> ?_
    refine((C.f76 B hB1 hB2 v18 v22 v24 e25)).elend (by simp_all) (by simp -dsimp) ?_
    cases hF
    exact kc0
   ·refine kx1 q15 ?_
    apply oB hF;intro v26 e27 hF
    refine yS 0 3 (by simp) ?_
    refine kx0 ?_
    refine(((CC.f69 B hB1 hB2 w).1 [] t p v26 e27)).go (pl [2]) (by simp) (by simp) (Zu _ rfl (by decide)) (by intro i hi hi';simp at hi hi';first|omega|(subst hi';simp[pl])) (by simp_all) (by simp_all) ?_
    refine kB hF fun o'40 ho39 hF=> ?_
    refine zK (((CC.f77 B hB1 hB2 v26) 0 o'40 ho39) _ rfl _ ?_)
    rcases o'40 with r0|sx41
    ·dsimp only at hF
     cases hF
     intro st h
     simpa using h
    ·dsimp only at hF
     cases hF
     exact kc0
 ·intro _f_f78 _f_f79 ih_f78 ih_f79 t p v i o hF
  refine ZI rfl fun Q hq hk hs=> ?_
  have b0:=hk 0
  simp -dsimp at b0
  have b7:=hk 7
  simp -dsimp at b7
  have d1:=hs 1 _ rfl
  simp -dsimp[yK]at d1
  clear hk hs
  refine eN ?_
  revert hF;refine kS ?_ ?_<;>intro h2 q3 hF
  ·have z4:((i:Int)<(v.length:Int)):=auz
   refine kx2 h2 z4 ?_
   refine yM follows ?_
   apply oB hF;intro x e5 hF
   have le5:=ZA e5
   apply oB hF;intro x6 e7 hF
   have le7:=ZA e7
   refine ZEP e5 e7 ?_
   apply oB hF;intro v8 e9 hF
   refine((ih_f78 x x6 v8 e9)).pgoW (by simp_all) (by simp) ?_
   revert hF;refine kN (fun h10 q11 hF=> ?_) (fun h10 q11 hF=> ?_)
   ·cases hF
    refine kx2 h10 q11 ?_
    refine lG _ (gR _) (hq _ ?_)
    exact kc0
   ·have w12:i64.wrap ((i:Int)+1)=(i:Int)+1:=ZD (by omega) (by omega)
    refine kx1 w12 ?_
    refine zG ((ih_f79 t p v (i+1) o hF) _ rfl _ hq)
  ·have z4:¬((i:Int)<(v.length:Int)):=auz
   cases hF
   refine kx3 h2 q3 z4 ?_
   refine zH hq
theorem C.f80 (w:List zP)(t:Ty)(p:Pattern)(r:Bool)(hF:F.f80 w t p=some r):PureCall zQ B 142 [am zR w,.agg [li t.data,li t.index],.agg [li p.op,li p.ctor,li p.n,li p.m,li p.var,am zT p.kids]] (.lit (.bool r)):=by
 unfold F.f80 at hF
 refine zI func142 rfl ntmps142 ?_
 refine kB hF fun v e1 hF=> ?_
 refine(((CC.f65 B hB1 hB2 w).1 t p 10 v e1)).goI ?_
 revert hF;refine kS (fun h2 q3 hF=> ?_) (fun h2 q3 hF=> ?_)
 ·refine kx1 h2 ?_
  apply oB hF;intro v4 e5 hF
  refine(((CC.f67 B hB1 hB2).1 p 60 v4 e5)).goI ?_
  refine kx1 h2 ?_
  revert hF;refine aS ?_ ?_<;>intro h6 q7 hF
  ·refine kx2 h2 h6 ?_
   apply oB hF;intro v8 e9 hF
   refine(((CC.f78 B hB1 hB2 w).1 t p v8 e9)).goI ?_
   cases hF
   exact kc2 h2 h6
  ·cases hF
   exact kc3 h2 h6 q7
 ·cases hF
  exact kc2 h2 q3
theorem C.f81 (g:Guard)(vars:List VarType)(r:Bool)(hF:F.f81 g vars=some r):PureCall zQ B 143 [.agg [li g.op,li g.var,li g.n],am yQ vars] (.lit (.bool r)):=by
 unfold F.f81 at hF
 refine zI func143 rfl ntmps143 ?_
 revert hF;refine kS ?_ ?_<;>intro h1 q2 hF
 ·refine kx1 h1 ?_
  revert hF;refine aS ?_ ?_<;>intro h3 q4 hF
  ·cases hF
   exact kc2 h1 h3
  ·cases hF
   exact kc3 h1 h3 q4
 ·refine kx2 h1 q2 ?_
  revert hF;refine aN ?_ ?_<;>intro h5 q6 hF
  ·refine kx4 h1 q2 h5 q6 ?_
   revert hF;refine aS ?_ ?_<;>intro h7 q8 hF
   ·refine kx5 h1 q2 h5 q6 h7 ?_
    revert hF;refine aN ?_ ?_<;>intro h9 q10 hF
    ·refine kx7 h1 q2 h5 q6 h7 h9 q10 ?_
     revert hF;refine aS ?_ ?_<;>intro h11 q12 hF
     ·cases hF
      exact kc8 h1 q2 h5 q6 h7 h9 q10 h11
     ·refine kx9 h1 q2 h5 q6 h7 h9 q10 h11 q12 ?_
      apply oB hF;intro v e13 hF
      refine((C.f74 B hB1 hB2 vars g.var v e13)).goI ?_
      refine kx9 h1 q2 h5 q6 h7 h9 q10 h11 q12 ?_
      revert hF;refine aS ?_ ?_<;>intro h14 q15 hF
      ·apply oB hF;intro x e16a hF
       have e16a:=ZV e16a;obtain⟨ne16,e16⟩:=e16a
       have le16:=ZA e16
       cases hF
       repeat first|refine cg ?_|simp -dsimp[h1,q2,h5,q6,h7,h9,q10,h11,q12,h14,↓e16]
      ·cases hF
       repeat first|refine cg ?_|simp -dsimp[h1,q2,h5,q6,h7,h9,q10,h11,q12,h14,q15]
    ·cases hF
     exact kc7 h1 q2 h5 q6 h7 h9 q10
   ·cases hF
    exact kc6 h1 q2 h5 q6 h7 q8
  ·refine kx4 h1 q2 h5 q6 ?_
   revert hF;refine aN ?_ ?_<;>intro h17 q18 hF
   ·refine kx6 h1 q2 h5 q6 h17 q18 ?_
    revert hF;refine aS ?_ ?_<;>intro h19 q20 hF
    ·cases hF
     exact kc7 h1 q2 h5 q6 h17 q18 h19
    ·refine kx8 h1 q2 h5 q6 h17 q18 h19 q20 ?_
     apply oB hF;intro v21 e22 hF
     refine((C.f74 B hB1 hB2 vars g.var v21 e22)).goI ?_
     refine kx8 h1 q2 h5 q6 h17 q18 h19 q20 ?_
     revert hF;refine aS ?_ ?_<;>intro h23 q24 hF
     ·apply oB hF;intro x25 e26a hF
      have e26a:=ZV e26a;obtain⟨ne26,e26⟩:=e26a
      have le26:=ZA e26
      cases hF
      repeat first|refine cg ?_|simp -dsimp[h1,q2,h5,q6,h17,q18,h19,q20,h23,↓e26]
     ·cases hF
      repeat first|refine cg ?_|simp -dsimp[h1,q2,h5,q6,h17,q18,h19,q20,h23,q24]
   ·cases hF
    exact kc6 h1 q2 h5 q6 h17 q18
theorem C.f82 (w:List zP)(t:Ty)(c':Clause)(r:Bool)(hF:F.f82 w t c'=some r):PureCall zQ B 104 [am zR w,.agg [li t.data,li t.index],.agg [li c'.pat.op,li c'.pat.ctor,li c'.pat.n,li c'.pat.m,li c'.pat.var,am zT c'.pat.kids,li c'.guard.op,li c'.guard.var,li c'.guard.n]] (.lit (.bool r)):=by
 unfold F.f82 at hF
 refine zI func104 rfl ntmps104 ?_
 refine kx0 ?_
 refine yL [143,144] [(0,0),(0,0),(0,0),(0,0),(0,2),(0,0),(0,1),(0,1),(0,0),(0,0),(0,0),(0,0),(0,2),(0,2),(2,2),(2,2)] [1,1,1,1,1,1,0,2,1,1,1,1,1,1,1,1] follows ?_
 refine kB hF fun v e1 hF=> ?_
 refine((C.f80 B hB1 hB2 w t c'.pat v e1)).pgoW (by simp) (by simp) ?_
 revert hF;refine kS (fun h2 q3 hF=> ?_) (fun h2 q3 hF=> ?_)
 ·refine kx1 h2 ?_
  apply oB hF;intro v4 e5 hF
  refine ECallA.nilArg 0 3 (by simp) ?_
  refine kx0 ?_
  refine(((CC.f69 B hB1 hB2 w).1 [] t c'.pat v4 e5)).ego (pl [2]) (by simp) (by simp) (Zu _ rfl (by decide)) (by intro i hi hi';simp at hi hi';first|omega|(subst hi';simp[pl])) (by simp_all) (by simp_all) ?_
  refine kB hF fun v6 e7 hF=> ?_
  refine((C.f81 B hB1 hB2 c'.guard v4 v6 e7)).elend (by simp_all) (by simp -dsimp) ?_
  cases hF
  exact kc0
 ·skip
  cases hF
  exact kc1 q3
theorem CC.f83 (w:List zP)(t:Ty)(list:List Clause):(∀(i:Nat) (o:Lo Bool Unit),F.f83 w t list i=some o->∀(c:Code),ZQ [1,1,0,1,0,0] (ZG Tryz.f65)=some c->∀(Q:Exit->ASt->Prop),o.post (fun r=>∀st,ZAB zQ Tryz.f65 (fun r' _=>r'.le (.lit (.bool r))) .ret st->Q .ret st) (fun s=>Q (.exit 0) ⟨[],[]⟩)->ALoopU zQ B 0 31 (hold c .mk) ⟨[(0,am zR w),(2,am zV list),(4,.ptr 0 0),(7,li (i:Int))],[.cells [li t.data,li t.index]]⟩ (hold Q .mk)):=by
 refine F.f83.partial_correctness w t list
  _
  ?_
 ·intro _f_f83 ih_f83 i o hF
  refine ZI rfl fun Q hq hk hs=> ?_
  have b0:=hk 0
  simp -dsimp at b0
  have b2:=hk 2
  simp -dsimp at b2
  clear hk hs
  refine eN ?_
  revert hF;refine kS ?_ ?_<;>intro h7 q8 hF
  ·have z9:((i:Int)<(list.length:Int)):=auz
   refine kx2 h7 z9 ?_
   refine yM follows ?_
   apply oB hF;intro x e10 hF
   have le10:=ZA e10
   refine kdd e10 ?_
   apply oB hF;intro v11 e12 hF
   refine((C.f82 B hB1 hB2 w t x v11 e12)).pgoW (by simp_all) (by simp) ?_
   revert hF;refine kN (fun h13 q14 hF=> ?_) (fun h13 q14 hF=> ?_)
   ·cases hF
    refine kx2 h13 q14 ?_
    refine lG _ (gR _) (hq _ ?_)
    exact kc0
   ·have w15:i64.wrap ((i:Int)+1)=(i:Int)+1:=ZD (by omega) (by omega)
    refine kx1 w15 ?_
    refine zG ((ih_f83 (i+1) o hF) _ rfl _ hq)
  ·have z9:¬((i:Int)<(list.length:Int)):=auz
   cases hF
   refine kx3 h7 q8 z9 ?_
   refine zH hq
theorem C.f84 (w:List zP)(t:Ty)(list:List Clause)(r:Bool)(hF:F.f84 w t list=some r):PureCall zQ B 65 [am zR w,.agg [li t.data,li t.index],am zV list] (.lit (.bool r)):=by
 unfold F.f84 at hF
 refine zI func65 rfl ntmps65 ?_
 refine kB hF fun v e1 hF=> ?_
 refine((C.f52 B hB1 hB2 w t v e1)).goI ?_
 revert hF;refine kS (fun h2 q3 hF=> ?_) (fun h2 q3 hF=> ?_)
 ·refine kx1 h2 ?_
  revert hF;refine aS ?_ ?_<;>intro h4 q5 hF
  ·have z6:(8<(list.length:Int)):=auz
   cases hF
   exact kc2 h4 z6
  ·have z6:¬(8<(list.length:Int)):=auz
   refine kx3 h4 q5 z6 ?_
   apply oB hF;intro o' ho16 hF
   refine zK (((CC.f83 B hB1 hB2 w t list) 0 o' ho16) _ rfl _ ?_)
   rcases o' with r0|sx
   ·dsimp only at hF
    cases hF
    intro st h
    simpa using h
   ·dsimp only at hF
    cases hF
    exact kc0
 ·cases hF
  exact kc1 q3
theorem CC.f85 (lists:List (List Pattern))(out:List (List Pattern))(i:Nat)(k:Nat):(∀(next10:List (List Pattern)) (j:Nat) (o:List (List Pattern)),F.f85 lists out i k next10 j=some o->∀(c:Code),ZQ [1,1,0,1,0,0,1,0,0,1,0,1,0,0,1,0,0,1,0,0] (ZG Tryz.f105)=some c->∀(Q:Exit->ASt->Prop),(Q (.exit 4) ⟨[(0,am (cL zT) lists),(3,am (cL zT) out),(4,li (i:Int)),(5,.own 2 (zA (α:=List Pattern) o)),(6,li (k:Int))],[.dead,.dead,.elems 1 (zB (cL zT) o)]⟩)->ALoopU zQ B 0 62 (hold c .mk) ⟨[(0,am (cL zT) lists),(3,am (cL zT) out),(4,li (i:Int)),(5,.own 2 (zA (α:=List Pattern) next10)),(6,li (k:Int)),(7,li (j:Int))],[.dead,.dead,.elems 1 (zB (cL zT) next10)]⟩ (hold Q .mk)):=by
 refine F.f85.partial_correctness lists out i k
  _
  ?_
 ·intro _f_f85 ih_f85 next10 j o hF
  refine ZI rfl fun Q hq hk hs=> ?_
  have b0:=hk 0
  simp -dsimp at b0
  have b3:=hk 3
  simp -dsimp at b3
  have d2:=hs 2 _ rfl
  simp -dsimp[yK]at d2
  clear hk hs
  refine eN ?_
  apply oB hF;intro x e11 hF
  have le11:=ZA e11
  refine kdd e11 ?_
  revert hF;refine aS ?_ ?_<;>intro h12 q13 hF
  ·have z14:((j:Int)<(x.length:Int)):=auz
   refine ZHc e11 h12 z14 ?_
   revert hF;refine aS ?_ ?_<;>intro h15 q16 hF
   ·have z17:((next10.length:Int)<=400):=auz
    refine ZHc e11 h15 z17 ?_
    refine ADraw.opn ?_
    refine yP [] [(1,14)] [(14,1)] 1 14 rfl rfl (by kernel_rfl) ?_ ?_
    ·refine yP [(1,14)] [(1,14),(6,14)] [(1,14),(14,6)] 6 14 rfl rfl (by kernel_rfl) ?_ ?_
     ·refine yO [(1,14),(6,14)] [0,1,2,3,4,5,6,7,8,9,10,11,12,13,14,15,16,17,18] [] [(0,5),(0,6),(0,1),(0,1),(0,1),(0,1),(0,6),(0,2),(0,2),(0,2),(0,2),(0,2),(0,2),(0,2),(0,6),(0,6),(0,6),(0,6),(6,6)] [1,1,1,1,0,0,1,1,1,0,0,1,0,0,1,1,1,1,1] follows (by kernel_rfl) (by kernel_rfl) (by kernel_rfl) (by kernel_rfl) ?_
      apply oB hF;intro x18 e19 hF
      have le19:=ZA e19
      apply oC hF;intro c20 hF
      apply oB hF;intro x21 e22 hF
      have le22:=ZA e22
      apply oC hF;intro c23 hF
      apply oC hF;intro c24 hF
      apply oC hF;intro c25 hF
      have w26:i64.wrap ((j:Int)+1)=(j:Int)+1:=ZD (by omega) (by omega)
      repeat first|refine cg ?_|simp -dsimp[↓e11,↓e19,↓e22,w26]
      refine zG ((ih_f85 (next10++[x18++[x21]]) (j+1) o hF) _ rfl _ hq)
     ·apply oB hF;intro x18 e19 hF
      apply oC hF;intro c20 hF
      apply oB hF;intro x21 e22 hF
      apply oC hF;intro c23 hF
      apply oC hF;intro c24 hF
      refine yO [(1,14),(14,6)] [0,1,2,3,4,5,7,8,9,10,11,12,13,14,6,15,16,17,18] [] [(0,5),(0,6),(0,2),(0,2),(0,2),(0,2),(0,1),(0,1),(0,1),(0,1),(0,1),(0,1),(0,1),(0,6),(0,6),(0,6),(0,6),(0,6),(6,6)] [1,1,1,1,0,0,1,1,0,0,1,0,0,1,1,1,1,1,1] follows (by kernel_rfl) (by kernel_rfl) (by kernel_rfl) (by kernel_rfl) ?_
      have le19:=ZA e19
      have le22:=ZA e22
      apply oC hF;intro c25 hF
      have w26:i64.wrap ((j:Int)+1)=(j:Int)+1:=ZD (by omega) (by omega)
      repeat first|refine cg ?_|simp -dsimp[↓e11,↓e19,↓e22,w26]
      refine zG ((ih_f85 (next10++[x18++[x21]]) (j+1) o hF) _ rfl _ hq)
    ·apply oB hF;intro x18 e19 hF
     apply oC hF;intro c20 hF
     apply oB hF;intro x21 e22 hF
     apply oC hF;intro c23 hF
     apply oC hF;intro c24 hF
     refine yO [(14,1)] [0,2,3,4,5,7,8,9,10,11,12,13,14,1,6,15,16,17,18] [] [(0,5),(0,2),(0,2),(0,2),(0,2),(0,0),(0,0),(0,0),(0,0),(0,0),(0,0),(0,0),(0,6),(0,6),(0,6),(0,6),(0,6),(0,6),(6,6)] [1,1,1,0,0,1,1,1,1,1,1,1,1,1,1,1,1,1,1] follows (by kernel_rfl) (by kernel_rfl) (by kernel_rfl) (by kernel_rfl) ?_
     have le19:=ZA e19
     have le22:=ZA e22
     apply oC hF;intro c25 hF
     have w26:i64.wrap ((j:Int)+1)=(j:Int)+1:=ZD (by omega) (by omega)
     repeat first|refine cg ?_|simp -dsimp[↓e11,↓e19,↓e22,w26]
     refine zG ((ih_f85 (next10++[x18++[x21]]) (j+1) o hF) _ rfl _ hq)
   ·have z17:¬((next10.length:Int)<=400):=auz
    cases hF
    repeat first|refine cg ?_|simp -dsimp[↓e11,h15,q16,z17]
    refine zH hq
  ·have z14:¬((j:Int)<(x.length:Int)):=auz
   cases hF
   repeat first|refine cg ?_|simp -dsimp[↓e11,h12,q13,z14]
   refine zH hq
theorem CC.f86 (lists:List (List Pattern))(out:List (List Pattern))(i:Nat):(∀(next:List (List Pattern)) (k:Nat) (o:List (List Pattern)),F.f86 lists out i next k=some o->∀(c:Code),ZQ [1,1,0,1,0,0,1,0,0,1,0,1,0,0] (ZG Tryz.f105)=some c->∀(Q:Exit->ASt->Prop),(Q (.exit 2) ⟨[(0,am (cL zT) lists),(4,li (i:Int)),(5,.own 2 (zA (α:=List Pattern) o))],[.dead,.dead,.elems 1 (zB (cL zT) o)]⟩)->ALoopU zQ B 0 62 (hold c .mk) ⟨[(0,am (cL zT) lists),(3,am (cL zT) out),(4,li (i:Int)),(5,.own 2 (zA (α:=List Pattern) next)),(6,li (k:Int))],[.dead,.dead,.elems 1 (zB (cL zT) next)]⟩ (hold Q .mk)):=by
 refine F.f86.partial_correctness lists out i
  _
  ?_
 ·intro _f_f86 ih_f86 next k o hF
  refine ZI rfl fun Q hq hk hs=> ?_
  have b0:=hk 0
  simp -dsimp at b0
  have b3:=hk 3
  simp -dsimp at b3
  have d2:=hs 2 _ rfl
  simp -dsimp[yK]at d2
  clear hk hs
  refine eN ?_
  revert hF;refine kS ?_ ?_<;>intro h4 q5 hF
  ·have z6:((k:Int)<(out.length:Int)):=auz
   refine kx2 h4 z6 ?_
   revert hF;refine aS ?_ ?_<;>intro h7 q8 hF
   ·have z9:((next.length:Int)<=400):=auz
    refine kx2 h7 z9 ?_
    apply oB hF;intro o' ho27 hF
    refine zK (((CC.f85 B hB1 hB2 lists out i k) next 0 o' ho27) _ rfl _ ?_)
    apply oC hF;intro c28 hF
    have w29:i64.wrap ((k:Int)+1)=(k:Int)+1:=ZD (by omega) (by omega)
    refine kx1 w29 ?_
    refine zG ((ih_f86 o' (k+1) o hF) _ rfl _ hq)
   ·have z9:¬((next.length:Int)<=400):=auz
    cases hF
    refine kx3 h7 q8 z9 ?_
    refine zH hq
  ·have z6:¬((k:Int)<(out.length:Int)):=auz
   cases hF
   refine kx3 h4 q5 z6 ?_
   refine zH hq
theorem CC.f87 (lists:List (List Pattern)):(∀(out:List (List Pattern)) (i:Nat) (o:List (List Pattern)),F.f87 lists out i=some o->∀(c:Code),ZQ [1,1,0,1,0,0] (ZG Tryz.f105)=some c->∀(Q:Exit->ASt->Prop),(Q (.exit 0) ⟨[(3,am (cL zT) o)],[]⟩)->ALoopU zQ B 0 62 (hold c .mk) ⟨[(0,am (cL zT) lists),(3,am (cL zT) out),(4,li (i:Int))],[.dead,.dead]⟩ (hold Q .mk)):=by
 refine F.f87.partial_correctness lists
  _
  ?_
 ·intro _f_f87 ih_f87 out i o hF
  refine ZI rfl fun Q hq hk hs=> ?_
  have b0:=hk 0
  simp -dsimp at b0
  have b3:=hk 3
  simp -dsimp at b3
  clear hk hs
  refine eN ?_
  revert hF;refine kS ?_ ?_<;>intro h1 q2 hF
  ·have z3:((i:Int)<(lists.length:Int)):=auz
   refine kx2 h1 z3 ?_
   apply oB hF;intro o'31 ho30 hF
   refine zK (((CC.f86 B hB1 hB2 lists out i) [] 0 o'31 ho30) _ rfl _ ?_)
   apply oC hF;intro c32 hF
   have w33:i64.wrap ((i:Int)+1)=(i:Int)+1:=ZD (by omega) (by omega)
   refine kx1 w33 ?_
   refine aG ⟨[(0,.arr (zB (cL zT) lists)),(3,.arr (zB (cL zT) o'31)),(4,.lit (.int .i64 ((i+1):Int)))],[.dead,.dead]⟩ (by refine yT (yX 3 (l:=2) (n:=zA (α:=List Pattern) o'31) (sz:=1) (es:=zB (cL zT) o'31) (by simp) (by simp) (by simp) (by simp)) ?_;exact(gT (by simp) (by simp_all))) ?_
   exact(ih_f87 o'31 (i+1) o hF) _ rfl _ hq
  ·have z3:¬((i:Int)<(lists.length:Int)):=auz
   cases hF
   refine kx3 h1 q2 z3 ?_
   refine zH hq
theorem C.f88 (lists:List (List Pattern))(r:List (List Pattern))(hF:F.f88 lists=some r):PureCall zQ B 105 [am (cL zT) lists] (am (cL zT) r):=by
 unfold F.f88 at hF
 refine zI func105 rfl ntmps105 ?_
 refine kB hF fun o'35 ho34 hF=> ?_
 refine zL ⟨[(0,.arr (zB (cL zT) lists)),(3,.arr (zB (cL zT) [[]])),(4,.lit (.int .i64 0))],[.dead,.dead]⟩ (by refine yT (yX 3 (l:=1) (n:=zA (α:=List Pattern) [[]]) (sz:=1) (es:=zB (cL zT) [[]]) (by simp) (by simp) (by simp) (by simp)) ?_;exact(gT (by simp) (by simp -dsimp))) ?_
 refine((CC.f87 B hB1 hB2 lists) [[]] 0 o'35 ho34) _ rfl _ ?_
 cases hF
 exact kc0
theorem CC.spec_l3Split__o0_l2 (p:Pattern)(v24:List (List Pattern)):(∀(out:List Pattern) (i26:Nat) (o:List Pattern),F.f89 p v24 out i26=some o->∀(c:Code),ZQ [1,1,1,1,1,1,0,1,0,0] (ZG Tryz.f66)=some c->∀(Q:Exit->ASt->Prop),(Q (.exit 2) ⟨[(7,.own 2 (zA (α:=Pattern) o))],[.dead,.dead,.elems 6 (zB zT o)]⟩)->ALoopU zQ B 0 67 (hold c .mk) ⟨[(1,.ptr 0 0),(6,am (cL zT) v24),(7,.own 2 (zA (α:=Pattern) out)),(8,li (i26:Int))],[.cells [li p.op,li p.ctor,li p.n,li p.m,li p.var,am zT p.kids],.dead,.elems 6 (zB zT out)]⟩ (hold Q .mk)):=by
 refine F.f89.partial_correctness p v24
  _
  ?_
 ·intro _f_spec_l3Split__o0_l2 ih_spec_l3Split__o0_l2 out i26 o hF
  refine ZI rfl fun Q hq hk hs=> ?_
  have b6:=hk 6
  simp -dsimp at b6
  have d0:=hs 0 _ rfl
  simp -dsimp[yK]at d0
  have d2:=hs 2 _ rfl
  simp -dsimp[yK]at d2
  clear hk hs
  refine eN ?_
  revert hF;refine kS ?_ ?_<;>intro h27 q28 hF
  ·have z29:((i26:Int)<(v24.length:Int)):=auz
   apply oB hF;intro x30 e31 hF
   have le31:=ZA e31
   apply oC hF;intro c32 hF
   have w33:i64.wrap ((i26:Int)+1)=(i26:Int)+1:=ZD (by omega) (by omega)
   repeat first|refine cg ?_|simp -dsimp[h27,z29,↓e31,w33]
   refine zG ((ih_spec_l3Split__o0_l2 (out++[(⟨p.op,p.ctor,p.n,p.m,p.var,x30⟩:Pattern)]) (i26+1) o hF) _ rfl _ hq)
  ·have z29:¬((i26:Int)<(v24.length:Int)):=auz
   cases hF
   refine kx3 h27 q28 z29 ?_
   refine zH hq
theorem CC.spec_l3Split__o0  :(∀(p:Pattern) (r:List Pattern),F.f90 p=some r->BCall zQ B 66 [] [.agg [li p.op,li p.ctor,li p.n,li p.m,li p.var,am zT p.kids]] (.own 0 (zA (α:=Pattern) r)) [.elems 6 (zB zT r)])/\
  (∀(p:Pattern) (lists:List (List Pattern)) (i:Nat) (o:List (List Pattern)),F.f91 p lists i=some o->∀(c:Code),ZQ [1,1,1,0,1,0,0] (ZG Tryz.f66)=some c->∀(Q:Exit->ASt->Prop),(Q (.exit 0) ⟨[(1,.ptr 0 0),(4,.own 1 (zA (α:=List Pattern) o))],[.cells [li p.op,li p.ctor,li p.n,li p.m,li p.var,am zT p.kids],.elems 1 (zB (cL zT) o)]⟩)->ALoopU zQ B 0 67 (hold c .mk) ⟨[(1,.ptr 0 0),(4,.own 1 (zA (α:=List Pattern) lists)),(5,li (i:Int))],[.cells [li p.op,li p.ctor,li p.n,li p.m,li p.var,am zT p.kids],.elems 1 (zB (cL zT) lists)]⟩ (hold Q .mk)):=by
 refine F.f90.mutual_partial_correctness 
  _ _
  ?_ ?_
 ·intro _f_spec_l3Split__o0 _f_spec_l3Split__o0_l1 ih_spec_l3Split__o0 ih_spec_l3Split__o0_l1 p r hF
  refine BCall.enterS (τ1:=[]) (ys:=[.own 0 (zA (α:=Pattern) r)]) (news:=[(6,zB zT r)]) func66 (by kernel_rfl) rfl ntmps66 (by simp) rfl rfl (by simp) (by simp) (by simp) (by simp) (by simp) (by simp) (gR _) ?_
  revert hF;refine kS ?_ ?_<;>intro h1 q2 hF
  ·refine kx1 h1 ?_
   refine yL [66] [(0,0),(0,0),(0,0),(0,0),(0,3),(0,1),(0,1),(0,1),(0,1),(0,3),(0,3),(3,3)] [1,1,1,1,1,0,2,0,0,1,1,1] follows ?_
   apply oB hF;intro x e3 hF
   have le3:=ZA e3
   refine kdd e3 ?_
   apply oB hF;intro v e4 hF
   refine((ih_spec_l3Split__o0 x v e4)).ego (pl [1]) (by simp) (by simp) (by intro i j hi;simp at hi) (by intro i hi hi';simp at hi hi';have hi:i=0:=(by omega);rcases hi with rfl<;>simp[pl]) (by simp_all) (by simp_all) ?_
   apply oB hF;intro x5 e6 hF
   have le6:=ZA e6
   refine kdd e6 ?_
   apply oB hF;intro v7 e8 hF
   refine((ih_spec_l3Split__o0 x5 v7 e8)).ego (pl [2]) (by simp) (by simp) (by intro i j hi;simp at hi) (by intro i hi hi';simp at hi hi';have hi:i=0:=(by omega);rcases hi with rfl<;>simp[pl]) (by simp_all) (by simp_all) ?_
   apply oC hF;intro c9 hF
   revert hF;refine kS ?_ ?_<;>intro h10 q11 hF
   ·have z12:(401<(((v++v7).length:Nat):Int)):=auz
    apply oC hF;intro c13 hF
    cases hF
    repeat first|refine cg ?_|simp -dsimp[h10,z12]
    all_goals(try first|omega|rfl|(simp;done)|(simp only[zD,zE]at*;omega)|simp)
   ·have z12:¬(401<(((v++v7).length:Nat):Int)):=auz
    cases hF
    repeat first|refine cg ?_|simp -dsimp[h10,q11,z12]
    all_goals(try first|omega|rfl|(simp;done)|(simp only[zD,zE]at*;omega)|simp)
  ·refine kx1 q2 ?_
   apply oB hF;intro o' ho23 hF
   refine zK ((ih_spec_l3Split__o0_l1 p [] 0 o' ho23) _ rfl _ ?_)
   refine kB hF fun v24 e25 hF=> ?_
   refine yR ?_ ((C.f88 B hB1 hB2 o' v24 e25)).ent
   refine kx0 ?_
   refine((C.f88 B hB1 hB2 o' v24 e25)).goI ?_
   refine kB hF fun o'35 ho34 hF=> ?_
   refine zK (((CC.spec_l3Split__o0_l2 B hB1 hB2 p v24) [] 0 o'35 ho34) _ rfl _ ?_)
   cases hF
   repeat first|refine cg ?_|simp -dsimp
   all_goals(try first|omega|rfl|(simp;done)|(simp only[zD,zE]at*;omega)|simp)
 ·intro _f_spec_l3Split__o0 _f_spec_l3Split__o0_l1 ih_spec_l3Split__o0 ih_spec_l3Split__o0_l1 p lists i o hF
  refine ZI rfl fun Q hq hk hs=> ?_
  have d0:=hs 0 _ rfl
  simp -dsimp[yK]at d0
  have d1:=hs 1 _ rfl
  simp -dsimp[yK]at d1
  clear hk hs
  refine eN ?_
  revert hF;refine kS ?_ ?_<;>intro h14 q15 hF
  ·have z16:((i:Int)<(p.kids.length:Int)):=auz
   apply oB hF;intro x17 e18 hF
   have le18:=ZA e18
   refine ZP h14 z16 e18 ?_
   apply oB hF;intro v19 e20 hF
   refine((ih_spec_l3Split__o0 x17 v19 e20)).go (pl [2]) (by simp) (by simp) (by intro i j hi;simp at hi) (by intro i hi hi';simp at hi hi';have hi:i=0:=(by omega);rcases hi with rfl<;>simp[pl]) (by simp_all) (by simp_all) ?_
   apply oC hF;intro c21 hF
   have w22:i64.wrap ((i:Int)+1)=(i:Int)+1:=ZD (by omega) (by omega)
   refine kx1 w22 ?_
   refine zG ((ih_spec_l3Split__o0_l1 p (lists++[v19]) (i+1) o hF) _ rfl _ hq)
  ·have z16:¬((i:Int)<(p.kids.length:Int)):=auz
   cases hF
   refine kx3 h14 q15 z16 ?_
   refine zH hq
theorem C.f92 (path:List Int)(i:Int)(r:List Int)(hF:F.f92 path i=some r):PureCall zQ B 145 [am cI path,li i] (am cI r):=by
 unfold F.f92 at hF
 refine zI func145 rfl ntmps145 ?_
 apply oC hF;intro c1 hF
 apply oC hF;intro c2 hF
 cases hF
 exact kc0
theorem CC.f93  :(∀(out:List Step) (p:Pattern) (path:List Int) (r:List Step),F.f93 out p path=some r->BCall zQ B 106 [.elems 8 (zB yY out)] [.own 0 (zA (α:=Step) out),.agg [li p.op,li p.ctor,li p.n,li p.m,li p.var,am zT p.kids],am cI path] (.own 0 (zA (α:=Step) r)) [.elems 8 (zB yY r)])/\
  (∀(p:Pattern) (path:List Int) (out13:List Step) (i:Nat) (o:List Step),F.f94 p path out13 i=some o->∀(c:Code),ZQ [1,0,1,0,1,1,1,1,1,0,1,1,0,0] (ZG Tryz.f106)=some c->∀(Q:Exit->ASt->Prop),(Q (.exit 1) ⟨[(0,.own 0 (zA (α:=Step) o))],[.elems 8 (zB yY o)]⟩)->ALoopU zQ B 1 61 (hold c .mk) ⟨[(0,.own 0 (zA (α:=Step) out13)),(2,am cI path),(4,.ptr 1 0),(7,li (i:Int))],[.elems 8 (zB yY out13),.cells [li p.op,li p.ctor,li p.n,li p.m,li p.var,am zT p.kids]]⟩ (hold Q .mk)):=by
 refine F.f93.mutual_partial_correctness 
  _ _
  ?_ ?_
 ·intro _f_f93 _f_f94 ih_f93 ih_f94 out p path r hF
  refine BCall.enter func106 (by kernel_rfl) rfl ntmps106 (by simp) rfl (by simp) (by simp) (by simp) (by simp) (by simp) (gR _) ?_
  revert hF;refine kS ?_ ?_<;>intro h1 q2 hF
  ·apply oB hF;intro x e3 hF
   have le3:=ZA e3
   refine ZO0 h1 e3 ?_
   apply oB hF;intro v e4 hF
   refine((ih_f93 out x path v e4)).go (pl [0]) (by simp) (by simp) (Zu _ rfl (by decide)) (by intro i hi hi';simp at hi hi';first|omega|(subst hi';simp[pl])) (by simp_all) (by simp_all) ?_
   cases hF
   exact kc0
  ·refine kx2 h1 q2 ?_
   revert hF;refine aS ?_ ?_<;>intro h5 q6 hF
   ·refine kx1 h5 ?_
    refine yL [1000096] [(0,4),(0,5),(0,1),(0,5),(0,2),(0,2),(0,2),(0,2),(0,5),(0,5),(0,5),(5,5)] [1,1,1,1,0,2,0,2,1,1,1,1] follows ?_
    apply oC hF;intro c7 hF
    apply oC hF;intro c8 hF
    cases hF
    exact kc0
   ·refine kx1 q6 ?_
    revert hF;refine aS ?_ ?_<;>intro h9 q10 hF
    ·refine kx1 h9 ?_
     refine yL [1000096] [(0,4),(0,5),(0,1),(0,5),(0,2),(0,2),(0,5),(0,5),(0,5),(5,5)] [1,1,1,1,0,2,1,1,1,1] follows ?_
     apply oC hF;intro c11 hF
     apply oC hF;intro c12 hF
     refine kB hF fun o' ho24 hF=> ?_
     refine zK ((ih_f94 p path (out++[(⟨1,path,p.ctor,0,0,0,[],0⟩:Step)]) 0 o' ho24) _ rfl _ ?_)
     cases hF
     exact kc0
    ·cases hF
     exact kc1 q10
 ·intro _f_f93 _f_f94 ih_f93 ih_f94 p path out13 i o hF
  refine ZI rfl fun Q hq hk hs=> ?_
  have b2:=hk 2
  simp -dsimp at b2
  have d0:=hs 0 _ rfl
  simp -dsimp[yK]at d0
  have d1:=hs 1 _ rfl
  simp -dsimp[yK]at d1
  clear hk hs
  refine eN ?_
  revert hF;refine kS ?_ ?_<;>intro h14 q15 hF
  ·have z16:((i:Int)<(p.kids.length:Int)):=auz
   refine kx2 h14 z16 ?_
   refine yL [106] [(0,0),(0,0),(0,0),(0,0),(0,0),(0,0),(0,0),(0,0),(0,1),(0,1),(1,1)] [1,1,1,1,1,1,1,1,1,1,1] follows ?_
   apply oB hF;intro x17 e18 hF
   have le18:=ZA e18
   refine kdd e18 ?_
   apply oB hF;intro v19 e20 hF
   refine((C.f92 B hB1 hB2 path (i:Int) v19 e20)).pgoW (by simp_all) (by simp) ?_
   refine kB hF fun v21 e22 hF=> ?_
   refine((ih_f93 out13 x17 v19 v21 e22)).ego (pl [0]) (by simp) (by simp) (Zu _ rfl (by decide)) (by intro i hi hi';simp at hi hi';first|omega|(subst hi';simp[pl])) (by simp_all) (by simp_all) ?_
   have w23:i64.wrap ((i:Int)+1)=(i:Int)+1:=ZD (by omega) (by omega)
   refine kx1 w23 ?_
   refine zG ((ih_f94 p path v21 (i+1) o hF) _ rfl _ hq)
  ·have z16:¬((i:Int)<(p.kids.length:Int)):=auz
   cases hF
   refine kx3 h14 q15 z16 ?_
   refine zH hq
theorem CC.f95  :(∀(out:List PathBind) (p:Pattern) (path:List Int) (r:List PathBind),F.f95 out p path=some r->BCall zQ B 108 [.elems 2 (zB yZ out)] [.own 0 (zA (α:=PathBind) out),.agg [li p.op,li p.ctor,li p.n,li p.m,li p.var,am zT p.kids],am cI path] (.own 0 (zA (α:=PathBind) r)) [.elems 2 (zB yZ r)])/\
  (∀(p:Pattern) (path:List Int) (out24:List PathBind) (i25:Nat) (o:List PathBind),F.f97 p path out24 i25=some o->∀(c:Code),ZQ [1,1,0,1,0,0] (ZG Tryz.f108)=some c->∀(Q:Exit->ASt->Prop),(Q (.exit 0) ⟨[(0,.own 0 (zA (α:=PathBind) o))],[.elems 2 (zB yZ o)]⟩)->ALoopU zQ B 1 49 (hold c .mk) ⟨[(0,.own 0 (zA (α:=PathBind) out24)),(2,am cI path),(4,.ptr 1 0),(7,li (i25:Int))],[.elems 2 (zB yZ out24),.cells [li p.op,li p.ctor,li p.n,li p.m,li p.var,am zT p.kids]]⟩ (hold Q .mk))/\
  (∀(p:Pattern) (path:List Int) (out7:List PathBind) (i:Nat) (o:List PathBind),F.f96 p path out7 i=some o->∀(c:Code),ZQ [1,1,0,1,0,0] (ZG Tryz.f108)=some c->∀(Q:Exit->ASt->Prop),(Q (.exit 0) ⟨[(0,.own 0 (zA (α:=PathBind) o))],[.elems 2 (zB yZ o)]⟩)->ALoopU zQ B 1 49 (hold c .mk) ⟨[(0,.own 0 (zA (α:=PathBind) out7)),(2,am cI path),(4,.ptr 1 0),(7,li (i:Int))],[.elems 2 (zB yZ out7),.cells [li p.op,li p.ctor,li p.n,li p.m,li p.var,am zT p.kids]]⟩ (hold Q .mk))/\
  (∀(p:Pattern) (path:List Int) (out47:List PathBind) (i48:Nat) (o:List PathBind),F.f98 p path out47 i48=some o->∀(c:Code),ZQ [1,1,0,1,0,0] (ZG Tryz.f108)=some c->∀(Q:Exit->ASt->Prop),(Q (.exit 0) ⟨[(0,.own 0 (zA (α:=PathBind) o))],[.elems 2 (zB yZ o)]⟩)->ALoopU zQ B 1 49 (hold c .mk) ⟨[(0,.own 0 (zA (α:=PathBind) out47)),(2,am cI path),(4,.ptr 1 0),(7,li (i48:Int))],[.elems 2 (zB yZ out47),.cells [li p.op,li p.ctor,li p.n,li p.m,li p.var,am zT p.kids]]⟩ (hold Q .mk)):=by
 refine F.f95.mutual_partial_correctness 
  _ _ _ _
  ?_ ?_ ?_ ?_
 ·intro _f_f97 _f_f96 _f_f98 ih_f97 ih_f96 ih_f98 out p path r hF
  refine BCall.enter func108 (by kernel_rfl) rfl ntmps108 (by simp) rfl (by simp) (by simp) (by simp) (by simp) (by simp) (gR _) ?_
  revert hF;refine kN ?_ ?_<;>intro h1 q2 hF
  ·refine kx2 h1 q2 ?_
   revert hF;refine aS ?_ ?_<;>intro h3 q4 hF
   ·refine kx1 h3 ?_
    refine yL [1000133] [(0,4),(0,2),(0,2),(0,5),(0,1),(0,5),(0,5),(0,5),(0,5),(5,5)] [1,0,2,1,1,1,1,1,1,1] follows ?_
    apply oC hF;intro c5 hF
    apply oC hF;intro c6 hF
    refine kB hF fun o' ho23 hF=> ?_
    refine zK ((ih_f96 p path (out++[(⟨p.var,path⟩:PathBind)]) 0 o' ho23) _ rfl _ ?_)
    cases hF
    exact kc0
   ·refine kx1 q4 ?_
    apply oB hF;intro o'44 ho43 hF
    refine zK ((ih_f97 p path out 0 o'44 ho43) _ rfl _ ?_)
    cases hF
    exact kc0
  ·refine kx2 h1 q2 ?_
   refine yL [1000133] [(0,4),(0,2),(0,2),(0,5),(0,1),(0,5),(0,5),(0,5),(0,5),(5,5)] [1,0,2,1,1,1,1,1,1,1] follows ?_
   apply oC hF;intro c45 hF
   apply oC hF;intro c46 hF
   refine kB hF fun o'67 ho66 hF=> ?_
   refine zK ((ih_f98 p path (out++[(⟨p.var,path⟩:PathBind)]) 0 o'67 ho66) _ rfl _ ?_)
   cases hF
   exact kc0
 ·intro _f_f95 _f_f97 ih_f95 ih_f97 p path out24 i25 o hF
  refine ZI rfl fun Q hq hk hs=> ?_
  have b2:=hk 2
  simp -dsimp at b2
  have d0:=hs 0 _ rfl
  simp -dsimp[yK]at d0
  have d1:=hs 1 _ rfl
  simp -dsimp[yK]at d1
  clear hk hs
  refine eN ?_
  revert hF;refine kS ?_ ?_<;>intro h26 q27 hF
  ·have z28:((i25:Int)<(p.kids.length:Int)):=auz
   refine kx2 h26 z28 ?_
   revert hF;refine aS ?_ ?_<;>intro h29 q30 hF
   ·refine kx1 h29 ?_
    apply oB hF;intro v31 e32 hF
    refine((C.f92 B hB1 hB2 path (i25:Int) v31 e32)).goI ?_
    apply oB hF;intro x33 e34 hF
    have le34:=ZA e34
    refine kdd e34 ?_
    apply oB hF;intro v35 e36 hF
    refine((ih_f95 out24 x33 v31 v35 e36)).go (pl [0]) (by simp) (by simp) (Zu _ rfl (by decide)) (by intro i hi hi';simp at hi hi';first|omega|(subst hi';simp[pl])) (by simp[h26,z28,h29,↓e34]) (by simp[h26,z28,h29,↓e34]) ?_
    have w37:i64.wrap ((i25:Int)+1)=(i25:Int)+1:=ZD (by omega) (by omega)
    refine kx1 w37 ?_
    refine zG ((ih_f97 p path v35 (i25+1) o hF) _ rfl _ hq)
   ·apply oB hF;intro x38 e39 hF
    have le39:=ZA e39
    refine ZO0 q30 e39 ?_
    apply oB hF;intro v40 e41 hF
    refine((ih_f95 out24 x38 path v40 e41)).go (pl [0]) (by simp) (by simp) (Zu _ rfl (by decide)) (by intro i hi hi';simp at hi hi';first|omega|(subst hi';simp[pl])) (by simp[h26,z28,h29,q30,↓e39]) (by simp[h26,z28,h29,q30,↓e39]) ?_
    have w42:i64.wrap ((i25:Int)+1)=(i25:Int)+1:=ZD (by omega) (by omega)
    refine kx1 w42 ?_
    refine zG ((ih_f97 p path v40 (i25+1) o hF) _ rfl _ hq)
  ·have z28:¬((i25:Int)<(p.kids.length:Int)):=auz
   cases hF
   refine kx3 h26 q27 z28 ?_
   refine zH hq
 ·intro _f_f95 _f_f96 ih_f95 ih_f96 p path out7 i o hF
  refine ZI rfl fun Q hq hk hs=> ?_
  have b2:=hk 2
  simp -dsimp at b2
  have d0:=hs 0 _ rfl
  simp -dsimp[yK]at d0
  have d1:=hs 1 _ rfl
  simp -dsimp[yK]at d1
  clear hk hs
  refine eN ?_
  revert hF;refine kS ?_ ?_<;>intro h8 q9 hF
  ·have z10:((i:Int)<(p.kids.length:Int)):=auz
   refine kx2 h8 z10 ?_
   revert hF;refine aS ?_ ?_<;>intro h11 q12 hF
   ·refine kx1 h11 ?_
    apply oB hF;intro v e13 hF
    refine((C.f92 B hB1 hB2 path (i:Int) v e13)).goI ?_
    apply oB hF;intro x e14 hF
    have le14:=ZA e14
    refine kdd e14 ?_
    apply oB hF;intro v15 e16 hF
    refine((ih_f95 out7 x v v15 e16)).go (pl [0]) (by simp) (by simp) (Zu _ rfl (by decide)) (by intro i hi hi';simp at hi hi';first|omega|(subst hi';simp[pl])) (by simp[h8,z10,h11,↓e14]) (by simp[h8,z10,h11,↓e14]) ?_
    have w17:i64.wrap ((i:Int)+1)=(i:Int)+1:=ZD (by omega) (by omega)
    refine kx1 w17 ?_
    refine zG ((ih_f96 p path v15 (i+1) o hF) _ rfl _ hq)
   ·apply oB hF;intro x18 e19 hF
    have le19:=ZA e19
    refine ZO0 q12 e19 ?_
    apply oB hF;intro v20 e21 hF
    refine((ih_f95 out7 x18 path v20 e21)).go (pl [0]) (by simp) (by simp) (Zu _ rfl (by decide)) (by intro i hi hi';simp at hi hi';first|omega|(subst hi';simp[pl])) (by simp[h8,z10,h11,q12,↓e19]) (by simp[h8,z10,h11,q12,↓e19]) ?_
    have w22:i64.wrap ((i:Int)+1)=(i:Int)+1:=ZD (by omega) (by omega)
    refine kx1 w22 ?_
    refine zG ((ih_f96 p path v20 (i+1) o hF) _ rfl _ hq)
  ·have z10:¬((i:Int)<(p.kids.length:Int)):=auz
   cases hF
   refine kx3 h8 q9 z10 ?_
   refine zH hq
 ·intro _f_f95 _f_f98 ih_f95 ih_f98 p path out47 i48 o hF
  refine ZI rfl fun Q hq hk hs=> ?_
  have b2:=hk 2
  simp -dsimp at b2
  have d0:=hs 0 _ rfl
  simp -dsimp[yK]at d0
  have d1:=hs 1 _ rfl
  simp -dsimp[yK]at d1
  clear hk hs
  refine eN ?_
  revert hF;refine kS ?_ ?_<;>intro h49 q50 hF
  ·have z51:((i48:Int)<(p.kids.length:Int)):=auz
   refine kx2 h49 z51 ?_
   revert hF;refine aS ?_ ?_<;>intro h52 q53 hF
   ·refine kx1 h52 ?_
    apply oB hF;intro v54 e55 hF
    refine((C.f92 B hB1 hB2 path (i48:Int) v54 e55)).goI ?_
    apply oB hF;intro x56 e57 hF
    have le57:=ZA e57
    refine kdd e57 ?_
    apply oB hF;intro v58 e59 hF
    refine((ih_f95 out47 x56 v54 v58 e59)).go (pl [0]) (by simp) (by simp) (Zu _ rfl (by decide)) (by intro i hi hi';simp at hi hi';first|omega|(subst hi';simp[pl])) (by simp[h49,z51,h52,↓e57]) (by simp[h49,z51,h52,↓e57]) ?_
    have w60:i64.wrap ((i48:Int)+1)=(i48:Int)+1:=ZD (by omega) (by omega)
    refine kx1 w60 ?_
    refine zG ((ih_f98 p path v58 (i48+1) o hF) _ rfl _ hq)
   ·apply oB hF;intro x61 e62 hF
    have le62:=ZA e62
    refine ZO0 q53 e62 ?_
    apply oB hF;intro v63 e64 hF
    refine((ih_f95 out47 x61 path v63 e64)).go (pl [0]) (by simp) (by simp) (Zu _ rfl (by decide)) (by intro i hi hi';simp at hi hi';first|omega|(subst hi';simp[pl])) (by simp[h49,z51,h52,q53,↓e62]) (by simp[h49,z51,h52,q53,↓e62]) ?_
    have w65:i64.wrap ((i48:Int)+1)=(i48:Int)+1:=ZD (by omega) (by omega)
    refine kx1 w65 ?_
    refine zG ((ih_f98 p path v63 (i48+1) o hF) _ rfl _ hq)
  ·have z51:¬((i48:Int)<(p.kids.length:Int)):=auz
   cases hF
   refine kx3 h49 q50 z51 ?_
   refine zH hq
theorem CC.f99 (list:List PathBind)(n:Nat):(∀(out4:List PathBind) (i:Nat) (o:List PathBind),F.f99 list n out4 i=some o->∀(c:Code),ZQ [1,1,0,1,0,0,1,0,0,1,0,0] (ZG Tryz.f107)=some c->∀(Q:Exit->ASt->Prop),(Q (.exit 2) ⟨[(0,am yZ list),(3,.own 0 (zA (α:=PathBind) o)),(4,li (n:Int))],[.elems 2 (zB yZ o)]⟩)->ALoopU zQ B 0 37 (hold c .mk) ⟨[(0,am yZ list),(3,.own 0 (zA (α:=PathBind) out4)),(4,li (n:Int)),(5,li (i:Int))],[.elems 2 (zB yZ out4)]⟩ (hold Q .mk)):=by
 refine F.f99.partial_correctness list n
  _
  ?_
 ·intro _f_f99 ih_f99 out4 i o hF
  refine ZI rfl fun Q hq hk hs=> ?_
  have b0:=hk 0
  simp -dsimp at b0
  have d0:=hs 0 _ rfl
  simp -dsimp[yK]at d0
  clear hk hs
  refine eN ?_
  revert hF;refine kS ?_ ?_<;>intro h5 q6 hF
  ·have z7:((i:Int)<(list.length:Int)):=auz
   apply oB hF;intro x e8 hF
   have le8:=ZA e8
   refine ZP h5 z7 e8 ?_
   revert hF;refine aS ?_ ?_<;>intro h9 q10 hF
   ·apply oC hF;intro c11 hF
    apply oC hF;intro c12 hF
    have w13:i64.wrap ((i:Int)+1)=(i:Int)+1:=ZD (by omega) (by omega)
    refine ZHc e8 h9 w13 ?_
    refine zG ((ih_f99 (out4++[(⟨(n:Int),x.path⟩:PathBind)]) (i+1) o hF) _ rfl _ hq)
   ·have w14:i64.wrap ((i:Int)+1)=(i:Int)+1:=ZD (by omega) (by omega)
    repeat first|refine cg ?_|simp -dsimp[↓e8,h9,q10,w14]
    refine zG ((ih_f99 out4 (i+1) o hF) _ rfl _ hq)
  ·have z7:¬((i:Int)<(list.length:Int)):=auz
   cases hF
   refine kx3 h5 q6 z7 ?_
   refine zH hq
theorem CC.f100 (list:List PathBind):(∀(out:List PathBind) (n:Nat) (o:List PathBind),F.f100 list out n=some o->∀(c:Code),ZQ [1,1,0,1,0,0] (ZG Tryz.f107)=some c->∀(Q:Exit->ASt->Prop),(Q (.exit 0) ⟨[(3,.own 0 (zA (α:=PathBind) o))],[.elems 2 (zB yZ o)]⟩)->ALoopU zQ B 0 37 (hold c .mk) ⟨[(0,am yZ list),(3,.own 0 (zA (α:=PathBind) out)),(4,li (n:Int))],[.elems 2 (zB yZ out)]⟩ (hold Q .mk)):=by
 refine F.f100.partial_correctness list
  _
  ?_
 ·intro _f_f100 ih_f100 out n o hF
  refine ZI rfl fun Q hq hk hs=> ?_
  have b0:=hk 0
  simp -dsimp at b0
  have d0:=hs 0 _ rfl
  simp -dsimp[yK]at d0
  clear hk hs
  refine eN ?_
  revert hF;refine kS ?_ ?_<;>intro h1 q2 hF
  ·have z3:((n:Int)<=5):=auz
   refine kx2 h1 z3 ?_
   apply oB hF;intro o' ho15 hF
   refine zK (((CC.f99 B hB1 hB2 list n) out 0 o' ho15) _ rfl _ ?_)
   apply oC hF;intro c16 hF
   have w17:i64.wrap ((n:Int)+1)=(n:Int)+1:=ZD (by omega) (by omega)
   refine kx1 w17 ?_
   refine zG ((ih_f100 o' (n+1) o hF) _ rfl _ hq)
  ·have z3:¬((n:Int)<=5):=auz
   cases hF
   refine kx3 h1 q2 z3 ?_
   refine zH hq
theorem C.f101 (list:List PathBind)(r:List PathBind)(hF:F.f101 list=some r):PureCall zQ B 107 [am yZ list] (am yZ r):=by
 unfold F.f101 at hF
 refine zI func107 rfl ntmps107 ?_
 refine kB hF fun o'19 ho18 hF=> ?_
 refine zK (((CC.f100 B hB1 hB2 list) [] 0 o'19 ho18) _ rfl _ ?_)
 cases hF
 exact kc0
theorem CC.f102 (list:List Clause)(out:List Step)(i:Nat)(v:List Pattern)(k:Nat):(∀(out19:List Step) (n:Nat) (o:List Step),F.f102 list out i v k out19 n=some o->∀(c:Code),ZQ [1,1,0,1,0,0,1,0,0,1,1,0,1,0,0,1,0,0,1,1,1,1,0,0] (ZG Tryz.f67)=some c->∀(Q:Exit->ASt->Prop),(Q (.exit 4) ⟨[(0,am zV list),(3,.own 0 (zA (α:=Step) o)),(4,li (i:Int)),(5,.own 1 (zA (α:=Pattern) v)),(6,li (out.length:Int)),(7,li (k:Int))],[.elems 8 (zB yY o),.elems 6 (zB zT v)]⟩)->ALoopU zQ B 0 87 (hold c .mk) ⟨[(0,am zV list),(3,.own 0 (zA (α:=Step) out19)),(4,li (i:Int)),(5,.own 1 (zA (α:=Pattern) v)),(6,li (out.length:Int)),(7,li (k:Int)),(9,li (n:Int))],[.elems 8 (zB yY out19),.elems 6 (zB zT v)]⟩ (hold Q .mk)):=by
 refine F.f102.partial_correctness list out i v k
  _
  ?_
 ·intro _f_f102 ih_f102 out19 n o hF
  refine ZI rfl fun Q hq hk hs=> ?_
  have b0:=hk 0
  simp -dsimp at b0
  have d0:=hs 0 _ rfl
  simp -dsimp[yK]at d0
  have d1:=hs 1 _ rfl
  simp -dsimp[yK]at d1
  clear hk hs
  refine eN ?_
  revert hF;refine kS ?_ ?_<;>intro h20 q21 hF
  ·have z22:((n:Int)<(out19.length:Int)):=auz
   apply oB hF;intro x23 e24 hF
   have le24:=ZA e24
   have w25:i64.wrap ((n:Int)+1)=(n:Int)+1:=ZD (by omega) (by omega)
   repeat first|refine cg ?_|simp -dsimp[h20,z22,↓e24,w25]
   refine zG ((ih_f102 (out19.set n (⟨x23.op,x23.path,x23.ctor,x23.n,x23.m,x23.clause,x23.binds,(out19.length:Int)⟩:Step)) (n+1) o hF) _ rfl _ hq)
  ·have z22:¬((n:Int)<(out19.length:Int)):=auz
   cases hF
   refine kx3 h20 q21 z22 ?_
   refine zH hq
theorem CC.f103 (list:List Clause)(out:List Step)(i:Nat)(v:List Pattern):(∀(out6:List Step) (k:Nat) (o:List Step),F.f103 list out i v out6 k=some o->∀(c:Code),ZQ [1,1,0,1,0,0,1,0,0,1,1,0,1,0,0] (ZG Tryz.f67)=some c->∀(Q:Exit->ASt->Prop),(Q (.exit 2) ⟨[(0,am zV list),(3,.own 0 (zA (α:=Step) o)),(4,li (i:Int)),(6,li (out.length:Int))],[.elems 8 (zB yY o)]⟩)->ALoopU zQ B 0 87 (hold c .mk) ⟨[(0,am zV list),(3,.own 0 (zA (α:=Step) out6)),(4,li (i:Int)),(5,.own 1 (zA (α:=Pattern) v)),(6,li (out.length:Int)),(7,li (k:Int))],[.elems 8 (zB yY out6),.elems 6 (zB zT v)]⟩ (hold Q .mk)):=by
 refine F.f103.partial_correctness list out i v
  _
  ?_
 ·intro _f_f103 ih_f103 out6 k o hF
  refine ZI rfl fun Q hq hk hs=> ?_
  have b0:=hk 0
  simp -dsimp at b0
  have d0:=hs 0 _ rfl
  simp -dsimp[yK]at d0
  have d1:=hs 1 _ rfl
  simp -dsimp[yK]at d1
  clear hk hs
  refine eN ?_
  revert hF;refine kS ?_ ?_<;>intro h7 q8 hF
  ·have z9:((k:Int)<(v.length:Int)):=auz
   apply oB hF;intro x10 e11 hF
   have le11:=ZA e11
   refine ZP h7 z9 e11 ?_
   apply oB hF;intro v12 e13 hF
   refine(((CC.f93 B hB1 hB2).1 out6 x10 [] v12 e13)).go (pl [0]) (by simp) (by simp) (Zu _ rfl (by decide)) (by intro i hi hi';simp at hi hi';first|omega|(subst hi';simp[pl])) (by simp_all) (by simp_all) ?_
   refine kdd e11 ?_
   apply oB hF;intro v14 e15 hF
   refine yS 0 2 (by simp) ?_
   refine kdd e11 ?_
   refine(((CC.f95 B hB1 hB2).1 [] x10 [] v14 e15)).go (pl [2]) (by simp) (by simp) (Zu _ rfl (by decide)) (by intro i hi hi';simp at hi hi';first|omega|(subst hi';simp[pl])) (by simp_all) (by simp_all) ?_
   refine kdd e11 ?_
   apply oB hF;intro v16 e17 hF
   refine yR ?_ ((C.f101 B hB1 hB2 v14 v16 e17)).ent
   refine kdd e11 ?_
   refine((C.f101 B hB1 hB2 v14 v16 e17)).goI ?_
   apply oC hF;intro c18 hF
   refine kdd e11 ?_
   apply oB hF;intro o' ho26 hF
   refine zK (((CC.f102 B hB1 hB2 list out i v k) (v12++[(⟨2,[],0,0,0,(i:Int),v16,0⟩:Step)]) out6.length o' ho26) _ rfl _ ?_)
   apply oC hF;intro c27 hF
   have w28:i64.wrap ((k:Int)+1)=(k:Int)+1:=ZD (by omega) (by omega)
   refine kx1 w28 ?_
   refine zG ((ih_f103 o' (k+1) o hF) _ rfl _ hq)
  ·have z9:¬((k:Int)<(v.length:Int)):=auz
   cases hF
   refine kx3 h7 q8 z9 ?_
   refine zH hq
theorem CC.f104 (list:List Clause)(i:Nat):(∀(out31:List Step) (n32:Nat) (o:List Step),F.f104 list i out31 n32=some o->∀(c:Code),ZQ [1,1,0,1,0,0,1,0,0,1,1,1,1,0,0] (ZG Tryz.f67)=some c->∀(Q:Exit->ASt->Prop),(Q (.exit 6) ⟨[(0,am zV list),(3,.own 0 (zA (α:=Step) o)),(4,li (i:Int))],[.elems 8 (zB yY o)]⟩)->ALoopU zQ B 0 87 (hold c .mk) ⟨[(0,am zV list),(3,.own 0 (zA (α:=Step) out31)),(4,li (i:Int)),(10,li (n32:Int))],[.elems 8 (zB yY out31)]⟩ (hold Q .mk)):=by
 refine F.f104.partial_correctness list i
  _
  ?_
 ·intro _f_f104 ih_f104 out31 n32 o hF
  refine ZI rfl fun Q hq hk hs=> ?_
  have b0:=hk 0
  simp -dsimp at b0
  have d0:=hs 0 _ rfl
  simp -dsimp[yK]at d0
  clear hk hs
  refine eN ?_
  revert hF;refine kS ?_ ?_<;>intro h33 q34 hF
  ·have z35:((n32:Int)<(out31.length:Int)):=auz
   apply oB hF;intro x36 e37 hF
   have le37:=ZA e37
   refine ZP h33 z35 e37 ?_
   revert hF;refine aS ?_ ?_<;>intro h38 q39 hF
   ·have w40:i64.wrap ((n32:Int)+1)=(n32:Int)+1:=ZD (by omega) (by omega)
    refine kx2 h38 w40 ?_
    refine zG ((ih_f104 (out31.set n32 (⟨x36.op,x36.path,x36.ctor,x36.n,x36.m,x36.clause,x36.binds,(out31.length:Int)⟩:Step)) (n32+1) o hF) _ rfl _ hq)
   ·have w41:i64.wrap ((n32:Int)+1)=(n32:Int)+1:=ZD (by omega) (by omega)
    refine kx3 h38 q39 w41 ?_
    refine zG ((ih_f104 out31 (n32+1) o hF) _ rfl _ hq)
  ·have z35:¬((n32:Int)<(out31.length:Int)):=auz
   cases hF
   refine kx3 h33 q34 z35 ?_
   refine zH hq
theorem CC.f105 (list:List Clause):(∀(out:List Step) (i:Nat) (o:List Step),F.f105 list out i=some o->∀(c:Code),ZQ [1,1,0,1,0,0] (ZG Tryz.f67)=some c->∀(Q:Exit->ASt->Prop),(Q (.exit 0) ⟨[(3,.own 0 (zA (α:=Step) o))],[.elems 8 (zB yY o)]⟩)->ALoopU zQ B 0 87 (hold c .mk) ⟨[(0,am zV list),(3,.own 0 (zA (α:=Step) out)),(4,li (i:Int))],[.elems 8 (zB yY out)]⟩ (hold Q .mk)):=by
 refine F.f105.partial_correctness list
  _
  ?_
 ·intro _f_f105 ih_f105 out i o hF
  refine ZI rfl fun Q hq hk hs=> ?_
  have b0:=hk 0
  simp -dsimp at b0
  have d0:=hs 0 _ rfl
  simp -dsimp[yK]at d0
  clear hk hs
  refine eN ?_
  revert hF;refine kS ?_ ?_<;>intro h1 q2 hF
  ·have z3:((i:Int)<(list.length:Int)):=auz
   apply oB hF;intro x e4 hF
   have le4:=ZA e4
   refine ZP h1 z3 e4 ?_
   apply oB hF;intro v e5 hF
   refine(((CC.spec_l3Split__o0 B hB1 hB2).1 x.pat v e5)).go (pl [1]) (by simp) (by simp) (by intro i j hi;simp at hi) (by intro i hi hi';simp at hi hi';have hi:i=0:=(by omega);rcases hi with rfl<;>simp[pl]) (by simp_all) (by simp_all) ?_
   refine kB hF fun o'30 ho29 hF=> ?_
   refine zK (((CC.f103 B hB1 hB2 list out i v) out 0 o'30 ho29) _ rfl _ ?_)
   refine kB hF fun o'43 ho42 hF=> ?_
   refine zK (((CC.f104 B hB1 hB2 list i) o'30 out.length o'43 ho42) _ rfl _ ?_)
   apply oC hF;intro c44 hF
   have w45:i64.wrap ((i:Int)+1)=(i:Int)+1:=ZD (by omega) (by omega)
   refine kx1 w45 ?_
   refine zG ((ih_f105 o'43 (i+1) o hF) _ rfl _ hq)
  ·have z3:¬((i:Int)<(list.length:Int)):=auz
   cases hF
   refine kx3 h1 q2 z3 ?_
   refine zH hq
theorem C.f106 (list:List Clause)(r:List Step)(hF:F.f106 list=some r):PureCall zQ B 67 [am zV list] (am yY r):=by
 unfold F.f106 at hF
 refine zI func67 rfl ntmps67 ?_
 refine kB hF fun o'47 ho46 hF=> ?_
 refine zK (((CC.f105 B hB1 hB2 list) [] 0 o'47 ho46) _ rfl _ ?_)
 apply oC hF;intro c48 hF
 cases hF
 exact kc0
theorem CC.f107 (list:List Clause):(∀(i:Nat) (o:Lo ((List Step)×Bool) Unit),F.f107 list i=some o->∀(c:Code),ZQ [1,1,0,1,0,0] (ZG Tryz.f32)=some c->∀(Q:Exit->ASt->Prop),o.post (fun r=>∀st,ZAB zQ Tryz.f32 (fun r' _=>r'.le (.tup [am yY r.1,.lit (.bool r.2)])) .ret st->Q .ret st) (fun s=>Q (.exit 0) ⟨[(2,am zV list)],[]⟩)->ALoopU zQ B 0 32 (hold c .mk) ⟨[(2,am zV list),(8,li (i:Int))],[]⟩ (hold Q .mk)):=by
 refine F.f107.partial_correctness list
  _
  ?_
 ·intro _f_f107 ih_f107 i o hF
  refine ZI rfl fun Q hq hk hs=> ?_
  have b2:=hk 2
  simp -dsimp at b2
  clear hk hs
  refine eN ?_
  revert hF;refine kS ?_ ?_<;>intro h4 q5 hF
  ·have z6:((i:Int)<(list.length:Int)):=auz
   apply oB hF;intro x e7 hF
   have le7:=ZA e7
   refine ZP h4 z6 e7 ?_
   apply oB hF;intro v8 e9 hF
   refine(((CC.spec_l3Split__o0 B hB1 hB2).1 x.pat v8 e9)).go (pl [0]) (by simp) (by simp) (by intro i j hi;simp at hi) (by intro i hi hi';simp at hi hi';have hi:i=0:=(by omega);rcases hi with rfl<;>simp[pl]) (by simp_all) (by simp_all) ?_
   revert hF;refine kS ?_ ?_<;>intro h10 q11 hF
   ·have z12:(40<(v8.length:Int)):=auz
    cases hF
    refine kx2 h10 z12 ?_
    refine lG _ (gR _) (hq _ ?_)
    exact kc0
   ·have z12:¬(40<(v8.length:Int)):=auz
    have w13:i64.wrap ((i:Int)+1)=(i:Int)+1:=ZD (by omega) (by omega)
    refine kx4 h10 q11 z12 w13 ?_
    refine zG ((ih_f107 (i+1) o hF) _ rfl _ hq)
  ·have z6:¬((i:Int)<(list.length:Int)):=auz
   cases hF
   refine kx3 h4 q5 z6 ?_
   refine zH hq
theorem C.f108 (w:List zP)(t:Ty)(list:List Clause)(r:(List Step)×Bool)(hF:F.f108 w t list=some r):PureCall zQ B 32 [am zR w,.agg [li t.data,li t.index],am zV list] (.tup [am yY r.1,.lit (.bool r.2)]):=by
 unfold F.f108 at hF
 refine zI func32 rfl ntmps32 ?_
 refine kB hF fun v e1 hF=> ?_
 refine((C.f84 B hB1 hB2 w t list v e1)).goI ?_
 revert hF;refine kN (fun h2 q3 hF=> ?_) (fun h2 q3 hF=> ?_)
 ·cases hF
  exact kc2 h2 q3
 ·refine kB hF fun o' ho14 hF=> ?_
  refine zK (((CC.f107 B hB1 hB2 list) 0 o' ho14) _ rfl _ ?_)
  rcases o' with r0|sx
  ·dsimp only at hF
   cases hF
   intro st h
   simpa using h
  ·dsimp only at hF
   refine kB hF fun v15 e16 hF=> ?_
   refine((C.f106 B hB1 hB2 list v15 e16)).goI ?_
   cases hF
   exact kc0
theorem CC.f109 (w:List zP):(∀(t:Ty) (v:Vl.Value) (depth:Int) (r:Bool),F.f109 w t v depth=some r->PureCall zQ B 68 [am zR w,.agg [li t.data,li t.index],.agg [li v.ctor,li v.n,am Vl.Value.c v.kids],li depth] (.lit (.bool r)))/\
  (∀(v:Vl.Value) (depth:Int) (v19:List Ty) (i:Nat) (o:Lo Bool Unit),F.f110 w v depth v19 i=some o->∀(c:Code),ZQ [1,1,1,1,1,1,0,1,0,0] (ZG Tryz.f68)=some c->∀(Q:Exit->ASt->Prop),o.post (fun r=>∀st,ZAB zQ Tryz.f68 (fun r' _=>r'.le (.lit (.bool r))) .ret st->Q .ret st) (fun s=>Q (.exit 0) ⟨[],[]⟩)->ALoopU zQ B 0 78 (hold c .mk) ⟨[(0,am zR w),(3,li depth),(6,.ptr 1 0),(9,am zM v19),(10,li (i:Int))],[.dead,.cells [li v.ctor,li v.n,am Vl.Value.c v.kids]]⟩ (hold Q .mk)):=by
 refine F.f109.mutual_partial_correctness w
  _ _
  ?_ ?_
 ·intro _f_f110 ih_f110 t v depth r hF
  refine zI func68 rfl ntmps68 ?_
  revert hF;refine kS ?_ ?_<;>intro h1 q2 hF
  ·cases hF
   exact kc1 h1
  ·refine kx2 h1 q2 ?_
   revert hF;refine aS ?_ ?_<;>intro h3 q4 hF
   ·refine kx3 h1 q2 h3 ?_
    revert hF;refine aS ?_ ?_<;>intro h5 q6 hF
    ·refine kx4 h1 q2 h3 h5 ?_
     revert hF;refine aS ?_ ?_<;>intro h7 q8 hF
     ·refine kx5 h1 q2 h3 h5 h7 ?_
      revert hF;refine aS ?_ ?_<;>intro h9 q10 hF
      ·cases hF
       exact kc6 h1 q2 h3 h5 h7 h9
      ·cases hF
       exact kc7 h1 q2 h3 h5 h7 h9 q10
     ·cases hF
      exact kc6 h1 q2 h3 h5 h7 q8
    ·cases hF
     exact kc5 h1 q2 h3 h5 q6
   ·refine kx4 h1 q2 h3 q4 ?_
    refine yM follows ?_
    refine kx4 h1 q2 h3 q4 ?_
    revert hF;refine aS ?_ ?_<;>intro h11 q12 hF
    ·refine kx5 h1 q2 h3 q4 h11 ?_
     apply oB hF;intro v13 e14 hF
     refine((C.f55 B hB1 hB2 w t v13 e14)).pgoW (by simp[h1,q2,h3,q4,h11]) (by simp) ?_
     refine kx5 h1 q2 h3 q4 h11 ?_
     apply oB hF;intro v15 e16 hF
     refine((C.f57 B hB1 hB2 v13 v.ctor v15 e16)).pgoW (by simp[h1,q2,h3,q4,h11]) (by simp) ?_
     refine kx5 h1 q2 h3 q4 h11 ?_
     revert hF;refine aN (fun h17 q18 hF=> ?_) (fun h17 q18 hF=> ?_)
     ·cases hF
      exact kc7 h1 q2 h3 q4 h11 h17 q18
     ·refine kx7 h1 q2 h3 q4 h11 h17 q18 ?_
      apply oB hF;intro v19 e20 hF
      refine((C.f61 B hB1 hB2 w t v.ctor v19 e20)).goI ?_
      refine kx7 h1 q2 h3 q4 h11 h17 q18 ?_
      revert hF;refine aN ?_ ?_<;>intro h21 q22 hF
      ·have z23:¬((v.kids.length:Int)=(v19.length:Int)):=auz
       cases hF
       repeat first|refine cg ?_|simp -dsimp[h1,q2,h3,q4,h11,h17,q18,h21,q22,z23]
      ·have z23:((v.kids.length:Int)=(v19.length:Int)):=auz
       repeat first|refine cg ?_|simp -dsimp[h1,q2,h3,q4,h11,h17,q18,h21,q22,z23]
       apply oB hF;intro o' ho35 hF
       refine zK ((ih_f110 v depth v19 0 o' ho35) _ rfl _ ?_)
       rcases o' with r0|sx
       ·dsimp only at hF
        cases hF
        intro st h
        simpa using h
       ·dsimp only at hF
        cases hF
        exact kc0
    ·cases hF
     exact kc6 h1 q2 h3 q4 h11 q12
 ·intro _f_f109 _f_f110 ih_f109 ih_f110 v depth v19 i o hF
  refine ZI rfl fun Q hq hk hs=> ?_
  have b0:=hk 0
  simp -dsimp at b0
  have b9:=hk 9
  simp -dsimp at b9
  have d1:=hs 1 _ rfl
  simp -dsimp[yK]at d1
  clear hk hs
  refine eN ?_
  revert hF;refine kS ?_ ?_<;>intro h24 q25 hF
  ·have z26:((i:Int)<(v19.length:Int)):=auz
   refine kx2 h24 z26 ?_
   refine yM follows ?_
   apply oB hF;intro x e27 hF
   have le27:=ZA e27
   apply oB hF;intro x28 e29 hF
   have le29:=ZA e29
   refine ZAu h24 z26 e27 e29 ?_
   apply oB hF;intro v30 e31 hF
   refine((ih_f109 x x28 (i64.wrap (depth-1)) v30 e31)).pgoW (by simp[h24,z26,↓e27,↓e29]) (by simp) ?_
   refine ZAu h24 z26 e27 e29 ?_
   revert hF;refine aN (fun h32 q33 hF=> ?_) (fun h32 q33 hF=> ?_)
   ·cases hF
    refine ZAT h24 z26 e27 e29 h32 q33 ?_
    refine lG _ (gR _) (hq _ ?_)
    repeat first|refine cg ?_|simp -dsimp[h24,z26,↓e27,↓e29,h32,q33]
   ·have w34:i64.wrap ((i:Int)+1)=(i:Int)+1:=ZD (by omega) (by omega)
    repeat first|refine cg ?_|simp -dsimp[h24,z26,↓e27,↓e29,h32,q33,w34]
    refine zG ((ih_f110 v depth v19 (i+1) o hF) _ rfl _ hq)
  ·have z26:¬((i:Int)<(v19.length:Int)):=auz
   cases hF
   refine kx3 h24 q25 z26 ?_
   refine zH hq
theorem CC.f111  :(∀(v:Vl.Value) (most:Int) (r:Int),F.f111 v most=some r->PureCall zQ B 69 [.agg [li v.ctor,li v.n,am Vl.Value.c v.kids],li most] (li r))/\
  (∀(v:Vl.Value) (most:Int) (n:Int) (i:Nat) (o:Int),F.f112 v most n i=some o->∀(c:Code),ZQ [1,1,0,1,0,0] (ZG Tryz.f69)=some c->∀(Q:Exit->ASt->Prop),(Q (.exit 0) ⟨[(5,li o)],[]⟩)->ALoopU zQ B 0 31 (hold c .mk) ⟨[(1,li most),(2,.ptr 0 0),(5,li n),(6,li (i:Int))],[.cells [li v.ctor,li v.n,am Vl.Value.c v.kids]]⟩ (hold Q .mk)):=by
 refine F.f111.mutual_partial_correctness 
  _ _
  ?_ ?_
 ·intro _f_f112 ih_f112 v most r hF
  refine zI func69 rfl ntmps69 ?_
  refine kB hF fun o' ho10 hF=> ?_
  refine zK ((ih_f112 v most 1 0 o' ho10) _ rfl _ ?_)
  cases hF
  exact kc0
 ·intro _f_f111 _f_f112 ih_f111 ih_f112 v most n i o hF
  refine ZI rfl fun Q hq hk hs=> ?_
  have d0:=hs 0 _ rfl
  simp -dsimp[yK]at d0
  clear hk hs
  refine eN ?_
  revert hF;refine kS ?_ ?_<;>intro h1 q2 hF
  ·have z3:((i:Int)<(v.kids.length:Int)):=auz
   refine kx2 h1 z3 ?_
   revert hF;refine aS ?_ ?_<;>intro h4 q5 hF
   ·apply oB hF;intro x e6 hF
    have le6:=ZA e6
    refine ZO0 h4 e6 ?_
    apply oB hF;intro v7 e8 hF
    refine((ih_f111 x (i64.wrap (most-n)) v7 e8)).goI ?_
    have w9:i64.wrap ((i:Int)+1)=(i:Int)+1:=ZD (by omega) (by omega)
    refine kx1 w9 ?_
    refine zG ((ih_f112 v most (i64.wrap (n+v7)) (i+1) o hF) _ rfl _ hq)
   ·cases hF
    refine kx2 h4 q5 ?_
    refine zH hq
  ·have z3:¬((i:Int)<(v.kids.length:Int)):=auz
   cases hF
   refine kx3 h1 q2 z3 ?_
   refine zH hq
theorem C.f113 (w:List zP)(t:Ty)(v:Vl.Value)(r:Bool)(hF:F.f113 w t v=some r):PureCall zQ B 33 [am zR w,.agg [li t.data,li t.index],.agg [li v.ctor,li v.n,am Vl.Value.c v.kids]] (.lit (.bool r)):=by
 unfold F.f113 at hF
 refine zI func33 rfl ntmps33 ?_
 refine kB hF fun v1 e2 hF=> ?_
 refine(((CC.f109 B hB1 hB2 w).1 t v 10 v1 e2)).goI ?_
 revert hF;refine kS (fun h3 q4 hF=> ?_) (fun h3 q4 hF=> ?_)
 ·refine kx1 h3 ?_
  apply oB hF;intro v5 e6 hF
  refine(((CC.f111 B hB1 hB2).1 v 60 v5 e6)).goI ?_
  cases hF
  exact kc1 h3
 ·cases hF
  exact kc2 h3 q4
theorem CC.f114 (path:List Int):(∀(z:Int) (z1:Int) (z2:List Vl.Value) (i:Nat) (o:Int×Int×(List Vl.Value)),F.f114 path z z1 z2 i=some o->∀(c:Code),ZQ [1,0,1,0,0] (ZG Tryz.f55)=some c->∀(Q:Exit->ASt->Prop),(Q (.exit 0) ⟨[(2,.ptr 0 0),(4,.ptr 1 0)],[.cells [li o.1,li o.2.1,am Vl.Value.c o.2.2],.cells [li 0,li 0,.lit (.slice none 0 0)]]⟩)->ALoopU zQ B 0 21 (hold c .mk) ⟨[(1,am cI path),(2,.ptr 0 0),(4,.ptr 1 0),(5,li (i:Int))],[.cells [li z,li z1,am Vl.Value.c z2],.cells [li 0,li 0,.lit (.slice none 0 0)]]⟩ (hold Q .mk)):=by
 refine F.f114.partial_correctness path
  _
  ?_
 ·intro _f_f114 ih_f114 z z1 z2 i o hF
  refine ZI rfl fun Q hq hk hs=> ?_
  have b1:=hk 1
  simp -dsimp at b1
  have d0:=hs 0 _ rfl
  simp -dsimp[yK]at d0
  clear hk hs
  refine eN ?_
  revert hF;refine kS ?_ ?_<;>intro h3 q4 hF
  ·have z5:((i:Int)<(path.length:Int)):=auz
   refine kx2 h3 z5 ?_
   refine yL [] [(0,0),(0,0),(0,0),(0,0),(0,0),(0,0),(0,0),(0,0),(0,1)] [1,1,1,1,1,1,1,1,1] follows ?_
   apply oB hF;intro x e6 hF
   have le6:=ZA e6
   apply oB hF;intro x7 e8a hF
   have e8a:=ZV e8a;obtain⟨ne8,e8⟩:=e8a
   have le8:=ZA e8
   have w9:i64.wrap ((i:Int)+1)=(i:Int)+1:=ZD (by omega) (by omega)
   repeat first|refine cg ?_|simp -dsimp[↓e6,↓e8,w9]
   refine zG ((ih_f114 x7.ctor x7.n x7.kids (i+1) o hF) _ rfl _ hq)
  ·have z5:¬((i:Int)<(path.length:Int)):=auz
   cases hF
   refine kx3 h3 q4 z5 ?_
   refine zH hq
theorem C.f115 (v:Vl.Value)(path:List Int)(r:Vl.Value)(hF:F.f115 v path=some r):PureCall zQ B 55 [.agg [li v.ctor,li v.n,am Vl.Value.c v.kids],am cI path] (.agg [li r.ctor,li r.n,am Vl.Value.c r.kids]):=by
 unfold F.f115 at hF
 refine zI func55 rfl ntmps55 ?_
 refine kB hF fun o' ho10 hF=> ?_
 refine zK (((CC.f114 B hB1 hB2 path) v.ctor v.n v.kids 0 o' ho10) _ rfl _ ?_)
 cases hF
 exact kc0
theorem C.f116 (x:Step)(v:Vl.Value)(r:Bool)(hF:F.f116 x v=some r):PureCall zQ B 54 [.agg [li x.op,am cI x.path,li x.ctor,li x.n,li x.m,li x.clause,am yZ x.binds,li x.to],.agg [li v.ctor,li v.n,am Vl.Value.c v.kids]] (.lit (.bool r)):=by
 unfold F.f116 at hF
 refine zI func54 rfl ntmps54 ?_
 revert hF;refine kS ?_ ?_<;>intro h1 q2 hF
 ·refine kx1 h1 ?_
  revert hF;refine aS ?_ ?_<;>intro h3 q4 hF
  ·refine kx2 h1 h3 ?_
   revert hF;refine aS ?_ ?_<;>intro h5 q6 hF
   ·cases hF
    exact kc3 h1 h3 h5
   ·cases hF
    exact kc4 h1 h3 h5 q6
  ·cases hF
   exact kc3 h1 h3 q4
 ·cases hF
  exact kc2 h1 q2
theorem CC.f117 (g:Guard)(binds:List PathBind):(∀(i:Nat) (o:Lo ((List Int)×Bool) Unit),F.f117 g binds i=some o->∀(c:Code),ZQ [1,0,1,0,0] (ZG Tryz.f56)=some c->∀(Q:Exit->ASt->Prop),o.post (fun r=>∀st,ZAB zQ Tryz.f56 (fun r' _=>r'.le (.tup [am cI r.1,.lit (.bool r.2)])) .ret st->Q .ret st) (fun s=>Q (.exit 0) ⟨[],[]⟩)->ALoopU zQ B 0 31 (hold c .mk) ⟨[(1,am yZ binds),(2,.ptr 0 0),(6,li (i:Int))],[.cells [li g.op,li g.var,li g.n]]⟩ (hold Q .mk)):=by
 refine F.f117.partial_correctness g binds
  _
  ?_
 ·intro _f_f117 ih_f117 i o hF
  intro c hc Q hq
  obtain rfl:c=_:=ZAI hc rfl
  refine xA fun hk hs=> ?_
  have b1:=hk 1
  simp -dsimp at b1
  clear hk hs
  refine eN ?_
  revert hF;refine kS ?_ ?_<;>intro h1 q2 hF
  ·have z3:((i:Int)<(binds.length:Int)):=auz
   refine kx2 h1 z3 ?_
   revert hF;refine aN ?_ ?_<;>intro h4 q5 hF
   ·refine kx4 h1 z3 h4 q5 ?_
    refine yN follows (by kernel_rfl) (by kernel_rfl) ?_
    apply oB hF;intro x e6 hF
    have le6:=ZA e6
    repeat first|refine cg ?_|simp -dsimp[h1,z3,h4,q5,↓e6]
    revert hF;refine aS ?_ ?_<;>intro h7 q8 hF
    ·cases hF
     repeat first|refine cg ?_|simp -dsimp[h1,z3,h4,q5,↓e6,h7]
     refine lG _ (gR _) (hq _ ?_)
     repeat first|refine cg ?_|simp -dsimp[h1,z3,h4,q5,↓e6,h7]
    ·have w9:i64.wrap ((i:Int)+1)=(i:Int)+1:=ZD (by omega) (by omega)
     repeat first|refine cg ?_|simp -dsimp[h1,z3,h4,q5,↓e6,h7,q8,w9]
     refine aG _ ?_ ((ih_f117 (i+1) o hF) _ rfl _ hq)
     exact(gT (by simp) (by first|simp -dsimp[h1,z3,h4,q5,↓e6,h7,q8,w9];done|simp_all))
   ·cases hF
    refine kx4 h1 z3 h4 q5 ?_
    refine lG _ (gT (by simp) (by first|simp -dsimp[h1,z3,h4,q5];done|simp_all)) hq
  ·have z3:¬((i:Int)<(binds.length:Int)):=auz
   cases hF
   refine kx3 h1 q2 z3 ?_
   refine lG _ (gT (by simp) (by first|simp -dsimp[h1,q2,z3];done|simp_all)) hq
theorem C.f118 (g:Guard)(binds:List PathBind)(r:(List Int)×Bool)(hF:F.f118 g binds=some r):PureCall zQ B 56 [.agg [li g.op,li g.var,li g.n],am yZ binds] (.tup [am cI r.1,.lit (.bool r.2)]):=by
 unfold F.f118 at hF
 refine pE func56 (by kernel_rfl) rfl ntmps56 (by simp) (by simp) ?_
 refine kB hF fun o' ho10 hF=> ?_
 refine zL _ ?_ (((CC.f117 B hB1 hB2 g binds) 0 o' ho10) _ rfl _ ?_)
 ·exact(gT (by simp) (by simp -dsimp))
 rcases o' with r0|sx
 ·dsimp only at hF
  cases hF
  intro st h
  simpa using h
 ·dsimp only at hF
  cases hF
  repeat first|refine cg ?_|simp -dsimp
  all_goals(try first|omega|rfl)
theorem CC.f119 (a:List Int)(b:List Int):(∀(i:Nat) (o:Lo Bool Unit),F.f119 a b i=some o->∀(c:Code),ZQ [1,1,0,1,0,0] (ZG Tryz.f35)=some c->∀(Q:Exit->ASt->Prop),o.post (fun r=>∀st,ZAB zQ Tryz.f35 (fun r' _=>r'.le (.lit (.bool r))) .ret st->Q .ret st) (fun s=>Q (.exit 0) ⟨[],[]⟩)->ALoopU zQ B 0 26 (hold c .mk) ⟨[(0,am cI a),(1,am cI b),(5,li (i:Int))],[]⟩ (hold Q .mk)):=by
 refine F.f119.partial_correctness a b
  _
  ?_
 ·intro _f_f119 ih_f119 i o hF
  refine ZI rfl fun Q hq hk hs=> ?_
  have b0:=hk 0
  simp -dsimp at b0
  have b1:=hk 1
  simp -dsimp at b1
  clear hk hs
  refine eN ?_
  revert hF;refine kS ?_ ?_<;>intro h4 q5 hF
  ·have z6:((i:Int)<(a.length:Int)):=auz
   refine kx2 h4 z6 ?_
   refine yM follows ?_
   apply oB hF;intro x e7 hF
   have le7:=ZA e7
   apply oB hF;intro x8 e9 hF
   have le9:=ZA e9
   refine ZEP e7 e9 ?_
   revert hF;refine aN ?_ ?_<;>intro h10 q11 hF
   ·cases hF
    refine kx2 h10 q11 ?_
    refine lG _ (gR _) (hq _ ?_)
    exact kc0
   ·have w12:i64.wrap ((i:Int)+1)=(i:Int)+1:=ZD (by omega) (by omega)
    refine kx1 w12 ?_
    refine zG ((ih_f119 (i+1) o hF) _ rfl _ hq)
  ·have z6:¬((i:Int)<(a.length:Int)):=auz
   cases hF
   refine kx3 h4 q5 z6 ?_
   refine zH hq
theorem C.f120 (a:List Int)(b:List Int)(r:Bool)(hF:F.f120 a b=some r):PureCall zQ B 35 [am cI a,am cI b] (.lit (.bool r)):=by
 unfold F.f120 at hF
 refine zI func35 rfl ntmps35 ?_
 revert hF;refine kN ?_ ?_<;>intro h1 q2 hF
 ·have z3:¬((a.length:Int)=(b.length:Int)):=auz
  cases hF
  exact kc3 h1 q2 z3
 ·have z3:((a.length:Int)=(b.length:Int)):=auz
  refine kB hF fun o' ho13 hF=> ?_
  refine zK (((CC.f119 B hB1 hB2 a b) 0 o' ho13) _ rfl _ ?_)
  rcases o' with r0|sx
  ·dsimp only at hF
   cases hF
   intro st h
   simpa using h
  ·dsimp only at hF
   cases hF
   exact kc0
theorem CC.f121 (list:List (List Int))(path:List Int):(∀(i:Nat) (o:Lo Bool Unit),F.f121 list path i=some o->∀(c:Code),ZQ [1,0,1,0,0] (ZG Tryz.f94)=some c->∀(Q:Exit->ASt->Prop),o.post (fun r=>∀st,ZAB zQ Tryz.f94 (fun r' _=>r'.le (.lit (.bool r))) .ret st->Q .ret st) (fun s=>Q (.exit 0) ⟨[],[]⟩)->ALoopU zQ B 0 18 (hold c .mk) ⟨[(0,am (cL cI) list),(1,am cI path),(5,li (i:Int))],[]⟩ (hold Q .mk)):=by
 refine F.f121.partial_correctness list path
  _
  ?_
 ·intro _f_f121 ih_f121 i o hF
  intro c hc Q hq
  obtain rfl:c=_:=ZAI hc rfl
  refine xA fun hk hs=> ?_
  have b0:=hk 0
  simp -dsimp at b0
  have b1:=hk 1
  simp -dsimp at b1
  clear hk hs
  refine eN ?_
  revert hF;refine kS ?_ ?_<;>intro h1 q2 hF
  ·have z3:((i:Int)<(list.length:Int)):=auz
   apply oB hF;intro x e4 hF
   have le4:=ZA e4
   refine ZP h1 z3 e4 ?_
   apply oB hF;intro v e5 hF
   refine((C.f120 B hB1 hB2 x path v e5)).goW (by first|simp[h1,z3,↓e4];done|simp_all) (by simp) ?_
   refine ZP h1 z3 e4 ?_
   revert hF;refine aS (fun h6 q7 hF=> ?_) (fun h6 q7 hF=> ?_)
   ·cases hF
    repeat first|refine cg ?_|simp -dsimp[h1,z3,↓e4,h6]
    refine lG _ (gR _) (hq _ ?_)
    repeat first|refine cg ?_|simp -dsimp[h1,z3,↓e4,h6]
   ·have w8:i64.wrap ((i:Int)+1)=(i:Int)+1:=ZD (by omega) (by omega)
    repeat first|refine cg ?_|simp -dsimp[h1,z3,↓e4,h6,q7,w8]
    refine aG _ ?_ ((ih_f121 (i+1) o hF) _ rfl _ hq)
    exact(gT (by simp) (by first|simp -dsimp[h1,z3,↓e4,h6,q7,w8];done|simp_all))
  ·have z3:¬((i:Int)<(list.length:Int)):=auz
   cases hF
   refine kx3 h1 q2 z3 ?_
   refine lG _ (gT (by simp) (by first|simp -dsimp[h1,q2,z3];done|simp_all)) hq
theorem C.f122 (list:List (List Int))(path:List Int)(r:Bool)(hF:F.f122 list path=some r):PureCall zQ B 94 [am (cL cI) list,am cI path] (.lit (.bool r)):=by
 unfold F.f122 at hF
 refine pE func94 (by kernel_rfl) rfl ntmps94 (by simp) (by simp) ?_
 refine kB hF fun o' ho9 hF=> ?_
 refine zL _ ?_ (((CC.f121 B hB1 hB2 list path) 0 o' ho9) _ rfl _ ?_)
 ·exact(gT (by simp) (by simp -dsimp))
 rcases o' with r0|sx
 ·dsimp only at hF
  cases hF
  intro st h
  simpa using h
 ·dsimp only at hF
  cases hF
  repeat first|refine cg ?_|simp -dsimp
  all_goals(try first|omega|rfl)
theorem CC.f123 (list:List (List Int)):(∀(out:List (List Int)) (i:Nat) (o:List (List Int)),F.f123 list out i=some o->∀(c:Code),ZQ [1,1,0,1,0,0] (ZG Tryz.f57)=some c->∀(Q:Exit->ASt->Prop),(Q (.exit 0) ⟨[(3,.own 0 (zA (α:=List Int) o))],[.elems 1 (zB (cL cI) o)]⟩)->ALoopU zQ B 0 29 (hold c .mk) ⟨[(0,am (cL cI) list),(3,.own 0 (zA (α:=List Int) out)),(4,li (i:Int))],[.elems 1 (zB (cL cI) out)]⟩ (hold Q .mk)):=by
 refine F.f123.partial_correctness list
  _
  ?_
 ·intro _f_f123 ih_f123 out i o hF
  intro c hc Q hq
  obtain rfl:c=_:=ZAI hc rfl
  refine xA fun hk hs=> ?_
  have b0:=hk 0
  simp -dsimp at b0
  have d0:=hs 0 _ rfl
  simp -dsimp[yK]at d0
  clear hk hs
  refine eN ?_
  revert hF;refine kS ?_ ?_<;>intro h1 q2 hF
  ·have z3:((i:Int)<(list.length:Int)):=auz
   apply oB hF;intro x e4 hF
   have le4:=ZA e4
   refine ZP h1 z3 e4 ?_
   apply oB hF;intro v e5 hF
   refine((C.f122 B hB1 hB2 out x v e5)).lend (by first|simp -dsimp[h1,z3,↓e4];done|simp_all) (by simp -dsimp) ?_
   refine ZP h1 z3 e4 ?_
   revert hF;refine aN (fun h6 q7 hF=> ?_) (fun h6 q7 hF=> ?_)
   ·apply oC hF;intro c8 hF
    apply oC hF;intro c9 hF
    have w10:i64.wrap ((i:Int)+1)=(i:Int)+1:=ZD (by omega) (by omega)
    repeat first|refine cg ?_|simp -dsimp[h1,z3,↓e4,h6,q7,w10]
    refine aG _ ?_ ((ih_f123 (out++[x]) (i+1) o hF) _ rfl _ hq)
    exact(gT (by simp) (by first|simp -dsimp[h1,z3,↓e4,h6,q7,w10];done|simp_all))
   ·have w11:i64.wrap ((i:Int)+1)=(i:Int)+1:=ZD (by omega) (by omega)
    repeat first|refine cg ?_|simp -dsimp[h1,z3,↓e4,h6,q7,w11]
    refine aG _ ?_ ((ih_f123 out (i+1) o hF) _ rfl _ hq)
    exact(gT (by simp) (by first|simp -dsimp[h1,z3,↓e4,h6,q7,w11];done|simp_all))
  ·have z3:¬((i:Int)<(list.length:Int)):=auz
   cases hF
   refine kx3 h1 q2 z3 ?_
   refine lG _ (gT (by simp) (by first|simp -dsimp[h1,q2,z3];done|simp_all)) hq
theorem C.f124 (list:List (List Int))(r:List (List Int))(hF:F.f124 list=some r):PureCall zQ B 57 [am (cL cI) list] (am (cL cI) r):=by
 unfold F.f124 at hF
 refine pE func57 (by kernel_rfl) rfl ntmps57 (by simp) (by simp) ?_
 refine kB hF fun o' ho12 hF=> ?_
 refine zL _ ?_ (((CC.f123 B hB1 hB2 list) [] 0 o' ho12) _ rfl _ ?_)
 ·exact(gT (by simp) (by simp -dsimp))
 cases hF
 repeat first|refine cg ?_|simp -dsimp
 all_goals(try first|omega|rfl)
theorem C.f125 (g:Guard)(n:Int)(r:Bool)(hF:F.f125 g n=some r):PureCall zQ B 58 [.agg [li g.op,li g.var,li g.n],li n] (.lit (.bool r)):=by
 unfold F.f125 at hF
 refine pE func58 (by kernel_rfl) rfl ntmps58 (by simp) (by simp) ?_
 revert hF;refine kS ?_ ?_<;>intro h1 q2 hF
 ·refine kx1 h1 ?_
  revert hF;refine aN ?_ ?_<;>intro h3 q4 hF
  ·have n5:¬(g.op=2):=by omega
   cases hF
   repeat first|refine cg ?_|simp -dsimp[h1,h3,q4,n5]
   all_goals(try first|omega|rfl)
  ·cases hF
   repeat first|refine cg ?_|simp -dsimp[h1,h3,q4]
   all_goals(try first|omega|rfl)
 ·refine kx2 h1 q2 ?_
  revert hF;refine aS ?_ ?_<;>intro h6 q7 hF
  ·cases hF
   repeat first|refine cg ?_|simp -dsimp[h1,q2,h6]
   all_goals(try first|omega|rfl)
  ·cases hF
   repeat first|refine cg ?_|simp -dsimp[h1,q2,h6,q7]
   all_goals(try first|omega|rfl)
theorem CC.f126 (list:List Clause)(v:Vl.Value)(v1:(List Step)×Bool):(∀(used:List (List Int)) (at':Int) (o:Lo (List (List Int)) (List (List Int))),F.f126 list v v1 used at'=some o->∀(c:Code),ZQ [1,1,1,1,1,0,0,0] (ZG Tryz.f24)=some c->∀(Q:Exit->ASt->Prop),o.post (fun r=>∀st,ZAB zQ Tryz.f24 (fun r' _=>r'.le (am (cL cI) r)) .ret st->Q .ret st) (fun s=>Q (.exit 0) ⟨[(11,.own 2 (zA (α:=List Int) s))],[.dead,.dead,.elems 1 (zB (cL cI) s)]⟩)->ALoopU zQ B 0 96 (hold c .mk) ⟨[(2,am zV list),(7,.ptr 1 0),(9,am yY v1.1),(11,.own 2 (zA (α:=List Int) used)),(12,li at')],[.dead,.cells [li v.ctor,li v.n,am Vl.Value.c v.kids],.elems 1 (zB (cL cI) used)]⟩ (hold Q .mk)):=by
 refine F.f126.partial_correctness list v v1
  _
  ?_
 ·intro _f_f126 ih_f126 used at' o hF
  intro c hc Q hq
  obtain rfl:c=_:=ZAI hc rfl
  refine xA fun hk hs=> ?_
  have b2:=hk 2
  simp -dsimp at b2
  have b9:=hk 9
  simp -dsimp at b9
  have d1:=hs 1 _ rfl
  simp -dsimp[yK]at d1
  have d2:=hs 2 _ rfl
  simp -dsimp[yK]at d2
  clear hk hs
  refine eN ?_
  apply oB hF;intro x e9a hF
  have e9a:=ZV e9a;obtain⟨ne9,e9⟩:=e9a
  have le9:=ZA e9
  refine kdd e9 ?_
  revert hF;refine aN ?_ ?_<;>intro h10 q11 hF
  ·refine ZHc e9 h10 q11 ?_
   revert hF;refine aS ?_ ?_<;>intro h12 q13 hF
   ·apply oC hF;intro c14 hF
    repeat first|refine cg ?_|simp -dsimp[↓e9,h10,q11,h12]
    refine yN follows (by kernel_rfl) (by kernel_rfl) ?_
    repeat first|refine cg ?_|simp -dsimp[↓e9,h10,q11,h12]
    apply oB hF;intro v15 e16 hF
    refine((C.f115 B hB1 hB2 v x.path v15 e16)).pgoW (by first|simp[↓e9,h10,q11,h12];done|simp_all) (by simp) ?_
    repeat first|refine cg ?_|simp -dsimp[↓e9,h10,q11,h12]
    apply oB hF;intro v17 e18 hF
    refine((C.f116 B hB1 hB2 x v15 v17 e18)).pgoW (by first|simp[↓e9,h10,q11,h12];done|simp_all) (by simp) ?_
    repeat first|refine cg ?_|simp -dsimp[↓e9,h10,q11,h12]
    revert hF;refine aS (fun h19 q20 hF=> ?_) (fun h19 q20 hF=> ?_)
    ·repeat first|refine cg ?_|simp -dsimp[↓e9,h10,q11,h12,h19]
     refine aG _ ?_ ((ih_f126 (used++[x.path]) (i64.wrap (at'+1)) o hF) _ rfl _ hq)
     exact(gT (by simp) (by first|simp -dsimp[↓e9,h10,q11,h12,h19];done|simp_all))
    ·repeat first|refine cg ?_|simp -dsimp[↓e9,h10,q11,h12,h19,q20]
     refine aG _ ?_ ((ih_f126 (used++[x.path]) x.to o hF) _ rfl _ hq)
     exact(gT (by simp) (by first|simp -dsimp[↓e9,h10,q11,h12,h19,q20];done|simp_all))
   ·apply oB hF;intro x21 e22a hF
    have e22a:=ZV e22a;obtain⟨ne22,e22⟩:=e22a
    have le22:=ZA e22
    repeat first|refine cg ?_|simp -dsimp[↓e9,h10,q11,h12,q13,↓e22]
    apply oB hF;intro v23 e24 hF
    refine((C.f118 B hB1 hB2 x21.guard x.binds v23 e24)).goW (by first|simp[↓e9,h10,q11,h12,q13,↓e22];done|simp_all) (by simp) ?_
    repeat first|refine cg ?_|simp -dsimp[↓e9,h10,q11,h12,q13,↓e22]
    revert hF;refine aN (fun h25 q26 hF=> ?_) (fun h25 q26 hF=> ?_)
    ·repeat first|refine cg ?_|simp -dsimp[↓e9,h10,q11,h12,q13,↓e22,h25,q26]
     apply oB hF;intro v27 e28 hF
     refine yR ?_ ((C.f124 B hB1 hB2 used v27 e28)).ent
     repeat first|refine cg ?_|simp -dsimp[↓e9,h10,q11,h12,q13,↓e22,h25,q26]
     refine((C.f124 B hB1 hB2 used v27 e28)).goW (by first|simp[↓e9,h10,q11,h12,q13,↓e22,h25,q26];done|simp_all) (by simp) ?_
     cases hF
     repeat first|refine cg ?_|simp -dsimp[↓e9,h10,q11,h12,q13,↓e22,h25,q26]
     refine lG _ (gR _) (hq _ ?_)
     repeat first|refine cg ?_|simp -dsimp[↓e9,h10,q11,h12,q13,↓e22,h25,q26]
    ·apply oC hF;intro c29 hF
     repeat first|refine cg ?_|simp -dsimp[↓e9,h10,q11,h12,q13,↓e22,h25,q26]
     refine yN follows (by kernel_rfl) (by kernel_rfl) ?_
     repeat first|refine cg ?_|simp -dsimp[↓e9,h10,q11,h12,q13,↓e22,h25,q26]
     apply oB hF;intro v30 e31 hF
     refine((C.f115 B hB1 hB2 v v23.1 v30 e31)).pgoW (by first|simp[↓e9,h10,q11,h12,q13,↓e22,h25,q26];done|simp_all) (by simp) ?_
     repeat first|refine cg ?_|simp -dsimp[↓e9,h10,q11,h12,q13,↓e22,h25,q26]
     apply oB hF;intro v32 e33 hF
     refine((C.f125 B hB1 hB2 x21.guard v30.n v32 e33)).pgoW (by first|simp[↓e9,h10,q11,h12,q13,↓e22,h25,q26];done|simp_all) (by simp) ?_
     repeat first|refine cg ?_|simp -dsimp[↓e9,h10,q11,h12,q13,↓e22,h25,q26]
     revert hF;refine aS (fun h34 q35 hF=> ?_) (fun h34 q35 hF=> ?_)
     ·repeat first|refine cg ?_|simp -dsimp[↓e9,h10,q11,h12,q13,↓e22,h25,q26,h34]
      apply oB hF;intro v36 e37 hF
      refine yR ?_ ((C.f124 B hB1 hB2 (used++[v23.1]) v36 e37)).ent
      repeat first|refine cg ?_|simp -dsimp[↓e9,h10,q11,h12,q13,↓e22,h25,q26,h34]
      refine((C.f124 B hB1 hB2 (used++[v23.1]) v36 e37)).goW (by first|simp[↓e9,h10,q11,h12,q13,↓e22,h25,q26,h34];done|simp_all) (by simp) ?_
      cases hF
      repeat first|refine cg ?_|simp -dsimp[↓e9,h10,q11,h12,q13,↓e22,h25,q26,h34]
      refine lG _ (gR _) (hq _ ?_)
      repeat first|refine cg ?_|simp -dsimp[↓e9,h10,q11,h12,q13,↓e22,h25,q26,h34]
     ·repeat first|refine cg ?_|simp -dsimp[↓e9,h10,q11,h12,q13,↓e22,h25,q26,h34,q35]
      refine aG _ ?_ ((ih_f126 (used++[v23.1]) x.to o hF) _ rfl _ hq)
      exact(gT (by simp) (by first|simp -dsimp[↓e9,h10,q11,h12,q13,↓e22,h25,q26,h34,q35];done|simp_all))
  ·cases hF
   refine ZHc e9 h10 q11 ?_
   refine lG _ (gT (by simp) (by first|simp -dsimp[↓e9,h10,q11];done|simp_all)) hq
theorem C.f127 (w:List zP)(t:Ty)(list:List Clause)(v:Vl.Value)(r:List (List Int))(hF:F.f127 w t list v=some r):PureCall zQ B 24 [am zR w,.agg [li t.data,li t.index],am zV list,.agg [li v.ctor,li v.n,am Vl.Value.c v.kids]] (am (cL cI) r):=by
 unfold F.f127 at hF
 refine pE func24 (by kernel_rfl) rfl ntmps24 (by simp) (by simp) ?_
 refine kB hF fun v1 e2 hF=> ?_
 refine((C.f108 B hB1 hB2 w t list v1 e2)).goW (by simp) (by simp) ?_
 revert hF;refine kS (fun h3 q4 hF=> ?_) (fun h3 q4 hF=> ?_)
 ·refine kx1 h3 ?_
  apply oB hF;intro v5 e6 hF
  refine((C.f113 B hB1 hB2 w t v v5 e6)).goW (by first|simp[h3];done|simp_all) (by simp) ?_
  refine kx1 h3 ?_
  revert hF;refine aN (fun h7 q8 hF=> ?_) (fun h7 q8 hF=> ?_)
  ·cases hF
   repeat first|refine cg ?_|simp -dsimp[h3,h7,q8]
   all_goals(try first|omega|rfl)
  ·refine kx3 h3 h7 q8 ?_
   apply oB hF;intro o' ho38 hF
   refine zL _ ?_ (((CC.f126 B hB1 hB2 list v v1) [] 0 o' ho38) _ rfl _ ?_)
   ·exact(gT (by simp) (by first|simp -dsimp[h3,h7,q8];done|simp_all))
   rcases o' with r0|sx
   ·dsimp only at hF
    cases hF
    intro st h
    simpa using h
   ·dsimp only at hF
    refine kB hF fun v39 e40 hF=> ?_
    refine yR ?_ ((C.f124 B hB1 hB2 sx v39 e40)).ent
    refine kx0 ?_
    refine((C.f124 B hB1 hB2 sx v39 e40)).goW (by simp) (by simp) ?_
    cases hF
    repeat first|refine cg ?_|simp -dsimp
    all_goals(try first|omega|rfl)
 ·cases hF
  repeat first|refine cg ?_|simp -dsimp[h3,q4]
  all_goals(try first|omega|rfl)
theorem CC.laws_toTypeS__f_l1 (a:List Ty):(∀(out:List Ty) (i:Nat) (o:List Ty),yJ a out i=some o->∀(c:Code),ZQ [1,1,0,1,0,0] (ZG Tryz.f148)=some c->∀(Q:Exit->ASt->Prop),(Q (.exit 0) ⟨[(3,.own 1 (zA (α:=Ty) o))],[.pack [] [],.elems 2 (zB zM o)]⟩)->ALoopU zQ B 0 23 (hold c .mk) ⟨[(0,am zM a),(3,.own 1 (zA (α:=Ty) out)),(4,li (i:Int))],[.pack [] [],.elems 2 (zB zM out)]⟩ (hold Q .mk)):=by
 refine F.f19.partial_correctness a
  _
  ?_
 ·intro _f_laws_toTypeS__f_l1 ih_laws_toTypeS__f_l1 out i o hF
  refine ZI rfl fun Q hq hk hs=> ?_
  have b0:=hk 0
  simp -dsimp at b0
  have d1:=hs 1 _ rfl
  simp -dsimp[yK]at d1
  clear hk hs
  refine eN ?_
  revert hF;refine kS ?_ ?_<;>intro h2 q3 hF
  ·have z4:((i:Int)<(a.length:Int)):=auz
   apply oB hF;intro x e5 hF
   have le5:=ZA e5
   refine ZP h2 z4 e5 ?_
   apply oB hF;intro v e6 hF
   refine((C.f18 B hB1 hB2 x v e6)).goI ?_
   apply oB hF;intro x7 e8 hF
   have le8:=ZA e8
   have w9:i64.wrap ((i:Int)+1)=(i:Int)+1:=ZD (by omega) (by omega)
   refine ZMB e8 w9 ?_
   refine zG ((ih_laws_toTypeS__f_l1 (out.set i v) (i+1) o hF) _ rfl _ hq)
  ·have z4:¬((i:Int)<(a.length:Int)):=auz
   cases hF
   refine kx3 h2 q3 z4 ?_
   refine zH hq
theorem C.laws_toTypeS__f (a:List Ty)(r:List Ty)(hF:yI a=some r):FCall zQ B 148 [am zM a] (am zM r):=by
 unfold yI at hF
 refine FCall.enterG func148 (by kernel_rfl) rfl ntmps148 (by simp) (yU .nil) ?_
 apply oC hF;intro c1 hF
 refine kB hF fun o' ho10 hF=> ?_
 refine zK (((CC.laws_toTypeS__f_l1 B hB1 hB2 a) (zC a.length Ty.z) 0 o' ho10) _ rfl _ ?_)
 cases hF
 refine kx0 ?_
 exact⟨_,by decide,(.cell (CD.ownE 1 _ 2 rfl (Ty.lits_c _) (by simp) .nil) .nil:CT _ _ _ _)⟩
theorem C.laws_toCtor__f (a:Ctor)(r:Ctor)(hF:yH a=some r):FCall zQ B 113 [.agg [.lit (.string a.name),am zM a.args,li a.index]] (.agg [.lit (.string r.name),am zM r.args,li r.index]):=by
 unfold yH at hF
 refine FCall.enterG func113 (by kernel_rfl) rfl ntmps113 (by simp) (yU .nil) ?_
 refine kB hF fun v e1 hF=> ?_
 refine((C.laws_toTypeS__f B hB1 hB2 a.args v e1)).go1 (by simp -dsimp) (by simp) (fun h o_h=> ?_)
 cases hF
 refine kx1 o_h ?_
 exact⟨_,by decide,(.agg (.lit _ (.pk 4 rfl (.lit _ .nil))) .nil:CT _ _ _ _)⟩
theorem CC.laws_toCtorS__f_l1 (a:List Ctor):(∀(out:List Ctor) (i:Nat) (o:List Ctor),yG a out i=some o->∀(R:List (List AV)),∀(U:List Value),RW 3 (zA (α:=Ctor) out) R U->∀(c:Code),ZQ [1,1,0,1,0,0] (ZG Tryz.f72)=some c->∀(Q:Exit->ASt->Prop),(∀(Rq:List (List AV)) (Uq:List Value),RW 3 (zA (α:=Ctor) o) Rq Uq->Q (.exit 0) ⟨[(3,.own 1 (zA (α:=Ctor) o))],[.pack [] [],.elems 3 Rq,.pack (List.flatten (zB zN o)) Uq]⟩)->ALoopU zQ B 0 23 (hold c .mk) ⟨[(0,am zN a),(3,.own 1 (zA (α:=Ctor) out)),(4,li (i:Int))],[.pack [] [],.elems 3 R,.pack (List.flatten (zB zN out)) U]⟩ (hold Q .mk)):=by
 refine F.f22.partial_correctness a
  _
  ?_
 ·intro _f_laws_toCtorS__f_l1 ih_laws_toCtorS__f_l1 out i o hF
  intro R U H2 c hc Q hq
  obtain rfl:c=_:=ZAI hc rfl
  refine xA fun hk hs=> ?_
  have b0:=hk 0
  simp -dsimp at b0
  have d1:=hs 1 _ rfl
  simp -dsimp[yK]at d1
  clear hk hs
  refine eN ?_
  repeat first|refine cg ?_|simp -dsimp[RW.len H2,RW.closed H2]
  revert hF;refine aS ?_ ?_<;>intro h4 q5 hF
  ·have z6:((i:Int)<(a.length:Int)):=auz
   apply oB hF;intro x e7 hF
   have le7:=ZA e7
   repeat first|refine cg ?_|simp -dsimp[RW.len H2,RW.closed H2,h4,z6,↓e7]
   apply oB hF;intro v e8 hF
   refine((C.laws_toCtor__f B hB1 hB2 x v e8)).go1 (by simp -dsimp[RW.len H2,RW.closed H2,h4,z6,↓e7]) (by simp) (fun h o_h=> ?_)
   apply oB hF;intro x9 e10 hF
   have le10:=ZA e10
   obtain⟨row11,hrow11,lrow11⟩:=RW.row H2 le10
   have w12:i64.wrap ((i:Int)+1)=(i:Int)+1:=ZD (by omega) (by omega)
   repeat first|refine cg ?_|simp -dsimp[RW.len H2,RW.closed H2,h4,z6,↓e7,o_h,↓e10,hrow11,lrow11,w12]
   refine aG ⟨[(0,.arr (zB zN a)),(3,.own 1 (zA (α:=Ctor) (out.set i v))),(4,.lit (.int .i64 ((i+1):Int)))],[.pack [] [],.elems 3 (R.set i [.lit (.string v.name),.lit h,.lit (.int .i64 v.index)]),.pack (List.flatten (zB zN (out.set i v))) (ZIP 3 i U [.string v.name,h,.int .i64 v.index])]⟩ (by refine yT (yV (c:=zN) (y:=v) 2 [3] (by exact rfl) e10 (by simp) H2 (by simp) (.lit (.string v.name) (.pk 3 (by exact rfl) (.lit (.int .i64 v.index) .nil))) (by simp) (by decide)) ?_;exact(gT (by simp) (by simp -dsimp[RW.len H2,RW.closed H2,h4,z6,↓e7,o_h,↓e10,hrow11,lrow11,w12]))) ?_
   exact(ih_laws_toCtorS__f_l1 (out.set i v) (i+1) o hF) (R.set i [.lit (.string v.name),.lit h,.lit (.int .i64 v.index)]) (ZIP 3 i U [.string v.name,h,.int .i64 v.index]) ((RW.set H2 le10 [.string v.name,h,.int .i64 v.index] rfl).cong (by simp) (by simp) rfl) _ rfl _ hq
  ·have z6:¬((i:Int)<(a.length:Int)):=auz
   cases hF
   repeat first|refine cg ?_|simp -dsimp[RW.len H2,RW.closed H2,h4,q5,z6]
   refine lG ⟨[(3,.own 1 (zA (α:=Ctor) out))],[.pack [] [],.elems 3 R,.pack (List.flatten (zB zN out)) U]⟩ (gT (by simp) (by simp -dsimp[RW.len H2,RW.closed H2,h4,q5,z6])) ?_
   exact hq R U H2
theorem C.laws_toCtorS__f (a:List Ctor)(r:List Ctor)(hF:yF a=some r):FCall zQ B 72 [am zN a] (am zN r):=by
 unfold yF at hF
 refine FCall.enterG func72 (by kernel_rfl) rfl ntmps72 (by simp) (yU .nil) ?_
 apply oC hF;intro c1 hF
 refine kB hF fun o' ho13 hF=> ?_
 refine zL ⟨[(0,.arr (zB zN a)),(3,.own 1 (zA (α:=Ctor) (zC a.length zO))),(4,.lit (.int .i64 0))],[.pack [] [],.elems 3 (zC a.length [.lit (.string zF),.lit (.slice none 0 0),.lit (.int .i64 0)]),.pack (List.flatten (zB zN (zC a.length zO))) (List.flatten (zC a.length [.string zF,.slice none 0 0,.int .i64 0]))]⟩ (by refine yT (yU (ZC.rep (.lit (.string zF) (.emp none (.lit (.int .i64 0) .nil))) a.length)) ?_;exact(gT (by simp) (by simp -dsimp))) ?_
 refine((CC.laws_toCtorS__f_l1 B hB1 hB2 a) (zC a.length zO) 0 o' ho13) (zC a.length [.lit (.string zF),.lit (.slice none 0 0),.lit (.int .i64 0)]) (List.flatten (zC a.length [.string zF,.slice none 0 0,.int .i64 0])) ((RW.rep a.length [.string zF,.slice none 0 0,.int .i64 0]).cong (by simp) (by simp) rfl) _ rfl _ ?_
 intro Rq Uq Hq3
 cases hF
 repeat first|refine cg ?_|simp -dsimp[RW.len Hq3,RW.closed Hq3]
 exact⟨_,by decide,(.cell (.ownP 1 _ 3 rfl (by simp) (.blk 2 rfl .nil) (by simp[Hq3.2.2]) (by simp[Hq3.1]) (by simp) (by simp) .nil) .nil:CT _ _ _ _)⟩
theorem C.laws_toData__f (a:zP)(r:zP)(hF:yE a=some r):FCall zQ B 36 [.agg [.lit (.string a.name),am zN a.ctors]] (.agg [.lit (.string r.name),am zN r.ctors]):=by
 unfold yE at hF
 refine FCall.enterG func36 (by kernel_rfl) rfl ntmps36 (by simp) (yU .nil) ?_
 refine kB hF fun v e1 hF=> ?_
 refine((C.laws_toCtorS__f B hB1 hB2 a.ctors v e1)).go1 (by simp -dsimp) (by simp) (fun h o_h=> ?_)
 cases hF
 refine kx1 o_h ?_
 exact⟨_,by decide,(.agg (.lit _ (.pk 4 rfl .nil)) .nil:CT _ _ _ _)⟩
theorem CC.laws_toDataS__f_l1 (a:List zP):(∀(out:List zP) (i:Nat) (o:List zP),yD a out i=some o->∀(R:List (List AV)),∀(U:List Value),RW 2 (zA (α:=zP) out) R U->∀(c:Code),ZQ [1,1,0,1,0,0] (ZG Tryz.f10)=some c->∀(Q:Exit->ASt->Prop),(∀(Rq:List (List AV)) (Uq:List Value),RW 2 (zA (α:=zP) o) Rq Uq->Q (.exit 0) ⟨[(3,.own 1 (zA (α:=zP) o))],[.pack [] [],.elems 2 Rq,.pack (List.flatten (zB zR o)) Uq]⟩)->ALoopU zQ B 0 23 (hold c .mk) ⟨[(0,am zR a),(3,.own 1 (zA (α:=zP) out)),(4,li (i:Int))],[.pack [] [],.elems 2 R,.pack (List.flatten (zB zR out)) U]⟩ (hold Q .mk)):=by
 refine F.f25.partial_correctness a
  _
  ?_
 ·intro _f_laws_toDataS__f_l1 ih_laws_toDataS__f_l1 out i o hF
  intro R U H2 c hc Q hq
  obtain rfl:c=_:=ZAI hc rfl
  refine xA fun hk hs=> ?_
  have b0:=hk 0
  simp -dsimp at b0
  have d1:=hs 1 _ rfl
  simp -dsimp[yK]at d1
  clear hk hs
  refine eN ?_
  repeat first|refine cg ?_|simp -dsimp[RW.len H2,RW.closed H2]
  revert hF;refine aS ?_ ?_<;>intro h4 q5 hF
  ·have z6:((i:Int)<(a.length:Int)):=auz
   apply oB hF;intro x e7 hF
   have le7:=ZA e7
   repeat first|refine cg ?_|simp -dsimp[RW.len H2,RW.closed H2,h4,z6,↓e7]
   apply oB hF;intro v e8 hF
   refine((C.laws_toData__f B hB1 hB2 x v e8)).go1 (by simp -dsimp[RW.len H2,RW.closed H2,h4,z6,↓e7]) (by simp) (fun h o_h=> ?_)
   apply oB hF;intro x9 e10 hF
   have le10:=ZA e10
   obtain⟨row11,hrow11,lrow11⟩:=RW.row H2 le10
   have w12:i64.wrap ((i:Int)+1)=(i:Int)+1:=ZD (by omega) (by omega)
   repeat first|refine cg ?_|simp -dsimp[RW.len H2,RW.closed H2,h4,z6,↓e7,o_h,↓e10,hrow11,lrow11,w12]
   refine aG ⟨[(0,.arr (zB zR a)),(3,.own 1 (zA (α:=zP) (out.set i v))),(4,.lit (.int .i64 ((i+1):Int)))],[.pack [] [],.elems 2 (R.set i [.lit (.string v.name),.lit h]),.pack (List.flatten (zB zR (out.set i v))) (ZIP 2 i U [.string v.name,h])]⟩ (by refine yT (yV (c:=zR) (y:=v) 2 [3] (by exact rfl) e10 (by simp) H2 (by simp) (.lit (.string v.name) (.pk 3 (by exact rfl) .nil)) (by simp) (by decide)) ?_;exact(gT (by simp) (by simp -dsimp[RW.len H2,RW.closed H2,h4,z6,↓e7,o_h,↓e10,hrow11,lrow11,w12]))) ?_
   exact(ih_laws_toDataS__f_l1 (out.set i v) (i+1) o hF) (R.set i [.lit (.string v.name),.lit h]) (ZIP 2 i U [.string v.name,h]) ((RW.set H2 le10 [.string v.name,h] rfl).cong (by simp) (by simp) rfl) _ rfl _ hq
  ·have z6:¬((i:Int)<(a.length:Int)):=auz
   cases hF
   repeat first|refine cg ?_|simp -dsimp[RW.len H2,RW.closed H2,h4,q5,z6]
   refine lG ⟨[(3,.own 1 (zA (α:=zP) out))],[.pack [] [],.elems 2 R,.pack (List.flatten (zB zR out)) U]⟩ (gT (by simp) (by simp -dsimp[RW.len H2,RW.closed H2,h4,q5,z6])) ?_
   exact hq R U H2
theorem C.laws_toDataS__f (a:List zP)(r:List zP)(hF:yC a=some r):FCall zQ B 10 [am zR a] (am zR r):=by
 unfold yC at hF
 refine FCall.enterG func10 (by kernel_rfl) rfl ntmps10 (by simp) (yU .nil) ?_
 apply oC hF;intro c1 hF
 refine kB hF fun o' ho13 hF=> ?_
 refine zL ⟨[(0,.arr (zB zR a)),(3,.own 1 (zA (α:=zP) (zC a.length zS))),(4,.lit (.int .i64 0))],[.pack [] [],.elems 2 (zC a.length [.lit (.string zF),.lit (.slice none 0 0)]),.pack (List.flatten (zB zR (zC a.length zS))) (List.flatten (zC a.length [.string zF,.slice none 0 0]))]⟩ (by refine yT (yU (ZC.rep (.lit (.string zF) (.emp none .nil)) a.length)) ?_;exact(gT (by simp) (by simp -dsimp))) ?_
 refine((CC.laws_toDataS__f_l1 B hB1 hB2 a) (zC a.length zS) 0 o' ho13) (zC a.length [.lit (.string zF),.lit (.slice none 0 0)]) (List.flatten (zC a.length [.string zF,.slice none 0 0])) ((RW.rep a.length [.string zF,.slice none 0 0]).cong (by simp) (by simp) rfl) _ rfl _ ?_
 intro Rq Uq Hq3
 cases hF
 repeat first|refine cg ?_|simp -dsimp[RW.len Hq3,RW.closed Hq3]
 exact⟨_,by decide,(.cell (.ownP 1 _ 2 rfl (by simp) (.blk 2 rfl .nil) (by simp[Hq3.2.2]) (by simp[Hq3.1]) (by simp) (by simp) .nil) .nil:CT _ _ _ _)⟩
theorem CC.laws_toPattern__f  :(∀(a:Pattern) (r:Pattern),yB a=some r->FCall zQ B 73 [.agg [li a.op,li a.ctor,li a.n,li a.m,li a.var,am zT a.kids]] (.agg [li r.op,li r.ctor,li r.n,li r.m,li r.var,am zT r.kids]))/\
  (∀(a:List Pattern) (r:List Pattern),F.f28 a=some r->FCall zQ B 114 [am zT a] (am zT r))/\
  (∀(a:List Pattern) (out:List Pattern) (i:Nat) (o:List Pattern),F.f29 a out i=some o->∀(R:List (List AV)),∀(U:List Value),RW 6 (zA (α:=Pattern) out) R U->∀(c:Code),ZQ [1,1,0,1,0,0] (ZG Tryz.f114)=some c->∀(Q:Exit->ASt->Prop),(∀(Rq:List (List AV)) (Uq:List Value),RW 6 (zA (α:=Pattern) o) Rq Uq->Q (.exit 0) ⟨[(3,.own 1 (zA (α:=Pattern) o))],[.pack [] [],.elems 6 Rq,.pack (List.flatten (zB zT o)) Uq]⟩)->ALoopU zQ B 0 23 (hold c .mk) ⟨[(0,am zT a),(3,.own 1 (zA (α:=Pattern) out)),(4,li (i:Int))],[.pack [] [],.elems 6 R,.pack (List.flatten (zB zT out)) U]⟩ (hold Q .mk)):=by
 refine F.f27.mutual_partial_correctness 
  _ _ _
  ?_ ?_ ?_
 ·intro _f_laws_toPatternS__f ih_laws_toPatternS__f a r hF
  refine FCall.enterG func73 (by kernel_rfl) rfl ntmps73 (by simp) (yU .nil) ?_
  refine kB hF fun v e1 hF=> ?_
  refine((ih_laws_toPatternS__f a.kids v e1)).go1 (by simp -dsimp) (by simp) (fun h o_h=> ?_)
  cases hF
  refine kx1 o_h ?_
  exact⟨_,by decide,(.agg (.lit _ (.lit _ (.lit _ (.lit _ (.lit _ (.pk 4 rfl .nil)))))) .nil:CT _ _ _ _)⟩
 ·intro _f_laws_toPatternS__f_l1 ih_laws_toPatternS__f_l1 a r hF
  refine FCall.enterG func114 (by kernel_rfl) rfl ntmps114 (by simp) (yU .nil) ?_
  apply oC hF;intro c1 hF
  refine kB hF fun o' ho13 hF=> ?_
  refine zL ⟨[(0,.arr (zB zT a)),(3,.own 1 (zA (α:=Pattern) (zC a.length zU))),(4,.lit (.int .i64 0))],[.pack [] [],.elems 6 (zC a.length [.lit (.int .i64 0),.lit (.int .i64 0),.lit (.int .i64 0),.lit (.int .i64 0),.lit (.int .i64 0),.lit (.slice none 0 0)]),.pack (List.flatten (zB zT (zC a.length zU))) (List.flatten (zC a.length [.int .i64 0,.int .i64 0,.int .i64 0,.int .i64 0,.int .i64 0,.slice none 0 0]))]⟩ (by refine yT (yU (ZC.rep (.lit (.int .i64 0) (.lit (.int .i64 0) (.lit (.int .i64 0) (.lit (.int .i64 0) (.lit (.int .i64 0) (.emp none .nil)))))) a.length)) ?_;exact(gT (by simp) (by simp -dsimp))) ?_
  refine(ih_laws_toPatternS__f_l1 a (zC a.length zU) 0 o' ho13) (zC a.length [.lit (.int .i64 0),.lit (.int .i64 0),.lit (.int .i64 0),.lit (.int .i64 0),.lit (.int .i64 0),.lit (.slice none 0 0)]) (List.flatten (zC a.length [.int .i64 0,.int .i64 0,.int .i64 0,.int .i64 0,.int .i64 0,.slice none 0 0])) ((RW.rep a.length [.int .i64 0,.int .i64 0,.int .i64 0,.int .i64 0,.int .i64 0,.slice none 0 0]).cong (by simp) (by simp) rfl) _ rfl _ ?_
  intro Rq Uq Hq3
  cases hF
  repeat first|refine cg ?_|simp -dsimp[RW.len Hq3,RW.closed Hq3]
  exact⟨_,by decide,(.cell (.ownP 1 _ 6 rfl (by simp) (.blk 2 rfl .nil) (by simp[Hq3.2.2]) (by simp[Hq3.1]) (by simp) (by simp) .nil) .nil:CT _ _ _ _)⟩
 ·intro _f_laws_toPattern__f _f_laws_toPatternS__f_l1 ih_laws_toPattern__f ih_laws_toPatternS__f_l1 a out i o hF
  intro R U H2 c hc Q hq
  obtain rfl:c=_:=ZAI hc rfl
  refine xA fun hk hs=> ?_
  have b0:=hk 0
  simp -dsimp at b0
  have d1:=hs 1 _ rfl
  simp -dsimp[yK]at d1
  clear hk hs
  refine eN ?_
  repeat first|refine cg ?_|simp -dsimp[RW.len H2,RW.closed H2]
  revert hF;refine aS ?_ ?_<;>intro h4 q5 hF
  ·have z6:((i:Int)<(a.length:Int)):=auz
   apply oB hF;intro x e7 hF
   have le7:=ZA e7
   repeat first|refine cg ?_|simp -dsimp[RW.len H2,RW.closed H2,h4,z6,↓e7]
   apply oB hF;intro v e8 hF
   refine((ih_laws_toPattern__f x v e8)).go1 (by simp -dsimp[RW.len H2,RW.closed H2,h4,z6,↓e7]) (by simp) (fun h o_h=> ?_)
   apply oB hF;intro x9 e10 hF
   have le10:=ZA e10
   obtain⟨row11,hrow11,lrow11⟩:=RW.row H2 le10
   have w12:i64.wrap ((i:Int)+1)=(i:Int)+1:=ZD (by omega) (by omega)
   repeat first|refine cg ?_|simp -dsimp[RW.len H2,RW.closed H2,h4,z6,↓e7,o_h,↓e10,hrow11,lrow11,w12]
   refine aG ⟨[(0,.arr (zB zT a)),(3,.own 1 (zA (α:=Pattern) (out.set i v))),(4,.lit (.int .i64 ((i+1):Int)))],[.pack [] [],.elems 6 (R.set i [.lit (.int .i64 v.op),.lit (.int .i64 v.ctor),.lit (.int .i64 v.n),.lit (.int .i64 v.m),.lit (.int .i64 v.var),.lit h]),.pack (List.flatten (zB zT (out.set i v))) (ZIP 6 i U [.int .i64 v.op,.int .i64 v.ctor,.int .i64 v.n,.int .i64 v.m,.int .i64 v.var,h])]⟩ (by refine yT (yV (c:=zT) (y:=v) 2 [3] (by exact rfl) e10 (by simp) H2 (by simp) (.lit (.int .i64 v.op) (.lit (.int .i64 v.ctor) (.lit (.int .i64 v.n) (.lit (.int .i64 v.m) (.lit (.int .i64 v.var) (.pk 3 (by exact rfl) .nil)))))) (by simp) (by decide)) ?_;exact(gT (by simp) (by simp -dsimp[RW.len H2,RW.closed H2,h4,z6,↓e7,o_h,↓e10,hrow11,lrow11,w12]))) ?_
   exact(ih_laws_toPatternS__f_l1 a (out.set i v) (i+1) o hF) (R.set i [.lit (.int .i64 v.op),.lit (.int .i64 v.ctor),.lit (.int .i64 v.n),.lit (.int .i64 v.m),.lit (.int .i64 v.var),.lit h]) (ZIP 6 i U [.int .i64 v.op,.int .i64 v.ctor,.int .i64 v.n,.int .i64 v.m,.int .i64 v.var,h]) ((RW.set H2 le10 [.int .i64 v.op,.int .i64 v.ctor,.int .i64 v.n,.int .i64 v.m,.int .i64 v.var,h] rfl).cong (by simp) (by simp) rfl) _ rfl _ hq
  ·have z6:¬((i:Int)<(a.length:Int)):=auz
   cases hF
   repeat first|refine cg ?_|simp -dsimp[RW.len H2,RW.closed H2,h4,q5,z6]
   refine lG ⟨[(3,.own 1 (zA (α:=Pattern) out))],[.pack [] [],.elems 6 R,.pack (List.flatten (zB zT out)) U]⟩ (gT (by simp) (by simp -dsimp[RW.len H2,RW.closed H2,h4,q5,z6])) ?_
   exact hq R U H2
theorem C.laws_toClause__f (a:Clause)(r:Clause)(hF:yA a=some r):FCall zQ B 37 [.agg [li a.pat.op,li a.pat.ctor,li a.pat.n,li a.pat.m,li a.pat.var,am zT a.pat.kids,li a.guard.op,li a.guard.var,li a.guard.n]] (.agg [li r.pat.op,li r.pat.ctor,li r.pat.n,li r.pat.m,li r.pat.var,am zT r.pat.kids,li r.guard.op,li r.guard.var,li r.guard.n]):=by
 unfold yA at hF
 refine FCall.enterG func37 (by kernel_rfl) rfl ntmps37 (by simp) (yU .nil) ?_
 refine kB hF fun v e1 hF=> ?_
 refine(((CC.laws_toPattern__f B hB1 hB2).1 a.pat v e1)).go1 (by simp -dsimp) (by simp) (fun h o_h=> ?_)
 refine kx1 o_h ?_
 apply oB hF;intro v2 e3 hF
 refine((C.f30 B hB1 hB2 a.guard v2 e3)).goI ?_
 cases hF
 refine kx0 ?_
 exact⟨_,by decide,(.agg (.lit _ (.lit _ (.lit _ (.lit _ (.lit _ (.pk 4 rfl (.lit _ (.lit _ (.lit _ .nil))))))))) .nil:CT _ _ _ _)⟩
theorem CC.laws_toClauseS__f_l1 (a:List Clause):(∀(out:List Clause) (i:Nat) (o:List Clause),zZ a out i=some o->∀(R:List (List AV)),∀(U:List Value),RW 9 (zA (α:=Clause) out) R U->∀(c:Code),ZQ [1,1,0,1,0,0] (ZG Tryz.f12)=some c->∀(Q:Exit->ASt->Prop),(∀(Rq:List (List AV)) (Uq:List Value),RW 9 (zA (α:=Clause) o) Rq Uq->Q (.exit 0) ⟨[(3,.own 1 (zA (α:=Clause) o))],[.pack [] [],.elems 9 Rq,.pack (List.flatten (zB zV o)) Uq]⟩)->ALoopU zQ B 0 23 (hold c .mk) ⟨[(0,am zV a),(3,.own 1 (zA (α:=Clause) out)),(4,li (i:Int))],[.pack [] [],.elems 9 R,.pack (List.flatten (zB zV out)) U]⟩ (hold Q .mk)):=by
 refine F.f32.partial_correctness a
  _
  ?_
 ·intro _f_laws_toClauseS__f_l1 ih_laws_toClauseS__f_l1 out i o hF
  intro R U H2 c hc Q hq
  obtain rfl:c=_:=ZAI hc rfl
  refine xA fun hk hs=> ?_
  have b0:=hk 0
  simp -dsimp at b0
  have d1:=hs 1 _ rfl
  simp -dsimp[yK]at d1
  clear hk hs
  refine eN ?_
  repeat first|refine cg ?_|simp -dsimp[RW.len H2,RW.closed H2]
  revert hF;refine aS ?_ ?_<;>intro h4 q5 hF
  ·have z6:((i:Int)<(a.length:Int)):=auz
   apply oB hF;intro x e7 hF
   have le7:=ZA e7
   repeat first|refine cg ?_|simp -dsimp[RW.len H2,RW.closed H2,h4,z6,↓e7]
   apply oB hF;intro v e8 hF
   refine((C.laws_toClause__f B hB1 hB2 x v e8)).go1 (by simp -dsimp[RW.len H2,RW.closed H2,h4,z6,↓e7]) (by simp) (fun h o_h=> ?_)
   apply oB hF;intro x9 e10 hF
   have le10:=ZA e10
   obtain⟨row11,hrow11,lrow11⟩:=RW.row H2 le10
   have w12:i64.wrap ((i:Int)+1)=(i:Int)+1:=ZD (by omega) (by omega)
   repeat first|refine cg ?_|simp -dsimp[RW.len H2,RW.closed H2,h4,z6,↓e7,o_h,↓e10,hrow11,lrow11,w12]
   refine aG ⟨[(0,.arr (zB zV a)),(3,.own 1 (zA (α:=Clause) (out.set i v))),(4,.lit (.int .i64 ((i+1):Int)))],[.pack [] [],.elems 9 (R.set i [.lit (.int .i64 v.pat.op),.lit (.int .i64 v.pat.ctor),.lit (.int .i64 v.pat.n),.lit (.int .i64 v.pat.m),.lit (.int .i64 v.pat.var),.lit h,.lit (.int .i64 v.guard.op),.lit (.int .i64 v.guard.var),.lit (.int .i64 v.guard.n)]),.pack (List.flatten (zB zV (out.set i v))) (ZIP 9 i U [.int .i64 v.pat.op,.int .i64 v.pat.ctor,.int .i64 v.pat.n,.int .i64 v.pat.m,.int .i64 v.pat.var,h,.int .i64 v.guard.op,.int .i64 v.guard.var,.int .i64 v.guard.n])]⟩ (by refine yT (yV (c:=zV) (y:=v) 2 [3] (by exact rfl) e10 (by simp) H2 (by simp) (.lit (.int .i64 v.pat.op) (.lit (.int .i64 v.pat.ctor) (.lit (.int .i64 v.pat.n) (.lit (.int .i64 v.pat.m) (.lit (.int .i64 v.pat.var) (.pk 3 (by exact rfl) (.lit (.int .i64 v.guard.op) (.lit (.int .i64 v.guard.var) (.lit (.int .i64 v.guard.n) .nil))))))))) (by simp) (by decide)) ?_;exact(gT (by simp) (by simp -dsimp[RW.len H2,RW.closed H2,h4,z6,↓e7,o_h,↓e10,hrow11,lrow11,w12]))) ?_
   exact(ih_laws_toClauseS__f_l1 (out.set i v) (i+1) o hF) (R.set i [.lit (.int .i64 v.pat.op),.lit (.int .i64 v.pat.ctor),.lit (.int .i64 v.pat.n),.lit (.int .i64 v.pat.m),.lit (.int .i64 v.pat.var),.lit h,.lit (.int .i64 v.guard.op),.lit (.int .i64 v.guard.var),.lit (.int .i64 v.guard.n)]) (ZIP 9 i U [.int .i64 v.pat.op,.int .i64 v.pat.ctor,.int .i64 v.pat.n,.int .i64 v.pat.m,.int .i64 v.pat.var,h,.int .i64 v.guard.op,.int .i64 v.guard.var,.int .i64 v.guard.n]) ((RW.set H2 le10 [.int .i64 v.pat.op,.int .i64 v.pat.ctor,.int .i64 v.pat.n,.int .i64 v.pat.m,.int .i64 v.pat.var,h,.int .i64 v.guard.op,.int .i64 v.guard.var,.int .i64 v.guard.n] rfl).cong (by simp) (by simp) rfl) _ rfl _ hq
  ·have z6:¬((i:Int)<(a.length:Int)):=auz
   cases hF
   repeat first|refine cg ?_|simp -dsimp[RW.len H2,RW.closed H2,h4,q5,z6]
   refine lG ⟨[(3,.own 1 (zA (α:=Clause) out))],[.pack [] [],.elems 9 R,.pack (List.flatten (zB zV out)) U]⟩ (gT (by simp) (by simp -dsimp[RW.len H2,RW.closed H2,h4,q5,z6])) ?_
   exact hq R U H2
theorem C.laws_toClauseS__f (a:List Clause)(r:List Clause)(hF:zY a=some r):FCall zQ B 12 [am zV a] (am zV r):=by
 unfold zY at hF
 refine FCall.enterG func12 (by kernel_rfl) rfl ntmps12 (by simp) (yU .nil) ?_
 apply oC hF;intro c1 hF
 refine kB hF fun o' ho13 hF=> ?_
 refine zL ⟨[(0,.arr (zB zV a)),(3,.own 1 (zA (α:=Clause) (zC a.length zW))),(4,.lit (.int .i64 0))],[.pack [] [],.elems 9 (zC a.length [.lit (.int .i64 0),.lit (.int .i64 0),.lit (.int .i64 0),.lit (.int .i64 0),.lit (.int .i64 0),.lit (.slice none 0 0),.lit (.int .i64 0),.lit (.int .i64 0),.lit (.int .i64 0)]),.pack (List.flatten (zB zV (zC a.length zW))) (List.flatten (zC a.length [.int .i64 0,.int .i64 0,.int .i64 0,.int .i64 0,.int .i64 0,.slice none 0 0,.int .i64 0,.int .i64 0,.int .i64 0]))]⟩ (by refine yT (yU (ZC.rep (.lit (.int .i64 0) (.lit (.int .i64 0) (.lit (.int .i64 0) (.lit (.int .i64 0) (.lit (.int .i64 0) (.emp none (.lit (.int .i64 0) (.lit (.int .i64 0) (.lit (.int .i64 0) .nil))))))))) a.length)) ?_;exact(gT (by simp) (by simp -dsimp))) ?_
 refine((CC.laws_toClauseS__f_l1 B hB1 hB2 a) (zC a.length zW) 0 o' ho13) (zC a.length [.lit (.int .i64 0),.lit (.int .i64 0),.lit (.int .i64 0),.lit (.int .i64 0),.lit (.int .i64 0),.lit (.slice none 0 0),.lit (.int .i64 0),.lit (.int .i64 0),.lit (.int .i64 0)]) (List.flatten (zC a.length [.int .i64 0,.int .i64 0,.int .i64 0,.int .i64 0,.int .i64 0,.slice none 0 0,.int .i64 0,.int .i64 0,.int .i64 0])) ((RW.rep a.length [.int .i64 0,.int .i64 0,.int .i64 0,.int .i64 0,.int .i64 0,.slice none 0 0,.int .i64 0,.int .i64 0,.int .i64 0]).cong (by simp) (by simp) rfl) _ rfl _ ?_
 intro Rq Uq Hq3
 cases hF
 repeat first|refine cg ?_|simp -dsimp[RW.len Hq3,RW.closed Hq3]
 exact⟨_,by decide,(.cell (.ownP 1 _ 9 rfl (by simp) (.blk 2 rfl .nil) (by simp[Hq3.2.2]) (by simp[Hq3.1]) (by simp) (by simp) .nil) .nil:CT _ _ _ _)⟩
theorem CC.laws_toValue__f  :(∀(a:Vl.Value) (r:Vl.Value),zX a=some r->FCall zQ B 13 [.agg [li a.ctor,li a.n,am Vl.Value.c a.kids]] (.agg [li r.ctor,li r.n,am Vl.Value.c r.kids]))/\
  (∀(a:List Vl.Value) (r:List Vl.Value),F.f35 a=some r->FCall zQ B 38 [am Vl.Value.c a] (am Vl.Value.c r))/\
  (∀(a:List Vl.Value) (out:List Vl.Value) (i:Nat) (o:List Vl.Value),F.f36 a out i=some o->∀(R:List (List AV)),∀(U:List Value),RW 3 (zA (α:=Vl.Value) out) R U->∀(c:Code),ZQ [1,1,0,1,0,0] (ZG Tryz.f38)=some c->∀(Q:Exit->ASt->Prop),(∀(Rq:List (List AV)) (Uq:List Value),RW 3 (zA (α:=Vl.Value) o) Rq Uq->Q (.exit 0) ⟨[(3,.own 1 (zA (α:=Vl.Value) o))],[.pack [] [],.elems 3 Rq,.pack (List.flatten (zB Vl.Value.c o)) Uq]⟩)->ALoopU zQ B 0 23 (hold c .mk) ⟨[(0,am Vl.Value.c a),(3,.own 1 (zA (α:=Vl.Value) out)),(4,li (i:Int))],[.pack [] [],.elems 3 R,.pack (List.flatten (zB Vl.Value.c out)) U]⟩ (hold Q .mk)):=by
 refine F.f34.mutual_partial_correctness 
  _ _ _
  ?_ ?_ ?_
 ·intro _f_laws_toValueS__f ih_laws_toValueS__f a r hF
  refine FCall.enterG func13 (by kernel_rfl) rfl ntmps13 (by simp) (yU .nil) ?_
  refine kB hF fun v e1 hF=> ?_
  refine((ih_laws_toValueS__f a.kids v e1)).go1 (by simp -dsimp) (by simp) (fun h o_h=> ?_)
  cases hF
  refine kx1 o_h ?_
  exact⟨_,by decide,(.agg (.lit _ (.lit _ (.pk 4 rfl .nil))) .nil:CT _ _ _ _)⟩
 ·intro _f_laws_toValueS__f_l1 ih_laws_toValueS__f_l1 a r hF
  refine FCall.enterG func38 (by kernel_rfl) rfl ntmps38 (by simp) (yU .nil) ?_
  apply oC hF;intro c1 hF
  refine kB hF fun o' ho13 hF=> ?_
  refine zL ⟨[(0,.arr (zB Vl.Value.c a)),(3,.own 1 (zA (α:=Vl.Value) (zC a.length Vl.Value.z))),(4,.lit (.int .i64 0))],[.pack [] [],.elems 3 (zC a.length [.lit (.int .i64 0),.lit (.int .i64 0),.lit (.slice none 0 0)]),.pack (List.flatten (zB Vl.Value.c (zC a.length Vl.Value.z))) (List.flatten (zC a.length [.int .i64 0,.int .i64 0,.slice none 0 0]))]⟩ (by refine yT (yU (ZC.rep (.lit (.int .i64 0) (.lit (.int .i64 0) (.emp none .nil))) a.length)) ?_;exact(gT (by simp) (by simp -dsimp))) ?_
  refine(ih_laws_toValueS__f_l1 a (zC a.length Vl.Value.z) 0 o' ho13) (zC a.length [.lit (.int .i64 0),.lit (.int .i64 0),.lit (.slice none 0 0)]) (List.flatten (zC a.length [.int .i64 0,.int .i64 0,.slice none 0 0])) ((RW.rep a.length [.int .i64 0,.int .i64 0,.slice none 0 0]).cong (by simp) (by simp) rfl) _ rfl _ ?_
  intro Rq Uq Hq3
  cases hF
  repeat first|refine cg ?_|simp -dsimp[RW.len Hq3,RW.closed Hq3]
  exact⟨_,by decide,(.cell (.ownP 1 _ 3 rfl (by simp) (.blk 2 rfl .nil) (by simp[Hq3.2.2]) (by simp[Hq3.1]) (by simp) (by simp) .nil) .nil:CT _ _ _ _)⟩
 ·intro _f_laws_toValue__f _f_laws_toValueS__f_l1 ih_laws_toValue__f ih_laws_toValueS__f_l1 a out i o hF
  intro R U H2 c hc Q hq
  obtain rfl:c=_:=ZAI hc rfl
  refine xA fun hk hs=> ?_
  have b0:=hk 0
  simp -dsimp at b0
  have d1:=hs 1 _ rfl
  simp -dsimp[yK]at d1
  clear hk hs
  refine eN ?_
  repeat first|refine cg ?_|simp -dsimp[RW.len H2,RW.closed H2]
  revert hF;refine aS ?_ ?_<;>intro h4 q5 hF
  ·have z6:((i:Int)<(a.length:Int)):=auz
   apply oB hF;intro x e7 hF
   have le7:=ZA e7
   repeat first|refine cg ?_|simp -dsimp[RW.len H2,RW.closed H2,h4,z6,↓e7]
   apply oB hF;intro v e8 hF
   refine((ih_laws_toValue__f x v e8)).go1 (by simp -dsimp[RW.len H2,RW.closed H2,h4,z6,↓e7]) (by simp) (fun h o_h=> ?_)
   apply oB hF;intro x9 e10 hF
   have le10:=ZA e10
   obtain⟨row11,hrow11,lrow11⟩:=RW.row H2 le10
   have w12:i64.wrap ((i:Int)+1)=(i:Int)+1:=ZD (by omega) (by omega)
   repeat first|refine cg ?_|simp -dsimp[RW.len H2,RW.closed H2,h4,z6,↓e7,o_h,↓e10,hrow11,lrow11,w12]
   refine aG ⟨[(0,.arr (zB Vl.Value.c a)),(3,.own 1 (zA (α:=Vl.Value) (out.set i v))),(4,.lit (.int .i64 ((i+1):Int)))],[.pack [] [],.elems 3 (R.set i [.lit (.int .i64 v.ctor),.lit (.int .i64 v.n),.lit h]),.pack (List.flatten (zB Vl.Value.c (out.set i v))) (ZIP 3 i U [.int .i64 v.ctor,.int .i64 v.n,h])]⟩ (by refine yT (yV (c:=Vl.Value.c) (y:=v) 2 [3] (by exact rfl) e10 (by simp) H2 (by simp) (.lit (.int .i64 v.ctor) (.lit (.int .i64 v.n) (.pk 3 (by exact rfl) .nil))) (by simp) (by decide)) ?_;exact(gT (by simp) (by simp -dsimp[RW.len H2,RW.closed H2,h4,z6,↓e7,o_h,↓e10,hrow11,lrow11,w12]))) ?_
   exact(ih_laws_toValueS__f_l1 a (out.set i v) (i+1) o hF) (R.set i [.lit (.int .i64 v.ctor),.lit (.int .i64 v.n),.lit h]) (ZIP 3 i U [.int .i64 v.ctor,.int .i64 v.n,h]) ((RW.set H2 le10 [.int .i64 v.ctor,.int .i64 v.n,h] rfl).cong (by simp) (by simp) rfl) _ rfl _ hq
  ·have z6:¬((i:Int)<(a.length:Int)):=auz
   cases hF
   repeat first|refine cg ?_|simp -dsimp[RW.len H2,RW.closed H2,h4,q5,z6]
   refine lG ⟨[(3,.own 1 (zA (α:=Vl.Value) out))],[.pack [] [],.elems 3 R,.pack (List.flatten (zB Vl.Value.c out)) U]⟩ (gT (by simp) (by simp -dsimp[RW.len H2,RW.closed H2,h4,q5,z6])) ?_
   exact hq R U H2
theorem C.f128 (n:Int)(low:Int)(high:Int)(r:Bool)(hF:F.f128 n low high=some r):PureCall zQ B 124 [li n,li low,li high] (.lit (.bool r)):=by
 unfold F.f128 at hF
 refine zI func124 rfl ntmps124 ?_
 revert hF;refine kS ?_ ?_<;>intro h1 q2 hF
 ·cases hF
  exact kc1 h1
 ·cases hF
  exact kc1 q2
theorem CC.f129 (s:ByteArray):(∀(i:Nat) (o:Lo Bool Unit),F.f129 s i=some o->∀(c:Code),ZQ [1,1,0,1,0,0] (ZG Tryz.f200)=some c->∀(Q:Exit->ASt->Prop),o.post (fun r=>∀st,ZAB zQ Tryz.f200 (fun r' _=>r'.le (.lit (.bool r))) .ret st->Q .ret st) (fun s=>Q (.exit 0) ⟨[],[]⟩)->ALoopU zQ B 0 34 (hold c .mk) ⟨[(0,.lit (.string s)),(3,li (i:Int))],[]⟩ (hold Q .mk)):=by
 refine F.f129.partial_correctness s
  _
  ?_
 ·intro _f_f129 ih_f129 i o hF
  refine ZI rfl fun Q hq hk hs=> ?_
  clear hk hs
  refine eN ?_
  revert hF;refine kS ?_ ?_<;>intro h11 q12 hF
  ·have z13:((i:Int)<(s.size:Int)):=auz
   refine kx2 h11 z13 ?_
   revert hF;refine aN ?_ ?_<;>intro h14 q15 hF
   ·have z16:¬(((byteAt s i:Nat):Int)<97):=auz
    refine kx5 h11 z13 h14 q15 z16 ?_
    revert hF;refine aS ?_ ?_<;>intro h17 q18 hF
    ·have z19:(122<((byteAt s i:Nat):Int)):=auz
     cases hF
     refine kx7 h11 z13 h14 q15 z16 h17 z19 ?_
     refine lG _ (gR _) (hq _ ?_)
     exact kc7 h11 z13 h14 q15 z16 h17 z19
    ·have z19:¬(122<((byteAt s i:Nat):Int)):=auz
     apply oC hF;intro c20 hF
     have w21:i64.wrap ((i:Int)+1)=(i:Int)+1:=ZD (by omega) (by omega)
     refine kx9 h11 z13 h14 q15 z16 h17 q18 z19 w21 ?_
     refine zG ((ih_f129 (i+1) o hF) _ rfl _ hq)
   ·have z16:(((byteAt s i:Nat):Int)<97):=auz
    cases hF
    refine kx5 h11 z13 h14 q15 z16 ?_
    refine lG _ (gR _) (hq _ ?_)
    exact kc5 h11 z13 h14 q15 z16
  ·have z13:¬((i:Int)<(s.size:Int)):=auz
   cases hF
   refine kx3 h11 q12 z13 ?_
   refine zH hq
theorem C.f130 (s:ByteArray)(r:Bool)(hF:F.f130 s=some r):PureCall zQ B 200 [.lit (.string s)] (.lit (.bool r)):=by
 unfold F.f130 at hF
 refine zI func200 rfl ntmps200 ?_
 refine kB hF fun v e1 hF=> ?_
 refine((C.f128 B hB1 hB2 (s.size:Int) 1 5 v e1)).goI ?_
 revert hF;refine kS (fun h2 q3 hF=> ?_) (fun h2 q3 hF=> ?_)
 ·apply oC hF;intro c4 hF
  refine kx1 h2 ?_
  revert hF;refine aN ?_ ?_<;>intro h5 q6 hF
  ·have z7:¬(((byteAt s 0:Nat):Int)<65):=auz
   refine kx4 h2 h5 q6 z7 ?_
   revert hF;refine aS ?_ ?_<;>intro h8 q9 hF
   ·have z10:(90<((byteAt s 0:Nat):Int)):=auz
    cases hF
    exact kc6 h2 h5 q6 z7 h8 z10
   ·have z10:¬(90<((byteAt s 0:Nat):Int)):=auz
    refine kx7 h2 h5 q6 z7 h8 q9 z10 ?_
    apply oB hF;intro o' ho22 hF
    refine zK (((CC.f129 B hB1 hB2 s) 1 o' ho22) _ rfl _ ?_)
    rcases o' with r0|sx
    ·dsimp only at hF
     cases hF
     intro st h
     simpa using h
    ·dsimp only at hF
     cases hF
     exact kc0
  ·have z7:(((byteAt s 0:Nat):Int)<65):=auz
   cases hF
   exact kc4 h2 h5 q6 z7
 ·cases hF
  exact kc2 h2 q3
theorem C.f131 (w:List zP)(t:Ty)(r:Bool)(hF:F.f131 w t=some r):PureCall zQ B 203 [am zR w,.agg [li t.data,li t.index]] (.lit (.bool r)):=by
 unfold F.f131 at hF
 refine zI func203 rfl ntmps203 ?_
 revert hF;refine kN (fun h1 q2 hF=> ?_) (fun h1 q2 hF=> ?_)
 ·refine kx2 h1 q2 ?_
  apply oB hF;intro v e3 hF
  refine((C.f128 B hB1 hB2 t.data 0 (i64.wrap ((w.length:Int) -1)) v e3)).goI ?_
  refine kx2 h1 q2 ?_
  revert hF;refine aS (fun h4 q5 hF=> ?_) (fun h4 q5 hF=> ?_)
  ·refine kx3 h1 q2 h4 ?_
   apply oB hF;intro v6 e7 hF
   refine((C.f128 B hB1 hB2 t.index (-1) 3 v6 e7)).goI ?_
   cases hF
   exact kc3 h1 q2 h4
  ·cases hF
   exact kc4 h1 q2 h4 q5
 ·cases hF
  exact kc2 h1 q2
theorem C.f132 (t:Ty)(a1:List zP)(r:Bool)(hF:F.f132 t a1=some r):PureCall zQ B 202 [.agg [li t.data,li t.index],.rptr [am zR a1] 0] (.lit (.bool r)):=by
 unfold F.f132 at hF
 refine zI func202 rfl ntmps202 ?_
 refine kB hF fun v e1 hF=> ?_
 refine((C.f131 B hB1 hB2 a1 t v e1)).goI ?_
 cases hF
 exact kc0
theorem CC.f133 (s:List Ty)(k0:List zP):(∀(i:Nat) (o:Lo Int Unit),F.f133 s k0 i=some o->∀(c:Code),ZQ [1,0,1,0,0] (ZG Tryz.f213)=some c->∀(Q:Exit->ASt->Prop),o.post (fun r=>∀st,ZAB zQ Tryz.f213 (fun r' _=>r'.le (li r)) .ret st->Q .ret st) (fun s=>Q (.exit 0) ⟨[],[]⟩)->ALoopU zQ B 0 19 (hold c .mk) ⟨[(0,am zM s),(1,.fn (.func 202) [] [.rptr [am zR k0] 0]),(7,li (s.length:Int)),(8,li (i:Int))],[]⟩ (hold Q .mk)):=by
 refine F.f133.partial_correctness s k0
  _
  ?_
 ·intro _f_f133 ih_f133 i o hF
  refine ZI rfl fun Q hq hk hs=> ?_
  have b0:=hk 0
  simp -dsimp at b0
  clear hk hs
  refine eN ?_
  revert hF;refine kS ?_ ?_<;>intro h1 q2 hF
  ·have z3:((i:Int)<(s.length:Int)):=auz
   apply oB hF;intro x e4 hF
   have le4:=ZA e4
   refine ZP h1 z3 e4 ?_
   apply oB hF;intro v e5 hF
   refine((C.f132 B hB1 hB2 x k0 v e5)).goI ?_
   revert hF;refine kS (fun h6 q7 hF=> ?_) (fun h6 q7 hF=> ?_)
   ·cases hF
    refine kx1 h6 ?_
    refine lG _ (gR _) (hq _ ?_)
    exact kc0
   ·have w8:i64.wrap ((i:Int)+1)=(i:Int)+1:=ZD (by omega) (by omega)
    refine kx2 q7 w8 ?_
    refine zG ((ih_f133 (i+1) o hF) _ rfl _ hq)
  ·have z3:¬((i:Int)<(s.length:Int)):=auz
   cases hF
   refine kx3 h1 q2 z3 ?_
   refine zH hq
theorem C.f134 (s:List Ty)(k0:List zP)(r:Int)(hF:F.f134 s k0=some r):PureCall zQ B 213 [am zM s,.fn (.func 202) [] [.rptr [am zR k0] 0]] (li r):=by
 unfold F.f134 at hF
 refine zI func213 rfl ntmps213 ?_
 refine kB hF fun o' ho9 hF=> ?_
 refine zK (((CC.f133 B hB1 hB2 s k0) 0 o' ho9) _ rfl _ ?_)
 rcases o' with r0|sx
 ·dsimp only at hF
  cases hF
  intro st h
  simpa using h
 ·dsimp only at hF
  cases hF
  exact kc0
theorem C.f135 (s:List Ty)(k0:List zP)(r:Bool)(hF:F.f135 s k0=some r):PureCall zQ B 201 [am zM s,.fn (.func 202) [] [.rptr [am zR k0] 0]] (.lit (.bool r)):=by
 unfold F.f135 at hF
 refine zI func201 rfl ntmps201 ?_
 refine kB hF fun v e1 hF=> ?_
 refine((C.f134 B hB1 hB2 s k0 v e1)).goI ?_
 cases hF
 exact kc0
theorem C.f136 (w:List zP)(c':Ctor)(r:Bool)(hF:F.f136 w c'=some r):PureCall zQ B 181 [am zR w,.agg [.lit (.string c'.name),am zM c'.args,li c'.index]] (.lit (.bool r)):=by
 unfold F.f136 at hF
 refine zI func181 rfl ntmps181 ?_
 refine kB hF fun v e1 hF=> ?_
 refine((C.f130 B hB1 hB2 c'.name v e1)).goI ?_
 revert hF;refine kS (fun h2 q3 hF=> ?_) (fun h2 q3 hF=> ?_)
 ·refine kx1 h2 ?_
  revert hF;refine aS ?_ ?_<;>intro h4 q5 hF
  ·have z6:((c'.args.length:Int)<=3):=auz
   refine kx3 h2 h4 z6 ?_
   apply oB hF;intro v7 e8 hF
   refine((C.f128 B hB1 hB2 c'.index 0 3 v7 e8)).goI ?_
   refine kx3 h2 h4 z6 ?_
   revert hF;refine aS (fun h9 q10 hF=> ?_) (fun h9 q10 hF=> ?_)
   ·refine kx4 h2 h4 z6 h9 ?_
    apply oB hF;intro v11 e12 hF
    refine((C.f135 B hB1 hB2 c'.args w v11 e12)).lend (by simp -dsimp[h2,h4,z6,h9]) (by simp -dsimp) ?_
    cases hF
    exact kc4 h2 h4 z6 h9
   ·cases hF
    exact kc5 h2 h4 z6 h9 q10
  ·have z6:¬((c'.args.length:Int)<=3):=auz
   cases hF
   exact kc4 h2 h4 q5 z6
 ·cases hF
  exact kc2 h2 q3
theorem CC.f137 (w:List zP)(met4:List ByteArray)(i:Nat)(x:zP):(∀(met26:List ByteArray) (i27:Nat) (o:Lo Bool (List ByteArray)),F.f137 w met4 i x met26 i27=some o->∀(b1 b2:Nat),¬b1=b2->∀(c:Code),ZQ [1,1,1,1,0,1,0,0,1,1,0,0,1,1,1,1,0,0] (ZG Tryz.f149)=some c->∀(Q:Exit->ASt->Ms->Prop),o.post (fun r=>∀st,ZAB zQ Tryz.f149 (fun r' _=>r'=(.lit (.bool r))) .ret st->∀ms,Q .ret st ms) (fun s=>Q (.exit 2) ⟨[(0,am zR w),(3,.lit (.map (some b1))),(4,.lit (.map (some b2))),(14,am zR w),(15,li (w.length:Int)),(16,li (i:Int))],[]⟩ [(b1,s),(b2,ZCV met4 x.name)])->MLoop zQ B 79 (hold c .mk) ⟨[(0,am zR w),(3,.lit (.map (some b1))),(4,.lit (.map (some b2))),(14,am zR w),(15,li (w.length:Int)),(16,li (i:Int)),(58,am zN x.ctors),(59,li (x.ctors.length:Int)),(60,li (i27:Int))],[]⟩ [(b1,met26),(b2,ZCV met4 x.name)] (hold Q .mk)):=by
 refine F.f137.partial_correctness w met4 i x
  _
  ?_
 ·intro _f_f137 ih_f137 met26 i27 o hF
  intro b1 b2 hb2 c hc Q hq
  obtain rfl:c=_:=ZAI hc rfl
  refine MLoop.know fun hk hs=> ?_
  have b0:=hk 0
  simp -dsimp at b0
  have b14:=hk 14
  simp -dsimp at b14
  have b58:=hk 58
  simp -dsimp at b58
  clear hk hs
  refine MLoop.enter ?_
  refine kx1 hb2 ?_
  revert hF;refine aS ?_ ?_<;>intro h28 q29 hF
  ·have z30:((i27:Int)<(x.ctors.length:Int)):=auz
   apply oB hF;intro x31 e32 hF
   have le32:=ZA e32
   refine ZP h28 z30 e32 ?_
   apply oB hF;intro v33 e34 hF
   refine((C.f136 B hB1 hB2 w x31 v33 e34)).goI ?_
   revert hF;refine kS (fun h35 q36 hF=> ?_) (fun h35 q36 hF=> ?_)
   ·refine kx1 h35 ?_
    revert hF;refine aS (fun h37 q38 hF=> ?_) (fun h37 q38 hF=> ?_)
    ·cases hF
     refine kx1 h37 ?_
     refine LeaveM.go _ (gR _) (hq _ ?_ _)
     exact kc0
    ·have w39:i64.wrap ((i27:Int)+1)=(i27:Int)+1:=ZD (by omega) (by omega)
     refine kx2 q38 w39 ?_
     refine AgainM.go ⟨[(0,.arr (zB zR w)),(3,.lit (.map (some b1))),(4,.lit (.map (some b2))),(14,.arr (zB zR w)),(15,.lit (.int .i64 (w.length:Int))),(16,.lit (.int .i64 (i:Int))),(58,.arr (zB zN x.ctors)),(59,.lit (.int .i64 (x.ctors.length:Int))),(60,.lit (.int .i64 ((i27+1):Int)))],[]⟩ (gT (by simp) (by simp_all)) ?_
     exact(ih_f137 (ZCV met26 x31.name) (i27+1) o hF) b1 b2 hb2 _ rfl _ hq
   ·cases hF
    refine kx1 q36 ?_
    refine LeaveM.go _ (gR _) (hq _ ?_ _)
    exact kc0
  ·have z30:¬((i27:Int)<(x.ctors.length:Int)):=auz
   cases hF
   refine kx3 h28 q29 z30 ?_
   refine LeaveM.go ⟨[(0,.arr (zB zR w)),(3,.lit (.map (some b1))),(4,.lit (.map (some b2))),(14,.arr (zB zR w)),(15,.lit (.int .i64 (w.length:Int))),(16,.lit (.int .i64 (i:Int)))],[]⟩ (gT (by simp) (by simp_all)) ?_
   exact hq
theorem CC.f138 (w:List zP):(∀(met:List ByteArray) (met4:List ByteArray) (i:Nat) (o:Lo Bool ((List ByteArray)×(List ByteArray))),F.f138 w met met4 i=some o->∀(b1 b2:Nat),¬b1=b2->∀(c:Code),ZQ [1,1,1,1,0,1,0,0] (ZG Tryz.f149)=some c->∀(Q:Exit->ASt->Ms->Prop),o.post (fun r=>∀st,ZAB zQ Tryz.f149 (fun r' _=>r'=(.lit (.bool r))) .ret st->∀ms,Q .ret st ms) (fun s=>Q (.exit 0) ⟨[],[]⟩ [(b1,s.1),(b2,s.2)])->MLoop zQ B 79 (hold c .mk) ⟨[(0,am zR w),(3,.lit (.map (some b1))),(4,.lit (.map (some b2))),(14,am zR w),(15,li (w.length:Int)),(16,li (i:Int))],[]⟩ [(b1,met),(b2,met4)] (hold Q .mk)):=by
 refine F.f138.partial_correctness w
  _
  ?_
 ·intro _f_f138 ih_f138 met met4 i o hF
  intro b1 b2 hb2 c hc Q hq
  obtain rfl:c=_:=ZAI hc rfl
  refine MLoop.know fun hk hs=> ?_
  have b0:=hk 0
  simp -dsimp at b0
  have b14:=hk 14
  simp -dsimp at b14
  clear hk hs
  refine MLoop.enter ?_
  refine kx1 hb2 ?_
  revert hF;refine aS ?_ ?_<;>intro h5 q6 hF
  ·have z7:((i:Int)<(w.length:Int)):=auz
   apply oB hF;intro x e8 hF
   have le8:=ZA e8
   refine ZP h5 z7 e8 ?_
   revert hF;refine aS ?_ ?_<;>intro h9 q10 hF
   ·have z11:((x.name.size:Int)=1):=auz
    apply oC hF;intro c12 hF
    refine kx2 h9 z11 ?_
    revert hF;refine aN ?_ ?_<;>intro h13 q14 hF
    ·have z15:¬(((byteAt x.name 0:Nat):Int)<65):=auz
     refine kx3 h13 q14 z15 ?_
     revert hF;refine aN ?_ ?_<;>intro h16 q17 hF
     ·have z18:¬(90<((byteAt x.name 0:Nat):Int)):=auz
      refine kx3 h16 q17 z18 ?_
      revert hF;refine aN ?_ ?_<;>intro h19 q20 hF
      ·repeat first|refine cg ?_|simp -dsimp[hb2,h5,z7,↓e8,h9,z11,h13,q14,z15,h16,q17,z18,h19,q20]
       revert hF;refine aN (fun h21 q22 hF=> ?_) (fun h21 q22 hF=> ?_)
       ·refine kx2 h21 q22 ?_
        apply oB hF;intro v e23 hF
        refine((C.f128 B hB1 hB2 (x.ctors.length:Int) 1 4 v e23)).goI ?_
        repeat first|refine cg ?_|simp -dsimp[hb2,h5,z7,↓e8,h9,z11,h13,q14,z15,h16,q17,z18,h19,q20,h21,q22]
        revert hF;refine aN (fun h24 q25 hF=> ?_) (fun h24 q25 hF=> ?_)
        ·cases hF
         refine kx2 h24 q25 ?_
         refine LeaveM.go _ (gR _) (hq _ ?_ _)
         exact kc0
        ·repeat first|refine cg ?_|simp -dsimp[hb2,h5,z7,↓e8,h9,z11,h13,q14,z15,h16,q17,z18,h19,q20,h21,q22,h24,q25]
         apply oB hF;intro o' ho40 hF
         refine MLoop.goU ⟨[(0,.arr (zB zR w)),(3,.lit (.map (some b1))),(4,.lit (.map (some b2))),(14,.arr (zB zR w)),(15,.lit (.int .i64 (w.length:Int))),(16,.lit (.int .i64 (i:Int))),(58,.arr (zB zN x.ctors)),(59,.lit (.int .i64 (x.ctors.length:Int))),(60,.lit (.int .i64 0))],[]⟩ (gT (by simp) (by simp -dsimp[hb2,h5,z7,↓e8,h9,z11,h13,q14,z15,h16,q17,z18,h19,q20,h21,q22,h24,q25])) ?_
         refine((CC.f137 B hB1 hB2 w met4 i x) met 0 o' ho40) b1 b2 hb2 _ rfl _ ?_
         rcases o' with r0|sx
         ·dsimp only at hF
          cases hF
          intro st h ms
          simp -dsimp
          refine LeaveM.go st (gR _) (hq st h ms)
         ·dsimp only at hF
          apply oC hF;intro c41 hF
          have w42:i64.wrap ((i:Int)+1)=(i:Int)+1:=ZD (by omega) (by omega)
          refine kx1 w42 ?_
          refine AgainM.go ⟨[(0,.arr (zB zR w)),(3,.lit (.map (some b1))),(4,.lit (.map (some b2))),(14,.arr (zB zR w)),(15,.lit (.int .i64 (w.length:Int))),(16,.lit (.int .i64 ((i+1):Int)))],[]⟩ (gT (by simp) (by simp -dsimp[w42])) ?_
          exact(ih_f138 sx (ZCV met4 x.name) (i+1) o hF) b1 b2 hb2 _ rfl _ hq
       ·cases hF
        repeat first|refine cg ?_|simp -dsimp[hb2,h5,z7,↓e8,h9,z11,h13,q14,z15,h16,q17,z18,h19,q20,h21,q22]
        refine LeaveM.go _ (gR _) (hq _ ?_ _)
        exact kc0
      ·cases hF
       repeat first|refine cg ?_|simp -dsimp[hb2,h5,z7,↓e8,h9,z11,h13,q14,z15,h16,q17,z18,h19,q20]
       refine LeaveM.go _ (gR _) (hq _ ?_ _)
       exact kc0
     ·have z18:(90<((byteAt x.name 0:Nat):Int)):=auz
      cases hF
      repeat first|refine cg ?_|simp -dsimp[hb2,h5,z7,↓e8,h9,z11,h13,q14,z15,h16,q17,z18]
      refine LeaveM.go _ (gR _) (hq _ ?_ _)
      exact kc0
    ·have z15:(((byteAt x.name 0:Nat):Int)<65):=auz
     cases hF
     repeat first|refine cg ?_|simp -dsimp[hb2,h5,z7,↓e8,h9,z11,h13,q14,z15]
     refine LeaveM.go _ (gR _) (hq _ ?_ _)
     exact kc0
   ·have z11:¬((x.name.size:Int)=1):=auz
    cases hF
    refine kx3 h9 q10 z11 ?_
    refine LeaveM.go _ (gR _) (hq _ ?_ _)
    exact kc0
  ·have z7:¬((i:Int)<(w.length:Int)):=auz
   cases hF
   refine kx3 h5 q6 z7 ?_
   refine LeaveM.go ⟨[],[]⟩ (gT (by simp) (by simp -dsimp[hb2,h5,q6,z7])) ?_
   exact hq
theorem C.f139 (w:List zP)(r:Bool)(hF:F.f139 w=some r):PureCall zQ B 149 [am zR w] (.lit (.bool r)):=by
 unfold F.f139 at hF
 refine zJ func149 (by kernel_rfl) rfl ntmps149 (by simp) ?_
 revert hF;refine kS ?_ ?_<;>intro h1 q2 hF
 ·have z3:(4<(w.length:Int)):=auz
  cases hF
  exact kc2 h1 z3
 ·have z3:¬(4<(w.length:Int)):=auz
  refine kx3 h1 q2 z3 ?_
  refine AMake.go fun b1 hb1=> ?_
  refine kx0 ?_
  refine AMake.go fun b2 hb2=> ?_
  simp at hb2
  refine kx1 hb2 ?_
  apply oB hF;intro o'44 ho43 hF
  refine MLoop.goU ⟨[(0,.arr (zB zR w)),(3,.lit (.map (some b1))),(4,.lit (.map (some b2))),(14,.arr (zB zR w)),(15,.lit (.int .i64 (w.length:Int))),(16,.lit (.int .i64 0))],[]⟩ (gT (by simp) (by simp_all)) ?_
  refine((CC.f138 B hB1 hB2 w) [] [] 0 o'44 ho43) b1 b2 hb2 _ rfl _ ?_
  rcases o'44 with r046|sx45
  ·dsimp only at hF
   cases hF
   intro st h ms
   simpa using h
  ·dsimp only at hF
   cases hF
   exact kc0
theorem C.f140 (w:List zP)(t:Ty)(r:Bool)(hF:F.f140 w t=some r):PureCall zQ B 150 [am zR w,.agg [li t.data,li t.index]] (.lit (.bool r)):=by
 unfold F.f140 at hF
 refine zI func150 rfl ntmps150 ?_
 revert hF;refine kN (fun h1 q2 hF=> ?_) (fun h1 q2 hF=> ?_)
 ·refine kx2 h1 q2 ?_
  apply oB hF;intro v e3 hF
  refine((C.f128 B hB1 hB2 t.data 0 (i64.wrap ((w.length:Int) -1)) v e3)).goI ?_
  refine kx2 h1 q2 ?_
  revert hF;refine aS (fun h4 q5 hF=> ?_) (fun h4 q5 hF=> ?_)
  ·refine kx3 h1 q2 h4 ?_
   apply oB hF;intro v6 e7 hF
   refine((C.f128 B hB1 hB2 t.index 0 3 v6 e7)).goI ?_
   cases hF
   exact kc3 h1 q2 h4
  ·cases hF
   exact kc4 h1 q2 h4 q5
 ·cases hF
  exact kc2 h1 q2
theorem C.f141 (w:List zP)(t:Ty)(r:Bool)(hF:F.f141 w t=some r):PureCall zQ B 115 [am zR w,.agg [li t.data,li t.index]] (.lit (.bool r)):=by
 unfold F.f141 at hF
 refine zI func115 rfl ntmps115 ?_
 refine kB hF fun v e1 hF=> ?_
 refine((C.f139 B hB1 hB2 w v e1)).goI ?_
 revert hF;refine kS (fun h2 q3 hF=> ?_) (fun h2 q3 hF=> ?_)
 ·refine kx1 h2 ?_
  apply oB hF;intro v4 e5 hF
  refine((C.f140 B hB1 hB2 w t v4 e5)).goI ?_
  cases hF
  exact kc1 h2
 ·cases hF
  exact kc2 h2 q3
theorem C.f142 (p:Pattern)(ctor:Bool)(numbers:Bool)(variable':Bool)(kids:Int)(r:Bool)(hF:F.f142 p ctor numbers variable' kids=some r):PureCall zQ B 214 [.agg [li p.op,li p.ctor,li p.n,li p.m,li p.var,am zT p.kids],.lit (.bool ctor),.lit (.bool numbers),.lit (.bool variable'),li kids] (.lit (.bool r)):=by
 unfold F.f142 at hF
 refine zI func214 rfl ntmps214 ?_
 revert hF;refine kN (fun h1 q2 hF=> ?_) (fun h1 q2 hF=> ?_)
 ·refine kx2 h1 q2 ?_
  revert hF;refine aS ?_ ?_<;>intro h3 q4 hF
  ·refine kx3 h1 q2 h3 ?_
   revert hF;refine aN (fun h5 q6 hF=> ?_) (fun h5 q6 hF=> ?_)
   ·refine kx5 h1 q2 h3 h5 q6 ?_
    revert hF;refine aS ?_ ?_<;>intro h7 q8 hF
    ·refine kx6 h1 q2 h3 h5 q6 h7 ?_
     revert hF;refine aS ?_ ?_<;>intro h9 q10 hF
     ·refine kx7 h1 q2 h3 h5 q6 h7 h9 ?_
      revert hF;refine aN (fun h11 q12 hF=> ?_) (fun h11 q12 hF=> ?_)
      ·refine kx9 h1 q2 h3 h5 q6 h7 h9 h11 q12 ?_
       revert hF;refine aS ?_ ?_<;>intro h13 q14 hF
       ·cases hF
        repeat first|refine cg ?_|simp -dsimp[h1,q2,h3,h5,q6,h7,h9,h11,q12,h13]
       ·cases hF
        repeat first|refine cg ?_|simp -dsimp[h1,q2,h3,h5,q6,h7,h9,h11,q12,h13,q14]
      ·cases hF
       exact kc9 h1 q2 h3 h5 q6 h7 h9 h11 q12
     ·cases hF
      exact kc8 h1 q2 h3 h5 q6 h7 h9 q10
    ·cases hF
     exact kc7 h1 q2 h3 h5 q6 h7 q8
   ·refine kx5 h1 q2 h3 h5 q6 ?_
    revert hF;refine aN (fun h15 q16 hF=> ?_) (fun h15 q16 hF=> ?_)
    ·refine kx7 h1 q2 h3 h5 q6 h15 q16 ?_
     revert hF;refine aS ?_ ?_<;>intro h17 q18 hF
     ·cases hF
      exact kc8 h1 q2 h3 h5 q6 h15 q16 h17
     ·cases hF
      exact kc9 h1 q2 h3 h5 q6 h15 q16 h17 q18
    ·cases hF
     exact kc7 h1 q2 h3 h5 q6 h15 q16
  ·cases hF
   exact kc4 h1 q2 h3 q4
 ·refine kx2 h1 q2 ?_
  revert hF;refine aN (fun h19 q20 hF=> ?_) (fun h19 q20 hF=> ?_)
  ·refine kx4 h1 q2 h19 q20 ?_
   revert hF;refine aS ?_ ?_<;>intro h21 q22 hF
   ·refine kx5 h1 q2 h19 q20 h21 ?_
    revert hF;refine aS ?_ ?_<;>intro h23 q24 hF
    ·refine kx6 h1 q2 h19 q20 h21 h23 ?_
     revert hF;refine aN (fun h25 q26 hF=> ?_) (fun h25 q26 hF=> ?_)
     ·refine kx8 h1 q2 h19 q20 h21 h23 h25 q26 ?_
      revert hF;refine aS ?_ ?_<;>intro h27 q28 hF
      ·cases hF
       exact kc9 h1 q2 h19 q20 h21 h23 h25 q26 h27
      ·cases hF
       repeat first|refine cg ?_|simp -dsimp[h1,q2,h19,q20,h21,h23,h25,q26,h27,q28]
     ·cases hF
      exact kc8 h1 q2 h19 q20 h21 h23 h25 q26
    ·cases hF
     exact kc7 h1 q2 h19 q20 h21 h23 q24
   ·cases hF
    exact kc6 h1 q2 h19 q20 h21 q22
  ·refine kx4 h1 q2 h19 q20 ?_
   revert hF;refine aN (fun h29 q30 hF=> ?_) (fun h29 q30 hF=> ?_)
   ·refine kx6 h1 q2 h19 q20 h29 q30 ?_
    revert hF;refine aS ?_ ?_<;>intro h31 q32 hF
    ·cases hF
     exact kc7 h1 q2 h19 q20 h29 q30 h31
    ·cases hF
     exact kc8 h1 q2 h19 q20 h29 q30 h31 q32
   ·cases hF
    exact kc6 h1 q2 h19 q20 h29 q30
theorem C.f143 (v:Int)(r:Bool)(hF:F.f143 v=some r):PureCall zQ B 215 [li v] (.lit (.bool r)):=by
 unfold F.f143 at hF
 refine zI func215 rfl ntmps215 ?_
 refine kB hF fun v1 e2 hF=> ?_
 refine((C.f128 B hB1 hB2 v 0 5 v1 e2)).goI ?_
 cases hF
 exact kc0
theorem CC.f144 (t:Ty)(x:zP):(∀(i:Nat) (out:List Int) (o:List Int),F.f144 t x i out=some o->∀(c:Code),ZQ [1,1,0,1,0,1,0,0] (ZG Tryz.f126)=some c->∀(Q:Exit->ASt->Prop),(Q (.exit 0) ⟨[(5,.own 1 (zA (α:=Int) o))],[.dead,.elems 1 (zB cI o)]⟩)->ALoopU zQ B 0 44 (hold c .mk) ⟨[(3,.ptr 0 0),(5,.own 1 (zA (α:=Int) out)),(16,am zN x.ctors),(17,li (x.ctors.length:Int)),(18,li (i:Int))],[.cells [li t.data,li t.index],.elems 1 (zB cI out)]⟩ (hold Q .mk)):=by
 refine F.f144.partial_correctness t x
  _
  ?_
 ·intro _f_f144 ih_f144 i out o hF
  refine ZI rfl fun Q hq hk hs=> ?_
  have b16:=hk 16
  simp -dsimp at b16
  have d1:=hs 1 _ rfl
  simp -dsimp[yK]at d1
  clear hk hs
  refine eN ?_
  revert hF;refine kS ?_ ?_<;>intro h4 q5 hF
  ·have z6:((i:Int)<(x.ctors.length:Int)):=auz
   apply oB hF;intro x7 e8 hF
   have le8:=ZA e8
   refine ZP h4 z6 e8 ?_
   revert hF;refine aN ?_ ?_<;>intro h9 q10 hF
   ·refine kx2 h9 q10 ?_
    revert hF;refine aN ?_ ?_<;>intro h11 q12 hF
    ·refine kx2 h11 q12 ?_
     revert hF;refine aS ?_ ?_<;>intro h13 q14 hF
     ·apply oC hF;intro c15 hF
      have w16:i64.wrap ((i:Int)+1)=(i:Int)+1:=ZD (by omega) (by omega)
      refine kx2 h13 w16 ?_
      refine zG ((ih_f144 (i+1) (out++[(i:Int)]) o hF) _ rfl _ hq)
     ·have w17:i64.wrap ((i:Int)+1)=(i:Int)+1:=ZD (by omega) (by omega)
      refine kx3 h13 q14 w17 ?_
      refine zG ((ih_f144 (i+1) out o hF) _ rfl _ hq)
    ·apply oC hF;intro c18 hF
     have w19:i64.wrap ((i:Int)+1)=(i:Int)+1:=ZD (by omega) (by omega)
     repeat first|refine cg ?_|simp -dsimp[h4,z6,↓e8,h9,q10,h11,q12,w19]
     refine zG ((ih_f144 (i+1) (out++[(i:Int)]) o hF) _ rfl _ hq)
   ·apply oC hF;intro c20 hF
    have w21:i64.wrap ((i:Int)+1)=(i:Int)+1:=ZD (by omega) (by omega)
    repeat first|refine cg ?_|simp -dsimp[h4,z6,↓e8,h9,q10,w21]
    refine zG ((ih_f144 (i+1) (out++[(i:Int)]) o hF) _ rfl _ hq)
  ·have z6:¬((i:Int)<(x.ctors.length:Int)):=auz
   cases hF
   refine kx3 h4 q5 z6 ?_
   refine zH hq
theorem C.f145 (w:List zP)(t:Ty)(r:List Int)(hF:F.f145 w t=some r):PureCall zQ B 126 [am zR w,.agg [li t.data,li t.index]] (am cI r):=by
 unfold F.f145 at hF
 refine zI func126 rfl ntmps126 ?_
 revert hF;refine kN ?_ ?_<;>intro h1 q2 hF
 ·apply oB hF;intro x e3a hF
  have e3a:=ZV e3a;obtain⟨ne3,e3⟩:=e3a
  have le3:=ZA e3
  refine ZP h1 q2 e3 ?_
  apply oB hF;intro o' ho22 hF
  refine zL ⟨[(3,.ptr 0 0),(5,.own 1 (zA (α:=Int) [])),(16,.arr (zB zN x.ctors)),(17,.lit (.int .i64 (x.ctors.length:Int))),(18,.lit (.int .i64 0))],[.cells [.lit (.int .i64 t.data),.lit (.int .i64 t.index)],.elems 1 (zB cI [])]⟩ (by refine yT (yW 5 1 (by simp -dsimp)) ?_;exact(gT (by simp) (by simp_all))) ?_
  refine((CC.f144 B hB1 hB2 t x) 0 [] o' ho22) _ rfl _ ?_
  cases hF
  exact kc0
 ·cases hF
  exact kc2 h1 q2
theorem CC.f146 (s:List Int)(v:Int):(∀(i:Nat) (o:Lo Int Unit),F.f146 s v i=some o->∀(c:Code),ZQ [1,0,1,0,0] (ZG Tryz.f165)=some c->∀(Q:Exit->ASt->Prop),o.post (fun r=>∀st,ZAB zQ Tryz.f165 (fun r' _=>r'.le (li r)) .ret st->Q .ret st) (fun s=>Q (.exit 0) ⟨[],[]⟩)->ALoopU zQ B 0 19 (hold c .mk) ⟨[(0,am cI s),(1,li v),(7,li (s.length:Int)),(8,li (i:Int))],[]⟩ (hold Q .mk)):=by
 refine F.f146.partial_correctness s v
  _
  ?_
 ·intro _f_f146 ih_f146 i o hF
  refine ZI rfl fun Q hq hk hs=> ?_
  have b0:=hk 0
  simp -dsimp at b0
  clear hk hs
  refine eN ?_
  revert hF;refine kS ?_ ?_<;>intro h1 q2 hF
  ·have z3:((i:Int)<(s.length:Int)):=auz
   apply oB hF;intro x e4 hF
   have le4:=ZA e4
   refine ZP h1 z3 e4 ?_
   revert hF;refine aS ?_ ?_<;>intro h5 q6 hF
   ·cases hF
    refine kx1 h5 ?_
    refine lG _ (gR _) (hq _ ?_)
    exact kc0
   ·have w7:i64.wrap ((i:Int)+1)=(i:Int)+1:=ZD (by omega) (by omega)
    refine kx2 q6 w7 ?_
    refine zG ((ih_f146 (i+1) o hF) _ rfl _ hq)
  ·have z3:¬((i:Int)<(s.length:Int)):=auz
   cases hF
   refine kx3 h1 q2 z3 ?_
   refine zH hq
theorem C.f147 (s:List Int)(v:Int)(r:Int)(hF:F.f147 s v=some r):PureCall zQ B 165 [am cI s,li v] (li r):=by
 unfold F.f147 at hF
 refine zI func165 rfl ntmps165 ?_
 refine kB hF fun o' ho8 hF=> ?_
 refine zK (((CC.f146 B hB1 hB2 s v) 0 o' ho8) _ rfl _ ?_)
 rcases o' with r0|sx
 ·dsimp only at hF
  cases hF
  intro st h
  simpa using h
 ·dsimp only at hF
  cases hF
  exact kc0
theorem C.f148 (s:List Int)(v:Int)(r:Bool)(hF:F.f148 s v=some r):PureCall zQ B 125 [am cI s,li v] (.lit (.bool r)):=by
 unfold F.f148 at hF
 refine zI func125 rfl ntmps125 ?_
 refine kB hF fun v1 e2 hF=> ?_
 refine((C.f147 B hB1 hB2 s v v1 e2)).goI ?_
 cases hF
 exact kc0
theorem CC.f149 (t:Ty)(x2:Ctor):(∀(i:Nat) (out:List Ty) (o:List Ty),F.f149 t x2 i out=some o->∀(c:Code),ZQ [1,1,1,1,1,0,1,0,0] (ZG Tryz.f127)=some c->∀(Q:Exit->ASt->Prop),(Q (.exit 0) ⟨[(9,.own 2 (zA (α:=Ty) o))],[.dead,.dead,.elems 2 (zB zM o)]⟩)->ALoopU zQ B 0 45 (hold c .mk) ⟨[(8,li t.index),(9,.own 2 (zA (α:=Ty) out)),(28,am zM x2.args),(29,li (x2.args.length:Int)),(30,li (i:Int))],[.dead,.dead,.elems 2 (zB zM out)]⟩ (hold Q .mk)):=by
 refine F.f149.partial_correctness t x2
  _
  ?_
 ·intro _f_f149 ih_f149 i out o hF
  refine ZI rfl fun Q hq hk hs=> ?_
  have b28:=hk 28
  simp -dsimp at b28
  have d2:=hs 2 _ rfl
  simp -dsimp[yK]at d2
  clear hk hs
  refine eN ?_
  revert hF;refine kS ?_ ?_<;>intro h6 q7 hF
  ·have z8:((i:Int)<(x2.args.length:Int)):=auz
   apply oB hF;intro x9 e10 hF
   have le10:=ZA e10
   refine ZP h6 z8 e10 ?_
   revert hF;refine aS ?_ ?_<;>intro h11 q12 hF
   ·apply oC hF;intro c13 hF
    have w14:i64.wrap ((i:Int)+1)=(i:Int)+1:=ZD (by omega) (by omega)
    refine kx2 h11 w14 ?_
    refine zG ((ih_f149 (i+1) (out++[(⟨x9.data,t.index⟩:Ty)]) o hF) _ rfl _ hq)
   ·apply oC hF;intro c15 hF
    have w16:i64.wrap ((i:Int)+1)=(i:Int)+1:=ZD (by omega) (by omega)
    refine kx3 h11 q12 w16 ?_
    refine zG ((ih_f149 (i+1) (out++[x9]) o hF) _ rfl _ hq)
  ·have z8:¬((i:Int)<(x2.args.length:Int)):=auz
   cases hF
   refine kx3 h6 q7 z8 ?_
   refine zH hq
theorem CC.f150 (x2:Ctor):(∀(i18:Nat) (out19:List Ty) (o:List Ty),F.f150 x2 i18 out19=some o->∀(c:Code),ZQ [1,1,1,1,1,0,1,0,0] (ZG Tryz.f127)=some c->∀(Q:Exit->ASt->Prop),(Q (.exit 0) ⟨[(9,.own 2 (zA (α:=Ty) o))],[.dead,.dead,.elems 2 (zB zM o)]⟩)->ALoopU zQ B 0 45 (hold c .mk) ⟨[(8,li x2.index),(9,.own 2 (zA (α:=Ty) out19)),(28,am zM x2.args),(29,li (x2.args.length:Int)),(30,li (i18:Int))],[.dead,.dead,.elems 2 (zB zM out19)]⟩ (hold Q .mk)):=by
 refine F.f150.partial_correctness x2
  _
  ?_
 ·intro _f_f150 ih_f150 i18 out19 o hF
  refine ZI rfl fun Q hq hk hs=> ?_
  have b28:=hk 28
  simp -dsimp at b28
  have d2:=hs 2 _ rfl
  simp -dsimp[yK]at d2
  clear hk hs
  refine eN ?_
  revert hF;refine kS ?_ ?_<;>intro h20 q21 hF
  ·have z22:((i18:Int)<(x2.args.length:Int)):=auz
   apply oB hF;intro x23 e24 hF
   have le24:=ZA e24
   refine ZP h20 z22 e24 ?_
   revert hF;refine aS ?_ ?_<;>intro h25 q26 hF
   ·apply oC hF;intro c27 hF
    have w28:i64.wrap ((i18:Int)+1)=(i18:Int)+1:=ZD (by omega) (by omega)
    refine kx2 h25 w28 ?_
    refine zG ((ih_f150 (i18+1) (out19++[(⟨x23.data,x2.index⟩:Ty)]) o hF) _ rfl _ hq)
   ·apply oC hF;intro c29 hF
    have w30:i64.wrap ((i18:Int)+1)=(i18:Int)+1:=ZD (by omega) (by omega)
    refine kx3 h25 q26 w30 ?_
    refine zG ((ih_f150 (i18+1) (out19++[x23]) o hF) _ rfl _ hq)
  ·have z22:¬((i18:Int)<(x2.args.length:Int)):=auz
   cases hF
   refine kx3 h20 q21 z22 ?_
   refine zH hq
theorem C.f151 (w:List zP)(t:Ty)(ctor:Int)(r:List Ty)(hF:F.f151 w t ctor=some r):PureCall zQ B 127 [am zR w,.agg [li t.data,li t.index],li ctor] (am zM r):=by
 unfold F.f151 at hF
 refine zI func127 rfl ntmps127 ?_
 apply oB hF;intro x e1a hF
 have e1a:=ZV e1a;obtain⟨ne1,e1⟩:=e1a
 have le1:=ZA e1
 apply oB hF;intro x2 e3a hF
 have e3a:=ZV e3a;obtain⟨ne3,e3⟩:=e3a
 have le3:=ZA e3
 refine ZEP e1 e3 ?_
 revert hF;refine aS ?_ ?_<;>intro h4 q5 hF
 ·refine kx1 h4 ?_
  apply oB hF;intro o' ho17 hF
  refine zL ⟨[(8,.lit (.int .i64 t.index)),(9,.own 2 (zA (α:=Ty) [])),(28,.arr (zB zM x2.args)),(29,.lit (.int .i64 (x2.args.length:Int))),(30,.lit (.int .i64 0))],[.dead,.dead,.elems 2 (zB zM [])]⟩ (by refine yT (yW 9 2 (by simp -dsimp)) ?_;exact(gT (by simp) (by simp_all))) ?_
  refine((CC.f149 B hB1 hB2 t x2) 0 [] o' ho17) _ rfl _ ?_
  cases hF
  exact kc0
 ·refine kx1 q5 ?_
  apply oB hF;intro o'32 ho31 hF
  refine zL ⟨[(8,.lit (.int .i64 x2.index)),(9,.own 2 (zA (α:=Ty) [])),(28,.arr (zB zM x2.args)),(29,.lit (.int .i64 (x2.args.length:Int))),(30,.lit (.int .i64 0))],[.dead,.dead,.elems 2 (zB zM [])]⟩ (by refine yT (yW 9 2 (by simp -dsimp)) ?_;exact(gT (by simp) (by simp_all))) ?_
  refine((CC.f150 B hB1 hB2 x2) 0 [] o'32 ho31) _ rfl _ ?_
  cases hF
  exact kc0
theorem C.f152 (w:List zP)(t:Ty)(p:Pattern)(r:(List Ty)×Bool)(hF:F.f152 w t p=some r):PureCall zQ B 204 [am zR w,.agg [li t.data,li t.index],.agg [li p.op,li p.ctor,li p.n,li p.m,li p.var,am zT p.kids]] (.tup [am zM r.1,.lit (.bool r.2)]):=by
 unfold F.f152 at hF
 refine zI func204 rfl ntmps204 ?_
 revert hF;refine kS ?_ ?_<;>intro h1 q2 hF
 ·refine kx1 h1 ?_
  apply oB hF;intro v e3 hF
  refine((C.f142 B hB1 hB2 p false false false 0 v e3)).goI ?_
  cases hF
  exact kc1 h1
 ·refine kx2 h1 q2 ?_
  revert hF;refine aS ?_ ?_<;>intro h4 q5 hF
  ·refine kx3 h1 q2 h4 ?_
   apply oB hF;intro v6 e7 hF
   refine((C.f142 B hB1 hB2 p false false true 0 v6 e7)).goI ?_
   refine kx3 h1 q2 h4 ?_
   revert hF;refine aS (fun h8 q9 hF=> ?_) (fun h8 q9 hF=> ?_)
   ·refine kx4 h1 q2 h4 h8 ?_
    apply oB hF;intro v10 e11 hF
    refine((C.f143 B hB1 hB2 p.var v10 e11)).goI ?_
    cases hF
    exact kc4 h1 q2 h4 h8
   ·cases hF
    exact kc5 h1 q2 h4 h8 q9
  ·refine kx4 h1 q2 h4 q5 ?_
   revert hF;refine aS ?_ ?_<;>intro h12 q13 hF
   ·refine kx5 h1 q2 h4 q5 h12 ?_
    refine yM follows ?_
    refine kx5 h1 q2 h4 q5 h12 ?_
    revert hF;refine aS ?_ ?_<;>intro h14 q15 hF
    ·refine kx6 h1 q2 h4 q5 h12 h14 ?_
     apply oB hF;intro v16 e17 hF
     refine((C.f142 B hB1 hB2 p false true false 0 v16 e17)).pgoW (by simp[h1,q2,h4,q5,h12,h14]) (by simp) ?_
     refine kx6 h1 q2 h4 q5 h12 h14 ?_
     revert hF;refine aS (fun h18 q19 hF=> ?_) (fun h18 q19 hF=> ?_)
     ·refine kx7 h1 q2 h4 q5 h12 h14 h18 ?_
      revert hF;refine aS ?_ ?_<;>intro h20 q21 hF
      ·refine kx8 h1 q2 h4 q5 h12 h14 h18 h20 ?_
       revert hF;refine aS ?_ ?_<;>intro h22 q23 hF
       ·cases hF
        exact kc9 h1 q2 h4 q5 h12 h14 h18 h20 h22
       ·cases hF
        repeat first|refine cg ?_|simp -dsimp[h1,q2,h4,q5,h12,h14,h18,h20,h22,q23]
      ·cases hF
       exact kc9 h1 q2 h4 q5 h12 h14 h18 h20 q21
     ·cases hF
      exact kc8 h1 q2 h4 q5 h12 h14 h18 q19
    ·cases hF
     exact kc7 h1 q2 h4 q5 h12 h14 q15
   ·refine kx6 h1 q2 h4 q5 h12 q13 ?_
    revert hF;refine aS ?_ ?_<;>intro h24 q25 hF
    ·refine kx7 h1 q2 h4 q5 h12 q13 h24 ?_
     refine yM follows ?_
     refine kx7 h1 q2 h4 q5 h12 q13 h24 ?_
     apply oB hF;intro v26 e27 hF
     refine((C.f145 B hB1 hB2 w t v26 e27)).pgoW (by simp[h1,q2,h4,q5,h12,q13,h24]) (by simp) ?_
     refine kx7 h1 q2 h4 q5 h12 q13 h24 ?_
     apply oB hF;intro v28 e29 hF
     refine((C.f148 B hB1 hB2 v26 p.ctor v28 e29)).pgoW (by simp[h1,q2,h4,q5,h12,q13,h24]) (by simp) ?_
     refine kx7 h1 q2 h4 q5 h12 q13 h24 ?_
     revert hF;refine aN (fun h30 q31 hF=> ?_) (fun h30 q31 hF=> ?_)
     ·cases hF
      exact kc9 h1 q2 h4 q5 h12 q13 h24 h30 q31
     ·refine kx9 h1 q2 h4 q5 h12 q13 h24 h30 q31 ?_
      apply oB hF;intro v32 e33 hF
      refine((C.f151 B hB1 hB2 w t p.ctor v32 e33)).goI ?_
      refine kx9 h1 q2 h4 q5 h12 q13 h24 h30 q31 ?_
      apply oB hF;intro v34 e35 hF
      refine((C.f142 B hB1 hB2 p true false false (v32.length:Int) v34 e35)).goI ?_
      cases hF
      exact kc9 h1 q2 h4 q5 h12 q13 h24 h30 q31
    ·refine kx8 h1 q2 h4 q5 h12 q13 h24 q25 ?_
     revert hF;refine aS ?_ ?_<;>intro h36 q37 hF
     ·refine kx9 h1 q2 h4 q5 h12 q13 h24 q25 h36 ?_
      refine yL [] [(0,0),(0,0),(0,1),(0,1),(0,1),(1,1),(1,1)] [1,1,1,2,1,1,1] follows ?_
      refine kx9 h1 q2 h4 q5 h12 q13 h24 q25 h36 ?_
      apply oB hF;intro v38 e39 hF
      refine((C.f142 B hB1 hB2 p false false false 2 v38 e39)).pgoW (by simp[h1,q2,h4,q5,h12,q13,h24,q25,h36]) (by simp) ?_
      cases hF
      exact kc9 h1 q2 h4 q5 h12 q13 h24 q25 h36
     ·repeat first|refine cg ?_|simp -dsimp[h1,q2,h4,q5,h12,q13,h24,q25,h36,q37]
      revert hF;refine aS ?_ ?_<;>intro h40 q41 hF
      ·repeat first|refine cg ?_|simp -dsimp[h1,q2,h4,q5,h12,q13,h24,q25,h36,q37,h40]
       refine yL [] [(0,0),(0,1),(0,1),(0,1),(0,1),(0,1),(0,1),(0,1),(0,1),(1,1),(1,1)] [1,1,2,1,1,0,2,1,1,1,1] follows ?_
       repeat first|refine cg ?_|simp -dsimp[h1,q2,h4,q5,h12,q13,h24,q25,h36,q37,h40]
       apply oB hF;intro v42 e43 hF
       refine((C.f142 B hB1 hB2 p false false true 1 v42 e43)).pgoW (by simp[h1,q2,h4,q5,h12,q13,h24,q25,h36,q37,h40]) (by simp) ?_
       repeat first|refine cg ?_|simp -dsimp[h1,q2,h4,q5,h12,q13,h24,q25,h36,q37,h40]
       revert hF;refine aS (fun h44 q45 hF=> ?_) (fun h44 q45 hF=> ?_)
       ·repeat first|refine cg ?_|simp -dsimp[h1,q2,h4,q5,h12,q13,h24,q25,h36,q37,h40,h44]
        apply oB hF;intro v46 e47 hF
        refine((C.f143 B hB1 hB2 p.var v46 e47)).pgoW (by simp[h1,q2,h4,q5,h12,q13,h24,q25,h36,q37,h40,h44]) (by simp) ?_
        cases hF
        repeat first|refine cg ?_|simp -dsimp[h1,q2,h4,q5,h12,q13,h24,q25,h36,q37,h40,h44]
       ·skip
        cases hF
        repeat first|refine cg ?_|simp -dsimp[h1,q2,h4,q5,h12,q13,h24,q25,h36,q37,h40,h44,q45]
      ·cases hF
       repeat first|refine cg ?_|simp -dsimp[h1,q2,h4,q5,h12,q13,h24,q25,h36,q37,h40,q41]
theorem CC.f153 (s:List VarType)(v:VarType):(∀(i:Nat) (o:Lo Int Unit),F.f153 s v i=some o->∀(c:Code),ZQ [1,0,1,0,0] (ZG Tryz.f206)=some c->∀(Q:Exit->ASt->Prop),o.post (fun r=>∀st,ZAB zQ Tryz.f206 (fun r' _=>r'.le (li r)) .ret st->Q .ret st) (fun s=>Q (.exit 0) ⟨[],[]⟩)->ALoopU zQ B 0 19 (hold c .mk) ⟨[(0,am yQ s),(3,.ptr 0 0),(7,li (s.length:Int)),(8,li (i:Int))],[.cells [li v.var,li v.type.data,li v.type.index]]⟩ (hold Q .mk)):=by
 refine F.f153.partial_correctness s v
  _
  ?_
 ·intro _f_f153 ih_f153 i o hF
  refine ZI rfl fun Q hq hk hs=> ?_
  have b0:=hk 0
  simp -dsimp at b0
  clear hk hs
  refine eN ?_
  revert hF;refine kS ?_ ?_<;>intro h1 q2 hF
  ·have z3:((i:Int)<(s.length:Int)):=auz
   refine kx2 h1 z3 ?_
   refine yM follows ?_
   apply oB hF;intro x e4 hF
   have le4:=ZA e4
   refine kdd e4 ?_
   revert hF;refine aS (fun h5 q6 hF=> ?_) (fun h5 q6 hF=> ?_)
   ·cases hF
    refine kx1 h5 ?_
    refine lG _ (gR _) (hq _ ?_)
    exact kc0
   ·have w7:i64.wrap ((i:Int)+1)=(i:Int)+1:=ZD (by omega) (by omega)
    refine kx2 q6 w7 ?_
    refine zG ((ih_f153 (i+1) o hF) _ rfl _ hq)
  ·have z3:¬((i:Int)<(s.length:Int)):=auz
   cases hF
   refine kx3 h1 q2 z3 ?_
   refine zH hq
theorem C.f154 (s:List VarType)(v:VarType)(r:Int)(hF:F.f154 s v=some r):PureCall zQ B 206 [am yQ s,.agg [li v.var,li v.type.data,li v.type.index]] (li r):=by
 unfold F.f154 at hF
 refine zI func206 rfl ntmps206 ?_
 refine kB hF fun o' ho8 hF=> ?_
 refine zK (((CC.f153 B hB1 hB2 s v) 0 o' ho8) _ rfl _ ?_)
 rcases o' with r0|sx
 ·dsimp only at hF
  cases hF
  intro st h
  simpa using h
 ·dsimp only at hF
  cases hF
  exact kc0
theorem C.f155 (s:List VarType)(v:VarType)(r:Bool)(hF:F.f155 s v=some r):PureCall zQ B 183 [am yQ s,.agg [li v.var,li v.type.data,li v.type.index]] (.lit (.bool r)):=by
 unfold F.f155 at hF
 refine zI func183 rfl ntmps183 ?_
 refine kB hF fun v1 e2 hF=> ?_
 refine((C.f154 B hB1 hB2 s v v1 e2)).goI ?_
 cases hF
 exact kc0
theorem C.f156 (v:VarType)(a1:List VarType)(r:Bool)(hF:F.f156 v a1=some r):PureCall zQ B 217 [.agg [li v.var,li v.type.data,li v.type.index],.rptr [am yQ a1] 0] (.lit (.bool r)):=by
 unfold F.f156 at hF
 refine zI func217 rfl ntmps217 ?_
 refine kB hF fun v1 e2 hF=> ?_
 refine((C.f155 B hB1 hB2 a1 v v1 e2)).goI ?_
 cases hF
 exact kc0
theorem CC.f157 (s:List VarType)(k0:List VarType):(∀(i:Nat) (o:Lo Int Unit),F.f157 s k0 i=some o->∀(c:Code),ZQ [1,0,1,0,0] (ZG Tryz.f220)=some c->∀(Q:Exit->ASt->Prop),o.post (fun r=>∀st,ZAB zQ Tryz.f220 (fun r' _=>r'.le (li r)) .ret st->Q .ret st) (fun s=>Q (.exit 0) ⟨[],[]⟩)->ALoopU zQ B 0 19 (hold c .mk) ⟨[(0,am yQ s),(1,.fn (.func 217) [] [.rptr [am yQ k0] 0]),(7,li (s.length:Int)),(8,li (i:Int))],[]⟩ (hold Q .mk)):=by
 refine F.f157.partial_correctness s k0
  _
  ?_
 ·intro _f_f157 ih_f157 i o hF
  refine ZI rfl fun Q hq hk hs=> ?_
  have b0:=hk 0
  simp -dsimp at b0
  clear hk hs
  refine eN ?_
  revert hF;refine kS ?_ ?_<;>intro h1 q2 hF
  ·have z3:((i:Int)<(s.length:Int)):=auz
   apply oB hF;intro x e4 hF
   have le4:=ZA e4
   refine ZP h1 z3 e4 ?_
   apply oB hF;intro v e5 hF
   refine((C.f156 B hB1 hB2 x k0 v e5)).goI ?_
   revert hF;refine kS (fun h6 q7 hF=> ?_) (fun h6 q7 hF=> ?_)
   ·cases hF
    refine kx1 h6 ?_
    refine lG _ (gR _) (hq _ ?_)
    exact kc0
   ·have w8:i64.wrap ((i:Int)+1)=(i:Int)+1:=ZD (by omega) (by omega)
    refine kx2 q7 w8 ?_
    refine zG ((ih_f157 (i+1) o hF) _ rfl _ hq)
  ·have z3:¬((i:Int)<(s.length:Int)):=auz
   cases hF
   refine kx3 h1 q2 z3 ?_
   refine zH hq
theorem C.f158 (s:List VarType)(k0:List VarType)(r:Int)(hF:F.f158 s k0=some r):PureCall zQ B 220 [am yQ s,.fn (.func 217) [] [.rptr [am yQ k0] 0]] (li r):=by
 unfold F.f158 at hF
 refine zI func220 rfl ntmps220 ?_
 refine kB hF fun o' ho9 hF=> ?_
 refine zK (((CC.f157 B hB1 hB2 s k0) 0 o' ho9) _ rfl _ ?_)
 rcases o' with r0|sx
 ·dsimp only at hF
  cases hF
  intro st h
  simpa using h
 ·dsimp only at hF
  cases hF
  exact kc0
theorem C.f159 (s:List VarType)(k0:List VarType)(r:Bool)(hF:F.f159 s k0=some r):PureCall zQ B 216 [am yQ s,.fn (.func 217) [] [.rptr [am yQ k0] 0]] (.lit (.bool r)):=by
 unfold F.f159 at hF
 refine zI func216 rfl ntmps216 ?_
 refine kB hF fun v e1 hF=> ?_
 refine((C.f158 B hB1 hB2 s k0 v e1)).goI ?_
 cases hF
 exact kc0
theorem C.f160 (a:List VarType)(b:List VarType)(r:Bool)(hF:F.f160 a b=some r):PureCall zQ B 205 [am yQ a,am yQ b] (.lit (.bool r)):=by
 unfold F.f160 at hF
 refine zI func205 rfl ntmps205 ?_
 revert hF;refine kS ?_ ?_<;>intro h1 q2 hF
 ·have z3:((a.length:Int)=(b.length:Int)):=auz
  refine kx2 h1 z3 ?_
  apply oB hF;intro v e4 hF
  refine((C.f159 B hB1 hB2 a b v e4)).lend (by simp -dsimp[h1,z3]) (by simp -dsimp) ?_
  cases hF
  exact kc2 h1 z3
 ·have z3:¬((a.length:Int)=(b.length:Int)):=auz
  cases hF
  exact kc3 h1 q2 z3
theorem CC.f161 (sx:Int×(List VarType)):(∀(set':Nat->Bool) (i37:Nat) (o:Lo ((List VarType)×Bool×Int) Unit),F.f161 sx set' i37=some o->∀(c:Code),ZQ [1,1,1,1,1,1,1,1,1,0,1,0,0] (ZG Tryz.f182)=some c->∀(Q:Exit->ASt->Prop),o.post (fun r=>∀st,ZAB zQ Tryz.f182 (fun r' σ'=>r'.le (.tup [am yQ r.1,.lit (.bool r.2.1)])/\ZB3 σ' [li r.2.2]) .ret st->Q .ret st) (fun s=>Q (.exit 3) ⟨[(14,.own 4 (zA (α:=VarType) sx.2))],[.cells [li sx.1],.dead,.dead,.dead,.elems 3 (zB yQ sx.2)]⟩)->ALoopU zQ B 1 114 (hold c .mk) ⟨[(14,.own 4 (zA (α:=VarType) sx.2)),(19,.ptr 5 0),(99,.own 4 (zA (α:=VarType) sx.2)),(100,li (sx.2.length:Int)),(101,li (i37:Int))],[.cells [li sx.1],.dead,.dead,.dead,.elems 3 (zB yQ sx.2),.cells (fcB 6 set')]⟩ (hold Q .mk)):=by
 refine F.f161.partial_correctness sx
  _
  ?_
 ·intro _f_f161 ih_f161 set' i37 o hF
  refine ZI rfl fun Q hq hk hs=> ?_
  have d4:=hs 4 _ rfl
  simp -dsimp[yK]at d4
  clear hk hs
  refine eN ?_
  revert hF;refine kS ?_ ?_<;>intro h38 q39 hF
  ·have z40:((i37:Int)<(sx.2.length:Int)):=auz
   apply oB hF;intro x41 e42 hF
   have le42:=ZA e42
   apply oC hF;intro c43 hF
   repeat first|refine cg ?_|simp -dsimp[h38,z40,↓e42,c43]
   revert hF;refine aS (fun h44 q45 hF=> ?_) (fun h44 q45 hF=> ?_)
   ·cases hF
    refine kx1 h44 ?_
    refine lG _ (gR _) (hq _ ?_)
    exact kc0
   ·have w46:i64.wrap ((i37:Int)+1)=(i37:Int)+1:=ZD (by omega) (by omega)
    refine kx2 q45 w46 ?_
    refine zG ((ih_f161 (ZG5 set' x41.var.toNat true) (i37+1) o hF) _ rfl _ hq)
  ·have z40:¬((i37:Int)<(sx.2.length:Int)):=auz
   cases hF
   refine kx3 h38 q39 z40 ?_
   refine zH hq
theorem CC.f162 (sx81:Int×(List VarType)):(∀(set'82:Nat->Bool) (i83:Nat) (o:Lo ((List VarType)×Bool×Int) Unit),F.f162 sx81 set'82 i83=some o->∀(c:Code),ZQ [1,1,1,1,1,1,1,1,1,0,1,0,0] (ZG Tryz.f182)=some c->∀(Q:Exit->ASt->Prop),o.post (fun r=>∀st,ZAB zQ Tryz.f182 (fun r' σ'=>r'.le (.tup [am yQ r.1,.lit (.bool r.2.1)])/\ZB3 σ' [li r.2.2]) .ret st->Q .ret st) (fun s=>Q (.exit 3) ⟨[(14,.own 3 (zA (α:=VarType) sx81.2))],[.cells [li sx81.1],.dead,.dead,.elems 3 (zB yQ sx81.2)]⟩)->ALoopU zQ B 1 114 (hold c .mk) ⟨[(14,.own 3 (zA (α:=VarType) sx81.2)),(19,.ptr 4 0),(99,.own 3 (zA (α:=VarType) sx81.2)),(100,li (sx81.2.length:Int)),(101,li (i83:Int))],[.cells [li sx81.1],.dead,.dead,.elems 3 (zB yQ sx81.2),.cells (fcB 6 set'82)]⟩ (hold Q .mk)):=by
 refine F.f162.partial_correctness sx81
  _
  ?_
 ·intro _f_f162 ih_f162 set'82 i83 o hF
  refine ZI rfl fun Q hq hk hs=> ?_
  have d3:=hs 3 _ rfl
  simp -dsimp[yK]at d3
  clear hk hs
  refine eN ?_
  revert hF;refine kS ?_ ?_<;>intro h84 q85 hF
  ·have z86:((i83:Int)<(sx81.2.length:Int)):=auz
   apply oB hF;intro x87 e88 hF
   have le88:=ZA e88
   apply oC hF;intro c89 hF
   repeat first|refine cg ?_|simp -dsimp[h84,z86,↓e88,c89]
   revert hF;refine aS (fun h90 q91 hF=> ?_) (fun h90 q91 hF=> ?_)
   ·cases hF
    refine kx1 h90 ?_
    refine lG _ (gR _) (hq _ ?_)
    exact kc0
   ·have w92:i64.wrap ((i83:Int)+1)=(i83:Int)+1:=ZD (by omega) (by omega)
    refine kx2 q91 w92 ?_
    refine zG ((ih_f162 (ZG5 set'82 x87.var.toNat true) (i83+1) o hF) _ rfl _ hq)
  ·have z86:¬((i83:Int)<(sx81.2.length:Int)):=auz
   cases hF
   refine kx3 h84 q85 z86 ?_
   refine zH hq
theorem CC.f163 (sx128:Int×(List VarType)):(∀(set'129:Nat->Bool) (i130:Nat) (o:Lo ((List VarType)×Bool×Int) Unit),F.f163 sx128 set'129 i130=some o->∀(c:Code),ZQ [1,1,1,1,1,1,1,1,1,0,1,0,0] (ZG Tryz.f182)=some c->∀(Q:Exit->ASt->Prop),o.post (fun r=>∀st,ZAB zQ Tryz.f182 (fun r' σ'=>r'.le (.tup [am yQ r.1,.lit (.bool r.2.1)])/\ZB3 σ' [li r.2.2]) .ret st->Q .ret st) (fun s=>Q (.exit 3) ⟨[(14,.own 4 (zA (α:=VarType) sx128.2))],[.cells [li sx128.1],.dead,.dead,.dead,.elems 3 (zB yQ sx128.2)]⟩)->ALoopU zQ B 1 114 (hold c .mk) ⟨[(14,.own 4 (zA (α:=VarType) sx128.2)),(19,.ptr 5 0),(99,.own 4 (zA (α:=VarType) sx128.2)),(100,li (sx128.2.length:Int)),(101,li (i130:Int))],[.cells [li sx128.1],.dead,.dead,.dead,.elems 3 (zB yQ sx128.2),.cells (fcB 6 set'129)]⟩ (hold Q .mk)):=by
 refine F.f163.partial_correctness sx128
  _
  ?_
 ·intro _f_f163 ih_f163 set'129 i130 o hF
  refine ZI rfl fun Q hq hk hs=> ?_
  have d4:=hs 4 _ rfl
  simp -dsimp[yK]at d4
  clear hk hs
  refine eN ?_
  revert hF;refine kS ?_ ?_<;>intro h131 q132 hF
  ·have z133:((i130:Int)<(sx128.2.length:Int)):=auz
   apply oB hF;intro x134 e135 hF
   have le135:=ZA e135
   apply oC hF;intro c136 hF
   repeat first|refine cg ?_|simp -dsimp[h131,z133,↓e135,c136]
   revert hF;refine aS (fun h137 q138 hF=> ?_) (fun h137 q138 hF=> ?_)
   ·cases hF
    refine kx1 h137 ?_
    refine lG _ (gR _) (hq _ ?_)
    exact kc0
   ·have w139:i64.wrap ((i130:Int)+1)=(i130:Int)+1:=ZD (by omega) (by omega)
    refine kx2 q138 w139 ?_
    refine zG ((ih_f163 (ZG5 set'129 x134.var.toNat true) (i130+1) o hF) _ rfl _ hq)
  ·have z133:¬((i130:Int)<(sx128.2.length:Int)):=auz
   cases hF
   refine kx3 h131 q132 z133 ?_
   refine zH hq
theorem CC.f164 (w:List zP):(∀(t:Ty) (p:Pattern) (deep:Int) (count:Int) (r:(List VarType)×Bool×Int),F.f164 w t p deep count=some r->MutCall zQ B 182 [li count] [am zR w,.agg [li t.data,li t.index],.agg [li p.op,li p.ctor,li p.n,li p.m,li p.var,am zT p.kids],li deep,.ptr 0 0] (.tup [am yQ r.1,.lit (.bool r.2.1)]) [li r.2.2])/\
  (∀(p:Pattern) (deep:Int) (v:(List Ty)×Bool) (z51:Int) (vars52:List VarType) (i53:Nat) (o:Lo ((List VarType)×Bool×Int) (Int×(List VarType))),F.f166 w p deep v z51 vars52 i53=some o->∀(c:Code),ZQ [1,1,1,1,1,1,1,0,1,0,0] (ZG Tryz.f182)=some c->∀(Q:Exit->ASt->Prop),o.post (fun r=>∀st,ZAB zQ Tryz.f182 (fun r' σ'=>r'.le (.tup [am yQ r.1,.lit (.bool r.2.1)])/\ZB3 σ' [li r.2.2]) .ret st->Q .ret st) (fun s=>Q (.exit 0) ⟨[(14,.own 3 (zA (α:=VarType) s.2))],[.cells [li s.1],.dead,.dead,.elems 3 (zB yQ s.2)]⟩)->ALoopU zQ B 1 114 (hold c .mk) ⟨[(0,am zR w),(3,li deep),(4,.ptr 0 0),(7,.ptr 2 0),(12,am zM v.1),(14,.own 3 (zA (α:=VarType) vars52)),(60,am zT p.kids),(61,li (p.kids.length:Int)),(62,li (i53:Int))],[.cells [li z51],.dead,.cells [li p.op,li p.ctor,li p.n,li p.m,li p.var,am zT p.kids],.elems 3 (zB yQ vars52)]⟩ (hold Q .mk))/\
  (∀(p:Pattern) (deep:Int) (v:(List Ty)×Bool) (z:Int) (vars:List VarType) (i:Nat) (o:Lo ((List VarType)×Bool×Int) (Int×(List VarType))),F.f165 w p deep v z vars i=some o->∀(c:Code),ZQ [1,1,1,1,1,1,1,0,1,0,0] (ZG Tryz.f182)=some c->∀(Q:Exit->ASt->Prop),o.post (fun r=>∀st,ZAB zQ Tryz.f182 (fun r' σ'=>r'.le (.tup [am yQ r.1,.lit (.bool r.2.1)])/\ZB3 σ' [li r.2.2]) .ret st->Q .ret st) (fun s=>Q (.exit 0) ⟨[(14,.own 4 (zA (α:=VarType) s.2))],[.cells [li s.1],.dead,.dead,.dead,.elems 3 (zB yQ s.2)]⟩)->ALoopU zQ B 1 114 (hold c .mk) ⟨[(0,am zR w),(3,li deep),(4,.ptr 0 0),(7,.ptr 2 0),(12,am zM v.1),(14,.own 4 (zA (α:=VarType) vars)),(60,am zT p.kids),(61,li (p.kids.length:Int)),(62,li (i:Int))],[.cells [li z],.dead,.cells [li p.op,li p.ctor,li p.n,li p.m,li p.var,am zT p.kids],.dead,.elems 3 (zB yQ vars)]⟩ (hold Q .mk))/\
  (∀(p:Pattern) (deep:Int) (v:(List Ty)×Bool) (z98:Int) (vars99:List VarType) (i100:Nat) (o:Lo ((List VarType)×Bool×Int) (Int×(List VarType))),F.f167 w p deep v z98 vars99 i100=some o->∀(c:Code),ZQ [1,1,1,1,1,1,1,0,1,0,0] (ZG Tryz.f182)=some c->∀(Q:Exit->ASt->Prop),o.post (fun r=>∀st,ZAB zQ Tryz.f182 (fun r' σ'=>r'.le (.tup [am yQ r.1,.lit (.bool r.2.1)])/\ZB3 σ' [li r.2.2]) .ret st->Q .ret st) (fun s=>Q (.exit 0) ⟨[(14,.own 4 (zA (α:=VarType) s.2))],[.cells [li s.1],.dead,.dead,.dead,.elems 3 (zB yQ s.2)]⟩)->ALoopU zQ B 1 114 (hold c .mk) ⟨[(0,am zR w),(3,li deep),(4,.ptr 0 0),(7,.ptr 2 0),(12,am zM v.1),(14,.own 4 (zA (α:=VarType) vars99)),(60,am zT p.kids),(61,li (p.kids.length:Int)),(62,li (i100:Int))],[.cells [li z98],.dead,.cells [li p.op,li p.ctor,li p.n,li p.m,li p.var,am zT p.kids],.dead,.elems 3 (zB yQ vars99)]⟩ (hold Q .mk)):=by
 refine F.f164.mutual_partial_correctness w
  _ _ _ _
  ?_ ?_ ?_ ?_
 ·intro _f_f166 _f_f165 _f_f167 ih_f166 ih_f165 ih_f167 t p deep count r hF
  refine MutCall.inn func182 rfl ntmps182 ?_
  revert hF;refine kN ?_ ?_<;>intro h1 q2 hF
  ·refine kx2 h1 q2 ?_
   revert hF;refine aS ?_ ?_<;>intro h3 q4 hF
   ·cases hF
    exact kc3 h1 q2 h3
   ·refine kx4 h1 q2 h3 q4 ?_
    apply oB hF;intro v e5 hF
    refine((C.f152 B hB1 hB2 w t p v e5)).goI ?_
    refine kx4 h1 q2 h3 q4 ?_
    revert hF;refine aN (fun h6 q7 hF=> ?_) (fun h6 q7 hF=> ?_)
    ·cases hF
     exact kc6 h1 q2 h3 q4 h6 q7
    ·refine kx6 h1 q2 h3 q4 h6 q7 ?_
     revert hF;refine aN ?_ ?_<;>intro h8 q9 hF
     ·refine kx8 h1 q2 h3 q4 h6 q7 h8 q9 ?_
      revert hF;refine aS ?_ ?_<;>intro h10 q11 hF
      ·refine kx9 h1 q2 h3 q4 h6 q7 h8 q9 h10 ?_
       apply oB hF;intro o' ho36 hF
       refine zL _ ?_ ((ih_f165 p deep v (i64.wrap (count+1)) [(⟨p.var,t⟩:VarType)] 0 o' ho36) _ rfl _ ?_)
       ·exact(gT (by simp) (by simp -dsimp[h1,q2,h3,q4,h6,q7,h8,q9,h10]))
       rcases o' with r050|sx
       ·dsimp only at hF
        cases hF
        intro st h
        simpa using h
       ·dsimp only at hF
        refine kB hF fun o'48 ho47 hF=> ?_
        refine zL _ ?_ (((CC.f161 B hB1 hB2 sx) (fun _=>false) 0 o'48 ho47) _ rfl _ ?_)
        ·exact(gT (by simp) (by simp -dsimp))
        rcases o'48 with r0|sx49
        ·dsimp only at hF
         cases hF
         intro st h
         simpa using h
        ·dsimp only at hF
         cases hF
         exact kc0
      ·repeat first|refine cg ?_|simp -dsimp[h1,q2,h3,q4,h6,q7,h8,q9,h10,q11]
       apply oB hF;intro o'80 ho79 hF
       refine zL ⟨[(0,.arr (zB zR w)),(3,.lit (.int .i64 deep)),(4,.ptr 0 0),(7,.ptr 2 0),(12,.arr (zB zM v.1)),(14,.own 3 (zA (α:=VarType) [])),(60,.arr (zB zT p.kids)),(61,.lit (.int .i64 (p.kids.length:Int))),(62,.lit (.int .i64 0))],[.cells [.lit (.int .i64 (i64.wrap (count+1)))],.dead,.cells [.lit (.int .i64 p.op),.lit (.int .i64 p.ctor),.lit (.int .i64 p.n),.lit (.int .i64 p.m),.lit (.int .i64 p.var),.arr (zB zT p.kids)],.elems 3 (zB yQ [])]⟩ (by refine yT (yW 14 3 (by simp -dsimp)) ?_;exact(gT (by simp) (by simp -dsimp[h1,q2,h3,q4,h6,q7,h8,q9,h10,q11]))) ?_
       refine(ih_f166 p deep v (i64.wrap (count+1)) [] 0 o'80 ho79) _ rfl _ ?_
       rcases o'80 with r097|sx81
       ·dsimp only at hF
        cases hF
        intro st h
        simpa using h
       ·dsimp only at hF
        refine kB hF fun o'94 ho93 hF=> ?_
        refine zL _ ?_ (((CC.f162 B hB1 hB2 sx81) (fun _=>false) 0 o'94 ho93) _ rfl _ ?_)
        ·exact(gT (by simp) (by simp -dsimp))
        rcases o'94 with r096|sx95
        ·dsimp only at hF
         cases hF
         intro st h
         simpa using h
        ·dsimp only at hF
         cases hF
         exact kc0
     ·refine kx8 h1 q2 h3 q4 h6 q7 h8 q9 ?_
      apply oB hF;intro o'127 ho126 hF
      refine zL _ ?_ ((ih_f167 p deep v (i64.wrap (count+1)) [(⟨p.var,t⟩:VarType)] 0 o'127 ho126) _ rfl _ ?_)
      ·exact(gT (by simp) (by simp -dsimp[h1,q2,h3,q4,h6,q7,h8,q9]))
      rcases o'127 with r0144|sx128
      ·dsimp only at hF
       cases hF
       intro st h
       simpa using h
      ·dsimp only at hF
       refine kB hF fun o'141 ho140 hF=> ?_
       refine zL _ ?_ (((CC.f163 B hB1 hB2 sx128) (fun _=>false) 0 o'141 ho140) _ rfl _ ?_)
       ·exact(gT (by simp) (by simp -dsimp))
       rcases o'141 with r0143|sx142
       ·dsimp only at hF
        cases hF
        intro st h
        simpa using h
       ·dsimp only at hF
        cases hF
        exact kc0
  ·cases hF
   exact kc2 h1 q2
 ·intro _f_f164 _f_f166 ih_f164 ih_f166 p deep v z51 vars52 i53 o hF
  refine ZI rfl fun Q hq hk hs=> ?_
  have b0:=hk 0
  simp -dsimp at b0
  have b12:=hk 12
  simp -dsimp at b12
  have b60:=hk 60
  simp -dsimp at b60
  have d2:=hs 2 _ rfl
  simp -dsimp[yK]at d2
  have d3:=hs 3 _ rfl
  simp -dsimp[yK]at d3
  clear hk hs
  refine eN ?_
  revert hF;refine kS ?_ ?_<;>intro h54 q55 hF
  ·have z56:((i53:Int)<(p.kids.length:Int)):=auz
   apply oB hF;intro x57 e58 hF
   have le58:=ZA e58
   refine ZP h54 z56 e58 ?_
   refine yL [182] [(0,0),(0,0),(0,0),(0,0),(0,0),(0,0),(0,0),(0,0),(0,0),(0,1),(1,1),(1,1),(1,1),(1,1),(1,1)] [1,1,1,1,1,1,1,1,1,1,1,1,1,1,1] follows ?_
   apply oB hF;intro x59 e60 hF
   have le60:=ZA e60
   refine ZAu h54 z56 e58 e60 ?_
   apply oB hF;intro v61 e62 hF
   refine((ih_f164 x59 x57 (i64.wrap (deep+1)) z51 v61 e62)).ego 0 rfl (by simp[h54,z56,↓e58,↓e60]) (by simp) (by simp[h54,z56,↓e58,↓e60]) ?_
   refine ZAu h54 z56 e58 e60 ?_
   revert hF;refine aN (fun h63 q64 hF=> ?_) (fun h63 q64 hF=> ?_)
   ·cases hF
    refine ZAT h54 z56 e58 e60 h63 q64 ?_
    refine lG _ (gR _) (hq _ ?_)
    repeat first|refine cg ?_|simp -dsimp[h54,z56,↓e58,↓e60,h63,q64]
   ·refine ZAT h54 z56 e58 e60 h63 q64 ?_
    revert hF;refine aS ?_ ?_<;>intro h65 q66 hF
    ·repeat first|refine cg ?_|simp -dsimp[h54,z56,↓e58,↓e60,h63,q64,h65]
     revert hF;refine aS ?_ ?_<;>intro h67 q68 hF
     ·have z69:((i53:Int)=1):=auz
      repeat first|refine cg ?_|simp -dsimp[h54,z56,↓e58,↓e60,h63,q64,h65,eq_true h67,eq_true z69]
      apply oB hF;intro v70 e71 hF
      refine((C.f160 B hB1 hB2 vars52 v61.1 v70 e71)).lend (by simp -dsimp[h54,z56,↓e58,↓e60,h63,q64,h65,eq_true h67,eq_true z69]) (by simp -dsimp) ?_
      repeat first|refine cg ?_|simp -dsimp[h54,z56,↓e58,↓e60,h63,q64,h65,eq_true h67,eq_true z69]
      revert hF;refine aN (fun h72 q73 hF=> ?_) (fun h72 q73 hF=> ?_)
      ·cases hF
       repeat first|refine cg ?_|simp -dsimp[h54,z56,↓e58,↓e60,h63,q64,h65,eq_true h67,eq_true z69,h72,q73]
       refine lG _ (gR _) (hq _ ?_)
       repeat first|refine cg ?_|simp -dsimp[h54,z56,↓e58,↓e60,h63,q64,h65,eq_true h67,eq_true z69,h72,q73]
      ·have w74:i64.wrap ((i53:Int)+1)=(i53:Int)+1:=ZD (by omega) (by omega)
       repeat first|refine cg ?_|simp -dsimp[h54,z56,↓e58,↓e60,h63,q64,h65,eq_true h67,eq_true z69,h72,q73,w74]
       refine aG _ ?_ ((ih_f166 p deep v v61.2.2 vars52 (i53+1) o hF) _ rfl _ hq)
       exact(gT (by simp) (by simp -dsimp[h54,z56,↓e58,↓e60,h63,q64,h65,eq_true h67,eq_true z69,h72,q73,w74]))
     ·have z69:¬((i53:Int)=1):=auz
      apply oC hF;intro c75 hF
      have w76:i64.wrap ((i53:Int)+1)=(i53:Int)+1:=ZD (by omega) (by omega)
      repeat first|refine cg ?_|simp -dsimp[h54,z56,↓e58,↓e60,h63,q64,h65,h67,q68,z69,w76]
      refine aG _ ?_ ((ih_f166 p deep v v61.2.2 (vars52++v61.1) (i53+1) o hF) _ rfl _ hq)
      exact(gT (by simp) (by simp -dsimp[h54,z56,↓e58,↓e60,h63,q64,h65,h67,q68,z69,w76]))
    ·apply oC hF;intro c77 hF
     have w78:i64.wrap ((i53:Int)+1)=(i53:Int)+1:=ZD (by omega) (by omega)
     repeat first|refine cg ?_|simp -dsimp[h54,z56,↓e58,↓e60,h63,q64,h65,q66,w78]
     refine aG _ ?_ ((ih_f166 p deep v v61.2.2 (vars52++v61.1) (i53+1) o hF) _ rfl _ hq)
     exact(gT (by simp) (by simp -dsimp[h54,z56,↓e58,↓e60,h63,q64,h65,q66,w78]))
  ·have z56:¬((i53:Int)<(p.kids.length:Int)):=auz
   cases hF
   refine kx3 h54 q55 z56 ?_
   refine zH hq
 ·intro _f_f164 _f_f165 ih_f164 ih_f165 p deep v z vars i o hF
  refine ZI rfl fun Q hq hk hs=> ?_
  have b0:=hk 0
  simp -dsimp at b0
  have b12:=hk 12
  simp -dsimp at b12
  have b60:=hk 60
  simp -dsimp at b60
  have d2:=hs 2 _ rfl
  simp -dsimp[yK]at d2
  have d4:=hs 4 _ rfl
  simp -dsimp[yK]at d4
  clear hk hs
  refine eN ?_
  revert hF;refine kS ?_ ?_<;>intro h12 q13 hF
  ·have z14:((i:Int)<(p.kids.length:Int)):=auz
   apply oB hF;intro x e15 hF
   have le15:=ZA e15
   refine ZP h12 z14 e15 ?_
   refine yL [182] [(0,0),(0,0),(0,0),(0,0),(0,0),(0,0),(0,0),(0,0),(0,0),(0,1),(1,1),(1,1),(1,1),(1,1),(1,1)] [1,1,1,1,1,1,1,1,1,1,1,1,1,1,1] follows ?_
   apply oB hF;intro x16 e17 hF
   have le17:=ZA e17
   refine ZAu h12 z14 e15 e17 ?_
   apply oB hF;intro v18 e19 hF
   refine((ih_f164 x16 x (i64.wrap (deep+1)) z v18 e19)).ego 0 rfl (by simp[h12,z14,↓e15,↓e17]) (by simp) (by simp[h12,z14,↓e15,↓e17]) ?_
   refine ZAu h12 z14 e15 e17 ?_
   revert hF;refine aN (fun h20 q21 hF=> ?_) (fun h20 q21 hF=> ?_)
   ·cases hF
    refine ZAT h12 z14 e15 e17 h20 q21 ?_
    refine lG _ (gR _) (hq _ ?_)
    repeat first|refine cg ?_|simp -dsimp[h12,z14,↓e15,↓e17,h20,q21]
   ·refine ZAT h12 z14 e15 e17 h20 q21 ?_
    revert hF;refine aS ?_ ?_<;>intro h22 q23 hF
    ·repeat first|refine cg ?_|simp -dsimp[h12,z14,↓e15,↓e17,h20,q21,h22]
     revert hF;refine aS ?_ ?_<;>intro h24 q25 hF
     ·have z26:((i:Int)=1):=auz
      repeat first|refine cg ?_|simp -dsimp[h12,z14,↓e15,↓e17,h20,q21,h22,eq_true h24,eq_true z26]
      apply oB hF;intro v27 e28 hF
      refine((C.f160 B hB1 hB2 vars v18.1 v27 e28)).lend (by simp -dsimp[h12,z14,↓e15,↓e17,h20,q21,h22,eq_true h24,eq_true z26]) (by simp -dsimp) ?_
      repeat first|refine cg ?_|simp -dsimp[h12,z14,↓e15,↓e17,h20,q21,h22,eq_true h24,eq_true z26]
      revert hF;refine aN (fun h29 q30 hF=> ?_) (fun h29 q30 hF=> ?_)
      ·cases hF
       repeat first|refine cg ?_|simp -dsimp[h12,z14,↓e15,↓e17,h20,q21,h22,eq_true h24,eq_true z26,h29,q30]
       refine lG _ (gR _) (hq _ ?_)
       repeat first|refine cg ?_|simp -dsimp[h12,z14,↓e15,↓e17,h20,q21,h22,eq_true h24,eq_true z26,h29,q30]
      ·have w31:i64.wrap ((i:Int)+1)=(i:Int)+1:=ZD (by omega) (by omega)
       repeat first|refine cg ?_|simp -dsimp[h12,z14,↓e15,↓e17,h20,q21,h22,eq_true h24,eq_true z26,h29,q30,w31]
       refine aG _ ?_ ((ih_f165 p deep v v18.2.2 vars (i+1) o hF) _ rfl _ hq)
       exact(gT (by simp) (by simp -dsimp[h12,z14,↓e15,↓e17,h20,q21,h22,eq_true h24,eq_true z26,h29,q30,w31]))
     ·have z26:¬((i:Int)=1):=auz
      apply oC hF;intro c32 hF
      have w33:i64.wrap ((i:Int)+1)=(i:Int)+1:=ZD (by omega) (by omega)
      repeat first|refine cg ?_|simp -dsimp[h12,z14,↓e15,↓e17,h20,q21,h22,h24,q25,z26,w33]
      refine aG _ ?_ ((ih_f165 p deep v v18.2.2 (vars++v18.1) (i+1) o hF) _ rfl _ hq)
      exact(gT (by simp) (by simp -dsimp[h12,z14,↓e15,↓e17,h20,q21,h22,h24,q25,z26,w33]))
    ·apply oC hF;intro c34 hF
     have w35:i64.wrap ((i:Int)+1)=(i:Int)+1:=ZD (by omega) (by omega)
     repeat first|refine cg ?_|simp -dsimp[h12,z14,↓e15,↓e17,h20,q21,h22,q23,w35]
     refine aG _ ?_ ((ih_f165 p deep v v18.2.2 (vars++v18.1) (i+1) o hF) _ rfl _ hq)
     exact(gT (by simp) (by simp -dsimp[h12,z14,↓e15,↓e17,h20,q21,h22,q23,w35]))
  ·have z14:¬((i:Int)<(p.kids.length:Int)):=auz
   cases hF
   refine kx3 h12 q13 z14 ?_
   refine zH hq
 ·intro _f_f164 _f_f167 ih_f164 ih_f167 p deep v z98 vars99 i100 o hF
  refine ZI rfl fun Q hq hk hs=> ?_
  have b0:=hk 0
  simp -dsimp at b0
  have b12:=hk 12
  simp -dsimp at b12
  have b60:=hk 60
  simp -dsimp at b60
  have d2:=hs 2 _ rfl
  simp -dsimp[yK]at d2
  have d4:=hs 4 _ rfl
  simp -dsimp[yK]at d4
  clear hk hs
  refine eN ?_
  revert hF;refine kS ?_ ?_<;>intro h101 q102 hF
  ·have z103:((i100:Int)<(p.kids.length:Int)):=auz
   apply oB hF;intro x104 e105 hF
   have le105:=ZA e105
   refine ZP h101 z103 e105 ?_
   refine yL [182] [(0,0),(0,0),(0,0),(0,0),(0,0),(0,0),(0,0),(0,0),(0,0),(0,1),(1,1),(1,1),(1,1),(1,1),(1,1)] [1,1,1,1,1,1,1,1,1,1,1,1,1,1,1] follows ?_
   apply oB hF;intro x106 e107 hF
   have le107:=ZA e107
   refine ZAu h101 z103 e105 e107 ?_
   apply oB hF;intro v108 e109 hF
   refine((ih_f164 x106 x104 (i64.wrap (deep+1)) z98 v108 e109)).ego 0 rfl (by simp[h101,z103,↓e105,↓e107]) (by simp) (by simp[h101,z103,↓e105,↓e107]) ?_
   refine ZAu h101 z103 e105 e107 ?_
   revert hF;refine aN (fun h110 q111 hF=> ?_) (fun h110 q111 hF=> ?_)
   ·cases hF
    refine ZAT h101 z103 e105 e107 h110 q111 ?_
    refine lG _ (gR _) (hq _ ?_)
    repeat first|refine cg ?_|simp -dsimp[h101,z103,↓e105,↓e107,h110,q111]
   ·refine ZAT h101 z103 e105 e107 h110 q111 ?_
    revert hF;refine aS ?_ ?_<;>intro h112 q113 hF
    ·repeat first|refine cg ?_|simp -dsimp[h101,z103,↓e105,↓e107,h110,q111,h112]
     revert hF;refine aS ?_ ?_<;>intro h114 q115 hF
     ·have z116:((i100:Int)=1):=auz
      repeat first|refine cg ?_|simp -dsimp[h101,z103,↓e105,↓e107,h110,q111,h112,eq_true h114,eq_true z116]
      apply oB hF;intro v117 e118 hF
      refine((C.f160 B hB1 hB2 vars99 v108.1 v117 e118)).lend (by simp -dsimp[h101,z103,↓e105,↓e107,h110,q111,h112,eq_true h114,eq_true z116]) (by simp -dsimp) ?_
      repeat first|refine cg ?_|simp -dsimp[h101,z103,↓e105,↓e107,h110,q111,h112,eq_true h114,eq_true z116]
      revert hF;refine aN (fun h119 q120 hF=> ?_) (fun h119 q120 hF=> ?_)
      ·cases hF
       repeat first|refine cg ?_|simp -dsimp[h101,z103,↓e105,↓e107,h110,q111,h112,eq_true h114,eq_true z116,h119,q120]
       refine lG _ (gR _) (hq _ ?_)
       repeat first|refine cg ?_|simp -dsimp[h101,z103,↓e105,↓e107,h110,q111,h112,eq_true h114,eq_true z116,h119,q120]
      ·have w121:i64.wrap ((i100:Int)+1)=(i100:Int)+1:=ZD (by omega) (by omega)
       repeat first|refine cg ?_|simp -dsimp[h101,z103,↓e105,↓e107,h110,q111,h112,eq_true h114,eq_true z116,h119,q120,w121]
       refine aG _ ?_ ((ih_f167 p deep v v108.2.2 vars99 (i100+1) o hF) _ rfl _ hq)
       exact(gT (by simp) (by simp -dsimp[h101,z103,↓e105,↓e107,h110,q111,h112,eq_true h114,eq_true z116,h119,q120,w121]))
     ·have z116:¬((i100:Int)=1):=auz
      apply oC hF;intro c122 hF
      have w123:i64.wrap ((i100:Int)+1)=(i100:Int)+1:=ZD (by omega) (by omega)
      repeat first|refine cg ?_|simp -dsimp[h101,z103,↓e105,↓e107,h110,q111,h112,h114,q115,z116,w123]
      refine aG _ ?_ ((ih_f167 p deep v v108.2.2 (vars99++v108.1) (i100+1) o hF) _ rfl _ hq)
      exact(gT (by simp) (by simp -dsimp[h101,z103,↓e105,↓e107,h110,q111,h112,h114,q115,z116,w123]))
    ·apply oC hF;intro c124 hF
     have w125:i64.wrap ((i100:Int)+1)=(i100:Int)+1:=ZD (by omega) (by omega)
     repeat first|refine cg ?_|simp -dsimp[h101,z103,↓e105,↓e107,h110,q111,h112,q113,w125]
     refine aG _ ?_ ((ih_f167 p deep v v108.2.2 (vars99++v108.1) (i100+1) o hF) _ rfl _ hq)
     exact(gT (by simp) (by simp -dsimp[h101,z103,↓e105,↓e107,h110,q111,h112,q113,w125]))
  ·have z103:¬((i100:Int)<(p.kids.length:Int)):=auz
   cases hF
   refine kx3 h101 q102 z103 ?_
   refine zH hq
theorem C.f168 (w:List zP)(t:Ty)(p:Pattern)(r:(List VarType)×Bool)(hF:F.f168 w t p=some r):PureCall zQ B 152 [am zR w,.agg [li t.data,li t.index],.agg [li p.op,li p.ctor,li p.n,li p.m,li p.var,am zT p.kids]] (.tup [am yQ r.1,.lit (.bool r.2)]):=by
 unfold F.f168 at hF
 refine zI func152 rfl ntmps152 ?_
 refine kB hF fun v e1 hF=> ?_
 refine(((CC.f164 B hB1 hB2 w).1 t p 1 0 v e1)).go 2 rfl (by simp) (by simp) (by simp) ?_
 cases hF
 exact kc0
theorem C.f169 (g:Guard)(vars:List VarType)(r:Bool)(hF:F.f169 g vars=some r):PureCall zQ B 153 [.agg [li g.op,li g.var,li g.n],am yQ vars] (.lit (.bool r)):=by
 unfold F.f169 at hF
 refine zI func153 rfl ntmps153 ?_
 revert hF;refine kS ?_ ?_<;>intro h1 q2 hF
 ·cases hF
  exact kc1 h1
 ·refine kx2 h1 q2 ?_
  apply oB hF;intro v e3 hF
  refine((C.f128 B hB1 hB2 g.op 1 2 v e3)).goI ?_
  refine kx2 h1 q2 ?_
  revert hF;refine aS (fun h4 q5 hF=> ?_) (fun h4 q5 hF=> ?_)
  ·refine kx3 h1 q2 h4 ?_
   apply oB hF;intro v6 e7 hF
   refine((C.f128 B hB1 hB2 g.n 0 9 v6 e7)).goI ?_
   refine kx3 h1 q2 h4 ?_
   revert hF;refine aS (fun h8 q9 hF=> ?_) (fun h8 q9 hF=> ?_)
   ·refine kx4 h1 q2 h4 h8 ?_
    apply oB hF;intro v10 e11 hF
    refine((C.f155 B hB1 hB2 vars (⟨g.var,(⟨(-1),0⟩:Ty)⟩:VarType) v10 e11)).goI ?_
    cases hF
    exact kc4 h1 q2 h4 h8
   ·cases hF
    exact kc5 h1 q2 h4 h8 q9
  ·cases hF
   exact kc4 h1 q2 h4 q5
theorem C.f170 (w:List zP)(t:Ty)(c':Clause)(r:Bool)(hF:F.f170 w t c'=some r):PureCall zQ B 118 [am zR w,.agg [li t.data,li t.index],.agg [li c'.pat.op,li c'.pat.ctor,li c'.pat.n,li c'.pat.m,li c'.pat.var,am zT c'.pat.kids,li c'.guard.op,li c'.guard.var,li c'.guard.n]] (.lit (.bool r)):=by
 unfold F.f170 at hF
 refine zI func118 rfl ntmps118 ?_
 refine kB hF fun v e1 hF=> ?_
 refine((C.f168 B hB1 hB2 w t c'.pat v e1)).goI ?_
 revert hF;refine kS (fun h2 q3 hF=> ?_) (fun h2 q3 hF=> ?_)
 ·refine kx1 h2 ?_
  apply oB hF;intro v4 e5 hF
  refine((C.f169 B hB1 hB2 c'.guard v.1 v4 e5)).goI ?_
  cases hF
  exact kc1 h2
 ·cases hF
  exact kc2 h2 q3
theorem C.f171 (c':Clause)(a1:List zP)(a2:Ty)(r:Bool)(hF:F.f171 c' a1 a2=some r):PureCall zQ B 117 [.agg [li c'.pat.op,li c'.pat.ctor,li c'.pat.n,li c'.pat.m,li c'.pat.var,am zT c'.pat.kids,li c'.guard.op,li c'.guard.var,li c'.guard.n],.rptr [am zR a1] 0,.rptr [li a2.data,li a2.index] 0] (.lit (.bool r)):=by
 unfold F.f171 at hF
 refine zI func117 rfl ntmps117 ?_
 refine kB hF fun v e1 hF=> ?_
 refine((C.f170 B hB1 hB2 a1 a2 c' v e1)).goI ?_
 cases hF
 exact kc0
theorem CC.f172 (s:List Clause)(k0:List zP)(k1:Ty):(∀(i:Nat) (o:Lo Int Unit),F.f172 s k0 k1 i=some o->∀(c:Code),ZQ [1,0,1,0,0] (ZG Tryz.f151)=some c->∀(Q:Exit->ASt->Prop),o.post (fun r=>∀st,ZAB zQ Tryz.f151 (fun r' _=>r'.le (li r)) .ret st->Q .ret st) (fun s=>Q (.exit 0) ⟨[],[]⟩)->ALoopU zQ B 0 19 (hold c .mk) ⟨[(0,am zV s),(1,.fn (.func 117) [] [.rptr [am zR k0] 0,.rptr [li k1.data,li k1.index] 0]),(7,li (s.length:Int)),(8,li (i:Int))],[]⟩ (hold Q .mk)):=by
 refine F.f172.partial_correctness s k0 k1
  _
  ?_
 ·intro _f_f172 ih_f172 i o hF
  refine ZI rfl fun Q hq hk hs=> ?_
  have b0:=hk 0
  simp -dsimp at b0
  clear hk hs
  refine eN ?_
  revert hF;refine kS ?_ ?_<;>intro h1 q2 hF
  ·have z3:((i:Int)<(s.length:Int)):=auz
   apply oB hF;intro x e4 hF
   have le4:=ZA e4
   refine ZP h1 z3 e4 ?_
   apply oB hF;intro v e5 hF
   refine((C.f171 B hB1 hB2 x k0 k1 v e5)).goI ?_
   revert hF;refine kS (fun h6 q7 hF=> ?_) (fun h6 q7 hF=> ?_)
   ·cases hF
    refine kx1 h6 ?_
    refine lG _ (gR _) (hq _ ?_)
    exact kc0
   ·have w8:i64.wrap ((i:Int)+1)=(i:Int)+1:=ZD (by omega) (by omega)
    refine kx2 q7 w8 ?_
    refine zG ((ih_f172 (i+1) o hF) _ rfl _ hq)
  ·have z3:¬((i:Int)<(s.length:Int)):=auz
   cases hF
   refine kx3 h1 q2 z3 ?_
   refine zH hq
theorem C.f173 (s:List Clause)(k0:List zP)(k1:Ty)(r:Int)(hF:F.f173 s k0 k1=some r):PureCall zQ B 151 [am zV s,.fn (.func 117) [] [.rptr [am zR k0] 0,.rptr [li k1.data,li k1.index] 0]] (li r):=by
 unfold F.f173 at hF
 refine zI func151 rfl ntmps151 ?_
 refine kB hF fun o' ho9 hF=> ?_
 refine zK (((CC.f172 B hB1 hB2 s k0 k1) 0 o' ho9) _ rfl _ ?_)
 rcases o' with r0|sx
 ·dsimp only at hF
  cases hF
  intro st h
  simpa using h
 ·dsimp only at hF
  cases hF
  exact kc0
theorem C.f174 (s:List Clause)(k0:List zP)(k1:Ty)(r:Bool)(hF:F.f174 s k0 k1=some r):PureCall zQ B 116 [am zV s,.fn (.func 117) [] [.rptr [am zR k0] 0,.rptr [li k1.data,li k1.index] 0]] (.lit (.bool r)):=by
 unfold F.f174 at hF
 refine zI func116 rfl ntmps116 ?_
 refine kB hF fun v e1 hF=> ?_
 refine((C.f173 B hB1 hB2 s k0 k1 v e1)).goI ?_
 cases hF
 exact kc0
theorem C.f175 (w:List zP)(t:Ty)(list:List Clause)(r:Bool)(hF:F.f175 w t list=some r):PureCall zQ B 75 [am zR w,.agg [li t.data,li t.index],am zV list] (.lit (.bool r)):=by
 unfold F.f175 at hF
 refine zI func75 rfl ntmps75 ?_
 refine kB hF fun v e1 hF=> ?_
 refine((C.f141 B hB1 hB2 w t v e1)).goI ?_
 revert hF;refine kS (fun h2 q3 hF=> ?_) (fun h2 q3 hF=> ?_)
 ·refine kx1 h2 ?_
  revert hF;refine aS ?_ ?_<;>intro h4 q5 hF
  ·have z6:((list.length:Int)<=8):=auz
   refine kx3 h2 h4 z6 ?_
   apply oB hF;intro v7 e8 hF
   refine((C.f174 B hB1 hB2 list w t v7 e8)).lend (by simp -dsimp[h2,h4,z6]) (by simp -dsimp) ?_
   cases hF
   exact kc3 h2 h4 z6
  ·have z6:¬((list.length:Int)<=8):=auz
   cases hF
   exact kc4 h2 h4 q5 z6
 ·cases hF
  exact kc2 h2 q3
theorem CC.f176  :(∀(p:Pattern) (r:Int),F.f176 p=some r->PureCall zQ B 119 [.agg [li p.op,li p.ctor,li p.n,li p.m,li p.var,am zT p.kids]] (li r))/\
  (∀(p:Pattern) (i15:Nat) (n16:Int) (o:Int),F.f178 p i15 n16=some o->∀(c:Code),ZQ [1,1,1,0,1,0,0] (ZG Tryz.f119)=some c->∀(Q:Exit->ASt->Prop),(Q (.exit 0) ⟨[(3,li o)],[]⟩)->ALoopU zQ B 0 31 (hold c .mk) ⟨[(1,.ptr 0 0),(3,li n16),(10,am zT p.kids),(11,li (p.kids.length:Int)),(12,li (i15:Int))],[.cells [li p.op,li p.ctor,li p.n,li p.m,li p.var,am zT p.kids]]⟩ (hold Q .mk))/\
  (∀(p:Pattern) (i:Nat) (n:Int) (o:Int),F.f177 p i n=some o->∀(c:Code),ZQ [1,1,1,0,1,0,0] (ZG Tryz.f119)=some c->∀(Q:Exit->ASt->Prop),(Q (.exit 0) ⟨[(3,li o)],[]⟩)->ALoopU zQ B 0 31 (hold c .mk) ⟨[(1,.ptr 0 0),(3,li n),(10,am zT p.kids),(11,li (p.kids.length:Int)),(12,li (i:Int))],[.cells [li p.op,li p.ctor,li p.n,li p.m,li p.var,am zT p.kids]]⟩ (hold Q .mk)):=by
 refine F.f176.mutual_partial_correctness 
  _ _ _
  ?_ ?_ ?_
 ·intro _f_f178 _f_f177 ih_f178 ih_f177 p r hF
  refine zI func119 rfl ntmps119 ?_
  revert hF;refine kS ?_ ?_<;>intro h1 q2 hF
  ·refine kx1 h1 ?_
   apply oB hF;intro o' ho14 hF
   refine zK ((ih_f177 p 0 0 o' ho14) _ rfl _ ?_)
   cases hF
   exact kc0
  ·refine kx1 q2 ?_
   apply oB hF;intro o'31 ho30 hF
   refine zK ((ih_f178 p 0 1 o'31 ho30) _ rfl _ ?_)
   cases hF
   exact kc0
 ·intro _f_f176 _f_f178 ih_f176 ih_f178 p i15 n16 o hF
  refine ZI rfl fun Q hq hk hs=> ?_
  have b10:=hk 10
  simp -dsimp at b10
  have d0:=hs 0 _ rfl
  simp -dsimp[yK]at d0
  clear hk hs
  refine eN ?_
  revert hF;refine kS ?_ ?_<;>intro h17 q18 hF
  ·have z19:((i15:Int)<(p.kids.length:Int)):=auz
   apply oB hF;intro x20 e21 hF
   have le21:=ZA e21
   refine ZP h17 z19 e21 ?_
   revert hF;refine aS ?_ ?_<;>intro h22 q23 hF
   ·refine kx1 h22 ?_
    apply oB hF;intro v24 e25 hF
    refine((ih_f176 x20 v24 e25)).goI ?_
    have w26:i64.wrap ((i15:Int)+1)=(i15:Int)+1:=ZD (by omega) (by omega)
    refine kx1 w26 ?_
    refine zG ((ih_f178 p (i15+1) (if 401<i64.wrap (n16+v24)then 401 else i64.wrap (n16+v24)) o hF) _ rfl _ hq)
   ·refine kx1 q23 ?_
    apply oB hF;intro v27 e28 hF
    refine((ih_f176 x20 v27 e28)).goI ?_
    have w29:i64.wrap ((i15:Int)+1)=(i15:Int)+1:=ZD (by omega) (by omega)
    refine kx1 w29 ?_
    refine zG ((ih_f178 p (i15+1) (if 401<i64.wrap (n16*v27)then 401 else i64.wrap (n16*v27)) o hF) _ rfl _ hq)
  ·have z19:¬((i15:Int)<(p.kids.length:Int)):=auz
   cases hF
   refine kx3 h17 q18 z19 ?_
   refine zH hq
 ·intro _f_f176 _f_f177 ih_f176 ih_f177 p i n o hF
  refine ZI rfl fun Q hq hk hs=> ?_
  have b10:=hk 10
  simp -dsimp at b10
  have d0:=hs 0 _ rfl
  simp -dsimp[yK]at d0
  clear hk hs
  refine eN ?_
  revert hF;refine kS ?_ ?_<;>intro h3 q4 hF
  ·have z5:((i:Int)<(p.kids.length:Int)):=auz
   apply oB hF;intro x e6 hF
   have le6:=ZA e6
   refine ZP h3 z5 e6 ?_
   revert hF;refine aS ?_ ?_<;>intro h7 q8 hF
   ·refine kx1 h7 ?_
    apply oB hF;intro v e9 hF
    refine((ih_f176 x v e9)).goI ?_
    have w10:i64.wrap ((i:Int)+1)=(i:Int)+1:=ZD (by omega) (by omega)
    refine kx1 w10 ?_
    refine zG ((ih_f177 p (i+1) (if 401<i64.wrap (n+v)then 401 else i64.wrap (n+v)) o hF) _ rfl _ hq)
   ·refine kx1 q8 ?_
    apply oB hF;intro v11 e12 hF
    refine((ih_f176 x v11 e12)).goI ?_
    have w13:i64.wrap ((i:Int)+1)=(i:Int)+1:=ZD (by omega) (by omega)
    refine kx1 w13 ?_
    refine zG ((ih_f177 p (i+1) (if 401<i64.wrap (n*v11)then 401 else i64.wrap (n*v11)) o hF) _ rfl _ hq)
  ·have z5:¬((i:Int)<(p.kids.length:Int)):=auz
   cases hF
   refine kx3 h3 q4 z5 ?_
   refine zH hq
end Go.Proofs.YtnockmfobogfpaaGreat
