/- Part. -/
import Derived.Test.YtojdombnghnbmaaGreatProg
import Derived.Test.YtojdombnghnbmaaGreatExactRunStepsF
import Derived.Test.YtojdombnghnbmaaGreatVlAuto
import Derived.Test.YtojdombnghnbmaaGreatVlSort
import Derived.Test.YtojdombnghnbmaaGreatShelf
open List renaming length->zA,map->zB,replicate->zC,length_cons->zD,length_nil->zE
open ByteArray renaming empty->zF
namespace Go.Proofs.YtojdombnghnbmaaGreat
open Go Go.Proofs Go.Vl
open Again renaming is->zG
open Leave renaming is->zH
open PureCall renaming inLe->zI,enterM->zJ
open ALoop renaming is->zK,goU->zL
open Ty renaming c->zM
open Ctor renaming c->zN,z->zO
open Go.Vl renaming Data->zP
open Go.Vl.Data renaming c->zR,z->zS
open Pattern renaming c->zT,z->zU
open Clause renaming c->zV,z->zW
open F renaming f34->zX,f33->zY,f32->zZ,f31->yA,f27->yB,f26->yC,f25->yD,f24->yE,f23->yF,f22->yG,f21->yH,f20->yI,f19->yJ
open Blk renaming bnd->yK
open ADraw renaming effI->yL,simI->yM,effP->yN,split->yO
open VarType renaming c->yP
open Gh renaming trans->yQ,packZ->yR,setRow->yS,nil->yT,frzSlot->yU
open Step renaming c->yV
open PathBind renaming c->yW
open Go.Vl.Bind renaming c->yX
open Go.Proofs.Tryz
open Go.Proofs.Tryz renaming prog->zQ
open abr renaming sp->aS,ns->aN
open Leave renaming go->lG
open Again renaming go->aG
open ALoopU renaming know->kN,enter->eN
open Gh renaming to3->gT,refl->gR
open Go.IntKind (i64)
set_option linter.all false
set_option maxRecDepth 100000
set_option maxHeartbeats 4000000
set_option synthInstance.maxSize 100000
set_option synthInstance.maxHeartbeats 4000000
attribute [local irreducible] GhK ECallA ZGf aL aLg AMake MLoop AgainM LeaveM ZBd ZBG MutCall BCall chk abr ACall ALoop ALoopU ADraw Again Leave ZEr PCall ZAD awp ZIT PureCall hold
abbrev li (x:Int):AV:=.lit (.int .i64 x)
abbrev am {α:Type}(f:α->List AV)(l:List α):AV:=.arr (zB f l)
theorem follows :Tryz.prog.follows .mixedOrders=true:=by kernel_rfl
@[simp] theorem ti2 :Ze zQ 2=some ⟨.word,1,[.int .i64 0]⟩:=by kernel_rfl
@[simp] theorem ti3 :Ze zQ 3=some ⟨.word,1,[.int .i64 0]⟩:=by kernel_rfl
@[simp] theorem ti4 :Ze zQ 4=some ⟨.word,1,[.bool false]⟩:=by kernel_rfl
@[simp] theorem ti5 :Ze zQ 5=some ⟨.word,1,[.int .u8 0]⟩:=by kernel_rfl
@[simp] theorem ti6 :Ze zQ 6=some ⟨.word,1,[.int .u8 0]⟩:=by kernel_rfl
@[simp] theorem ti7 :Ze zQ 7=some ⟨.struct [(0,1),(1,1),(2,1),(3,1)],4,[.int .i64 0,.int .i64 0,.bool false,.int .u8 0]⟩:=by kernel_rfl
@[simp] theorem ti9 :Ze zQ 9=some ⟨.word,1,[.string zF]⟩:=by kernel_rfl
@[simp] theorem ZR8 :Ze zQ 22=some ⟨.slice 2 40 [.string zF,.slice none 0 0],1,[.slice none 0 0]⟩:=by kernel_rfl
@[simp] theorem ZSN :ZC2 zQ 22=true:=by kernel_rfl
@[simp] theorem ZR7 :Ze zQ 24=some ⟨.struct [(0,1),(1,1)],2,[.int .i64 0,.int .i64 0]⟩:=by kernel_rfl
@[simp] theorem ZSR :ZBm zQ 24=true:=by kernel_rfl
@[simp] theorem ZR6 :Ze zQ 25=some ⟨.slice 9 88 [.int .i64 0,.int .i64 0,.int .i64 0,.int .i64 0,.int .i64 0,.slice none 0 0,.int .i64 0,.int .i64 0,.int .i64 0],1,[.slice none 0 0]⟩:=by kernel_rfl
@[simp] theorem ZSM :ZC2 zQ 25=true:=by kernel_rfl
@[simp] theorem ZR5 :Ze zQ 26=some ⟨.slice 3 40 [.int .i64 0,.int .i64 0,.slice none 0 0],1,[.slice none 0 0]⟩:=by kernel_rfl
@[simp] theorem ZSL :ZC2 zQ 26=true:=by kernel_rfl
@[simp] theorem ZR4 :Ze zQ 28=some ⟨.struct [(0,1),(1,1),(2,1)],3,[.int .i64 0,.int .i64 0,.slice none 0 0]⟩:=by kernel_rfl
@[simp] theorem ZR3 :Ze zQ 32=some ⟨.slice 4 48 [.int .i64 0,.int .i64 0,.int .i64 0,.slice none 0 0],1,[.slice none 0 0]⟩:=by kernel_rfl
@[simp] theorem ZSK :ZC2 zQ 32=true:=by kernel_rfl
@[simp] theorem ZR2 :Ze zQ 35=some ⟨.slice 2 40 [.string zF,.slice none 0 0],1,[.slice none 0 0]⟩:=by kernel_rfl
@[simp] theorem ZSJ :ZC2 zQ 35=true:=by kernel_rfl
@[simp] theorem ZR1 :Ze zQ 37=some ⟨.struct [(0,1),(1,1)],2,[.int .i64 0,.int .i64 0]⟩:=by kernel_rfl
@[simp] theorem ZSQ :ZBm zQ 37=true:=by kernel_rfl
@[simp] theorem ZR0 :Ze zQ 39=some ⟨.slice 9 88 [.int .i64 0,.int .i64 0,.int .i64 0,.int .i64 0,.int .i64 0,.slice none 0 0,.int .i64 0,.int .i64 0,.int .i64 0],1,[.slice none 0 0]⟩:=by kernel_rfl
@[simp] theorem ZSI :ZC2 zQ 39=true:=by kernel_rfl
@[simp] theorem ZRz :Ze zQ 41=some ⟨.slice 3 40 [.int .i64 0,.int .i64 0,.slice none 0 0],1,[.slice none 0 0]⟩:=by kernel_rfl
@[simp] theorem ZSH :ZC2 zQ 41=true:=by kernel_rfl
@[simp] theorem ZRy :Ze zQ 43=some ⟨.struct [(0,1),(1,1),(2,1)],3,[.int .i64 0,.int .i64 0,.slice none 0 0]⟩:=by kernel_rfl
@[simp] theorem ZRx :Ze zQ 55=some ⟨.slice 3 48 [.string zF,.slice none 0 0,.int .i64 0],1,[.slice none 0 0]⟩:=by kernel_rfl
@[simp] theorem ZSG :ZC2 zQ 55=true:=by kernel_rfl
@[simp] theorem ZRw :Ze zQ 57=some ⟨.struct [(0,1),(1,1)],2,[.string zF,.slice none 0 0]⟩:=by kernel_rfl
@[simp] theorem ZRv :Ze zQ 59=some ⟨.slice 6 64 [.int .i64 0,.int .i64 0,.int .i64 0,.int .i64 0,.int .i64 0,.slice none 0 0],1,[.slice none 0 0]⟩:=by kernel_rfl
@[simp] theorem ZSF :ZC2 zQ 59=true:=by kernel_rfl
@[simp] theorem ZRu :Ze zQ 61=some ⟨.struct [(0,1),(1,1),(2,1),(3,1),(4,1),(5,1)],6,[.int .i64 0,.int .i64 0,.int .i64 0,.int .i64 0,.int .i64 0,.slice none 0 0]⟩:=by kernel_rfl
@[simp] theorem ZRt :Ze zQ 63=some ⟨.struct [(0,1),(1,1),(2,1)],3,[.int .i64 0,.int .i64 0,.int .i64 0]⟩:=by kernel_rfl
@[simp] theorem ZSP :ZB7 zQ 63=true:=by kernel_rfl
@[simp] theorem ZRs :Ze zQ 65=some ⟨.struct [(0,6),(6,3)],9,[.int .i64 0,.int .i64 0,.int .i64 0,.int .i64 0,.int .i64 0,.slice none 0 0,.int .i64 0,.int .i64 0,.int .i64 0]⟩:=by kernel_rfl
@[simp] theorem ZRr :Ze zQ 67=some ⟨.slice 8 96 [.int .i64 0,.slice none 0 0,.int .i64 0,.int .i64 0,.int .i64 0,.int .i64 0,.slice none 0 0,.int .i64 0],1,[.slice none 0 0]⟩:=by kernel_rfl
@[simp] theorem ZSE :ZC2 zQ 67=true:=by kernel_rfl
@[simp] theorem ZRq :Ze zQ 71=some ⟨.slice 1 24 [.slice none 0 0],1,[.slice none 0 0]⟩:=by kernel_rfl
@[simp] theorem ZSD :ZC2 zQ 71=true:=by kernel_rfl
@[simp] theorem ZRp :Ze zQ 74=some ⟨.slice 3 48 [.string zF,.slice none 0 0,.int .i64 0],1,[.slice none 0 0]⟩:=by kernel_rfl
@[simp] theorem ZSC :ZC2 zQ 74=true:=by kernel_rfl
@[simp] theorem ZRo :Ze zQ 76=some ⟨.struct [(0,1),(1,1)],2,[.string zF,.slice none 0 0]⟩:=by kernel_rfl
@[simp] theorem ZRn :Ze zQ 78=some ⟨.slice 6 64 [.int .i64 0,.int .i64 0,.int .i64 0,.int .i64 0,.int .i64 0,.slice none 0 0],1,[.slice none 0 0]⟩:=by kernel_rfl
@[simp] theorem ZSB :ZC2 zQ 78=true:=by kernel_rfl
@[simp] theorem ZRm :Ze zQ 80=some ⟨.struct [(0,1),(1,1),(2,1),(3,1),(4,1),(5,1)],6,[.int .i64 0,.int .i64 0,.int .i64 0,.int .i64 0,.int .i64 0,.slice none 0 0]⟩:=by kernel_rfl
@[simp] theorem ZRl :Ze zQ 81=some ⟨.struct [(0,1),(1,1),(2,1)],3,[.int .i64 0,.int .i64 0,.int .i64 0]⟩:=by kernel_rfl
@[simp] theorem ZSO :ZB7 zQ 81=true:=by kernel_rfl
@[simp] theorem ZRk :Ze zQ 83=some ⟨.struct [(0,6),(6,3)],9,[.int .i64 0,.int .i64 0,.int .i64 0,.int .i64 0,.int .i64 0,.slice none 0 0,.int .i64 0,.int .i64 0,.int .i64 0]⟩:=by kernel_rfl
@[simp] theorem ZRj :Ze zQ 87=some ⟨.slice 1 8 [.int .i64 0],1,[.slice none 0 0]⟩:=by kernel_rfl
@[simp] theorem ZSA :ZC2 zQ 87=true:=by kernel_rfl
@[simp] theorem ZRi :Ze zQ 88=some ⟨.slice 2 32 [.int .i64 0,.slice none 0 0],1,[.slice none 0 0]⟩:=by kernel_rfl
@[simp] theorem ZR9 :ZC2 zQ 88=true:=by kernel_rfl
@[simp] theorem ZRh :Ze zQ 90=some ⟨.struct [(0,1),(1,1),(2,1),(3,1),(4,1),(5,1),(6,1),(7,1)],8,[.int .i64 0,.slice none 0 0,.int .i64 0,.int .i64 0,.int .i64 0,.int .i64 0,.slice none 0 0,.int .i64 0]⟩:=by kernel_rfl
@[simp] theorem ZRg :Ze zQ 94=some ⟨.struct [(0,1),(1,3)],4,[.int .i64 0,.int .i64 0,.int .i64 0,.slice none 0 0]⟩:=by kernel_rfl
@[simp] theorem ZRN :Ze zQ 115=some ⟨.slice 1 24 [.slice none 0 0],1,[.slice none 0 0]⟩:=by kernel_rfl
@[simp] theorem ZRS :ZC2 zQ 115=true:=by kernel_rfl
@[simp] theorem ZRM :Ze zQ 123=some ⟨.struct [(0,1),(1,1)],2,[.int .i64 0,.slice none 0 0]⟩:=by kernel_rfl
@[simp] theorem ZRL :Ze zQ 132=some ⟨.slice 1 1 [.int .u8 0],1,[.slice none 0 0]⟩:=by kernel_rfl
@[simp] theorem ZRR :ZC2 zQ 132=true:=by kernel_rfl
@[simp] theorem ZRK :Ze zQ 133=some ⟨.slice 2 16 [.int .i64 0,.int .i64 0],1,[.slice none 0 0]⟩:=by kernel_rfl
@[simp] theorem ZRQ :ZC2 zQ 133=true:=by kernel_rfl
@[simp] theorem ZRJ :Ze zQ 135=some ⟨.struct [(0,1),(1,1),(2,1)],3,[.string zF,.slice none 0 0,.int .i64 0]⟩:=by kernel_rfl
@[simp] theorem ZRI :Ze zQ 138=some ⟨.slice 2 16 [.int .i64 0,.int .i64 0],1,[.slice none 0 0]⟩:=by kernel_rfl
@[simp] theorem ZRP :ZC2 zQ 138=true:=by kernel_rfl
@[simp] theorem ZRH :Ze zQ 140=some ⟨.struct [(0,1),(1,1),(2,1)],3,[.string zF,.slice none 0 0,.int .i64 0]⟩:=by kernel_rfl
@[simp] theorem ZRG :Ze zQ 160=some ⟨.word,1,[.int .u64 0]⟩:=by kernel_rfl
@[simp] theorem ZRF :Ze zQ 171=some ⟨.slice 3 24 [.int .i64 0,.int .i64 0,.int .i64 0],1,[.slice none 0 0]⟩:=by kernel_rfl
@[simp] theorem ZRO :ZC2 zQ 171=true:=by kernel_rfl
@[simp] theorem ZRE :Ze zQ 203=some ⟨.struct [(0,1),(1,2)],3,[.int .i64 0,.int .i64 0,.int .i64 0]⟩:=by kernel_rfl
@[simp] theorem ZRT :ZB7 zQ 203=true:=by kernel_rfl
@[simp] theorem ZRD :ZLd zQ 205=true:=by kernel_rfl
@[simp] theorem ZRC :Ze zQ 222=some ⟨.array 6 1,6,[.bool false,.bool false,.bool false,.bool false,.bool false,.bool false]⟩:=by kernel_rfl
attribute [simp] Tryz.underlying2 Tryz.underlying3 Tryz.underlying4 Tryz.underlying5 Tryz.underlying6 Tryz.underlying9 Tryz.underlying22 Tryz.underlying25 Tryz.underlying26 Tryz.underlying32 Tryz.underlying35 Tryz.underlying39 Tryz.underlying41 Tryz.underlying55 Tryz.underlying59 Tryz.underlying67 Tryz.underlying71 Tryz.underlying74 Tryz.underlying78 Tryz.underlying87 Tryz.underlying88 Tryz.underlying115 Tryz.underlying132 Tryz.underlying133 Tryz.underlying138 Tryz.underlying160 Tryz.underlying171 Tryz.underlying222 Tryz.results3 Tryz.results4 Tryz.results5 Tryz.results6 Tryz.results7 Tryz.results8 Tryz.results9 Tryz.results10 Tryz.results11 Tryz.results12 Tryz.results13 Tryz.results14 Tryz.results15 Tryz.results16 Tryz.results17 Tryz.results18 Tryz.results19 Tryz.results20 Tryz.results21 Tryz.results22 Tryz.results23 Tryz.results24 Tryz.results25 Tryz.results26 Tryz.results27 Tryz.results28 Tryz.results29 Tryz.results30 Tryz.results31 Tryz.results32 Tryz.results33 Tryz.results34 Tryz.results35 Tryz.results36 Tryz.results37 Tryz.results38 Tryz.results39 Tryz.results40 Tryz.results41 Tryz.results42 Tryz.results43 Tryz.results44 Tryz.results45 Tryz.results46 Tryz.results47 Tryz.results48 Tryz.results49 Tryz.results50 Tryz.results51 Tryz.results52 Tryz.results53 Tryz.results54 Tryz.results55 Tryz.results56 Tryz.results57 Tryz.results58 Tryz.results59 Tryz.results60 Tryz.results61 Tryz.results64 Tryz.results65 Tryz.results66 Tryz.results67 Tryz.results68 Tryz.results69 Tryz.results70 Tryz.results71 Tryz.results72 Tryz.results73 Tryz.results74 Tryz.results75 Tryz.results76 Tryz.results77 Tryz.results78 Tryz.results79 Tryz.results80 Tryz.results81 Tryz.results82 Tryz.results83 Tryz.results84 Tryz.results85 Tryz.results86 Tryz.results87 Tryz.results88 Tryz.results89 Tryz.results90 Tryz.results91 Tryz.results92 Tryz.results93 Tryz.results97 Tryz.results98 Tryz.results99 Tryz.results100 Tryz.results101 Tryz.results102 Tryz.results103 Tryz.results104 Tryz.results105 Tryz.results106 Tryz.results107 Tryz.results108 Tryz.results109 Tryz.results110 Tryz.results111 Tryz.results112 Tryz.results113 Tryz.results114 Tryz.results115 Tryz.results116 Tryz.results117 Tryz.results118 Tryz.results119 Tryz.results120 Tryz.results121 Tryz.results132 Tryz.results133 Tryz.results134 Tryz.results135 Tryz.results136 Tryz.results137 Tryz.results138 Tryz.results139 Tryz.results140 Tryz.results141 Tryz.results142 Tryz.results143 Tryz.results144 Tryz.results145 Tryz.results151 Tryz.results152 Tryz.results153 Tryz.results154 Tryz.results155 Tryz.results156 Tryz.results157 Tryz.results158 Tryz.results159 Tryz.results160 Tryz.results161 Tryz.results162 Tryz.results163 Tryz.results165 Tryz.results166 Tryz.results167 Tryz.results168 Tryz.results169 Tryz.results170
variable (B : Nat) (hB1 : 1073741824 <= bd B) (hB2 : bd B <= 9223372036854775807)
include hB1 hB2
theorem CC.f0  :(∀(k3:Int) (out:ByteArray) (o:ByteArray),F.f0 k3 out=some o->∀(c:Code),ZP [1,1,1,0,0,0] (ZG Tryz.f39)=some c->∀(Q:Exit->ASt->Prop),(Q (.exit 0) ⟨[(3,.lit (.string o))],[]⟩)->ALoopU zQ B 0 20 (hold c .mk) ⟨[(0,li k3),(3,.lit (.string out))],[]⟩ (hold Q .mk)):=by
 refine F.f0.partial_correctness 
  _
  ?_
 ·intro _f_f0 ih_f0 k3 out o hF
  refine ZI rfl fun Q hq hk hs=> ?_
  clear hk hs
  refine eN ?_
  refine kz ?_
  revert hF;refine aS ?_ ?_<;>intro h4 q5 hF
  ·have hF:=oc hF;obtain⟨c6,hF⟩:=hF
   repeat first|refine cg ?_|simp -dsimp[h4]
   refine zG ((ih_f0 (i64.wrap (k3.tdiv 10)) ((ZHy [IntKind.u8.wrap (i64.wrap (48+k3.tmod 10))])++out) o hF) _ rfl _ hq)
  ·cases hF
   repeat first|refine cg ?_|simp -dsimp[q5]
   refine zH hq
theorem C.f1 (k:Int)(r:ByteArray)(hF:F.f1 k=some r):PureCall zQ B 39 [li k] (.lit (.string r)):=by
 unfold F.f1 at hF
 refine zI func39 rfl ntmps39 ?_
 refine kz ?_
 revert hF;refine aS ?_ ?_<;>intro h1 q2 hF
 ·cases hF
  repeat first|refine cg ?_|simp -dsimp[h1]
 ·repeat first|refine cg ?_|simp -dsimp[q2]
  have hF:=ob hF;obtain⟨o',ho7,hF⟩:=hF
  refine zK (((CC.f0 B hB1 hB2) k zF o' ho7) _ rfl _ ?_)
  have hF:=oc hF;obtain⟨c8,hF⟩:=hF
  cases hF
  repeat first|refine cg ?_|simp -dsimp
theorem C.f2 (a:List Ty)(left':Int)(r:Int)(hF:F.f2 a left'=some r):PureCall zQ B 106 [am zM a,li left'] (li r):=by
 unfold F.f2 at hF
 refine zI func106 rfl ntmps106 ?_
 refine kz ?_
 revert hF;refine aS ?_ ?_<;>intro h1 q2 hF
 ·cases hF
  repeat first|refine cg ?_|simp -dsimp[h1]
 ·cases hF
  repeat first|refine cg ?_|simp -dsimp[q2]
theorem C.f3 (a:Ctor)(left':Int)(r:Int)(hF:F.f3 a left'=some r):PureCall zQ B 73 [.agg [.lit (.string a.name),am zM a.args,li a.index],li left'] (li r):=by
 unfold F.f3 at hF
 refine zI func73 rfl ntmps73 ?_
 refine kz ?_
 revert hF;refine aS ?_ ?_<;>intro h1 q2 hF
 ·cases hF
  repeat first|refine cg ?_|simp -dsimp[h1]
 ·repeat first|refine cg ?_|simp -dsimp[q2]
  have hF:=ob hF;obtain⟨v,e3,hF⟩:=hF
  refine((C.f2 B hB1 hB2 a.args (i64.wrap (left'- (a.name.size:Int))) v e3)).goI ?_
  refine kz ?_
  revert hF;refine aS ?_ ?_<;>intro h4 q5 hF
  ·cases hF
   repeat first|refine cg ?_|simp -dsimp[h4]
  ·cases hF
   repeat first|refine cg ?_|simp -dsimp[q5]
theorem CC.f4 (a:List Ctor):(∀(left'3:Int) (i:Nat) (o:Lo Int Int),F.f4 a left'3 i=some o->∀(c:Code),ZP [1,1,1,0,1,0,0] (ZG Tryz.f44)=some c->∀(Q:Exit->ASt->Prop),o.post (fun r=>∀st,ZAD zQ Tryz.f44 (fun r' _=>r'.le (li r)) .ret st->Q .ret st) (fun s=>Q (.exit 0) ⟨[(1,li s)],[]⟩)->ALoopU zQ B 0 27 (hold c .mk) ⟨[(0,am zN a),(1,li left'3),(5,li (i:Int))],[]⟩ (hold Q .mk)):=by
 refine F.f4.partial_correctness a
  _
  ?_
 ·intro _f_f4 ih_f4 left'3 i o hF
  refine ZI rfl fun Q hq hk hs=> ?_
  have b0:=hk 0
  simp -dsimp at b0
  clear hk hs
  refine eN ?_
  refine kz ?_
  revert hF;refine aS ?_ ?_<;>intro h4 q5 hF
  ·have z6:((i:Int)<(a.length:Int)):=auz
   have hF:=ob hF;obtain⟨x,e7,hF⟩:=hF
   have le7:=ZB e7
   repeat first|refine cg ?_|simp -dsimp[h4,z6,↓e7]
   have hF:=ob hF;obtain⟨v,e8,hF⟩:=hF
   refine((C.f3 B hB1 hB2 x left'3 v e8)).goI ?_
   refine kz ?_
   revert hF;refine aS ?_ ?_<;>intro h9 q10 hF
   ·cases hF
    repeat first|refine cg ?_|simp -dsimp[h9]
    refine lG _ (gR _) (hq _ ?_)
    repeat first|refine cg ?_|simp -dsimp
   ·have w11:i64.wrap ((i:Int)+1)=(i:Int)+1:=ZE (by omega) (by omega)
    repeat first|refine cg ?_|simp -dsimp[q10,w11]
    refine zG ((ih_f4 v (i+1) o hF) _ rfl _ hq)
  ·have z6:¬((i:Int)<(a.length:Int)):=auz
   cases hF
   repeat first|refine cg ?_|simp -dsimp[h4,q5,z6]
   refine zH hq
theorem C.f5 (a:List Ctor)(left':Int)(r:Int)(hF:F.f5 a left'=some r):PureCall zQ B 44 [am zN a,li left'] (li r):=by
 unfold F.f5 at hF
 refine zI func44 rfl ntmps44 ?_
 refine kz ?_
 revert hF;refine aS ?_ ?_<;>intro h1 q2 hF
 ·cases hF
  repeat first|refine cg ?_|simp -dsimp[h1]
 ·repeat first|refine cg ?_|simp -dsimp[q2]
  have hF:=ob hF;obtain⟨o',ho12,hF⟩:=hF
  refine zK (((CC.f4 B hB1 hB2 a) (i64.wrap (left'- (a.length:Int))) 0 o' ho12) _ rfl _ ?_)
  rcases o' with r0|sx
  ·dsimp only at hF
   cases hF
   intro st h
   simpa using h
  ·dsimp only at hF
   cases hF
   repeat first|refine cg ?_|simp -dsimp
theorem C.f6 (a:zP)(left':Int)(r:Int)(hF:F.f6 a left'=some r):PureCall zQ B 22 [.agg [.lit (.string a.name),am zN a.ctors],li left'] (li r):=by
 unfold F.f6 at hF
 refine zI func22 rfl ntmps22 ?_
 refine kz ?_
 revert hF;refine aS ?_ ?_<;>intro h1 q2 hF
 ·cases hF
  repeat first|refine cg ?_|simp -dsimp[h1]
 ·repeat first|refine cg ?_|simp -dsimp[q2]
  have hF:=ob hF;obtain⟨v,e3,hF⟩:=hF
  refine((C.f5 B hB1 hB2 a.ctors (i64.wrap (left'- (a.name.size:Int))) v e3)).goI ?_
  refine kz ?_
  revert hF;refine aS ?_ ?_<;>intro h4 q5 hF
  ·cases hF
   repeat first|refine cg ?_|simp -dsimp[h4]
  ·cases hF
   repeat first|refine cg ?_|simp -dsimp[q5]
theorem CC.f7 (a:List zP):(∀(left'3:Int) (i:Nat) (o:Lo Int Int),F.f7 a left'3 i=some o->∀(c:Code),ZP [1,1,1,0,1,0,0] (ZG Tryz.f4)=some c->∀(Q:Exit->ASt->Prop),o.post (fun r=>∀st,ZAD zQ Tryz.f4 (fun r' _=>r'.le (li r)) .ret st->Q .ret st) (fun s=>Q (.exit 0) ⟨[(1,li s)],[]⟩)->ALoopU zQ B 0 27 (hold c .mk) ⟨[(0,am zR a),(1,li left'3),(5,li (i:Int))],[]⟩ (hold Q .mk)):=by
 refine F.f7.partial_correctness a
  _
  ?_
 ·intro _f_f7 ih_f7 left'3 i o hF
  refine ZI rfl fun Q hq hk hs=> ?_
  have b0:=hk 0
  simp -dsimp at b0
  clear hk hs
  refine eN ?_
  refine kz ?_
  revert hF;refine aS ?_ ?_<;>intro h4 q5 hF
  ·have z6:((i:Int)<(a.length:Int)):=auz
   have hF:=ob hF;obtain⟨x,e7,hF⟩:=hF
   have le7:=ZB e7
   repeat first|refine cg ?_|simp -dsimp[h4,z6,↓e7]
   have hF:=ob hF;obtain⟨v,e8,hF⟩:=hF
   refine((C.f6 B hB1 hB2 x left'3 v e8)).goI ?_
   refine kz ?_
   revert hF;refine aS ?_ ?_<;>intro h9 q10 hF
   ·cases hF
    repeat first|refine cg ?_|simp -dsimp[h9]
    refine lG _ (gR _) (hq _ ?_)
    repeat first|refine cg ?_|simp -dsimp
   ·have w11:i64.wrap ((i:Int)+1)=(i:Int)+1:=ZE (by omega) (by omega)
    repeat first|refine cg ?_|simp -dsimp[q10,w11]
    refine zG ((ih_f7 v (i+1) o hF) _ rfl _ hq)
  ·have z6:¬((i:Int)<(a.length:Int)):=auz
   cases hF
   repeat first|refine cg ?_|simp -dsimp[h4,q5,z6]
   refine zH hq
theorem C.f8 (a:List zP)(left':Int)(r:Int)(hF:F.f8 a left'=some r):PureCall zQ B 4 [am zR a,li left'] (li r):=by
 unfold F.f8 at hF
 refine zI func4 rfl ntmps4 ?_
 refine kz ?_
 revert hF;refine aS ?_ ?_<;>intro h1 q2 hF
 ·cases hF
  repeat first|refine cg ?_|simp -dsimp[h1]
 ·repeat first|refine cg ?_|simp -dsimp[q2]
  have hF:=ob hF;obtain⟨o',ho12,hF⟩:=hF
  refine zK (((CC.f7 B hB1 hB2 a) (i64.wrap (left'- (a.length:Int))) 0 o' ho12) _ rfl _ ?_)
  rcases o' with r0|sx
  ·dsimp only at hF
   cases hF
   intro st h
   simpa using h
  ·dsimp only at hF
   cases hF
   repeat first|refine cg ?_|simp -dsimp
theorem CC.f9  :(∀(a:Pattern) (left':Int) (r:Int),F.f9 a left'=some r->PureCall zQ B 45 [.agg [li a.op,li a.ctor,li a.n,li a.m,li a.var,am zT a.kids],li left'] (li r))/\
  (∀(a:List Pattern) (left':Int) (r:Int),F.f10 a left'=some r->PureCall zQ B 74 [am zT a,li left'] (li r))/\
  (∀(a:List Pattern) (left'3:Int) (i:Nat) (o:Lo Int Int),F.f11 a left'3 i=some o->∀(c:Code),ZP [1,1,1,0,1,0,0] (ZG Tryz.f74)=some c->∀(Q:Exit->ASt->Prop),o.post (fun r=>∀st,ZAD zQ Tryz.f74 (fun r' _=>r'.le (li r)) .ret st->Q .ret st) (fun s=>Q (.exit 0) ⟨[(1,li s)],[]⟩)->ALoopU zQ B 0 27 (hold c .mk) ⟨[(0,am zT a),(1,li left'3),(5,li (i:Int))],[]⟩ (hold Q .mk)):=by
 refine F.f9.mutual_partial_correctness 
  _ _ _
  ?_ ?_ ?_
 ·intro _f_f10 ih_f10 a left' r hF
  refine zI func45 rfl ntmps45 ?_
  refine kz ?_
  have hF:=ob hF;obtain⟨v,e1,hF⟩:=hF
  refine((ih_f10 a.kids left' v e1)).goI ?_
  refine kz ?_
  revert hF;refine aS ?_ ?_<;>intro h2 q3 hF
  ·cases hF
   repeat first|refine cg ?_|simp -dsimp[h2]
  ·cases hF
   repeat first|refine cg ?_|simp -dsimp[q3]
 ·intro _f_f11 ih_f11 a left' r hF
  refine zI func74 rfl ntmps74 ?_
  refine kz ?_
  revert hF;refine aS ?_ ?_<;>intro h1 q2 hF
  ·cases hF
   repeat first|refine cg ?_|simp -dsimp[h1]
  ·repeat first|refine cg ?_|simp -dsimp[q2]
   have hF:=ob hF;obtain⟨o',ho12,hF⟩:=hF
   refine zK ((ih_f11 a (i64.wrap (left'- (a.length:Int))) 0 o' ho12) _ rfl _ ?_)
   rcases o' with r0|sx
   ·dsimp only at hF
    cases hF
    intro st h
    simpa using h
   ·dsimp only at hF
    cases hF
    repeat first|refine cg ?_|simp -dsimp
 ·intro _f_f9 _f_f11 ih_f9 ih_f11 a left'3 i o hF
  refine ZI rfl fun Q hq hk hs=> ?_
  have b0:=hk 0
  simp -dsimp at b0
  clear hk hs
  refine eN ?_
  refine kz ?_
  revert hF;refine aS ?_ ?_<;>intro h4 q5 hF
  ·have z6:((i:Int)<(a.length:Int)):=auz
   have hF:=ob hF;obtain⟨x,e7,hF⟩:=hF
   have le7:=ZB e7
   repeat first|refine cg ?_|simp -dsimp[h4,z6,↓e7]
   have hF:=ob hF;obtain⟨v,e8,hF⟩:=hF
   refine((ih_f9 x left'3 v e8)).goI ?_
   refine kz ?_
   revert hF;refine aS ?_ ?_<;>intro h9 q10 hF
   ·cases hF
    repeat first|refine cg ?_|simp -dsimp[h9]
    refine lG _ (gR _) (hq _ ?_)
    repeat first|refine cg ?_|simp -dsimp
   ·have w11:i64.wrap ((i:Int)+1)=(i:Int)+1:=ZE (by omega) (by omega)
    repeat first|refine cg ?_|simp -dsimp[q10,w11]
    refine zG ((ih_f11 a v (i+1) o hF) _ rfl _ hq)
  ·have z6:¬((i:Int)<(a.length:Int)):=auz
   cases hF
   repeat first|refine cg ?_|simp -dsimp[h4,q5,z6]
   refine zH hq
theorem C.f12 (a:Clause)(left':Int)(r:Int)(hF:F.f12 a left'=some r):PureCall zQ B 23 [.agg [li a.pat.op,li a.pat.ctor,li a.pat.n,li a.pat.m,li a.pat.var,am zT a.pat.kids,li a.guard.op,li a.guard.var,li a.guard.n],li left'] (li r):=by
 unfold F.f12 at hF
 refine zI func23 rfl ntmps23 ?_
 refine kz ?_
 have hF:=ob hF;obtain⟨v,e1,hF⟩:=hF
 refine(((CC.f9 B hB1 hB2).1 a.pat left' v e1)).goI ?_
 refine kz ?_
 revert hF;refine aS ?_ ?_<;>intro h2 q3 hF
 ·cases hF
  repeat first|refine cg ?_|simp -dsimp[h2]
 ·cases hF
  repeat first|refine cg ?_|simp -dsimp[q3]
theorem CC.f13 (a:List Clause):(∀(left'3:Int) (i:Nat) (o:Lo Int Int),F.f13 a left'3 i=some o->∀(c:Code),ZP [1,1,1,0,1,0,0] (ZG Tryz.f5)=some c->∀(Q:Exit->ASt->Prop),o.post (fun r=>∀st,ZAD zQ Tryz.f5 (fun r' _=>r'.le (li r)) .ret st->Q .ret st) (fun s=>Q (.exit 0) ⟨[(1,li s)],[]⟩)->ALoopU zQ B 0 27 (hold c .mk) ⟨[(0,am zV a),(1,li left'3),(5,li (i:Int))],[]⟩ (hold Q .mk)):=by
 refine F.f13.partial_correctness a
  _
  ?_
 ·intro _f_f13 ih_f13 left'3 i o hF
  refine ZI rfl fun Q hq hk hs=> ?_
  have b0:=hk 0
  simp -dsimp at b0
  clear hk hs
  refine eN ?_
  refine kz ?_
  revert hF;refine aS ?_ ?_<;>intro h4 q5 hF
  ·have z6:((i:Int)<(a.length:Int)):=auz
   have hF:=ob hF;obtain⟨x,e7,hF⟩:=hF
   have le7:=ZB e7
   repeat first|refine cg ?_|simp -dsimp[h4,z6,↓e7]
   have hF:=ob hF;obtain⟨v,e8,hF⟩:=hF
   refine((C.f12 B hB1 hB2 x left'3 v e8)).goI ?_
   refine kz ?_
   revert hF;refine aS ?_ ?_<;>intro h9 q10 hF
   ·cases hF
    repeat first|refine cg ?_|simp -dsimp[h9]
    refine lG _ (gR _) (hq _ ?_)
    repeat first|refine cg ?_|simp -dsimp
   ·have w11:i64.wrap ((i:Int)+1)=(i:Int)+1:=ZE (by omega) (by omega)
    repeat first|refine cg ?_|simp -dsimp[q10,w11]
    refine zG ((ih_f13 v (i+1) o hF) _ rfl _ hq)
  ·have z6:¬((i:Int)<(a.length:Int)):=auz
   cases hF
   repeat first|refine cg ?_|simp -dsimp[h4,q5,z6]
   refine zH hq
theorem C.f14 (a:List Clause)(left':Int)(r:Int)(hF:F.f14 a left'=some r):PureCall zQ B 5 [am zV a,li left'] (li r):=by
 unfold F.f14 at hF
 refine zI func5 rfl ntmps5 ?_
 refine kz ?_
 revert hF;refine aS ?_ ?_<;>intro h1 q2 hF
 ·cases hF
  repeat first|refine cg ?_|simp -dsimp[h1]
 ·repeat first|refine cg ?_|simp -dsimp[q2]
  have hF:=ob hF;obtain⟨o',ho12,hF⟩:=hF
  refine zK (((CC.f13 B hB1 hB2 a) (i64.wrap (left'- (a.length:Int))) 0 o' ho12) _ rfl _ ?_)
  rcases o' with r0|sx
  ·dsimp only at hF
   cases hF
   intro st h
   simpa using h
  ·dsimp only at hF
   cases hF
   repeat first|refine cg ?_|simp -dsimp
theorem CC.f15  :(∀(a:Vl.Value) (left':Int) (r:Int),F.f15 a left'=some r->PureCall zQ B 6 [.agg [li a.ctor,li a.n,am Vl.Value.c a.kids],li left'] (li r))/\
  (∀(a:List Vl.Value) (left':Int) (r:Int),F.f16 a left'=some r->PureCall zQ B 24 [am Vl.Value.c a,li left'] (li r))/\
  (∀(a:List Vl.Value) (left'3:Int) (i:Nat) (o:Lo Int Int),F.f17 a left'3 i=some o->∀(c:Code),ZP [1,1,1,0,1,0,0] (ZG Tryz.f24)=some c->∀(Q:Exit->ASt->Prop),o.post (fun r=>∀st,ZAD zQ Tryz.f24 (fun r' _=>r'.le (li r)) .ret st->Q .ret st) (fun s=>Q (.exit 0) ⟨[(1,li s)],[]⟩)->ALoopU zQ B 0 27 (hold c .mk) ⟨[(0,am Vl.Value.c a),(1,li left'3),(5,li (i:Int))],[]⟩ (hold Q .mk)):=by
 refine F.f15.mutual_partial_correctness 
  _ _ _
  ?_ ?_ ?_
 ·intro _f_f16 ih_f16 a left' r hF
  refine zI func6 rfl ntmps6 ?_
  refine kz ?_
  have hF:=ob hF;obtain⟨v,e1,hF⟩:=hF
  refine((ih_f16 a.kids left' v e1)).goI ?_
  refine kz ?_
  revert hF;refine aS ?_ ?_<;>intro h2 q3 hF
  ·cases hF
   repeat first|refine cg ?_|simp -dsimp[h2]
  ·cases hF
   repeat first|refine cg ?_|simp -dsimp[q3]
 ·intro _f_f17 ih_f17 a left' r hF
  refine zI func24 rfl ntmps24 ?_
  refine kz ?_
  revert hF;refine aS ?_ ?_<;>intro h1 q2 hF
  ·cases hF
   repeat first|refine cg ?_|simp -dsimp[h1]
  ·repeat first|refine cg ?_|simp -dsimp[q2]
   have hF:=ob hF;obtain⟨o',ho12,hF⟩:=hF
   refine zK ((ih_f17 a (i64.wrap (left'- (a.length:Int))) 0 o' ho12) _ rfl _ ?_)
   rcases o' with r0|sx
   ·dsimp only at hF
    cases hF
    intro st h
    simpa using h
   ·dsimp only at hF
    cases hF
    repeat first|refine cg ?_|simp -dsimp
 ·intro _f_f15 _f_f17 ih_f15 ih_f17 a left'3 i o hF
  refine ZI rfl fun Q hq hk hs=> ?_
  have b0:=hk 0
  simp -dsimp at b0
  clear hk hs
  refine eN ?_
  refine kz ?_
  revert hF;refine aS ?_ ?_<;>intro h4 q5 hF
  ·have z6:((i:Int)<(a.length:Int)):=auz
   have hF:=ob hF;obtain⟨x,e7,hF⟩:=hF
   have le7:=ZB e7
   repeat first|refine cg ?_|simp -dsimp[h4,z6,↓e7]
   have hF:=ob hF;obtain⟨v,e8,hF⟩:=hF
   refine((ih_f15 x left'3 v e8)).goI ?_
   refine kz ?_
   revert hF;refine aS ?_ ?_<;>intro h9 q10 hF
   ·cases hF
    repeat first|refine cg ?_|simp -dsimp[h9]
    refine lG _ (gR _) (hq _ ?_)
    repeat first|refine cg ?_|simp -dsimp
   ·have w11:i64.wrap ((i:Int)+1)=(i:Int)+1:=ZE (by omega) (by omega)
    repeat first|refine cg ?_|simp -dsimp[q10,w11]
    refine zG ((ih_f17 a v (i+1) o hF) _ rfl _ hq)
  ·have z6:¬((i:Int)<(a.length:Int)):=auz
   cases hF
   repeat first|refine cg ?_|simp -dsimp[h4,q5,z6]
   refine zH hq
theorem C.f18 (a:Ty)(r:Ty)(hF:F.f18 a=some r):PureCall zQ B 9 [.agg [li a.data,li a.index]] (.agg [li r.data,li r.index]):=by
 unfold F.f18 at hF
 refine zI func9 rfl ntmps9 ?_
 cases hF
 repeat first|refine cg ?_|simp -dsimp
theorem CC.f19 (a:List Ty):(∀(out:List Ty) (i:Nat) (o:List Ty),yJ a out i=some o->∀(c:Code),ZP [1,1,0,1,0,0] (ZG Tryz.f115)=some c->∀(Q:Exit->ASt->Prop),(Q (.exit 0) ⟨[(3,.own 0 (zA (α:=Ty) o))],[.elems 2 (zB zM o)]⟩)->ALoopU zQ B 0 23 (hold c .mk) ⟨[(0,am zM a),(3,.own 0 (zA (α:=Ty) out)),(4,li (i:Int))],[.elems 2 (zB zM out)]⟩ (hold Q .mk)):=by
 refine F.f19.partial_correctness a
  _
  ?_
 ·intro _f_f19 ih_f19 out i o hF
  refine ZI rfl fun Q hq hk hs=> ?_
  have b0:=hk 0
  simp -dsimp at b0
  have d0:=hs 0 _ rfl
  simp -dsimp[yK]at d0
  clear hk hs
  refine eN ?_
  refine kz ?_
  revert hF;refine aS ?_ ?_<;>intro h2 q3 hF
  ·have z4:((i:Int)<(a.length:Int)):=auz
   have hF:=ob hF;obtain⟨x,e5,hF⟩:=hF
   have le5:=ZB e5
   repeat first|refine cg ?_|simp -dsimp[h2,z4,↓e5]
   have hF:=ob hF;obtain⟨v,e6,hF⟩:=hF
   refine((C.f18 B hB1 hB2 x v e6)).goI ?_
   have hF:=ob hF;obtain⟨x7,e8,hF⟩:=hF
   have le8:=ZB e8
   have w9:i64.wrap ((i:Int)+1)=(i:Int)+1:=ZE (by omega) (by omega)
   repeat first|refine cg ?_|simp -dsimp[↓e8,w9]
   refine zG ((ih_f19 (out.set i v) (i+1) o hF) _ rfl _ hq)
  ·have z4:¬((i:Int)<(a.length:Int)):=auz
   cases hF
   repeat first|refine cg ?_|simp -dsimp[h2,q3,z4]
   refine zH hq
theorem C.f20 (a:List Ty)(r:List Ty)(hF:yI a=some r):PureCall zQ B 115 [am zM a] (am zM r):=by
 unfold yI at hF
 refine zI func115 rfl ntmps115 ?_
 have hF:=oc hF;obtain⟨c1,hF⟩:=hF
 repeat first|refine cg ?_|simp -dsimp
 have hF:=ob hF;obtain⟨o',ho10,hF⟩:=hF
 refine zK (((CC.f19 B hB1 hB2 a) (zC a.length Ty.z) 0 o' ho10) _ rfl _ ?_)
 cases hF
 repeat first|refine cg ?_|simp -dsimp
theorem C.f21 (a:Ctor)(r:Ctor)(hF:yH a=some r):PureCall zQ B 85 [.agg [.lit (.string a.name),am zM a.args,li a.index]] (.agg [.lit (.string r.name),am zM r.args,li r.index]):=by
 unfold yH at hF
 refine zI func85 rfl ntmps85 ?_
 refine kz ?_
 have hF:=ob hF;obtain⟨v,e1,hF⟩:=hF
 refine((C.f20 B hB1 hB2 a.args v e1)).goI ?_
 cases hF
 repeat first|refine cg ?_|simp -dsimp
theorem CC.f22 (a:List Ctor):(∀(out:List Ctor) (i:Nat) (o:List Ctor),yG a out i=some o->∀(c:Code),ZP [1,1,0,1,0,0] (ZG Tryz.f55)=some c->∀(Q:Exit->ASt->Prop),(Q (.exit 0) ⟨[(3,.own 0 (zA (α:=Ctor) o))],[.elems 3 (zB zN o)]⟩)->ALoopU zQ B 0 23 (hold c .mk) ⟨[(0,am zN a),(3,.own 0 (zA (α:=Ctor) out)),(4,li (i:Int))],[.elems 3 (zB zN out)]⟩ (hold Q .mk)):=by
 refine F.f22.partial_correctness a
  _
  ?_
 ·intro _f_f22 ih_f22 out i o hF
  refine ZI rfl fun Q hq hk hs=> ?_
  have b0:=hk 0
  simp -dsimp at b0
  have d0:=hs 0 _ rfl
  simp -dsimp[yK]at d0
  clear hk hs
  refine eN ?_
  refine kz ?_
  revert hF;refine aS ?_ ?_<;>intro h2 q3 hF
  ·have z4:((i:Int)<(a.length:Int)):=auz
   have hF:=ob hF;obtain⟨x,e5,hF⟩:=hF
   have le5:=ZB e5
   repeat first|refine cg ?_|simp -dsimp[h2,z4,↓e5]
   have hF:=ob hF;obtain⟨v,e6,hF⟩:=hF
   refine((C.f21 B hB1 hB2 x v e6)).goI ?_
   have hF:=ob hF;obtain⟨x7,e8,hF⟩:=hF
   have le8:=ZB e8
   have w9:i64.wrap ((i:Int)+1)=(i:Int)+1:=ZE (by omega) (by omega)
   repeat first|refine cg ?_|simp -dsimp[↓e8,w9]
   refine zG ((ih_f22 (out.set i v) (i+1) o hF) _ rfl _ hq)
  ·have z4:¬((i:Int)<(a.length:Int)):=auz
   cases hF
   repeat first|refine cg ?_|simp -dsimp[h2,q3,z4]
   refine zH hq
theorem C.f23 (a:List Ctor)(r:List Ctor)(hF:yF a=some r):PureCall zQ B 55 [am zN a] (am zN r):=by
 unfold yF at hF
 refine zI func55 rfl ntmps55 ?_
 have hF:=oc hF;obtain⟨c1,hF⟩:=hF
 repeat first|refine cg ?_|simp -dsimp
 have hF:=ob hF;obtain⟨o',ho10,hF⟩:=hF
 refine zK (((CC.f22 B hB1 hB2 a) (zC a.length zO) 0 o' ho10) _ rfl _ ?_)
 cases hF
 repeat first|refine cg ?_|simp -dsimp
theorem C.f24 (a:zP)(r:zP)(hF:yE a=some r):PureCall zQ B 28 [.agg [.lit (.string a.name),am zN a.ctors]] (.agg [.lit (.string r.name),am zN r.ctors]):=by
 unfold yE at hF
 refine zI func28 rfl ntmps28 ?_
 refine kz ?_
 have hF:=ob hF;obtain⟨v,e1,hF⟩:=hF
 refine((C.f23 B hB1 hB2 a.ctors v e1)).goI ?_
 cases hF
 repeat first|refine cg ?_|simp -dsimp
theorem CC.f25 (a:List zP):(∀(out:List zP) (i:Nat) (o:List zP),yD a out i=some o->∀(c:Code),ZP [1,1,0,1,0,0] (ZG Tryz.f8)=some c->∀(Q:Exit->ASt->Prop),(Q (.exit 0) ⟨[(3,.own 0 (zA (α:=zP) o))],[.elems 2 (zB zR o)]⟩)->ALoopU zQ B 0 23 (hold c .mk) ⟨[(0,am zR a),(3,.own 0 (zA (α:=zP) out)),(4,li (i:Int))],[.elems 2 (zB zR out)]⟩ (hold Q .mk)):=by
 refine F.f25.partial_correctness a
  _
  ?_
 ·intro _f_f25 ih_f25 out i o hF
  refine ZI rfl fun Q hq hk hs=> ?_
  have b0:=hk 0
  simp -dsimp at b0
  have d0:=hs 0 _ rfl
  simp -dsimp[yK]at d0
  clear hk hs
  refine eN ?_
  refine kz ?_
  revert hF;refine aS ?_ ?_<;>intro h2 q3 hF
  ·have z4:((i:Int)<(a.length:Int)):=auz
   have hF:=ob hF;obtain⟨x,e5,hF⟩:=hF
   have le5:=ZB e5
   repeat first|refine cg ?_|simp -dsimp[h2,z4,↓e5]
   have hF:=ob hF;obtain⟨v,e6,hF⟩:=hF
   refine((C.f24 B hB1 hB2 x v e6)).goI ?_
   have hF:=ob hF;obtain⟨x7,e8,hF⟩:=hF
   have le8:=ZB e8
   have w9:i64.wrap ((i:Int)+1)=(i:Int)+1:=ZE (by omega) (by omega)
   repeat first|refine cg ?_|simp -dsimp[↓e8,w9]
   refine zG ((ih_f25 (out.set i v) (i+1) o hF) _ rfl _ hq)
  ·have z4:¬((i:Int)<(a.length:Int)):=auz
   cases hF
   repeat first|refine cg ?_|simp -dsimp[h2,q3,z4]
   refine zH hq
theorem C.f26 (a:List zP)(r:List zP)(hF:yC a=some r):PureCall zQ B 8 [am zR a] (am zR r):=by
 unfold yC at hF
 refine zI func8 rfl ntmps8 ?_
 have hF:=oc hF;obtain⟨c1,hF⟩:=hF
 repeat first|refine cg ?_|simp -dsimp
 have hF:=ob hF;obtain⟨o',ho10,hF⟩:=hF
 refine zK (((CC.f25 B hB1 hB2 a) (zC a.length zS) 0 o' ho10) _ rfl _ ?_)
 cases hF
 repeat first|refine cg ?_|simp -dsimp
theorem CC.f27  :(∀(a:Pattern) (r:Pattern),yB a=some r->PureCall zQ B 56 [.agg [li a.op,li a.ctor,li a.n,li a.m,li a.var,am zT a.kids]] (.agg [li r.op,li r.ctor,li r.n,li r.m,li r.var,am zT r.kids]))/\
  (∀(a:List Pattern) (r:List Pattern),F.f28 a=some r->PureCall zQ B 86 [am zT a] (am zT r))/\
  (∀(a:List Pattern) (out:List Pattern) (i:Nat) (o:List Pattern),F.f29 a out i=some o->∀(c:Code),ZP [1,1,0,1,0,0] (ZG Tryz.f86)=some c->∀(Q:Exit->ASt->Prop),(Q (.exit 0) ⟨[(3,.own 0 (zA (α:=Pattern) o))],[.elems 6 (zB zT o)]⟩)->ALoopU zQ B 0 23 (hold c .mk) ⟨[(0,am zT a),(3,.own 0 (zA (α:=Pattern) out)),(4,li (i:Int))],[.elems 6 (zB zT out)]⟩ (hold Q .mk)):=by
 refine F.f27.mutual_partial_correctness 
  _ _ _
  ?_ ?_ ?_
 ·intro _f_f28 ih_f28 a r hF
  refine zI func56 rfl ntmps56 ?_
  repeat first|refine cg ?_|simp -dsimp
  have hF:=ob hF;obtain⟨v,e1,hF⟩:=hF
  refine((ih_f28 a.kids v e1)).goI ?_
  cases hF
  repeat first|refine cg ?_|simp -dsimp
 ·intro _f_f29 ih_f29 a r hF
  refine zI func86 rfl ntmps86 ?_
  have hF:=oc hF;obtain⟨c1,hF⟩:=hF
  repeat first|refine cg ?_|simp -dsimp
  have hF:=ob hF;obtain⟨o',ho10,hF⟩:=hF
  refine zK ((ih_f29 a (zC a.length zU) 0 o' ho10) _ rfl _ ?_)
  cases hF
  repeat first|refine cg ?_|simp -dsimp
 ·intro _f_f27 _f_f29 ih_f27 ih_f29 a out i o hF
  refine ZI rfl fun Q hq hk hs=> ?_
  have b0:=hk 0
  simp -dsimp at b0
  have d0:=hs 0 _ rfl
  simp -dsimp[yK]at d0
  clear hk hs
  refine eN ?_
  repeat first|refine cg ?_|simp -dsimp
  revert hF;refine aS ?_ ?_<;>intro h2 q3 hF
  ·have z4:((i:Int)<(a.length:Int)):=auz
   have hF:=ob hF;obtain⟨x,e5,hF⟩:=hF
   have le5:=ZB e5
   repeat first|refine cg ?_|simp -dsimp[h2,z4,↓e5]
   have hF:=ob hF;obtain⟨v,e6,hF⟩:=hF
   refine((ih_f27 x v e6)).goI ?_
   have hF:=ob hF;obtain⟨x7,e8,hF⟩:=hF
   have le8:=ZB e8
   have w9:i64.wrap ((i:Int)+1)=(i:Int)+1:=ZE (by omega) (by omega)
   repeat first|refine cg ?_|simp -dsimp[↓e8,w9]
   refine zG ((ih_f29 a (out.set i v) (i+1) o hF) _ rfl _ hq)
  ·have z4:¬((i:Int)<(a.length:Int)):=auz
   cases hF
   repeat first|refine cg ?_|simp -dsimp[h2,q3,z4]
   refine zH hq
theorem C.f30 (a:Guard)(r:Guard)(hF:F.f30 a=some r):PureCall zQ B 57 [.agg [li a.op,li a.var,li a.n]] (.agg [li r.op,li r.var,li r.n]):=by
 unfold F.f30 at hF
 refine zI func57 rfl ntmps57 ?_
 cases hF
 repeat first|refine cg ?_|simp -dsimp
theorem C.f31 (a:Clause)(r:Clause)(hF:yA a=some r):PureCall zQ B 29 [.agg [li a.pat.op,li a.pat.ctor,li a.pat.n,li a.pat.m,li a.pat.var,am zT a.pat.kids,li a.guard.op,li a.guard.var,li a.guard.n]] (.agg [li r.pat.op,li r.pat.ctor,li r.pat.n,li r.pat.m,li r.pat.var,am zT r.pat.kids,li r.guard.op,li r.guard.var,li r.guard.n]):=by
 unfold yA at hF
 refine zI func29 rfl ntmps29 ?_
 refine kz ?_
 have hF:=ob hF;obtain⟨v,e1,hF⟩:=hF
 refine(((CC.f27 B hB1 hB2).1 a.pat v e1)).goI ?_
 refine kz ?_
 have hF:=ob hF;obtain⟨v2,e3,hF⟩:=hF
 refine((C.f30 B hB1 hB2 a.guard v2 e3)).goI ?_
 cases hF
 repeat first|refine cg ?_|simp -dsimp
theorem CC.f32 (a:List Clause):(∀(out:List Clause) (i:Nat) (o:List Clause),zZ a out i=some o->∀(c:Code),ZP [1,1,0,1,0,0] (ZG Tryz.f10)=some c->∀(Q:Exit->ASt->Prop),(Q (.exit 0) ⟨[(3,.own 0 (zA (α:=Clause) o))],[.elems 9 (zB zV o)]⟩)->ALoopU zQ B 0 23 (hold c .mk) ⟨[(0,am zV a),(3,.own 0 (zA (α:=Clause) out)),(4,li (i:Int))],[.elems 9 (zB zV out)]⟩ (hold Q .mk)):=by
 refine F.f32.partial_correctness a
  _
  ?_
 ·intro _f_f32 ih_f32 out i o hF
  refine ZI rfl fun Q hq hk hs=> ?_
  have b0:=hk 0
  simp -dsimp at b0
  have d0:=hs 0 _ rfl
  simp -dsimp[yK]at d0
  clear hk hs
  refine eN ?_
  refine kz ?_
  revert hF;refine aS ?_ ?_<;>intro h2 q3 hF
  ·have z4:((i:Int)<(a.length:Int)):=auz
   have hF:=ob hF;obtain⟨x,e5,hF⟩:=hF
   have le5:=ZB e5
   repeat first|refine cg ?_|simp -dsimp[h2,z4,↓e5]
   have hF:=ob hF;obtain⟨v,e6,hF⟩:=hF
   refine((C.f31 B hB1 hB2 x v e6)).goI ?_
   have hF:=ob hF;obtain⟨x7,e8,hF⟩:=hF
   have le8:=ZB e8
   have w9:i64.wrap ((i:Int)+1)=(i:Int)+1:=ZE (by omega) (by omega)
   repeat first|refine cg ?_|simp -dsimp[↓e8,w9]
   refine zG ((ih_f32 (out.set i v) (i+1) o hF) _ rfl _ hq)
  ·have z4:¬((i:Int)<(a.length:Int)):=auz
   cases hF
   repeat first|refine cg ?_|simp -dsimp[h2,q3,z4]
   refine zH hq
theorem C.f33 (a:List Clause)(r:List Clause)(hF:zY a=some r):PureCall zQ B 10 [am zV a] (am zV r):=by
 unfold zY at hF
 refine zI func10 rfl ntmps10 ?_
 have hF:=oc hF;obtain⟨c1,hF⟩:=hF
 repeat first|refine cg ?_|simp -dsimp
 have hF:=ob hF;obtain⟨o',ho10,hF⟩:=hF
 refine zK (((CC.f32 B hB1 hB2 a) (zC a.length zW) 0 o' ho10) _ rfl _ ?_)
 cases hF
 repeat first|refine cg ?_|simp -dsimp
theorem CC.f34  :(∀(a:Vl.Value) (r:Vl.Value),zX a=some r->PureCall zQ B 11 [.agg [li a.ctor,li a.n,am Vl.Value.c a.kids]] (.agg [li r.ctor,li r.n,am Vl.Value.c r.kids]))/\
  (∀(a:List Vl.Value) (r:List Vl.Value),F.f35 a=some r->PureCall zQ B 30 [am Vl.Value.c a] (am Vl.Value.c r))/\
  (∀(a:List Vl.Value) (out:List Vl.Value) (i:Nat) (o:List Vl.Value),F.f36 a out i=some o->∀(c:Code),ZP [1,1,0,1,0,0] (ZG Tryz.f30)=some c->∀(Q:Exit->ASt->Prop),(Q (.exit 0) ⟨[(3,.own 0 (zA (α:=Vl.Value) o))],[.elems 3 (zB Vl.Value.c o)]⟩)->ALoopU zQ B 0 23 (hold c .mk) ⟨[(0,am Vl.Value.c a),(3,.own 0 (zA (α:=Vl.Value) out)),(4,li (i:Int))],[.elems 3 (zB Vl.Value.c out)]⟩ (hold Q .mk)):=by
 refine F.f34.mutual_partial_correctness 
  _ _ _
  ?_ ?_ ?_
 ·intro _f_f35 ih_f35 a r hF
  refine zI func11 rfl ntmps11 ?_
  repeat first|refine cg ?_|simp -dsimp
  have hF:=ob hF;obtain⟨v,e1,hF⟩:=hF
  refine((ih_f35 a.kids v e1)).goI ?_
  cases hF
  repeat first|refine cg ?_|simp -dsimp
 ·intro _f_f36 ih_f36 a r hF
  refine zI func30 rfl ntmps30 ?_
  have hF:=oc hF;obtain⟨c1,hF⟩:=hF
  repeat first|refine cg ?_|simp -dsimp
  have hF:=ob hF;obtain⟨o',ho10,hF⟩:=hF
  refine zK ((ih_f36 a (zC a.length Vl.Value.z) 0 o' ho10) _ rfl _ ?_)
  cases hF
  repeat first|refine cg ?_|simp -dsimp
 ·intro _f_f34 _f_f36 ih_f34 ih_f36 a out i o hF
  refine ZI rfl fun Q hq hk hs=> ?_
  have b0:=hk 0
  simp -dsimp at b0
  have d0:=hs 0 _ rfl
  simp -dsimp[yK]at d0
  clear hk hs
  refine eN ?_
  repeat first|refine cg ?_|simp -dsimp
  revert hF;refine aS ?_ ?_<;>intro h2 q3 hF
  ·have z4:((i:Int)<(a.length:Int)):=auz
   have hF:=ob hF;obtain⟨x,e5,hF⟩:=hF
   have le5:=ZB e5
   repeat first|refine cg ?_|simp -dsimp[h2,z4,↓e5]
   have hF:=ob hF;obtain⟨v,e6,hF⟩:=hF
   refine((ih_f34 x v e6)).goI ?_
   have hF:=ob hF;obtain⟨x7,e8,hF⟩:=hF
   have le8:=ZB e8
   have w9:i64.wrap ((i:Int)+1)=(i:Int)+1:=ZE (by omega) (by omega)
   repeat first|refine cg ?_|simp -dsimp[↓e8,w9]
   refine zG ((ih_f36 a (out.set i v) (i+1) o hF) _ rfl _ hq)
  ·have z4:¬((i:Int)<(a.length:Int)):=auz
   cases hF
   repeat first|refine cg ?_|simp -dsimp[h2,q3,z4]
   refine zH hq
theorem C.f37 (c':Int)(r:Bool)(hF:F.f37 c'=some r):PureCall zQ B 152 [.lit (.int .u8 c')] (.lit (.bool r)):=by
 unfold F.f37 at hF
 refine zI func152 rfl ntmps152 ?_
 refine kz ?_
 revert hF;refine aS ?_ ?_<;>intro h1 q2 hF
 ·cases hF
  repeat first|refine cg ?_|simp -dsimp[h1]
 ·cases hF
  repeat first|refine cg ?_|simp -dsimp[q2]
theorem C.f38 (s:ByteArray)(r:Bool)(hF:F.f38 s=some r):PureCall zQ B 134 [.lit (.string s)] (.lit (.bool r)):=by
 unfold F.f38 at hF
 refine zI func134 rfl ntmps134 ?_
 refine kz ?_
 revert hF;refine aS ?_ ?_<;>intro h1 q2 hF
 ·have z3:((s.size:Int)=1):=auz
  obtain⟨c4,hF⟩:=oc hF
  repeat first|refine cg ?_|simp -dsimp[h1,z3]
  obtain⟨v,e5,hF⟩:=ob hF
  refine((C.f37 B hB1 hB2 ((byteAt s 0:Nat):Int) v e5)).goI ?_
  repeat first|refine cg ?_|simp -dsimp[h1,z3]
  revert hF;refine aS (fun h6 q7 hF=> ?_) (fun h6 q7 hF=> ?_)
  ·cases hF
   repeat first|refine cg ?_|simp -dsimp[h1,z3,h6]
  ·cases hF
   repeat first|refine cg ?_|simp -dsimp[h1,z3,h6,q7]
 ·have z3:¬((s.size:Int)=1):=auz
  cases hF
  repeat first|refine cg ?_|simp -dsimp[h1,q2,z3]
theorem CC.f39 (s:ByteArray):(∀(i:Nat) (o:Lo Bool Unit),F.f39 s i=some o->∀(c:Code),ZP [1,1,0,1,0,0] (ZG Tryz.f153)=some c->∀(Q:Exit->ASt->Prop),o.post (fun r=>∀st,ZAD zQ Tryz.f153 (fun r' _=>r'.le (.lit (.bool r))) .ret st->Q .ret st) (fun s=>Q (.exit 0) ⟨[],[]⟩)->ALoopU zQ B 0 34 (hold c .mk) ⟨[(0,.lit (.string s)),(3,li (i:Int))],[]⟩ (hold Q .mk)):=by
 refine F.f39.partial_correctness s
  _
  ?_
 ·intro _f_f39 ih_f39 i o hF
  refine ZI rfl fun Q hq hk hs=> ?_
  clear hk hs
  refine eN ?_
  refine kz ?_
  revert hF;refine aS ?_ ?_<;>intro h11 q12 hF
  ·have z13:((i:Int)<(s.size:Int)):=auz
   repeat first|refine cg ?_|simp -dsimp[h11,z13]
   revert hF;refine aN ?_ ?_<;>intro h14 q15 hF
   ·have z16:¬(((byteAt s i:Nat):Int)<97):=auz
    repeat first|refine cg ?_|simp -dsimp[h11,z13,h14,q15,z16]
    revert hF;refine aS ?_ ?_<;>intro h17 q18 hF
    ·have z19:(122<((byteAt s i:Nat):Int)):=auz
     cases hF
     repeat first|refine cg ?_|simp -dsimp[h11,z13,h14,q15,z16,h17,z19]
     refine lG _ (gR _) (hq _ ?_)
     repeat first|refine cg ?_|simp -dsimp[h11,z13,h14,q15,z16,h17,z19]
    ·have z19:¬(122<((byteAt s i:Nat):Int)):=auz
     obtain⟨c20,hF⟩:=oc hF
     have w21:i64.wrap ((i:Int)+1)=(i:Int)+1:=ZE (by omega) (by omega)
     repeat first|refine cg ?_|simp -dsimp[h11,z13,h14,q15,z16,h17,q18,z19,w21]
     refine zG ((ih_f39 (i+1) o hF) _ rfl _ hq)
   ·have z16:(((byteAt s i:Nat):Int)<97):=auz
    cases hF
    repeat first|refine cg ?_|simp -dsimp[h11,z13,h14,q15,z16]
    refine lG _ (gR _) (hq _ ?_)
    repeat first|refine cg ?_|simp -dsimp[h11,z13,h14,q15,z16]
  ·have z13:¬((i:Int)<(s.size:Int)):=auz
   cases hF
   repeat first|refine cg ?_|simp -dsimp[h11,q12,z13]
   refine zH hq
theorem C.f40 (s:ByteArray)(r:Bool)(hF:F.f40 s=some r):PureCall zQ B 153 [.lit (.string s)] (.lit (.bool r)):=by
 unfold F.f40 at hF
 refine zI func153 rfl ntmps153 ?_
 refine kz ?_
 revert hF;refine aN ?_ ?_<;>intro h1 q2 hF
 ·have z3:¬((s.size:Int)=0):=auz
  repeat first|refine cg ?_|simp -dsimp[h1,q2,z3]
  revert hF;refine aN ?_ ?_<;>intro h4 q5 hF
  ·have z6:¬(5<(s.size:Int)):=auz
   obtain⟨c7,hF⟩:=oc hF
   repeat first|refine cg ?_|simp -dsimp[h1,q2,z3,h4,q5,z6]
   obtain⟨v,e8,hF⟩:=ob hF
   refine((C.f37 B hB1 hB2 ((byteAt s 0:Nat):Int) v e8)).goI ?_
   repeat first|refine cg ?_|simp -dsimp[h1,q2,z3,h4,q5,z6]
   revert hF;refine aN (fun h9 q10 hF=> ?_) (fun h9 q10 hF=> ?_)
   ·cases hF
    repeat first|refine cg ?_|simp -dsimp[h1,q2,z3,h4,q5,z6,h9,q10]
   ·repeat first|refine cg ?_|simp -dsimp[h1,q2,z3,h4,q5,z6,h9,q10]
    obtain⟨o',ho22,hF⟩:=ob hF
    refine zK (((CC.f39 B hB1 hB2 s) 1 o' ho22) _ rfl _ ?_)
    rcases o' with r0|sx
    ·dsimp only at hF
     cases hF
     intro st h
     simpa using h
    ·dsimp only at hF
     cases hF
     repeat first|refine cg ?_|simp -dsimp
  ·have z6:(5<(s.size:Int)):=auz
   cases hF
   repeat first|refine cg ?_|simp -dsimp[h1,q2,z3,h4,q5,z6]
 ·have z3:((s.size:Int)=0):=auz
  cases hF
  repeat first|refine cg ?_|simp -dsimp[h1,q2,z3]
theorem C.f41 (n:Int)(t:Ty)(r:Bool)(hF:F.f41 n t=some r):PureCall zQ B 137 [li n,.agg [li t.data,li t.index]] (.lit (.bool r)):=by
 unfold F.f41 at hF
 refine zI func137 rfl ntmps137 ?_
 refine kz ?_
 revert hF;refine aS ?_ ?_<;>intro h1 q2 hF
 ·cases hF
  repeat first|refine cg ?_|simp -dsimp[h1]
 ·repeat first|refine cg ?_|simp -dsimp[q2]
  revert hF;refine aS ?_ ?_<;>intro h3 q4 hF
  ·repeat first|refine cg ?_|simp -dsimp[h3]
   revert hF;refine aS ?_ ?_<;>intro h5 q6 hF
   ·repeat first|refine cg ?_|simp -dsimp[h5]
    revert hF;refine aS ?_ ?_<;>intro h7 q8 hF
    ·cases hF
     repeat first|refine cg ?_|simp -dsimp[h7]
    ·cases hF
     repeat first|refine cg ?_|simp -dsimp[q8]
   ·cases hF
    repeat first|refine cg ?_|simp -dsimp[q6]
  ·cases hF
   repeat first|refine cg ?_|simp -dsimp[q4]
theorem CC.f42 (n:Int)(c':Ctor):(∀(i:Nat) (o:Lo Bool Unit),F.f42 n c' i=some o->∀(c:Code),ZP [1,1,0,1,0,0] (ZG Tryz.f135)=some c->∀(Q:Exit->ASt->Prop),o.post (fun r=>∀st,ZAD zQ Tryz.f135 (fun r' _=>r'.le (.lit (.bool r))) .ret st->Q .ret st) (fun s=>Q (.exit 0) ⟨[],[]⟩)->ALoopU zQ B 0 41 (hold c .mk) ⟨[(0,li n),(3,.ptr 0 0),(5,li (i:Int))],[.cells [.lit (.string c'.name),am zM c'.args,li c'.index]]⟩ (hold Q .mk)):=by
 refine F.f42.partial_correctness n c'
  _
  ?_
 ·intro _f_f42 ih_f42 i o hF
  refine ZI rfl fun Q hq hk hs=> ?_
  have d0:=hs 0 _ rfl
  simp -dsimp[yK]at d0
  clear hk hs
  refine eN ?_
  refine kz ?_
  revert hF;refine aS ?_ ?_<;>intro h11 q12 hF
  ·have z13:((i:Int)<(c'.args.length:Int)):=auz
   obtain⟨x,e14,hF⟩:=ob hF
   have le14:=ZB e14
   repeat first|refine cg ?_|simp -dsimp[h11,z13,↓e14]
   obtain⟨v15,e16,hF⟩:=ob hF
   refine((C.f41 B hB1 hB2 n x v15 e16)).goI ?_
   refine kz ?_
   revert hF;refine aN (fun h17 q18 hF=> ?_) (fun h17 q18 hF=> ?_)
   ·cases hF
    repeat first|refine cg ?_|simp -dsimp[h17,q18]
    refine lG _ (gR _) (hq _ ?_)
    repeat first|refine cg ?_|simp -dsimp
   ·have w19:i64.wrap ((i:Int)+1)=(i:Int)+1:=ZE (by omega) (by omega)
    repeat first|refine cg ?_|simp -dsimp[w19]
    refine zG ((ih_f42 (i+1) o hF) _ rfl _ hq)
  ·have z13:¬((i:Int)<(c'.args.length:Int)):=auz
   cases hF
   repeat first|refine cg ?_|simp -dsimp[h11,q12,z13]
   refine zH hq
theorem C.f43 (n:Int)(c':Ctor)(r:Bool)(hF:F.f43 n c'=some r):PureCall zQ B 135 [li n,.agg [.lit (.string c'.name),am zM c'.args,li c'.index]] (.lit (.bool r)):=by
 unfold F.f43 at hF
 refine zI func135 rfl ntmps135 ?_
 refine kz ?_
 obtain⟨v,e1,hF⟩:=ob hF
 refine((C.f40 B hB1 hB2 c'.name v e1)).goI ?_
 refine kz ?_
 revert hF;refine aS (fun h2 q3 hF=> ?_) (fun h2 q3 hF=> ?_)
 ·repeat first|refine cg ?_|simp -dsimp[h2]
  revert hF;refine aN ?_ ?_<;>intro h4 q5 hF
  ·have z6:¬(3<(c'.args.length:Int)):=auz
   repeat first|refine cg ?_|simp -dsimp[h2,h4,q5,z6]
   revert hF;refine aN ?_ ?_<;>intro h7 q8 hF
   ·repeat first|refine cg ?_|simp -dsimp[h2,h4,q5,z6,h7,q8]
    revert hF;refine aS ?_ ?_<;>intro h9 q10 hF
    ·cases hF
     repeat first|refine cg ?_|simp -dsimp[h2,h4,q5,z6,h7,q8,h9]
    ·repeat first|refine cg ?_|simp -dsimp[h2,h4,q5,z6,h7,q8,h9,q10]
     obtain⟨o',ho20,hF⟩:=ob hF
     refine zK (((CC.f42 B hB1 hB2 n c') 0 o' ho20) _ rfl _ ?_)
     rcases o' with r0|sx
     ·dsimp only at hF
      cases hF
      intro st h
      simpa using h
     ·dsimp only at hF
      cases hF
      repeat first|refine cg ?_|simp -dsimp
   ·cases hF
    repeat first|refine cg ?_|simp -dsimp[h2,h4,q5,z6,h7,q8]
  ·have z6:(3<(c'.args.length:Int)):=auz
   cases hF
   repeat first|refine cg ?_|simp -dsimp[h2,h4,q5,z6]
 ·cases hF
  repeat first|refine cg ?_|simp -dsimp[h2,q3]
theorem CC.f44 (w:List zP)(d:Int)(k:Int)(i:Nat):(∀(j:Nat) (o:Lo Bool Unit),F.f44 w d k i j=some o->∀(c:Code),ZP [1,0,1,0,0,1,0,0,1,1,0,0] (ZG Tryz.f136)=some c->∀(Q:Exit->ASt->Prop),o.post (fun r=>∀st,ZAD zQ Tryz.f136 (fun r' _=>r'.le (.lit (.bool r))) .ret st->Q .ret st) (fun s=>Q (.exit 2) ⟨[(0,am zR w),(1,li d),(2,li k),(7,li (i:Int))],[]⟩)->ALoopU zQ B 0 79 (hold c .mk) ⟨[(0,am zR w),(1,li d),(2,li k),(7,li (i:Int)),(8,li (j:Int))],[]⟩ (hold Q .mk)):=by
 refine F.f44.partial_correctness w d k i
  _
  ?_
 ·intro _f_f44 ih_f44 j o hF
  refine ZI rfl fun Q hq hk hs=> ?_
  have b0:=hk 0
  simp -dsimp at b0
  clear hk hs
  refine eN ?_
  have hF:=ob hF;obtain⟨x10,e11,hF⟩:=hF
  have le11:=ZB e11
  repeat first|refine cg ?_|simp -dsimp[↓e11]
  revert hF;refine aS ?_ ?_<;>intro h12 q13 hF
  ·have z14:((j:Int)<(x10.ctors.length:Int)):=auz
   repeat first|refine cg ?_|simp -dsimp[h12,z14]
   revert hF;refine aN ?_ ?_<;>intro h15 q16 hF
   ·repeat first|refine cg ?_|simp -dsimp[↓e11,h12,z14,h15,q16]
    revert hF;refine aS ?_ ?_<;>intro h17 q18 hF
    ·repeat first|refine cg ?_|simp -dsimp[↓e11,h12,z14,h15,q16,h17]
     refine yM follows ?_
     have hF:=ob hF;obtain⟨x19,e20a,hF⟩:=hF
     have e20a:=ZX e20a;obtain⟨ne20,e20⟩:=e20a
     have le20:=ZB e20
     repeat first|refine cg ?_|simp -dsimp[↓e20]
     revert hF;refine aS ?_ ?_<;>intro h21 q22 hF
     ·have hF:=ob hF;obtain⟨x23,e24,hF⟩:=hF
      have le24:=ZB e24
      have hF:=ob hF;obtain⟨x25,e26a,hF⟩:=hF
      have e26a:=ZX e26a;obtain⟨ne26,e26⟩:=e26a
      have le26:=ZB e26
      repeat first|refine cg ?_|simp -dsimp[↓e11,h12,z14,h15,q16,h17,↓e20,h21,↓e24,↓e26]
      revert hF;refine aS ?_ ?_<;>intro h27 q28 hF
      ·cases hF
       repeat first|refine cg ?_|simp -dsimp[h27]
       refine lG _ (gR _) (hq _ ?_)
       repeat first|refine cg ?_|simp -dsimp
      ·have hF:=oc hF;obtain⟨c29,hF⟩:=hF
       have w30:i64.wrap ((j:Int)+1)=(j:Int)+1:=ZE (by omega) (by omega)
       repeat first|refine cg ?_|simp -dsimp[q28,w30]
       refine zG ((ih_f44 (j+1) o hF) _ rfl _ hq)
     ·have hF:=oc hF;obtain⟨c31,hF⟩:=hF
      have w32:i64.wrap ((j:Int)+1)=(j:Int)+1:=ZE (by omega) (by omega)
      repeat first|refine cg ?_|simp -dsimp[h21,q22,w32]
      refine zG ((ih_f44 (j+1) o hF) _ rfl _ hq)
    ·cases hF
     repeat first|refine cg ?_|simp -dsimp[↓e11,h12,z14,h15,q16,h17,q18]
     refine zH hq
   ·repeat first|refine cg ?_|simp -dsimp[↓e11,h12,z14,h15,q16]
    refine yM follows ?_
    have hF:=ob hF;obtain⟨x33,e34a,hF⟩:=hF
    have e34a:=ZX e34a;obtain⟨ne34,e34⟩:=e34a
    have le34:=ZB e34
    repeat first|refine cg ?_|simp -dsimp[↓e34]
    revert hF;refine aS ?_ ?_<;>intro h35 q36 hF
    ·have hF:=ob hF;obtain⟨x37,e38,hF⟩:=hF
     have le38:=ZB e38
     have hF:=ob hF;obtain⟨x39,e40a,hF⟩:=hF
     have e40a:=ZX e40a;obtain⟨ne40,e40⟩:=e40a
     have le40:=ZB e40
     repeat first|refine cg ?_|simp -dsimp[↓e11,h12,z14,h15,q16,↓e34,h35,↓e38,↓e40]
     revert hF;refine aS ?_ ?_<;>intro h41 q42 hF
     ·cases hF
      repeat first|refine cg ?_|simp -dsimp[h41]
      refine lG _ (gR _) (hq _ ?_)
      repeat first|refine cg ?_|simp -dsimp
     ·have hF:=oc hF;obtain⟨c43,hF⟩:=hF
      have w44:i64.wrap ((j:Int)+1)=(j:Int)+1:=ZE (by omega) (by omega)
      repeat first|refine cg ?_|simp -dsimp[q42,w44]
      refine zG ((ih_f44 (j+1) o hF) _ rfl _ hq)
    ·have hF:=oc hF;obtain⟨c45,hF⟩:=hF
     have w46:i64.wrap ((j:Int)+1)=(j:Int)+1:=ZE (by omega) (by omega)
     repeat first|refine cg ?_|simp -dsimp[h35,q36,w46]
     refine zG ((ih_f44 (j+1) o hF) _ rfl _ hq)
  ·have z14:¬((j:Int)<(x10.ctors.length:Int)):=auz
   cases hF
   repeat first|refine cg ?_|simp -dsimp[h12,q13,z14]
   refine zH hq
theorem CC.f45 (w:List zP)(d:Int)(k:Int)(i:Nat):(∀(j50:Nat) (o:Lo Bool Unit),F.f45 w d k i j50=some o->∀(c:Code),ZP [1,0,1,0,0,1,0,0,1,1,0,0] (ZG Tryz.f136)=some c->∀(Q:Exit->ASt->Prop),o.post (fun r=>∀st,ZAD zQ Tryz.f136 (fun r' _=>r'.le (.lit (.bool r))) .ret st->Q .ret st) (fun s=>Q (.exit 2) ⟨[(0,am zR w),(1,li d),(2,li k),(7,li (i:Int))],[]⟩)->ALoopU zQ B 0 79 (hold c .mk) ⟨[(0,am zR w),(1,li d),(2,li k),(7,li (i:Int)),(8,li (j50:Int))],[]⟩ (hold Q .mk)):=by
 refine F.f45.partial_correctness w d k i
  _
  ?_
 ·intro _f_f45 ih_f45 j50 o hF
  refine ZI rfl fun Q hq hk hs=> ?_
  have b0:=hk 0
  simp -dsimp at b0
  clear hk hs
  refine eN ?_
  have hF:=ob hF;obtain⟨x51,e52,hF⟩:=hF
  have le52:=ZB e52
  repeat first|refine cg ?_|simp -dsimp[↓e52]
  revert hF;refine aS ?_ ?_<;>intro h53 q54 hF
  ·have z55:((j50:Int)<(x51.ctors.length:Int)):=auz
   repeat first|refine cg ?_|simp -dsimp[h53,z55]
   revert hF;refine aN ?_ ?_<;>intro h56 q57 hF
   ·repeat first|refine cg ?_|simp -dsimp[↓e52,h53,z55,h56,q57]
    revert hF;refine aS ?_ ?_<;>intro h58 q59 hF
    ·repeat first|refine cg ?_|simp -dsimp[↓e52,h53,z55,h56,q57,h58]
     refine yM follows ?_
     have hF:=ob hF;obtain⟨x60,e61a,hF⟩:=hF
     have e61a:=ZX e61a;obtain⟨ne61,e61⟩:=e61a
     have le61:=ZB e61
     repeat first|refine cg ?_|simp -dsimp[↓e61]
     revert hF;refine aS ?_ ?_<;>intro h62 q63 hF
     ·have hF:=ob hF;obtain⟨x64,e65,hF⟩:=hF
      have le65:=ZB e65
      have hF:=ob hF;obtain⟨x66,e67a,hF⟩:=hF
      have e67a:=ZX e67a;obtain⟨ne67,e67⟩:=e67a
      have le67:=ZB e67
      repeat first|refine cg ?_|simp -dsimp[↓e52,h53,z55,h56,q57,h58,↓e61,h62,↓e65,↓e67]
      revert hF;refine aS ?_ ?_<;>intro h68 q69 hF
      ·cases hF
       repeat first|refine cg ?_|simp -dsimp[h68]
       refine lG _ (gR _) (hq _ ?_)
       repeat first|refine cg ?_|simp -dsimp
      ·have hF:=oc hF;obtain⟨c70,hF⟩:=hF
       have w71:i64.wrap ((j50:Int)+1)=(j50:Int)+1:=ZE (by omega) (by omega)
       repeat first|refine cg ?_|simp -dsimp[q69,w71]
       refine zG ((ih_f45 (j50+1) o hF) _ rfl _ hq)
     ·have hF:=oc hF;obtain⟨c72,hF⟩:=hF
      have w73:i64.wrap ((j50:Int)+1)=(j50:Int)+1:=ZE (by omega) (by omega)
      repeat first|refine cg ?_|simp -dsimp[h62,q63,w73]
      refine zG ((ih_f45 (j50+1) o hF) _ rfl _ hq)
    ·cases hF
     repeat first|refine cg ?_|simp -dsimp[↓e52,h53,z55,h56,q57,h58,q59]
     refine zH hq
   ·repeat first|refine cg ?_|simp -dsimp[↓e52,h53,z55,h56,q57]
    refine yM follows ?_
    have hF:=ob hF;obtain⟨x74,e75a,hF⟩:=hF
    have e75a:=ZX e75a;obtain⟨ne75,e75⟩:=e75a
    have le75:=ZB e75
    repeat first|refine cg ?_|simp -dsimp[↓e75]
    revert hF;refine aS ?_ ?_<;>intro h76 q77 hF
    ·have hF:=ob hF;obtain⟨x78,e79,hF⟩:=hF
     have le79:=ZB e79
     have hF:=ob hF;obtain⟨x80,e81a,hF⟩:=hF
     have e81a:=ZX e81a;obtain⟨ne81,e81⟩:=e81a
     have le81:=ZB e81
     repeat first|refine cg ?_|simp -dsimp[↓e52,h53,z55,h56,q57,↓e75,h76,↓e79,↓e81]
     revert hF;refine aS ?_ ?_<;>intro h82 q83 hF
     ·cases hF
      repeat first|refine cg ?_|simp -dsimp[h82]
      refine lG _ (gR _) (hq _ ?_)
      repeat first|refine cg ?_|simp -dsimp
     ·have hF:=oc hF;obtain⟨c84,hF⟩:=hF
      have w85:i64.wrap ((j50:Int)+1)=(j50:Int)+1:=ZE (by omega) (by omega)
      repeat first|refine cg ?_|simp -dsimp[q83,w85]
      refine zG ((ih_f45 (j50+1) o hF) _ rfl _ hq)
    ·have hF:=oc hF;obtain⟨c86,hF⟩:=hF
     have w87:i64.wrap ((j50:Int)+1)=(j50:Int)+1:=ZE (by omega) (by omega)
     repeat first|refine cg ?_|simp -dsimp[h76,q77,w87]
     refine zG ((ih_f45 (j50+1) o hF) _ rfl _ hq)
  ·have z55:¬((j50:Int)<(x51.ctors.length:Int)):=auz
   cases hF
   repeat first|refine cg ?_|simp -dsimp[h53,q54,z55]
   refine zH hq
theorem CC.f46 (w:List zP)(d:Int)(k:Int):(∀(i:Nat) (o:Lo Bool Unit),F.f46 w d k i=some o->∀(c:Code),ZP [1,0,1,0,0] (ZG Tryz.f136)=some c->∀(Q:Exit->ASt->Prop),o.post (fun r=>∀st,ZAD zQ Tryz.f136 (fun r' _=>r'.le (.lit (.bool r))) .ret st->Q .ret st) (fun s=>Q (.exit 0) ⟨[],[]⟩)->ALoopU zQ B 0 79 (hold c .mk) ⟨[(0,am zR w),(1,li d),(2,li k),(7,li (i:Int))],[]⟩ (hold Q .mk)):=by
 refine F.f46.partial_correctness w d k
  _
  ?_
 ·intro _f_f46 ih_f46 i o hF
  refine ZI rfl fun Q hq hk hs=> ?_
  have b0:=hk 0
  simp -dsimp at b0
  clear hk hs
  refine eN ?_
  refine kz ?_
  revert hF;refine aS ?_ ?_<;>intro h1 q2 hF
  ·repeat first|refine cg ?_|simp -dsimp[h1]
   refine yM follows ?_
   refine kz ?_
   revert hF;refine aS ?_ ?_<;>intro h3 q4 hF
   ·obtain⟨x,e5,hF⟩:=ob hF
    have le5:=ZB e5
    obtain⟨x6,e7a,hF⟩:=ob hF
    have e7a:=ZX e7a;obtain⟨ne7,e7⟩:=e7a
    have le7:=ZB e7
    repeat first|refine cg ?_|simp -dsimp[h3,↓e5,↓e7]
    revert hF;refine aS ?_ ?_<;>intro h8 q9 hF
    ·cases hF
     repeat first|refine cg ?_|simp -dsimp[h8]
     refine lG _ (gR _) (hq _ ?_)
     repeat first|refine cg ?_|simp -dsimp
    ·repeat first|refine cg ?_|simp -dsimp[q9]
     obtain⟨o',ho47,hF⟩:=ob hF
     refine zK (((CC.f44 B hB1 hB2 w d k i) 0 o' ho47) _ rfl _ ?_)
     rcases o' with r0|sx
     ·dsimp only at hF
      cases hF
      intro st h
      simp -dsimp
      refine lG st (gR _) (hq st h)
     ·dsimp only at hF
      obtain⟨c48,hF⟩:=oc hF
      have w49:i64.wrap ((i:Int)+1)=(i:Int)+1:=ZE (by omega) (by omega)
      repeat first|refine cg ?_|simp -dsimp[w49]
      refine zG ((ih_f46 (i+1) o hF) _ rfl _ hq)
   ·repeat first|refine cg ?_|simp -dsimp[h3,q4]
    obtain⟨o'89,ho88,hF⟩:=ob hF
    refine zK (((CC.f45 B hB1 hB2 w d k i) 0 o'89 ho88) _ rfl _ ?_)
    rcases o'89 with r093|sx90
    ·dsimp only at hF
     cases hF
     intro st h
     simp -dsimp
     refine lG st (gR _) (hq st h)
    ·dsimp only at hF
     obtain⟨c91,hF⟩:=oc hF
     have w92:i64.wrap ((i:Int)+1)=(i:Int)+1:=ZE (by omega) (by omega)
     repeat first|refine cg ?_|simp -dsimp[w92]
     refine zG ((ih_f46 (i+1) o hF) _ rfl _ hq)
  ·cases hF
   repeat first|refine cg ?_|simp -dsimp[q2]
   refine zH hq
theorem C.f47 (w:List zP)(d:Int)(k:Int)(r:Bool)(hF:F.f47 w d k=some r):PureCall zQ B 136 [am zR w,li d,li k] (.lit (.bool r)):=by
 unfold F.f47 at hF
 refine zI func136 rfl ntmps136 ?_
 refine kz ?_
 obtain⟨o'95,ho94,hF⟩:=ob hF
 refine zK (((CC.f46 B hB1 hB2 w d k) 0 o'95 ho94) _ rfl _ ?_)
 rcases o'95 with r097|sx96
 ·dsimp only at hF
  cases hF
  intro st h
  simpa using h
 ·dsimp only at hF
  cases hF
  repeat first|refine cg ?_|simp -dsimp
theorem CC.f48 (w:List zP)(d:Nat):(∀(k:Nat) (o:Lo Bool Unit),F.f48 w d k=some o->∀(c:Code),ZP [1,1,0,1,0,0,1,0,0,1,1,0,0] (ZG Tryz.f107)=some c->∀(Q:Exit->ASt->Prop),o.post (fun r=>∀st,ZAD zQ Tryz.f107 (fun r' _=>r'.le (.lit (.bool r))) .ret st->Q .ret st) (fun s=>Q (.exit 2) ⟨[(0,am zR w),(3,li (d:Int))],[]⟩)->ALoopU zQ B 0 67 (hold c .mk) ⟨[(0,am zR w),(3,li (d:Int)),(4,li (k:Int))],[]⟩ (hold Q .mk)):=by
 refine F.f48.partial_correctness w d
  _
  ?_
 ·intro _f_f48 ih_f48 k o hF
  refine ZI rfl fun Q hq hk hs=> ?_
  have b0:=hk 0
  simp -dsimp at b0
  clear hk hs
  refine eN ?_
  have hF:=ob hF;obtain⟨x17,e18,hF⟩:=hF
  have le18:=ZB e18
  repeat first|refine cg ?_|simp -dsimp[↓e18]
  revert hF;refine aS ?_ ?_<;>intro h19 q20 hF
  ·have z21:((k:Int)<(x17.ctors.length:Int)):=auz
   have hF:=ob hF;obtain⟨x22,e23,hF⟩:=hF
   have le23:=ZB e23
   repeat first|refine cg ?_|simp -dsimp[↓e18,h19,z21,↓e23]
   have hF:=ob hF;obtain⟨v24,e25,hF⟩:=hF
   refine((C.f43 B hB1 hB2 (w.length:Int) x22 v24 e25)).goI ?_
   repeat first|refine cg ?_|simp -dsimp[↓e18,h19,z21,↓e23]
   revert hF;refine aS (fun h26 q27 hF=> ?_) (fun h26 q27 hF=> ?_)
   ·repeat first|refine cg ?_|simp -dsimp[↓e18,h19,z21,↓e23,h26]
    have hF:=ob hF;obtain⟨v28,e29,hF⟩:=hF
    refine((C.f47 B hB1 hB2 w (d:Int) (k:Int) v28 e29)).goI ?_
    repeat first|refine cg ?_|simp -dsimp[↓e18,h19,z21,↓e23,h26]
    revert hF;refine aS (fun h30 q31 hF=> ?_) (fun h30 q31 hF=> ?_)
    ·cases hF
     repeat first|refine cg ?_|simp -dsimp[↓e18,h19,z21,↓e23,h26,h30]
     refine lG _ (gR _) (hq _ ?_)
     repeat first|refine cg ?_|simp -dsimp[↓e18,h19,z21,↓e23,h26,h30]
    ·have hF:=oc hF;obtain⟨c32,hF⟩:=hF
     have w33:i64.wrap ((k:Int)+1)=(k:Int)+1:=ZE (by omega) (by omega)
     repeat first|refine cg ?_|simp -dsimp[↓e18,h19,z21,↓e23,h26,h30,q31,w33]
     refine zG ((ih_f48 (k+1) o hF) _ rfl _ hq)
   ·cases hF
    repeat first|refine cg ?_|simp -dsimp[↓e18,h19,z21,↓e23,h26,q27]
    refine lG _ (gR _) (hq _ ?_)
    repeat first|refine cg ?_|simp -dsimp[↓e18,h19,z21,↓e23,h26,q27]
  ·have z21:¬((k:Int)<(x17.ctors.length:Int)):=auz
   cases hF
   repeat first|refine cg ?_|simp -dsimp[↓e18,h19,q20,z21]
   refine zH hq
theorem CC.f49 (w:List zP):(∀(d:Nat) (o:Lo Bool Unit),F.f49 w d=some o->∀(c:Code),ZP [1,1,0,1,0,0] (ZG Tryz.f107)=some c->∀(Q:Exit->ASt->Prop),o.post (fun r=>∀st,ZAD zQ Tryz.f107 (fun r' _=>r'.le (.lit (.bool r))) .ret st->Q .ret st) (fun s=>Q (.exit 0) ⟨[],[]⟩)->ALoopU zQ B 0 67 (hold c .mk) ⟨[(0,am zR w),(3,li (d:Int))],[]⟩ (hold Q .mk)):=by
 refine F.f49.partial_correctness w
  _
  ?_
 ·intro _f_f49 ih_f49 d o hF
  refine ZI rfl fun Q hq hk hs=> ?_
  have b0:=hk 0
  simp -dsimp at b0
  clear hk hs
  refine eN ?_
  refine kz ?_
  revert hF;refine aS ?_ ?_<;>intro h4 q5 hF
  ·have z6:((d:Int)<(w.length:Int)):=auz
   obtain⟨x,e7,hF⟩:=ob hF
   have le7:=ZB e7
   repeat first|refine cg ?_|simp -dsimp[h4,z6,↓e7]
   obtain⟨v,e8,hF⟩:=ob hF
   refine((C.f38 B hB1 hB2 x.name v e8)).goI ?_
   repeat first|refine cg ?_|simp -dsimp[h4,z6,↓e7]
   revert hF;refine aS (fun h9 q10 hF=> ?_) (fun h9 q10 hF=> ?_)
   ·repeat first|refine cg ?_|simp -dsimp[h4,z6,↓e7,h9]
    revert hF;refine aN ?_ ?_<;>intro h11 q12 hF
    ·have z13:¬((x.ctors.length:Int)=0):=auz
     repeat first|refine cg ?_|simp -dsimp[h4,z6,↓e7,h9,h11,q12,z13]
     revert hF;refine aS ?_ ?_<;>intro h14 q15 hF
     ·have z16:(4<(x.ctors.length:Int)):=auz
      cases hF
      repeat first|refine cg ?_|simp -dsimp[h4,z6,↓e7,h9,h11,q12,z13,h14,z16]
      refine lG _ (gR _) (hq _ ?_)
      repeat first|refine cg ?_|simp -dsimp[h4,z6,↓e7,h9,h11,q12,z13,h14,z16]
     ·have z16:¬(4<(x.ctors.length:Int)):=auz
      repeat first|refine cg ?_|simp -dsimp[h4,z6,↓e7,h9,h11,q12,z13,h14,q15,z16]
      obtain⟨o',ho34,hF⟩:=ob hF
      refine zK (((CC.f48 B hB1 hB2 w d) 0 o' ho34) _ rfl _ ?_)
      rcases o' with r0|sx
      ·dsimp only at hF
       cases hF
       intro st h
       simp -dsimp
       refine lG st (gR _) (hq st h)
      ·dsimp only at hF
       obtain⟨c35,hF⟩:=oc hF
       have w36:i64.wrap ((d:Int)+1)=(d:Int)+1:=ZE (by omega) (by omega)
       repeat first|refine cg ?_|simp -dsimp[w36]
       refine zG ((ih_f49 (d+1) o hF) _ rfl _ hq)
    ·have z13:((x.ctors.length:Int)=0):=auz
     cases hF
     repeat first|refine cg ?_|simp -dsimp[h4,z6,↓e7,h9,h11,q12,z13]
     refine lG _ (gR _) (hq _ ?_)
     repeat first|refine cg ?_|simp -dsimp[h4,z6,↓e7,h9,h11,q12,z13]
   ·cases hF
    repeat first|refine cg ?_|simp -dsimp[h4,z6,↓e7,h9,q10]
    refine lG _ (gR _) (hq _ ?_)
    repeat first|refine cg ?_|simp -dsimp[h4,z6,↓e7,h9,q10]
  ·have z6:¬((d:Int)<(w.length:Int)):=auz
   cases hF
   repeat first|refine cg ?_|simp -dsimp[h4,q5,z6]
   refine zH hq
theorem C.f50 (w:List zP)(r:Bool)(hF:F.f50 w=some r):PureCall zQ B 107 [am zR w] (.lit (.bool r)):=by
 unfold F.f50 at hF
 refine zI func107 rfl ntmps107 ?_
 refine kz ?_
 revert hF;refine aS ?_ ?_<;>intro h1 q2 hF
 ·have z3:(4<(w.length:Int)):=auz
  cases hF
  repeat first|refine cg ?_|simp -dsimp[h1,z3]
 ·have z3:¬(4<(w.length:Int)):=auz
  repeat first|refine cg ?_|simp -dsimp[h1,q2,z3]
  obtain⟨o'38,ho37,hF⟩:=ob hF
  refine zK (((CC.f49 B hB1 hB2 w) 0 o'38 ho37) _ rfl _ ?_)
  rcases o'38 with r040|sx39
  ·dsimp only at hF
   cases hF
   intro st h
   simpa using h
  ·dsimp only at hF
   cases hF
   repeat first|refine cg ?_|simp -dsimp
theorem C.f51 (w:List zP)(t:Ty)(r:Bool)(hF:F.f51 w t=some r):PureCall zQ B 108 [am zR w,.agg [li t.data,li t.index]] (.lit (.bool r)):=by
 unfold F.f51 at hF
 refine zI func108 rfl ntmps108 ?_
 refine kz ?_
 have hF:=ob hF;obtain⟨v,e1,hF⟩:=hF
 refine((C.f41 B hB1 hB2 (w.length:Int) t v e1)).goI ?_
 refine kz ?_
 revert hF;refine aS (fun h2 q3 hF=> ?_) (fun h2 q3 hF=> ?_)
 ·cases hF
  repeat first|refine cg ?_|simp -dsimp[h2]
 ·cases hF
  repeat first|refine cg ?_|simp -dsimp[q3]
theorem C.f52 (w:List zP)(t:Ty)(r:Bool)(hF:F.f52 w t=some r):PureCall zQ B 75 [am zR w,.agg [li t.data,li t.index]] (.lit (.bool r)):=by
 unfold F.f52 at hF
 refine zI func75 rfl ntmps75 ?_
 refine kz ?_
 have hF:=ob hF;obtain⟨v,e1,hF⟩:=hF
 refine((C.f50 B hB1 hB2 w v e1)).goI ?_
 refine kz ?_
 revert hF;refine aS (fun h2 q3 hF=> ?_) (fun h2 q3 hF=> ?_)
 ·repeat first|refine cg ?_|simp -dsimp[h2]
  have hF:=ob hF;obtain⟨v4,e5,hF⟩:=hF
  refine((C.f51 B hB1 hB2 w t v4 e5)).goI ?_
  cases hF
  repeat first|refine cg ?_|simp -dsimp[h2]
 ·cases hF
  repeat first|refine cg ?_|simp -dsimp[h2,q3]
theorem C.f53 (c':Ctor)(index':Int)(r:Bool)(hF:F.f53 c' index'=some r):PureCall zQ B 113 [.agg [.lit (.string c'.name),am zM c'.args,li c'.index],li index'] (.lit (.bool r)):=by
 unfold F.f53 at hF
 refine zI func113 rfl ntmps113 ?_
 refine kz ?_
 revert hF;refine aN ?_ ?_<;>intro h1 q2 hF
 ·repeat first|refine cg ?_|simp -dsimp[h1,q2]
  revert hF;refine aN ?_ ?_<;>intro h3 q4 hF
  ·cases hF
   repeat first|refine cg ?_|simp -dsimp[h1,q2,h3,q4]
  ·cases hF
   repeat first|refine cg ?_|simp -dsimp[h1,q2,eq_true h3,eq_true q4]
 ·cases hF
  repeat first|refine cg ?_|simp -dsimp[h1,q2]
theorem CC.f54 (w:List zP)(t:Ty):(∀(out:List Int) (k:Nat) (o:List Int),F.f54 w t out k=some o->∀(c:Code),ZP [1,1,1,0,1,0,0] (ZG Tryz.f82)=some c->∀(Q:Exit->ASt->Prop),(Q (.exit 0) ⟨[(5,.own 1 (zA (α:=Int) o))],[.dead,.elems 1 (zB cI o)]⟩)->ALoopU zQ B 0 40 (hold c .mk) ⟨[(0,am zR w),(3,.ptr 0 0),(5,.own 1 (zA (α:=Int) out)),(6,li (k:Int))],[.cells [li t.data,li t.index],.elems 1 (zB cI out)]⟩ (hold Q .mk)):=by
 refine F.f54.partial_correctness w t
  _
  ?_
 ·intro _f_f54 ih_f54 out k o hF
  refine ZI rfl fun Q hq hk hs=> ?_
  have b0:=hk 0
  simp -dsimp at b0
  have d1:=hs 1 _ rfl
  simp -dsimp[yK]at d1
  clear hk hs
  refine eN ?_
  have hF:=ob hF;obtain⟨x,e3a,hF⟩:=hF
  have e3a:=ZX e3a;obtain⟨ne3,e3⟩:=e3a
  have le3:=ZB e3
  repeat first|refine cg ?_|simp -dsimp[↓e3]
  revert hF;refine aS ?_ ?_<;>intro h4 q5 hF
  ·have z6:((k:Int)<(x.ctors.length:Int)):=auz
   repeat first|refine cg ?_|simp -dsimp[↓e3,h4,z6]
   refine yM follows ?_
   have hF:=ob hF;obtain⟨x7,e8,hF⟩:=hF
   have le8:=ZB e8
   repeat first|refine cg ?_|simp -dsimp[↓e3,↓e8]
   have hF:=ob hF;obtain⟨v,e9,hF⟩:=hF
   refine((C.f53 B hB1 hB2 x7 t.index v e9)).pgoW (by simp_all) (by simp) ?_
   repeat first|refine cg ?_|simp -dsimp[↓e3,↓e8]
   revert hF;refine aS (fun h10 q11 hF=> ?_) (fun h10 q11 hF=> ?_)
   ·have hF:=oc hF;obtain⟨c12,hF⟩:=hF
    have hF:=oc hF;obtain⟨c13,hF⟩:=hF
    have w14:i64.wrap ((k:Int)+1)=(k:Int)+1:=ZE (by omega) (by omega)
    repeat first|refine cg ?_|simp -dsimp[↓e3,↓e8,h10,w14]
    refine zG ((ih_f54 (out++[(k:Int)]) (k+1) o hF) _ rfl _ hq)
   ·have hF:=oc hF;obtain⟨c15,hF⟩:=hF
    have w16:i64.wrap ((k:Int)+1)=(k:Int)+1:=ZE (by omega) (by omega)
    repeat first|refine cg ?_|simp -dsimp[↓e3,↓e8,h10,q11,w16]
    refine zG ((ih_f54 out (k+1) o hF) _ rfl _ hq)
  ·have z6:¬((k:Int)<(x.ctors.length:Int)):=auz
   cases hF
   repeat first|refine cg ?_|simp -dsimp[↓e3,h4,q5,z6]
   refine zH hq
theorem C.f55 (w:List zP)(t:Ty)(r:List Int)(hF:F.f55 w t=some r):PureCall zQ B 82 [am zR w,.agg [li t.data,li t.index]] (am cI r):=by
 unfold F.f55 at hF
 refine zI func82 rfl ntmps82 ?_
 refine kz ?_
 revert hF;refine aS ?_ ?_<;>intro h1 q2 hF
 ·cases hF
  repeat first|refine cg ?_|simp -dsimp[h1]
 ·repeat first|refine cg ?_|simp -dsimp[q2]
  have hF:=ob hF;obtain⟨o',ho17,hF⟩:=hF
  refine zK (((CC.f54 B hB1 hB2 w t) [] 0 o' ho17) _ rfl _ ?_)
  cases hF
  repeat first|refine cg ?_|simp -dsimp
theorem CC.f56 (list:List Int)(n:Int):(∀(i:Nat) (o:Lo Bool Unit),F.f56 list n i=some o->∀(c:Code),ZP [1,0,1,0,0] (ZG Tryz.f81)=some c->∀(Q:Exit->ASt->Prop),o.post (fun r=>∀st,ZAD zQ Tryz.f81 (fun r' _=>r'.le (.lit (.bool r))) .ret st->Q .ret st) (fun s=>Q (.exit 0) ⟨[],[]⟩)->ALoopU zQ B 0 18 (hold c .mk) ⟨[(0,am cI list),(1,li n),(5,li (i:Int))],[]⟩ (hold Q .mk)):=by
 refine F.f56.partial_correctness list n
  _
  ?_
 ·intro _f_f56 ih_f56 i o hF
  refine ZI rfl fun Q hq hk hs=> ?_
  have b0:=hk 0
  simp -dsimp at b0
  clear hk hs
  refine eN ?_
  refine kz ?_
  revert hF;refine aS ?_ ?_<;>intro h1 q2 hF
  ·have z3:((i:Int)<(list.length:Int)):=auz
   have hF:=ob hF;obtain⟨x,e4,hF⟩:=hF
   have le4:=ZB e4
   repeat first|refine cg ?_|simp -dsimp[h1,z3,↓e4]
   revert hF;refine aS ?_ ?_<;>intro h5 q6 hF
   ·cases hF
    repeat first|refine cg ?_|simp -dsimp[h5]
    refine lG _ (gR _) (hq _ ?_)
    repeat first|refine cg ?_|simp -dsimp
   ·have w7:i64.wrap ((i:Int)+1)=(i:Int)+1:=ZE (by omega) (by omega)
    repeat first|refine cg ?_|simp -dsimp[q6,w7]
    refine zG ((ih_f56 (i+1) o hF) _ rfl _ hq)
  ·have z3:¬((i:Int)<(list.length:Int)):=auz
   cases hF
   repeat first|refine cg ?_|simp -dsimp[h1,q2,z3]
   refine zH hq
theorem C.f57 (list:List Int)(n:Int)(r:Bool)(hF:F.f57 list n=some r):PureCall zQ B 81 [am cI list,li n] (.lit (.bool r)):=by
 unfold F.f57 at hF
 refine zI func81 rfl ntmps81 ?_
 refine kz ?_
 have hF:=ob hF;obtain⟨o',ho8,hF⟩:=hF
 refine zK (((CC.f56 B hB1 hB2 list n) 0 o' ho8) _ rfl _ ?_)
 rcases o' with r0|sx
 ·dsimp only at hF
  cases hF
  intro st h
  simpa using h
 ·dsimp only at hF
  cases hF
  repeat first|refine cg ?_|simp -dsimp
theorem C.f58 (w:List zP)(t:Ty)(p:Pattern)(r:Bool)(hF:F.f58 w t p=some r):PureCall zQ B 154 [am zR w,.agg [li t.data,li t.index],.agg [li p.op,li p.ctor,li p.n,li p.m,li p.var,am zT p.kids]] (.lit (.bool r)):=by
 unfold F.f58 at hF
 refine zI func154 rfl ntmps154 ?_
 refine kz ?_
 revert hF;refine aN ?_ ?_<;>intro h1 q2 hF
 ·repeat first|refine cg ?_|simp -dsimp[h1,q2]
  revert hF;refine aS ?_ ?_<;>intro h3 q4 hF
  ·repeat first|refine cg ?_|simp -dsimp[h1,q2,h3]
   revert hF;refine aN ?_ ?_<;>intro h5 q6 hF
   ·repeat first|refine cg ?_|simp -dsimp[h1,q2,h3,h5,q6]
    revert hF;refine aN ?_ ?_<;>intro h7 q8 hF
    ·have n9:¬(p.op=3):=by omega
     repeat first|refine cg ?_|simp -dsimp[h1,q2,h3,h5,q6,h7,q8,n9]
     revert hF;refine aS ?_ ?_<;>intro h10 q11 hF
     ·repeat first|refine cg ?_|simp -dsimp[h1,q2,h3,h5,q6,h7,q8,n9,h10]
      revert hF;refine aS ?_ ?_<;>intro h12 q13 hF
      ·have n14:¬(p.op=4):=by omega
       repeat first|refine cg ?_|simp -dsimp[h1,q2,h3,h5,q6,h7,q8,n9,h10,h12,n14]
       revert hF;refine aN ?_ ?_<;>intro h15 q16 hF
       ·cases hF
        repeat first|refine cg ?_|simp -dsimp[h1,q2,h3,h5,q6,h7,q8,n9,h10,h12,n14,h15,q16]
       ·have n17:¬(p.op=1):=by omega
        have n18:¬(p.op=5):=by omega
        cases hF
        repeat first|refine cg ?_|simp -dsimp[h1,q2,h3,h5,q6,h7,q8,n9,h10,h12,n14,h15,q16,n17,n18]
      ·cases hF
       repeat first|refine cg ?_|simp -dsimp[h1,q2,h3,h5,q6,h7,q8,n9,h10,h12,q13]
     ·cases hF
      repeat first|refine cg ?_|simp -dsimp[h1,q2,h3,h5,q6,h7,q8,n9,h10,q11]
    ·cases hF
     repeat first|refine cg ?_|simp -dsimp[h1,q2,h3,h5,q6,h7,q8]
   ·cases hF
    repeat first|refine cg ?_|simp -dsimp[h1,q2,h3,h5,q6]
  ·repeat first|refine cg ?_|simp -dsimp[h1,q2,h3,q4]
   revert hF;refine aN ?_ ?_<;>intro h19 q20 hF
   ·cases hF
    repeat first|refine cg ?_|simp -dsimp[h1,q2,h3,q4,h19,q20]
   ·repeat first|refine cg ?_|simp -dsimp[h1,q2,h3,q4,h19,q20]
    revert hF;refine aN ?_ ?_<;>intro h21 q22 hF
    ·repeat first|refine cg ?_|simp -dsimp[h1,q2,h3,q4,h19,q20,h21,q22]
     revert hF;refine aS ?_ ?_<;>intro h23 q24 hF
     ·repeat first|refine cg ?_|simp -dsimp[h1,q2,h3,q4,h19,q20,h21,q22,h23]
      revert hF;refine aS ?_ ?_<;>intro h25 q26 hF
      ·repeat first|refine cg ?_|simp -dsimp[h1,q2,h3,q4,h19,q20,h21,q22,h23,h25]
       revert hF;refine aN ?_ ?_<;>intro h27 q28 hF
       ·repeat first|refine cg ?_|simp -dsimp[h1,q2,h3,q4,h19,q20,h21,q22,h23,h25,h27,q28]
        revert hF;refine aN ?_ ?_<;>intro h29 q30 hF
        ·cases hF
         repeat first|refine cg ?_|simp -dsimp[h1,q2,h3,q4,h19,q20,h21,q22,h23,h25,h27,q28,h29,q30]
        ·repeat first|refine cg ?_|simp -dsimp[h1,q2,h3,q4,h19,q20,h21,q22,h23,h25,h27,q28,h29,q30]
         revert hF;refine aS ?_ ?_<;>intro h31 q32 hF
         ·cases hF
          repeat first|refine cg ?_|simp -dsimp[h1,q2,h3,q4,h19,q20,h21,q22,h23,h25,h27,q28,h29,q30,h31]
         ·repeat first|refine cg ?_|simp -dsimp[h1,q2,h3,q4,h19,q20,h21,q22,h23,h25,h27,q28,h29,q30,h31,q32]
          revert hF;refine aS ?_ ?_<;>intro h33 q34 hF
          ·cases hF
           repeat first|refine cg ?_|simp -dsimp[h1,q2,h3,q4,h19,q20,h21,q22,h23,h25,h27,q28,h29,q30,h31,q32,h33]
          ·cases hF
           repeat first|refine cg ?_|simp -dsimp[h1,q2,h3,q4,h19,q20,h21,q22,h23,h25,h27,q28,h29,q30,h31,q32,h33,q34]
       ·have n35:¬(p.op=1):=by omega
        have n36:¬(p.op=5):=by omega
        repeat first|refine cg ?_|simp -dsimp[h1,q2,h3,q4,h19,q20,h21,q22,h23,h25,h27,q28,n35,n36]
        refine yM follows ?_
        repeat first|refine cg ?_|simp -dsimp[h1,q2,h3,q4,h19,q20,h21,q22,h23,h25,h27,q28,n35,n36]
        have hF:=ob hF;obtain⟨v,e37,hF⟩:=hF
        refine((C.f55 B hB1 hB2 w t v e37)).pgoW (by simp[h1,q2,h3,q4,h19,q20,h21,q22,h23,h25,h27,q28,n35,n36]) (by simp) ?_
        repeat first|refine cg ?_|simp -dsimp[h1,q2,h3,q4,h19,q20,h21,q22,h23,h25,h27,q28,n35,n36]
        have hF:=ob hF;obtain⟨v38,e39,hF⟩:=hF
        refine((C.f57 B hB1 hB2 v p.ctor v38 e39)).pgoW (by simp[h1,q2,h3,q4,h19,q20,h21,q22,h23,h25,h27,q28,n35,n36]) (by simp) ?_
        cases hF
        repeat first|refine cg ?_|simp -dsimp[h1,q2,h3,q4,h19,q20,h21,q22,h23,h25,h27,q28,n35,n36]
      ·cases hF
       repeat first|refine cg ?_|simp -dsimp[h1,q2,h3,q4,h19,q20,h21,q22,h23,h25,q26]
     ·cases hF
      repeat first|refine cg ?_|simp -dsimp[h1,q2,h3,q4,h19,q20,h21,q22,h23,q24]
    ·have n40:¬(p.op=4):=by omega
     repeat first|refine cg ?_|simp -dsimp[h1,q2,h3,q4,h19,q20,h21,q22,n40]
     revert hF;refine aN ?_ ?_<;>intro h41 q42 hF
     ·cases hF
      repeat first|refine cg ?_|simp -dsimp[h1,q2,h3,q4,h19,q20,h21,q22,n40,h41,q42]
     ·have n43:¬(p.op=1):=by omega
      have n44:¬(p.op=5):=by omega
      repeat first|refine cg ?_|simp -dsimp[h1,q2,h3,q4,h19,q20,h21,q22,n40,h41,q42,n43,n44]
      revert hF;refine aS ?_ ?_<;>intro h45 q46 hF
      ·repeat first|refine cg ?_|simp -dsimp[h1,q2,h3,q4,h19,q20,h21,q22,n40,h41,q42,n43,n44,h45]
       revert hF;refine aS ?_ ?_<;>intro h47 q48 hF
       ·repeat first|refine cg ?_|simp -dsimp[h1,q2,h3,q4,h19,q20,h21,q22,n40,h41,q42,n43,n44,h45,h47]
        revert hF;refine aS ?_ ?_<;>intro h49 q50 hF
        ·cases hF
         repeat first|refine cg ?_|simp -dsimp[h1,q2,h3,q4,h19,q20,h21,q22,n40,h41,q42,n43,n44,h45,h47,h49]
        ·cases hF
         repeat first|refine cg ?_|simp -dsimp[h1,q2,h3,q4,h19,q20,h21,q22,n40,h41,q42,n43,n44,h45,h47,h49,q50]
       ·cases hF
        repeat first|refine cg ?_|simp -dsimp[h1,q2,h3,q4,h19,q20,h21,q22,n40,h41,q42,n43,n44,h45,h47,q48]
      ·cases hF
       repeat first|refine cg ?_|simp -dsimp[h1,q2,h3,q4,h19,q20,h21,q22,n40,h41,q42,n43,n44,h45,q46]
 ·repeat first|refine cg ?_|simp -dsimp[h1,q2]
  revert hF;refine aN ?_ ?_<;>intro h51 q52 hF
  ·repeat first|refine cg ?_|simp -dsimp[h1,q2,h51,q52]
   revert hF;refine aN ?_ ?_<;>intro h53 q54 hF
   ·have n55:¬(p.op=3):=by omega
    repeat first|refine cg ?_|simp -dsimp[h1,q2,h51,q52,h53,q54,n55]
    revert hF;refine aS ?_ ?_<;>intro h56 q57 hF
    ·repeat first|refine cg ?_|simp -dsimp[h1,q2,h51,q52,h53,q54,n55,h56]
     revert hF;refine aS ?_ ?_<;>intro h58 q59 hF
     ·have n60:¬(p.op=4):=by omega
      repeat first|refine cg ?_|simp -dsimp[h1,q2,h51,q52,h53,q54,n55,h56,h58,n60]
      revert hF;refine aN ?_ ?_<;>intro h61 q62 hF
      ·cases hF
       repeat first|refine cg ?_|simp -dsimp[h1,q2,h51,q52,h53,q54,n55,h56,h58,n60,h61,q62]
      ·have n63:¬(p.op=1):=by omega
       cases hF
       repeat first|refine cg ?_|simp -dsimp[h1,q2,h51,q52,h53,q54,n55,h56,h58,n60,h61,q62,n63]
     ·cases hF
      repeat first|refine cg ?_|simp -dsimp[h1,q2,h51,q52,h53,q54,n55,h56,h58,q59]
    ·cases hF
     repeat first|refine cg ?_|simp -dsimp[h1,q2,h51,q52,h53,q54,n55,h56,q57]
   ·cases hF
    repeat first|refine cg ?_|simp -dsimp[h1,q2,h51,q52,h53,q54]
  ·cases hF
   repeat first|refine cg ?_|simp -dsimp[h1,q2,h51,q52]
theorem C.f59 (c':Ctor)(index':Int)(r:Int)(hF:F.f59 c' index'=some r):PureCall zQ B 114 [.agg [.lit (.string c'.name),am zM c'.args,li c'.index],li index'] (li r):=by
 unfold F.f59 at hF
 refine zI func114 rfl ntmps114 ?_
 refine kz ?_
 revert hF;refine aS ?_ ?_<;>intro h1 q2 hF
 ·cases hF
  repeat first|refine cg ?_|simp -dsimp[h1]
 ·cases hF
  repeat first|refine cg ?_|simp -dsimp[q2]
theorem CC.f60 (t:Ty)(x2:Ctor):(∀(out:List Ty) (i:Nat) (o:List Ty),F.f60 t x2 out i=some o->∀(c:Code),ZP [1,1,1,0,1,0,0] (ZG Tryz.f83)=some c->∀(Q:Exit->ASt->Prop),(Q (.exit 0) ⟨[(7,.own 1 (zA (α:=Ty) o))],[.dead,.elems 2 (zB zM o)]⟩)->ALoopU zQ B 0 46 (hold c .mk) ⟨[(4,.ptr 0 0),(7,.own 1 (zA (α:=Ty) out)),(8,.ptr 2 0),(9,li (i:Int))],[.cells [li t.data,li t.index],.elems 2 (zB zM out),.cells [.lit (.string x2.name),am zM x2.args,li x2.index]]⟩ (hold Q .mk)):=by
 refine F.f60.partial_correctness t x2
  _
  ?_
 ·intro _f_f60 ih_f60 out i o hF
  refine ZI rfl fun Q hq hk hs=> ?_
  have d1:=hs 1 _ rfl
  simp -dsimp[yK]at d1
  have d2:=hs 2 _ rfl
  simp -dsimp[yK]at d2
  clear hk hs
  refine eN ?_
  refine kz ?_
  revert hF;refine aS ?_ ?_<;>intro h4 q5 hF
  ·have z6:((i:Int)<(x2.args.length:Int)):=auz
   have hF:=ob hF;obtain⟨x7,e8,hF⟩:=hF
   have le8:=ZB e8
   repeat first|refine cg ?_|simp -dsimp[h4,z6,↓e8]
   revert hF;refine aS ?_ ?_<;>intro h9 q10 hF
   ·repeat first|refine cg ?_|simp -dsimp[h9]
    have hF:=ob hF;obtain⟨v,e11,hF⟩:=hF
    refine((C.f59 B hB1 hB2 x2 t.index v e11)).goI ?_
    have hF:=oc hF;obtain⟨c12,hF⟩:=hF
    have w13:i64.wrap ((i:Int)+1)=(i:Int)+1:=ZE (by omega) (by omega)
    repeat first|refine cg ?_|simp -dsimp[w13]
    refine zG ((ih_f60 (out++[(⟨x7.data,v⟩:Ty)]) (i+1) o hF) _ rfl _ hq)
   ·have hF:=oc hF;obtain⟨c14,hF⟩:=hF
    have w15:i64.wrap ((i:Int)+1)=(i:Int)+1:=ZE (by omega) (by omega)
    repeat first|refine cg ?_|simp -dsimp[q10,w15]
    refine zG ((ih_f60 (out++[x7]) (i+1) o hF) _ rfl _ hq)
  ·have z6:¬((i:Int)<(x2.args.length:Int)):=auz
   cases hF
   repeat first|refine cg ?_|simp -dsimp[h4,q5,z6]
   refine zH hq
theorem C.f61 (w:List zP)(t:Ty)(ctor:Int)(r:List Ty)(hF:F.f61 w t ctor=some r):PureCall zQ B 83 [am zR w,.agg [li t.data,li t.index],li ctor] (am zM r):=by
 unfold F.f61 at hF
 refine zI func83 rfl ntmps83 ?_
 have hF:=ob hF;obtain⟨x,e1a,hF⟩:=hF
 have e1a:=ZX e1a;obtain⟨ne1,e1⟩:=e1a
 have le1:=ZB e1
 have hF:=ob hF;obtain⟨x2,e3a,hF⟩:=hF
 have e3a:=ZX e3a;obtain⟨ne3,e3⟩:=e3a
 have le3:=ZB e3
 repeat first|refine cg ?_|simp -dsimp[↓e1,↓e3]
 have hF:=ob hF;obtain⟨o',ho16,hF⟩:=hF
 refine zK (((CC.f60 B hB1 hB2 t x2) [] 0 o' ho16) _ rfl _ ?_)
 cases hF
 repeat first|refine cg ?_|simp -dsimp
theorem C.f62 (op:Int)(r:Int)(hF:F.f62 op=some r):PureCall zQ B 156 [li op] (li r):=by
 unfold F.f62 at hF
 refine zI func156 rfl ntmps156 ?_
 refine kz ?_
 revert hF;refine aS ?_ ?_<;>intro h1 q2 hF
 ·cases hF
  repeat first|refine cg ?_|simp -dsimp[eq_true h1]
 ·repeat first|refine cg ?_|simp -dsimp[h1,q2]
  revert hF;refine aS ?_ ?_<;>intro h3 q4 hF
  ·cases hF
   repeat first|refine cg ?_|simp -dsimp[eq_true h3]
  ·repeat first|refine cg ?_|simp -dsimp[h3,q4]
   revert hF;refine aS ?_ ?_<;>intro h5 q6 hF
   ·cases hF
    repeat first|refine cg ?_|simp -dsimp[eq_true h5]
   ·cases hF
    repeat first|refine cg ?_|simp -dsimp[h5,q6]
theorem CC.f63 (t:Ty)(p:Pattern):(∀(out:List Ty) (i:Nat) (o:List Ty),F.f63 t p out i=some o->∀(c:Code),ZP [1,1,1,0,1,0,0] (ZG Tryz.f142)=some c->∀(Q:Exit->ASt->Prop),(Q (.exit 0) ⟨[(7,.own 2 (zA (α:=Ty) o))],[.dead,.dead,.elems 2 (zB zM o)]⟩)->ALoopU zQ B 0 30 (hold c .mk) ⟨[(4,.ptr 0 0),(5,.ptr 1 0),(7,.own 2 (zA (α:=Ty) out)),(8,li (i:Int))],[.cells [li t.data,li t.index],.cells [li p.op,li p.ctor,li p.n,li p.m,li p.var,am zT p.kids],.elems 2 (zB zM out)]⟩ (hold Q .mk)):=by
 refine F.f63.partial_correctness t p
  _
  ?_
 ·intro _f_f63 ih_f63 out i o hF
  refine ZI rfl fun Q hq hk hs=> ?_
  have d1:=hs 1 _ rfl
  simp -dsimp[yK]at d1
  have d2:=hs 2 _ rfl
  simp -dsimp[yK]at d2
  clear hk hs
  refine eN ?_
  refine kz ?_
  have hF:=ob hF;obtain⟨v4,e5,hF⟩:=hF
  refine((C.f62 B hB1 hB2 p.op v4 e5)).goI ?_
  refine kz ?_
  revert hF;refine aS ?_ ?_<;>intro h6 q7 hF
  ·have hF:=oc hF;obtain⟨c8,hF⟩:=hF
   have hF:=oc hF;obtain⟨c9,hF⟩:=hF
   have w10:i64.wrap ((i:Int)+1)=(i:Int)+1:=ZE (by omega) (by omega)
   repeat first|refine cg ?_|simp -dsimp[h6,w10]
   refine zG ((ih_f63 (out++[t]) (i+1) o hF) _ rfl _ hq)
  ·cases hF
   repeat first|refine cg ?_|simp -dsimp[h6,q7]
   refine zH hq
theorem C.f64 (w:List zP)(t:Ty)(p:Pattern)(r:List Ty)(hF:F.f64 w t p=some r):PureCall zQ B 142 [am zR w,.agg [li t.data,li t.index],.agg [li p.op,li p.ctor,li p.n,li p.m,li p.var,am zT p.kids]] (am zM r):=by
 unfold F.f64 at hF
 refine zI func142 rfl ntmps142 ?_
 refine kz ?_
 revert hF;refine aS ?_ ?_<;>intro h1 q2 hF
 ·repeat first|refine cg ?_|simp -dsimp[h1]
  have hF:=ob hF;obtain⟨v,e3,hF⟩:=hF
  refine((C.f61 B hB1 hB2 w t p.ctor v e3)).goI ?_
  cases hF
  repeat first|refine cg ?_|simp -dsimp
 ·repeat first|refine cg ?_|simp -dsimp[q2]
  have hF:=ob hF;obtain⟨o',ho11,hF⟩:=hF
  refine zK (((CC.f63 B hB1 hB2 t p) [] 0 o' ho11) _ rfl _ ?_)
  cases hF
  repeat first|refine cg ?_|simp -dsimp
theorem CC.f65 (w:List zP):(∀(t:Ty) (p:Pattern) (depth:Int) (r:Bool),F.f65 w t p depth=some r->PureCall zQ B 138 [am zR w,.agg [li t.data,li t.index],.agg [li p.op,li p.ctor,li p.n,li p.m,li p.var,am zT p.kids],li depth] (.lit (.bool r)))/\
  (∀(p:Pattern) (depth:Int) (v6:List Ty) (i:Nat) (o:Lo Bool Unit),F.f66 w p depth v6 i=some o->∀(c:Code),ZP [1,1,1,1,0,1,0,0] (ZG Tryz.f138)=some c->∀(Q:Exit->ASt->Prop),o.post (fun r=>∀st,ZAD zQ Tryz.f138 (fun r' _=>r'.le (.lit (.bool r))) .ret st->Q .ret st) (fun s=>Q (.exit 0) ⟨[],[]⟩)->ALoopU zQ B 0 50 (hold c .mk) ⟨[(0,am zR w),(3,li depth),(6,.ptr 1 0),(9,am zM v6),(10,li (i:Int))],[.dead,.cells [li p.op,li p.ctor,li p.n,li p.m,li p.var,am zT p.kids]]⟩ (hold Q .mk)):=by
 refine F.f65.mutual_partial_correctness w
  _ _
  ?_ ?_
 ·intro _f_f66 ih_f66 t p depth r hF
  refine zI func138 rfl ntmps138 ?_
  refine kz ?_
  revert hF;refine aN ?_ ?_<;>intro h1 q2 hF
  ·repeat first|refine cg ?_|simp -dsimp[h1,q2]
   have hF:=ob hF;obtain⟨v,e3,hF⟩:=hF
   refine((C.f58 B hB1 hB2 w t p v e3)).goI ?_
   repeat first|refine cg ?_|simp -dsimp[h1,q2]
   revert hF;refine aN (fun h4 q5 hF=> ?_) (fun h4 q5 hF=> ?_)
   ·cases hF
    repeat first|refine cg ?_|simp -dsimp[h1,q2,h4,q5]
   ·repeat first|refine cg ?_|simp -dsimp[h1,q2,h4,q5]
    have hF:=ob hF;obtain⟨v6,e7,hF⟩:=hF
    refine((C.f64 B hB1 hB2 w t p v6 e7)).goI ?_
    repeat first|refine cg ?_|simp -dsimp[h1,q2,h4,q5]
    revert hF;refine aN ?_ ?_<;>intro h8 q9 hF
    ·have z10:¬((p.kids.length:Int)=(v6.length:Int)):=auz
     cases hF
     repeat first|refine cg ?_|simp -dsimp[h1,q2,h4,q5,h8,q9,z10]
    ·have z10:((p.kids.length:Int)=(v6.length:Int)):=auz
     repeat first|refine cg ?_|simp -dsimp[h1,q2,h4,q5,h8,q9,z10]
     have hF:=ob hF;obtain⟨o',ho22,hF⟩:=hF
     refine zK ((ih_f66 p depth v6 0 o' ho22) _ rfl _ ?_)
     rcases o' with r0|sx
     ·dsimp only at hF
      cases hF
      intro st h
      simpa using h
     ·dsimp only at hF
      cases hF
      repeat first|refine cg ?_|simp -dsimp
  ·cases hF
   repeat first|refine cg ?_|simp -dsimp[h1,q2]
 ·intro _f_f65 _f_f66 ih_f65 ih_f66 p depth v6 i o hF
  refine ZI rfl fun Q hq hk hs=> ?_
  have b0:=hk 0
  simp -dsimp at b0
  have b9:=hk 9
  simp -dsimp at b9
  have d1:=hs 1 _ rfl
  simp -dsimp[yK]at d1
  clear hk hs
  refine eN ?_
  refine kz ?_
  revert hF;refine aS ?_ ?_<;>intro h11 q12 hF
  ·have z13:((i:Int)<(v6.length:Int)):=auz
   repeat first|refine cg ?_|simp -dsimp[h11,z13]
   refine yM follows ?_
   have hF:=ob hF;obtain⟨x,e14,hF⟩:=hF
   have le14:=ZB e14
   have hF:=ob hF;obtain⟨x15,e16,hF⟩:=hF
   have le16:=ZB e16
   repeat first|refine cg ?_|simp -dsimp[h11,z13,↓e14,↓e16]
   have hF:=ob hF;obtain⟨v17,e18,hF⟩:=hF
   refine((ih_f65 x x15 (i64.wrap (depth-1)) v17 e18)).pgoW (by simp[h11,z13,↓e14,↓e16]) (by simp) ?_
   repeat first|refine cg ?_|simp -dsimp[h11,z13,↓e14,↓e16]
   revert hF;refine aN (fun h19 q20 hF=> ?_) (fun h19 q20 hF=> ?_)
   ·cases hF
    repeat first|refine cg ?_|simp -dsimp[h11,z13,↓e14,↓e16,h19,q20]
    refine lG _ (gR _) (hq _ ?_)
    repeat first|refine cg ?_|simp -dsimp[h11,z13,↓e14,↓e16,h19,q20]
   ·have w21:i64.wrap ((i:Int)+1)=(i:Int)+1:=ZE (by omega) (by omega)
    repeat first|refine cg ?_|simp -dsimp[h11,z13,↓e14,↓e16,h19,q20,w21]
    refine zG ((ih_f66 p depth v6 (i+1) o hF) _ rfl _ hq)
  ·have z13:¬((i:Int)<(v6.length:Int)):=auz
   cases hF
   repeat first|refine cg ?_|simp -dsimp[h11,q12,z13]
   refine zH hq
theorem CC.f67  :(∀(p:Pattern) (most:Int) (r:Int),F.f67 p most=some r->PureCall zQ B 139 [.agg [li p.op,li p.ctor,li p.n,li p.m,li p.var,am zT p.kids],li most] (li r))/\
  (∀(p:Pattern) (most:Int) (n:Int) (i:Nat) (o:Int),F.f68 p most n i=some o->∀(c:Code),ZP [1,1,0,1,0,0] (ZG Tryz.f139)=some c->∀(Q:Exit->ASt->Prop),(Q (.exit 0) ⟨[(5,li o)],[]⟩)->ALoopU zQ B 0 31 (hold c .mk) ⟨[(1,li most),(2,.ptr 0 0),(5,li n),(6,li (i:Int))],[.cells [li p.op,li p.ctor,li p.n,li p.m,li p.var,am zT p.kids]]⟩ (hold Q .mk)):=by
 refine F.f67.mutual_partial_correctness 
  _ _
  ?_ ?_
 ·intro _f_f68 ih_f68 p most r hF
  refine zI func139 rfl ntmps139 ?_
  refine kz ?_
  have hF:=ob hF;obtain⟨o',ho9,hF⟩:=hF
  refine zK ((ih_f68 p most 1 0 o' ho9) _ rfl _ ?_)
  cases hF
  repeat first|refine cg ?_|simp -dsimp
 ·intro _f_f67 _f_f68 ih_f67 ih_f68 p most n i o hF
  refine ZI rfl fun Q hq hk hs=> ?_
  have d0:=hs 0 _ rfl
  simp -dsimp[yK]at d0
  clear hk hs
  refine eN ?_
  refine kz ?_
  revert hF;refine aS ?_ ?_<;>intro h1 q2 hF
  ·have z3:((i:Int)<(p.kids.length:Int)):=auz
   repeat first|refine cg ?_|simp -dsimp[h1,z3]
   revert hF;refine aS ?_ ?_<;>intro h4 q5 hF
   ·have hF:=ob hF;obtain⟨x,e6,hF⟩:=hF
    have le6:=ZB e6
    repeat first|refine cg ?_|simp -dsimp[h4,↓e6]
    have hF:=ob hF;obtain⟨v,e7,hF⟩:=hF
    refine((ih_f67 x (i64.wrap (most-n)) v e7)).goI ?_
    have w8:i64.wrap ((i:Int)+1)=(i:Int)+1:=ZE (by omega) (by omega)
    repeat first|refine cg ?_|simp -dsimp[w8]
    refine zG ((ih_f68 p most (i64.wrap (n+v)) (i+1) o hF) _ rfl _ hq)
   ·cases hF
    repeat first|refine cg ?_|simp -dsimp[h4,q5]
    refine zH hq
  ·have z3:¬((i:Int)<(p.kids.length:Int)):=auz
   cases hF
   repeat first|refine cg ?_|simp -dsimp[h1,q2,z3]
   refine zH hq
theorem CC.f69 (w:List zP):(∀(out:List VarType) (t:Ty) (p:Pattern) (r:List VarType),F.f69 out w t p=some r->BCall zQ B 111 [.elems 3 (zB yP out)] [.own 0 (zA (α:=VarType) out),am zR w,.agg [li t.data,li t.index],.agg [li p.op,li p.ctor,li p.n,li p.m,li p.var,am zT p.kids]] (.own 0 (zA (α:=VarType) r)) [.elems 3 (zB yP r)])/\
  (∀(p:Pattern) (v30:List Ty) (out32:List VarType) (i33:Nat) (o:List VarType),F.f71 w p v30 out32 i33=some o->∀(c:Code),ZP [1,1,1,0,1,0,0] (ZG Tryz.f111)=some c->∀(Q:Exit->ASt->Prop),(Q (.exit 0) ⟨[(0,.own 0 (zA (α:=VarType) o))],[.elems 3 (zB yP o)]⟩)->ALoopU zQ B 1 58 (hold c .mk) ⟨[(0,.own 0 (zA (α:=VarType) out32)),(1,am zR w),(7,.ptr 2 0),(9,am zM v30),(10,li (i33:Int))],[.elems 3 (zB yP out32),.dead,.cells [li p.op,li p.ctor,li p.n,li p.m,li p.var,am zT p.kids]]⟩ (hold Q .mk))/\
  (∀(p:Pattern) (v:List Ty) (out7:List VarType) (i:Nat) (o:List VarType),F.f70 w p v out7 i=some o->∀(c:Code),ZP [1,1,1,0,1,0,0] (ZG Tryz.f111)=some c->∀(Q:Exit->ASt->Prop),(Q (.exit 0) ⟨[(0,.own 0 (zA (α:=VarType) o))],[.elems 3 (zB yP o)]⟩)->ALoopU zQ B 1 58 (hold c .mk) ⟨[(0,.own 0 (zA (α:=VarType) out7)),(1,am zR w),(7,.ptr 2 0),(9,am zM v),(10,li (i:Int))],[.elems 3 (zB yP out7),.dead,.cells [li p.op,li p.ctor,li p.n,li p.m,li p.var,am zT p.kids]]⟩ (hold Q .mk))/\
  (∀(p:Pattern) (v59:List Ty) (out61:List VarType) (i62:Nat) (o:List VarType),F.f72 w p v59 out61 i62=some o->∀(c:Code),ZP [1,1,1,0,1,0,0] (ZG Tryz.f111)=some c->∀(Q:Exit->ASt->Prop),(Q (.exit 0) ⟨[(0,.own 0 (zA (α:=VarType) o))],[.elems 3 (zB yP o)]⟩)->ALoopU zQ B 1 58 (hold c .mk) ⟨[(0,.own 0 (zA (α:=VarType) out61)),(1,am zR w),(7,.ptr 2 0),(9,am zM v59),(10,li (i62:Int))],[.elems 3 (zB yP out61),.dead,.cells [li p.op,li p.ctor,li p.n,li p.m,li p.var,am zT p.kids]]⟩ (hold Q .mk)):=by
 refine F.f69.mutual_partial_correctness w
  _ _ _ _
  ?_ ?_ ?_ ?_
 ·intro _f_f71 _f_f70 _f_f72 ih_f71 ih_f70 ih_f72 out t p r hF
  refine BCall.enter func111 (by kernel_rfl) rfl ntmps111 (by simp) rfl (by simp) (by simp) (by simp) (by simp) (by simp) (gR _) ?_
  refine kz ?_
  revert hF;refine aN ?_ ?_<;>intro h1 q2 hF
  ·repeat first|refine cg ?_|simp -dsimp[h1,q2]
   revert hF;refine aS ?_ ?_<;>intro h3 q4 hF
   ·have hF:=oc hF;obtain⟨c5,hF⟩:=hF
    repeat first|refine cg ?_|simp -dsimp[h3]
    have hF:=ob hF;obtain⟨v,e6,hF⟩:=hF
    refine((C.f64 B hB1 hB2 w t p v e6)).goI ?_
    refine kz ?_
    have hF:=ob hF;obtain⟨o',ho29,hF⟩:=hF
    refine zK ((ih_f70 p v (out++[(⟨p.var,t⟩:VarType)]) 0 o' ho29) _ rfl _ ?_)
    cases hF
    repeat first|refine cg ?_|simp -dsimp
   ·repeat first|refine cg ?_|simp -dsimp[q4]
    have hF:=ob hF;obtain⟨v30,e31,hF⟩:=hF
    refine((C.f64 B hB1 hB2 w t p v30 e31)).goI ?_
    refine kz ?_
    have hF:=ob hF;obtain⟨o'57,ho56,hF⟩:=hF
    refine zK ((ih_f71 p v30 out 0 o'57 ho56) _ rfl _ ?_)
    cases hF
    repeat first|refine cg ?_|simp -dsimp
  ·have hF:=oc hF;obtain⟨c58,hF⟩:=hF
   repeat first|refine cg ?_|simp -dsimp[h1,q2]
   have hF:=ob hF;obtain⟨v59,e60,hF⟩:=hF
   refine((C.f64 B hB1 hB2 w t p v59 e60)).goI ?_
   refine kz ?_
   have hF:=ob hF;obtain⟨o'86,ho85,hF⟩:=hF
   refine zK ((ih_f72 p v59 (out++[(⟨p.var,t⟩:VarType)]) 0 o'86 ho85) _ rfl _ ?_)
   cases hF
   repeat first|refine cg ?_|simp -dsimp
 ·intro _f_f69 _f_f71 ih_f69 ih_f71 p v30 out32 i33 o hF
  refine ZI rfl fun Q hq hk hs=> ?_
  have b1:=hk 1
  simp -dsimp at b1
  have b9:=hk 9
  simp -dsimp at b9
  have d0:=hs 0 _ rfl
  simp -dsimp[yK]at d0
  have d2:=hs 2 _ rfl
  simp -dsimp[yK]at d2
  clear hk hs
  refine eN ?_
  refine kz ?_
  revert hF;refine aS ?_ ?_<;>intro h34 q35 hF
  ·have z36:((i33:Int)<(v30.length:Int)):=auz
   repeat first|refine cg ?_|simp -dsimp[h34,z36]
   revert hF;refine aN ?_ ?_<;>intro h37 q38 hF
   ·have z39:¬((i33:Int)=0):=auz
    repeat first|refine cg ?_|simp -dsimp[h34,z36,h37,q38,z39]
    revert hF;refine aN ?_ ?_<;>intro h40 q41 hF
    ·repeat first|refine cg ?_|simp -dsimp[h34,z36,h37,q38,z39,h40,q41]
     refine yL [111] [(0,0),(0,0),(0,0),(0,0),(0,0),(0,0),(0,0),(0,0),(0,0),(0,0),(0,0),(0,1),(1,1)] [1,1,1,1,1,1,1,1,1,1,1,1,1] follows ?_
     have hF:=ob hF;obtain⟨x42,e43,hF⟩:=hF
     have le43:=ZB e43
     have hF:=ob hF;obtain⟨x44,e45,hF⟩:=hF
     have le45:=ZB e45
     repeat first|refine cg ?_|simp -dsimp[↓e43,↓e45]
     have hF:=ob hF;obtain⟨v46,e47,hF⟩:=hF
     refine((ih_f69 out32 x42 x44 v46 e47)).ego (pl [0]) (by simp) (by simp) (Zz _ rfl (by decide)) (by intro i hi hi';simp at hi hi';first|omega|(subst hi';simp[pl])) (by simp[h34,z36,h37,q38,z39,h40,q41,↓e43,↓e45]) (by simp[h34,z36,h37,q38,z39,h40,q41,↓e43,↓e45]) ?_
     have w48:i64.wrap ((i33:Int)+1)=(i33:Int)+1:=ZE (by omega) (by omega)
     repeat first|refine cg ?_|simp -dsimp[w48]
     refine zG ((ih_f71 p v30 v46 (i33+1) o hF) _ rfl _ hq)
    ·cases hF
     repeat first|refine cg ?_|simp -dsimp[h34,z36,h37,q38,z39,h40,q41]
     refine zH hq
   ·have z39:((i33:Int)=0):=auz
    repeat first|refine cg ?_|simp -dsimp[h34,z36,eq_true h37,eq_true q38,eq_true z39]
    refine yL [111] [(0,0),(0,0),(0,0),(0,0),(0,0),(0,0),(0,0),(0,0),(0,0),(0,0),(0,0),(0,1),(1,1)] [1,1,1,1,1,1,1,1,1,1,1,1,1] follows ?_
    have hF:=ob hF;obtain⟨x49,e50,hF⟩:=hF
    have le50:=ZB e50
    have hF:=ob hF;obtain⟨x51,e52,hF⟩:=hF
    have le52:=ZB e52
    repeat first|refine cg ?_|simp -dsimp[↓e50,↓e52]
    have hF:=ob hF;obtain⟨v53,e54,hF⟩:=hF
    refine((ih_f69 out32 x49 x51 v53 e54)).ego (pl [0]) (by simp) (by simp) (Zz _ rfl (by decide)) (by intro i hi hi';simp at hi hi';first|omega|(subst hi';simp[pl])) (by simp[h34,z36,eq_true h37,eq_true q38,eq_true z39,↓e50,↓e52]) (by simp[h34,z36,eq_true h37,eq_true q38,eq_true z39,↓e50,↓e52]) ?_
    have w55:i64.wrap ((i33:Int)+1)=(i33:Int)+1:=ZE (by omega) (by omega)
    repeat first|refine cg ?_|simp -dsimp[w55]
    refine zG ((ih_f71 p v30 v53 (i33+1) o hF) _ rfl _ hq)
  ·have z36:¬((i33:Int)<(v30.length:Int)):=auz
   cases hF
   repeat first|refine cg ?_|simp -dsimp[h34,q35,z36]
   refine zH hq
 ·intro _f_f69 _f_f70 ih_f69 ih_f70 p v out7 i o hF
  refine ZI rfl fun Q hq hk hs=> ?_
  have b1:=hk 1
  simp -dsimp at b1
  have b9:=hk 9
  simp -dsimp at b9
  have d0:=hs 0 _ rfl
  simp -dsimp[yK]at d0
  have d2:=hs 2 _ rfl
  simp -dsimp[yK]at d2
  clear hk hs
  refine eN ?_
  refine kz ?_
  revert hF;refine aS ?_ ?_<;>intro h8 q9 hF
  ·have z10:((i:Int)<(v.length:Int)):=auz
   repeat first|refine cg ?_|simp -dsimp[h8,z10]
   revert hF;refine aN ?_ ?_<;>intro h11 q12 hF
   ·have z13:¬((i:Int)=0):=auz
    repeat first|refine cg ?_|simp -dsimp[h8,z10,h11,q12,z13]
    revert hF;refine aN ?_ ?_<;>intro h14 q15 hF
    ·repeat first|refine cg ?_|simp -dsimp[h8,z10,h11,q12,z13,h14,q15]
     refine yL [111] [(0,0),(0,0),(0,0),(0,0),(0,0),(0,0),(0,0),(0,0),(0,0),(0,0),(0,0),(0,1),(1,1)] [1,1,1,1,1,1,1,1,1,1,1,1,1] follows ?_
     have hF:=ob hF;obtain⟨x,e16,hF⟩:=hF
     have le16:=ZB e16
     have hF:=ob hF;obtain⟨x17,e18,hF⟩:=hF
     have le18:=ZB e18
     repeat first|refine cg ?_|simp -dsimp[↓e16,↓e18]
     have hF:=ob hF;obtain⟨v19,e20,hF⟩:=hF
     refine((ih_f69 out7 x x17 v19 e20)).ego (pl [0]) (by simp) (by simp) (Zz _ rfl (by decide)) (by intro i hi hi';simp at hi hi';first|omega|(subst hi';simp[pl])) (by simp[h8,z10,h11,q12,z13,h14,q15,↓e16,↓e18]) (by simp[h8,z10,h11,q12,z13,h14,q15,↓e16,↓e18]) ?_
     have w21:i64.wrap ((i:Int)+1)=(i:Int)+1:=ZE (by omega) (by omega)
     repeat first|refine cg ?_|simp -dsimp[w21]
     refine zG ((ih_f70 p v v19 (i+1) o hF) _ rfl _ hq)
    ·cases hF
     repeat first|refine cg ?_|simp -dsimp[h8,z10,h11,q12,z13,h14,q15]
     refine zH hq
   ·have z13:((i:Int)=0):=auz
    repeat first|refine cg ?_|simp -dsimp[h8,z10,eq_true h11,eq_true q12,eq_true z13]
    refine yL [111] [(0,0),(0,0),(0,0),(0,0),(0,0),(0,0),(0,0),(0,0),(0,0),(0,0),(0,0),(0,1),(1,1)] [1,1,1,1,1,1,1,1,1,1,1,1,1] follows ?_
    have hF:=ob hF;obtain⟨x22,e23,hF⟩:=hF
    have le23:=ZB e23
    have hF:=ob hF;obtain⟨x24,e25,hF⟩:=hF
    have le25:=ZB e25
    repeat first|refine cg ?_|simp -dsimp[↓e23,↓e25]
    have hF:=ob hF;obtain⟨v26,e27,hF⟩:=hF
    refine((ih_f69 out7 x22 x24 v26 e27)).ego (pl [0]) (by simp) (by simp) (Zz _ rfl (by decide)) (by intro i hi hi';simp at hi hi';first|omega|(subst hi';simp[pl])) (by simp[h8,z10,eq_true h11,eq_true q12,eq_true z13,↓e23,↓e25]) (by simp[h8,z10,eq_true h11,eq_true q12,eq_true z13,↓e23,↓e25]) ?_
    have w28:i64.wrap ((i:Int)+1)=(i:Int)+1:=ZE (by omega) (by omega)
    repeat first|refine cg ?_|simp -dsimp[w28]
    refine zG ((ih_f70 p v v26 (i+1) o hF) _ rfl _ hq)
  ·have z10:¬((i:Int)<(v.length:Int)):=auz
   cases hF
   repeat first|refine cg ?_|simp -dsimp[h8,q9,z10]
   refine zH hq
 ·intro _f_f69 _f_f72 ih_f69 ih_f72 p v59 out61 i62 o hF
  refine ZI rfl fun Q hq hk hs=> ?_
  have b1:=hk 1
  simp -dsimp at b1
  have b9:=hk 9
  simp -dsimp at b9
  have d0:=hs 0 _ rfl
  simp -dsimp[yK]at d0
  have d2:=hs 2 _ rfl
  simp -dsimp[yK]at d2
  clear hk hs
  refine eN ?_
  refine kz ?_
  revert hF;refine aS ?_ ?_<;>intro h63 q64 hF
  ·have z65:((i62:Int)<(v59.length:Int)):=auz
   repeat first|refine cg ?_|simp -dsimp[h63,z65]
   revert hF;refine aN ?_ ?_<;>intro h66 q67 hF
   ·have z68:¬((i62:Int)=0):=auz
    repeat first|refine cg ?_|simp -dsimp[h63,z65,h66,q67,z68]
    revert hF;refine aN ?_ ?_<;>intro h69 q70 hF
    ·repeat first|refine cg ?_|simp -dsimp[h63,z65,h66,q67,z68,h69,q70]
     refine yL [111] [(0,0),(0,0),(0,0),(0,0),(0,0),(0,0),(0,0),(0,0),(0,0),(0,0),(0,0),(0,1),(1,1)] [1,1,1,1,1,1,1,1,1,1,1,1,1] follows ?_
     have hF:=ob hF;obtain⟨x71,e72,hF⟩:=hF
     have le72:=ZB e72
     have hF:=ob hF;obtain⟨x73,e74,hF⟩:=hF
     have le74:=ZB e74
     repeat first|refine cg ?_|simp -dsimp[↓e72,↓e74]
     have hF:=ob hF;obtain⟨v75,e76,hF⟩:=hF
     refine((ih_f69 out61 x71 x73 v75 e76)).ego (pl [0]) (by simp) (by simp) (Zz _ rfl (by decide)) (by intro i hi hi';simp at hi hi';first|omega|(subst hi';simp[pl])) (by simp[h63,z65,h66,q67,z68,h69,q70,↓e72,↓e74]) (by simp[h63,z65,h66,q67,z68,h69,q70,↓e72,↓e74]) ?_
     have w77:i64.wrap ((i62:Int)+1)=(i62:Int)+1:=ZE (by omega) (by omega)
     repeat first|refine cg ?_|simp -dsimp[w77]
     refine zG ((ih_f72 p v59 v75 (i62+1) o hF) _ rfl _ hq)
    ·cases hF
     repeat first|refine cg ?_|simp -dsimp[h63,z65,h66,q67,z68,h69,q70]
     refine zH hq
   ·have z68:((i62:Int)=0):=auz
    repeat first|refine cg ?_|simp -dsimp[h63,z65,eq_true h66,eq_true q67,eq_true z68]
    refine yL [111] [(0,0),(0,0),(0,0),(0,0),(0,0),(0,0),(0,0),(0,0),(0,0),(0,0),(0,0),(0,1),(1,1)] [1,1,1,1,1,1,1,1,1,1,1,1,1] follows ?_
    have hF:=ob hF;obtain⟨x78,e79,hF⟩:=hF
    have le79:=ZB e79
    have hF:=ob hF;obtain⟨x80,e81,hF⟩:=hF
    have le81:=ZB e81
    repeat first|refine cg ?_|simp -dsimp[↓e79,↓e81]
    have hF:=ob hF;obtain⟨v82,e83,hF⟩:=hF
    refine((ih_f69 out61 x78 x80 v82 e83)).ego (pl [0]) (by simp) (by simp) (Zz _ rfl (by decide)) (by intro i hi hi';simp at hi hi';first|omega|(subst hi';simp[pl])) (by simp[h63,z65,eq_true h66,eq_true q67,eq_true z68,↓e79,↓e81]) (by simp[h63,z65,eq_true h66,eq_true q67,eq_true z68,↓e79,↓e81]) ?_
    have w84:i64.wrap ((i62:Int)+1)=(i62:Int)+1:=ZE (by omega) (by omega)
    repeat first|refine cg ?_|simp -dsimp[w84]
    refine zG ((ih_f72 p v59 v82 (i62+1) o hF) _ rfl _ hq)
  ·have z65:¬((i62:Int)<(v59.length:Int)):=auz
   cases hF
   repeat first|refine cg ?_|simp -dsimp[h63,q64,z65]
   refine zH hq
theorem CC.f73 (list:List VarType)(n:Int):(∀(i:Nat) (o:Lo Int Unit),F.f73 list n i=some o->∀(c:Code),ZP [1,0,1,0,0] (ZG Tryz.f141)=some c->∀(Q:Exit->ASt->Prop),o.post (fun r=>∀st,ZAD zQ Tryz.f141 (fun r' _=>r'.le (li r)) .ret st->Q .ret st) (fun s=>Q (.exit 0) ⟨[],[]⟩)->ALoopU zQ B 0 20 (hold c .mk) ⟨[(0,am yP list),(1,li n),(5,li (i:Int))],[]⟩ (hold Q .mk)):=by
 refine F.f73.partial_correctness list n
  _
  ?_
 ·intro _f_f73 ih_f73 i o hF
  refine ZI rfl fun Q hq hk hs=> ?_
  have b0:=hk 0
  simp -dsimp at b0
  clear hk hs
  refine eN ?_
  refine kz ?_
  revert hF;refine aS ?_ ?_<;>intro h1 q2 hF
  ·have z3:((i:Int)<(list.length:Int)):=auz
   have hF:=ob hF;obtain⟨x,e4,hF⟩:=hF
   have le4:=ZB e4
   repeat first|refine cg ?_|simp -dsimp[h1,z3,↓e4]
   revert hF;refine aS ?_ ?_<;>intro h5 q6 hF
   ·cases hF
    repeat first|refine cg ?_|simp -dsimp[h5]
    refine lG _ (gR _) (hq _ ?_)
    repeat first|refine cg ?_|simp -dsimp
   ·have w7:i64.wrap ((i:Int)+1)=(i:Int)+1:=ZE (by omega) (by omega)
    repeat first|refine cg ?_|simp -dsimp[q6,w7]
    refine zG ((ih_f73 (i+1) o hF) _ rfl _ hq)
  ·have z3:¬((i:Int)<(list.length:Int)):=auz
   cases hF
   repeat first|refine cg ?_|simp -dsimp[h1,q2,z3]
   refine zH hq
theorem C.f74 (list:List VarType)(n:Int)(r:Int)(hF:F.f74 list n=some r):PureCall zQ B 141 [am yP list,li n] (li r):=by
 unfold F.f74 at hF
 refine zI func141 rfl ntmps141 ?_
 refine kz ?_
 have hF:=ob hF;obtain⟨o',ho8,hF⟩:=hF
 refine zK (((CC.f73 B hB1 hB2 list n) 0 o' ho8) _ rfl _ ?_)
 rcases o' with r0|sx
 ·dsimp only at hF
  cases hF
  intro st h
  simpa using h
 ·dsimp only at hF
  cases hF
  repeat first|refine cg ?_|simp -dsimp
theorem CC.f75 (a:List VarType)(b:List VarType):(∀(i:Nat) (o:Lo Bool Unit),F.f75 a b i=some o->∀(c:Code),ZP [1,0,1,0,0] (ZG Tryz.f155)=some c->∀(Q:Exit->ASt->Prop),o.post (fun r=>∀st,ZAD zQ Tryz.f155 (fun r' _=>r'.le (.lit (.bool r))) .ret st->Q .ret st) (fun s=>Q (.exit 0) ⟨[(0,am yP a),(1,am yP b)],[]⟩)->ALoopU zQ B 0 40 (hold c .mk) ⟨[(0,am yP a),(1,am yP b),(5,li (i:Int))],[]⟩ (hold Q .mk)):=by
 refine F.f75.partial_correctness a b
  _
  ?_
 ·intro _f_f75 ih_f75 i o hF
  refine ZI rfl fun Q hq hk hs=> ?_
  have b0:=hk 0
  simp -dsimp at b0
  have b1:=hk 1
  simp -dsimp at b1
  clear hk hs
  refine eN ?_
  refine kz ?_
  revert hF;refine aS ?_ ?_<;>intro h1 q2 hF
  ·have z3:((i:Int)<(a.length:Int)):=auz
   have hF:=ob hF;obtain⟨x,e4,hF⟩:=hF
   have le4:=ZB e4
   repeat first|refine cg ?_|simp -dsimp[h1,z3,↓e4]
   have hF:=ob hF;obtain⟨v,e5,hF⟩:=hF
   refine((C.f74 B hB1 hB2 b x.var v e5)).goI ?_
   repeat first|refine cg ?_|simp -dsimp[↓e4]
   refine yM follows ?_
   repeat first|refine cg ?_|simp -dsimp[↓e4]
   revert hF;refine aN ?_ ?_<;>intro h6 q7 hF
   ·have hF:=ob hF;obtain⟨x8,e9a,hF⟩:=hF
    have e9a:=ZX e9a;obtain⟨ne9,e9⟩:=e9a
    have le9:=ZB e9
    repeat first|refine cg ?_|simp -dsimp[↓e4,h6,q7,↓e9]
    revert hF;refine aN (fun h10 q11 hF=> ?_) (fun h10 q11 hF=> ?_)
    ·cases hF
     repeat first|refine cg ?_|simp -dsimp[↓e4,↓e9,h10,q11]
     refine lG _ (gR _) (hq _ ?_)
     repeat first|refine cg ?_|simp -dsimp[↓e4,↓e9]
    ·have w12:i64.wrap ((i:Int)+1)=(i:Int)+1:=ZE (by omega) (by omega)
     repeat first|refine cg ?_|simp -dsimp[↓e4,↓e9,w12]
     refine zG ((ih_f75 (i+1) o hF) _ rfl _ hq)
   ·cases hF
    repeat first|refine cg ?_|simp -dsimp[↓e4,h6,q7]
    refine lG _ (gR _) (hq _ ?_)
    repeat first|refine cg ?_|simp -dsimp[↓e4]
  ·have z3:¬((i:Int)<(a.length:Int)):=auz
   cases hF
   repeat first|refine cg ?_|simp -dsimp[h1,q2,z3]
   refine zH hq
theorem C.f76 (a:List VarType)(b:List VarType)(r:Bool)(hF:F.f76 a b=some r):PureCall zQ B 155 [am yP a,am yP b] (.lit (.bool r)):=by
 unfold F.f76 at hF
 refine zI func155 rfl ntmps155 ?_
 refine kz ?_
 have hF:=ob hF;obtain⟨o',ho13,hF⟩:=hF
 refine zK (((CC.f75 B hB1 hB2 a b) 0 o' ho13) _ rfl _ ?_)
 rcases o' with r0|sx
 ·dsimp only at hF
  cases hF
  intro st h
  simpa using h
 ·dsimp only at hF
  cases hF
  repeat first|refine cg ?_|simp -dsimp
  all_goals(try first|omega|rfl)
theorem CC.f77 (v26:List VarType):(∀(i28:Nat) (o:Lo Bool Unit),F.f77 v26 i28=some o->∀(c:Code),ZP [1,1,1,1,1,0,1,0,0] (ZG Tryz.f140)=some c->∀(Q:Exit->ASt->Prop),o.post (fun r=>∀st,ZAD zQ Tryz.f140 (fun r' _=>r'.le (.lit (.bool r))) .ret st->Q .ret st) (fun s=>Q (.exit 2) ⟨[],[]⟩)->ALoopU zQ B 0 70 (hold c .mk) ⟨[(9,.own 2 (zA (α:=VarType) v26)),(10,li (i28:Int))],[.dead,.dead,.elems 3 (zB yP v26)]⟩ (hold Q .mk)):=by
 refine F.f77.partial_correctness v26
  _
  ?_
 ·intro _f_f77 ih_f77 i28 o hF
  refine ZI rfl fun Q hq hk hs=> ?_
  have d2:=hs 2 _ rfl
  simp -dsimp[yK]at d2
  clear hk hs
  refine eN ?_
  refine kz ?_
  revert hF;refine aS ?_ ?_<;>intro h29 q30 hF
  ·have z31:((i28:Int)<(v26.length:Int)):=auz
   have hF:=ob hF;obtain⟨x32,e33,hF⟩:=hF
   have le33:=ZB e33
   repeat first|refine cg ?_|simp -dsimp[h29,z31,↓e33]
   have hF:=ob hF;obtain⟨v34,e35,hF⟩:=hF
   refine((C.f74 B hB1 hB2 v26 x32.var v34 e35)).lend (by simp_all) (by simp -dsimp) ?_
   refine kz ?_
   revert hF;refine aN ?_ ?_<;>intro h36 q37 hF
   ·cases hF
    repeat first|refine cg ?_|simp -dsimp[h36,q37]
    refine lG _ (gR _) (hq _ ?_)
    repeat first|refine cg ?_|simp -dsimp
   ·have w38:i64.wrap ((i28:Int)+1)=(i28:Int)+1:=ZE (by omega) (by omega)
    repeat first|refine cg ?_|simp -dsimp[w38]
    refine zG ((ih_f77 (i28+1) o hF) _ rfl _ hq)
  ·have z31:¬((i28:Int)<(v26.length:Int)):=auz
   cases hF
   repeat first|refine cg ?_|simp -dsimp[h29,q30,z31]
   refine zH hq
theorem CC.f78 (w:List zP):(∀(t:Ty) (p:Pattern) (r:Bool),F.f78 w t p=some r->PureCall zQ B 140 [am zR w,.agg [li t.data,li t.index],.agg [li p.op,li p.ctor,li p.n,li p.m,li p.var,am zT p.kids]] (.lit (.bool r)))/\
  (∀(t:Ty) (p:Pattern) (v:List Ty) (i:Nat) (o:Lo Bool Unit),F.f79 w t p v i=some o->∀(c:Code),ZP [1,1,0,1,0,0] (ZG Tryz.f140)=some c->∀(Q:Exit->ASt->Prop),o.post (fun r=>∀st,ZAD zQ Tryz.f140 (fun r' _=>r'.le (.lit (.bool r))) .ret st->Q .ret st) (fun s=>Q (.exit 0) ⟨[(0,am zR w),(4,.ptr 0 0),(5,.ptr 1 0)],[.cells [li t.data,li t.index],.cells [li p.op,li p.ctor,li p.n,li p.m,li p.var,am zT p.kids]]⟩)->ALoopU zQ B 0 70 (hold c .mk) ⟨[(0,am zR w),(4,.ptr 0 0),(5,.ptr 1 0),(7,am zM v),(8,li (i:Int))],[.cells [li t.data,li t.index],.cells [li p.op,li p.ctor,li p.n,li p.m,li p.var,am zT p.kids]]⟩ (hold Q .mk)):=by
 refine F.f78.mutual_partial_correctness w
  _ _
  ?_ ?_
 ·intro _f_f79 ih_f79 t p r hF
  refine zI func140 rfl ntmps140 ?_
  refine kz ?_
  have hF:=ob hF;obtain⟨v,e1,hF⟩:=hF
  refine((C.f64 B hB1 hB2 w t p v e1)).goI ?_
  refine kz ?_
  have hF:=ob hF;obtain⟨o',ho13,hF⟩:=hF
  refine zK ((ih_f79 t p v 0 o' ho13) _ rfl _ ?_)
  rcases o' with r042|sx
  ·dsimp only at hF
   cases hF
   intro st h
   simpa using h
  ·dsimp only at hF
   refine kz ?_
   revert hF;refine aS ?_ ?_<;>intro h14 q15 hF
   ·repeat first|refine cg ?_|simp -dsimp[h14]
    refine yL [111,155] [(0,0),(0,0),(0,0),(0,0),(0,0),(0,0),(0,3),(0,1),(0,1),(0,1),(0,1),(0,1),(0,1),(0,3),(0,3),(3,3)] [1,1,1,1,1,1,1,1,2,0,2,0,0,1,1,1] follows ?_
    have hF:=ob hF;obtain⟨x16,e17,hF⟩:=hF
    have le17:=ZB e17
    repeat first|refine cg ?_|simp -dsimp[↓e17]
    have hF:=ob hF;obtain⟨v18,e19,hF⟩:=hF
    refine ECallA.nilArg 0 3 (by simp) ?_
    refine kz ?_
    refine(((CC.f69 B hB1 hB2 w).1 [] t x16 v18 e19)).ego (pl [2]) (by simp) (by simp) (Zz _ rfl (by decide)) (by intro i hi hi';simp at hi hi';first|omega|(subst hi';simp[pl])) (by simp_all) (by simp_all) ?_
    have hF:=ob hF;obtain⟨x20,e21,hF⟩:=hF
    have le21:=ZB e21
    repeat first|refine cg ?_|simp -dsimp[↓e21]
    have hF:=ob hF;obtain⟨v22,e23,hF⟩:=hF
    refine ECallA.nilArg 0 3 (by simp) ?_
    refine kz ?_
    refine(((CC.f69 B hB1 hB2 w).1 [] t x20 v22 e23)).ego (pl [3]) (by simp) (by simp) (Zz _ rfl (by decide)) (by intro i hi hi';simp at hi hi';first|omega|(subst hi';simp[pl])) (by simp_all) (by simp_all) ?_
    refine kz ?_
    have hF:=ob hF;obtain⟨v24,e25,hF⟩:=hF
    refine((C.f76 B hB1 hB2 v18 v22 v24 e25)).elend (by simp_all) (by simp -dsimp) ?_
    cases hF
    repeat first|refine cg ?_|simp -dsimp
   ·repeat first|refine cg ?_|simp -dsimp[q15]
    have hF:=ob hF;obtain⟨v26,e27,hF⟩:=hF
    refine ACall.nilArg 0 3 (by simp) ?_
    refine kz ?_
    refine(((CC.f69 B hB1 hB2 w).1 [] t p v26 e27)).go (pl [2]) (by simp) (by simp) (Zz _ rfl (by decide)) (by intro i hi hi';simp at hi hi';first|omega|(subst hi';simp[pl])) (by simp_all) (by simp_all) ?_
    refine kz ?_
    have hF:=ob hF;obtain⟨o'40,ho39,hF⟩:=hF
    refine zK (((CC.f77 B hB1 hB2 v26) 0 o'40 ho39) _ rfl _ ?_)
    rcases o'40 with r0|sx41
    ·dsimp only at hF
     cases hF
     intro st h
     simpa using h
    ·dsimp only at hF
     cases hF
     repeat first|refine cg ?_|simp -dsimp
 ·intro _f_f78 _f_f79 ih_f78 ih_f79 t p v i o hF
  refine ZI rfl fun Q hq hk hs=> ?_
  have b0:=hk 0
  simp -dsimp at b0
  have b7:=hk 7
  simp -dsimp at b7
  have d1:=hs 1 _ rfl
  simp -dsimp[yK]at d1
  clear hk hs
  refine eN ?_
  refine kz ?_
  revert hF;refine aS ?_ ?_<;>intro h2 q3 hF
  ·have z4:((i:Int)<(v.length:Int)):=auz
   repeat first|refine cg ?_|simp -dsimp[h2,z4]
   refine yM follows ?_
   have hF:=ob hF;obtain⟨x,e5,hF⟩:=hF
   have le5:=ZB e5
   have hF:=ob hF;obtain⟨x6,e7,hF⟩:=hF
   have le7:=ZB e7
   repeat first|refine cg ?_|simp -dsimp[↓e5,↓e7]
   have hF:=ob hF;obtain⟨v8,e9,hF⟩:=hF
   refine((ih_f78 x x6 v8 e9)).pgoW (by simp_all) (by simp) ?_
   refine kz ?_
   revert hF;refine aN (fun h10 q11 hF=> ?_) (fun h10 q11 hF=> ?_)
   ·cases hF
    repeat first|refine cg ?_|simp -dsimp[h10,q11]
    refine lG _ (gR _) (hq _ ?_)
    repeat first|refine cg ?_|simp -dsimp
   ·have w12:i64.wrap ((i:Int)+1)=(i:Int)+1:=ZE (by omega) (by omega)
    repeat first|refine cg ?_|simp -dsimp[w12]
    refine zG ((ih_f79 t p v (i+1) o hF) _ rfl _ hq)
  ·have z4:¬((i:Int)<(v.length:Int)):=auz
   cases hF
   repeat first|refine cg ?_|simp -dsimp[h2,q3,z4]
   refine zH hq
theorem C.f80 (w:List zP)(t:Ty)(p:Pattern)(r:Bool)(hF:F.f80 w t p=some r):PureCall zQ B 109 [am zR w,.agg [li t.data,li t.index],.agg [li p.op,li p.ctor,li p.n,li p.m,li p.var,am zT p.kids]] (.lit (.bool r)):=by
 unfold F.f80 at hF
 refine zI func109 rfl ntmps109 ?_
 refine kz ?_
 have hF:=ob hF;obtain⟨v,e1,hF⟩:=hF
 refine(((CC.f65 B hB1 hB2 w).1 t p 10 v e1)).goI ?_
 refine kz ?_
 revert hF;refine aS (fun h2 q3 hF=> ?_) (fun h2 q3 hF=> ?_)
 ·repeat first|refine cg ?_|simp -dsimp[h2]
  have hF:=ob hF;obtain⟨v4,e5,hF⟩:=hF
  refine(((CC.f67 B hB1 hB2).1 p 60 v4 e5)).goI ?_
  repeat first|refine cg ?_|simp -dsimp[h2]
  revert hF;refine aS ?_ ?_<;>intro h6 q7 hF
  ·repeat first|refine cg ?_|simp -dsimp[h2,h6]
   have hF:=ob hF;obtain⟨v8,e9,hF⟩:=hF
   refine(((CC.f78 B hB1 hB2 w).1 t p v8 e9)).goI ?_
   cases hF
   repeat first|refine cg ?_|simp -dsimp[h2,h6]
  ·cases hF
   repeat first|refine cg ?_|simp -dsimp[h2,h6,q7]
 ·cases hF
  repeat first|refine cg ?_|simp -dsimp[h2,q3]
theorem C.f81 (g:Guard)(vars:List VarType)(r:Bool)(hF:F.f81 g vars=some r):PureCall zQ B 110 [.agg [li g.op,li g.var,li g.n],am yP vars] (.lit (.bool r)):=by
 unfold F.f81 at hF
 refine zI func110 rfl ntmps110 ?_
 refine kz ?_
 revert hF;refine aS ?_ ?_<;>intro h1 q2 hF
 ·repeat first|refine cg ?_|simp -dsimp[h1]
  revert hF;refine aS ?_ ?_<;>intro h3 q4 hF
  ·cases hF
   repeat first|refine cg ?_|simp -dsimp[h1,h3]
  ·cases hF
   repeat first|refine cg ?_|simp -dsimp[h1,h3,q4]
 ·repeat first|refine cg ?_|simp -dsimp[h1,q2]
  revert hF;refine aN ?_ ?_<;>intro h5 q6 hF
  ·repeat first|refine cg ?_|simp -dsimp[h1,q2,h5,q6]
   revert hF;refine aS ?_ ?_<;>intro h7 q8 hF
   ·repeat first|refine cg ?_|simp -dsimp[h1,q2,h5,q6,h7]
    revert hF;refine aN ?_ ?_<;>intro h9 q10 hF
    ·repeat first|refine cg ?_|simp -dsimp[h1,q2,h5,q6,h7,h9,q10]
     revert hF;refine aS ?_ ?_<;>intro h11 q12 hF
     ·cases hF
      repeat first|refine cg ?_|simp -dsimp[h1,q2,h5,q6,h7,h9,q10,h11]
     ·repeat first|refine cg ?_|simp -dsimp[h1,q2,h5,q6,h7,h9,q10,h11,q12]
      have hF:=ob hF;obtain⟨v,e13,hF⟩:=hF
      refine((C.f74 B hB1 hB2 vars g.var v e13)).goI ?_
      repeat first|refine cg ?_|simp -dsimp[h1,q2,h5,q6,h7,h9,q10,h11,q12]
      revert hF;refine aS ?_ ?_<;>intro h14 q15 hF
      ·have hF:=ob hF;obtain⟨x,e16a,hF⟩:=hF
       have e16a:=ZX e16a;obtain⟨ne16,e16⟩:=e16a
       have le16:=ZB e16
       cases hF
       repeat first|refine cg ?_|simp -dsimp[h1,q2,h5,q6,h7,h9,q10,h11,q12,h14,↓e16]
      ·cases hF
       repeat first|refine cg ?_|simp -dsimp[h1,q2,h5,q6,h7,h9,q10,h11,q12,h14,q15]
    ·cases hF
     repeat first|refine cg ?_|simp -dsimp[h1,q2,h5,q6,h7,h9,q10]
   ·cases hF
    repeat first|refine cg ?_|simp -dsimp[h1,q2,h5,q6,h7,q8]
  ·repeat first|refine cg ?_|simp -dsimp[h1,q2,h5,q6]
   revert hF;refine aN ?_ ?_<;>intro h17 q18 hF
   ·repeat first|refine cg ?_|simp -dsimp[h1,q2,h5,q6,h17,q18]
    revert hF;refine aS ?_ ?_<;>intro h19 q20 hF
    ·cases hF
     repeat first|refine cg ?_|simp -dsimp[h1,q2,h5,q6,h17,q18,h19]
    ·repeat first|refine cg ?_|simp -dsimp[h1,q2,h5,q6,h17,q18,h19,q20]
     have hF:=ob hF;obtain⟨v21,e22,hF⟩:=hF
     refine((C.f74 B hB1 hB2 vars g.var v21 e22)).goI ?_
     repeat first|refine cg ?_|simp -dsimp[h1,q2,h5,q6,h17,q18,h19,q20]
     revert hF;refine aS ?_ ?_<;>intro h23 q24 hF
     ·have hF:=ob hF;obtain⟨x25,e26a,hF⟩:=hF
      have e26a:=ZX e26a;obtain⟨ne26,e26⟩:=e26a
      have le26:=ZB e26
      cases hF
      repeat first|refine cg ?_|simp -dsimp[h1,q2,h5,q6,h17,q18,h19,q20,h23,↓e26]
     ·cases hF
      repeat first|refine cg ?_|simp -dsimp[h1,q2,h5,q6,h17,q18,h19,q20,h23,q24]
   ·cases hF
    repeat first|refine cg ?_|simp -dsimp[h1,q2,h5,q6,h17,q18]
theorem C.f82 (w:List zP)(t:Ty)(c':Clause)(r:Bool)(hF:F.f82 w t c'=some r):PureCall zQ B 76 [am zR w,.agg [li t.data,li t.index],.agg [li c'.pat.op,li c'.pat.ctor,li c'.pat.n,li c'.pat.m,li c'.pat.var,am zT c'.pat.kids,li c'.guard.op,li c'.guard.var,li c'.guard.n]] (.lit (.bool r)):=by
 unfold F.f82 at hF
 refine zI func76 rfl ntmps76 ?_
 refine kz ?_
 refine yL [110,111] [(0,0),(0,0),(0,0),(0,0),(0,2),(0,0),(0,1),(0,1),(0,0),(0,0),(0,0),(0,0),(0,2),(0,2),(2,2),(2,2)] [1,1,1,1,1,1,0,2,1,1,1,1,1,1,1,1] follows ?_
 refine kz ?_
 have hF:=ob hF;obtain⟨v,e1,hF⟩:=hF
 refine((C.f80 B hB1 hB2 w t c'.pat v e1)).pgoW (by simp) (by simp) ?_
 refine kz ?_
 revert hF;refine aS (fun h2 q3 hF=> ?_) (fun h2 q3 hF=> ?_)
 ·repeat first|refine cg ?_|simp -dsimp[h2]
  have hF:=ob hF;obtain⟨v4,e5,hF⟩:=hF
  refine ECallA.nilArg 0 3 (by simp) ?_
  refine kz ?_
  refine(((CC.f69 B hB1 hB2 w).1 [] t c'.pat v4 e5)).ego (pl [2]) (by simp) (by simp) (Zz _ rfl (by decide)) (by intro i hi hi';simp at hi hi';first|omega|(subst hi';simp[pl])) (by simp_all) (by simp_all) ?_
  refine kz ?_
  have hF:=ob hF;obtain⟨v6,e7,hF⟩:=hF
  refine((C.f81 B hB1 hB2 c'.guard v4 v6 e7)).elend (by simp_all) (by simp -dsimp) ?_
  cases hF
  repeat first|refine cg ?_|simp -dsimp
 ·skip
  cases hF
  repeat first|refine cg ?_|simp -dsimp[q3]
theorem CC.f83 (w:List zP)(t:Ty)(list:List Clause):(∀(i:Nat) (o:Lo Bool Unit),F.f83 w t list i=some o->∀(c:Code),ZP [1,1,0,1,0,0] (ZG Tryz.f46)=some c->∀(Q:Exit->ASt->Prop),o.post (fun r=>∀st,ZAD zQ Tryz.f46 (fun r' _=>r'.le (.lit (.bool r))) .ret st->Q .ret st) (fun s=>Q (.exit 0) ⟨[],[]⟩)->ALoopU zQ B 0 31 (hold c .mk) ⟨[(0,am zR w),(2,am zV list),(4,.ptr 0 0),(7,li (i:Int))],[.cells [li t.data,li t.index]]⟩ (hold Q .mk)):=by
 refine F.f83.partial_correctness w t list
  _
  ?_
 ·intro _f_f83 ih_f83 i o hF
  refine ZI rfl fun Q hq hk hs=> ?_
  have b0:=hk 0
  simp -dsimp at b0
  have b2:=hk 2
  simp -dsimp at b2
  clear hk hs
  refine eN ?_
  refine kz ?_
  revert hF;refine aS ?_ ?_<;>intro h7 q8 hF
  ·have z9:((i:Int)<(list.length:Int)):=auz
   repeat first|refine cg ?_|simp -dsimp[h7,z9]
   refine yM follows ?_
   have hF:=ob hF;obtain⟨x,e10,hF⟩:=hF
   have le10:=ZB e10
   repeat first|refine cg ?_|simp -dsimp[↓e10]
   have hF:=ob hF;obtain⟨v11,e12,hF⟩:=hF
   refine((C.f82 B hB1 hB2 w t x v11 e12)).pgoW (by simp_all) (by simp) ?_
   refine kz ?_
   revert hF;refine aN (fun h13 q14 hF=> ?_) (fun h13 q14 hF=> ?_)
   ·cases hF
    repeat first|refine cg ?_|simp -dsimp[h13,q14]
    refine lG _ (gR _) (hq _ ?_)
    repeat first|refine cg ?_|simp -dsimp
   ·have w15:i64.wrap ((i:Int)+1)=(i:Int)+1:=ZE (by omega) (by omega)
    repeat first|refine cg ?_|simp -dsimp[w15]
    refine zG ((ih_f83 (i+1) o hF) _ rfl _ hq)
  ·have z9:¬((i:Int)<(list.length:Int)):=auz
   cases hF
   repeat first|refine cg ?_|simp -dsimp[h7,q8,z9]
   refine zH hq
theorem C.f84 (w:List zP)(t:Ty)(list:List Clause)(r:Bool)(hF:F.f84 w t list=some r):PureCall zQ B 46 [am zR w,.agg [li t.data,li t.index],am zV list] (.lit (.bool r)):=by
 unfold F.f84 at hF
 refine zI func46 rfl ntmps46 ?_
 refine kz ?_
 have hF:=ob hF;obtain⟨v,e1,hF⟩:=hF
 refine((C.f52 B hB1 hB2 w t v e1)).goI ?_
 refine kz ?_
 revert hF;refine aS (fun h2 q3 hF=> ?_) (fun h2 q3 hF=> ?_)
 ·repeat first|refine cg ?_|simp -dsimp[h2]
  revert hF;refine aS ?_ ?_<;>intro h4 q5 hF
  ·have z6:(8<(list.length:Int)):=auz
   cases hF
   repeat first|refine cg ?_|simp -dsimp[h4,z6]
  ·have z6:¬(8<(list.length:Int)):=auz
   repeat first|refine cg ?_|simp -dsimp[h4,q5,z6]
   have hF:=ob hF;obtain⟨o',ho16,hF⟩:=hF
   refine zK (((CC.f83 B hB1 hB2 w t list) 0 o' ho16) _ rfl _ ?_)
   rcases o' with r0|sx
   ·dsimp only at hF
    cases hF
    intro st h
    simpa using h
   ·dsimp only at hF
    cases hF
    repeat first|refine cg ?_|simp -dsimp
 ·cases hF
  repeat first|refine cg ?_|simp -dsimp[q3]
theorem CC.f85 (lists:List (List Pattern))(out:List (List Pattern))(i:Nat)(k:Nat):(∀(next10:List (List Pattern)) (j:Nat) (o:List (List Pattern)),F.f85 lists out i k next10 j=some o->∀(c:Code),ZP [1,1,0,1,0,0,1,0,0,1,0,1,0,0,1,0,0,1,0,0] (ZG Tryz.f77)=some c->∀(Q:Exit->ASt->Prop),(Q (.exit 4) ⟨[(0,am (cL zT) lists),(3,am (cL zT) out),(4,li (i:Int)),(5,.own 2 (zA (α:=List Pattern) o)),(6,li (k:Int))],[.dead,.dead,.elems 1 (zB (cL zT) o)]⟩)->ALoopU zQ B 0 62 (hold c .mk) ⟨[(0,am (cL zT) lists),(3,am (cL zT) out),(4,li (i:Int)),(5,.own 2 (zA (α:=List Pattern) next10)),(6,li (k:Int)),(7,li (j:Int))],[.dead,.dead,.elems 1 (zB (cL zT) next10)]⟩ (hold Q .mk)):=by
 refine F.f85.partial_correctness lists out i k
  _
  ?_
 ·intro _f_f85 ih_f85 next10 j o hF
  refine ZI rfl fun Q hq hk hs=> ?_
  have b0:=hk 0
  simp -dsimp at b0
  have b3:=hk 3
  simp -dsimp at b3
  have d2:=hs 2 _ rfl
  simp -dsimp[yK]at d2
  clear hk hs
  refine eN ?_
  have hF:=ob hF;obtain⟨x,e11,hF⟩:=hF
  have le11:=ZB e11
  repeat first|refine cg ?_|simp -dsimp[↓e11]
  revert hF;refine aS ?_ ?_<;>intro h12 q13 hF
  ·have z14:((j:Int)<(x.length:Int)):=auz
   repeat first|refine cg ?_|simp -dsimp[↓e11,h12,z14]
   revert hF;refine aS ?_ ?_<;>intro h15 q16 hF
   ·have z17:((next10.length:Int)<=400):=auz
    repeat first|refine cg ?_|simp -dsimp[↓e11,h15,z17]
    refine ADraw.opn ?_
    refine yO [] [(1,14)] [(14,1)] 1 14 rfl rfl (by kernel_rfl) ?_ ?_
    ·refine yO [(1,14)] [(1,14),(6,14)] [(1,14),(14,6)] 6 14 rfl rfl (by kernel_rfl) ?_ ?_
     ·refine yN [(1,14),(6,14)] [0,1,2,3,4,5,6,7,8,9,10,11,12,13,14,15,16,17,18] [] [(0,5),(0,6),(0,1),(0,1),(0,1),(0,1),(0,6),(0,2),(0,2),(0,2),(0,2),(0,2),(0,2),(0,2),(0,6),(0,6),(0,6),(0,6),(6,6)] [1,1,1,1,0,0,1,1,1,0,0,1,0,0,1,1,1,1,1] follows (by kernel_rfl) (by kernel_rfl) (by kernel_rfl) (by kernel_rfl) ?_
      have hF:=ob hF;obtain⟨x18,e19,hF⟩:=hF
      have le19:=ZB e19
      have hF:=oc hF;obtain⟨c20,hF⟩:=hF
      have hF:=ob hF;obtain⟨x21,e22,hF⟩:=hF
      have le22:=ZB e22
      have hF:=oc hF;obtain⟨c23,hF⟩:=hF
      have hF:=oc hF;obtain⟨c24,hF⟩:=hF
      have hF:=oc hF;obtain⟨c25,hF⟩:=hF
      have w26:i64.wrap ((j:Int)+1)=(j:Int)+1:=ZE (by omega) (by omega)
      repeat first|refine cg ?_|simp -dsimp[↓e11,↓e19,↓e22,w26]
      refine zG ((ih_f85 (next10++[x18++[x21]]) (j+1) o hF) _ rfl _ hq)
     ·have hF:=ob hF;obtain⟨x18,e19,hF⟩:=hF
      have hF:=oc hF;obtain⟨c20,hF⟩:=hF
      have hF:=ob hF;obtain⟨x21,e22,hF⟩:=hF
      have hF:=oc hF;obtain⟨c23,hF⟩:=hF
      have hF:=oc hF;obtain⟨c24,hF⟩:=hF
      refine yN [(1,14),(14,6)] [0,1,2,3,4,5,7,8,9,10,11,12,13,14,6,15,16,17,18] [] [(0,5),(0,6),(0,2),(0,2),(0,2),(0,2),(0,1),(0,1),(0,1),(0,1),(0,1),(0,1),(0,1),(0,6),(0,6),(0,6),(0,6),(0,6),(6,6)] [1,1,1,1,0,0,1,1,0,0,1,0,0,1,1,1,1,1,1] follows (by kernel_rfl) (by kernel_rfl) (by kernel_rfl) (by kernel_rfl) ?_
      have le19:=ZB e19
      have le22:=ZB e22
      have hF:=oc hF;obtain⟨c25,hF⟩:=hF
      have w26:i64.wrap ((j:Int)+1)=(j:Int)+1:=ZE (by omega) (by omega)
      repeat first|refine cg ?_|simp -dsimp[↓e11,↓e19,↓e22,w26]
      refine zG ((ih_f85 (next10++[x18++[x21]]) (j+1) o hF) _ rfl _ hq)
    ·have hF:=ob hF;obtain⟨x18,e19,hF⟩:=hF
     have hF:=oc hF;obtain⟨c20,hF⟩:=hF
     have hF:=ob hF;obtain⟨x21,e22,hF⟩:=hF
     have hF:=oc hF;obtain⟨c23,hF⟩:=hF
     have hF:=oc hF;obtain⟨c24,hF⟩:=hF
     refine yN [(14,1)] [0,2,3,4,5,7,8,9,10,11,12,13,14,1,6,15,16,17,18] [] [(0,5),(0,2),(0,2),(0,2),(0,2),(0,0),(0,0),(0,0),(0,0),(0,0),(0,0),(0,0),(0,6),(0,6),(0,6),(0,6),(0,6),(0,6),(6,6)] [1,1,1,0,0,1,1,1,1,1,1,1,1,1,1,1,1,1,1] follows (by kernel_rfl) (by kernel_rfl) (by kernel_rfl) (by kernel_rfl) ?_
     have le19:=ZB e19
     have le22:=ZB e22
     have hF:=oc hF;obtain⟨c25,hF⟩:=hF
     have w26:i64.wrap ((j:Int)+1)=(j:Int)+1:=ZE (by omega) (by omega)
     repeat first|refine cg ?_|simp -dsimp[↓e11,↓e19,↓e22,w26]
     refine zG ((ih_f85 (next10++[x18++[x21]]) (j+1) o hF) _ rfl _ hq)
   ·have z17:¬((next10.length:Int)<=400):=auz
    cases hF
    repeat first|refine cg ?_|simp -dsimp[↓e11,h15,q16,z17]
    refine zH hq
  ·have z14:¬((j:Int)<(x.length:Int)):=auz
   cases hF
   repeat first|refine cg ?_|simp -dsimp[↓e11,h12,q13,z14]
   refine zH hq
theorem CC.f86 (lists:List (List Pattern))(out:List (List Pattern))(i:Nat):(∀(next:List (List Pattern)) (k:Nat) (o:List (List Pattern)),F.f86 lists out i next k=some o->∀(c:Code),ZP [1,1,0,1,0,0,1,0,0,1,0,1,0,0] (ZG Tryz.f77)=some c->∀(Q:Exit->ASt->Prop),(Q (.exit 2) ⟨[(0,am (cL zT) lists),(4,li (i:Int)),(5,.own 2 (zA (α:=List Pattern) o))],[.dead,.dead,.elems 1 (zB (cL zT) o)]⟩)->ALoopU zQ B 0 62 (hold c .mk) ⟨[(0,am (cL zT) lists),(3,am (cL zT) out),(4,li (i:Int)),(5,.own 2 (zA (α:=List Pattern) next)),(6,li (k:Int))],[.dead,.dead,.elems 1 (zB (cL zT) next)]⟩ (hold Q .mk)):=by
 refine F.f86.partial_correctness lists out i
  _
  ?_
 ·intro _f_f86 ih_f86 next k o hF
  refine ZI rfl fun Q hq hk hs=> ?_
  have b0:=hk 0
  simp -dsimp at b0
  have b3:=hk 3
  simp -dsimp at b3
  have d2:=hs 2 _ rfl
  simp -dsimp[yK]at d2
  clear hk hs
  refine eN ?_
  refine kz ?_
  revert hF;refine aS ?_ ?_<;>intro h4 q5 hF
  ·have z6:((k:Int)<(out.length:Int)):=auz
   repeat first|refine cg ?_|simp -dsimp[h4,z6]
   revert hF;refine aS ?_ ?_<;>intro h7 q8 hF
   ·have z9:((next.length:Int)<=400):=auz
    repeat first|refine cg ?_|simp -dsimp[h7,z9]
    have hF:=ob hF;obtain⟨o',ho27,hF⟩:=hF
    refine zK (((CC.f85 B hB1 hB2 lists out i k) next 0 o' ho27) _ rfl _ ?_)
    have hF:=oc hF;obtain⟨c28,hF⟩:=hF
    have w29:i64.wrap ((k:Int)+1)=(k:Int)+1:=ZE (by omega) (by omega)
    repeat first|refine cg ?_|simp -dsimp[w29]
    refine zG ((ih_f86 o' (k+1) o hF) _ rfl _ hq)
   ·have z9:¬((next.length:Int)<=400):=auz
    cases hF
    repeat first|refine cg ?_|simp -dsimp[h7,q8,z9]
    refine zH hq
  ·have z6:¬((k:Int)<(out.length:Int)):=auz
   cases hF
   repeat first|refine cg ?_|simp -dsimp[h4,q5,z6]
   refine zH hq
theorem CC.f87 (lists:List (List Pattern)):(∀(out:List (List Pattern)) (i:Nat) (o:List (List Pattern)),F.f87 lists out i=some o->∀(c:Code),ZP [1,1,0,1,0,0] (ZG Tryz.f77)=some c->∀(Q:Exit->ASt->Prop),(Q (.exit 0) ⟨[(3,am (cL zT) o)],[]⟩)->ALoopU zQ B 0 62 (hold c .mk) ⟨[(0,am (cL zT) lists),(3,am (cL zT) out),(4,li (i:Int))],[.dead,.dead]⟩ (hold Q .mk)):=by
 refine F.f87.partial_correctness lists
  _
  ?_
 ·intro _f_f87 ih_f87 out i o hF
  refine ZI rfl fun Q hq hk hs=> ?_
  have b0:=hk 0
  simp -dsimp at b0
  have b3:=hk 3
  simp -dsimp at b3
  clear hk hs
  refine eN ?_
  refine kz ?_
  revert hF;refine aS ?_ ?_<;>intro h1 q2 hF
  ·have z3:((i:Int)<(lists.length:Int)):=auz
   repeat first|refine cg ?_|simp -dsimp[h1,z3]
   have hF:=ob hF;obtain⟨o'31,ho30,hF⟩:=hF
   refine zK (((CC.f86 B hB1 hB2 lists out i) [] 0 o'31 ho30) _ rfl _ ?_)
   have hF:=oc hF;obtain⟨c32,hF⟩:=hF
   have w33:i64.wrap ((i:Int)+1)=(i:Int)+1:=ZE (by omega) (by omega)
   repeat first|refine cg ?_|simp -dsimp[w33]
   refine aG ⟨[(0,.arr (zB (cL zT) lists)),(3,.arr (zB (cL zT) o'31)),(4,.lit (.int .i64 ((i+1):Int)))],[.dead,.dead]⟩ (by refine yQ (yU 3 (l:=2) (n:=zA (α:=List Pattern) o'31) (sz:=1) (es:=zB (cL zT) o'31) (by simp) (by simp) (by simp) (by simp)) ?_;exact(gT (by simp) (by simp_all))) ?_
   exact(ih_f87 o'31 (i+1) o hF) _ rfl _ hq
  ·have z3:¬((i:Int)<(lists.length:Int)):=auz
   cases hF
   repeat first|refine cg ?_|simp -dsimp[h1,q2,z3]
   refine zH hq
theorem C.f88 (lists:List (List Pattern))(r:List (List Pattern))(hF:F.f88 lists=some r):PureCall zQ B 77 [am (cL zT) lists] (am (cL zT) r):=by
 unfold F.f88 at hF
 refine zI func77 rfl ntmps77 ?_
 repeat first|refine cg ?_|simp -dsimp
 have hF:=ob hF;obtain⟨o'35,ho34,hF⟩:=hF
 refine zL ⟨[(0,.arr (zB (cL zT) lists)),(3,.arr (zB (cL zT) [[]])),(4,.lit (.int .i64 0))],[.dead,.dead]⟩ (by refine yQ (yU 3 (l:=1) (n:=zA (α:=List Pattern) [[]]) (sz:=1) (es:=zB (cL zT) [[]]) (by simp) (by simp) (by simp) (by simp)) ?_;exact(gT (by simp) (by simp -dsimp))) ?_
 refine((CC.f87 B hB1 hB2 lists) [[]] 0 o'35 ho34) _ rfl _ ?_
 cases hF
 repeat first|refine cg ?_|simp -dsimp
theorem CC.spec_l3Split__o0_l2 (p:Pattern)(v24:List (List Pattern)):(∀(out:List Pattern) (i26:Nat) (o:List Pattern),F.f89 p v24 out i26=some o->∀(c:Code),ZP [1,1,1,1,1,1,0,1,0,0] (ZG Tryz.f47)=some c->∀(Q:Exit->ASt->Prop),(Q (.exit 2) ⟨[(7,.own 2 (zA (α:=Pattern) o))],[.dead,.dead,.elems 6 (zB zT o)]⟩)->ALoopU zQ B 0 67 (hold c .mk) ⟨[(1,.ptr 0 0),(6,am (cL zT) v24),(7,.own 2 (zA (α:=Pattern) out)),(8,li (i26:Int))],[.cells [li p.op,li p.ctor,li p.n,li p.m,li p.var,am zT p.kids],.dead,.elems 6 (zB zT out)]⟩ (hold Q .mk)):=by
 refine F.f89.partial_correctness p v24
  _
  ?_
 ·intro _f_spec_l3Split__o0_l2 ih_spec_l3Split__o0_l2 out i26 o hF
  refine ZI rfl fun Q hq hk hs=> ?_
  have b6:=hk 6
  simp -dsimp at b6
  have d0:=hs 0 _ rfl
  simp -dsimp[yK]at d0
  have d2:=hs 2 _ rfl
  simp -dsimp[yK]at d2
  clear hk hs
  refine eN ?_
  refine kz ?_
  revert hF;refine aS ?_ ?_<;>intro h27 q28 hF
  ·have z29:((i26:Int)<(v24.length:Int)):=auz
   have hF:=ob hF;obtain⟨x30,e31,hF⟩:=hF
   have le31:=ZB e31
   have hF:=oc hF;obtain⟨c32,hF⟩:=hF
   have w33:i64.wrap ((i26:Int)+1)=(i26:Int)+1:=ZE (by omega) (by omega)
   repeat first|refine cg ?_|simp -dsimp[h27,z29,↓e31,w33]
   refine zG ((ih_spec_l3Split__o0_l2 (out++[(⟨p.op,p.ctor,p.n,p.m,p.var,x30⟩:Pattern)]) (i26+1) o hF) _ rfl _ hq)
  ·have z29:¬((i26:Int)<(v24.length:Int)):=auz
   cases hF
   repeat first|refine cg ?_|simp -dsimp[h27,q28,z29]
   refine zH hq
theorem CC.spec_l3Split__o0  :(∀(p:Pattern) (r:List Pattern),F.f90 p=some r->BCall zQ B 47 [] [.agg [li p.op,li p.ctor,li p.n,li p.m,li p.var,am zT p.kids]] (.own 0 (zA (α:=Pattern) r)) [.elems 6 (zB zT r)])/\
  (∀(p:Pattern) (lists:List (List Pattern)) (i:Nat) (o:List (List Pattern)),F.f91 p lists i=some o->∀(c:Code),ZP [1,1,1,0,1,0,0] (ZG Tryz.f47)=some c->∀(Q:Exit->ASt->Prop),(Q (.exit 0) ⟨[(1,.ptr 0 0),(4,.own 1 (zA (α:=List Pattern) o))],[.cells [li p.op,li p.ctor,li p.n,li p.m,li p.var,am zT p.kids],.elems 1 (zB (cL zT) o)]⟩)->ALoopU zQ B 0 67 (hold c .mk) ⟨[(1,.ptr 0 0),(4,.own 1 (zA (α:=List Pattern) lists)),(5,li (i:Int))],[.cells [li p.op,li p.ctor,li p.n,li p.m,li p.var,am zT p.kids],.elems 1 (zB (cL zT) lists)]⟩ (hold Q .mk)):=by
 refine F.f90.mutual_partial_correctness 
  _ _
  ?_ ?_
 ·intro _f_spec_l3Split__o0 _f_spec_l3Split__o0_l1 ih_spec_l3Split__o0 ih_spec_l3Split__o0_l1 p r hF
  refine BCall.enterS (τ1:=[]) (ys:=[.own 0 (zA (α:=Pattern) r)]) (news:=[(6,zB zT r)]) func47 (by kernel_rfl) rfl ntmps47 (by simp) rfl rfl (by simp) (by simp) (by simp) (by simp) (by simp) (by simp) (gR _) ?_
  repeat first|refine cg ?_|simp -dsimp
  revert hF;refine aS ?_ ?_<;>intro h1 q2 hF
  ·repeat first|refine cg ?_|simp -dsimp[h1]
   refine yL [47] [(0,0),(0,0),(0,0),(0,0),(0,3),(0,1),(0,1),(0,1),(0,1),(0,3),(0,3),(3,3)] [1,1,1,1,1,0,2,0,0,1,1,1] follows ?_
   have hF:=ob hF;obtain⟨x,e3,hF⟩:=hF
   have le3:=ZB e3
   repeat first|refine cg ?_|simp -dsimp[↓e3]
   have hF:=ob hF;obtain⟨v,e4,hF⟩:=hF
   refine((ih_spec_l3Split__o0 x v e4)).ego (pl [1]) (by simp) (by simp) (by intro i j hi;simp at hi) (by intro i hi hi';simp at hi hi';have hi:i=0:=(by omega);rcases hi with rfl<;>simp[pl]) (by simp_all) (by simp_all) ?_
   have hF:=ob hF;obtain⟨x5,e6,hF⟩:=hF
   have le6:=ZB e6
   repeat first|refine cg ?_|simp -dsimp[↓e6]
   have hF:=ob hF;obtain⟨v7,e8,hF⟩:=hF
   refine((ih_spec_l3Split__o0 x5 v7 e8)).ego (pl [2]) (by simp) (by simp) (by intro i j hi;simp at hi) (by intro i hi hi';simp at hi hi';have hi:i=0:=(by omega);rcases hi with rfl<;>simp[pl]) (by simp_all) (by simp_all) ?_
   have hF:=oc hF;obtain⟨c9,hF⟩:=hF
   repeat first|refine cg ?_|simp -dsimp
   revert hF;refine aS ?_ ?_<;>intro h10 q11 hF
   ·have z12:(401<(((v++v7).length:Nat):Int)):=auz
    have hF:=oc hF;obtain⟨c13,hF⟩:=hF
    cases hF
    repeat first|refine cg ?_|simp -dsimp[h10,z12]
    all_goals(try first|omega|rfl|(simp;done)|(simp only[zD,zE]at*;omega)|simp)
   ·have z12:¬(401<(((v++v7).length:Nat):Int)):=auz
    cases hF
    repeat first|refine cg ?_|simp -dsimp[h10,q11,z12]
    all_goals(try first|omega|rfl|(simp;done)|(simp only[zD,zE]at*;omega)|simp)
  ·repeat first|refine cg ?_|simp -dsimp[q2]
   have hF:=ob hF;obtain⟨o',ho23,hF⟩:=hF
   refine zK ((ih_spec_l3Split__o0_l1 p [] 0 o' ho23) _ rfl _ ?_)
   repeat first|refine cg ?_|simp -dsimp
   have hF:=ob hF;obtain⟨v24,e25,hF⟩:=hF
   refine ACall.frz ?_ ((C.f88 B hB1 hB2 o' v24 e25)).ent
   repeat first|refine cg ?_|simp -dsimp
   refine((C.f88 B hB1 hB2 o' v24 e25)).goI ?_
   repeat first|refine cg ?_|simp -dsimp
   have hF:=ob hF;obtain⟨o'35,ho34,hF⟩:=hF
   refine zK (((CC.spec_l3Split__o0_l2 B hB1 hB2 p v24) [] 0 o'35 ho34) _ rfl _ ?_)
   cases hF
   repeat first|refine cg ?_|simp -dsimp
   all_goals(try first|omega|rfl|(simp;done)|(simp only[zD,zE]at*;omega)|simp)
 ·intro _f_spec_l3Split__o0 _f_spec_l3Split__o0_l1 ih_spec_l3Split__o0 ih_spec_l3Split__o0_l1 p lists i o hF
  refine ZI rfl fun Q hq hk hs=> ?_
  have d0:=hs 0 _ rfl
  simp -dsimp[yK]at d0
  have d1:=hs 1 _ rfl
  simp -dsimp[yK]at d1
  clear hk hs
  refine eN ?_
  repeat first|refine cg ?_|simp -dsimp
  revert hF;refine aS ?_ ?_<;>intro h14 q15 hF
  ·have z16:((i:Int)<(p.kids.length:Int)):=auz
   have hF:=ob hF;obtain⟨x17,e18,hF⟩:=hF
   have le18:=ZB e18
   repeat first|refine cg ?_|simp -dsimp[h14,z16,↓e18]
   have hF:=ob hF;obtain⟨v19,e20,hF⟩:=hF
   refine((ih_spec_l3Split__o0 x17 v19 e20)).go (pl [2]) (by simp) (by simp) (by intro i j hi;simp at hi) (by intro i hi hi';simp at hi hi';have hi:i=0:=(by omega);rcases hi with rfl<;>simp[pl]) (by simp_all) (by simp_all) ?_
   have hF:=oc hF;obtain⟨c21,hF⟩:=hF
   have w22:i64.wrap ((i:Int)+1)=(i:Int)+1:=ZE (by omega) (by omega)
   repeat first|refine cg ?_|simp -dsimp[w22]
   refine zG ((ih_spec_l3Split__o0_l1 p (lists++[v19]) (i+1) o hF) _ rfl _ hq)
  ·have z16:¬((i:Int)<(p.kids.length:Int)):=auz
   cases hF
   repeat first|refine cg ?_|simp -dsimp[h14,q15,z16]
   refine zH hq
theorem C.f92 (path:List Int)(i:Int)(r:List Int)(hF:F.f92 path i=some r):PureCall zQ B 112 [am cI path,li i] (am cI r):=by
 unfold F.f92 at hF
 refine zI func112 rfl ntmps112 ?_
 have hF:=oc hF;obtain⟨c1,hF⟩:=hF
 have hF:=oc hF;obtain⟨c2,hF⟩:=hF
 cases hF
 repeat first|refine cg ?_|simp -dsimp
theorem CC.f93  :(∀(out:List Step) (p:Pattern) (path:List Int) (r:List Step),F.f93 out p path=some r->BCall zQ B 78 [.elems 8 (zB yV out)] [.own 0 (zA (α:=Step) out),.agg [li p.op,li p.ctor,li p.n,li p.m,li p.var,am zT p.kids],am cI path] (.own 0 (zA (α:=Step) r)) [.elems 8 (zB yV r)])/\
  (∀(p:Pattern) (path:List Int) (out13:List Step) (i:Nat) (o:List Step),F.f94 p path out13 i=some o->∀(c:Code),ZP [1,0,1,0,1,1,1,1,1,0,1,1,0,0] (ZG Tryz.f78)=some c->∀(Q:Exit->ASt->Prop),(Q (.exit 1) ⟨[(0,.own 0 (zA (α:=Step) o))],[.elems 8 (zB yV o)]⟩)->ALoopU zQ B 1 61 (hold c .mk) ⟨[(0,.own 0 (zA (α:=Step) out13)),(2,am cI path),(4,.ptr 1 0),(7,li (i:Int))],[.elems 8 (zB yV out13),.cells [li p.op,li p.ctor,li p.n,li p.m,li p.var,am zT p.kids]]⟩ (hold Q .mk)):=by
 refine F.f93.mutual_partial_correctness 
  _ _
  ?_ ?_
 ·intro _f_f93 _f_f94 ih_f93 ih_f94 out p path r hF
  refine BCall.enter func78 (by kernel_rfl) rfl ntmps78 (by simp) rfl (by simp) (by simp) (by simp) (by simp) (by simp) (gR _) ?_
  repeat first|refine cg ?_|simp -dsimp
  revert hF;refine aS ?_ ?_<;>intro h1 q2 hF
  ·have hF:=ob hF;obtain⟨x,e3,hF⟩:=hF
   have le3:=ZB e3
   repeat first|refine cg ?_|simp -dsimp[h1,↓e3]
   have hF:=ob hF;obtain⟨v,e4,hF⟩:=hF
   refine((ih_f93 out x path v e4)).go (pl [0]) (by simp) (by simp) (Zz _ rfl (by decide)) (by intro i hi hi';simp at hi hi';first|omega|(subst hi';simp[pl])) (by simp_all) (by simp_all) ?_
   cases hF
   repeat first|refine cg ?_|simp -dsimp
  ·repeat first|refine cg ?_|simp -dsimp[h1,q2]
   revert hF;refine aS ?_ ?_<;>intro h5 q6 hF
   ·repeat first|refine cg ?_|simp -dsimp[h5]
    refine yL [1000090] [(0,4),(0,5),(0,1),(0,5),(0,2),(0,2),(0,2),(0,2),(0,5),(0,5),(0,5),(5,5)] [1,1,1,1,0,2,0,2,1,1,1,1] follows ?_
    have hF:=oc hF;obtain⟨c7,hF⟩:=hF
    have hF:=oc hF;obtain⟨c8,hF⟩:=hF
    cases hF
    repeat first|refine cg ?_|simp -dsimp
   ·repeat first|refine cg ?_|simp -dsimp[q6]
    revert hF;refine aS ?_ ?_<;>intro h9 q10 hF
    ·repeat first|refine cg ?_|simp -dsimp[h9]
     refine yL [1000090] [(0,4),(0,5),(0,1),(0,5),(0,2),(0,2),(0,5),(0,5),(0,5),(5,5)] [1,1,1,1,0,2,1,1,1,1] follows ?_
     have hF:=oc hF;obtain⟨c11,hF⟩:=hF
     have hF:=oc hF;obtain⟨c12,hF⟩:=hF
     repeat first|refine cg ?_|simp -dsimp
     have hF:=ob hF;obtain⟨o',ho24,hF⟩:=hF
     refine zK ((ih_f94 p path (out++[(⟨1,path,p.ctor,0,0,0,[],0⟩:Step)]) 0 o' ho24) _ rfl _ ?_)
     cases hF
     repeat first|refine cg ?_|simp -dsimp
    ·cases hF
     repeat first|refine cg ?_|simp -dsimp[q10]
 ·intro _f_f93 _f_f94 ih_f93 ih_f94 p path out13 i o hF
  refine ZI rfl fun Q hq hk hs=> ?_
  have b2:=hk 2
  simp -dsimp at b2
  have d0:=hs 0 _ rfl
  simp -dsimp[yK]at d0
  have d1:=hs 1 _ rfl
  simp -dsimp[yK]at d1
  clear hk hs
  refine eN ?_
  repeat first|refine cg ?_|simp -dsimp
  revert hF;refine aS ?_ ?_<;>intro h14 q15 hF
  ·have z16:((i:Int)<(p.kids.length:Int)):=auz
   repeat first|refine cg ?_|simp -dsimp[h14,z16]
   refine yL [78] [(0,0),(0,0),(0,0),(0,0),(0,0),(0,0),(0,0),(0,0),(0,1),(0,1),(1,1)] [1,1,1,1,1,1,1,1,1,1,1] follows ?_
   have hF:=ob hF;obtain⟨x17,e18,hF⟩:=hF
   have le18:=ZB e18
   repeat first|refine cg ?_|simp -dsimp[↓e18]
   have hF:=ob hF;obtain⟨v19,e20,hF⟩:=hF
   refine((C.f92 B hB1 hB2 path (i:Int) v19 e20)).pgoW (by simp_all) (by simp) ?_
   repeat first|refine cg ?_|simp -dsimp
   have hF:=ob hF;obtain⟨v21,e22,hF⟩:=hF
   refine((ih_f93 out13 x17 v19 v21 e22)).ego (pl [0]) (by simp) (by simp) (Zz _ rfl (by decide)) (by intro i hi hi';simp at hi hi';first|omega|(subst hi';simp[pl])) (by simp_all) (by simp_all) ?_
   have w23:i64.wrap ((i:Int)+1)=(i:Int)+1:=ZE (by omega) (by omega)
   repeat first|refine cg ?_|simp -dsimp[w23]
   refine zG ((ih_f94 p path v21 (i+1) o hF) _ rfl _ hq)
  ·have z16:¬((i:Int)<(p.kids.length:Int)):=auz
   cases hF
   repeat first|refine cg ?_|simp -dsimp[h14,q15,z16]
   refine zH hq
theorem CC.f95  :(∀(out:List PathBind) (p:Pattern) (path:List Int) (r:List PathBind),F.f95 out p path=some r->BCall zQ B 80 [.elems 2 (zB yW out)] [.own 0 (zA (α:=PathBind) out),.agg [li p.op,li p.ctor,li p.n,li p.m,li p.var,am zT p.kids],am cI path] (.own 0 (zA (α:=PathBind) r)) [.elems 2 (zB yW r)])/\
  (∀(p:Pattern) (path:List Int) (out24:List PathBind) (i25:Nat) (o:List PathBind),F.f97 p path out24 i25=some o->∀(c:Code),ZP [1,1,0,1,0,0] (ZG Tryz.f80)=some c->∀(Q:Exit->ASt->Prop),(Q (.exit 0) ⟨[(0,.own 0 (zA (α:=PathBind) o))],[.elems 2 (zB yW o)]⟩)->ALoopU zQ B 1 49 (hold c .mk) ⟨[(0,.own 0 (zA (α:=PathBind) out24)),(2,am cI path),(4,.ptr 1 0),(7,li (i25:Int))],[.elems 2 (zB yW out24),.cells [li p.op,li p.ctor,li p.n,li p.m,li p.var,am zT p.kids]]⟩ (hold Q .mk))/\
  (∀(p:Pattern) (path:List Int) (out7:List PathBind) (i:Nat) (o:List PathBind),F.f96 p path out7 i=some o->∀(c:Code),ZP [1,1,0,1,0,0] (ZG Tryz.f80)=some c->∀(Q:Exit->ASt->Prop),(Q (.exit 0) ⟨[(0,.own 0 (zA (α:=PathBind) o))],[.elems 2 (zB yW o)]⟩)->ALoopU zQ B 1 49 (hold c .mk) ⟨[(0,.own 0 (zA (α:=PathBind) out7)),(2,am cI path),(4,.ptr 1 0),(7,li (i:Int))],[.elems 2 (zB yW out7),.cells [li p.op,li p.ctor,li p.n,li p.m,li p.var,am zT p.kids]]⟩ (hold Q .mk))/\
  (∀(p:Pattern) (path:List Int) (out47:List PathBind) (i48:Nat) (o:List PathBind),F.f98 p path out47 i48=some o->∀(c:Code),ZP [1,1,0,1,0,0] (ZG Tryz.f80)=some c->∀(Q:Exit->ASt->Prop),(Q (.exit 0) ⟨[(0,.own 0 (zA (α:=PathBind) o))],[.elems 2 (zB yW o)]⟩)->ALoopU zQ B 1 49 (hold c .mk) ⟨[(0,.own 0 (zA (α:=PathBind) out47)),(2,am cI path),(4,.ptr 1 0),(7,li (i48:Int))],[.elems 2 (zB yW out47),.cells [li p.op,li p.ctor,li p.n,li p.m,li p.var,am zT p.kids]]⟩ (hold Q .mk)):=by
 refine F.f95.mutual_partial_correctness 
  _ _ _ _
  ?_ ?_ ?_ ?_
 ·intro _f_f97 _f_f96 _f_f98 ih_f97 ih_f96 ih_f98 out p path r hF
  refine BCall.enter func80 (by kernel_rfl) rfl ntmps80 (by simp) rfl (by simp) (by simp) (by simp) (by simp) (by simp) (gR _) ?_
  repeat first|refine cg ?_|simp -dsimp
  revert hF;refine aN ?_ ?_<;>intro h1 q2 hF
  ·repeat first|refine cg ?_|simp -dsimp[h1,q2]
   revert hF;refine aS ?_ ?_<;>intro h3 q4 hF
   ·repeat first|refine cg ?_|simp -dsimp[h3]
    refine yL [1000123] [(0,4),(0,2),(0,2),(0,5),(0,1),(0,5),(0,5),(0,5),(0,5),(5,5)] [1,0,2,1,1,1,1,1,1,1] follows ?_
    have hF:=oc hF;obtain⟨c5,hF⟩:=hF
    have hF:=oc hF;obtain⟨c6,hF⟩:=hF
    repeat first|refine cg ?_|simp -dsimp
    have hF:=ob hF;obtain⟨o',ho23,hF⟩:=hF
    refine zK ((ih_f96 p path (out++[(⟨p.var,path⟩:PathBind)]) 0 o' ho23) _ rfl _ ?_)
    cases hF
    repeat first|refine cg ?_|simp -dsimp
   ·repeat first|refine cg ?_|simp -dsimp[q4]
    have hF:=ob hF;obtain⟨o'44,ho43,hF⟩:=hF
    refine zK ((ih_f97 p path out 0 o'44 ho43) _ rfl _ ?_)
    cases hF
    repeat first|refine cg ?_|simp -dsimp
  ·repeat first|refine cg ?_|simp -dsimp[h1,q2]
   refine yL [1000123] [(0,4),(0,2),(0,2),(0,5),(0,1),(0,5),(0,5),(0,5),(0,5),(5,5)] [1,0,2,1,1,1,1,1,1,1] follows ?_
   have hF:=oc hF;obtain⟨c45,hF⟩:=hF
   have hF:=oc hF;obtain⟨c46,hF⟩:=hF
   repeat first|refine cg ?_|simp -dsimp
   have hF:=ob hF;obtain⟨o'67,ho66,hF⟩:=hF
   refine zK ((ih_f98 p path (out++[(⟨p.var,path⟩:PathBind)]) 0 o'67 ho66) _ rfl _ ?_)
   cases hF
   repeat first|refine cg ?_|simp -dsimp
 ·intro _f_f95 _f_f97 ih_f95 ih_f97 p path out24 i25 o hF
  refine ZI rfl fun Q hq hk hs=> ?_
  have b2:=hk 2
  simp -dsimp at b2
  have d0:=hs 0 _ rfl
  simp -dsimp[yK]at d0
  have d1:=hs 1 _ rfl
  simp -dsimp[yK]at d1
  clear hk hs
  refine eN ?_
  repeat first|refine cg ?_|simp -dsimp
  revert hF;refine aS ?_ ?_<;>intro h26 q27 hF
  ·have z28:((i25:Int)<(p.kids.length:Int)):=auz
   repeat first|refine cg ?_|simp -dsimp[h26,z28]
   revert hF;refine aS ?_ ?_<;>intro h29 q30 hF
   ·repeat first|refine cg ?_|simp -dsimp[h29]
    have hF:=ob hF;obtain⟨v31,e32,hF⟩:=hF
    refine((C.f92 B hB1 hB2 path (i25:Int) v31 e32)).goI ?_
    have hF:=ob hF;obtain⟨x33,e34,hF⟩:=hF
    have le34:=ZB e34
    repeat first|refine cg ?_|simp -dsimp[↓e34]
    have hF:=ob hF;obtain⟨v35,e36,hF⟩:=hF
    refine((ih_f95 out24 x33 v31 v35 e36)).go (pl [0]) (by simp) (by simp) (Zz _ rfl (by decide)) (by intro i hi hi';simp at hi hi';first|omega|(subst hi';simp[pl])) (by simp[h26,z28,h29,↓e34]) (by simp[h26,z28,h29,↓e34]) ?_
    have w37:i64.wrap ((i25:Int)+1)=(i25:Int)+1:=ZE (by omega) (by omega)
    repeat first|refine cg ?_|simp -dsimp[w37]
    refine zG ((ih_f97 p path v35 (i25+1) o hF) _ rfl _ hq)
   ·have hF:=ob hF;obtain⟨x38,e39,hF⟩:=hF
    have le39:=ZB e39
    repeat first|refine cg ?_|simp -dsimp[q30,↓e39]
    have hF:=ob hF;obtain⟨v40,e41,hF⟩:=hF
    refine((ih_f95 out24 x38 path v40 e41)).go (pl [0]) (by simp) (by simp) (Zz _ rfl (by decide)) (by intro i hi hi';simp at hi hi';first|omega|(subst hi';simp[pl])) (by simp[h26,z28,h29,q30,↓e39]) (by simp[h26,z28,h29,q30,↓e39]) ?_
    have w42:i64.wrap ((i25:Int)+1)=(i25:Int)+1:=ZE (by omega) (by omega)
    repeat first|refine cg ?_|simp -dsimp[w42]
    refine zG ((ih_f97 p path v40 (i25+1) o hF) _ rfl _ hq)
  ·have z28:¬((i25:Int)<(p.kids.length:Int)):=auz
   cases hF
   repeat first|refine cg ?_|simp -dsimp[h26,q27,z28]
   refine zH hq
 ·intro _f_f95 _f_f96 ih_f95 ih_f96 p path out7 i o hF
  refine ZI rfl fun Q hq hk hs=> ?_
  have b2:=hk 2
  simp -dsimp at b2
  have d0:=hs 0 _ rfl
  simp -dsimp[yK]at d0
  have d1:=hs 1 _ rfl
  simp -dsimp[yK]at d1
  clear hk hs
  refine eN ?_
  repeat first|refine cg ?_|simp -dsimp
  revert hF;refine aS ?_ ?_<;>intro h8 q9 hF
  ·have z10:((i:Int)<(p.kids.length:Int)):=auz
   repeat first|refine cg ?_|simp -dsimp[h8,z10]
   revert hF;refine aS ?_ ?_<;>intro h11 q12 hF
   ·repeat first|refine cg ?_|simp -dsimp[h11]
    have hF:=ob hF;obtain⟨v,e13,hF⟩:=hF
    refine((C.f92 B hB1 hB2 path (i:Int) v e13)).goI ?_
    have hF:=ob hF;obtain⟨x,e14,hF⟩:=hF
    have le14:=ZB e14
    repeat first|refine cg ?_|simp -dsimp[↓e14]
    have hF:=ob hF;obtain⟨v15,e16,hF⟩:=hF
    refine((ih_f95 out7 x v v15 e16)).go (pl [0]) (by simp) (by simp) (Zz _ rfl (by decide)) (by intro i hi hi';simp at hi hi';first|omega|(subst hi';simp[pl])) (by simp[h8,z10,h11,↓e14]) (by simp[h8,z10,h11,↓e14]) ?_
    have w17:i64.wrap ((i:Int)+1)=(i:Int)+1:=ZE (by omega) (by omega)
    repeat first|refine cg ?_|simp -dsimp[w17]
    refine zG ((ih_f96 p path v15 (i+1) o hF) _ rfl _ hq)
   ·have hF:=ob hF;obtain⟨x18,e19,hF⟩:=hF
    have le19:=ZB e19
    repeat first|refine cg ?_|simp -dsimp[q12,↓e19]
    have hF:=ob hF;obtain⟨v20,e21,hF⟩:=hF
    refine((ih_f95 out7 x18 path v20 e21)).go (pl [0]) (by simp) (by simp) (Zz _ rfl (by decide)) (by intro i hi hi';simp at hi hi';first|omega|(subst hi';simp[pl])) (by simp[h8,z10,h11,q12,↓e19]) (by simp[h8,z10,h11,q12,↓e19]) ?_
    have w22:i64.wrap ((i:Int)+1)=(i:Int)+1:=ZE (by omega) (by omega)
    repeat first|refine cg ?_|simp -dsimp[w22]
    refine zG ((ih_f96 p path v20 (i+1) o hF) _ rfl _ hq)
  ·have z10:¬((i:Int)<(p.kids.length:Int)):=auz
   cases hF
   repeat first|refine cg ?_|simp -dsimp[h8,q9,z10]
   refine zH hq
 ·intro _f_f95 _f_f98 ih_f95 ih_f98 p path out47 i48 o hF
  refine ZI rfl fun Q hq hk hs=> ?_
  have b2:=hk 2
  simp -dsimp at b2
  have d0:=hs 0 _ rfl
  simp -dsimp[yK]at d0
  have d1:=hs 1 _ rfl
  simp -dsimp[yK]at d1
  clear hk hs
  refine eN ?_
  repeat first|refine cg ?_|simp -dsimp
  revert hF;refine aS ?_ ?_<;>intro h49 q50 hF
  ·have z51:((i48:Int)<(p.kids.length:Int)):=auz
   repeat first|refine cg ?_|simp -dsimp[h49,z51]
   revert hF;refine aS ?_ ?_<;>intro h52 q53 hF
   ·repeat first|refine cg ?_|simp -dsimp[h52]
    have hF:=ob hF;obtain⟨v54,e55,hF⟩:=hF
    refine((C.f92 B hB1 hB2 path (i48:Int) v54 e55)).goI ?_
    have hF:=ob hF;obtain⟨x56,e57,hF⟩:=hF
    have le57:=ZB e57
    repeat first|refine cg ?_|simp -dsimp[↓e57]
    have hF:=ob hF;obtain⟨v58,e59,hF⟩:=hF
    refine((ih_f95 out47 x56 v54 v58 e59)).go (pl [0]) (by simp) (by simp) (Zz _ rfl (by decide)) (by intro i hi hi';simp at hi hi';first|omega|(subst hi';simp[pl])) (by simp[h49,z51,h52,↓e57]) (by simp[h49,z51,h52,↓e57]) ?_
    have w60:i64.wrap ((i48:Int)+1)=(i48:Int)+1:=ZE (by omega) (by omega)
    repeat first|refine cg ?_|simp -dsimp[w60]
    refine zG ((ih_f98 p path v58 (i48+1) o hF) _ rfl _ hq)
   ·have hF:=ob hF;obtain⟨x61,e62,hF⟩:=hF
    have le62:=ZB e62
    repeat first|refine cg ?_|simp -dsimp[q53,↓e62]
    have hF:=ob hF;obtain⟨v63,e64,hF⟩:=hF
    refine((ih_f95 out47 x61 path v63 e64)).go (pl [0]) (by simp) (by simp) (Zz _ rfl (by decide)) (by intro i hi hi';simp at hi hi';first|omega|(subst hi';simp[pl])) (by simp[h49,z51,h52,q53,↓e62]) (by simp[h49,z51,h52,q53,↓e62]) ?_
    have w65:i64.wrap ((i48:Int)+1)=(i48:Int)+1:=ZE (by omega) (by omega)
    repeat first|refine cg ?_|simp -dsimp[w65]
    refine zG ((ih_f98 p path v63 (i48+1) o hF) _ rfl _ hq)
  ·have z51:¬((i48:Int)<(p.kids.length:Int)):=auz
   cases hF
   repeat first|refine cg ?_|simp -dsimp[h49,q50,z51]
   refine zH hq
theorem CC.f99 (list:List PathBind)(n:Nat):(∀(out4:List PathBind) (i:Nat) (o:List PathBind),F.f99 list n out4 i=some o->∀(c:Code),ZP [1,1,0,1,0,0,1,0,0,1,0,0] (ZG Tryz.f79)=some c->∀(Q:Exit->ASt->Prop),(Q (.exit 2) ⟨[(0,am yW list),(3,.own 0 (zA (α:=PathBind) o)),(4,li (n:Int))],[.elems 2 (zB yW o)]⟩)->ALoopU zQ B 0 37 (hold c .mk) ⟨[(0,am yW list),(3,.own 0 (zA (α:=PathBind) out4)),(4,li (n:Int)),(5,li (i:Int))],[.elems 2 (zB yW out4)]⟩ (hold Q .mk)):=by
 refine F.f99.partial_correctness list n
  _
  ?_
 ·intro _f_f99 ih_f99 out4 i o hF
  refine ZI rfl fun Q hq hk hs=> ?_
  have b0:=hk 0
  simp -dsimp at b0
  have d0:=hs 0 _ rfl
  simp -dsimp[yK]at d0
  clear hk hs
  refine eN ?_
  refine kz ?_
  revert hF;refine aS ?_ ?_<;>intro h5 q6 hF
  ·have z7:((i:Int)<(list.length:Int)):=auz
   have hF:=ob hF;obtain⟨x,e8,hF⟩:=hF
   have le8:=ZB e8
   repeat first|refine cg ?_|simp -dsimp[h5,z7,↓e8]
   revert hF;refine aS ?_ ?_<;>intro h9 q10 hF
   ·have hF:=oc hF;obtain⟨c11,hF⟩:=hF
    have hF:=oc hF;obtain⟨c12,hF⟩:=hF
    have w13:i64.wrap ((i:Int)+1)=(i:Int)+1:=ZE (by omega) (by omega)
    repeat first|refine cg ?_|simp -dsimp[↓e8,h9,w13]
    refine zG ((ih_f99 (out4++[(⟨(n:Int),x.path⟩:PathBind)]) (i+1) o hF) _ rfl _ hq)
   ·have w14:i64.wrap ((i:Int)+1)=(i:Int)+1:=ZE (by omega) (by omega)
    repeat first|refine cg ?_|simp -dsimp[↓e8,h9,q10,w14]
    refine zG ((ih_f99 out4 (i+1) o hF) _ rfl _ hq)
  ·have z7:¬((i:Int)<(list.length:Int)):=auz
   cases hF
   repeat first|refine cg ?_|simp -dsimp[h5,q6,z7]
   refine zH hq
theorem CC.f100 (list:List PathBind):(∀(out:List PathBind) (n:Nat) (o:List PathBind),F.f100 list out n=some o->∀(c:Code),ZP [1,1,0,1,0,0] (ZG Tryz.f79)=some c->∀(Q:Exit->ASt->Prop),(Q (.exit 0) ⟨[(3,.own 0 (zA (α:=PathBind) o))],[.elems 2 (zB yW o)]⟩)->ALoopU zQ B 0 37 (hold c .mk) ⟨[(0,am yW list),(3,.own 0 (zA (α:=PathBind) out)),(4,li (n:Int))],[.elems 2 (zB yW out)]⟩ (hold Q .mk)):=by
 refine F.f100.partial_correctness list
  _
  ?_
 ·intro _f_f100 ih_f100 out n o hF
  refine ZI rfl fun Q hq hk hs=> ?_
  have b0:=hk 0
  simp -dsimp at b0
  have d0:=hs 0 _ rfl
  simp -dsimp[yK]at d0
  clear hk hs
  refine eN ?_
  refine kz ?_
  revert hF;refine aS ?_ ?_<;>intro h1 q2 hF
  ·have z3:((n:Int)<=5):=auz
   repeat first|refine cg ?_|simp -dsimp[h1,z3]
   have hF:=ob hF;obtain⟨o',ho15,hF⟩:=hF
   refine zK (((CC.f99 B hB1 hB2 list n) out 0 o' ho15) _ rfl _ ?_)
   have hF:=oc hF;obtain⟨c16,hF⟩:=hF
   have w17:i64.wrap ((n:Int)+1)=(n:Int)+1:=ZE (by omega) (by omega)
   repeat first|refine cg ?_|simp -dsimp[w17]
   refine zG ((ih_f100 o' (n+1) o hF) _ rfl _ hq)
  ·have z3:¬((n:Int)<=5):=auz
   cases hF
   repeat first|refine cg ?_|simp -dsimp[h1,q2,z3]
   refine zH hq
theorem C.f101 (list:List PathBind)(r:List PathBind)(hF:F.f101 list=some r):PureCall zQ B 79 [am yW list] (am yW r):=by
 unfold F.f101 at hF
 refine zI func79 rfl ntmps79 ?_
 refine kz ?_
 have hF:=ob hF;obtain⟨o'19,ho18,hF⟩:=hF
 refine zK (((CC.f100 B hB1 hB2 list) [] 0 o'19 ho18) _ rfl _ ?_)
 cases hF
 repeat first|refine cg ?_|simp -dsimp
theorem CC.f102 (list:List Clause)(out:List Step)(i:Nat)(v:List Pattern)(k:Nat):(∀(out19:List Step) (n:Nat) (o:List Step),F.f102 list out i v k out19 n=some o->∀(c:Code),ZP [1,1,0,1,0,0,1,0,0,1,1,0,1,0,0,1,0,0,1,1,1,1,0,0] (ZG Tryz.f48)=some c->∀(Q:Exit->ASt->Prop),(Q (.exit 4) ⟨[(0,am zV list),(3,.own 0 (zA (α:=Step) o)),(4,li (i:Int)),(5,.own 1 (zA (α:=Pattern) v)),(6,li (out.length:Int)),(7,li (k:Int))],[.elems 8 (zB yV o),.elems 6 (zB zT v)]⟩)->ALoopU zQ B 0 87 (hold c .mk) ⟨[(0,am zV list),(3,.own 0 (zA (α:=Step) out19)),(4,li (i:Int)),(5,.own 1 (zA (α:=Pattern) v)),(6,li (out.length:Int)),(7,li (k:Int)),(9,li (n:Int))],[.elems 8 (zB yV out19),.elems 6 (zB zT v)]⟩ (hold Q .mk)):=by
 refine F.f102.partial_correctness list out i v k
  _
  ?_
 ·intro _f_f102 ih_f102 out19 n o hF
  refine ZI rfl fun Q hq hk hs=> ?_
  have b0:=hk 0
  simp -dsimp at b0
  have d0:=hs 0 _ rfl
  simp -dsimp[yK]at d0
  have d1:=hs 1 _ rfl
  simp -dsimp[yK]at d1
  clear hk hs
  refine eN ?_
  refine kz ?_
  revert hF;refine aS ?_ ?_<;>intro h20 q21 hF
  ·have z22:((n:Int)<(out19.length:Int)):=auz
   have hF:=ob hF;obtain⟨x23,e24,hF⟩:=hF
   have le24:=ZB e24
   have w25:i64.wrap ((n:Int)+1)=(n:Int)+1:=ZE (by omega) (by omega)
   repeat first|refine cg ?_|simp -dsimp[h20,z22,↓e24,w25]
   refine zG ((ih_f102 (out19.set n (⟨x23.op,x23.path,x23.ctor,x23.n,x23.m,x23.clause,x23.binds,(out19.length:Int)⟩:Step)) (n+1) o hF) _ rfl _ hq)
  ·have z22:¬((n:Int)<(out19.length:Int)):=auz
   cases hF
   repeat first|refine cg ?_|simp -dsimp[h20,q21,z22]
   refine zH hq
theorem CC.f103 (list:List Clause)(out:List Step)(i:Nat)(v:List Pattern):(∀(out6:List Step) (k:Nat) (o:List Step),F.f103 list out i v out6 k=some o->∀(c:Code),ZP [1,1,0,1,0,0,1,0,0,1,1,0,1,0,0] (ZG Tryz.f48)=some c->∀(Q:Exit->ASt->Prop),(Q (.exit 2) ⟨[(0,am zV list),(3,.own 0 (zA (α:=Step) o)),(4,li (i:Int)),(6,li (out.length:Int))],[.elems 8 (zB yV o)]⟩)->ALoopU zQ B 0 87 (hold c .mk) ⟨[(0,am zV list),(3,.own 0 (zA (α:=Step) out6)),(4,li (i:Int)),(5,.own 1 (zA (α:=Pattern) v)),(6,li (out.length:Int)),(7,li (k:Int))],[.elems 8 (zB yV out6),.elems 6 (zB zT v)]⟩ (hold Q .mk)):=by
 refine F.f103.partial_correctness list out i v
  _
  ?_
 ·intro _f_f103 ih_f103 out6 k o hF
  refine ZI rfl fun Q hq hk hs=> ?_
  have b0:=hk 0
  simp -dsimp at b0
  have d0:=hs 0 _ rfl
  simp -dsimp[yK]at d0
  have d1:=hs 1 _ rfl
  simp -dsimp[yK]at d1
  clear hk hs
  refine eN ?_
  refine kz ?_
  revert hF;refine aS ?_ ?_<;>intro h7 q8 hF
  ·have z9:((k:Int)<(v.length:Int)):=auz
   have hF:=ob hF;obtain⟨x10,e11,hF⟩:=hF
   have le11:=ZB e11
   repeat first|refine cg ?_|simp -dsimp[h7,z9,↓e11]
   have hF:=ob hF;obtain⟨v12,e13,hF⟩:=hF
   refine(((CC.f93 B hB1 hB2).1 out6 x10 [] v12 e13)).go (pl [0]) (by simp) (by simp) (Zz _ rfl (by decide)) (by intro i hi hi';simp at hi hi';first|omega|(subst hi';simp[pl])) (by simp_all) (by simp_all) ?_
   repeat first|refine cg ?_|simp -dsimp[↓e11]
   have hF:=ob hF;obtain⟨v14,e15,hF⟩:=hF
   refine ACall.nilArg 0 2 (by simp) ?_
   repeat first|refine cg ?_|simp -dsimp[↓e11]
   refine(((CC.f95 B hB1 hB2).1 [] x10 [] v14 e15)).go (pl [2]) (by simp) (by simp) (Zz _ rfl (by decide)) (by intro i hi hi';simp at hi hi';first|omega|(subst hi';simp[pl])) (by simp_all) (by simp_all) ?_
   repeat first|refine cg ?_|simp -dsimp[↓e11]
   have hF:=ob hF;obtain⟨v16,e17,hF⟩:=hF
   refine ACall.frz ?_ ((C.f101 B hB1 hB2 v14 v16 e17)).ent
   repeat first|refine cg ?_|simp -dsimp[↓e11]
   refine((C.f101 B hB1 hB2 v14 v16 e17)).goI ?_
   have hF:=oc hF;obtain⟨c18,hF⟩:=hF
   repeat first|refine cg ?_|simp -dsimp[↓e11]
   have hF:=ob hF;obtain⟨o',ho26,hF⟩:=hF
   refine zK (((CC.f102 B hB1 hB2 list out i v k) (v12++[(⟨2,[],0,0,0,(i:Int),v16,0⟩:Step)]) out6.length o' ho26) _ rfl _ ?_)
   have hF:=oc hF;obtain⟨c27,hF⟩:=hF
   have w28:i64.wrap ((k:Int)+1)=(k:Int)+1:=ZE (by omega) (by omega)
   repeat first|refine cg ?_|simp -dsimp[w28]
   refine zG ((ih_f103 o' (k+1) o hF) _ rfl _ hq)
  ·have z9:¬((k:Int)<(v.length:Int)):=auz
   cases hF
   repeat first|refine cg ?_|simp -dsimp[h7,q8,z9]
   refine zH hq
theorem CC.f104 (list:List Clause)(i:Nat):(∀(out31:List Step) (n32:Nat) (o:List Step),F.f104 list i out31 n32=some o->∀(c:Code),ZP [1,1,0,1,0,0,1,0,0,1,1,1,1,0,0] (ZG Tryz.f48)=some c->∀(Q:Exit->ASt->Prop),(Q (.exit 6) ⟨[(0,am zV list),(3,.own 0 (zA (α:=Step) o)),(4,li (i:Int))],[.elems 8 (zB yV o)]⟩)->ALoopU zQ B 0 87 (hold c .mk) ⟨[(0,am zV list),(3,.own 0 (zA (α:=Step) out31)),(4,li (i:Int)),(10,li (n32:Int))],[.elems 8 (zB yV out31)]⟩ (hold Q .mk)):=by
 refine F.f104.partial_correctness list i
  _
  ?_
 ·intro _f_f104 ih_f104 out31 n32 o hF
  refine ZI rfl fun Q hq hk hs=> ?_
  have b0:=hk 0
  simp -dsimp at b0
  have d0:=hs 0 _ rfl
  simp -dsimp[yK]at d0
  clear hk hs
  refine eN ?_
  refine kz ?_
  revert hF;refine aS ?_ ?_<;>intro h33 q34 hF
  ·have z35:((n32:Int)<(out31.length:Int)):=auz
   have hF:=ob hF;obtain⟨x36,e37,hF⟩:=hF
   have le37:=ZB e37
   repeat first|refine cg ?_|simp -dsimp[h33,z35,↓e37]
   revert hF;refine aS ?_ ?_<;>intro h38 q39 hF
   ·have w40:i64.wrap ((n32:Int)+1)=(n32:Int)+1:=ZE (by omega) (by omega)
    repeat first|refine cg ?_|simp -dsimp[h38,w40]
    refine zG ((ih_f104 (out31.set n32 (⟨x36.op,x36.path,x36.ctor,x36.n,x36.m,x36.clause,x36.binds,(out31.length:Int)⟩:Step)) (n32+1) o hF) _ rfl _ hq)
   ·have w41:i64.wrap ((n32:Int)+1)=(n32:Int)+1:=ZE (by omega) (by omega)
    repeat first|refine cg ?_|simp -dsimp[h38,q39,w41]
    refine zG ((ih_f104 out31 (n32+1) o hF) _ rfl _ hq)
  ·have z35:¬((n32:Int)<(out31.length:Int)):=auz
   cases hF
   repeat first|refine cg ?_|simp -dsimp[h33,q34,z35]
   refine zH hq
theorem CC.f105 (list:List Clause):(∀(out:List Step) (i:Nat) (o:List Step),F.f105 list out i=some o->∀(c:Code),ZP [1,1,0,1,0,0] (ZG Tryz.f48)=some c->∀(Q:Exit->ASt->Prop),(Q (.exit 0) ⟨[(3,.own 0 (zA (α:=Step) o))],[.elems 8 (zB yV o)]⟩)->ALoopU zQ B 0 87 (hold c .mk) ⟨[(0,am zV list),(3,.own 0 (zA (α:=Step) out)),(4,li (i:Int))],[.elems 8 (zB yV out)]⟩ (hold Q .mk)):=by
 refine F.f105.partial_correctness list
  _
  ?_
 ·intro _f_f105 ih_f105 out i o hF
  refine ZI rfl fun Q hq hk hs=> ?_
  have b0:=hk 0
  simp -dsimp at b0
  have d0:=hs 0 _ rfl
  simp -dsimp[yK]at d0
  clear hk hs
  refine eN ?_
  refine kz ?_
  revert hF;refine aS ?_ ?_<;>intro h1 q2 hF
  ·have z3:((i:Int)<(list.length:Int)):=auz
   have hF:=ob hF;obtain⟨x,e4,hF⟩:=hF
   have le4:=ZB e4
   repeat first|refine cg ?_|simp -dsimp[h1,z3,↓e4]
   have hF:=ob hF;obtain⟨v,e5,hF⟩:=hF
   refine(((CC.spec_l3Split__o0 B hB1 hB2).1 x.pat v e5)).go (pl [1]) (by simp) (by simp) (by intro i j hi;simp at hi) (by intro i hi hi';simp at hi hi';have hi:i=0:=(by omega);rcases hi with rfl<;>simp[pl]) (by simp_all) (by simp_all) ?_
   refine kz ?_
   have hF:=ob hF;obtain⟨o'30,ho29,hF⟩:=hF
   refine zK (((CC.f103 B hB1 hB2 list out i v) out 0 o'30 ho29) _ rfl _ ?_)
   refine kz ?_
   have hF:=ob hF;obtain⟨o'43,ho42,hF⟩:=hF
   refine zK (((CC.f104 B hB1 hB2 list i) o'30 out.length o'43 ho42) _ rfl _ ?_)
   have hF:=oc hF;obtain⟨c44,hF⟩:=hF
   have w45:i64.wrap ((i:Int)+1)=(i:Int)+1:=ZE (by omega) (by omega)
   repeat first|refine cg ?_|simp -dsimp[w45]
   refine zG ((ih_f105 o'43 (i+1) o hF) _ rfl _ hq)
  ·have z3:¬((i:Int)<(list.length:Int)):=auz
   cases hF
   repeat first|refine cg ?_|simp -dsimp[h1,q2,z3]
   refine zH hq
theorem C.f106 (list:List Clause)(r:List Step)(hF:F.f106 list=some r):PureCall zQ B 48 [am zV list] (am yV r):=by
 unfold F.f106 at hF
 refine zI func48 rfl ntmps48 ?_
 refine kz ?_
 have hF:=ob hF;obtain⟨o'47,ho46,hF⟩:=hF
 refine zK (((CC.f105 B hB1 hB2 list) [] 0 o'47 ho46) _ rfl _ ?_)
 have hF:=oc hF;obtain⟨c48,hF⟩:=hF
 cases hF
 repeat first|refine cg ?_|simp -dsimp
theorem CC.f107 (list:List Clause):(∀(i:Nat) (o:Lo ((List Step)×Bool) Unit),F.f107 list i=some o->∀(c:Code),ZP [1,1,0,1,0,0] (ZG Tryz.f25)=some c->∀(Q:Exit->ASt->Prop),o.post (fun r=>∀st,ZAD zQ Tryz.f25 (fun r' _=>r'.le (.tup [am yV r.1,.lit (.bool r.2)])) .ret st->Q .ret st) (fun s=>Q (.exit 0) ⟨[(2,am zV list)],[]⟩)->ALoopU zQ B 0 32 (hold c .mk) ⟨[(2,am zV list),(8,li (i:Int))],[]⟩ (hold Q .mk)):=by
 refine F.f107.partial_correctness list
  _
  ?_
 ·intro _f_f107 ih_f107 i o hF
  refine ZI rfl fun Q hq hk hs=> ?_
  have b2:=hk 2
  simp -dsimp at b2
  clear hk hs
  refine eN ?_
  refine kz ?_
  revert hF;refine aS ?_ ?_<;>intro h4 q5 hF
  ·have z6:((i:Int)<(list.length:Int)):=auz
   have hF:=ob hF;obtain⟨x,e7,hF⟩:=hF
   have le7:=ZB e7
   repeat first|refine cg ?_|simp -dsimp[h4,z6,↓e7]
   have hF:=ob hF;obtain⟨v8,e9,hF⟩:=hF
   refine(((CC.spec_l3Split__o0 B hB1 hB2).1 x.pat v8 e9)).go (pl [0]) (by simp) (by simp) (by intro i j hi;simp at hi) (by intro i hi hi';simp at hi hi';have hi:i=0:=(by omega);rcases hi with rfl<;>simp[pl]) (by simp_all) (by simp_all) ?_
   refine kz ?_
   revert hF;refine aS ?_ ?_<;>intro h10 q11 hF
   ·have z12:(40<(v8.length:Int)):=auz
    cases hF
    repeat first|refine cg ?_|simp -dsimp[h10,z12]
    refine lG _ (gR _) (hq _ ?_)
    repeat first|refine cg ?_|simp -dsimp
   ·have z12:¬(40<(v8.length:Int)):=auz
    have w13:i64.wrap ((i:Int)+1)=(i:Int)+1:=ZE (by omega) (by omega)
    repeat first|refine cg ?_|simp -dsimp[h10,q11,z12,w13]
    refine zG ((ih_f107 (i+1) o hF) _ rfl _ hq)
  ·have z6:¬((i:Int)<(list.length:Int)):=auz
   cases hF
   repeat first|refine cg ?_|simp -dsimp[h4,q5,z6]
   refine zH hq
theorem C.f108 (w:List zP)(t:Ty)(list:List Clause)(r:(List Step)×Bool)(hF:F.f108 w t list=some r):PureCall zQ B 25 [am zR w,.agg [li t.data,li t.index],am zV list] (.tup [am yV r.1,.lit (.bool r.2)]):=by
 unfold F.f108 at hF
 refine zI func25 rfl ntmps25 ?_
 refine kz ?_
 have hF:=ob hF;obtain⟨v,e1,hF⟩:=hF
 refine((C.f84 B hB1 hB2 w t list v e1)).goI ?_
 refine kz ?_
 revert hF;refine aN (fun h2 q3 hF=> ?_) (fun h2 q3 hF=> ?_)
 ·cases hF
  repeat first|refine cg ?_|simp -dsimp[h2,q3]
 ·refine kz ?_
  have hF:=ob hF;obtain⟨o',ho14,hF⟩:=hF
  refine zK (((CC.f107 B hB1 hB2 list) 0 o' ho14) _ rfl _ ?_)
  rcases o' with r0|sx
  ·dsimp only at hF
   cases hF
   intro st h
   simpa using h
  ·dsimp only at hF
   refine kz ?_
   have hF:=ob hF;obtain⟨v15,e16,hF⟩:=hF
   refine((C.f106 B hB1 hB2 list v15 e16)).goI ?_
   cases hF
   repeat first|refine cg ?_|simp -dsimp
theorem CC.f109 (w:List zP):(∀(t:Ty) (v:Vl.Value) (depth:Int) (r:Bool),F.f109 w t v depth=some r->PureCall zQ B 49 [am zR w,.agg [li t.data,li t.index],.agg [li v.ctor,li v.n,am Vl.Value.c v.kids],li depth] (.lit (.bool r)))/\
  (∀(v:Vl.Value) (depth:Int) (v19:List Ty) (i:Nat) (o:Lo Bool Unit),F.f110 w v depth v19 i=some o->∀(c:Code),ZP [1,1,1,1,1,1,0,1,0,0] (ZG Tryz.f49)=some c->∀(Q:Exit->ASt->Prop),o.post (fun r=>∀st,ZAD zQ Tryz.f49 (fun r' _=>r'.le (.lit (.bool r))) .ret st->Q .ret st) (fun s=>Q (.exit 0) ⟨[],[]⟩)->ALoopU zQ B 0 78 (hold c .mk) ⟨[(0,am zR w),(3,li depth),(6,.ptr 1 0),(9,am zM v19),(10,li (i:Int))],[.dead,.cells [li v.ctor,li v.n,am Vl.Value.c v.kids]]⟩ (hold Q .mk)):=by
 refine F.f109.mutual_partial_correctness w
  _ _
  ?_ ?_
 ·intro _f_f110 ih_f110 t v depth r hF
  refine zI func49 rfl ntmps49 ?_
  refine kz ?_
  revert hF;refine aS ?_ ?_<;>intro h1 q2 hF
  ·cases hF
   repeat first|refine cg ?_|simp -dsimp[h1]
  ·repeat first|refine cg ?_|simp -dsimp[h1,q2]
   revert hF;refine aS ?_ ?_<;>intro h3 q4 hF
   ·repeat first|refine cg ?_|simp -dsimp[h1,q2,h3]
    revert hF;refine aS ?_ ?_<;>intro h5 q6 hF
    ·repeat first|refine cg ?_|simp -dsimp[h1,q2,h3,h5]
     revert hF;refine aS ?_ ?_<;>intro h7 q8 hF
     ·repeat first|refine cg ?_|simp -dsimp[h1,q2,h3,h5,h7]
      revert hF;refine aS ?_ ?_<;>intro h9 q10 hF
      ·cases hF
       repeat first|refine cg ?_|simp -dsimp[h1,q2,h3,h5,h7,h9]
      ·cases hF
       repeat first|refine cg ?_|simp -dsimp[h1,q2,h3,h5,h7,h9,q10]
     ·cases hF
      repeat first|refine cg ?_|simp -dsimp[h1,q2,h3,h5,h7,q8]
    ·cases hF
     repeat first|refine cg ?_|simp -dsimp[h1,q2,h3,h5,q6]
   ·repeat first|refine cg ?_|simp -dsimp[h1,q2,h3,q4]
    refine yM follows ?_
    repeat first|refine cg ?_|simp -dsimp[h1,q2,h3,q4]
    revert hF;refine aS ?_ ?_<;>intro h11 q12 hF
    ·repeat first|refine cg ?_|simp -dsimp[h1,q2,h3,q4,h11]
     have hF:=ob hF;obtain⟨v13,e14,hF⟩:=hF
     refine((C.f55 B hB1 hB2 w t v13 e14)).pgoW (by simp[h1,q2,h3,q4,h11]) (by simp) ?_
     repeat first|refine cg ?_|simp -dsimp[h1,q2,h3,q4,h11]
     have hF:=ob hF;obtain⟨v15,e16,hF⟩:=hF
     refine((C.f57 B hB1 hB2 v13 v.ctor v15 e16)).pgoW (by simp[h1,q2,h3,q4,h11]) (by simp) ?_
     repeat first|refine cg ?_|simp -dsimp[h1,q2,h3,q4,h11]
     revert hF;refine aN (fun h17 q18 hF=> ?_) (fun h17 q18 hF=> ?_)
     ·cases hF
      repeat first|refine cg ?_|simp -dsimp[h1,q2,h3,q4,h11,h17,q18]
     ·repeat first|refine cg ?_|simp -dsimp[h1,q2,h3,q4,h11,h17,q18]
      have hF:=ob hF;obtain⟨v19,e20,hF⟩:=hF
      refine((C.f61 B hB1 hB2 w t v.ctor v19 e20)).goI ?_
      repeat first|refine cg ?_|simp -dsimp[h1,q2,h3,q4,h11,h17,q18]
      revert hF;refine aN ?_ ?_<;>intro h21 q22 hF
      ·have z23:¬((v.kids.length:Int)=(v19.length:Int)):=auz
       cases hF
       repeat first|refine cg ?_|simp -dsimp[h1,q2,h3,q4,h11,h17,q18,h21,q22,z23]
      ·have z23:((v.kids.length:Int)=(v19.length:Int)):=auz
       repeat first|refine cg ?_|simp -dsimp[h1,q2,h3,q4,h11,h17,q18,h21,q22,z23]
       have hF:=ob hF;obtain⟨o',ho35,hF⟩:=hF
       refine zK ((ih_f110 v depth v19 0 o' ho35) _ rfl _ ?_)
       rcases o' with r0|sx
       ·dsimp only at hF
        cases hF
        intro st h
        simpa using h
       ·dsimp only at hF
        cases hF
        repeat first|refine cg ?_|simp -dsimp
    ·cases hF
     repeat first|refine cg ?_|simp -dsimp[h1,q2,h3,q4,h11,q12]
 ·intro _f_f109 _f_f110 ih_f109 ih_f110 v depth v19 i o hF
  refine ZI rfl fun Q hq hk hs=> ?_
  have b0:=hk 0
  simp -dsimp at b0
  have b9:=hk 9
  simp -dsimp at b9
  have d1:=hs 1 _ rfl
  simp -dsimp[yK]at d1
  clear hk hs
  refine eN ?_
  refine kz ?_
  revert hF;refine aS ?_ ?_<;>intro h24 q25 hF
  ·have z26:((i:Int)<(v19.length:Int)):=auz
   repeat first|refine cg ?_|simp -dsimp[h24,z26]
   refine yM follows ?_
   have hF:=ob hF;obtain⟨x,e27,hF⟩:=hF
   have le27:=ZB e27
   have hF:=ob hF;obtain⟨x28,e29,hF⟩:=hF
   have le29:=ZB e29
   repeat first|refine cg ?_|simp -dsimp[h24,z26,↓e27,↓e29]
   have hF:=ob hF;obtain⟨v30,e31,hF⟩:=hF
   refine((ih_f109 x x28 (i64.wrap (depth-1)) v30 e31)).pgoW (by simp[h24,z26,↓e27,↓e29]) (by simp) ?_
   repeat first|refine cg ?_|simp -dsimp[h24,z26,↓e27,↓e29]
   revert hF;refine aN (fun h32 q33 hF=> ?_) (fun h32 q33 hF=> ?_)
   ·cases hF
    repeat first|refine cg ?_|simp -dsimp[h24,z26,↓e27,↓e29,h32,q33]
    refine lG _ (gR _) (hq _ ?_)
    repeat first|refine cg ?_|simp -dsimp[h24,z26,↓e27,↓e29,h32,q33]
   ·have w34:i64.wrap ((i:Int)+1)=(i:Int)+1:=ZE (by omega) (by omega)
    repeat first|refine cg ?_|simp -dsimp[h24,z26,↓e27,↓e29,h32,q33,w34]
    refine zG ((ih_f110 v depth v19 (i+1) o hF) _ rfl _ hq)
  ·have z26:¬((i:Int)<(v19.length:Int)):=auz
   cases hF
   repeat first|refine cg ?_|simp -dsimp[h24,q25,z26]
   refine zH hq
theorem CC.f111  :(∀(v:Vl.Value) (most:Int) (r:Int),F.f111 v most=some r->PureCall zQ B 50 [.agg [li v.ctor,li v.n,am Vl.Value.c v.kids],li most] (li r))/\
  (∀(v:Vl.Value) (most:Int) (n:Int) (i:Nat) (o:Int),F.f112 v most n i=some o->∀(c:Code),ZP [1,1,0,1,0,0] (ZG Tryz.f50)=some c->∀(Q:Exit->ASt->Prop),(Q (.exit 0) ⟨[(5,li o)],[]⟩)->ALoopU zQ B 0 31 (hold c .mk) ⟨[(1,li most),(2,.ptr 0 0),(5,li n),(6,li (i:Int))],[.cells [li v.ctor,li v.n,am Vl.Value.c v.kids]]⟩ (hold Q .mk)):=by
 refine F.f111.mutual_partial_correctness 
  _ _
  ?_ ?_
 ·intro _f_f112 ih_f112 v most r hF
  refine zI func50 rfl ntmps50 ?_
  refine kz ?_
  have hF:=ob hF;obtain⟨o',ho10,hF⟩:=hF
  refine zK ((ih_f112 v most 1 0 o' ho10) _ rfl _ ?_)
  cases hF
  repeat first|refine cg ?_|simp -dsimp
 ·intro _f_f111 _f_f112 ih_f111 ih_f112 v most n i o hF
  refine ZI rfl fun Q hq hk hs=> ?_
  have d0:=hs 0 _ rfl
  simp -dsimp[yK]at d0
  clear hk hs
  refine eN ?_
  refine kz ?_
  revert hF;refine aS ?_ ?_<;>intro h1 q2 hF
  ·have z3:((i:Int)<(v.kids.length:Int)):=auz
   repeat first|refine cg ?_|simp -dsimp[h1,z3]
   revert hF;refine aS ?_ ?_<;>intro h4 q5 hF
   ·have hF:=ob hF;obtain⟨x,e6,hF⟩:=hF
    have le6:=ZB e6
    repeat first|refine cg ?_|simp -dsimp[h4,↓e6]
    have hF:=ob hF;obtain⟨v7,e8,hF⟩:=hF
    refine((ih_f111 x (i64.wrap (most-n)) v7 e8)).goI ?_
    have w9:i64.wrap ((i:Int)+1)=(i:Int)+1:=ZE (by omega) (by omega)
    repeat first|refine cg ?_|simp -dsimp[w9]
    refine zG ((ih_f112 v most (i64.wrap (n+v7)) (i+1) o hF) _ rfl _ hq)
   ·cases hF
    repeat first|refine cg ?_|simp -dsimp[h4,q5]
    refine zH hq
  ·have z3:¬((i:Int)<(v.kids.length:Int)):=auz
   cases hF
   repeat first|refine cg ?_|simp -dsimp[h1,q2,z3]
   refine zH hq
theorem C.f113 (w:List zP)(t:Ty)(v:Vl.Value)(r:Bool)(hF:F.f113 w t v=some r):PureCall zQ B 26 [am zR w,.agg [li t.data,li t.index],.agg [li v.ctor,li v.n,am Vl.Value.c v.kids]] (.lit (.bool r)):=by
 unfold F.f113 at hF
 refine zI func26 rfl ntmps26 ?_
 refine kz ?_
 have hF:=ob hF;obtain⟨v1,e2,hF⟩:=hF
 refine(((CC.f109 B hB1 hB2 w).1 t v 10 v1 e2)).goI ?_
 refine kz ?_
 revert hF;refine aS (fun h3 q4 hF=> ?_) (fun h3 q4 hF=> ?_)
 ·repeat first|refine cg ?_|simp -dsimp[h3]
  have hF:=ob hF;obtain⟨v5,e6,hF⟩:=hF
  refine(((CC.f111 B hB1 hB2).1 v 60 v5 e6)).goI ?_
  cases hF
  repeat first|refine cg ?_|simp -dsimp[h3]
 ·cases hF
  repeat first|refine cg ?_|simp -dsimp[h3,q4]
theorem CC.f114 (path:List Int):(∀(z:Int) (z1:Int) (z2:List Vl.Value) (i:Nat) (o:Int×Int×(List Vl.Value)),F.f114 path z z1 z2 i=some o->∀(c:Code),ZP [1,0,1,0,0] (ZG Tryz.f54)=some c->∀(Q:Exit->ASt->Prop),(Q (.exit 0) ⟨[(2,.ptr 0 0),(4,.ptr 1 0)],[.cells [li o.1,li o.2.1,am Vl.Value.c o.2.2],.cells [li 0,li 0,.lit (.slice none 0 0)]]⟩)->ALoopU zQ B 0 21 (hold c .mk) ⟨[(1,am cI path),(2,.ptr 0 0),(4,.ptr 1 0),(5,li (i:Int))],[.cells [li z,li z1,am Vl.Value.c z2],.cells [li 0,li 0,.lit (.slice none 0 0)]]⟩ (hold Q .mk)):=by
 refine F.f114.partial_correctness path
  _
  ?_
 ·intro _f_f114 ih_f114 z z1 z2 i o hF
  refine ZI rfl fun Q hq hk hs=> ?_
  have b1:=hk 1
  simp -dsimp at b1
  have d0:=hs 0 _ rfl
  simp -dsimp[yK]at d0
  clear hk hs
  refine eN ?_
  refine kz ?_
  revert hF;refine aS ?_ ?_<;>intro h3 q4 hF
  ·have z5:((i:Int)<(path.length:Int)):=auz
   repeat first|refine cg ?_|simp -dsimp[h3,z5]
   refine yL [] [(0,0),(0,0),(0,0),(0,0),(0,0),(0,0),(0,0),(0,0),(0,1)] [1,1,1,1,1,1,1,1,1] follows ?_
   have hF:=ob hF;obtain⟨x,e6,hF⟩:=hF
   have le6:=ZB e6
   have hF:=ob hF;obtain⟨x7,e8a,hF⟩:=hF
   have e8a:=ZX e8a;obtain⟨ne8,e8⟩:=e8a
   have le8:=ZB e8
   have w9:i64.wrap ((i:Int)+1)=(i:Int)+1:=ZE (by omega) (by omega)
   repeat first|refine cg ?_|simp -dsimp[↓e6,↓e8,w9]
   refine zG ((ih_f114 x7.ctor x7.n x7.kids (i+1) o hF) _ rfl _ hq)
  ·have z5:¬((i:Int)<(path.length:Int)):=auz
   cases hF
   repeat first|refine cg ?_|simp -dsimp[h3,q4,z5]
   refine zH hq
theorem C.f115 (v:Vl.Value)(path:List Int)(r:Vl.Value)(hF:F.f115 v path=some r):PureCall zQ B 54 [.agg [li v.ctor,li v.n,am Vl.Value.c v.kids],am cI path] (.agg [li r.ctor,li r.n,am Vl.Value.c r.kids]):=by
 unfold F.f115 at hF
 refine zI func54 rfl ntmps54 ?_
 refine kz ?_
 have hF:=ob hF;obtain⟨o',ho10,hF⟩:=hF
 refine zK (((CC.f114 B hB1 hB2 path) v.ctor v.n v.kids 0 o' ho10) _ rfl _ ?_)
 cases hF
 repeat first|refine cg ?_|simp -dsimp
theorem CC.f116  :(∀(v:Vl.Value) (r:Vl.Value),F.f116 v=some r->PureCall zQ B 84 [.agg [li v.ctor,li v.n,am Vl.Value.c v.kids]] (.agg [li r.ctor,li r.n,am Vl.Value.c r.kids]))/\
  (∀(v:Vl.Value) (out:List Vl.Value) (i:Nat) (o:List Vl.Value),F.f117 v out i=some o->∀(c:Code),ZP [1,1,0,1,0,0] (ZG Tryz.f84)=some c->∀(Q:Exit->ASt->Prop),(Q (.exit 0) ⟨[(2,.ptr 1 0),(3,.ptr 2 0)],[.dead,.cells [li 0,li 0,.lit (.slice none 0 0)],.cells [li v.ctor,li v.n,.own 3 (zA (α:=Vl.Value) o)],.elems 3 (zB Vl.Value.c o)]⟩)->ALoopU zQ B 0 29 (hold c .mk) ⟨[(1,.ptr 0 0),(2,.ptr 1 0),(3,.ptr 2 0),(4,li (i:Int))],[.cells [li v.ctor,li v.n,am Vl.Value.c v.kids],.cells [li 0,li 0,.lit (.slice none 0 0)],.cells [li v.ctor,li v.n,.own 3 (zA (α:=Vl.Value) out)],.elems 3 (zB Vl.Value.c out)]⟩ (hold Q .mk)):=by
 refine F.f116.mutual_partial_correctness 
  _ _
  ?_ ?_
 ·intro _f_f117 ih_f117 v r hF
  refine zI func84 rfl ntmps84 ?_
  refine kz ?_
  have hF:=ob hF;obtain⟨o',ho9,hF⟩:=hF
  refine zL ⟨[(1,.ptr 0 0),(2,.ptr 1 0),(3,.ptr 2 0),(4,.lit (.int .i64 0))],[.cells [.lit (.int .i64 v.ctor),.lit (.int .i64 v.n),.arr (zB Vl.Value.c v.kids)],.cells [.lit (.int .i64 0),.lit (.int .i64 0),.lit (.slice none 0 0)],.cells [.lit (.int .i64 v.ctor),.lit (.int .i64 v.n),.own 3 (zA (α:=Vl.Value) [])],.elems 3 (zB Vl.Value.c [])]⟩ (by refine yQ (Gh.nilCell 2 2 3 (by simp -dsimp;rfl) (by simp -dsimp)) ?_;exact(gT (by simp) (by simp -dsimp))) ?_
  refine(ih_f117 v [] 0 o' ho9) _ rfl _ ?_
  cases hF
  repeat first|refine cg ?_|simp -dsimp
 ·intro _f_f116 _f_f117 ih_f116 ih_f117 v out i o hF
  refine ZI rfl fun Q hq hk hs=> ?_
  have d0:=hs 0 _ rfl
  simp -dsimp[yK]at d0
  have d3:=hs 3 _ rfl
  simp -dsimp[yK]at d3
  clear hk hs
  refine eN ?_
  refine kz ?_
  revert hF;refine aS ?_ ?_<;>intro h1 q2 hF
  ·have z3:((i:Int)<(v.kids.length:Int)):=auz
   repeat first|refine cg ?_|simp -dsimp[h1,z3]
   refine yL [] [(0,1),(0,1),(0,0),(0,0),(0,0),(0,0),(0,0),(0,3),(0,3),(0,3),(2,2),(0,3)] [0,2,1,1,1,1,1,1,1,1,1,1] follows ?_
   have hF:=ob hF;obtain⟨x,e4,hF⟩:=hF
   have le4:=ZB e4
   repeat first|refine cg ?_|simp -dsimp[↓e4]
   have hF:=ob hF;obtain⟨v5,e6,hF⟩:=hF
   refine((ih_f116 x v5 e6)).pgoW (by simp_all) (by simp) ?_
   have hF:=oc hF;obtain⟨c7,hF⟩:=hF
   have w8:i64.wrap ((i:Int)+1)=(i:Int)+1:=ZE (by omega) (by omega)
   repeat first|refine cg ?_|simp -dsimp[w8]
   refine zG ((ih_f117 v (out++[v5]) (i+1) o hF) _ rfl _ hq)
  ·have z3:¬((i:Int)<(v.kids.length:Int)):=auz
   cases hF
   repeat first|refine cg ?_|simp -dsimp[h1,q2,z3]
   refine zH hq
theorem CC.f118 (binds:List PathBind)(v:Vl.Value):(∀(out:List Bind) (i:Nat) (o:List Bind),F.f118 binds v out i=some o->∀(c:Code),ZP [1,1,0,1,0,0] (ZG Tryz.f51)=some c->∀(Q:Exit->ASt->Prop),(Q (.exit 0) ⟨[(5,.own 1 (zA (α:=Bind) o))],[.dead,.elems 4 (zB yX o)]⟩)->ALoopU zQ B 0 32 (hold c .mk) ⟨[(0,am yW binds),(3,.ptr 0 0),(5,.own 1 (zA (α:=Bind) out)),(6,li (i:Int))],[.cells [li v.ctor,li v.n,am Vl.Value.c v.kids],.elems 4 (zB yX out)]⟩ (hold Q .mk)):=by
 refine F.f118.partial_correctness binds v
  _
  ?_
 ·intro _f_f118 ih_f118 out i o hF
  refine ZI rfl fun Q hq hk hs=> ?_
  have b0:=hk 0
  simp -dsimp at b0
  have d0:=hs 0 _ rfl
  simp -dsimp[yK]at d0
  have d1:=hs 1 _ rfl
  simp -dsimp[yK]at d1
  clear hk hs
  refine eN ?_
  refine kz ?_
  revert hF;refine aS ?_ ?_<;>intro h1 q2 hF
  ·have z3:((i:Int)<(binds.length:Int)):=auz
   repeat first|refine cg ?_|simp -dsimp[h1,z3]
   refine yL [] [(0,1),(0,0),(0,0),(0,0),(0,0),(0,0),(0,0),(0,0),(0,0),(0,0),(0,0),(0,0),(0,2),(0,2),(0,0),(0,2),(0,2),(2,2)] [1,1,1,1,1,1,1,1,1,1,1,1,1,1,1,1,1,1] follows ?_
   have hF:=ob hF;obtain⟨x,e4,hF⟩:=hF
   have le4:=ZB e4
   repeat first|refine cg ?_|simp -dsimp[↓e4]
   have hF:=ob hF;obtain⟨v5,e6,hF⟩:=hF
   refine((C.f115 B hB1 hB2 v x.path v5 e6)).pgoW (by simp_all) (by simp) ?_
   refine kz ?_
   have hF:=ob hF;obtain⟨v7,e8,hF⟩:=hF
   refine(((CC.f116 B hB1 hB2).1 v5 v7 e8)).pgoW (by simp_all) (by simp) ?_
   have hF:=oc hF;obtain⟨c9,hF⟩:=hF
   have w10:i64.wrap ((i:Int)+1)=(i:Int)+1:=ZE (by omega) (by omega)
   repeat first|refine cg ?_|simp -dsimp[w10]
   refine zG ((ih_f118 (out++[(⟨x.var,v7⟩:Bind)]) (i+1) o hF) _ rfl _ hq)
  ·have z3:¬((i:Int)<(binds.length:Int)):=auz
   cases hF
   repeat first|refine cg ?_|simp -dsimp[h1,q2,z3]
   refine zH hq
theorem C.f119 (binds:List PathBind)(v:Vl.Value)(r:List Bind)(hF:F.f119 binds v=some r):PureCall zQ B 51 [am yW binds,.agg [li v.ctor,li v.n,am Vl.Value.c v.kids]] (am yX r):=by
 unfold F.f119 at hF
 refine zI func51 rfl ntmps51 ?_
 refine kz ?_
 have hF:=ob hF;obtain⟨o',ho11,hF⟩:=hF
 refine zK (((CC.f118 B hB1 hB2 binds v) [] 0 o' ho11) _ rfl _ ?_)
 cases hF
 repeat first|refine cg ?_|simp -dsimp
theorem CC.f120 (g:Guard)(binds:List Bind):(∀(i:Nat) (o:Lo Bool Unit),F.f120 g binds i=some o->∀(c:Code),ZP [1,1,0,1,0,0] (ZG Tryz.f52)=some c->∀(Q:Exit->ASt->Prop),o.post (fun r=>∀st,ZAD zQ Tryz.f52 (fun r' _=>r'.le (.lit (.bool r))) .ret st->Q .ret st) (fun s=>Q (.exit 0) ⟨[],[]⟩)->ALoopU zQ B 0 59 (hold c .mk) ⟨[(1,am yX binds),(2,.ptr 0 0),(5,li (i:Int))],[.cells [li g.op,li g.var,li g.n]]⟩ (hold Q .mk)):=by
 refine F.f120.partial_correctness g binds
  _
  ?_
 ·intro _f_f120 ih_f120 i o hF
  refine ZI rfl fun Q hq hk hs=> ?_
  have b1:=hk 1
  simp -dsimp at b1
  clear hk hs
  refine eN ?_
  refine kz ?_
  revert hF;refine aS ?_ ?_<;>intro h3 q4 hF
  ·have z5:((i:Int)<(binds.length:Int)):=auz
   repeat first|refine cg ?_|simp -dsimp[h3,z5]
   refine yM follows ?_
   have hF:=ob hF;obtain⟨x,e6,hF⟩:=hF
   have le6:=ZB e6
   repeat first|refine cg ?_|simp -dsimp[h3,z5,↓e6]
   revert hF;refine aN ?_ ?_<;>intro h7 q8 hF
   ·have w9:i64.wrap ((i:Int)+1)=(i:Int)+1:=ZE (by omega) (by omega)
    repeat first|refine cg ?_|simp -dsimp[h3,z5,↓e6,h7,q8,w9]
    refine zG ((ih_f120 (i+1) o hF) _ rfl _ hq)
   ·repeat first|refine cg ?_|simp -dsimp[h3,z5,↓e6,h7,q8]
    revert hF;refine aS ?_ ?_<;>intro h10 q11 hF
    ·repeat first|refine cg ?_|simp -dsimp[h3,z5,↓e6,h7,q8,h10]
     revert hF;refine aS ?_ ?_<;>intro h12 q13 hF
     ·repeat first|refine cg ?_|simp -dsimp[h3,z5,↓e6,h7,q8,h10,h12]
      revert hF;refine aN ?_ ?_<;>intro h14 q15 hF
      ·have n16:¬(g.op=2):=by omega
       cases hF
       repeat first|refine cg ?_|simp -dsimp[h3,z5,↓e6,h7,q8,h10,h12,h14,q15,n16]
       refine lG _ (gR _) (hq _ ?_)
       repeat first|refine cg ?_|simp -dsimp[h3,z5,↓e6,h7,q8,h10,h12,h14,q15,n16]
      ·cases hF
       repeat first|refine cg ?_|simp -dsimp[h3,z5,↓e6,h7,q8,h10,h12,h14,q15]
       refine lG _ (gR _) (hq _ ?_)
       repeat first|refine cg ?_|simp -dsimp[h3,z5,↓e6,h7,q8,h10,h12,h14,q15]
     ·repeat first|refine cg ?_|simp -dsimp[h3,z5,↓e6,h7,q8,h10,h12,q13]
      revert hF;refine aS ?_ ?_<;>intro h17 q18 hF
      ·cases hF
       repeat first|refine cg ?_|simp -dsimp[h3,z5,↓e6,h7,q8,h10,h12,q13,h17]
       refine lG _ (gR _) (hq _ ?_)
       repeat first|refine cg ?_|simp -dsimp[h3,z5,↓e6,h7,q8,h10,h12,q13,h17]
      ·cases hF
       repeat first|refine cg ?_|simp -dsimp[h3,z5,↓e6,h7,q8,h10,h12,q13,h17,q18]
       refine lG _ (gR _) (hq _ ?_)
       repeat first|refine cg ?_|simp -dsimp[h3,z5,↓e6,h7,q8,h10,h12,q13,h17,q18]
    ·cases hF
     repeat first|refine cg ?_|simp -dsimp[h3,z5,↓e6,h7,q8,h10,q11]
     refine lG _ (gR _) (hq _ ?_)
     repeat first|refine cg ?_|simp -dsimp[h3,z5,↓e6,h7,q8,h10,q11]
  ·have z5:¬((i:Int)<(binds.length:Int)):=auz
   cases hF
   repeat first|refine cg ?_|simp -dsimp[h3,q4,z5]
   refine zH hq
theorem C.f121 (g:Guard)(binds:List Bind)(r:Bool)(hF:F.f121 g binds=some r):PureCall zQ B 52 [.agg [li g.op,li g.var,li g.n],am yX binds] (.lit (.bool r)):=by
 unfold F.f121 at hF
 refine zI func52 rfl ntmps52 ?_
 refine kz ?_
 revert hF;refine aS ?_ ?_<;>intro h1 q2 hF
 ·cases hF
  repeat first|refine cg ?_|simp -dsimp[h1]
 ·repeat first|refine cg ?_|simp -dsimp[q2]
  have hF:=ob hF;obtain⟨o',ho19,hF⟩:=hF
  refine zK (((CC.f120 B hB1 hB2 g binds) 0 o' ho19) _ rfl _ ?_)
  rcases o' with r0|sx
  ·dsimp only at hF
   cases hF
   intro st h
   simpa using h
  ·dsimp only at hF
   cases hF
   repeat first|refine cg ?_|simp -dsimp
theorem C.f122 (x:Step)(v:Vl.Value)(r:Bool)(hF:F.f122 x v=some r):PureCall zQ B 53 [.agg [li x.op,am cI x.path,li x.ctor,li x.n,li x.m,li x.clause,am yW x.binds,li x.to],.agg [li v.ctor,li v.n,am Vl.Value.c v.kids]] (.lit (.bool r)):=by
 unfold F.f122 at hF
 refine zI func53 rfl ntmps53 ?_
 refine kz ?_
 revert hF;refine aS ?_ ?_<;>intro h1 q2 hF
 ·repeat first|refine cg ?_|simp -dsimp[h1]
  revert hF;refine aS ?_ ?_<;>intro h3 q4 hF
  ·repeat first|refine cg ?_|simp -dsimp[h1,h3]
   revert hF;refine aS ?_ ?_<;>intro h5 q6 hF
   ·cases hF
    repeat first|refine cg ?_|simp -dsimp[h1,h3,h5]
   ·cases hF
    repeat first|refine cg ?_|simp -dsimp[h1,h3,h5,q6]
  ·cases hF
   repeat first|refine cg ?_|simp -dsimp[h1,h3,q4]
 ·cases hF
  repeat first|refine cg ?_|simp -dsimp[h1,q2]
theorem CC.f123 (list:List Clause)(code:List Step)(v:Vl.Value):(∀(paths:List (List Int)) (at':Int) (o:Lo (Int×(List Bind)×(List (List Int))) (List (List Int))),F.f123 list code v paths at'=some o->∀(c:Code),ZP [1,1,1,0,0,0] (ZG Tryz.f27)=some c->∀(Q:Exit->ASt->Prop),o.post (fun r=>∀st,ZAD zQ Tryz.f27 (fun r' _=>r'.le (.tup [li r.1,am yX r.2.1,am (cL cI) r.2.2])) .ret st->Q .ret st) (fun s=>Q (.exit 0) ⟨[(10,.own 1 (zA (α:=List Int) s))],[.dead,.elems 1 (zB (cL cI) s)]⟩)->ALoopU zQ B 0 62 (hold c .mk) ⟨[(0,am zV list),(1,am yV code),(5,.ptr 0 0),(9,li at'),(10,.own 1 (zA (α:=List Int) paths))],[.cells [li v.ctor,li v.n,am Vl.Value.c v.kids],.elems 1 (zB (cL cI) paths)]⟩ (hold Q .mk)):=by
 refine F.f123.partial_correctness list code v
  _
  ?_
 ·intro _f_f123 ih_f123 paths at' o hF
  refine ZI rfl fun Q hq hk hs=> ?_
  have b0:=hk 0
  simp -dsimp at b0
  have b1:=hk 1
  simp -dsimp at b1
  have d0:=hs 0 _ rfl
  simp -dsimp[yK]at d0
  have d1:=hs 1 _ rfl
  simp -dsimp[yK]at d1
  clear hk hs
  refine eN ?_
  have hF:=ob hF;obtain⟨x,e1a,hF⟩:=hF
  have e1a:=ZX e1a;obtain⟨ne1,e1⟩:=e1a
  have le1:=ZB e1
  repeat first|refine cg ?_|simp -dsimp[↓e1]
  revert hF;refine aN ?_ ?_<;>intro h2 q3 hF
  ·repeat first|refine cg ?_|simp -dsimp[↓e1,h2,q3]
   revert hF;refine aS ?_ ?_<;>intro h4 q5 hF
   ·repeat first|refine cg ?_|simp -dsimp[↓e1,h4]
    have hF:=ob hF;obtain⟨v6,e7,hF⟩:=hF
    refine((C.f119 B hB1 hB2 x.binds v v6 e7)).goI ?_
    have hF:=ob hF;obtain⟨x8,e9a,hF⟩:=hF
    have e9a:=ZX e9a;obtain⟨ne9,e9⟩:=e9a
    have le9:=ZB e9
    repeat first|refine cg ?_|simp -dsimp[↓e1,↓e9]
    have hF:=ob hF;obtain⟨v10,e11,hF⟩:=hF
    refine((C.f121 B hB1 hB2 x8.guard v6 v10 e11)).goI ?_
    repeat first|refine cg ?_|simp -dsimp[↓e1,↓e9]
    revert hF;refine aS (fun h12 q13 hF=> ?_) (fun h12 q13 hF=> ?_)
    ·cases hF
     repeat first|refine cg ?_|simp -dsimp[↓e1,↓e9,h12]
     refine lG _ (gR _) (hq _ ?_)
     repeat first|refine cg ?_|simp -dsimp[↓e1,↓e9]
    ·repeat first|refine cg ?_|simp -dsimp[↓e1,↓e9,q13]
     refine zG ((ih_f123 paths x.to o hF) _ rfl _ hq)
   ·have hF:=oc hF;obtain⟨c14,hF⟩:=hF
    repeat first|refine cg ?_|simp -dsimp[↓e1,q5]
    refine yM follows ?_
    repeat first|refine cg ?_|simp -dsimp[↓e1]
    have hF:=ob hF;obtain⟨v15,e16,hF⟩:=hF
    refine((C.f115 B hB1 hB2 v x.path v15 e16)).pgoW (by simp_all) (by simp) ?_
    repeat first|refine cg ?_|simp -dsimp[↓e1]
    have hF:=ob hF;obtain⟨v17,e18,hF⟩:=hF
    refine((C.f122 B hB1 hB2 x v15 v17 e18)).pgoW (by simp_all) (by simp) ?_
    repeat first|refine cg ?_|simp -dsimp[↓e1]
    revert hF;refine aS (fun h19 q20 hF=> ?_) (fun h19 q20 hF=> ?_)
    ·repeat first|refine cg ?_|simp -dsimp[↓e1,h19]
     refine zG ((ih_f123 (paths++[x.path]) (i64.wrap (at'+1)) o hF) _ rfl _ hq)
    ·repeat first|refine cg ?_|simp -dsimp[↓e1,q20]
     refine zG ((ih_f123 (paths++[x.path]) x.to o hF) _ rfl _ hq)
  ·cases hF
   repeat first|refine cg ?_|simp -dsimp[↓e1]
   refine zH hq
theorem C.f124 (list:List Clause)(code:List Step)(v:Vl.Value)(r:Int×(List Bind)×(List (List Int)))(hF:F.f124 list code v=some r):PureCall zQ B 27 [am zV list,am yV code,.agg [li v.ctor,li v.n,am Vl.Value.c v.kids]] (.tup [li r.1,am yX r.2.1,am (cL cI) r.2.2]):=by
 unfold F.f124 at hF
 refine zI func27 rfl ntmps27 ?_
 refine kz ?_
 have hF:=ob hF;obtain⟨o',ho21,hF⟩:=hF
 refine zK (((CC.f123 B hB1 hB2 list code v) [] 0 o' ho21) _ rfl _ ?_)
 rcases o' with r0|sx
 ·dsimp only at hF
  cases hF
  intro st h
  simpa using h
 ·dsimp only at hF
  cases hF
  repeat first|refine cg ?_|simp -dsimp
theorem C.f125 (w:List zP)(t:Ty)(list:List Clause)(v:Vl.Value)(r:Int×(List Bind)×Int)(hF:F.f125 w t list v=some r):PureCall zQ B 7 [am zR w,.agg [li t.data,li t.index],am zV list,.agg [li v.ctor,li v.n,am Vl.Value.c v.kids]] (.tup [li r.1,am yX r.2.1,li r.2.2]):=by
 unfold F.f125 at hF
 refine zI func7 rfl ntmps7 ?_
 refine kz ?_
 have hF:=ob hF;obtain⟨v1,e2,hF⟩:=hF
 refine((C.f108 B hB1 hB2 w t list v1 e2)).goI ?_
 refine kz ?_
 revert hF;refine aS (fun h3 q4 hF=> ?_) (fun h3 q4 hF=> ?_)
 ·repeat first|refine cg ?_|simp -dsimp[h3]
  have hF:=ob hF;obtain⟨v5,e6,hF⟩:=hF
  refine((C.f113 B hB1 hB2 w t v v5 e6)).goI ?_
  repeat first|refine cg ?_|simp -dsimp[h3]
  revert hF;refine aN (fun h7 q8 hF=> ?_) (fun h7 q8 hF=> ?_)
  ·cases hF
   repeat first|refine cg ?_|simp -dsimp[h3,h7,q8]
  ·repeat first|refine cg ?_|simp -dsimp[h3,h7,q8]
   have hF:=ob hF;obtain⟨v9,e10,hF⟩:=hF
   refine((C.f124 B hB1 hB2 list v1.1 v v9 e10)).goI ?_
   cases hF
   repeat first|refine cg ?_|simp -dsimp[h3,h7,q8]
 ·cases hF
  repeat first|refine cg ?_|simp -dsimp[h3,q4]
theorem CC.laws_toTypeS__f_l1 (a:List Ty):(∀(out:List Ty) (i:Nat) (o:List Ty),yJ a out i=some o->∀(c:Code),ZP [1,1,0,1,0,0] (ZG Tryz.f115)=some c->∀(Q:Exit->ASt->Prop),(Q (.exit 0) ⟨[(3,.own 1 (zA (α:=Ty) o))],[.pack [] [],.elems 2 (zB zM o)]⟩)->ALoopU zQ B 0 23 (hold c .mk) ⟨[(0,am zM a),(3,.own 1 (zA (α:=Ty) out)),(4,li (i:Int))],[.pack [] [],.elems 2 (zB zM out)]⟩ (hold Q .mk)):=by
 refine F.f19.partial_correctness a
  _
  ?_
 ·intro _f_laws_toTypeS__f_l1 ih_laws_toTypeS__f_l1 out i o hF
  refine ZI rfl fun Q hq hk hs=> ?_
  have b0:=hk 0
  simp -dsimp at b0
  have d1:=hs 1 _ rfl
  simp -dsimp[yK]at d1
  clear hk hs
  refine eN ?_
  refine kz ?_
  revert hF;refine aS ?_ ?_<;>intro h2 q3 hF
  ·have z4:((i:Int)<(a.length:Int)):=auz
   have hF:=ob hF;obtain⟨x,e5,hF⟩:=hF
   have le5:=ZB e5
   repeat first|refine cg ?_|simp -dsimp[h2,z4,↓e5]
   have hF:=ob hF;obtain⟨v,e6,hF⟩:=hF
   refine((C.f18 B hB1 hB2 x v e6)).goI ?_
   have hF:=ob hF;obtain⟨x7,e8,hF⟩:=hF
   have le8:=ZB e8
   have w9:i64.wrap ((i:Int)+1)=(i:Int)+1:=ZE (by omega) (by omega)
   repeat first|refine cg ?_|simp -dsimp[↓e8,w9]
   refine zG ((ih_laws_toTypeS__f_l1 (out.set i v) (i+1) o hF) _ rfl _ hq)
  ·have z4:¬((i:Int)<(a.length:Int)):=auz
   cases hF
   repeat first|refine cg ?_|simp -dsimp[h2,q3,z4]
   refine zH hq
theorem C.laws_toTypeS__f (a:List Ty)(r:List Ty)(hF:yI a=some r):FCall zQ B 115 [am zM a] (am zM r):=by
 unfold yI at hF
 refine FCall.enterG func115 (by kernel_rfl) rfl ntmps115 (by simp) (yR .nil) ?_
 have hF:=oc hF;obtain⟨c1,hF⟩:=hF
 repeat first|refine cg ?_|simp -dsimp
 have hF:=ob hF;obtain⟨o',ho10,hF⟩:=hF
 refine zK (((CC.laws_toTypeS__f_l1 B hB1 hB2 a) (zC a.length Ty.z) 0 o' ho10) _ rfl _ ?_)
 cases hF
 repeat first|refine cg ?_|simp -dsimp
 exact⟨_,by decide,(.cell (CD.ownE 1 _ 2 rfl (Ty.lits_c _) (by simp) .nil) .nil:CT _ _ _ _)⟩
theorem C.laws_toCtor__f (a:Ctor)(r:Ctor)(hF:yH a=some r):FCall zQ B 85 [.agg [.lit (.string a.name),am zM a.args,li a.index]] (.agg [.lit (.string r.name),am zM r.args,li r.index]):=by
 unfold yH at hF
 refine FCall.enterG func85 (by kernel_rfl) rfl ntmps85 (by simp) (yR .nil) ?_
 refine kz ?_
 have hF:=ob hF;obtain⟨v,e1,hF⟩:=hF
 refine((C.laws_toTypeS__f B hB1 hB2 a.args v e1)).go1 (by simp -dsimp) (by simp) (fun h o_h=> ?_)
 cases hF
 repeat first|refine cg ?_|simp -dsimp[o_h]
 exact⟨_,by decide,(.agg (.lit _ (.pk 4 rfl (.lit _ .nil))) .nil:CT _ _ _ _)⟩
theorem CC.laws_toCtorS__f_l1 (a:List Ctor):(∀(out:List Ctor) (i:Nat) (o:List Ctor),yG a out i=some o->∀(R:List (List AV)),∀(U:List Value),RW 3 (zA (α:=Ctor) out) R U->∀(c:Code),ZP [1,1,0,1,0,0] (ZG Tryz.f55)=some c->∀(Q:Exit->ASt->Prop),(∀(Rq:List (List AV)) (Uq:List Value),RW 3 (zA (α:=Ctor) o) Rq Uq->Q (.exit 0) ⟨[(3,.own 1 (zA (α:=Ctor) o))],[.pack [] [],.elems 3 Rq,.pack (List.flatten (zB zN o)) Uq]⟩)->ALoopU zQ B 0 23 (hold c .mk) ⟨[(0,am zN a),(3,.own 1 (zA (α:=Ctor) out)),(4,li (i:Int))],[.pack [] [],.elems 3 R,.pack (List.flatten (zB zN out)) U]⟩ (hold Q .mk)):=by
 refine F.f22.partial_correctness a
  _
  ?_
 ·intro _f_laws_toCtorS__f_l1 ih_laws_toCtorS__f_l1 out i o hF
  intro R U H2 c hc Q hq
  obtain rfl:c=_:=ZAi hc rfl
  refine kN fun hk hs=> ?_
  have b0:=hk 0
  simp -dsimp at b0
  have d1:=hs 1 _ rfl
  simp -dsimp[yK]at d1
  clear hk hs
  refine eN ?_
  repeat first|refine cg ?_|simp -dsimp[RW.len H2,RW.closed H2]
  revert hF;refine aS ?_ ?_<;>intro h4 q5 hF
  ·have z6:((i:Int)<(a.length:Int)):=auz
   have hF:=ob hF;obtain⟨x,e7,hF⟩:=hF
   have le7:=ZB e7
   repeat first|refine cg ?_|simp -dsimp[RW.len H2,RW.closed H2,h4,z6,↓e7]
   have hF:=ob hF;obtain⟨v,e8,hF⟩:=hF
   refine((C.laws_toCtor__f B hB1 hB2 x v e8)).go1 (by simp -dsimp[RW.len H2,RW.closed H2,h4,z6,↓e7]) (by simp) (fun h o_h=> ?_)
   have hF:=ob hF;obtain⟨x9,e10,hF⟩:=hF
   have le10:=ZB e10
   obtain⟨row11,hrow11,lrow11⟩:=RW.row H2 le10
   have w12:i64.wrap ((i:Int)+1)=(i:Int)+1:=ZE (by omega) (by omega)
   repeat first|refine cg ?_|simp -dsimp[RW.len H2,RW.closed H2,h4,z6,↓e7,o_h,↓e10,hrow11,lrow11,w12]
   refine aG ⟨[(0,.arr (zB zN a)),(3,.own 1 (zA (α:=Ctor) (out.set i v))),(4,.lit (.int .i64 ((i+1):Int)))],[.pack [] [],.elems 3 (R.set i [.lit (.string v.name),.lit h,.lit (.int .i64 v.index)]),.pack (List.flatten (zB zN (out.set i v))) (ZH0 3 i U [.string v.name,h,.int .i64 v.index])]⟩ (by refine yQ (yS (c:=zN) (y:=v) 2 [3] (by exact rfl) e10 (by simp) H2 (by simp) (.lit (.string v.name) (.pk 3 (by exact rfl) (.lit (.int .i64 v.index) .nil))) (by simp) (by decide)) ?_;exact(gT (by simp) (by simp -dsimp[RW.len H2,RW.closed H2,h4,z6,↓e7,o_h,↓e10,hrow11,lrow11,w12]))) ?_
   exact(ih_laws_toCtorS__f_l1 (out.set i v) (i+1) o hF) (R.set i [.lit (.string v.name),.lit h,.lit (.int .i64 v.index)]) (ZH0 3 i U [.string v.name,h,.int .i64 v.index]) ((RW.set H2 le10 [.string v.name,h,.int .i64 v.index] rfl).cong (by simp) (by simp) rfl) _ rfl _ hq
  ·have z6:¬((i:Int)<(a.length:Int)):=auz
   cases hF
   repeat first|refine cg ?_|simp -dsimp[RW.len H2,RW.closed H2,h4,q5,z6]
   refine lG ⟨[(3,.own 1 (zA (α:=Ctor) out))],[.pack [] [],.elems 3 R,.pack (List.flatten (zB zN out)) U]⟩ (gT (by simp) (by simp -dsimp[RW.len H2,RW.closed H2,h4,q5,z6])) ?_
   exact hq R U H2
theorem C.laws_toCtorS__f (a:List Ctor)(r:List Ctor)(hF:yF a=some r):FCall zQ B 55 [am zN a] (am zN r):=by
 unfold yF at hF
 refine FCall.enterG func55 (by kernel_rfl) rfl ntmps55 (by simp) (yR .nil) ?_
 have hF:=oc hF;obtain⟨c1,hF⟩:=hF
 repeat first|refine cg ?_|simp -dsimp
 have hF:=ob hF;obtain⟨o',ho13,hF⟩:=hF
 refine zL ⟨[(0,.arr (zB zN a)),(3,.own 1 (zA (α:=Ctor) (zC a.length zO))),(4,.lit (.int .i64 0))],[.pack [] [],.elems 3 (zC a.length [.lit (.string zF),.lit (.slice none 0 0),.lit (.int .i64 0)]),.pack (List.flatten (zB zN (zC a.length zO))) (List.flatten (zC a.length [.string zF,.slice none 0 0,.int .i64 0]))]⟩ (by refine yQ (yR (ZC.rep (.lit (.string zF) (.emp none (.lit (.int .i64 0) .nil))) a.length)) ?_;exact(gT (by simp) (by simp -dsimp))) ?_
 refine((CC.laws_toCtorS__f_l1 B hB1 hB2 a) (zC a.length zO) 0 o' ho13) (zC a.length [.lit (.string zF),.lit (.slice none 0 0),.lit (.int .i64 0)]) (List.flatten (zC a.length [.string zF,.slice none 0 0,.int .i64 0])) ((RW.rep a.length [.string zF,.slice none 0 0,.int .i64 0]).cong (by simp) (by simp) rfl) _ rfl _ ?_
 intro Rq Uq Hq3
 cases hF
 repeat first|refine cg ?_|simp -dsimp[RW.len Hq3,RW.closed Hq3]
 exact⟨_,by decide,(.cell (.ownP 1 _ 3 rfl (by simp) (.blk 2 rfl .nil) (by simp[Hq3.2.2]) (by simp[Hq3.1]) (by simp) (by simp) .nil) .nil:CT _ _ _ _)⟩
theorem C.laws_toData__f (a:zP)(r:zP)(hF:yE a=some r):FCall zQ B 28 [.agg [.lit (.string a.name),am zN a.ctors]] (.agg [.lit (.string r.name),am zN r.ctors]):=by
 unfold yE at hF
 refine FCall.enterG func28 (by kernel_rfl) rfl ntmps28 (by simp) (yR .nil) ?_
 refine kz ?_
 have hF:=ob hF;obtain⟨v,e1,hF⟩:=hF
 refine((C.laws_toCtorS__f B hB1 hB2 a.ctors v e1)).go1 (by simp -dsimp) (by simp) (fun h o_h=> ?_)
 cases hF
 repeat first|refine cg ?_|simp -dsimp[o_h]
 exact⟨_,by decide,(.agg (.lit _ (.pk 4 rfl .nil)) .nil:CT _ _ _ _)⟩
theorem CC.laws_toDataS__f_l1 (a:List zP):(∀(out:List zP) (i:Nat) (o:List zP),yD a out i=some o->∀(R:List (List AV)),∀(U:List Value),RW 2 (zA (α:=zP) out) R U->∀(c:Code),ZP [1,1,0,1,0,0] (ZG Tryz.f8)=some c->∀(Q:Exit->ASt->Prop),(∀(Rq:List (List AV)) (Uq:List Value),RW 2 (zA (α:=zP) o) Rq Uq->Q (.exit 0) ⟨[(3,.own 1 (zA (α:=zP) o))],[.pack [] [],.elems 2 Rq,.pack (List.flatten (zB zR o)) Uq]⟩)->ALoopU zQ B 0 23 (hold c .mk) ⟨[(0,am zR a),(3,.own 1 (zA (α:=zP) out)),(4,li (i:Int))],[.pack [] [],.elems 2 R,.pack (List.flatten (zB zR out)) U]⟩ (hold Q .mk)):=by
 refine F.f25.partial_correctness a
  _
  ?_
 ·intro _f_laws_toDataS__f_l1 ih_laws_toDataS__f_l1 out i o hF
  intro R U H2 c hc Q hq
  obtain rfl:c=_:=ZAi hc rfl
  refine kN fun hk hs=> ?_
  have b0:=hk 0
  simp -dsimp at b0
  have d1:=hs 1 _ rfl
  simp -dsimp[yK]at d1
  clear hk hs
  refine eN ?_
  repeat first|refine cg ?_|simp -dsimp[RW.len H2,RW.closed H2]
  revert hF;refine aS ?_ ?_<;>intro h4 q5 hF
  ·have z6:((i:Int)<(a.length:Int)):=auz
   have hF:=ob hF;obtain⟨x,e7,hF⟩:=hF
   have le7:=ZB e7
   repeat first|refine cg ?_|simp -dsimp[RW.len H2,RW.closed H2,h4,z6,↓e7]
   have hF:=ob hF;obtain⟨v,e8,hF⟩:=hF
   refine((C.laws_toData__f B hB1 hB2 x v e8)).go1 (by simp -dsimp[RW.len H2,RW.closed H2,h4,z6,↓e7]) (by simp) (fun h o_h=> ?_)
   have hF:=ob hF;obtain⟨x9,e10,hF⟩:=hF
   have le10:=ZB e10
   obtain⟨row11,hrow11,lrow11⟩:=RW.row H2 le10
   have w12:i64.wrap ((i:Int)+1)=(i:Int)+1:=ZE (by omega) (by omega)
   repeat first|refine cg ?_|simp -dsimp[RW.len H2,RW.closed H2,h4,z6,↓e7,o_h,↓e10,hrow11,lrow11,w12]
   refine aG ⟨[(0,.arr (zB zR a)),(3,.own 1 (zA (α:=zP) (out.set i v))),(4,.lit (.int .i64 ((i+1):Int)))],[.pack [] [],.elems 2 (R.set i [.lit (.string v.name),.lit h]),.pack (List.flatten (zB zR (out.set i v))) (ZH0 2 i U [.string v.name,h])]⟩ (by refine yQ (yS (c:=zR) (y:=v) 2 [3] (by exact rfl) e10 (by simp) H2 (by simp) (.lit (.string v.name) (.pk 3 (by exact rfl) .nil)) (by simp) (by decide)) ?_;exact(gT (by simp) (by simp -dsimp[RW.len H2,RW.closed H2,h4,z6,↓e7,o_h,↓e10,hrow11,lrow11,w12]))) ?_
   exact(ih_laws_toDataS__f_l1 (out.set i v) (i+1) o hF) (R.set i [.lit (.string v.name),.lit h]) (ZH0 2 i U [.string v.name,h]) ((RW.set H2 le10 [.string v.name,h] rfl).cong (by simp) (by simp) rfl) _ rfl _ hq
  ·have z6:¬((i:Int)<(a.length:Int)):=auz
   cases hF
   repeat first|refine cg ?_|simp -dsimp[RW.len H2,RW.closed H2,h4,q5,z6]
   refine lG ⟨[(3,.own 1 (zA (α:=zP) out))],[.pack [] [],.elems 2 R,.pack (List.flatten (zB zR out)) U]⟩ (gT (by simp) (by simp -dsimp[RW.len H2,RW.closed H2,h4,q5,z6])) ?_
   exact hq R U H2
theorem C.laws_toDataS__f (a:List zP)(r:List zP)(hF:yC a=some r):FCall zQ B 8 [am zR a] (am zR r):=by
 unfold yC at hF
 refine FCall.enterG func8 (by kernel_rfl) rfl ntmps8 (by simp) (yR .nil) ?_
 have hF:=oc hF;obtain⟨c1,hF⟩:=hF
 repeat first|refine cg ?_|simp -dsimp
 have hF:=ob hF;obtain⟨o',ho13,hF⟩:=hF
 refine zL ⟨[(0,.arr (zB zR a)),(3,.own 1 (zA (α:=zP) (zC a.length zS))),(4,.lit (.int .i64 0))],[.pack [] [],.elems 2 (zC a.length [.lit (.string zF),.lit (.slice none 0 0)]),.pack (List.flatten (zB zR (zC a.length zS))) (List.flatten (zC a.length [.string zF,.slice none 0 0]))]⟩ (by refine yQ (yR (ZC.rep (.lit (.string zF) (.emp none .nil)) a.length)) ?_;exact(gT (by simp) (by simp -dsimp))) ?_
 refine((CC.laws_toDataS__f_l1 B hB1 hB2 a) (zC a.length zS) 0 o' ho13) (zC a.length [.lit (.string zF),.lit (.slice none 0 0)]) (List.flatten (zC a.length [.string zF,.slice none 0 0])) ((RW.rep a.length [.string zF,.slice none 0 0]).cong (by simp) (by simp) rfl) _ rfl _ ?_
 intro Rq Uq Hq3
 cases hF
 repeat first|refine cg ?_|simp -dsimp[RW.len Hq3,RW.closed Hq3]
 exact⟨_,by decide,(.cell (.ownP 1 _ 2 rfl (by simp) (.blk 2 rfl .nil) (by simp[Hq3.2.2]) (by simp[Hq3.1]) (by simp) (by simp) .nil) .nil:CT _ _ _ _)⟩
theorem CC.laws_toPattern__f  :(∀(a:Pattern) (r:Pattern),yB a=some r->FCall zQ B 56 [.agg [li a.op,li a.ctor,li a.n,li a.m,li a.var,am zT a.kids]] (.agg [li r.op,li r.ctor,li r.n,li r.m,li r.var,am zT r.kids]))/\
  (∀(a:List Pattern) (r:List Pattern),F.f28 a=some r->FCall zQ B 86 [am zT a] (am zT r))/\
  (∀(a:List Pattern) (out:List Pattern) (i:Nat) (o:List Pattern),F.f29 a out i=some o->∀(R:List (List AV)),∀(U:List Value),RW 6 (zA (α:=Pattern) out) R U->∀(c:Code),ZP [1,1,0,1,0,0] (ZG Tryz.f86)=some c->∀(Q:Exit->ASt->Prop),(∀(Rq:List (List AV)) (Uq:List Value),RW 6 (zA (α:=Pattern) o) Rq Uq->Q (.exit 0) ⟨[(3,.own 1 (zA (α:=Pattern) o))],[.pack [] [],.elems 6 Rq,.pack (List.flatten (zB zT o)) Uq]⟩)->ALoopU zQ B 0 23 (hold c .mk) ⟨[(0,am zT a),(3,.own 1 (zA (α:=Pattern) out)),(4,li (i:Int))],[.pack [] [],.elems 6 R,.pack (List.flatten (zB zT out)) U]⟩ (hold Q .mk)):=by
 refine F.f27.mutual_partial_correctness 
  _ _ _
  ?_ ?_ ?_
 ·intro _f_laws_toPatternS__f ih_laws_toPatternS__f a r hF
  refine FCall.enterG func56 (by kernel_rfl) rfl ntmps56 (by simp) (yR .nil) ?_
  repeat first|refine cg ?_|simp -dsimp
  have hF:=ob hF;obtain⟨v,e1,hF⟩:=hF
  refine((ih_laws_toPatternS__f a.kids v e1)).go1 (by simp -dsimp) (by simp) (fun h o_h=> ?_)
  cases hF
  repeat first|refine cg ?_|simp -dsimp[o_h]
  exact⟨_,by decide,(.agg (.lit _ (.lit _ (.lit _ (.lit _ (.lit _ (.pk 4 rfl .nil)))))) .nil:CT _ _ _ _)⟩
 ·intro _f_laws_toPatternS__f_l1 ih_laws_toPatternS__f_l1 a r hF
  refine FCall.enterG func86 (by kernel_rfl) rfl ntmps86 (by simp) (yR .nil) ?_
  have hF:=oc hF;obtain⟨c1,hF⟩:=hF
  repeat first|refine cg ?_|simp -dsimp
  have hF:=ob hF;obtain⟨o',ho13,hF⟩:=hF
  refine zL ⟨[(0,.arr (zB zT a)),(3,.own 1 (zA (α:=Pattern) (zC a.length zU))),(4,.lit (.int .i64 0))],[.pack [] [],.elems 6 (zC a.length [.lit (.int .i64 0),.lit (.int .i64 0),.lit (.int .i64 0),.lit (.int .i64 0),.lit (.int .i64 0),.lit (.slice none 0 0)]),.pack (List.flatten (zB zT (zC a.length zU))) (List.flatten (zC a.length [.int .i64 0,.int .i64 0,.int .i64 0,.int .i64 0,.int .i64 0,.slice none 0 0]))]⟩ (by refine yQ (yR (ZC.rep (.lit (.int .i64 0) (.lit (.int .i64 0) (.lit (.int .i64 0) (.lit (.int .i64 0) (.lit (.int .i64 0) (.emp none .nil)))))) a.length)) ?_;exact(gT (by simp) (by simp -dsimp))) ?_
  refine(ih_laws_toPatternS__f_l1 a (zC a.length zU) 0 o' ho13) (zC a.length [.lit (.int .i64 0),.lit (.int .i64 0),.lit (.int .i64 0),.lit (.int .i64 0),.lit (.int .i64 0),.lit (.slice none 0 0)]) (List.flatten (zC a.length [.int .i64 0,.int .i64 0,.int .i64 0,.int .i64 0,.int .i64 0,.slice none 0 0])) ((RW.rep a.length [.int .i64 0,.int .i64 0,.int .i64 0,.int .i64 0,.int .i64 0,.slice none 0 0]).cong (by simp) (by simp) rfl) _ rfl _ ?_
  intro Rq Uq Hq3
  cases hF
  repeat first|refine cg ?_|simp -dsimp[RW.len Hq3,RW.closed Hq3]
  exact⟨_,by decide,(.cell (.ownP 1 _ 6 rfl (by simp) (.blk 2 rfl .nil) (by simp[Hq3.2.2]) (by simp[Hq3.1]) (by simp) (by simp) .nil) .nil:CT _ _ _ _)⟩
 ·intro _f_laws_toPattern__f _f_laws_toPatternS__f_l1 ih_laws_toPattern__f ih_laws_toPatternS__f_l1 a out i o hF
  intro R U H2 c hc Q hq
  obtain rfl:c=_:=ZAi hc rfl
  refine kN fun hk hs=> ?_
  have b0:=hk 0
  simp -dsimp at b0
  have d1:=hs 1 _ rfl
  simp -dsimp[yK]at d1
  clear hk hs
  refine eN ?_
  repeat first|refine cg ?_|simp -dsimp[RW.len H2,RW.closed H2]
  revert hF;refine aS ?_ ?_<;>intro h4 q5 hF
  ·have z6:((i:Int)<(a.length:Int)):=auz
   have hF:=ob hF;obtain⟨x,e7,hF⟩:=hF
   have le7:=ZB e7
   repeat first|refine cg ?_|simp -dsimp[RW.len H2,RW.closed H2,h4,z6,↓e7]
   have hF:=ob hF;obtain⟨v,e8,hF⟩:=hF
   refine((ih_laws_toPattern__f x v e8)).go1 (by simp -dsimp[RW.len H2,RW.closed H2,h4,z6,↓e7]) (by simp) (fun h o_h=> ?_)
   have hF:=ob hF;obtain⟨x9,e10,hF⟩:=hF
   have le10:=ZB e10
   obtain⟨row11,hrow11,lrow11⟩:=RW.row H2 le10
   have w12:i64.wrap ((i:Int)+1)=(i:Int)+1:=ZE (by omega) (by omega)
   repeat first|refine cg ?_|simp -dsimp[RW.len H2,RW.closed H2,h4,z6,↓e7,o_h,↓e10,hrow11,lrow11,w12]
   refine aG ⟨[(0,.arr (zB zT a)),(3,.own 1 (zA (α:=Pattern) (out.set i v))),(4,.lit (.int .i64 ((i+1):Int)))],[.pack [] [],.elems 6 (R.set i [.lit (.int .i64 v.op),.lit (.int .i64 v.ctor),.lit (.int .i64 v.n),.lit (.int .i64 v.m),.lit (.int .i64 v.var),.lit h]),.pack (List.flatten (zB zT (out.set i v))) (ZH0 6 i U [.int .i64 v.op,.int .i64 v.ctor,.int .i64 v.n,.int .i64 v.m,.int .i64 v.var,h])]⟩ (by refine yQ (yS (c:=zT) (y:=v) 2 [3] (by exact rfl) e10 (by simp) H2 (by simp) (.lit (.int .i64 v.op) (.lit (.int .i64 v.ctor) (.lit (.int .i64 v.n) (.lit (.int .i64 v.m) (.lit (.int .i64 v.var) (.pk 3 (by exact rfl) .nil)))))) (by simp) (by decide)) ?_;exact(gT (by simp) (by simp -dsimp[RW.len H2,RW.closed H2,h4,z6,↓e7,o_h,↓e10,hrow11,lrow11,w12]))) ?_
   exact(ih_laws_toPatternS__f_l1 a (out.set i v) (i+1) o hF) (R.set i [.lit (.int .i64 v.op),.lit (.int .i64 v.ctor),.lit (.int .i64 v.n),.lit (.int .i64 v.m),.lit (.int .i64 v.var),.lit h]) (ZH0 6 i U [.int .i64 v.op,.int .i64 v.ctor,.int .i64 v.n,.int .i64 v.m,.int .i64 v.var,h]) ((RW.set H2 le10 [.int .i64 v.op,.int .i64 v.ctor,.int .i64 v.n,.int .i64 v.m,.int .i64 v.var,h] rfl).cong (by simp) (by simp) rfl) _ rfl _ hq
  ·have z6:¬((i:Int)<(a.length:Int)):=auz
   cases hF
   repeat first|refine cg ?_|simp -dsimp[RW.len H2,RW.closed H2,h4,q5,z6]
   refine lG ⟨[(3,.own 1 (zA (α:=Pattern) out))],[.pack [] [],.elems 6 R,.pack (List.flatten (zB zT out)) U]⟩ (gT (by simp) (by simp -dsimp[RW.len H2,RW.closed H2,h4,q5,z6])) ?_
   exact hq R U H2
theorem C.laws_toClause__f (a:Clause)(r:Clause)(hF:yA a=some r):FCall zQ B 29 [.agg [li a.pat.op,li a.pat.ctor,li a.pat.n,li a.pat.m,li a.pat.var,am zT a.pat.kids,li a.guard.op,li a.guard.var,li a.guard.n]] (.agg [li r.pat.op,li r.pat.ctor,li r.pat.n,li r.pat.m,li r.pat.var,am zT r.pat.kids,li r.guard.op,li r.guard.var,li r.guard.n]):=by
 unfold yA at hF
 refine FCall.enterG func29 (by kernel_rfl) rfl ntmps29 (by simp) (yR .nil) ?_
 repeat first|refine cg ?_|simp -dsimp
 have hF:=ob hF;obtain⟨v,e1,hF⟩:=hF
 refine(((CC.laws_toPattern__f B hB1 hB2).1 a.pat v e1)).go1 (by simp -dsimp) (by simp) (fun h o_h=> ?_)
 repeat first|refine cg ?_|simp -dsimp[o_h]
 have hF:=ob hF;obtain⟨v2,e3,hF⟩:=hF
 refine((C.f30 B hB1 hB2 a.guard v2 e3)).goI ?_
 cases hF
 repeat first|refine cg ?_|simp -dsimp
 exact⟨_,by decide,(.agg (.lit _ (.lit _ (.lit _ (.lit _ (.lit _ (.pk 4 rfl (.lit _ (.lit _ (.lit _ .nil))))))))) .nil:CT _ _ _ _)⟩
theorem CC.laws_toClauseS__f_l1 (a:List Clause):(∀(out:List Clause) (i:Nat) (o:List Clause),zZ a out i=some o->∀(R:List (List AV)),∀(U:List Value),RW 9 (zA (α:=Clause) out) R U->∀(c:Code),ZP [1,1,0,1,0,0] (ZG Tryz.f10)=some c->∀(Q:Exit->ASt->Prop),(∀(Rq:List (List AV)) (Uq:List Value),RW 9 (zA (α:=Clause) o) Rq Uq->Q (.exit 0) ⟨[(3,.own 1 (zA (α:=Clause) o))],[.pack [] [],.elems 9 Rq,.pack (List.flatten (zB zV o)) Uq]⟩)->ALoopU zQ B 0 23 (hold c .mk) ⟨[(0,am zV a),(3,.own 1 (zA (α:=Clause) out)),(4,li (i:Int))],[.pack [] [],.elems 9 R,.pack (List.flatten (zB zV out)) U]⟩ (hold Q .mk)):=by
 refine F.f32.partial_correctness a
  _
  ?_
 ·intro _f_laws_toClauseS__f_l1 ih_laws_toClauseS__f_l1 out i o hF
  intro R U H2 c hc Q hq
  obtain rfl:c=_:=ZAi hc rfl
  refine kN fun hk hs=> ?_
  have b0:=hk 0
  simp -dsimp at b0
  have d1:=hs 1 _ rfl
  simp -dsimp[yK]at d1
  clear hk hs
  refine eN ?_
  repeat first|refine cg ?_|simp -dsimp[RW.len H2,RW.closed H2]
  revert hF;refine aS ?_ ?_<;>intro h4 q5 hF
  ·have z6:((i:Int)<(a.length:Int)):=auz
   have hF:=ob hF;obtain⟨x,e7,hF⟩:=hF
   have le7:=ZB e7
   repeat first|refine cg ?_|simp -dsimp[RW.len H2,RW.closed H2,h4,z6,↓e7]
   have hF:=ob hF;obtain⟨v,e8,hF⟩:=hF
   refine((C.laws_toClause__f B hB1 hB2 x v e8)).go1 (by simp -dsimp[RW.len H2,RW.closed H2,h4,z6,↓e7]) (by simp) (fun h o_h=> ?_)
   have hF:=ob hF;obtain⟨x9,e10,hF⟩:=hF
   have le10:=ZB e10
   obtain⟨row11,hrow11,lrow11⟩:=RW.row H2 le10
   have w12:i64.wrap ((i:Int)+1)=(i:Int)+1:=ZE (by omega) (by omega)
   repeat first|refine cg ?_|simp -dsimp[RW.len H2,RW.closed H2,h4,z6,↓e7,o_h,↓e10,hrow11,lrow11,w12]
   refine aG ⟨[(0,.arr (zB zV a)),(3,.own 1 (zA (α:=Clause) (out.set i v))),(4,.lit (.int .i64 ((i+1):Int)))],[.pack [] [],.elems 9 (R.set i [.lit (.int .i64 v.pat.op),.lit (.int .i64 v.pat.ctor),.lit (.int .i64 v.pat.n),.lit (.int .i64 v.pat.m),.lit (.int .i64 v.pat.var),.lit h,.lit (.int .i64 v.guard.op),.lit (.int .i64 v.guard.var),.lit (.int .i64 v.guard.n)]),.pack (List.flatten (zB zV (out.set i v))) (ZH0 9 i U [.int .i64 v.pat.op,.int .i64 v.pat.ctor,.int .i64 v.pat.n,.int .i64 v.pat.m,.int .i64 v.pat.var,h,.int .i64 v.guard.op,.int .i64 v.guard.var,.int .i64 v.guard.n])]⟩ (by refine yQ (yS (c:=zV) (y:=v) 2 [3] (by exact rfl) e10 (by simp) H2 (by simp) (.lit (.int .i64 v.pat.op) (.lit (.int .i64 v.pat.ctor) (.lit (.int .i64 v.pat.n) (.lit (.int .i64 v.pat.m) (.lit (.int .i64 v.pat.var) (.pk 3 (by exact rfl) (.lit (.int .i64 v.guard.op) (.lit (.int .i64 v.guard.var) (.lit (.int .i64 v.guard.n) .nil))))))))) (by simp) (by decide)) ?_;exact(gT (by simp) (by simp -dsimp[RW.len H2,RW.closed H2,h4,z6,↓e7,o_h,↓e10,hrow11,lrow11,w12]))) ?_
   exact(ih_laws_toClauseS__f_l1 (out.set i v) (i+1) o hF) (R.set i [.lit (.int .i64 v.pat.op),.lit (.int .i64 v.pat.ctor),.lit (.int .i64 v.pat.n),.lit (.int .i64 v.pat.m),.lit (.int .i64 v.pat.var),.lit h,.lit (.int .i64 v.guard.op),.lit (.int .i64 v.guard.var),.lit (.int .i64 v.guard.n)]) (ZH0 9 i U [.int .i64 v.pat.op,.int .i64 v.pat.ctor,.int .i64 v.pat.n,.int .i64 v.pat.m,.int .i64 v.pat.var,h,.int .i64 v.guard.op,.int .i64 v.guard.var,.int .i64 v.guard.n]) ((RW.set H2 le10 [.int .i64 v.pat.op,.int .i64 v.pat.ctor,.int .i64 v.pat.n,.int .i64 v.pat.m,.int .i64 v.pat.var,h,.int .i64 v.guard.op,.int .i64 v.guard.var,.int .i64 v.guard.n] rfl).cong (by simp) (by simp) rfl) _ rfl _ hq
  ·have z6:¬((i:Int)<(a.length:Int)):=auz
   cases hF
   repeat first|refine cg ?_|simp -dsimp[RW.len H2,RW.closed H2,h4,q5,z6]
   refine lG ⟨[(3,.own 1 (zA (α:=Clause) out))],[.pack [] [],.elems 9 R,.pack (List.flatten (zB zV out)) U]⟩ (gT (by simp) (by simp -dsimp[RW.len H2,RW.closed H2,h4,q5,z6])) ?_
   exact hq R U H2
theorem C.laws_toClauseS__f (a:List Clause)(r:List Clause)(hF:zY a=some r):FCall zQ B 10 [am zV a] (am zV r):=by
 unfold zY at hF
 refine FCall.enterG func10 (by kernel_rfl) rfl ntmps10 (by simp) (yR .nil) ?_
 have hF:=oc hF;obtain⟨c1,hF⟩:=hF
 repeat first|refine cg ?_|simp -dsimp
 have hF:=ob hF;obtain⟨o',ho13,hF⟩:=hF
 refine zL ⟨[(0,.arr (zB zV a)),(3,.own 1 (zA (α:=Clause) (zC a.length zW))),(4,.lit (.int .i64 0))],[.pack [] [],.elems 9 (zC a.length [.lit (.int .i64 0),.lit (.int .i64 0),.lit (.int .i64 0),.lit (.int .i64 0),.lit (.int .i64 0),.lit (.slice none 0 0),.lit (.int .i64 0),.lit (.int .i64 0),.lit (.int .i64 0)]),.pack (List.flatten (zB zV (zC a.length zW))) (List.flatten (zC a.length [.int .i64 0,.int .i64 0,.int .i64 0,.int .i64 0,.int .i64 0,.slice none 0 0,.int .i64 0,.int .i64 0,.int .i64 0]))]⟩ (by refine yQ (yR (ZC.rep (.lit (.int .i64 0) (.lit (.int .i64 0) (.lit (.int .i64 0) (.lit (.int .i64 0) (.lit (.int .i64 0) (.emp none (.lit (.int .i64 0) (.lit (.int .i64 0) (.lit (.int .i64 0) .nil))))))))) a.length)) ?_;exact(gT (by simp) (by simp -dsimp))) ?_
 refine((CC.laws_toClauseS__f_l1 B hB1 hB2 a) (zC a.length zW) 0 o' ho13) (zC a.length [.lit (.int .i64 0),.lit (.int .i64 0),.lit (.int .i64 0),.lit (.int .i64 0),.lit (.int .i64 0),.lit (.slice none 0 0),.lit (.int .i64 0),.lit (.int .i64 0),.lit (.int .i64 0)]) (List.flatten (zC a.length [.int .i64 0,.int .i64 0,.int .i64 0,.int .i64 0,.int .i64 0,.slice none 0 0,.int .i64 0,.int .i64 0,.int .i64 0])) ((RW.rep a.length [.int .i64 0,.int .i64 0,.int .i64 0,.int .i64 0,.int .i64 0,.slice none 0 0,.int .i64 0,.int .i64 0,.int .i64 0]).cong (by simp) (by simp) rfl) _ rfl _ ?_
 intro Rq Uq Hq3
 cases hF
 repeat first|refine cg ?_|simp -dsimp[RW.len Hq3,RW.closed Hq3]
 exact⟨_,by decide,(.cell (.ownP 1 _ 9 rfl (by simp) (.blk 2 rfl .nil) (by simp[Hq3.2.2]) (by simp[Hq3.1]) (by simp) (by simp) .nil) .nil:CT _ _ _ _)⟩
theorem CC.laws_toValue__f  :(∀(a:Vl.Value) (r:Vl.Value),zX a=some r->FCall zQ B 11 [.agg [li a.ctor,li a.n,am Vl.Value.c a.kids]] (.agg [li r.ctor,li r.n,am Vl.Value.c r.kids]))/\
  (∀(a:List Vl.Value) (r:List Vl.Value),F.f35 a=some r->FCall zQ B 30 [am Vl.Value.c a] (am Vl.Value.c r))/\
  (∀(a:List Vl.Value) (out:List Vl.Value) (i:Nat) (o:List Vl.Value),F.f36 a out i=some o->∀(R:List (List AV)),∀(U:List Value),RW 3 (zA (α:=Vl.Value) out) R U->∀(c:Code),ZP [1,1,0,1,0,0] (ZG Tryz.f30)=some c->∀(Q:Exit->ASt->Prop),(∀(Rq:List (List AV)) (Uq:List Value),RW 3 (zA (α:=Vl.Value) o) Rq Uq->Q (.exit 0) ⟨[(3,.own 1 (zA (α:=Vl.Value) o))],[.pack [] [],.elems 3 Rq,.pack (List.flatten (zB Vl.Value.c o)) Uq]⟩)->ALoopU zQ B 0 23 (hold c .mk) ⟨[(0,am Vl.Value.c a),(3,.own 1 (zA (α:=Vl.Value) out)),(4,li (i:Int))],[.pack [] [],.elems 3 R,.pack (List.flatten (zB Vl.Value.c out)) U]⟩ (hold Q .mk)):=by
 refine F.f34.mutual_partial_correctness 
  _ _ _
  ?_ ?_ ?_
 ·intro _f_laws_toValueS__f ih_laws_toValueS__f a r hF
  refine FCall.enterG func11 (by kernel_rfl) rfl ntmps11 (by simp) (yR .nil) ?_
  repeat first|refine cg ?_|simp -dsimp
  have hF:=ob hF;obtain⟨v,e1,hF⟩:=hF
  refine((ih_laws_toValueS__f a.kids v e1)).go1 (by simp -dsimp) (by simp) (fun h o_h=> ?_)
  cases hF
  repeat first|refine cg ?_|simp -dsimp[o_h]
  exact⟨_,by decide,(.agg (.lit _ (.lit _ (.pk 4 rfl .nil))) .nil:CT _ _ _ _)⟩
 ·intro _f_laws_toValueS__f_l1 ih_laws_toValueS__f_l1 a r hF
  refine FCall.enterG func30 (by kernel_rfl) rfl ntmps30 (by simp) (yR .nil) ?_
  have hF:=oc hF;obtain⟨c1,hF⟩:=hF
  repeat first|refine cg ?_|simp -dsimp
  have hF:=ob hF;obtain⟨o',ho13,hF⟩:=hF
  refine zL ⟨[(0,.arr (zB Vl.Value.c a)),(3,.own 1 (zA (α:=Vl.Value) (zC a.length Vl.Value.z))),(4,.lit (.int .i64 0))],[.pack [] [],.elems 3 (zC a.length [.lit (.int .i64 0),.lit (.int .i64 0),.lit (.slice none 0 0)]),.pack (List.flatten (zB Vl.Value.c (zC a.length Vl.Value.z))) (List.flatten (zC a.length [.int .i64 0,.int .i64 0,.slice none 0 0]))]⟩ (by refine yQ (yR (ZC.rep (.lit (.int .i64 0) (.lit (.int .i64 0) (.emp none .nil))) a.length)) ?_;exact(gT (by simp) (by simp -dsimp))) ?_
  refine(ih_laws_toValueS__f_l1 a (zC a.length Vl.Value.z) 0 o' ho13) (zC a.length [.lit (.int .i64 0),.lit (.int .i64 0),.lit (.slice none 0 0)]) (List.flatten (zC a.length [.int .i64 0,.int .i64 0,.slice none 0 0])) ((RW.rep a.length [.int .i64 0,.int .i64 0,.slice none 0 0]).cong (by simp) (by simp) rfl) _ rfl _ ?_
  intro Rq Uq Hq3
  cases hF
  repeat first|refine cg ?_|simp -dsimp[RW.len Hq3,RW.closed Hq3]
  exact⟨_,by decide,(.cell (.ownP 1 _ 3 rfl (by simp) (.blk 2 rfl .nil) (by simp[Hq3.2.2]) (by simp[Hq3.1]) (by simp) (by simp) .nil) .nil:CT _ _ _ _)⟩
 ·intro _f_laws_toValue__f _f_laws_toValueS__f_l1 ih_laws_toValue__f ih_laws_toValueS__f_l1 a out i o hF
  intro R U H2 c hc Q hq
  obtain rfl:c=_:=ZAi hc rfl
  refine kN fun hk hs=> ?_
  have b0:=hk 0
  simp -dsimp at b0
  have d1:=hs 1 _ rfl
  simp -dsimp[yK]at d1
  clear hk hs
  refine eN ?_
  repeat first|refine cg ?_|simp -dsimp[RW.len H2,RW.closed H2]
  revert hF;refine aS ?_ ?_<;>intro h4 q5 hF
  ·have z6:((i:Int)<(a.length:Int)):=auz
   have hF:=ob hF;obtain⟨x,e7,hF⟩:=hF
   have le7:=ZB e7
   repeat first|refine cg ?_|simp -dsimp[RW.len H2,RW.closed H2,h4,z6,↓e7]
   have hF:=ob hF;obtain⟨v,e8,hF⟩:=hF
   refine((ih_laws_toValue__f x v e8)).go1 (by simp -dsimp[RW.len H2,RW.closed H2,h4,z6,↓e7]) (by simp) (fun h o_h=> ?_)
   have hF:=ob hF;obtain⟨x9,e10,hF⟩:=hF
   have le10:=ZB e10
   obtain⟨row11,hrow11,lrow11⟩:=RW.row H2 le10
   have w12:i64.wrap ((i:Int)+1)=(i:Int)+1:=ZE (by omega) (by omega)
   repeat first|refine cg ?_|simp -dsimp[RW.len H2,RW.closed H2,h4,z6,↓e7,o_h,↓e10,hrow11,lrow11,w12]
   refine aG ⟨[(0,.arr (zB Vl.Value.c a)),(3,.own 1 (zA (α:=Vl.Value) (out.set i v))),(4,.lit (.int .i64 ((i+1):Int)))],[.pack [] [],.elems 3 (R.set i [.lit (.int .i64 v.ctor),.lit (.int .i64 v.n),.lit h]),.pack (List.flatten (zB Vl.Value.c (out.set i v))) (ZH0 3 i U [.int .i64 v.ctor,.int .i64 v.n,h])]⟩ (by refine yQ (yS (c:=Vl.Value.c) (y:=v) 2 [3] (by exact rfl) e10 (by simp) H2 (by simp) (.lit (.int .i64 v.ctor) (.lit (.int .i64 v.n) (.pk 3 (by exact rfl) .nil))) (by simp) (by decide)) ?_;exact(gT (by simp) (by simp -dsimp[RW.len H2,RW.closed H2,h4,z6,↓e7,o_h,↓e10,hrow11,lrow11,w12]))) ?_
   exact(ih_laws_toValueS__f_l1 a (out.set i v) (i+1) o hF) (R.set i [.lit (.int .i64 v.ctor),.lit (.int .i64 v.n),.lit h]) (ZH0 3 i U [.int .i64 v.ctor,.int .i64 v.n,h]) ((RW.set H2 le10 [.int .i64 v.ctor,.int .i64 v.n,h] rfl).cong (by simp) (by simp) rfl) _ rfl _ hq
  ·have z6:¬((i:Int)<(a.length:Int)):=auz
   cases hF
   repeat first|refine cg ?_|simp -dsimp[RW.len H2,RW.closed H2,h4,q5,z6]
   refine lG ⟨[(3,.own 1 (zA (α:=Vl.Value) out))],[.pack [] [],.elems 3 R,.pack (List.flatten (zB Vl.Value.c out)) U]⟩ (gT (by simp) (by simp -dsimp[RW.len H2,RW.closed H2,h4,q5,z6])) ?_
   exact hq R U H2
theorem C.f126 (n:Int)(low:Int)(high:Int)(r:Bool)(hF:F.f126 n low high=some r):PureCall zQ B 97 [li n,li low,li high] (.lit (.bool r)):=by
 unfold F.f126 at hF
 refine zI func97 rfl ntmps97 ?_
 refine kz ?_
 revert hF;refine aS ?_ ?_<;>intro h1 q2 hF
 ·cases hF
  repeat first|refine cg ?_|simp -dsimp[h1]
 ·cases hF
  repeat first|refine cg ?_|simp -dsimp[q2]
theorem CC.f127 (s:ByteArray):(∀(i:Nat) (o:Lo Bool Unit),F.f127 s i=some o->∀(c:Code),ZP [1,1,0,1,0,0] (ZG Tryz.f157)=some c->∀(Q:Exit->ASt->Prop),o.post (fun r=>∀st,ZAD zQ Tryz.f157 (fun r' _=>r'.le (.lit (.bool r))) .ret st->Q .ret st) (fun s=>Q (.exit 0) ⟨[],[]⟩)->ALoopU zQ B 0 34 (hold c .mk) ⟨[(0,.lit (.string s)),(3,li (i:Int))],[]⟩ (hold Q .mk)):=by
 refine F.f127.partial_correctness s
  _
  ?_
 ·intro _f_f127 ih_f127 i o hF
  refine ZI rfl fun Q hq hk hs=> ?_
  clear hk hs
  refine eN ?_
  refine kz ?_
  revert hF;refine aS ?_ ?_<;>intro h11 q12 hF
  ·have z13:((i:Int)<(s.size:Int)):=auz
   repeat first|refine cg ?_|simp -dsimp[h11,z13]
   revert hF;refine aN ?_ ?_<;>intro h14 q15 hF
   ·have z16:¬(((byteAt s i:Nat):Int)<97):=auz
    repeat first|refine cg ?_|simp -dsimp[h11,z13,h14,q15,z16]
    revert hF;refine aS ?_ ?_<;>intro h17 q18 hF
    ·have z19:(122<((byteAt s i:Nat):Int)):=auz
     cases hF
     repeat first|refine cg ?_|simp -dsimp[h11,z13,h14,q15,z16,h17,z19]
     refine lG _ (gR _) (hq _ ?_)
     repeat first|refine cg ?_|simp -dsimp[h11,z13,h14,q15,z16,h17,z19]
    ·have z19:¬(122<((byteAt s i:Nat):Int)):=auz
     have hF:=oc hF;obtain⟨c20,hF⟩:=hF
     have w21:i64.wrap ((i:Int)+1)=(i:Int)+1:=ZE (by omega) (by omega)
     repeat first|refine cg ?_|simp -dsimp[h11,z13,h14,q15,z16,h17,q18,z19,w21]
     refine zG ((ih_f127 (i+1) o hF) _ rfl _ hq)
   ·have z16:(((byteAt s i:Nat):Int)<97):=auz
    cases hF
    repeat first|refine cg ?_|simp -dsimp[h11,z13,h14,q15,z16]
    refine lG _ (gR _) (hq _ ?_)
    repeat first|refine cg ?_|simp -dsimp[h11,z13,h14,q15,z16]
  ·have z13:¬((i:Int)<(s.size:Int)):=auz
   cases hF
   repeat first|refine cg ?_|simp -dsimp[h11,q12,z13]
   refine zH hq
theorem C.f128 (s:ByteArray)(r:Bool)(hF:F.f128 s=some r):PureCall zQ B 157 [.lit (.string s)] (.lit (.bool r)):=by
 unfold F.f128 at hF
 refine zI func157 rfl ntmps157 ?_
 refine kz ?_
 have hF:=ob hF;obtain⟨v,e1,hF⟩:=hF
 refine((C.f126 B hB1 hB2 (s.size:Int) 1 5 v e1)).goI ?_
 refine kz ?_
 revert hF;refine aS (fun h2 q3 hF=> ?_) (fun h2 q3 hF=> ?_)
 ·have hF:=oc hF;obtain⟨c4,hF⟩:=hF
  repeat first|refine cg ?_|simp -dsimp[h2]
  revert hF;refine aN ?_ ?_<;>intro h5 q6 hF
  ·have z7:¬(((byteAt s 0:Nat):Int)<65):=auz
   repeat first|refine cg ?_|simp -dsimp[h2,h5,q6,z7]
   revert hF;refine aS ?_ ?_<;>intro h8 q9 hF
   ·have z10:(90<((byteAt s 0:Nat):Int)):=auz
    cases hF
    repeat first|refine cg ?_|simp -dsimp[h2,h5,q6,z7,h8,z10]
   ·have z10:¬(90<((byteAt s 0:Nat):Int)):=auz
    repeat first|refine cg ?_|simp -dsimp[h2,h5,q6,z7,h8,q9,z10]
    have hF:=ob hF;obtain⟨o',ho22,hF⟩:=hF
    refine zK (((CC.f127 B hB1 hB2 s) 1 o' ho22) _ rfl _ ?_)
    rcases o' with r0|sx
    ·dsimp only at hF
     cases hF
     intro st h
     simpa using h
    ·dsimp only at hF
     cases hF
     repeat first|refine cg ?_|simp -dsimp
  ·have z7:(((byteAt s 0:Nat):Int)<65):=auz
   cases hF
   repeat first|refine cg ?_|simp -dsimp[h2,h5,q6,z7]
 ·cases hF
  repeat first|refine cg ?_|simp -dsimp[h2,q3]
theorem C.f129 (w:List zP)(t:Ty)(r:Bool)(hF:F.f129 w t=some r):PureCall zQ B 160 [am zR w,.agg [li t.data,li t.index]] (.lit (.bool r)):=by
 unfold F.f129 at hF
 refine zI func160 rfl ntmps160 ?_
 refine kz ?_
 revert hF;refine aN (fun h1 q2 hF=> ?_) (fun h1 q2 hF=> ?_)
 ·repeat first|refine cg ?_|simp -dsimp[h1,q2]
  have hF:=ob hF;obtain⟨v,e3,hF⟩:=hF
  refine((C.f126 B hB1 hB2 t.data 0 (i64.wrap ((w.length:Int) -1)) v e3)).goI ?_
  repeat first|refine cg ?_|simp -dsimp[h1,q2]
  revert hF;refine aS (fun h4 q5 hF=> ?_) (fun h4 q5 hF=> ?_)
  ·repeat first|refine cg ?_|simp -dsimp[h1,q2,h4]
   have hF:=ob hF;obtain⟨v6,e7,hF⟩:=hF
   refine((C.f126 B hB1 hB2 t.index (-1) 3 v6 e7)).goI ?_
   cases hF
   repeat first|refine cg ?_|simp -dsimp[h1,q2,h4]
  ·cases hF
   repeat first|refine cg ?_|simp -dsimp[h1,q2,h4,q5]
 ·cases hF
  repeat first|refine cg ?_|simp -dsimp[h1,q2]
theorem C.f130 (t:Ty)(a1:List zP)(r:Bool)(hF:F.f130 t a1=some r):PureCall zQ B 159 [.agg [li t.data,li t.index],.rptr [am zR a1] 0] (.lit (.bool r)):=by
 unfold F.f130 at hF
 refine zI func159 rfl ntmps159 ?_
 refine kz ?_
 have hF:=ob hF;obtain⟨v,e1,hF⟩:=hF
 refine((C.f129 B hB1 hB2 a1 t v e1)).goI ?_
 cases hF
 repeat first|refine cg ?_|simp -dsimp
theorem CC.f131 (s:List Ty)(k0:List zP):(∀(i:Nat) (o:Lo Int Unit),F.f131 s k0 i=some o->∀(c:Code),ZP [1,0,1,0,0] (ZG Tryz.f165)=some c->∀(Q:Exit->ASt->Prop),o.post (fun r=>∀st,ZAD zQ Tryz.f165 (fun r' _=>r'.le (li r)) .ret st->Q .ret st) (fun s=>Q (.exit 0) ⟨[],[]⟩)->ALoopU zQ B 0 19 (hold c .mk) ⟨[(0,am zM s),(1,.fn (.func 159) [] [.rptr [am zR k0] 0]),(7,li (s.length:Int)),(8,li (i:Int))],[]⟩ (hold Q .mk)):=by
 refine F.f131.partial_correctness s k0
  _
  ?_
 ·intro _f_f131 ih_f131 i o hF
  refine ZI rfl fun Q hq hk hs=> ?_
  have b0:=hk 0
  simp -dsimp at b0
  clear hk hs
  refine eN ?_
  refine kz ?_
  revert hF;refine aS ?_ ?_<;>intro h1 q2 hF
  ·have z3:((i:Int)<(s.length:Int)):=auz
   have hF:=ob hF;obtain⟨x,e4,hF⟩:=hF
   have le4:=ZB e4
   repeat first|refine cg ?_|simp -dsimp[h1,z3,↓e4]
   have hF:=ob hF;obtain⟨v,e5,hF⟩:=hF
   refine((C.f130 B hB1 hB2 x k0 v e5)).goI ?_
   refine kz ?_
   revert hF;refine aS (fun h6 q7 hF=> ?_) (fun h6 q7 hF=> ?_)
   ·cases hF
    repeat first|refine cg ?_|simp -dsimp[h6]
    refine lG _ (gR _) (hq _ ?_)
    repeat first|refine cg ?_|simp -dsimp
   ·have w8:i64.wrap ((i:Int)+1)=(i:Int)+1:=ZE (by omega) (by omega)
    repeat first|refine cg ?_|simp -dsimp[q7,w8]
    refine zG ((ih_f131 (i+1) o hF) _ rfl _ hq)
  ·have z3:¬((i:Int)<(s.length:Int)):=auz
   cases hF
   repeat first|refine cg ?_|simp -dsimp[h1,q2,z3]
   refine zH hq
theorem C.f132 (s:List Ty)(k0:List zP)(r:Int)(hF:F.f132 s k0=some r):PureCall zQ B 165 [am zM s,.fn (.func 159) [] [.rptr [am zR k0] 0]] (li r):=by
 unfold F.f132 at hF
 refine zI func165 rfl ntmps165 ?_
 refine kz ?_
 have hF:=ob hF;obtain⟨o',ho9,hF⟩:=hF
 refine zK (((CC.f131 B hB1 hB2 s k0) 0 o' ho9) _ rfl _ ?_)
 rcases o' with r0|sx
 ·dsimp only at hF
  cases hF
  intro st h
  simpa using h
 ·dsimp only at hF
  cases hF
  repeat first|refine cg ?_|simp -dsimp
theorem C.f133 (s:List Ty)(k0:List zP)(r:Bool)(hF:F.f133 s k0=some r):PureCall zQ B 158 [am zM s,.fn (.func 159) [] [.rptr [am zR k0] 0]] (.lit (.bool r)):=by
 unfold F.f133 at hF
 refine zI func158 rfl ntmps158 ?_
 refine kz ?_
 have hF:=ob hF;obtain⟨v,e1,hF⟩:=hF
 refine((C.f132 B hB1 hB2 s k0 v e1)).goI ?_
 cases hF
 repeat first|refine cg ?_|simp -dsimp
theorem C.f134 (w:List zP)(c':Ctor)(r:Bool)(hF:F.f134 w c'=some r):PureCall zQ B 143 [am zR w,.agg [.lit (.string c'.name),am zM c'.args,li c'.index]] (.lit (.bool r)):=by
 unfold F.f134 at hF
 refine zI func143 rfl ntmps143 ?_
 refine kz ?_
 have hF:=ob hF;obtain⟨v,e1,hF⟩:=hF
 refine((C.f128 B hB1 hB2 c'.name v e1)).goI ?_
 refine kz ?_
 revert hF;refine aS (fun h2 q3 hF=> ?_) (fun h2 q3 hF=> ?_)
 ·repeat first|refine cg ?_|simp -dsimp[h2]
  revert hF;refine aS ?_ ?_<;>intro h4 q5 hF
  ·have z6:((c'.args.length:Int)<=3):=auz
   repeat first|refine cg ?_|simp -dsimp[h2,h4,z6]
   have hF:=ob hF;obtain⟨v7,e8,hF⟩:=hF
   refine((C.f126 B hB1 hB2 c'.index 0 3 v7 e8)).goI ?_
   repeat first|refine cg ?_|simp -dsimp[h2,h4,z6]
   revert hF;refine aS (fun h9 q10 hF=> ?_) (fun h9 q10 hF=> ?_)
   ·repeat first|refine cg ?_|simp -dsimp[h2,h4,z6,h9]
    have hF:=ob hF;obtain⟨v11,e12,hF⟩:=hF
    refine((C.f133 B hB1 hB2 c'.args w v11 e12)).lend (by simp -dsimp[h2,h4,z6,h9]) (by simp -dsimp) ?_
    cases hF
    repeat first|refine cg ?_|simp -dsimp[h2,h4,z6,h9]
   ·cases hF
    repeat first|refine cg ?_|simp -dsimp[h2,h4,z6,h9,q10]
  ·have z6:¬((c'.args.length:Int)<=3):=auz
   cases hF
   repeat first|refine cg ?_|simp -dsimp[h2,h4,q5,z6]
 ·cases hF
  repeat first|refine cg ?_|simp -dsimp[h2,q3]
theorem CC.f135 (w:List zP)(met4:List ByteArray)(i:Nat)(x:zP):(∀(met26:List ByteArray) (i27:Nat) (o:Lo Bool (List ByteArray)),F.f135 w met4 i x met26 i27=some o->∀(b1 b2:Nat),¬b1=b2->∀(c:Code),ZP [1,1,1,1,0,1,0,0,1,1,0,0,1,1,1,1,0,0] (ZG Tryz.f116)=some c->∀(Q:Exit->ASt->Ms->Prop),o.post (fun r=>∀st,ZAD zQ Tryz.f116 (fun r' _=>r'=(.lit (.bool r))) .ret st->∀ms,Q .ret st ms) (fun s=>Q (.exit 2) ⟨[(0,am zR w),(3,.lit (.map (some b1))),(4,.lit (.map (some b2))),(14,am zR w),(15,li (w.length:Int)),(16,li (i:Int))],[]⟩ [(b1,s),(b2,ZCN met4 x.name)])->MLoop zQ B 79 (hold c .mk) ⟨[(0,am zR w),(3,.lit (.map (some b1))),(4,.lit (.map (some b2))),(14,am zR w),(15,li (w.length:Int)),(16,li (i:Int)),(58,am zN x.ctors),(59,li (x.ctors.length:Int)),(60,li (i27:Int))],[]⟩ [(b1,met26),(b2,ZCN met4 x.name)] (hold Q .mk)):=by
 refine F.f135.partial_correctness w met4 i x
  _
  ?_
 ·intro _f_f135 ih_f135 met26 i27 o hF
  intro b1 b2 hb2 c hc Q hq
  obtain rfl:c=_:=ZAi hc rfl
  refine MLoop.know fun hk hs=> ?_
  have b0:=hk 0
  simp -dsimp at b0
  have b14:=hk 14
  simp -dsimp at b14
  have b58:=hk 58
  simp -dsimp at b58
  clear hk hs
  refine MLoop.enter ?_
  repeat first|refine cg ?_|simp -dsimp[hb2]
  revert hF;refine aS ?_ ?_<;>intro h28 q29 hF
  ·have z30:((i27:Int)<(x.ctors.length:Int)):=auz
   have hF:=ob hF;obtain⟨x31,e32,hF⟩:=hF
   have le32:=ZB e32
   repeat first|refine cg ?_|simp -dsimp[h28,z30,↓e32]
   have hF:=ob hF;obtain⟨v33,e34,hF⟩:=hF
   refine((C.f134 B hB1 hB2 w x31 v33 e34)).goI ?_
   refine kz ?_
   revert hF;refine aS (fun h35 q36 hF=> ?_) (fun h35 q36 hF=> ?_)
   ·repeat first|refine cg ?_|simp -dsimp[h35]
    revert hF;refine aS (fun h37 q38 hF=> ?_) (fun h37 q38 hF=> ?_)
    ·cases hF
     repeat first|refine cg ?_|simp -dsimp[h37]
     refine LeaveM.go _ (gR _) (hq _ ?_ _)
     repeat first|refine cg ?_|simp -dsimp
    ·have w39:i64.wrap ((i27:Int)+1)=(i27:Int)+1:=ZE (by omega) (by omega)
     repeat first|refine cg ?_|simp -dsimp[q38,w39]
     refine AgainM.go ⟨[(0,.arr (zB zR w)),(3,.lit (.map (some b1))),(4,.lit (.map (some b2))),(14,.arr (zB zR w)),(15,.lit (.int .i64 (w.length:Int))),(16,.lit (.int .i64 (i:Int))),(58,.arr (zB zN x.ctors)),(59,.lit (.int .i64 (x.ctors.length:Int))),(60,.lit (.int .i64 ((i27+1):Int)))],[]⟩ (gT (by simp) (by simp_all)) ?_
     exact(ih_f135 (ZCN met26 x31.name) (i27+1) o hF) b1 b2 hb2 _ rfl _ hq
   ·cases hF
    repeat first|refine cg ?_|simp -dsimp[q36]
    refine LeaveM.go _ (gR _) (hq _ ?_ _)
    repeat first|refine cg ?_|simp -dsimp
  ·have z30:¬((i27:Int)<(x.ctors.length:Int)):=auz
   cases hF
   repeat first|refine cg ?_|simp -dsimp[h28,q29,z30]
   refine LeaveM.go ⟨[(0,.arr (zB zR w)),(3,.lit (.map (some b1))),(4,.lit (.map (some b2))),(14,.arr (zB zR w)),(15,.lit (.int .i64 (w.length:Int))),(16,.lit (.int .i64 (i:Int)))],[]⟩ (gT (by simp) (by simp_all)) ?_
   exact hq
theorem CC.f136 (w:List zP):(∀(met:List ByteArray) (met4:List ByteArray) (i:Nat) (o:Lo Bool ((List ByteArray)×(List ByteArray))),F.f136 w met met4 i=some o->∀(b1 b2:Nat),¬b1=b2->∀(c:Code),ZP [1,1,1,1,0,1,0,0] (ZG Tryz.f116)=some c->∀(Q:Exit->ASt->Ms->Prop),o.post (fun r=>∀st,ZAD zQ Tryz.f116 (fun r' _=>r'=(.lit (.bool r))) .ret st->∀ms,Q .ret st ms) (fun s=>Q (.exit 0) ⟨[],[]⟩ [(b1,s.1),(b2,s.2)])->MLoop zQ B 79 (hold c .mk) ⟨[(0,am zR w),(3,.lit (.map (some b1))),(4,.lit (.map (some b2))),(14,am zR w),(15,li (w.length:Int)),(16,li (i:Int))],[]⟩ [(b1,met),(b2,met4)] (hold Q .mk)):=by
 refine F.f136.partial_correctness w
  _
  ?_
 ·intro _f_f136 ih_f136 met met4 i o hF
  intro b1 b2 hb2 c hc Q hq
  obtain rfl:c=_:=ZAi hc rfl
  refine MLoop.know fun hk hs=> ?_
  have b0:=hk 0
  simp -dsimp at b0
  have b14:=hk 14
  simp -dsimp at b14
  clear hk hs
  refine MLoop.enter ?_
  repeat first|refine cg ?_|simp -dsimp[hb2]
  revert hF;refine aS ?_ ?_<;>intro h5 q6 hF
  ·have z7:((i:Int)<(w.length:Int)):=auz
   have hF:=ob hF;obtain⟨x,e8,hF⟩:=hF
   have le8:=ZB e8
   repeat first|refine cg ?_|simp -dsimp[h5,z7,↓e8]
   revert hF;refine aS ?_ ?_<;>intro h9 q10 hF
   ·have z11:((x.name.size:Int)=1):=auz
    have hF:=oc hF;obtain⟨c12,hF⟩:=hF
    repeat first|refine cg ?_|simp -dsimp[h9,z11]
    revert hF;refine aN ?_ ?_<;>intro h13 q14 hF
    ·have z15:¬(((byteAt x.name 0:Nat):Int)<65):=auz
     repeat first|refine cg ?_|simp -dsimp[h13,q14,z15]
     revert hF;refine aN ?_ ?_<;>intro h16 q17 hF
     ·have z18:¬(90<((byteAt x.name 0:Nat):Int)):=auz
      repeat first|refine cg ?_|simp -dsimp[h16,q17,z18]
      revert hF;refine aN ?_ ?_<;>intro h19 q20 hF
      ·repeat first|refine cg ?_|simp -dsimp[hb2,h5,z7,↓e8,h9,z11,h13,q14,z15,h16,q17,z18,h19,q20]
       revert hF;refine aN (fun h21 q22 hF=> ?_) (fun h21 q22 hF=> ?_)
       ·repeat first|refine cg ?_|simp -dsimp[h21,q22]
        have hF:=ob hF;obtain⟨v,e23,hF⟩:=hF
        refine((C.f126 B hB1 hB2 (x.ctors.length:Int) 1 4 v e23)).goI ?_
        repeat first|refine cg ?_|simp -dsimp[hb2,h5,z7,↓e8,h9,z11,h13,q14,z15,h16,q17,z18,h19,q20,h21,q22]
        revert hF;refine aN (fun h24 q25 hF=> ?_) (fun h24 q25 hF=> ?_)
        ·cases hF
         repeat first|refine cg ?_|simp -dsimp[h24,q25]
         refine LeaveM.go _ (gR _) (hq _ ?_ _)
         repeat first|refine cg ?_|simp -dsimp
        ·repeat first|refine cg ?_|simp -dsimp[hb2,h5,z7,↓e8,h9,z11,h13,q14,z15,h16,q17,z18,h19,q20,h21,q22,h24,q25]
         have hF:=ob hF;obtain⟨o',ho40,hF⟩:=hF
         refine MLoop.goU ⟨[(0,.arr (zB zR w)),(3,.lit (.map (some b1))),(4,.lit (.map (some b2))),(14,.arr (zB zR w)),(15,.lit (.int .i64 (w.length:Int))),(16,.lit (.int .i64 (i:Int))),(58,.arr (zB zN x.ctors)),(59,.lit (.int .i64 (x.ctors.length:Int))),(60,.lit (.int .i64 0))],[]⟩ (gT (by simp) (by simp -dsimp[hb2,h5,z7,↓e8,h9,z11,h13,q14,z15,h16,q17,z18,h19,q20,h21,q22,h24,q25])) ?_
         refine((CC.f135 B hB1 hB2 w met4 i x) met 0 o' ho40) b1 b2 hb2 _ rfl _ ?_
         rcases o' with r0|sx
         ·dsimp only at hF
          cases hF
          intro st h ms
          simp -dsimp
          refine LeaveM.go st (gR _) (hq st h ms)
         ·dsimp only at hF
          have hF:=oc hF;obtain⟨c41,hF⟩:=hF
          have w42:i64.wrap ((i:Int)+1)=(i:Int)+1:=ZE (by omega) (by omega)
          repeat first|refine cg ?_|simp -dsimp[w42]
          refine AgainM.go ⟨[(0,.arr (zB zR w)),(3,.lit (.map (some b1))),(4,.lit (.map (some b2))),(14,.arr (zB zR w)),(15,.lit (.int .i64 (w.length:Int))),(16,.lit (.int .i64 ((i+1):Int)))],[]⟩ (gT (by simp) (by simp -dsimp[w42])) ?_
          exact(ih_f136 sx (ZCN met4 x.name) (i+1) o hF) b1 b2 hb2 _ rfl _ hq
       ·cases hF
        repeat first|refine cg ?_|simp -dsimp[hb2,h5,z7,↓e8,h9,z11,h13,q14,z15,h16,q17,z18,h19,q20,h21,q22]
        refine LeaveM.go _ (gR _) (hq _ ?_ _)
        repeat first|refine cg ?_|simp -dsimp
      ·cases hF
       repeat first|refine cg ?_|simp -dsimp[hb2,h5,z7,↓e8,h9,z11,h13,q14,z15,h16,q17,z18,h19,q20]
       refine LeaveM.go _ (gR _) (hq _ ?_ _)
       repeat first|refine cg ?_|simp -dsimp
     ·have z18:(90<((byteAt x.name 0:Nat):Int)):=auz
      cases hF
      repeat first|refine cg ?_|simp -dsimp[hb2,h5,z7,↓e8,h9,z11,h13,q14,z15,h16,q17,z18]
      refine LeaveM.go _ (gR _) (hq _ ?_ _)
      repeat first|refine cg ?_|simp -dsimp
    ·have z15:(((byteAt x.name 0:Nat):Int)<65):=auz
     cases hF
     repeat first|refine cg ?_|simp -dsimp[hb2,h5,z7,↓e8,h9,z11,h13,q14,z15]
     refine LeaveM.go _ (gR _) (hq _ ?_ _)
     repeat first|refine cg ?_|simp -dsimp
   ·have z11:¬((x.name.size:Int)=1):=auz
    cases hF
    repeat first|refine cg ?_|simp -dsimp[h9,q10,z11]
    refine LeaveM.go _ (gR _) (hq _ ?_ _)
    repeat first|refine cg ?_|simp -dsimp
  ·have z7:¬((i:Int)<(w.length:Int)):=auz
   cases hF
   repeat first|refine cg ?_|simp -dsimp[h5,q6,z7]
   refine LeaveM.go ⟨[],[]⟩ (gT (by simp) (by simp -dsimp[hb2,h5,q6,z7])) ?_
   exact hq
theorem C.f137 (w:List zP)(r:Bool)(hF:F.f137 w=some r):PureCall zQ B 116 [am zR w] (.lit (.bool r)):=by
 unfold F.f137 at hF
 refine zJ func116 (by kernel_rfl) rfl ntmps116 (by simp) ?_
 refine kz ?_
 revert hF;refine aS ?_ ?_<;>intro h1 q2 hF
 ·have z3:(4<(w.length:Int)):=auz
  cases hF
  repeat first|refine cg ?_|simp -dsimp[h1,z3]
 ·have z3:¬(4<(w.length:Int)):=auz
  repeat first|refine cg ?_|simp -dsimp[h1,q2,z3]
  refine AMake.go fun b1 hb1=> ?_
  refine kz ?_
  refine AMake.go fun b2 hb2=> ?_
  simp at hb2
  repeat first|refine cg ?_|simp -dsimp[hb2]
  have hF:=ob hF;obtain⟨o'44,ho43,hF⟩:=hF
  refine MLoop.goU ⟨[(0,.arr (zB zR w)),(3,.lit (.map (some b1))),(4,.lit (.map (some b2))),(14,.arr (zB zR w)),(15,.lit (.int .i64 (w.length:Int))),(16,.lit (.int .i64 0))],[]⟩ (gT (by simp) (by simp_all)) ?_
  refine((CC.f136 B hB1 hB2 w) [] [] 0 o'44 ho43) b1 b2 hb2 _ rfl _ ?_
  rcases o'44 with r046|sx45
  ·dsimp only at hF
   cases hF
   intro st h ms
   simpa using h
  ·dsimp only at hF
   cases hF
   repeat first|refine cg ?_|simp -dsimp
theorem C.f138 (w:List zP)(t:Ty)(r:Bool)(hF:F.f138 w t=some r):PureCall zQ B 117 [am zR w,.agg [li t.data,li t.index]] (.lit (.bool r)):=by
 unfold F.f138 at hF
 refine zI func117 rfl ntmps117 ?_
 refine kz ?_
 revert hF;refine aN (fun h1 q2 hF=> ?_) (fun h1 q2 hF=> ?_)
 ·repeat first|refine cg ?_|simp -dsimp[h1,q2]
  have hF:=ob hF;obtain⟨v,e3,hF⟩:=hF
  refine((C.f126 B hB1 hB2 t.data 0 (i64.wrap ((w.length:Int) -1)) v e3)).goI ?_
  repeat first|refine cg ?_|simp -dsimp[h1,q2]
  revert hF;refine aS (fun h4 q5 hF=> ?_) (fun h4 q5 hF=> ?_)
  ·repeat first|refine cg ?_|simp -dsimp[h1,q2,h4]
   have hF:=ob hF;obtain⟨v6,e7,hF⟩:=hF
   refine((C.f126 B hB1 hB2 t.index 0 3 v6 e7)).goI ?_
   cases hF
   repeat first|refine cg ?_|simp -dsimp[h1,q2,h4]
  ·cases hF
   repeat first|refine cg ?_|simp -dsimp[h1,q2,h4,q5]
 ·cases hF
  repeat first|refine cg ?_|simp -dsimp[h1,q2]
theorem C.f139 (w:List zP)(t:Ty)(r:Bool)(hF:F.f139 w t=some r):PureCall zQ B 87 [am zR w,.agg [li t.data,li t.index]] (.lit (.bool r)):=by
 unfold F.f139 at hF
 refine zI func87 rfl ntmps87 ?_
 refine kz ?_
 have hF:=ob hF;obtain⟨v,e1,hF⟩:=hF
 refine((C.f137 B hB1 hB2 w v e1)).goI ?_
 refine kz ?_
 revert hF;refine aS (fun h2 q3 hF=> ?_) (fun h2 q3 hF=> ?_)
 ·repeat first|refine cg ?_|simp -dsimp[h2]
  have hF:=ob hF;obtain⟨v4,e5,hF⟩:=hF
  refine((C.f138 B hB1 hB2 w t v4 e5)).goI ?_
  cases hF
  repeat first|refine cg ?_|simp -dsimp[h2]
 ·cases hF
  repeat first|refine cg ?_|simp -dsimp[h2,q3]
theorem C.f140 (p:Pattern)(ctor:Bool)(numbers:Bool)(variable':Bool)(kids:Int)(r:Bool)(hF:F.f140 p ctor numbers variable' kids=some r):PureCall zQ B 166 [.agg [li p.op,li p.ctor,li p.n,li p.m,li p.var,am zT p.kids],.lit (.bool ctor),.lit (.bool numbers),.lit (.bool variable'),li kids] (.lit (.bool r)):=by
 unfold F.f140 at hF
 refine zI func166 rfl ntmps166 ?_
 refine kz ?_
 revert hF;refine aN (fun h1 q2 hF=> ?_) (fun h1 q2 hF=> ?_)
 ·repeat first|refine cg ?_|simp -dsimp[h1,q2]
  revert hF;refine aS ?_ ?_<;>intro h3 q4 hF
  ·repeat first|refine cg ?_|simp -dsimp[h1,q2,h3]
   revert hF;refine aN (fun h5 q6 hF=> ?_) (fun h5 q6 hF=> ?_)
   ·repeat first|refine cg ?_|simp -dsimp[h1,q2,h3,h5,q6]
    revert hF;refine aS ?_ ?_<;>intro h7 q8 hF
    ·repeat first|refine cg ?_|simp -dsimp[h1,q2,h3,h5,q6,h7]
     revert hF;refine aS ?_ ?_<;>intro h9 q10 hF
     ·repeat first|refine cg ?_|simp -dsimp[h1,q2,h3,h5,q6,h7,h9]
      revert hF;refine aN (fun h11 q12 hF=> ?_) (fun h11 q12 hF=> ?_)
      ·repeat first|refine cg ?_|simp -dsimp[h1,q2,h3,h5,q6,h7,h9,h11,q12]
       revert hF;refine aS ?_ ?_<;>intro h13 q14 hF
       ·cases hF
        repeat first|refine cg ?_|simp -dsimp[h1,q2,h3,h5,q6,h7,h9,h11,q12,h13]
       ·cases hF
        repeat first|refine cg ?_|simp -dsimp[h1,q2,h3,h5,q6,h7,h9,h11,q12,h13,q14]
      ·cases hF
       repeat first|refine cg ?_|simp -dsimp[h1,q2,h3,h5,q6,h7,h9,h11,q12]
     ·cases hF
      repeat first|refine cg ?_|simp -dsimp[h1,q2,h3,h5,q6,h7,h9,q10]
    ·cases hF
     repeat first|refine cg ?_|simp -dsimp[h1,q2,h3,h5,q6,h7,q8]
   ·repeat first|refine cg ?_|simp -dsimp[h1,q2,h3,h5,q6]
    revert hF;refine aN (fun h15 q16 hF=> ?_) (fun h15 q16 hF=> ?_)
    ·repeat first|refine cg ?_|simp -dsimp[h1,q2,h3,h5,q6,h15,q16]
     revert hF;refine aS ?_ ?_<;>intro h17 q18 hF
     ·cases hF
      repeat first|refine cg ?_|simp -dsimp[h1,q2,h3,h5,q6,h15,q16,h17]
     ·cases hF
      repeat first|refine cg ?_|simp -dsimp[h1,q2,h3,h5,q6,h15,q16,h17,q18]
    ·cases hF
     repeat first|refine cg ?_|simp -dsimp[h1,q2,h3,h5,q6,h15,q16]
  ·cases hF
   repeat first|refine cg ?_|simp -dsimp[h1,q2,h3,q4]
 ·repeat first|refine cg ?_|simp -dsimp[h1,q2]
  revert hF;refine aN (fun h19 q20 hF=> ?_) (fun h19 q20 hF=> ?_)
  ·repeat first|refine cg ?_|simp -dsimp[h1,q2,h19,q20]
   revert hF;refine aS ?_ ?_<;>intro h21 q22 hF
   ·repeat first|refine cg ?_|simp -dsimp[h1,q2,h19,q20,h21]
    revert hF;refine aS ?_ ?_<;>intro h23 q24 hF
    ·repeat first|refine cg ?_|simp -dsimp[h1,q2,h19,q20,h21,h23]
     revert hF;refine aN (fun h25 q26 hF=> ?_) (fun h25 q26 hF=> ?_)
     ·repeat first|refine cg ?_|simp -dsimp[h1,q2,h19,q20,h21,h23,h25,q26]
      revert hF;refine aS ?_ ?_<;>intro h27 q28 hF
      ·cases hF
       repeat first|refine cg ?_|simp -dsimp[h1,q2,h19,q20,h21,h23,h25,q26,h27]
      ·cases hF
       repeat first|refine cg ?_|simp -dsimp[h1,q2,h19,q20,h21,h23,h25,q26,h27,q28]
     ·cases hF
      repeat first|refine cg ?_|simp -dsimp[h1,q2,h19,q20,h21,h23,h25,q26]
    ·cases hF
     repeat first|refine cg ?_|simp -dsimp[h1,q2,h19,q20,h21,h23,q24]
   ·cases hF
    repeat first|refine cg ?_|simp -dsimp[h1,q2,h19,q20,h21,q22]
  ·repeat first|refine cg ?_|simp -dsimp[h1,q2,h19,q20]
   revert hF;refine aN (fun h29 q30 hF=> ?_) (fun h29 q30 hF=> ?_)
   ·repeat first|refine cg ?_|simp -dsimp[h1,q2,h19,q20,h29,q30]
    revert hF;refine aS ?_ ?_<;>intro h31 q32 hF
    ·cases hF
     repeat first|refine cg ?_|simp -dsimp[h1,q2,h19,q20,h29,q30,h31]
    ·cases hF
     repeat first|refine cg ?_|simp -dsimp[h1,q2,h19,q20,h29,q30,h31,q32]
   ·cases hF
    repeat first|refine cg ?_|simp -dsimp[h1,q2,h19,q20,h29,q30]
theorem C.f141 (v:Int)(r:Bool)(hF:F.f141 v=some r):PureCall zQ B 167 [li v] (.lit (.bool r)):=by
 unfold F.f141 at hF
 refine zI func167 rfl ntmps167 ?_
 refine kz ?_
 have hF:=ob hF;obtain⟨v1,e2,hF⟩:=hF
 refine((C.f126 B hB1 hB2 v 0 5 v1 e2)).goI ?_
 cases hF
 repeat first|refine cg ?_|simp -dsimp
theorem CC.f142 (t:Ty)(x:zP):(∀(i:Nat) (out:List Int) (o:List Int),F.f142 t x i out=some o->∀(c:Code),ZP [1,1,0,1,0,1,0,0] (ZG Tryz.f99)=some c->∀(Q:Exit->ASt->Prop),(Q (.exit 0) ⟨[(5,.own 1 (zA (α:=Int) o))],[.dead,.elems 1 (zB cI o)]⟩)->ALoopU zQ B 0 44 (hold c .mk) ⟨[(3,.ptr 0 0),(5,.own 1 (zA (α:=Int) out)),(16,am zN x.ctors),(17,li (x.ctors.length:Int)),(18,li (i:Int))],[.cells [li t.data,li t.index],.elems 1 (zB cI out)]⟩ (hold Q .mk)):=by
 refine F.f142.partial_correctness t x
  _
  ?_
 ·intro _f_f142 ih_f142 i out o hF
  refine ZI rfl fun Q hq hk hs=> ?_
  have b16:=hk 16
  simp -dsimp at b16
  have d1:=hs 1 _ rfl
  simp -dsimp[yK]at d1
  clear hk hs
  refine eN ?_
  refine kz ?_
  revert hF;refine aS ?_ ?_<;>intro h4 q5 hF
  ·have z6:((i:Int)<(x.ctors.length:Int)):=auz
   have hF:=ob hF;obtain⟨x7,e8,hF⟩:=hF
   have le8:=ZB e8
   repeat first|refine cg ?_|simp -dsimp[h4,z6,↓e8]
   revert hF;refine aN ?_ ?_<;>intro h9 q10 hF
   ·repeat first|refine cg ?_|simp -dsimp[h9,q10]
    revert hF;refine aN ?_ ?_<;>intro h11 q12 hF
    ·repeat first|refine cg ?_|simp -dsimp[h11,q12]
     revert hF;refine aS ?_ ?_<;>intro h13 q14 hF
     ·have hF:=oc hF;obtain⟨c15,hF⟩:=hF
      have w16:i64.wrap ((i:Int)+1)=(i:Int)+1:=ZE (by omega) (by omega)
      repeat first|refine cg ?_|simp -dsimp[h13,w16]
      refine zG ((ih_f142 (i+1) (out++[(i:Int)]) o hF) _ rfl _ hq)
     ·have w17:i64.wrap ((i:Int)+1)=(i:Int)+1:=ZE (by omega) (by omega)
      repeat first|refine cg ?_|simp -dsimp[h13,q14,w17]
      refine zG ((ih_f142 (i+1) out o hF) _ rfl _ hq)
    ·have hF:=oc hF;obtain⟨c18,hF⟩:=hF
     have w19:i64.wrap ((i:Int)+1)=(i:Int)+1:=ZE (by omega) (by omega)
     repeat first|refine cg ?_|simp -dsimp[h4,z6,↓e8,h9,q10,h11,q12,w19]
     refine zG ((ih_f142 (i+1) (out++[(i:Int)]) o hF) _ rfl _ hq)
   ·have hF:=oc hF;obtain⟨c20,hF⟩:=hF
    have w21:i64.wrap ((i:Int)+1)=(i:Int)+1:=ZE (by omega) (by omega)
    repeat first|refine cg ?_|simp -dsimp[h4,z6,↓e8,h9,q10,w21]
    refine zG ((ih_f142 (i+1) (out++[(i:Int)]) o hF) _ rfl _ hq)
  ·have z6:¬((i:Int)<(x.ctors.length:Int)):=auz
   cases hF
   repeat first|refine cg ?_|simp -dsimp[h4,q5,z6]
   refine zH hq
theorem C.f143 (w:List zP)(t:Ty)(r:List Int)(hF:F.f143 w t=some r):PureCall zQ B 99 [am zR w,.agg [li t.data,li t.index]] (am cI r):=by
 unfold F.f143 at hF
 refine zI func99 rfl ntmps99 ?_
 refine kz ?_
 revert hF;refine aN ?_ ?_<;>intro h1 q2 hF
 ·have hF:=ob hF;obtain⟨x,e3a,hF⟩:=hF
  have e3a:=ZX e3a;obtain⟨ne3,e3⟩:=e3a
  have le3:=ZB e3
  repeat first|refine cg ?_|simp -dsimp[h1,q2,↓e3]
  have hF:=ob hF;obtain⟨o',ho22,hF⟩:=hF
  refine zL ⟨[(3,.ptr 0 0),(5,.own 1 (zA (α:=Int) [])),(16,.arr (zB zN x.ctors)),(17,.lit (.int .i64 (x.ctors.length:Int))),(18,.lit (.int .i64 0))],[.cells [.lit (.int .i64 t.data),.lit (.int .i64 t.index)],.elems 1 (zB cI [])]⟩ (by refine yQ (yT 5 1 (by simp -dsimp)) ?_;exact(gT (by simp) (by simp_all))) ?_
  refine((CC.f142 B hB1 hB2 t x) 0 [] o' ho22) _ rfl _ ?_
  cases hF
  repeat first|refine cg ?_|simp -dsimp
 ·cases hF
  repeat first|refine cg ?_|simp -dsimp[h1,q2]
theorem CC.f144 (s:List Int)(v:Int):(∀(i:Nat) (o:Lo Int Unit),F.f144 s v i=some o->∀(c:Code),ZP [1,0,1,0,0] (ZG Tryz.f132)=some c->∀(Q:Exit->ASt->Prop),o.post (fun r=>∀st,ZAD zQ Tryz.f132 (fun r' _=>r'.le (li r)) .ret st->Q .ret st) (fun s=>Q (.exit 0) ⟨[],[]⟩)->ALoopU zQ B 0 19 (hold c .mk) ⟨[(0,am cI s),(1,li v),(7,li (s.length:Int)),(8,li (i:Int))],[]⟩ (hold Q .mk)):=by
 refine F.f144.partial_correctness s v
  _
  ?_
 ·intro _f_f144 ih_f144 i o hF
  refine ZI rfl fun Q hq hk hs=> ?_
  have b0:=hk 0
  simp -dsimp at b0
  clear hk hs
  refine eN ?_
  refine kz ?_
  revert hF;refine aS ?_ ?_<;>intro h1 q2 hF
  ·have z3:((i:Int)<(s.length:Int)):=auz
   have hF:=ob hF;obtain⟨x,e4,hF⟩:=hF
   have le4:=ZB e4
   repeat first|refine cg ?_|simp -dsimp[h1,z3,↓e4]
   revert hF;refine aS ?_ ?_<;>intro h5 q6 hF
   ·cases hF
    repeat first|refine cg ?_|simp -dsimp[h5]
    refine lG _ (gR _) (hq _ ?_)
    repeat first|refine cg ?_|simp -dsimp
   ·have w7:i64.wrap ((i:Int)+1)=(i:Int)+1:=ZE (by omega) (by omega)
    repeat first|refine cg ?_|simp -dsimp[q6,w7]
    refine zG ((ih_f144 (i+1) o hF) _ rfl _ hq)
  ·have z3:¬((i:Int)<(s.length:Int)):=auz
   cases hF
   repeat first|refine cg ?_|simp -dsimp[h1,q2,z3]
   refine zH hq
theorem C.f145 (s:List Int)(v:Int)(r:Int)(hF:F.f145 s v=some r):PureCall zQ B 132 [am cI s,li v] (li r):=by
 unfold F.f145 at hF
 refine zI func132 rfl ntmps132 ?_
 refine kz ?_
 have hF:=ob hF;obtain⟨o',ho8,hF⟩:=hF
 refine zK (((CC.f144 B hB1 hB2 s v) 0 o' ho8) _ rfl _ ?_)
 rcases o' with r0|sx
 ·dsimp only at hF
  cases hF
  intro st h
  simpa using h
 ·dsimp only at hF
  cases hF
  repeat first|refine cg ?_|simp -dsimp
theorem C.f146 (s:List Int)(v:Int)(r:Bool)(hF:F.f146 s v=some r):PureCall zQ B 98 [am cI s,li v] (.lit (.bool r)):=by
 unfold F.f146 at hF
 refine zI func98 rfl ntmps98 ?_
 refine kz ?_
 have hF:=ob hF;obtain⟨v1,e2,hF⟩:=hF
 refine((C.f145 B hB1 hB2 s v v1 e2)).goI ?_
 cases hF
 repeat first|refine cg ?_|simp -dsimp
theorem CC.f147 (t:Ty)(x2:Ctor):(∀(i:Nat) (out:List Ty) (o:List Ty),F.f147 t x2 i out=some o->∀(c:Code),ZP [1,1,1,1,1,0,1,0,0] (ZG Tryz.f100)=some c->∀(Q:Exit->ASt->Prop),(Q (.exit 0) ⟨[(9,.own 2 (zA (α:=Ty) o))],[.dead,.dead,.elems 2 (zB zM o)]⟩)->ALoopU zQ B 0 45 (hold c .mk) ⟨[(8,li t.index),(9,.own 2 (zA (α:=Ty) out)),(28,am zM x2.args),(29,li (x2.args.length:Int)),(30,li (i:Int))],[.dead,.dead,.elems 2 (zB zM out)]⟩ (hold Q .mk)):=by
 refine F.f147.partial_correctness t x2
  _
  ?_
 ·intro _f_f147 ih_f147 i out o hF
  refine ZI rfl fun Q hq hk hs=> ?_
  have b28:=hk 28
  simp -dsimp at b28
  have d2:=hs 2 _ rfl
  simp -dsimp[yK]at d2
  clear hk hs
  refine eN ?_
  refine kz ?_
  revert hF;refine aS ?_ ?_<;>intro h6 q7 hF
  ·have z8:((i:Int)<(x2.args.length:Int)):=auz
   have hF:=ob hF;obtain⟨x9,e10,hF⟩:=hF
   have le10:=ZB e10
   repeat first|refine cg ?_|simp -dsimp[h6,z8,↓e10]
   revert hF;refine aS ?_ ?_<;>intro h11 q12 hF
   ·have hF:=oc hF;obtain⟨c13,hF⟩:=hF
    have w14:i64.wrap ((i:Int)+1)=(i:Int)+1:=ZE (by omega) (by omega)
    repeat first|refine cg ?_|simp -dsimp[h11,w14]
    refine zG ((ih_f147 (i+1) (out++[(⟨x9.data,t.index⟩:Ty)]) o hF) _ rfl _ hq)
   ·have hF:=oc hF;obtain⟨c15,hF⟩:=hF
    have w16:i64.wrap ((i:Int)+1)=(i:Int)+1:=ZE (by omega) (by omega)
    repeat first|refine cg ?_|simp -dsimp[h11,q12,w16]
    refine zG ((ih_f147 (i+1) (out++[x9]) o hF) _ rfl _ hq)
  ·have z8:¬((i:Int)<(x2.args.length:Int)):=auz
   cases hF
   repeat first|refine cg ?_|simp -dsimp[h6,q7,z8]
   refine zH hq
theorem CC.f148 (x2:Ctor):(∀(i18:Nat) (out19:List Ty) (o:List Ty),F.f148 x2 i18 out19=some o->∀(c:Code),ZP [1,1,1,1,1,0,1,0,0] (ZG Tryz.f100)=some c->∀(Q:Exit->ASt->Prop),(Q (.exit 0) ⟨[(9,.own 2 (zA (α:=Ty) o))],[.dead,.dead,.elems 2 (zB zM o)]⟩)->ALoopU zQ B 0 45 (hold c .mk) ⟨[(8,li x2.index),(9,.own 2 (zA (α:=Ty) out19)),(28,am zM x2.args),(29,li (x2.args.length:Int)),(30,li (i18:Int))],[.dead,.dead,.elems 2 (zB zM out19)]⟩ (hold Q .mk)):=by
 refine F.f148.partial_correctness x2
  _
  ?_
 ·intro _f_f148 ih_f148 i18 out19 o hF
  refine ZI rfl fun Q hq hk hs=> ?_
  have b28:=hk 28
  simp -dsimp at b28
  have d2:=hs 2 _ rfl
  simp -dsimp[yK]at d2
  clear hk hs
  refine eN ?_
  refine kz ?_
  revert hF;refine aS ?_ ?_<;>intro h20 q21 hF
  ·have z22:((i18:Int)<(x2.args.length:Int)):=auz
   have hF:=ob hF;obtain⟨x23,e24,hF⟩:=hF
   have le24:=ZB e24
   repeat first|refine cg ?_|simp -dsimp[h20,z22,↓e24]
   revert hF;refine aS ?_ ?_<;>intro h25 q26 hF
   ·have hF:=oc hF;obtain⟨c27,hF⟩:=hF
    have w28:i64.wrap ((i18:Int)+1)=(i18:Int)+1:=ZE (by omega) (by omega)
    repeat first|refine cg ?_|simp -dsimp[h25,w28]
    refine zG ((ih_f148 (i18+1) (out19++[(⟨x23.data,x2.index⟩:Ty)]) o hF) _ rfl _ hq)
   ·have hF:=oc hF;obtain⟨c29,hF⟩:=hF
    have w30:i64.wrap ((i18:Int)+1)=(i18:Int)+1:=ZE (by omega) (by omega)
    repeat first|refine cg ?_|simp -dsimp[h25,q26,w30]
    refine zG ((ih_f148 (i18+1) (out19++[x23]) o hF) _ rfl _ hq)
  ·have z22:¬((i18:Int)<(x2.args.length:Int)):=auz
   cases hF
   repeat first|refine cg ?_|simp -dsimp[h20,q21,z22]
   refine zH hq
theorem C.f149 (w:List zP)(t:Ty)(ctor:Int)(r:List Ty)(hF:F.f149 w t ctor=some r):PureCall zQ B 100 [am zR w,.agg [li t.data,li t.index],li ctor] (am zM r):=by
 unfold F.f149 at hF
 refine zI func100 rfl ntmps100 ?_
 have hF:=ob hF;obtain⟨x,e1a,hF⟩:=hF
 have e1a:=ZX e1a;obtain⟨ne1,e1⟩:=e1a
 have le1:=ZB e1
 have hF:=ob hF;obtain⟨x2,e3a,hF⟩:=hF
 have e3a:=ZX e3a;obtain⟨ne3,e3⟩:=e3a
 have le3:=ZB e3
 repeat first|refine cg ?_|simp -dsimp[↓e1,↓e3]
 revert hF;refine aS ?_ ?_<;>intro h4 q5 hF
 ·repeat first|refine cg ?_|simp -dsimp[h4]
  have hF:=ob hF;obtain⟨o',ho17,hF⟩:=hF
  refine zL ⟨[(8,.lit (.int .i64 t.index)),(9,.own 2 (zA (α:=Ty) [])),(28,.arr (zB zM x2.args)),(29,.lit (.int .i64 (x2.args.length:Int))),(30,.lit (.int .i64 0))],[.dead,.dead,.elems 2 (zB zM [])]⟩ (by refine yQ (yT 9 2 (by simp -dsimp)) ?_;exact(gT (by simp) (by simp_all))) ?_
  refine((CC.f147 B hB1 hB2 t x2) 0 [] o' ho17) _ rfl _ ?_
  cases hF
  repeat first|refine cg ?_|simp -dsimp
 ·repeat first|refine cg ?_|simp -dsimp[q5]
  have hF:=ob hF;obtain⟨o'32,ho31,hF⟩:=hF
  refine zL ⟨[(8,.lit (.int .i64 x2.index)),(9,.own 2 (zA (α:=Ty) [])),(28,.arr (zB zM x2.args)),(29,.lit (.int .i64 (x2.args.length:Int))),(30,.lit (.int .i64 0))],[.dead,.dead,.elems 2 (zB zM [])]⟩ (by refine yQ (yT 9 2 (by simp -dsimp)) ?_;exact(gT (by simp) (by simp_all))) ?_
  refine((CC.f148 B hB1 hB2 x2) 0 [] o'32 ho31) _ rfl _ ?_
  cases hF
  repeat first|refine cg ?_|simp -dsimp
theorem C.f150 (w:List zP)(t:Ty)(p:Pattern)(r:(List Ty)×Bool)(hF:F.f150 w t p=some r):PureCall zQ B 161 [am zR w,.agg [li t.data,li t.index],.agg [li p.op,li p.ctor,li p.n,li p.m,li p.var,am zT p.kids]] (.tup [am zM r.1,.lit (.bool r.2)]):=by
 unfold F.f150 at hF
 refine zI func161 rfl ntmps161 ?_
 refine kz ?_
 revert hF;refine aS ?_ ?_<;>intro h1 q2 hF
 ·repeat first|refine cg ?_|simp -dsimp[h1]
  have hF:=ob hF;obtain⟨v,e3,hF⟩:=hF
  refine((C.f140 B hB1 hB2 p false false false 0 v e3)).goI ?_
  cases hF
  repeat first|refine cg ?_|simp -dsimp[h1]
 ·repeat first|refine cg ?_|simp -dsimp[h1,q2]
  revert hF;refine aS ?_ ?_<;>intro h4 q5 hF
  ·repeat first|refine cg ?_|simp -dsimp[h1,q2,h4]
   have hF:=ob hF;obtain⟨v6,e7,hF⟩:=hF
   refine((C.f140 B hB1 hB2 p false false true 0 v6 e7)).goI ?_
   repeat first|refine cg ?_|simp -dsimp[h1,q2,h4]
   revert hF;refine aS (fun h8 q9 hF=> ?_) (fun h8 q9 hF=> ?_)
   ·repeat first|refine cg ?_|simp -dsimp[h1,q2,h4,h8]
    have hF:=ob hF;obtain⟨v10,e11,hF⟩:=hF
    refine((C.f141 B hB1 hB2 p.var v10 e11)).goI ?_
    cases hF
    repeat first|refine cg ?_|simp -dsimp[h1,q2,h4,h8]
   ·cases hF
    repeat first|refine cg ?_|simp -dsimp[h1,q2,h4,h8,q9]
  ·repeat first|refine cg ?_|simp -dsimp[h1,q2,h4,q5]
   revert hF;refine aS ?_ ?_<;>intro h12 q13 hF
   ·repeat first|refine cg ?_|simp -dsimp[h1,q2,h4,q5,h12]
    refine yM follows ?_
    repeat first|refine cg ?_|simp -dsimp[h1,q2,h4,q5,h12]
    revert hF;refine aS ?_ ?_<;>intro h14 q15 hF
    ·repeat first|refine cg ?_|simp -dsimp[h1,q2,h4,q5,h12,h14]
     have hF:=ob hF;obtain⟨v16,e17,hF⟩:=hF
     refine((C.f140 B hB1 hB2 p false true false 0 v16 e17)).pgoW (by simp[h1,q2,h4,q5,h12,h14]) (by simp) ?_
     repeat first|refine cg ?_|simp -dsimp[h1,q2,h4,q5,h12,h14]
     revert hF;refine aS (fun h18 q19 hF=> ?_) (fun h18 q19 hF=> ?_)
     ·repeat first|refine cg ?_|simp -dsimp[h1,q2,h4,q5,h12,h14,h18]
      revert hF;refine aS ?_ ?_<;>intro h20 q21 hF
      ·repeat first|refine cg ?_|simp -dsimp[h1,q2,h4,q5,h12,h14,h18,h20]
       revert hF;refine aS ?_ ?_<;>intro h22 q23 hF
       ·cases hF
        repeat first|refine cg ?_|simp -dsimp[h1,q2,h4,q5,h12,h14,h18,h20,h22]
       ·cases hF
        repeat first|refine cg ?_|simp -dsimp[h1,q2,h4,q5,h12,h14,h18,h20,h22,q23]
      ·cases hF
       repeat first|refine cg ?_|simp -dsimp[h1,q2,h4,q5,h12,h14,h18,h20,q21]
     ·cases hF
      repeat first|refine cg ?_|simp -dsimp[h1,q2,h4,q5,h12,h14,h18,q19]
    ·cases hF
     repeat first|refine cg ?_|simp -dsimp[h1,q2,h4,q5,h12,h14,q15]
   ·repeat first|refine cg ?_|simp -dsimp[h1,q2,h4,q5,h12,q13]
    revert hF;refine aS ?_ ?_<;>intro h24 q25 hF
    ·repeat first|refine cg ?_|simp -dsimp[h1,q2,h4,q5,h12,q13,h24]
     refine yM follows ?_
     repeat first|refine cg ?_|simp -dsimp[h1,q2,h4,q5,h12,q13,h24]
     have hF:=ob hF;obtain⟨v26,e27,hF⟩:=hF
     refine((C.f143 B hB1 hB2 w t v26 e27)).pgoW (by simp[h1,q2,h4,q5,h12,q13,h24]) (by simp) ?_
     repeat first|refine cg ?_|simp -dsimp[h1,q2,h4,q5,h12,q13,h24]
     have hF:=ob hF;obtain⟨v28,e29,hF⟩:=hF
     refine((C.f146 B hB1 hB2 v26 p.ctor v28 e29)).pgoW (by simp[h1,q2,h4,q5,h12,q13,h24]) (by simp) ?_
     repeat first|refine cg ?_|simp -dsimp[h1,q2,h4,q5,h12,q13,h24]
     revert hF;refine aN (fun h30 q31 hF=> ?_) (fun h30 q31 hF=> ?_)
     ·cases hF
      repeat first|refine cg ?_|simp -dsimp[h1,q2,h4,q5,h12,q13,h24,h30,q31]
     ·repeat first|refine cg ?_|simp -dsimp[h1,q2,h4,q5,h12,q13,h24,h30,q31]
      have hF:=ob hF;obtain⟨v32,e33,hF⟩:=hF
      refine((C.f149 B hB1 hB2 w t p.ctor v32 e33)).goI ?_
      repeat first|refine cg ?_|simp -dsimp[h1,q2,h4,q5,h12,q13,h24,h30,q31]
      have hF:=ob hF;obtain⟨v34,e35,hF⟩:=hF
      refine((C.f140 B hB1 hB2 p true false false (v32.length:Int) v34 e35)).goI ?_
      cases hF
      repeat first|refine cg ?_|simp -dsimp[h1,q2,h4,q5,h12,q13,h24,h30,q31]
    ·repeat first|refine cg ?_|simp -dsimp[h1,q2,h4,q5,h12,q13,h24,q25]
     revert hF;refine aS ?_ ?_<;>intro h36 q37 hF
     ·repeat first|refine cg ?_|simp -dsimp[h1,q2,h4,q5,h12,q13,h24,q25,h36]
      refine yL [] [(0,0),(0,0),(0,1),(0,1),(0,1),(1,1),(1,1)] [1,1,1,2,1,1,1] follows ?_
      repeat first|refine cg ?_|simp -dsimp[h1,q2,h4,q5,h12,q13,h24,q25,h36]
      have hF:=ob hF;obtain⟨v38,e39,hF⟩:=hF
      refine((C.f140 B hB1 hB2 p false false false 2 v38 e39)).pgoW (by simp[h1,q2,h4,q5,h12,q13,h24,q25,h36]) (by simp) ?_
      cases hF
      repeat first|refine cg ?_|simp -dsimp[h1,q2,h4,q5,h12,q13,h24,q25,h36]
     ·repeat first|refine cg ?_|simp -dsimp[h1,q2,h4,q5,h12,q13,h24,q25,h36,q37]
      revert hF;refine aS ?_ ?_<;>intro h40 q41 hF
      ·repeat first|refine cg ?_|simp -dsimp[h1,q2,h4,q5,h12,q13,h24,q25,h36,q37,h40]
       refine yL [] [(0,0),(0,1),(0,1),(0,1),(0,1),(0,1),(0,1),(0,1),(0,1),(1,1),(1,1)] [1,1,2,1,1,0,2,1,1,1,1] follows ?_
       repeat first|refine cg ?_|simp -dsimp[h1,q2,h4,q5,h12,q13,h24,q25,h36,q37,h40]
       have hF:=ob hF;obtain⟨v42,e43,hF⟩:=hF
       refine((C.f140 B hB1 hB2 p false false true 1 v42 e43)).pgoW (by simp[h1,q2,h4,q5,h12,q13,h24,q25,h36,q37,h40]) (by simp) ?_
       repeat first|refine cg ?_|simp -dsimp[h1,q2,h4,q5,h12,q13,h24,q25,h36,q37,h40]
       revert hF;refine aS (fun h44 q45 hF=> ?_) (fun h44 q45 hF=> ?_)
       ·repeat first|refine cg ?_|simp -dsimp[h1,q2,h4,q5,h12,q13,h24,q25,h36,q37,h40,h44]
        have hF:=ob hF;obtain⟨v46,e47,hF⟩:=hF
        refine((C.f141 B hB1 hB2 p.var v46 e47)).pgoW (by simp[h1,q2,h4,q5,h12,q13,h24,q25,h36,q37,h40,h44]) (by simp) ?_
        cases hF
        repeat first|refine cg ?_|simp -dsimp[h1,q2,h4,q5,h12,q13,h24,q25,h36,q37,h40,h44]
       ·skip
        cases hF
        repeat first|refine cg ?_|simp -dsimp[h1,q2,h4,q5,h12,q13,h24,q25,h36,q37,h40,h44,q45]
      ·cases hF
       repeat first|refine cg ?_|simp -dsimp[h1,q2,h4,q5,h12,q13,h24,q25,h36,q37,h40,q41]
theorem CC.f151 (s:List VarType)(v:VarType):(∀(i:Nat) (o:Lo Int Unit),F.f151 s v i=some o->∀(c:Code),ZP [1,0,1,0,0] (ZG Tryz.f163)=some c->∀(Q:Exit->ASt->Prop),o.post (fun r=>∀st,ZAD zQ Tryz.f163 (fun r' _=>r'.le (li r)) .ret st->Q .ret st) (fun s=>Q (.exit 0) ⟨[],[]⟩)->ALoopU zQ B 0 19 (hold c .mk) ⟨[(0,am yP s),(3,.ptr 0 0),(7,li (s.length:Int)),(8,li (i:Int))],[.cells [li v.var,li v.type.data,li v.type.index]]⟩ (hold Q .mk)):=by
 refine F.f151.partial_correctness s v
  _
  ?_
 ·intro _f_f151 ih_f151 i o hF
  refine ZI rfl fun Q hq hk hs=> ?_
  have b0:=hk 0
  simp -dsimp at b0
  clear hk hs
  refine eN ?_
  refine kz ?_
  revert hF;refine aS ?_ ?_<;>intro h1 q2 hF
  ·have z3:((i:Int)<(s.length:Int)):=auz
   repeat first|refine cg ?_|simp -dsimp[h1,z3]
   refine yM follows ?_
   have hF:=ob hF;obtain⟨x,e4,hF⟩:=hF
   have le4:=ZB e4
   repeat first|refine cg ?_|simp -dsimp[↓e4]
   revert hF;refine aS (fun h5 q6 hF=> ?_) (fun h5 q6 hF=> ?_)
   ·cases hF
    repeat first|refine cg ?_|simp -dsimp[h5]
    refine lG _ (gR _) (hq _ ?_)
    repeat first|refine cg ?_|simp -dsimp
   ·have w7:i64.wrap ((i:Int)+1)=(i:Int)+1:=ZE (by omega) (by omega)
    repeat first|refine cg ?_|simp -dsimp[q6,w7]
    refine zG ((ih_f151 (i+1) o hF) _ rfl _ hq)
  ·have z3:¬((i:Int)<(s.length:Int)):=auz
   cases hF
   repeat first|refine cg ?_|simp -dsimp[h1,q2,z3]
   refine zH hq
theorem C.f152 (s:List VarType)(v:VarType)(r:Int)(hF:F.f152 s v=some r):PureCall zQ B 163 [am yP s,.agg [li v.var,li v.type.data,li v.type.index]] (li r):=by
 unfold F.f152 at hF
 refine zI func163 rfl ntmps163 ?_
 refine kz ?_
 have hF:=ob hF;obtain⟨o',ho8,hF⟩:=hF
 refine zK (((CC.f151 B hB1 hB2 s v) 0 o' ho8) _ rfl _ ?_)
 rcases o' with r0|sx
 ·dsimp only at hF
  cases hF
  intro st h
  simpa using h
 ·dsimp only at hF
  cases hF
  repeat first|refine cg ?_|simp -dsimp
theorem C.f153 (s:List VarType)(v:VarType)(r:Bool)(hF:F.f153 s v=some r):PureCall zQ B 145 [am yP s,.agg [li v.var,li v.type.data,li v.type.index]] (.lit (.bool r)):=by
 unfold F.f153 at hF
 refine zI func145 rfl ntmps145 ?_
 refine kz ?_
 have hF:=ob hF;obtain⟨v1,e2,hF⟩:=hF
 refine((C.f152 B hB1 hB2 s v v1 e2)).goI ?_
 cases hF
 repeat first|refine cg ?_|simp -dsimp
theorem C.f154 (v:VarType)(a1:List VarType)(r:Bool)(hF:F.f154 v a1=some r):PureCall zQ B 169 [.agg [li v.var,li v.type.data,li v.type.index],.rptr [am yP a1] 0] (.lit (.bool r)):=by
 unfold F.f154 at hF
 refine zI func169 rfl ntmps169 ?_
 refine kz ?_
 have hF:=ob hF;obtain⟨v1,e2,hF⟩:=hF
 refine((C.f153 B hB1 hB2 a1 v v1 e2)).goI ?_
 cases hF
 repeat first|refine cg ?_|simp -dsimp
theorem CC.f155 (s:List VarType)(k0:List VarType):(∀(i:Nat) (o:Lo Int Unit),F.f155 s k0 i=some o->∀(c:Code),ZP [1,0,1,0,0] (ZG Tryz.f170)=some c->∀(Q:Exit->ASt->Prop),o.post (fun r=>∀st,ZAD zQ Tryz.f170 (fun r' _=>r'.le (li r)) .ret st->Q .ret st) (fun s=>Q (.exit 0) ⟨[],[]⟩)->ALoopU zQ B 0 19 (hold c .mk) ⟨[(0,am yP s),(1,.fn (.func 169) [] [.rptr [am yP k0] 0]),(7,li (s.length:Int)),(8,li (i:Int))],[]⟩ (hold Q .mk)):=by
 refine F.f155.partial_correctness s k0
  _
  ?_
 ·intro _f_f155 ih_f155 i o hF
  refine ZI rfl fun Q hq hk hs=> ?_
  have b0:=hk 0
  simp -dsimp at b0
  clear hk hs
  refine eN ?_
  refine kz ?_
  revert hF;refine aS ?_ ?_<;>intro h1 q2 hF
  ·have z3:((i:Int)<(s.length:Int)):=auz
   have hF:=ob hF;obtain⟨x,e4,hF⟩:=hF
   have le4:=ZB e4
   repeat first|refine cg ?_|simp -dsimp[h1,z3,↓e4]
   have hF:=ob hF;obtain⟨v,e5,hF⟩:=hF
   refine((C.f154 B hB1 hB2 x k0 v e5)).goI ?_
   refine kz ?_
   revert hF;refine aS (fun h6 q7 hF=> ?_) (fun h6 q7 hF=> ?_)
   ·cases hF
    repeat first|refine cg ?_|simp -dsimp[h6]
    refine lG _ (gR _) (hq _ ?_)
    repeat first|refine cg ?_|simp -dsimp
   ·have w8:i64.wrap ((i:Int)+1)=(i:Int)+1:=ZE (by omega) (by omega)
    repeat first|refine cg ?_|simp -dsimp[q7,w8]
    refine zG ((ih_f155 (i+1) o hF) _ rfl _ hq)
  ·have z3:¬((i:Int)<(s.length:Int)):=auz
   cases hF
   repeat first|refine cg ?_|simp -dsimp[h1,q2,z3]
   refine zH hq
theorem C.f156 (s:List VarType)(k0:List VarType)(r:Int)(hF:F.f156 s k0=some r):PureCall zQ B 170 [am yP s,.fn (.func 169) [] [.rptr [am yP k0] 0]] (li r):=by
 unfold F.f156 at hF
 refine zI func170 rfl ntmps170 ?_
 refine kz ?_
 have hF:=ob hF;obtain⟨o',ho9,hF⟩:=hF
 refine zK (((CC.f155 B hB1 hB2 s k0) 0 o' ho9) _ rfl _ ?_)
 rcases o' with r0|sx
 ·dsimp only at hF
  cases hF
  intro st h
  simpa using h
 ·dsimp only at hF
  cases hF
  repeat first|refine cg ?_|simp -dsimp
theorem C.f157 (s:List VarType)(k0:List VarType)(r:Bool)(hF:F.f157 s k0=some r):PureCall zQ B 168 [am yP s,.fn (.func 169) [] [.rptr [am yP k0] 0]] (.lit (.bool r)):=by
 unfold F.f157 at hF
 refine zI func168 rfl ntmps168 ?_
 refine kz ?_
 have hF:=ob hF;obtain⟨v,e1,hF⟩:=hF
 refine((C.f156 B hB1 hB2 s k0 v e1)).goI ?_
 cases hF
 repeat first|refine cg ?_|simp -dsimp
theorem C.f158 (a:List VarType)(b:List VarType)(r:Bool)(hF:F.f158 a b=some r):PureCall zQ B 162 [am yP a,am yP b] (.lit (.bool r)):=by
 unfold F.f158 at hF
 refine zI func162 rfl ntmps162 ?_
 refine kz ?_
 revert hF;refine aS ?_ ?_<;>intro h1 q2 hF
 ·have z3:((a.length:Int)=(b.length:Int)):=auz
  repeat first|refine cg ?_|simp -dsimp[h1,z3]
  have hF:=ob hF;obtain⟨v,e4,hF⟩:=hF
  refine((C.f157 B hB1 hB2 a b v e4)).lend (by simp -dsimp[h1,z3]) (by simp -dsimp) ?_
  cases hF
  repeat first|refine cg ?_|simp -dsimp[h1,z3]
 ·have z3:¬((a.length:Int)=(b.length:Int)):=auz
  cases hF
  repeat first|refine cg ?_|simp -dsimp[h1,q2,z3]
theorem CC.f159 (sx:Int×(List VarType)):(∀(set':Nat->Bool) (i37:Nat) (o:Lo ((List VarType)×Bool×Int) Unit),F.f159 sx set' i37=some o->∀(c:Code),ZP [1,1,1,1,1,1,1,1,1,0,1,0,0] (ZG Tryz.f144)=some c->∀(Q:Exit->ASt->Prop),o.post (fun r=>∀st,ZAD zQ Tryz.f144 (fun r' σ'=>r'.le (.tup [am yP r.1,.lit (.bool r.2.1)])/\ZBx σ' [li r.2.2]) .ret st->Q .ret st) (fun s=>Q (.exit 3) ⟨[(14,.own 4 (zA (α:=VarType) sx.2))],[.cells [li sx.1],.dead,.dead,.dead,.elems 3 (zB yP sx.2)]⟩)->ALoopU zQ B 1 114 (hold c .mk) ⟨[(14,.own 4 (zA (α:=VarType) sx.2)),(19,.ptr 5 0),(99,.own 4 (zA (α:=VarType) sx.2)),(100,li (sx.2.length:Int)),(101,li (i37:Int))],[.cells [li sx.1],.dead,.dead,.dead,.elems 3 (zB yP sx.2),.cells (fcB 6 set')]⟩ (hold Q .mk)):=by
 refine F.f159.partial_correctness sx
  _
  ?_
 ·intro _f_f159 ih_f159 set' i37 o hF
  refine ZI rfl fun Q hq hk hs=> ?_
  have d4:=hs 4 _ rfl
  simp -dsimp[yK]at d4
  clear hk hs
  refine eN ?_
  refine kz ?_
  revert hF;refine aS ?_ ?_<;>intro h38 q39 hF
  ·have z40:((i37:Int)<(sx.2.length:Int)):=auz
   have hF:=ob hF;obtain⟨x41,e42,hF⟩:=hF
   have le42:=ZB e42
   have hF:=oc hF;obtain⟨c43,hF⟩:=hF
   repeat first|refine cg ?_|simp -dsimp[h38,z40,↓e42,c43]
   revert hF;refine aS (fun h44 q45 hF=> ?_) (fun h44 q45 hF=> ?_)
   ·cases hF
    repeat first|refine cg ?_|simp -dsimp[h44]
    refine lG _ (gR _) (hq _ ?_)
    repeat first|refine cg ?_|simp -dsimp
   ·have w46:i64.wrap ((i37:Int)+1)=(i37:Int)+1:=ZE (by omega) (by omega)
    repeat first|refine cg ?_|simp -dsimp[q45,w46]
    refine zG ((ih_f159 (ZGl set' x41.var.toNat true) (i37+1) o hF) _ rfl _ hq)
  ·have z40:¬((i37:Int)<(sx.2.length:Int)):=auz
   cases hF
   repeat first|refine cg ?_|simp -dsimp[h38,q39,z40]
   refine zH hq
end Go.Proofs.YtojdombnghnbmaaGreat
