/- Part. -/
import Derived.Test.YtnockmfobogfpaaGreatProg
import Derived.Test.YtnockmfobogfpaaGreatTestedPartsF
import Derived.Test.YtnockmfobogfpaaGreatVlAuto
import Derived.Test.YtnockmfobogfpaaGreatVlSort
import Derived.Test.YtnockmfobogfpaaGreatShelf
open List renaming length->zA,map->zB,length_cons->zC,length_nil->zD
open ByteArray renaming empty->zE,size_append->zF
namespace Go.Proofs.YtnockmfobogfpaaGreat
open Go Go.Proofs Go.Vl
open PureCall renaming inLe->zG,enterM->zH
open MutCall renaming inn->zI,enter->zJ,enterG->zK
open ADraw renaming effI->zL,simI->zM,eff->zN,effP->zO,effL->zP
open Blk renaming bnd->zR
open Again renaming is->zS
open Leave renaming is->zT
open ALoop renaming is->zU,goU->zV
open Ty renaming c->zW
open Gh renaming trans->zX,nilCell->zY,nil->zZ,frzSlot->yA
open Go.Vl renaming Data->yB
open Go.Vl.Data renaming c->yC
open Ctor renaming c->yD
open ACall renaming frz->yE,nilArg->yF
open ECallA renaming frz->yG,nilArg->yH
open Pattern renaming c->yI
open VarType renaming c->yJ
open BCall renaming enter->yK,empty1->yL,ofNil->yM
open Clause renaming c->yN
open Go.Proofs.Tryz
open Go.Proofs.Tryz renaming prog->zQ
open abr renaming sp->aS,ns->aN
open Leave renaming go->lG
open Again renaming go->aG
open ALoopU renaming enter->eN
open Gh renaming to3->gT,refl->gR
open PureCall renaming enterLe->pE
open Go.IntKind (i64)
set_option linter.all false
set_option maxRecDepth 100000
set_option maxHeartbeats 4000000
set_option synthInstance.maxSize 100000
set_option synthInstance.maxHeartbeats 4000000
attribute [local irreducible] GhK ECallA aL AMake MLoop AgainM LeaveM ZBm ZBM MutCall BCall chk abr ACall ALoop ALoopU ADraw Again Leave ZFC PCall ZAG awp ZIv PureCall hold
abbrev li (x:Int):AV:=.lit (.int .i64 x)
abbrev am {α:Type}(f:α->List AV)(l:List α):AV:=.arr (zB f l)
theorem follows :Tryz.prog.follows .mixedOrders=true:=by kernel_rfl
@[simp] theorem ti2 :Zm zQ 2=some ⟨.word,1,[.int .i64 0]⟩:=by kernel_rfl
@[simp] theorem ti3 :Zm zQ 3=some ⟨.word,1,[.int .i64 0]⟩:=by kernel_rfl
@[simp] theorem ti4 :Zm zQ 4=some ⟨.word,1,[.bool false]⟩:=by kernel_rfl
@[simp] theorem ti5 :Zm zQ 5=some ⟨.word,1,[.int .u8 0]⟩:=by kernel_rfl
@[simp] theorem ti6 :Zm zQ 6=some ⟨.word,1,[.int .u8 0]⟩:=by kernel_rfl
@[simp] theorem ti7 :Zm zQ 7=some ⟨.struct [(0,1),(1,1),(2,1),(3,1)],4,[.int .i64 0,.int .i64 0,.bool false,.int .u8 0]⟩:=by kernel_rfl
@[simp] theorem ti8 :Zm zQ 8=some ⟨.struct [(0,1),(1,1),(2,1),(3,1)],4,[.int .i64 0,.int .i64 0,.bool false,.int .u8 0]⟩:=by kernel_rfl
@[simp] theorem ti9 :Zm zQ 9=some ⟨.word,1,[.string zE]⟩:=by kernel_rfl
@[simp] theorem ZTE :Zm zQ 32=some ⟨.slice 1 24 [.slice none 0 0],1,[.slice none 0 0]⟩:=by kernel_rfl
@[simp] theorem ZTP :ZER zQ 32=true:=by kernel_rfl
@[simp] theorem ZTD :Zm zQ 34=some ⟨.slice 2 40 [.string zE,.slice none 0 0],1,[.slice none 0 0]⟩:=by kernel_rfl
@[simp] theorem ZTO :ZER zQ 34=true:=by kernel_rfl
@[simp] theorem ZTC :Zm zQ 36=some ⟨.struct [(0,1),(1,1)],2,[.int .i64 0,.int .i64 0]⟩:=by kernel_rfl
@[simp] theorem ZTR :ZCV zQ 36=true:=by kernel_rfl
@[simp] theorem ZTB :Zm zQ 38=some ⟨.slice 9 88 [.int .i64 0,.int .i64 0,.int .i64 0,.int .i64 0,.int .i64 0,.slice none 0 0,.int .i64 0,.int .i64 0,.int .i64 0],1,[.slice none 0 0]⟩:=by kernel_rfl
@[simp] theorem ZTN :ZER zQ 38=true:=by kernel_rfl
@[simp] theorem ZTA :Zm zQ 40=some ⟨.slice 3 40 [.int .i64 0,.int .i64 0,.slice none 0 0],1,[.slice none 0 0]⟩:=by kernel_rfl
@[simp] theorem ZTM :ZER zQ 40=true:=by kernel_rfl
@[simp] theorem ZS9 :Zm zQ 42=some ⟨.struct [(0,1),(1,1),(2,1)],3,[.int .i64 0,.int .i64 0,.slice none 0 0]⟩:=by kernel_rfl
@[simp] theorem ZS8 :Zm zQ 53=some ⟨.slice 1 1 [.int .u8 0],1,[.slice none 0 0]⟩:=by kernel_rfl
@[simp] theorem ZTL :ZER zQ 53=true:=by kernel_rfl
@[simp] theorem ZS7 :Zm zQ 56=some ⟨.slice 1 8 [.int .i64 0],1,[.slice none 0 0]⟩:=by kernel_rfl
@[simp] theorem ZTK :ZER zQ 56=true:=by kernel_rfl
@[simp] theorem ZS6 :Zm zQ 72=some ⟨.slice 8 96 [.int .i64 0,.slice none 0 0,.int .i64 0,.int .i64 0,.int .i64 0,.int .i64 0,.slice none 0 0,.int .i64 0],1,[.slice none 0 0]⟩:=by kernel_rfl
@[simp] theorem ZTJ :ZER zQ 72=true:=by kernel_rfl
@[simp] theorem ZS5 :Zm zQ 76=some ⟨.slice 4 48 [.int .i64 0,.int .i64 0,.int .i64 0,.slice none 0 0],1,[.slice none 0 0]⟩:=by kernel_rfl
@[simp] theorem ZTI :ZER zQ 76=true:=by kernel_rfl
@[simp] theorem ZS4 :Zm zQ 80=some ⟨.slice 3 48 [.string zE,.slice none 0 0,.int .i64 0],1,[.slice none 0 0]⟩:=by kernel_rfl
@[simp] theorem ZTH :ZER zQ 80=true:=by kernel_rfl
@[simp] theorem ZS3 :Zm zQ 82=some ⟨.struct [(0,1),(1,1)],2,[.string zE,.slice none 0 0]⟩:=by kernel_rfl
@[simp] theorem ZS2 :Zm zQ 84=some ⟨.slice 6 64 [.int .i64 0,.int .i64 0,.int .i64 0,.int .i64 0,.int .i64 0,.slice none 0 0],1,[.slice none 0 0]⟩:=by kernel_rfl
@[simp] theorem ZTG :ZER zQ 84=true:=by kernel_rfl
@[simp] theorem ZS1 :Zm zQ 86=some ⟨.struct [(0,1),(1,1),(2,1),(3,1),(4,1),(5,1)],6,[.int .i64 0,.int .i64 0,.int .i64 0,.int .i64 0,.int .i64 0,.slice none 0 0]⟩:=by kernel_rfl
@[simp] theorem ZS0 :Zm zQ 87=some ⟨.struct [(0,1),(1,1),(2,1)],3,[.int .i64 0,.int .i64 0,.int .i64 0]⟩:=by kernel_rfl
@[simp] theorem ZTQ :ZDD zQ 87=true:=by kernel_rfl
@[simp] theorem ZSz :Zm zQ 89=some ⟨.struct [(0,6),(6,3)],9,[.int .i64 0,.int .i64 0,.int .i64 0,.int .i64 0,.int .i64 0,.slice none 0 0,.int .i64 0,.int .i64 0,.int .i64 0]⟩:=by kernel_rfl
@[simp] theorem ZSy :Zm zQ 94=some ⟨.slice 2 32 [.int .i64 0,.slice none 0 0],1,[.slice none 0 0]⟩:=by kernel_rfl
@[simp] theorem ZTF :ZER zQ 94=true:=by kernel_rfl
@[simp] theorem ZSx :Zm zQ 96=some ⟨.struct [(0,1),(1,1),(2,1),(3,1),(4,1),(5,1),(6,1),(7,1)],8,[.int .i64 0,.slice none 0 0,.int .i64 0,.int .i64 0,.int .i64 0,.int .i64 0,.slice none 0 0,.int .i64 0]⟩:=by kernel_rfl
@[simp] theorem ZSc :Zm zQ 125=some ⟨.slice 1 24 [.slice none 0 0],1,[.slice none 0 0]⟩:=by kernel_rfl
@[simp] theorem ZSh :ZER zQ 125=true:=by kernel_rfl
@[simp] theorem ZSb :Zm zQ 133=some ⟨.struct [(0,1),(1,1)],2,[.int .i64 0,.slice none 0 0]⟩:=by kernel_rfl
@[simp] theorem ZSa :Zm zQ 145=some ⟨.slice 2 16 [.int .i64 0,.int .i64 0],1,[.slice none 0 0]⟩:=by kernel_rfl
@[simp] theorem ZSg :ZER zQ 145=true:=by kernel_rfl
@[simp] theorem ZSZ :Zm zQ 147=some ⟨.struct [(0,1),(1,1),(2,1)],3,[.string zE,.slice none 0 0,.int .i64 0]⟩:=by kernel_rfl
@[simp] theorem ZSY :Zm zQ 172=some ⟨.struct [(0,1),(1,3)],4,[.int .i64 0,.int .i64 0,.int .i64 0,.slice none 0 0]⟩:=by kernel_rfl
@[simp] theorem ZSX :Zm zQ 180=some ⟨.word,1,[.int .u64 0]⟩:=by kernel_rfl
@[simp] theorem ZSW :Zm zQ 189=some ⟨.struct [(0,1),(1,1)],2,[.slice none 0 0,.int .i64 0]⟩:=by kernel_rfl
@[simp] theorem ZSV :Zm zQ 200=some ⟨.slice 3 24 [.int .i64 0,.int .i64 0,.int .i64 0],1,[.slice none 0 0]⟩:=by kernel_rfl
@[simp] theorem ZSf :ZER zQ 200=true:=by kernel_rfl
@[simp] theorem ZSU :Zm zQ 236=some ⟨.struct [(0,1),(1,2)],3,[.int .i64 0,.int .i64 0,.int .i64 0]⟩:=by kernel_rfl
@[simp] theorem ZSk :ZDD zQ 236=true:=by kernel_rfl
@[simp] theorem ZST :ZMS zQ 238=true:=by kernel_rfl
@[simp] theorem ZSS :Zm zQ 248=some ⟨.slice 1 16 [.string zE],1,[.slice none 0 0]⟩:=by kernel_rfl
@[simp] theorem ZSe :ZER zQ 248=true:=by kernel_rfl
@[simp] theorem ZSR :Zm zQ 261=some ⟨.array 6 1,6,[.bool false,.bool false,.bool false,.bool false,.bool false,.bool false]⟩:=by kernel_rfl
attribute [simp] Tryz.underlying2 Tryz.underlying3 Tryz.underlying4 Tryz.underlying5 Tryz.underlying6 Tryz.underlying9 Tryz.underlying32 Tryz.underlying34 Tryz.underlying38 Tryz.underlying40 Tryz.underlying53 Tryz.underlying56 Tryz.underlying72 Tryz.underlying76 Tryz.underlying80 Tryz.underlying84 Tryz.underlying94 Tryz.underlying125 Tryz.underlying145 Tryz.underlying180 Tryz.underlying200 Tryz.underlying248 Tryz.underlying261 Tryz.results5 Tryz.results9 Tryz.results14 Tryz.results26 Tryz.results27 Tryz.results28 Tryz.results32 Tryz.results33 Tryz.results34 Tryz.results35 Tryz.results39 Tryz.results40 Tryz.results41 Tryz.results42 Tryz.results43 Tryz.results54 Tryz.results55 Tryz.results61 Tryz.results62 Tryz.results65 Tryz.results66 Tryz.results67 Tryz.results68 Tryz.results69 Tryz.results70 Tryz.results71 Tryz.results75 Tryz.results76 Tryz.results77 Tryz.results78 Tryz.results81 Tryz.results82 Tryz.results83 Tryz.results84 Tryz.results85 Tryz.results86 Tryz.results87 Tryz.results88 Tryz.results89 Tryz.results97 Tryz.results98 Tryz.results99 Tryz.results100 Tryz.results103 Tryz.results104 Tryz.results105 Tryz.results106 Tryz.results107 Tryz.results108 Tryz.results109 Tryz.results110 Tryz.results111 Tryz.results112 Tryz.results115 Tryz.results116 Tryz.results117 Tryz.results118 Tryz.results119 Tryz.results120 Tryz.results124 Tryz.results125 Tryz.results126 Tryz.results127 Tryz.results128 Tryz.results129 Tryz.results130 Tryz.results131 Tryz.results134 Tryz.results135 Tryz.results136 Tryz.results137 Tryz.results138 Tryz.results140 Tryz.results141 Tryz.results142 Tryz.results143 Tryz.results144 Tryz.results145 Tryz.results146 Tryz.results147 Tryz.results149 Tryz.results150 Tryz.results151 Tryz.results152 Tryz.results153 Tryz.results154 Tryz.results165 Tryz.results167 Tryz.results168 Tryz.results169 Tryz.results170 Tryz.results171 Tryz.results172 Tryz.results173 Tryz.results174 Tryz.results175 Tryz.results176 Tryz.results177 Tryz.results178 Tryz.results179 Tryz.results180 Tryz.results181 Tryz.results182 Tryz.results183 Tryz.results190 Tryz.results191 Tryz.results192 Tryz.results193 Tryz.results194 Tryz.results195 Tryz.results196 Tryz.results197 Tryz.results198 Tryz.results199 Tryz.results200 Tryz.results201 Tryz.results202 Tryz.results203 Tryz.results204 Tryz.results205 Tryz.results206 Tryz.results208 Tryz.results209 Tryz.results210 Tryz.results211 Tryz.results212 Tryz.results213 Tryz.results214 Tryz.results215 Tryz.results216 Tryz.results217 Tryz.results218 Tryz.results219 Tryz.results220 Tryz.results221 Tryz.results222 Tryz.results223 Tryz.results224
variable (B : Nat) (hB1 : 1073741824 <= bd B) (hB2 : bd B <= 9223372036854775807)
include hB1 hB2
theorem C.f0  (r:List ByteArray)(hF:F.f0=some r):PureCall zQ B 190 [] (am cS r):=by
 unfold F.f0 at hF
 refine zG func190 rfl ntmps190 ?_
 cases hF
 exact kc0
theorem C.f1 (r':ZB)(n:Int)(r:Int×ZB)(hF:F.f1 r' n=some r):MutCall zQ B 136 [am cU r'.f0,li r'.f1] [.ptr 0 0,li n] (li r.1) [am cU r.2.f0,li r.2.f1]:=by
 unfold F.f1 at hF
 refine zI func136 rfl ntmps136 ?_
 revert hF;refine kN ?_ ?_<;>intro h1 q2 hF
 ·refine kx2 h1 q2 ?_
  revert hF;refine aS ?_ ?_<;>intro h3 q4 hF
  ·have z5:((r'.f0.length:Int)=0):=auz
   cases hF
   exact kc4 h1 q2 h3 z5
  ·have z5:¬((r'.f0.length:Int)=0):=auz
   refine kx5 h1 q2 h3 q4 z5 ?_
   revert hF;refine aS ?_ ?_<;>intro h6 q7 hF
   ·apply oB hF;intro x e8a hF
    have e8a:=ZQ e8a;obtain⟨ne8,e8⟩:=e8a
    have le8:=ZA e8
    apply oC hF;intro c9 hF
    cases hF
    repeat first|refine cg ?_|simp -dsimp[h1,q2,h3,q4,z5,h6,↓e8]
   ·refine kx7 h1 q2 h3 q4 z5 h6 q7 ?_
    refine zM follows ?_
    apply oC hF;intro c10 hF
    apply oB hF;intro x11 e12a hF
    have e12a:=ZQ e12a;obtain⟨ne12,e12⟩:=e12a
    have le12:=ZA e12
    apply oB hF;intro x13 e14a hF
    have e14a:=ZQ e14a;obtain⟨ne14,e14⟩:=e14a
    have le14:=ZA e14
    apply oC hF;intro c15 hF
    cases hF
    repeat first|refine cg ?_|simp -dsimp[h1,q2,h3,q4,z5,h6,q7,↓e12,↓e14]
 ·cases hF
  exact kc2 h1 q2
theorem CC.f2 (s:ByteArray)(c':Int):(∀(out:List ByteArray) (from':Nat) (i:Nat) (o:List ByteArray),F.f2 s c' out from' i=some o->∀(c:Code),ZS [1,1,1,0,1,0,0] (ZH Tryz.f208)=some c->∀(Q:Exit->ASt->Prop),(Q (.exit 0) ⟨[(5,.own 0 (zA (α:=ByteArray) o))],[.elems 1 (zB cS o)]⟩)->ALoopU zQ B 0 36 (hold c .mk) ⟨[(0,.lit (.string s)),(1,.lit (.int .u8 c')),(5,.own 0 (zA (α:=ByteArray) out)),(6,li (from':Int)),(7,li (i:Int))],[.elems 1 (zB cS out)]⟩ (hold Q .mk)):=by
 refine F.f2.partial_correctness s c'
  _
  ?_
 ·intro _f_f2 ih_f2 out from' i o hF
  refine ZJ rfl fun Q hq hk hs=> ?_
  have d0:=hs 0 _ rfl
  simp -dsimp[zR]at d0
  clear hk hs
  refine eN ?_
  revert hF;refine kS ?_ ?_<;>intro h1 q2 hF
  ·have z3:((i:Int)<=(s.size:Int)):=auz
   refine kx2 h1 z3 ?_
   revert hF;refine aN ?_ ?_<;>intro h4 q5 hF
   ·have z6:¬((i:Int)=(s.size:Int)):=auz
    apply oC hF;intro c7 hF
    refine kx5 h1 z3 h4 q5 z6 ?_
    revert hF;refine aS ?_ ?_<;>intro h8 q9 hF
    ·apply oC hF;intro c10 hF
     apply oC hF;intro c11 hF
     apply oC hF;intro c12 hF
     have w13:i64.wrap ((i:Int)+1)=(i:Int)+1:=ZC (by omega) (by omega)
     have w14:i64.wrap ((i:Int)+1)=(i:Int)+1:=ZC (by omega) (by omega)
     refine kx8 h1 z3 h4 q5 z6 h8 w13 w14 ?_
     refine zS ((ih_f2 (out++[s.extract from' i]) (i+1) (i+1) o hF) _ rfl _ hq)
    ·apply oC hF;intro c15 hF
     have w16:i64.wrap ((i:Int)+1)=(i:Int)+1:=ZC (by omega) (by omega)
     refine kx8 h1 z3 h4 q5 z6 h8 q9 w16 ?_
     refine zS ((ih_f2 out from' (i+1) o hF) _ rfl _ hq)
   ·have z6:((i:Int)=(s.size:Int)):=auz
    apply oC hF;intro c17 hF
    apply oC hF;intro c18 hF
    apply oC hF;intro c19 hF
    have w20:i64.wrap ((i:Int)+1)=(i:Int)+1:=ZC (by omega) (by omega)
    have w21:i64.wrap ((i:Int)+1)=(i:Int)+1:=ZC (by omega) (by omega)
    refine kx7 h1 z3 h4 q5 z6 w20 w21 ?_
    refine zS ((ih_f2 (out++[s.extract from' i]) (i+1) (i+1) o hF) _ rfl _ hq)
  ·have z3:¬((i:Int)<=(s.size:Int)):=auz
   cases hF
   refine kx3 h1 q2 z3 ?_
   refine zT hq
theorem C.f3 (s:ByteArray)(c':Int)(r:List ByteArray)(hF:F.f3 s c'=some r):PureCall zQ B 208 [.lit (.string s),.lit (.int .u8 c')] (am cS r):=by
 unfold F.f3 at hF
 refine zG func208 rfl ntmps208 ?_
 refine kx0 ?_
 obtain⟨o',ho22,hF⟩:=ob hF
 refine zU (((CC.f2 B hB1 hB2 s c') [] 0 0 o' ho22) _ rfl _ ?_)
 cases hF
 exact kc0
theorem CC.f4 (names:List ByteArray)(s:ByteArray):(∀(i:Nat) (o:Lo Int Unit),F.f4 names s i=some o->∀(c:Code),ZS [1,1,0,1,0,0] (ZH Tryz.f221)=some c->∀(Q:Exit->ASt->Prop),o.post (fun r=>∀st,ZAG zQ Tryz.f221 (fun r' _=>r'.le (li r)) .ret st->Q .ret st) (fun s=>Q (.exit 0) ⟨[],[]⟩)->ALoopU zQ B 0 21 (hold c .mk) ⟨[(0,am cS names),(1,.lit (.string s)),(5,li (i:Int))],[]⟩ (hold Q .mk)):=by
 refine F.f4.partial_correctness names s
  _
  ?_
 ·intro _f_f4 ih_f4 i o hF
  refine ZJ rfl fun Q hq hk hs=> ?_
  have b0:=hk 0
  simp -dsimp at b0
  clear hk hs
  refine eN ?_
  revert hF;refine kS ?_ ?_<;>intro h3 q4 hF
  ·have z5:((i:Int)<(names.length:Int)):=auz
   obtain⟨x,e6,hF⟩:=ob hF
   have le6:=ZA e6
   refine ZW h3 z5 e6 ?_
   revert hF;refine aS ?_ ?_<;>intro h7 q8 hF
   ·cases hF
    refine kx1 h7 ?_
    refine lG _ (gR _) (hq _ ?_)
    exact kc0
   ·have w9:i64.wrap ((i:Int)+1)=(i:Int)+1:=ZC (by omega) (by omega)
    refine kx2 q8 w9 ?_
    refine zS ((ih_f4 (i+1) o hF) _ rfl _ hq)
  ·have z5:¬((i:Int)<(names.length:Int)):=auz
   cases hF
   refine kx3 h3 q4 z5 ?_
   refine zT hq
theorem C.f5 (names:List ByteArray)(s:ByteArray)(r:Int)(hF:F.f5 names s=some r):PureCall zQ B 221 [am cS names,.lit (.string s)] (li r):=by
 unfold F.f5 at hF
 refine zG func221 rfl ntmps221 ?_
 revert hF;refine kS ?_ ?_<;>intro h1 q2 hF
 ·cases hF
  exact kc1 h1
 ·refine kx1 q2 ?_
  obtain⟨o',ho10,hF⟩:=ob hF
  refine zU (((CC.f4 B hB1 hB2 names s) 0 o' ho10) _ rfl _ ?_)
  rcases o' with r0|sx
  ·dsimp only at hF
   cases hF
   intro st h
   simpa using h
  ·dsimp only at hF
   cases hF
   exact kc0
theorem C.f6 (names:List ByteArray)(s:ByteArray)(r:Ty)(hF:F.f6 names s=some r):PureCall zQ B 218 [am cS names,.lit (.string s)] (.agg [li r.data,li r.index]):=by
 unfold F.f6 at hF
 refine zG func218 rfl ntmps218 ?_
 revert hF;refine kS ?_ ?_<;>intro h1 q2 hF
 ·cases hF
  exact kc1 h1
 ·obtain⟨c3,hF⟩:=oc hF
  refine kx1 q2 ?_
  obtain⟨v,e4,hF⟩:=ob hF
  refine((C.f5 B hB1 hB2 names (s.extract 0 1) v e4)).goI ?_
  revert hF;refine kS ?_ ?_<;>intro h5 q6 hF
  ·cases hF
   exact kc1 h5
  ·refine kx1 q6 ?_
   revert hF;refine aS ?_ ?_<;>intro h7 q8 hF
   ·have z9:((s.size:Int)=2):=auz
    obtain⟨c10,hF⟩:=oc hF
    refine kx2 h7 z9 ?_
    revert hF;refine aS ?_ ?_<;>intro h11 q12 hF
    ·have z13:(48<=((byteAt s 1:Nat):Int)):=auz
     refine kx2 h11 z13 ?_
     revert hF;refine aS ?_ ?_<;>intro h14 q15 hF
     ·have z16:(((byteAt s 1:Nat):Int)<=57):=auz
      cases hF
      exact kc2 h14 z16
     ·have z16:¬(((byteAt s 1:Nat):Int)<=57):=auz
      cases hF
      exact kc3 h14 q15 z16
    ·have z13:¬(48<=((byteAt s 1:Nat):Int)):=auz
     cases hF
     exact kc3 h11 q12 z13
   ·have z9:¬((s.size:Int)=2):=auz
    cases hF
    exact kc3 h7 q8 z9
theorem CC.f7 (names:List ByteArray)(s:ByteArray)(x:ByteArray)(v21:List ByteArray):(∀(out:List Ty) (i:Nat) (o:List Ty),F.f7 names s x v21 out i=some o->∀(c:Code),ZS [1,1,1,1,1,1,1,0,1,0,0] (ZH Tryz.f209)=some c->∀(Q:Exit->ASt->Prop),(Q (.exit 0) ⟨[(4,.ptr 0 0),(5,.ptr 1 0)],[.cells [.lit (.string zE),.lit (.slice none 0 0),li 0],.cells [.lit (.string x),.own 2 (zA (α:=Ty) o),.lit (.int .i64 (i64.wrap (i64.wrap ((byteAt s ((i64.wrap ((s.size:Int) -1)).toNat):Nat):Int) -48)))],.elems 2 (zB zW o)]⟩)->ALoopU zQ B 0 83 (hold c .mk) ⟨[(0,am cS names),(4,.ptr 0 0),(5,.ptr 1 0),(7,am cS v21),(8,li (i:Int))],[.cells [.lit (.string zE),.lit (.slice none 0 0),li 0],.cells [.lit (.string x),.own 2 (zA (α:=Ty) out),.lit (.int .i64 (i64.wrap (i64.wrap ((byteAt s ((i64.wrap ((s.size:Int) -1)).toNat):Nat):Int) -48)))],.elems 2 (zB zW out)]⟩ (hold Q .mk)):=by
 refine F.f7.partial_correctness names s x v21
  _
  ?_
 ·intro _f_f7 ih_f7 out i o hF
  refine ZJ rfl fun Q hq hk hs=> ?_
  have b0:=hk 0
  simp -dsimp at b0
  have b7:=hk 7
  simp -dsimp at b7
  have d2:=hs 2 _ rfl
  simp -dsimp[zR]at d2
  clear hk hs
  refine eN ?_
  revert hF;refine kS ?_ ?_<;>intro h23 q24 hF
  ·have z25:((i:Int)<(v21.length:Int)):=auz
   refine kx2 h23 z25 ?_
   revert hF;refine aS ?_ ?_<;>intro h26 q27 hF
   ·have z28:((i:Int)<=3):=auz
    refine kx2 h26 z28 ?_
    refine zL [] [(0,1),(0,1),(0,0),(0,0),(0,0),(0,0),(0,0),(0,3),(0,3),(0,3),(2,2),(0,3)] [0,2,1,1,1,1,1,1,1,1,1,1] follows ?_
    obtain⟨x29,e30,hF⟩:=ob hF
    have le30:=ZA e30
    refine kdd e30 ?_
    obtain⟨v31,e32,hF⟩:=ob hF
    refine((C.f6 B hB1 hB2 names x29 v31 e32)).pgoW (by simp_all) (by simp) ?_
    obtain⟨c33,hF⟩:=oc hF
    have w34:i64.wrap ((i:Int)+1)=(i:Int)+1:=ZC (by omega) (by omega)
    refine kx1 w34 ?_
    refine zS ((ih_f7 (out++[v31]) (i+1) o hF) _ rfl _ hq)
   ·have z28:¬((i:Int)<=3):=auz
    cases hF
    refine kx3 h26 q27 z28 ?_
    refine zT hq
  ·have z25:¬((i:Int)<(v21.length:Int)):=auz
   cases hF
   refine kx3 h23 q24 z25 ?_
   refine zT hq
theorem CC.f8 (names:List ByteArray)(x38:ByteArray)(v49:List ByteArray):(∀(out51:List Ty) (i52:Nat) (o:List Ty),F.f8 names x38 v49 out51 i52=some o->∀(c:Code),ZS [1,1,1,1,1,1,1,0,1,0,0] (ZH Tryz.f209)=some c->∀(Q:Exit->ASt->Prop),(Q (.exit 0) ⟨[(4,.ptr 0 0),(5,.ptr 1 0)],[.cells [.lit (.string zE),.lit (.slice none 0 0),li 0],.cells [.lit (.string x38),.own 2 (zA (α:=Ty) o),li 0],.elems 2 (zB zW o)]⟩)->ALoopU zQ B 0 83 (hold c .mk) ⟨[(0,am cS names),(4,.ptr 0 0),(5,.ptr 1 0),(7,am cS v49),(8,li (i52:Int))],[.cells [.lit (.string zE),.lit (.slice none 0 0),li 0],.cells [.lit (.string x38),.own 2 (zA (α:=Ty) out51),li 0],.elems 2 (zB zW out51)]⟩ (hold Q .mk)):=by
 refine F.f8.partial_correctness names x38 v49
  _
  ?_
 ·intro _f_f8 ih_f8 out51 i52 o hF
  refine ZJ rfl fun Q hq hk hs=> ?_
  have b0:=hk 0
  simp -dsimp at b0
  have b7:=hk 7
  simp -dsimp at b7
  have d2:=hs 2 _ rfl
  simp -dsimp[zR]at d2
  clear hk hs
  refine eN ?_
  revert hF;refine kS ?_ ?_<;>intro h53 q54 hF
  ·have z55:((i52:Int)<(v49.length:Int)):=auz
   refine kx2 h53 z55 ?_
   revert hF;refine aS ?_ ?_<;>intro h56 q57 hF
   ·have z58:((i52:Int)<=3):=auz
    refine kx2 h56 z58 ?_
    refine zL [] [(0,1),(0,1),(0,0),(0,0),(0,0),(0,0),(0,0),(0,3),(0,3),(0,3),(2,2),(0,3)] [0,2,1,1,1,1,1,1,1,1,1,1] follows ?_
    obtain⟨x59,e60,hF⟩:=ob hF
    have le60:=ZA e60
    refine kdd e60 ?_
    obtain⟨v61,e62,hF⟩:=ob hF
    refine((C.f6 B hB1 hB2 names x59 v61 e62)).pgoW (by simp_all) (by simp) ?_
    obtain⟨c63,hF⟩:=oc hF
    have w64:i64.wrap ((i52:Int)+1)=(i52:Int)+1:=ZC (by omega) (by omega)
    refine kx1 w64 ?_
    refine zS ((ih_f8 (out51++[v61]) (i52+1) o hF) _ rfl _ hq)
   ·have z58:¬((i52:Int)<=3):=auz
    cases hF
    refine kx3 h56 q57 z58 ?_
    refine zT hq
  ·have z55:¬((i52:Int)<(v49.length:Int)):=auz
   cases hF
   refine kx3 h53 q54 z55 ?_
   refine zT hq
theorem CC.f9 (names:List ByteArray)(x69:ByteArray)(v80:List ByteArray):(∀(out82:List Ty) (i83:Nat) (o:List Ty),F.f9 names x69 v80 out82 i83=some o->∀(c:Code),ZS [1,1,1,1,1,1,1,0,1,0,0] (ZH Tryz.f209)=some c->∀(Q:Exit->ASt->Prop),(Q (.exit 0) ⟨[(4,.ptr 0 0),(5,.ptr 1 0)],[.cells [.lit (.string zE),.lit (.slice none 0 0),li 0],.cells [.lit (.string x69),.own 2 (zA (α:=Ty) o),li 0],.elems 2 (zB zW o)]⟩)->ALoopU zQ B 0 83 (hold c .mk) ⟨[(0,am cS names),(4,.ptr 0 0),(5,.ptr 1 0),(7,am cS v80),(8,li (i83:Int))],[.cells [.lit (.string zE),.lit (.slice none 0 0),li 0],.cells [.lit (.string x69),.own 2 (zA (α:=Ty) out82),li 0],.elems 2 (zB zW out82)]⟩ (hold Q .mk)):=by
 refine F.f9.partial_correctness names x69 v80
  _
  ?_
 ·intro _f_f9 ih_f9 out82 i83 o hF
  refine ZJ rfl fun Q hq hk hs=> ?_
  have b0:=hk 0
  simp -dsimp at b0
  have b7:=hk 7
  simp -dsimp at b7
  have d2:=hs 2 _ rfl
  simp -dsimp[zR]at d2
  clear hk hs
  refine eN ?_
  revert hF;refine kS ?_ ?_<;>intro h84 q85 hF
  ·have z86:((i83:Int)<(v80.length:Int)):=auz
   refine kx2 h84 z86 ?_
   revert hF;refine aS ?_ ?_<;>intro h87 q88 hF
   ·have z89:((i83:Int)<=3):=auz
    refine kx2 h87 z89 ?_
    refine zL [] [(0,1),(0,1),(0,0),(0,0),(0,0),(0,0),(0,0),(0,3),(0,3),(0,3),(2,2),(0,3)] [0,2,1,1,1,1,1,1,1,1,1,1] follows ?_
    obtain⟨x90,e91,hF⟩:=ob hF
    have le91:=ZA e91
    refine kdd e91 ?_
    obtain⟨v92,e93,hF⟩:=ob hF
    refine((C.f6 B hB1 hB2 names x90 v92 e93)).pgoW (by simp_all) (by simp) ?_
    obtain⟨c94,hF⟩:=oc hF
    have w95:i64.wrap ((i83:Int)+1)=(i83:Int)+1:=ZC (by omega) (by omega)
    refine kx1 w95 ?_
    refine zS ((ih_f9 (out82++[v92]) (i83+1) o hF) _ rfl _ hq)
   ·have z89:¬((i83:Int)<=3):=auz
    cases hF
    refine kx3 h87 q88 z89 ?_
    refine zT hq
  ·have z86:¬((i83:Int)<(v80.length:Int)):=auz
   cases hF
   refine kx3 h84 q85 z86 ?_
   refine zT hq
theorem C.f10 (names:List ByteArray)(s:ByteArray)(r:Ctor)(hF:F.f10 names s=some r):PureCall zQ B 209 [am cS names,.lit (.string s)] (.agg [.lit (.string r.name),am zW r.args,li r.index]):=by
 unfold F.f10 at hF
 refine zG func209 rfl ntmps209 ?_
 revert hF;refine kS ?_ ?_<;>intro h1 q2 hF
 ·have z3:(2<(s.size:Int)):=auz
  apply oC hF;intro c4 hF
  refine kx2 h1 z3 ?_
  revert hF;refine aS ?_ ?_<;>intro h5 q6 hF
  ·have z7:(((byteAt s ((i64.wrap ((s.size:Int) -2)).toNat):Nat):Int)=58):=auz
   apply oC hF;intro c8 hF
   apply oC hF;intro c9 hF
   refine kx2 h5 z7 ?_
   apply oB hF;intro v e10 hF
   refine((C.f3 B hB1 hB2 (s.extract 0 ((i64.wrap ((s.size:Int) -2)).toNat)) 40 v e10)).goI ?_
   apply oB hF;intro x e11 hF
   have le11:=ZA e11
   refine kdd e11 ?_
   revert hF;refine aN ?_ ?_<;>intro h12 q13 hF
   ·have z14:¬((v.length:Int)<2):=auz
    apply oB hF;intro x15 e16 hF
    have le16:=ZA e16
    repeat first|refine cg ?_|simp -dsimp[↓e11,h12,q13,z14,↓e16]
    revert hF;refine aS ?_ ?_<;>intro h17 q18 hF
    ·have z19:((x15.size:Int)=0):=auz
     cases hF
     repeat first|refine cg ?_|simp -dsimp[↓e11,↓e16,h17,z19]
    ·have z19:¬((x15.size:Int)=0):=auz
     repeat first|refine cg ?_|simp -dsimp[↓e11,↓e16,h17,q18,z19]
     refine zM follows ?_
     apply oC hF;intro c20 hF
     refine ZEQ e11 e16 ?_
     apply oB hF;intro v21 e22 hF
     refine((C.f3 B hB1 hB2 (x15.extract 0 ((i64.wrap ((x15.size:Int) -1)).toNat)) 44 v21 e22)).pgoW (by simp_all) (by simp) ?_
     refine ZEQ e11 e16 ?_
     apply oB hF;intro o' ho35 hF
     refine zV ⟨[(0,.arr (zB cS names)),(4,.ptr 0 0),(5,.ptr 1 0),(7,.arr (zB cS v21)),(8,.lit (.int .i64 0))],[.cells [.lit (.string zE),.lit (.slice none 0 0),.lit (.int .i64 0)],.cells [.lit (.string x),.own 2 (zA (α:=Ty) []),.lit (.int .i64 (i64.wrap (i64.wrap ((byteAt s ((i64.wrap ((s.size:Int) -1)).toNat):Nat):Int) -48)))],.elems 2 (zB zW [])]⟩ (by refine zX (zY 1 1 2 (by simp -dsimp;rfl) (by simp -dsimp)) ?_;exact(gT (by simp) (by simp_all))) ?_
     refine((CC.f7 B hB1 hB2 names s x v21) [] 0 o' ho35) _ rfl _ ?_
     cases hF
     exact kc0
   ·have z14:((v.length:Int)<2):=auz
    cases hF
    repeat first|refine cg ?_|simp -dsimp[↓e11,h12,q13,z14]
  ·have z7:¬(((byteAt s ((i64.wrap ((s.size:Int) -2)).toNat):Nat):Int)=58):=auz
   refine kx3 h5 q6 z7 ?_
   apply oB hF;intro v36 e37 hF
   refine((C.f3 B hB1 hB2 s 40 v36 e37)).goI ?_
   apply oB hF;intro x38 e39 hF
   have le39:=ZA e39
   refine kdd e39 ?_
   revert hF;refine aN ?_ ?_<;>intro h40 q41 hF
   ·have z42:¬((v36.length:Int)<2):=auz
    apply oB hF;intro x43 e44 hF
    have le44:=ZA e44
    repeat first|refine cg ?_|simp -dsimp[↓e39,h40,q41,z42,↓e44]
    revert hF;refine aS ?_ ?_<;>intro h45 q46 hF
    ·have z47:((x43.size:Int)=0):=auz
     cases hF
     repeat first|refine cg ?_|simp -dsimp[↓e39,↓e44,h45,z47]
    ·have z47:¬((x43.size:Int)=0):=auz
     repeat first|refine cg ?_|simp -dsimp[↓e39,↓e44,h45,q46,z47]
     refine zM follows ?_
     apply oC hF;intro c48 hF
     refine ZEQ e39 e44 ?_
     apply oB hF;intro v49 e50 hF
     refine((C.f3 B hB1 hB2 (x43.extract 0 ((i64.wrap ((x43.size:Int) -1)).toNat)) 44 v49 e50)).pgoW (by simp_all) (by simp) ?_
     refine ZEQ e39 e44 ?_
     apply oB hF;intro o'66 ho65 hF
     refine zV ⟨[(0,.arr (zB cS names)),(4,.ptr 0 0),(5,.ptr 1 0),(7,.arr (zB cS v49)),(8,.lit (.int .i64 0))],[.cells [.lit (.string zE),.lit (.slice none 0 0),.lit (.int .i64 0)],.cells [.lit (.string x38),.own 2 (zA (α:=Ty) []),.lit (.int .i64 0)],.elems 2 (zB zW [])]⟩ (by refine zX (zY 1 1 2 (by simp -dsimp;rfl) (by simp -dsimp)) ?_;exact(gT (by simp) (by simp_all))) ?_
     refine((CC.f8 B hB1 hB2 names x38 v49) [] 0 o'66 ho65) _ rfl _ ?_
     cases hF
     exact kc0
   ·have z42:((v36.length:Int)<2):=auz
    cases hF
    repeat first|refine cg ?_|simp -dsimp[↓e39,h40,q41,z42]
 ·have z3:¬(2<(s.size:Int)):=auz
  refine kx3 h1 q2 z3 ?_
  apply oB hF;intro v67 e68 hF
  refine((C.f3 B hB1 hB2 s 40 v67 e68)).goI ?_
  apply oB hF;intro x69 e70 hF
  have le70:=ZA e70
  refine kdd e70 ?_
  revert hF;refine aN ?_ ?_<;>intro h71 q72 hF
  ·have z73:¬((v67.length:Int)<2):=auz
   apply oB hF;intro x74 e75 hF
   have le75:=ZA e75
   repeat first|refine cg ?_|simp -dsimp[↓e70,h71,q72,z73,↓e75]
   revert hF;refine aS ?_ ?_<;>intro h76 q77 hF
   ·have z78:((x74.size:Int)=0):=auz
    cases hF
    repeat first|refine cg ?_|simp -dsimp[↓e70,↓e75,h76,z78]
   ·have z78:¬((x74.size:Int)=0):=auz
    repeat first|refine cg ?_|simp -dsimp[↓e70,↓e75,h76,q77,z78]
    refine zM follows ?_
    apply oC hF;intro c79 hF
    refine ZEQ e70 e75 ?_
    apply oB hF;intro v80 e81 hF
    refine((C.f3 B hB1 hB2 (x74.extract 0 ((i64.wrap ((x74.size:Int) -1)).toNat)) 44 v80 e81)).pgoW (by simp_all) (by simp) ?_
    refine ZEQ e70 e75 ?_
    apply oB hF;intro o'97 ho96 hF
    refine zV ⟨[(0,.arr (zB cS names)),(4,.ptr 0 0),(5,.ptr 1 0),(7,.arr (zB cS v80)),(8,.lit (.int .i64 0))],[.cells [.lit (.string zE),.lit (.slice none 0 0),.lit (.int .i64 0)],.cells [.lit (.string x69),.own 2 (zA (α:=Ty) []),.lit (.int .i64 0)],.elems 2 (zB zW [])]⟩ (by refine zX (zY 1 1 2 (by simp -dsimp;rfl) (by simp -dsimp)) ?_;exact(gT (by simp) (by simp_all))) ?_
    refine((CC.f9 B hB1 hB2 names x69 v80) [] 0 o'97 ho96) _ rfl _ ?_
    cases hF
    exact kc0
  ·have z73:((v67.length:Int)<2):=auz
   cases hF
   repeat first|refine cg ?_|simp -dsimp[↓e70,h71,q72,z73]
theorem C.f11 (c':Int)(r:Bool)(hF:F.f11 c'=some r):PureCall zQ B 195 [.lit (.int .u8 c')] (.lit (.bool r)):=by
 unfold F.f11 at hF
 refine zG func195 rfl ntmps195 ?_
 revert hF;refine kS ?_ ?_<;>intro h1 q2 hF
 ·cases hF
  exact kc1 h1
 ·cases hF
  exact kc1 q2
theorem C.f12 (s:ByteArray)(r:Bool)(hF:F.f12 s=some r):PureCall zQ B 172 [.lit (.string s)] (.lit (.bool r)):=by
 unfold F.f12 at hF
 refine zG func172 rfl ntmps172 ?_
 revert hF;refine kS ?_ ?_<;>intro h1 q2 hF
 ·have z3:((s.size:Int)=1):=auz
  obtain⟨c4,hF⟩:=oc hF
  refine kx2 h1 z3 ?_
  obtain⟨v,e5,hF⟩:=ob hF
  refine((C.f11 B hB1 hB2 ((byteAt s 0:Nat):Int) v e5)).goI ?_
  refine kx2 h1 z3 ?_
  revert hF;refine aS (fun h6 q7 hF=> ?_) (fun h6 q7 hF=> ?_)
  ·cases hF
   exact kc3 h1 z3 h6
  ·cases hF
   exact kc4 h1 z3 h6 q7
 ·have z3:¬((s.size:Int)=1):=auz
  cases hF
  exact kc3 h1 q2 z3
theorem CC.f13 (s:ByteArray):(∀(i:Nat) (o:Lo Bool Unit),F.f13 s i=some o->∀(c:Code),ZS [1,1,0,1,0,0] (ZH Tryz.f196)=some c->∀(Q:Exit->ASt->Prop),o.post (fun r=>∀st,ZAG zQ Tryz.f196 (fun r' _=>r'.le (.lit (.bool r))) .ret st->Q .ret st) (fun s=>Q (.exit 0) ⟨[],[]⟩)->ALoopU zQ B 0 34 (hold c .mk) ⟨[(0,.lit (.string s)),(3,li (i:Int))],[]⟩ (hold Q .mk)):=by
 refine F.f13.partial_correctness s
  _
  ?_
 ·intro _f_f13 ih_f13 i o hF
  refine ZJ rfl fun Q hq hk hs=> ?_
  clear hk hs
  refine eN ?_
  revert hF;refine kS ?_ ?_<;>intro h11 q12 hF
  ·have z13:((i:Int)<(s.size:Int)):=auz
   refine kx2 h11 z13 ?_
   revert hF;refine aN ?_ ?_<;>intro h14 q15 hF
   ·have z16:¬(((byteAt s i:Nat):Int)<97):=auz
    refine kx5 h11 z13 h14 q15 z16 ?_
    revert hF;refine aS ?_ ?_<;>intro h17 q18 hF
    ·have z19:(122<((byteAt s i:Nat):Int)):=auz
     cases hF
     refine kx7 h11 z13 h14 q15 z16 h17 z19 ?_
     refine lG _ (gR _) (hq _ ?_)
     exact kc7 h11 z13 h14 q15 z16 h17 z19
    ·have z19:¬(122<((byteAt s i:Nat):Int)):=auz
     obtain⟨c20,hF⟩:=oc hF
     have w21:i64.wrap ((i:Int)+1)=(i:Int)+1:=ZC (by omega) (by omega)
     refine kx9 h11 z13 h14 q15 z16 h17 q18 z19 w21 ?_
     refine zS ((ih_f13 (i+1) o hF) _ rfl _ hq)
   ·have z16:(((byteAt s i:Nat):Int)<97):=auz
    cases hF
    refine kx5 h11 z13 h14 q15 z16 ?_
    refine lG _ (gR _) (hq _ ?_)
    exact kc5 h11 z13 h14 q15 z16
  ·have z13:¬((i:Int)<(s.size:Int)):=auz
   cases hF
   refine kx3 h11 q12 z13 ?_
   refine zT hq
theorem C.f14 (s:ByteArray)(r:Bool)(hF:F.f14 s=some r):PureCall zQ B 196 [.lit (.string s)] (.lit (.bool r)):=by
 unfold F.f14 at hF
 refine zG func196 rfl ntmps196 ?_
 revert hF;refine kN ?_ ?_<;>intro h1 q2 hF
 ·have z3:¬((s.size:Int)=0):=auz
  refine kx3 h1 q2 z3 ?_
  revert hF;refine aN ?_ ?_<;>intro h4 q5 hF
  ·have z6:¬(5<(s.size:Int)):=auz
   obtain⟨c7,hF⟩:=oc hF
   refine kx6 h1 q2 z3 h4 q5 z6 ?_
   obtain⟨v,e8,hF⟩:=ob hF
   refine((C.f11 B hB1 hB2 ((byteAt s 0:Nat):Int) v e8)).goI ?_
   refine kx6 h1 q2 z3 h4 q5 z6 ?_
   revert hF;refine aN (fun h9 q10 hF=> ?_) (fun h9 q10 hF=> ?_)
   ·cases hF
    exact kc8 h1 q2 z3 h4 q5 z6 h9 q10
   ·refine kx8 h1 q2 z3 h4 q5 z6 h9 q10 ?_
    obtain⟨o',ho22,hF⟩:=ob hF
    refine zU (((CC.f13 B hB1 hB2 s) 1 o' ho22) _ rfl _ ?_)
    rcases o' with r0|sx
    ·dsimp only at hF
     cases hF
     intro st h
     simpa using h
    ·dsimp only at hF
     cases hF
     exact kc0
  ·have z6:(5<(s.size:Int)):=auz
   cases hF
   exact kc6 h1 q2 z3 h4 q5 z6
 ·have z3:((s.size:Int)=0):=auz
  cases hF
  exact kc3 h1 q2 z3
theorem C.f15 (n:Int)(t:Ty)(r:Bool)(hF:F.f15 n t=some r):PureCall zQ B 175 [li n,.agg [li t.data,li t.index]] (.lit (.bool r)):=by
 unfold F.f15 at hF
 refine zG func175 rfl ntmps175 ?_
 revert hF;refine kS ?_ ?_<;>intro h1 q2 hF
 ·cases hF
  exact kc1 h1
 ·refine kx1 q2 ?_
  revert hF;refine aS ?_ ?_<;>intro h3 q4 hF
  ·refine kx1 h3 ?_
   revert hF;refine aS ?_ ?_<;>intro h5 q6 hF
   ·refine kx1 h5 ?_
    revert hF;refine aS ?_ ?_<;>intro h7 q8 hF
    ·cases hF
     exact kc1 h7
    ·cases hF
     exact kc1 q8
   ·cases hF
    exact kc1 q6
  ·cases hF
   exact kc1 q4
theorem CC.f16 (n:Int)(c':Ctor):(∀(i:Nat) (o:Lo Bool Unit),F.f16 n c' i=some o->∀(c:Code),ZS [1,1,0,1,0,0] (ZH Tryz.f173)=some c->∀(Q:Exit->ASt->Prop),o.post (fun r=>∀st,ZAG zQ Tryz.f173 (fun r' _=>r'.le (.lit (.bool r))) .ret st->Q .ret st) (fun s=>Q (.exit 0) ⟨[],[]⟩)->ALoopU zQ B 0 41 (hold c .mk) ⟨[(0,li n),(3,.ptr 0 0),(5,li (i:Int))],[.cells [.lit (.string c'.name),am zW c'.args,li c'.index]]⟩ (hold Q .mk)):=by
 refine F.f16.partial_correctness n c'
  _
  ?_
 ·intro _f_f16 ih_f16 i o hF
  refine ZJ rfl fun Q hq hk hs=> ?_
  have d0:=hs 0 _ rfl
  simp -dsimp[zR]at d0
  clear hk hs
  refine eN ?_
  revert hF;refine kS ?_ ?_<;>intro h11 q12 hF
  ·have z13:((i:Int)<(c'.args.length:Int)):=auz
   obtain⟨x,e14,hF⟩:=ob hF
   have le14:=ZA e14
   refine ZW h11 z13 e14 ?_
   obtain⟨v15,e16,hF⟩:=ob hF
   refine((C.f15 B hB1 hB2 n x v15 e16)).goI ?_
   revert hF;refine kN (fun h17 q18 hF=> ?_) (fun h17 q18 hF=> ?_)
   ·cases hF
    refine kx2 h17 q18 ?_
    refine lG _ (gR _) (hq _ ?_)
    exact kc0
   ·have w19:i64.wrap ((i:Int)+1)=(i:Int)+1:=ZC (by omega) (by omega)
    refine kx1 w19 ?_
    refine zS ((ih_f16 (i+1) o hF) _ rfl _ hq)
  ·have z13:¬((i:Int)<(c'.args.length:Int)):=auz
   cases hF
   refine kx3 h11 q12 z13 ?_
   refine zT hq
theorem C.f17 (n:Int)(c':Ctor)(r:Bool)(hF:F.f17 n c'=some r):PureCall zQ B 173 [li n,.agg [.lit (.string c'.name),am zW c'.args,li c'.index]] (.lit (.bool r)):=by
 unfold F.f17 at hF
 refine zG func173 rfl ntmps173 ?_
 refine kx0 ?_
 obtain⟨v,e1,hF⟩:=ob hF
 refine((C.f14 B hB1 hB2 c'.name v e1)).goI ?_
 revert hF;refine kS (fun h2 q3 hF=> ?_) (fun h2 q3 hF=> ?_)
 ·refine kx1 h2 ?_
  revert hF;refine aN ?_ ?_<;>intro h4 q5 hF
  ·have z6:¬(3<(c'.args.length:Int)):=auz
   refine kx4 h2 h4 q5 z6 ?_
   revert hF;refine aN ?_ ?_<;>intro h7 q8 hF
   ·refine kx6 h2 h4 q5 z6 h7 q8 ?_
    revert hF;refine aS ?_ ?_<;>intro h9 q10 hF
    ·cases hF
     exact kc7 h2 h4 q5 z6 h7 q8 h9
    ·refine kx8 h2 h4 q5 z6 h7 q8 h9 q10 ?_
     obtain⟨o',ho20,hF⟩:=ob hF
     refine zU (((CC.f16 B hB1 hB2 n c') 0 o' ho20) _ rfl _ ?_)
     rcases o' with r0|sx
     ·dsimp only at hF
      cases hF
      intro st h
      simpa using h
     ·dsimp only at hF
      cases hF
      exact kc0
   ·cases hF
    exact kc6 h2 h4 q5 z6 h7 q8
  ·have z6:(3<(c'.args.length:Int)):=auz
   cases hF
   exact kc4 h2 h4 q5 z6
 ·cases hF
  exact kc2 h2 q3
theorem CC.f18 (w:List yB)(d:Int)(k:Int)(i:Nat):(∀(j:Nat) (o:Lo Bool Unit),F.f18 w d k i j=some o->∀(c:Code),ZS [1,0,1,0,0,1,0,0,1,1,0,0] (ZH Tryz.f174)=some c->∀(Q:Exit->ASt->Prop),o.post (fun r=>∀st,ZAG zQ Tryz.f174 (fun r' _=>r'.le (.lit (.bool r))) .ret st->Q .ret st) (fun s=>Q (.exit 2) ⟨[(0,am yC w),(1,li d),(2,li k),(7,li (i:Int))],[]⟩)->ALoopU zQ B 0 79 (hold c .mk) ⟨[(0,am yC w),(1,li d),(2,li k),(7,li (i:Int)),(8,li (j:Int))],[]⟩ (hold Q .mk)):=by
 refine F.f18.partial_correctness w d k i
  _
  ?_
 ·intro _f_f18 ih_f18 j o hF
  refine ZJ rfl fun Q hq hk hs=> ?_
  have b0:=hk 0
  simp -dsimp at b0
  clear hk hs
  refine eN ?_
  apply oB hF;intro x10 e11 hF
  have le11:=ZA e11
  refine kdd e11 ?_
  revert hF;refine aS ?_ ?_<;>intro h12 q13 hF
  ·have z14:((j:Int)<(x10.ctors.length:Int)):=auz
   refine kx2 h12 z14 ?_
   revert hF;refine aN ?_ ?_<;>intro h15 q16 hF
   ·repeat first|refine cg ?_|simp -dsimp[↓e11,h12,z14,h15,q16]
    revert hF;refine aS ?_ ?_<;>intro h17 q18 hF
    ·repeat first|refine cg ?_|simp -dsimp[↓e11,h12,z14,h15,q16,h17]
     refine zM follows ?_
     apply oB hF;intro x19 e20a hF
     have e20a:=ZQ e20a;obtain⟨ne20,e20⟩:=e20a
     have le20:=ZA e20
     refine kdd e20 ?_
     revert hF;refine aS ?_ ?_<;>intro h21 q22 hF
     ·apply oB hF;intro x23 e24 hF
      have le24:=ZA e24
      apply oB hF;intro x25 e26a hF
      have e26a:=ZQ e26a;obtain⟨ne26,e26⟩:=e26a
      have le26:=ZA e26
      repeat first|refine cg ?_|simp -dsimp[↓e11,h12,z14,h15,q16,h17,↓e20,h21,↓e24,↓e26]
      revert hF;refine aS ?_ ?_<;>intro h27 q28 hF
      ·cases hF
       refine kx1 h27 ?_
       refine lG _ (gR _) (hq _ ?_)
       exact kc0
      ·apply oC hF;intro c29 hF
       have w30:i64.wrap ((j:Int)+1)=(j:Int)+1:=ZC (by omega) (by omega)
       refine kx2 q28 w30 ?_
       refine zS ((ih_f18 (j+1) o hF) _ rfl _ hq)
     ·apply oC hF;intro c31 hF
      have w32:i64.wrap ((j:Int)+1)=(j:Int)+1:=ZC (by omega) (by omega)
      refine kx3 h21 q22 w32 ?_
      refine zS ((ih_f18 (j+1) o hF) _ rfl _ hq)
    ·cases hF
     repeat first|refine cg ?_|simp -dsimp[↓e11,h12,z14,h15,q16,h17,q18]
     refine zT hq
   ·repeat first|refine cg ?_|simp -dsimp[↓e11,h12,z14,h15,q16]
    refine zM follows ?_
    apply oB hF;intro x33 e34a hF
    have e34a:=ZQ e34a;obtain⟨ne34,e34⟩:=e34a
    have le34:=ZA e34
    refine kdd e34 ?_
    revert hF;refine aS ?_ ?_<;>intro h35 q36 hF
    ·apply oB hF;intro x37 e38 hF
     have le38:=ZA e38
     apply oB hF;intro x39 e40a hF
     have e40a:=ZQ e40a;obtain⟨ne40,e40⟩:=e40a
     have le40:=ZA e40
     repeat first|refine cg ?_|simp -dsimp[↓e11,h12,z14,h15,q16,↓e34,h35,↓e38,↓e40]
     revert hF;refine aS ?_ ?_<;>intro h41 q42 hF
     ·cases hF
      refine kx1 h41 ?_
      refine lG _ (gR _) (hq _ ?_)
      exact kc0
     ·apply oC hF;intro c43 hF
      have w44:i64.wrap ((j:Int)+1)=(j:Int)+1:=ZC (by omega) (by omega)
      refine kx2 q42 w44 ?_
      refine zS ((ih_f18 (j+1) o hF) _ rfl _ hq)
    ·apply oC hF;intro c45 hF
     have w46:i64.wrap ((j:Int)+1)=(j:Int)+1:=ZC (by omega) (by omega)
     refine kx3 h35 q36 w46 ?_
     refine zS ((ih_f18 (j+1) o hF) _ rfl _ hq)
  ·have z14:¬((j:Int)<(x10.ctors.length:Int)):=auz
   cases hF
   refine kx3 h12 q13 z14 ?_
   refine zT hq
theorem CC.f19 (w:List yB)(d:Int)(k:Int)(i:Nat):(∀(j50:Nat) (o:Lo Bool Unit),F.f19 w d k i j50=some o->∀(c:Code),ZS [1,0,1,0,0,1,0,0,1,1,0,0] (ZH Tryz.f174)=some c->∀(Q:Exit->ASt->Prop),o.post (fun r=>∀st,ZAG zQ Tryz.f174 (fun r' _=>r'.le (.lit (.bool r))) .ret st->Q .ret st) (fun s=>Q (.exit 2) ⟨[(0,am yC w),(1,li d),(2,li k),(7,li (i:Int))],[]⟩)->ALoopU zQ B 0 79 (hold c .mk) ⟨[(0,am yC w),(1,li d),(2,li k),(7,li (i:Int)),(8,li (j50:Int))],[]⟩ (hold Q .mk)):=by
 refine F.f19.partial_correctness w d k i
  _
  ?_
 ·intro _f_f19 ih_f19 j50 o hF
  refine ZJ rfl fun Q hq hk hs=> ?_
  have b0:=hk 0
  simp -dsimp at b0
  clear hk hs
  refine eN ?_
  apply oB hF;intro x51 e52 hF
  have le52:=ZA e52
  refine kdd e52 ?_
  revert hF;refine aS ?_ ?_<;>intro h53 q54 hF
  ·have z55:((j50:Int)<(x51.ctors.length:Int)):=auz
   refine kx2 h53 z55 ?_
   revert hF;refine aN ?_ ?_<;>intro h56 q57 hF
   ·repeat first|refine cg ?_|simp -dsimp[↓e52,h53,z55,h56,q57]
    revert hF;refine aS ?_ ?_<;>intro h58 q59 hF
    ·repeat first|refine cg ?_|simp -dsimp[↓e52,h53,z55,h56,q57,h58]
     refine zM follows ?_
     apply oB hF;intro x60 e61a hF
     have e61a:=ZQ e61a;obtain⟨ne61,e61⟩:=e61a
     have le61:=ZA e61
     refine kdd e61 ?_
     revert hF;refine aS ?_ ?_<;>intro h62 q63 hF
     ·apply oB hF;intro x64 e65 hF
      have le65:=ZA e65
      apply oB hF;intro x66 e67a hF
      have e67a:=ZQ e67a;obtain⟨ne67,e67⟩:=e67a
      have le67:=ZA e67
      repeat first|refine cg ?_|simp -dsimp[↓e52,h53,z55,h56,q57,h58,↓e61,h62,↓e65,↓e67]
      revert hF;refine aS ?_ ?_<;>intro h68 q69 hF
      ·cases hF
       refine kx1 h68 ?_
       refine lG _ (gR _) (hq _ ?_)
       exact kc0
      ·apply oC hF;intro c70 hF
       have w71:i64.wrap ((j50:Int)+1)=(j50:Int)+1:=ZC (by omega) (by omega)
       refine kx2 q69 w71 ?_
       refine zS ((ih_f19 (j50+1) o hF) _ rfl _ hq)
     ·apply oC hF;intro c72 hF
      have w73:i64.wrap ((j50:Int)+1)=(j50:Int)+1:=ZC (by omega) (by omega)
      refine kx3 h62 q63 w73 ?_
      refine zS ((ih_f19 (j50+1) o hF) _ rfl _ hq)
    ·cases hF
     repeat first|refine cg ?_|simp -dsimp[↓e52,h53,z55,h56,q57,h58,q59]
     refine zT hq
   ·repeat first|refine cg ?_|simp -dsimp[↓e52,h53,z55,h56,q57]
    refine zM follows ?_
    apply oB hF;intro x74 e75a hF
    have e75a:=ZQ e75a;obtain⟨ne75,e75⟩:=e75a
    have le75:=ZA e75
    refine kdd e75 ?_
    revert hF;refine aS ?_ ?_<;>intro h76 q77 hF
    ·apply oB hF;intro x78 e79 hF
     have le79:=ZA e79
     apply oB hF;intro x80 e81a hF
     have e81a:=ZQ e81a;obtain⟨ne81,e81⟩:=e81a
     have le81:=ZA e81
     repeat first|refine cg ?_|simp -dsimp[↓e52,h53,z55,h56,q57,↓e75,h76,↓e79,↓e81]
     revert hF;refine aS ?_ ?_<;>intro h82 q83 hF
     ·cases hF
      refine kx1 h82 ?_
      refine lG _ (gR _) (hq _ ?_)
      exact kc0
     ·apply oC hF;intro c84 hF
      have w85:i64.wrap ((j50:Int)+1)=(j50:Int)+1:=ZC (by omega) (by omega)
      refine kx2 q83 w85 ?_
      refine zS ((ih_f19 (j50+1) o hF) _ rfl _ hq)
    ·apply oC hF;intro c86 hF
     have w87:i64.wrap ((j50:Int)+1)=(j50:Int)+1:=ZC (by omega) (by omega)
     refine kx3 h76 q77 w87 ?_
     refine zS ((ih_f19 (j50+1) o hF) _ rfl _ hq)
  ·have z55:¬((j50:Int)<(x51.ctors.length:Int)):=auz
   cases hF
   refine kx3 h53 q54 z55 ?_
   refine zT hq
theorem CC.f20 (w:List yB)(d:Int)(k:Int):(∀(i:Nat) (o:Lo Bool Unit),F.f20 w d k i=some o->∀(c:Code),ZS [1,0,1,0,0] (ZH Tryz.f174)=some c->∀(Q:Exit->ASt->Prop),o.post (fun r=>∀st,ZAG zQ Tryz.f174 (fun r' _=>r'.le (.lit (.bool r))) .ret st->Q .ret st) (fun s=>Q (.exit 0) ⟨[],[]⟩)->ALoopU zQ B 0 79 (hold c .mk) ⟨[(0,am yC w),(1,li d),(2,li k),(7,li (i:Int))],[]⟩ (hold Q .mk)):=by
 refine F.f20.partial_correctness w d k
  _
  ?_
 ·intro _f_f20 ih_f20 i o hF
  refine ZJ rfl fun Q hq hk hs=> ?_
  have b0:=hk 0
  simp -dsimp at b0
  clear hk hs
  refine eN ?_
  revert hF;refine kS ?_ ?_<;>intro h1 q2 hF
  ·refine kx1 h1 ?_
   refine zM follows ?_
   revert hF;refine kS ?_ ?_<;>intro h3 q4 hF
   ·obtain⟨x,e5,hF⟩:=ob hF
    have le5:=ZA e5
    obtain⟨x6,e7a,hF⟩:=ob hF
    have e7a:=ZQ e7a;obtain⟨ne7,e7⟩:=e7a
    have le7:=ZA e7
    repeat first|refine cg ?_|simp -dsimp[h3,↓e5,↓e7]
    revert hF;refine aS ?_ ?_<;>intro h8 q9 hF
    ·cases hF
     refine kx1 h8 ?_
     refine lG _ (gR _) (hq _ ?_)
     exact kc0
    ·refine kx1 q9 ?_
     obtain⟨o',ho47,hF⟩:=ob hF
     refine zU (((CC.f18 B hB1 hB2 w d k i) 0 o' ho47) _ rfl _ ?_)
     rcases o' with r0|sx
     ·dsimp only at hF
      cases hF
      intro st h
      simp -dsimp
      refine lG st (gR _) (hq st h)
     ·dsimp only at hF
      obtain⟨c48,hF⟩:=oc hF
      have w49:i64.wrap ((i:Int)+1)=(i:Int)+1:=ZC (by omega) (by omega)
      refine kx1 w49 ?_
      refine zS ((ih_f20 (i+1) o hF) _ rfl _ hq)
   ·refine kx2 h3 q4 ?_
    obtain⟨o'89,ho88,hF⟩:=ob hF
    refine zU (((CC.f19 B hB1 hB2 w d k i) 0 o'89 ho88) _ rfl _ ?_)
    rcases o'89 with r093|sx90
    ·dsimp only at hF
     cases hF
     intro st h
     simp -dsimp
     refine lG st (gR _) (hq st h)
    ·dsimp only at hF
     obtain⟨c91,hF⟩:=oc hF
     have w92:i64.wrap ((i:Int)+1)=(i:Int)+1:=ZC (by omega) (by omega)
     refine kx1 w92 ?_
     refine zS ((ih_f20 (i+1) o hF) _ rfl _ hq)
  ·cases hF
   refine kx1 q2 ?_
   refine zT hq
theorem C.f21 (w:List yB)(d:Int)(k:Int)(r:Bool)(hF:F.f21 w d k=some r):PureCall zQ B 174 [am yC w,li d,li k] (.lit (.bool r)):=by
 unfold F.f21 at hF
 refine zG func174 rfl ntmps174 ?_
 refine kx0 ?_
 obtain⟨o'95,ho94,hF⟩:=ob hF
 refine zU (((CC.f20 B hB1 hB2 w d k) 0 o'95 ho94) _ rfl _ ?_)
 rcases o'95 with r097|sx96
 ·dsimp only at hF
  cases hF
  intro st h
  simpa using h
 ·dsimp only at hF
  cases hF
  exact kc0
theorem CC.f22 (w:List yB)(d:Nat):(∀(k:Nat) (o:Lo Bool Unit),F.f22 w d k=some o->∀(c:Code),ZS [1,1,0,1,0,0,1,0,0,1,1,0,0] (ZH Tryz.f140)=some c->∀(Q:Exit->ASt->Prop),o.post (fun r=>∀st,ZAG zQ Tryz.f140 (fun r' _=>r'.le (.lit (.bool r))) .ret st->Q .ret st) (fun s=>Q (.exit 2) ⟨[(0,am yC w),(3,li (d:Int))],[]⟩)->ALoopU zQ B 0 67 (hold c .mk) ⟨[(0,am yC w),(3,li (d:Int)),(4,li (k:Int))],[]⟩ (hold Q .mk)):=by
 refine F.f22.partial_correctness w d
  _
  ?_
 ·intro _f_f22 ih_f22 k o hF
  refine ZJ rfl fun Q hq hk hs=> ?_
  have b0:=hk 0
  simp -dsimp at b0
  clear hk hs
  refine eN ?_
  apply oB hF;intro x17 e18 hF
  have le18:=ZA e18
  refine kdd e18 ?_
  revert hF;refine aS ?_ ?_<;>intro h19 q20 hF
  ·have z21:((k:Int)<(x17.ctors.length:Int)):=auz
   apply oB hF;intro x22 e23 hF
   have le23:=ZA e23
   repeat first|refine cg ?_|simp -dsimp[↓e18,h19,z21,↓e23]
   apply oB hF;intro v24 e25 hF
   refine((C.f17 B hB1 hB2 (w.length:Int) x22 v24 e25)).goI ?_
   repeat first|refine cg ?_|simp -dsimp[↓e18,h19,z21,↓e23]
   revert hF;refine aS (fun h26 q27 hF=> ?_) (fun h26 q27 hF=> ?_)
   ·repeat first|refine cg ?_|simp -dsimp[↓e18,h19,z21,↓e23,h26]
    apply oB hF;intro v28 e29 hF
    refine((C.f21 B hB1 hB2 w (d:Int) (k:Int) v28 e29)).goI ?_
    repeat first|refine cg ?_|simp -dsimp[↓e18,h19,z21,↓e23,h26]
    revert hF;refine aS (fun h30 q31 hF=> ?_) (fun h30 q31 hF=> ?_)
    ·cases hF
     repeat first|refine cg ?_|simp -dsimp[↓e18,h19,z21,↓e23,h26,h30]
     refine lG _ (gR _) (hq _ ?_)
     repeat first|refine cg ?_|simp -dsimp[↓e18,h19,z21,↓e23,h26,h30]
    ·apply oC hF;intro c32 hF
     have w33:i64.wrap ((k:Int)+1)=(k:Int)+1:=ZC (by omega) (by omega)
     repeat first|refine cg ?_|simp -dsimp[↓e18,h19,z21,↓e23,h26,h30,q31,w33]
     refine zS ((ih_f22 (k+1) o hF) _ rfl _ hq)
   ·cases hF
    repeat first|refine cg ?_|simp -dsimp[↓e18,h19,z21,↓e23,h26,q27]
    refine lG _ (gR _) (hq _ ?_)
    repeat first|refine cg ?_|simp -dsimp[↓e18,h19,z21,↓e23,h26,q27]
  ·have z21:¬((k:Int)<(x17.ctors.length:Int)):=auz
   cases hF
   repeat first|refine cg ?_|simp -dsimp[↓e18,h19,q20,z21]
   refine zT hq
theorem CC.f23 (w:List yB):(∀(d:Nat) (o:Lo Bool Unit),F.f23 w d=some o->∀(c:Code),ZS [1,1,0,1,0,0] (ZH Tryz.f140)=some c->∀(Q:Exit->ASt->Prop),o.post (fun r=>∀st,ZAG zQ Tryz.f140 (fun r' _=>r'.le (.lit (.bool r))) .ret st->Q .ret st) (fun s=>Q (.exit 0) ⟨[],[]⟩)->ALoopU zQ B 0 67 (hold c .mk) ⟨[(0,am yC w),(3,li (d:Int))],[]⟩ (hold Q .mk)):=by
 refine F.f23.partial_correctness w
  _
  ?_
 ·intro _f_f23 ih_f23 d o hF
  refine ZJ rfl fun Q hq hk hs=> ?_
  have b0:=hk 0
  simp -dsimp at b0
  clear hk hs
  refine eN ?_
  revert hF;refine kS ?_ ?_<;>intro h4 q5 hF
  ·have z6:((d:Int)<(w.length:Int)):=auz
   obtain⟨x,e7,hF⟩:=ob hF
   have le7:=ZA e7
   refine ZW h4 z6 e7 ?_
   obtain⟨v,e8,hF⟩:=ob hF
   refine((C.f12 B hB1 hB2 x.name v e8)).goI ?_
   refine ZW h4 z6 e7 ?_
   revert hF;refine aS (fun h9 q10 hF=> ?_) (fun h9 q10 hF=> ?_)
   ·repeat first|refine cg ?_|simp -dsimp[h4,z6,↓e7,h9]
    revert hF;refine aN ?_ ?_<;>intro h11 q12 hF
    ·have z13:¬((x.ctors.length:Int)=0):=auz
     repeat first|refine cg ?_|simp -dsimp[h4,z6,↓e7,h9,h11,q12,z13]
     revert hF;refine aS ?_ ?_<;>intro h14 q15 hF
     ·have z16:(4<(x.ctors.length:Int)):=auz
      cases hF
      repeat first|refine cg ?_|simp -dsimp[h4,z6,↓e7,h9,h11,q12,z13,h14,z16]
      refine lG _ (gR _) (hq _ ?_)
      repeat first|refine cg ?_|simp -dsimp[h4,z6,↓e7,h9,h11,q12,z13,h14,z16]
     ·have z16:¬(4<(x.ctors.length:Int)):=auz
      repeat first|refine cg ?_|simp -dsimp[h4,z6,↓e7,h9,h11,q12,z13,h14,q15,z16]
      obtain⟨o',ho34,hF⟩:=ob hF
      refine zU (((CC.f22 B hB1 hB2 w d) 0 o' ho34) _ rfl _ ?_)
      rcases o' with r0|sx
      ·dsimp only at hF
       cases hF
       intro st h
       simp -dsimp
       refine lG st (gR _) (hq st h)
      ·dsimp only at hF
       obtain⟨c35,hF⟩:=oc hF
       have w36:i64.wrap ((d:Int)+1)=(d:Int)+1:=ZC (by omega) (by omega)
       refine kx1 w36 ?_
       refine zS ((ih_f23 (d+1) o hF) _ rfl _ hq)
    ·have z13:((x.ctors.length:Int)=0):=auz
     cases hF
     repeat first|refine cg ?_|simp -dsimp[h4,z6,↓e7,h9,h11,q12,z13]
     refine lG _ (gR _) (hq _ ?_)
     repeat first|refine cg ?_|simp -dsimp[h4,z6,↓e7,h9,h11,q12,z13]
   ·cases hF
    repeat first|refine cg ?_|simp -dsimp[h4,z6,↓e7,h9,q10]
    refine lG _ (gR _) (hq _ ?_)
    repeat first|refine cg ?_|simp -dsimp[h4,z6,↓e7,h9,q10]
  ·have z6:¬((d:Int)<(w.length:Int)):=auz
   cases hF
   refine kx3 h4 q5 z6 ?_
   refine zT hq
theorem C.f24 (w:List yB)(r:Bool)(hF:F.f24 w=some r):PureCall zQ B 140 [am yC w] (.lit (.bool r)):=by
 unfold F.f24 at hF
 refine zG func140 rfl ntmps140 ?_
 revert hF;refine kS ?_ ?_<;>intro h1 q2 hF
 ·have z3:(4<(w.length:Int)):=auz
  cases hF
  exact kc2 h1 z3
 ·have z3:¬(4<(w.length:Int)):=auz
  refine kx3 h1 q2 z3 ?_
  obtain⟨o'38,ho37,hF⟩:=ob hF
  refine zU (((CC.f23 B hB1 hB2 w) 0 o'38 ho37) _ rfl _ ?_)
  rcases o'38 with r040|sx39
  ·dsimp only at hF
   cases hF
   intro st h
   simpa using h
  ·dsimp only at hF
   cases hF
   exact kc0
theorem CC.f25  :(∀(n7:Int) (out:ByteArray) (o:Int×ByteArray),F.f25 n7 out=some o->∀(c:Code),ZS [1,1,1,1,0,0,0] (ZH Tryz.f223)=some c->∀(Q:Exit->ASt->Prop),(Q (.exit 0) ⟨[(0,li o.1),(3,.lit (.string o.2))],[]⟩)->ALoopU zQ B 0 31 (hold c .mk) ⟨[(0,li n7),(3,.lit (.string out))],[]⟩ (hold Q .mk)):=by
 refine F.f25.partial_correctness 
  _
  ?_
 ·intro _f_f25 ih_f25 n7 out o hF
  refine ZJ rfl fun Q hq hk hs=> ?_
  clear hk hs
  refine eN ?_
  revert hF;refine kS ?_ ?_<;>intro h8 q9 hF
  ·obtain⟨c10,hF⟩:=oc hF
   refine kx1 h8 ?_
   refine zS ((ih_f25 (i64.wrap (n7.tdiv 10)) ((ZG4 [IntKind.u8.wrap (i64.wrap (48+n7.tmod 10))])++out) o hF) _ rfl _ hq)
  ·cases hF
   refine kx1 q9 ?_
   refine zT hq
theorem CC.f26  :(∀(n:Int) (r:ByteArray),F.f26 n=some r->PureCall zQ B 223 [li n] (.lit (.string r))):=by
 refine F.f26.partial_correctness 
  _
  ?_
 ·intro _f_f26 ih_f26 n r hF
  refine zG func223 rfl ntmps223 ?_
  revert hF;refine kS ?_ ?_<;>intro h1 q2 hF
  ·cases hF
   exact kc1 h1
  ·refine kx1 q2 ?_
   revert hF;refine aS ?_ ?_<;>intro h3 q4 hF
   ·refine kx1 h3 ?_
    obtain⟨v,e5,hF⟩:=ob hF
    refine((ih_f26 (i64.wrap (0-n)) v e5)).goI ?_
    obtain⟨c6,hF⟩:=oc hF
    cases hF
    exact kc0
   ·refine kx1 q4 ?_
    obtain⟨o',ho11,hF⟩:=ob hF
    refine zU (((CC.f25 B hB1 hB2) n zE o' ho11) _ rfl _ ?_)
    obtain⟨c12,hF⟩:=oc hF
    cases hF
    exact kc0
theorem C.f27 (n:Int)(r:ByteArray)(hF:F.f27 n=some r):PureCall zQ B 224 [li n] (.lit (.string r)):=by
 unfold F.f27 at hF
 refine zG func224 rfl ntmps224 ?_
 revert hF;refine kS ?_ ?_<;>intro h1 q2 hF
 ·cases hF
  repeat first|refine cg ?_|simp -dsimp[eq_true h1]
 ·refine kx2 h1 q2 ?_
  revert hF;refine aS ?_ ?_<;>intro h3 q4 hF
  ·cases hF
   exact kc1 h3
  ·refine kx1 q4 ?_
   obtain⟨v,e5,hF⟩:=ob hF
   refine(((CC.f26 B hB1 hB2) n v e5)).goI ?_
   cases hF
   exact kc0
theorem C.f28 (w:List yB)(t:Ty)(r:ByteArray)(hF:F.f28 w t=some r):PureCall zQ B 222 [am yC w,.agg [li t.data,li t.index]] (.lit (.string r)):=by
 unfold F.f28 at hF
 refine zG func222 rfl ntmps222 ?_
 revert hF;refine kS ?_ ?_<;>intro h1 q2 hF
 ·cases hF
  exact kc1 h1
 ·refine kx1 q2 ?_
  refine zM follows ?_
  obtain⟨x,e3a,hF⟩:=ob hF
  have e3a:=ZQ e3a;obtain⟨ne3,e3⟩:=e3a
  have le3:=ZA e3
  refine kdd e3 ?_
  obtain⟨v,e4,hF⟩:=ob hF
  refine((C.f27 B hB1 hB2 t.index v e4)).pgoW (by simp_all) (by simp) ?_
  obtain⟨c5,hF⟩:=oc hF
  cases hF
  exact kc0
theorem CC.f29 (w:List yB)(c':Ctor):(∀(out:ByteArray) (i:Nat) (o:ByteArray),F.f29 w c' out i=some o->∀(c:Code),ZS [1,1,0,1,0,0] (ZH Tryz.f219)=some c->∀(Q:Exit->ASt->Prop),(Q (.exit 0) ⟨[(3,.ptr 0 0),(5,.lit (.string o))],[.cells [.lit (.string c'.name),am zW c'.args,li c'.index]]⟩)->ALoopU zQ B 0 47 (hold c .mk) ⟨[(0,am yC w),(3,.ptr 0 0),(5,.lit (.string out)),(6,li (i:Int))],[.cells [.lit (.string c'.name),am zW c'.args,li c'.index]]⟩ (hold Q .mk)):=by
 refine F.f29.partial_correctness w c'
  _
  ?_
 ·intro _f_f29 ih_f29 out i o hF
  refine ZJ rfl fun Q hq hk hs=> ?_
  have b0:=hk 0
  simp -dsimp at b0
  have d0:=hs 0 _ rfl
  simp -dsimp[zR]at d0
  clear hk hs
  refine eN ?_
  revert hF;refine kS ?_ ?_<;>intro h1 q2 hF
  ·have z3:((i:Int)<(c'.args.length:Int)):=auz
   refine kx2 h1 z3 ?_
   revert hF;refine aS ?_ ?_<;>intro h4 q5 hF
   ·have z6:((i:Int)=0):=auz
    apply oC hF;intro c7 hF
    apply oB hF;intro x e8 hF
    have le8:=ZA e8
    repeat first|refine cg ?_|simp -dsimp[eq_true h4,eq_true z6,↓e8]
    apply oB hF;intro v e9 hF
    refine((C.f28 B hB1 hB2 w x v e9)).goI ?_
    apply oC hF;intro c10 hF
    have dc10:=c10;simp only[zF]at dc10
    have w11:i64.wrap ((i:Int)+1)=(i:Int)+1:=ZC (by omega) (by omega)
    refine kx1 w11 ?_
    refine zS ((ih_f29 ((out++(⟨#[40]⟩:ByteArray))++v) (i+1) o hF) _ rfl _ hq)
   ·have z6:¬((i:Int)=0):=auz
    apply oC hF;intro c12 hF
    apply oB hF;intro x13 e14 hF
    have le14:=ZA e14
    repeat first|refine cg ?_|simp -dsimp[h4,q5,z6,↓e14]
    apply oB hF;intro v15 e16 hF
    refine((C.f28 B hB1 hB2 w x13 v15 e16)).goI ?_
    apply oC hF;intro c17 hF
    have dc17:=c17;simp only[zF]at dc17
    have w18:i64.wrap ((i:Int)+1)=(i:Int)+1:=ZC (by omega) (by omega)
    refine kx1 w18 ?_
    refine zS ((ih_f29 ((out++(⟨#[44]⟩:ByteArray))++v15) (i+1) o hF) _ rfl _ hq)
  ·have z3:¬((i:Int)<(c'.args.length:Int)):=auz
   cases hF
   refine kx3 h1 q2 z3 ?_
   refine zT hq
theorem C.f30 (w:List yB)(c':Ctor)(r:ByteArray)(hF:F.f30 w c'=some r):PureCall zQ B 219 [am yC w,.agg [.lit (.string c'.name),am zW c'.args,li c'.index]] (.lit (.string r)):=by
 unfold F.f30 at hF
 refine zG func219 rfl ntmps219 ?_
 refine kx0 ?_
 obtain⟨o',ho19,hF⟩:=ob hF
 refine zU (((CC.f29 B hB1 hB2 w c') c'.name 0 o' ho19) _ rfl _ ?_)
 revert hF;refine kS ?_ ?_<;>intro h20 q21 hF
 ·have z22:(0<(c'.args.length:Int)):=auz
  obtain⟨c23,hF⟩:=oc hF
  refine kx2 h20 z22 ?_
  revert hF;refine aS ?_ ?_<;>intro h24 q25 hF
  ·obtain⟨c26,hF⟩:=oc hF
   have dc26:=c26;simp only[zF]at dc26
   refine kx1 h24 ?_
   obtain⟨v27,e28,hF⟩:=ob hF
   refine(((CC.f26 B hB1 hB2) c'.index v27 e28)).goI ?_
   obtain⟨c29,hF⟩:=oc hF
   have dc29:=c29;simp only[zF]at dc29
   cases hF
   exact kc0
  ·cases hF
   exact kc1 q25
 ·have z22:¬(0<(c'.args.length:Int)):=auz
  refine kx3 h20 q21 z22 ?_
  revert hF;refine aS ?_ ?_<;>intro h30 q31 hF
  ·obtain⟨c32,hF⟩:=oc hF
   refine kx1 h30 ?_
   obtain⟨v33,e34,hF⟩:=ob hF
   refine(((CC.f26 B hB1 hB2) c'.index v33 e34)).goI ?_
   obtain⟨c35,hF⟩:=oc hF
   have dc35:=c35;simp only[zF]at dc35
   cases hF
   exact kc0
  ·cases hF
   exact kc1 q31
theorem CC.f31 (w:List yB)(d:Nat):(∀(out11:ByteArray) (k:Nat) (o:ByteArray),F.f31 w d out11 k=some o->∀(c:Code),ZS [1,1,0,1,0,0,1,0,0,1,1,1,0,0] (ZH Tryz.f210)=some c->∀(Q:Exit->ASt->Prop),(Q (.exit 2) ⟨[(0,am yC w),(3,.lit (.string o)),(4,li (d:Int))],[]⟩)->ALoopU zQ B 0 51 (hold c .mk) ⟨[(0,am yC w),(3,.lit (.string out11)),(4,li (d:Int)),(5,li (k:Int))],[]⟩ (hold Q .mk)):=by
 refine F.f31.partial_correctness w d
  _
  ?_
 ·intro _f_f31 ih_f31 out11 k o hF
  refine ZJ rfl fun Q hq hk hs=> ?_
  have b0:=hk 0
  simp -dsimp at b0
  clear hk hs
  refine eN ?_
  apply oB hF;intro x12 e13 hF
  have le13:=ZA e13
  refine kdd e13 ?_
  revert hF;refine aS ?_ ?_<;>intro h14 q15 hF
  ·have z16:((k:Int)<(x12.ctors.length:Int)):=auz
   refine ZCu e13 h14 z16 ?_
   revert hF;refine aS ?_ ?_<;>intro h17 q18 hF
   ·have z19:(0<(k:Int)):=auz
    apply oC hF;intro c20 hF
    apply oB hF;intro x21 e22 hF
    have le22:=ZA e22
    repeat first|refine cg ?_|simp -dsimp[↓e13,h17,z19,↓e22]
    apply oB hF;intro v e23 hF
    refine((C.f30 B hB1 hB2 w x21 v e23)).goI ?_
    apply oC hF;intro c24 hF
    have dc24:=c24;simp only[zF]at dc24
    apply oC hF;intro c25 hF
    have w26:i64.wrap ((k:Int)+1)=(k:Int)+1:=ZC (by omega) (by omega)
    repeat first|refine cg ?_|simp -dsimp[↓e13,↓e22,w26]
    refine zS ((ih_f31 ((out11++(⟨#[124]⟩:ByteArray))++v) (k+1) o hF) _ rfl _ hq)
   ·have z19:¬(0<(k:Int)):=auz
    apply oB hF;intro x27 e28 hF
    have le28:=ZA e28
    repeat first|refine cg ?_|simp -dsimp[↓e13,h17,q18,z19,↓e28]
    apply oB hF;intro v29 e30 hF
    refine((C.f30 B hB1 hB2 w x27 v29 e30)).goI ?_
    apply oC hF;intro c31 hF
    apply oC hF;intro c32 hF
    have w33:i64.wrap ((k:Int)+1)=(k:Int)+1:=ZC (by omega) (by omega)
    repeat first|refine cg ?_|simp -dsimp[↓e13,↓e28,w33]
    refine zS ((ih_f31 (out11++v29) (k+1) o hF) _ rfl _ hq)
  ·have z16:¬((k:Int)<(x12.ctors.length:Int)):=auz
   cases hF
   repeat first|refine cg ?_|simp -dsimp[↓e13,h14,q15,z16]
   refine zT hq
theorem CC.f32 (w:List yB)(d:Nat):(∀(out41:ByteArray) (k42:Nat) (o:ByteArray),F.f32 w d out41 k42=some o->∀(c:Code),ZS [1,1,0,1,0,0,1,0,0,1,1,1,0,0] (ZH Tryz.f210)=some c->∀(Q:Exit->ASt->Prop),(Q (.exit 2) ⟨[(0,am yC w),(3,.lit (.string o)),(4,li (d:Int))],[]⟩)->ALoopU zQ B 0 51 (hold c .mk) ⟨[(0,am yC w),(3,.lit (.string out41)),(4,li (d:Int)),(5,li (k42:Int))],[]⟩ (hold Q .mk)):=by
 refine F.f32.partial_correctness w d
  _
  ?_
 ·intro _f_f32 ih_f32 out41 k42 o hF
  refine ZJ rfl fun Q hq hk hs=> ?_
  have b0:=hk 0
  simp -dsimp at b0
  clear hk hs
  refine eN ?_
  apply oB hF;intro x43 e44 hF
  have le44:=ZA e44
  refine kdd e44 ?_
  revert hF;refine aS ?_ ?_<;>intro h45 q46 hF
  ·have z47:((k42:Int)<(x43.ctors.length:Int)):=auz
   refine ZCu e44 h45 z47 ?_
   revert hF;refine aS ?_ ?_<;>intro h48 q49 hF
   ·have z50:(0<(k42:Int)):=auz
    apply oC hF;intro c51 hF
    apply oB hF;intro x52 e53 hF
    have le53:=ZA e53
    repeat first|refine cg ?_|simp -dsimp[↓e44,h48,z50,↓e53]
    apply oB hF;intro v54 e55 hF
    refine((C.f30 B hB1 hB2 w x52 v54 e55)).goI ?_
    apply oC hF;intro c56 hF
    have dc56:=c56;simp only[zF]at dc56
    apply oC hF;intro c57 hF
    have w58:i64.wrap ((k42:Int)+1)=(k42:Int)+1:=ZC (by omega) (by omega)
    repeat first|refine cg ?_|simp -dsimp[↓e44,↓e53,w58]
    refine zS ((ih_f32 ((out41++(⟨#[124]⟩:ByteArray))++v54) (k42+1) o hF) _ rfl _ hq)
   ·have z50:¬(0<(k42:Int)):=auz
    apply oB hF;intro x59 e60 hF
    have le60:=ZA e60
    repeat first|refine cg ?_|simp -dsimp[↓e44,h48,q49,z50,↓e60]
    apply oB hF;intro v61 e62 hF
    refine((C.f30 B hB1 hB2 w x59 v61 e62)).goI ?_
    apply oC hF;intro c63 hF
    apply oC hF;intro c64 hF
    have w65:i64.wrap ((k42:Int)+1)=(k42:Int)+1:=ZC (by omega) (by omega)
    repeat first|refine cg ?_|simp -dsimp[↓e44,↓e60,w65]
    refine zS ((ih_f32 (out41++v61) (k42+1) o hF) _ rfl _ hq)
  ·have z47:¬((k42:Int)<(x43.ctors.length:Int)):=auz
   cases hF
   repeat first|refine cg ?_|simp -dsimp[↓e44,h45,q46,z47]
   refine zT hq
theorem CC.f33 (w:List yB):(∀(out:ByteArray) (d:Nat) (o:ByteArray),F.f33 w out d=some o->∀(c:Code),ZS [1,1,0,1,0,0] (ZH Tryz.f210)=some c->∀(Q:Exit->ASt->Prop),(Q (.exit 0) ⟨[(3,.lit (.string o))],[]⟩)->ALoopU zQ B 0 51 (hold c .mk) ⟨[(0,am yC w),(3,.lit (.string out)),(4,li (d:Int))],[]⟩ (hold Q .mk)):=by
 refine F.f33.partial_correctness w
  _
  ?_
 ·intro _f_f33 ih_f33 out d o hF
  refine ZJ rfl fun Q hq hk hs=> ?_
  have b0:=hk 0
  simp -dsimp at b0
  clear hk hs
  refine eN ?_
  revert hF;refine kS ?_ ?_<;>intro h1 q2 hF
  ·have z3:((d:Int)<(w.length:Int)):=auz
   refine kx2 h1 z3 ?_
   revert hF;refine aS ?_ ?_<;>intro h4 q5 hF
   ·have z6:(0<(d:Int)):=auz
    obtain⟨c7,hF⟩:=oc hF
    obtain⟨x,e8,hF⟩:=ob hF
    have le8:=ZA e8
    obtain⟨c9,hF⟩:=oc hF
    have dc9:=c9;simp only[zF]at dc9
    obtain⟨c10,hF⟩:=oc hF
    have dc10:=c10;simp only[zF]at dc10
    refine ZW h4 z6 e8 ?_
    obtain⟨o',ho34,hF⟩:=ob hF
    refine zU (((CC.f31 B hB1 hB2 w d) (((out++(⟨#[59]⟩:ByteArray))++x.name)++(⟨#[61]⟩:ByteArray)) 0 o' ho34) _ rfl _ ?_)
    obtain⟨c35,hF⟩:=oc hF
    have w36:i64.wrap ((d:Int)+1)=(d:Int)+1:=ZC (by omega) (by omega)
    refine kx1 w36 ?_
    refine zS ((ih_f33 o' (d+1) o hF) _ rfl _ hq)
   ·have z6:¬(0<(d:Int)):=auz
    obtain⟨x37,e38,hF⟩:=ob hF
    have le38:=ZA e38
    obtain⟨c39,hF⟩:=oc hF
    obtain⟨c40,hF⟩:=oc hF
    have dc40:=c40;simp only[zF]at dc40
    repeat first|refine cg ?_|simp -dsimp[h4,q5,z6,↓e38]
    obtain⟨o'67,ho66,hF⟩:=ob hF
    refine zU (((CC.f32 B hB1 hB2 w d) ((out++x37.name)++(⟨#[61]⟩:ByteArray)) 0 o'67 ho66) _ rfl _ ?_)
    obtain⟨c68,hF⟩:=oc hF
    have w69:i64.wrap ((d:Int)+1)=(d:Int)+1:=ZC (by omega) (by omega)
    refine kx1 w69 ?_
    refine zS ((ih_f33 o'67 (d+1) o hF) _ rfl _ hq)
  ·have z3:¬((d:Int)<(w.length:Int)):=auz
   cases hF
   refine kx3 h1 q2 z3 ?_
   refine zT hq
theorem C.f34 (w:List yB)(r:ByteArray)(hF:F.f34 w=some r):PureCall zQ B 210 [am yC w] (.lit (.string r)):=by
 unfold F.f34 at hF
 refine zG func210 rfl ntmps210 ?_
 refine kx0 ?_
 obtain⟨o'71,ho70,hF⟩:=ob hF
 refine zU (((CC.f33 B hB1 hB2 w) zE 0 o'71 ho70) _ rfl _ ?_)
 cases hF
 exact kc0
theorem CC.f35 (text:ByteArray)(v:List ByteArray):(∀(names:List ByteArray) (i:Nat) (o:Lo ((List yB)×Bool) (List ByteArray)),F.f35 text v names i=some o->∀(c:Code),ZS [1,1,1,1,0,1,0,0] (ZH Tryz.f191)=some c->∀(Q:Exit->ASt->Prop),o.post (fun r=>∀st,ZAG zQ Tryz.f191 (fun r' _=>r'.le (.tup [am yC r.1,.lit (.bool r.2)])) .ret st->Q .ret st) (fun s=>Q (.exit 0) ⟨[(0,.lit (.string text)),(4,.own 0 (zA (α:=yB) [])),(5,.own 1 (zA (α:=ByteArray) s)),(6,am cS v)],[.elems 2 (zB yC []),.elems 1 (zB cS s)]⟩)->ALoopU zQ B 0 101 (hold c .mk) ⟨[(0,.lit (.string text)),(4,.own 0 (zA (α:=yB) [])),(5,.own 1 (zA (α:=ByteArray) names)),(6,am cS v),(7,li (i:Int))],[.elems 2 (zB yC []),.elems 1 (zB cS names)]⟩ (hold Q .mk)):=by
 refine F.f35.partial_correctness text v
  _
  ?_
 ·intro _f_f35 ih_f35 names i o hF
  refine ZJ rfl fun Q hq hk hs=> ?_
  have b6:=hk 6
  simp -dsimp at b6
  have d0:=hs 0 _ rfl
  simp -dsimp[zR]at d0
  have d1:=hs 1 _ rfl
  simp -dsimp[zR]at d1
  clear hk hs
  refine eN ?_
  revert hF;refine kS ?_ ?_<;>intro h2 q3 hF
  ·have z4:((i:Int)<(v.length:Int)):=auz
   refine kx2 h2 z4 ?_
   revert hF;refine aS ?_ ?_<;>intro h5 q6 hF
   ·have z7:((i:Int)<=4):=auz
    refine kx2 h5 z7 ?_
    revert hF;refine aN ?_ ?_<;>intro h8 q9 hF
    ·apply oB hF;intro x e10 hF
     have le10:=ZA e10
     refine ZW h8 q9 e10 ?_
     apply oB hF;intro v11 e12 hF
     refine((C.f3 B hB1 hB2 x 61 v11 e12)).goI ?_
     revert hF;refine kN ?_ ?_<;>intro h13 q14 hF
     ·have z15:¬((v11.length:Int)=2):=auz
      cases hF
      refine kx3 h13 q14 z15 ?_
      refine lG _ (gR _) (hq _ ?_)
      exact kc0
     ·have z15:((v11.length:Int)=2):=auz
      apply oB hF;intro x16 e17 hF
      have le17:=ZA e17
      apply oC hF;intro c18 hF
      have w19:i64.wrap ((i:Int)+1)=(i:Int)+1:=ZC (by omega) (by omega)
      refine ZNk e17 w19 ?_
      refine zS ((ih_f35 (names++[x16]) (i+1) o hF) _ rfl _ hq)
    ·cases hF
     refine kx2 h8 q9 ?_
     refine zT hq
   ·have z7:¬((i:Int)<=4):=auz
    cases hF
    refine kx3 h5 q6 z7 ?_
    refine zT hq
  ·have z4:¬((i:Int)<(v.length:Int)):=auz
   cases hF
   refine kx3 h2 q3 z4 ?_
   refine zT hq
theorem CC.f36 (text:ByteArray)(v:List ByteArray)(out:List yB)(names21:List ByteArray)(i22:Nat)(v32:List ByteArray)(x34:ByteArray):(∀(out36:List Ctor) (k:Nat) (o:List Ctor),F.f36 text v out names21 i22 v32 x34 out36 k=some o->∀(c:Code),ZS [1,1,1,1,1,0,1,0,0,1,0,0,1,1,0,1,0,0] (ZH Tryz.f191)=some c->∀(Q:Exit->ASt->Prop),(Q (.exit 4) ⟨[(0,.lit (.string text)),(4,.own 0 (zA (α:=yB) out)),(5,am cS names21),(6,am cS v),(9,li (i22:Int)),(11,.ptr 2 0)],[.elems 2 (zB yC out),.dead,.cells [.lit (.string x34),.own 3 (zA (α:=Ctor) o)],.elems 3 (zB yD o)]⟩)->ALoopU zQ B 0 101 (hold c .mk) ⟨[(0,.lit (.string text)),(4,.own 0 (zA (α:=yB) out)),(5,am cS names21),(6,am cS v),(9,li (i22:Int)),(10,am cS v32),(11,.ptr 2 0),(12,li (k:Int))],[.elems 2 (zB yC out),.dead,.cells [.lit (.string x34),.own 3 (zA (α:=Ctor) out36)],.elems 3 (zB yD out36)]⟩ (hold Q .mk)):=by
 refine F.f36.partial_correctness text v out names21 i22 v32 x34
  _
  ?_
 ·intro _f_f36 ih_f36 out36 k o hF
  refine ZJ rfl fun Q hq hk hs=> ?_
  have b5:=hk 5
  simp -dsimp at b5
  have b6:=hk 6
  simp -dsimp at b6
  have b10:=hk 10
  simp -dsimp at b10
  have d0:=hs 0 _ rfl
  simp -dsimp[zR]at d0
  have d3:=hs 3 _ rfl
  simp -dsimp[zR]at d3
  clear hk hs
  refine eN ?_
  revert hF;refine kS ?_ ?_<;>intro h37 q38 hF
  ·have z39:((k:Int)<(v32.length:Int)):=auz
   refine kx2 h37 z39 ?_
   revert hF;refine aS ?_ ?_<;>intro h40 q41 hF
   ·have z42:((k:Int)<=4):=auz
    refine kx2 h40 z42 ?_
    refine zL [] [(0,1),(0,1),(0,0),(0,0),(0,0),(0,0),(0,0),(0,3),(0,3),(0,3),(2,2),(0,3)] [0,2,1,1,1,1,1,1,1,1,1,1] follows ?_
    obtain⟨x43,e44,hF⟩:=ob hF
    have le44:=ZA e44
    refine kdd e44 ?_
    obtain⟨v45,e46,hF⟩:=ob hF
    refine((C.f10 B hB1 hB2 names21 x43 v45 e46)).pgoW (by simp_all) (by simp) ?_
    obtain⟨c47,hF⟩:=oc hF
    have w48:i64.wrap ((k:Int)+1)=(k:Int)+1:=ZC (by omega) (by omega)
    refine kx1 w48 ?_
    refine zS ((ih_f36 (out36++[v45]) (k+1) o hF) _ rfl _ hq)
   ·have z42:¬((k:Int)<=4):=auz
    cases hF
    refine kx3 h40 q41 z42 ?_
    refine zT hq
  ·have z39:¬((k:Int)<(v32.length:Int)):=auz
   cases hF
   refine kx3 h37 q38 z39 ?_
   refine zT hq
theorem CC.f37 (text:ByteArray)(v:List ByteArray)(names21:List ByteArray):(∀(out:List yB) (i22:Nat) (o:List yB),F.f37 text v out names21 i22=some o->∀(c:Code),ZS [1,1,1,1,1,0,1,0,0] (ZH Tryz.f191)=some c->∀(Q:Exit->ASt->Prop),(Q (.exit 2) ⟨[(0,.lit (.string text)),(4,.own 0 (zA (α:=yB) o))],[.elems 2 (zB yC o)]⟩)->ALoopU zQ B 0 101 (hold c .mk) ⟨[(0,.lit (.string text)),(4,.own 0 (zA (α:=yB) out)),(5,am cS names21),(6,am cS v),(9,li (i22:Int))],[.elems 2 (zB yC out),.dead]⟩ (hold Q .mk)):=by
 refine F.f37.partial_correctness text v names21
  _
  ?_
 ·intro _f_f37 ih_f37 out i22 o hF
  refine ZJ rfl fun Q hq hk hs=> ?_
  have b5:=hk 5
  simp -dsimp at b5
  have b6:=hk 6
  simp -dsimp at b6
  have d0:=hs 0 _ rfl
  simp -dsimp[zR]at d0
  clear hk hs
  refine eN ?_
  revert hF;refine kS ?_ ?_<;>intro h23 q24 hF
  ·have z25:((i22:Int)<(names21.length:Int)):=auz
   obtain⟨x26,e27,hF⟩:=ob hF
   have le27:=ZA e27
   refine ZW h23 z25 e27 ?_
   obtain⟨v28,e29,hF⟩:=ob hF
   refine((C.f3 B hB1 hB2 x26 61 v28 e29)).goI ?_
   obtain⟨x30,e31,hF⟩:=ob hF
   have le31:=ZA e31
   refine kdd e31 ?_
   obtain⟨v32,e33,hF⟩:=ob hF
   refine((C.f3 B hB1 hB2 x30 124 v32 e33)).goI ?_
   obtain⟨x34,e35,hF⟩:=ob hF
   have le35:=ZA e35
   refine kdd e35 ?_
   obtain⟨o'50,ho49,hF⟩:=ob hF
   refine zV ⟨[(0,.lit (.string text)),(4,.own 0 (zA (α:=yB) out)),(5,.arr (zB cS names21)),(6,.arr (zB cS v)),(9,.lit (.int .i64 (i22:Int))),(10,.arr (zB cS v32)),(11,.ptr 2 0),(12,.lit (.int .i64 0))],[.elems 2 (zB yC out),.dead,.cells [.lit (.string x34),.own 3 (zA (α:=Ctor) [])],.elems 3 (zB yD [])]⟩ (by refine zX (zY 2 1 3 (by simp -dsimp;rfl) (by simp -dsimp)) ?_;exact(gT (by simp) (by simp_all))) ?_
   refine((CC.f36 B hB1 hB2 text v out names21 i22 v32 x34) [] 0 o'50 ho49) _ rfl _ ?_
   obtain⟨c51,hF⟩:=oc hF
   obtain⟨c52,hF⟩:=oc hF
   have w53:i64.wrap ((i22:Int)+1)=(i22:Int)+1:=ZC (by omega) (by omega)
   refine kx1 w53 ?_
   refine zS ((ih_f37 (out++[(⟨x34,o'50⟩:yB)]) (i22+1) o hF) _ rfl _ hq)
  ·have z25:¬((i22:Int)<(names21.length:Int)):=auz
   cases hF
   refine kx3 h23 q24 z25 ?_
   refine zT hq
theorem C.f38 (text:ByteArray)(r:(List yB)×Bool)(hF:F.f38 text=some r):PureCall zQ B 191 [.lit (.string text)] (.tup [am yC r.1,.lit (.bool r.2)]):=by
 unfold F.f38 at hF
 refine zG func191 rfl ntmps191 ?_
 refine kx0 ?_
 obtain⟨v,e1,hF⟩:=ob hF
 refine((C.f3 B hB1 hB2 text 59 v e1)).goI ?_
 refine kx0 ?_
 obtain⟨o',ho20,hF⟩:=ob hF
 refine zU (((CC.f35 B hB1 hB2 text v) [] 0 o' ho20) _ rfl _ ?_)
 rcases o' with r0|sx
 ·dsimp only at hF
  cases hF
  intro st h
  simpa using h
 ·dsimp only at hF
  refine kx0 ?_
  obtain⟨o'55,ho54,hF⟩:=ob hF
  refine zV ⟨[(0,.lit (.string text)),(4,.own 0 (zA (α:=yB) [])),(5,.arr (zB cS sx)),(6,.arr (zB cS v)),(9,.lit (.int .i64 0))],[.elems 2 (zB yC []),.dead]⟩ (by refine zX (yA 5 (l:=1) (n:=zA (α:=ByteArray) sx) (sz:=1) (es:=zB cS sx) (by simp) (by simp) (by simp) (by simp)) ?_;exact(gT (by simp) (by simp -dsimp))) ?_
  refine((CC.f37 B hB1 hB2 text v sx) [] 0 o'55 ho54) _ rfl _ ?_
  refine kx0 ?_
  obtain⟨v56,e57,hF⟩:=ob hF
  refine((C.f24 B hB1 hB2 o'55 v56 e57)).lend (by simp -dsimp) (by simp -dsimp) ?_
  revert hF;refine kS (fun h58 q59 hF=> ?_) (fun h58 q59 hF=> ?_)
  ·refine kx1 h58 ?_
   obtain⟨v60,e61,hF⟩:=ob hF
   refine((C.f34 B hB1 hB2 o'55 v60 e61)).lend (by simp -dsimp[h58]) (by simp -dsimp) ?_
   refine kx1 h58 ?_
   revert hF;refine aN ?_ ?_<;>intro h62 q63 hF
   ·cases hF
    exact kc3 h58 h62 q63
   ·cases hF
    exact kc3 h58 h62 q63
  ·cases hF
   exact kc2 h58 q59
theorem C.f39 (r':ZB)(r:(List yB)×ZB)(hF:F.f39 r'=some r):MutCall zQ B 167 [am cU r'.f0,li r'.f1] [.ptr 0 0] (am yC r.1) [am cU r.2.f0,li r.2.f1]:=by
 unfold F.f39 at hF
 refine zI func167 rfl ntmps167 ?_
 refine kx0 ?_
 obtain⟨v,e1,hF⟩:=ob hF
 refine((C.f0 B hB1 hB2 v e1)).goI ?_
 refine kx0 ?_
 obtain⟨v2,e3,hF⟩:=ob hF
 refine((C.f1 B hB1 hB2 r' (i64.wrap ((v.length:Int) -1)) v2 e3)).go 0 rfl (by simp) (by simp) (by simp) ?_
 obtain⟨x,e4a,hF⟩:=ob hF
 have e4a:=ZQ e4a;obtain⟨ne4,e4⟩:=e4a
 have le4:=ZA e4
 refine kdd e4 ?_
 obtain⟨v5,e6,hF⟩:=ob hF
 refine((C.f38 B hB1 hB2 x v5 e6)).goI ?_
 cases hF
 exact kc0
theorem C.f40 (c':Ctor)(index':Int)(r:Bool)(hF:F.f40 c' index'=some r):PureCall zQ B 146 [.agg [.lit (.string c'.name),am zW c'.args,li c'.index],li index'] (.lit (.bool r)):=by
 unfold F.f40 at hF
 refine zG func146 rfl ntmps146 ?_
 revert hF;refine kN ?_ ?_<;>intro h1 q2 hF
 ·refine kx2 h1 q2 ?_
  revert hF;refine aN ?_ ?_<;>intro h3 q4 hF
  ·cases hF
   exact kc4 h1 q2 h3 q4
  ·cases hF
   repeat first|refine cg ?_|simp -dsimp[h1,q2,eq_true h3,eq_true q4]
 ·cases hF
  exact kc2 h1 q2
theorem CC.f41 (w:List yB)(t:Ty):(∀(out:List Int) (k:Nat) (o:List Int),F.f41 w t out k=some o->∀(c:Code),ZS [1,1,1,0,1,0,0] (ZH Tryz.f110)=some c->∀(Q:Exit->ASt->Prop),(Q (.exit 0) ⟨[(5,.own 1 (zA (α:=Int) o))],[.dead,.elems 1 (zB cI o)]⟩)->ALoopU zQ B 0 40 (hold c .mk) ⟨[(0,am yC w),(3,.ptr 0 0),(5,.own 1 (zA (α:=Int) out)),(6,li (k:Int))],[.cells [li t.data,li t.index],.elems 1 (zB cI out)]⟩ (hold Q .mk)):=by
 refine F.f41.partial_correctness w t
  _
  ?_
 ·intro _f_f41 ih_f41 out k o hF
  refine ZJ rfl fun Q hq hk hs=> ?_
  have b0:=hk 0
  simp -dsimp at b0
  have d1:=hs 1 _ rfl
  simp -dsimp[zR]at d1
  clear hk hs
  refine eN ?_
  apply oB hF;intro x e3a hF
  have e3a:=ZQ e3a;obtain⟨ne3,e3⟩:=e3a
  have le3:=ZA e3
  refine kdd e3 ?_
  revert hF;refine aS ?_ ?_<;>intro h4 q5 hF
  ·have z6:((k:Int)<(x.ctors.length:Int)):=auz
   refine ZCu e3 h4 z6 ?_
   refine zM follows ?_
   apply oB hF;intro x7 e8 hF
   have le8:=ZA e8
   refine ZEQ e3 e8 ?_
   apply oB hF;intro v e9 hF
   refine((C.f40 B hB1 hB2 x7 t.index v e9)).pgoW (by simp_all) (by simp) ?_
   refine ZEQ e3 e8 ?_
   revert hF;refine aS (fun h10 q11 hF=> ?_) (fun h10 q11 hF=> ?_)
   ·apply oC hF;intro c12 hF
    apply oC hF;intro c13 hF
    have w14:i64.wrap ((k:Int)+1)=(k:Int)+1:=ZC (by omega) (by omega)
    repeat first|refine cg ?_|simp -dsimp[↓e3,↓e8,h10,w14]
    refine zS ((ih_f41 (out++[(k:Int)]) (k+1) o hF) _ rfl _ hq)
   ·apply oC hF;intro c15 hF
    have w16:i64.wrap ((k:Int)+1)=(k:Int)+1:=ZC (by omega) (by omega)
    repeat first|refine cg ?_|simp -dsimp[↓e3,↓e8,h10,q11,w16]
    refine zS ((ih_f41 out (k+1) o hF) _ rfl _ hq)
  ·have z6:¬((k:Int)<(x.ctors.length:Int)):=auz
   cases hF
   repeat first|refine cg ?_|simp -dsimp[↓e3,h4,q5,z6]
   refine zT hq
theorem C.f42 (w:List yB)(t:Ty)(r:List Int)(hF:F.f42 w t=some r):PureCall zQ B 110 [am yC w,.agg [li t.data,li t.index]] (am cI r):=by
 unfold F.f42 at hF
 refine zG func110 rfl ntmps110 ?_
 revert hF;refine kS ?_ ?_<;>intro h1 q2 hF
 ·cases hF
  exact kc1 h1
 ·refine kx1 q2 ?_
  apply oB hF;intro o' ho17 hF
  refine zU (((CC.f41 B hB1 hB2 w t) [] 0 o' ho17) _ rfl _ ?_)
  cases hF
  exact kc0
theorem C.f43 (c':Ctor)(index':Int)(r:Int)(hF:F.f43 c' index'=some r):PureCall zQ B 147 [.agg [.lit (.string c'.name),am zW c'.args,li c'.index],li index'] (li r):=by
 unfold F.f43 at hF
 refine zG func147 rfl ntmps147 ?_
 revert hF;refine kS ?_ ?_<;>intro h1 q2 hF
 ·cases hF
  exact kc1 h1
 ·cases hF
  exact kc1 q2
theorem CC.f44 (t:Ty)(x2:Ctor):(∀(out:List Ty) (i:Nat) (o:List Ty),F.f44 t x2 out i=some o->∀(c:Code),ZS [1,1,1,0,1,0,0] (ZH Tryz.f111)=some c->∀(Q:Exit->ASt->Prop),(Q (.exit 0) ⟨[(7,.own 1 (zA (α:=Ty) o))],[.dead,.elems 2 (zB zW o)]⟩)->ALoopU zQ B 0 46 (hold c .mk) ⟨[(4,.ptr 0 0),(7,.own 1 (zA (α:=Ty) out)),(8,.ptr 2 0),(9,li (i:Int))],[.cells [li t.data,li t.index],.elems 2 (zB zW out),.cells [.lit (.string x2.name),am zW x2.args,li x2.index]]⟩ (hold Q .mk)):=by
 refine F.f44.partial_correctness t x2
  _
  ?_
 ·intro _f_f44 ih_f44 out i o hF
  refine ZJ rfl fun Q hq hk hs=> ?_
  have d1:=hs 1 _ rfl
  simp -dsimp[zR]at d1
  have d2:=hs 2 _ rfl
  simp -dsimp[zR]at d2
  clear hk hs
  refine eN ?_
  revert hF;refine kS ?_ ?_<;>intro h4 q5 hF
  ·have z6:((i:Int)<(x2.args.length:Int)):=auz
   apply oB hF;intro x7 e8 hF
   have le8:=ZA e8
   refine ZW h4 z6 e8 ?_
   revert hF;refine aS ?_ ?_<;>intro h9 q10 hF
   ·refine kx1 h9 ?_
    apply oB hF;intro v e11 hF
    refine((C.f43 B hB1 hB2 x2 t.index v e11)).goI ?_
    apply oC hF;intro c12 hF
    have w13:i64.wrap ((i:Int)+1)=(i:Int)+1:=ZC (by omega) (by omega)
    refine kx1 w13 ?_
    refine zS ((ih_f44 (out++[(⟨x7.data,v⟩:Ty)]) (i+1) o hF) _ rfl _ hq)
   ·apply oC hF;intro c14 hF
    have w15:i64.wrap ((i:Int)+1)=(i:Int)+1:=ZC (by omega) (by omega)
    refine kx2 q10 w15 ?_
    refine zS ((ih_f44 (out++[x7]) (i+1) o hF) _ rfl _ hq)
  ·have z6:¬((i:Int)<(x2.args.length:Int)):=auz
   cases hF
   refine kx3 h4 q5 z6 ?_
   refine zT hq
theorem C.f45 (w:List yB)(t:Ty)(ctor:Int)(r:List Ty)(hF:F.f45 w t ctor=some r):PureCall zQ B 111 [am yC w,.agg [li t.data,li t.index],li ctor] (am zW r):=by
 unfold F.f45 at hF
 refine zG func111 rfl ntmps111 ?_
 apply oB hF;intro x e1a hF
 have e1a:=ZQ e1a;obtain⟨ne1,e1⟩:=e1a
 have le1:=ZA e1
 apply oB hF;intro x2 e3a hF
 have e3a:=ZQ e3a;obtain⟨ne3,e3⟩:=e3a
 have le3:=ZA e3
 refine ZEQ e1 e3 ?_
 apply oB hF;intro o' ho16 hF
 refine zU (((CC.f44 B hB1 hB2 t x2) [] 0 o' ho16) _ rfl _ ?_)
 cases hF
 exact kc0
theorem C.f46 (t:Ty)(r:Int)(hF:F.f46 t=some r):PureCall zQ B 193 [.agg [li t.data,li t.index]] (li r):=by
 unfold F.f46 at hF
 refine zG func193 rfl ntmps193 ?_
 cases hF
 exact kc0
theorem C.f47 (table:List Int)(t:Ty)(r:Int)(hF:F.f47 table t=some r):PureCall zQ B 169 [am cI table,.agg [li t.data,li t.index]] (li r):=by
 unfold F.f47 at hF
 refine zG func169 rfl ntmps169 ?_
 revert hF;refine kS ?_ ?_<;>intro h1 q2 hF
 ·cases hF
  exact kc1 h1
 ·refine kx1 q2 ?_
  apply oB hF;intro v e3 hF
  refine((C.f46 B hB1 hB2 t v e3)).goI ?_
  apply oB hF;intro x e4a hF
  have e4a:=ZQ e4a;obtain⟨ne4,e4⟩:=e4a
  have le4:=ZA e4
  cases hF
  repeat first|refine cg ?_|simp -dsimp[↓e4]
theorem CC.f48 (table:List Int)(v:List Ty):(∀(most:Int) (i:Nat) (o:Lo Int Int),F.f48 table v most i=some o->∀(c:Code),ZS [1,1,1,0,1,0,0] (ZH Tryz.f192)=some c->∀(Q:Exit->ASt->Prop),o.post (fun r=>∀st,ZAG zQ Tryz.f192 (fun r' _=>r'.le (li r)) .ret st->Q .ret st) (fun s=>Q (.exit 0) ⟨[(10,li s)],[]⟩)->ALoopU zQ B 0 37 (hold c .mk) ⟨[(1,am cI table),(9,am zW v),(10,li most),(11,li (i:Int))],[]⟩ (hold Q .mk)):=by
 refine F.f48.partial_correctness table v
  _
  ?_
 ·intro _f_f48 ih_f48 most i o hF
  refine ZJ rfl fun Q hq hk hs=> ?_
  have b1:=hk 1
  simp -dsimp at b1
  have b9:=hk 9
  simp -dsimp at b9
  clear hk hs
  refine eN ?_
  revert hF;refine kS ?_ ?_<;>intro h2 q3 hF
  ·have z4:((i:Int)<(v.length:Int)):=auz
   apply oB hF;intro x e5 hF
   have le5:=ZA e5
   refine ZW h2 z4 e5 ?_
   apply oB hF;intro v6 e7 hF
   refine((C.f47 B hB1 hB2 table x v6 e7)).goI ?_
   revert hF;refine kS ?_ ?_<;>intro h8 q9 hF
   ·cases hF
    repeat first|refine cg ?_|simp -dsimp[eq_true h8]
    refine lG _ (gR _) (hq _ ?_)
    exact kc0
   ·refine kx2 h8 q9 ?_
    revert hF;refine aS ?_ ?_<;>intro h10 q11 hF
    ·have w12:i64.wrap ((i:Int)+1)=(i:Int)+1:=ZC (by omega) (by omega)
     refine kx2 h10 w12 ?_
     refine zS ((ih_f48 v6 (i+1) o hF) _ rfl _ hq)
    ·have w13:i64.wrap ((i:Int)+1)=(i:Int)+1:=ZC (by omega) (by omega)
     refine kx3 h10 q11 w13 ?_
     refine zS ((ih_f48 most (i+1) o hF) _ rfl _ hq)
  ·have z4:¬((i:Int)<(v.length:Int)):=auz
   cases hF
   refine kx3 h2 q3 z4 ?_
   refine zT hq
theorem C.f49 (w:List yB)(table:List Int)(t:Ty)(ctor:Int)(r:Int)(hF:F.f49 w table t ctor=some r):PureCall zQ B 192 [am yC w,am cI table,.agg [li t.data,li t.index],li ctor] (li r):=by
 unfold F.f49 at hF
 refine zG func192 rfl ntmps192 ?_
 refine kB hF fun v e1 hF=> ?_
 refine((C.f45 B hB1 hB2 w t ctor v e1)).goI ?_
 refine kB hF fun o' ho14 hF=> ?_
 refine zU (((CC.f48 B hB1 hB2 table v) 0 0 o' ho14) _ rfl _ ?_)
 rcases o' with r0|sx
 ·dsimp only at hF
  cases hF
  intro st h
  simpa using h
 ·dsimp only at hF
  cases hF
  exact kc0
theorem CC.f50 (w:List yB)(n:Nat)(s:Nat)(v:List Int):(∀(table10:List Int) (i:Nat) (o:List Int),F.f50 w n s v table10 i=some o->∀(c:Code),ZS [1,1,0,1,0,0,1,0,0,1,0,0,1,0,0,1,1,1,0,0] (ZH Tryz.f168)=some c->∀(Q:Exit->ASt->Prop),(Q (.exit 4) ⟨[(0,am yC w),(3,.own 0 (zA (α:=Int) o)),(4,li (n:Int)),(5,li (s:Int))],[.elems 1 (zB cI o)]⟩)->ALoopU zQ B 0 70 (hold c .mk) ⟨[(0,am yC w),(3,.own 0 (zA (α:=Int) table10)),(4,li (n:Int)),(5,li (s:Int)),(6,.ptr 1 0),(7,am cI v),(8,li (i:Int))],[.elems 1 (zB cI table10),.cells [li (i64.wrap ((s:Int).tdiv 4)),li ((s:Int).tmod 4)]]⟩ (hold Q .mk)):=by
 refine F.f50.partial_correctness w n s v
  _
  ?_
 ·intro _f_f50 ih_f50 table10 i o hF
  refine ZJ rfl fun Q hq hk hs=> ?_
  have b0:=hk 0
  simp -dsimp at b0
  have b7:=hk 7
  simp -dsimp at b7
  have d0:=hs 0 _ rfl
  simp -dsimp[zR]at d0
  clear hk hs
  refine eN ?_
  revert hF;refine kS ?_ ?_<;>intro h11 q12 hF
  ·have z13:((i:Int)<(v.length:Int)):=auz
   refine kx2 h11 z13 ?_
   refine zL [192] [(0,0),(0,0),(0,0),(0,0),(0,0),(0,0),(0,0),(0,1),(1,1)] [1,1,1,1,1,1,1,1,1] follows ?_
   apply oB hF;intro x e14 hF
   have le14:=ZA e14
   refine kdd e14 ?_
   apply oB hF;intro v15 e16 hF
   refine((C.f49 B hB1 hB2 w table10 (⟨i64.wrap ((s:Int).tdiv 4),(s:Int).tmod 4⟩:Ty) x v15 e16)).elend (by simp -dsimp[h11,z13,↓e14]) (by simp -dsimp) ?_
   revert hF;refine kS ?_ ?_<;>intro h17 q18 hF
   ·apply oB hF;intro x19 e20 hF
    have le20:=ZA e20
    refine ZOk h17 e20 ?_
    revert hF;refine aN ?_ ?_<;>intro h21 q22 hF
    ·repeat first|refine cg ?_|simp -dsimp[h11,z13,↓e14,h17,↓e20,h21,q22]
     revert hF;refine aS ?_ ?_<;>intro h23 q24 hF
     ·have w25:i64.wrap ((i:Int)+1)=(i:Int)+1:=ZC (by omega) (by omega)
      repeat first|refine cg ?_|simp -dsimp[h11,z13,↓e14,h17,↓e20,h21,q22,h23,w25]
      refine zS ((ih_f50 (table10.set s v15) (i+1) o hF) _ rfl _ hq)
     ·have w26:i64.wrap ((i:Int)+1)=(i:Int)+1:=ZC (by omega) (by omega)
      refine kx3 h23 q24 w26 ?_
      refine zS ((ih_f50 table10 (i+1) o hF) _ rfl _ hq)
    ·have w27:i64.wrap ((i:Int)+1)=(i:Int)+1:=ZC (by omega) (by omega)
     repeat first|refine cg ?_|simp -dsimp[h11,z13,↓e14,h17,↓e20,eq_true h21,eq_true q22,w27]
     refine zS ((ih_f50 (table10.set s v15) (i+1) o hF) _ rfl _ hq)
   ·have w28:i64.wrap ((i:Int)+1)=(i:Int)+1:=ZC (by omega) (by omega)
    refine kx3 h17 q18 w28 ?_
    refine zS ((ih_f50 table10 (i+1) o hF) _ rfl _ hq)
  ·have z13:¬((i:Int)<(v.length:Int)):=auz
   cases hF
   refine kx3 h11 q12 z13 ?_
   refine zT hq
theorem CC.f51 (w:List yB)(n:Nat):(∀(table5:List Int) (s:Nat) (o:List Int),F.f51 w n table5 s=some o->∀(c:Code),ZS [1,1,0,1,0,0,1,0,0,1,0,0] (ZH Tryz.f168)=some c->∀(Q:Exit->ASt->Prop),(Q (.exit 2) ⟨[(0,am yC w),(3,.own 0 (zA (α:=Int) o)),(4,li (n:Int))],[.elems 1 (zB cI o)]⟩)->ALoopU zQ B 0 70 (hold c .mk) ⟨[(0,am yC w),(3,.own 0 (zA (α:=Int) table5)),(4,li (n:Int)),(5,li (s:Int))],[.elems 1 (zB cI table5)]⟩ (hold Q .mk)):=by
 refine F.f51.partial_correctness w n
  _
  ?_
 ·intro _f_f51 ih_f51 table5 s o hF
  refine ZJ rfl fun Q hq hk hs=> ?_
  have b0:=hk 0
  simp -dsimp at b0
  have d0:=hs 0 _ rfl
  simp -dsimp[zR]at d0
  clear hk hs
  refine eN ?_
  revert hF;refine kS ?_ ?_<;>intro h6 q7 hF
  ·have z8:((s:Int)<(table5.length:Int)):=auz
   refine kx2 h6 z8 ?_
   apply oB hF;intro v e9 hF
   refine((C.f42 B hB1 hB2 w (⟨i64.wrap ((s:Int).tdiv 4),(s:Int).tmod 4⟩:Ty) v e9)).goI ?_
   refine kB hF fun o' ho29 hF=> ?_
   refine zU (((CC.f50 B hB1 hB2 w n s v) table5 0 o' ho29) _ rfl _ ?_)
   apply oC hF;intro c30 hF
   have w31:i64.wrap ((s:Int)+1)=(s:Int)+1:=ZC (by omega) (by omega)
   refine kx1 w31 ?_
   refine zS ((ih_f51 o' (s+1) o hF) _ rfl _ hq)
  ·have z8:¬((s:Int)<(table5.length:Int)):=auz
   cases hF
   refine kx3 h6 q7 z8 ?_
   refine zT hq
theorem CC.f52 (w:List yB):(∀(table:List Int) (n:Nat) (o:List Int),F.f52 w table n=some o->∀(c:Code),ZS [1,1,0,1,0,0] (ZH Tryz.f168)=some c->∀(Q:Exit->ASt->Prop),(Q (.exit 0) ⟨[(3,.own 0 (zA (α:=Int) o))],[.elems 1 (zB cI o)]⟩)->ALoopU zQ B 0 70 (hold c .mk) ⟨[(0,am yC w),(3,.own 0 (zA (α:=Int) table)),(4,li (n:Int))],[.elems 1 (zB cI table)]⟩ (hold Q .mk)):=by
 refine F.f52.partial_correctness w
  _
  ?_
 ·intro _f_f52 ih_f52 table n o hF
  refine ZJ rfl fun Q hq hk hs=> ?_
  have b0:=hk 0
  simp -dsimp at b0
  have d0:=hs 0 _ rfl
  simp -dsimp[zR]at d0
  clear hk hs
  refine eN ?_
  revert hF;refine kS ?_ ?_<;>intro h2 q3 hF
  ·have z4:((n:Int)<=(table.length:Int)):=auz
   refine kx2 h2 z4 ?_
   apply oB hF;intro o'33 ho32 hF
   refine zU (((CC.f51 B hB1 hB2 w n) table 0 o'33 ho32) _ rfl _ ?_)
   apply oC hF;intro c34 hF
   have w35:i64.wrap ((n:Int)+1)=(n:Int)+1:=ZC (by omega) (by omega)
   refine kx1 w35 ?_
   refine zS ((ih_f52 o'33 (n+1) o hF) _ rfl _ hq)
  ·have z4:¬((n:Int)<=(table.length:Int)):=auz
   cases hF
   refine kx3 h2 q3 z4 ?_
   refine zT hq
theorem C.f53 (w:List yB)(r:List Int)(hF:F.f53 w=some r):PureCall zQ B 168 [am yC w] (am cI r):=by
 unfold F.f53 at hF
 refine zG func168 rfl ntmps168 ?_
 apply oC hF;intro c1 hF
 refine kB hF fun o'37 ho36 hF=> ?_
 refine zU (((CC.f52 B hB1 hB2 w) (List.replicate ((i64.wrap ((w.length:Int)*4)).toNat) 0) 0 o'37 ho36) _ rfl _ ?_)
 cases hF
 exact kc0
theorem C.f54 (r':ZB)(list:List Int)(r:Int×ZB)(hF:F.f54 r' list=some r):MutCall zQ B 137 [am cU r'.f0,li r'.f1] [.ptr 0 0,am cI list] (li r.1) [am cU r.2.f0,li r.2.f1]:=by
 unfold F.f54 at hF
 refine zI func137 rfl ntmps137 ?_
 refine kB hF fun v e1 hF=> ?_
 refine((C.f1 B hB1 hB2 r' (list.length:Int) v e1)).go 0 rfl (by simp) (by simp) (by simp) ?_
 apply oB hF;intro x e2a hF
 have e2a:=ZQ e2a;obtain⟨ne2,e2⟩:=e2a
 have le2:=ZA e2
 cases hF
 repeat first|refine cg ?_|simp -dsimp[↓e2]
theorem CC.f55 (r':ZB)(w:List yB)(table:List Int)(t:Ty)(depth:Int)(v4:List Int):(∀(fine:List Int) (i:Nat) (o:List Int),F.f55 r' w table t depth v4 fine i=some o->∀(c:Code),ZS [1,1,1,1,0,1,0,0] (ZH Tryz.f170)=some c->∀(Q:Exit->ASt->Prop),(Q (.exit 0) ⟨[(0,.ptr 0 0),(1,am yC w),(2,am cI table),(4,li depth),(8,.ptr 1 0),(10,.ptr 2 0),(12,.own 3 (zA (α:=Int) o))],[.cells [am cU r'.f0,li r'.f1],.cells [li t.data,li t.index],.cells [li 0,li 0,.lit (.slice none 0 0)],.elems 1 (zB cI o)]⟩)->ALoopU zQ B 1 98 (hold c .mk) ⟨[(0,.ptr 0 0),(1,am yC w),(2,am cI table),(4,li depth),(8,.ptr 1 0),(10,.ptr 2 0),(11,am cI v4),(12,.own 3 (zA (α:=Int) fine)),(13,li (i:Int))],[.cells [am cU r'.f0,li r'.f1],.cells [li t.data,li t.index],.cells [li 0,li 0,.lit (.slice none 0 0)],.elems 1 (zB cI fine)]⟩ (hold Q .mk)):=by
 refine F.f55.partial_correctness r' w table t depth v4
  _
  ?_
 ·intro _f_f55 ih_f55 fine i o hF
  refine ZJ rfl fun Q hq hk hs=> ?_
  have b1:=hk 1
  simp -dsimp at b1
  have b2:=hk 2
  simp -dsimp at b2
  have b11:=hk 11
  simp -dsimp at b11
  have d0:=hs 0 _ rfl
  simp -dsimp[zR]at d0
  have d3:=hs 3 _ rfl
  simp -dsimp[zR]at d3
  clear hk hs
  refine eN ?_
  revert hF;refine kS ?_ ?_<;>intro h6 q7 hF
  ·have z8:((i:Int)<(v4.length:Int)):=auz
   refine kx2 h6 z8 ?_
   refine zM follows ?_
   apply oB hF;intro x e9 hF
   have le9:=ZA e9
   refine kdd e9 ?_
   apply oB hF;intro v10 e11 hF
   refine((C.f49 B hB1 hB2 w table t x v10 e11)).pgoW (by simp[h6,z8,↓e9]) (by simp) ?_
   revert hF;refine kS ?_ ?_<;>intro h12 q13 hF
   ·refine kx1 h12 ?_
    revert hF;refine aN ?_ ?_<;>intro h14 q15 hF
    ·refine kx2 h14 q15 ?_
     apply oB hF;intro v16 e17 hF
     refine((C.f47 B hB1 hB2 table t v16 e17)).goI ?_
     repeat first|refine cg ?_|simp -dsimp[h6,z8,↓e9,h12,h14,q15]
     revert hF;refine aS ?_ ?_<;>intro h18 q19 hF
     ·apply oC hF;intro c20 hF
      have w21:i64.wrap ((i:Int)+1)=(i:Int)+1:=ZC (by omega) (by omega)
      repeat first|refine cg ?_|simp -dsimp[h6,z8,↓e9,h12,h14,q15,h18,w21]
      refine zS ((ih_f55 (fine++[x]) (i+1) o hF) _ rfl _ hq)
     ·have w22:i64.wrap ((i:Int)+1)=(i:Int)+1:=ZC (by omega) (by omega)
      repeat first|refine cg ?_|simp -dsimp[h6,z8,↓e9,h12,h14,q15,h18,q19,w22]
      refine zS ((ih_f55 fine (i+1) o hF) _ rfl _ hq)
    ·apply oC hF;intro c23 hF
     have w24:i64.wrap ((i:Int)+1)=(i:Int)+1:=ZC (by omega) (by omega)
     repeat first|refine cg ?_|simp -dsimp[h6,z8,↓e9,h12,h14,q15,w24]
     refine zS ((ih_f55 (fine++[x]) (i+1) o hF) _ rfl _ hq)
   ·have w25:i64.wrap ((i:Int)+1)=(i:Int)+1:=ZC (by omega) (by omega)
    refine kx2 q13 w25 ?_
    refine zS ((ih_f55 fine (i+1) o hF) _ rfl _ hq)
  ·have z8:¬((i:Int)<(v4.length:Int)):=auz
   cases hF
   refine kx3 h6 q7 z8 ?_
   refine zT hq
theorem CC.f56 (w:List yB)(table:List Int):(∀(r':ZB) (t:Ty) (depth:Int) (r:Vl.Value×ZB),F.f56 r' w table t depth=some r->MutCall zQ B 170 [am cU r'.f0,li r'.f1] [.ptr 0 0,am yC w,am cI table,.agg [li t.data,li t.index],li depth] (.agg [li r.1.ctor,li r.1.n,am Vl.Value.c r.1.kids]) [am cU r.2.f0,li r.2.f1])/\
  (∀(depth:Int) (x29:Int) (v31:List Ty) (z:List Int) (z33:Int) (out:List Vl.Value) (i34:Nat) (o:(List Int)×Int×(List Vl.Value)),F.f57 w table depth x29 v31 z z33 out i34=some o->∀(c:Code),ZS [1,1,1,1,1,1,1,0,1,0,0] (ZH Tryz.f170)=some c->∀(Q:Exit->ASt->Prop),(Q (.exit 2) ⟨[(10,.ptr 2 0),(15,.ptr 4 0)],[.cells [am cU o.1,li o.2.1],.dead,.cells [li 0,li 0,.lit (.slice none 0 0)],.dead,.cells [li x29,li 0,.own 5 (zA (α:=Vl.Value) o.2.2)],.elems 3 (zB Vl.Value.c o.2.2)]⟩)->ALoopU zQ B 1 98 (hold c .mk) ⟨[(0,.ptr 0 0),(1,am yC w),(2,am cI table),(4,li depth),(10,.ptr 2 0),(15,.ptr 4 0),(16,am zW v31),(17,li (i34:Int))],[.cells [am cU z,li z33],.dead,.cells [li 0,li 0,.lit (.slice none 0 0)],.dead,.cells [li x29,li 0,.own 5 (zA (α:=Vl.Value) out)],.elems 3 (zB Vl.Value.c out)]⟩ (hold Q .mk)):=by
 refine F.f56.mutual_partial_correctness w table
  _ _
  ?_ ?_
 ·intro _f_f57 ih_f57 r' t depth r hF
  refine zI func170 rfl ntmps170 ?_
  revert hF;refine kS ?_ ?_<;>intro h1 q2 hF
  ·refine kx1 h1 ?_
   apply oB hF;intro v e3 hF
   refine((C.f1 B hB1 hB2 r' 10 v e3)).go 0 rfl (by simp_all) (by simp) (by simp_all) ?_
   cases hF
   exact kc0
  ·refine kx1 q2 ?_
   apply oB hF;intro v4 e5 hF
   refine((C.f42 B hB1 hB2 w t v4 e5)).goI ?_
   refine kB hF fun o' ho26 hF=> ?_
   refine zU (((CC.f55 B hB1 hB2 r' w table t depth v4) [] 0 o' ho26) _ rfl _ ?_)
   refine kB hF fun v27 e28 hF=> ?_
   refine((C.f1 B hB1 hB2 r' (o'.length:Int) v27 e28)).go 0 rfl (by simp) (by simp) (by simp) ?_
   apply oB hF;intro x29 e30a hF
   have e30a:=ZQ e30a;obtain⟨ne30,e30⟩:=e30a
   have le30:=ZA e30
   refine kdd e30 ?_
   apply oB hF;intro v31 e32 hF
   refine((C.f45 B hB1 hB2 w t x29 v31 e32)).goI ?_
   refine kB hF fun o'45 ho44 hF=> ?_
   refine zV ⟨[(0,.ptr 0 0),(1,.arr (zB yC w)),(2,.arr (zB cI table)),(4,.lit (.int .i64 depth)),(10,.ptr 2 0),(15,.ptr 4 0),(16,.arr (zB zW v31)),(17,.lit (.int .i64 0))],[.cells [.arr (zB cU v27.2.f0),.lit (.int .i64 v27.2.f1)],.dead,.cells [.lit (.int .i64 0),.lit (.int .i64 0),.lit (.slice none 0 0)],.dead,.cells [.lit (.int .i64 x29),.lit (.int .i64 0),.own 5 (zA (α:=Vl.Value) [])],.elems 3 (zB Vl.Value.c [])]⟩ (by refine zX (zY 4 2 3 (by simp -dsimp;rfl) (by simp -dsimp)) ?_;exact(gT (by simp) (by simp_all))) ?_
   refine(ih_f57 depth x29 v31 v27.2.f0 v27.2.f1 [] 0 o'45 ho44) _ rfl _ ?_
   cases hF
   exact kc0
 ·intro _f_f56 _f_f57 ih_f56 ih_f57 depth x29 v31 z z33 out i34 o hF
  refine ZJ rfl fun Q hq hk hs=> ?_
  have b1:=hk 1
  simp -dsimp at b1
  have b2:=hk 2
  simp -dsimp at b2
  have b16:=hk 16
  simp -dsimp at b16
  have d0:=hs 0 _ rfl
  simp -dsimp[zR]at d0
  have d5:=hs 5 _ rfl
  simp -dsimp[zR]at d5
  clear hk hs
  refine eN ?_
  revert hF;refine kS ?_ ?_<;>intro h35 q36 hF
  ·have z37:((i34:Int)<(v31.length:Int)):=auz
   refine kx2 h35 z37 ?_
   refine zL [170] [(0,2),(0,2),(0,0),(0,0),(0,0),(0,0),(0,0),(0,0),(0,0),(0,0),(0,0),(0,4),(0,4),(0,4),(3,3),(0,4)] [0,2,1,1,1,1,1,1,1,1,1,1,1,1,1,1] follows ?_
   apply oB hF;intro x38 e39 hF
   have le39:=ZA e39
   refine kdd e39 ?_
   apply oB hF;intro v40 e41 hF
   refine((ih_f56 (⟨z,z33⟩:ZB) x38 (i64.wrap (depth-1)) v40 e41)).ego 0 rfl (by simp_all) (by simp) (by simp_all) ?_
   apply oC hF;intro c42 hF
   have w43:i64.wrap ((i34:Int)+1)=(i34:Int)+1:=ZC (by omega) (by omega)
   refine kx1 w43 ?_
   refine zS ((ih_f57 depth x29 v31 v40.2.f0 v40.2.f1 (out++[v40.1]) (i34+1) o hF) _ rfl _ hq)
  ·have z37:¬((i34:Int)<(v31.length:Int)):=auz
   cases hF
   refine kx3 h35 q36 z37 ?_
   refine zT hq
theorem C.f58 (r':ZB)(r:(List yB)×Ty×Vl.Value×ZB)(hF:F.f58 r'=some r):MutCall zQ B 134 [am cU r'.f0,li r'.f1] [.ptr 0 0] (.tup [am yC r.1,.agg [li r.2.1.data,li r.2.1.index],.agg [li r.2.2.1.ctor,li r.2.2.1.n,am Vl.Value.c r.2.2.1.kids]]) [am cU r.2.2.2.f0,li r.2.2.2.f1]:=by
 unfold F.f58 at hF
 refine zI func134 rfl ntmps134 ?_
 refine kB hF fun v e1 hF=> ?_
 refine((C.f39 B hB1 hB2 r' v e1)).go 0 rfl (by simp) (by simp) (by simp) ?_
 refine kB hF fun v2 e3 hF=> ?_
 refine((C.f53 B hB1 hB2 v.1 v2 e3)).goI ?_
 refine kB hF fun v4 e5 hF=> ?_
 refine((C.f1 B hB1 hB2 v.2 (v.1.length:Int) v4 e5)).go 0 rfl (by simp) (by simp) (by simp) ?_
 refine kB hF fun v6 e7 hF=> ?_
 refine yE ?_ ((C.f54 B hB1 hB2 v4.2 [0,0,1,2] v6 e7)).ent
 refine kx0 ?_
 refine((C.f54 B hB1 hB2 v4.2 [0,0,1,2] v6 e7)).go 0 rfl (by simp) (by simp) (by simp) ?_
 refine kB hF fun v8 e9 hF=> ?_
 refine((C.f47 B hB1 hB2 v2 (⟨v4.1,v6.1⟩:Ty) v8 e9)).goI ?_
 revert hF;refine kS ?_ ?_<;>intro h10 q11 hF
 ·repeat first|refine cg ?_|simp -dsimp[eq_true h10]
  refine zL [137,170] [(0,3),(0,3),(0,2),(0,2),(0,2),(0,2),(0,1),(0,5),(0,5),(0,5),(3,3),(0,5),(0,5)] [1,2,1,1,1,2,1,1,1,1,1,1,1] follows ?_
  refine kB hF fun v12 e13 hF=> ?_
  refine yG ?_ ((C.f54 B hB1 hB2 v6.2 [3,2,4,1] v12 e13)).ent
  refine kx0 ?_
  refine((C.f54 B hB1 hB2 v6.2 [3,2,4,1] v12 e13)).ego 0 rfl (by simp_all) (by simp) (by simp_all) ?_
  refine kB hF fun v14 e15 hF=> ?_
  refine(((CC.f56 B hB1 hB2 v.1 v2).1 v12.2 (⟨(-1),0⟩:Ty) v12.1 v14 e15)).ego 0 rfl (by simp_all) (by simp) (by simp_all) ?_
  cases hF
  exact kc0
 ·refine kx2 h10 q11 ?_
  refine zL [137,170] [(0,3),(0,3),(0,2),(0,2),(0,2),(0,2),(0,1),(0,5),(0,5),(0,5),(3,3),(0,5),(0,5)] [1,2,1,1,1,2,1,1,1,1,1,1,1] follows ?_
  refine kB hF fun v16 e17 hF=> ?_
  refine yG ?_ ((C.f54 B hB1 hB2 v6.2 [3,2,4,1] v16 e17)).ent
  refine kx0 ?_
  refine((C.f54 B hB1 hB2 v6.2 [3,2,4,1] v16 e17)).ego 0 rfl (by simp_all) (by simp) (by simp_all) ?_
  refine kB hF fun v18 e19 hF=> ?_
  refine(((CC.f56 B hB1 hB2 v.1 v2).1 v16.2 (⟨v4.1,v6.1⟩:Ty) v16.1 v18 e19)).ego 0 rfl (by simp_all) (by simp) (by simp_all) ?_
  cases hF
  exact kc0
theorem CC.f59 (w:List yB):(∀(r':ZB) (t:Ty) (depth:Int) (r:Pattern×ZB),F.f59 r' w t depth=some r->MutCall zQ B 212 [am cU r'.f0,li r'.f1] [.ptr 0 0,am yC w,.agg [li t.data,li t.index],li depth] (.agg [li r.1.op,li r.1.ctor,li r.1.n,li r.1.m,li r.1.var,am yI r.1.kids]) [am cU r.2.f0,li r.2.f1])/\
  (∀(depth:Int) (x:Int) (v30:List Ty) (z:List Int) (z32:Int) (out:List Pattern) (i:Nat) (o:(List Int)×Int×(List Pattern)),F.f60 w depth x v30 z z32 out i=some o->∀(c:Code),ZS [1,1,1,1,1,1,1,1,0,1,0,0] (ZH Tryz.f212)=some c->∀(Q:Exit->ASt->Prop),(Q (.exit 0) ⟨[(8,.ptr 2 0),(11,.ptr 3 0)],[.cells [am cU o.1,li o.2.1],.dead,.cells [li 0,li 0,li 0,li 0,li 0,.lit (.slice none 0 0)],.cells [li 4,li x,li 0,li 0,li 0,.own 4 (zA (α:=Pattern) o.2.2)],.elems 6 (zB yI o.2.2)]⟩)->ALoopU zQ B 1 96 (hold c .mk) ⟨[(0,.ptr 0 0),(1,am yC w),(3,li depth),(8,.ptr 2 0),(11,.ptr 3 0),(12,am zW v30),(13,li (i:Int))],[.cells [am cU z,li z32],.dead,.cells [li 0,li 0,li 0,li 0,li 0,.lit (.slice none 0 0)],.cells [li 4,li x,li 0,li 0,li 0,.own 4 (zA (α:=Pattern) out)],.elems 6 (zB yI out)]⟩ (hold Q .mk)):=by
 refine F.f59.mutual_partial_correctness w
  _ _
  ?_ ?_
 ·intro _f_f59 _f_f60 ih_f59 ih_f60 r' t depth r hF
  refine zI func212 rfl ntmps212 ?_
  revert hF;refine kN ?_ ?_<;>intro h1 q2 hF
  ·refine kx2 h1 q2 ?_
   apply oB hF;intro v e3 hF
   refine((C.f1 B hB1 hB2 r' 4 v e3)).go 0 rfl (by simp[h1,q2]) (by simp) (by simp[h1,q2]) ?_
   refine kx2 h1 q2 ?_
   revert hF;refine aS ?_ ?_<;>intro h4 q5 hF
   ·cases hF
    exact kc3 h1 q2 h4
   ·refine kx4 h1 q2 h4 q5 ?_
    apply oB hF;intro v6 e7 hF
    refine((C.f1 B hB1 hB2 v.2 6 v6 e7)).go 0 rfl (by simp[h1,q2,h4,q5]) (by simp) (by simp[h1,q2,h4,q5]) ?_
    refine kx4 h1 q2 h4 q5 ?_
    revert hF;refine aS ?_ ?_<;>intro h8 q9 hF
    ·refine kx5 h1 q2 h4 q5 h8 ?_
     refine zL [212,1000086] [(0,0),(0,0),(0,0),(0,0),(0,0),(0,5),(0,1),(0,1),(0,1),(0,1),(0,1),(0,5),(0,5),(0,5),(0,5)] [1,1,1,1,1,1,1,1,2,1,1,1,1,1,1] follows ?_
     refine kx5 h1 q2 h4 q5 h8 ?_
     apply oB hF;intro v10 e11 hF
     refine((ih_f59 v6.2 t (i64.wrap (depth-1)) v10 e11)).ego 0 rfl (by simp[h1,q2,h4,q5,h8]) (by simp) (by simp[h1,q2,h4,q5,h8]) ?_
     refine kx5 h1 q2 h4 q5 h8 ?_
     apply oB hF;intro v12 e13 hF
     refine((ih_f59 v10.2 t (i64.wrap (depth-1)) v12 e13)).ego 0 rfl (by simp[h1,q2,h4,q5,h8]) (by simp) (by simp[h1,q2,h4,q5,h8]) ?_
     cases hF
     exact kc5 h1 q2 h4 q5 h8
    ·refine kx6 h1 q2 h4 q5 h8 q9 ?_
     revert hF;refine aS ?_ ?_<;>intro h14 q15 hF
     ·refine kx7 h1 q2 h4 q5 h8 q9 h14 ?_
      apply oB hF;intro v16 e17 hF
      refine((C.f1 B hB1 hB2 v6.2 10 v16 e17)).go 0 rfl (by simp[h1,q2,h4,q5,h8,q9,h14]) (by simp) (by simp[h1,q2,h4,q5,h8,q9,h14]) ?_
      refine kx7 h1 q2 h4 q5 h8 q9 h14 ?_
      apply oB hF;intro v18 e19 hF
      refine((C.f1 B hB1 hB2 v16.2 (i64.wrap (10-v16.1)) v18 e19)).go 0 rfl (by simp[h1,q2,h4,q5,h8,q9,h14]) (by simp) (by simp[h1,q2,h4,q5,h8,q9,h14]) ?_
      refine kx7 h1 q2 h4 q5 h8 q9 h14 ?_
      apply oB hF;intro v20 e21 hF
      refine((C.f1 B hB1 hB2 v18.2 2 v20 e21)).go 0 rfl (by simp[h1,q2,h4,q5,h8,q9,h14]) (by simp) (by simp[h1,q2,h4,q5,h8,q9,h14]) ?_
      cases hF
      exact kc7 h1 q2 h4 q5 h8 q9 h14
     ·refine kx8 h1 q2 h4 q5 h8 q9 h14 q15 ?_
      apply oB hF;intro v22 e23 hF
      refine((C.f42 B hB1 hB2 w t v22 e23)).goI ?_
      refine kx8 h1 q2 h4 q5 h8 q9 h14 q15 ?_
      revert hF;refine aS ?_ ?_<;>intro h24 q25 hF
      ·have z26:((v22.length:Int)=0):=auz
       cases hF
       repeat first|refine cg ?_|simp -dsimp[h1,q2,h4,q5,h8,q9,h14,q15,h24,z26]
      ·have z26:¬((v22.length:Int)=0):=auz
       repeat first|refine cg ?_|simp -dsimp[h1,q2,h4,q5,h8,q9,h14,q15,h24,q25,z26]
       apply oB hF;intro v27 e28 hF
       refine((C.f1 B hB1 hB2 v6.2 (v22.length:Int) v27 e28)).go 0 rfl (by simp[h1,q2,h4,q5,h8,q9,h14,q15,h24,q25,z26]) (by simp) (by simp[h1,q2,h4,q5,h8,q9,h14,q15,h24,q25,z26]) ?_
       apply oB hF;intro x e29a hF
       have e29a:=ZQ e29a;obtain⟨ne29,e29⟩:=e29a
       have le29:=ZA e29
       repeat first|refine cg ?_|simp -dsimp[h1,q2,h4,q5,h8,q9,h14,q15,h24,q25,z26,↓e29]
       apply oB hF;intro v30 e31 hF
       refine((C.f45 B hB1 hB2 w t x v30 e31)).goI ?_
       repeat first|refine cg ?_|simp -dsimp[h1,q2,h4,q5,h8,q9,h14,q15,h24,q25,z26,↓e29]
       apply oB hF;intro o' ho42 hF
       refine zV ⟨[(0,.ptr 0 0),(1,.arr (zB yC w)),(3,.lit (.int .i64 depth)),(8,.ptr 2 0),(11,.ptr 3 0),(12,.arr (zB zW v30)),(13,.lit (.int .i64 0))],[.cells [.arr (zB cU v27.2.f0),.lit (.int .i64 v27.2.f1)],.dead,.cells [.lit (.int .i64 0),.lit (.int .i64 0),.lit (.int .i64 0),.lit (.int .i64 0),.lit (.int .i64 0),.lit (.slice none 0 0)],.cells [.lit (.int .i64 4),.lit (.int .i64 x),.lit (.int .i64 0),.lit (.int .i64 0),.lit (.int .i64 0),.own 4 (zA (α:=Pattern) [])],.elems 6 (zB yI [])]⟩ (by refine zX (zY 3 5 6 (by simp -dsimp;rfl) (by simp -dsimp)) ?_;exact(gT (by simp) (by simp -dsimp[h1,q2,h4,q5,h8,q9,h14,q15,h24,q25,z26,↓e29]))) ?_
       refine(ih_f60 depth x v30 v27.2.f0 v27.2.f1 [] 0 o' ho42) _ rfl _ ?_
       cases hF
       exact kc0
  ·cases hF
   exact kc2 h1 q2
 ·intro _f_f59 _f_f60 ih_f59 ih_f60 depth x v30 z z32 out i o hF
  refine ZJ rfl fun Q hq hk hs=> ?_
  have b1:=hk 1
  simp -dsimp at b1
  have b12:=hk 12
  simp -dsimp at b12
  have d0:=hs 0 _ rfl
  simp -dsimp[zR]at d0
  have d4:=hs 4 _ rfl
  simp -dsimp[zR]at d4
  clear hk hs
  refine eN ?_
  revert hF;refine kS ?_ ?_<;>intro h33 q34 hF
  ·have z35:((i:Int)<(v30.length:Int)):=auz
   refine kx2 h33 z35 ?_
   refine zL [212] [(0,2),(0,2),(0,0),(0,0),(0,0),(0,0),(0,0),(0,0),(0,0),(0,0),(0,4),(0,4),(0,4),(3,3),(0,4)] [0,2,1,1,1,1,1,1,1,1,1,1,1,1,1] follows ?_
   apply oB hF;intro x36 e37 hF
   have le37:=ZA e37
   refine ZW h33 z35 e37 ?_
   apply oB hF;intro v38 e39 hF
   refine((ih_f59 (⟨z,z32⟩:ZB) x36 (i64.wrap (depth-1)) v38 e39)).ego 0 rfl (by simp[h33,z35,↓e37]) (by simp) (by simp[h33,z35,↓e37]) ?_
   apply oC hF;intro c40 hF
   have w41:i64.wrap ((i:Int)+1)=(i:Int)+1:=ZC (by omega) (by omega)
   repeat first|refine cg ?_|simp -dsimp[h33,z35,↓e37,w41]
   refine zS ((ih_f60 depth x v30 v38.2.f0 v38.2.f1 (out++[v38.1]) (i+1) o hF) _ rfl _ hq)
  ·have z35:¬((i:Int)<(v30.length:Int)):=auz
   cases hF
   refine kx3 h33 q34 z35 ?_
   refine zT hq
theorem CC.f61  :(∀(r':ZB) (p:Pattern) (n:Int) (r:Pattern×Int×ZB),F.f61 r' p n=some r->MutCall zQ B 211 [am cU r'.f0,li r'.f1] [.ptr 0 0,.agg [li p.op,li p.ctor,li p.n,li p.m,li p.var,am yI p.kids],li n] (.tup [.agg [li r.1.op,li r.1.ctor,li r.1.n,li r.1.m,li r.1.var,am yI r.1.kids],li r.2.1]) [am cU r.2.2.f0,li r.2.2.f1])/\
  (∀(p:Pattern) (n:Int) (z28:List Int) (z29:Int) (out30:List Pattern) (i31:Nat) (next32:Int) (o:(List Int)×Int×(List Pattern)×Int),F.f63 p n z28 z29 out30 i31 next32=some o->∀(c:Code),ZS [1,1,1,1,1,1,0,1,0,0] (ZH Tryz.f211)=some c->∀(Q:Exit->ASt->Prop),(Q (.exit 0) ⟨[(0,.ptr 0 0),(6,.ptr 2 0),(8,.ptr 3 0),(9,li o.2.2.2)],[.cells [am cU o.1,li o.2.1],.dead,.cells [li 0,li 0,li 0,li 0,li 0,.lit (.slice none 0 0)],.cells [li p.op,li p.ctor,li p.n,li p.m,li p.var,.own 4 (zA (α:=Pattern) o.2.2.1)],.elems 6 (zB yI o.2.2.1)]⟩)->ALoopU zQ B 1 82 (hold c .mk) ⟨[(0,.ptr 0 0),(4,.ptr 1 0),(6,.ptr 2 0),(8,.ptr 3 0),(9,li next32),(10,li (i31:Int))],[.cells [am cU z28,li z29],.cells [li p.op,li p.ctor,li p.n,li p.m,li p.var,am yI p.kids],.cells [li 0,li 0,li 0,li 0,li 0,.lit (.slice none 0 0)],.cells [li p.op,li p.ctor,li p.n,li p.m,li p.var,.own 4 (zA (α:=Pattern) out30)],.elems 6 (zB yI out30)]⟩ (hold Q .mk))/\
  (∀(p:Pattern) (n:Int) (z:List Int) (z12:Int) (out:List Pattern) (i:Nat) (next:Int) (o:(List Int)×Int×(List Pattern)×Int),F.f62 p n z z12 out i next=some o->∀(c:Code),ZS [1,1,1,1,1,1,0,1,0,0] (ZH Tryz.f211)=some c->∀(Q:Exit->ASt->Prop),(Q (.exit 0) ⟨[(0,.ptr 0 0),(6,.ptr 2 0),(8,.ptr 3 0),(9,li o.2.2.2)],[.cells [am cU o.1,li o.2.1],.dead,.cells [li 0,li 0,li 0,li 0,li 0,.lit (.slice none 0 0)],.cells [li p.op,li p.ctor,li p.n,li p.m,li p.var,.own 4 (zA (α:=Pattern) o.2.2.1)],.elems 6 (zB yI o.2.2.1)]⟩)->ALoopU zQ B 1 82 (hold c .mk) ⟨[(0,.ptr 0 0),(4,.ptr 1 0),(6,.ptr 2 0),(8,.ptr 3 0),(9,li next),(10,li (i:Int))],[.cells [am cU z,li z12],.cells [li p.op,li p.ctor,li p.n,li p.m,li p.var,am yI p.kids],.cells [li 0,li 0,li 0,li 0,li 0,.lit (.slice none 0 0)],.cells [li p.op,li p.ctor,li p.n,li p.m,li p.var,.own 4 (zA (α:=Pattern) out)],.elems 6 (zB yI out)]⟩ (hold Q .mk)):=by
 refine F.f61.mutual_partial_correctness 
  _ _ _
  ?_ ?_ ?_
 ·intro _f_f63 _f_f62 ih_f63 ih_f62 r' p n r hF
  refine zI func211 rfl ntmps211 ?_
  revert hF;refine kN ?_ ?_<;>intro h1 q2 hF
  ·refine kx2 h1 q2 ?_
   revert hF;refine aN ?_ ?_<;>intro h3 q4 hF
   ·refine kx4 h1 q2 h3 q4 ?_
    revert hF;refine aS ?_ ?_<;>intro h5 q6 hF
    ·cases hF
     exact kc5 h1 q2 h3 q4 h5
    ·refine kx6 h1 q2 h3 q4 h5 q6 ?_
     revert hF;refine aS ?_ ?_<;>intro h7 q8 hF
     ·refine kx7 h1 q2 h3 q4 h5 q6 h7 ?_
      apply oB hF;intro v e9 hF
      refine((C.f1 B hB1 hB2 r' 2 v e9)).go 0 rfl (by simp[h1,q2,h3,q4,h5,q6,h7]) (by simp) (by simp[h1,q2,h3,q4,h5,q6,h7]) ?_
      refine kx7 h1 q2 h3 q4 h5 q6 h7 ?_
      revert hF;refine aS ?_ ?_<;>intro h10 q11 hF
      ·cases hF
       exact kc8 h1 q2 h3 q4 h5 q6 h7 h10
      ·refine kx9 h1 q2 h3 q4 h5 q6 h7 h10 q11 ?_
       apply oB hF;intro o' ho21 hF
       refine zV ⟨[(0,.ptr 0 0),(4,.ptr 1 0),(6,.ptr 2 0),(8,.ptr 3 0),(9,.lit (.int .i64 n)),(10,.lit (.int .i64 0))],[.cells [.arr (zB cU v.2.f0),.lit (.int .i64 v.2.f1)],.cells [.lit (.int .i64 p.op),.lit (.int .i64 p.ctor),.lit (.int .i64 p.n),.lit (.int .i64 p.m),.lit (.int .i64 p.var),.arr (zB yI p.kids)],.cells [.lit (.int .i64 0),.lit (.int .i64 0),.lit (.int .i64 0),.lit (.int .i64 0),.lit (.int .i64 0),.lit (.slice none 0 0)],.cells [.lit (.int .i64 p.op),.lit (.int .i64 p.ctor),.lit (.int .i64 p.n),.lit (.int .i64 p.m),.lit (.int .i64 p.var),.own 4 (zA (α:=Pattern) [])],.elems 6 (zB yI [])]⟩ (by refine zX (zY 3 5 6 (by simp -dsimp;rfl) (by simp -dsimp)) ?_;exact(gT (by simp) (by simp -dsimp[h1,q2,h3,q4,h5,q6,h7,h10,q11]))) ?_
       refine(ih_f62 p n v.2.f0 v.2.f1 [] 0 n o' ho21) _ rfl _ ?_
       revert hF;refine kS ?_ ?_<;>intro h22 q23 hF
       ·refine kx1 h22 ?_
        apply oB hF;intro v24 e25 hF
        refine((C.f1 B hB1 hB2 (⟨o'.1,o'.2.1⟩:ZB) 6 v24 e25)).go 0 rfl (by simp[h22]) (by simp) (by simp[h22]) ?_
        refine kx1 h22 ?_
        revert hF;refine aS ?_ ?_<;>intro h26 q27 hF
        ·cases hF
         exact kc2 h22 h26
        ·cases hF
         exact kc3 h22 h26 q27
       ·cases hF
        exact kc2 h22 q23
     ·refine kx8 h1 q2 h3 q4 h5 q6 h7 q8 ?_
      apply oB hF;intro o'43 ho42 hF
      refine zV ⟨[(0,.ptr 0 0),(4,.ptr 1 0),(6,.ptr 2 0),(8,.ptr 3 0),(9,.lit (.int .i64 n)),(10,.lit (.int .i64 0))],[.cells [.arr (zB cU r'.f0),.lit (.int .i64 r'.f1)],.cells [.lit (.int .i64 p.op),.lit (.int .i64 p.ctor),.lit (.int .i64 p.n),.lit (.int .i64 p.m),.lit (.int .i64 p.var),.arr (zB yI p.kids)],.cells [.lit (.int .i64 0),.lit (.int .i64 0),.lit (.int .i64 0),.lit (.int .i64 0),.lit (.int .i64 0),.lit (.slice none 0 0)],.cells [.lit (.int .i64 p.op),.lit (.int .i64 p.ctor),.lit (.int .i64 p.n),.lit (.int .i64 p.m),.lit (.int .i64 p.var),.own 4 (zA (α:=Pattern) [])],.elems 6 (zB yI [])]⟩ (by refine zX (zY 3 5 6 (by simp -dsimp;rfl) (by simp -dsimp)) ?_;exact(gT (by simp) (by simp -dsimp[h1,q2,h3,q4,h5,q6,h7,q8]))) ?_
      refine(ih_f63 p n r'.f0 r'.f1 [] 0 n o'43 ho42) _ rfl _ ?_
      revert hF;refine kS ?_ ?_<;>intro h44 q45 hF
      ·refine kx1 h44 ?_
       apply oB hF;intro v46 e47 hF
       refine((C.f1 B hB1 hB2 (⟨o'43.1,o'43.2.1⟩:ZB) 6 v46 e47)).go 0 rfl (by simp[h44]) (by simp) (by simp[h44]) ?_
       refine kx1 h44 ?_
       revert hF;refine aS ?_ ?_<;>intro h48 q49 hF
       ·cases hF
        exact kc2 h44 h48
       ·cases hF
        exact kc3 h44 h48 q49
      ·cases hF
       exact kc2 h44 q45
   ·cases hF
    exact kc4 h1 q2 h3 q4
  ·cases hF
   exact kc2 h1 q2
 ·intro _f_f61 _f_f63 ih_f61 ih_f63 p n z28 z29 out30 i31 next32 o hF
  refine ZJ rfl fun Q hq hk hs=> ?_
  have d0:=hs 0 _ rfl
  simp -dsimp[zR]at d0
  have d1:=hs 1 _ rfl
  simp -dsimp[zR]at d1
  have d4:=hs 4 _ rfl
  simp -dsimp[zR]at d4
  clear hk hs
  refine eN ?_
  revert hF;refine kS ?_ ?_<;>intro h33 q34 hF
  ·have z35:((i31:Int)<(p.kids.length:Int)):=auz
   apply oB hF;intro x36 e37 hF
   have le37:=ZA e37
   refine ZW h33 z35 e37 ?_
   apply oB hF;intro v38 e39 hF
   refine((ih_f61 (⟨z28,z29⟩:ZB) x36 next32 v38 e39)).go 0 rfl (by simp[h33,z35,↓e37]) (by simp) (by simp[h33,z35,↓e37]) ?_
   apply oC hF;intro c40 hF
   have w41:i64.wrap ((i31:Int)+1)=(i31:Int)+1:=ZC (by omega) (by omega)
   repeat first|refine cg ?_|simp -dsimp[h33,z35,↓e37,w41]
   refine zS ((ih_f63 p n v38.2.2.f0 v38.2.2.f1 (out30++[v38.1]) (i31+1) v38.2.1 o hF) _ rfl _ hq)
  ·have z35:¬((i31:Int)<(p.kids.length:Int)):=auz
   cases hF
   refine kx3 h33 q34 z35 ?_
   refine zT hq
 ·intro _f_f61 _f_f62 ih_f61 ih_f62 p n z z12 out i next o hF
  refine ZJ rfl fun Q hq hk hs=> ?_
  have d0:=hs 0 _ rfl
  simp -dsimp[zR]at d0
  have d1:=hs 1 _ rfl
  simp -dsimp[zR]at d1
  have d4:=hs 4 _ rfl
  simp -dsimp[zR]at d4
  clear hk hs
  refine eN ?_
  revert hF;refine kS ?_ ?_<;>intro h13 q14 hF
  ·have z15:((i:Int)<(p.kids.length:Int)):=auz
   apply oB hF;intro x e16 hF
   have le16:=ZA e16
   refine ZW h13 z15 e16 ?_
   apply oB hF;intro v17 e18 hF
   refine((ih_f61 (⟨z,z12⟩:ZB) x next v17 e18)).go 0 rfl (by simp[h13,z15,↓e16]) (by simp) (by simp[h13,z15,↓e16]) ?_
   apply oC hF;intro c19 hF
   have w20:i64.wrap ((i:Int)+1)=(i:Int)+1:=ZC (by omega) (by omega)
   repeat first|refine cg ?_|simp -dsimp[h13,z15,↓e16,w20]
   refine zS ((ih_f62 p n v17.2.2.f0 v17.2.2.f1 (out++[v17.1]) (i+1) v17.2.1 o hF) _ rfl _ hq)
  ·have z15:¬((i:Int)<(p.kids.length:Int)):=auz
   cases hF
   refine kx3 h13 q14 z15 ?_
   refine zT hq
theorem CC.f64 (list:List Int)(n:Int):(∀(i:Nat) (o:Lo Bool Unit),F.f64 list n i=some o->∀(c:Code),ZS [1,0,1,0,0] (ZH Tryz.f109)=some c->∀(Q:Exit->ASt->Prop),o.post (fun r=>∀st,ZAG zQ Tryz.f109 (fun r' _=>r'.le (.lit (.bool r))) .ret st->Q .ret st) (fun s=>Q (.exit 0) ⟨[],[]⟩)->ALoopU zQ B 0 18 (hold c .mk) ⟨[(0,am cI list),(1,li n),(5,li (i:Int))],[]⟩ (hold Q .mk)):=by
 refine F.f64.partial_correctness list n
  _
  ?_
 ·intro _f_f64 ih_f64 i o hF
  refine ZJ rfl fun Q hq hk hs=> ?_
  have b0:=hk 0
  simp -dsimp at b0
  clear hk hs
  refine eN ?_
  revert hF;refine kS ?_ ?_<;>intro h1 q2 hF
  ·have z3:((i:Int)<(list.length:Int)):=auz
   apply oB hF;intro x e4 hF
   have le4:=ZA e4
   refine ZW h1 z3 e4 ?_
   revert hF;refine aS ?_ ?_<;>intro h5 q6 hF
   ·cases hF
    refine kx1 h5 ?_
    refine lG _ (gR _) (hq _ ?_)
    exact kc0
   ·have w7:i64.wrap ((i:Int)+1)=(i:Int)+1:=ZC (by omega) (by omega)
    refine kx2 q6 w7 ?_
    refine zS ((ih_f64 (i+1) o hF) _ rfl _ hq)
  ·have z3:¬((i:Int)<(list.length:Int)):=auz
   cases hF
   refine kx3 h1 q2 z3 ?_
   refine zT hq
theorem C.f65 (list:List Int)(n:Int)(r:Bool)(hF:F.f65 list n=some r):PureCall zQ B 109 [am cI list,li n] (.lit (.bool r)):=by
 unfold F.f65 at hF
 refine zG func109 rfl ntmps109 ?_
 refine kB hF fun o' ho8 hF=> ?_
 refine zU (((CC.f64 B hB1 hB2 list n) 0 o' ho8) _ rfl _ ?_)
 rcases o' with r0|sx
 ·dsimp only at hF
  cases hF
  intro st h
  simpa using h
 ·dsimp only at hF
  cases hF
  exact kc0
theorem C.f66 (w:List yB)(t:Ty)(p:Pattern)(r:Bool)(hF:F.f66 w t p=some r):PureCall zQ B 197 [am yC w,.agg [li t.data,li t.index],.agg [li p.op,li p.ctor,li p.n,li p.m,li p.var,am yI p.kids]] (.lit (.bool r)):=by
 unfold F.f66 at hF
 refine zG func197 rfl ntmps197 ?_
 revert hF;refine kN ?_ ?_<;>intro h1 q2 hF
 ·refine kx2 h1 q2 ?_
  revert hF;refine aS ?_ ?_<;>intro h3 q4 hF
  ·refine kx3 h1 q2 h3 ?_
   revert hF;refine aN ?_ ?_<;>intro h5 q6 hF
   ·refine kx5 h1 q2 h3 h5 q6 ?_
    revert hF;refine aN ?_ ?_<;>intro h7 q8 hF
    ·have n9:¬(p.op=3):=by omega
     refine kx8 h1 q2 h3 h5 q6 h7 q8 n9 ?_
     revert hF;refine aS ?_ ?_<;>intro h10 q11 hF
     ·refine kx9 h1 q2 h3 h5 q6 h7 q8 n9 h10 ?_
      revert hF;refine aS ?_ ?_<;>intro h12 q13 hF
      ·have n14:¬(p.op=4):=by omega
       repeat first|refine cg ?_|simp -dsimp[h1,q2,h3,h5,q6,h7,q8,n9,h10,h12,n14]
       revert hF;refine aN ?_ ?_<;>intro h15 q16 hF
       ·cases hF
        repeat first|refine cg ?_|simp -dsimp[h1,q2,h3,h5,q6,h7,q8,n9,h10,h12,n14,h15,q16]
       ·have n17:¬(p.op=1):=by omega
        have n18:¬(p.op=5):=by omega
        cases hF
        repeat first|refine cg ?_|simp -dsimp[h1,q2,h3,h5,q6,h7,q8,n9,h10,h12,n14,h15,q16,n17,n18]
      ·cases hF
       repeat first|refine cg ?_|simp -dsimp[h1,q2,h3,h5,q6,h7,q8,n9,h10,h12,q13]
     ·cases hF
      repeat first|refine cg ?_|simp -dsimp[h1,q2,h3,h5,q6,h7,q8,n9,h10,q11]
    ·cases hF
     exact kc7 h1 q2 h3 h5 q6 h7 q8
   ·cases hF
    exact kc5 h1 q2 h3 h5 q6
  ·refine kx4 h1 q2 h3 q4 ?_
   revert hF;refine aN ?_ ?_<;>intro h19 q20 hF
   ·cases hF
    exact kc6 h1 q2 h3 q4 h19 q20
   ·refine kx6 h1 q2 h3 q4 h19 q20 ?_
    revert hF;refine aN ?_ ?_<;>intro h21 q22 hF
    ·refine kx8 h1 q2 h3 q4 h19 q20 h21 q22 ?_
     revert hF;refine aS ?_ ?_<;>intro h23 q24 hF
     ·refine kx9 h1 q2 h3 q4 h19 q20 h21 q22 h23 ?_
      revert hF;refine aS ?_ ?_<;>intro h25 q26 hF
      ·repeat first|refine cg ?_|simp -dsimp[h1,q2,h3,q4,h19,q20,h21,q22,h23,h25]
       revert hF;refine aN ?_ ?_<;>intro h27 q28 hF
       ·repeat first|refine cg ?_|simp -dsimp[h1,q2,h3,q4,h19,q20,h21,q22,h23,h25,h27,q28]
        revert hF;refine aN ?_ ?_<;>intro h29 q30 hF
        ·cases hF
         repeat first|refine cg ?_|simp -dsimp[h1,q2,h3,q4,h19,q20,h21,q22,h23,h25,h27,q28,h29,q30]
        ·repeat first|refine cg ?_|simp -dsimp[h1,q2,h3,q4,h19,q20,h21,q22,h23,h25,h27,q28,h29,q30]
         revert hF;refine aS ?_ ?_<;>intro h31 q32 hF
         ·cases hF
          repeat first|refine cg ?_|simp -dsimp[h1,q2,h3,q4,h19,q20,h21,q22,h23,h25,h27,q28,h29,q30,h31]
         ·repeat first|refine cg ?_|simp -dsimp[h1,q2,h3,q4,h19,q20,h21,q22,h23,h25,h27,q28,h29,q30,h31,q32]
          revert hF;refine aS ?_ ?_<;>intro h33 q34 hF
          ·cases hF
           repeat first|refine cg ?_|simp -dsimp[h1,q2,h3,q4,h19,q20,h21,q22,h23,h25,h27,q28,h29,q30,h31,q32,h33]
          ·cases hF
           repeat first|refine cg ?_|simp -dsimp[h1,q2,h3,q4,h19,q20,h21,q22,h23,h25,h27,q28,h29,q30,h31,q32,h33,q34]
       ·have n35:¬(p.op=1):=by omega
        have n36:¬(p.op=5):=by omega
        repeat first|refine cg ?_|simp -dsimp[h1,q2,h3,q4,h19,q20,h21,q22,h23,h25,h27,q28,n35,n36]
        refine zM follows ?_
        repeat first|refine cg ?_|simp -dsimp[h1,q2,h3,q4,h19,q20,h21,q22,h23,h25,h27,q28,n35,n36]
        apply oB hF;intro v e37 hF
        refine((C.f42 B hB1 hB2 w t v e37)).pgoW (by simp[h1,q2,h3,q4,h19,q20,h21,q22,h23,h25,h27,q28,n35,n36]) (by simp) ?_
        repeat first|refine cg ?_|simp -dsimp[h1,q2,h3,q4,h19,q20,h21,q22,h23,h25,h27,q28,n35,n36]
        apply oB hF;intro v38 e39 hF
        refine((C.f65 B hB1 hB2 v p.ctor v38 e39)).pgoW (by simp[h1,q2,h3,q4,h19,q20,h21,q22,h23,h25,h27,q28,n35,n36]) (by simp) ?_
        cases hF
        repeat first|refine cg ?_|simp -dsimp[h1,q2,h3,q4,h19,q20,h21,q22,h23,h25,h27,q28,n35,n36]
      ·cases hF
       repeat first|refine cg ?_|simp -dsimp[h1,q2,h3,q4,h19,q20,h21,q22,h23,h25,q26]
     ·cases hF
      repeat first|refine cg ?_|simp -dsimp[h1,q2,h3,q4,h19,q20,h21,q22,h23,q24]
    ·have n40:¬(p.op=4):=by omega
     refine kx9 h1 q2 h3 q4 h19 q20 h21 q22 n40 ?_
     revert hF;refine aN ?_ ?_<;>intro h41 q42 hF
     ·cases hF
      repeat first|refine cg ?_|simp -dsimp[h1,q2,h3,q4,h19,q20,h21,q22,n40,h41,q42]
     ·have n43:¬(p.op=1):=by omega
      have n44:¬(p.op=5):=by omega
      repeat first|refine cg ?_|simp -dsimp[h1,q2,h3,q4,h19,q20,h21,q22,n40,h41,q42,n43,n44]
      revert hF;refine aS ?_ ?_<;>intro h45 q46 hF
      ·repeat first|refine cg ?_|simp -dsimp[h1,q2,h3,q4,h19,q20,h21,q22,n40,h41,q42,n43,n44,h45]
       revert hF;refine aS ?_ ?_<;>intro h47 q48 hF
       ·repeat first|refine cg ?_|simp -dsimp[h1,q2,h3,q4,h19,q20,h21,q22,n40,h41,q42,n43,n44,h45,h47]
        revert hF;refine aS ?_ ?_<;>intro h49 q50 hF
        ·cases hF
         repeat first|refine cg ?_|simp -dsimp[h1,q2,h3,q4,h19,q20,h21,q22,n40,h41,q42,n43,n44,h45,h47,h49]
        ·cases hF
         repeat first|refine cg ?_|simp -dsimp[h1,q2,h3,q4,h19,q20,h21,q22,n40,h41,q42,n43,n44,h45,h47,h49,q50]
       ·cases hF
        repeat first|refine cg ?_|simp -dsimp[h1,q2,h3,q4,h19,q20,h21,q22,n40,h41,q42,n43,n44,h45,h47,q48]
      ·cases hF
       repeat first|refine cg ?_|simp -dsimp[h1,q2,h3,q4,h19,q20,h21,q22,n40,h41,q42,n43,n44,h45,q46]
 ·refine kx2 h1 q2 ?_
  revert hF;refine aN ?_ ?_<;>intro h51 q52 hF
  ·refine kx4 h1 q2 h51 q52 ?_
   revert hF;refine aN ?_ ?_<;>intro h53 q54 hF
   ·have n55:¬(p.op=3):=by omega
    refine kx7 h1 q2 h51 q52 h53 q54 n55 ?_
    revert hF;refine aS ?_ ?_<;>intro h56 q57 hF
    ·refine kx8 h1 q2 h51 q52 h53 q54 n55 h56 ?_
     revert hF;refine aS ?_ ?_<;>intro h58 q59 hF
     ·have n60:¬(p.op=4):=by omega
      repeat first|refine cg ?_|simp -dsimp[h1,q2,h51,q52,h53,q54,n55,h56,h58,n60]
      revert hF;refine aN ?_ ?_<;>intro h61 q62 hF
      ·cases hF
       repeat first|refine cg ?_|simp -dsimp[h1,q2,h51,q52,h53,q54,n55,h56,h58,n60,h61,q62]
      ·have n63:¬(p.op=1):=by omega
       cases hF
       repeat first|refine cg ?_|simp -dsimp[h1,q2,h51,q52,h53,q54,n55,h56,h58,n60,h61,q62,n63]
     ·cases hF
      repeat first|refine cg ?_|simp -dsimp[h1,q2,h51,q52,h53,q54,n55,h56,h58,q59]
    ·cases hF
     exact kc9 h1 q2 h51 q52 h53 q54 n55 h56 q57
   ·cases hF
    exact kc6 h1 q2 h51 q52 h53 q54
  ·cases hF
   exact kc4 h1 q2 h51 q52
theorem C.f67 (op:Int)(r:Int)(hF:F.f67 op=some r):PureCall zQ B 199 [li op] (li r):=by
 unfold F.f67 at hF
 refine zG func199 rfl ntmps199 ?_
 revert hF;refine kS ?_ ?_<;>intro h1 q2 hF
 ·cases hF
  repeat first|refine cg ?_|simp -dsimp[eq_true h1]
 ·refine kx2 h1 q2 ?_
  revert hF;refine aS ?_ ?_<;>intro h3 q4 hF
  ·cases hF
   repeat first|refine cg ?_|simp -dsimp[eq_true h3]
  ·refine kx2 h3 q4 ?_
   revert hF;refine aS ?_ ?_<;>intro h5 q6 hF
   ·cases hF
    repeat first|refine cg ?_|simp -dsimp[eq_true h5]
   ·cases hF
    exact kc2 h5 q6
theorem CC.f68 (t:Ty)(p:Pattern):(∀(out:List Ty) (i:Nat) (o:List Ty),F.f68 t p out i=some o->∀(c:Code),ZS [1,1,1,0,1,0,0] (ZH Tryz.f180)=some c->∀(Q:Exit->ASt->Prop),(Q (.exit 0) ⟨[(7,.own 2 (zA (α:=Ty) o))],[.dead,.dead,.elems 2 (zB zW o)]⟩)->ALoopU zQ B 0 30 (hold c .mk) ⟨[(4,.ptr 0 0),(5,.ptr 1 0),(7,.own 2 (zA (α:=Ty) out)),(8,li (i:Int))],[.cells [li t.data,li t.index],.cells [li p.op,li p.ctor,li p.n,li p.m,li p.var,am yI p.kids],.elems 2 (zB zW out)]⟩ (hold Q .mk)):=by
 refine F.f68.partial_correctness t p
  _
  ?_
 ·intro _f_f68 ih_f68 out i o hF
  refine ZJ rfl fun Q hq hk hs=> ?_
  have d1:=hs 1 _ rfl
  simp -dsimp[zR]at d1
  have d2:=hs 2 _ rfl
  simp -dsimp[zR]at d2
  clear hk hs
  refine eN ?_
  refine kB hF fun v4 e5 hF=> ?_
  refine((C.f67 B hB1 hB2 p.op v4 e5)).goI ?_
  revert hF;refine kS ?_ ?_<;>intro h6 q7 hF
  ·apply oC hF;intro c8 hF
   apply oC hF;intro c9 hF
   have w10:i64.wrap ((i:Int)+1)=(i:Int)+1:=ZC (by omega) (by omega)
   refine kx2 h6 w10 ?_
   refine zS ((ih_f68 (out++[t]) (i+1) o hF) _ rfl _ hq)
  ·cases hF
   refine kx2 h6 q7 ?_
   refine zT hq
theorem C.f69 (w:List yB)(t:Ty)(p:Pattern)(r:List Ty)(hF:F.f69 w t p=some r):PureCall zQ B 180 [am yC w,.agg [li t.data,li t.index],.agg [li p.op,li p.ctor,li p.n,li p.m,li p.var,am yI p.kids]] (am zW r):=by
 unfold F.f69 at hF
 refine zG func180 rfl ntmps180 ?_
 revert hF;refine kS ?_ ?_<;>intro h1 q2 hF
 ·refine kx1 h1 ?_
  apply oB hF;intro v e3 hF
  refine((C.f45 B hB1 hB2 w t p.ctor v e3)).goI ?_
  cases hF
  exact kc0
 ·refine kx1 q2 ?_
  apply oB hF;intro o' ho11 hF
  refine zU (((CC.f68 B hB1 hB2 t p) [] 0 o' ho11) _ rfl _ ?_)
  cases hF
  exact kc0
theorem CC.f70 (w:List yB):(∀(t:Ty) (p:Pattern) (depth:Int) (r:Bool),F.f70 w t p depth=some r->PureCall zQ B 176 [am yC w,.agg [li t.data,li t.index],.agg [li p.op,li p.ctor,li p.n,li p.m,li p.var,am yI p.kids],li depth] (.lit (.bool r)))/\
  (∀(p:Pattern) (depth:Int) (v6:List Ty) (i:Nat) (o:Lo Bool Unit),F.f71 w p depth v6 i=some o->∀(c:Code),ZS [1,1,1,1,0,1,0,0] (ZH Tryz.f176)=some c->∀(Q:Exit->ASt->Prop),o.post (fun r=>∀st,ZAG zQ Tryz.f176 (fun r' _=>r'.le (.lit (.bool r))) .ret st->Q .ret st) (fun s=>Q (.exit 0) ⟨[],[]⟩)->ALoopU zQ B 0 50 (hold c .mk) ⟨[(0,am yC w),(3,li depth),(6,.ptr 1 0),(9,am zW v6),(10,li (i:Int))],[.dead,.cells [li p.op,li p.ctor,li p.n,li p.m,li p.var,am yI p.kids]]⟩ (hold Q .mk)):=by
 refine F.f70.mutual_partial_correctness w
  _ _
  ?_ ?_
 ·intro _f_f71 ih_f71 t p depth r hF
  refine zG func176 rfl ntmps176 ?_
  revert hF;refine kN ?_ ?_<;>intro h1 q2 hF
  ·refine kx2 h1 q2 ?_
   apply oB hF;intro v e3 hF
   refine((C.f66 B hB1 hB2 w t p v e3)).goI ?_
   refine kx2 h1 q2 ?_
   revert hF;refine aN (fun h4 q5 hF=> ?_) (fun h4 q5 hF=> ?_)
   ·cases hF
    exact kc4 h1 q2 h4 q5
   ·refine kx4 h1 q2 h4 q5 ?_
    apply oB hF;intro v6 e7 hF
    refine((C.f69 B hB1 hB2 w t p v6 e7)).goI ?_
    refine kx4 h1 q2 h4 q5 ?_
    revert hF;refine aN ?_ ?_<;>intro h8 q9 hF
    ·have z10:¬((p.kids.length:Int)=(v6.length:Int)):=auz
     cases hF
     exact kc7 h1 q2 h4 q5 h8 q9 z10
    ·have z10:((p.kids.length:Int)=(v6.length:Int)):=auz
     refine kx7 h1 q2 h4 q5 h8 q9 z10 ?_
     apply oB hF;intro o' ho22 hF
     refine zU ((ih_f71 p depth v6 0 o' ho22) _ rfl _ ?_)
     rcases o' with r0|sx
     ·dsimp only at hF
      cases hF
      intro st h
      simpa using h
     ·dsimp only at hF
      cases hF
      exact kc0
  ·cases hF
   exact kc2 h1 q2
 ·intro _f_f70 _f_f71 ih_f70 ih_f71 p depth v6 i o hF
  refine ZJ rfl fun Q hq hk hs=> ?_
  have b0:=hk 0
  simp -dsimp at b0
  have b9:=hk 9
  simp -dsimp at b9
  have d1:=hs 1 _ rfl
  simp -dsimp[zR]at d1
  clear hk hs
  refine eN ?_
  revert hF;refine kS ?_ ?_<;>intro h11 q12 hF
  ·have z13:((i:Int)<(v6.length:Int)):=auz
   refine kx2 h11 z13 ?_
   refine zM follows ?_
   apply oB hF;intro x e14 hF
   have le14:=ZA e14
   apply oB hF;intro x15 e16 hF
   have le16:=ZA e16
   refine ZAS h11 z13 e14 e16 ?_
   apply oB hF;intro v17 e18 hF
   refine((ih_f70 x x15 (i64.wrap (depth-1)) v17 e18)).pgoW (by simp[h11,z13,↓e14,↓e16]) (by simp) ?_
   refine ZAS h11 z13 e14 e16 ?_
   revert hF;refine aN (fun h19 q20 hF=> ?_) (fun h19 q20 hF=> ?_)
   ·cases hF
    refine ZAA h11 z13 e14 e16 h19 q20 ?_
    refine lG _ (gR _) (hq _ ?_)
    repeat first|refine cg ?_|simp -dsimp[h11,z13,↓e14,↓e16,h19,q20]
   ·have w21:i64.wrap ((i:Int)+1)=(i:Int)+1:=ZC (by omega) (by omega)
    repeat first|refine cg ?_|simp -dsimp[h11,z13,↓e14,↓e16,h19,q20,w21]
    refine zS ((ih_f71 p depth v6 (i+1) o hF) _ rfl _ hq)
  ·have z13:¬((i:Int)<(v6.length:Int)):=auz
   cases hF
   refine kx3 h11 q12 z13 ?_
   refine zT hq
theorem CC.f72  :(∀(p:Pattern) (most:Int) (r:Int),F.f72 p most=some r->PureCall zQ B 177 [.agg [li p.op,li p.ctor,li p.n,li p.m,li p.var,am yI p.kids],li most] (li r))/\
  (∀(p:Pattern) (most:Int) (n:Int) (i:Nat) (o:Int),F.f73 p most n i=some o->∀(c:Code),ZS [1,1,0,1,0,0] (ZH Tryz.f177)=some c->∀(Q:Exit->ASt->Prop),(Q (.exit 0) ⟨[(5,li o)],[]⟩)->ALoopU zQ B 0 31 (hold c .mk) ⟨[(1,li most),(2,.ptr 0 0),(5,li n),(6,li (i:Int))],[.cells [li p.op,li p.ctor,li p.n,li p.m,li p.var,am yI p.kids]]⟩ (hold Q .mk)):=by
 refine F.f72.mutual_partial_correctness 
  _ _
  ?_ ?_
 ·intro _f_f73 ih_f73 p most r hF
  refine zG func177 rfl ntmps177 ?_
  refine kB hF fun o' ho9 hF=> ?_
  refine zU ((ih_f73 p most 1 0 o' ho9) _ rfl _ ?_)
  cases hF
  exact kc0
 ·intro _f_f72 _f_f73 ih_f72 ih_f73 p most n i o hF
  refine ZJ rfl fun Q hq hk hs=> ?_
  have d0:=hs 0 _ rfl
  simp -dsimp[zR]at d0
  clear hk hs
  refine eN ?_
  revert hF;refine kS ?_ ?_<;>intro h1 q2 hF
  ·have z3:((i:Int)<(p.kids.length:Int)):=auz
   refine kx2 h1 z3 ?_
   revert hF;refine aS ?_ ?_<;>intro h4 q5 hF
   ·apply oB hF;intro x e6 hF
    have le6:=ZA e6
    refine ZOk h4 e6 ?_
    apply oB hF;intro v e7 hF
    refine((ih_f72 x (i64.wrap (most-n)) v e7)).goI ?_
    have w8:i64.wrap ((i:Int)+1)=(i:Int)+1:=ZC (by omega) (by omega)
    refine kx1 w8 ?_
    refine zS ((ih_f73 p most (i64.wrap (n+v)) (i+1) o hF) _ rfl _ hq)
   ·cases hF
    refine kx2 h4 q5 ?_
    refine zT hq
  ·have z3:¬((i:Int)<(p.kids.length:Int)):=auz
   cases hF
   refine kx3 h1 q2 z3 ?_
   refine zT hq
theorem CC.f74 (w:List yB):(∀(out:List VarType) (t:Ty) (p:Pattern) (r:List VarType),F.f74 out w t p=some r->BCall zQ B 144 [.elems 3 (zB yJ out)] [.own 0 (zA (α:=VarType) out),am yC w,.agg [li t.data,li t.index],.agg [li p.op,li p.ctor,li p.n,li p.m,li p.var,am yI p.kids]] (.own 0 (zA (α:=VarType) r)) [.elems 3 (zB yJ r)])/\
  (∀(p:Pattern) (v30:List Ty) (out32:List VarType) (i33:Nat) (o:List VarType),F.f76 w p v30 out32 i33=some o->∀(c:Code),ZS [1,1,1,0,1,0,0] (ZH Tryz.f144)=some c->∀(Q:Exit->ASt->Prop),(Q (.exit 0) ⟨[(0,.own 0 (zA (α:=VarType) o))],[.elems 3 (zB yJ o)]⟩)->ALoopU zQ B 1 58 (hold c .mk) ⟨[(0,.own 0 (zA (α:=VarType) out32)),(1,am yC w),(7,.ptr 2 0),(9,am zW v30),(10,li (i33:Int))],[.elems 3 (zB yJ out32),.dead,.cells [li p.op,li p.ctor,li p.n,li p.m,li p.var,am yI p.kids]]⟩ (hold Q .mk))/\
  (∀(p:Pattern) (v:List Ty) (out7:List VarType) (i:Nat) (o:List VarType),F.f75 w p v out7 i=some o->∀(c:Code),ZS [1,1,1,0,1,0,0] (ZH Tryz.f144)=some c->∀(Q:Exit->ASt->Prop),(Q (.exit 0) ⟨[(0,.own 0 (zA (α:=VarType) o))],[.elems 3 (zB yJ o)]⟩)->ALoopU zQ B 1 58 (hold c .mk) ⟨[(0,.own 0 (zA (α:=VarType) out7)),(1,am yC w),(7,.ptr 2 0),(9,am zW v),(10,li (i:Int))],[.elems 3 (zB yJ out7),.dead,.cells [li p.op,li p.ctor,li p.n,li p.m,li p.var,am yI p.kids]]⟩ (hold Q .mk))/\
  (∀(p:Pattern) (v59:List Ty) (out61:List VarType) (i62:Nat) (o:List VarType),F.f77 w p v59 out61 i62=some o->∀(c:Code),ZS [1,1,1,0,1,0,0] (ZH Tryz.f144)=some c->∀(Q:Exit->ASt->Prop),(Q (.exit 0) ⟨[(0,.own 0 (zA (α:=VarType) o))],[.elems 3 (zB yJ o)]⟩)->ALoopU zQ B 1 58 (hold c .mk) ⟨[(0,.own 0 (zA (α:=VarType) out61)),(1,am yC w),(7,.ptr 2 0),(9,am zW v59),(10,li (i62:Int))],[.elems 3 (zB yJ out61),.dead,.cells [li p.op,li p.ctor,li p.n,li p.m,li p.var,am yI p.kids]]⟩ (hold Q .mk)):=by
 refine F.f74.mutual_partial_correctness w
  _ _ _ _
  ?_ ?_ ?_ ?_
 ·intro _f_f76 _f_f75 _f_f77 ih_f76 ih_f75 ih_f77 out t p r hF
  refine yK func144 (by kernel_rfl) rfl ntmps144 (by simp) rfl (by simp) (by simp) (by simp) (by simp) (by simp) (gR _) ?_
  revert hF;refine kN ?_ ?_<;>intro h1 q2 hF
  ·refine kx2 h1 q2 ?_
   revert hF;refine aS ?_ ?_<;>intro h3 q4 hF
   ·apply oC hF;intro c5 hF
    refine kx1 h3 ?_
    apply oB hF;intro v e6 hF
    refine((C.f69 B hB1 hB2 w t p v e6)).goI ?_
    refine kB hF fun o' ho29 hF=> ?_
    refine zU ((ih_f75 p v (out++[(⟨p.var,t⟩:VarType)]) 0 o' ho29) _ rfl _ ?_)
    cases hF
    exact kc0
   ·refine kx1 q4 ?_
    apply oB hF;intro v30 e31 hF
    refine((C.f69 B hB1 hB2 w t p v30 e31)).goI ?_
    refine kB hF fun o'57 ho56 hF=> ?_
    refine zU ((ih_f76 p v30 out 0 o'57 ho56) _ rfl _ ?_)
    cases hF
    exact kc0
  ·apply oC hF;intro c58 hF
   refine kx2 h1 q2 ?_
   apply oB hF;intro v59 e60 hF
   refine((C.f69 B hB1 hB2 w t p v59 e60)).goI ?_
   refine kB hF fun o'86 ho85 hF=> ?_
   refine zU ((ih_f77 p v59 (out++[(⟨p.var,t⟩:VarType)]) 0 o'86 ho85) _ rfl _ ?_)
   cases hF
   exact kc0
 ·intro _f_f74 _f_f76 ih_f74 ih_f76 p v30 out32 i33 o hF
  refine ZJ rfl fun Q hq hk hs=> ?_
  have b1:=hk 1
  simp -dsimp at b1
  have b9:=hk 9
  simp -dsimp at b9
  have d0:=hs 0 _ rfl
  simp -dsimp[zR]at d0
  have d2:=hs 2 _ rfl
  simp -dsimp[zR]at d2
  clear hk hs
  refine eN ?_
  revert hF;refine kS ?_ ?_<;>intro h34 q35 hF
  ·have z36:((i33:Int)<(v30.length:Int)):=auz
   refine kx2 h34 z36 ?_
   revert hF;refine aN ?_ ?_<;>intro h37 q38 hF
   ·have z39:¬((i33:Int)=0):=auz
    refine kx5 h34 z36 h37 q38 z39 ?_
    revert hF;refine aN ?_ ?_<;>intro h40 q41 hF
    ·refine kx7 h34 z36 h37 q38 z39 h40 q41 ?_
     refine zL [144] [(0,0),(0,0),(0,0),(0,0),(0,0),(0,0),(0,0),(0,0),(0,0),(0,0),(0,0),(0,1),(1,1)] [1,1,1,1,1,1,1,1,1,1,1,1,1] follows ?_
     apply oB hF;intro x42 e43 hF
     have le43:=ZA e43
     apply oB hF;intro x44 e45 hF
     have le45:=ZA e45
     refine ZEQ e43 e45 ?_
     apply oB hF;intro v46 e47 hF
     refine((ih_f74 out32 x42 x44 v46 e47)).ego (pl [0]) (by simp) (by simp) (Zs _ rfl (by decide)) (by intro i hi hi';simp at hi hi';first|omega|(subst hi';simp[pl])) (by simp[h34,z36,h37,q38,z39,h40,q41,↓e43,↓e45]) (by simp[h34,z36,h37,q38,z39,h40,q41,↓e43,↓e45]) ?_
     have w48:i64.wrap ((i33:Int)+1)=(i33:Int)+1:=ZC (by omega) (by omega)
     refine kx1 w48 ?_
     refine zS ((ih_f76 p v30 v46 (i33+1) o hF) _ rfl _ hq)
    ·cases hF
     refine kx7 h34 z36 h37 q38 z39 h40 q41 ?_
     refine zT hq
   ·have z39:((i33:Int)=0):=auz
    repeat first|refine cg ?_|simp -dsimp[h34,z36,eq_true h37,eq_true q38,eq_true z39]
    refine zL [144] [(0,0),(0,0),(0,0),(0,0),(0,0),(0,0),(0,0),(0,0),(0,0),(0,0),(0,0),(0,1),(1,1)] [1,1,1,1,1,1,1,1,1,1,1,1,1] follows ?_
    apply oB hF;intro x49 e50 hF
    have le50:=ZA e50
    apply oB hF;intro x51 e52 hF
    have le52:=ZA e52
    refine ZEQ e50 e52 ?_
    apply oB hF;intro v53 e54 hF
    refine((ih_f74 out32 x49 x51 v53 e54)).ego (pl [0]) (by simp) (by simp) (Zs _ rfl (by decide)) (by intro i hi hi';simp at hi hi';first|omega|(subst hi';simp[pl])) (by simp[h34,z36,eq_true h37,eq_true q38,eq_true z39,↓e50,↓e52]) (by simp[h34,z36,eq_true h37,eq_true q38,eq_true z39,↓e50,↓e52]) ?_
    have w55:i64.wrap ((i33:Int)+1)=(i33:Int)+1:=ZC (by omega) (by omega)
    refine kx1 w55 ?_
    refine zS ((ih_f76 p v30 v53 (i33+1) o hF) _ rfl _ hq)
  ·have z36:¬((i33:Int)<(v30.length:Int)):=auz
   cases hF
   refine kx3 h34 q35 z36 ?_
   refine zT hq
 ·intro _f_f74 _f_f75 ih_f74 ih_f75 p v out7 i o hF
  refine ZJ rfl fun Q hq hk hs=> ?_
  have b1:=hk 1
  simp -dsimp at b1
  have b9:=hk 9
  simp -dsimp at b9
  have d0:=hs 0 _ rfl
  simp -dsimp[zR]at d0
  have d2:=hs 2 _ rfl
  simp -dsimp[zR]at d2
  clear hk hs
  refine eN ?_
  revert hF;refine kS ?_ ?_<;>intro h8 q9 hF
  ·have z10:((i:Int)<(v.length:Int)):=auz
   refine kx2 h8 z10 ?_
   revert hF;refine aN ?_ ?_<;>intro h11 q12 hF
   ·have z13:¬((i:Int)=0):=auz
    refine kx5 h8 z10 h11 q12 z13 ?_
    revert hF;refine aN ?_ ?_<;>intro h14 q15 hF
    ·refine kx7 h8 z10 h11 q12 z13 h14 q15 ?_
     refine zL [144] [(0,0),(0,0),(0,0),(0,0),(0,0),(0,0),(0,0),(0,0),(0,0),(0,0),(0,0),(0,1),(1,1)] [1,1,1,1,1,1,1,1,1,1,1,1,1] follows ?_
     apply oB hF;intro x e16 hF
     have le16:=ZA e16
     apply oB hF;intro x17 e18 hF
     have le18:=ZA e18
     refine ZEQ e16 e18 ?_
     apply oB hF;intro v19 e20 hF
     refine((ih_f74 out7 x x17 v19 e20)).ego (pl [0]) (by simp) (by simp) (Zs _ rfl (by decide)) (by intro i hi hi';simp at hi hi';first|omega|(subst hi';simp[pl])) (by simp[h8,z10,h11,q12,z13,h14,q15,↓e16,↓e18]) (by simp[h8,z10,h11,q12,z13,h14,q15,↓e16,↓e18]) ?_
     have w21:i64.wrap ((i:Int)+1)=(i:Int)+1:=ZC (by omega) (by omega)
     refine kx1 w21 ?_
     refine zS ((ih_f75 p v v19 (i+1) o hF) _ rfl _ hq)
    ·cases hF
     refine kx7 h8 z10 h11 q12 z13 h14 q15 ?_
     refine zT hq
   ·have z13:((i:Int)=0):=auz
    repeat first|refine cg ?_|simp -dsimp[h8,z10,eq_true h11,eq_true q12,eq_true z13]
    refine zL [144] [(0,0),(0,0),(0,0),(0,0),(0,0),(0,0),(0,0),(0,0),(0,0),(0,0),(0,0),(0,1),(1,1)] [1,1,1,1,1,1,1,1,1,1,1,1,1] follows ?_
    apply oB hF;intro x22 e23 hF
    have le23:=ZA e23
    apply oB hF;intro x24 e25 hF
    have le25:=ZA e25
    refine ZEQ e23 e25 ?_
    apply oB hF;intro v26 e27 hF
    refine((ih_f74 out7 x22 x24 v26 e27)).ego (pl [0]) (by simp) (by simp) (Zs _ rfl (by decide)) (by intro i hi hi';simp at hi hi';first|omega|(subst hi';simp[pl])) (by simp[h8,z10,eq_true h11,eq_true q12,eq_true z13,↓e23,↓e25]) (by simp[h8,z10,eq_true h11,eq_true q12,eq_true z13,↓e23,↓e25]) ?_
    have w28:i64.wrap ((i:Int)+1)=(i:Int)+1:=ZC (by omega) (by omega)
    refine kx1 w28 ?_
    refine zS ((ih_f75 p v v26 (i+1) o hF) _ rfl _ hq)
  ·have z10:¬((i:Int)<(v.length:Int)):=auz
   cases hF
   refine kx3 h8 q9 z10 ?_
   refine zT hq
 ·intro _f_f74 _f_f77 ih_f74 ih_f77 p v59 out61 i62 o hF
  refine ZJ rfl fun Q hq hk hs=> ?_
  have b1:=hk 1
  simp -dsimp at b1
  have b9:=hk 9
  simp -dsimp at b9
  have d0:=hs 0 _ rfl
  simp -dsimp[zR]at d0
  have d2:=hs 2 _ rfl
  simp -dsimp[zR]at d2
  clear hk hs
  refine eN ?_
  revert hF;refine kS ?_ ?_<;>intro h63 q64 hF
  ·have z65:((i62:Int)<(v59.length:Int)):=auz
   refine kx2 h63 z65 ?_
   revert hF;refine aN ?_ ?_<;>intro h66 q67 hF
   ·have z68:¬((i62:Int)=0):=auz
    refine kx5 h63 z65 h66 q67 z68 ?_
    revert hF;refine aN ?_ ?_<;>intro h69 q70 hF
    ·refine kx7 h63 z65 h66 q67 z68 h69 q70 ?_
     refine zL [144] [(0,0),(0,0),(0,0),(0,0),(0,0),(0,0),(0,0),(0,0),(0,0),(0,0),(0,0),(0,1),(1,1)] [1,1,1,1,1,1,1,1,1,1,1,1,1] follows ?_
     apply oB hF;intro x71 e72 hF
     have le72:=ZA e72
     apply oB hF;intro x73 e74 hF
     have le74:=ZA e74
     refine ZEQ e72 e74 ?_
     apply oB hF;intro v75 e76 hF
     refine((ih_f74 out61 x71 x73 v75 e76)).ego (pl [0]) (by simp) (by simp) (Zs _ rfl (by decide)) (by intro i hi hi';simp at hi hi';first|omega|(subst hi';simp[pl])) (by simp[h63,z65,h66,q67,z68,h69,q70,↓e72,↓e74]) (by simp[h63,z65,h66,q67,z68,h69,q70,↓e72,↓e74]) ?_
     have w77:i64.wrap ((i62:Int)+1)=(i62:Int)+1:=ZC (by omega) (by omega)
     refine kx1 w77 ?_
     refine zS ((ih_f77 p v59 v75 (i62+1) o hF) _ rfl _ hq)
    ·cases hF
     refine kx7 h63 z65 h66 q67 z68 h69 q70 ?_
     refine zT hq
   ·have z68:((i62:Int)=0):=auz
    repeat first|refine cg ?_|simp -dsimp[h63,z65,eq_true h66,eq_true q67,eq_true z68]
    refine zL [144] [(0,0),(0,0),(0,0),(0,0),(0,0),(0,0),(0,0),(0,0),(0,0),(0,0),(0,0),(0,1),(1,1)] [1,1,1,1,1,1,1,1,1,1,1,1,1] follows ?_
    apply oB hF;intro x78 e79 hF
    have le79:=ZA e79
    apply oB hF;intro x80 e81 hF
    have le81:=ZA e81
    refine ZEQ e79 e81 ?_
    apply oB hF;intro v82 e83 hF
    refine((ih_f74 out61 x78 x80 v82 e83)).ego (pl [0]) (by simp) (by simp) (Zs _ rfl (by decide)) (by intro i hi hi';simp at hi hi';first|omega|(subst hi';simp[pl])) (by simp[h63,z65,eq_true h66,eq_true q67,eq_true z68,↓e79,↓e81]) (by simp[h63,z65,eq_true h66,eq_true q67,eq_true z68,↓e79,↓e81]) ?_
    have w84:i64.wrap ((i62:Int)+1)=(i62:Int)+1:=ZC (by omega) (by omega)
    refine kx1 w84 ?_
    refine zS ((ih_f77 p v59 v82 (i62+1) o hF) _ rfl _ hq)
  ·have z65:¬((i62:Int)<(v59.length:Int)):=auz
   cases hF
   refine kx3 h63 q64 z65 ?_
   refine zT hq
theorem CC.f78 (list:List VarType)(n:Int):(∀(i:Nat) (o:Lo Int Unit),F.f78 list n i=some o->∀(c:Code),ZS [1,0,1,0,0] (ZH Tryz.f179)=some c->∀(Q:Exit->ASt->Prop),o.post (fun r=>∀st,ZAG zQ Tryz.f179 (fun r' _=>r'.le (li r)) .ret st->Q .ret st) (fun s=>Q (.exit 0) ⟨[],[]⟩)->ALoopU zQ B 0 20 (hold c .mk) ⟨[(0,am yJ list),(1,li n),(5,li (i:Int))],[]⟩ (hold Q .mk)):=by
 refine F.f78.partial_correctness list n
  _
  ?_
 ·intro _f_f78 ih_f78 i o hF
  refine ZJ rfl fun Q hq hk hs=> ?_
  have b0:=hk 0
  simp -dsimp at b0
  clear hk hs
  refine eN ?_
  revert hF;refine kS ?_ ?_<;>intro h1 q2 hF
  ·have z3:((i:Int)<(list.length:Int)):=auz
   apply oB hF;intro x e4 hF
   have le4:=ZA e4
   refine ZW h1 z3 e4 ?_
   revert hF;refine aS ?_ ?_<;>intro h5 q6 hF
   ·cases hF
    refine kx1 h5 ?_
    refine lG _ (gR _) (hq _ ?_)
    exact kc0
   ·have w7:i64.wrap ((i:Int)+1)=(i:Int)+1:=ZC (by omega) (by omega)
    refine kx2 q6 w7 ?_
    refine zS ((ih_f78 (i+1) o hF) _ rfl _ hq)
  ·have z3:¬((i:Int)<(list.length:Int)):=auz
   cases hF
   refine kx3 h1 q2 z3 ?_
   refine zT hq
theorem C.f79 (list:List VarType)(n:Int)(r:Int)(hF:F.f79 list n=some r):PureCall zQ B 179 [am yJ list,li n] (li r):=by
 unfold F.f79 at hF
 refine zG func179 rfl ntmps179 ?_
 refine kB hF fun o' ho8 hF=> ?_
 refine zU (((CC.f78 B hB1 hB2 list n) 0 o' ho8) _ rfl _ ?_)
 rcases o' with r0|sx
 ·dsimp only at hF
  cases hF
  intro st h
  simpa using h
 ·dsimp only at hF
  cases hF
  exact kc0
theorem CC.f80 (a:List VarType)(b:List VarType):(∀(i:Nat) (o:Lo Bool Unit),F.f80 a b i=some o->∀(c:Code),ZS [1,0,1,0,0] (ZH Tryz.f198)=some c->∀(Q:Exit->ASt->Prop),o.post (fun r=>∀st,ZAG zQ Tryz.f198 (fun r' _=>r'.le (.lit (.bool r))) .ret st->Q .ret st) (fun s=>Q (.exit 0) ⟨[(0,am yJ a),(1,am yJ b)],[]⟩)->ALoopU zQ B 0 40 (hold c .mk) ⟨[(0,am yJ a),(1,am yJ b),(5,li (i:Int))],[]⟩ (hold Q .mk)):=by
 refine F.f80.partial_correctness a b
  _
  ?_
 ·intro _f_f80 ih_f80 i o hF
  refine ZJ rfl fun Q hq hk hs=> ?_
  have b0:=hk 0
  simp -dsimp at b0
  have b1:=hk 1
  simp -dsimp at b1
  clear hk hs
  refine eN ?_
  revert hF;refine kS ?_ ?_<;>intro h1 q2 hF
  ·have z3:((i:Int)<(a.length:Int)):=auz
   apply oB hF;intro x e4 hF
   have le4:=ZA e4
   refine ZW h1 z3 e4 ?_
   apply oB hF;intro v e5 hF
   refine((C.f79 B hB1 hB2 b x.var v e5)).goI ?_
   refine kdd e4 ?_
   refine zM follows ?_
   refine kdd e4 ?_
   revert hF;refine aN ?_ ?_<;>intro h6 q7 hF
   ·apply oB hF;intro x8 e9a hF
    have e9a:=ZQ e9a;obtain⟨ne9,e9⟩:=e9a
    have le9:=ZA e9
    repeat first|refine cg ?_|simp -dsimp[↓e4,h6,q7,↓e9]
    revert hF;refine aN (fun h10 q11 hF=> ?_) (fun h10 q11 hF=> ?_)
    ·cases hF
     repeat first|refine cg ?_|simp -dsimp[↓e4,↓e9,h10,q11]
     refine lG _ (gR _) (hq _ ?_)
     repeat first|refine cg ?_|simp -dsimp[↓e4,↓e9]
    ·have w12:i64.wrap ((i:Int)+1)=(i:Int)+1:=ZC (by omega) (by omega)
     repeat first|refine cg ?_|simp -dsimp[↓e4,↓e9,w12]
     refine zS ((ih_f80 (i+1) o hF) _ rfl _ hq)
   ·cases hF
    refine ZCu e4 h6 q7 ?_
    refine lG _ (gR _) (hq _ ?_)
    repeat first|refine cg ?_|simp -dsimp[↓e4]
  ·have z3:¬((i:Int)<(a.length:Int)):=auz
   cases hF
   refine kx3 h1 q2 z3 ?_
   refine zT hq
theorem C.f81 (a:List VarType)(b:List VarType)(r:Bool)(hF:F.f81 a b=some r):PureCall zQ B 198 [am yJ a,am yJ b] (.lit (.bool r)):=by
 unfold F.f81 at hF
 refine zG func198 rfl ntmps198 ?_
 refine kB hF fun o' ho13 hF=> ?_
 refine zU (((CC.f80 B hB1 hB2 a b) 0 o' ho13) _ rfl _ ?_)
 rcases o' with r0|sx
 ·dsimp only at hF
  cases hF
  intro st h
  simpa using h
 ·dsimp only at hF
  cases hF
  repeat first|refine cg ?_|simp -dsimp
  all_goals(try first|omega|rfl)
theorem CC.f82 (v26:List VarType):(∀(i28:Nat) (o:Lo Bool Unit),F.f82 v26 i28=some o->∀(c:Code),ZS [1,1,1,1,1,0,1,0,0] (ZH Tryz.f178)=some c->∀(Q:Exit->ASt->Prop),o.post (fun r=>∀st,ZAG zQ Tryz.f178 (fun r' _=>r'.le (.lit (.bool r))) .ret st->Q .ret st) (fun s=>Q (.exit 2) ⟨[],[]⟩)->ALoopU zQ B 0 70 (hold c .mk) ⟨[(9,.own 2 (zA (α:=VarType) v26)),(10,li (i28:Int))],[.dead,.dead,.elems 3 (zB yJ v26)]⟩ (hold Q .mk)):=by
 refine F.f82.partial_correctness v26
  _
  ?_
 ·intro _f_f82 ih_f82 i28 o hF
  refine ZJ rfl fun Q hq hk hs=> ?_
  have d2:=hs 2 _ rfl
  simp -dsimp[zR]at d2
  clear hk hs
  refine eN ?_
  revert hF;refine kS ?_ ?_<;>intro h29 q30 hF
  ·have z31:((i28:Int)<(v26.length:Int)):=auz
   apply oB hF;intro x32 e33 hF
   have le33:=ZA e33
   refine ZW h29 z31 e33 ?_
   apply oB hF;intro v34 e35 hF
   refine((C.f79 B hB1 hB2 v26 x32.var v34 e35)).lend (by simp_all) (by simp -dsimp) ?_
   revert hF;refine kN ?_ ?_<;>intro h36 q37 hF
   ·cases hF
    refine kx2 h36 q37 ?_
    refine lG _ (gR _) (hq _ ?_)
    exact kc0
   ·have w38:i64.wrap ((i28:Int)+1)=(i28:Int)+1:=ZC (by omega) (by omega)
    refine kx1 w38 ?_
    refine zS ((ih_f82 (i28+1) o hF) _ rfl _ hq)
  ·have z31:¬((i28:Int)<(v26.length:Int)):=auz
   cases hF
   refine kx3 h29 q30 z31 ?_
   refine zT hq
theorem CC.f83 (w:List yB):(∀(t:Ty) (p:Pattern) (r:Bool),F.f83 w t p=some r->PureCall zQ B 178 [am yC w,.agg [li t.data,li t.index],.agg [li p.op,li p.ctor,li p.n,li p.m,li p.var,am yI p.kids]] (.lit (.bool r)))/\
  (∀(t:Ty) (p:Pattern) (v:List Ty) (i:Nat) (o:Lo Bool Unit),F.f84 w t p v i=some o->∀(c:Code),ZS [1,1,0,1,0,0] (ZH Tryz.f178)=some c->∀(Q:Exit->ASt->Prop),o.post (fun r=>∀st,ZAG zQ Tryz.f178 (fun r' _=>r'.le (.lit (.bool r))) .ret st->Q .ret st) (fun s=>Q (.exit 0) ⟨[(0,am yC w),(4,.ptr 0 0),(5,.ptr 1 0)],[.cells [li t.data,li t.index],.cells [li p.op,li p.ctor,li p.n,li p.m,li p.var,am yI p.kids]]⟩)->ALoopU zQ B 0 70 (hold c .mk) ⟨[(0,am yC w),(4,.ptr 0 0),(5,.ptr 1 0),(7,am zW v),(8,li (i:Int))],[.cells [li t.data,li t.index],.cells [li p.op,li p.ctor,li p.n,li p.m,li p.var,am yI p.kids]]⟩ (hold Q .mk)):=by
 refine F.f83.mutual_partial_correctness w
  _ _
  ?_ ?_
 ·intro _f_f84 ih_f84 t p r hF
  refine zG func178 rfl ntmps178 ?_
  refine kB hF fun v e1 hF=> ?_
  refine((C.f69 B hB1 hB2 w t p v e1)).goI ?_
  refine kB hF fun o' ho13 hF=> ?_
  refine zU ((ih_f84 t p v 0 o' ho13) _ rfl _ ?_)
  rcases o' with r042|sx
  ·dsimp only at hF
   cases hF
   intro st h
   simpa using h
  ·dsimp only at hF
   revert hF;refine kS ?_ ?_<;>intro h14 q15 hF
   ·refine kx1 h14 ?_
    refine zL [144,198] [(0,0),(0,0),(0,0),(0,0),(0,0),(0,0),(0,3),(0,1),(0,1),(0,1),(0,1),(0,1),(0,1),(0,3),(0,3),(3,3)] [1,1,1,1,1,1,1,1,2,0,2,0,0,1,1,1] follows ?_
    apply oB hF;intro x16 e17 hF
    have le17:=ZA e17
    refine kdd e17 ?_
    apply oB hF;intro v18 e19 hF
    refine yH 0 3 (by simp) ?_
    refine kx0 ?_
    refine(((CC.f74 B hB1 hB2 w).1 [] t x16 v18 e19)).ego (pl [2]) (by simp) (by simp) (Zs _ rfl (by decide)) (by intro i hi hi';simp at hi hi';first|omega|(subst hi';simp[pl])) (by simp_all) (by simp_all) ?_
    apply oB hF;intro x20 e21 hF
    have le21:=ZA e21
    refine kdd e21 ?_
    apply oB hF;intro v22 e23 hF
    refine yH 0 3 (by simp) ?_
    refine kx0 ?_
    refine(((CC.f74 B hB1 hB2 w).1 [] t x20 v22 e23)).ego (pl [3]) (by simp) (by simp) (Zs _ rfl (by decide)) (by intro i hi hi';simp at hi hi';first|omega|(subst hi';simp[pl])) (by simp_all) (by simp_all) ?_
    refine kB hF fun v24 e25 hF=> ?_
    refine((C.f81 B hB1 hB2 v18 v22 v24 e25)).elend (by simp_all) (by simp -dsimp) ?_
    cases hF
    exact kc0
   ·refine kx1 q15 ?_
    apply oB hF;intro v26 e27 hF
    refine yF 0 3 (by simp) ?_
    refine kx0 ?_
    refine(((CC.f74 B hB1 hB2 w).1 [] t p v26 e27)).go (pl [2]) (by simp) (by simp) (Zs _ rfl (by decide)) (by intro i hi hi';simp at hi hi';first|omega|(subst hi';simp[pl])) (by simp_all) (by simp_all) ?_
    refine kB hF fun o'40 ho39 hF=> ?_
    refine zU (((CC.f82 B hB1 hB2 v26) 0 o'40 ho39) _ rfl _ ?_)
    rcases o'40 with r0|sx41
    ·dsimp only at hF
     cases hF
     intro st h
     simpa using h
    ·dsimp only at hF
     cases hF
     exact kc0
 ·intro _f_f83 _f_f84 ih_f83 ih_f84 t p v i o hF
  refine ZJ rfl fun Q hq hk hs=> ?_
  have b0:=hk 0
  simp -dsimp at b0
  have b7:=hk 7
  simp -dsimp at b7
  have d1:=hs 1 _ rfl
  simp -dsimp[zR]at d1
  clear hk hs
  refine eN ?_
  revert hF;refine kS ?_ ?_<;>intro h2 q3 hF
  ·have z4:((i:Int)<(v.length:Int)):=auz
   refine kx2 h2 z4 ?_
   refine zM follows ?_
   apply oB hF;intro x e5 hF
   have le5:=ZA e5
   apply oB hF;intro x6 e7 hF
   have le7:=ZA e7
   refine ZEQ e5 e7 ?_
   apply oB hF;intro v8 e9 hF
   refine((ih_f83 x x6 v8 e9)).pgoW (by simp_all) (by simp) ?_
   revert hF;refine kN (fun h10 q11 hF=> ?_) (fun h10 q11 hF=> ?_)
   ·cases hF
    refine kx2 h10 q11 ?_
    refine lG _ (gR _) (hq _ ?_)
    exact kc0
   ·have w12:i64.wrap ((i:Int)+1)=(i:Int)+1:=ZC (by omega) (by omega)
    refine kx1 w12 ?_
    refine zS ((ih_f84 t p v (i+1) o hF) _ rfl _ hq)
  ·have z4:¬((i:Int)<(v.length:Int)):=auz
   cases hF
   refine kx3 h2 q3 z4 ?_
   refine zT hq
theorem C.f85 (w:List yB)(t:Ty)(p:Pattern)(r:Bool)(hF:F.f85 w t p=some r):PureCall zQ B 142 [am yC w,.agg [li t.data,li t.index],.agg [li p.op,li p.ctor,li p.n,li p.m,li p.var,am yI p.kids]] (.lit (.bool r)):=by
 unfold F.f85 at hF
 refine zG func142 rfl ntmps142 ?_
 refine kB hF fun v e1 hF=> ?_
 refine(((CC.f70 B hB1 hB2 w).1 t p 10 v e1)).goI ?_
 revert hF;refine kS (fun h2 q3 hF=> ?_) (fun h2 q3 hF=> ?_)
 ·refine kx1 h2 ?_
  apply oB hF;intro v4 e5 hF
  refine(((CC.f72 B hB1 hB2).1 p 60 v4 e5)).goI ?_
  refine kx1 h2 ?_
  revert hF;refine aS ?_ ?_<;>intro h6 q7 hF
  ·refine kx2 h2 h6 ?_
   apply oB hF;intro v8 e9 hF
   refine(((CC.f83 B hB1 hB2 w).1 t p v8 e9)).goI ?_
   cases hF
   exact kc2 h2 h6
  ·cases hF
   exact kc3 h2 h6 q7
 ·cases hF
  exact kc2 h2 q3
theorem C.f86 (r':ZB)(w:List yB)(t:Ty)(r:Pattern×ZB)(hF:F.f86 r' w t=some r):MutCall zQ B 194 [am cU r'.f0,li r'.f1] [.ptr 0 0,am yC w,.agg [li t.data,li t.index]] (.agg [li r.1.op,li r.1.ctor,li r.1.n,li r.1.m,li r.1.var,am yI r.1.kids]) [am cU r.2.f0,li r.2.f1]:=by
 unfold F.f86 at hF
 refine zI func194 rfl ntmps194 ?_
 refine kx0 ?_
 refine zP [(5,12),(6,12),(7,12),(8,12)] 12 [137,211,212] [(0,3),(0,2),(0,2),(0,2),(0,1),(0,6),(0,6),(0,6),(0,6),(4,5),(4,5),(4,6),(0,6),(0,6),(6,6)] [1,1,1,2,1,1,1,1,1,1,1,1,1,1,1] follows (by kernel_rfl) (by kernel_rfl) (by kernel_rfl) (by kernel_rfl) (by intro d hd;cases hd;rfl) (by intro t i h k;cases h;cases k;rfl) ?_
 refine kB hF fun v e1 hF=> ?_
 refine yG ?_ ((C.f54 B hB1 hB2 r' [3,2,4,1] v e1)).ent
 refine kx0 ?_
 refine((C.f54 B hB1 hB2 r' [3,2,4,1] v e1)).ego 0 rfl (by simp) (by simp) (by simp) ?_
 refine kB hF fun v2 e3 hF=> ?_
 refine(((CC.f59 B hB1 hB2 w).1 v.2 t v.1 v2 e3)).ego 0 rfl (by simp) (by simp) (by simp) ?_
 refine kB hF fun v4 e5 hF=> ?_
 refine(((CC.f61 B hB1 hB2).1 v2.2 v2.1 0 v4 e5)).ego 0 rfl (by simp) (by simp) (by simp) ?_
 refine kB hF fun v6 e7 hF=> ?_
 refine((C.f85 B hB1 hB2 w t v4.1 v6 e7)).goI ?_
 revert hF;refine kN (fun h8 q9 hF=> ?_) (fun h8 q9 hF=> ?_)
 ·cases hF
  exact kc2 h8 q9
 ·cases hF
  exact kc0
theorem CC.f87 (v:Pattern×ZB)(vars:List VarType):(∀(z:List Int) (z4:Int) (z5:Int) (z6:Int) (z7:Int) (i:Nat) (o:(List Int)×Int×Int×Int×Int),F.f87 v z z4 z5 z6 z7 vars i=some o->∀(c:Code),ZS [1,1,1,0,1,0,0] (ZH Tryz.f171)=some c->∀(Q:Exit->ASt->Prop),(Q (.exit 0) ⟨[(6,.ptr 2 0),(7,.ptr 3 0)],[.cells [am cU o.1,li o.2.1],.dead,.cells [li 0,li 0,li 0,li 0,li 0,.lit (.slice none 0 0),li 0,li 0,li 0],.cells [li v.1.op,li v.1.ctor,li v.1.n,li v.1.m,li v.1.var,am yI v.1.kids,li o.2.2.1,li o.2.2.2.1,li o.2.2.2.2]]⟩)->ALoopU zQ B 1 51 (hold c .mk) ⟨[(0,.ptr 0 0),(6,.ptr 2 0),(7,.ptr 3 0),(8,am yJ vars),(9,li (i:Int))],[.cells [am cU z,li z4],.dead,.cells [li 0,li 0,li 0,li 0,li 0,.lit (.slice none 0 0),li 0,li 0,li 0],.cells [li v.1.op,li v.1.ctor,li v.1.n,li v.1.m,li v.1.var,am yI v.1.kids,li z5,li z6,li z7],.dead]⟩ (hold Q .mk)):=by
 refine F.f87.partial_correctness v vars
  _
  ?_
 ·intro _f_f87 ih_f87 z z4 z5 z6 z7 i o hF
  refine ZJ rfl fun Q hq hk hs=> ?_
  have b8:=hk 8
  simp -dsimp at b8
  have d0:=hs 0 _ rfl
  simp -dsimp[zR]at d0
  have d3:=hs 3 _ rfl
  simp -dsimp[zR]at d3
  clear hk hs
  refine eN ?_
  revert hF;refine kS ?_ ?_<;>intro h8 q9 hF
  ·have z10:((i:Int)<(vars.length:Int)):=auz
   apply oB hF;intro x e11 hF
   have le11:=ZA e11
   refine ZW h8 z10 e11 ?_
   revert hF;refine aS ?_ ?_<;>intro h12 q13 hF
   ·refine kx1 h12 ?_
    apply oB hF;intro v14 e15 hF
    refine((C.f1 B hB1 hB2 (⟨z,z4⟩:ZB) 2 v14 e15)).go 0 rfl (by simp[h8,z10,↓e11,h12]) (by simp) (by simp[h8,z10,↓e11,h12]) ?_
    repeat first|refine cg ?_|simp -dsimp[h8,z10,↓e11,h12]
    revert hF;refine aS ?_ ?_<;>intro h16 q17 hF
    ·repeat first|refine cg ?_|simp -dsimp[h8,z10,↓e11,h12,h16]
     refine zL [136] [(0,0),(0,3),(1,2),(0,2),(0,2),(0,2),(0,2),(0,2),(0,1),(0,3),(2,2),(2,2),(0,3)] [1,1,1,1,1,0,0,0,1,1,1,1,1] follows ?_
     refine kB hF fun v18 e19 hF=> ?_
     refine((C.f1 B hB1 hB2 v14.2 2 v18 e19)).ego 0 rfl (by simp[h8,z10,↓e11,h12,h16]) (by simp) (by simp[h8,z10,↓e11,h12,h16]) ?_
     refine kB hF fun v20 e21 hF=> ?_
     refine((C.f1 B hB1 hB2 v18.2 10 v20 e21)).ego 0 rfl (by simp[h8,z10,↓e11,h12,h16]) (by simp) (by simp[h8,z10,↓e11,h12,h16]) ?_
     have w22:i64.wrap ((i:Int)+1)=(i:Int)+1:=ZC (by omega) (by omega)
     repeat first|refine cg ?_|simp -dsimp[h8,z10,↓e11,h12,h16,w22]
     refine zS ((ih_f87 v20.2.f0 v20.2.f1 (i64.wrap (1+v18.1)) x.var v20.1 (i+1) o hF) _ rfl _ hq)
    ·have w23:i64.wrap ((i:Int)+1)=(i:Int)+1:=ZC (by omega) (by omega)
     repeat first|refine cg ?_|simp -dsimp[h8,z10,↓e11,h12,h16,q17,w23]
     refine zS ((ih_f87 v14.2.f0 v14.2.f1 z5 z6 z7 (i+1) o hF) _ rfl _ hq)
   ·have w24:i64.wrap ((i:Int)+1)=(i:Int)+1:=ZC (by omega) (by omega)
    refine kx2 q13 w24 ?_
    refine zS ((ih_f87 z z4 z5 z6 z7 (i+1) o hF) _ rfl _ hq)
  ·have z10:¬((i:Int)<(vars.length:Int)):=auz
   cases hF
   refine kx3 h8 q9 z10 ?_
   refine zT hq
theorem C.f88 (r':ZB)(w:List yB)(t:Ty)(r:Clause×ZB)(hF:F.f88 r' w t=some r):MutCall zQ B 171 [am cU r'.f0,li r'.f1] [.ptr 0 0,am yC w,.agg [li t.data,li t.index]] (.agg [li r.1.pat.op,li r.1.pat.ctor,li r.1.pat.n,li r.1.pat.m,li r.1.pat.var,am yI r.1.pat.kids,li r.1.guard.op,li r.1.guard.var,li r.1.guard.n]) [am cU r.2.f0,li r.2.f1]:=by
 unfold F.f88 at hF
 refine zI func171 rfl ntmps171 ?_
 refine kB hF fun v e1 hF=> ?_
 refine((C.f86 B hB1 hB2 r' w t v e1)).go 0 rfl (by simp) (by simp) (by simp) ?_
 refine kB hF fun v2 e3 hF=> ?_
 refine yF 0 3 (by simp) ?_
 refine kx0 ?_
 refine(((CC.f74 B hB1 hB2 w).1 [] t v.1 v2 e3)).go (pl [4]) (by simp) (by simp) (Zs _ rfl (by decide)) (by intro i hi hi';simp at hi hi';first|omega|(subst hi';simp[pl])) (by simp) (by simp) ?_
 refine kB hF fun o' ho25 hF=> ?_
 refine zV ⟨[(0,.ptr 0 0),(6,.ptr 2 0),(7,.ptr 3 0),(8,.arr (zB yJ v2)),(9,.lit (.int .i64 0))],[.cells [.arr (zB cU v.2.f0),.lit (.int .i64 v.2.f1)],.dead,.cells [.lit (.int .i64 0),.lit (.int .i64 0),.lit (.int .i64 0),.lit (.int .i64 0),.lit (.int .i64 0),.lit (.slice none 0 0),.lit (.int .i64 0),.lit (.int .i64 0),.lit (.int .i64 0)],.cells [.lit (.int .i64 v.1.op),.lit (.int .i64 v.1.ctor),.lit (.int .i64 v.1.n),.lit (.int .i64 v.1.m),.lit (.int .i64 v.1.var),.arr (zB yI v.1.kids),.lit (.int .i64 0),.lit (.int .i64 0),.lit (.int .i64 0)],.dead]⟩ (by refine zX (yA 8 (l:=4) (n:=zA (α:=VarType) v2) (sz:=3) (es:=zB yJ v2) (by simp) (by simp) (by simp) (by simp)) ?_;exact(gT (by simp) (by simp -dsimp))) ?_
 refine((CC.f87 B hB1 hB2 v v2) v.2.f0 v.2.f1 0 0 0 0 o' ho25) _ rfl _ ?_
 cases hF
 exact kc0
theorem CC.f89 (w:List yB)(t:Ty):(∀(z:List Int) (z2:Int) (out:List Clause) (i:Int) (o:(List Int)×Int×(List Clause)),F.f89 w t z z2 out i=some o->∀(c:Code),ZS [1,1,0,1,0,0] (ZH Tryz.f135)=some c->∀(Q:Exit->ASt->Prop),(Q (.exit 0) ⟨[(7,.own 2 (zA (α:=Clause) o.2.2))],[.cells [am cU o.1,li o.2.1],.dead,.elems 9 (zB yN o.2.2)]⟩)->ALoopU zQ B 1 25 (hold c .mk) ⟨[(0,.ptr 0 0),(1,am yC w),(5,.ptr 1 0),(7,.own 2 (zA (α:=Clause) out)),(8,li i)],[.cells [am cU z,li z2],.cells [li t.data,li t.index],.elems 9 (zB yN out)]⟩ (hold Q .mk)):=by
 refine F.f89.partial_correctness w t
  _
  ?_
 ·intro _f_f89 ih_f89 z z2 out i o hF
  intro c hc Q hq
  obtain rfl:c=_:=ZEM hc rfl
  refine ALoopU.know fun hk hs=> ?_
  have b1:=hk 1
  simp -dsimp at b1
  have d0:=hs 0 _ rfl
  simp -dsimp[zR]at d0
  have d2:=hs 2 _ rfl
  simp -dsimp[zR]at d2
  clear hk hs
  refine eN ?_
  revert hF;refine kS ?_ ?_<;>intro h3 q4 hF
  ·refine kx1 h3 ?_
   apply oB hF;intro v5 e6 hF
   refine((C.f88 B hB1 hB2 (⟨z,z2⟩:ZB) w t v5 e6)).go 0 rfl (by first|simp[h3];done|simp_all) (by simp) (by first|simp[h3];done|simp_all) ?_
   apply oC hF;intro c7 hF
   refine kx1 h3 ?_
   refine aG _ ?_ ((ih_f89 v5.2.f0 v5.2.f1 (out++[v5.1]) (i64.wrap (i-1)) o hF) _ rfl _ hq)
   exact(gT (by simp) (by first|simp -dsimp[h3];done|simp_all))
  ·cases hF
   refine kx2 h3 q4 ?_
   refine lG _ (gT (by simp) (by first|simp -dsimp[h3,q4];done|simp_all)) hq
theorem C.f90 (r':ZB)(w:List yB)(t:Ty)(r:(List Clause)×ZB)(hF:F.f90 r' w t=some r):MutCall zQ B 135 [am cU r'.f0,li r'.f1] [.ptr 0 0,am yC w,.agg [li t.data,li t.index]] (am yN r.1) [am cU r.2.f0,li r.2.f1]:=by
 unfold F.f90 at hF
 refine zJ func135 (by kernel_rfl) rfl ntmps135 (by simp) (by simp) (by simp) (by simp) ?_
 refine kB hF fun v e1 hF=> ?_
 refine yE ?_ ((C.f54 B hB1 hB2 r' [3,2,4,5,1,0] v e1)).ent
 refine kx0 ?_
 refine((C.f54 B hB1 hB2 r' [3,2,4,5,1,0] v e1)).go 0 rfl (by simp) (by simp) (by simp) ?_
 refine kB hF fun o' ho8 hF=> ?_
 refine zV _ ?_ (((CC.f89 B hB1 hB2 w t) v.2.f0 v.2.f1 [] v.1 o' ho8) _ rfl _ ?_)
 ·exact(gT (by simp) (by simp -dsimp))
 cases hF
 repeat first|refine cg ?_|simp -dsimp
 all_goals(try first|omega|rfl)
theorem C.f91 (r':ZB)(r:(List yB)×Ty×(List Clause)×Vl.Value×ZB)(hF:F.f91 r'=some r):MutCall zQ B 98 [am cU r'.f0,li r'.f1] [.ptr 0 0] (.tup [am yC r.1,.agg [li r.2.1.data,li r.2.1.index],am yN r.2.2.1,.agg [li r.2.2.2.1.ctor,li r.2.2.2.1.n,am Vl.Value.c r.2.2.2.1.kids]]) [am cU r.2.2.2.2.f0,li r.2.2.2.2.f1]:=by
 unfold F.f91 at hF
 refine zJ func98 (by kernel_rfl) rfl ntmps98 (by simp) (by simp) (by simp) (by simp) ?_
 refine kB hF fun v e1 hF=> ?_
 refine((C.f58 B hB1 hB2 r' v e1)).go 0 rfl (by simp) (by simp) (by simp) ?_
 refine kx0 ?_
 refine zN [135] [(0,1),(0,1),(0,0),(0,0),(0,0),(0,3),(0,2),(1,1),(0,3),(2,2),(0,3)] [1,2,1,1,1,1,2,1,1,1,1] follows (by kernel_rfl) (by kernel_rfl) (by kernel_rfl) ?_
 refine kB hF fun v2 e3 hF=> ?_
 refine((C.f90 B hB1 hB2 v.2.2.2 v.1 v.2.1 v2 e3)).ego 0 rfl (by simp) (by simp) (by simp) ?_
 cases hF
 repeat first|refine cg ?_|simp -dsimp
 all_goals(try first|omega|rfl)
theorem C.f92 (r':ZB)(p:Pattern)(r:Pattern×ZB)(hF:F.f92 r' p=some r):MutCall zQ B 138 [am cU r'.f0,li r'.f1] [.ptr 0 0,.agg [li p.op,li p.ctor,li p.n,li p.m,li p.var,am yI p.kids]] (.agg [li r.1.op,li r.1.ctor,li r.1.n,li r.1.m,li r.1.var,am yI r.1.kids]) [am cU r.2.f0,li r.2.f1]:=by
 unfold F.f92 at hF
 refine zI func138 rfl ntmps138 ?_
 apply oC hF;intro c1 hF
 refine kB hF fun v e2 hF=> ?_
 refine((C.f1 B hB1 hB2 r' 30 v e2)).go 0 rfl (by simp) (by simp) (by simp) ?_
 revert hF;refine kS ?_ ?_<;>intro h3 q4 hF
 ·refine kx1 h3 ?_
  apply oB hF;intro v5 e6 hF
  refine yE ?_ ((C.f54 B hB1 hB2 v.2 [0,7,1,2,5] v5 e6)).ent
  refine kx0 ?_
  refine((C.f54 B hB1 hB2 v.2 [0,7,1,2,5] v5 e6)).go 0 rfl (by simp_all) (by simp) (by simp_all) ?_
  cases hF
  exact kc0
 ·refine kx1 q4 ?_
  revert hF;refine aS ?_ ?_<;>intro h7 q8 hF
  ·refine kx1 h7 ?_
   apply oB hF;intro v9 e10 hF
   refine yE ?_ ((C.f54 B hB1 hB2 v.2 [6,(-1),1] v9 e10)).ent
   refine kx0 ?_
   refine((C.f54 B hB1 hB2 v.2 [6,(-1),1] v9 e10)).go 0 rfl (by simp_all) (by simp) (by simp_all) ?_
   cases hF
   exact kc0
  ·refine kx1 q8 ?_
   revert hF;refine aS ?_ ?_<;>intro h11 q12 hF
   ·refine kx1 h11 ?_
    apply oB hF;intro v13 e14 hF
    refine yE ?_ ((C.f54 B hB1 hB2 v.2 [9,(-1),1] v13 e14)).ent
    refine kx0 ?_
    refine((C.f54 B hB1 hB2 v.2 [9,(-1),1] v13 e14)).go 0 rfl (by simp_all) (by simp) (by simp_all) ?_
    cases hF
    exact kc0
   ·refine kx1 q12 ?_
    revert hF;refine aS ?_ ?_<;>intro h15 q16 hF
    ·apply oC hF;intro c17 hF
     cases hF
     exact kc1 h15
    ·refine kx1 q16 ?_
     revert hF;refine aS ?_ ?_<;>intro h18 q19 hF
     ·refine kx1 h18 ?_
      revert hF;refine aS ?_ ?_<;>intro h20 q21 hF
      ·have z22:(0<(p.kids.length:Int)):=auz
       apply oB hF;intro x e23 hF
       have le23:=ZA e23
       cases hF
       repeat first|refine cg ?_|simp -dsimp[h20,z22,↓e23]
      ·have z22:¬(0<(p.kids.length:Int)):=auz
       cases hF
       exact kc3 h20 q21 z22
     ·refine kx1 q19 ?_
      revert hF;refine aS ?_ ?_<;>intro h24 q25 hF
      ·refine kx1 h24 ?_
       apply oB hF;intro v26 e27 hF
       refine yE ?_ ((C.f54 B hB1 hB2 v.2 [10,(-1),5] v26 e27)).ent
       refine kx0 ?_
       refine((C.f54 B hB1 hB2 v.2 [10,(-1),5] v26 e27)).go 0 rfl (by simp_all) (by simp) (by simp_all) ?_
       cases hF
       exact kc0
      ·cases hF
       exact kc1 q25
theorem CC.f93 (v:Int×ZB):(∀(out:List Clause) (o:List Clause),F.f93 v out=some o->∀(c:Code),ZS [1,1,0,1,0,1,1,1,1,1,0,0,0] (ZH Tryz.f99)=some c->∀(Q:Exit->ASt->Prop),(Q (.exit 1) ⟨[(5,.own 1 (zA (α:=Clause) o))],[.cells [am cU v.2.f0,li v.2.f1],.elems 9 (zB yN o)]⟩)->ALoopU zQ B 1 56 (hold c .mk) ⟨[(5,.own 1 (zA (α:=Clause) out))],[.cells [am cU v.2.f0,li v.2.f1],.elems 9 (zB yN out)]⟩ (hold Q .mk)):=by
 refine F.f93.partial_correctness v
  _
  ?_
 ·intro _f_f93 ih_f93 out o hF
  intro c hc Q hq
  obtain rfl:c=_:=ZEM hc rfl
  refine ALoopU.know fun hk hs=> ?_
  have d0:=hs 0 _ rfl
  simp -dsimp[zR]at d0
  have d1:=hs 1 _ rfl
  simp -dsimp[zR]at d1
  clear hk hs
  refine eN ?_
  revert hF;refine kS ?_ ?_<;>intro h28 q29 hF
  ·have z30:((out.length:Int)<=8):=auz
   apply oC hF;intro c31 hF
   refine kx2 h28 z30 ?_
   refine aG _ ?_ ((ih_f93 (out++[(⟨(⟨1,0,0,0,0,[]⟩:Pattern),(⟨0,0,0⟩:Guard)⟩:Clause)]) o hF) _ rfl _ hq)
   exact(gT (by simp) (by first|simp -dsimp[h28,z30];done|simp_all))
  ·have z30:¬((out.length:Int)<=8):=auz
   cases hF
   refine kx3 h28 q29 z30 ?_
   refine lG _ (gT (by simp) (by first|simp -dsimp[h28,q29,z30];done|simp_all)) hq
theorem C.f94 (r':ZB)(list:List Clause)(r:(List Clause)×ZB)(hF:F.f94 r' list=some r):MutCall zQ B 99 [am cU r'.f0,li r'.f1] [.ptr 0 0,am yN list] (am yN r.1) [am cU r.2.f0,li r.2.f1]:=by
 unfold F.f94 at hF
 refine zJ func99 (by kernel_rfl) rfl ntmps99 (by simp) (by simp) (by simp) (by simp) ?_
 apply oC hF;intro c1 hF
 refine kB hF fun v e2 hF=> ?_
 refine((C.f1 B hB1 hB2 r' 24 v e2)).go 0 rfl (by simp) (by simp) (by simp) ?_
 revert hF;refine kS ?_ ?_<;>intro h3 q4 hF
 ·refine kx1 h3 ?_
  revert hF;refine aS ?_ ?_<;>intro h5 q6 hF
  ·have z7:(0<(list.length:Int)):=auz
   refine kx3 h3 h5 z7 ?_
   apply oB hF;intro v8 e9 hF
   refine yE ?_ ((C.f54 B hB1 hB2 v.2 [1,2,3,(-1)] v8 e9)).ent
   refine kx3 h3 h5 z7 ?_
   refine((C.f54 B hB1 hB2 v.2 [1,2,3,(-1)] v8 e9)).go 0 rfl (by first|simp[h3,h5,z7];done|simp_all) (by simp) (by first|simp[h3,h5,z7];done|simp_all) ?_
   refine kx3 h3 h5 z7 ?_
   apply oB hF;intro v10 e11 hF
   refine yE ?_ ((C.f54 B hB1 hB2 v8.2 [0,5,9] v10 e11)).ent
   refine kx3 h3 h5 z7 ?_
   refine((C.f54 B hB1 hB2 v8.2 [0,5,9] v10 e11)).go 0 rfl (by first|simp[h3,h5,z7];done|simp_all) (by simp) (by first|simp[h3,h5,z7];done|simp_all) ?_
   refine kx3 h3 h5 z7 ?_
   apply oB hF;intro v12 e13 hF
   refine yE ?_ ((C.f54 B hB1 hB2 v10.2 [3,10,(-1)] v12 e13)).ent
   refine kx3 h3 h5 z7 ?_
   refine((C.f54 B hB1 hB2 v10.2 [3,10,(-1)] v12 e13)).go 0 rfl (by first|simp[h3,h5,z7];done|simp_all) (by simp) (by first|simp[h3,h5,z7];done|simp_all) ?_
   apply oB hF;intro x e14 hF
   have le14:=ZA e14
   cases hF
   repeat first|refine cg ?_|simp -dsimp[h3,h5,z7,↓e14]
   all_goals(try first|omega|rfl)
  ·have z7:¬(0<(list.length:Int)):=auz
   cases hF
   repeat first|refine cg ?_|simp -dsimp[h3,h5,q6,z7]
   all_goals(try first|omega|rfl)
 ·refine kx2 h3 q4 ?_
  revert hF;refine aS ?_ ?_<;>intro h15 q16 hF
  ·refine kx3 h3 q4 h15 ?_
   revert hF;refine aS ?_ ?_<;>intro h17 q18 hF
   ·have z19:(0<(list.length:Int)):=auz
    apply oB hF;intro x20 e21 hF
    have le21:=ZA e21
    repeat first|refine cg ?_|simp -dsimp[h3,q4,h15,h17,z19,↓e21]
    apply oB hF;intro v22 e23 hF
    refine((C.f92 B hB1 hB2 v.2 x20.pat v22 e23)).go 0 rfl (by first|simp[h3,q4,h15,h17,z19,↓e21];done|simp_all) (by simp) (by first|simp[h3,q4,h15,h17,z19,↓e21];done|simp_all) ?_
    repeat first|refine cg ?_|simp -dsimp[h3,q4,h15,h17,z19,↓e21]
    apply oB hF;intro v24 e25 hF
    refine((C.f92 B hB1 hB2 v22.2 v22.1 v24 e25)).go 0 rfl (by first|simp[h3,q4,h15,h17,z19,↓e21];done|simp_all) (by simp) (by first|simp[h3,q4,h15,h17,z19,↓e21];done|simp_all) ?_
    cases hF
    repeat first|refine cg ?_|simp -dsimp[h3,q4,h15,h17,z19,↓e21]
    all_goals(try first|omega|rfl)
   ·have z19:¬(0<(list.length:Int)):=auz
    cases hF
    repeat first|refine cg ?_|simp -dsimp[h3,q4,h15,h17,q18,z19]
    all_goals(try first|omega|rfl)
  ·refine kx4 h3 q4 h15 q16 ?_
   revert hF;refine aS ?_ ?_<;>intro h26 q27 hF
   ·refine kx5 h3 q4 h15 q16 h26 ?_
    apply oB hF;intro o' ho32 hF
    refine zV _ ?_ (((CC.f93 B hB1 hB2 v) list o' ho32) _ rfl _ ?_)
    ·exact(gT (by simp) (by first|simp -dsimp[h3,q4,h15,q16,h26];done|simp_all))
    cases hF
    repeat first|refine cg ?_|simp -dsimp
    all_goals(try first|omega|rfl)
   ·cases hF
    repeat first|refine cg ?_|simp -dsimp[h3,q4,h15,q16,h26,q27]
    all_goals(try first|omega|rfl)
theorem CC.f95  :(∀(r':ZB) (v:Vl.Value) (r:Vl.Value×ZB),F.f95 r' v=some r->MutCall zQ B 100 [am cU r'.f0,li r'.f1] [.ptr 0 0,.agg [li v.ctor,li v.n,am Vl.Value.c v.kids]] (.agg [li r.1.ctor,li r.1.n,am Vl.Value.c r.1.kids]) [am cU r.2.f0,li r.2.f1]):=by
 refine F.f95.partial_correctness 
  _
  ?_
 ·intro _f_f95 ih_f95 r' v r hF
  refine zK func100 (by kernel_rfl) rfl ntmps100 (by simp) (by simp) (by simp) (by simp) Gh.keep ?_
  refine kx0 ?_
  refine zP [(4,9),(7,9),(8,9)] 9 [1000042] [(0,2),(0,2),(0,2),(0,2),(0,5),(0,1),(0,1),(0,5),(0,5),(0,5),(0,5)] [0,2,0,2,1,0,2,1,1,1,1] follows (by kernel_rfl) (by kernel_rfl) (by kernel_rfl) (by kernel_rfl) (by intro d hd;cases hd;rfl) (by intro t i h k;cases h;cases k;rfl) ?_
  apply oC hF;intro c1 hF
  refine kB hF fun v2 e3 hF=> ?_
  refine((C.f1 B hB1 hB2 r' 24 v2 e3)).go 0 rfl (by simp) (by simp) (by simp) ?_
  revert hF;refine kS ?_ ?_<;>intro h4 q5 hF
  ·refine kx1 h4 ?_
   apply oB hF;intro v6 e7 hF
   refine yE ?_ ((C.f54 B hB1 hB2 v2.2 [0,1,(-1),9,(-2)] v6 e7)).ent
   refine kx1 h4 ?_
   refine((C.f54 B hB1 hB2 v2.2 [0,1,(-1),9,(-2)] v6 e7)).go 0 rfl (by first|simp[h4];done|simp_all) (by simp) (by first|simp[h4];done|simp_all) ?_
   cases hF
   repeat first|refine cg ?_|simp -dsimp[h4]
   all_goals(try first|omega|rfl)
  ·refine kx2 h4 q5 ?_
   revert hF;refine aS ?_ ?_<;>intro h8 q9 hF
   ·refine kx3 h4 q5 h8 ?_
    apply oB hF;intro v10 e11 hF
    refine yE ?_ ((C.f54 B hB1 hB2 v2.2 [10,(-1),1] v10 e11)).ent
    refine kx3 h4 q5 h8 ?_
    refine((C.f54 B hB1 hB2 v2.2 [10,(-1),1] v10 e11)).go 0 rfl (by first|simp[h4,q5,h8];done|simp_all) (by simp) (by first|simp[h4,q5,h8];done|simp_all) ?_
    cases hF
    repeat first|refine cg ?_|simp -dsimp[h4,q5,h8]
    all_goals(try first|omega|rfl)
   ·refine kx4 h4 q5 h8 q9 ?_
    revert hF;refine aS ?_ ?_<;>intro h12 q13 hF
    ·apply oC hF;intro c14 hF
     cases hF
     repeat first|refine cg ?_|simp -dsimp[h4,q5,h8,q9,h12]
     all_goals(try first|omega|rfl)
    ·refine kx6 h4 q5 h8 q9 h12 q13 ?_
     revert hF;refine aS ?_ ?_<;>intro h15 q16 hF
     ·refine kx7 h4 q5 h8 q9 h12 q13 h15 ?_
      revert hF;refine aS ?_ ?_<;>intro h17 q18 hF
      ·have z19:(0<(v.kids.length:Int)):=auz
       refine kx9 h4 q5 h8 q9 h12 q13 h15 h17 z19 ?_
       refine zN [100] [(0,2),(0,2),(0,1),(0,0),(0,0),(0,0),(0,0),(0,0),(0,3),(0,3),(2,2),(0,3)] [0,2,1,1,1,1,1,1,1,1,1,1] follows (by kernel_rfl) (by kernel_rfl) (by kernel_rfl) ?_
       apply oB hF;intro x e20 hF
       have le20:=ZA e20
       repeat first|refine cg ?_|simp -dsimp[h4,q5,h8,q9,h12,q13,h15,h17,z19,↓e20]
       apply oB hF;intro v21 e22 hF
       refine((ih_f95 v2.2 x v21 e22)).ego 0 rfl (by first|simp[h4,q5,h8,q9,h12,q13,h15,h17,z19,↓e20];done|simp_all) (by simp) (by first|simp[h4,q5,h8,q9,h12,q13,h15,h17,z19,↓e20];done|simp_all) ?_
       repeat first|refine cg ?_|simp -dsimp[h4,q5,h8,q9,h12,q13,h15,h17,z19,↓e20]
       apply oB hF;intro v23 e24 hF
       refine((ih_f95 v21.2 v21.1 v23 e24)).ego 0 rfl (by first|simp[h4,q5,h8,q9,h12,q13,h15,h17,z19,↓e20];done|simp_all) (by simp) (by first|simp[h4,q5,h8,q9,h12,q13,h15,h17,z19,↓e20];done|simp_all) ?_
       cases hF
       repeat first|refine cg ?_|simp -dsimp[h4,q5,h8,q9,h12,q13,h15,h17,z19,↓e20]
       all_goals(try first|omega|rfl)
      ·have z19:¬(0<(v.kids.length:Int)):=auz
       cases hF
       repeat first|refine cg ?_|simp -dsimp[h4,q5,h8,q9,h12,q13,h15,h17,q18,z19]
       all_goals(try first|omega|rfl)
     ·cases hF
      repeat first|refine cg ?_|simp -dsimp[h4,q5,h8,q9,h12,q13,h15,q16]
      all_goals(try first|omega|rfl)
theorem C.f96 (code:List Int)(r:(List yB)×Ty×(List Clause)×Vl.Value)(hF:F.f96 code=some r):PureCall zQ B 61 [am cU code] (.tup [am yC r.1,.agg [li r.2.1.data,li r.2.1.index],am yN r.2.2.1,.agg [li r.2.2.2.ctor,li r.2.2.2.n,am Vl.Value.c r.2.2.2.kids]]):=by
 unfold F.f96 at hF
 refine pE func61 (by kernel_rfl) rfl ntmps61 (by simp) (by simp) ?_
 refine kx0 ?_
 refine ACall.inl func97 (by kernel_rfl) rfl ntmps97 (by simp) ?_
 revert hF;refine kS ?_ ?_<;>intro h1 q2 hF
 ·have z3:(2000<(code.length:Int)):=auz
  apply oC hF;intro c4 hF
  refine kx2 h1 z3 ?_
  apply oB hF;intro v e5 hF
  refine((C.f91 B hB1 hB2 (⟨(code.drop 0).take (2000-0),0⟩:ZB) v e5)).go 2 rfl (by first|simp[h1,z3];done|simp_all) (by simp) (by first|simp[h1,z3];done|simp_all) ?_
  refine kx2 h1 z3 ?_
  refine zN [99,100] [(0,2),(0,2),(0,0),(0,0),(0,4),(0,1),(0,1),(0,4),(2,2),(0,4),(3,3),(0,4)] [1,2,1,1,1,1,2,1,1,1,1,1] follows (by kernel_rfl) (by kernel_rfl) (by kernel_rfl) ?_
  refine kx2 h1 z3 ?_
  apply oB hF;intro v6 e7 hF
  refine((C.f94 B hB1 hB2 v.2.2.2.2 v.2.2.1 v6 e7)).ego 2 rfl (by first|simp[h1,z3];done|simp_all) (by simp) (by first|simp[h1,z3];done|simp_all) ?_
  refine kx2 h1 z3 ?_
  apply oB hF;intro v8 e9 hF
  refine(((CC.f95 B hB1 hB2) v6.2 v.2.2.2.1 v8 e9)).ego 2 rfl (by first|simp[h1,z3];done|simp_all) (by simp) (by first|simp[h1,z3];done|simp_all) ?_
  cases hF
  repeat first|refine cg ?_|simp -dsimp[h1,z3]
  all_goals(try first|omega|rfl)
 ·have z3:¬(2000<(code.length:Int)):=auz
  refine kx3 h1 q2 z3 ?_
  apply oB hF;intro v10 e11 hF
  refine((C.f91 B hB1 hB2 (⟨code,0⟩:ZB) v10 e11)).go 2 rfl (by first|simp[h1,q2,z3];done|simp_all) (by simp) (by first|simp[h1,q2,z3];done|simp_all) ?_
  refine kx3 h1 q2 z3 ?_
  refine zN [99,100] [(0,2),(0,2),(0,0),(0,0),(0,4),(0,1),(0,1),(0,4),(2,2),(0,4),(3,3),(0,4)] [1,2,1,1,1,1,2,1,1,1,1,1] follows (by kernel_rfl) (by kernel_rfl) (by kernel_rfl) ?_
  refine kx3 h1 q2 z3 ?_
  apply oB hF;intro v12 e13 hF
  refine((C.f94 B hB1 hB2 v10.2.2.2.2 v10.2.2.1 v12 e13)).ego 2 rfl (by first|simp[h1,q2,z3];done|simp_all) (by simp) (by first|simp[h1,q2,z3];done|simp_all) ?_
  refine kx3 h1 q2 z3 ?_
  apply oB hF;intro v14 e15 hF
  refine(((CC.f95 B hB1 hB2) v12.2 v10.2.2.2.1 v14 e15)).ego 2 rfl (by first|simp[h1,q2,z3];done|simp_all) (by simp) (by first|simp[h1,q2,z3];done|simp_all) ?_
  cases hF
  repeat first|refine cg ?_|simp -dsimp[h1,q2,z3]
  all_goals(try first|omega|rfl)
theorem C.f97 (code:List Int)(r:(List yB)×Ty×(List Clause)×Vl.Value)(hF:F.f97 code=some r):PureCall zQ B 26 [am cU code] (.tup [am yC r.1,.agg [li r.2.1.data,li r.2.1.index],am yN r.2.2.1,.agg [li r.2.2.2.ctor,li r.2.2.2.n,am Vl.Value.c r.2.2.2.kids]]):=by
 unfold F.f97 at hF
 refine pE func26 (by kernel_rfl) rfl ntmps26 (by simp) (by simp) ?_
 refine kB hF fun v e1 hF=> ?_
 refine((C.f96 B hB1 hB2 code v e1)).goW (by simp) (by simp) ?_
 cases hF
 repeat first|refine cg ?_|simp -dsimp
 all_goals(try first|omega|rfl)
theorem C.f98 (n:Int)(low:Int)(high:Int)(r:Bool)(hF:F.f98 n low high=some r):PureCall zQ B 124 [li n,li low,li high] (.lit (.bool r)):=by
 unfold F.f98 at hF
 refine zG func124 rfl ntmps124 ?_
 revert hF;refine kS ?_ ?_<;>intro h1 q2 hF
 ·cases hF
  exact kc1 h1
 ·cases hF
  exact kc1 q2
theorem CC.f99 (s:ByteArray):(∀(i:Nat) (o:Lo Bool Unit),F.f99 s i=some o->∀(c:Code),ZS [1,1,0,1,0,0] (ZH Tryz.f200)=some c->∀(Q:Exit->ASt->Prop),o.post (fun r=>∀st,ZAG zQ Tryz.f200 (fun r' _=>r'.le (.lit (.bool r))) .ret st->Q .ret st) (fun s=>Q (.exit 0) ⟨[],[]⟩)->ALoopU zQ B 0 34 (hold c .mk) ⟨[(0,.lit (.string s)),(3,li (i:Int))],[]⟩ (hold Q .mk)):=by
 refine F.f99.partial_correctness s
  _
  ?_
 ·intro _f_f99 ih_f99 i o hF
  refine ZJ rfl fun Q hq hk hs=> ?_
  clear hk hs
  refine eN ?_
  revert hF;refine kS ?_ ?_<;>intro h11 q12 hF
  ·have z13:((i:Int)<(s.size:Int)):=auz
   refine kx2 h11 z13 ?_
   revert hF;refine aN ?_ ?_<;>intro h14 q15 hF
   ·have z16:¬(((byteAt s i:Nat):Int)<97):=auz
    refine kx5 h11 z13 h14 q15 z16 ?_
    revert hF;refine aS ?_ ?_<;>intro h17 q18 hF
    ·have z19:(122<((byteAt s i:Nat):Int)):=auz
     cases hF
     refine kx7 h11 z13 h14 q15 z16 h17 z19 ?_
     refine lG _ (gR _) (hq _ ?_)
     exact kc7 h11 z13 h14 q15 z16 h17 z19
    ·have z19:¬(122<((byteAt s i:Nat):Int)):=auz
     apply oC hF;intro c20 hF
     have w21:i64.wrap ((i:Int)+1)=(i:Int)+1:=ZC (by omega) (by omega)
     refine kx9 h11 z13 h14 q15 z16 h17 q18 z19 w21 ?_
     refine zS ((ih_f99 (i+1) o hF) _ rfl _ hq)
   ·have z16:(((byteAt s i:Nat):Int)<97):=auz
    cases hF
    refine kx5 h11 z13 h14 q15 z16 ?_
    refine lG _ (gR _) (hq _ ?_)
    exact kc5 h11 z13 h14 q15 z16
  ·have z13:¬((i:Int)<(s.size:Int)):=auz
   cases hF
   refine kx3 h11 q12 z13 ?_
   refine zT hq
theorem C.f100 (s:ByteArray)(r:Bool)(hF:F.f100 s=some r):PureCall zQ B 200 [.lit (.string s)] (.lit (.bool r)):=by
 unfold F.f100 at hF
 refine zG func200 rfl ntmps200 ?_
 refine kB hF fun v e1 hF=> ?_
 refine((C.f98 B hB1 hB2 (s.size:Int) 1 5 v e1)).goI ?_
 revert hF;refine kS (fun h2 q3 hF=> ?_) (fun h2 q3 hF=> ?_)
 ·apply oC hF;intro c4 hF
  refine kx1 h2 ?_
  revert hF;refine aN ?_ ?_<;>intro h5 q6 hF
  ·have z7:¬(((byteAt s 0:Nat):Int)<65):=auz
   refine kx4 h2 h5 q6 z7 ?_
   revert hF;refine aS ?_ ?_<;>intro h8 q9 hF
   ·have z10:(90<((byteAt s 0:Nat):Int)):=auz
    cases hF
    exact kc6 h2 h5 q6 z7 h8 z10
   ·have z10:¬(90<((byteAt s 0:Nat):Int)):=auz
    refine kx7 h2 h5 q6 z7 h8 q9 z10 ?_
    apply oB hF;intro o' ho22 hF
    refine zU (((CC.f99 B hB1 hB2 s) 1 o' ho22) _ rfl _ ?_)
    rcases o' with r0|sx
    ·dsimp only at hF
     cases hF
     intro st h
     simpa using h
    ·dsimp only at hF
     cases hF
     exact kc0
  ·have z7:(((byteAt s 0:Nat):Int)<65):=auz
   cases hF
   exact kc4 h2 h5 q6 z7
 ·cases hF
  exact kc2 h2 q3
theorem C.f101 (w:List yB)(t:Ty)(r:Bool)(hF:F.f101 w t=some r):PureCall zQ B 203 [am yC w,.agg [li t.data,li t.index]] (.lit (.bool r)):=by
 unfold F.f101 at hF
 refine zG func203 rfl ntmps203 ?_
 revert hF;refine kN (fun h1 q2 hF=> ?_) (fun h1 q2 hF=> ?_)
 ·refine kx2 h1 q2 ?_
  apply oB hF;intro v e3 hF
  refine((C.f98 B hB1 hB2 t.data 0 (i64.wrap ((w.length:Int) -1)) v e3)).goI ?_
  refine kx2 h1 q2 ?_
  revert hF;refine aS (fun h4 q5 hF=> ?_) (fun h4 q5 hF=> ?_)
  ·refine kx3 h1 q2 h4 ?_
   apply oB hF;intro v6 e7 hF
   refine((C.f98 B hB1 hB2 t.index (-1) 3 v6 e7)).goI ?_
   cases hF
   exact kc3 h1 q2 h4
  ·cases hF
   exact kc4 h1 q2 h4 q5
 ·cases hF
  exact kc2 h1 q2
theorem C.f102 (t:Ty)(a1:List yB)(r:Bool)(hF:F.f102 t a1=some r):PureCall zQ B 202 [.agg [li t.data,li t.index],.rptr [am yC a1] 0] (.lit (.bool r)):=by
 unfold F.f102 at hF
 refine zG func202 rfl ntmps202 ?_
 refine kB hF fun v e1 hF=> ?_
 refine((C.f101 B hB1 hB2 a1 t v e1)).goI ?_
 cases hF
 exact kc0
theorem CC.f103 (s:List Ty)(k0:List yB):(∀(i:Nat) (o:Lo Int Unit),F.f103 s k0 i=some o->∀(c:Code),ZS [1,0,1,0,0] (ZH Tryz.f213)=some c->∀(Q:Exit->ASt->Prop),o.post (fun r=>∀st,ZAG zQ Tryz.f213 (fun r' _=>r'.le (li r)) .ret st->Q .ret st) (fun s=>Q (.exit 0) ⟨[],[]⟩)->ALoopU zQ B 0 19 (hold c .mk) ⟨[(0,am zW s),(1,.fn (.func 202) [] [.rptr [am yC k0] 0]),(7,li (s.length:Int)),(8,li (i:Int))],[]⟩ (hold Q .mk)):=by
 refine F.f103.partial_correctness s k0
  _
  ?_
 ·intro _f_f103 ih_f103 i o hF
  refine ZJ rfl fun Q hq hk hs=> ?_
  have b0:=hk 0
  simp -dsimp at b0
  clear hk hs
  refine eN ?_
  revert hF;refine kS ?_ ?_<;>intro h1 q2 hF
  ·have z3:((i:Int)<(s.length:Int)):=auz
   apply oB hF;intro x e4 hF
   have le4:=ZA e4
   refine ZW h1 z3 e4 ?_
   apply oB hF;intro v e5 hF
   refine((C.f102 B hB1 hB2 x k0 v e5)).goI ?_
   revert hF;refine kS (fun h6 q7 hF=> ?_) (fun h6 q7 hF=> ?_)
   ·cases hF
    refine kx1 h6 ?_
    refine lG _ (gR _) (hq _ ?_)
    exact kc0
   ·have w8:i64.wrap ((i:Int)+1)=(i:Int)+1:=ZC (by omega) (by omega)
    refine kx2 q7 w8 ?_
    refine zS ((ih_f103 (i+1) o hF) _ rfl _ hq)
  ·have z3:¬((i:Int)<(s.length:Int)):=auz
   cases hF
   refine kx3 h1 q2 z3 ?_
   refine zT hq
theorem C.f104 (s:List Ty)(k0:List yB)(r:Int)(hF:F.f104 s k0=some r):PureCall zQ B 213 [am zW s,.fn (.func 202) [] [.rptr [am yC k0] 0]] (li r):=by
 unfold F.f104 at hF
 refine zG func213 rfl ntmps213 ?_
 refine kB hF fun o' ho9 hF=> ?_
 refine zU (((CC.f103 B hB1 hB2 s k0) 0 o' ho9) _ rfl _ ?_)
 rcases o' with r0|sx
 ·dsimp only at hF
  cases hF
  intro st h
  simpa using h
 ·dsimp only at hF
  cases hF
  exact kc0
theorem C.f105 (s:List Ty)(k0:List yB)(r:Bool)(hF:F.f105 s k0=some r):PureCall zQ B 201 [am zW s,.fn (.func 202) [] [.rptr [am yC k0] 0]] (.lit (.bool r)):=by
 unfold F.f105 at hF
 refine zG func201 rfl ntmps201 ?_
 refine kB hF fun v e1 hF=> ?_
 refine((C.f104 B hB1 hB2 s k0 v e1)).goI ?_
 cases hF
 exact kc0
theorem C.f106 (w:List yB)(c':Ctor)(r:Bool)(hF:F.f106 w c'=some r):PureCall zQ B 181 [am yC w,.agg [.lit (.string c'.name),am zW c'.args,li c'.index]] (.lit (.bool r)):=by
 unfold F.f106 at hF
 refine zG func181 rfl ntmps181 ?_
 refine kB hF fun v e1 hF=> ?_
 refine((C.f100 B hB1 hB2 c'.name v e1)).goI ?_
 revert hF;refine kS (fun h2 q3 hF=> ?_) (fun h2 q3 hF=> ?_)
 ·refine kx1 h2 ?_
  revert hF;refine aS ?_ ?_<;>intro h4 q5 hF
  ·have z6:((c'.args.length:Int)<=3):=auz
   refine kx3 h2 h4 z6 ?_
   apply oB hF;intro v7 e8 hF
   refine((C.f98 B hB1 hB2 c'.index 0 3 v7 e8)).goI ?_
   refine kx3 h2 h4 z6 ?_
   revert hF;refine aS (fun h9 q10 hF=> ?_) (fun h9 q10 hF=> ?_)
   ·refine kx4 h2 h4 z6 h9 ?_
    apply oB hF;intro v11 e12 hF
    refine((C.f105 B hB1 hB2 c'.args w v11 e12)).lend (by simp -dsimp[h2,h4,z6,h9]) (by simp -dsimp) ?_
    cases hF
    exact kc4 h2 h4 z6 h9
   ·cases hF
    exact kc5 h2 h4 z6 h9 q10
  ·have z6:¬((c'.args.length:Int)<=3):=auz
   cases hF
   exact kc4 h2 h4 q5 z6
 ·cases hF
  exact kc2 h2 q3
theorem CC.f107 (w:List yB)(met4:List ByteArray)(i:Nat)(x:yB):(∀(met26:List ByteArray) (i27:Nat) (o:Lo Bool (List ByteArray)),F.f107 w met4 i x met26 i27=some o->∀(b1 b2:Nat),¬b1=b2->∀(c:Code),ZS [1,1,1,1,0,1,0,0,1,1,0,0,1,1,1,1,0,0] (ZH Tryz.f149)=some c->∀(Q:Exit->ASt->Ms->Prop),o.post (fun r=>∀st,ZAG zQ Tryz.f149 (fun r' _=>r'=(.lit (.bool r))) .ret st->∀ms,Q .ret st ms) (fun s=>Q (.exit 2) ⟨[(0,am yC w),(3,.lit (.map (some b1))),(4,.lit (.map (some b2))),(14,am yC w),(15,li (w.length:Int)),(16,li (i:Int))],[]⟩ [(b1,s),(b2,ZCX met4 x.name)])->MLoop zQ B 79 (hold c .mk) ⟨[(0,am yC w),(3,.lit (.map (some b1))),(4,.lit (.map (some b2))),(14,am yC w),(15,li (w.length:Int)),(16,li (i:Int)),(58,am yD x.ctors),(59,li (x.ctors.length:Int)),(60,li (i27:Int))],[]⟩ [(b1,met26),(b2,ZCX met4 x.name)] (hold Q .mk)):=by
 refine F.f107.partial_correctness w met4 i x
  _
  ?_
 ·intro _f_f107 ih_f107 met26 i27 o hF
  intro b1 b2 hb2 c hc Q hq
  obtain rfl:c=_:=ZEM hc rfl
  refine MLoop.know fun hk hs=> ?_
  have b0:=hk 0
  simp -dsimp at b0
  have b14:=hk 14
  simp -dsimp at b14
  have b58:=hk 58
  simp -dsimp at b58
  clear hk hs
  refine MLoop.enter ?_
  refine kx1 hb2 ?_
  revert hF;refine aS ?_ ?_<;>intro h28 q29 hF
  ·have z30:((i27:Int)<(x.ctors.length:Int)):=auz
   apply oB hF;intro x31 e32 hF
   have le32:=ZA e32
   refine ZW h28 z30 e32 ?_
   apply oB hF;intro v33 e34 hF
   refine((C.f106 B hB1 hB2 w x31 v33 e34)).goI ?_
   revert hF;refine kS (fun h35 q36 hF=> ?_) (fun h35 q36 hF=> ?_)
   ·refine kx1 h35 ?_
    revert hF;refine aS (fun h37 q38 hF=> ?_) (fun h37 q38 hF=> ?_)
    ·cases hF
     refine kx1 h37 ?_
     refine LeaveM.go _ (gR _) (hq _ ?_ _)
     exact kc0
    ·have w39:i64.wrap ((i27:Int)+1)=(i27:Int)+1:=ZC (by omega) (by omega)
     refine kx2 q38 w39 ?_
     refine AgainM.go ⟨[(0,.arr (zB yC w)),(3,.lit (.map (some b1))),(4,.lit (.map (some b2))),(14,.arr (zB yC w)),(15,.lit (.int .i64 (w.length:Int))),(16,.lit (.int .i64 (i:Int))),(58,.arr (zB yD x.ctors)),(59,.lit (.int .i64 (x.ctors.length:Int))),(60,.lit (.int .i64 ((i27+1):Int)))],[]⟩ (gT (by simp) (by simp_all)) ?_
     exact(ih_f107 (ZCX met26 x31.name) (i27+1) o hF) b1 b2 hb2 _ rfl _ hq
   ·cases hF
    refine kx1 q36 ?_
    refine LeaveM.go _ (gR _) (hq _ ?_ _)
    exact kc0
  ·have z30:¬((i27:Int)<(x.ctors.length:Int)):=auz
   cases hF
   refine kx3 h28 q29 z30 ?_
   refine LeaveM.go ⟨[(0,.arr (zB yC w)),(3,.lit (.map (some b1))),(4,.lit (.map (some b2))),(14,.arr (zB yC w)),(15,.lit (.int .i64 (w.length:Int))),(16,.lit (.int .i64 (i:Int)))],[]⟩ (gT (by simp) (by simp_all)) ?_
   exact hq
theorem CC.f108 (w:List yB):(∀(met:List ByteArray) (met4:List ByteArray) (i:Nat) (o:Lo Bool ((List ByteArray)×(List ByteArray))),F.f108 w met met4 i=some o->∀(b1 b2:Nat),¬b1=b2->∀(c:Code),ZS [1,1,1,1,0,1,0,0] (ZH Tryz.f149)=some c->∀(Q:Exit->ASt->Ms->Prop),o.post (fun r=>∀st,ZAG zQ Tryz.f149 (fun r' _=>r'=(.lit (.bool r))) .ret st->∀ms,Q .ret st ms) (fun s=>Q (.exit 0) ⟨[],[]⟩ [(b1,s.1),(b2,s.2)])->MLoop zQ B 79 (hold c .mk) ⟨[(0,am yC w),(3,.lit (.map (some b1))),(4,.lit (.map (some b2))),(14,am yC w),(15,li (w.length:Int)),(16,li (i:Int))],[]⟩ [(b1,met),(b2,met4)] (hold Q .mk)):=by
 refine F.f108.partial_correctness w
  _
  ?_
 ·intro _f_f108 ih_f108 met met4 i o hF
  intro b1 b2 hb2 c hc Q hq
  obtain rfl:c=_:=ZEM hc rfl
  refine MLoop.know fun hk hs=> ?_
  have b0:=hk 0
  simp -dsimp at b0
  have b14:=hk 14
  simp -dsimp at b14
  clear hk hs
  refine MLoop.enter ?_
  refine kx1 hb2 ?_
  revert hF;refine aS ?_ ?_<;>intro h5 q6 hF
  ·have z7:((i:Int)<(w.length:Int)):=auz
   apply oB hF;intro x e8 hF
   have le8:=ZA e8
   refine ZW h5 z7 e8 ?_
   revert hF;refine aS ?_ ?_<;>intro h9 q10 hF
   ·have z11:((x.name.size:Int)=1):=auz
    apply oC hF;intro c12 hF
    refine kx2 h9 z11 ?_
    revert hF;refine aN ?_ ?_<;>intro h13 q14 hF
    ·have z15:¬(((byteAt x.name 0:Nat):Int)<65):=auz
     refine kx3 h13 q14 z15 ?_
     revert hF;refine aN ?_ ?_<;>intro h16 q17 hF
     ·have z18:¬(90<((byteAt x.name 0:Nat):Int)):=auz
      refine kx3 h16 q17 z18 ?_
      revert hF;refine aN ?_ ?_<;>intro h19 q20 hF
      ·repeat first|refine cg ?_|simp -dsimp[hb2,h5,z7,↓e8,h9,z11,h13,q14,z15,h16,q17,z18,h19,q20]
       revert hF;refine aN (fun h21 q22 hF=> ?_) (fun h21 q22 hF=> ?_)
       ·refine kx2 h21 q22 ?_
        apply oB hF;intro v e23 hF
        refine((C.f98 B hB1 hB2 (x.ctors.length:Int) 1 4 v e23)).goI ?_
        repeat first|refine cg ?_|simp -dsimp[hb2,h5,z7,↓e8,h9,z11,h13,q14,z15,h16,q17,z18,h19,q20,h21,q22]
        revert hF;refine aN (fun h24 q25 hF=> ?_) (fun h24 q25 hF=> ?_)
        ·cases hF
         refine kx2 h24 q25 ?_
         refine LeaveM.go _ (gR _) (hq _ ?_ _)
         exact kc0
        ·repeat first|refine cg ?_|simp -dsimp[hb2,h5,z7,↓e8,h9,z11,h13,q14,z15,h16,q17,z18,h19,q20,h21,q22,h24,q25]
         apply oB hF;intro o' ho40 hF
         refine MLoop.goU ⟨[(0,.arr (zB yC w)),(3,.lit (.map (some b1))),(4,.lit (.map (some b2))),(14,.arr (zB yC w)),(15,.lit (.int .i64 (w.length:Int))),(16,.lit (.int .i64 (i:Int))),(58,.arr (zB yD x.ctors)),(59,.lit (.int .i64 (x.ctors.length:Int))),(60,.lit (.int .i64 0))],[]⟩ (gT (by simp) (by simp -dsimp[hb2,h5,z7,↓e8,h9,z11,h13,q14,z15,h16,q17,z18,h19,q20,h21,q22,h24,q25])) ?_
         refine((CC.f107 B hB1 hB2 w met4 i x) met 0 o' ho40) b1 b2 hb2 _ rfl _ ?_
         rcases o' with r0|sx
         ·dsimp only at hF
          cases hF
          intro st h ms
          simp -dsimp
          refine LeaveM.go st (gR _) (hq st h ms)
         ·dsimp only at hF
          apply oC hF;intro c41 hF
          have w42:i64.wrap ((i:Int)+1)=(i:Int)+1:=ZC (by omega) (by omega)
          refine kx1 w42 ?_
          refine AgainM.go ⟨[(0,.arr (zB yC w)),(3,.lit (.map (some b1))),(4,.lit (.map (some b2))),(14,.arr (zB yC w)),(15,.lit (.int .i64 (w.length:Int))),(16,.lit (.int .i64 ((i+1):Int)))],[]⟩ (gT (by simp) (by simp -dsimp[w42])) ?_
          exact(ih_f108 sx (ZCX met4 x.name) (i+1) o hF) b1 b2 hb2 _ rfl _ hq
       ·cases hF
        repeat first|refine cg ?_|simp -dsimp[hb2,h5,z7,↓e8,h9,z11,h13,q14,z15,h16,q17,z18,h19,q20,h21,q22]
        refine LeaveM.go _ (gR _) (hq _ ?_ _)
        exact kc0
      ·cases hF
       repeat first|refine cg ?_|simp -dsimp[hb2,h5,z7,↓e8,h9,z11,h13,q14,z15,h16,q17,z18,h19,q20]
       refine LeaveM.go _ (gR _) (hq _ ?_ _)
       exact kc0
     ·have z18:(90<((byteAt x.name 0:Nat):Int)):=auz
      cases hF
      repeat first|refine cg ?_|simp -dsimp[hb2,h5,z7,↓e8,h9,z11,h13,q14,z15,h16,q17,z18]
      refine LeaveM.go _ (gR _) (hq _ ?_ _)
      exact kc0
    ·have z15:(((byteAt x.name 0:Nat):Int)<65):=auz
     cases hF
     repeat first|refine cg ?_|simp -dsimp[hb2,h5,z7,↓e8,h9,z11,h13,q14,z15]
     refine LeaveM.go _ (gR _) (hq _ ?_ _)
     exact kc0
   ·have z11:¬((x.name.size:Int)=1):=auz
    cases hF
    refine kx3 h9 q10 z11 ?_
    refine LeaveM.go _ (gR _) (hq _ ?_ _)
    exact kc0
  ·have z7:¬((i:Int)<(w.length:Int)):=auz
   cases hF
   refine kx3 h5 q6 z7 ?_
   refine LeaveM.go ⟨[],[]⟩ (gT (by simp) (by simp -dsimp[hb2,h5,q6,z7])) ?_
   exact hq
theorem C.f109 (w:List yB)(r:Bool)(hF:F.f109 w=some r):PureCall zQ B 149 [am yC w] (.lit (.bool r)):=by
 unfold F.f109 at hF
 refine zH func149 (by kernel_rfl) rfl ntmps149 (by simp) ?_
 revert hF;refine kS ?_ ?_<;>intro h1 q2 hF
 ·have z3:(4<(w.length:Int)):=auz
  cases hF
  exact kc2 h1 z3
 ·have z3:¬(4<(w.length:Int)):=auz
  refine kx3 h1 q2 z3 ?_
  refine AMake.go fun b1 hb1=> ?_
  refine kx0 ?_
  refine AMake.go fun b2 hb2=> ?_
  simp at hb2
  refine kx1 hb2 ?_
  apply oB hF;intro o'44 ho43 hF
  refine MLoop.goU ⟨[(0,.arr (zB yC w)),(3,.lit (.map (some b1))),(4,.lit (.map (some b2))),(14,.arr (zB yC w)),(15,.lit (.int .i64 (w.length:Int))),(16,.lit (.int .i64 0))],[]⟩ (gT (by simp) (by simp_all)) ?_
  refine((CC.f108 B hB1 hB2 w) [] [] 0 o'44 ho43) b1 b2 hb2 _ rfl _ ?_
  rcases o'44 with r046|sx45
  ·dsimp only at hF
   cases hF
   intro st h ms
   simpa using h
  ·dsimp only at hF
   cases hF
   exact kc0
theorem C.f110 (w:List yB)(t:Ty)(r:Bool)(hF:F.f110 w t=some r):PureCall zQ B 150 [am yC w,.agg [li t.data,li t.index]] (.lit (.bool r)):=by
 unfold F.f110 at hF
 refine zG func150 rfl ntmps150 ?_
 revert hF;refine kN (fun h1 q2 hF=> ?_) (fun h1 q2 hF=> ?_)
 ·refine kx2 h1 q2 ?_
  apply oB hF;intro v e3 hF
  refine((C.f98 B hB1 hB2 t.data 0 (i64.wrap ((w.length:Int) -1)) v e3)).goI ?_
  refine kx2 h1 q2 ?_
  revert hF;refine aS (fun h4 q5 hF=> ?_) (fun h4 q5 hF=> ?_)
  ·refine kx3 h1 q2 h4 ?_
   apply oB hF;intro v6 e7 hF
   refine((C.f98 B hB1 hB2 t.index 0 3 v6 e7)).goI ?_
   cases hF
   exact kc3 h1 q2 h4
  ·cases hF
   exact kc4 h1 q2 h4 q5
 ·cases hF
  exact kc2 h1 q2
theorem C.f111 (w:List yB)(t:Ty)(r:Bool)(hF:F.f111 w t=some r):PureCall zQ B 115 [am yC w,.agg [li t.data,li t.index]] (.lit (.bool r)):=by
 unfold F.f111 at hF
 refine zG func115 rfl ntmps115 ?_
 refine kB hF fun v e1 hF=> ?_
 refine((C.f109 B hB1 hB2 w v e1)).goI ?_
 revert hF;refine kS (fun h2 q3 hF=> ?_) (fun h2 q3 hF=> ?_)
 ·refine kx1 h2 ?_
  apply oB hF;intro v4 e5 hF
  refine((C.f110 B hB1 hB2 w t v4 e5)).goI ?_
  cases hF
  exact kc1 h2
 ·cases hF
  exact kc2 h2 q3
theorem C.f112 (p:Pattern)(ctor:Bool)(numbers:Bool)(variable':Bool)(kids:Int)(r:Bool)(hF:F.f112 p ctor numbers variable' kids=some r):PureCall zQ B 214 [.agg [li p.op,li p.ctor,li p.n,li p.m,li p.var,am yI p.kids],.lit (.bool ctor),.lit (.bool numbers),.lit (.bool variable'),li kids] (.lit (.bool r)):=by
 unfold F.f112 at hF
 refine zG func214 rfl ntmps214 ?_
 revert hF;refine kN (fun h1 q2 hF=> ?_) (fun h1 q2 hF=> ?_)
 ·refine kx2 h1 q2 ?_
  revert hF;refine aS ?_ ?_<;>intro h3 q4 hF
  ·refine kx3 h1 q2 h3 ?_
   revert hF;refine aN (fun h5 q6 hF=> ?_) (fun h5 q6 hF=> ?_)
   ·refine kx5 h1 q2 h3 h5 q6 ?_
    revert hF;refine aS ?_ ?_<;>intro h7 q8 hF
    ·refine kx6 h1 q2 h3 h5 q6 h7 ?_
     revert hF;refine aS ?_ ?_<;>intro h9 q10 hF
     ·refine kx7 h1 q2 h3 h5 q6 h7 h9 ?_
      revert hF;refine aN (fun h11 q12 hF=> ?_) (fun h11 q12 hF=> ?_)
      ·refine kx9 h1 q2 h3 h5 q6 h7 h9 h11 q12 ?_
       revert hF;refine aS ?_ ?_<;>intro h13 q14 hF
       ·cases hF
        repeat first|refine cg ?_|simp -dsimp[h1,q2,h3,h5,q6,h7,h9,h11,q12,h13]
       ·cases hF
        repeat first|refine cg ?_|simp -dsimp[h1,q2,h3,h5,q6,h7,h9,h11,q12,h13,q14]
      ·cases hF
       exact kc9 h1 q2 h3 h5 q6 h7 h9 h11 q12
     ·cases hF
      exact kc8 h1 q2 h3 h5 q6 h7 h9 q10
    ·cases hF
     exact kc7 h1 q2 h3 h5 q6 h7 q8
   ·refine kx5 h1 q2 h3 h5 q6 ?_
    revert hF;refine aN (fun h15 q16 hF=> ?_) (fun h15 q16 hF=> ?_)
    ·refine kx7 h1 q2 h3 h5 q6 h15 q16 ?_
     revert hF;refine aS ?_ ?_<;>intro h17 q18 hF
     ·cases hF
      exact kc8 h1 q2 h3 h5 q6 h15 q16 h17
     ·cases hF
      exact kc9 h1 q2 h3 h5 q6 h15 q16 h17 q18
    ·cases hF
     exact kc7 h1 q2 h3 h5 q6 h15 q16
  ·cases hF
   exact kc4 h1 q2 h3 q4
 ·refine kx2 h1 q2 ?_
  revert hF;refine aN (fun h19 q20 hF=> ?_) (fun h19 q20 hF=> ?_)
  ·refine kx4 h1 q2 h19 q20 ?_
   revert hF;refine aS ?_ ?_<;>intro h21 q22 hF
   ·refine kx5 h1 q2 h19 q20 h21 ?_
    revert hF;refine aS ?_ ?_<;>intro h23 q24 hF
    ·refine kx6 h1 q2 h19 q20 h21 h23 ?_
     revert hF;refine aN (fun h25 q26 hF=> ?_) (fun h25 q26 hF=> ?_)
     ·refine kx8 h1 q2 h19 q20 h21 h23 h25 q26 ?_
      revert hF;refine aS ?_ ?_<;>intro h27 q28 hF
      ·cases hF
       exact kc9 h1 q2 h19 q20 h21 h23 h25 q26 h27
      ·cases hF
       repeat first|refine cg ?_|simp -dsimp[h1,q2,h19,q20,h21,h23,h25,q26,h27,q28]
     ·cases hF
      exact kc8 h1 q2 h19 q20 h21 h23 h25 q26
    ·cases hF
     exact kc7 h1 q2 h19 q20 h21 h23 q24
   ·cases hF
    exact kc6 h1 q2 h19 q20 h21 q22
  ·refine kx4 h1 q2 h19 q20 ?_
   revert hF;refine aN (fun h29 q30 hF=> ?_) (fun h29 q30 hF=> ?_)
   ·refine kx6 h1 q2 h19 q20 h29 q30 ?_
    revert hF;refine aS ?_ ?_<;>intro h31 q32 hF
    ·cases hF
     exact kc7 h1 q2 h19 q20 h29 q30 h31
    ·cases hF
     exact kc8 h1 q2 h19 q20 h29 q30 h31 q32
   ·cases hF
    exact kc6 h1 q2 h19 q20 h29 q30
theorem C.f113 (v:Int)(r:Bool)(hF:F.f113 v=some r):PureCall zQ B 215 [li v] (.lit (.bool r)):=by
 unfold F.f113 at hF
 refine zG func215 rfl ntmps215 ?_
 refine kB hF fun v1 e2 hF=> ?_
 refine((C.f98 B hB1 hB2 v 0 5 v1 e2)).goI ?_
 cases hF
 exact kc0
theorem CC.f114 (t:Ty)(x:yB):(∀(i:Nat) (out:List Int) (o:List Int),F.f114 t x i out=some o->∀(c:Code),ZS [1,1,0,1,0,1,0,0] (ZH Tryz.f126)=some c->∀(Q:Exit->ASt->Prop),(Q (.exit 0) ⟨[(5,.own 1 (zA (α:=Int) o))],[.dead,.elems 1 (zB cI o)]⟩)->ALoopU zQ B 0 44 (hold c .mk) ⟨[(3,.ptr 0 0),(5,.own 1 (zA (α:=Int) out)),(16,am yD x.ctors),(17,li (x.ctors.length:Int)),(18,li (i:Int))],[.cells [li t.data,li t.index],.elems 1 (zB cI out)]⟩ (hold Q .mk)):=by
 refine F.f114.partial_correctness t x
  _
  ?_
 ·intro _f_f114 ih_f114 i out o hF
  refine ZJ rfl fun Q hq hk hs=> ?_
  have b16:=hk 16
  simp -dsimp at b16
  have d1:=hs 1 _ rfl
  simp -dsimp[zR]at d1
  clear hk hs
  refine eN ?_
  revert hF;refine kS ?_ ?_<;>intro h4 q5 hF
  ·have z6:((i:Int)<(x.ctors.length:Int)):=auz
   apply oB hF;intro x7 e8 hF
   have le8:=ZA e8
   refine ZW h4 z6 e8 ?_
   revert hF;refine aN ?_ ?_<;>intro h9 q10 hF
   ·refine kx2 h9 q10 ?_
    revert hF;refine aN ?_ ?_<;>intro h11 q12 hF
    ·refine kx2 h11 q12 ?_
     revert hF;refine aS ?_ ?_<;>intro h13 q14 hF
     ·apply oC hF;intro c15 hF
      have w16:i64.wrap ((i:Int)+1)=(i:Int)+1:=ZC (by omega) (by omega)
      refine kx2 h13 w16 ?_
      refine zS ((ih_f114 (i+1) (out++[(i:Int)]) o hF) _ rfl _ hq)
     ·have w17:i64.wrap ((i:Int)+1)=(i:Int)+1:=ZC (by omega) (by omega)
      refine kx3 h13 q14 w17 ?_
      refine zS ((ih_f114 (i+1) out o hF) _ rfl _ hq)
    ·apply oC hF;intro c18 hF
     have w19:i64.wrap ((i:Int)+1)=(i:Int)+1:=ZC (by omega) (by omega)
     repeat first|refine cg ?_|simp -dsimp[h4,z6,↓e8,h9,q10,h11,q12,w19]
     refine zS ((ih_f114 (i+1) (out++[(i:Int)]) o hF) _ rfl _ hq)
   ·apply oC hF;intro c20 hF
    have w21:i64.wrap ((i:Int)+1)=(i:Int)+1:=ZC (by omega) (by omega)
    repeat first|refine cg ?_|simp -dsimp[h4,z6,↓e8,h9,q10,w21]
    refine zS ((ih_f114 (i+1) (out++[(i:Int)]) o hF) _ rfl _ hq)
  ·have z6:¬((i:Int)<(x.ctors.length:Int)):=auz
   cases hF
   refine kx3 h4 q5 z6 ?_
   refine zT hq
theorem C.f115 (w:List yB)(t:Ty)(r:List Int)(hF:F.f115 w t=some r):PureCall zQ B 126 [am yC w,.agg [li t.data,li t.index]] (am cI r):=by
 unfold F.f115 at hF
 refine zG func126 rfl ntmps126 ?_
 revert hF;refine kN ?_ ?_<;>intro h1 q2 hF
 ·apply oB hF;intro x e3a hF
  have e3a:=ZQ e3a;obtain⟨ne3,e3⟩:=e3a
  have le3:=ZA e3
  refine ZW h1 q2 e3 ?_
  apply oB hF;intro o' ho22 hF
  refine zV ⟨[(3,.ptr 0 0),(5,.own 1 (zA (α:=Int) [])),(16,.arr (zB yD x.ctors)),(17,.lit (.int .i64 (x.ctors.length:Int))),(18,.lit (.int .i64 0))],[.cells [.lit (.int .i64 t.data),.lit (.int .i64 t.index)],.elems 1 (zB cI [])]⟩ (by refine zX (zZ 5 1 (by simp -dsimp)) ?_;exact(gT (by simp) (by simp_all))) ?_
  refine((CC.f114 B hB1 hB2 t x) 0 [] o' ho22) _ rfl _ ?_
  cases hF
  exact kc0
 ·cases hF
  exact kc2 h1 q2
theorem CC.f116 (s:List Int)(v:Int):(∀(i:Nat) (o:Lo Int Unit),F.f116 s v i=some o->∀(c:Code),ZS [1,0,1,0,0] (ZH Tryz.f165)=some c->∀(Q:Exit->ASt->Prop),o.post (fun r=>∀st,ZAG zQ Tryz.f165 (fun r' _=>r'.le (li r)) .ret st->Q .ret st) (fun s=>Q (.exit 0) ⟨[],[]⟩)->ALoopU zQ B 0 19 (hold c .mk) ⟨[(0,am cI s),(1,li v),(7,li (s.length:Int)),(8,li (i:Int))],[]⟩ (hold Q .mk)):=by
 refine F.f116.partial_correctness s v
  _
  ?_
 ·intro _f_f116 ih_f116 i o hF
  refine ZJ rfl fun Q hq hk hs=> ?_
  have b0:=hk 0
  simp -dsimp at b0
  clear hk hs
  refine eN ?_
  revert hF;refine kS ?_ ?_<;>intro h1 q2 hF
  ·have z3:((i:Int)<(s.length:Int)):=auz
   apply oB hF;intro x e4 hF
   have le4:=ZA e4
   refine ZW h1 z3 e4 ?_
   revert hF;refine aS ?_ ?_<;>intro h5 q6 hF
   ·cases hF
    refine kx1 h5 ?_
    refine lG _ (gR _) (hq _ ?_)
    exact kc0
   ·have w7:i64.wrap ((i:Int)+1)=(i:Int)+1:=ZC (by omega) (by omega)
    refine kx2 q6 w7 ?_
    refine zS ((ih_f116 (i+1) o hF) _ rfl _ hq)
  ·have z3:¬((i:Int)<(s.length:Int)):=auz
   cases hF
   refine kx3 h1 q2 z3 ?_
   refine zT hq
theorem C.f117 (s:List Int)(v:Int)(r:Int)(hF:F.f117 s v=some r):PureCall zQ B 165 [am cI s,li v] (li r):=by
 unfold F.f117 at hF
 refine zG func165 rfl ntmps165 ?_
 refine kB hF fun o' ho8 hF=> ?_
 refine zU (((CC.f116 B hB1 hB2 s v) 0 o' ho8) _ rfl _ ?_)
 rcases o' with r0|sx
 ·dsimp only at hF
  cases hF
  intro st h
  simpa using h
 ·dsimp only at hF
  cases hF
  exact kc0
theorem C.f118 (s:List Int)(v:Int)(r:Bool)(hF:F.f118 s v=some r):PureCall zQ B 125 [am cI s,li v] (.lit (.bool r)):=by
 unfold F.f118 at hF
 refine zG func125 rfl ntmps125 ?_
 refine kB hF fun v1 e2 hF=> ?_
 refine((C.f117 B hB1 hB2 s v v1 e2)).goI ?_
 cases hF
 exact kc0
theorem CC.f119 (t:Ty)(x2:Ctor):(∀(i:Nat) (out:List Ty) (o:List Ty),F.f119 t x2 i out=some o->∀(c:Code),ZS [1,1,1,1,1,0,1,0,0] (ZH Tryz.f127)=some c->∀(Q:Exit->ASt->Prop),(Q (.exit 0) ⟨[(9,.own 2 (zA (α:=Ty) o))],[.dead,.dead,.elems 2 (zB zW o)]⟩)->ALoopU zQ B 0 45 (hold c .mk) ⟨[(8,li t.index),(9,.own 2 (zA (α:=Ty) out)),(28,am zW x2.args),(29,li (x2.args.length:Int)),(30,li (i:Int))],[.dead,.dead,.elems 2 (zB zW out)]⟩ (hold Q .mk)):=by
 refine F.f119.partial_correctness t x2
  _
  ?_
 ·intro _f_f119 ih_f119 i out o hF
  refine ZJ rfl fun Q hq hk hs=> ?_
  have b28:=hk 28
  simp -dsimp at b28
  have d2:=hs 2 _ rfl
  simp -dsimp[zR]at d2
  clear hk hs
  refine eN ?_
  revert hF;refine kS ?_ ?_<;>intro h6 q7 hF
  ·have z8:((i:Int)<(x2.args.length:Int)):=auz
   apply oB hF;intro x9 e10 hF
   have le10:=ZA e10
   refine ZW h6 z8 e10 ?_
   revert hF;refine aS ?_ ?_<;>intro h11 q12 hF
   ·apply oC hF;intro c13 hF
    have w14:i64.wrap ((i:Int)+1)=(i:Int)+1:=ZC (by omega) (by omega)
    refine kx2 h11 w14 ?_
    refine zS ((ih_f119 (i+1) (out++[(⟨x9.data,t.index⟩:Ty)]) o hF) _ rfl _ hq)
   ·apply oC hF;intro c15 hF
    have w16:i64.wrap ((i:Int)+1)=(i:Int)+1:=ZC (by omega) (by omega)
    refine kx3 h11 q12 w16 ?_
    refine zS ((ih_f119 (i+1) (out++[x9]) o hF) _ rfl _ hq)
  ·have z8:¬((i:Int)<(x2.args.length:Int)):=auz
   cases hF
   refine kx3 h6 q7 z8 ?_
   refine zT hq
theorem CC.f120 (x2:Ctor):(∀(i18:Nat) (out19:List Ty) (o:List Ty),F.f120 x2 i18 out19=some o->∀(c:Code),ZS [1,1,1,1,1,0,1,0,0] (ZH Tryz.f127)=some c->∀(Q:Exit->ASt->Prop),(Q (.exit 0) ⟨[(9,.own 2 (zA (α:=Ty) o))],[.dead,.dead,.elems 2 (zB zW o)]⟩)->ALoopU zQ B 0 45 (hold c .mk) ⟨[(8,li x2.index),(9,.own 2 (zA (α:=Ty) out19)),(28,am zW x2.args),(29,li (x2.args.length:Int)),(30,li (i18:Int))],[.dead,.dead,.elems 2 (zB zW out19)]⟩ (hold Q .mk)):=by
 refine F.f120.partial_correctness x2
  _
  ?_
 ·intro _f_f120 ih_f120 i18 out19 o hF
  refine ZJ rfl fun Q hq hk hs=> ?_
  have b28:=hk 28
  simp -dsimp at b28
  have d2:=hs 2 _ rfl
  simp -dsimp[zR]at d2
  clear hk hs
  refine eN ?_
  revert hF;refine kS ?_ ?_<;>intro h20 q21 hF
  ·have z22:((i18:Int)<(x2.args.length:Int)):=auz
   apply oB hF;intro x23 e24 hF
   have le24:=ZA e24
   refine ZW h20 z22 e24 ?_
   revert hF;refine aS ?_ ?_<;>intro h25 q26 hF
   ·apply oC hF;intro c27 hF
    have w28:i64.wrap ((i18:Int)+1)=(i18:Int)+1:=ZC (by omega) (by omega)
    refine kx2 h25 w28 ?_
    refine zS ((ih_f120 (i18+1) (out19++[(⟨x23.data,x2.index⟩:Ty)]) o hF) _ rfl _ hq)
   ·apply oC hF;intro c29 hF
    have w30:i64.wrap ((i18:Int)+1)=(i18:Int)+1:=ZC (by omega) (by omega)
    refine kx3 h25 q26 w30 ?_
    refine zS ((ih_f120 (i18+1) (out19++[x23]) o hF) _ rfl _ hq)
  ·have z22:¬((i18:Int)<(x2.args.length:Int)):=auz
   cases hF
   refine kx3 h20 q21 z22 ?_
   refine zT hq
theorem C.f121 (w:List yB)(t:Ty)(ctor:Int)(r:List Ty)(hF:F.f121 w t ctor=some r):PureCall zQ B 127 [am yC w,.agg [li t.data,li t.index],li ctor] (am zW r):=by
 unfold F.f121 at hF
 refine zG func127 rfl ntmps127 ?_
 apply oB hF;intro x e1a hF
 have e1a:=ZQ e1a;obtain⟨ne1,e1⟩:=e1a
 have le1:=ZA e1
 apply oB hF;intro x2 e3a hF
 have e3a:=ZQ e3a;obtain⟨ne3,e3⟩:=e3a
 have le3:=ZA e3
 refine ZEQ e1 e3 ?_
 revert hF;refine aS ?_ ?_<;>intro h4 q5 hF
 ·refine kx1 h4 ?_
  apply oB hF;intro o' ho17 hF
  refine zV ⟨[(8,.lit (.int .i64 t.index)),(9,.own 2 (zA (α:=Ty) [])),(28,.arr (zB zW x2.args)),(29,.lit (.int .i64 (x2.args.length:Int))),(30,.lit (.int .i64 0))],[.dead,.dead,.elems 2 (zB zW [])]⟩ (by refine zX (zZ 9 2 (by simp -dsimp)) ?_;exact(gT (by simp) (by simp_all))) ?_
  refine((CC.f119 B hB1 hB2 t x2) 0 [] o' ho17) _ rfl _ ?_
  cases hF
  exact kc0
 ·refine kx1 q5 ?_
  apply oB hF;intro o'32 ho31 hF
  refine zV ⟨[(8,.lit (.int .i64 x2.index)),(9,.own 2 (zA (α:=Ty) [])),(28,.arr (zB zW x2.args)),(29,.lit (.int .i64 (x2.args.length:Int))),(30,.lit (.int .i64 0))],[.dead,.dead,.elems 2 (zB zW [])]⟩ (by refine zX (zZ 9 2 (by simp -dsimp)) ?_;exact(gT (by simp) (by simp_all))) ?_
  refine((CC.f120 B hB1 hB2 x2) 0 [] o'32 ho31) _ rfl _ ?_
  cases hF
  exact kc0
theorem C.f122 (w:List yB)(t:Ty)(p:Pattern)(r:(List Ty)×Bool)(hF:F.f122 w t p=some r):PureCall zQ B 204 [am yC w,.agg [li t.data,li t.index],.agg [li p.op,li p.ctor,li p.n,li p.m,li p.var,am yI p.kids]] (.tup [am zW r.1,.lit (.bool r.2)]):=by
 unfold F.f122 at hF
 refine zG func204 rfl ntmps204 ?_
 revert hF;refine kS ?_ ?_<;>intro h1 q2 hF
 ·refine kx1 h1 ?_
  apply oB hF;intro v e3 hF
  refine((C.f112 B hB1 hB2 p false false false 0 v e3)).goI ?_
  cases hF
  exact kc1 h1
 ·refine kx2 h1 q2 ?_
  revert hF;refine aS ?_ ?_<;>intro h4 q5 hF
  ·refine kx3 h1 q2 h4 ?_
   apply oB hF;intro v6 e7 hF
   refine((C.f112 B hB1 hB2 p false false true 0 v6 e7)).goI ?_
   refine kx3 h1 q2 h4 ?_
   revert hF;refine aS (fun h8 q9 hF=> ?_) (fun h8 q9 hF=> ?_)
   ·refine kx4 h1 q2 h4 h8 ?_
    apply oB hF;intro v10 e11 hF
    refine((C.f113 B hB1 hB2 p.var v10 e11)).goI ?_
    cases hF
    exact kc4 h1 q2 h4 h8
   ·cases hF
    exact kc5 h1 q2 h4 h8 q9
  ·refine kx4 h1 q2 h4 q5 ?_
   revert hF;refine aS ?_ ?_<;>intro h12 q13 hF
   ·refine kx5 h1 q2 h4 q5 h12 ?_
    refine zM follows ?_
    refine kx5 h1 q2 h4 q5 h12 ?_
    revert hF;refine aS ?_ ?_<;>intro h14 q15 hF
    ·refine kx6 h1 q2 h4 q5 h12 h14 ?_
     apply oB hF;intro v16 e17 hF
     refine((C.f112 B hB1 hB2 p false true false 0 v16 e17)).pgoW (by simp[h1,q2,h4,q5,h12,h14]) (by simp) ?_
     refine kx6 h1 q2 h4 q5 h12 h14 ?_
     revert hF;refine aS (fun h18 q19 hF=> ?_) (fun h18 q19 hF=> ?_)
     ·refine kx7 h1 q2 h4 q5 h12 h14 h18 ?_
      revert hF;refine aS ?_ ?_<;>intro h20 q21 hF
      ·refine kx8 h1 q2 h4 q5 h12 h14 h18 h20 ?_
       revert hF;refine aS ?_ ?_<;>intro h22 q23 hF
       ·cases hF
        exact kc9 h1 q2 h4 q5 h12 h14 h18 h20 h22
       ·cases hF
        repeat first|refine cg ?_|simp -dsimp[h1,q2,h4,q5,h12,h14,h18,h20,h22,q23]
      ·cases hF
       exact kc9 h1 q2 h4 q5 h12 h14 h18 h20 q21
     ·cases hF
      exact kc8 h1 q2 h4 q5 h12 h14 h18 q19
    ·cases hF
     exact kc7 h1 q2 h4 q5 h12 h14 q15
   ·refine kx6 h1 q2 h4 q5 h12 q13 ?_
    revert hF;refine aS ?_ ?_<;>intro h24 q25 hF
    ·refine kx7 h1 q2 h4 q5 h12 q13 h24 ?_
     refine zM follows ?_
     refine kx7 h1 q2 h4 q5 h12 q13 h24 ?_
     apply oB hF;intro v26 e27 hF
     refine((C.f115 B hB1 hB2 w t v26 e27)).pgoW (by simp[h1,q2,h4,q5,h12,q13,h24]) (by simp) ?_
     refine kx7 h1 q2 h4 q5 h12 q13 h24 ?_
     apply oB hF;intro v28 e29 hF
     refine((C.f118 B hB1 hB2 v26 p.ctor v28 e29)).pgoW (by simp[h1,q2,h4,q5,h12,q13,h24]) (by simp) ?_
     refine kx7 h1 q2 h4 q5 h12 q13 h24 ?_
     revert hF;refine aN (fun h30 q31 hF=> ?_) (fun h30 q31 hF=> ?_)
     ·cases hF
      exact kc9 h1 q2 h4 q5 h12 q13 h24 h30 q31
     ·refine kx9 h1 q2 h4 q5 h12 q13 h24 h30 q31 ?_
      apply oB hF;intro v32 e33 hF
      refine((C.f121 B hB1 hB2 w t p.ctor v32 e33)).goI ?_
      refine kx9 h1 q2 h4 q5 h12 q13 h24 h30 q31 ?_
      apply oB hF;intro v34 e35 hF
      refine((C.f112 B hB1 hB2 p true false false (v32.length:Int) v34 e35)).goI ?_
      cases hF
      exact kc9 h1 q2 h4 q5 h12 q13 h24 h30 q31
    ·refine kx8 h1 q2 h4 q5 h12 q13 h24 q25 ?_
     revert hF;refine aS ?_ ?_<;>intro h36 q37 hF
     ·refine kx9 h1 q2 h4 q5 h12 q13 h24 q25 h36 ?_
      refine zL [] [(0,0),(0,0),(0,1),(0,1),(0,1),(1,1),(1,1)] [1,1,1,2,1,1,1] follows ?_
      refine kx9 h1 q2 h4 q5 h12 q13 h24 q25 h36 ?_
      apply oB hF;intro v38 e39 hF
      refine((C.f112 B hB1 hB2 p false false false 2 v38 e39)).pgoW (by simp[h1,q2,h4,q5,h12,q13,h24,q25,h36]) (by simp) ?_
      cases hF
      exact kc9 h1 q2 h4 q5 h12 q13 h24 q25 h36
     ·repeat first|refine cg ?_|simp -dsimp[h1,q2,h4,q5,h12,q13,h24,q25,h36,q37]
      revert hF;refine aS ?_ ?_<;>intro h40 q41 hF
      ·repeat first|refine cg ?_|simp -dsimp[h1,q2,h4,q5,h12,q13,h24,q25,h36,q37,h40]
       refine zL [] [(0,0),(0,1),(0,1),(0,1),(0,1),(0,1),(0,1),(0,1),(0,1),(1,1),(1,1)] [1,1,2,1,1,0,2,1,1,1,1] follows ?_
       repeat first|refine cg ?_|simp -dsimp[h1,q2,h4,q5,h12,q13,h24,q25,h36,q37,h40]
       apply oB hF;intro v42 e43 hF
       refine((C.f112 B hB1 hB2 p false false true 1 v42 e43)).pgoW (by simp[h1,q2,h4,q5,h12,q13,h24,q25,h36,q37,h40]) (by simp) ?_
       repeat first|refine cg ?_|simp -dsimp[h1,q2,h4,q5,h12,q13,h24,q25,h36,q37,h40]
       revert hF;refine aS (fun h44 q45 hF=> ?_) (fun h44 q45 hF=> ?_)
       ·repeat first|refine cg ?_|simp -dsimp[h1,q2,h4,q5,h12,q13,h24,q25,h36,q37,h40,h44]
        apply oB hF;intro v46 e47 hF
        refine((C.f113 B hB1 hB2 p.var v46 e47)).pgoW (by simp[h1,q2,h4,q5,h12,q13,h24,q25,h36,q37,h40,h44]) (by simp) ?_
        cases hF
        repeat first|refine cg ?_|simp -dsimp[h1,q2,h4,q5,h12,q13,h24,q25,h36,q37,h40,h44]
       ·skip
        cases hF
        repeat first|refine cg ?_|simp -dsimp[h1,q2,h4,q5,h12,q13,h24,q25,h36,q37,h40,h44,q45]
      ·cases hF
       repeat first|refine cg ?_|simp -dsimp[h1,q2,h4,q5,h12,q13,h24,q25,h36,q37,h40,q41]
theorem CC.f123 (s:List VarType)(v:VarType):(∀(i:Nat) (o:Lo Int Unit),F.f123 s v i=some o->∀(c:Code),ZS [1,0,1,0,0] (ZH Tryz.f206)=some c->∀(Q:Exit->ASt->Prop),o.post (fun r=>∀st,ZAG zQ Tryz.f206 (fun r' _=>r'.le (li r)) .ret st->Q .ret st) (fun s=>Q (.exit 0) ⟨[],[]⟩)->ALoopU zQ B 0 19 (hold c .mk) ⟨[(0,am yJ s),(3,.ptr 0 0),(7,li (s.length:Int)),(8,li (i:Int))],[.cells [li v.var,li v.type.data,li v.type.index]]⟩ (hold Q .mk)):=by
 refine F.f123.partial_correctness s v
  _
  ?_
 ·intro _f_f123 ih_f123 i o hF
  refine ZJ rfl fun Q hq hk hs=> ?_
  have b0:=hk 0
  simp -dsimp at b0
  clear hk hs
  refine eN ?_
  revert hF;refine kS ?_ ?_<;>intro h1 q2 hF
  ·have z3:((i:Int)<(s.length:Int)):=auz
   refine kx2 h1 z3 ?_
   refine zM follows ?_
   apply oB hF;intro x e4 hF
   have le4:=ZA e4
   refine kdd e4 ?_
   revert hF;refine aS (fun h5 q6 hF=> ?_) (fun h5 q6 hF=> ?_)
   ·cases hF
    refine kx1 h5 ?_
    refine lG _ (gR _) (hq _ ?_)
    exact kc0
   ·have w7:i64.wrap ((i:Int)+1)=(i:Int)+1:=ZC (by omega) (by omega)
    refine kx2 q6 w7 ?_
    refine zS ((ih_f123 (i+1) o hF) _ rfl _ hq)
  ·have z3:¬((i:Int)<(s.length:Int)):=auz
   cases hF
   refine kx3 h1 q2 z3 ?_
   refine zT hq
theorem C.f124 (s:List VarType)(v:VarType)(r:Int)(hF:F.f124 s v=some r):PureCall zQ B 206 [am yJ s,.agg [li v.var,li v.type.data,li v.type.index]] (li r):=by
 unfold F.f124 at hF
 refine zG func206 rfl ntmps206 ?_
 refine kB hF fun o' ho8 hF=> ?_
 refine zU (((CC.f123 B hB1 hB2 s v) 0 o' ho8) _ rfl _ ?_)
 rcases o' with r0|sx
 ·dsimp only at hF
  cases hF
  intro st h
  simpa using h
 ·dsimp only at hF
  cases hF
  exact kc0
theorem C.f125 (s:List VarType)(v:VarType)(r:Bool)(hF:F.f125 s v=some r):PureCall zQ B 183 [am yJ s,.agg [li v.var,li v.type.data,li v.type.index]] (.lit (.bool r)):=by
 unfold F.f125 at hF
 refine zG func183 rfl ntmps183 ?_
 refine kB hF fun v1 e2 hF=> ?_
 refine((C.f124 B hB1 hB2 s v v1 e2)).goI ?_
 cases hF
 exact kc0
theorem C.f126 (v:VarType)(a1:List VarType)(r:Bool)(hF:F.f126 v a1=some r):PureCall zQ B 217 [.agg [li v.var,li v.type.data,li v.type.index],.rptr [am yJ a1] 0] (.lit (.bool r)):=by
 unfold F.f126 at hF
 refine zG func217 rfl ntmps217 ?_
 refine kB hF fun v1 e2 hF=> ?_
 refine((C.f125 B hB1 hB2 a1 v v1 e2)).goI ?_
 cases hF
 exact kc0
theorem CC.f127 (s:List VarType)(k0:List VarType):(∀(i:Nat) (o:Lo Int Unit),F.f127 s k0 i=some o->∀(c:Code),ZS [1,0,1,0,0] (ZH Tryz.f220)=some c->∀(Q:Exit->ASt->Prop),o.post (fun r=>∀st,ZAG zQ Tryz.f220 (fun r' _=>r'.le (li r)) .ret st->Q .ret st) (fun s=>Q (.exit 0) ⟨[],[]⟩)->ALoopU zQ B 0 19 (hold c .mk) ⟨[(0,am yJ s),(1,.fn (.func 217) [] [.rptr [am yJ k0] 0]),(7,li (s.length:Int)),(8,li (i:Int))],[]⟩ (hold Q .mk)):=by
 refine F.f127.partial_correctness s k0
  _
  ?_
 ·intro _f_f127 ih_f127 i o hF
  refine ZJ rfl fun Q hq hk hs=> ?_
  have b0:=hk 0
  simp -dsimp at b0
  clear hk hs
  refine eN ?_
  revert hF;refine kS ?_ ?_<;>intro h1 q2 hF
  ·have z3:((i:Int)<(s.length:Int)):=auz
   apply oB hF;intro x e4 hF
   have le4:=ZA e4
   refine ZW h1 z3 e4 ?_
   apply oB hF;intro v e5 hF
   refine((C.f126 B hB1 hB2 x k0 v e5)).goI ?_
   revert hF;refine kS (fun h6 q7 hF=> ?_) (fun h6 q7 hF=> ?_)
   ·cases hF
    refine kx1 h6 ?_
    refine lG _ (gR _) (hq _ ?_)
    exact kc0
   ·have w8:i64.wrap ((i:Int)+1)=(i:Int)+1:=ZC (by omega) (by omega)
    refine kx2 q7 w8 ?_
    refine zS ((ih_f127 (i+1) o hF) _ rfl _ hq)
  ·have z3:¬((i:Int)<(s.length:Int)):=auz
   cases hF
   refine kx3 h1 q2 z3 ?_
   refine zT hq
theorem C.f128 (s:List VarType)(k0:List VarType)(r:Int)(hF:F.f128 s k0=some r):PureCall zQ B 220 [am yJ s,.fn (.func 217) [] [.rptr [am yJ k0] 0]] (li r):=by
 unfold F.f128 at hF
 refine zG func220 rfl ntmps220 ?_
 refine kB hF fun o' ho9 hF=> ?_
 refine zU (((CC.f127 B hB1 hB2 s k0) 0 o' ho9) _ rfl _ ?_)
 rcases o' with r0|sx
 ·dsimp only at hF
  cases hF
  intro st h
  simpa using h
 ·dsimp only at hF
  cases hF
  exact kc0
theorem C.f129 (s:List VarType)(k0:List VarType)(r:Bool)(hF:F.f129 s k0=some r):PureCall zQ B 216 [am yJ s,.fn (.func 217) [] [.rptr [am yJ k0] 0]] (.lit (.bool r)):=by
 unfold F.f129 at hF
 refine zG func216 rfl ntmps216 ?_
 refine kB hF fun v e1 hF=> ?_
 refine((C.f128 B hB1 hB2 s k0 v e1)).goI ?_
 cases hF
 exact kc0
theorem C.f130 (a:List VarType)(b:List VarType)(r:Bool)(hF:F.f130 a b=some r):PureCall zQ B 205 [am yJ a,am yJ b] (.lit (.bool r)):=by
 unfold F.f130 at hF
 refine zG func205 rfl ntmps205 ?_
 revert hF;refine kS ?_ ?_<;>intro h1 q2 hF
 ·have z3:((a.length:Int)=(b.length:Int)):=auz
  refine kx2 h1 z3 ?_
  apply oB hF;intro v e4 hF
  refine((C.f129 B hB1 hB2 a b v e4)).lend (by simp -dsimp[h1,z3]) (by simp -dsimp) ?_
  cases hF
  exact kc2 h1 z3
 ·have z3:¬((a.length:Int)=(b.length:Int)):=auz
  cases hF
  exact kc3 h1 q2 z3
theorem CC.f131 (sx:Int×(List VarType)):(∀(set':Nat->Bool) (i37:Nat) (o:Lo ((List VarType)×Bool×Int) Unit),F.f131 sx set' i37=some o->∀(c:Code),ZS [1,1,1,1,1,1,1,1,1,0,1,0,0] (ZH Tryz.f182)=some c->∀(Q:Exit->ASt->Prop),o.post (fun r=>∀st,ZAG zQ Tryz.f182 (fun r' σ'=>r'.le (.tup [am yJ r.1,.lit (.bool r.2.1)])/\ZBL σ' [li r.2.2]) .ret st->Q .ret st) (fun s=>Q (.exit 3) ⟨[(14,.own 4 (zA (α:=VarType) sx.2))],[.cells [li sx.1],.dead,.dead,.dead,.elems 3 (zB yJ sx.2)]⟩)->ALoopU zQ B 1 114 (hold c .mk) ⟨[(14,.own 4 (zA (α:=VarType) sx.2)),(19,.ptr 5 0),(99,.own 4 (zA (α:=VarType) sx.2)),(100,li (sx.2.length:Int)),(101,li (i37:Int))],[.cells [li sx.1],.dead,.dead,.dead,.elems 3 (zB yJ sx.2),.cells (fcB 6 set')]⟩ (hold Q .mk)):=by
 refine F.f131.partial_correctness sx
  _
  ?_
 ·intro _f_f131 ih_f131 set' i37 o hF
  refine ZJ rfl fun Q hq hk hs=> ?_
  have d4:=hs 4 _ rfl
  simp -dsimp[zR]at d4
  clear hk hs
  refine eN ?_
  revert hF;refine kS ?_ ?_<;>intro h38 q39 hF
  ·have z40:((i37:Int)<(sx.2.length:Int)):=auz
   apply oB hF;intro x41 e42 hF
   have le42:=ZA e42
   apply oC hF;intro c43 hF
   repeat first|refine cg ?_|simp -dsimp[h38,z40,↓e42,c43]
   revert hF;refine aS (fun h44 q45 hF=> ?_) (fun h44 q45 hF=> ?_)
   ·cases hF
    refine kx1 h44 ?_
    refine lG _ (gR _) (hq _ ?_)
    exact kc0
   ·have w46:i64.wrap ((i37:Int)+1)=(i37:Int)+1:=ZC (by omega) (by omega)
    refine kx2 q45 w46 ?_
    refine zS ((ih_f131 (ZHC set' x41.var.toNat true) (i37+1) o hF) _ rfl _ hq)
  ·have z40:¬((i37:Int)<(sx.2.length:Int)):=auz
   cases hF
   refine kx3 h38 q39 z40 ?_
   refine zT hq
theorem CC.f132 (sx81:Int×(List VarType)):(∀(set'82:Nat->Bool) (i83:Nat) (o:Lo ((List VarType)×Bool×Int) Unit),F.f132 sx81 set'82 i83=some o->∀(c:Code),ZS [1,1,1,1,1,1,1,1,1,0,1,0,0] (ZH Tryz.f182)=some c->∀(Q:Exit->ASt->Prop),o.post (fun r=>∀st,ZAG zQ Tryz.f182 (fun r' σ'=>r'.le (.tup [am yJ r.1,.lit (.bool r.2.1)])/\ZBL σ' [li r.2.2]) .ret st->Q .ret st) (fun s=>Q (.exit 3) ⟨[(14,.own 3 (zA (α:=VarType) sx81.2))],[.cells [li sx81.1],.dead,.dead,.elems 3 (zB yJ sx81.2)]⟩)->ALoopU zQ B 1 114 (hold c .mk) ⟨[(14,.own 3 (zA (α:=VarType) sx81.2)),(19,.ptr 4 0),(99,.own 3 (zA (α:=VarType) sx81.2)),(100,li (sx81.2.length:Int)),(101,li (i83:Int))],[.cells [li sx81.1],.dead,.dead,.elems 3 (zB yJ sx81.2),.cells (fcB 6 set'82)]⟩ (hold Q .mk)):=by
 refine F.f132.partial_correctness sx81
  _
  ?_
 ·intro _f_f132 ih_f132 set'82 i83 o hF
  refine ZJ rfl fun Q hq hk hs=> ?_
  have d3:=hs 3 _ rfl
  simp -dsimp[zR]at d3
  clear hk hs
  refine eN ?_
  revert hF;refine kS ?_ ?_<;>intro h84 q85 hF
  ·have z86:((i83:Int)<(sx81.2.length:Int)):=auz
   apply oB hF;intro x87 e88 hF
   have le88:=ZA e88
   apply oC hF;intro c89 hF
   repeat first|refine cg ?_|simp -dsimp[h84,z86,↓e88,c89]
   revert hF;refine aS (fun h90 q91 hF=> ?_) (fun h90 q91 hF=> ?_)
   ·cases hF
    refine kx1 h90 ?_
    refine lG _ (gR _) (hq _ ?_)
    exact kc0
   ·have w92:i64.wrap ((i83:Int)+1)=(i83:Int)+1:=ZC (by omega) (by omega)
    refine kx2 q91 w92 ?_
    refine zS ((ih_f132 (ZHC set'82 x87.var.toNat true) (i83+1) o hF) _ rfl _ hq)
  ·have z86:¬((i83:Int)<(sx81.2.length:Int)):=auz
   cases hF
   refine kx3 h84 q85 z86 ?_
   refine zT hq
theorem CC.f133 (sx128:Int×(List VarType)):(∀(set'129:Nat->Bool) (i130:Nat) (o:Lo ((List VarType)×Bool×Int) Unit),F.f133 sx128 set'129 i130=some o->∀(c:Code),ZS [1,1,1,1,1,1,1,1,1,0,1,0,0] (ZH Tryz.f182)=some c->∀(Q:Exit->ASt->Prop),o.post (fun r=>∀st,ZAG zQ Tryz.f182 (fun r' σ'=>r'.le (.tup [am yJ r.1,.lit (.bool r.2.1)])/\ZBL σ' [li r.2.2]) .ret st->Q .ret st) (fun s=>Q (.exit 3) ⟨[(14,.own 4 (zA (α:=VarType) sx128.2))],[.cells [li sx128.1],.dead,.dead,.dead,.elems 3 (zB yJ sx128.2)]⟩)->ALoopU zQ B 1 114 (hold c .mk) ⟨[(14,.own 4 (zA (α:=VarType) sx128.2)),(19,.ptr 5 0),(99,.own 4 (zA (α:=VarType) sx128.2)),(100,li (sx128.2.length:Int)),(101,li (i130:Int))],[.cells [li sx128.1],.dead,.dead,.dead,.elems 3 (zB yJ sx128.2),.cells (fcB 6 set'129)]⟩ (hold Q .mk)):=by
 refine F.f133.partial_correctness sx128
  _
  ?_
 ·intro _f_f133 ih_f133 set'129 i130 o hF
  refine ZJ rfl fun Q hq hk hs=> ?_
  have d4:=hs 4 _ rfl
  simp -dsimp[zR]at d4
  clear hk hs
  refine eN ?_
  revert hF;refine kS ?_ ?_<;>intro h131 q132 hF
  ·have z133:((i130:Int)<(sx128.2.length:Int)):=auz
   apply oB hF;intro x134 e135 hF
   have le135:=ZA e135
   apply oC hF;intro c136 hF
   repeat first|refine cg ?_|simp -dsimp[h131,z133,↓e135,c136]
   revert hF;refine aS (fun h137 q138 hF=> ?_) (fun h137 q138 hF=> ?_)
   ·cases hF
    refine kx1 h137 ?_
    refine lG _ (gR _) (hq _ ?_)
    exact kc0
   ·have w139:i64.wrap ((i130:Int)+1)=(i130:Int)+1:=ZC (by omega) (by omega)
    refine kx2 q138 w139 ?_
    refine zS ((ih_f133 (ZHC set'129 x134.var.toNat true) (i130+1) o hF) _ rfl _ hq)
  ·have z133:¬((i130:Int)<(sx128.2.length:Int)):=auz
   cases hF
   refine kx3 h131 q132 z133 ?_
   refine zT hq
theorem CC.f134 (w:List yB):(∀(t:Ty) (p:Pattern) (deep:Int) (count:Int) (r:(List VarType)×Bool×Int),F.f134 w t p deep count=some r->MutCall zQ B 182 [li count] [am yC w,.agg [li t.data,li t.index],.agg [li p.op,li p.ctor,li p.n,li p.m,li p.var,am yI p.kids],li deep,.ptr 0 0] (.tup [am yJ r.1,.lit (.bool r.2.1)]) [li r.2.2])/\
  (∀(p:Pattern) (deep:Int) (v:(List Ty)×Bool) (z51:Int) (vars52:List VarType) (i53:Nat) (o:Lo ((List VarType)×Bool×Int) (Int×(List VarType))),F.f136 w p deep v z51 vars52 i53=some o->∀(c:Code),ZS [1,1,1,1,1,1,1,0,1,0,0] (ZH Tryz.f182)=some c->∀(Q:Exit->ASt->Prop),o.post (fun r=>∀st,ZAG zQ Tryz.f182 (fun r' σ'=>r'.le (.tup [am yJ r.1,.lit (.bool r.2.1)])/\ZBL σ' [li r.2.2]) .ret st->Q .ret st) (fun s=>Q (.exit 0) ⟨[(14,.own 3 (zA (α:=VarType) s.2))],[.cells [li s.1],.dead,.dead,.elems 3 (zB yJ s.2)]⟩)->ALoopU zQ B 1 114 (hold c .mk) ⟨[(0,am yC w),(3,li deep),(4,.ptr 0 0),(7,.ptr 2 0),(12,am zW v.1),(14,.own 3 (zA (α:=VarType) vars52)),(60,am yI p.kids),(61,li (p.kids.length:Int)),(62,li (i53:Int))],[.cells [li z51],.dead,.cells [li p.op,li p.ctor,li p.n,li p.m,li p.var,am yI p.kids],.elems 3 (zB yJ vars52)]⟩ (hold Q .mk))/\
  (∀(p:Pattern) (deep:Int) (v:(List Ty)×Bool) (z:Int) (vars:List VarType) (i:Nat) (o:Lo ((List VarType)×Bool×Int) (Int×(List VarType))),F.f135 w p deep v z vars i=some o->∀(c:Code),ZS [1,1,1,1,1,1,1,0,1,0,0] (ZH Tryz.f182)=some c->∀(Q:Exit->ASt->Prop),o.post (fun r=>∀st,ZAG zQ Tryz.f182 (fun r' σ'=>r'.le (.tup [am yJ r.1,.lit (.bool r.2.1)])/\ZBL σ' [li r.2.2]) .ret st->Q .ret st) (fun s=>Q (.exit 0) ⟨[(14,.own 4 (zA (α:=VarType) s.2))],[.cells [li s.1],.dead,.dead,.dead,.elems 3 (zB yJ s.2)]⟩)->ALoopU zQ B 1 114 (hold c .mk) ⟨[(0,am yC w),(3,li deep),(4,.ptr 0 0),(7,.ptr 2 0),(12,am zW v.1),(14,.own 4 (zA (α:=VarType) vars)),(60,am yI p.kids),(61,li (p.kids.length:Int)),(62,li (i:Int))],[.cells [li z],.dead,.cells [li p.op,li p.ctor,li p.n,li p.m,li p.var,am yI p.kids],.dead,.elems 3 (zB yJ vars)]⟩ (hold Q .mk))/\
  (∀(p:Pattern) (deep:Int) (v:(List Ty)×Bool) (z98:Int) (vars99:List VarType) (i100:Nat) (o:Lo ((List VarType)×Bool×Int) (Int×(List VarType))),F.f137 w p deep v z98 vars99 i100=some o->∀(c:Code),ZS [1,1,1,1,1,1,1,0,1,0,0] (ZH Tryz.f182)=some c->∀(Q:Exit->ASt->Prop),o.post (fun r=>∀st,ZAG zQ Tryz.f182 (fun r' σ'=>r'.le (.tup [am yJ r.1,.lit (.bool r.2.1)])/\ZBL σ' [li r.2.2]) .ret st->Q .ret st) (fun s=>Q (.exit 0) ⟨[(14,.own 4 (zA (α:=VarType) s.2))],[.cells [li s.1],.dead,.dead,.dead,.elems 3 (zB yJ s.2)]⟩)->ALoopU zQ B 1 114 (hold c .mk) ⟨[(0,am yC w),(3,li deep),(4,.ptr 0 0),(7,.ptr 2 0),(12,am zW v.1),(14,.own 4 (zA (α:=VarType) vars99)),(60,am yI p.kids),(61,li (p.kids.length:Int)),(62,li (i100:Int))],[.cells [li z98],.dead,.cells [li p.op,li p.ctor,li p.n,li p.m,li p.var,am yI p.kids],.dead,.elems 3 (zB yJ vars99)]⟩ (hold Q .mk)):=by
 refine F.f134.mutual_partial_correctness w
  _ _ _ _
  ?_ ?_ ?_ ?_
 ·intro _f_f136 _f_f135 _f_f137 ih_f136 ih_f135 ih_f137 t p deep count r hF
  refine zI func182 rfl ntmps182 ?_
  revert hF;refine kN ?_ ?_<;>intro h1 q2 hF
  ·refine kx2 h1 q2 ?_
   revert hF;refine aS ?_ ?_<;>intro h3 q4 hF
   ·cases hF
    exact kc3 h1 q2 h3
   ·refine kx4 h1 q2 h3 q4 ?_
    apply oB hF;intro v e5 hF
    refine((C.f122 B hB1 hB2 w t p v e5)).goI ?_
    refine kx4 h1 q2 h3 q4 ?_
    revert hF;refine aN (fun h6 q7 hF=> ?_) (fun h6 q7 hF=> ?_)
    ·cases hF
     exact kc6 h1 q2 h3 q4 h6 q7
    ·refine kx6 h1 q2 h3 q4 h6 q7 ?_
     revert hF;refine aN ?_ ?_<;>intro h8 q9 hF
     ·refine kx8 h1 q2 h3 q4 h6 q7 h8 q9 ?_
      revert hF;refine aS ?_ ?_<;>intro h10 q11 hF
      ·refine kx9 h1 q2 h3 q4 h6 q7 h8 q9 h10 ?_
       apply oB hF;intro o' ho36 hF
       refine zV _ ?_ ((ih_f135 p deep v (i64.wrap (count+1)) [(⟨p.var,t⟩:VarType)] 0 o' ho36) _ rfl _ ?_)
       ·exact(gT (by simp) (by simp -dsimp[h1,q2,h3,q4,h6,q7,h8,q9,h10]))
       rcases o' with r050|sx
       ·dsimp only at hF
        cases hF
        intro st h
        simpa using h
       ·dsimp only at hF
        refine kB hF fun o'48 ho47 hF=> ?_
        refine zV _ ?_ (((CC.f131 B hB1 hB2 sx) (fun _=>false) 0 o'48 ho47) _ rfl _ ?_)
        ·exact(gT (by simp) (by simp -dsimp))
        rcases o'48 with r0|sx49
        ·dsimp only at hF
         cases hF
         intro st h
         simpa using h
        ·dsimp only at hF
         cases hF
         exact kc0
      ·repeat first|refine cg ?_|simp -dsimp[h1,q2,h3,q4,h6,q7,h8,q9,h10,q11]
       apply oB hF;intro o'80 ho79 hF
       refine zV ⟨[(0,.arr (zB yC w)),(3,.lit (.int .i64 deep)),(4,.ptr 0 0),(7,.ptr 2 0),(12,.arr (zB zW v.1)),(14,.own 3 (zA (α:=VarType) [])),(60,.arr (zB yI p.kids)),(61,.lit (.int .i64 (p.kids.length:Int))),(62,.lit (.int .i64 0))],[.cells [.lit (.int .i64 (i64.wrap (count+1)))],.dead,.cells [.lit (.int .i64 p.op),.lit (.int .i64 p.ctor),.lit (.int .i64 p.n),.lit (.int .i64 p.m),.lit (.int .i64 p.var),.arr (zB yI p.kids)],.elems 3 (zB yJ [])]⟩ (by refine zX (zZ 14 3 (by simp -dsimp)) ?_;exact(gT (by simp) (by simp -dsimp[h1,q2,h3,q4,h6,q7,h8,q9,h10,q11]))) ?_
       refine(ih_f136 p deep v (i64.wrap (count+1)) [] 0 o'80 ho79) _ rfl _ ?_
       rcases o'80 with r097|sx81
       ·dsimp only at hF
        cases hF
        intro st h
        simpa using h
       ·dsimp only at hF
        refine kB hF fun o'94 ho93 hF=> ?_
        refine zV _ ?_ (((CC.f132 B hB1 hB2 sx81) (fun _=>false) 0 o'94 ho93) _ rfl _ ?_)
        ·exact(gT (by simp) (by simp -dsimp))
        rcases o'94 with r096|sx95
        ·dsimp only at hF
         cases hF
         intro st h
         simpa using h
        ·dsimp only at hF
         cases hF
         exact kc0
     ·refine kx8 h1 q2 h3 q4 h6 q7 h8 q9 ?_
      apply oB hF;intro o'127 ho126 hF
      refine zV _ ?_ ((ih_f137 p deep v (i64.wrap (count+1)) [(⟨p.var,t⟩:VarType)] 0 o'127 ho126) _ rfl _ ?_)
      ·exact(gT (by simp) (by simp -dsimp[h1,q2,h3,q4,h6,q7,h8,q9]))
      rcases o'127 with r0144|sx128
      ·dsimp only at hF
       cases hF
       intro st h
       simpa using h
      ·dsimp only at hF
       refine kB hF fun o'141 ho140 hF=> ?_
       refine zV _ ?_ (((CC.f133 B hB1 hB2 sx128) (fun _=>false) 0 o'141 ho140) _ rfl _ ?_)
       ·exact(gT (by simp) (by simp -dsimp))
       rcases o'141 with r0143|sx142
       ·dsimp only at hF
        cases hF
        intro st h
        simpa using h
       ·dsimp only at hF
        cases hF
        exact kc0
  ·cases hF
   exact kc2 h1 q2
 ·intro _f_f134 _f_f136 ih_f134 ih_f136 p deep v z51 vars52 i53 o hF
  refine ZJ rfl fun Q hq hk hs=> ?_
  have b0:=hk 0
  simp -dsimp at b0
  have b12:=hk 12
  simp -dsimp at b12
  have b60:=hk 60
  simp -dsimp at b60
  have d2:=hs 2 _ rfl
  simp -dsimp[zR]at d2
  have d3:=hs 3 _ rfl
  simp -dsimp[zR]at d3
  clear hk hs
  refine eN ?_
  revert hF;refine kS ?_ ?_<;>intro h54 q55 hF
  ·have z56:((i53:Int)<(p.kids.length:Int)):=auz
   apply oB hF;intro x57 e58 hF
   have le58:=ZA e58
   refine ZW h54 z56 e58 ?_
   refine zL [182] [(0,0),(0,0),(0,0),(0,0),(0,0),(0,0),(0,0),(0,0),(0,0),(0,1),(1,1),(1,1),(1,1),(1,1),(1,1)] [1,1,1,1,1,1,1,1,1,1,1,1,1,1,1] follows ?_
   apply oB hF;intro x59 e60 hF
   have le60:=ZA e60
   refine ZAS h54 z56 e58 e60 ?_
   apply oB hF;intro v61 e62 hF
   refine((ih_f134 x59 x57 (i64.wrap (deep+1)) z51 v61 e62)).ego 0 rfl (by simp[h54,z56,↓e58,↓e60]) (by simp) (by simp[h54,z56,↓e58,↓e60]) ?_
   refine ZAS h54 z56 e58 e60 ?_
   revert hF;refine aN (fun h63 q64 hF=> ?_) (fun h63 q64 hF=> ?_)
   ·cases hF
    refine ZAA h54 z56 e58 e60 h63 q64 ?_
    refine lG _ (gR _) (hq _ ?_)
    repeat first|refine cg ?_|simp -dsimp[h54,z56,↓e58,↓e60,h63,q64]
   ·refine ZAA h54 z56 e58 e60 h63 q64 ?_
    revert hF;refine aS ?_ ?_<;>intro h65 q66 hF
    ·repeat first|refine cg ?_|simp -dsimp[h54,z56,↓e58,↓e60,h63,q64,h65]
     revert hF;refine aS ?_ ?_<;>intro h67 q68 hF
     ·have z69:((i53:Int)=1):=auz
      repeat first|refine cg ?_|simp -dsimp[h54,z56,↓e58,↓e60,h63,q64,h65,eq_true h67,eq_true z69]
      apply oB hF;intro v70 e71 hF
      refine((C.f130 B hB1 hB2 vars52 v61.1 v70 e71)).lend (by simp -dsimp[h54,z56,↓e58,↓e60,h63,q64,h65,eq_true h67,eq_true z69]) (by simp -dsimp) ?_
      repeat first|refine cg ?_|simp -dsimp[h54,z56,↓e58,↓e60,h63,q64,h65,eq_true h67,eq_true z69]
      revert hF;refine aN (fun h72 q73 hF=> ?_) (fun h72 q73 hF=> ?_)
      ·cases hF
       repeat first|refine cg ?_|simp -dsimp[h54,z56,↓e58,↓e60,h63,q64,h65,eq_true h67,eq_true z69,h72,q73]
       refine lG _ (gR _) (hq _ ?_)
       repeat first|refine cg ?_|simp -dsimp[h54,z56,↓e58,↓e60,h63,q64,h65,eq_true h67,eq_true z69,h72,q73]
      ·have w74:i64.wrap ((i53:Int)+1)=(i53:Int)+1:=ZC (by omega) (by omega)
       repeat first|refine cg ?_|simp -dsimp[h54,z56,↓e58,↓e60,h63,q64,h65,eq_true h67,eq_true z69,h72,q73,w74]
       refine aG _ ?_ ((ih_f136 p deep v v61.2.2 vars52 (i53+1) o hF) _ rfl _ hq)
       exact(gT (by simp) (by simp -dsimp[h54,z56,↓e58,↓e60,h63,q64,h65,eq_true h67,eq_true z69,h72,q73,w74]))
     ·have z69:¬((i53:Int)=1):=auz
      apply oC hF;intro c75 hF
      have w76:i64.wrap ((i53:Int)+1)=(i53:Int)+1:=ZC (by omega) (by omega)
      repeat first|refine cg ?_|simp -dsimp[h54,z56,↓e58,↓e60,h63,q64,h65,h67,q68,z69,w76]
      refine aG _ ?_ ((ih_f136 p deep v v61.2.2 (vars52++v61.1) (i53+1) o hF) _ rfl _ hq)
      exact(gT (by simp) (by simp -dsimp[h54,z56,↓e58,↓e60,h63,q64,h65,h67,q68,z69,w76]))
    ·apply oC hF;intro c77 hF
     have w78:i64.wrap ((i53:Int)+1)=(i53:Int)+1:=ZC (by omega) (by omega)
     repeat first|refine cg ?_|simp -dsimp[h54,z56,↓e58,↓e60,h63,q64,h65,q66,w78]
     refine aG _ ?_ ((ih_f136 p deep v v61.2.2 (vars52++v61.1) (i53+1) o hF) _ rfl _ hq)
     exact(gT (by simp) (by simp -dsimp[h54,z56,↓e58,↓e60,h63,q64,h65,q66,w78]))
  ·have z56:¬((i53:Int)<(p.kids.length:Int)):=auz
   cases hF
   refine kx3 h54 q55 z56 ?_
   refine zT hq
 ·intro _f_f134 _f_f135 ih_f134 ih_f135 p deep v z vars i o hF
  refine ZJ rfl fun Q hq hk hs=> ?_
  have b0:=hk 0
  simp -dsimp at b0
  have b12:=hk 12
  simp -dsimp at b12
  have b60:=hk 60
  simp -dsimp at b60
  have d2:=hs 2 _ rfl
  simp -dsimp[zR]at d2
  have d4:=hs 4 _ rfl
  simp -dsimp[zR]at d4
  clear hk hs
  refine eN ?_
  revert hF;refine kS ?_ ?_<;>intro h12 q13 hF
  ·have z14:((i:Int)<(p.kids.length:Int)):=auz
   apply oB hF;intro x e15 hF
   have le15:=ZA e15
   refine ZW h12 z14 e15 ?_
   refine zL [182] [(0,0),(0,0),(0,0),(0,0),(0,0),(0,0),(0,0),(0,0),(0,0),(0,1),(1,1),(1,1),(1,1),(1,1),(1,1)] [1,1,1,1,1,1,1,1,1,1,1,1,1,1,1] follows ?_
   apply oB hF;intro x16 e17 hF
   have le17:=ZA e17
   refine ZAS h12 z14 e15 e17 ?_
   apply oB hF;intro v18 e19 hF
   refine((ih_f134 x16 x (i64.wrap (deep+1)) z v18 e19)).ego 0 rfl (by simp[h12,z14,↓e15,↓e17]) (by simp) (by simp[h12,z14,↓e15,↓e17]) ?_
   refine ZAS h12 z14 e15 e17 ?_
   revert hF;refine aN (fun h20 q21 hF=> ?_) (fun h20 q21 hF=> ?_)
   ·cases hF
    refine ZAA h12 z14 e15 e17 h20 q21 ?_
    refine lG _ (gR _) (hq _ ?_)
    repeat first|refine cg ?_|simp -dsimp[h12,z14,↓e15,↓e17,h20,q21]
   ·refine ZAA h12 z14 e15 e17 h20 q21 ?_
    revert hF;refine aS ?_ ?_<;>intro h22 q23 hF
    ·repeat first|refine cg ?_|simp -dsimp[h12,z14,↓e15,↓e17,h20,q21,h22]
     revert hF;refine aS ?_ ?_<;>intro h24 q25 hF
     ·have z26:((i:Int)=1):=auz
      repeat first|refine cg ?_|simp -dsimp[h12,z14,↓e15,↓e17,h20,q21,h22,eq_true h24,eq_true z26]
      apply oB hF;intro v27 e28 hF
      refine((C.f130 B hB1 hB2 vars v18.1 v27 e28)).lend (by simp -dsimp[h12,z14,↓e15,↓e17,h20,q21,h22,eq_true h24,eq_true z26]) (by simp -dsimp) ?_
      repeat first|refine cg ?_|simp -dsimp[h12,z14,↓e15,↓e17,h20,q21,h22,eq_true h24,eq_true z26]
      revert hF;refine aN (fun h29 q30 hF=> ?_) (fun h29 q30 hF=> ?_)
      ·cases hF
       repeat first|refine cg ?_|simp -dsimp[h12,z14,↓e15,↓e17,h20,q21,h22,eq_true h24,eq_true z26,h29,q30]
       refine lG _ (gR _) (hq _ ?_)
       repeat first|refine cg ?_|simp -dsimp[h12,z14,↓e15,↓e17,h20,q21,h22,eq_true h24,eq_true z26,h29,q30]
      ·have w31:i64.wrap ((i:Int)+1)=(i:Int)+1:=ZC (by omega) (by omega)
       repeat first|refine cg ?_|simp -dsimp[h12,z14,↓e15,↓e17,h20,q21,h22,eq_true h24,eq_true z26,h29,q30,w31]
       refine aG _ ?_ ((ih_f135 p deep v v18.2.2 vars (i+1) o hF) _ rfl _ hq)
       exact(gT (by simp) (by simp -dsimp[h12,z14,↓e15,↓e17,h20,q21,h22,eq_true h24,eq_true z26,h29,q30,w31]))
     ·have z26:¬((i:Int)=1):=auz
      apply oC hF;intro c32 hF
      have w33:i64.wrap ((i:Int)+1)=(i:Int)+1:=ZC (by omega) (by omega)
      repeat first|refine cg ?_|simp -dsimp[h12,z14,↓e15,↓e17,h20,q21,h22,h24,q25,z26,w33]
      refine aG _ ?_ ((ih_f135 p deep v v18.2.2 (vars++v18.1) (i+1) o hF) _ rfl _ hq)
      exact(gT (by simp) (by simp -dsimp[h12,z14,↓e15,↓e17,h20,q21,h22,h24,q25,z26,w33]))
    ·apply oC hF;intro c34 hF
     have w35:i64.wrap ((i:Int)+1)=(i:Int)+1:=ZC (by omega) (by omega)
     repeat first|refine cg ?_|simp -dsimp[h12,z14,↓e15,↓e17,h20,q21,h22,q23,w35]
     refine aG _ ?_ ((ih_f135 p deep v v18.2.2 (vars++v18.1) (i+1) o hF) _ rfl _ hq)
     exact(gT (by simp) (by simp -dsimp[h12,z14,↓e15,↓e17,h20,q21,h22,q23,w35]))
  ·have z14:¬((i:Int)<(p.kids.length:Int)):=auz
   cases hF
   refine kx3 h12 q13 z14 ?_
   refine zT hq
 ·intro _f_f134 _f_f137 ih_f134 ih_f137 p deep v z98 vars99 i100 o hF
  refine ZJ rfl fun Q hq hk hs=> ?_
  have b0:=hk 0
  simp -dsimp at b0
  have b12:=hk 12
  simp -dsimp at b12
  have b60:=hk 60
  simp -dsimp at b60
  have d2:=hs 2 _ rfl
  simp -dsimp[zR]at d2
  have d4:=hs 4 _ rfl
  simp -dsimp[zR]at d4
  clear hk hs
  refine eN ?_
  revert hF;refine kS ?_ ?_<;>intro h101 q102 hF
  ·have z103:((i100:Int)<(p.kids.length:Int)):=auz
   apply oB hF;intro x104 e105 hF
   have le105:=ZA e105
   refine ZW h101 z103 e105 ?_
   refine zL [182] [(0,0),(0,0),(0,0),(0,0),(0,0),(0,0),(0,0),(0,0),(0,0),(0,1),(1,1),(1,1),(1,1),(1,1),(1,1)] [1,1,1,1,1,1,1,1,1,1,1,1,1,1,1] follows ?_
   apply oB hF;intro x106 e107 hF
   have le107:=ZA e107
   refine ZAS h101 z103 e105 e107 ?_
   apply oB hF;intro v108 e109 hF
   refine((ih_f134 x106 x104 (i64.wrap (deep+1)) z98 v108 e109)).ego 0 rfl (by simp[h101,z103,↓e105,↓e107]) (by simp) (by simp[h101,z103,↓e105,↓e107]) ?_
   refine ZAS h101 z103 e105 e107 ?_
   revert hF;refine aN (fun h110 q111 hF=> ?_) (fun h110 q111 hF=> ?_)
   ·cases hF
    refine ZAA h101 z103 e105 e107 h110 q111 ?_
    refine lG _ (gR _) (hq _ ?_)
    repeat first|refine cg ?_|simp -dsimp[h101,z103,↓e105,↓e107,h110,q111]
   ·refine ZAA h101 z103 e105 e107 h110 q111 ?_
    revert hF;refine aS ?_ ?_<;>intro h112 q113 hF
    ·repeat first|refine cg ?_|simp -dsimp[h101,z103,↓e105,↓e107,h110,q111,h112]
     revert hF;refine aS ?_ ?_<;>intro h114 q115 hF
     ·have z116:((i100:Int)=1):=auz
      repeat first|refine cg ?_|simp -dsimp[h101,z103,↓e105,↓e107,h110,q111,h112,eq_true h114,eq_true z116]
      apply oB hF;intro v117 e118 hF
      refine((C.f130 B hB1 hB2 vars99 v108.1 v117 e118)).lend (by simp -dsimp[h101,z103,↓e105,↓e107,h110,q111,h112,eq_true h114,eq_true z116]) (by simp -dsimp) ?_
      repeat first|refine cg ?_|simp -dsimp[h101,z103,↓e105,↓e107,h110,q111,h112,eq_true h114,eq_true z116]
      revert hF;refine aN (fun h119 q120 hF=> ?_) (fun h119 q120 hF=> ?_)
      ·cases hF
       repeat first|refine cg ?_|simp -dsimp[h101,z103,↓e105,↓e107,h110,q111,h112,eq_true h114,eq_true z116,h119,q120]
       refine lG _ (gR _) (hq _ ?_)
       repeat first|refine cg ?_|simp -dsimp[h101,z103,↓e105,↓e107,h110,q111,h112,eq_true h114,eq_true z116,h119,q120]
      ·have w121:i64.wrap ((i100:Int)+1)=(i100:Int)+1:=ZC (by omega) (by omega)
       repeat first|refine cg ?_|simp -dsimp[h101,z103,↓e105,↓e107,h110,q111,h112,eq_true h114,eq_true z116,h119,q120,w121]
       refine aG _ ?_ ((ih_f137 p deep v v108.2.2 vars99 (i100+1) o hF) _ rfl _ hq)
       exact(gT (by simp) (by simp -dsimp[h101,z103,↓e105,↓e107,h110,q111,h112,eq_true h114,eq_true z116,h119,q120,w121]))
     ·have z116:¬((i100:Int)=1):=auz
      apply oC hF;intro c122 hF
      have w123:i64.wrap ((i100:Int)+1)=(i100:Int)+1:=ZC (by omega) (by omega)
      repeat first|refine cg ?_|simp -dsimp[h101,z103,↓e105,↓e107,h110,q111,h112,h114,q115,z116,w123]
      refine aG _ ?_ ((ih_f137 p deep v v108.2.2 (vars99++v108.1) (i100+1) o hF) _ rfl _ hq)
      exact(gT (by simp) (by simp -dsimp[h101,z103,↓e105,↓e107,h110,q111,h112,h114,q115,z116,w123]))
    ·apply oC hF;intro c124 hF
     have w125:i64.wrap ((i100:Int)+1)=(i100:Int)+1:=ZC (by omega) (by omega)
     repeat first|refine cg ?_|simp -dsimp[h101,z103,↓e105,↓e107,h110,q111,h112,q113,w125]
     refine aG _ ?_ ((ih_f137 p deep v v108.2.2 (vars99++v108.1) (i100+1) o hF) _ rfl _ hq)
     exact(gT (by simp) (by simp -dsimp[h101,z103,↓e105,↓e107,h110,q111,h112,q113,w125]))
  ·have z103:¬((i100:Int)<(p.kids.length:Int)):=auz
   cases hF
   refine kx3 h101 q102 z103 ?_
   refine zT hq
theorem C.f138 (w:List yB)(t:Ty)(p:Pattern)(r:(List VarType)×Bool)(hF:F.f138 w t p=some r):PureCall zQ B 152 [am yC w,.agg [li t.data,li t.index],.agg [li p.op,li p.ctor,li p.n,li p.m,li p.var,am yI p.kids]] (.tup [am yJ r.1,.lit (.bool r.2)]):=by
 unfold F.f138 at hF
 refine zG func152 rfl ntmps152 ?_
 refine kB hF fun v e1 hF=> ?_
 refine(((CC.f134 B hB1 hB2 w).1 t p 1 0 v e1)).go 2 rfl (by simp) (by simp) (by simp) ?_
 cases hF
 exact kc0
theorem C.f139 (g:Guard)(vars:List VarType)(r:Bool)(hF:F.f139 g vars=some r):PureCall zQ B 153 [.agg [li g.op,li g.var,li g.n],am yJ vars] (.lit (.bool r)):=by
 unfold F.f139 at hF
 refine zG func153 rfl ntmps153 ?_
 revert hF;refine kS ?_ ?_<;>intro h1 q2 hF
 ·cases hF
  exact kc1 h1
 ·refine kx2 h1 q2 ?_
  apply oB hF;intro v e3 hF
  refine((C.f98 B hB1 hB2 g.op 1 2 v e3)).goI ?_
  refine kx2 h1 q2 ?_
  revert hF;refine aS (fun h4 q5 hF=> ?_) (fun h4 q5 hF=> ?_)
  ·refine kx3 h1 q2 h4 ?_
   apply oB hF;intro v6 e7 hF
   refine((C.f98 B hB1 hB2 g.n 0 9 v6 e7)).goI ?_
   refine kx3 h1 q2 h4 ?_
   revert hF;refine aS (fun h8 q9 hF=> ?_) (fun h8 q9 hF=> ?_)
   ·refine kx4 h1 q2 h4 h8 ?_
    apply oB hF;intro v10 e11 hF
    refine((C.f125 B hB1 hB2 vars (⟨g.var,(⟨(-1),0⟩:Ty)⟩:VarType) v10 e11)).goI ?_
    cases hF
    exact kc4 h1 q2 h4 h8
   ·cases hF
    exact kc5 h1 q2 h4 h8 q9
  ·cases hF
   exact kc4 h1 q2 h4 q5
theorem C.f140 (w:List yB)(t:Ty)(c':Clause)(r:Bool)(hF:F.f140 w t c'=some r):PureCall zQ B 118 [am yC w,.agg [li t.data,li t.index],.agg [li c'.pat.op,li c'.pat.ctor,li c'.pat.n,li c'.pat.m,li c'.pat.var,am yI c'.pat.kids,li c'.guard.op,li c'.guard.var,li c'.guard.n]] (.lit (.bool r)):=by
 unfold F.f140 at hF
 refine zG func118 rfl ntmps118 ?_
 refine kB hF fun v e1 hF=> ?_
 refine((C.f138 B hB1 hB2 w t c'.pat v e1)).goI ?_
 revert hF;refine kS (fun h2 q3 hF=> ?_) (fun h2 q3 hF=> ?_)
 ·refine kx1 h2 ?_
  apply oB hF;intro v4 e5 hF
  refine((C.f139 B hB1 hB2 c'.guard v.1 v4 e5)).goI ?_
  cases hF
  exact kc1 h2
 ·cases hF
  exact kc2 h2 q3
theorem C.f141 (c':Clause)(a1:List yB)(a2:Ty)(r:Bool)(hF:F.f141 c' a1 a2=some r):PureCall zQ B 117 [.agg [li c'.pat.op,li c'.pat.ctor,li c'.pat.n,li c'.pat.m,li c'.pat.var,am yI c'.pat.kids,li c'.guard.op,li c'.guard.var,li c'.guard.n],.rptr [am yC a1] 0,.rptr [li a2.data,li a2.index] 0] (.lit (.bool r)):=by
 unfold F.f141 at hF
 refine zG func117 rfl ntmps117 ?_
 refine kB hF fun v e1 hF=> ?_
 refine((C.f140 B hB1 hB2 a1 a2 c' v e1)).goI ?_
 cases hF
 exact kc0
theorem CC.f142 (s:List Clause)(k0:List yB)(k1:Ty):(∀(i:Nat) (o:Lo Int Unit),F.f142 s k0 k1 i=some o->∀(c:Code),ZS [1,0,1,0,0] (ZH Tryz.f151)=some c->∀(Q:Exit->ASt->Prop),o.post (fun r=>∀st,ZAG zQ Tryz.f151 (fun r' _=>r'.le (li r)) .ret st->Q .ret st) (fun s=>Q (.exit 0) ⟨[],[]⟩)->ALoopU zQ B 0 19 (hold c .mk) ⟨[(0,am yN s),(1,.fn (.func 117) [] [.rptr [am yC k0] 0,.rptr [li k1.data,li k1.index] 0]),(7,li (s.length:Int)),(8,li (i:Int))],[]⟩ (hold Q .mk)):=by
 refine F.f142.partial_correctness s k0 k1
  _
  ?_
 ·intro _f_f142 ih_f142 i o hF
  refine ZJ rfl fun Q hq hk hs=> ?_
  have b0:=hk 0
  simp -dsimp at b0
  clear hk hs
  refine eN ?_
  revert hF;refine kS ?_ ?_<;>intro h1 q2 hF
  ·have z3:((i:Int)<(s.length:Int)):=auz
   apply oB hF;intro x e4 hF
   have le4:=ZA e4
   refine ZW h1 z3 e4 ?_
   apply oB hF;intro v e5 hF
   refine((C.f141 B hB1 hB2 x k0 k1 v e5)).goI ?_
   revert hF;refine kS (fun h6 q7 hF=> ?_) (fun h6 q7 hF=> ?_)
   ·cases hF
    refine kx1 h6 ?_
    refine lG _ (gR _) (hq _ ?_)
    exact kc0
   ·have w8:i64.wrap ((i:Int)+1)=(i:Int)+1:=ZC (by omega) (by omega)
    refine kx2 q7 w8 ?_
    refine zS ((ih_f142 (i+1) o hF) _ rfl _ hq)
  ·have z3:¬((i:Int)<(s.length:Int)):=auz
   cases hF
   refine kx3 h1 q2 z3 ?_
   refine zT hq
theorem C.f143 (s:List Clause)(k0:List yB)(k1:Ty)(r:Int)(hF:F.f143 s k0 k1=some r):PureCall zQ B 151 [am yN s,.fn (.func 117) [] [.rptr [am yC k0] 0,.rptr [li k1.data,li k1.index] 0]] (li r):=by
 unfold F.f143 at hF
 refine zG func151 rfl ntmps151 ?_
 refine kB hF fun o' ho9 hF=> ?_
 refine zU (((CC.f142 B hB1 hB2 s k0 k1) 0 o' ho9) _ rfl _ ?_)
 rcases o' with r0|sx
 ·dsimp only at hF
  cases hF
  intro st h
  simpa using h
 ·dsimp only at hF
  cases hF
  exact kc0
theorem C.f144 (s:List Clause)(k0:List yB)(k1:Ty)(r:Bool)(hF:F.f144 s k0 k1=some r):PureCall zQ B 116 [am yN s,.fn (.func 117) [] [.rptr [am yC k0] 0,.rptr [li k1.data,li k1.index] 0]] (.lit (.bool r)):=by
 unfold F.f144 at hF
 refine zG func116 rfl ntmps116 ?_
 refine kB hF fun v e1 hF=> ?_
 refine((C.f143 B hB1 hB2 s k0 k1 v e1)).goI ?_
 cases hF
 exact kc0
theorem C.f145 (w:List yB)(t:Ty)(list:List Clause)(r:Bool)(hF:F.f145 w t list=some r):PureCall zQ B 75 [am yC w,.agg [li t.data,li t.index],am yN list] (.lit (.bool r)):=by
 unfold F.f145 at hF
 refine zG func75 rfl ntmps75 ?_
 refine kB hF fun v e1 hF=> ?_
 refine((C.f111 B hB1 hB2 w t v e1)).goI ?_
 revert hF;refine kS (fun h2 q3 hF=> ?_) (fun h2 q3 hF=> ?_)
 ·refine kx1 h2 ?_
  revert hF;refine aS ?_ ?_<;>intro h4 q5 hF
  ·have z6:((list.length:Int)<=8):=auz
   refine kx3 h2 h4 z6 ?_
   apply oB hF;intro v7 e8 hF
   refine((C.f144 B hB1 hB2 list w t v7 e8)).lend (by simp -dsimp[h2,h4,z6]) (by simp -dsimp) ?_
   cases hF
   exact kc3 h2 h4 z6
  ·have z6:¬((list.length:Int)<=8):=auz
   cases hF
   exact kc4 h2 h4 q5 z6
 ·cases hF
  exact kc2 h2 q3
theorem CC.f146  :(∀(p:Pattern) (r:Int),F.f146 p=some r->PureCall zQ B 119 [.agg [li p.op,li p.ctor,li p.n,li p.m,li p.var,am yI p.kids]] (li r))/\
  (∀(p:Pattern) (i15:Nat) (n16:Int) (o:Int),F.f148 p i15 n16=some o->∀(c:Code),ZS [1,1,1,0,1,0,0] (ZH Tryz.f119)=some c->∀(Q:Exit->ASt->Prop),(Q (.exit 0) ⟨[(3,li o)],[]⟩)->ALoopU zQ B 0 31 (hold c .mk) ⟨[(1,.ptr 0 0),(3,li n16),(10,am yI p.kids),(11,li (p.kids.length:Int)),(12,li (i15:Int))],[.cells [li p.op,li p.ctor,li p.n,li p.m,li p.var,am yI p.kids]]⟩ (hold Q .mk))/\
  (∀(p:Pattern) (i:Nat) (n:Int) (o:Int),F.f147 p i n=some o->∀(c:Code),ZS [1,1,1,0,1,0,0] (ZH Tryz.f119)=some c->∀(Q:Exit->ASt->Prop),(Q (.exit 0) ⟨[(3,li o)],[]⟩)->ALoopU zQ B 0 31 (hold c .mk) ⟨[(1,.ptr 0 0),(3,li n),(10,am yI p.kids),(11,li (p.kids.length:Int)),(12,li (i:Int))],[.cells [li p.op,li p.ctor,li p.n,li p.m,li p.var,am yI p.kids]]⟩ (hold Q .mk)):=by
 refine F.f146.mutual_partial_correctness 
  _ _ _
  ?_ ?_ ?_
 ·intro _f_f148 _f_f147 ih_f148 ih_f147 p r hF
  refine zG func119 rfl ntmps119 ?_
  revert hF;refine kS ?_ ?_<;>intro h1 q2 hF
  ·refine kx1 h1 ?_
   apply oB hF;intro o' ho14 hF
   refine zU ((ih_f147 p 0 0 o' ho14) _ rfl _ ?_)
   cases hF
   exact kc0
  ·refine kx1 q2 ?_
   apply oB hF;intro o'31 ho30 hF
   refine zU ((ih_f148 p 0 1 o'31 ho30) _ rfl _ ?_)
   cases hF
   exact kc0
 ·intro _f_f146 _f_f148 ih_f146 ih_f148 p i15 n16 o hF
  refine ZJ rfl fun Q hq hk hs=> ?_
  have b10:=hk 10
  simp -dsimp at b10
  have d0:=hs 0 _ rfl
  simp -dsimp[zR]at d0
  clear hk hs
  refine eN ?_
  revert hF;refine kS ?_ ?_<;>intro h17 q18 hF
  ·have z19:((i15:Int)<(p.kids.length:Int)):=auz
   apply oB hF;intro x20 e21 hF
   have le21:=ZA e21
   refine ZW h17 z19 e21 ?_
   revert hF;refine aS ?_ ?_<;>intro h22 q23 hF
   ·refine kx1 h22 ?_
    apply oB hF;intro v24 e25 hF
    refine((ih_f146 x20 v24 e25)).goI ?_
    have w26:i64.wrap ((i15:Int)+1)=(i15:Int)+1:=ZC (by omega) (by omega)
    refine kx1 w26 ?_
    refine zS ((ih_f148 p (i15+1) (if 401<i64.wrap (n16+v24)then 401 else i64.wrap (n16+v24)) o hF) _ rfl _ hq)
   ·refine kx1 q23 ?_
    apply oB hF;intro v27 e28 hF
    refine((ih_f146 x20 v27 e28)).goI ?_
    have w29:i64.wrap ((i15:Int)+1)=(i15:Int)+1:=ZC (by omega) (by omega)
    refine kx1 w29 ?_
    refine zS ((ih_f148 p (i15+1) (if 401<i64.wrap (n16*v27)then 401 else i64.wrap (n16*v27)) o hF) _ rfl _ hq)
  ·have z19:¬((i15:Int)<(p.kids.length:Int)):=auz
   cases hF
   refine kx3 h17 q18 z19 ?_
   refine zT hq
 ·intro _f_f146 _f_f147 ih_f146 ih_f147 p i n o hF
  refine ZJ rfl fun Q hq hk hs=> ?_
  have b10:=hk 10
  simp -dsimp at b10
  have d0:=hs 0 _ rfl
  simp -dsimp[zR]at d0
  clear hk hs
  refine eN ?_
  revert hF;refine kS ?_ ?_<;>intro h3 q4 hF
  ·have z5:((i:Int)<(p.kids.length:Int)):=auz
   apply oB hF;intro x e6 hF
   have le6:=ZA e6
   refine ZW h3 z5 e6 ?_
   revert hF;refine aS ?_ ?_<;>intro h7 q8 hF
   ·refine kx1 h7 ?_
    apply oB hF;intro v e9 hF
    refine((ih_f146 x v e9)).goI ?_
    have w10:i64.wrap ((i:Int)+1)=(i:Int)+1:=ZC (by omega) (by omega)
    refine kx1 w10 ?_
    refine zS ((ih_f147 p (i+1) (if 401<i64.wrap (n+v)then 401 else i64.wrap (n+v)) o hF) _ rfl _ hq)
   ·refine kx1 q8 ?_
    apply oB hF;intro v11 e12 hF
    refine((ih_f146 x v11 e12)).goI ?_
    have w13:i64.wrap ((i:Int)+1)=(i:Int)+1:=ZC (by omega) (by omega)
    refine kx1 w13 ?_
    refine zS ((ih_f147 p (i+1) (if 401<i64.wrap (n*v11)then 401 else i64.wrap (n*v11)) o hF) _ rfl _ hq)
  ·have z5:¬((i:Int)<(p.kids.length:Int)):=auz
   cases hF
   refine kx3 h3 q4 z5 ?_
   refine zT hq
theorem C.f149 (s:List Pattern)(r:List Pattern)(hF:F.f149 s=some r):BCall zQ B 154 [] [am yI s] (.own 0 (zA (α:=Pattern) r)) [.elems 6 (zB yI r)]:=by
 unfold F.f149 at hF
 apply oC hF;intro c1 hF
 cases hF
 cases s with
 |nil=>
  refine yL fun a c=> ?_
  cases a
  ·refine yM 6 (by simp) (by simp) ?_
   refine zG func154 rfl ntmps154 ?_
   exact kc0
  ·refine yK func154 (by kernel_rfl) rfl ntmps154 (by simp) rfl (by simp) (by simp) (by simp) (by simp) (by simp) (gR _) ?_
   exact kc0
 |cons x xs=>
  have c1:xs.length+1<=67108864:=by simpa using c1
  refine yK func154 (by kernel_rfl) rfl ntmps154 (by simp) rfl (by simp) (by simp) (by simp) (by simp) (by simp) (gR _) ?_
  exact kc0
theorem CC.impl_split__o0_l3 (p:Pattern)(list:List Pattern)(i:Nat)(v15:List Pattern)(i17:Nat)(x21:Pattern):(∀(more23:List Pattern) (i24:Nat) (o:List Pattern),F.f150 p list i v15 i17 x21 more23 i24=some o->∀(c:Code),ZS [1,1,1,1,1,0,1,0,0,1,1,0,0,1,1,1,0,1,0,0,1,1,0,0,1,1,0,0] (ZH Tryz.f120)=some c->∀(Q:Exit->ASt->Prop),(Q (.exit 4) ⟨[(7,.own 3 (zA (α:=Pattern) v15)),(8,.own 4 (zA (α:=Pattern) o)),(33,am yI p.kids),(34,li (p.kids.length:Int)),(35,li (i:Int)),(41,.own 1 (zA (α:=Pattern) list)),(42,li (list.length:Int)),(43,li (i17:Int))],[.dead,.elems 6 (zB yI list),.dead,.elems 6 (zB yI v15),.elems 6 (zB yI o)]⟩)->ALoopU zQ B 0 70 (hold c .mk) ⟨[(7,.own 3 (zA (α:=Pattern) v15)),(8,.own 4 (zA (α:=Pattern) more23)),(10,.ptr 5 0),(33,am yI p.kids),(34,li (p.kids.length:Int)),(35,li (i:Int)),(41,.own 1 (zA (α:=Pattern) list)),(42,li (list.length:Int)),(43,li (i17:Int)),(47,.own 3 (zA (α:=Pattern) v15)),(48,li (v15.length:Int)),(49,li (i24:Int))],[.dead,.elems 6 (zB yI list),.dead,.elems 6 (zB yI v15),.elems 6 (zB yI more23),.cells [li x21.op,li x21.ctor,li x21.n,li x21.m,li x21.var,am yI x21.kids]]⟩ (hold Q .mk)):=by
 refine F.f150.partial_correctness p list i v15 i17 x21
  _
  ?_
 ·intro _f_impl_split__o0_l3 ih_impl_split__o0_l3 more23 i24 o hF
  refine ZJ rfl fun Q hq hk hs=> ?_
  have b33:=hk 33
  simp -dsimp at b33
  have d1:=hs 1 _ rfl
  simp -dsimp[zR]at d1
  have d3:=hs 3 _ rfl
  simp -dsimp[zR]at d3
  have d4:=hs 4 _ rfl
  simp -dsimp[zR]at d4
  have d5:=hs 5 _ rfl
  simp -dsimp[zR]at d5
  clear hk hs
  refine eN ?_
  revert hF;refine kS ?_ ?_<;>intro h25 q26 hF
  ·have z27:((i24:Int)<(v15.length:Int)):=auz
   apply oB hF;intro x28 e29 hF
   have le29:=ZA e29
   refine ZW h25 z27 e29 ?_
   refine ADraw.opn ?_
   refine ADraw.split [] [(2,4)] [(4,2)] 2 4 rfl rfl (by kernel_rfl) ?_ ?_
   ·refine zO [(2,4)] [0,1,2,3,4,5,6,7] [154] [(0,0),(0,0),(0,4),(0,1),(0,4),(0,4),(3,3),(0,4)] [1,1,1,2,1,1,1,1] follows (by kernel_rfl) (by kernel_rfl) (by kernel_rfl) (by kernel_rfl) ?_
    refine kB hF fun v30 e31 hF=> ?_
    refine((C.f149 B hB1 hB2 x21.kids v30 e31)).ego (pl [8]) (by simp) (by simp) (by intro i j hi;simp at hi) (by intro i hi hi';simp at hi hi';first|omega|(subst hi';simp[pl])) (by simp_all) (by simp_all) ?_
    apply oC hF;intro c32 hF
    apply oC hF;intro c33 hF
    have w34:i64.wrap ((i24:Int)+1)=(i24:Int)+1:=ZC (by omega) (by omega)
    refine kx1 w34 ?_
    refine zS ((ih_impl_split__o0_l3 (more23++[(⟨x21.op,x21.ctor,x21.n,x21.m,x21.var,v30++[x28]⟩:Pattern)]) (i24+1) o hF) _ rfl _ hq)
   ·refine zO [(4,2)] [0,1,3,4,2,5,6,7] [154] [(0,1),(0,1),(0,0),(0,4),(0,4),(0,4),(3,3),(0,4)] [0,2,1,1,1,1,1,1] follows (by kernel_rfl) (by kernel_rfl) (by kernel_rfl) (by kernel_rfl) ?_
    refine kB hF fun v30 e31 hF=> ?_
    refine((C.f149 B hB1 hB2 x21.kids v30 e31)).ego (pl [9]) (by simp) (by simp) (by intro i j hi;simp at hi) (by intro i hi hi';simp at hi hi';first|omega|(subst hi';simp[pl])) (by simp_all) (by simp_all) ?_
    apply oC hF;intro c32 hF
    apply oC hF;intro c33 hF
    have w34:i64.wrap ((i24:Int)+1)=(i24:Int)+1:=ZC (by omega) (by omega)
    refine kx1 w34 ?_
    refine zS ((ih_impl_split__o0_l3 (more23++[(⟨x21.op,x21.ctor,x21.n,x21.m,x21.var,v30++[x28]⟩:Pattern)]) (i24+1) o hF) _ rfl _ hq)
  ·have z27:¬((i24:Int)<(v15.length:Int)):=auz
   cases hF
   refine kx3 h25 q26 z27 ?_
   refine zT hq
theorem CC.impl_split__o0_l2 (p:Pattern)(list:List Pattern)(i:Nat)(v15:List Pattern):(∀(more:List Pattern) (i17:Nat) (o:List Pattern),F.f151 p list i v15 more i17=some o->∀(c:Code),ZS [1,1,1,1,1,0,1,0,0,1,1,0,0,1,1,1,0,1,0,0] (ZH Tryz.f120)=some c->∀(Q:Exit->ASt->Prop),(Q (.exit 2) ⟨[(8,.own 4 (zA (α:=Pattern) o)),(33,am yI p.kids),(34,li (p.kids.length:Int)),(35,li (i:Int))],[.dead,.dead,.dead,.dead,.elems 6 (zB yI o)]⟩)->ALoopU zQ B 0 70 (hold c .mk) ⟨[(7,.own 3 (zA (α:=Pattern) v15)),(8,.own 4 (zA (α:=Pattern) more)),(33,am yI p.kids),(34,li (p.kids.length:Int)),(35,li (i:Int)),(41,.own 1 (zA (α:=Pattern) list)),(42,li (list.length:Int)),(43,li (i17:Int))],[.dead,.elems 6 (zB yI list),.dead,.elems 6 (zB yI v15),.elems 6 (zB yI more)]⟩ (hold Q .mk)):=by
 refine F.f151.partial_correctness p list i v15
  _
  ?_
 ·intro _f_impl_split__o0_l2 ih_impl_split__o0_l2 more i17 o hF
  refine ZJ rfl fun Q hq hk hs=> ?_
  have b33:=hk 33
  simp -dsimp at b33
  have d1:=hs 1 _ rfl
  simp -dsimp[zR]at d1
  have d3:=hs 3 _ rfl
  simp -dsimp[zR]at d3
  have d4:=hs 4 _ rfl
  simp -dsimp[zR]at d4
  clear hk hs
  refine eN ?_
  revert hF;refine kS ?_ ?_<;>intro h18 q19 hF
  ·have z20:((i17:Int)<(list.length:Int)):=auz
   apply oB hF;intro x21 e22 hF
   have le22:=ZA e22
   refine ZW h18 z20 e22 ?_
   apply oB hF;intro o' ho35 hF
   refine zU (((CC.impl_split__o0_l3 B hB1 hB2 p list i v15 i17 x21) more 0 o' ho35) _ rfl _ ?_)
   apply oC hF;intro c36 hF
   have w37:i64.wrap ((i17:Int)+1)=(i17:Int)+1:=ZC (by omega) (by omega)
   refine kx1 w37 ?_
   refine zS ((ih_impl_split__o0_l2 o' (i17+1) o hF) _ rfl _ hq)
  ·have z20:¬((i17:Int)<(list.length:Int)):=auz
   cases hF
   refine kx3 h18 q19 z20 ?_
   refine zT hq
theorem CC.impl_split__o0  :(∀(p:Pattern) (r:List Pattern),F.f152 p=some r->BCall zQ B 120 [] [.agg [li p.op,li p.ctor,li p.n,li p.m,li p.var,am yI p.kids]] (.own 0 (zA (α:=Pattern) r)) [.elems 6 (zB yI r)])/\
  (∀(p:Pattern) (list:List Pattern) (i:Nat) (o:List Pattern),F.f153 p list i=some o->∀(c:Code),ZS [1,1,1,1,1,0,1,0,0] (ZH Tryz.f120)=some c->∀(Q:Exit->ASt->Prop),(Q (.exit 0) ⟨[(4,.own 1 (zA (α:=Pattern) o))],[.dead,.elems 6 (zB yI o)]⟩)->ALoopU zQ B 0 70 (hold c .mk) ⟨[(4,.own 1 (zA (α:=Pattern) list)),(33,am yI p.kids),(34,li (p.kids.length:Int)),(35,li (i:Int))],[.dead,.elems 6 (zB yI list)]⟩ (hold Q .mk)):=by
 refine F.f152.mutual_partial_correctness 
  _ _
  ?_ ?_
 ·intro _f_impl_split__o0 _f_impl_split__o0_l1 ih_impl_split__o0 ih_impl_split__o0_l1 p r hF
  refine BCall.enterS (τ1:=[]) (ys:=[.own 0 (zA (α:=Pattern) r)]) (news:=[(6,zB yI r)]) func120 (by kernel_rfl) rfl ntmps120 (by simp) rfl rfl (by simp) (by simp) (by simp) (by simp) (by simp) (by simp) (gR _) ?_
  revert hF;refine kS ?_ ?_<;>intro h1 q2 hF
  ·refine kx1 h1 ?_
   refine zL [120] [(0,0),(0,0),(0,0),(0,0),(0,3),(0,1),(0,1),(0,1),(0,1),(0,3),(0,3),(3,3)] [1,1,1,1,1,0,2,0,0,1,1,1] follows ?_
   apply oB hF;intro x e3 hF
   have le3:=ZA e3
   refine kdd e3 ?_
   apply oB hF;intro v e4 hF
   refine((ih_impl_split__o0 x v e4)).ego (pl [1]) (by simp) (by simp) (by intro i j hi;simp at hi) (by intro i hi hi';simp at hi hi';have hi:i=0:=(by omega);rcases hi with rfl<;>simp[pl]) (by simp_all) (by simp_all) ?_
   apply oB hF;intro x5 e6 hF
   have le6:=ZA e6
   refine kdd e6 ?_
   apply oB hF;intro v7 e8 hF
   refine((ih_impl_split__o0 x5 v7 e8)).ego (pl [2]) (by simp) (by simp) (by intro i j hi;simp at hi) (by intro i hi hi';simp at hi hi';have hi:i=0:=(by omega);rcases hi with rfl<;>simp[pl]) (by simp_all) (by simp_all) ?_
   apply oC hF;intro c9 hF
   cases hF
   repeat first|refine cg ?_|simp -dsimp
   all_goals(try first|omega|rfl|(simp;done)|(simp only[zC,zD]at*;omega)|simp)
  ·refine kx1 q2 ?_
   apply oB hF;intro o'43 ho42 hF
   refine zU ((ih_impl_split__o0_l1 p [(⟨p.op,p.ctor,p.n,p.m,p.var,[]⟩:Pattern)] 0 o'43 ho42) _ rfl _ ?_)
   cases hF
   repeat first|refine cg ?_|simp -dsimp
   all_goals(try first|omega|rfl|(simp;done)|(simp only[zC,zD]at*;omega)|simp)
 ·intro _f_impl_split__o0 _f_impl_split__o0_l1 ih_impl_split__o0 ih_impl_split__o0_l1 p list i o hF
  refine ZJ rfl fun Q hq hk hs=> ?_
  have b33:=hk 33
  simp -dsimp at b33
  have d1:=hs 1 _ rfl
  simp -dsimp[zR]at d1
  clear hk hs
  refine eN ?_
  revert hF;refine kS ?_ ?_<;>intro h10 q11 hF
  ·have z12:((i:Int)<(p.kids.length:Int)):=auz
   apply oB hF;intro x13 e14 hF
   have le14:=ZA e14
   refine ZW h10 z12 e14 ?_
   apply oB hF;intro v15 e16 hF
   refine((ih_impl_split__o0 x13 v15 e16)).go (pl [3]) (by simp) (by simp) (by intro i j hi;simp at hi) (by intro i hi hi';simp at hi hi';have hi:i=0:=(by omega);rcases hi with rfl<;>simp[pl]) (by simp_all) (by simp_all) ?_
   refine kB hF fun o'39 ho38 hF=> ?_
   refine zV ⟨[(7,.own 3 (zA (α:=Pattern) v15)),(8,.own 4 (zA (α:=Pattern) [])),(33,.arr (zB yI p.kids)),(34,.lit (.int .i64 (p.kids.length:Int))),(35,.lit (.int .i64 (i:Int))),(41,.own 1 (zA (α:=Pattern) list)),(42,.lit (.int .i64 (list.length:Int))),(43,.lit (.int .i64 0))],[.dead,.elems 6 (zB yI list),.dead,.elems 6 (zB yI v15),.elems 6 (zB yI [])]⟩ (by refine zX (zZ 8 6 (by simp -dsimp)) ?_;exact(gT (by simp) (by simp_all))) ?_
   refine((CC.impl_split__o0_l2 B hB1 hB2 p list i v15) [] 0 o'39 ho38) _ rfl _ ?_
   apply oC hF;intro c40 hF
   have w41:i64.wrap ((i:Int)+1)=(i:Int)+1:=ZC (by omega) (by omega)
   refine kx1 w41 ?_
   refine aG ⟨[(4,.own 1 (zA (α:=Pattern) o'39)),(33,.arr (zB yI p.kids)),(34,.lit (.int .i64 (p.kids.length:Int))),(35,.lit (.int .i64 ((i+1):Int)))],[.dead,.elems 6 (zB yI o'39)]⟩ (by refine zX (Gh.swap 1 4 (by decide) (by decide) (by simp) (by simp) (by simp)) ?_;exact(gT (by simp) (by simp_all))) ?_
   exact(ih_impl_split__o0_l1 p o'39 (i+1) o hF) _ rfl _ hq
  ·have z12:¬((i:Int)<(p.kids.length:Int)):=auz
   cases hF
   refine kx3 h10 q11 z12 ?_
   refine zT hq
theorem CC.f154 (list:List Clause):(∀(out:List (List Pattern)) (i:Nat) (o:Lo ((List (List Pattern))×Bool) (List (List Pattern))),F.f154 list out i=some o->∀(c:Code),ZS [1,1,0,1,0,0] (ZH Tryz.f76)=some c->∀(Q:Exit->ASt->Prop),o.post (fun r=>∀st,ZAG zQ Tryz.f76 (fun r' _=>r'.le (.tup [am (cL yI) r.1,.lit (.bool r.2)])) .ret st->Q .ret st) (fun s=>Q (.exit 0) ⟨[(4,.own 0 (zA (α:=List Pattern) s))],[.elems 1 (zB (cL yI) s)]⟩)->ALoopU zQ B 0 25 (hold c .mk) ⟨[(4,.own 0 (zA (α:=List Pattern) out)),(7,am yN list),(8,li (list.length:Int)),(9,li (i:Int))],[.elems 1 (zB (cL yI) out)]⟩ (hold Q .mk)):=by
 refine F.f154.partial_correctness list
  _
  ?_
 ·intro _f_f154 ih_f154 out i o hF
  refine ZJ rfl fun Q hq hk hs=> ?_
  have b7:=hk 7
  simp -dsimp at b7
  have d0:=hs 0 _ rfl
  simp -dsimp[zR]at d0
  clear hk hs
  refine eN ?_
  revert hF;refine kS ?_ ?_<;>intro h1 q2 hF
  ·have z3:((i:Int)<(list.length:Int)):=auz
   apply oB hF;intro x e4 hF
   have le4:=ZA e4
   refine ZW h1 z3 e4 ?_
   apply oB hF;intro v e5 hF
   refine(((CC.f146 B hB1 hB2).1 x.pat v e5)).goI ?_
   revert hF;refine kS ?_ ?_<;>intro h6 q7 hF
   ·cases hF
    refine kx1 h6 ?_
    refine lG _ (gR _) (hq _ ?_)
    exact kc0
   ·refine kx1 q7 ?_
    apply oB hF;intro v8 e9 hF
    refine(((CC.impl_split__o0 B hB1 hB2).1 x.pat v8 e9)).go (pl [2]) (by simp) (by simp) (by intro i j hi;simp at hi) (by intro i hi hi';simp at hi hi';have hi:i=0:=(by omega);rcases hi with rfl<;>simp[pl]) (by simp_all) (by simp_all) ?_
    apply oC hF;intro c10 hF
    have w11:i64.wrap ((i:Int)+1)=(i:Int)+1:=ZC (by omega) (by omega)
    refine kx1 w11 ?_
    refine zS ((ih_f154 (out++[v8]) (i+1) o hF) _ rfl _ hq)
  ·have z3:¬((i:Int)<(list.length:Int)):=auz
   cases hF
   refine kx3 h1 q2 z3 ?_
   refine zT hq
theorem C.f155 (list:List Clause)(r:(List (List Pattern))×Bool)(hF:F.f155 list=some r):PureCall zQ B 76 [am yN list] (.tup [am (cL yI) r.1,.lit (.bool r.2)]):=by
 unfold F.f155 at hF
 refine zG func76 rfl ntmps76 ?_
 refine kB hF fun o' ho12 hF=> ?_
 refine zV ⟨[(4,.own 0 (zA (α:=List Pattern) [])),(7,.arr (zB yN list)),(8,.lit (.int .i64 (list.length:Int))),(9,.lit (.int .i64 0))],[.elems 1 (zB (cL yI) [])]⟩ (by refine zX (zZ 4 1 (by simp -dsimp)) ?_;exact(gT (by simp) (by simp -dsimp))) ?_
 refine((CC.f154 B hB1 hB2 list) [] 0 o' ho12) _ rfl _ ?_
 rcases o' with r0|sx
 ·dsimp only at hF
  cases hF
  intro st h
  simpa using h
 ·dsimp only at hF
  cases hF
  exact kc0
theorem C.f156 (s:List Int)(r:List Int)(hF:F.f156 s=some r):BCall zQ B 89 [] [am cI s] (.own 0 (zA (α:=Int) r)) [.elems 1 (zB cI r)]:=by
 unfold F.f156 at hF
 apply oC hF;intro c1 hF
 cases hF
 cases s with
 |nil=>
  refine yL fun a c=> ?_
  cases a
  ·refine yM 1 (by simp) (by simp) ?_
   refine zG func89 rfl ntmps89 ?_
   exact kc0
  ·refine yK func89 (by kernel_rfl) rfl ntmps89 (by simp) rfl (by simp) (by simp) (by simp) (by simp) (by simp) (gR _) ?_
   exact kc0
 |cons x xs=>
  have c1:xs.length+1<=67108864:=by simpa using c1
  refine yK func89 (by kernel_rfl) rfl ntmps89 (by simp) rfl (by simp) (by simp) (by simp) (by simp) (by simp) (gR _) ?_
  exact kc0
end Go.Proofs.YtnockmfobogfpaaGreat
