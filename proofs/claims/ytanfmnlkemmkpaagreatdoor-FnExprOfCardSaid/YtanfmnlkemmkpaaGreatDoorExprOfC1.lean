/- The contracts: the code computes the functions (printed by gen.py). -/
import Derived.Test.YtanfmnlkemmkpaaGreatDoorProg
import Derived.Test.YtanfmnlkemmkpaaGreatDoorExprOfF
import Derived.Test.YtanfmnlkemmkpaaGreatDoorVlShelf
import Derived.Test.YtanfmnlkemmkpaaGreatDoorShelf
namespace Go.Proofs.YtanfmnlkemmkpaaGreatDoor
open Go Go.Proofs Go.Vl
set_option linter.all false
set_option maxRecDepth 100000
set_option maxHeartbeats 4000000
set_option synthInstance.maxSize 100000
set_option synthInstance.maxHeartbeats 4000000
attribute [local irreducible] ECallA NCallA aL aLg AMake MLoop AgainM LeaveM awpM aopsM MutCall BCall chk abr ACall ALoop ALoopU ADraw Again Leave PCallA PCall Post awp aops PureCall hold
theorem follows :Tryz.prog.follows .mixedOrders=true:=by kernel_rfl
@[simp] theorem ti2 :tiOf Tryz.prog 2=some ⟨.word,1,[.int .i64 0]⟩:=by kernel_rfl
@[simp] theorem ti3 :tiOf Tryz.prog 3=some ⟨.word,1,[.int .i64 0]⟩:=by kernel_rfl
@[simp] theorem ti4 :tiOf Tryz.prog 4=some ⟨.word,1,[.bool false]⟩:=by kernel_rfl
@[simp] theorem ti5 :tiOf Tryz.prog 5=some ⟨.word,1,[.int .u8 0]⟩:=by kernel_rfl
@[simp] theorem ti6 :tiOf Tryz.prog 6=some ⟨.word,1,[.int .u8 0]⟩:=by kernel_rfl
@[simp] theorem ti8 :tiOf Tryz.prog 8=some ⟨.struct [(0,1),(1,1),(2,1),(3,1)],4,[.int .i64 0,.int .i64 0,.bool false,.int .u8 0]⟩:=by kernel_rfl
@[simp] theorem ti9 :tiOf Tryz.prog 9=some ⟨.word,1,[.string ByteArray.empty]⟩:=by kernel_rfl
@[simp] theorem ti22 :tiOf Tryz.prog 22=some ⟨.slice 1 1 [.int .u8 0],1,[.slice none 0 0]⟩:=by kernel_rfl
@[simp] theorem sl22 :isSl Tryz.prog 22=true:=by kernel_rfl
@[simp] theorem ti23 :tiOf Tryz.prog 23=some ⟨.slice 2 40 [.string ByteArray.empty,.slice none 0 0],1,[.slice none 0 0]⟩:=by kernel_rfl
@[simp] theorem sl23 :isSl Tryz.prog 23=true:=by kernel_rfl
@[simp] theorem ti25 :tiOf Tryz.prog 25=some ⟨.struct [(0,1),(1,1)],2,[.int .i64 0,.int .i64 0]⟩:=by kernel_rfl
@[simp] theorem pr25 :pair2B Tryz.prog 25=true:=by kernel_rfl
@[simp] theorem ti26 :tiOf Tryz.prog 26=some ⟨.slice 3 40 [.int .i64 0,.int .i64 0,.slice none 0 0],1,[.slice none 0 0]⟩:=by kernel_rfl
@[simp] theorem sl26 :isSl Tryz.prog 26=true:=by kernel_rfl
@[simp] theorem ti28 :tiOf Tryz.prog 28=some ⟨.struct [(0,1),(1,1),(2,1)],3,[.int .i64 0,.int .i64 0,.slice none 0 0]⟩:=by kernel_rfl
@[simp] theorem ti31 :tiOf Tryz.prog 31=some ⟨.slice 4 48 [.int .i64 0,.int .i64 0,.int .i64 0,.slice none 0 0],1,[.slice none 0 0]⟩:=by kernel_rfl
@[simp] theorem sl31 :isSl Tryz.prog 31=true:=by kernel_rfl
@[simp] theorem ti33 :tiOf Tryz.prog 33=some ⟨.struct [(0,1),(1,1),(2,1),(3,1)],4,[.int .i64 0,.int .i64 0,.int .i64 0,.slice none 0 0]⟩:=by kernel_rfl
@[simp] theorem ti38 :tiOf Tryz.prog 38=some ⟨.slice 1 8 [.int .i64 0],1,[.slice none 0 0]⟩:=by kernel_rfl
@[simp] theorem sl38 :isSl Tryz.prog 38=true:=by kernel_rfl
@[simp] theorem ti46 :tiOf Tryz.prog 46=some ⟨.slice 4 32 [.int .i64 0,.int .i64 0,.int .i64 0,.int .i64 0],1,[.slice none 0 0]⟩:=by kernel_rfl
@[simp] theorem sl46 :isSl Tryz.prog 46=true:=by kernel_rfl
@[simp] theorem ti47 :tiOf Tryz.prog 47=some ⟨.slice 3 24 [.int .i64 0,.int .i64 0,.int .i64 0],1,[.slice none 0 0]⟩:=by kernel_rfl
@[simp] theorem sl47 :isSl Tryz.prog 47=true:=by kernel_rfl
@[simp] theorem ti49 :tiOf Tryz.prog 49=some ⟨.struct [(0,1),(1,1),(2,1)],3,[.slice none 0 0,.slice none 0 0,.slice none 0 0]⟩:=by kernel_rfl
@[simp] theorem ti53 :tiOf Tryz.prog 53=some ⟨.array 4 1,4,[.bool false,.bool false,.bool false,.bool false]⟩:=by kernel_rfl
@[simp] theorem ti67 :tiOf Tryz.prog 67=some ⟨.struct [(0,2),(2,2)],4,[.int .i64 0,.int .i64 0,.int .i64 0,.int .i64 0]⟩:=by kernel_rfl
@[simp] theorem ti69 :tiOf Tryz.prog 69=some ⟨.array 6 1,6,[.bool false,.bool false,.bool false,.bool false,.bool false,.bool false]⟩:=by kernel_rfl
@[simp] theorem ti71 :tiOf Tryz.prog 71=some ⟨.struct [(0,1),(1,2)],3,[.int .i64 0,.int .i64 0,.int .i64 0]⟩:=by kernel_rfl
@[simp] theorem pr71 :trip3B Tryz.prog 71=true:=by kernel_rfl
@[simp] theorem ti76 :tiOf Tryz.prog 76=some ⟨.slice 2 16 [.int .i64 0,.int .i64 0],1,[.slice none 0 0]⟩:=by kernel_rfl
@[simp] theorem sl76 :isSl Tryz.prog 76=true:=by kernel_rfl
@[simp] theorem ti79 :tiOf Tryz.prog 79=some ⟨.slice 1 16 [.string ByteArray.empty],1,[.slice none 0 0]⟩:=by kernel_rfl
@[simp] theorem sl79 :isSl Tryz.prog 79=true:=by kernel_rfl
@[simp] theorem ti82 :tiOf Tryz.prog 82=some ⟨.struct [(0,1),(1,1),(2,1)],3,[.string ByteArray.empty,.slice none 0 0,.int .i64 0]⟩:=by kernel_rfl
@[simp] theorem ti83 :tiOf Tryz.prog 83=some ⟨.slice 3 48 [.string ByteArray.empty,.slice none 0 0,.int .i64 0],1,[.slice none 0 0]⟩:=by kernel_rfl
@[simp] theorem sl83 :isSl Tryz.prog 83=true:=by kernel_rfl
@[simp] theorem ti85 :tiOf Tryz.prog 85=some ⟨.struct [(0,1),(1,1)],2,[.string ByteArray.empty,.slice none 0 0]⟩:=by kernel_rfl
@[simp] theorem ti89 :tiOf Tryz.prog 89=some ⟨.struct [(0,1),(1,1)],2,[.slice none 0 0,.int .i64 0]⟩:=by kernel_rfl
@[simp] theorem ti99 :mapB Tryz.prog 99=true:=by kernel_rfl
@[simp] theorem ti125 :tiOf Tryz.prog 125=some ⟨.struct [(0,1),(1,1)],2,[.pointer none,.slice none 0 0]⟩:=by kernel_rfl
attribute [simp] Tryz.underlying2 Tryz.underlying3 Tryz.underlying4 Tryz.underlying5 Tryz.underlying6 Tryz.underlying9 Tryz.underlying22 Tryz.underlying23 Tryz.underlying26 Tryz.underlying31 Tryz.underlying38 Tryz.underlying46 Tryz.underlying47 Tryz.underlying53 Tryz.underlying69 Tryz.underlying76 Tryz.underlying79 Tryz.underlying83 Tryz.results3 Tryz.results4 Tryz.results5 Tryz.results6 Tryz.results7 Tryz.results8 Tryz.results9 Tryz.results10 Tryz.results11 Tryz.results12 Tryz.results13 Tryz.results14 Tryz.results15 Tryz.results16 Tryz.results17 Tryz.results18 Tryz.results19 Tryz.results20 Tryz.results21 Tryz.results22 Tryz.results23 Tryz.results24 Tryz.results25 Tryz.results26 Tryz.results27 Tryz.results28 Tryz.results29 Tryz.results30 Tryz.results31 Tryz.results32 Tryz.results33 Tryz.results34 Tryz.results35 Tryz.results36 Tryz.results37 Tryz.results38 Tryz.results39 Tryz.results40 Tryz.results41 Tryz.results42 Tryz.results43 Tryz.results44 Tryz.results45 Tryz.results46 Tryz.results47 Tryz.results48 Tryz.results49 Tryz.results50 Tryz.results51 Tryz.results52 Tryz.results53 Tryz.results54 Tryz.results55 Tryz.results56 Tryz.results57 Tryz.results58 Tryz.results59 Tryz.results60 Tryz.results61 Tryz.results62 Tryz.results64 Tryz.results65 Tryz.results66 Tryz.results67 Tryz.results68 Tryz.results69 Tryz.results70 Tryz.results71 Tryz.results72 Tryz.results73 Tryz.results74 Tryz.results75 Tryz.results76 Tryz.results77 Tryz.results78 Tryz.results79 Tryz.results80 Tryz.results81 Tryz.results82 Tryz.results87 Tryz.results88 Tryz.results89 Tryz.results90 Tryz.results91 Tryz.results92 Tryz.results93 Tryz.results94 Tryz.results101 Tryz.results102 Tryz.results110 Tryz.results111 Tryz.results112 Tryz.results115
variable (B : Nat) (hB1 : 67108864 ≤ B) (hB2 : B ≤ 9223372036854775807)
include hB1 hB2
theorem C.f0  (r:List ByteArray)(hF:F.f0=some r):PureCall Tryz.prog B 65 [] (.arr (List.map cS r)):=by
 unfold F.f0 at hF
 refine PureCall.enterLe Tryz.func65 (by kernel_rfl) rfl Tryz.ntmps65 (by simp) (by simp) ?_
 cases hF
 repeat first|refine cg ?_|simp -dsimp
 all_goals(try first|omega|rfl)
theorem C.f1 (r':T_spec_l17Rd)(n:Int)(r:Int×T_spec_l17Rd)(hF:F.f1 r' n=some r):MutCall Tryz.prog B 26 [.arr (List.map cU r'.f0),.lit (.int .i64 r'.f1)] [.ptr 0 0,.lit (.int .i64 n)] (.lit (.int .i64 r.1)) [.arr (List.map cU r.2.f0),.lit (.int .i64 r.2.f1)]:=by
 unfold F.f1 at hF
 refine MutCall.enter Tryz.func26 (by kernel_rfl) rfl Tryz.ntmps26 (by simp) (by simp) (by simp) (by simp) ?_
 repeat first|refine cg ?_|simp -dsimp
 revert hF;refine abr.ns ?_ ?_<;>intro h1 q2 hF
 ·repeat first|refine cg ?_|simp -dsimp[h1,q2]
  revert hF;refine abr.sp ?_ ?_<;>intro h3 q4 hF
  ·have z5:((r'.f0.length:Int)=0):=auz
   cases hF
   repeat first|refine cg ?_|simp -dsimp[h1,q2,h3,z5]
   all_goals(try first|omega|rfl)
  ·have z5:¬((r'.f0.length:Int)=0):=auz
   repeat first|refine cg ?_|simp -dsimp[h1,q2,h3,q4,z5]
   revert hF;refine abr.sp ?_ ?_<;>intro h6 q7 hF
   ·have hF:=ob hF;obtain⟨x,e8a,hF⟩:=hF
    have e8a:=at_some e8a;obtain⟨ne8,e8⟩:=e8a
    have le8:=lt_of_get e8
    have hF:=oc hF;obtain⟨c9,hF⟩:=hF
    cases hF
    repeat first|refine cg ?_|simp -dsimp[h1,q2,h3,q4,z5,h6,↓e8]
    all_goals(try first|omega|rfl)
   ·repeat first|refine cg ?_|simp -dsimp[h1,q2,h3,q4,z5,h6,q7]
    refine ADraw.simple follows (by kernel_rfl) (by kernel_rfl) ?_
    have hF:=oc hF;obtain⟨c10,hF⟩:=hF
    have hF:=ob hF;obtain⟨x11,e12a,hF⟩:=hF
    have e12a:=at_some e12a;obtain⟨ne12,e12⟩:=e12a
    have le12:=lt_of_get e12
    have hF:=ob hF;obtain⟨x13,e14a,hF⟩:=hF
    have e14a:=at_some e14a;obtain⟨ne14,e14⟩:=e14a
    have le14:=lt_of_get e14
    have hF:=oc hF;obtain⟨c15,hF⟩:=hF
    cases hF
    repeat first|refine cg ?_|simp -dsimp[h1,q2,h3,q4,z5,h6,q7,↓e12,↓e14]
    all_goals(try first|omega|rfl)
 ·cases hF
  repeat first|refine cg ?_|simp -dsimp[h1,q2]
  all_goals(try first|omega|rfl)
theorem CC.f2 (s:ByteArray)(c':Int):(∀(out:List ByteArray) (from':Nat) (i:Nat) (o:List ByteArray),F.f2 s c' out from' i=some o→∀(c:Code),navO [1,1,1,0,1,0,0] (bodyOf Tryz.f87)=some c→∀(Q:Exit→ASt→Prop),(Q (.exit 0) ⟨[(5,.own 0 (List.length (α:=ByteArray) o))],[.elems 1 (List.map cS o)]⟩)→ALoopU Tryz.prog B 0 36 (hold c .mk) ⟨[(0,.lit (.string s)),(1,.lit (.int .u8 c')),(5,.own 0 (List.length (α:=ByteArray) out)),(6,.lit (.int .i64 (from':Int))),(7,.lit (.int .i64 (i:Int)))],[.elems 1 (List.map cS out)]⟩ (hold Q .mk)):=by
 refine F.f2.partial_correctness s c'
  _
  ?_
 ·intro _f_f2 ih_f2 out from' i o hF
  intro c hc Q hq
  obtain rfl:c=_:=navEq hc rfl
  refine ALoopU.know fun hk hs=> ?_
  have d0:=hs 0 _ rfl
  simp -dsimp[Blk.bnd]at d0
  clear hk hs
  refine ALoopU.enter ?_
  repeat first|refine cg ?_|simp -dsimp
  revert hF;refine abr.sp ?_ ?_<;>intro h1 q2 hF
  ·have z3:((i:Int)≤(s.size:Int)):=auz
   repeat first|refine cg ?_|simp -dsimp[h1,z3]
   revert hF;refine abr.ns ?_ ?_<;>intro h4 q5 hF
   ·have z6:¬((i:Int)=(s.size:Int)):=auz
    have hF:=oc hF;obtain⟨c7,hF⟩:=hF
    repeat first|refine cg ?_|simp -dsimp[h1,z3,h4,q5,z6]
    revert hF;refine abr.sp ?_ ?_<;>intro h8 q9 hF
    ·have hF:=oc hF;obtain⟨c10,hF⟩:=hF
     have hF:=oc hF;obtain⟨c11,hF⟩:=hF
     have hF:=oc hF;obtain⟨c12,hF⟩:=hF
     have w13:IntKind.i64.wrap ((i:Int)+1)=(i:Int)+1:=wrap_in (by omega) (by omega)
     have w14:IntKind.i64.wrap ((i:Int)+1)=(i:Int)+1:=wrap_in (by omega) (by omega)
     repeat first|refine cg ?_|simp -dsimp[h1,z3,h4,q5,z6,h8,w13,w14]
     refine Again.go _ ?_ ((ih_f2 (out++[s.extract from' i]) (i+1) (i+1) o hF) _ rfl _ hq)
     exact(Gh.to3 (by simp) (by first|simp -dsimp[h1,z3,h4,q5,z6,h8,w13,w14];done|simp_all))
    ·have hF:=oc hF;obtain⟨c15,hF⟩:=hF
     have w16:IntKind.i64.wrap ((i:Int)+1)=(i:Int)+1:=wrap_in (by omega) (by omega)
     repeat first|refine cg ?_|simp -dsimp[h1,z3,h4,q5,z6,h8,q9,w16]
     refine Again.go _ ?_ ((ih_f2 out from' (i+1) o hF) _ rfl _ hq)
     exact(Gh.to3 (by simp) (by first|simp -dsimp[h1,z3,h4,q5,z6,h8,q9,w16];done|simp_all))
   ·have z6:((i:Int)=(s.size:Int)):=auz
    have hF:=oc hF;obtain⟨c17,hF⟩:=hF
    have hF:=oc hF;obtain⟨c18,hF⟩:=hF
    have hF:=oc hF;obtain⟨c19,hF⟩:=hF
    have w20:IntKind.i64.wrap ((i:Int)+1)=(i:Int)+1:=wrap_in (by omega) (by omega)
    have w21:IntKind.i64.wrap ((i:Int)+1)=(i:Int)+1:=wrap_in (by omega) (by omega)
    repeat first|refine cg ?_|simp -dsimp[h1,z3,h4,q5,z6,w20,w21]
    refine Again.go _ ?_ ((ih_f2 (out++[s.extract from' i]) (i+1) (i+1) o hF) _ rfl _ hq)
    exact(Gh.to3 (by simp) (by first|simp -dsimp[h1,z3,h4,q5,z6,w20,w21];done|simp_all))
  ·have z3:¬((i:Int)≤(s.size:Int)):=auz
   cases hF
   repeat first|refine cg ?_|simp -dsimp[h1,q2,z3]
   refine Leave.go _ (Gh.to3 (by simp) (by first|simp -dsimp[h1,q2,z3];done|simp_all)) hq
theorem C.f3 (s:ByteArray)(c':Int)(r:List ByteArray)(hF:F.f3 s c'=some r):PureCall Tryz.prog B 87 [.lit (.string s),.lit (.int .u8 c')] (.arr (List.map cS r)):=by
 unfold F.f3 at hF
 refine PureCall.enterLe Tryz.func87 (by kernel_rfl) rfl Tryz.ntmps87 (by simp) (by simp) ?_
 repeat first|refine cg ?_|simp -dsimp
 have hF:=ob hF;obtain⟨o',ho22,hF⟩:=hF
 refine ALoop.goU _ ?_ (((CC.f2 B hB1 hB2 s c') [] 0 0 o' ho22) _ rfl _ ?_)
 ·exact(Gh.to3 (by simp) (by simp -dsimp))
 cases hF
 repeat first|refine cg ?_|simp -dsimp
 all_goals(try first|omega|rfl)
theorem CC.f4 (names:List ByteArray)(s:ByteArray):(∀(i:Nat) (o:Lo Int Unit),F.f4 names s i=some o→∀(c:Code),navO [1,1,0,1,0,0] (bodyOf Tryz.f110)=some c→∀(Q:Exit→ASt→Prop),o.post (fun r=>∀st,Post Tryz.prog Tryz.f110 (fun r' _=>r'.le (.lit (.int .i64 r))) .ret st→Q .ret st) (fun s=>Q (.exit 0) ⟨[],[]⟩)→ALoopU Tryz.prog B 0 21 (hold c .mk) ⟨[(0,.arr (List.map cS names)),(1,.lit (.string s)),(5,.lit (.int .i64 (i:Int)))],[]⟩ (hold Q .mk)):=by
 refine F.f4.partial_correctness names s
  _
  ?_
 ·intro _f_f4 ih_f4 i o hF
  intro c hc Q hq
  obtain rfl:c=_:=navEq hc rfl
  refine ALoopU.know fun hk hs=> ?_
  have b0:=hk 0
  simp -dsimp at b0
  clear hk hs
  refine ALoopU.enter ?_
  repeat first|refine cg ?_|simp -dsimp
  revert hF;refine abr.sp ?_ ?_<;>intro h3 q4 hF
  ·have z5:((i:Int)<(names.length:Int)):=auz
   have hF:=ob hF;obtain⟨x,e6,hF⟩:=hF
   have le6:=lt_of_get e6
   repeat first|refine cg ?_|simp -dsimp[h3,z5,↓e6]
   revert hF;refine abr.sp ?_ ?_<;>intro h7 q8 hF
   ·cases hF
    repeat first|refine cg ?_|simp -dsimp[h3,z5,↓e6,h7]
    refine Leave.go _ (Gh.refl _) (hq _ ?_)
    repeat first|refine cg ?_|simp -dsimp[h3,z5,↓e6,h7]
   ·have w9:IntKind.i64.wrap ((i:Int)+1)=(i:Int)+1:=wrap_in (by omega) (by omega)
    repeat first|refine cg ?_|simp -dsimp[h3,z5,↓e6,h7,q8,w9]
    refine Again.go _ ?_ ((ih_f4 (i+1) o hF) _ rfl _ hq)
    exact(Gh.to3 (by simp) (by first|simp -dsimp[h3,z5,↓e6,h7,q8,w9];done|simp_all))
  ·have z5:¬((i:Int)<(names.length:Int)):=auz
   cases hF
   repeat first|refine cg ?_|simp -dsimp[h3,q4,z5]
   refine Leave.go _ (Gh.to3 (by simp) (by first|simp -dsimp[h3,q4,z5];done|simp_all)) hq
theorem C.f5 (names:List ByteArray)(s:ByteArray)(r:Int)(hF:F.f5 names s=some r):PureCall Tryz.prog B 110 [.arr (List.map cS names),.lit (.string s)] (.lit (.int .i64 r)):=by
 unfold F.f5 at hF
 refine PureCall.enterLe Tryz.func110 (by kernel_rfl) rfl Tryz.ntmps110 (by simp) (by simp) ?_
 repeat first|refine cg ?_|simp -dsimp
 revert hF;refine abr.sp ?_ ?_<;>intro h1 q2 hF
 ·cases hF
  repeat first|refine cg ?_|simp -dsimp[h1]
  all_goals(try first|omega|rfl)
 ·repeat first|refine cg ?_|simp -dsimp[h1,q2]
  have hF:=ob hF;obtain⟨o',ho10,hF⟩:=hF
  refine ALoop.goU _ ?_ (((CC.f4 B hB1 hB2 names s) 0 o' ho10) _ rfl _ ?_)
  ·exact(Gh.to3 (by simp) (by first|simp -dsimp[h1,q2];done|simp_all))
  rcases o' with r0|sx
  ·dsimp only at hF
   cases hF
   intro st h
   simpa using h
  ·dsimp only at hF
   cases hF
   repeat first|refine cg ?_|simp -dsimp
   all_goals(try first|omega|rfl)
theorem C.f6 (names:List ByteArray)(s:ByteArray)(r:Ty)(hF:F.f6 names s=some r):PureCall Tryz.prog B 101 [.arr (List.map cS names),.lit (.string s)] (.agg [.lit (.int .i64 r.data),.lit (.int .i64 r.index)]):=by
 unfold F.f6 at hF
 refine PureCall.enterLe Tryz.func101 (by kernel_rfl) rfl Tryz.ntmps101 (by simp) (by simp) ?_
 repeat first|refine cg ?_|simp -dsimp
 revert hF;refine abr.sp ?_ ?_<;>intro h1 q2 hF
 ·cases hF
  repeat first|refine cg ?_|simp -dsimp[h1]
  all_goals(try first|omega|rfl)
 ·have hF:=oc hF;obtain⟨c3,hF⟩:=hF
  repeat first|refine cg ?_|simp -dsimp[h1,q2]
  have hF:=ob hF;obtain⟨v,e4,hF⟩:=hF
  refine((C.f5 B hB1 hB2 names (s.extract 0 1) v e4)).goW (by first|simp[h1,q2];done|simp_all) (by simp) ?_
  repeat first|refine cg ?_|simp -dsimp[h1,q2]
  revert hF;refine abr.sp ?_ ?_<;>intro h5 q6 hF
  ·cases hF
   repeat first|refine cg ?_|simp -dsimp[h1,q2,h5]
   all_goals(try first|omega|rfl)
  ·repeat first|refine cg ?_|simp -dsimp[h1,q2,h5,q6]
   revert hF;refine abr.sp ?_ ?_<;>intro h7 q8 hF
   ·have z9:((s.size:Int)=2):=auz
    have hF:=oc hF;obtain⟨c10,hF⟩:=hF
    repeat first|refine cg ?_|simp -dsimp[h1,q2,h5,q6,h7,z9]
    revert hF;refine abr.sp ?_ ?_<;>intro h11 q12 hF
    ·have z13:(48≤((byteAt s 1:Nat):Int)):=auz
     repeat first|refine cg ?_|simp -dsimp[h1,q2,h5,q6,h7,z9,h11,z13]
     revert hF;refine abr.sp ?_ ?_<;>intro h14 q15 hF
     ·have z16:(((byteAt s 1:Nat):Int)≤57):=auz
      cases hF
      repeat first|refine cg ?_|simp -dsimp[h1,q2,h5,q6,h7,z9,h11,z13,h14,z16]
      all_goals(try first|omega|rfl)
     ·have z16:¬(((byteAt s 1:Nat):Int)≤57):=auz
      cases hF
      repeat first|refine cg ?_|simp -dsimp[h1,q2,h5,q6,h7,z9,h11,z13,h14,q15,z16]
      all_goals(try first|omega|rfl)
    ·have z13:¬(48≤((byteAt s 1:Nat):Int)):=auz
     cases hF
     repeat first|refine cg ?_|simp -dsimp[h1,q2,h5,q6,h7,z9,h11,q12,z13]
     all_goals(try first|omega|rfl)
   ·have z9:¬((s.size:Int)=2):=auz
    cases hF
    repeat first|refine cg ?_|simp -dsimp[h1,q2,h5,q6,h7,q8,z9]
    all_goals(try first|omega|rfl)
theorem CC.f7 (names:List ByteArray)(s:ByteArray)(x:ByteArray)(v21:List ByteArray):(∀(out:List Ty) (i:Nat) (o:List Ty),F.f7 names s x v21 out i=some o→∀(c:Code),navO [1,1,1,1,1,1,1,0,1,0,0] (bodyOf Tryz.f88)=some c→∀(Q:Exit→ASt→Prop),(Q (.exit 0) ⟨[(4,.ptr 0 0),(5,.ptr 1 0)],[.cells [.lit (.string ByteArray.empty),.lit (.slice none 0 0),.lit (.int .i64 0)],.cells [.lit (.string x),.own 2 (List.length (α:=Ty) o),.lit (.int .i64 (IntKind.i64.wrap (IntKind.i64.wrap ((byteAt s ((IntKind.i64.wrap ((s.size:Int) -1)).toNat):Nat):Int) -48)))],.elems 2 (List.map Ty.c o)]⟩)→ALoopU Tryz.prog B 0 83 (hold c .mk) ⟨[(0,.arr (List.map cS names)),(4,.ptr 0 0),(5,.ptr 1 0),(7,.arr (List.map cS v21)),(8,.lit (.int .i64 (i:Int)))],[.cells [.lit (.string ByteArray.empty),.lit (.slice none 0 0),.lit (.int .i64 0)],.cells [.lit (.string x),.own 2 (List.length (α:=Ty) out),.lit (.int .i64 (IntKind.i64.wrap (IntKind.i64.wrap ((byteAt s ((IntKind.i64.wrap ((s.size:Int) -1)).toNat):Nat):Int) -48)))],.elems 2 (List.map Ty.c out)]⟩ (hold Q .mk)):=by
 refine F.f7.partial_correctness names s x v21
  _
  ?_
 ·intro _f_f7 ih_f7 out i o hF
  intro c hc Q hq
  obtain rfl:c=_:=navEq hc rfl
  refine ALoopU.know fun hk hs=> ?_
  have b0:=hk 0
  simp -dsimp at b0
  have b7:=hk 7
  simp -dsimp at b7
  have d2:=hs 2 _ rfl
  simp -dsimp[Blk.bnd]at d2
  clear hk hs
  refine ALoopU.enter ?_
  repeat first|refine cg ?_|simp -dsimp
  revert hF;refine abr.sp ?_ ?_<;>intro h23 q24 hF
  ·have z25:((i:Int)<(v21.length:Int)):=auz
   repeat first|refine cg ?_|simp -dsimp[h23,z25]
   revert hF;refine abr.sp ?_ ?_<;>intro h26 q27 hF
   ·have z28:((i:Int)≤3):=auz
    repeat first|refine cg ?_|simp -dsimp[h23,z25,h26,z28]
    refine ADraw.eff [] [(0,1),(0,1),(0,0),(0,0),(0,0),(0,0),(0,0),(0,3),(0,3),(0,3),(2,2),(0,3)] [0,2,1,1,1,1,1,1,1,1,1,1] follows (by kernel_rfl) (by kernel_rfl) (by kernel_rfl) ?_
    have hF:=ob hF;obtain⟨x29,e30,hF⟩:=hF
    have le30:=lt_of_get e30
    repeat first|refine cg ?_|simp -dsimp[h23,z25,h26,z28,↓e30]
    have hF:=ob hF;obtain⟨v31,e32,hF⟩:=hF
    refine((C.f6 B hB1 hB2 names x29 v31 e32)).pgoW (by first|simp[h23,z25,h26,z28,↓e30];done|simp_all) (by simp) ?_
    have hF:=oc hF;obtain⟨c33,hF⟩:=hF
    have w34:IntKind.i64.wrap ((i:Int)+1)=(i:Int)+1:=wrap_in (by omega) (by omega)
    repeat first|refine cg ?_|simp -dsimp[h23,z25,h26,z28,↓e30,w34]
    refine Again.go _ ?_ ((ih_f7 (out++[v31]) (i+1) o hF) _ rfl _ hq)
    exact(Gh.to3 (by simp) (by first|simp -dsimp[h23,z25,h26,z28,↓e30,w34];done|simp_all))
   ·have z28:¬((i:Int)≤3):=auz
    cases hF
    repeat first|refine cg ?_|simp -dsimp[h23,z25,h26,q27,z28]
    refine Leave.go _ (Gh.to3 (by simp) (by first|simp -dsimp[h23,z25,h26,q27,z28];done|simp_all)) hq
  ·have z25:¬((i:Int)<(v21.length:Int)):=auz
   cases hF
   repeat first|refine cg ?_|simp -dsimp[h23,q24,z25]
   refine Leave.go _ (Gh.to3 (by simp) (by first|simp -dsimp[h23,q24,z25];done|simp_all)) hq
theorem CC.f8 (names:List ByteArray)(x38:ByteArray)(v49:List ByteArray):(∀(out51:List Ty) (i52:Nat) (o:List Ty),F.f8 names x38 v49 out51 i52=some o→∀(c:Code),navO [1,1,1,1,1,1,1,0,1,0,0] (bodyOf Tryz.f88)=some c→∀(Q:Exit→ASt→Prop),(Q (.exit 0) ⟨[(4,.ptr 0 0),(5,.ptr 1 0)],[.cells [.lit (.string ByteArray.empty),.lit (.slice none 0 0),.lit (.int .i64 0)],.cells [.lit (.string x38),.own 2 (List.length (α:=Ty) o),.lit (.int .i64 0)],.elems 2 (List.map Ty.c o)]⟩)→ALoopU Tryz.prog B 0 83 (hold c .mk) ⟨[(0,.arr (List.map cS names)),(4,.ptr 0 0),(5,.ptr 1 0),(7,.arr (List.map cS v49)),(8,.lit (.int .i64 (i52:Int)))],[.cells [.lit (.string ByteArray.empty),.lit (.slice none 0 0),.lit (.int .i64 0)],.cells [.lit (.string x38),.own 2 (List.length (α:=Ty) out51),.lit (.int .i64 0)],.elems 2 (List.map Ty.c out51)]⟩ (hold Q .mk)):=by
 refine F.f8.partial_correctness names x38 v49
  _
  ?_
 ·intro _f_f8 ih_f8 out51 i52 o hF
  intro c hc Q hq
  obtain rfl:c=_:=navEq hc rfl
  refine ALoopU.know fun hk hs=> ?_
  have b0:=hk 0
  simp -dsimp at b0
  have b7:=hk 7
  simp -dsimp at b7
  have d2:=hs 2 _ rfl
  simp -dsimp[Blk.bnd]at d2
  clear hk hs
  refine ALoopU.enter ?_
  repeat first|refine cg ?_|simp -dsimp
  revert hF;refine abr.sp ?_ ?_<;>intro h53 q54 hF
  ·have z55:((i52:Int)<(v49.length:Int)):=auz
   repeat first|refine cg ?_|simp -dsimp[h53,z55]
   revert hF;refine abr.sp ?_ ?_<;>intro h56 q57 hF
   ·have z58:((i52:Int)≤3):=auz
    repeat first|refine cg ?_|simp -dsimp[h53,z55,h56,z58]
    refine ADraw.eff [] [(0,1),(0,1),(0,0),(0,0),(0,0),(0,0),(0,0),(0,3),(0,3),(0,3),(2,2),(0,3)] [0,2,1,1,1,1,1,1,1,1,1,1] follows (by kernel_rfl) (by kernel_rfl) (by kernel_rfl) ?_
    have hF:=ob hF;obtain⟨x59,e60,hF⟩:=hF
    have le60:=lt_of_get e60
    repeat first|refine cg ?_|simp -dsimp[h53,z55,h56,z58,↓e60]
    have hF:=ob hF;obtain⟨v61,e62,hF⟩:=hF
    refine((C.f6 B hB1 hB2 names x59 v61 e62)).pgoW (by first|simp[h53,z55,h56,z58,↓e60];done|simp_all) (by simp) ?_
    have hF:=oc hF;obtain⟨c63,hF⟩:=hF
    have w64:IntKind.i64.wrap ((i52:Int)+1)=(i52:Int)+1:=wrap_in (by omega) (by omega)
    repeat first|refine cg ?_|simp -dsimp[h53,z55,h56,z58,↓e60,w64]
    refine Again.go _ ?_ ((ih_f8 (out51++[v61]) (i52+1) o hF) _ rfl _ hq)
    exact(Gh.to3 (by simp) (by first|simp -dsimp[h53,z55,h56,z58,↓e60,w64];done|simp_all))
   ·have z58:¬((i52:Int)≤3):=auz
    cases hF
    repeat first|refine cg ?_|simp -dsimp[h53,z55,h56,q57,z58]
    refine Leave.go _ (Gh.to3 (by simp) (by first|simp -dsimp[h53,z55,h56,q57,z58];done|simp_all)) hq
  ·have z55:¬((i52:Int)<(v49.length:Int)):=auz
   cases hF
   repeat first|refine cg ?_|simp -dsimp[h53,q54,z55]
   refine Leave.go _ (Gh.to3 (by simp) (by first|simp -dsimp[h53,q54,z55];done|simp_all)) hq
theorem CC.f9 (names:List ByteArray)(x69:ByteArray)(v80:List ByteArray):(∀(out82:List Ty) (i83:Nat) (o:List Ty),F.f9 names x69 v80 out82 i83=some o→∀(c:Code),navO [1,1,1,1,1,1,1,0,1,0,0] (bodyOf Tryz.f88)=some c→∀(Q:Exit→ASt→Prop),(Q (.exit 0) ⟨[(4,.ptr 0 0),(5,.ptr 1 0)],[.cells [.lit (.string ByteArray.empty),.lit (.slice none 0 0),.lit (.int .i64 0)],.cells [.lit (.string x69),.own 2 (List.length (α:=Ty) o),.lit (.int .i64 0)],.elems 2 (List.map Ty.c o)]⟩)→ALoopU Tryz.prog B 0 83 (hold c .mk) ⟨[(0,.arr (List.map cS names)),(4,.ptr 0 0),(5,.ptr 1 0),(7,.arr (List.map cS v80)),(8,.lit (.int .i64 (i83:Int)))],[.cells [.lit (.string ByteArray.empty),.lit (.slice none 0 0),.lit (.int .i64 0)],.cells [.lit (.string x69),.own 2 (List.length (α:=Ty) out82),.lit (.int .i64 0)],.elems 2 (List.map Ty.c out82)]⟩ (hold Q .mk)):=by
 refine F.f9.partial_correctness names x69 v80
  _
  ?_
 ·intro _f_f9 ih_f9 out82 i83 o hF
  intro c hc Q hq
  obtain rfl:c=_:=navEq hc rfl
  refine ALoopU.know fun hk hs=> ?_
  have b0:=hk 0
  simp -dsimp at b0
  have b7:=hk 7
  simp -dsimp at b7
  have d2:=hs 2 _ rfl
  simp -dsimp[Blk.bnd]at d2
  clear hk hs
  refine ALoopU.enter ?_
  repeat first|refine cg ?_|simp -dsimp
  revert hF;refine abr.sp ?_ ?_<;>intro h84 q85 hF
  ·have z86:((i83:Int)<(v80.length:Int)):=auz
   repeat first|refine cg ?_|simp -dsimp[h84,z86]
   revert hF;refine abr.sp ?_ ?_<;>intro h87 q88 hF
   ·have z89:((i83:Int)≤3):=auz
    repeat first|refine cg ?_|simp -dsimp[h84,z86,h87,z89]
    refine ADraw.eff [] [(0,1),(0,1),(0,0),(0,0),(0,0),(0,0),(0,0),(0,3),(0,3),(0,3),(2,2),(0,3)] [0,2,1,1,1,1,1,1,1,1,1,1] follows (by kernel_rfl) (by kernel_rfl) (by kernel_rfl) ?_
    have hF:=ob hF;obtain⟨x90,e91,hF⟩:=hF
    have le91:=lt_of_get e91
    repeat first|refine cg ?_|simp -dsimp[h84,z86,h87,z89,↓e91]
    have hF:=ob hF;obtain⟨v92,e93,hF⟩:=hF
    refine((C.f6 B hB1 hB2 names x90 v92 e93)).pgoW (by first|simp[h84,z86,h87,z89,↓e91];done|simp_all) (by simp) ?_
    have hF:=oc hF;obtain⟨c94,hF⟩:=hF
    have w95:IntKind.i64.wrap ((i83:Int)+1)=(i83:Int)+1:=wrap_in (by omega) (by omega)
    repeat first|refine cg ?_|simp -dsimp[h84,z86,h87,z89,↓e91,w95]
    refine Again.go _ ?_ ((ih_f9 (out82++[v92]) (i83+1) o hF) _ rfl _ hq)
    exact(Gh.to3 (by simp) (by first|simp -dsimp[h84,z86,h87,z89,↓e91,w95];done|simp_all))
   ·have z89:¬((i83:Int)≤3):=auz
    cases hF
    repeat first|refine cg ?_|simp -dsimp[h84,z86,h87,q88,z89]
    refine Leave.go _ (Gh.to3 (by simp) (by first|simp -dsimp[h84,z86,h87,q88,z89];done|simp_all)) hq
  ·have z86:¬((i83:Int)<(v80.length:Int)):=auz
   cases hF
   repeat first|refine cg ?_|simp -dsimp[h84,q85,z86]
   refine Leave.go _ (Gh.to3 (by simp) (by first|simp -dsimp[h84,q85,z86];done|simp_all)) hq
theorem C.f10 (names:List ByteArray)(s:ByteArray)(r:Ctor)(hF:F.f10 names s=some r):PureCall Tryz.prog B 88 [.arr (List.map cS names),.lit (.string s)] (.agg [.lit (.string r.name),.arr (List.map Ty.c r.args),.lit (.int .i64 r.index)]):=by
 unfold F.f10 at hF
 refine PureCall.enterLe Tryz.func88 (by kernel_rfl) rfl Tryz.ntmps88 (by simp) (by simp) ?_
 repeat first|refine cg ?_|simp -dsimp
 revert hF;refine abr.sp ?_ ?_<;>intro h1 q2 hF
 ·have z3:(2<(s.size:Int)):=auz
  have hF:=oc hF;obtain⟨c4,hF⟩:=hF
  repeat first|refine cg ?_|simp -dsimp[h1,z3]
  revert hF;refine abr.sp ?_ ?_<;>intro h5 q6 hF
  ·have z7:(((byteAt s ((IntKind.i64.wrap ((s.size:Int) -2)).toNat):Nat):Int)=58):=auz
   have hF:=oc hF;obtain⟨c8,hF⟩:=hF
   have hF:=oc hF;obtain⟨c9,hF⟩:=hF
   repeat first|refine cg ?_|simp -dsimp[h1,z3,h5,z7]
   have hF:=ob hF;obtain⟨v,e10,hF⟩:=hF
   refine((C.f3 B hB1 hB2 (s.extract 0 ((IntKind.i64.wrap ((s.size:Int) -2)).toNat)) 40 v e10)).goW (by first|simp[h1,z3,h5,z7];done|simp_all) (by simp) ?_
   have hF:=ob hF;obtain⟨x,e11,hF⟩:=hF
   have le11:=lt_of_get e11
   repeat first|refine cg ?_|simp -dsimp[h1,z3,h5,z7,↓e11]
   revert hF;refine abr.ns ?_ ?_<;>intro h12 q13 hF
   ·have z14:¬((v.length:Int)<2):=auz
    have hF:=ob hF;obtain⟨x15,e16,hF⟩:=hF
    have le16:=lt_of_get e16
    repeat first|refine cg ?_|simp -dsimp[h1,z3,h5,z7,↓e11,h12,q13,z14,↓e16]
    revert hF;refine abr.sp ?_ ?_<;>intro h17 q18 hF
    ·have z19:((x15.size:Int)=0):=auz
     cases hF
     repeat first|refine cg ?_|simp -dsimp[h1,z3,h5,z7,↓e11,h12,q13,z14,↓e16,h17,z19]
     all_goals(try first|omega|rfl)
    ·have z19:¬((x15.size:Int)=0):=auz
     repeat first|refine cg ?_|simp -dsimp[h1,z3,h5,z7,↓e11,h12,q13,z14,↓e16,h17,q18,z19]
     refine ADraw.simple follows (by kernel_rfl) (by kernel_rfl) ?_
     have hF:=oc hF;obtain⟨c20,hF⟩:=hF
     repeat first|refine cg ?_|simp -dsimp[h1,z3,h5,z7,↓e11,h12,q13,z14,↓e16,h17,q18,z19]
     have hF:=ob hF;obtain⟨v21,e22,hF⟩:=hF
     refine((C.f3 B hB1 hB2 (x15.extract 0 ((IntKind.i64.wrap ((x15.size:Int) -1)).toNat)) 44 v21 e22)).pgoW (by first|simp[h1,z3,h5,z7,↓e11,h12,q13,z14,↓e16,h17,q18,z19];done|simp_all) (by simp) ?_
     repeat first|refine cg ?_|simp -dsimp[h1,z3,h5,z7,↓e11,h12,q13,z14,↓e16,h17,q18,z19]
     have hF:=ob hF;obtain⟨o',ho35,hF⟩:=hF
     refine ALoop.goU ⟨[(0,.arr (List.map cS names)),(4,.ptr 0 0),(5,.ptr 1 0),(7,.arr (List.map cS v21)),(8,.lit (.int .i64 0))],[.cells [.lit (.string ByteArray.empty),.lit (.slice none 0 0),.lit (.int .i64 0)],.cells [.lit (.string x),.own 2 (List.length (α:=Ty) []),.lit (.int .i64 (IntKind.i64.wrap (IntKind.i64.wrap ((byteAt s ((IntKind.i64.wrap ((s.size:Int) -1)).toNat):Nat):Int) -48)))],.elems 2 (List.map Ty.c [])]⟩ (by refine Gh.trans (Gh.nilCell 1 1 2 (by simp -dsimp;rfl) (by simp -dsimp)) ?_;exact(Gh.to3 (by simp) (by first|simp -dsimp[h1,z3,h5,z7,↓e11,h12,q13,z14,↓e16,h17,q18,z19];done|simp_all))) ?_
     refine((CC.f7 B hB1 hB2 names s x v21) [] 0 o' ho35) _ rfl _ ?_
     cases hF
     repeat first|refine cg ?_|simp -dsimp
     all_goals(try first|omega|rfl)
   ·have z14:((v.length:Int)<2):=auz
    cases hF
    repeat first|refine cg ?_|simp -dsimp[h1,z3,h5,z7,↓e11,h12,q13,z14]
    all_goals(try first|omega|rfl)
  ·have z7:¬(((byteAt s ((IntKind.i64.wrap ((s.size:Int) -2)).toNat):Nat):Int)=58):=auz
   repeat first|refine cg ?_|simp -dsimp[h1,z3,h5,q6,z7]
   have hF:=ob hF;obtain⟨v36,e37,hF⟩:=hF
   refine((C.f3 B hB1 hB2 s 40 v36 e37)).goW (by first|simp[h1,z3,h5,q6,z7];done|simp_all) (by simp) ?_
   have hF:=ob hF;obtain⟨x38,e39,hF⟩:=hF
   have le39:=lt_of_get e39
   repeat first|refine cg ?_|simp -dsimp[h1,z3,h5,q6,z7,↓e39]
   revert hF;refine abr.ns ?_ ?_<;>intro h40 q41 hF
   ·have z42:¬((v36.length:Int)<2):=auz
    have hF:=ob hF;obtain⟨x43,e44,hF⟩:=hF
    have le44:=lt_of_get e44
    repeat first|refine cg ?_|simp -dsimp[h1,z3,h5,q6,z7,↓e39,h40,q41,z42,↓e44]
    revert hF;refine abr.sp ?_ ?_<;>intro h45 q46 hF
    ·have z47:((x43.size:Int)=0):=auz
     cases hF
     repeat first|refine cg ?_|simp -dsimp[h1,z3,h5,q6,z7,↓e39,h40,q41,z42,↓e44,h45,z47]
     all_goals(try first|omega|rfl)
    ·have z47:¬((x43.size:Int)=0):=auz
     repeat first|refine cg ?_|simp -dsimp[h1,z3,h5,q6,z7,↓e39,h40,q41,z42,↓e44,h45,q46,z47]
     refine ADraw.simple follows (by kernel_rfl) (by kernel_rfl) ?_
     have hF:=oc hF;obtain⟨c48,hF⟩:=hF
     repeat first|refine cg ?_|simp -dsimp[h1,z3,h5,q6,z7,↓e39,h40,q41,z42,↓e44,h45,q46,z47]
     have hF:=ob hF;obtain⟨v49,e50,hF⟩:=hF
     refine((C.f3 B hB1 hB2 (x43.extract 0 ((IntKind.i64.wrap ((x43.size:Int) -1)).toNat)) 44 v49 e50)).pgoW (by first|simp[h1,z3,h5,q6,z7,↓e39,h40,q41,z42,↓e44,h45,q46,z47];done|simp_all) (by simp) ?_
     repeat first|refine cg ?_|simp -dsimp[h1,z3,h5,q6,z7,↓e39,h40,q41,z42,↓e44,h45,q46,z47]
     have hF:=ob hF;obtain⟨o'66,ho65,hF⟩:=hF
     refine ALoop.goU ⟨[(0,.arr (List.map cS names)),(4,.ptr 0 0),(5,.ptr 1 0),(7,.arr (List.map cS v49)),(8,.lit (.int .i64 0))],[.cells [.lit (.string ByteArray.empty),.lit (.slice none 0 0),.lit (.int .i64 0)],.cells [.lit (.string x38),.own 2 (List.length (α:=Ty) []),.lit (.int .i64 0)],.elems 2 (List.map Ty.c [])]⟩ (by refine Gh.trans (Gh.nilCell 1 1 2 (by simp -dsimp;rfl) (by simp -dsimp)) ?_;exact(Gh.to3 (by simp) (by first|simp -dsimp[h1,z3,h5,q6,z7,↓e39,h40,q41,z42,↓e44,h45,q46,z47];done|simp_all))) ?_
     refine((CC.f8 B hB1 hB2 names x38 v49) [] 0 o'66 ho65) _ rfl _ ?_
     cases hF
     repeat first|refine cg ?_|simp -dsimp
     all_goals(try first|omega|rfl)
   ·have z42:((v36.length:Int)<2):=auz
    cases hF
    repeat first|refine cg ?_|simp -dsimp[h1,z3,h5,q6,z7,↓e39,h40,q41,z42]
    all_goals(try first|omega|rfl)
 ·have z3:¬(2<(s.size:Int)):=auz
  repeat first|refine cg ?_|simp -dsimp[h1,q2,z3]
  have hF:=ob hF;obtain⟨v67,e68,hF⟩:=hF
  refine((C.f3 B hB1 hB2 s 40 v67 e68)).goW (by first|simp[h1,q2,z3];done|simp_all) (by simp) ?_
  have hF:=ob hF;obtain⟨x69,e70,hF⟩:=hF
  have le70:=lt_of_get e70
  repeat first|refine cg ?_|simp -dsimp[h1,q2,z3,↓e70]
  revert hF;refine abr.ns ?_ ?_<;>intro h71 q72 hF
  ·have z73:¬((v67.length:Int)<2):=auz
   have hF:=ob hF;obtain⟨x74,e75,hF⟩:=hF
   have le75:=lt_of_get e75
   repeat first|refine cg ?_|simp -dsimp[h1,q2,z3,↓e70,h71,q72,z73,↓e75]
   revert hF;refine abr.sp ?_ ?_<;>intro h76 q77 hF
   ·have z78:((x74.size:Int)=0):=auz
    cases hF
    repeat first|refine cg ?_|simp -dsimp[h1,q2,z3,↓e70,h71,q72,z73,↓e75,h76,z78]
    all_goals(try first|omega|rfl)
   ·have z78:¬((x74.size:Int)=0):=auz
    repeat first|refine cg ?_|simp -dsimp[h1,q2,z3,↓e70,h71,q72,z73,↓e75,h76,q77,z78]
    refine ADraw.simple follows (by kernel_rfl) (by kernel_rfl) ?_
    have hF:=oc hF;obtain⟨c79,hF⟩:=hF
    repeat first|refine cg ?_|simp -dsimp[h1,q2,z3,↓e70,h71,q72,z73,↓e75,h76,q77,z78]
    have hF:=ob hF;obtain⟨v80,e81,hF⟩:=hF
    refine((C.f3 B hB1 hB2 (x74.extract 0 ((IntKind.i64.wrap ((x74.size:Int) -1)).toNat)) 44 v80 e81)).pgoW (by first|simp[h1,q2,z3,↓e70,h71,q72,z73,↓e75,h76,q77,z78];done|simp_all) (by simp) ?_
    repeat first|refine cg ?_|simp -dsimp[h1,q2,z3,↓e70,h71,q72,z73,↓e75,h76,q77,z78]
    have hF:=ob hF;obtain⟨o'97,ho96,hF⟩:=hF
    refine ALoop.goU ⟨[(0,.arr (List.map cS names)),(4,.ptr 0 0),(5,.ptr 1 0),(7,.arr (List.map cS v80)),(8,.lit (.int .i64 0))],[.cells [.lit (.string ByteArray.empty),.lit (.slice none 0 0),.lit (.int .i64 0)],.cells [.lit (.string x69),.own 2 (List.length (α:=Ty) []),.lit (.int .i64 0)],.elems 2 (List.map Ty.c [])]⟩ (by refine Gh.trans (Gh.nilCell 1 1 2 (by simp -dsimp;rfl) (by simp -dsimp)) ?_;exact(Gh.to3 (by simp) (by first|simp -dsimp[h1,q2,z3,↓e70,h71,q72,z73,↓e75,h76,q77,z78];done|simp_all))) ?_
    refine((CC.f9 B hB1 hB2 names x69 v80) [] 0 o'97 ho96) _ rfl _ ?_
    cases hF
    repeat first|refine cg ?_|simp -dsimp
    all_goals(try first|omega|rfl)
  ·have z73:((v67.length:Int)<2):=auz
   cases hF
   repeat first|refine cg ?_|simp -dsimp[h1,q2,z3,↓e70,h71,q72,z73]
   all_goals(try first|omega|rfl)
theorem C.f11 (c':Int)(r:Bool)(hF:F.f11 c'=some r):PureCall Tryz.prog B 92 [.lit (.int .u8 c')] (.lit (.bool r)):=by
 unfold F.f11 at hF
 refine PureCall.enterLe Tryz.func92 (by kernel_rfl) rfl Tryz.ntmps92 (by simp) (by simp) ?_
 repeat first|refine cg ?_|simp -dsimp
 revert hF;refine abr.sp ?_ ?_<;>intro h1 q2 hF
 ·cases hF
  repeat first|refine cg ?_|simp -dsimp[h1]
  all_goals(try first|omega|rfl)
 ·cases hF
  repeat first|refine cg ?_|simp -dsimp[h1,q2]
  all_goals(try first|omega|rfl)
theorem C.f12 (s:ByteArray)(r:Bool)(hF:F.f12 s=some r):PureCall Tryz.prog B 71 [.lit (.string s)] (.lit (.bool r)):=by
 unfold F.f12 at hF
 refine PureCall.enterLe Tryz.func71 (by kernel_rfl) rfl Tryz.ntmps71 (by simp) (by simp) ?_
 repeat first|refine cg ?_|simp -dsimp
 revert hF;refine abr.sp ?_ ?_<;>intro h1 q2 hF
 ·have z3:((s.size:Int)=1):=auz
  have hF:=oc hF;obtain⟨c4,hF⟩:=hF
  repeat first|refine cg ?_|simp -dsimp[h1,z3]
  have hF:=ob hF;obtain⟨v,e5,hF⟩:=hF
  refine((C.f11 B hB1 hB2 ((byteAt s 0:Nat):Int) v e5)).goW (by first|simp[h1,z3];done|simp_all) (by simp) ?_
  repeat first|refine cg ?_|simp -dsimp[h1,z3]
  revert hF;refine abr.sp (fun h6 q7 hF=> ?_) (fun h6 q7 hF=> ?_)
  ·cases hF
   repeat first|refine cg ?_|simp -dsimp[h1,z3,h6]
   all_goals(try first|omega|rfl)
  ·cases hF
   repeat first|refine cg ?_|simp -dsimp[h1,z3,h6,q7]
   all_goals(try first|omega|rfl)
 ·have z3:¬((s.size:Int)=1):=auz
  cases hF
  repeat first|refine cg ?_|simp -dsimp[h1,q2,z3]
  all_goals(try first|omega|rfl)
theorem CC.f13 (s:ByteArray):(∀(i:Nat) (o:Lo Bool Unit),F.f13 s i=some o→∀(c:Code),navO [1,1,0,1,0,0] (bodyOf Tryz.f93)=some c→∀(Q:Exit→ASt→Prop),o.post (fun r=>∀st,Post Tryz.prog Tryz.f93 (fun r' _=>r'.le (.lit (.bool r))) .ret st→Q .ret st) (fun s=>Q (.exit 0) ⟨[],[]⟩)→ALoopU Tryz.prog B 0 34 (hold c .mk) ⟨[(0,.lit (.string s)),(3,.lit (.int .i64 (i:Int)))],[]⟩ (hold Q .mk)):=by
 refine F.f13.partial_correctness s
  _
  ?_
 ·intro _f_f13 ih_f13 i o hF
  intro c hc Q hq
  obtain rfl:c=_:=navEq hc rfl
  refine ALoopU.know fun hk hs=> ?_
  clear hk hs
  refine ALoopU.enter ?_
  repeat first|refine cg ?_|simp -dsimp
  revert hF;refine abr.sp ?_ ?_<;>intro h11 q12 hF
  ·have z13:((i:Int)<(s.size:Int)):=auz
   repeat first|refine cg ?_|simp -dsimp[h11,z13]
   revert hF;refine abr.ns ?_ ?_<;>intro h14 q15 hF
   ·have z16:¬(((byteAt s i:Nat):Int)<97):=auz
    repeat first|refine cg ?_|simp -dsimp[h11,z13,h14,q15,z16]
    revert hF;refine abr.sp ?_ ?_<;>intro h17 q18 hF
    ·have z19:(122<((byteAt s i:Nat):Int)):=auz
     cases hF
     repeat first|refine cg ?_|simp -dsimp[h11,z13,h14,q15,z16,h17,z19]
     refine Leave.go _ (Gh.refl _) (hq _ ?_)
     repeat first|refine cg ?_|simp -dsimp[h11,z13,h14,q15,z16,h17,z19]
    ·have z19:¬(122<((byteAt s i:Nat):Int)):=auz
     have hF:=oc hF;obtain⟨c20,hF⟩:=hF
     have w21:IntKind.i64.wrap ((i:Int)+1)=(i:Int)+1:=wrap_in (by omega) (by omega)
     repeat first|refine cg ?_|simp -dsimp[h11,z13,h14,q15,z16,h17,q18,z19,w21]
     refine Again.go _ ?_ ((ih_f13 (i+1) o hF) _ rfl _ hq)
     exact(Gh.to3 (by simp) (by first|simp -dsimp[h11,z13,h14,q15,z16,h17,q18,z19,w21];done|simp_all))
   ·have z16:(((byteAt s i:Nat):Int)<97):=auz
    cases hF
    repeat first|refine cg ?_|simp -dsimp[h11,z13,h14,q15,z16]
    refine Leave.go _ (Gh.refl _) (hq _ ?_)
    repeat first|refine cg ?_|simp -dsimp[h11,z13,h14,q15,z16]
  ·have z13:¬((i:Int)<(s.size:Int)):=auz
   cases hF
   repeat first|refine cg ?_|simp -dsimp[h11,q12,z13]
   refine Leave.go _ (Gh.to3 (by simp) (by first|simp -dsimp[h11,q12,z13];done|simp_all)) hq
theorem C.f14 (s:ByteArray)(r:Bool)(hF:F.f14 s=some r):PureCall Tryz.prog B 93 [.lit (.string s)] (.lit (.bool r)):=by
 unfold F.f14 at hF
 refine PureCall.enterLe Tryz.func93 (by kernel_rfl) rfl Tryz.ntmps93 (by simp) (by simp) ?_
 repeat first|refine cg ?_|simp -dsimp
 revert hF;refine abr.ns ?_ ?_<;>intro h1 q2 hF
 ·have z3:¬((s.size:Int)=0):=auz
  repeat first|refine cg ?_|simp -dsimp[h1,q2,z3]
  revert hF;refine abr.ns ?_ ?_<;>intro h4 q5 hF
  ·have z6:¬(5<(s.size:Int)):=auz
   have hF:=oc hF;obtain⟨c7,hF⟩:=hF
   repeat first|refine cg ?_|simp -dsimp[h1,q2,z3,h4,q5,z6]
   have hF:=ob hF;obtain⟨v,e8,hF⟩:=hF
   refine((C.f11 B hB1 hB2 ((byteAt s 0:Nat):Int) v e8)).goW (by first|simp[h1,q2,z3,h4,q5,z6];done|simp_all) (by simp) ?_
   repeat first|refine cg ?_|simp -dsimp[h1,q2,z3,h4,q5,z6]
   revert hF;refine abr.ns (fun h9 q10 hF=> ?_) (fun h9 q10 hF=> ?_)
   ·cases hF
    repeat first|refine cg ?_|simp -dsimp[h1,q2,z3,h4,q5,z6,h9,q10]
    all_goals(try first|omega|rfl)
   ·repeat first|refine cg ?_|simp -dsimp[h1,q2,z3,h4,q5,z6,h9,q10]
    have hF:=ob hF;obtain⟨o',ho22,hF⟩:=hF
    refine ALoop.goU _ ?_ (((CC.f13 B hB1 hB2 s) 1 o' ho22) _ rfl _ ?_)
    ·exact(Gh.to3 (by simp) (by first|simp -dsimp[h1,q2,z3,h4,q5,z6,h9,q10];done|simp_all))
    rcases o' with r0|sx
    ·dsimp only at hF
     cases hF
     intro st h
     simpa using h
    ·dsimp only at hF
     cases hF
     repeat first|refine cg ?_|simp -dsimp
     all_goals(try first|omega|rfl)
  ·have z6:(5<(s.size:Int)):=auz
   cases hF
   repeat first|refine cg ?_|simp -dsimp[h1,q2,z3,h4,q5,z6]
   all_goals(try first|omega|rfl)
 ·have z3:((s.size:Int)=0):=auz
  cases hF
  repeat first|refine cg ?_|simp -dsimp[h1,q2,z3]
  all_goals(try first|omega|rfl)
theorem C.f15 (n:Int)(t:Ty)(r:Bool)(hF:F.f15 n t=some r):PureCall Tryz.prog B 74 [.lit (.int .i64 n),.agg [.lit (.int .i64 t.data),.lit (.int .i64 t.index)]] (.lit (.bool r)):=by
 unfold F.f15 at hF
 refine PureCall.enterLe Tryz.func74 (by kernel_rfl) rfl Tryz.ntmps74 (by simp) (by simp) ?_
 repeat first|refine cg ?_|simp -dsimp
 revert hF;refine abr.sp ?_ ?_<;>intro h1 q2 hF
 ·cases hF
  repeat first|refine cg ?_|simp -dsimp[h1]
  all_goals(try first|omega|rfl)
 ·repeat first|refine cg ?_|simp -dsimp[h1,q2]
  revert hF;refine abr.sp ?_ ?_<;>intro h3 q4 hF
  ·repeat first|refine cg ?_|simp -dsimp[h1,q2,h3]
   revert hF;refine abr.sp ?_ ?_<;>intro h5 q6 hF
   ·repeat first|refine cg ?_|simp -dsimp[h1,q2,h3,h5]
    revert hF;refine abr.sp ?_ ?_<;>intro h7 q8 hF
    ·cases hF
     repeat first|refine cg ?_|simp -dsimp[h1,q2,h3,h5,h7]
     all_goals(try first|omega|rfl)
    ·cases hF
     repeat first|refine cg ?_|simp -dsimp[h1,q2,h3,h5,h7,q8]
     all_goals(try first|omega|rfl)
   ·cases hF
    repeat first|refine cg ?_|simp -dsimp[h1,q2,h3,h5,q6]
    all_goals(try first|omega|rfl)
  ·cases hF
   repeat first|refine cg ?_|simp -dsimp[h1,q2,h3,q4]
   all_goals(try first|omega|rfl)
theorem CC.f16 (n:Int)(c':Ctor):(∀(i:Nat) (o:Lo Bool Unit),F.f16 n c' i=some o→∀(c:Code),navO [1,1,0,1,0,0] (bodyOf Tryz.f72)=some c→∀(Q:Exit→ASt→Prop),o.post (fun r=>∀st,Post Tryz.prog Tryz.f72 (fun r' _=>r'.le (.lit (.bool r))) .ret st→Q .ret st) (fun s=>Q (.exit 0) ⟨[],[]⟩)→ALoopU Tryz.prog B 0 41 (hold c .mk) ⟨[(0,.lit (.int .i64 n)),(3,.ptr 0 0),(5,.lit (.int .i64 (i:Int)))],[.cells [.lit (.string c'.name),.arr (List.map Ty.c c'.args),.lit (.int .i64 c'.index)]]⟩ (hold Q .mk)):=by
 refine F.f16.partial_correctness n c'
  _
  ?_
 ·intro _f_f16 ih_f16 i o hF
  intro c hc Q hq
  obtain rfl:c=_:=navEq hc rfl
  refine ALoopU.know fun hk hs=> ?_
  have d0:=hs 0 _ rfl
  simp -dsimp[Blk.bnd]at d0
  clear hk hs
  refine ALoopU.enter ?_
  repeat first|refine cg ?_|simp -dsimp
  revert hF;refine abr.sp ?_ ?_<;>intro h11 q12 hF
  ·have z13:((i:Int)<(c'.args.length:Int)):=auz
   have hF:=ob hF;obtain⟨x,e14,hF⟩:=hF
   have le14:=lt_of_get e14
   repeat first|refine cg ?_|simp -dsimp[h11,z13,↓e14]
   have hF:=ob hF;obtain⟨v15,e16,hF⟩:=hF
   refine((C.f15 B hB1 hB2 n x v15 e16)).goW (by first|simp[h11,z13,↓e14];done|simp_all) (by simp) ?_
   repeat first|refine cg ?_|simp -dsimp[h11,z13,↓e14]
   revert hF;refine abr.ns (fun h17 q18 hF=> ?_) (fun h17 q18 hF=> ?_)
   ·cases hF
    repeat first|refine cg ?_|simp -dsimp[h11,z13,↓e14,h17,q18]
    refine Leave.go _ (Gh.refl _) (hq _ ?_)
    repeat first|refine cg ?_|simp -dsimp[h11,z13,↓e14,h17,q18]
   ·have w19:IntKind.i64.wrap ((i:Int)+1)=(i:Int)+1:=wrap_in (by omega) (by omega)
    repeat first|refine cg ?_|simp -dsimp[h11,z13,↓e14,h17,q18,w19]
    refine Again.go _ ?_ ((ih_f16 (i+1) o hF) _ rfl _ hq)
    exact(Gh.to3 (by simp) (by first|simp -dsimp[h11,z13,↓e14,h17,q18,w19];done|simp_all))
  ·have z13:¬((i:Int)<(c'.args.length:Int)):=auz
   cases hF
   repeat first|refine cg ?_|simp -dsimp[h11,q12,z13]
   refine Leave.go _ (Gh.to3 (by simp) (by first|simp -dsimp[h11,q12,z13];done|simp_all)) hq
theorem C.f17 (n:Int)(c':Ctor)(r:Bool)(hF:F.f17 n c'=some r):PureCall Tryz.prog B 72 [.lit (.int .i64 n),.agg [.lit (.string c'.name),.arr (List.map Ty.c c'.args),.lit (.int .i64 c'.index)]] (.lit (.bool r)):=by
 unfold F.f17 at hF
 refine PureCall.enterLe Tryz.func72 (by kernel_rfl) rfl Tryz.ntmps72 (by simp) (by simp) ?_
 repeat first|refine cg ?_|simp -dsimp
 have hF:=ob hF;obtain⟨v,e1,hF⟩:=hF
 refine((C.f14 B hB1 hB2 c'.name v e1)).goW (by simp) (by simp) ?_
 repeat first|refine cg ?_|simp -dsimp
 revert hF;refine abr.sp (fun h2 q3 hF=> ?_) (fun h2 q3 hF=> ?_)
 ·repeat first|refine cg ?_|simp -dsimp[h2]
  revert hF;refine abr.ns ?_ ?_<;>intro h4 q5 hF
  ·have z6:¬(3<(c'.args.length:Int)):=auz
   repeat first|refine cg ?_|simp -dsimp[h2,h4,q5,z6]
   revert hF;refine abr.ns ?_ ?_<;>intro h7 q8 hF
   ·repeat first|refine cg ?_|simp -dsimp[h2,h4,q5,z6,h7,q8]
    revert hF;refine abr.sp ?_ ?_<;>intro h9 q10 hF
    ·cases hF
     repeat first|refine cg ?_|simp -dsimp[h2,h4,q5,z6,h7,q8,h9]
     all_goals(try first|omega|rfl)
    ·repeat first|refine cg ?_|simp -dsimp[h2,h4,q5,z6,h7,q8,h9,q10]
     have hF:=ob hF;obtain⟨o',ho20,hF⟩:=hF
     refine ALoop.goU _ ?_ (((CC.f16 B hB1 hB2 n c') 0 o' ho20) _ rfl _ ?_)
     ·exact(Gh.to3 (by simp) (by first|simp -dsimp[h2,h4,q5,z6,h7,q8,h9,q10];done|simp_all))
     rcases o' with r0|sx
     ·dsimp only at hF
      cases hF
      intro st h
      simpa using h
     ·dsimp only at hF
      cases hF
      repeat first|refine cg ?_|simp -dsimp
      all_goals(try first|omega|rfl)
   ·cases hF
    repeat first|refine cg ?_|simp -dsimp[h2,h4,q5,z6,h7,q8]
    all_goals(try first|omega|rfl)
  ·have z6:(3<(c'.args.length:Int)):=auz
   cases hF
   repeat first|refine cg ?_|simp -dsimp[h2,h4,q5,z6]
   all_goals(try first|omega|rfl)
 ·cases hF
  repeat first|refine cg ?_|simp -dsimp[h2,q3]
  all_goals(try first|omega|rfl)
theorem CC.f18 (w:List Vl.Data)(d:Int)(k:Int)(i:Nat):(∀(j:Nat) (o:Lo Bool Unit),F.f18 w d k i j=some o→∀(c:Code),navO [1,0,1,0,0,1,0,0,1,1,0,0] (bodyOf Tryz.f73)=some c→∀(Q:Exit→ASt→Prop),o.post (fun r=>∀st,Post Tryz.prog Tryz.f73 (fun r' _=>r'.le (.lit (.bool r))) .ret st→Q .ret st) (fun s=>Q (.exit 2) ⟨[(0,.arr (List.map Vl.Data.c w)),(1,.lit (.int .i64 d)),(2,.lit (.int .i64 k)),(7,.lit (.int .i64 (i:Int)))],[]⟩)→ALoopU Tryz.prog B 0 79 (hold c .mk) ⟨[(0,.arr (List.map Vl.Data.c w)),(1,.lit (.int .i64 d)),(2,.lit (.int .i64 k)),(7,.lit (.int .i64 (i:Int))),(8,.lit (.int .i64 (j:Int)))],[]⟩ (hold Q .mk)):=by
 refine F.f18.partial_correctness w d k i
  _
  ?_
 ·intro _f_f18 ih_f18 j o hF
  intro c hc Q hq
  obtain rfl:c=_:=navEq hc rfl
  refine ALoopU.know fun hk hs=> ?_
  have b0:=hk 0
  simp -dsimp at b0
  clear hk hs
  refine ALoopU.enter ?_
  have hF:=ob hF;obtain⟨x10,e11,hF⟩:=hF
  have le11:=lt_of_get e11
  repeat first|refine cg ?_|simp -dsimp[↓e11]
  revert hF;refine abr.sp ?_ ?_<;>intro h12 q13 hF
  ·have z14:((j:Int)<(x10.ctors.length:Int)):=auz
   repeat first|refine cg ?_|simp -dsimp[↓e11,h12,z14]
   revert hF;refine abr.ns ?_ ?_<;>intro h15 q16 hF
   ·repeat first|refine cg ?_|simp -dsimp[↓e11,h12,z14,h15,q16]
    revert hF;refine abr.sp ?_ ?_<;>intro h17 q18 hF
    ·repeat first|refine cg ?_|simp -dsimp[↓e11,h12,z14,h15,q16,h17]
     refine ADraw.simple follows (by kernel_rfl) (by kernel_rfl) ?_
     have hF:=ob hF;obtain⟨x19,e20a,hF⟩:=hF
     have e20a:=at_some e20a;obtain⟨ne20,e20⟩:=e20a
     have le20:=lt_of_get e20
     repeat first|refine cg ?_|simp -dsimp[↓e11,h12,z14,h15,q16,h17,↓e20]
     revert hF;refine abr.sp ?_ ?_<;>intro h21 q22 hF
     ·have hF:=ob hF;obtain⟨x23,e24,hF⟩:=hF
      have le24:=lt_of_get e24
      have hF:=ob hF;obtain⟨x25,e26a,hF⟩:=hF
      have e26a:=at_some e26a;obtain⟨ne26,e26⟩:=e26a
      have le26:=lt_of_get e26
      repeat first|refine cg ?_|simp -dsimp[↓e11,h12,z14,h15,q16,h17,↓e20,h21,↓e24,↓e26]
      revert hF;refine abr.sp ?_ ?_<;>intro h27 q28 hF
      ·cases hF
       repeat first|refine cg ?_|simp -dsimp[↓e11,h12,z14,h15,q16,h17,↓e20,h21,↓e24,↓e26,h27]
       refine Leave.go _ (Gh.refl _) (hq _ ?_)
       repeat first|refine cg ?_|simp -dsimp[↓e11,h12,z14,h15,q16,h17,↓e20,h21,↓e24,↓e26,h27]
      ·have hF:=oc hF;obtain⟨c29,hF⟩:=hF
       have w30:IntKind.i64.wrap ((j:Int)+1)=(j:Int)+1:=wrap_in (by omega) (by omega)
       repeat first|refine cg ?_|simp -dsimp[↓e11,h12,z14,h15,q16,h17,↓e20,h21,↓e24,↓e26,h27,q28,w30]
       refine Again.go _ ?_ ((ih_f18 (j+1) o hF) _ rfl _ hq)
       exact(Gh.to3 (by simp) (by first|simp -dsimp[↓e11,h12,z14,h15,q16,h17,↓e20,h21,↓e24,↓e26,h27,q28,w30];done|simp_all))
     ·have hF:=oc hF;obtain⟨c31,hF⟩:=hF
      have w32:IntKind.i64.wrap ((j:Int)+1)=(j:Int)+1:=wrap_in (by omega) (by omega)
      repeat first|refine cg ?_|simp -dsimp[↓e11,h12,z14,h15,q16,h17,↓e20,h21,q22,w32]
      refine Again.go _ ?_ ((ih_f18 (j+1) o hF) _ rfl _ hq)
      exact(Gh.to3 (by simp) (by first|simp -dsimp[↓e11,h12,z14,h15,q16,h17,↓e20,h21,q22,w32];done|simp_all))
    ·cases hF
     repeat first|refine cg ?_|simp -dsimp[↓e11,h12,z14,h15,q16,h17,q18]
     refine Leave.go _ (Gh.to3 (by simp) (by first|simp -dsimp[↓e11,h12,z14,h15,q16,h17,q18];done|simp_all)) hq
   ·repeat first|refine cg ?_|simp -dsimp[↓e11,h12,z14,h15,q16]
    refine ADraw.simple follows (by kernel_rfl) (by kernel_rfl) ?_
    have hF:=ob hF;obtain⟨x33,e34a,hF⟩:=hF
    have e34a:=at_some e34a;obtain⟨ne34,e34⟩:=e34a
    have le34:=lt_of_get e34
    repeat first|refine cg ?_|simp -dsimp[↓e11,h12,z14,h15,q16,↓e34]
    revert hF;refine abr.sp ?_ ?_<;>intro h35 q36 hF
    ·have hF:=ob hF;obtain⟨x37,e38,hF⟩:=hF
     have le38:=lt_of_get e38
     have hF:=ob hF;obtain⟨x39,e40a,hF⟩:=hF
     have e40a:=at_some e40a;obtain⟨ne40,e40⟩:=e40a
     have le40:=lt_of_get e40
     repeat first|refine cg ?_|simp -dsimp[↓e11,h12,z14,h15,q16,↓e34,h35,↓e38,↓e40]
     revert hF;refine abr.sp ?_ ?_<;>intro h41 q42 hF
     ·cases hF
      repeat first|refine cg ?_|simp -dsimp[↓e11,h12,z14,h15,q16,↓e34,h35,↓e38,↓e40,h41]
      refine Leave.go _ (Gh.refl _) (hq _ ?_)
      repeat first|refine cg ?_|simp -dsimp[↓e11,h12,z14,h15,q16,↓e34,h35,↓e38,↓e40,h41]
     ·have hF:=oc hF;obtain⟨c43,hF⟩:=hF
      have w44:IntKind.i64.wrap ((j:Int)+1)=(j:Int)+1:=wrap_in (by omega) (by omega)
      repeat first|refine cg ?_|simp -dsimp[↓e11,h12,z14,h15,q16,↓e34,h35,↓e38,↓e40,h41,q42,w44]
      refine Again.go _ ?_ ((ih_f18 (j+1) o hF) _ rfl _ hq)
      exact(Gh.to3 (by simp) (by first|simp -dsimp[↓e11,h12,z14,h15,q16,↓e34,h35,↓e38,↓e40,h41,q42,w44];done|simp_all))
    ·have hF:=oc hF;obtain⟨c45,hF⟩:=hF
     have w46:IntKind.i64.wrap ((j:Int)+1)=(j:Int)+1:=wrap_in (by omega) (by omega)
     repeat first|refine cg ?_|simp -dsimp[↓e11,h12,z14,h15,q16,↓e34,h35,q36,w46]
     refine Again.go _ ?_ ((ih_f18 (j+1) o hF) _ rfl _ hq)
     exact(Gh.to3 (by simp) (by first|simp -dsimp[↓e11,h12,z14,h15,q16,↓e34,h35,q36,w46];done|simp_all))
  ·have z14:¬((j:Int)<(x10.ctors.length:Int)):=auz
   cases hF
   repeat first|refine cg ?_|simp -dsimp[↓e11,h12,q13,z14]
   refine Leave.go _ (Gh.to3 (by simp) (by first|simp -dsimp[↓e11,h12,q13,z14];done|simp_all)) hq
theorem CC.f19 (w:List Vl.Data)(d:Int)(k:Int)(i:Nat):(∀(j50:Nat) (o:Lo Bool Unit),F.f19 w d k i j50=some o→∀(c:Code),navO [1,0,1,0,0,1,0,0,1,1,0,0] (bodyOf Tryz.f73)=some c→∀(Q:Exit→ASt→Prop),o.post (fun r=>∀st,Post Tryz.prog Tryz.f73 (fun r' _=>r'.le (.lit (.bool r))) .ret st→Q .ret st) (fun s=>Q (.exit 2) ⟨[(0,.arr (List.map Vl.Data.c w)),(1,.lit (.int .i64 d)),(2,.lit (.int .i64 k)),(7,.lit (.int .i64 (i:Int)))],[]⟩)→ALoopU Tryz.prog B 0 79 (hold c .mk) ⟨[(0,.arr (List.map Vl.Data.c w)),(1,.lit (.int .i64 d)),(2,.lit (.int .i64 k)),(7,.lit (.int .i64 (i:Int))),(8,.lit (.int .i64 (j50:Int)))],[]⟩ (hold Q .mk)):=by
 refine F.f19.partial_correctness w d k i
  _
  ?_
 ·intro _f_f19 ih_f19 j50 o hF
  intro c hc Q hq
  obtain rfl:c=_:=navEq hc rfl
  refine ALoopU.know fun hk hs=> ?_
  have b0:=hk 0
  simp -dsimp at b0
  clear hk hs
  refine ALoopU.enter ?_
  have hF:=ob hF;obtain⟨x51,e52,hF⟩:=hF
  have le52:=lt_of_get e52
  repeat first|refine cg ?_|simp -dsimp[↓e52]
  revert hF;refine abr.sp ?_ ?_<;>intro h53 q54 hF
  ·have z55:((j50:Int)<(x51.ctors.length:Int)):=auz
   repeat first|refine cg ?_|simp -dsimp[↓e52,h53,z55]
   revert hF;refine abr.ns ?_ ?_<;>intro h56 q57 hF
   ·repeat first|refine cg ?_|simp -dsimp[↓e52,h53,z55,h56,q57]
    revert hF;refine abr.sp ?_ ?_<;>intro h58 q59 hF
    ·repeat first|refine cg ?_|simp -dsimp[↓e52,h53,z55,h56,q57,h58]
     refine ADraw.simple follows (by kernel_rfl) (by kernel_rfl) ?_
     have hF:=ob hF;obtain⟨x60,e61a,hF⟩:=hF
     have e61a:=at_some e61a;obtain⟨ne61,e61⟩:=e61a
     have le61:=lt_of_get e61
     repeat first|refine cg ?_|simp -dsimp[↓e52,h53,z55,h56,q57,h58,↓e61]
     revert hF;refine abr.sp ?_ ?_<;>intro h62 q63 hF
     ·have hF:=ob hF;obtain⟨x64,e65,hF⟩:=hF
      have le65:=lt_of_get e65
      have hF:=ob hF;obtain⟨x66,e67a,hF⟩:=hF
      have e67a:=at_some e67a;obtain⟨ne67,e67⟩:=e67a
      have le67:=lt_of_get e67
      repeat first|refine cg ?_|simp -dsimp[↓e52,h53,z55,h56,q57,h58,↓e61,h62,↓e65,↓e67]
      revert hF;refine abr.sp ?_ ?_<;>intro h68 q69 hF
      ·cases hF
       repeat first|refine cg ?_|simp -dsimp[↓e52,h53,z55,h56,q57,h58,↓e61,h62,↓e65,↓e67,h68]
       refine Leave.go _ (Gh.refl _) (hq _ ?_)
       repeat first|refine cg ?_|simp -dsimp[↓e52,h53,z55,h56,q57,h58,↓e61,h62,↓e65,↓e67,h68]
      ·have hF:=oc hF;obtain⟨c70,hF⟩:=hF
       have w71:IntKind.i64.wrap ((j50:Int)+1)=(j50:Int)+1:=wrap_in (by omega) (by omega)
       repeat first|refine cg ?_|simp -dsimp[↓e52,h53,z55,h56,q57,h58,↓e61,h62,↓e65,↓e67,h68,q69,w71]
       refine Again.go _ ?_ ((ih_f19 (j50+1) o hF) _ rfl _ hq)
       exact(Gh.to3 (by simp) (by first|simp -dsimp[↓e52,h53,z55,h56,q57,h58,↓e61,h62,↓e65,↓e67,h68,q69,w71];done|simp_all))
     ·have hF:=oc hF;obtain⟨c72,hF⟩:=hF
      have w73:IntKind.i64.wrap ((j50:Int)+1)=(j50:Int)+1:=wrap_in (by omega) (by omega)
      repeat first|refine cg ?_|simp -dsimp[↓e52,h53,z55,h56,q57,h58,↓e61,h62,q63,w73]
      refine Again.go _ ?_ ((ih_f19 (j50+1) o hF) _ rfl _ hq)
      exact(Gh.to3 (by simp) (by first|simp -dsimp[↓e52,h53,z55,h56,q57,h58,↓e61,h62,q63,w73];done|simp_all))
    ·cases hF
     repeat first|refine cg ?_|simp -dsimp[↓e52,h53,z55,h56,q57,h58,q59]
     refine Leave.go _ (Gh.to3 (by simp) (by first|simp -dsimp[↓e52,h53,z55,h56,q57,h58,q59];done|simp_all)) hq
   ·repeat first|refine cg ?_|simp -dsimp[↓e52,h53,z55,h56,q57]
    refine ADraw.simple follows (by kernel_rfl) (by kernel_rfl) ?_
    have hF:=ob hF;obtain⟨x74,e75a,hF⟩:=hF
    have e75a:=at_some e75a;obtain⟨ne75,e75⟩:=e75a
    have le75:=lt_of_get e75
    repeat first|refine cg ?_|simp -dsimp[↓e52,h53,z55,h56,q57,↓e75]
    revert hF;refine abr.sp ?_ ?_<;>intro h76 q77 hF
    ·have hF:=ob hF;obtain⟨x78,e79,hF⟩:=hF
     have le79:=lt_of_get e79
     have hF:=ob hF;obtain⟨x80,e81a,hF⟩:=hF
     have e81a:=at_some e81a;obtain⟨ne81,e81⟩:=e81a
     have le81:=lt_of_get e81
     repeat first|refine cg ?_|simp -dsimp[↓e52,h53,z55,h56,q57,↓e75,h76,↓e79,↓e81]
     revert hF;refine abr.sp ?_ ?_<;>intro h82 q83 hF
     ·cases hF
      repeat first|refine cg ?_|simp -dsimp[↓e52,h53,z55,h56,q57,↓e75,h76,↓e79,↓e81,h82]
      refine Leave.go _ (Gh.refl _) (hq _ ?_)
      repeat first|refine cg ?_|simp -dsimp[↓e52,h53,z55,h56,q57,↓e75,h76,↓e79,↓e81,h82]
     ·have hF:=oc hF;obtain⟨c84,hF⟩:=hF
      have w85:IntKind.i64.wrap ((j50:Int)+1)=(j50:Int)+1:=wrap_in (by omega) (by omega)
      repeat first|refine cg ?_|simp -dsimp[↓e52,h53,z55,h56,q57,↓e75,h76,↓e79,↓e81,h82,q83,w85]
      refine Again.go _ ?_ ((ih_f19 (j50+1) o hF) _ rfl _ hq)
      exact(Gh.to3 (by simp) (by first|simp -dsimp[↓e52,h53,z55,h56,q57,↓e75,h76,↓e79,↓e81,h82,q83,w85];done|simp_all))
    ·have hF:=oc hF;obtain⟨c86,hF⟩:=hF
     have w87:IntKind.i64.wrap ((j50:Int)+1)=(j50:Int)+1:=wrap_in (by omega) (by omega)
     repeat first|refine cg ?_|simp -dsimp[↓e52,h53,z55,h56,q57,↓e75,h76,q77,w87]
     refine Again.go _ ?_ ((ih_f19 (j50+1) o hF) _ rfl _ hq)
     exact(Gh.to3 (by simp) (by first|simp -dsimp[↓e52,h53,z55,h56,q57,↓e75,h76,q77,w87];done|simp_all))
  ·have z55:¬((j50:Int)<(x51.ctors.length:Int)):=auz
   cases hF
   repeat first|refine cg ?_|simp -dsimp[↓e52,h53,q54,z55]
   refine Leave.go _ (Gh.to3 (by simp) (by first|simp -dsimp[↓e52,h53,q54,z55];done|simp_all)) hq
theorem CC.f20 (w:List Vl.Data)(d:Int)(k:Int):(∀(i:Nat) (o:Lo Bool Unit),F.f20 w d k i=some o→∀(c:Code),navO [1,0,1,0,0] (bodyOf Tryz.f73)=some c→∀(Q:Exit→ASt→Prop),o.post (fun r=>∀st,Post Tryz.prog Tryz.f73 (fun r' _=>r'.le (.lit (.bool r))) .ret st→Q .ret st) (fun s=>Q (.exit 0) ⟨[],[]⟩)→ALoopU Tryz.prog B 0 79 (hold c .mk) ⟨[(0,.arr (List.map Vl.Data.c w)),(1,.lit (.int .i64 d)),(2,.lit (.int .i64 k)),(7,.lit (.int .i64 (i:Int)))],[]⟩ (hold Q .mk)):=by
 refine F.f20.partial_correctness w d k
  _
  ?_
 ·intro _f_f20 ih_f20 i o hF
  intro c hc Q hq
  obtain rfl:c=_:=navEq hc rfl
  refine ALoopU.know fun hk hs=> ?_
  have b0:=hk 0
  simp -dsimp at b0
  clear hk hs
  refine ALoopU.enter ?_
  repeat first|refine cg ?_|simp -dsimp
  revert hF;refine abr.sp ?_ ?_<;>intro h1 q2 hF
  ·repeat first|refine cg ?_|simp -dsimp[h1]
   refine ADraw.simple follows (by kernel_rfl) (by kernel_rfl) ?_
   repeat first|refine cg ?_|simp -dsimp[h1]
   revert hF;refine abr.sp ?_ ?_<;>intro h3 q4 hF
   ·have hF:=ob hF;obtain⟨x,e5,hF⟩:=hF
    have le5:=lt_of_get e5
    have hF:=ob hF;obtain⟨x6,e7a,hF⟩:=hF
    have e7a:=at_some e7a;obtain⟨ne7,e7⟩:=e7a
    have le7:=lt_of_get e7
    repeat first|refine cg ?_|simp -dsimp[h1,h3,↓e5,↓e7]
    revert hF;refine abr.sp ?_ ?_<;>intro h8 q9 hF
    ·cases hF
     repeat first|refine cg ?_|simp -dsimp[h1,h3,↓e5,↓e7,h8]
     refine Leave.go _ (Gh.refl _) (hq _ ?_)
     repeat first|refine cg ?_|simp -dsimp[h1,h3,↓e5,↓e7,h8]
    ·repeat first|refine cg ?_|simp -dsimp[h1,h3,↓e5,↓e7,h8,q9]
     have hF:=ob hF;obtain⟨o',ho47,hF⟩:=hF
     refine ALoop.goU _ ?_ (((CC.f18 B hB1 hB2 w d k i) 0 o' ho47) _ rfl _ ?_)
     ·exact(Gh.to3 (by simp) (by first|simp -dsimp[h1,h3,↓e5,↓e7,h8,q9];done|simp_all))
     rcases o' with r0|sx
     ·dsimp only at hF
      cases hF
      intro st h
      simp -dsimp
      refine Leave.go st (Gh.refl _) (hq st h)
     ·dsimp only at hF
      have hF:=oc hF;obtain⟨c48,hF⟩:=hF
      have w49:IntKind.i64.wrap ((i:Int)+1)=(i:Int)+1:=wrap_in (by omega) (by omega)
      repeat first|refine cg ?_|simp -dsimp[w49]
      refine Again.go _ ?_ ((ih_f20 (i+1) o hF) _ rfl _ hq)
      exact(Gh.to3 (by simp) (by first|simp -dsimp[w49];done|simp_all))
   ·repeat first|refine cg ?_|simp -dsimp[h1,h3,q4]
    have hF:=ob hF;obtain⟨o'89,ho88,hF⟩:=hF
    refine ALoop.goU _ ?_ (((CC.f19 B hB1 hB2 w d k i) 0 o'89 ho88) _ rfl _ ?_)
    ·exact(Gh.to3 (by simp) (by first|simp -dsimp[h1,h3,q4];done|simp_all))
    rcases o'89 with r093|sx90
    ·dsimp only at hF
     cases hF
     intro st h
     simp -dsimp
     refine Leave.go st (Gh.refl _) (hq st h)
    ·dsimp only at hF
     have hF:=oc hF;obtain⟨c91,hF⟩:=hF
     have w92:IntKind.i64.wrap ((i:Int)+1)=(i:Int)+1:=wrap_in (by omega) (by omega)
     repeat first|refine cg ?_|simp -dsimp[w92]
     refine Again.go _ ?_ ((ih_f20 (i+1) o hF) _ rfl _ hq)
     exact(Gh.to3 (by simp) (by first|simp -dsimp[w92];done|simp_all))
  ·cases hF
   repeat first|refine cg ?_|simp -dsimp[h1,q2]
   refine Leave.go _ (Gh.to3 (by simp) (by first|simp -dsimp[h1,q2];done|simp_all)) hq
theorem C.f21 (w:List Vl.Data)(d:Int)(k:Int)(r:Bool)(hF:F.f21 w d k=some r):PureCall Tryz.prog B 73 [.arr (List.map Vl.Data.c w),.lit (.int .i64 d),.lit (.int .i64 k)] (.lit (.bool r)):=by
 unfold F.f21 at hF
 refine PureCall.enterLe Tryz.func73 (by kernel_rfl) rfl Tryz.ntmps73 (by simp) (by simp) ?_
 repeat first|refine cg ?_|simp -dsimp
 have hF:=ob hF;obtain⟨o'95,ho94,hF⟩:=hF
 refine ALoop.goU _ ?_ (((CC.f20 B hB1 hB2 w d k) 0 o'95 ho94) _ rfl _ ?_)
 ·exact(Gh.to3 (by simp) (by simp -dsimp))
 rcases o'95 with r097|sx96
 ·dsimp only at hF
  cases hF
  intro st h
  simpa using h
 ·dsimp only at hF
  cases hF
  repeat first|refine cg ?_|simp -dsimp
  all_goals(try first|omega|rfl)
theorem CC.f22 (w:List Vl.Data)(d:Nat):(∀(k:Nat) (o:Lo Bool Unit),F.f22 w d k=some o→∀(c:Code),navO [1,1,0,1,0,0,1,0,0,1,1,0,0] (bodyOf Tryz.f53)=some c→∀(Q:Exit→ASt→Prop),o.post (fun r=>∀st,Post Tryz.prog Tryz.f53 (fun r' _=>r'.le (.lit (.bool r))) .ret st→Q .ret st) (fun s=>Q (.exit 2) ⟨[(0,.arr (List.map Vl.Data.c w)),(3,.lit (.int .i64 (d:Int)))],[]⟩)→ALoopU Tryz.prog B 0 67 (hold c .mk) ⟨[(0,.arr (List.map Vl.Data.c w)),(3,.lit (.int .i64 (d:Int))),(4,.lit (.int .i64 (k:Int)))],[]⟩ (hold Q .mk)):=by
 refine F.f22.partial_correctness w d
  _
  ?_
 ·intro _f_f22 ih_f22 k o hF
  intro c hc Q hq
  obtain rfl:c=_:=navEq hc rfl
  refine ALoopU.know fun hk hs=> ?_
  have b0:=hk 0
  simp -dsimp at b0
  clear hk hs
  refine ALoopU.enter ?_
  have hF:=ob hF;obtain⟨x17,e18,hF⟩:=hF
  have le18:=lt_of_get e18
  repeat first|refine cg ?_|simp -dsimp[↓e18]
  revert hF;refine abr.sp ?_ ?_<;>intro h19 q20 hF
  ·have z21:((k:Int)<(x17.ctors.length:Int)):=auz
   have hF:=ob hF;obtain⟨x22,e23,hF⟩:=hF
   have le23:=lt_of_get e23
   repeat first|refine cg ?_|simp -dsimp[↓e18,h19,z21,↓e23]
   have hF:=ob hF;obtain⟨v24,e25,hF⟩:=hF
   refine((C.f17 B hB1 hB2 (w.length:Int) x22 v24 e25)).goW (by first|simp[↓e18,h19,z21,↓e23];done|simp_all) (by simp) ?_
   repeat first|refine cg ?_|simp -dsimp[↓e18,h19,z21,↓e23]
   revert hF;refine abr.sp (fun h26 q27 hF=> ?_) (fun h26 q27 hF=> ?_)
   ·repeat first|refine cg ?_|simp -dsimp[↓e18,h19,z21,↓e23,h26]
    have hF:=ob hF;obtain⟨v28,e29,hF⟩:=hF
    refine((C.f21 B hB1 hB2 w (d:Int) (k:Int) v28 e29)).goW (by first|simp[↓e18,h19,z21,↓e23,h26];done|simp_all) (by simp) ?_
    repeat first|refine cg ?_|simp -dsimp[↓e18,h19,z21,↓e23,h26]
    revert hF;refine abr.sp (fun h30 q31 hF=> ?_) (fun h30 q31 hF=> ?_)
    ·cases hF
     repeat first|refine cg ?_|simp -dsimp[↓e18,h19,z21,↓e23,h26,h30]
     refine Leave.go _ (Gh.refl _) (hq _ ?_)
     repeat first|refine cg ?_|simp -dsimp[↓e18,h19,z21,↓e23,h26,h30]
    ·have hF:=oc hF;obtain⟨c32,hF⟩:=hF
     have w33:IntKind.i64.wrap ((k:Int)+1)=(k:Int)+1:=wrap_in (by omega) (by omega)
     repeat first|refine cg ?_|simp -dsimp[↓e18,h19,z21,↓e23,h26,h30,q31,w33]
     refine Again.go _ ?_ ((ih_f22 (k+1) o hF) _ rfl _ hq)
     exact(Gh.to3 (by simp) (by first|simp -dsimp[↓e18,h19,z21,↓e23,h26,h30,q31,w33];done|simp_all))
   ·cases hF
    repeat first|refine cg ?_|simp -dsimp[↓e18,h19,z21,↓e23,h26,q27]
    refine Leave.go _ (Gh.refl _) (hq _ ?_)
    repeat first|refine cg ?_|simp -dsimp[↓e18,h19,z21,↓e23,h26,q27]
  ·have z21:¬((k:Int)<(x17.ctors.length:Int)):=auz
   cases hF
   repeat first|refine cg ?_|simp -dsimp[↓e18,h19,q20,z21]
   refine Leave.go _ (Gh.to3 (by simp) (by first|simp -dsimp[↓e18,h19,q20,z21];done|simp_all)) hq
theorem CC.f23 (w:List Vl.Data):(∀(d:Nat) (o:Lo Bool Unit),F.f23 w d=some o→∀(c:Code),navO [1,1,0,1,0,0] (bodyOf Tryz.f53)=some c→∀(Q:Exit→ASt→Prop),o.post (fun r=>∀st,Post Tryz.prog Tryz.f53 (fun r' _=>r'.le (.lit (.bool r))) .ret st→Q .ret st) (fun s=>Q (.exit 0) ⟨[],[]⟩)→ALoopU Tryz.prog B 0 67 (hold c .mk) ⟨[(0,.arr (List.map Vl.Data.c w)),(3,.lit (.int .i64 (d:Int)))],[]⟩ (hold Q .mk)):=by
 refine F.f23.partial_correctness w
  _
  ?_
 ·intro _f_f23 ih_f23 d o hF
  intro c hc Q hq
  obtain rfl:c=_:=navEq hc rfl
  refine ALoopU.know fun hk hs=> ?_
  have b0:=hk 0
  simp -dsimp at b0
  clear hk hs
  refine ALoopU.enter ?_
  repeat first|refine cg ?_|simp -dsimp
  revert hF;refine abr.sp ?_ ?_<;>intro h4 q5 hF
  ·have z6:((d:Int)<(w.length:Int)):=auz
   have hF:=ob hF;obtain⟨x,e7,hF⟩:=hF
   have le7:=lt_of_get e7
   repeat first|refine cg ?_|simp -dsimp[h4,z6,↓e7]
   have hF:=ob hF;obtain⟨v,e8,hF⟩:=hF
   refine((C.f12 B hB1 hB2 x.name v e8)).goW (by first|simp[h4,z6,↓e7];done|simp_all) (by simp) ?_
   repeat first|refine cg ?_|simp -dsimp[h4,z6,↓e7]
   revert hF;refine abr.sp (fun h9 q10 hF=> ?_) (fun h9 q10 hF=> ?_)
   ·repeat first|refine cg ?_|simp -dsimp[h4,z6,↓e7,h9]
    revert hF;refine abr.ns ?_ ?_<;>intro h11 q12 hF
    ·have z13:¬((x.ctors.length:Int)=0):=auz
     repeat first|refine cg ?_|simp -dsimp[h4,z6,↓e7,h9,h11,q12,z13]
     revert hF;refine abr.sp ?_ ?_<;>intro h14 q15 hF
     ·have z16:(4<(x.ctors.length:Int)):=auz
      cases hF
      repeat first|refine cg ?_|simp -dsimp[h4,z6,↓e7,h9,h11,q12,z13,h14,z16]
      refine Leave.go _ (Gh.refl _) (hq _ ?_)
      repeat first|refine cg ?_|simp -dsimp[h4,z6,↓e7,h9,h11,q12,z13,h14,z16]
     ·have z16:¬(4<(x.ctors.length:Int)):=auz
      repeat first|refine cg ?_|simp -dsimp[h4,z6,↓e7,h9,h11,q12,z13,h14,q15,z16]
      have hF:=ob hF;obtain⟨o',ho34,hF⟩:=hF
      refine ALoop.goU _ ?_ (((CC.f22 B hB1 hB2 w d) 0 o' ho34) _ rfl _ ?_)
      ·exact(Gh.to3 (by simp) (by first|simp -dsimp[h4,z6,↓e7,h9,h11,q12,z13,h14,q15,z16];done|simp_all))
      rcases o' with r0|sx
      ·dsimp only at hF
       cases hF
       intro st h
       simp -dsimp
       refine Leave.go st (Gh.refl _) (hq st h)
      ·dsimp only at hF
       have hF:=oc hF;obtain⟨c35,hF⟩:=hF
       have w36:IntKind.i64.wrap ((d:Int)+1)=(d:Int)+1:=wrap_in (by omega) (by omega)
       repeat first|refine cg ?_|simp -dsimp[w36]
       refine Again.go _ ?_ ((ih_f23 (d+1) o hF) _ rfl _ hq)
       exact(Gh.to3 (by simp) (by first|simp -dsimp[w36];done|simp_all))
    ·have z13:((x.ctors.length:Int)=0):=auz
     cases hF
     repeat first|refine cg ?_|simp -dsimp[h4,z6,↓e7,h9,h11,q12,z13]
     refine Leave.go _ (Gh.refl _) (hq _ ?_)
     repeat first|refine cg ?_|simp -dsimp[h4,z6,↓e7,h9,h11,q12,z13]
   ·cases hF
    repeat first|refine cg ?_|simp -dsimp[h4,z6,↓e7,h9,q10]
    refine Leave.go _ (Gh.refl _) (hq _ ?_)
    repeat first|refine cg ?_|simp -dsimp[h4,z6,↓e7,h9,q10]
  ·have z6:¬((d:Int)<(w.length:Int)):=auz
   cases hF
   repeat first|refine cg ?_|simp -dsimp[h4,q5,z6]
   refine Leave.go _ (Gh.to3 (by simp) (by first|simp -dsimp[h4,q5,z6];done|simp_all)) hq
theorem C.f24 (w:List Vl.Data)(r:Bool)(hF:F.f24 w=some r):PureCall Tryz.prog B 53 [.arr (List.map Vl.Data.c w)] (.lit (.bool r)):=by
 unfold F.f24 at hF
 refine PureCall.enterLe Tryz.func53 (by kernel_rfl) rfl Tryz.ntmps53 (by simp) (by simp) ?_
 repeat first|refine cg ?_|simp -dsimp
 revert hF;refine abr.sp ?_ ?_<;>intro h1 q2 hF
 ·have z3:(4<(w.length:Int)):=auz
  cases hF
  repeat first|refine cg ?_|simp -dsimp[h1,z3]
  all_goals(try first|omega|rfl)
 ·have z3:¬(4<(w.length:Int)):=auz
  repeat first|refine cg ?_|simp -dsimp[h1,q2,z3]
  have hF:=ob hF;obtain⟨o'38,ho37,hF⟩:=hF
  refine ALoop.goU _ ?_ (((CC.f23 B hB1 hB2 w) 0 o'38 ho37) _ rfl _ ?_)
  ·exact(Gh.to3 (by simp) (by first|simp -dsimp[h1,q2,z3];done|simp_all))
  rcases o'38 with r040|sx39
  ·dsimp only at hF
   cases hF
   intro st h
   simpa using h
  ·dsimp only at hF
   cases hF
   repeat first|refine cg ?_|simp -dsimp
   all_goals(try first|omega|rfl)
theorem CC.f25  :(∀(n7:Int) (out:ByteArray) (o:Int×ByteArray),F.f25 n7 out=some o→∀(c:Code),navO [1,1,1,1,0,0,0] (bodyOf Tryz.f112)=some c→∀(Q:Exit→ASt→Prop),(Q (.exit 0) ⟨[(0,.lit (.int .i64 o.1)),(3,.lit (.string o.2))],[]⟩)→ALoopU Tryz.prog B 0 31 (hold c .mk) ⟨[(0,.lit (.int .i64 n7)),(3,.lit (.string out))],[]⟩ (hold Q .mk)):=by
 refine F.f25.partial_correctness 
  _
  ?_
 ·intro _f_f25 ih_f25 n7 out o hF
  intro c hc Q hq
  obtain rfl:c=_:=navEq hc rfl
  refine ALoopU.know fun hk hs=> ?_
  clear hk hs
  refine ALoopU.enter ?_
  repeat first|refine cg ?_|simp -dsimp
  revert hF;refine abr.sp ?_ ?_<;>intro h8 q9 hF
  ·have hF:=oc hF;obtain⟨c10,hF⟩:=hF
   repeat first|refine cg ?_|simp -dsimp[h8]
   refine Again.go _ ?_ ((ih_f25 (IntKind.i64.wrap (n7.tdiv 10)) ((strB [IntKind.u8.wrap (IntKind.i64.wrap (48+n7.tmod 10))])++out) o hF) _ rfl _ hq)
   exact(Gh.to3 (by simp) (by first|simp -dsimp[h8];done|simp_all))
  ·cases hF
   repeat first|refine cg ?_|simp -dsimp[h8,q9]
   refine Leave.go _ (Gh.to3 (by simp) (by first|simp -dsimp[h8,q9];done|simp_all)) hq
theorem CC.f26  :(∀(n:Int) (r:ByteArray),F.f26 n=some r→PureCall Tryz.prog B 112 [.lit (.int .i64 n)] (.lit (.string r))):=by
 refine F.f26.partial_correctness 
  _
  ?_
 ·intro _f_f26 ih_f26 n r hF
  refine PureCall.enterLe Tryz.func112 (by kernel_rfl) rfl Tryz.ntmps112 (by simp) (by simp) ?_
  repeat first|refine cg ?_|simp -dsimp
  revert hF;refine abr.sp ?_ ?_<;>intro h1 q2 hF
  ·cases hF
   repeat first|refine cg ?_|simp -dsimp[h1]
   all_goals(try first|omega|rfl)
  ·repeat first|refine cg ?_|simp -dsimp[h1,q2]
   revert hF;refine abr.sp ?_ ?_<;>intro h3 q4 hF
   ·repeat first|refine cg ?_|simp -dsimp[h1,q2,h3]
    have hF:=ob hF;obtain⟨v,e5,hF⟩:=hF
    refine((ih_f26 (IntKind.i64.wrap (0-n)) v e5)).goW (by first|simp[h1,q2,h3];done|simp_all) (by simp) ?_
    have hF:=oc hF;obtain⟨c6,hF⟩:=hF
    cases hF
    repeat first|refine cg ?_|simp -dsimp[h1,q2,h3]
    all_goals(try first|omega|rfl)
   ·repeat first|refine cg ?_|simp -dsimp[h1,q2,h3,q4]
    have hF:=ob hF;obtain⟨o',ho11,hF⟩:=hF
    refine ALoop.goU _ ?_ (((CC.f25 B hB1 hB2) n ByteArray.empty o' ho11) _ rfl _ ?_)
    ·exact(Gh.to3 (by simp) (by first|simp -dsimp[h1,q2,h3,q4];done|simp_all))
    have hF:=oc hF;obtain⟨c12,hF⟩:=hF
    cases hF
    repeat first|refine cg ?_|simp -dsimp
    all_goals(try first|omega|rfl)
theorem C.f27 (n:Int)(r:ByteArray)(hF:F.f27 n=some r):PureCall Tryz.prog B 115 [.lit (.int .i64 n)] (.lit (.string r)):=by
 unfold F.f27 at hF
 refine PureCall.enterLe Tryz.func115 (by kernel_rfl) rfl Tryz.ntmps115 (by simp) (by simp) ?_
 repeat first|refine cg ?_|simp -dsimp
 revert hF;refine abr.sp ?_ ?_<;>intro h1 q2 hF
 ·cases hF
  repeat first|refine cg ?_|simp -dsimp[eq_true h1]
  all_goals(try first|omega|rfl)
 ·repeat first|refine cg ?_|simp -dsimp[h1,q2]
  revert hF;refine abr.sp ?_ ?_<;>intro h3 q4 hF
  ·cases hF
   repeat first|refine cg ?_|simp -dsimp[h1,q2,h3]
   all_goals(try first|omega|rfl)
  ·repeat first|refine cg ?_|simp -dsimp[h1,q2,h3,q4]
   have hF:=ob hF;obtain⟨v,e5,hF⟩:=hF
   refine(((CC.f26 B hB1 hB2) n v e5)).goW (by first|simp[h1,q2,h3,q4];done|simp_all) (by simp) ?_
   cases hF
   repeat first|refine cg ?_|simp -dsimp[h1,q2,h3,q4]
   all_goals(try first|omega|rfl)
theorem C.f28 (w:List Vl.Data)(t:Ty)(r:ByteArray)(hF:F.f28 w t=some r):PureCall Tryz.prog B 111 [.arr (List.map Vl.Data.c w),.agg [.lit (.int .i64 t.data),.lit (.int .i64 t.index)]] (.lit (.string r)):=by
 unfold F.f28 at hF
 refine PureCall.enterLe Tryz.func111 (by kernel_rfl) rfl Tryz.ntmps111 (by simp) (by simp) ?_
 repeat first|refine cg ?_|simp -dsimp
 revert hF;refine abr.sp ?_ ?_<;>intro h1 q2 hF
 ·cases hF
  repeat first|refine cg ?_|simp -dsimp[h1]
  all_goals(try first|omega|rfl)
 ·repeat first|refine cg ?_|simp -dsimp[h1,q2]
  refine ADraw.simple follows (by kernel_rfl) (by kernel_rfl) ?_
  have hF:=ob hF;obtain⟨x,e3a,hF⟩:=hF
  have e3a:=at_some e3a;obtain⟨ne3,e3⟩:=e3a
  have le3:=lt_of_get e3
  repeat first|refine cg ?_|simp -dsimp[h1,q2,↓e3]
  have hF:=ob hF;obtain⟨v,e4,hF⟩:=hF
  refine((C.f27 B hB1 hB2 t.index v e4)).pgoW (by first|simp[h1,q2,↓e3];done|simp_all) (by simp) ?_
  have hF:=oc hF;obtain⟨c5,hF⟩:=hF
  cases hF
  repeat first|refine cg ?_|simp -dsimp[h1,q2,↓e3]
  all_goals(try first|omega|rfl)
theorem CC.f29 (w:List Vl.Data)(c':Ctor):(∀(out:ByteArray) (i:Nat) (o:ByteArray),F.f29 w c' out i=some o→∀(c:Code),navO [1,1,0,1,0,0] (bodyOf Tryz.f102)=some c→∀(Q:Exit→ASt→Prop),(Q (.exit 0) ⟨[(3,.ptr 0 0),(5,.lit (.string o))],[.cells [.lit (.string c'.name),.arr (List.map Ty.c c'.args),.lit (.int .i64 c'.index)]]⟩)→ALoopU Tryz.prog B 0 47 (hold c .mk) ⟨[(0,.arr (List.map Vl.Data.c w)),(3,.ptr 0 0),(5,.lit (.string out)),(6,.lit (.int .i64 (i:Int)))],[.cells [.lit (.string c'.name),.arr (List.map Ty.c c'.args),.lit (.int .i64 c'.index)]]⟩ (hold Q .mk)):=by
 refine F.f29.partial_correctness w c'
  _
  ?_
 ·intro _f_f29 ih_f29 out i o hF
  intro c hc Q hq
  obtain rfl:c=_:=navEq hc rfl
  refine ALoopU.know fun hk hs=> ?_
  have b0:=hk 0
  simp -dsimp at b0
  have d0:=hs 0 _ rfl
  simp -dsimp[Blk.bnd]at d0
  clear hk hs
  refine ALoopU.enter ?_
  repeat first|refine cg ?_|simp -dsimp
  revert hF;refine abr.sp ?_ ?_<;>intro h1 q2 hF
  ·have z3:((i:Int)<(c'.args.length:Int)):=auz
   repeat first|refine cg ?_|simp -dsimp[h1,z3]
   revert hF;refine abr.sp ?_ ?_<;>intro h4 q5 hF
   ·have z6:((i:Int)=0):=auz
    have hF:=oc hF;obtain⟨c7,hF⟩:=hF
    have hF:=ob hF;obtain⟨x,e8,hF⟩:=hF
    have le8:=lt_of_get e8
    repeat first|refine cg ?_|simp -dsimp[h1,z3,eq_true h4,eq_true z6,↓e8]
    have hF:=ob hF;obtain⟨v,e9,hF⟩:=hF
    refine((C.f28 B hB1 hB2 w x v e9)).goW (by first|simp[h1,z3,eq_true h4,eq_true z6,↓e8];done|simp_all) (by simp) ?_
    have hF:=oc hF;obtain⟨c10,hF⟩:=hF
    have w11:IntKind.i64.wrap ((i:Int)+1)=(i:Int)+1:=wrap_in (by omega) (by omega)
    repeat first|refine cg ?_|simp -dsimp[h1,z3,eq_true h4,eq_true z6,↓e8,w11]
    refine Again.go _ ?_ ((ih_f29 ((out++(⟨#[40]⟩:ByteArray))++v) (i+1) o hF) _ rfl _ hq)
    exact(Gh.to3 (by simp) (by first|simp -dsimp[h1,z3,eq_true h4,eq_true z6,↓e8,w11];done|simp_all))
   ·have z6:¬((i:Int)=0):=auz
    have hF:=oc hF;obtain⟨c12,hF⟩:=hF
    have hF:=ob hF;obtain⟨x13,e14,hF⟩:=hF
    have le14:=lt_of_get e14
    repeat first|refine cg ?_|simp -dsimp[h1,z3,h4,q5,z6,↓e14]
    have hF:=ob hF;obtain⟨v15,e16,hF⟩:=hF
    refine((C.f28 B hB1 hB2 w x13 v15 e16)).goW (by first|simp[h1,z3,h4,q5,z6,↓e14];done|simp_all) (by simp) ?_
    have hF:=oc hF;obtain⟨c17,hF⟩:=hF
    have w18:IntKind.i64.wrap ((i:Int)+1)=(i:Int)+1:=wrap_in (by omega) (by omega)
    repeat first|refine cg ?_|simp -dsimp[h1,z3,h4,q5,z6,↓e14,w18]
    refine Again.go _ ?_ ((ih_f29 ((out++(⟨#[44]⟩:ByteArray))++v15) (i+1) o hF) _ rfl _ hq)
    exact(Gh.to3 (by simp) (by first|simp -dsimp[h1,z3,h4,q5,z6,↓e14,w18];done|simp_all))
  ·have z3:¬((i:Int)<(c'.args.length:Int)):=auz
   cases hF
   repeat first|refine cg ?_|simp -dsimp[h1,q2,z3]
   refine Leave.go _ (Gh.to3 (by simp) (by first|simp -dsimp[h1,q2,z3];done|simp_all)) hq
theorem C.f30 (w:List Vl.Data)(c':Ctor)(r:ByteArray)(hF:F.f30 w c'=some r):PureCall Tryz.prog B 102 [.arr (List.map Vl.Data.c w),.agg [.lit (.string c'.name),.arr (List.map Ty.c c'.args),.lit (.int .i64 c'.index)]] (.lit (.string r)):=by
 unfold F.f30 at hF
 refine PureCall.enterLe Tryz.func102 (by kernel_rfl) rfl Tryz.ntmps102 (by simp) (by simp) ?_
 repeat first|refine cg ?_|simp -dsimp
 have hF:=ob hF;obtain⟨o',ho19,hF⟩:=hF
 refine ALoop.goU _ ?_ (((CC.f29 B hB1 hB2 w c') c'.name 0 o' ho19) _ rfl _ ?_)
 ·exact(Gh.to3 (by simp) (by simp -dsimp))
 repeat first|refine cg ?_|simp -dsimp
 revert hF;refine abr.sp ?_ ?_<;>intro h20 q21 hF
 ·have z22:(0<(c'.args.length:Int)):=auz
  have hF:=oc hF;obtain⟨c23,hF⟩:=hF
  repeat first|refine cg ?_|simp -dsimp[h20,z22]
  revert hF;refine abr.sp ?_ ?_<;>intro h24 q25 hF
  ·have hF:=oc hF;obtain⟨c26,hF⟩:=hF
   repeat first|refine cg ?_|simp -dsimp[h20,z22,h24]
   have hF:=ob hF;obtain⟨v27,e28,hF⟩:=hF
   refine(((CC.f26 B hB1 hB2) c'.index v27 e28)).goW (by first|simp[h20,z22,h24];done|simp_all) (by simp) ?_
   have hF:=oc hF;obtain⟨c29,hF⟩:=hF
   cases hF
   repeat first|refine cg ?_|simp -dsimp[h20,z22,h24]
   all_goals(try first|omega|rfl)
  ·cases hF
   repeat first|refine cg ?_|simp -dsimp[h20,z22,h24,q25]
   all_goals(try first|omega|rfl)
 ·have z22:¬(0<(c'.args.length:Int)):=auz
  repeat first|refine cg ?_|simp -dsimp[h20,q21,z22]
  revert hF;refine abr.sp ?_ ?_<;>intro h30 q31 hF
  ·have hF:=oc hF;obtain⟨c32,hF⟩:=hF
   repeat first|refine cg ?_|simp -dsimp[h20,q21,z22,h30]
   have hF:=ob hF;obtain⟨v33,e34,hF⟩:=hF
   refine(((CC.f26 B hB1 hB2) c'.index v33 e34)).goW (by first|simp[h20,q21,z22,h30];done|simp_all) (by simp) ?_
   have hF:=oc hF;obtain⟨c35,hF⟩:=hF
   cases hF
   repeat first|refine cg ?_|simp -dsimp[h20,q21,z22,h30]
   all_goals(try first|omega|rfl)
  ·cases hF
   repeat first|refine cg ?_|simp -dsimp[h20,q21,z22,h30,q31]
   all_goals(try first|omega|rfl)
theorem CC.f31 (w:List Vl.Data)(d:Nat):(∀(out11:ByteArray) (k:Nat) (o:ByteArray),F.f31 w d out11 k=some o→∀(c:Code),navO [1,1,0,1,0,0,1,0,0,1,1,1,0,0] (bodyOf Tryz.f89)=some c→∀(Q:Exit→ASt→Prop),(Q (.exit 2) ⟨[(0,.arr (List.map Vl.Data.c w)),(3,.lit (.string o)),(4,.lit (.int .i64 (d:Int)))],[]⟩)→ALoopU Tryz.prog B 0 51 (hold c .mk) ⟨[(0,.arr (List.map Vl.Data.c w)),(3,.lit (.string out11)),(4,.lit (.int .i64 (d:Int))),(5,.lit (.int .i64 (k:Int)))],[]⟩ (hold Q .mk)):=by
 refine F.f31.partial_correctness w d
  _
  ?_
 ·intro _f_f31 ih_f31 out11 k o hF
  intro c hc Q hq
  obtain rfl:c=_:=navEq hc rfl
  refine ALoopU.know fun hk hs=> ?_
  have b0:=hk 0
  simp -dsimp at b0
  clear hk hs
  refine ALoopU.enter ?_
  have hF:=ob hF;obtain⟨x12,e13,hF⟩:=hF
  have le13:=lt_of_get e13
  repeat first|refine cg ?_|simp -dsimp[↓e13]
  revert hF;refine abr.sp ?_ ?_<;>intro h14 q15 hF
  ·have z16:((k:Int)<(x12.ctors.length:Int)):=auz
   repeat first|refine cg ?_|simp -dsimp[↓e13,h14,z16]
   revert hF;refine abr.sp ?_ ?_<;>intro h17 q18 hF
   ·have z19:(0<(k:Int)):=auz
    have hF:=oc hF;obtain⟨c20,hF⟩:=hF
    have hF:=ob hF;obtain⟨x21,e22,hF⟩:=hF
    have le22:=lt_of_get e22
    repeat first|refine cg ?_|simp -dsimp[↓e13,h14,z16,h17,z19,↓e22]
    have hF:=ob hF;obtain⟨v,e23,hF⟩:=hF
    refine((C.f30 B hB1 hB2 w x21 v e23)).goW (by first|simp[↓e13,h14,z16,h17,z19,↓e22];done|simp_all) (by simp) ?_
    have hF:=oc hF;obtain⟨c24,hF⟩:=hF
    have hF:=oc hF;obtain⟨c25,hF⟩:=hF
    have w26:IntKind.i64.wrap ((k:Int)+1)=(k:Int)+1:=wrap_in (by omega) (by omega)
    repeat first|refine cg ?_|simp -dsimp[↓e13,h14,z16,h17,z19,↓e22,w26]
    refine Again.go _ ?_ ((ih_f31 ((out11++(⟨#[124]⟩:ByteArray))++v) (k+1) o hF) _ rfl _ hq)
    exact(Gh.to3 (by simp) (by first|simp -dsimp[↓e13,h14,z16,h17,z19,↓e22,w26];done|simp_all))
   ·have z19:¬(0<(k:Int)):=auz
    have hF:=ob hF;obtain⟨x27,e28,hF⟩:=hF
    have le28:=lt_of_get e28
    repeat first|refine cg ?_|simp -dsimp[↓e13,h14,z16,h17,q18,z19,↓e28]
    have hF:=ob hF;obtain⟨v29,e30,hF⟩:=hF
    refine((C.f30 B hB1 hB2 w x27 v29 e30)).goW (by first|simp[↓e13,h14,z16,h17,q18,z19,↓e28];done|simp_all) (by simp) ?_
    have hF:=oc hF;obtain⟨c31,hF⟩:=hF
    have hF:=oc hF;obtain⟨c32,hF⟩:=hF
    have w33:IntKind.i64.wrap ((k:Int)+1)=(k:Int)+1:=wrap_in (by omega) (by omega)
    repeat first|refine cg ?_|simp -dsimp[↓e13,h14,z16,h17,q18,z19,↓e28,w33]
    refine Again.go _ ?_ ((ih_f31 (out11++v29) (k+1) o hF) _ rfl _ hq)
    exact(Gh.to3 (by simp) (by first|simp -dsimp[↓e13,h14,z16,h17,q18,z19,↓e28,w33];done|simp_all))
  ·have z16:¬((k:Int)<(x12.ctors.length:Int)):=auz
   cases hF
   repeat first|refine cg ?_|simp -dsimp[↓e13,h14,q15,z16]
   refine Leave.go _ (Gh.to3 (by simp) (by first|simp -dsimp[↓e13,h14,q15,z16];done|simp_all)) hq
theorem CC.f32 (w:List Vl.Data)(d:Nat):(∀(out41:ByteArray) (k42:Nat) (o:ByteArray),F.f32 w d out41 k42=some o→∀(c:Code),navO [1,1,0,1,0,0,1,0,0,1,1,1,0,0] (bodyOf Tryz.f89)=some c→∀(Q:Exit→ASt→Prop),(Q (.exit 2) ⟨[(0,.arr (List.map Vl.Data.c w)),(3,.lit (.string o)),(4,.lit (.int .i64 (d:Int)))],[]⟩)→ALoopU Tryz.prog B 0 51 (hold c .mk) ⟨[(0,.arr (List.map Vl.Data.c w)),(3,.lit (.string out41)),(4,.lit (.int .i64 (d:Int))),(5,.lit (.int .i64 (k42:Int)))],[]⟩ (hold Q .mk)):=by
 refine F.f32.partial_correctness w d
  _
  ?_
 ·intro _f_f32 ih_f32 out41 k42 o hF
  intro c hc Q hq
  obtain rfl:c=_:=navEq hc rfl
  refine ALoopU.know fun hk hs=> ?_
  have b0:=hk 0
  simp -dsimp at b0
  clear hk hs
  refine ALoopU.enter ?_
  have hF:=ob hF;obtain⟨x43,e44,hF⟩:=hF
  have le44:=lt_of_get e44
  repeat first|refine cg ?_|simp -dsimp[↓e44]
  revert hF;refine abr.sp ?_ ?_<;>intro h45 q46 hF
  ·have z47:((k42:Int)<(x43.ctors.length:Int)):=auz
   repeat first|refine cg ?_|simp -dsimp[↓e44,h45,z47]
   revert hF;refine abr.sp ?_ ?_<;>intro h48 q49 hF
   ·have z50:(0<(k42:Int)):=auz
    have hF:=oc hF;obtain⟨c51,hF⟩:=hF
    have hF:=ob hF;obtain⟨x52,e53,hF⟩:=hF
    have le53:=lt_of_get e53
    repeat first|refine cg ?_|simp -dsimp[↓e44,h45,z47,h48,z50,↓e53]
    have hF:=ob hF;obtain⟨v54,e55,hF⟩:=hF
    refine((C.f30 B hB1 hB2 w x52 v54 e55)).goW (by first|simp[↓e44,h45,z47,h48,z50,↓e53];done|simp_all) (by simp) ?_
    have hF:=oc hF;obtain⟨c56,hF⟩:=hF
    have hF:=oc hF;obtain⟨c57,hF⟩:=hF
    have w58:IntKind.i64.wrap ((k42:Int)+1)=(k42:Int)+1:=wrap_in (by omega) (by omega)
    repeat first|refine cg ?_|simp -dsimp[↓e44,h45,z47,h48,z50,↓e53,w58]
    refine Again.go _ ?_ ((ih_f32 ((out41++(⟨#[124]⟩:ByteArray))++v54) (k42+1) o hF) _ rfl _ hq)
    exact(Gh.to3 (by simp) (by first|simp -dsimp[↓e44,h45,z47,h48,z50,↓e53,w58];done|simp_all))
   ·have z50:¬(0<(k42:Int)):=auz
    have hF:=ob hF;obtain⟨x59,e60,hF⟩:=hF
    have le60:=lt_of_get e60
    repeat first|refine cg ?_|simp -dsimp[↓e44,h45,z47,h48,q49,z50,↓e60]
    have hF:=ob hF;obtain⟨v61,e62,hF⟩:=hF
    refine((C.f30 B hB1 hB2 w x59 v61 e62)).goW (by first|simp[↓e44,h45,z47,h48,q49,z50,↓e60];done|simp_all) (by simp) ?_
    have hF:=oc hF;obtain⟨c63,hF⟩:=hF
    have hF:=oc hF;obtain⟨c64,hF⟩:=hF
    have w65:IntKind.i64.wrap ((k42:Int)+1)=(k42:Int)+1:=wrap_in (by omega) (by omega)
    repeat first|refine cg ?_|simp -dsimp[↓e44,h45,z47,h48,q49,z50,↓e60,w65]
    refine Again.go _ ?_ ((ih_f32 (out41++v61) (k42+1) o hF) _ rfl _ hq)
    exact(Gh.to3 (by simp) (by first|simp -dsimp[↓e44,h45,z47,h48,q49,z50,↓e60,w65];done|simp_all))
  ·have z47:¬((k42:Int)<(x43.ctors.length:Int)):=auz
   cases hF
   repeat first|refine cg ?_|simp -dsimp[↓e44,h45,q46,z47]
   refine Leave.go _ (Gh.to3 (by simp) (by first|simp -dsimp[↓e44,h45,q46,z47];done|simp_all)) hq
theorem CC.f33 (w:List Vl.Data):(∀(out:ByteArray) (d:Nat) (o:ByteArray),F.f33 w out d=some o→∀(c:Code),navO [1,1,0,1,0,0] (bodyOf Tryz.f89)=some c→∀(Q:Exit→ASt→Prop),(Q (.exit 0) ⟨[(3,.lit (.string o))],[]⟩)→ALoopU Tryz.prog B 0 51 (hold c .mk) ⟨[(0,.arr (List.map Vl.Data.c w)),(3,.lit (.string out)),(4,.lit (.int .i64 (d:Int)))],[]⟩ (hold Q .mk)):=by
 refine F.f33.partial_correctness w
  _
  ?_
 ·intro _f_f33 ih_f33 out d o hF
  intro c hc Q hq
  obtain rfl:c=_:=navEq hc rfl
  refine ALoopU.know fun hk hs=> ?_
  have b0:=hk 0
  simp -dsimp at b0
  clear hk hs
  refine ALoopU.enter ?_
  repeat first|refine cg ?_|simp -dsimp
  revert hF;refine abr.sp ?_ ?_<;>intro h1 q2 hF
  ·have z3:((d:Int)<(w.length:Int)):=auz
   repeat first|refine cg ?_|simp -dsimp[h1,z3]
   revert hF;refine abr.sp ?_ ?_<;>intro h4 q5 hF
   ·have z6:(0<(d:Int)):=auz
    have hF:=oc hF;obtain⟨c7,hF⟩:=hF
    have hF:=ob hF;obtain⟨x,e8,hF⟩:=hF
    have le8:=lt_of_get e8
    have hF:=oc hF;obtain⟨c9,hF⟩:=hF
    have hF:=oc hF;obtain⟨c10,hF⟩:=hF
    repeat first|refine cg ?_|simp -dsimp[h1,z3,h4,z6,↓e8]
    have hF:=ob hF;obtain⟨o',ho34,hF⟩:=hF
    refine ALoop.goU _ ?_ (((CC.f31 B hB1 hB2 w d) (((out++(⟨#[59]⟩:ByteArray))++x.name)++(⟨#[61]⟩:ByteArray)) 0 o' ho34) _ rfl _ ?_)
    ·exact(Gh.to3 (by simp) (by first|simp -dsimp[h1,z3,h4,z6,↓e8];done|simp_all))
    have hF:=oc hF;obtain⟨c35,hF⟩:=hF
    have w36:IntKind.i64.wrap ((d:Int)+1)=(d:Int)+1:=wrap_in (by omega) (by omega)
    repeat first|refine cg ?_|simp -dsimp[w36]
    refine Again.go _ ?_ ((ih_f33 o' (d+1) o hF) _ rfl _ hq)
    exact(Gh.to3 (by simp) (by first|simp -dsimp[w36];done|simp_all))
   ·have z6:¬(0<(d:Int)):=auz
    have hF:=ob hF;obtain⟨x37,e38,hF⟩:=hF
    have le38:=lt_of_get e38
    have hF:=oc hF;obtain⟨c39,hF⟩:=hF
    have hF:=oc hF;obtain⟨c40,hF⟩:=hF
    repeat first|refine cg ?_|simp -dsimp[h1,z3,h4,q5,z6,↓e38]
    have hF:=ob hF;obtain⟨o'67,ho66,hF⟩:=hF
    refine ALoop.goU _ ?_ (((CC.f32 B hB1 hB2 w d) ((out++x37.name)++(⟨#[61]⟩:ByteArray)) 0 o'67 ho66) _ rfl _ ?_)
    ·exact(Gh.to3 (by simp) (by first|simp -dsimp[h1,z3,h4,q5,z6,↓e38];done|simp_all))
    have hF:=oc hF;obtain⟨c68,hF⟩:=hF
    have w69:IntKind.i64.wrap ((d:Int)+1)=(d:Int)+1:=wrap_in (by omega) (by omega)
    repeat first|refine cg ?_|simp -dsimp[w69]
    refine Again.go _ ?_ ((ih_f33 o'67 (d+1) o hF) _ rfl _ hq)
    exact(Gh.to3 (by simp) (by first|simp -dsimp[w69];done|simp_all))
  ·have z3:¬((d:Int)<(w.length:Int)):=auz
   cases hF
   repeat first|refine cg ?_|simp -dsimp[h1,q2,z3]
   refine Leave.go _ (Gh.to3 (by simp) (by first|simp -dsimp[h1,q2,z3];done|simp_all)) hq
theorem C.f34 (w:List Vl.Data)(r:ByteArray)(hF:F.f34 w=some r):PureCall Tryz.prog B 89 [.arr (List.map Vl.Data.c w)] (.lit (.string r)):=by
 unfold F.f34 at hF
 refine PureCall.enterLe Tryz.func89 (by kernel_rfl) rfl Tryz.ntmps89 (by simp) (by simp) ?_
 repeat first|refine cg ?_|simp -dsimp
 have hF:=ob hF;obtain⟨o'71,ho70,hF⟩:=hF
 refine ALoop.goU _ ?_ (((CC.f33 B hB1 hB2 w) ByteArray.empty 0 o'71 ho70) _ rfl _ ?_)
 ·exact(Gh.to3 (by simp) (by simp -dsimp))
 cases hF
 repeat first|refine cg ?_|simp -dsimp
 all_goals(try first|omega|rfl)
theorem CC.f35 (text:ByteArray)(v:List ByteArray):(∀(names:List ByteArray) (i:Nat) (o:Lo ((List Vl.Data)×Bool) (List ByteArray)),F.f35 text v names i=some o→∀(c:Code),navO [1,1,1,1,0,1,0,0] (bodyOf Tryz.f66)=some c→∀(Q:Exit→ASt→Prop),o.post (fun r=>∀st,Post Tryz.prog Tryz.f66 (fun r' _=>r'.le (.tup [.arr (List.map Vl.Data.c r.1),.lit (.bool r.2)])) .ret st→Q .ret st) (fun s=>Q (.exit 0) ⟨[(0,.lit (.string text)),(4,.own 0 (List.length (α:=Vl.Data) [])),(5,.own 1 (List.length (α:=ByteArray) s)),(6,.arr (List.map cS v))],[.elems 2 (List.map Vl.Data.c []),.elems 1 (List.map cS s)]⟩)→ALoopU Tryz.prog B 0 101 (hold c .mk) ⟨[(0,.lit (.string text)),(4,.own 0 (List.length (α:=Vl.Data) [])),(5,.own 1 (List.length (α:=ByteArray) names)),(6,.arr (List.map cS v)),(7,.lit (.int .i64 (i:Int)))],[.elems 2 (List.map Vl.Data.c []),.elems 1 (List.map cS names)]⟩ (hold Q .mk)):=by
 refine F.f35.partial_correctness text v
  _
  ?_
 ·intro _f_f35 ih_f35 names i o hF
  intro c hc Q hq
  obtain rfl:c=_:=navEq hc rfl
  refine ALoopU.know fun hk hs=> ?_
  have b6:=hk 6
  simp -dsimp at b6
  have d0:=hs 0 _ rfl
  simp -dsimp[Blk.bnd]at d0
  have d1:=hs 1 _ rfl
  simp -dsimp[Blk.bnd]at d1
  clear hk hs
  refine ALoopU.enter ?_
  repeat first|refine cg ?_|simp -dsimp
  revert hF;refine abr.sp ?_ ?_<;>intro h2 q3 hF
  ·have z4:((i:Int)<(v.length:Int)):=auz
   repeat first|refine cg ?_|simp -dsimp[h2,z4]
   revert hF;refine abr.sp ?_ ?_<;>intro h5 q6 hF
   ·have z7:((i:Int)≤4):=auz
    repeat first|refine cg ?_|simp -dsimp[h2,z4,h5,z7]
    revert hF;refine abr.ns ?_ ?_<;>intro h8 q9 hF
    ·have hF:=ob hF;obtain⟨x,e10,hF⟩:=hF
     have le10:=lt_of_get e10
     repeat first|refine cg ?_|simp -dsimp[h2,z4,h5,z7,h8,q9,↓e10]
     have hF:=ob hF;obtain⟨v11,e12,hF⟩:=hF
     refine((C.f3 B hB1 hB2 x 61 v11 e12)).goW (by first|simp[h2,z4,h5,z7,h8,q9,↓e10];done|simp_all) (by simp) ?_
     repeat first|refine cg ?_|simp -dsimp[h2,z4,h5,z7,h8,q9,↓e10]
     revert hF;refine abr.ns ?_ ?_<;>intro h13 q14 hF
     ·have z15:¬((v11.length:Int)=2):=auz
      cases hF
      repeat first|refine cg ?_|simp -dsimp[h2,z4,h5,z7,h8,q9,↓e10,h13,q14,z15]
      refine Leave.go _ (Gh.refl _) (hq _ ?_)
      repeat first|refine cg ?_|simp -dsimp[h2,z4,h5,z7,h8,q9,↓e10,h13,q14,z15]
     ·have z15:((v11.length:Int)=2):=auz
      have hF:=ob hF;obtain⟨x16,e17,hF⟩:=hF
      have le17:=lt_of_get e17
      have hF:=oc hF;obtain⟨c18,hF⟩:=hF
      have w19:IntKind.i64.wrap ((i:Int)+1)=(i:Int)+1:=wrap_in (by omega) (by omega)
      repeat first|refine cg ?_|simp -dsimp[h2,z4,h5,z7,h8,q9,↓e10,h13,q14,z15,↓e17,w19]
      refine Again.go _ ?_ ((ih_f35 (names++[x16]) (i+1) o hF) _ rfl _ hq)
      exact(Gh.to3 (by simp) (by first|simp -dsimp[h2,z4,h5,z7,h8,q9,↓e10,h13,q14,z15,↓e17,w19];done|simp_all))
    ·cases hF
     repeat first|refine cg ?_|simp -dsimp[h2,z4,h5,z7,h8,q9]
     refine Leave.go _ (Gh.to3 (by simp) (by first|simp -dsimp[h2,z4,h5,z7,h8,q9];done|simp_all)) hq
   ·have z7:¬((i:Int)≤4):=auz
    cases hF
    repeat first|refine cg ?_|simp -dsimp[h2,z4,h5,q6,z7]
    refine Leave.go _ (Gh.to3 (by simp) (by first|simp -dsimp[h2,z4,h5,q6,z7];done|simp_all)) hq
  ·have z4:¬((i:Int)<(v.length:Int)):=auz
   cases hF
   repeat first|refine cg ?_|simp -dsimp[h2,q3,z4]
   refine Leave.go _ (Gh.to3 (by simp) (by first|simp -dsimp[h2,q3,z4];done|simp_all)) hq
theorem CC.f36 (text:ByteArray)(v:List ByteArray)(out:List Vl.Data)(names21:List ByteArray)(i22:Nat)(v32:List ByteArray)(x34:ByteArray):(∀(out36:List Ctor) (k:Nat) (o:List Ctor),F.f36 text v out names21 i22 v32 x34 out36 k=some o→∀(c:Code),navO [1,1,1,1,1,0,1,0,0,1,0,0,1,1,0,1,0,0] (bodyOf Tryz.f66)=some c→∀(Q:Exit→ASt→Prop),(Q (.exit 4) ⟨[(0,.lit (.string text)),(4,.own 0 (List.length (α:=Vl.Data) out)),(5,.arr (List.map cS names21)),(6,.arr (List.map cS v)),(9,.lit (.int .i64 (i22:Int))),(11,.ptr 2 0)],[.elems 2 (List.map Vl.Data.c out),.dead,.cells [.lit (.string x34),.own 3 (List.length (α:=Ctor) o)],.elems 3 (List.map Ctor.c o)]⟩)→ALoopU Tryz.prog B 0 101 (hold c .mk) ⟨[(0,.lit (.string text)),(4,.own 0 (List.length (α:=Vl.Data) out)),(5,.arr (List.map cS names21)),(6,.arr (List.map cS v)),(9,.lit (.int .i64 (i22:Int))),(10,.arr (List.map cS v32)),(11,.ptr 2 0),(12,.lit (.int .i64 (k:Int)))],[.elems 2 (List.map Vl.Data.c out),.dead,.cells [.lit (.string x34),.own 3 (List.length (α:=Ctor) out36)],.elems 3 (List.map Ctor.c out36)]⟩ (hold Q .mk)):=by
 refine F.f36.partial_correctness text v out names21 i22 v32 x34
  _
  ?_
 ·intro _f_f36 ih_f36 out36 k o hF
  intro c hc Q hq
  obtain rfl:c=_:=navEq hc rfl
  refine ALoopU.know fun hk hs=> ?_
  have b5:=hk 5
  simp -dsimp at b5
  have b6:=hk 6
  simp -dsimp at b6
  have b10:=hk 10
  simp -dsimp at b10
  have d0:=hs 0 _ rfl
  simp -dsimp[Blk.bnd]at d0
  have d3:=hs 3 _ rfl
  simp -dsimp[Blk.bnd]at d3
  clear hk hs
  refine ALoopU.enter ?_
  repeat first|refine cg ?_|simp -dsimp
  revert hF;refine abr.sp ?_ ?_<;>intro h37 q38 hF
  ·have z39:((k:Int)<(v32.length:Int)):=auz
   repeat first|refine cg ?_|simp -dsimp[h37,z39]
   revert hF;refine abr.sp ?_ ?_<;>intro h40 q41 hF
   ·have z42:((k:Int)≤4):=auz
    repeat first|refine cg ?_|simp -dsimp[h37,z39,h40,z42]
    refine ADraw.eff [] [(0,1),(0,1),(0,0),(0,0),(0,0),(0,0),(0,0),(0,3),(0,3),(0,3),(2,2),(0,3)] [0,2,1,1,1,1,1,1,1,1,1,1] follows (by kernel_rfl) (by kernel_rfl) (by kernel_rfl) ?_
    have hF:=ob hF;obtain⟨x43,e44,hF⟩:=hF
    have le44:=lt_of_get e44
    repeat first|refine cg ?_|simp -dsimp[h37,z39,h40,z42,↓e44]
    have hF:=ob hF;obtain⟨v45,e46,hF⟩:=hF
    refine((C.f10 B hB1 hB2 names21 x43 v45 e46)).pgoW (by first|simp[h37,z39,h40,z42,↓e44];done|simp_all) (by simp) ?_
    have hF:=oc hF;obtain⟨c47,hF⟩:=hF
    have w48:IntKind.i64.wrap ((k:Int)+1)=(k:Int)+1:=wrap_in (by omega) (by omega)
    repeat first|refine cg ?_|simp -dsimp[h37,z39,h40,z42,↓e44,w48]
    refine Again.go _ ?_ ((ih_f36 (out36++[v45]) (k+1) o hF) _ rfl _ hq)
    exact(Gh.to3 (by simp) (by first|simp -dsimp[h37,z39,h40,z42,↓e44,w48];done|simp_all))
   ·have z42:¬((k:Int)≤4):=auz
    cases hF
    repeat first|refine cg ?_|simp -dsimp[h37,z39,h40,q41,z42]
    refine Leave.go _ (Gh.to3 (by simp) (by first|simp -dsimp[h37,z39,h40,q41,z42];done|simp_all)) hq
  ·have z39:¬((k:Int)<(v32.length:Int)):=auz
   cases hF
   repeat first|refine cg ?_|simp -dsimp[h37,q38,z39]
   refine Leave.go _ (Gh.to3 (by simp) (by first|simp -dsimp[h37,q38,z39];done|simp_all)) hq
theorem CC.f37 (text:ByteArray)(v:List ByteArray)(names21:List ByteArray):(∀(out:List Vl.Data) (i22:Nat) (o:List Vl.Data),F.f37 text v out names21 i22=some o→∀(c:Code),navO [1,1,1,1,1,0,1,0,0] (bodyOf Tryz.f66)=some c→∀(Q:Exit→ASt→Prop),(Q (.exit 2) ⟨[(0,.lit (.string text)),(4,.own 0 (List.length (α:=Vl.Data) o))],[.elems 2 (List.map Vl.Data.c o)]⟩)→ALoopU Tryz.prog B 0 101 (hold c .mk) ⟨[(0,.lit (.string text)),(4,.own 0 (List.length (α:=Vl.Data) out)),(5,.arr (List.map cS names21)),(6,.arr (List.map cS v)),(9,.lit (.int .i64 (i22:Int)))],[.elems 2 (List.map Vl.Data.c out),.dead]⟩ (hold Q .mk)):=by
 refine F.f37.partial_correctness text v names21
  _
  ?_
 ·intro _f_f37 ih_f37 out i22 o hF
  intro c hc Q hq
  obtain rfl:c=_:=navEq hc rfl
  refine ALoopU.know fun hk hs=> ?_
  have b5:=hk 5
  simp -dsimp at b5
  have b6:=hk 6
  simp -dsimp at b6
  have d0:=hs 0 _ rfl
  simp -dsimp[Blk.bnd]at d0
  clear hk hs
  refine ALoopU.enter ?_
  repeat first|refine cg ?_|simp -dsimp
  revert hF;refine abr.sp ?_ ?_<;>intro h23 q24 hF
  ·have z25:((i22:Int)<(names21.length:Int)):=auz
   have hF:=ob hF;obtain⟨x26,e27,hF⟩:=hF
   have le27:=lt_of_get e27
   repeat first|refine cg ?_|simp -dsimp[h23,z25,↓e27]
   have hF:=ob hF;obtain⟨v28,e29,hF⟩:=hF
   refine((C.f3 B hB1 hB2 x26 61 v28 e29)).goW (by first|simp[h23,z25,↓e27];done|simp_all) (by simp) ?_
   have hF:=ob hF;obtain⟨x30,e31,hF⟩:=hF
   have le31:=lt_of_get e31
   repeat first|refine cg ?_|simp -dsimp[h23,z25,↓e27,↓e31]
   have hF:=ob hF;obtain⟨v32,e33,hF⟩:=hF
   refine((C.f3 B hB1 hB2 x30 124 v32 e33)).goW (by first|simp[h23,z25,↓e27,↓e31];done|simp_all) (by simp) ?_
   have hF:=ob hF;obtain⟨x34,e35,hF⟩:=hF
   have le35:=lt_of_get e35
   repeat first|refine cg ?_|simp -dsimp[h23,z25,↓e27,↓e31,↓e35]
   have hF:=ob hF;obtain⟨o'50,ho49,hF⟩:=hF
   refine ALoop.goU ⟨[(0,.lit (.string text)),(4,.own 0 (List.length (α:=Vl.Data) out)),(5,.arr (List.map cS names21)),(6,.arr (List.map cS v)),(9,.lit (.int .i64 (i22:Int))),(10,.arr (List.map cS v32)),(11,.ptr 2 0),(12,.lit (.int .i64 0))],[.elems 2 (List.map Vl.Data.c out),.dead,.cells [.lit (.string x34),.own 3 (List.length (α:=Ctor) [])],.elems 3 (List.map Ctor.c [])]⟩ (by refine Gh.trans (Gh.nilCell 2 1 3 (by simp -dsimp;rfl) (by simp -dsimp)) ?_;exact(Gh.to3 (by simp) (by first|simp -dsimp[h23,z25,↓e27,↓e31,↓e35];done|simp_all))) ?_
   refine((CC.f36 B hB1 hB2 text v out names21 i22 v32 x34) [] 0 o'50 ho49) _ rfl _ ?_
   have hF:=oc hF;obtain⟨c51,hF⟩:=hF
   have hF:=oc hF;obtain⟨c52,hF⟩:=hF
   have w53:IntKind.i64.wrap ((i22:Int)+1)=(i22:Int)+1:=wrap_in (by omega) (by omega)
   repeat first|refine cg ?_|simp -dsimp[w53]
   refine Again.go _ ?_ ((ih_f37 (out++[(⟨x34,o'50⟩:Vl.Data)]) (i22+1) o hF) _ rfl _ hq)
   exact(Gh.to3 (by simp) (by first|simp -dsimp[w53];done|simp_all))
  ·have z25:¬((i22:Int)<(names21.length:Int)):=auz
   cases hF
   repeat first|refine cg ?_|simp -dsimp[h23,q24,z25]
   refine Leave.go _ (Gh.to3 (by simp) (by first|simp -dsimp[h23,q24,z25];done|simp_all)) hq
theorem C.f38 (text:ByteArray)(r:(List Vl.Data)×Bool)(hF:F.f38 text=some r):PureCall Tryz.prog B 66 [.lit (.string text)] (.tup [.arr (List.map Vl.Data.c r.1),.lit (.bool r.2)]):=by
 unfold F.f38 at hF
 refine PureCall.enterLe Tryz.func66 (by kernel_rfl) rfl Tryz.ntmps66 (by simp) (by simp) ?_
 repeat first|refine cg ?_|simp -dsimp
 have hF:=ob hF;obtain⟨v,e1,hF⟩:=hF
 refine((C.f3 B hB1 hB2 text 59 v e1)).goW (by simp) (by simp) ?_
 repeat first|refine cg ?_|simp -dsimp
 have hF:=ob hF;obtain⟨o',ho20,hF⟩:=hF
 refine ALoop.goU _ ?_ (((CC.f35 B hB1 hB2 text v) [] 0 o' ho20) _ rfl _ ?_)
 ·exact(Gh.to3 (by simp) (by simp -dsimp))
 rcases o' with r0|sx
 ·dsimp only at hF
  cases hF
  intro st h
  simpa using h
 ·dsimp only at hF
  repeat first|refine cg ?_|simp -dsimp
  have hF:=ob hF;obtain⟨o'55,ho54,hF⟩:=hF
  refine ALoop.goU ⟨[(0,.lit (.string text)),(4,.own 0 (List.length (α:=Vl.Data) [])),(5,.arr (List.map cS sx)),(6,.arr (List.map cS v)),(9,.lit (.int .i64 0))],[.elems 2 (List.map Vl.Data.c []),.dead]⟩ (by refine Gh.trans (Gh.frzSlot 5 (l:=1) (n:=List.length (α:=ByteArray) sx) (sz:=1) (es:=List.map cS sx) (by simp) (by simp) (by simp) (by simp)) ?_;exact(Gh.to3 (by simp) (by simp -dsimp))) ?_
  refine((CC.f37 B hB1 hB2 text v sx) [] 0 o'55 ho54) _ rfl _ ?_
  repeat first|refine cg ?_|simp -dsimp
  have hF:=ob hF;obtain⟨v56,e57,hF⟩:=hF
  refine((C.f24 B hB1 hB2 o'55 v56 e57)).lend (by simp -dsimp) (by simp -dsimp) ?_
  repeat first|refine cg ?_|simp -dsimp
  revert hF;refine abr.sp (fun h58 q59 hF=> ?_) (fun h58 q59 hF=> ?_)
  ·repeat first|refine cg ?_|simp -dsimp[h58]
   have hF:=ob hF;obtain⟨v60,e61,hF⟩:=hF
   refine((C.f34 B hB1 hB2 o'55 v60 e61)).lend (by first|simp -dsimp[h58];done|simp_all) (by simp -dsimp) ?_
   repeat first|refine cg ?_|simp -dsimp[h58]
   revert hF;refine abr.ns ?_ ?_<;>intro h62 q63 hF
   ·cases hF
    repeat first|refine cg ?_|simp -dsimp[h58,h62,q63]
    all_goals(try first|omega|rfl)
   ·cases hF
    repeat first|refine cg ?_|simp -dsimp[h58,h62,q63]
    all_goals(try first|omega|rfl)
  ·cases hF
   repeat first|refine cg ?_|simp -dsimp[h58,q59]
   all_goals(try first|omega|rfl)
theorem C.f39 (r':T_spec_l17Rd)(r:(List Vl.Data)×T_spec_l17Rd)(hF:F.f39 r'=some r):MutCall Tryz.prog B 45 [.arr (List.map cU r'.f0),.lit (.int .i64 r'.f1)] [.ptr 0 0] (.arr (List.map Vl.Data.c r.1)) [.arr (List.map cU r.2.f0),.lit (.int .i64 r.2.f1)]:=by
 unfold F.f39 at hF
 refine MutCall.enter Tryz.func45 (by kernel_rfl) rfl Tryz.ntmps45 (by simp) (by simp) (by simp) (by simp) ?_
 repeat first|refine cg ?_|simp -dsimp
 have hF:=ob hF;obtain⟨v,e1,hF⟩:=hF
 refine((C.f0 B hB1 hB2 v e1)).goW (by simp) (by simp) ?_
 repeat first|refine cg ?_|simp -dsimp
 have hF:=ob hF;obtain⟨v2,e3,hF⟩:=hF
 refine((C.f1 B hB1 hB2 r' (IntKind.i64.wrap ((v.length:Int) -1)) v2 e3)).go 0 rfl (by simp) (by simp) (by simp) ?_
 have hF:=ob hF;obtain⟨x,e4a,hF⟩:=hF
 have e4a:=at_some e4a;obtain⟨ne4,e4⟩:=e4a
 have le4:=lt_of_get e4
 repeat first|refine cg ?_|simp -dsimp[↓e4]
 have hF:=ob hF;obtain⟨v5,e6,hF⟩:=hF
 refine((C.f38 B hB1 hB2 x v5 e6)).goW (by first|simp[↓e4];done|simp_all) (by simp) ?_
 cases hF
 repeat first|refine cg ?_|simp -dsimp[↓e4]
 all_goals(try first|omega|rfl)
theorem C.f40 (c':Ctor)(index':Int)(r:Bool)(hF:F.f40 c' index'=some r):PureCall Tryz.prog B 90 [.agg [.lit (.string c'.name),.arr (List.map Ty.c c'.args),.lit (.int .i64 c'.index)],.lit (.int .i64 index')] (.lit (.bool r)):=by
 unfold F.f40 at hF
 refine PureCall.enterLe Tryz.func90 (by kernel_rfl) rfl Tryz.ntmps90 (by simp) (by simp) ?_
 repeat first|refine cg ?_|simp -dsimp
 revert hF;refine abr.ns ?_ ?_<;>intro h1 q2 hF
 ·repeat first|refine cg ?_|simp -dsimp[h1,q2]
  revert hF;refine abr.ns ?_ ?_<;>intro h3 q4 hF
  ·cases hF
   repeat first|refine cg ?_|simp -dsimp[h1,q2,h3,q4]
   all_goals(try first|omega|rfl)
  ·cases hF
   repeat first|refine cg ?_|simp -dsimp[h1,q2,eq_true h3,eq_true q4]
   all_goals(try first|omega|rfl)
 ·cases hF
  repeat first|refine cg ?_|simp -dsimp[h1,q2]
  all_goals(try first|omega|rfl)
theorem CC.f41 (w:List Vl.Data)(t:Ty):(∀(out:List Int) (k:Nat) (o:List Int),F.f41 w t out k=some o→∀(c:Code),navO [1,1,1,0,1,0,0] (bodyOf Tryz.f67)=some c→∀(Q:Exit→ASt→Prop),(Q (.exit 0) ⟨[(5,.own 1 (List.length (α:=Int) o))],[.dead,.elems 1 (List.map cI o)]⟩)→ALoopU Tryz.prog B 0 40 (hold c .mk) ⟨[(0,.arr (List.map Vl.Data.c w)),(3,.ptr 0 0),(5,.own 1 (List.length (α:=Int) out)),(6,.lit (.int .i64 (k:Int)))],[.cells [.lit (.int .i64 t.data),.lit (.int .i64 t.index)],.elems 1 (List.map cI out)]⟩ (hold Q .mk)):=by
 refine F.f41.partial_correctness w t
  _
  ?_
 ·intro _f_f41 ih_f41 out k o hF
  intro c hc Q hq
  obtain rfl:c=_:=navEq hc rfl
  refine ALoopU.know fun hk hs=> ?_
  have b0:=hk 0
  simp -dsimp at b0
  have d1:=hs 1 _ rfl
  simp -dsimp[Blk.bnd]at d1
  clear hk hs
  refine ALoopU.enter ?_
  have hF:=ob hF;obtain⟨x,e3a,hF⟩:=hF
  have e3a:=at_some e3a;obtain⟨ne3,e3⟩:=e3a
  have le3:=lt_of_get e3
  repeat first|refine cg ?_|simp -dsimp[↓e3]
  revert hF;refine abr.sp ?_ ?_<;>intro h4 q5 hF
  ·have z6:((k:Int)<(x.ctors.length:Int)):=auz
   repeat first|refine cg ?_|simp -dsimp[↓e3,h4,z6]
   refine ADraw.simple follows (by kernel_rfl) (by kernel_rfl) ?_
   have hF:=ob hF;obtain⟨x7,e8,hF⟩:=hF
   have le8:=lt_of_get e8
   repeat first|refine cg ?_|simp -dsimp[↓e3,h4,z6,↓e8]
   have hF:=ob hF;obtain⟨v,e9,hF⟩:=hF
   refine((C.f40 B hB1 hB2 x7 t.index v e9)).pgoW (by first|simp[↓e3,h4,z6,↓e8];done|simp_all) (by simp) ?_
   repeat first|refine cg ?_|simp -dsimp[↓e3,h4,z6,↓e8]
   revert hF;refine abr.sp (fun h10 q11 hF=> ?_) (fun h10 q11 hF=> ?_)
   ·have hF:=oc hF;obtain⟨c12,hF⟩:=hF
    have hF:=oc hF;obtain⟨c13,hF⟩:=hF
    have w14:IntKind.i64.wrap ((k:Int)+1)=(k:Int)+1:=wrap_in (by omega) (by omega)
    repeat first|refine cg ?_|simp -dsimp[↓e3,h4,z6,↓e8,h10,w14]
    refine Again.go _ ?_ ((ih_f41 (out++[(k:Int)]) (k+1) o hF) _ rfl _ hq)
    exact(Gh.to3 (by simp) (by first|simp -dsimp[↓e3,h4,z6,↓e8,h10,w14];done|simp_all))
   ·have hF:=oc hF;obtain⟨c15,hF⟩:=hF
    have w16:IntKind.i64.wrap ((k:Int)+1)=(k:Int)+1:=wrap_in (by omega) (by omega)
    repeat first|refine cg ?_|simp -dsimp[↓e3,h4,z6,↓e8,h10,q11,w16]
    refine Again.go _ ?_ ((ih_f41 out (k+1) o hF) _ rfl _ hq)
    exact(Gh.to3 (by simp) (by first|simp -dsimp[↓e3,h4,z6,↓e8,h10,q11,w16];done|simp_all))
  ·have z6:¬((k:Int)<(x.ctors.length:Int)):=auz
   cases hF
   repeat first|refine cg ?_|simp -dsimp[↓e3,h4,q5,z6]
   refine Leave.go _ (Gh.to3 (by simp) (by first|simp -dsimp[↓e3,h4,q5,z6];done|simp_all)) hq
theorem C.f42 (w:List Vl.Data)(t:Ty)(r:List Int)(hF:F.f42 w t=some r):PureCall Tryz.prog B 67 [.arr (List.map Vl.Data.c w),.agg [.lit (.int .i64 t.data),.lit (.int .i64 t.index)]] (.arr (List.map cI r)):=by
 unfold F.f42 at hF
 refine PureCall.enterLe Tryz.func67 (by kernel_rfl) rfl Tryz.ntmps67 (by simp) (by simp) ?_
 repeat first|refine cg ?_|simp -dsimp
 revert hF;refine abr.sp ?_ ?_<;>intro h1 q2 hF
 ·cases hF
  repeat first|refine cg ?_|simp -dsimp[h1]
  all_goals(try first|omega|rfl)
 ·repeat first|refine cg ?_|simp -dsimp[h1,q2]
  have hF:=ob hF;obtain⟨o',ho17,hF⟩:=hF
  refine ALoop.goU _ ?_ (((CC.f41 B hB1 hB2 w t) [] 0 o' ho17) _ rfl _ ?_)
  ·exact(Gh.to3 (by simp) (by first|simp -dsimp[h1,q2];done|simp_all))
  cases hF
  repeat first|refine cg ?_|simp -dsimp
  all_goals(try first|omega|rfl)
theorem C.f43 (c':Ctor)(index':Int)(r:Int)(hF:F.f43 c' index'=some r):PureCall Tryz.prog B 91 [.agg [.lit (.string c'.name),.arr (List.map Ty.c c'.args),.lit (.int .i64 c'.index)],.lit (.int .i64 index')] (.lit (.int .i64 r)):=by
 unfold F.f43 at hF
 refine PureCall.enterLe Tryz.func91 (by kernel_rfl) rfl Tryz.ntmps91 (by simp) (by simp) ?_
 repeat first|refine cg ?_|simp -dsimp
 revert hF;refine abr.sp ?_ ?_<;>intro h1 q2 hF
 ·cases hF
  repeat first|refine cg ?_|simp -dsimp[h1]
  all_goals(try first|omega|rfl)
 ·cases hF
  repeat first|refine cg ?_|simp -dsimp[h1,q2]
  all_goals(try first|omega|rfl)
theorem CC.f44 (t:Ty)(x2:Ctor):(∀(out:List Ty) (i:Nat) (o:List Ty),F.f44 t x2 out i=some o→∀(c:Code),navO [1,1,1,0,1,0,0] (bodyOf Tryz.f70)=some c→∀(Q:Exit→ASt→Prop),(Q (.exit 0) ⟨[(7,.own 1 (List.length (α:=Ty) o))],[.dead,.elems 2 (List.map Ty.c o)]⟩)→ALoopU Tryz.prog B 0 46 (hold c .mk) ⟨[(4,.ptr 0 0),(7,.own 1 (List.length (α:=Ty) out)),(8,.ptr 2 0),(9,.lit (.int .i64 (i:Int)))],[.cells [.lit (.int .i64 t.data),.lit (.int .i64 t.index)],.elems 2 (List.map Ty.c out),.cells [.lit (.string x2.name),.arr (List.map Ty.c x2.args),.lit (.int .i64 x2.index)]]⟩ (hold Q .mk)):=by
 refine F.f44.partial_correctness t x2
  _
  ?_
 ·intro _f_f44 ih_f44 out i o hF
  intro c hc Q hq
  obtain rfl:c=_:=navEq hc rfl
  refine ALoopU.know fun hk hs=> ?_
  have d1:=hs 1 _ rfl
  simp -dsimp[Blk.bnd]at d1
  have d2:=hs 2 _ rfl
  simp -dsimp[Blk.bnd]at d2
  clear hk hs
  refine ALoopU.enter ?_
  repeat first|refine cg ?_|simp -dsimp
  revert hF;refine abr.sp ?_ ?_<;>intro h4 q5 hF
  ·have z6:((i:Int)<(x2.args.length:Int)):=auz
   have hF:=ob hF;obtain⟨x7,e8,hF⟩:=hF
   have le8:=lt_of_get e8
   repeat first|refine cg ?_|simp -dsimp[h4,z6,↓e8]
   revert hF;refine abr.sp ?_ ?_<;>intro h9 q10 hF
   ·repeat first|refine cg ?_|simp -dsimp[h4,z6,↓e8,h9]
    have hF:=ob hF;obtain⟨v,e11,hF⟩:=hF
    refine((C.f43 B hB1 hB2 x2 t.index v e11)).goW (by first|simp[h4,z6,↓e8,h9];done|simp_all) (by simp) ?_
    have hF:=oc hF;obtain⟨c12,hF⟩:=hF
    have w13:IntKind.i64.wrap ((i:Int)+1)=(i:Int)+1:=wrap_in (by omega) (by omega)
    repeat first|refine cg ?_|simp -dsimp[h4,z6,↓e8,h9,w13]
    refine Again.go _ ?_ ((ih_f44 (out++[(⟨x7.data,v⟩:Ty)]) (i+1) o hF) _ rfl _ hq)
    exact(Gh.to3 (by simp) (by first|simp -dsimp[h4,z6,↓e8,h9,w13];done|simp_all))
   ·have hF:=oc hF;obtain⟨c14,hF⟩:=hF
    have w15:IntKind.i64.wrap ((i:Int)+1)=(i:Int)+1:=wrap_in (by omega) (by omega)
    repeat first|refine cg ?_|simp -dsimp[h4,z6,↓e8,h9,q10,w15]
    refine Again.go _ ?_ ((ih_f44 (out++[x7]) (i+1) o hF) _ rfl _ hq)
    exact(Gh.to3 (by simp) (by first|simp -dsimp[h4,z6,↓e8,h9,q10,w15];done|simp_all))
  ·have z6:¬((i:Int)<(x2.args.length:Int)):=auz
   cases hF
   repeat first|refine cg ?_|simp -dsimp[h4,q5,z6]
   refine Leave.go _ (Gh.to3 (by simp) (by first|simp -dsimp[h4,q5,z6];done|simp_all)) hq
theorem C.f45 (w:List Vl.Data)(t:Ty)(ctor:Int)(r:List Ty)(hF:F.f45 w t ctor=some r):PureCall Tryz.prog B 70 [.arr (List.map Vl.Data.c w),.agg [.lit (.int .i64 t.data),.lit (.int .i64 t.index)],.lit (.int .i64 ctor)] (.arr (List.map Ty.c r)):=by
 unfold F.f45 at hF
 refine PureCall.enterLe Tryz.func70 (by kernel_rfl) rfl Tryz.ntmps70 (by simp) (by simp) ?_
 have hF:=ob hF;obtain⟨x,e1a,hF⟩:=hF
 have e1a:=at_some e1a;obtain⟨ne1,e1⟩:=e1a
 have le1:=lt_of_get e1
 have hF:=ob hF;obtain⟨x2,e3a,hF⟩:=hF
 have e3a:=at_some e3a;obtain⟨ne3,e3⟩:=e3a
 have le3:=lt_of_get e3
 repeat first|refine cg ?_|simp -dsimp[↓e1,↓e3]
 have hF:=ob hF;obtain⟨o',ho16,hF⟩:=hF
 refine ALoop.goU _ ?_ (((CC.f44 B hB1 hB2 t x2) [] 0 o' ho16) _ rfl _ ?_)
 ·exact(Gh.to3 (by simp) (by first|simp -dsimp[↓e1,↓e3];done|simp_all))
 cases hF
 repeat first|refine cg ?_|simp -dsimp
 all_goals(try first|omega|rfl)
theorem C.f46 (t:Ty)(r:Int)(hF:F.f46 t=some r):PureCall Tryz.prog B 69 [.agg [.lit (.int .i64 t.data),.lit (.int .i64 t.index)]] (.lit (.int .i64 r)):=by
 unfold F.f46 at hF
 refine PureCall.enterLe Tryz.func69 (by kernel_rfl) rfl Tryz.ntmps69 (by simp) (by simp) ?_
 cases hF
 repeat first|refine cg ?_|simp -dsimp
 all_goals(try first|omega|rfl)
theorem C.f47 (table:List Int)(t:Ty)(r:Int)(hF:F.f47 table t=some r):PureCall Tryz.prog B 48 [.arr (List.map cI table),.agg [.lit (.int .i64 t.data),.lit (.int .i64 t.index)]] (.lit (.int .i64 r)):=by
 unfold F.f47 at hF
 refine PureCall.enterLe Tryz.func48 (by kernel_rfl) rfl Tryz.ntmps48 (by simp) (by simp) ?_
 repeat first|refine cg ?_|simp -dsimp
 revert hF;refine abr.sp ?_ ?_<;>intro h1 q2 hF
 ·cases hF
  repeat first|refine cg ?_|simp -dsimp[h1]
  all_goals(try first|omega|rfl)
 ·repeat first|refine cg ?_|simp -dsimp[h1,q2]
  have hF:=ob hF;obtain⟨v,e3,hF⟩:=hF
  refine((C.f46 B hB1 hB2 t v e3)).goW (by first|simp[h1,q2];done|simp_all) (by simp) ?_
  have hF:=ob hF;obtain⟨x,e4a,hF⟩:=hF
  have e4a:=at_some e4a;obtain⟨ne4,e4⟩:=e4a
  have le4:=lt_of_get e4
  cases hF
  repeat first|refine cg ?_|simp -dsimp[h1,q2,↓e4]
  all_goals(try first|omega|rfl)
theorem CC.f48 (table:List Int)(v:List Ty):(∀(most:Int) (i:Nat) (o:Lo Int Int),F.f48 table v most i=some o→∀(c:Code),navO [1,1,1,0,1,0,0] (bodyOf Tryz.f68)=some c→∀(Q:Exit→ASt→Prop),o.post (fun r=>∀st,Post Tryz.prog Tryz.f68 (fun r' _=>r'.le (.lit (.int .i64 r))) .ret st→Q .ret st) (fun s=>Q (.exit 0) ⟨[(10,.lit (.int .i64 s))],[]⟩)→ALoopU Tryz.prog B 0 37 (hold c .mk) ⟨[(1,.arr (List.map cI table)),(9,.arr (List.map Ty.c v)),(10,.lit (.int .i64 most)),(11,.lit (.int .i64 (i:Int)))],[]⟩ (hold Q .mk)):=by
 refine F.f48.partial_correctness table v
  _
  ?_
 ·intro _f_f48 ih_f48 most i o hF
  intro c hc Q hq
  obtain rfl:c=_:=navEq hc rfl
  refine ALoopU.know fun hk hs=> ?_
  have b1:=hk 1
  simp -dsimp at b1
  have b9:=hk 9
  simp -dsimp at b9
  clear hk hs
  refine ALoopU.enter ?_
  repeat first|refine cg ?_|simp -dsimp
  revert hF;refine abr.sp ?_ ?_<;>intro h2 q3 hF
  ·have z4:((i:Int)<(v.length:Int)):=auz
   have hF:=ob hF;obtain⟨x,e5,hF⟩:=hF
   have le5:=lt_of_get e5
   repeat first|refine cg ?_|simp -dsimp[h2,z4,↓e5]
   have hF:=ob hF;obtain⟨v6,e7,hF⟩:=hF
   refine((C.f47 B hB1 hB2 table x v6 e7)).goW (by first|simp[h2,z4,↓e5];done|simp_all) (by simp) ?_
   repeat first|refine cg ?_|simp -dsimp[h2,z4,↓e5]
   revert hF;refine abr.sp ?_ ?_<;>intro h8 q9 hF
   ·cases hF
    repeat first|refine cg ?_|simp -dsimp[h2,z4,↓e5,eq_true h8]
    refine Leave.go _ (Gh.refl _) (hq _ ?_)
    repeat first|refine cg ?_|simp -dsimp[h2,z4,↓e5,eq_true h8]
   ·repeat first|refine cg ?_|simp -dsimp[h2,z4,↓e5,h8,q9]
    revert hF;refine abr.sp ?_ ?_<;>intro h10 q11 hF
    ·have w12:IntKind.i64.wrap ((i:Int)+1)=(i:Int)+1:=wrap_in (by omega) (by omega)
     repeat first|refine cg ?_|simp -dsimp[h2,z4,↓e5,h8,q9,h10,w12]
     refine Again.go _ ?_ ((ih_f48 v6 (i+1) o hF) _ rfl _ hq)
     exact(Gh.to3 (by simp) (by first|simp -dsimp[h2,z4,↓e5,h8,q9,h10,w12];done|simp_all))
    ·have w13:IntKind.i64.wrap ((i:Int)+1)=(i:Int)+1:=wrap_in (by omega) (by omega)
     repeat first|refine cg ?_|simp -dsimp[h2,z4,↓e5,h8,q9,h10,q11,w13]
     refine Again.go _ ?_ ((ih_f48 most (i+1) o hF) _ rfl _ hq)
     exact(Gh.to3 (by simp) (by first|simp -dsimp[h2,z4,↓e5,h8,q9,h10,q11,w13];done|simp_all))
  ·have z4:¬((i:Int)<(v.length:Int)):=auz
   cases hF
   repeat first|refine cg ?_|simp -dsimp[h2,q3,z4]
   refine Leave.go _ (Gh.to3 (by simp) (by first|simp -dsimp[h2,q3,z4];done|simp_all)) hq
theorem C.f49 (w:List Vl.Data)(table:List Int)(t:Ty)(ctor:Int)(r:Int)(hF:F.f49 w table t ctor=some r):PureCall Tryz.prog B 68 [.arr (List.map Vl.Data.c w),.arr (List.map cI table),.agg [.lit (.int .i64 t.data),.lit (.int .i64 t.index)],.lit (.int .i64 ctor)] (.lit (.int .i64 r)):=by
 unfold F.f49 at hF
 refine PureCall.enterLe Tryz.func68 (by kernel_rfl) rfl Tryz.ntmps68 (by simp) (by simp) ?_
 repeat first|refine cg ?_|simp -dsimp
 have hF:=ob hF;obtain⟨v,e1,hF⟩:=hF
 refine((C.f45 B hB1 hB2 w t ctor v e1)).goW (by simp) (by simp) ?_
 repeat first|refine cg ?_|simp -dsimp
 have hF:=ob hF;obtain⟨o',ho14,hF⟩:=hF
 refine ALoop.goU _ ?_ (((CC.f48 B hB1 hB2 table v) 0 0 o' ho14) _ rfl _ ?_)
 ·exact(Gh.to3 (by simp) (by simp -dsimp))
 rcases o' with r0|sx
 ·dsimp only at hF
  cases hF
  intro st h
  simpa using h
 ·dsimp only at hF
  cases hF
  repeat first|refine cg ?_|simp -dsimp
  all_goals(try first|omega|rfl)
theorem CC.f50 (w:List Vl.Data)(n:Nat)(s:Nat)(v:List Int):(∀(table10:List Int) (i:Nat) (o:List Int),F.f50 w n s v table10 i=some o→∀(c:Code),navO [1,1,0,1,0,0,1,0,0,1,0,0,1,0,0,1,1,1,0,0] (bodyOf Tryz.f46)=some c→∀(Q:Exit→ASt→Prop),(Q (.exit 4) ⟨[(0,.arr (List.map Vl.Data.c w)),(3,.own 0 (List.length (α:=Int) o)),(4,.lit (.int .i64 (n:Int))),(5,.lit (.int .i64 (s:Int)))],[.elems 1 (List.map cI o)]⟩)→ALoopU Tryz.prog B 0 70 (hold c .mk) ⟨[(0,.arr (List.map Vl.Data.c w)),(3,.own 0 (List.length (α:=Int) table10)),(4,.lit (.int .i64 (n:Int))),(5,.lit (.int .i64 (s:Int))),(6,.ptr 1 0),(7,.arr (List.map cI v)),(8,.lit (.int .i64 (i:Int)))],[.elems 1 (List.map cI table10),.cells [.lit (.int .i64 (IntKind.i64.wrap ((s:Int).tdiv 4))),.lit (.int .i64 ((s:Int).tmod 4))]]⟩ (hold Q .mk)):=by
 refine F.f50.partial_correctness w n s v
  _
  ?_
 ·intro _f_f50 ih_f50 table10 i o hF
  intro c hc Q hq
  obtain rfl:c=_:=navEq hc rfl
  refine ALoopU.know fun hk hs=> ?_
  have b0:=hk 0
  simp -dsimp at b0
  have b7:=hk 7
  simp -dsimp at b7
  have d0:=hs 0 _ rfl
  simp -dsimp[Blk.bnd]at d0
  clear hk hs
  refine ALoopU.enter ?_
  repeat first|refine cg ?_|simp -dsimp
  revert hF;refine abr.sp ?_ ?_<;>intro h11 q12 hF
  ·have z13:((i:Int)<(v.length:Int)):=auz
   repeat first|refine cg ?_|simp -dsimp[h11,z13]
   refine ADraw.eff [68] [(0,0),(0,0),(0,0),(0,0),(0,0),(0,0),(0,0),(0,1),(1,1)] [1,1,1,1,1,1,1,1,1] follows (by kernel_rfl) (by kernel_rfl) (by kernel_rfl) ?_
   have hF:=ob hF;obtain⟨x,e14,hF⟩:=hF
   have le14:=lt_of_get e14
   repeat first|refine cg ?_|simp -dsimp[h11,z13,↓e14]
   have hF:=ob hF;obtain⟨v15,e16,hF⟩:=hF
   refine((C.f49 B hB1 hB2 w table10 (⟨IntKind.i64.wrap ((s:Int).tdiv 4),(s:Int).tmod 4⟩:Ty) x v15 e16)).elend (by first|simp -dsimp[h11,z13,↓e14];done|simp_all) (by simp -dsimp) ?_
   repeat first|refine cg ?_|simp -dsimp[h11,z13,↓e14]
   revert hF;refine abr.sp ?_ ?_<;>intro h17 q18 hF
   ·have hF:=ob hF;obtain⟨x19,e20,hF⟩:=hF
    have le20:=lt_of_get e20
    repeat first|refine cg ?_|simp -dsimp[h11,z13,↓e14,h17,↓e20]
    revert hF;refine abr.ns ?_ ?_<;>intro h21 q22 hF
    ·repeat first|refine cg ?_|simp -dsimp[h11,z13,↓e14,h17,↓e20,h21,q22]
     revert hF;refine abr.sp ?_ ?_<;>intro h23 q24 hF
     ·have w25:IntKind.i64.wrap ((i:Int)+1)=(i:Int)+1:=wrap_in (by omega) (by omega)
      repeat first|refine cg ?_|simp -dsimp[h11,z13,↓e14,h17,↓e20,h21,q22,h23,w25]
      refine Again.go _ ?_ ((ih_f50 (table10.set s v15) (i+1) o hF) _ rfl _ hq)
      exact(Gh.to3 (by simp) (by first|simp -dsimp[h11,z13,↓e14,h17,↓e20,h21,q22,h23,w25];done|simp_all))
     ·have w26:IntKind.i64.wrap ((i:Int)+1)=(i:Int)+1:=wrap_in (by omega) (by omega)
      repeat first|refine cg ?_|simp -dsimp[h11,z13,↓e14,h17,↓e20,h21,q22,h23,q24,w26]
      refine Again.go _ ?_ ((ih_f50 table10 (i+1) o hF) _ rfl _ hq)
      exact(Gh.to3 (by simp) (by first|simp -dsimp[h11,z13,↓e14,h17,↓e20,h21,q22,h23,q24,w26];done|simp_all))
    ·have w27:IntKind.i64.wrap ((i:Int)+1)=(i:Int)+1:=wrap_in (by omega) (by omega)
     repeat first|refine cg ?_|simp -dsimp[h11,z13,↓e14,h17,↓e20,eq_true h21,eq_true q22,w27]
     refine Again.go _ ?_ ((ih_f50 (table10.set s v15) (i+1) o hF) _ rfl _ hq)
     exact(Gh.to3 (by simp) (by first|simp -dsimp[h11,z13,↓e14,h17,↓e20,eq_true h21,eq_true q22,w27];done|simp_all))
   ·have w28:IntKind.i64.wrap ((i:Int)+1)=(i:Int)+1:=wrap_in (by omega) (by omega)
    repeat first|refine cg ?_|simp -dsimp[h11,z13,↓e14,h17,q18,w28]
    refine Again.go _ ?_ ((ih_f50 table10 (i+1) o hF) _ rfl _ hq)
    exact(Gh.to3 (by simp) (by first|simp -dsimp[h11,z13,↓e14,h17,q18,w28];done|simp_all))
  ·have z13:¬((i:Int)<(v.length:Int)):=auz
   cases hF
   repeat first|refine cg ?_|simp -dsimp[h11,q12,z13]
   refine Leave.go _ (Gh.to3 (by simp) (by first|simp -dsimp[h11,q12,z13];done|simp_all)) hq
theorem CC.f51 (w:List Vl.Data)(n:Nat):(∀(table5:List Int) (s:Nat) (o:List Int),F.f51 w n table5 s=some o→∀(c:Code),navO [1,1,0,1,0,0,1,0,0,1,0,0] (bodyOf Tryz.f46)=some c→∀(Q:Exit→ASt→Prop),(Q (.exit 2) ⟨[(0,.arr (List.map Vl.Data.c w)),(3,.own 0 (List.length (α:=Int) o)),(4,.lit (.int .i64 (n:Int)))],[.elems 1 (List.map cI o)]⟩)→ALoopU Tryz.prog B 0 70 (hold c .mk) ⟨[(0,.arr (List.map Vl.Data.c w)),(3,.own 0 (List.length (α:=Int) table5)),(4,.lit (.int .i64 (n:Int))),(5,.lit (.int .i64 (s:Int)))],[.elems 1 (List.map cI table5)]⟩ (hold Q .mk)):=by
 refine F.f51.partial_correctness w n
  _
  ?_
 ·intro _f_f51 ih_f51 table5 s o hF
  intro c hc Q hq
  obtain rfl:c=_:=navEq hc rfl
  refine ALoopU.know fun hk hs=> ?_
  have b0:=hk 0
  simp -dsimp at b0
  have d0:=hs 0 _ rfl
  simp -dsimp[Blk.bnd]at d0
  clear hk hs
  refine ALoopU.enter ?_
  repeat first|refine cg ?_|simp -dsimp
  revert hF;refine abr.sp ?_ ?_<;>intro h6 q7 hF
  ·have z8:((s:Int)<(table5.length:Int)):=auz
   repeat first|refine cg ?_|simp -dsimp[h6,z8]
   have hF:=ob hF;obtain⟨v,e9,hF⟩:=hF
   refine((C.f42 B hB1 hB2 w (⟨IntKind.i64.wrap ((s:Int).tdiv 4),(s:Int).tmod 4⟩:Ty) v e9)).goW (by first|simp[h6,z8];done|simp_all) (by simp) ?_
   repeat first|refine cg ?_|simp -dsimp[h6,z8]
   have hF:=ob hF;obtain⟨o',ho29,hF⟩:=hF
   refine ALoop.goU _ ?_ (((CC.f50 B hB1 hB2 w n s v) table5 0 o' ho29) _ rfl _ ?_)
   ·exact(Gh.to3 (by simp) (by first|simp -dsimp[h6,z8];done|simp_all))
   have hF:=oc hF;obtain⟨c30,hF⟩:=hF
   have w31:IntKind.i64.wrap ((s:Int)+1)=(s:Int)+1:=wrap_in (by omega) (by omega)
   repeat first|refine cg ?_|simp -dsimp[w31]
   refine Again.go _ ?_ ((ih_f51 o' (s+1) o hF) _ rfl _ hq)
   exact(Gh.to3 (by simp) (by first|simp -dsimp[w31];done|simp_all))
  ·have z8:¬((s:Int)<(table5.length:Int)):=auz
   cases hF
   repeat first|refine cg ?_|simp -dsimp[h6,q7,z8]
   refine Leave.go _ (Gh.to3 (by simp) (by first|simp -dsimp[h6,q7,z8];done|simp_all)) hq
theorem CC.f52 (w:List Vl.Data):(∀(table:List Int) (n:Nat) (o:List Int),F.f52 w table n=some o→∀(c:Code),navO [1,1,0,1,0,0] (bodyOf Tryz.f46)=some c→∀(Q:Exit→ASt→Prop),(Q (.exit 0) ⟨[(3,.own 0 (List.length (α:=Int) o))],[.elems 1 (List.map cI o)]⟩)→ALoopU Tryz.prog B 0 70 (hold c .mk) ⟨[(0,.arr (List.map Vl.Data.c w)),(3,.own 0 (List.length (α:=Int) table)),(4,.lit (.int .i64 (n:Int)))],[.elems 1 (List.map cI table)]⟩ (hold Q .mk)):=by
 refine F.f52.partial_correctness w
  _
  ?_
 ·intro _f_f52 ih_f52 table n o hF
  intro c hc Q hq
  obtain rfl:c=_:=navEq hc rfl
  refine ALoopU.know fun hk hs=> ?_
  have b0:=hk 0
  simp -dsimp at b0
  have d0:=hs 0 _ rfl
  simp -dsimp[Blk.bnd]at d0
  clear hk hs
  refine ALoopU.enter ?_
  repeat first|refine cg ?_|simp -dsimp
  revert hF;refine abr.sp ?_ ?_<;>intro h2 q3 hF
  ·have z4:((n:Int)≤(table.length:Int)):=auz
   repeat first|refine cg ?_|simp -dsimp[h2,z4]
   have hF:=ob hF;obtain⟨o'33,ho32,hF⟩:=hF
   refine ALoop.goU _ ?_ (((CC.f51 B hB1 hB2 w n) table 0 o'33 ho32) _ rfl _ ?_)
   ·exact(Gh.to3 (by simp) (by first|simp -dsimp[h2,z4];done|simp_all))
   have hF:=oc hF;obtain⟨c34,hF⟩:=hF
   have w35:IntKind.i64.wrap ((n:Int)+1)=(n:Int)+1:=wrap_in (by omega) (by omega)
   repeat first|refine cg ?_|simp -dsimp[w35]
   refine Again.go _ ?_ ((ih_f52 o'33 (n+1) o hF) _ rfl _ hq)
   exact(Gh.to3 (by simp) (by first|simp -dsimp[w35];done|simp_all))
  ·have z4:¬((n:Int)≤(table.length:Int)):=auz
   cases hF
   repeat first|refine cg ?_|simp -dsimp[h2,q3,z4]
   refine Leave.go _ (Gh.to3 (by simp) (by first|simp -dsimp[h2,q3,z4];done|simp_all)) hq
theorem C.f53 (w:List Vl.Data)(r:List Int)(hF:F.f53 w=some r):PureCall Tryz.prog B 46 [.arr (List.map Vl.Data.c w)] (.arr (List.map cI r)):=by
 unfold F.f53 at hF
 refine PureCall.enterLe Tryz.func46 (by kernel_rfl) rfl Tryz.ntmps46 (by simp) (by simp) ?_
 have hF:=oc hF;obtain⟨c1,hF⟩:=hF
 repeat first|refine cg ?_|simp -dsimp
 have hF:=ob hF;obtain⟨o'37,ho36,hF⟩:=hF
 refine ALoop.goU _ ?_ (((CC.f52 B hB1 hB2 w) (List.replicate ((IntKind.i64.wrap ((w.length:Int)*4)).toNat) 0) 0 o'37 ho36) _ rfl _ ?_)
 ·exact(Gh.to3 (by simp) (by simp -dsimp))
 cases hF
 repeat first|refine cg ?_|simp -dsimp
 all_goals(try first|omega|rfl)
theorem C.f54 (r':T_spec_l17Rd)(list:List Int)(r:Int×T_spec_l17Rd)(hF:F.f54 r' list=some r):MutCall Tryz.prog B 47 [.arr (List.map cU r'.f0),.lit (.int .i64 r'.f1)] [.ptr 0 0,.arr (List.map cI list)] (.lit (.int .i64 r.1)) [.arr (List.map cU r.2.f0),.lit (.int .i64 r.2.f1)]:=by
 unfold F.f54 at hF
 refine MutCall.enter Tryz.func47 (by kernel_rfl) rfl Tryz.ntmps47 (by simp) (by simp) (by simp) (by simp) ?_
 repeat first|refine cg ?_|simp -dsimp
 have hF:=ob hF;obtain⟨v,e1,hF⟩:=hF
 refine((C.f1 B hB1 hB2 r' (list.length:Int) v e1)).go 0 rfl (by simp) (by simp) (by simp) ?_
 have hF:=ob hF;obtain⟨x,e2a,hF⟩:=hF
 have e2a:=at_some e2a;obtain⟨ne2,e2⟩:=e2a
 have le2:=lt_of_get e2
 cases hF
 repeat first|refine cg ?_|simp -dsimp[↓e2]
 all_goals(try first|omega|rfl)
theorem CC.f55 (r':T_spec_l17Rd)(w:List Vl.Data)(table:List Int)(t:Ty)(depth:Int)(v4:List Int):(∀(fine:List Int) (i:Nat) (o:List Int),F.f55 r' w table t depth v4 fine i=some o→∀(c:Code),navO [1,1,1,1,0,1,0,0] (bodyOf Tryz.f49)=some c→∀(Q:Exit→ASt→Prop),(Q (.exit 0) ⟨[(0,.ptr 0 0),(1,.arr (List.map Vl.Data.c w)),(2,.arr (List.map cI table)),(4,.lit (.int .i64 depth)),(8,.ptr 1 0),(10,.ptr 2 0),(12,.own 3 (List.length (α:=Int) o))],[.cells [.arr (List.map cU r'.f0),.lit (.int .i64 r'.f1)],.cells [.lit (.int .i64 t.data),.lit (.int .i64 t.index)],.cells [.lit (.int .i64 0),.lit (.int .i64 0),.lit (.slice none 0 0)],.elems 1 (List.map cI o)]⟩)→ALoopU Tryz.prog B 1 98 (hold c .mk) ⟨[(0,.ptr 0 0),(1,.arr (List.map Vl.Data.c w)),(2,.arr (List.map cI table)),(4,.lit (.int .i64 depth)),(8,.ptr 1 0),(10,.ptr 2 0),(11,.arr (List.map cI v4)),(12,.own 3 (List.length (α:=Int) fine)),(13,.lit (.int .i64 (i:Int)))],[.cells [.arr (List.map cU r'.f0),.lit (.int .i64 r'.f1)],.cells [.lit (.int .i64 t.data),.lit (.int .i64 t.index)],.cells [.lit (.int .i64 0),.lit (.int .i64 0),.lit (.slice none 0 0)],.elems 1 (List.map cI fine)]⟩ (hold Q .mk)):=by
 refine F.f55.partial_correctness r' w table t depth v4
  _
  ?_
 ·intro _f_f55 ih_f55 fine i o hF
  intro c hc Q hq
  obtain rfl:c=_:=navEq hc rfl
  refine ALoopU.know fun hk hs=> ?_
  have b1:=hk 1
  simp -dsimp at b1
  have b2:=hk 2
  simp -dsimp at b2
  have b11:=hk 11
  simp -dsimp at b11
  have d0:=hs 0 _ rfl
  simp -dsimp[Blk.bnd]at d0
  have d3:=hs 3 _ rfl
  simp -dsimp[Blk.bnd]at d3
  clear hk hs
  refine ALoopU.enter ?_
  repeat first|refine cg ?_|simp -dsimp
  revert hF;refine abr.sp ?_ ?_<;>intro h6 q7 hF
  ·have z8:((i:Int)<(v4.length:Int)):=auz
   repeat first|refine cg ?_|simp -dsimp[h6,z8]
   refine ADraw.simple follows (by kernel_rfl) (by kernel_rfl) ?_
   have hF:=ob hF;obtain⟨x,e9,hF⟩:=hF
   have le9:=lt_of_get e9
   repeat first|refine cg ?_|simp -dsimp[h6,z8,↓e9]
   have hF:=ob hF;obtain⟨v10,e11,hF⟩:=hF
   refine((C.f49 B hB1 hB2 w table t x v10 e11)).pgoW (by first|simp[h6,z8,↓e9];done|simp_all) (by simp) ?_
   repeat first|refine cg ?_|simp -dsimp[h6,z8,↓e9]
   revert hF;refine abr.sp ?_ ?_<;>intro h12 q13 hF
   ·repeat first|refine cg ?_|simp -dsimp[h6,z8,↓e9,h12]
    revert hF;refine abr.ns ?_ ?_<;>intro h14 q15 hF
    ·repeat first|refine cg ?_|simp -dsimp[h6,z8,↓e9,h12,h14,q15]
     have hF:=ob hF;obtain⟨v16,e17,hF⟩:=hF
     refine((C.f47 B hB1 hB2 table t v16 e17)).goW (by first|simp[h6,z8,↓e9,h12,h14,q15];done|simp_all) (by simp) ?_
     repeat first|refine cg ?_|simp -dsimp[h6,z8,↓e9,h12,h14,q15]
     revert hF;refine abr.sp ?_ ?_<;>intro h18 q19 hF
     ·have hF:=oc hF;obtain⟨c20,hF⟩:=hF
      have w21:IntKind.i64.wrap ((i:Int)+1)=(i:Int)+1:=wrap_in (by omega) (by omega)
      repeat first|refine cg ?_|simp -dsimp[h6,z8,↓e9,h12,h14,q15,h18,w21]
      refine Again.go _ ?_ ((ih_f55 (fine++[x]) (i+1) o hF) _ rfl _ hq)
      exact(Gh.to3 (by simp) (by first|simp -dsimp[h6,z8,↓e9,h12,h14,q15,h18,w21];done|simp_all))
     ·have w22:IntKind.i64.wrap ((i:Int)+1)=(i:Int)+1:=wrap_in (by omega) (by omega)
      repeat first|refine cg ?_|simp -dsimp[h6,z8,↓e9,h12,h14,q15,h18,q19,w22]
      refine Again.go _ ?_ ((ih_f55 fine (i+1) o hF) _ rfl _ hq)
      exact(Gh.to3 (by simp) (by first|simp -dsimp[h6,z8,↓e9,h12,h14,q15,h18,q19,w22];done|simp_all))
    ·have hF:=oc hF;obtain⟨c23,hF⟩:=hF
     have w24:IntKind.i64.wrap ((i:Int)+1)=(i:Int)+1:=wrap_in (by omega) (by omega)
     repeat first|refine cg ?_|simp -dsimp[h6,z8,↓e9,h12,h14,q15,w24]
     refine Again.go _ ?_ ((ih_f55 (fine++[x]) (i+1) o hF) _ rfl _ hq)
     exact(Gh.to3 (by simp) (by first|simp -dsimp[h6,z8,↓e9,h12,h14,q15,w24];done|simp_all))
   ·have w25:IntKind.i64.wrap ((i:Int)+1)=(i:Int)+1:=wrap_in (by omega) (by omega)
    repeat first|refine cg ?_|simp -dsimp[h6,z8,↓e9,h12,q13,w25]
    refine Again.go _ ?_ ((ih_f55 fine (i+1) o hF) _ rfl _ hq)
    exact(Gh.to3 (by simp) (by first|simp -dsimp[h6,z8,↓e9,h12,q13,w25];done|simp_all))
  ·have z8:¬((i:Int)<(v4.length:Int)):=auz
   cases hF
   repeat first|refine cg ?_|simp -dsimp[h6,q7,z8]
   refine Leave.go _ (Gh.to3 (by simp) (by first|simp -dsimp[h6,q7,z8];done|simp_all)) hq
theorem CC.f56 (w:List Vl.Data)(table:List Int):(∀(r':T_spec_l17Rd) (t:Ty) (depth:Int) (r:Vl.Value×T_spec_l17Rd),F.f56 r' w table t depth=some r→MutCall Tryz.prog B 49 [.arr (List.map cU r'.f0),.lit (.int .i64 r'.f1)] [.ptr 0 0,.arr (List.map Vl.Data.c w),.arr (List.map cI table),.agg [.lit (.int .i64 t.data),.lit (.int .i64 t.index)],.lit (.int .i64 depth)] (.agg [.lit (.int .i64 r.1.ctor),.lit (.int .i64 r.1.n),.arr (List.map Vl.Value.c r.1.kids)]) [.arr (List.map cU r.2.f0),.lit (.int .i64 r.2.f1)])∧
  (∀(depth:Int) (x29:Int) (v31:List Ty) (z:List Int) (z33:Int) (out:List Vl.Value) (i34:Nat) (o:(List Int)×Int×(List Vl.Value)),F.f57 w table depth x29 v31 z z33 out i34=some o→∀(c:Code),navO [1,1,1,1,1,1,1,0,1,0,0] (bodyOf Tryz.f49)=some c→∀(Q:Exit→ASt→Prop),(Q (.exit 2) ⟨[(10,.ptr 2 0),(15,.ptr 4 0)],[.cells [.arr (List.map cU o.1),.lit (.int .i64 o.2.1)],.dead,.cells [.lit (.int .i64 0),.lit (.int .i64 0),.lit (.slice none 0 0)],.dead,.cells [.lit (.int .i64 x29),.lit (.int .i64 0),.own 5 (List.length (α:=Vl.Value) o.2.2)],.elems 3 (List.map Vl.Value.c o.2.2)]⟩)→ALoopU Tryz.prog B 1 98 (hold c .mk) ⟨[(0,.ptr 0 0),(1,.arr (List.map Vl.Data.c w)),(2,.arr (List.map cI table)),(4,.lit (.int .i64 depth)),(10,.ptr 2 0),(15,.ptr 4 0),(16,.arr (List.map Ty.c v31)),(17,.lit (.int .i64 (i34:Int)))],[.cells [.arr (List.map cU z),.lit (.int .i64 z33)],.dead,.cells [.lit (.int .i64 0),.lit (.int .i64 0),.lit (.slice none 0 0)],.dead,.cells [.lit (.int .i64 x29),.lit (.int .i64 0),.own 5 (List.length (α:=Vl.Value) out)],.elems 3 (List.map Vl.Value.c out)]⟩ (hold Q .mk)):=by
 refine F.f56.mutual_partial_correctness w table
  _ _
  ?_ ?_
 ·intro _f_f57 ih_f57 r' t depth r hF
  refine MutCall.enter Tryz.func49 (by kernel_rfl) rfl Tryz.ntmps49 (by simp) (by simp) (by simp) (by simp) ?_
  repeat first|refine cg ?_|simp -dsimp
  revert hF;refine abr.sp ?_ ?_<;>intro h1 q2 hF
  ·repeat first|refine cg ?_|simp -dsimp[h1]
   have hF:=ob hF;obtain⟨v,e3,hF⟩:=hF
   refine((C.f1 B hB1 hB2 r' 10 v e3)).go 0 rfl (by first|simp[h1];done|simp_all) (by simp) (by first|simp[h1];done|simp_all) ?_
   cases hF
   repeat first|refine cg ?_|simp -dsimp[h1]
   all_goals(try first|omega|rfl)
  ·repeat first|refine cg ?_|simp -dsimp[h1,q2]
   have hF:=ob hF;obtain⟨v4,e5,hF⟩:=hF
   refine((C.f42 B hB1 hB2 w t v4 e5)).goW (by first|simp[h1,q2];done|simp_all) (by simp) ?_
   repeat first|refine cg ?_|simp -dsimp[h1,q2]
   have hF:=ob hF;obtain⟨o',ho26,hF⟩:=hF
   refine ALoop.goU _ ?_ (((CC.f55 B hB1 hB2 r' w table t depth v4) [] 0 o' ho26) _ rfl _ ?_)
   ·exact(Gh.to3 (by simp) (by first|simp -dsimp[h1,q2];done|simp_all))
   repeat first|refine cg ?_|simp -dsimp
   have hF:=ob hF;obtain⟨v27,e28,hF⟩:=hF
   refine((C.f1 B hB1 hB2 r' (o'.length:Int) v27 e28)).go 0 rfl (by simp) (by simp) (by simp) ?_
   have hF:=ob hF;obtain⟨x29,e30a,hF⟩:=hF
   have e30a:=at_some e30a;obtain⟨ne30,e30⟩:=e30a
   have le30:=lt_of_get e30
   repeat first|refine cg ?_|simp -dsimp[↓e30]
   have hF:=ob hF;obtain⟨v31,e32,hF⟩:=hF
   refine((C.f45 B hB1 hB2 w t x29 v31 e32)).goW (by first|simp[↓e30];done|simp_all) (by simp) ?_
   repeat first|refine cg ?_|simp -dsimp[↓e30]
   have hF:=ob hF;obtain⟨o'45,ho44,hF⟩:=hF
   refine ALoop.goU ⟨[(0,.ptr 0 0),(1,.arr (List.map Vl.Data.c w)),(2,.arr (List.map cI table)),(4,.lit (.int .i64 depth)),(10,.ptr 2 0),(15,.ptr 4 0),(16,.arr (List.map Ty.c v31)),(17,.lit (.int .i64 0))],[.cells [.arr (List.map cU v27.2.f0),.lit (.int .i64 v27.2.f1)],.dead,.cells [.lit (.int .i64 0),.lit (.int .i64 0),.lit (.slice none 0 0)],.dead,.cells [.lit (.int .i64 x29),.lit (.int .i64 0),.own 5 (List.length (α:=Vl.Value) [])],.elems 3 (List.map Vl.Value.c [])]⟩ (by refine Gh.trans (Gh.nilCell 4 2 3 (by simp -dsimp;rfl) (by simp -dsimp)) ?_;exact(Gh.to3 (by simp) (by first|simp -dsimp[↓e30];done|simp_all))) ?_
   refine(ih_f57 depth x29 v31 v27.2.f0 v27.2.f1 [] 0 o'45 ho44) _ rfl _ ?_
   cases hF
   repeat first|refine cg ?_|simp -dsimp
   all_goals(try first|omega|rfl)
 ·intro _f_f56 _f_f57 ih_f56 ih_f57 depth x29 v31 z z33 out i34 o hF
  intro c hc Q hq
  obtain rfl:c=_:=navEq hc rfl
  refine ALoopU.know fun hk hs=> ?_
  have b1:=hk 1
  simp -dsimp at b1
  have b2:=hk 2
  simp -dsimp at b2
  have b16:=hk 16
  simp -dsimp at b16
  have d0:=hs 0 _ rfl
  simp -dsimp[Blk.bnd]at d0
  have d5:=hs 5 _ rfl
  simp -dsimp[Blk.bnd]at d5
  clear hk hs
  refine ALoopU.enter ?_
  repeat first|refine cg ?_|simp -dsimp
  revert hF;refine abr.sp ?_ ?_<;>intro h35 q36 hF
  ·have z37:((i34:Int)<(v31.length:Int)):=auz
   repeat first|refine cg ?_|simp -dsimp[h35,z37]
   refine ADraw.eff [49] [(0,2),(0,2),(0,0),(0,0),(0,0),(0,0),(0,0),(0,0),(0,0),(0,0),(0,0),(0,4),(0,4),(0,4),(3,3),(0,4)] [0,2,1,1,1,1,1,1,1,1,1,1,1,1,1,1] follows (by kernel_rfl) (by kernel_rfl) (by kernel_rfl) ?_
   have hF:=ob hF;obtain⟨x38,e39,hF⟩:=hF
   have le39:=lt_of_get e39
   repeat first|refine cg ?_|simp -dsimp[h35,z37,↓e39]
   have hF:=ob hF;obtain⟨v40,e41,hF⟩:=hF
   refine((ih_f56 (⟨z,z33⟩:T_spec_l17Rd) x38 (IntKind.i64.wrap (depth-1)) v40 e41)).ego 0 rfl (by first|simp[h35,z37,↓e39];done|simp_all) (by simp) (by first|simp[h35,z37,↓e39];done|simp_all) ?_
   have hF:=oc hF;obtain⟨c42,hF⟩:=hF
   have w43:IntKind.i64.wrap ((i34:Int)+1)=(i34:Int)+1:=wrap_in (by omega) (by omega)
   repeat first|refine cg ?_|simp -dsimp[h35,z37,↓e39,w43]
   refine Again.go _ ?_ ((ih_f57 depth x29 v31 v40.2.f0 v40.2.f1 (out++[v40.1]) (i34+1) o hF) _ rfl _ hq)
   exact(Gh.to3 (by simp) (by first|simp -dsimp[h35,z37,↓e39,w43];done|simp_all))
  ·have z37:¬((i34:Int)<(v31.length:Int)):=auz
   cases hF
   repeat first|refine cg ?_|simp -dsimp[h35,q36,z37]
   refine Leave.go _ (Gh.to3 (by simp) (by first|simp -dsimp[h35,q36,z37];done|simp_all)) hq
theorem C.f58 (r':T_spec_l17Rd)(r:(List Vl.Data)×Ty×Vl.Value×T_spec_l17Rd)(hF:F.f58 r'=some r):MutCall Tryz.prog B 25 [.arr (List.map cU r'.f0),.lit (.int .i64 r'.f1)] [.ptr 0 0] (.tup [.arr (List.map Vl.Data.c r.1),.agg [.lit (.int .i64 r.2.1.data),.lit (.int .i64 r.2.1.index)],.agg [.lit (.int .i64 r.2.2.1.ctor),.lit (.int .i64 r.2.2.1.n),.arr (List.map Vl.Value.c r.2.2.1.kids)]]) [.arr (List.map cU r.2.2.2.f0),.lit (.int .i64 r.2.2.2.f1)]:=by
 unfold F.f58 at hF
 refine MutCall.enter Tryz.func25 (by kernel_rfl) rfl Tryz.ntmps25 (by simp) (by simp) (by simp) (by simp) ?_
 repeat first|refine cg ?_|simp -dsimp
 have hF:=ob hF;obtain⟨v,e1,hF⟩:=hF
 refine((C.f39 B hB1 hB2 r' v e1)).go 0 rfl (by simp) (by simp) (by simp) ?_
 repeat first|refine cg ?_|simp -dsimp
 have hF:=ob hF;obtain⟨v2,e3,hF⟩:=hF
 refine((C.f53 B hB1 hB2 v.1 v2 e3)).goW (by simp) (by simp) ?_
 repeat first|refine cg ?_|simp -dsimp
 have hF:=ob hF;obtain⟨v4,e5,hF⟩:=hF
 refine((C.f1 B hB1 hB2 v.2 (v.1.length:Int) v4 e5)).go 0 rfl (by simp) (by simp) (by simp) ?_
 repeat first|refine cg ?_|simp -dsimp
 have hF:=ob hF;obtain⟨v6,e7,hF⟩:=hF
 refine ACall.frz ?_ ((C.f54 B hB1 hB2 v4.2 [0,0,1,2] v6 e7)).ent
 repeat first|refine cg ?_|simp -dsimp
 refine((C.f54 B hB1 hB2 v4.2 [0,0,1,2] v6 e7)).go 0 rfl (by simp) (by simp) (by simp) ?_
 repeat first|refine cg ?_|simp -dsimp
 have hF:=ob hF;obtain⟨v8,e9,hF⟩:=hF
 refine((C.f47 B hB1 hB2 v2 (⟨v4.1,v6.1⟩:Ty) v8 e9)).goW (by simp) (by simp) ?_
 repeat first|refine cg ?_|simp -dsimp
 revert hF;refine abr.sp ?_ ?_<;>intro h10 q11 hF
 ·repeat first|refine cg ?_|simp -dsimp[eq_true h10]
  refine ADraw.eff [47,49] [(0,3),(0,3),(0,2),(0,2),(0,2),(0,2),(0,1),(0,5),(0,5),(0,5),(3,3),(0,5),(0,5)] [1,2,1,1,1,2,1,1,1,1,1,1,1] follows (by kernel_rfl) (by kernel_rfl) (by kernel_rfl) ?_
  repeat first|refine cg ?_|simp -dsimp[eq_true h10]
  have hF:=ob hF;obtain⟨v12,e13,hF⟩:=hF
  refine ECallA.frz ?_ ((C.f54 B hB1 hB2 v6.2 [3,2,4,1] v12 e13)).ent
  repeat first|refine cg ?_|simp -dsimp[eq_true h10]
  refine((C.f54 B hB1 hB2 v6.2 [3,2,4,1] v12 e13)).ego 0 rfl (by first|simp[eq_true h10];done|simp_all) (by simp) (by first|simp[eq_true h10];done|simp_all) ?_
  repeat first|refine cg ?_|simp -dsimp[eq_true h10]
  have hF:=ob hF;obtain⟨v14,e15,hF⟩:=hF
  refine(((CC.f56 B hB1 hB2 v.1 v2).1 v12.2 (⟨(-1),0⟩:Ty) v12.1 v14 e15)).ego 0 rfl (by first|simp[eq_true h10];done|simp_all) (by simp) (by first|simp[eq_true h10];done|simp_all) ?_
  cases hF
  repeat first|refine cg ?_|simp -dsimp[eq_true h10]
  all_goals(try first|omega|rfl)
 ·repeat first|refine cg ?_|simp -dsimp[h10,q11]
  refine ADraw.eff [47,49] [(0,3),(0,3),(0,2),(0,2),(0,2),(0,2),(0,1),(0,5),(0,5),(0,5),(3,3),(0,5),(0,5)] [1,2,1,1,1,2,1,1,1,1,1,1,1] follows (by kernel_rfl) (by kernel_rfl) (by kernel_rfl) ?_
  repeat first|refine cg ?_|simp -dsimp[h10,q11]
  have hF:=ob hF;obtain⟨v16,e17,hF⟩:=hF
  refine ECallA.frz ?_ ((C.f54 B hB1 hB2 v6.2 [3,2,4,1] v16 e17)).ent
  repeat first|refine cg ?_|simp -dsimp[h10,q11]
  refine((C.f54 B hB1 hB2 v6.2 [3,2,4,1] v16 e17)).ego 0 rfl (by first|simp[h10,q11];done|simp_all) (by simp) (by first|simp[h10,q11];done|simp_all) ?_
  repeat first|refine cg ?_|simp -dsimp[h10,q11]
  have hF:=ob hF;obtain⟨v18,e19,hF⟩:=hF
  refine(((CC.f56 B hB1 hB2 v.1 v2).1 v16.2 (⟨v4.1,v6.1⟩:Ty) v16.1 v18 e19)).ego 0 rfl (by first|simp[h10,q11];done|simp_all) (by simp) (by first|simp[h10,q11];done|simp_all) ?_
  cases hF
  repeat first|refine cg ?_|simp -dsimp[h10,q11]
  all_goals(try first|omega|rfl)
theorem C.f59 (r':T_spec_l17Rd)(w:List Vl.Data)(r:Ty×T_spec_l17Rd)(hF:F.f59 r' w=some r):MutCall Tryz.prog B 27 [.arr (List.map cU r'.f0),.lit (.int .i64 r'.f1)] [.ptr 0 0,.arr (List.map Vl.Data.c w)] (.agg [.lit (.int .i64 r.1.data),.lit (.int .i64 r.1.index)]) [.arr (List.map cU r.2.f0),.lit (.int .i64 r.2.f1)]:=by
 unfold F.f59 at hF
 refine MutCall.enter Tryz.func27 (by kernel_rfl) rfl Tryz.ntmps27 (by simp) (by simp) (by simp) (by simp) ?_
 repeat first|refine cg ?_|simp -dsimp
 have hF:=ob hF;obtain⟨v,e1,hF⟩:=hF
 refine((C.f1 B hB1 hB2 r' 16 v e1)).go 0 rfl (by simp) (by simp) (by simp) ?_
 repeat first|refine cg ?_|simp -dsimp
 revert hF;refine abr.sp ?_ ?_<;>intro h2 q3 hF
 ·repeat first|refine cg ?_|simp -dsimp[h2]
  have hF:=ob hF;obtain⟨v4,e5,hF⟩:=hF
  refine ACall.frz ?_ ((C.f54 B hB1 hB2 v.2 [(-1),(-2),9,0] v4 e5)).ent
  repeat first|refine cg ?_|simp -dsimp[h2]
  refine((C.f54 B hB1 hB2 v.2 [(-1),(-2),9,0] v4 e5)).go 0 rfl (by first|simp[h2];done|simp_all) (by simp) (by first|simp[h2];done|simp_all) ?_
  repeat first|refine cg ?_|simp -dsimp[h2]
  have hF:=ob hF;obtain⟨v6,e7,hF⟩:=hF
  refine ACall.frz ?_ ((C.f54 B hB1 hB2 v4.2 [0,1,(-1),4] v6 e7)).ent
  repeat first|refine cg ?_|simp -dsimp[h2]
  refine((C.f54 B hB1 hB2 v4.2 [0,1,(-1),4] v6 e7)).go 0 rfl (by first|simp[h2];done|simp_all) (by simp) (by first|simp[h2];done|simp_all) ?_
  cases hF
  repeat first|refine cg ?_|simp -dsimp[h2]
  all_goals(try first|omega|rfl)
 ·repeat first|refine cg ?_|simp -dsimp[h2,q3]
  have hF:=ob hF;obtain⟨v8,e9,hF⟩:=hF
  refine((C.f1 B hB1 hB2 v.2 8 v8 e9)).go 0 rfl (by first|simp[h2,q3];done|simp_all) (by simp) (by first|simp[h2,q3];done|simp_all) ?_
  repeat first|refine cg ?_|simp -dsimp[h2,q3]
  revert hF;refine abr.sp ?_ ?_<;>intro h10 q11 hF
  ·cases hF
   repeat first|refine cg ?_|simp -dsimp[h2,q3,h10]
   all_goals(try first|omega|rfl)
  ·repeat first|refine cg ?_|simp -dsimp[h2,q3,h10,q11]
   have hF:=ob hF;obtain⟨v12,e13,hF⟩:=hF
   refine((C.f1 B hB1 hB2 v8.2 (w.length:Int) v12 e13)).go 0 rfl (by first|simp[h2,q3,h10,q11];done|simp_all) (by simp) (by first|simp[h2,q3,h10,q11];done|simp_all) ?_
   repeat first|refine cg ?_|simp -dsimp[h2,q3,h10,q11]
   have hF:=ob hF;obtain⟨v14,e15,hF⟩:=hF
   refine ACall.frz ?_ ((C.f54 B hB1 hB2 v12.2 [0,0,1,2,0,3] v14 e15)).ent
   repeat first|refine cg ?_|simp -dsimp[h2,q3,h10,q11]
   refine((C.f54 B hB1 hB2 v12.2 [0,0,1,2,0,3] v14 e15)).go 0 rfl (by first|simp[h2,q3,h10,q11];done|simp_all) (by simp) (by first|simp[h2,q3,h10,q11];done|simp_all) ?_
   cases hF
   repeat first|refine cg ?_|simp -dsimp[h2,q3,h10,q11]
   all_goals(try first|omega|rfl)
theorem CC.spec_l1Copy__f_l2 (w:List Vl.Data)(out:List Vl.Data)(d:Nat)(x:Vl.Data):(∀(out7:List Ctor) (k:Nat) (o:List Ctor),F.f60 w out d x out7 k=some o→∀(R:List (List AV)),∀(U:List Value),∀(R8:List (List AV)),∀(U9:List Value),RW 2 (List.length (α:=Vl.Data) out) R U→RW 3 (List.length (α:=Ctor) out7) R8 U9→∀(c:Code),navO [1,1,0,1,0,0,1,0,0,1,0,1,0,0] (bodyOf Tryz.f50)=some c→∀(Q:Exit→ASt→Prop),(∀(Rq11:List (List AV)) (Uq12:List Value),RW 3 (List.length (α:=Ctor) o) Rq11 Uq12→Q (.exit 2) ⟨[(0,.arr (List.map Vl.Data.c w)),(3,.own 2 (List.length (α:=Vl.Data) out)),(4,.lit (.int .i64 (d:Int))),(5,.ptr 4 0)],[.pack [] [],.elems 0 [],.elems 2 R,.pack (List.flatten (List.map Vl.Data.c out)) U,.cells [.lit (.string x.name),.own 5 (List.length (α:=Ctor) o)],.elems 3 Rq11,.pack (List.flatten (List.map Ctor.c o)) Uq12]⟩)→ALoopU Tryz.prog B 0 55 (hold c .mk) ⟨[(0,.arr (List.map Vl.Data.c w)),(3,.own 2 (List.length (α:=Vl.Data) out)),(4,.lit (.int .i64 (d:Int))),(5,.ptr 4 0),(6,.lit (.int .i64 (k:Int)))],[.pack [] [],.elems 0 [],.elems 2 R,.pack (List.flatten (List.map Vl.Data.c out)) U,.cells [.lit (.string x.name),.own 5 (List.length (α:=Ctor) out7)],.elems 3 R8,.pack (List.flatten (List.map Ctor.c out7)) U9]⟩ (hold Q .mk)):=by
 refine F.f60.partial_correctness w out d x
  _
  ?_
 ·intro _f_spec_l1Copy__f_l2 ih_spec_l1Copy__f_l2 out7 k o hF
  intro R U R8 U9 H1 H10 c hc Q hq
  obtain rfl:c=_:=navEq hc rfl
  refine ALoopU.know fun hk hs=> ?_
  have b0:=hk 0
  simp -dsimp at b0
  have d2:=hs 2 _ rfl
  simp -dsimp[Blk.bnd]at d2
  have d5:=hs 5 _ rfl
  simp -dsimp[Blk.bnd]at d5
  clear hk hs
  refine ALoopU.enter ?_
  have hF:=ob hF;obtain⟨x14,e15,hF⟩:=hF
  have le15:=lt_of_get e15
  repeat first|refine cg ?_|simp -dsimp[RW.len H1,RW.closed H1,RW.len H10,RW.closed H10,↓e15]
  revert hF;refine abr.sp ?_ ?_<;>intro h16 q17 hF
  ·have z18:((k:Int)<(x14.ctors.length:Int)):=auz
   have hF:=ob hF;obtain⟨x19,e20,hF⟩:=hF
   have le20:=lt_of_get e20
   have hF:=oc hF;obtain⟨c21,hF⟩:=hF
   have hF:=oc hF;obtain⟨c22,hF⟩:=hF
   have hF:=oc hF;obtain⟨c23,hF⟩:=hF
   have w24:IntKind.i64.wrap ((k:Int)+1)=(k:Int)+1:=wrap_in (by omega) (by omega)
   repeat first|refine cg ?_|simp -dsimp[RW.len H1,RW.closed H1,RW.len H10,RW.closed H10,↓e15,h16,z18,↓e20,w24]
   refine Again.sealE 5 1 8 (R:=R8) (by exact rfl) rfl (by exact rfl) (Ty.lits_c _) (by simp) (by simp) (by decide) (fun u25 o_u25=> ?_)
   refine Again.go ⟨[(0,.arr (List.map Vl.Data.c w)),(3,.own 2 (List.length (α:=Vl.Data) out)),(4,.lit (.int .i64 (d:Int))),(5,.ptr 4 0),(6,.lit (.int .i64 ((k+1):Int)))],[.pack [] [],.elems 0 [],.elems 2 R,.pack (List.flatten (List.map Vl.Data.c out)) U,.cells [.lit (.string x.name),.own 5 (List.length (α:=Ctor) (out7++[x19]))],.elems 3 (R8++[[.lit (.string x19.name),.lit u25,.lit (.int .i64 x19.index)]]),.pack (List.flatten (List.map Ctor.c (out7++[x19]))) (U9++[.string x19.name,u25,.int .i64 x19.index])]⟩ (by refine Gh.trans (Gh.absorb 6 [10] (by exact rfl) (.lit (.string x19.name) (.pk 10 (by exact rfl) (.lit (.int .i64 x19.index) .nil))) (by decide)) ?_;exact(Gh.to3 (by simp) (by first|simp -dsimp[RW.len H1,RW.closed H1,RW.len H10,RW.closed H10,↓e15,h16,z18,↓e20,w24];done|simp_all))) ?_
   exact(ih_spec_l1Copy__f_l2 (out7++[x19]) (k+1) o hF) R U (R8++[[.lit (.string x19.name),.lit u25,.lit (.int .i64 x19.index)]]) (U9++[.string x19.name,u25,.int .i64 x19.index]) H1 ((RW.snoc H10 [.string x19.name,u25,.int .i64 x19.index] rfl).cong (by simp) (by simp) rfl) _ rfl _ hq
  ·have z18:¬((k:Int)<(x14.ctors.length:Int)):=auz
   cases hF
   repeat first|refine cg ?_|simp -dsimp[RW.len H1,RW.closed H1,RW.len H10,RW.closed H10,↓e15,h16,q17,z18]
   refine Leave.go ⟨[(0,.arr (List.map Vl.Data.c w)),(3,.own 2 (List.length (α:=Vl.Data) out)),(4,.lit (.int .i64 (d:Int))),(5,.ptr 4 0)],[.pack [] [],.elems 0 [],.elems 2 R,.pack (List.flatten (List.map Vl.Data.c out)) U,.cells [.lit (.string x.name),.own 5 (List.length (α:=Ctor) out7)],.elems 3 R8,.pack (List.flatten (List.map Ctor.c out7)) U9]⟩ (Gh.to3 (by simp) (by first|simp -dsimp[RW.len H1,RW.closed H1,RW.len H10,RW.closed H10,↓e15,h16,q17,z18];done|simp_all)) ?_
   exact hq R8 U9 H10
theorem CC.spec_l1Copy__f_l1 (w:List Vl.Data):(∀(out:List Vl.Data) (d:Nat) (o:List Vl.Data),F.f61 w out d=some o→∀(R:List (List AV)),∀(U:List Value),RW 2 (List.length (α:=Vl.Data) out) R U→∀(c:Code),navO [1,1,0,1,0,0] (bodyOf Tryz.f50)=some c→∀(Q:Exit→ASt→Prop),(∀(Rq:List (List AV)) (Uq:List Value),RW 2 (List.length (α:=Vl.Data) o) Rq Uq→Q (.exit 0) ⟨[(3,.own 2 (List.length (α:=Vl.Data) o))],[.pack [] [],.elems 0 [],.elems 2 Rq,.pack (List.flatten (List.map Vl.Data.c o)) Uq]⟩)→ALoopU Tryz.prog B 0 55 (hold c .mk) ⟨[(0,.arr (List.map Vl.Data.c w)),(3,.own 2 (List.length (α:=Vl.Data) out)),(4,.lit (.int .i64 (d:Int)))],[.pack [] [],.elems 0 [],.elems 2 R,.pack (List.flatten (List.map Vl.Data.c out)) U]⟩ (hold Q .mk)):=by
 refine F.f61.partial_correctness w
  _
  ?_
 ·intro _f_spec_l1Copy__f_l1 ih_spec_l1Copy__f_l1 out d o hF
  intro R U H1 c hc Q hq
  obtain rfl:c=_:=navEq hc rfl
  refine ALoopU.know fun hk hs=> ?_
  have b0:=hk 0
  simp -dsimp at b0
  have d2:=hs 2 _ rfl
  simp -dsimp[Blk.bnd]at d2
  clear hk hs
  refine ALoopU.enter ?_
  repeat first|refine cg ?_|simp -dsimp[RW.len H1,RW.closed H1]
  revert hF;refine abr.sp ?_ ?_<;>intro h3 q4 hF
  ·have z5:((d:Int)<(w.length:Int)):=auz
   have hF:=ob hF;obtain⟨x,e6,hF⟩:=hF
   have le6:=lt_of_get e6
   repeat first|refine cg ?_|simp -dsimp[RW.len H1,RW.closed H1,h3,z5,↓e6]
   have hF:=ob hF;obtain⟨o',ho26,hF⟩:=hF
   refine ALoop.goU ⟨[(0,.arr (List.map Vl.Data.c w)),(3,.own 2 (List.length (α:=Vl.Data) out)),(4,.lit (.int .i64 (d:Int))),(5,.ptr 4 0),(6,.lit (.int .i64 0))],[.pack [] [],.elems 0 [],.elems 2 R,.pack (List.flatten (List.map Vl.Data.c out)) U,.cells [.lit (.string x.name),.own 5 (List.length (α:=Ctor) [])],.elems 3 [],.pack (List.flatten (List.map Ctor.c [])) []]⟩ (by refine Gh.trans (Gh.nilCell 4 1 3 (by simp -dsimp;rfl) (by simp -dsimp)) ?_;refine Gh.trans (Gh.packZ .nil) ?_;exact(Gh.to3 (by simp) (by first|simp -dsimp[RW.len H1,RW.closed H1,h3,z5,↓e6];done|simp_all))) ?_
   refine((CC.spec_l1Copy__f_l2 B hB1 hB2 w out d x) [] 0 o' ho26) R U [] [] H1 RW.nil _ rfl _ ?_
   intro Rq11 Uq12 Hq13
   have hF:=oc hF;obtain⟨c27,hF⟩:=hF
   have hF:=oc hF;obtain⟨c28,hF⟩:=hF
   have w29:IntKind.i64.wrap ((d:Int)+1)=(d:Int)+1:=wrap_in (by omega) (by omega)
   repeat first|refine cg ?_|simp -dsimp[RW.len H1,RW.closed H1,RW.len Hq13,RW.closed Hq13,w29]
   refine Again.seal 2 1 5 [6] (R:=R) (es:=List.map Ctor.c o') (by exact rfl) rfl (by exact rfl) (.blk 6 (by exact rfl) .nil) (by simp) (by simp[Hq13.2.2]) (by simp[Hq13.1]) (by simp) (by simp) (by decide) (by decide) (fun u30 o_u30=> ?_)
   refine Again.go ⟨[(0,.arr (List.map Vl.Data.c w)),(3,.own 2 (List.length (α:=Vl.Data) (out++[(⟨x.name,o'⟩:Vl.Data)]))),(4,.lit (.int .i64 ((d+1):Int)))],[.pack [] [],.elems 0 [],.elems 2 (R++[[.lit (.string x.name),.lit u30]]),.pack (List.flatten (List.map Vl.Data.c (out++[(⟨x.name,o'⟩:Vl.Data)]))) (U++[.string x.name,u30])]⟩ (by refine Gh.trans (Gh.absorb 3 [8] (by exact rfl) (.lit (.string x.name) (.pk 8 (by exact rfl) .nil)) (by decide)) ?_;exact(Gh.to3 (by simp) (by first|simp -dsimp[RW.len H1,RW.closed H1,RW.len Hq13,RW.closed Hq13,w29];done|simp_all))) ?_
   exact(ih_spec_l1Copy__f_l1 (out++[(⟨x.name,o'⟩:Vl.Data)]) (d+1) o hF) (R++[[.lit (.string x.name),.lit u30]]) (U++[.string x.name,u30]) ((RW.snoc H1 [.string x.name,u30] rfl).cong (by simp) (by simp) rfl) _ rfl _ hq
  ·have z5:¬((d:Int)<(w.length:Int)):=auz
   cases hF
   repeat first|refine cg ?_|simp -dsimp[RW.len H1,RW.closed H1,h3,q4,z5]
   refine Leave.go ⟨[(3,.own 2 (List.length (α:=Vl.Data) out))],[.pack [] [],.elems 0 [],.elems 2 R,.pack (List.flatten (List.map Vl.Data.c out)) U]⟩ (Gh.to3 (by simp) (by first|simp -dsimp[RW.len H1,RW.closed H1,h3,q4,z5];done|simp_all)) ?_
   exact hq R U H1
theorem C.spec_l1Copy__f (w:List Vl.Data)(r:List Vl.Data)(hF:F.f62 w=some r):FCall Tryz.prog B 50 [.arr (List.map Vl.Data.c w)] (.arr (List.map Vl.Data.c r)):=by
 unfold F.f62 at hF
 refine FCall.enterG Tryz.func50 (by kernel_rfl) rfl Tryz.ntmps50 (by simp) (Gh.trans (Gh.packZ .nil) Gh.keep) ?_
 repeat first|refine cg ?_|simp -dsimp
 have hF:=ob hF;obtain⟨o'32,ho31,hF⟩:=hF
 refine ALoop.goU ⟨[(0,.arr (List.map Vl.Data.c w)),(3,.own 2 (List.length (α:=Vl.Data) [])),(4,.lit (.int .i64 0))],[.pack [] [],.elems 0 [],.elems 2 [],.pack (List.flatten (List.map Vl.Data.c [])) []]⟩ (by refine Gh.trans (Gh.packZ .nil) ?_;exact(Gh.to3 (by simp) (by simp -dsimp))) ?_
 refine((CC.spec_l1Copy__f_l1 B hB1 hB2 w) [] 0 o'32 ho31) [] [] RW.nil _ rfl _ ?_
 intro Rq Uq Hq2
 cases hF
 repeat first|refine cg ?_|simp -dsimp[RW.len Hq2,RW.closed Hq2]
 exact⟨_,by decide,(.cell (.ownP 2 _ 2 rfl (by simp) (.blk 3 rfl .nil) (by simp[Hq2.2.2]) (by simp[Hq2.1]) (by simp) (by simp) .nil) .nil:CT _ _ _ _)⟩
theorem C.f63 (r':T_spec_l17Rd)(list:List ByteArray)(r:ByteArray×T_spec_l17Rd)(hF:F.f63 r' list=some r):MutCall Tryz.prog B 51 [.arr (List.map cU r'.f0),.lit (.int .i64 r'.f1)] [.ptr 0 0,.arr (List.map cS list)] (.lit (.string r.1)) [.arr (List.map cU r.2.f0),.lit (.int .i64 r.2.f1)]:=by
 unfold F.f63 at hF
 refine MutCall.enter Tryz.func51 (by kernel_rfl) rfl Tryz.ntmps51 (by simp) (by simp) (by simp) (by simp) ?_
 repeat first|refine cg ?_|simp -dsimp
 have hF:=ob hF;obtain⟨v,e1,hF⟩:=hF
 refine((C.f1 B hB1 hB2 r' (list.length:Int) v e1)).go 0 rfl (by simp) (by simp) (by simp) ?_
 have hF:=ob hF;obtain⟨x,e2a,hF⟩:=hF
 have e2a:=at_some e2a;obtain⟨ne2,e2⟩:=e2a
 have le2:=lt_of_get e2
 cases hF
 repeat first|refine cg ?_|simp -dsimp[↓e2]
 all_goals(try first|omega|rfl)
theorem C.f64 (r':T_spec_l17Rd)(w:List Vl.Data)(r:(List Vl.Data)×T_spec_l17Rd)(hF:F.f64 r' w=some r):MutCall Tryz.prog B 28 [.arr (List.map cU r'.f0),.lit (.int .i64 r'.f1)] [.ptr 0 0,.arr (List.map Vl.Data.c w)] (.arr (List.map Vl.Data.c r.1)) [.arr (List.map cU r.2.f0),.lit (.int .i64 r.2.f1)]:=by
 unfold F.f64 at hF
 refine MutCall.enterL Tryz.func28 (by kernel_rfl) rfl Tryz.ntmps28 (by simp) (by simp) (by simp) (by simp) ?_
 have hF:=ob hF;obtain⟨v,e1,hF⟩:=hF
 have hF:=ob hF;obtain⟨v3,e2,hF⟩:=hF
 have hF:=ob hF;obtain⟨x,e3,hF⟩:=hF
 obtain⟨hd,e4⟩:=at_some e3
 have le4:=lt_of_get e4
 have g1:∀e:List AV,((List.map Vl.Data.c v).set v3.1.toNat e)[v3.1.toNat]? =some e:=fun e=>List.getElem?_set_self (by simpa using le4)
 repeat first|refine cg ?_|simp -dsimp
 refine(C.spec_l1Copy__f B hB1 hB2 w v e1).goO (by simp) 2 (by simp) (fun h=>by simp at h;subst h;simp at e4) (fun hne rows us q1 q2 q3 q4=> ?_)
 repeat first|refine cg ?_|simp -dsimp
 refine ACall.stg ?_
 refine((C.f1 B hB1 hB2 r' (v.length:Int) v3 e2)).go 0 rfl (by simp) (by simp) (by simp) ?_
 have g4:∀y:Vl.Data,y=x→v.set v3.1.toNat y=v:=fun y hy=>by
  rw[hy];have:=(List.getElem?_eq_some_iff.1 e4).2;rw[←this];exact List.set_getElem_self _
 have g2:∀e:List AV,(((List.map Vl.Data.c v).set v3.1.toNat e)=[])=False:=fun e=>by
  simp;rintro rfl;simp at le4
 cases hc:x.ctors with
 |nil=>
  refine StgK.opn0 2 3 (rows:=rows) (us:=us) (D:=v) (by simp) (by simp) q1 (by simpa using q2) v3.1.toNat e4 hc (fun us2=> ?_)
  rw[if_pos (by rw[hc];rfl)]at hF
  cases hF
  repeat first|refine cg ?_|simp -dsimp[↓e4,le4,hc]
  refine Leave.go _ (Gh.refl _) ?_
  repeat first|refine cg ?_|simp -dsimp
 |cons c cs=>
  refine StgK.opn 2 3 (rows:=rows) (us:=us) (D:=v) (by simp) (by simp) q1 (by simpa using q2) v3.1.toNat e4 hc (fun us3=> ?_)
  rw[if_neg (by rw[hc];simp)]at hF
  have hF:=ob hF;obtain⟨c',e6,hF⟩:=hF
  obtain rfl:c=c':=by rw[hc]at e6;simpa using e6
  have hF:=ob hF;obtain⟨v5,e7,hF⟩:=hF
  have hx:(⟨x.name,⟨c.name,c.args,c.index⟩::cs⟩:Vl.Data)=x:=by rw[show(⟨c.name,c.args,c.index⟩:Ctor)=c from rfl,←hc]
  have z0:((cs.length:Int)+1=0)=False:=eq_false (by omega)
  repeat first|refine cg ?_|simp -dsimp[↓g1,g2,z0]
  refine ACall.stg ?_
  refine((C.f1 B hB1 hB2 v3.2 30 v5 e7)).go 0 rfl (by simp) (by simp) (by simp) ?_
  by_cases hk:v5.1=2∨v5.1=3∨v5.1=4
  ·refine StgK.ghost _ (fun nb N fr=>Gh.refl _) ?_
   have k0:¬v5.1=0:=by omega
   have k1:¬v5.1=1:=by omega
   rw[if_neg k0,if_neg k1]at hF
   repeat first|refine cg ?_|simp -dsimp[k0,k1]
   revert hF;refine abr.sp ?_ ?_<;>intro h8 q9 hF
   ·repeat first|refine cg ?_|simp -dsimp[h8]
    refine ADraw.eff [51] [(0,2),(0,2),(0,2),(0,2),(0,2),(0,1),(0,3),(0,3),(2,2),(2,2),(0,3)] [1,1,2,0,2,1,1,1,1,1,1] follows (by kernel_rfl) (by kernel_rfl) (by kernel_rfl) ?_
    repeat first|refine cg ?_|simp -dsimp[h8,↓g1,g2]
    have hF:=ob hF;obtain⟨v9,e14,hF⟩:=hF
    refine ECallA.frz ?_ ((C.f63 B hB1 hB2 v5.2 [ByteArray.empty,(⟨#[110,105,108]⟩:ByteArray),(⟨#[84,111,111,108,111,110,103]⟩:ByteArray),(⟨#[88]⟩:ByteArray)] v9 e14)).ent
    repeat first|refine cg ?_|simp -dsimp[↓g1,g2,h8]
    refine((C.f63 B hB1 hB2 v5.2 [ByteArray.empty,(⟨#[110,105,108]⟩:ByteArray),(⟨#[84,111,111,108,111,110,103]⟩:ByteArray),(⟨#[88]⟩:ByteArray)] v9 e14)).ego 0 rfl (by first|simp[↓g1,g2,h8];done|simp_all) (by simp) (by first|simp[↓g1,g2,h8];done|simp_all) ?_
    repeat first|refine cg ?_|simp -dsimp[↓g1,g2,h8]
    cases hF
    refine Leave.go _ (Gh.clsCtor 2 4 6 (D:=v) (d:=v3.1.toNat) (nm0:=x.name) (nm:=v9.1) (ix:=c.index) (cs:=cs) (ats:=c.args) le4 (by simp) (by simp) (by simp) (by decide) (by decide) (by decide)) ?_
    repeat first|refine cg ?_|simp -dsimp[hc]
   ·repeat first|refine cg ?_|simp -dsimp[h8,q9]
    revert hF;refine abr.sp ?_ ?_<;>intro h10 q11 hF
    ·repeat first|refine cg ?_|simp -dsimp[h8,q9,h10]
     refine ADraw.opn ?_
     refine ADraw.split [] [(14,17)] [(17,14)] 14 17 rfl rfl (by kernel_rfl) ?_ ?_
     ·refine ADraw.split [(14,17)] [(14,17),(15,17)] [(14,17),(17,15)] 15 17 rfl rfl (by kernel_rfl) ?_ ?_
      ·refine ADraw.effP [(14,17),(15,17)] [0,1,2,3,4,5,6,7,8,9,10,11,12,13,14,15,16,17,18,19,20,21,22,23,24] [47] [(0,6),(0,6),(0,6),(0,6),(0,6),(0,5),(0,5),(0,5),(0,5),(0,5),(0,5),(0,5),(0,5),(0,1),(0,7),(0,7),(0,3),(0,7),(0,7),(4,4),(0,7),(0,7),(6,6),(6,6),(0,7)] [1,1,2,0,2,1,1,2,0,2,2,0,2,1,1,1,1,1,1,1,1,1,1,1,1] follows (by kernel_rfl) (by kernel_rfl) (by kernel_rfl) (by kernel_rfl) ?_
       have hF:=ob hF;obtain⟨v11,e15,hF⟩:=hF
       have hF:=ob hF;obtain⟨v13,e16,hF⟩:=hF
       have hF:=oc hF;obtain⟨c17,hF⟩:=hF
       cases hF
       repeat first|refine cg ?_|simp -dsimp[h10,↓g1,g2]
       refine ECallA.frz ?_ ((C.f54 B hB1 hB2 v5.2 [9,(-2),0,(-1)] v11 e15)).ent
       repeat first|refine cg ?_|simp -dsimp[↓g1,g2,h10]
       refine((C.f54 B hB1 hB2 v5.2 [9,(-2),0,(-1)] v11 e15)).ego 0 rfl (by first|simp[↓g1,g2,h10];done|simp_all) (by simp) (by first|simp[↓g1,g2,h10];done|simp_all) ?_
       repeat first|refine cg ?_|simp -dsimp[↓g1,g2,h10]
       refine ECallA.frz ?_ ((C.f54 B hB1 hB2 v11.2 [0,4,(-1),(-2)] v13 e16)).ent
       repeat first|refine cg ?_|simp -dsimp[↓g1,g2,h10]
       refine((C.f54 B hB1 hB2 v11.2 [0,4,(-1),(-2)] v13 e16)).ego 0 rfl (by first|simp[↓g1,g2,h10];done|simp_all) (by simp) (by first|simp[↓g1,g2,h10];done|simp_all) ?_
       repeat first|refine cg ?_|simp -dsimp[↓g1,g2,h10]
       refine Leave.go _ (Gh.clsCtor 2 4 6 (D:=v) (d:=v3.1.toNat) (nm0:=x.name) (nm:=c.name) (ix:=c.index) (cs:=cs) (ats:=c.args++[⟨v11.1,v13.1⟩]) le4 (by simp) (by simp) (by simp) (by decide) (by decide) (by decide)) ?_
       repeat first|refine cg ?_|simp -dsimp[hc]
      ·refine ADraw.effP [(14,17),(17,15)] [0,1,2,3,4,5,6,7,8,9,10,11,12,13,14,16,17,15,18,19,20,21,22,23,24] [47] [(0,6),(0,6),(0,6),(0,6),(0,6),(0,5),(0,5),(0,5),(0,5),(0,5),(0,5),(0,5),(0,5),(0,2),(0,7),(0,3),(0,7),(0,7),(0,7),(4,4),(0,7),(0,7),(6,6),(6,6),(0,7)] [1,1,2,0,2,1,1,2,0,2,2,0,2,1,1,1,1,1,1,1,1,1,1,1,1] follows (by kernel_rfl) (by kernel_rfl) (by kernel_rfl) (by kernel_rfl) ?_
       have hF:=ob hF;obtain⟨v11,e15,hF⟩:=hF
       have hF:=ob hF;obtain⟨v13,e16,hF⟩:=hF
       have hF:=oc hF;obtain⟨c17,hF⟩:=hF
       cases hF
       repeat first|refine cg ?_|simp -dsimp[h10,↓g1,g2]
       refine ECallA.frz ?_ ((C.f54 B hB1 hB2 v5.2 [9,(-2),0,(-1)] v11 e15)).ent
       repeat first|refine cg ?_|simp -dsimp[↓g1,g2,h10]
       refine((C.f54 B hB1 hB2 v5.2 [9,(-2),0,(-1)] v11 e15)).ego 0 rfl (by first|simp[↓g1,g2,h10];done|simp_all) (by simp) (by first|simp[↓g1,g2,h10];done|simp_all) ?_
       repeat first|refine cg ?_|simp -dsimp[↓g1,g2,h10]
       refine ECallA.frz ?_ ((C.f54 B hB1 hB2 v11.2 [0,4,(-1),(-2)] v13 e16)).ent
       repeat first|refine cg ?_|simp -dsimp[↓g1,g2,h10]
       refine((C.f54 B hB1 hB2 v11.2 [0,4,(-1),(-2)] v13 e16)).ego 0 rfl (by first|simp[↓g1,g2,h10];done|simp_all) (by simp) (by first|simp[↓g1,g2,h10];done|simp_all) ?_
       repeat first|refine cg ?_|simp -dsimp[↓g1,g2,h10]
       refine Leave.go _ (Gh.clsCtor 2 4 6 (D:=v) (d:=v3.1.toNat) (nm0:=x.name) (nm:=c.name) (ix:=c.index) (cs:=cs) (ats:=c.args++[⟨v11.1,v13.1⟩]) le4 (by simp) (by simp) (by simp) (by decide) (by decide) (by decide)) ?_
       repeat first|refine cg ?_|simp -dsimp[hc]
     ·refine ADraw.effP [(17,14)] [0,1,2,3,4,5,6,7,8,9,10,11,12,13,16,17,14,15,18,19,20,21,22,23,24] [47] [(0,6),(0,6),(0,6),(0,6),(0,6),(0,5),(0,5),(0,5),(0,5),(0,5),(0,5),(0,5),(0,5),(0,2),(0,3),(0,7),(0,7),(0,7),(0,7),(4,4),(0,7),(0,7),(6,6),(6,6),(0,7)] [1,1,2,0,2,1,1,2,0,2,2,0,2,1,1,1,1,1,1,1,1,1,1,1,1] follows (by kernel_rfl) (by kernel_rfl) (by kernel_rfl) (by kernel_rfl) ?_
      have hF:=ob hF;obtain⟨v11,e15,hF⟩:=hF
      have hF:=ob hF;obtain⟨v13,e16,hF⟩:=hF
      have hF:=oc hF;obtain⟨c17,hF⟩:=hF
      cases hF
      repeat first|refine cg ?_|simp -dsimp[h10,↓g1,g2]
      refine ECallA.frz ?_ ((C.f54 B hB1 hB2 v5.2 [9,(-2),0,(-1)] v11 e15)).ent
      repeat first|refine cg ?_|simp -dsimp[↓g1,g2,h10]
      refine((C.f54 B hB1 hB2 v5.2 [9,(-2),0,(-1)] v11 e15)).ego 0 rfl (by first|simp[↓g1,g2,h10];done|simp_all) (by simp) (by first|simp[↓g1,g2,h10];done|simp_all) ?_
      repeat first|refine cg ?_|simp -dsimp[↓g1,g2,h10]
      refine ECallA.frz ?_ ((C.f54 B hB1 hB2 v11.2 [0,4,(-1),(-2)] v13 e16)).ent
      repeat first|refine cg ?_|simp -dsimp[↓g1,g2,h10]
      refine((C.f54 B hB1 hB2 v11.2 [0,4,(-1),(-2)] v13 e16)).ego 0 rfl (by first|simp[↓g1,g2,h10];done|simp_all) (by simp) (by first|simp[↓g1,g2,h10];done|simp_all) ?_
      repeat first|refine cg ?_|simp -dsimp[↓g1,g2,h10]
      refine Leave.go _ (Gh.clsCtor 2 4 6 (D:=v) (d:=v3.1.toNat) (nm0:=x.name) (nm:=c.name) (ix:=c.index) (cs:=cs) (ats:=c.args++[⟨v11.1,v13.1⟩]) le4 (by simp) (by simp) (by simp) (by decide) (by decide) (by decide)) ?_
      repeat first|refine cg ?_|simp -dsimp[hc]
    ·have k4:v5.1=4:=by omega
     rw[if_pos k4]at hF
     repeat first|refine cg ?_|simp -dsimp[h8,q9,h10,q11,k4]
     refine ADraw.eff [47] [(0,2),(0,2),(0,2),(0,2),(0,2),(0,1),(0,3),(0,3),(2,2),(2,2),(0,3)] [1,1,2,0,2,1,1,1,1,1,1] follows (by kernel_rfl) (by kernel_rfl) (by kernel_rfl) ?_
     repeat first|refine cg ?_|simp -dsimp[h10,k4,↓g1,g2]
     have hF:=ob hF;obtain⟨v15,e18,hF⟩:=hF
     refine ECallA.frz ?_ ((C.f54 B hB1 hB2 v5.2 [4,(-1),1] v15 e18)).ent
     repeat first|refine cg ?_|simp -dsimp[↓g1,g2,h10,k4]
     refine((C.f54 B hB1 hB2 v5.2 [4,(-1),1] v15 e18)).ego 0 rfl (by first|simp[↓g1,g2,h10,k4];done|simp_all) (by simp) (by first|simp[↓g1,g2,h10,k4];done|simp_all) ?_
     repeat first|refine cg ?_|simp -dsimp[↓g1,g2,h10,k4]
     cases hF
     refine Leave.go _ (Gh.clsCtor 2 4 6 (D:=v) (d:=v3.1.toNat) (nm0:=x.name) (nm:=c.name) (ix:=v15.1) (cs:=cs) (ats:=c.args) le4 (by simp) (by simp) (by simp) (by decide) (by decide) (by decide)) ?_
     repeat first|refine cg ?_|simp -dsimp[hc]
  ·refine StgK.ghost _ (fun nb N fr=>Gh.clsCtor 2 4 6 (D:=v) (d:=v3.1.toNat) (nm0:=x.name) (nm:=c.name) (ix:=c.index) (cs:=cs) (ats:=c.args) le4 (by simp) (by simp) (by simp) (by decide) (by decide) (by decide)) ?_
   rw[g4 _ hx]
   have k2:¬v5.1=2:=by omega
   have k3:¬v5.1=3:=by omega
   have k4:¬v5.1=4:=by omega
   rw[if_neg k2,if_neg k3,if_neg k4]at hF
   repeat first|refine cg ?_|simp -dsimp
   revert hF;refine abr.sp ?_ ?_<;>intro h8 q9 hF
   ·have hF:=ob hF;obtain⟨v7,e14,hF⟩:=hF
    repeat first|refine cg ?_|simp -dsimp[h8]
    refine ACall.frz ?_ ((C.f63 B hB1 hB2 v5.2 [(⟨#[73]⟩:ByteArray),ByteArray.empty,(⟨#[97]⟩:ByteArray),(⟨#[76,76]⟩:ByteArray),(⟨#[90]⟩:ByteArray)] v7 e14)).ent
    repeat first|refine cg ?_|simp -dsimp[h8]
    refine((C.f63 B hB1 hB2 v5.2 [(⟨#[73]⟩:ByteArray),ByteArray.empty,(⟨#[97]⟩:ByteArray),(⟨#[76,76]⟩:ByteArray),(⟨#[90]⟩:ByteArray)] v7 e14)).go 0 rfl (by first|simp[h8];done|simp_all) (by simp) (by first|simp[h8];done|simp_all) ?_
    cases hF
    repeat first|refine cg ?_|simp -dsimp[h8,↓e4,le4]
    refine Leave.go _ (Gh.refl _) ?_
    repeat first|refine cg ?_|simp -dsimp[List.map_set]
   ·repeat first|refine cg ?_|simp -dsimp[h8,q9]
    revert hF;refine abr.sp ?_ ?_<;>intro h10 q11 hF
    ·cases hF
     repeat first|refine cg ?_|simp -dsimp[h8,q9,h10,↓e4,le4]
     refine Leave.go _ (Gh.frzElem 2 v3.1.toNat 1 (sz:=2) (l2:=8) (n:=0) (es2:=[]) (sz2:=3) (es:=(List.map Vl.Data.c v).set v3.1.toNat [.lit (.string x.name),.own 8 0]) (e:=[.lit (.string x.name),.own 8 0]) (by simp) (g1 _) rfl (by simp) (by decide) rfl (by intro e he;cases he)) ?_
     repeat first|refine cg ?_|simp -dsimp[List.map_set]
    ·repeat first|refine cg ?_|simp -dsimp[h8,q9,h10,q11,k2,k3,k4]
     revert hF;refine abr.sp ?_ ?_<;>intro h12 q13 hF
     ·have hF:=oc hF;obtain⟨c14,hF⟩:=hF
      cases hF
      repeat first|refine cg ?_|simp -dsimp[h8,h10,h12,↓e4,le4]
      refine Leave.go _ (Gh.refl _) ?_
      repeat first|refine cg ?_|simp -dsimp
     ·cases hF
      repeat first|refine cg ?_|simp -dsimp[h8,h10,h12,q13]
      refine Leave.go _ (Gh.refl _) ?_
      repeat first|refine cg ?_|simp -dsimp
theorem CC.f65  :(∀(r':T_spec_l17Rd) (v:Vl.Value) (r:Vl.Value×T_spec_l17Rd),F.f65 r' v=some r→MutCall Tryz.prog B 29 [.arr (List.map cU r'.f0),.lit (.int .i64 r'.f1)] [.ptr 0 0,.agg [.lit (.int .i64 v.ctor),.lit (.int .i64 v.n),.arr (List.map Vl.Value.c v.kids)]] (.agg [.lit (.int .i64 r.1.ctor),.lit (.int .i64 r.1.n),.arr (List.map Vl.Value.c r.1.kids)]) [.arr (List.map cU r.2.f0),.lit (.int .i64 r.2.f1)]):=by
 refine F.f65.partial_correctness 
  _
  ?_
 ·intro _f_f65 ih_f65 r' v r hF
  refine MutCall.enterG Tryz.func29 (by kernel_rfl) rfl Tryz.ntmps29 (by simp) (by simp) (by simp) (by simp) Gh.keep ?_
  repeat first|refine cg ?_|simp -dsimp
  refine ADraw.effL [(4,9),(7,9),(8,9)] 9 [1000028] [(0,2),(0,2),(0,2),(0,2),(0,5),(0,1),(0,1),(0,5),(0,5),(0,5),(0,5)] [0,2,0,2,1,0,2,1,1,1,1] follows (by kernel_rfl) (by kernel_rfl) (by kernel_rfl) (by kernel_rfl) (by intro d hd;cases hd;rfl) ?_
  have hF:=oc hF;obtain⟨c1,hF⟩:=hF
  repeat first|refine cg ?_|simp -dsimp
  have hF:=ob hF;obtain⟨v2,e3,hF⟩:=hF
  refine((C.f1 B hB1 hB2 r' 24 v2 e3)).go 0 rfl (by simp) (by simp) (by simp) ?_
  repeat first|refine cg ?_|simp -dsimp
  revert hF;refine abr.sp ?_ ?_<;>intro h4 q5 hF
  ·repeat first|refine cg ?_|simp -dsimp[h4]
   have hF:=ob hF;obtain⟨v6,e7,hF⟩:=hF
   refine ACall.frz ?_ ((C.f54 B hB1 hB2 v2.2 [0,1,(-1),9,(-2)] v6 e7)).ent
   repeat first|refine cg ?_|simp -dsimp[h4]
   refine((C.f54 B hB1 hB2 v2.2 [0,1,(-1),9,(-2)] v6 e7)).go 0 rfl (by first|simp[h4];done|simp_all) (by simp) (by first|simp[h4];done|simp_all) ?_
   cases hF
   repeat first|refine cg ?_|simp -dsimp[h4]
   all_goals(try first|omega|rfl)
  ·repeat first|refine cg ?_|simp -dsimp[h4,q5]
   revert hF;refine abr.sp ?_ ?_<;>intro h8 q9 hF
   ·repeat first|refine cg ?_|simp -dsimp[h4,q5,h8]
    have hF:=ob hF;obtain⟨v10,e11,hF⟩:=hF
    refine ACall.frz ?_ ((C.f54 B hB1 hB2 v2.2 [10,(-1),1] v10 e11)).ent
    repeat first|refine cg ?_|simp -dsimp[h4,q5,h8]
    refine((C.f54 B hB1 hB2 v2.2 [10,(-1),1] v10 e11)).go 0 rfl (by first|simp[h4,q5,h8];done|simp_all) (by simp) (by first|simp[h4,q5,h8];done|simp_all) ?_
    cases hF
    repeat first|refine cg ?_|simp -dsimp[h4,q5,h8]
    all_goals(try first|omega|rfl)
   ·repeat first|refine cg ?_|simp -dsimp[h4,q5,h8,q9]
    revert hF;refine abr.sp ?_ ?_<;>intro h12 q13 hF
    ·have hF:=oc hF;obtain⟨c14,hF⟩:=hF
     cases hF
     repeat first|refine cg ?_|simp -dsimp[h4,q5,h8,q9,h12]
     all_goals(try first|omega|rfl)
    ·repeat first|refine cg ?_|simp -dsimp[h4,q5,h8,q9,h12,q13]
     revert hF;refine abr.sp ?_ ?_<;>intro h15 q16 hF
     ·repeat first|refine cg ?_|simp -dsimp[h4,q5,h8,q9,h12,q13,h15]
      revert hF;refine abr.sp ?_ ?_<;>intro h17 q18 hF
      ·have z19:(0<(v.kids.length:Int)):=auz
       repeat first|refine cg ?_|simp -dsimp[h4,q5,h8,q9,h12,q13,h15,h17,z19]
       refine ADraw.eff [29] [(0,2),(0,2),(0,1),(0,0),(0,0),(0,0),(0,0),(0,0),(0,3),(0,3),(2,2),(0,3)] [0,2,1,1,1,1,1,1,1,1,1,1] follows (by kernel_rfl) (by kernel_rfl) (by kernel_rfl) ?_
       have hF:=ob hF;obtain⟨x,e20,hF⟩:=hF
       have le20:=lt_of_get e20
       repeat first|refine cg ?_|simp -dsimp[h4,q5,h8,q9,h12,q13,h15,h17,z19,↓e20]
       have hF:=ob hF;obtain⟨v21,e22,hF⟩:=hF
       refine((ih_f65 v2.2 x v21 e22)).ego 0 rfl (by first|simp[h4,q5,h8,q9,h12,q13,h15,h17,z19,↓e20];done|simp_all) (by simp) (by first|simp[h4,q5,h8,q9,h12,q13,h15,h17,z19,↓e20];done|simp_all) ?_
       repeat first|refine cg ?_|simp -dsimp[h4,q5,h8,q9,h12,q13,h15,h17,z19,↓e20]
       have hF:=ob hF;obtain⟨v23,e24,hF⟩:=hF
       refine((ih_f65 v21.2 v21.1 v23 e24)).ego 0 rfl (by first|simp[h4,q5,h8,q9,h12,q13,h15,h17,z19,↓e20];done|simp_all) (by simp) (by first|simp[h4,q5,h8,q9,h12,q13,h15,h17,z19,↓e20];done|simp_all) ?_
       cases hF
       repeat first|refine cg ?_|simp -dsimp[h4,q5,h8,q9,h12,q13,h15,h17,z19,↓e20]
       all_goals(try first|omega|rfl)
      ·have z19:¬(0<(v.kids.length:Int)):=auz
       cases hF
       repeat first|refine cg ?_|simp -dsimp[h4,q5,h8,q9,h12,q13,h15,h17,q18,z19]
       all_goals(try first|omega|rfl)
     ·cases hF
      repeat first|refine cg ?_|simp -dsimp[h4,q5,h8,q9,h12,q13,h15,q16]
      all_goals(try first|omega|rfl)
theorem C.f66 (code:List Int)(r:(List Vl.Data)×Ty×Vl.Value)(hF:F.f66 code=some r):PureCall Tryz.prog B 12 [.arr (List.map cU code)] (.tup [.arr (List.map Vl.Data.c r.1),.agg [.lit (.int .i64 r.2.1.data),.lit (.int .i64 r.2.1.index)],.agg [.lit (.int .i64 r.2.2.ctor),.lit (.int .i64 r.2.2.n),.arr (List.map Vl.Value.c r.2.2.kids)]]):=by
 unfold F.f66 at hF
 refine PureCall.enterLe Tryz.func12 (by kernel_rfl) rfl Tryz.ntmps12 (by simp) (by simp) ?_
 repeat first|refine cg ?_|simp -dsimp
 refine ACall.inl Tryz.func24 (by kernel_rfl) rfl Tryz.ntmps24 (by simp) ?_
 repeat first|refine cg ?_|simp -dsimp
 revert hF;refine abr.sp ?_ ?_<;>intro h1 q2 hF
 ·have z3:(2000<(code.length:Int)):=auz
  have hF:=oc hF;obtain⟨c4,hF⟩:=hF
  repeat first|refine cg ?_|simp -dsimp[h1,z3]
  have hF:=ob hF;obtain⟨v,e5,hF⟩:=hF
  refine((C.f58 B hB1 hB2 (⟨(code.drop 0).take (2000-0),0⟩:T_spec_l17Rd) v e5)).go 2 rfl (by first|simp[h1,z3];done|simp_all) (by simp) (by first|simp[h1,z3];done|simp_all) ?_
  repeat first|refine cg ?_|simp -dsimp[h1,z3]
  have hF:=ob hF;obtain⟨v6,e7,hF⟩:=hF
  refine((C.f1 B hB1 hB2 v.2.2.2 8 v6 e7)).go 2 rfl (by first|simp[h1,z3];done|simp_all) (by simp) (by first|simp[h1,z3];done|simp_all) ?_
  repeat first|refine cg ?_|simp -dsimp[h1,z3]
  revert hF;refine abr.sp ?_ ?_<;>intro h8 q9 hF
  ·repeat first|refine cg ?_|simp -dsimp[h1,z3,h8]
   have hF:=ob hF;obtain⟨v10,e11,hF⟩:=hF
   refine((C.f59 B hB1 hB2 v6.2 v.1 v10 e11)).go 2 rfl (by first|simp[h1,z3,h8];done|simp_all) (by simp) (by first|simp[h1,z3,h8];done|simp_all) ?_
   repeat first|refine cg ?_|simp -dsimp[h1,z3,h8]
   refine ADraw.eff [28,29] [(0,0),(0,0),(0,4),(0,2),(0,1),(0,1),(0,4),(2,2),(0,4),(0,4)] [1,1,1,2,1,2,1,1,1,1] follows (by kernel_rfl) (by kernel_rfl) (by kernel_rfl) ?_
   repeat first|refine cg ?_|simp -dsimp[h1,z3,h8]
   have hF:=ob hF;obtain⟨v12,e13,hF⟩:=hF
   refine((C.f64 B hB1 hB2 v10.2 v.1 v12 e13)).ego 2 rfl (by first|simp[h1,z3,h8];done|simp_all) (by simp) (by first|simp[h1,z3,h8];done|simp_all) ?_
   repeat first|refine cg ?_|simp -dsimp[h1,z3,h8]
   have hF:=ob hF;obtain⟨v14,e15,hF⟩:=hF
   refine(((CC.f65 B hB1 hB2) v12.2 v.2.2.1 v14 e15)).ego 2 rfl (by first|simp[h1,z3,h8];done|simp_all) (by simp) (by first|simp[h1,z3,h8];done|simp_all) ?_
   cases hF
   repeat first|refine cg ?_|simp -dsimp[h1,z3,h8]
   all_goals(try first|omega|rfl)
  ·repeat first|refine cg ?_|simp -dsimp[h1,z3,h8,q9]
   refine ADraw.eff [28,29] [(0,0),(0,0),(0,4),(0,2),(0,1),(0,1),(0,4),(2,2),(0,4),(0,4)] [1,1,1,2,1,2,1,1,1,1] follows (by kernel_rfl) (by kernel_rfl) (by kernel_rfl) ?_
   repeat first|refine cg ?_|simp -dsimp[h1,z3,h8,q9]
   have hF:=ob hF;obtain⟨v16,e17,hF⟩:=hF
   refine((C.f64 B hB1 hB2 v6.2 v.1 v16 e17)).ego 2 rfl (by first|simp[h1,z3,h8,q9];done|simp_all) (by simp) (by first|simp[h1,z3,h8,q9];done|simp_all) ?_
   repeat first|refine cg ?_|simp -dsimp[h1,z3,h8,q9]
   have hF:=ob hF;obtain⟨v18,e19,hF⟩:=hF
   refine(((CC.f65 B hB1 hB2) v16.2 v.2.2.1 v18 e19)).ego 2 rfl (by first|simp[h1,z3,h8,q9];done|simp_all) (by simp) (by first|simp[h1,z3,h8,q9];done|simp_all) ?_
   cases hF
   repeat first|refine cg ?_|simp -dsimp[h1,z3,h8,q9]
   all_goals(try first|omega|rfl)
 ·have z3:¬(2000<(code.length:Int)):=auz
  repeat first|refine cg ?_|simp -dsimp[h1,q2,z3]
  have hF:=ob hF;obtain⟨v20,e21,hF⟩:=hF
  refine((C.f58 B hB1 hB2 (⟨code,0⟩:T_spec_l17Rd) v20 e21)).go 2 rfl (by first|simp[h1,q2,z3];done|simp_all) (by simp) (by first|simp[h1,q2,z3];done|simp_all) ?_
  repeat first|refine cg ?_|simp -dsimp[h1,q2,z3]
  have hF:=ob hF;obtain⟨v22,e23,hF⟩:=hF
  refine((C.f1 B hB1 hB2 v20.2.2.2 8 v22 e23)).go 2 rfl (by first|simp[h1,q2,z3];done|simp_all) (by simp) (by first|simp[h1,q2,z3];done|simp_all) ?_
  repeat first|refine cg ?_|simp -dsimp[h1,q2,z3]
  revert hF;refine abr.sp ?_ ?_<;>intro h24 q25 hF
  ·repeat first|refine cg ?_|simp -dsimp[h1,q2,z3,h24]
   have hF:=ob hF;obtain⟨v26,e27,hF⟩:=hF
   refine((C.f59 B hB1 hB2 v22.2 v20.1 v26 e27)).go 2 rfl (by first|simp[h1,q2,z3,h24];done|simp_all) (by simp) (by first|simp[h1,q2,z3,h24];done|simp_all) ?_
   repeat first|refine cg ?_|simp -dsimp[h1,q2,z3,h24]
   refine ADraw.eff [28,29] [(0,0),(0,0),(0,4),(0,2),(0,1),(0,1),(0,4),(2,2),(0,4),(0,4)] [1,1,1,2,1,2,1,1,1,1] follows (by kernel_rfl) (by kernel_rfl) (by kernel_rfl) ?_
   repeat first|refine cg ?_|simp -dsimp[h1,q2,z3,h24]
   have hF:=ob hF;obtain⟨v28,e29,hF⟩:=hF
   refine((C.f64 B hB1 hB2 v26.2 v20.1 v28 e29)).ego 2 rfl (by first|simp[h1,q2,z3,h24];done|simp_all) (by simp) (by first|simp[h1,q2,z3,h24];done|simp_all) ?_
   repeat first|refine cg ?_|simp -dsimp[h1,q2,z3,h24]
   have hF:=ob hF;obtain⟨v30,e31,hF⟩:=hF
   refine(((CC.f65 B hB1 hB2) v28.2 v20.2.2.1 v30 e31)).ego 2 rfl (by first|simp[h1,q2,z3,h24];done|simp_all) (by simp) (by first|simp[h1,q2,z3,h24];done|simp_all) ?_
   cases hF
   repeat first|refine cg ?_|simp -dsimp[h1,q2,z3,h24]
   all_goals(try first|omega|rfl)
  ·repeat first|refine cg ?_|simp -dsimp[h1,q2,z3,h24,q25]
   refine ADraw.eff [28,29] [(0,0),(0,0),(0,4),(0,2),(0,1),(0,1),(0,4),(2,2),(0,4),(0,4)] [1,1,1,2,1,2,1,1,1,1] follows (by kernel_rfl) (by kernel_rfl) (by kernel_rfl) ?_
   repeat first|refine cg ?_|simp -dsimp[h1,q2,z3,h24,q25]
   have hF:=ob hF;obtain⟨v32,e33,hF⟩:=hF
   refine((C.f64 B hB1 hB2 v22.2 v20.1 v32 e33)).ego 2 rfl (by first|simp[h1,q2,z3,h24,q25];done|simp_all) (by simp) (by first|simp[h1,q2,z3,h24,q25];done|simp_all) ?_
   repeat first|refine cg ?_|simp -dsimp[h1,q2,z3,h24,q25]
   have hF:=ob hF;obtain⟨v34,e35,hF⟩:=hF
   refine(((CC.f65 B hB1 hB2) v32.2 v20.2.2.1 v34 e35)).ego 2 rfl (by first|simp[h1,q2,z3,h24,q25];done|simp_all) (by simp) (by first|simp[h1,q2,z3,h24,q25];done|simp_all) ?_
   cases hF
   repeat first|refine cg ?_|simp -dsimp[h1,q2,z3,h24,q25]
   all_goals(try first|omega|rfl)
theorem C.f67 (code:List Int)(r:(List Vl.Data)×Ty×Vl.Value)(hF:F.f67 code=some r):PureCall Tryz.prog B 4 [.arr (List.map cU code)] (.tup [.arr (List.map Vl.Data.c r.1),.agg [.lit (.int .i64 r.2.1.data),.lit (.int .i64 r.2.1.index)],.agg [.lit (.int .i64 r.2.2.ctor),.lit (.int .i64 r.2.2.n),.arr (List.map Vl.Value.c r.2.2.kids)]]):=by
 unfold F.f67 at hF
 refine PureCall.enterLe Tryz.func4 (by kernel_rfl) rfl Tryz.ntmps4 (by simp) (by simp) ?_
 repeat first|refine cg ?_|simp -dsimp
 have hF:=ob hF;obtain⟨v,e1,hF⟩:=hF
 refine((C.f66 B hB1 hB2 code v e1)).goW (by simp) (by simp) ?_
 cases hF
 repeat first|refine cg ?_|simp -dsimp
 all_goals(try first|omega|rfl)
theorem C.f68 (n:Int)(low:Int)(high:Int)(r:Bool)(hF:F.f68 n low high=some r):PureCall Tryz.prog B 39 [.lit (.int .i64 n),.lit (.int .i64 low),.lit (.int .i64 high)] (.lit (.bool r)):=by
 unfold F.f68 at hF
 refine PureCall.enterLe Tryz.func39 (by kernel_rfl) rfl Tryz.ntmps39 (by simp) (by simp) ?_
 repeat first|refine cg ?_|simp -dsimp
 revert hF;refine abr.sp ?_ ?_<;>intro h1 q2 hF
 ·cases hF
  repeat first|refine cg ?_|simp -dsimp[h1]
  all_goals(try first|omega|rfl)
 ·cases hF
  repeat first|refine cg ?_|simp -dsimp[h1,q2]
  all_goals(try first|omega|rfl)
theorem CC.f69 (s:ByteArray):(∀(i:Nat) (o:Lo Bool Unit),F.f69 s i=some o→∀(c:Code),navO [1,1,0,1,0,0] (bodyOf Tryz.f76)=some c→∀(Q:Exit→ASt→Prop),o.post (fun r=>∀st,Post Tryz.prog Tryz.f76 (fun r' _=>r'.le (.lit (.bool r))) .ret st→Q .ret st) (fun s=>Q (.exit 0) ⟨[],[]⟩)→ALoopU Tryz.prog B 0 34 (hold c .mk) ⟨[(0,.lit (.string s)),(3,.lit (.int .i64 (i:Int)))],[]⟩ (hold Q .mk)):=by
 refine F.f69.partial_correctness s
  _
  ?_
 ·intro _f_f69 ih_f69 i o hF
  intro c hc Q hq
  obtain rfl:c=_:=navEq hc rfl
  refine ALoopU.know fun hk hs=> ?_
  clear hk hs
  refine ALoopU.enter ?_
  repeat first|refine cg ?_|simp -dsimp
  revert hF;refine abr.sp ?_ ?_<;>intro h11 q12 hF
  ·have z13:((i:Int)<(s.size:Int)):=auz
   repeat first|refine cg ?_|simp -dsimp[h11,z13]
   revert hF;refine abr.ns ?_ ?_<;>intro h14 q15 hF
   ·have z16:¬(((byteAt s i:Nat):Int)<97):=auz
    repeat first|refine cg ?_|simp -dsimp[h11,z13,h14,q15,z16]
    revert hF;refine abr.sp ?_ ?_<;>intro h17 q18 hF
    ·have z19:(122<((byteAt s i:Nat):Int)):=auz
     cases hF
     repeat first|refine cg ?_|simp -dsimp[h11,z13,h14,q15,z16,h17,z19]
     refine Leave.go _ (Gh.refl _) (hq _ ?_)
     repeat first|refine cg ?_|simp -dsimp[h11,z13,h14,q15,z16,h17,z19]
    ·have z19:¬(122<((byteAt s i:Nat):Int)):=auz
     have hF:=oc hF;obtain⟨c20,hF⟩:=hF
     have w21:IntKind.i64.wrap ((i:Int)+1)=(i:Int)+1:=wrap_in (by omega) (by omega)
     repeat first|refine cg ?_|simp -dsimp[h11,z13,h14,q15,z16,h17,q18,z19,w21]
     refine Again.go _ ?_ ((ih_f69 (i+1) o hF) _ rfl _ hq)
     exact(Gh.to3 (by simp) (by first|simp -dsimp[h11,z13,h14,q15,z16,h17,q18,z19,w21];done|simp_all))
   ·have z16:(((byteAt s i:Nat):Int)<97):=auz
    cases hF
    repeat first|refine cg ?_|simp -dsimp[h11,z13,h14,q15,z16]
    refine Leave.go _ (Gh.refl _) (hq _ ?_)
    repeat first|refine cg ?_|simp -dsimp[h11,z13,h14,q15,z16]
  ·have z13:¬((i:Int)<(s.size:Int)):=auz
   cases hF
   repeat first|refine cg ?_|simp -dsimp[h11,q12,z13]
   refine Leave.go _ (Gh.to3 (by simp) (by first|simp -dsimp[h11,q12,z13];done|simp_all)) hq
theorem C.f70 (s:ByteArray)(r:Bool)(hF:F.f70 s=some r):PureCall Tryz.prog B 76 [.lit (.string s)] (.lit (.bool r)):=by
 unfold F.f70 at hF
 refine PureCall.enterLe Tryz.func76 (by kernel_rfl) rfl Tryz.ntmps76 (by simp) (by simp) ?_
 repeat first|refine cg ?_|simp -dsimp
 have hF:=ob hF;obtain⟨v,e1,hF⟩:=hF
 refine((C.f68 B hB1 hB2 (s.size:Int) 1 5 v e1)).goW (by simp) (by simp) ?_
 repeat first|refine cg ?_|simp -dsimp
 revert hF;refine abr.sp (fun h2 q3 hF=> ?_) (fun h2 q3 hF=> ?_)
 ·have hF:=oc hF;obtain⟨c4,hF⟩:=hF
  repeat first|refine cg ?_|simp -dsimp[h2]
  revert hF;refine abr.ns ?_ ?_<;>intro h5 q6 hF
  ·have z7:¬(((byteAt s 0:Nat):Int)<65):=auz
   repeat first|refine cg ?_|simp -dsimp[h2,h5,q6,z7]
   revert hF;refine abr.sp ?_ ?_<;>intro h8 q9 hF
   ·have z10:(90<((byteAt s 0:Nat):Int)):=auz
    cases hF
    repeat first|refine cg ?_|simp -dsimp[h2,h5,q6,z7,h8,z10]
    all_goals(try first|omega|rfl)
   ·have z10:¬(90<((byteAt s 0:Nat):Int)):=auz
    repeat first|refine cg ?_|simp -dsimp[h2,h5,q6,z7,h8,q9,z10]
    have hF:=ob hF;obtain⟨o',ho22,hF⟩:=hF
    refine ALoop.goU _ ?_ (((CC.f69 B hB1 hB2 s) 1 o' ho22) _ rfl _ ?_)
    ·exact(Gh.to3 (by simp) (by first|simp -dsimp[h2,h5,q6,z7,h8,q9,z10];done|simp_all))
    rcases o' with r0|sx
    ·dsimp only at hF
     cases hF
     intro st h
     simpa using h
    ·dsimp only at hF
     cases hF
     repeat first|refine cg ?_|simp -dsimp
     all_goals(try first|omega|rfl)
  ·have z7:(((byteAt s 0:Nat):Int)<65):=auz
   cases hF
   repeat first|refine cg ?_|simp -dsimp[h2,h5,q6,z7]
   all_goals(try first|omega|rfl)
 ·cases hF
  repeat first|refine cg ?_|simp -dsimp[h2,q3]
  all_goals(try first|omega|rfl)
theorem C.f71 (w:List Vl.Data)(t:Ty)(r:Bool)(hF:F.f71 w t=some r):PureCall Tryz.prog B 79 [.arr (List.map Vl.Data.c w),.agg [.lit (.int .i64 t.data),.lit (.int .i64 t.index)]] (.lit (.bool r)):=by
 unfold F.f71 at hF
 refine PureCall.enterLe Tryz.func79 (by kernel_rfl) rfl Tryz.ntmps79 (by simp) (by simp) ?_
 repeat first|refine cg ?_|simp -dsimp
 revert hF;refine abr.ns (fun h1 q2 hF=> ?_) (fun h1 q2 hF=> ?_)
 ·repeat first|refine cg ?_|simp -dsimp[h1,q2]
  have hF:=ob hF;obtain⟨v,e3,hF⟩:=hF
  refine((C.f68 B hB1 hB2 t.data 0 (IntKind.i64.wrap ((w.length:Int) -1)) v e3)).goW (by first|simp[h1,q2];done|simp_all) (by simp) ?_
  repeat first|refine cg ?_|simp -dsimp[h1,q2]
  revert hF;refine abr.sp (fun h4 q5 hF=> ?_) (fun h4 q5 hF=> ?_)
  ·repeat first|refine cg ?_|simp -dsimp[h1,q2,h4]
   have hF:=ob hF;obtain⟨v6,e7,hF⟩:=hF
   refine((C.f68 B hB1 hB2 t.index (-1) 3 v6 e7)).goW (by first|simp[h1,q2,h4];done|simp_all) (by simp) ?_
   cases hF
   repeat first|refine cg ?_|simp -dsimp[h1,q2,h4]
   all_goals(try first|omega|rfl)
  ·cases hF
   repeat first|refine cg ?_|simp -dsimp[h1,q2,h4,q5]
   all_goals(try first|omega|rfl)
 ·cases hF
  repeat first|refine cg ?_|simp -dsimp[h1,q2]
  all_goals(try first|omega|rfl)
theorem C.f72 (t:Ty)(a1:List Vl.Data)(r:Bool)(hF:F.f72 t a1=some r):PureCall Tryz.prog B 78 [.agg [.lit (.int .i64 t.data),.lit (.int .i64 t.index)],.rptr [.arr (List.map Vl.Data.c a1)] 0] (.lit (.bool r)):=by
 unfold F.f72 at hF
 refine PureCall.enterLe Tryz.func78 (by kernel_rfl) rfl Tryz.ntmps78 (by simp) (by simp) ?_
 repeat first|refine cg ?_|simp -dsimp
 have hF:=ob hF;obtain⟨v,e1,hF⟩:=hF
 refine((C.f71 B hB1 hB2 a1 t v e1)).goW (by simp) (by simp) ?_
 cases hF
 repeat first|refine cg ?_|simp -dsimp
 all_goals(try first|omega|rfl)
theorem CC.f73 (s:List Ty)(k0:List Vl.Data):(∀(i:Nat) (o:Lo Int Unit),F.f73 s k0 i=some o→∀(c:Code),navO [1,0,1,0,0] (bodyOf Tryz.f94)=some c→∀(Q:Exit→ASt→Prop),o.post (fun r=>∀st,Post Tryz.prog Tryz.f94 (fun r' _=>r'.le (.lit (.int .i64 r))) .ret st→Q .ret st) (fun s=>Q (.exit 0) ⟨[],[]⟩)→ALoopU Tryz.prog B 0 19 (hold c .mk) ⟨[(0,.arr (List.map Ty.c s)),(1,.fn (.func 78) [] [.rptr [.arr (List.map Vl.Data.c k0)] 0]),(7,.lit (.int .i64 (s.length:Int))),(8,.lit (.int .i64 (i:Int)))],[]⟩ (hold Q .mk)):=by
 refine F.f73.partial_correctness s k0
  _
  ?_
 ·intro _f_f73 ih_f73 i o hF
  intro c hc Q hq
  obtain rfl:c=_:=navEq hc rfl
  refine ALoopU.know fun hk hs=> ?_
  have b0:=hk 0
  simp -dsimp at b0
  clear hk hs
  refine ALoopU.enter ?_
  repeat first|refine cg ?_|simp -dsimp
  revert hF;refine abr.sp ?_ ?_<;>intro h1 q2 hF
  ·have z3:((i:Int)<(s.length:Int)):=auz
   have hF:=ob hF;obtain⟨x,e4,hF⟩:=hF
   have le4:=lt_of_get e4
   repeat first|refine cg ?_|simp -dsimp[h1,z3,↓e4]
   have hF:=ob hF;obtain⟨v,e5,hF⟩:=hF
   refine((C.f72 B hB1 hB2 x k0 v e5)).goW (by first|simp[h1,z3,↓e4];done|simp_all) (by simp) ?_
   repeat first|refine cg ?_|simp -dsimp[h1,z3,↓e4]
   revert hF;refine abr.sp (fun h6 q7 hF=> ?_) (fun h6 q7 hF=> ?_)
   ·cases hF
    repeat first|refine cg ?_|simp -dsimp[h1,z3,↓e4,h6]
    refine Leave.go _ (Gh.refl _) (hq _ ?_)
    repeat first|refine cg ?_|simp -dsimp[h1,z3,↓e4,h6]
   ·have w8:IntKind.i64.wrap ((i:Int)+1)=(i:Int)+1:=wrap_in (by omega) (by omega)
    repeat first|refine cg ?_|simp -dsimp[h1,z3,↓e4,h6,q7,w8]
    refine Again.go _ ?_ ((ih_f73 (i+1) o hF) _ rfl _ hq)
    exact(Gh.to3 (by simp) (by first|simp -dsimp[h1,z3,↓e4,h6,q7,w8];done|simp_all))
  ·have z3:¬((i:Int)<(s.length:Int)):=auz
   cases hF
   repeat first|refine cg ?_|simp -dsimp[h1,q2,z3]
   refine Leave.go _ (Gh.to3 (by simp) (by first|simp -dsimp[h1,q2,z3];done|simp_all)) hq
theorem C.f74 (s:List Ty)(k0:List Vl.Data)(r:Int)(hF:F.f74 s k0=some r):PureCall Tryz.prog B 94 [.arr (List.map Ty.c s),.fn (.func 78) [] [.rptr [.arr (List.map Vl.Data.c k0)] 0]] (.lit (.int .i64 r)):=by
 unfold F.f74 at hF
 refine PureCall.enterLe Tryz.func94 (by kernel_rfl) rfl Tryz.ntmps94 (by simp) (by simp) ?_
 repeat first|refine cg ?_|simp -dsimp
 have hF:=ob hF;obtain⟨o',ho9,hF⟩:=hF
 refine ALoop.goU _ ?_ (((CC.f73 B hB1 hB2 s k0) 0 o' ho9) _ rfl _ ?_)
 ·exact(Gh.to3 (by simp) (by simp -dsimp))
 rcases o' with r0|sx
 ·dsimp only at hF
  cases hF
  intro st h
  simpa using h
 ·dsimp only at hF
  cases hF
  repeat first|refine cg ?_|simp -dsimp
  all_goals(try first|omega|rfl)
theorem C.f75 (s:List Ty)(k0:List Vl.Data)(r:Bool)(hF:F.f75 s k0=some r):PureCall Tryz.prog B 77 [.arr (List.map Ty.c s),.fn (.func 78) [] [.rptr [.arr (List.map Vl.Data.c k0)] 0]] (.lit (.bool r)):=by
 unfold F.f75 at hF
 refine PureCall.enterLe Tryz.func77 (by kernel_rfl) rfl Tryz.ntmps77 (by simp) (by simp) ?_
 repeat first|refine cg ?_|simp -dsimp
 have hF:=ob hF;obtain⟨v,e1,hF⟩:=hF
 refine((C.f74 B hB1 hB2 s k0 v e1)).goW (by simp) (by simp) ?_
 cases hF
 repeat first|refine cg ?_|simp -dsimp
 all_goals(try first|omega|rfl)
theorem C.f76 (w:List Vl.Data)(c':Ctor)(r:Bool)(hF:F.f76 w c'=some r):PureCall Tryz.prog B 57 [.arr (List.map Vl.Data.c w),.agg [.lit (.string c'.name),.arr (List.map Ty.c c'.args),.lit (.int .i64 c'.index)]] (.lit (.bool r)):=by
 unfold F.f76 at hF
 refine PureCall.enterLe Tryz.func57 (by kernel_rfl) rfl Tryz.ntmps57 (by simp) (by simp) ?_
 repeat first|refine cg ?_|simp -dsimp
 have hF:=ob hF;obtain⟨v,e1,hF⟩:=hF
 refine((C.f70 B hB1 hB2 c'.name v e1)).goW (by simp) (by simp) ?_
 repeat first|refine cg ?_|simp -dsimp
 revert hF;refine abr.sp (fun h2 q3 hF=> ?_) (fun h2 q3 hF=> ?_)
 ·repeat first|refine cg ?_|simp -dsimp[h2]
  revert hF;refine abr.sp ?_ ?_<;>intro h4 q5 hF
  ·have z6:((c'.args.length:Int)≤3):=auz
   repeat first|refine cg ?_|simp -dsimp[h2,h4,z6]
   have hF:=ob hF;obtain⟨v7,e8,hF⟩:=hF
   refine((C.f68 B hB1 hB2 c'.index 0 3 v7 e8)).goW (by first|simp[h2,h4,z6];done|simp_all) (by simp) ?_
   repeat first|refine cg ?_|simp -dsimp[h2,h4,z6]
   revert hF;refine abr.sp (fun h9 q10 hF=> ?_) (fun h9 q10 hF=> ?_)
   ·repeat first|refine cg ?_|simp -dsimp[h2,h4,z6,h9]
    have hF:=ob hF;obtain⟨v11,e12,hF⟩:=hF
    refine((C.f75 B hB1 hB2 c'.args w v11 e12)).lend (by first|simp -dsimp[h2,h4,z6,h9];done|simp_all) (by simp -dsimp) ?_
    cases hF
    repeat first|refine cg ?_|simp -dsimp[h2,h4,z6,h9]
    all_goals(try first|omega|rfl)
   ·cases hF
    repeat first|refine cg ?_|simp -dsimp[h2,h4,z6,h9,q10]
    all_goals(try first|omega|rfl)
  ·have z6:¬((c'.args.length:Int)≤3):=auz
   cases hF
   repeat first|refine cg ?_|simp -dsimp[h2,h4,q5,z6]
   all_goals(try first|omega|rfl)
 ·cases hF
  repeat first|refine cg ?_|simp -dsimp[h2,q3]
  all_goals(try first|omega|rfl)
theorem CC.f77 (w:List Vl.Data)(met4:List ByteArray)(i:Nat)(x:Vl.Data):(∀(met26:List ByteArray) (i27:Nat) (o:Lo Bool (List ByteArray)),F.f77 w met4 i x met26 i27=some o→∀(b1 b2:Nat),¬b1=b2→∀(c:Code),navO [1,1,1,1,0,1,0,0,1,1,0,0,1,1,1,1,0,0] (bodyOf Tryz.f33)=some c→∀(Q:Exit→ASt→Ms→Prop),o.post (fun r=>∀st,Post Tryz.prog Tryz.f33 (fun r' _=>r'=(.lit (.bool r))) .ret st→∀ms,Q .ret st ms) (fun s=>Q (.exit 2) ⟨[(0,.arr (List.map Vl.Data.c w)),(3,.lit (.map (some b1))),(4,.lit (.map (some b2))),(14,.arr (List.map Vl.Data.c w)),(15,.lit (.int .i64 (w.length:Int))),(16,.lit (.int .i64 (i:Int)))],[]⟩ [(b1,s),(b2,msIns met4 x.name)])→MLoop Tryz.prog B 79 (hold c .mk) ⟨[(0,.arr (List.map Vl.Data.c w)),(3,.lit (.map (some b1))),(4,.lit (.map (some b2))),(14,.arr (List.map Vl.Data.c w)),(15,.lit (.int .i64 (w.length:Int))),(16,.lit (.int .i64 (i:Int))),(58,.arr (List.map Ctor.c x.ctors)),(59,.lit (.int .i64 (x.ctors.length:Int))),(60,.lit (.int .i64 (i27:Int)))],[]⟩ [(b1,met26),(b2,msIns met4 x.name)] (hold Q .mk)):=by
 refine F.f77.partial_correctness w met4 i x
  _
  ?_
 ·intro _f_f77 ih_f77 met26 i27 o hF
  intro b1 b2 hb2 c hc Q hq
  obtain rfl:c=_:=navEq hc rfl
  refine MLoop.know fun hk hs=> ?_
  have b0:=hk 0
  simp -dsimp at b0
  have b14:=hk 14
  simp -dsimp at b14
  have b58:=hk 58
  simp -dsimp at b58
  clear hk hs
  refine MLoop.enter ?_
  repeat first|refine cg ?_|simp -dsimp[hb2]
  revert hF;refine abr.sp ?_ ?_<;>intro h28 q29 hF
  ·have z30:((i27:Int)<(x.ctors.length:Int)):=auz
   have hF:=ob hF;obtain⟨x31,e32,hF⟩:=hF
   have le32:=lt_of_get e32
   repeat first|refine cg ?_|simp -dsimp[hb2,h28,z30,↓e32]
   have hF:=ob hF;obtain⟨v33,e34,hF⟩:=hF
   refine((C.f76 B hB1 hB2 w x31 v33 e34)).goW (by first|simp[hb2,h28,z30,↓e32];done|simp_all) (by simp) ?_
   repeat first|refine cg ?_|simp -dsimp[hb2,h28,z30,↓e32]
   revert hF;refine abr.sp (fun h35 q36 hF=> ?_) (fun h35 q36 hF=> ?_)
   ·repeat first|refine cg ?_|simp -dsimp[hb2,h28,z30,↓e32,h35]
    revert hF;refine abr.sp (fun h37 q38 hF=> ?_) (fun h37 q38 hF=> ?_)
    ·cases hF
     repeat first|refine cg ?_|simp -dsimp[hb2,h28,z30,↓e32,h35,h37]
     refine LeaveM.go _ (Gh.refl _) (hq _ ?_ _)
     repeat first|refine cg ?_|simp -dsimp[hb2,h28,z30,↓e32,h35,h37]
    ·have w39:IntKind.i64.wrap ((i27:Int)+1)=(i27:Int)+1:=wrap_in (by omega) (by omega)
     repeat first|refine cg ?_|simp -dsimp[hb2,h28,z30,↓e32,h35,h37,q38,w39]
     refine AgainM.go ⟨[(0,.arr (List.map Vl.Data.c w)),(3,.lit (.map (some b1))),(4,.lit (.map (some b2))),(14,.arr (List.map Vl.Data.c w)),(15,.lit (.int .i64 (w.length:Int))),(16,.lit (.int .i64 (i:Int))),(58,.arr (List.map Ctor.c x.ctors)),(59,.lit (.int .i64 (x.ctors.length:Int))),(60,.lit (.int .i64 ((i27+1):Int)))],[]⟩ (Gh.to3 (by simp) (by first|simp -dsimp[hb2,h28,z30,↓e32,h35,h37,q38,w39];done|simp_all)) ?_
     exact(ih_f77 (msIns met26 x31.name) (i27+1) o hF) b1 b2 hb2 _ rfl _ hq
   ·cases hF
    repeat first|refine cg ?_|simp -dsimp[hb2,h28,z30,↓e32,h35,q36]
    refine LeaveM.go _ (Gh.refl _) (hq _ ?_ _)
    repeat first|refine cg ?_|simp -dsimp[hb2,h28,z30,↓e32,h35,q36]
  ·have z30:¬((i27:Int)<(x.ctors.length:Int)):=auz
   cases hF
   repeat first|refine cg ?_|simp -dsimp[hb2,h28,q29,z30]
   refine LeaveM.go ⟨[(0,.arr (List.map Vl.Data.c w)),(3,.lit (.map (some b1))),(4,.lit (.map (some b2))),(14,.arr (List.map Vl.Data.c w)),(15,.lit (.int .i64 (w.length:Int))),(16,.lit (.int .i64 (i:Int)))],[]⟩ (Gh.to3 (by simp) (by first|simp -dsimp[hb2,h28,q29,z30];done|simp_all)) ?_
   exact hq
theorem CC.f78 (w:List Vl.Data):(∀(met:List ByteArray) (met4:List ByteArray) (i:Nat) (o:Lo Bool ((List ByteArray)×(List ByteArray))),F.f78 w met met4 i=some o→∀(b1 b2:Nat),¬b1=b2→∀(c:Code),navO [1,1,1,1,0,1,0,0] (bodyOf Tryz.f33)=some c→∀(Q:Exit→ASt→Ms→Prop),o.post (fun r=>∀st,Post Tryz.prog Tryz.f33 (fun r' _=>r'=(.lit (.bool r))) .ret st→∀ms,Q .ret st ms) (fun s=>Q (.exit 0) ⟨[],[]⟩ [(b1,s.1),(b2,s.2)])→MLoop Tryz.prog B 79 (hold c .mk) ⟨[(0,.arr (List.map Vl.Data.c w)),(3,.lit (.map (some b1))),(4,.lit (.map (some b2))),(14,.arr (List.map Vl.Data.c w)),(15,.lit (.int .i64 (w.length:Int))),(16,.lit (.int .i64 (i:Int)))],[]⟩ [(b1,met),(b2,met4)] (hold Q .mk)):=by
 refine F.f78.partial_correctness w
  _
  ?_
 ·intro _f_f78 ih_f78 met met4 i o hF
  intro b1 b2 hb2 c hc Q hq
  obtain rfl:c=_:=navEq hc rfl
  refine MLoop.know fun hk hs=> ?_
  have b0:=hk 0
  simp -dsimp at b0
  have b14:=hk 14
  simp -dsimp at b14
  clear hk hs
  refine MLoop.enter ?_
  repeat first|refine cg ?_|simp -dsimp[hb2]
  revert hF;refine abr.sp ?_ ?_<;>intro h5 q6 hF
  ·have z7:((i:Int)<(w.length:Int)):=auz
   have hF:=ob hF;obtain⟨x,e8,hF⟩:=hF
   have le8:=lt_of_get e8
   repeat first|refine cg ?_|simp -dsimp[hb2,h5,z7,↓e8]
   revert hF;refine abr.sp ?_ ?_<;>intro h9 q10 hF
   ·have z11:((x.name.size:Int)=1):=auz
    have hF:=oc hF;obtain⟨c12,hF⟩:=hF
    repeat first|refine cg ?_|simp -dsimp[hb2,h5,z7,↓e8,h9,z11]
    revert hF;refine abr.ns ?_ ?_<;>intro h13 q14 hF
    ·have z15:¬(((byteAt x.name 0:Nat):Int)<65):=auz
     repeat first|refine cg ?_|simp -dsimp[hb2,h5,z7,↓e8,h9,z11,h13,q14,z15]
     revert hF;refine abr.ns ?_ ?_<;>intro h16 q17 hF
     ·have z18:¬(90<((byteAt x.name 0:Nat):Int)):=auz
      repeat first|refine cg ?_|simp -dsimp[hb2,h5,z7,↓e8,h9,z11,h13,q14,z15,h16,q17,z18]
      revert hF;refine abr.ns ?_ ?_<;>intro h19 q20 hF
      ·repeat first|refine cg ?_|simp -dsimp[hb2,h5,z7,↓e8,h9,z11,h13,q14,z15,h16,q17,z18,h19,q20]
       revert hF;refine abr.ns (fun h21 q22 hF=> ?_) (fun h21 q22 hF=> ?_)
       ·repeat first|refine cg ?_|simp -dsimp[hb2,h5,z7,↓e8,h9,z11,h13,q14,z15,h16,q17,z18,h19,q20,h21,q22]
        have hF:=ob hF;obtain⟨v,e23,hF⟩:=hF
        refine((C.f68 B hB1 hB2 (x.ctors.length:Int) 1 4 v e23)).goW (by first|simp[hb2,h5,z7,↓e8,h9,z11,h13,q14,z15,h16,q17,z18,h19,q20,h21,q22];done|simp_all) (by simp) ?_
        repeat first|refine cg ?_|simp -dsimp[hb2,h5,z7,↓e8,h9,z11,h13,q14,z15,h16,q17,z18,h19,q20,h21,q22]
        revert hF;refine abr.ns (fun h24 q25 hF=> ?_) (fun h24 q25 hF=> ?_)
        ·cases hF
         repeat first|refine cg ?_|simp -dsimp[hb2,h5,z7,↓e8,h9,z11,h13,q14,z15,h16,q17,z18,h19,q20,h21,q22,h24,q25]
         refine LeaveM.go _ (Gh.refl _) (hq _ ?_ _)
         repeat first|refine cg ?_|simp -dsimp[hb2,h5,z7,↓e8,h9,z11,h13,q14,z15,h16,q17,z18,h19,q20,h21,q22,h24,q25]
        ·repeat first|refine cg ?_|simp -dsimp[hb2,h5,z7,↓e8,h9,z11,h13,q14,z15,h16,q17,z18,h19,q20,h21,q22,h24,q25]
         have hF:=ob hF;obtain⟨o',ho40,hF⟩:=hF
         refine MLoop.goU ⟨[(0,.arr (List.map Vl.Data.c w)),(3,.lit (.map (some b1))),(4,.lit (.map (some b2))),(14,.arr (List.map Vl.Data.c w)),(15,.lit (.int .i64 (w.length:Int))),(16,.lit (.int .i64 (i:Int))),(58,.arr (List.map Ctor.c x.ctors)),(59,.lit (.int .i64 (x.ctors.length:Int))),(60,.lit (.int .i64 0))],[]⟩ (Gh.to3 (by simp) (by first|simp -dsimp[hb2,h5,z7,↓e8,h9,z11,h13,q14,z15,h16,q17,z18,h19,q20,h21,q22,h24,q25];done|simp_all)) ?_
         refine((CC.f77 B hB1 hB2 w met4 i x) met 0 o' ho40) b1 b2 hb2 _ rfl _ ?_
         rcases o' with r0|sx
         ·dsimp only at hF
          cases hF
          intro st h ms
          simp -dsimp
          refine LeaveM.go st (Gh.refl _) (hq st h ms)
         ·dsimp only at hF
          have hF:=oc hF;obtain⟨c41,hF⟩:=hF
          have w42:IntKind.i64.wrap ((i:Int)+1)=(i:Int)+1:=wrap_in (by omega) (by omega)
          repeat first|refine cg ?_|simp -dsimp[w42]
          refine AgainM.go ⟨[(0,.arr (List.map Vl.Data.c w)),(3,.lit (.map (some b1))),(4,.lit (.map (some b2))),(14,.arr (List.map Vl.Data.c w)),(15,.lit (.int .i64 (w.length:Int))),(16,.lit (.int .i64 ((i+1):Int)))],[]⟩ (Gh.to3 (by simp) (by first|simp -dsimp[w42];done|simp_all)) ?_
          exact(ih_f78 sx (msIns met4 x.name) (i+1) o hF) b1 b2 hb2 _ rfl _ hq
       ·cases hF
        repeat first|refine cg ?_|simp -dsimp[hb2,h5,z7,↓e8,h9,z11,h13,q14,z15,h16,q17,z18,h19,q20,h21,q22]
        refine LeaveM.go _ (Gh.refl _) (hq _ ?_ _)
        repeat first|refine cg ?_|simp -dsimp[hb2,h5,z7,↓e8,h9,z11,h13,q14,z15,h16,q17,z18,h19,q20,h21,q22]
      ·cases hF
       repeat first|refine cg ?_|simp -dsimp[hb2,h5,z7,↓e8,h9,z11,h13,q14,z15,h16,q17,z18,h19,q20]
       refine LeaveM.go _ (Gh.refl _) (hq _ ?_ _)
       repeat first|refine cg ?_|simp -dsimp[hb2,h5,z7,↓e8,h9,z11,h13,q14,z15,h16,q17,z18,h19,q20]
     ·have z18:(90<((byteAt x.name 0:Nat):Int)):=auz
      cases hF
      repeat first|refine cg ?_|simp -dsimp[hb2,h5,z7,↓e8,h9,z11,h13,q14,z15,h16,q17,z18]
      refine LeaveM.go _ (Gh.refl _) (hq _ ?_ _)
      repeat first|refine cg ?_|simp -dsimp[hb2,h5,z7,↓e8,h9,z11,h13,q14,z15,h16,q17,z18]
    ·have z15:(((byteAt x.name 0:Nat):Int)<65):=auz
     cases hF
     repeat first|refine cg ?_|simp -dsimp[hb2,h5,z7,↓e8,h9,z11,h13,q14,z15]
     refine LeaveM.go _ (Gh.refl _) (hq _ ?_ _)
     repeat first|refine cg ?_|simp -dsimp[hb2,h5,z7,↓e8,h9,z11,h13,q14,z15]
   ·have z11:¬((x.name.size:Int)=1):=auz
    cases hF
    repeat first|refine cg ?_|simp -dsimp[hb2,h5,z7,↓e8,h9,q10,z11]
    refine LeaveM.go _ (Gh.refl _) (hq _ ?_ _)
    repeat first|refine cg ?_|simp -dsimp[hb2,h5,z7,↓e8,h9,q10,z11]
  ·have z7:¬((i:Int)<(w.length:Int)):=auz
   cases hF
   repeat first|refine cg ?_|simp -dsimp[hb2,h5,q6,z7]
   refine LeaveM.go ⟨[],[]⟩ (Gh.to3 (by simp) (by first|simp -dsimp[hb2,h5,q6,z7];done|simp_all)) ?_
   exact hq
theorem C.f79 (w:List Vl.Data)(r:Bool)(hF:F.f79 w=some r):PureCall Tryz.prog B 33 [.arr (List.map Vl.Data.c w)] (.lit (.bool r)):=by
 unfold F.f79 at hF
 refine PureCall.enterM Tryz.func33 (by kernel_rfl) rfl Tryz.ntmps33 (by simp) ?_
 repeat first|refine cg ?_|simp -dsimp
 revert hF;refine abr.sp ?_ ?_<;>intro h1 q2 hF
 ·have z3:(4<(w.length:Int)):=auz
  cases hF
  repeat first|refine cg ?_|simp -dsimp[h1,z3]
  all_goals(try first|omega|rfl)
 ·have z3:¬(4<(w.length:Int)):=auz
  repeat first|refine cg ?_|simp -dsimp[h1,q2,z3]
  refine AMake.go fun b1 hb1=> ?_
  repeat first|refine cg ?_|simp -dsimp[h1,q2,z3]
  refine AMake.go fun b2 hb2=> ?_
  simp at hb2
  repeat first|refine cg ?_|simp -dsimp[h1,q2,z3,hb2]
  have hF:=ob hF;obtain⟨o'44,ho43,hF⟩:=hF
  refine MLoop.goU ⟨[(0,.arr (List.map Vl.Data.c w)),(3,.lit (.map (some b1))),(4,.lit (.map (some b2))),(14,.arr (List.map Vl.Data.c w)),(15,.lit (.int .i64 (w.length:Int))),(16,.lit (.int .i64 0))],[]⟩ (Gh.to3 (by simp) (by first|simp -dsimp[h1,q2,z3,hb2];done|simp_all)) ?_
  refine((CC.f78 B hB1 hB2 w) [] [] 0 o'44 ho43) b1 b2 hb2 _ rfl _ ?_
  rcases o'44 with r046|sx45
  ·dsimp only at hF
   cases hF
   intro st h ms
   simpa using h
  ·dsimp only at hF
   cases hF
   repeat first|refine cg ?_|simp -dsimp
   all_goals(try first|omega|rfl)
theorem C.f80 (w:List Vl.Data)(t:Ty)(r:Bool)(hF:F.f80 w t=some r):PureCall Tryz.prog B 34 [.arr (List.map Vl.Data.c w),.agg [.lit (.int .i64 t.data),.lit (.int .i64 t.index)]] (.lit (.bool r)):=by
 unfold F.f80 at hF
 refine PureCall.enterLe Tryz.func34 (by kernel_rfl) rfl Tryz.ntmps34 (by simp) (by simp) ?_
 repeat first|refine cg ?_|simp -dsimp
 revert hF;refine abr.ns (fun h1 q2 hF=> ?_) (fun h1 q2 hF=> ?_)
 ·repeat first|refine cg ?_|simp -dsimp[h1,q2]
  have hF:=ob hF;obtain⟨v,e3,hF⟩:=hF
  refine((C.f68 B hB1 hB2 t.data 0 (IntKind.i64.wrap ((w.length:Int) -1)) v e3)).goW (by first|simp[h1,q2];done|simp_all) (by simp) ?_
  repeat first|refine cg ?_|simp -dsimp[h1,q2]
  revert hF;refine abr.sp (fun h4 q5 hF=> ?_) (fun h4 q5 hF=> ?_)
  ·repeat first|refine cg ?_|simp -dsimp[h1,q2,h4]
   have hF:=ob hF;obtain⟨v6,e7,hF⟩:=hF
   refine((C.f68 B hB1 hB2 t.index 0 3 v6 e7)).goW (by first|simp[h1,q2,h4];done|simp_all) (by simp) ?_
   cases hF
   repeat first|refine cg ?_|simp -dsimp[h1,q2,h4]
   all_goals(try first|omega|rfl)
  ·cases hF
   repeat first|refine cg ?_|simp -dsimp[h1,q2,h4,q5]
   all_goals(try first|omega|rfl)
 ·cases hF
  repeat first|refine cg ?_|simp -dsimp[h1,q2]
  all_goals(try first|omega|rfl)
theorem C.f81 (w:List Vl.Data)(t:Ty)(r:Bool)(hF:F.f81 w t=some r):PureCall Tryz.prog B 18 [.arr (List.map Vl.Data.c w),.agg [.lit (.int .i64 t.data),.lit (.int .i64 t.index)]] (.lit (.bool r)):=by
 unfold F.f81 at hF
 refine PureCall.enterLe Tryz.func18 (by kernel_rfl) rfl Tryz.ntmps18 (by simp) (by simp) ?_
 repeat first|refine cg ?_|simp -dsimp
 have hF:=ob hF;obtain⟨v,e1,hF⟩:=hF
 refine((C.f79 B hB1 hB2 w v e1)).goW (by simp) (by simp) ?_
 repeat first|refine cg ?_|simp -dsimp
 revert hF;refine abr.sp (fun h2 q3 hF=> ?_) (fun h2 q3 hF=> ?_)
 ·repeat first|refine cg ?_|simp -dsimp[h2]
  have hF:=ob hF;obtain⟨v4,e5,hF⟩:=hF
  refine((C.f80 B hB1 hB2 w t v4 e5)).goW (by first|simp[h2];done|simp_all) (by simp) ?_
  cases hF
  repeat first|refine cg ?_|simp -dsimp[h2]
  all_goals(try first|omega|rfl)
 ·cases hF
  repeat first|refine cg ?_|simp -dsimp[h2,q3]
  all_goals(try first|omega|rfl)
theorem CC.f82 (t:Ty)(x:Vl.Data):(∀(i:Nat) (out:List Int) (o:List Int),F.f82 t x i out=some o→∀(c:Code),navO [1,1,0,1,0,1,0,0] (bodyOf Tryz.f62)=some c→∀(Q:Exit→ASt→Prop),(Q (.exit 0) ⟨[(5,.own 1 (List.length (α:=Int) o))],[.dead,.elems 1 (List.map cI o)]⟩)→ALoopU Tryz.prog B 0 44 (hold c .mk) ⟨[(3,.ptr 0 0),(5,.own 1 (List.length (α:=Int) out)),(16,.arr (List.map Ctor.c x.ctors)),(17,.lit (.int .i64 (x.ctors.length:Int))),(18,.lit (.int .i64 (i:Int)))],[.cells [.lit (.int .i64 t.data),.lit (.int .i64 t.index)],.elems 1 (List.map cI out)]⟩ (hold Q .mk)):=by
 refine F.f82.partial_correctness t x
  _
  ?_
 ·intro _f_f82 ih_f82 i out o hF
  intro c hc Q hq
  obtain rfl:c=_:=navEq hc rfl
  refine ALoopU.know fun hk hs=> ?_
  have b16:=hk 16
  simp -dsimp at b16
  have d1:=hs 1 _ rfl
  simp -dsimp[Blk.bnd]at d1
  clear hk hs
  refine ALoopU.enter ?_
  repeat first|refine cg ?_|simp -dsimp
  revert hF;refine abr.sp ?_ ?_<;>intro h4 q5 hF
  ·have z6:((i:Int)<(x.ctors.length:Int)):=auz
   have hF:=ob hF;obtain⟨x7,e8,hF⟩:=hF
   have le8:=lt_of_get e8
   repeat first|refine cg ?_|simp -dsimp[h4,z6,↓e8]
   revert hF;refine abr.ns ?_ ?_<;>intro h9 q10 hF
   ·repeat first|refine cg ?_|simp -dsimp[h4,z6,↓e8,h9,q10]
    revert hF;refine abr.ns ?_ ?_<;>intro h11 q12 hF
    ·repeat first|refine cg ?_|simp -dsimp[h4,z6,↓e8,h9,q10,h11,q12]
     revert hF;refine abr.sp ?_ ?_<;>intro h13 q14 hF
     ·have hF:=oc hF;obtain⟨c15,hF⟩:=hF
      have w16:IntKind.i64.wrap ((i:Int)+1)=(i:Int)+1:=wrap_in (by omega) (by omega)
      repeat first|refine cg ?_|simp -dsimp[h4,z6,↓e8,h9,q10,h11,q12,h13,w16]
      refine Again.go _ ?_ ((ih_f82 (i+1) (out++[(i:Int)]) o hF) _ rfl _ hq)
      exact(Gh.to3 (by simp) (by first|simp -dsimp[h4,z6,↓e8,h9,q10,h11,q12,h13,w16];done|simp_all))
     ·have w17:IntKind.i64.wrap ((i:Int)+1)=(i:Int)+1:=wrap_in (by omega) (by omega)
      repeat first|refine cg ?_|simp -dsimp[h4,z6,↓e8,h9,q10,h11,q12,h13,q14,w17]
      refine Again.go _ ?_ ((ih_f82 (i+1) out o hF) _ rfl _ hq)
      exact(Gh.to3 (by simp) (by first|simp -dsimp[h4,z6,↓e8,h9,q10,h11,q12,h13,q14,w17];done|simp_all))
    ·have hF:=oc hF;obtain⟨c18,hF⟩:=hF
     have w19:IntKind.i64.wrap ((i:Int)+1)=(i:Int)+1:=wrap_in (by omega) (by omega)
     repeat first|refine cg ?_|simp -dsimp[h4,z6,↓e8,h9,q10,h11,q12,w19]
     refine Again.go _ ?_ ((ih_f82 (i+1) (out++[(i:Int)]) o hF) _ rfl _ hq)
     exact(Gh.to3 (by simp) (by first|simp -dsimp[h4,z6,↓e8,h9,q10,h11,q12,w19];done|simp_all))
   ·have hF:=oc hF;obtain⟨c20,hF⟩:=hF
    have w21:IntKind.i64.wrap ((i:Int)+1)=(i:Int)+1:=wrap_in (by omega) (by omega)
    repeat first|refine cg ?_|simp -dsimp[h4,z6,↓e8,h9,q10,w21]
    refine Again.go _ ?_ ((ih_f82 (i+1) (out++[(i:Int)]) o hF) _ rfl _ hq)
    exact(Gh.to3 (by simp) (by first|simp -dsimp[h4,z6,↓e8,h9,q10,w21];done|simp_all))
  ·have z6:¬((i:Int)<(x.ctors.length:Int)):=auz
   cases hF
   repeat first|refine cg ?_|simp -dsimp[h4,q5,z6]
   refine Leave.go _ (Gh.to3 (by simp) (by first|simp -dsimp[h4,q5,z6];done|simp_all)) hq
end Go.Proofs.YtanfmnlkemmkpaaGreatDoor
