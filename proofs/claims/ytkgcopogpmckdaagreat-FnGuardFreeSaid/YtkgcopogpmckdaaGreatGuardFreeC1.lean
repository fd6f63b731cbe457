/- The contracts: the code computes the functions (printed by gen.py). -/
import Derived.Test.YtkgcopogpmckdaaGreatProg
import Derived.Test.YtkgcopogpmckdaaGreatGuardFreeF
namespace Go.Proofs.YtkgcopogpmckdaaGreat
open Go Go.Proofs Go.Vl
set_option linter.all false
set_option maxRecDepth 100000
set_option maxHeartbeats 4000000
set_option synthInstance.maxSize 100000
attribute [local irreducible] ECallA NCallA aL aLg AMake MLoop AgainM LeaveM awpM aopsM MutCall BCall chk abr ACall ALoop ALoopU ADraw Again Leave PCallA PCall Post awp aops PureCall hold
theorem follows :Tryz.prog.follows .mixedOrders=true:=by kernel_rfl
@[simp] theorem ti2 :tiOf Tryz.prog 2=some ⟨.word,1,[.int .i64 0]⟩:=by kernel_rfl
@[simp] theorem ti3 :tiOf Tryz.prog 3=some ⟨.word,1,[.int .i64 0]⟩:=by kernel_rfl
@[simp] theorem ti4 :tiOf Tryz.prog 4=some ⟨.word,1,[.bool false]⟩:=by kernel_rfl
@[simp] theorem ti5 :tiOf Tryz.prog 5=some ⟨.word,1,[.int .u8 0]⟩:=by kernel_rfl
@[simp] theorem ti6 :tiOf Tryz.prog 6=some ⟨.word,1,[.int .u8 0]⟩:=by kernel_rfl
@[simp] theorem ti8 :tiOf Tryz.prog 8=some ⟨.struct [(0,1),(1,1),(2,1),(3,1)],4,[.int .i64 0,.int .i64 0,.bool false,.int .u8 0]⟩:=by kernel_rfl
@[simp] theorem ti9 :tiOf Tryz.prog 9=some ⟨.word,1,[.string ByteArray.empty]⟩:=by kernel_rfl
@[simp] theorem ti22 :tiOf Tryz.prog 22=some ⟨.slice 1 1 [.int .u8 0],1,[.slice none 0 0]⟩:=by kernel_rfl
@[simp] theorem sl22 :isSl Tryz.prog 22=true:=by kernel_rfl
@[simp] theorem ti23 :tiOf Tryz.prog 23=some ⟨.slice 2 40 [.string ByteArray.empty,.slice none 0 0],1,[.slice none 0 0]⟩:=by kernel_rfl
@[simp] theorem sl23 :isSl Tryz.prog 23=true:=by kernel_rfl
@[simp] theorem ti25 :tiOf Tryz.prog 25=some ⟨.struct [(0,1),(1,1)],2,[.int .i64 0,.int .i64 0]⟩:=by kernel_rfl
@[simp] theorem pr25 :pair2B Tryz.prog 25=true:=by kernel_rfl
@[simp] theorem ti26 :tiOf Tryz.prog 26=some ⟨.slice 6 64 [.int .i64 0,.int .i64 0,.int .i64 0,.int .i64 0,.int .i64 0,.slice none 0 0],1,[.slice none 0 0]⟩:=by kernel_rfl
@[simp] theorem sl26 :isSl Tryz.prog 26=true:=by kernel_rfl
@[simp] theorem ti28 :tiOf Tryz.prog 28=some ⟨.struct [(0,1),(1,1),(2,1),(3,1),(4,1),(5,1)],6,[.int .i64 0,.int .i64 0,.int .i64 0,.int .i64 0,.int .i64 0,.slice none 0 0]⟩:=by kernel_rfl
@[simp] theorem ti30 :tiOf Tryz.prog 30=some ⟨.struct [(0,1),(1,1),(2,1)],3,[.int .i64 0,.int .i64 0,.int .i64 0]⟩:=by kernel_rfl
@[simp] theorem pr30 :trip3B Tryz.prog 30=true:=by kernel_rfl
@[simp] theorem ti32 :tiOf Tryz.prog 32=some ⟨.struct [(0,6),(6,3)],9,[.int .i64 0,.int .i64 0,.int .i64 0,.int .i64 0,.int .i64 0,.slice none 0 0,.int .i64 0,.int .i64 0,.int .i64 0]⟩:=by kernel_rfl
@[simp] theorem ti38 :tiOf Tryz.prog 38=some ⟨.slice 9 88 [.int .i64 0,.int .i64 0,.int .i64 0,.int .i64 0,.int .i64 0,.slice none 0 0,.int .i64 0,.int .i64 0,.int .i64 0],1,[.slice none 0 0]⟩:=by kernel_rfl
@[simp] theorem sl38 :isSl Tryz.prog 38=true:=by kernel_rfl
@[simp] theorem ti49 :tiOf Tryz.prog 49=some ⟨.slice 1 8 [.int .i64 0],1,[.slice none 0 0]⟩:=by kernel_rfl
@[simp] theorem sl49 :isSl Tryz.prog 49=true:=by kernel_rfl
@[simp] theorem ti71 :tiOf Tryz.prog 71=some ⟨.slice 1 16 [.string ByteArray.empty],1,[.slice none 0 0]⟩:=by kernel_rfl
@[simp] theorem sl71 :isSl Tryz.prog 71=true:=by kernel_rfl
@[simp] theorem ti82 :tiOf Tryz.prog 82=some ⟨.slice 3 40 [.int .i64 0,.int .i64 0,.slice none 0 0],1,[.slice none 0 0]⟩:=by kernel_rfl
@[simp] theorem sl82 :isSl Tryz.prog 82=true:=by kernel_rfl
@[simp] theorem ti84 :tiOf Tryz.prog 84=some ⟨.struct [(0,1),(1,1),(2,1)],3,[.int .i64 0,.int .i64 0,.slice none 0 0]⟩:=by kernel_rfl
@[simp] theorem ti119 :tiOf Tryz.prog 119=some ⟨.struct [(0,1),(1,1)],2,[.slice none 0 0,.int .i64 0]⟩:=by kernel_rfl
@[simp] theorem ti121 :tiOf Tryz.prog 121=some ⟨.slice 3 48 [.string ByteArray.empty,.slice none 0 0,.int .i64 0],1,[.slice none 0 0]⟩:=by kernel_rfl
@[simp] theorem sl121 :isSl Tryz.prog 121=true:=by kernel_rfl
@[simp] theorem ti123 :tiOf Tryz.prog 123=some ⟨.struct [(0,1),(1,1)],2,[.string ByteArray.empty,.slice none 0 0]⟩:=by kernel_rfl
@[simp] theorem ti124 :tiOf Tryz.prog 124=some ⟨.slice 2 16 [.int .i64 0,.int .i64 0],1,[.slice none 0 0]⟩:=by kernel_rfl
@[simp] theorem sl124 :isSl Tryz.prog 124=true:=by kernel_rfl
@[simp] theorem ti126 :tiOf Tryz.prog 126=some ⟨.struct [(0,1),(1,1),(2,1)],3,[.string ByteArray.empty,.slice none 0 0,.int .i64 0]⟩:=by kernel_rfl
@[simp] theorem ti141 :tiOf Tryz.prog 141=some ⟨.slice 3 24 [.int .i64 0,.int .i64 0,.int .i64 0],1,[.slice none 0 0]⟩:=by kernel_rfl
@[simp] theorem sl141 :isSl Tryz.prog 141=true:=by kernel_rfl
@[simp] theorem ti186 :tiOf Tryz.prog 186=some ⟨.struct [(0,1),(1,2)],3,[.int .i64 0,.int .i64 0,.int .i64 0]⟩:=by kernel_rfl
@[simp] theorem pr186 :trip3B Tryz.prog 186=true:=by kernel_rfl
@[simp] theorem ti213 :mapB Tryz.prog 213=true:=by kernel_rfl
@[simp] theorem ti217 :tiOf Tryz.prog 217=some ⟨.array 6 1,6,[.bool false,.bool false,.bool false,.bool false,.bool false,.bool false]⟩:=by kernel_rfl
attribute [simp] Tryz.underlying2 Tryz.underlying3 Tryz.underlying4 Tryz.underlying5 Tryz.underlying6 Tryz.underlying9 Tryz.underlying22 Tryz.underlying23 Tryz.underlying26 Tryz.underlying38 Tryz.underlying49 Tryz.underlying71 Tryz.underlying82 Tryz.underlying121 Tryz.underlying124 Tryz.underlying141 Tryz.underlying217 Tryz.results3 Tryz.results8 Tryz.results9 Tryz.results10 Tryz.results11 Tryz.results12 Tryz.results16 Tryz.results29 Tryz.results30 Tryz.results31 Tryz.results32 Tryz.results33 Tryz.results34 Tryz.results35 Tryz.results36 Tryz.results37 Tryz.results38 Tryz.results39 Tryz.results40 Tryz.results41 Tryz.results42 Tryz.results43 Tryz.results45 Tryz.results47 Tryz.results51 Tryz.results53 Tryz.results65 Tryz.results70 Tryz.results71 Tryz.results72 Tryz.results73 Tryz.results74 Tryz.results75 Tryz.results76 Tryz.results77 Tryz.results78 Tryz.results79 Tryz.results80 Tryz.results81 Tryz.results82 Tryz.results83 Tryz.results84 Tryz.results85 Tryz.results86 Tryz.results87 Tryz.results88 Tryz.results89 Tryz.results90 Tryz.results91 Tryz.results92 Tryz.results93 Tryz.results94 Tryz.results98 Tryz.results104 Tryz.results105 Tryz.results108 Tryz.results121 Tryz.results122 Tryz.results123 Tryz.results124 Tryz.results125 Tryz.results126 Tryz.results127 Tryz.results128 Tryz.results129 Tryz.results130 Tryz.results131 Tryz.results132 Tryz.results133 Tryz.results134 Tryz.results135 Tryz.results136 Tryz.results137 Tryz.results138 Tryz.results139 Tryz.results140 Tryz.results141 Tryz.results142 Tryz.results143 Tryz.results144 Tryz.results145 Tryz.results146 Tryz.results147 Tryz.results148 Tryz.results153 Tryz.results154 Tryz.results163 Tryz.results164 Tryz.results165 Tryz.results166 Tryz.results167 Tryz.results168 Tryz.results169 Tryz.results170 Tryz.results171 Tryz.results172 Tryz.results173 Tryz.results174 Tryz.results175 Tryz.results176 Tryz.results177 Tryz.results178 Tryz.results179 Tryz.results180 Tryz.results181 Tryz.results182 Tryz.results183 Tryz.results184 Tryz.results190 Tryz.results191 Tryz.results192 Tryz.results193 Tryz.results194 Tryz.results195 Tryz.results196 Tryz.results197 Tryz.results198 Tryz.results199 Tryz.results204 Tryz.results205
variable (B : Nat) (hB1 : 67108864 ≤ B) (hB2 : B ≤ 9223372036854775807)
include hB1 hB2
theorem C.f0 (r':T_spec_l17Rd)(n:Int)(r:Int×T_spec_l17Rd)(hF:F.f0 r' n=some r):MutCall Tryz.prog B 30 [.arr (List.map cU r'.f0),.lit (.int .i64 r'.f1)] [.ptr 0 0,.lit (.int .i64 n)] (.lit (.int .i64 r.1)) [.arr (List.map cU r.2.f0),.lit (.int .i64 r.2.f1)]:=by
 unfold F.f0 at hF
 refine MutCall.enter Tryz.func30 (by kernel_rfl) rfl Tryz.ntmps30 (by simp) (by simp) (by simp) (by simp) ?_
 repeat first|refine cg ?_|simp -dsimp
 revert hF;refine abr.ns ?_ ?_<;>intro h1 q2 hF
 ·repeat first|refine cg ?_|simp -dsimp[h1,q2]
  revert hF;refine abr.sp ?_ ?_<;>intro h3 q4 hF
  ·have z5:((r'.f0.length:Int)=0):=auz
   cases hF
   repeat first|refine cg ?_|simp -dsimp[h1,q2,h3,z5]
  ·have z5:¬((r'.f0.length:Int)=0):=auz
   repeat first|refine cg ?_|simp -dsimp[h1,q2,h3,q4,z5]
   revert hF;refine abr.sp ?_ ?_<;>intro h6 q7 hF
   ·have hF:=ob hF;obtain⟨x,e8a,hF⟩:=hF
    have e8a:=at_some e8a;obtain⟨ne8,e8⟩:=e8a
    have le8:=lt_of_get e8
    have hF:=oc hF;obtain⟨c9,hF⟩:=hF
    cases hF
    repeat first|refine cg ?_|simp -dsimp[h1,q2,h3,q4,z5,h6,↓e8]
   ·repeat first|refine cg ?_|simp -dsimp[h1,q2,h3,q4,z5,h6,q7]
    refine ADraw.simple follows (by kernel_rfl) (by kernel_rfl) ?_
    have hF:=oc hF;obtain⟨c10,hF⟩:=hF
    have hF:=ob hF;obtain⟨x11,e12a,hF⟩:=hF
    have e12a:=at_some e12a;obtain⟨ne12,e12⟩:=e12a
    have le12:=lt_of_get e12
    have hF:=ob hF;obtain⟨x13,e14a,hF⟩:=hF
    have e14a:=at_some e14a;obtain⟨ne14,e14⟩:=e14a
    have le14:=lt_of_get e14
    have hF:=oc hF;obtain⟨c15,hF⟩:=hF
    cases hF
    repeat first|refine cg ?_|simp -dsimp[h1,q2,h3,q4,z5,h6,q7,↓e12,↓e14]
 ·cases hF
  repeat first|refine cg ?_|simp -dsimp[h1,q2]
theorem CC.f1 (s:ByteArray)(c':Int):(∀(out:List ByteArray) (from':Nat) (i:Nat) (o:List ByteArray),F.f1 s c' out from' i=some o→∀(c:Code),navO [1,1,1,0,1,0,0] (bodyOf Tryz.f70)=some c→∀(Q:Exit→ASt→Prop),(Q (.exit 0) ⟨[(5,.own 0 (List.length (α:=ByteArray) o))],[.elems 1 (List.map cS o)]⟩)→ALoopU Tryz.prog B 0 36 (hold c .mk) ⟨[(0,.lit (.string s)),(1,.lit (.int .u8 c')),(5,.own 0 (List.length (α:=ByteArray) out)),(6,.lit (.int .i64 (from':Int))),(7,.lit (.int .i64 (i:Int)))],[.elems 1 (List.map cS out)]⟩ (hold Q .mk)):=by
 refine F.f1.partial_correctness s c'
  _
  ?_
 ·intro _f_f1 ih_f1 out from' i o hF
  intro c hc Q hq
  obtain rfl:c=_:=navEq hc rfl
  refine ALoopU.know fun hk hs=> ?_
  have d0:=hs 0 _ rfl
  simp -dsimp[Blk.bnd]at d0
  clear hk hs
  refine ALoopU.enter ?_
  repeat first|refine cg ?_|simp -dsimp
  revert hF;refine abr.sp ?_ ?_<;>intro h1 q2 hF
  ·have z3:((i:Int)≤(s.size:Int)):=auz
   repeat first|refine cg ?_|simp -dsimp[h1,z3]
   revert hF;refine abr.ns ?_ ?_<;>intro h4 q5 hF
   ·have z6:¬((i:Int)=(s.size:Int)):=auz
    have hF:=oc hF;obtain⟨c7,hF⟩:=hF
    repeat first|refine cg ?_|simp -dsimp[h1,z3,h4,q5,z6]
    revert hF;refine abr.sp ?_ ?_<;>intro h8 q9 hF
    ·have hF:=oc hF;obtain⟨c10,hF⟩:=hF
     have hF:=oc hF;obtain⟨c11,hF⟩:=hF
     have hF:=oc hF;obtain⟨c12,hF⟩:=hF
     have w13:IntKind.i64.wrap ((i:Int)+1)=(i:Int)+1:=wrap_in (by omega) (by omega)
     have w14:IntKind.i64.wrap ((i:Int)+1)=(i:Int)+1:=wrap_in (by omega) (by omega)
     repeat first|refine cg ?_|simp -dsimp[h1,z3,h4,q5,z6,h8,w13,w14]
     refine Again.go _ ?_ ((ih_f1 (out++[s.extract from' i]) (i+1) (i+1) o hF) _ rfl _ hq)
     exact(Gh.to3 (by simp) (by first|simp -dsimp[h1,z3,h4,q5,z6,h8,w13,w14];done|simp_all))
    ·have hF:=oc hF;obtain⟨c15,hF⟩:=hF
     have w16:IntKind.i64.wrap ((i:Int)+1)=(i:Int)+1:=wrap_in (by omega) (by omega)
     repeat first|refine cg ?_|simp -dsimp[h1,z3,h4,q5,z6,h8,q9,w16]
     refine Again.go _ ?_ ((ih_f1 out from' (i+1) o hF) _ rfl _ hq)
     exact(Gh.to3 (by simp) (by first|simp -dsimp[h1,z3,h4,q5,z6,h8,q9,w16];done|simp_all))
   ·have z6:((i:Int)=(s.size:Int)):=auz
    have hF:=oc hF;obtain⟨c17,hF⟩:=hF
    have hF:=oc hF;obtain⟨c18,hF⟩:=hF
    have hF:=oc hF;obtain⟨c19,hF⟩:=hF
    have w20:IntKind.i64.wrap ((i:Int)+1)=(i:Int)+1:=wrap_in (by omega) (by omega)
    have w21:IntKind.i64.wrap ((i:Int)+1)=(i:Int)+1:=wrap_in (by omega) (by omega)
    repeat first|refine cg ?_|simp -dsimp[h1,z3,h4,q5,z6,w20,w21]
    refine Again.go _ ?_ ((ih_f1 (out++[s.extract from' i]) (i+1) (i+1) o hF) _ rfl _ hq)
    exact(Gh.to3 (by simp) (by first|simp -dsimp[h1,z3,h4,q5,z6,w20,w21];done|simp_all))
  ·have z3:¬((i:Int)≤(s.size:Int)):=auz
   cases hF
   repeat first|refine cg ?_|simp -dsimp[h1,q2,z3]
   refine Leave.go _ (Gh.to3 (by simp) (by first|simp -dsimp[h1,q2,z3];done|simp_all)) hq
theorem C.f2 (s:ByteArray)(c':Int)(r:List ByteArray)(hF:F.f2 s c'=some r):PureCall Tryz.prog B 70 [.lit (.string s),.lit (.int .u8 c')] (.arr (List.map cS r)):=by
 unfold F.f2 at hF
 refine PureCall.enterLe Tryz.func70 (by kernel_rfl) rfl Tryz.ntmps70 (by simp) (by simp) ?_
 repeat first|refine cg ?_|simp -dsimp
 have hF:=ob hF;obtain⟨o',ho22,hF⟩:=hF
 refine ALoop.goU _ ?_ (((CC.f1 B hB1 hB2 s c') [] 0 0 o' ho22) _ rfl _ ?_)
 ·exact(Gh.to3 (by simp) (by simp -dsimp))
 cases hF
 repeat first|refine cg ?_|simp -dsimp
theorem CC.f3 (names:List ByteArray)(s:ByteArray):(∀(i:Nat) (o:Lo Int Unit),F.f3 names s i=some o→∀(c:Code),navO [1,1,0,1,0,0] (bodyOf Tryz.f163)=some c→∀(Q:Exit→ASt→Prop),o.post (fun r=>∀st,Post Tryz.prog Tryz.f163 (fun r' _=>r'.le (.lit (.int .i64 r))) .ret st→Q .ret st) (fun s=>Q (.exit 0) ⟨[],[]⟩)→ALoopU Tryz.prog B 0 21 (hold c .mk) ⟨[(0,.arr (List.map cS names)),(1,.lit (.string s)),(5,.lit (.int .i64 (i:Int)))],[]⟩ (hold Q .mk)):=by
 refine F.f3.partial_correctness names s
  _
  ?_
 ·intro _f_f3 ih_f3 i o hF
  intro c hc Q hq
  obtain rfl:c=_:=navEq hc rfl
  refine ALoopU.know fun hk hs=> ?_
  have b0:=hk 0
  simp -dsimp at b0
  clear hk hs
  refine ALoopU.enter ?_
  repeat first|refine cg ?_|simp -dsimp
  revert hF;refine abr.sp ?_ ?_<;>intro h3 q4 hF
  ·have z5:((i:Int)<(names.length:Int)):=auz
   have hF:=ob hF;obtain⟨x,e6,hF⟩:=hF
   have le6:=lt_of_get e6
   repeat first|refine cg ?_|simp -dsimp[h3,z5,↓e6]
   revert hF;refine abr.sp ?_ ?_<;>intro h7 q8 hF
   ·cases hF
    repeat first|refine cg ?_|simp -dsimp[h7]
    refine Leave.go _ (Gh.refl _) (hq _ ?_)
    repeat first|refine cg ?_|simp -dsimp
   ·have w9:IntKind.i64.wrap ((i:Int)+1)=(i:Int)+1:=wrap_in (by omega) (by omega)
    repeat first|refine cg ?_|simp -dsimp[q8,w9]
    refine Again.go _ ?_ ((ih_f3 (i+1) o hF) _ rfl _ hq)
    exact(Gh.to3 (by simp) (by simp_all))
  ·have z5:¬((i:Int)<(names.length:Int)):=auz
   cases hF
   repeat first|refine cg ?_|simp -dsimp[h3,q4,z5]
   refine Leave.go _ (Gh.to3 (by simp) (by simp_all)) hq
theorem C.f4 (names:List ByteArray)(s:ByteArray)(r:Int)(hF:F.f4 names s=some r):PureCall Tryz.prog B 163 [.arr (List.map cS names),.lit (.string s)] (.lit (.int .i64 r)):=by
 unfold F.f4 at hF
 refine PureCall.enterLe Tryz.func163 (by kernel_rfl) rfl Tryz.ntmps163 (by simp) (by simp) ?_
 repeat first|refine cg ?_|simp -dsimp
 revert hF;refine abr.sp ?_ ?_<;>intro h1 q2 hF
 ·cases hF
  repeat first|refine cg ?_|simp -dsimp[h1]
 ·repeat first|refine cg ?_|simp -dsimp[q2]
  have hF:=ob hF;obtain⟨o',ho10,hF⟩:=hF
  refine ALoop.goU _ ?_ (((CC.f3 B hB1 hB2 names s) 0 o' ho10) _ rfl _ ?_)
  ·exact(Gh.to3 (by simp) (by simp_all))
  rcases o' with r0|sx
  ·dsimp only at hF
   cases hF
   intro st h
   simpa using h
  ·dsimp only at hF
   cases hF
   repeat first|refine cg ?_|simp -dsimp
theorem C.f5 (names:List ByteArray)(s:ByteArray)(r:Ty)(hF:F.f5 names s=some r):PureCall Tryz.prog B 121 [.arr (List.map cS names),.lit (.string s)] (.agg [.lit (.int .i64 r.data),.lit (.int .i64 r.index)]):=by
 unfold F.f5 at hF
 refine PureCall.enterLe Tryz.func121 (by kernel_rfl) rfl Tryz.ntmps121 (by simp) (by simp) ?_
 repeat first|refine cg ?_|simp -dsimp
 revert hF;refine abr.sp ?_ ?_<;>intro h1 q2 hF
 ·cases hF
  repeat first|refine cg ?_|simp -dsimp[h1]
 ·have hF:=oc hF;obtain⟨c3,hF⟩:=hF
  repeat first|refine cg ?_|simp -dsimp[q2]
  have hF:=ob hF;obtain⟨v,e4,hF⟩:=hF
  refine((C.f4 B hB1 hB2 names (s.extract 0 1) v e4)).goW (by simp_all) (by simp) ?_
  repeat first|refine cg ?_|simp -dsimp
  revert hF;refine abr.sp ?_ ?_<;>intro h5 q6 hF
  ·cases hF
   repeat first|refine cg ?_|simp -dsimp[h5]
  ·repeat first|refine cg ?_|simp -dsimp[q6]
   revert hF;refine abr.sp ?_ ?_<;>intro h7 q8 hF
   ·have z9:((s.size:Int)=2):=auz
    have hF:=oc hF;obtain⟨c10,hF⟩:=hF
    repeat first|refine cg ?_|simp -dsimp[h7,z9]
    revert hF;refine abr.sp ?_ ?_<;>intro h11 q12 hF
    ·have z13:(48≤((byteAt s 1:Nat):Int)):=auz
     repeat first|refine cg ?_|simp -dsimp[h11,z13]
     revert hF;refine abr.sp ?_ ?_<;>intro h14 q15 hF
     ·have z16:(((byteAt s 1:Nat):Int)≤57):=auz
      cases hF
      repeat first|refine cg ?_|simp -dsimp[h14,z16]
     ·have z16:¬(((byteAt s 1:Nat):Int)≤57):=auz
      cases hF
      repeat first|refine cg ?_|simp -dsimp[h14,q15,z16]
    ·have z13:¬(48≤((byteAt s 1:Nat):Int)):=auz
     cases hF
     repeat first|refine cg ?_|simp -dsimp[h11,q12,z13]
   ·have z9:¬((s.size:Int)=2):=auz
    cases hF
    repeat first|refine cg ?_|simp -dsimp[h7,q8,z9]
theorem CC.f6 (names:List ByteArray)(s:ByteArray)(x:ByteArray)(v21:List ByteArray):(∀(out:List Ty) (i:Nat) (o:List Ty),F.f6 names s x v21 out i=some o→∀(c:Code),navO [1,1,1,1,1,1,1,0,1,0,0] (bodyOf Tryz.f71)=some c→∀(Q:Exit→ASt→Prop),(Q (.exit 0) ⟨[(4,.ptr 0 0),(5,.ptr 1 0)],[.cells [.lit (.string ByteArray.empty),.lit (.slice none 0 0),.lit (.int .i64 0)],.cells [.lit (.string x),.own 2 (List.length (α:=Ty) o),.lit (.int .i64 (IntKind.i64.wrap (IntKind.i64.wrap ((byteAt s ((IntKind.i64.wrap ((s.size:Int) -1)).toNat):Nat):Int) -48)))],.elems 2 (List.map Ty.c o)]⟩)→ALoopU Tryz.prog B 0 83 (hold c .mk) ⟨[(0,.arr (List.map cS names)),(4,.ptr 0 0),(5,.ptr 1 0),(7,.arr (List.map cS v21)),(8,.lit (.int .i64 (i:Int)))],[.cells [.lit (.string ByteArray.empty),.lit (.slice none 0 0),.lit (.int .i64 0)],.cells [.lit (.string x),.own 2 (List.length (α:=Ty) out),.lit (.int .i64 (IntKind.i64.wrap (IntKind.i64.wrap ((byteAt s ((IntKind.i64.wrap ((s.size:Int) -1)).toNat):Nat):Int) -48)))],.elems 2 (List.map Ty.c out)]⟩ (hold Q .mk)):=by
 refine F.f6.partial_correctness names s x v21
  _
  ?_
 ·intro _f_f6 ih_f6 out i o hF
  intro c hc Q hq
  obtain rfl:c=_:=navEq hc rfl
  refine ALoopU.know fun hk hs=> ?_
  have b0:=hk 0
  simp -dsimp at b0
  have b7:=hk 7
  simp -dsimp at b7
  have d2:=hs 2 _ rfl
  simp -dsimp[Blk.bnd]at d2
  clear hk hs
  refine ALoopU.enter ?_
  repeat first|refine cg ?_|simp -dsimp
  revert hF;refine abr.sp ?_ ?_<;>intro h23 q24 hF
  ·have z25:((i:Int)<(v21.length:Int)):=auz
   repeat first|refine cg ?_|simp -dsimp[h23,z25]
   revert hF;refine abr.sp ?_ ?_<;>intro h26 q27 hF
   ·have z28:((i:Int)≤3):=auz
    repeat first|refine cg ?_|simp -dsimp[h26,z28]
    refine ADraw.eff [] [(0,1),(0,1),(0,0),(0,0),(0,0),(0,0),(0,0),(0,3),(0,3),(0,3),(2,2),(0,3)] [0,2,1,1,1,1,1,1,1,1,1,1] follows (by kernel_rfl) (by kernel_rfl) (by kernel_rfl) ?_
    have hF:=ob hF;obtain⟨x29,e30,hF⟩:=hF
    have le30:=lt_of_get e30
    repeat first|refine cg ?_|simp -dsimp[↓e30]
    have hF:=ob hF;obtain⟨v31,e32,hF⟩:=hF
    refine((C.f5 B hB1 hB2 names x29 v31 e32)).pgoW (by simp_all) (by simp) ?_
    have hF:=oc hF;obtain⟨c33,hF⟩:=hF
    have w34:IntKind.i64.wrap ((i:Int)+1)=(i:Int)+1:=wrap_in (by omega) (by omega)
    repeat first|refine cg ?_|simp -dsimp[w34]
    refine Again.go _ ?_ ((ih_f6 (out++[v31]) (i+1) o hF) _ rfl _ hq)
    exact(Gh.to3 (by simp) (by simp_all))
   ·have z28:¬((i:Int)≤3):=auz
    cases hF
    repeat first|refine cg ?_|simp -dsimp[h26,q27,z28]
    refine Leave.go _ (Gh.to3 (by simp) (by simp_all)) hq
  ·have z25:¬((i:Int)<(v21.length:Int)):=auz
   cases hF
   repeat first|refine cg ?_|simp -dsimp[h23,q24,z25]
   refine Leave.go _ (Gh.to3 (by simp) (by simp_all)) hq
theorem CC.f7 (names:List ByteArray)(x38:ByteArray)(v49:List ByteArray):(∀(out51:List Ty) (i52:Nat) (o:List Ty),F.f7 names x38 v49 out51 i52=some o→∀(c:Code),navO [1,1,1,1,1,1,1,0,1,0,0] (bodyOf Tryz.f71)=some c→∀(Q:Exit→ASt→Prop),(Q (.exit 0) ⟨[(4,.ptr 0 0),(5,.ptr 1 0)],[.cells [.lit (.string ByteArray.empty),.lit (.slice none 0 0),.lit (.int .i64 0)],.cells [.lit (.string x38),.own 2 (List.length (α:=Ty) o),.lit (.int .i64 0)],.elems 2 (List.map Ty.c o)]⟩)→ALoopU Tryz.prog B 0 83 (hold c .mk) ⟨[(0,.arr (List.map cS names)),(4,.ptr 0 0),(5,.ptr 1 0),(7,.arr (List.map cS v49)),(8,.lit (.int .i64 (i52:Int)))],[.cells [.lit (.string ByteArray.empty),.lit (.slice none 0 0),.lit (.int .i64 0)],.cells [.lit (.string x38),.own 2 (List.length (α:=Ty) out51),.lit (.int .i64 0)],.elems 2 (List.map Ty.c out51)]⟩ (hold Q .mk)):=by
 refine F.f7.partial_correctness names x38 v49
  _
  ?_
 ·intro _f_f7 ih_f7 out51 i52 o hF
  intro c hc Q hq
  obtain rfl:c=_:=navEq hc rfl
  refine ALoopU.know fun hk hs=> ?_
  have b0:=hk 0
  simp -dsimp at b0
  have b7:=hk 7
  simp -dsimp at b7
  have d2:=hs 2 _ rfl
  simp -dsimp[Blk.bnd]at d2
  clear hk hs
  refine ALoopU.enter ?_
  repeat first|refine cg ?_|simp -dsimp
  revert hF;refine abr.sp ?_ ?_<;>intro h53 q54 hF
  ·have z55:((i52:Int)<(v49.length:Int)):=auz
   repeat first|refine cg ?_|simp -dsimp[h53,z55]
   revert hF;refine abr.sp ?_ ?_<;>intro h56 q57 hF
   ·have z58:((i52:Int)≤3):=auz
    repeat first|refine cg ?_|simp -dsimp[h56,z58]
    refine ADraw.eff [] [(0,1),(0,1),(0,0),(0,0),(0,0),(0,0),(0,0),(0,3),(0,3),(0,3),(2,2),(0,3)] [0,2,1,1,1,1,1,1,1,1,1,1] follows (by kernel_rfl) (by kernel_rfl) (by kernel_rfl) ?_
    have hF:=ob hF;obtain⟨x59,e60,hF⟩:=hF
    have le60:=lt_of_get e60
    repeat first|refine cg ?_|simp -dsimp[↓e60]
    have hF:=ob hF;obtain⟨v61,e62,hF⟩:=hF
    refine((C.f5 B hB1 hB2 names x59 v61 e62)).pgoW (by simp_all) (by simp) ?_
    have hF:=oc hF;obtain⟨c63,hF⟩:=hF
    have w64:IntKind.i64.wrap ((i52:Int)+1)=(i52:Int)+1:=wrap_in (by omega) (by omega)
    repeat first|refine cg ?_|simp -dsimp[w64]
    refine Again.go _ ?_ ((ih_f7 (out51++[v61]) (i52+1) o hF) _ rfl _ hq)
    exact(Gh.to3 (by simp) (by simp_all))
   ·have z58:¬((i52:Int)≤3):=auz
    cases hF
    repeat first|refine cg ?_|simp -dsimp[h56,q57,z58]
    refine Leave.go _ (Gh.to3 (by simp) (by simp_all)) hq
  ·have z55:¬((i52:Int)<(v49.length:Int)):=auz
   cases hF
   repeat first|refine cg ?_|simp -dsimp[h53,q54,z55]
   refine Leave.go _ (Gh.to3 (by simp) (by simp_all)) hq
theorem CC.f8 (names:List ByteArray)(x69:ByteArray)(v80:List ByteArray):(∀(out82:List Ty) (i83:Nat) (o:List Ty),F.f8 names x69 v80 out82 i83=some o→∀(c:Code),navO [1,1,1,1,1,1,1,0,1,0,0] (bodyOf Tryz.f71)=some c→∀(Q:Exit→ASt→Prop),(Q (.exit 0) ⟨[(4,.ptr 0 0),(5,.ptr 1 0)],[.cells [.lit (.string ByteArray.empty),.lit (.slice none 0 0),.lit (.int .i64 0)],.cells [.lit (.string x69),.own 2 (List.length (α:=Ty) o),.lit (.int .i64 0)],.elems 2 (List.map Ty.c o)]⟩)→ALoopU Tryz.prog B 0 83 (hold c .mk) ⟨[(0,.arr (List.map cS names)),(4,.ptr 0 0),(5,.ptr 1 0),(7,.arr (List.map cS v80)),(8,.lit (.int .i64 (i83:Int)))],[.cells [.lit (.string ByteArray.empty),.lit (.slice none 0 0),.lit (.int .i64 0)],.cells [.lit (.string x69),.own 2 (List.length (α:=Ty) out82),.lit (.int .i64 0)],.elems 2 (List.map Ty.c out82)]⟩ (hold Q .mk)):=by
 refine F.f8.partial_correctness names x69 v80
  _
  ?_
 ·intro _f_f8 ih_f8 out82 i83 o hF
  intro c hc Q hq
  obtain rfl:c=_:=navEq hc rfl
  refine ALoopU.know fun hk hs=> ?_
  have b0:=hk 0
  simp -dsimp at b0
  have b7:=hk 7
  simp -dsimp at b7
  have d2:=hs 2 _ rfl
  simp -dsimp[Blk.bnd]at d2
  clear hk hs
  refine ALoopU.enter ?_
  repeat first|refine cg ?_|simp -dsimp
  revert hF;refine abr.sp ?_ ?_<;>intro h84 q85 hF
  ·have z86:((i83:Int)<(v80.length:Int)):=auz
   repeat first|refine cg ?_|simp -dsimp[h84,z86]
   revert hF;refine abr.sp ?_ ?_<;>intro h87 q88 hF
   ·have z89:((i83:Int)≤3):=auz
    repeat first|refine cg ?_|simp -dsimp[h87,z89]
    refine ADraw.eff [] [(0,1),(0,1),(0,0),(0,0),(0,0),(0,0),(0,0),(0,3),(0,3),(0,3),(2,2),(0,3)] [0,2,1,1,1,1,1,1,1,1,1,1] follows (by kernel_rfl) (by kernel_rfl) (by kernel_rfl) ?_
    have hF:=ob hF;obtain⟨x90,e91,hF⟩:=hF
    have le91:=lt_of_get e91
    repeat first|refine cg ?_|simp -dsimp[↓e91]
    have hF:=ob hF;obtain⟨v92,e93,hF⟩:=hF
    refine((C.f5 B hB1 hB2 names x90 v92 e93)).pgoW (by simp_all) (by simp) ?_
    have hF:=oc hF;obtain⟨c94,hF⟩:=hF
    have w95:IntKind.i64.wrap ((i83:Int)+1)=(i83:Int)+1:=wrap_in (by omega) (by omega)
    repeat first|refine cg ?_|simp -dsimp[w95]
    refine Again.go _ ?_ ((ih_f8 (out82++[v92]) (i83+1) o hF) _ rfl _ hq)
    exact(Gh.to3 (by simp) (by simp_all))
   ·have z89:¬((i83:Int)≤3):=auz
    cases hF
    repeat first|refine cg ?_|simp -dsimp[h87,q88,z89]
    refine Leave.go _ (Gh.to3 (by simp) (by simp_all)) hq
  ·have z86:¬((i83:Int)<(v80.length:Int)):=auz
   cases hF
   repeat first|refine cg ?_|simp -dsimp[h84,q85,z86]
   refine Leave.go _ (Gh.to3 (by simp) (by simp_all)) hq
theorem C.f9 (names:List ByteArray)(s:ByteArray)(r:Ctor)(hF:F.f9 names s=some r):PureCall Tryz.prog B 71 [.arr (List.map cS names),.lit (.string s)] (.agg [.lit (.string r.name),.arr (List.map Ty.c r.args),.lit (.int .i64 r.index)]):=by
 unfold F.f9 at hF
 refine PureCall.enterLe Tryz.func71 (by kernel_rfl) rfl Tryz.ntmps71 (by simp) (by simp) ?_
 repeat first|refine cg ?_|simp -dsimp
 revert hF;refine abr.sp ?_ ?_<;>intro h1 q2 hF
 ·have z3:(2<(s.size:Int)):=auz
  have hF:=oc hF;obtain⟨c4,hF⟩:=hF
  repeat first|refine cg ?_|simp -dsimp[h1,z3]
  revert hF;refine abr.sp ?_ ?_<;>intro h5 q6 hF
  ·have z7:(((byteAt s ((IntKind.i64.wrap ((s.size:Int) -2)).toNat):Nat):Int)=58):=auz
   have hF:=oc hF;obtain⟨c8,hF⟩:=hF
   have hF:=oc hF;obtain⟨c9,hF⟩:=hF
   repeat first|refine cg ?_|simp -dsimp[h5,z7]
   have hF:=ob hF;obtain⟨v,e10,hF⟩:=hF
   refine((C.f2 B hB1 hB2 (s.extract 0 ((IntKind.i64.wrap ((s.size:Int) -2)).toNat)) 40 v e10)).goW (by simp_all) (by simp) ?_
   have hF:=ob hF;obtain⟨x,e11,hF⟩:=hF
   have le11:=lt_of_get e11
   repeat first|refine cg ?_|simp -dsimp[↓e11]
   revert hF;refine abr.ns ?_ ?_<;>intro h12 q13 hF
   ·have z14:¬((v.length:Int)<2):=auz
    have hF:=ob hF;obtain⟨x15,e16,hF⟩:=hF
    have le16:=lt_of_get e16
    repeat first|refine cg ?_|simp -dsimp[↓e11,h12,q13,z14,↓e16]
    revert hF;refine abr.sp ?_ ?_<;>intro h17 q18 hF
    ·have z19:((x15.size:Int)=0):=auz
     cases hF
     repeat first|refine cg ?_|simp -dsimp[↓e11,↓e16,h17,z19]
    ·have z19:¬((x15.size:Int)=0):=auz
     repeat first|refine cg ?_|simp -dsimp[↓e11,↓e16,h17,q18,z19]
     refine ADraw.simple follows (by kernel_rfl) (by kernel_rfl) ?_
     have hF:=oc hF;obtain⟨c20,hF⟩:=hF
     repeat first|refine cg ?_|simp -dsimp[↓e11,↓e16]
     have hF:=ob hF;obtain⟨v21,e22,hF⟩:=hF
     refine((C.f2 B hB1 hB2 (x15.extract 0 ((IntKind.i64.wrap ((x15.size:Int) -1)).toNat)) 44 v21 e22)).pgoW (by simp_all) (by simp) ?_
     repeat first|refine cg ?_|simp -dsimp[↓e11,↓e16]
     have hF:=ob hF;obtain⟨o',ho35,hF⟩:=hF
     refine ALoop.goU ⟨[(0,.arr (List.map cS names)),(4,.ptr 0 0),(5,.ptr 1 0),(7,.arr (List.map cS v21)),(8,.lit (.int .i64 0))],[.cells [.lit (.string ByteArray.empty),.lit (.slice none 0 0),.lit (.int .i64 0)],.cells [.lit (.string x),.own 2 (List.length (α:=Ty) []),.lit (.int .i64 (IntKind.i64.wrap (IntKind.i64.wrap ((byteAt s ((IntKind.i64.wrap ((s.size:Int) -1)).toNat):Nat):Int) -48)))],.elems 2 (List.map Ty.c [])]⟩ (by refine Gh.trans (Gh.nilCell 1 1 2 (by simp -dsimp;rfl) (by simp -dsimp)) ?_;exact(Gh.to3 (by simp) (by simp_all))) ?_
     refine((CC.f6 B hB1 hB2 names s x v21) [] 0 o' ho35) _ rfl _ ?_
     cases hF
     repeat first|refine cg ?_|simp -dsimp
   ·have z14:((v.length:Int)<2):=auz
    cases hF
    repeat first|refine cg ?_|simp -dsimp[↓e11,h12,q13,z14]
  ·have z7:¬(((byteAt s ((IntKind.i64.wrap ((s.size:Int) -2)).toNat):Nat):Int)=58):=auz
   repeat first|refine cg ?_|simp -dsimp[h5,q6,z7]
   have hF:=ob hF;obtain⟨v36,e37,hF⟩:=hF
   refine((C.f2 B hB1 hB2 s 40 v36 e37)).goW (by simp_all) (by simp) ?_
   have hF:=ob hF;obtain⟨x38,e39,hF⟩:=hF
   have le39:=lt_of_get e39
   repeat first|refine cg ?_|simp -dsimp[↓e39]
   revert hF;refine abr.ns ?_ ?_<;>intro h40 q41 hF
   ·have z42:¬((v36.length:Int)<2):=auz
    have hF:=ob hF;obtain⟨x43,e44,hF⟩:=hF
    have le44:=lt_of_get e44
    repeat first|refine cg ?_|simp -dsimp[↓e39,h40,q41,z42,↓e44]
    revert hF;refine abr.sp ?_ ?_<;>intro h45 q46 hF
    ·have z47:((x43.size:Int)=0):=auz
     cases hF
     repeat first|refine cg ?_|simp -dsimp[↓e39,↓e44,h45,z47]
    ·have z47:¬((x43.size:Int)=0):=auz
     repeat first|refine cg ?_|simp -dsimp[↓e39,↓e44,h45,q46,z47]
     refine ADraw.simple follows (by kernel_rfl) (by kernel_rfl) ?_
     have hF:=oc hF;obtain⟨c48,hF⟩:=hF
     repeat first|refine cg ?_|simp -dsimp[↓e39,↓e44]
     have hF:=ob hF;obtain⟨v49,e50,hF⟩:=hF
     refine((C.f2 B hB1 hB2 (x43.extract 0 ((IntKind.i64.wrap ((x43.size:Int) -1)).toNat)) 44 v49 e50)).pgoW (by simp_all) (by simp) ?_
     repeat first|refine cg ?_|simp -dsimp[↓e39,↓e44]
     have hF:=ob hF;obtain⟨o'66,ho65,hF⟩:=hF
     refine ALoop.goU ⟨[(0,.arr (List.map cS names)),(4,.ptr 0 0),(5,.ptr 1 0),(7,.arr (List.map cS v49)),(8,.lit (.int .i64 0))],[.cells [.lit (.string ByteArray.empty),.lit (.slice none 0 0),.lit (.int .i64 0)],.cells [.lit (.string x38),.own 2 (List.length (α:=Ty) []),.lit (.int .i64 0)],.elems 2 (List.map Ty.c [])]⟩ (by refine Gh.trans (Gh.nilCell 1 1 2 (by simp -dsimp;rfl) (by simp -dsimp)) ?_;exact(Gh.to3 (by simp) (by simp_all))) ?_
     refine((CC.f7 B hB1 hB2 names x38 v49) [] 0 o'66 ho65) _ rfl _ ?_
     cases hF
     repeat first|refine cg ?_|simp -dsimp
   ·have z42:((v36.length:Int)<2):=auz
    cases hF
    repeat first|refine cg ?_|simp -dsimp[↓e39,h40,q41,z42]
 ·have z3:¬(2<(s.size:Int)):=auz
  repeat first|refine cg ?_|simp -dsimp[h1,q2,z3]
  have hF:=ob hF;obtain⟨v67,e68,hF⟩:=hF
  refine((C.f2 B hB1 hB2 s 40 v67 e68)).goW (by simp_all) (by simp) ?_
  have hF:=ob hF;obtain⟨x69,e70,hF⟩:=hF
  have le70:=lt_of_get e70
  repeat first|refine cg ?_|simp -dsimp[↓e70]
  revert hF;refine abr.ns ?_ ?_<;>intro h71 q72 hF
  ·have z73:¬((v67.length:Int)<2):=auz
   have hF:=ob hF;obtain⟨x74,e75,hF⟩:=hF
   have le75:=lt_of_get e75
   repeat first|refine cg ?_|simp -dsimp[↓e70,h71,q72,z73,↓e75]
   revert hF;refine abr.sp ?_ ?_<;>intro h76 q77 hF
   ·have z78:((x74.size:Int)=0):=auz
    cases hF
    repeat first|refine cg ?_|simp -dsimp[↓e70,↓e75,h76,z78]
   ·have z78:¬((x74.size:Int)=0):=auz
    repeat first|refine cg ?_|simp -dsimp[↓e70,↓e75,h76,q77,z78]
    refine ADraw.simple follows (by kernel_rfl) (by kernel_rfl) ?_
    have hF:=oc hF;obtain⟨c79,hF⟩:=hF
    repeat first|refine cg ?_|simp -dsimp[↓e70,↓e75]
    have hF:=ob hF;obtain⟨v80,e81,hF⟩:=hF
    refine((C.f2 B hB1 hB2 (x74.extract 0 ((IntKind.i64.wrap ((x74.size:Int) -1)).toNat)) 44 v80 e81)).pgoW (by simp_all) (by simp) ?_
    repeat first|refine cg ?_|simp -dsimp[↓e70,↓e75]
    have hF:=ob hF;obtain⟨o'97,ho96,hF⟩:=hF
    refine ALoop.goU ⟨[(0,.arr (List.map cS names)),(4,.ptr 0 0),(5,.ptr 1 0),(7,.arr (List.map cS v80)),(8,.lit (.int .i64 0))],[.cells [.lit (.string ByteArray.empty),.lit (.slice none 0 0),.lit (.int .i64 0)],.cells [.lit (.string x69),.own 2 (List.length (α:=Ty) []),.lit (.int .i64 0)],.elems 2 (List.map Ty.c [])]⟩ (by refine Gh.trans (Gh.nilCell 1 1 2 (by simp -dsimp;rfl) (by simp -dsimp)) ?_;exact(Gh.to3 (by simp) (by simp_all))) ?_
    refine((CC.f8 B hB1 hB2 names x69 v80) [] 0 o'97 ho96) _ rfl _ ?_
    cases hF
    repeat first|refine cg ?_|simp -dsimp
  ·have z73:((v67.length:Int)<2):=auz
   cases hF
   repeat first|refine cg ?_|simp -dsimp[↓e70,h71,q72,z73]
theorem C.f10 (c':Int)(r:Bool)(hF:F.f10 c'=some r):PureCall Tryz.prog B 164 [.lit (.int .u8 c')] (.lit (.bool r)):=by
 unfold F.f10 at hF
 refine PureCall.enterLe Tryz.func164 (by kernel_rfl) rfl Tryz.ntmps164 (by simp) (by simp) ?_
 repeat first|refine cg ?_|simp -dsimp
 revert hF;refine abr.sp ?_ ?_<;>intro h1 q2 hF
 ·cases hF
  repeat first|refine cg ?_|simp -dsimp[h1]
 ·cases hF
  repeat first|refine cg ?_|simp -dsimp[q2]
theorem C.f11 (s:ByteArray)(r:Bool)(hF:F.f11 s=some r):PureCall Tryz.prog B 122 [.lit (.string s)] (.lit (.bool r)):=by
 unfold F.f11 at hF
 refine PureCall.enterLe Tryz.func122 (by kernel_rfl) rfl Tryz.ntmps122 (by simp) (by simp) ?_
 repeat first|refine cg ?_|simp -dsimp
 revert hF;refine abr.sp ?_ ?_<;>intro h1 q2 hF
 ·have z3:((s.size:Int)=1):=auz
  have hF:=oc hF;obtain⟨c4,hF⟩:=hF
  repeat first|refine cg ?_|simp -dsimp[h1,z3]
  have hF:=ob hF;obtain⟨v,e5,hF⟩:=hF
  refine((C.f10 B hB1 hB2 ((byteAt s 0:Nat):Int) v e5)).goW (by simp[h1,z3]) (by simp) ?_
  repeat first|refine cg ?_|simp -dsimp[h1,z3]
  revert hF;refine abr.sp (fun h6 q7 hF=> ?_) (fun h6 q7 hF=> ?_)
  ·cases hF
   repeat first|refine cg ?_|simp -dsimp[h1,z3,h6]
  ·cases hF
   repeat first|refine cg ?_|simp -dsimp[h1,z3,h6,q7]
 ·have z3:¬((s.size:Int)=1):=auz
  cases hF
  repeat first|refine cg ?_|simp -dsimp[h1,q2,z3]
theorem CC.f12 (s:ByteArray):(∀(i:Nat) (o:Lo Bool Unit),F.f12 s i=some o→∀(c:Code),navO [1,1,0,1,0,0] (bodyOf Tryz.f165)=some c→∀(Q:Exit→ASt→Prop),o.post (fun r=>∀st,Post Tryz.prog Tryz.f165 (fun r' _=>r'.le (.lit (.bool r))) .ret st→Q .ret st) (fun s=>Q (.exit 0) ⟨[],[]⟩)→ALoopU Tryz.prog B 0 34 (hold c .mk) ⟨[(0,.lit (.string s)),(3,.lit (.int .i64 (i:Int)))],[]⟩ (hold Q .mk)):=by
 refine F.f12.partial_correctness s
  _
  ?_
 ·intro _f_f12 ih_f12 i o hF
  intro c hc Q hq
  obtain rfl:c=_:=navEq hc rfl
  refine ALoopU.know fun hk hs=> ?_
  clear hk hs
  refine ALoopU.enter ?_
  repeat first|refine cg ?_|simp -dsimp
  revert hF;refine abr.sp ?_ ?_<;>intro h11 q12 hF
  ·have z13:((i:Int)<(s.size:Int)):=auz
   repeat first|refine cg ?_|simp -dsimp[h11,z13]
   revert hF;refine abr.ns ?_ ?_<;>intro h14 q15 hF
   ·have z16:¬(((byteAt s i:Nat):Int)<97):=auz
    repeat first|refine cg ?_|simp -dsimp[h11,z13,h14,q15,z16]
    revert hF;refine abr.sp ?_ ?_<;>intro h17 q18 hF
    ·have z19:(122<((byteAt s i:Nat):Int)):=auz
     cases hF
     repeat first|refine cg ?_|simp -dsimp[h11,z13,h14,q15,z16,h17,z19]
     refine Leave.go _ (Gh.refl _) (hq _ ?_)
     repeat first|refine cg ?_|simp -dsimp[h11,z13,h14,q15,z16,h17,z19]
    ·have z19:¬(122<((byteAt s i:Nat):Int)):=auz
     have hF:=oc hF;obtain⟨c20,hF⟩:=hF
     have w21:IntKind.i64.wrap ((i:Int)+1)=(i:Int)+1:=wrap_in (by omega) (by omega)
     repeat first|refine cg ?_|simp -dsimp[h11,z13,h14,q15,z16,h17,q18,z19,w21]
     refine Again.go _ ?_ ((ih_f12 (i+1) o hF) _ rfl _ hq)
     exact(Gh.to3 (by simp) (by simp -dsimp[h11,z13,h14,q15,z16,h17,q18,z19,w21]))
   ·have z16:(((byteAt s i:Nat):Int)<97):=auz
    cases hF
    repeat first|refine cg ?_|simp -dsimp[h11,z13,h14,q15,z16]
    refine Leave.go _ (Gh.refl _) (hq _ ?_)
    repeat first|refine cg ?_|simp -dsimp[h11,z13,h14,q15,z16]
  ·have z13:¬((i:Int)<(s.size:Int)):=auz
   cases hF
   repeat first|refine cg ?_|simp -dsimp[h11,q12,z13]
   refine Leave.go _ (Gh.to3 (by simp) (by simp -dsimp[h11,q12,z13])) hq
theorem C.f13 (s:ByteArray)(r:Bool)(hF:F.f13 s=some r):PureCall Tryz.prog B 165 [.lit (.string s)] (.lit (.bool r)):=by
 unfold F.f13 at hF
 refine PureCall.enterLe Tryz.func165 (by kernel_rfl) rfl Tryz.ntmps165 (by simp) (by simp) ?_
 repeat first|refine cg ?_|simp -dsimp
 revert hF;refine abr.ns ?_ ?_<;>intro h1 q2 hF
 ·have z3:¬((s.size:Int)=0):=auz
  repeat first|refine cg ?_|simp -dsimp[h1,q2,z3]
  revert hF;refine abr.ns ?_ ?_<;>intro h4 q5 hF
  ·have z6:¬(5<(s.size:Int)):=auz
   have hF:=oc hF;obtain⟨c7,hF⟩:=hF
   repeat first|refine cg ?_|simp -dsimp[h1,q2,z3,h4,q5,z6]
   have hF:=ob hF;obtain⟨v,e8,hF⟩:=hF
   refine((C.f10 B hB1 hB2 ((byteAt s 0:Nat):Int) v e8)).goW (by simp[h1,q2,z3,h4,q5,z6]) (by simp) ?_
   repeat first|refine cg ?_|simp -dsimp[h1,q2,z3,h4,q5,z6]
   revert hF;refine abr.ns (fun h9 q10 hF=> ?_) (fun h9 q10 hF=> ?_)
   ·cases hF
    repeat first|refine cg ?_|simp -dsimp[h1,q2,z3,h4,q5,z6,h9,q10]
   ·repeat first|refine cg ?_|simp -dsimp[h1,q2,z3,h4,q5,z6,h9,q10]
    have hF:=ob hF;obtain⟨o',ho22,hF⟩:=hF
    refine ALoop.goU _ ?_ (((CC.f12 B hB1 hB2 s) 1 o' ho22) _ rfl _ ?_)
    ·exact(Gh.to3 (by simp) (by simp -dsimp[h1,q2,z3,h4,q5,z6,h9,q10]))
    rcases o' with r0|sx
    ·dsimp only at hF
     cases hF
     intro st h
     simpa using h
    ·dsimp only at hF
     cases hF
     repeat first|refine cg ?_|simp -dsimp
  ·have z6:(5<(s.size:Int)):=auz
   cases hF
   repeat first|refine cg ?_|simp -dsimp[h1,q2,z3,h4,q5,z6]
 ·have z3:((s.size:Int)=0):=auz
  cases hF
  repeat first|refine cg ?_|simp -dsimp[h1,q2,z3]
theorem C.f14 (n:Int)(t:Ty)(r:Bool)(hF:F.f14 n t=some r):PureCall Tryz.prog B 166 [.lit (.int .i64 n),.agg [.lit (.int .i64 t.data),.lit (.int .i64 t.index)]] (.lit (.bool r)):=by
 unfold F.f14 at hF
 refine PureCall.enterLe Tryz.func166 (by kernel_rfl) rfl Tryz.ntmps166 (by simp) (by simp) ?_
 repeat first|refine cg ?_|simp -dsimp
 revert hF;refine abr.sp ?_ ?_<;>intro h1 q2 hF
 ·cases hF
  repeat first|refine cg ?_|simp -dsimp[h1]
 ·repeat first|refine cg ?_|simp -dsimp[q2]
  revert hF;refine abr.sp ?_ ?_<;>intro h3 q4 hF
  ·repeat first|refine cg ?_|simp -dsimp[h3]
   revert hF;refine abr.sp ?_ ?_<;>intro h5 q6 hF
   ·repeat first|refine cg ?_|simp -dsimp[h5]
    revert hF;refine abr.sp ?_ ?_<;>intro h7 q8 hF
    ·cases hF
     repeat first|refine cg ?_|simp -dsimp[h7]
    ·cases hF
     repeat first|refine cg ?_|simp -dsimp[q8]
   ·cases hF
    repeat first|refine cg ?_|simp -dsimp[q6]
  ·cases hF
   repeat first|refine cg ?_|simp -dsimp[q4]
theorem CC.f15 (n:Int)(c':Ctor):(∀(i:Nat) (o:Lo Bool Unit),F.f15 n c' i=some o→∀(c:Code),navO [1,1,0,1,0,0] (bodyOf Tryz.f123)=some c→∀(Q:Exit→ASt→Prop),o.post (fun r=>∀st,Post Tryz.prog Tryz.f123 (fun r' _=>r'.le (.lit (.bool r))) .ret st→Q .ret st) (fun s=>Q (.exit 0) ⟨[],[]⟩)→ALoopU Tryz.prog B 0 41 (hold c .mk) ⟨[(0,.lit (.int .i64 n)),(3,.ptr 0 0),(5,.lit (.int .i64 (i:Int)))],[.cells [.lit (.string c'.name),.arr (List.map Ty.c c'.args),.lit (.int .i64 c'.index)]]⟩ (hold Q .mk)):=by
 refine F.f15.partial_correctness n c'
  _
  ?_
 ·intro _f_f15 ih_f15 i o hF
  intro c hc Q hq
  obtain rfl:c=_:=navEq hc rfl
  refine ALoopU.know fun hk hs=> ?_
  have d0:=hs 0 _ rfl
  simp -dsimp[Blk.bnd]at d0
  clear hk hs
  refine ALoopU.enter ?_
  repeat first|refine cg ?_|simp -dsimp
  revert hF;refine abr.sp ?_ ?_<;>intro h11 q12 hF
  ·have z13:((i:Int)<(c'.args.length:Int)):=auz
   have hF:=ob hF;obtain⟨x,e14,hF⟩:=hF
   have le14:=lt_of_get e14
   repeat first|refine cg ?_|simp -dsimp[h11,z13,↓e14]
   have hF:=ob hF;obtain⟨v15,e16,hF⟩:=hF
   refine((C.f14 B hB1 hB2 n x v15 e16)).goW (by simp_all) (by simp) ?_
   repeat first|refine cg ?_|simp -dsimp
   revert hF;refine abr.ns (fun h17 q18 hF=> ?_) (fun h17 q18 hF=> ?_)
   ·cases hF
    repeat first|refine cg ?_|simp -dsimp[h17,q18]
    refine Leave.go _ (Gh.refl _) (hq _ ?_)
    repeat first|refine cg ?_|simp -dsimp
   ·have w19:IntKind.i64.wrap ((i:Int)+1)=(i:Int)+1:=wrap_in (by omega) (by omega)
    repeat first|refine cg ?_|simp -dsimp[w19]
    refine Again.go _ ?_ ((ih_f15 (i+1) o hF) _ rfl _ hq)
    exact(Gh.to3 (by simp) (by simp_all))
  ·have z13:¬((i:Int)<(c'.args.length:Int)):=auz
   cases hF
   repeat first|refine cg ?_|simp -dsimp[h11,q12,z13]
   refine Leave.go _ (Gh.to3 (by simp) (by simp_all)) hq
theorem C.f16 (n:Int)(c':Ctor)(r:Bool)(hF:F.f16 n c'=some r):PureCall Tryz.prog B 123 [.lit (.int .i64 n),.agg [.lit (.string c'.name),.arr (List.map Ty.c c'.args),.lit (.int .i64 c'.index)]] (.lit (.bool r)):=by
 unfold F.f16 at hF
 refine PureCall.enterLe Tryz.func123 (by kernel_rfl) rfl Tryz.ntmps123 (by simp) (by simp) ?_
 repeat first|refine cg ?_|simp -dsimp
 have hF:=ob hF;obtain⟨v,e1,hF⟩:=hF
 refine((C.f13 B hB1 hB2 c'.name v e1)).goW (by simp) (by simp) ?_
 repeat first|refine cg ?_|simp -dsimp
 revert hF;refine abr.sp (fun h2 q3 hF=> ?_) (fun h2 q3 hF=> ?_)
 ·repeat first|refine cg ?_|simp -dsimp[h2]
  revert hF;refine abr.ns ?_ ?_<;>intro h4 q5 hF
  ·have z6:¬(3<(c'.args.length:Int)):=auz
   repeat first|refine cg ?_|simp -dsimp[h2,h4,q5,z6]
   revert hF;refine abr.ns ?_ ?_<;>intro h7 q8 hF
   ·repeat first|refine cg ?_|simp -dsimp[h2,h4,q5,z6,h7,q8]
    revert hF;refine abr.sp ?_ ?_<;>intro h9 q10 hF
    ·cases hF
     repeat first|refine cg ?_|simp -dsimp[h2,h4,q5,z6,h7,q8,h9]
    ·repeat first|refine cg ?_|simp -dsimp[h2,h4,q5,z6,h7,q8,h9,q10]
     have hF:=ob hF;obtain⟨o',ho20,hF⟩:=hF
     refine ALoop.goU _ ?_ (((CC.f15 B hB1 hB2 n c') 0 o' ho20) _ rfl _ ?_)
     ·exact(Gh.to3 (by simp) (by simp -dsimp[h2,h4,q5,z6,h7,q8,h9,q10]))
     rcases o' with r0|sx
     ·dsimp only at hF
      cases hF
      intro st h
      simpa using h
     ·dsimp only at hF
      cases hF
      repeat first|refine cg ?_|simp -dsimp
   ·cases hF
    repeat first|refine cg ?_|simp -dsimp[h2,h4,q5,z6,h7,q8]
  ·have z6:(3<(c'.args.length:Int)):=auz
   cases hF
   repeat first|refine cg ?_|simp -dsimp[h2,h4,q5,z6]
 ·cases hF
  repeat first|refine cg ?_|simp -dsimp[h2,q3]
theorem CC.f17 (w:List Vl.Data)(d:Int)(k:Int)(i:Nat):(∀(j:Nat) (o:Lo Bool Unit),F.f17 w d k i j=some o→∀(c:Code),navO [1,0,1,0,0,1,0,0,1,1,0,0] (bodyOf Tryz.f124)=some c→∀(Q:Exit→ASt→Prop),o.post (fun r=>∀st,Post Tryz.prog Tryz.f124 (fun r' _=>r'.le (.lit (.bool r))) .ret st→Q .ret st) (fun s=>Q (.exit 2) ⟨[(0,.arr (List.map Vl.Data.c w)),(1,.lit (.int .i64 d)),(2,.lit (.int .i64 k)),(7,.lit (.int .i64 (i:Int)))],[]⟩)→ALoopU Tryz.prog B 0 79 (hold c .mk) ⟨[(0,.arr (List.map Vl.Data.c w)),(1,.lit (.int .i64 d)),(2,.lit (.int .i64 k)),(7,.lit (.int .i64 (i:Int))),(8,.lit (.int .i64 (j:Int)))],[]⟩ (hold Q .mk)):=by
 refine F.f17.partial_correctness w d k i
  _
  ?_
 ·intro _f_f17 ih_f17 j o hF
  intro c hc Q hq
  obtain rfl:c=_:=navEq hc rfl
  refine ALoopU.know fun hk hs=> ?_
  have b0:=hk 0
  simp -dsimp at b0
  clear hk hs
  refine ALoopU.enter ?_
  have hF:=ob hF;obtain⟨x10,e11,hF⟩:=hF
  have le11:=lt_of_get e11
  repeat first|refine cg ?_|simp -dsimp[↓e11]
  revert hF;refine abr.sp ?_ ?_<;>intro h12 q13 hF
  ·have z14:((j:Int)<(x10.ctors.length:Int)):=auz
   repeat first|refine cg ?_|simp -dsimp[↓e11,h12,z14]
   revert hF;refine abr.ns ?_ ?_<;>intro h15 q16 hF
   ·repeat first|refine cg ?_|simp -dsimp[↓e11,h12,z14,h15,q16]
    revert hF;refine abr.sp ?_ ?_<;>intro h17 q18 hF
    ·repeat first|refine cg ?_|simp -dsimp[↓e11,h12,z14,h15,q16,h17]
     refine ADraw.simple follows (by kernel_rfl) (by kernel_rfl) ?_
     have hF:=ob hF;obtain⟨x19,e20a,hF⟩:=hF
     have e20a:=at_some e20a;obtain⟨ne20,e20⟩:=e20a
     have le20:=lt_of_get e20
     repeat first|refine cg ?_|simp -dsimp[↓e11,h12,z14,h15,q16,h17,↓e20]
     revert hF;refine abr.sp ?_ ?_<;>intro h21 q22 hF
     ·have hF:=ob hF;obtain⟨x23,e24,hF⟩:=hF
      have le24:=lt_of_get e24
      have hF:=ob hF;obtain⟨x25,e26a,hF⟩:=hF
      have e26a:=at_some e26a;obtain⟨ne26,e26⟩:=e26a
      have le26:=lt_of_get e26
      repeat first|refine cg ?_|simp -dsimp[↓e11,h12,z14,h15,q16,h17,↓e20,h21,↓e24,↓e26]
      revert hF;refine abr.sp ?_ ?_<;>intro h27 q28 hF
      ·cases hF
       repeat first|refine cg ?_|simp -dsimp[↓e11,h12,z14,h15,q16,h17,↓e20,h21,↓e24,↓e26,h27]
       refine Leave.go _ (Gh.refl _) (hq _ ?_)
       repeat first|refine cg ?_|simp -dsimp[↓e11,h12,z14,h15,q16,h17,↓e20,h21,↓e24,↓e26,h27]
      ·have hF:=oc hF;obtain⟨c29,hF⟩:=hF
       have w30:IntKind.i64.wrap ((j:Int)+1)=(j:Int)+1:=wrap_in (by omega) (by omega)
       repeat first|refine cg ?_|simp -dsimp[↓e11,h12,z14,h15,q16,h17,↓e20,h21,↓e24,↓e26,h27,q28,w30]
       refine Again.go _ ?_ ((ih_f17 (j+1) o hF) _ rfl _ hq)
       exact(Gh.to3 (by simp) (by simp -dsimp[↓e11,h12,z14,h15,q16,h17,↓e20,h21,↓e24,↓e26,h27,q28,w30]))
     ·have hF:=oc hF;obtain⟨c31,hF⟩:=hF
      have w32:IntKind.i64.wrap ((j:Int)+1)=(j:Int)+1:=wrap_in (by omega) (by omega)
      repeat first|refine cg ?_|simp -dsimp[↓e11,h12,z14,h15,q16,h17,↓e20,h21,q22,w32]
      refine Again.go _ ?_ ((ih_f17 (j+1) o hF) _ rfl _ hq)
      exact(Gh.to3 (by simp) (by simp -dsimp[↓e11,h12,z14,h15,q16,h17,↓e20,h21,q22,w32]))
    ·cases hF
     repeat first|refine cg ?_|simp -dsimp[↓e11,h12,z14,h15,q16,h17,q18]
     refine Leave.go _ (Gh.to3 (by simp) (by simp -dsimp[↓e11,h12,z14,h15,q16,h17,q18])) hq
   ·repeat first|refine cg ?_|simp -dsimp[↓e11,h12,z14,h15,q16]
    refine ADraw.simple follows (by kernel_rfl) (by kernel_rfl) ?_
    have hF:=ob hF;obtain⟨x33,e34a,hF⟩:=hF
    have e34a:=at_some e34a;obtain⟨ne34,e34⟩:=e34a
    have le34:=lt_of_get e34
    repeat first|refine cg ?_|simp -dsimp[↓e11,h12,z14,h15,q16,↓e34]
    revert hF;refine abr.sp ?_ ?_<;>intro h35 q36 hF
    ·have hF:=ob hF;obtain⟨x37,e38,hF⟩:=hF
     have le38:=lt_of_get e38
     have hF:=ob hF;obtain⟨x39,e40a,hF⟩:=hF
     have e40a:=at_some e40a;obtain⟨ne40,e40⟩:=e40a
     have le40:=lt_of_get e40
     repeat first|refine cg ?_|simp -dsimp[↓e11,h12,z14,h15,q16,↓e34,h35,↓e38,↓e40]
     revert hF;refine abr.sp ?_ ?_<;>intro h41 q42 hF
     ·cases hF
      repeat first|refine cg ?_|simp -dsimp[↓e11,h12,z14,h15,q16,↓e34,h35,↓e38,↓e40,h41]
      refine Leave.go _ (Gh.refl _) (hq _ ?_)
      repeat first|refine cg ?_|simp -dsimp[↓e11,h12,z14,h15,q16,↓e34,h35,↓e38,↓e40,h41]
     ·have hF:=oc hF;obtain⟨c43,hF⟩:=hF
      have w44:IntKind.i64.wrap ((j:Int)+1)=(j:Int)+1:=wrap_in (by omega) (by omega)
      repeat first|refine cg ?_|simp -dsimp[↓e11,h12,z14,h15,q16,↓e34,h35,↓e38,↓e40,h41,q42,w44]
      refine Again.go _ ?_ ((ih_f17 (j+1) o hF) _ rfl _ hq)
      exact(Gh.to3 (by simp) (by simp -dsimp[↓e11,h12,z14,h15,q16,↓e34,h35,↓e38,↓e40,h41,q42,w44]))
    ·have hF:=oc hF;obtain⟨c45,hF⟩:=hF
     have w46:IntKind.i64.wrap ((j:Int)+1)=(j:Int)+1:=wrap_in (by omega) (by omega)
     repeat first|refine cg ?_|simp -dsimp[↓e11,h12,z14,h15,q16,↓e34,h35,q36,w46]
     refine Again.go _ ?_ ((ih_f17 (j+1) o hF) _ rfl _ hq)
     exact(Gh.to3 (by simp) (by simp -dsimp[↓e11,h12,z14,h15,q16,↓e34,h35,q36,w46]))
  ·have z14:¬((j:Int)<(x10.ctors.length:Int)):=auz
   cases hF
   repeat first|refine cg ?_|simp -dsimp[↓e11,h12,q13,z14]
   refine Leave.go _ (Gh.to3 (by simp) (by simp -dsimp[↓e11,h12,q13,z14])) hq
theorem CC.f18 (w:List Vl.Data)(d:Int)(k:Int)(i:Nat):(∀(j50:Nat) (o:Lo Bool Unit),F.f18 w d k i j50=some o→∀(c:Code),navO [1,0,1,0,0,1,0,0,1,1,0,0] (bodyOf Tryz.f124)=some c→∀(Q:Exit→ASt→Prop),o.post (fun r=>∀st,Post Tryz.prog Tryz.f124 (fun r' _=>r'.le (.lit (.bool r))) .ret st→Q .ret st) (fun s=>Q (.exit 2) ⟨[(0,.arr (List.map Vl.Data.c w)),(1,.lit (.int .i64 d)),(2,.lit (.int .i64 k)),(7,.lit (.int .i64 (i:Int)))],[]⟩)→ALoopU Tryz.prog B 0 79 (hold c .mk) ⟨[(0,.arr (List.map Vl.Data.c w)),(1,.lit (.int .i64 d)),(2,.lit (.int .i64 k)),(7,.lit (.int .i64 (i:Int))),(8,.lit (.int .i64 (j50:Int)))],[]⟩ (hold Q .mk)):=by
 refine F.f18.partial_correctness w d k i
  _
  ?_
 ·intro _f_f18 ih_f18 j50 o hF
  intro c hc Q hq
  obtain rfl:c=_:=navEq hc rfl
  refine ALoopU.know fun hk hs=> ?_
  have b0:=hk 0
  simp -dsimp at b0
  clear hk hs
  refine ALoopU.enter ?_
  have hF:=ob hF;obtain⟨x51,e52,hF⟩:=hF
  have le52:=lt_of_get e52
  repeat first|refine cg ?_|simp -dsimp[↓e52]
  revert hF;refine abr.sp ?_ ?_<;>intro h53 q54 hF
  ·have z55:((j50:Int)<(x51.ctors.length:Int)):=auz
   repeat first|refine cg ?_|simp -dsimp[↓e52,h53,z55]
   revert hF;refine abr.ns ?_ ?_<;>intro h56 q57 hF
   ·repeat first|refine cg ?_|simp -dsimp[↓e52,h53,z55,h56,q57]
    revert hF;refine abr.sp ?_ ?_<;>intro h58 q59 hF
    ·repeat first|refine cg ?_|simp -dsimp[↓e52,h53,z55,h56,q57,h58]
     refine ADraw.simple follows (by kernel_rfl) (by kernel_rfl) ?_
     have hF:=ob hF;obtain⟨x60,e61a,hF⟩:=hF
     have e61a:=at_some e61a;obtain⟨ne61,e61⟩:=e61a
     have le61:=lt_of_get e61
     repeat first|refine cg ?_|simp -dsimp[↓e52,h53,z55,h56,q57,h58,↓e61]
     revert hF;refine abr.sp ?_ ?_<;>intro h62 q63 hF
     ·have hF:=ob hF;obtain⟨x64,e65,hF⟩:=hF
      have le65:=lt_of_get e65
      have hF:=ob hF;obtain⟨x66,e67a,hF⟩:=hF
      have e67a:=at_some e67a;obtain⟨ne67,e67⟩:=e67a
      have le67:=lt_of_get e67
      repeat first|refine cg ?_|simp -dsimp[↓e52,h53,z55,h56,q57,h58,↓e61,h62,↓e65,↓e67]
      revert hF;refine abr.sp ?_ ?_<;>intro h68 q69 hF
      ·cases hF
       repeat first|refine cg ?_|simp -dsimp[↓e52,h53,z55,h56,q57,h58,↓e61,h62,↓e65,↓e67,h68]
       refine Leave.go _ (Gh.refl _) (hq _ ?_)
       repeat first|refine cg ?_|simp -dsimp[↓e52,h53,z55,h56,q57,h58,↓e61,h62,↓e65,↓e67,h68]
      ·have hF:=oc hF;obtain⟨c70,hF⟩:=hF
       have w71:IntKind.i64.wrap ((j50:Int)+1)=(j50:Int)+1:=wrap_in (by omega) (by omega)
       repeat first|refine cg ?_|simp -dsimp[↓e52,h53,z55,h56,q57,h58,↓e61,h62,↓e65,↓e67,h68,q69,w71]
       refine Again.go _ ?_ ((ih_f18 (j50+1) o hF) _ rfl _ hq)
       exact(Gh.to3 (by simp) (by simp -dsimp[↓e52,h53,z55,h56,q57,h58,↓e61,h62,↓e65,↓e67,h68,q69,w71]))
     ·have hF:=oc hF;obtain⟨c72,hF⟩:=hF
      have w73:IntKind.i64.wrap ((j50:Int)+1)=(j50:Int)+1:=wrap_in (by omega) (by omega)
      repeat first|refine cg ?_|simp -dsimp[↓e52,h53,z55,h56,q57,h58,↓e61,h62,q63,w73]
      refine Again.go _ ?_ ((ih_f18 (j50+1) o hF) _ rfl _ hq)
      exact(Gh.to3 (by simp) (by simp -dsimp[↓e52,h53,z55,h56,q57,h58,↓e61,h62,q63,w73]))
    ·cases hF
     repeat first|refine cg ?_|simp -dsimp[↓e52,h53,z55,h56,q57,h58,q59]
     refine Leave.go _ (Gh.to3 (by simp) (by simp -dsimp[↓e52,h53,z55,h56,q57,h58,q59])) hq
   ·repeat first|refine cg ?_|simp -dsimp[↓e52,h53,z55,h56,q57]
    refine ADraw.simple follows (by kernel_rfl) (by kernel_rfl) ?_
    have hF:=ob hF;obtain⟨x74,e75a,hF⟩:=hF
    have e75a:=at_some e75a;obtain⟨ne75,e75⟩:=e75a
    have le75:=lt_of_get e75
    repeat first|refine cg ?_|simp -dsimp[↓e52,h53,z55,h56,q57,↓e75]
    revert hF;refine abr.sp ?_ ?_<;>intro h76 q77 hF
    ·have hF:=ob hF;obtain⟨x78,e79,hF⟩:=hF
     have le79:=lt_of_get e79
     have hF:=ob hF;obtain⟨x80,e81a,hF⟩:=hF
     have e81a:=at_some e81a;obtain⟨ne81,e81⟩:=e81a
     have le81:=lt_of_get e81
     repeat first|refine cg ?_|simp -dsimp[↓e52,h53,z55,h56,q57,↓e75,h76,↓e79,↓e81]
     revert hF;refine abr.sp ?_ ?_<;>intro h82 q83 hF
     ·cases hF
      repeat first|refine cg ?_|simp -dsimp[↓e52,h53,z55,h56,q57,↓e75,h76,↓e79,↓e81,h82]
      refine Leave.go _ (Gh.refl _) (hq _ ?_)
      repeat first|refine cg ?_|simp -dsimp[↓e52,h53,z55,h56,q57,↓e75,h76,↓e79,↓e81,h82]
     ·have hF:=oc hF;obtain⟨c84,hF⟩:=hF
      have w85:IntKind.i64.wrap ((j50:Int)+1)=(j50:Int)+1:=wrap_in (by omega) (by omega)
      repeat first|refine cg ?_|simp -dsimp[↓e52,h53,z55,h56,q57,↓e75,h76,↓e79,↓e81,h82,q83,w85]
      refine Again.go _ ?_ ((ih_f18 (j50+1) o hF) _ rfl _ hq)
      exact(Gh.to3 (by simp) (by simp -dsimp[↓e52,h53,z55,h56,q57,↓e75,h76,↓e79,↓e81,h82,q83,w85]))
    ·have hF:=oc hF;obtain⟨c86,hF⟩:=hF
     have w87:IntKind.i64.wrap ((j50:Int)+1)=(j50:Int)+1:=wrap_in (by omega) (by omega)
     repeat first|refine cg ?_|simp -dsimp[↓e52,h53,z55,h56,q57,↓e75,h76,q77,w87]
     refine Again.go _ ?_ ((ih_f18 (j50+1) o hF) _ rfl _ hq)
     exact(Gh.to3 (by simp) (by simp -dsimp[↓e52,h53,z55,h56,q57,↓e75,h76,q77,w87]))
  ·have z55:¬((j50:Int)<(x51.ctors.length:Int)):=auz
   cases hF
   repeat first|refine cg ?_|simp -dsimp[↓e52,h53,q54,z55]
   refine Leave.go _ (Gh.to3 (by simp) (by simp -dsimp[↓e52,h53,q54,z55])) hq
theorem CC.f19 (w:List Vl.Data)(d:Int)(k:Int):(∀(i:Nat) (o:Lo Bool Unit),F.f19 w d k i=some o→∀(c:Code),navO [1,0,1,0,0] (bodyOf Tryz.f124)=some c→∀(Q:Exit→ASt→Prop),o.post (fun r=>∀st,Post Tryz.prog Tryz.f124 (fun r' _=>r'.le (.lit (.bool r))) .ret st→Q .ret st) (fun s=>Q (.exit 0) ⟨[],[]⟩)→ALoopU Tryz.prog B 0 79 (hold c .mk) ⟨[(0,.arr (List.map Vl.Data.c w)),(1,.lit (.int .i64 d)),(2,.lit (.int .i64 k)),(7,.lit (.int .i64 (i:Int)))],[]⟩ (hold Q .mk)):=by
 refine F.f19.partial_correctness w d k
  _
  ?_
 ·intro _f_f19 ih_f19 i o hF
  intro c hc Q hq
  obtain rfl:c=_:=navEq hc rfl
  refine ALoopU.know fun hk hs=> ?_
  have b0:=hk 0
  simp -dsimp at b0
  clear hk hs
  refine ALoopU.enter ?_
  repeat first|refine cg ?_|simp -dsimp
  revert hF;refine abr.sp ?_ ?_<;>intro h1 q2 hF
  ·repeat first|refine cg ?_|simp -dsimp[h1]
   refine ADraw.simple follows (by kernel_rfl) (by kernel_rfl) ?_
   repeat first|refine cg ?_|simp -dsimp
   revert hF;refine abr.sp ?_ ?_<;>intro h3 q4 hF
   ·have hF:=ob hF;obtain⟨x,e5,hF⟩:=hF
    have le5:=lt_of_get e5
    have hF:=ob hF;obtain⟨x6,e7a,hF⟩:=hF
    have e7a:=at_some e7a;obtain⟨ne7,e7⟩:=e7a
    have le7:=lt_of_get e7
    repeat first|refine cg ?_|simp -dsimp[h3,↓e5,↓e7]
    revert hF;refine abr.sp ?_ ?_<;>intro h8 q9 hF
    ·cases hF
     repeat first|refine cg ?_|simp -dsimp[h8]
     refine Leave.go _ (Gh.refl _) (hq _ ?_)
     repeat first|refine cg ?_|simp -dsimp
    ·repeat first|refine cg ?_|simp -dsimp[q9]
     have hF:=ob hF;obtain⟨o',ho47,hF⟩:=hF
     refine ALoop.goU _ ?_ (((CC.f17 B hB1 hB2 w d k i) 0 o' ho47) _ rfl _ ?_)
     ·exact(Gh.to3 (by simp) (by simp_all))
     rcases o' with r0|sx
     ·dsimp only at hF
      cases hF
      intro st h
      simp -dsimp
      refine Leave.go st (Gh.refl _) (hq st h)
     ·dsimp only at hF
      have hF:=oc hF;obtain⟨c48,hF⟩:=hF
      have w49:IntKind.i64.wrap ((i:Int)+1)=(i:Int)+1:=wrap_in (by omega) (by omega)
      repeat first|refine cg ?_|simp -dsimp[w49]
      refine Again.go _ ?_ ((ih_f19 (i+1) o hF) _ rfl _ hq)
      exact(Gh.to3 (by simp) (by simp_all))
   ·repeat first|refine cg ?_|simp -dsimp[h3,q4]
    have hF:=ob hF;obtain⟨o'89,ho88,hF⟩:=hF
    refine ALoop.goU _ ?_ (((CC.f18 B hB1 hB2 w d k i) 0 o'89 ho88) _ rfl _ ?_)
    ·exact(Gh.to3 (by simp) (by simp_all))
    rcases o'89 with r093|sx90
    ·dsimp only at hF
     cases hF
     intro st h
     simp -dsimp
     refine Leave.go st (Gh.refl _) (hq st h)
    ·dsimp only at hF
     have hF:=oc hF;obtain⟨c91,hF⟩:=hF
     have w92:IntKind.i64.wrap ((i:Int)+1)=(i:Int)+1:=wrap_in (by omega) (by omega)
     repeat first|refine cg ?_|simp -dsimp[w92]
     refine Again.go _ ?_ ((ih_f19 (i+1) o hF) _ rfl _ hq)
     exact(Gh.to3 (by simp) (by simp_all))
  ·cases hF
   repeat first|refine cg ?_|simp -dsimp[q2]
   refine Leave.go _ (Gh.to3 (by simp) (by simp_all)) hq
theorem C.f20 (w:List Vl.Data)(d:Int)(k:Int)(r:Bool)(hF:F.f20 w d k=some r):PureCall Tryz.prog B 124 [.arr (List.map Vl.Data.c w),.lit (.int .i64 d),.lit (.int .i64 k)] (.lit (.bool r)):=by
 unfold F.f20 at hF
 refine PureCall.enterLe Tryz.func124 (by kernel_rfl) rfl Tryz.ntmps124 (by simp) (by simp) ?_
 repeat first|refine cg ?_|simp -dsimp
 have hF:=ob hF;obtain⟨o'95,ho94,hF⟩:=hF
 refine ALoop.goU _ ?_ (((CC.f19 B hB1 hB2 w d k) 0 o'95 ho94) _ rfl _ ?_)
 ·exact(Gh.to3 (by simp) (by simp -dsimp))
 rcases o'95 with r097|sx96
 ·dsimp only at hF
  cases hF
  intro st h
  simpa using h
 ·dsimp only at hF
  cases hF
  repeat first|refine cg ?_|simp -dsimp
theorem CC.f21 (w:List Vl.Data)(d:Nat):(∀(k:Nat) (o:Lo Bool Unit),F.f21 w d k=some o→∀(c:Code),navO [1,1,0,1,0,0,1,0,0,1,1,0,0] (bodyOf Tryz.f72)=some c→∀(Q:Exit→ASt→Prop),o.post (fun r=>∀st,Post Tryz.prog Tryz.f72 (fun r' _=>r'.le (.lit (.bool r))) .ret st→Q .ret st) (fun s=>Q (.exit 2) ⟨[(0,.arr (List.map Vl.Data.c w)),(3,.lit (.int .i64 (d:Int)))],[]⟩)→ALoopU Tryz.prog B 0 67 (hold c .mk) ⟨[(0,.arr (List.map Vl.Data.c w)),(3,.lit (.int .i64 (d:Int))),(4,.lit (.int .i64 (k:Int)))],[]⟩ (hold Q .mk)):=by
 refine F.f21.partial_correctness w d
  _
  ?_
 ·intro _f_f21 ih_f21 k o hF
  intro c hc Q hq
  obtain rfl:c=_:=navEq hc rfl
  refine ALoopU.know fun hk hs=> ?_
  have b0:=hk 0
  simp -dsimp at b0
  clear hk hs
  refine ALoopU.enter ?_
  have hF:=ob hF;obtain⟨x17,e18,hF⟩:=hF
  have le18:=lt_of_get e18
  repeat first|refine cg ?_|simp -dsimp[↓e18]
  revert hF;refine abr.sp ?_ ?_<;>intro h19 q20 hF
  ·have z21:((k:Int)<(x17.ctors.length:Int)):=auz
   have hF:=ob hF;obtain⟨x22,e23,hF⟩:=hF
   have le23:=lt_of_get e23
   repeat first|refine cg ?_|simp -dsimp[↓e18,h19,z21,↓e23]
   have hF:=ob hF;obtain⟨v24,e25,hF⟩:=hF
   refine((C.f16 B hB1 hB2 (w.length:Int) x22 v24 e25)).goW (by simp[↓e18,h19,z21,↓e23]) (by simp) ?_
   repeat first|refine cg ?_|simp -dsimp[↓e18,h19,z21,↓e23]
   revert hF;refine abr.sp (fun h26 q27 hF=> ?_) (fun h26 q27 hF=> ?_)
   ·repeat first|refine cg ?_|simp -dsimp[↓e18,h19,z21,↓e23,h26]
    have hF:=ob hF;obtain⟨v28,e29,hF⟩:=hF
    refine((C.f20 B hB1 hB2 w (d:Int) (k:Int) v28 e29)).goW (by simp[↓e18,h19,z21,↓e23,h26]) (by simp) ?_
    repeat first|refine cg ?_|simp -dsimp[↓e18,h19,z21,↓e23,h26]
    revert hF;refine abr.sp (fun h30 q31 hF=> ?_) (fun h30 q31 hF=> ?_)
    ·cases hF
     repeat first|refine cg ?_|simp -dsimp[↓e18,h19,z21,↓e23,h26,h30]
     refine Leave.go _ (Gh.refl _) (hq _ ?_)
     repeat first|refine cg ?_|simp -dsimp[↓e18,h19,z21,↓e23,h26,h30]
    ·have hF:=oc hF;obtain⟨c32,hF⟩:=hF
     have w33:IntKind.i64.wrap ((k:Int)+1)=(k:Int)+1:=wrap_in (by omega) (by omega)
     repeat first|refine cg ?_|simp -dsimp[↓e18,h19,z21,↓e23,h26,h30,q31,w33]
     refine Again.go _ ?_ ((ih_f21 (k+1) o hF) _ rfl _ hq)
     exact(Gh.to3 (by simp) (by simp -dsimp[↓e18,h19,z21,↓e23,h26,h30,q31,w33]))
   ·cases hF
    repeat first|refine cg ?_|simp -dsimp[↓e18,h19,z21,↓e23,h26,q27]
    refine Leave.go _ (Gh.refl _) (hq _ ?_)
    repeat first|refine cg ?_|simp -dsimp[↓e18,h19,z21,↓e23,h26,q27]
  ·have z21:¬((k:Int)<(x17.ctors.length:Int)):=auz
   cases hF
   repeat first|refine cg ?_|simp -dsimp[↓e18,h19,q20,z21]
   refine Leave.go _ (Gh.to3 (by simp) (by simp -dsimp[↓e18,h19,q20,z21])) hq
theorem CC.f22 (w:List Vl.Data):(∀(d:Nat) (o:Lo Bool Unit),F.f22 w d=some o→∀(c:Code),navO [1,1,0,1,0,0] (bodyOf Tryz.f72)=some c→∀(Q:Exit→ASt→Prop),o.post (fun r=>∀st,Post Tryz.prog Tryz.f72 (fun r' _=>r'.le (.lit (.bool r))) .ret st→Q .ret st) (fun s=>Q (.exit 0) ⟨[],[]⟩)→ALoopU Tryz.prog B 0 67 (hold c .mk) ⟨[(0,.arr (List.map Vl.Data.c w)),(3,.lit (.int .i64 (d:Int)))],[]⟩ (hold Q .mk)):=by
 refine F.f22.partial_correctness w
  _
  ?_
 ·intro _f_f22 ih_f22 d o hF
  intro c hc Q hq
  obtain rfl:c=_:=navEq hc rfl
  refine ALoopU.know fun hk hs=> ?_
  have b0:=hk 0
  simp -dsimp at b0
  clear hk hs
  refine ALoopU.enter ?_
  repeat first|refine cg ?_|simp -dsimp
  revert hF;refine abr.sp ?_ ?_<;>intro h4 q5 hF
  ·have z6:((d:Int)<(w.length:Int)):=auz
   have hF:=ob hF;obtain⟨x,e7,hF⟩:=hF
   have le7:=lt_of_get e7
   repeat first|refine cg ?_|simp -dsimp[h4,z6,↓e7]
   have hF:=ob hF;obtain⟨v,e8,hF⟩:=hF
   refine((C.f11 B hB1 hB2 x.name v e8)).goW (by simp[h4,z6,↓e7]) (by simp) ?_
   repeat first|refine cg ?_|simp -dsimp[h4,z6,↓e7]
   revert hF;refine abr.sp (fun h9 q10 hF=> ?_) (fun h9 q10 hF=> ?_)
   ·repeat first|refine cg ?_|simp -dsimp[h4,z6,↓e7,h9]
    revert hF;refine abr.ns ?_ ?_<;>intro h11 q12 hF
    ·have z13:¬((x.ctors.length:Int)=0):=auz
     repeat first|refine cg ?_|simp -dsimp[h4,z6,↓e7,h9,h11,q12,z13]
     revert hF;refine abr.sp ?_ ?_<;>intro h14 q15 hF
     ·have z16:(4<(x.ctors.length:Int)):=auz
      cases hF
      repeat first|refine cg ?_|simp -dsimp[h4,z6,↓e7,h9,h11,q12,z13,h14,z16]
      refine Leave.go _ (Gh.refl _) (hq _ ?_)
      repeat first|refine cg ?_|simp -dsimp[h4,z6,↓e7,h9,h11,q12,z13,h14,z16]
     ·have z16:¬(4<(x.ctors.length:Int)):=auz
      repeat first|refine cg ?_|simp -dsimp[h4,z6,↓e7,h9,h11,q12,z13,h14,q15,z16]
      have hF:=ob hF;obtain⟨o',ho34,hF⟩:=hF
      refine ALoop.goU _ ?_ (((CC.f21 B hB1 hB2 w d) 0 o' ho34) _ rfl _ ?_)
      ·exact(Gh.to3 (by simp) (by simp -dsimp[h4,z6,↓e7,h9,h11,q12,z13,h14,q15,z16]))
      rcases o' with r0|sx
      ·dsimp only at hF
       cases hF
       intro st h
       simp -dsimp
       refine Leave.go st (Gh.refl _) (hq st h)
      ·dsimp only at hF
       have hF:=oc hF;obtain⟨c35,hF⟩:=hF
       have w36:IntKind.i64.wrap ((d:Int)+1)=(d:Int)+1:=wrap_in (by omega) (by omega)
       repeat first|refine cg ?_|simp -dsimp[w36]
       refine Again.go _ ?_ ((ih_f22 (d+1) o hF) _ rfl _ hq)
       exact(Gh.to3 (by simp) (by simp -dsimp[w36]))
    ·have z13:((x.ctors.length:Int)=0):=auz
     cases hF
     repeat first|refine cg ?_|simp -dsimp[h4,z6,↓e7,h9,h11,q12,z13]
     refine Leave.go _ (Gh.refl _) (hq _ ?_)
     repeat first|refine cg ?_|simp -dsimp[h4,z6,↓e7,h9,h11,q12,z13]
   ·cases hF
    repeat first|refine cg ?_|simp -dsimp[h4,z6,↓e7,h9,q10]
    refine Leave.go _ (Gh.refl _) (hq _ ?_)
    repeat first|refine cg ?_|simp -dsimp[h4,z6,↓e7,h9,q10]
  ·have z6:¬((d:Int)<(w.length:Int)):=auz
   cases hF
   repeat first|refine cg ?_|simp -dsimp[h4,q5,z6]
   refine Leave.go _ (Gh.to3 (by simp) (by simp -dsimp[h4,q5,z6])) hq
theorem C.f23 (w:List Vl.Data)(r:Bool)(hF:F.f23 w=some r):PureCall Tryz.prog B 72 [.arr (List.map Vl.Data.c w)] (.lit (.bool r)):=by
 unfold F.f23 at hF
 refine PureCall.enterLe Tryz.func72 (by kernel_rfl) rfl Tryz.ntmps72 (by simp) (by simp) ?_
 repeat first|refine cg ?_|simp -dsimp
 revert hF;refine abr.sp ?_ ?_<;>intro h1 q2 hF
 ·have z3:(4<(w.length:Int)):=auz
  cases hF
  repeat first|refine cg ?_|simp -dsimp[h1,z3]
 ·have z3:¬(4<(w.length:Int)):=auz
  repeat first|refine cg ?_|simp -dsimp[h1,q2,z3]
  have hF:=ob hF;obtain⟨o'38,ho37,hF⟩:=hF
  refine ALoop.goU _ ?_ (((CC.f22 B hB1 hB2 w) 0 o'38 ho37) _ rfl _ ?_)
  ·exact(Gh.to3 (by simp) (by simp_all))
  rcases o'38 with r040|sx39
  ·dsimp only at hF
   cases hF
   intro st h
   simpa using h
  ·dsimp only at hF
   cases hF
   repeat first|refine cg ?_|simp -dsimp
theorem CC.f24  :(∀(n7:Int) (out:ByteArray) (o:Int×ByteArray),F.f24 n7 out=some o→∀(c:Code),navO [1,1,1,1,0,0,0] (bodyOf Tryz.f168)=some c→∀(Q:Exit→ASt→Prop),(Q (.exit 0) ⟨[(0,.lit (.int .i64 o.1)),(3,.lit (.string o.2))],[]⟩)→ALoopU Tryz.prog B 0 31 (hold c .mk) ⟨[(0,.lit (.int .i64 n7)),(3,.lit (.string out))],[]⟩ (hold Q .mk)):=by
 refine F.f24.partial_correctness 
  _
  ?_
 ·intro _f_f24 ih_f24 n7 out o hF
  intro c hc Q hq
  obtain rfl:c=_:=navEq hc rfl
  refine ALoopU.know fun hk hs=> ?_
  clear hk hs
  refine ALoopU.enter ?_
  repeat first|refine cg ?_|simp -dsimp
  revert hF;refine abr.sp ?_ ?_<;>intro h8 q9 hF
  ·have hF:=oc hF;obtain⟨c10,hF⟩:=hF
   repeat first|refine cg ?_|simp -dsimp[h8]
   refine Again.go _ ?_ ((ih_f24 (IntKind.i64.wrap (n7.tdiv 10)) ((strB [IntKind.u8.wrap (IntKind.i64.wrap (48+n7.tmod 10))])++out) o hF) _ rfl _ hq)
   exact(Gh.to3 (by simp) (by simp_all))
  ·cases hF
   repeat first|refine cg ?_|simp -dsimp[q9]
   refine Leave.go _ (Gh.to3 (by simp) (by simp_all)) hq
theorem CC.f25  :(∀(n:Int) (r:ByteArray),F.f25 n=some r→PureCall Tryz.prog B 168 [.lit (.int .i64 n)] (.lit (.string r))):=by
 refine F.f25.partial_correctness 
  _
  ?_
 ·intro _f_f25 ih_f25 n r hF
  refine PureCall.enterLe Tryz.func168 (by kernel_rfl) rfl Tryz.ntmps168 (by simp) (by simp) ?_
  repeat first|refine cg ?_|simp -dsimp
  revert hF;refine abr.sp ?_ ?_<;>intro h1 q2 hF
  ·cases hF
   repeat first|refine cg ?_|simp -dsimp[h1]
  ·repeat first|refine cg ?_|simp -dsimp[q2]
   revert hF;refine abr.sp ?_ ?_<;>intro h3 q4 hF
   ·repeat first|refine cg ?_|simp -dsimp[h3]
    have hF:=ob hF;obtain⟨v,e5,hF⟩:=hF
    refine((ih_f25 (IntKind.i64.wrap (0-n)) v e5)).goW (by simp_all) (by simp) ?_
    have hF:=oc hF;obtain⟨c6,hF⟩:=hF
    cases hF
    repeat first|refine cg ?_|simp -dsimp
   ·repeat first|refine cg ?_|simp -dsimp[q4]
    have hF:=ob hF;obtain⟨o',ho11,hF⟩:=hF
    refine ALoop.goU _ ?_ (((CC.f24 B hB1 hB2) n ByteArray.empty o' ho11) _ rfl _ ?_)
    ·exact(Gh.to3 (by simp) (by simp_all))
    have hF:=oc hF;obtain⟨c12,hF⟩:=hF
    cases hF
    repeat first|refine cg ?_|simp -dsimp
theorem C.f26 (n:Int)(r:ByteArray)(hF:F.f26 n=some r):PureCall Tryz.prog B 190 [.lit (.int .i64 n)] (.lit (.string r)):=by
 unfold F.f26 at hF
 refine PureCall.enterLe Tryz.func190 (by kernel_rfl) rfl Tryz.ntmps190 (by simp) (by simp) ?_
 repeat first|refine cg ?_|simp -dsimp
 revert hF;refine abr.sp ?_ ?_<;>intro h1 q2 hF
 ·cases hF
  repeat first|refine cg ?_|simp -dsimp[eq_true h1]
 ·repeat first|refine cg ?_|simp -dsimp[h1,q2]
  revert hF;refine abr.sp ?_ ?_<;>intro h3 q4 hF
  ·cases hF
   repeat first|refine cg ?_|simp -dsimp[h3]
  ·repeat first|refine cg ?_|simp -dsimp[q4]
   have hF:=ob hF;obtain⟨v,e5,hF⟩:=hF
   refine(((CC.f25 B hB1 hB2) n v e5)).goW (by simp_all) (by simp) ?_
   cases hF
   repeat first|refine cg ?_|simp -dsimp
theorem C.f27 (w:List Vl.Data)(t:Ty)(r:ByteArray)(hF:F.f27 w t=some r):PureCall Tryz.prog B 167 [.arr (List.map Vl.Data.c w),.agg [.lit (.int .i64 t.data),.lit (.int .i64 t.index)]] (.lit (.string r)):=by
 unfold F.f27 at hF
 refine PureCall.enterLe Tryz.func167 (by kernel_rfl) rfl Tryz.ntmps167 (by simp) (by simp) ?_
 repeat first|refine cg ?_|simp -dsimp
 revert hF;refine abr.sp ?_ ?_<;>intro h1 q2 hF
 ·cases hF
  repeat first|refine cg ?_|simp -dsimp[h1]
 ·repeat first|refine cg ?_|simp -dsimp[q2]
  refine ADraw.simple follows (by kernel_rfl) (by kernel_rfl) ?_
  have hF:=ob hF;obtain⟨x,e3a,hF⟩:=hF
  have e3a:=at_some e3a;obtain⟨ne3,e3⟩:=e3a
  have le3:=lt_of_get e3
  repeat first|refine cg ?_|simp -dsimp[↓e3]
  have hF:=ob hF;obtain⟨v,e4,hF⟩:=hF
  refine((C.f26 B hB1 hB2 t.index v e4)).pgoW (by simp_all) (by simp) ?_
  have hF:=oc hF;obtain⟨c5,hF⟩:=hF
  cases hF
  repeat first|refine cg ?_|simp -dsimp
theorem CC.f28 (w:List Vl.Data)(c':Ctor):(∀(out:ByteArray) (i:Nat) (o:ByteArray),F.f28 w c' out i=some o→∀(c:Code),navO [1,1,0,1,0,0] (bodyOf Tryz.f125)=some c→∀(Q:Exit→ASt→Prop),(Q (.exit 0) ⟨[(3,.ptr 0 0),(5,.lit (.string o))],[.cells [.lit (.string c'.name),.arr (List.map Ty.c c'.args),.lit (.int .i64 c'.index)]]⟩)→ALoopU Tryz.prog B 0 47 (hold c .mk) ⟨[(0,.arr (List.map Vl.Data.c w)),(3,.ptr 0 0),(5,.lit (.string out)),(6,.lit (.int .i64 (i:Int)))],[.cells [.lit (.string c'.name),.arr (List.map Ty.c c'.args),.lit (.int .i64 c'.index)]]⟩ (hold Q .mk)):=by
 refine F.f28.partial_correctness w c'
  _
  ?_
 ·intro _f_f28 ih_f28 out i o hF
  intro c hc Q hq
  obtain rfl:c=_:=navEq hc rfl
  refine ALoopU.know fun hk hs=> ?_
  have b0:=hk 0
  simp -dsimp at b0
  have d0:=hs 0 _ rfl
  simp -dsimp[Blk.bnd]at d0
  clear hk hs
  refine ALoopU.enter ?_
  repeat first|refine cg ?_|simp -dsimp
  revert hF;refine abr.sp ?_ ?_<;>intro h1 q2 hF
  ·have z3:((i:Int)<(c'.args.length:Int)):=auz
   repeat first|refine cg ?_|simp -dsimp[h1,z3]
   revert hF;refine abr.sp ?_ ?_<;>intro h4 q5 hF
   ·have z6:((i:Int)=0):=auz
    have hF:=oc hF;obtain⟨c7,hF⟩:=hF
    have hF:=ob hF;obtain⟨x,e8,hF⟩:=hF
    have le8:=lt_of_get e8
    repeat first|refine cg ?_|simp -dsimp[eq_true h4,eq_true z6,↓e8]
    have hF:=ob hF;obtain⟨v,e9,hF⟩:=hF
    refine((C.f27 B hB1 hB2 w x v e9)).goW (by simp_all) (by simp) ?_
    have hF:=oc hF;obtain⟨c10,hF⟩:=hF
    have w11:IntKind.i64.wrap ((i:Int)+1)=(i:Int)+1:=wrap_in (by omega) (by omega)
    repeat first|refine cg ?_|simp -dsimp[w11]
    refine Again.go _ ?_ ((ih_f28 ((out++(⟨#[40]⟩:ByteArray))++v) (i+1) o hF) _ rfl _ hq)
    exact(Gh.to3 (by simp) (by simp_all))
   ·have z6:¬((i:Int)=0):=auz
    have hF:=oc hF;obtain⟨c12,hF⟩:=hF
    have hF:=ob hF;obtain⟨x13,e14,hF⟩:=hF
    have le14:=lt_of_get e14
    repeat first|refine cg ?_|simp -dsimp[h4,q5,z6,↓e14]
    have hF:=ob hF;obtain⟨v15,e16,hF⟩:=hF
    refine((C.f27 B hB1 hB2 w x13 v15 e16)).goW (by simp_all) (by simp) ?_
    have hF:=oc hF;obtain⟨c17,hF⟩:=hF
    have w18:IntKind.i64.wrap ((i:Int)+1)=(i:Int)+1:=wrap_in (by omega) (by omega)
    repeat first|refine cg ?_|simp -dsimp[w18]
    refine Again.go _ ?_ ((ih_f28 ((out++(⟨#[44]⟩:ByteArray))++v15) (i+1) o hF) _ rfl _ hq)
    exact(Gh.to3 (by simp) (by simp_all))
  ·have z3:¬((i:Int)<(c'.args.length:Int)):=auz
   cases hF
   repeat first|refine cg ?_|simp -dsimp[h1,q2,z3]
   refine Leave.go _ (Gh.to3 (by simp) (by simp_all)) hq
theorem C.f29 (w:List Vl.Data)(c':Ctor)(r:ByteArray)(hF:F.f29 w c'=some r):PureCall Tryz.prog B 125 [.arr (List.map Vl.Data.c w),.agg [.lit (.string c'.name),.arr (List.map Ty.c c'.args),.lit (.int .i64 c'.index)]] (.lit (.string r)):=by
 unfold F.f29 at hF
 refine PureCall.enterLe Tryz.func125 (by kernel_rfl) rfl Tryz.ntmps125 (by simp) (by simp) ?_
 repeat first|refine cg ?_|simp -dsimp
 have hF:=ob hF;obtain⟨o',ho19,hF⟩:=hF
 refine ALoop.goU _ ?_ (((CC.f28 B hB1 hB2 w c') c'.name 0 o' ho19) _ rfl _ ?_)
 ·exact(Gh.to3 (by simp) (by simp -dsimp))
 repeat first|refine cg ?_|simp -dsimp
 revert hF;refine abr.sp ?_ ?_<;>intro h20 q21 hF
 ·have z22:(0<(c'.args.length:Int)):=auz
  have hF:=oc hF;obtain⟨c23,hF⟩:=hF
  repeat first|refine cg ?_|simp -dsimp[h20,z22]
  revert hF;refine abr.sp ?_ ?_<;>intro h24 q25 hF
  ·have hF:=oc hF;obtain⟨c26,hF⟩:=hF
   repeat first|refine cg ?_|simp -dsimp[h24]
   have hF:=ob hF;obtain⟨v27,e28,hF⟩:=hF
   refine(((CC.f25 B hB1 hB2) c'.index v27 e28)).goW (by simp_all) (by simp) ?_
   have hF:=oc hF;obtain⟨c29,hF⟩:=hF
   cases hF
   repeat first|refine cg ?_|simp -dsimp
  ·cases hF
   repeat first|refine cg ?_|simp -dsimp[q25]
 ·have z22:¬(0<(c'.args.length:Int)):=auz
  repeat first|refine cg ?_|simp -dsimp[h20,q21,z22]
  revert hF;refine abr.sp ?_ ?_<;>intro h30 q31 hF
  ·have hF:=oc hF;obtain⟨c32,hF⟩:=hF
   repeat first|refine cg ?_|simp -dsimp[h30]
   have hF:=ob hF;obtain⟨v33,e34,hF⟩:=hF
   refine(((CC.f25 B hB1 hB2) c'.index v33 e34)).goW (by simp_all) (by simp) ?_
   have hF:=oc hF;obtain⟨c35,hF⟩:=hF
   cases hF
   repeat first|refine cg ?_|simp -dsimp
  ·cases hF
   repeat first|refine cg ?_|simp -dsimp[q31]
theorem CC.f30 (w:List Vl.Data)(d:Nat):(∀(out11:ByteArray) (k:Nat) (o:ByteArray),F.f30 w d out11 k=some o→∀(c:Code),navO [1,1,0,1,0,0,1,0,0,1,1,1,0,0] (bodyOf Tryz.f73)=some c→∀(Q:Exit→ASt→Prop),(Q (.exit 2) ⟨[(0,.arr (List.map Vl.Data.c w)),(3,.lit (.string o)),(4,.lit (.int .i64 (d:Int)))],[]⟩)→ALoopU Tryz.prog B 0 51 (hold c .mk) ⟨[(0,.arr (List.map Vl.Data.c w)),(3,.lit (.string out11)),(4,.lit (.int .i64 (d:Int))),(5,.lit (.int .i64 (k:Int)))],[]⟩ (hold Q .mk)):=by
 refine F.f30.partial_correctness w d
  _
  ?_
 ·intro _f_f30 ih_f30 out11 k o hF
  intro c hc Q hq
  obtain rfl:c=_:=navEq hc rfl
  refine ALoopU.know fun hk hs=> ?_
  have b0:=hk 0
  simp -dsimp at b0
  clear hk hs
  refine ALoopU.enter ?_
  have hF:=ob hF;obtain⟨x12,e13,hF⟩:=hF
  have le13:=lt_of_get e13
  repeat first|refine cg ?_|simp -dsimp[↓e13]
  revert hF;refine abr.sp ?_ ?_<;>intro h14 q15 hF
  ·have z16:((k:Int)<(x12.ctors.length:Int)):=auz
   repeat first|refine cg ?_|simp -dsimp[↓e13,h14,z16]
   revert hF;refine abr.sp ?_ ?_<;>intro h17 q18 hF
   ·have z19:(0<(k:Int)):=auz
    have hF:=oc hF;obtain⟨c20,hF⟩:=hF
    have hF:=ob hF;obtain⟨x21,e22,hF⟩:=hF
    have le22:=lt_of_get e22
    repeat first|refine cg ?_|simp -dsimp[↓e13,h17,z19,↓e22]
    have hF:=ob hF;obtain⟨v,e23,hF⟩:=hF
    refine((C.f29 B hB1 hB2 w x21 v e23)).goW (by simp_all) (by simp) ?_
    have hF:=oc hF;obtain⟨c24,hF⟩:=hF
    have hF:=oc hF;obtain⟨c25,hF⟩:=hF
    have w26:IntKind.i64.wrap ((k:Int)+1)=(k:Int)+1:=wrap_in (by omega) (by omega)
    repeat first|refine cg ?_|simp -dsimp[↓e13,↓e22,w26]
    refine Again.go _ ?_ ((ih_f30 ((out11++(⟨#[124]⟩:ByteArray))++v) (k+1) o hF) _ rfl _ hq)
    exact(Gh.to3 (by simp) (by simp_all))
   ·have z19:¬(0<(k:Int)):=auz
    have hF:=ob hF;obtain⟨x27,e28,hF⟩:=hF
    have le28:=lt_of_get e28
    repeat first|refine cg ?_|simp -dsimp[↓e13,h17,q18,z19,↓e28]
    have hF:=ob hF;obtain⟨v29,e30,hF⟩:=hF
    refine((C.f29 B hB1 hB2 w x27 v29 e30)).goW (by simp_all) (by simp) ?_
    have hF:=oc hF;obtain⟨c31,hF⟩:=hF
    have hF:=oc hF;obtain⟨c32,hF⟩:=hF
    have w33:IntKind.i64.wrap ((k:Int)+1)=(k:Int)+1:=wrap_in (by omega) (by omega)
    repeat first|refine cg ?_|simp -dsimp[↓e13,↓e28,w33]
    refine Again.go _ ?_ ((ih_f30 (out11++v29) (k+1) o hF) _ rfl _ hq)
    exact(Gh.to3 (by simp) (by simp_all))
  ·have z16:¬((k:Int)<(x12.ctors.length:Int)):=auz
   cases hF
   repeat first|refine cg ?_|simp -dsimp[↓e13,h14,q15,z16]
   refine Leave.go _ (Gh.to3 (by simp) (by simp_all)) hq
theorem CC.f31 (w:List Vl.Data)(d:Nat):(∀(out41:ByteArray) (k42:Nat) (o:ByteArray),F.f31 w d out41 k42=some o→∀(c:Code),navO [1,1,0,1,0,0,1,0,0,1,1,1,0,0] (bodyOf Tryz.f73)=some c→∀(Q:Exit→ASt→Prop),(Q (.exit 2) ⟨[(0,.arr (List.map Vl.Data.c w)),(3,.lit (.string o)),(4,.lit (.int .i64 (d:Int)))],[]⟩)→ALoopU Tryz.prog B 0 51 (hold c .mk) ⟨[(0,.arr (List.map Vl.Data.c w)),(3,.lit (.string out41)),(4,.lit (.int .i64 (d:Int))),(5,.lit (.int .i64 (k42:Int)))],[]⟩ (hold Q .mk)):=by
 refine F.f31.partial_correctness w d
  _
  ?_
 ·intro _f_f31 ih_f31 out41 k42 o hF
  intro c hc Q hq
  obtain rfl:c=_:=navEq hc rfl
  refine ALoopU.know fun hk hs=> ?_
  have b0:=hk 0
  simp -dsimp at b0
  clear hk hs
  refine ALoopU.enter ?_
  have hF:=ob hF;obtain⟨x43,e44,hF⟩:=hF
  have le44:=lt_of_get e44
  repeat first|refine cg ?_|simp -dsimp[↓e44]
  revert hF;refine abr.sp ?_ ?_<;>intro h45 q46 hF
  ·have z47:((k42:Int)<(x43.ctors.length:Int)):=auz
   repeat first|refine cg ?_|simp -dsimp[↓e44,h45,z47]
   revert hF;refine abr.sp ?_ ?_<;>intro h48 q49 hF
   ·have z50:(0<(k42:Int)):=auz
    have hF:=oc hF;obtain⟨c51,hF⟩:=hF
    have hF:=ob hF;obtain⟨x52,e53,hF⟩:=hF
    have le53:=lt_of_get e53
    repeat first|refine cg ?_|simp -dsimp[↓e44,h48,z50,↓e53]
    have hF:=ob hF;obtain⟨v54,e55,hF⟩:=hF
    refine((C.f29 B hB1 hB2 w x52 v54 e55)).goW (by simp_all) (by simp) ?_
    have hF:=oc hF;obtain⟨c56,hF⟩:=hF
    have hF:=oc hF;obtain⟨c57,hF⟩:=hF
    have w58:IntKind.i64.wrap ((k42:Int)+1)=(k42:Int)+1:=wrap_in (by omega) (by omega)
    repeat first|refine cg ?_|simp -dsimp[↓e44,↓e53,w58]
    refine Again.go _ ?_ ((ih_f31 ((out41++(⟨#[124]⟩:ByteArray))++v54) (k42+1) o hF) _ rfl _ hq)
    exact(Gh.to3 (by simp) (by simp_all))
   ·have z50:¬(0<(k42:Int)):=auz
    have hF:=ob hF;obtain⟨x59,e60,hF⟩:=hF
    have le60:=lt_of_get e60
    repeat first|refine cg ?_|simp -dsimp[↓e44,h48,q49,z50,↓e60]
    have hF:=ob hF;obtain⟨v61,e62,hF⟩:=hF
    refine((C.f29 B hB1 hB2 w x59 v61 e62)).goW (by simp_all) (by simp) ?_
    have hF:=oc hF;obtain⟨c63,hF⟩:=hF
    have hF:=oc hF;obtain⟨c64,hF⟩:=hF
    have w65:IntKind.i64.wrap ((k42:Int)+1)=(k42:Int)+1:=wrap_in (by omega) (by omega)
    repeat first|refine cg ?_|simp -dsimp[↓e44,↓e60,w65]
    refine Again.go _ ?_ ((ih_f31 (out41++v61) (k42+1) o hF) _ rfl _ hq)
    exact(Gh.to3 (by simp) (by simp_all))
  ·have z47:¬((k42:Int)<(x43.ctors.length:Int)):=auz
   cases hF
   repeat first|refine cg ?_|simp -dsimp[↓e44,h45,q46,z47]
   refine Leave.go _ (Gh.to3 (by simp) (by simp_all)) hq
theorem CC.f32 (w:List Vl.Data):(∀(out:ByteArray) (d:Nat) (o:ByteArray),F.f32 w out d=some o→∀(c:Code),navO [1,1,0,1,0,0] (bodyOf Tryz.f73)=some c→∀(Q:Exit→ASt→Prop),(Q (.exit 0) ⟨[(3,.lit (.string o))],[]⟩)→ALoopU Tryz.prog B 0 51 (hold c .mk) ⟨[(0,.arr (List.map Vl.Data.c w)),(3,.lit (.string out)),(4,.lit (.int .i64 (d:Int)))],[]⟩ (hold Q .mk)):=by
 refine F.f32.partial_correctness w
  _
  ?_
 ·intro _f_f32 ih_f32 out d o hF
  intro c hc Q hq
  obtain rfl:c=_:=navEq hc rfl
  refine ALoopU.know fun hk hs=> ?_
  have b0:=hk 0
  simp -dsimp at b0
  clear hk hs
  refine ALoopU.enter ?_
  repeat first|refine cg ?_|simp -dsimp
  revert hF;refine abr.sp ?_ ?_<;>intro h1 q2 hF
  ·have z3:((d:Int)<(w.length:Int)):=auz
   repeat first|refine cg ?_|simp -dsimp[h1,z3]
   revert hF;refine abr.sp ?_ ?_<;>intro h4 q5 hF
   ·have z6:(0<(d:Int)):=auz
    have hF:=oc hF;obtain⟨c7,hF⟩:=hF
    have hF:=ob hF;obtain⟨x,e8,hF⟩:=hF
    have le8:=lt_of_get e8
    have hF:=oc hF;obtain⟨c9,hF⟩:=hF
    have hF:=oc hF;obtain⟨c10,hF⟩:=hF
    repeat first|refine cg ?_|simp -dsimp[h4,z6,↓e8]
    have hF:=ob hF;obtain⟨o',ho34,hF⟩:=hF
    refine ALoop.goU _ ?_ (((CC.f30 B hB1 hB2 w d) (((out++(⟨#[59]⟩:ByteArray))++x.name)++(⟨#[61]⟩:ByteArray)) 0 o' ho34) _ rfl _ ?_)
    ·exact(Gh.to3 (by simp) (by simp_all))
    have hF:=oc hF;obtain⟨c35,hF⟩:=hF
    have w36:IntKind.i64.wrap ((d:Int)+1)=(d:Int)+1:=wrap_in (by omega) (by omega)
    repeat first|refine cg ?_|simp -dsimp[w36]
    refine Again.go _ ?_ ((ih_f32 o' (d+1) o hF) _ rfl _ hq)
    exact(Gh.to3 (by simp) (by simp_all))
   ·have z6:¬(0<(d:Int)):=auz
    have hF:=ob hF;obtain⟨x37,e38,hF⟩:=hF
    have le38:=lt_of_get e38
    have hF:=oc hF;obtain⟨c39,hF⟩:=hF
    have hF:=oc hF;obtain⟨c40,hF⟩:=hF
    repeat first|refine cg ?_|simp -dsimp[h4,q5,z6,↓e38]
    have hF:=ob hF;obtain⟨o'67,ho66,hF⟩:=hF
    refine ALoop.goU _ ?_ (((CC.f31 B hB1 hB2 w d) ((out++x37.name)++(⟨#[61]⟩:ByteArray)) 0 o'67 ho66) _ rfl _ ?_)
    ·exact(Gh.to3 (by simp) (by simp_all))
    have hF:=oc hF;obtain⟨c68,hF⟩:=hF
    have w69:IntKind.i64.wrap ((d:Int)+1)=(d:Int)+1:=wrap_in (by omega) (by omega)
    repeat first|refine cg ?_|simp -dsimp[w69]
    refine Again.go _ ?_ ((ih_f32 o'67 (d+1) o hF) _ rfl _ hq)
    exact(Gh.to3 (by simp) (by simp_all))
  ·have z3:¬((d:Int)<(w.length:Int)):=auz
   cases hF
   repeat first|refine cg ?_|simp -dsimp[h1,q2,z3]
   refine Leave.go _ (Gh.to3 (by simp) (by simp_all)) hq
theorem C.f33 (w:List Vl.Data)(r:ByteArray)(hF:F.f33 w=some r):PureCall Tryz.prog B 73 [.arr (List.map Vl.Data.c w)] (.lit (.string r)):=by
 unfold F.f33 at hF
 refine PureCall.enterLe Tryz.func73 (by kernel_rfl) rfl Tryz.ntmps73 (by simp) (by simp) ?_
 repeat first|refine cg ?_|simp -dsimp
 have hF:=ob hF;obtain⟨o'71,ho70,hF⟩:=hF
 refine ALoop.goU _ ?_ (((CC.f32 B hB1 hB2 w) ByteArray.empty 0 o'71 ho70) _ rfl _ ?_)
 ·exact(Gh.to3 (by simp) (by simp -dsimp))
 cases hF
 repeat first|refine cg ?_|simp -dsimp
theorem CC.f34 (text:ByteArray)(v:List ByteArray):(∀(names:List ByteArray) (i:Nat) (o:Lo ((List Vl.Data)×Bool) (List ByteArray)),F.f34 text v names i=some o→∀(c:Code),navO [1,1,1,1,0,1,0,0] (bodyOf Tryz.f31)=some c→∀(Q:Exit→ASt→Prop),o.post (fun r=>∀st,Post Tryz.prog Tryz.f31 (fun r' _=>r'.le (.tup [.arr (List.map Vl.Data.c r.1),.lit (.bool r.2)])) .ret st→Q .ret st) (fun s=>Q (.exit 0) ⟨[(0,.lit (.string text)),(4,.own 0 (List.length (α:=Vl.Data) [])),(5,.own 1 (List.length (α:=ByteArray) s)),(6,.arr (List.map cS v))],[.elems 2 (List.map Vl.Data.c []),.elems 1 (List.map cS s)]⟩)→ALoopU Tryz.prog B 0 101 (hold c .mk) ⟨[(0,.lit (.string text)),(4,.own 0 (List.length (α:=Vl.Data) [])),(5,.own 1 (List.length (α:=ByteArray) names)),(6,.arr (List.map cS v)),(7,.lit (.int .i64 (i:Int)))],[.elems 2 (List.map Vl.Data.c []),.elems 1 (List.map cS names)]⟩ (hold Q .mk)):=by
 refine F.f34.partial_correctness text v
  _
  ?_
 ·intro _f_f34 ih_f34 names i o hF
  intro c hc Q hq
  obtain rfl:c=_:=navEq hc rfl
  refine ALoopU.know fun hk hs=> ?_
  have b6:=hk 6
  simp -dsimp at b6
  have d0:=hs 0 _ rfl
  simp -dsimp[Blk.bnd]at d0
  have d1:=hs 1 _ rfl
  simp -dsimp[Blk.bnd]at d1
  clear hk hs
  refine ALoopU.enter ?_
  repeat first|refine cg ?_|simp -dsimp
  revert hF;refine abr.sp ?_ ?_<;>intro h2 q3 hF
  ·have z4:((i:Int)<(v.length:Int)):=auz
   repeat first|refine cg ?_|simp -dsimp[h2,z4]
   revert hF;refine abr.sp ?_ ?_<;>intro h5 q6 hF
   ·have z7:((i:Int)≤4):=auz
    repeat first|refine cg ?_|simp -dsimp[h5,z7]
    revert hF;refine abr.ns ?_ ?_<;>intro h8 q9 hF
    ·have hF:=ob hF;obtain⟨x,e10,hF⟩:=hF
     have le10:=lt_of_get e10
     repeat first|refine cg ?_|simp -dsimp[h8,q9,↓e10]
     have hF:=ob hF;obtain⟨v11,e12,hF⟩:=hF
     refine((C.f2 B hB1 hB2 x 61 v11 e12)).goW (by simp_all) (by simp) ?_
     repeat first|refine cg ?_|simp -dsimp
     revert hF;refine abr.ns ?_ ?_<;>intro h13 q14 hF
     ·have z15:¬((v11.length:Int)=2):=auz
      cases hF
      repeat first|refine cg ?_|simp -dsimp[h13,q14,z15]
      refine Leave.go _ (Gh.refl _) (hq _ ?_)
      repeat first|refine cg ?_|simp -dsimp
     ·have z15:((v11.length:Int)=2):=auz
      have hF:=ob hF;obtain⟨x16,e17,hF⟩:=hF
      have le17:=lt_of_get e17
      have hF:=oc hF;obtain⟨c18,hF⟩:=hF
      have w19:IntKind.i64.wrap ((i:Int)+1)=(i:Int)+1:=wrap_in (by omega) (by omega)
      repeat first|refine cg ?_|simp -dsimp[↓e17,w19]
      refine Again.go _ ?_ ((ih_f34 (names++[x16]) (i+1) o hF) _ rfl _ hq)
      exact(Gh.to3 (by simp) (by simp_all))
    ·cases hF
     repeat first|refine cg ?_|simp -dsimp[h8,q9]
     refine Leave.go _ (Gh.to3 (by simp) (by simp_all)) hq
   ·have z7:¬((i:Int)≤4):=auz
    cases hF
    repeat first|refine cg ?_|simp -dsimp[h5,q6,z7]
    refine Leave.go _ (Gh.to3 (by simp) (by simp_all)) hq
  ·have z4:¬((i:Int)<(v.length:Int)):=auz
   cases hF
   repeat first|refine cg ?_|simp -dsimp[h2,q3,z4]
   refine Leave.go _ (Gh.to3 (by simp) (by simp_all)) hq
theorem CC.f35 (text:ByteArray)(v:List ByteArray)(out:List Vl.Data)(names21:List ByteArray)(i22:Nat)(v32:List ByteArray)(x34:ByteArray):(∀(out36:List Ctor) (k:Nat) (o:List Ctor),F.f35 text v out names21 i22 v32 x34 out36 k=some o→∀(c:Code),navO [1,1,1,1,1,0,1,0,0,1,0,0,1,1,0,1,0,0] (bodyOf Tryz.f31)=some c→∀(Q:Exit→ASt→Prop),(Q (.exit 4) ⟨[(0,.lit (.string text)),(4,.own 0 (List.length (α:=Vl.Data) out)),(5,.arr (List.map cS names21)),(6,.arr (List.map cS v)),(9,.lit (.int .i64 (i22:Int))),(11,.ptr 2 0)],[.elems 2 (List.map Vl.Data.c out),.dead,.cells [.lit (.string x34),.own 3 (List.length (α:=Ctor) o)],.elems 3 (List.map Ctor.c o)]⟩)→ALoopU Tryz.prog B 0 101 (hold c .mk) ⟨[(0,.lit (.string text)),(4,.own 0 (List.length (α:=Vl.Data) out)),(5,.arr (List.map cS names21)),(6,.arr (List.map cS v)),(9,.lit (.int .i64 (i22:Int))),(10,.arr (List.map cS v32)),(11,.ptr 2 0),(12,.lit (.int .i64 (k:Int)))],[.elems 2 (List.map Vl.Data.c out),.dead,.cells [.lit (.string x34),.own 3 (List.length (α:=Ctor) out36)],.elems 3 (List.map Ctor.c out36)]⟩ (hold Q .mk)):=by
 refine F.f35.partial_correctness text v out names21 i22 v32 x34
  _
  ?_
 ·intro _f_f35 ih_f35 out36 k o hF
  intro c hc Q hq
  obtain rfl:c=_:=navEq hc rfl
  refine ALoopU.know fun hk hs=> ?_
  have b5:=hk 5
  simp -dsimp at b5
  have b6:=hk 6
  simp -dsimp at b6
  have b10:=hk 10
  simp -dsimp at b10
  have d0:=hs 0 _ rfl
  simp -dsimp[Blk.bnd]at d0
  have d3:=hs 3 _ rfl
  simp -dsimp[Blk.bnd]at d3
  clear hk hs
  refine ALoopU.enter ?_
  repeat first|refine cg ?_|simp -dsimp
  revert hF;refine abr.sp ?_ ?_<;>intro h37 q38 hF
  ·have z39:((k:Int)<(v32.length:Int)):=auz
   repeat first|refine cg ?_|simp -dsimp[h37,z39]
   revert hF;refine abr.sp ?_ ?_<;>intro h40 q41 hF
   ·have z42:((k:Int)≤4):=auz
    repeat first|refine cg ?_|simp -dsimp[h40,z42]
    refine ADraw.eff [] [(0,1),(0,1),(0,0),(0,0),(0,0),(0,0),(0,0),(0,3),(0,3),(0,3),(2,2),(0,3)] [0,2,1,1,1,1,1,1,1,1,1,1] follows (by kernel_rfl) (by kernel_rfl) (by kernel_rfl) ?_
    have hF:=ob hF;obtain⟨x43,e44,hF⟩:=hF
    have le44:=lt_of_get e44
    repeat first|refine cg ?_|simp -dsimp[↓e44]
    have hF:=ob hF;obtain⟨v45,e46,hF⟩:=hF
    refine((C.f9 B hB1 hB2 names21 x43 v45 e46)).pgoW (by simp_all) (by simp) ?_
    have hF:=oc hF;obtain⟨c47,hF⟩:=hF
    have w48:IntKind.i64.wrap ((k:Int)+1)=(k:Int)+1:=wrap_in (by omega) (by omega)
    repeat first|refine cg ?_|simp -dsimp[w48]
    refine Again.go _ ?_ ((ih_f35 (out36++[v45]) (k+1) o hF) _ rfl _ hq)
    exact(Gh.to3 (by simp) (by simp_all))
   ·have z42:¬((k:Int)≤4):=auz
    cases hF
    repeat first|refine cg ?_|simp -dsimp[h40,q41,z42]
    refine Leave.go _ (Gh.to3 (by simp) (by simp_all)) hq
  ·have z39:¬((k:Int)<(v32.length:Int)):=auz
   cases hF
   repeat first|refine cg ?_|simp -dsimp[h37,q38,z39]
   refine Leave.go _ (Gh.to3 (by simp) (by simp_all)) hq
theorem CC.f36 (text:ByteArray)(v:List ByteArray)(names21:List ByteArray):(∀(out:List Vl.Data) (i22:Nat) (o:List Vl.Data),F.f36 text v out names21 i22=some o→∀(c:Code),navO [1,1,1,1,1,0,1,0,0] (bodyOf Tryz.f31)=some c→∀(Q:Exit→ASt→Prop),(Q (.exit 2) ⟨[(0,.lit (.string text)),(4,.own 0 (List.length (α:=Vl.Data) o))],[.elems 2 (List.map Vl.Data.c o)]⟩)→ALoopU Tryz.prog B 0 101 (hold c .mk) ⟨[(0,.lit (.string text)),(4,.own 0 (List.length (α:=Vl.Data) out)),(5,.arr (List.map cS names21)),(6,.arr (List.map cS v)),(9,.lit (.int .i64 (i22:Int)))],[.elems 2 (List.map Vl.Data.c out),.dead]⟩ (hold Q .mk)):=by
 refine F.f36.partial_correctness text v names21
  _
  ?_
 ·intro _f_f36 ih_f36 out i22 o hF
  intro c hc Q hq
  obtain rfl:c=_:=navEq hc rfl
  refine ALoopU.know fun hk hs=> ?_
  have b5:=hk 5
  simp -dsimp at b5
  have b6:=hk 6
  simp -dsimp at b6
  have d0:=hs 0 _ rfl
  simp -dsimp[Blk.bnd]at d0
  clear hk hs
  refine ALoopU.enter ?_
  repeat first|refine cg ?_|simp -dsimp
  revert hF;refine abr.sp ?_ ?_<;>intro h23 q24 hF
  ·have z25:((i22:Int)<(names21.length:Int)):=auz
   have hF:=ob hF;obtain⟨x26,e27,hF⟩:=hF
   have le27:=lt_of_get e27
   repeat first|refine cg ?_|simp -dsimp[h23,z25,↓e27]
   have hF:=ob hF;obtain⟨v28,e29,hF⟩:=hF
   refine((C.f2 B hB1 hB2 x26 61 v28 e29)).goW (by simp_all) (by simp) ?_
   have hF:=ob hF;obtain⟨x30,e31,hF⟩:=hF
   have le31:=lt_of_get e31
   repeat first|refine cg ?_|simp -dsimp[↓e31]
   have hF:=ob hF;obtain⟨v32,e33,hF⟩:=hF
   refine((C.f2 B hB1 hB2 x30 124 v32 e33)).goW (by simp_all) (by simp) ?_
   have hF:=ob hF;obtain⟨x34,e35,hF⟩:=hF
   have le35:=lt_of_get e35
   repeat first|refine cg ?_|simp -dsimp[↓e35]
   have hF:=ob hF;obtain⟨o'50,ho49,hF⟩:=hF
   refine ALoop.goU ⟨[(0,.lit (.string text)),(4,.own 0 (List.length (α:=Vl.Data) out)),(5,.arr (List.map cS names21)),(6,.arr (List.map cS v)),(9,.lit (.int .i64 (i22:Int))),(10,.arr (List.map cS v32)),(11,.ptr 2 0),(12,.lit (.int .i64 0))],[.elems 2 (List.map Vl.Data.c out),.dead,.cells [.lit (.string x34),.own 3 (List.length (α:=Ctor) [])],.elems 3 (List.map Ctor.c [])]⟩ (by refine Gh.trans (Gh.nilCell 2 1 3 (by simp -dsimp;rfl) (by simp -dsimp)) ?_;exact(Gh.to3 (by simp) (by simp_all))) ?_
   refine((CC.f35 B hB1 hB2 text v out names21 i22 v32 x34) [] 0 o'50 ho49) _ rfl _ ?_
   have hF:=oc hF;obtain⟨c51,hF⟩:=hF
   have hF:=oc hF;obtain⟨c52,hF⟩:=hF
   have w53:IntKind.i64.wrap ((i22:Int)+1)=(i22:Int)+1:=wrap_in (by omega) (by omega)
   repeat first|refine cg ?_|simp -dsimp[w53]
   refine Again.go _ ?_ ((ih_f36 (out++[(⟨x34,o'50⟩:Vl.Data)]) (i22+1) o hF) _ rfl _ hq)
   exact(Gh.to3 (by simp) (by simp_all))
  ·have z25:¬((i22:Int)<(names21.length:Int)):=auz
   cases hF
   repeat first|refine cg ?_|simp -dsimp[h23,q24,z25]
   refine Leave.go _ (Gh.to3 (by simp) (by simp_all)) hq
theorem C.f37 (text:ByteArray)(r:(List Vl.Data)×Bool)(hF:F.f37 text=some r):PureCall Tryz.prog B 31 [.lit (.string text)] (.tup [.arr (List.map Vl.Data.c r.1),.lit (.bool r.2)]):=by
 unfold F.f37 at hF
 refine PureCall.enterLe Tryz.func31 (by kernel_rfl) rfl Tryz.ntmps31 (by simp) (by simp) ?_
 repeat first|refine cg ?_|simp -dsimp
 have hF:=ob hF;obtain⟨v,e1,hF⟩:=hF
 refine((C.f2 B hB1 hB2 text 59 v e1)).goW (by simp) (by simp) ?_
 repeat first|refine cg ?_|simp -dsimp
 have hF:=ob hF;obtain⟨o',ho20,hF⟩:=hF
 refine ALoop.goU _ ?_ (((CC.f34 B hB1 hB2 text v) [] 0 o' ho20) _ rfl _ ?_)
 ·exact(Gh.to3 (by simp) (by simp -dsimp))
 rcases o' with r0|sx
 ·dsimp only at hF
  cases hF
  intro st h
  simpa using h
 ·dsimp only at hF
  repeat first|refine cg ?_|simp -dsimp
  have hF:=ob hF;obtain⟨o'55,ho54,hF⟩:=hF
  refine ALoop.goU ⟨[(0,.lit (.string text)),(4,.own 0 (List.length (α:=Vl.Data) [])),(5,.arr (List.map cS sx)),(6,.arr (List.map cS v)),(9,.lit (.int .i64 0))],[.elems 2 (List.map Vl.Data.c []),.dead]⟩ (by refine Gh.trans (Gh.frzSlot 5 (l:=1) (n:=List.length (α:=ByteArray) sx) (sz:=1) (es:=List.map cS sx) (by simp) (by simp) (by simp) (by simp)) ?_;exact(Gh.to3 (by simp) (by simp -dsimp))) ?_
  refine((CC.f36 B hB1 hB2 text v sx) [] 0 o'55 ho54) _ rfl _ ?_
  repeat first|refine cg ?_|simp -dsimp
  have hF:=ob hF;obtain⟨v56,e57,hF⟩:=hF
  refine((C.f23 B hB1 hB2 o'55 v56 e57)).lend (by simp -dsimp) (by simp -dsimp) ?_
  repeat first|refine cg ?_|simp -dsimp
  revert hF;refine abr.sp (fun h58 q59 hF=> ?_) (fun h58 q59 hF=> ?_)
  ·repeat first|refine cg ?_|simp -dsimp[h58]
   have hF:=ob hF;obtain⟨v60,e61,hF⟩:=hF
   refine((C.f33 B hB1 hB2 o'55 v60 e61)).lend (by simp -dsimp[h58]) (by simp -dsimp) ?_
   repeat first|refine cg ?_|simp -dsimp[h58]
   revert hF;refine abr.ns ?_ ?_<;>intro h62 q63 hF
   ·cases hF
    repeat first|refine cg ?_|simp -dsimp[h58,h62,q63]
   ·cases hF
    repeat first|refine cg ?_|simp -dsimp[h58,h62,q63]
  ·cases hF
   repeat first|refine cg ?_|simp -dsimp[h58,q59]
theorem C.f38 (w:List Vl.Data)(t:Ty)(r:Bool)(hF:F.f38 w t=some r):PureCall Tryz.prog B 126 [.arr (List.map Vl.Data.c w),.agg [.lit (.int .i64 t.data),.lit (.int .i64 t.index)]] (.lit (.bool r)):=by
 unfold F.f38 at hF
 refine PureCall.enterLe Tryz.func126 (by kernel_rfl) rfl Tryz.ntmps126 (by simp) (by simp) ?_
 repeat first|refine cg ?_|simp -dsimp
 have hF:=ob hF;obtain⟨v,e1,hF⟩:=hF
 refine((C.f14 B hB1 hB2 (w.length:Int) t v e1)).goW (by simp) (by simp) ?_
 repeat first|refine cg ?_|simp -dsimp
 revert hF;refine abr.sp (fun h2 q3 hF=> ?_) (fun h2 q3 hF=> ?_)
 ·cases hF
  repeat first|refine cg ?_|simp -dsimp[h2]
 ·cases hF
  repeat first|refine cg ?_|simp -dsimp[q3]
theorem C.f39 (w:List Vl.Data)(t:Ty)(r:Bool)(hF:F.f39 w t=some r):PureCall Tryz.prog B 74 [.arr (List.map Vl.Data.c w),.agg [.lit (.int .i64 t.data),.lit (.int .i64 t.index)]] (.lit (.bool r)):=by
 unfold F.f39 at hF
 refine PureCall.enterLe Tryz.func74 (by kernel_rfl) rfl Tryz.ntmps74 (by simp) (by simp) ?_
 repeat first|refine cg ?_|simp -dsimp
 have hF:=ob hF;obtain⟨v,e1,hF⟩:=hF
 refine((C.f23 B hB1 hB2 w v e1)).goW (by simp) (by simp) ?_
 repeat first|refine cg ?_|simp -dsimp
 revert hF;refine abr.sp (fun h2 q3 hF=> ?_) (fun h2 q3 hF=> ?_)
 ·repeat first|refine cg ?_|simp -dsimp[h2]
  have hF:=ob hF;obtain⟨v4,e5,hF⟩:=hF
  refine((C.f38 B hB1 hB2 w t v4 e5)).goW (by simp[h2]) (by simp) ?_
  cases hF
  repeat first|refine cg ?_|simp -dsimp[h2]
 ·cases hF
  repeat first|refine cg ?_|simp -dsimp[h2,q3]
theorem C.f40 (s:ByteArray)(at':Int)(c':Int)(r:Bool)(hF:F.f40 s at' c'=some r):PureCall Tryz.prog B 129 [.lit (.string s),.lit (.int .i64 at'),.lit (.int .u8 c')] (.lit (.bool r)):=by
 unfold F.f40 at hF
 refine PureCall.enterLe Tryz.func129 (by kernel_rfl) rfl Tryz.ntmps129 (by simp) (by simp) ?_
 repeat first|refine cg ?_|simp -dsimp
 revert hF;refine abr.sp ?_ ?_<;>intro h1 q2 hF
 ·repeat first|refine cg ?_|simp -dsimp[h1]
  revert hF;refine abr.sp ?_ ?_<;>intro h3 q4 hF
  ·have hF:=oc hF;obtain⟨c5,hF⟩:=hF
   cases hF
   repeat first|refine cg ?_|simp -dsimp[h1,h3]
   all_goals(try first|omega|rfl)
  ·cases hF
   repeat first|refine cg ?_|simp -dsimp[h1,h3,q4]
   all_goals(try first|omega|rfl)
 ·cases hF
  repeat first|refine cg ?_|simp -dsimp[h1,q2]
  all_goals(try first|omega|rfl)
theorem C.f41 (s:ByteArray)(at':Int)(r:Pattern×Int)(hF:F.f41 s at'=some r):PureCall Tryz.prog B 127 [.lit (.string s),.lit (.int .i64 at')] (.tup [.agg [.lit (.int .i64 r.1.op),.lit (.int .i64 r.1.ctor),.lit (.int .i64 r.1.n),.lit (.int .i64 r.1.m),.lit (.int .i64 r.1.var),.arr (List.map Pattern.c r.1.kids)],.lit (.int .i64 r.2)]):=by
 unfold F.f41 at hF
 refine PureCall.enterLe Tryz.func127 (by kernel_rfl) rfl Tryz.ntmps127 (by simp) (by simp) ?_
 have hF:=oc hF;obtain⟨c1,hF⟩:=hF
 repeat first|refine cg ?_|simp -dsimp
 have hF:=ob hF;obtain⟨v,e2,hF⟩:=hF
 refine((C.f40 B hB1 hB2 s (IntKind.i64.wrap (at'+1)) 45 v e2)).goW (by simp) (by simp) ?_
 repeat first|refine cg ?_|simp -dsimp
 revert hF;refine abr.sp (fun h3 q4 hF=> ?_) (fun h3 q4 hF=> ?_)
 ·repeat first|refine cg ?_|simp -dsimp[h3]
  revert hF;refine abr.sp ?_ ?_<;>intro h5 q6 hF
  ·have hF:=oc hF;obtain⟨c7,hF⟩:=hF
   repeat first|refine cg ?_|simp -dsimp[h3,h5]
   revert hF;refine abr.sp ?_ ?_<;>intro h8 q9 hF
   ·have z10:(48≤((byteAt s ((IntKind.i64.wrap (at'+2)).toNat):Nat):Int)):=auz
    repeat first|refine cg ?_|simp -dsimp[h3,h5,h8,z10]
    revert hF;refine abr.sp ?_ ?_<;>intro h11 q12 hF
    ·have z13:(((byteAt s ((IntKind.i64.wrap (at'+2)).toNat):Nat):Int)≤57):=auz
     cases hF
     repeat first|refine cg ?_|simp -dsimp[h3,h5,h8,z10,h11,z13]
     all_goals(try first|omega|rfl)
    ·have z13:¬(((byteAt s ((IntKind.i64.wrap (at'+2)).toNat):Nat):Int)≤57):=auz
     cases hF
     repeat first|refine cg ?_|simp -dsimp[h3,h5,h8,z10,h11,q12,z13]
     all_goals(try first|omega|rfl)
   ·have z10:¬(48≤((byteAt s ((IntKind.i64.wrap (at'+2)).toNat):Nat):Int)):=auz
    cases hF
    repeat first|refine cg ?_|simp -dsimp[h3,h5,h8,q9,z10]
    all_goals(try first|omega|rfl)
  ·cases hF
   repeat first|refine cg ?_|simp -dsimp[h3,h5,q6]
   all_goals(try first|omega|rfl)
 ·cases hF
  repeat first|refine cg ?_|simp -dsimp[h3,q4]
  all_goals(try first|omega|rfl)
theorem C.f42 (c':Ctor)(index':Int)(r:Int)(hF:F.f42 c' index'=some r):PureCall Tryz.prog B 153 [.agg [.lit (.string c'.name),.arr (List.map Ty.c c'.args),.lit (.int .i64 c'.index)],.lit (.int .i64 index')] (.lit (.int .i64 r)):=by
 unfold F.f42 at hF
 refine PureCall.enterLe Tryz.func153 (by kernel_rfl) rfl Tryz.ntmps153 (by simp) (by simp) ?_
 repeat first|refine cg ?_|simp -dsimp
 revert hF;refine abr.sp ?_ ?_<;>intro h1 q2 hF
 ·cases hF
  repeat first|refine cg ?_|simp -dsimp[h1]
 ·cases hF
  repeat first|refine cg ?_|simp -dsimp[q2]
theorem CC.f43 (t:Ty)(x2:Ctor):(∀(out:List Ty) (i:Nat) (o:List Ty),F.f43 t x2 out i=some o→∀(c:Code),navO [1,1,1,0,1,0,0] (bodyOf Tryz.f104)=some c→∀(Q:Exit→ASt→Prop),(Q (.exit 0) ⟨[(7,.own 1 (List.length (α:=Ty) o))],[.dead,.elems 2 (List.map Ty.c o)]⟩)→ALoopU Tryz.prog B 0 46 (hold c .mk) ⟨[(4,.ptr 0 0),(7,.own 1 (List.length (α:=Ty) out)),(8,.ptr 2 0),(9,.lit (.int .i64 (i:Int)))],[.cells [.lit (.int .i64 t.data),.lit (.int .i64 t.index)],.elems 2 (List.map Ty.c out),.cells [.lit (.string x2.name),.arr (List.map Ty.c x2.args),.lit (.int .i64 x2.index)]]⟩ (hold Q .mk)):=by
 refine F.f43.partial_correctness t x2
  _
  ?_
 ·intro _f_f43 ih_f43 out i o hF
  intro c hc Q hq
  obtain rfl:c=_:=navEq hc rfl
  refine ALoopU.know fun hk hs=> ?_
  have d1:=hs 1 _ rfl
  simp -dsimp[Blk.bnd]at d1
  have d2:=hs 2 _ rfl
  simp -dsimp[Blk.bnd]at d2
  clear hk hs
  refine ALoopU.enter ?_
  repeat first|refine cg ?_|simp -dsimp
  revert hF;refine abr.sp ?_ ?_<;>intro h4 q5 hF
  ·have z6:((i:Int)<(x2.args.length:Int)):=auz
   have hF:=ob hF;obtain⟨x7,e8,hF⟩:=hF
   have le8:=lt_of_get e8
   repeat first|refine cg ?_|simp -dsimp[h4,z6,↓e8]
   revert hF;refine abr.sp ?_ ?_<;>intro h9 q10 hF
   ·repeat first|refine cg ?_|simp -dsimp[h9]
    have hF:=ob hF;obtain⟨v,e11,hF⟩:=hF
    refine((C.f42 B hB1 hB2 x2 t.index v e11)).goW (by simp_all) (by simp) ?_
    have hF:=oc hF;obtain⟨c12,hF⟩:=hF
    have w13:IntKind.i64.wrap ((i:Int)+1)=(i:Int)+1:=wrap_in (by omega) (by omega)
    repeat first|refine cg ?_|simp -dsimp[w13]
    refine Again.go _ ?_ ((ih_f43 (out++[(⟨x7.data,v⟩:Ty)]) (i+1) o hF) _ rfl _ hq)
    exact(Gh.to3 (by simp) (by simp_all))
   ·have hF:=oc hF;obtain⟨c14,hF⟩:=hF
    have w15:IntKind.i64.wrap ((i:Int)+1)=(i:Int)+1:=wrap_in (by omega) (by omega)
    repeat first|refine cg ?_|simp -dsimp[q10,w15]
    refine Again.go _ ?_ ((ih_f43 (out++[x7]) (i+1) o hF) _ rfl _ hq)
    exact(Gh.to3 (by simp) (by simp_all))
  ·have z6:¬((i:Int)<(x2.args.length:Int)):=auz
   cases hF
   repeat first|refine cg ?_|simp -dsimp[h4,q5,z6]
   refine Leave.go _ (Gh.to3 (by simp) (by simp_all)) hq
theorem C.f44 (w:List Vl.Data)(t:Ty)(ctor:Int)(r:List Ty)(hF:F.f44 w t ctor=some r):PureCall Tryz.prog B 104 [.arr (List.map Vl.Data.c w),.agg [.lit (.int .i64 t.data),.lit (.int .i64 t.index)],.lit (.int .i64 ctor)] (.arr (List.map Ty.c r)):=by
 unfold F.f44 at hF
 refine PureCall.enterLe Tryz.func104 (by kernel_rfl) rfl Tryz.ntmps104 (by simp) (by simp) ?_
 have hF:=ob hF;obtain⟨x,e1a,hF⟩:=hF
 have e1a:=at_some e1a;obtain⟨ne1,e1⟩:=e1a
 have le1:=lt_of_get e1
 have hF:=ob hF;obtain⟨x2,e3a,hF⟩:=hF
 have e3a:=at_some e3a;obtain⟨ne3,e3⟩:=e3a
 have le3:=lt_of_get e3
 repeat first|refine cg ?_|simp -dsimp[↓e1,↓e3]
 have hF:=ob hF;obtain⟨o',ho16,hF⟩:=hF
 refine ALoop.goU _ ?_ (((CC.f43 B hB1 hB2 t x2) [] 0 o' ho16) _ rfl _ ?_)
 ·exact(Gh.to3 (by simp) (by simp_all))
 cases hF
 repeat first|refine cg ?_|simp -dsimp
theorem CC.f45 (s:ByteArray)(at':Int):(∀(end':Int) (o:Int),F.f45 s at' end'=some o→∀(c:Code),navO [1,1,0,0,0] (bodyOf Tryz.f130)=some c→∀(Q:Exit→ASt→Prop),(Q (.exit 0) ⟨[(0,.lit (.string s)),(1,.lit (.int .i64 at')),(6,.lit (.int .i64 o))],[]⟩)→ALoopU Tryz.prog B 0 47 (hold c .mk) ⟨[(0,.lit (.string s)),(1,.lit (.int .i64 at')),(6,.lit (.int .i64 end'))],[]⟩ (hold Q .mk)):=by
 refine F.f45.partial_correctness s at'
  _
  ?_
 ·intro _f_f45 ih_f45 end' o hF
  intro c hc Q hq
  obtain rfl:c=_:=navEq hc rfl
  refine ALoopU.know fun hk hs=> ?_
  clear hk hs
  refine ALoopU.enter ?_
  repeat first|refine cg ?_|simp -dsimp
  revert hF;refine abr.sp ?_ ?_<;>intro h1 q2 hF
  ·repeat first|refine cg ?_|simp -dsimp[h1]
   revert hF;refine abr.sp ?_ ?_<;>intro h3 q4 hF
   ·have hF:=oc hF;obtain⟨c5,hF⟩:=hF
    repeat first|refine cg ?_|simp -dsimp[h1,eq_true h3]
    have hF:=ob hF;obtain⟨v,e6,hF⟩:=hF
    refine((C.f10 B hB1 hB2 ((byteAt s end'.toNat:Nat):Int) v e6)).goW (by first|simp[h1,eq_true h3];done|simp_all) (by simp) ?_
    repeat first|refine cg ?_|simp -dsimp[h1,eq_true h3]
    revert hF;refine abr.ns (fun h7 q8 hF=> ?_) (fun h7 q8 hF=> ?_)
    ·repeat first|refine cg ?_|simp -dsimp[h1,eq_true h3,h7,q8]
     revert hF;refine abr.sp ?_ ?_<;>intro h9 q10 hF
     ·repeat first|refine cg ?_|simp -dsimp[h1,eq_true h3,h7,q8,h9]
      revert hF;refine abr.sp ?_ ?_<;>intro h11 q12 hF
      ·have z13:(97≤((byteAt s end'.toNat:Nat):Int)):=auz
       repeat first|refine cg ?_|simp -dsimp[h1,eq_true h3,h7,q8,h9,h11,z13]
       revert hF;refine abr.sp ?_ ?_<;>intro h14 q15 hF
       ·have z16:(((byteAt s end'.toNat:Nat):Int)≤122):=auz
        repeat first|refine cg ?_|simp -dsimp[h1,eq_true h3,h7,q8,h9,h11,z13,h14,z16]
        refine Again.go _ ?_ ((ih_f45 (IntKind.i64.wrap (end'+1)) o hF) _ rfl _ hq)
        exact(Gh.to3 (by simp) (by first|simp -dsimp[h1,eq_true h3,h7,q8,h9,h11,z13,h14,z16];done|simp_all))
       ·have z16:¬(((byteAt s end'.toNat:Nat):Int)≤122):=auz
        cases hF
        repeat first|refine cg ?_|simp -dsimp[h1,eq_true h3,h7,q8,h9,h11,z13,h14,q15,z16]
        refine Leave.go _ (Gh.to3 (by simp) (by first|simp -dsimp[h1,eq_true h3,h7,q8,h9,h11,z13,h14,q15,z16];done|simp_all)) hq
      ·have z13:¬(97≤((byteAt s end'.toNat:Nat):Int)):=auz
       cases hF
       repeat first|refine cg ?_|simp -dsimp[h1,eq_true h3,h7,q8,h9,h11,q12,z13]
       refine Leave.go _ (Gh.to3 (by simp) (by first|simp -dsimp[h1,eq_true h3,h7,q8,h9,h11,q12,z13];done|simp_all)) hq
     ·cases hF
      repeat first|refine cg ?_|simp -dsimp[h1,eq_true h3,h7,q8,h9,q10]
      refine Leave.go _ (Gh.to3 (by simp) (by first|simp -dsimp[h1,eq_true h3,h7,q8,h9,q10];done|simp_all)) hq
    ·repeat first|refine cg ?_|simp -dsimp[h1,eq_true h3,h7,q8]
     refine Again.go _ ?_ ((ih_f45 (IntKind.i64.wrap (end'+1)) o hF) _ rfl _ hq)
     exact(Gh.to3 (by simp) (by first|simp -dsimp[h1,eq_true h3,h7,q8];done|simp_all))
   ·repeat first|refine cg ?_|simp -dsimp[h1,h3,q4]
    revert hF;refine abr.sp ?_ ?_<;>intro h17 q18 hF
    ·have hF:=oc hF;obtain⟨c19,hF⟩:=hF
     repeat first|refine cg ?_|simp -dsimp[h1,h3,q4,h17]
     revert hF;refine abr.sp ?_ ?_<;>intro h20 q21 hF
     ·have z22:(97≤((byteAt s end'.toNat:Nat):Int)):=auz
      repeat first|refine cg ?_|simp -dsimp[h1,h3,q4,h17,h20,z22]
      revert hF;refine abr.sp ?_ ?_<;>intro h23 q24 hF
      ·have z25:(((byteAt s end'.toNat:Nat):Int)≤122):=auz
       repeat first|refine cg ?_|simp -dsimp[h1,h3,q4,h17,h20,z22,h23,z25]
       refine Again.go _ ?_ ((ih_f45 (IntKind.i64.wrap (end'+1)) o hF) _ rfl _ hq)
       exact(Gh.to3 (by simp) (by first|simp -dsimp[h1,h3,q4,h17,h20,z22,h23,z25];done|simp_all))
      ·have z25:¬(((byteAt s end'.toNat:Nat):Int)≤122):=auz
       cases hF
       repeat first|refine cg ?_|simp -dsimp[h1,h3,q4,h17,h20,z22,h23,q24,z25]
       refine Leave.go _ (Gh.to3 (by simp) (by first|simp -dsimp[h1,h3,q4,h17,h20,z22,h23,q24,z25];done|simp_all)) hq
     ·have z22:¬(97≤((byteAt s end'.toNat:Nat):Int)):=auz
      cases hF
      repeat first|refine cg ?_|simp -dsimp[h1,h3,q4,h17,h20,q21,z22]
      refine Leave.go _ (Gh.to3 (by simp) (by first|simp -dsimp[h1,h3,q4,h17,h20,q21,z22];done|simp_all)) hq
    ·cases hF
     repeat first|refine cg ?_|simp -dsimp[h1,h3,q4,h17,q18]
     refine Leave.go _ (Gh.to3 (by simp) (by first|simp -dsimp[h1,h3,q4,h17,q18];done|simp_all)) hq
  ·cases hF
   repeat first|refine cg ?_|simp -dsimp[h1,q2]
   refine Leave.go _ (Gh.to3 (by simp) (by first|simp -dsimp[h1,q2];done|simp_all)) hq
theorem C.f46 (s:ByteArray)(at':Int)(r:ByteArray×Int)(hF:F.f46 s at'=some r):PureCall Tryz.prog B 130 [.lit (.string s),.lit (.int .i64 at')] (.tup [.lit (.string r.1),.lit (.int .i64 r.2)]):=by
 unfold F.f46 at hF
 refine PureCall.enterLe Tryz.func130 (by kernel_rfl) rfl Tryz.ntmps130 (by simp) (by simp) ?_
 repeat first|refine cg ?_|simp -dsimp
 have hF:=ob hF;obtain⟨o',ho26,hF⟩:=hF
 refine ALoop.goU _ ?_ (((CC.f45 B hB1 hB2 s at') at' o' ho26) _ rfl _ ?_)
 ·exact(Gh.to3 (by simp) (by simp -dsimp))
 have hF:=oc hF;obtain⟨c27,hF⟩:=hF
 cases hF
 repeat first|refine cg ?_|simp -dsimp
 all_goals(try first|omega|rfl)
theorem CC.f47 (w:List Vl.Data)(t:Ty)(name:ByteArray)(v:List Int):(∀(i:Nat) (o:Lo Int Unit),F.f47 w t name v i=some o→∀(c:Code),navO [1,1,0,1,0,0] (bodyOf Tryz.f131)=some c→∀(Q:Exit→ASt→Prop),o.post (fun r=>∀st,Post Tryz.prog Tryz.f131 (fun r' _=>r'.le (.lit (.int .i64 r))) .ret st→Q .ret st) (fun s=>Q (.exit 0) ⟨[],[]⟩)→ALoopU Tryz.prog B 0 37 (hold c .mk) ⟨[(0,.arr (List.map Vl.Data.c w)),(2,.lit (.string name)),(4,.ptr 0 0),(7,.arr (List.map cI v)),(8,.lit (.int .i64 (i:Int)))],[.cells [.lit (.int .i64 t.data),.lit (.int .i64 t.index)]]⟩ (hold Q .mk)):=by
 refine F.f47.partial_correctness w t name v
  _
  ?_
 ·intro _f_f47 ih_f47 i o hF
  intro c hc Q hq
  obtain rfl:c=_:=navEq hc rfl
  refine ALoopU.know fun hk hs=> ?_
  have b0:=hk 0
  simp -dsimp at b0
  have b7:=hk 7
  simp -dsimp at b7
  clear hk hs
  refine ALoopU.enter ?_
  repeat first|refine cg ?_|simp -dsimp
  revert hF;refine abr.sp ?_ ?_<;>intro h2 q3 hF
  ·have z4:((i:Int)<(v.length:Int)):=auz
   repeat first|refine cg ?_|simp -dsimp[h2,z4]
   refine ADraw.simple follows (by kernel_rfl) (by kernel_rfl) ?_
   have hF:=ob hF;obtain⟨x,e5a,hF⟩:=hF
   have e5a:=at_some e5a;obtain⟨ne5,e5⟩:=e5a
   have le5:=lt_of_get e5
   have hF:=ob hF;obtain⟨x6,e7,hF⟩:=hF
   have le7:=lt_of_get e7
   have hF:=ob hF;obtain⟨x8,e9a,hF⟩:=hF
   have e9a:=at_some e9a;obtain⟨ne9,e9⟩:=e9a
   have le9:=lt_of_get e9
   repeat first|refine cg ?_|simp -dsimp[h2,z4,↓e5,↓e7,↓e9]
   revert hF;refine abr.sp ?_ ?_<;>intro h10 q11 hF
   ·cases hF
    repeat first|refine cg ?_|simp -dsimp[h2,z4,↓e5,↓e7,↓e9,h10]
    refine Leave.go _ (Gh.refl _) (hq _ ?_)
    repeat first|refine cg ?_|simp -dsimp[h2,z4,↓e5,↓e7,↓e9,h10]
   ·have w12:IntKind.i64.wrap ((i:Int)+1)=(i:Int)+1:=wrap_in (by omega) (by omega)
    repeat first|refine cg ?_|simp -dsimp[h2,z4,↓e5,↓e7,↓e9,h10,q11,w12]
    refine Again.go _ ?_ ((ih_f47 (i+1) o hF) _ rfl _ hq)
    exact(Gh.to3 (by simp) (by first|simp -dsimp[h2,z4,↓e5,↓e7,↓e9,h10,q11,w12];done|simp_all))
  ·have z4:¬((i:Int)<(v.length:Int)):=auz
   cases hF
   repeat first|refine cg ?_|simp -dsimp[h2,q3,z4]
   refine Leave.go _ (Gh.to3 (by simp) (by first|simp -dsimp[h2,q3,z4];done|simp_all)) hq
theorem C.f48 (c':Ctor)(index':Int)(r:Bool)(hF:F.f48 c' index'=some r):PureCall Tryz.prog B 154 [.agg [.lit (.string c'.name),.arr (List.map Ty.c c'.args),.lit (.int .i64 c'.index)],.lit (.int .i64 index')] (.lit (.bool r)):=by
 unfold F.f48 at hF
 refine PureCall.enterLe Tryz.func154 (by kernel_rfl) rfl Tryz.ntmps154 (by simp) (by simp) ?_
 repeat first|refine cg ?_|simp -dsimp
 revert hF;refine abr.ns ?_ ?_<;>intro h1 q2 hF
 ·repeat first|refine cg ?_|simp -dsimp[h1,q2]
  revert hF;refine abr.ns ?_ ?_<;>intro h3 q4 hF
  ·cases hF
   repeat first|refine cg ?_|simp -dsimp[h1,q2,h3,q4]
  ·cases hF
   repeat first|refine cg ?_|simp -dsimp[h1,q2,eq_true h3,eq_true q4]
 ·cases hF
  repeat first|refine cg ?_|simp -dsimp[h1,q2]
theorem CC.f49 (w:List Vl.Data)(t:Ty):(∀(out:List Int) (k:Nat) (o:List Int),F.f49 w t out k=some o→∀(c:Code),navO [1,1,1,0,1,0,0] (bodyOf Tryz.f105)=some c→∀(Q:Exit→ASt→Prop),(Q (.exit 0) ⟨[(5,.own 1 (List.length (α:=Int) o))],[.dead,.elems 1 (List.map cI o)]⟩)→ALoopU Tryz.prog B 0 40 (hold c .mk) ⟨[(0,.arr (List.map Vl.Data.c w)),(3,.ptr 0 0),(5,.own 1 (List.length (α:=Int) out)),(6,.lit (.int .i64 (k:Int)))],[.cells [.lit (.int .i64 t.data),.lit (.int .i64 t.index)],.elems 1 (List.map cI out)]⟩ (hold Q .mk)):=by
 refine F.f49.partial_correctness w t
  _
  ?_
 ·intro _f_f49 ih_f49 out k o hF
  intro c hc Q hq
  obtain rfl:c=_:=navEq hc rfl
  refine ALoopU.know fun hk hs=> ?_
  have b0:=hk 0
  simp -dsimp at b0
  have d1:=hs 1 _ rfl
  simp -dsimp[Blk.bnd]at d1
  clear hk hs
  refine ALoopU.enter ?_
  have hF:=ob hF;obtain⟨x,e3a,hF⟩:=hF
  have e3a:=at_some e3a;obtain⟨ne3,e3⟩:=e3a
  have le3:=lt_of_get e3
  repeat first|refine cg ?_|simp -dsimp[↓e3]
  revert hF;refine abr.sp ?_ ?_<;>intro h4 q5 hF
  ·have z6:((k:Int)<(x.ctors.length:Int)):=auz
   repeat first|refine cg ?_|simp -dsimp[↓e3,h4,z6]
   refine ADraw.simple follows (by kernel_rfl) (by kernel_rfl) ?_
   have hF:=ob hF;obtain⟨x7,e8,hF⟩:=hF
   have le8:=lt_of_get e8
   repeat first|refine cg ?_|simp -dsimp[↓e3,↓e8]
   have hF:=ob hF;obtain⟨v,e9,hF⟩:=hF
   refine((C.f48 B hB1 hB2 x7 t.index v e9)).pgoW (by simp_all) (by simp) ?_
   repeat first|refine cg ?_|simp -dsimp[↓e3,↓e8]
   revert hF;refine abr.sp (fun h10 q11 hF=> ?_) (fun h10 q11 hF=> ?_)
   ·have hF:=oc hF;obtain⟨c12,hF⟩:=hF
    have hF:=oc hF;obtain⟨c13,hF⟩:=hF
    have w14:IntKind.i64.wrap ((k:Int)+1)=(k:Int)+1:=wrap_in (by omega) (by omega)
    repeat first|refine cg ?_|simp -dsimp[↓e3,↓e8,h10,w14]
    refine Again.go _ ?_ ((ih_f49 (out++[(k:Int)]) (k+1) o hF) _ rfl _ hq)
    exact(Gh.to3 (by simp) (by simp_all))
   ·have hF:=oc hF;obtain⟨c15,hF⟩:=hF
    have w16:IntKind.i64.wrap ((k:Int)+1)=(k:Int)+1:=wrap_in (by omega) (by omega)
    repeat first|refine cg ?_|simp -dsimp[↓e3,↓e8,h10,q11,w16]
    refine Again.go _ ?_ ((ih_f49 out (k+1) o hF) _ rfl _ hq)
    exact(Gh.to3 (by simp) (by simp_all))
  ·have z6:¬((k:Int)<(x.ctors.length:Int)):=auz
   cases hF
   repeat first|refine cg ?_|simp -dsimp[↓e3,h4,q5,z6]
   refine Leave.go _ (Gh.to3 (by simp) (by simp_all)) hq
theorem C.f50 (w:List Vl.Data)(t:Ty)(r:List Int)(hF:F.f50 w t=some r):PureCall Tryz.prog B 105 [.arr (List.map Vl.Data.c w),.agg [.lit (.int .i64 t.data),.lit (.int .i64 t.index)]] (.arr (List.map cI r)):=by
 unfold F.f50 at hF
 refine PureCall.enterLe Tryz.func105 (by kernel_rfl) rfl Tryz.ntmps105 (by simp) (by simp) ?_
 repeat first|refine cg ?_|simp -dsimp
 revert hF;refine abr.sp ?_ ?_<;>intro h1 q2 hF
 ·cases hF
  repeat first|refine cg ?_|simp -dsimp[h1]
 ·repeat first|refine cg ?_|simp -dsimp[q2]
  have hF:=ob hF;obtain⟨o',ho17,hF⟩:=hF
  refine ALoop.goU _ ?_ (((CC.f49 B hB1 hB2 w t) [] 0 o' ho17) _ rfl _ ?_)
  ·exact(Gh.to3 (by simp) (by simp_all))
  cases hF
  repeat first|refine cg ?_|simp -dsimp
theorem C.f51 (w:List Vl.Data)(t:Ty)(name:ByteArray)(r:Int)(hF:F.f51 w t name=some r):PureCall Tryz.prog B 131 [.arr (List.map Vl.Data.c w),.agg [.lit (.int .i64 t.data),.lit (.int .i64 t.index)],.lit (.string name)] (.lit (.int .i64 r)):=by
 unfold F.f51 at hF
 refine PureCall.enterLe Tryz.func131 (by kernel_rfl) rfl Tryz.ntmps131 (by simp) (by simp) ?_
 repeat first|refine cg ?_|simp -dsimp
 have hF:=ob hF;obtain⟨v,e1,hF⟩:=hF
 refine((C.f50 B hB1 hB2 w t v e1)).goW (by simp) (by simp) ?_
 repeat first|refine cg ?_|simp -dsimp
 have hF:=ob hF;obtain⟨o',ho13,hF⟩:=hF
 refine ALoop.goU _ ?_ (((CC.f47 B hB1 hB2 w t name v) 0 o' ho13) _ rfl _ ?_)
 ·exact(Gh.to3 (by simp) (by simp -dsimp))
 rcases o' with r0|sx
 ·dsimp only at hF
  cases hF
  intro st h
  simpa using h
 ·dsimp only at hF
  cases hF
  repeat first|refine cg ?_|simp -dsimp
  all_goals(try first|omega|rfl)
theorem CC.f52 (w:List Vl.Data)(s:ByteArray):(∀(types':List Ty) (signs:List Int) (at':Int) (depth:Int) (r:(List Pattern)×Int),F.f52 w types' signs s at' depth=some r→PureCall Tryz.prog B 128 [.arr (List.map Vl.Data.c w),.arr (List.map Ty.c types'),.arr (List.map cU signs),.lit (.string s),.lit (.int .i64 at'),.lit (.int .i64 depth)] (.tup [.arr (List.map Pattern.c r.1),.lit (.int .i64 r.2)]))∧
  (∀(types':List Ty) (signs:List Int) (depth:Int) (out:List Pattern) (i:Nat) (at'1:Int) (o:Lo ((List Pattern)×Int) ((List Pattern)×Int)),F.f54 w types' signs s depth out i at'1=some o→∀(c:Code),navO [1,1,0,1,0,0] (bodyOf Tryz.f128)=some c→∀(Q:Exit→ASt→Prop),o.post (fun r=>∀st,Post Tryz.prog Tryz.f128 (fun r' _=>r'.le (.tup [.arr (List.map Pattern.c r.1),.lit (.int .i64 r.2)])) .ret st→Q .ret st) (fun s=>Q (.exit 0) ⟨[(4,.lit (.int .i64 s.2)),(14,.own 0 (List.length (α:=Pattern) s.1))],[.elems 6 (List.map Pattern.c s.1)]⟩)→ALoopU Tryz.prog B 0 53 (hold c .mk) ⟨[(0,.arr (List.map Vl.Data.c w)),(1,.arr (List.map Ty.c types')),(2,.arr (List.map cU signs)),(3,.lit (.string s)),(4,.lit (.int .i64 at'1)),(5,.lit (.int .i64 depth)),(14,.own 0 (List.length (α:=Pattern) out)),(15,.lit (.int .i64 (i:Int)))],[.elems 6 (List.map Pattern.c out)]⟩ (hold Q .mk))∧
  (∀(t:Ty) (at':Int) (depth:Int) (r:Pattern×Int),F.f53 w t s at' depth=some r→PureCall Tryz.prog B 75 [.arr (List.map Vl.Data.c w),.agg [.lit (.int .i64 t.data),.lit (.int .i64 t.index)],.lit (.string s),.lit (.int .i64 at'),.lit (.int .i64 depth)] (.tup [.agg [.lit (.int .i64 r.1.op),.lit (.int .i64 r.1.ctor),.lit (.int .i64 r.1.n),.lit (.int .i64 r.1.m),.lit (.int .i64 r.1.var),.arr (List.map Pattern.c r.1.kids)],.lit (.int .i64 r.2)])):=by
 refine F.f52.mutual_partial_correctness w s
  _ _ _
  ?_ ?_ ?_
 ·intro _f_f54 ih_f54 types' signs at' depth r hF
  refine PureCall.enterLe Tryz.func128 (by kernel_rfl) rfl Tryz.ntmps128 (by simp) (by simp) ?_
  repeat first|refine cg ?_|simp -dsimp
  have hF:=ob hF;obtain⟨o',ho15,hF⟩:=hF
  refine ALoop.goU _ ?_ ((ih_f54 types' signs depth [] 0 at' o' ho15) _ rfl _ ?_)
  ·exact(Gh.to3 (by simp) (by simp -dsimp))
  rcases o' with r0|sx
  ·dsimp only at hF
   cases hF
   intro st h
   simpa using h
  ·dsimp only at hF
   cases hF
   repeat first|refine cg ?_|simp -dsimp
   all_goals(try first|omega|rfl)
 ·intro _f_f54 _f_f53 ih_f54 ih_f53 types' signs depth out i at'1 o hF
  intro c hc Q hq
  obtain rfl:c=_:=navEq hc rfl
  refine ALoopU.know fun hk hs=> ?_
  have b0:=hk 0
  simp -dsimp at b0
  have b1:=hk 1
  simp -dsimp at b1
  have b2:=hk 2
  simp -dsimp at b2
  have d0:=hs 0 _ rfl
  simp -dsimp[Blk.bnd]at d0
  clear hk hs
  refine ALoopU.enter ?_
  repeat first|refine cg ?_|simp -dsimp
  revert hF;refine abr.sp ?_ ?_<;>intro h2 q3 hF
  ·have z4:((i:Int)<(types'.length:Int)):=auz
   have hF:=ob hF;obtain⟨x,e5,hF⟩:=hF
   have le5:=lt_of_get e5
   repeat first|refine cg ?_|simp -dsimp[h2,z4,↓e5]
   have hF:=ob hF;obtain⟨v,e6,hF⟩:=hF
   refine((C.f40 B hB1 hB2 s at'1 x v e6)).goW (by first|simp[h2,z4,↓e5];done|simp_all) (by simp) ?_
   repeat first|refine cg ?_|simp -dsimp[h2,z4,↓e5]
   revert hF;refine abr.ns (fun h7 q8 hF=> ?_) (fun h7 q8 hF=> ?_)
   ·cases hF
    repeat first|refine cg ?_|simp -dsimp[h2,z4,↓e5,h7,q8]
    refine Leave.go _ (Gh.refl _) (hq _ ?_)
    repeat first|refine cg ?_|simp -dsimp[h2,z4,↓e5,h7,q8]
   ·have hF:=ob hF;obtain⟨x9,e10,hF⟩:=hF
    have le10:=lt_of_get e10
    repeat first|refine cg ?_|simp -dsimp[h2,z4,↓e5,h7,q8,↓e10]
    have hF:=ob hF;obtain⟨v11,e12,hF⟩:=hF
    refine((ih_f53 x9 (IntKind.i64.wrap (at'1+1)) depth v11 e12)).goW (by first|simp[h2,z4,↓e5,h7,q8,↓e10];done|simp_all) (by simp) ?_
    have hF:=oc hF;obtain⟨c13,hF⟩:=hF
    have w14:IntKind.i64.wrap ((i:Int)+1)=(i:Int)+1:=wrap_in (by omega) (by omega)
    repeat first|refine cg ?_|simp -dsimp[h2,z4,↓e5,h7,q8,↓e10,w14]
    refine Again.go _ ?_ ((ih_f54 types' signs depth (out++[v11.1]) (i+1) v11.2 o hF) _ rfl _ hq)
    exact(Gh.to3 (by simp) (by first|simp -dsimp[h2,z4,↓e5,h7,q8,↓e10,w14];done|simp_all))
  ·have z4:¬((i:Int)<(types'.length:Int)):=auz
   cases hF
   repeat first|refine cg ?_|simp -dsimp[h2,q3,z4]
   refine Leave.go _ (Gh.to3 (by simp) (by first|simp -dsimp[h2,q3,z4];done|simp_all)) hq
 ·intro _f_f52 ih_f52 t at' depth r hF
  refine PureCall.enterLe Tryz.func75 (by kernel_rfl) rfl Tryz.ntmps75 (by simp) (by simp) ?_
  repeat first|refine cg ?_|simp -dsimp
  revert hF;refine abr.ns ?_ ?_<;>intro h1 q2 hF
  ·repeat first|refine cg ?_|simp -dsimp[h1,q2]
   revert hF;refine abr.ns ?_ ?_<;>intro h3 q4 hF
   ·repeat first|refine cg ?_|simp -dsimp[h1,q2,h3,q4]
    revert hF;refine abr.sp ?_ ?_<;>intro h5 q6 hF
    ·cases hF
     repeat first|refine cg ?_|simp -dsimp[h1,q2,h3,q4,h5]
     all_goals(try first|omega|rfl)
    ·have hF:=oc hF;obtain⟨c7,hF⟩:=hF
     repeat first|refine cg ?_|simp -dsimp[h1,q2,h3,q4,h5,q6]
     revert hF;refine abr.sp ?_ ?_<;>intro h8 q9 hF
     ·have z10:(((byteAt s at'.toNat:Nat):Int)=95):=auz
      cases hF
      repeat first|refine cg ?_|simp -dsimp[h1,q2,h3,q4,h5,q6,h8,z10]
      all_goals(try first|omega|rfl)
     ·have z10:¬(((byteAt s at'.toNat:Nat):Int)=95):=auz
      repeat first|refine cg ?_|simp -dsimp[h1,q2,h3,q4,h5,q6,h8,q9,z10]
      revert hF;refine abr.sp ?_ ?_<;>intro h11 q12 hF
      ·have z13:(48≤((byteAt s at'.toNat:Nat):Int)):=auz
       repeat first|refine cg ?_|simp -dsimp[h1,q2,h3,q4,h5,q6,h8,q9,z10,h11,z13]
       revert hF;refine abr.sp ?_ ?_<;>intro h14 q15 hF
       ·have z16:(((byteAt s at'.toNat:Nat):Int)≤57):=auz
        repeat first|refine cg ?_|simp -dsimp[h1,q2,h3,q4,h5,q6,h8,q9,z10,h11,z13,h14,z16]
        have hF:=ob hF;obtain⟨v,e17,hF⟩:=hF
        refine((C.f41 B hB1 hB2 s at' v e17)).goW (by first|simp[h1,q2,h3,q4,h5,q6,h8,q9,z10,h11,z13,h14,z16];done|simp_all) (by simp) ?_
        cases hF
        repeat first|refine cg ?_|simp -dsimp[h1,q2,h3,q4,h5,q6,h8,q9,z10,h11,z13,h14,z16]
        all_goals(try first|omega|rfl)
       ·have z16:¬(((byteAt s at'.toNat:Nat):Int)≤57):=auz
        repeat first|refine cg ?_|simp -dsimp[h1,q2,h3,q4,h5,q6,h8,q9,z10,h11,z13,h14,q15,z16]
        revert hF;refine abr.sp ?_ ?_<;>intro h18 q19 hF
        ·have z20:(((byteAt s at'.toNat:Nat):Int)=40):=auz
         repeat first|refine cg ?_|simp -dsimp[h1,q2,h3,q4,h5,q6,h8,q9,z10,h11,z13,h14,q15,z16,h18,z20]
         have hF:=ob hF;obtain⟨v21,e22,hF⟩:=hF
         refine ACall.frz ?_ ((ih_f52 [t,t] [40,124] at' (IntKind.i64.wrap (depth-1)) v21 e22)).ent
         repeat first|refine cg ?_|simp -dsimp[h1,q2,h3,q4,h5,q6,h8,q9,z10,h11,z13,h14,q15,z16,h18,z20]
         refine((ih_f52 [t,t] [40,124] at' (IntKind.i64.wrap (depth-1)) v21 e22)).goW (by first|simp[h1,q2,h3,q4,h5,q6,h8,q9,z10,h11,z13,h14,q15,z16,h18,z20];done|simp_all) (by simp) ?_
         repeat first|refine cg ?_|simp -dsimp[h1,q2,h3,q4,h5,q6,h8,q9,z10,h11,z13,h14,q15,z16,h18,z20]
         have hF:=ob hF;obtain⟨v23,e24,hF⟩:=hF
         refine((C.f40 B hB1 hB2 s v21.2 41 v23 e24)).goW (by first|simp[h1,q2,h3,q4,h5,q6,h8,q9,z10,h11,z13,h14,q15,z16,h18,z20];done|simp_all) (by simp) ?_
         repeat first|refine cg ?_|simp -dsimp[h1,q2,h3,q4,h5,q6,h8,q9,z10,h11,z13,h14,q15,z16,h18,z20]
         revert hF;refine abr.ns (fun h25 q26 hF=> ?_) (fun h25 q26 hF=> ?_)
         ·cases hF
          repeat first|refine cg ?_|simp -dsimp[h1,q2,h3,q4,h5,q6,h8,q9,z10,h11,z13,h14,q15,z16,h18,z20,h25,q26]
          all_goals(try first|omega|rfl)
         ·cases hF
          repeat first|refine cg ?_|simp -dsimp[h1,q2,h3,q4,h5,q6,h8,q9,z10,h11,z13,h14,q15,z16,h18,z20,h25,q26]
          all_goals(try first|omega|rfl)
        ·have z20:¬(((byteAt s at'.toNat:Nat):Int)=40):=auz
         repeat first|refine cg ?_|simp -dsimp[h1,q2,h3,q4,h5,q6,h8,q9,z10,h11,z13,h14,q15,z16,h18,q19,z20]
         revert hF;refine abr.sp ?_ ?_<;>intro h27 q28 hF
         ·have z29:(97≤((byteAt s at'.toNat:Nat):Int)):=auz
          repeat first|refine cg ?_|simp -dsimp[h1,q2,h3,q4,h5,q6,h8,q9,z10,h11,z13,h14,q15,z16,h18,q19,z20,h27,z29]
          revert hF;refine abr.sp ?_ ?_<;>intro h30 q31 hF
          ·have z32:(((byteAt s at'.toNat:Nat):Int)≤122):=auz
           repeat first|refine cg ?_|simp -dsimp[h1,q2,h3,q4,h5,q6,h8,q9,z10,h11,z13,h14,q15,z16,h18,q19,z20,h27,z29,h30,z32]
           have hF:=ob hF;obtain⟨v33,e34,hF⟩:=hF
           refine((C.f40 B hB1 hB2 s (IntKind.i64.wrap (at'+1)) 64 v33 e34)).goW (by first|simp[h1,q2,h3,q4,h5,q6,h8,q9,z10,h11,z13,h14,q15,z16,h18,q19,z20,h27,z29,h30,z32];done|simp_all) (by simp) ?_
           repeat first|refine cg ?_|simp -dsimp[h1,q2,h3,q4,h5,q6,h8,q9,z10,h11,z13,h14,q15,z16,h18,q19,z20,h27,z29,h30,z32]
           revert hF;refine abr.sp (fun h35 q36 hF=> ?_) (fun h35 q36 hF=> ?_)
           ·repeat first|refine cg ?_|simp -dsimp[h1,q2,h3,q4,h5,q6,h8,q9,z10,h11,z13,h14,q15,z16,h18,q19,z20,h27,z29,h30,z32,h35]
            have hF:=ob hF;obtain⟨v37,e38,hF⟩:=hF
            refine ACall.frz ?_ ((ih_f52 [t] [64] (IntKind.i64.wrap (at'+1)) (IntKind.i64.wrap (depth-1)) v37 e38)).ent
            repeat first|refine cg ?_|simp -dsimp[h1,q2,h3,q4,h5,q6,h8,q9,z10,h11,z13,h14,q15,z16,h18,q19,z20,h27,z29,h30,z32,h35]
            refine((ih_f52 [t] [64] (IntKind.i64.wrap (at'+1)) (IntKind.i64.wrap (depth-1)) v37 e38)).goW (by first|simp[h1,q2,h3,q4,h5,q6,h8,q9,z10,h11,z13,h14,q15,z16,h18,q19,z20,h27,z29,h30,z32,h35];done|simp_all) (by simp) ?_
            cases hF
            repeat first|refine cg ?_|simp -dsimp[h1,q2,h3,q4,h5,q6,h8,q9,z10,h11,z13,h14,q15,z16,h18,q19,z20,h27,z29,h30,z32,h35]
            all_goals(try first|omega|rfl)
           ·cases hF
            repeat first|refine cg ?_|simp -dsimp[h1,q2,h3,q4,h5,q6,h8,q9,z10,h11,z13,h14,q15,z16,h18,q19,z20,h27,z29,h30,z32,h35,q36]
            all_goals(try first|omega|rfl)
          ·have z32:¬(((byteAt s at'.toNat:Nat):Int)≤122):=auz
           repeat first|refine cg ?_|simp -dsimp[h1,q2,h3,q4,h5,q6,h8,q9,z10,h11,z13,h14,q15,z16,h18,q19,z20,h27,z29,h30,q31,z32]
           have hF:=ob hF;obtain⟨v39,e40,hF⟩:=hF
           refine((C.f46 B hB1 hB2 s at' v39 e40)).goW (by first|simp[h1,q2,h3,q4,h5,q6,h8,q9,z10,h11,z13,h14,q15,z16,h18,q19,z20,h27,z29,h30,q31,z32];done|simp_all) (by simp) ?_
           repeat first|refine cg ?_|simp -dsimp[h1,q2,h3,q4,h5,q6,h8,q9,z10,h11,z13,h14,q15,z16,h18,q19,z20,h27,z29,h30,q31,z32]
           have hF:=ob hF;obtain⟨v41,e42,hF⟩:=hF
           refine((C.f51 B hB1 hB2 w t v39.1 v41 e42)).goW (by first|simp[h1,q2,h3,q4,h5,q6,h8,q9,z10,h11,z13,h14,q15,z16,h18,q19,z20,h27,z29,h30,q31,z32];done|simp_all) (by simp) ?_
           repeat first|refine cg ?_|simp -dsimp[h1,q2,h3,q4,h5,q6,h8,q9,z10,h11,z13,h14,q15,z16,h18,q19,z20,h27,z29,h30,q31,z32]
           revert hF;refine abr.sp ?_ ?_<;>intro h43 q44 hF
           ·cases hF
            repeat first|refine cg ?_|simp -dsimp[h1,q2,h3,q4,h5,q6,h8,q9,z10,h11,z13,h14,q15,z16,h18,q19,z20,h27,z29,h30,q31,z32,h43]
            all_goals(try first|omega|rfl)
           ·repeat first|refine cg ?_|simp -dsimp[h1,q2,h3,q4,h5,q6,h8,q9,z10,h11,z13,h14,q15,z16,h18,q19,z20,h27,z29,h30,q31,z32,h43,q44]
            have hF:=ob hF;obtain⟨v45,e46,hF⟩:=hF
            refine((C.f44 B hB1 hB2 w t v41 v45 e46)).goW (by first|simp[h1,q2,h3,q4,h5,q6,h8,q9,z10,h11,z13,h14,q15,z16,h18,q19,z20,h27,z29,h30,q31,z32,h43,q44];done|simp_all) (by simp) ?_
            repeat first|refine cg ?_|simp -dsimp[h1,q2,h3,q4,h5,q6,h8,q9,z10,h11,z13,h14,q15,z16,h18,q19,z20,h27,z29,h30,q31,z32,h43,q44]
            have hF:=ob hF;obtain⟨v47,e48,hF⟩:=hF
            refine ACall.frz ?_ ((ih_f52 v45 [40,44,44] v39.2 (IntKind.i64.wrap (depth-1)) v47 e48)).ent
            repeat first|refine cg ?_|simp -dsimp[h1,q2,h3,q4,h5,q6,h8,q9,z10,h11,z13,h14,q15,z16,h18,q19,z20,h27,z29,h30,q31,z32,h43,q44]
            refine((ih_f52 v45 [40,44,44] v39.2 (IntKind.i64.wrap (depth-1)) v47 e48)).goW (by first|simp[h1,q2,h3,q4,h5,q6,h8,q9,z10,h11,z13,h14,q15,z16,h18,q19,z20,h27,z29,h30,q31,z32,h43,q44];done|simp_all) (by simp) ?_
            repeat first|refine cg ?_|simp -dsimp[h1,q2,h3,q4,h5,q6,h8,q9,z10,h11,z13,h14,q15,z16,h18,q19,z20,h27,z29,h30,q31,z32,h43,q44]
            revert hF;refine abr.sp ?_ ?_<;>intro h49 q50 hF
            ·have z51:((v45.length:Int)=0):=auz
             cases hF
             repeat first|refine cg ?_|simp -dsimp[h1,q2,h3,q4,h5,q6,h8,q9,z10,h11,z13,h14,q15,z16,h18,q19,z20,h27,z29,h30,q31,z32,h43,q44,h49,z51]
             all_goals(try first|omega|rfl)
            ·have z51:¬((v45.length:Int)=0):=auz
             repeat first|refine cg ?_|simp -dsimp[h1,q2,h3,q4,h5,q6,h8,q9,z10,h11,z13,h14,q15,z16,h18,q19,z20,h27,z29,h30,q31,z32,h43,q44,h49,q50,z51]
             have hF:=ob hF;obtain⟨v52,e53,hF⟩:=hF
             refine((C.f40 B hB1 hB2 s v47.2 41 v52 e53)).goW (by first|simp[h1,q2,h3,q4,h5,q6,h8,q9,z10,h11,z13,h14,q15,z16,h18,q19,z20,h27,z29,h30,q31,z32,h43,q44,h49,q50,z51];done|simp_all) (by simp) ?_
             repeat first|refine cg ?_|simp -dsimp[h1,q2,h3,q4,h5,q6,h8,q9,z10,h11,z13,h14,q15,z16,h18,q19,z20,h27,z29,h30,q31,z32,h43,q44,h49,q50,z51]
             revert hF;refine abr.ns (fun h54 q55 hF=> ?_) (fun h54 q55 hF=> ?_)
             ·cases hF
              repeat first|refine cg ?_|simp -dsimp[h1,q2,h3,q4,h5,q6,h8,q9,z10,h11,z13,h14,q15,z16,h18,q19,z20,h27,z29,h30,q31,z32,h43,q44,h49,q50,z51,h54,q55]
              all_goals(try first|omega|rfl)
             ·cases hF
              repeat first|refine cg ?_|simp -dsimp[h1,q2,h3,q4,h5,q6,h8,q9,z10,h11,z13,h14,q15,z16,h18,q19,z20,h27,z29,h30,q31,z32,h43,q44,h49,q50,z51,h54,q55]
              all_goals(try first|omega|rfl)
         ·have z29:¬(97≤((byteAt s at'.toNat:Nat):Int)):=auz
          repeat first|refine cg ?_|simp -dsimp[h1,q2,h3,q4,h5,q6,h8,q9,z10,h11,z13,h14,q15,z16,h18,q19,z20,h27,q28,z29]
          have hF:=ob hF;obtain⟨v56,e57,hF⟩:=hF
          refine((C.f46 B hB1 hB2 s at' v56 e57)).goW (by first|simp[h1,q2,h3,q4,h5,q6,h8,q9,z10,h11,z13,h14,q15,z16,h18,q19,z20,h27,q28,z29];done|simp_all) (by simp) ?_
          repeat first|refine cg ?_|simp -dsimp[h1,q2,h3,q4,h5,q6,h8,q9,z10,h11,z13,h14,q15,z16,h18,q19,z20,h27,q28,z29]
          have hF:=ob hF;obtain⟨v58,e59,hF⟩:=hF
          refine((C.f51 B hB1 hB2 w t v56.1 v58 e59)).goW (by first|simp[h1,q2,h3,q4,h5,q6,h8,q9,z10,h11,z13,h14,q15,z16,h18,q19,z20,h27,q28,z29];done|simp_all) (by simp) ?_
          repeat first|refine cg ?_|simp -dsimp[h1,q2,h3,q4,h5,q6,h8,q9,z10,h11,z13,h14,q15,z16,h18,q19,z20,h27,q28,z29]
          revert hF;refine abr.sp ?_ ?_<;>intro h60 q61 hF
          ·cases hF
           repeat first|refine cg ?_|simp -dsimp[h1,q2,h3,q4,h5,q6,h8,q9,z10,h11,z13,h14,q15,z16,h18,q19,z20,h27,q28,z29,h60]
           all_goals(try first|omega|rfl)
          ·repeat first|refine cg ?_|simp -dsimp[h1,q2,h3,q4,h5,q6,h8,q9,z10,h11,z13,h14,q15,z16,h18,q19,z20,h27,q28,z29,h60,q61]
           have hF:=ob hF;obtain⟨v62,e63,hF⟩:=hF
           refine((C.f44 B hB1 hB2 w t v58 v62 e63)).goW (by first|simp[h1,q2,h3,q4,h5,q6,h8,q9,z10,h11,z13,h14,q15,z16,h18,q19,z20,h27,q28,z29,h60,q61];done|simp_all) (by simp) ?_
           repeat first|refine cg ?_|simp -dsimp[h1,q2,h3,q4,h5,q6,h8,q9,z10,h11,z13,h14,q15,z16,h18,q19,z20,h27,q28,z29,h60,q61]
           have hF:=ob hF;obtain⟨v64,e65,hF⟩:=hF
           refine ACall.frz ?_ ((ih_f52 v62 [40,44,44] v56.2 (IntKind.i64.wrap (depth-1)) v64 e65)).ent
           repeat first|refine cg ?_|simp -dsimp[h1,q2,h3,q4,h5,q6,h8,q9,z10,h11,z13,h14,q15,z16,h18,q19,z20,h27,q28,z29,h60,q61]
           refine((ih_f52 v62 [40,44,44] v56.2 (IntKind.i64.wrap (depth-1)) v64 e65)).goW (by first|simp[h1,q2,h3,q4,h5,q6,h8,q9,z10,h11,z13,h14,q15,z16,h18,q19,z20,h27,q28,z29,h60,q61];done|simp_all) (by simp) ?_
           repeat first|refine cg ?_|simp -dsimp[h1,q2,h3,q4,h5,q6,h8,q9,z10,h11,z13,h14,q15,z16,h18,q19,z20,h27,q28,z29,h60,q61]
           revert hF;refine abr.sp ?_ ?_<;>intro h66 q67 hF
           ·have z68:((v62.length:Int)=0):=auz
            cases hF
            repeat first|refine cg ?_|simp -dsimp[h1,q2,h3,q4,h5,q6,h8,q9,z10,h11,z13,h14,q15,z16,h18,q19,z20,h27,q28,z29,h60,q61,h66,z68]
            all_goals(try first|omega|rfl)
           ·have z68:¬((v62.length:Int)=0):=auz
            repeat first|refine cg ?_|simp -dsimp[h1,q2,h3,q4,h5,q6,h8,q9,z10,h11,z13,h14,q15,z16,h18,q19,z20,h27,q28,z29,h60,q61,h66,q67,z68]
            have hF:=ob hF;obtain⟨v69,e70,hF⟩:=hF
            refine((C.f40 B hB1 hB2 s v64.2 41 v69 e70)).goW (by first|simp[h1,q2,h3,q4,h5,q6,h8,q9,z10,h11,z13,h14,q15,z16,h18,q19,z20,h27,q28,z29,h60,q61,h66,q67,z68];done|simp_all) (by simp) ?_
            repeat first|refine cg ?_|simp -dsimp[h1,q2,h3,q4,h5,q6,h8,q9,z10,h11,z13,h14,q15,z16,h18,q19,z20,h27,q28,z29,h60,q61,h66,q67,z68]
            revert hF;refine abr.ns (fun h71 q72 hF=> ?_) (fun h71 q72 hF=> ?_)
            ·cases hF
             repeat first|refine cg ?_|simp -dsimp[h1,q2,h3,q4,h5,q6,h8,q9,z10,h11,z13,h14,q15,z16,h18,q19,z20,h27,q28,z29,h60,q61,h66,q67,z68,h71,q72]
             all_goals(try first|omega|rfl)
            ·cases hF
             repeat first|refine cg ?_|simp -dsimp[h1,q2,h3,q4,h5,q6,h8,q9,z10,h11,z13,h14,q15,z16,h18,q19,z20,h27,q28,z29,h60,q61,h66,q67,z68,h71,q72]
             all_goals(try first|omega|rfl)
      ·have z13:¬(48≤((byteAt s at'.toNat:Nat):Int)):=auz
       repeat first|refine cg ?_|simp -dsimp[h1,q2,h3,q4,h5,q6,h8,q9,z10,h11,q12,z13]
       revert hF;refine abr.sp ?_ ?_<;>intro h73 q74 hF
       ·have z75:(((byteAt s at'.toNat:Nat):Int)=40):=auz
        repeat first|refine cg ?_|simp -dsimp[h1,q2,h3,q4,h5,q6,h8,q9,z10,h11,q12,z13,h73,z75]
        have hF:=ob hF;obtain⟨v76,e77,hF⟩:=hF
        refine ACall.frz ?_ ((ih_f52 [t,t] [40,124] at' (IntKind.i64.wrap (depth-1)) v76 e77)).ent
        repeat first|refine cg ?_|simp -dsimp[h1,q2,h3,q4,h5,q6,h8,q9,z10,h11,q12,z13,h73,z75]
        refine((ih_f52 [t,t] [40,124] at' (IntKind.i64.wrap (depth-1)) v76 e77)).goW (by first|simp[h1,q2,h3,q4,h5,q6,h8,q9,z10,h11,q12,z13,h73,z75];done|simp_all) (by simp) ?_
        repeat first|refine cg ?_|simp -dsimp[h1,q2,h3,q4,h5,q6,h8,q9,z10,h11,q12,z13,h73,z75]
        have hF:=ob hF;obtain⟨v78,e79,hF⟩:=hF
        refine((C.f40 B hB1 hB2 s v76.2 41 v78 e79)).goW (by first|simp[h1,q2,h3,q4,h5,q6,h8,q9,z10,h11,q12,z13,h73,z75];done|simp_all) (by simp) ?_
        repeat first|refine cg ?_|simp -dsimp[h1,q2,h3,q4,h5,q6,h8,q9,z10,h11,q12,z13,h73,z75]
        revert hF;refine abr.ns (fun h80 q81 hF=> ?_) (fun h80 q81 hF=> ?_)
        ·cases hF
         repeat first|refine cg ?_|simp -dsimp[h1,q2,h3,q4,h5,q6,h8,q9,z10,h11,q12,z13,h73,z75,h80,q81]
         all_goals(try first|omega|rfl)
        ·cases hF
         repeat first|refine cg ?_|simp -dsimp[h1,q2,h3,q4,h5,q6,h8,q9,z10,h11,q12,z13,h73,z75,h80,q81]
         all_goals(try first|omega|rfl)
       ·have z75:¬(((byteAt s at'.toNat:Nat):Int)=40):=auz
        repeat first|refine cg ?_|simp -dsimp[h1,q2,h3,q4,h5,q6,h8,q9,z10,h11,q12,z13,h73,q74,z75]
        revert hF;refine abr.sp ?_ ?_<;>intro h82 q83 hF
        ·have z84:(97≤((byteAt s at'.toNat:Nat):Int)):=auz
         repeat first|refine cg ?_|simp -dsimp[h1,q2,h3,q4,h5,q6,h8,q9,z10,h11,q12,z13,h73,q74,z75,h82,z84]
         revert hF;refine abr.sp ?_ ?_<;>intro h85 q86 hF
         ·have z87:(((byteAt s at'.toNat:Nat):Int)≤122):=auz
          repeat first|refine cg ?_|simp -dsimp[h1,q2,h3,q4,h5,q6,h8,q9,z10,h11,q12,z13,h73,q74,z75,h82,z84,h85,z87]
          have hF:=ob hF;obtain⟨v88,e89,hF⟩:=hF
          refine((C.f40 B hB1 hB2 s (IntKind.i64.wrap (at'+1)) 64 v88 e89)).goW (by first|simp[h1,q2,h3,q4,h5,q6,h8,q9,z10,h11,q12,z13,h73,q74,z75,h82,z84,h85,z87];done|simp_all) (by simp) ?_
          repeat first|refine cg ?_|simp -dsimp[h1,q2,h3,q4,h5,q6,h8,q9,z10,h11,q12,z13,h73,q74,z75,h82,z84,h85,z87]
          revert hF;refine abr.sp (fun h90 q91 hF=> ?_) (fun h90 q91 hF=> ?_)
          ·repeat first|refine cg ?_|simp -dsimp[h1,q2,h3,q4,h5,q6,h8,q9,z10,h11,q12,z13,h73,q74,z75,h82,z84,h85,z87,h90]
           have hF:=ob hF;obtain⟨v92,e93,hF⟩:=hF
           refine ACall.frz ?_ ((ih_f52 [t] [64] (IntKind.i64.wrap (at'+1)) (IntKind.i64.wrap (depth-1)) v92 e93)).ent
           repeat first|refine cg ?_|simp -dsimp[h1,q2,h3,q4,h5,q6,h8,q9,z10,h11,q12,z13,h73,q74,z75,h82,z84,h85,z87,h90]
           refine((ih_f52 [t] [64] (IntKind.i64.wrap (at'+1)) (IntKind.i64.wrap (depth-1)) v92 e93)).goW (by first|simp[h1,q2,h3,q4,h5,q6,h8,q9,z10,h11,q12,z13,h73,q74,z75,h82,z84,h85,z87,h90];done|simp_all) (by simp) ?_
           cases hF
           repeat first|refine cg ?_|simp -dsimp[h1,q2,h3,q4,h5,q6,h8,q9,z10,h11,q12,z13,h73,q74,z75,h82,z84,h85,z87,h90]
           all_goals(try first|omega|rfl)
          ·cases hF
           repeat first|refine cg ?_|simp -dsimp[h1,q2,h3,q4,h5,q6,h8,q9,z10,h11,q12,z13,h73,q74,z75,h82,z84,h85,z87,h90,q91]
           all_goals(try first|omega|rfl)
         ·have z87:¬(((byteAt s at'.toNat:Nat):Int)≤122):=auz
          repeat first|refine cg ?_|simp -dsimp[h1,q2,h3,q4,h5,q6,h8,q9,z10,h11,q12,z13,h73,q74,z75,h82,z84,h85,q86,z87]
          have hF:=ob hF;obtain⟨v94,e95,hF⟩:=hF
          refine((C.f46 B hB1 hB2 s at' v94 e95)).goW (by first|simp[h1,q2,h3,q4,h5,q6,h8,q9,z10,h11,q12,z13,h73,q74,z75,h82,z84,h85,q86,z87];done|simp_all) (by simp) ?_
          repeat first|refine cg ?_|simp -dsimp[h1,q2,h3,q4,h5,q6,h8,q9,z10,h11,q12,z13,h73,q74,z75,h82,z84,h85,q86,z87]
          have hF:=ob hF;obtain⟨v96,e97,hF⟩:=hF
          refine((C.f51 B hB1 hB2 w t v94.1 v96 e97)).goW (by first|simp[h1,q2,h3,q4,h5,q6,h8,q9,z10,h11,q12,z13,h73,q74,z75,h82,z84,h85,q86,z87];done|simp_all) (by simp) ?_
          repeat first|refine cg ?_|simp -dsimp[h1,q2,h3,q4,h5,q6,h8,q9,z10,h11,q12,z13,h73,q74,z75,h82,z84,h85,q86,z87]
          revert hF;refine abr.sp ?_ ?_<;>intro h98 q99 hF
          ·cases hF
           repeat first|refine cg ?_|simp -dsimp[h1,q2,h3,q4,h5,q6,h8,q9,z10,h11,q12,z13,h73,q74,z75,h82,z84,h85,q86,z87,h98]
           all_goals(try first|omega|rfl)
          ·repeat first|refine cg ?_|simp -dsimp[h1,q2,h3,q4,h5,q6,h8,q9,z10,h11,q12,z13,h73,q74,z75,h82,z84,h85,q86,z87,h98,q99]
           have hF:=ob hF;obtain⟨v100,e101,hF⟩:=hF
           refine((C.f44 B hB1 hB2 w t v96 v100 e101)).goW (by first|simp[h1,q2,h3,q4,h5,q6,h8,q9,z10,h11,q12,z13,h73,q74,z75,h82,z84,h85,q86,z87,h98,q99];done|simp_all) (by simp) ?_
           repeat first|refine cg ?_|simp -dsimp[h1,q2,h3,q4,h5,q6,h8,q9,z10,h11,q12,z13,h73,q74,z75,h82,z84,h85,q86,z87,h98,q99]
           have hF:=ob hF;obtain⟨v102,e103,hF⟩:=hF
           refine ACall.frz ?_ ((ih_f52 v100 [40,44,44] v94.2 (IntKind.i64.wrap (depth-1)) v102 e103)).ent
           repeat first|refine cg ?_|simp -dsimp[h1,q2,h3,q4,h5,q6,h8,q9,z10,h11,q12,z13,h73,q74,z75,h82,z84,h85,q86,z87,h98,q99]
           refine((ih_f52 v100 [40,44,44] v94.2 (IntKind.i64.wrap (depth-1)) v102 e103)).goW (by first|simp[h1,q2,h3,q4,h5,q6,h8,q9,z10,h11,q12,z13,h73,q74,z75,h82,z84,h85,q86,z87,h98,q99];done|simp_all) (by simp) ?_
           repeat first|refine cg ?_|simp -dsimp[h1,q2,h3,q4,h5,q6,h8,q9,z10,h11,q12,z13,h73,q74,z75,h82,z84,h85,q86,z87,h98,q99]
           revert hF;refine abr.sp ?_ ?_<;>intro h104 q105 hF
           ·have z106:((v100.length:Int)=0):=auz
            cases hF
            repeat first|refine cg ?_|simp -dsimp[h1,q2,h3,q4,h5,q6,h8,q9,z10,h11,q12,z13,h73,q74,z75,h82,z84,h85,q86,z87,h98,q99,h104,z106]
            all_goals(try first|omega|rfl)
           ·have z106:¬((v100.length:Int)=0):=auz
            repeat first|refine cg ?_|simp -dsimp[h1,q2,h3,q4,h5,q6,h8,q9,z10,h11,q12,z13,h73,q74,z75,h82,z84,h85,q86,z87,h98,q99,h104,q105,z106]
            have hF:=ob hF;obtain⟨v107,e108,hF⟩:=hF
            refine((C.f40 B hB1 hB2 s v102.2 41 v107 e108)).goW (by first|simp[h1,q2,h3,q4,h5,q6,h8,q9,z10,h11,q12,z13,h73,q74,z75,h82,z84,h85,q86,z87,h98,q99,h104,q105,z106];done|simp_all) (by simp) ?_
            repeat first|refine cg ?_|simp -dsimp[h1,q2,h3,q4,h5,q6,h8,q9,z10,h11,q12,z13,h73,q74,z75,h82,z84,h85,q86,z87,h98,q99,h104,q105,z106]
            revert hF;refine abr.ns (fun h109 q110 hF=> ?_) (fun h109 q110 hF=> ?_)
            ·cases hF
             repeat first|refine cg ?_|simp -dsimp[h1,q2,h3,q4,h5,q6,h8,q9,z10,h11,q12,z13,h73,q74,z75,h82,z84,h85,q86,z87,h98,q99,h104,q105,z106,h109,q110]
             all_goals(try first|omega|rfl)
            ·cases hF
             repeat first|refine cg ?_|simp -dsimp[h1,q2,h3,q4,h5,q6,h8,q9,z10,h11,q12,z13,h73,q74,z75,h82,z84,h85,q86,z87,h98,q99,h104,q105,z106,h109,q110]
             all_goals(try first|omega|rfl)
        ·have z84:¬(97≤((byteAt s at'.toNat:Nat):Int)):=auz
         repeat first|refine cg ?_|simp -dsimp[h1,q2,h3,q4,h5,q6,h8,q9,z10,h11,q12,z13,h73,q74,z75,h82,q83,z84]
         have hF:=ob hF;obtain⟨v111,e112,hF⟩:=hF
         refine((C.f46 B hB1 hB2 s at' v111 e112)).goW (by first|simp[h1,q2,h3,q4,h5,q6,h8,q9,z10,h11,q12,z13,h73,q74,z75,h82,q83,z84];done|simp_all) (by simp) ?_
         repeat first|refine cg ?_|simp -dsimp[h1,q2,h3,q4,h5,q6,h8,q9,z10,h11,q12,z13,h73,q74,z75,h82,q83,z84]
         have hF:=ob hF;obtain⟨v113,e114,hF⟩:=hF
         refine((C.f51 B hB1 hB2 w t v111.1 v113 e114)).goW (by first|simp[h1,q2,h3,q4,h5,q6,h8,q9,z10,h11,q12,z13,h73,q74,z75,h82,q83,z84];done|simp_all) (by simp) ?_
         repeat first|refine cg ?_|simp -dsimp[h1,q2,h3,q4,h5,q6,h8,q9,z10,h11,q12,z13,h73,q74,z75,h82,q83,z84]
         revert hF;refine abr.sp ?_ ?_<;>intro h115 q116 hF
         ·cases hF
          repeat first|refine cg ?_|simp -dsimp[h1,q2,h3,q4,h5,q6,h8,q9,z10,h11,q12,z13,h73,q74,z75,h82,q83,z84,h115]
          all_goals(try first|omega|rfl)
         ·repeat first|refine cg ?_|simp -dsimp[h1,q2,h3,q4,h5,q6,h8,q9,z10,h11,q12,z13,h73,q74,z75,h82,q83,z84,h115,q116]
          have hF:=ob hF;obtain⟨v117,e118,hF⟩:=hF
          refine((C.f44 B hB1 hB2 w t v113 v117 e118)).goW (by first|simp[h1,q2,h3,q4,h5,q6,h8,q9,z10,h11,q12,z13,h73,q74,z75,h82,q83,z84,h115,q116];done|simp_all) (by simp) ?_
          repeat first|refine cg ?_|simp -dsimp[h1,q2,h3,q4,h5,q6,h8,q9,z10,h11,q12,z13,h73,q74,z75,h82,q83,z84,h115,q116]
          have hF:=ob hF;obtain⟨v119,e120,hF⟩:=hF
          refine ACall.frz ?_ ((ih_f52 v117 [40,44,44] v111.2 (IntKind.i64.wrap (depth-1)) v119 e120)).ent
          repeat first|refine cg ?_|simp -dsimp[h1,q2,h3,q4,h5,q6,h8,q9,z10,h11,q12,z13,h73,q74,z75,h82,q83,z84,h115,q116]
          refine((ih_f52 v117 [40,44,44] v111.2 (IntKind.i64.wrap (depth-1)) v119 e120)).goW (by first|simp[h1,q2,h3,q4,h5,q6,h8,q9,z10,h11,q12,z13,h73,q74,z75,h82,q83,z84,h115,q116];done|simp_all) (by simp) ?_
          repeat first|refine cg ?_|simp -dsimp[h1,q2,h3,q4,h5,q6,h8,q9,z10,h11,q12,z13,h73,q74,z75,h82,q83,z84,h115,q116]
          revert hF;refine abr.sp ?_ ?_<;>intro h121 q122 hF
          ·have z123:((v117.length:Int)=0):=auz
           cases hF
           repeat first|refine cg ?_|simp -dsimp[h1,q2,h3,q4,h5,q6,h8,q9,z10,h11,q12,z13,h73,q74,z75,h82,q83,z84,h115,q116,h121,z123]
           all_goals(try first|omega|rfl)
          ·have z123:¬((v117.length:Int)=0):=auz
           repeat first|refine cg ?_|simp -dsimp[h1,q2,h3,q4,h5,q6,h8,q9,z10,h11,q12,z13,h73,q74,z75,h82,q83,z84,h115,q116,h121,q122,z123]
           have hF:=ob hF;obtain⟨v124,e125,hF⟩:=hF
           refine((C.f40 B hB1 hB2 s v119.2 41 v124 e125)).goW (by first|simp[h1,q2,h3,q4,h5,q6,h8,q9,z10,h11,q12,z13,h73,q74,z75,h82,q83,z84,h115,q116,h121,q122,z123];done|simp_all) (by simp) ?_
           repeat first|refine cg ?_|simp -dsimp[h1,q2,h3,q4,h5,q6,h8,q9,z10,h11,q12,z13,h73,q74,z75,h82,q83,z84,h115,q116,h121,q122,z123]
           revert hF;refine abr.ns (fun h126 q127 hF=> ?_) (fun h126 q127 hF=> ?_)
           ·cases hF
            repeat first|refine cg ?_|simp -dsimp[h1,q2,h3,q4,h5,q6,h8,q9,z10,h11,q12,z13,h73,q74,z75,h82,q83,z84,h115,q116,h121,q122,z123,h126,q127]
            all_goals(try first|omega|rfl)
           ·cases hF
            repeat first|refine cg ?_|simp -dsimp[h1,q2,h3,q4,h5,q6,h8,q9,z10,h11,q12,z13,h73,q74,z75,h82,q83,z84,h115,q116,h121,q122,z123,h126,q127]
            all_goals(try first|omega|rfl)
   ·cases hF
    repeat first|refine cg ?_|simp -dsimp[h1,q2,h3,q4]
    all_goals(try first|omega|rfl)
  ·cases hF
   repeat first|refine cg ?_|simp -dsimp[h1,q2]
   all_goals(try first|omega|rfl)
theorem C.f55 (s:ByteArray)(r:Guard)(hF:F.f55 s=some r):PureCall Tryz.prog B 76 [.lit (.string s)] (.agg [.lit (.int .i64 r.op),.lit (.int .i64 r.var),.lit (.int .i64 r.n)]):=by
 unfold F.f55 at hF
 refine PureCall.enterLe Tryz.func76 (by kernel_rfl) rfl Tryz.ntmps76 (by simp) (by simp) ?_
 repeat first|refine cg ?_|simp -dsimp
 revert hF;refine abr.ns ?_ ?_<;>intro h1 q2 hF
 ·have z3:¬((s.size:Int)=3):=auz
  cases hF
  repeat first|refine cg ?_|simp -dsimp[h1,q2,z3]
  all_goals(try first|omega|rfl)
 ·have z3:((s.size:Int)=3):=auz
  repeat first|refine cg ?_|simp -dsimp[h1,q2,z3]
  refine ADraw.eff [] [(0,1),(0,1),(0,1),(0,1),(0,1),(0,1),(0,1),(0,1),(0,1),(0,2),(0,2)] [1,0,0,1,1,0,0,1,0,1,1] follows (by kernel_rfl) (by kernel_rfl) (by kernel_rfl) ?_
  have hF:=oc hF;obtain⟨c4,hF⟩:=hF
  have hF:=oc hF;obtain⟨c5,hF⟩:=hF
  have hF:=oc hF;obtain⟨c6,hF⟩:=hF
  repeat first|refine cg ?_|simp -dsimp[h1,q2,z3]
  revert hF;refine abr.sp ?_ ?_<;>intro h7 q8 hF
  ·have z9:(((byteAt s 1:Nat):Int)=60):=auz
   cases hF
   repeat first|refine cg ?_|simp -dsimp[h1,q2,z3,h7,z9]
   all_goals(try first|omega|rfl)
  ·have z9:¬(((byteAt s 1:Nat):Int)=60):=auz
   repeat first|refine cg ?_|simp -dsimp[h1,q2,z3,h7,q8,z9]
   revert hF;refine abr.sp ?_ ?_<;>intro h10 q11 hF
   ·have z12:(((byteAt s 1:Nat):Int)=61):=auz
    cases hF
    repeat first|refine cg ?_|simp -dsimp[h1,q2,z3,h7,q8,z9,h10,z12]
    all_goals(try first|omega|rfl)
   ·have z12:¬(((byteAt s 1:Nat):Int)=61):=auz
    cases hF
    repeat first|refine cg ?_|simp -dsimp[h1,q2,z3,h7,q8,z9,h10,q11,z12]
    all_goals(try first|omega|rfl)
theorem CC.f56 (list:List Int)(n:Int):(∀(i:Nat) (o:Lo Bool Unit),F.f56 list n i=some o→∀(c:Code),navO [1,0,1,0,0] (bodyOf Tryz.f198)=some c→∀(Q:Exit→ASt→Prop),o.post (fun r=>∀st,Post Tryz.prog Tryz.f198 (fun r' _=>r'.le (.lit (.bool r))) .ret st→Q .ret st) (fun s=>Q (.exit 0) ⟨[],[]⟩)→ALoopU Tryz.prog B 0 18 (hold c .mk) ⟨[(0,.arr (List.map cI list)),(1,.lit (.int .i64 n)),(5,.lit (.int .i64 (i:Int)))],[]⟩ (hold Q .mk)):=by
 refine F.f56.partial_correctness list n
  _
  ?_
 ·intro _f_f56 ih_f56 i o hF
  intro c hc Q hq
  obtain rfl:c=_:=navEq hc rfl
  refine ALoopU.know fun hk hs=> ?_
  have b0:=hk 0
  simp -dsimp at b0
  clear hk hs
  refine ALoopU.enter ?_
  repeat first|refine cg ?_|simp -dsimp
  revert hF;refine abr.sp ?_ ?_<;>intro h1 q2 hF
  ·have z3:((i:Int)<(list.length:Int)):=auz
   have hF:=ob hF;obtain⟨x,e4,hF⟩:=hF
   have le4:=lt_of_get e4
   repeat first|refine cg ?_|simp -dsimp[h1,z3,↓e4]
   revert hF;refine abr.sp ?_ ?_<;>intro h5 q6 hF
   ·cases hF
    repeat first|refine cg ?_|simp -dsimp[h5]
    refine Leave.go _ (Gh.refl _) (hq _ ?_)
    repeat first|refine cg ?_|simp -dsimp
   ·have w7:IntKind.i64.wrap ((i:Int)+1)=(i:Int)+1:=wrap_in (by omega) (by omega)
    repeat first|refine cg ?_|simp -dsimp[q6,w7]
    refine Again.go _ ?_ ((ih_f56 (i+1) o hF) _ rfl _ hq)
    exact(Gh.to3 (by simp) (by simp_all))
  ·have z3:¬((i:Int)<(list.length:Int)):=auz
   cases hF
   repeat first|refine cg ?_|simp -dsimp[h1,q2,z3]
   refine Leave.go _ (Gh.to3 (by simp) (by simp_all)) hq
theorem C.f57 (list:List Int)(n:Int)(r:Bool)(hF:F.f57 list n=some r):PureCall Tryz.prog B 198 [.arr (List.map cI list),.lit (.int .i64 n)] (.lit (.bool r)):=by
 unfold F.f57 at hF
 refine PureCall.enterLe Tryz.func198 (by kernel_rfl) rfl Tryz.ntmps198 (by simp) (by simp) ?_
 repeat first|refine cg ?_|simp -dsimp
 have hF:=ob hF;obtain⟨o',ho8,hF⟩:=hF
 refine ALoop.goU _ ?_ (((CC.f56 B hB1 hB2 list n) 0 o' ho8) _ rfl _ ?_)
 ·exact(Gh.to3 (by simp) (by simp -dsimp))
 rcases o' with r0|sx
 ·dsimp only at hF
  cases hF
  intro st h
  simpa using h
 ·dsimp only at hF
  cases hF
  repeat first|refine cg ?_|simp -dsimp
theorem C.f58 (w:List Vl.Data)(t:Ty)(p:Pattern)(r:Bool)(hF:F.f58 w t p=some r):PureCall Tryz.prog B 178 [.arr (List.map Vl.Data.c w),.agg [.lit (.int .i64 t.data),.lit (.int .i64 t.index)],.agg [.lit (.int .i64 p.op),.lit (.int .i64 p.ctor),.lit (.int .i64 p.n),.lit (.int .i64 p.m),.lit (.int .i64 p.var),.arr (List.map Pattern.c p.kids)]] (.lit (.bool r)):=by
 unfold F.f58 at hF
 refine PureCall.enterLe Tryz.func178 (by kernel_rfl) rfl Tryz.ntmps178 (by simp) (by simp) ?_
 repeat first|refine cg ?_|simp -dsimp
 revert hF;refine abr.ns ?_ ?_<;>intro h1 q2 hF
 ·repeat first|refine cg ?_|simp -dsimp[h1,q2]
  revert hF;refine abr.sp ?_ ?_<;>intro h3 q4 hF
  ·repeat first|refine cg ?_|simp -dsimp[h1,q2,h3]
   revert hF;refine abr.ns ?_ ?_<;>intro h5 q6 hF
   ·repeat first|refine cg ?_|simp -dsimp[h1,q2,h3,h5,q6]
    revert hF;refine abr.ns ?_ ?_<;>intro h7 q8 hF
    ·have n9:¬(p.op=3):=by omega
     repeat first|refine cg ?_|simp -dsimp[h1,q2,h3,h5,q6,h7,q8,n9]
     revert hF;refine abr.sp ?_ ?_<;>intro h10 q11 hF
     ·repeat first|refine cg ?_|simp -dsimp[h1,q2,h3,h5,q6,h7,q8,n9,h10]
      revert hF;refine abr.sp ?_ ?_<;>intro h12 q13 hF
      ·have n14:¬(p.op=4):=by omega
       repeat first|refine cg ?_|simp -dsimp[h1,q2,h3,h5,q6,h7,q8,n9,h10,h12,n14]
       revert hF;refine abr.ns ?_ ?_<;>intro h15 q16 hF
       ·cases hF
        repeat first|refine cg ?_|simp -dsimp[h1,q2,h3,h5,q6,h7,q8,n9,h10,h12,n14,h15,q16]
       ·have n17:¬(p.op=1):=by omega
        have n18:¬(p.op=5):=by omega
        cases hF
        repeat first|refine cg ?_|simp -dsimp[h1,q2,h3,h5,q6,h7,q8,n9,h10,h12,n14,h15,q16,n17,n18]
      ·cases hF
       repeat first|refine cg ?_|simp -dsimp[h1,q2,h3,h5,q6,h7,q8,n9,h10,h12,q13]
     ·cases hF
      repeat first|refine cg ?_|simp -dsimp[h1,q2,h3,h5,q6,h7,q8,n9,h10,q11]
    ·cases hF
     repeat first|refine cg ?_|simp -dsimp[h1,q2,h3,h5,q6,h7,q8]
   ·cases hF
    repeat first|refine cg ?_|simp -dsimp[h1,q2,h3,h5,q6]
  ·repeat first|refine cg ?_|simp -dsimp[h1,q2,h3,q4]
   revert hF;refine abr.ns ?_ ?_<;>intro h19 q20 hF
   ·cases hF
    repeat first|refine cg ?_|simp -dsimp[h1,q2,h3,q4,h19,q20]
   ·repeat first|refine cg ?_|simp -dsimp[h1,q2,h3,q4,h19,q20]
    revert hF;refine abr.ns ?_ ?_<;>intro h21 q22 hF
    ·repeat first|refine cg ?_|simp -dsimp[h1,q2,h3,q4,h19,q20,h21,q22]
     revert hF;refine abr.sp ?_ ?_<;>intro h23 q24 hF
     ·repeat first|refine cg ?_|simp -dsimp[h1,q2,h3,q4,h19,q20,h21,q22,h23]
      revert hF;refine abr.sp ?_ ?_<;>intro h25 q26 hF
      ·repeat first|refine cg ?_|simp -dsimp[h1,q2,h3,q4,h19,q20,h21,q22,h23,h25]
       revert hF;refine abr.ns ?_ ?_<;>intro h27 q28 hF
       ·repeat first|refine cg ?_|simp -dsimp[h1,q2,h3,q4,h19,q20,h21,q22,h23,h25,h27,q28]
        revert hF;refine abr.ns ?_ ?_<;>intro h29 q30 hF
        ·cases hF
         repeat first|refine cg ?_|simp -dsimp[h1,q2,h3,q4,h19,q20,h21,q22,h23,h25,h27,q28,h29,q30]
        ·repeat first|refine cg ?_|simp -dsimp[h1,q2,h3,q4,h19,q20,h21,q22,h23,h25,h27,q28,h29,q30]
         revert hF;refine abr.sp ?_ ?_<;>intro h31 q32 hF
         ·cases hF
          repeat first|refine cg ?_|simp -dsimp[h1,q2,h3,q4,h19,q20,h21,q22,h23,h25,h27,q28,h29,q30,h31]
         ·repeat first|refine cg ?_|simp -dsimp[h1,q2,h3,q4,h19,q20,h21,q22,h23,h25,h27,q28,h29,q30,h31,q32]
          revert hF;refine abr.sp ?_ ?_<;>intro h33 q34 hF
          ·cases hF
           repeat first|refine cg ?_|simp -dsimp[h1,q2,h3,q4,h19,q20,h21,q22,h23,h25,h27,q28,h29,q30,h31,q32,h33]
          ·cases hF
           repeat first|refine cg ?_|simp -dsimp[h1,q2,h3,q4,h19,q20,h21,q22,h23,h25,h27,q28,h29,q30,h31,q32,h33,q34]
       ·have n35:¬(p.op=1):=by omega
        have n36:¬(p.op=5):=by omega
        repeat first|refine cg ?_|simp -dsimp[h1,q2,h3,q4,h19,q20,h21,q22,h23,h25,h27,q28,n35,n36]
        refine ADraw.simple follows (by kernel_rfl) (by kernel_rfl) ?_
        repeat first|refine cg ?_|simp -dsimp[h1,q2,h3,q4,h19,q20,h21,q22,h23,h25,h27,q28,n35,n36]
        have hF:=ob hF;obtain⟨v,e37,hF⟩:=hF
        refine((C.f50 B hB1 hB2 w t v e37)).pgoW (by simp[h1,q2,h3,q4,h19,q20,h21,q22,h23,h25,h27,q28,n35,n36]) (by simp) ?_
        repeat first|refine cg ?_|simp -dsimp[h1,q2,h3,q4,h19,q20,h21,q22,h23,h25,h27,q28,n35,n36]
        have hF:=ob hF;obtain⟨v38,e39,hF⟩:=hF
        refine((C.f57 B hB1 hB2 v p.ctor v38 e39)).pgoW (by simp[h1,q2,h3,q4,h19,q20,h21,q22,h23,h25,h27,q28,n35,n36]) (by simp) ?_
        cases hF
        repeat first|refine cg ?_|simp -dsimp[h1,q2,h3,q4,h19,q20,h21,q22,h23,h25,h27,q28,n35,n36]
      ·cases hF
       repeat first|refine cg ?_|simp -dsimp[h1,q2,h3,q4,h19,q20,h21,q22,h23,h25,q26]
     ·cases hF
      repeat first|refine cg ?_|simp -dsimp[h1,q2,h3,q4,h19,q20,h21,q22,h23,q24]
    ·have n40:¬(p.op=4):=by omega
     repeat first|refine cg ?_|simp -dsimp[h1,q2,h3,q4,h19,q20,h21,q22,n40]
     revert hF;refine abr.ns ?_ ?_<;>intro h41 q42 hF
     ·cases hF
      repeat first|refine cg ?_|simp -dsimp[h1,q2,h3,q4,h19,q20,h21,q22,n40,h41,q42]
     ·have n43:¬(p.op=1):=by omega
      have n44:¬(p.op=5):=by omega
      repeat first|refine cg ?_|simp -dsimp[h1,q2,h3,q4,h19,q20,h21,q22,n40,h41,q42,n43,n44]
      revert hF;refine abr.sp ?_ ?_<;>intro h45 q46 hF
      ·repeat first|refine cg ?_|simp -dsimp[h1,q2,h3,q4,h19,q20,h21,q22,n40,h41,q42,n43,n44,h45]
       revert hF;refine abr.sp ?_ ?_<;>intro h47 q48 hF
       ·repeat first|refine cg ?_|simp -dsimp[h1,q2,h3,q4,h19,q20,h21,q22,n40,h41,q42,n43,n44,h45,h47]
        revert hF;refine abr.sp ?_ ?_<;>intro h49 q50 hF
        ·cases hF
         repeat first|refine cg ?_|simp -dsimp[h1,q2,h3,q4,h19,q20,h21,q22,n40,h41,q42,n43,n44,h45,h47,h49]
        ·cases hF
         repeat first|refine cg ?_|simp -dsimp[h1,q2,h3,q4,h19,q20,h21,q22,n40,h41,q42,n43,n44,h45,h47,h49,q50]
       ·cases hF
        repeat first|refine cg ?_|simp -dsimp[h1,q2,h3,q4,h19,q20,h21,q22,n40,h41,q42,n43,n44,h45,h47,q48]
      ·cases hF
       repeat first|refine cg ?_|simp -dsimp[h1,q2,h3,q4,h19,q20,h21,q22,n40,h41,q42,n43,n44,h45,q46]
 ·repeat first|refine cg ?_|simp -dsimp[h1,q2]
  revert hF;refine abr.ns ?_ ?_<;>intro h51 q52 hF
  ·repeat first|refine cg ?_|simp -dsimp[h1,q2,h51,q52]
   revert hF;refine abr.ns ?_ ?_<;>intro h53 q54 hF
   ·have n55:¬(p.op=3):=by omega
    repeat first|refine cg ?_|simp -dsimp[h1,q2,h51,q52,h53,q54,n55]
    revert hF;refine abr.sp ?_ ?_<;>intro h56 q57 hF
    ·repeat first|refine cg ?_|simp -dsimp[h1,q2,h51,q52,h53,q54,n55,h56]
     revert hF;refine abr.sp ?_ ?_<;>intro h58 q59 hF
     ·have n60:¬(p.op=4):=by omega
      repeat first|refine cg ?_|simp -dsimp[h1,q2,h51,q52,h53,q54,n55,h56,h58,n60]
      revert hF;refine abr.ns ?_ ?_<;>intro h61 q62 hF
      ·cases hF
       repeat first|refine cg ?_|simp -dsimp[h1,q2,h51,q52,h53,q54,n55,h56,h58,n60,h61,q62]
      ·have n63:¬(p.op=1):=by omega
       cases hF
       repeat first|refine cg ?_|simp -dsimp[h1,q2,h51,q52,h53,q54,n55,h56,h58,n60,h61,q62,n63]
     ·cases hF
      repeat first|refine cg ?_|simp -dsimp[h1,q2,h51,q52,h53,q54,n55,h56,h58,q59]
    ·cases hF
     repeat first|refine cg ?_|simp -dsimp[h1,q2,h51,q52,h53,q54,n55,h56,q57]
   ·cases hF
    repeat first|refine cg ?_|simp -dsimp[h1,q2,h51,q52,h53,q54]
  ·cases hF
   repeat first|refine cg ?_|simp -dsimp[h1,q2,h51,q52]
theorem C.f59 (op:Int)(r:Int)(hF:F.f59 op=some r):PureCall Tryz.prog B 180 [.lit (.int .i64 op)] (.lit (.int .i64 r)):=by
 unfold F.f59 at hF
 refine PureCall.enterLe Tryz.func180 (by kernel_rfl) rfl Tryz.ntmps180 (by simp) (by simp) ?_
 repeat first|refine cg ?_|simp -dsimp
 revert hF;refine abr.sp ?_ ?_<;>intro h1 q2 hF
 ·cases hF
  repeat first|refine cg ?_|simp -dsimp[eq_true h1]
 ·repeat first|refine cg ?_|simp -dsimp[h1,q2]
  revert hF;refine abr.sp ?_ ?_<;>intro h3 q4 hF
  ·cases hF
   repeat first|refine cg ?_|simp -dsimp[eq_true h3]
  ·repeat first|refine cg ?_|simp -dsimp[h3,q4]
   revert hF;refine abr.sp ?_ ?_<;>intro h5 q6 hF
   ·cases hF
    repeat first|refine cg ?_|simp -dsimp[eq_true h5]
   ·cases hF
    repeat first|refine cg ?_|simp -dsimp[h5,q6]
theorem CC.f60 (t:Ty)(p:Pattern):(∀(out:List Ty) (i:Nat) (o:List Ty),F.f60 t p out i=some o→∀(c:Code),navO [1,1,1,0,1,0,0] (bodyOf Tryz.f147)=some c→∀(Q:Exit→ASt→Prop),(Q (.exit 0) ⟨[(7,.own 2 (List.length (α:=Ty) o))],[.dead,.dead,.elems 2 (List.map Ty.c o)]⟩)→ALoopU Tryz.prog B 0 30 (hold c .mk) ⟨[(4,.ptr 0 0),(5,.ptr 1 0),(7,.own 2 (List.length (α:=Ty) out)),(8,.lit (.int .i64 (i:Int)))],[.cells [.lit (.int .i64 t.data),.lit (.int .i64 t.index)],.cells [.lit (.int .i64 p.op),.lit (.int .i64 p.ctor),.lit (.int .i64 p.n),.lit (.int .i64 p.m),.lit (.int .i64 p.var),.arr (List.map Pattern.c p.kids)],.elems 2 (List.map Ty.c out)]⟩ (hold Q .mk)):=by
 refine F.f60.partial_correctness t p
  _
  ?_
 ·intro _f_f60 ih_f60 out i o hF
  intro c hc Q hq
  obtain rfl:c=_:=navEq hc rfl
  refine ALoopU.know fun hk hs=> ?_
  have d1:=hs 1 _ rfl
  simp -dsimp[Blk.bnd]at d1
  have d2:=hs 2 _ rfl
  simp -dsimp[Blk.bnd]at d2
  clear hk hs
  refine ALoopU.enter ?_
  repeat first|refine cg ?_|simp -dsimp
  have hF:=ob hF;obtain⟨v4,e5,hF⟩:=hF
  refine((C.f59 B hB1 hB2 p.op v4 e5)).goW (by simp) (by simp) ?_
  repeat first|refine cg ?_|simp -dsimp
  revert hF;refine abr.sp ?_ ?_<;>intro h6 q7 hF
  ·have hF:=oc hF;obtain⟨c8,hF⟩:=hF
   have hF:=oc hF;obtain⟨c9,hF⟩:=hF
   have w10:IntKind.i64.wrap ((i:Int)+1)=(i:Int)+1:=wrap_in (by omega) (by omega)
   repeat first|refine cg ?_|simp -dsimp[h6,w10]
   refine Again.go _ ?_ ((ih_f60 (out++[t]) (i+1) o hF) _ rfl _ hq)
   exact(Gh.to3 (by simp) (by simp_all))
  ·cases hF
   repeat first|refine cg ?_|simp -dsimp[h6,q7]
   refine Leave.go _ (Gh.to3 (by simp) (by simp_all)) hq
theorem C.f61 (w:List Vl.Data)(t:Ty)(p:Pattern)(r:List Ty)(hF:F.f61 w t p=some r):PureCall Tryz.prog B 147 [.arr (List.map Vl.Data.c w),.agg [.lit (.int .i64 t.data),.lit (.int .i64 t.index)],.agg [.lit (.int .i64 p.op),.lit (.int .i64 p.ctor),.lit (.int .i64 p.n),.lit (.int .i64 p.m),.lit (.int .i64 p.var),.arr (List.map Pattern.c p.kids)]] (.arr (List.map Ty.c r)):=by
 unfold F.f61 at hF
 refine PureCall.enterLe Tryz.func147 (by kernel_rfl) rfl Tryz.ntmps147 (by simp) (by simp) ?_
 repeat first|refine cg ?_|simp -dsimp
 revert hF;refine abr.sp ?_ ?_<;>intro h1 q2 hF
 ·repeat first|refine cg ?_|simp -dsimp[h1]
  have hF:=ob hF;obtain⟨v,e3,hF⟩:=hF
  refine((C.f44 B hB1 hB2 w t p.ctor v e3)).goW (by simp_all) (by simp) ?_
  cases hF
  repeat first|refine cg ?_|simp -dsimp
 ·repeat first|refine cg ?_|simp -dsimp[q2]
  have hF:=ob hF;obtain⟨o',ho11,hF⟩:=hF
  refine ALoop.goU _ ?_ (((CC.f60 B hB1 hB2 t p) [] 0 o' ho11) _ rfl _ ?_)
  ·exact(Gh.to3 (by simp) (by simp_all))
  cases hF
  repeat first|refine cg ?_|simp -dsimp
theorem CC.f62 (w:List Vl.Data):(∀(t:Ty) (p:Pattern) (depth:Int) (r:Bool),F.f62 w t p depth=some r→PureCall Tryz.prog B 143 [.arr (List.map Vl.Data.c w),.agg [.lit (.int .i64 t.data),.lit (.int .i64 t.index)],.agg [.lit (.int .i64 p.op),.lit (.int .i64 p.ctor),.lit (.int .i64 p.n),.lit (.int .i64 p.m),.lit (.int .i64 p.var),.arr (List.map Pattern.c p.kids)],.lit (.int .i64 depth)] (.lit (.bool r)))∧
  (∀(p:Pattern) (depth:Int) (v6:List Ty) (i:Nat) (o:Lo Bool Unit),F.f63 w p depth v6 i=some o→∀(c:Code),navO [1,1,1,1,0,1,0,0] (bodyOf Tryz.f143)=some c→∀(Q:Exit→ASt→Prop),o.post (fun r=>∀st,Post Tryz.prog Tryz.f143 (fun r' _=>r'.le (.lit (.bool r))) .ret st→Q .ret st) (fun s=>Q (.exit 0) ⟨[],[]⟩)→ALoopU Tryz.prog B 0 50 (hold c .mk) ⟨[(0,.arr (List.map Vl.Data.c w)),(3,.lit (.int .i64 depth)),(6,.ptr 1 0),(9,.arr (List.map Ty.c v6)),(10,.lit (.int .i64 (i:Int)))],[.dead,.cells [.lit (.int .i64 p.op),.lit (.int .i64 p.ctor),.lit (.int .i64 p.n),.lit (.int .i64 p.m),.lit (.int .i64 p.var),.arr (List.map Pattern.c p.kids)]]⟩ (hold Q .mk)):=by
 refine F.f62.mutual_partial_correctness w
  _ _
  ?_ ?_
 ·intro _f_f63 ih_f63 t p depth r hF
  refine PureCall.enterLe Tryz.func143 (by kernel_rfl) rfl Tryz.ntmps143 (by simp) (by simp) ?_
  repeat first|refine cg ?_|simp -dsimp
  revert hF;refine abr.ns ?_ ?_<;>intro h1 q2 hF
  ·repeat first|refine cg ?_|simp -dsimp[h1,q2]
   have hF:=ob hF;obtain⟨v,e3,hF⟩:=hF
   refine((C.f58 B hB1 hB2 w t p v e3)).goW (by simp[h1,q2]) (by simp) ?_
   repeat first|refine cg ?_|simp -dsimp[h1,q2]
   revert hF;refine abr.ns (fun h4 q5 hF=> ?_) (fun h4 q5 hF=> ?_)
   ·cases hF
    repeat first|refine cg ?_|simp -dsimp[h1,q2,h4,q5]
   ·repeat first|refine cg ?_|simp -dsimp[h1,q2,h4,q5]
    have hF:=ob hF;obtain⟨v6,e7,hF⟩:=hF
    refine((C.f61 B hB1 hB2 w t p v6 e7)).goW (by simp[h1,q2,h4,q5]) (by simp) ?_
    repeat first|refine cg ?_|simp -dsimp[h1,q2,h4,q5]
    revert hF;refine abr.ns ?_ ?_<;>intro h8 q9 hF
    ·have z10:¬((p.kids.length:Int)=(v6.length:Int)):=auz
     cases hF
     repeat first|refine cg ?_|simp -dsimp[h1,q2,h4,q5,h8,q9,z10]
    ·have z10:((p.kids.length:Int)=(v6.length:Int)):=auz
     repeat first|refine cg ?_|simp -dsimp[h1,q2,h4,q5,h8,q9,z10]
     have hF:=ob hF;obtain⟨o',ho22,hF⟩:=hF
     refine ALoop.goU _ ?_ ((ih_f63 p depth v6 0 o' ho22) _ rfl _ ?_)
     ·exact(Gh.to3 (by simp) (by simp -dsimp[h1,q2,h4,q5,h8,q9,z10]))
     rcases o' with r0|sx
     ·dsimp only at hF
      cases hF
      intro st h
      simpa using h
     ·dsimp only at hF
      cases hF
      repeat first|refine cg ?_|simp -dsimp
  ·cases hF
   repeat first|refine cg ?_|simp -dsimp[h1,q2]
 ·intro _f_f62 _f_f63 ih_f62 ih_f63 p depth v6 i o hF
  intro c hc Q hq
  obtain rfl:c=_:=navEq hc rfl
  refine ALoopU.know fun hk hs=> ?_
  have b0:=hk 0
  simp -dsimp at b0
  have b9:=hk 9
  simp -dsimp at b9
  have d1:=hs 1 _ rfl
  simp -dsimp[Blk.bnd]at d1
  clear hk hs
  refine ALoopU.enter ?_
  repeat first|refine cg ?_|simp -dsimp
  revert hF;refine abr.sp ?_ ?_<;>intro h11 q12 hF
  ·have z13:((i:Int)<(v6.length:Int)):=auz
   repeat first|refine cg ?_|simp -dsimp[h11,z13]
   refine ADraw.simple follows (by kernel_rfl) (by kernel_rfl) ?_
   have hF:=ob hF;obtain⟨x,e14,hF⟩:=hF
   have le14:=lt_of_get e14
   have hF:=ob hF;obtain⟨x15,e16,hF⟩:=hF
   have le16:=lt_of_get e16
   repeat first|refine cg ?_|simp -dsimp[h11,z13,↓e14,↓e16]
   have hF:=ob hF;obtain⟨v17,e18,hF⟩:=hF
   refine((ih_f62 x x15 (IntKind.i64.wrap (depth-1)) v17 e18)).pgoW (by simp[h11,z13,↓e14,↓e16]) (by simp) ?_
   repeat first|refine cg ?_|simp -dsimp[h11,z13,↓e14,↓e16]
   revert hF;refine abr.ns (fun h19 q20 hF=> ?_) (fun h19 q20 hF=> ?_)
   ·cases hF
    repeat first|refine cg ?_|simp -dsimp[h11,z13,↓e14,↓e16,h19,q20]
    refine Leave.go _ (Gh.refl _) (hq _ ?_)
    repeat first|refine cg ?_|simp -dsimp[h11,z13,↓e14,↓e16,h19,q20]
   ·have w21:IntKind.i64.wrap ((i:Int)+1)=(i:Int)+1:=wrap_in (by omega) (by omega)
    repeat first|refine cg ?_|simp -dsimp[h11,z13,↓e14,↓e16,h19,q20,w21]
    refine Again.go _ ?_ ((ih_f63 p depth v6 (i+1) o hF) _ rfl _ hq)
    exact(Gh.to3 (by simp) (by simp -dsimp[h11,z13,↓e14,↓e16,h19,q20,w21]))
  ·have z13:¬((i:Int)<(v6.length:Int)):=auz
   cases hF
   repeat first|refine cg ?_|simp -dsimp[h11,q12,z13]
   refine Leave.go _ (Gh.to3 (by simp) (by simp -dsimp[h11,q12,z13])) hq
theorem CC.f64  :(∀(p:Pattern) (most:Int) (r:Int),F.f64 p most=some r→PureCall Tryz.prog B 144 [.agg [.lit (.int .i64 p.op),.lit (.int .i64 p.ctor),.lit (.int .i64 p.n),.lit (.int .i64 p.m),.lit (.int .i64 p.var),.arr (List.map Pattern.c p.kids)],.lit (.int .i64 most)] (.lit (.int .i64 r)))∧
  (∀(p:Pattern) (most:Int) (n:Int) (i:Nat) (o:Int),F.f65 p most n i=some o→∀(c:Code),navO [1,1,0,1,0,0] (bodyOf Tryz.f144)=some c→∀(Q:Exit→ASt→Prop),(Q (.exit 0) ⟨[(5,.lit (.int .i64 o))],[]⟩)→ALoopU Tryz.prog B 0 31 (hold c .mk) ⟨[(1,.lit (.int .i64 most)),(2,.ptr 0 0),(5,.lit (.int .i64 n)),(6,.lit (.int .i64 (i:Int)))],[.cells [.lit (.int .i64 p.op),.lit (.int .i64 p.ctor),.lit (.int .i64 p.n),.lit (.int .i64 p.m),.lit (.int .i64 p.var),.arr (List.map Pattern.c p.kids)]]⟩ (hold Q .mk)):=by
 refine F.f64.mutual_partial_correctness 
  _ _
  ?_ ?_
 ·intro _f_f65 ih_f65 p most r hF
  refine PureCall.enterLe Tryz.func144 (by kernel_rfl) rfl Tryz.ntmps144 (by simp) (by simp) ?_
  repeat first|refine cg ?_|simp -dsimp
  have hF:=ob hF;obtain⟨o',ho9,hF⟩:=hF
  refine ALoop.goU _ ?_ ((ih_f65 p most 1 0 o' ho9) _ rfl _ ?_)
  ·exact(Gh.to3 (by simp) (by simp -dsimp))
  cases hF
  repeat first|refine cg ?_|simp -dsimp
 ·intro _f_f64 _f_f65 ih_f64 ih_f65 p most n i o hF
  intro c hc Q hq
  obtain rfl:c=_:=navEq hc rfl
  refine ALoopU.know fun hk hs=> ?_
  have d0:=hs 0 _ rfl
  simp -dsimp[Blk.bnd]at d0
  clear hk hs
  refine ALoopU.enter ?_
  repeat first|refine cg ?_|simp -dsimp
  revert hF;refine abr.sp ?_ ?_<;>intro h1 q2 hF
  ·have z3:((i:Int)<(p.kids.length:Int)):=auz
   repeat first|refine cg ?_|simp -dsimp[h1,z3]
   revert hF;refine abr.sp ?_ ?_<;>intro h4 q5 hF
   ·have hF:=ob hF;obtain⟨x,e6,hF⟩:=hF
    have le6:=lt_of_get e6
    repeat first|refine cg ?_|simp -dsimp[h4,↓e6]
    have hF:=ob hF;obtain⟨v,e7,hF⟩:=hF
    refine((ih_f64 x (IntKind.i64.wrap (most-n)) v e7)).goW (by simp_all) (by simp) ?_
    have w8:IntKind.i64.wrap ((i:Int)+1)=(i:Int)+1:=wrap_in (by omega) (by omega)
    repeat first|refine cg ?_|simp -dsimp[w8]
    refine Again.go _ ?_ ((ih_f65 p most (IntKind.i64.wrap (n+v)) (i+1) o hF) _ rfl _ hq)
    exact(Gh.to3 (by simp) (by simp_all))
   ·cases hF
    repeat first|refine cg ?_|simp -dsimp[h4,q5]
    refine Leave.go _ (Gh.to3 (by simp) (by simp_all)) hq
  ·have z3:¬((i:Int)<(p.kids.length:Int)):=auz
   cases hF
   repeat first|refine cg ?_|simp -dsimp[h1,q2,z3]
   refine Leave.go _ (Gh.to3 (by simp) (by simp_all)) hq
theorem CC.f66 (w:List Vl.Data):(∀(out:List VarType) (t:Ty) (p:Pattern) (r:List VarType),F.f66 out w t p=some r→BCall Tryz.prog B 91 [.elems 3 (List.map VarType.c out)] [.own 0 (List.length (α:=VarType) out),.arr (List.map Vl.Data.c w),.agg [.lit (.int .i64 t.data),.lit (.int .i64 t.index)],.agg [.lit (.int .i64 p.op),.lit (.int .i64 p.ctor),.lit (.int .i64 p.n),.lit (.int .i64 p.m),.lit (.int .i64 p.var),.arr (List.map Pattern.c p.kids)]] (.own 0 (List.length (α:=VarType) r)) [.elems 3 (List.map VarType.c r)])∧
  (∀(p:Pattern) (v30:List Ty) (out32:List VarType) (i33:Nat) (o:List VarType),F.f68 w p v30 out32 i33=some o→∀(c:Code),navO [1,1,1,0,1,0,0] (bodyOf Tryz.f91)=some c→∀(Q:Exit→ASt→Prop),(Q (.exit 0) ⟨[(0,.own 0 (List.length (α:=VarType) o))],[.elems 3 (List.map VarType.c o)]⟩)→ALoopU Tryz.prog B 1 58 (hold c .mk) ⟨[(0,.own 0 (List.length (α:=VarType) out32)),(1,.arr (List.map Vl.Data.c w)),(7,.ptr 2 0),(9,.arr (List.map Ty.c v30)),(10,.lit (.int .i64 (i33:Int)))],[.elems 3 (List.map VarType.c out32),.dead,.cells [.lit (.int .i64 p.op),.lit (.int .i64 p.ctor),.lit (.int .i64 p.n),.lit (.int .i64 p.m),.lit (.int .i64 p.var),.arr (List.map Pattern.c p.kids)]]⟩ (hold Q .mk))∧
  (∀(p:Pattern) (v:List Ty) (out7:List VarType) (i:Nat) (o:List VarType),F.f67 w p v out7 i=some o→∀(c:Code),navO [1,1,1,0,1,0,0] (bodyOf Tryz.f91)=some c→∀(Q:Exit→ASt→Prop),(Q (.exit 0) ⟨[(0,.own 0 (List.length (α:=VarType) o))],[.elems 3 (List.map VarType.c o)]⟩)→ALoopU Tryz.prog B 1 58 (hold c .mk) ⟨[(0,.own 0 (List.length (α:=VarType) out7)),(1,.arr (List.map Vl.Data.c w)),(7,.ptr 2 0),(9,.arr (List.map Ty.c v)),(10,.lit (.int .i64 (i:Int)))],[.elems 3 (List.map VarType.c out7),.dead,.cells [.lit (.int .i64 p.op),.lit (.int .i64 p.ctor),.lit (.int .i64 p.n),.lit (.int .i64 p.m),.lit (.int .i64 p.var),.arr (List.map Pattern.c p.kids)]]⟩ (hold Q .mk))∧
  (∀(p:Pattern) (v59:List Ty) (out61:List VarType) (i62:Nat) (o:List VarType),F.f69 w p v59 out61 i62=some o→∀(c:Code),navO [1,1,1,0,1,0,0] (bodyOf Tryz.f91)=some c→∀(Q:Exit→ASt→Prop),(Q (.exit 0) ⟨[(0,.own 0 (List.length (α:=VarType) o))],[.elems 3 (List.map VarType.c o)]⟩)→ALoopU Tryz.prog B 1 58 (hold c .mk) ⟨[(0,.own 0 (List.length (α:=VarType) out61)),(1,.arr (List.map Vl.Data.c w)),(7,.ptr 2 0),(9,.arr (List.map Ty.c v59)),(10,.lit (.int .i64 (i62:Int)))],[.elems 3 (List.map VarType.c out61),.dead,.cells [.lit (.int .i64 p.op),.lit (.int .i64 p.ctor),.lit (.int .i64 p.n),.lit (.int .i64 p.m),.lit (.int .i64 p.var),.arr (List.map Pattern.c p.kids)]]⟩ (hold Q .mk)):=by
 refine F.f66.mutual_partial_correctness w
  _ _ _ _
  ?_ ?_ ?_ ?_
 ·intro _f_f68 _f_f67 _f_f69 ih_f68 ih_f67 ih_f69 out t p r hF
  refine BCall.enter Tryz.func91 (by kernel_rfl) rfl Tryz.ntmps91 (by simp) rfl (by simp) (by simp) (by simp) (by simp) (by simp) (Gh.refl _) ?_
  repeat first|refine cg ?_|simp -dsimp
  revert hF;refine abr.ns ?_ ?_<;>intro h1 q2 hF
  ·repeat first|refine cg ?_|simp -dsimp[h1,q2]
   revert hF;refine abr.sp ?_ ?_<;>intro h3 q4 hF
   ·have hF:=oc hF;obtain⟨c5,hF⟩:=hF
    repeat first|refine cg ?_|simp -dsimp[h1,q2,h3]
    have hF:=ob hF;obtain⟨v,e6,hF⟩:=hF
    refine((C.f61 B hB1 hB2 w t p v e6)).goW (by simp[h1,q2,h3]) (by simp) ?_
    repeat first|refine cg ?_|simp -dsimp[h1,q2,h3]
    have hF:=ob hF;obtain⟨o',ho29,hF⟩:=hF
    refine ALoop.goU _ ?_ ((ih_f67 p v (out++[(⟨p.var,t⟩:VarType)]) 0 o' ho29) _ rfl _ ?_)
    ·exact(Gh.to3 (by simp) (by simp -dsimp[h1,q2,h3]))
    cases hF
    repeat first|refine cg ?_|simp -dsimp
   ·repeat first|refine cg ?_|simp -dsimp[h1,q2,h3,q4]
    have hF:=ob hF;obtain⟨v30,e31,hF⟩:=hF
    refine((C.f61 B hB1 hB2 w t p v30 e31)).goW (by simp[h1,q2,h3,q4]) (by simp) ?_
    repeat first|refine cg ?_|simp -dsimp[h1,q2,h3,q4]
    have hF:=ob hF;obtain⟨o'57,ho56,hF⟩:=hF
    refine ALoop.goU _ ?_ ((ih_f68 p v30 out 0 o'57 ho56) _ rfl _ ?_)
    ·exact(Gh.to3 (by simp) (by simp -dsimp[h1,q2,h3,q4]))
    cases hF
    repeat first|refine cg ?_|simp -dsimp
  ·have hF:=oc hF;obtain⟨c58,hF⟩:=hF
   repeat first|refine cg ?_|simp -dsimp[h1,q2]
   have hF:=ob hF;obtain⟨v59,e60,hF⟩:=hF
   refine((C.f61 B hB1 hB2 w t p v59 e60)).goW (by simp[h1,q2]) (by simp) ?_
   repeat first|refine cg ?_|simp -dsimp[h1,q2]
   have hF:=ob hF;obtain⟨o'86,ho85,hF⟩:=hF
   refine ALoop.goU _ ?_ ((ih_f69 p v59 (out++[(⟨p.var,t⟩:VarType)]) 0 o'86 ho85) _ rfl _ ?_)
   ·exact(Gh.to3 (by simp) (by simp -dsimp[h1,q2]))
   cases hF
   repeat first|refine cg ?_|simp -dsimp
 ·intro _f_f66 _f_f68 ih_f66 ih_f68 p v30 out32 i33 o hF
  intro c hc Q hq
  obtain rfl:c=_:=navEq hc rfl
  refine ALoopU.know fun hk hs=> ?_
  have b1:=hk 1
  simp -dsimp at b1
  have b9:=hk 9
  simp -dsimp at b9
  have d0:=hs 0 _ rfl
  simp -dsimp[Blk.bnd]at d0
  have d2:=hs 2 _ rfl
  simp -dsimp[Blk.bnd]at d2
  clear hk hs
  refine ALoopU.enter ?_
  repeat first|refine cg ?_|simp -dsimp
  revert hF;refine abr.sp ?_ ?_<;>intro h34 q35 hF
  ·have z36:((i33:Int)<(v30.length:Int)):=auz
   repeat first|refine cg ?_|simp -dsimp[h34,z36]
   revert hF;refine abr.ns ?_ ?_<;>intro h37 q38 hF
   ·have z39:¬((i33:Int)=0):=auz
    repeat first|refine cg ?_|simp -dsimp[h34,z36,h37,q38,z39]
    revert hF;refine abr.ns ?_ ?_<;>intro h40 q41 hF
    ·repeat first|refine cg ?_|simp -dsimp[h34,z36,h37,q38,z39,h40,q41]
     refine ADraw.eff [91] [(0,0),(0,0),(0,0),(0,0),(0,0),(0,0),(0,0),(0,0),(0,0),(0,0),(0,0),(0,1),(1,1)] [1,1,1,1,1,1,1,1,1,1,1,1,1] follows (by kernel_rfl) (by kernel_rfl) (by kernel_rfl) ?_
     have hF:=ob hF;obtain⟨x42,e43,hF⟩:=hF
     have le43:=lt_of_get e43
     have hF:=ob hF;obtain⟨x44,e45,hF⟩:=hF
     have le45:=lt_of_get e45
     repeat first|refine cg ?_|simp -dsimp[h34,z36,h37,q38,z39,h40,q41,↓e43,↓e45]
     have hF:=ob hF;obtain⟨v46,e47,hF⟩:=hF
     refine((ih_f66 out32 x42 x44 v46 e47)).ego (pl [0]) (by simp) (by simp) (plInj _ rfl (by decide)) (by intro i hi hi';simp at hi hi';first|omega|(subst hi';simp[pl])) (by simp[h34,z36,h37,q38,z39,h40,q41,↓e43,↓e45]) (by simp[h34,z36,h37,q38,z39,h40,q41,↓e43,↓e45]) ?_
     have w48:IntKind.i64.wrap ((i33:Int)+1)=(i33:Int)+1:=wrap_in (by omega) (by omega)
     repeat first|refine cg ?_|simp -dsimp[h34,z36,h37,q38,z39,h40,q41,↓e43,↓e45,w48]
     refine Again.go _ ?_ ((ih_f68 p v30 v46 (i33+1) o hF) _ rfl _ hq)
     exact(Gh.to3 (by simp) (by simp -dsimp[h34,z36,h37,q38,z39,h40,q41,↓e43,↓e45,w48]))
    ·cases hF
     repeat first|refine cg ?_|simp -dsimp[h34,z36,h37,q38,z39,h40,q41]
     refine Leave.go _ (Gh.to3 (by simp) (by simp -dsimp[h34,z36,h37,q38,z39,h40,q41])) hq
   ·have z39:((i33:Int)=0):=auz
    repeat first|refine cg ?_|simp -dsimp[h34,z36,eq_true h37,eq_true q38,eq_true z39]
    refine ADraw.eff [91] [(0,0),(0,0),(0,0),(0,0),(0,0),(0,0),(0,0),(0,0),(0,0),(0,0),(0,0),(0,1),(1,1)] [1,1,1,1,1,1,1,1,1,1,1,1,1] follows (by kernel_rfl) (by kernel_rfl) (by kernel_rfl) ?_
    have hF:=ob hF;obtain⟨x49,e50,hF⟩:=hF
    have le50:=lt_of_get e50
    have hF:=ob hF;obtain⟨x51,e52,hF⟩:=hF
    have le52:=lt_of_get e52
    repeat first|refine cg ?_|simp -dsimp[h34,z36,eq_true h37,eq_true q38,eq_true z39,↓e50,↓e52]
    have hF:=ob hF;obtain⟨v53,e54,hF⟩:=hF
    refine((ih_f66 out32 x49 x51 v53 e54)).ego (pl [0]) (by simp) (by simp) (plInj _ rfl (by decide)) (by intro i hi hi';simp at hi hi';first|omega|(subst hi';simp[pl])) (by simp[h34,z36,eq_true h37,eq_true q38,eq_true z39,↓e50,↓e52]) (by simp[h34,z36,eq_true h37,eq_true q38,eq_true z39,↓e50,↓e52]) ?_
    have w55:IntKind.i64.wrap ((i33:Int)+1)=(i33:Int)+1:=wrap_in (by omega) (by omega)
    repeat first|refine cg ?_|simp -dsimp[h34,z36,eq_true h37,eq_true q38,eq_true z39,↓e50,↓e52,w55]
    refine Again.go _ ?_ ((ih_f68 p v30 v53 (i33+1) o hF) _ rfl _ hq)
    exact(Gh.to3 (by simp) (by simp -dsimp[h34,z36,eq_true h37,eq_true q38,eq_true z39,↓e50,↓e52,w55]))
  ·have z36:¬((i33:Int)<(v30.length:Int)):=auz
   cases hF
   repeat first|refine cg ?_|simp -dsimp[h34,q35,z36]
   refine Leave.go _ (Gh.to3 (by simp) (by simp -dsimp[h34,q35,z36])) hq
 ·intro _f_f66 _f_f67 ih_f66 ih_f67 p v out7 i o hF
  intro c hc Q hq
  obtain rfl:c=_:=navEq hc rfl
  refine ALoopU.know fun hk hs=> ?_
  have b1:=hk 1
  simp -dsimp at b1
  have b9:=hk 9
  simp -dsimp at b9
  have d0:=hs 0 _ rfl
  simp -dsimp[Blk.bnd]at d0
  have d2:=hs 2 _ rfl
  simp -dsimp[Blk.bnd]at d2
  clear hk hs
  refine ALoopU.enter ?_
  repeat first|refine cg ?_|simp -dsimp
  revert hF;refine abr.sp ?_ ?_<;>intro h8 q9 hF
  ·have z10:((i:Int)<(v.length:Int)):=auz
   repeat first|refine cg ?_|simp -dsimp[h8,z10]
   revert hF;refine abr.ns ?_ ?_<;>intro h11 q12 hF
   ·have z13:¬((i:Int)=0):=auz
    repeat first|refine cg ?_|simp -dsimp[h8,z10,h11,q12,z13]
    revert hF;refine abr.ns ?_ ?_<;>intro h14 q15 hF
    ·repeat first|refine cg ?_|simp -dsimp[h8,z10,h11,q12,z13,h14,q15]
     refine ADraw.eff [91] [(0,0),(0,0),(0,0),(0,0),(0,0),(0,0),(0,0),(0,0),(0,0),(0,0),(0,0),(0,1),(1,1)] [1,1,1,1,1,1,1,1,1,1,1,1,1] follows (by kernel_rfl) (by kernel_rfl) (by kernel_rfl) ?_
     have hF:=ob hF;obtain⟨x,e16,hF⟩:=hF
     have le16:=lt_of_get e16
     have hF:=ob hF;obtain⟨x17,e18,hF⟩:=hF
     have le18:=lt_of_get e18
     repeat first|refine cg ?_|simp -dsimp[h8,z10,h11,q12,z13,h14,q15,↓e16,↓e18]
     have hF:=ob hF;obtain⟨v19,e20,hF⟩:=hF
     refine((ih_f66 out7 x x17 v19 e20)).ego (pl [0]) (by simp) (by simp) (plInj _ rfl (by decide)) (by intro i hi hi';simp at hi hi';first|omega|(subst hi';simp[pl])) (by simp[h8,z10,h11,q12,z13,h14,q15,↓e16,↓e18]) (by simp[h8,z10,h11,q12,z13,h14,q15,↓e16,↓e18]) ?_
     have w21:IntKind.i64.wrap ((i:Int)+1)=(i:Int)+1:=wrap_in (by omega) (by omega)
     repeat first|refine cg ?_|simp -dsimp[h8,z10,h11,q12,z13,h14,q15,↓e16,↓e18,w21]
     refine Again.go _ ?_ ((ih_f67 p v v19 (i+1) o hF) _ rfl _ hq)
     exact(Gh.to3 (by simp) (by simp -dsimp[h8,z10,h11,q12,z13,h14,q15,↓e16,↓e18,w21]))
    ·cases hF
     repeat first|refine cg ?_|simp -dsimp[h8,z10,h11,q12,z13,h14,q15]
     refine Leave.go _ (Gh.to3 (by simp) (by simp -dsimp[h8,z10,h11,q12,z13,h14,q15])) hq
   ·have z13:((i:Int)=0):=auz
    repeat first|refine cg ?_|simp -dsimp[h8,z10,eq_true h11,eq_true q12,eq_true z13]
    refine ADraw.eff [91] [(0,0),(0,0),(0,0),(0,0),(0,0),(0,0),(0,0),(0,0),(0,0),(0,0),(0,0),(0,1),(1,1)] [1,1,1,1,1,1,1,1,1,1,1,1,1] follows (by kernel_rfl) (by kernel_rfl) (by kernel_rfl) ?_
    have hF:=ob hF;obtain⟨x22,e23,hF⟩:=hF
    have le23:=lt_of_get e23
    have hF:=ob hF;obtain⟨x24,e25,hF⟩:=hF
    have le25:=lt_of_get e25
    repeat first|refine cg ?_|simp -dsimp[h8,z10,eq_true h11,eq_true q12,eq_true z13,↓e23,↓e25]
    have hF:=ob hF;obtain⟨v26,e27,hF⟩:=hF
    refine((ih_f66 out7 x22 x24 v26 e27)).ego (pl [0]) (by simp) (by simp) (plInj _ rfl (by decide)) (by intro i hi hi';simp at hi hi';first|omega|(subst hi';simp[pl])) (by simp[h8,z10,eq_true h11,eq_true q12,eq_true z13,↓e23,↓e25]) (by simp[h8,z10,eq_true h11,eq_true q12,eq_true z13,↓e23,↓e25]) ?_
    have w28:IntKind.i64.wrap ((i:Int)+1)=(i:Int)+1:=wrap_in (by omega) (by omega)
    repeat first|refine cg ?_|simp -dsimp[h8,z10,eq_true h11,eq_true q12,eq_true z13,↓e23,↓e25,w28]
    refine Again.go _ ?_ ((ih_f67 p v v26 (i+1) o hF) _ rfl _ hq)
    exact(Gh.to3 (by simp) (by simp -dsimp[h8,z10,eq_true h11,eq_true q12,eq_true z13,↓e23,↓e25,w28]))
  ·have z10:¬((i:Int)<(v.length:Int)):=auz
   cases hF
   repeat first|refine cg ?_|simp -dsimp[h8,q9,z10]
   refine Leave.go _ (Gh.to3 (by simp) (by simp -dsimp[h8,q9,z10])) hq
 ·intro _f_f66 _f_f69 ih_f66 ih_f69 p v59 out61 i62 o hF
  intro c hc Q hq
  obtain rfl:c=_:=navEq hc rfl
  refine ALoopU.know fun hk hs=> ?_
  have b1:=hk 1
  simp -dsimp at b1
  have b9:=hk 9
  simp -dsimp at b9
  have d0:=hs 0 _ rfl
  simp -dsimp[Blk.bnd]at d0
  have d2:=hs 2 _ rfl
  simp -dsimp[Blk.bnd]at d2
  clear hk hs
  refine ALoopU.enter ?_
  repeat first|refine cg ?_|simp -dsimp
  revert hF;refine abr.sp ?_ ?_<;>intro h63 q64 hF
  ·have z65:((i62:Int)<(v59.length:Int)):=auz
   repeat first|refine cg ?_|simp -dsimp[h63,z65]
   revert hF;refine abr.ns ?_ ?_<;>intro h66 q67 hF
   ·have z68:¬((i62:Int)=0):=auz
    repeat first|refine cg ?_|simp -dsimp[h63,z65,h66,q67,z68]
    revert hF;refine abr.ns ?_ ?_<;>intro h69 q70 hF
    ·repeat first|refine cg ?_|simp -dsimp[h63,z65,h66,q67,z68,h69,q70]
     refine ADraw.eff [91] [(0,0),(0,0),(0,0),(0,0),(0,0),(0,0),(0,0),(0,0),(0,0),(0,0),(0,0),(0,1),(1,1)] [1,1,1,1,1,1,1,1,1,1,1,1,1] follows (by kernel_rfl) (by kernel_rfl) (by kernel_rfl) ?_
     have hF:=ob hF;obtain⟨x71,e72,hF⟩:=hF
     have le72:=lt_of_get e72
     have hF:=ob hF;obtain⟨x73,e74,hF⟩:=hF
     have le74:=lt_of_get e74
     repeat first|refine cg ?_|simp -dsimp[h63,z65,h66,q67,z68,h69,q70,↓e72,↓e74]
     have hF:=ob hF;obtain⟨v75,e76,hF⟩:=hF
     refine((ih_f66 out61 x71 x73 v75 e76)).ego (pl [0]) (by simp) (by simp) (plInj _ rfl (by decide)) (by intro i hi hi';simp at hi hi';first|omega|(subst hi';simp[pl])) (by simp[h63,z65,h66,q67,z68,h69,q70,↓e72,↓e74]) (by simp[h63,z65,h66,q67,z68,h69,q70,↓e72,↓e74]) ?_
     have w77:IntKind.i64.wrap ((i62:Int)+1)=(i62:Int)+1:=wrap_in (by omega) (by omega)
     repeat first|refine cg ?_|simp -dsimp[h63,z65,h66,q67,z68,h69,q70,↓e72,↓e74,w77]
     refine Again.go _ ?_ ((ih_f69 p v59 v75 (i62+1) o hF) _ rfl _ hq)
     exact(Gh.to3 (by simp) (by simp -dsimp[h63,z65,h66,q67,z68,h69,q70,↓e72,↓e74,w77]))
    ·cases hF
     repeat first|refine cg ?_|simp -dsimp[h63,z65,h66,q67,z68,h69,q70]
     refine Leave.go _ (Gh.to3 (by simp) (by simp -dsimp[h63,z65,h66,q67,z68,h69,q70])) hq
   ·have z68:((i62:Int)=0):=auz
    repeat first|refine cg ?_|simp -dsimp[h63,z65,eq_true h66,eq_true q67,eq_true z68]
    refine ADraw.eff [91] [(0,0),(0,0),(0,0),(0,0),(0,0),(0,0),(0,0),(0,0),(0,0),(0,0),(0,0),(0,1),(1,1)] [1,1,1,1,1,1,1,1,1,1,1,1,1] follows (by kernel_rfl) (by kernel_rfl) (by kernel_rfl) ?_
    have hF:=ob hF;obtain⟨x78,e79,hF⟩:=hF
    have le79:=lt_of_get e79
    have hF:=ob hF;obtain⟨x80,e81,hF⟩:=hF
    have le81:=lt_of_get e81
    repeat first|refine cg ?_|simp -dsimp[h63,z65,eq_true h66,eq_true q67,eq_true z68,↓e79,↓e81]
    have hF:=ob hF;obtain⟨v82,e83,hF⟩:=hF
    refine((ih_f66 out61 x78 x80 v82 e83)).ego (pl [0]) (by simp) (by simp) (plInj _ rfl (by decide)) (by intro i hi hi';simp at hi hi';first|omega|(subst hi';simp[pl])) (by simp[h63,z65,eq_true h66,eq_true q67,eq_true z68,↓e79,↓e81]) (by simp[h63,z65,eq_true h66,eq_true q67,eq_true z68,↓e79,↓e81]) ?_
    have w84:IntKind.i64.wrap ((i62:Int)+1)=(i62:Int)+1:=wrap_in (by omega) (by omega)
    repeat first|refine cg ?_|simp -dsimp[h63,z65,eq_true h66,eq_true q67,eq_true z68,↓e79,↓e81,w84]
    refine Again.go _ ?_ ((ih_f69 p v59 v82 (i62+1) o hF) _ rfl _ hq)
    exact(Gh.to3 (by simp) (by simp -dsimp[h63,z65,eq_true h66,eq_true q67,eq_true z68,↓e79,↓e81,w84]))
  ·have z65:¬((i62:Int)<(v59.length:Int)):=auz
   cases hF
   repeat first|refine cg ?_|simp -dsimp[h63,q64,z65]
   refine Leave.go _ (Gh.to3 (by simp) (by simp -dsimp[h63,q64,z65])) hq
theorem CC.f70 (list:List VarType)(n:Int):(∀(i:Nat) (o:Lo Int Unit),F.f70 list n i=some o→∀(c:Code),navO [1,0,1,0,0] (bodyOf Tryz.f146)=some c→∀(Q:Exit→ASt→Prop),o.post (fun r=>∀st,Post Tryz.prog Tryz.f146 (fun r' _=>r'.le (.lit (.int .i64 r))) .ret st→Q .ret st) (fun s=>Q (.exit 0) ⟨[],[]⟩)→ALoopU Tryz.prog B 0 20 (hold c .mk) ⟨[(0,.arr (List.map VarType.c list)),(1,.lit (.int .i64 n)),(5,.lit (.int .i64 (i:Int)))],[]⟩ (hold Q .mk)):=by
 refine F.f70.partial_correctness list n
  _
  ?_
 ·intro _f_f70 ih_f70 i o hF
  intro c hc Q hq
  obtain rfl:c=_:=navEq hc rfl
  refine ALoopU.know fun hk hs=> ?_
  have b0:=hk 0
  simp -dsimp at b0
  clear hk hs
  refine ALoopU.enter ?_
  repeat first|refine cg ?_|simp -dsimp
  revert hF;refine abr.sp ?_ ?_<;>intro h1 q2 hF
  ·have z3:((i:Int)<(list.length:Int)):=auz
   have hF:=ob hF;obtain⟨x,e4,hF⟩:=hF
   have le4:=lt_of_get e4
   repeat first|refine cg ?_|simp -dsimp[h1,z3,↓e4]
   revert hF;refine abr.sp ?_ ?_<;>intro h5 q6 hF
   ·cases hF
    repeat first|refine cg ?_|simp -dsimp[h5]
    refine Leave.go _ (Gh.refl _) (hq _ ?_)
    repeat first|refine cg ?_|simp -dsimp
   ·have w7:IntKind.i64.wrap ((i:Int)+1)=(i:Int)+1:=wrap_in (by omega) (by omega)
    repeat first|refine cg ?_|simp -dsimp[q6,w7]
    refine Again.go _ ?_ ((ih_f70 (i+1) o hF) _ rfl _ hq)
    exact(Gh.to3 (by simp) (by simp_all))
  ·have z3:¬((i:Int)<(list.length:Int)):=auz
   cases hF
   repeat first|refine cg ?_|simp -dsimp[h1,q2,z3]
   refine Leave.go _ (Gh.to3 (by simp) (by simp_all)) hq
theorem C.f71 (list:List VarType)(n:Int)(r:Int)(hF:F.f71 list n=some r):PureCall Tryz.prog B 146 [.arr (List.map VarType.c list),.lit (.int .i64 n)] (.lit (.int .i64 r)):=by
 unfold F.f71 at hF
 refine PureCall.enterLe Tryz.func146 (by kernel_rfl) rfl Tryz.ntmps146 (by simp) (by simp) ?_
 repeat first|refine cg ?_|simp -dsimp
 have hF:=ob hF;obtain⟨o',ho8,hF⟩:=hF
 refine ALoop.goU _ ?_ (((CC.f70 B hB1 hB2 list n) 0 o' ho8) _ rfl _ ?_)
 ·exact(Gh.to3 (by simp) (by simp -dsimp))
 rcases o' with r0|sx
 ·dsimp only at hF
  cases hF
  intro st h
  simpa using h
 ·dsimp only at hF
  cases hF
  repeat first|refine cg ?_|simp -dsimp
theorem CC.f72 (a:List VarType)(b:List VarType):(∀(i:Nat) (o:Lo Bool Unit),F.f72 a b i=some o→∀(c:Code),navO [1,0,1,0,0] (bodyOf Tryz.f179)=some c→∀(Q:Exit→ASt→Prop),o.post (fun r=>∀st,Post Tryz.prog Tryz.f179 (fun r' _=>r'.le (.lit (.bool r))) .ret st→Q .ret st) (fun s=>Q (.exit 0) ⟨[(0,.arr (List.map VarType.c a)),(1,.arr (List.map VarType.c b))],[]⟩)→ALoopU Tryz.prog B 0 40 (hold c .mk) ⟨[(0,.arr (List.map VarType.c a)),(1,.arr (List.map VarType.c b)),(5,.lit (.int .i64 (i:Int)))],[]⟩ (hold Q .mk)):=by
 refine F.f72.partial_correctness a b
  _
  ?_
 ·intro _f_f72 ih_f72 i o hF
  intro c hc Q hq
  obtain rfl:c=_:=navEq hc rfl
  refine ALoopU.know fun hk hs=> ?_
  have b0:=hk 0
  simp -dsimp at b0
  have b1:=hk 1
  simp -dsimp at b1
  clear hk hs
  refine ALoopU.enter ?_
  repeat first|refine cg ?_|simp -dsimp
  revert hF;refine abr.sp ?_ ?_<;>intro h1 q2 hF
  ·have z3:((i:Int)<(a.length:Int)):=auz
   have hF:=ob hF;obtain⟨x,e4,hF⟩:=hF
   have le4:=lt_of_get e4
   repeat first|refine cg ?_|simp -dsimp[h1,z3,↓e4]
   have hF:=ob hF;obtain⟨v,e5,hF⟩:=hF
   refine((C.f71 B hB1 hB2 b x.var v e5)).goW (by simp_all) (by simp) ?_
   repeat first|refine cg ?_|simp -dsimp[↓e4]
   refine ADraw.simple follows (by kernel_rfl) (by kernel_rfl) ?_
   repeat first|refine cg ?_|simp -dsimp[↓e4]
   revert hF;refine abr.ns ?_ ?_<;>intro h6 q7 hF
   ·have hF:=ob hF;obtain⟨x8,e9a,hF⟩:=hF
    have e9a:=at_some e9a;obtain⟨ne9,e9⟩:=e9a
    have le9:=lt_of_get e9
    repeat first|refine cg ?_|simp -dsimp[↓e4,h6,q7,↓e9]
    revert hF;refine abr.ns (fun h10 q11 hF=> ?_) (fun h10 q11 hF=> ?_)
    ·cases hF
     repeat first|refine cg ?_|simp -dsimp[↓e4,↓e9,h10,q11]
     refine Leave.go _ (Gh.refl _) (hq _ ?_)
     repeat first|refine cg ?_|simp -dsimp[↓e4,↓e9]
    ·have w12:IntKind.i64.wrap ((i:Int)+1)=(i:Int)+1:=wrap_in (by omega) (by omega)
     repeat first|refine cg ?_|simp -dsimp[↓e4,↓e9,w12]
     refine Again.go _ ?_ ((ih_f72 (i+1) o hF) _ rfl _ hq)
     exact(Gh.to3 (by simp) (by simp_all))
   ·cases hF
    repeat first|refine cg ?_|simp -dsimp[↓e4,h6,q7]
    refine Leave.go _ (Gh.refl _) (hq _ ?_)
    repeat first|refine cg ?_|simp -dsimp[↓e4]
  ·have z3:¬((i:Int)<(a.length:Int)):=auz
   cases hF
   repeat first|refine cg ?_|simp -dsimp[h1,q2,z3]
   refine Leave.go _ (Gh.to3 (by simp) (by simp_all)) hq
theorem C.f73 (a:List VarType)(b:List VarType)(r:Bool)(hF:F.f73 a b=some r):PureCall Tryz.prog B 179 [.arr (List.map VarType.c a),.arr (List.map VarType.c b)] (.lit (.bool r)):=by
 unfold F.f73 at hF
 refine PureCall.enterLe Tryz.func179 (by kernel_rfl) rfl Tryz.ntmps179 (by simp) (by simp) ?_
 repeat first|refine cg ?_|simp -dsimp
 have hF:=ob hF;obtain⟨o',ho13,hF⟩:=hF
 refine ALoop.goU _ ?_ (((CC.f72 B hB1 hB2 a b) 0 o' ho13) _ rfl _ ?_)
 ·exact(Gh.to3 (by simp) (by simp -dsimp))
 rcases o' with r0|sx
 ·dsimp only at hF
  cases hF
  intro st h
  simpa using h
 ·dsimp only at hF
  cases hF
  repeat first|refine cg ?_|simp -dsimp
  all_goals(try first|omega|rfl)
theorem CC.f74 (v26:List VarType):(∀(i28:Nat) (o:Lo Bool Unit),F.f74 v26 i28=some o→∀(c:Code),navO [1,1,1,1,1,0,1,0,0] (bodyOf Tryz.f145)=some c→∀(Q:Exit→ASt→Prop),o.post (fun r=>∀st,Post Tryz.prog Tryz.f145 (fun r' _=>r'.le (.lit (.bool r))) .ret st→Q .ret st) (fun s=>Q (.exit 2) ⟨[],[]⟩)→ALoopU Tryz.prog B 0 70 (hold c .mk) ⟨[(9,.own 2 (List.length (α:=VarType) v26)),(10,.lit (.int .i64 (i28:Int)))],[.dead,.dead,.elems 3 (List.map VarType.c v26)]⟩ (hold Q .mk)):=by
 refine F.f74.partial_correctness v26
  _
  ?_
 ·intro _f_f74 ih_f74 i28 o hF
  intro c hc Q hq
  obtain rfl:c=_:=navEq hc rfl
  refine ALoopU.know fun hk hs=> ?_
  have d2:=hs 2 _ rfl
  simp -dsimp[Blk.bnd]at d2
  clear hk hs
  refine ALoopU.enter ?_
  repeat first|refine cg ?_|simp -dsimp
  revert hF;refine abr.sp ?_ ?_<;>intro h29 q30 hF
  ·have z31:((i28:Int)<(v26.length:Int)):=auz
   have hF:=ob hF;obtain⟨x32,e33,hF⟩:=hF
   have le33:=lt_of_get e33
   repeat first|refine cg ?_|simp -dsimp[h29,z31,↓e33]
   have hF:=ob hF;obtain⟨v34,e35,hF⟩:=hF
   refine((C.f71 B hB1 hB2 v26 x32.var v34 e35)).lend (by simp_all) (by simp -dsimp) ?_
   repeat first|refine cg ?_|simp -dsimp
   revert hF;refine abr.ns ?_ ?_<;>intro h36 q37 hF
   ·cases hF
    repeat first|refine cg ?_|simp -dsimp[h36,q37]
    refine Leave.go _ (Gh.refl _) (hq _ ?_)
    repeat first|refine cg ?_|simp -dsimp
   ·have w38:IntKind.i64.wrap ((i28:Int)+1)=(i28:Int)+1:=wrap_in (by omega) (by omega)
    repeat first|refine cg ?_|simp -dsimp[w38]
    refine Again.go _ ?_ ((ih_f74 (i28+1) o hF) _ rfl _ hq)
    exact(Gh.to3 (by simp) (by simp_all))
  ·have z31:¬((i28:Int)<(v26.length:Int)):=auz
   cases hF
   repeat first|refine cg ?_|simp -dsimp[h29,q30,z31]
   refine Leave.go _ (Gh.to3 (by simp) (by simp_all)) hq
theorem CC.f75 (w:List Vl.Data):(∀(t:Ty) (p:Pattern) (r:Bool),F.f75 w t p=some r→PureCall Tryz.prog B 145 [.arr (List.map Vl.Data.c w),.agg [.lit (.int .i64 t.data),.lit (.int .i64 t.index)],.agg [.lit (.int .i64 p.op),.lit (.int .i64 p.ctor),.lit (.int .i64 p.n),.lit (.int .i64 p.m),.lit (.int .i64 p.var),.arr (List.map Pattern.c p.kids)]] (.lit (.bool r)))∧
  (∀(t:Ty) (p:Pattern) (v:List Ty) (i:Nat) (o:Lo Bool Unit),F.f76 w t p v i=some o→∀(c:Code),navO [1,1,0,1,0,0] (bodyOf Tryz.f145)=some c→∀(Q:Exit→ASt→Prop),o.post (fun r=>∀st,Post Tryz.prog Tryz.f145 (fun r' _=>r'.le (.lit (.bool r))) .ret st→Q .ret st) (fun s=>Q (.exit 0) ⟨[(0,.arr (List.map Vl.Data.c w)),(4,.ptr 0 0),(5,.ptr 1 0)],[.cells [.lit (.int .i64 t.data),.lit (.int .i64 t.index)],.cells [.lit (.int .i64 p.op),.lit (.int .i64 p.ctor),.lit (.int .i64 p.n),.lit (.int .i64 p.m),.lit (.int .i64 p.var),.arr (List.map Pattern.c p.kids)]]⟩)→ALoopU Tryz.prog B 0 70 (hold c .mk) ⟨[(0,.arr (List.map Vl.Data.c w)),(4,.ptr 0 0),(5,.ptr 1 0),(7,.arr (List.map Ty.c v)),(8,.lit (.int .i64 (i:Int)))],[.cells [.lit (.int .i64 t.data),.lit (.int .i64 t.index)],.cells [.lit (.int .i64 p.op),.lit (.int .i64 p.ctor),.lit (.int .i64 p.n),.lit (.int .i64 p.m),.lit (.int .i64 p.var),.arr (List.map Pattern.c p.kids)]]⟩ (hold Q .mk)):=by
 refine F.f75.mutual_partial_correctness w
  _ _
  ?_ ?_
 ·intro _f_f76 ih_f76 t p r hF
  refine PureCall.enterLe Tryz.func145 (by kernel_rfl) rfl Tryz.ntmps145 (by simp) (by simp) ?_
  repeat first|refine cg ?_|simp -dsimp
  have hF:=ob hF;obtain⟨v,e1,hF⟩:=hF
  refine((C.f61 B hB1 hB2 w t p v e1)).goW (by simp) (by simp) ?_
  repeat first|refine cg ?_|simp -dsimp
  have hF:=ob hF;obtain⟨o',ho13,hF⟩:=hF
  refine ALoop.goU _ ?_ ((ih_f76 t p v 0 o' ho13) _ rfl _ ?_)
  ·exact(Gh.to3 (by simp) (by simp -dsimp))
  rcases o' with r042|sx
  ·dsimp only at hF
   cases hF
   intro st h
   simpa using h
  ·dsimp only at hF
   repeat first|refine cg ?_|simp -dsimp
   revert hF;refine abr.sp ?_ ?_<;>intro h14 q15 hF
   ·repeat first|refine cg ?_|simp -dsimp[h14]
    refine ADraw.eff [91,179] [(0,0),(0,0),(0,0),(0,0),(0,0),(0,0),(0,3),(0,1),(0,1),(0,1),(0,1),(0,1),(0,1),(0,3),(0,3),(3,3)] [1,1,1,1,1,1,1,1,2,0,2,0,0,1,1,1] follows (by kernel_rfl) (by kernel_rfl) (by kernel_rfl) ?_
    have hF:=ob hF;obtain⟨x16,e17,hF⟩:=hF
    have le17:=lt_of_get e17
    repeat first|refine cg ?_|simp -dsimp[↓e17]
    have hF:=ob hF;obtain⟨v18,e19,hF⟩:=hF
    refine ECallA.nilArg 0 3 (by simp) ?_
    repeat first|refine cg ?_|simp -dsimp
    refine(((CC.f66 B hB1 hB2 w).1 [] t x16 v18 e19)).ego (pl [2]) (by simp) (by simp) (plInj _ rfl (by decide)) (by intro i hi hi';simp at hi hi';first|omega|(subst hi';simp[pl])) (by simp_all) (by simp_all) ?_
    have hF:=ob hF;obtain⟨x20,e21,hF⟩:=hF
    have le21:=lt_of_get e21
    repeat first|refine cg ?_|simp -dsimp[↓e21]
    have hF:=ob hF;obtain⟨v22,e23,hF⟩:=hF
    refine ECallA.nilArg 0 3 (by simp) ?_
    repeat first|refine cg ?_|simp -dsimp
    refine(((CC.f66 B hB1 hB2 w).1 [] t x20 v22 e23)).ego (pl [3]) (by simp) (by simp) (plInj _ rfl (by decide)) (by intro i hi hi';simp at hi hi';first|omega|(subst hi';simp[pl])) (by simp_all) (by simp_all) ?_
    repeat first|refine cg ?_|simp -dsimp
    have hF:=ob hF;obtain⟨v24,e25,hF⟩:=hF
    refine((C.f73 B hB1 hB2 v18 v22 v24 e25)).elend (by simp_all) (by simp -dsimp) ?_
    cases hF
    repeat first|refine cg ?_|simp -dsimp
   ·repeat first|refine cg ?_|simp -dsimp[q15]
    have hF:=ob hF;obtain⟨v26,e27,hF⟩:=hF
    refine ACall.nilArg 0 3 (by simp) ?_
    repeat first|refine cg ?_|simp -dsimp
    refine(((CC.f66 B hB1 hB2 w).1 [] t p v26 e27)).go (pl [2]) (by simp) (by simp) (plInj _ rfl (by decide)) (by intro i hi hi';simp at hi hi';first|omega|(subst hi';simp[pl])) (by simp_all) (by simp_all) ?_
    repeat first|refine cg ?_|simp -dsimp
    have hF:=ob hF;obtain⟨o'40,ho39,hF⟩:=hF
    refine ALoop.goU _ ?_ (((CC.f74 B hB1 hB2 v26) 0 o'40 ho39) _ rfl _ ?_)
    ·exact(Gh.to3 (by simp) (by simp_all))
    rcases o'40 with r0|sx41
    ·dsimp only at hF
     cases hF
     intro st h
     simpa using h
    ·dsimp only at hF
     cases hF
     repeat first|refine cg ?_|simp -dsimp
 ·intro _f_f75 _f_f76 ih_f75 ih_f76 t p v i o hF
  intro c hc Q hq
  obtain rfl:c=_:=navEq hc rfl
  refine ALoopU.know fun hk hs=> ?_
  have b0:=hk 0
  simp -dsimp at b0
  have b7:=hk 7
  simp -dsimp at b7
  have d1:=hs 1 _ rfl
  simp -dsimp[Blk.bnd]at d1
  clear hk hs
  refine ALoopU.enter ?_
  repeat first|refine cg ?_|simp -dsimp
  revert hF;refine abr.sp ?_ ?_<;>intro h2 q3 hF
  ·have z4:((i:Int)<(v.length:Int)):=auz
   repeat first|refine cg ?_|simp -dsimp[h2,z4]
   refine ADraw.simple follows (by kernel_rfl) (by kernel_rfl) ?_
   have hF:=ob hF;obtain⟨x,e5,hF⟩:=hF
   have le5:=lt_of_get e5
   have hF:=ob hF;obtain⟨x6,e7,hF⟩:=hF
   have le7:=lt_of_get e7
   repeat first|refine cg ?_|simp -dsimp[↓e5,↓e7]
   have hF:=ob hF;obtain⟨v8,e9,hF⟩:=hF
   refine((ih_f75 x x6 v8 e9)).pgoW (by simp_all) (by simp) ?_
   repeat first|refine cg ?_|simp -dsimp
   revert hF;refine abr.ns (fun h10 q11 hF=> ?_) (fun h10 q11 hF=> ?_)
   ·cases hF
    repeat first|refine cg ?_|simp -dsimp[h10,q11]
    refine Leave.go _ (Gh.refl _) (hq _ ?_)
    repeat first|refine cg ?_|simp -dsimp
   ·have w12:IntKind.i64.wrap ((i:Int)+1)=(i:Int)+1:=wrap_in (by omega) (by omega)
    repeat first|refine cg ?_|simp -dsimp[w12]
    refine Again.go _ ?_ ((ih_f76 t p v (i+1) o hF) _ rfl _ hq)
    exact(Gh.to3 (by simp) (by simp_all))
  ·have z4:¬((i:Int)<(v.length:Int)):=auz
   cases hF
   repeat first|refine cg ?_|simp -dsimp[h2,q3,z4]
   refine Leave.go _ (Gh.to3 (by simp) (by simp_all)) hq
theorem C.f77 (w:List Vl.Data)(t:Ty)(p:Pattern)(r:Bool)(hF:F.f77 w t p=some r):PureCall Tryz.prog B 89 [.arr (List.map Vl.Data.c w),.agg [.lit (.int .i64 t.data),.lit (.int .i64 t.index)],.agg [.lit (.int .i64 p.op),.lit (.int .i64 p.ctor),.lit (.int .i64 p.n),.lit (.int .i64 p.m),.lit (.int .i64 p.var),.arr (List.map Pattern.c p.kids)]] (.lit (.bool r)):=by
 unfold F.f77 at hF
 refine PureCall.enterLe Tryz.func89 (by kernel_rfl) rfl Tryz.ntmps89 (by simp) (by simp) ?_
 repeat first|refine cg ?_|simp -dsimp
 have hF:=ob hF;obtain⟨v,e1,hF⟩:=hF
 refine(((CC.f62 B hB1 hB2 w).1 t p 10 v e1)).goW (by simp) (by simp) ?_
 repeat first|refine cg ?_|simp -dsimp
 revert hF;refine abr.sp (fun h2 q3 hF=> ?_) (fun h2 q3 hF=> ?_)
 ·repeat first|refine cg ?_|simp -dsimp[h2]
  have hF:=ob hF;obtain⟨v4,e5,hF⟩:=hF
  refine(((CC.f64 B hB1 hB2).1 p 60 v4 e5)).goW (by simp[h2]) (by simp) ?_
  repeat first|refine cg ?_|simp -dsimp[h2]
  revert hF;refine abr.sp ?_ ?_<;>intro h6 q7 hF
  ·repeat first|refine cg ?_|simp -dsimp[h2,h6]
   have hF:=ob hF;obtain⟨v8,e9,hF⟩:=hF
   refine(((CC.f75 B hB1 hB2 w).1 t p v8 e9)).goW (by simp[h2,h6]) (by simp) ?_
   cases hF
   repeat first|refine cg ?_|simp -dsimp[h2,h6]
  ·cases hF
   repeat first|refine cg ?_|simp -dsimp[h2,h6,q7]
 ·cases hF
  repeat first|refine cg ?_|simp -dsimp[h2,q3]
theorem C.f78 (g:Guard)(vars:List VarType)(r:Bool)(hF:F.f78 g vars=some r):PureCall Tryz.prog B 90 [.agg [.lit (.int .i64 g.op),.lit (.int .i64 g.var),.lit (.int .i64 g.n)],.arr (List.map VarType.c vars)] (.lit (.bool r)):=by
 unfold F.f78 at hF
 refine PureCall.enterLe Tryz.func90 (by kernel_rfl) rfl Tryz.ntmps90 (by simp) (by simp) ?_
 repeat first|refine cg ?_|simp -dsimp
 revert hF;refine abr.sp ?_ ?_<;>intro h1 q2 hF
 ·repeat first|refine cg ?_|simp -dsimp[h1]
  revert hF;refine abr.sp ?_ ?_<;>intro h3 q4 hF
  ·cases hF
   repeat first|refine cg ?_|simp -dsimp[h1,h3]
  ·cases hF
   repeat first|refine cg ?_|simp -dsimp[h1,h3,q4]
 ·repeat first|refine cg ?_|simp -dsimp[h1,q2]
  revert hF;refine abr.ns ?_ ?_<;>intro h5 q6 hF
  ·repeat first|refine cg ?_|simp -dsimp[h1,q2,h5,q6]
   revert hF;refine abr.sp ?_ ?_<;>intro h7 q8 hF
   ·repeat first|refine cg ?_|simp -dsimp[h1,q2,h5,q6,h7]
    revert hF;refine abr.ns ?_ ?_<;>intro h9 q10 hF
    ·repeat first|refine cg ?_|simp -dsimp[h1,q2,h5,q6,h7,h9,q10]
     revert hF;refine abr.sp ?_ ?_<;>intro h11 q12 hF
     ·cases hF
      repeat first|refine cg ?_|simp -dsimp[h1,q2,h5,q6,h7,h9,q10,h11]
     ·repeat first|refine cg ?_|simp -dsimp[h1,q2,h5,q6,h7,h9,q10,h11,q12]
      have hF:=ob hF;obtain⟨v,e13,hF⟩:=hF
      refine((C.f71 B hB1 hB2 vars g.var v e13)).goW (by simp[h1,q2,h5,q6,h7,h9,q10,h11,q12]) (by simp) ?_
      repeat first|refine cg ?_|simp -dsimp[h1,q2,h5,q6,h7,h9,q10,h11,q12]
      revert hF;refine abr.sp ?_ ?_<;>intro h14 q15 hF
      ·have hF:=ob hF;obtain⟨x,e16a,hF⟩:=hF
       have e16a:=at_some e16a;obtain⟨ne16,e16⟩:=e16a
       have le16:=lt_of_get e16
       cases hF
       repeat first|refine cg ?_|simp -dsimp[h1,q2,h5,q6,h7,h9,q10,h11,q12,h14,↓e16]
      ·cases hF
       repeat first|refine cg ?_|simp -dsimp[h1,q2,h5,q6,h7,h9,q10,h11,q12,h14,q15]
    ·cases hF
     repeat first|refine cg ?_|simp -dsimp[h1,q2,h5,q6,h7,h9,q10]
   ·cases hF
    repeat first|refine cg ?_|simp -dsimp[h1,q2,h5,q6,h7,q8]
  ·repeat first|refine cg ?_|simp -dsimp[h1,q2,h5,q6]
   revert hF;refine abr.ns ?_ ?_<;>intro h17 q18 hF
   ·repeat first|refine cg ?_|simp -dsimp[h1,q2,h5,q6,h17,q18]
    revert hF;refine abr.sp ?_ ?_<;>intro h19 q20 hF
    ·cases hF
     repeat first|refine cg ?_|simp -dsimp[h1,q2,h5,q6,h17,q18,h19]
    ·repeat first|refine cg ?_|simp -dsimp[h1,q2,h5,q6,h17,q18,h19,q20]
     have hF:=ob hF;obtain⟨v21,e22,hF⟩:=hF
     refine((C.f71 B hB1 hB2 vars g.var v21 e22)).goW (by simp[h1,q2,h5,q6,h17,q18,h19,q20]) (by simp) ?_
     repeat first|refine cg ?_|simp -dsimp[h1,q2,h5,q6,h17,q18,h19,q20]
     revert hF;refine abr.sp ?_ ?_<;>intro h23 q24 hF
     ·have hF:=ob hF;obtain⟨x25,e26a,hF⟩:=hF
      have e26a:=at_some e26a;obtain⟨ne26,e26⟩:=e26a
      have le26:=lt_of_get e26
      cases hF
      repeat first|refine cg ?_|simp -dsimp[h1,q2,h5,q6,h17,q18,h19,q20,h23,↓e26]
     ·cases hF
      repeat first|refine cg ?_|simp -dsimp[h1,q2,h5,q6,h17,q18,h19,q20,h23,q24]
   ·cases hF
    repeat first|refine cg ?_|simp -dsimp[h1,q2,h5,q6,h17,q18]
theorem C.f79 (w:List Vl.Data)(t:Ty)(c':Clause)(r:Bool)(hF:F.f79 w t c'=some r):PureCall Tryz.prog B 41 [.arr (List.map Vl.Data.c w),.agg [.lit (.int .i64 t.data),.lit (.int .i64 t.index)],.agg [.lit (.int .i64 c'.pat.op),.lit (.int .i64 c'.pat.ctor),.lit (.int .i64 c'.pat.n),.lit (.int .i64 c'.pat.m),.lit (.int .i64 c'.pat.var),.arr (List.map Pattern.c c'.pat.kids),.lit (.int .i64 c'.guard.op),.lit (.int .i64 c'.guard.var),.lit (.int .i64 c'.guard.n)]] (.lit (.bool r)):=by
 unfold F.f79 at hF
 refine PureCall.enterLe Tryz.func41 (by kernel_rfl) rfl Tryz.ntmps41 (by simp) (by simp) ?_
 repeat first|refine cg ?_|simp -dsimp
 refine ADraw.eff [90,91] [(0,0),(0,0),(0,0),(0,0),(0,2),(0,0),(0,1),(0,1),(0,0),(0,0),(0,0),(0,0),(0,2),(0,2),(2,2),(2,2)] [1,1,1,1,1,1,0,2,1,1,1,1,1,1,1,1] follows (by kernel_rfl) (by kernel_rfl) (by kernel_rfl) ?_
 repeat first|refine cg ?_|simp -dsimp
 have hF:=ob hF;obtain⟨v,e1,hF⟩:=hF
 refine((C.f77 B hB1 hB2 w t c'.pat v e1)).pgoW (by simp) (by simp) ?_
 repeat first|refine cg ?_|simp -dsimp
 revert hF;refine abr.sp (fun h2 q3 hF=> ?_) (fun h2 q3 hF=> ?_)
 ·repeat first|refine cg ?_|simp -dsimp[h2]
  have hF:=ob hF;obtain⟨v4,e5,hF⟩:=hF
  refine ECallA.nilArg 0 3 (by simp) ?_
  repeat first|refine cg ?_|simp -dsimp
  refine(((CC.f66 B hB1 hB2 w).1 [] t c'.pat v4 e5)).ego (pl [2]) (by simp) (by simp) (plInj _ rfl (by decide)) (by intro i hi hi';simp at hi hi';first|omega|(subst hi';simp[pl])) (by simp_all) (by simp_all) ?_
  repeat first|refine cg ?_|simp -dsimp
  have hF:=ob hF;obtain⟨v6,e7,hF⟩:=hF
  refine((C.f78 B hB1 hB2 c'.guard v4 v6 e7)).elend (by simp_all) (by simp -dsimp) ?_
  cases hF
  repeat first|refine cg ?_|simp -dsimp
 ·skip
  cases hF
  repeat first|refine cg ?_|simp -dsimp[q3]
theorem CC.f80 (w:List Vl.Data)(t:Ty)(list:List Clause):(∀(i:Nat) (o:Lo Bool Unit),F.f80 w t list i=some o→∀(c:Code),navO [1,1,0,1,0,0] (bodyOf Tryz.f77)=some c→∀(Q:Exit→ASt→Prop),o.post (fun r=>∀st,Post Tryz.prog Tryz.f77 (fun r' _=>r'.le (.lit (.bool r))) .ret st→Q .ret st) (fun s=>Q (.exit 0) ⟨[],[]⟩)→ALoopU Tryz.prog B 0 31 (hold c .mk) ⟨[(0,.arr (List.map Vl.Data.c w)),(2,.arr (List.map Clause.c list)),(4,.ptr 0 0),(7,.lit (.int .i64 (i:Int)))],[.cells [.lit (.int .i64 t.data),.lit (.int .i64 t.index)]]⟩ (hold Q .mk)):=by
 refine F.f80.partial_correctness w t list
  _
  ?_
 ·intro _f_f80 ih_f80 i o hF
  intro c hc Q hq
  obtain rfl:c=_:=navEq hc rfl
  refine ALoopU.know fun hk hs=> ?_
  have b0:=hk 0
  simp -dsimp at b0
  have b2:=hk 2
  simp -dsimp at b2
  clear hk hs
  refine ALoopU.enter ?_
  repeat first|refine cg ?_|simp -dsimp
  revert hF;refine abr.sp ?_ ?_<;>intro h7 q8 hF
  ·have z9:((i:Int)<(list.length:Int)):=auz
   repeat first|refine cg ?_|simp -dsimp[h7,z9]
   refine ADraw.simple follows (by kernel_rfl) (by kernel_rfl) ?_
   have hF:=ob hF;obtain⟨x,e10,hF⟩:=hF
   have le10:=lt_of_get e10
   repeat first|refine cg ?_|simp -dsimp[↓e10]
   have hF:=ob hF;obtain⟨v11,e12,hF⟩:=hF
   refine((C.f79 B hB1 hB2 w t x v11 e12)).pgoW (by simp_all) (by simp) ?_
   repeat first|refine cg ?_|simp -dsimp
   revert hF;refine abr.ns (fun h13 q14 hF=> ?_) (fun h13 q14 hF=> ?_)
   ·cases hF
    repeat first|refine cg ?_|simp -dsimp[h13,q14]
    refine Leave.go _ (Gh.refl _) (hq _ ?_)
    repeat first|refine cg ?_|simp -dsimp
   ·have w15:IntKind.i64.wrap ((i:Int)+1)=(i:Int)+1:=wrap_in (by omega) (by omega)
    repeat first|refine cg ?_|simp -dsimp[w15]
    refine Again.go _ ?_ ((ih_f80 (i+1) o hF) _ rfl _ hq)
    exact(Gh.to3 (by simp) (by simp_all))
  ·have z9:¬((i:Int)<(list.length:Int)):=auz
   cases hF
   repeat first|refine cg ?_|simp -dsimp[h7,q8,z9]
   refine Leave.go _ (Gh.to3 (by simp) (by simp_all)) hq
theorem C.f81 (w:List Vl.Data)(t:Ty)(list:List Clause)(r:Bool)(hF:F.f81 w t list=some r):PureCall Tryz.prog B 77 [.arr (List.map Vl.Data.c w),.agg [.lit (.int .i64 t.data),.lit (.int .i64 t.index)],.arr (List.map Clause.c list)] (.lit (.bool r)):=by
 unfold F.f81 at hF
 refine PureCall.enterLe Tryz.func77 (by kernel_rfl) rfl Tryz.ntmps77 (by simp) (by simp) ?_
 repeat first|refine cg ?_|simp -dsimp
 have hF:=ob hF;obtain⟨v,e1,hF⟩:=hF
 refine((C.f39 B hB1 hB2 w t v e1)).goW (by simp) (by simp) ?_
 repeat first|refine cg ?_|simp -dsimp
 revert hF;refine abr.sp (fun h2 q3 hF=> ?_) (fun h2 q3 hF=> ?_)
 ·repeat first|refine cg ?_|simp -dsimp[h2]
  revert hF;refine abr.sp ?_ ?_<;>intro h4 q5 hF
  ·have z6:(8<(list.length:Int)):=auz
   cases hF
   repeat first|refine cg ?_|simp -dsimp[h4,z6]
  ·have z6:¬(8<(list.length:Int)):=auz
   repeat first|refine cg ?_|simp -dsimp[h4,q5,z6]
   have hF:=ob hF;obtain⟨o',ho16,hF⟩:=hF
   refine ALoop.goU _ ?_ (((CC.f80 B hB1 hB2 w t list) 0 o' ho16) _ rfl _ ?_)
   ·exact(Gh.to3 (by simp) (by simp_all))
   rcases o' with r0|sx
   ·dsimp only at hF
    cases hF
    intro st h
    simpa using h
   ·dsimp only at hF
    cases hF
    repeat first|refine cg ?_|simp -dsimp
 ·cases hF
  repeat first|refine cg ?_|simp -dsimp[q3]
end Go.Proofs.YtkgcopogpmckdaaGreat
