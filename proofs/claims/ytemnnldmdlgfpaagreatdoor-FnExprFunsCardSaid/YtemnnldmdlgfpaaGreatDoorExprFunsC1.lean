/- The contracts: the code computes the functions (printed by gen.py). -/
import Derived.Test.YtemnnldmdlgfpaaGreatDoorProg
import Derived.Test.YtemnnldmdlgfpaaGreatDoorExprFunsF
import Derived.Test.YtemnnldmdlgfpaaGreatDoorVlShelf
import Derived.Test.YtemnnldmdlgfpaaGreatDoorShelf
namespace Go.Proofs.YtemnnldmdlgfpaaGreatDoor
open Go Go.Proofs Go.Vl
set_option linter.unusedSimpArgs false
set_option linter.unusedVariables false
set_option linter.unusedSectionVars false
set_option maxRecDepth 100000
set_option maxHeartbeats 4000000
set_option synthInstance.maxSize 100000
attribute [local irreducible] ECallA NCallA aL aLg AMake MLoop AgainM LeaveM awpM aopsM MutCall BCall chk abr ACall ALoop ALoopU ADraw Again Leave PCallA PCall Post awp aops PureCall hold
theorem follows :Tryz.prog.follows .mixedOrders=true:=by kernel_rfl
@[simp] theorem ti2 :tiOf Tryz.prog 2=some ⟨.word,1,[.int .i64 0]⟩:=by kernel_rfl
@[simp] theorem ti3 :tiOf Tryz.prog 3=some ⟨.word,1,[.int .i64 0]⟩:=by kernel_rfl
@[simp] theorem ti4 :tiOf Tryz.prog 4=some ⟨.word,1,[.bool false]⟩:=by kernel_rfl
@[simp] theorem ti5 :tiOf Tryz.prog 5=some ⟨.word,1,[.int .u8 0]⟩:=by kernel_rfl
@[simp] theorem ti8 :tiOf Tryz.prog 8=some ⟨.struct [(0,1),(1,1),(2,1),(3,1)],4,[.int .i64 0,.int .i64 0,.bool false,.int .u8 0]⟩:=by kernel_rfl
@[simp] theorem ti9 :tiOf Tryz.prog 9=some ⟨.word,1,[.string ByteArray.empty]⟩:=by kernel_rfl
@[simp] theorem ti22 :tiOf Tryz.prog 22=some ⟨.slice 1 1 [.int .u8 0],1,[.slice none 0 0]⟩:=by kernel_rfl
@[simp] theorem sl22 :isSl Tryz.prog 22=true:=by kernel_rfl
@[simp] theorem ti23 :tiOf Tryz.prog 23=some ⟨.slice 2 40 [.string ByteArray.empty,.slice none 0 0],1,[.slice none 0 0]⟩:=by kernel_rfl
@[simp] theorem sl23 :isSl Tryz.prog 23=true:=by kernel_rfl
@[simp] theorem ti24 :tiOf Tryz.prog 24=some ⟨.slice 4 32 [.int .i64 0,.int .i64 0,.int .i64 0,.int .i64 0],1,[.slice none 0 0]⟩:=by kernel_rfl
@[simp] theorem sl24 :isSl Tryz.prog 24=true:=by kernel_rfl
@[simp] theorem ti25 :tiOf Tryz.prog 25=some ⟨.slice 3 24 [.int .i64 0,.int .i64 0,.int .i64 0],1,[.slice none 0 0]⟩:=by kernel_rfl
@[simp] theorem sl25 :isSl Tryz.prog 25=true:=by kernel_rfl
@[simp] theorem ti27 :tiOf Tryz.prog 27=some ⟨.struct [(0,1),(1,1)],2,[.int .i64 0,.int .i64 0]⟩:=by kernel_rfl
@[simp] theorem pr27 :pair2B Tryz.prog 27=true:=by kernel_rfl
@[simp] theorem ti28 :tiOf Tryz.prog 28=some ⟨.slice 4 48 [.int .i64 0,.int .i64 0,.int .i64 0,.slice none 0 0],1,[.slice none 0 0]⟩:=by kernel_rfl
@[simp] theorem sl28 :isSl Tryz.prog 28=true:=by kernel_rfl
@[simp] theorem ti30 :tiOf Tryz.prog 30=some ⟨.struct [(0,1),(1,1),(2,1),(3,1)],4,[.int .i64 0,.int .i64 0,.int .i64 0,.slice none 0 0]⟩:=by kernel_rfl
@[simp] theorem ti35 :tiOf Tryz.prog 35=some ⟨.struct [(0,2),(2,2)],4,[.int .i64 0,.int .i64 0,.int .i64 0,.int .i64 0]⟩:=by kernel_rfl
@[simp] theorem ti38 :tiOf Tryz.prog 38=some ⟨.slice 3 40 [.int .i64 0,.int .i64 0,.slice none 0 0],1,[.slice none 0 0]⟩:=by kernel_rfl
@[simp] theorem sl38 :isSl Tryz.prog 38=true:=by kernel_rfl
@[simp] theorem ti40 :tiOf Tryz.prog 40=some ⟨.struct [(0,1),(1,1),(2,1)],3,[.int .i64 0,.int .i64 0,.slice none 0 0]⟩:=by kernel_rfl
@[simp] theorem ti46 :tiOf Tryz.prog 46=some ⟨.slice 1 8 [.int .i64 0],1,[.slice none 0 0]⟩:=by kernel_rfl
@[simp] theorem sl46 :isSl Tryz.prog 46=true:=by kernel_rfl
@[simp] theorem ti58 :tiOf Tryz.prog 58=some ⟨.struct [(0,1),(1,2)],3,[.int .i64 0,.int .i64 0,.int .i64 0]⟩:=by kernel_rfl
@[simp] theorem pr58 :trip3B Tryz.prog 58=true:=by kernel_rfl
@[simp] theorem ti60 :tiOf Tryz.prog 60=some ⟨.struct [(0,1),(1,1),(2,1)],3,[.slice none 0 0,.slice none 0 0,.slice none 0 0]⟩:=by kernel_rfl
@[simp] theorem ti73 :tiOf Tryz.prog 73=some ⟨.struct [(0,1),(1,1)],2,[.slice none 0 0,.int .i64 0]⟩:=by kernel_rfl
@[simp] theorem ti79 :tiOf Tryz.prog 79=some ⟨.slice 2 16 [.int .i64 0,.int .i64 0],1,[.slice none 0 0]⟩:=by kernel_rfl
@[simp] theorem sl79 :isSl Tryz.prog 79=true:=by kernel_rfl
@[simp] theorem ti84 :tiOf Tryz.prog 84=some ⟨.array 6 1,6,[.bool false,.bool false,.bool false,.bool false,.bool false,.bool false]⟩:=by kernel_rfl
@[simp] theorem ti94 :tiOf Tryz.prog 94=some ⟨.slice 1 16 [.string ByteArray.empty],1,[.slice none 0 0]⟩:=by kernel_rfl
@[simp] theorem sl94 :isSl Tryz.prog 94=true:=by kernel_rfl
@[simp] theorem ti97 :tiOf Tryz.prog 97=some ⟨.struct [(0,1),(1,1),(2,1)],3,[.string ByteArray.empty,.slice none 0 0,.int .i64 0]⟩:=by kernel_rfl
@[simp] theorem ti98 :tiOf Tryz.prog 98=some ⟨.slice 3 48 [.string ByteArray.empty,.slice none 0 0,.int .i64 0],1,[.slice none 0 0]⟩:=by kernel_rfl
@[simp] theorem sl98 :isSl Tryz.prog 98=true:=by kernel_rfl
@[simp] theorem ti100 :tiOf Tryz.prog 100=some ⟨.struct [(0,1),(1,1)],2,[.string ByteArray.empty,.slice none 0 0]⟩:=by kernel_rfl
@[simp] theorem ti111 :mapB Tryz.prog 111=true:=by kernel_rfl
@[simp] theorem ti140 :tiOf Tryz.prog 140=some ⟨.struct [(0,1),(1,1)],2,[.pointer none,.slice none 0 0]⟩:=by kernel_rfl
attribute [simp] Tryz.underlying2 Tryz.underlying3 Tryz.underlying4 Tryz.underlying5 Tryz.underlying9 Tryz.underlying22 Tryz.underlying23 Tryz.underlying24 Tryz.underlying25 Tryz.underlying28 Tryz.underlying38 Tryz.underlying46 Tryz.underlying79 Tryz.underlying84 Tryz.underlying94 Tryz.underlying98 Tryz.results3 Tryz.results5 Tryz.results6 Tryz.results7 Tryz.results8 Tryz.results15 Tryz.results16 Tryz.results17 Tryz.results18 Tryz.results19 Tryz.results20 Tryz.results21 Tryz.results22 Tryz.results23 Tryz.results24 Tryz.results25 Tryz.results26 Tryz.results31 Tryz.results35 Tryz.results36 Tryz.results37 Tryz.results38 Tryz.results39 Tryz.results40 Tryz.results41 Tryz.results42 Tryz.results43 Tryz.results44 Tryz.results45 Tryz.results46 Tryz.results47 Tryz.results48 Tryz.results49 Tryz.results50 Tryz.results51 Tryz.results52 Tryz.results53 Tryz.results54 Tryz.results55 Tryz.results61 Tryz.results62 Tryz.results63 Tryz.results64 Tryz.results65 Tryz.results66 Tryz.results67 Tryz.results68 Tryz.results69 Tryz.results70 Tryz.results71 Tryz.results72 Tryz.results73 Tryz.results74 Tryz.results75 Tryz.results76 Tryz.results77 Tryz.results79 Tryz.results85 Tryz.results86 Tryz.results87 Tryz.results88 Tryz.results89 Tryz.results90 Tryz.results91 Tryz.results92 Tryz.results93 Tryz.results94 Tryz.results95 Tryz.results96 Tryz.results97 Tryz.results98 Tryz.results99 Tryz.results104 Tryz.results105 Tryz.results106 Tryz.results107 Tryz.results108 Tryz.results109 Tryz.results116 Tryz.results117 Tryz.results125 Tryz.results126 Tryz.results127 Tryz.results130
variable (B : Nat) (hB1 : 67108864 ≤ B) (hB2 : B ≤ 9223372036854775807)
include hB1 hB2
theorem C.f0  (r:List ByteArray)(hF:F.f0=some r):PureCall Tryz.prog B 85 [] (.arr (List.map cS r)):=by
 unfold F.f0 at hF
 refine PureCall.enterLe Tryz.func85 (by kernel_rfl) rfl Tryz.ntmps85 (by simp) (by simp) ?_
 cases hF
 repeat(first|refine chk.ga ?_|simp -dsimp)
 all_goals(try first|omega|rfl)
theorem C.f1 (r':Vl.T_spec_l17Rd)(n:Int)(r:Int×Vl.T_spec_l17Rd)(hF:F.f1 r' n=some r):MutCall Tryz.prog B 20 [.arr (List.map cU r'.f0),.lit (.int .i64 r'.f1)] [.ptr 0 0,.lit (.int .i64 n)] (.lit (.int .i64 r.1)) [.arr (List.map cU r.2.f0),.lit (.int .i64 r.2.f1)]:=by
 unfold F.f1 at hF
 refine MutCall.enter Tryz.func20 (by kernel_rfl) rfl Tryz.ntmps20 (by simp) (by simp) (by simp) (by simp) ?_
 repeat(first|refine chk.ga ?_|simp -dsimp)
 refine abr.split (fun h1=> ?_) (fun h1=> ?_)
 ·have q2:¬(n<1):=auq h1
  rw[if_neg q2]at hF
  repeat(first|refine chk.ga ?_|simp -dsimp[h1,q2])
  refine abr.split (fun h3=> ?_) (fun h3=> ?_)
  ·have q4:(r'.f0.length=0):=auq h3
   have z5:((r'.f0.length:Int)=(0:Int)):=auz
   rw[if_pos q4]at hF
   cases hF
   repeat(first|refine chk.ga ?_|simp -dsimp[h1,q2,h3,z5])
   all_goals(try first|omega|rfl)
  ·have q4:¬(r'.f0.length=0):=auq h3
   have z5:¬((r'.f0.length:Int)=(0:Int)):=auz
   rw[if_neg q4]at hF
   repeat(first|refine chk.ga ?_|simp -dsimp[h1,q2,h3,q4,z5])
   refine abr.split (fun h6=> ?_) (fun h6=> ?_)
   ·have q7:(IntKind.i64.wrap (IntKind.i64.wrap (r'.f1+1) -1)<(r'.f0.length:Int)):=auq h6
    rw[if_pos q7]at hF
    have hF:=ob hF;obtain⟨x,e8a,hF⟩:=hF
    have e8a:=at_some e8a;obtain⟨ne8,e8⟩:=e8a
    have le8:=lt_of_get e8
    have hF:=oc hF;obtain⟨c9,hF⟩:=hF
    cases hF
    repeat(first|refine chk.ga ?_|simp -dsimp[h1,q2,h3,q4,z5,h6,↓e8])
    all_goals(try first|omega|rfl)
   ·have q7:¬(IntKind.i64.wrap (IntKind.i64.wrap (r'.f1+1) -1)<(r'.f0.length:Int)):=auq h6
    rw[if_neg q7]at hF
    repeat(first|refine chk.ga ?_|simp -dsimp[h1,q2,h3,q4,z5,h6,q7])
    refine ADraw.simple follows (by kernel_rfl) (by kernel_rfl) ?_
    have hF:=oc hF;obtain⟨c10,hF⟩:=hF
    have hF:=ob hF;obtain⟨x11,e12a,hF⟩:=hF
    have e12a:=at_some e12a;obtain⟨ne12,e12⟩:=e12a
    have le12:=lt_of_get e12
    have hF:=ob hF;obtain⟨x13,e14a,hF⟩:=hF
    have e14a:=at_some e14a;obtain⟨ne14,e14⟩:=e14a
    have le14:=lt_of_get e14
    have hF:=oc hF;obtain⟨c15,hF⟩:=hF
    cases hF
    repeat(first|refine chk.ga ?_|simp -dsimp[h1,q2,h3,q4,z5,h6,q7,↓e12,↓e14])
    all_goals(try first|omega|rfl)
 ·have q2:(n<1):=auq h1
  rw[if_pos q2]at hF
  cases hF
  repeat(first|refine chk.ga ?_|simp -dsimp[h1,q2])
  all_goals(try first|omega|rfl)
theorem CC.f2 (s:ByteArray)(c':Int):(∀(out:List ByteArray) (from':Nat) (i:Nat) (o:List ByteArray),F.f2 s c' out from' i=some o→∀(c:Code),navO [1,1,1,0,1,0,0] (bodyOf Tryz.f104)=some c→∀(Q:Exit→ASt→Prop),(Q (.exit 0) ⟨[(5,.own 0 (List.length (α:=ByteArray) o))],[.elems 1 (List.map cS o)]⟩)→ALoopU Tryz.prog B 0 36 (hold c .mk) ⟨[(0,.lit (.string s)),(1,.lit (.int .u8 c')),(5,.own 0 (List.length (α:=ByteArray) out)),(6,.lit (.int .i64 (from':Int))),(7,.lit (.int .i64 (i:Int)))],[.elems 1 (List.map cS out)]⟩ (hold Q .mk)):=by
 refine F.f2.partial_correctness s c'
  _
  ?_
 ·intro _f_f2 ih_f2 out from' i o hF
  intro c hc Q hq
  obtain rfl:c=_:=navEq hc rfl
  refine ALoopU.know fun hk hs=> ?_
  have d0:=hs 0 _ rfl
  simp -dsimp[Blk.bnd]at d0
  clear hk hs
  refine ALoopU.enter ?_
  repeat(first|refine chk.ga ?_|simp -dsimp)
  refine abr.split (fun h1=> ?_) (fun h1=> ?_)
  ·have q2:(i≤s.size):=auq h1
   have z3:((i:Int)≤(s.size:Int)):=auz
   rw[if_pos q2]at hF
   repeat(first|refine chk.ga ?_|simp -dsimp[h1,z3])
   refine abr.split (fun h4=> ?_) (fun h4=> ?_)
   ·have q5:¬(i=s.size):=auq h4
    have z6:¬((i:Int)=(s.size:Int)):=auz
    rw[if_neg q5]at hF
    have hF:=oc hF;obtain⟨c7,hF⟩:=hF
    repeat(first|refine chk.ga ?_|simp -dsimp[h1,z3,h4,q5,z6])
    refine abr.split (fun h8=> ?_) (fun h8=> ?_)
    ·have q9:(((byteAt s i:Nat):Int)=c'):=auq h8
     rw[if_pos q9]at hF
     have hF:=oc hF;obtain⟨c10,hF⟩:=hF
     have hF:=oc hF;obtain⟨c11,hF⟩:=hF
     have hF:=oc hF;obtain⟨c12,hF⟩:=hF
     have w13:IntKind.i64.wrap ((i:Int)+1)=(i:Int)+1:=wrap_in (by omega) (by omega)
     have w14:IntKind.i64.wrap ((i:Int)+1)=(i:Int)+1:=wrap_in (by omega) (by omega)
     repeat(first|refine chk.ga ?_|simp -dsimp[h1,z3,h4,q5,z6,h8,w13,w14])
     refine Again.go _ ?_ ((ih_f2 (out++[s.extract from' i]) (i+1) (i+1) o hF) _ rfl _ hq)
     exact(Gh.to3 (by simp) (by first|simp -dsimp[h1,z3,h4,q5,z6,h8,w13,w14];done|simp_all))
    ·have q9:¬(((byteAt s i:Nat):Int)=c'):=auq h8
     rw[if_neg q9]at hF
     have hF:=oc hF;obtain⟨c15,hF⟩:=hF
     have w16:IntKind.i64.wrap ((i:Int)+1)=(i:Int)+1:=wrap_in (by omega) (by omega)
     repeat(first|refine chk.ga ?_|simp -dsimp[h1,z3,h4,q5,z6,h8,q9,w16])
     refine Again.go _ ?_ ((ih_f2 out from' (i+1) o hF) _ rfl _ hq)
     exact(Gh.to3 (by simp) (by first|simp -dsimp[h1,z3,h4,q5,z6,h8,q9,w16];done|simp_all))
   ·have q5:(i=s.size):=auq h4
    have z6:((i:Int)=(s.size:Int)):=auz
    rw[if_pos q5]at hF
    have hF:=oc hF;obtain⟨c17,hF⟩:=hF
    have hF:=oc hF;obtain⟨c18,hF⟩:=hF
    have hF:=oc hF;obtain⟨c19,hF⟩:=hF
    have w20:IntKind.i64.wrap ((i:Int)+1)=(i:Int)+1:=wrap_in (by omega) (by omega)
    have w21:IntKind.i64.wrap ((i:Int)+1)=(i:Int)+1:=wrap_in (by omega) (by omega)
    repeat(first|refine chk.ga ?_|simp -dsimp[h1,z3,h4,q5,z6,w20,w21])
    refine Again.go _ ?_ ((ih_f2 (out++[s.extract from' i]) (i+1) (i+1) o hF) _ rfl _ hq)
    exact(Gh.to3 (by simp) (by first|simp -dsimp[h1,z3,h4,q5,z6,w20,w21];done|simp_all))
  ·have q2:¬(i≤s.size):=auq h1
   have z3:¬((i:Int)≤(s.size:Int)):=auz
   rw[if_neg q2]at hF
   cases hF
   repeat(first|refine chk.ga ?_|simp -dsimp[h1,q2,z3])
   refine Leave.go ⟨[(5,.own 0 (List.length (α:=ByteArray) out))],[.elems 1 (List.map cS out)]⟩ (Gh.to3 (by simp) (by first|simp -dsimp[h1,q2,z3];done|simp_all)) ?_
   exact hq
theorem C.f3 (s:ByteArray)(c':Int)(r:List ByteArray)(hF:F.f3 s c'=some r):PureCall Tryz.prog B 104 [.lit (.string s),.lit (.int .u8 c')] (.arr (List.map cS r)):=by
 unfold F.f3 at hF
 refine PureCall.enterLe Tryz.func104 (by kernel_rfl) rfl Tryz.ntmps104 (by simp) (by simp) ?_
 repeat(first|refine chk.ga ?_|simp -dsimp)
 have hF:=ob hF;obtain⟨o',ho22,hF⟩:=hF
 refine ALoop.goU _ ?_ (((CC.f2 B hB1 hB2 s c') [] 0 0 o' ho22) _ rfl _ ?_)
 ·exact(Gh.to3 (by simp) (by simp -dsimp))
 cases hF
 repeat(first|refine chk.ga ?_|simp -dsimp)
 all_goals(try first|omega|rfl)
theorem CC.f4 (names:List ByteArray)(s:ByteArray):(∀(i:Nat) (o:Lo Int Unit),F.f4 names s i=some o→∀(c:Code),navO [1,1,0,1,0,0] (bodyOf Tryz.f125)=some c→∀(Q:Exit→ASt→Prop),o.post (fun r=>∀st,Post Tryz.prog Tryz.f125 (fun r' _=>r'.le (.lit (.int .i64 r))) .ret st→Q .ret st) (fun s=>Q (.exit 0) ⟨[],[]⟩)→ALoopU Tryz.prog B 0 21 (hold c .mk) ⟨[(0,.arr (List.map cS names)),(1,.lit (.string s)),(5,.lit (.int .i64 (i:Int)))],[]⟩ (hold Q .mk)):=by
 refine F.f4.partial_correctness names s
  _
  ?_
 ·intro _f_f4 ih_f4 i o hF
  intro c hc Q hq
  obtain rfl:c=_:=navEq hc rfl
  refine ALoopU.know fun hk hs=> ?_
  have b0:=hk 0
  simp -dsimp at b0
  clear hk hs
  refine ALoopU.enter ?_
  repeat(first|refine chk.ga ?_|simp -dsimp)
  refine abr.split (fun h3=> ?_) (fun h3=> ?_)
  ·have q4:(i<names.length):=auq h3
   have z5:((i:Int)<(names.length:Int)):=auz
   rw[if_pos q4]at hF
   have hF:=ob hF;obtain⟨x,e6,hF⟩:=hF
   have le6:=lt_of_get e6
   repeat(first|refine chk.ga ?_|simp -dsimp[h3,z5,↓e6])
   refine abr.split (fun h7=> ?_) (fun h7=> ?_)
   ·have q8:(x.toList=s.toList):=auq h7
    rw[if_pos q8]at hF
    cases hF
    repeat(first|refine chk.ga ?_|simp -dsimp[h3,z5,↓e6,h7])
    refine Leave.go _ (Gh.refl _) (hq _ ?_)
    repeat(first|refine chk.ga ?_|simp -dsimp[h3,z5,↓e6,h7])
   ·have q8:¬(x.toList=s.toList):=auq h7
    rw[if_neg q8]at hF
    have w9:IntKind.i64.wrap ((i:Int)+1)=(i:Int)+1:=wrap_in (by omega) (by omega)
    repeat(first|refine chk.ga ?_|simp -dsimp[h3,z5,↓e6,h7,q8,w9])
    refine Again.go _ ?_ ((ih_f4 (i+1) o hF) _ rfl _ hq)
    exact(Gh.to3 (by simp) (by first|simp -dsimp[h3,z5,↓e6,h7,q8,w9];done|simp_all))
  ·have q4:¬(i<names.length):=auq h3
   have z5:¬((i:Int)<(names.length:Int)):=auz
   rw[if_neg q4]at hF
   cases hF
   repeat(first|refine chk.ga ?_|simp -dsimp[h3,q4,z5])
   refine Leave.go ⟨[],[]⟩ (Gh.to3 (by simp) (by first|simp -dsimp[h3,q4,z5];done|simp_all)) ?_
   exact hq
theorem C.f5 (names:List ByteArray)(s:ByteArray)(r:Int)(hF:F.f5 names s=some r):PureCall Tryz.prog B 125 [.arr (List.map cS names),.lit (.string s)] (.lit (.int .i64 r)):=by
 unfold F.f5 at hF
 refine PureCall.enterLe Tryz.func125 (by kernel_rfl) rfl Tryz.ntmps125 (by simp) (by simp) ?_
 repeat(first|refine chk.ga ?_|simp -dsimp)
 refine abr.split (fun h1=> ?_) (fun h1=> ?_)
 ·have q2:(s.toList=(⟨#[73]⟩:ByteArray).toList):=auq h1
  rw[if_pos q2]at hF
  cases hF
  repeat(first|refine chk.ga ?_|simp -dsimp[h1])
  all_goals(try first|omega|rfl)
 ·have q2:¬(s.toList=(⟨#[73]⟩:ByteArray).toList):=auq h1
  rw[if_neg q2]at hF
  repeat(first|refine chk.ga ?_|simp -dsimp[h1,q2])
  have hF:=ob hF;obtain⟨o',ho10,hF⟩:=hF
  refine ALoop.goU _ ?_ (((CC.f4 B hB1 hB2 names s) 0 o' ho10) _ rfl _ ?_)
  ·exact(Gh.to3 (by simp) (by first|simp -dsimp[h1,q2];done|simp_all))
  rcases o' with r0|sx
  ·dsimp only at hF
   cases hF
   intro st h
   simpa using h
  ·dsimp only at hF
   cases hF
   repeat(first|refine chk.ga ?_|simp -dsimp)
   all_goals(try first|omega|rfl)
theorem C.f6 (names:List ByteArray)(s:ByteArray)(r:Vl.Ty)(hF:F.f6 names s=some r):PureCall Tryz.prog B 116 [.arr (List.map cS names),.lit (.string s)] (.agg [.lit (.int .i64 r.data),.lit (.int .i64 r.index)]):=by
 unfold F.f6 at hF
 refine PureCall.enterLe Tryz.func116 (by kernel_rfl) rfl Tryz.ntmps116 (by simp) (by simp) ?_
 repeat(first|refine chk.ga ?_|simp -dsimp)
 refine abr.split (fun h1=> ?_) (fun h1=> ?_)
 ·have q2:(s.toList=ByteArray.empty.toList):=auq h1
  rw[if_pos q2]at hF
  cases hF
  repeat(first|refine chk.ga ?_|simp -dsimp[h1])
  all_goals(try first|omega|rfl)
 ·have q2:¬(s.toList=ByteArray.empty.toList):=auq h1
  rw[if_neg q2]at hF
  have hF:=oc hF;obtain⟨c3,hF⟩:=hF
  repeat(first|refine chk.ga ?_|simp -dsimp[h1,q2])
  have hF:=ob hF;obtain⟨v,e4,hF⟩:=hF
  refine((C.f5 B hB1 hB2 names (s.extract 0 1) v e4)).goW (by first|simp[h1,q2];done|simp_all) (by simp) ?_
  repeat(first|refine chk.ga ?_|simp -dsimp[h1,q2])
  refine abr.split (fun h5=> ?_) (fun h5=> ?_)
  ·have q6:((s.extract 1 s.size).toList=(⟨#[42]⟩:ByteArray).toList):=auq h5
   rw[if_pos q6]at hF
   cases hF
   repeat(first|refine chk.ga ?_|simp -dsimp[h1,q2,h5])
   all_goals(try first|omega|rfl)
  ·have q6:¬((s.extract 1 s.size).toList=(⟨#[42]⟩:ByteArray).toList):=auq h5
   rw[if_neg q6]at hF
   repeat(first|refine chk.ga ?_|simp -dsimp[h1,q2,h5,q6])
   refine abr.split (fun h7=> ?_) (fun h7=> ?_)
   ·have q8:(s.size=2):=auq h7
    have z9:((s.size:Int)=(2:Int)):=auz
    rw[if_pos q8]at hF
    have hF:=oc hF;obtain⟨c10,hF⟩:=hF
    repeat(first|refine chk.ga ?_|simp -dsimp[h1,q2,h5,q6,h7,z9])
    refine abr.split (fun h11=> ?_) (fun h11=> ?_)
    ·have q12:(48≤byteAt s 1):=auq h11
     have z13:((48:Int)≤((byteAt s 1:Nat):Int)):=auz
     rw[if_pos q12]at hF
     repeat(first|refine chk.ga ?_|simp -dsimp[h1,q2,h5,q6,h7,z9,h11,z13])
     refine abr.split (fun h14=> ?_) (fun h14=> ?_)
     ·have q15:(byteAt s 1≤57):=auq h14
      have z16:(((byteAt s 1:Nat):Int)≤(57:Int)):=auz
      rw[if_pos q15]at hF
      cases hF
      repeat(first|refine chk.ga ?_|simp -dsimp[h1,q2,h5,q6,h7,z9,h11,z13,h14,z16])
      all_goals(try first|omega|rfl)
     ·have q15:¬(byteAt s 1≤57):=auq h14
      have z16:¬(((byteAt s 1:Nat):Int)≤(57:Int)):=auz
      rw[if_neg q15]at hF
      cases hF
      repeat(first|refine chk.ga ?_|simp -dsimp[h1,q2,h5,q6,h7,z9,h11,z13,h14,q15,z16])
      all_goals(try first|omega|rfl)
    ·have q12:¬(48≤byteAt s 1):=auq h11
     have z13:¬((48:Int)≤((byteAt s 1:Nat):Int)):=auz
     rw[if_neg q12]at hF
     cases hF
     repeat(first|refine chk.ga ?_|simp -dsimp[h1,q2,h5,q6,h7,z9,h11,q12,z13])
     all_goals(try first|omega|rfl)
   ·have q8:¬(s.size=2):=auq h7
    have z9:¬((s.size:Int)=(2:Int)):=auz
    rw[if_neg q8]at hF
    cases hF
    repeat(first|refine chk.ga ?_|simp -dsimp[h1,q2,h5,q6,h7,q8,z9])
    all_goals(try first|omega|rfl)
theorem CC.f7 (names:List ByteArray)(s:ByteArray)(x:ByteArray)(v21:List ByteArray):(∀(out:List Vl.Ty) (i:Nat) (o:List Vl.Ty),F.f7 names s x v21 out i=some o→∀(c:Code),navO [1,1,1,1,1,1,1,0,1,0,0] (bodyOf Tryz.f105)=some c→∀(Q:Exit→ASt→Prop),(Q (.exit 0) ⟨[(4,.ptr 0 0),(5,.ptr 1 0)],[.cells [.lit (.string ByteArray.empty),.lit (.slice none 0 0),.lit (.int .i64 0)],.cells [.lit (.string x),.own 2 (List.length (α:=Vl.Ty) o),.lit (.int .i64 (IntKind.i64.wrap (IntKind.i64.wrap ((byteAt s ((IntKind.i64.wrap ((s.size:Int) -1)).toNat):Nat):Int) -48)))],.elems 2 (List.map Vl.Ty.c o)]⟩)→ALoopU Tryz.prog B 0 83 (hold c .mk) ⟨[(0,.arr (List.map cS names)),(4,.ptr 0 0),(5,.ptr 1 0),(7,.arr (List.map cS v21)),(8,.lit (.int .i64 (i:Int)))],[.cells [.lit (.string ByteArray.empty),.lit (.slice none 0 0),.lit (.int .i64 0)],.cells [.lit (.string x),.own 2 (List.length (α:=Vl.Ty) out),.lit (.int .i64 (IntKind.i64.wrap (IntKind.i64.wrap ((byteAt s ((IntKind.i64.wrap ((s.size:Int) -1)).toNat):Nat):Int) -48)))],.elems 2 (List.map Vl.Ty.c out)]⟩ (hold Q .mk)):=by
 refine F.f7.partial_correctness names s x v21
  _
  ?_
 ·intro _f_f7 ih_f7 out i o hF
  intro c hc Q hq
  obtain rfl:c=_:=navEq hc rfl
  refine ALoopU.know fun hk hs=> ?_
  have b0:=hk 0
  simp -dsimp at b0
  have b7:=hk 7
  simp -dsimp at b7
  have d2:=hs 2 _ rfl
  simp -dsimp[Blk.bnd]at d2
  clear hk hs
  refine ALoopU.enter ?_
  repeat(first|refine chk.ga ?_|simp -dsimp)
  refine abr.split (fun h23=> ?_) (fun h23=> ?_)
  ·have q24:(i<v21.length):=auq h23
   have z25:((i:Int)<(v21.length:Int)):=auz
   rw[if_pos q24]at hF
   repeat(first|refine chk.ga ?_|simp -dsimp[h23,z25])
   refine abr.split (fun h26=> ?_) (fun h26=> ?_)
   ·have q27:(i≤3):=auq h26
    have z28:((i:Int)≤(3:Int)):=auz
    rw[if_pos q27]at hF
    repeat(first|refine chk.ga ?_|simp -dsimp[h23,z25,h26,z28])
    refine ADraw.eff [] [(0,1),(0,1),(0,0),(0,0),(0,0),(0,0),(0,0),(0,3),(0,3),(0,3),(2,2),(0,3)] [0,2,1,1,1,1,1,1,1,1,1,1] follows (by kernel_rfl) (by kernel_rfl) (by kernel_rfl) ?_
    have hF:=ob hF;obtain⟨x29,e30,hF⟩:=hF
    have le30:=lt_of_get e30
    repeat(first|refine chk.ga ?_|simp -dsimp[h23,z25,h26,z28,↓e30])
    have hF:=ob hF;obtain⟨v31,e32,hF⟩:=hF
    refine((C.f6 B hB1 hB2 names x29 v31 e32)).pgoW (by first|simp[h23,z25,h26,z28,↓e30];done|simp_all) (by simp) ?_
    have hF:=oc hF;obtain⟨c33,hF⟩:=hF
    have w34:IntKind.i64.wrap ((i:Int)+1)=(i:Int)+1:=wrap_in (by omega) (by omega)
    repeat(first|refine chk.ga ?_|simp -dsimp[h23,z25,h26,z28,↓e30,w34])
    refine Again.go _ ?_ ((ih_f7 (out++[v31]) (i+1) o hF) _ rfl _ hq)
    exact(Gh.to3 (by simp) (by first|simp -dsimp[h23,z25,h26,z28,↓e30,w34];done|simp_all))
   ·have q27:¬(i≤3):=auq h26
    have z28:¬((i:Int)≤(3:Int)):=auz
    rw[if_neg q27]at hF
    cases hF
    repeat(first|refine chk.ga ?_|simp -dsimp[h23,z25,h26,q27,z28])
    refine Leave.go ⟨[(4,.ptr 0 0),(5,.ptr 1 0)],[.cells [.lit (.string ByteArray.empty),.lit (.slice none 0 0),.lit (.int .i64 0)],.cells [.lit (.string x),.own 2 (List.length (α:=Vl.Ty) out),.lit (.int .i64 (IntKind.i64.wrap (IntKind.i64.wrap ((byteAt s ((IntKind.i64.wrap ((s.size:Int) -1)).toNat):Nat):Int) -48)))],.elems 2 (List.map Vl.Ty.c out)]⟩ (Gh.to3 (by simp) (by first|simp -dsimp[h23,z25,h26,q27,z28];done|simp_all)) ?_
    exact hq
  ·have q24:¬(i<v21.length):=auq h23
   have z25:¬((i:Int)<(v21.length:Int)):=auz
   rw[if_neg q24]at hF
   cases hF
   repeat(first|refine chk.ga ?_|simp -dsimp[h23,q24,z25])
   refine Leave.go ⟨[(4,.ptr 0 0),(5,.ptr 1 0)],[.cells [.lit (.string ByteArray.empty),.lit (.slice none 0 0),.lit (.int .i64 0)],.cells [.lit (.string x),.own 2 (List.length (α:=Vl.Ty) out),.lit (.int .i64 (IntKind.i64.wrap (IntKind.i64.wrap ((byteAt s ((IntKind.i64.wrap ((s.size:Int) -1)).toNat):Nat):Int) -48)))],.elems 2 (List.map Vl.Ty.c out)]⟩ (Gh.to3 (by simp) (by first|simp -dsimp[h23,q24,z25];done|simp_all)) ?_
   exact hq
theorem CC.f8 (names:List ByteArray)(x38:ByteArray)(v49:List ByteArray):(∀(out51:List Vl.Ty) (i52:Nat) (o:List Vl.Ty),F.f8 names x38 v49 out51 i52=some o→∀(c:Code),navO [1,1,1,1,1,1,1,0,1,0,0] (bodyOf Tryz.f105)=some c→∀(Q:Exit→ASt→Prop),(Q (.exit 0) ⟨[(4,.ptr 0 0),(5,.ptr 1 0)],[.cells [.lit (.string ByteArray.empty),.lit (.slice none 0 0),.lit (.int .i64 0)],.cells [.lit (.string x38),.own 2 (List.length (α:=Vl.Ty) o),.lit (.int .i64 0)],.elems 2 (List.map Vl.Ty.c o)]⟩)→ALoopU Tryz.prog B 0 83 (hold c .mk) ⟨[(0,.arr (List.map cS names)),(4,.ptr 0 0),(5,.ptr 1 0),(7,.arr (List.map cS v49)),(8,.lit (.int .i64 (i52:Int)))],[.cells [.lit (.string ByteArray.empty),.lit (.slice none 0 0),.lit (.int .i64 0)],.cells [.lit (.string x38),.own 2 (List.length (α:=Vl.Ty) out51),.lit (.int .i64 0)],.elems 2 (List.map Vl.Ty.c out51)]⟩ (hold Q .mk)):=by
 refine F.f8.partial_correctness names x38 v49
  _
  ?_
 ·intro _f_f8 ih_f8 out51 i52 o hF
  intro c hc Q hq
  obtain rfl:c=_:=navEq hc rfl
  refine ALoopU.know fun hk hs=> ?_
  have b0:=hk 0
  simp -dsimp at b0
  have b7:=hk 7
  simp -dsimp at b7
  have d2:=hs 2 _ rfl
  simp -dsimp[Blk.bnd]at d2
  clear hk hs
  refine ALoopU.enter ?_
  repeat(first|refine chk.ga ?_|simp -dsimp)
  refine abr.split (fun h53=> ?_) (fun h53=> ?_)
  ·have q54:(i52<v49.length):=auq h53
   have z55:((i52:Int)<(v49.length:Int)):=auz
   rw[if_pos q54]at hF
   repeat(first|refine chk.ga ?_|simp -dsimp[h53,z55])
   refine abr.split (fun h56=> ?_) (fun h56=> ?_)
   ·have q57:(i52≤3):=auq h56
    have z58:((i52:Int)≤(3:Int)):=auz
    rw[if_pos q57]at hF
    repeat(first|refine chk.ga ?_|simp -dsimp[h53,z55,h56,z58])
    refine ADraw.eff [] [(0,1),(0,1),(0,0),(0,0),(0,0),(0,0),(0,0),(0,3),(0,3),(0,3),(2,2),(0,3)] [0,2,1,1,1,1,1,1,1,1,1,1] follows (by kernel_rfl) (by kernel_rfl) (by kernel_rfl) ?_
    have hF:=ob hF;obtain⟨x59,e60,hF⟩:=hF
    have le60:=lt_of_get e60
    repeat(first|refine chk.ga ?_|simp -dsimp[h53,z55,h56,z58,↓e60])
    have hF:=ob hF;obtain⟨v61,e62,hF⟩:=hF
    refine((C.f6 B hB1 hB2 names x59 v61 e62)).pgoW (by first|simp[h53,z55,h56,z58,↓e60];done|simp_all) (by simp) ?_
    have hF:=oc hF;obtain⟨c63,hF⟩:=hF
    have w64:IntKind.i64.wrap ((i52:Int)+1)=(i52:Int)+1:=wrap_in (by omega) (by omega)
    repeat(first|refine chk.ga ?_|simp -dsimp[h53,z55,h56,z58,↓e60,w64])
    refine Again.go _ ?_ ((ih_f8 (out51++[v61]) (i52+1) o hF) _ rfl _ hq)
    exact(Gh.to3 (by simp) (by first|simp -dsimp[h53,z55,h56,z58,↓e60,w64];done|simp_all))
   ·have q57:¬(i52≤3):=auq h56
    have z58:¬((i52:Int)≤(3:Int)):=auz
    rw[if_neg q57]at hF
    cases hF
    repeat(first|refine chk.ga ?_|simp -dsimp[h53,z55,h56,q57,z58])
    refine Leave.go ⟨[(4,.ptr 0 0),(5,.ptr 1 0)],[.cells [.lit (.string ByteArray.empty),.lit (.slice none 0 0),.lit (.int .i64 0)],.cells [.lit (.string x38),.own 2 (List.length (α:=Vl.Ty) out51),.lit (.int .i64 0)],.elems 2 (List.map Vl.Ty.c out51)]⟩ (Gh.to3 (by simp) (by first|simp -dsimp[h53,z55,h56,q57,z58];done|simp_all)) ?_
    exact hq
  ·have q54:¬(i52<v49.length):=auq h53
   have z55:¬((i52:Int)<(v49.length:Int)):=auz
   rw[if_neg q54]at hF
   cases hF
   repeat(first|refine chk.ga ?_|simp -dsimp[h53,q54,z55])
   refine Leave.go ⟨[(4,.ptr 0 0),(5,.ptr 1 0)],[.cells [.lit (.string ByteArray.empty),.lit (.slice none 0 0),.lit (.int .i64 0)],.cells [.lit (.string x38),.own 2 (List.length (α:=Vl.Ty) out51),.lit (.int .i64 0)],.elems 2 (List.map Vl.Ty.c out51)]⟩ (Gh.to3 (by simp) (by first|simp -dsimp[h53,q54,z55];done|simp_all)) ?_
   exact hq
theorem CC.f9 (names:List ByteArray)(x69:ByteArray)(v80:List ByteArray):(∀(out82:List Vl.Ty) (i83:Nat) (o:List Vl.Ty),F.f9 names x69 v80 out82 i83=some o→∀(c:Code),navO [1,1,1,1,1,1,1,0,1,0,0] (bodyOf Tryz.f105)=some c→∀(Q:Exit→ASt→Prop),(Q (.exit 0) ⟨[(4,.ptr 0 0),(5,.ptr 1 0)],[.cells [.lit (.string ByteArray.empty),.lit (.slice none 0 0),.lit (.int .i64 0)],.cells [.lit (.string x69),.own 2 (List.length (α:=Vl.Ty) o),.lit (.int .i64 0)],.elems 2 (List.map Vl.Ty.c o)]⟩)→ALoopU Tryz.prog B 0 83 (hold c .mk) ⟨[(0,.arr (List.map cS names)),(4,.ptr 0 0),(5,.ptr 1 0),(7,.arr (List.map cS v80)),(8,.lit (.int .i64 (i83:Int)))],[.cells [.lit (.string ByteArray.empty),.lit (.slice none 0 0),.lit (.int .i64 0)],.cells [.lit (.string x69),.own 2 (List.length (α:=Vl.Ty) out82),.lit (.int .i64 0)],.elems 2 (List.map Vl.Ty.c out82)]⟩ (hold Q .mk)):=by
 refine F.f9.partial_correctness names x69 v80
  _
  ?_
 ·intro _f_f9 ih_f9 out82 i83 o hF
  intro c hc Q hq
  obtain rfl:c=_:=navEq hc rfl
  refine ALoopU.know fun hk hs=> ?_
  have b0:=hk 0
  simp -dsimp at b0
  have b7:=hk 7
  simp -dsimp at b7
  have d2:=hs 2 _ rfl
  simp -dsimp[Blk.bnd]at d2
  clear hk hs
  refine ALoopU.enter ?_
  repeat(first|refine chk.ga ?_|simp -dsimp)
  refine abr.split (fun h84=> ?_) (fun h84=> ?_)
  ·have q85:(i83<v80.length):=auq h84
   have z86:((i83:Int)<(v80.length:Int)):=auz
   rw[if_pos q85]at hF
   repeat(first|refine chk.ga ?_|simp -dsimp[h84,z86])
   refine abr.split (fun h87=> ?_) (fun h87=> ?_)
   ·have q88:(i83≤3):=auq h87
    have z89:((i83:Int)≤(3:Int)):=auz
    rw[if_pos q88]at hF
    repeat(first|refine chk.ga ?_|simp -dsimp[h84,z86,h87,z89])
    refine ADraw.eff [] [(0,1),(0,1),(0,0),(0,0),(0,0),(0,0),(0,0),(0,3),(0,3),(0,3),(2,2),(0,3)] [0,2,1,1,1,1,1,1,1,1,1,1] follows (by kernel_rfl) (by kernel_rfl) (by kernel_rfl) ?_
    have hF:=ob hF;obtain⟨x90,e91,hF⟩:=hF
    have le91:=lt_of_get e91
    repeat(first|refine chk.ga ?_|simp -dsimp[h84,z86,h87,z89,↓e91])
    have hF:=ob hF;obtain⟨v92,e93,hF⟩:=hF
    refine((C.f6 B hB1 hB2 names x90 v92 e93)).pgoW (by first|simp[h84,z86,h87,z89,↓e91];done|simp_all) (by simp) ?_
    have hF:=oc hF;obtain⟨c94,hF⟩:=hF
    have w95:IntKind.i64.wrap ((i83:Int)+1)=(i83:Int)+1:=wrap_in (by omega) (by omega)
    repeat(first|refine chk.ga ?_|simp -dsimp[h84,z86,h87,z89,↓e91,w95])
    refine Again.go _ ?_ ((ih_f9 (out82++[v92]) (i83+1) o hF) _ rfl _ hq)
    exact(Gh.to3 (by simp) (by first|simp -dsimp[h84,z86,h87,z89,↓e91,w95];done|simp_all))
   ·have q88:¬(i83≤3):=auq h87
    have z89:¬((i83:Int)≤(3:Int)):=auz
    rw[if_neg q88]at hF
    cases hF
    repeat(first|refine chk.ga ?_|simp -dsimp[h84,z86,h87,q88,z89])
    refine Leave.go ⟨[(4,.ptr 0 0),(5,.ptr 1 0)],[.cells [.lit (.string ByteArray.empty),.lit (.slice none 0 0),.lit (.int .i64 0)],.cells [.lit (.string x69),.own 2 (List.length (α:=Vl.Ty) out82),.lit (.int .i64 0)],.elems 2 (List.map Vl.Ty.c out82)]⟩ (Gh.to3 (by simp) (by first|simp -dsimp[h84,z86,h87,q88,z89];done|simp_all)) ?_
    exact hq
  ·have q85:¬(i83<v80.length):=auq h84
   have z86:¬((i83:Int)<(v80.length:Int)):=auz
   rw[if_neg q85]at hF
   cases hF
   repeat(first|refine chk.ga ?_|simp -dsimp[h84,q85,z86])
   refine Leave.go ⟨[(4,.ptr 0 0),(5,.ptr 1 0)],[.cells [.lit (.string ByteArray.empty),.lit (.slice none 0 0),.lit (.int .i64 0)],.cells [.lit (.string x69),.own 2 (List.length (α:=Vl.Ty) out82),.lit (.int .i64 0)],.elems 2 (List.map Vl.Ty.c out82)]⟩ (Gh.to3 (by simp) (by first|simp -dsimp[h84,q85,z86];done|simp_all)) ?_
   exact hq
theorem C.f10 (names:List ByteArray)(s:ByteArray)(r:Vl.Ctor)(hF:F.f10 names s=some r):PureCall Tryz.prog B 105 [.arr (List.map cS names),.lit (.string s)] (.agg [.lit (.string r.name),.arr (List.map Vl.Ty.c r.args),.lit (.int .i64 r.index)]):=by
 unfold F.f10 at hF
 refine PureCall.enterLe Tryz.func105 (by kernel_rfl) rfl Tryz.ntmps105 (by simp) (by simp) ?_
 repeat(first|refine chk.ga ?_|simp -dsimp)
 refine abr.split (fun h1=> ?_) (fun h1=> ?_)
 ·have q2:(2<s.size):=auq h1
  have z3:((2:Int)<(s.size:Int)):=auz
  rw[if_pos q2]at hF
  have hF:=oc hF;obtain⟨c4,hF⟩:=hF
  repeat(first|refine chk.ga ?_|simp -dsimp[h1,z3])
  refine abr.split (fun h5=> ?_) (fun h5=> ?_)
  ·have q6:(byteAt s ((IntKind.i64.wrap ((s.size:Int) -2)).toNat)=58):=auq h5
   have z7:(((byteAt s ((IntKind.i64.wrap ((s.size:Int) -2)).toNat):Nat):Int)=(58:Int)):=auz
   rw[if_pos q6]at hF
   have hF:=oc hF;obtain⟨c8,hF⟩:=hF
   have hF:=oc hF;obtain⟨c9,hF⟩:=hF
   repeat(first|refine chk.ga ?_|simp -dsimp[h1,z3,h5,z7])
   have hF:=ob hF;obtain⟨v,e10,hF⟩:=hF
   refine((C.f3 B hB1 hB2 (s.extract 0 ((IntKind.i64.wrap ((s.size:Int) -2)).toNat)) (40:Int) v e10)).goW (by first|simp[h1,z3,h5,z7];done|simp_all) (by simp) ?_
   have hF:=ob hF;obtain⟨x,e11,hF⟩:=hF
   have le11:=lt_of_get e11
   repeat(first|refine chk.ga ?_|simp -dsimp[h1,z3,h5,z7,↓e11])
   refine abr.split (fun h12=> ?_) (fun h12=> ?_)
   ·have q13:¬(v.length<2):=auq h12
    have z14:¬((v.length:Int)<(2:Int)):=auz
    rw[if_neg q13]at hF
    have hF:=ob hF;obtain⟨x15,e16,hF⟩:=hF
    have le16:=lt_of_get e16
    repeat(first|refine chk.ga ?_|simp -dsimp[h1,z3,h5,z7,↓e11,h12,q13,z14,↓e16])
    refine abr.split (fun h17=> ?_) (fun h17=> ?_)
    ·have q18:(x15.size=0):=auq h17
     have z19:((x15.size:Int)=(0:Int)):=auz
     rw[if_pos q18]at hF
     cases hF
     repeat(first|refine chk.ga ?_|simp -dsimp[h1,z3,h5,z7,↓e11,h12,q13,z14,↓e16,h17,z19])
     all_goals(try first|omega|rfl)
    ·have q18:¬(x15.size=0):=auq h17
     have z19:¬((x15.size:Int)=(0:Int)):=auz
     rw[if_neg q18]at hF
     repeat(first|refine chk.ga ?_|simp -dsimp[h1,z3,h5,z7,↓e11,h12,q13,z14,↓e16,h17,q18,z19])
     refine ADraw.simple follows (by kernel_rfl) (by kernel_rfl) ?_
     have hF:=oc hF;obtain⟨c20,hF⟩:=hF
     repeat(first|refine chk.ga ?_|simp -dsimp[h1,z3,h5,z7,↓e11,h12,q13,z14,↓e16,h17,q18,z19])
     have hF:=ob hF;obtain⟨v21,e22,hF⟩:=hF
     refine((C.f3 B hB1 hB2 (x15.extract 0 ((IntKind.i64.wrap ((x15.size:Int) -1)).toNat)) (44:Int) v21 e22)).pgoW (by first|simp[h1,z3,h5,z7,↓e11,h12,q13,z14,↓e16,h17,q18,z19];done|simp_all) (by simp) ?_
     repeat(first|refine chk.ga ?_|simp -dsimp[h1,z3,h5,z7,↓e11,h12,q13,z14,↓e16,h17,q18,z19])
     have hF:=ob hF;obtain⟨o',ho35,hF⟩:=hF
     refine ALoop.goU ⟨[(0,.arr (List.map cS names)),(4,.ptr 0 0),(5,.ptr 1 0),(7,.arr (List.map cS v21)),(8,.lit (.int .i64 (0:Int)))],[.cells [.lit (.string ByteArray.empty),.lit (.slice none 0 0),.lit (.int .i64 0)],.cells [.lit (.string x),.own 2 (List.length (α:=Vl.Ty) []),.lit (.int .i64 (IntKind.i64.wrap (IntKind.i64.wrap ((byteAt s ((IntKind.i64.wrap ((s.size:Int) -1)).toNat):Nat):Int) -48)))],.elems 2 (List.map Vl.Ty.c [])]⟩ (by refine Gh.trans (Gh.nilCell 1 1 2 (by simp -dsimp;rfl) (by simp -dsimp)) ?_;exact(Gh.to3 (by simp) (by first|simp -dsimp[h1,z3,h5,z7,↓e11,h12,q13,z14,↓e16,h17,q18,z19];done|simp_all))) ?_
     refine((CC.f7 B hB1 hB2 names s x v21) [] 0 o' ho35) _ rfl _ ?_
     cases hF
     repeat(first|refine chk.ga ?_|simp -dsimp)
     all_goals(try first|omega|rfl)
   ·have q13:(v.length<2):=auq h12
    have z14:((v.length:Int)<(2:Int)):=auz
    rw[if_pos q13]at hF
    cases hF
    repeat(first|refine chk.ga ?_|simp -dsimp[h1,z3,h5,z7,↓e11,h12,q13,z14])
    all_goals(try first|omega|rfl)
  ·have q6:¬(byteAt s ((IntKind.i64.wrap ((s.size:Int) -2)).toNat)=58):=auq h5
   have z7:¬(((byteAt s ((IntKind.i64.wrap ((s.size:Int) -2)).toNat):Nat):Int)=(58:Int)):=auz
   rw[if_neg q6]at hF
   repeat(first|refine chk.ga ?_|simp -dsimp[h1,z3,h5,q6,z7])
   have hF:=ob hF;obtain⟨v36,e37,hF⟩:=hF
   refine((C.f3 B hB1 hB2 s (40:Int) v36 e37)).goW (by first|simp[h1,z3,h5,q6,z7];done|simp_all) (by simp) ?_
   have hF:=ob hF;obtain⟨x38,e39,hF⟩:=hF
   have le39:=lt_of_get e39
   repeat(first|refine chk.ga ?_|simp -dsimp[h1,z3,h5,q6,z7,↓e39])
   refine abr.split (fun h40=> ?_) (fun h40=> ?_)
   ·have q41:¬(v36.length<2):=auq h40
    have z42:¬((v36.length:Int)<(2:Int)):=auz
    rw[if_neg q41]at hF
    have hF:=ob hF;obtain⟨x43,e44,hF⟩:=hF
    have le44:=lt_of_get e44
    repeat(first|refine chk.ga ?_|simp -dsimp[h1,z3,h5,q6,z7,↓e39,h40,q41,z42,↓e44])
    refine abr.split (fun h45=> ?_) (fun h45=> ?_)
    ·have q46:(x43.size=0):=auq h45
     have z47:((x43.size:Int)=(0:Int)):=auz
     rw[if_pos q46]at hF
     cases hF
     repeat(first|refine chk.ga ?_|simp -dsimp[h1,z3,h5,q6,z7,↓e39,h40,q41,z42,↓e44,h45,z47])
     all_goals(try first|omega|rfl)
    ·have q46:¬(x43.size=0):=auq h45
     have z47:¬((x43.size:Int)=(0:Int)):=auz
     rw[if_neg q46]at hF
     repeat(first|refine chk.ga ?_|simp -dsimp[h1,z3,h5,q6,z7,↓e39,h40,q41,z42,↓e44,h45,q46,z47])
     refine ADraw.simple follows (by kernel_rfl) (by kernel_rfl) ?_
     have hF:=oc hF;obtain⟨c48,hF⟩:=hF
     repeat(first|refine chk.ga ?_|simp -dsimp[h1,z3,h5,q6,z7,↓e39,h40,q41,z42,↓e44,h45,q46,z47])
     have hF:=ob hF;obtain⟨v49,e50,hF⟩:=hF
     refine((C.f3 B hB1 hB2 (x43.extract 0 ((IntKind.i64.wrap ((x43.size:Int) -1)).toNat)) (44:Int) v49 e50)).pgoW (by first|simp[h1,z3,h5,q6,z7,↓e39,h40,q41,z42,↓e44,h45,q46,z47];done|simp_all) (by simp) ?_
     repeat(first|refine chk.ga ?_|simp -dsimp[h1,z3,h5,q6,z7,↓e39,h40,q41,z42,↓e44,h45,q46,z47])
     have hF:=ob hF;obtain⟨o'66,ho65,hF⟩:=hF
     refine ALoop.goU ⟨[(0,.arr (List.map cS names)),(4,.ptr 0 0),(5,.ptr 1 0),(7,.arr (List.map cS v49)),(8,.lit (.int .i64 (0:Int)))],[.cells [.lit (.string ByteArray.empty),.lit (.slice none 0 0),.lit (.int .i64 0)],.cells [.lit (.string x38),.own 2 (List.length (α:=Vl.Ty) []),.lit (.int .i64 0)],.elems 2 (List.map Vl.Ty.c [])]⟩ (by refine Gh.trans (Gh.nilCell 1 1 2 (by simp -dsimp;rfl) (by simp -dsimp)) ?_;exact(Gh.to3 (by simp) (by first|simp -dsimp[h1,z3,h5,q6,z7,↓e39,h40,q41,z42,↓e44,h45,q46,z47];done|simp_all))) ?_
     refine((CC.f8 B hB1 hB2 names x38 v49) [] 0 o'66 ho65) _ rfl _ ?_
     cases hF
     repeat(first|refine chk.ga ?_|simp -dsimp)
     all_goals(try first|omega|rfl)
   ·have q41:(v36.length<2):=auq h40
    have z42:((v36.length:Int)<(2:Int)):=auz
    rw[if_pos q41]at hF
    cases hF
    repeat(first|refine chk.ga ?_|simp -dsimp[h1,z3,h5,q6,z7,↓e39,h40,q41,z42])
    all_goals(try first|omega|rfl)
 ·have q2:¬(2<s.size):=auq h1
  have z3:¬((2:Int)<(s.size:Int)):=auz
  rw[if_neg q2]at hF
  repeat(first|refine chk.ga ?_|simp -dsimp[h1,q2,z3])
  have hF:=ob hF;obtain⟨v67,e68,hF⟩:=hF
  refine((C.f3 B hB1 hB2 s (40:Int) v67 e68)).goW (by first|simp[h1,q2,z3];done|simp_all) (by simp) ?_
  have hF:=ob hF;obtain⟨x69,e70,hF⟩:=hF
  have le70:=lt_of_get e70
  repeat(first|refine chk.ga ?_|simp -dsimp[h1,q2,z3,↓e70])
  refine abr.split (fun h71=> ?_) (fun h71=> ?_)
  ·have q72:¬(v67.length<2):=auq h71
   have z73:¬((v67.length:Int)<(2:Int)):=auz
   rw[if_neg q72]at hF
   have hF:=ob hF;obtain⟨x74,e75,hF⟩:=hF
   have le75:=lt_of_get e75
   repeat(first|refine chk.ga ?_|simp -dsimp[h1,q2,z3,↓e70,h71,q72,z73,↓e75])
   refine abr.split (fun h76=> ?_) (fun h76=> ?_)
   ·have q77:(x74.size=0):=auq h76
    have z78:((x74.size:Int)=(0:Int)):=auz
    rw[if_pos q77]at hF
    cases hF
    repeat(first|refine chk.ga ?_|simp -dsimp[h1,q2,z3,↓e70,h71,q72,z73,↓e75,h76,z78])
    all_goals(try first|omega|rfl)
   ·have q77:¬(x74.size=0):=auq h76
    have z78:¬((x74.size:Int)=(0:Int)):=auz
    rw[if_neg q77]at hF
    repeat(first|refine chk.ga ?_|simp -dsimp[h1,q2,z3,↓e70,h71,q72,z73,↓e75,h76,q77,z78])
    refine ADraw.simple follows (by kernel_rfl) (by kernel_rfl) ?_
    have hF:=oc hF;obtain⟨c79,hF⟩:=hF
    repeat(first|refine chk.ga ?_|simp -dsimp[h1,q2,z3,↓e70,h71,q72,z73,↓e75,h76,q77,z78])
    have hF:=ob hF;obtain⟨v80,e81,hF⟩:=hF
    refine((C.f3 B hB1 hB2 (x74.extract 0 ((IntKind.i64.wrap ((x74.size:Int) -1)).toNat)) (44:Int) v80 e81)).pgoW (by first|simp[h1,q2,z3,↓e70,h71,q72,z73,↓e75,h76,q77,z78];done|simp_all) (by simp) ?_
    repeat(first|refine chk.ga ?_|simp -dsimp[h1,q2,z3,↓e70,h71,q72,z73,↓e75,h76,q77,z78])
    have hF:=ob hF;obtain⟨o'97,ho96,hF⟩:=hF
    refine ALoop.goU ⟨[(0,.arr (List.map cS names)),(4,.ptr 0 0),(5,.ptr 1 0),(7,.arr (List.map cS v80)),(8,.lit (.int .i64 (0:Int)))],[.cells [.lit (.string ByteArray.empty),.lit (.slice none 0 0),.lit (.int .i64 0)],.cells [.lit (.string x69),.own 2 (List.length (α:=Vl.Ty) []),.lit (.int .i64 0)],.elems 2 (List.map Vl.Ty.c [])]⟩ (by refine Gh.trans (Gh.nilCell 1 1 2 (by simp -dsimp;rfl) (by simp -dsimp)) ?_;exact(Gh.to3 (by simp) (by first|simp -dsimp[h1,q2,z3,↓e70,h71,q72,z73,↓e75,h76,q77,z78];done|simp_all))) ?_
    refine((CC.f9 B hB1 hB2 names x69 v80) [] 0 o'97 ho96) _ rfl _ ?_
    cases hF
    repeat(first|refine chk.ga ?_|simp -dsimp)
    all_goals(try first|omega|rfl)
  ·have q72:(v67.length<2):=auq h71
   have z73:((v67.length:Int)<(2:Int)):=auz
   rw[if_pos q72]at hF
   cases hF
   repeat(first|refine chk.ga ?_|simp -dsimp[h1,q2,z3,↓e70,h71,q72,z73])
   all_goals(try first|omega|rfl)
theorem C.f11 (c':Int)(r:Bool)(hF:F.f11 c'=some r):PureCall Tryz.prog B 108 [.lit (.int .u8 c')] (.lit (.bool r)):=by
 unfold F.f11 at hF
 refine PureCall.enterLe Tryz.func108 (by kernel_rfl) rfl Tryz.ntmps108 (by simp) (by simp) ?_
 repeat(first|refine chk.ga ?_|simp -dsimp)
 refine abr.split (fun h1=> ?_) (fun h1=> ?_)
 ·have q2:(65≤c'):=auq h1
  rw[if_pos q2]at hF
  cases hF
  repeat(first|refine chk.ga ?_|simp -dsimp[h1])
  all_goals(try first|omega|rfl)
 ·have q2:¬(65≤c'):=auq h1
  rw[if_neg q2]at hF
  cases hF
  repeat(first|refine chk.ga ?_|simp -dsimp[h1,q2])
  all_goals(try first|omega|rfl)
theorem C.f12 (s:ByteArray)(r:Bool)(hF:F.f12 s=some r):PureCall Tryz.prog B 92 [.lit (.string s)] (.lit (.bool r)):=by
 unfold F.f12 at hF
 refine PureCall.enterLe Tryz.func92 (by kernel_rfl) rfl Tryz.ntmps92 (by simp) (by simp) ?_
 repeat(first|refine chk.ga ?_|simp -dsimp)
 refine abr.split (fun h1=> ?_) (fun h1=> ?_)
 ·have q2:(s.size=1):=auq h1
  have z3:((s.size:Int)=(1:Int)):=auz
  rw[if_pos q2]at hF
  have hF:=oc hF;obtain⟨c4,hF⟩:=hF
  repeat(first|refine chk.ga ?_|simp -dsimp[h1,z3])
  have hF:=ob hF;obtain⟨v,e5,hF⟩:=hF
  refine((C.f11 B hB1 hB2 ((byteAt s 0:Nat):Int) v e5)).goW (by first|simp[h1,z3];done|simp_all) (by simp) ?_
  repeat(first|refine chk.ga ?_|simp -dsimp[h1,z3])
  refine abr.split (fun h6=> ?_) (fun h6=> ?_)
  ·have q7:(v=true):=auq h6
   rw[if_pos q7]at hF
   cases hF
   repeat(first|refine chk.ga ?_|simp -dsimp[h1,z3,h6])
   all_goals(try first|omega|rfl)
  ·have q7:¬(v=true):=auq h6
   rw[if_neg q7]at hF
   cases hF
   repeat(first|refine chk.ga ?_|simp -dsimp[h1,z3,h6,q7])
   all_goals(try first|omega|rfl)
 ·have q2:¬(s.size=1):=auq h1
  have z3:¬((s.size:Int)=(1:Int)):=auz
  rw[if_neg q2]at hF
  cases hF
  repeat(first|refine chk.ga ?_|simp -dsimp[h1,q2,z3])
  all_goals(try first|omega|rfl)
theorem CC.f13 (s:ByteArray):(∀(i:Nat) (o:Lo Bool Unit),F.f13 s i=some o→∀(c:Code),navO [1,1,0,1,0,0] (bodyOf Tryz.f109)=some c→∀(Q:Exit→ASt→Prop),o.post (fun r=>∀st,Post Tryz.prog Tryz.f109 (fun r' _=>r'.le (.lit (.bool r))) .ret st→Q .ret st) (fun s=>Q (.exit 0) ⟨[],[]⟩)→ALoopU Tryz.prog B 0 34 (hold c .mk) ⟨[(0,.lit (.string s)),(3,.lit (.int .i64 (i:Int)))],[]⟩ (hold Q .mk)):=by
 refine F.f13.partial_correctness s
  _
  ?_
 ·intro _f_f13 ih_f13 i o hF
  intro c hc Q hq
  obtain rfl:c=_:=navEq hc rfl
  refine ALoopU.know fun hk hs=> ?_
  clear hk hs
  refine ALoopU.enter ?_
  repeat(first|refine chk.ga ?_|simp -dsimp)
  refine abr.split (fun h11=> ?_) (fun h11=> ?_)
  ·have q12:(i<s.size):=auq h11
   have z13:((i:Int)<(s.size:Int)):=auz
   rw[if_pos q12]at hF
   repeat(first|refine chk.ga ?_|simp -dsimp[h11,z13])
   refine abr.split (fun h14=> ?_) (fun h14=> ?_)
   ·have q15:¬(byteAt s i<97):=auq h14
    have z16:¬(((byteAt s i:Nat):Int)<(97:Int)):=auz
    rw[if_neg q15]at hF
    repeat(first|refine chk.ga ?_|simp -dsimp[h11,z13,h14,q15,z16])
    refine abr.split (fun h17=> ?_) (fun h17=> ?_)
    ·have q18:(122<byteAt s i):=auq h17
     have z19:((122:Int)<((byteAt s i:Nat):Int)):=auz
     rw[if_pos q18]at hF
     cases hF
     repeat(first|refine chk.ga ?_|simp -dsimp[h11,z13,h14,q15,z16,h17,z19])
     refine Leave.go _ (Gh.refl _) (hq _ ?_)
     repeat(first|refine chk.ga ?_|simp -dsimp[h11,z13,h14,q15,z16,h17,z19])
    ·have q18:¬(122<byteAt s i):=auq h17
     have z19:¬((122:Int)<((byteAt s i:Nat):Int)):=auz
     rw[if_neg q18]at hF
     have hF:=oc hF;obtain⟨c20,hF⟩:=hF
     have w21:IntKind.i64.wrap ((i:Int)+1)=(i:Int)+1:=wrap_in (by omega) (by omega)
     repeat(first|refine chk.ga ?_|simp -dsimp[h11,z13,h14,q15,z16,h17,q18,z19,w21])
     refine Again.go _ ?_ ((ih_f13 (i+1) o hF) _ rfl _ hq)
     exact(Gh.to3 (by simp) (by first|simp -dsimp[h11,z13,h14,q15,z16,h17,q18,z19,w21];done|simp_all))
   ·have q15:(byteAt s i<97):=auq h14
    have z16:(((byteAt s i:Nat):Int)<(97:Int)):=auz
    rw[if_pos q15]at hF
    cases hF
    repeat(first|refine chk.ga ?_|simp -dsimp[h11,z13,h14,q15,z16])
    refine Leave.go _ (Gh.refl _) (hq _ ?_)
    repeat(first|refine chk.ga ?_|simp -dsimp[h11,z13,h14,q15,z16])
  ·have q12:¬(i<s.size):=auq h11
   have z13:¬((i:Int)<(s.size:Int)):=auz
   rw[if_neg q12]at hF
   cases hF
   repeat(first|refine chk.ga ?_|simp -dsimp[h11,q12,z13])
   refine Leave.go ⟨[],[]⟩ (Gh.to3 (by simp) (by first|simp -dsimp[h11,q12,z13];done|simp_all)) ?_
   exact hq
theorem C.f14 (s:ByteArray)(r:Bool)(hF:F.f14 s=some r):PureCall Tryz.prog B 109 [.lit (.string s)] (.lit (.bool r)):=by
 unfold F.f14 at hF
 refine PureCall.enterLe Tryz.func109 (by kernel_rfl) rfl Tryz.ntmps109 (by simp) (by simp) ?_
 repeat(first|refine chk.ga ?_|simp -dsimp)
 refine abr.split (fun h1=> ?_) (fun h1=> ?_)
 ·have q2:¬(s.size=0):=auq h1
  have z3:¬((s.size:Int)=(0:Int)):=auz
  rw[if_neg q2]at hF
  repeat(first|refine chk.ga ?_|simp -dsimp[h1,q2,z3])
  refine abr.split (fun h4=> ?_) (fun h4=> ?_)
  ·have q5:¬(5<s.size):=auq h4
   have z6:¬((5:Int)<(s.size:Int)):=auz
   rw[if_neg q5]at hF
   have hF:=oc hF;obtain⟨c7,hF⟩:=hF
   repeat(first|refine chk.ga ?_|simp -dsimp[h1,q2,z3,h4,q5,z6])
   have hF:=ob hF;obtain⟨v,e8,hF⟩:=hF
   refine((C.f11 B hB1 hB2 ((byteAt s 0:Nat):Int) v e8)).goW (by first|simp[h1,q2,z3,h4,q5,z6];done|simp_all) (by simp) ?_
   repeat(first|refine chk.ga ?_|simp -dsimp[h1,q2,z3,h4,q5,z6])
   refine abr.split (fun h9=> ?_) (fun h9=> ?_)
   ·have q10:¬(v=true):=auq h9
    rw[if_neg q10]at hF
    cases hF
    repeat(first|refine chk.ga ?_|simp -dsimp[h1,q2,z3,h4,q5,z6,h9,q10])
    all_goals(try first|omega|rfl)
   ·have q10:(v=true):=auq h9
    rw[if_pos q10]at hF
    repeat(first|refine chk.ga ?_|simp -dsimp[h1,q2,z3,h4,q5,z6,h9,q10])
    have hF:=ob hF;obtain⟨o',ho22,hF⟩:=hF
    refine ALoop.goU _ ?_ (((CC.f13 B hB1 hB2 s) 1 o' ho22) _ rfl _ ?_)
    ·exact(Gh.to3 (by simp) (by first|simp -dsimp[h1,q2,z3,h4,q5,z6,h9,q10];done|simp_all))
    rcases o' with r0|sx
    ·dsimp only at hF
     cases hF
     intro st h
     simpa using h
    ·dsimp only at hF
     cases hF
     repeat(first|refine chk.ga ?_|simp -dsimp)
     all_goals(try first|omega|rfl)
  ·have q5:(5<s.size):=auq h4
   have z6:((5:Int)<(s.size:Int)):=auz
   rw[if_pos q5]at hF
   cases hF
   repeat(first|refine chk.ga ?_|simp -dsimp[h1,q2,z3,h4,q5,z6])
   all_goals(try first|omega|rfl)
 ·have q2:(s.size=0):=auq h1
  have z3:((s.size:Int)=(0:Int)):=auz
  rw[if_pos q2]at hF
  cases hF
  repeat(first|refine chk.ga ?_|simp -dsimp[h1,q2,z3])
  all_goals(try first|omega|rfl)
theorem C.f15 (n:Int)(t:Vl.Ty)(r:Bool)(hF:F.f15 n t=some r):PureCall Tryz.prog B 95 [.lit (.int .i64 n),.agg [.lit (.int .i64 t.data),.lit (.int .i64 t.index)]] (.lit (.bool r)):=by
 unfold F.f15 at hF
 refine PureCall.enterLe Tryz.func95 (by kernel_rfl) rfl Tryz.ntmps95 (by simp) (by simp) ?_
 repeat(first|refine chk.ga ?_|simp -dsimp)
 refine abr.split (fun h1=> ?_) (fun h1=> ?_)
 ·have q2:(t.data=(-1)):=auq h1
  rw[if_pos q2]at hF
  cases hF
  repeat(first|refine chk.ga ?_|simp -dsimp[h1])
  all_goals(try first|omega|rfl)
 ·have q2:¬(t.data=(-1)):=auq h1
  rw[if_neg q2]at hF
  repeat(first|refine chk.ga ?_|simp -dsimp[h1,q2])
  refine abr.split (fun h3=> ?_) (fun h3=> ?_)
  ·have q4:(0≤t.data):=auq h3
   rw[if_pos q4]at hF
   repeat(first|refine chk.ga ?_|simp -dsimp[h1,q2,h3])
   refine abr.split (fun h5=> ?_) (fun h5=> ?_)
   ·have q6:(t.data<n):=auq h5
    rw[if_pos q6]at hF
    repeat(first|refine chk.ga ?_|simp -dsimp[h1,q2,h3,h5])
    refine abr.split (fun h7=> ?_) (fun h7=> ?_)
    ·have q8:((-1)≤t.index):=auq h7
     rw[if_pos q8]at hF
     cases hF
     repeat(first|refine chk.ga ?_|simp -dsimp[h1,q2,h3,h5,h7])
     all_goals(try first|omega|rfl)
    ·have q8:¬((-1)≤t.index):=auq h7
     rw[if_neg q8]at hF
     cases hF
     repeat(first|refine chk.ga ?_|simp -dsimp[h1,q2,h3,h5,h7,q8])
     all_goals(try first|omega|rfl)
   ·have q6:¬(t.data<n):=auq h5
    rw[if_neg q6]at hF
    cases hF
    repeat(first|refine chk.ga ?_|simp -dsimp[h1,q2,h3,h5,q6])
    all_goals(try first|omega|rfl)
  ·have q4:¬(0≤t.data):=auq h3
   rw[if_neg q4]at hF
   cases hF
   repeat(first|refine chk.ga ?_|simp -dsimp[h1,q2,h3,q4])
   all_goals(try first|omega|rfl)
theorem CC.f16 (n:Int)(c':Vl.Ctor):(∀(i:Nat) (o:Lo Bool Unit),F.f16 n c' i=some o→∀(c:Code),navO [1,1,0,1,0,0] (bodyOf Tryz.f93)=some c→∀(Q:Exit→ASt→Prop),o.post (fun r=>∀st,Post Tryz.prog Tryz.f93 (fun r' _=>r'.le (.lit (.bool r))) .ret st→Q .ret st) (fun s=>Q (.exit 0) ⟨[],[]⟩)→ALoopU Tryz.prog B 0 41 (hold c .mk) ⟨[(0,.lit (.int .i64 n)),(3,.ptr 0 0),(5,.lit (.int .i64 (i:Int)))],[.cells [.lit (.string c'.name),.arr (List.map Vl.Ty.c c'.args),.lit (.int .i64 c'.index)]]⟩ (hold Q .mk)):=by
 refine F.f16.partial_correctness n c'
  _
  ?_
 ·intro _f_f16 ih_f16 i o hF
  intro c hc Q hq
  obtain rfl:c=_:=navEq hc rfl
  refine ALoopU.know fun hk hs=> ?_
  have d0:=hs 0 _ rfl
  simp -dsimp[Blk.bnd]at d0
  clear hk hs
  refine ALoopU.enter ?_
  repeat(first|refine chk.ga ?_|simp -dsimp)
  refine abr.split (fun h11=> ?_) (fun h11=> ?_)
  ·have q12:(i<c'.args.length):=auq h11
   have z13:((i:Int)<(c'.args.length:Int)):=auz
   rw[if_pos q12]at hF
   have hF:=ob hF;obtain⟨x,e14,hF⟩:=hF
   have le14:=lt_of_get e14
   repeat(first|refine chk.ga ?_|simp -dsimp[h11,z13,↓e14])
   have hF:=ob hF;obtain⟨v15,e16,hF⟩:=hF
   refine((C.f15 B hB1 hB2 n x v15 e16)).goW (by first|simp[h11,z13,↓e14];done|simp_all) (by simp) ?_
   repeat(first|refine chk.ga ?_|simp -dsimp[h11,z13,↓e14])
   refine abr.split (fun h17=> ?_) (fun h17=> ?_)
   ·have q18:¬(v15=true):=auq h17
    rw[if_neg q18]at hF
    cases hF
    repeat(first|refine chk.ga ?_|simp -dsimp[h11,z13,↓e14,h17,q18])
    refine Leave.go _ (Gh.refl _) (hq _ ?_)
    repeat(first|refine chk.ga ?_|simp -dsimp[h11,z13,↓e14,h17,q18])
   ·have q18:(v15=true):=auq h17
    rw[if_pos q18]at hF
    have w19:IntKind.i64.wrap ((i:Int)+1)=(i:Int)+1:=wrap_in (by omega) (by omega)
    repeat(first|refine chk.ga ?_|simp -dsimp[h11,z13,↓e14,h17,q18,w19])
    refine Again.go _ ?_ ((ih_f16 (i+1) o hF) _ rfl _ hq)
    exact(Gh.to3 (by simp) (by first|simp -dsimp[h11,z13,↓e14,h17,q18,w19];done|simp_all))
  ·have q12:¬(i<c'.args.length):=auq h11
   have z13:¬((i:Int)<(c'.args.length:Int)):=auz
   rw[if_neg q12]at hF
   cases hF
   repeat(first|refine chk.ga ?_|simp -dsimp[h11,q12,z13])
   refine Leave.go ⟨[],[]⟩ (Gh.to3 (by simp) (by first|simp -dsimp[h11,q12,z13];done|simp_all)) ?_
   exact hq
theorem C.f17 (n:Int)(c':Vl.Ctor)(r:Bool)(hF:F.f17 n c'=some r):PureCall Tryz.prog B 93 [.lit (.int .i64 n),.agg [.lit (.string c'.name),.arr (List.map Vl.Ty.c c'.args),.lit (.int .i64 c'.index)]] (.lit (.bool r)):=by
 unfold F.f17 at hF
 refine PureCall.enterLe Tryz.func93 (by kernel_rfl) rfl Tryz.ntmps93 (by simp) (by simp) ?_
 repeat(first|refine chk.ga ?_|simp -dsimp)
 have hF:=ob hF;obtain⟨v,e1,hF⟩:=hF
 refine((C.f14 B hB1 hB2 c'.name v e1)).goW (by simp) (by simp) ?_
 repeat(first|refine chk.ga ?_|simp -dsimp)
 refine abr.split (fun h2=> ?_) (fun h2=> ?_)
 ·have q3:(v=true):=auq h2
  rw[if_pos q3]at hF
  repeat(first|refine chk.ga ?_|simp -dsimp[h2])
  refine abr.split (fun h4=> ?_) (fun h4=> ?_)
  ·have q5:¬(3<c'.args.length):=auq h4
   have z6:¬((3:Int)<(c'.args.length:Int)):=auz
   rw[if_neg q5]at hF
   repeat(first|refine chk.ga ?_|simp -dsimp[h2,h4,q5,z6])
   refine abr.split (fun h7=> ?_) (fun h7=> ?_)
   ·have q8:¬(c'.index<0):=auq h7
    rw[if_neg q8]at hF
    repeat(first|refine chk.ga ?_|simp -dsimp[h2,h4,q5,z6,h7,q8])
    refine abr.split (fun h9=> ?_) (fun h9=> ?_)
    ·have q10:(3<c'.index):=auq h9
     rw[if_pos q10]at hF
     cases hF
     repeat(first|refine chk.ga ?_|simp -dsimp[h2,h4,q5,z6,h7,q8,h9])
     all_goals(try first|omega|rfl)
    ·have q10:¬(3<c'.index):=auq h9
     rw[if_neg q10]at hF
     repeat(first|refine chk.ga ?_|simp -dsimp[h2,h4,q5,z6,h7,q8,h9,q10])
     have hF:=ob hF;obtain⟨o',ho20,hF⟩:=hF
     refine ALoop.goU _ ?_ (((CC.f16 B hB1 hB2 n c') 0 o' ho20) _ rfl _ ?_)
     ·exact(Gh.to3 (by simp) (by first|simp -dsimp[h2,h4,q5,z6,h7,q8,h9,q10];done|simp_all))
     rcases o' with r0|sx
     ·dsimp only at hF
      cases hF
      intro st h
      simpa using h
     ·dsimp only at hF
      cases hF
      repeat(first|refine chk.ga ?_|simp -dsimp)
      all_goals(try first|omega|rfl)
   ·have q8:(c'.index<0):=auq h7
    rw[if_pos q8]at hF
    cases hF
    repeat(first|refine chk.ga ?_|simp -dsimp[h2,h4,q5,z6,h7,q8])
    all_goals(try first|omega|rfl)
  ·have q5:(3<c'.args.length):=auq h4
   have z6:((3:Int)<(c'.args.length:Int)):=auz
   rw[if_pos q5]at hF
   cases hF
   repeat(first|refine chk.ga ?_|simp -dsimp[h2,h4,q5,z6])
   all_goals(try first|omega|rfl)
 ·have q3:¬(v=true):=auq h2
  rw[if_neg q3]at hF
  cases hF
  repeat(first|refine chk.ga ?_|simp -dsimp[h2,q3])
  all_goals(try first|omega|rfl)
theorem CC.f18 (w:List Vl.Data)(d:Int)(k:Int)(i:Nat):(∀(j:Nat) (o:Lo Bool Unit),F.f18 w d k i j=some o→∀(c:Code),navO [1,0,1,0,0,1,0,0,1,1,0,0] (bodyOf Tryz.f94)=some c→∀(Q:Exit→ASt→Prop),o.post (fun r=>∀st,Post Tryz.prog Tryz.f94 (fun r' _=>r'.le (.lit (.bool r))) .ret st→Q .ret st) (fun s=>Q (.exit 2) ⟨[(0,.arr (List.map Vl.Data.c w)),(1,.lit (.int .i64 d)),(2,.lit (.int .i64 k)),(7,.lit (.int .i64 (i:Int)))],[]⟩)→ALoopU Tryz.prog B 0 79 (hold c .mk) ⟨[(0,.arr (List.map Vl.Data.c w)),(1,.lit (.int .i64 d)),(2,.lit (.int .i64 k)),(7,.lit (.int .i64 (i:Int))),(8,.lit (.int .i64 (j:Int)))],[]⟩ (hold Q .mk)):=by
 refine F.f18.partial_correctness w d k i
  _
  ?_
 ·intro _f_f18 ih_f18 j o hF
  intro c hc Q hq
  obtain rfl:c=_:=navEq hc rfl
  refine ALoopU.know fun hk hs=> ?_
  have b0:=hk 0
  simp -dsimp at b0
  clear hk hs
  refine ALoopU.enter ?_
  have hF:=ob hF;obtain⟨x10,e11,hF⟩:=hF
  have le11:=lt_of_get e11
  repeat(first|refine chk.ga ?_|simp -dsimp[↓e11])
  refine abr.split (fun h12=> ?_) (fun h12=> ?_)
  ·have q13:(j<x10.ctors.length):=auq h12
   have z14:((j:Int)<(x10.ctors.length:Int)):=auz
   rw[if_pos q13]at hF
   repeat(first|refine chk.ga ?_|simp -dsimp[↓e11,h12,z14])
   refine abr.split (fun h15=> ?_) (fun h15=> ?_)
   ·have q16:¬((i:Int)<d):=auq h15
    rw[if_neg q16]at hF
    repeat(first|refine chk.ga ?_|simp -dsimp[↓e11,h12,z14,h15,q16])
    refine abr.split (fun h17=> ?_) (fun h17=> ?_)
    ·have q18:((j:Int)<k):=auq h17
     rw[if_pos q18]at hF
     repeat(first|refine chk.ga ?_|simp -dsimp[↓e11,h12,z14,h15,q16,h17])
     refine ADraw.simple follows (by kernel_rfl) (by kernel_rfl) ?_
     have hF:=ob hF;obtain⟨x19,e20a,hF⟩:=hF
     have e20a:=at_some e20a;obtain⟨ne20,e20⟩:=e20a
     have le20:=lt_of_get e20
     repeat(first|refine chk.ga ?_|simp -dsimp[↓e11,h12,z14,h15,q16,h17,↓e20])
     refine abr.split (fun h21=> ?_) (fun h21=> ?_)
     ·have q22:(k<(x19.ctors.length:Int)):=auq h21
      rw[if_pos q22]at hF
      have hF:=ob hF;obtain⟨x23,e24,hF⟩:=hF
      have le24:=lt_of_get e24
      have hF:=ob hF;obtain⟨x25,e26a,hF⟩:=hF
      have e26a:=at_some e26a;obtain⟨ne26,e26⟩:=e26a
      have le26:=lt_of_get e26
      repeat(first|refine chk.ga ?_|simp -dsimp[↓e11,h12,z14,h15,q16,h17,↓e20,h21,↓e24,↓e26])
      refine abr.split (fun h27=> ?_) (fun h27=> ?_)
      ·have q28:(x23.name.toList=x25.name.toList):=auq h27
       rw[if_pos q28]at hF
       cases hF
       repeat(first|refine chk.ga ?_|simp -dsimp[↓e11,h12,z14,h15,q16,h17,↓e20,h21,↓e24,↓e26,h27])
       refine Leave.go _ (Gh.refl _) (hq _ ?_)
       repeat(first|refine chk.ga ?_|simp -dsimp[↓e11,h12,z14,h15,q16,h17,↓e20,h21,↓e24,↓e26,h27])
      ·have q28:¬(x23.name.toList=x25.name.toList):=auq h27
       rw[if_neg q28]at hF
       have hF:=oc hF;obtain⟨c29,hF⟩:=hF
       have w30:IntKind.i64.wrap ((j:Int)+1)=(j:Int)+1:=wrap_in (by omega) (by omega)
       repeat(first|refine chk.ga ?_|simp -dsimp[↓e11,h12,z14,h15,q16,h17,↓e20,h21,↓e24,↓e26,h27,q28,w30])
       refine Again.go _ ?_ ((ih_f18 (j+1) o hF) _ rfl _ hq)
       exact(Gh.to3 (by simp) (by first|simp -dsimp[↓e11,h12,z14,h15,q16,h17,↓e20,h21,↓e24,↓e26,h27,q28,w30];done|simp_all))
     ·have q22:¬(k<(x19.ctors.length:Int)):=auq h21
      rw[if_neg q22]at hF
      have hF:=oc hF;obtain⟨c31,hF⟩:=hF
      have w32:IntKind.i64.wrap ((j:Int)+1)=(j:Int)+1:=wrap_in (by omega) (by omega)
      repeat(first|refine chk.ga ?_|simp -dsimp[↓e11,h12,z14,h15,q16,h17,↓e20,h21,q22,w32])
      refine Again.go _ ?_ ((ih_f18 (j+1) o hF) _ rfl _ hq)
      exact(Gh.to3 (by simp) (by first|simp -dsimp[↓e11,h12,z14,h15,q16,h17,↓e20,h21,q22,w32];done|simp_all))
    ·have q18:¬((j:Int)<k):=auq h17
     rw[if_neg q18]at hF
     cases hF
     repeat(first|refine chk.ga ?_|simp -dsimp[↓e11,h12,z14,h15,q16,h17,q18])
     refine Leave.go ⟨[(0,.arr (List.map Vl.Data.c w)),(1,.lit (.int .i64 d)),(2,.lit (.int .i64 k)),(7,.lit (.int .i64 (i:Int)))],[]⟩ (Gh.to3 (by simp) (by first|simp -dsimp[↓e11,h12,z14,h15,q16,h17,q18];done|simp_all)) ?_
     exact hq
   ·have q16:((i:Int)<d):=auq h15
    rw[if_pos q16]at hF
    repeat(first|refine chk.ga ?_|simp -dsimp[↓e11,h12,z14,h15,q16])
    refine ADraw.simple follows (by kernel_rfl) (by kernel_rfl) ?_
    have hF:=ob hF;obtain⟨x33,e34a,hF⟩:=hF
    have e34a:=at_some e34a;obtain⟨ne34,e34⟩:=e34a
    have le34:=lt_of_get e34
    repeat(first|refine chk.ga ?_|simp -dsimp[↓e11,h12,z14,h15,q16,↓e34])
    refine abr.split (fun h35=> ?_) (fun h35=> ?_)
    ·have q36:(k<(x33.ctors.length:Int)):=auq h35
     rw[if_pos q36]at hF
     have hF:=ob hF;obtain⟨x37,e38,hF⟩:=hF
     have le38:=lt_of_get e38
     have hF:=ob hF;obtain⟨x39,e40a,hF⟩:=hF
     have e40a:=at_some e40a;obtain⟨ne40,e40⟩:=e40a
     have le40:=lt_of_get e40
     repeat(first|refine chk.ga ?_|simp -dsimp[↓e11,h12,z14,h15,q16,↓e34,h35,↓e38,↓e40])
     refine abr.split (fun h41=> ?_) (fun h41=> ?_)
     ·have q42:(x37.name.toList=x39.name.toList):=auq h41
      rw[if_pos q42]at hF
      cases hF
      repeat(first|refine chk.ga ?_|simp -dsimp[↓e11,h12,z14,h15,q16,↓e34,h35,↓e38,↓e40,h41])
      refine Leave.go _ (Gh.refl _) (hq _ ?_)
      repeat(first|refine chk.ga ?_|simp -dsimp[↓e11,h12,z14,h15,q16,↓e34,h35,↓e38,↓e40,h41])
     ·have q42:¬(x37.name.toList=x39.name.toList):=auq h41
      rw[if_neg q42]at hF
      have hF:=oc hF;obtain⟨c43,hF⟩:=hF
      have w44:IntKind.i64.wrap ((j:Int)+1)=(j:Int)+1:=wrap_in (by omega) (by omega)
      repeat(first|refine chk.ga ?_|simp -dsimp[↓e11,h12,z14,h15,q16,↓e34,h35,↓e38,↓e40,h41,q42,w44])
      refine Again.go _ ?_ ((ih_f18 (j+1) o hF) _ rfl _ hq)
      exact(Gh.to3 (by simp) (by first|simp -dsimp[↓e11,h12,z14,h15,q16,↓e34,h35,↓e38,↓e40,h41,q42,w44];done|simp_all))
    ·have q36:¬(k<(x33.ctors.length:Int)):=auq h35
     rw[if_neg q36]at hF
     have hF:=oc hF;obtain⟨c45,hF⟩:=hF
     have w46:IntKind.i64.wrap ((j:Int)+1)=(j:Int)+1:=wrap_in (by omega) (by omega)
     repeat(first|refine chk.ga ?_|simp -dsimp[↓e11,h12,z14,h15,q16,↓e34,h35,q36,w46])
     refine Again.go _ ?_ ((ih_f18 (j+1) o hF) _ rfl _ hq)
     exact(Gh.to3 (by simp) (by first|simp -dsimp[↓e11,h12,z14,h15,q16,↓e34,h35,q36,w46];done|simp_all))
  ·have q13:¬(j<x10.ctors.length):=auq h12
   have z14:¬((j:Int)<(x10.ctors.length:Int)):=auz
   rw[if_neg q13]at hF
   cases hF
   repeat(first|refine chk.ga ?_|simp -dsimp[↓e11,h12,q13,z14])
   refine Leave.go ⟨[(0,.arr (List.map Vl.Data.c w)),(1,.lit (.int .i64 d)),(2,.lit (.int .i64 k)),(7,.lit (.int .i64 (i:Int)))],[]⟩ (Gh.to3 (by simp) (by first|simp -dsimp[↓e11,h12,q13,z14];done|simp_all)) ?_
   exact hq
theorem CC.f19 (w:List Vl.Data)(d:Int)(k:Int)(i:Nat):(∀(j50:Nat) (o:Lo Bool Unit),F.f19 w d k i j50=some o→∀(c:Code),navO [1,0,1,0,0,1,0,0,1,1,0,0] (bodyOf Tryz.f94)=some c→∀(Q:Exit→ASt→Prop),o.post (fun r=>∀st,Post Tryz.prog Tryz.f94 (fun r' _=>r'.le (.lit (.bool r))) .ret st→Q .ret st) (fun s=>Q (.exit 2) ⟨[(0,.arr (List.map Vl.Data.c w)),(1,.lit (.int .i64 d)),(2,.lit (.int .i64 k)),(7,.lit (.int .i64 (i:Int)))],[]⟩)→ALoopU Tryz.prog B 0 79 (hold c .mk) ⟨[(0,.arr (List.map Vl.Data.c w)),(1,.lit (.int .i64 d)),(2,.lit (.int .i64 k)),(7,.lit (.int .i64 (i:Int))),(8,.lit (.int .i64 (j50:Int)))],[]⟩ (hold Q .mk)):=by
 refine F.f19.partial_correctness w d k i
  _
  ?_
 ·intro _f_f19 ih_f19 j50 o hF
  intro c hc Q hq
  obtain rfl:c=_:=navEq hc rfl
  refine ALoopU.know fun hk hs=> ?_
  have b0:=hk 0
  simp -dsimp at b0
  clear hk hs
  refine ALoopU.enter ?_
  have hF:=ob hF;obtain⟨x51,e52,hF⟩:=hF
  have le52:=lt_of_get e52
  repeat(first|refine chk.ga ?_|simp -dsimp[↓e52])
  refine abr.split (fun h53=> ?_) (fun h53=> ?_)
  ·have q54:(j50<x51.ctors.length):=auq h53
   have z55:((j50:Int)<(x51.ctors.length:Int)):=auz
   rw[if_pos q54]at hF
   repeat(first|refine chk.ga ?_|simp -dsimp[↓e52,h53,z55])
   refine abr.split (fun h56=> ?_) (fun h56=> ?_)
   ·have q57:¬((i:Int)<d):=auq h56
    rw[if_neg q57]at hF
    repeat(first|refine chk.ga ?_|simp -dsimp[↓e52,h53,z55,h56,q57])
    refine abr.split (fun h58=> ?_) (fun h58=> ?_)
    ·have q59:((j50:Int)<k):=auq h58
     rw[if_pos q59]at hF
     repeat(first|refine chk.ga ?_|simp -dsimp[↓e52,h53,z55,h56,q57,h58])
     refine ADraw.simple follows (by kernel_rfl) (by kernel_rfl) ?_
     have hF:=ob hF;obtain⟨x60,e61a,hF⟩:=hF
     have e61a:=at_some e61a;obtain⟨ne61,e61⟩:=e61a
     have le61:=lt_of_get e61
     repeat(first|refine chk.ga ?_|simp -dsimp[↓e52,h53,z55,h56,q57,h58,↓e61])
     refine abr.split (fun h62=> ?_) (fun h62=> ?_)
     ·have q63:(k<(x60.ctors.length:Int)):=auq h62
      rw[if_pos q63]at hF
      have hF:=ob hF;obtain⟨x64,e65,hF⟩:=hF
      have le65:=lt_of_get e65
      have hF:=ob hF;obtain⟨x66,e67a,hF⟩:=hF
      have e67a:=at_some e67a;obtain⟨ne67,e67⟩:=e67a
      have le67:=lt_of_get e67
      repeat(first|refine chk.ga ?_|simp -dsimp[↓e52,h53,z55,h56,q57,h58,↓e61,h62,↓e65,↓e67])
      refine abr.split (fun h68=> ?_) (fun h68=> ?_)
      ·have q69:(x64.name.toList=x66.name.toList):=auq h68
       rw[if_pos q69]at hF
       cases hF
       repeat(first|refine chk.ga ?_|simp -dsimp[↓e52,h53,z55,h56,q57,h58,↓e61,h62,↓e65,↓e67,h68])
       refine Leave.go _ (Gh.refl _) (hq _ ?_)
       repeat(first|refine chk.ga ?_|simp -dsimp[↓e52,h53,z55,h56,q57,h58,↓e61,h62,↓e65,↓e67,h68])
      ·have q69:¬(x64.name.toList=x66.name.toList):=auq h68
       rw[if_neg q69]at hF
       have hF:=oc hF;obtain⟨c70,hF⟩:=hF
       have w71:IntKind.i64.wrap ((j50:Int)+1)=(j50:Int)+1:=wrap_in (by omega) (by omega)
       repeat(first|refine chk.ga ?_|simp -dsimp[↓e52,h53,z55,h56,q57,h58,↓e61,h62,↓e65,↓e67,h68,q69,w71])
       refine Again.go _ ?_ ((ih_f19 (j50+1) o hF) _ rfl _ hq)
       exact(Gh.to3 (by simp) (by first|simp -dsimp[↓e52,h53,z55,h56,q57,h58,↓e61,h62,↓e65,↓e67,h68,q69,w71];done|simp_all))
     ·have q63:¬(k<(x60.ctors.length:Int)):=auq h62
      rw[if_neg q63]at hF
      have hF:=oc hF;obtain⟨c72,hF⟩:=hF
      have w73:IntKind.i64.wrap ((j50:Int)+1)=(j50:Int)+1:=wrap_in (by omega) (by omega)
      repeat(first|refine chk.ga ?_|simp -dsimp[↓e52,h53,z55,h56,q57,h58,↓e61,h62,q63,w73])
      refine Again.go _ ?_ ((ih_f19 (j50+1) o hF) _ rfl _ hq)
      exact(Gh.to3 (by simp) (by first|simp -dsimp[↓e52,h53,z55,h56,q57,h58,↓e61,h62,q63,w73];done|simp_all))
    ·have q59:¬((j50:Int)<k):=auq h58
     rw[if_neg q59]at hF
     cases hF
     repeat(first|refine chk.ga ?_|simp -dsimp[↓e52,h53,z55,h56,q57,h58,q59])
     refine Leave.go ⟨[(0,.arr (List.map Vl.Data.c w)),(1,.lit (.int .i64 d)),(2,.lit (.int .i64 k)),(7,.lit (.int .i64 (i:Int)))],[]⟩ (Gh.to3 (by simp) (by first|simp -dsimp[↓e52,h53,z55,h56,q57,h58,q59];done|simp_all)) ?_
     exact hq
   ·have q57:((i:Int)<d):=auq h56
    rw[if_pos q57]at hF
    repeat(first|refine chk.ga ?_|simp -dsimp[↓e52,h53,z55,h56,q57])
    refine ADraw.simple follows (by kernel_rfl) (by kernel_rfl) ?_
    have hF:=ob hF;obtain⟨x74,e75a,hF⟩:=hF
    have e75a:=at_some e75a;obtain⟨ne75,e75⟩:=e75a
    have le75:=lt_of_get e75
    repeat(first|refine chk.ga ?_|simp -dsimp[↓e52,h53,z55,h56,q57,↓e75])
    refine abr.split (fun h76=> ?_) (fun h76=> ?_)
    ·have q77:(k<(x74.ctors.length:Int)):=auq h76
     rw[if_pos q77]at hF
     have hF:=ob hF;obtain⟨x78,e79,hF⟩:=hF
     have le79:=lt_of_get e79
     have hF:=ob hF;obtain⟨x80,e81a,hF⟩:=hF
     have e81a:=at_some e81a;obtain⟨ne81,e81⟩:=e81a
     have le81:=lt_of_get e81
     repeat(first|refine chk.ga ?_|simp -dsimp[↓e52,h53,z55,h56,q57,↓e75,h76,↓e79,↓e81])
     refine abr.split (fun h82=> ?_) (fun h82=> ?_)
     ·have q83:(x78.name.toList=x80.name.toList):=auq h82
      rw[if_pos q83]at hF
      cases hF
      repeat(first|refine chk.ga ?_|simp -dsimp[↓e52,h53,z55,h56,q57,↓e75,h76,↓e79,↓e81,h82])
      refine Leave.go _ (Gh.refl _) (hq _ ?_)
      repeat(first|refine chk.ga ?_|simp -dsimp[↓e52,h53,z55,h56,q57,↓e75,h76,↓e79,↓e81,h82])
     ·have q83:¬(x78.name.toList=x80.name.toList):=auq h82
      rw[if_neg q83]at hF
      have hF:=oc hF;obtain⟨c84,hF⟩:=hF
      have w85:IntKind.i64.wrap ((j50:Int)+1)=(j50:Int)+1:=wrap_in (by omega) (by omega)
      repeat(first|refine chk.ga ?_|simp -dsimp[↓e52,h53,z55,h56,q57,↓e75,h76,↓e79,↓e81,h82,q83,w85])
      refine Again.go _ ?_ ((ih_f19 (j50+1) o hF) _ rfl _ hq)
      exact(Gh.to3 (by simp) (by first|simp -dsimp[↓e52,h53,z55,h56,q57,↓e75,h76,↓e79,↓e81,h82,q83,w85];done|simp_all))
    ·have q77:¬(k<(x74.ctors.length:Int)):=auq h76
     rw[if_neg q77]at hF
     have hF:=oc hF;obtain⟨c86,hF⟩:=hF
     have w87:IntKind.i64.wrap ((j50:Int)+1)=(j50:Int)+1:=wrap_in (by omega) (by omega)
     repeat(first|refine chk.ga ?_|simp -dsimp[↓e52,h53,z55,h56,q57,↓e75,h76,q77,w87])
     refine Again.go _ ?_ ((ih_f19 (j50+1) o hF) _ rfl _ hq)
     exact(Gh.to3 (by simp) (by first|simp -dsimp[↓e52,h53,z55,h56,q57,↓e75,h76,q77,w87];done|simp_all))
  ·have q54:¬(j50<x51.ctors.length):=auq h53
   have z55:¬((j50:Int)<(x51.ctors.length:Int)):=auz
   rw[if_neg q54]at hF
   cases hF
   repeat(first|refine chk.ga ?_|simp -dsimp[↓e52,h53,q54,z55])
   refine Leave.go ⟨[(0,.arr (List.map Vl.Data.c w)),(1,.lit (.int .i64 d)),(2,.lit (.int .i64 k)),(7,.lit (.int .i64 (i:Int)))],[]⟩ (Gh.to3 (by simp) (by first|simp -dsimp[↓e52,h53,q54,z55];done|simp_all)) ?_
   exact hq
theorem CC.f20 (w:List Vl.Data)(d:Int)(k:Int):(∀(i:Nat) (o:Lo Bool Unit),F.f20 w d k i=some o→∀(c:Code),navO [1,0,1,0,0] (bodyOf Tryz.f94)=some c→∀(Q:Exit→ASt→Prop),o.post (fun r=>∀st,Post Tryz.prog Tryz.f94 (fun r' _=>r'.le (.lit (.bool r))) .ret st→Q .ret st) (fun s=>Q (.exit 0) ⟨[],[]⟩)→ALoopU Tryz.prog B 0 79 (hold c .mk) ⟨[(0,.arr (List.map Vl.Data.c w)),(1,.lit (.int .i64 d)),(2,.lit (.int .i64 k)),(7,.lit (.int .i64 (i:Int)))],[]⟩ (hold Q .mk)):=by
 refine F.f20.partial_correctness w d k
  _
  ?_
 ·intro _f_f20 ih_f20 i o hF
  intro c hc Q hq
  obtain rfl:c=_:=navEq hc rfl
  refine ALoopU.know fun hk hs=> ?_
  have b0:=hk 0
  simp -dsimp at b0
  clear hk hs
  refine ALoopU.enter ?_
  repeat(first|refine chk.ga ?_|simp -dsimp)
  refine abr.split (fun h1=> ?_) (fun h1=> ?_)
  ·have q2:((i:Int)≤d):=auq h1
   rw[if_pos q2]at hF
   repeat(first|refine chk.ga ?_|simp -dsimp[h1])
   refine ADraw.simple follows (by kernel_rfl) (by kernel_rfl) ?_
   repeat(first|refine chk.ga ?_|simp -dsimp[h1])
   refine abr.split (fun h3=> ?_) (fun h3=> ?_)
   ·have q4:((i:Int)<d):=auq h3
    rw[if_pos q4]at hF
    have hF:=ob hF;obtain⟨x,e5,hF⟩:=hF
    have le5:=lt_of_get e5
    have hF:=ob hF;obtain⟨x6,e7a,hF⟩:=hF
    have e7a:=at_some e7a;obtain⟨ne7,e7⟩:=e7a
    have le7:=lt_of_get e7
    repeat(first|refine chk.ga ?_|simp -dsimp[h1,h3,↓e5,↓e7])
    refine abr.split (fun h8=> ?_) (fun h8=> ?_)
    ·have q9:(x.name.toList=x6.name.toList):=auq h8
     rw[if_pos q9]at hF
     cases hF
     repeat(first|refine chk.ga ?_|simp -dsimp[h1,h3,↓e5,↓e7,h8])
     refine Leave.go _ (Gh.refl _) (hq _ ?_)
     repeat(first|refine chk.ga ?_|simp -dsimp[h1,h3,↓e5,↓e7,h8])
    ·have q9:¬(x.name.toList=x6.name.toList):=auq h8
     rw[if_neg q9]at hF
     repeat(first|refine chk.ga ?_|simp -dsimp[h1,h3,↓e5,↓e7,h8,q9])
     have hF:=ob hF;obtain⟨o',ho47,hF⟩:=hF
     refine ALoop.goU _ ?_ (((CC.f18 B hB1 hB2 w d k i) 0 o' ho47) _ rfl _ ?_)
     ·exact(Gh.to3 (by simp) (by first|simp -dsimp[h1,h3,↓e5,↓e7,h8,q9];done|simp_all))
     rcases o' with r0|sx
     ·dsimp only at hF
      cases hF
      intro st h
      simp -dsimp
      refine Leave.go st (Gh.refl _) (hq st h)
     ·dsimp only at hF
      have hF:=oc hF;obtain⟨c48,hF⟩:=hF
      have w49:IntKind.i64.wrap ((i:Int)+1)=(i:Int)+1:=wrap_in (by omega) (by omega)
      repeat(first|refine chk.ga ?_|simp -dsimp[w49])
      refine Again.go _ ?_ ((ih_f20 (i+1) o hF) _ rfl _ hq)
      exact(Gh.to3 (by simp) (by first|simp -dsimp[w49];done|simp_all))
   ·have q4:¬((i:Int)<d):=auq h3
    rw[if_neg q4]at hF
    repeat(first|refine chk.ga ?_|simp -dsimp[h1,h3,q4])
    have hF:=ob hF;obtain⟨o'89,ho88,hF⟩:=hF
    refine ALoop.goU _ ?_ (((CC.f19 B hB1 hB2 w d k i) 0 o'89 ho88) _ rfl _ ?_)
    ·exact(Gh.to3 (by simp) (by first|simp -dsimp[h1,h3,q4];done|simp_all))
    rcases o'89 with r093|sx90
    ·dsimp only at hF
     cases hF
     intro st h
     simp -dsimp
     refine Leave.go st (Gh.refl _) (hq st h)
    ·dsimp only at hF
     have hF:=oc hF;obtain⟨c91,hF⟩:=hF
     have w92:IntKind.i64.wrap ((i:Int)+1)=(i:Int)+1:=wrap_in (by omega) (by omega)
     repeat(first|refine chk.ga ?_|simp -dsimp[w92])
     refine Again.go _ ?_ ((ih_f20 (i+1) o hF) _ rfl _ hq)
     exact(Gh.to3 (by simp) (by first|simp -dsimp[w92];done|simp_all))
  ·have q2:¬((i:Int)≤d):=auq h1
   rw[if_neg q2]at hF
   cases hF
   repeat(first|refine chk.ga ?_|simp -dsimp[h1,q2])
   refine Leave.go ⟨[],[]⟩ (Gh.to3 (by simp) (by first|simp -dsimp[h1,q2];done|simp_all)) ?_
   exact hq
theorem C.f21 (w:List Vl.Data)(d:Int)(k:Int)(r:Bool)(hF:F.f21 w d k=some r):PureCall Tryz.prog B 94 [.arr (List.map Vl.Data.c w),.lit (.int .i64 d),.lit (.int .i64 k)] (.lit (.bool r)):=by
 unfold F.f21 at hF
 refine PureCall.enterLe Tryz.func94 (by kernel_rfl) rfl Tryz.ntmps94 (by simp) (by simp) ?_
 repeat(first|refine chk.ga ?_|simp -dsimp)
 have hF:=ob hF;obtain⟨o'95,ho94,hF⟩:=hF
 refine ALoop.goU _ ?_ (((CC.f20 B hB1 hB2 w d k) 0 o'95 ho94) _ rfl _ ?_)
 ·exact(Gh.to3 (by simp) (by simp -dsimp))
 rcases o'95 with r097|sx96
 ·dsimp only at hF
  cases hF
  intro st h
  simpa using h
 ·dsimp only at hF
  cases hF
  repeat(first|refine chk.ga ?_|simp -dsimp)
  all_goals(try first|omega|rfl)
theorem CC.f22 (w:List Vl.Data)(d:Nat):(∀(k:Nat) (o:Lo Bool Unit),F.f22 w d k=some o→∀(c:Code),navO [1,1,0,1,0,0,1,0,0,1,1,0,0] (bodyOf Tryz.f70)=some c→∀(Q:Exit→ASt→Prop),o.post (fun r=>∀st,Post Tryz.prog Tryz.f70 (fun r' _=>r'.le (.lit (.bool r))) .ret st→Q .ret st) (fun s=>Q (.exit 2) ⟨[(0,.arr (List.map Vl.Data.c w)),(3,.lit (.int .i64 (d:Int)))],[]⟩)→ALoopU Tryz.prog B 0 67 (hold c .mk) ⟨[(0,.arr (List.map Vl.Data.c w)),(3,.lit (.int .i64 (d:Int))),(4,.lit (.int .i64 (k:Int)))],[]⟩ (hold Q .mk)):=by
 refine F.f22.partial_correctness w d
  _
  ?_
 ·intro _f_f22 ih_f22 k o hF
  intro c hc Q hq
  obtain rfl:c=_:=navEq hc rfl
  refine ALoopU.know fun hk hs=> ?_
  have b0:=hk 0
  simp -dsimp at b0
  clear hk hs
  refine ALoopU.enter ?_
  have hF:=ob hF;obtain⟨x17,e18,hF⟩:=hF
  have le18:=lt_of_get e18
  repeat(first|refine chk.ga ?_|simp -dsimp[↓e18])
  refine abr.split (fun h19=> ?_) (fun h19=> ?_)
  ·have q20:(k<x17.ctors.length):=auq h19
   have z21:((k:Int)<(x17.ctors.length:Int)):=auz
   rw[if_pos q20]at hF
   have hF:=ob hF;obtain⟨x22,e23,hF⟩:=hF
   have le23:=lt_of_get e23
   repeat(first|refine chk.ga ?_|simp -dsimp[↓e18,h19,z21,↓e23])
   have hF:=ob hF;obtain⟨v24,e25,hF⟩:=hF
   refine((C.f17 B hB1 hB2 (w.length:Int) x22 v24 e25)).goW (by first|simp[↓e18,h19,z21,↓e23];done|simp_all) (by simp) ?_
   repeat(first|refine chk.ga ?_|simp -dsimp[↓e18,h19,z21,↓e23])
   refine abr.split (fun h26=> ?_) (fun h26=> ?_)
   ·have q27:(v24=true):=auq h26
    rw[if_pos q27]at hF
    repeat(first|refine chk.ga ?_|simp -dsimp[↓e18,h19,z21,↓e23,h26])
    have hF:=ob hF;obtain⟨v28,e29,hF⟩:=hF
    refine((C.f21 B hB1 hB2 w (d:Int) (k:Int) v28 e29)).goW (by first|simp[↓e18,h19,z21,↓e23,h26];done|simp_all) (by simp) ?_
    repeat(first|refine chk.ga ?_|simp -dsimp[↓e18,h19,z21,↓e23,h26])
    refine abr.split (fun h30=> ?_) (fun h30=> ?_)
    ·have q31:(v28=true):=auq h30
     rw[if_pos q31]at hF
     cases hF
     repeat(first|refine chk.ga ?_|simp -dsimp[↓e18,h19,z21,↓e23,h26,h30])
     refine Leave.go _ (Gh.refl _) (hq _ ?_)
     repeat(first|refine chk.ga ?_|simp -dsimp[↓e18,h19,z21,↓e23,h26,h30])
    ·have q31:¬(v28=true):=auq h30
     rw[if_neg q31]at hF
     have hF:=oc hF;obtain⟨c32,hF⟩:=hF
     have w33:IntKind.i64.wrap ((k:Int)+1)=(k:Int)+1:=wrap_in (by omega) (by omega)
     repeat(first|refine chk.ga ?_|simp -dsimp[↓e18,h19,z21,↓e23,h26,h30,q31,w33])
     refine Again.go _ ?_ ((ih_f22 (k+1) o hF) _ rfl _ hq)
     exact(Gh.to3 (by simp) (by first|simp -dsimp[↓e18,h19,z21,↓e23,h26,h30,q31,w33];done|simp_all))
   ·have q27:¬(v24=true):=auq h26
    rw[if_neg q27]at hF
    cases hF
    repeat(first|refine chk.ga ?_|simp -dsimp[↓e18,h19,z21,↓e23,h26,q27])
    refine Leave.go _ (Gh.refl _) (hq _ ?_)
    repeat(first|refine chk.ga ?_|simp -dsimp[↓e18,h19,z21,↓e23,h26,q27])
  ·have q20:¬(k<x17.ctors.length):=auq h19
   have z21:¬((k:Int)<(x17.ctors.length:Int)):=auz
   rw[if_neg q20]at hF
   cases hF
   repeat(first|refine chk.ga ?_|simp -dsimp[↓e18,h19,q20,z21])
   refine Leave.go ⟨[(0,.arr (List.map Vl.Data.c w)),(3,.lit (.int .i64 (d:Int)))],[]⟩ (Gh.to3 (by simp) (by first|simp -dsimp[↓e18,h19,q20,z21];done|simp_all)) ?_
   exact hq
theorem CC.f23 (w:List Vl.Data):(∀(d:Nat) (o:Lo Bool Unit),F.f23 w d=some o→∀(c:Code),navO [1,1,0,1,0,0] (bodyOf Tryz.f70)=some c→∀(Q:Exit→ASt→Prop),o.post (fun r=>∀st,Post Tryz.prog Tryz.f70 (fun r' _=>r'.le (.lit (.bool r))) .ret st→Q .ret st) (fun s=>Q (.exit 0) ⟨[],[]⟩)→ALoopU Tryz.prog B 0 67 (hold c .mk) ⟨[(0,.arr (List.map Vl.Data.c w)),(3,.lit (.int .i64 (d:Int)))],[]⟩ (hold Q .mk)):=by
 refine F.f23.partial_correctness w
  _
  ?_
 ·intro _f_f23 ih_f23 d o hF
  intro c hc Q hq
  obtain rfl:c=_:=navEq hc rfl
  refine ALoopU.know fun hk hs=> ?_
  have b0:=hk 0
  simp -dsimp at b0
  clear hk hs
  refine ALoopU.enter ?_
  repeat(first|refine chk.ga ?_|simp -dsimp)
  refine abr.split (fun h4=> ?_) (fun h4=> ?_)
  ·have q5:(d<w.length):=auq h4
   have z6:((d:Int)<(w.length:Int)):=auz
   rw[if_pos q5]at hF
   have hF:=ob hF;obtain⟨x,e7,hF⟩:=hF
   have le7:=lt_of_get e7
   repeat(first|refine chk.ga ?_|simp -dsimp[h4,z6,↓e7])
   have hF:=ob hF;obtain⟨v,e8,hF⟩:=hF
   refine((C.f12 B hB1 hB2 x.name v e8)).goW (by first|simp[h4,z6,↓e7];done|simp_all) (by simp) ?_
   repeat(first|refine chk.ga ?_|simp -dsimp[h4,z6,↓e7])
   refine abr.split (fun h9=> ?_) (fun h9=> ?_)
   ·have q10:(v=true):=auq h9
    rw[if_pos q10]at hF
    repeat(first|refine chk.ga ?_|simp -dsimp[h4,z6,↓e7,h9])
    refine abr.split (fun h11=> ?_) (fun h11=> ?_)
    ·have q12:¬(x.ctors.length=0):=auq h11
     have z13:¬((x.ctors.length:Int)=(0:Int)):=auz
     rw[if_neg q12]at hF
     repeat(first|refine chk.ga ?_|simp -dsimp[h4,z6,↓e7,h9,h11,q12,z13])
     refine abr.split (fun h14=> ?_) (fun h14=> ?_)
     ·have q15:(4<x.ctors.length):=auq h14
      have z16:((4:Int)<(x.ctors.length:Int)):=auz
      rw[if_pos q15]at hF
      cases hF
      repeat(first|refine chk.ga ?_|simp -dsimp[h4,z6,↓e7,h9,h11,q12,z13,h14,z16])
      refine Leave.go _ (Gh.refl _) (hq _ ?_)
      repeat(first|refine chk.ga ?_|simp -dsimp[h4,z6,↓e7,h9,h11,q12,z13,h14,z16])
     ·have q15:¬(4<x.ctors.length):=auq h14
      have z16:¬((4:Int)<(x.ctors.length:Int)):=auz
      rw[if_neg q15]at hF
      repeat(first|refine chk.ga ?_|simp -dsimp[h4,z6,↓e7,h9,h11,q12,z13,h14,q15,z16])
      have hF:=ob hF;obtain⟨o',ho34,hF⟩:=hF
      refine ALoop.goU _ ?_ (((CC.f22 B hB1 hB2 w d) 0 o' ho34) _ rfl _ ?_)
      ·exact(Gh.to3 (by simp) (by first|simp -dsimp[h4,z6,↓e7,h9,h11,q12,z13,h14,q15,z16];done|simp_all))
      rcases o' with r0|sx
      ·dsimp only at hF
       cases hF
       intro st h
       simp -dsimp
       refine Leave.go st (Gh.refl _) (hq st h)
      ·dsimp only at hF
       have hF:=oc hF;obtain⟨c35,hF⟩:=hF
       have w36:IntKind.i64.wrap ((d:Int)+1)=(d:Int)+1:=wrap_in (by omega) (by omega)
       repeat(first|refine chk.ga ?_|simp -dsimp[w36])
       refine Again.go _ ?_ ((ih_f23 (d+1) o hF) _ rfl _ hq)
       exact(Gh.to3 (by simp) (by first|simp -dsimp[w36];done|simp_all))
    ·have q12:(x.ctors.length=0):=auq h11
     have z13:((x.ctors.length:Int)=(0:Int)):=auz
     rw[if_pos q12]at hF
     cases hF
     repeat(first|refine chk.ga ?_|simp -dsimp[h4,z6,↓e7,h9,h11,q12,z13])
     refine Leave.go _ (Gh.refl _) (hq _ ?_)
     repeat(first|refine chk.ga ?_|simp -dsimp[h4,z6,↓e7,h9,h11,q12,z13])
   ·have q10:¬(v=true):=auq h9
    rw[if_neg q10]at hF
    cases hF
    repeat(first|refine chk.ga ?_|simp -dsimp[h4,z6,↓e7,h9,q10])
    refine Leave.go _ (Gh.refl _) (hq _ ?_)
    repeat(first|refine chk.ga ?_|simp -dsimp[h4,z6,↓e7,h9,q10])
  ·have q5:¬(d<w.length):=auq h4
   have z6:¬((d:Int)<(w.length:Int)):=auz
   rw[if_neg q5]at hF
   cases hF
   repeat(first|refine chk.ga ?_|simp -dsimp[h4,q5,z6])
   refine Leave.go ⟨[],[]⟩ (Gh.to3 (by simp) (by first|simp -dsimp[h4,q5,z6];done|simp_all)) ?_
   exact hq
theorem C.f24 (w:List Vl.Data)(r:Bool)(hF:F.f24 w=some r):PureCall Tryz.prog B 70 [.arr (List.map Vl.Data.c w)] (.lit (.bool r)):=by
 unfold F.f24 at hF
 refine PureCall.enterLe Tryz.func70 (by kernel_rfl) rfl Tryz.ntmps70 (by simp) (by simp) ?_
 repeat(first|refine chk.ga ?_|simp -dsimp)
 refine abr.split (fun h1=> ?_) (fun h1=> ?_)
 ·have q2:(4<w.length):=auq h1
  have z3:((4:Int)<(w.length:Int)):=auz
  rw[if_pos q2]at hF
  cases hF
  repeat(first|refine chk.ga ?_|simp -dsimp[h1,z3])
  all_goals(try first|omega|rfl)
 ·have q2:¬(4<w.length):=auq h1
  have z3:¬((4:Int)<(w.length:Int)):=auz
  rw[if_neg q2]at hF
  repeat(first|refine chk.ga ?_|simp -dsimp[h1,q2,z3])
  have hF:=ob hF;obtain⟨o'38,ho37,hF⟩:=hF
  refine ALoop.goU _ ?_ (((CC.f23 B hB1 hB2 w) 0 o'38 ho37) _ rfl _ ?_)
  ·exact(Gh.to3 (by simp) (by first|simp -dsimp[h1,q2,z3];done|simp_all))
  rcases o'38 with r040|sx39
  ·dsimp only at hF
   cases hF
   intro st h
   simpa using h
  ·dsimp only at hF
   cases hF
   repeat(first|refine chk.ga ?_|simp -dsimp)
   all_goals(try first|omega|rfl)
theorem CC.f25  :(∀(n7:Int) (out:ByteArray) (o:Int×ByteArray),F.f25 n7 out=some o→∀(c:Code),navO [1,1,1,1,0,0,0] (bodyOf Tryz.f127)=some c→∀(Q:Exit→ASt→Prop),(Q (.exit 0) ⟨[(0,.lit (.int .i64 o.1)),(3,.lit (.string o.2))],[]⟩)→ALoopU Tryz.prog B 0 31 (hold c .mk) ⟨[(0,.lit (.int .i64 n7)),(3,.lit (.string out))],[]⟩ (hold Q .mk)):=by
 refine F.f25.partial_correctness 
  _
  ?_
 ·intro _f_f25 ih_f25 n7 out o hF
  intro c hc Q hq
  obtain rfl:c=_:=navEq hc rfl
  refine ALoopU.know fun hk hs=> ?_
  clear hk hs
  refine ALoopU.enter ?_
  repeat(first|refine chk.ga ?_|simp -dsimp)
  refine abr.split (fun h8=> ?_) (fun h8=> ?_)
  ·have q9:(9<n7):=auq h8
   rw[if_pos q9]at hF
   have hF:=oc hF;obtain⟨c10,hF⟩:=hF
   repeat(first|refine chk.ga ?_|simp -dsimp[h8])
   refine Again.go _ ?_ ((ih_f25 (IntKind.i64.wrap (n7.tdiv 10)) ((strB [IntKind.u8.wrap (IntKind.i64.wrap (48+n7.tmod 10))])++out) o hF) _ rfl _ hq)
   exact(Gh.to3 (by simp) (by first|simp -dsimp[h8];done|simp_all))
  ·have q9:¬(9<n7):=auq h8
   rw[if_neg q9]at hF
   cases hF
   repeat(first|refine chk.ga ?_|simp -dsimp[h8,q9])
   refine Leave.go ⟨[(0,.lit (.int .i64 n7)),(3,.lit (.string out))],[]⟩ (Gh.to3 (by simp) (by first|simp -dsimp[h8,q9];done|simp_all)) ?_
   exact hq
theorem CC.f26  :(∀(n:Int) (r:ByteArray),F.f26 n=some r→PureCall Tryz.prog B 127 [.lit (.int .i64 n)] (.lit (.string r))):=by
 refine F.f26.partial_correctness 
  _
  ?_
 ·intro _f_f26 ih_f26 n r hF
  refine PureCall.enterLe Tryz.func127 (by kernel_rfl) rfl Tryz.ntmps127 (by simp) (by simp) ?_
  repeat(first|refine chk.ga ?_|simp -dsimp)
  refine abr.split (fun h1=> ?_) (fun h1=> ?_)
  ·have q2:(n<(-9223372036854775807)):=auq h1
   rw[if_pos q2]at hF
   cases hF
   repeat(first|refine chk.ga ?_|simp -dsimp[h1])
   all_goals(try first|omega|rfl)
  ·have q2:¬(n<(-9223372036854775807)):=auq h1
   rw[if_neg q2]at hF
   repeat(first|refine chk.ga ?_|simp -dsimp[h1,q2])
   refine abr.split (fun h3=> ?_) (fun h3=> ?_)
   ·have q4:(n<0):=auq h3
    rw[if_pos q4]at hF
    repeat(first|refine chk.ga ?_|simp -dsimp[h1,q2,h3])
    have hF:=ob hF;obtain⟨v,e5,hF⟩:=hF
    refine((ih_f26 (IntKind.i64.wrap (0-n)) v e5)).goW (by first|simp[h1,q2,h3];done|simp_all) (by simp) ?_
    have hF:=oc hF;obtain⟨c6,hF⟩:=hF
    cases hF
    repeat(first|refine chk.ga ?_|simp -dsimp[h1,q2,h3])
    all_goals(try first|omega|rfl)
   ·have q4:¬(n<0):=auq h3
    rw[if_neg q4]at hF
    repeat(first|refine chk.ga ?_|simp -dsimp[h1,q2,h3,q4])
    have hF:=ob hF;obtain⟨o',ho11,hF⟩:=hF
    refine ALoop.goU _ ?_ (((CC.f25 B hB1 hB2) n ByteArray.empty o' ho11) _ rfl _ ?_)
    ·exact(Gh.to3 (by simp) (by first|simp -dsimp[h1,q2,h3,q4];done|simp_all))
    have hF:=oc hF;obtain⟨c12,hF⟩:=hF
    cases hF
    repeat(first|refine chk.ga ?_|simp -dsimp)
    all_goals(try first|omega|rfl)
theorem C.f27 (n:Int)(r:ByteArray)(hF:F.f27 n=some r):PureCall Tryz.prog B 130 [.lit (.int .i64 n)] (.lit (.string r)):=by
 unfold F.f27 at hF
 refine PureCall.enterLe Tryz.func130 (by kernel_rfl) rfl Tryz.ntmps130 (by simp) (by simp) ?_
 repeat(first|refine chk.ga ?_|simp -dsimp)
 refine abr.split (fun h1=> ?_) (fun h1=> ?_)
 ·have q2:(n=0):=auq h1
  rw[if_pos q2]at hF
  cases hF
  repeat(first|refine chk.ga ?_|simp -dsimp[eq_true h1])
  all_goals(try first|omega|rfl)
 ·have q2:¬(n=0):=auq h1
  rw[if_neg q2]at hF
  repeat(first|refine chk.ga ?_|simp -dsimp[h1,q2])
  refine abr.split (fun h3=> ?_) (fun h3=> ?_)
  ·have q4:(n=(-1)):=auq h3
   rw[if_pos q4]at hF
   cases hF
   repeat(first|refine chk.ga ?_|simp -dsimp[h1,q2,h3])
   all_goals(try first|omega|rfl)
  ·have q4:¬(n=(-1)):=auq h3
   rw[if_neg q4]at hF
   repeat(first|refine chk.ga ?_|simp -dsimp[h1,q2,h3,q4])
   have hF:=ob hF;obtain⟨v,e5,hF⟩:=hF
   refine(((CC.f26 B hB1 hB2) n v e5)).goW (by first|simp[h1,q2,h3,q4];done|simp_all) (by simp) ?_
   cases hF
   repeat(first|refine chk.ga ?_|simp -dsimp[h1,q2,h3,q4])
   all_goals(try first|omega|rfl)
theorem C.f28 (w:List Vl.Data)(t:Vl.Ty)(r:ByteArray)(hF:F.f28 w t=some r):PureCall Tryz.prog B 126 [.arr (List.map Vl.Data.c w),.agg [.lit (.int .i64 t.data),.lit (.int .i64 t.index)]] (.lit (.string r)):=by
 unfold F.f28 at hF
 refine PureCall.enterLe Tryz.func126 (by kernel_rfl) rfl Tryz.ntmps126 (by simp) (by simp) ?_
 repeat(first|refine chk.ga ?_|simp -dsimp)
 refine abr.split (fun h1=> ?_) (fun h1=> ?_)
 ·have q2:(t.data=(-1)):=auq h1
  rw[if_pos q2]at hF
  cases hF
  repeat(first|refine chk.ga ?_|simp -dsimp[h1])
  all_goals(try first|omega|rfl)
 ·have q2:¬(t.data=(-1)):=auq h1
  rw[if_neg q2]at hF
  repeat(first|refine chk.ga ?_|simp -dsimp[h1,q2])
  refine ADraw.simple follows (by kernel_rfl) (by kernel_rfl) ?_
  have hF:=ob hF;obtain⟨x,e3a,hF⟩:=hF
  have e3a:=at_some e3a;obtain⟨ne3,e3⟩:=e3a
  have le3:=lt_of_get e3
  repeat(first|refine chk.ga ?_|simp -dsimp[h1,q2,↓e3])
  have hF:=ob hF;obtain⟨v,e4,hF⟩:=hF
  refine((C.f27 B hB1 hB2 t.index v e4)).pgoW (by first|simp[h1,q2,↓e3];done|simp_all) (by simp) ?_
  have hF:=oc hF;obtain⟨c5,hF⟩:=hF
  cases hF
  repeat(first|refine chk.ga ?_|simp -dsimp[h1,q2,↓e3])
  all_goals(try first|omega|rfl)
theorem CC.f29 (w:List Vl.Data)(c':Vl.Ctor):(∀(out:ByteArray) (i:Nat) (o:ByteArray),F.f29 w c' out i=some o→∀(c:Code),navO [1,1,0,1,0,0] (bodyOf Tryz.f117)=some c→∀(Q:Exit→ASt→Prop),(Q (.exit 0) ⟨[(3,.ptr 0 0),(5,.lit (.string o))],[.cells [.lit (.string c'.name),.arr (List.map Vl.Ty.c c'.args),.lit (.int .i64 c'.index)]]⟩)→ALoopU Tryz.prog B 0 47 (hold c .mk) ⟨[(0,.arr (List.map Vl.Data.c w)),(3,.ptr 0 0),(5,.lit (.string out)),(6,.lit (.int .i64 (i:Int)))],[.cells [.lit (.string c'.name),.arr (List.map Vl.Ty.c c'.args),.lit (.int .i64 c'.index)]]⟩ (hold Q .mk)):=by
 refine F.f29.partial_correctness w c'
  _
  ?_
 ·intro _f_f29 ih_f29 out i o hF
  intro c hc Q hq
  obtain rfl:c=_:=navEq hc rfl
  refine ALoopU.know fun hk hs=> ?_
  have b0:=hk 0
  simp -dsimp at b0
  have d0:=hs 0 _ rfl
  simp -dsimp[Blk.bnd]at d0
  clear hk hs
  refine ALoopU.enter ?_
  repeat(first|refine chk.ga ?_|simp -dsimp)
  refine abr.split (fun h1=> ?_) (fun h1=> ?_)
  ·have q2:(i<c'.args.length):=auq h1
   have z3:((i:Int)<(c'.args.length:Int)):=auz
   rw[if_pos q2]at hF
   repeat(first|refine chk.ga ?_|simp -dsimp[h1,z3])
   refine abr.split (fun h4=> ?_) (fun h4=> ?_)
   ·have q5:(i=0):=auq h4
    have z6:((i:Int)=(0:Int)):=auz
    rw[if_pos q5]at hF
    have hF:=oc hF;obtain⟨c7,hF⟩:=hF
    have hF:=ob hF;obtain⟨x,e8,hF⟩:=hF
    have le8:=lt_of_get e8
    repeat(first|refine chk.ga ?_|simp -dsimp[h1,z3,eq_true h4,eq_true z6,↓e8])
    have hF:=ob hF;obtain⟨v,e9,hF⟩:=hF
    refine((C.f28 B hB1 hB2 w x v e9)).goW (by first|simp[h1,z3,eq_true h4,eq_true z6,↓e8];done|simp_all) (by simp) ?_
    have hF:=oc hF;obtain⟨c10,hF⟩:=hF
    have w11:IntKind.i64.wrap ((i:Int)+1)=(i:Int)+1:=wrap_in (by omega) (by omega)
    repeat(first|refine chk.ga ?_|simp -dsimp[h1,z3,eq_true h4,eq_true z6,↓e8,w11])
    refine Again.go _ ?_ ((ih_f29 ((out++(⟨#[40]⟩:ByteArray))++v) (i+1) o hF) _ rfl _ hq)
    exact(Gh.to3 (by simp) (by first|simp -dsimp[h1,z3,eq_true h4,eq_true z6,↓e8,w11];done|simp_all))
   ·have q5:¬(i=0):=auq h4
    have z6:¬((i:Int)=(0:Int)):=auz
    rw[if_neg q5]at hF
    have hF:=oc hF;obtain⟨c12,hF⟩:=hF
    have hF:=ob hF;obtain⟨x13,e14,hF⟩:=hF
    have le14:=lt_of_get e14
    repeat(first|refine chk.ga ?_|simp -dsimp[h1,z3,h4,q5,z6,↓e14])
    have hF:=ob hF;obtain⟨v15,e16,hF⟩:=hF
    refine((C.f28 B hB1 hB2 w x13 v15 e16)).goW (by first|simp[h1,z3,h4,q5,z6,↓e14];done|simp_all) (by simp) ?_
    have hF:=oc hF;obtain⟨c17,hF⟩:=hF
    have w18:IntKind.i64.wrap ((i:Int)+1)=(i:Int)+1:=wrap_in (by omega) (by omega)
    repeat(first|refine chk.ga ?_|simp -dsimp[h1,z3,h4,q5,z6,↓e14,w18])
    refine Again.go _ ?_ ((ih_f29 ((out++(⟨#[44]⟩:ByteArray))++v15) (i+1) o hF) _ rfl _ hq)
    exact(Gh.to3 (by simp) (by first|simp -dsimp[h1,z3,h4,q5,z6,↓e14,w18];done|simp_all))
  ·have q2:¬(i<c'.args.length):=auq h1
   have z3:¬((i:Int)<(c'.args.length:Int)):=auz
   rw[if_neg q2]at hF
   cases hF
   repeat(first|refine chk.ga ?_|simp -dsimp[h1,q2,z3])
   refine Leave.go ⟨[(3,.ptr 0 0),(5,.lit (.string out))],[.cells [.lit (.string c'.name),.arr (List.map Vl.Ty.c c'.args),.lit (.int .i64 c'.index)]]⟩ (Gh.to3 (by simp) (by first|simp -dsimp[h1,q2,z3];done|simp_all)) ?_
   exact hq
theorem C.f30 (w:List Vl.Data)(c':Vl.Ctor)(r:ByteArray)(hF:F.f30 w c'=some r):PureCall Tryz.prog B 117 [.arr (List.map Vl.Data.c w),.agg [.lit (.string c'.name),.arr (List.map Vl.Ty.c c'.args),.lit (.int .i64 c'.index)]] (.lit (.string r)):=by
 unfold F.f30 at hF
 refine PureCall.enterLe Tryz.func117 (by kernel_rfl) rfl Tryz.ntmps117 (by simp) (by simp) ?_
 repeat(first|refine chk.ga ?_|simp -dsimp)
 have hF:=ob hF;obtain⟨o',ho19,hF⟩:=hF
 refine ALoop.goU _ ?_ (((CC.f29 B hB1 hB2 w c') c'.name 0 o' ho19) _ rfl _ ?_)
 ·exact(Gh.to3 (by simp) (by simp -dsimp))
 repeat(first|refine chk.ga ?_|simp -dsimp)
 refine abr.split (fun h20=> ?_) (fun h20=> ?_)
 ·have q21:(0<c'.args.length):=auq h20
  have z22:((0:Int)<(c'.args.length:Int)):=auz
  rw[if_pos q21]at hF
  have hF:=oc hF;obtain⟨c23,hF⟩:=hF
  repeat(first|refine chk.ga ?_|simp -dsimp[h20,z22])
  refine abr.split (fun h24=> ?_) (fun h24=> ?_)
  ·have q25:(0<c'.index):=auq h24
   rw[if_pos q25]at hF
   have hF:=oc hF;obtain⟨c26,hF⟩:=hF
   repeat(first|refine chk.ga ?_|simp -dsimp[h20,z22,h24])
   have hF:=ob hF;obtain⟨v27,e28,hF⟩:=hF
   refine(((CC.f26 B hB1 hB2) c'.index v27 e28)).goW (by first|simp[h20,z22,h24];done|simp_all) (by simp) ?_
   have hF:=oc hF;obtain⟨c29,hF⟩:=hF
   cases hF
   repeat(first|refine chk.ga ?_|simp -dsimp[h20,z22,h24])
   all_goals(try first|omega|rfl)
  ·have q25:¬(0<c'.index):=auq h24
   rw[if_neg q25]at hF
   cases hF
   repeat(first|refine chk.ga ?_|simp -dsimp[h20,z22,h24,q25])
   all_goals(try first|omega|rfl)
 ·have q21:¬(0<c'.args.length):=auq h20
  have z22:¬((0:Int)<(c'.args.length:Int)):=auz
  rw[if_neg q21]at hF
  repeat(first|refine chk.ga ?_|simp -dsimp[h20,q21,z22])
  refine abr.split (fun h30=> ?_) (fun h30=> ?_)
  ·have q31:(0<c'.index):=auq h30
   rw[if_pos q31]at hF
   have hF:=oc hF;obtain⟨c32,hF⟩:=hF
   repeat(first|refine chk.ga ?_|simp -dsimp[h20,q21,z22,h30])
   have hF:=ob hF;obtain⟨v33,e34,hF⟩:=hF
   refine(((CC.f26 B hB1 hB2) c'.index v33 e34)).goW (by first|simp[h20,q21,z22,h30];done|simp_all) (by simp) ?_
   have hF:=oc hF;obtain⟨c35,hF⟩:=hF
   cases hF
   repeat(first|refine chk.ga ?_|simp -dsimp[h20,q21,z22,h30])
   all_goals(try first|omega|rfl)
  ·have q31:¬(0<c'.index):=auq h30
   rw[if_neg q31]at hF
   cases hF
   repeat(first|refine chk.ga ?_|simp -dsimp[h20,q21,z22,h30,q31])
   all_goals(try first|omega|rfl)
theorem CC.f31 (w:List Vl.Data)(d:Nat):(∀(out11:ByteArray) (k:Nat) (o:ByteArray),F.f31 w d out11 k=some o→∀(c:Code),navO [1,1,0,1,0,0,1,0,0,1,1,1,0,0] (bodyOf Tryz.f106)=some c→∀(Q:Exit→ASt→Prop),(Q (.exit 2) ⟨[(0,.arr (List.map Vl.Data.c w)),(3,.lit (.string o)),(4,.lit (.int .i64 (d:Int)))],[]⟩)→ALoopU Tryz.prog B 0 51 (hold c .mk) ⟨[(0,.arr (List.map Vl.Data.c w)),(3,.lit (.string out11)),(4,.lit (.int .i64 (d:Int))),(5,.lit (.int .i64 (k:Int)))],[]⟩ (hold Q .mk)):=by
 refine F.f31.partial_correctness w d
  _
  ?_
 ·intro _f_f31 ih_f31 out11 k o hF
  intro c hc Q hq
  obtain rfl:c=_:=navEq hc rfl
  refine ALoopU.know fun hk hs=> ?_
  have b0:=hk 0
  simp -dsimp at b0
  clear hk hs
  refine ALoopU.enter ?_
  have hF:=ob hF;obtain⟨x12,e13,hF⟩:=hF
  have le13:=lt_of_get e13
  repeat(first|refine chk.ga ?_|simp -dsimp[↓e13])
  refine abr.split (fun h14=> ?_) (fun h14=> ?_)
  ·have q15:(k<x12.ctors.length):=auq h14
   have z16:((k:Int)<(x12.ctors.length:Int)):=auz
   rw[if_pos q15]at hF
   repeat(first|refine chk.ga ?_|simp -dsimp[↓e13,h14,z16])
   refine abr.split (fun h17=> ?_) (fun h17=> ?_)
   ·have q18:(0<k):=auq h17
    have z19:((0:Int)<(k:Int)):=auz
    rw[if_pos q18]at hF
    have hF:=oc hF;obtain⟨c20,hF⟩:=hF
    have hF:=ob hF;obtain⟨x21,e22,hF⟩:=hF
    have le22:=lt_of_get e22
    repeat(first|refine chk.ga ?_|simp -dsimp[↓e13,h14,z16,h17,z19,↓e22])
    have hF:=ob hF;obtain⟨v,e23,hF⟩:=hF
    refine((C.f30 B hB1 hB2 w x21 v e23)).goW (by first|simp[↓e13,h14,z16,h17,z19,↓e22];done|simp_all) (by simp) ?_
    have hF:=oc hF;obtain⟨c24,hF⟩:=hF
    have hF:=oc hF;obtain⟨c25,hF⟩:=hF
    have w26:IntKind.i64.wrap ((k:Int)+1)=(k:Int)+1:=wrap_in (by omega) (by omega)
    repeat(first|refine chk.ga ?_|simp -dsimp[↓e13,h14,z16,h17,z19,↓e22,w26])
    refine Again.go _ ?_ ((ih_f31 ((out11++(⟨#[124]⟩:ByteArray))++v) (k+1) o hF) _ rfl _ hq)
    exact(Gh.to3 (by simp) (by first|simp -dsimp[↓e13,h14,z16,h17,z19,↓e22,w26];done|simp_all))
   ·have q18:¬(0<k):=auq h17
    have z19:¬((0:Int)<(k:Int)):=auz
    rw[if_neg q18]at hF
    have hF:=ob hF;obtain⟨x27,e28,hF⟩:=hF
    have le28:=lt_of_get e28
    repeat(first|refine chk.ga ?_|simp -dsimp[↓e13,h14,z16,h17,q18,z19,↓e28])
    have hF:=ob hF;obtain⟨v29,e30,hF⟩:=hF
    refine((C.f30 B hB1 hB2 w x27 v29 e30)).goW (by first|simp[↓e13,h14,z16,h17,q18,z19,↓e28];done|simp_all) (by simp) ?_
    have hF:=oc hF;obtain⟨c31,hF⟩:=hF
    have hF:=oc hF;obtain⟨c32,hF⟩:=hF
    have w33:IntKind.i64.wrap ((k:Int)+1)=(k:Int)+1:=wrap_in (by omega) (by omega)
    repeat(first|refine chk.ga ?_|simp -dsimp[↓e13,h14,z16,h17,q18,z19,↓e28,w33])
    refine Again.go _ ?_ ((ih_f31 (out11++v29) (k+1) o hF) _ rfl _ hq)
    exact(Gh.to3 (by simp) (by first|simp -dsimp[↓e13,h14,z16,h17,q18,z19,↓e28,w33];done|simp_all))
  ·have q15:¬(k<x12.ctors.length):=auq h14
   have z16:¬((k:Int)<(x12.ctors.length:Int)):=auz
   rw[if_neg q15]at hF
   cases hF
   repeat(first|refine chk.ga ?_|simp -dsimp[↓e13,h14,q15,z16])
   refine Leave.go ⟨[(0,.arr (List.map Vl.Data.c w)),(3,.lit (.string out11)),(4,.lit (.int .i64 (d:Int)))],[]⟩ (Gh.to3 (by simp) (by first|simp -dsimp[↓e13,h14,q15,z16];done|simp_all)) ?_
   exact hq
theorem CC.f32 (w:List Vl.Data)(d:Nat):(∀(out41:ByteArray) (k42:Nat) (o:ByteArray),F.f32 w d out41 k42=some o→∀(c:Code),navO [1,1,0,1,0,0,1,0,0,1,1,1,0,0] (bodyOf Tryz.f106)=some c→∀(Q:Exit→ASt→Prop),(Q (.exit 2) ⟨[(0,.arr (List.map Vl.Data.c w)),(3,.lit (.string o)),(4,.lit (.int .i64 (d:Int)))],[]⟩)→ALoopU Tryz.prog B 0 51 (hold c .mk) ⟨[(0,.arr (List.map Vl.Data.c w)),(3,.lit (.string out41)),(4,.lit (.int .i64 (d:Int))),(5,.lit (.int .i64 (k42:Int)))],[]⟩ (hold Q .mk)):=by
 refine F.f32.partial_correctness w d
  _
  ?_
 ·intro _f_f32 ih_f32 out41 k42 o hF
  intro c hc Q hq
  obtain rfl:c=_:=navEq hc rfl
  refine ALoopU.know fun hk hs=> ?_
  have b0:=hk 0
  simp -dsimp at b0
  clear hk hs
  refine ALoopU.enter ?_
  have hF:=ob hF;obtain⟨x43,e44,hF⟩:=hF
  have le44:=lt_of_get e44
  repeat(first|refine chk.ga ?_|simp -dsimp[↓e44])
  refine abr.split (fun h45=> ?_) (fun h45=> ?_)
  ·have q46:(k42<x43.ctors.length):=auq h45
   have z47:((k42:Int)<(x43.ctors.length:Int)):=auz
   rw[if_pos q46]at hF
   repeat(first|refine chk.ga ?_|simp -dsimp[↓e44,h45,z47])
   refine abr.split (fun h48=> ?_) (fun h48=> ?_)
   ·have q49:(0<k42):=auq h48
    have z50:((0:Int)<(k42:Int)):=auz
    rw[if_pos q49]at hF
    have hF:=oc hF;obtain⟨c51,hF⟩:=hF
    have hF:=ob hF;obtain⟨x52,e53,hF⟩:=hF
    have le53:=lt_of_get e53
    repeat(first|refine chk.ga ?_|simp -dsimp[↓e44,h45,z47,h48,z50,↓e53])
    have hF:=ob hF;obtain⟨v54,e55,hF⟩:=hF
    refine((C.f30 B hB1 hB2 w x52 v54 e55)).goW (by first|simp[↓e44,h45,z47,h48,z50,↓e53];done|simp_all) (by simp) ?_
    have hF:=oc hF;obtain⟨c56,hF⟩:=hF
    have hF:=oc hF;obtain⟨c57,hF⟩:=hF
    have w58:IntKind.i64.wrap ((k42:Int)+1)=(k42:Int)+1:=wrap_in (by omega) (by omega)
    repeat(first|refine chk.ga ?_|simp -dsimp[↓e44,h45,z47,h48,z50,↓e53,w58])
    refine Again.go _ ?_ ((ih_f32 ((out41++(⟨#[124]⟩:ByteArray))++v54) (k42+1) o hF) _ rfl _ hq)
    exact(Gh.to3 (by simp) (by first|simp -dsimp[↓e44,h45,z47,h48,z50,↓e53,w58];done|simp_all))
   ·have q49:¬(0<k42):=auq h48
    have z50:¬((0:Int)<(k42:Int)):=auz
    rw[if_neg q49]at hF
    have hF:=ob hF;obtain⟨x59,e60,hF⟩:=hF
    have le60:=lt_of_get e60
    repeat(first|refine chk.ga ?_|simp -dsimp[↓e44,h45,z47,h48,q49,z50,↓e60])
    have hF:=ob hF;obtain⟨v61,e62,hF⟩:=hF
    refine((C.f30 B hB1 hB2 w x59 v61 e62)).goW (by first|simp[↓e44,h45,z47,h48,q49,z50,↓e60];done|simp_all) (by simp) ?_
    have hF:=oc hF;obtain⟨c63,hF⟩:=hF
    have hF:=oc hF;obtain⟨c64,hF⟩:=hF
    have w65:IntKind.i64.wrap ((k42:Int)+1)=(k42:Int)+1:=wrap_in (by omega) (by omega)
    repeat(first|refine chk.ga ?_|simp -dsimp[↓e44,h45,z47,h48,q49,z50,↓e60,w65])
    refine Again.go _ ?_ ((ih_f32 (out41++v61) (k42+1) o hF) _ rfl _ hq)
    exact(Gh.to3 (by simp) (by first|simp -dsimp[↓e44,h45,z47,h48,q49,z50,↓e60,w65];done|simp_all))
  ·have q46:¬(k42<x43.ctors.length):=auq h45
   have z47:¬((k42:Int)<(x43.ctors.length:Int)):=auz
   rw[if_neg q46]at hF
   cases hF
   repeat(first|refine chk.ga ?_|simp -dsimp[↓e44,h45,q46,z47])
   refine Leave.go ⟨[(0,.arr (List.map Vl.Data.c w)),(3,.lit (.string out41)),(4,.lit (.int .i64 (d:Int)))],[]⟩ (Gh.to3 (by simp) (by first|simp -dsimp[↓e44,h45,q46,z47];done|simp_all)) ?_
   exact hq
theorem CC.f33 (w:List Vl.Data):(∀(out:ByteArray) (d:Nat) (o:ByteArray),F.f33 w out d=some o→∀(c:Code),navO [1,1,0,1,0,0] (bodyOf Tryz.f106)=some c→∀(Q:Exit→ASt→Prop),(Q (.exit 0) ⟨[(3,.lit (.string o))],[]⟩)→ALoopU Tryz.prog B 0 51 (hold c .mk) ⟨[(0,.arr (List.map Vl.Data.c w)),(3,.lit (.string out)),(4,.lit (.int .i64 (d:Int)))],[]⟩ (hold Q .mk)):=by
 refine F.f33.partial_correctness w
  _
  ?_
 ·intro _f_f33 ih_f33 out d o hF
  intro c hc Q hq
  obtain rfl:c=_:=navEq hc rfl
  refine ALoopU.know fun hk hs=> ?_
  have b0:=hk 0
  simp -dsimp at b0
  clear hk hs
  refine ALoopU.enter ?_
  repeat(first|refine chk.ga ?_|simp -dsimp)
  refine abr.split (fun h1=> ?_) (fun h1=> ?_)
  ·have q2:(d<w.length):=auq h1
   have z3:((d:Int)<(w.length:Int)):=auz
   rw[if_pos q2]at hF
   repeat(first|refine chk.ga ?_|simp -dsimp[h1,z3])
   refine abr.split (fun h4=> ?_) (fun h4=> ?_)
   ·have q5:(0<d):=auq h4
    have z6:((0:Int)<(d:Int)):=auz
    rw[if_pos q5]at hF
    have hF:=oc hF;obtain⟨c7,hF⟩:=hF
    have hF:=ob hF;obtain⟨x,e8,hF⟩:=hF
    have le8:=lt_of_get e8
    have hF:=oc hF;obtain⟨c9,hF⟩:=hF
    have hF:=oc hF;obtain⟨c10,hF⟩:=hF
    repeat(first|refine chk.ga ?_|simp -dsimp[h1,z3,h4,z6,↓e8])
    have hF:=ob hF;obtain⟨o',ho34,hF⟩:=hF
    refine ALoop.goU _ ?_ (((CC.f31 B hB1 hB2 w d) (((out++(⟨#[59]⟩:ByteArray))++x.name)++(⟨#[61]⟩:ByteArray)) 0 o' ho34) _ rfl _ ?_)
    ·exact(Gh.to3 (by simp) (by first|simp -dsimp[h1,z3,h4,z6,↓e8];done|simp_all))
    have hF:=oc hF;obtain⟨c35,hF⟩:=hF
    have w36:IntKind.i64.wrap ((d:Int)+1)=(d:Int)+1:=wrap_in (by omega) (by omega)
    repeat(first|refine chk.ga ?_|simp -dsimp[w36])
    refine Again.go _ ?_ ((ih_f33 o' (d+1) o hF) _ rfl _ hq)
    exact(Gh.to3 (by simp) (by first|simp -dsimp[w36];done|simp_all))
   ·have q5:¬(0<d):=auq h4
    have z6:¬((0:Int)<(d:Int)):=auz
    rw[if_neg q5]at hF
    have hF:=ob hF;obtain⟨x37,e38,hF⟩:=hF
    have le38:=lt_of_get e38
    have hF:=oc hF;obtain⟨c39,hF⟩:=hF
    have hF:=oc hF;obtain⟨c40,hF⟩:=hF
    repeat(first|refine chk.ga ?_|simp -dsimp[h1,z3,h4,q5,z6,↓e38])
    have hF:=ob hF;obtain⟨o'67,ho66,hF⟩:=hF
    refine ALoop.goU _ ?_ (((CC.f32 B hB1 hB2 w d) ((out++x37.name)++(⟨#[61]⟩:ByteArray)) 0 o'67 ho66) _ rfl _ ?_)
    ·exact(Gh.to3 (by simp) (by first|simp -dsimp[h1,z3,h4,q5,z6,↓e38];done|simp_all))
    have hF:=oc hF;obtain⟨c68,hF⟩:=hF
    have w69:IntKind.i64.wrap ((d:Int)+1)=(d:Int)+1:=wrap_in (by omega) (by omega)
    repeat(first|refine chk.ga ?_|simp -dsimp[w69])
    refine Again.go _ ?_ ((ih_f33 o'67 (d+1) o hF) _ rfl _ hq)
    exact(Gh.to3 (by simp) (by first|simp -dsimp[w69];done|simp_all))
  ·have q2:¬(d<w.length):=auq h1
   have z3:¬((d:Int)<(w.length:Int)):=auz
   rw[if_neg q2]at hF
   cases hF
   repeat(first|refine chk.ga ?_|simp -dsimp[h1,q2,z3])
   refine Leave.go ⟨[(3,.lit (.string out))],[]⟩ (Gh.to3 (by simp) (by first|simp -dsimp[h1,q2,z3];done|simp_all)) ?_
   exact hq
theorem C.f34 (w:List Vl.Data)(r:ByteArray)(hF:F.f34 w=some r):PureCall Tryz.prog B 106 [.arr (List.map Vl.Data.c w)] (.lit (.string r)):=by
 unfold F.f34 at hF
 refine PureCall.enterLe Tryz.func106 (by kernel_rfl) rfl Tryz.ntmps106 (by simp) (by simp) ?_
 repeat(first|refine chk.ga ?_|simp -dsimp)
 have hF:=ob hF;obtain⟨o'71,ho70,hF⟩:=hF
 refine ALoop.goU _ ?_ (((CC.f33 B hB1 hB2 w) ByteArray.empty 0 o'71 ho70) _ rfl _ ?_)
 ·exact(Gh.to3 (by simp) (by simp -dsimp))
 cases hF
 repeat(first|refine chk.ga ?_|simp -dsimp)
 all_goals(try first|omega|rfl)
theorem CC.f35 (text:ByteArray)(v:List ByteArray):(∀(names:List ByteArray) (i:Nat) (o:Lo ((List Vl.Data)×Bool) (List ByteArray)),F.f35 text v names i=some o→∀(c:Code),navO [1,1,1,1,0,1,0,0] (bodyOf Tryz.f86)=some c→∀(Q:Exit→ASt→Prop),o.post (fun r=>∀st,Post Tryz.prog Tryz.f86 (fun r' _=>r'.le (.tup [.arr (List.map Vl.Data.c r.1),.lit (.bool r.2)])) .ret st→Q .ret st) (fun s=>Q (.exit 0) ⟨[(0,.lit (.string text)),(4,.own 0 (List.length (α:=Vl.Data) [])),(5,.own 1 (List.length (α:=ByteArray) s)),(6,.arr (List.map cS v))],[.elems 2 (List.map Vl.Data.c []),.elems 1 (List.map cS s)]⟩)→ALoopU Tryz.prog B 0 101 (hold c .mk) ⟨[(0,.lit (.string text)),(4,.own 0 (List.length (α:=Vl.Data) [])),(5,.own 1 (List.length (α:=ByteArray) names)),(6,.arr (List.map cS v)),(7,.lit (.int .i64 (i:Int)))],[.elems 2 (List.map Vl.Data.c []),.elems 1 (List.map cS names)]⟩ (hold Q .mk)):=by
 refine F.f35.partial_correctness text v
  _
  ?_
 ·intro _f_f35 ih_f35 names i o hF
  intro c hc Q hq
  obtain rfl:c=_:=navEq hc rfl
  refine ALoopU.know fun hk hs=> ?_
  have b6:=hk 6
  simp -dsimp at b6
  have d0:=hs 0 _ rfl
  simp -dsimp[Blk.bnd]at d0
  have d1:=hs 1 _ rfl
  simp -dsimp[Blk.bnd]at d1
  clear hk hs
  refine ALoopU.enter ?_
  repeat(first|refine chk.ga ?_|simp -dsimp)
  refine abr.split (fun h2=> ?_) (fun h2=> ?_)
  ·have q3:(i<v.length):=auq h2
   have z4:((i:Int)<(v.length:Int)):=auz
   rw[if_pos q3]at hF
   repeat(first|refine chk.ga ?_|simp -dsimp[h2,z4])
   refine abr.split (fun h5=> ?_) (fun h5=> ?_)
   ·have q6:(i≤4):=auq h5
    have z7:((i:Int)≤(4:Int)):=auz
    rw[if_pos q6]at hF
    repeat(first|refine chk.ga ?_|simp -dsimp[h2,z4,h5,z7])
    refine abr.split (fun h8=> ?_) (fun h8=> ?_)
    ·have q9:¬(text.toList=ByteArray.empty.toList):=auq h8
     rw[if_neg q9]at hF
     have hF:=ob hF;obtain⟨x,e10,hF⟩:=hF
     have le10:=lt_of_get e10
     repeat(first|refine chk.ga ?_|simp -dsimp[h2,z4,h5,z7,h8,q9,↓e10])
     have hF:=ob hF;obtain⟨v11,e12,hF⟩:=hF
     refine((C.f3 B hB1 hB2 x (61:Int) v11 e12)).goW (by first|simp[h2,z4,h5,z7,h8,q9,↓e10];done|simp_all) (by simp) ?_
     repeat(first|refine chk.ga ?_|simp -dsimp[h2,z4,h5,z7,h8,q9,↓e10])
     refine abr.split (fun h13=> ?_) (fun h13=> ?_)
     ·have q14:¬(v11.length=2):=auq h13
      have z15:¬((v11.length:Int)=(2:Int)):=auz
      rw[if_neg q14]at hF
      cases hF
      repeat(first|refine chk.ga ?_|simp -dsimp[h2,z4,h5,z7,h8,q9,↓e10,h13,q14,z15])
      refine Leave.go _ (Gh.refl _) (hq _ ?_)
      repeat(first|refine chk.ga ?_|simp -dsimp[h2,z4,h5,z7,h8,q9,↓e10,h13,q14,z15])
     ·have q14:(v11.length=2):=auq h13
      have z15:((v11.length:Int)=(2:Int)):=auz
      rw[if_pos q14]at hF
      have hF:=ob hF;obtain⟨x16,e17,hF⟩:=hF
      have le17:=lt_of_get e17
      have hF:=oc hF;obtain⟨c18,hF⟩:=hF
      have w19:IntKind.i64.wrap ((i:Int)+1)=(i:Int)+1:=wrap_in (by omega) (by omega)
      repeat(first|refine chk.ga ?_|simp -dsimp[h2,z4,h5,z7,h8,q9,↓e10,h13,q14,z15,↓e17,w19])
      refine Again.go _ ?_ ((ih_f35 (names++[x16]) (i+1) o hF) _ rfl _ hq)
      exact(Gh.to3 (by simp) (by first|simp -dsimp[h2,z4,h5,z7,h8,q9,↓e10,h13,q14,z15,↓e17,w19];done|simp_all))
    ·have q9:(text.toList=ByteArray.empty.toList):=auq h8
     rw[if_pos q9]at hF
     cases hF
     repeat(first|refine chk.ga ?_|simp -dsimp[h2,z4,h5,z7,h8,q9])
     refine Leave.go ⟨[(0,.lit (.string text)),(4,.own 0 (List.length (α:=Vl.Data) [])),(5,.own 1 (List.length (α:=ByteArray) names)),(6,.arr (List.map cS v))],[.elems 2 (List.map Vl.Data.c []),.elems 1 (List.map cS names)]⟩ (Gh.to3 (by simp) (by first|simp -dsimp[h2,z4,h5,z7,h8,q9];done|simp_all)) ?_
     exact hq
   ·have q6:¬(i≤4):=auq h5
    have z7:¬((i:Int)≤(4:Int)):=auz
    rw[if_neg q6]at hF
    cases hF
    repeat(first|refine chk.ga ?_|simp -dsimp[h2,z4,h5,q6,z7])
    refine Leave.go ⟨[(0,.lit (.string text)),(4,.own 0 (List.length (α:=Vl.Data) [])),(5,.own 1 (List.length (α:=ByteArray) names)),(6,.arr (List.map cS v))],[.elems 2 (List.map Vl.Data.c []),.elems 1 (List.map cS names)]⟩ (Gh.to3 (by simp) (by first|simp -dsimp[h2,z4,h5,q6,z7];done|simp_all)) ?_
    exact hq
  ·have q3:¬(i<v.length):=auq h2
   have z4:¬((i:Int)<(v.length:Int)):=auz
   rw[if_neg q3]at hF
   cases hF
   repeat(first|refine chk.ga ?_|simp -dsimp[h2,q3,z4])
   refine Leave.go ⟨[(0,.lit (.string text)),(4,.own 0 (List.length (α:=Vl.Data) [])),(5,.own 1 (List.length (α:=ByteArray) names)),(6,.arr (List.map cS v))],[.elems 2 (List.map Vl.Data.c []),.elems 1 (List.map cS names)]⟩ (Gh.to3 (by simp) (by first|simp -dsimp[h2,q3,z4];done|simp_all)) ?_
   exact hq
theorem CC.f36 (text:ByteArray)(v:List ByteArray)(out:List Vl.Data)(names21:List ByteArray)(i22:Nat)(v32:List ByteArray)(x34:ByteArray):(∀(out36:List Vl.Ctor) (k:Nat) (o:List Vl.Ctor),F.f36 text v out names21 i22 v32 x34 out36 k=some o→∀(c:Code),navO [1,1,1,1,1,0,1,0,0,1,0,0,1,1,0,1,0,0] (bodyOf Tryz.f86)=some c→∀(Q:Exit→ASt→Prop),(Q (.exit 4) ⟨[(0,.lit (.string text)),(4,.own 0 (List.length (α:=Vl.Data) out)),(5,.arr (List.map cS names21)),(6,.arr (List.map cS v)),(9,.lit (.int .i64 (i22:Int))),(11,.ptr 2 0)],[.elems 2 (List.map Vl.Data.c out),.dead,.cells [.lit (.string x34),.own 3 (List.length (α:=Vl.Ctor) o)],.elems 3 (List.map Vl.Ctor.c o)]⟩)→ALoopU Tryz.prog B 0 101 (hold c .mk) ⟨[(0,.lit (.string text)),(4,.own 0 (List.length (α:=Vl.Data) out)),(5,.arr (List.map cS names21)),(6,.arr (List.map cS v)),(9,.lit (.int .i64 (i22:Int))),(10,.arr (List.map cS v32)),(11,.ptr 2 0),(12,.lit (.int .i64 (k:Int)))],[.elems 2 (List.map Vl.Data.c out),.dead,.cells [.lit (.string x34),.own 3 (List.length (α:=Vl.Ctor) out36)],.elems 3 (List.map Vl.Ctor.c out36)]⟩ (hold Q .mk)):=by
 refine F.f36.partial_correctness text v out names21 i22 v32 x34
  _
  ?_
 ·intro _f_f36 ih_f36 out36 k o hF
  intro c hc Q hq
  obtain rfl:c=_:=navEq hc rfl
  refine ALoopU.know fun hk hs=> ?_
  have b5:=hk 5
  simp -dsimp at b5
  have b6:=hk 6
  simp -dsimp at b6
  have b10:=hk 10
  simp -dsimp at b10
  have d0:=hs 0 _ rfl
  simp -dsimp[Blk.bnd]at d0
  have d3:=hs 3 _ rfl
  simp -dsimp[Blk.bnd]at d3
  clear hk hs
  refine ALoopU.enter ?_
  repeat(first|refine chk.ga ?_|simp -dsimp)
  refine abr.split (fun h37=> ?_) (fun h37=> ?_)
  ·have q38:(k<v32.length):=auq h37
   have z39:((k:Int)<(v32.length:Int)):=auz
   rw[if_pos q38]at hF
   repeat(first|refine chk.ga ?_|simp -dsimp[h37,z39])
   refine abr.split (fun h40=> ?_) (fun h40=> ?_)
   ·have q41:(k≤4):=auq h40
    have z42:((k:Int)≤(4:Int)):=auz
    rw[if_pos q41]at hF
    repeat(first|refine chk.ga ?_|simp -dsimp[h37,z39,h40,z42])
    refine ADraw.eff [] [(0,1),(0,1),(0,0),(0,0),(0,0),(0,0),(0,0),(0,3),(0,3),(0,3),(2,2),(0,3)] [0,2,1,1,1,1,1,1,1,1,1,1] follows (by kernel_rfl) (by kernel_rfl) (by kernel_rfl) ?_
    have hF:=ob hF;obtain⟨x43,e44,hF⟩:=hF
    have le44:=lt_of_get e44
    repeat(first|refine chk.ga ?_|simp -dsimp[h37,z39,h40,z42,↓e44])
    have hF:=ob hF;obtain⟨v45,e46,hF⟩:=hF
    refine((C.f10 B hB1 hB2 names21 x43 v45 e46)).pgoW (by first|simp[h37,z39,h40,z42,↓e44];done|simp_all) (by simp) ?_
    have hF:=oc hF;obtain⟨c47,hF⟩:=hF
    have w48:IntKind.i64.wrap ((k:Int)+1)=(k:Int)+1:=wrap_in (by omega) (by omega)
    repeat(first|refine chk.ga ?_|simp -dsimp[h37,z39,h40,z42,↓e44,w48])
    refine Again.go _ ?_ ((ih_f36 (out36++[v45]) (k+1) o hF) _ rfl _ hq)
    exact(Gh.to3 (by simp) (by first|simp -dsimp[h37,z39,h40,z42,↓e44,w48];done|simp_all))
   ·have q41:¬(k≤4):=auq h40
    have z42:¬((k:Int)≤(4:Int)):=auz
    rw[if_neg q41]at hF
    cases hF
    repeat(first|refine chk.ga ?_|simp -dsimp[h37,z39,h40,q41,z42])
    refine Leave.go ⟨[(0,.lit (.string text)),(4,.own 0 (List.length (α:=Vl.Data) out)),(5,.arr (List.map cS names21)),(6,.arr (List.map cS v)),(9,.lit (.int .i64 (i22:Int))),(11,.ptr 2 0)],[.elems 2 (List.map Vl.Data.c out),.dead,.cells [.lit (.string x34),.own 3 (List.length (α:=Vl.Ctor) out36)],.elems 3 (List.map Vl.Ctor.c out36)]⟩ (Gh.to3 (by simp) (by first|simp -dsimp[h37,z39,h40,q41,z42];done|simp_all)) ?_
    exact hq
  ·have q38:¬(k<v32.length):=auq h37
   have z39:¬((k:Int)<(v32.length:Int)):=auz
   rw[if_neg q38]at hF
   cases hF
   repeat(first|refine chk.ga ?_|simp -dsimp[h37,q38,z39])
   refine Leave.go ⟨[(0,.lit (.string text)),(4,.own 0 (List.length (α:=Vl.Data) out)),(5,.arr (List.map cS names21)),(6,.arr (List.map cS v)),(9,.lit (.int .i64 (i22:Int))),(11,.ptr 2 0)],[.elems 2 (List.map Vl.Data.c out),.dead,.cells [.lit (.string x34),.own 3 (List.length (α:=Vl.Ctor) out36)],.elems 3 (List.map Vl.Ctor.c out36)]⟩ (Gh.to3 (by simp) (by first|simp -dsimp[h37,q38,z39];done|simp_all)) ?_
   exact hq
theorem CC.f37 (text:ByteArray)(v:List ByteArray)(names21:List ByteArray):(∀(out:List Vl.Data) (i22:Nat) (o:List Vl.Data),F.f37 text v out names21 i22=some o→∀(c:Code),navO [1,1,1,1,1,0,1,0,0] (bodyOf Tryz.f86)=some c→∀(Q:Exit→ASt→Prop),(Q (.exit 2) ⟨[(0,.lit (.string text)),(4,.own 0 (List.length (α:=Vl.Data) o))],[.elems 2 (List.map Vl.Data.c o)]⟩)→ALoopU Tryz.prog B 0 101 (hold c .mk) ⟨[(0,.lit (.string text)),(4,.own 0 (List.length (α:=Vl.Data) out)),(5,.arr (List.map cS names21)),(6,.arr (List.map cS v)),(9,.lit (.int .i64 (i22:Int)))],[.elems 2 (List.map Vl.Data.c out),.dead]⟩ (hold Q .mk)):=by
 refine F.f37.partial_correctness text v names21
  _
  ?_
 ·intro _f_f37 ih_f37 out i22 o hF
  intro c hc Q hq
  obtain rfl:c=_:=navEq hc rfl
  refine ALoopU.know fun hk hs=> ?_
  have b5:=hk 5
  simp -dsimp at b5
  have b6:=hk 6
  simp -dsimp at b6
  have d0:=hs 0 _ rfl
  simp -dsimp[Blk.bnd]at d0
  clear hk hs
  refine ALoopU.enter ?_
  repeat(first|refine chk.ga ?_|simp -dsimp)
  refine abr.split (fun h23=> ?_) (fun h23=> ?_)
  ·have q24:(i22<names21.length):=auq h23
   have z25:((i22:Int)<(names21.length:Int)):=auz
   rw[if_pos q24]at hF
   have hF:=ob hF;obtain⟨x26,e27,hF⟩:=hF
   have le27:=lt_of_get e27
   repeat(first|refine chk.ga ?_|simp -dsimp[h23,z25,↓e27])
   have hF:=ob hF;obtain⟨v28,e29,hF⟩:=hF
   refine((C.f3 B hB1 hB2 x26 (61:Int) v28 e29)).goW (by first|simp[h23,z25,↓e27];done|simp_all) (by simp) ?_
   have hF:=ob hF;obtain⟨x30,e31,hF⟩:=hF
   have le31:=lt_of_get e31
   repeat(first|refine chk.ga ?_|simp -dsimp[h23,z25,↓e27,↓e31])
   have hF:=ob hF;obtain⟨v32,e33,hF⟩:=hF
   refine((C.f3 B hB1 hB2 x30 (124:Int) v32 e33)).goW (by first|simp[h23,z25,↓e27,↓e31];done|simp_all) (by simp) ?_
   have hF:=ob hF;obtain⟨x34,e35,hF⟩:=hF
   have le35:=lt_of_get e35
   repeat(first|refine chk.ga ?_|simp -dsimp[h23,z25,↓e27,↓e31,↓e35])
   have hF:=ob hF;obtain⟨o'50,ho49,hF⟩:=hF
   refine ALoop.goU ⟨[(0,.lit (.string text)),(4,.own 0 (List.length (α:=Vl.Data) out)),(5,.arr (List.map cS names21)),(6,.arr (List.map cS v)),(9,.lit (.int .i64 (i22:Int))),(10,.arr (List.map cS v32)),(11,.ptr 2 0),(12,.lit (.int .i64 (0:Int)))],[.elems 2 (List.map Vl.Data.c out),.dead,.cells [.lit (.string x34),.own 3 (List.length (α:=Vl.Ctor) [])],.elems 3 (List.map Vl.Ctor.c [])]⟩ (by refine Gh.trans (Gh.nilCell 2 1 3 (by simp -dsimp;rfl) (by simp -dsimp)) ?_;exact(Gh.to3 (by simp) (by first|simp -dsimp[h23,z25,↓e27,↓e31,↓e35];done|simp_all))) ?_
   refine((CC.f36 B hB1 hB2 text v out names21 i22 v32 x34) [] 0 o'50 ho49) _ rfl _ ?_
   have hF:=oc hF;obtain⟨c51,hF⟩:=hF
   have hF:=oc hF;obtain⟨c52,hF⟩:=hF
   have w53:IntKind.i64.wrap ((i22:Int)+1)=(i22:Int)+1:=wrap_in (by omega) (by omega)
   repeat(first|refine chk.ga ?_|simp -dsimp[w53])
   refine Again.go _ ?_ ((ih_f37 (out++[(⟨x34,o'50⟩:Vl.Data)]) (i22+1) o hF) _ rfl _ hq)
   exact(Gh.to3 (by simp) (by first|simp -dsimp[w53];done|simp_all))
  ·have q24:¬(i22<names21.length):=auq h23
   have z25:¬((i22:Int)<(names21.length:Int)):=auz
   rw[if_neg q24]at hF
   cases hF
   repeat(first|refine chk.ga ?_|simp -dsimp[h23,q24,z25])
   refine Leave.go ⟨[(0,.lit (.string text)),(4,.own 0 (List.length (α:=Vl.Data) out))],[.elems 2 (List.map Vl.Data.c out)]⟩ (Gh.to3 (by simp) (by first|simp -dsimp[h23,q24,z25];done|simp_all)) ?_
   exact hq
theorem C.f38 (text:ByteArray)(r:(List Vl.Data)×Bool)(hF:F.f38 text=some r):PureCall Tryz.prog B 86 [.lit (.string text)] (.tup [.arr (List.map Vl.Data.c r.1),.lit (.bool r.2)]):=by
 unfold F.f38 at hF
 refine PureCall.enterLe Tryz.func86 (by kernel_rfl) rfl Tryz.ntmps86 (by simp) (by simp) ?_
 repeat(first|refine chk.ga ?_|simp -dsimp)
 have hF:=ob hF;obtain⟨v,e1,hF⟩:=hF
 refine((C.f3 B hB1 hB2 text (59:Int) v e1)).goW (by simp) (by simp) ?_
 repeat(first|refine chk.ga ?_|simp -dsimp)
 have hF:=ob hF;obtain⟨o',ho20,hF⟩:=hF
 refine ALoop.goU _ ?_ (((CC.f35 B hB1 hB2 text v) [] 0 o' ho20) _ rfl _ ?_)
 ·exact(Gh.to3 (by simp) (by simp -dsimp))
 rcases o' with r0|sx
 ·dsimp only at hF
  cases hF
  intro st h
  simpa using h
 ·dsimp only at hF
  repeat(first|refine chk.ga ?_|simp -dsimp)
  have hF:=ob hF;obtain⟨o'55,ho54,hF⟩:=hF
  refine ALoop.goU ⟨[(0,.lit (.string text)),(4,.own 0 (List.length (α:=Vl.Data) [])),(5,.arr (List.map cS sx)),(6,.arr (List.map cS v)),(9,.lit (.int .i64 (0:Int)))],[.elems 2 (List.map Vl.Data.c []),.dead]⟩ (by refine Gh.trans (Gh.frzSlot 5 (l:=1) (n:=List.length (α:=ByteArray) sx) (sz:=1) (es:=List.map cS sx) (by simp) (by simp) (by simp) (by simp)) ?_;exact(Gh.to3 (by simp) (by simp -dsimp))) ?_
  refine((CC.f37 B hB1 hB2 text v sx) [] 0 o'55 ho54) _ rfl _ ?_
  repeat(first|refine chk.ga ?_|simp -dsimp)
  have hF:=ob hF;obtain⟨v56,e57,hF⟩:=hF
  refine((C.f24 B hB1 hB2 o'55 v56 e57)).lend (by simp -dsimp) (by simp -dsimp) ?_
  repeat(first|refine chk.ga ?_|simp -dsimp)
  refine abr.split (fun h58=> ?_) (fun h58=> ?_)
  ·have q59:(v56=true):=auq h58
   rw[if_pos q59]at hF
   repeat(first|refine chk.ga ?_|simp -dsimp[h58])
   have hF:=ob hF;obtain⟨v60,e61,hF⟩:=hF
   refine((C.f34 B hB1 hB2 o'55 v60 e61)).lend (by first|simp -dsimp[h58];done|simp_all) (by simp -dsimp) ?_
   repeat(first|refine chk.ga ?_|simp -dsimp[h58])
   refine abr.split (fun h62=> ?_) (fun h62=> ?_)
   ·have q63:¬(v60.toList=text.toList):=auq h62
    rw[if_neg q63]at hF
    cases hF
    repeat(first|refine chk.ga ?_|simp -dsimp[h58,h62,q63])
    all_goals(try first|omega|rfl)
   ·have q63:(v60.toList=text.toList):=auq h62
    rw[if_pos q63]at hF
    cases hF
    repeat(first|refine chk.ga ?_|simp -dsimp[h58,h62,q63])
    all_goals(try first|omega|rfl)
  ·have q59:¬(v56=true):=auq h58
   rw[if_neg q59]at hF
   cases hF
   repeat(first|refine chk.ga ?_|simp -dsimp[h58,q59])
   all_goals(try first|omega|rfl)
theorem C.f39 (r':Vl.T_spec_l17Rd)(r:(List Vl.Data)×Vl.T_spec_l17Rd)(hF:F.f39 r'=some r):MutCall Tryz.prog B 63 [.arr (List.map cU r'.f0),.lit (.int .i64 r'.f1)] [.ptr 0 0] (.arr (List.map Vl.Data.c r.1)) [.arr (List.map cU r.2.f0),.lit (.int .i64 r.2.f1)]:=by
 unfold F.f39 at hF
 refine MutCall.enter Tryz.func63 (by kernel_rfl) rfl Tryz.ntmps63 (by simp) (by simp) (by simp) (by simp) ?_
 repeat(first|refine chk.ga ?_|simp -dsimp)
 have hF:=ob hF;obtain⟨v,e1,hF⟩:=hF
 refine((C.f0 B hB1 hB2 v e1)).goW (by simp) (by simp) ?_
 repeat(first|refine chk.ga ?_|simp -dsimp)
 have hF:=ob hF;obtain⟨v2,e3,hF⟩:=hF
 refine((C.f1 B hB1 hB2 r' (IntKind.i64.wrap ((v.length:Int) -1)) v2 e3)).go 0 rfl (by simp) (by simp) (by simp) ?_
 have hF:=ob hF;obtain⟨x,e4a,hF⟩:=hF
 have e4a:=at_some e4a;obtain⟨ne4,e4⟩:=e4a
 have le4:=lt_of_get e4
 repeat(first|refine chk.ga ?_|simp -dsimp[↓e4])
 have hF:=ob hF;obtain⟨v5,e6,hF⟩:=hF
 refine((C.f38 B hB1 hB2 x v5 e6)).goW (by first|simp[↓e4];done|simp_all) (by simp) ?_
 cases hF
 repeat(first|refine chk.ga ?_|simp -dsimp[↓e4])
 all_goals(try first|omega|rfl)
theorem C.f40 (c':Vl.Ctor)(index':Int)(r:Bool)(hF:F.f40 c' index'=some r):PureCall Tryz.prog B 87 [.agg [.lit (.string c'.name),.arr (List.map Vl.Ty.c c'.args),.lit (.int .i64 c'.index)],.lit (.int .i64 index')] (.lit (.bool r)):=by
 unfold F.f40 at hF
 refine PureCall.enterLe Tryz.func87 (by kernel_rfl) rfl Tryz.ntmps87 (by simp) (by simp) ?_
 repeat(first|refine chk.ga ?_|simp -dsimp)
 refine abr.split (fun h1=> ?_) (fun h1=> ?_)
 ·have q2:¬(c'.index=0):=auq h1
  rw[if_neg q2]at hF
  repeat(first|refine chk.ga ?_|simp -dsimp[h1,q2])
  refine abr.split (fun h3=> ?_) (fun h3=> ?_)
  ·have q4:¬(index'=0):=auq h3
   rw[if_neg q4]at hF
   cases hF
   repeat(first|refine chk.ga ?_|simp -dsimp[h1,q2,h3,q4])
   all_goals(try first|omega|rfl)
  ·have q4:(index'=0):=auq h3
   rw[if_pos q4]at hF
   cases hF
   repeat(first|refine chk.ga ?_|simp -dsimp[h1,q2,eq_true h3,eq_true q4])
   all_goals(try first|omega|rfl)
 ·have q2:(c'.index=0):=auq h1
  rw[if_pos q2]at hF
  cases hF
  repeat(first|refine chk.ga ?_|simp -dsimp[h1,q2])
  all_goals(try first|omega|rfl)
theorem CC.f41 (w:List Vl.Data)(t:Vl.Ty):(∀(out:List Int) (k:Nat) (o:List Int),F.f41 w t out k=some o→∀(c:Code),navO [1,1,1,0,1,0,0] (bodyOf Tryz.f64)=some c→∀(Q:Exit→ASt→Prop),(Q (.exit 0) ⟨[(5,.own 1 (List.length (α:=Int) o))],[.dead,.elems 1 (List.map cI o)]⟩)→ALoopU Tryz.prog B 0 40 (hold c .mk) ⟨[(0,.arr (List.map Vl.Data.c w)),(3,.ptr 0 0),(5,.own 1 (List.length (α:=Int) out)),(6,.lit (.int .i64 (k:Int)))],[.cells [.lit (.int .i64 t.data),.lit (.int .i64 t.index)],.elems 1 (List.map cI out)]⟩ (hold Q .mk)):=by
 refine F.f41.partial_correctness w t
  _
  ?_
 ·intro _f_f41 ih_f41 out k o hF
  intro c hc Q hq
  obtain rfl:c=_:=navEq hc rfl
  refine ALoopU.know fun hk hs=> ?_
  have b0:=hk 0
  simp -dsimp at b0
  have d1:=hs 1 _ rfl
  simp -dsimp[Blk.bnd]at d1
  clear hk hs
  refine ALoopU.enter ?_
  have hF:=ob hF;obtain⟨x,e3a,hF⟩:=hF
  have e3a:=at_some e3a;obtain⟨ne3,e3⟩:=e3a
  have le3:=lt_of_get e3
  repeat(first|refine chk.ga ?_|simp -dsimp[↓e3])
  refine abr.split (fun h4=> ?_) (fun h4=> ?_)
  ·have q5:(k<x.ctors.length):=auq h4
   have z6:((k:Int)<(x.ctors.length:Int)):=auz
   rw[if_pos q5]at hF
   repeat(first|refine chk.ga ?_|simp -dsimp[↓e3,h4,z6])
   refine ADraw.simple follows (by kernel_rfl) (by kernel_rfl) ?_
   have hF:=ob hF;obtain⟨x7,e8,hF⟩:=hF
   have le8:=lt_of_get e8
   repeat(first|refine chk.ga ?_|simp -dsimp[↓e3,h4,z6,↓e8])
   have hF:=ob hF;obtain⟨v,e9,hF⟩:=hF
   refine((C.f40 B hB1 hB2 x7 t.index v e9)).pgoW (by first|simp[↓e3,h4,z6,↓e8];done|simp_all) (by simp) ?_
   repeat(first|refine chk.ga ?_|simp -dsimp[↓e3,h4,z6,↓e8])
   refine abr.split (fun h10=> ?_) (fun h10=> ?_)
   ·have q11:(v=true):=auq h10
    rw[if_pos q11]at hF
    have hF:=oc hF;obtain⟨c12,hF⟩:=hF
    have hF:=oc hF;obtain⟨c13,hF⟩:=hF
    have w14:IntKind.i64.wrap ((k:Int)+1)=(k:Int)+1:=wrap_in (by omega) (by omega)
    repeat(first|refine chk.ga ?_|simp -dsimp[↓e3,h4,z6,↓e8,h10,w14])
    refine Again.go _ ?_ ((ih_f41 (out++[(k:Int)]) (k+1) o hF) _ rfl _ hq)
    exact(Gh.to3 (by simp) (by first|simp -dsimp[↓e3,h4,z6,↓e8,h10,w14];done|simp_all))
   ·have q11:¬(v=true):=auq h10
    rw[if_neg q11]at hF
    have hF:=oc hF;obtain⟨c15,hF⟩:=hF
    have w16:IntKind.i64.wrap ((k:Int)+1)=(k:Int)+1:=wrap_in (by omega) (by omega)
    repeat(first|refine chk.ga ?_|simp -dsimp[↓e3,h4,z6,↓e8,h10,q11,w16])
    refine Again.go _ ?_ ((ih_f41 out (k+1) o hF) _ rfl _ hq)
    exact(Gh.to3 (by simp) (by first|simp -dsimp[↓e3,h4,z6,↓e8,h10,q11,w16];done|simp_all))
  ·have q5:¬(k<x.ctors.length):=auq h4
   have z6:¬((k:Int)<(x.ctors.length:Int)):=auz
   rw[if_neg q5]at hF
   cases hF
   repeat(first|refine chk.ga ?_|simp -dsimp[↓e3,h4,q5,z6])
   refine Leave.go ⟨[(5,.own 1 (List.length (α:=Int) out))],[.dead,.elems 1 (List.map cI out)]⟩ (Gh.to3 (by simp) (by first|simp -dsimp[↓e3,h4,q5,z6];done|simp_all)) ?_
   exact hq
theorem C.f42 (w:List Vl.Data)(t:Vl.Ty)(r:List Int)(hF:F.f42 w t=some r):PureCall Tryz.prog B 64 [.arr (List.map Vl.Data.c w),.agg [.lit (.int .i64 t.data),.lit (.int .i64 t.index)]] (.arr (List.map cI r)):=by
 unfold F.f42 at hF
 refine PureCall.enterLe Tryz.func64 (by kernel_rfl) rfl Tryz.ntmps64 (by simp) (by simp) ?_
 repeat(first|refine chk.ga ?_|simp -dsimp)
 refine abr.split (fun h1=> ?_) (fun h1=> ?_)
 ·have q2:(t.data=(-1)):=auq h1
  rw[if_pos q2]at hF
  cases hF
  repeat(first|refine chk.ga ?_|simp -dsimp[h1])
  all_goals(try first|omega|rfl)
 ·have q2:¬(t.data=(-1)):=auq h1
  rw[if_neg q2]at hF
  repeat(first|refine chk.ga ?_|simp -dsimp[h1,q2])
  have hF:=ob hF;obtain⟨o',ho17,hF⟩:=hF
  refine ALoop.goU _ ?_ (((CC.f41 B hB1 hB2 w t) [] 0 o' ho17) _ rfl _ ?_)
  ·exact(Gh.to3 (by simp) (by first|simp -dsimp[h1,q2];done|simp_all))
  cases hF
  repeat(first|refine chk.ga ?_|simp -dsimp)
  all_goals(try first|omega|rfl)
theorem C.f43 (c':Vl.Ctor)(index':Int)(r:Int)(hF:F.f43 c' index'=some r):PureCall Tryz.prog B 67 [.agg [.lit (.string c'.name),.arr (List.map Vl.Ty.c c'.args),.lit (.int .i64 c'.index)],.lit (.int .i64 index')] (.lit (.int .i64 r)):=by
 unfold F.f43 at hF
 refine PureCall.enterLe Tryz.func67 (by kernel_rfl) rfl Tryz.ntmps67 (by simp) (by simp) ?_
 repeat(first|refine chk.ga ?_|simp -dsimp)
 refine abr.split (fun h1=> ?_) (fun h1=> ?_)
 ·have q2:(c'.index=0):=auq h1
  rw[if_pos q2]at hF
  cases hF
  repeat(first|refine chk.ga ?_|simp -dsimp[h1])
  all_goals(try first|omega|rfl)
 ·have q2:¬(c'.index=0):=auq h1
  rw[if_neg q2]at hF
  cases hF
  repeat(first|refine chk.ga ?_|simp -dsimp[h1,q2])
  all_goals(try first|omega|rfl)
theorem CC.f44 (t:Vl.Ty)(x2:Vl.Ctor):(∀(out:List Vl.Ty) (i:Nat) (o:List Vl.Ty),F.f44 t x2 out i=some o→∀(c:Code),navO [1,1,1,0,1,0,0] (bodyOf Tryz.f40)=some c→∀(Q:Exit→ASt→Prop),(Q (.exit 0) ⟨[(7,.own 1 (List.length (α:=Vl.Ty) o))],[.dead,.elems 2 (List.map Vl.Ty.c o)]⟩)→ALoopU Tryz.prog B 0 46 (hold c .mk) ⟨[(4,.ptr 0 0),(7,.own 1 (List.length (α:=Vl.Ty) out)),(8,.ptr 2 0),(9,.lit (.int .i64 (i:Int)))],[.cells [.lit (.int .i64 t.data),.lit (.int .i64 t.index)],.elems 2 (List.map Vl.Ty.c out),.cells [.lit (.string x2.name),.arr (List.map Vl.Ty.c x2.args),.lit (.int .i64 x2.index)]]⟩ (hold Q .mk)):=by
 refine F.f44.partial_correctness t x2
  _
  ?_
 ·intro _f_f44 ih_f44 out i o hF
  intro c hc Q hq
  obtain rfl:c=_:=navEq hc rfl
  refine ALoopU.know fun hk hs=> ?_
  have d1:=hs 1 _ rfl
  simp -dsimp[Blk.bnd]at d1
  have d2:=hs 2 _ rfl
  simp -dsimp[Blk.bnd]at d2
  clear hk hs
  refine ALoopU.enter ?_
  repeat(first|refine chk.ga ?_|simp -dsimp)
  refine abr.split (fun h4=> ?_) (fun h4=> ?_)
  ·have q5:(i<x2.args.length):=auq h4
   have z6:((i:Int)<(x2.args.length:Int)):=auz
   rw[if_pos q5]at hF
   have hF:=ob hF;obtain⟨x7,e8,hF⟩:=hF
   have le8:=lt_of_get e8
   repeat(first|refine chk.ga ?_|simp -dsimp[h4,z6,↓e8])
   refine abr.split (fun h9=> ?_) (fun h9=> ?_)
   ·have q10:(x7.index=(-1)):=auq h9
    rw[if_pos q10]at hF
    repeat(first|refine chk.ga ?_|simp -dsimp[h4,z6,↓e8,h9])
    have hF:=ob hF;obtain⟨v,e11,hF⟩:=hF
    refine((C.f43 B hB1 hB2 x2 t.index v e11)).goW (by first|simp[h4,z6,↓e8,h9];done|simp_all) (by simp) ?_
    have hF:=oc hF;obtain⟨c12,hF⟩:=hF
    have w13:IntKind.i64.wrap ((i:Int)+1)=(i:Int)+1:=wrap_in (by omega) (by omega)
    repeat(first|refine chk.ga ?_|simp -dsimp[h4,z6,↓e8,h9,w13])
    refine Again.go _ ?_ ((ih_f44 (out++[(⟨x7.data,v⟩:Vl.Ty)]) (i+1) o hF) _ rfl _ hq)
    exact(Gh.to3 (by simp) (by first|simp -dsimp[h4,z6,↓e8,h9,w13];done|simp_all))
   ·have q10:¬(x7.index=(-1)):=auq h9
    rw[if_neg q10]at hF
    have hF:=oc hF;obtain⟨c14,hF⟩:=hF
    have w15:IntKind.i64.wrap ((i:Int)+1)=(i:Int)+1:=wrap_in (by omega) (by omega)
    repeat(first|refine chk.ga ?_|simp -dsimp[h4,z6,↓e8,h9,q10,w15])
    refine Again.go _ ?_ ((ih_f44 (out++[x7]) (i+1) o hF) _ rfl _ hq)
    exact(Gh.to3 (by simp) (by first|simp -dsimp[h4,z6,↓e8,h9,q10,w15];done|simp_all))
  ·have q5:¬(i<x2.args.length):=auq h4
   have z6:¬((i:Int)<(x2.args.length:Int)):=auz
   rw[if_neg q5]at hF
   cases hF
   repeat(first|refine chk.ga ?_|simp -dsimp[h4,q5,z6])
   refine Leave.go ⟨[(7,.own 1 (List.length (α:=Vl.Ty) out))],[.dead,.elems 2 (List.map Vl.Ty.c out)]⟩ (Gh.to3 (by simp) (by first|simp -dsimp[h4,q5,z6];done|simp_all)) ?_
   exact hq
theorem C.f45 (w:List Vl.Data)(t:Vl.Ty)(ctor:Int)(r:List Vl.Ty)(hF:F.f45 w t ctor=some r):PureCall Tryz.prog B 40 [.arr (List.map Vl.Data.c w),.agg [.lit (.int .i64 t.data),.lit (.int .i64 t.index)],.lit (.int .i64 ctor)] (.arr (List.map Vl.Ty.c r)):=by
 unfold F.f45 at hF
 refine PureCall.enterLe Tryz.func40 (by kernel_rfl) rfl Tryz.ntmps40 (by simp) (by simp) ?_
 have hF:=ob hF;obtain⟨x,e1a,hF⟩:=hF
 have e1a:=at_some e1a;obtain⟨ne1,e1⟩:=e1a
 have le1:=lt_of_get e1
 have hF:=ob hF;obtain⟨x2,e3a,hF⟩:=hF
 have e3a:=at_some e3a;obtain⟨ne3,e3⟩:=e3a
 have le3:=lt_of_get e3
 repeat(first|refine chk.ga ?_|simp -dsimp[↓e1,↓e3])
 have hF:=ob hF;obtain⟨o',ho16,hF⟩:=hF
 refine ALoop.goU _ ?_ (((CC.f44 B hB1 hB2 t x2) [] 0 o' ho16) _ rfl _ ?_)
 ·exact(Gh.to3 (by simp) (by first|simp -dsimp[↓e1,↓e3];done|simp_all))
 cases hF
 repeat(first|refine chk.ga ?_|simp -dsimp)
 all_goals(try first|omega|rfl)
theorem C.f46 (t:Vl.Ty)(r:Int)(hF:F.f46 t=some r):PureCall Tryz.prog B 66 [.agg [.lit (.int .i64 t.data),.lit (.int .i64 t.index)]] (.lit (.int .i64 r)):=by
 unfold F.f46 at hF
 refine PureCall.enterLe Tryz.func66 (by kernel_rfl) rfl Tryz.ntmps66 (by simp) (by simp) ?_
 cases hF
 repeat(first|refine chk.ga ?_|simp -dsimp)
 all_goals(try first|omega|rfl)
theorem C.f47 (table:List Int)(t:Vl.Ty)(r:Int)(hF:F.f47 table t=some r):PureCall Tryz.prog B 38 [.arr (List.map cI table),.agg [.lit (.int .i64 t.data),.lit (.int .i64 t.index)]] (.lit (.int .i64 r)):=by
 unfold F.f47 at hF
 refine PureCall.enterLe Tryz.func38 (by kernel_rfl) rfl Tryz.ntmps38 (by simp) (by simp) ?_
 repeat(first|refine chk.ga ?_|simp -dsimp)
 refine abr.split (fun h1=> ?_) (fun h1=> ?_)
 ·have q2:(t.data=(-1)):=auq h1
  rw[if_pos q2]at hF
  cases hF
  repeat(first|refine chk.ga ?_|simp -dsimp[h1])
  all_goals(try first|omega|rfl)
 ·have q2:¬(t.data=(-1)):=auq h1
  rw[if_neg q2]at hF
  repeat(first|refine chk.ga ?_|simp -dsimp[h1,q2])
  have hF:=ob hF;obtain⟨v,e3,hF⟩:=hF
  refine((C.f46 B hB1 hB2 t v e3)).goW (by first|simp[h1,q2];done|simp_all) (by simp) ?_
  have hF:=ob hF;obtain⟨x,e4a,hF⟩:=hF
  have e4a:=at_some e4a;obtain⟨ne4,e4⟩:=e4a
  have le4:=lt_of_get e4
  cases hF
  repeat(first|refine chk.ga ?_|simp -dsimp[h1,q2,↓e4])
  all_goals(try first|omega|rfl)
theorem CC.f48 (table:List Int)(v:List Vl.Ty):(∀(most:Int) (i:Nat) (o:Lo Int Int),F.f48 table v most i=some o→∀(c:Code),navO [1,1,1,0,1,0,0] (bodyOf Tryz.f65)=some c→∀(Q:Exit→ASt→Prop),o.post (fun r=>∀st,Post Tryz.prog Tryz.f65 (fun r' _=>r'.le (.lit (.int .i64 r))) .ret st→Q .ret st) (fun s=>Q (.exit 0) ⟨[(10,.lit (.int .i64 s))],[]⟩)→ALoopU Tryz.prog B 0 37 (hold c .mk) ⟨[(1,.arr (List.map cI table)),(9,.arr (List.map Vl.Ty.c v)),(10,.lit (.int .i64 most)),(11,.lit (.int .i64 (i:Int)))],[]⟩ (hold Q .mk)):=by
 refine F.f48.partial_correctness table v
  _
  ?_
 ·intro _f_f48 ih_f48 most i o hF
  intro c hc Q hq
  obtain rfl:c=_:=navEq hc rfl
  refine ALoopU.know fun hk hs=> ?_
  have b1:=hk 1
  simp -dsimp at b1
  have b9:=hk 9
  simp -dsimp at b9
  clear hk hs
  refine ALoopU.enter ?_
  repeat(first|refine chk.ga ?_|simp -dsimp)
  refine abr.split (fun h2=> ?_) (fun h2=> ?_)
  ·have q3:(i<v.length):=auq h2
   have z4:((i:Int)<(v.length:Int)):=auz
   rw[if_pos q3]at hF
   have hF:=ob hF;obtain⟨x,e5,hF⟩:=hF
   have le5:=lt_of_get e5
   repeat(first|refine chk.ga ?_|simp -dsimp[h2,z4,↓e5])
   have hF:=ob hF;obtain⟨v6,e7,hF⟩:=hF
   refine((C.f47 B hB1 hB2 table x v6 e7)).goW (by first|simp[h2,z4,↓e5];done|simp_all) (by simp) ?_
   repeat(first|refine chk.ga ?_|simp -dsimp[h2,z4,↓e5])
   refine abr.split (fun h8=> ?_) (fun h8=> ?_)
   ·have q9:(v6=0):=auq h8
    rw[if_pos q9]at hF
    cases hF
    repeat(first|refine chk.ga ?_|simp -dsimp[h2,z4,↓e5,eq_true h8])
    refine Leave.go _ (Gh.refl _) (hq _ ?_)
    repeat(first|refine chk.ga ?_|simp -dsimp[h2,z4,↓e5,eq_true h8])
   ·have q9:¬(v6=0):=auq h8
    rw[if_neg q9]at hF
    repeat(first|refine chk.ga ?_|simp -dsimp[h2,z4,↓e5,h8,q9])
    refine abr.split (fun h10=> ?_) (fun h10=> ?_)
    ·have q11:(most<v6):=auq h10
     rw[if_pos q11]at hF
     have w12:IntKind.i64.wrap ((i:Int)+1)=(i:Int)+1:=wrap_in (by omega) (by omega)
     repeat(first|refine chk.ga ?_|simp -dsimp[h2,z4,↓e5,h8,q9,h10,w12])
     refine Again.go _ ?_ ((ih_f48 v6 (i+1) o hF) _ rfl _ hq)
     exact(Gh.to3 (by simp) (by first|simp -dsimp[h2,z4,↓e5,h8,q9,h10,w12];done|simp_all))
    ·have q11:¬(most<v6):=auq h10
     rw[if_neg q11]at hF
     have w13:IntKind.i64.wrap ((i:Int)+1)=(i:Int)+1:=wrap_in (by omega) (by omega)
     repeat(first|refine chk.ga ?_|simp -dsimp[h2,z4,↓e5,h8,q9,h10,q11,w13])
     refine Again.go _ ?_ ((ih_f48 most (i+1) o hF) _ rfl _ hq)
     exact(Gh.to3 (by simp) (by first|simp -dsimp[h2,z4,↓e5,h8,q9,h10,q11,w13];done|simp_all))
  ·have q3:¬(i<v.length):=auq h2
   have z4:¬((i:Int)<(v.length:Int)):=auz
   rw[if_neg q3]at hF
   cases hF
   repeat(first|refine chk.ga ?_|simp -dsimp[h2,q3,z4])
   refine Leave.go ⟨[(10,.lit (.int .i64 most))],[]⟩ (Gh.to3 (by simp) (by first|simp -dsimp[h2,q3,z4];done|simp_all)) ?_
   exact hq
theorem C.f49 (w:List Vl.Data)(table:List Int)(t:Vl.Ty)(ctor:Int)(r:Int)(hF:F.f49 w table t ctor=some r):PureCall Tryz.prog B 65 [.arr (List.map Vl.Data.c w),.arr (List.map cI table),.agg [.lit (.int .i64 t.data),.lit (.int .i64 t.index)],.lit (.int .i64 ctor)] (.lit (.int .i64 r)):=by
 unfold F.f49 at hF
 refine PureCall.enterLe Tryz.func65 (by kernel_rfl) rfl Tryz.ntmps65 (by simp) (by simp) ?_
 repeat(first|refine chk.ga ?_|simp -dsimp)
 have hF:=ob hF;obtain⟨v,e1,hF⟩:=hF
 refine((C.f45 B hB1 hB2 w t ctor v e1)).goW (by simp) (by simp) ?_
 repeat(first|refine chk.ga ?_|simp -dsimp)
 have hF:=ob hF;obtain⟨o',ho14,hF⟩:=hF
 refine ALoop.goU _ ?_ (((CC.f48 B hB1 hB2 table v) (0:Int) 0 o' ho14) _ rfl _ ?_)
 ·exact(Gh.to3 (by simp) (by simp -dsimp))
 rcases o' with r0|sx
 ·dsimp only at hF
  cases hF
  intro st h
  simpa using h
 ·dsimp only at hF
  cases hF
  repeat(first|refine chk.ga ?_|simp -dsimp)
  all_goals(try first|omega|rfl)
theorem CC.f50 (w:List Vl.Data)(n:Nat)(s:Nat)(v:List Int):(∀(table10:List Int) (i:Nat) (o:List Int),F.f50 w n s v table10 i=some o→∀(c:Code),navO [1,1,0,1,0,0,1,0,0,1,0,0,1,0,0,1,1,1,0,0] (bodyOf Tryz.f36)=some c→∀(Q:Exit→ASt→Prop),(Q (.exit 4) ⟨[(0,.arr (List.map Vl.Data.c w)),(3,.own 0 (List.length (α:=Int) o)),(4,.lit (.int .i64 (n:Int))),(5,.lit (.int .i64 (s:Int)))],[.elems 1 (List.map cI o)]⟩)→ALoopU Tryz.prog B 0 70 (hold c .mk) ⟨[(0,.arr (List.map Vl.Data.c w)),(3,.own 0 (List.length (α:=Int) table10)),(4,.lit (.int .i64 (n:Int))),(5,.lit (.int .i64 (s:Int))),(6,.ptr 1 0),(7,.arr (List.map cI v)),(8,.lit (.int .i64 (i:Int)))],[.elems 1 (List.map cI table10),.cells [.lit (.int .i64 (IntKind.i64.wrap ((s:Int).tdiv 4))),.lit (.int .i64 ((s:Int).tmod 4))]]⟩ (hold Q .mk)):=by
 refine F.f50.partial_correctness w n s v
  _
  ?_
 ·intro _f_f50 ih_f50 table10 i o hF
  intro c hc Q hq
  obtain rfl:c=_:=navEq hc rfl
  refine ALoopU.know fun hk hs=> ?_
  have b0:=hk 0
  simp -dsimp at b0
  have b7:=hk 7
  simp -dsimp at b7
  have d0:=hs 0 _ rfl
  simp -dsimp[Blk.bnd]at d0
  clear hk hs
  refine ALoopU.enter ?_
  repeat(first|refine chk.ga ?_|simp -dsimp)
  refine abr.split (fun h11=> ?_) (fun h11=> ?_)
  ·have q12:(i<v.length):=auq h11
   have z13:((i:Int)<(v.length:Int)):=auz
   rw[if_pos q12]at hF
   repeat(first|refine chk.ga ?_|simp -dsimp[h11,z13])
   refine ADraw.eff [65] [(0,0),(0,0),(0,0),(0,0),(0,0),(0,0),(0,0),(0,1),(1,1)] [1,1,1,1,1,1,1,1,1] follows (by kernel_rfl) (by kernel_rfl) (by kernel_rfl) ?_
   have hF:=ob hF;obtain⟨x,e14,hF⟩:=hF
   have le14:=lt_of_get e14
   repeat(first|refine chk.ga ?_|simp -dsimp[h11,z13,↓e14])
   have hF:=ob hF;obtain⟨v15,e16,hF⟩:=hF
   refine((C.f49 B hB1 hB2 w table10 (⟨IntKind.i64.wrap ((s:Int).tdiv 4),(s:Int).tmod 4⟩:Vl.Ty) x v15 e16)).elend (by first|simp -dsimp[h11,z13,↓e14];done|simp_all) (by simp -dsimp) ?_
   repeat(first|refine chk.ga ?_|simp -dsimp[h11,z13,↓e14])
   refine abr.split (fun h17=> ?_) (fun h17=> ?_)
   ·have q18:(0<v15):=auq h17
    rw[if_pos q18]at hF
    have hF:=ob hF;obtain⟨x19,e20,hF⟩:=hF
    have le20:=lt_of_get e20
    repeat(first|refine chk.ga ?_|simp -dsimp[h11,z13,↓e14,h17,↓e20])
    refine abr.split (fun h21=> ?_) (fun h21=> ?_)
    ·have q22:¬(x19=0):=auq h21
     rw[if_neg q22]at hF
     repeat(first|refine chk.ga ?_|simp -dsimp[h11,z13,↓e14,h17,↓e20,h21,q22])
     refine abr.split (fun h23=> ?_) (fun h23=> ?_)
     ·have q24:(v15<x19):=auq h23
      rw[if_pos q24]at hF
      have w25:IntKind.i64.wrap ((i:Int)+1)=(i:Int)+1:=wrap_in (by omega) (by omega)
      repeat(first|refine chk.ga ?_|simp -dsimp[h11,z13,↓e14,h17,↓e20,h21,q22,h23,w25])
      refine Again.go _ ?_ ((ih_f50 (table10.set s v15) (i+1) o hF) _ rfl _ hq)
      exact(Gh.to3 (by simp) (by first|simp -dsimp[h11,z13,↓e14,h17,↓e20,h21,q22,h23,w25];done|simp_all))
     ·have q24:¬(v15<x19):=auq h23
      rw[if_neg q24]at hF
      have w26:IntKind.i64.wrap ((i:Int)+1)=(i:Int)+1:=wrap_in (by omega) (by omega)
      repeat(first|refine chk.ga ?_|simp -dsimp[h11,z13,↓e14,h17,↓e20,h21,q22,h23,q24,w26])
      refine Again.go _ ?_ ((ih_f50 table10 (i+1) o hF) _ rfl _ hq)
      exact(Gh.to3 (by simp) (by first|simp -dsimp[h11,z13,↓e14,h17,↓e20,h21,q22,h23,q24,w26];done|simp_all))
    ·have q22:(x19=0):=auq h21
     rw[if_pos q22]at hF
     have w27:IntKind.i64.wrap ((i:Int)+1)=(i:Int)+1:=wrap_in (by omega) (by omega)
     repeat(first|refine chk.ga ?_|simp -dsimp[h11,z13,↓e14,h17,↓e20,eq_true h21,eq_true q22,w27])
     refine Again.go _ ?_ ((ih_f50 (table10.set s v15) (i+1) o hF) _ rfl _ hq)
     exact(Gh.to3 (by simp) (by first|simp -dsimp[h11,z13,↓e14,h17,↓e20,eq_true h21,eq_true q22,w27];done|simp_all))
   ·have q18:¬(0<v15):=auq h17
    rw[if_neg q18]at hF
    have w28:IntKind.i64.wrap ((i:Int)+1)=(i:Int)+1:=wrap_in (by omega) (by omega)
    repeat(first|refine chk.ga ?_|simp -dsimp[h11,z13,↓e14,h17,q18,w28])
    refine Again.go _ ?_ ((ih_f50 table10 (i+1) o hF) _ rfl _ hq)
    exact(Gh.to3 (by simp) (by first|simp -dsimp[h11,z13,↓e14,h17,q18,w28];done|simp_all))
  ·have q12:¬(i<v.length):=auq h11
   have z13:¬((i:Int)<(v.length:Int)):=auz
   rw[if_neg q12]at hF
   cases hF
   repeat(first|refine chk.ga ?_|simp -dsimp[h11,q12,z13])
   refine Leave.go ⟨[(0,.arr (List.map Vl.Data.c w)),(3,.own 0 (List.length (α:=Int) table10)),(4,.lit (.int .i64 (n:Int))),(5,.lit (.int .i64 (s:Int)))],[.elems 1 (List.map cI table10)]⟩ (Gh.to3 (by simp) (by first|simp -dsimp[h11,q12,z13];done|simp_all)) ?_
   exact hq
theorem CC.f51 (w:List Vl.Data)(n:Nat):(∀(table5:List Int) (s:Nat) (o:List Int),F.f51 w n table5 s=some o→∀(c:Code),navO [1,1,0,1,0,0,1,0,0,1,0,0] (bodyOf Tryz.f36)=some c→∀(Q:Exit→ASt→Prop),(Q (.exit 2) ⟨[(0,.arr (List.map Vl.Data.c w)),(3,.own 0 (List.length (α:=Int) o)),(4,.lit (.int .i64 (n:Int)))],[.elems 1 (List.map cI o)]⟩)→ALoopU Tryz.prog B 0 70 (hold c .mk) ⟨[(0,.arr (List.map Vl.Data.c w)),(3,.own 0 (List.length (α:=Int) table5)),(4,.lit (.int .i64 (n:Int))),(5,.lit (.int .i64 (s:Int)))],[.elems 1 (List.map cI table5)]⟩ (hold Q .mk)):=by
 refine F.f51.partial_correctness w n
  _
  ?_
 ·intro _f_f51 ih_f51 table5 s o hF
  intro c hc Q hq
  obtain rfl:c=_:=navEq hc rfl
  refine ALoopU.know fun hk hs=> ?_
  have b0:=hk 0
  simp -dsimp at b0
  have d0:=hs 0 _ rfl
  simp -dsimp[Blk.bnd]at d0
  clear hk hs
  refine ALoopU.enter ?_
  repeat(first|refine chk.ga ?_|simp -dsimp)
  refine abr.split (fun h6=> ?_) (fun h6=> ?_)
  ·have q7:(s<table5.length):=auq h6
   have z8:((s:Int)<(table5.length:Int)):=auz
   rw[if_pos q7]at hF
   repeat(first|refine chk.ga ?_|simp -dsimp[h6,z8])
   have hF:=ob hF;obtain⟨v,e9,hF⟩:=hF
   refine((C.f42 B hB1 hB2 w (⟨IntKind.i64.wrap ((s:Int).tdiv 4),(s:Int).tmod 4⟩:Vl.Ty) v e9)).goW (by first|simp[h6,z8];done|simp_all) (by simp) ?_
   repeat(first|refine chk.ga ?_|simp -dsimp[h6,z8])
   have hF:=ob hF;obtain⟨o',ho29,hF⟩:=hF
   refine ALoop.goU _ ?_ (((CC.f50 B hB1 hB2 w n s v) table5 0 o' ho29) _ rfl _ ?_)
   ·exact(Gh.to3 (by simp) (by first|simp -dsimp[h6,z8];done|simp_all))
   have hF:=oc hF;obtain⟨c30,hF⟩:=hF
   have w31:IntKind.i64.wrap ((s:Int)+1)=(s:Int)+1:=wrap_in (by omega) (by omega)
   repeat(first|refine chk.ga ?_|simp -dsimp[w31])
   refine Again.go _ ?_ ((ih_f51 o' (s+1) o hF) _ rfl _ hq)
   exact(Gh.to3 (by simp) (by first|simp -dsimp[w31];done|simp_all))
  ·have q7:¬(s<table5.length):=auq h6
   have z8:¬((s:Int)<(table5.length:Int)):=auz
   rw[if_neg q7]at hF
   cases hF
   repeat(first|refine chk.ga ?_|simp -dsimp[h6,q7,z8])
   refine Leave.go ⟨[(0,.arr (List.map Vl.Data.c w)),(3,.own 0 (List.length (α:=Int) table5)),(4,.lit (.int .i64 (n:Int)))],[.elems 1 (List.map cI table5)]⟩ (Gh.to3 (by simp) (by first|simp -dsimp[h6,q7,z8];done|simp_all)) ?_
   exact hq
theorem CC.f52 (w:List Vl.Data):(∀(table:List Int) (n:Nat) (o:List Int),F.f52 w table n=some o→∀(c:Code),navO [1,1,0,1,0,0] (bodyOf Tryz.f36)=some c→∀(Q:Exit→ASt→Prop),(Q (.exit 0) ⟨[(3,.own 0 (List.length (α:=Int) o))],[.elems 1 (List.map cI o)]⟩)→ALoopU Tryz.prog B 0 70 (hold c .mk) ⟨[(0,.arr (List.map Vl.Data.c w)),(3,.own 0 (List.length (α:=Int) table)),(4,.lit (.int .i64 (n:Int)))],[.elems 1 (List.map cI table)]⟩ (hold Q .mk)):=by
 refine F.f52.partial_correctness w
  _
  ?_
 ·intro _f_f52 ih_f52 table n o hF
  intro c hc Q hq
  obtain rfl:c=_:=navEq hc rfl
  refine ALoopU.know fun hk hs=> ?_
  have b0:=hk 0
  simp -dsimp at b0
  have d0:=hs 0 _ rfl
  simp -dsimp[Blk.bnd]at d0
  clear hk hs
  refine ALoopU.enter ?_
  repeat(first|refine chk.ga ?_|simp -dsimp)
  refine abr.split (fun h2=> ?_) (fun h2=> ?_)
  ·have q3:(n≤table.length):=auq h2
   have z4:((n:Int)≤(table.length:Int)):=auz
   rw[if_pos q3]at hF
   repeat(first|refine chk.ga ?_|simp -dsimp[h2,z4])
   have hF:=ob hF;obtain⟨o'33,ho32,hF⟩:=hF
   refine ALoop.goU _ ?_ (((CC.f51 B hB1 hB2 w n) table 0 o'33 ho32) _ rfl _ ?_)
   ·exact(Gh.to3 (by simp) (by first|simp -dsimp[h2,z4];done|simp_all))
   have hF:=oc hF;obtain⟨c34,hF⟩:=hF
   have w35:IntKind.i64.wrap ((n:Int)+1)=(n:Int)+1:=wrap_in (by omega) (by omega)
   repeat(first|refine chk.ga ?_|simp -dsimp[w35])
   refine Again.go _ ?_ ((ih_f52 o'33 (n+1) o hF) _ rfl _ hq)
   exact(Gh.to3 (by simp) (by first|simp -dsimp[w35];done|simp_all))
  ·have q3:¬(n≤table.length):=auq h2
   have z4:¬((n:Int)≤(table.length:Int)):=auz
   rw[if_neg q3]at hF
   cases hF
   repeat(first|refine chk.ga ?_|simp -dsimp[h2,q3,z4])
   refine Leave.go ⟨[(3,.own 0 (List.length (α:=Int) table))],[.elems 1 (List.map cI table)]⟩ (Gh.to3 (by simp) (by first|simp -dsimp[h2,q3,z4];done|simp_all)) ?_
   exact hq
theorem C.f53 (w:List Vl.Data)(r:List Int)(hF:F.f53 w=some r):PureCall Tryz.prog B 36 [.arr (List.map Vl.Data.c w)] (.arr (List.map cI r)):=by
 unfold F.f53 at hF
 refine PureCall.enterLe Tryz.func36 (by kernel_rfl) rfl Tryz.ntmps36 (by simp) (by simp) ?_
 have hF:=oc hF;obtain⟨c1,hF⟩:=hF
 repeat(first|refine chk.ga ?_|simp -dsimp)
 have hF:=ob hF;obtain⟨o'37,ho36,hF⟩:=hF
 refine ALoop.goU _ ?_ (((CC.f52 B hB1 hB2 w) (List.replicate ((IntKind.i64.wrap ((w.length:Int)*4)).toNat) (0:Int)) 0 o'37 ho36) _ rfl _ ?_)
 ·exact(Gh.to3 (by simp) (by simp -dsimp))
 cases hF
 repeat(first|refine chk.ga ?_|simp -dsimp)
 all_goals(try first|omega|rfl)
theorem C.f54 (r':Vl.T_spec_l17Rd)(list:List Int)(r:Int×Vl.T_spec_l17Rd)(hF:F.f54 r' list=some r):MutCall Tryz.prog B 19 [.arr (List.map cU r'.f0),.lit (.int .i64 r'.f1)] [.ptr 0 0,.arr (List.map cI list)] (.lit (.int .i64 r.1)) [.arr (List.map cU r.2.f0),.lit (.int .i64 r.2.f1)]:=by
 unfold F.f54 at hF
 refine MutCall.enter Tryz.func19 (by kernel_rfl) rfl Tryz.ntmps19 (by simp) (by simp) (by simp) (by simp) ?_
 repeat(first|refine chk.ga ?_|simp -dsimp)
 have hF:=ob hF;obtain⟨v,e1,hF⟩:=hF
 refine((C.f1 B hB1 hB2 r' (list.length:Int) v e1)).go 0 rfl (by simp) (by simp) (by simp) ?_
 have hF:=ob hF;obtain⟨x,e2a,hF⟩:=hF
 have e2a:=at_some e2a;obtain⟨ne2,e2⟩:=e2a
 have le2:=lt_of_get e2
 cases hF
 repeat(first|refine chk.ga ?_|simp -dsimp[↓e2])
 all_goals(try first|omega|rfl)
theorem CC.f55 (r':Vl.T_spec_l17Rd)(w:List Vl.Data)(table:List Int)(t:Vl.Ty)(depth:Int)(v4:List Int):(∀(fine:List Int) (i:Nat) (o:List Int),F.f55 r' w table t depth v4 fine i=some o→∀(c:Code),navO [1,1,1,1,0,1,0,0] (bodyOf Tryz.f39)=some c→∀(Q:Exit→ASt→Prop),(Q (.exit 0) ⟨[(0,.ptr 0 0),(1,.arr (List.map Vl.Data.c w)),(2,.arr (List.map cI table)),(4,.lit (.int .i64 depth)),(8,.ptr 1 0),(10,.ptr 2 0),(12,.own 3 (List.length (α:=Int) o))],[.cells [.arr (List.map cU r'.f0),.lit (.int .i64 r'.f1)],.cells [.lit (.int .i64 t.data),.lit (.int .i64 t.index)],.cells [.lit (.int .i64 0),.lit (.int .i64 0),.lit (.slice none 0 0)],.elems 1 (List.map cI o)]⟩)→ALoopU Tryz.prog B 1 98 (hold c .mk) ⟨[(0,.ptr 0 0),(1,.arr (List.map Vl.Data.c w)),(2,.arr (List.map cI table)),(4,.lit (.int .i64 depth)),(8,.ptr 1 0),(10,.ptr 2 0),(11,.arr (List.map cI v4)),(12,.own 3 (List.length (α:=Int) fine)),(13,.lit (.int .i64 (i:Int)))],[.cells [.arr (List.map cU r'.f0),.lit (.int .i64 r'.f1)],.cells [.lit (.int .i64 t.data),.lit (.int .i64 t.index)],.cells [.lit (.int .i64 0),.lit (.int .i64 0),.lit (.slice none 0 0)],.elems 1 (List.map cI fine)]⟩ (hold Q .mk)):=by
 refine F.f55.partial_correctness r' w table t depth v4
  _
  ?_
 ·intro _f_f55 ih_f55 fine i o hF
  intro c hc Q hq
  obtain rfl:c=_:=navEq hc rfl
  refine ALoopU.know fun hk hs=> ?_
  have b1:=hk 1
  simp -dsimp at b1
  have b2:=hk 2
  simp -dsimp at b2
  have b11:=hk 11
  simp -dsimp at b11
  have d0:=hs 0 _ rfl
  simp -dsimp[Blk.bnd]at d0
  have d3:=hs 3 _ rfl
  simp -dsimp[Blk.bnd]at d3
  clear hk hs
  refine ALoopU.enter ?_
  repeat(first|refine chk.ga ?_|simp -dsimp)
  refine abr.split (fun h6=> ?_) (fun h6=> ?_)
  ·have q7:(i<v4.length):=auq h6
   have z8:((i:Int)<(v4.length:Int)):=auz
   rw[if_pos q7]at hF
   repeat(first|refine chk.ga ?_|simp -dsimp[h6,z8])
   refine ADraw.simple follows (by kernel_rfl) (by kernel_rfl) ?_
   have hF:=ob hF;obtain⟨x,e9,hF⟩:=hF
   have le9:=lt_of_get e9
   repeat(first|refine chk.ga ?_|simp -dsimp[h6,z8,↓e9])
   have hF:=ob hF;obtain⟨v10,e11,hF⟩:=hF
   refine((C.f49 B hB1 hB2 w table t x v10 e11)).pgoW (by first|simp[h6,z8,↓e9];done|simp_all) (by simp) ?_
   repeat(first|refine chk.ga ?_|simp -dsimp[h6,z8,↓e9])
   refine abr.split (fun h12=> ?_) (fun h12=> ?_)
   ·have q13:(0<v10):=auq h12
    rw[if_pos q13]at hF
    repeat(first|refine chk.ga ?_|simp -dsimp[h6,z8,↓e9,h12])
    refine abr.split (fun h14=> ?_) (fun h14=> ?_)
    ·have q15:¬(v10≤depth):=auq h14
     rw[if_neg q15]at hF
     repeat(first|refine chk.ga ?_|simp -dsimp[h6,z8,↓e9,h12,h14,q15])
     have hF:=ob hF;obtain⟨v16,e17,hF⟩:=hF
     refine((C.f47 B hB1 hB2 table t v16 e17)).goW (by first|simp[h6,z8,↓e9,h12,h14,q15];done|simp_all) (by simp) ?_
     repeat(first|refine chk.ga ?_|simp -dsimp[h6,z8,↓e9,h12,h14,q15])
     refine abr.split (fun h18=> ?_) (fun h18=> ?_)
     ·have q19:(v10=v16):=auq h18
      rw[if_pos q19]at hF
      have hF:=oc hF;obtain⟨c20,hF⟩:=hF
      have w21:IntKind.i64.wrap ((i:Int)+1)=(i:Int)+1:=wrap_in (by omega) (by omega)
      repeat(first|refine chk.ga ?_|simp -dsimp[h6,z8,↓e9,h12,h14,q15,h18,w21])
      refine Again.go _ ?_ ((ih_f55 (fine++[x]) (i+1) o hF) _ rfl _ hq)
      exact(Gh.to3 (by simp) (by first|simp -dsimp[h6,z8,↓e9,h12,h14,q15,h18,w21];done|simp_all))
     ·have q19:¬(v10=v16):=auq h18
      rw[if_neg q19]at hF
      have w22:IntKind.i64.wrap ((i:Int)+1)=(i:Int)+1:=wrap_in (by omega) (by omega)
      repeat(first|refine chk.ga ?_|simp -dsimp[h6,z8,↓e9,h12,h14,q15,h18,q19,w22])
      refine Again.go _ ?_ ((ih_f55 fine (i+1) o hF) _ rfl _ hq)
      exact(Gh.to3 (by simp) (by first|simp -dsimp[h6,z8,↓e9,h12,h14,q15,h18,q19,w22];done|simp_all))
    ·have q15:(v10≤depth):=auq h14
     rw[if_pos q15]at hF
     have hF:=oc hF;obtain⟨c23,hF⟩:=hF
     have w24:IntKind.i64.wrap ((i:Int)+1)=(i:Int)+1:=wrap_in (by omega) (by omega)
     repeat(first|refine chk.ga ?_|simp -dsimp[h6,z8,↓e9,h12,h14,q15,w24])
     refine Again.go _ ?_ ((ih_f55 (fine++[x]) (i+1) o hF) _ rfl _ hq)
     exact(Gh.to3 (by simp) (by first|simp -dsimp[h6,z8,↓e9,h12,h14,q15,w24];done|simp_all))
   ·have q13:¬(0<v10):=auq h12
    rw[if_neg q13]at hF
    have w25:IntKind.i64.wrap ((i:Int)+1)=(i:Int)+1:=wrap_in (by omega) (by omega)
    repeat(first|refine chk.ga ?_|simp -dsimp[h6,z8,↓e9,h12,q13,w25])
    refine Again.go _ ?_ ((ih_f55 fine (i+1) o hF) _ rfl _ hq)
    exact(Gh.to3 (by simp) (by first|simp -dsimp[h6,z8,↓e9,h12,q13,w25];done|simp_all))
  ·have q7:¬(i<v4.length):=auq h6
   have z8:¬((i:Int)<(v4.length:Int)):=auz
   rw[if_neg q7]at hF
   cases hF
   repeat(first|refine chk.ga ?_|simp -dsimp[h6,q7,z8])
   refine Leave.go ⟨[(0,.ptr 0 0),(1,.arr (List.map Vl.Data.c w)),(2,.arr (List.map cI table)),(4,.lit (.int .i64 depth)),(8,.ptr 1 0),(10,.ptr 2 0),(12,.own 3 (List.length (α:=Int) fine))],[.cells [.arr (List.map cU r'.f0),.lit (.int .i64 r'.f1)],.cells [.lit (.int .i64 t.data),.lit (.int .i64 t.index)],.cells [.lit (.int .i64 0),.lit (.int .i64 0),.lit (.slice none 0 0)],.elems 1 (List.map cI fine)]⟩ (Gh.to3 (by simp) (by first|simp -dsimp[h6,q7,z8];done|simp_all)) ?_
   exact hq
theorem CC.f56 (w:List Vl.Data)(table:List Int):(∀(r':Vl.T_spec_l17Rd) (t:Vl.Ty) (depth:Int) (r:Vl.Value×Vl.T_spec_l17Rd),F.f56 r' w table t depth=some r→MutCall Tryz.prog B 39 [.arr (List.map cU r'.f0),.lit (.int .i64 r'.f1)] [.ptr 0 0,.arr (List.map Vl.Data.c w),.arr (List.map cI table),.agg [.lit (.int .i64 t.data),.lit (.int .i64 t.index)],.lit (.int .i64 depth)] (.agg [.lit (.int .i64 r.1.ctor),.lit (.int .i64 r.1.n),.arr (List.map Vl.Value.c r.1.kids)]) [.arr (List.map cU r.2.f0),.lit (.int .i64 r.2.f1)])∧
  (∀(depth:Int) (x29:Int) (v31:List Vl.Ty) (z:List Int) (z33:Int) (out:List Vl.Value) (i34:Nat) (o:(List Int)×Int×(List Vl.Value)),F.f57 w table depth x29 v31 z z33 out i34=some o→∀(c:Code),navO [1,1,1,1,1,1,1,0,1,0,0] (bodyOf Tryz.f39)=some c→∀(Q:Exit→ASt→Prop),(Q (.exit 2) ⟨[(10,.ptr 2 0),(15,.ptr 4 0)],[.cells [.arr (List.map cU o.1),.lit (.int .i64 o.2.1)],.dead,.cells [.lit (.int .i64 0),.lit (.int .i64 0),.lit (.slice none 0 0)],.dead,.cells [.lit (.int .i64 x29),.lit (.int .i64 0),.own 5 (List.length (α:=Vl.Value) o.2.2)],.elems 3 (List.map Vl.Value.c o.2.2)]⟩)→ALoopU Tryz.prog B 1 98 (hold c .mk) ⟨[(0,.ptr 0 0),(1,.arr (List.map Vl.Data.c w)),(2,.arr (List.map cI table)),(4,.lit (.int .i64 depth)),(10,.ptr 2 0),(15,.ptr 4 0),(16,.arr (List.map Vl.Ty.c v31)),(17,.lit (.int .i64 (i34:Int)))],[.cells [.arr (List.map cU z),.lit (.int .i64 z33)],.dead,.cells [.lit (.int .i64 0),.lit (.int .i64 0),.lit (.slice none 0 0)],.dead,.cells [.lit (.int .i64 x29),.lit (.int .i64 0),.own 5 (List.length (α:=Vl.Value) out)],.elems 3 (List.map Vl.Value.c out)]⟩ (hold Q .mk)):=by
 refine F.f56.mutual_partial_correctness w table
  _ _
  ?_ ?_
 ·intro _f_f57 ih_f57 r' t depth r hF
  refine MutCall.enter Tryz.func39 (by kernel_rfl) rfl Tryz.ntmps39 (by simp) (by simp) (by simp) (by simp) ?_
  repeat(first|refine chk.ga ?_|simp -dsimp)
  refine abr.split (fun h1=> ?_) (fun h1=> ?_)
  ·have q2:(t.data=(-1)):=auq h1
   rw[if_pos q2]at hF
   repeat(first|refine chk.ga ?_|simp -dsimp[h1])
   have hF:=ob hF;obtain⟨v,e3,hF⟩:=hF
   refine((C.f1 B hB1 hB2 r' (10:Int) v e3)).go 0 rfl (by first|simp[h1];done|simp_all) (by simp) (by first|simp[h1];done|simp_all) ?_
   cases hF
   repeat(first|refine chk.ga ?_|simp -dsimp[h1])
   all_goals(try first|omega|rfl)
  ·have q2:¬(t.data=(-1)):=auq h1
   rw[if_neg q2]at hF
   repeat(first|refine chk.ga ?_|simp -dsimp[h1,q2])
   have hF:=ob hF;obtain⟨v4,e5,hF⟩:=hF
   refine((C.f42 B hB1 hB2 w t v4 e5)).goW (by first|simp[h1,q2];done|simp_all) (by simp) ?_
   repeat(first|refine chk.ga ?_|simp -dsimp[h1,q2])
   have hF:=ob hF;obtain⟨o',ho26,hF⟩:=hF
   refine ALoop.goU _ ?_ (((CC.f55 B hB1 hB2 r' w table t depth v4) [] 0 o' ho26) _ rfl _ ?_)
   ·exact(Gh.to3 (by simp) (by first|simp -dsimp[h1,q2];done|simp_all))
   repeat(first|refine chk.ga ?_|simp -dsimp)
   have hF:=ob hF;obtain⟨v27,e28,hF⟩:=hF
   refine((C.f1 B hB1 hB2 r' (o'.length:Int) v27 e28)).go 0 rfl (by simp) (by simp) (by simp) ?_
   have hF:=ob hF;obtain⟨x29,e30a,hF⟩:=hF
   have e30a:=at_some e30a;obtain⟨ne30,e30⟩:=e30a
   have le30:=lt_of_get e30
   repeat(first|refine chk.ga ?_|simp -dsimp[↓e30])
   have hF:=ob hF;obtain⟨v31,e32,hF⟩:=hF
   refine((C.f45 B hB1 hB2 w t x29 v31 e32)).goW (by first|simp[↓e30];done|simp_all) (by simp) ?_
   repeat(first|refine chk.ga ?_|simp -dsimp[↓e30])
   have hF:=ob hF;obtain⟨o'45,ho44,hF⟩:=hF
   refine ALoop.goU ⟨[(0,.ptr 0 0),(1,.arr (List.map Vl.Data.c w)),(2,.arr (List.map cI table)),(4,.lit (.int .i64 depth)),(10,.ptr 2 0),(15,.ptr 4 0),(16,.arr (List.map Vl.Ty.c v31)),(17,.lit (.int .i64 (0:Int)))],[.cells [.arr (List.map cU v27.2.f0),.lit (.int .i64 v27.2.f1)],.dead,.cells [.lit (.int .i64 0),.lit (.int .i64 0),.lit (.slice none 0 0)],.dead,.cells [.lit (.int .i64 x29),.lit (.int .i64 0),.own 5 (List.length (α:=Vl.Value) [])],.elems 3 (List.map Vl.Value.c [])]⟩ (by refine Gh.trans (Gh.nilCell 4 2 3 (by simp -dsimp;rfl) (by simp -dsimp)) ?_;exact(Gh.to3 (by simp) (by first|simp -dsimp[↓e30];done|simp_all))) ?_
   refine(ih_f57 depth x29 v31 v27.2.f0 v27.2.f1 [] 0 o'45 ho44) _ rfl _ ?_
   cases hF
   repeat(first|refine chk.ga ?_|simp -dsimp)
   all_goals(try first|omega|rfl)
 ·intro _f_f56 _f_f57 ih_f56 ih_f57 depth x29 v31 z z33 out i34 o hF
  intro c hc Q hq
  obtain rfl:c=_:=navEq hc rfl
  refine ALoopU.know fun hk hs=> ?_
  have b1:=hk 1
  simp -dsimp at b1
  have b2:=hk 2
  simp -dsimp at b2
  have b16:=hk 16
  simp -dsimp at b16
  have d0:=hs 0 _ rfl
  simp -dsimp[Blk.bnd]at d0
  have d5:=hs 5 _ rfl
  simp -dsimp[Blk.bnd]at d5
  clear hk hs
  refine ALoopU.enter ?_
  repeat(first|refine chk.ga ?_|simp -dsimp)
  refine abr.split (fun h35=> ?_) (fun h35=> ?_)
  ·have q36:(i34<v31.length):=auq h35
   have z37:((i34:Int)<(v31.length:Int)):=auz
   rw[if_pos q36]at hF
   repeat(first|refine chk.ga ?_|simp -dsimp[h35,z37])
   refine ADraw.eff [39] [(0,2),(0,2),(0,0),(0,0),(0,0),(0,0),(0,0),(0,0),(0,0),(0,0),(0,0),(0,4),(0,4),(0,4),(3,3),(0,4)] [0,2,1,1,1,1,1,1,1,1,1,1,1,1,1,1] follows (by kernel_rfl) (by kernel_rfl) (by kernel_rfl) ?_
   have hF:=ob hF;obtain⟨x38,e39,hF⟩:=hF
   have le39:=lt_of_get e39
   repeat(first|refine chk.ga ?_|simp -dsimp[h35,z37,↓e39])
   have hF:=ob hF;obtain⟨v40,e41,hF⟩:=hF
   refine((ih_f56 (⟨z,z33⟩:Vl.T_spec_l17Rd) x38 (IntKind.i64.wrap (depth-1)) v40 e41)).ego 0 rfl (by first|simp[h35,z37,↓e39];done|simp_all) (by simp) (by first|simp[h35,z37,↓e39];done|simp_all) ?_
   have hF:=oc hF;obtain⟨c42,hF⟩:=hF
   have w43:IntKind.i64.wrap ((i34:Int)+1)=(i34:Int)+1:=wrap_in (by omega) (by omega)
   repeat(first|refine chk.ga ?_|simp -dsimp[h35,z37,↓e39,w43])
   refine Again.go _ ?_ ((ih_f57 depth x29 v31 v40.2.f0 v40.2.f1 (out++[v40.1]) (i34+1) o hF) _ rfl _ hq)
   exact(Gh.to3 (by simp) (by first|simp -dsimp[h35,z37,↓e39,w43];done|simp_all))
  ·have q36:¬(i34<v31.length):=auq h35
   have z37:¬((i34:Int)<(v31.length:Int)):=auz
   rw[if_neg q36]at hF
   cases hF
   repeat(first|refine chk.ga ?_|simp -dsimp[h35,q36,z37])
   refine Leave.go ⟨[(10,.ptr 2 0),(15,.ptr 4 0)],[.cells [.arr (List.map cU z),.lit (.int .i64 z33)],.dead,.cells [.lit (.int .i64 0),.lit (.int .i64 0),.lit (.slice none 0 0)],.dead,.cells [.lit (.int .i64 x29),.lit (.int .i64 0),.own 5 (List.length (α:=Vl.Value) out)],.elems 3 (List.map Vl.Value.c out)]⟩ (Gh.to3 (by simp) (by first|simp -dsimp[h35,q36,z37];done|simp_all)) ?_
   exact hq
theorem C.f58 (r':Vl.T_spec_l17Rd)(r:(List Vl.Data)×Vl.Ty×Vl.Value×Vl.T_spec_l17Rd)(hF:F.f58 r'=some r):MutCall Tryz.prog B 35 [.arr (List.map cU r'.f0),.lit (.int .i64 r'.f1)] [.ptr 0 0] (.tup [.arr (List.map Vl.Data.c r.1),.agg [.lit (.int .i64 r.2.1.data),.lit (.int .i64 r.2.1.index)],.agg [.lit (.int .i64 r.2.2.1.ctor),.lit (.int .i64 r.2.2.1.n),.arr (List.map Vl.Value.c r.2.2.1.kids)]]) [.arr (List.map cU r.2.2.2.f0),.lit (.int .i64 r.2.2.2.f1)]:=by
 unfold F.f58 at hF
 refine MutCall.enter Tryz.func35 (by kernel_rfl) rfl Tryz.ntmps35 (by simp) (by simp) (by simp) (by simp) ?_
 repeat(first|refine chk.ga ?_|simp -dsimp)
 have hF:=ob hF;obtain⟨v,e1,hF⟩:=hF
 refine((C.f39 B hB1 hB2 r' v e1)).go 0 rfl (by simp) (by simp) (by simp) ?_
 repeat(first|refine chk.ga ?_|simp -dsimp)
 have hF:=ob hF;obtain⟨v2,e3,hF⟩:=hF
 refine((C.f53 B hB1 hB2 v.1 v2 e3)).goW (by simp) (by simp) ?_
 repeat(first|refine chk.ga ?_|simp -dsimp)
 have hF:=ob hF;obtain⟨v4,e5,hF⟩:=hF
 refine((C.f1 B hB1 hB2 v.2 (v.1.length:Int) v4 e5)).go 0 rfl (by simp) (by simp) (by simp) ?_
 repeat(first|refine chk.ga ?_|simp -dsimp)
 have hF:=ob hF;obtain⟨v6,e7,hF⟩:=hF
 refine ACall.frz ?_ ((C.f54 B hB1 hB2 v4.2 [(0:Int),(0:Int),(1:Int),(2:Int)] v6 e7)).ent
 repeat(first|refine chk.ga ?_|simp -dsimp)
 refine((C.f54 B hB1 hB2 v4.2 [(0:Int),(0:Int),(1:Int),(2:Int)] v6 e7)).go 0 rfl (by simp) (by simp) (by simp) ?_
 repeat(first|refine chk.ga ?_|simp -dsimp)
 have hF:=ob hF;obtain⟨v8,e9,hF⟩:=hF
 refine((C.f47 B hB1 hB2 v2 (⟨v4.1,v6.1⟩:Vl.Ty) v8 e9)).goW (by simp) (by simp) ?_
 repeat(first|refine chk.ga ?_|simp -dsimp)
 refine abr.split (fun h10=> ?_) (fun h10=> ?_)
 ·have q11:(v8=0):=auq h10
  rw[if_pos q11]at hF
  repeat(first|refine chk.ga ?_|simp -dsimp[eq_true h10])
  refine ADraw.eff [19,39] [(0,3),(0,3),(0,2),(0,2),(0,2),(0,2),(0,1),(0,5),(0,5),(0,5),(3,3),(0,5),(0,5)] [1,2,1,1,1,2,1,1,1,1,1,1,1] follows (by kernel_rfl) (by kernel_rfl) (by kernel_rfl) ?_
  repeat(first|refine chk.ga ?_|simp -dsimp[eq_true h10])
  have hF:=ob hF;obtain⟨v12,e13,hF⟩:=hF
  refine ECallA.frz ?_ ((C.f54 B hB1 hB2 v6.2 [(3:Int),(2:Int),(4:Int),(1:Int)] v12 e13)).ent
  repeat(first|refine chk.ga ?_|simp -dsimp[eq_true h10])
  refine((C.f54 B hB1 hB2 v6.2 [(3:Int),(2:Int),(4:Int),(1:Int)] v12 e13)).ego 0 rfl (by first|simp[eq_true h10];done|simp_all) (by simp) (by first|simp[eq_true h10];done|simp_all) ?_
  repeat(first|refine chk.ga ?_|simp -dsimp[eq_true h10])
  have hF:=ob hF;obtain⟨v14,e15,hF⟩:=hF
  refine(((CC.f56 B hB1 hB2 v.1 v2).1 v12.2 (⟨(-1:Int),(0:Int)⟩:Vl.Ty) v12.1 v14 e15)).ego 0 rfl (by first|simp[eq_true h10];done|simp_all) (by simp) (by first|simp[eq_true h10];done|simp_all) ?_
  cases hF
  repeat(first|refine chk.ga ?_|simp -dsimp[eq_true h10])
  all_goals(try first|omega|rfl)
 ·have q11:¬(v8=0):=auq h10
  rw[if_neg q11]at hF
  repeat(first|refine chk.ga ?_|simp -dsimp[h10,q11])
  refine ADraw.eff [19,39] [(0,3),(0,3),(0,2),(0,2),(0,2),(0,2),(0,1),(0,5),(0,5),(0,5),(3,3),(0,5),(0,5)] [1,2,1,1,1,2,1,1,1,1,1,1,1] follows (by kernel_rfl) (by kernel_rfl) (by kernel_rfl) ?_
  repeat(first|refine chk.ga ?_|simp -dsimp[h10,q11])
  have hF:=ob hF;obtain⟨v16,e17,hF⟩:=hF
  refine ECallA.frz ?_ ((C.f54 B hB1 hB2 v6.2 [(3:Int),(2:Int),(4:Int),(1:Int)] v16 e17)).ent
  repeat(first|refine chk.ga ?_|simp -dsimp[h10,q11])
  refine((C.f54 B hB1 hB2 v6.2 [(3:Int),(2:Int),(4:Int),(1:Int)] v16 e17)).ego 0 rfl (by first|simp[h10,q11];done|simp_all) (by simp) (by first|simp[h10,q11];done|simp_all) ?_
  repeat(first|refine chk.ga ?_|simp -dsimp[h10,q11])
  have hF:=ob hF;obtain⟨v18,e19,hF⟩:=hF
  refine(((CC.f56 B hB1 hB2 v.1 v2).1 v16.2 (⟨v4.1,v6.1⟩:Vl.Ty) v16.1 v18 e19)).ego 0 rfl (by first|simp[h10,q11];done|simp_all) (by simp) (by first|simp[h10,q11];done|simp_all) ?_
  cases hF
  repeat(first|refine chk.ga ?_|simp -dsimp[h10,q11])
  all_goals(try first|omega|rfl)
theorem C.spec_l12Scene__o12 (r':Vl.T_spec_l17Rd)(r:(List Vl.Data)×(List Vl.FunType)×(List Vl.VarType)×Vl.Ty×Vl.T_spec_l17Rd)(hF:F.f59 r'=some r):BCall Tryz.prog B 16 [.cells [.arr (List.map cU r'.f0),.lit (.int .i64 r'.f1)]] [.ptr 0 0] (.tup [.arr (List.map Vl.Data.c r.1),.own 1 (List.length (α:=Vl.FunType) r.2.1),.own 2 (List.length (α:=Vl.VarType) r.2.2.1),.agg [.lit (.int .i64 r.2.2.2.1.data),.lit (.int .i64 r.2.2.2.1.index)]]) [.cells [.arr (List.map cU r.2.2.2.2.f0),.lit (.int .i64 r.2.2.2.2.f1)],.elems 4 (List.map Vl.FunType.c r.2.1),.elems 3 (List.map Vl.VarType.c r.2.2.1)]:=by
 unfold F.f59 at hF
 refine BCall.enterS (τ1:=[.cells [.arr (List.map cU r.2.2.2.2.f0),.lit (.int .i64 r.2.2.2.2.f1)]]) (ys:=[.arr (List.map Vl.Data.c r.1),.own 1 (List.length (α:=Vl.FunType) r.2.1),.own 2 (List.length (α:=Vl.VarType) r.2.2.1),.agg [.lit (.int .i64 r.2.2.2.1.data),.lit (.int .i64 r.2.2.2.1.index)]]) (news:=[(4,List.map Vl.FunType.c r.2.1),(3,List.map Vl.VarType.c r.2.2.1)]) Tryz.func16 (by kernel_rfl) rfl Tryz.ntmps16 (by simp) rfl rfl (by simp) (by simp) (by simp) (by simp) (by simp) (by simp) (Gh.refl _) ?_
 repeat(first|refine chk.ga ?_|simp -dsimp)
 have hF:=ob hF;obtain⟨v,e1,hF⟩:=hF
 refine((C.f58 B hB1 hB2 r' v e1)).go 0 rfl (by simp) (by simp) (by simp) ?_
 repeat(first|refine chk.ga ?_|simp -dsimp)
 refine ADraw.eff [20] [(0,2),(0,2),(0,0),(0,3),(1,2),(0,2),(0,1),(0,3),(2,2),(0,2),(2,2),(2,2),(2,2),(0,3)] [1,1,1,1,1,1,1,1,1,2,1,1,1,1] follows (by kernel_rfl) (by kernel_rfl) (by kernel_rfl) ?_
 repeat(first|refine chk.ga ?_|simp -dsimp)
 have hF:=ob hF;obtain⟨v2,e3,hF⟩:=hF
 refine((C.f1 B hB1 hB2 v.2.2.2 (4:Int) v2 e3)).ego 0 rfl (by simp) (by simp) (by simp) ?_
 have hF:=oc hF;obtain⟨c4,hF⟩:=hF
 repeat(first|refine chk.ga ?_|simp -dsimp)
 have hF:=ob hF;obtain⟨v5,e6,hF⟩:=hF
 refine((C.f1 B hB1 hB2 v2.2 (4:Int) v5 e6)).ego 0 rfl (by simp) (by simp) (by simp) ?_
 have hF:=oc hF;obtain⟨c7,hF⟩:=hF
 cases hF
 repeat(first|refine chk.ga ?_|simp -dsimp)
 all_goals(try first|omega|rfl|(simp;done)|(simp only[List.length_cons,List.length_nil]at*;omega)|simp)
theorem C.f60 (a:Vl.Ty)(b:Vl.Ty)(r:Bool)(hF:F.f60 a b=some r):PureCall Tryz.prog B 37 [.agg [.lit (.int .i64 a.data),.lit (.int .i64 a.index)],.agg [.lit (.int .i64 b.data),.lit (.int .i64 b.index)]] (.lit (.bool r)):=by
 unfold F.f60 at hF
 refine PureCall.enterLe Tryz.func37 (by kernel_rfl) rfl Tryz.ntmps37 (by simp) (by simp) ?_
 repeat(first|refine chk.ga ?_|simp -dsimp)
 refine abr.split (fun h1=> ?_) (fun h1=> ?_)
 ·have q2:(a.data=b.data):=auq h1
  rw[if_pos q2]at hF
  repeat(first|refine chk.ga ?_|simp -dsimp[h1])
  refine abr.split (fun h3=> ?_) (fun h3=> ?_)
  ·have q4:¬(b.index=0):=auq h3
   rw[if_neg q4]at hF
   cases hF
   repeat(first|refine chk.ga ?_|simp -dsimp[h1,h3,q4])
   all_goals(try first|omega|rfl)
  ·have q4:(b.index=0):=auq h3
   rw[if_pos q4]at hF
   cases hF
   repeat(first|refine chk.ga ?_|simp -dsimp[h1,h3,q4])
   all_goals(try first|omega|rfl)
 ·have q2:¬(a.data=b.data):=auq h1
  rw[if_neg q2]at hF
  cases hF
  repeat(first|refine chk.ga ?_|simp -dsimp[h1,q2])
  all_goals(try first|omega|rfl)
theorem CC.f61  :(∀(v:Vl.Value) (r:Vl.Expr),F.f61 v=some r→PureCall Tryz.prog B 31 [.agg [.lit (.int .i64 v.ctor),.lit (.int .i64 v.n),.arr (List.map Vl.Value.c v.kids)]] (.agg [.lit (.int .i64 r.op),.lit (.int .i64 r.n),.lit (.int .i64 r.ctor),.arr (List.map Vl.Expr.c r.kids)]))∧
  (∀(v:Vl.Value) (out:List Vl.Expr) (i:Nat) (o:List Vl.Expr),F.f62 v out i=some o→∀(c:Code),navO [1,1,1,0,1,0,0] (bodyOf Tryz.f31)=some c→∀(Q:Exit→ASt→Prop),(Q (.exit 0) ⟨[(2,.ptr 1 0),(3,.ptr 2 0)],[.dead,.cells [.lit (.int .i64 0),.lit (.int .i64 0),.lit (.int .i64 0),.lit (.slice none 0 0)],.cells [.lit (.int .i64 3),.lit (.int .i64 0),.lit (.int .i64 v.ctor),.own 3 (List.length (α:=Vl.Expr) o)],.elems 4 (List.map Vl.Expr.c o)]⟩)→ALoopU Tryz.prog B 0 33 (hold c .mk) ⟨[(1,.ptr 0 0),(2,.ptr 1 0),(3,.ptr 2 0),(4,.lit (.int .i64 (i:Int)))],[.cells [.lit (.int .i64 v.ctor),.lit (.int .i64 v.n),.arr (List.map Vl.Value.c v.kids)],.cells [.lit (.int .i64 0),.lit (.int .i64 0),.lit (.int .i64 0),.lit (.slice none 0 0)],.cells [.lit (.int .i64 3),.lit (.int .i64 0),.lit (.int .i64 v.ctor),.own 3 (List.length (α:=Vl.Expr) out)],.elems 4 (List.map Vl.Expr.c out)]⟩ (hold Q .mk)):=by
 refine F.f61.mutual_partial_correctness 
  _ _
  ?_ ?_
 ·intro _f_f62 ih_f62 v r hF
  refine PureCall.enterLe Tryz.func31 (by kernel_rfl) rfl Tryz.ntmps31 (by simp) (by simp) ?_
  repeat(first|refine chk.ga ?_|simp -dsimp)
  refine abr.split (fun h1=> ?_) (fun h1=> ?_)
  ·have q2:(v.ctor=(-1)):=auq h1
   rw[if_pos q2]at hF
   cases hF
   repeat(first|refine chk.ga ?_|simp -dsimp[h1])
   all_goals(try first|omega|rfl)
  ·have q2:¬(v.ctor=(-1)):=auq h1
   rw[if_neg q2]at hF
   repeat(first|refine chk.ga ?_|simp -dsimp[h1,q2])
   have hF:=ob hF;obtain⟨o',ho11,hF⟩:=hF
   refine ALoop.goU ⟨[(1,.ptr 0 0),(2,.ptr 1 0),(3,.ptr 2 0),(4,.lit (.int .i64 (0:Int)))],[.cells [.lit (.int .i64 v.ctor),.lit (.int .i64 v.n),.arr (List.map Vl.Value.c v.kids)],.cells [.lit (.int .i64 0),.lit (.int .i64 0),.lit (.int .i64 0),.lit (.slice none 0 0)],.cells [.lit (.int .i64 3),.lit (.int .i64 0),.lit (.int .i64 v.ctor),.own 3 (List.length (α:=Vl.Expr) [])],.elems 4 (List.map Vl.Expr.c [])]⟩ (by refine Gh.trans (Gh.nilCell 2 3 4 (by simp -dsimp;rfl) (by simp -dsimp)) ?_;exact(Gh.to3 (by simp) (by first|simp -dsimp[h1,q2];done|simp_all))) ?_
   refine(ih_f62 v [] 0 o' ho11) _ rfl _ ?_
   cases hF
   repeat(first|refine chk.ga ?_|simp -dsimp)
   all_goals(try first|omega|rfl)
 ·intro _f_f61 _f_f62 ih_f61 ih_f62 v out i o hF
  intro c hc Q hq
  obtain rfl:c=_:=navEq hc rfl
  refine ALoopU.know fun hk hs=> ?_
  have d0:=hs 0 _ rfl
  simp -dsimp[Blk.bnd]at d0
  have d3:=hs 3 _ rfl
  simp -dsimp[Blk.bnd]at d3
  clear hk hs
  refine ALoopU.enter ?_
  repeat(first|refine chk.ga ?_|simp -dsimp)
  refine abr.split (fun h3=> ?_) (fun h3=> ?_)
  ·have q4:(i<v.kids.length):=auq h3
   have z5:((i:Int)<(v.kids.length:Int)):=auz
   rw[if_pos q4]at hF
   repeat(first|refine chk.ga ?_|simp -dsimp[h3,z5])
   refine ADraw.eff [] [(0,1),(0,1),(0,0),(0,0),(0,0),(0,0),(0,0),(0,3),(0,3),(0,3),(2,2),(0,3)] [0,2,1,1,1,1,1,1,1,1,1,1] follows (by kernel_rfl) (by kernel_rfl) (by kernel_rfl) ?_
   have hF:=ob hF;obtain⟨x,e6,hF⟩:=hF
   have le6:=lt_of_get e6
   repeat(first|refine chk.ga ?_|simp -dsimp[h3,z5,↓e6])
   have hF:=ob hF;obtain⟨v7,e8,hF⟩:=hF
   refine((ih_f61 x v7 e8)).pgoW (by first|simp[h3,z5,↓e6];done|simp_all) (by simp) ?_
   have hF:=oc hF;obtain⟨c9,hF⟩:=hF
   have w10:IntKind.i64.wrap ((i:Int)+1)=(i:Int)+1:=wrap_in (by omega) (by omega)
   repeat(first|refine chk.ga ?_|simp -dsimp[h3,z5,↓e6,w10])
   refine Again.go _ ?_ ((ih_f62 v (out++[v7]) (i+1) o hF) _ rfl _ hq)
   exact(Gh.to3 (by simp) (by first|simp -dsimp[h3,z5,↓e6,w10];done|simp_all))
  ·have q4:¬(i<v.kids.length):=auq h3
   have z5:¬((i:Int)<(v.kids.length:Int)):=auz
   rw[if_neg q4]at hF
   cases hF
   repeat(first|refine chk.ga ?_|simp -dsimp[h3,q4,z5])
   refine Leave.go ⟨[(2,.ptr 1 0),(3,.ptr 2 0)],[.dead,.cells [.lit (.int .i64 0),.lit (.int .i64 0),.lit (.int .i64 0),.lit (.slice none 0 0)],.cells [.lit (.int .i64 3),.lit (.int .i64 0),.lit (.int .i64 v.ctor),.own 3 (List.length (α:=Vl.Expr) out)],.elems 4 (List.map Vl.Expr.c out)]⟩ (Gh.to3 (by simp) (by first|simp -dsimp[h3,q4,z5];done|simp_all)) ?_
   exact hq
theorem CC.f63 (w:List Vl.Data)(funs:List Vl.FunType)(vars:List Vl.VarType)(t:Vl.Ty)(depth:Int)(v:List Int):(∀(z:List Int) (z2:Int) (i:Nat) (o:Lo (Vl.Expr×Vl.T_spec_l17Rd) ((List Int)×Int)),F.f63 w funs vars t depth v z z2 i=some o→∀(c:Code),navO [1,1,0,1,0,0] (bodyOf Tryz.f18)=some c→∀(Q:Exit→ASt→Prop),o.post (fun r=>∀st,Post Tryz.prog Tryz.f18 (fun r' σ'=>r'.le (.agg [.lit (.int .i64 r.1.op),.lit (.int .i64 r.1.n),.lit (.int .i64 r.1.ctor),.arr (List.map Vl.Expr.c r.1.kids)])∧mcell σ' [.arr (List.map cU r.2.f0),.lit (.int .i64 r.2.f1)]) .ret st→Q .ret st) (fun s=>Q (.exit 0) ⟨[(0,.ptr 0 0),(1,.arr (List.map Vl.Data.c w)),(2,.arr (List.map Vl.FunType.c funs)),(3,.arr (List.map Vl.VarType.c vars)),(5,.lit (.int .i64 depth)),(10,.ptr 1 0),(12,.ptr 2 0),(13,.arr (List.map cI v))],[.cells [.arr (List.map cU s.1),.lit (.int .i64 s.2)],.cells [.lit (.int .i64 t.data),.lit (.int .i64 t.index)],.cells [.lit (.int .i64 0),.lit (.int .i64 0),.lit (.int .i64 0),.lit (.slice none 0 0)]]⟩)→ALoopU Tryz.prog B 1 178 (hold c .mk) ⟨[(0,.ptr 0 0),(1,.arr (List.map Vl.Data.c w)),(2,.arr (List.map Vl.FunType.c funs)),(3,.arr (List.map Vl.VarType.c vars)),(5,.lit (.int .i64 depth)),(10,.ptr 1 0),(12,.ptr 2 0),(13,.arr (List.map cI v)),(14,.lit (.int .i64 (i:Int)))],[.cells [.arr (List.map cU z),.lit (.int .i64 z2)],.cells [.lit (.int .i64 t.data),.lit (.int .i64 t.index)],.cells [.lit (.int .i64 0),.lit (.int .i64 0),.lit (.int .i64 0),.lit (.slice none 0 0)]]⟩ (hold Q .mk)):=by
 refine F.f63.partial_correctness w funs vars t depth v
  _
  ?_
 ·intro _f_f63 ih_f63 z z2 i o hF
  intro c hc Q hq
  obtain rfl:c=_:=navEq hc rfl
  refine ALoopU.know fun hk hs=> ?_
  have b1:=hk 1
  simp -dsimp at b1
  have b2:=hk 2
  simp -dsimp at b2
  have b3:=hk 3
  simp -dsimp at b3
  have b13:=hk 13
  simp -dsimp at b13
  have d0:=hs 0 _ rfl
  simp -dsimp[Blk.bnd]at d0
  clear hk hs
  refine ALoopU.enter ?_
  repeat(first|refine chk.ga ?_|simp -dsimp)
  refine abr.split (fun h3=> ?_) (fun h3=> ?_)
  ·have q4:(i<vars.length):=auq h3
   have z5:((i:Int)<(vars.length:Int)):=auz
   rw[if_pos q4]at hF
   repeat(first|refine chk.ga ?_|simp -dsimp[h3,z5])
   have hF:=ob hF;obtain⟨v6,e7,hF⟩:=hF
   refine((C.f1 B hB1 hB2 (⟨z,z2⟩:Vl.T_spec_l17Rd) (3:Int) v6 e7)).go 0 rfl (by first|simp[h3,z5];done|simp_all) (by simp) (by first|simp[h3,z5];done|simp_all) ?_
   repeat(first|refine chk.ga ?_|simp -dsimp[h3,z5])
   refine abr.split (fun h8=> ?_) (fun h8=> ?_)
   ·have q9:(0<v6.1):=auq h8
    rw[if_pos q9]at hF
    repeat(first|refine chk.ga ?_|simp -dsimp[h3,z5,h8])
    have hF:=ob hF;obtain⟨v10,e11,hF⟩:=hF
    refine((C.f1 B hB1 hB2 v6.2 (vars.length:Int) v10 e11)).go 0 rfl (by first|simp[h3,z5,h8];done|simp_all) (by simp) (by first|simp[h3,z5,h8];done|simp_all) ?_
    repeat(first|refine chk.ga ?_|simp -dsimp[h3,z5,h8])
    refine ADraw.simple follows (by kernel_rfl) (by kernel_rfl) ?_
    have hF:=ob hF;obtain⟨x,e12a,hF⟩:=hF
    have e12a:=at_some e12a;obtain⟨ne12,e12⟩:=e12a
    have le12:=lt_of_get e12
    repeat(first|refine chk.ga ?_|simp -dsimp[h3,z5,h8,↓e12])
    have hF:=ob hF;obtain⟨v13,e14,hF⟩:=hF
    refine((C.f60 B hB1 hB2 x.type t v13 e14)).pgoW (by first|simp[h3,z5,h8,↓e12];done|simp_all) (by simp) ?_
    repeat(first|refine chk.ga ?_|simp -dsimp[h3,z5,h8,↓e12])
    refine abr.split (fun h15=> ?_) (fun h15=> ?_)
    ·have q16:(v13=true):=auq h15
     rw[if_pos q16]at hF
     cases hF
     repeat(first|refine chk.ga ?_|simp -dsimp[h3,z5,h8,↓e12,h15])
     refine Leave.go _ (Gh.refl _) (hq _ ?_)
     repeat(first|refine chk.ga ?_|simp -dsimp[h3,z5,h8,↓e12,h15])
    ·have q16:¬(v13=true):=auq h15
     rw[if_neg q16]at hF
     have w17:IntKind.i64.wrap ((i:Int)+1)=(i:Int)+1:=wrap_in (by omega) (by omega)
     repeat(first|refine chk.ga ?_|simp -dsimp[h3,z5,h8,↓e12,h15,q16,w17])
     refine Again.go _ ?_ ((ih_f63 v10.2.f0 v10.2.f1 (i+1) o hF) _ rfl _ hq)
     exact(Gh.to3 (by simp) (by first|simp -dsimp[h3,z5,h8,↓e12,h15,q16,w17];done|simp_all))
   ·have q9:¬(0<v6.1):=auq h8
    rw[if_neg q9]at hF
    cases hF
    repeat(first|refine chk.ga ?_|simp -dsimp[h3,z5,h8,q9])
    refine Leave.go ⟨[(0,.ptr 0 0),(1,.arr (List.map Vl.Data.c w)),(2,.arr (List.map Vl.FunType.c funs)),(3,.arr (List.map Vl.VarType.c vars)),(5,.lit (.int .i64 depth)),(10,.ptr 1 0),(12,.ptr 2 0),(13,.arr (List.map cI v))],[.cells [.arr (List.map cU v6.2.f0),.lit (.int .i64 v6.2.f1)],.cells [.lit (.int .i64 t.data),.lit (.int .i64 t.index)],.cells [.lit (.int .i64 0),.lit (.int .i64 0),.lit (.int .i64 0),.lit (.slice none 0 0)]]⟩ (Gh.to3 (by simp) (by first|simp -dsimp[h3,z5,h8,q9];done|simp_all)) ?_
    exact hq
  ·have q4:¬(i<vars.length):=auq h3
   have z5:¬((i:Int)<(vars.length:Int)):=auz
   rw[if_neg q4]at hF
   cases hF
   repeat(first|refine chk.ga ?_|simp -dsimp[h3,q4,z5])
   refine Leave.go ⟨[(0,.ptr 0 0),(1,.arr (List.map Vl.Data.c w)),(2,.arr (List.map Vl.FunType.c funs)),(3,.arr (List.map Vl.VarType.c vars)),(5,.lit (.int .i64 depth)),(10,.ptr 1 0),(12,.ptr 2 0),(13,.arr (List.map cI v))],[.cells [.arr (List.map cU z),.lit (.int .i64 z2)],.cells [.lit (.int .i64 t.data),.lit (.int .i64 t.index)],.cells [.lit (.int .i64 0),.lit (.int .i64 0),.lit (.int .i64 0),.lit (.slice none 0 0)]]⟩ (Gh.to3 (by simp) (by first|simp -dsimp[h3,q4,z5];done|simp_all)) ?_
   exact hq
theorem CC.f64 (w:List Vl.Data)(funs:List Vl.FunType)(vars:List Vl.VarType):(∀(r':Vl.T_spec_l17Rd) (t:Vl.Ty) (depth:Int) (r:Vl.Expr×Vl.T_spec_l17Rd),F.f64 r' w funs vars t depth=some r→MutCall Tryz.prog B 18 [.arr (List.map cU r'.f0),.lit (.int .i64 r'.f1)] [.ptr 0 0,.arr (List.map Vl.Data.c w),.arr (List.map Vl.FunType.c funs),.arr (List.map Vl.VarType.c vars),.agg [.lit (.int .i64 t.data),.lit (.int .i64 t.index)],.lit (.int .i64 depth)] (.agg [.lit (.int .i64 r.1.op),.lit (.int .i64 r.1.n),.lit (.int .i64 r.1.ctor),.arr (List.map Vl.Expr.c r.1.kids)]) [.arr (List.map cU r.2.f0),.lit (.int .i64 r.2.f1)])∧
  (∀(depth:Int) (v77:Vl.Value×Vl.T_spec_l17Rd) (v79:List Vl.Ty) (z81:List Int) (z82:Int) (out:List Vl.Expr) (i83:Nat) (o:(List Int)×Int×(List Vl.Expr)),F.f66 w funs vars depth v77 v79 z81 z82 out i83=some o→∀(c:Code),navO [1,1,1,1,1,1,1,1,1,0,1,0,0] (bodyOf Tryz.f18)=some c→∀(Q:Exit→ASt→Prop),(Q (.exit 4) ⟨[(12,.ptr 2 0),(18,.ptr 4 0)],[.cells [.arr (List.map cU o.1),.lit (.int .i64 o.2.1)],.dead,.cells [.lit (.int .i64 0),.lit (.int .i64 0),.lit (.int .i64 0),.lit (.slice none 0 0)],.dead,.cells [.lit (.int .i64 3),.lit (.int .i64 0),.lit (.int .i64 v77.1.ctor),.own 5 (List.length (α:=Vl.Expr) o.2.2)],.elems 4 (List.map Vl.Expr.c o.2.2)]⟩)→ALoopU Tryz.prog B 1 178 (hold c .mk) ⟨[(0,.ptr 0 0),(1,.arr (List.map Vl.Data.c w)),(2,.arr (List.map Vl.FunType.c funs)),(3,.arr (List.map Vl.VarType.c vars)),(5,.lit (.int .i64 depth)),(12,.ptr 2 0),(18,.ptr 4 0),(19,.arr (List.map Vl.Ty.c v79)),(20,.lit (.int .i64 (i83:Int)))],[.cells [.arr (List.map cU z81),.lit (.int .i64 z82)],.dead,.cells [.lit (.int .i64 0),.lit (.int .i64 0),.lit (.int .i64 0),.lit (.slice none 0 0)],.dead,.cells [.lit (.int .i64 3),.lit (.int .i64 0),.lit (.int .i64 v77.1.ctor),.own 5 (List.length (α:=Vl.Expr) out)],.elems 4 (List.map Vl.Expr.c out)]⟩ (hold Q .mk))∧
  (∀(t:Vl.Ty) (depth:Int) (v:List Int) (z19:List Int) (z20:Int) (i21:Nat) (o:Lo (Vl.Expr×Vl.T_spec_l17Rd) ((List Int)×Int)),F.f65 w funs vars t depth v z19 z20 i21=some o→∀(c:Code),navO [1,1,1,0,1,0,0] (bodyOf Tryz.f18)=some c→∀(Q:Exit→ASt→Prop),o.post (fun r=>∀st,Post Tryz.prog Tryz.f18 (fun r' σ'=>r'.le (.agg [.lit (.int .i64 r.1.op),.lit (.int .i64 r.1.n),.lit (.int .i64 r.1.ctor),.arr (List.map Vl.Expr.c r.1.kids)])∧mcell σ' [.arr (List.map cU r.2.f0),.lit (.int .i64 r.2.f1)]) .ret st→Q .ret st) (fun s=>Q (.exit 2) ⟨[(0,.ptr 0 0),(1,.arr (List.map Vl.Data.c w)),(2,.arr (List.map Vl.FunType.c funs)),(3,.arr (List.map Vl.VarType.c vars)),(5,.lit (.int .i64 depth)),(10,.ptr 1 0),(12,.ptr 2 0),(13,.arr (List.map cI v))],[.cells [.arr (List.map cU s.1),.lit (.int .i64 s.2)],.cells [.lit (.int .i64 t.data),.lit (.int .i64 t.index)],.cells [.lit (.int .i64 0),.lit (.int .i64 0),.lit (.int .i64 0),.lit (.slice none 0 0)]]⟩)→ALoopU Tryz.prog B 1 178 (hold c .mk) ⟨[(0,.ptr 0 0),(1,.arr (List.map Vl.Data.c w)),(2,.arr (List.map Vl.FunType.c funs)),(3,.arr (List.map Vl.VarType.c vars)),(5,.lit (.int .i64 depth)),(10,.ptr 1 0),(12,.ptr 2 0),(13,.arr (List.map cI v)),(16,.lit (.int .i64 (i21:Int)))],[.cells [.arr (List.map cU z19),.lit (.int .i64 z20)],.cells [.lit (.int .i64 t.data),.lit (.int .i64 t.index)],.cells [.lit (.int .i64 0),.lit (.int .i64 0),.lit (.int .i64 0),.lit (.slice none 0 0)]]⟩ (hold Q .mk)):=by
 refine F.f64.mutual_partial_correctness w funs vars
  _ _ _
  ?_ ?_ ?_
 ·intro _f_f64 _f_f66 _f_f65 ih_f64 ih_f66 ih_f65 r' t depth r hF
  refine MutCall.enter Tryz.func18 (by kernel_rfl) rfl Tryz.ntmps18 (by simp) (by simp) (by simp) (by simp) ?_
  repeat(first|refine chk.ga ?_|simp -dsimp)
  have hF:=ob hF;obtain⟨v,e1,hF⟩:=hF
  refine((C.f53 B hB1 hB2 w v e1)).goW (by simp) (by simp) ?_
  repeat(first|refine chk.ga ?_|simp -dsimp)
  have hF:=ob hF;obtain⟨o',ho18,hF⟩:=hF
  refine ALoop.goU _ ?_ (((CC.f63 B hB1 hB2 w funs vars t depth v) r'.f0 r'.f1 0 o' ho18) _ rfl _ ?_)
  ·exact(Gh.to3 (by simp) (by simp -dsimp))
  rcases o' with r099|sx
  ·dsimp only at hF
   cases hF
   intro st h
   simpa using h
  ·dsimp only at hF
   repeat(first|refine chk.ga ?_|simp -dsimp)
   have hF:=ob hF;obtain⟨o'41,ho40,hF⟩:=hF
   refine ALoop.goU _ ?_ ((ih_f65 t depth v sx.1 sx.2 0 o'41 ho40) _ rfl _ ?_)
   ·exact(Gh.to3 (by simp) (by simp -dsimp))
   rcases o'41 with r0|sx42
   ·dsimp only at hF
    cases hF
    intro st h
    simpa using h
   ·dsimp only at hF
    repeat(first|refine chk.ga ?_|simp -dsimp)
    refine abr.split (fun h43=> ?_) (fun h43=> ?_)
    ·have q44:(t.data=(-1)):=auq h43
     rw[if_pos q44]at hF
     repeat(first|refine chk.ga ?_|simp -dsimp[h43])
     refine abr.split (fun h45=> ?_) (fun h45=> ?_)
     ·have q46:(1<depth):=auq h45
      rw[if_pos q46]at hF
      repeat(first|refine chk.ga ?_|simp -dsimp[h43,h45])
      have hF:=ob hF;obtain⟨v47,e48,hF⟩:=hF
      refine((C.f1 B hB1 hB2 (⟨sx42.1,sx42.2⟩:Vl.T_spec_l17Rd) (3:Int) v47 e48)).go 0 rfl (by first|simp[h43,h45];done|simp_all) (by simp) (by first|simp[h43,h45];done|simp_all) ?_
      repeat(first|refine chk.ga ?_|simp -dsimp[h43,h45])
      refine abr.split (fun h49=> ?_) (fun h49=> ?_)
      ·have q50:(v47.1=0):=auq h49
       rw[if_pos q50]at hF
       repeat(first|refine chk.ga ?_|simp -dsimp[h43,h45,h49])
       refine ADraw.eff [18,1000030] [(0,0),(0,0),(0,0),(0,0),(0,0),(0,0),(0,0),(0,5),(0,1),(0,1),(0,1),(0,1),(0,1),(0,1),(0,1),(0,5),(0,5),(0,5),(0,5)] [1,1,1,1,1,1,1,1,1,1,1,1,2,1,1,1,1,1,1] follows (by kernel_rfl) (by kernel_rfl) (by kernel_rfl) ?_
       repeat(first|refine chk.ga ?_|simp -dsimp[h43,h45,h49])
       have hF:=ob hF;obtain⟨v51,e52,hF⟩:=hF
       refine((ih_f64 v47.2 t (IntKind.i64.wrap (depth-1)) v51 e52)).ego 0 rfl (by first|simp[h43,h45,h49];done|simp_all) (by simp) (by first|simp[h43,h45,h49];done|simp_all) ?_
       repeat(first|refine chk.ga ?_|simp -dsimp[h43,h45,h49])
       have hF:=ob hF;obtain⟨v53,e54,hF⟩:=hF
       refine((ih_f64 v51.2 t (IntKind.i64.wrap (depth-1)) v53 e54)).ego 0 rfl (by first|simp[h43,h45,h49];done|simp_all) (by simp) (by first|simp[h43,h45,h49];done|simp_all) ?_
       cases hF
       repeat(first|refine chk.ga ?_|simp -dsimp[h43,h45,h49])
       all_goals(try first|omega|rfl)
      ·have q50:¬(v47.1=0):=auq h49
       rw[if_neg q50]at hF
       repeat(first|refine chk.ga ?_|simp -dsimp[h43,h45,h49,q50])
       refine abr.split (fun h55=> ?_) (fun h55=> ?_)
       ·have q56:¬(depth<2):=auq h55
        rw[if_neg q56]at hF
        repeat(first|refine chk.ga ?_|simp -dsimp[h43,h45,h49,q50,h55,q56])
        have hF:=ob hF;obtain⟨v57,e58,hF⟩:=hF
        refine(((CC.f56 B hB1 hB2 w v).1 v47.2 t (1:Int) v57 e58)).go 0 rfl (by first|simp[h43,h45,h49,q50,h55,q56];done|simp_all) (by simp) (by first|simp[h43,h45,h49,q50,h55,q56];done|simp_all) ?_
        repeat(first|refine chk.ga ?_|simp -dsimp[h43,h45,h49,q50,h55,q56])
        have hF:=ob hF;obtain⟨v59,e60,hF⟩:=hF
        refine(((CC.f61 B hB1 hB2).1 v57.1 v59 e60)).goW (by first|simp[h43,h45,h49,q50,h55,q56];done|simp_all) (by simp) ?_
        cases hF
        repeat(first|refine chk.ga ?_|simp -dsimp[h43,h45,h49,q50,h55,q56])
        all_goals(try first|omega|rfl)
       ·have q56:(depth<2):=auq h55
        rw[if_pos q56]at hF
        repeat(first|refine chk.ga ?_|simp -dsimp[h43,h45,h49,q50,h55,q56])
        have hF:=ob hF;obtain⟨v61,e62,hF⟩:=hF
        refine(((CC.f56 B hB1 hB2 w v).1 v47.2 t (1:Int) v61 e62)).go 0 rfl (by first|simp[h43,h45,h49,q50,h55,q56];done|simp_all) (by simp) (by first|simp[h43,h45,h49,q50,h55,q56];done|simp_all) ?_
        repeat(first|refine chk.ga ?_|simp -dsimp[h43,h45,h49,q50,h55,q56])
        have hF:=ob hF;obtain⟨v63,e64,hF⟩:=hF
        refine(((CC.f61 B hB1 hB2).1 v61.1 v63 e64)).goW (by first|simp[h43,h45,h49,q50,h55,q56];done|simp_all) (by simp) ?_
        cases hF
        repeat(first|refine chk.ga ?_|simp -dsimp[h43,h45,h49,q50,h55,q56])
        all_goals(try first|omega|rfl)
     ·have q46:¬(1<depth):=auq h45
      rw[if_neg q46]at hF
      repeat(first|refine chk.ga ?_|simp -dsimp[h43,h45,q46])
      refine abr.split (fun h65=> ?_) (fun h65=> ?_)
      ·have q66:¬(depth<2):=auq h65
       rw[if_neg q66]at hF
       repeat(first|refine chk.ga ?_|simp -dsimp[h43,h45,q46,h65,q66])
       have hF:=ob hF;obtain⟨v67,e68,hF⟩:=hF
       refine(((CC.f56 B hB1 hB2 w v).1 (⟨sx42.1,sx42.2⟩:Vl.T_spec_l17Rd) t (1:Int) v67 e68)).go 0 rfl (by first|simp[h43,h45,q46,h65,q66];done|simp_all) (by simp) (by first|simp[h43,h45,q46,h65,q66];done|simp_all) ?_
       repeat(first|refine chk.ga ?_|simp -dsimp[h43,h45,q46,h65,q66])
       have hF:=ob hF;obtain⟨v69,e70,hF⟩:=hF
       refine(((CC.f61 B hB1 hB2).1 v67.1 v69 e70)).goW (by first|simp[h43,h45,q46,h65,q66];done|simp_all) (by simp) ?_
       cases hF
       repeat(first|refine chk.ga ?_|simp -dsimp[h43,h45,q46,h65,q66])
       all_goals(try first|omega|rfl)
      ·have q66:(depth<2):=auq h65
       rw[if_pos q66]at hF
       repeat(first|refine chk.ga ?_|simp -dsimp[h43,h45,q46,h65,q66])
       have hF:=ob hF;obtain⟨v71,e72,hF⟩:=hF
       refine(((CC.f56 B hB1 hB2 w v).1 (⟨sx42.1,sx42.2⟩:Vl.T_spec_l17Rd) t (1:Int) v71 e72)).go 0 rfl (by first|simp[h43,h45,q46,h65,q66];done|simp_all) (by simp) (by first|simp[h43,h45,q46,h65,q66];done|simp_all) ?_
       repeat(first|refine chk.ga ?_|simp -dsimp[h43,h45,q46,h65,q66])
       have hF:=ob hF;obtain⟨v73,e74,hF⟩:=hF
       refine(((CC.f61 B hB1 hB2).1 v71.1 v73 e74)).goW (by first|simp[h43,h45,q46,h65,q66];done|simp_all) (by simp) ?_
       cases hF
       repeat(first|refine chk.ga ?_|simp -dsimp[h43,h45,q46,h65,q66])
       all_goals(try first|omega|rfl)
    ·have q44:¬(t.data=(-1)):=auq h43
     rw[if_neg q44]at hF
     repeat(first|refine chk.ga ?_|simp -dsimp[h43,q44])
     refine abr.split (fun h75=> ?_) (fun h75=> ?_)
     ·have q76:¬(depth<2):=auq h75
      rw[if_neg q76]at hF
      repeat(first|refine chk.ga ?_|simp -dsimp[h43,q44,h75,q76])
      have hF:=ob hF;obtain⟨v77,e78,hF⟩:=hF
      refine(((CC.f56 B hB1 hB2 w v).1 (⟨sx42.1,sx42.2⟩:Vl.T_spec_l17Rd) t depth v77 e78)).go 0 rfl (by first|simp[h43,q44,h75,q76];done|simp_all) (by simp) (by first|simp[h43,q44,h75,q76];done|simp_all) ?_
      repeat(first|refine chk.ga ?_|simp -dsimp[h43,q44,h75,q76])
      have hF:=ob hF;obtain⟨v79,e80,hF⟩:=hF
      refine((C.f45 B hB1 hB2 w t v77.1.ctor v79 e80)).goW (by first|simp[h43,q44,h75,q76];done|simp_all) (by simp) ?_
      repeat(first|refine chk.ga ?_|simp -dsimp[h43,q44,h75,q76])
      have hF:=ob hF;obtain⟨o'94,ho93,hF⟩:=hF
      refine ALoop.goU ⟨[(0,.ptr 0 0),(1,.arr (List.map Vl.Data.c w)),(2,.arr (List.map Vl.FunType.c funs)),(3,.arr (List.map Vl.VarType.c vars)),(5,.lit (.int .i64 depth)),(12,.ptr 2 0),(18,.ptr 4 0),(19,.arr (List.map Vl.Ty.c v79)),(20,.lit (.int .i64 (0:Int)))],[.cells [.arr (List.map cU v77.2.f0),.lit (.int .i64 v77.2.f1)],.dead,.cells [.lit (.int .i64 0),.lit (.int .i64 0),.lit (.int .i64 0),.lit (.slice none 0 0)],.dead,.cells [.lit (.int .i64 3),.lit (.int .i64 0),.lit (.int .i64 v77.1.ctor),.own 5 (List.length (α:=Vl.Expr) [])],.elems 4 (List.map Vl.Expr.c [])]⟩ (by refine Gh.trans (Gh.nilCell 4 3 4 (by simp -dsimp;rfl) (by simp -dsimp)) ?_;exact(Gh.to3 (by simp) (by first|simp -dsimp[h43,q44,h75,q76];done|simp_all))) ?_
      refine(ih_f66 depth v77 v79 v77.2.f0 v77.2.f1 [] 0 o'94 ho93) _ rfl _ ?_
      cases hF
      repeat(first|refine chk.ga ?_|simp -dsimp)
      all_goals(try first|omega|rfl)
     ·have q76:(depth<2):=auq h75
      rw[if_pos q76]at hF
      repeat(first|refine chk.ga ?_|simp -dsimp[h43,q44,h75,q76])
      have hF:=ob hF;obtain⟨v95,e96,hF⟩:=hF
      refine(((CC.f56 B hB1 hB2 w v).1 (⟨sx42.1,sx42.2⟩:Vl.T_spec_l17Rd) t (1:Int) v95 e96)).go 0 rfl (by first|simp[h43,q44,h75,q76];done|simp_all) (by simp) (by first|simp[h43,q44,h75,q76];done|simp_all) ?_
      repeat(first|refine chk.ga ?_|simp -dsimp[h43,q44,h75,q76])
      have hF:=ob hF;obtain⟨v97,e98,hF⟩:=hF
      refine(((CC.f61 B hB1 hB2).1 v95.1 v97 e98)).goW (by first|simp[h43,q44,h75,q76];done|simp_all) (by simp) ?_
      cases hF
      repeat(first|refine chk.ga ?_|simp -dsimp[h43,q44,h75,q76])
      all_goals(try first|omega|rfl)
 ·intro _f_f64 _f_f66 ih_f64 ih_f66 depth v77 v79 z81 z82 out i83 o hF
  intro c hc Q hq
  obtain rfl:c=_:=navEq hc rfl
  refine ALoopU.know fun hk hs=> ?_
  have b1:=hk 1
  simp -dsimp at b1
  have b2:=hk 2
  simp -dsimp at b2
  have b3:=hk 3
  simp -dsimp at b3
  have b19:=hk 19
  simp -dsimp at b19
  have d0:=hs 0 _ rfl
  simp -dsimp[Blk.bnd]at d0
  have d5:=hs 5 _ rfl
  simp -dsimp[Blk.bnd]at d5
  clear hk hs
  refine ALoopU.enter ?_
  repeat(first|refine chk.ga ?_|simp -dsimp)
  refine abr.split (fun h84=> ?_) (fun h84=> ?_)
  ·have q85:(i83<v79.length):=auq h84
   have z86:((i83:Int)<(v79.length:Int)):=auz
   rw[if_pos q85]at hF
   repeat(first|refine chk.ga ?_|simp -dsimp[h84,z86])
   refine ADraw.eff [18] [(0,2),(0,2),(0,0),(0,0),(0,0),(0,0),(0,0),(0,0),(0,0),(0,0),(0,0),(0,0),(0,4),(0,4),(0,4),(3,3),(0,4)] [0,2,1,1,1,1,1,1,1,1,1,1,1,1,1,1,1] follows (by kernel_rfl) (by kernel_rfl) (by kernel_rfl) ?_
   have hF:=ob hF;obtain⟨x87,e88,hF⟩:=hF
   have le88:=lt_of_get e88
   repeat(first|refine chk.ga ?_|simp -dsimp[h84,z86,↓e88])
   have hF:=ob hF;obtain⟨v89,e90,hF⟩:=hF
   refine((ih_f64 (⟨z81,z82⟩:Vl.T_spec_l17Rd) x87 (IntKind.i64.wrap (depth-1)) v89 e90)).ego 0 rfl (by first|simp[h84,z86,↓e88];done|simp_all) (by simp) (by first|simp[h84,z86,↓e88];done|simp_all) ?_
   have hF:=oc hF;obtain⟨c91,hF⟩:=hF
   have w92:IntKind.i64.wrap ((i83:Int)+1)=(i83:Int)+1:=wrap_in (by omega) (by omega)
   repeat(first|refine chk.ga ?_|simp -dsimp[h84,z86,↓e88,w92])
   refine Again.go _ ?_ ((ih_f66 depth v77 v79 v89.2.f0 v89.2.f1 (out++[v89.1]) (i83+1) o hF) _ rfl _ hq)
   exact(Gh.to3 (by simp) (by first|simp -dsimp[h84,z86,↓e88,w92];done|simp_all))
  ·have q85:¬(i83<v79.length):=auq h84
   have z86:¬((i83:Int)<(v79.length:Int)):=auz
   rw[if_neg q85]at hF
   cases hF
   repeat(first|refine chk.ga ?_|simp -dsimp[h84,q85,z86])
   refine Leave.go ⟨[(12,.ptr 2 0),(18,.ptr 4 0)],[.cells [.arr (List.map cU z81),.lit (.int .i64 z82)],.dead,.cells [.lit (.int .i64 0),.lit (.int .i64 0),.lit (.int .i64 0),.lit (.slice none 0 0)],.dead,.cells [.lit (.int .i64 3),.lit (.int .i64 0),.lit (.int .i64 v77.1.ctor),.own 5 (List.length (α:=Vl.Expr) out)],.elems 4 (List.map Vl.Expr.c out)]⟩ (Gh.to3 (by simp) (by first|simp -dsimp[h84,q85,z86];done|simp_all)) ?_
   exact hq
 ·intro _f_f64 _f_f65 ih_f64 ih_f65 t depth v z19 z20 i21 o hF
  intro c hc Q hq
  obtain rfl:c=_:=navEq hc rfl
  refine ALoopU.know fun hk hs=> ?_
  have b1:=hk 1
  simp -dsimp at b1
  have b2:=hk 2
  simp -dsimp at b2
  have b3:=hk 3
  simp -dsimp at b3
  have b13:=hk 13
  simp -dsimp at b13
  have d0:=hs 0 _ rfl
  simp -dsimp[Blk.bnd]at d0
  clear hk hs
  refine ALoopU.enter ?_
  repeat(first|refine chk.ga ?_|simp -dsimp)
  refine abr.split (fun h22=> ?_) (fun h22=> ?_)
  ·have q23:(i21<funs.length):=auq h22
   have z24:((i21:Int)<(funs.length:Int)):=auz
   rw[if_pos q23]at hF
   repeat(first|refine chk.ga ?_|simp -dsimp[h22,z24])
   refine abr.split (fun h25=> ?_) (fun h25=> ?_)
   ·have q26:(1<depth):=auq h25
    rw[if_pos q26]at hF
    repeat(first|refine chk.ga ?_|simp -dsimp[h22,z24,h25])
    refine ADraw.eff [20] [(0,0),(0,0),(0,0),(0,0),(0,0),(0,0),(0,1),(0,0),(0,0),(0,0),(0,0),(0,0),(0,0),(0,0),(0,1),(0,0),(0,0),(0,0),(0,0),(0,1),(1,1),(1,1)] [1,1,1,1,1,1,1,1,1,1,1,1,1,1,1,1,1,1,1,1,1,1] follows (by kernel_rfl) (by kernel_rfl) (by kernel_rfl) ?_
    have hF:=ob hF;obtain⟨x27,e28,hF⟩:=hF
    have le28:=lt_of_get e28
    repeat(first|refine chk.ga ?_|simp -dsimp[h22,z24,h25,↓e28])
    have hF:=ob hF;obtain⟨v29,e30,hF⟩:=hF
    refine((C.f60 B hB1 hB2 x27.res t v29 e30)).pgoW (by first|simp[h22,z24,h25,↓e28];done|simp_all) (by simp) ?_
    repeat(first|refine chk.ga ?_|simp -dsimp[h22,z24,h25,↓e28])
    refine abr.split (fun h31=> ?_) (fun h31=> ?_)
    ·have q32:(v29=true):=auq h31
     rw[if_pos q32]at hF
     repeat(first|refine chk.ga ?_|simp -dsimp[h22,z24,h25,↓e28,h31])
     have hF:=ob hF;obtain⟨v33,e34,hF⟩:=hF
     refine((C.f47 B hB1 hB2 v x27.arg v33 e34)).pgoW (by first|simp[h22,z24,h25,↓e28,h31];done|simp_all) (by simp) ?_
     repeat(first|refine chk.ga ?_|simp -dsimp[h22,z24,h25,↓e28,h31])
     refine abr.split (fun h35=> ?_) (fun h35=> ?_)
     ·have q36:(0<v33):=auq h35
      rw[if_pos q36]at hF
      repeat(first|refine chk.ga ?_|simp -dsimp[h22,z24,h25,↓e28,h31,h35])
      have hF:=ob hF;obtain⟨v37,e38,hF⟩:=hF
      refine((C.f1 B hB1 hB2 (⟨z19,z20⟩:Vl.T_spec_l17Rd) (3:Int) v37 e38)).ego 0 rfl (by first|simp[h22,z24,h25,↓e28,h31,h35];done|simp_all) (by simp) (by first|simp[h22,z24,h25,↓e28,h31,h35];done|simp_all) ?_
      repeat(first|refine chk.ga ?_|simp -dsimp[h22,z24,h25,↓e28,h31,h35])
      refine abr.split (fun h39=> ?_) (fun h39=> ?_)
      ·have q40:(v37.1=0):=auq h39
       rw[if_pos q40]at hF
       repeat(first|refine chk.ga ?_|simp -dsimp[h22,z24,h25,↓e28,h31,h35,h39])
       have hF:=ob hF;obtain⟨v41,e42,hF⟩:=hF
       refine((ih_f64 v37.2 x27.arg (IntKind.i64.wrap (depth-1)) v41 e42)).go 0 rfl (by first|simp[h22,z24,h25,↓e28,h31,h35,h39];done|simp_all) (by simp) (by first|simp[h22,z24,h25,↓e28,h31,h35,h39];done|simp_all) ?_
       cases hF
       repeat(first|refine chk.ga ?_|simp -dsimp[h22,z24,h25,↓e28,h31,h35,h39])
       refine Leave.go _ (Gh.refl _) (hq _ ?_)
       repeat(first|refine chk.ga ?_|simp -dsimp[h22,z24,h25,↓e28,h31,h35,h39])
      ·have q40:¬(v37.1=0):=auq h39
       rw[if_neg q40]at hF
       have w43:IntKind.i64.wrap ((i21:Int)+1)=(i21:Int)+1:=wrap_in (by omega) (by omega)
       repeat(first|refine chk.ga ?_|simp -dsimp[h22,z24,h25,↓e28,h31,h35,h39,q40,w43])
       refine Again.go _ ?_ ((ih_f65 t depth v v37.2.f0 v37.2.f1 (i21+1) o hF) _ rfl _ hq)
       exact(Gh.to3 (by simp) (by first|simp -dsimp[h22,z24,h25,↓e28,h31,h35,h39,q40,w43];done|simp_all))
     ·have q36:¬(0<v33):=auq h35
      rw[if_neg q36]at hF
      have w39:IntKind.i64.wrap ((i21:Int)+1)=(i21:Int)+1:=wrap_in (by omega) (by omega)
      repeat(first|refine chk.ga ?_|simp -dsimp[h22,z24,h25,↓e28,h31,h35,q36,w39])
      refine Again.go _ ?_ ((ih_f65 t depth v z19 z20 (i21+1) o hF) _ rfl _ hq)
      exact(Gh.to3 (by simp) (by first|simp -dsimp[h22,z24,h25,↓e28,h31,h35,q36,w39];done|simp_all))
    ·have q32:¬(v29=true):=auq h31
     rw[if_neg q32]at hF
     have w39:IntKind.i64.wrap ((i21:Int)+1)=(i21:Int)+1:=wrap_in (by omega) (by omega)
     repeat(first|refine chk.ga ?_|simp -dsimp[h22,z24,h25,↓e28,h31,q32,w39])
     refine Again.go _ ?_ ((ih_f65 t depth v z19 z20 (i21+1) o hF) _ rfl _ hq)
     exact(Gh.to3 (by simp) (by first|simp -dsimp[h22,z24,h25,↓e28,h31,q32,w39];done|simp_all))
   ·have q26:¬(1<depth):=auq h25
    rw[if_neg q26]at hF
    cases hF
    repeat(first|refine chk.ga ?_|simp -dsimp[h22,z24,h25,q26])
    refine Leave.go ⟨[(0,.ptr 0 0),(1,.arr (List.map Vl.Data.c w)),(2,.arr (List.map Vl.FunType.c funs)),(3,.arr (List.map Vl.VarType.c vars)),(5,.lit (.int .i64 depth)),(10,.ptr 1 0),(12,.ptr 2 0),(13,.arr (List.map cI v))],[.cells [.arr (List.map cU z19),.lit (.int .i64 z20)],.cells [.lit (.int .i64 t.data),.lit (.int .i64 t.index)],.cells [.lit (.int .i64 0),.lit (.int .i64 0),.lit (.int .i64 0),.lit (.slice none 0 0)]]⟩ (Gh.to3 (by simp) (by first|simp -dsimp[h22,z24,h25,q26];done|simp_all)) ?_
    exact hq
  ·have q23:¬(i21<funs.length):=auq h22
   have z24:¬((i21:Int)<(funs.length:Int)):=auz
   rw[if_neg q23]at hF
   cases hF
   repeat(first|refine chk.ga ?_|simp -dsimp[h22,q23,z24])
   refine Leave.go ⟨[(0,.ptr 0 0),(1,.arr (List.map Vl.Data.c w)),(2,.arr (List.map Vl.FunType.c funs)),(3,.arr (List.map Vl.VarType.c vars)),(5,.lit (.int .i64 depth)),(10,.ptr 1 0),(12,.ptr 2 0),(13,.arr (List.map cI v))],[.cells [.arr (List.map cU z19),.lit (.int .i64 z20)],.cells [.lit (.int .i64 t.data),.lit (.int .i64 t.index)],.cells [.lit (.int .i64 0),.lit (.int .i64 0),.lit (.int .i64 0),.lit (.slice none 0 0)]]⟩ (Gh.to3 (by simp) (by first|simp -dsimp[h22,q23,z24];done|simp_all)) ?_
   exact hq
theorem CC.f67  :(∀(r':Vl.T_spec_l17Rd) (e:Vl.Expr) (r:Vl.Expr×Vl.T_spec_l17Rd),F.f67 r' e=some r→MutCall Tryz.prog B 17 [.arr (List.map cU r'.f0),.lit (.int .i64 r'.f1)] [.ptr 0 0,.agg [.lit (.int .i64 e.op),.lit (.int .i64 e.n),.lit (.int .i64 e.ctor),.arr (List.map Vl.Expr.c e.kids)]] (.agg [.lit (.int .i64 r.1.op),.lit (.int .i64 r.1.n),.lit (.int .i64 r.1.ctor),.arr (List.map Vl.Expr.c r.1.kids)]) [.arr (List.map cU r.2.f0),.lit (.int .i64 r.2.f1)]):=by
 refine F.f67.partial_correctness 
  _
  ?_
 ·intro _f_f67 ih_f67 r' e r hF
  refine MutCall.enterG Tryz.func17 (by kernel_rfl) rfl Tryz.ntmps17 (by simp) (by simp) (by simp) (by simp) Gh.keep ?_
  repeat(first|refine chk.ga ?_|simp -dsimp)
  refine ADraw.effL [(6,11),(9,11),(10,11)] 11 [1000030] [(0,2),(0,2),(0,2),(0,2),(0,2),(0,2),(0,5),(0,1),(0,1),(0,5),(0,5),(0,5),(0,5)] [0,2,0,2,0,2,1,0,2,1,1,1,1] follows (by kernel_rfl) (by kernel_rfl) (by kernel_rfl) (by kernel_rfl) (by intro d hd;cases hd;rfl) ?_
  have hF:=oc hF;obtain⟨c1,hF⟩:=hF
  repeat(first|refine chk.ga ?_|simp -dsimp)
  have hF:=ob hF;obtain⟨v,e2,hF⟩:=hF
  refine((C.f1 B hB1 hB2 r' (24:Int) v e2)).go 0 rfl (by simp) (by simp) (by simp) ?_
  repeat(first|refine chk.ga ?_|simp -dsimp)
  refine abr.split (fun h3=> ?_) (fun h3=> ?_)
  ·have q4:(v.1=0):=auq h3
   rw[if_pos q4]at hF
   repeat(first|refine chk.ga ?_|simp -dsimp[h3])
   have hF:=ob hF;obtain⟨v5,e6,hF⟩:=hF
   refine ACall.frz ?_ ((C.f54 B hB1 hB2 v.2 [(0:Int),(6:Int),(1:Int),(2:Int),(5:Int)] v5 e6)).ent
   repeat(first|refine chk.ga ?_|simp -dsimp[h3])
   refine((C.f54 B hB1 hB2 v.2 [(0:Int),(6:Int),(1:Int),(2:Int),(5:Int)] v5 e6)).go 0 rfl (by first|simp[h3];done|simp_all) (by simp) (by first|simp[h3];done|simp_all) ?_
   cases hF
   repeat(first|refine chk.ga ?_|simp -dsimp[h3])
   all_goals(try first|omega|rfl)
  ·have q4:¬(v.1=0):=auq h3
   rw[if_neg q4]at hF
   repeat(first|refine chk.ga ?_|simp -dsimp[h3,q4])
   refine abr.split (fun h7=> ?_) (fun h7=> ?_)
   ·have q8:(v.1=1):=auq h7
    rw[if_pos q8]at hF
    repeat(first|refine chk.ga ?_|simp -dsimp[h3,q4,h7])
    have hF:=ob hF;obtain⟨v9,e10,hF⟩:=hF
    refine ACall.frz ?_ ((C.f54 B hB1 hB2 v.2 [(10:Int),(-1:Int),(3:Int)] v9 e10)).ent
    repeat(first|refine chk.ga ?_|simp -dsimp[h3,q4,h7])
    refine((C.f54 B hB1 hB2 v.2 [(10:Int),(-1:Int),(3:Int)] v9 e10)).go 0 rfl (by first|simp[h3,q4,h7];done|simp_all) (by simp) (by first|simp[h3,q4,h7];done|simp_all) ?_
    cases hF
    repeat(first|refine chk.ga ?_|simp -dsimp[h3,q4,h7])
    all_goals(try first|omega|rfl)
   ·have q8:¬(v.1=1):=auq h7
    rw[if_neg q8]at hF
    repeat(first|refine chk.ga ?_|simp -dsimp[h3,q4,h7,q8])
    refine abr.split (fun h11=> ?_) (fun h11=> ?_)
    ·have q12:(v.1=2):=auq h11
     rw[if_pos q12]at hF
     have hF:=oc hF;obtain⟨c13,hF⟩:=hF
     cases hF
     repeat(first|refine chk.ga ?_|simp -dsimp[h3,q4,h7,q8,h11])
     all_goals(try first|omega|rfl)
    ·have q12:¬(v.1=2):=auq h11
     rw[if_neg q12]at hF
     repeat(first|refine chk.ga ?_|simp -dsimp[h3,q4,h7,q8,h11,q12])
     refine abr.split (fun h14=> ?_) (fun h14=> ?_)
     ·have q15:(v.1=3):=auq h14
      rw[if_pos q15]at hF
      repeat(first|refine chk.ga ?_|simp -dsimp[h3,q4,h7,q8,h11,q12,h14])
      refine abr.split (fun h16=> ?_) (fun h16=> ?_)
      ·have q17:(0<e.kids.length):=auq h16
       have z18:((0:Int)<(e.kids.length:Int)):=auz
       rw[if_pos q17]at hF
       repeat(first|refine chk.ga ?_|simp -dsimp[h3,q4,h7,q8,h11,q12,h14,h16,z18])
       refine ADraw.eff [17] [(0,2),(0,2),(0,1),(0,0),(0,0),(0,0),(0,0),(0,0),(0,3),(0,3),(2,2),(0,3)] [0,2,1,1,1,1,1,1,1,1,1,1] follows (by kernel_rfl) (by kernel_rfl) (by kernel_rfl) ?_
       have hF:=ob hF;obtain⟨x,e19,hF⟩:=hF
       have le19:=lt_of_get e19
       repeat(first|refine chk.ga ?_|simp -dsimp[h3,q4,h7,q8,h11,q12,h14,h16,z18,↓e19])
       have hF:=ob hF;obtain⟨v20,e21,hF⟩:=hF
       refine((ih_f67 v.2 x v20 e21)).ego 0 rfl (by first|simp[h3,q4,h7,q8,h11,q12,h14,h16,z18,↓e19];done|simp_all) (by simp) (by first|simp[h3,q4,h7,q8,h11,q12,h14,h16,z18,↓e19];done|simp_all) ?_
       repeat(first|refine chk.ga ?_|simp -dsimp[h3,q4,h7,q8,h11,q12,h14,h16,z18,↓e19])
       have hF:=ob hF;obtain⟨v22,e23,hF⟩:=hF
       refine((ih_f67 v20.2 v20.1 v22 e23)).ego 0 rfl (by first|simp[h3,q4,h7,q8,h11,q12,h14,h16,z18,↓e19];done|simp_all) (by simp) (by first|simp[h3,q4,h7,q8,h11,q12,h14,h16,z18,↓e19];done|simp_all) ?_
       cases hF
       repeat(first|refine chk.ga ?_|simp -dsimp[h3,q4,h7,q8,h11,q12,h14,h16,z18,↓e19])
       all_goals(try first|omega|rfl)
      ·have q17:¬(0<e.kids.length):=auq h16
       have z18:¬((0:Int)<(e.kids.length:Int)):=auz
       rw[if_neg q17]at hF
       cases hF
       repeat(first|refine chk.ga ?_|simp -dsimp[h3,q4,h7,q8,h11,q12,h14,h16,q17,z18])
       all_goals(try first|omega|rfl)
     ·have q15:¬(v.1=3):=auq h14
      rw[if_neg q15]at hF
      cases hF
      repeat(first|refine chk.ga ?_|simp -dsimp[h3,q4,h7,q8,h11,q12,h14,q15])
      all_goals(try first|omega|rfl)
theorem CC.spec_l12Draw__ob23_l1 (w:List Vl.Data)(funs:List Vl.FunType)(vars:List Vl.VarType)(t:Vl.Ty)(depth:Int)(v:List Int):(∀(z:List Int) (z2:Int) (i:Nat) (o:Lo (Vl.Expr×Vl.T_spec_l17Rd) ((List Int)×Int)),F.f63 w funs vars t depth v z z2 i=some o→∀(c:Code),navO [1,1,0,1,0,0] (bodyOf Tryz.f18)=some c→∀(Q:Exit→ASt→Prop),o.post (fun r=>∀st,PostI Tryz.prog Tryz.f18 (hold (fun r' σ'=>frzY σ' [.agg [.lit (.int .i64 r.1.op),.lit (.int .i64 r.1.n),.lit (.int .i64 r.1.ctor),.arr (List.map Vl.Expr.c r.1.kids)]] (unp [.agg [.lit (.int .i64 r.1.op),.lit (.int .i64 r.1.n),.lit (.int .i64 r.1.ctor),.arr (List.map Vl.Expr.c r.1.kids)]] r') (hold (fun xs' σ'=>stTo σ' [.cells [.arr (List.map cU r.2.f0),.lit (.int .i64 r.2.f1)],.elems 4 (List.map Vl.FunType.c funs),.elems 3 (List.map Vl.VarType.c vars)]∧ownP σ' 3 [] xs' [.agg [.lit (.int .i64 r.1.op),.lit (.int .i64 r.1.n),.lit (.int .i64 r.1.ctor),.arr (List.map Vl.Expr.c r.1.kids)]]∧lnd 3 (locsP xs' [.agg [.lit (.int .i64 r.1.op),.lit (.int .i64 r.1.n),.lit (.int .i64 r.1.ctor),.arr (List.map Vl.Expr.c r.1.kids)]])) .mk)) .mk) .ret st→Q .ret st) (fun s=>Q (.exit 0) ⟨[(0,.ptr 0 0),(1,.arr (List.map Vl.Data.c w)),(2,.own 1 (List.length (α:=Vl.FunType) funs)),(3,.own 2 (List.length (α:=Vl.VarType) vars)),(5,.lit (.int .i64 depth)),(10,.ptr 3 0),(12,.ptr 4 0),(13,.arr (List.map cI v))],[.cells [.arr (List.map cU s.1),.lit (.int .i64 s.2)],.elems 4 (List.map Vl.FunType.c funs),.elems 3 (List.map Vl.VarType.c vars),.cells [.lit (.int .i64 t.data),.lit (.int .i64 t.index)],.cells [.lit (.int .i64 0),.lit (.int .i64 0),.lit (.int .i64 0),.lit (.slice none 0 0)]]⟩)→ALoopU Tryz.prog B 3 178 (hold c .mk) ⟨[(0,.ptr 0 0),(1,.arr (List.map Vl.Data.c w)),(2,.own 1 (List.length (α:=Vl.FunType) funs)),(3,.own 2 (List.length (α:=Vl.VarType) vars)),(5,.lit (.int .i64 depth)),(10,.ptr 3 0),(12,.ptr 4 0),(13,.arr (List.map cI v)),(14,.lit (.int .i64 (i:Int)))],[.cells [.arr (List.map cU z),.lit (.int .i64 z2)],.elems 4 (List.map Vl.FunType.c funs),.elems 3 (List.map Vl.VarType.c vars),.cells [.lit (.int .i64 t.data),.lit (.int .i64 t.index)],.cells [.lit (.int .i64 0),.lit (.int .i64 0),.lit (.int .i64 0),.lit (.slice none 0 0)]]⟩ (hold Q .mk)):=by
 refine F.f63.partial_correctness w funs vars t depth v
  _
  ?_
 ·intro _f_spec_l12Draw__ob23_l1 ih_spec_l12Draw__ob23_l1 z z2 i o hF
  intro c hc Q hq
  obtain rfl:c=_:=navEq hc rfl
  refine ALoopU.know fun hk hs=> ?_
  have b1:=hk 1
  simp -dsimp at b1
  have b13:=hk 13
  simp -dsimp at b13
  have d0:=hs 0 _ rfl
  simp -dsimp[Blk.bnd]at d0
  have d1:=hs 1 _ rfl
  simp -dsimp[Blk.bnd]at d1
  have d2:=hs 2 _ rfl
  simp -dsimp[Blk.bnd]at d2
  clear hk hs
  refine ALoopU.enter ?_
  repeat(first|refine chk.ga ?_|simp -dsimp)
  refine abr.split (fun h3=> ?_) (fun h3=> ?_)
  ·have q4:(i<vars.length):=auq h3
   have z5:((i:Int)<(vars.length:Int)):=auz
   rw[if_pos q4]at hF
   repeat(first|refine chk.ga ?_|simp -dsimp[h3,z5])
   have hF:=ob hF;obtain⟨v6,e7,hF⟩:=hF
   refine((C.f1 B hB1 hB2 (⟨z,z2⟩:Vl.T_spec_l17Rd) (3:Int) v6 e7)).go 0 rfl (by first|simp[h3,z5];done|simp_all) (by simp) (by first|simp[h3,z5];done|simp_all) ?_
   repeat(first|refine chk.ga ?_|simp -dsimp[h3,z5])
   refine abr.split (fun h8=> ?_) (fun h8=> ?_)
   ·have q9:(0<v6.1):=auq h8
    rw[if_pos q9]at hF
    repeat(first|refine chk.ga ?_|simp -dsimp[h3,z5,h8])
    have hF:=ob hF;obtain⟨v10,e11,hF⟩:=hF
    refine((C.f1 B hB1 hB2 v6.2 (vars.length:Int) v10 e11)).go 0 rfl (by first|simp[h3,z5,h8];done|simp_all) (by simp) (by first|simp[h3,z5,h8];done|simp_all) ?_
    repeat(first|refine chk.ga ?_|simp -dsimp[h3,z5,h8])
    refine ADraw.simple follows (by kernel_rfl) (by kernel_rfl) ?_
    have hF:=ob hF;obtain⟨x,e12a,hF⟩:=hF
    have e12a:=at_some e12a;obtain⟨ne12,e12⟩:=e12a
    have le12:=lt_of_get e12
    repeat(first|refine chk.ga ?_|simp -dsimp[h3,z5,h8,↓e12])
    have hF:=ob hF;obtain⟨v13,e14,hF⟩:=hF
    refine((C.f60 B hB1 hB2 x.type t v13 e14)).pgoW (by first|simp[h3,z5,h8,↓e12];done|simp_all) (by simp) ?_
    repeat(first|refine chk.ga ?_|simp -dsimp[h3,z5,h8,↓e12])
    refine abr.split (fun h15=> ?_) (fun h15=> ?_)
    ·have q16:(v13=true):=auq h15
     rw[if_pos q16]at hF
     cases hF
     repeat(first|refine chk.ga ?_|simp -dsimp[h3,z5,h8,↓e12,h15])
     refine Leave.go _ (Gh.refl _) (hq _ ?_)
     repeat(first|refine chk.ga ?_|simp -dsimp[h3,z5,h8,↓e12,h15])
    ·have q16:¬(v13=true):=auq h15
     rw[if_neg q16]at hF
     have w17:IntKind.i64.wrap ((i:Int)+1)=(i:Int)+1:=wrap_in (by omega) (by omega)
     repeat(first|refine chk.ga ?_|simp -dsimp[h3,z5,h8,↓e12,h15,q16,w17])
     refine Again.go _ ?_ ((ih_spec_l12Draw__ob23_l1 v10.2.f0 v10.2.f1 (i+1) o hF) _ rfl _ hq)
     exact(Gh.to3 (by simp) (by first|simp -dsimp[h3,z5,h8,↓e12,h15,q16,w17];done|simp_all))
   ·have q9:¬(0<v6.1):=auq h8
    rw[if_neg q9]at hF
    cases hF
    repeat(first|refine chk.ga ?_|simp -dsimp[h3,z5,h8,q9])
    refine Leave.go ⟨[(0,.ptr 0 0),(1,.arr (List.map Vl.Data.c w)),(2,.own 1 (List.length (α:=Vl.FunType) funs)),(3,.own 2 (List.length (α:=Vl.VarType) vars)),(5,.lit (.int .i64 depth)),(10,.ptr 3 0),(12,.ptr 4 0),(13,.arr (List.map cI v))],[.cells [.arr (List.map cU v6.2.f0),.lit (.int .i64 v6.2.f1)],.elems 4 (List.map Vl.FunType.c funs),.elems 3 (List.map Vl.VarType.c vars),.cells [.lit (.int .i64 t.data),.lit (.int .i64 t.index)],.cells [.lit (.int .i64 0),.lit (.int .i64 0),.lit (.int .i64 0),.lit (.slice none 0 0)]]⟩ (Gh.to3 (by simp) (by first|simp -dsimp[h3,z5,h8,q9];done|simp_all)) ?_
    exact hq
  ·have q4:¬(i<vars.length):=auq h3
   have z5:¬((i:Int)<(vars.length:Int)):=auz
   rw[if_neg q4]at hF
   cases hF
   repeat(first|refine chk.ga ?_|simp -dsimp[h3,q4,z5])
   refine Leave.go ⟨[(0,.ptr 0 0),(1,.arr (List.map Vl.Data.c w)),(2,.own 1 (List.length (α:=Vl.FunType) funs)),(3,.own 2 (List.length (α:=Vl.VarType) vars)),(5,.lit (.int .i64 depth)),(10,.ptr 3 0),(12,.ptr 4 0),(13,.arr (List.map cI v))],[.cells [.arr (List.map cU z),.lit (.int .i64 z2)],.elems 4 (List.map Vl.FunType.c funs),.elems 3 (List.map Vl.VarType.c vars),.cells [.lit (.int .i64 t.data),.lit (.int .i64 t.index)],.cells [.lit (.int .i64 0),.lit (.int .i64 0),.lit (.int .i64 0),.lit (.slice none 0 0)]]⟩ (Gh.to3 (by simp) (by first|simp -dsimp[h3,q4,z5];done|simp_all)) ?_
   exact hq
end Go.Proofs.YtemnnldmdlgfpaaGreatDoor
