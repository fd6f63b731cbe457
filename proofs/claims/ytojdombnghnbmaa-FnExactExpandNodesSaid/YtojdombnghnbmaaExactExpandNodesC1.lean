/- The contracts: the code computes the functions (printed by gen.py). -/
import Derived.Test.YtojdombnghnbmaaProg
import Derived.Test.YtojdombnghnbmaaExactExpandNodesF
namespace Go.Proofs.Ytojdombnghnbmaa
open Go Go.Proofs Go.Vl
set_option linter.unusedSimpArgs false
set_option linter.unusedVariables false
set_option linter.unusedSectionVars false
set_option maxRecDepth 100000
set_option maxHeartbeats 4000000
set_option synthInstance.maxSize 100000
set_option synthInstance.maxHeartbeats 4000000
attribute [local irreducible] GhK ECallA NCallA aL aLg AMake MLoop AgainM LeaveM awpM aopsM MutCall BCall chk abr ACall ALoop ALoopU ADraw Again Leave PCallA PCall Post awp aops PureCall hold
theorem follows :Try.prog.follows .mixedOrders=true:=by kernel_rfl
@[simp] theorem ti2 :tiOf Try.prog 2=some ⟨.word,1,[.int .i64 0]⟩:=by kernel_rfl
@[simp] theorem ti3 :tiOf Try.prog 3=some ⟨.word,1,[.int .i64 0]⟩:=by kernel_rfl
@[simp] theorem ti4 :tiOf Try.prog 4=some ⟨.word,1,[.bool false]⟩:=by kernel_rfl
@[simp] theorem ti5 :tiOf Try.prog 5=some ⟨.word,1,[.int .u8 0]⟩:=by kernel_rfl
@[simp] theorem ti22 :tiOf Try.prog 22=some ⟨.slice 6 96 [.int .i64 0,.int .i64 0,.slice none 0 0,.slice none 0 0,.slice none 0 0,.int .i64 0],1,[.slice none 0 0]⟩:=by kernel_rfl
@[simp] theorem sl22 :isSl Try.prog 22=true:=by kernel_rfl
@[simp] theorem ti24 :tiOf Try.prog 24=some ⟨.slice 2 32 [.int .i64 0,.slice none 0 0],1,[.slice none 0 0]⟩:=by kernel_rfl
@[simp] theorem sl24 :isSl Try.prog 24=true:=by kernel_rfl
@[simp] theorem ti25 :tiOf Try.prog 25=some ⟨.slice 1 8 [.int .i64 0],1,[.slice none 0 0]⟩:=by kernel_rfl
@[simp] theorem sl25 :isSl Try.prog 25=true:=by kernel_rfl
@[simp] theorem ti26 :tiOf Try.prog 26=some ⟨.slice 9 136 [.int .i64 0,.int .i64 0,.int .i64 0,.int .i64 0,.int .i64 0,.slice none 0 0,.slice none 0 0,.slice none 0 0,.slice none 0 0],1,[.slice none 0 0]⟩:=by kernel_rfl
@[simp] theorem sl26 :isSl Try.prog 26=true:=by kernel_rfl
@[simp] theorem ti27 :tiOf Try.prog 27=some ⟨.slice 6 112 [.int .i64 0,.int .i64 0,.slice none 0 0,.slice none 0 0,.slice none 0 0,.slice none 0 0],1,[.slice none 0 0]⟩:=by kernel_rfl
@[simp] theorem sl27 :isSl Try.prog 27=true:=by kernel_rfl
@[simp] theorem ti29 :tiOf Try.prog 29=some ⟨.struct [(0,1),(1,1),(2,1),(3,1),(4,1),(5,1)],6,[.int .i64 0,.int .i64 0,.slice none 0 0,.slice none 0 0,.slice none 0 0,.slice none 0 0]⟩:=by kernel_rfl
@[simp] theorem ti32 :tiOf Try.prog 32=some ⟨.slice 6 96 [.int .i64 0,.int .i64 0,.slice none 0 0,.slice none 0 0,.slice none 0 0,.int .i64 0],1,[.slice none 0 0]⟩:=by kernel_rfl
@[simp] theorem sl32 :isSl Try.prog 32=true:=by kernel_rfl
@[simp] theorem ti40 :tiOf Try.prog 40=some ⟨.slice 2 32 [.int .i64 0,.slice none 0 0],1,[.slice none 0 0]⟩:=by kernel_rfl
@[simp] theorem sl40 :isSl Try.prog 40=true:=by kernel_rfl
@[simp] theorem ti41 :tiOf Try.prog 41=some ⟨.slice 4 32 [.int .i64 0,.int .i64 0,.int .i64 0,.int .i64 0],1,[.slice none 0 0]⟩:=by kernel_rfl
@[simp] theorem sl41 :isSl Try.prog 41=true:=by kernel_rfl
@[simp] theorem ti43 :tiOf Try.prog 43=some ⟨.struct [(0,1),(1,1),(2,1),(3,1),(4,1),(5,1)],6,[.int .i64 0,.int .i64 0,.slice none 0 0,.slice none 0 0,.slice none 0 0,.int .i64 0]⟩:=by kernel_rfl
@[simp] theorem ti47 :tiOf Try.prog 47=some ⟨.slice 4 32 [.int .i64 0,.int .i64 0,.int .i64 0,.int .i64 0],1,[.slice none 0 0]⟩:=by kernel_rfl
@[simp] theorem sl47 :isSl Try.prog 47=true:=by kernel_rfl
@[simp] theorem ti49 :tiOf Try.prog 49=some ⟨.struct [(0,1),(1,1),(2,1),(3,1),(4,1),(5,1)],6,[.int .i64 0,.int .i64 0,.slice none 0 0,.slice none 0 0,.slice none 0 0,.int .i64 0]⟩:=by kernel_rfl
@[simp] theorem ti67 :tiOf Try.prog 67=some ⟨.struct [(0,1),(1,1),(2,1),(3,1)],4,[.int .i64 0,.int .i64 0,.int .i64 0,.int .i64 0]⟩:=by kernel_rfl
@[simp] theorem pr67 :quad4B Try.prog 67=true:=by kernel_rfl
@[simp] theorem ti70 :tiOf Try.prog 70=some ⟨.struct [(0,1),(1,1),(2,1),(3,6)],9,[.int .i64 0,.int .i64 0,.int .i64 0,.int .i64 0,.int .i64 0,.slice none 0 0,.slice none 0 0,.slice none 0 0,.slice none 0 0]⟩:=by kernel_rfl
@[simp] theorem ti79 :tiOf Try.prog 79=some ⟨.struct [(0,1),(1,1)],2,[.int .i64 0,.slice none 0 0]⟩:=by kernel_rfl
@[simp] theorem ti83 :tiOf Try.prog 83=some ⟨.struct [(0,1),(1,1)],2,[.int .i64 0,.slice none 0 0]⟩:=by kernel_rfl
@[simp] theorem ti86 :tiOf Try.prog 86=some ⟨.struct [(0,1),(1,1),(2,1),(3,1)],4,[.int .i64 0,.int .i64 0,.int .i64 0,.int .i64 0]⟩:=by kernel_rfl
@[simp] theorem pr86 :quad4B Try.prog 86=true:=by kernel_rfl
attribute [simp] Try.underlying2 Try.underlying3 Try.underlying4 Try.underlying5 Try.underlying22 Try.underlying24 Try.underlying25 Try.underlying26 Try.underlying27 Try.underlying32 Try.underlying40 Try.underlying41 Try.underlying47 Try.results3 Try.results4 Try.results5 Try.results6 Try.results7 Try.results8 Try.results9 Try.results10 Try.results11 Try.results12 Try.results13 Try.results14 Try.results15 Try.results16 Try.results17 Try.results18 Try.results19 Try.results20 Try.results21 Try.results22 Try.results23 Try.results24 Try.results25 Try.results26 Try.results27 Try.results28 Try.results29 Try.results30 Try.results31 Try.results32 Try.results33 Try.results34 Try.results35 Try.results36 Try.results37 Try.results38 Try.results39 Try.results40 Try.results41 Try.results42 Try.results43 Try.results44 Try.results45 Try.results46 Try.results47 Try.results48 Try.results49 Try.results50 Try.results51 Try.results52 Try.results53 Try.results54
variable (B : Nat) (hB1 : 1073741824 ≤ bd B) (hB2 : bd B ≤ 9223372036854775807)
include hB1 hB2
theorem C.f0 (a:List Int)(left':Int)(r:Int)(hF:F.f0 a left'=some r):PureCall Try.prog B 35 [.arr (List.map cI a),.lit (.int .i64 left')] (.lit (.int .i64 r)):=by
 unfold F.f0 at hF
 refine PureCall.enterLe Try.func35 (by kernel_rfl) rfl Try.ntmps35 (by simp) (by simp) ?_
 repeat(first|refine chk.ga ?_|simp -dsimp)
 revert hF;refine abr.sp ?_ ?_<;>intro h1 q2 hF
 ·cases hF
  repeat(first|refine chk.ga ?_|simp -dsimp[h1])
  all_goals(try first|omega|rfl)
 ·cases hF
  repeat(first|refine chk.ga ?_|simp -dsimp[h1,q2])
  all_goals(try first|omega|rfl)
theorem C.f1 (a:Vl.PathBind)(left':Int)(r:Int)(hF:F.f1 a left'=some r):PureCall Try.prog B 50 [.agg [.lit (.int .i64 a.var),.arr (List.map cI a.path)],.lit (.int .i64 left')] (.lit (.int .i64 r)):=by
 unfold F.f1 at hF
 refine PureCall.enterLe Try.func50 (by kernel_rfl) rfl Try.ntmps50 (by simp) (by simp) ?_
 repeat(first|refine chk.ga ?_|simp -dsimp)
 have hF:=ob hF;obtain⟨v,e1,hF⟩:=hF
 refine((C.f0 B hB1 hB2 a.path left' v e1)).goW (by simp) (by simp) ?_
 repeat(first|refine chk.ga ?_|simp -dsimp)
 revert hF;refine abr.sp ?_ ?_<;>intro h2 q3 hF
 ·cases hF
  repeat(first|refine chk.ga ?_|simp -dsimp[h2])
  all_goals(try first|omega|rfl)
 ·cases hF
  repeat(first|refine chk.ga ?_|simp -dsimp[h2,q3])
  all_goals(try first|omega|rfl)
theorem CC.f2 (a:List Vl.PathBind):(∀(left'3:Int) (i:Nat) (o:Lo Int Int),F.f2 a left'3 i=some o→∀(c:Code),navO [1,1,1,0,1,0,0] (bodyOf Try.f34)=some c→∀(Q:Exit→ASt→Prop),o.post (fun r=>∀st,Post Try.prog Try.f34 (fun r' _=>r'.le (.lit (.int .i64 r))) .ret st→Q .ret st) (fun s=>Q (.exit 0) ⟨[(1,.lit (.int .i64 s))],[]⟩)→ALoopU Try.prog B 0 27 (hold c .mk) ⟨[(0,.arr (List.map Vl.PathBind.c a)),(1,.lit (.int .i64 left'3)),(5,.lit (.int .i64 (i:Int)))],[]⟩ (hold Q .mk)):=by
 refine F.f2.partial_correctness a
  _
  ?_
 ·intro _f_f2 ih_f2 left'3 i o hF
  intro c hc Q hq
  obtain rfl:c=_:=navEq hc rfl
  refine ALoopU.know fun hk hs=> ?_
  have b0:=hk 0
  simp -dsimp at b0
  clear hk hs
  refine ALoopU.enter ?_
  repeat(first|refine chk.ga ?_|simp -dsimp)
  revert hF;refine abr.sp ?_ ?_<;>intro h4 q5 hF
  ·have z6:((i:Int)<(a.length:Int)):=auz
   have hF:=ob hF;obtain⟨x,e7,hF⟩:=hF
   have le7:=lt_of_get e7
   repeat(first|refine chk.ga ?_|simp -dsimp[h4,z6,↓e7])
   have hF:=ob hF;obtain⟨v,e8,hF⟩:=hF
   refine((C.f1 B hB1 hB2 x left'3 v e8)).goW (by first|simp[h4,z6,↓e7];done|simp_all) (by simp) ?_
   repeat(first|refine chk.ga ?_|simp -dsimp[h4,z6,↓e7])
   revert hF;refine abr.sp ?_ ?_<;>intro h9 q10 hF
   ·cases hF
    repeat(first|refine chk.ga ?_|simp -dsimp[h4,z6,↓e7,h9])
    refine Leave.go _ (Gh.refl _) (hq _ ?_)
    repeat(first|refine chk.ga ?_|simp -dsimp[h4,z6,↓e7,h9])
   ·have w11:IntKind.i64.wrap ((i:Int)+1)=(i:Int)+1:=wrap_in (by omega) (by omega)
    repeat(first|refine chk.ga ?_|simp -dsimp[h4,z6,↓e7,h9,q10,w11])
    refine Again.go _ ?_ ((ih_f2 v (i+1) o hF) _ rfl _ hq)
    exact(Gh.to3 (by simp) (by first|simp -dsimp[h4,z6,↓e7,h9,q10,w11];done|simp_all))
  ·have z6:¬((i:Int)<(a.length:Int)):=auz
   cases hF
   repeat(first|refine chk.ga ?_|simp -dsimp[h4,q5,z6])
   refine Leave.go _ (Gh.to3 (by simp) (by first|simp -dsimp[h4,q5,z6];done|simp_all)) hq
theorem C.f3 (a:List Vl.PathBind)(left':Int)(r:Int)(hF:F.f3 a left'=some r):PureCall Try.prog B 34 [.arr (List.map Vl.PathBind.c a),.lit (.int .i64 left')] (.lit (.int .i64 r)):=by
 unfold F.f3 at hF
 refine PureCall.enterLe Try.func34 (by kernel_rfl) rfl Try.ntmps34 (by simp) (by simp) ?_
 repeat(first|refine chk.ga ?_|simp -dsimp)
 revert hF;refine abr.sp ?_ ?_<;>intro h1 q2 hF
 ·cases hF
  repeat(first|refine chk.ga ?_|simp -dsimp[h1])
  all_goals(try first|omega|rfl)
 ·repeat(first|refine chk.ga ?_|simp -dsimp[h1,q2])
  have hF:=ob hF;obtain⟨o',ho12,hF⟩:=hF
  refine ALoop.goU _ ?_ (((CC.f2 B hB1 hB2 a) (IntKind.i64.wrap (left'- (a.length:Int))) 0 o' ho12) _ rfl _ ?_)
  ·exact(Gh.to3 (by simp) (by first|simp -dsimp[h1,q2];done|simp_all))
  rcases o' with r0|sx
  ·dsimp only at hF
   cases hF
   intro st h
   simpa using h
  ·dsimp only at hF
   cases hF
   repeat(first|refine chk.ga ?_|simp -dsimp)
   all_goals(try first|omega|rfl)
theorem C.f4 (a:List Vl.Edge)(left':Int)(r:Int)(hF:F.f4 a left'=some r):PureCall Try.prog B 36 [.arr (List.map Vl.Edge.c a),.lit (.int .i64 left')] (.lit (.int .i64 r)):=by
 unfold F.f4 at hF
 refine PureCall.enterLe Try.func36 (by kernel_rfl) rfl Try.ntmps36 (by simp) (by simp) ?_
 repeat(first|refine chk.ga ?_|simp -dsimp)
 revert hF;refine abr.sp ?_ ?_<;>intro h1 q2 hF
 ·cases hF
  repeat(first|refine chk.ga ?_|simp -dsimp[h1])
  all_goals(try first|omega|rfl)
 ·cases hF
  repeat(first|refine chk.ga ?_|simp -dsimp[h1,q2])
  all_goals(try first|omega|rfl)
theorem C.f5 (a:Vl.Node)(left':Int)(r:Int)(hF:F.f5 a left'=some r):PureCall Try.prog B 13 [.agg [.lit (.int .i64 a.op),.lit (.int .i64 a.clause),.arr (List.map Vl.PathBind.c a.binds),.arr (List.map cI a.path),.arr (List.map Vl.Edge.c a.edges),.lit (.int .i64 a.els)],.lit (.int .i64 left')] (.lit (.int .i64 r)):=by
 unfold F.f5 at hF
 refine PureCall.enterLe Try.func13 (by kernel_rfl) rfl Try.ntmps13 (by simp) (by simp) ?_
 repeat(first|refine chk.ga ?_|simp -dsimp)
 have hF:=ob hF;obtain⟨v,e1,hF⟩:=hF
 refine((C.f3 B hB1 hB2 a.binds left' v e1)).goW (by simp) (by simp) ?_
 repeat(first|refine chk.ga ?_|simp -dsimp)
 revert hF;refine abr.sp ?_ ?_<;>intro h2 q3 hF
 ·cases hF
  repeat(first|refine chk.ga ?_|simp -dsimp[h2])
  all_goals(try first|omega|rfl)
 ·repeat(first|refine chk.ga ?_|simp -dsimp[h2,q3])
  have hF:=ob hF;obtain⟨v4,e5,hF⟩:=hF
  refine((C.f0 B hB1 hB2 a.path v v4 e5)).goW (by first|simp[h2,q3];done|simp_all) (by simp) ?_
  repeat(first|refine chk.ga ?_|simp -dsimp[h2,q3])
  revert hF;refine abr.sp ?_ ?_<;>intro h6 q7 hF
  ·cases hF
   repeat(first|refine chk.ga ?_|simp -dsimp[h2,q3,h6])
   all_goals(try first|omega|rfl)
  ·repeat(first|refine chk.ga ?_|simp -dsimp[h2,q3,h6,q7])
   have hF:=ob hF;obtain⟨v8,e9,hF⟩:=hF
   refine((C.f4 B hB1 hB2 a.edges v4 v8 e9)).goW (by first|simp[h2,q3,h6,q7];done|simp_all) (by simp) ?_
   repeat(first|refine chk.ga ?_|simp -dsimp[h2,q3,h6,q7])
   revert hF;refine abr.sp ?_ ?_<;>intro h10 q11 hF
   ·cases hF
    repeat(first|refine chk.ga ?_|simp -dsimp[h2,q3,h6,q7,h10])
    all_goals(try first|omega|rfl)
   ·cases hF
    repeat(first|refine chk.ga ?_|simp -dsimp[h2,q3,h6,q7,h10,q11])
    all_goals(try first|omega|rfl)
theorem CC.f6 (a:List Vl.Node):(∀(left'3:Int) (i:Nat) (o:Lo Int Int),F.f6 a left'3 i=some o→∀(c:Code),navO [1,1,1,0,1,0,0] (bodyOf Try.f4)=some c→∀(Q:Exit→ASt→Prop),o.post (fun r=>∀st,Post Try.prog Try.f4 (fun r' _=>r'.le (.lit (.int .i64 r))) .ret st→Q .ret st) (fun s=>Q (.exit 0) ⟨[(1,.lit (.int .i64 s))],[]⟩)→ALoopU Try.prog B 0 27 (hold c .mk) ⟨[(0,.arr (List.map Vl.Node.c a)),(1,.lit (.int .i64 left'3)),(5,.lit (.int .i64 (i:Int)))],[]⟩ (hold Q .mk)):=by
 refine F.f6.partial_correctness a
  _
  ?_
 ·intro _f_f6 ih_f6 left'3 i o hF
  intro c hc Q hq
  obtain rfl:c=_:=navEq hc rfl
  refine ALoopU.know fun hk hs=> ?_
  have b0:=hk 0
  simp -dsimp at b0
  clear hk hs
  refine ALoopU.enter ?_
  repeat(first|refine chk.ga ?_|simp -dsimp)
  revert hF;refine abr.sp ?_ ?_<;>intro h4 q5 hF
  ·have z6:((i:Int)<(a.length:Int)):=auz
   have hF:=ob hF;obtain⟨x,e7,hF⟩:=hF
   have le7:=lt_of_get e7
   repeat(first|refine chk.ga ?_|simp -dsimp[h4,z6,↓e7])
   have hF:=ob hF;obtain⟨v,e8,hF⟩:=hF
   refine((C.f5 B hB1 hB2 x left'3 v e8)).goW (by first|simp[h4,z6,↓e7];done|simp_all) (by simp) ?_
   repeat(first|refine chk.ga ?_|simp -dsimp[h4,z6,↓e7])
   revert hF;refine abr.sp ?_ ?_<;>intro h9 q10 hF
   ·cases hF
    repeat(first|refine chk.ga ?_|simp -dsimp[h4,z6,↓e7,h9])
    refine Leave.go _ (Gh.refl _) (hq _ ?_)
    repeat(first|refine chk.ga ?_|simp -dsimp[h4,z6,↓e7,h9])
   ·have w11:IntKind.i64.wrap ((i:Int)+1)=(i:Int)+1:=wrap_in (by omega) (by omega)
    repeat(first|refine chk.ga ?_|simp -dsimp[h4,z6,↓e7,h9,q10,w11])
    refine Again.go _ ?_ ((ih_f6 v (i+1) o hF) _ rfl _ hq)
    exact(Gh.to3 (by simp) (by first|simp -dsimp[h4,z6,↓e7,h9,q10,w11];done|simp_all))
  ·have z6:¬((i:Int)<(a.length:Int)):=auz
   cases hF
   repeat(first|refine chk.ga ?_|simp -dsimp[h4,q5,z6])
   refine Leave.go _ (Gh.to3 (by simp) (by first|simp -dsimp[h4,q5,z6];done|simp_all)) hq
theorem C.f7 (a:List Vl.Node)(left':Int)(r:Int)(hF:F.f7 a left'=some r):PureCall Try.prog B 4 [.arr (List.map Vl.Node.c a),.lit (.int .i64 left')] (.lit (.int .i64 r)):=by
 unfold F.f7 at hF
 refine PureCall.enterLe Try.func4 (by kernel_rfl) rfl Try.ntmps4 (by simp) (by simp) ?_
 repeat(first|refine chk.ga ?_|simp -dsimp)
 revert hF;refine abr.sp ?_ ?_<;>intro h1 q2 hF
 ·cases hF
  repeat(first|refine chk.ga ?_|simp -dsimp[h1])
  all_goals(try first|omega|rfl)
 ·repeat(first|refine chk.ga ?_|simp -dsimp[h1,q2])
  have hF:=ob hF;obtain⟨o',ho12,hF⟩:=hF
  refine ALoop.goU _ ?_ (((CC.f6 B hB1 hB2 a) (IntKind.i64.wrap (left'- (a.length:Int))) 0 o' ho12) _ rfl _ ?_)
  ·exact(Gh.to3 (by simp) (by first|simp -dsimp[h1,q2];done|simp_all))
  rcases o' with r0|sx
  ·dsimp only at hF
   cases hF
   intro st h
   simpa using h
  ·dsimp only at hF
   cases hF
   repeat(first|refine chk.ga ?_|simp -dsimp)
   all_goals(try first|omega|rfl)
theorem CC.f8 (a:List Int):(∀(out:List Int) (i:Nat) (o:List Int),F.f8 a out i=some o→∀(c:Code),navO [1,1,0,1,0,0] (bodyOf Try.f40)=some c→∀(Q:Exit→ASt→Prop),(Q (.exit 0) ⟨[(3,.own 0 (List.length (α:=Int) o))],[.elems 1 (List.map cI o)]⟩)→ALoopU Try.prog B 0 22 (hold c .mk) ⟨[(0,.arr (List.map cI a)),(3,.own 0 (List.length (α:=Int) out)),(4,.lit (.int .i64 (i:Int)))],[.elems 1 (List.map cI out)]⟩ (hold Q .mk)):=by
 refine F.f8.partial_correctness a
  _
  ?_
 ·intro _f_f8 ih_f8 out i o hF
  intro c hc Q hq
  obtain rfl:c=_:=navEq hc rfl
  refine ALoopU.know fun hk hs=> ?_
  have b0:=hk 0
  simp -dsimp at b0
  have d0:=hs 0 _ rfl
  simp -dsimp[Blk.bnd]at d0
  clear hk hs
  refine ALoopU.enter ?_
  repeat(first|refine chk.ga ?_|simp -dsimp)
  revert hF;refine abr.sp ?_ ?_<;>intro h2 q3 hF
  ·have z4:((i:Int)<(a.length:Int)):=auz
   have hF:=ob hF;obtain⟨x,e5,hF⟩:=hF
   have le5:=lt_of_get e5
   have hF:=ob hF;obtain⟨x6,e7,hF⟩:=hF
   have le7:=lt_of_get e7
   have w8:IntKind.i64.wrap ((i:Int)+1)=(i:Int)+1:=wrap_in (by omega) (by omega)
   repeat(first|refine chk.ga ?_|simp -dsimp[h2,z4,↓e5,↓e7,w8])
   refine Again.go _ ?_ ((ih_f8 (out.set i x) (i+1) o hF) _ rfl _ hq)
   exact(Gh.to3 (by simp) (by first|simp -dsimp[h2,z4,↓e5,↓e7,w8];done|simp_all))
  ·have z4:¬((i:Int)<(a.length:Int)):=auz
   cases hF
   repeat(first|refine chk.ga ?_|simp -dsimp[h2,q3,z4])
   refine Leave.go _ (Gh.to3 (by simp) (by first|simp -dsimp[h2,q3,z4];done|simp_all)) hq
theorem C.f9 (a:List Int)(r:List Int)(hF:F.f9 a=some r):PureCall Try.prog B 40 [.arr (List.map cI a)] (.arr (List.map cI r)):=by
 unfold F.f9 at hF
 refine PureCall.enterLe Try.func40 (by kernel_rfl) rfl Try.ntmps40 (by simp) (by simp) ?_
 have hF:=oc hF;obtain⟨c1,hF⟩:=hF
 repeat(first|refine chk.ga ?_|simp -dsimp)
 have hF:=ob hF;obtain⟨o',ho9,hF⟩:=hF
 refine ALoop.goU _ ?_ (((CC.f8 B hB1 hB2 a) (List.replicate a.length (0:Int)) 0 o' ho9) _ rfl _ ?_)
 ·exact(Gh.to3 (by simp) (by simp -dsimp))
 cases hF
 repeat(first|refine chk.ga ?_|simp -dsimp)
 all_goals(try first|omega|rfl)
theorem C.f10 (a:Vl.PathBind)(r:Vl.PathBind)(hF:F.f10 a=some r):PureCall Try.prog B 51 [.agg [.lit (.int .i64 a.var),.arr (List.map cI a.path)]] (.agg [.lit (.int .i64 r.var),.arr (List.map cI r.path)]):=by
 unfold F.f10 at hF
 refine PureCall.enterLe Try.func51 (by kernel_rfl) rfl Try.ntmps51 (by simp) (by simp) ?_
 repeat(first|refine chk.ga ?_|simp -dsimp)
 have hF:=ob hF;obtain⟨v,e1,hF⟩:=hF
 refine((C.f9 B hB1 hB2 a.path v e1)).goW (by simp) (by simp) ?_
 cases hF
 repeat(first|refine chk.ga ?_|simp -dsimp)
 all_goals(try first|omega|rfl)
theorem CC.f11 (a:List Vl.PathBind):(∀(out:List Vl.PathBind) (i:Nat) (o:List Vl.PathBind),F.f11 a out i=some o→∀(c:Code),navO [1,1,0,1,0,0] (bodyOf Try.f39)=some c→∀(Q:Exit→ASt→Prop),(Q (.exit 0) ⟨[(3,.own 0 (List.length (α:=Vl.PathBind) o))],[.elems 2 (List.map Vl.PathBind.c o)]⟩)→ALoopU Try.prog B 0 23 (hold c .mk) ⟨[(0,.arr (List.map Vl.PathBind.c a)),(3,.own 0 (List.length (α:=Vl.PathBind) out)),(4,.lit (.int .i64 (i:Int)))],[.elems 2 (List.map Vl.PathBind.c out)]⟩ (hold Q .mk)):=by
 refine F.f11.partial_correctness a
  _
  ?_
 ·intro _f_f11 ih_f11 out i o hF
  intro c hc Q hq
  obtain rfl:c=_:=navEq hc rfl
  refine ALoopU.know fun hk hs=> ?_
  have b0:=hk 0
  simp -dsimp at b0
  have d0:=hs 0 _ rfl
  simp -dsimp[Blk.bnd]at d0
  clear hk hs
  refine ALoopU.enter ?_
  repeat(first|refine chk.ga ?_|simp -dsimp)
  revert hF;refine abr.sp ?_ ?_<;>intro h2 q3 hF
  ·have z4:((i:Int)<(a.length:Int)):=auz
   have hF:=ob hF;obtain⟨x,e5,hF⟩:=hF
   have le5:=lt_of_get e5
   repeat(first|refine chk.ga ?_|simp -dsimp[h2,z4,↓e5])
   have hF:=ob hF;obtain⟨v,e6,hF⟩:=hF
   refine((C.f10 B hB1 hB2 x v e6)).goW (by first|simp[h2,z4,↓e5];done|simp_all) (by simp) ?_
   have hF:=ob hF;obtain⟨x7,e8,hF⟩:=hF
   have le8:=lt_of_get e8
   have w9:IntKind.i64.wrap ((i:Int)+1)=(i:Int)+1:=wrap_in (by omega) (by omega)
   repeat(first|refine chk.ga ?_|simp -dsimp[h2,z4,↓e5,↓e8,w9])
   refine Again.go _ ?_ ((ih_f11 (out.set i v) (i+1) o hF) _ rfl _ hq)
   exact(Gh.to3 (by simp) (by first|simp -dsimp[h2,z4,↓e5,↓e8,w9];done|simp_all))
  ·have z4:¬((i:Int)<(a.length:Int)):=auz
   cases hF
   repeat(first|refine chk.ga ?_|simp -dsimp[h2,q3,z4])
   refine Leave.go _ (Gh.to3 (by simp) (by first|simp -dsimp[h2,q3,z4];done|simp_all)) hq
theorem C.f12 (a:List Vl.PathBind)(r:List Vl.PathBind)(hF:F.f12 a=some r):PureCall Try.prog B 39 [.arr (List.map Vl.PathBind.c a)] (.arr (List.map Vl.PathBind.c r)):=by
 unfold F.f12 at hF
 refine PureCall.enterLe Try.func39 (by kernel_rfl) rfl Try.ntmps39 (by simp) (by simp) ?_
 have hF:=oc hF;obtain⟨c1,hF⟩:=hF
 repeat(first|refine chk.ga ?_|simp -dsimp)
 have hF:=ob hF;obtain⟨o',ho10,hF⟩:=hF
 refine ALoop.goU _ ?_ (((CC.f11 B hB1 hB2 a) (List.replicate a.length Vl.PathBind.z) 0 o' ho10) _ rfl _ ?_)
 ·exact(Gh.to3 (by simp) (by simp -dsimp))
 cases hF
 repeat(first|refine chk.ga ?_|simp -dsimp)
 all_goals(try first|omega|rfl)
theorem C.f13 (a:Vl.Edge)(r:Vl.Edge)(hF:F.f13 a=some r):PureCall Try.prog B 52 [.agg [.lit (.int .i64 a.ctor),.lit (.int .i64 a.n),.lit (.int .i64 a.m),.lit (.int .i64 a.to)]] (.agg [.lit (.int .i64 r.ctor),.lit (.int .i64 r.n),.lit (.int .i64 r.m),.lit (.int .i64 r.to)]):=by
 unfold F.f13 at hF
 refine PureCall.enterLe Try.func52 (by kernel_rfl) rfl Try.ntmps52 (by simp) (by simp) ?_
 cases hF
 repeat(first|refine chk.ga ?_|simp -dsimp)
 all_goals(try first|omega|rfl)
theorem CC.f14 (a:List Vl.Edge):(∀(out:List Vl.Edge) (i:Nat) (o:List Vl.Edge),F.f14 a out i=some o→∀(c:Code),navO [1,1,0,1,0,0] (bodyOf Try.f41)=some c→∀(Q:Exit→ASt→Prop),(Q (.exit 0) ⟨[(3,.own 0 (List.length (α:=Vl.Edge) o))],[.elems 4 (List.map Vl.Edge.c o)]⟩)→ALoopU Try.prog B 0 23 (hold c .mk) ⟨[(0,.arr (List.map Vl.Edge.c a)),(3,.own 0 (List.length (α:=Vl.Edge) out)),(4,.lit (.int .i64 (i:Int)))],[.elems 4 (List.map Vl.Edge.c out)]⟩ (hold Q .mk)):=by
 refine F.f14.partial_correctness a
  _
  ?_
 ·intro _f_f14 ih_f14 out i o hF
  intro c hc Q hq
  obtain rfl:c=_:=navEq hc rfl
  refine ALoopU.know fun hk hs=> ?_
  have b0:=hk 0
  simp -dsimp at b0
  have d0:=hs 0 _ rfl
  simp -dsimp[Blk.bnd]at d0
  clear hk hs
  refine ALoopU.enter ?_
  repeat(first|refine chk.ga ?_|simp -dsimp)
  revert hF;refine abr.sp ?_ ?_<;>intro h2 q3 hF
  ·have z4:((i:Int)<(a.length:Int)):=auz
   have hF:=ob hF;obtain⟨x,e5,hF⟩:=hF
   have le5:=lt_of_get e5
   repeat(first|refine chk.ga ?_|simp -dsimp[h2,z4,↓e5])
   have hF:=ob hF;obtain⟨v,e6,hF⟩:=hF
   refine((C.f13 B hB1 hB2 x v e6)).goW (by first|simp[h2,z4,↓e5];done|simp_all) (by simp) ?_
   have hF:=ob hF;obtain⟨x7,e8,hF⟩:=hF
   have le8:=lt_of_get e8
   have w9:IntKind.i64.wrap ((i:Int)+1)=(i:Int)+1:=wrap_in (by omega) (by omega)
   repeat(first|refine chk.ga ?_|simp -dsimp[h2,z4,↓e5,↓e8,w9])
   refine Again.go _ ?_ ((ih_f14 (out.set i v) (i+1) o hF) _ rfl _ hq)
   exact(Gh.to3 (by simp) (by first|simp -dsimp[h2,z4,↓e5,↓e8,w9];done|simp_all))
  ·have z4:¬((i:Int)<(a.length:Int)):=auz
   cases hF
   repeat(first|refine chk.ga ?_|simp -dsimp[h2,q3,z4])
   refine Leave.go _ (Gh.to3 (by simp) (by first|simp -dsimp[h2,q3,z4];done|simp_all)) hq
theorem C.f15 (a:List Vl.Edge)(r:List Vl.Edge)(hF:F.f15 a=some r):PureCall Try.prog B 41 [.arr (List.map Vl.Edge.c a)] (.arr (List.map Vl.Edge.c r)):=by
 unfold F.f15 at hF
 refine PureCall.enterLe Try.func41 (by kernel_rfl) rfl Try.ntmps41 (by simp) (by simp) ?_
 have hF:=oc hF;obtain⟨c1,hF⟩:=hF
 repeat(first|refine chk.ga ?_|simp -dsimp)
 have hF:=ob hF;obtain⟨o',ho10,hF⟩:=hF
 refine ALoop.goU _ ?_ (((CC.f14 B hB1 hB2 a) (List.replicate a.length Vl.Edge.z) 0 o' ho10) _ rfl _ ?_)
 ·exact(Gh.to3 (by simp) (by simp -dsimp))
 cases hF
 repeat(first|refine chk.ga ?_|simp -dsimp)
 all_goals(try first|omega|rfl)
theorem C.f16 (a:Vl.Node)(r:Vl.Node)(hF:F.f16 a=some r):PureCall Try.prog B 16 [.agg [.lit (.int .i64 a.op),.lit (.int .i64 a.clause),.arr (List.map Vl.PathBind.c a.binds),.arr (List.map cI a.path),.arr (List.map Vl.Edge.c a.edges),.lit (.int .i64 a.els)]] (.agg [.lit (.int .i64 r.op),.lit (.int .i64 r.clause),.arr (List.map Vl.PathBind.c r.binds),.arr (List.map cI r.path),.arr (List.map Vl.Edge.c r.edges),.lit (.int .i64 r.els)]):=by
 unfold F.f16 at hF
 refine PureCall.enterLe Try.func16 (by kernel_rfl) rfl Try.ntmps16 (by simp) (by simp) ?_
 repeat(first|refine chk.ga ?_|simp -dsimp)
 have hF:=ob hF;obtain⟨v,e1,hF⟩:=hF
 refine((C.f12 B hB1 hB2 a.binds v e1)).goW (by simp) (by simp) ?_
 repeat(first|refine chk.ga ?_|simp -dsimp)
 have hF:=ob hF;obtain⟨v2,e3,hF⟩:=hF
 refine((C.f9 B hB1 hB2 a.path v2 e3)).goW (by simp) (by simp) ?_
 repeat(first|refine chk.ga ?_|simp -dsimp)
 have hF:=ob hF;obtain⟨v4,e5,hF⟩:=hF
 refine((C.f15 B hB1 hB2 a.edges v4 e5)).goW (by simp) (by simp) ?_
 cases hF
 repeat(first|refine chk.ga ?_|simp -dsimp)
 all_goals(try first|omega|rfl)
theorem CC.f17 (a:List Vl.Node):(∀(out:List Vl.Node) (i:Nat) (o:List Vl.Node),F.f17 a out i=some o→∀(c:Code),navO [1,1,0,1,0,0] (bodyOf Try.f6)=some c→∀(Q:Exit→ASt→Prop),(Q (.exit 0) ⟨[(3,.own 0 (List.length (α:=Vl.Node) o))],[.elems 6 (List.map Vl.Node.c o)]⟩)→ALoopU Try.prog B 0 23 (hold c .mk) ⟨[(0,.arr (List.map Vl.Node.c a)),(3,.own 0 (List.length (α:=Vl.Node) out)),(4,.lit (.int .i64 (i:Int)))],[.elems 6 (List.map Vl.Node.c out)]⟩ (hold Q .mk)):=by
 refine F.f17.partial_correctness a
  _
  ?_
 ·intro _f_f17 ih_f17 out i o hF
  intro c hc Q hq
  obtain rfl:c=_:=navEq hc rfl
  refine ALoopU.know fun hk hs=> ?_
  have b0:=hk 0
  simp -dsimp at b0
  have d0:=hs 0 _ rfl
  simp -dsimp[Blk.bnd]at d0
  clear hk hs
  refine ALoopU.enter ?_
  repeat(first|refine chk.ga ?_|simp -dsimp)
  revert hF;refine abr.sp ?_ ?_<;>intro h2 q3 hF
  ·have z4:((i:Int)<(a.length:Int)):=auz
   have hF:=ob hF;obtain⟨x,e5,hF⟩:=hF
   have le5:=lt_of_get e5
   repeat(first|refine chk.ga ?_|simp -dsimp[h2,z4,↓e5])
   have hF:=ob hF;obtain⟨v,e6,hF⟩:=hF
   refine((C.f16 B hB1 hB2 x v e6)).goW (by first|simp[h2,z4,↓e5];done|simp_all) (by simp) ?_
   have hF:=ob hF;obtain⟨x7,e8,hF⟩:=hF
   have le8:=lt_of_get e8
   have w9:IntKind.i64.wrap ((i:Int)+1)=(i:Int)+1:=wrap_in (by omega) (by omega)
   repeat(first|refine chk.ga ?_|simp -dsimp[h2,z4,↓e5,↓e8,w9])
   refine Again.go _ ?_ ((ih_f17 (out.set i v) (i+1) o hF) _ rfl _ hq)
   exact(Gh.to3 (by simp) (by first|simp -dsimp[h2,z4,↓e5,↓e8,w9];done|simp_all))
  ·have z4:¬((i:Int)<(a.length:Int)):=auz
   cases hF
   repeat(first|refine chk.ga ?_|simp -dsimp[h2,q3,z4])
   refine Leave.go _ (Gh.to3 (by simp) (by first|simp -dsimp[h2,q3,z4];done|simp_all)) hq
theorem C.f18 (a:List Vl.Node)(r:List Vl.Node)(hF:F.f18 a=some r):PureCall Try.prog B 6 [.arr (List.map Vl.Node.c a)] (.arr (List.map Vl.Node.c r)):=by
 unfold F.f18 at hF
 refine PureCall.enterLe Try.func6 (by kernel_rfl) rfl Try.ntmps6 (by simp) (by simp) ?_
 have hF:=oc hF;obtain⟨c1,hF⟩:=hF
 repeat(first|refine chk.ga ?_|simp -dsimp)
 have hF:=ob hF;obtain⟨o',ho10,hF⟩:=hF
 refine ALoop.goU _ ?_ (((CC.f17 B hB1 hB2 a) (List.replicate a.length Vl.Node.z) 0 o' ho10) _ rfl _ ?_)
 ·exact(Gh.to3 (by simp) (by simp -dsimp))
 cases hF
 repeat(first|refine chk.ga ?_|simp -dsimp)
 all_goals(try first|omega|rfl)
theorem C.f19  (r:Int)(hF:F.f19=some r):PureCall Try.prog B 37 [] (.lit (.int .i64 r)):=by
 unfold F.f19 at hF
 refine PureCall.enterLe Try.func37 (by kernel_rfl) rfl Try.ntmps37 (by simp) (by simp) ?_
 cases hF
 repeat(first|refine chk.ga ?_|simp -dsimp)
 all_goals(try first|omega|rfl)
theorem CC.f20 (list:List Vl.Node)(i:Nat)(x:Vl.Node):(∀(k:Nat) (o:Lo Bool Unit),F.f20 list i x k=some o→∀(c:Code),navO [1,1,0,1,0,0,1,0,0,1,1,1,0,0] (bodyOf Try.f14)=some c→∀(Q:Exit→ASt→Prop),o.post (fun r=>∀st,Post Try.prog Try.f14 (fun r' _=>r'.le (.lit (.bool r))) .ret st→Q .ret st) (fun s=>Q (.exit 2) ⟨[(0,.arr (List.map Vl.Node.c list)),(3,.lit (.int .i64 (i:Int)))],[]⟩)→ALoopU Try.prog B 0 74 (hold c .mk) ⟨[(0,.arr (List.map Vl.Node.c list)),(3,.lit (.int .i64 (i:Int))),(4,.ptr 0 0),(5,.lit (.int .i64 (k:Int)))],[.cells [.lit (.int .i64 x.op),.lit (.int .i64 x.clause),.arr (List.map Vl.PathBind.c x.binds),.arr (List.map cI x.path),.arr (List.map Vl.Edge.c x.edges),.lit (.int .i64 x.els)]]⟩ (hold Q .mk)):=by
 refine F.f20.partial_correctness list i x
  _
  ?_
 ·intro _f_f20 ih_f20 k o hF
  intro c hc Q hq
  obtain rfl:c=_:=navEq hc rfl
  refine ALoopU.know fun hk hs=> ?_
  have b0:=hk 0
  simp -dsimp at b0
  have d0:=hs 0 _ rfl
  simp -dsimp[Blk.bnd]at d0
  clear hk hs
  refine ALoopU.enter ?_
  repeat(first|refine chk.ga ?_|simp -dsimp)
  revert hF;refine abr.sp ?_ ?_<;>intro h23 q24 hF
  ·have z25:((k:Int)<(x.edges.length:Int)):=auz
   have hF:=ob hF;obtain⟨x26,e27,hF⟩:=hF
   have le27:=lt_of_get e27
   repeat(first|refine chk.ga ?_|simp -dsimp[h23,z25,↓e27])
   revert hF;refine abr.ns ?_ ?_<;>intro h28 q29 hF
   ·repeat(first|refine chk.ga ?_|simp -dsimp[h23,z25,↓e27,h28,q29])
    revert hF;refine abr.sp ?_ ?_<;>intro h30 q31 hF
    ·cases hF
     repeat(first|refine chk.ga ?_|simp -dsimp[h23,z25,↓e27,h28,q29,h30])
     refine Leave.go _ (Gh.refl _) (hq _ ?_)
     repeat(first|refine chk.ga ?_|simp -dsimp[h23,z25,↓e27,h28,q29,h30])
    ·have w32:IntKind.i64.wrap ((k:Int)+1)=(k:Int)+1:=wrap_in (by omega) (by omega)
     repeat(first|refine chk.ga ?_|simp -dsimp[h23,z25,↓e27,h28,q29,h30,q31,w32])
     refine Again.go _ ?_ ((ih_f20 (k+1) o hF) _ rfl _ hq)
     exact(Gh.to3 (by simp) (by first|simp -dsimp[h23,z25,↓e27,h28,q29,h30,q31,w32];done|simp_all))
   ·cases hF
    repeat(first|refine chk.ga ?_|simp -dsimp[h23,z25,↓e27,h28,q29])
    refine Leave.go _ (Gh.refl _) (hq _ ?_)
    repeat(first|refine chk.ga ?_|simp -dsimp[h23,z25,↓e27,h28,q29])
  ·have z25:¬((k:Int)<(x.edges.length:Int)):=auz
   cases hF
   repeat(first|refine chk.ga ?_|simp -dsimp[h23,q24,z25])
   refine Leave.go _ (Gh.to3 (by simp) (by first|simp -dsimp[h23,q24,z25];done|simp_all)) hq
theorem CC.f21 (list:List Vl.Node):(∀(i:Nat) (o:Lo Bool Unit),F.f21 list i=some o→∀(c:Code),navO [1,1,0,1,0,0] (bodyOf Try.f14)=some c→∀(Q:Exit→ASt→Prop),o.post (fun r=>∀st,Post Try.prog Try.f14 (fun r' _=>r'.le (.lit (.bool r))) .ret st→Q .ret st) (fun s=>Q (.exit 0) ⟨[],[]⟩)→ALoopU Try.prog B 0 74 (hold c .mk) ⟨[(0,.arr (List.map Vl.Node.c list)),(3,.lit (.int .i64 (i:Int)))],[]⟩ (hold Q .mk)):=by
 refine F.f21.partial_correctness list
  _
  ?_
 ·intro _f_f21 ih_f21 i o hF
  intro c hc Q hq
  obtain rfl:c=_:=navEq hc rfl
  refine ALoopU.know fun hk hs=> ?_
  have b0:=hk 0
  simp -dsimp at b0
  clear hk hs
  refine ALoopU.enter ?_
  repeat(first|refine chk.ga ?_|simp -dsimp)
  revert hF;refine abr.sp ?_ ?_<;>intro h7 q8 hF
  ·have z9:((i:Int)<(list.length:Int)):=auz
   have hF:=ob hF;obtain⟨x,e10,hF⟩:=hF
   have le10:=lt_of_get e10
   repeat(first|refine chk.ga ?_|simp -dsimp[h7,z9,↓e10])
   refine ADraw.simple follows (by kernel_rfl) (by kernel_rfl) ?_
   repeat(first|refine chk.ga ?_|simp -dsimp[h7,z9,↓e10])
   revert hF;refine abr.ns ?_ ?_<;>intro h11 q12 hF
   ·repeat(first|refine chk.ga ?_|simp -dsimp[h7,z9,↓e10,h11,q12])
    revert hF;refine abr.ns ?_ ?_<;>intro h13 q14 hF
    ·repeat(first|refine chk.ga ?_|simp -dsimp[h7,z9,↓e10,h11,q12,h13,q14])
     have hF:=ob hF;obtain⟨v,e15,hF⟩:=hF
     refine((C.f19 B hB1 hB2 v e15)).pgoW (by first|simp[h7,z9,↓e10,h11,q12,h13,q14];done|simp_all) (by simp) ?_
     repeat(first|refine chk.ga ?_|simp -dsimp[h7,z9,↓e10,h11,q12,h13,q14])
     revert hF;refine abr.ns ?_ ?_<;>intro h16 q17 hF
     ·repeat(first|refine chk.ga ?_|simp -dsimp[h7,z9,↓e10,h11,q12,h13,q14,h16,q17])
      revert hF;refine abr.ns ?_ ?_<;>intro h18 q19 hF
      ·repeat(first|refine chk.ga ?_|simp -dsimp[h7,z9,↓e10,h11,q12,h13,q14,h16,q17,h18,q19])
       revert hF;refine abr.sp ?_ ?_<;>intro h20 q21 hF
       ·have z22:((10:Int)<(x.edges.length:Int)):=auz
        cases hF
        repeat(first|refine chk.ga ?_|simp -dsimp[h7,z9,↓e10,h11,q12,h13,q14,h16,q17,h18,q19,h20,z22])
        refine Leave.go _ (Gh.refl _) (hq _ ?_)
        repeat(first|refine chk.ga ?_|simp -dsimp[h7,z9,↓e10,h11,q12,h13,q14,h16,q17,h18,q19,h20,z22])
       ·have z22:¬((10:Int)<(x.edges.length:Int)):=auz
        repeat(first|refine chk.ga ?_|simp -dsimp[h7,z9,↓e10,h11,q12,h13,q14,h16,q17,h18,q19,h20,q21,z22])
        have hF:=ob hF;obtain⟨o',ho33,hF⟩:=hF
        refine ALoop.goU _ ?_ (((CC.f20 B hB1 hB2 list i x) 0 o' ho33) _ rfl _ ?_)
        ·exact(Gh.to3 (by simp) (by first|simp -dsimp[h7,z9,↓e10,h11,q12,h13,q14,h16,q17,h18,q19,h20,q21,z22];done|simp_all))
        rcases o' with r0|sx
        ·dsimp only at hF
         cases hF
         intro st h
         simp -dsimp
         refine Leave.go st (Gh.refl _) (hq st h)
        ·dsimp only at hF
         have hF:=oc hF;obtain⟨c34,hF⟩:=hF
         have w35:IntKind.i64.wrap ((i:Int)+1)=(i:Int)+1:=wrap_in (by omega) (by omega)
         repeat(first|refine chk.ga ?_|simp -dsimp[w35])
         refine Again.go _ ?_ ((ih_f21 (i+1) o hF) _ rfl _ hq)
         exact(Gh.to3 (by simp) (by first|simp -dsimp[w35];done|simp_all))
      ·cases hF
       repeat(first|refine chk.ga ?_|simp -dsimp[h7,z9,↓e10,h11,q12,h13,q14,h16,q17,h18,q19])
       refine Leave.go _ (Gh.refl _) (hq _ ?_)
       repeat(first|refine chk.ga ?_|simp -dsimp[h7,z9,↓e10,h11,q12,h13,q14,h16,q17,h18,q19])
     ·cases hF
      repeat(first|refine chk.ga ?_|simp -dsimp[h7,z9,↓e10,h11,q12,h13,q14,h16,q17])
      refine Leave.go _ (Gh.refl _) (hq _ ?_)
      repeat(first|refine chk.ga ?_|simp -dsimp[h7,z9,↓e10,h11,q12,h13,q14,h16,q17])
    ·cases hF
     repeat(first|refine chk.ga ?_|simp -dsimp[h7,z9,↓e10,h11,q12,h13,q14])
     refine Leave.go _ (Gh.refl _) (hq _ ?_)
     repeat(first|refine chk.ga ?_|simp -dsimp[h7,z9,↓e10,h11,q12,h13,q14])
   ·cases hF
    repeat(first|refine chk.ga ?_|simp -dsimp[h7,z9,↓e10,h11,q12])
    refine Leave.go _ (Gh.refl _) (hq _ ?_)
    repeat(first|refine chk.ga ?_|simp -dsimp[h7,z9,↓e10,h11,q12])
  ·have z9:¬((i:Int)<(list.length:Int)):=auz
   cases hF
   repeat(first|refine chk.ga ?_|simp -dsimp[h7,q8,z9])
   refine Leave.go _ (Gh.to3 (by simp) (by first|simp -dsimp[h7,q8,z9];done|simp_all)) hq
theorem C.f22 (list:List Vl.Node)(r:Bool)(hF:F.f22 list=some r):PureCall Try.prog B 14 [.arr (List.map Vl.Node.c list)] (.lit (.bool r)):=by
 unfold F.f22 at hF
 refine PureCall.enterLe Try.func14 (by kernel_rfl) rfl Try.ntmps14 (by simp) (by simp) ?_
 repeat(first|refine chk.ga ?_|simp -dsimp)
 revert hF;refine abr.ns ?_ ?_<;>intro h1 q2 hF
 ·have z3:¬((list.length:Int)=(0:Int)):=auz
  repeat(first|refine chk.ga ?_|simp -dsimp[h1,q2,z3])
  revert hF;refine abr.sp ?_ ?_<;>intro h4 q5 hF
  ·have z6:((300:Int)<(list.length:Int)):=auz
   cases hF
   repeat(first|refine chk.ga ?_|simp -dsimp[h1,q2,z3,h4,z6])
   all_goals(try first|omega|rfl)
  ·have z6:¬((300:Int)<(list.length:Int)):=auz
   repeat(first|refine chk.ga ?_|simp -dsimp[h1,q2,z3,h4,q5,z6])
   have hF:=ob hF;obtain⟨o'37,ho36,hF⟩:=hF
   refine ALoop.goU _ ?_ (((CC.f21 B hB1 hB2 list) 0 o'37 ho36) _ rfl _ ?_)
   ·exact(Gh.to3 (by simp) (by first|simp -dsimp[h1,q2,z3,h4,q5,z6];done|simp_all))
   rcases o'37 with r039|sx38
   ·dsimp only at hF
    cases hF
    intro st h
    simpa using h
   ·dsimp only at hF
    cases hF
    repeat(first|refine chk.ga ?_|simp -dsimp)
    all_goals(try first|omega|rfl)
 ·have z3:((list.length:Int)=(0:Int)):=auz
  cases hF
  repeat(first|refine chk.ga ?_|simp -dsimp[h1,q2,z3])
  all_goals(try first|omega|rfl)
theorem CC.f23 (list:List Vl.PathBind):(∀(out:List Vl.PathBind) (i:Nat) (o:List Vl.PathBind),F.f23 list out i=some o→∀(c:Code),navO [1,1,0,1,0,0] (bodyOf Try.f38)=some c→∀(Q:Exit→ASt→Prop),(Q (.exit 0) ⟨[(3,.own 0 (List.length (α:=Vl.PathBind) o))],[.elems 2 (List.map Vl.PathBind.c o)]⟩)→ALoopU Try.prog B 0 29 (hold c .mk) ⟨[(0,.arr (List.map Vl.PathBind.c list)),(3,.own 0 (List.length (α:=Vl.PathBind) out)),(4,.lit (.int .i64 (i:Int)))],[.elems 2 (List.map Vl.PathBind.c out)]⟩ (hold Q .mk)):=by
 refine F.f23.partial_correctness list
  _
  ?_
 ·intro _f_f23 ih_f23 out i o hF
  intro c hc Q hq
  obtain rfl:c=_:=navEq hc rfl
  refine ALoopU.know fun hk hs=> ?_
  have b0:=hk 0
  simp -dsimp at b0
  have d0:=hs 0 _ rfl
  simp -dsimp[Blk.bnd]at d0
  clear hk hs
  refine ALoopU.enter ?_
  repeat(first|refine chk.ga ?_|simp -dsimp)
  revert hF;refine abr.sp ?_ ?_<;>intro h1 q2 hF
  ·have z3:((i:Int)<(list.length:Int)):=auz
   repeat(first|refine chk.ga ?_|simp -dsimp[h1,z3])
   refine ADraw.eff [1000079] [(0,4),(0,2),(0,2),(0,2),(0,2),(0,2),(0,5),(0,1),(0,1),(0,1),(0,1),(0,1),(0,5),(0,5),(0,5),(0,5),(5,5)] [1,1,1,0,0,0,1,1,1,0,0,0,1,1,1,1,1] follows (by kernel_rfl) (by kernel_rfl) (by kernel_rfl) ?_
   have hF:=ob hF;obtain⟨x,e4,hF⟩:=hF
   have le4:=lt_of_get e4
   have hF:=oc hF;obtain⟨c5,hF⟩:=hF
   have hF:=oc hF;obtain⟨c6,hF⟩:=hF
   have w7:IntKind.i64.wrap ((i:Int)+1)=(i:Int)+1:=wrap_in (by omega) (by omega)
   repeat(first|refine chk.ga ?_|simp -dsimp[h1,z3,↓e4,w7])
   refine Again.go _ ?_ ((ih_f23 (out++[x]) (i+1) o hF) _ rfl _ hq)
   exact(Gh.to3 (by simp) (by first|simp -dsimp[h1,z3,↓e4,w7];done|simp_all))
  ·have z3:¬((i:Int)<(list.length:Int)):=auz
   cases hF
   repeat(first|refine chk.ga ?_|simp -dsimp[h1,q2,z3])
   refine Leave.go _ (Gh.to3 (by simp) (by first|simp -dsimp[h1,q2,z3];done|simp_all)) hq
theorem C.f24 (list:List Vl.PathBind)(r:List Vl.PathBind)(hF:F.f24 list=some r):PureCall Try.prog B 38 [.arr (List.map Vl.PathBind.c list)] (.arr (List.map Vl.PathBind.c r)):=by
 unfold F.f24 at hF
 refine PureCall.enterLe Try.func38 (by kernel_rfl) rfl Try.ntmps38 (by simp) (by simp) ?_
 repeat(first|refine chk.ga ?_|simp -dsimp)
 have hF:=ob hF;obtain⟨o',ho8,hF⟩:=hF
 refine ALoop.goU _ ?_ (((CC.f23 B hB1 hB2 list) [] 0 o' ho8) _ rfl _ ?_)
 ·exact(Gh.to3 (by simp) (by simp -dsimp))
 cases hF
 repeat(first|refine chk.ga ?_|simp -dsimp)
 all_goals(try first|omega|rfl)
theorem CC.f25 (list:List Vl.Node):(∀(at':Int) (left':Int) (r:Vl.Tree×Int),F.f25 list at' left'=some r→PureCall Try.prog B 15 [.arr (List.map Vl.Node.c list),.lit (.int .i64 at'),.lit (.int .i64 left')] (.tup [.agg [.lit (.int .i64 r.1.op),.lit (.int .i64 r.1.clause),.arr (List.map Vl.PathBind.c r.1.binds),.arr (List.map cI r.1.path),.arr (List.map Vl.Branch.c r.1.branches),.arr (List.map Vl.Tree.c r.1.els)],.lit (.int .i64 r.2)]))∧
  (∀(x:Vl.Node) (v:List Vl.PathBind) (out:List Vl.Branch) (i:Nat) (left'6:Int) (o:(List Vl.Branch)×Int),F.f26 list x v out i left'6=some o→∀(c:Code),navO [1,1,1,1,1,0,1,0,0] (bodyOf Try.f15)=some c→∀(Q:Exit→ASt→Prop),(Q (.exit 0) ⟨[(0,.arr (List.map Vl.Node.c list)),(2,.lit (.int .i64 o.2)),(6,.ptr 0 0),(8,.ptr 1 0),(9,.ptr 3 0)],[.cells [.lit (.int .i64 0),.lit (.int .i64 0),.lit (.slice none 0 0),.lit (.slice none 0 0),.lit (.slice none 0 0),.lit (.slice none 0 0)],.cells [.lit (.int .i64 x.op),.lit (.int .i64 x.clause),.arr (List.map Vl.PathBind.c x.binds),.arr (List.map cI x.path),.arr (List.map Vl.Edge.c x.edges),.lit (.int .i64 x.els)],.dead,.cells [.lit (.int .i64 x.op),.lit (.int .i64 x.clause),.arr (List.map Vl.PathBind.c v),.arr (List.map cI x.path),.own 4 (List.length (α:=Vl.Branch) o.1),.lit (.slice none 0 0)],.elems 9 (List.map Vl.Branch.c o.1)]⟩)→ALoopU Try.prog B 0 107 (hold c .mk) ⟨[(0,.arr (List.map Vl.Node.c list)),(2,.lit (.int .i64 left'6)),(6,.ptr 0 0),(8,.ptr 1 0),(9,.ptr 3 0),(10,.lit (.int .i64 (i:Int)))],[.cells [.lit (.int .i64 0),.lit (.int .i64 0),.lit (.slice none 0 0),.lit (.slice none 0 0),.lit (.slice none 0 0),.lit (.slice none 0 0)],.cells [.lit (.int .i64 x.op),.lit (.int .i64 x.clause),.arr (List.map Vl.PathBind.c x.binds),.arr (List.map cI x.path),.arr (List.map Vl.Edge.c x.edges),.lit (.int .i64 x.els)],.dead,.cells [.lit (.int .i64 x.op),.lit (.int .i64 x.clause),.arr (List.map Vl.PathBind.c v),.arr (List.map cI x.path),.own 4 (List.length (α:=Vl.Branch) out),.lit (.slice none 0 0)],.elems 9 (List.map Vl.Branch.c out)]⟩ (hold Q .mk)):=by
 refine F.f25.mutual_partial_correctness list
  _ _
  ?_ ?_
 ·intro _f_f25 _f_f26 ih_f25 ih_f26 at' left' r hF
  refine PureCall.enterLe Try.func15 (by kernel_rfl) rfl Try.ntmps15 (by simp) (by simp) ?_
  repeat(first|refine chk.ga ?_|simp -dsimp)
  revert hF;refine abr.sp ?_ ?_<;>intro h1 q2 hF
  ·cases hF
   repeat(first|refine chk.ga ?_|simp -dsimp[h1])
   all_goals(try first|omega|rfl)
  ·have hF:=ob hF;obtain⟨x,e3a,hF⟩:=hF
   have e3a:=at_some e3a;obtain⟨ne3,e3⟩:=e3a
   have le3:=lt_of_get e3
   repeat(first|refine chk.ga ?_|simp -dsimp[h1,q2,↓e3])
   refine ADraw.effL [(7,12),(10,12),(11,12)] 12 [1000029] [(0,2),(0,2),(0,2),(0,2),(0,1),(0,1),(0,5),(0,5),(0,1),(0,1),(0,5),(0,5),(0,5),(0,5)] [0,2,0,2,0,2,1,1,0,2,1,1,1,1] follows (by kernel_rfl) (by kernel_rfl) (by kernel_rfl) (by kernel_rfl) (by intro d hd;cases hd;rfl) (by intro t i h k;cases h;cases k;rfl) ?_
   repeat(first|refine chk.ga ?_|simp -dsimp[h1,q2,↓e3])
   have hF:=ob hF;obtain⟨v,e4,hF⟩:=hF
   refine((C.f24 B hB1 hB2 x.binds v e4)).pgoW (by first|simp[h1,q2,↓e3];done|simp_all) (by simp) ?_
   have hF:=oc hF;obtain⟨c5,hF⟩:=hF
   repeat(first|refine chk.ga ?_|simp -dsimp[h1,q2,↓e3])
   have hF:=ob hF;obtain⟨o',ho18,hF⟩:=hF
   refine ALoop.goU ⟨[(0,.arr (List.map Vl.Node.c list)),(2,.lit (.int .i64 (IntKind.i64.wrap (left'-1)))),(6,.ptr 0 0),(8,.ptr 1 0),(9,.ptr 3 0),(10,.lit (.int .i64 (0:Int)))],[.cells [.lit (.int .i64 0),.lit (.int .i64 0),.lit (.slice none 0 0),.lit (.slice none 0 0),.lit (.slice none 0 0),.lit (.slice none 0 0)],.cells [.lit (.int .i64 x.op),.lit (.int .i64 x.clause),.arr (List.map Vl.PathBind.c x.binds),.arr (List.map cI x.path),.arr (List.map Vl.Edge.c x.edges),.lit (.int .i64 x.els)],.dead,.cells [.lit (.int .i64 x.op),.lit (.int .i64 x.clause),.arr (List.map Vl.PathBind.c v),.arr (List.map cI x.path),.own 4 (List.length (α:=Vl.Branch) []),.lit (.slice none 0 0)],.elems 9 (List.map Vl.Branch.c [])]⟩ (by refine Gh.trans (Gh.nilCell 3 4 9 (by simp -dsimp;rfl) (by simp -dsimp)) ?_;exact(Gh.to3 (by simp) (by first|simp -dsimp[h1,q2,↓e3];done|simp_all))) ?_
   refine(ih_f26 x v [] 0 (IntKind.i64.wrap (left'-1)) o' ho18) _ rfl _ ?_
   repeat(first|refine chk.ga ?_|simp -dsimp)
   revert hF;refine abr.sp ?_ ?_<;>intro h19 q20 hF
   ·repeat(first|refine chk.ga ?_|simp -dsimp[h19])
    revert hF;refine abr.sp ?_ ?_<;>intro h21 q22 hF
    ·repeat(first|refine chk.ga ?_|simp -dsimp[h19,h21])
     have hF:=ob hF;obtain⟨v23,e24,hF⟩:=hF
     refine((ih_f25 x.els o'.2 v23 e24)).goW (by first|simp[h19,h21];done|simp_all) (by simp) ?_
     cases hF
     repeat(first|refine chk.ga ?_|simp -dsimp[h19,h21])
     all_goals(try first|omega|rfl)
    ·cases hF
     repeat(first|refine chk.ga ?_|simp -dsimp[h19,h21,q22])
     all_goals(try first|omega|rfl)
   ·cases hF
    repeat(first|refine chk.ga ?_|simp -dsimp[h19,q20])
    all_goals(try first|omega|rfl)
 ·intro _f_f25 _f_f26 ih_f25 ih_f26 x v out i left'6 o hF
  intro c hc Q hq
  obtain rfl:c=_:=navEq hc rfl
  refine ALoopU.know fun hk hs=> ?_
  have b0:=hk 0
  simp -dsimp at b0
  have d1:=hs 1 _ rfl
  simp -dsimp[Blk.bnd]at d1
  have d3:=hs 3 _ rfl
  simp -dsimp[Blk.bnd]at d3
  have d4:=hs 4 _ rfl
  simp -dsimp[Blk.bnd]at d4
  clear hk hs
  refine ALoopU.enter ?_
  repeat(first|refine chk.ga ?_|simp -dsimp)
  revert hF;refine abr.sp ?_ ?_<;>intro h7 q8 hF
  ·have z9:((i:Int)<(x.edges.length:Int)):=auz
   repeat(first|refine chk.ga ?_|simp -dsimp[h7,z9])
   revert hF;refine abr.sp ?_ ?_<;>intro h10 q11 hF
   ·have hF:=ob hF;obtain⟨x12,e13,hF⟩:=hF
    have le13:=lt_of_get e13
    repeat(first|refine chk.ga ?_|simp -dsimp[h7,z9,h10,↓e13])
    have hF:=ob hF;obtain⟨v14,e15,hF⟩:=hF
    refine((ih_f25 x12.to left'6 v14 e15)).goW (by first|simp[h7,z9,h10,↓e13];done|simp_all) (by simp) ?_
    repeat(first|refine chk.ga ?_|simp -dsimp[h7,z9,h10,↓e13])
    refine ADraw.eff [] [(0,1),(0,1),(0,0),(0,0),(0,0),(0,0),(0,0),(0,0),(0,0),(0,0),(0,0),(0,0),(0,0),(0,0),(0,0),(0,0),(0,0),(0,0),(0,0),(0,0),(0,0),(0,0),(0,3),(0,3),(2,2),(0,3)] [0,2,1,1,1,1,1,1,1,1,1,1,1,1,1,1,1,1,1,1,1,1,1,1,1,1] follows (by kernel_rfl) (by kernel_rfl) (by kernel_rfl) ?_
    have hF:=oc hF;obtain⟨c16,hF⟩:=hF
    have w17:IntKind.i64.wrap ((i:Int)+1)=(i:Int)+1:=wrap_in (by omega) (by omega)
    repeat(first|refine chk.ga ?_|simp -dsimp[h7,z9,h10,↓e13,w17])
    refine Again.go _ ?_ ((ih_f26 x v (out++[(⟨x12.ctor,x12.n,x12.m,v14.1⟩:Vl.Branch)]) (i+1) v14.2 o hF) _ rfl _ hq)
    exact(Gh.to3 (by simp) (by first|simp -dsimp[h7,z9,h10,↓e13,w17];done|simp_all))
   ·cases hF
    repeat(first|refine chk.ga ?_|simp -dsimp[h7,z9,h10,q11])
    refine Leave.go _ (Gh.to3 (by simp) (by first|simp -dsimp[h7,z9,h10,q11];done|simp_all)) hq
  ·have z9:¬((i:Int)<(x.edges.length:Int)):=auz
   cases hF
   repeat(first|refine chk.ga ?_|simp -dsimp[h7,q8,z9])
   refine Leave.go _ (Gh.to3 (by simp) (by first|simp -dsimp[h7,q8,z9];done|simp_all)) hq
theorem C.f27 (list:List Vl.Node)(r:Vl.Tree×Bool)(hF:F.f27 list=some r):PureCall Try.prog B 5 [.arr (List.map Vl.Node.c list)] (.tup [.agg [.lit (.int .i64 r.1.op),.lit (.int .i64 r.1.clause),.arr (List.map Vl.PathBind.c r.1.binds),.arr (List.map cI r.1.path),.arr (List.map Vl.Branch.c r.1.branches),.arr (List.map Vl.Tree.c r.1.els)],.lit (.bool r.2)]):=by
 unfold F.f27 at hF
 refine PureCall.enterLe Try.func5 (by kernel_rfl) rfl Try.ntmps5 (by simp) (by simp) ?_
 repeat(first|refine chk.ga ?_|simp -dsimp)
 have hF:=ob hF;obtain⟨v,e1,hF⟩:=hF
 refine((C.f22 B hB1 hB2 list v e1)).goW (by simp) (by simp) ?_
 repeat(first|refine chk.ga ?_|simp -dsimp)
 revert hF;refine abr.ns (fun h2 q3 hF=> ?_) (fun h2 q3 hF=> ?_)
 ·cases hF
  repeat(first|refine chk.ga ?_|simp -dsimp[h2,q3])
  all_goals(try first|omega|rfl)
 ·repeat(first|refine chk.ga ?_|simp -dsimp[h2,q3])
  have hF:=ob hF;obtain⟨v4,e5,hF⟩:=hF
  refine(((CC.f25 B hB1 hB2 list).1 (IntKind.i64.wrap ((list.length:Int) -1)) (300:Int) v4 e5)).goW (by first|simp[h2,q3];done|simp_all) (by simp) ?_
  repeat(first|refine chk.ga ?_|simp -dsimp[h2,q3])
  revert hF;refine abr.sp ?_ ?_<;>intro h6 q7 hF
  ·cases hF
   repeat(first|refine chk.ga ?_|simp -dsimp[h2,q3,h6])
   all_goals(try first|omega|rfl)
  ·cases hF
   repeat(first|refine chk.ga ?_|simp -dsimp[h2,q3,h6,q7])
   all_goals(try first|omega|rfl)
theorem CC.laws_toIntS__f_l1 (a:List Int):(∀(out:List Int) (i:Nat) (o:List Int),F.f8 a out i=some o→∀(c:Code),navO [1,1,0,1,0,0] (bodyOf Try.f40)=some c→∀(Q:Exit→ASt→Prop),(Q (.exit 0) ⟨[(3,.own 1 (List.length (α:=Int) o))],[.pack [] [],.elems 1 (List.map cI o)]⟩)→ALoopU Try.prog B 0 22 (hold c .mk) ⟨[(0,.arr (List.map cI a)),(3,.own 1 (List.length (α:=Int) out)),(4,.lit (.int .i64 (i:Int)))],[.pack [] [],.elems 1 (List.map cI out)]⟩ (hold Q .mk)):=by
 refine F.f8.partial_correctness a
  _
  ?_
 ·intro _f_laws_toIntS__f_l1 ih_laws_toIntS__f_l1 out i o hF
  intro c hc Q hq
  obtain rfl:c=_:=navEq hc rfl
  refine ALoopU.know fun hk hs=> ?_
  have b0:=hk 0
  simp -dsimp at b0
  have d1:=hs 1 _ rfl
  simp -dsimp[Blk.bnd]at d1
  clear hk hs
  refine ALoopU.enter ?_
  repeat(first|refine chk.ga ?_|simp -dsimp)
  revert hF;refine abr.sp ?_ ?_<;>intro h2 q3 hF
  ·have z4:((i:Int)<(a.length:Int)):=auz
   have hF:=ob hF;obtain⟨x,e5,hF⟩:=hF
   have le5:=lt_of_get e5
   have hF:=ob hF;obtain⟨x6,e7,hF⟩:=hF
   have le7:=lt_of_get e7
   have w8:IntKind.i64.wrap ((i:Int)+1)=(i:Int)+1:=wrap_in (by omega) (by omega)
   repeat(first|refine chk.ga ?_|simp -dsimp[h2,z4,↓e5,↓e7,w8])
   refine Again.go _ ?_ ((ih_laws_toIntS__f_l1 (out.set i x) (i+1) o hF) _ rfl _ hq)
   exact(Gh.to3 (by simp) (by first|simp -dsimp[h2,z4,↓e5,↓e7,w8];done|simp_all))
  ·have z4:¬((i:Int)<(a.length:Int)):=auz
   cases hF
   repeat(first|refine chk.ga ?_|simp -dsimp[h2,q3,z4])
   refine Leave.go _ (Gh.to3 (by simp) (by first|simp -dsimp[h2,q3,z4];done|simp_all)) hq
theorem C.laws_toIntS__f (a:List Int)(r:List Int)(hF:F.f9 a=some r):FCall Try.prog B 40 [.arr (List.map cI a)] (.arr (List.map cI r)):=by
 unfold F.f9 at hF
 refine FCall.enterG Try.func40 (by kernel_rfl) rfl Try.ntmps40 (by simp) (Gh.packZ .nil) ?_
 have hF:=oc hF;obtain⟨c1,hF⟩:=hF
 repeat(first|refine chk.ga ?_|simp -dsimp)
 have hF:=ob hF;obtain⟨o',ho9,hF⟩:=hF
 refine ALoop.goU _ ?_ (((CC.laws_toIntS__f_l1 B hB1 hB2 a) (List.replicate a.length (0:Int)) 0 o' ho9) _ rfl _ ?_)
 ·exact(Gh.to3 (by simp) (by simp -dsimp))
 cases hF
 repeat(first|refine chk.ga ?_|simp -dsimp)
 exact⟨_,by decide,(.cell (CD.ownE 1 _ 1 rfl (lits_cI _) (by simp) .nil) .nil:CT _ _ _ _)⟩
theorem C.laws_toPathBind__f (a:Vl.PathBind)(r:Vl.PathBind)(hF:F.f10 a=some r):FCall Try.prog B 51 [.agg [.lit (.int .i64 a.var),.arr (List.map cI a.path)]] (.agg [.lit (.int .i64 r.var),.arr (List.map cI r.path)]):=by
 unfold F.f10 at hF
 refine FCall.enterG Try.func51 (by kernel_rfl) rfl Try.ntmps51 (by simp) (Gh.packZ .nil) ?_
 repeat(first|refine chk.ga ?_|simp -dsimp)
 have hF:=ob hF;obtain⟨v,e1,hF⟩:=hF
 refine((C.laws_toIntS__f B hB1 hB2 a.path v e1)).go1 (by simp -dsimp) (by simp) (fun h o_h=> ?_)
 cases hF
 repeat(first|refine chk.ga ?_|simp -dsimp[o_h])
 exact⟨_,by decide,(.agg (.lit _ (.pk 4 rfl .nil)) .nil:CT _ _ _ _)⟩
theorem CC.laws_toPathBindS__f_l1 (a:List Vl.PathBind):(∀(out:List Vl.PathBind) (i:Nat) (o:List Vl.PathBind),F.f11 a out i=some o→∀(R:List (List AV)),∀(U:List Value),RW 2 (List.length (α:=Vl.PathBind) out) R U→∀(c:Code),navO [1,1,0,1,0,0] (bodyOf Try.f39)=some c→∀(Q:Exit→ASt→Prop),(∀(Rq:List (List AV)) (Uq:List Value),RW 2 (List.length (α:=Vl.PathBind) o) Rq Uq→Q (.exit 0) ⟨[(3,.own 1 (List.length (α:=Vl.PathBind) o))],[.pack [] [],.elems 2 Rq,.pack (List.flatten (List.map Vl.PathBind.c o)) Uq]⟩)→ALoopU Try.prog B 0 23 (hold c .mk) ⟨[(0,.arr (List.map Vl.PathBind.c a)),(3,.own 1 (List.length (α:=Vl.PathBind) out)),(4,.lit (.int .i64 (i:Int)))],[.pack [] [],.elems 2 R,.pack (List.flatten (List.map Vl.PathBind.c out)) U]⟩ (hold Q .mk)):=by
 refine F.f11.partial_correctness a
  _
  ?_
 ·intro _f_laws_toPathBindS__f_l1 ih_laws_toPathBindS__f_l1 out i o hF
  intro R U H2 c hc Q hq
  obtain rfl:c=_:=navEq hc rfl
  refine ALoopU.know fun hk hs=> ?_
  have b0:=hk 0
  simp -dsimp at b0
  have d1:=hs 1 _ rfl
  simp -dsimp[Blk.bnd]at d1
  clear hk hs
  refine ALoopU.enter ?_
  repeat(first|refine chk.ga ?_|simp -dsimp[RW.len H2,RW.closed H2])
  revert hF;refine abr.sp ?_ ?_<;>intro h4 q5 hF
  ·have z6:((i:Int)<(a.length:Int)):=auz
   have hF:=ob hF;obtain⟨x,e7,hF⟩:=hF
   have le7:=lt_of_get e7
   repeat(first|refine chk.ga ?_|simp -dsimp[RW.len H2,RW.closed H2,h4,z6,↓e7])
   have hF:=ob hF;obtain⟨v,e8,hF⟩:=hF
   refine((C.laws_toPathBind__f B hB1 hB2 x v e8)).go1 (by first|simp -dsimp[RW.len H2,RW.closed H2,h4,z6,↓e7];done|simp_all) (by simp) (fun h o_h=> ?_)
   have hF:=ob hF;obtain⟨x9,e10,hF⟩:=hF
   have le10:=lt_of_get e10
   obtain⟨row11,hrow11,lrow11⟩:=RW.row H2 le10
   have w12:IntKind.i64.wrap ((i:Int)+1)=(i:Int)+1:=wrap_in (by omega) (by omega)
   repeat(first|refine chk.ga ?_|simp -dsimp[RW.len H2,RW.closed H2,h4,z6,↓e7,o_h,↓e10,hrow11,lrow11,w12])
   refine Again.go ⟨[(0,.arr (List.map Vl.PathBind.c a)),(3,.own 1 (List.length (α:=Vl.PathBind) (out.set i v))),(4,.lit (.int .i64 ((i+1):Int)))],[.pack [] [],.elems 2 (R.set i [.lit (.int .i64 v.var),.lit h]),.pack (List.flatten (List.map Vl.PathBind.c (out.set i v))) (setU 2 i U [.int .i64 v.var,h])]⟩ (by refine Gh.trans (Gh.setRow (c:=Vl.PathBind.c) (y:=v) 2 [3] (by exact rfl) e10 (by simp) H2 (by simp) (.lit (.int .i64 v.var) (.pk 3 (by exact rfl) .nil)) (by simp) (by decide)) ?_;exact(Gh.to3 (by simp) (by first|simp -dsimp[RW.len H2,RW.closed H2,h4,z6,↓e7,o_h,↓e10,hrow11,lrow11,w12];done|simp_all))) ?_
   exact(ih_laws_toPathBindS__f_l1 (out.set i v) (i+1) o hF) (R.set i [.lit (.int .i64 v.var),.lit h]) (setU 2 i U [.int .i64 v.var,h]) ((RW.set H2 le10 [.int .i64 v.var,h] rfl).cong (by simp) (by simp) rfl) _ rfl _ hq
  ·have z6:¬((i:Int)<(a.length:Int)):=auz
   cases hF
   repeat(first|refine chk.ga ?_|simp -dsimp[RW.len H2,RW.closed H2,h4,q5,z6])
   refine Leave.go ⟨[(3,.own 1 (List.length (α:=Vl.PathBind) out))],[.pack [] [],.elems 2 R,.pack (List.flatten (List.map Vl.PathBind.c out)) U]⟩ (Gh.to3 (by simp) (by first|simp -dsimp[RW.len H2,RW.closed H2,h4,q5,z6];done|simp_all)) ?_
   exact hq R U H2
theorem C.laws_toPathBindS__f (a:List Vl.PathBind)(r:List Vl.PathBind)(hF:F.f12 a=some r):FCall Try.prog B 39 [.arr (List.map Vl.PathBind.c a)] (.arr (List.map Vl.PathBind.c r)):=by
 unfold F.f12 at hF
 refine FCall.enterG Try.func39 (by kernel_rfl) rfl Try.ntmps39 (by simp) (Gh.packZ .nil) ?_
 have hF:=oc hF;obtain⟨c1,hF⟩:=hF
 repeat(first|refine chk.ga ?_|simp -dsimp)
 have hF:=ob hF;obtain⟨o',ho13,hF⟩:=hF
 refine ALoop.goU ⟨[(0,.arr (List.map Vl.PathBind.c a)),(3,.own 1 (List.length (α:=Vl.PathBind) (List.replicate a.length Vl.PathBind.z))),(4,.lit (.int .i64 (0:Int)))],[.pack [] [],.elems 2 (List.replicate a.length [.lit (.int .i64 0),.lit (.slice none 0 0)]),.pack (List.flatten (List.map Vl.PathBind.c (List.replicate a.length Vl.PathBind.z))) (List.flatten (List.replicate a.length [.int .i64 0,.slice none 0 0]))]⟩ (by refine Gh.trans (Gh.packZ (ZC.rep (.lit (.int .i64 0) (.emp none .nil)) a.length)) ?_;exact(Gh.to3 (by simp) (by simp -dsimp))) ?_
 refine((CC.laws_toPathBindS__f_l1 B hB1 hB2 a) (List.replicate a.length Vl.PathBind.z) 0 o' ho13) (List.replicate a.length [.lit (.int .i64 0),.lit (.slice none 0 0)]) (List.flatten (List.replicate a.length [.int .i64 0,.slice none 0 0])) ((RW.rep a.length [.int .i64 0,.slice none 0 0]).cong (by simp) (by simp) rfl) _ rfl _ ?_
 intro Rq Uq Hq3
 cases hF
 repeat(first|refine chk.ga ?_|simp -dsimp[RW.len Hq3,RW.closed Hq3])
 exact⟨_,by decide,(.cell (.ownP 1 _ 2 rfl (by simp) (.blk 2 rfl .nil) (by simp[Hq3.2.2]) (by simp[Hq3.1]) (by simp) (by simp) .nil) .nil:CT _ _ _ _)⟩
theorem CC.laws_toEdgeS__f_l1 (a:List Vl.Edge):(∀(out:List Vl.Edge) (i:Nat) (o:List Vl.Edge),F.f14 a out i=some o→∀(c:Code),navO [1,1,0,1,0,0] (bodyOf Try.f41)=some c→∀(Q:Exit→ASt→Prop),(Q (.exit 0) ⟨[(3,.own 1 (List.length (α:=Vl.Edge) o))],[.pack [] [],.elems 4 (List.map Vl.Edge.c o)]⟩)→ALoopU Try.prog B 0 23 (hold c .mk) ⟨[(0,.arr (List.map Vl.Edge.c a)),(3,.own 1 (List.length (α:=Vl.Edge) out)),(4,.lit (.int .i64 (i:Int)))],[.pack [] [],.elems 4 (List.map Vl.Edge.c out)]⟩ (hold Q .mk)):=by
 refine F.f14.partial_correctness a
  _
  ?_
 ·intro _f_laws_toEdgeS__f_l1 ih_laws_toEdgeS__f_l1 out i o hF
  intro c hc Q hq
  obtain rfl:c=_:=navEq hc rfl
  refine ALoopU.know fun hk hs=> ?_
  have b0:=hk 0
  simp -dsimp at b0
  have d1:=hs 1 _ rfl
  simp -dsimp[Blk.bnd]at d1
  clear hk hs
  refine ALoopU.enter ?_
  repeat(first|refine chk.ga ?_|simp -dsimp)
  revert hF;refine abr.sp ?_ ?_<;>intro h2 q3 hF
  ·have z4:((i:Int)<(a.length:Int)):=auz
   have hF:=ob hF;obtain⟨x,e5,hF⟩:=hF
   have le5:=lt_of_get e5
   repeat(first|refine chk.ga ?_|simp -dsimp[h2,z4,↓e5])
   have hF:=ob hF;obtain⟨v,e6,hF⟩:=hF
   refine((C.f13 B hB1 hB2 x v e6)).goW (by first|simp[h2,z4,↓e5];done|simp_all) (by simp) ?_
   have hF:=ob hF;obtain⟨x7,e8,hF⟩:=hF
   have le8:=lt_of_get e8
   have w9:IntKind.i64.wrap ((i:Int)+1)=(i:Int)+1:=wrap_in (by omega) (by omega)
   repeat(first|refine chk.ga ?_|simp -dsimp[h2,z4,↓e5,↓e8,w9])
   refine Again.go _ ?_ ((ih_laws_toEdgeS__f_l1 (out.set i v) (i+1) o hF) _ rfl _ hq)
   exact(Gh.to3 (by simp) (by first|simp -dsimp[h2,z4,↓e5,↓e8,w9];done|simp_all))
  ·have z4:¬((i:Int)<(a.length:Int)):=auz
   cases hF
   repeat(first|refine chk.ga ?_|simp -dsimp[h2,q3,z4])
   refine Leave.go _ (Gh.to3 (by simp) (by first|simp -dsimp[h2,q3,z4];done|simp_all)) hq
theorem C.laws_toEdgeS__f (a:List Vl.Edge)(r:List Vl.Edge)(hF:F.f15 a=some r):FCall Try.prog B 41 [.arr (List.map Vl.Edge.c a)] (.arr (List.map Vl.Edge.c r)):=by
 unfold F.f15 at hF
 refine FCall.enterG Try.func41 (by kernel_rfl) rfl Try.ntmps41 (by simp) (Gh.packZ .nil) ?_
 have hF:=oc hF;obtain⟨c1,hF⟩:=hF
 repeat(first|refine chk.ga ?_|simp -dsimp)
 have hF:=ob hF;obtain⟨o',ho10,hF⟩:=hF
 refine ALoop.goU _ ?_ (((CC.laws_toEdgeS__f_l1 B hB1 hB2 a) (List.replicate a.length Vl.Edge.z) 0 o' ho10) _ rfl _ ?_)
 ·exact(Gh.to3 (by simp) (by simp -dsimp))
 cases hF
 repeat(first|refine chk.ga ?_|simp -dsimp)
 exact⟨_,by decide,(.cell (CD.ownE 1 _ 4 rfl (Vl.Edge.lits_c _) (by simp) .nil) .nil:CT _ _ _ _)⟩
theorem C.laws_toNode__f (a:Vl.Node)(r:Vl.Node)(hF:F.f16 a=some r):FCall Try.prog B 16 [.agg [.lit (.int .i64 a.op),.lit (.int .i64 a.clause),.arr (List.map Vl.PathBind.c a.binds),.arr (List.map cI a.path),.arr (List.map Vl.Edge.c a.edges),.lit (.int .i64 a.els)]] (.agg [.lit (.int .i64 r.op),.lit (.int .i64 r.clause),.arr (List.map Vl.PathBind.c r.binds),.arr (List.map cI r.path),.arr (List.map Vl.Edge.c r.edges),.lit (.int .i64 r.els)]):=by
 unfold F.f16 at hF
 refine FCall.enterG Try.func16 (by kernel_rfl) rfl Try.ntmps16 (by simp) (Gh.packZ .nil) ?_
 repeat(first|refine chk.ga ?_|simp -dsimp)
 have hF:=ob hF;obtain⟨v,e1,hF⟩:=hF
 refine((C.laws_toPathBindS__f B hB1 hB2 a.binds v e1)).go1 (by simp -dsimp) (by simp) (fun h o_h=> ?_)
 repeat(first|refine chk.ga ?_|simp -dsimp[o_h])
 have hF:=ob hF;obtain⟨v2,e3,hF⟩:=hF
 refine((C.laws_toIntS__f B hB1 hB2 a.path v2 e3)).go1 (by first|simp -dsimp[o_h];done|simp_all) (by simp) (fun h4 o_h4=> ?_)
 repeat(first|refine chk.ga ?_|simp -dsimp[o_h,o_h4])
 have hF:=ob hF;obtain⟨v5,e6,hF⟩:=hF
 refine((C.laws_toEdgeS__f B hB1 hB2 a.edges v5 e6)).go1 (by first|simp -dsimp[o_h,o_h4];done|simp_all) (by simp) (fun h7 o_h7=> ?_)
 cases hF
 repeat(first|refine chk.ga ?_|simp -dsimp[o_h,o_h4,o_h7])
 exact⟨_,by decide,(.agg (.lit _ (.lit _ (.pk 4 rfl (.pk 5 rfl (.pk 6 rfl (.lit _ .nil)))))) .nil:CT _ _ _ _)⟩
theorem CC.laws_toNodeS__f_l1 (a:List Vl.Node):(∀(out:List Vl.Node) (i:Nat) (o:List Vl.Node),F.f17 a out i=some o→∀(R:List (List AV)),∀(U:List Value),RW 6 (List.length (α:=Vl.Node) out) R U→∀(c:Code),navO [1,1,0,1,0,0] (bodyOf Try.f6)=some c→∀(Q:Exit→ASt→Prop),(∀(Rq:List (List AV)) (Uq:List Value),RW 6 (List.length (α:=Vl.Node) o) Rq Uq→Q (.exit 0) ⟨[(3,.own 1 (List.length (α:=Vl.Node) o))],[.pack [] [],.elems 6 Rq,.pack (List.flatten (List.map Vl.Node.c o)) Uq]⟩)→ALoopU Try.prog B 0 23 (hold c .mk) ⟨[(0,.arr (List.map Vl.Node.c a)),(3,.own 1 (List.length (α:=Vl.Node) out)),(4,.lit (.int .i64 (i:Int)))],[.pack [] [],.elems 6 R,.pack (List.flatten (List.map Vl.Node.c out)) U]⟩ (hold Q .mk)):=by
 refine F.f17.partial_correctness a
  _
  ?_
 ·intro _f_laws_toNodeS__f_l1 ih_laws_toNodeS__f_l1 out i o hF
  intro R U H2 c hc Q hq
  obtain rfl:c=_:=navEq hc rfl
  refine ALoopU.know fun hk hs=> ?_
  have b0:=hk 0
  simp -dsimp at b0
  have d1:=hs 1 _ rfl
  simp -dsimp[Blk.bnd]at d1
  clear hk hs
  refine ALoopU.enter ?_
  repeat(first|refine chk.ga ?_|simp -dsimp[RW.len H2,RW.closed H2])
  revert hF;refine abr.sp ?_ ?_<;>intro h4 q5 hF
  ·have z6:((i:Int)<(a.length:Int)):=auz
   have hF:=ob hF;obtain⟨x,e7,hF⟩:=hF
   have le7:=lt_of_get e7
   repeat(first|refine chk.ga ?_|simp -dsimp[RW.len H2,RW.closed H2,h4,z6,↓e7])
   have hF:=ob hF;obtain⟨v,e8,hF⟩:=hF
   refine((C.laws_toNode__f B hB1 hB2 x v e8)).go3 (by first|simp -dsimp[RW.len H2,RW.closed H2,h4,z6,↓e7];done|simp_all) (by simp) (fun h h9 h10 o_h o_h9 o_h10=> ?_)
   have hF:=ob hF;obtain⟨x11,e12,hF⟩:=hF
   have le12:=lt_of_get e12
   obtain⟨row13,hrow13,lrow13⟩:=RW.row H2 le12
   have w14:IntKind.i64.wrap ((i:Int)+1)=(i:Int)+1:=wrap_in (by omega) (by omega)
   repeat(first|refine chk.ga ?_|simp -dsimp[RW.len H2,RW.closed H2,h4,z6,↓e7,o_h,o_h9,o_h10,↓e12,hrow13,lrow13,w14])
   refine Again.go ⟨[(0,.arr (List.map Vl.Node.c a)),(3,.own 1 (List.length (α:=Vl.Node) (out.set i v))),(4,.lit (.int .i64 ((i+1):Int)))],[.pack [] [],.elems 6 (R.set i [.lit (.int .i64 v.op),.lit (.int .i64 v.clause),.lit h,.lit h9,.lit h10,.lit (.int .i64 v.els)]),.pack (List.flatten (List.map Vl.Node.c (out.set i v))) (setU 6 i U [.int .i64 v.op,.int .i64 v.clause,h,h9,h10,.int .i64 v.els])]⟩ (by refine Gh.trans (Gh.setRow (c:=Vl.Node.c) (y:=v) 2 [3,4,5] (by exact rfl) e12 (by simp) H2 (by simp) (.lit (.int .i64 v.op) (.lit (.int .i64 v.clause) (.pk 3 (by exact rfl) (.pk 4 (by exact rfl) (.pk 5 (by exact rfl) (.lit (.int .i64 v.els) .nil)))))) (by simp) (by decide)) ?_;exact(Gh.to3 (by simp) (by first|simp -dsimp[RW.len H2,RW.closed H2,h4,z6,↓e7,o_h,o_h9,o_h10,↓e12,hrow13,lrow13,w14];done|simp_all))) ?_
   exact(ih_laws_toNodeS__f_l1 (out.set i v) (i+1) o hF) (R.set i [.lit (.int .i64 v.op),.lit (.int .i64 v.clause),.lit h,.lit h9,.lit h10,.lit (.int .i64 v.els)]) (setU 6 i U [.int .i64 v.op,.int .i64 v.clause,h,h9,h10,.int .i64 v.els]) ((RW.set H2 le12 [.int .i64 v.op,.int .i64 v.clause,h,h9,h10,.int .i64 v.els] rfl).cong (by simp) (by simp) rfl) _ rfl _ hq
  ·have z6:¬((i:Int)<(a.length:Int)):=auz
   cases hF
   repeat(first|refine chk.ga ?_|simp -dsimp[RW.len H2,RW.closed H2,h4,q5,z6])
   refine Leave.go ⟨[(3,.own 1 (List.length (α:=Vl.Node) out))],[.pack [] [],.elems 6 R,.pack (List.flatten (List.map Vl.Node.c out)) U]⟩ (Gh.to3 (by simp) (by first|simp -dsimp[RW.len H2,RW.closed H2,h4,q5,z6];done|simp_all)) ?_
   exact hq R U H2
theorem C.laws_toNodeS__f (a:List Vl.Node)(r:List Vl.Node)(hF:F.f18 a=some r):FCall Try.prog B 6 [.arr (List.map Vl.Node.c a)] (.arr (List.map Vl.Node.c r)):=by
 unfold F.f18 at hF
 refine FCall.enterG Try.func6 (by kernel_rfl) rfl Try.ntmps6 (by simp) (Gh.packZ .nil) ?_
 have hF:=oc hF;obtain⟨c1,hF⟩:=hF
 repeat(first|refine chk.ga ?_|simp -dsimp)
 have hF:=ob hF;obtain⟨o',ho15,hF⟩:=hF
 refine ALoop.goU ⟨[(0,.arr (List.map Vl.Node.c a)),(3,.own 1 (List.length (α:=Vl.Node) (List.replicate a.length Vl.Node.z))),(4,.lit (.int .i64 (0:Int)))],[.pack [] [],.elems 6 (List.replicate a.length [.lit (.int .i64 0),.lit (.int .i64 0),.lit (.slice none 0 0),.lit (.slice none 0 0),.lit (.slice none 0 0),.lit (.int .i64 0)]),.pack (List.flatten (List.map Vl.Node.c (List.replicate a.length Vl.Node.z))) (List.flatten (List.replicate a.length [.int .i64 0,.int .i64 0,.slice none 0 0,.slice none 0 0,.slice none 0 0,.int .i64 0]))]⟩ (by refine Gh.trans (Gh.packZ (ZC.rep (.lit (.int .i64 0) (.lit (.int .i64 0) (.emp none (.emp none (.emp none (.lit (.int .i64 0) .nil)))))) a.length)) ?_;exact(Gh.to3 (by simp) (by simp -dsimp))) ?_
 refine((CC.laws_toNodeS__f_l1 B hB1 hB2 a) (List.replicate a.length Vl.Node.z) 0 o' ho15) (List.replicate a.length [.lit (.int .i64 0),.lit (.int .i64 0),.lit (.slice none 0 0),.lit (.slice none 0 0),.lit (.slice none 0 0),.lit (.int .i64 0)]) (List.flatten (List.replicate a.length [.int .i64 0,.int .i64 0,.slice none 0 0,.slice none 0 0,.slice none 0 0,.int .i64 0])) ((RW.rep a.length [.int .i64 0,.int .i64 0,.slice none 0 0,.slice none 0 0,.slice none 0 0,.int .i64 0]).cong (by simp) (by simp) rfl) _ rfl _ ?_
 intro Rq Uq Hq3
 cases hF
 repeat(first|refine chk.ga ?_|simp -dsimp[RW.len Hq3,RW.closed Hq3])
 exact⟨_,by decide,(.cell (.ownP 1 _ 6 rfl (by simp) (.blk 2 rfl .nil) (by simp[Hq3.2.2]) (by simp[Hq3.1]) (by simp) (by simp) .nil) .nil:CT _ _ _ _)⟩
theorem C.f28 (n:Int)(low:Int)(high:Int)(r:Bool)(hF:F.f28 n low high=some r):PureCall Try.prog B 42 [.lit (.int .i64 n),.lit (.int .i64 low),.lit (.int .i64 high)] (.lit (.bool r)):=by
 unfold F.f28 at hF
 refine PureCall.enterLe Try.func42 (by kernel_rfl) rfl Try.ntmps42 (by simp) (by simp) ?_
 repeat(first|refine chk.ga ?_|simp -dsimp)
 revert hF;refine abr.sp ?_ ?_<;>intro h1 q2 hF
 ·cases hF
  repeat(first|refine chk.ga ?_|simp -dsimp[h1])
  all_goals(try first|omega|rfl)
 ·cases hF
  repeat(first|refine chk.ga ?_|simp -dsimp[h1,q2])
  all_goals(try first|omega|rfl)
theorem C.f29 (e:Vl.Edge)(a1:Int)(r:Bool)(hF:F.f29 e a1=some r):PureCall Try.prog B 44 [.agg [.lit (.int .i64 e.ctor),.lit (.int .i64 e.n),.lit (.int .i64 e.m),.lit (.int .i64 e.to)],.rptr [.lit (.int .i64 a1)] 0] (.lit (.bool r)):=by
 unfold F.f29 at hF
 refine PureCall.enterLe Try.func44 (by kernel_rfl) rfl Try.ntmps44 (by simp) (by simp) ?_
 repeat(first|refine chk.ga ?_|simp -dsimp)
 have hF:=ob hF;obtain⟨v,e1,hF⟩:=hF
 refine((C.f28 B hB1 hB2 e.to (0:Int) (IntKind.i64.wrap (a1-1)) v e1)).goW (by simp) (by simp) ?_
 cases hF
 repeat(first|refine chk.ga ?_|simp -dsimp)
 all_goals(try first|omega|rfl)
theorem CC.f30 (s:List Vl.Edge)(k0:Int):(∀(i:Nat) (o:Lo Int Unit),F.f30 s k0 i=some o→∀(c:Code),navO [1,0,1,0,0] (bodyOf Try.f53)=some c→∀(Q:Exit→ASt→Prop),o.post (fun r=>∀st,Post Try.prog Try.f53 (fun r' _=>r'.le (.lit (.int .i64 r))) .ret st→Q .ret st) (fun s=>Q (.exit 0) ⟨[],[]⟩)→ALoopU Try.prog B 0 19 (hold c .mk) ⟨[(0,.arr (List.map Vl.Edge.c s)),(1,.fn (.func 44) [] [.rptr [.lit (.int .i64 k0)] 0]),(7,.lit (.int .i64 (s.length:Int))),(8,.lit (.int .i64 (i:Int)))],[]⟩ (hold Q .mk)):=by
 refine F.f30.partial_correctness s k0
  _
  ?_
 ·intro _f_f30 ih_f30 i o hF
  intro c hc Q hq
  obtain rfl:c=_:=navEq hc rfl
  refine ALoopU.know fun hk hs=> ?_
  have b0:=hk 0
  simp -dsimp at b0
  clear hk hs
  refine ALoopU.enter ?_
  repeat(first|refine chk.ga ?_|simp -dsimp)
  revert hF;refine abr.sp ?_ ?_<;>intro h1 q2 hF
  ·have z3:((i:Int)<(s.length:Int)):=auz
   have hF:=ob hF;obtain⟨x,e4,hF⟩:=hF
   have le4:=lt_of_get e4
   repeat(first|refine chk.ga ?_|simp -dsimp[h1,z3,↓e4])
   have hF:=ob hF;obtain⟨v,e5,hF⟩:=hF
   refine((C.f29 B hB1 hB2 x k0 v e5)).goW (by first|simp[h1,z3,↓e4];done|simp_all) (by simp) ?_
   repeat(first|refine chk.ga ?_|simp -dsimp[h1,z3,↓e4])
   revert hF;refine abr.sp (fun h6 q7 hF=> ?_) (fun h6 q7 hF=> ?_)
   ·cases hF
    repeat(first|refine chk.ga ?_|simp -dsimp[h1,z3,↓e4,h6])
    refine Leave.go _ (Gh.refl _) (hq _ ?_)
    repeat(first|refine chk.ga ?_|simp -dsimp[h1,z3,↓e4,h6])
   ·have w8:IntKind.i64.wrap ((i:Int)+1)=(i:Int)+1:=wrap_in (by omega) (by omega)
    repeat(first|refine chk.ga ?_|simp -dsimp[h1,z3,↓e4,h6,q7,w8])
    refine Again.go _ ?_ ((ih_f30 (i+1) o hF) _ rfl _ hq)
    exact(Gh.to3 (by simp) (by first|simp -dsimp[h1,z3,↓e4,h6,q7,w8];done|simp_all))
  ·have z3:¬((i:Int)<(s.length:Int)):=auz
   cases hF
   repeat(first|refine chk.ga ?_|simp -dsimp[h1,q2,z3])
   refine Leave.go _ (Gh.to3 (by simp) (by first|simp -dsimp[h1,q2,z3];done|simp_all)) hq
theorem C.f31 (s:List Vl.Edge)(k0:Int)(r:Int)(hF:F.f31 s k0=some r):PureCall Try.prog B 53 [.arr (List.map Vl.Edge.c s),.fn (.func 44) [] [.rptr [.lit (.int .i64 k0)] 0]] (.lit (.int .i64 r)):=by
 unfold F.f31 at hF
 refine PureCall.enterLe Try.func53 (by kernel_rfl) rfl Try.ntmps53 (by simp) (by simp) ?_
 repeat(first|refine chk.ga ?_|simp -dsimp)
 have hF:=ob hF;obtain⟨o',ho9,hF⟩:=hF
 refine ALoop.goU _ ?_ (((CC.f30 B hB1 hB2 s k0) 0 o' ho9) _ rfl _ ?_)
 ·exact(Gh.to3 (by simp) (by simp -dsimp))
 rcases o' with r0|sx
 ·dsimp only at hF
  cases hF
  intro st h
  simpa using h
 ·dsimp only at hF
  cases hF
  repeat(first|refine chk.ga ?_|simp -dsimp)
  all_goals(try first|omega|rfl)
theorem C.f32 (s:List Vl.Edge)(k0:Int)(r:Bool)(hF:F.f32 s k0=some r):PureCall Try.prog B 43 [.arr (List.map Vl.Edge.c s),.fn (.func 44) [] [.rptr [.lit (.int .i64 k0)] 0]] (.lit (.bool r)):=by
 unfold F.f32 at hF
 refine PureCall.enterLe Try.func43 (by kernel_rfl) rfl Try.ntmps43 (by simp) (by simp) ?_
 repeat(first|refine chk.ga ?_|simp -dsimp)
 have hF:=ob hF;obtain⟨v,e1,hF⟩:=hF
 refine((C.f31 B hB1 hB2 s k0 v e1)).goW (by simp) (by simp) ?_
 cases hF
 repeat(first|refine chk.ga ?_|simp -dsimp)
 all_goals(try first|omega|rfl)
theorem CC.f33 (list:List Vl.Node):(∀(i:Nat) (o:Lo Bool Unit),F.f33 list i=some o→∀(c:Code),navO [1,0,1,0,0] (bodyOf Try.f17)=some c→∀(Q:Exit→ASt→Prop),o.post (fun r=>∀st,Post Try.prog Try.f17 (fun r' _=>r'.le (.lit (.bool r))) .ret st→Q .ret st) (fun s=>Q (.exit 0) ⟨[(0,.arr (List.map Vl.Node.c list))],[]⟩)→ALoopU Try.prog B 0 40 (hold c .mk) ⟨[(0,.arr (List.map Vl.Node.c list)),(5,.arr (List.map Vl.Node.c list)),(6,.lit (.int .i64 (list.length:Int))),(7,.lit (.int .i64 (i:Int)))],[]⟩ (hold Q .mk)):=by
 refine F.f33.partial_correctness list
  _
  ?_
 ·intro _f_f33 ih_f33 i o hF
  intro c hc Q hq
  obtain rfl:c=_:=navEq hc rfl
  refine ALoopU.know fun hk hs=> ?_
  have b0:=hk 0
  simp -dsimp at b0
  have b5:=hk 5
  simp -dsimp at b5
  clear hk hs
  refine ALoopU.enter ?_
  repeat(first|refine chk.ga ?_|simp -dsimp)
  revert hF;refine abr.sp ?_ ?_<;>intro h1 q2 hF
  ·have z3:((i:Int)<(list.length:Int)):=auz
   have hF:=ob hF;obtain⟨x,e4,hF⟩:=hF
   have le4:=lt_of_get e4
   repeat(first|refine chk.ga ?_|simp -dsimp[h1,z3,↓e4])
   have hF:=ob hF;obtain⟨v,e5,hF⟩:=hF
   refine((C.f28 B hB1 hB2 x.op (0:Int) (2:Int) v e5)).goW (by first|simp[h1,z3,↓e4];done|simp_all) (by simp) ?_
   repeat(first|refine chk.ga ?_|simp -dsimp[h1,z3,↓e4])
   revert hF;refine abr.sp (fun h6 q7 hF=> ?_) (fun h6 q7 hF=> ?_)
   ·repeat(first|refine chk.ga ?_|simp -dsimp[h1,z3,↓e4,h6])
    revert hF;refine abr.ns ?_ ?_<;>intro h8 q9 hF
    ·have z10:¬((10:Int)<(x.edges.length:Int)):=auz
     repeat(first|refine chk.ga ?_|simp -dsimp[h1,z3,↓e4,h6,h8,q9,z10])
     have hF:=ob hF;obtain⟨v11,e12,hF⟩:=hF
     refine((C.f28 B hB1 hB2 x.els (-1:Int) (IntKind.i64.wrap ((i:Int) -1)) v11 e12)).goW (by first|simp[h1,z3,↓e4,h6,h8,q9,z10];done|simp_all) (by simp) ?_
     repeat(first|refine chk.ga ?_|simp -dsimp[h1,z3,↓e4,h6,h8,q9,z10])
     revert hF;refine abr.sp (fun h13 q14 hF=> ?_) (fun h13 q14 hF=> ?_)
     ·repeat(first|refine chk.ga ?_|simp -dsimp[h1,z3,↓e4,h6,h8,q9,z10,h13])
      have hF:=ob hF;obtain⟨v15,e16,hF⟩:=hF
      refine((C.f32 B hB1 hB2 x.edges (i:Int) v15 e16)).lend (by first|simp -dsimp[h1,z3,↓e4,h6,h8,q9,z10,h13];done|simp_all) (by simp -dsimp) ?_
      repeat(first|refine chk.ga ?_|simp -dsimp[h1,z3,↓e4,h6,h8,q9,z10,h13])
      revert hF;refine abr.sp (fun h17 q18 hF=> ?_) (fun h17 q18 hF=> ?_)
      ·cases hF
       repeat(first|refine chk.ga ?_|simp -dsimp[h1,z3,↓e4,h6,h8,q9,z10,h13,h17])
       refine Leave.go _ (Gh.refl _) (hq _ ?_)
       repeat(first|refine chk.ga ?_|simp -dsimp[h1,z3,↓e4,h6,h8,q9,z10,h13,h17])
      ·have w19:IntKind.i64.wrap ((i:Int)+1)=(i:Int)+1:=wrap_in (by omega) (by omega)
       repeat(first|refine chk.ga ?_|simp -dsimp[h1,z3,↓e4,h6,h8,q9,z10,h13,h17,q18,w19])
       refine Again.go _ ?_ ((ih_f33 (i+1) o hF) _ rfl _ hq)
       exact(Gh.to3 (by simp) (by first|simp -dsimp[h1,z3,↓e4,h6,h8,q9,z10,h13,h17,q18,w19];done|simp_all))
     ·cases hF
      repeat(first|refine chk.ga ?_|simp -dsimp[h1,z3,↓e4,h6,h8,q9,z10,h13,q14])
      refine Leave.go _ (Gh.refl _) (hq _ ?_)
      repeat(first|refine chk.ga ?_|simp -dsimp[h1,z3,↓e4,h6,h8,q9,z10,h13,q14])
    ·have z10:((10:Int)<(x.edges.length:Int)):=auz
     cases hF
     repeat(first|refine chk.ga ?_|simp -dsimp[h1,z3,↓e4,h6,h8,q9,z10])
     refine Leave.go _ (Gh.refl _) (hq _ ?_)
     repeat(first|refine chk.ga ?_|simp -dsimp[h1,z3,↓e4,h6,h8,q9,z10])
   ·cases hF
    repeat(first|refine chk.ga ?_|simp -dsimp[h1,z3,↓e4,h6,q7])
    refine Leave.go _ (Gh.refl _) (hq _ ?_)
    repeat(first|refine chk.ga ?_|simp -dsimp[h1,z3,↓e4,h6,q7])
  ·have z3:¬((i:Int)<(list.length:Int)):=auz
   cases hF
   repeat(first|refine chk.ga ?_|simp -dsimp[h1,q2,z3])
   refine Leave.go _ (Gh.to3 (by simp) (by first|simp -dsimp[h1,q2,z3];done|simp_all)) hq
theorem C.f34 (list:List Vl.Node)(r:Bool)(hF:F.f34 list=some r):PureCall Try.prog B 17 [.arr (List.map Vl.Node.c list)] (.lit (.bool r)):=by
 unfold F.f34 at hF
 refine PureCall.enterLe Try.func17 (by kernel_rfl) rfl Try.ntmps17 (by simp) (by simp) ?_
 repeat(first|refine chk.ga ?_|simp -dsimp)
 have hF:=ob hF;obtain⟨o',ho20,hF⟩:=hF
 refine ALoop.goU _ ?_ (((CC.f33 B hB1 hB2 list) 0 o' ho20) _ rfl _ ?_)
 ·exact(Gh.to3 (by simp) (by simp -dsimp))
 rcases o' with r0|sx
 ·dsimp only at hF
  cases hF
  intro st h
  simpa using h
 ·dsimp only at hF
  repeat(first|refine chk.ga ?_|simp -dsimp)
  have hF:=ob hF;obtain⟨v21,e22,hF⟩:=hF
  refine((C.f28 B hB1 hB2 (list.length:Int) (1:Int) (300:Int) v21 e22)).goW (by simp) (by simp) ?_
  cases hF
  repeat(first|refine chk.ga ?_|simp -dsimp)
  all_goals(try first|omega|rfl)
theorem CC.f35 (list:List Vl.Node)(i:Nat)(out:List Int)(x:Vl.Node):(∀(i5:Nat) (size:Int) (o:Int),F.f35 list i out x i5 size=some o→∀(c:Code),navO [1,1,0,1,0,0,1,1,0,0,1,1,0,1,0,0] (bodyOf Try.f18)=some c→∀(Q:Exit→ASt→Prop),(Q (.exit 2) ⟨[(3,.own 0 (List.length (α:=Int) out)),(5,.ptr 1 0),(6,.lit (.int .i64 o)),(9,.arr (List.map Vl.Node.c list)),(10,.lit (.int .i64 (list.length:Int))),(11,.lit (.int .i64 (i:Int)))],[.elems 1 (List.map cI out),.cells [.lit (.int .i64 x.op),.lit (.int .i64 x.clause),.arr (List.map Vl.PathBind.c x.binds),.arr (List.map cI x.path),.arr (List.map Vl.Edge.c x.edges),.lit (.int .i64 x.els)]]⟩)→ALoopU Try.prog B 0 48 (hold c .mk) ⟨[(3,.own 0 (List.length (α:=Int) out)),(5,.ptr 1 0),(6,.lit (.int .i64 size)),(9,.arr (List.map Vl.Node.c list)),(10,.lit (.int .i64 (list.length:Int))),(11,.lit (.int .i64 (i:Int))),(16,.arr (List.map Vl.Edge.c x.edges)),(17,.lit (.int .i64 (x.edges.length:Int))),(18,.lit (.int .i64 (i5:Int)))],[.elems 1 (List.map cI out),.cells [.lit (.int .i64 x.op),.lit (.int .i64 x.clause),.arr (List.map Vl.PathBind.c x.binds),.arr (List.map cI x.path),.arr (List.map Vl.Edge.c x.edges),.lit (.int .i64 x.els)]]⟩ (hold Q .mk)):=by
 refine F.f35.partial_correctness list i out x
  _
  ?_
 ·intro _f_f35 ih_f35 i5 size o hF
  intro c hc Q hq
  obtain rfl:c=_:=navEq hc rfl
  refine ALoopU.know fun hk hs=> ?_
  have b9:=hk 9
  simp -dsimp at b9
  have b16:=hk 16
  simp -dsimp at b16
  have d0:=hs 0 _ rfl
  simp -dsimp[Blk.bnd]at d0
  have d1:=hs 1 _ rfl
  simp -dsimp[Blk.bnd]at d1
  clear hk hs
  refine ALoopU.enter ?_
  repeat(first|refine chk.ga ?_|simp -dsimp)
  revert hF;refine abr.sp ?_ ?_<;>intro h6 q7 hF
  ·have z8:((i5:Int)<(x.edges.length:Int)):=auz
   have hF:=ob hF;obtain⟨x9,e10,hF⟩:=hF
   have le10:=lt_of_get e10
   have hF:=ob hF;obtain⟨x11,e12a,hF⟩:=hF
   have e12a:=at_some e12a;obtain⟨ne12,e12⟩:=e12a
   have le12:=lt_of_get e12
   have w13:IntKind.i64.wrap ((i5:Int)+1)=(i5:Int)+1:=wrap_in (by omega) (by omega)
   repeat(first|refine chk.ga ?_|simp -dsimp[h6,z8,↓e10,↓e12,w13])
   refine Again.go _ ?_ ((ih_f35 (i5+1) (if 301<IntKind.i64.wrap (size+x11)then 301 else IntKind.i64.wrap (size+x11)) o hF) _ rfl _ hq)
   exact(Gh.to3 (by simp) (by first|simp -dsimp[h6,z8,↓e10,↓e12,w13];done|simp_all))
  ·have z8:¬((i5:Int)<(x.edges.length:Int)):=auz
   cases hF
   repeat(first|refine chk.ga ?_|simp -dsimp[h6,q7,z8])
   refine Leave.go _ (Gh.to3 (by simp) (by first|simp -dsimp[h6,q7,z8];done|simp_all)) hq
theorem CC.f36 (list:List Vl.Node):(∀(i:Nat) (out:List Int) (o:List Int),F.f36 list i out=some o→∀(c:Code),navO [1,1,0,1,0,0] (bodyOf Try.f18)=some c→∀(Q:Exit→ASt→Prop),(Q (.exit 0) ⟨[(3,.own 0 (List.length (α:=Int) o))],[.elems 1 (List.map cI o)]⟩)→ALoopU Try.prog B 0 48 (hold c .mk) ⟨[(3,.own 0 (List.length (α:=Int) out)),(9,.arr (List.map Vl.Node.c list)),(10,.lit (.int .i64 (list.length:Int))),(11,.lit (.int .i64 (i:Int)))],[.elems 1 (List.map cI out)]⟩ (hold Q .mk)):=by
 refine F.f36.partial_correctness list
  _
  ?_
 ·intro _f_f36 ih_f36 i out o hF
  intro c hc Q hq
  obtain rfl:c=_:=navEq hc rfl
  refine ALoopU.know fun hk hs=> ?_
  have b9:=hk 9
  simp -dsimp at b9
  have d0:=hs 0 _ rfl
  simp -dsimp[Blk.bnd]at d0
  clear hk hs
  refine ALoopU.enter ?_
  repeat(first|refine chk.ga ?_|simp -dsimp)
  revert hF;refine abr.sp ?_ ?_<;>intro h1 q2 hF
  ·have z3:((i:Int)<(list.length:Int)):=auz
   have hF:=ob hF;obtain⟨x,e4,hF⟩:=hF
   have le4:=lt_of_get e4
   repeat(first|refine chk.ga ?_|simp -dsimp[h1,z3,↓e4])
   have hF:=ob hF;obtain⟨o',ho14,hF⟩:=hF
   refine ALoop.goU _ ?_ (((CC.f35 B hB1 hB2 list i out x) 0 (1:Int) o' ho14) _ rfl _ ?_)
   ·exact(Gh.to3 (by simp) (by first|simp -dsimp[h1,z3,↓e4];done|simp_all))
   repeat(first|refine chk.ga ?_|simp -dsimp)
   revert hF;refine abr.sp ?_ ?_<;>intro h15 q16 hF
   ·have hF:=ob hF;obtain⟨x17,e18a,hF⟩:=hF
    have e18a:=at_some e18a;obtain⟨ne18,e18⟩:=e18a
    have le18:=lt_of_get e18
    have hF:=oc hF;obtain⟨c19,hF⟩:=hF
    have hF:=oc hF;obtain⟨c20,hF⟩:=hF
    have w21:IntKind.i64.wrap ((i:Int)+1)=(i:Int)+1:=wrap_in (by omega) (by omega)
    repeat(first|refine chk.ga ?_|simp -dsimp[h15,↓e18,w21])
    refine Again.go _ ?_ ((ih_f36 (i+1) (out++[if 301<IntKind.i64.wrap (o'+x17)then 301 else IntKind.i64.wrap (o'+x17)]) o hF) _ rfl _ hq)
    exact(Gh.to3 (by simp) (by first|simp -dsimp[h15,↓e18,w21];done|simp_all))
   ·have hF:=oc hF;obtain⟨c22,hF⟩:=hF
    have hF:=oc hF;obtain⟨c23,hF⟩:=hF
    have w24:IntKind.i64.wrap ((i:Int)+1)=(i:Int)+1:=wrap_in (by omega) (by omega)
    repeat(first|refine chk.ga ?_|simp -dsimp[h15,q16,w24])
    refine Again.go _ ?_ ((ih_f36 (i+1) (out++[o']) o hF) _ rfl _ hq)
    exact(Gh.to3 (by simp) (by first|simp -dsimp[h15,q16,w24];done|simp_all))
  ·have z3:¬((i:Int)<(list.length:Int)):=auz
   cases hF
   repeat(first|refine chk.ga ?_|simp -dsimp[h1,q2,z3])
   refine Leave.go _ (Gh.to3 (by simp) (by first|simp -dsimp[h1,q2,z3];done|simp_all)) hq
theorem C.f37 (list:List Vl.Node)(r:List Int)(hF:F.f37 list=some r):PureCall Try.prog B 18 [.arr (List.map Vl.Node.c list)] (.arr (List.map cI r)):=by
 unfold F.f37 at hF
 refine PureCall.enterLe Try.func18 (by kernel_rfl) rfl Try.ntmps18 (by simp) (by simp) ?_
 repeat(first|refine chk.ga ?_|simp -dsimp)
 have hF:=ob hF;obtain⟨o'26,ho25,hF⟩:=hF
 refine ALoop.goU ⟨[(3,.own 0 (List.length (α:=Int) [])),(9,.arr (List.map Vl.Node.c list)),(10,.lit (.int .i64 (list.length:Int))),(11,.lit (.int .i64 (0:Int)))],[.elems 1 (List.map cI [])]⟩ (by refine Gh.trans (Gh.nil 3 1 (by simp -dsimp)) ?_;exact(Gh.to3 (by simp) (by simp -dsimp))) ?_
 refine((CC.f36 B hB1 hB2 list) 0 [] o'26 ho25) _ rfl _ ?_
 cases hF
 repeat(first|refine chk.ga ?_|simp -dsimp)
 all_goals(try first|omega|rfl)
theorem C.f38 (s:List Int)(r:List Int)(hF:F.f38 s=some r):BCall Try.prog B 46 [] [.arr (List.map cI s)] (.own 0 (List.length (α:=Int) r)) [.elems 1 (List.map cI r)]:=by
 unfold F.f38 at hF
 have hF:=oc hF;obtain⟨c1,hF⟩:=hF
 cases hF
 cases s with
 |nil=>
  refine BCall.empty1 fun a c=> ?_
  cases a
  ·refine BCall.ofNil 1 (by simp) (by simp) ?_
   refine PureCall.enterLe Try.func46 (by kernel_rfl) rfl Try.ntmps46 (by simp) (by simp) ?_
   repeat(first|refine chk.ga ?_|simp -dsimp)
  ·refine BCall.enter Try.func46 (by kernel_rfl) rfl Try.ntmps46 (by simp) rfl (by simp) (by simp) (by simp) (by simp) (by simp) (Gh.refl _) ?_
   repeat(first|refine chk.ga ?_|simp -dsimp)
 |cons x xs=>
  have c1:xs.length+1≤67108864:=by simpa using c1
  refine BCall.enter Try.func46 (by kernel_rfl) rfl Try.ntmps46 (by simp) rfl (by simp) (by simp) (by simp) (by simp) (by simp) (Gh.refl _) ?_
  repeat(first|refine chk.ga ?_|simp -dsimp)
theorem CC.impl_ownBinds__f_l1 (list:List Vl.PathBind):(∀(out:List Vl.PathBind) (i:Nat) (o:List Vl.PathBind),F.f39 list out i=some o→∀(R:List (List AV)),∀(U:List Value),RW 2 (List.length (α:=Vl.PathBind) out) R U→∀(c:Code),navO [1,1,0,1,0,0] (bodyOf Try.f45)=some c→∀(Q:Exit→ASt→Prop),(∀(Rq:List (List AV)) (Uq:List Value),RW 2 (List.length (α:=Vl.PathBind) o) Rq Uq→Q (.exit 0) ⟨[(3,.own 2 (List.length (α:=Vl.PathBind) o))],[.pack [] [],.elems 0 [],.elems 2 Rq,.pack (List.flatten (List.map Vl.PathBind.c o)) Uq]⟩)→ALoopU Try.prog B 0 23 (hold c .mk) ⟨[(3,.own 2 (List.length (α:=Vl.PathBind) out)),(6,.arr (List.map Vl.PathBind.c list)),(7,.lit (.int .i64 (list.length:Int))),(8,.lit (.int .i64 (i:Int)))],[.pack [] [],.elems 0 [],.elems 2 R,.pack (List.flatten (List.map Vl.PathBind.c out)) U]⟩ (hold Q .mk)):=by
 refine F.f39.partial_correctness list
  _
  ?_
 ·intro _f_impl_ownBinds__f_l1 ih_impl_ownBinds__f_l1 out i o hF
  intro R U H1 c hc Q hq
  obtain rfl:c=_:=navEq hc rfl
  refine ALoopU.know fun hk hs=> ?_
  have b6:=hk 6
  simp -dsimp at b6
  have d2:=hs 2 _ rfl
  simp -dsimp[Blk.bnd]at d2
  clear hk hs
  refine ALoopU.enter ?_
  repeat(first|refine chk.ga ?_|simp -dsimp[RW.len H1,RW.closed H1])
  revert hF;refine abr.sp ?_ ?_<;>intro h3 q4 hF
  ·have z5:((i:Int)<(list.length:Int)):=auz
   have hF:=ob hF;obtain⟨x,e6,hF⟩:=hF
   have le6:=lt_of_get e6
   repeat(first|refine chk.ga ?_|simp -dsimp[RW.len H1,RW.closed H1,h3,z5,↓e6])
   refine ADraw.eff [46,1000079] [(0,3),(0,1),(0,1),(0,0),(0,0),(0,4),(0,4),(0,4),(0,4),(4,4)] [1,0,2,1,1,1,1,1,1,1] follows (by kernel_rfl) (by kernel_rfl) (by kernel_rfl) ?_
   repeat(first|refine chk.ga ?_|simp -dsimp[RW.len H1,RW.closed H1,h3,z5,↓e6])
   have hF:=ob hF;obtain⟨v,e7,hF⟩:=hF
   refine((C.f38 B hB1 hB2 x.path v e7)).ego (pl [5]) (by simp) (by simp) (by intro i j hi;simp at hi) (by intro i hi hi';simp at hi hi';first|omega|(subst hi';simp[pl])) (by first|simp[RW.len H1,RW.closed H1,h3,z5,↓e6];done|simp_all) (by first|simp[RW.len H1,RW.closed H1,h3,z5,↓e6];done|simp_all) ?_
   have hF:=oc hF;obtain⟨c8,hF⟩:=hF
   have w9:IntKind.i64.wrap ((i:Int)+1)=(i:Int)+1:=wrap_in (by omega) (by omega)
   repeat(first|refine chk.ga ?_|simp -dsimp[RW.len H1,RW.closed H1,h3,z5,↓e6,w9])
   refine Again.sealE 2 1 5 (R:=R) (by exact rfl) rfl (by exact rfl) (lits_cI _) (by simp) (by simp) (by decide) (fun u10 o_u10=> ?_)
   refine Again.go ⟨[(3,.own 2 (List.length (α:=Vl.PathBind) (out++[(⟨x.var,v⟩:Vl.PathBind)]))),(6,.arr (List.map Vl.PathBind.c list)),(7,.lit (.int .i64 (list.length:Int))),(8,.lit (.int .i64 ((i+1):Int)))],[.pack [] [],.elems 0 [],.elems 2 (R++[[.lit (.int .i64 x.var),.lit u10]]),.pack (List.flatten (List.map Vl.PathBind.c (out++[(⟨x.var,v⟩:Vl.PathBind)]))) (U++[.int .i64 x.var,u10])]⟩ (by refine Gh.trans (Gh.absorb 3 [7] (by exact rfl) (.lit (.int .i64 x.var) (.pk 7 (by exact rfl) .nil)) (by decide)) ?_;exact(Gh.to3 (by simp) (by first|simp -dsimp[RW.len H1,RW.closed H1,h3,z5,↓e6,w9];done|simp_all))) ?_
   exact(ih_impl_ownBinds__f_l1 (out++[(⟨x.var,v⟩:Vl.PathBind)]) (i+1) o hF) (R++[[.lit (.int .i64 x.var),.lit u10]]) (U++[.int .i64 x.var,u10]) ((RW.snoc H1 [.int .i64 x.var,u10] rfl).cong (by simp) (by simp) rfl) _ rfl _ hq
  ·have z5:¬((i:Int)<(list.length:Int)):=auz
   cases hF
   repeat(first|refine chk.ga ?_|simp -dsimp[RW.len H1,RW.closed H1,h3,q4,z5])
   refine Leave.go ⟨[(3,.own 2 (List.length (α:=Vl.PathBind) out))],[.pack [] [],.elems 0 [],.elems 2 R,.pack (List.flatten (List.map Vl.PathBind.c out)) U]⟩ (Gh.to3 (by simp) (by first|simp -dsimp[RW.len H1,RW.closed H1,h3,q4,z5];done|simp_all)) ?_
   exact hq R U H1
theorem C.impl_ownBinds__f (list:List Vl.PathBind)(r:List Vl.PathBind)(hF:F.f40 list=some r):FCall Try.prog B 45 [.arr (List.map Vl.PathBind.c list)] (.arr (List.map Vl.PathBind.c r)):=by
 unfold F.f40 at hF
 refine FCall.enterG Try.func45 (by kernel_rfl) rfl Try.ntmps45 (by simp) (Gh.trans (Gh.packZ .nil) Gh.keep) ?_
 repeat(first|refine chk.ga ?_|simp -dsimp)
 have hF:=ob hF;obtain⟨o',ho11,hF⟩:=hF
 refine ALoop.goU ⟨[(3,.own 2 (List.length (α:=Vl.PathBind) [])),(6,.arr (List.map Vl.PathBind.c list)),(7,.lit (.int .i64 (list.length:Int))),(8,.lit (.int .i64 (0:Int)))],[.pack [] [],.elems 0 [],.elems 2 [],.pack (List.flatten (List.map Vl.PathBind.c [])) []]⟩ (by refine Gh.trans (Gh.nil 3 2 (by simp -dsimp)) ?_;refine Gh.trans (Gh.packZ .nil) ?_;exact(Gh.to3 (by simp) (by simp -dsimp))) ?_
 refine((CC.impl_ownBinds__f_l1 B hB1 hB2 list) [] 0 o' ho11) [] [] RW.nil _ rfl _ ?_
 intro Rq Uq Hq2
 cases hF
 repeat(first|refine chk.ga ?_|simp -dsimp[RW.len Hq2,RW.closed Hq2])
 exact⟨_,by decide,(.cell (.ownP 2 _ 2 rfl (by simp) (.blk 3 rfl .nil) (by simp[Hq2.2.2]) (by simp[Hq2.1]) (by simp) (by simp) .nil) .nil:CT _ _ _ _)⟩
theorem CC.impl_expand__f (list:List Vl.Node):(∀(k:Int) (r:Vl.Tree),F.f41 list k=some r→FCall Try.prog B 19 [.arr (List.map Vl.Node.c list),.lit (.int .i64 k)] (.agg [.lit (.int .i64 r.op),.lit (.int .i64 r.clause),.arr (List.map Vl.PathBind.c r.binds),.arr (List.map cI r.path),.arr (List.map Vl.Branch.c r.branches),.arr (List.map Vl.Tree.c r.els)]))∧
  (∀(x:Vl.Node) (v:List Vl.PathBind) (v3:List Int) (out:List Vl.Branch) (i:Nat) (o:List Vl.Branch),F.f42 list x v v3 out i=some o→∀(h:Value),∀(R:List (List AV)),∀(U:List Value),oneV h→RW 9 (List.length (α:=Vl.Branch) out) R U→∀(c:Code),navO [1,1,1,0,1,0,0] (bodyOf Try.f19)=some c→∀(Q:Exit→ASt→Prop),(∀(Rq:List (List AV)) (Uq:List Value),RW 9 (List.length (α:=Vl.Branch) o) Rq Uq→Q (.exit 0) ⟨[(0,.arr (List.map Vl.Node.c list)),(4,.ptr 2 0),(5,.ptr 3 0),(6,.ptr 6 0)],[.pack [] [],.elems 0 [],.cells [.lit (.int .i64 0),.lit (.int .i64 0),.lit (.slice none 0 0),.lit (.slice none 0 0),.lit (.slice none 0 0),.lit (.slice none 0 0)],.cells [.lit (.int .i64 x.op),.lit (.int .i64 x.clause),.arr (List.map Vl.PathBind.c x.binds),.arr (List.map cI x.path),.arr (List.map Vl.Edge.c x.edges),.lit (.int .i64 x.els)],.pack [.arr (List.map Vl.PathBind.c v)] [h],.elems 1 (List.map cI v3),.cells [.lit (.int .i64 x.op),.lit (.int .i64 x.clause),.lit h,.own 5 (List.length (α:=Int) v3),.own 7 (List.length (α:=Vl.Branch) o),.lit (.slice none 0 0)],.elems 9 Rq,.pack (List.flatten (List.map Vl.Branch.c o)) Uq]⟩)→ALoopU Try.prog B 0 58 (hold c .mk) ⟨[(0,.arr (List.map Vl.Node.c list)),(4,.ptr 2 0),(5,.ptr 3 0),(6,.ptr 6 0),(25,.arr (List.map Vl.Edge.c x.edges)),(26,.lit (.int .i64 (x.edges.length:Int))),(27,.lit (.int .i64 (i:Int)))],[.pack [] [],.elems 0 [],.cells [.lit (.int .i64 0),.lit (.int .i64 0),.lit (.slice none 0 0),.lit (.slice none 0 0),.lit (.slice none 0 0),.lit (.slice none 0 0)],.cells [.lit (.int .i64 x.op),.lit (.int .i64 x.clause),.arr (List.map Vl.PathBind.c x.binds),.arr (List.map cI x.path),.arr (List.map Vl.Edge.c x.edges),.lit (.int .i64 x.els)],.pack [.arr (List.map Vl.PathBind.c v)] [h],.elems 1 (List.map cI v3),.cells [.lit (.int .i64 x.op),.lit (.int .i64 x.clause),.lit h,.own 5 (List.length (α:=Int) v3),.own 7 (List.length (α:=Vl.Branch) out),.lit (.slice none 0 0)],.elems 9 R,.pack (List.flatten (List.map Vl.Branch.c out)) U]⟩ (hold Q .mk)):=by
 refine F.f41.mutual_partial_correctness list
  _ _
  ?_ ?_
 ·intro _f_impl_expand__f _f_impl_expand__f_l1 ih_impl_expand__f ih_impl_expand__f_l1 k r hF
  refine FCall.enterG Try.func19 (by kernel_rfl) rfl Try.ntmps19 (by simp) (Gh.trans (Gh.packZ .nil) Gh.keep) ?_
  have hF:=ob hF;obtain⟨x,e1a,hF⟩:=hF
  have e1a:=at_some e1a;obtain⟨ne1,e1⟩:=e1a
  have le1:=lt_of_get e1
  repeat(first|refine chk.ga ?_|simp -dsimp[↓e1])
  refine ADraw.opn ?_
  refine ADraw.split [] [(6,11)] [(11,6)] 6 11 rfl rfl (by kernel_rfl) ?_ ?_
  ·refine ADraw.effNLP [(6,11)] [0,1,2,3,4,5,7,8,6,9,10,11,12] [(8,11),(9,11),(10,11)] 11 11 [45,46,1000029] [(0,2),(0,2),(0,2),(0,2),(0,0),(0,0),(0,1),(0,1),(0,5),(0,5),(0,5),(0,5),(0,5)] [0,2,0,2,1,1,0,2,1,1,1,1,1] 8 (by decide) follows (by kernel_rfl) (by kernel_rfl) (by kernel_rfl) (by kernel_rfl) (by kernel_rfl) (by kernel_rfl) (by kernel_rfl) (by kernel_rfl) rfl rfl (by intro d hd;cases hd;rfl) (by intro t i h k;cases h;cases k;rfl) ?_
   intro L hL
   simp only[permL_nil,permL_cons,List.getD_cons_zero,List.getD_cons_succ,List.toList_toArray]at hL
   subst hL
   repeat(first|refine chk.ga ?_|simp -dsimp[↓e1])
   have hF:=ob hF;obtain⟨v,e2,hF⟩:=hF
   refine((C.impl_ownBinds__f B hB1 hB2 x.binds v e2)).ngo1 (by first|simp -dsimp[↓e1];done|simp_all) (by simp) (fun h o_h=> ?_)
   repeat(first|refine chk.ga ?_|simp -dsimp[↓e1,o_h])
   have hF:=ob hF;obtain⟨v3,e4,hF⟩:=hF
   refine((C.f38 B hB1 hB2 x.path v3 e4)).ego (pl [5]) (by simp) (by simp) (by intro i j hi;simp at hi) (by intro i hi hi';simp at hi hi';first|omega|(subst hi';simp[pl])) (by first|simp[↓e1,o_h];done|simp_all) (by first|simp[↓e1,o_h];done|simp_all) ?_
   repeat(first|refine chk.ga ?_|simp -dsimp[↓e1,o_h])
   have hF:=ob hF;obtain⟨o',ho20,hF⟩:=hF
   refine ALoop.goU ⟨[(0,.arr (List.map Vl.Node.c list)),(4,.ptr 2 0),(5,.ptr 3 0),(6,.ptr 6 0),(25,.arr (List.map Vl.Edge.c x.edges)),(26,.lit (.int .i64 (x.edges.length:Int))),(27,.lit (.int .i64 (0:Int)))],[.pack [] [],.elems 0 [],.cells [.lit (.int .i64 0),.lit (.int .i64 0),.lit (.slice none 0 0),.lit (.slice none 0 0),.lit (.slice none 0 0),.lit (.slice none 0 0)],.cells [.lit (.int .i64 x.op),.lit (.int .i64 x.clause),.arr (List.map Vl.PathBind.c x.binds),.arr (List.map cI x.path),.arr (List.map Vl.Edge.c x.edges),.lit (.int .i64 x.els)],.pack [.arr (List.map Vl.PathBind.c v)] [h],.elems 1 (List.map cI v3),.cells [.lit (.int .i64 x.op),.lit (.int .i64 x.clause),.lit h,.own 5 (List.length (α:=Int) v3),.own 7 (List.length (α:=Vl.Branch) []),.lit (.slice none 0 0)],.elems 9 [],.pack (List.flatten (List.map Vl.Branch.c [])) []]⟩ (by refine Gh.trans (Gh.nilCell 6 4 9 (by simp -dsimp;rfl) (by simp -dsimp)) ?_;refine Gh.trans (Gh.packZ .nil) ?_;exact(Gh.to3 (by simp) (by first|simp -dsimp[↓e1,o_h];done|simp_all))) ?_
   refine(ih_impl_expand__f_l1 x v v3 [] 0 o' ho20) h [] [] o_h RW.nil _ rfl _ ?_
   intro Rq Uq Hq6
   repeat(first|refine chk.ga ?_|simp -dsimp[o_h,RW.len Hq6,RW.closed Hq6])
   revert hF;refine abr.sp ?_ ?_<;>intro h21 q22 hF
   ·repeat(first|refine chk.ga ?_|simp -dsimp[o_h,RW.len Hq6,RW.closed Hq6,h21])
    have hF:=ob hF;obtain⟨v23,e24,hF⟩:=hF
    refine((ih_impl_expand__f x.els v23 e24)).go4 (by first|simp -dsimp[o_h,RW.len Hq6,RW.closed Hq6,h21];done|simp_all) (by simp) (fun h25 h26 h27 h28 o_h25 o_h26 o_h27 o_h28=> ?_)
    cases hF
    repeat(first|refine chk.ga ?_|simp -dsimp[o_h,RW.len Hq6,RW.closed Hq6,h21,o_h25,o_h26,o_h27,o_h28])
    exact⟨_,by decide,(.agg (.lit _ (.lit _ (.pk 4 rfl (CD.ownE 5 _ 1 rfl (lits_cI _) (by simp) (.ownP 7 _ 9 rfl (by simp) (.blk 8 rfl .nil) (by simp[Hq6.2.2]) (by simp[Hq6.1]) (by simp) (by simp) (.ownP 13 _ 6 rfl (by simp) (.lit (.int .i64 v23.op) (.lit (.int .i64 v23.clause) (.pk 9 rfl (.pk 10 rfl (.pk 11 rfl (.pk 12 rfl .nil)))))) (by simp) (by simp) (by simp) (by simp) .nil)))))) .nil:CT _ _ _ _)⟩
   ·cases hF
    repeat(first|refine chk.ga ?_|simp -dsimp[o_h,RW.len Hq6,RW.closed Hq6,h21,q22])
    exact⟨_,by decide,(.agg (.lit _ (.lit _ (.pk 4 rfl (CD.ownE 5 _ 1 rfl (lits_cI _) (by simp) (.ownP 7 _ 9 rfl (by simp) (.blk 8 rfl .nil) (by simp[Hq6.2.2]) (by simp[Hq6.1]) (by simp) (by simp) (.nilS none 0 .nil)))))) .nil:CT _ _ _ _)⟩
  ·have hF:=ob hF;obtain⟨v,e2,hF⟩:=hF
   have hF:=ob hF;obtain⟨v3,e4,hF⟩:=hF
   refine ADraw.postE ?_
   refine ADraw.effNP [(11,6)] [0,1,2,3,4,5,7,8,11,6,9,10,12] [45,46,1000029] [(0,3),(0,3),(0,3),(0,3),(0,1),(0,1),(0,2),(0,2),(0,5),(0,5),(0,5),(0,5),(0,5)] [0,2,0,2,0,2,0,2,1,1,1,1,1] 9 (by decide) follows (by kernel_rfl) (by kernel_rfl) (by kernel_rfl) (by kernel_rfl) (by kernel_rfl) (by kernel_rfl) rfl ?_
   intro L hL
   simp only[permL_nil,permL_cons,List.getD_cons_zero,List.getD_cons_succ,List.toList_toArray]at hL
   subst hL
   repeat(first|refine chk.ga ?_|simp -dsimp[↓e1])
   refine((C.impl_ownBinds__f B hB1 hB2 x.binds v e2)).ngo1 (by first|simp -dsimp[↓e1];done|simp_all) (by simp) (fun h o_h=> ?_)
   repeat(first|refine chk.ga ?_|simp -dsimp[↓e1,o_h])
   refine((C.f38 B hB1 hB2 x.path v3 e4)).ego (pl [6]) (by simp) (by simp) (by intro i j hi;simp at hi) (by intro i hi hi';simp at hi hi';first|omega|(subst hi';simp[pl])) (by first|simp[↓e1,o_h];done|simp_all) (by first|simp[↓e1,o_h];done|simp_all) ?_
   repeat(first|refine chk.ga ?_|simp -dsimp[↓e1,o_h])
   refine GhK.go (Gh.trans (Gh.swap 4 6 (by decide) (by decide) (by simp) (by simp) (by simp)) (Gh.swap 4 5 (by decide) (by decide) (by simp) (by simp) (by simp))) ?_
   repeat(first|refine chk.ga ?_|simp -dsimp[↓e1,o_h])
   have hF:=ob hF;obtain⟨o',ho20,hF⟩:=hF
   refine ALoop.goU ⟨[(0,.arr (List.map Vl.Node.c list)),(4,.ptr 2 0),(5,.ptr 3 0),(6,.ptr 6 0),(25,.arr (List.map Vl.Edge.c x.edges)),(26,.lit (.int .i64 (x.edges.length:Int))),(27,.lit (.int .i64 (0:Int)))],[.pack [] [],.elems 0 [],.cells [.lit (.int .i64 0),.lit (.int .i64 0),.lit (.slice none 0 0),.lit (.slice none 0 0),.lit (.slice none 0 0),.lit (.slice none 0 0)],.cells [.lit (.int .i64 x.op),.lit (.int .i64 x.clause),.arr (List.map Vl.PathBind.c x.binds),.arr (List.map cI x.path),.arr (List.map Vl.Edge.c x.edges),.lit (.int .i64 x.els)],.pack [.arr (List.map Vl.PathBind.c v)] [h],.elems 1 (List.map cI v3),.cells [.lit (.int .i64 x.op),.lit (.int .i64 x.clause),.lit h,.own 5 (List.length (α:=Int) v3),.own 7 (List.length (α:=Vl.Branch) []),.lit (.slice none 0 0)],.elems 9 [],.pack (List.flatten (List.map Vl.Branch.c [])) []]⟩ (by refine Gh.trans (Gh.nilCell 6 4 9 (by simp -dsimp;rfl) (by simp -dsimp)) ?_;refine Gh.trans (Gh.packZ .nil) ?_;exact(Gh.to3 (by simp) (by first|simp -dsimp[↓e1,o_h];done|simp_all))) ?_
   refine(ih_impl_expand__f_l1 x v v3 [] 0 o' ho20) h [] [] o_h RW.nil _ rfl _ ?_
   intro Rq Uq Hq6
   repeat(first|refine chk.ga ?_|simp -dsimp[o_h,RW.len Hq6,RW.closed Hq6])
   revert hF;refine abr.sp ?_ ?_<;>intro h21 q22 hF
   ·repeat(first|refine chk.ga ?_|simp -dsimp[o_h,RW.len Hq6,RW.closed Hq6,h21])
    have hF:=ob hF;obtain⟨v23,e24,hF⟩:=hF
    refine((ih_impl_expand__f x.els v23 e24)).go4 (by first|simp -dsimp[o_h,RW.len Hq6,RW.closed Hq6,h21];done|simp_all) (by simp) (fun h25 h26 h27 h28 o_h25 o_h26 o_h27 o_h28=> ?_)
    cases hF
    repeat(first|refine chk.ga ?_|simp -dsimp[o_h,RW.len Hq6,RW.closed Hq6,h21,o_h25,o_h26,o_h27,o_h28])
    exact⟨_,by decide,(.agg (.lit _ (.lit _ (.pk 4 rfl (CD.ownE 5 _ 1 rfl (lits_cI _) (by simp) (.ownP 7 _ 9 rfl (by simp) (.blk 8 rfl .nil) (by simp[Hq6.2.2]) (by simp[Hq6.1]) (by simp) (by simp) (.ownP 13 _ 6 rfl (by simp) (.lit (.int .i64 v23.op) (.lit (.int .i64 v23.clause) (.pk 9 rfl (.pk 10 rfl (.pk 11 rfl (.pk 12 rfl .nil)))))) (by simp) (by simp) (by simp) (by simp) .nil)))))) .nil:CT _ _ _ _)⟩
   ·cases hF
    repeat(first|refine chk.ga ?_|simp -dsimp[o_h,RW.len Hq6,RW.closed Hq6,h21,q22])
    exact⟨_,by decide,(.agg (.lit _ (.lit _ (.pk 4 rfl (CD.ownE 5 _ 1 rfl (lits_cI _) (by simp) (.ownP 7 _ 9 rfl (by simp) (.blk 8 rfl .nil) (by simp[Hq6.2.2]) (by simp[Hq6.1]) (by simp) (by simp) (.nilS none 0 .nil)))))) .nil:CT _ _ _ _)⟩
 ·intro _f_impl_expand__f _f_impl_expand__f_l1 ih_impl_expand__f ih_impl_expand__f_l1 x v v3 out i o hF
  intro h R U o_h H5 c hc Q hq
  obtain rfl:c=_:=navEq hc rfl
  refine ALoopU.know fun hk hs=> ?_
  have b0:=hk 0
  simp -dsimp at b0
  have b25:=hk 25
  simp -dsimp at b25
  have d3:=hs 3 _ rfl
  simp -dsimp[Blk.bnd]at d3
  have d5:=hs 5 _ rfl
  simp -dsimp[Blk.bnd]at d5
  have d7:=hs 7 _ rfl
  simp -dsimp[Blk.bnd]at d7
  clear hk hs
  refine ALoopU.enter ?_
  repeat(first|refine chk.ga ?_|simp -dsimp[o_h,RW.len H5,RW.closed H5])
  revert hF;refine abr.sp ?_ ?_<;>intro h7 q8 hF
  ·have z9:((i:Int)<(x.edges.length:Int)):=auz
   have hF:=ob hF;obtain⟨x10,e11,hF⟩:=hF
   have le11:=lt_of_get e11
   repeat(first|refine chk.ga ?_|simp -dsimp[o_h,RW.len H5,RW.closed H5,h7,z9,↓e11])
   refine ADraw.effN2 [19] [(0,2),(0,2),(0,1),(0,1),(0,1),(0,1),(0,1),(0,1),(0,0),(0,0),(0,0),(0,4),(1,1),(0,4),(0,4),(3,3),(0,4)] [0,2,0,2,0,2,0,2,1,1,1,1,1,1,1,1,1] 11 (by decide) follows (by kernel_rfl) (by kernel_rfl) (by kernel_rfl) (by kernel_rfl) (by kernel_rfl) rfl ?_
   repeat(first|refine chk.ga ?_|simp -dsimp[o_h,RW.len H5,RW.closed H5,h7,z9,↓e11])
   have hF:=ob hF;obtain⟨v12,e13,hF⟩:=hF
   refine((ih_impl_expand__f x10.to v12 e13)).ngo4 (by first|simp -dsimp[o_h,RW.len H5,RW.closed H5,h7,z9,↓e11];done|simp_all) (by simp) (fun h14 h15 h16 h17 o_h14 o_h15 o_h16 o_h17=> ?_)
   have hF:=oc hF;obtain⟨c18,hF⟩:=hF
   have w19:IntKind.i64.wrap ((i:Int)+1)=(i:Int)+1:=wrap_in (by omega) (by omega)
   repeat(first|refine chk.ga ?_|simp -dsimp[o_h,RW.len H5,RW.closed H5,h7,z9,↓e11,o_h14,o_h15,o_h16,o_h17,w19])
   refine Again.go ⟨[(0,.arr (List.map Vl.Node.c list)),(4,.ptr 2 0),(5,.ptr 3 0),(6,.ptr 6 0),(25,.arr (List.map Vl.Edge.c x.edges)),(26,.lit (.int .i64 (x.edges.length:Int))),(27,.lit (.int .i64 ((i+1):Int)))],[.pack [] [],.elems 0 [],.cells [.lit (.int .i64 0),.lit (.int .i64 0),.lit (.slice none 0 0),.lit (.slice none 0 0),.lit (.slice none 0 0),.lit (.slice none 0 0)],.cells [.lit (.int .i64 x.op),.lit (.int .i64 x.clause),.arr (List.map Vl.PathBind.c x.binds),.arr (List.map cI x.path),.arr (List.map Vl.Edge.c x.edges),.lit (.int .i64 x.els)],.pack [.arr (List.map Vl.PathBind.c v)] [h],.elems 1 (List.map cI v3),.cells [.lit (.int .i64 x.op),.lit (.int .i64 x.clause),.lit h,.own 5 (List.length (α:=Int) v3),.own 7 (List.length (α:=Vl.Branch) (out++[(⟨x10.ctor,x10.n,x10.m,v12⟩:Vl.Branch)])),.lit (.slice none 0 0)],.elems 9 (R++[[.lit (.int .i64 x10.ctor),.lit (.int .i64 x10.n),.lit (.int .i64 x10.m),.lit (.int .i64 v12.op),.lit (.int .i64 v12.clause),.lit h14,.lit h15,.lit h16,.lit h17]]),.pack (List.flatten (List.map Vl.Branch.c (out++[(⟨x10.ctor,x10.n,x10.m,v12⟩:Vl.Branch)]))) (U++[.int .i64 x10.ctor,.int .i64 x10.n,.int .i64 x10.m,.int .i64 v12.op,.int .i64 v12.clause,h14,h15,h16,h17])]⟩ (by refine Gh.trans (Gh.absorb 8 [10,11,12,13] (by exact rfl) (.lit (.int .i64 x10.ctor) (.lit (.int .i64 x10.n) (.lit (.int .i64 x10.m) (.lit (.int .i64 v12.op) (.lit (.int .i64 v12.clause) (.pk 10 (by exact rfl) (.pk 11 (by exact rfl) (.pk 12 (by exact rfl) (.pk 13 (by exact rfl) .nil))))))))) (by decide)) ?_;exact(Gh.to3 (by simp) (by first|simp -dsimp[o_h,RW.len H5,RW.closed H5,h7,z9,↓e11,o_h14,o_h15,o_h16,o_h17,w19];done|simp_all))) ?_
   exact(ih_impl_expand__f_l1 x v v3 (out++[(⟨x10.ctor,x10.n,x10.m,v12⟩:Vl.Branch)]) (i+1) o hF) h (R++[[.lit (.int .i64 x10.ctor),.lit (.int .i64 x10.n),.lit (.int .i64 x10.m),.lit (.int .i64 v12.op),.lit (.int .i64 v12.clause),.lit h14,.lit h15,.lit h16,.lit h17]]) (U++[.int .i64 x10.ctor,.int .i64 x10.n,.int .i64 x10.m,.int .i64 v12.op,.int .i64 v12.clause,h14,h15,h16,h17]) o_h ((RW.snoc H5 [.int .i64 x10.ctor,.int .i64 x10.n,.int .i64 x10.m,.int .i64 v12.op,.int .i64 v12.clause,h14,h15,h16,h17] rfl).cong (by simp) (by simp) rfl) _ rfl _ hq
  ·have z9:¬((i:Int)<(x.edges.length:Int)):=auz
   cases hF
   repeat(first|refine chk.ga ?_|simp -dsimp[o_h,RW.len H5,RW.closed H5,h7,q8,z9])
   refine Leave.go ⟨[(0,.arr (List.map Vl.Node.c list)),(4,.ptr 2 0),(5,.ptr 3 0),(6,.ptr 6 0)],[.pack [] [],.elems 0 [],.cells [.lit (.int .i64 0),.lit (.int .i64 0),.lit (.slice none 0 0),.lit (.slice none 0 0),.lit (.slice none 0 0),.lit (.slice none 0 0)],.cells [.lit (.int .i64 x.op),.lit (.int .i64 x.clause),.arr (List.map Vl.PathBind.c x.binds),.arr (List.map cI x.path),.arr (List.map Vl.Edge.c x.edges),.lit (.int .i64 x.els)],.pack [.arr (List.map Vl.PathBind.c v)] [h],.elems 1 (List.map cI v3),.cells [.lit (.int .i64 x.op),.lit (.int .i64 x.clause),.lit h,.own 5 (List.length (α:=Int) v3),.own 7 (List.length (α:=Vl.Branch) out),.lit (.slice none 0 0)],.elems 9 R,.pack (List.flatten (List.map Vl.Branch.c out)) U]⟩ (Gh.to3 (by simp) (by first|simp -dsimp[o_h,RW.len H5,RW.closed H5,h7,q8,z9];done|simp_all)) ?_
   exact hq R U H5
theorem C.impl_ExpandNodes__f (list:List Vl.Node)(r:Vl.Tree×Bool)(hF:F.f43 list=some r):FCall Try.prog B 7 [.arr (List.map Vl.Node.c list)] (.tup [.agg [.lit (.int .i64 r.1.op),.lit (.int .i64 r.1.clause),.arr (List.map Vl.PathBind.c r.1.binds),.arr (List.map cI r.1.path),.arr (List.map Vl.Branch.c r.1.branches),.arr (List.map Vl.Tree.c r.1.els)],.lit (.bool r.2)]):=by
 unfold F.f43 at hF
 refine FCall.enterG Try.func7 (by kernel_rfl) rfl Try.ntmps7 (by simp) (Gh.packZ .nil) ?_
 repeat(first|refine chk.ga ?_|simp -dsimp)
 have hF:=ob hF;obtain⟨v,e1,hF⟩:=hF
 refine((C.f34 B hB1 hB2 list v e1)).goW (by simp) (by simp) ?_
 repeat(first|refine chk.ga ?_|simp -dsimp)
 revert hF;refine abr.sp (fun h2 q3 hF=> ?_) (fun h2 q3 hF=> ?_)
 ·repeat(first|refine chk.ga ?_|simp -dsimp[h2])
  have hF:=ob hF;obtain⟨v4,e5,hF⟩:=hF
  refine((C.f37 B hB1 hB2 list v4 e5)).goW (by first|simp[h2];done|simp_all) (by simp) ?_
  have hF:=ob hF;obtain⟨x,e6a,hF⟩:=hF
  have e6a:=at_some e6a;obtain⟨ne6,e6⟩:=e6a
  have le6:=lt_of_get e6
  repeat(first|refine chk.ga ?_|simp -dsimp[h2,↓e6])
  revert hF;refine abr.sp ?_ ?_<;>intro h7 q8 hF
  ·cases hF
   repeat(first|refine chk.ga ?_|simp -dsimp[h2,↓e6,h7])
   exact⟨_,by decide,(.agg (.lit _ (.lit _ (.nilS none 0 (.nilS none 0 (.nilS none 0 (.nilS none 0 .nil)))))) (.cell (.lit _ .nil) .nil):CT _ _ _ _)⟩
  ·repeat(first|refine chk.ga ?_|simp -dsimp[h2,↓e6,h7,q8])
   have hF:=ob hF;obtain⟨v9,e10,hF⟩:=hF
   refine(((CC.impl_expand__f B hB1 hB2 list).1 (IntKind.i64.wrap ((list.length:Int) -1)) v9 e10)).go4 (by first|simp -dsimp[h2,↓e6,h7,q8];done|simp_all) (by simp) (fun h h11 h12 h13 o_h o_h11 o_h12 o_h13=> ?_)
   cases hF
   repeat(first|refine chk.ga ?_|simp -dsimp[h2,↓e6,h7,q8,o_h,o_h11,o_h12,o_h13])
   exact⟨_,by decide,(.agg (.lit _ (.lit _ (.pk 2 rfl (.pk 3 rfl (.pk 4 rfl (.pk 5 rfl .nil)))))) (.cell (.lit _ .nil) .nil):CT _ _ _ _)⟩
 ·cases hF
  repeat(first|refine chk.ga ?_|simp -dsimp[h2,q3])
  exact⟨_,by decide,(.agg (.lit _ (.lit _ (.nilS none 0 (.nilS none 0 (.nilS none 0 (.nilS none 0 .nil)))))) (.cell (.lit _ .nil) .nil):CT _ _ _ _)⟩
theorem CC.f44 (a:List Int)(b:List Int):(∀(i:Nat) (o:Lo Bool Unit),F.f44 a b i=some o→∀(c:Code),navO [1,1,0,1,0,0] (bodyOf Try.f21)=some c→∀(Q:Exit→ASt→Prop),o.post (fun r=>∀st,Post Try.prog Try.f21 (fun r' _=>r'.le (.lit (.bool r))) .ret st→Q .ret st) (fun s=>Q (.exit 0) ⟨[],[]⟩)→ALoopU Try.prog B 0 26 (hold c .mk) ⟨[(0,.arr (List.map cI a)),(1,.arr (List.map cI b)),(5,.lit (.int .i64 (i:Int)))],[]⟩ (hold Q .mk)):=by
 refine F.f44.partial_correctness a b
  _
  ?_
 ·intro _f_f44 ih_f44 i o hF
  intro c hc Q hq
  obtain rfl:c=_:=navEq hc rfl
  refine ALoopU.know fun hk hs=> ?_
  have b0:=hk 0
  simp -dsimp at b0
  have b1:=hk 1
  simp -dsimp at b1
  clear hk hs
  refine ALoopU.enter ?_
  repeat(first|refine chk.ga ?_|simp -dsimp)
  revert hF;refine abr.sp ?_ ?_<;>intro h4 q5 hF
  ·have z6:((i:Int)<(a.length:Int)):=auz
   repeat(first|refine chk.ga ?_|simp -dsimp[h4,z6])
   refine ADraw.simple follows (by kernel_rfl) (by kernel_rfl) ?_
   have hF:=ob hF;obtain⟨x,e7,hF⟩:=hF
   have le7:=lt_of_get e7
   have hF:=ob hF;obtain⟨x8,e9,hF⟩:=hF
   have le9:=lt_of_get e9
   repeat(first|refine chk.ga ?_|simp -dsimp[h4,z6,↓e7,↓e9])
   revert hF;refine abr.ns ?_ ?_<;>intro h10 q11 hF
   ·cases hF
    repeat(first|refine chk.ga ?_|simp -dsimp[h4,z6,↓e7,↓e9,h10,q11])
    refine Leave.go _ (Gh.refl _) (hq _ ?_)
    repeat(first|refine chk.ga ?_|simp -dsimp[h4,z6,↓e7,↓e9,h10,q11])
   ·have w12:IntKind.i64.wrap ((i:Int)+1)=(i:Int)+1:=wrap_in (by omega) (by omega)
    repeat(first|refine chk.ga ?_|simp -dsimp[h4,z6,↓e7,↓e9,h10,q11,w12])
    refine Again.go _ ?_ ((ih_f44 (i+1) o hF) _ rfl _ hq)
    exact(Gh.to3 (by simp) (by first|simp -dsimp[h4,z6,↓e7,↓e9,h10,q11,w12];done|simp_all))
  ·have z6:¬((i:Int)<(a.length:Int)):=auz
   cases hF
   repeat(first|refine chk.ga ?_|simp -dsimp[h4,q5,z6])
   refine Leave.go _ (Gh.to3 (by simp) (by first|simp -dsimp[h4,q5,z6];done|simp_all)) hq
theorem C.f45 (a:List Int)(b:List Int)(r:Bool)(hF:F.f45 a b=some r):PureCall Try.prog B 21 [.arr (List.map cI a),.arr (List.map cI b)] (.lit (.bool r)):=by
 unfold F.f45 at hF
 refine PureCall.enterLe Try.func21 (by kernel_rfl) rfl Try.ntmps21 (by simp) (by simp) ?_
 repeat(first|refine chk.ga ?_|simp -dsimp)
 revert hF;refine abr.ns ?_ ?_<;>intro h1 q2 hF
 ·have z3:¬((a.length:Int)=(b.length:Int)):=auz
  cases hF
  repeat(first|refine chk.ga ?_|simp -dsimp[h1,q2,z3])
  all_goals(try first|omega|rfl)
 ·have z3:((a.length:Int)=(b.length:Int)):=auz
  repeat(first|refine chk.ga ?_|simp -dsimp[h1,q2,z3])
  have hF:=ob hF;obtain⟨o',ho13,hF⟩:=hF
  refine ALoop.goU _ ?_ (((CC.f44 B hB1 hB2 a b) 0 o' ho13) _ rfl _ ?_)
  ·exact(Gh.to3 (by simp) (by first|simp -dsimp[h1,q2,z3];done|simp_all))
  rcases o' with r0|sx
  ·dsimp only at hF
   cases hF
   intro st h
   simpa using h
  ·dsimp only at hF
   cases hF
   repeat(first|refine chk.ga ?_|simp -dsimp)
   all_goals(try first|omega|rfl)
theorem C.f46 (a:Vl.PathBind)(b:Vl.PathBind)(r:Bool)(hF:F.f46 a b=some r):PureCall Try.prog B 47 [.agg [.lit (.int .i64 a.var),.arr (List.map cI a.path)],.agg [.lit (.int .i64 b.var),.arr (List.map cI b.path)]] (.lit (.bool r)):=by
 unfold F.f46 at hF
 refine PureCall.enterLe Try.func47 (by kernel_rfl) rfl Try.ntmps47 (by simp) (by simp) ?_
 repeat(first|refine chk.ga ?_|simp -dsimp)
 revert hF;refine abr.ns ?_ ?_<;>intro h1 q2 hF
 ·cases hF
  repeat(first|refine chk.ga ?_|simp -dsimp[h1,q2])
  all_goals(try first|omega|rfl)
 ·repeat(first|refine chk.ga ?_|simp -dsimp[h1,q2])
  have hF:=ob hF;obtain⟨v,e3,hF⟩:=hF
  refine((C.f45 B hB1 hB2 a.path b.path v e3)).goW (by first|simp[h1,q2];done|simp_all) (by simp) ?_
  repeat(first|refine chk.ga ?_|simp -dsimp[h1,q2])
  revert hF;refine abr.ns (fun h4 q5 hF=> ?_) (fun h4 q5 hF=> ?_)
  ·cases hF
   repeat(first|refine chk.ga ?_|simp -dsimp[h1,q2,h4,q5])
   all_goals(try first|omega|rfl)
  ·cases hF
   repeat(first|refine chk.ga ?_|simp -dsimp[h1,q2,h4,q5])
   all_goals(try first|omega|rfl)
theorem CC.f47 (a:List Vl.PathBind)(b:List Vl.PathBind):(∀(i:Nat) (o:Lo Bool Unit),F.f47 a b i=some o→∀(c:Code),navO [1,1,0,1,0,0] (bodyOf Try.f20)=some c→∀(Q:Exit→ASt→Prop),o.post (fun r=>∀st,Post Try.prog Try.f20 (fun r' _=>r'.le (.lit (.bool r))) .ret st→Q .ret st) (fun s=>Q (.exit 0) ⟨[],[]⟩)→ALoopU Try.prog B 0 27 (hold c .mk) ⟨[(0,.arr (List.map Vl.PathBind.c a)),(1,.arr (List.map Vl.PathBind.c b)),(5,.lit (.int .i64 (i:Int)))],[]⟩ (hold Q .mk)):=by
 refine F.f47.partial_correctness a b
  _
  ?_
 ·intro _f_f47 ih_f47 i o hF
  intro c hc Q hq
  obtain rfl:c=_:=navEq hc rfl
  refine ALoopU.know fun hk hs=> ?_
  have b0:=hk 0
  simp -dsimp at b0
  have b1:=hk 1
  simp -dsimp at b1
  clear hk hs
  refine ALoopU.enter ?_
  repeat(first|refine chk.ga ?_|simp -dsimp)
  revert hF;refine abr.sp ?_ ?_<;>intro h4 q5 hF
  ·have z6:((i:Int)<(a.length:Int)):=auz
   repeat(first|refine chk.ga ?_|simp -dsimp[h4,z6])
   refine ADraw.simple follows (by kernel_rfl) (by kernel_rfl) ?_
   have hF:=ob hF;obtain⟨x,e7,hF⟩:=hF
   have le7:=lt_of_get e7
   have hF:=ob hF;obtain⟨x8,e9,hF⟩:=hF
   have le9:=lt_of_get e9
   repeat(first|refine chk.ga ?_|simp -dsimp[h4,z6,↓e7,↓e9])
   have hF:=ob hF;obtain⟨v,e10,hF⟩:=hF
   refine((C.f46 B hB1 hB2 x x8 v e10)).pgoW (by first|simp[h4,z6,↓e7,↓e9];done|simp_all) (by simp) ?_
   repeat(first|refine chk.ga ?_|simp -dsimp[h4,z6,↓e7,↓e9])
   revert hF;refine abr.ns (fun h11 q12 hF=> ?_) (fun h11 q12 hF=> ?_)
   ·cases hF
    repeat(first|refine chk.ga ?_|simp -dsimp[h4,z6,↓e7,↓e9,h11,q12])
    refine Leave.go _ (Gh.refl _) (hq _ ?_)
    repeat(first|refine chk.ga ?_|simp -dsimp[h4,z6,↓e7,↓e9,h11,q12])
   ·have w13:IntKind.i64.wrap ((i:Int)+1)=(i:Int)+1:=wrap_in (by omega) (by omega)
    repeat(first|refine chk.ga ?_|simp -dsimp[h4,z6,↓e7,↓e9,h11,q12,w13])
    refine Again.go _ ?_ ((ih_f47 (i+1) o hF) _ rfl _ hq)
    exact(Gh.to3 (by simp) (by first|simp -dsimp[h4,z6,↓e7,↓e9,h11,q12,w13];done|simp_all))
  ·have z6:¬((i:Int)<(a.length:Int)):=auz
   cases hF
   repeat(first|refine chk.ga ?_|simp -dsimp[h4,q5,z6])
   refine Leave.go _ (Gh.to3 (by simp) (by first|simp -dsimp[h4,q5,z6];done|simp_all)) hq
theorem C.f48 (a:List Vl.PathBind)(b:List Vl.PathBind)(r:Bool)(hF:F.f48 a b=some r):PureCall Try.prog B 20 [.arr (List.map Vl.PathBind.c a),.arr (List.map Vl.PathBind.c b)] (.lit (.bool r)):=by
 unfold F.f48 at hF
 refine PureCall.enterLe Try.func20 (by kernel_rfl) rfl Try.ntmps20 (by simp) (by simp) ?_
 repeat(first|refine chk.ga ?_|simp -dsimp)
 revert hF;refine abr.ns ?_ ?_<;>intro h1 q2 hF
 ·have z3:¬((a.length:Int)=(b.length:Int)):=auz
  cases hF
  repeat(first|refine chk.ga ?_|simp -dsimp[h1,q2,z3])
  all_goals(try first|omega|rfl)
 ·have z3:((a.length:Int)=(b.length:Int)):=auz
  repeat(first|refine chk.ga ?_|simp -dsimp[h1,q2,z3])
  have hF:=ob hF;obtain⟨o',ho14,hF⟩:=hF
  refine ALoop.goU _ ?_ (((CC.f47 B hB1 hB2 a b) 0 o' ho14) _ rfl _ ?_)
  ·exact(Gh.to3 (by simp) (by first|simp -dsimp[h1,q2,z3];done|simp_all))
  rcases o' with r0|sx
  ·dsimp only at hF
   cases hF
   intro st h
   simpa using h
  ·dsimp only at hF
   cases hF
   repeat(first|refine chk.ga ?_|simp -dsimp)
   all_goals(try first|omega|rfl)
theorem CC.f49  :(∀(a:Vl.Branch) (b:Vl.Branch) (r:Bool),F.f49 a b=some r→PureCall Try.prog B 48 [.agg [.lit (.int .i64 a.ctor),.lit (.int .i64 a.n),.lit (.int .i64 a.m),.lit (.int .i64 a.tree.op),.lit (.int .i64 a.tree.clause),.arr (List.map Vl.PathBind.c a.tree.binds),.arr (List.map cI a.tree.path),.arr (List.map Vl.Branch.c a.tree.branches),.arr (List.map Vl.Tree.c a.tree.els)],.agg [.lit (.int .i64 b.ctor),.lit (.int .i64 b.n),.lit (.int .i64 b.m),.lit (.int .i64 b.tree.op),.lit (.int .i64 b.tree.clause),.arr (List.map Vl.PathBind.c b.tree.binds),.arr (List.map cI b.tree.path),.arr (List.map Vl.Branch.c b.tree.branches),.arr (List.map Vl.Tree.c b.tree.els)]] (.lit (.bool r)))∧
  (∀(a:Vl.Tree) (b:Vl.Tree) (r:Bool),F.f51 a b=some r→PureCall Try.prog B 8 [.agg [.lit (.int .i64 a.op),.lit (.int .i64 a.clause),.arr (List.map Vl.PathBind.c a.binds),.arr (List.map cI a.path),.arr (List.map Vl.Branch.c a.branches),.arr (List.map Vl.Tree.c a.els)],.agg [.lit (.int .i64 b.op),.lit (.int .i64 b.clause),.arr (List.map Vl.PathBind.c b.binds),.arr (List.map cI b.path),.arr (List.map Vl.Branch.c b.branches),.arr (List.map Vl.Tree.c b.els)]] (.lit (.bool r)))∧
  (∀(a:List Vl.Tree) (b:List Vl.Tree) (r:Bool),F.f52 a b=some r→PureCall Try.prog B 23 [.arr (List.map Vl.Tree.c a),.arr (List.map Vl.Tree.c b)] (.lit (.bool r)))∧
  (∀(a:List Vl.Tree) (b:List Vl.Tree) (i:Nat) (o:Lo Bool Unit),F.f54 a b i=some o→∀(c:Code),navO [1,1,0,1,0,0] (bodyOf Try.f23)=some c→∀(Q:Exit→ASt→Prop),o.post (fun r=>∀st,Post Try.prog Try.f23 (fun r' _=>r'.le (.lit (.bool r))) .ret st→Q .ret st) (fun s=>Q (.exit 0) ⟨[],[]⟩)→ALoopU Try.prog B 0 27 (hold c .mk) ⟨[(0,.arr (List.map Vl.Tree.c a)),(1,.arr (List.map Vl.Tree.c b)),(5,.lit (.int .i64 (i:Int)))],[]⟩ (hold Q .mk))∧
  (∀(a:List Vl.Branch) (b:List Vl.Branch) (r:Bool),F.f50 a b=some r→PureCall Try.prog B 22 [.arr (List.map Vl.Branch.c a),.arr (List.map Vl.Branch.c b)] (.lit (.bool r)))∧
  (∀(a:List Vl.Branch) (b:List Vl.Branch) (i:Nat) (o:Lo Bool Unit),F.f53 a b i=some o→∀(c:Code),navO [1,1,0,1,0,0] (bodyOf Try.f22)=some c→∀(Q:Exit→ASt→Prop),o.post (fun r=>∀st,Post Try.prog Try.f22 (fun r' _=>r'.le (.lit (.bool r))) .ret st→Q .ret st) (fun s=>Q (.exit 0) ⟨[],[]⟩)→ALoopU Try.prog B 0 27 (hold c .mk) ⟨[(0,.arr (List.map Vl.Branch.c a)),(1,.arr (List.map Vl.Branch.c b)),(5,.lit (.int .i64 (i:Int)))],[]⟩ (hold Q .mk)):=by
 refine F.f49.mutual_partial_correctness 
  _ _ _ _ _ _
  ?_ ?_ ?_ ?_ ?_ ?_
 ·intro _f_f51 ih_f51 a b r hF
  refine PureCall.enterLe Try.func48 (by kernel_rfl) rfl Try.ntmps48 (by simp) (by simp) ?_
  repeat(first|refine chk.ga ?_|simp -dsimp)
  revert hF;refine abr.ns ?_ ?_<;>intro h1 q2 hF
  ·cases hF
   repeat(first|refine chk.ga ?_|simp -dsimp[h1,q2])
   all_goals(try first|omega|rfl)
  ·repeat(first|refine chk.ga ?_|simp -dsimp[h1,q2])
   revert hF;refine abr.ns ?_ ?_<;>intro h3 q4 hF
   ·cases hF
    repeat(first|refine chk.ga ?_|simp -dsimp[h1,q2,h3,q4])
    all_goals(try first|omega|rfl)
   ·repeat(first|refine chk.ga ?_|simp -dsimp[h1,q2,h3,q4])
    revert hF;refine abr.ns ?_ ?_<;>intro h5 q6 hF
    ·cases hF
     repeat(first|refine chk.ga ?_|simp -dsimp[h1,q2,h3,q4,h5,q6])
     all_goals(try first|omega|rfl)
    ·repeat(first|refine chk.ga ?_|simp -dsimp[h1,q2,h3,q4,h5,q6])
     have hF:=ob hF;obtain⟨v,e7,hF⟩:=hF
     refine((ih_f51 a.tree b.tree v e7)).goW (by first|simp[h1,q2,h3,q4,h5,q6];done|simp_all) (by simp) ?_
     repeat(first|refine chk.ga ?_|simp -dsimp[h1,q2,h3,q4,h5,q6])
     revert hF;refine abr.ns (fun h8 q9 hF=> ?_) (fun h8 q9 hF=> ?_)
     ·cases hF
      repeat(first|refine chk.ga ?_|simp -dsimp[h1,q2,h3,q4,h5,q6,h8,q9])
      all_goals(try first|omega|rfl)
     ·cases hF
      repeat(first|refine chk.ga ?_|simp -dsimp[h1,q2,h3,q4,h5,q6,h8,q9])
      all_goals(try first|omega|rfl)
 ·intro _f_f52 _f_f50 ih_f52 ih_f50 a b r hF
  refine PureCall.enterLe Try.func8 (by kernel_rfl) rfl Try.ntmps8 (by simp) (by simp) ?_
  repeat(first|refine chk.ga ?_|simp -dsimp)
  revert hF;refine abr.ns ?_ ?_<;>intro h1 q2 hF
  ·cases hF
   repeat(first|refine chk.ga ?_|simp -dsimp[h1,q2])
   all_goals(try first|omega|rfl)
  ·repeat(first|refine chk.ga ?_|simp -dsimp[h1,q2])
   revert hF;refine abr.ns ?_ ?_<;>intro h3 q4 hF
   ·cases hF
    repeat(first|refine chk.ga ?_|simp -dsimp[h1,q2,h3,q4])
    all_goals(try first|omega|rfl)
   ·repeat(first|refine chk.ga ?_|simp -dsimp[h1,q2,h3,q4])
    have hF:=ob hF;obtain⟨v,e5,hF⟩:=hF
    refine((C.f48 B hB1 hB2 a.binds b.binds v e5)).goW (by first|simp[h1,q2,h3,q4];done|simp_all) (by simp) ?_
    repeat(first|refine chk.ga ?_|simp -dsimp[h1,q2,h3,q4])
    revert hF;refine abr.ns (fun h6 q7 hF=> ?_) (fun h6 q7 hF=> ?_)
    ·cases hF
     repeat(first|refine chk.ga ?_|simp -dsimp[h1,q2,h3,q4,h6,q7])
     all_goals(try first|omega|rfl)
    ·repeat(first|refine chk.ga ?_|simp -dsimp[h1,q2,h3,q4,h6,q7])
     have hF:=ob hF;obtain⟨v8,e9,hF⟩:=hF
     refine((C.f45 B hB1 hB2 a.path b.path v8 e9)).goW (by first|simp[h1,q2,h3,q4,h6,q7];done|simp_all) (by simp) ?_
     repeat(first|refine chk.ga ?_|simp -dsimp[h1,q2,h3,q4,h6,q7])
     revert hF;refine abr.ns (fun h10 q11 hF=> ?_) (fun h10 q11 hF=> ?_)
     ·cases hF
      repeat(first|refine chk.ga ?_|simp -dsimp[h1,q2,h3,q4,h6,q7,h10,q11])
      all_goals(try first|omega|rfl)
     ·repeat(first|refine chk.ga ?_|simp -dsimp[h1,q2,h3,q4,h6,q7,h10,q11])
      have hF:=ob hF;obtain⟨v12,e13,hF⟩:=hF
      refine((ih_f50 a.branches b.branches v12 e13)).goW (by first|simp[h1,q2,h3,q4,h6,q7,h10,q11];done|simp_all) (by simp) ?_
      repeat(first|refine chk.ga ?_|simp -dsimp[h1,q2,h3,q4,h6,q7,h10,q11])
      revert hF;refine abr.ns (fun h14 q15 hF=> ?_) (fun h14 q15 hF=> ?_)
      ·cases hF
       repeat(first|refine chk.ga ?_|simp -dsimp[h1,q2,h3,q4,h6,q7,h10,q11,h14,q15])
       all_goals(try first|omega|rfl)
      ·repeat(first|refine chk.ga ?_|simp -dsimp[h1,q2,h3,q4,h6,q7,h10,q11,h14,q15])
       have hF:=ob hF;obtain⟨v16,e17,hF⟩:=hF
       refine((ih_f52 a.els b.els v16 e17)).goW (by first|simp[h1,q2,h3,q4,h6,q7,h10,q11,h14,q15];done|simp_all) (by simp) ?_
       repeat(first|refine chk.ga ?_|simp -dsimp[h1,q2,h3,q4,h6,q7,h10,q11,h14,q15])
       revert hF;refine abr.ns (fun h18 q19 hF=> ?_) (fun h18 q19 hF=> ?_)
       ·cases hF
        repeat(first|refine chk.ga ?_|simp -dsimp[h1,q2,h3,q4,h6,q7,h10,q11,h14,q15,h18,q19])
        all_goals(try first|omega|rfl)
       ·cases hF
        repeat(first|refine chk.ga ?_|simp -dsimp[h1,q2,h3,q4,h6,q7,h10,q11,h14,q15,h18,q19])
        all_goals(try first|omega|rfl)
 ·intro _f_f54 ih_f54 a b r hF
  refine PureCall.enterLe Try.func23 (by kernel_rfl) rfl Try.ntmps23 (by simp) (by simp) ?_
  repeat(first|refine chk.ga ?_|simp -dsimp)
  revert hF;refine abr.ns ?_ ?_<;>intro h1 q2 hF
  ·have z3:¬((a.length:Int)=(b.length:Int)):=auz
   cases hF
   repeat(first|refine chk.ga ?_|simp -dsimp[h1,q2,z3])
   all_goals(try first|omega|rfl)
  ·have z3:((a.length:Int)=(b.length:Int)):=auz
   repeat(first|refine chk.ga ?_|simp -dsimp[h1,q2,z3])
   have hF:=ob hF;obtain⟨o',ho14,hF⟩:=hF
   refine ALoop.goU _ ?_ ((ih_f54 a b 0 o' ho14) _ rfl _ ?_)
   ·exact(Gh.to3 (by simp) (by first|simp -dsimp[h1,q2,z3];done|simp_all))
   rcases o' with r0|sx
   ·dsimp only at hF
    cases hF
    intro st h
    simpa using h
   ·dsimp only at hF
    cases hF
    repeat(first|refine chk.ga ?_|simp -dsimp)
    all_goals(try first|omega|rfl)
 ·intro _f_f51 _f_f54 ih_f51 ih_f54 a b i o hF
  intro c hc Q hq
  obtain rfl:c=_:=navEq hc rfl
  refine ALoopU.know fun hk hs=> ?_
  have b0:=hk 0
  simp -dsimp at b0
  have b1:=hk 1
  simp -dsimp at b1
  clear hk hs
  refine ALoopU.enter ?_
  repeat(first|refine chk.ga ?_|simp -dsimp)
  revert hF;refine abr.sp ?_ ?_<;>intro h4 q5 hF
  ·have z6:((i:Int)<(a.length:Int)):=auz
   repeat(first|refine chk.ga ?_|simp -dsimp[h4,z6])
   refine ADraw.simple follows (by kernel_rfl) (by kernel_rfl) ?_
   have hF:=ob hF;obtain⟨x,e7,hF⟩:=hF
   have le7:=lt_of_get e7
   have hF:=ob hF;obtain⟨x8,e9,hF⟩:=hF
   have le9:=lt_of_get e9
   repeat(first|refine chk.ga ?_|simp -dsimp[h4,z6,↓e7,↓e9])
   have hF:=ob hF;obtain⟨v,e10,hF⟩:=hF
   refine((ih_f51 x x8 v e10)).pgoW (by first|simp[h4,z6,↓e7,↓e9];done|simp_all) (by simp) ?_
   repeat(first|refine chk.ga ?_|simp -dsimp[h4,z6,↓e7,↓e9])
   revert hF;refine abr.ns (fun h11 q12 hF=> ?_) (fun h11 q12 hF=> ?_)
   ·cases hF
    repeat(first|refine chk.ga ?_|simp -dsimp[h4,z6,↓e7,↓e9,h11,q12])
    refine Leave.go _ (Gh.refl _) (hq _ ?_)
    repeat(first|refine chk.ga ?_|simp -dsimp[h4,z6,↓e7,↓e9,h11,q12])
   ·have w13:IntKind.i64.wrap ((i:Int)+1)=(i:Int)+1:=wrap_in (by omega) (by omega)
    repeat(first|refine chk.ga ?_|simp -dsimp[h4,z6,↓e7,↓e9,h11,q12,w13])
    refine Again.go _ ?_ ((ih_f54 a b (i+1) o hF) _ rfl _ hq)
    exact(Gh.to3 (by simp) (by first|simp -dsimp[h4,z6,↓e7,↓e9,h11,q12,w13];done|simp_all))
  ·have z6:¬((i:Int)<(a.length:Int)):=auz
   cases hF
   repeat(first|refine chk.ga ?_|simp -dsimp[h4,q5,z6])
   refine Leave.go _ (Gh.to3 (by simp) (by first|simp -dsimp[h4,q5,z6];done|simp_all)) hq
 ·intro _f_f53 ih_f53 a b r hF
  refine PureCall.enterLe Try.func22 (by kernel_rfl) rfl Try.ntmps22 (by simp) (by simp) ?_
  repeat(first|refine chk.ga ?_|simp -dsimp)
  revert hF;refine abr.ns ?_ ?_<;>intro h1 q2 hF
  ·have z3:¬((a.length:Int)=(b.length:Int)):=auz
   cases hF
   repeat(first|refine chk.ga ?_|simp -dsimp[h1,q2,z3])
   all_goals(try first|omega|rfl)
  ·have z3:((a.length:Int)=(b.length:Int)):=auz
   repeat(first|refine chk.ga ?_|simp -dsimp[h1,q2,z3])
   have hF:=ob hF;obtain⟨o',ho14,hF⟩:=hF
   refine ALoop.goU _ ?_ ((ih_f53 a b 0 o' ho14) _ rfl _ ?_)
   ·exact(Gh.to3 (by simp) (by first|simp -dsimp[h1,q2,z3];done|simp_all))
   rcases o' with r0|sx
   ·dsimp only at hF
    cases hF
    intro st h
    simpa using h
   ·dsimp only at hF
    cases hF
    repeat(first|refine chk.ga ?_|simp -dsimp)
    all_goals(try first|omega|rfl)
 ·intro _f_f49 _f_f53 ih_f49 ih_f53 a b i o hF
  intro c hc Q hq
  obtain rfl:c=_:=navEq hc rfl
  refine ALoopU.know fun hk hs=> ?_
  have b0:=hk 0
  simp -dsimp at b0
  have b1:=hk 1
  simp -dsimp at b1
  clear hk hs
  refine ALoopU.enter ?_
  repeat(first|refine chk.ga ?_|simp -dsimp)
  revert hF;refine abr.sp ?_ ?_<;>intro h4 q5 hF
  ·have z6:((i:Int)<(a.length:Int)):=auz
   repeat(first|refine chk.ga ?_|simp -dsimp[h4,z6])
   refine ADraw.simple follows (by kernel_rfl) (by kernel_rfl) ?_
   have hF:=ob hF;obtain⟨x,e7,hF⟩:=hF
   have le7:=lt_of_get e7
   have hF:=ob hF;obtain⟨x8,e9,hF⟩:=hF
   have le9:=lt_of_get e9
   repeat(first|refine chk.ga ?_|simp -dsimp[h4,z6,↓e7,↓e9])
   have hF:=ob hF;obtain⟨v,e10,hF⟩:=hF
   refine((ih_f49 x x8 v e10)).pgoW (by first|simp[h4,z6,↓e7,↓e9];done|simp_all) (by simp) ?_
   repeat(first|refine chk.ga ?_|simp -dsimp[h4,z6,↓e7,↓e9])
   revert hF;refine abr.ns (fun h11 q12 hF=> ?_) (fun h11 q12 hF=> ?_)
   ·cases hF
    repeat(first|refine chk.ga ?_|simp -dsimp[h4,z6,↓e7,↓e9,h11,q12])
    refine Leave.go _ (Gh.refl _) (hq _ ?_)
    repeat(first|refine chk.ga ?_|simp -dsimp[h4,z6,↓e7,↓e9,h11,q12])
   ·have w13:IntKind.i64.wrap ((i:Int)+1)=(i:Int)+1:=wrap_in (by omega) (by omega)
    repeat(first|refine chk.ga ?_|simp -dsimp[h4,z6,↓e7,↓e9,h11,q12,w13])
    refine Again.go _ ?_ ((ih_f53 a b (i+1) o hF) _ rfl _ hq)
    exact(Gh.to3 (by simp) (by first|simp -dsimp[h4,z6,↓e7,↓e9,h11,q12,w13];done|simp_all))
  ·have z6:¬((i:Int)<(a.length:Int)):=auz
   cases hF
   repeat(first|refine chk.ga ?_|simp -dsimp[h4,q5,z6])
   refine Leave.go _ (Gh.to3 (by simp) (by first|simp -dsimp[h4,q5,z6];done|simp_all)) hq
theorem C.f55 (a:Vl.Edge)(b:Vl.Edge)(r:Bool)(hF:F.f55 a b=some r):PureCall Try.prog B 54 [.agg [.lit (.int .i64 a.ctor),.lit (.int .i64 a.n),.lit (.int .i64 a.m),.lit (.int .i64 a.to)],.agg [.lit (.int .i64 b.ctor),.lit (.int .i64 b.n),.lit (.int .i64 b.m),.lit (.int .i64 b.to)]] (.lit (.bool r)):=by
 unfold F.f55 at hF
 refine PureCall.enterLe Try.func54 (by kernel_rfl) rfl Try.ntmps54 (by simp) (by simp) ?_
 repeat(first|refine chk.ga ?_|simp -dsimp)
 revert hF;refine abr.ns ?_ ?_<;>intro h1 q2 hF
 ·cases hF
  repeat(first|refine chk.ga ?_|simp -dsimp[h1,q2])
  all_goals(try first|omega|rfl)
 ·repeat(first|refine chk.ga ?_|simp -dsimp[h1,q2])
  revert hF;refine abr.ns ?_ ?_<;>intro h3 q4 hF
  ·cases hF
   repeat(first|refine chk.ga ?_|simp -dsimp[h1,q2,h3,q4])
   all_goals(try first|omega|rfl)
  ·repeat(first|refine chk.ga ?_|simp -dsimp[h1,q2,h3,q4])
   revert hF;refine abr.ns ?_ ?_<;>intro h5 q6 hF
   ·cases hF
    repeat(first|refine chk.ga ?_|simp -dsimp[h1,q2,h3,q4,h5,q6])
    all_goals(try first|omega|rfl)
   ·repeat(first|refine chk.ga ?_|simp -dsimp[h1,q2,h3,q4,h5,q6])
    revert hF;refine abr.ns ?_ ?_<;>intro h7 q8 hF
    ·cases hF
     repeat(first|refine chk.ga ?_|simp -dsimp[h1,q2,h3,q4,h5,q6,h7,q8])
     all_goals(try first|omega|rfl)
    ·cases hF
     repeat(first|refine chk.ga ?_|simp -dsimp[h1,q2,h3,q4,h5,q6,h7,q8])
     all_goals(try first|omega|rfl)
theorem CC.f56 (a:List Vl.Edge)(b:List Vl.Edge):(∀(i:Nat) (o:Lo Bool Unit),F.f56 a b i=some o→∀(c:Code),navO [1,1,0,1,0,0] (bodyOf Try.f49)=some c→∀(Q:Exit→ASt→Prop),o.post (fun r=>∀st,Post Try.prog Try.f49 (fun r' _=>r'.le (.lit (.bool r))) .ret st→Q .ret st) (fun s=>Q (.exit 0) ⟨[],[]⟩)→ALoopU Try.prog B 0 27 (hold c .mk) ⟨[(0,.arr (List.map Vl.Edge.c a)),(1,.arr (List.map Vl.Edge.c b)),(5,.lit (.int .i64 (i:Int)))],[]⟩ (hold Q .mk)):=by
 refine F.f56.partial_correctness a b
  _
  ?_
 ·intro _f_f56 ih_f56 i o hF
  intro c hc Q hq
  obtain rfl:c=_:=navEq hc rfl
  refine ALoopU.know fun hk hs=> ?_
  have b0:=hk 0
  simp -dsimp at b0
  have b1:=hk 1
  simp -dsimp at b1
  clear hk hs
  refine ALoopU.enter ?_
  repeat(first|refine chk.ga ?_|simp -dsimp)
  revert hF;refine abr.sp ?_ ?_<;>intro h4 q5 hF
  ·have z6:((i:Int)<(a.length:Int)):=auz
   repeat(first|refine chk.ga ?_|simp -dsimp[h4,z6])
   refine ADraw.simple follows (by kernel_rfl) (by kernel_rfl) ?_
   have hF:=ob hF;obtain⟨x,e7,hF⟩:=hF
   have le7:=lt_of_get e7
   have hF:=ob hF;obtain⟨x8,e9,hF⟩:=hF
   have le9:=lt_of_get e9
   repeat(first|refine chk.ga ?_|simp -dsimp[h4,z6,↓e7,↓e9])
   have hF:=ob hF;obtain⟨v,e10,hF⟩:=hF
   refine((C.f55 B hB1 hB2 x x8 v e10)).pgoW (by first|simp[h4,z6,↓e7,↓e9];done|simp_all) (by simp) ?_
   repeat(first|refine chk.ga ?_|simp -dsimp[h4,z6,↓e7,↓e9])
   revert hF;refine abr.ns (fun h11 q12 hF=> ?_) (fun h11 q12 hF=> ?_)
   ·cases hF
    repeat(first|refine chk.ga ?_|simp -dsimp[h4,z6,↓e7,↓e9,h11,q12])
    refine Leave.go _ (Gh.refl _) (hq _ ?_)
    repeat(first|refine chk.ga ?_|simp -dsimp[h4,z6,↓e7,↓e9,h11,q12])
   ·have w13:IntKind.i64.wrap ((i:Int)+1)=(i:Int)+1:=wrap_in (by omega) (by omega)
    repeat(first|refine chk.ga ?_|simp -dsimp[h4,z6,↓e7,↓e9,h11,q12,w13])
    refine Again.go _ ?_ ((ih_f56 (i+1) o hF) _ rfl _ hq)
    exact(Gh.to3 (by simp) (by first|simp -dsimp[h4,z6,↓e7,↓e9,h11,q12,w13];done|simp_all))
  ·have z6:¬((i:Int)<(a.length:Int)):=auz
   cases hF
   repeat(first|refine chk.ga ?_|simp -dsimp[h4,q5,z6])
   refine Leave.go _ (Gh.to3 (by simp) (by first|simp -dsimp[h4,q5,z6];done|simp_all)) hq
theorem C.f57 (a:List Vl.Edge)(b:List Vl.Edge)(r:Bool)(hF:F.f57 a b=some r):PureCall Try.prog B 49 [.arr (List.map Vl.Edge.c a),.arr (List.map Vl.Edge.c b)] (.lit (.bool r)):=by
 unfold F.f57 at hF
 refine PureCall.enterLe Try.func49 (by kernel_rfl) rfl Try.ntmps49 (by simp) (by simp) ?_
 repeat(first|refine chk.ga ?_|simp -dsimp)
 revert hF;refine abr.ns ?_ ?_<;>intro h1 q2 hF
 ·have z3:¬((a.length:Int)=(b.length:Int)):=auz
  cases hF
  repeat(first|refine chk.ga ?_|simp -dsimp[h1,q2,z3])
  all_goals(try first|omega|rfl)
 ·have z3:((a.length:Int)=(b.length:Int)):=auz
  repeat(first|refine chk.ga ?_|simp -dsimp[h1,q2,z3])
  have hF:=ob hF;obtain⟨o',ho14,hF⟩:=hF
  refine ALoop.goU _ ?_ (((CC.f56 B hB1 hB2 a b) 0 o' ho14) _ rfl _ ?_)
  ·exact(Gh.to3 (by simp) (by first|simp -dsimp[h1,q2,z3];done|simp_all))
  rcases o' with r0|sx
  ·dsimp only at hF
   cases hF
   intro st h
   simpa using h
  ·dsimp only at hF
   cases hF
   repeat(first|refine chk.ga ?_|simp -dsimp)
   all_goals(try first|omega|rfl)
theorem C.f58 (a:Vl.Node)(b:Vl.Node)(r:Bool)(hF:F.f58 a b=some r):PureCall Try.prog B 24 [.agg [.lit (.int .i64 a.op),.lit (.int .i64 a.clause),.arr (List.map Vl.PathBind.c a.binds),.arr (List.map cI a.path),.arr (List.map Vl.Edge.c a.edges),.lit (.int .i64 a.els)],.agg [.lit (.int .i64 b.op),.lit (.int .i64 b.clause),.arr (List.map Vl.PathBind.c b.binds),.arr (List.map cI b.path),.arr (List.map Vl.Edge.c b.edges),.lit (.int .i64 b.els)]] (.lit (.bool r)):=by
 unfold F.f58 at hF
 refine PureCall.enterLe Try.func24 (by kernel_rfl) rfl Try.ntmps24 (by simp) (by simp) ?_
 repeat(first|refine chk.ga ?_|simp -dsimp)
 revert hF;refine abr.ns ?_ ?_<;>intro h1 q2 hF
 ·cases hF
  repeat(first|refine chk.ga ?_|simp -dsimp[h1,q2])
  all_goals(try first|omega|rfl)
 ·repeat(first|refine chk.ga ?_|simp -dsimp[h1,q2])
  revert hF;refine abr.ns ?_ ?_<;>intro h3 q4 hF
  ·cases hF
   repeat(first|refine chk.ga ?_|simp -dsimp[h1,q2,h3,q4])
   all_goals(try first|omega|rfl)
  ·repeat(first|refine chk.ga ?_|simp -dsimp[h1,q2,h3,q4])
   have hF:=ob hF;obtain⟨v,e5,hF⟩:=hF
   refine((C.f48 B hB1 hB2 a.binds b.binds v e5)).goW (by first|simp[h1,q2,h3,q4];done|simp_all) (by simp) ?_
   repeat(first|refine chk.ga ?_|simp -dsimp[h1,q2,h3,q4])
   revert hF;refine abr.ns (fun h6 q7 hF=> ?_) (fun h6 q7 hF=> ?_)
   ·cases hF
    repeat(first|refine chk.ga ?_|simp -dsimp[h1,q2,h3,q4,h6,q7])
    all_goals(try first|omega|rfl)
   ·repeat(first|refine chk.ga ?_|simp -dsimp[h1,q2,h3,q4,h6,q7])
    have hF:=ob hF;obtain⟨v8,e9,hF⟩:=hF
    refine((C.f45 B hB1 hB2 a.path b.path v8 e9)).goW (by first|simp[h1,q2,h3,q4,h6,q7];done|simp_all) (by simp) ?_
    repeat(first|refine chk.ga ?_|simp -dsimp[h1,q2,h3,q4,h6,q7])
    revert hF;refine abr.ns (fun h10 q11 hF=> ?_) (fun h10 q11 hF=> ?_)
    ·cases hF
     repeat(first|refine chk.ga ?_|simp -dsimp[h1,q2,h3,q4,h6,q7,h10,q11])
     all_goals(try first|omega|rfl)
    ·repeat(first|refine chk.ga ?_|simp -dsimp[h1,q2,h3,q4,h6,q7,h10,q11])
     have hF:=ob hF;obtain⟨v12,e13,hF⟩:=hF
     refine((C.f57 B hB1 hB2 a.edges b.edges v12 e13)).goW (by first|simp[h1,q2,h3,q4,h6,q7,h10,q11];done|simp_all) (by simp) ?_
     repeat(first|refine chk.ga ?_|simp -dsimp[h1,q2,h3,q4,h6,q7,h10,q11])
     revert hF;refine abr.ns (fun h14 q15 hF=> ?_) (fun h14 q15 hF=> ?_)
     ·cases hF
      repeat(first|refine chk.ga ?_|simp -dsimp[h1,q2,h3,q4,h6,q7,h10,q11,h14,q15])
      all_goals(try first|omega|rfl)
     ·repeat(first|refine chk.ga ?_|simp -dsimp[h1,q2,h3,q4,h6,q7,h10,q11,h14,q15])
      revert hF;refine abr.ns ?_ ?_<;>intro h16 q17 hF
      ·cases hF
       repeat(first|refine chk.ga ?_|simp -dsimp[h1,q2,h3,q4,h6,q7,h10,q11,h14,q15,h16,q17])
       all_goals(try first|omega|rfl)
      ·cases hF
       repeat(first|refine chk.ga ?_|simp -dsimp[h1,q2,h3,q4,h6,q7,h10,q11,h14,q15,h16,q17])
       all_goals(try first|omega|rfl)
theorem CC.f59 (a:List Vl.Node)(b:List Vl.Node):(∀(i:Nat) (o:Lo Bool Unit),F.f59 a b i=some o→∀(c:Code),navO [1,1,0,1,0,0] (bodyOf Try.f9)=some c→∀(Q:Exit→ASt→Prop),o.post (fun r=>∀st,Post Try.prog Try.f9 (fun r' _=>r'.le (.lit (.bool r))) .ret st→Q .ret st) (fun s=>Q (.exit 0) ⟨[],[]⟩)→ALoopU Try.prog B 0 27 (hold c .mk) ⟨[(0,.arr (List.map Vl.Node.c a)),(1,.arr (List.map Vl.Node.c b)),(5,.lit (.int .i64 (i:Int)))],[]⟩ (hold Q .mk)):=by
 refine F.f59.partial_correctness a b
  _
  ?_
 ·intro _f_f59 ih_f59 i o hF
  intro c hc Q hq
  obtain rfl:c=_:=navEq hc rfl
  refine ALoopU.know fun hk hs=> ?_
  have b0:=hk 0
  simp -dsimp at b0
  have b1:=hk 1
  simp -dsimp at b1
  clear hk hs
  refine ALoopU.enter ?_
  repeat(first|refine chk.ga ?_|simp -dsimp)
  revert hF;refine abr.sp ?_ ?_<;>intro h4 q5 hF
  ·have z6:((i:Int)<(a.length:Int)):=auz
   repeat(first|refine chk.ga ?_|simp -dsimp[h4,z6])
   refine ADraw.simple follows (by kernel_rfl) (by kernel_rfl) ?_
   have hF:=ob hF;obtain⟨x,e7,hF⟩:=hF
   have le7:=lt_of_get e7
   have hF:=ob hF;obtain⟨x8,e9,hF⟩:=hF
   have le9:=lt_of_get e9
   repeat(first|refine chk.ga ?_|simp -dsimp[h4,z6,↓e7,↓e9])
   have hF:=ob hF;obtain⟨v,e10,hF⟩:=hF
   refine((C.f58 B hB1 hB2 x x8 v e10)).pgoW (by first|simp[h4,z6,↓e7,↓e9];done|simp_all) (by simp) ?_
   repeat(first|refine chk.ga ?_|simp -dsimp[h4,z6,↓e7,↓e9])
   revert hF;refine abr.ns (fun h11 q12 hF=> ?_) (fun h11 q12 hF=> ?_)
   ·cases hF
    repeat(first|refine chk.ga ?_|simp -dsimp[h4,z6,↓e7,↓e9,h11,q12])
    refine Leave.go _ (Gh.refl _) (hq _ ?_)
    repeat(first|refine chk.ga ?_|simp -dsimp[h4,z6,↓e7,↓e9,h11,q12])
   ·have w13:IntKind.i64.wrap ((i:Int)+1)=(i:Int)+1:=wrap_in (by omega) (by omega)
    repeat(first|refine chk.ga ?_|simp -dsimp[h4,z6,↓e7,↓e9,h11,q12,w13])
    refine Again.go _ ?_ ((ih_f59 (i+1) o hF) _ rfl _ hq)
    exact(Gh.to3 (by simp) (by first|simp -dsimp[h4,z6,↓e7,↓e9,h11,q12,w13];done|simp_all))
  ·have z6:¬((i:Int)<(a.length:Int)):=auz
   cases hF
   repeat(first|refine chk.ga ?_|simp -dsimp[h4,q5,z6])
   refine Leave.go _ (Gh.to3 (by simp) (by first|simp -dsimp[h4,q5,z6];done|simp_all)) hq
theorem C.f60 (a:List Vl.Node)(b:List Vl.Node)(r:Bool)(hF:F.f60 a b=some r):PureCall Try.prog B 9 [.arr (List.map Vl.Node.c a),.arr (List.map Vl.Node.c b)] (.lit (.bool r)):=by
 unfold F.f60 at hF
 refine PureCall.enterLe Try.func9 (by kernel_rfl) rfl Try.ntmps9 (by simp) (by simp) ?_
 repeat(first|refine chk.ga ?_|simp -dsimp)
 revert hF;refine abr.ns ?_ ?_<;>intro h1 q2 hF
 ·have z3:¬((a.length:Int)=(b.length:Int)):=auz
  cases hF
  repeat(first|refine chk.ga ?_|simp -dsimp[h1,q2,z3])
  all_goals(try first|omega|rfl)
 ·have z3:((a.length:Int)=(b.length:Int)):=auz
  repeat(first|refine chk.ga ?_|simp -dsimp[h1,q2,z3])
  have hF:=ob hF;obtain⟨o',ho14,hF⟩:=hF
  refine ALoop.goU _ ?_ (((CC.f59 B hB1 hB2 a b) 0 o' ho14) _ rfl _ ?_)
  ·exact(Gh.to3 (by simp) (by first|simp -dsimp[h1,q2,z3];done|simp_all))
  rcases o' with r0|sx
  ·dsimp only at hF
   cases hF
   intro st h
   simpa using h
  ·dsimp only at hF
   cases hF
   repeat(first|refine chk.ga ?_|simp -dsimp)
   all_goals(try first|omega|rfl)
theorem CC.f61 (a:List Int):(∀(k1:Int) (i:Nat) (o:Lo Int Int),F.f61 a k1 i=some o→∀(c:Code),navO [1,0,1,0,0] (bodyOf Try.f31)=some c→∀(Q:Exit→ASt→Prop),o.post (fun r=>∀st,Post Try.prog Try.f31 (fun r' _=>r'.le (.lit (.int .i64 r))) .ret st→Q .ret st) (fun s=>Q (.exit 0) ⟨[(1,.lit (.int .i64 s))],[]⟩)→ALoopU Try.prog B 0 21 (hold c .mk) ⟨[(0,.arr (List.map cI a)),(1,.lit (.int .i64 k1)),(5,.lit (.int .i64 (i:Int)))],[]⟩ (hold Q .mk)):=by
 refine F.f61.partial_correctness a
  _
  ?_
 ·intro _f_f61 ih_f61 k1 i o hF
  intro c hc Q hq
  obtain rfl:c=_:=navEq hc rfl
  refine ALoopU.know fun hk hs=> ?_
  have b0:=hk 0
  simp -dsimp at b0
  clear hk hs
  refine ALoopU.enter ?_
  repeat(first|refine chk.ga ?_|simp -dsimp)
  revert hF;refine abr.sp ?_ ?_<;>intro h2 q3 hF
  ·have z4:((i:Int)<(a.length:Int)):=auz
   have hF:=ob hF;obtain⟨x,e5,hF⟩:=hF
   have le5:=lt_of_get e5
   repeat(first|refine chk.ga ?_|simp -dsimp[h2,z4,↓e5])
   revert hF;refine abr.ns ?_ ?_<;>intro h6 q7 hF
   ·cases hF
    repeat(first|refine chk.ga ?_|simp -dsimp[h2,z4,↓e5,h6,q7])
    refine Leave.go _ (Gh.refl _) (hq _ ?_)
    repeat(first|refine chk.ga ?_|simp -dsimp[h2,z4,↓e5,h6,q7])
   ·have w8:IntKind.i64.wrap ((i:Int)+1)=(i:Int)+1:=wrap_in (by omega) (by omega)
    repeat(first|refine chk.ga ?_|simp -dsimp[h2,z4,↓e5,h6,q7,w8])
    refine Again.go _ ?_ ((ih_f61 (IntKind.i64.wrap (k1+1)) (i+1) o hF) _ rfl _ hq)
    exact(Gh.to3 (by simp) (by first|simp -dsimp[h2,z4,↓e5,h6,q7,w8];done|simp_all))
  ·have z4:¬((i:Int)<(a.length:Int)):=auz
   cases hF
   repeat(first|refine chk.ga ?_|simp -dsimp[h2,q3,z4])
   refine Leave.go _ (Gh.to3 (by simp) (by first|simp -dsimp[h2,q3,z4];done|simp_all)) hq
theorem C.f62 (a:List Int)(k:Int)(r:Int)(hF:F.f62 a k=some r):PureCall Try.prog B 31 [.arr (List.map cI a),.lit (.int .i64 k)] (.lit (.int .i64 r)):=by
 unfold F.f62 at hF
 refine PureCall.enterLe Try.func31 (by kernel_rfl) rfl Try.ntmps31 (by simp) (by simp) ?_
 repeat(first|refine chk.ga ?_|simp -dsimp)
 have hF:=ob hF;obtain⟨o',ho9,hF⟩:=hF
 refine ALoop.goU _ ?_ (((CC.f61 B hB1 hB2 a) k 0 o' ho9) _ rfl _ ?_)
 ·exact(Gh.to3 (by simp) (by simp -dsimp))
 rcases o' with r0|sx
 ·dsimp only at hF
  cases hF
  intro st h
  simpa using h
 ·dsimp only at hF
  cases hF
  repeat(first|refine chk.ga ?_|simp -dsimp)
  all_goals(try first|omega|rfl)
theorem CC.f63 (a:List Vl.PathBind):(∀(k1:Int) (i:Nat) (o:Lo Int Int),F.f63 a k1 i=some o→∀(c:Code),navO [1,0,1,0,0] (bodyOf Try.f30)=some c→∀(Q:Exit→ASt→Prop),o.post (fun r=>∀st,Post Try.prog Try.f30 (fun r' _=>r'.le (.lit (.int .i64 r))) .ret st→Q .ret st) (fun s=>Q (.exit 0) ⟨[(1,.lit (.int .i64 s))],[]⟩)→ALoopU Try.prog B 0 31 (hold c .mk) ⟨[(0,.arr (List.map Vl.PathBind.c a)),(1,.lit (.int .i64 k1)),(5,.lit (.int .i64 (i:Int)))],[]⟩ (hold Q .mk)):=by
 refine F.f63.partial_correctness a
  _
  ?_
 ·intro _f_f63 ih_f63 k1 i o hF
  intro c hc Q hq
  obtain rfl:c=_:=navEq hc rfl
  refine ALoopU.know fun hk hs=> ?_
  have b0:=hk 0
  simp -dsimp at b0
  clear hk hs
  refine ALoopU.enter ?_
  repeat(first|refine chk.ga ?_|simp -dsimp)
  revert hF;refine abr.sp ?_ ?_<;>intro h2 q3 hF
  ·have z4:((i:Int)<(a.length:Int)):=auz
   have hF:=ob hF;obtain⟨x,e5,hF⟩:=hF
   have le5:=lt_of_get e5
   repeat(first|refine chk.ga ?_|simp -dsimp[h2,z4,↓e5])
   revert hF;refine abr.ns ?_ ?_<;>intro h6 q7 hF
   ·cases hF
    repeat(first|refine chk.ga ?_|simp -dsimp[h2,z4,↓e5,h6,q7])
    refine Leave.go _ (Gh.refl _) (hq _ ?_)
    repeat(first|refine chk.ga ?_|simp -dsimp[h2,z4,↓e5,h6,q7])
   ·repeat(first|refine chk.ga ?_|simp -dsimp[h2,z4,↓e5,h6,q7])
    have hF:=ob hF;obtain⟨v,e8,hF⟩:=hF
    refine((C.f62 B hB1 hB2 x.path (IntKind.i64.wrap (k1+1)) v e8)).goW (by first|simp[h2,z4,↓e5,h6,q7];done|simp_all) (by simp) ?_
    repeat(first|refine chk.ga ?_|simp -dsimp[h2,z4,↓e5,h6,q7])
    revert hF;refine abr.sp ?_ ?_<;>intro h9 q10 hF
    ·cases hF
     repeat(first|refine chk.ga ?_|simp -dsimp[h2,z4,↓e5,h6,q7,h9])
     refine Leave.go _ (Gh.refl _) (hq _ ?_)
     repeat(first|refine chk.ga ?_|simp -dsimp[h2,z4,↓e5,h6,q7,h9])
    ·have w11:IntKind.i64.wrap ((i:Int)+1)=(i:Int)+1:=wrap_in (by omega) (by omega)
     repeat(first|refine chk.ga ?_|simp -dsimp[h2,z4,↓e5,h6,q7,h9,q10,w11])
     refine Again.go _ ?_ ((ih_f63 v (i+1) o hF) _ rfl _ hq)
     exact(Gh.to3 (by simp) (by first|simp -dsimp[h2,z4,↓e5,h6,q7,h9,q10,w11];done|simp_all))
  ·have z4:¬((i:Int)<(a.length:Int)):=auz
   cases hF
   repeat(first|refine chk.ga ?_|simp -dsimp[h2,q3,z4])
   refine Leave.go _ (Gh.to3 (by simp) (by first|simp -dsimp[h2,q3,z4];done|simp_all)) hq
theorem C.f64 (a:List Vl.PathBind)(k:Int)(r:Int)(hF:F.f64 a k=some r):PureCall Try.prog B 30 [.arr (List.map Vl.PathBind.c a),.lit (.int .i64 k)] (.lit (.int .i64 r)):=by
 unfold F.f64 at hF
 refine PureCall.enterLe Try.func30 (by kernel_rfl) rfl Try.ntmps30 (by simp) (by simp) ?_
 repeat(first|refine chk.ga ?_|simp -dsimp)
 have hF:=ob hF;obtain⟨o',ho12,hF⟩:=hF
 refine ALoop.goU _ ?_ (((CC.f63 B hB1 hB2 a) k 0 o' ho12) _ rfl _ ?_)
 ·exact(Gh.to3 (by simp) (by simp -dsimp))
 rcases o' with r0|sx
 ·dsimp only at hF
  cases hF
  intro st h
  simpa using h
 ·dsimp only at hF
  cases hF
  repeat(first|refine chk.ga ?_|simp -dsimp)
  all_goals(try first|omega|rfl)
theorem CC.f65  :(∀(a:List Vl.Branch) (k:Int) (r:Int),F.f65 a k=some r→PureCall Try.prog B 32 [.arr (List.map Vl.Branch.c a),.lit (.int .i64 k)] (.lit (.int .i64 r)))∧
  (∀(a:List Vl.Branch) (k1:Int) (i:Nat) (o:Lo Int Int),F.f67 a k1 i=some o→∀(c:Code),navO [1,0,1,0,0] (bodyOf Try.f32)=some c→∀(Q:Exit→ASt→Prop),o.post (fun r=>∀st,Post Try.prog Try.f32 (fun r' _=>r'.le (.lit (.int .i64 r))) .ret st→Q .ret st) (fun s=>Q (.exit 0) ⟨[(1,.lit (.int .i64 s))],[]⟩)→ALoopU Try.prog B 0 100 (hold c .mk) ⟨[(0,.arr (List.map Vl.Branch.c a)),(1,.lit (.int .i64 k1)),(5,.lit (.int .i64 (i:Int)))],[]⟩ (hold Q .mk))∧
  (∀(a:List Vl.Tree) (k:Int) (r:Int),F.f66 a k=some r→PureCall Try.prog B 33 [.arr (List.map Vl.Tree.c a),.lit (.int .i64 k)] (.lit (.int .i64 r)))∧
  (∀(a:List Vl.Tree) (k1:Int) (i:Nat) (o:Lo Int Int),F.f68 a k1 i=some o→∀(c:Code),navO [1,0,1,0,0] (bodyOf Try.f33)=some c→∀(Q:Exit→ASt→Prop),o.post (fun r=>∀st,Post Try.prog Try.f33 (fun r' _=>r'.le (.lit (.int .i64 r))) .ret st→Q .ret st) (fun s=>Q (.exit 0) ⟨[(1,.lit (.int .i64 s))],[]⟩)→ALoopU Try.prog B 0 67 (hold c .mk) ⟨[(0,.arr (List.map Vl.Tree.c a)),(1,.lit (.int .i64 k1)),(5,.lit (.int .i64 (i:Int)))],[]⟩ (hold Q .mk)):=by
 refine F.f65.mutual_partial_correctness 
  _ _ _ _
  ?_ ?_ ?_ ?_
 ·intro _f_f67 ih_f67 a k r hF
  refine PureCall.enterLe Try.func32 (by kernel_rfl) rfl Try.ntmps32 (by simp) (by simp) ?_
  repeat(first|refine chk.ga ?_|simp -dsimp)
  have hF:=ob hF;obtain⟨o',ho32,hF⟩:=hF
  refine ALoop.goU _ ?_ ((ih_f67 a k 0 o' ho32) _ rfl _ ?_)
  ·exact(Gh.to3 (by simp) (by simp -dsimp))
  rcases o' with r0|sx
  ·dsimp only at hF
   cases hF
   intro st h
   simpa using h
  ·dsimp only at hF
   cases hF
   repeat(first|refine chk.ga ?_|simp -dsimp)
   all_goals(try first|omega|rfl)
 ·intro _f_f65 _f_f67 _f_f66 ih_f65 ih_f67 ih_f66 a k1 i o hF
  intro c hc Q hq
  obtain rfl:c=_:=navEq hc rfl
  refine ALoopU.know fun hk hs=> ?_
  have b0:=hk 0
  simp -dsimp at b0
  clear hk hs
  refine ALoopU.enter ?_
  repeat(first|refine chk.ga ?_|simp -dsimp)
  revert hF;refine abr.sp ?_ ?_<;>intro h2 q3 hF
  ·have z4:((i:Int)<(a.length:Int)):=auz
   have hF:=ob hF;obtain⟨x,e5,hF⟩:=hF
   have le5:=lt_of_get e5
   repeat(first|refine chk.ga ?_|simp -dsimp[h2,z4,↓e5])
   revert hF;refine abr.ns ?_ ?_<;>intro h6 q7 hF
   ·cases hF
    repeat(first|refine chk.ga ?_|simp -dsimp[h2,z4,↓e5,h6,q7])
    refine Leave.go _ (Gh.refl _) (hq _ ?_)
    repeat(first|refine chk.ga ?_|simp -dsimp[h2,z4,↓e5,h6,q7])
   ·repeat(first|refine chk.ga ?_|simp -dsimp[h2,z4,↓e5,h6,q7])
    revert hF;refine abr.ns ?_ ?_<;>intro h8 q9 hF
    ·cases hF
     repeat(first|refine chk.ga ?_|simp -dsimp[h2,z4,↓e5,h6,q7,h8,q9])
     refine Leave.go _ (Gh.refl _) (hq _ ?_)
     repeat(first|refine chk.ga ?_|simp -dsimp[h2,z4,↓e5,h6,q7,h8,q9])
    ·repeat(first|refine chk.ga ?_|simp -dsimp[h2,z4,↓e5,h6,q7,h8,q9])
     revert hF;refine abr.ns ?_ ?_<;>intro h10 q11 hF
     ·cases hF
      repeat(first|refine chk.ga ?_|simp -dsimp[h2,z4,↓e5,h6,q7,h8,q9,h10,q11])
      refine Leave.go _ (Gh.refl _) (hq _ ?_)
      repeat(first|refine chk.ga ?_|simp -dsimp[h2,z4,↓e5,h6,q7,h8,q9,h10,q11])
     ·repeat(first|refine chk.ga ?_|simp -dsimp[h2,z4,↓e5,h6,q7,h8,q9,h10,q11])
      revert hF;refine abr.ns ?_ ?_<;>intro h12 q13 hF
      ·cases hF
       repeat(first|refine chk.ga ?_|simp -dsimp[h2,z4,↓e5,h6,q7,h8,q9,h10,q11,h12,q13])
       refine Leave.go _ (Gh.refl _) (hq _ ?_)
       repeat(first|refine chk.ga ?_|simp -dsimp[h2,z4,↓e5,h6,q7,h8,q9,h10,q11,h12,q13])
      ·repeat(first|refine chk.ga ?_|simp -dsimp[h2,z4,↓e5,h6,q7,h8,q9,h10,q11,h12,q13])
       revert hF;refine abr.ns ?_ ?_<;>intro h14 q15 hF
       ·cases hF
        repeat(first|refine chk.ga ?_|simp -dsimp[h2,z4,↓e5,h6,q7,h8,q9,h10,q11,h12,q13,h14,q15])
        refine Leave.go _ (Gh.refl _) (hq _ ?_)
        repeat(first|refine chk.ga ?_|simp -dsimp[h2,z4,↓e5,h6,q7,h8,q9,h10,q11,h12,q13,h14,q15])
       ·repeat(first|refine chk.ga ?_|simp -dsimp[h2,z4,↓e5,h6,q7,h8,q9,h10,q11,h12,q13,h14,q15])
        have hF:=ob hF;obtain⟨v,e16,hF⟩:=hF
        refine((C.f64 B hB1 hB2 x.tree.binds (IntKind.i64.wrap (IntKind.i64.wrap (IntKind.i64.wrap (IntKind.i64.wrap (IntKind.i64.wrap (k1+1)+1)+1)+1)+1)) v e16)).goW (by first|simp[h2,z4,↓e5,h6,q7,h8,q9,h10,q11,h12,q13,h14,q15];done|simp_all) (by simp) ?_
        repeat(first|refine chk.ga ?_|simp -dsimp[h2,z4,↓e5,h6,q7,h8,q9,h10,q11,h12,q13,h14,q15])
        revert hF;refine abr.sp ?_ ?_<;>intro h17 q18 hF
        ·cases hF
         repeat(first|refine chk.ga ?_|simp -dsimp[h2,z4,↓e5,h6,q7,h8,q9,h10,q11,h12,q13,h14,q15,h17])
         refine Leave.go _ (Gh.refl _) (hq _ ?_)
         repeat(first|refine chk.ga ?_|simp -dsimp[h2,z4,↓e5,h6,q7,h8,q9,h10,q11,h12,q13,h14,q15,h17])
        ·repeat(first|refine chk.ga ?_|simp -dsimp[h2,z4,↓e5,h6,q7,h8,q9,h10,q11,h12,q13,h14,q15,h17,q18])
         have hF:=ob hF;obtain⟨v19,e20,hF⟩:=hF
         refine((C.f62 B hB1 hB2 x.tree.path v v19 e20)).goW (by first|simp[h2,z4,↓e5,h6,q7,h8,q9,h10,q11,h12,q13,h14,q15,h17,q18];done|simp_all) (by simp) ?_
         repeat(first|refine chk.ga ?_|simp -dsimp[h2,z4,↓e5,h6,q7,h8,q9,h10,q11,h12,q13,h14,q15,h17,q18])
         revert hF;refine abr.sp ?_ ?_<;>intro h21 q22 hF
         ·cases hF
          repeat(first|refine chk.ga ?_|simp -dsimp[h2,z4,↓e5,h6,q7,h8,q9,h10,q11,h12,q13,h14,q15,h17,q18,h21])
          refine Leave.go _ (Gh.refl _) (hq _ ?_)
          repeat(first|refine chk.ga ?_|simp -dsimp[h2,z4,↓e5,h6,q7,h8,q9,h10,q11,h12,q13,h14,q15,h17,q18,h21])
         ·repeat(first|refine chk.ga ?_|simp -dsimp[h2,z4,↓e5,h6,q7,h8,q9,h10,q11,h12,q13,h14,q15,h17,q18,h21,q22])
          have hF:=ob hF;obtain⟨v23,e24,hF⟩:=hF
          refine((ih_f65 x.tree.branches v19 v23 e24)).goW (by first|simp[h2,z4,↓e5,h6,q7,h8,q9,h10,q11,h12,q13,h14,q15,h17,q18,h21,q22];done|simp_all) (by simp) ?_
          repeat(first|refine chk.ga ?_|simp -dsimp[h2,z4,↓e5,h6,q7,h8,q9,h10,q11,h12,q13,h14,q15,h17,q18,h21,q22])
          revert hF;refine abr.sp ?_ ?_<;>intro h25 q26 hF
          ·cases hF
           repeat(first|refine chk.ga ?_|simp -dsimp[h2,z4,↓e5,h6,q7,h8,q9,h10,q11,h12,q13,h14,q15,h17,q18,h21,q22,h25])
           refine Leave.go _ (Gh.refl _) (hq _ ?_)
           repeat(first|refine chk.ga ?_|simp -dsimp[h2,z4,↓e5,h6,q7,h8,q9,h10,q11,h12,q13,h14,q15,h17,q18,h21,q22,h25])
          ·repeat(first|refine chk.ga ?_|simp -dsimp[h2,z4,↓e5,h6,q7,h8,q9,h10,q11,h12,q13,h14,q15,h17,q18,h21,q22,h25,q26])
           have hF:=ob hF;obtain⟨v27,e28,hF⟩:=hF
           refine((ih_f66 x.tree.els v23 v27 e28)).goW (by first|simp[h2,z4,↓e5,h6,q7,h8,q9,h10,q11,h12,q13,h14,q15,h17,q18,h21,q22,h25,q26];done|simp_all) (by simp) ?_
           repeat(first|refine chk.ga ?_|simp -dsimp[h2,z4,↓e5,h6,q7,h8,q9,h10,q11,h12,q13,h14,q15,h17,q18,h21,q22,h25,q26])
           revert hF;refine abr.sp ?_ ?_<;>intro h29 q30 hF
           ·cases hF
            repeat(first|refine chk.ga ?_|simp -dsimp[h2,z4,↓e5,h6,q7,h8,q9,h10,q11,h12,q13,h14,q15,h17,q18,h21,q22,h25,q26,h29])
            refine Leave.go _ (Gh.refl _) (hq _ ?_)
            repeat(first|refine chk.ga ?_|simp -dsimp[h2,z4,↓e5,h6,q7,h8,q9,h10,q11,h12,q13,h14,q15,h17,q18,h21,q22,h25,q26,h29])
           ·have w31:IntKind.i64.wrap ((i:Int)+1)=(i:Int)+1:=wrap_in (by omega) (by omega)
            repeat(first|refine chk.ga ?_|simp -dsimp[h2,z4,↓e5,h6,q7,h8,q9,h10,q11,h12,q13,h14,q15,h17,q18,h21,q22,h25,q26,h29,q30,w31])
            refine Again.go _ ?_ ((ih_f67 a v27 (i+1) o hF) _ rfl _ hq)
            exact(Gh.to3 (by simp) (by first|simp -dsimp[h2,z4,↓e5,h6,q7,h8,q9,h10,q11,h12,q13,h14,q15,h17,q18,h21,q22,h25,q26,h29,q30,w31];done|simp_all))
  ·have z4:¬((i:Int)<(a.length:Int)):=auz
   cases hF
   repeat(first|refine chk.ga ?_|simp -dsimp[h2,q3,z4])
   refine Leave.go _ (Gh.to3 (by simp) (by first|simp -dsimp[h2,q3,z4];done|simp_all)) hq
 ·intro _f_f68 ih_f68 a k r hF
  refine PureCall.enterLe Try.func33 (by kernel_rfl) rfl Try.ntmps33 (by simp) (by simp) ?_
  repeat(first|refine chk.ga ?_|simp -dsimp)
  have hF:=ob hF;obtain⟨o',ho26,hF⟩:=hF
  refine ALoop.goU _ ?_ ((ih_f68 a k 0 o' ho26) _ rfl _ ?_)
  ·exact(Gh.to3 (by simp) (by simp -dsimp))
  rcases o' with r0|sx
  ·dsimp only at hF
   cases hF
   intro st h
   simpa using h
  ·dsimp only at hF
   cases hF
   repeat(first|refine chk.ga ?_|simp -dsimp)
   all_goals(try first|omega|rfl)
 ·intro _f_f65 _f_f66 _f_f68 ih_f65 ih_f66 ih_f68 a k1 i o hF
  intro c hc Q hq
  obtain rfl:c=_:=navEq hc rfl
  refine ALoopU.know fun hk hs=> ?_
  have b0:=hk 0
  simp -dsimp at b0
  clear hk hs
  refine ALoopU.enter ?_
  repeat(first|refine chk.ga ?_|simp -dsimp)
  revert hF;refine abr.sp ?_ ?_<;>intro h2 q3 hF
  ·have z4:((i:Int)<(a.length:Int)):=auz
   have hF:=ob hF;obtain⟨x,e5,hF⟩:=hF
   have le5:=lt_of_get e5
   repeat(first|refine chk.ga ?_|simp -dsimp[h2,z4,↓e5])
   revert hF;refine abr.ns ?_ ?_<;>intro h6 q7 hF
   ·cases hF
    repeat(first|refine chk.ga ?_|simp -dsimp[h2,z4,↓e5,h6,q7])
    refine Leave.go _ (Gh.refl _) (hq _ ?_)
    repeat(first|refine chk.ga ?_|simp -dsimp[h2,z4,↓e5,h6,q7])
   ·repeat(first|refine chk.ga ?_|simp -dsimp[h2,z4,↓e5,h6,q7])
    revert hF;refine abr.ns ?_ ?_<;>intro h8 q9 hF
    ·cases hF
     repeat(first|refine chk.ga ?_|simp -dsimp[h2,z4,↓e5,h6,q7,h8,q9])
     refine Leave.go _ (Gh.refl _) (hq _ ?_)
     repeat(first|refine chk.ga ?_|simp -dsimp[h2,z4,↓e5,h6,q7,h8,q9])
    ·repeat(first|refine chk.ga ?_|simp -dsimp[h2,z4,↓e5,h6,q7,h8,q9])
     have hF:=ob hF;obtain⟨v,e10,hF⟩:=hF
     refine((C.f64 B hB1 hB2 x.binds (IntKind.i64.wrap (IntKind.i64.wrap (k1+1)+1)) v e10)).goW (by first|simp[h2,z4,↓e5,h6,q7,h8,q9];done|simp_all) (by simp) ?_
     repeat(first|refine chk.ga ?_|simp -dsimp[h2,z4,↓e5,h6,q7,h8,q9])
     revert hF;refine abr.sp ?_ ?_<;>intro h11 q12 hF
     ·cases hF
      repeat(first|refine chk.ga ?_|simp -dsimp[h2,z4,↓e5,h6,q7,h8,q9,h11])
      refine Leave.go _ (Gh.refl _) (hq _ ?_)
      repeat(first|refine chk.ga ?_|simp -dsimp[h2,z4,↓e5,h6,q7,h8,q9,h11])
     ·repeat(first|refine chk.ga ?_|simp -dsimp[h2,z4,↓e5,h6,q7,h8,q9,h11,q12])
      have hF:=ob hF;obtain⟨v13,e14,hF⟩:=hF
      refine((C.f62 B hB1 hB2 x.path v v13 e14)).goW (by first|simp[h2,z4,↓e5,h6,q7,h8,q9,h11,q12];done|simp_all) (by simp) ?_
      repeat(first|refine chk.ga ?_|simp -dsimp[h2,z4,↓e5,h6,q7,h8,q9,h11,q12])
      revert hF;refine abr.sp ?_ ?_<;>intro h15 q16 hF
      ·cases hF
       repeat(first|refine chk.ga ?_|simp -dsimp[h2,z4,↓e5,h6,q7,h8,q9,h11,q12,h15])
       refine Leave.go _ (Gh.refl _) (hq _ ?_)
       repeat(first|refine chk.ga ?_|simp -dsimp[h2,z4,↓e5,h6,q7,h8,q9,h11,q12,h15])
      ·repeat(first|refine chk.ga ?_|simp -dsimp[h2,z4,↓e5,h6,q7,h8,q9,h11,q12,h15,q16])
       have hF:=ob hF;obtain⟨v17,e18,hF⟩:=hF
       refine((ih_f65 x.branches v13 v17 e18)).goW (by first|simp[h2,z4,↓e5,h6,q7,h8,q9,h11,q12,h15,q16];done|simp_all) (by simp) ?_
       repeat(first|refine chk.ga ?_|simp -dsimp[h2,z4,↓e5,h6,q7,h8,q9,h11,q12,h15,q16])
       revert hF;refine abr.sp ?_ ?_<;>intro h19 q20 hF
       ·cases hF
        repeat(first|refine chk.ga ?_|simp -dsimp[h2,z4,↓e5,h6,q7,h8,q9,h11,q12,h15,q16,h19])
        refine Leave.go _ (Gh.refl _) (hq _ ?_)
        repeat(first|refine chk.ga ?_|simp -dsimp[h2,z4,↓e5,h6,q7,h8,q9,h11,q12,h15,q16,h19])
       ·repeat(first|refine chk.ga ?_|simp -dsimp[h2,z4,↓e5,h6,q7,h8,q9,h11,q12,h15,q16,h19,q20])
        have hF:=ob hF;obtain⟨v21,e22,hF⟩:=hF
        refine((ih_f66 x.els v17 v21 e22)).goW (by first|simp[h2,z4,↓e5,h6,q7,h8,q9,h11,q12,h15,q16,h19,q20];done|simp_all) (by simp) ?_
        repeat(first|refine chk.ga ?_|simp -dsimp[h2,z4,↓e5,h6,q7,h8,q9,h11,q12,h15,q16,h19,q20])
        revert hF;refine abr.sp ?_ ?_<;>intro h23 q24 hF
        ·cases hF
         repeat(first|refine chk.ga ?_|simp -dsimp[h2,z4,↓e5,h6,q7,h8,q9,h11,q12,h15,q16,h19,q20,h23])
         refine Leave.go _ (Gh.refl _) (hq _ ?_)
         repeat(first|refine chk.ga ?_|simp -dsimp[h2,z4,↓e5,h6,q7,h8,q9,h11,q12,h15,q16,h19,q20,h23])
        ·have w25:IntKind.i64.wrap ((i:Int)+1)=(i:Int)+1:=wrap_in (by omega) (by omega)
         repeat(first|refine chk.ga ?_|simp -dsimp[h2,z4,↓e5,h6,q7,h8,q9,h11,q12,h15,q16,h19,q20,h23,q24,w25])
         refine Again.go _ ?_ ((ih_f68 a v21 (i+1) o hF) _ rfl _ hq)
         exact(Gh.to3 (by simp) (by first|simp -dsimp[h2,z4,↓e5,h6,q7,h8,q9,h11,q12,h15,q16,h19,q20,h23,q24,w25];done|simp_all))
  ·have z4:¬((i:Int)<(a.length:Int)):=auz
   cases hF
   repeat(first|refine chk.ga ?_|simp -dsimp[h2,q3,z4])
   refine Leave.go _ (Gh.to3 (by simp) (by first|simp -dsimp[h2,q3,z4];done|simp_all)) hq
theorem C.f69 (a:Vl.Tree)(k:Int)(r:Int)(hF:F.f69 a k=some r):PureCall Try.prog B 12 [.agg [.lit (.int .i64 a.op),.lit (.int .i64 a.clause),.arr (List.map Vl.PathBind.c a.binds),.arr (List.map cI a.path),.arr (List.map Vl.Branch.c a.branches),.arr (List.map Vl.Tree.c a.els)],.lit (.int .i64 k)] (.lit (.int .i64 r)):=by
 unfold F.f69 at hF
 refine PureCall.enterLe Try.func12 (by kernel_rfl) rfl Try.ntmps12 (by simp) (by simp) ?_
 repeat(first|refine chk.ga ?_|simp -dsimp)
 have hF:=ob hF;obtain⟨v,e1,hF⟩:=hF
 refine((C.f64 B hB1 hB2 a.binds k v e1)).goW (by simp) (by simp) ?_
 repeat(first|refine chk.ga ?_|simp -dsimp)
 revert hF;refine abr.sp ?_ ?_<;>intro h2 q3 hF
 ·cases hF
  repeat(first|refine chk.ga ?_|simp -dsimp[h2])
  all_goals(try first|omega|rfl)
 ·repeat(first|refine chk.ga ?_|simp -dsimp[h2,q3])
  have hF:=ob hF;obtain⟨v4,e5,hF⟩:=hF
  refine((C.f62 B hB1 hB2 a.path v v4 e5)).goW (by first|simp[h2,q3];done|simp_all) (by simp) ?_
  repeat(first|refine chk.ga ?_|simp -dsimp[h2,q3])
  revert hF;refine abr.sp ?_ ?_<;>intro h6 q7 hF
  ·cases hF
   repeat(first|refine chk.ga ?_|simp -dsimp[h2,q3,h6])
   all_goals(try first|omega|rfl)
  ·repeat(first|refine chk.ga ?_|simp -dsimp[h2,q3,h6,q7])
   have hF:=ob hF;obtain⟨v8,e9,hF⟩:=hF
   refine(((CC.f65 B hB1 hB2).1 a.branches v4 v8 e9)).goW (by first|simp[h2,q3,h6,q7];done|simp_all) (by simp) ?_
   repeat(first|refine chk.ga ?_|simp -dsimp[h2,q3,h6,q7])
   revert hF;refine abr.sp ?_ ?_<;>intro h10 q11 hF
   ·cases hF
    repeat(first|refine chk.ga ?_|simp -dsimp[h2,q3,h6,q7,h10])
    all_goals(try first|omega|rfl)
   ·repeat(first|refine chk.ga ?_|simp -dsimp[h2,q3,h6,q7,h10,q11])
    have hF:=ob hF;obtain⟨v12,e13,hF⟩:=hF
    refine(((CC.f65 B hB1 hB2).2.2.1 a.els v8 v12 e13)).goW (by first|simp[h2,q3,h6,q7,h10,q11];done|simp_all) (by simp) ?_
    repeat(first|refine chk.ga ?_|simp -dsimp[h2,q3,h6,q7,h10,q11])
    revert hF;refine abr.sp ?_ ?_<;>intro h14 q15 hF
    ·cases hF
     repeat(first|refine chk.ga ?_|simp -dsimp[h2,q3,h6,q7,h10,q11,h14])
     all_goals(try first|omega|rfl)
    ·cases hF
     repeat(first|refine chk.ga ?_|simp -dsimp[h2,q3,h6,q7,h10,q11,h14,q15])
     all_goals(try first|omega|rfl)
theorem CM.laws_markEdgeS :∀m:Nat,(∀(a:List Vl.Edge) (k:Int),SizeOf.sizeOf a<m→MCall Try.prog B 27 (List.map Vl.Edge.c a) [.int .i64 k] (List.map Vl.Edge.c (Vl.Edge.mkL a k).1) (.int .i64 (Vl.Edge.mkL a k).2)):=by
 intro m
 induction m with
 |zero=>exact fun a k h=>absurd h (Nat.not_lt_zero _)
 |succ m ih=>
  intro a0 k0 hm
  have hz0:∀x,x∈a0→SizeOf.sizeOf x<m:=fun x hx=>by have:=List.sizeOf_lt_of_mem hx;omega
  have loop:∀(rest D:List Vl.Edge) (k:Int) (i n:Nat) (rows:List (List AV)) (us:List Go.Value),(∀x,x∈rest→SizeOf.sizeOf x<m)→i=D.length→n=i+rest.length→RW 4 n rows us→
    ∀(c:Code),navO [1,0,1,0,0] (bodyOf Try.f27)=some c→∀(Q:Exit→ASt→Prop),
    (∀(R:List (List AV)) (U:List Go.Value),RW 4 n R U→Q (.exit 0) ⟨[(1,.lit (.int .i64 (Vl.Edge.mkL rest k).2))],[.elems 4 R,.pack (List.flatten (List.map Vl.Edge.c (D++(Vl.Edge.mkL rest k).1))) U]⟩)→
    ALoopU Try.prog B 2 41 (hold c .mk) ⟨[(0,.own 0 n),(1,.lit (.int .i64 k)),(5,.lit (.int .i64 (i:Int)))],[.elems 4 rows,.pack (List.flatten (List.map Vl.Edge.c (D++rest))) us]⟩ (hold Q .mk):=by
   intro rest
   induction rest with
   |nil=>
    intro D k i n rows us hz hi hn H c hc Q hq
    obtain rfl:c=_:=navEq hc rfl
    have hn':n=i:=by simpa using hn
    subst hn'
    refine ALoopU.enter ?_
    repeat(first|refine chk.ga ?_|simp -dsimp[RW.len H])
    refine Leave.go ⟨[(1,.lit (.int .i64 k))],[.elems 4 rows,.pack (List.flatten (List.map Vl.Edge.c D)) us]⟩ (Gh.to3 (by simp) (by simp -dsimp[RW.closed H])) ?_
    simpa[Vl.Edge.mkL]using hq rows us H
   |cons x r ihr=>
    intro D k i n rows us hz hi hn H c hc Q hq
    refine ALoopU.opnAt 1 (List.flatten (List.map Vl.Edge.c D)) (Vl.Edge.c x) (List.flatten (List.map Vl.Edge.c r)) rfl (by simp) ?_
    intro hs vs UA UC hl ho hlt hU hlA
    have hs0:hs=[]:=List.length_eq_zero_iff.1 (by simpa using hl)
    subst hs0
    have hv:vs=[.int .i64 x.ctor,.int .i64 x.n,.int .i64 x.m,.int .i64 x.to]:=by apply lits_inj;rw[←hlt];simp
    subst hv hU
    have hUA:UA.length=i*4:=by rw[hlA,flatc_len Vl.Edge.c_len,hi]
    have hin:i<n:=by simp at hn;omega
    have hrow:rows[i]? =some [.lit (.int .i64 x.ctor),.lit (.int .i64 x.n),.lit (.int .i64 x.m),.lit (.int .i64 x.to)]:=by simpa using H.at hin rfl hUA rfl
    have hne:¬rows=[]:=by intro e;rw[e]at hrow;simp at hrow
    have hrl:=RW.len H
    have hrow':∀(h:i<rows.length),rows[i]=[.lit (.int .i64 x.ctor),.lit (.int .i64 x.n),.lit (.int .i64 x.m),.lit (.int .i64 x.to)]:=fun h=>by rw[List.getElem?_eq_getElem h]at hrow;exact Option.some.inj hrow
    have hset:∀a,(rows.set i a)[i]? =some a:=fun a=>List.getElem?_set_self (by omega)
    clear hlt
    refine ALoopU.know fun hk hs=> ?_
    have d0:=hs 0 _ rfl
    simp -dsimp[Blk.bnd]at d0
    clear hk hs
    obtain rfl:c=_:=navEq hc rfl
    have w1:IntKind.i64.wrap ((i:Int)+1)=(i:Int)+1:=wrap_in (by omega) (by omega)
    refine ALoopU.enter ?_
    repeat(first|refine chk.ga ?_|simp -dsimp[hne,hrow,hrow',hset,hrl,hin,w1,List.set_set])
    refine Again.go ⟨[(0,.own 0 n),(1,.lit (.int .i64 (IntKind.i64.wrap ((IntKind.i64.wrap ((IntKind.i64.wrap ((IntKind.i64.wrap (k+1))+1))+1))+1)))),(5,.lit (.int .i64 ((i+1:Nat):Int)))],[.elems 4 (rows.set i [.lit (.int .i64 k),.lit (.int .i64 (IntKind.i64.wrap (k+1))),.lit (.int .i64 (IntKind.i64.wrap ((IntKind.i64.wrap (k+1))+1))),.lit (.int .i64 (IntKind.i64.wrap ((IntKind.i64.wrap ((IntKind.i64.wrap (k+1))+1))+1)))]),.pack (List.flatten (List.map Vl.Edge.c ((D++[(⟨k,IntKind.i64.wrap (k+1),IntKind.i64.wrap ((IntKind.i64.wrap (k+1))+1),IntKind.i64.wrap ((IntKind.i64.wrap ((IntKind.i64.wrap (k+1))+1))+1)⟩:Vl.Edge)])++r))) (UA++([.int .i64 k,.int .i64 (IntKind.i64.wrap (k+1)),.int .i64 (IntKind.i64.wrap ((IntKind.i64.wrap (k+1))+1)),.int .i64 (IntKind.i64.wrap ((IntKind.i64.wrap ((IntKind.i64.wrap (k+1))+1))+1))]++UC))]⟩
     (by refine Gh.trans (Gh.setAt 1 [] (XA:=List.flatten (List.map Vl.Edge.c D)) (old:=[.lit (.int .i64 x.ctor),.lit (.int .i64 x.n),.lit (.int .i64 x.m),.lit (.int .i64 x.to)]) (XC:=List.flatten (List.map Vl.Edge.c r)) (UA:=UA) (uo:=[.int .i64 x.ctor,.int .i64 x.n,.int .i64 x.m,.int .i64 x.to]) (UC:=UC) (by exact rfl) (by simp) (by simp) hlA rfl (.lit (.int .i64 k) (.lit (.int .i64 (IntKind.i64.wrap (k+1))) (.lit (.int .i64 (IntKind.i64.wrap ((IntKind.i64.wrap (k+1))+1))) (.lit (.int .i64 (IntKind.i64.wrap ((IntKind.i64.wrap ((IntKind.i64.wrap (k+1))+1))+1))) .nil)))) (by decide)) ?_;exact Gh.to3 (by simp) (by simp -dsimp[RW.closed H])) ?_
    have he:Vl.Edge.mkL (x::r) k=((⟨k,IntKind.i64.wrap (k+1),IntKind.i64.wrap ((IntKind.i64.wrap (k+1))+1),IntKind.i64.wrap ((IntKind.i64.wrap ((IntKind.i64.wrap (k+1))+1))+1)⟩:Vl.Edge)::(Vl.Edge.mkL r (IntKind.i64.wrap ((IntKind.i64.wrap ((IntKind.i64.wrap ((IntKind.i64.wrap (k+1))+1))+1))+1))).1,(Vl.Edge.mkL r (IntKind.i64.wrap ((IntKind.i64.wrap ((IntKind.i64.wrap ((IntKind.i64.wrap (k+1))+1))+1))+1))).2):=by(first|rfl|(cases x;simp[Vl.Edge.mkL,Vl.Edge.mkE]))
    rw[he]at hq
    refine ihr (D++[(⟨k,IntKind.i64.wrap (k+1),IntKind.i64.wrap ((IntKind.i64.wrap (k+1))+1),IntKind.i64.wrap ((IntKind.i64.wrap ((IntKind.i64.wrap (k+1))+1))+1)⟩:Vl.Edge)]) _ (i+1) n _ _ (fun y hy=>hz y (List.mem_cons_of_mem _ hy)) (by simp[hi]) (by simp at hn;omega) (by simpa using H.setAt hin hUA rfl [.int .i64 k,.int .i64 (IntKind.i64.wrap (k+1)),.int .i64 (IntKind.i64.wrap ((IntKind.i64.wrap (k+1))+1)),.int .i64 (IntKind.i64.wrap ((IntKind.i64.wrap ((IntKind.i64.wrap (k+1))+1))+1))] rfl) _ rfl _ fun R U hR=> ?_
    simpa using hq R U hR
  refine MCall.enter 4 Try.func27 (by kernel_rfl) rfl Try.ntmps27 (by simp) (by simp[Vl.Edge.mkL_len]) (fun e he=>by obtain⟨x,_,rfl⟩:=List.mem_map.1 he;exact Vl.Edge.c_len x) ?_ ?_
  ·intro he
   have he:a0=[]:=by simpa using he
   subst he
   repeat(first|refine chk.ga ?_|simp -dsimp)
   refine ALoop.goU ⟨[(0,.arr []),(1,.lit (.int .i64 k0)),(5,.lit (.int .i64 0))],[]⟩ (Gh.to3 (by simp) (by simp -dsimp)) ?_
   refine ALoopU.enter ?_
   repeat(first|refine chk.ga ?_|simp -dsimp)
   refine Leave.go _ (Gh.refl _) ?_
   repeat(first|refine chk.ga ?_|simp -dsimp)
   all_goals(try simp[Vl.Edge.mkL])
  ·intro hne rows us e1 e2 e3 e4
   have H:RW 4 a0.length rows us:=⟨by simpa using e2,e3,e1⟩
   repeat(first|refine chk.ga ?_|simp -dsimp)
   refine ALoop.goU ⟨[(0,.own 0 a0.length),(1,.lit (.int .i64 k0)),(5,.lit (.int .i64 ((0:Nat):Int)))],[.elems 4 rows,.pack (List.flatten (List.map Vl.Edge.c ([]++a0))) us]⟩ (Gh.to3 (by simp) (by simp -dsimp[RW.closed H])) ?_
   refine loop a0 [] k0 0 a0.length rows us hz0 rfl (by simp) H _ rfl _ ?_
   intro R U hR
   repeat(first|refine chk.ga ?_|simp -dsimp)
   exact⟨rfl,R,U,rfl,⟨1,by simp⟩,hR.2.2,by rw[hR.1];simp[Vl.Edge.mkL_len],fun x hx=>by obtain⟨y,_,rfl⟩:=List.mem_map.1 hx;exact Vl.Edge.c_len y⟩
theorem C.f72 (a:List Vl.Edge)(k:Int)(v:List Vl.Edge×Int)(hF:F.f72 a k=some v):MCall Try.prog B 27 (List.map Vl.Edge.c a) [.int .i64 k] (List.map Vl.Edge.c v.1) (.int .i64 v.2):=by
 obtain rfl:=Option.some.inj hF
 exact(CM.laws_markEdgeS B hB1 hB2 (SizeOf.sizeOf a+1)) a k (Nat.lt_succ_self _)
theorem CM.laws_markIntS :∀m:Nat,(∀(a:List Int) (k:Int),SizeOf.sizeOf a<m→MCall Try.prog B 26 (List.map cI a) [.int .i64 k] (List.map cI (mkI a k).1) (.int .i64 (mkI a k).2)):=by
 intro m
 induction m with
 |zero=>exact fun a k h=>absurd h (Nat.not_lt_zero _)
 |succ m ih=>
  intro a0 k0 hm
  have hz0:∀x,x∈a0→SizeOf.sizeOf x<m:=fun x hx=>by have:=List.sizeOf_lt_of_mem hx;omega
  have loop:∀(rest D:List Int) (k:Int) (i n:Nat) (rows:List (List AV)) (us:List Go.Value),(∀x,x∈rest→SizeOf.sizeOf x<m)→i=D.length→n=i+rest.length→RW 1 n rows us→
    ∀(c:Code),navO [1,0,1,0,0] (bodyOf Try.f26)=some c→∀(Q:Exit→ASt→Prop),
    (∀(R:List (List AV)) (U:List Go.Value),RW 1 n R U→Q (.exit 0) ⟨[(1,.lit (.int .i64 (mkI rest k).2))],[.elems 1 R,.pack (List.flatten (List.map cI (D++(mkI rest k).1))) U]⟩)→
    ALoopU Try.prog B 2 19 (hold c .mk) ⟨[(0,.own 0 n),(1,.lit (.int .i64 k)),(5,.lit (.int .i64 (i:Int)))],[.elems 1 rows,.pack (List.flatten (List.map cI (D++rest))) us]⟩ (hold Q .mk):=by
   intro rest
   induction rest with
   |nil=>
    intro D k i n rows us hz hi hn H c hc Q hq
    obtain rfl:c=_:=navEq hc rfl
    have hn':n=i:=by simpa using hn
    subst hn'
    refine ALoopU.enter ?_
    repeat(first|refine chk.ga ?_|simp -dsimp[RW.len H])
    refine Leave.go ⟨[(1,.lit (.int .i64 k))],[.elems 1 rows,.pack (List.flatten (List.map cI D)) us]⟩ (Gh.to3 (by simp) (by simp -dsimp[RW.closed H])) ?_
    simpa[mkI]using hq rows us H
   |cons x r ihr=>
    intro D k i n rows us hz hi hn H c hc Q hq
    refine ALoopU.opnAt 1 (List.flatten (List.map cI D)) (cI x) (List.flatten (List.map cI r)) rfl (by simp) ?_
    intro hs vs UA UC hl ho hlt hU hlA
    have hs0:hs=[]:=List.length_eq_zero_iff.1 (by simpa using hl)
    subst hs0
    have hv:vs=[.int .i64 x]:=by apply lits_inj;rw[←hlt];simp
    subst hv hU
    have hUA:UA.length=i*1:=by rw[hlA,flatc_len cI_len,hi]
    have hin:i<n:=by simp at hn;omega
    have hrow:rows[i]? =some [.lit (.int .i64 x)]:=by simpa using H.at hin rfl hUA rfl
    have hne:¬rows=[]:=by intro e;rw[e]at hrow;simp at hrow
    have hrl:=RW.len H
    have hrow':∀(h:i<rows.length),rows[i]=[.lit (.int .i64 x)]:=fun h=>by rw[List.getElem?_eq_getElem h]at hrow;exact Option.some.inj hrow
    have hset:∀a,(rows.set i a)[i]? =some a:=fun a=>List.getElem?_set_self (by omega)
    clear hlt
    refine ALoopU.know fun hk hs=> ?_
    have d0:=hs 0 _ rfl
    simp -dsimp[Blk.bnd]at d0
    clear hk hs
    obtain rfl:c=_:=navEq hc rfl
    have w1:IntKind.i64.wrap ((i:Int)+1)=(i:Int)+1:=wrap_in (by omega) (by omega)
    refine ALoopU.enter ?_
    repeat(first|refine chk.ga ?_|simp -dsimp[hne,hrow,hrow',hset,hrl,hin,w1,List.set_set])
    refine Again.go ⟨[(0,.own 0 n),(1,.lit (.int .i64 (IntKind.i64.wrap (k+1)))),(5,.lit (.int .i64 ((i+1:Nat):Int)))],[.elems 1 (rows.set i [.lit (.int .i64 k)]),.pack (List.flatten (List.map cI ((D++[k])++r))) (UA++([.int .i64 k]++UC))]⟩
     (by refine Gh.trans (Gh.setAt 1 [] (XA:=List.flatten (List.map cI D)) (old:=[.lit (.int .i64 x)]) (XC:=List.flatten (List.map cI r)) (UA:=UA) (uo:=[.int .i64 x]) (UC:=UC) (by exact rfl) (by simp) (by simp) hlA rfl (.lit (.int .i64 k) .nil) (by decide)) ?_;exact Gh.to3 (by simp) (by simp -dsimp[RW.closed H])) ?_
    have he:mkI (x::r) k=(k::(mkI r (IntKind.i64.wrap (k+1))).1,(mkI r (IntKind.i64.wrap (k+1))).2):=by rfl
    rw[he]at hq
    refine ihr (D++[k]) _ (i+1) n _ _ (fun y hy=>hz y (List.mem_cons_of_mem _ hy)) (by simp[hi]) (by simp at hn;omega) (by simpa using H.setAt hin hUA rfl [.int .i64 k] rfl) _ rfl _ fun R U hR=> ?_
    simpa using hq R U hR
  refine MCall.enter 1 Try.func26 (by kernel_rfl) rfl Try.ntmps26 (by simp) (by simp[mkI_len]) (fun e he=>by obtain⟨x,_,rfl⟩:=List.mem_map.1 he;exact cI_len x) ?_ ?_
  ·intro he
   have he:a0=[]:=by simpa using he
   subst he
   repeat(first|refine chk.ga ?_|simp -dsimp)
   refine ALoop.goU ⟨[(0,.arr []),(1,.lit (.int .i64 k0)),(5,.lit (.int .i64 0))],[]⟩ (Gh.to3 (by simp) (by simp -dsimp)) ?_
   refine ALoopU.enter ?_
   repeat(first|refine chk.ga ?_|simp -dsimp)
   refine Leave.go _ (Gh.refl _) ?_
   repeat(first|refine chk.ga ?_|simp -dsimp)
   all_goals(try simp[mkI])
  ·intro hne rows us e1 e2 e3 e4
   have H:RW 1 a0.length rows us:=⟨by simpa using e2,e3,e1⟩
   repeat(first|refine chk.ga ?_|simp -dsimp)
   refine ALoop.goU ⟨[(0,.own 0 a0.length),(1,.lit (.int .i64 k0)),(5,.lit (.int .i64 ((0:Nat):Int)))],[.elems 1 rows,.pack (List.flatten (List.map cI ([]++a0))) us]⟩ (Gh.to3 (by simp) (by simp -dsimp[RW.closed H])) ?_
   refine loop a0 [] k0 0 a0.length rows us hz0 rfl (by simp) H _ rfl _ ?_
   intro R U hR
   repeat(first|refine chk.ga ?_|simp -dsimp)
   exact⟨rfl,R,U,rfl,⟨1,by simp⟩,hR.2.2,by rw[hR.1];simp[mkI_len],fun x hx=>by obtain⟨y,_,rfl⟩:=List.mem_map.1 hx;exact cI_len y⟩
theorem C.f70 (a:List Int)(k:Int)(v:List Int×Int)(hF:F.f70 a k=some v):MCall Try.prog B 26 (List.map cI a) [.int .i64 k] (List.map cI v.1) (.int .i64 v.2):=by
 obtain rfl:=Option.some.inj hF
 exact(CM.laws_markIntS B hB1 hB2 (SizeOf.sizeOf a+1)) a k (Nat.lt_succ_self _)
theorem CM.laws_markPathBindS :∀m:Nat,(∀(a:List Vl.PathBind) (k:Int),SizeOf.sizeOf a<m→MCall Try.prog B 25 (List.map Vl.PathBind.c a) [.int .i64 k] (List.map Vl.PathBind.c (Vl.PathBind.mkL a k).1) (.int .i64 (Vl.PathBind.mkL a k).2)):=by
 intro m
 induction m with
 |zero=>exact fun a k h=>absurd h (Nat.not_lt_zero _)
 |succ m ih=>
  intro a0 k0 hm
  have hz0:∀x,x∈a0→SizeOf.sizeOf x<m:=fun x hx=>by have:=List.sizeOf_lt_of_mem hx;omega
  have loop:∀(rest D:List Vl.PathBind) (k:Int) (i n:Nat) (rows:List (List AV)) (us:List Go.Value),(∀x,x∈rest→SizeOf.sizeOf x<m)→i=D.length→n=i+rest.length→RW 2 n rows us→
    ∀(c:Code),navO [1,0,1,0,0] (bodyOf Try.f25)=some c→∀(Q:Exit→ASt→Prop),
    (∀(R:List (List AV)) (U:List Go.Value),RW 2 n R U→Q (.exit 0) ⟨[(1,.lit (.int .i64 (Vl.PathBind.mkL rest k).2))],[.elems 2 R,.pack (List.flatten (List.map Vl.PathBind.c (D++(Vl.PathBind.mkL rest k).1))) U]⟩)→
    ALoopU Try.prog B 2 27 (hold c .mk) ⟨[(0,.own 0 n),(1,.lit (.int .i64 k)),(5,.lit (.int .i64 (i:Int)))],[.elems 2 rows,.pack (List.flatten (List.map Vl.PathBind.c (D++rest))) us]⟩ (hold Q .mk):=by
   intro rest
   induction rest with
   |nil=>
    intro D k i n rows us hz hi hn H c hc Q hq
    obtain rfl:c=_:=navEq hc rfl
    have hn':n=i:=by simpa using hn
    subst hn'
    refine ALoopU.enter ?_
    repeat(first|refine chk.ga ?_|simp -dsimp[RW.len H])
    refine Leave.go ⟨[(1,.lit (.int .i64 k))],[.elems 2 rows,.pack (List.flatten (List.map Vl.PathBind.c D)) us]⟩ (Gh.to3 (by simp) (by simp -dsimp[RW.closed H])) ?_
    simpa[Vl.PathBind.mkL]using hq rows us H
   |cons x r ihr=>
    intro D k i n rows us hz hi hn H c hc Q hq
    refine ALoopU.opnAt1 1 (List.flatten (List.map Vl.PathBind.c D)) (Vl.PathBind.c x) (List.flatten (List.map Vl.PathBind.c r)) rfl (by simp) (by simp) ?_
    intro h1 vs UA UC o_h1 hlt hU hlA
    have hv:vs=[.int .i64 x.var,h1]:=by apply lits_inj;rw[←hlt];simp
    subst hv hU
    have hUA:UA.length=i*2:=by rw[hlA,flatc_len Vl.PathBind.c_len,hi]
    have hin:i<n:=by simp at hn;omega
    have hrow:rows[i]? =some [.lit (.int .i64 x.var),.lit h1]:=by simpa using H.at hin rfl hUA rfl
    have hne:¬rows=[]:=by intro e;rw[e]at hrow;simp at hrow
    have hrl:=RW.len H
    have hrow':∀(h:i<rows.length),rows[i]=[.lit (.int .i64 x.var),.lit h1]:=fun h=>by rw[List.getElem?_eq_getElem h]at hrow;exact Option.some.inj hrow
    have hset:∀a,(rows.set i a)[i]? =some a:=fun a=>List.getElem?_set_self (by omega)
    clear hlt
    refine ALoopU.know fun hk hs=> ?_
    have d0:=hs 0 _ rfl
    simp -dsimp[Blk.bnd]at d0
    clear hk hs
    obtain rfl:c=_:=navEq hc rfl
    have w1:IntKind.i64.wrap ((i:Int)+1)=(i:Int)+1:=wrap_in (by omega) (by omega)
    refine ALoopU.enter ?_
    repeat(first|refine chk.ga ?_|simp -dsimp[hne,hrow,hrow',hset,hrl,hin,w1,List.set_set,o_h1])
    refine(C.f70 B hB1 hB2 x.path (IntKind.i64.wrap (k+1)) _ rfl).go 2 rfl (by simp) ?_
    repeat(first|refine chk.ga ?_|simp -dsimp[hne,hrow,hrow',hset,hrl,hin,w1,List.set_set,o_h1])
    refine Again.go ⟨[(0,.own 0 n),(1,.lit (.int .i64 ((mkI x.path (IntKind.i64.wrap (k+1))).2))),(5,.lit (.int .i64 ((i+1:Nat):Int)))],[.elems 2 (rows.set i [.lit (.int .i64 k),.lit h1]),.pack (List.flatten (List.map Vl.PathBind.c ((D++[(⟨k,(mkI x.path (IntKind.i64.wrap (k+1))).1⟩:Vl.PathBind)])++r))) (UA++([.int .i64 k,h1]++UC))]⟩
     (by refine Gh.trans (Gh.setAt 1 [2] (XA:=List.flatten (List.map Vl.PathBind.c D)) (old:=[.lit (.int .i64 x.var),.lit h1]) (XC:=List.flatten (List.map Vl.PathBind.c r)) (UA:=UA) (uo:=[.int .i64 x.var,h1]) (UC:=UC) (by exact rfl) (by simp) (by simp) hlA rfl (.lit (.int .i64 k) (.pk 2 (by exact rfl) .nil)) (by decide)) ?_;exact Gh.to3 (by simp) (by simp -dsimp[RW.closed H])) ?_
    have he:Vl.PathBind.mkL (x::r) k=((⟨k,(mkI x.path (IntKind.i64.wrap (k+1))).1⟩:Vl.PathBind)::(Vl.PathBind.mkL r ((mkI x.path (IntKind.i64.wrap (k+1))).2)).1,(Vl.PathBind.mkL r ((mkI x.path (IntKind.i64.wrap (k+1))).2)).2):=by(first|rfl|(cases x;simp[Vl.PathBind.mkL,Vl.PathBind.mkE]))
    rw[he]at hq
    refine ihr (D++[(⟨k,(mkI x.path (IntKind.i64.wrap (k+1))).1⟩:Vl.PathBind)]) _ (i+1) n _ _ (fun y hy=>hz y (List.mem_cons_of_mem _ hy)) (by simp[hi]) (by simp at hn;omega) (by simpa using H.setAt hin hUA rfl [.int .i64 k,h1] rfl) _ rfl _ fun R U hR=> ?_
    simpa using hq R U hR
  refine MCall.enter 2 Try.func25 (by kernel_rfl) rfl Try.ntmps25 (by simp) (by simp[Vl.PathBind.mkL_len]) (fun e he=>by obtain⟨x,_,rfl⟩:=List.mem_map.1 he;exact Vl.PathBind.c_len x) ?_ ?_
  ·intro he
   have he:a0=[]:=by simpa using he
   subst he
   repeat(first|refine chk.ga ?_|simp -dsimp)
   refine ALoop.goU ⟨[(0,.arr []),(1,.lit (.int .i64 k0)),(5,.lit (.int .i64 0))],[]⟩ (Gh.to3 (by simp) (by simp -dsimp)) ?_
   refine ALoopU.enter ?_
   repeat(first|refine chk.ga ?_|simp -dsimp)
   refine Leave.go _ (Gh.refl _) ?_
   repeat(first|refine chk.ga ?_|simp -dsimp)
   all_goals(try simp[Vl.PathBind.mkL])
  ·intro hne rows us e1 e2 e3 e4
   have H:RW 2 a0.length rows us:=⟨by simpa using e2,e3,e1⟩
   repeat(first|refine chk.ga ?_|simp -dsimp)
   refine ALoop.goU ⟨[(0,.own 0 a0.length),(1,.lit (.int .i64 k0)),(5,.lit (.int .i64 ((0:Nat):Int)))],[.elems 2 rows,.pack (List.flatten (List.map Vl.PathBind.c ([]++a0))) us]⟩ (Gh.to3 (by simp) (by simp -dsimp[RW.closed H])) ?_
   refine loop a0 [] k0 0 a0.length rows us hz0 rfl (by simp) H _ rfl _ ?_
   intro R U hR
   repeat(first|refine chk.ga ?_|simp -dsimp)
   exact⟨rfl,R,U,rfl,⟨1,by simp⟩,hR.2.2,by rw[hR.1];simp[Vl.PathBind.mkL_len],fun x hx=>by obtain⟨y,_,rfl⟩:=List.mem_map.1 hx;exact Vl.PathBind.c_len y⟩
theorem C.f71 (a:List Vl.PathBind)(k:Int)(v:List Vl.PathBind×Int)(hF:F.f71 a k=some v):MCall Try.prog B 25 (List.map Vl.PathBind.c a) [.int .i64 k] (List.map Vl.PathBind.c v.1) (.int .i64 v.2):=by
 obtain rfl:=Option.some.inj hF
 exact(CM.laws_markPathBindS B hB1 hB2 (SizeOf.sizeOf a+1)) a k (Nat.lt_succ_self _)
theorem CM.laws_markNodeS :∀m:Nat,(∀(a:List Vl.Node) (k:Int),SizeOf.sizeOf a<m→MCall Try.prog B 10 (List.map Vl.Node.c a) [.int .i64 k] (List.map Vl.Node.c (Vl.Node.mkL a k).1) (.int .i64 (Vl.Node.mkL a k).2)):=by
 intro m
 induction m with
 |zero=>exact fun a k h=>absurd h (Nat.not_lt_zero _)
 |succ m ih=>
  intro a0 k0 hm
  have hz0:∀x,x∈a0→SizeOf.sizeOf x<m:=fun x hx=>by have:=List.sizeOf_lt_of_mem hx;omega
  have loop:∀(rest D:List Vl.Node) (k:Int) (i n:Nat) (rows:List (List AV)) (us:List Go.Value),(∀x,x∈rest→SizeOf.sizeOf x<m)→i=D.length→n=i+rest.length→RW 6 n rows us→
    ∀(c:Code),navO [1,0,1,0,0] (bodyOf Try.f10)=some c→∀(Q:Exit→ASt→Prop),
    (∀(R:List (List AV)) (U:List Go.Value),RW 6 n R U→Q (.exit 0) ⟨[(1,.lit (.int .i64 (Vl.Node.mkL rest k).2))],[.elems 6 R,.pack (List.flatten (List.map Vl.Node.c (D++(Vl.Node.mkL rest k).1))) U]⟩)→
    ALoopU Try.prog B 2 55 (hold c .mk) ⟨[(0,.own 0 n),(1,.lit (.int .i64 k)),(5,.lit (.int .i64 (i:Int)))],[.elems 6 rows,.pack (List.flatten (List.map Vl.Node.c (D++rest))) us]⟩ (hold Q .mk):=by
   intro rest
   induction rest with
   |nil=>
    intro D k i n rows us hz hi hn H c hc Q hq
    obtain rfl:c=_:=navEq hc rfl
    have hn':n=i:=by simpa using hn
    subst hn'
    refine ALoopU.enter ?_
    repeat(first|refine chk.ga ?_|simp -dsimp[RW.len H])
    refine Leave.go ⟨[(1,.lit (.int .i64 k))],[.elems 6 rows,.pack (List.flatten (List.map Vl.Node.c D)) us]⟩ (Gh.to3 (by simp) (by simp -dsimp[RW.closed H])) ?_
    simpa[Vl.Node.mkL]using hq rows us H
   |cons x r ihr=>
    intro D k i n rows us hz hi hn H c hc Q hq
    refine ALoopU.opnAt3 1 (List.flatten (List.map Vl.Node.c D)) (Vl.Node.c x) (List.flatten (List.map Vl.Node.c r)) rfl (by simp) (by simp) ?_
    intro h1 h2 h3 vs UA UC o_h1 o_h2 o_h3 hlt hU hlA
    have hv:vs=[.int .i64 x.op,.int .i64 x.clause,h1,h2,h3,.int .i64 x.els]:=by apply lits_inj;rw[←hlt];simp
    subst hv hU
    have hUA:UA.length=i*6:=by rw[hlA,flatc_len Vl.Node.c_len,hi]
    have hin:i<n:=by simp at hn;omega
    have hrow:rows[i]? =some [.lit (.int .i64 x.op),.lit (.int .i64 x.clause),.lit h1,.lit h2,.lit h3,.lit (.int .i64 x.els)]:=by simpa using H.at hin rfl hUA rfl
    have hne:¬rows=[]:=by intro e;rw[e]at hrow;simp at hrow
    have hrl:=RW.len H
    have hrow':∀(h:i<rows.length),rows[i]=[.lit (.int .i64 x.op),.lit (.int .i64 x.clause),.lit h1,.lit h2,.lit h3,.lit (.int .i64 x.els)]:=fun h=>by rw[List.getElem?_eq_getElem h]at hrow;exact Option.some.inj hrow
    have hset:∀a,(rows.set i a)[i]? =some a:=fun a=>List.getElem?_set_self (by omega)
    clear hlt
    refine ALoopU.know fun hk hs=> ?_
    have d0:=hs 0 _ rfl
    simp -dsimp[Blk.bnd]at d0
    clear hk hs
    obtain rfl:c=_:=navEq hc rfl
    have w1:IntKind.i64.wrap ((i:Int)+1)=(i:Int)+1:=wrap_in (by omega) (by omega)
    refine ALoopU.enter ?_
    repeat(first|refine chk.ga ?_|simp -dsimp[hne,hrow,hrow',hset,hrl,hin,w1,List.set_set,o_h1,o_h2,o_h3])
    refine(C.f71 B hB1 hB2 x.binds (IntKind.i64.wrap ((IntKind.i64.wrap (k+1))+1)) _ rfl).go 2 rfl (by simp) ?_
    repeat(first|refine chk.ga ?_|simp -dsimp[hne,hrow,hrow',hset,hrl,hin,w1,List.set_set,o_h1,o_h2,o_h3])
    refine(C.f70 B hB1 hB2 x.path ((Vl.PathBind.mkL x.binds (IntKind.i64.wrap ((IntKind.i64.wrap (k+1))+1))).2) _ rfl).go 3 rfl (by simp) ?_
    repeat(first|refine chk.ga ?_|simp -dsimp[hne,hrow,hrow',hset,hrl,hin,w1,List.set_set,o_h1,o_h2,o_h3])
    refine(C.f72 B hB1 hB2 x.edges ((mkI x.path ((Vl.PathBind.mkL x.binds (IntKind.i64.wrap ((IntKind.i64.wrap (k+1))+1))).2)).2) _ rfl).go 4 rfl (by simp) ?_
    repeat(first|refine chk.ga ?_|simp -dsimp[hne,hrow,hrow',hset,hrl,hin,w1,List.set_set,o_h1,o_h2,o_h3])
    refine Again.go ⟨[(0,.own 0 n),(1,.lit (.int .i64 (IntKind.i64.wrap (((Vl.Edge.mkL x.edges ((mkI x.path ((Vl.PathBind.mkL x.binds (IntKind.i64.wrap ((IntKind.i64.wrap (k+1))+1))).2)).2)).2)+1)))),(5,.lit (.int .i64 ((i+1:Nat):Int)))],[.elems 6 (rows.set i [.lit (.int .i64 k),.lit (.int .i64 (IntKind.i64.wrap (k+1))),.lit h1,.lit h2,.lit h3,.lit (.int .i64 ((Vl.Edge.mkL x.edges ((mkI x.path ((Vl.PathBind.mkL x.binds (IntKind.i64.wrap ((IntKind.i64.wrap (k+1))+1))).2)).2)).2))]),.pack (List.flatten (List.map Vl.Node.c ((D++[(⟨k,IntKind.i64.wrap (k+1),(Vl.PathBind.mkL x.binds (IntKind.i64.wrap ((IntKind.i64.wrap (k+1))+1))).1,(mkI x.path ((Vl.PathBind.mkL x.binds (IntKind.i64.wrap ((IntKind.i64.wrap (k+1))+1))).2)).1,(Vl.Edge.mkL x.edges ((mkI x.path ((Vl.PathBind.mkL x.binds (IntKind.i64.wrap ((IntKind.i64.wrap (k+1))+1))).2)).2)).1,(Vl.Edge.mkL x.edges ((mkI x.path ((Vl.PathBind.mkL x.binds (IntKind.i64.wrap ((IntKind.i64.wrap (k+1))+1))).2)).2)).2⟩:Vl.Node)])++r))) (UA++([.int .i64 k,.int .i64 (IntKind.i64.wrap (k+1)),h1,h2,h3,.int .i64 ((Vl.Edge.mkL x.edges ((mkI x.path ((Vl.PathBind.mkL x.binds (IntKind.i64.wrap ((IntKind.i64.wrap (k+1))+1))).2)).2)).2)]++UC))]⟩
     (by refine Gh.trans (Gh.setAt 1 [2,3,4] (XA:=List.flatten (List.map Vl.Node.c D)) (old:=[.lit (.int .i64 x.op),.lit (.int .i64 x.clause),.lit h1,.lit h2,.lit h3,.lit (.int .i64 x.els)]) (XC:=List.flatten (List.map Vl.Node.c r)) (UA:=UA) (uo:=[.int .i64 x.op,.int .i64 x.clause,h1,h2,h3,.int .i64 x.els]) (UC:=UC) (by exact rfl) (by simp) (by simp) hlA rfl (.lit (.int .i64 k) (.lit (.int .i64 (IntKind.i64.wrap (k+1))) (.pk 2 (by exact rfl) (.pk 3 (by exact rfl) (.pk 4 (by exact rfl) (.lit (.int .i64 ((Vl.Edge.mkL x.edges ((mkI x.path ((Vl.PathBind.mkL x.binds (IntKind.i64.wrap ((IntKind.i64.wrap (k+1))+1))).2)).2)).2)) .nil)))))) (by decide)) ?_;exact Gh.to3 (by simp) (by simp -dsimp[RW.closed H])) ?_
    have he:Vl.Node.mkL (x::r) k=((⟨k,IntKind.i64.wrap (k+1),(Vl.PathBind.mkL x.binds (IntKind.i64.wrap ((IntKind.i64.wrap (k+1))+1))).1,(mkI x.path ((Vl.PathBind.mkL x.binds (IntKind.i64.wrap ((IntKind.i64.wrap (k+1))+1))).2)).1,(Vl.Edge.mkL x.edges ((mkI x.path ((Vl.PathBind.mkL x.binds (IntKind.i64.wrap ((IntKind.i64.wrap (k+1))+1))).2)).2)).1,(Vl.Edge.mkL x.edges ((mkI x.path ((Vl.PathBind.mkL x.binds (IntKind.i64.wrap ((IntKind.i64.wrap (k+1))+1))).2)).2)).2⟩:Vl.Node)::(Vl.Node.mkL r (IntKind.i64.wrap (((Vl.Edge.mkL x.edges ((mkI x.path ((Vl.PathBind.mkL x.binds (IntKind.i64.wrap ((IntKind.i64.wrap (k+1))+1))).2)).2)).2)+1))).1,(Vl.Node.mkL r (IntKind.i64.wrap (((Vl.Edge.mkL x.edges ((mkI x.path ((Vl.PathBind.mkL x.binds (IntKind.i64.wrap ((IntKind.i64.wrap (k+1))+1))).2)).2)).2)+1))).2):=by(first|rfl|(cases x;simp[Vl.Node.mkL,Vl.Node.mkE]))
    rw[he]at hq
    refine ihr (D++[(⟨k,IntKind.i64.wrap (k+1),(Vl.PathBind.mkL x.binds (IntKind.i64.wrap ((IntKind.i64.wrap (k+1))+1))).1,(mkI x.path ((Vl.PathBind.mkL x.binds (IntKind.i64.wrap ((IntKind.i64.wrap (k+1))+1))).2)).1,(Vl.Edge.mkL x.edges ((mkI x.path ((Vl.PathBind.mkL x.binds (IntKind.i64.wrap ((IntKind.i64.wrap (k+1))+1))).2)).2)).1,(Vl.Edge.mkL x.edges ((mkI x.path ((Vl.PathBind.mkL x.binds (IntKind.i64.wrap ((IntKind.i64.wrap (k+1))+1))).2)).2)).2⟩:Vl.Node)]) _ (i+1) n _ _ (fun y hy=>hz y (List.mem_cons_of_mem _ hy)) (by simp[hi]) (by simp at hn;omega) (by simpa using H.setAt hin hUA rfl [.int .i64 k,.int .i64 (IntKind.i64.wrap (k+1)),h1,h2,h3,.int .i64 ((Vl.Edge.mkL x.edges ((mkI x.path ((Vl.PathBind.mkL x.binds (IntKind.i64.wrap ((IntKind.i64.wrap (k+1))+1))).2)).2)).2)] rfl) _ rfl _ fun R U hR=> ?_
    simpa using hq R U hR
  refine MCall.enter 6 Try.func10 (by kernel_rfl) rfl Try.ntmps10 (by simp) (by simp[Vl.Node.mkL_len]) (fun e he=>by obtain⟨x,_,rfl⟩:=List.mem_map.1 he;exact Vl.Node.c_len x) ?_ ?_
  ·intro he
   have he:a0=[]:=by simpa using he
   subst he
   repeat(first|refine chk.ga ?_|simp -dsimp)
   refine ALoop.goU ⟨[(0,.arr []),(1,.lit (.int .i64 k0)),(5,.lit (.int .i64 0))],[]⟩ (Gh.to3 (by simp) (by simp -dsimp)) ?_
   refine ALoopU.enter ?_
   repeat(first|refine chk.ga ?_|simp -dsimp)
   refine Leave.go _ (Gh.refl _) ?_
   repeat(first|refine chk.ga ?_|simp -dsimp)
   all_goals(try simp[Vl.Node.mkL])
  ·intro hne rows us e1 e2 e3 e4
   have H:RW 6 a0.length rows us:=⟨by simpa using e2,e3,e1⟩
   repeat(first|refine chk.ga ?_|simp -dsimp)
   refine ALoop.goU ⟨[(0,.own 0 a0.length),(1,.lit (.int .i64 k0)),(5,.lit (.int .i64 ((0:Nat):Int)))],[.elems 6 rows,.pack (List.flatten (List.map Vl.Node.c ([]++a0))) us]⟩ (Gh.to3 (by simp) (by simp -dsimp[RW.closed H])) ?_
   refine loop a0 [] k0 0 a0.length rows us hz0 rfl (by simp) H _ rfl _ ?_
   intro R U hR
   repeat(first|refine chk.ga ?_|simp -dsimp)
   exact⟨rfl,R,U,rfl,⟨1,by simp⟩,hR.2.2,by rw[hR.1];simp[Vl.Node.mkL_len],fun x hx=>by obtain⟨y,_,rfl⟩:=List.mem_map.1 hx;exact Vl.Node.c_len y⟩
theorem C.f73 (a:List Vl.Node)(k:Int)(v:List Vl.Node×Int)(hF:F.f73 a k=some v):MCall Try.prog B 10 (List.map Vl.Node.c a) [.int .i64 k] (List.map Vl.Node.c v.1) (.int .i64 v.2):=by
 obtain rfl:=Option.some.inj hF
 exact(CM.laws_markNodeS B hB1 hB2 (SizeOf.sizeOf a+1)) a k (Nat.lt_succ_self _)
theorem CM.laws_markBranchS :∀m:Nat,(∀(a:List Vl.Branch) (k:Int),SizeOf.sizeOf a<m→MCall Try.prog B 28 (List.map Vl.Branch.c a) [.int .i64 k] (List.map Vl.Branch.c (Vl.Branch.mkL a k).1) (.int .i64 (Vl.Branch.mkL a k).2))∧
  (∀(a:List Vl.Tree) (k:Int),SizeOf.sizeOf a<m→MCall Try.prog B 29 (List.map Vl.Tree.c a) [.int .i64 k] (List.map Vl.Tree.c (Vl.Tree.mkL a k).1) (.int .i64 (Vl.Tree.mkL a k).2)):=by
 intro m
 induction m with
 |zero=>exact⟨fun a k h=>absurd h (Nat.not_lt_zero _),fun a k h=>absurd h (Nat.not_lt_zero _)⟩
 |succ m ih=>
  refine⟨?_,?_⟩
  ·intro a0 k0 hm
   have hz0:∀x,x∈a0→SizeOf.sizeOf x<m:=fun x hx=>by have:=List.sizeOf_lt_of_mem hx;omega
   have loop:∀(rest D:List Vl.Branch) (k:Int) (i n:Nat) (rows:List (List AV)) (us:List Go.Value),(∀x,x∈rest→SizeOf.sizeOf x<m)→i=D.length→n=i+rest.length→RW 9 n rows us→
     ∀(c:Code),navO [1,0,1,0,0] (bodyOf Try.f28)=some c→∀(Q:Exit→ASt→Prop),
     (∀(R:List (List AV)) (U:List Go.Value),RW 9 n R U→Q (.exit 0) ⟨[(1,.lit (.int .i64 (Vl.Branch.mkL rest k).2))],[.elems 9 R,.pack (List.flatten (List.map Vl.Branch.c (D++(Vl.Branch.mkL rest k).1))) U]⟩)→
     ALoopU Try.prog B 2 82 (hold c .mk) ⟨[(0,.own 0 n),(1,.lit (.int .i64 k)),(5,.lit (.int .i64 (i:Int)))],[.elems 9 rows,.pack (List.flatten (List.map Vl.Branch.c (D++rest))) us]⟩ (hold Q .mk):=by
    intro rest
    induction rest with
    |nil=>
     intro D k i n rows us hz hi hn H c hc Q hq
     obtain rfl:c=_:=navEq hc rfl
     have hn':n=i:=by simpa using hn
     subst hn'
     refine ALoopU.enter ?_
     repeat(first|refine chk.ga ?_|simp -dsimp[RW.len H])
     refine Leave.go ⟨[(1,.lit (.int .i64 k))],[.elems 9 rows,.pack (List.flatten (List.map Vl.Branch.c D)) us]⟩ (Gh.to3 (by simp) (by simp -dsimp[RW.closed H])) ?_
     simpa[Vl.Branch.mkL]using hq rows us H
    |cons x r ihr=>
     intro D k i n rows us hz hi hn H c hc Q hq
     refine ALoopU.opnAt4 1 (List.flatten (List.map Vl.Branch.c D)) (Vl.Branch.c x) (List.flatten (List.map Vl.Branch.c r)) rfl (by simp) (by simp) ?_
     intro h1 h2 h3 h4 vs UA UC o_h1 o_h2 o_h3 o_h4 hlt hU hlA
     have hv:vs=[.int .i64 x.ctor,.int .i64 x.n,.int .i64 x.m,.int .i64 x.tree.op,.int .i64 x.tree.clause,h1,h2,h3,h4]:=by apply lits_inj;rw[←hlt];simp
     subst hv hU
     have hUA:UA.length=i*9:=by rw[hlA,flatc_len Vl.Branch.c_len,hi]
     have hin:i<n:=by simp at hn;omega
     have hrow:rows[i]? =some [.lit (.int .i64 x.ctor),.lit (.int .i64 x.n),.lit (.int .i64 x.m),.lit (.int .i64 x.tree.op),.lit (.int .i64 x.tree.clause),.lit h1,.lit h2,.lit h3,.lit h4]:=by simpa using H.at hin rfl hUA rfl
     have hne:¬rows=[]:=by intro e;rw[e]at hrow;simp at hrow
     have hrl:=RW.len H
     have hrow':∀(h:i<rows.length),rows[i]=[.lit (.int .i64 x.ctor),.lit (.int .i64 x.n),.lit (.int .i64 x.m),.lit (.int .i64 x.tree.op),.lit (.int .i64 x.tree.clause),.lit h1,.lit h2,.lit h3,.lit h4]:=fun h=>by rw[List.getElem?_eq_getElem h]at hrow;exact Option.some.inj hrow
     have hset:∀a,(rows.set i a)[i]? =some a:=fun a=>List.getElem?_set_self (by omega)
     clear hlt
     refine ALoopU.know fun hk hs=> ?_
     have d0:=hs 0 _ rfl
     simp -dsimp[Blk.bnd]at d0
     clear hk hs
     obtain rfl:c=_:=navEq hc rfl
     have w1:IntKind.i64.wrap ((i:Int)+1)=(i:Int)+1:=wrap_in (by omega) (by omega)
     refine ALoopU.enter ?_
     repeat(first|refine chk.ga ?_|simp -dsimp[hne,hrow,hrow',hset,hrl,hin,w1,List.set_set,o_h1,o_h2,o_h3,o_h4])
     refine(C.f71 B hB1 hB2 x.tree.binds (IntKind.i64.wrap ((IntKind.i64.wrap ((IntKind.i64.wrap ((IntKind.i64.wrap ((IntKind.i64.wrap (k+1))+1))+1))+1))+1)) _ rfl).go 2 rfl (by simp) ?_
     repeat(first|refine chk.ga ?_|simp -dsimp[hne,hrow,hrow',hset,hrl,hin,w1,List.set_set,o_h1,o_h2,o_h3,o_h4])
     refine(C.f70 B hB1 hB2 x.tree.path ((Vl.PathBind.mkL x.tree.binds (IntKind.i64.wrap ((IntKind.i64.wrap ((IntKind.i64.wrap ((IntKind.i64.wrap ((IntKind.i64.wrap (k+1))+1))+1))+1))+1))).2) _ rfl).go 3 rfl (by simp) ?_
     repeat(first|refine chk.ga ?_|simp -dsimp[hne,hrow,hrow',hset,hrl,hin,w1,List.set_set,o_h1,o_h2,o_h3,o_h4])
     have sz2:SizeOf.sizeOf x.tree.branches<m:=by have h0:=hz x (by simp);obtain⟨c1,c2,c3,t1⟩:=x;cases t1;simp at h0 ⊢;omega
     refine(ih.1 x.tree.branches ((mkI x.tree.path ((Vl.PathBind.mkL x.tree.binds (IntKind.i64.wrap ((IntKind.i64.wrap ((IntKind.i64.wrap ((IntKind.i64.wrap ((IntKind.i64.wrap (k+1))+1))+1))+1))+1))).2)).2) sz2).go 4 rfl (by simp) ?_
     repeat(first|refine chk.ga ?_|simp -dsimp[hne,hrow,hrow',hset,hrl,hin,w1,List.set_set,o_h1,o_h2,o_h3,o_h4])
     have sz3:SizeOf.sizeOf x.tree.els<m:=by have h0:=hz x (by simp);obtain⟨c1,c2,c3,t1⟩:=x;cases t1;simp at h0 ⊢;omega
     refine(ih.2 x.tree.els ((Vl.Branch.mkL x.tree.branches ((mkI x.tree.path ((Vl.PathBind.mkL x.tree.binds (IntKind.i64.wrap ((IntKind.i64.wrap ((IntKind.i64.wrap ((IntKind.i64.wrap ((IntKind.i64.wrap (k+1))+1))+1))+1))+1))).2)).2)).2) sz3).go 5 rfl (by simp) ?_
     repeat(first|refine chk.ga ?_|simp -dsimp[hne,hrow,hrow',hset,hrl,hin,w1,List.set_set,o_h1,o_h2,o_h3,o_h4])
     refine Again.go ⟨[(0,.own 0 n),(1,.lit (.int .i64 ((Vl.Tree.mkL x.tree.els ((Vl.Branch.mkL x.tree.branches ((mkI x.tree.path ((Vl.PathBind.mkL x.tree.binds (IntKind.i64.wrap ((IntKind.i64.wrap ((IntKind.i64.wrap ((IntKind.i64.wrap ((IntKind.i64.wrap (k+1))+1))+1))+1))+1))).2)).2)).2)).2))),(5,.lit (.int .i64 ((i+1:Nat):Int)))],[.elems 9 (rows.set i [.lit (.int .i64 k),.lit (.int .i64 (IntKind.i64.wrap (k+1))),.lit (.int .i64 (IntKind.i64.wrap ((IntKind.i64.wrap (k+1))+1))),.lit (.int .i64 (IntKind.i64.wrap ((IntKind.i64.wrap ((IntKind.i64.wrap (k+1))+1))+1))),.lit (.int .i64 (IntKind.i64.wrap ((IntKind.i64.wrap ((IntKind.i64.wrap ((IntKind.i64.wrap (k+1))+1))+1))+1))),.lit h1,.lit h2,.lit h3,.lit h4]),.pack (List.flatten (List.map Vl.Branch.c ((D++[(⟨k,IntKind.i64.wrap (k+1),IntKind.i64.wrap ((IntKind.i64.wrap (k+1))+1),(⟨IntKind.i64.wrap ((IntKind.i64.wrap ((IntKind.i64.wrap (k+1))+1))+1),IntKind.i64.wrap ((IntKind.i64.wrap ((IntKind.i64.wrap ((IntKind.i64.wrap (k+1))+1))+1))+1),(Vl.PathBind.mkL x.tree.binds (IntKind.i64.wrap ((IntKind.i64.wrap ((IntKind.i64.wrap ((IntKind.i64.wrap ((IntKind.i64.wrap (k+1))+1))+1))+1))+1))).1,(mkI x.tree.path ((Vl.PathBind.mkL x.tree.binds (IntKind.i64.wrap ((IntKind.i64.wrap ((IntKind.i64.wrap ((IntKind.i64.wrap ((IntKind.i64.wrap (k+1))+1))+1))+1))+1))).2)).1,(Vl.Branch.mkL x.tree.branches ((mkI x.tree.path ((Vl.PathBind.mkL x.tree.binds (IntKind.i64.wrap ((IntKind.i64.wrap ((IntKind.i64.wrap ((IntKind.i64.wrap ((IntKind.i64.wrap (k+1))+1))+1))+1))+1))).2)).2)).1,(Vl.Tree.mkL x.tree.els ((Vl.Branch.mkL x.tree.branches ((mkI x.tree.path ((Vl.PathBind.mkL x.tree.binds (IntKind.i64.wrap ((IntKind.i64.wrap ((IntKind.i64.wrap ((IntKind.i64.wrap ((IntKind.i64.wrap (k+1))+1))+1))+1))+1))).2)).2)).2)).1⟩:Vl.Tree)⟩:Vl.BranchOf Vl.Tree)])++r))) (UA++([.int .i64 k,.int .i64 (IntKind.i64.wrap (k+1)),.int .i64 (IntKind.i64.wrap ((IntKind.i64.wrap (k+1))+1)),.int .i64 (IntKind.i64.wrap ((IntKind.i64.wrap ((IntKind.i64.wrap (k+1))+1))+1)),.int .i64 (IntKind.i64.wrap ((IntKind.i64.wrap ((IntKind.i64.wrap ((IntKind.i64.wrap (k+1))+1))+1))+1)),h1,h2,h3,h4]++UC))]⟩
      (by refine Gh.trans (Gh.setAt 1 [2,3,4,5] (XA:=List.flatten (List.map Vl.Branch.c D)) (old:=[.lit (.int .i64 x.ctor),.lit (.int .i64 x.n),.lit (.int .i64 x.m),.lit (.int .i64 x.tree.op),.lit (.int .i64 x.tree.clause),.lit h1,.lit h2,.lit h3,.lit h4]) (XC:=List.flatten (List.map Vl.Branch.c r)) (UA:=UA) (uo:=[.int .i64 x.ctor,.int .i64 x.n,.int .i64 x.m,.int .i64 x.tree.op,.int .i64 x.tree.clause,h1,h2,h3,h4]) (UC:=UC) (by exact rfl) (by simp) (by simp) hlA rfl (.lit (.int .i64 k) (.lit (.int .i64 (IntKind.i64.wrap (k+1))) (.lit (.int .i64 (IntKind.i64.wrap ((IntKind.i64.wrap (k+1))+1))) (.lit (.int .i64 (IntKind.i64.wrap ((IntKind.i64.wrap ((IntKind.i64.wrap (k+1))+1))+1))) (.lit (.int .i64 (IntKind.i64.wrap ((IntKind.i64.wrap ((IntKind.i64.wrap ((IntKind.i64.wrap (k+1))+1))+1))+1))) (.pk 2 (by exact rfl) (.pk 3 (by exact rfl) (.pk 4 (by exact rfl) (.pk 5 (by exact rfl) .nil))))))))) (by decide)) ?_;exact Gh.to3 (by simp) (by simp -dsimp[RW.closed H])) ?_
     have he:Vl.Branch.mkL (x::r) k=((⟨k,IntKind.i64.wrap (k+1),IntKind.i64.wrap ((IntKind.i64.wrap (k+1))+1),(⟨IntKind.i64.wrap ((IntKind.i64.wrap ((IntKind.i64.wrap (k+1))+1))+1),IntKind.i64.wrap ((IntKind.i64.wrap ((IntKind.i64.wrap ((IntKind.i64.wrap (k+1))+1))+1))+1),(Vl.PathBind.mkL x.tree.binds (IntKind.i64.wrap ((IntKind.i64.wrap ((IntKind.i64.wrap ((IntKind.i64.wrap ((IntKind.i64.wrap (k+1))+1))+1))+1))+1))).1,(mkI x.tree.path ((Vl.PathBind.mkL x.tree.binds (IntKind.i64.wrap ((IntKind.i64.wrap ((IntKind.i64.wrap ((IntKind.i64.wrap ((IntKind.i64.wrap (k+1))+1))+1))+1))+1))).2)).1,(Vl.Branch.mkL x.tree.branches ((mkI x.tree.path ((Vl.PathBind.mkL x.tree.binds (IntKind.i64.wrap ((IntKind.i64.wrap ((IntKind.i64.wrap ((IntKind.i64.wrap ((IntKind.i64.wrap (k+1))+1))+1))+1))+1))).2)).2)).1,(Vl.Tree.mkL x.tree.els ((Vl.Branch.mkL x.tree.branches ((mkI x.tree.path ((Vl.PathBind.mkL x.tree.binds (IntKind.i64.wrap ((IntKind.i64.wrap ((IntKind.i64.wrap ((IntKind.i64.wrap ((IntKind.i64.wrap (k+1))+1))+1))+1))+1))).2)).2)).2)).1⟩:Vl.Tree)⟩:Vl.BranchOf Vl.Tree)::(Vl.Branch.mkL r ((Vl.Tree.mkL x.tree.els ((Vl.Branch.mkL x.tree.branches ((mkI x.tree.path ((Vl.PathBind.mkL x.tree.binds (IntKind.i64.wrap ((IntKind.i64.wrap ((IntKind.i64.wrap ((IntKind.i64.wrap ((IntKind.i64.wrap (k+1))+1))+1))+1))+1))).2)).2)).2)).2)).1,(Vl.Branch.mkL r ((Vl.Tree.mkL x.tree.els ((Vl.Branch.mkL x.tree.branches ((mkI x.tree.path ((Vl.PathBind.mkL x.tree.binds (IntKind.i64.wrap ((IntKind.i64.wrap ((IntKind.i64.wrap ((IntKind.i64.wrap ((IntKind.i64.wrap (k+1))+1))+1))+1))+1))).2)).2)).2)).2)).2):=by(first|rfl|(cases x;all_goals(try(rename_i t0;cases t0));simp[Vl.Branch.mkL,Vl.Branch.mkE,Vl.Tree.mkE]))
     rw[he]at hq
     refine ihr (D++[(⟨k,IntKind.i64.wrap (k+1),IntKind.i64.wrap ((IntKind.i64.wrap (k+1))+1),(⟨IntKind.i64.wrap ((IntKind.i64.wrap ((IntKind.i64.wrap (k+1))+1))+1),IntKind.i64.wrap ((IntKind.i64.wrap ((IntKind.i64.wrap ((IntKind.i64.wrap (k+1))+1))+1))+1),(Vl.PathBind.mkL x.tree.binds (IntKind.i64.wrap ((IntKind.i64.wrap ((IntKind.i64.wrap ((IntKind.i64.wrap ((IntKind.i64.wrap (k+1))+1))+1))+1))+1))).1,(mkI x.tree.path ((Vl.PathBind.mkL x.tree.binds (IntKind.i64.wrap ((IntKind.i64.wrap ((IntKind.i64.wrap ((IntKind.i64.wrap ((IntKind.i64.wrap (k+1))+1))+1))+1))+1))).2)).1,(Vl.Branch.mkL x.tree.branches ((mkI x.tree.path ((Vl.PathBind.mkL x.tree.binds (IntKind.i64.wrap ((IntKind.i64.wrap ((IntKind.i64.wrap ((IntKind.i64.wrap ((IntKind.i64.wrap (k+1))+1))+1))+1))+1))).2)).2)).1,(Vl.Tree.mkL x.tree.els ((Vl.Branch.mkL x.tree.branches ((mkI x.tree.path ((Vl.PathBind.mkL x.tree.binds (IntKind.i64.wrap ((IntKind.i64.wrap ((IntKind.i64.wrap ((IntKind.i64.wrap ((IntKind.i64.wrap (k+1))+1))+1))+1))+1))).2)).2)).2)).1⟩:Vl.Tree)⟩:Vl.BranchOf Vl.Tree)]) _ (i+1) n _ _ (fun y hy=>hz y (List.mem_cons_of_mem _ hy)) (by simp[hi]) (by simp at hn;omega) (by simpa using H.setAt hin hUA rfl [.int .i64 k,.int .i64 (IntKind.i64.wrap (k+1)),.int .i64 (IntKind.i64.wrap ((IntKind.i64.wrap (k+1))+1)),.int .i64 (IntKind.i64.wrap ((IntKind.i64.wrap ((IntKind.i64.wrap (k+1))+1))+1)),.int .i64 (IntKind.i64.wrap ((IntKind.i64.wrap ((IntKind.i64.wrap ((IntKind.i64.wrap (k+1))+1))+1))+1)),h1,h2,h3,h4] rfl) _ rfl _ fun R U hR=> ?_
     simpa using hq R U hR
   refine MCall.enter 9 Try.func28 (by kernel_rfl) rfl Try.ntmps28 (by simp) (by simp[Vl.Branch.mkL_len]) (fun e he=>by obtain⟨x,_,rfl⟩:=List.mem_map.1 he;exact Vl.Branch.c_len x) ?_ ?_
   ·intro he
    have he:a0=[]:=by simpa using he
    subst he
    repeat(first|refine chk.ga ?_|simp -dsimp)
    refine ALoop.goU ⟨[(0,.arr []),(1,.lit (.int .i64 k0)),(5,.lit (.int .i64 0))],[]⟩ (Gh.to3 (by simp) (by simp -dsimp)) ?_
    refine ALoopU.enter ?_
    repeat(first|refine chk.ga ?_|simp -dsimp)
    refine Leave.go _ (Gh.refl _) ?_
    repeat(first|refine chk.ga ?_|simp -dsimp)
    all_goals(try simp[Vl.Branch.mkL])
   ·intro hne rows us e1 e2 e3 e4
    have H:RW 9 a0.length rows us:=⟨by simpa using e2,e3,e1⟩
    repeat(first|refine chk.ga ?_|simp -dsimp)
    refine ALoop.goU ⟨[(0,.own 0 a0.length),(1,.lit (.int .i64 k0)),(5,.lit (.int .i64 ((0:Nat):Int)))],[.elems 9 rows,.pack (List.flatten (List.map Vl.Branch.c ([]++a0))) us]⟩ (Gh.to3 (by simp) (by simp -dsimp[RW.closed H])) ?_
    refine loop a0 [] k0 0 a0.length rows us hz0 rfl (by simp) H _ rfl _ ?_
    intro R U hR
    repeat(first|refine chk.ga ?_|simp -dsimp)
    exact⟨rfl,R,U,rfl,⟨1,by simp⟩,hR.2.2,by rw[hR.1];simp[Vl.Branch.mkL_len],fun x hx=>by obtain⟨y,_,rfl⟩:=List.mem_map.1 hx;exact Vl.Branch.c_len y⟩
  ·intro a0 k0 hm
   have hz0:∀x,x∈a0→SizeOf.sizeOf x<m:=fun x hx=>by have:=List.sizeOf_lt_of_mem hx;omega
   have loop:∀(rest D:List Vl.Tree) (k:Int) (i n:Nat) (rows:List (List AV)) (us:List Go.Value),(∀x,x∈rest→SizeOf.sizeOf x<m)→i=D.length→n=i+rest.length→RW 6 n rows us→
     ∀(c:Code),navO [1,0,1,0,0] (bodyOf Try.f29)=some c→∀(Q:Exit→ASt→Prop),
     (∀(R:List (List AV)) (U:List Go.Value),RW 6 n R U→Q (.exit 0) ⟨[(1,.lit (.int .i64 (Vl.Tree.mkL rest k).2))],[.elems 6 R,.pack (List.flatten (List.map Vl.Tree.c (D++(Vl.Tree.mkL rest k).1))) U]⟩)→
     ALoopU Try.prog B 2 55 (hold c .mk) ⟨[(0,.own 0 n),(1,.lit (.int .i64 k)),(5,.lit (.int .i64 (i:Int)))],[.elems 6 rows,.pack (List.flatten (List.map Vl.Tree.c (D++rest))) us]⟩ (hold Q .mk):=by
    intro rest
    induction rest with
    |nil=>
     intro D k i n rows us hz hi hn H c hc Q hq
     obtain rfl:c=_:=navEq hc rfl
     have hn':n=i:=by simpa using hn
     subst hn'
     refine ALoopU.enter ?_
     repeat(first|refine chk.ga ?_|simp -dsimp[RW.len H])
     refine Leave.go ⟨[(1,.lit (.int .i64 k))],[.elems 6 rows,.pack (List.flatten (List.map Vl.Tree.c D)) us]⟩ (Gh.to3 (by simp) (by simp -dsimp[RW.closed H])) ?_
     simpa[Vl.Tree.mkL]using hq rows us H
    |cons x r ihr=>
     intro D k i n rows us hz hi hn H c hc Q hq
     refine ALoopU.opnAt4 1 (List.flatten (List.map Vl.Tree.c D)) (Vl.Tree.c x) (List.flatten (List.map Vl.Tree.c r)) rfl (by simp) (by simp) ?_
     intro h1 h2 h3 h4 vs UA UC o_h1 o_h2 o_h3 o_h4 hlt hU hlA
     have hv:vs=[.int .i64 x.op,.int .i64 x.clause,h1,h2,h3,h4]:=by apply lits_inj;rw[←hlt];simp
     subst hv hU
     have hUA:UA.length=i*6:=by rw[hlA,flatc_len Vl.Tree.c_len,hi]
     have hin:i<n:=by simp at hn;omega
     have hrow:rows[i]? =some [.lit (.int .i64 x.op),.lit (.int .i64 x.clause),.lit h1,.lit h2,.lit h3,.lit h4]:=by simpa using H.at hin rfl hUA rfl
     have hne:¬rows=[]:=by intro e;rw[e]at hrow;simp at hrow
     have hrl:=RW.len H
     have hrow':∀(h:i<rows.length),rows[i]=[.lit (.int .i64 x.op),.lit (.int .i64 x.clause),.lit h1,.lit h2,.lit h3,.lit h4]:=fun h=>by rw[List.getElem?_eq_getElem h]at hrow;exact Option.some.inj hrow
     have hset:∀a,(rows.set i a)[i]? =some a:=fun a=>List.getElem?_set_self (by omega)
     clear hlt
     refine ALoopU.know fun hk hs=> ?_
     have d0:=hs 0 _ rfl
     simp -dsimp[Blk.bnd]at d0
     clear hk hs
     obtain rfl:c=_:=navEq hc rfl
     have w1:IntKind.i64.wrap ((i:Int)+1)=(i:Int)+1:=wrap_in (by omega) (by omega)
     refine ALoopU.enter ?_
     repeat(first|refine chk.ga ?_|simp -dsimp[hne,hrow,hrow',hset,hrl,hin,w1,List.set_set,o_h1,o_h2,o_h3,o_h4])
     refine(C.f71 B hB1 hB2 x.binds (IntKind.i64.wrap ((IntKind.i64.wrap (k+1))+1)) _ rfl).go 2 rfl (by simp) ?_
     repeat(first|refine chk.ga ?_|simp -dsimp[hne,hrow,hrow',hset,hrl,hin,w1,List.set_set,o_h1,o_h2,o_h3,o_h4])
     refine(C.f70 B hB1 hB2 x.path ((Vl.PathBind.mkL x.binds (IntKind.i64.wrap ((IntKind.i64.wrap (k+1))+1))).2) _ rfl).go 3 rfl (by simp) ?_
     repeat(first|refine chk.ga ?_|simp -dsimp[hne,hrow,hrow',hset,hrl,hin,w1,List.set_set,o_h1,o_h2,o_h3,o_h4])
     have sz2:SizeOf.sizeOf x.branches<m:=by have h0:=hz x (by simp);cases x;simp at h0 ⊢;omega
     refine(ih.1 x.branches ((mkI x.path ((Vl.PathBind.mkL x.binds (IntKind.i64.wrap ((IntKind.i64.wrap (k+1))+1))).2)).2) sz2).go 4 rfl (by simp) ?_
     repeat(first|refine chk.ga ?_|simp -dsimp[hne,hrow,hrow',hset,hrl,hin,w1,List.set_set,o_h1,o_h2,o_h3,o_h4])
     have sz3:SizeOf.sizeOf x.els<m:=by have h0:=hz x (by simp);cases x;simp at h0 ⊢;omega
     refine(ih.2 x.els ((Vl.Branch.mkL x.branches ((mkI x.path ((Vl.PathBind.mkL x.binds (IntKind.i64.wrap ((IntKind.i64.wrap (k+1))+1))).2)).2)).2) sz3).go 5 rfl (by simp) ?_
     repeat(first|refine chk.ga ?_|simp -dsimp[hne,hrow,hrow',hset,hrl,hin,w1,List.set_set,o_h1,o_h2,o_h3,o_h4])
     refine Again.go ⟨[(0,.own 0 n),(1,.lit (.int .i64 ((Vl.Tree.mkL x.els ((Vl.Branch.mkL x.branches ((mkI x.path ((Vl.PathBind.mkL x.binds (IntKind.i64.wrap ((IntKind.i64.wrap (k+1))+1))).2)).2)).2)).2))),(5,.lit (.int .i64 ((i+1:Nat):Int)))],[.elems 6 (rows.set i [.lit (.int .i64 k),.lit (.int .i64 (IntKind.i64.wrap (k+1))),.lit h1,.lit h2,.lit h3,.lit h4]),.pack (List.flatten (List.map Vl.Tree.c ((D++[(⟨k,IntKind.i64.wrap (k+1),(Vl.PathBind.mkL x.binds (IntKind.i64.wrap ((IntKind.i64.wrap (k+1))+1))).1,(mkI x.path ((Vl.PathBind.mkL x.binds (IntKind.i64.wrap ((IntKind.i64.wrap (k+1))+1))).2)).1,(Vl.Branch.mkL x.branches ((mkI x.path ((Vl.PathBind.mkL x.binds (IntKind.i64.wrap ((IntKind.i64.wrap (k+1))+1))).2)).2)).1,(Vl.Tree.mkL x.els ((Vl.Branch.mkL x.branches ((mkI x.path ((Vl.PathBind.mkL x.binds (IntKind.i64.wrap ((IntKind.i64.wrap (k+1))+1))).2)).2)).2)).1⟩:Vl.Tree)])++r))) (UA++([.int .i64 k,.int .i64 (IntKind.i64.wrap (k+1)),h1,h2,h3,h4]++UC))]⟩
      (by refine Gh.trans (Gh.setAt 1 [2,3,4,5] (XA:=List.flatten (List.map Vl.Tree.c D)) (old:=[.lit (.int .i64 x.op),.lit (.int .i64 x.clause),.lit h1,.lit h2,.lit h3,.lit h4]) (XC:=List.flatten (List.map Vl.Tree.c r)) (UA:=UA) (uo:=[.int .i64 x.op,.int .i64 x.clause,h1,h2,h3,h4]) (UC:=UC) (by exact rfl) (by simp) (by simp) hlA rfl (.lit (.int .i64 k) (.lit (.int .i64 (IntKind.i64.wrap (k+1))) (.pk 2 (by exact rfl) (.pk 3 (by exact rfl) (.pk 4 (by exact rfl) (.pk 5 (by exact rfl) .nil)))))) (by decide)) ?_;exact Gh.to3 (by simp) (by simp -dsimp[RW.closed H])) ?_
     have he:Vl.Tree.mkL (x::r) k=((⟨k,IntKind.i64.wrap (k+1),(Vl.PathBind.mkL x.binds (IntKind.i64.wrap ((IntKind.i64.wrap (k+1))+1))).1,(mkI x.path ((Vl.PathBind.mkL x.binds (IntKind.i64.wrap ((IntKind.i64.wrap (k+1))+1))).2)).1,(Vl.Branch.mkL x.branches ((mkI x.path ((Vl.PathBind.mkL x.binds (IntKind.i64.wrap ((IntKind.i64.wrap (k+1))+1))).2)).2)).1,(Vl.Tree.mkL x.els ((Vl.Branch.mkL x.branches ((mkI x.path ((Vl.PathBind.mkL x.binds (IntKind.i64.wrap ((IntKind.i64.wrap (k+1))+1))).2)).2)).2)).1⟩:Vl.Tree)::(Vl.Tree.mkL r ((Vl.Tree.mkL x.els ((Vl.Branch.mkL x.branches ((mkI x.path ((Vl.PathBind.mkL x.binds (IntKind.i64.wrap ((IntKind.i64.wrap (k+1))+1))).2)).2)).2)).2)).1,(Vl.Tree.mkL r ((Vl.Tree.mkL x.els ((Vl.Branch.mkL x.branches ((mkI x.path ((Vl.PathBind.mkL x.binds (IntKind.i64.wrap ((IntKind.i64.wrap (k+1))+1))).2)).2)).2)).2)).2):=by(first|rfl|(cases x;simp[Vl.Tree.mkL,Vl.Tree.mkE]))
     rw[he]at hq
     refine ihr (D++[(⟨k,IntKind.i64.wrap (k+1),(Vl.PathBind.mkL x.binds (IntKind.i64.wrap ((IntKind.i64.wrap (k+1))+1))).1,(mkI x.path ((Vl.PathBind.mkL x.binds (IntKind.i64.wrap ((IntKind.i64.wrap (k+1))+1))).2)).1,(Vl.Branch.mkL x.branches ((mkI x.path ((Vl.PathBind.mkL x.binds (IntKind.i64.wrap ((IntKind.i64.wrap (k+1))+1))).2)).2)).1,(Vl.Tree.mkL x.els ((Vl.Branch.mkL x.branches ((mkI x.path ((Vl.PathBind.mkL x.binds (IntKind.i64.wrap ((IntKind.i64.wrap (k+1))+1))).2)).2)).2)).1⟩:Vl.Tree)]) _ (i+1) n _ _ (fun y hy=>hz y (List.mem_cons_of_mem _ hy)) (by simp[hi]) (by simp at hn;omega) (by simpa using H.setAt hin hUA rfl [.int .i64 k,.int .i64 (IntKind.i64.wrap (k+1)),h1,h2,h3,h4] rfl) _ rfl _ fun R U hR=> ?_
     simpa using hq R U hR
   refine MCall.enter 6 Try.func29 (by kernel_rfl) rfl Try.ntmps29 (by simp) (by simp[Vl.Tree.mkL_len]) (fun e he=>by obtain⟨x,_,rfl⟩:=List.mem_map.1 he;exact Vl.Tree.c_len x) ?_ ?_
   ·intro he
    have he:a0=[]:=by simpa using he
    subst he
    repeat(first|refine chk.ga ?_|simp -dsimp)
    refine ALoop.goU ⟨[(0,.arr []),(1,.lit (.int .i64 k0)),(5,.lit (.int .i64 0))],[]⟩ (Gh.to3 (by simp) (by simp -dsimp)) ?_
    refine ALoopU.enter ?_
    repeat(first|refine chk.ga ?_|simp -dsimp)
    refine Leave.go _ (Gh.refl _) ?_
    repeat(first|refine chk.ga ?_|simp -dsimp)
    all_goals(try simp[Vl.Tree.mkL])
   ·intro hne rows us e1 e2 e3 e4
    have H:RW 6 a0.length rows us:=⟨by simpa using e2,e3,e1⟩
    repeat(first|refine chk.ga ?_|simp -dsimp)
    refine ALoop.goU ⟨[(0,.own 0 a0.length),(1,.lit (.int .i64 k0)),(5,.lit (.int .i64 ((0:Nat):Int)))],[.elems 6 rows,.pack (List.flatten (List.map Vl.Tree.c ([]++a0))) us]⟩ (Gh.to3 (by simp) (by simp -dsimp[RW.closed H])) ?_
    refine loop a0 [] k0 0 a0.length rows us hz0 rfl (by simp) H _ rfl _ ?_
    intro R U hR
    repeat(first|refine chk.ga ?_|simp -dsimp)
    exact⟨rfl,R,U,rfl,⟨1,by simp⟩,hR.2.2,by rw[hR.1];simp[Vl.Tree.mkL_len],fun x hx=>by obtain⟨y,_,rfl⟩:=List.mem_map.1 hx;exact Vl.Tree.c_len y⟩
theorem C.f74 (a:List Vl.Branch)(k:Int)(v:List Vl.Branch×Int)(hF:F.f74 a k=some v):MCall Try.prog B 28 (List.map Vl.Branch.c a) [.int .i64 k] (List.map Vl.Branch.c v.1) (.int .i64 v.2):=by
 obtain rfl:=Option.some.inj hF
 exact(CM.laws_markBranchS B hB1 hB2 (SizeOf.sizeOf a+1)).1 a k (Nat.lt_succ_self _)
theorem C.f75 (a:List Vl.Tree)(k:Int)(v:List Vl.Tree×Int)(hF:F.f75 a k=some v):MCall Try.prog B 29 (List.map Vl.Tree.c a) [.int .i64 k] (List.map Vl.Tree.c v.1) (.int .i64 v.2):=by
 obtain rfl:=Option.some.inj hF
 exact(CM.laws_markBranchS B hB1 hB2 (SizeOf.sizeOf a+1)).2 a k (Nat.lt_succ_self _)
end Go.Proofs.Ytojdombnghnbmaa
