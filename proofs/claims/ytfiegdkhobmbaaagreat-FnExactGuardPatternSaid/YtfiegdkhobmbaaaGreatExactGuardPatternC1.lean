/- The contracts: the code computes the functions (printed by gen.py). -/
import Derived.Test.YtfiegdkhobmbaaaGreatProg
import Derived.Test.YtfiegdkhobmbaaaGreatExactGuardPatternF
namespace Go.Proofs.YtfiegdkhobmbaaaGreat
open Go Go.Proofs Go.Vl
set_option linter.unusedSimpArgs false
set_option linter.unusedVariables false
set_option linter.unusedSectionVars false
set_option maxRecDepth 100000
set_option maxHeartbeats 4000000
attribute [local irreducible] ECallA NCallA aL aLg AMake MLoop AgainM LeaveM awpM aopsM MutCall BCall chk abr ACall ALoop ALoopU ADraw Again Leave PCallA PCall Post awp aops PureCall hold
theorem follows :Tryz.prog.follows .mixedOrders=true:=by kernel_rfl
@[simp] theorem ti2 :tiOf Tryz.prog 2=some ⟨.word,1,[.int .i64 0]⟩:=by kernel_rfl
@[simp] theorem ti3 :tiOf Tryz.prog 3=some ⟨.word,1,[.int .i64 0]⟩:=by kernel_rfl
@[simp] theorem ti4 :tiOf Tryz.prog 4=some ⟨.word,1,[.bool false]⟩:=by kernel_rfl
@[simp] theorem ti5 :tiOf Tryz.prog 5=some ⟨.word,1,[.int .u8 0]⟩:=by kernel_rfl
@[simp] theorem ti9 :tiOf Tryz.prog 9=some ⟨.word,1,[.string ByteArray.empty]⟩:=by kernel_rfl
@[simp] theorem ti22 :tiOf Tryz.prog 22=some ⟨.slice 2 40 [.string ByteArray.empty,.slice none 0 0],1,[.slice none 0 0]⟩:=by kernel_rfl
@[simp] theorem sl22 :isSl Tryz.prog 22=true:=by kernel_rfl
@[simp] theorem ti24 :tiOf Tryz.prog 24=some ⟨.struct [(0,1),(1,1)],2,[.int .i64 0,.int .i64 0]⟩:=by kernel_rfl
@[simp] theorem pr24 :pair2B Tryz.prog 24=true:=by kernel_rfl
@[simp] theorem ti25 :tiOf Tryz.prog 25=some ⟨.slice 6 64 [.int .i64 0,.int .i64 0,.int .i64 0,.int .i64 0,.int .i64 0,.slice none 0 0],1,[.slice none 0 0]⟩:=by kernel_rfl
@[simp] theorem sl25 :isSl Tryz.prog 25=true:=by kernel_rfl
@[simp] theorem ti27 :tiOf Tryz.prog 27=some ⟨.struct [(0,1),(1,1),(2,1),(3,1),(4,1),(5,1)],6,[.int .i64 0,.int .i64 0,.int .i64 0,.int .i64 0,.int .i64 0,.slice none 0 0]⟩:=by kernel_rfl
@[simp] theorem ti30 :tiOf Tryz.prog 30=some ⟨.slice 6 64 [.int .i64 0,.int .i64 0,.int .i64 0,.int .i64 0,.int .i64 0,.slice none 0 0],1,[.slice none 0 0]⟩:=by kernel_rfl
@[simp] theorem sl30 :isSl Tryz.prog 30=true:=by kernel_rfl
@[simp] theorem ti32 :tiOf Tryz.prog 32=some ⟨.struct [(0,1),(1,1),(2,1),(3,1),(4,1),(5,1)],6,[.int .i64 0,.int .i64 0,.int .i64 0,.int .i64 0,.int .i64 0,.slice none 0 0]⟩:=by kernel_rfl
@[simp] theorem ti35 :tiOf Tryz.prog 35=some ⟨.slice 2 40 [.string ByteArray.empty,.slice none 0 0],1,[.slice none 0 0]⟩:=by kernel_rfl
@[simp] theorem sl35 :isSl Tryz.prog 35=true:=by kernel_rfl
@[simp] theorem ti37 :tiOf Tryz.prog 37=some ⟨.struct [(0,1),(1,1)],2,[.int .i64 0,.int .i64 0]⟩:=by kernel_rfl
@[simp] theorem pr37 :pair2B Tryz.prog 37=true:=by kernel_rfl
@[simp] theorem ti46 :tiOf Tryz.prog 46=some ⟨.struct [(0,1),(1,1),(2,1)],3,[.int .i64 0,.int .i64 0,.int .i64 0]⟩:=by kernel_rfl
@[simp] theorem pr46 :trip3B Tryz.prog 46=true:=by kernel_rfl
@[simp] theorem ti48 :tiOf Tryz.prog 48=some ⟨.struct [(0,6),(6,3)],9,[.int .i64 0,.int .i64 0,.int .i64 0,.int .i64 0,.int .i64 0,.slice none 0 0,.int .i64 0,.int .i64 0,.int .i64 0]⟩:=by kernel_rfl
@[simp] theorem ti50 :tiOf Tryz.prog 50=some ⟨.struct [(0,1),(1,1),(2,1)],3,[.int .i64 0,.int .i64 0,.int .i64 0]⟩:=by kernel_rfl
@[simp] theorem pr50 :trip3B Tryz.prog 50=true:=by kernel_rfl
@[simp] theorem ti52 :tiOf Tryz.prog 52=some ⟨.struct [(0,6),(6,3)],9,[.int .i64 0,.int .i64 0,.int .i64 0,.int .i64 0,.int .i64 0,.slice none 0 0,.int .i64 0,.int .i64 0,.int .i64 0]⟩:=by kernel_rfl
@[simp] theorem ti79 :tiOf Tryz.prog 79=some ⟨.slice 3 48 [.string ByteArray.empty,.slice none 0 0,.int .i64 0],1,[.slice none 0 0]⟩:=by kernel_rfl
@[simp] theorem sl79 :isSl Tryz.prog 79=true:=by kernel_rfl
@[simp] theorem ti81 :tiOf Tryz.prog 81=some ⟨.struct [(0,1),(1,1)],2,[.string ByteArray.empty,.slice none 0 0]⟩:=by kernel_rfl
@[simp] theorem ti86 :tiOf Tryz.prog 86=some ⟨.slice 3 48 [.string ByteArray.empty,.slice none 0 0,.int .i64 0],1,[.slice none 0 0]⟩:=by kernel_rfl
@[simp] theorem sl86 :isSl Tryz.prog 86=true:=by kernel_rfl
@[simp] theorem ti88 :tiOf Tryz.prog 88=some ⟨.struct [(0,1),(1,1)],2,[.string ByteArray.empty,.slice none 0 0]⟩:=by kernel_rfl
@[simp] theorem ti104 :tiOf Tryz.prog 104=some ⟨.slice 1 8 [.int .i64 0],1,[.slice none 0 0]⟩:=by kernel_rfl
@[simp] theorem sl104 :isSl Tryz.prog 104=true:=by kernel_rfl
@[simp] theorem ti139 :tiOf Tryz.prog 139=some ⟨.slice 2 16 [.int .i64 0,.int .i64 0],1,[.slice none 0 0]⟩:=by kernel_rfl
@[simp] theorem sl139 :isSl Tryz.prog 139=true:=by kernel_rfl
@[simp] theorem ti147 :tiOf Tryz.prog 147=some ⟨.slice 1 1 [.int .u8 0],1,[.slice none 0 0]⟩:=by kernel_rfl
@[simp] theorem sl147 :isSl Tryz.prog 147=true:=by kernel_rfl
@[simp] theorem ti149 :tiOf Tryz.prog 149=some ⟨.struct [(0,1),(1,1),(2,1)],3,[.string ByteArray.empty,.slice none 0 0,.int .i64 0]⟩:=by kernel_rfl
@[simp] theorem ti155 :tiOf Tryz.prog 155=some ⟨.slice 3 24 [.int .i64 0,.int .i64 0,.int .i64 0],1,[.slice none 0 0]⟩:=by kernel_rfl
@[simp] theorem sl155 :isSl Tryz.prog 155=true:=by kernel_rfl
@[simp] theorem ti188 :tiOf Tryz.prog 188=some ⟨.slice 2 16 [.int .i64 0,.int .i64 0],1,[.slice none 0 0]⟩:=by kernel_rfl
@[simp] theorem sl188 :isSl Tryz.prog 188=true:=by kernel_rfl
@[simp] theorem ti190 :tiOf Tryz.prog 190=some ⟨.struct [(0,1),(1,1),(2,1)],3,[.string ByteArray.empty,.slice none 0 0,.int .i64 0]⟩:=by kernel_rfl
@[simp] theorem ti203 :tiOf Tryz.prog 203=some ⟨.struct [(0,1),(1,2)],3,[.int .i64 0,.int .i64 0,.int .i64 0]⟩:=by kernel_rfl
@[simp] theorem pr203 :trip3B Tryz.prog 203=true:=by kernel_rfl
@[simp] theorem ti235 :mapB Tryz.prog 235=true:=by kernel_rfl
@[simp] theorem ti243 :tiOf Tryz.prog 243=some ⟨.array 6 1,6,[.bool false,.bool false,.bool false,.bool false,.bool false,.bool false]⟩:=by kernel_rfl
attribute [simp] Tryz.underlying2 Tryz.underlying3 Tryz.underlying4 Tryz.underlying5 Tryz.underlying9 Tryz.underlying22 Tryz.underlying25 Tryz.underlying30 Tryz.underlying35 Tryz.underlying79 Tryz.underlying86 Tryz.underlying104 Tryz.underlying139 Tryz.underlying147 Tryz.underlying155 Tryz.underlying188 Tryz.underlying243 Tryz.results4 Tryz.results7 Tryz.results8 Tryz.results10 Tryz.results11 Tryz.results12 Tryz.results14 Tryz.results15 Tryz.results16 Tryz.results17 Tryz.results18 Tryz.results19 Tryz.results20 Tryz.results21 Tryz.results22 Tryz.results23 Tryz.results24 Tryz.results25 Tryz.results40 Tryz.results41 Tryz.results43 Tryz.results45 Tryz.results46 Tryz.results48 Tryz.results50 Tryz.results51 Tryz.results52 Tryz.results53 Tryz.results54 Tryz.results55 Tryz.results56 Tryz.results57 Tryz.results58 Tryz.results59 Tryz.results60 Tryz.results61 Tryz.results62 Tryz.results63 Tryz.results64 Tryz.results92 Tryz.results93 Tryz.results94 Tryz.results98 Tryz.results99 Tryz.results102 Tryz.results103 Tryz.results107 Tryz.results110 Tryz.results111 Tryz.results112 Tryz.results113 Tryz.results114 Tryz.results115 Tryz.results116 Tryz.results117 Tryz.results118 Tryz.results119 Tryz.results122 Tryz.results131 Tryz.results147 Tryz.results148 Tryz.results149 Tryz.results150 Tryz.results151 Tryz.results152 Tryz.results154 Tryz.results155 Tryz.results156 Tryz.results157 Tryz.results158 Tryz.results159 Tryz.results164 Tryz.results165 Tryz.results166 Tryz.results167 Tryz.results168 Tryz.results169 Tryz.results170 Tryz.results172 Tryz.results173 Tryz.results175 Tryz.results176 Tryz.results190 Tryz.results191 Tryz.results192 Tryz.results193 Tryz.results194 Tryz.results195 Tryz.results196 Tryz.results197 Tryz.results198 Tryz.results199 Tryz.results200 Tryz.results203 Tryz.results204 Tryz.results205 Tryz.results206 Tryz.results207 Tryz.results213 Tryz.results214 Tryz.results215 Tryz.results216 Tryz.results217 Tryz.results218 Tryz.results219 Tryz.results220 Tryz.results221 Tryz.results222 Tryz.results224 Tryz.results225
variable (B : Nat) (hB1 : 67108864 ≤ B) (hB2 : B ≤ 9223372036854775807)
include hB1 hB2
theorem CC.f0  :(∀(k3:Int) (out:ByteArray) (o:ByteArray),F.f0 k3 out=some o→∀(c:Code),navO [1,1,1,0,0,0] (bodyOf Tryz.f52)=some c→∀(Q:Exit→ASt→Prop),(Q (.exit 0) ⟨[(3,.lit (.string o))],[]⟩)→ALoopU Tryz.prog B 0 20 (hold c .mk) ⟨[(0,.lit (.int .i64 k3)),(3,.lit (.string out))],[]⟩ (hold Q .mk)):=by
 refine F.f0.partial_correctness 
  _
  ?_
 ·intro _f_f0 ih_f0 k3 out o hF
  intro c hc Q hq
  obtain rfl:c=_:=navEq hc rfl
  refine ALoopU.know fun hk hs=> ?_
  clear hk hs
  refine ALoopU.enter ?_
  repeat(first|refine chk.ga ?_|simp -dsimp)
  refine abr.split (fun h4=> ?_) (fun h4=> ?_)
  ·have q5:(0<k3):=auq h4
   rw[if_pos q5]at hF
   have hF:=oc hF;obtain⟨c6,hF⟩:=hF
   repeat(first|refine chk.ga ?_|simp -dsimp[h4])
   refine Again.go _ ?_ ((ih_f0 (IntKind.i64.wrap (k3.tdiv 10)) ((strB [IntKind.u8.wrap (IntKind.i64.wrap (48+k3.tmod 10))])++out) o hF) _ rfl _ hq)
   exact(Gh.to3 (by simp) (by first|simp -dsimp[h4];done|simp_all))
  ·have q5:¬(0<k3):=auq h4
   rw[if_neg q5]at hF
   cases hF
   repeat(first|refine chk.ga ?_|simp -dsimp[h4,q5])
   refine Leave.go ⟨[(3,.lit (.string out))],[]⟩ (Gh.to3 (by simp) (by first|simp -dsimp[h4,q5];done|simp_all)) ?_
   exact hq
theorem C.f1 (k:Int)(r:ByteArray)(hF:F.f1 k=some r):PureCall Tryz.prog B 52 [.lit (.int .i64 k)] (.lit (.string r)):=by
 unfold F.f1 at hF
 refine PureCall.enterLe Tryz.func52 (by kernel_rfl) rfl Tryz.ntmps52 (by simp) (by simp) ?_
 repeat(first|refine chk.ga ?_|simp -dsimp)
 refine abr.split (fun h1=> ?_) (fun h1=> ?_)
 ·have q2:(k≤0):=auq h1
  rw[if_pos q2]at hF
  cases hF
  repeat(first|refine chk.ga ?_|simp -dsimp[h1])
  all_goals(try first|omega|rfl)
 ·have q2:¬(k≤0):=auq h1
  rw[if_neg q2]at hF
  repeat(first|refine chk.ga ?_|simp -dsimp[h1,q2])
  have hF:=ob hF;obtain⟨o',ho7,hF⟩:=hF
  refine ALoop.goU _ ?_ (((CC.f0 B hB1 hB2) k ByteArray.empty o' ho7) _ rfl _ ?_)
  ·exact(Gh.to3 (by simp) (by first|simp -dsimp[h1,q2];done|simp_all))
  have hF:=oc hF;obtain⟨c8,hF⟩:=hF
  cases hF
  repeat(first|refine chk.ga ?_|simp -dsimp)
  all_goals(try first|omega|rfl)
theorem C.f2 (a:List Vl.Ty)(left':Int)(r:Int)(hF:F.f2 a left'=some r):PureCall Tryz.prog B 190 [.arr (List.map Vl.Ty.c a),.lit (.int .i64 left')] (.lit (.int .i64 r)):=by
 unfold F.f2 at hF
 refine PureCall.enterLe Tryz.func190 (by kernel_rfl) rfl Tryz.ntmps190 (by simp) (by simp) ?_
 repeat(first|refine chk.ga ?_|simp -dsimp)
 refine abr.split (fun h1=> ?_) (fun h1=> ?_)
 ·have q2:(IntKind.i64.wrap (left'- (a.length:Int))<0):=auq h1
  rw[if_pos q2]at hF
  cases hF
  repeat(first|refine chk.ga ?_|simp -dsimp[h1])
  all_goals(try first|omega|rfl)
 ·have q2:¬(IntKind.i64.wrap (left'- (a.length:Int))<0):=auq h1
  rw[if_neg q2]at hF
  cases hF
  repeat(first|refine chk.ga ?_|simp -dsimp[h1,q2])
  all_goals(try first|omega|rfl)
theorem C.f3 (a:Vl.Ctor)(left':Int)(r:Int)(hF:F.f3 a left'=some r):PureCall Tryz.prog B 147 [.agg [.lit (.string a.name),.arr (List.map Vl.Ty.c a.args),.lit (.int .i64 a.index)],.lit (.int .i64 left')] (.lit (.int .i64 r)):=by
 unfold F.f3 at hF
 refine PureCall.enterLe Tryz.func147 (by kernel_rfl) rfl Tryz.ntmps147 (by simp) (by simp) ?_
 repeat(first|refine chk.ga ?_|simp -dsimp)
 refine abr.split (fun h1=> ?_) (fun h1=> ?_)
 ·have q2:(IntKind.i64.wrap (left'- (a.name.size:Int))<0):=auq h1
  rw[if_pos q2]at hF
  cases hF
  repeat(first|refine chk.ga ?_|simp -dsimp[h1])
  all_goals(try first|omega|rfl)
 ·have q2:¬(IntKind.i64.wrap (left'- (a.name.size:Int))<0):=auq h1
  rw[if_neg q2]at hF
  repeat(first|refine chk.ga ?_|simp -dsimp[h1,q2])
  have hF:=ob hF;obtain⟨v,e3,hF⟩:=hF
  refine((C.f2 B hB1 hB2 a.args (IntKind.i64.wrap (left'- (a.name.size:Int))) v e3)).goW (by first|simp[h1,q2];done|simp_all) (by simp) ?_
  repeat(first|refine chk.ga ?_|simp -dsimp[h1,q2])
  refine abr.split (fun h4=> ?_) (fun h4=> ?_)
  ·have q5:(v<0):=auq h4
   rw[if_pos q5]at hF
   cases hF
   repeat(first|refine chk.ga ?_|simp -dsimp[h1,q2,h4])
   all_goals(try first|omega|rfl)
  ·have q5:¬(v<0):=auq h4
   rw[if_neg q5]at hF
   cases hF
   repeat(first|refine chk.ga ?_|simp -dsimp[h1,q2,h4,q5])
   all_goals(try first|omega|rfl)
theorem CC.f4 (a:List Vl.Ctor):(∀(left'3:Int) (i:Nat) (o:Lo Int Int),F.f4 a left'3 i=some o→∀(c:Code),navO [1,1,1,0,1,0,0] (bodyOf Tryz.f92)=some c→∀(Q:Exit→ASt→Prop),o.post (fun r=>∀st,Post Tryz.prog Tryz.f92 (fun r' _=>r'.le (.lit (.int .i64 r))) .ret st→Q .ret st) (fun s=>Q (.exit 0) ⟨[(1,.lit (.int .i64 s))],[]⟩)→ALoopU Tryz.prog B 0 27 (hold c .mk) ⟨[(0,.arr (List.map Vl.Ctor.c a)),(1,.lit (.int .i64 left'3)),(5,.lit (.int .i64 (i:Int)))],[]⟩ (hold Q .mk)):=by
 refine F.f4.partial_correctness a
  _
  ?_
 ·intro _f_f4 ih_f4 left'3 i o hF
  intro c hc Q hq
  obtain rfl:c=_:=navEq hc rfl
  refine ALoopU.know fun hk hs=> ?_
  have b0:=hk 0
  simp -dsimp at b0
  clear hk hs
  refine ALoopU.enter ?_
  repeat(first|refine chk.ga ?_|simp -dsimp)
  refine abr.split (fun h4=> ?_) (fun h4=> ?_)
  ·have q5:(i<a.length):=auq h4
   have z6:((i:Int)<(a.length:Int)):=auz
   rw[if_pos q5]at hF
   have hF:=ob hF;obtain⟨x,e7,hF⟩:=hF
   have le7:=lt_of_get e7
   repeat(first|refine chk.ga ?_|simp -dsimp[h4,z6,↓e7])
   have hF:=ob hF;obtain⟨v,e8,hF⟩:=hF
   refine((C.f3 B hB1 hB2 x left'3 v e8)).goW (by first|simp[h4,z6,↓e7];done|simp_all) (by simp) ?_
   repeat(first|refine chk.ga ?_|simp -dsimp[h4,z6,↓e7])
   refine abr.split (fun h9=> ?_) (fun h9=> ?_)
   ·have q10:(v<0):=auq h9
    rw[if_pos q10]at hF
    cases hF
    repeat(first|refine chk.ga ?_|simp -dsimp[h4,z6,↓e7,h9])
    refine Leave.go _ (Gh.refl _) (hq _ ?_)
    repeat(first|refine chk.ga ?_|simp -dsimp[h4,z6,↓e7,h9])
   ·have q10:¬(v<0):=auq h9
    rw[if_neg q10]at hF
    have w11:IntKind.i64.wrap ((i:Int)+1)=(i:Int)+1:=wrap_in (by omega) (by omega)
    repeat(first|refine chk.ga ?_|simp -dsimp[h4,z6,↓e7,h9,q10,w11])
    refine Again.go _ ?_ ((ih_f4 v (i+1) o hF) _ rfl _ hq)
    exact(Gh.to3 (by simp) (by first|simp -dsimp[h4,z6,↓e7,h9,q10,w11];done|simp_all))
  ·have q5:¬(i<a.length):=auq h4
   have z6:¬((i:Int)<(a.length:Int)):=auz
   rw[if_neg q5]at hF
   cases hF
   repeat(first|refine chk.ga ?_|simp -dsimp[h4,q5,z6])
   refine Leave.go ⟨[(1,.lit (.int .i64 left'3))],[]⟩ (Gh.to3 (by simp) (by first|simp -dsimp[h4,q5,z6];done|simp_all)) ?_
   exact hq
theorem C.f5 (a:List Vl.Ctor)(left':Int)(r:Int)(hF:F.f5 a left'=some r):PureCall Tryz.prog B 92 [.arr (List.map Vl.Ctor.c a),.lit (.int .i64 left')] (.lit (.int .i64 r)):=by
 unfold F.f5 at hF
 refine PureCall.enterLe Tryz.func92 (by kernel_rfl) rfl Tryz.ntmps92 (by simp) (by simp) ?_
 repeat(first|refine chk.ga ?_|simp -dsimp)
 refine abr.split (fun h1=> ?_) (fun h1=> ?_)
 ·have q2:(IntKind.i64.wrap (left'- (a.length:Int))<0):=auq h1
  rw[if_pos q2]at hF
  cases hF
  repeat(first|refine chk.ga ?_|simp -dsimp[h1])
  all_goals(try first|omega|rfl)
 ·have q2:¬(IntKind.i64.wrap (left'- (a.length:Int))<0):=auq h1
  rw[if_neg q2]at hF
  repeat(first|refine chk.ga ?_|simp -dsimp[h1,q2])
  have hF:=ob hF;obtain⟨o',ho12,hF⟩:=hF
  refine ALoop.goU _ ?_ (((CC.f4 B hB1 hB2 a) (IntKind.i64.wrap (left'- (a.length:Int))) 0 o' ho12) _ rfl _ ?_)
  ·exact(Gh.to3 (by simp) (by first|simp -dsimp[h1,q2];done|simp_all))
  rcases o' with r0|sx
  ·dsimp only at hF
   cases hF
   intro st h
   simpa using h
  ·dsimp only at hF
   cases hF
   repeat(first|refine chk.ga ?_|simp -dsimp)
   all_goals(try first|omega|rfl)
theorem C.f6 (a:Vl.Data)(left':Int)(r:Int)(hF:F.f6 a left'=some r):PureCall Tryz.prog B 40 [.agg [.lit (.string a.name),.arr (List.map Vl.Ctor.c a.ctors)],.lit (.int .i64 left')] (.lit (.int .i64 r)):=by
 unfold F.f6 at hF
 refine PureCall.enterLe Tryz.func40 (by kernel_rfl) rfl Tryz.ntmps40 (by simp) (by simp) ?_
 repeat(first|refine chk.ga ?_|simp -dsimp)
 refine abr.split (fun h1=> ?_) (fun h1=> ?_)
 ·have q2:(IntKind.i64.wrap (left'- (a.name.size:Int))<0):=auq h1
  rw[if_pos q2]at hF
  cases hF
  repeat(first|refine chk.ga ?_|simp -dsimp[h1])
  all_goals(try first|omega|rfl)
 ·have q2:¬(IntKind.i64.wrap (left'- (a.name.size:Int))<0):=auq h1
  rw[if_neg q2]at hF
  repeat(first|refine chk.ga ?_|simp -dsimp[h1,q2])
  have hF:=ob hF;obtain⟨v,e3,hF⟩:=hF
  refine((C.f5 B hB1 hB2 a.ctors (IntKind.i64.wrap (left'- (a.name.size:Int))) v e3)).goW (by first|simp[h1,q2];done|simp_all) (by simp) ?_
  repeat(first|refine chk.ga ?_|simp -dsimp[h1,q2])
  refine abr.split (fun h4=> ?_) (fun h4=> ?_)
  ·have q5:(v<0):=auq h4
   rw[if_pos q5]at hF
   cases hF
   repeat(first|refine chk.ga ?_|simp -dsimp[h1,q2,h4])
   all_goals(try first|omega|rfl)
  ·have q5:¬(v<0):=auq h4
   rw[if_neg q5]at hF
   cases hF
   repeat(first|refine chk.ga ?_|simp -dsimp[h1,q2,h4,q5])
   all_goals(try first|omega|rfl)
theorem CC.f7 (a:List Vl.Data):(∀(left'3:Int) (i:Nat) (o:Lo Int Int),F.f7 a left'3 i=some o→∀(c:Code),navO [1,1,1,0,1,0,0] (bodyOf Tryz.f7)=some c→∀(Q:Exit→ASt→Prop),o.post (fun r=>∀st,Post Tryz.prog Tryz.f7 (fun r' _=>r'.le (.lit (.int .i64 r))) .ret st→Q .ret st) (fun s=>Q (.exit 0) ⟨[(1,.lit (.int .i64 s))],[]⟩)→ALoopU Tryz.prog B 0 27 (hold c .mk) ⟨[(0,.arr (List.map Vl.Data.c a)),(1,.lit (.int .i64 left'3)),(5,.lit (.int .i64 (i:Int)))],[]⟩ (hold Q .mk)):=by
 refine F.f7.partial_correctness a
  _
  ?_
 ·intro _f_f7 ih_f7 left'3 i o hF
  intro c hc Q hq
  obtain rfl:c=_:=navEq hc rfl
  refine ALoopU.know fun hk hs=> ?_
  have b0:=hk 0
  simp -dsimp at b0
  clear hk hs
  refine ALoopU.enter ?_
  repeat(first|refine chk.ga ?_|simp -dsimp)
  refine abr.split (fun h4=> ?_) (fun h4=> ?_)
  ·have q5:(i<a.length):=auq h4
   have z6:((i:Int)<(a.length:Int)):=auz
   rw[if_pos q5]at hF
   have hF:=ob hF;obtain⟨x,e7,hF⟩:=hF
   have le7:=lt_of_get e7
   repeat(first|refine chk.ga ?_|simp -dsimp[h4,z6,↓e7])
   have hF:=ob hF;obtain⟨v,e8,hF⟩:=hF
   refine((C.f6 B hB1 hB2 x left'3 v e8)).goW (by first|simp[h4,z6,↓e7];done|simp_all) (by simp) ?_
   repeat(first|refine chk.ga ?_|simp -dsimp[h4,z6,↓e7])
   refine abr.split (fun h9=> ?_) (fun h9=> ?_)
   ·have q10:(v<0):=auq h9
    rw[if_pos q10]at hF
    cases hF
    repeat(first|refine chk.ga ?_|simp -dsimp[h4,z6,↓e7,h9])
    refine Leave.go _ (Gh.refl _) (hq _ ?_)
    repeat(first|refine chk.ga ?_|simp -dsimp[h4,z6,↓e7,h9])
   ·have q10:¬(v<0):=auq h9
    rw[if_neg q10]at hF
    have w11:IntKind.i64.wrap ((i:Int)+1)=(i:Int)+1:=wrap_in (by omega) (by omega)
    repeat(first|refine chk.ga ?_|simp -dsimp[h4,z6,↓e7,h9,q10,w11])
    refine Again.go _ ?_ ((ih_f7 v (i+1) o hF) _ rfl _ hq)
    exact(Gh.to3 (by simp) (by first|simp -dsimp[h4,z6,↓e7,h9,q10,w11];done|simp_all))
  ·have q5:¬(i<a.length):=auq h4
   have z6:¬((i:Int)<(a.length:Int)):=auz
   rw[if_neg q5]at hF
   cases hF
   repeat(first|refine chk.ga ?_|simp -dsimp[h4,q5,z6])
   refine Leave.go ⟨[(1,.lit (.int .i64 left'3))],[]⟩ (Gh.to3 (by simp) (by first|simp -dsimp[h4,q5,z6];done|simp_all)) ?_
   exact hq
theorem C.f8 (a:List Vl.Data)(left':Int)(r:Int)(hF:F.f8 a left'=some r):PureCall Tryz.prog B 7 [.arr (List.map Vl.Data.c a),.lit (.int .i64 left')] (.lit (.int .i64 r)):=by
 unfold F.f8 at hF
 refine PureCall.enterLe Tryz.func7 (by kernel_rfl) rfl Tryz.ntmps7 (by simp) (by simp) ?_
 repeat(first|refine chk.ga ?_|simp -dsimp)
 refine abr.split (fun h1=> ?_) (fun h1=> ?_)
 ·have q2:(IntKind.i64.wrap (left'- (a.length:Int))<0):=auq h1
  rw[if_pos q2]at hF
  cases hF
  repeat(first|refine chk.ga ?_|simp -dsimp[h1])
  all_goals(try first|omega|rfl)
 ·have q2:¬(IntKind.i64.wrap (left'- (a.length:Int))<0):=auq h1
  rw[if_neg q2]at hF
  repeat(first|refine chk.ga ?_|simp -dsimp[h1,q2])
  have hF:=ob hF;obtain⟨o',ho12,hF⟩:=hF
  refine ALoop.goU _ ?_ (((CC.f7 B hB1 hB2 a) (IntKind.i64.wrap (left'- (a.length:Int))) 0 o' ho12) _ rfl _ ?_)
  ·exact(Gh.to3 (by simp) (by first|simp -dsimp[h1,q2];done|simp_all))
  rcases o' with r0|sx
  ·dsimp only at hF
   cases hF
   intro st h
   simpa using h
  ·dsimp only at hF
   cases hF
   repeat(first|refine chk.ga ?_|simp -dsimp)
   all_goals(try first|omega|rfl)
theorem CC.f9  :(∀(a:Vl.Pattern) (left':Int) (r:Int),F.f9 a left'=some r→PureCall Tryz.prog B 8 [.agg [.lit (.int .i64 a.op),.lit (.int .i64 a.ctor),.lit (.int .i64 a.n),.lit (.int .i64 a.m),.lit (.int .i64 a.var),.arr (List.map Vl.Pattern.c a.kids)],.lit (.int .i64 left')] (.lit (.int .i64 r)))∧
  (∀(a:List Vl.Pattern) (left':Int) (r:Int),F.f10 a left'=some r→PureCall Tryz.prog B 41 [.arr (List.map Vl.Pattern.c a),.lit (.int .i64 left')] (.lit (.int .i64 r)))∧
  (∀(a:List Vl.Pattern) (left'3:Int) (i:Nat) (o:Lo Int Int),F.f11 a left'3 i=some o→∀(c:Code),navO [1,1,1,0,1,0,0] (bodyOf Tryz.f41)=some c→∀(Q:Exit→ASt→Prop),o.post (fun r=>∀st,Post Tryz.prog Tryz.f41 (fun r' _=>r'.le (.lit (.int .i64 r))) .ret st→Q .ret st) (fun s=>Q (.exit 0) ⟨[(1,.lit (.int .i64 s))],[]⟩)→ALoopU Tryz.prog B 0 27 (hold c .mk) ⟨[(0,.arr (List.map Vl.Pattern.c a)),(1,.lit (.int .i64 left'3)),(5,.lit (.int .i64 (i:Int)))],[]⟩ (hold Q .mk)):=by
 refine F.f9.mutual_partial_correctness 
  _ _ _
  ?_ ?_ ?_
 ·intro _f_f10 ih_f10 a left' r hF
  refine PureCall.enterLe Tryz.func8 (by kernel_rfl) rfl Tryz.ntmps8 (by simp) (by simp) ?_
  repeat(first|refine chk.ga ?_|simp -dsimp)
  have hF:=ob hF;obtain⟨v,e1,hF⟩:=hF
  refine((ih_f10 a.kids left' v e1)).goW (by simp) (by simp) ?_
  repeat(first|refine chk.ga ?_|simp -dsimp)
  refine abr.split (fun h2=> ?_) (fun h2=> ?_)
  ·have q3:(v<0):=auq h2
   rw[if_pos q3]at hF
   cases hF
   repeat(first|refine chk.ga ?_|simp -dsimp[h2])
   all_goals(try first|omega|rfl)
  ·have q3:¬(v<0):=auq h2
   rw[if_neg q3]at hF
   cases hF
   repeat(first|refine chk.ga ?_|simp -dsimp[h2,q3])
   all_goals(try first|omega|rfl)
 ·intro _f_f11 ih_f11 a left' r hF
  refine PureCall.enterLe Tryz.func41 (by kernel_rfl) rfl Tryz.ntmps41 (by simp) (by simp) ?_
  repeat(first|refine chk.ga ?_|simp -dsimp)
  refine abr.split (fun h1=> ?_) (fun h1=> ?_)
  ·have q2:(IntKind.i64.wrap (left'- (a.length:Int))<0):=auq h1
   rw[if_pos q2]at hF
   cases hF
   repeat(first|refine chk.ga ?_|simp -dsimp[h1])
   all_goals(try first|omega|rfl)
  ·have q2:¬(IntKind.i64.wrap (left'- (a.length:Int))<0):=auq h1
   rw[if_neg q2]at hF
   repeat(first|refine chk.ga ?_|simp -dsimp[h1,q2])
   have hF:=ob hF;obtain⟨o',ho12,hF⟩:=hF
   refine ALoop.goU _ ?_ ((ih_f11 a (IntKind.i64.wrap (left'- (a.length:Int))) 0 o' ho12) _ rfl _ ?_)
   ·exact(Gh.to3 (by simp) (by first|simp -dsimp[h1,q2];done|simp_all))
   rcases o' with r0|sx
   ·dsimp only at hF
    cases hF
    intro st h
    simpa using h
   ·dsimp only at hF
    cases hF
    repeat(first|refine chk.ga ?_|simp -dsimp)
    all_goals(try first|omega|rfl)
 ·intro _f_f9 _f_f11 ih_f9 ih_f11 a left'3 i o hF
  intro c hc Q hq
  obtain rfl:c=_:=navEq hc rfl
  refine ALoopU.know fun hk hs=> ?_
  have b0:=hk 0
  simp -dsimp at b0
  clear hk hs
  refine ALoopU.enter ?_
  repeat(first|refine chk.ga ?_|simp -dsimp)
  refine abr.split (fun h4=> ?_) (fun h4=> ?_)
  ·have q5:(i<a.length):=auq h4
   have z6:((i:Int)<(a.length:Int)):=auz
   rw[if_pos q5]at hF
   have hF:=ob hF;obtain⟨x,e7,hF⟩:=hF
   have le7:=lt_of_get e7
   repeat(first|refine chk.ga ?_|simp -dsimp[h4,z6,↓e7])
   have hF:=ob hF;obtain⟨v,e8,hF⟩:=hF
   refine((ih_f9 x left'3 v e8)).goW (by first|simp[h4,z6,↓e7];done|simp_all) (by simp) ?_
   repeat(first|refine chk.ga ?_|simp -dsimp[h4,z6,↓e7])
   refine abr.split (fun h9=> ?_) (fun h9=> ?_)
   ·have q10:(v<0):=auq h9
    rw[if_pos q10]at hF
    cases hF
    repeat(first|refine chk.ga ?_|simp -dsimp[h4,z6,↓e7,h9])
    refine Leave.go _ (Gh.refl _) (hq _ ?_)
    repeat(first|refine chk.ga ?_|simp -dsimp[h4,z6,↓e7,h9])
   ·have q10:¬(v<0):=auq h9
    rw[if_neg q10]at hF
    have w11:IntKind.i64.wrap ((i:Int)+1)=(i:Int)+1:=wrap_in (by omega) (by omega)
    repeat(first|refine chk.ga ?_|simp -dsimp[h4,z6,↓e7,h9,q10,w11])
    refine Again.go _ ?_ ((ih_f11 a v (i+1) o hF) _ rfl _ hq)
    exact(Gh.to3 (by simp) (by first|simp -dsimp[h4,z6,↓e7,h9,q10,w11];done|simp_all))
  ·have q5:¬(i<a.length):=auq h4
   have z6:¬((i:Int)<(a.length:Int)):=auz
   rw[if_neg q5]at hF
   cases hF
   repeat(first|refine chk.ga ?_|simp -dsimp[h4,q5,z6])
   refine Leave.go ⟨[(1,.lit (.int .i64 left'3))],[]⟩ (Gh.to3 (by simp) (by first|simp -dsimp[h4,q5,z6];done|simp_all)) ?_
   exact hq
theorem C.f12 (a:Vl.Clause)(left':Int)(r:Int)(hF:F.f12 a left'=some r):PureCall Tryz.prog B 19 [.agg [.lit (.int .i64 a.pat.op),.lit (.int .i64 a.pat.ctor),.lit (.int .i64 a.pat.n),.lit (.int .i64 a.pat.m),.lit (.int .i64 a.pat.var),.arr (List.map Vl.Pattern.c a.pat.kids),.lit (.int .i64 a.guard.op),.lit (.int .i64 a.guard.var),.lit (.int .i64 a.guard.n)],.lit (.int .i64 left')] (.lit (.int .i64 r)):=by
 unfold F.f12 at hF
 refine PureCall.enterLe Tryz.func19 (by kernel_rfl) rfl Tryz.ntmps19 (by simp) (by simp) ?_
 repeat(first|refine chk.ga ?_|simp -dsimp)
 have hF:=ob hF;obtain⟨v,e1,hF⟩:=hF
 refine(((CC.f9 B hB1 hB2).1 a.pat left' v e1)).goW (by simp) (by simp) ?_
 repeat(first|refine chk.ga ?_|simp -dsimp)
 refine abr.split (fun h2=> ?_) (fun h2=> ?_)
 ·have q3:(v<0):=auq h2
  rw[if_pos q3]at hF
  cases hF
  repeat(first|refine chk.ga ?_|simp -dsimp[h2])
  all_goals(try first|omega|rfl)
 ·have q3:¬(v<0):=auq h2
  rw[if_neg q3]at hF
  cases hF
  repeat(first|refine chk.ga ?_|simp -dsimp[h2,q3])
  all_goals(try first|omega|rfl)
theorem C.f13 (a:Vl.Ty)(r:Vl.Ty)(hF:F.f13 a=some r):PureCall Tryz.prog B 11 [.agg [.lit (.int .i64 a.data),.lit (.int .i64 a.index)]] (.agg [.lit (.int .i64 r.data),.lit (.int .i64 r.index)]):=by
 unfold F.f13 at hF
 refine PureCall.enterLe Tryz.func11 (by kernel_rfl) rfl Tryz.ntmps11 (by simp) (by simp) ?_
 cases hF
 repeat(first|refine chk.ga ?_|simp -dsimp)
 all_goals(try first|omega|rfl)
theorem CC.f14 (a:List Vl.Ty):(∀(out:List Vl.Ty) (i:Nat) (o:List Vl.Ty),F.f14 a out i=some o→∀(c:Code),navO [1,1,0,1,0,0] (bodyOf Tryz.f197)=some c→∀(Q:Exit→ASt→Prop),(Q (.exit 0) ⟨[(3,.own 0 (List.length (α:=Vl.Ty) o))],[.elems 2 (List.map Vl.Ty.c o)]⟩)→ALoopU Tryz.prog B 0 23 (hold c .mk) ⟨[(0,.arr (List.map Vl.Ty.c a)),(3,.own 0 (List.length (α:=Vl.Ty) out)),(4,.lit (.int .i64 (i:Int)))],[.elems 2 (List.map Vl.Ty.c out)]⟩ (hold Q .mk)):=by
 refine F.f14.partial_correctness a
  _
  ?_
 ·intro _f_f14 ih_f14 out i o hF
  intro c hc Q hq
  obtain rfl:c=_:=navEq hc rfl
  refine ALoopU.know fun hk hs=> ?_
  have b0:=hk 0
  simp -dsimp at b0
  have d0:=hs 0 _ rfl
  simp -dsimp[Blk.bnd]at d0
  clear hk hs
  refine ALoopU.enter ?_
  repeat(first|refine chk.ga ?_|simp -dsimp)
  refine abr.split (fun h2=> ?_) (fun h2=> ?_)
  ·have q3:(i<a.length):=auq h2
   have z4:((i:Int)<(a.length:Int)):=auz
   rw[if_pos q3]at hF
   have hF:=ob hF;obtain⟨x,e5,hF⟩:=hF
   have le5:=lt_of_get e5
   repeat(first|refine chk.ga ?_|simp -dsimp[h2,z4,↓e5])
   have hF:=ob hF;obtain⟨v,e6,hF⟩:=hF
   refine((C.f13 B hB1 hB2 x v e6)).goW (by first|simp[h2,z4,↓e5];done|simp_all) (by simp) ?_
   have hF:=ob hF;obtain⟨x7,e8,hF⟩:=hF
   have le8:=lt_of_get e8
   have w9:IntKind.i64.wrap ((i:Int)+1)=(i:Int)+1:=wrap_in (by omega) (by omega)
   repeat(first|refine chk.ga ?_|simp -dsimp[h2,z4,↓e5,↓e8,w9])
   refine Again.go _ ?_ ((ih_f14 (out.set i v) (i+1) o hF) _ rfl _ hq)
   exact(Gh.to3 (by simp) (by first|simp -dsimp[h2,z4,↓e5,↓e8,w9];done|simp_all))
  ·have q3:¬(i<a.length):=auq h2
   have z4:¬((i:Int)<(a.length:Int)):=auz
   rw[if_neg q3]at hF
   cases hF
   repeat(first|refine chk.ga ?_|simp -dsimp[h2,q3,z4])
   refine Leave.go ⟨[(3,.own 0 (List.length (α:=Vl.Ty) out))],[.elems 2 (List.map Vl.Ty.c out)]⟩ (Gh.to3 (by simp) (by first|simp -dsimp[h2,q3,z4];done|simp_all)) ?_
   exact hq
theorem C.f15 (a:List Vl.Ty)(r:List Vl.Ty)(hF:F.f15 a=some r):PureCall Tryz.prog B 197 [.arr (List.map Vl.Ty.c a)] (.arr (List.map Vl.Ty.c r)):=by
 unfold F.f15 at hF
 refine PureCall.enterLe Tryz.func197 (by kernel_rfl) rfl Tryz.ntmps197 (by simp) (by simp) ?_
 have hF:=oc hF;obtain⟨c1,hF⟩:=hF
 repeat(first|refine chk.ga ?_|simp -dsimp)
 have hF:=ob hF;obtain⟨o',ho10,hF⟩:=hF
 refine ALoop.goU _ ?_ (((CC.f14 B hB1 hB2 a) (List.replicate a.length Vl.Ty.z) 0 o' ho10) _ rfl _ ?_)
 ·exact(Gh.to3 (by simp) (by simp -dsimp))
 cases hF
 repeat(first|refine chk.ga ?_|simp -dsimp)
 all_goals(try first|omega|rfl)
theorem C.f16 (a:Vl.Ctor)(r:Vl.Ctor)(hF:F.f16 a=some r):PureCall Tryz.prog B 156 [.agg [.lit (.string a.name),.arr (List.map Vl.Ty.c a.args),.lit (.int .i64 a.index)]] (.agg [.lit (.string r.name),.arr (List.map Vl.Ty.c r.args),.lit (.int .i64 r.index)]):=by
 unfold F.f16 at hF
 refine PureCall.enterLe Tryz.func156 (by kernel_rfl) rfl Tryz.ntmps156 (by simp) (by simp) ?_
 repeat(first|refine chk.ga ?_|simp -dsimp)
 have hF:=ob hF;obtain⟨v,e1,hF⟩:=hF
 refine((C.f15 B hB1 hB2 a.args v e1)).goW (by simp) (by simp) ?_
 cases hF
 repeat(first|refine chk.ga ?_|simp -dsimp)
 all_goals(try first|omega|rfl)
theorem CC.f17 (a:List Vl.Ctor):(∀(out:List Vl.Ctor) (i:Nat) (o:List Vl.Ctor),F.f17 a out i=some o→∀(c:Code),navO [1,1,0,1,0,0] (bodyOf Tryz.f102)=some c→∀(Q:Exit→ASt→Prop),(Q (.exit 0) ⟨[(3,.own 0 (List.length (α:=Vl.Ctor) o))],[.elems 3 (List.map Vl.Ctor.c o)]⟩)→ALoopU Tryz.prog B 0 23 (hold c .mk) ⟨[(0,.arr (List.map Vl.Ctor.c a)),(3,.own 0 (List.length (α:=Vl.Ctor) out)),(4,.lit (.int .i64 (i:Int)))],[.elems 3 (List.map Vl.Ctor.c out)]⟩ (hold Q .mk)):=by
 refine F.f17.partial_correctness a
  _
  ?_
 ·intro _f_f17 ih_f17 out i o hF
  intro c hc Q hq
  obtain rfl:c=_:=navEq hc rfl
  refine ALoopU.know fun hk hs=> ?_
  have b0:=hk 0
  simp -dsimp at b0
  have d0:=hs 0 _ rfl
  simp -dsimp[Blk.bnd]at d0
  clear hk hs
  refine ALoopU.enter ?_
  repeat(first|refine chk.ga ?_|simp -dsimp)
  refine abr.split (fun h2=> ?_) (fun h2=> ?_)
  ·have q3:(i<a.length):=auq h2
   have z4:((i:Int)<(a.length:Int)):=auz
   rw[if_pos q3]at hF
   have hF:=ob hF;obtain⟨x,e5,hF⟩:=hF
   have le5:=lt_of_get e5
   repeat(first|refine chk.ga ?_|simp -dsimp[h2,z4,↓e5])
   have hF:=ob hF;obtain⟨v,e6,hF⟩:=hF
   refine((C.f16 B hB1 hB2 x v e6)).goW (by first|simp[h2,z4,↓e5];done|simp_all) (by simp) ?_
   have hF:=ob hF;obtain⟨x7,e8,hF⟩:=hF
   have le8:=lt_of_get e8
   have w9:IntKind.i64.wrap ((i:Int)+1)=(i:Int)+1:=wrap_in (by omega) (by omega)
   repeat(first|refine chk.ga ?_|simp -dsimp[h2,z4,↓e5,↓e8,w9])
   refine Again.go _ ?_ ((ih_f17 (out.set i v) (i+1) o hF) _ rfl _ hq)
   exact(Gh.to3 (by simp) (by first|simp -dsimp[h2,z4,↓e5,↓e8,w9];done|simp_all))
  ·have q3:¬(i<a.length):=auq h2
   have z4:¬((i:Int)<(a.length:Int)):=auz
   rw[if_neg q3]at hF
   cases hF
   repeat(first|refine chk.ga ?_|simp -dsimp[h2,q3,z4])
   refine Leave.go ⟨[(3,.own 0 (List.length (α:=Vl.Ctor) out))],[.elems 3 (List.map Vl.Ctor.c out)]⟩ (Gh.to3 (by simp) (by first|simp -dsimp[h2,q3,z4];done|simp_all)) ?_
   exact hq
theorem C.f18 (a:List Vl.Ctor)(r:List Vl.Ctor)(hF:F.f18 a=some r):PureCall Tryz.prog B 102 [.arr (List.map Vl.Ctor.c a)] (.arr (List.map Vl.Ctor.c r)):=by
 unfold F.f18 at hF
 refine PureCall.enterLe Tryz.func102 (by kernel_rfl) rfl Tryz.ntmps102 (by simp) (by simp) ?_
 have hF:=oc hF;obtain⟨c1,hF⟩:=hF
 repeat(first|refine chk.ga ?_|simp -dsimp)
 have hF:=ob hF;obtain⟨o',ho10,hF⟩:=hF
 refine ALoop.goU _ ?_ (((CC.f17 B hB1 hB2 a) (List.replicate a.length Vl.Ctor.z) 0 o' ho10) _ rfl _ ?_)
 ·exact(Gh.to3 (by simp) (by simp -dsimp))
 cases hF
 repeat(first|refine chk.ga ?_|simp -dsimp)
 all_goals(try first|omega|rfl)
theorem C.f19 (a:Vl.Data)(r:Vl.Data)(hF:F.f19 a=some r):PureCall Tryz.prog B 45 [.agg [.lit (.string a.name),.arr (List.map Vl.Ctor.c a.ctors)]] (.agg [.lit (.string r.name),.arr (List.map Vl.Ctor.c r.ctors)]):=by
 unfold F.f19 at hF
 refine PureCall.enterLe Tryz.func45 (by kernel_rfl) rfl Tryz.ntmps45 (by simp) (by simp) ?_
 repeat(first|refine chk.ga ?_|simp -dsimp)
 have hF:=ob hF;obtain⟨v,e1,hF⟩:=hF
 refine((C.f18 B hB1 hB2 a.ctors v e1)).goW (by simp) (by simp) ?_
 cases hF
 repeat(first|refine chk.ga ?_|simp -dsimp)
 all_goals(try first|omega|rfl)
theorem CC.f20 (a:List Vl.Data):(∀(out:List Vl.Data) (i:Nat) (o:List Vl.Data),F.f20 a out i=some o→∀(c:Code),navO [1,1,0,1,0,0] (bodyOf Tryz.f10)=some c→∀(Q:Exit→ASt→Prop),(Q (.exit 0) ⟨[(3,.own 0 (List.length (α:=Vl.Data) o))],[.elems 2 (List.map Vl.Data.c o)]⟩)→ALoopU Tryz.prog B 0 23 (hold c .mk) ⟨[(0,.arr (List.map Vl.Data.c a)),(3,.own 0 (List.length (α:=Vl.Data) out)),(4,.lit (.int .i64 (i:Int)))],[.elems 2 (List.map Vl.Data.c out)]⟩ (hold Q .mk)):=by
 refine F.f20.partial_correctness a
  _
  ?_
 ·intro _f_f20 ih_f20 out i o hF
  intro c hc Q hq
  obtain rfl:c=_:=navEq hc rfl
  refine ALoopU.know fun hk hs=> ?_
  have b0:=hk 0
  simp -dsimp at b0
  have d0:=hs 0 _ rfl
  simp -dsimp[Blk.bnd]at d0
  clear hk hs
  refine ALoopU.enter ?_
  repeat(first|refine chk.ga ?_|simp -dsimp)
  refine abr.split (fun h2=> ?_) (fun h2=> ?_)
  ·have q3:(i<a.length):=auq h2
   have z4:((i:Int)<(a.length:Int)):=auz
   rw[if_pos q3]at hF
   have hF:=ob hF;obtain⟨x,e5,hF⟩:=hF
   have le5:=lt_of_get e5
   repeat(first|refine chk.ga ?_|simp -dsimp[h2,z4,↓e5])
   have hF:=ob hF;obtain⟨v,e6,hF⟩:=hF
   refine((C.f19 B hB1 hB2 x v e6)).goW (by first|simp[h2,z4,↓e5];done|simp_all) (by simp) ?_
   have hF:=ob hF;obtain⟨x7,e8,hF⟩:=hF
   have le8:=lt_of_get e8
   have w9:IntKind.i64.wrap ((i:Int)+1)=(i:Int)+1:=wrap_in (by omega) (by omega)
   repeat(first|refine chk.ga ?_|simp -dsimp[h2,z4,↓e5,↓e8,w9])
   refine Again.go _ ?_ ((ih_f20 (out.set i v) (i+1) o hF) _ rfl _ hq)
   exact(Gh.to3 (by simp) (by first|simp -dsimp[h2,z4,↓e5,↓e8,w9];done|simp_all))
  ·have q3:¬(i<a.length):=auq h2
   have z4:¬((i:Int)<(a.length:Int)):=auz
   rw[if_neg q3]at hF
   cases hF
   repeat(first|refine chk.ga ?_|simp -dsimp[h2,q3,z4])
   refine Leave.go ⟨[(3,.own 0 (List.length (α:=Vl.Data) out))],[.elems 2 (List.map Vl.Data.c out)]⟩ (Gh.to3 (by simp) (by first|simp -dsimp[h2,q3,z4];done|simp_all)) ?_
   exact hq
theorem C.f21 (a:List Vl.Data)(r:List Vl.Data)(hF:F.f21 a=some r):PureCall Tryz.prog B 10 [.arr (List.map Vl.Data.c a)] (.arr (List.map Vl.Data.c r)):=by
 unfold F.f21 at hF
 refine PureCall.enterLe Tryz.func10 (by kernel_rfl) rfl Tryz.ntmps10 (by simp) (by simp) ?_
 have hF:=oc hF;obtain⟨c1,hF⟩:=hF
 repeat(first|refine chk.ga ?_|simp -dsimp)
 have hF:=ob hF;obtain⟨o',ho10,hF⟩:=hF
 refine ALoop.goU _ ?_ (((CC.f20 B hB1 hB2 a) (List.replicate a.length Vl.Data.z) 0 o' ho10) _ rfl _ ?_)
 ·exact(Gh.to3 (by simp) (by simp -dsimp))
 cases hF
 repeat(first|refine chk.ga ?_|simp -dsimp)
 all_goals(try first|omega|rfl)
theorem CC.f22  :(∀(a:Vl.Pattern) (r:Vl.Pattern),F.f22 a=some r→PureCall Tryz.prog B 12 [.agg [.lit (.int .i64 a.op),.lit (.int .i64 a.ctor),.lit (.int .i64 a.n),.lit (.int .i64 a.m),.lit (.int .i64 a.var),.arr (List.map Vl.Pattern.c a.kids)]] (.agg [.lit (.int .i64 r.op),.lit (.int .i64 r.ctor),.lit (.int .i64 r.n),.lit (.int .i64 r.m),.lit (.int .i64 r.var),.arr (List.map Vl.Pattern.c r.kids)]))∧
  (∀(a:List Vl.Pattern) (r:List Vl.Pattern),F.f23 a=some r→PureCall Tryz.prog B 46 [.arr (List.map Vl.Pattern.c a)] (.arr (List.map Vl.Pattern.c r)))∧
  (∀(a:List Vl.Pattern) (out:List Vl.Pattern) (i:Nat) (o:List Vl.Pattern),F.f24 a out i=some o→∀(c:Code),navO [1,1,0,1,0,0] (bodyOf Tryz.f46)=some c→∀(Q:Exit→ASt→Prop),(Q (.exit 0) ⟨[(3,.own 0 (List.length (α:=Vl.Pattern) o))],[.elems 6 (List.map Vl.Pattern.c o)]⟩)→ALoopU Tryz.prog B 0 23 (hold c .mk) ⟨[(0,.arr (List.map Vl.Pattern.c a)),(3,.own 0 (List.length (α:=Vl.Pattern) out)),(4,.lit (.int .i64 (i:Int)))],[.elems 6 (List.map Vl.Pattern.c out)]⟩ (hold Q .mk)):=by
 refine F.f22.mutual_partial_correctness 
  _ _ _
  ?_ ?_ ?_
 ·intro _f_f23 ih_f23 a r hF
  refine PureCall.enterLe Tryz.func12 (by kernel_rfl) rfl Tryz.ntmps12 (by simp) (by simp) ?_
  repeat(first|refine chk.ga ?_|simp -dsimp)
  have hF:=ob hF;obtain⟨v,e1,hF⟩:=hF
  refine((ih_f23 a.kids v e1)).goW (by simp) (by simp) ?_
  cases hF
  repeat(first|refine chk.ga ?_|simp -dsimp)
  all_goals(try first|omega|rfl)
 ·intro _f_f24 ih_f24 a r hF
  refine PureCall.enterLe Tryz.func46 (by kernel_rfl) rfl Tryz.ntmps46 (by simp) (by simp) ?_
  have hF:=oc hF;obtain⟨c1,hF⟩:=hF
  repeat(first|refine chk.ga ?_|simp -dsimp)
  have hF:=ob hF;obtain⟨o',ho10,hF⟩:=hF
  refine ALoop.goU _ ?_ ((ih_f24 a (List.replicate a.length Vl.Pattern.z) 0 o' ho10) _ rfl _ ?_)
  ·exact(Gh.to3 (by simp) (by simp -dsimp))
  cases hF
  repeat(first|refine chk.ga ?_|simp -dsimp)
  all_goals(try first|omega|rfl)
 ·intro _f_f22 _f_f24 ih_f22 ih_f24 a out i o hF
  intro c hc Q hq
  obtain rfl:c=_:=navEq hc rfl
  refine ALoopU.know fun hk hs=> ?_
  have b0:=hk 0
  simp -dsimp at b0
  have d0:=hs 0 _ rfl
  simp -dsimp[Blk.bnd]at d0
  clear hk hs
  refine ALoopU.enter ?_
  repeat(first|refine chk.ga ?_|simp -dsimp)
  refine abr.split (fun h2=> ?_) (fun h2=> ?_)
  ·have q3:(i<a.length):=auq h2
   have z4:((i:Int)<(a.length:Int)):=auz
   rw[if_pos q3]at hF
   have hF:=ob hF;obtain⟨x,e5,hF⟩:=hF
   have le5:=lt_of_get e5
   repeat(first|refine chk.ga ?_|simp -dsimp[h2,z4,↓e5])
   have hF:=ob hF;obtain⟨v,e6,hF⟩:=hF
   refine((ih_f22 x v e6)).goW (by first|simp[h2,z4,↓e5];done|simp_all) (by simp) ?_
   have hF:=ob hF;obtain⟨x7,e8,hF⟩:=hF
   have le8:=lt_of_get e8
   have w9:IntKind.i64.wrap ((i:Int)+1)=(i:Int)+1:=wrap_in (by omega) (by omega)
   repeat(first|refine chk.ga ?_|simp -dsimp[h2,z4,↓e5,↓e8,w9])
   refine Again.go _ ?_ ((ih_f24 a (out.set i v) (i+1) o hF) _ rfl _ hq)
   exact(Gh.to3 (by simp) (by first|simp -dsimp[h2,z4,↓e5,↓e8,w9];done|simp_all))
  ·have q3:¬(i<a.length):=auq h2
   have z4:¬((i:Int)<(a.length:Int)):=auz
   rw[if_neg q3]at hF
   cases hF
   repeat(first|refine chk.ga ?_|simp -dsimp[h2,q3,z4])
   refine Leave.go ⟨[(3,.own 0 (List.length (α:=Vl.Pattern) out))],[.elems 6 (List.map Vl.Pattern.c out)]⟩ (Gh.to3 (by simp) (by first|simp -dsimp[h2,q3,z4];done|simp_all)) ?_
   exact hq
theorem C.f25 (a:Vl.Guard)(r:Vl.Guard)(hF:F.f25 a=some r):PureCall Tryz.prog B 60 [.agg [.lit (.int .i64 a.op),.lit (.int .i64 a.var),.lit (.int .i64 a.n)]] (.agg [.lit (.int .i64 r.op),.lit (.int .i64 r.var),.lit (.int .i64 r.n)]):=by
 unfold F.f25 at hF
 refine PureCall.enterLe Tryz.func60 (by kernel_rfl) rfl Tryz.ntmps60 (by simp) (by simp) ?_
 cases hF
 repeat(first|refine chk.ga ?_|simp -dsimp)
 all_goals(try first|omega|rfl)
theorem C.f26 (a:Vl.Clause)(r:Vl.Clause)(hF:F.f26 a=some r):PureCall Tryz.prog B 21 [.agg [.lit (.int .i64 a.pat.op),.lit (.int .i64 a.pat.ctor),.lit (.int .i64 a.pat.n),.lit (.int .i64 a.pat.m),.lit (.int .i64 a.pat.var),.arr (List.map Vl.Pattern.c a.pat.kids),.lit (.int .i64 a.guard.op),.lit (.int .i64 a.guard.var),.lit (.int .i64 a.guard.n)]] (.agg [.lit (.int .i64 r.pat.op),.lit (.int .i64 r.pat.ctor),.lit (.int .i64 r.pat.n),.lit (.int .i64 r.pat.m),.lit (.int .i64 r.pat.var),.arr (List.map Vl.Pattern.c r.pat.kids),.lit (.int .i64 r.guard.op),.lit (.int .i64 r.guard.var),.lit (.int .i64 r.guard.n)]):=by
 unfold F.f26 at hF
 refine PureCall.enterLe Tryz.func21 (by kernel_rfl) rfl Tryz.ntmps21 (by simp) (by simp) ?_
 repeat(first|refine chk.ga ?_|simp -dsimp)
 have hF:=ob hF;obtain⟨v,e1,hF⟩:=hF
 refine(((CC.f22 B hB1 hB2).1 a.pat v e1)).goW (by simp) (by simp) ?_
 repeat(first|refine chk.ga ?_|simp -dsimp)
 have hF:=ob hF;obtain⟨v2,e3,hF⟩:=hF
 refine((C.f25 B hB1 hB2 a.guard v2 e3)).goW (by simp) (by simp) ?_
 cases hF
 repeat(first|refine chk.ga ?_|simp -dsimp)
 all_goals(try first|omega|rfl)
theorem C.f27 (c':Int)(r:Bool)(hF:F.f27 c'=some r):PureCall Tryz.prog B 213 [.lit (.int .u8 c')] (.lit (.bool r)):=by
 unfold F.f27 at hF
 refine PureCall.enterLe Tryz.func213 (by kernel_rfl) rfl Tryz.ntmps213 (by simp) (by simp) ?_
 repeat(first|refine chk.ga ?_|simp -dsimp)
 refine abr.split (fun h1=> ?_) (fun h1=> ?_)
 ·have q2:(65≤c'):=auq h1
  rw[if_pos q2]at hF
  cases hF
  repeat(first|refine chk.ga ?_|simp -dsimp[h1])
  all_goals(try first|omega|rfl)
 ·have q2:¬(65≤c'):=auq h1
  rw[if_neg q2]at hF
  cases hF
  repeat(first|refine chk.ga ?_|simp -dsimp[h1,q2])
  all_goals(try first|omega|rfl)
theorem C.f28 (s:ByteArray)(r:Bool)(hF:F.f28 s=some r):PureCall Tryz.prog B 191 [.lit (.string s)] (.lit (.bool r)):=by
 unfold F.f28 at hF
 refine PureCall.enterLe Tryz.func191 (by kernel_rfl) rfl Tryz.ntmps191 (by simp) (by simp) ?_
 repeat(first|refine chk.ga ?_|simp -dsimp)
 refine abr.split (fun h1=> ?_) (fun h1=> ?_)
 ·have q2:(s.size=1):=auq h1
  have z3:((s.size:Int)=(1:Int)):=auz
  rw[if_pos q2]at hF
  have hF:=oc hF;obtain⟨c4,hF⟩:=hF
  repeat(first|refine chk.ga ?_|simp -dsimp[h1,z3])
  have hF:=ob hF;obtain⟨v,e5,hF⟩:=hF
  refine((C.f27 B hB1 hB2 ((byteAt s 0:Nat):Int) v e5)).goW (by first|simp[h1,z3];done|simp_all) (by simp) ?_
  repeat(first|refine chk.ga ?_|simp -dsimp[h1,z3])
  refine abr.split (fun h6=> ?_) (fun h6=> ?_)
  ·have q7:(v=true):=auq h6
   rw[if_pos q7]at hF
   cases hF
   repeat(first|refine chk.ga ?_|simp -dsimp[h1,z3,h6])
   all_goals(try first|omega|rfl)
  ·have q7:¬(v=true):=auq h6
   rw[if_neg q7]at hF
   cases hF
   repeat(first|refine chk.ga ?_|simp -dsimp[h1,z3,h6,q7])
   all_goals(try first|omega|rfl)
 ·have q2:¬(s.size=1):=auq h1
  have z3:¬((s.size:Int)=(1:Int)):=auz
  rw[if_neg q2]at hF
  cases hF
  repeat(first|refine chk.ga ?_|simp -dsimp[h1,q2,z3])
  all_goals(try first|omega|rfl)
theorem CC.f29 (s:ByteArray):(∀(i:Nat) (o:Lo Bool Unit),F.f29 s i=some o→∀(c:Code),navO [1,1,0,1,0,0] (bodyOf Tryz.f214)=some c→∀(Q:Exit→ASt→Prop),o.post (fun r=>∀st,Post Tryz.prog Tryz.f214 (fun r' _=>r'.le (.lit (.bool r))) .ret st→Q .ret st) (fun s=>Q (.exit 0) ⟨[],[]⟩)→ALoopU Tryz.prog B 0 34 (hold c .mk) ⟨[(0,.lit (.string s)),(3,.lit (.int .i64 (i:Int)))],[]⟩ (hold Q .mk)):=by
 refine F.f29.partial_correctness s
  _
  ?_
 ·intro _f_f29 ih_f29 i o hF
  intro c hc Q hq
  obtain rfl:c=_:=navEq hc rfl
  refine ALoopU.know fun hk hs=> ?_
  clear hk hs
  refine ALoopU.enter ?_
  repeat(first|refine chk.ga ?_|simp -dsimp)
  refine abr.split (fun h11=> ?_) (fun h11=> ?_)
  ·have q12:(i<s.size):=auq h11
   have z13:((i:Int)<(s.size:Int)):=auz
   rw[if_pos q12]at hF
   repeat(first|refine chk.ga ?_|simp -dsimp[h11,z13])
   refine abr.split (fun h14=> ?_) (fun h14=> ?_)
   ·have q15:¬(byteAt s i<97):=auq h14
    have z16:¬(((byteAt s i:Nat):Int)<(97:Int)):=auz
    rw[if_neg q15]at hF
    repeat(first|refine chk.ga ?_|simp -dsimp[h11,z13,h14,q15,z16])
    refine abr.split (fun h17=> ?_) (fun h17=> ?_)
    ·have q18:(122<byteAt s i):=auq h17
     have z19:((122:Int)<((byteAt s i:Nat):Int)):=auz
     rw[if_pos q18]at hF
     cases hF
     repeat(first|refine chk.ga ?_|simp -dsimp[h11,z13,h14,q15,z16,h17,z19])
     refine Leave.go _ (Gh.refl _) (hq _ ?_)
     repeat(first|refine chk.ga ?_|simp -dsimp[h11,z13,h14,q15,z16,h17,z19])
    ·have q18:¬(122<byteAt s i):=auq h17
     have z19:¬((122:Int)<((byteAt s i:Nat):Int)):=auz
     rw[if_neg q18]at hF
     have hF:=oc hF;obtain⟨c20,hF⟩:=hF
     have w21:IntKind.i64.wrap ((i:Int)+1)=(i:Int)+1:=wrap_in (by omega) (by omega)
     repeat(first|refine chk.ga ?_|simp -dsimp[h11,z13,h14,q15,z16,h17,q18,z19,w21])
     refine Again.go _ ?_ ((ih_f29 (i+1) o hF) _ rfl _ hq)
     exact(Gh.to3 (by simp) (by first|simp -dsimp[h11,z13,h14,q15,z16,h17,q18,z19,w21];done|simp_all))
   ·have q15:(byteAt s i<97):=auq h14
    have z16:(((byteAt s i:Nat):Int)<(97:Int)):=auz
    rw[if_pos q15]at hF
    cases hF
    repeat(first|refine chk.ga ?_|simp -dsimp[h11,z13,h14,q15,z16])
    refine Leave.go _ (Gh.refl _) (hq _ ?_)
    repeat(first|refine chk.ga ?_|simp -dsimp[h11,z13,h14,q15,z16])
  ·have q12:¬(i<s.size):=auq h11
   have z13:¬((i:Int)<(s.size:Int)):=auz
   rw[if_neg q12]at hF
   cases hF
   repeat(first|refine chk.ga ?_|simp -dsimp[h11,q12,z13])
   refine Leave.go ⟨[],[]⟩ (Gh.to3 (by simp) (by first|simp -dsimp[h11,q12,z13];done|simp_all)) ?_
   exact hq
theorem C.f30 (s:ByteArray)(r:Bool)(hF:F.f30 s=some r):PureCall Tryz.prog B 214 [.lit (.string s)] (.lit (.bool r)):=by
 unfold F.f30 at hF
 refine PureCall.enterLe Tryz.func214 (by kernel_rfl) rfl Tryz.ntmps214 (by simp) (by simp) ?_
 repeat(first|refine chk.ga ?_|simp -dsimp)
 refine abr.split (fun h1=> ?_) (fun h1=> ?_)
 ·have q2:¬(s.size=0):=auq h1
  have z3:¬((s.size:Int)=(0:Int)):=auz
  rw[if_neg q2]at hF
  repeat(first|refine chk.ga ?_|simp -dsimp[h1,q2,z3])
  refine abr.split (fun h4=> ?_) (fun h4=> ?_)
  ·have q5:¬(5<s.size):=auq h4
   have z6:¬((5:Int)<(s.size:Int)):=auz
   rw[if_neg q5]at hF
   have hF:=oc hF;obtain⟨c7,hF⟩:=hF
   repeat(first|refine chk.ga ?_|simp -dsimp[h1,q2,z3,h4,q5,z6])
   have hF:=ob hF;obtain⟨v,e8,hF⟩:=hF
   refine((C.f27 B hB1 hB2 ((byteAt s 0:Nat):Int) v e8)).goW (by first|simp[h1,q2,z3,h4,q5,z6];done|simp_all) (by simp) ?_
   repeat(first|refine chk.ga ?_|simp -dsimp[h1,q2,z3,h4,q5,z6])
   refine abr.split (fun h9=> ?_) (fun h9=> ?_)
   ·have q10:¬(v=true):=auq h9
    rw[if_neg q10]at hF
    cases hF
    repeat(first|refine chk.ga ?_|simp -dsimp[h1,q2,z3,h4,q5,z6,h9,q10])
    all_goals(try first|omega|rfl)
   ·have q10:(v=true):=auq h9
    rw[if_pos q10]at hF
    repeat(first|refine chk.ga ?_|simp -dsimp[h1,q2,z3,h4,q5,z6,h9,q10])
    have hF:=ob hF;obtain⟨o',ho22,hF⟩:=hF
    refine ALoop.goU _ ?_ (((CC.f29 B hB1 hB2 s) 1 o' ho22) _ rfl _ ?_)
    ·exact(Gh.to3 (by simp) (by first|simp -dsimp[h1,q2,z3,h4,q5,z6,h9,q10];done|simp_all))
    rcases o' with r0|sx
    ·dsimp only at hF
     cases hF
     intro st h
     simpa using h
    ·dsimp only at hF
     cases hF
     repeat(first|refine chk.ga ?_|simp -dsimp)
     all_goals(try first|omega|rfl)
  ·have q5:(5<s.size):=auq h4
   have z6:((5:Int)<(s.size:Int)):=auz
   rw[if_pos q5]at hF
   cases hF
   repeat(first|refine chk.ga ?_|simp -dsimp[h1,q2,z3,h4,q5,z6])
   all_goals(try first|omega|rfl)
 ·have q2:(s.size=0):=auq h1
  have z3:((s.size:Int)=(0:Int)):=auz
  rw[if_pos q2]at hF
  cases hF
  repeat(first|refine chk.ga ?_|simp -dsimp[h1,q2,z3])
  all_goals(try first|omega|rfl)
theorem C.f31 (n:Int)(t:Vl.Ty)(r:Bool)(hF:F.f31 n t=some r):PureCall Tryz.prog B 194 [.lit (.int .i64 n),.agg [.lit (.int .i64 t.data),.lit (.int .i64 t.index)]] (.lit (.bool r)):=by
 unfold F.f31 at hF
 refine PureCall.enterLe Tryz.func194 (by kernel_rfl) rfl Tryz.ntmps194 (by simp) (by simp) ?_
 repeat(first|refine chk.ga ?_|simp -dsimp)
 refine abr.split (fun h1=> ?_) (fun h1=> ?_)
 ·have q2:(t.data=(-1)):=auq h1
  rw[if_pos q2]at hF
  cases hF
  repeat(first|refine chk.ga ?_|simp -dsimp[h1])
  all_goals(try first|omega|rfl)
 ·have q2:¬(t.data=(-1)):=auq h1
  rw[if_neg q2]at hF
  repeat(first|refine chk.ga ?_|simp -dsimp[h1,q2])
  refine abr.split (fun h3=> ?_) (fun h3=> ?_)
  ·have q4:(0≤t.data):=auq h3
   rw[if_pos q4]at hF
   repeat(first|refine chk.ga ?_|simp -dsimp[h1,q2,h3])
   refine abr.split (fun h5=> ?_) (fun h5=> ?_)
   ·have q6:(t.data<n):=auq h5
    rw[if_pos q6]at hF
    repeat(first|refine chk.ga ?_|simp -dsimp[h1,q2,h3,h5])
    refine abr.split (fun h7=> ?_) (fun h7=> ?_)
    ·have q8:((-1)≤t.index):=auq h7
     rw[if_pos q8]at hF
     cases hF
     repeat(first|refine chk.ga ?_|simp -dsimp[h1,q2,h3,h5,h7])
     all_goals(try first|omega|rfl)
    ·have q8:¬((-1)≤t.index):=auq h7
     rw[if_neg q8]at hF
     cases hF
     repeat(first|refine chk.ga ?_|simp -dsimp[h1,q2,h3,h5,h7,q8])
     all_goals(try first|omega|rfl)
   ·have q6:¬(t.data<n):=auq h5
    rw[if_neg q6]at hF
    cases hF
    repeat(first|refine chk.ga ?_|simp -dsimp[h1,q2,h3,h5,q6])
    all_goals(try first|omega|rfl)
  ·have q4:¬(0≤t.data):=auq h3
   rw[if_neg q4]at hF
   cases hF
   repeat(first|refine chk.ga ?_|simp -dsimp[h1,q2,h3,q4])
   all_goals(try first|omega|rfl)
theorem CC.f32 (n:Int)(c':Vl.Ctor):(∀(i:Nat) (o:Lo Bool Unit),F.f32 n c' i=some o→∀(c:Code),navO [1,1,0,1,0,0] (bodyOf Tryz.f192)=some c→∀(Q:Exit→ASt→Prop),o.post (fun r=>∀st,Post Tryz.prog Tryz.f192 (fun r' _=>r'.le (.lit (.bool r))) .ret st→Q .ret st) (fun s=>Q (.exit 0) ⟨[],[]⟩)→ALoopU Tryz.prog B 0 41 (hold c .mk) ⟨[(0,.lit (.int .i64 n)),(3,.ptr 0 0),(5,.lit (.int .i64 (i:Int)))],[.cells [.lit (.string c'.name),.arr (List.map Vl.Ty.c c'.args),.lit (.int .i64 c'.index)]]⟩ (hold Q .mk)):=by
 refine F.f32.partial_correctness n c'
  _
  ?_
 ·intro _f_f32 ih_f32 i o hF
  intro c hc Q hq
  obtain rfl:c=_:=navEq hc rfl
  refine ALoopU.know fun hk hs=> ?_
  have d0:=hs 0 _ rfl
  simp -dsimp[Blk.bnd]at d0
  clear hk hs
  refine ALoopU.enter ?_
  repeat(first|refine chk.ga ?_|simp -dsimp)
  refine abr.split (fun h11=> ?_) (fun h11=> ?_)
  ·have q12:(i<c'.args.length):=auq h11
   have z13:((i:Int)<(c'.args.length:Int)):=auz
   rw[if_pos q12]at hF
   have hF:=ob hF;obtain⟨x,e14,hF⟩:=hF
   have le14:=lt_of_get e14
   repeat(first|refine chk.ga ?_|simp -dsimp[h11,z13,↓e14])
   have hF:=ob hF;obtain⟨v15,e16,hF⟩:=hF
   refine((C.f31 B hB1 hB2 n x v15 e16)).goW (by first|simp[h11,z13,↓e14];done|simp_all) (by simp) ?_
   repeat(first|refine chk.ga ?_|simp -dsimp[h11,z13,↓e14])
   refine abr.split (fun h17=> ?_) (fun h17=> ?_)
   ·have q18:¬(v15=true):=auq h17
    rw[if_neg q18]at hF
    cases hF
    repeat(first|refine chk.ga ?_|simp -dsimp[h11,z13,↓e14,h17,q18])
    refine Leave.go _ (Gh.refl _) (hq _ ?_)
    repeat(first|refine chk.ga ?_|simp -dsimp[h11,z13,↓e14,h17,q18])
   ·have q18:(v15=true):=auq h17
    rw[if_pos q18]at hF
    have w19:IntKind.i64.wrap ((i:Int)+1)=(i:Int)+1:=wrap_in (by omega) (by omega)
    repeat(first|refine chk.ga ?_|simp -dsimp[h11,z13,↓e14,h17,q18,w19])
    refine Again.go _ ?_ ((ih_f32 (i+1) o hF) _ rfl _ hq)
    exact(Gh.to3 (by simp) (by first|simp -dsimp[h11,z13,↓e14,h17,q18,w19];done|simp_all))
  ·have q12:¬(i<c'.args.length):=auq h11
   have z13:¬((i:Int)<(c'.args.length:Int)):=auz
   rw[if_neg q12]at hF
   cases hF
   repeat(first|refine chk.ga ?_|simp -dsimp[h11,q12,z13])
   refine Leave.go ⟨[],[]⟩ (Gh.to3 (by simp) (by first|simp -dsimp[h11,q12,z13];done|simp_all)) ?_
   exact hq
theorem C.f33 (n:Int)(c':Vl.Ctor)(r:Bool)(hF:F.f33 n c'=some r):PureCall Tryz.prog B 192 [.lit (.int .i64 n),.agg [.lit (.string c'.name),.arr (List.map Vl.Ty.c c'.args),.lit (.int .i64 c'.index)]] (.lit (.bool r)):=by
 unfold F.f33 at hF
 refine PureCall.enterLe Tryz.func192 (by kernel_rfl) rfl Tryz.ntmps192 (by simp) (by simp) ?_
 repeat(first|refine chk.ga ?_|simp -dsimp)
 have hF:=ob hF;obtain⟨v,e1,hF⟩:=hF
 refine((C.f30 B hB1 hB2 c'.name v e1)).goW (by simp) (by simp) ?_
 repeat(first|refine chk.ga ?_|simp -dsimp)
 refine abr.split (fun h2=> ?_) (fun h2=> ?_)
 ·have q3:(v=true):=auq h2
  rw[if_pos q3]at hF
  repeat(first|refine chk.ga ?_|simp -dsimp[h2])
  refine abr.split (fun h4=> ?_) (fun h4=> ?_)
  ·have q5:¬(3<c'.args.length):=auq h4
   have z6:¬((3:Int)<(c'.args.length:Int)):=auz
   rw[if_neg q5]at hF
   repeat(first|refine chk.ga ?_|simp -dsimp[h2,h4,q5,z6])
   refine abr.split (fun h7=> ?_) (fun h7=> ?_)
   ·have q8:¬(c'.index<0):=auq h7
    rw[if_neg q8]at hF
    repeat(first|refine chk.ga ?_|simp -dsimp[h2,h4,q5,z6,h7,q8])
    refine abr.split (fun h9=> ?_) (fun h9=> ?_)
    ·have q10:(3<c'.index):=auq h9
     rw[if_pos q10]at hF
     cases hF
     repeat(first|refine chk.ga ?_|simp -dsimp[h2,h4,q5,z6,h7,q8,h9])
     all_goals(try first|omega|rfl)
    ·have q10:¬(3<c'.index):=auq h9
     rw[if_neg q10]at hF
     repeat(first|refine chk.ga ?_|simp -dsimp[h2,h4,q5,z6,h7,q8,h9,q10])
     have hF:=ob hF;obtain⟨o',ho20,hF⟩:=hF
     refine ALoop.goU _ ?_ (((CC.f32 B hB1 hB2 n c') 0 o' ho20) _ rfl _ ?_)
     ·exact(Gh.to3 (by simp) (by first|simp -dsimp[h2,h4,q5,z6,h7,q8,h9,q10];done|simp_all))
     rcases o' with r0|sx
     ·dsimp only at hF
      cases hF
      intro st h
      simpa using h
     ·dsimp only at hF
      cases hF
      repeat(first|refine chk.ga ?_|simp -dsimp)
      all_goals(try first|omega|rfl)
   ·have q8:(c'.index<0):=auq h7
    rw[if_pos q8]at hF
    cases hF
    repeat(first|refine chk.ga ?_|simp -dsimp[h2,h4,q5,z6,h7,q8])
    all_goals(try first|omega|rfl)
  ·have q5:(3<c'.args.length):=auq h4
   have z6:((3:Int)<(c'.args.length:Int)):=auz
   rw[if_pos q5]at hF
   cases hF
   repeat(first|refine chk.ga ?_|simp -dsimp[h2,h4,q5,z6])
   all_goals(try first|omega|rfl)
 ·have q3:¬(v=true):=auq h2
  rw[if_neg q3]at hF
  cases hF
  repeat(first|refine chk.ga ?_|simp -dsimp[h2,q3])
  all_goals(try first|omega|rfl)
theorem CC.f34 (w:List Vl.Data)(d:Int)(k:Int)(i:Nat):(∀(j:Nat) (o:Lo Bool Unit),F.f34 w d k i j=some o→∀(c:Code),navO [1,0,1,0,0,1,0,0,1,1,0,0] (bodyOf Tryz.f193)=some c→∀(Q:Exit→ASt→Prop),o.post (fun r=>∀st,Post Tryz.prog Tryz.f193 (fun r' _=>r'.le (.lit (.bool r))) .ret st→Q .ret st) (fun s=>Q (.exit 2) ⟨[(0,.arr (List.map Vl.Data.c w)),(1,.lit (.int .i64 d)),(2,.lit (.int .i64 k)),(7,.lit (.int .i64 (i:Int)))],[]⟩)→ALoopU Tryz.prog B 0 79 (hold c .mk) ⟨[(0,.arr (List.map Vl.Data.c w)),(1,.lit (.int .i64 d)),(2,.lit (.int .i64 k)),(7,.lit (.int .i64 (i:Int))),(8,.lit (.int .i64 (j:Int)))],[]⟩ (hold Q .mk)):=by
 refine F.f34.partial_correctness w d k i
  _
  ?_
 ·intro _f_f34 ih_f34 j o hF
  intro c hc Q hq
  obtain rfl:c=_:=navEq hc rfl
  refine ALoopU.know fun hk hs=> ?_
  have b0:=hk 0
  simp -dsimp at b0
  clear hk hs
  refine ALoopU.enter ?_
  have hF:=ob hF;obtain⟨x10,e11,hF⟩:=hF
  have le11:=lt_of_get e11
  repeat(first|refine chk.ga ?_|simp -dsimp[↓e11])
  refine abr.split (fun h12=> ?_) (fun h12=> ?_)
  ·have q13:(j<x10.ctors.length):=auq h12
   have z14:((j:Int)<(x10.ctors.length:Int)):=auz
   rw[if_pos q13]at hF
   repeat(first|refine chk.ga ?_|simp -dsimp[↓e11,h12,z14])
   refine abr.split (fun h15=> ?_) (fun h15=> ?_)
   ·have q16:¬((i:Int)<d):=auq h15
    rw[if_neg q16]at hF
    repeat(first|refine chk.ga ?_|simp -dsimp[↓e11,h12,z14,h15,q16])
    refine abr.split (fun h17=> ?_) (fun h17=> ?_)
    ·have q18:((j:Int)<k):=auq h17
     rw[if_pos q18]at hF
     repeat(first|refine chk.ga ?_|simp -dsimp[↓e11,h12,z14,h15,q16,h17])
     refine ADraw.simple follows (by kernel_rfl) (by kernel_rfl) ?_
     have hF:=ob hF;obtain⟨x19,e20a,hF⟩:=hF
     have e20a:=at_some e20a;obtain⟨ne20,e20⟩:=e20a
     have le20:=lt_of_get e20
     repeat(first|refine chk.ga ?_|simp -dsimp[↓e11,h12,z14,h15,q16,h17,↓e20])
     refine abr.split (fun h21=> ?_) (fun h21=> ?_)
     ·have q22:(k<(x19.ctors.length:Int)):=auq h21
      rw[if_pos q22]at hF
      have hF:=ob hF;obtain⟨x23,e24,hF⟩:=hF
      have le24:=lt_of_get e24
      have hF:=ob hF;obtain⟨x25,e26a,hF⟩:=hF
      have e26a:=at_some e26a;obtain⟨ne26,e26⟩:=e26a
      have le26:=lt_of_get e26
      repeat(first|refine chk.ga ?_|simp -dsimp[↓e11,h12,z14,h15,q16,h17,↓e20,h21,↓e24,↓e26])
      refine abr.split (fun h27=> ?_) (fun h27=> ?_)
      ·have q28:(x23.name.toList=x25.name.toList):=auq h27
       rw[if_pos q28]at hF
       cases hF
       repeat(first|refine chk.ga ?_|simp -dsimp[↓e11,h12,z14,h15,q16,h17,↓e20,h21,↓e24,↓e26,h27])
       refine Leave.go _ (Gh.refl _) (hq _ ?_)
       repeat(first|refine chk.ga ?_|simp -dsimp[↓e11,h12,z14,h15,q16,h17,↓e20,h21,↓e24,↓e26,h27])
      ·have q28:¬(x23.name.toList=x25.name.toList):=auq h27
       rw[if_neg q28]at hF
       have hF:=oc hF;obtain⟨c29,hF⟩:=hF
       have w30:IntKind.i64.wrap ((j:Int)+1)=(j:Int)+1:=wrap_in (by omega) (by omega)
       repeat(first|refine chk.ga ?_|simp -dsimp[↓e11,h12,z14,h15,q16,h17,↓e20,h21,↓e24,↓e26,h27,q28,w30])
       refine Again.go _ ?_ ((ih_f34 (j+1) o hF) _ rfl _ hq)
       exact(Gh.to3 (by simp) (by first|simp -dsimp[↓e11,h12,z14,h15,q16,h17,↓e20,h21,↓e24,↓e26,h27,q28,w30];done|simp_all))
     ·have q22:¬(k<(x19.ctors.length:Int)):=auq h21
      rw[if_neg q22]at hF
      have hF:=oc hF;obtain⟨c31,hF⟩:=hF
      have w32:IntKind.i64.wrap ((j:Int)+1)=(j:Int)+1:=wrap_in (by omega) (by omega)
      repeat(first|refine chk.ga ?_|simp -dsimp[↓e11,h12,z14,h15,q16,h17,↓e20,h21,q22,w32])
      refine Again.go _ ?_ ((ih_f34 (j+1) o hF) _ rfl _ hq)
      exact(Gh.to3 (by simp) (by first|simp -dsimp[↓e11,h12,z14,h15,q16,h17,↓e20,h21,q22,w32];done|simp_all))
    ·have q18:¬((j:Int)<k):=auq h17
     rw[if_neg q18]at hF
     cases hF
     repeat(first|refine chk.ga ?_|simp -dsimp[↓e11,h12,z14,h15,q16,h17,q18])
     refine Leave.go ⟨[(0,.arr (List.map Vl.Data.c w)),(1,.lit (.int .i64 d)),(2,.lit (.int .i64 k)),(7,.lit (.int .i64 (i:Int)))],[]⟩ (Gh.to3 (by simp) (by first|simp -dsimp[↓e11,h12,z14,h15,q16,h17,q18];done|simp_all)) ?_
     exact hq
   ·have q16:((i:Int)<d):=auq h15
    rw[if_pos q16]at hF
    repeat(first|refine chk.ga ?_|simp -dsimp[↓e11,h12,z14,h15,q16])
    refine ADraw.simple follows (by kernel_rfl) (by kernel_rfl) ?_
    have hF:=ob hF;obtain⟨x33,e34a,hF⟩:=hF
    have e34a:=at_some e34a;obtain⟨ne34,e34⟩:=e34a
    have le34:=lt_of_get e34
    repeat(first|refine chk.ga ?_|simp -dsimp[↓e11,h12,z14,h15,q16,↓e34])
    refine abr.split (fun h35=> ?_) (fun h35=> ?_)
    ·have q36:(k<(x33.ctors.length:Int)):=auq h35
     rw[if_pos q36]at hF
     have hF:=ob hF;obtain⟨x37,e38,hF⟩:=hF
     have le38:=lt_of_get e38
     have hF:=ob hF;obtain⟨x39,e40a,hF⟩:=hF
     have e40a:=at_some e40a;obtain⟨ne40,e40⟩:=e40a
     have le40:=lt_of_get e40
     repeat(first|refine chk.ga ?_|simp -dsimp[↓e11,h12,z14,h15,q16,↓e34,h35,↓e38,↓e40])
     refine abr.split (fun h41=> ?_) (fun h41=> ?_)
     ·have q42:(x37.name.toList=x39.name.toList):=auq h41
      rw[if_pos q42]at hF
      cases hF
      repeat(first|refine chk.ga ?_|simp -dsimp[↓e11,h12,z14,h15,q16,↓e34,h35,↓e38,↓e40,h41])
      refine Leave.go _ (Gh.refl _) (hq _ ?_)
      repeat(first|refine chk.ga ?_|simp -dsimp[↓e11,h12,z14,h15,q16,↓e34,h35,↓e38,↓e40,h41])
     ·have q42:¬(x37.name.toList=x39.name.toList):=auq h41
      rw[if_neg q42]at hF
      have hF:=oc hF;obtain⟨c43,hF⟩:=hF
      have w44:IntKind.i64.wrap ((j:Int)+1)=(j:Int)+1:=wrap_in (by omega) (by omega)
      repeat(first|refine chk.ga ?_|simp -dsimp[↓e11,h12,z14,h15,q16,↓e34,h35,↓e38,↓e40,h41,q42,w44])
      refine Again.go _ ?_ ((ih_f34 (j+1) o hF) _ rfl _ hq)
      exact(Gh.to3 (by simp) (by first|simp -dsimp[↓e11,h12,z14,h15,q16,↓e34,h35,↓e38,↓e40,h41,q42,w44];done|simp_all))
    ·have q36:¬(k<(x33.ctors.length:Int)):=auq h35
     rw[if_neg q36]at hF
     have hF:=oc hF;obtain⟨c45,hF⟩:=hF
     have w46:IntKind.i64.wrap ((j:Int)+1)=(j:Int)+1:=wrap_in (by omega) (by omega)
     repeat(first|refine chk.ga ?_|simp -dsimp[↓e11,h12,z14,h15,q16,↓e34,h35,q36,w46])
     refine Again.go _ ?_ ((ih_f34 (j+1) o hF) _ rfl _ hq)
     exact(Gh.to3 (by simp) (by first|simp -dsimp[↓e11,h12,z14,h15,q16,↓e34,h35,q36,w46];done|simp_all))
  ·have q13:¬(j<x10.ctors.length):=auq h12
   have z14:¬((j:Int)<(x10.ctors.length:Int)):=auz
   rw[if_neg q13]at hF
   cases hF
   repeat(first|refine chk.ga ?_|simp -dsimp[↓e11,h12,q13,z14])
   refine Leave.go ⟨[(0,.arr (List.map Vl.Data.c w)),(1,.lit (.int .i64 d)),(2,.lit (.int .i64 k)),(7,.lit (.int .i64 (i:Int)))],[]⟩ (Gh.to3 (by simp) (by first|simp -dsimp[↓e11,h12,q13,z14];done|simp_all)) ?_
   exact hq
theorem CC.f35 (w:List Vl.Data)(d:Int)(k:Int)(i:Nat):(∀(j50:Nat) (o:Lo Bool Unit),F.f35 w d k i j50=some o→∀(c:Code),navO [1,0,1,0,0,1,0,0,1,1,0,0] (bodyOf Tryz.f193)=some c→∀(Q:Exit→ASt→Prop),o.post (fun r=>∀st,Post Tryz.prog Tryz.f193 (fun r' _=>r'.le (.lit (.bool r))) .ret st→Q .ret st) (fun s=>Q (.exit 2) ⟨[(0,.arr (List.map Vl.Data.c w)),(1,.lit (.int .i64 d)),(2,.lit (.int .i64 k)),(7,.lit (.int .i64 (i:Int)))],[]⟩)→ALoopU Tryz.prog B 0 79 (hold c .mk) ⟨[(0,.arr (List.map Vl.Data.c w)),(1,.lit (.int .i64 d)),(2,.lit (.int .i64 k)),(7,.lit (.int .i64 (i:Int))),(8,.lit (.int .i64 (j50:Int)))],[]⟩ (hold Q .mk)):=by
 refine F.f35.partial_correctness w d k i
  _
  ?_
 ·intro _f_f35 ih_f35 j50 o hF
  intro c hc Q hq
  obtain rfl:c=_:=navEq hc rfl
  refine ALoopU.know fun hk hs=> ?_
  have b0:=hk 0
  simp -dsimp at b0
  clear hk hs
  refine ALoopU.enter ?_
  have hF:=ob hF;obtain⟨x51,e52,hF⟩:=hF
  have le52:=lt_of_get e52
  repeat(first|refine chk.ga ?_|simp -dsimp[↓e52])
  refine abr.split (fun h53=> ?_) (fun h53=> ?_)
  ·have q54:(j50<x51.ctors.length):=auq h53
   have z55:((j50:Int)<(x51.ctors.length:Int)):=auz
   rw[if_pos q54]at hF
   repeat(first|refine chk.ga ?_|simp -dsimp[↓e52,h53,z55])
   refine abr.split (fun h56=> ?_) (fun h56=> ?_)
   ·have q57:¬((i:Int)<d):=auq h56
    rw[if_neg q57]at hF
    repeat(first|refine chk.ga ?_|simp -dsimp[↓e52,h53,z55,h56,q57])
    refine abr.split (fun h58=> ?_) (fun h58=> ?_)
    ·have q59:((j50:Int)<k):=auq h58
     rw[if_pos q59]at hF
     repeat(first|refine chk.ga ?_|simp -dsimp[↓e52,h53,z55,h56,q57,h58])
     refine ADraw.simple follows (by kernel_rfl) (by kernel_rfl) ?_
     have hF:=ob hF;obtain⟨x60,e61a,hF⟩:=hF
     have e61a:=at_some e61a;obtain⟨ne61,e61⟩:=e61a
     have le61:=lt_of_get e61
     repeat(first|refine chk.ga ?_|simp -dsimp[↓e52,h53,z55,h56,q57,h58,↓e61])
     refine abr.split (fun h62=> ?_) (fun h62=> ?_)
     ·have q63:(k<(x60.ctors.length:Int)):=auq h62
      rw[if_pos q63]at hF
      have hF:=ob hF;obtain⟨x64,e65,hF⟩:=hF
      have le65:=lt_of_get e65
      have hF:=ob hF;obtain⟨x66,e67a,hF⟩:=hF
      have e67a:=at_some e67a;obtain⟨ne67,e67⟩:=e67a
      have le67:=lt_of_get e67
      repeat(first|refine chk.ga ?_|simp -dsimp[↓e52,h53,z55,h56,q57,h58,↓e61,h62,↓e65,↓e67])
      refine abr.split (fun h68=> ?_) (fun h68=> ?_)
      ·have q69:(x64.name.toList=x66.name.toList):=auq h68
       rw[if_pos q69]at hF
       cases hF
       repeat(first|refine chk.ga ?_|simp -dsimp[↓e52,h53,z55,h56,q57,h58,↓e61,h62,↓e65,↓e67,h68])
       refine Leave.go _ (Gh.refl _) (hq _ ?_)
       repeat(first|refine chk.ga ?_|simp -dsimp[↓e52,h53,z55,h56,q57,h58,↓e61,h62,↓e65,↓e67,h68])
      ·have q69:¬(x64.name.toList=x66.name.toList):=auq h68
       rw[if_neg q69]at hF
       have hF:=oc hF;obtain⟨c70,hF⟩:=hF
       have w71:IntKind.i64.wrap ((j50:Int)+1)=(j50:Int)+1:=wrap_in (by omega) (by omega)
       repeat(first|refine chk.ga ?_|simp -dsimp[↓e52,h53,z55,h56,q57,h58,↓e61,h62,↓e65,↓e67,h68,q69,w71])
       refine Again.go _ ?_ ((ih_f35 (j50+1) o hF) _ rfl _ hq)
       exact(Gh.to3 (by simp) (by first|simp -dsimp[↓e52,h53,z55,h56,q57,h58,↓e61,h62,↓e65,↓e67,h68,q69,w71];done|simp_all))
     ·have q63:¬(k<(x60.ctors.length:Int)):=auq h62
      rw[if_neg q63]at hF
      have hF:=oc hF;obtain⟨c72,hF⟩:=hF
      have w73:IntKind.i64.wrap ((j50:Int)+1)=(j50:Int)+1:=wrap_in (by omega) (by omega)
      repeat(first|refine chk.ga ?_|simp -dsimp[↓e52,h53,z55,h56,q57,h58,↓e61,h62,q63,w73])
      refine Again.go _ ?_ ((ih_f35 (j50+1) o hF) _ rfl _ hq)
      exact(Gh.to3 (by simp) (by first|simp -dsimp[↓e52,h53,z55,h56,q57,h58,↓e61,h62,q63,w73];done|simp_all))
    ·have q59:¬((j50:Int)<k):=auq h58
     rw[if_neg q59]at hF
     cases hF
     repeat(first|refine chk.ga ?_|simp -dsimp[↓e52,h53,z55,h56,q57,h58,q59])
     refine Leave.go ⟨[(0,.arr (List.map Vl.Data.c w)),(1,.lit (.int .i64 d)),(2,.lit (.int .i64 k)),(7,.lit (.int .i64 (i:Int)))],[]⟩ (Gh.to3 (by simp) (by first|simp -dsimp[↓e52,h53,z55,h56,q57,h58,q59];done|simp_all)) ?_
     exact hq
   ·have q57:((i:Int)<d):=auq h56
    rw[if_pos q57]at hF
    repeat(first|refine chk.ga ?_|simp -dsimp[↓e52,h53,z55,h56,q57])
    refine ADraw.simple follows (by kernel_rfl) (by kernel_rfl) ?_
    have hF:=ob hF;obtain⟨x74,e75a,hF⟩:=hF
    have e75a:=at_some e75a;obtain⟨ne75,e75⟩:=e75a
    have le75:=lt_of_get e75
    repeat(first|refine chk.ga ?_|simp -dsimp[↓e52,h53,z55,h56,q57,↓e75])
    refine abr.split (fun h76=> ?_) (fun h76=> ?_)
    ·have q77:(k<(x74.ctors.length:Int)):=auq h76
     rw[if_pos q77]at hF
     have hF:=ob hF;obtain⟨x78,e79,hF⟩:=hF
     have le79:=lt_of_get e79
     have hF:=ob hF;obtain⟨x80,e81a,hF⟩:=hF
     have e81a:=at_some e81a;obtain⟨ne81,e81⟩:=e81a
     have le81:=lt_of_get e81
     repeat(first|refine chk.ga ?_|simp -dsimp[↓e52,h53,z55,h56,q57,↓e75,h76,↓e79,↓e81])
     refine abr.split (fun h82=> ?_) (fun h82=> ?_)
     ·have q83:(x78.name.toList=x80.name.toList):=auq h82
      rw[if_pos q83]at hF
      cases hF
      repeat(first|refine chk.ga ?_|simp -dsimp[↓e52,h53,z55,h56,q57,↓e75,h76,↓e79,↓e81,h82])
      refine Leave.go _ (Gh.refl _) (hq _ ?_)
      repeat(first|refine chk.ga ?_|simp -dsimp[↓e52,h53,z55,h56,q57,↓e75,h76,↓e79,↓e81,h82])
     ·have q83:¬(x78.name.toList=x80.name.toList):=auq h82
      rw[if_neg q83]at hF
      have hF:=oc hF;obtain⟨c84,hF⟩:=hF
      have w85:IntKind.i64.wrap ((j50:Int)+1)=(j50:Int)+1:=wrap_in (by omega) (by omega)
      repeat(first|refine chk.ga ?_|simp -dsimp[↓e52,h53,z55,h56,q57,↓e75,h76,↓e79,↓e81,h82,q83,w85])
      refine Again.go _ ?_ ((ih_f35 (j50+1) o hF) _ rfl _ hq)
      exact(Gh.to3 (by simp) (by first|simp -dsimp[↓e52,h53,z55,h56,q57,↓e75,h76,↓e79,↓e81,h82,q83,w85];done|simp_all))
    ·have q77:¬(k<(x74.ctors.length:Int)):=auq h76
     rw[if_neg q77]at hF
     have hF:=oc hF;obtain⟨c86,hF⟩:=hF
     have w87:IntKind.i64.wrap ((j50:Int)+1)=(j50:Int)+1:=wrap_in (by omega) (by omega)
     repeat(first|refine chk.ga ?_|simp -dsimp[↓e52,h53,z55,h56,q57,↓e75,h76,q77,w87])
     refine Again.go _ ?_ ((ih_f35 (j50+1) o hF) _ rfl _ hq)
     exact(Gh.to3 (by simp) (by first|simp -dsimp[↓e52,h53,z55,h56,q57,↓e75,h76,q77,w87];done|simp_all))
  ·have q54:¬(j50<x51.ctors.length):=auq h53
   have z55:¬((j50:Int)<(x51.ctors.length:Int)):=auz
   rw[if_neg q54]at hF
   cases hF
   repeat(first|refine chk.ga ?_|simp -dsimp[↓e52,h53,q54,z55])
   refine Leave.go ⟨[(0,.arr (List.map Vl.Data.c w)),(1,.lit (.int .i64 d)),(2,.lit (.int .i64 k)),(7,.lit (.int .i64 (i:Int)))],[]⟩ (Gh.to3 (by simp) (by first|simp -dsimp[↓e52,h53,q54,z55];done|simp_all)) ?_
   exact hq
theorem CC.f36 (w:List Vl.Data)(d:Int)(k:Int):(∀(i:Nat) (o:Lo Bool Unit),F.f36 w d k i=some o→∀(c:Code),navO [1,0,1,0,0] (bodyOf Tryz.f193)=some c→∀(Q:Exit→ASt→Prop),o.post (fun r=>∀st,Post Tryz.prog Tryz.f193 (fun r' _=>r'.le (.lit (.bool r))) .ret st→Q .ret st) (fun s=>Q (.exit 0) ⟨[],[]⟩)→ALoopU Tryz.prog B 0 79 (hold c .mk) ⟨[(0,.arr (List.map Vl.Data.c w)),(1,.lit (.int .i64 d)),(2,.lit (.int .i64 k)),(7,.lit (.int .i64 (i:Int)))],[]⟩ (hold Q .mk)):=by
 refine F.f36.partial_correctness w d k
  _
  ?_
 ·intro _f_f36 ih_f36 i o hF
  intro c hc Q hq
  obtain rfl:c=_:=navEq hc rfl
  refine ALoopU.know fun hk hs=> ?_
  have b0:=hk 0
  simp -dsimp at b0
  clear hk hs
  refine ALoopU.enter ?_
  repeat(first|refine chk.ga ?_|simp -dsimp)
  refine abr.split (fun h1=> ?_) (fun h1=> ?_)
  ·have q2:((i:Int)≤d):=auq h1
   rw[if_pos q2]at hF
   repeat(first|refine chk.ga ?_|simp -dsimp[h1])
   refine ADraw.simple follows (by kernel_rfl) (by kernel_rfl) ?_
   repeat(first|refine chk.ga ?_|simp -dsimp[h1])
   refine abr.split (fun h3=> ?_) (fun h3=> ?_)
   ·have q4:((i:Int)<d):=auq h3
    rw[if_pos q4]at hF
    have hF:=ob hF;obtain⟨x,e5,hF⟩:=hF
    have le5:=lt_of_get e5
    have hF:=ob hF;obtain⟨x6,e7a,hF⟩:=hF
    have e7a:=at_some e7a;obtain⟨ne7,e7⟩:=e7a
    have le7:=lt_of_get e7
    repeat(first|refine chk.ga ?_|simp -dsimp[h1,h3,↓e5,↓e7])
    refine abr.split (fun h8=> ?_) (fun h8=> ?_)
    ·have q9:(x.name.toList=x6.name.toList):=auq h8
     rw[if_pos q9]at hF
     cases hF
     repeat(first|refine chk.ga ?_|simp -dsimp[h1,h3,↓e5,↓e7,h8])
     refine Leave.go _ (Gh.refl _) (hq _ ?_)
     repeat(first|refine chk.ga ?_|simp -dsimp[h1,h3,↓e5,↓e7,h8])
    ·have q9:¬(x.name.toList=x6.name.toList):=auq h8
     rw[if_neg q9]at hF
     repeat(first|refine chk.ga ?_|simp -dsimp[h1,h3,↓e5,↓e7,h8,q9])
     have hF:=ob hF;obtain⟨o',ho47,hF⟩:=hF
     refine ALoop.goU _ ?_ (((CC.f34 B hB1 hB2 w d k i) 0 o' ho47) _ rfl _ ?_)
     ·exact(Gh.to3 (by simp) (by first|simp -dsimp[h1,h3,↓e5,↓e7,h8,q9];done|simp_all))
     rcases o' with r0|sx
     ·dsimp only at hF
      cases hF
      intro st h
      simp -dsimp
      refine Leave.go st (Gh.refl _) (hq st h)
     ·dsimp only at hF
      have hF:=oc hF;obtain⟨c48,hF⟩:=hF
      have w49:IntKind.i64.wrap ((i:Int)+1)=(i:Int)+1:=wrap_in (by omega) (by omega)
      repeat(first|refine chk.ga ?_|simp -dsimp[w49])
      refine Again.go _ ?_ ((ih_f36 (i+1) o hF) _ rfl _ hq)
      exact(Gh.to3 (by simp) (by first|simp -dsimp[w49];done|simp_all))
   ·have q4:¬((i:Int)<d):=auq h3
    rw[if_neg q4]at hF
    repeat(first|refine chk.ga ?_|simp -dsimp[h1,h3,q4])
    have hF:=ob hF;obtain⟨o'89,ho88,hF⟩:=hF
    refine ALoop.goU _ ?_ (((CC.f35 B hB1 hB2 w d k i) 0 o'89 ho88) _ rfl _ ?_)
    ·exact(Gh.to3 (by simp) (by first|simp -dsimp[h1,h3,q4];done|simp_all))
    rcases o'89 with r093|sx90
    ·dsimp only at hF
     cases hF
     intro st h
     simp -dsimp
     refine Leave.go st (Gh.refl _) (hq st h)
    ·dsimp only at hF
     have hF:=oc hF;obtain⟨c91,hF⟩:=hF
     have w92:IntKind.i64.wrap ((i:Int)+1)=(i:Int)+1:=wrap_in (by omega) (by omega)
     repeat(first|refine chk.ga ?_|simp -dsimp[w92])
     refine Again.go _ ?_ ((ih_f36 (i+1) o hF) _ rfl _ hq)
     exact(Gh.to3 (by simp) (by first|simp -dsimp[w92];done|simp_all))
  ·have q2:¬((i:Int)≤d):=auq h1
   rw[if_neg q2]at hF
   cases hF
   repeat(first|refine chk.ga ?_|simp -dsimp[h1,q2])
   refine Leave.go ⟨[],[]⟩ (Gh.to3 (by simp) (by first|simp -dsimp[h1,q2];done|simp_all)) ?_
   exact hq
theorem C.f37 (w:List Vl.Data)(d:Int)(k:Int)(r:Bool)(hF:F.f37 w d k=some r):PureCall Tryz.prog B 193 [.arr (List.map Vl.Data.c w),.lit (.int .i64 d),.lit (.int .i64 k)] (.lit (.bool r)):=by
 unfold F.f37 at hF
 refine PureCall.enterLe Tryz.func193 (by kernel_rfl) rfl Tryz.ntmps193 (by simp) (by simp) ?_
 repeat(first|refine chk.ga ?_|simp -dsimp)
 have hF:=ob hF;obtain⟨o'95,ho94,hF⟩:=hF
 refine ALoop.goU _ ?_ (((CC.f36 B hB1 hB2 w d k) 0 o'95 ho94) _ rfl _ ?_)
 ·exact(Gh.to3 (by simp) (by simp -dsimp))
 rcases o'95 with r097|sx96
 ·dsimp only at hF
  cases hF
  intro st h
  simpa using h
 ·dsimp only at hF
  cases hF
  repeat(first|refine chk.ga ?_|simp -dsimp)
  all_goals(try first|omega|rfl)
theorem CC.f38 (w:List Vl.Data)(d:Nat):(∀(k:Nat) (o:Lo Bool Unit),F.f38 w d k=some o→∀(c:Code),navO [1,1,0,1,0,0,1,0,0,1,1,0,0] (bodyOf Tryz.f148)=some c→∀(Q:Exit→ASt→Prop),o.post (fun r=>∀st,Post Tryz.prog Tryz.f148 (fun r' _=>r'.le (.lit (.bool r))) .ret st→Q .ret st) (fun s=>Q (.exit 2) ⟨[(0,.arr (List.map Vl.Data.c w)),(3,.lit (.int .i64 (d:Int)))],[]⟩)→ALoopU Tryz.prog B 0 67 (hold c .mk) ⟨[(0,.arr (List.map Vl.Data.c w)),(3,.lit (.int .i64 (d:Int))),(4,.lit (.int .i64 (k:Int)))],[]⟩ (hold Q .mk)):=by
 refine F.f38.partial_correctness w d
  _
  ?_
 ·intro _f_f38 ih_f38 k o hF
  intro c hc Q hq
  obtain rfl:c=_:=navEq hc rfl
  refine ALoopU.know fun hk hs=> ?_
  have b0:=hk 0
  simp -dsimp at b0
  clear hk hs
  refine ALoopU.enter ?_
  have hF:=ob hF;obtain⟨x17,e18,hF⟩:=hF
  have le18:=lt_of_get e18
  repeat(first|refine chk.ga ?_|simp -dsimp[↓e18])
  refine abr.split (fun h19=> ?_) (fun h19=> ?_)
  ·have q20:(k<x17.ctors.length):=auq h19
   have z21:((k:Int)<(x17.ctors.length:Int)):=auz
   rw[if_pos q20]at hF
   have hF:=ob hF;obtain⟨x22,e23,hF⟩:=hF
   have le23:=lt_of_get e23
   repeat(first|refine chk.ga ?_|simp -dsimp[↓e18,h19,z21,↓e23])
   have hF:=ob hF;obtain⟨v24,e25,hF⟩:=hF
   refine((C.f33 B hB1 hB2 (w.length:Int) x22 v24 e25)).goW (by first|simp[↓e18,h19,z21,↓e23];done|simp_all) (by simp) ?_
   repeat(first|refine chk.ga ?_|simp -dsimp[↓e18,h19,z21,↓e23])
   refine abr.split (fun h26=> ?_) (fun h26=> ?_)
   ·have q27:(v24=true):=auq h26
    rw[if_pos q27]at hF
    repeat(first|refine chk.ga ?_|simp -dsimp[↓e18,h19,z21,↓e23,h26])
    have hF:=ob hF;obtain⟨v28,e29,hF⟩:=hF
    refine((C.f37 B hB1 hB2 w (d:Int) (k:Int) v28 e29)).goW (by first|simp[↓e18,h19,z21,↓e23,h26];done|simp_all) (by simp) ?_
    repeat(first|refine chk.ga ?_|simp -dsimp[↓e18,h19,z21,↓e23,h26])
    refine abr.split (fun h30=> ?_) (fun h30=> ?_)
    ·have q31:(v28=true):=auq h30
     rw[if_pos q31]at hF
     cases hF
     repeat(first|refine chk.ga ?_|simp -dsimp[↓e18,h19,z21,↓e23,h26,h30])
     refine Leave.go _ (Gh.refl _) (hq _ ?_)
     repeat(first|refine chk.ga ?_|simp -dsimp[↓e18,h19,z21,↓e23,h26,h30])
    ·have q31:¬(v28=true):=auq h30
     rw[if_neg q31]at hF
     have hF:=oc hF;obtain⟨c32,hF⟩:=hF
     have w33:IntKind.i64.wrap ((k:Int)+1)=(k:Int)+1:=wrap_in (by omega) (by omega)
     repeat(first|refine chk.ga ?_|simp -dsimp[↓e18,h19,z21,↓e23,h26,h30,q31,w33])
     refine Again.go _ ?_ ((ih_f38 (k+1) o hF) _ rfl _ hq)
     exact(Gh.to3 (by simp) (by first|simp -dsimp[↓e18,h19,z21,↓e23,h26,h30,q31,w33];done|simp_all))
   ·have q27:¬(v24=true):=auq h26
    rw[if_neg q27]at hF
    cases hF
    repeat(first|refine chk.ga ?_|simp -dsimp[↓e18,h19,z21,↓e23,h26,q27])
    refine Leave.go _ (Gh.refl _) (hq _ ?_)
    repeat(first|refine chk.ga ?_|simp -dsimp[↓e18,h19,z21,↓e23,h26,q27])
  ·have q20:¬(k<x17.ctors.length):=auq h19
   have z21:¬((k:Int)<(x17.ctors.length:Int)):=auz
   rw[if_neg q20]at hF
   cases hF
   repeat(first|refine chk.ga ?_|simp -dsimp[↓e18,h19,q20,z21])
   refine Leave.go ⟨[(0,.arr (List.map Vl.Data.c w)),(3,.lit (.int .i64 (d:Int)))],[]⟩ (Gh.to3 (by simp) (by first|simp -dsimp[↓e18,h19,q20,z21];done|simp_all)) ?_
   exact hq
theorem CC.f39 (w:List Vl.Data):(∀(d:Nat) (o:Lo Bool Unit),F.f39 w d=some o→∀(c:Code),navO [1,1,0,1,0,0] (bodyOf Tryz.f148)=some c→∀(Q:Exit→ASt→Prop),o.post (fun r=>∀st,Post Tryz.prog Tryz.f148 (fun r' _=>r'.le (.lit (.bool r))) .ret st→Q .ret st) (fun s=>Q (.exit 0) ⟨[],[]⟩)→ALoopU Tryz.prog B 0 67 (hold c .mk) ⟨[(0,.arr (List.map Vl.Data.c w)),(3,.lit (.int .i64 (d:Int)))],[]⟩ (hold Q .mk)):=by
 refine F.f39.partial_correctness w
  _
  ?_
 ·intro _f_f39 ih_f39 d o hF
  intro c hc Q hq
  obtain rfl:c=_:=navEq hc rfl
  refine ALoopU.know fun hk hs=> ?_
  have b0:=hk 0
  simp -dsimp at b0
  clear hk hs
  refine ALoopU.enter ?_
  repeat(first|refine chk.ga ?_|simp -dsimp)
  refine abr.split (fun h4=> ?_) (fun h4=> ?_)
  ·have q5:(d<w.length):=auq h4
   have z6:((d:Int)<(w.length:Int)):=auz
   rw[if_pos q5]at hF
   have hF:=ob hF;obtain⟨x,e7,hF⟩:=hF
   have le7:=lt_of_get e7
   repeat(first|refine chk.ga ?_|simp -dsimp[h4,z6,↓e7])
   have hF:=ob hF;obtain⟨v,e8,hF⟩:=hF
   refine((C.f28 B hB1 hB2 x.name v e8)).goW (by first|simp[h4,z6,↓e7];done|simp_all) (by simp) ?_
   repeat(first|refine chk.ga ?_|simp -dsimp[h4,z6,↓e7])
   refine abr.split (fun h9=> ?_) (fun h9=> ?_)
   ·have q10:(v=true):=auq h9
    rw[if_pos q10]at hF
    repeat(first|refine chk.ga ?_|simp -dsimp[h4,z6,↓e7,h9])
    refine abr.split (fun h11=> ?_) (fun h11=> ?_)
    ·have q12:¬(x.ctors.length=0):=auq h11
     have z13:¬((x.ctors.length:Int)=(0:Int)):=auz
     rw[if_neg q12]at hF
     repeat(first|refine chk.ga ?_|simp -dsimp[h4,z6,↓e7,h9,h11,q12,z13])
     refine abr.split (fun h14=> ?_) (fun h14=> ?_)
     ·have q15:(4<x.ctors.length):=auq h14
      have z16:((4:Int)<(x.ctors.length:Int)):=auz
      rw[if_pos q15]at hF
      cases hF
      repeat(first|refine chk.ga ?_|simp -dsimp[h4,z6,↓e7,h9,h11,q12,z13,h14,z16])
      refine Leave.go _ (Gh.refl _) (hq _ ?_)
      repeat(first|refine chk.ga ?_|simp -dsimp[h4,z6,↓e7,h9,h11,q12,z13,h14,z16])
     ·have q15:¬(4<x.ctors.length):=auq h14
      have z16:¬((4:Int)<(x.ctors.length:Int)):=auz
      rw[if_neg q15]at hF
      repeat(first|refine chk.ga ?_|simp -dsimp[h4,z6,↓e7,h9,h11,q12,z13,h14,q15,z16])
      have hF:=ob hF;obtain⟨o',ho34,hF⟩:=hF
      refine ALoop.goU _ ?_ (((CC.f38 B hB1 hB2 w d) 0 o' ho34) _ rfl _ ?_)
      ·exact(Gh.to3 (by simp) (by first|simp -dsimp[h4,z6,↓e7,h9,h11,q12,z13,h14,q15,z16];done|simp_all))
      rcases o' with r0|sx
      ·dsimp only at hF
       cases hF
       intro st h
       simp -dsimp
       refine Leave.go st (Gh.refl _) (hq st h)
      ·dsimp only at hF
       have hF:=oc hF;obtain⟨c35,hF⟩:=hF
       have w36:IntKind.i64.wrap ((d:Int)+1)=(d:Int)+1:=wrap_in (by omega) (by omega)
       repeat(first|refine chk.ga ?_|simp -dsimp[w36])
       refine Again.go _ ?_ ((ih_f39 (d+1) o hF) _ rfl _ hq)
       exact(Gh.to3 (by simp) (by first|simp -dsimp[w36];done|simp_all))
    ·have q12:(x.ctors.length=0):=auq h11
     have z13:((x.ctors.length:Int)=(0:Int)):=auz
     rw[if_pos q12]at hF
     cases hF
     repeat(first|refine chk.ga ?_|simp -dsimp[h4,z6,↓e7,h9,h11,q12,z13])
     refine Leave.go _ (Gh.refl _) (hq _ ?_)
     repeat(first|refine chk.ga ?_|simp -dsimp[h4,z6,↓e7,h9,h11,q12,z13])
   ·have q10:¬(v=true):=auq h9
    rw[if_neg q10]at hF
    cases hF
    repeat(first|refine chk.ga ?_|simp -dsimp[h4,z6,↓e7,h9,q10])
    refine Leave.go _ (Gh.refl _) (hq _ ?_)
    repeat(first|refine chk.ga ?_|simp -dsimp[h4,z6,↓e7,h9,q10])
  ·have q5:¬(d<w.length):=auq h4
   have z6:¬((d:Int)<(w.length:Int)):=auz
   rw[if_neg q5]at hF
   cases hF
   repeat(first|refine chk.ga ?_|simp -dsimp[h4,q5,z6])
   refine Leave.go ⟨[],[]⟩ (Gh.to3 (by simp) (by first|simp -dsimp[h4,q5,z6];done|simp_all)) ?_
   exact hq
theorem C.f40 (w:List Vl.Data)(r:Bool)(hF:F.f40 w=some r):PureCall Tryz.prog B 148 [.arr (List.map Vl.Data.c w)] (.lit (.bool r)):=by
 unfold F.f40 at hF
 refine PureCall.enterLe Tryz.func148 (by kernel_rfl) rfl Tryz.ntmps148 (by simp) (by simp) ?_
 repeat(first|refine chk.ga ?_|simp -dsimp)
 refine abr.split (fun h1=> ?_) (fun h1=> ?_)
 ·have q2:(4<w.length):=auq h1
  have z3:((4:Int)<(w.length:Int)):=auz
  rw[if_pos q2]at hF
  cases hF
  repeat(first|refine chk.ga ?_|simp -dsimp[h1,z3])
  all_goals(try first|omega|rfl)
 ·have q2:¬(4<w.length):=auq h1
  have z3:¬((4:Int)<(w.length:Int)):=auz
  rw[if_neg q2]at hF
  repeat(first|refine chk.ga ?_|simp -dsimp[h1,q2,z3])
  have hF:=ob hF;obtain⟨o'38,ho37,hF⟩:=hF
  refine ALoop.goU _ ?_ (((CC.f39 B hB1 hB2 w) 0 o'38 ho37) _ rfl _ ?_)
  ·exact(Gh.to3 (by simp) (by first|simp -dsimp[h1,q2,z3];done|simp_all))
  rcases o'38 with r040|sx39
  ·dsimp only at hF
   cases hF
   intro st h
   simpa using h
  ·dsimp only at hF
   cases hF
   repeat(first|refine chk.ga ?_|simp -dsimp)
   all_goals(try first|omega|rfl)
theorem C.f41 (w:List Vl.Data)(t:Vl.Ty)(r:Bool)(hF:F.f41 w t=some r):PureCall Tryz.prog B 149 [.arr (List.map Vl.Data.c w),.agg [.lit (.int .i64 t.data),.lit (.int .i64 t.index)]] (.lit (.bool r)):=by
 unfold F.f41 at hF
 refine PureCall.enterLe Tryz.func149 (by kernel_rfl) rfl Tryz.ntmps149 (by simp) (by simp) ?_
 repeat(first|refine chk.ga ?_|simp -dsimp)
 have hF:=ob hF;obtain⟨v,e1,hF⟩:=hF
 refine((C.f31 B hB1 hB2 (w.length:Int) t v e1)).goW (by simp) (by simp) ?_
 repeat(first|refine chk.ga ?_|simp -dsimp)
 refine abr.split (fun h2=> ?_) (fun h2=> ?_)
 ·have q3:(v=true):=auq h2
  rw[if_pos q3]at hF
  cases hF
  repeat(first|refine chk.ga ?_|simp -dsimp[h2])
  all_goals(try first|omega|rfl)
 ·have q3:¬(v=true):=auq h2
  rw[if_neg q3]at hF
  cases hF
  repeat(first|refine chk.ga ?_|simp -dsimp[h2,q3])
  all_goals(try first|omega|rfl)
theorem C.f42 (w:List Vl.Data)(t:Vl.Ty)(r:Bool)(hF:F.f42 w t=some r):PureCall Tryz.prog B 93 [.arr (List.map Vl.Data.c w),.agg [.lit (.int .i64 t.data),.lit (.int .i64 t.index)]] (.lit (.bool r)):=by
 unfold F.f42 at hF
 refine PureCall.enterLe Tryz.func93 (by kernel_rfl) rfl Tryz.ntmps93 (by simp) (by simp) ?_
 repeat(first|refine chk.ga ?_|simp -dsimp)
 have hF:=ob hF;obtain⟨v,e1,hF⟩:=hF
 refine((C.f40 B hB1 hB2 w v e1)).goW (by simp) (by simp) ?_
 repeat(first|refine chk.ga ?_|simp -dsimp)
 refine abr.split (fun h2=> ?_) (fun h2=> ?_)
 ·have q3:(v=true):=auq h2
  rw[if_pos q3]at hF
  repeat(first|refine chk.ga ?_|simp -dsimp[h2])
  have hF:=ob hF;obtain⟨v4,e5,hF⟩:=hF
  refine((C.f41 B hB1 hB2 w t v4 e5)).goW (by first|simp[h2];done|simp_all) (by simp) ?_
  cases hF
  repeat(first|refine chk.ga ?_|simp -dsimp[h2])
  all_goals(try first|omega|rfl)
 ·have q3:¬(v=true):=auq h2
  rw[if_neg q3]at hF
  cases hF
  repeat(first|refine chk.ga ?_|simp -dsimp[h2,q3])
  all_goals(try first|omega|rfl)
theorem C.f43 (c':Vl.Ctor)(index':Int)(r:Bool)(hF:F.f43 c' index'=some r):PureCall Tryz.prog B 155 [.agg [.lit (.string c'.name),.arr (List.map Vl.Ty.c c'.args),.lit (.int .i64 c'.index)],.lit (.int .i64 index')] (.lit (.bool r)):=by
 unfold F.f43 at hF
 refine PureCall.enterLe Tryz.func155 (by kernel_rfl) rfl Tryz.ntmps155 (by simp) (by simp) ?_
 repeat(first|refine chk.ga ?_|simp -dsimp)
 refine abr.split (fun h1=> ?_) (fun h1=> ?_)
 ·have q2:¬(c'.index=0):=auq h1
  rw[if_neg q2]at hF
  repeat(first|refine chk.ga ?_|simp -dsimp[h1,q2])
  refine abr.split (fun h3=> ?_) (fun h3=> ?_)
  ·have q4:¬(index'=0):=auq h3
   rw[if_neg q4]at hF
   cases hF
   repeat(first|refine chk.ga ?_|simp -dsimp[h1,q2,h3,q4])
   all_goals(try first|omega|rfl)
  ·have q4:(index'=0):=auq h3
   rw[if_pos q4]at hF
   cases hF
   repeat(first|refine chk.ga ?_|simp -dsimp[h1,q2,eq_true h3,eq_true q4])
   all_goals(try first|omega|rfl)
 ·have q2:(c'.index=0):=auq h1
  rw[if_pos q2]at hF
  cases hF
  repeat(first|refine chk.ga ?_|simp -dsimp[h1,q2])
  all_goals(try first|omega|rfl)
theorem CC.f44 (w:List Vl.Data)(t:Vl.Ty):(∀(out:List Int) (k:Nat) (o:List Int),F.f44 w t out k=some o→∀(c:Code),navO [1,1,1,0,1,0,0] (bodyOf Tryz.f99)=some c→∀(Q:Exit→ASt→Prop),(Q (.exit 0) ⟨[(5,.own 1 (List.length (α:=Int) o))],[.dead,.elems 1 (List.map cI o)]⟩)→ALoopU Tryz.prog B 0 40 (hold c .mk) ⟨[(0,.arr (List.map Vl.Data.c w)),(3,.ptr 0 0),(5,.own 1 (List.length (α:=Int) out)),(6,.lit (.int .i64 (k:Int)))],[.cells [.lit (.int .i64 t.data),.lit (.int .i64 t.index)],.elems 1 (List.map cI out)]⟩ (hold Q .mk)):=by
 refine F.f44.partial_correctness w t
  _
  ?_
 ·intro _f_f44 ih_f44 out k o hF
  intro c hc Q hq
  obtain rfl:c=_:=navEq hc rfl
  refine ALoopU.know fun hk hs=> ?_
  have b0:=hk 0
  simp -dsimp at b0
  have d1:=hs 1 _ rfl
  simp -dsimp[Blk.bnd]at d1
  clear hk hs
  refine ALoopU.enter ?_
  have hF:=ob hF;obtain⟨x,e3a,hF⟩:=hF
  have e3a:=at_some e3a;obtain⟨ne3,e3⟩:=e3a
  have le3:=lt_of_get e3
  repeat(first|refine chk.ga ?_|simp -dsimp[↓e3])
  refine abr.split (fun h4=> ?_) (fun h4=> ?_)
  ·have q5:(k<x.ctors.length):=auq h4
   have z6:((k:Int)<(x.ctors.length:Int)):=auz
   rw[if_pos q5]at hF
   repeat(first|refine chk.ga ?_|simp -dsimp[↓e3,h4,z6])
   refine ADraw.simple follows (by kernel_rfl) (by kernel_rfl) ?_
   have hF:=ob hF;obtain⟨x7,e8,hF⟩:=hF
   have le8:=lt_of_get e8
   repeat(first|refine chk.ga ?_|simp -dsimp[↓e3,h4,z6,↓e8])
   have hF:=ob hF;obtain⟨v,e9,hF⟩:=hF
   refine((C.f43 B hB1 hB2 x7 t.index v e9)).pgoW (by first|simp[↓e3,h4,z6,↓e8];done|simp_all) (by simp) ?_
   repeat(first|refine chk.ga ?_|simp -dsimp[↓e3,h4,z6,↓e8])
   refine abr.split (fun h10=> ?_) (fun h10=> ?_)
   ·have q11:(v=true):=auq h10
    rw[if_pos q11]at hF
    have hF:=oc hF;obtain⟨c12,hF⟩:=hF
    have hF:=oc hF;obtain⟨c13,hF⟩:=hF
    have w14:IntKind.i64.wrap ((k:Int)+1)=(k:Int)+1:=wrap_in (by omega) (by omega)
    repeat(first|refine chk.ga ?_|simp -dsimp[↓e3,h4,z6,↓e8,h10,w14])
    refine Again.go _ ?_ ((ih_f44 (out++[(k:Int)]) (k+1) o hF) _ rfl _ hq)
    exact(Gh.to3 (by simp) (by first|simp -dsimp[↓e3,h4,z6,↓e8,h10,w14];done|simp_all))
   ·have q11:¬(v=true):=auq h10
    rw[if_neg q11]at hF
    have hF:=oc hF;obtain⟨c15,hF⟩:=hF
    have w16:IntKind.i64.wrap ((k:Int)+1)=(k:Int)+1:=wrap_in (by omega) (by omega)
    repeat(first|refine chk.ga ?_|simp -dsimp[↓e3,h4,z6,↓e8,h10,q11,w16])
    refine Again.go _ ?_ ((ih_f44 out (k+1) o hF) _ rfl _ hq)
    exact(Gh.to3 (by simp) (by first|simp -dsimp[↓e3,h4,z6,↓e8,h10,q11,w16];done|simp_all))
  ·have q5:¬(k<x.ctors.length):=auq h4
   have z6:¬((k:Int)<(x.ctors.length:Int)):=auz
   rw[if_neg q5]at hF
   cases hF
   repeat(first|refine chk.ga ?_|simp -dsimp[↓e3,h4,q5,z6])
   refine Leave.go ⟨[(5,.own 1 (List.length (α:=Int) out))],[.dead,.elems 1 (List.map cI out)]⟩ (Gh.to3 (by simp) (by first|simp -dsimp[↓e3,h4,q5,z6];done|simp_all)) ?_
   exact hq
theorem C.f45 (w:List Vl.Data)(t:Vl.Ty)(r:List Int)(hF:F.f45 w t=some r):PureCall Tryz.prog B 99 [.arr (List.map Vl.Data.c w),.agg [.lit (.int .i64 t.data),.lit (.int .i64 t.index)]] (.arr (List.map cI r)):=by
 unfold F.f45 at hF
 refine PureCall.enterLe Tryz.func99 (by kernel_rfl) rfl Tryz.ntmps99 (by simp) (by simp) ?_
 repeat(first|refine chk.ga ?_|simp -dsimp)
 refine abr.split (fun h1=> ?_) (fun h1=> ?_)
 ·have q2:(t.data=(-1)):=auq h1
  rw[if_pos q2]at hF
  cases hF
  repeat(first|refine chk.ga ?_|simp -dsimp[h1])
  all_goals(try first|omega|rfl)
 ·have q2:¬(t.data=(-1)):=auq h1
  rw[if_neg q2]at hF
  repeat(first|refine chk.ga ?_|simp -dsimp[h1,q2])
  have hF:=ob hF;obtain⟨o',ho17,hF⟩:=hF
  refine ALoop.goU _ ?_ (((CC.f44 B hB1 hB2 w t) [] 0 o' ho17) _ rfl _ ?_)
  ·exact(Gh.to3 (by simp) (by first|simp -dsimp[h1,q2];done|simp_all))
  cases hF
  repeat(first|refine chk.ga ?_|simp -dsimp)
  all_goals(try first|omega|rfl)
theorem CC.f46 (list:List Int)(n:Int):(∀(i:Nat) (o:Lo Bool Unit),F.f46 list n i=some o→∀(c:Code),navO [1,0,1,0,0] (bodyOf Tryz.f173)=some c→∀(Q:Exit→ASt→Prop),o.post (fun r=>∀st,Post Tryz.prog Tryz.f173 (fun r' _=>r'.le (.lit (.bool r))) .ret st→Q .ret st) (fun s=>Q (.exit 0) ⟨[],[]⟩)→ALoopU Tryz.prog B 0 18 (hold c .mk) ⟨[(0,.arr (List.map cI list)),(1,.lit (.int .i64 n)),(5,.lit (.int .i64 (i:Int)))],[]⟩ (hold Q .mk)):=by
 refine F.f46.partial_correctness list n
  _
  ?_
 ·intro _f_f46 ih_f46 i o hF
  intro c hc Q hq
  obtain rfl:c=_:=navEq hc rfl
  refine ALoopU.know fun hk hs=> ?_
  have b0:=hk 0
  simp -dsimp at b0
  clear hk hs
  refine ALoopU.enter ?_
  repeat(first|refine chk.ga ?_|simp -dsimp)
  refine abr.split (fun h1=> ?_) (fun h1=> ?_)
  ·have q2:(i<list.length):=auq h1
   have z3:((i:Int)<(list.length:Int)):=auz
   rw[if_pos q2]at hF
   have hF:=ob hF;obtain⟨x,e4,hF⟩:=hF
   have le4:=lt_of_get e4
   repeat(first|refine chk.ga ?_|simp -dsimp[h1,z3,↓e4])
   refine abr.split (fun h5=> ?_) (fun h5=> ?_)
   ·have q6:(x=n):=auq h5
    rw[if_pos q6]at hF
    cases hF
    repeat(first|refine chk.ga ?_|simp -dsimp[h1,z3,↓e4,h5])
    refine Leave.go _ (Gh.refl _) (hq _ ?_)
    repeat(first|refine chk.ga ?_|simp -dsimp[h1,z3,↓e4,h5])
   ·have q6:¬(x=n):=auq h5
    rw[if_neg q6]at hF
    have w7:IntKind.i64.wrap ((i:Int)+1)=(i:Int)+1:=wrap_in (by omega) (by omega)
    repeat(first|refine chk.ga ?_|simp -dsimp[h1,z3,↓e4,h5,q6,w7])
    refine Again.go _ ?_ ((ih_f46 (i+1) o hF) _ rfl _ hq)
    exact(Gh.to3 (by simp) (by first|simp -dsimp[h1,z3,↓e4,h5,q6,w7];done|simp_all))
  ·have q2:¬(i<list.length):=auq h1
   have z3:¬((i:Int)<(list.length:Int)):=auz
   rw[if_neg q2]at hF
   cases hF
   repeat(first|refine chk.ga ?_|simp -dsimp[h1,q2,z3])
   refine Leave.go ⟨[],[]⟩ (Gh.to3 (by simp) (by first|simp -dsimp[h1,q2,z3];done|simp_all)) ?_
   exact hq
theorem C.f47 (list:List Int)(n:Int)(r:Bool)(hF:F.f47 list n=some r):PureCall Tryz.prog B 173 [.arr (List.map cI list),.lit (.int .i64 n)] (.lit (.bool r)):=by
 unfold F.f47 at hF
 refine PureCall.enterLe Tryz.func173 (by kernel_rfl) rfl Tryz.ntmps173 (by simp) (by simp) ?_
 repeat(first|refine chk.ga ?_|simp -dsimp)
 have hF:=ob hF;obtain⟨o',ho8,hF⟩:=hF
 refine ALoop.goU _ ?_ (((CC.f46 B hB1 hB2 list n) 0 o' ho8) _ rfl _ ?_)
 ·exact(Gh.to3 (by simp) (by simp -dsimp))
 rcases o' with r0|sx
 ·dsimp only at hF
  cases hF
  intro st h
  simpa using h
 ·dsimp only at hF
  cases hF
  repeat(first|refine chk.ga ?_|simp -dsimp)
  all_goals(try first|omega|rfl)
theorem C.f48 (w:List Vl.Data)(t:Vl.Ty)(p:Vl.Pattern)(r:Bool)(hF:F.f48 w t p=some r):PureCall Tryz.prog B 195 [.arr (List.map Vl.Data.c w),.agg [.lit (.int .i64 t.data),.lit (.int .i64 t.index)],.agg [.lit (.int .i64 p.op),.lit (.int .i64 p.ctor),.lit (.int .i64 p.n),.lit (.int .i64 p.m),.lit (.int .i64 p.var),.arr (List.map Vl.Pattern.c p.kids)]] (.lit (.bool r)):=by
 unfold F.f48 at hF
 refine PureCall.enterLe Tryz.func195 (by kernel_rfl) rfl Tryz.ntmps195 (by simp) (by simp) ?_
 repeat(first|refine chk.ga ?_|simp -dsimp)
 refine abr.split (fun h1=> ?_) (fun h1=> ?_)
 ·have q2:¬(p.op=2):=auq h1
  rw[if_neg q2]at hF
  repeat(first|refine chk.ga ?_|simp -dsimp[h1,q2])
  refine abr.split (fun h3=> ?_) (fun h3=> ?_)
  ·have q4:(p.op=6):=auq h3
   rw[if_pos q4]at hF
   repeat(first|refine chk.ga ?_|simp -dsimp[h1,q2,h3])
   refine abr.split (fun h5=> ?_) (fun h5=> ?_)
   ·have q6:¬(p.var<0):=auq h5
    rw[if_neg q6]at hF
    repeat(first|refine chk.ga ?_|simp -dsimp[h1,q2,h3,h5,q6])
    refine abr.split (fun h7=> ?_) (fun h7=> ?_)
    ·have q8:¬(5<p.var):=auq h7
     rw[if_neg q8]at hF
     repeat(first|refine chk.ga ?_|simp -dsimp[h1,q2,h3,h5,q6,h7,q8])
     refine abr.split (fun h9=> ?_) (fun h9=> ?_)
     ·have q10:(p.n=0):=auq h9
      rw[if_pos q10]at hF
      repeat(first|refine chk.ga ?_|simp -dsimp[h1,q2,h3,h5,q6,h7,q8,h9])
      refine abr.split (fun h11=> ?_) (fun h11=> ?_)
      ·have q12:(p.m=0):=auq h11
       rw[if_pos q12]at hF
       repeat(first|refine chk.ga ?_|simp -dsimp[h1,q2,h3,h5,q6,h7,q8,h9,h11])
       refine abr.split (fun h13=> ?_) (fun h13=> ?_)
       ·have q14:¬(p.ctor=0):=auq h13
        rw[if_neg q14]at hF
        cases hF
        repeat(first|refine chk.ga ?_|simp -dsimp[h1,q2,h3,h5,q6,h7,q8,h9,h11,h13,q14])
        all_goals(try first|omega|rfl)
       ·have q14:(p.ctor=0):=auq h13
        rw[if_pos q14]at hF
        cases hF
        repeat(first|refine chk.ga ?_|simp -dsimp[h1,q2,h3,h5,q6,h7,q8,h9,h11,h13,q14])
        all_goals(try first|omega|rfl)
      ·have q12:¬(p.m=0):=auq h11
       rw[if_neg q12]at hF
       cases hF
       repeat(first|refine chk.ga ?_|simp -dsimp[h1,q2,h3,h5,q6,h7,q8,h9,h11,q12])
       all_goals(try first|omega|rfl)
     ·have q10:¬(p.n=0):=auq h9
      rw[if_neg q10]at hF
      cases hF
      repeat(first|refine chk.ga ?_|simp -dsimp[h1,q2,h3,h5,q6,h7,q8,h9,q10])
      all_goals(try first|omega|rfl)
    ·have q8:(5<p.var):=auq h7
     rw[if_pos q8]at hF
     cases hF
     repeat(first|refine chk.ga ?_|simp -dsimp[h1,q2,h3,h5,q6,h7,q8])
     all_goals(try first|omega|rfl)
   ·have q6:(p.var<0):=auq h5
    rw[if_pos q6]at hF
    cases hF
    repeat(first|refine chk.ga ?_|simp -dsimp[h1,q2,h3,h5,q6])
    all_goals(try first|omega|rfl)
  ·have q4:¬(p.op=6):=auq h3
   rw[if_neg q4]at hF
   repeat(first|refine chk.ga ?_|simp -dsimp[h1,q2,h3,q4])
   refine abr.split (fun h15=> ?_) (fun h15=> ?_)
   ·have q16:¬(p.var=0):=auq h15
    rw[if_neg q16]at hF
    cases hF
    repeat(first|refine chk.ga ?_|simp -dsimp[h1,q2,h3,q4,h15,q16])
    all_goals(try first|omega|rfl)
   ·have q16:(p.var=0):=auq h15
    rw[if_pos q16]at hF
    repeat(first|refine chk.ga ?_|simp -dsimp[h1,q2,h3,q4,h15,q16])
    refine abr.split (fun h17=> ?_) (fun h17=> ?_)
    ·have q18:¬(p.op=3):=auq h17
     rw[if_neg q18]at hF
     repeat(first|refine chk.ga ?_|simp -dsimp[h1,q2,h3,q4,h15,q16,h17,q18])
     refine abr.split (fun h19=> ?_) (fun h19=> ?_)
     ·have q20:(p.n=0):=auq h19
      rw[if_pos q20]at hF
      repeat(first|refine chk.ga ?_|simp -dsimp[h1,q2,h3,q4,h15,q16,h17,q18,h19])
      refine abr.split (fun h21=> ?_) (fun h21=> ?_)
      ·have q22:(p.m=0):=auq h21
       rw[if_pos q22]at hF
       repeat(first|refine chk.ga ?_|simp -dsimp[h1,q2,h3,q4,h15,q16,h17,q18,h19,h21])
       refine abr.split (fun h23=> ?_) (fun h23=> ?_)
       ·have q24:¬(p.op=4):=auq h23
        rw[if_neg q24]at hF
        repeat(first|refine chk.ga ?_|simp -dsimp[h1,q2,h3,q4,h15,q16,h17,q18,h19,h21,h23,q24])
        refine abr.split (fun h25=> ?_) (fun h25=> ?_)
        ·have q26:¬(p.ctor=0):=auq h25
         rw[if_neg q26]at hF
         cases hF
         repeat(first|refine chk.ga ?_|simp -dsimp[h1,q2,h3,q4,h15,q16,h17,q18,h19,h21,h23,q24,h25,q26])
         all_goals(try first|omega|rfl)
        ·have q26:(p.ctor=0):=auq h25
         rw[if_pos q26]at hF
         repeat(first|refine chk.ga ?_|simp -dsimp[h1,q2,h3,q4,h15,q16,h17,q18,h19,h21,h23,q24,h25,q26])
         refine abr.split (fun h27=> ?_) (fun h27=> ?_)
         ·have q28:(p.op=1):=auq h27
          rw[if_pos q28]at hF
          cases hF
          repeat(first|refine chk.ga ?_|simp -dsimp[h1,q2,h3,q4,h15,q16,h17,q18,h19,h21,h23,q24,h25,q26,h27])
          all_goals(try first|omega|rfl)
         ·have q28:¬(p.op=1):=auq h27
          rw[if_neg q28]at hF
          repeat(first|refine chk.ga ?_|simp -dsimp[h1,q2,h3,q4,h15,q16,h17,q18,h19,h21,h23,q24,h25,q26,h27,q28])
          refine abr.split (fun h29=> ?_) (fun h29=> ?_)
          ·have q30:(p.op=5):=auq h29
           rw[if_pos q30]at hF
           cases hF
           repeat(first|refine chk.ga ?_|simp -dsimp[h1,q2,h3,q4,h15,q16,h17,q18,h19,h21,h23,q24,h25,q26,h27,q28,h29])
           all_goals(try first|omega|rfl)
          ·have q30:¬(p.op=5):=auq h29
           rw[if_neg q30]at hF
           cases hF
           repeat(first|refine chk.ga ?_|simp -dsimp[h1,q2,h3,q4,h15,q16,h17,q18,h19,h21,h23,q24,h25,q26,h27,q28,h29,q30])
           all_goals(try first|omega|rfl)
       ·have q24:(p.op=4):=auq h23
        rw[if_pos q24]at hF
        repeat(first|refine chk.ga ?_|simp -dsimp[h1,q2,h3,q4,h15,q16,h17,q18,h19,h21,h23,q24])
        refine ADraw.simple follows (by kernel_rfl) (by kernel_rfl) ?_
        repeat(first|refine chk.ga ?_|simp -dsimp[h1,q2,h3,q4,h15,q16,h17,q18,h19,h21,h23,q24])
        have hF:=ob hF;obtain⟨v,e31,hF⟩:=hF
        refine((C.f45 B hB1 hB2 w t v e31)).pgoW (by first|simp[h1,q2,h3,q4,h15,q16,h17,q18,h19,h21,h23,q24];done|simp_all) (by simp) ?_
        repeat(first|refine chk.ga ?_|simp -dsimp[h1,q2,h3,q4,h15,q16,h17,q18,h19,h21,h23,q24])
        have hF:=ob hF;obtain⟨v32,e33,hF⟩:=hF
        refine((C.f47 B hB1 hB2 v p.ctor v32 e33)).pgoW (by first|simp[h1,q2,h3,q4,h15,q16,h17,q18,h19,h21,h23,q24];done|simp_all) (by simp) ?_
        cases hF
        repeat(first|refine chk.ga ?_|simp -dsimp[h1,q2,h3,q4,h15,q16,h17,q18,h19,h21,h23,q24])
        all_goals(try first|omega|rfl)
      ·have q22:¬(p.m=0):=auq h21
       rw[if_neg q22]at hF
       cases hF
       repeat(first|refine chk.ga ?_|simp -dsimp[h1,q2,h3,q4,h15,q16,h17,q18,h19,h21,q22])
       all_goals(try first|omega|rfl)
     ·have q20:¬(p.n=0):=auq h19
      rw[if_neg q20]at hF
      cases hF
      repeat(first|refine chk.ga ?_|simp -dsimp[h1,q2,h3,q4,h15,q16,h17,q18,h19,q20])
      all_goals(try first|omega|rfl)
    ·have q18:(p.op=3):=auq h17
     rw[if_pos q18]at hF
     repeat(first|refine chk.ga ?_|simp -dsimp[h1,q2,h3,q4,h15,q16,h17,q18])
     refine abr.split (fun h34=> ?_) (fun h34=> ?_)
     ·have q35:¬(p.ctor=0):=auq h34
      rw[if_neg q35]at hF
      cases hF
      repeat(first|refine chk.ga ?_|simp -dsimp[h1,q2,h3,q4,h15,q16,h17,q18,h34,q35])
      all_goals(try first|omega|rfl)
     ·have q35:(p.ctor=0):=auq h34
      rw[if_pos q35]at hF
      repeat(first|refine chk.ga ?_|simp -dsimp[h1,q2,h3,q4,h15,q16,h17,q18,h34,q35])
      refine abr.split (fun h36=> ?_) (fun h36=> ?_)
      ·have q37:(t.data=(-1)):=auq h36
       rw[if_pos q37]at hF
       repeat(first|refine chk.ga ?_|simp -dsimp[h1,q2,h3,q4,h15,q16,h17,q18,h34,q35,h36])
       refine abr.split (fun h38=> ?_) (fun h38=> ?_)
       ·have q39:(0≤p.n):=auq h38
        rw[if_pos q39]at hF
        repeat(first|refine chk.ga ?_|simp -dsimp[h1,q2,h3,q4,h15,q16,h17,q18,h34,q35,h36,h38])
        refine abr.split (fun h40=> ?_) (fun h40=> ?_)
        ·have q41:(p.n≤p.m):=auq h40
         rw[if_pos q41]at hF
         cases hF
         repeat(first|refine chk.ga ?_|simp -dsimp[h1,q2,h3,q4,h15,q16,h17,q18,h34,q35,h36,h38,h40])
         all_goals(try first|omega|rfl)
        ·have q41:¬(p.n≤p.m):=auq h40
         rw[if_neg q41]at hF
         cases hF
         repeat(first|refine chk.ga ?_|simp -dsimp[h1,q2,h3,q4,h15,q16,h17,q18,h34,q35,h36,h38,h40,q41])
         all_goals(try first|omega|rfl)
       ·have q39:¬(0≤p.n):=auq h38
        rw[if_neg q39]at hF
        cases hF
        repeat(first|refine chk.ga ?_|simp -dsimp[h1,q2,h3,q4,h15,q16,h17,q18,h34,q35,h36,h38,q39])
        all_goals(try first|omega|rfl)
      ·have q37:¬(t.data=(-1)):=auq h36
       rw[if_neg q37]at hF
       cases hF
       repeat(first|refine chk.ga ?_|simp -dsimp[h1,q2,h3,q4,h15,q16,h17,q18,h34,q35,h36,q37])
       all_goals(try first|omega|rfl)
 ·have q2:(p.op=2):=auq h1
  rw[if_pos q2]at hF
  repeat(first|refine chk.ga ?_|simp -dsimp[h1,q2])
  refine abr.split (fun h42=> ?_) (fun h42=> ?_)
  ·have q43:¬(p.var<0):=auq h42
   rw[if_neg q43]at hF
   repeat(first|refine chk.ga ?_|simp -dsimp[h1,q2,h42,q43])
   refine abr.split (fun h44=> ?_) (fun h44=> ?_)
   ·have q45:¬(5<p.var):=auq h44
    rw[if_neg q45]at hF
    repeat(first|refine chk.ga ?_|simp -dsimp[h1,q2,h42,q43,h44,q45])
    refine abr.split (fun h46=> ?_) (fun h46=> ?_)
    ·have q47:(p.n=0):=auq h46
     rw[if_pos q47]at hF
     repeat(first|refine chk.ga ?_|simp -dsimp[h1,q2,h42,q43,h44,q45,h46])
     refine abr.split (fun h48=> ?_) (fun h48=> ?_)
     ·have q49:(p.m=0):=auq h48
      rw[if_pos q49]at hF
      repeat(first|refine chk.ga ?_|simp -dsimp[h1,q2,h42,q43,h44,q45,h46,h48])
      refine abr.split (fun h50=> ?_) (fun h50=> ?_)
      ·have q51:¬(p.ctor=0):=auq h50
       rw[if_neg q51]at hF
       cases hF
       repeat(first|refine chk.ga ?_|simp -dsimp[h1,q2,h42,q43,h44,q45,h46,h48,h50,q51])
       all_goals(try first|omega|rfl)
      ·have q51:(p.ctor=0):=auq h50
       rw[if_pos q51]at hF
       cases hF
       repeat(first|refine chk.ga ?_|simp -dsimp[h1,q2,h42,q43,h44,q45,h46,h48,h50,q51])
       all_goals(try first|omega|rfl)
     ·have q49:¬(p.m=0):=auq h48
      rw[if_neg q49]at hF
      cases hF
      repeat(first|refine chk.ga ?_|simp -dsimp[h1,q2,h42,q43,h44,q45,h46,h48,q49])
      all_goals(try first|omega|rfl)
    ·have q47:¬(p.n=0):=auq h46
     rw[if_neg q47]at hF
     cases hF
     repeat(first|refine chk.ga ?_|simp -dsimp[h1,q2,h42,q43,h44,q45,h46,q47])
     all_goals(try first|omega|rfl)
   ·have q45:(5<p.var):=auq h44
    rw[if_pos q45]at hF
    cases hF
    repeat(first|refine chk.ga ?_|simp -dsimp[h1,q2,h42,q43,h44,q45])
    all_goals(try first|omega|rfl)
  ·have q43:(p.var<0):=auq h42
   rw[if_pos q43]at hF
   cases hF
   repeat(first|refine chk.ga ?_|simp -dsimp[h1,q2,h42,q43])
   all_goals(try first|omega|rfl)
theorem C.f49 (c':Vl.Ctor)(index':Int)(r:Int)(hF:F.f49 c' index'=some r):PureCall Tryz.prog B 154 [.agg [.lit (.string c'.name),.arr (List.map Vl.Ty.c c'.args),.lit (.int .i64 c'.index)],.lit (.int .i64 index')] (.lit (.int .i64 r)):=by
 unfold F.f49 at hF
 refine PureCall.enterLe Tryz.func154 (by kernel_rfl) rfl Tryz.ntmps154 (by simp) (by simp) ?_
 repeat(first|refine chk.ga ?_|simp -dsimp)
 refine abr.split (fun h1=> ?_) (fun h1=> ?_)
 ·have q2:(c'.index=0):=auq h1
  rw[if_pos q2]at hF
  cases hF
  repeat(first|refine chk.ga ?_|simp -dsimp[h1])
  all_goals(try first|omega|rfl)
 ·have q2:¬(c'.index=0):=auq h1
  rw[if_neg q2]at hF
  cases hF
  repeat(first|refine chk.ga ?_|simp -dsimp[h1,q2])
  all_goals(try first|omega|rfl)
theorem CC.f50 (t:Vl.Ty)(x2:Vl.Ctor):(∀(out:List Vl.Ty) (i:Nat) (o:List Vl.Ty),F.f50 t x2 out i=some o→∀(c:Code),navO [1,1,1,0,1,0,0] (bodyOf Tryz.f98)=some c→∀(Q:Exit→ASt→Prop),(Q (.exit 0) ⟨[(7,.own 1 (List.length (α:=Vl.Ty) o))],[.dead,.elems 2 (List.map Vl.Ty.c o)]⟩)→ALoopU Tryz.prog B 0 46 (hold c .mk) ⟨[(4,.ptr 0 0),(7,.own 1 (List.length (α:=Vl.Ty) out)),(8,.ptr 2 0),(9,.lit (.int .i64 (i:Int)))],[.cells [.lit (.int .i64 t.data),.lit (.int .i64 t.index)],.elems 2 (List.map Vl.Ty.c out),.cells [.lit (.string x2.name),.arr (List.map Vl.Ty.c x2.args),.lit (.int .i64 x2.index)]]⟩ (hold Q .mk)):=by
 refine F.f50.partial_correctness t x2
  _
  ?_
 ·intro _f_f50 ih_f50 out i o hF
  intro c hc Q hq
  obtain rfl:c=_:=navEq hc rfl
  refine ALoopU.know fun hk hs=> ?_
  have d1:=hs 1 _ rfl
  simp -dsimp[Blk.bnd]at d1
  have d2:=hs 2 _ rfl
  simp -dsimp[Blk.bnd]at d2
  clear hk hs
  refine ALoopU.enter ?_
  repeat(first|refine chk.ga ?_|simp -dsimp)
  refine abr.split (fun h4=> ?_) (fun h4=> ?_)
  ·have q5:(i<x2.args.length):=auq h4
   have z6:((i:Int)<(x2.args.length:Int)):=auz
   rw[if_pos q5]at hF
   have hF:=ob hF;obtain⟨x7,e8,hF⟩:=hF
   have le8:=lt_of_get e8
   repeat(first|refine chk.ga ?_|simp -dsimp[h4,z6,↓e8])
   refine abr.split (fun h9=> ?_) (fun h9=> ?_)
   ·have q10:(x7.index=(-1)):=auq h9
    rw[if_pos q10]at hF
    repeat(first|refine chk.ga ?_|simp -dsimp[h4,z6,↓e8,h9])
    have hF:=ob hF;obtain⟨v,e11,hF⟩:=hF
    refine((C.f49 B hB1 hB2 x2 t.index v e11)).goW (by first|simp[h4,z6,↓e8,h9];done|simp_all) (by simp) ?_
    have hF:=oc hF;obtain⟨c12,hF⟩:=hF
    have w13:IntKind.i64.wrap ((i:Int)+1)=(i:Int)+1:=wrap_in (by omega) (by omega)
    repeat(first|refine chk.ga ?_|simp -dsimp[h4,z6,↓e8,h9,w13])
    refine Again.go _ ?_ ((ih_f50 (out++[(⟨x7.data,v⟩:Vl.Ty)]) (i+1) o hF) _ rfl _ hq)
    exact(Gh.to3 (by simp) (by first|simp -dsimp[h4,z6,↓e8,h9,w13];done|simp_all))
   ·have q10:¬(x7.index=(-1)):=auq h9
    rw[if_neg q10]at hF
    have hF:=oc hF;obtain⟨c14,hF⟩:=hF
    have w15:IntKind.i64.wrap ((i:Int)+1)=(i:Int)+1:=wrap_in (by omega) (by omega)
    repeat(first|refine chk.ga ?_|simp -dsimp[h4,z6,↓e8,h9,q10,w15])
    refine Again.go _ ?_ ((ih_f50 (out++[x7]) (i+1) o hF) _ rfl _ hq)
    exact(Gh.to3 (by simp) (by first|simp -dsimp[h4,z6,↓e8,h9,q10,w15];done|simp_all))
  ·have q5:¬(i<x2.args.length):=auq h4
   have z6:¬((i:Int)<(x2.args.length:Int)):=auz
   rw[if_neg q5]at hF
   cases hF
   repeat(first|refine chk.ga ?_|simp -dsimp[h4,q5,z6])
   refine Leave.go ⟨[(7,.own 1 (List.length (α:=Vl.Ty) out))],[.dead,.elems 2 (List.map Vl.Ty.c out)]⟩ (Gh.to3 (by simp) (by first|simp -dsimp[h4,q5,z6];done|simp_all)) ?_
   exact hq
theorem C.f51 (w:List Vl.Data)(t:Vl.Ty)(ctor:Int)(r:List Vl.Ty)(hF:F.f51 w t ctor=some r):PureCall Tryz.prog B 98 [.arr (List.map Vl.Data.c w),.agg [.lit (.int .i64 t.data),.lit (.int .i64 t.index)],.lit (.int .i64 ctor)] (.arr (List.map Vl.Ty.c r)):=by
 unfold F.f51 at hF
 refine PureCall.enterLe Tryz.func98 (by kernel_rfl) rfl Tryz.ntmps98 (by simp) (by simp) ?_
 have hF:=ob hF;obtain⟨x,e1a,hF⟩:=hF
 have e1a:=at_some e1a;obtain⟨ne1,e1⟩:=e1a
 have le1:=lt_of_get e1
 have hF:=ob hF;obtain⟨x2,e3a,hF⟩:=hF
 have e3a:=at_some e3a;obtain⟨ne3,e3⟩:=e3a
 have le3:=lt_of_get e3
 repeat(first|refine chk.ga ?_|simp -dsimp[↓e1,↓e3])
 have hF:=ob hF;obtain⟨o',ho16,hF⟩:=hF
 refine ALoop.goU _ ?_ (((CC.f50 B hB1 hB2 t x2) [] 0 o' ho16) _ rfl _ ?_)
 ·exact(Gh.to3 (by simp) (by first|simp -dsimp[↓e1,↓e3];done|simp_all))
 cases hF
 repeat(first|refine chk.ga ?_|simp -dsimp)
 all_goals(try first|omega|rfl)
theorem C.f52 (op:Int)(r:Int)(hF:F.f52 op=some r):PureCall Tryz.prog B 172 [.lit (.int .i64 op)] (.lit (.int .i64 r)):=by
 unfold F.f52 at hF
 refine PureCall.enterLe Tryz.func172 (by kernel_rfl) rfl Tryz.ntmps172 (by simp) (by simp) ?_
 repeat(first|refine chk.ga ?_|simp -dsimp)
 refine abr.split (fun h1=> ?_) (fun h1=> ?_)
 ·have q2:(op=5):=auq h1
  rw[if_pos q2]at hF
  cases hF
  repeat(first|refine chk.ga ?_|simp -dsimp[eq_true h1])
  all_goals(try first|omega|rfl)
 ·have q2:¬(op=5):=auq h1
  rw[if_neg q2]at hF
  repeat(first|refine chk.ga ?_|simp -dsimp[h1,q2])
  refine abr.split (fun h3=> ?_) (fun h3=> ?_)
  ·have q4:(op=6):=auq h3
   rw[if_pos q4]at hF
   cases hF
   repeat(first|refine chk.ga ?_|simp -dsimp[h1,q2,eq_true h3])
   all_goals(try first|omega|rfl)
  ·have q4:¬(op=6):=auq h3
   rw[if_neg q4]at hF
   repeat(first|refine chk.ga ?_|simp -dsimp[h1,q2,h3,q4])
   refine abr.split (fun h5=> ?_) (fun h5=> ?_)
   ·have q6:(op=4):=auq h5
    rw[if_pos q6]at hF
    cases hF
    repeat(first|refine chk.ga ?_|simp -dsimp[h1,q2,h3,q4,eq_true h5])
    all_goals(try first|omega|rfl)
   ·have q6:¬(op=4):=auq h5
    rw[if_neg q6]at hF
    cases hF
    repeat(first|refine chk.ga ?_|simp -dsimp[h1,q2,h3,q4,h5,q6])
    all_goals(try first|omega|rfl)
theorem CC.f53 (t:Vl.Ty)(p:Vl.Pattern):(∀(out:List Vl.Ty) (i:Nat) (o:List Vl.Ty),F.f53 t p out i=some o→∀(c:Code),navO [1,1,1,0,1,0,0] (bodyOf Tryz.f122)=some c→∀(Q:Exit→ASt→Prop),(Q (.exit 0) ⟨[(7,.own 2 (List.length (α:=Vl.Ty) o))],[.dead,.dead,.elems 2 (List.map Vl.Ty.c o)]⟩)→ALoopU Tryz.prog B 0 30 (hold c .mk) ⟨[(4,.ptr 0 0),(5,.ptr 1 0),(7,.own 2 (List.length (α:=Vl.Ty) out)),(8,.lit (.int .i64 (i:Int)))],[.cells [.lit (.int .i64 t.data),.lit (.int .i64 t.index)],.cells [.lit (.int .i64 p.op),.lit (.int .i64 p.ctor),.lit (.int .i64 p.n),.lit (.int .i64 p.m),.lit (.int .i64 p.var),.arr (List.map Vl.Pattern.c p.kids)],.elems 2 (List.map Vl.Ty.c out)]⟩ (hold Q .mk)):=by
 refine F.f53.partial_correctness t p
  _
  ?_
 ·intro _f_f53 ih_f53 out i o hF
  intro c hc Q hq
  obtain rfl:c=_:=navEq hc rfl
  refine ALoopU.know fun hk hs=> ?_
  have d1:=hs 1 _ rfl
  simp -dsimp[Blk.bnd]at d1
  have d2:=hs 2 _ rfl
  simp -dsimp[Blk.bnd]at d2
  clear hk hs
  refine ALoopU.enter ?_
  repeat(first|refine chk.ga ?_|simp -dsimp)
  have hF:=ob hF;obtain⟨v4,e5,hF⟩:=hF
  refine((C.f52 B hB1 hB2 p.op v4 e5)).goW (by simp) (by simp) ?_
  repeat(first|refine chk.ga ?_|simp -dsimp)
  refine abr.split (fun h6=> ?_) (fun h6=> ?_)
  ·have q7:((i:Int)<v4):=auq h6
   rw[if_pos q7]at hF
   have hF:=oc hF;obtain⟨c8,hF⟩:=hF
   have hF:=oc hF;obtain⟨c9,hF⟩:=hF
   have w10:IntKind.i64.wrap ((i:Int)+1)=(i:Int)+1:=wrap_in (by omega) (by omega)
   repeat(first|refine chk.ga ?_|simp -dsimp[h6,w10])
   refine Again.go _ ?_ ((ih_f53 (out++[t]) (i+1) o hF) _ rfl _ hq)
   exact(Gh.to3 (by simp) (by first|simp -dsimp[h6,w10];done|simp_all))
  ·have q7:¬((i:Int)<v4):=auq h6
   rw[if_neg q7]at hF
   cases hF
   repeat(first|refine chk.ga ?_|simp -dsimp[h6,q7])
   refine Leave.go ⟨[(7,.own 2 (List.length (α:=Vl.Ty) out))],[.dead,.dead,.elems 2 (List.map Vl.Ty.c out)]⟩ (Gh.to3 (by simp) (by first|simp -dsimp[h6,q7];done|simp_all)) ?_
   exact hq
theorem C.f54 (w:List Vl.Data)(t:Vl.Ty)(p:Vl.Pattern)(r:List Vl.Ty)(hF:F.f54 w t p=some r):PureCall Tryz.prog B 122 [.arr (List.map Vl.Data.c w),.agg [.lit (.int .i64 t.data),.lit (.int .i64 t.index)],.agg [.lit (.int .i64 p.op),.lit (.int .i64 p.ctor),.lit (.int .i64 p.n),.lit (.int .i64 p.m),.lit (.int .i64 p.var),.arr (List.map Vl.Pattern.c p.kids)]] (.arr (List.map Vl.Ty.c r)):=by
 unfold F.f54 at hF
 refine PureCall.enterLe Tryz.func122 (by kernel_rfl) rfl Tryz.ntmps122 (by simp) (by simp) ?_
 repeat(first|refine chk.ga ?_|simp -dsimp)
 refine abr.split (fun h1=> ?_) (fun h1=> ?_)
 ·have q2:(p.op=4):=auq h1
  rw[if_pos q2]at hF
  repeat(first|refine chk.ga ?_|simp -dsimp[h1])
  have hF:=ob hF;obtain⟨v,e3,hF⟩:=hF
  refine((C.f51 B hB1 hB2 w t p.ctor v e3)).goW (by first|simp[h1];done|simp_all) (by simp) ?_
  cases hF
  repeat(first|refine chk.ga ?_|simp -dsimp[h1])
  all_goals(try first|omega|rfl)
 ·have q2:¬(p.op=4):=auq h1
  rw[if_neg q2]at hF
  repeat(first|refine chk.ga ?_|simp -dsimp[h1,q2])
  have hF:=ob hF;obtain⟨o',ho11,hF⟩:=hF
  refine ALoop.goU _ ?_ (((CC.f53 B hB1 hB2 t p) [] 0 o' ho11) _ rfl _ ?_)
  ·exact(Gh.to3 (by simp) (by first|simp -dsimp[h1,q2];done|simp_all))
  cases hF
  repeat(first|refine chk.ga ?_|simp -dsimp)
  all_goals(try first|omega|rfl)
theorem CC.f55 (w:List Vl.Data):(∀(t:Vl.Ty) (p:Vl.Pattern) (depth:Int) (r:Bool),F.f55 w t p depth=some r→PureCall Tryz.prog B 150 [.arr (List.map Vl.Data.c w),.agg [.lit (.int .i64 t.data),.lit (.int .i64 t.index)],.agg [.lit (.int .i64 p.op),.lit (.int .i64 p.ctor),.lit (.int .i64 p.n),.lit (.int .i64 p.m),.lit (.int .i64 p.var),.arr (List.map Vl.Pattern.c p.kids)],.lit (.int .i64 depth)] (.lit (.bool r)))∧
  (∀(p:Vl.Pattern) (depth:Int) (v6:List Vl.Ty) (i:Nat) (o:Lo Bool Unit),F.f56 w p depth v6 i=some o→∀(c:Code),navO [1,1,1,1,0,1,0,0] (bodyOf Tryz.f150)=some c→∀(Q:Exit→ASt→Prop),o.post (fun r=>∀st,Post Tryz.prog Tryz.f150 (fun r' _=>r'.le (.lit (.bool r))) .ret st→Q .ret st) (fun s=>Q (.exit 0) ⟨[],[]⟩)→ALoopU Tryz.prog B 0 50 (hold c .mk) ⟨[(0,.arr (List.map Vl.Data.c w)),(3,.lit (.int .i64 depth)),(6,.ptr 1 0),(9,.arr (List.map Vl.Ty.c v6)),(10,.lit (.int .i64 (i:Int)))],[.dead,.cells [.lit (.int .i64 p.op),.lit (.int .i64 p.ctor),.lit (.int .i64 p.n),.lit (.int .i64 p.m),.lit (.int .i64 p.var),.arr (List.map Vl.Pattern.c p.kids)]]⟩ (hold Q .mk)):=by
 refine F.f55.mutual_partial_correctness w
  _ _
  ?_ ?_
 ·intro _f_f56 ih_f56 t p depth r hF
  refine PureCall.enterLe Tryz.func150 (by kernel_rfl) rfl Tryz.ntmps150 (by simp) (by simp) ?_
  repeat(first|refine chk.ga ?_|simp -dsimp)
  refine abr.split (fun h1=> ?_) (fun h1=> ?_)
  ·have q2:¬(depth<1):=auq h1
   rw[if_neg q2]at hF
   repeat(first|refine chk.ga ?_|simp -dsimp[h1,q2])
   have hF:=ob hF;obtain⟨v,e3,hF⟩:=hF
   refine((C.f48 B hB1 hB2 w t p v e3)).goW (by first|simp[h1,q2];done|simp_all) (by simp) ?_
   repeat(first|refine chk.ga ?_|simp -dsimp[h1,q2])
   refine abr.split (fun h4=> ?_) (fun h4=> ?_)
   ·have q5:¬(v=true):=auq h4
    rw[if_neg q5]at hF
    cases hF
    repeat(first|refine chk.ga ?_|simp -dsimp[h1,q2,h4,q5])
    all_goals(try first|omega|rfl)
   ·have q5:(v=true):=auq h4
    rw[if_pos q5]at hF
    repeat(first|refine chk.ga ?_|simp -dsimp[h1,q2,h4,q5])
    have hF:=ob hF;obtain⟨v6,e7,hF⟩:=hF
    refine((C.f54 B hB1 hB2 w t p v6 e7)).goW (by first|simp[h1,q2,h4,q5];done|simp_all) (by simp) ?_
    repeat(first|refine chk.ga ?_|simp -dsimp[h1,q2,h4,q5])
    refine abr.split (fun h8=> ?_) (fun h8=> ?_)
    ·have q9:¬(p.kids.length=v6.length):=auq h8
     have z10:¬((p.kids.length:Int)=(v6.length:Int)):=auz
     rw[if_neg q9]at hF
     cases hF
     repeat(first|refine chk.ga ?_|simp -dsimp[h1,q2,h4,q5,h8,q9,z10])
     all_goals(try first|omega|rfl)
    ·have q9:(p.kids.length=v6.length):=auq h8
     have z10:((p.kids.length:Int)=(v6.length:Int)):=auz
     rw[if_pos q9]at hF
     repeat(first|refine chk.ga ?_|simp -dsimp[h1,q2,h4,q5,h8,q9,z10])
     have hF:=ob hF;obtain⟨o',ho22,hF⟩:=hF
     refine ALoop.goU _ ?_ ((ih_f56 p depth v6 0 o' ho22) _ rfl _ ?_)
     ·exact(Gh.to3 (by simp) (by first|simp -dsimp[h1,q2,h4,q5,h8,q9,z10];done|simp_all))
     rcases o' with r0|sx
     ·dsimp only at hF
      cases hF
      intro st h
      simpa using h
     ·dsimp only at hF
      cases hF
      repeat(first|refine chk.ga ?_|simp -dsimp)
      all_goals(try first|omega|rfl)
  ·have q2:(depth<1):=auq h1
   rw[if_pos q2]at hF
   cases hF
   repeat(first|refine chk.ga ?_|simp -dsimp[h1,q2])
   all_goals(try first|omega|rfl)
 ·intro _f_f55 _f_f56 ih_f55 ih_f56 p depth v6 i o hF
  intro c hc Q hq
  obtain rfl:c=_:=navEq hc rfl
  refine ALoopU.know fun hk hs=> ?_
  have b0:=hk 0
  simp -dsimp at b0
  have b9:=hk 9
  simp -dsimp at b9
  have d1:=hs 1 _ rfl
  simp -dsimp[Blk.bnd]at d1
  clear hk hs
  refine ALoopU.enter ?_
  repeat(first|refine chk.ga ?_|simp -dsimp)
  refine abr.split (fun h11=> ?_) (fun h11=> ?_)
  ·have q12:(i<v6.length):=auq h11
   have z13:((i:Int)<(v6.length:Int)):=auz
   rw[if_pos q12]at hF
   repeat(first|refine chk.ga ?_|simp -dsimp[h11,z13])
   refine ADraw.simple follows (by kernel_rfl) (by kernel_rfl) ?_
   have hF:=ob hF;obtain⟨x,e14,hF⟩:=hF
   have le14:=lt_of_get e14
   have hF:=ob hF;obtain⟨x15,e16,hF⟩:=hF
   have le16:=lt_of_get e16
   repeat(first|refine chk.ga ?_|simp -dsimp[h11,z13,↓e14,↓e16])
   have hF:=ob hF;obtain⟨v17,e18,hF⟩:=hF
   refine((ih_f55 x x15 (IntKind.i64.wrap (depth-1)) v17 e18)).pgoW (by first|simp[h11,z13,↓e14,↓e16];done|simp_all) (by simp) ?_
   repeat(first|refine chk.ga ?_|simp -dsimp[h11,z13,↓e14,↓e16])
   refine abr.split (fun h19=> ?_) (fun h19=> ?_)
   ·have q20:¬(v17=true):=auq h19
    rw[if_neg q20]at hF
    cases hF
    repeat(first|refine chk.ga ?_|simp -dsimp[h11,z13,↓e14,↓e16,h19,q20])
    refine Leave.go _ (Gh.refl _) (hq _ ?_)
    repeat(first|refine chk.ga ?_|simp -dsimp[h11,z13,↓e14,↓e16,h19,q20])
   ·have q20:(v17=true):=auq h19
    rw[if_pos q20]at hF
    have w21:IntKind.i64.wrap ((i:Int)+1)=(i:Int)+1:=wrap_in (by omega) (by omega)
    repeat(first|refine chk.ga ?_|simp -dsimp[h11,z13,↓e14,↓e16,h19,q20,w21])
    refine Again.go _ ?_ ((ih_f56 p depth v6 (i+1) o hF) _ rfl _ hq)
    exact(Gh.to3 (by simp) (by first|simp -dsimp[h11,z13,↓e14,↓e16,h19,q20,w21];done|simp_all))
  ·have q12:¬(i<v6.length):=auq h11
   have z13:¬((i:Int)<(v6.length:Int)):=auz
   rw[if_neg q12]at hF
   cases hF
   repeat(first|refine chk.ga ?_|simp -dsimp[h11,q12,z13])
   refine Leave.go ⟨[],[]⟩ (Gh.to3 (by simp) (by first|simp -dsimp[h11,q12,z13];done|simp_all)) ?_
   exact hq
theorem CC.f57  :(∀(p:Vl.Pattern) (most:Int) (r:Int),F.f57 p most=some r→PureCall Tryz.prog B 151 [.agg [.lit (.int .i64 p.op),.lit (.int .i64 p.ctor),.lit (.int .i64 p.n),.lit (.int .i64 p.m),.lit (.int .i64 p.var),.arr (List.map Vl.Pattern.c p.kids)],.lit (.int .i64 most)] (.lit (.int .i64 r)))∧
  (∀(p:Vl.Pattern) (most:Int) (n:Int) (i:Nat) (o:Int),F.f58 p most n i=some o→∀(c:Code),navO [1,1,0,1,0,0] (bodyOf Tryz.f151)=some c→∀(Q:Exit→ASt→Prop),(Q (.exit 0) ⟨[(5,.lit (.int .i64 o))],[]⟩)→ALoopU Tryz.prog B 0 31 (hold c .mk) ⟨[(1,.lit (.int .i64 most)),(2,.ptr 0 0),(5,.lit (.int .i64 n)),(6,.lit (.int .i64 (i:Int)))],[.cells [.lit (.int .i64 p.op),.lit (.int .i64 p.ctor),.lit (.int .i64 p.n),.lit (.int .i64 p.m),.lit (.int .i64 p.var),.arr (List.map Vl.Pattern.c p.kids)]]⟩ (hold Q .mk)):=by
 refine F.f57.mutual_partial_correctness 
  _ _
  ?_ ?_
 ·intro _f_f58 ih_f58 p most r hF
  refine PureCall.enterLe Tryz.func151 (by kernel_rfl) rfl Tryz.ntmps151 (by simp) (by simp) ?_
  repeat(first|refine chk.ga ?_|simp -dsimp)
  have hF:=ob hF;obtain⟨o',ho9,hF⟩:=hF
  refine ALoop.goU _ ?_ ((ih_f58 p most (1:Int) 0 o' ho9) _ rfl _ ?_)
  ·exact(Gh.to3 (by simp) (by simp -dsimp))
  cases hF
  repeat(first|refine chk.ga ?_|simp -dsimp)
  all_goals(try first|omega|rfl)
 ·intro _f_f57 _f_f58 ih_f57 ih_f58 p most n i o hF
  intro c hc Q hq
  obtain rfl:c=_:=navEq hc rfl
  refine ALoopU.know fun hk hs=> ?_
  have d0:=hs 0 _ rfl
  simp -dsimp[Blk.bnd]at d0
  clear hk hs
  refine ALoopU.enter ?_
  repeat(first|refine chk.ga ?_|simp -dsimp)
  refine abr.split (fun h1=> ?_) (fun h1=> ?_)
  ·have q2:(i<p.kids.length):=auq h1
   have z3:((i:Int)<(p.kids.length:Int)):=auz
   rw[if_pos q2]at hF
   repeat(first|refine chk.ga ?_|simp -dsimp[h1,z3])
   refine abr.split (fun h4=> ?_) (fun h4=> ?_)
   ·have q5:(n≤most):=auq h4
    rw[if_pos q5]at hF
    have hF:=ob hF;obtain⟨x,e6,hF⟩:=hF
    have le6:=lt_of_get e6
    repeat(first|refine chk.ga ?_|simp -dsimp[h1,z3,h4,↓e6])
    have hF:=ob hF;obtain⟨v,e7,hF⟩:=hF
    refine((ih_f57 x (IntKind.i64.wrap (most-n)) v e7)).goW (by first|simp[h1,z3,h4,↓e6];done|simp_all) (by simp) ?_
    have w8:IntKind.i64.wrap ((i:Int)+1)=(i:Int)+1:=wrap_in (by omega) (by omega)
    repeat(first|refine chk.ga ?_|simp -dsimp[h1,z3,h4,↓e6,w8])
    refine Again.go _ ?_ ((ih_f58 p most (IntKind.i64.wrap (n+v)) (i+1) o hF) _ rfl _ hq)
    exact(Gh.to3 (by simp) (by first|simp -dsimp[h1,z3,h4,↓e6,w8];done|simp_all))
   ·have q5:¬(n≤most):=auq h4
    rw[if_neg q5]at hF
    cases hF
    repeat(first|refine chk.ga ?_|simp -dsimp[h1,z3,h4,q5])
    refine Leave.go ⟨[(5,.lit (.int .i64 n))],[]⟩ (Gh.to3 (by simp) (by first|simp -dsimp[h1,z3,h4,q5];done|simp_all)) ?_
    exact hq
  ·have q2:¬(i<p.kids.length):=auq h1
   have z3:¬((i:Int)<(p.kids.length:Int)):=auz
   rw[if_neg q2]at hF
   cases hF
   repeat(first|refine chk.ga ?_|simp -dsimp[h1,q2,z3])
   refine Leave.go ⟨[(5,.lit (.int .i64 n))],[]⟩ (Gh.to3 (by simp) (by first|simp -dsimp[h1,q2,z3];done|simp_all)) ?_
   exact hq
theorem CC.f59 (w:List Vl.Data):(∀(out:List Vl.VarType) (t:Vl.Ty) (p:Vl.Pattern) (r:List Vl.VarType),F.f59 out w t p=some r→BCall Tryz.prog B 116 [.elems 3 (List.map Vl.VarType.c out)] [.own 0 (List.length (α:=Vl.VarType) out),.arr (List.map Vl.Data.c w),.agg [.lit (.int .i64 t.data),.lit (.int .i64 t.index)],.agg [.lit (.int .i64 p.op),.lit (.int .i64 p.ctor),.lit (.int .i64 p.n),.lit (.int .i64 p.m),.lit (.int .i64 p.var),.arr (List.map Vl.Pattern.c p.kids)]] (.own 0 (List.length (α:=Vl.VarType) r)) [.elems 3 (List.map Vl.VarType.c r)])∧
  (∀(p:Vl.Pattern) (v30:List Vl.Ty) (out32:List Vl.VarType) (i33:Nat) (o:List Vl.VarType),F.f61 w p v30 out32 i33=some o→∀(c:Code),navO [1,1,1,0,1,0,0] (bodyOf Tryz.f116)=some c→∀(Q:Exit→ASt→Prop),(Q (.exit 0) ⟨[(0,.own 0 (List.length (α:=Vl.VarType) o))],[.elems 3 (List.map Vl.VarType.c o)]⟩)→ALoopU Tryz.prog B 1 58 (hold c .mk) ⟨[(0,.own 0 (List.length (α:=Vl.VarType) out32)),(1,.arr (List.map Vl.Data.c w)),(7,.ptr 2 0),(9,.arr (List.map Vl.Ty.c v30)),(10,.lit (.int .i64 (i33:Int)))],[.elems 3 (List.map Vl.VarType.c out32),.dead,.cells [.lit (.int .i64 p.op),.lit (.int .i64 p.ctor),.lit (.int .i64 p.n),.lit (.int .i64 p.m),.lit (.int .i64 p.var),.arr (List.map Vl.Pattern.c p.kids)]]⟩ (hold Q .mk))∧
  (∀(p:Vl.Pattern) (v:List Vl.Ty) (out7:List Vl.VarType) (i:Nat) (o:List Vl.VarType),F.f60 w p v out7 i=some o→∀(c:Code),navO [1,1,1,0,1,0,0] (bodyOf Tryz.f116)=some c→∀(Q:Exit→ASt→Prop),(Q (.exit 0) ⟨[(0,.own 0 (List.length (α:=Vl.VarType) o))],[.elems 3 (List.map Vl.VarType.c o)]⟩)→ALoopU Tryz.prog B 1 58 (hold c .mk) ⟨[(0,.own 0 (List.length (α:=Vl.VarType) out7)),(1,.arr (List.map Vl.Data.c w)),(7,.ptr 2 0),(9,.arr (List.map Vl.Ty.c v)),(10,.lit (.int .i64 (i:Int)))],[.elems 3 (List.map Vl.VarType.c out7),.dead,.cells [.lit (.int .i64 p.op),.lit (.int .i64 p.ctor),.lit (.int .i64 p.n),.lit (.int .i64 p.m),.lit (.int .i64 p.var),.arr (List.map Vl.Pattern.c p.kids)]]⟩ (hold Q .mk))∧
  (∀(p:Vl.Pattern) (v59:List Vl.Ty) (out61:List Vl.VarType) (i62:Nat) (o:List Vl.VarType),F.f62 w p v59 out61 i62=some o→∀(c:Code),navO [1,1,1,0,1,0,0] (bodyOf Tryz.f116)=some c→∀(Q:Exit→ASt→Prop),(Q (.exit 0) ⟨[(0,.own 0 (List.length (α:=Vl.VarType) o))],[.elems 3 (List.map Vl.VarType.c o)]⟩)→ALoopU Tryz.prog B 1 58 (hold c .mk) ⟨[(0,.own 0 (List.length (α:=Vl.VarType) out61)),(1,.arr (List.map Vl.Data.c w)),(7,.ptr 2 0),(9,.arr (List.map Vl.Ty.c v59)),(10,.lit (.int .i64 (i62:Int)))],[.elems 3 (List.map Vl.VarType.c out61),.dead,.cells [.lit (.int .i64 p.op),.lit (.int .i64 p.ctor),.lit (.int .i64 p.n),.lit (.int .i64 p.m),.lit (.int .i64 p.var),.arr (List.map Vl.Pattern.c p.kids)]]⟩ (hold Q .mk)):=by
 refine F.f59.mutual_partial_correctness w
  _ _ _ _
  ?_ ?_ ?_ ?_
 ·intro _f_f61 _f_f60 _f_f62 ih_f61 ih_f60 ih_f62 out t p r hF
  refine BCall.enter Tryz.func116 (by kernel_rfl) rfl Tryz.ntmps116 (by simp) rfl (by simp) (by simp) (by simp) (by simp) (by simp) (Gh.refl _) ?_
  repeat(first|refine chk.ga ?_|simp -dsimp)
  refine abr.split (fun h1=> ?_) (fun h1=> ?_)
  ·have q2:¬(p.op=2):=auq h1
   rw[if_neg q2]at hF
   repeat(first|refine chk.ga ?_|simp -dsimp[h1,q2])
   refine abr.split (fun h3=> ?_) (fun h3=> ?_)
   ·have q4:(p.op=6):=auq h3
    rw[if_pos q4]at hF
    have hF:=oc hF;obtain⟨c5,hF⟩:=hF
    repeat(first|refine chk.ga ?_|simp -dsimp[h1,q2,h3])
    have hF:=ob hF;obtain⟨v,e6,hF⟩:=hF
    refine((C.f54 B hB1 hB2 w t p v e6)).goW (by first|simp[h1,q2,h3];done|simp_all) (by simp) ?_
    repeat(first|refine chk.ga ?_|simp -dsimp[h1,q2,h3])
    have hF:=ob hF;obtain⟨o',ho29,hF⟩:=hF
    refine ALoop.goU _ ?_ ((ih_f60 p v (out++[(⟨p.var,t⟩:Vl.VarType)]) 0 o' ho29) _ rfl _ ?_)
    ·exact(Gh.to3 (by simp) (by first|simp -dsimp[h1,q2,h3];done|simp_all))
    cases hF
    repeat(first|refine chk.ga ?_|simp -dsimp)
    all_goals(try first|omega|rfl)
   ·have q4:¬(p.op=6):=auq h3
    rw[if_neg q4]at hF
    repeat(first|refine chk.ga ?_|simp -dsimp[h1,q2,h3,q4])
    have hF:=ob hF;obtain⟨v30,e31,hF⟩:=hF
    refine((C.f54 B hB1 hB2 w t p v30 e31)).goW (by first|simp[h1,q2,h3,q4];done|simp_all) (by simp) ?_
    repeat(first|refine chk.ga ?_|simp -dsimp[h1,q2,h3,q4])
    have hF:=ob hF;obtain⟨o'57,ho56,hF⟩:=hF
    refine ALoop.goU _ ?_ ((ih_f61 p v30 out 0 o'57 ho56) _ rfl _ ?_)
    ·exact(Gh.to3 (by simp) (by first|simp -dsimp[h1,q2,h3,q4];done|simp_all))
    cases hF
    repeat(first|refine chk.ga ?_|simp -dsimp)
    all_goals(try first|omega|rfl)
  ·have q2:(p.op=2):=auq h1
   rw[if_pos q2]at hF
   have hF:=oc hF;obtain⟨c58,hF⟩:=hF
   repeat(first|refine chk.ga ?_|simp -dsimp[h1,q2])
   have hF:=ob hF;obtain⟨v59,e60,hF⟩:=hF
   refine((C.f54 B hB1 hB2 w t p v59 e60)).goW (by first|simp[h1,q2];done|simp_all) (by simp) ?_
   repeat(first|refine chk.ga ?_|simp -dsimp[h1,q2])
   have hF:=ob hF;obtain⟨o'86,ho85,hF⟩:=hF
   refine ALoop.goU _ ?_ ((ih_f62 p v59 (out++[(⟨p.var,t⟩:Vl.VarType)]) 0 o'86 ho85) _ rfl _ ?_)
   ·exact(Gh.to3 (by simp) (by first|simp -dsimp[h1,q2];done|simp_all))
   cases hF
   repeat(first|refine chk.ga ?_|simp -dsimp)
   all_goals(try first|omega|rfl)
 ·intro _f_f59 _f_f61 ih_f59 ih_f61 p v30 out32 i33 o hF
  intro c hc Q hq
  obtain rfl:c=_:=navEq hc rfl
  refine ALoopU.know fun hk hs=> ?_
  have b1:=hk 1
  simp -dsimp at b1
  have b9:=hk 9
  simp -dsimp at b9
  have d0:=hs 0 _ rfl
  simp -dsimp[Blk.bnd]at d0
  have d2:=hs 2 _ rfl
  simp -dsimp[Blk.bnd]at d2
  clear hk hs
  refine ALoopU.enter ?_
  repeat(first|refine chk.ga ?_|simp -dsimp)
  refine abr.split (fun h34=> ?_) (fun h34=> ?_)
  ·have q35:(i33<v30.length):=auq h34
   have z36:((i33:Int)<(v30.length:Int)):=auz
   rw[if_pos q35]at hF
   repeat(first|refine chk.ga ?_|simp -dsimp[h34,z36])
   refine abr.split (fun h37=> ?_) (fun h37=> ?_)
   ·have q38:¬(i33=0):=auq h37
    have z39:¬((i33:Int)=(0:Int)):=auz
    rw[if_neg q38]at hF
    repeat(first|refine chk.ga ?_|simp -dsimp[h34,z36,h37,q38,z39])
    refine abr.split (fun h40=> ?_) (fun h40=> ?_)
    ·have q41:¬(p.op=5):=auq h40
     rw[if_neg q41]at hF
     repeat(first|refine chk.ga ?_|simp -dsimp[h34,z36,h37,q38,z39,h40,q41])
     refine ADraw.eff [116] [(0,0),(0,0),(0,0),(0,0),(0,0),(0,0),(0,0),(0,0),(0,0),(0,0),(0,0),(0,1),(1,1)] [1,1,1,1,1,1,1,1,1,1,1,1,1] follows (by kernel_rfl) (by kernel_rfl) (by kernel_rfl) ?_
     have hF:=ob hF;obtain⟨x42,e43,hF⟩:=hF
     have le43:=lt_of_get e43
     have hF:=ob hF;obtain⟨x44,e45,hF⟩:=hF
     have le45:=lt_of_get e45
     repeat(first|refine chk.ga ?_|simp -dsimp[h34,z36,h37,q38,z39,h40,q41,↓e43,↓e45])
     have hF:=ob hF;obtain⟨v46,e47,hF⟩:=hF
     refine((ih_f59 out32 x42 x44 v46 e47)).ego (pl [0]) (by simp) (by simp) (plInj _ rfl (by decide)) (by intro i hi hi';simp at hi hi';first|omega|(subst hi';simp[pl])) (by first|simp[h34,z36,h37,q38,z39,h40,q41,↓e43,↓e45];done|simp_all) (by first|simp[h34,z36,h37,q38,z39,h40,q41,↓e43,↓e45];done|simp_all) ?_
     have w48:IntKind.i64.wrap ((i33:Int)+1)=(i33:Int)+1:=wrap_in (by omega) (by omega)
     repeat(first|refine chk.ga ?_|simp -dsimp[h34,z36,h37,q38,z39,h40,q41,↓e43,↓e45,w48])
     refine Again.go _ ?_ ((ih_f61 p v30 v46 (i33+1) o hF) _ rfl _ hq)
     exact(Gh.to3 (by simp) (by first|simp -dsimp[h34,z36,h37,q38,z39,h40,q41,↓e43,↓e45,w48];done|simp_all))
    ·have q41:(p.op=5):=auq h40
     rw[if_pos q41]at hF
     cases hF
     repeat(first|refine chk.ga ?_|simp -dsimp[h34,z36,h37,q38,z39,h40,q41])
     refine Leave.go ⟨[(0,.own 0 (List.length (α:=Vl.VarType) out32))],[.elems 3 (List.map Vl.VarType.c out32)]⟩ (Gh.to3 (by simp) (by first|simp -dsimp[h34,z36,h37,q38,z39,h40,q41];done|simp_all)) ?_
     exact hq
   ·have q38:(i33=0):=auq h37
    have z39:((i33:Int)=(0:Int)):=auz
    rw[if_pos q38]at hF
    repeat(first|refine chk.ga ?_|simp -dsimp[h34,z36,eq_true h37,eq_true q38,eq_true z39])
    refine ADraw.eff [116] [(0,0),(0,0),(0,0),(0,0),(0,0),(0,0),(0,0),(0,0),(0,0),(0,0),(0,0),(0,1),(1,1)] [1,1,1,1,1,1,1,1,1,1,1,1,1] follows (by kernel_rfl) (by kernel_rfl) (by kernel_rfl) ?_
    have hF:=ob hF;obtain⟨x49,e50,hF⟩:=hF
    have le50:=lt_of_get e50
    have hF:=ob hF;obtain⟨x51,e52,hF⟩:=hF
    have le52:=lt_of_get e52
    repeat(first|refine chk.ga ?_|simp -dsimp[h34,z36,eq_true h37,eq_true q38,eq_true z39,↓e50,↓e52])
    have hF:=ob hF;obtain⟨v53,e54,hF⟩:=hF
    refine((ih_f59 out32 x49 x51 v53 e54)).ego (pl [0]) (by simp) (by simp) (plInj _ rfl (by decide)) (by intro i hi hi';simp at hi hi';first|omega|(subst hi';simp[pl])) (by first|simp[h34,z36,eq_true h37,eq_true q38,eq_true z39,↓e50,↓e52];done|simp_all) (by first|simp[h34,z36,eq_true h37,eq_true q38,eq_true z39,↓e50,↓e52];done|simp_all) ?_
    have w55:IntKind.i64.wrap ((i33:Int)+1)=(i33:Int)+1:=wrap_in (by omega) (by omega)
    repeat(first|refine chk.ga ?_|simp -dsimp[h34,z36,eq_true h37,eq_true q38,eq_true z39,↓e50,↓e52,w55])
    refine Again.go _ ?_ ((ih_f61 p v30 v53 (i33+1) o hF) _ rfl _ hq)
    exact(Gh.to3 (by simp) (by first|simp -dsimp[h34,z36,eq_true h37,eq_true q38,eq_true z39,↓e50,↓e52,w55];done|simp_all))
  ·have q35:¬(i33<v30.length):=auq h34
   have z36:¬((i33:Int)<(v30.length:Int)):=auz
   rw[if_neg q35]at hF
   cases hF
   repeat(first|refine chk.ga ?_|simp -dsimp[h34,q35,z36])
   refine Leave.go ⟨[(0,.own 0 (List.length (α:=Vl.VarType) out32))],[.elems 3 (List.map Vl.VarType.c out32)]⟩ (Gh.to3 (by simp) (by first|simp -dsimp[h34,q35,z36];done|simp_all)) ?_
   exact hq
 ·intro _f_f59 _f_f60 ih_f59 ih_f60 p v out7 i o hF
  intro c hc Q hq
  obtain rfl:c=_:=navEq hc rfl
  refine ALoopU.know fun hk hs=> ?_
  have b1:=hk 1
  simp -dsimp at b1
  have b9:=hk 9
  simp -dsimp at b9
  have d0:=hs 0 _ rfl
  simp -dsimp[Blk.bnd]at d0
  have d2:=hs 2 _ rfl
  simp -dsimp[Blk.bnd]at d2
  clear hk hs
  refine ALoopU.enter ?_
  repeat(first|refine chk.ga ?_|simp -dsimp)
  refine abr.split (fun h8=> ?_) (fun h8=> ?_)
  ·have q9:(i<v.length):=auq h8
   have z10:((i:Int)<(v.length:Int)):=auz
   rw[if_pos q9]at hF
   repeat(first|refine chk.ga ?_|simp -dsimp[h8,z10])
   refine abr.split (fun h11=> ?_) (fun h11=> ?_)
   ·have q12:¬(i=0):=auq h11
    have z13:¬((i:Int)=(0:Int)):=auz
    rw[if_neg q12]at hF
    repeat(first|refine chk.ga ?_|simp -dsimp[h8,z10,h11,q12,z13])
    refine abr.split (fun h14=> ?_) (fun h14=> ?_)
    ·have q15:¬(p.op=5):=auq h14
     rw[if_neg q15]at hF
     repeat(first|refine chk.ga ?_|simp -dsimp[h8,z10,h11,q12,z13,h14,q15])
     refine ADraw.eff [116] [(0,0),(0,0),(0,0),(0,0),(0,0),(0,0),(0,0),(0,0),(0,0),(0,0),(0,0),(0,1),(1,1)] [1,1,1,1,1,1,1,1,1,1,1,1,1] follows (by kernel_rfl) (by kernel_rfl) (by kernel_rfl) ?_
     have hF:=ob hF;obtain⟨x,e16,hF⟩:=hF
     have le16:=lt_of_get e16
     have hF:=ob hF;obtain⟨x17,e18,hF⟩:=hF
     have le18:=lt_of_get e18
     repeat(first|refine chk.ga ?_|simp -dsimp[h8,z10,h11,q12,z13,h14,q15,↓e16,↓e18])
     have hF:=ob hF;obtain⟨v19,e20,hF⟩:=hF
     refine((ih_f59 out7 x x17 v19 e20)).ego (pl [0]) (by simp) (by simp) (plInj _ rfl (by decide)) (by intro i hi hi';simp at hi hi';first|omega|(subst hi';simp[pl])) (by first|simp[h8,z10,h11,q12,z13,h14,q15,↓e16,↓e18];done|simp_all) (by first|simp[h8,z10,h11,q12,z13,h14,q15,↓e16,↓e18];done|simp_all) ?_
     have w21:IntKind.i64.wrap ((i:Int)+1)=(i:Int)+1:=wrap_in (by omega) (by omega)
     repeat(first|refine chk.ga ?_|simp -dsimp[h8,z10,h11,q12,z13,h14,q15,↓e16,↓e18,w21])
     refine Again.go _ ?_ ((ih_f60 p v v19 (i+1) o hF) _ rfl _ hq)
     exact(Gh.to3 (by simp) (by first|simp -dsimp[h8,z10,h11,q12,z13,h14,q15,↓e16,↓e18,w21];done|simp_all))
    ·have q15:(p.op=5):=auq h14
     rw[if_pos q15]at hF
     cases hF
     repeat(first|refine chk.ga ?_|simp -dsimp[h8,z10,h11,q12,z13,h14,q15])
     refine Leave.go ⟨[(0,.own 0 (List.length (α:=Vl.VarType) out7))],[.elems 3 (List.map Vl.VarType.c out7)]⟩ (Gh.to3 (by simp) (by first|simp -dsimp[h8,z10,h11,q12,z13,h14,q15];done|simp_all)) ?_
     exact hq
   ·have q12:(i=0):=auq h11
    have z13:((i:Int)=(0:Int)):=auz
    rw[if_pos q12]at hF
    repeat(first|refine chk.ga ?_|simp -dsimp[h8,z10,eq_true h11,eq_true q12,eq_true z13])
    refine ADraw.eff [116] [(0,0),(0,0),(0,0),(0,0),(0,0),(0,0),(0,0),(0,0),(0,0),(0,0),(0,0),(0,1),(1,1)] [1,1,1,1,1,1,1,1,1,1,1,1,1] follows (by kernel_rfl) (by kernel_rfl) (by kernel_rfl) ?_
    have hF:=ob hF;obtain⟨x22,e23,hF⟩:=hF
    have le23:=lt_of_get e23
    have hF:=ob hF;obtain⟨x24,e25,hF⟩:=hF
    have le25:=lt_of_get e25
    repeat(first|refine chk.ga ?_|simp -dsimp[h8,z10,eq_true h11,eq_true q12,eq_true z13,↓e23,↓e25])
    have hF:=ob hF;obtain⟨v26,e27,hF⟩:=hF
    refine((ih_f59 out7 x22 x24 v26 e27)).ego (pl [0]) (by simp) (by simp) (plInj _ rfl (by decide)) (by intro i hi hi';simp at hi hi';first|omega|(subst hi';simp[pl])) (by first|simp[h8,z10,eq_true h11,eq_true q12,eq_true z13,↓e23,↓e25];done|simp_all) (by first|simp[h8,z10,eq_true h11,eq_true q12,eq_true z13,↓e23,↓e25];done|simp_all) ?_
    have w28:IntKind.i64.wrap ((i:Int)+1)=(i:Int)+1:=wrap_in (by omega) (by omega)
    repeat(first|refine chk.ga ?_|simp -dsimp[h8,z10,eq_true h11,eq_true q12,eq_true z13,↓e23,↓e25,w28])
    refine Again.go _ ?_ ((ih_f60 p v v26 (i+1) o hF) _ rfl _ hq)
    exact(Gh.to3 (by simp) (by first|simp -dsimp[h8,z10,eq_true h11,eq_true q12,eq_true z13,↓e23,↓e25,w28];done|simp_all))
  ·have q9:¬(i<v.length):=auq h8
   have z10:¬((i:Int)<(v.length:Int)):=auz
   rw[if_neg q9]at hF
   cases hF
   repeat(first|refine chk.ga ?_|simp -dsimp[h8,q9,z10])
   refine Leave.go ⟨[(0,.own 0 (List.length (α:=Vl.VarType) out7))],[.elems 3 (List.map Vl.VarType.c out7)]⟩ (Gh.to3 (by simp) (by first|simp -dsimp[h8,q9,z10];done|simp_all)) ?_
   exact hq
 ·intro _f_f59 _f_f62 ih_f59 ih_f62 p v59 out61 i62 o hF
  intro c hc Q hq
  obtain rfl:c=_:=navEq hc rfl
  refine ALoopU.know fun hk hs=> ?_
  have b1:=hk 1
  simp -dsimp at b1
  have b9:=hk 9
  simp -dsimp at b9
  have d0:=hs 0 _ rfl
  simp -dsimp[Blk.bnd]at d0
  have d2:=hs 2 _ rfl
  simp -dsimp[Blk.bnd]at d2
  clear hk hs
  refine ALoopU.enter ?_
  repeat(first|refine chk.ga ?_|simp -dsimp)
  refine abr.split (fun h63=> ?_) (fun h63=> ?_)
  ·have q64:(i62<v59.length):=auq h63
   have z65:((i62:Int)<(v59.length:Int)):=auz
   rw[if_pos q64]at hF
   repeat(first|refine chk.ga ?_|simp -dsimp[h63,z65])
   refine abr.split (fun h66=> ?_) (fun h66=> ?_)
   ·have q67:¬(i62=0):=auq h66
    have z68:¬((i62:Int)=(0:Int)):=auz
    rw[if_neg q67]at hF
    repeat(first|refine chk.ga ?_|simp -dsimp[h63,z65,h66,q67,z68])
    refine abr.split (fun h69=> ?_) (fun h69=> ?_)
    ·have q70:¬(p.op=5):=auq h69
     rw[if_neg q70]at hF
     repeat(first|refine chk.ga ?_|simp -dsimp[h63,z65,h66,q67,z68,h69,q70])
     refine ADraw.eff [116] [(0,0),(0,0),(0,0),(0,0),(0,0),(0,0),(0,0),(0,0),(0,0),(0,0),(0,0),(0,1),(1,1)] [1,1,1,1,1,1,1,1,1,1,1,1,1] follows (by kernel_rfl) (by kernel_rfl) (by kernel_rfl) ?_
     have hF:=ob hF;obtain⟨x71,e72,hF⟩:=hF
     have le72:=lt_of_get e72
     have hF:=ob hF;obtain⟨x73,e74,hF⟩:=hF
     have le74:=lt_of_get e74
     repeat(first|refine chk.ga ?_|simp -dsimp[h63,z65,h66,q67,z68,h69,q70,↓e72,↓e74])
     have hF:=ob hF;obtain⟨v75,e76,hF⟩:=hF
     refine((ih_f59 out61 x71 x73 v75 e76)).ego (pl [0]) (by simp) (by simp) (plInj _ rfl (by decide)) (by intro i hi hi';simp at hi hi';first|omega|(subst hi';simp[pl])) (by first|simp[h63,z65,h66,q67,z68,h69,q70,↓e72,↓e74];done|simp_all) (by first|simp[h63,z65,h66,q67,z68,h69,q70,↓e72,↓e74];done|simp_all) ?_
     have w77:IntKind.i64.wrap ((i62:Int)+1)=(i62:Int)+1:=wrap_in (by omega) (by omega)
     repeat(first|refine chk.ga ?_|simp -dsimp[h63,z65,h66,q67,z68,h69,q70,↓e72,↓e74,w77])
     refine Again.go _ ?_ ((ih_f62 p v59 v75 (i62+1) o hF) _ rfl _ hq)
     exact(Gh.to3 (by simp) (by first|simp -dsimp[h63,z65,h66,q67,z68,h69,q70,↓e72,↓e74,w77];done|simp_all))
    ·have q70:(p.op=5):=auq h69
     rw[if_pos q70]at hF
     cases hF
     repeat(first|refine chk.ga ?_|simp -dsimp[h63,z65,h66,q67,z68,h69,q70])
     refine Leave.go ⟨[(0,.own 0 (List.length (α:=Vl.VarType) out61))],[.elems 3 (List.map Vl.VarType.c out61)]⟩ (Gh.to3 (by simp) (by first|simp -dsimp[h63,z65,h66,q67,z68,h69,q70];done|simp_all)) ?_
     exact hq
   ·have q67:(i62=0):=auq h66
    have z68:((i62:Int)=(0:Int)):=auz
    rw[if_pos q67]at hF
    repeat(first|refine chk.ga ?_|simp -dsimp[h63,z65,eq_true h66,eq_true q67,eq_true z68])
    refine ADraw.eff [116] [(0,0),(0,0),(0,0),(0,0),(0,0),(0,0),(0,0),(0,0),(0,0),(0,0),(0,0),(0,1),(1,1)] [1,1,1,1,1,1,1,1,1,1,1,1,1] follows (by kernel_rfl) (by kernel_rfl) (by kernel_rfl) ?_
    have hF:=ob hF;obtain⟨x78,e79,hF⟩:=hF
    have le79:=lt_of_get e79
    have hF:=ob hF;obtain⟨x80,e81,hF⟩:=hF
    have le81:=lt_of_get e81
    repeat(first|refine chk.ga ?_|simp -dsimp[h63,z65,eq_true h66,eq_true q67,eq_true z68,↓e79,↓e81])
    have hF:=ob hF;obtain⟨v82,e83,hF⟩:=hF
    refine((ih_f59 out61 x78 x80 v82 e83)).ego (pl [0]) (by simp) (by simp) (plInj _ rfl (by decide)) (by intro i hi hi';simp at hi hi';first|omega|(subst hi';simp[pl])) (by first|simp[h63,z65,eq_true h66,eq_true q67,eq_true z68,↓e79,↓e81];done|simp_all) (by first|simp[h63,z65,eq_true h66,eq_true q67,eq_true z68,↓e79,↓e81];done|simp_all) ?_
    have w84:IntKind.i64.wrap ((i62:Int)+1)=(i62:Int)+1:=wrap_in (by omega) (by omega)
    repeat(first|refine chk.ga ?_|simp -dsimp[h63,z65,eq_true h66,eq_true q67,eq_true z68,↓e79,↓e81,w84])
    refine Again.go _ ?_ ((ih_f62 p v59 v82 (i62+1) o hF) _ rfl _ hq)
    exact(Gh.to3 (by simp) (by first|simp -dsimp[h63,z65,eq_true h66,eq_true q67,eq_true z68,↓e79,↓e81,w84];done|simp_all))
  ·have q64:¬(i62<v59.length):=auq h63
   have z65:¬((i62:Int)<(v59.length:Int)):=auz
   rw[if_neg q64]at hF
   cases hF
   repeat(first|refine chk.ga ?_|simp -dsimp[h63,q64,z65])
   refine Leave.go ⟨[(0,.own 0 (List.length (α:=Vl.VarType) out61))],[.elems 3 (List.map Vl.VarType.c out61)]⟩ (Gh.to3 (by simp) (by first|simp -dsimp[h63,q64,z65];done|simp_all)) ?_
   exact hq
theorem CC.f63 (list:List Vl.VarType)(n:Int):(∀(i:Nat) (o:Lo Int Unit),F.f63 list n i=some o→∀(c:Code),navO [1,0,1,0,0] (bodyOf Tryz.f166)=some c→∀(Q:Exit→ASt→Prop),o.post (fun r=>∀st,Post Tryz.prog Tryz.f166 (fun r' _=>r'.le (.lit (.int .i64 r))) .ret st→Q .ret st) (fun s=>Q (.exit 0) ⟨[],[]⟩)→ALoopU Tryz.prog B 0 20 (hold c .mk) ⟨[(0,.arr (List.map Vl.VarType.c list)),(1,.lit (.int .i64 n)),(5,.lit (.int .i64 (i:Int)))],[]⟩ (hold Q .mk)):=by
 refine F.f63.partial_correctness list n
  _
  ?_
 ·intro _f_f63 ih_f63 i o hF
  intro c hc Q hq
  obtain rfl:c=_:=navEq hc rfl
  refine ALoopU.know fun hk hs=> ?_
  have b0:=hk 0
  simp -dsimp at b0
  clear hk hs
  refine ALoopU.enter ?_
  repeat(first|refine chk.ga ?_|simp -dsimp)
  refine abr.split (fun h1=> ?_) (fun h1=> ?_)
  ·have q2:(i<list.length):=auq h1
   have z3:((i:Int)<(list.length:Int)):=auz
   rw[if_pos q2]at hF
   have hF:=ob hF;obtain⟨x,e4,hF⟩:=hF
   have le4:=lt_of_get e4
   repeat(first|refine chk.ga ?_|simp -dsimp[h1,z3,↓e4])
   refine abr.split (fun h5=> ?_) (fun h5=> ?_)
   ·have q6:(x.var=n):=auq h5
    rw[if_pos q6]at hF
    cases hF
    repeat(first|refine chk.ga ?_|simp -dsimp[h1,z3,↓e4,h5])
    refine Leave.go _ (Gh.refl _) (hq _ ?_)
    repeat(first|refine chk.ga ?_|simp -dsimp[h1,z3,↓e4,h5])
   ·have q6:¬(x.var=n):=auq h5
    rw[if_neg q6]at hF
    have w7:IntKind.i64.wrap ((i:Int)+1)=(i:Int)+1:=wrap_in (by omega) (by omega)
    repeat(first|refine chk.ga ?_|simp -dsimp[h1,z3,↓e4,h5,q6,w7])
    refine Again.go _ ?_ ((ih_f63 (i+1) o hF) _ rfl _ hq)
    exact(Gh.to3 (by simp) (by first|simp -dsimp[h1,z3,↓e4,h5,q6,w7];done|simp_all))
  ·have q2:¬(i<list.length):=auq h1
   have z3:¬((i:Int)<(list.length:Int)):=auz
   rw[if_neg q2]at hF
   cases hF
   repeat(first|refine chk.ga ?_|simp -dsimp[h1,q2,z3])
   refine Leave.go ⟨[],[]⟩ (Gh.to3 (by simp) (by first|simp -dsimp[h1,q2,z3];done|simp_all)) ?_
   exact hq
theorem C.f64 (list:List Vl.VarType)(n:Int)(r:Int)(hF:F.f64 list n=some r):PureCall Tryz.prog B 166 [.arr (List.map Vl.VarType.c list),.lit (.int .i64 n)] (.lit (.int .i64 r)):=by
 unfold F.f64 at hF
 refine PureCall.enterLe Tryz.func166 (by kernel_rfl) rfl Tryz.ntmps166 (by simp) (by simp) ?_
 repeat(first|refine chk.ga ?_|simp -dsimp)
 have hF:=ob hF;obtain⟨o',ho8,hF⟩:=hF
 refine ALoop.goU _ ?_ (((CC.f63 B hB1 hB2 list n) 0 o' ho8) _ rfl _ ?_)
 ·exact(Gh.to3 (by simp) (by simp -dsimp))
 rcases o' with r0|sx
 ·dsimp only at hF
  cases hF
  intro st h
  simpa using h
 ·dsimp only at hF
  cases hF
  repeat(first|refine chk.ga ?_|simp -dsimp)
  all_goals(try first|omega|rfl)
theorem CC.f65 (a:List Vl.VarType)(b:List Vl.VarType):(∀(i:Nat) (o:Lo Bool Unit),F.f65 a b i=some o→∀(c:Code),navO [1,0,1,0,0] (bodyOf Tryz.f196)=some c→∀(Q:Exit→ASt→Prop),o.post (fun r=>∀st,Post Tryz.prog Tryz.f196 (fun r' _=>r'.le (.lit (.bool r))) .ret st→Q .ret st) (fun s=>Q (.exit 0) ⟨[(0,.arr (List.map Vl.VarType.c a)),(1,.arr (List.map Vl.VarType.c b))],[]⟩)→ALoopU Tryz.prog B 0 40 (hold c .mk) ⟨[(0,.arr (List.map Vl.VarType.c a)),(1,.arr (List.map Vl.VarType.c b)),(5,.lit (.int .i64 (i:Int)))],[]⟩ (hold Q .mk)):=by
 refine F.f65.partial_correctness a b
  _
  ?_
 ·intro _f_f65 ih_f65 i o hF
  intro c hc Q hq
  obtain rfl:c=_:=navEq hc rfl
  refine ALoopU.know fun hk hs=> ?_
  have b0:=hk 0
  simp -dsimp at b0
  have b1:=hk 1
  simp -dsimp at b1
  clear hk hs
  refine ALoopU.enter ?_
  repeat(first|refine chk.ga ?_|simp -dsimp)
  refine abr.split (fun h1=> ?_) (fun h1=> ?_)
  ·have q2:(i<a.length):=auq h1
   have z3:((i:Int)<(a.length:Int)):=auz
   rw[if_pos q2]at hF
   have hF:=ob hF;obtain⟨x,e4,hF⟩:=hF
   have le4:=lt_of_get e4
   repeat(first|refine chk.ga ?_|simp -dsimp[h1,z3,↓e4])
   have hF:=ob hF;obtain⟨v,e5,hF⟩:=hF
   refine((C.f64 B hB1 hB2 b x.var v e5)).goW (by first|simp[h1,z3,↓e4];done|simp_all) (by simp) ?_
   repeat(first|refine chk.ga ?_|simp -dsimp[h1,z3,↓e4])
   refine ADraw.simple follows (by kernel_rfl) (by kernel_rfl) ?_
   repeat(first|refine chk.ga ?_|simp -dsimp[h1,z3,↓e4])
   refine abr.split (fun h6=> ?_) (fun h6=> ?_)
   ·have q7:¬(v<0):=auq h6
    rw[if_neg q7]at hF
    have hF:=ob hF;obtain⟨x8,e9a,hF⟩:=hF
    have e9a:=at_some e9a;obtain⟨ne9,e9⟩:=e9a
    have le9:=lt_of_get e9
    repeat(first|refine chk.ga ?_|simp -dsimp[h1,z3,↓e4,h6,q7,↓e9])
    refine abr.split (fun h10=> ?_) (fun h10=> ?_)
    ·have q11:¬(dec (eq2 (x8.type.data,x8.type.index) (x.type.data,x.type.index))=true):=auq h10
     rw[if_neg q11]at hF
     cases hF
     repeat(first|refine chk.ga ?_|simp -dsimp[h1,z3,↓e4,h6,q7,↓e9,h10,q11])
     refine Leave.go _ (Gh.refl _) (hq _ ?_)
     repeat(first|refine chk.ga ?_|simp -dsimp[h1,z3,↓e4,h6,q7,↓e9,h10,q11])
    ·have q11:(dec (eq2 (x8.type.data,x8.type.index) (x.type.data,x.type.index))=true):=auq h10
     rw[if_pos q11]at hF
     have w12:IntKind.i64.wrap ((i:Int)+1)=(i:Int)+1:=wrap_in (by omega) (by omega)
     repeat(first|refine chk.ga ?_|simp -dsimp[h1,z3,↓e4,h6,q7,↓e9,h10,q11,w12])
     refine Again.go _ ?_ ((ih_f65 (i+1) o hF) _ rfl _ hq)
     exact(Gh.to3 (by simp) (by first|simp -dsimp[h1,z3,↓e4,h6,q7,↓e9,h10,q11,w12];done|simp_all))
   ·have q7:(v<0):=auq h6
    rw[if_pos q7]at hF
    cases hF
    repeat(first|refine chk.ga ?_|simp -dsimp[h1,z3,↓e4,h6,q7])
    refine Leave.go _ (Gh.refl _) (hq _ ?_)
    repeat(first|refine chk.ga ?_|simp -dsimp[h1,z3,↓e4,h6,q7])
  ·have q2:¬(i<a.length):=auq h1
   have z3:¬((i:Int)<(a.length:Int)):=auz
   rw[if_neg q2]at hF
   cases hF
   repeat(first|refine chk.ga ?_|simp -dsimp[h1,q2,z3])
   refine Leave.go ⟨[(0,.arr (List.map Vl.VarType.c a)),(1,.arr (List.map Vl.VarType.c b))],[]⟩ (Gh.to3 (by simp) (by first|simp -dsimp[h1,q2,z3];done|simp_all)) ?_
   exact hq
theorem C.f66 (a:List Vl.VarType)(b:List Vl.VarType)(r:Bool)(hF:F.f66 a b=some r):PureCall Tryz.prog B 196 [.arr (List.map Vl.VarType.c a),.arr (List.map Vl.VarType.c b)] (.lit (.bool r)):=by
 unfold F.f66 at hF
 refine PureCall.enterLe Tryz.func196 (by kernel_rfl) rfl Tryz.ntmps196 (by simp) (by simp) ?_
 repeat(first|refine chk.ga ?_|simp -dsimp)
 have hF:=ob hF;obtain⟨o',ho13,hF⟩:=hF
 refine ALoop.goU _ ?_ (((CC.f65 B hB1 hB2 a b) 0 o' ho13) _ rfl _ ?_)
 ·exact(Gh.to3 (by simp) (by simp -dsimp))
 rcases o' with r0|sx
 ·dsimp only at hF
  cases hF
  intro st h
  simpa using h
 ·dsimp only at hF
  cases hF
  repeat(first|refine chk.ga ?_|simp -dsimp)
  all_goals(try first|omega|rfl)
theorem CC.f67 (v26:List Vl.VarType):(∀(i28:Nat) (o:Lo Bool Unit),F.f67 v26 i28=some o→∀(c:Code),navO [1,1,1,1,1,0,1,0,0] (bodyOf Tryz.f152)=some c→∀(Q:Exit→ASt→Prop),o.post (fun r=>∀st,Post Tryz.prog Tryz.f152 (fun r' _=>r'.le (.lit (.bool r))) .ret st→Q .ret st) (fun s=>Q (.exit 2) ⟨[],[]⟩)→ALoopU Tryz.prog B 0 70 (hold c .mk) ⟨[(9,.own 2 (List.length (α:=Vl.VarType) v26)),(10,.lit (.int .i64 (i28:Int)))],[.dead,.dead,.elems 3 (List.map Vl.VarType.c v26)]⟩ (hold Q .mk)):=by
 refine F.f67.partial_correctness v26
  _
  ?_
 ·intro _f_f67 ih_f67 i28 o hF
  intro c hc Q hq
  obtain rfl:c=_:=navEq hc rfl
  refine ALoopU.know fun hk hs=> ?_
  have d2:=hs 2 _ rfl
  simp -dsimp[Blk.bnd]at d2
  clear hk hs
  refine ALoopU.enter ?_
  repeat(first|refine chk.ga ?_|simp -dsimp)
  refine abr.split (fun h29=> ?_) (fun h29=> ?_)
  ·have q30:(i28<v26.length):=auq h29
   have z31:((i28:Int)<(v26.length:Int)):=auz
   rw[if_pos q30]at hF
   have hF:=ob hF;obtain⟨x32,e33,hF⟩:=hF
   have le33:=lt_of_get e33
   repeat(first|refine chk.ga ?_|simp -dsimp[h29,z31,↓e33])
   have hF:=ob hF;obtain⟨v34,e35,hF⟩:=hF
   refine((C.f64 B hB1 hB2 v26 x32.var v34 e35)).lend (by first|simp -dsimp[h29,z31,↓e33];done|simp_all) (by simp -dsimp) ?_
   repeat(first|refine chk.ga ?_|simp -dsimp[h29,z31,↓e33])
   refine abr.split (fun h36=> ?_) (fun h36=> ?_)
   ·have q37:¬(v34=(i28:Int)):=auq h36
    rw[if_neg q37]at hF
    cases hF
    repeat(first|refine chk.ga ?_|simp -dsimp[h29,z31,↓e33,h36,q37])
    refine Leave.go _ (Gh.refl _) (hq _ ?_)
    repeat(first|refine chk.ga ?_|simp -dsimp[h29,z31,↓e33,h36,q37])
   ·have q37:(v34=(i28:Int)):=auq h36
    rw[if_pos q37]at hF
    have w38:IntKind.i64.wrap ((i28:Int)+1)=(i28:Int)+1:=wrap_in (by omega) (by omega)
    repeat(first|refine chk.ga ?_|simp -dsimp[h29,z31,↓e33,h36,q37,w38])
    refine Again.go _ ?_ ((ih_f67 (i28+1) o hF) _ rfl _ hq)
    exact(Gh.to3 (by simp) (by first|simp -dsimp[h29,z31,↓e33,h36,q37,w38];done|simp_all))
  ·have q30:¬(i28<v26.length):=auq h29
   have z31:¬((i28:Int)<(v26.length:Int)):=auz
   rw[if_neg q30]at hF
   cases hF
   repeat(first|refine chk.ga ?_|simp -dsimp[h29,q30,z31])
   refine Leave.go ⟨[],[]⟩ (Gh.to3 (by simp) (by first|simp -dsimp[h29,q30,z31];done|simp_all)) ?_
   exact hq
theorem CC.f68 (w:List Vl.Data):(∀(t:Vl.Ty) (p:Vl.Pattern) (r:Bool),F.f68 w t p=some r→PureCall Tryz.prog B 152 [.arr (List.map Vl.Data.c w),.agg [.lit (.int .i64 t.data),.lit (.int .i64 t.index)],.agg [.lit (.int .i64 p.op),.lit (.int .i64 p.ctor),.lit (.int .i64 p.n),.lit (.int .i64 p.m),.lit (.int .i64 p.var),.arr (List.map Vl.Pattern.c p.kids)]] (.lit (.bool r)))∧
  (∀(t:Vl.Ty) (p:Vl.Pattern) (v:List Vl.Ty) (i:Nat) (o:Lo Bool Unit),F.f69 w t p v i=some o→∀(c:Code),navO [1,1,0,1,0,0] (bodyOf Tryz.f152)=some c→∀(Q:Exit→ASt→Prop),o.post (fun r=>∀st,Post Tryz.prog Tryz.f152 (fun r' _=>r'.le (.lit (.bool r))) .ret st→Q .ret st) (fun s=>Q (.exit 0) ⟨[(0,.arr (List.map Vl.Data.c w)),(4,.ptr 0 0),(5,.ptr 1 0)],[.cells [.lit (.int .i64 t.data),.lit (.int .i64 t.index)],.cells [.lit (.int .i64 p.op),.lit (.int .i64 p.ctor),.lit (.int .i64 p.n),.lit (.int .i64 p.m),.lit (.int .i64 p.var),.arr (List.map Vl.Pattern.c p.kids)]]⟩)→ALoopU Tryz.prog B 0 70 (hold c .mk) ⟨[(0,.arr (List.map Vl.Data.c w)),(4,.ptr 0 0),(5,.ptr 1 0),(7,.arr (List.map Vl.Ty.c v)),(8,.lit (.int .i64 (i:Int)))],[.cells [.lit (.int .i64 t.data),.lit (.int .i64 t.index)],.cells [.lit (.int .i64 p.op),.lit (.int .i64 p.ctor),.lit (.int .i64 p.n),.lit (.int .i64 p.m),.lit (.int .i64 p.var),.arr (List.map Vl.Pattern.c p.kids)]]⟩ (hold Q .mk)):=by
 refine F.f68.mutual_partial_correctness w
  _ _
  ?_ ?_
 ·intro _f_f69 ih_f69 t p r hF
  refine PureCall.enterLe Tryz.func152 (by kernel_rfl) rfl Tryz.ntmps152 (by simp) (by simp) ?_
  repeat(first|refine chk.ga ?_|simp -dsimp)
  have hF:=ob hF;obtain⟨v,e1,hF⟩:=hF
  refine((C.f54 B hB1 hB2 w t p v e1)).goW (by simp) (by simp) ?_
  repeat(first|refine chk.ga ?_|simp -dsimp)
  have hF:=ob hF;obtain⟨o',ho13,hF⟩:=hF
  refine ALoop.goU _ ?_ ((ih_f69 t p v 0 o' ho13) _ rfl _ ?_)
  ·exact(Gh.to3 (by simp) (by simp -dsimp))
  rcases o' with r042|sx
  ·dsimp only at hF
   cases hF
   intro st h
   simpa using h
  ·dsimp only at hF
   repeat(first|refine chk.ga ?_|simp -dsimp)
   refine abr.split (fun h14=> ?_) (fun h14=> ?_)
   ·have q15:(p.op=5):=auq h14
    rw[if_pos q15]at hF
    repeat(first|refine chk.ga ?_|simp -dsimp[h14])
    refine ADraw.eff [116,196] [(0,0),(0,0),(0,0),(0,0),(0,0),(0,0),(0,3),(0,1),(0,1),(0,1),(0,1),(0,1),(0,1),(0,3),(0,3),(3,3)] [1,1,1,1,1,1,1,1,2,0,2,0,0,1,1,1] follows (by kernel_rfl) (by kernel_rfl) (by kernel_rfl) ?_
    have hF:=ob hF;obtain⟨x16,e17,hF⟩:=hF
    have le17:=lt_of_get e17
    repeat(first|refine chk.ga ?_|simp -dsimp[h14,↓e17])
    have hF:=ob hF;obtain⟨v18,e19,hF⟩:=hF
    refine ECallA.nilArg 0 3 (by simp) ?_
    repeat(first|refine chk.ga ?_|simp -dsimp[h14,↓e17])
    refine(((CC.f59 B hB1 hB2 w).1 [] t x16 v18 e19)).ego (pl [2]) (by simp) (by simp) (plInj _ rfl (by decide)) (by intro i hi hi';simp at hi hi';first|omega|(subst hi';simp[pl])) (by first|simp[h14,↓e17];done|simp_all) (by first|simp[h14,↓e17];done|simp_all) ?_
    have hF:=ob hF;obtain⟨x20,e21,hF⟩:=hF
    have le21:=lt_of_get e21
    repeat(first|refine chk.ga ?_|simp -dsimp[h14,↓e17,↓e21])
    have hF:=ob hF;obtain⟨v22,e23,hF⟩:=hF
    refine ECallA.nilArg 0 3 (by simp) ?_
    repeat(first|refine chk.ga ?_|simp -dsimp[h14,↓e17,↓e21])
    refine(((CC.f59 B hB1 hB2 w).1 [] t x20 v22 e23)).ego (pl [3]) (by simp) (by simp) (plInj _ rfl (by decide)) (by intro i hi hi';simp at hi hi';first|omega|(subst hi';simp[pl])) (by first|simp[h14,↓e17,↓e21];done|simp_all) (by first|simp[h14,↓e17,↓e21];done|simp_all) ?_
    repeat(first|refine chk.ga ?_|simp -dsimp[h14,↓e17,↓e21])
    have hF:=ob hF;obtain⟨v24,e25,hF⟩:=hF
    refine((C.f66 B hB1 hB2 v18 v22 v24 e25)).elend (by first|simp -dsimp[h14,↓e17,↓e21];done|simp_all) (by simp -dsimp) ?_
    cases hF
    repeat(first|refine chk.ga ?_|simp -dsimp[h14,↓e17,↓e21])
    all_goals(try first|omega|rfl)
   ·have q15:¬(p.op=5):=auq h14
    rw[if_neg q15]at hF
    repeat(first|refine chk.ga ?_|simp -dsimp[h14,q15])
    have hF:=ob hF;obtain⟨v26,e27,hF⟩:=hF
    refine ACall.nilArg 0 3 (by simp) ?_
    repeat(first|refine chk.ga ?_|simp -dsimp[h14,q15])
    refine(((CC.f59 B hB1 hB2 w).1 [] t p v26 e27)).go (pl [2]) (by simp) (by simp) (plInj _ rfl (by decide)) (by intro i hi hi';simp at hi hi';first|omega|(subst hi';simp[pl])) (by first|simp[h14,q15];done|simp_all) (by first|simp[h14,q15];done|simp_all) ?_
    repeat(first|refine chk.ga ?_|simp -dsimp[h14,q15])
    have hF:=ob hF;obtain⟨o'40,ho39,hF⟩:=hF
    refine ALoop.goU _ ?_ (((CC.f67 B hB1 hB2 v26) 0 o'40 ho39) _ rfl _ ?_)
    ·exact(Gh.to3 (by simp) (by first|simp -dsimp[h14,q15];done|simp_all))
    rcases o'40 with r0|sx41
    ·dsimp only at hF
     cases hF
     intro st h
     simpa using h
    ·dsimp only at hF
     cases hF
     repeat(first|refine chk.ga ?_|simp -dsimp)
     all_goals(try first|omega|rfl)
 ·intro _f_f68 _f_f69 ih_f68 ih_f69 t p v i o hF
  intro c hc Q hq
  obtain rfl:c=_:=navEq hc rfl
  refine ALoopU.know fun hk hs=> ?_
  have b0:=hk 0
  simp -dsimp at b0
  have b7:=hk 7
  simp -dsimp at b7
  have d1:=hs 1 _ rfl
  simp -dsimp[Blk.bnd]at d1
  clear hk hs
  refine ALoopU.enter ?_
  repeat(first|refine chk.ga ?_|simp -dsimp)
  refine abr.split (fun h2=> ?_) (fun h2=> ?_)
  ·have q3:(i<v.length):=auq h2
   have z4:((i:Int)<(v.length:Int)):=auz
   rw[if_pos q3]at hF
   repeat(first|refine chk.ga ?_|simp -dsimp[h2,z4])
   refine ADraw.simple follows (by kernel_rfl) (by kernel_rfl) ?_
   have hF:=ob hF;obtain⟨x,e5,hF⟩:=hF
   have le5:=lt_of_get e5
   have hF:=ob hF;obtain⟨x6,e7,hF⟩:=hF
   have le7:=lt_of_get e7
   repeat(first|refine chk.ga ?_|simp -dsimp[h2,z4,↓e5,↓e7])
   have hF:=ob hF;obtain⟨v8,e9,hF⟩:=hF
   refine((ih_f68 x x6 v8 e9)).pgoW (by first|simp[h2,z4,↓e5,↓e7];done|simp_all) (by simp) ?_
   repeat(first|refine chk.ga ?_|simp -dsimp[h2,z4,↓e5,↓e7])
   refine abr.split (fun h10=> ?_) (fun h10=> ?_)
   ·have q11:¬(v8=true):=auq h10
    rw[if_neg q11]at hF
    cases hF
    repeat(first|refine chk.ga ?_|simp -dsimp[h2,z4,↓e5,↓e7,h10,q11])
    refine Leave.go _ (Gh.refl _) (hq _ ?_)
    repeat(first|refine chk.ga ?_|simp -dsimp[h2,z4,↓e5,↓e7,h10,q11])
   ·have q11:(v8=true):=auq h10
    rw[if_pos q11]at hF
    have w12:IntKind.i64.wrap ((i:Int)+1)=(i:Int)+1:=wrap_in (by omega) (by omega)
    repeat(first|refine chk.ga ?_|simp -dsimp[h2,z4,↓e5,↓e7,h10,q11,w12])
    refine Again.go _ ?_ ((ih_f69 t p v (i+1) o hF) _ rfl _ hq)
    exact(Gh.to3 (by simp) (by first|simp -dsimp[h2,z4,↓e5,↓e7,h10,q11,w12];done|simp_all))
  ·have q3:¬(i<v.length):=auq h2
   have z4:¬((i:Int)<(v.length:Int)):=auz
   rw[if_neg q3]at hF
   cases hF
   repeat(first|refine chk.ga ?_|simp -dsimp[h2,q3,z4])
   refine Leave.go ⟨[(0,.arr (List.map Vl.Data.c w)),(4,.ptr 0 0),(5,.ptr 1 0)],[.cells [.lit (.int .i64 t.data),.lit (.int .i64 t.index)],.cells [.lit (.int .i64 p.op),.lit (.int .i64 p.ctor),.lit (.int .i64 p.n),.lit (.int .i64 p.m),.lit (.int .i64 p.var),.arr (List.map Vl.Pattern.c p.kids)]]⟩ (Gh.to3 (by simp) (by first|simp -dsimp[h2,q3,z4];done|simp_all)) ?_
   exact hq
theorem C.f70 (w:List Vl.Data)(t:Vl.Ty)(p:Vl.Pattern)(r:Bool)(hF:F.f70 w t p=some r):PureCall Tryz.prog B 94 [.arr (List.map Vl.Data.c w),.agg [.lit (.int .i64 t.data),.lit (.int .i64 t.index)],.agg [.lit (.int .i64 p.op),.lit (.int .i64 p.ctor),.lit (.int .i64 p.n),.lit (.int .i64 p.m),.lit (.int .i64 p.var),.arr (List.map Vl.Pattern.c p.kids)]] (.lit (.bool r)):=by
 unfold F.f70 at hF
 refine PureCall.enterLe Tryz.func94 (by kernel_rfl) rfl Tryz.ntmps94 (by simp) (by simp) ?_
 repeat(first|refine chk.ga ?_|simp -dsimp)
 have hF:=ob hF;obtain⟨v,e1,hF⟩:=hF
 refine(((CC.f55 B hB1 hB2 w).1 t p (10:Int) v e1)).goW (by simp) (by simp) ?_
 repeat(first|refine chk.ga ?_|simp -dsimp)
 refine abr.split (fun h2=> ?_) (fun h2=> ?_)
 ·have q3:(v=true):=auq h2
  rw[if_pos q3]at hF
  repeat(first|refine chk.ga ?_|simp -dsimp[h2])
  have hF:=ob hF;obtain⟨v4,e5,hF⟩:=hF
  refine(((CC.f57 B hB1 hB2).1 p (60:Int) v4 e5)).goW (by first|simp[h2];done|simp_all) (by simp) ?_
  repeat(first|refine chk.ga ?_|simp -dsimp[h2])
  refine abr.split (fun h6=> ?_) (fun h6=> ?_)
  ·have q7:(v4≤60):=auq h6
   rw[if_pos q7]at hF
   repeat(first|refine chk.ga ?_|simp -dsimp[h2,h6])
   have hF:=ob hF;obtain⟨v8,e9,hF⟩:=hF
   refine(((CC.f68 B hB1 hB2 w).1 t p v8 e9)).goW (by first|simp[h2,h6];done|simp_all) (by simp) ?_
   cases hF
   repeat(first|refine chk.ga ?_|simp -dsimp[h2,h6])
   all_goals(try first|omega|rfl)
  ·have q7:¬(v4≤60):=auq h6
   rw[if_neg q7]at hF
   cases hF
   repeat(first|refine chk.ga ?_|simp -dsimp[h2,h6,q7])
   all_goals(try first|omega|rfl)
 ·have q3:¬(v=true):=auq h2
  rw[if_neg q3]at hF
  cases hF
  repeat(first|refine chk.ga ?_|simp -dsimp[h2,q3])
  all_goals(try first|omega|rfl)
theorem C.f71 (g:Vl.Guard)(vars:List Vl.VarType)(r:Bool)(hF:F.f71 g vars=some r):PureCall Tryz.prog B 115 [.agg [.lit (.int .i64 g.op),.lit (.int .i64 g.var),.lit (.int .i64 g.n)],.arr (List.map Vl.VarType.c vars)] (.lit (.bool r)):=by
 unfold F.f71 at hF
 refine PureCall.enterLe Tryz.func115 (by kernel_rfl) rfl Tryz.ntmps115 (by simp) (by simp) ?_
 repeat(first|refine chk.ga ?_|simp -dsimp)
 refine abr.split (fun h1=> ?_) (fun h1=> ?_)
 ·have q2:(g.op=0):=auq h1
  rw[if_pos q2]at hF
  repeat(first|refine chk.ga ?_|simp -dsimp[h1])
  refine abr.split (fun h3=> ?_) (fun h3=> ?_)
  ·have q4:(g.var=0):=auq h3
   rw[if_pos q4]at hF
   cases hF
   repeat(first|refine chk.ga ?_|simp -dsimp[h1,h3])
   all_goals(try first|omega|rfl)
  ·have q4:¬(g.var=0):=auq h3
   rw[if_neg q4]at hF
   cases hF
   repeat(first|refine chk.ga ?_|simp -dsimp[h1,h3,q4])
   all_goals(try first|omega|rfl)
 ·have q2:¬(g.op=0):=auq h1
  rw[if_neg q2]at hF
  repeat(first|refine chk.ga ?_|simp -dsimp[h1,q2])
  refine abr.split (fun h5=> ?_) (fun h5=> ?_)
  ·have q6:¬(g.op=1):=auq h5
   rw[if_neg q6]at hF
   repeat(first|refine chk.ga ?_|simp -dsimp[h1,q2,h5,q6])
   refine abr.split (fun h7=> ?_) (fun h7=> ?_)
   ·have q8:(g.op=2):=auq h7
    rw[if_pos q8]at hF
    repeat(first|refine chk.ga ?_|simp -dsimp[h1,q2,h5,q6,h7])
    refine abr.split (fun h9=> ?_) (fun h9=> ?_)
    ·have q10:¬(g.n<0):=auq h9
     rw[if_neg q10]at hF
     repeat(first|refine chk.ga ?_|simp -dsimp[h1,q2,h5,q6,h7,h9,q10])
     refine abr.split (fun h11=> ?_) (fun h11=> ?_)
     ·have q12:(9<g.n):=auq h11
      rw[if_pos q12]at hF
      cases hF
      repeat(first|refine chk.ga ?_|simp -dsimp[h1,q2,h5,q6,h7,h9,q10,h11])
      all_goals(try first|omega|rfl)
     ·have q12:¬(9<g.n):=auq h11
      rw[if_neg q12]at hF
      repeat(first|refine chk.ga ?_|simp -dsimp[h1,q2,h5,q6,h7,h9,q10,h11,q12])
      have hF:=ob hF;obtain⟨v,e13,hF⟩:=hF
      refine((C.f64 B hB1 hB2 vars g.var v e13)).goW (by first|simp[h1,q2,h5,q6,h7,h9,q10,h11,q12];done|simp_all) (by simp) ?_
      repeat(first|refine chk.ga ?_|simp -dsimp[h1,q2,h5,q6,h7,h9,q10,h11,q12])
      refine abr.split (fun h14=> ?_) (fun h14=> ?_)
      ·have q15:(0≤v):=auq h14
       rw[if_pos q15]at hF
       have hF:=ob hF;obtain⟨x,e16a,hF⟩:=hF
       have e16a:=at_some e16a;obtain⟨ne16,e16⟩:=e16a
       have le16:=lt_of_get e16
       cases hF
       repeat(first|refine chk.ga ?_|simp -dsimp[h1,q2,h5,q6,h7,h9,q10,h11,q12,h14,↓e16])
       all_goals(try first|omega|rfl)
      ·have q15:¬(0≤v):=auq h14
       rw[if_neg q15]at hF
       cases hF
       repeat(first|refine chk.ga ?_|simp -dsimp[h1,q2,h5,q6,h7,h9,q10,h11,q12,h14,q15])
       all_goals(try first|omega|rfl)
    ·have q10:(g.n<0):=auq h9
     rw[if_pos q10]at hF
     cases hF
     repeat(first|refine chk.ga ?_|simp -dsimp[h1,q2,h5,q6,h7,h9,q10])
     all_goals(try first|omega|rfl)
   ·have q8:¬(g.op=2):=auq h7
    rw[if_neg q8]at hF
    cases hF
    repeat(first|refine chk.ga ?_|simp -dsimp[h1,q2,h5,q6,h7,q8])
    all_goals(try first|omega|rfl)
  ·have q6:(g.op=1):=auq h5
   rw[if_pos q6]at hF
   repeat(first|refine chk.ga ?_|simp -dsimp[h1,q2,h5,q6])
   refine abr.split (fun h17=> ?_) (fun h17=> ?_)
   ·have q18:¬(g.n<0):=auq h17
    rw[if_neg q18]at hF
    repeat(first|refine chk.ga ?_|simp -dsimp[h1,q2,h5,q6,h17,q18])
    refine abr.split (fun h19=> ?_) (fun h19=> ?_)
    ·have q20:(9<g.n):=auq h19
     rw[if_pos q20]at hF
     cases hF
     repeat(first|refine chk.ga ?_|simp -dsimp[h1,q2,h5,q6,h17,q18,h19])
     all_goals(try first|omega|rfl)
    ·have q20:¬(9<g.n):=auq h19
     rw[if_neg q20]at hF
     repeat(first|refine chk.ga ?_|simp -dsimp[h1,q2,h5,q6,h17,q18,h19,q20])
     have hF:=ob hF;obtain⟨v21,e22,hF⟩:=hF
     refine((C.f64 B hB1 hB2 vars g.var v21 e22)).goW (by first|simp[h1,q2,h5,q6,h17,q18,h19,q20];done|simp_all) (by simp) ?_
     repeat(first|refine chk.ga ?_|simp -dsimp[h1,q2,h5,q6,h17,q18,h19,q20])
     refine abr.split (fun h23=> ?_) (fun h23=> ?_)
     ·have q24:(0≤v21):=auq h23
      rw[if_pos q24]at hF
      have hF:=ob hF;obtain⟨x25,e26a,hF⟩:=hF
      have e26a:=at_some e26a;obtain⟨ne26,e26⟩:=e26a
      have le26:=lt_of_get e26
      cases hF
      repeat(first|refine chk.ga ?_|simp -dsimp[h1,q2,h5,q6,h17,q18,h19,q20,h23,↓e26])
      all_goals(try first|omega|rfl)
     ·have q24:¬(0≤v21):=auq h23
      rw[if_neg q24]at hF
      cases hF
      repeat(first|refine chk.ga ?_|simp -dsimp[h1,q2,h5,q6,h17,q18,h19,q20,h23,q24])
      all_goals(try first|omega|rfl)
   ·have q18:(g.n<0):=auq h17
    rw[if_pos q18]at hF
    cases hF
    repeat(first|refine chk.ga ?_|simp -dsimp[h1,q2,h5,q6,h17,q18])
    all_goals(try first|omega|rfl)
theorem C.f72 (w:List Vl.Data)(t:Vl.Ty)(c':Vl.Clause)(r:Bool)(hF:F.f72 w t c'=some r):PureCall Tryz.prog B 59 [.arr (List.map Vl.Data.c w),.agg [.lit (.int .i64 t.data),.lit (.int .i64 t.index)],.agg [.lit (.int .i64 c'.pat.op),.lit (.int .i64 c'.pat.ctor),.lit (.int .i64 c'.pat.n),.lit (.int .i64 c'.pat.m),.lit (.int .i64 c'.pat.var),.arr (List.map Vl.Pattern.c c'.pat.kids),.lit (.int .i64 c'.guard.op),.lit (.int .i64 c'.guard.var),.lit (.int .i64 c'.guard.n)]] (.lit (.bool r)):=by
 unfold F.f72 at hF
 refine PureCall.enterLe Tryz.func59 (by kernel_rfl) rfl Tryz.ntmps59 (by simp) (by simp) ?_
 repeat(first|refine chk.ga ?_|simp -dsimp)
 refine ADraw.eff [115,116] [(0,0),(0,0),(0,0),(0,0),(0,2),(0,0),(0,1),(0,1),(0,0),(0,0),(0,0),(0,0),(0,2),(0,2),(2,2),(2,2)] [1,1,1,1,1,1,0,2,1,1,1,1,1,1,1,1] follows (by kernel_rfl) (by kernel_rfl) (by kernel_rfl) ?_
 repeat(first|refine chk.ga ?_|simp -dsimp)
 have hF:=ob hF;obtain⟨v,e1,hF⟩:=hF
 refine((C.f70 B hB1 hB2 w t c'.pat v e1)).pgoW (by simp) (by simp) ?_
 repeat(first|refine chk.ga ?_|simp -dsimp)
 refine abr.split (fun h2=> ?_) (fun h2=> ?_)
 ·have q3:(v=true):=auq h2
  rw[if_pos q3]at hF
  repeat(first|refine chk.ga ?_|simp -dsimp[h2])
  have hF:=ob hF;obtain⟨v4,e5,hF⟩:=hF
  refine ECallA.nilArg 0 3 (by simp) ?_
  repeat(first|refine chk.ga ?_|simp -dsimp[h2])
  refine(((CC.f59 B hB1 hB2 w).1 [] t c'.pat v4 e5)).ego (pl [2]) (by simp) (by simp) (plInj _ rfl (by decide)) (by intro i hi hi';simp at hi hi';first|omega|(subst hi';simp[pl])) (by first|simp[h2];done|simp_all) (by first|simp[h2];done|simp_all) ?_
  repeat(first|refine chk.ga ?_|simp -dsimp[h2])
  have hF:=ob hF;obtain⟨v6,e7,hF⟩:=hF
  refine((C.f71 B hB1 hB2 c'.guard v4 v6 e7)).elend (by first|simp -dsimp[h2];done|simp_all) (by simp -dsimp) ?_
  cases hF
  repeat(first|refine chk.ga ?_|simp -dsimp[h2])
  all_goals(try first|omega|rfl)
 ·have q3:¬(v=true):=auq h2
  rw[if_neg q3]at hF
  cases hF
  repeat(first|refine chk.ga ?_|simp -dsimp[h2,q3])
  all_goals(try first|omega|rfl)
theorem C.f73 (w:List Vl.Data)(t:Vl.Ty)(c':Vl.Clause)(r:Bool)(hF:F.f73 w t c'=some r):PureCall Tryz.prog B 56 [.arr (List.map Vl.Data.c w),.agg [.lit (.int .i64 t.data),.lit (.int .i64 t.index)],.agg [.lit (.int .i64 c'.pat.op),.lit (.int .i64 c'.pat.ctor),.lit (.int .i64 c'.pat.n),.lit (.int .i64 c'.pat.m),.lit (.int .i64 c'.pat.var),.arr (List.map Vl.Pattern.c c'.pat.kids),.lit (.int .i64 c'.guard.op),.lit (.int .i64 c'.guard.var),.lit (.int .i64 c'.guard.n)]] (.lit (.bool r)):=by
 unfold F.f73 at hF
 refine PureCall.enterLe Tryz.func56 (by kernel_rfl) rfl Tryz.ntmps56 (by simp) (by simp) ?_
 repeat(first|refine chk.ga ?_|simp -dsimp)
 have hF:=ob hF;obtain⟨v,e1,hF⟩:=hF
 refine((C.f42 B hB1 hB2 w t v e1)).goW (by simp) (by simp) ?_
 repeat(first|refine chk.ga ?_|simp -dsimp)
 refine abr.split (fun h2=> ?_) (fun h2=> ?_)
 ·have q3:(v=true):=auq h2
  rw[if_pos q3]at hF
  repeat(first|refine chk.ga ?_|simp -dsimp[h2])
  have hF:=ob hF;obtain⟨v4,e5,hF⟩:=hF
  refine((C.f72 B hB1 hB2 w t c' v4 e5)).goW (by first|simp[h2];done|simp_all) (by simp) ?_
  cases hF
  repeat(first|refine chk.ga ?_|simp -dsimp[h2])
  all_goals(try first|omega|rfl)
 ·have q3:¬(v=true):=auq h2
  rw[if_neg q3]at hF
  cases hF
  repeat(first|refine chk.ga ?_|simp -dsimp[h2,q3])
  all_goals(try first|omega|rfl)
theorem CC.f74 (v:Int):(∀(p:Vl.Pattern) (r:Bool),F.f74 p v=some r→PureCall Tryz.prog B 112 [.agg [.lit (.int .i64 p.op),.lit (.int .i64 p.ctor),.lit (.int .i64 p.n),.lit (.int .i64 p.m),.lit (.int .i64 p.var),.arr (List.map Vl.Pattern.c p.kids)],.lit (.int .i64 v)] (.lit (.bool r)))∧
  (∀(p:Vl.Pattern) (i:Nat) (o:Lo Bool Unit),F.f75 p v i=some o→∀(c:Code),navO [1,0,1,0,0] (bodyOf Tryz.f112)=some c→∀(Q:Exit→ASt→Prop),o.post (fun r=>∀st,Post Tryz.prog Tryz.f112 (fun r' _=>r'.le (.lit (.bool r))) .ret st→Q .ret st) (fun s=>Q (.exit 0) ⟨[(1,.lit (.int .i64 v)),(2,.ptr 0 0)],[.cells [.lit (.int .i64 p.op),.lit (.int .i64 p.ctor),.lit (.int .i64 p.n),.lit (.int .i64 p.m),.lit (.int .i64 p.var),.arr (List.map Vl.Pattern.c p.kids)]]⟩)→ALoopU Tryz.prog B 0 34 (hold c .mk) ⟨[(1,.lit (.int .i64 v)),(2,.ptr 0 0),(5,.lit (.int .i64 (i:Int)))],[.cells [.lit (.int .i64 p.op),.lit (.int .i64 p.ctor),.lit (.int .i64 p.n),.lit (.int .i64 p.m),.lit (.int .i64 p.var),.arr (List.map Vl.Pattern.c p.kids)]]⟩ (hold Q .mk)):=by
 refine F.f74.mutual_partial_correctness v
  _ _
  ?_ ?_
 ·intro _f_f75 ih_f75 p r hF
  refine PureCall.enterLe Tryz.func112 (by kernel_rfl) rfl Tryz.ntmps112 (by simp) (by simp) ?_
  repeat(first|refine chk.ga ?_|simp -dsimp)
  have hF:=ob hF;obtain⟨o',ho10,hF⟩:=hF
  refine ALoop.goU _ ?_ ((ih_f75 p 0 o' ho10) _ rfl _ ?_)
  ·exact(Gh.to3 (by simp) (by simp -dsimp))
  rcases o' with r0|sx
  ·dsimp only at hF
   cases hF
   intro st h
   simpa using h
  ·dsimp only at hF
   repeat(first|refine chk.ga ?_|simp -dsimp)
   refine abr.split (fun h11=> ?_) (fun h11=> ?_)
   ·have q12:¬(p.op=2):=auq h11
    rw[if_neg q12]at hF
    repeat(first|refine chk.ga ?_|simp -dsimp[h11,q12])
    refine abr.split (fun h13=> ?_) (fun h13=> ?_)
    ·have q14:(p.op=6):=auq h13
     rw[if_pos q14]at hF
     cases hF
     repeat(first|refine chk.ga ?_|simp -dsimp[h11,q12,h13])
     all_goals(try first|omega|rfl)
    ·have q14:¬(p.op=6):=auq h13
     rw[if_neg q14]at hF
     cases hF
     repeat(first|refine chk.ga ?_|simp -dsimp[h11,q12,h13,q14])
     all_goals(try first|omega|rfl)
   ·have q12:(p.op=2):=auq h11
    rw[if_pos q12]at hF
    cases hF
    repeat(first|refine chk.ga ?_|simp -dsimp[h11,q12])
    all_goals(try first|omega|rfl)
 ·intro _f_f74 _f_f75 ih_f74 ih_f75 p i o hF
  intro c hc Q hq
  obtain rfl:c=_:=navEq hc rfl
  refine ALoopU.know fun hk hs=> ?_
  have d0:=hs 0 _ rfl
  simp -dsimp[Blk.bnd]at d0
  clear hk hs
  refine ALoopU.enter ?_
  repeat(first|refine chk.ga ?_|simp -dsimp)
  refine abr.split (fun h1=> ?_) (fun h1=> ?_)
  ·have q2:(i<p.kids.length):=auq h1
   have z3:((i:Int)<(p.kids.length:Int)):=auz
   rw[if_pos q2]at hF
   have hF:=ob hF;obtain⟨x,e4,hF⟩:=hF
   have le4:=lt_of_get e4
   repeat(first|refine chk.ga ?_|simp -dsimp[h1,z3,↓e4])
   have hF:=ob hF;obtain⟨v5,e6,hF⟩:=hF
   refine((ih_f74 x v5 e6)).goW (by first|simp[h1,z3,↓e4];done|simp_all) (by simp) ?_
   repeat(first|refine chk.ga ?_|simp -dsimp[h1,z3,↓e4])
   refine abr.split (fun h7=> ?_) (fun h7=> ?_)
   ·have q8:(v5=true):=auq h7
    rw[if_pos q8]at hF
    cases hF
    repeat(first|refine chk.ga ?_|simp -dsimp[h1,z3,↓e4,h7])
    refine Leave.go _ (Gh.refl _) (hq _ ?_)
    repeat(first|refine chk.ga ?_|simp -dsimp[h1,z3,↓e4,h7])
   ·have q8:¬(v5=true):=auq h7
    rw[if_neg q8]at hF
    have w9:IntKind.i64.wrap ((i:Int)+1)=(i:Int)+1:=wrap_in (by omega) (by omega)
    repeat(first|refine chk.ga ?_|simp -dsimp[h1,z3,↓e4,h7,q8,w9])
    refine Again.go _ ?_ ((ih_f75 p (i+1) o hF) _ rfl _ hq)
    exact(Gh.to3 (by simp) (by first|simp -dsimp[h1,z3,↓e4,h7,q8,w9];done|simp_all))
  ·have q2:¬(i<p.kids.length):=auq h1
   have z3:¬((i:Int)<(p.kids.length:Int)):=auz
   rw[if_neg q2]at hF
   cases hF
   repeat(first|refine chk.ga ?_|simp -dsimp[h1,q2,z3])
   refine Leave.go ⟨[(1,.lit (.int .i64 v)),(2,.ptr 0 0)],[.cells [.lit (.int .i64 p.op),.lit (.int .i64 p.ctor),.lit (.int .i64 p.n),.lit (.int .i64 p.m),.lit (.int .i64 p.var),.arr (List.map Vl.Pattern.c p.kids)]]⟩ (Gh.to3 (by simp) (by first|simp -dsimp[h1,q2,z3];done|simp_all)) ?_
   exact hq
theorem CC.f76 (v:Int):(∀(p:Vl.Pattern) (r:Bool),F.f76 p v=some r→PureCall Tryz.prog B 57 [.agg [.lit (.int .i64 p.op),.lit (.int .i64 p.ctor),.lit (.int .i64 p.n),.lit (.int .i64 p.m),.lit (.int .i64 p.var),.arr (List.map Vl.Pattern.c p.kids)],.lit (.int .i64 v)] (.lit (.bool r)))∧
  (∀(p:Vl.Pattern) (i:Nat) (o:Lo Bool Unit),F.f77 p v i=some o→∀(c:Code),navO [1,0,1,0,0] (bodyOf Tryz.f57)=some c→∀(Q:Exit→ASt→Prop),o.post (fun r=>∀st,Post Tryz.prog Tryz.f57 (fun r' _=>r'.le (.lit (.bool r))) .ret st→Q .ret st) (fun s=>Q (.exit 0) ⟨[],[]⟩)→ALoopU Tryz.prog B 0 34 (hold c .mk) ⟨[(1,.lit (.int .i64 v)),(2,.ptr 0 0),(5,.lit (.int .i64 (i:Int)))],[.cells [.lit (.int .i64 p.op),.lit (.int .i64 p.ctor),.lit (.int .i64 p.n),.lit (.int .i64 p.m),.lit (.int .i64 p.var),.arr (List.map Vl.Pattern.c p.kids)]]⟩ (hold Q .mk)):=by
 refine F.f76.mutual_partial_correctness v
  _ _
  ?_ ?_
 ·intro _f_f77 ih_f77 p r hF
  refine PureCall.enterLe Tryz.func57 (by kernel_rfl) rfl Tryz.ntmps57 (by simp) (by simp) ?_
  repeat(first|refine chk.ga ?_|simp -dsimp)
  have hF:=ob hF;obtain⟨o',ho23,hF⟩:=hF
  refine ALoop.goU _ ?_ ((ih_f77 p 0 o' ho23) _ rfl _ ?_)
  ·exact(Gh.to3 (by simp) (by simp -dsimp))
  rcases o' with r0|sx
  ·dsimp only at hF
   cases hF
   intro st h
   simpa using h
  ·dsimp only at hF
   cases hF
   repeat(first|refine chk.ga ?_|simp -dsimp)
   all_goals(try first|omega|rfl)
 ·intro _f_f76 _f_f77 ih_f76 ih_f77 p i o hF
  intro c hc Q hq
  obtain rfl:c=_:=navEq hc rfl
  refine ALoopU.know fun hk hs=> ?_
  have d0:=hs 0 _ rfl
  simp -dsimp[Blk.bnd]at d0
  clear hk hs
  refine ALoopU.enter ?_
  repeat(first|refine chk.ga ?_|simp -dsimp)
  refine abr.split (fun h1=> ?_) (fun h1=> ?_)
  ·have q2:(i<p.kids.length):=auq h1
   have z3:((i:Int)<(p.kids.length:Int)):=auz
   rw[if_pos q2]at hF
   repeat(first|refine chk.ga ?_|simp -dsimp[h1,z3])
   refine abr.split (fun h4=> ?_) (fun h4=> ?_)
   ·have q5:(p.op=5):=auq h4
    rw[if_pos q5]at hF
    have hF:=ob hF;obtain⟨x,e6,hF⟩:=hF
    have le6:=lt_of_get e6
    repeat(first|refine chk.ga ?_|simp -dsimp[h1,z3,h4,↓e6])
    have hF:=ob hF;obtain⟨v7,e8,hF⟩:=hF
    refine(((CC.f74 B hB1 hB2 v).1 x v7 e8)).goW (by first|simp[h1,z3,h4,↓e6];done|simp_all) (by simp) ?_
    repeat(first|refine chk.ga ?_|simp -dsimp[h1,z3,h4,↓e6])
    refine abr.split (fun h9=> ?_) (fun h9=> ?_)
    ·have q10:¬(v7=true):=auq h9
     rw[if_neg q10]at hF
     repeat(first|refine chk.ga ?_|simp -dsimp[h1,z3,h4,↓e6,h9,q10])
     have hF:=ob hF;obtain⟨v11,e12,hF⟩:=hF
     refine((ih_f76 x v11 e12)).goW (by first|simp[h1,z3,h4,↓e6,h9,q10];done|simp_all) (by simp) ?_
     repeat(first|refine chk.ga ?_|simp -dsimp[h1,z3,h4,↓e6,h9,q10])
     refine abr.split (fun h13=> ?_) (fun h13=> ?_)
     ·have q14:(v11=true):=auq h13
      rw[if_pos q14]at hF
      cases hF
      repeat(first|refine chk.ga ?_|simp -dsimp[h1,z3,h4,↓e6,h9,q10,h13])
      refine Leave.go _ (Gh.refl _) (hq _ ?_)
      repeat(first|refine chk.ga ?_|simp -dsimp[h1,z3,h4,↓e6,h9,q10,h13])
     ·have q14:¬(v11=true):=auq h13
      rw[if_neg q14]at hF
      have w15:IntKind.i64.wrap ((i:Int)+1)=(i:Int)+1:=wrap_in (by omega) (by omega)
      repeat(first|refine chk.ga ?_|simp -dsimp[h1,z3,h4,↓e6,h9,q10,h13,q14,w15])
      refine Again.go _ ?_ ((ih_f77 p (i+1) o hF) _ rfl _ hq)
      exact(Gh.to3 (by simp) (by first|simp -dsimp[h1,z3,h4,↓e6,h9,q10,h13,q14,w15];done|simp_all))
    ·have q10:(v7=true):=auq h9
     rw[if_pos q10]at hF
     cases hF
     repeat(first|refine chk.ga ?_|simp -dsimp[h1,z3,h4,↓e6,h9,q10])
     refine Leave.go _ (Gh.refl _) (hq _ ?_)
     repeat(first|refine chk.ga ?_|simp -dsimp[h1,z3,h4,↓e6,h9,q10])
   ·have q5:¬(p.op=5):=auq h4
    rw[if_neg q5]at hF
    have hF:=ob hF;obtain⟨x16,e17,hF⟩:=hF
    have le17:=lt_of_get e17
    repeat(first|refine chk.ga ?_|simp -dsimp[h1,z3,h4,q5,↓e17])
    have hF:=ob hF;obtain⟨v18,e19,hF⟩:=hF
    refine((ih_f76 x16 v18 e19)).goW (by first|simp[h1,z3,h4,q5,↓e17];done|simp_all) (by simp) ?_
    repeat(first|refine chk.ga ?_|simp -dsimp[h1,z3,h4,q5,↓e17])
    refine abr.split (fun h20=> ?_) (fun h20=> ?_)
    ·have q21:(v18=true):=auq h20
     rw[if_pos q21]at hF
     cases hF
     repeat(first|refine chk.ga ?_|simp -dsimp[h1,z3,h4,q5,↓e17,h20])
     refine Leave.go _ (Gh.refl _) (hq _ ?_)
     repeat(first|refine chk.ga ?_|simp -dsimp[h1,z3,h4,q5,↓e17,h20])
    ·have q21:¬(v18=true):=auq h20
     rw[if_neg q21]at hF
     have w22:IntKind.i64.wrap ((i:Int)+1)=(i:Int)+1:=wrap_in (by omega) (by omega)
     repeat(first|refine chk.ga ?_|simp -dsimp[h1,z3,h4,q5,↓e17,h20,q21,w22])
     refine Again.go _ ?_ ((ih_f77 p (i+1) o hF) _ rfl _ hq)
     exact(Gh.to3 (by simp) (by first|simp -dsimp[h1,z3,h4,q5,↓e17,h20,q21,w22];done|simp_all))
  ·have q2:¬(i<p.kids.length):=auq h1
   have z3:¬((i:Int)<(p.kids.length:Int)):=auz
   rw[if_neg q2]at hF
   cases hF
   repeat(first|refine chk.ga ?_|simp -dsimp[h1,q2,z3])
   refine Leave.go ⟨[],[]⟩ (Gh.to3 (by simp) (by first|simp -dsimp[h1,q2,z3];done|simp_all)) ?_
   exact hq
theorem CC.f78  :(∀(p:Vl.Pattern) (r:Vl.Pattern),F.f78 p=some r→PureCall Tryz.prog B 43 [.agg [.lit (.int .i64 p.op),.lit (.int .i64 p.ctor),.lit (.int .i64 p.n),.lit (.int .i64 p.m),.lit (.int .i64 p.var),.arr (List.map Vl.Pattern.c p.kids)]] (.agg [.lit (.int .i64 r.op),.lit (.int .i64 r.ctor),.lit (.int .i64 r.n),.lit (.int .i64 r.m),.lit (.int .i64 r.var),.arr (List.map Vl.Pattern.c r.kids)]))∧
  (∀(p:Vl.Pattern) (out:List Vl.Pattern) (i:Nat) (o:List Vl.Pattern),F.f79 p out i=some o→∀(c:Code),navO [1,1,1,0,1,0,0] (bodyOf Tryz.f43)=some c→∀(Q:Exit→ASt→Prop),(Q (.exit 0) ⟨[(2,.ptr 1 0),(3,.ptr 2 0)],[.dead,.cells [.lit (.int .i64 0),.lit (.int .i64 0),.lit (.int .i64 0),.lit (.int .i64 0),.lit (.int .i64 0),.lit (.slice none 0 0)],.cells [.lit (.int .i64 p.op),.lit (.int .i64 p.ctor),.lit (.int .i64 p.n),.lit (.int .i64 p.m),.lit (.int .i64 p.var),.own 3 (List.length (α:=Vl.Pattern) o)],.elems 6 (List.map Vl.Pattern.c o)]⟩)→ALoopU Tryz.prog B 0 26 (hold c .mk) ⟨[(1,.ptr 0 0),(2,.ptr 1 0),(3,.ptr 2 0),(4,.lit (.int .i64 (i:Int)))],[.cells [.lit (.int .i64 p.op),.lit (.int .i64 p.ctor),.lit (.int .i64 p.n),.lit (.int .i64 p.m),.lit (.int .i64 p.var),.arr (List.map Vl.Pattern.c p.kids)],.cells [.lit (.int .i64 0),.lit (.int .i64 0),.lit (.int .i64 0),.lit (.int .i64 0),.lit (.int .i64 0),.lit (.slice none 0 0)],.cells [.lit (.int .i64 p.op),.lit (.int .i64 p.ctor),.lit (.int .i64 p.n),.lit (.int .i64 p.m),.lit (.int .i64 p.var),.own 3 (List.length (α:=Vl.Pattern) out)],.elems 6 (List.map Vl.Pattern.c out)]⟩ (hold Q .mk)):=by
 refine F.f78.mutual_partial_correctness 
  _ _
  ?_ ?_
 ·intro _f_f79 ih_f79 p r hF
  refine PureCall.enterLe Tryz.func43 (by kernel_rfl) rfl Tryz.ntmps43 (by simp) (by simp) ?_
  repeat(first|refine chk.ga ?_|simp -dsimp)
  have hF:=ob hF;obtain⟨o',ho8,hF⟩:=hF
  refine ALoop.goU ⟨[(1,.ptr 0 0),(2,.ptr 1 0),(3,.ptr 2 0),(4,.lit (.int .i64 (0:Int)))],[.cells [.lit (.int .i64 p.op),.lit (.int .i64 p.ctor),.lit (.int .i64 p.n),.lit (.int .i64 p.m),.lit (.int .i64 p.var),.arr (List.map Vl.Pattern.c p.kids)],.cells [.lit (.int .i64 0),.lit (.int .i64 0),.lit (.int .i64 0),.lit (.int .i64 0),.lit (.int .i64 0),.lit (.slice none 0 0)],.cells [.lit (.int .i64 p.op),.lit (.int .i64 p.ctor),.lit (.int .i64 p.n),.lit (.int .i64 p.m),.lit (.int .i64 p.var),.own 3 (List.length (α:=Vl.Pattern) [])],.elems 6 (List.map Vl.Pattern.c [])]⟩ (by refine Gh.trans (Gh.nilCell 2 5 6 (by simp -dsimp;rfl) (by simp -dsimp)) ?_;exact(Gh.to3 (by simp) (by simp -dsimp))) ?_
  refine(ih_f79 p [] 0 o' ho8) _ rfl _ ?_
  cases hF
  repeat(first|refine chk.ga ?_|simp -dsimp)
  all_goals(try first|omega|rfl)
 ·intro _f_f78 _f_f79 ih_f78 ih_f79 p out i o hF
  intro c hc Q hq
  obtain rfl:c=_:=navEq hc rfl
  refine ALoopU.know fun hk hs=> ?_
  have d0:=hs 0 _ rfl
  simp -dsimp[Blk.bnd]at d0
  have d3:=hs 3 _ rfl
  simp -dsimp[Blk.bnd]at d3
  clear hk hs
  refine ALoopU.enter ?_
  repeat(first|refine chk.ga ?_|simp -dsimp)
  refine abr.split (fun h1=> ?_) (fun h1=> ?_)
  ·have q2:(i<p.kids.length):=auq h1
   have z3:((i:Int)<(p.kids.length:Int)):=auz
   rw[if_pos q2]at hF
   repeat(first|refine chk.ga ?_|simp -dsimp[h1,z3])
   refine ADraw.eff [] [(0,1),(0,1),(0,0),(0,0),(0,0),(0,0),(0,0),(0,3),(0,3),(0,3),(2,2),(0,3)] [0,2,1,1,1,1,1,1,1,1,1,1] follows (by kernel_rfl) (by kernel_rfl) (by kernel_rfl) ?_
   have hF:=ob hF;obtain⟨x,e4,hF⟩:=hF
   have le4:=lt_of_get e4
   repeat(first|refine chk.ga ?_|simp -dsimp[h1,z3,↓e4])
   have hF:=ob hF;obtain⟨v,e5,hF⟩:=hF
   refine((ih_f78 x v e5)).pgoW (by first|simp[h1,z3,↓e4];done|simp_all) (by simp) ?_
   have hF:=oc hF;obtain⟨c6,hF⟩:=hF
   have w7:IntKind.i64.wrap ((i:Int)+1)=(i:Int)+1:=wrap_in (by omega) (by omega)
   repeat(first|refine chk.ga ?_|simp -dsimp[h1,z3,↓e4,w7])
   refine Again.go _ ?_ ((ih_f79 p (out++[v]) (i+1) o hF) _ rfl _ hq)
   exact(Gh.to3 (by simp) (by first|simp -dsimp[h1,z3,↓e4,w7];done|simp_all))
  ·have q2:¬(i<p.kids.length):=auq h1
   have z3:¬((i:Int)<(p.kids.length:Int)):=auz
   rw[if_neg q2]at hF
   cases hF
   repeat(first|refine chk.ga ?_|simp -dsimp[h1,q2,z3])
   refine Leave.go ⟨[(2,.ptr 1 0),(3,.ptr 2 0)],[.dead,.cells [.lit (.int .i64 0),.lit (.int .i64 0),.lit (.int .i64 0),.lit (.int .i64 0),.lit (.int .i64 0),.lit (.slice none 0 0)],.cells [.lit (.int .i64 p.op),.lit (.int .i64 p.ctor),.lit (.int .i64 p.n),.lit (.int .i64 p.m),.lit (.int .i64 p.var),.own 3 (List.length (α:=Vl.Pattern) out)],.elems 6 (List.map Vl.Pattern.c out)]⟩ (Gh.to3 (by simp) (by first|simp -dsimp[h1,q2,z3];done|simp_all)) ?_
   exact hq
theorem C.f80 (g:Vl.Guard)(r:Int×Int)(hF:F.f80 g=some r):PureCall Tryz.prog B 113 [.agg [.lit (.int .i64 g.op),.lit (.int .i64 g.var),.lit (.int .i64 g.n)]] (.tup [.lit (.int .i64 r.1),.lit (.int .i64 r.2)]):=by
 unfold F.f80 at hF
 refine PureCall.enterLe Tryz.func113 (by kernel_rfl) rfl Tryz.ntmps113 (by simp) (by simp) ?_
 repeat(first|refine chk.ga ?_|simp -dsimp)
 refine abr.split (fun h1=> ?_) (fun h1=> ?_)
 ·have q2:(g.op=1):=auq h1
  rw[if_pos q2]at hF
  repeat(first|refine chk.ga ?_|simp -dsimp[h1])
  refine ADraw.simple follows (by kernel_rfl) (by kernel_rfl) ?_
  cases hF
  repeat(first|refine chk.ga ?_|simp -dsimp[h1])
  all_goals(try first|omega|rfl)
 ·have q2:¬(g.op=1):=auq h1
  rw[if_neg q2]at hF
  repeat(first|refine chk.ga ?_|simp -dsimp[h1,q2])
  refine ADraw.simple follows (by kernel_rfl) (by kernel_rfl) ?_
  cases hF
  repeat(first|refine chk.ga ?_|simp -dsimp[h1,q2])
  all_goals(try first|omega|rfl)
theorem CC.f81  :(∀(a:Vl.Pattern) (b:Vl.Pattern) (r:Vl.Pattern×Bool),F.f81 a b=some r→PureCall Tryz.prog B 204 [.agg [.lit (.int .i64 a.op),.lit (.int .i64 a.ctor),.lit (.int .i64 a.n),.lit (.int .i64 a.m),.lit (.int .i64 a.var),.arr (List.map Vl.Pattern.c a.kids)],.agg [.lit (.int .i64 b.op),.lit (.int .i64 b.ctor),.lit (.int .i64 b.n),.lit (.int .i64 b.m),.lit (.int .i64 b.var),.arr (List.map Vl.Pattern.c b.kids)]] (.tup [.agg [.lit (.int .i64 r.1.op),.lit (.int .i64 r.1.ctor),.lit (.int .i64 r.1.n),.lit (.int .i64 r.1.m),.lit (.int .i64 r.1.var),.arr (List.map Vl.Pattern.c r.1.kids)],.lit (.bool r.2)]))∧
  (∀(a:Vl.Pattern) (b:Vl.Pattern) (out:List Vl.Pattern) (i:Nat) (o:Lo (Vl.Pattern×Bool) (List Vl.Pattern)),F.f82 a b out i=some o→∀(c:Code),navO [1,1,1,0,1,0,0] (bodyOf Tryz.f204)=some c→∀(Q:Exit→ASt→Prop),o.post (fun r=>∀st,Post Tryz.prog Tryz.f204 (fun r' _=>r'.le (.tup [.agg [.lit (.int .i64 r.1.op),.lit (.int .i64 r.1.ctor),.lit (.int .i64 r.1.n),.lit (.int .i64 r.1.m),.lit (.int .i64 r.1.var),.arr (List.map Vl.Pattern.c r.1.kids)],.lit (.bool r.2)])) .ret st→Q .ret st) (fun s=>Q (.exit 1) ⟨[(4,.ptr 2 0),(8,.ptr 3 0)],[.dead,.dead,.cells [.lit (.int .i64 0),.lit (.int .i64 0),.lit (.int .i64 0),.lit (.int .i64 0),.lit (.int .i64 0),.lit (.slice none 0 0)],.cells [.lit (.int .i64 4),.lit (.int .i64 a.ctor),.lit (.int .i64 0),.lit (.int .i64 0),.lit (.int .i64 0),.own 4 (List.length (α:=Vl.Pattern) s)],.elems 6 (List.map Vl.Pattern.c s)]⟩)→ALoopU Tryz.prog B 0 89 (hold c .mk) ⟨[(2,.ptr 0 0),(3,.ptr 1 0),(4,.ptr 2 0),(8,.ptr 3 0),(9,.lit (.int .i64 (i:Int)))],[.cells [.lit (.int .i64 a.op),.lit (.int .i64 a.ctor),.lit (.int .i64 a.n),.lit (.int .i64 a.m),.lit (.int .i64 a.var),.arr (List.map Vl.Pattern.c a.kids)],.cells [.lit (.int .i64 b.op),.lit (.int .i64 b.ctor),.lit (.int .i64 b.n),.lit (.int .i64 b.m),.lit (.int .i64 b.var),.arr (List.map Vl.Pattern.c b.kids)],.cells [.lit (.int .i64 0),.lit (.int .i64 0),.lit (.int .i64 0),.lit (.int .i64 0),.lit (.int .i64 0),.lit (.slice none 0 0)],.cells [.lit (.int .i64 4),.lit (.int .i64 a.ctor),.lit (.int .i64 0),.lit (.int .i64 0),.lit (.int .i64 0),.own 4 (List.length (α:=Vl.Pattern) out)],.elems 6 (List.map Vl.Pattern.c out)]⟩ (hold Q .mk)):=by
 refine F.f81.mutual_partial_correctness 
  _ _
  ?_ ?_
 ·intro _f_f82 ih_f82 a b r hF
  refine PureCall.enterLe Tryz.func204 (by kernel_rfl) rfl Tryz.ntmps204 (by simp) (by simp) ?_
  repeat(first|refine chk.ga ?_|simp -dsimp)
  refine abr.split (fun h1=> ?_) (fun h1=> ?_)
  ·have q2:(a.op=1):=auq h1
   rw[if_pos q2]at hF
   cases hF
   repeat(first|refine chk.ga ?_|simp -dsimp[h1])
   all_goals(try first|omega|rfl)
  ·have q2:¬(a.op=1):=auq h1
   rw[if_neg q2]at hF
   repeat(first|refine chk.ga ?_|simp -dsimp[h1,q2])
   refine abr.split (fun h3=> ?_) (fun h3=> ?_)
   ·have q4:(b.op=1):=auq h3
    rw[if_pos q4]at hF
    cases hF
    repeat(first|refine chk.ga ?_|simp -dsimp[h1,q2,h3])
    all_goals(try first|omega|rfl)
   ·have q4:¬(b.op=1):=auq h3
    rw[if_neg q4]at hF
    repeat(first|refine chk.ga ?_|simp -dsimp[h1,q2,h3,q4])
    refine abr.split (fun h5=> ?_) (fun h5=> ?_)
    ·have q6:(a.op=3):=auq h5
     rw[if_pos q6]at hF
     repeat(first|refine chk.ga ?_|simp -dsimp[h1,q2,h3,q4,h5])
     refine abr.split (fun h7=> ?_) (fun h7=> ?_)
     ·have q8:(a.n<b.n):=auq h7
      rw[if_pos q8]at hF
      repeat(first|refine chk.ga ?_|simp -dsimp[h1,q2,h3,q4,h5,h7])
      refine abr.split (fun h9=> ?_) (fun h9=> ?_)
      ·have q10:(b.m<a.m):=auq h9
       rw[if_pos q10]at hF
       cases hF
       repeat(first|refine chk.ga ?_|simp -dsimp[h1,q2,h3,q4,h5,h7,h9])
       all_goals(try first|omega|rfl)
      ·have q10:¬(b.m<a.m):=auq h9
       rw[if_neg q10]at hF
       cases hF
       repeat(first|refine chk.ga ?_|simp -dsimp[h1,q2,h3,q4,h5,h7,h9,q10])
       all_goals(try first|omega|rfl)
     ·have q8:¬(a.n<b.n):=auq h7
      rw[if_neg q8]at hF
      repeat(first|refine chk.ga ?_|simp -dsimp[h1,q2,h3,q4,h5,h7,q8])
      refine abr.split (fun h11=> ?_) (fun h11=> ?_)
      ·have q12:(b.m<a.m):=auq h11
       rw[if_pos q12]at hF
       cases hF
       repeat(first|refine chk.ga ?_|simp -dsimp[h1,q2,h3,q4,h5,h7,q8,h11])
       all_goals(try first|omega|rfl)
      ·have q12:¬(b.m<a.m):=auq h11
       rw[if_neg q12]at hF
       cases hF
       repeat(first|refine chk.ga ?_|simp -dsimp[h1,q2,h3,q4,h5,h7,q8,h11,q12])
       all_goals(try first|omega|rfl)
    ·have q6:¬(a.op=3):=auq h5
     rw[if_neg q6]at hF
     repeat(first|refine chk.ga ?_|simp -dsimp[h1,q2,h3,q4,h5,q6])
     refine abr.split (fun h13=> ?_) (fun h13=> ?_)
     ·have q14:¬(a.ctor=b.ctor):=auq h13
      rw[if_neg q14]at hF
      cases hF
      repeat(first|refine chk.ga ?_|simp -dsimp[h1,q2,h3,q4,h5,q6,h13,q14])
      all_goals(try first|omega|rfl)
     ·have q14:(a.ctor=b.ctor):=auq h13
      rw[if_pos q14]at hF
      repeat(first|refine chk.ga ?_|simp -dsimp[h1,q2,h3,q4,h5,q6,h13,q14])
      have hF:=ob hF;obtain⟨o',ho26,hF⟩:=hF
      refine ALoop.goU ⟨[(2,.ptr 0 0),(3,.ptr 1 0),(4,.ptr 2 0),(8,.ptr 3 0),(9,.lit (.int .i64 (0:Int)))],[.cells [.lit (.int .i64 a.op),.lit (.int .i64 a.ctor),.lit (.int .i64 a.n),.lit (.int .i64 a.m),.lit (.int .i64 a.var),.arr (List.map Vl.Pattern.c a.kids)],.cells [.lit (.int .i64 b.op),.lit (.int .i64 b.ctor),.lit (.int .i64 b.n),.lit (.int .i64 b.m),.lit (.int .i64 b.var),.arr (List.map Vl.Pattern.c b.kids)],.cells [.lit (.int .i64 0),.lit (.int .i64 0),.lit (.int .i64 0),.lit (.int .i64 0),.lit (.int .i64 0),.lit (.slice none 0 0)],.cells [.lit (.int .i64 4),.lit (.int .i64 a.ctor),.lit (.int .i64 0),.lit (.int .i64 0),.lit (.int .i64 0),.own 4 (List.length (α:=Vl.Pattern) [])],.elems 6 (List.map Vl.Pattern.c [])]⟩ (by refine Gh.trans (Gh.nilCell 3 5 6 (by simp -dsimp;rfl) (by simp -dsimp)) ?_;exact(Gh.to3 (by simp) (by first|simp -dsimp[h1,q2,h3,q4,h5,q6,h13,q14];done|simp_all))) ?_
      refine(ih_f82 a b [] 0 o' ho26) _ rfl _ ?_
      rcases o' with r0|sx
      ·dsimp only at hF
       cases hF
       intro st h
       simpa using h
      ·dsimp only at hF
       cases hF
       repeat(first|refine chk.ga ?_|simp -dsimp)
       all_goals(try first|omega|rfl)
 ·intro _f_f81 _f_f82 ih_f81 ih_f82 a b out i o hF
  intro c hc Q hq
  obtain rfl:c=_:=navEq hc rfl
  refine ALoopU.know fun hk hs=> ?_
  have d0:=hs 0 _ rfl
  simp -dsimp[Blk.bnd]at d0
  have d1:=hs 1 _ rfl
  simp -dsimp[Blk.bnd]at d1
  have d4:=hs 4 _ rfl
  simp -dsimp[Blk.bnd]at d4
  clear hk hs
  refine ALoopU.enter ?_
  repeat(first|refine chk.ga ?_|simp -dsimp)
  refine abr.split (fun h15=> ?_) (fun h15=> ?_)
  ·have q16:(i<a.kids.length):=auq h15
   have z17:((i:Int)<(a.kids.length:Int)):=auz
   rw[if_pos q16]at hF
   repeat(first|refine chk.ga ?_|simp -dsimp[h15,z17])
   refine ADraw.eff [] [(0,1),(0,1),(0,1),(0,1),(0,1),(0,1),(0,1),(0,1),(0,1),(0,1),(0,2),(0,1),(0,1),(0,2),(0,2),(0,2),(2,2)] [0,2,1,0,0,0,2,1,0,0,1,1,0,0,1,1,1] follows (by kernel_rfl) (by kernel_rfl) (by kernel_rfl) ?_
   have hF:=ob hF;obtain⟨x,e18,hF⟩:=hF
   have le18:=lt_of_get e18
   have hF:=ob hF;obtain⟨x19,e20,hF⟩:=hF
   have le20:=lt_of_get e20
   repeat(first|refine chk.ga ?_|simp -dsimp[h15,z17,↓e18,↓e20])
   have hF:=ob hF;obtain⟨v,e21,hF⟩:=hF
   refine((ih_f81 x x19 v e21)).pgoW (by first|simp[h15,z17,↓e18,↓e20];done|simp_all) (by simp) ?_
   repeat(first|refine chk.ga ?_|simp -dsimp[h15,z17,↓e18,↓e20])
   refine abr.split (fun h22=> ?_) (fun h22=> ?_)
   ·have q23:¬(v.2=true):=auq h22
    rw[if_neg q23]at hF
    cases hF
    repeat(first|refine chk.ga ?_|simp -dsimp[h15,z17,↓e18,↓e20,h22,q23])
    refine Leave.go _ (Gh.refl _) (hq _ ?_)
    repeat(first|refine chk.ga ?_|simp -dsimp[h15,z17,↓e18,↓e20,h22,q23])
   ·have q23:(v.2=true):=auq h22
    rw[if_pos q23]at hF
    have hF:=oc hF;obtain⟨c24,hF⟩:=hF
    have w25:IntKind.i64.wrap ((i:Int)+1)=(i:Int)+1:=wrap_in (by omega) (by omega)
    repeat(first|refine chk.ga ?_|simp -dsimp[h15,z17,↓e18,↓e20,h22,q23,w25])
    refine Again.go _ ?_ ((ih_f82 a b (out++[v.1]) (i+1) o hF) _ rfl _ hq)
    exact(Gh.to3 (by simp) (by first|simp -dsimp[h15,z17,↓e18,↓e20,h22,q23,w25];done|simp_all))
  ·have q16:¬(i<a.kids.length):=auq h15
   have z17:¬((i:Int)<(a.kids.length:Int)):=auz
   rw[if_neg q16]at hF
   cases hF
   repeat(first|refine chk.ga ?_|simp -dsimp[h15,q16,z17])
   refine Leave.go ⟨[(4,.ptr 2 0),(8,.ptr 3 0)],[.dead,.dead,.cells [.lit (.int .i64 0),.lit (.int .i64 0),.lit (.int .i64 0),.lit (.int .i64 0),.lit (.int .i64 0),.lit (.slice none 0 0)],.cells [.lit (.int .i64 4),.lit (.int .i64 a.ctor),.lit (.int .i64 0),.lit (.int .i64 0),.lit (.int .i64 0),.own 4 (List.length (α:=Vl.Pattern) out)],.elems 6 (List.map Vl.Pattern.c out)]⟩ (Gh.to3 (by simp) (by first|simp -dsimp[h15,q16,z17];done|simp_all)) ?_
   exact hq
theorem CC.f83 (n:Int)(m:Int):(∀(p:Vl.Pattern) (r:Vl.Pattern×Bool),F.f83 p n m=some r→PureCall Tryz.prog B 165 [.agg [.lit (.int .i64 p.op),.lit (.int .i64 p.ctor),.lit (.int .i64 p.n),.lit (.int .i64 p.m),.lit (.int .i64 p.var),.arr (List.map Vl.Pattern.c p.kids)],.lit (.int .i64 n),.lit (.int .i64 m)] (.tup [.agg [.lit (.int .i64 r.1.op),.lit (.int .i64 r.1.ctor),.lit (.int .i64 r.1.n),.lit (.int .i64 r.1.m),.lit (.int .i64 r.1.var),.arr (List.map Vl.Pattern.c r.1.kids)],.lit (.bool r.2)])):=by
 refine F.f83.partial_correctness n m
  _
  ?_
 ·intro _f_f83 ih_f83 p r hF
  refine PureCall.enterLe Tryz.func165 (by kernel_rfl) rfl Tryz.ntmps165 (by simp) (by simp) ?_
  repeat(first|refine chk.ga ?_|simp -dsimp)
  refine abr.split (fun h1=> ?_) (fun h1=> ?_)
  ·have q2:(p.op=1):=auq h1
   rw[if_pos q2]at hF
   cases hF
   repeat(first|refine chk.ga ?_|simp -dsimp[h1])
   all_goals(try first|omega|rfl)
  ·have q2:¬(p.op=1):=auq h1
   rw[if_neg q2]at hF
   repeat(first|refine chk.ga ?_|simp -dsimp[h1,q2])
   refine abr.split (fun h3=> ?_) (fun h3=> ?_)
   ·have q4:(p.op=2):=auq h3
    rw[if_pos q4]at hF
    cases hF
    repeat(first|refine chk.ga ?_|simp -dsimp[h1,q2,h3])
    all_goals(try first|omega|rfl)
   ·have q4:¬(p.op=2):=auq h3
    rw[if_neg q4]at hF
    repeat(first|refine chk.ga ?_|simp -dsimp[h1,q2,h3,q4])
    refine abr.split (fun h5=> ?_) (fun h5=> ?_)
    ·have q6:(p.op=6):=auq h5
     rw[if_pos q6]at hF
     have hF:=ob hF;obtain⟨x,e7,hF⟩:=hF
     have le7:=lt_of_get e7
     repeat(first|refine chk.ga ?_|simp -dsimp[h1,q2,h3,q4,h5,↓e7])
     have hF:=ob hF;obtain⟨v,e8,hF⟩:=hF
     refine((ih_f83 x v e8)).goW (by first|simp[h1,q2,h3,q4,h5,↓e7];done|simp_all) (by simp) ?_
     cases hF
     repeat(first|refine chk.ga ?_|simp -dsimp[h1,q2,h3,q4,h5,↓e7])
     all_goals(try first|omega|rfl)
    ·have q6:¬(p.op=6):=auq h5
     rw[if_neg q6]at hF
     repeat(first|refine chk.ga ?_|simp -dsimp[h1,q2,h3,q4,h5,q6])
     refine abr.split (fun h9=> ?_) (fun h9=> ?_)
     ·have q10:(p.op=5):=auq h9
      rw[if_pos q10]at hF
      have hF:=ob hF;obtain⟨x11,e12,hF⟩:=hF
      have le12:=lt_of_get e12
      repeat(first|refine chk.ga ?_|simp -dsimp[h1,q2,h3,q4,h5,q6,h9,↓e12])
      have hF:=ob hF;obtain⟨v13,e14,hF⟩:=hF
      refine((ih_f83 x11 v13 e14)).goW (by first|simp[h1,q2,h3,q4,h5,q6,h9,↓e12];done|simp_all) (by simp) ?_
      have hF:=ob hF;obtain⟨x15,e16,hF⟩:=hF
      have le16:=lt_of_get e16
      repeat(first|refine chk.ga ?_|simp -dsimp[h1,q2,h3,q4,h5,q6,h9,↓e12,↓e16])
      have hF:=ob hF;obtain⟨v17,e18,hF⟩:=hF
      refine((ih_f83 x15 v17 e18)).goW (by first|simp[h1,q2,h3,q4,h5,q6,h9,↓e12,↓e16];done|simp_all) (by simp) ?_
      repeat(first|refine chk.ga ?_|simp -dsimp[h1,q2,h3,q4,h5,q6,h9,↓e12,↓e16])
      refine abr.split (fun h19=> ?_) (fun h19=> ?_)
      ·have q20:(v13.2=true):=auq h19
       rw[if_pos q20]at hF
       repeat(first|refine chk.ga ?_|simp -dsimp[h1,q2,h3,q4,h5,q6,h9,↓e12,↓e16,h19])
       refine abr.split (fun h21=> ?_) (fun h21=> ?_)
       ·have q22:(v17.2=true):=auq h21
        rw[if_pos q22]at hF
        cases hF
        repeat(first|refine chk.ga ?_|simp -dsimp[h1,q2,h3,q4,h5,q6,h9,↓e12,↓e16,h19,h21])
        all_goals(try first|omega|rfl)
       ·have q22:¬(v17.2=true):=auq h21
        rw[if_neg q22]at hF
        cases hF
        repeat(first|refine chk.ga ?_|simp -dsimp[h1,q2,h3,q4,h5,q6,h9,↓e12,↓e16,h19,h21,q22])
        all_goals(try first|omega|rfl)
      ·have q20:¬(v13.2=true):=auq h19
       rw[if_neg q20]at hF
       cases hF
       repeat(first|refine chk.ga ?_|simp -dsimp[h1,q2,h3,q4,h5,q6,h9,↓e12,↓e16,h19,q20])
       all_goals(try first|omega|rfl)
     ·have q10:¬(p.op=5):=auq h9
      rw[if_neg q10]at hF
      repeat(first|refine chk.ga ?_|simp -dsimp[h1,q2,h3,q4,h5,q6,h9,q10])
      have hF:=ob hF;obtain⟨v23,e24,hF⟩:=hF
      refine(((CC.f81 B hB1 hB2).1 p (⟨(3:Int),(0:Int),n,m,(0:Int),[]⟩:Vl.Pattern) v23 e24)).goW (by first|simp[h1,q2,h3,q4,h5,q6,h9,q10];done|simp_all) (by simp) ?_
      cases hF
      repeat(first|refine chk.ga ?_|simp -dsimp[h1,q2,h3,q4,h5,q6,h9,q10])
      all_goals(try first|omega|rfl)
end Go.Proofs.YtfiegdkhobmbaaaGreat
