/- The contracts: the code computes the functions (printed by gen.py). -/
import Derived.Test.YtfiegdkhobmbaaaGreatProg
import Derived.Test.YtfiegdkhobmbaaaGreatExactGuardPatternF
import Derived.Test.YtfiegdkhobmbaaaGreatExactGuardPatternC2
namespace Go.Proofs.YtfiegdkhobmbaaaGreat
open Go Go.Proofs Go.Vl
set_option linter.unusedSimpArgs false
set_option linter.unusedVariables false
set_option linter.unusedSectionVars false
set_option maxRecDepth 100000
set_option maxHeartbeats 4000000
attribute [local irreducible] ECallA NCallA aL aLg AMake MLoop AgainM LeaveM awpM aopsM MutCall BCall chk abr ACall ALoop ALoopU ADraw Again Leave PCallA PCall Post awp aops PureCall hold
variable (B : Nat) (hB1 : 67108864 ≤ B) (hB2 : B ≤ 9223372036854775807)
include hB1 hB2
theorem C.f153 (a:Vl.Ctor)(b:Vl.Ctor)(r:Bool)(hF:F.f153 a b=some r):PureCall Tryz.prog B 164 [.agg [.lit (.string a.name),.arr (List.map Vl.Ty.c a.args),.lit (.int .i64 a.index)],.agg [.lit (.string b.name),.arr (List.map Vl.Ty.c b.args),.lit (.int .i64 b.index)]] (.lit (.bool r)):=by
 unfold F.f153 at hF
 refine PureCall.enterLe Tryz.func164 (by kernel_rfl) rfl Tryz.ntmps164 (by simp) (by simp) ?_
 repeat(first|refine chk.ga ?_|simp -dsimp)
 refine abr.split (fun h1=> ?_) (fun h1=> ?_)
 ·have q2:¬(a.name.toList=b.name.toList):=auq h1
  rw[if_neg q2]at hF
  cases hF
  repeat(first|refine chk.ga ?_|simp -dsimp[h1,q2])
  all_goals(try first|omega|rfl)
 ·have q2:(a.name.toList=b.name.toList):=auq h1
  rw[if_pos q2]at hF
  repeat(first|refine chk.ga ?_|simp -dsimp[h1,q2])
  have hF:=ob hF;obtain⟨v,e3,hF⟩:=hF
  refine((C.f152 B hB1 hB2 a.args b.args v e3)).goW (by first|simp[h1,q2];done|simp_all) (by simp) ?_
  repeat(first|refine chk.ga ?_|simp -dsimp[h1,q2])
  refine abr.split (fun h4=> ?_) (fun h4=> ?_)
  ·have q5:¬(v=true):=auq h4
   rw[if_neg q5]at hF
   cases hF
   repeat(first|refine chk.ga ?_|simp -dsimp[h1,q2,h4,q5])
   all_goals(try first|omega|rfl)
  ·have q5:(v=true):=auq h4
   rw[if_pos q5]at hF
   repeat(first|refine chk.ga ?_|simp -dsimp[h1,q2,h4,q5])
   refine abr.split (fun h6=> ?_) (fun h6=> ?_)
   ·have q7:¬(a.index=b.index):=auq h6
    rw[if_neg q7]at hF
    cases hF
    repeat(first|refine chk.ga ?_|simp -dsimp[h1,q2,h4,q5,h6,q7])
    all_goals(try first|omega|rfl)
   ·have q7:(a.index=b.index):=auq h6
    rw[if_pos q7]at hF
    cases hF
    repeat(first|refine chk.ga ?_|simp -dsimp[h1,q2,h4,q5,h6,q7])
    all_goals(try first|omega|rfl)
theorem CC.f154 (a:List Vl.Ctor)(b:List Vl.Ctor):(∀(i:Nat) (o:Lo Bool Unit),F.f154 a b i=some o→∀(c:Code),navO [1,1,0,1,0,0] (bodyOf Tryz.f110)=some c→∀(Q:Exit→ASt→Prop),o.post (fun r=>∀st,Post Tryz.prog Tryz.f110 (fun r' _=>r'.le (.lit (.bool r))) .ret st→Q .ret st) (fun s=>Q (.exit 0) ⟨[],[]⟩)→ALoopU Tryz.prog B 0 27 (hold c .mk) ⟨[(0,.arr (List.map Vl.Ctor.c a)),(1,.arr (List.map Vl.Ctor.c b)),(5,.lit (.int .i64 (i:Int)))],[]⟩ (hold Q .mk)):=by
 refine F.f154.partial_correctness a b
  _
  ?_
 ·intro _f_f154 ih_f154 i o hF
  intro c hc Q hq
  obtain rfl:c=_:=navEq hc rfl
  refine ALoopU.know fun hk hs=> ?_
  have b0:=hk 0
  simp -dsimp at b0
  have b1:=hk 1
  simp -dsimp at b1
  clear hk hs
  refine ALoopU.enter ?_
  repeat(first|refine chk.ga ?_|simp -dsimp)
  refine abr.split (fun h4=> ?_) (fun h4=> ?_)
  ·have q5:(i<a.length):=auq h4
   have z6:((i:Int)<(a.length:Int)):=auz
   rw[if_pos q5]at hF
   repeat(first|refine chk.ga ?_|simp -dsimp[h4,z6])
   refine ADraw.simple follows (by kernel_rfl) (by kernel_rfl) ?_
   have hF:=ob hF;obtain⟨x,e7,hF⟩:=hF
   have le7:=lt_of_get e7
   have hF:=ob hF;obtain⟨x8,e9,hF⟩:=hF
   have le9:=lt_of_get e9
   repeat(first|refine chk.ga ?_|simp -dsimp[h4,z6,↓e7,↓e9])
   have hF:=ob hF;obtain⟨v,e10,hF⟩:=hF
   refine((C.f153 B hB1 hB2 x x8 v e10)).pgoW (by first|simp[h4,z6,↓e7,↓e9];done|simp_all) (by simp) ?_
   repeat(first|refine chk.ga ?_|simp -dsimp[h4,z6,↓e7,↓e9])
   refine abr.split (fun h11=> ?_) (fun h11=> ?_)
   ·have q12:¬(v=true):=auq h11
    rw[if_neg q12]at hF
    cases hF
    repeat(first|refine chk.ga ?_|simp -dsimp[h4,z6,↓e7,↓e9,h11,q12])
    refine Leave.go _ (Gh.refl _) (hq _ ?_)
    repeat(first|refine chk.ga ?_|simp -dsimp[h4,z6,↓e7,↓e9,h11,q12])
   ·have q12:(v=true):=auq h11
    rw[if_pos q12]at hF
    have w13:IntKind.i64.wrap ((i:Int)+1)=(i:Int)+1:=wrap_in (by omega) (by omega)
    repeat(first|refine chk.ga ?_|simp -dsimp[h4,z6,↓e7,↓e9,h11,q12,w13])
    refine Again.go _ ?_ ((ih_f154 (i+1) o hF) _ rfl _ hq)
    exact(Gh.to3 (by simp) (by first|simp -dsimp[h4,z6,↓e7,↓e9,h11,q12,w13];done|simp_all))
  ·have q5:¬(i<a.length):=auq h4
   have z6:¬((i:Int)<(a.length:Int)):=auz
   rw[if_neg q5]at hF
   cases hF
   repeat(first|refine chk.ga ?_|simp -dsimp[h4,q5,z6])
   refine Leave.go ⟨[],[]⟩ (Gh.to3 (by simp) (by first|simp -dsimp[h4,q5,z6];done|simp_all)) ?_
   exact hq
theorem C.f155 (a:List Vl.Ctor)(b:List Vl.Ctor)(r:Bool)(hF:F.f155 a b=some r):PureCall Tryz.prog B 110 [.arr (List.map Vl.Ctor.c a),.arr (List.map Vl.Ctor.c b)] (.lit (.bool r)):=by
 unfold F.f155 at hF
 refine PureCall.enterLe Tryz.func110 (by kernel_rfl) rfl Tryz.ntmps110 (by simp) (by simp) ?_
 repeat(first|refine chk.ga ?_|simp -dsimp)
 refine abr.split (fun h1=> ?_) (fun h1=> ?_)
 ·have q2:¬(a.length=b.length):=auq h1
  have z3:¬((a.length:Int)=(b.length:Int)):=auz
  rw[if_neg q2]at hF
  cases hF
  repeat(first|refine chk.ga ?_|simp -dsimp[h1,q2,z3])
  all_goals(try first|omega|rfl)
 ·have q2:(a.length=b.length):=auq h1
  have z3:((a.length:Int)=(b.length:Int)):=auz
  rw[if_pos q2]at hF
  repeat(first|refine chk.ga ?_|simp -dsimp[h1,q2,z3])
  have hF:=ob hF;obtain⟨o',ho14,hF⟩:=hF
  refine ALoop.goU _ ?_ (((CC.f154 B hB1 hB2 a b) 0 o' ho14) _ rfl _ ?_)
  ·exact(Gh.to3 (by simp) (by first|simp -dsimp[h1,q2,z3];done|simp_all))
  rcases o' with r0|sx
  ·dsimp only at hF
   cases hF
   intro st h
   simpa using h
  ·dsimp only at hF
   cases hF
   repeat(first|refine chk.ga ?_|simp -dsimp)
   all_goals(try first|omega|rfl)
theorem C.f156 (a:Vl.Data)(b:Vl.Data)(r:Bool)(hF:F.f156 a b=some r):PureCall Tryz.prog B 51 [.agg [.lit (.string a.name),.arr (List.map Vl.Ctor.c a.ctors)],.agg [.lit (.string b.name),.arr (List.map Vl.Ctor.c b.ctors)]] (.lit (.bool r)):=by
 unfold F.f156 at hF
 refine PureCall.enterLe Tryz.func51 (by kernel_rfl) rfl Tryz.ntmps51 (by simp) (by simp) ?_
 repeat(first|refine chk.ga ?_|simp -dsimp)
 refine abr.split (fun h1=> ?_) (fun h1=> ?_)
 ·have q2:¬(a.name.toList=b.name.toList):=auq h1
  rw[if_neg q2]at hF
  cases hF
  repeat(first|refine chk.ga ?_|simp -dsimp[h1,q2])
  all_goals(try first|omega|rfl)
 ·have q2:(a.name.toList=b.name.toList):=auq h1
  rw[if_pos q2]at hF
  repeat(first|refine chk.ga ?_|simp -dsimp[h1,q2])
  have hF:=ob hF;obtain⟨v,e3,hF⟩:=hF
  refine((C.f155 B hB1 hB2 a.ctors b.ctors v e3)).goW (by first|simp[h1,q2];done|simp_all) (by simp) ?_
  repeat(first|refine chk.ga ?_|simp -dsimp[h1,q2])
  refine abr.split (fun h4=> ?_) (fun h4=> ?_)
  ·have q5:¬(v=true):=auq h4
   rw[if_neg q5]at hF
   cases hF
   repeat(first|refine chk.ga ?_|simp -dsimp[h1,q2,h4,q5])
   all_goals(try first|omega|rfl)
  ·have q5:(v=true):=auq h4
   rw[if_pos q5]at hF
   cases hF
   repeat(first|refine chk.ga ?_|simp -dsimp[h1,q2,h4,q5])
   all_goals(try first|omega|rfl)
theorem CC.f157 (a:List Vl.Data)(b:List Vl.Data):(∀(i:Nat) (o:Lo Bool Unit),F.f157 a b i=some o→∀(c:Code),navO [1,1,0,1,0,0] (bodyOf Tryz.f15)=some c→∀(Q:Exit→ASt→Prop),o.post (fun r=>∀st,Post Tryz.prog Tryz.f15 (fun r' _=>r'.le (.lit (.bool r))) .ret st→Q .ret st) (fun s=>Q (.exit 0) ⟨[],[]⟩)→ALoopU Tryz.prog B 0 27 (hold c .mk) ⟨[(0,.arr (List.map Vl.Data.c a)),(1,.arr (List.map Vl.Data.c b)),(5,.lit (.int .i64 (i:Int)))],[]⟩ (hold Q .mk)):=by
 refine F.f157.partial_correctness a b
  _
  ?_
 ·intro _f_f157 ih_f157 i o hF
  intro c hc Q hq
  obtain rfl:c=_:=navEq hc rfl
  refine ALoopU.know fun hk hs=> ?_
  have b0:=hk 0
  simp -dsimp at b0
  have b1:=hk 1
  simp -dsimp at b1
  clear hk hs
  refine ALoopU.enter ?_
  repeat(first|refine chk.ga ?_|simp -dsimp)
  refine abr.split (fun h4=> ?_) (fun h4=> ?_)
  ·have q5:(i<a.length):=auq h4
   have z6:((i:Int)<(a.length:Int)):=auz
   rw[if_pos q5]at hF
   repeat(first|refine chk.ga ?_|simp -dsimp[h4,z6])
   refine ADraw.simple follows (by kernel_rfl) (by kernel_rfl) ?_
   have hF:=ob hF;obtain⟨x,e7,hF⟩:=hF
   have le7:=lt_of_get e7
   have hF:=ob hF;obtain⟨x8,e9,hF⟩:=hF
   have le9:=lt_of_get e9
   repeat(first|refine chk.ga ?_|simp -dsimp[h4,z6,↓e7,↓e9])
   have hF:=ob hF;obtain⟨v,e10,hF⟩:=hF
   refine((C.f156 B hB1 hB2 x x8 v e10)).pgoW (by first|simp[h4,z6,↓e7,↓e9];done|simp_all) (by simp) ?_
   repeat(first|refine chk.ga ?_|simp -dsimp[h4,z6,↓e7,↓e9])
   refine abr.split (fun h11=> ?_) (fun h11=> ?_)
   ·have q12:¬(v=true):=auq h11
    rw[if_neg q12]at hF
    cases hF
    repeat(first|refine chk.ga ?_|simp -dsimp[h4,z6,↓e7,↓e9,h11,q12])
    refine Leave.go _ (Gh.refl _) (hq _ ?_)
    repeat(first|refine chk.ga ?_|simp -dsimp[h4,z6,↓e7,↓e9,h11,q12])
   ·have q12:(v=true):=auq h11
    rw[if_pos q12]at hF
    have w13:IntKind.i64.wrap ((i:Int)+1)=(i:Int)+1:=wrap_in (by omega) (by omega)
    repeat(first|refine chk.ga ?_|simp -dsimp[h4,z6,↓e7,↓e9,h11,q12,w13])
    refine Again.go _ ?_ ((ih_f157 (i+1) o hF) _ rfl _ hq)
    exact(Gh.to3 (by simp) (by first|simp -dsimp[h4,z6,↓e7,↓e9,h11,q12,w13];done|simp_all))
  ·have q5:¬(i<a.length):=auq h4
   have z6:¬((i:Int)<(a.length:Int)):=auz
   rw[if_neg q5]at hF
   cases hF
   repeat(first|refine chk.ga ?_|simp -dsimp[h4,q5,z6])
   refine Leave.go ⟨[],[]⟩ (Gh.to3 (by simp) (by first|simp -dsimp[h4,q5,z6];done|simp_all)) ?_
   exact hq
theorem C.f158 (a:List Vl.Data)(b:List Vl.Data)(r:Bool)(hF:F.f158 a b=some r):PureCall Tryz.prog B 15 [.arr (List.map Vl.Data.c a),.arr (List.map Vl.Data.c b)] (.lit (.bool r)):=by
 unfold F.f158 at hF
 refine PureCall.enterLe Tryz.func15 (by kernel_rfl) rfl Tryz.ntmps15 (by simp) (by simp) ?_
 repeat(first|refine chk.ga ?_|simp -dsimp)
 refine abr.split (fun h1=> ?_) (fun h1=> ?_)
 ·have q2:¬(a.length=b.length):=auq h1
  have z3:¬((a.length:Int)=(b.length:Int)):=auz
  rw[if_neg q2]at hF
  cases hF
  repeat(first|refine chk.ga ?_|simp -dsimp[h1,q2,z3])
  all_goals(try first|omega|rfl)
 ·have q2:(a.length=b.length):=auq h1
  have z3:((a.length:Int)=(b.length:Int)):=auz
  rw[if_pos q2]at hF
  repeat(first|refine chk.ga ?_|simp -dsimp[h1,q2,z3])
  have hF:=ob hF;obtain⟨o',ho14,hF⟩:=hF
  refine ALoop.goU _ ?_ (((CC.f157 B hB1 hB2 a b) 0 o' ho14) _ rfl _ ?_)
  ·exact(Gh.to3 (by simp) (by first|simp -dsimp[h1,q2,z3];done|simp_all))
  rcases o' with r0|sx
  ·dsimp only at hF
   cases hF
   intro st h
   simpa using h
  ·dsimp only at hF
   cases hF
   repeat(first|refine chk.ga ?_|simp -dsimp)
   all_goals(try first|omega|rfl)
theorem CC.f159  :(∀(a:List Vl.Pattern) (k:Int) (r:Int),F.f159 a k=some r→PureCall Tryz.prog B 55 [.arr (List.map Vl.Pattern.c a),.lit (.int .i64 k)] (.lit (.int .i64 r)))∧
  (∀(a:List Vl.Pattern) (k1:Int) (i:Nat) (o:Lo Int Int),F.f160 a k1 i=some o→∀(c:Code),navO [1,0,1,0,0] (bodyOf Tryz.f55)=some c→∀(Q:Exit→ASt→Prop),o.post (fun r=>∀st,Post Tryz.prog Tryz.f55 (fun r' _=>r'.le (.lit (.int .i64 r))) .ret st→Q .ret st) (fun s=>Q (.exit 0) ⟨[(1,.lit (.int .i64 s))],[]⟩)→ALoopU Tryz.prog B 0 67 (hold c .mk) ⟨[(0,.arr (List.map Vl.Pattern.c a)),(1,.lit (.int .i64 k1)),(5,.lit (.int .i64 (i:Int)))],[]⟩ (hold Q .mk)):=by
 refine F.f159.mutual_partial_correctness 
  _ _
  ?_ ?_
 ·intro _f_f160 ih_f160 a k r hF
  refine PureCall.enterLe Tryz.func55 (by kernel_rfl) rfl Tryz.ntmps55 (by simp) (by simp) ?_
  repeat(first|refine chk.ga ?_|simp -dsimp)
  have hF:=ob hF;obtain⟨o',ho20,hF⟩:=hF
  refine ALoop.goU _ ?_ ((ih_f160 a k 0 o' ho20) _ rfl _ ?_)
  ·exact(Gh.to3 (by simp) (by simp -dsimp))
  rcases o' with r0|sx
  ·dsimp only at hF
   cases hF
   intro st h
   simpa using h
  ·dsimp only at hF
   cases hF
   repeat(first|refine chk.ga ?_|simp -dsimp)
   all_goals(try first|omega|rfl)
 ·intro _f_f159 _f_f160 ih_f159 ih_f160 a k1 i o hF
  intro c hc Q hq
  obtain rfl:c=_:=navEq hc rfl
  refine ALoopU.know fun hk hs=> ?_
  have b0:=hk 0
  simp -dsimp at b0
  clear hk hs
  refine ALoopU.enter ?_
  repeat(first|refine chk.ga ?_|simp -dsimp)
  refine abr.split (fun h2=> ?_) (fun h2=> ?_)
  ·have q3:(i<a.length):=auq h2
   have z4:((i:Int)<(a.length:Int)):=auz
   rw[if_pos q3]at hF
   have hF:=ob hF;obtain⟨x,e5,hF⟩:=hF
   have le5:=lt_of_get e5
   repeat(first|refine chk.ga ?_|simp -dsimp[h2,z4,↓e5])
   refine abr.split (fun h6=> ?_) (fun h6=> ?_)
   ·have q7:¬(x.op=k1):=auq h6
    rw[if_neg q7]at hF
    cases hF
    repeat(first|refine chk.ga ?_|simp -dsimp[h2,z4,↓e5,h6,q7])
    refine Leave.go _ (Gh.refl _) (hq _ ?_)
    repeat(first|refine chk.ga ?_|simp -dsimp[h2,z4,↓e5,h6,q7])
   ·have q7:(x.op=k1):=auq h6
    rw[if_pos q7]at hF
    repeat(first|refine chk.ga ?_|simp -dsimp[h2,z4,↓e5,h6,q7])
    refine abr.split (fun h8=> ?_) (fun h8=> ?_)
    ·have q9:¬(x.ctor=IntKind.i64.wrap (k1+1)):=auq h8
     rw[if_neg q9]at hF
     cases hF
     repeat(first|refine chk.ga ?_|simp -dsimp[h2,z4,↓e5,h6,q7,h8,q9])
     refine Leave.go _ (Gh.refl _) (hq _ ?_)
     repeat(first|refine chk.ga ?_|simp -dsimp[h2,z4,↓e5,h6,q7,h8,q9])
    ·have q9:(x.ctor=IntKind.i64.wrap (k1+1)):=auq h8
     rw[if_pos q9]at hF
     repeat(first|refine chk.ga ?_|simp -dsimp[h2,z4,↓e5,h6,q7,h8,q9])
     refine abr.split (fun h10=> ?_) (fun h10=> ?_)
     ·have q11:¬(x.n=IntKind.i64.wrap (IntKind.i64.wrap (k1+1)+1)):=auq h10
      rw[if_neg q11]at hF
      cases hF
      repeat(first|refine chk.ga ?_|simp -dsimp[h2,z4,↓e5,h6,q7,h8,q9,h10,q11])
      refine Leave.go _ (Gh.refl _) (hq _ ?_)
      repeat(first|refine chk.ga ?_|simp -dsimp[h2,z4,↓e5,h6,q7,h8,q9,h10,q11])
     ·have q11:(x.n=IntKind.i64.wrap (IntKind.i64.wrap (k1+1)+1)):=auq h10
      rw[if_pos q11]at hF
      repeat(first|refine chk.ga ?_|simp -dsimp[h2,z4,↓e5,h6,q7,h8,q9,h10,q11])
      refine abr.split (fun h12=> ?_) (fun h12=> ?_)
      ·have q13:¬(x.m=IntKind.i64.wrap (IntKind.i64.wrap (IntKind.i64.wrap (k1+1)+1)+1)):=auq h12
       rw[if_neg q13]at hF
       cases hF
       repeat(first|refine chk.ga ?_|simp -dsimp[h2,z4,↓e5,h6,q7,h8,q9,h10,q11,h12,q13])
       refine Leave.go _ (Gh.refl _) (hq _ ?_)
       repeat(first|refine chk.ga ?_|simp -dsimp[h2,z4,↓e5,h6,q7,h8,q9,h10,q11,h12,q13])
      ·have q13:(x.m=IntKind.i64.wrap (IntKind.i64.wrap (IntKind.i64.wrap (k1+1)+1)+1)):=auq h12
       rw[if_pos q13]at hF
       repeat(first|refine chk.ga ?_|simp -dsimp[h2,z4,↓e5,h6,q7,h8,q9,h10,q11,h12,q13])
       refine abr.split (fun h14=> ?_) (fun h14=> ?_)
       ·have q15:¬(x.var=IntKind.i64.wrap (IntKind.i64.wrap (IntKind.i64.wrap (IntKind.i64.wrap (k1+1)+1)+1)+1)):=auq h14
        rw[if_neg q15]at hF
        cases hF
        repeat(first|refine chk.ga ?_|simp -dsimp[h2,z4,↓e5,h6,q7,h8,q9,h10,q11,h12,q13,h14,q15])
        refine Leave.go _ (Gh.refl _) (hq _ ?_)
        repeat(first|refine chk.ga ?_|simp -dsimp[h2,z4,↓e5,h6,q7,h8,q9,h10,q11,h12,q13,h14,q15])
       ·have q15:(x.var=IntKind.i64.wrap (IntKind.i64.wrap (IntKind.i64.wrap (IntKind.i64.wrap (k1+1)+1)+1)+1)):=auq h14
        rw[if_pos q15]at hF
        repeat(first|refine chk.ga ?_|simp -dsimp[h2,z4,↓e5,h6,q7,h8,q9,h10,q11,h12,q13,h14,q15])
        have hF:=ob hF;obtain⟨v,e16,hF⟩:=hF
        refine((ih_f159 x.kids (IntKind.i64.wrap (IntKind.i64.wrap (IntKind.i64.wrap (IntKind.i64.wrap (IntKind.i64.wrap (k1+1)+1)+1)+1)+1)) v e16)).goW (by first|simp[h2,z4,↓e5,h6,q7,h8,q9,h10,q11,h12,q13,h14,q15];done|simp_all) (by simp) ?_
        repeat(first|refine chk.ga ?_|simp -dsimp[h2,z4,↓e5,h6,q7,h8,q9,h10,q11,h12,q13,h14,q15])
        refine abr.split (fun h17=> ?_) (fun h17=> ?_)
        ·have q18:(v<0):=auq h17
         rw[if_pos q18]at hF
         cases hF
         repeat(first|refine chk.ga ?_|simp -dsimp[h2,z4,↓e5,h6,q7,h8,q9,h10,q11,h12,q13,h14,q15,h17])
         refine Leave.go _ (Gh.refl _) (hq _ ?_)
         repeat(first|refine chk.ga ?_|simp -dsimp[h2,z4,↓e5,h6,q7,h8,q9,h10,q11,h12,q13,h14,q15,h17])
        ·have q18:¬(v<0):=auq h17
         rw[if_neg q18]at hF
         have w19:IntKind.i64.wrap ((i:Int)+1)=(i:Int)+1:=wrap_in (by omega) (by omega)
         repeat(first|refine chk.ga ?_|simp -dsimp[h2,z4,↓e5,h6,q7,h8,q9,h10,q11,h12,q13,h14,q15,h17,q18,w19])
         refine Again.go _ ?_ ((ih_f160 a v (i+1) o hF) _ rfl _ hq)
         exact(Gh.to3 (by simp) (by first|simp -dsimp[h2,z4,↓e5,h6,q7,h8,q9,h10,q11,h12,q13,h14,q15,h17,q18,w19];done|simp_all))
  ·have q3:¬(i<a.length):=auq h2
   have z4:¬((i:Int)<(a.length:Int)):=auz
   rw[if_neg q3]at hF
   cases hF
   repeat(first|refine chk.ga ?_|simp -dsimp[h2,q3,z4])
   refine Leave.go ⟨[(1,.lit (.int .i64 k1))],[]⟩ (Gh.to3 (by simp) (by first|simp -dsimp[h2,q3,z4];done|simp_all)) ?_
   exact hq
theorem C.f161 (a:Vl.Pattern)(k:Int)(r:Int)(hF:F.f161 a k=some r):PureCall Tryz.prog B 18 [.agg [.lit (.int .i64 a.op),.lit (.int .i64 a.ctor),.lit (.int .i64 a.n),.lit (.int .i64 a.m),.lit (.int .i64 a.var),.arr (List.map Vl.Pattern.c a.kids)],.lit (.int .i64 k)] (.lit (.int .i64 r)):=by
 unfold F.f161 at hF
 refine PureCall.enterLe Tryz.func18 (by kernel_rfl) rfl Tryz.ntmps18 (by simp) (by simp) ?_
 repeat(first|refine chk.ga ?_|simp -dsimp)
 have hF:=ob hF;obtain⟨v,e1,hF⟩:=hF
 refine(((CC.f159 B hB1 hB2).1 a.kids k v e1)).goW (by simp) (by simp) ?_
 repeat(first|refine chk.ga ?_|simp -dsimp)
 refine abr.split (fun h2=> ?_) (fun h2=> ?_)
 ·have q3:(v<0):=auq h2
  rw[if_pos q3]at hF
  cases hF
  repeat(first|refine chk.ga ?_|simp -dsimp[h2])
  all_goals(try first|omega|rfl)
 ·have q3:¬(v<0):=auq h2
  rw[if_neg q3]at hF
  cases hF
  repeat(first|refine chk.ga ?_|simp -dsimp[h2,q3])
  all_goals(try first|omega|rfl)
theorem C.f162 (a:Vl.Clause)(k:Int)(r:Int)(hF:F.f162 a k=some r):PureCall Tryz.prog B 25 [.agg [.lit (.int .i64 a.pat.op),.lit (.int .i64 a.pat.ctor),.lit (.int .i64 a.pat.n),.lit (.int .i64 a.pat.m),.lit (.int .i64 a.pat.var),.arr (List.map Vl.Pattern.c a.pat.kids),.lit (.int .i64 a.guard.op),.lit (.int .i64 a.guard.var),.lit (.int .i64 a.guard.n)],.lit (.int .i64 k)] (.lit (.int .i64 r)):=by
 unfold F.f162 at hF
 refine PureCall.enterLe Tryz.func25 (by kernel_rfl) rfl Tryz.ntmps25 (by simp) (by simp) ?_
 repeat(first|refine chk.ga ?_|simp -dsimp)
 have hF:=ob hF;obtain⟨v,e1,hF⟩:=hF
 refine((C.f161 B hB1 hB2 a.pat k v e1)).goW (by simp) (by simp) ?_
 repeat(first|refine chk.ga ?_|simp -dsimp)
 refine abr.split (fun h2=> ?_) (fun h2=> ?_)
 ·have q3:(v<0):=auq h2
  rw[if_pos q3]at hF
  cases hF
  repeat(first|refine chk.ga ?_|simp -dsimp[h2])
  all_goals(try first|omega|rfl)
 ·have q3:¬(v<0):=auq h2
  rw[if_neg q3]at hF
  cases hF
  repeat(first|refine chk.ga ?_|simp -dsimp[h2,q3])
  all_goals(try first|omega|rfl)
theorem CM.laws_markPatternS :∀m:Nat,(∀(a:List Vl.Pattern) (k:Int),SizeOf.sizeOf a<m→MCall Tryz.prog B 54 (List.map Vl.Pattern.c a) [.int .i64 k] (List.map Vl.Pattern.c (Vl.Pattern.mkL a k).1) (.int .i64 (Vl.Pattern.mkL a k).2)):=by
 intro m
 induction m with
 |zero=>exact fun a k h=>absurd h (Nat.not_lt_zero _)
 |succ m ih=>
  intro a0 k0 hm
  have hz0:∀x,x∈a0→SizeOf.sizeOf x<m:=fun x hx=>by have:=List.sizeOf_lt_of_mem hx;omega
  have loop:∀(rest D:List Vl.Pattern) (k:Int) (i n:Nat) (rows:List (List AV)) (us:List Go.Value),(∀x,x∈rest→SizeOf.sizeOf x<m)→i=D.length→n=i+rest.length→RW 6 n rows us→
    ∀(c:Code),navO [1,0,1,0,0] (bodyOf Tryz.f54)=some c→∀(Q:Exit→ASt→Prop),
    (∀(R:List (List AV)) (U:List Go.Value),RW 6 n R U→Q (.exit 0) ⟨[(1,.lit (.int .i64 (Vl.Pattern.mkL rest k).2))],[.elems 6 R,.pack (List.flatten (List.map Vl.Pattern.c (D++(Vl.Pattern.mkL rest k).1))) U]⟩)→
    ALoopU Tryz.prog B 2 55 (hold c .mk) ⟨[(0,.own 0 n),(1,.lit (.int .i64 k)),(5,.lit (.int .i64 (i:Int)))],[.elems 6 rows,.pack (List.flatten (List.map Vl.Pattern.c (D++rest))) us]⟩ (hold Q .mk):=by
   intro rest
   induction rest with
   |nil=>
    intro D k i n rows us hz hi hn H c hc Q hq
    obtain rfl:c=_:=navEq hc rfl
    have hn':n=i:=by simpa using hn
    subst hn'
    refine ALoopU.enter ?_
    repeat(first|refine chk.ga ?_|simp -dsimp[RW.len H])
    refine Leave.go ⟨[(1,.lit (.int .i64 k))],[.elems 6 rows,.pack (List.flatten (List.map Vl.Pattern.c D)) us]⟩ (Gh.to3 (by simp) (by simp -dsimp[RW.closed H])) ?_
    simpa[Vl.Pattern.mkL]using hq rows us H
   |cons x r ihr=>
    intro D k i n rows us hz hi hn H c hc Q hq
    refine ALoopU.opnAt1 1 (List.flatten (List.map Vl.Pattern.c D)) (Vl.Pattern.c x) (List.flatten (List.map Vl.Pattern.c r)) rfl (by simp) (by simp) ?_
    intro h1 vs UA UC o_h1 hlt hU hlA
    have hv:vs=[.int .i64 x.op,.int .i64 x.ctor,.int .i64 x.n,.int .i64 x.m,.int .i64 x.var,h1]:=by apply lits_inj;rw[←hlt];simp
    subst hv hU
    have hUA:UA.length=i*6:=by rw[hlA,flatc_len Vl.Pattern.c_len,hi]
    have hin:i<n:=by simp at hn;omega
    have hrow:rows[i]? =some [.lit (.int .i64 x.op),.lit (.int .i64 x.ctor),.lit (.int .i64 x.n),.lit (.int .i64 x.m),.lit (.int .i64 x.var),.lit h1]:=by simpa using H.at hin rfl hUA rfl
    have hne:¬rows=[]:=by intro e;rw[e]at hrow;simp at hrow
    have hrl:=RW.len H
    have hrow':∀(h:i<rows.length),rows[i]=[.lit (.int .i64 x.op),.lit (.int .i64 x.ctor),.lit (.int .i64 x.n),.lit (.int .i64 x.m),.lit (.int .i64 x.var),.lit h1]:=fun h=>by rw[List.getElem?_eq_getElem h]at hrow;exact Option.some.inj hrow
    have hset:∀a,(rows.set i a)[i]? =some a:=fun a=>List.getElem?_set_self (by omega)
    clear hlt
    refine ALoopU.know fun hk hs=> ?_
    have d0:=hs 0 _ rfl
    simp -dsimp[Blk.bnd]at d0
    clear hk hs
    obtain rfl:c=_:=navEq hc rfl
    have w1:IntKind.i64.wrap ((i:Int)+1)=(i:Int)+1:=wrap_in (by omega) (by omega)
    refine ALoopU.enter ?_
    repeat(first|refine chk.ga ?_|simp -dsimp[hne,hrow,hrow',hset,hrl,hin,w1,List.set_set,o_h1])
    have sz0:SizeOf.sizeOf x.kids<m:=by have h0:=hz x (by simp);cases x;simp at h0 ⊢;omega
    refine(ih x.kids (IntKind.i64.wrap ((IntKind.i64.wrap ((IntKind.i64.wrap ((IntKind.i64.wrap ((IntKind.i64.wrap (k+1))+1))+1))+1))+1)) sz0).go 2 rfl (by simp) ?_
    repeat(first|refine chk.ga ?_|simp -dsimp[hne,hrow,hrow',hset,hrl,hin,w1,List.set_set,o_h1])
    refine Again.go ⟨[(0,.own 0 n),(1,.lit (.int .i64 ((Vl.Pattern.mkL x.kids (IntKind.i64.wrap ((IntKind.i64.wrap ((IntKind.i64.wrap ((IntKind.i64.wrap ((IntKind.i64.wrap (k+1))+1))+1))+1))+1))).2))),(5,.lit (.int .i64 ((i+1:Nat):Int)))],[.elems 6 (rows.set i [.lit (.int .i64 k),.lit (.int .i64 (IntKind.i64.wrap (k+1))),.lit (.int .i64 (IntKind.i64.wrap ((IntKind.i64.wrap (k+1))+1))),.lit (.int .i64 (IntKind.i64.wrap ((IntKind.i64.wrap ((IntKind.i64.wrap (k+1))+1))+1))),.lit (.int .i64 (IntKind.i64.wrap ((IntKind.i64.wrap ((IntKind.i64.wrap ((IntKind.i64.wrap (k+1))+1))+1))+1))),.lit h1]),.pack (List.flatten (List.map Vl.Pattern.c ((D++[(⟨k,IntKind.i64.wrap (k+1),IntKind.i64.wrap ((IntKind.i64.wrap (k+1))+1),IntKind.i64.wrap ((IntKind.i64.wrap ((IntKind.i64.wrap (k+1))+1))+1),IntKind.i64.wrap ((IntKind.i64.wrap ((IntKind.i64.wrap ((IntKind.i64.wrap (k+1))+1))+1))+1),(Vl.Pattern.mkL x.kids (IntKind.i64.wrap ((IntKind.i64.wrap ((IntKind.i64.wrap ((IntKind.i64.wrap ((IntKind.i64.wrap (k+1))+1))+1))+1))+1))).1⟩:Vl.Pattern)])++r))) (UA++([.int .i64 k,.int .i64 (IntKind.i64.wrap (k+1)),.int .i64 (IntKind.i64.wrap ((IntKind.i64.wrap (k+1))+1)),.int .i64 (IntKind.i64.wrap ((IntKind.i64.wrap ((IntKind.i64.wrap (k+1))+1))+1)),.int .i64 (IntKind.i64.wrap ((IntKind.i64.wrap ((IntKind.i64.wrap ((IntKind.i64.wrap (k+1))+1))+1))+1)),h1]++UC))]⟩
     (by refine Gh.trans (Gh.setAt 1 [2] (XA:=List.flatten (List.map Vl.Pattern.c D)) (old:=[.lit (.int .i64 x.op),.lit (.int .i64 x.ctor),.lit (.int .i64 x.n),.lit (.int .i64 x.m),.lit (.int .i64 x.var),.lit h1]) (XC:=List.flatten (List.map Vl.Pattern.c r)) (UA:=UA) (uo:=[.int .i64 x.op,.int .i64 x.ctor,.int .i64 x.n,.int .i64 x.m,.int .i64 x.var,h1]) (UC:=UC) (by exact rfl) (by simp) (by simp) hlA rfl (.lit (.int .i64 k) (.lit (.int .i64 (IntKind.i64.wrap (k+1))) (.lit (.int .i64 (IntKind.i64.wrap ((IntKind.i64.wrap (k+1))+1))) (.lit (.int .i64 (IntKind.i64.wrap ((IntKind.i64.wrap ((IntKind.i64.wrap (k+1))+1))+1))) (.lit (.int .i64 (IntKind.i64.wrap ((IntKind.i64.wrap ((IntKind.i64.wrap ((IntKind.i64.wrap (k+1))+1))+1))+1))) (.pk 2 (by exact rfl) .nil)))))) (by decide)) ?_;exact Gh.to3 (by simp) (by simp -dsimp[RW.closed H])) ?_
    have he:Vl.Pattern.mkL (x::r) k=((⟨k,IntKind.i64.wrap (k+1),IntKind.i64.wrap ((IntKind.i64.wrap (k+1))+1),IntKind.i64.wrap ((IntKind.i64.wrap ((IntKind.i64.wrap (k+1))+1))+1),IntKind.i64.wrap ((IntKind.i64.wrap ((IntKind.i64.wrap ((IntKind.i64.wrap (k+1))+1))+1))+1),(Vl.Pattern.mkL x.kids (IntKind.i64.wrap ((IntKind.i64.wrap ((IntKind.i64.wrap ((IntKind.i64.wrap ((IntKind.i64.wrap (k+1))+1))+1))+1))+1))).1⟩:Vl.Pattern)::(Vl.Pattern.mkL r ((Vl.Pattern.mkL x.kids (IntKind.i64.wrap ((IntKind.i64.wrap ((IntKind.i64.wrap ((IntKind.i64.wrap ((IntKind.i64.wrap (k+1))+1))+1))+1))+1))).2)).1,(Vl.Pattern.mkL r ((Vl.Pattern.mkL x.kids (IntKind.i64.wrap ((IntKind.i64.wrap ((IntKind.i64.wrap ((IntKind.i64.wrap ((IntKind.i64.wrap (k+1))+1))+1))+1))+1))).2)).2):=by(first|rfl|(cases x;simp[Vl.Pattern.mkL,Vl.Pattern.mkE]))
    rw[he]at hq
    refine ihr (D++[(⟨k,IntKind.i64.wrap (k+1),IntKind.i64.wrap ((IntKind.i64.wrap (k+1))+1),IntKind.i64.wrap ((IntKind.i64.wrap ((IntKind.i64.wrap (k+1))+1))+1),IntKind.i64.wrap ((IntKind.i64.wrap ((IntKind.i64.wrap ((IntKind.i64.wrap (k+1))+1))+1))+1),(Vl.Pattern.mkL x.kids (IntKind.i64.wrap ((IntKind.i64.wrap ((IntKind.i64.wrap ((IntKind.i64.wrap ((IntKind.i64.wrap (k+1))+1))+1))+1))+1))).1⟩:Vl.Pattern)]) _ (i+1) n _ _ (fun y hy=>hz y (List.mem_cons_of_mem _ hy)) (by simp[hi]) (by simp at hn;omega) (by simpa using H.setAt hin hUA rfl [.int .i64 k,.int .i64 (IntKind.i64.wrap (k+1)),.int .i64 (IntKind.i64.wrap ((IntKind.i64.wrap (k+1))+1)),.int .i64 (IntKind.i64.wrap ((IntKind.i64.wrap ((IntKind.i64.wrap (k+1))+1))+1)),.int .i64 (IntKind.i64.wrap ((IntKind.i64.wrap ((IntKind.i64.wrap ((IntKind.i64.wrap (k+1))+1))+1))+1)),h1] rfl) _ rfl _ fun R U hR=> ?_
    simpa using hq R U hR
  refine MCall.enter 6 Tryz.func54 (by kernel_rfl) rfl Tryz.ntmps54 (by simp) (by simp[Vl.Pattern.mkL_len]) (fun e he=>by obtain⟨x,_,rfl⟩:=List.mem_map.1 he;exact Vl.Pattern.c_len x) ?_ ?_
  ·intro he
   have he:a0=[]:=by simpa using he
   subst he
   repeat(first|refine chk.ga ?_|simp -dsimp)
   refine ALoop.goU ⟨[(0,.arr []),(1,.lit (.int .i64 k0)),(5,.lit (.int .i64 0))],[]⟩ (Gh.to3 (by simp) (by simp -dsimp)) ?_
   refine ALoopU.enter ?_
   repeat(first|refine chk.ga ?_|simp -dsimp)
   refine Leave.go _ (Gh.refl _) ?_
   repeat(first|refine chk.ga ?_|simp -dsimp)
   all_goals(try simp[Vl.Pattern.mkL])
  ·intro hne rows us e1 e2 e3 e4
   have H:RW 6 a0.length rows us:=⟨by simpa using e2,e3,e1⟩
   repeat(first|refine chk.ga ?_|simp -dsimp)
   refine ALoop.goU ⟨[(0,.own 0 a0.length),(1,.lit (.int .i64 k0)),(5,.lit (.int .i64 ((0:Nat):Int)))],[.elems 6 rows,.pack (List.flatten (List.map Vl.Pattern.c ([]++a0))) us]⟩ (Gh.to3 (by simp) (by simp -dsimp[RW.closed H])) ?_
   refine loop a0 [] k0 0 a0.length rows us hz0 rfl (by simp) H _ rfl _ ?_
   intro R U hR
   repeat(first|refine chk.ga ?_|simp -dsimp)
   exact⟨rfl,R,U,rfl,⟨1,by simp⟩,hR.2.2,by rw[hR.1];simp[Vl.Pattern.mkL_len],fun x hx=>by obtain⟨y,_,rfl⟩:=List.mem_map.1 hx;exact Vl.Pattern.c_len y⟩
theorem C.f163 (a:List Vl.Pattern)(k:Int)(v:List Vl.Pattern×Int)(hF:F.f163 a k=some v):MCall Tryz.prog B 54 (List.map Vl.Pattern.c a) [.int .i64 k] (List.map Vl.Pattern.c v.1) (.int .i64 v.2):=by
 obtain rfl:=Option.some.inj hF
 exact(CM.laws_markPatternS B hB1 hB2 (SizeOf.sizeOf a+1)) a k (Nat.lt_succ_self _)
theorem CM.laws_markTypeS :∀m:Nat,(∀(a:List Vl.Ty) (k:Int),SizeOf.sizeOf a<m→MCall Tryz.prog B 111 (List.map Vl.Ty.c a) [.int .i64 k] (List.map Vl.Ty.c (Vl.Ty.mkL a k).1) (.int .i64 (Vl.Ty.mkL a k).2)):=by
 intro m
 induction m with
 |zero=>exact fun a k h=>absurd h (Nat.not_lt_zero _)
 |succ m ih=>
  intro a0 k0 hm
  have hz0:∀x,x∈a0→SizeOf.sizeOf x<m:=fun x hx=>by have:=List.sizeOf_lt_of_mem hx;omega
  have loop:∀(rest D:List Vl.Ty) (k:Int) (i n:Nat) (rows:List (List AV)) (us:List Go.Value),(∀x,x∈rest→SizeOf.sizeOf x<m)→i=D.length→n=i+rest.length→RW 2 n rows us→
    ∀(c:Code),navO [1,0,1,0,0] (bodyOf Tryz.f111)=some c→∀(Q:Exit→ASt→Prop),
    (∀(R:List (List AV)) (U:List Go.Value),RW 2 n R U→Q (.exit 0) ⟨[(1,.lit (.int .i64 (Vl.Ty.mkL rest k).2))],[.elems 2 R,.pack (List.flatten (List.map Vl.Ty.c (D++(Vl.Ty.mkL rest k).1))) U]⟩)→
    ALoopU Tryz.prog B 2 27 (hold c .mk) ⟨[(0,.own 0 n),(1,.lit (.int .i64 k)),(5,.lit (.int .i64 (i:Int)))],[.elems 2 rows,.pack (List.flatten (List.map Vl.Ty.c (D++rest))) us]⟩ (hold Q .mk):=by
   intro rest
   induction rest with
   |nil=>
    intro D k i n rows us hz hi hn H c hc Q hq
    obtain rfl:c=_:=navEq hc rfl
    have hn':n=i:=by simpa using hn
    subst hn'
    refine ALoopU.enter ?_
    repeat(first|refine chk.ga ?_|simp -dsimp[RW.len H])
    refine Leave.go ⟨[(1,.lit (.int .i64 k))],[.elems 2 rows,.pack (List.flatten (List.map Vl.Ty.c D)) us]⟩ (Gh.to3 (by simp) (by simp -dsimp[RW.closed H])) ?_
    simpa[Vl.Ty.mkL]using hq rows us H
   |cons x r ihr=>
    intro D k i n rows us hz hi hn H c hc Q hq
    refine ALoopU.opnAt 1 (List.flatten (List.map Vl.Ty.c D)) (Vl.Ty.c x) (List.flatten (List.map Vl.Ty.c r)) rfl (by simp) ?_
    intro hs vs UA UC hl ho hlt hU hlA
    have hs0:hs=[]:=List.length_eq_zero_iff.1 (by simpa using hl)
    subst hs0
    have hv:vs=[.int .i64 x.data,.int .i64 x.index]:=by apply lits_inj;rw[←hlt];simp
    subst hv hU
    have hUA:UA.length=i*2:=by rw[hlA,flatc_len Vl.Ty.c_len,hi]
    have hin:i<n:=by simp at hn;omega
    have hrow:rows[i]? =some [.lit (.int .i64 x.data),.lit (.int .i64 x.index)]:=by simpa using H.at hin rfl hUA rfl
    have hne:¬rows=[]:=by intro e;rw[e]at hrow;simp at hrow
    have hrl:=RW.len H
    have hrow':∀(h:i<rows.length),rows[i]=[.lit (.int .i64 x.data),.lit (.int .i64 x.index)]:=fun h=>by rw[List.getElem?_eq_getElem h]at hrow;exact Option.some.inj hrow
    have hset:∀a,(rows.set i a)[i]? =some a:=fun a=>List.getElem?_set_self (by omega)
    clear hlt
    refine ALoopU.know fun hk hs=> ?_
    have d0:=hs 0 _ rfl
    simp -dsimp[Blk.bnd]at d0
    clear hk hs
    obtain rfl:c=_:=navEq hc rfl
    have w1:IntKind.i64.wrap ((i:Int)+1)=(i:Int)+1:=wrap_in (by omega) (by omega)
    refine ALoopU.enter ?_
    repeat(first|refine chk.ga ?_|simp -dsimp[hne,hrow,hrow',hset,hrl,hin,w1,List.set_set])
    refine Again.go ⟨[(0,.own 0 n),(1,.lit (.int .i64 (IntKind.i64.wrap ((IntKind.i64.wrap (k+1))+1)))),(5,.lit (.int .i64 ((i+1:Nat):Int)))],[.elems 2 (rows.set i [.lit (.int .i64 k),.lit (.int .i64 (IntKind.i64.wrap (k+1)))]),.pack (List.flatten (List.map Vl.Ty.c ((D++[(⟨k,IntKind.i64.wrap (k+1)⟩:Vl.Ty)])++r))) (UA++([.int .i64 k,.int .i64 (IntKind.i64.wrap (k+1))]++UC))]⟩
     (by refine Gh.trans (Gh.setAt 1 [] (XA:=List.flatten (List.map Vl.Ty.c D)) (old:=[.lit (.int .i64 x.data),.lit (.int .i64 x.index)]) (XC:=List.flatten (List.map Vl.Ty.c r)) (UA:=UA) (uo:=[.int .i64 x.data,.int .i64 x.index]) (UC:=UC) (by exact rfl) (by simp) (by simp) hlA rfl (.lit (.int .i64 k) (.lit (.int .i64 (IntKind.i64.wrap (k+1))) .nil)) (by decide)) ?_;exact Gh.to3 (by simp) (by simp -dsimp[RW.closed H])) ?_
    have he:Vl.Ty.mkL (x::r) k=((⟨k,IntKind.i64.wrap (k+1)⟩:Vl.Ty)::(Vl.Ty.mkL r (IntKind.i64.wrap ((IntKind.i64.wrap (k+1))+1))).1,(Vl.Ty.mkL r (IntKind.i64.wrap ((IntKind.i64.wrap (k+1))+1))).2):=by(first|rfl|(cases x;simp[Vl.Ty.mkL,Vl.Ty.mkE]))
    rw[he]at hq
    refine ihr (D++[(⟨k,IntKind.i64.wrap (k+1)⟩:Vl.Ty)]) _ (i+1) n _ _ (fun y hy=>hz y (List.mem_cons_of_mem _ hy)) (by simp[hi]) (by simp at hn;omega) (by simpa using H.setAt hin hUA rfl [.int .i64 k,.int .i64 (IntKind.i64.wrap (k+1))] rfl) _ rfl _ fun R U hR=> ?_
    simpa using hq R U hR
  refine MCall.enter 2 Tryz.func111 (by kernel_rfl) rfl Tryz.ntmps111 (by simp) (by simp[Vl.Ty.mkL_len]) (fun e he=>by obtain⟨x,_,rfl⟩:=List.mem_map.1 he;exact Vl.Ty.c_len x) ?_ ?_
  ·intro he
   have he:a0=[]:=by simpa using he
   subst he
   repeat(first|refine chk.ga ?_|simp -dsimp)
   refine ALoop.goU ⟨[(0,.arr []),(1,.lit (.int .i64 k0)),(5,.lit (.int .i64 0))],[]⟩ (Gh.to3 (by simp) (by simp -dsimp)) ?_
   refine ALoopU.enter ?_
   repeat(first|refine chk.ga ?_|simp -dsimp)
   refine Leave.go _ (Gh.refl _) ?_
   repeat(first|refine chk.ga ?_|simp -dsimp)
   all_goals(try simp[Vl.Ty.mkL])
  ·intro hne rows us e1 e2 e3 e4
   have H:RW 2 a0.length rows us:=⟨by simpa using e2,e3,e1⟩
   repeat(first|refine chk.ga ?_|simp -dsimp)
   refine ALoop.goU ⟨[(0,.own 0 a0.length),(1,.lit (.int .i64 k0)),(5,.lit (.int .i64 ((0:Nat):Int)))],[.elems 2 rows,.pack (List.flatten (List.map Vl.Ty.c ([]++a0))) us]⟩ (Gh.to3 (by simp) (by simp -dsimp[RW.closed H])) ?_
   refine loop a0 [] k0 0 a0.length rows us hz0 rfl (by simp) H _ rfl _ ?_
   intro R U hR
   repeat(first|refine chk.ga ?_|simp -dsimp)
   exact⟨rfl,R,U,rfl,⟨1,by simp⟩,hR.2.2,by rw[hR.1];simp[Vl.Ty.mkL_len],fun x hx=>by obtain⟨y,_,rfl⟩:=List.mem_map.1 hx;exact Vl.Ty.c_len y⟩
theorem C.f164 (a:List Vl.Ty)(k:Int)(v:List Vl.Ty×Int)(hF:F.f164 a k=some v):MCall Tryz.prog B 111 (List.map Vl.Ty.c a) [.int .i64 k] (List.map Vl.Ty.c v.1) (.int .i64 v.2):=by
 obtain rfl:=Option.some.inj hF
 exact(CM.laws_markTypeS B hB1 hB2 (SizeOf.sizeOf a+1)) a k (Nat.lt_succ_self _)
theorem CM.laws_markCtorS :∀m:Nat,(∀(a:List Vl.Ctor) (k:Int),SizeOf.sizeOf a<m→MCall Tryz.prog B 53 (List.map Vl.Ctor.c a) [.int .i64 k] (List.map Vl.Ctor.c (Vl.Ctor.mkL mtF a k).1) (.int .i64 (Vl.Ctor.mkL mtF a k).2)):=by
 intro m
 induction m with
 |zero=>exact fun a k h=>absurd h (Nat.not_lt_zero _)
 |succ m ih=>
  intro a0 k0 hm
  have hz0:∀x,x∈a0→SizeOf.sizeOf x<m:=fun x hx=>by have:=List.sizeOf_lt_of_mem hx;omega
  have loop:∀(rest D:List Vl.Ctor) (k:Int) (i n:Nat) (rows:List (List AV)) (us:List Go.Value),(∀x,x∈rest→SizeOf.sizeOf x<m)→i=D.length→n=i+rest.length→RW 3 n rows us→
    ∀(c:Code),navO [1,0,1,0,0] (bodyOf Tryz.f53)=some c→∀(Q:Exit→ASt→Prop),
    (∀(R:List (List AV)) (U:List Go.Value),RW 3 n R U→Q (.exit 0) ⟨[(1,.lit (.int .i64 (Vl.Ctor.mkL mtF rest k).2))],[.elems 3 R,.pack (List.flatten (List.map Vl.Ctor.c (D++(Vl.Ctor.mkL mtF rest k).1))) U]⟩)→
    ALoopU Tryz.prog B 2 35 (hold c .mk) ⟨[(0,.own 0 n),(1,.lit (.int .i64 k)),(5,.lit (.int .i64 (i:Int)))],[.elems 3 rows,.pack (List.flatten (List.map Vl.Ctor.c (D++rest))) us]⟩ (hold Q .mk):=by
   intro rest
   induction rest with
   |nil=>
    intro D k i n rows us hz hi hn H c hc Q hq
    obtain rfl:c=_:=navEq hc rfl
    have hn':n=i:=by simpa using hn
    subst hn'
    refine ALoopU.enter ?_
    repeat(first|refine chk.ga ?_|simp -dsimp[RW.len H])
    refine Leave.go ⟨[(1,.lit (.int .i64 k))],[.elems 3 rows,.pack (List.flatten (List.map Vl.Ctor.c D)) us]⟩ (Gh.to3 (by simp) (by simp -dsimp[RW.closed H])) ?_
    simpa[Vl.Ctor.mkL]using hq rows us H
   |cons x r ihr=>
    intro D k i n rows us hz hi hn H c hc Q hq
    refine ALoopU.opnAt1 1 (List.flatten (List.map Vl.Ctor.c D)) (Vl.Ctor.c x) (List.flatten (List.map Vl.Ctor.c r)) rfl (by simp) (by simp) ?_
    intro h1 vs UA UC o_h1 hlt hU hlA
    have hv:vs=[.string x.name,h1,.int .i64 x.index]:=by apply lits_inj;rw[←hlt];simp
    subst hv hU
    have hUA:UA.length=i*3:=by rw[hlA,flatc_len Vl.Ctor.c_len,hi]
    have hin:i<n:=by simp at hn;omega
    have hrow:rows[i]? =some [.lit (.string x.name),.lit h1,.lit (.int .i64 x.index)]:=by simpa using H.at hin rfl hUA rfl
    have hne:¬rows=[]:=by intro e;rw[e]at hrow;simp at hrow
    have hrl:=RW.len H
    have hrow':∀(h:i<rows.length),rows[i]=[.lit (.string x.name),.lit h1,.lit (.int .i64 x.index)]:=fun h=>by rw[List.getElem?_eq_getElem h]at hrow;exact Option.some.inj hrow
    have hset:∀a,(rows.set i a)[i]? =some a:=fun a=>List.getElem?_set_self (by omega)
    clear hlt
    refine ALoopU.know fun hk hs=> ?_
    have d0:=hs 0 _ rfl
    simp -dsimp[Blk.bnd]at d0
    clear hk hs
    obtain rfl:c=_:=navEq hc rfl
    have w1:IntKind.i64.wrap ((i:Int)+1)=(i:Int)+1:=wrap_in (by omega) (by omega)
    refine ALoopU.enter ?_
    repeat(first|refine chk.ga ?_|simp -dsimp[hne,hrow,hrow',hset,hrl,hin,w1,List.set_set,o_h1])
    refine(C.f1 B hB1 hB2 k _ (mtF_eq k)).goW (by simp) (by simp) ?_
    repeat(first|refine chk.ga ?_|simp -dsimp[hne,hrow,hrow',hset,hrl,hin,w1,List.set_set,o_h1])
    refine(C.f164 B hB1 hB2 x.args (IntKind.i64.wrap (k+1)) _ rfl).go 2 rfl (by simp) ?_
    repeat(first|refine chk.ga ?_|simp -dsimp[hne,hrow,hrow',hset,hrl,hin,w1,List.set_set,o_h1])
    refine Again.go ⟨[(0,.own 0 n),(1,.lit (.int .i64 (IntKind.i64.wrap (((Vl.Ty.mkL x.args (IntKind.i64.wrap (k+1))).2)+1)))),(5,.lit (.int .i64 ((i+1:Nat):Int)))],[.elems 3 (rows.set i [.lit (.string (mtF k)),.lit h1,.lit (.int .i64 ((Vl.Ty.mkL x.args (IntKind.i64.wrap (k+1))).2))]),.pack (List.flatten (List.map Vl.Ctor.c ((D++[(⟨mtF k,(Vl.Ty.mkL x.args (IntKind.i64.wrap (k+1))).1,(Vl.Ty.mkL x.args (IntKind.i64.wrap (k+1))).2⟩:Vl.Ctor)])++r))) (UA++([.string (mtF k),h1,.int .i64 ((Vl.Ty.mkL x.args (IntKind.i64.wrap (k+1))).2)]++UC))]⟩
     (by refine Gh.trans (Gh.setAt 1 [2] (XA:=List.flatten (List.map Vl.Ctor.c D)) (old:=[.lit (.string x.name),.lit h1,.lit (.int .i64 x.index)]) (XC:=List.flatten (List.map Vl.Ctor.c r)) (UA:=UA) (uo:=[.string x.name,h1,.int .i64 x.index]) (UC:=UC) (by exact rfl) (by simp) (by simp) hlA rfl (.lit (.string (mtF k)) (.pk 2 (by exact rfl) (.lit (.int .i64 ((Vl.Ty.mkL x.args (IntKind.i64.wrap (k+1))).2)) .nil))) (by decide)) ?_;exact Gh.to3 (by simp) (by simp -dsimp[RW.closed H])) ?_
    have he:Vl.Ctor.mkL mtF (x::r) k=((⟨mtF k,(Vl.Ty.mkL x.args (IntKind.i64.wrap (k+1))).1,(Vl.Ty.mkL x.args (IntKind.i64.wrap (k+1))).2⟩:Vl.Ctor)::(Vl.Ctor.mkL mtF r (IntKind.i64.wrap (((Vl.Ty.mkL x.args (IntKind.i64.wrap (k+1))).2)+1))).1,(Vl.Ctor.mkL mtF r (IntKind.i64.wrap (((Vl.Ty.mkL x.args (IntKind.i64.wrap (k+1))).2)+1))).2):=by(first|rfl|(cases x;simp[Vl.Ctor.mkL,Vl.Ctor.mkE]))
    rw[he]at hq
    refine ihr (D++[(⟨mtF k,(Vl.Ty.mkL x.args (IntKind.i64.wrap (k+1))).1,(Vl.Ty.mkL x.args (IntKind.i64.wrap (k+1))).2⟩:Vl.Ctor)]) _ (i+1) n _ _ (fun y hy=>hz y (List.mem_cons_of_mem _ hy)) (by simp[hi]) (by simp at hn;omega) (by simpa using H.setAt hin hUA rfl [.string (mtF k),h1,.int .i64 ((Vl.Ty.mkL x.args (IntKind.i64.wrap (k+1))).2)] rfl) _ rfl _ fun R U hR=> ?_
    simpa using hq R U hR
  refine MCall.enter 3 Tryz.func53 (by kernel_rfl) rfl Tryz.ntmps53 (by simp) (by simp[Vl.Ctor.mkL_len]) (fun e he=>by obtain⟨x,_,rfl⟩:=List.mem_map.1 he;exact Vl.Ctor.c_len x) ?_ ?_
  ·intro he
   have he:a0=[]:=by simpa using he
   subst he
   repeat(first|refine chk.ga ?_|simp -dsimp)
   refine ALoop.goU ⟨[(0,.arr []),(1,.lit (.int .i64 k0)),(5,.lit (.int .i64 0))],[]⟩ (Gh.to3 (by simp) (by simp -dsimp)) ?_
   refine ALoopU.enter ?_
   repeat(first|refine chk.ga ?_|simp -dsimp)
   refine Leave.go _ (Gh.refl _) ?_
   repeat(first|refine chk.ga ?_|simp -dsimp)
   all_goals(try simp[Vl.Ctor.mkL])
  ·intro hne rows us e1 e2 e3 e4
   have H:RW 3 a0.length rows us:=⟨by simpa using e2,e3,e1⟩
   repeat(first|refine chk.ga ?_|simp -dsimp)
   refine ALoop.goU ⟨[(0,.own 0 a0.length),(1,.lit (.int .i64 k0)),(5,.lit (.int .i64 ((0:Nat):Int)))],[.elems 3 rows,.pack (List.flatten (List.map Vl.Ctor.c ([]++a0))) us]⟩ (Gh.to3 (by simp) (by simp -dsimp[RW.closed H])) ?_
   refine loop a0 [] k0 0 a0.length rows us hz0 rfl (by simp) H _ rfl _ ?_
   intro R U hR
   repeat(first|refine chk.ga ?_|simp -dsimp)
   exact⟨rfl,R,U,rfl,⟨1,by simp⟩,hR.2.2,by rw[hR.1];simp[Vl.Ctor.mkL_len],fun x hx=>by obtain⟨y,_,rfl⟩:=List.mem_map.1 hx;exact Vl.Ctor.c_len y⟩
theorem C.f165 (a:List Vl.Ctor)(k:Int)(v:List Vl.Ctor×Int)(hF:F.f165 a k=some v):MCall Tryz.prog B 53 (List.map Vl.Ctor.c a) [.int .i64 k] (List.map Vl.Ctor.c v.1) (.int .i64 v.2):=by
 obtain rfl:=Option.some.inj hF
 exact(CM.laws_markCtorS B hB1 hB2 (SizeOf.sizeOf a+1)) a k (Nat.lt_succ_self _)
theorem CM.laws_markDataS :∀m:Nat,(∀(a:List Vl.Data) (k:Int),SizeOf.sizeOf a<m→MCall Tryz.prog B 16 (List.map Vl.Data.c a) [.int .i64 k] (List.map Vl.Data.c (Vl.Data.mkL mtF a k).1) (.int .i64 (Vl.Data.mkL mtF a k).2)):=by
 intro m
 induction m with
 |zero=>exact fun a k h=>absurd h (Nat.not_lt_zero _)
 |succ m ih=>
  intro a0 k0 hm
  have hz0:∀x,x∈a0→SizeOf.sizeOf x<m:=fun x hx=>by have:=List.sizeOf_lt_of_mem hx;omega
  have loop:∀(rest D:List Vl.Data) (k:Int) (i n:Nat) (rows:List (List AV)) (us:List Go.Value),(∀x,x∈rest→SizeOf.sizeOf x<m)→i=D.length→n=i+rest.length→RW 2 n rows us→
    ∀(c:Code),navO [1,0,1,0,0] (bodyOf Tryz.f16)=some c→∀(Q:Exit→ASt→Prop),
    (∀(R:List (List AV)) (U:List Go.Value),RW 2 n R U→Q (.exit 0) ⟨[(1,.lit (.int .i64 (Vl.Data.mkL mtF rest k).2))],[.elems 2 R,.pack (List.flatten (List.map Vl.Data.c (D++(Vl.Data.mkL mtF rest k).1))) U]⟩)→
    ALoopU Tryz.prog B 2 28 (hold c .mk) ⟨[(0,.own 0 n),(1,.lit (.int .i64 k)),(5,.lit (.int .i64 (i:Int)))],[.elems 2 rows,.pack (List.flatten (List.map Vl.Data.c (D++rest))) us]⟩ (hold Q .mk):=by
   intro rest
   induction rest with
   |nil=>
    intro D k i n rows us hz hi hn H c hc Q hq
    obtain rfl:c=_:=navEq hc rfl
    have hn':n=i:=by simpa using hn
    subst hn'
    refine ALoopU.enter ?_
    repeat(first|refine chk.ga ?_|simp -dsimp[RW.len H])
    refine Leave.go ⟨[(1,.lit (.int .i64 k))],[.elems 2 rows,.pack (List.flatten (List.map Vl.Data.c D)) us]⟩ (Gh.to3 (by simp) (by simp -dsimp[RW.closed H])) ?_
    simpa[Vl.Data.mkL]using hq rows us H
   |cons x r ihr=>
    intro D k i n rows us hz hi hn H c hc Q hq
    refine ALoopU.opnAt1 1 (List.flatten (List.map Vl.Data.c D)) (Vl.Data.c x) (List.flatten (List.map Vl.Data.c r)) rfl (by simp) (by simp) ?_
    intro h1 vs UA UC o_h1 hlt hU hlA
    have hv:vs=[.string x.name,h1]:=by apply lits_inj;rw[←hlt];simp
    subst hv hU
    have hUA:UA.length=i*2:=by rw[hlA,flatc_len Vl.Data.c_len,hi]
    have hin:i<n:=by simp at hn;omega
    have hrow:rows[i]? =some [.lit (.string x.name),.lit h1]:=by simpa using H.at hin rfl hUA rfl
    have hne:¬rows=[]:=by intro e;rw[e]at hrow;simp at hrow
    have hrl:=RW.len H
    have hrow':∀(h:i<rows.length),rows[i]=[.lit (.string x.name),.lit h1]:=fun h=>by rw[List.getElem?_eq_getElem h]at hrow;exact Option.some.inj hrow
    have hset:∀a,(rows.set i a)[i]? =some a:=fun a=>List.getElem?_set_self (by omega)
    clear hlt
    refine ALoopU.know fun hk hs=> ?_
    have d0:=hs 0 _ rfl
    simp -dsimp[Blk.bnd]at d0
    clear hk hs
    obtain rfl:c=_:=navEq hc rfl
    have w1:IntKind.i64.wrap ((i:Int)+1)=(i:Int)+1:=wrap_in (by omega) (by omega)
    refine ALoopU.enter ?_
    repeat(first|refine chk.ga ?_|simp -dsimp[hne,hrow,hrow',hset,hrl,hin,w1,List.set_set,o_h1])
    refine(C.f1 B hB1 hB2 k _ (mtF_eq k)).goW (by simp) (by simp) ?_
    repeat(first|refine chk.ga ?_|simp -dsimp[hne,hrow,hrow',hset,hrl,hin,w1,List.set_set,o_h1])
    refine(C.f165 B hB1 hB2 x.ctors (IntKind.i64.wrap (k+1)) _ rfl).go 2 rfl (by simp) ?_
    repeat(first|refine chk.ga ?_|simp -dsimp[hne,hrow,hrow',hset,hrl,hin,w1,List.set_set,o_h1])
    refine Again.go ⟨[(0,.own 0 n),(1,.lit (.int .i64 ((Vl.Ctor.mkL mtF x.ctors (IntKind.i64.wrap (k+1))).2))),(5,.lit (.int .i64 ((i+1:Nat):Int)))],[.elems 2 (rows.set i [.lit (.string (mtF k)),.lit h1]),.pack (List.flatten (List.map Vl.Data.c ((D++[(⟨mtF k,(Vl.Ctor.mkL mtF x.ctors (IntKind.i64.wrap (k+1))).1⟩:Vl.Data)])++r))) (UA++([.string (mtF k),h1]++UC))]⟩
     (by refine Gh.trans (Gh.setAt 1 [2] (XA:=List.flatten (List.map Vl.Data.c D)) (old:=[.lit (.string x.name),.lit h1]) (XC:=List.flatten (List.map Vl.Data.c r)) (UA:=UA) (uo:=[.string x.name,h1]) (UC:=UC) (by exact rfl) (by simp) (by simp) hlA rfl (.lit (.string (mtF k)) (.pk 2 (by exact rfl) .nil)) (by decide)) ?_;exact Gh.to3 (by simp) (by simp -dsimp[RW.closed H])) ?_
    have he:Vl.Data.mkL mtF (x::r) k=((⟨mtF k,(Vl.Ctor.mkL mtF x.ctors (IntKind.i64.wrap (k+1))).1⟩:Vl.Data)::(Vl.Data.mkL mtF r ((Vl.Ctor.mkL mtF x.ctors (IntKind.i64.wrap (k+1))).2)).1,(Vl.Data.mkL mtF r ((Vl.Ctor.mkL mtF x.ctors (IntKind.i64.wrap (k+1))).2)).2):=by(first|rfl|(cases x;simp[Vl.Data.mkL,Vl.Data.mkE]))
    rw[he]at hq
    refine ihr (D++[(⟨mtF k,(Vl.Ctor.mkL mtF x.ctors (IntKind.i64.wrap (k+1))).1⟩:Vl.Data)]) _ (i+1) n _ _ (fun y hy=>hz y (List.mem_cons_of_mem _ hy)) (by simp[hi]) (by simp at hn;omega) (by simpa using H.setAt hin hUA rfl [.string (mtF k),h1] rfl) _ rfl _ fun R U hR=> ?_
    simpa using hq R U hR
  refine MCall.enter 2 Tryz.func16 (by kernel_rfl) rfl Tryz.ntmps16 (by simp) (by simp[Vl.Data.mkL_len]) (fun e he=>by obtain⟨x,_,rfl⟩:=List.mem_map.1 he;exact Vl.Data.c_len x) ?_ ?_
  ·intro he
   have he:a0=[]:=by simpa using he
   subst he
   repeat(first|refine chk.ga ?_|simp -dsimp)
   refine ALoop.goU ⟨[(0,.arr []),(1,.lit (.int .i64 k0)),(5,.lit (.int .i64 0))],[]⟩ (Gh.to3 (by simp) (by simp -dsimp)) ?_
   refine ALoopU.enter ?_
   repeat(first|refine chk.ga ?_|simp -dsimp)
   refine Leave.go _ (Gh.refl _) ?_
   repeat(first|refine chk.ga ?_|simp -dsimp)
   all_goals(try simp[Vl.Data.mkL])
  ·intro hne rows us e1 e2 e3 e4
   have H:RW 2 a0.length rows us:=⟨by simpa using e2,e3,e1⟩
   repeat(first|refine chk.ga ?_|simp -dsimp)
   refine ALoop.goU ⟨[(0,.own 0 a0.length),(1,.lit (.int .i64 k0)),(5,.lit (.int .i64 ((0:Nat):Int)))],[.elems 2 rows,.pack (List.flatten (List.map Vl.Data.c ([]++a0))) us]⟩ (Gh.to3 (by simp) (by simp -dsimp[RW.closed H])) ?_
   refine loop a0 [] k0 0 a0.length rows us hz0 rfl (by simp) H _ rfl _ ?_
   intro R U hR
   repeat(first|refine chk.ga ?_|simp -dsimp)
   exact⟨rfl,R,U,rfl,⟨1,by simp⟩,hR.2.2,by rw[hR.1];simp[Vl.Data.mkL_len],fun x hx=>by obtain⟨y,_,rfl⟩:=List.mem_map.1 hx;exact Vl.Data.c_len y⟩
theorem C.f166 (a:List Vl.Data)(k:Int)(v:List Vl.Data×Int)(hF:F.f166 a k=some v):MCall Tryz.prog B 16 (List.map Vl.Data.c a) [.int .i64 k] (List.map Vl.Data.c v.1) (.int .i64 v.2):=by
 obtain rfl:=Option.some.inj hF
 exact(CM.laws_markDataS B hB1 hB2 (SizeOf.sizeOf a+1)) a k (Nat.lt_succ_self _)
theorem C.f167 (aW:List Vl.Data)(aT:Vl.Ty)(aC:Vl.Clause)(r:Bool)(hF:F.f167 aW aT aC=some r):PureCall Tryz.prog B 4 [.arr (List.map Vl.Data.c aW),.agg [.lit (.int .i64 aT.data),.lit (.int .i64 aT.index)],.agg [.lit (.int .i64 aC.pat.op),.lit (.int .i64 aC.pat.ctor),.lit (.int .i64 aC.pat.n),.lit (.int .i64 aC.pat.m),.lit (.int .i64 aC.pat.var),.arr (List.map Vl.Pattern.c aC.pat.kids),.lit (.int .i64 aC.guard.op),.lit (.int .i64 aC.guard.var),.lit (.int .i64 aC.guard.n)]] (.lit (.bool r)):=by
 unfold F.f167 at hF
 refine PureCall.enterLe Tryz.func4 (by kernel_rfl) rfl Tryz.ntmps4 (by simp) (by simp) ?_
 repeat(first|refine chk.ga ?_|simp -dsimp)
 have hF:=ob hF;obtain⟨v,e1,hF⟩:=hF
 refine((C.f8 B hB1 hB2 aW (1048576:Int) v e1)).goW (by simp) (by simp) ?_
 repeat(first|refine chk.ga ?_|simp -dsimp)
 refine abr.split (fun h2=> ?_) (fun h2=> ?_)
 ·have q3:(v<0):=auq h2
  rw[if_pos q3]at hF
  cases hF
  repeat(first|refine chk.ga ?_|simp -dsimp[h2])
  all_goals(try first|omega|rfl)
 ·have q3:¬(v<0):=auq h2
  rw[if_neg q3]at hF
  repeat(first|refine chk.ga ?_|simp -dsimp[h2,q3])
  have hF:=ob hF;obtain⟨v4,e5,hF⟩:=hF
  refine((C.f12 B hB1 hB2 aC v v4 e5)).goW (by first|simp[h2,q3];done|simp_all) (by simp) ?_
  repeat(first|refine chk.ga ?_|simp -dsimp[h2,q3])
  refine abr.split (fun h6=> ?_) (fun h6=> ?_)
  ·have q7:(v4<0):=auq h6
   rw[if_pos q7]at hF
   cases hF
   repeat(first|refine chk.ga ?_|simp -dsimp[h2,q3,h6])
   all_goals(try first|omega|rfl)
  ·have q7:¬(v4<0):=auq h6
   rw[if_neg q7]at hF
   repeat(first|refine chk.ga ?_|simp -dsimp[h2,q3,h6,q7])
   refine ADraw.eff [] [(0,1),(0,2),(0,1),(0,2),(0,1),(0,2),(0,2),(0,1),(0,1),(0,2),(0,2),(0,2),(2,2)] [1,1,2,1,2,1,1,1,0,0,1,1,1] follows (by kernel_rfl) (by kernel_rfl) (by kernel_rfl) ?_
   repeat(first|refine chk.ga ?_|simp -dsimp[h2,q3,h6,q7])
   have hF:=ob hF;obtain⟨v8,e9,hF⟩:=hF
   refine((C.f21 B hB1 hB2 aW v8 e9)).pgoW (by first|simp[h2,q3,h6,q7];done|simp_all) (by simp) ?_
   repeat(first|refine chk.ga ?_|simp -dsimp[h2,q3,h6,q7])
   have hF:=ob hF;obtain⟨v10,e11,hF⟩:=hF
   refine((C.f13 B hB1 hB2 aT v10 e11)).pgoW (by first|simp[h2,q3,h6,q7];done|simp_all) (by simp) ?_
   repeat(first|refine chk.ga ?_|simp -dsimp[h2,q3,h6,q7])
   have hF:=ob hF;obtain⟨v12,e13,hF⟩:=hF
   refine((C.f26 B hB1 hB2 aC v12 e13)).pgoW (by first|simp[h2,q3,h6,q7];done|simp_all) (by simp) ?_
   repeat(first|refine chk.ga ?_|simp -dsimp[h2,q3,h6,q7])
   have hF:=ob hF;obtain⟨v14,e15,hF⟩:=hF
   refine((C.f89 B hB1 hB2 v8 v10 v12 v14 e15)).pgoW (by first|simp[h2,q3,h6,q7];done|simp_all) (by simp) ?_
   repeat(first|refine chk.ga ?_|simp -dsimp[h2,q3,h6,q7])
   have hF:=ob hF;obtain⟨v16,e17,hF⟩:=hF
   refine((C.laws_toDataS__f B hB1 hB2 aW v16 e17)).go1 (by first|simp -dsimp[h2,q3,h6,q7];done|simp_all) (by simp) (fun h o_h=> ?_)
   repeat(first|refine chk.ga ?_|simp -dsimp[h2,q3,h6,q7,o_h])
   have hF:=ob hF;obtain⟨v18,e19,hF⟩:=hF
   refine((C.laws_toClause__f B hB1 hB2 aC v18 e19)).go1 (by first|simp -dsimp[h2,q3,h6,q7,o_h];done|simp_all) (by simp) (fun h20 o_h20=> ?_)
   repeat(first|refine chk.ga ?_|simp -dsimp[h2,q3,h6,q7,o_h,o_h20])
   refine ADraw.opn ?_
   refine ADraw.effF [] [0,1,2,3,4,8,5,6,7,9,10] [22] 4 [0,1,2,3,5,4,6,7,8,9,10] [44,45,46,47] [(0,0),(0,0),(0,3),(0,0),(0,3),(0,3),(1,2),(1,2),(1,3),(0,3),(3,3)] [1,1,1,1,1,1,1,0,0,1,1] [(0,1),(0,1),(0,3),(0,1),(0,3),(0,3),(2,2),(2,2),(2,3),(0,3),(3,3)] [1,2,1,2,1,1,1,1,0,1,1] (by decide) follows (by kernel_rfl) (by kernel_rfl) (by kernel_rfl) (by kernel_rfl) (by kernel_rfl) (by kernel_rfl) (by kernel_rfl) (by kernel_rfl) (by kernel_rfl) (by kernel_rfl) (by kernel_rfl) (by kernel_rfl) (by kernel_rfl) (by kernel_rfl) (by kernel_rfl) rfl (by kernel_rfl) rfl ?_
   intro L hL
   simp only[permL_nil,permL_cons,List.getD_cons_zero,List.getD_cons_succ,List.toList_toArray]at hL
   subst hL
   repeat(first|refine chk.ga ?_|simp -dsimp[h2,q3,h6,q7,o_h,o_h20])
   have hF:=ob hF;obtain⟨v21,e22,hF⟩:=hF
   refine((C.f13 B hB1 hB2 aT v21 e22)).pgoW (by first|simp[h2,q3,h6,q7,o_h,o_h20];done|simp_all) (by simp) ?_
   repeat(first|refine chk.ga ?_|simp -dsimp[h2,q3,h6,q7,o_h,o_h20])
   refine⟨holdI ?_,?_⟩
   focus
    intro L2 hL2
    simp only[permL_nil,permL_cons,List.getD_cons_zero,List.getD_cons_succ,List.toList_toArray]at hL2
    subst hL2
    repeat(first|refine chk.ga ?_|simp -dsimp[h2,q3,h6,q7,o_h,o_h20])
    refine((C.f13 B hB1 hB2 aT v21 e22)).pgoW (by first|simp[h2,q3,h6,q7,o_h,o_h20];done|simp_all) (by simp) ?_
    repeat(first|refine chk.ga ?_|simp -dsimp[h2,q3,h6,q7,o_h,o_h20])
   all_goals
    have hF:=ob hF;obtain⟨v23,e24,hF⟩:=hF
    refine((C.impl_GuardPattern__f B hB1 hB2 v16 v21 v18 v23 e24)).ngo1 (by first|simp -dsimp[h2,q3,h6,q7,o_h,o_h20];done|simp_all) (by simp) (fun h25 o_h25=> ?_)
    repeat(first|refine chk.ga ?_|simp -dsimp[h2,q3,h6,q7,o_h,o_h20,o_h25])
    have hF:=ob hF;obtain⟨v26,e27,hF⟩:=hF
    refine((C.f149 B hB1 hB2 v23.1 v14.1 v26 e27)).lend (by first|simp -dsimp[h2,q3,h6,q7,o_h,o_h20,o_h25];done|simp_all) (by simp -dsimp) ?_
    repeat(first|refine chk.ga ?_|simp -dsimp[h2,q3,h6,q7,o_h,o_h20,o_h25])
    refine abr.split (fun h28=> ?_) (fun h28=> ?_)
    ·have q29:(v26=true):=auq h28
     rw[if_pos q29]at hF
     repeat(first|refine chk.ga ?_|simp -dsimp[h2,q3,h6,q7,o_h,o_h20,o_h25,h28])
     refine abr.split (fun h30=> ?_) (fun h30=> ?_)
     ·have q31:¬(v23.2=v14.2):=auq h30
      rw[if_neg q31]at hF
      cases hF
      repeat(first|refine chk.ga ?_|simp -dsimp[h2,q3,h6,q7,o_h,o_h20,o_h25,h28,h30,q31])
      all_goals(try first|omega|rfl)
     ·have q31:(v23.2=v14.2):=auq h30
      rw[if_pos q31]at hF
      repeat(first|refine chk.ga ?_|simp -dsimp[h2,q3,h6,q7,o_h,o_h20,o_h25,h28,h30,q31])
      have hF:=ob hF;obtain⟨v32,e33,hF⟩:=hF
      refine((C.f21 B hB1 hB2 aW v32 e33)).goW (by first|simp[h2,q3,h6,q7,o_h,o_h20,o_h25,h28,h30,q31];done|simp_all) (by simp) ?_
      repeat(first|refine chk.ga ?_|simp -dsimp[h2,q3,h6,q7,o_h,o_h20,o_h25,h28,h30,q31])
      have hF:=ob hF;obtain⟨v34,e35,hF⟩:=hF
      refine((C.f158 B hB1 hB2 v16 v32 v34 e35)).lend (by first|simp -dsimp[h2,q3,h6,q7,o_h,o_h20,o_h25,h28,h30,q31];done|simp_all) (by simp -dsimp) ?_
      repeat(first|refine chk.ga ?_|simp -dsimp[h2,q3,h6,q7,o_h,o_h20,o_h25,h28,h30,q31])
      refine abr.split (fun h36=> ?_) (fun h36=> ?_)
      ·have q37:¬(v34=true):=auq h36
       rw[if_neg q37]at hF
       cases hF
       repeat(first|refine chk.ga ?_|simp -dsimp[h2,q3,h6,q7,o_h,o_h20,o_h25,h28,h30,q31,h36,q37])
       all_goals(try first|omega|rfl)
      ·have q37:(v34=true):=auq h36
       rw[if_pos q37]at hF
       repeat(first|refine chk.ga ?_|simp -dsimp[h2,q3,h6,q7,o_h,o_h20,o_h25,h28,h30,q31,h36,q37])
       refine ADraw.eff [23] [(0,0),(0,0),(0,1),(0,1),(1,1)] [1,1,1,1,1] follows (by kernel_rfl) (by kernel_rfl) (by kernel_rfl) ?_
       repeat(first|refine chk.ga ?_|simp -dsimp[h2,q3,h6,q7,o_h,o_h20,o_h25,h28,h30,q31,h36,q37])
       have hF:=ob hF;obtain⟨v38,e39,hF⟩:=hF
       refine((C.f26 B hB1 hB2 aC v38 e39)).pgoW (by first|simp[h2,q3,h6,q7,o_h,o_h20,o_h25,h28,h30,q31,h36,q37];done|simp_all) (by simp) ?_
       repeat(first|refine chk.ga ?_|simp -dsimp[h2,q3,h6,q7,o_h,o_h20,o_h25,h28,h30,q31,h36,q37])
       have hF:=ob hF;obtain⟨v40,e41,hF⟩:=hF
       refine((C.f149 B hB1 hB2 v18 v38 v40 e41)).elend (by first|simp -dsimp[h2,q3,h6,q7,o_h,o_h20,o_h25,h28,h30,q31,h36,q37];done|simp_all) (by simp -dsimp) ?_
       repeat(first|refine chk.ga ?_|simp -dsimp[h2,q3,h6,q7,o_h,o_h20,o_h25,h28,h30,q31,h36,q37])
       refine abr.split (fun h42=> ?_) (fun h42=> ?_)
       ·have q43:¬(v40=true):=auq h42
        rw[if_neg q43]at hF
        cases hF
        repeat(first|refine chk.ga ?_|simp -dsimp[h2,q3,h6,q7,o_h,o_h20,o_h25,h28,h30,q31,h36,q37,h42,q43])
        all_goals(try first|omega|rfl)
       ·have q43:(v40=true):=auq h42
        rw[if_pos q43]at hF
        repeat(first|refine chk.ga ?_|simp -dsimp[h2,q3,h6,q7,o_h,o_h20,o_h25,h28,h30,q31,h36,q37,h42,q43])
        have hF:=ob hF;obtain⟨v44,e45,hF⟩:=hF
        refine((C.f166 B hB1 hB2 v16 1 v44 e45)).go 3 rfl (by simp) ?_
        repeat(first|refine chk.ga ?_|simp -dsimp[h2,q3,h6,q7,o_h,o_h20,o_h25,h28,h30,q31,h36,q37,h42,q43])
        refine ACall.inl Tryz.func24 (by kernel_rfl) rfl Tryz.ntmps24 (by simp) ?_
        repeat(first|refine chk.ga ?_|simp -dsimp[h2,q3,h6,q7,o_h,o_h20,o_h25,h28,h30,q31,h36,q37,h42,q43])
        refine ACall.inl Tryz.func17 (by kernel_rfl) rfl Tryz.ntmps17 (by simp) ?_
        repeat(first|refine chk.ga ?_|simp -dsimp[h2,q3,h6,q7,o_h,o_h20,o_h25,h28,h30,q31,h36,q37,h42,q43])
        have hF:=ob hF;obtain⟨v46,e47,hF⟩:=hF
        refine((C.f163 B hB1 hB2 v18.pat.kids v44.2 v46 e47)).go 4 rfl (by simp) ?_
        repeat(first|refine chk.ga ?_|simp -dsimp[h2,q3,h6,q7,o_h,o_h20,o_h25,h28,h30,q31,h36,q37,h42,q43])
        refine abr.split (fun h48=> ?_) (fun h48=> ?_)
        ·have q49:¬(v46.2<0):=auq h48
         rw[if_neg q49]at hF
         repeat(first|refine chk.ga ?_|simp -dsimp[h2,q3,h6,q7,o_h,o_h20,o_h25,h28,h30,q31,h36,q37,h42,q43,h48,q49])
         have hF:=ob hF;obtain⟨v50,e51,hF⟩:=hF
         refine((C.f149 B hB1 hB2 v23.1 v14.1 v50 e51)).lend (by first|simp -dsimp[h2,q3,h6,q7,o_h,o_h20,o_h25,h28,h30,q31,h36,q37,h42,q43,h48,q49];done|simp_all) (by simp -dsimp) ?_
         repeat(first|refine chk.ga ?_|simp -dsimp[h2,q3,h6,q7,o_h,o_h20,o_h25,h28,h30,q31,h36,q37,h42,q43,h48,q49])
         refine abr.split (fun h52=> ?_) (fun h52=> ?_)
         ·have q53:(v50=true):=auq h52
          rw[if_pos q53]at hF
          repeat(first|refine chk.ga ?_|simp -dsimp[h2,q3,h6,q7,o_h,o_h20,o_h25,h28,h30,q31,h36,q37,h42,q43,h48,q49,h52])
          refine ACall.inl Tryz.func24 (by kernel_rfl) rfl Tryz.ntmps24 (by simp) ?_
          repeat(first|refine chk.ga ?_|simp -dsimp[h2,q3,h6,q7,o_h,o_h20,o_h25,h28,h30,q31,h36,q37,h42,q43,h48,q49,h52])
          refine ACall.inl Tryz.func17 (by kernel_rfl) rfl Tryz.ntmps17 (by simp) ?_
          repeat(first|refine chk.ga ?_|simp -dsimp[h2,q3,h6,q7,o_h,o_h20,o_h25,h28,h30,q31,h36,q37,h42,q43,h48,q49,h52])
          have hF:=ob hF;obtain⟨v54,e55,hF⟩:=hF
          first|(refine((C.f163 B hB1 hB2 v23.1.pat.kids 1 v54 e55)).go 6 rfl (by simp) ?_)|(refine((C.f163 B hB1 hB2 v23.1.pat.kids 1 v54 e55)).go 7 rfl (by simp) ?_)
          repeat(first|refine chk.ga ?_|simp -dsimp[h2,q3,h6,q7,o_h,o_h20,o_h25,h28,h30,q31,h36,q37,h42,q43,h48,q49,h52])
          have hF:=ob hF;obtain⟨v56,e57,hF⟩:=hF
          refine((C.f162 B hB1 hB2 (⟨(⟨v23.1.pat.op,v23.1.pat.ctor,v23.1.pat.n,v23.1.pat.m,v23.1.pat.var,v54.1⟩:Vl.Pattern),v23.1.guard⟩:Vl.Clause) (1:Int) v56 e57)).lend (by first|simp -dsimp[h2,q3,h6,q7,o_h,o_h20,o_h25,h28,h30,q31,h36,q37,h42,q43,h48,q49,h52];done|simp_all) (by simp -dsimp) ?_
          repeat(first|refine chk.ga ?_|simp -dsimp[h2,q3,h6,q7,o_h,o_h20,o_h25,h28,h30,q31,h36,q37,h42,q43,h48,q49,h52])
          refine abr.split (fun h58=> ?_) (fun h58=> ?_)
          ·have q59:(v56<0):=auq h58
           rw[if_pos q59]at hF
           cases hF
           repeat(first|refine chk.ga ?_|simp -dsimp[h2,q3,h6,q7,o_h,o_h20,o_h25,h28,h30,q31,h36,q37,h42,q43,h48,q49,h52,h58])
           all_goals(try first|omega|rfl)
          ·have q59:¬(v56<0):=auq h58
           rw[if_neg q59]at hF
           repeat(first|refine chk.ga ?_|simp -dsimp[h2,q3,h6,q7,o_h,o_h20,o_h25,h28,h30,q31,h36,q37,h42,q43,h48,q49,h52,h58,q59])
           refine abr.split (fun h60=> ?_) (fun h60=> ?_)
           ·have q61:¬(v56=v54.2):=auq h60
            rw[if_neg q61]at hF
            cases hF
            repeat(first|refine chk.ga ?_|simp -dsimp[h2,q3,h6,q7,o_h,o_h20,o_h25,h28,h30,q31,h36,q37,h42,q43,h48,q49,h52,h58,q59,h60,q61])
            all_goals(try first|omega|rfl)
           ·have q61:(v56=v54.2):=auq h60
            rw[if_pos q61]at hF
            repeat(first|refine chk.ga ?_|simp -dsimp[h2,q3,h6,q7,o_h,o_h20,o_h25,h28,h30,q31,h36,q37,h42,q43,h48,q49,h52,h58,q59,h60,q61])
            refine ADraw.opn ?_
            refine ADraw.effF [] [0,1,2,3,4,5,6,10,7,8,9,11,12] [22] 6 [0,1,2,3,4,5,7,6,8,9,10,11,12] [101,102,103,104,105,106] [(0,0),(0,3),(0,0),(0,3),(0,0),(0,3),(0,3),(0,3),(1,2),(1,2),(1,3),(0,3),(3,3)] [1,1,1,1,1,1,1,1,1,0,0,1,1] [(0,1),(0,3),(0,1),(0,3),(0,1),(0,3),(0,3),(0,3),(2,2),(2,2),(2,3),(0,3),(3,3)] [1,1,2,1,2,1,1,1,1,1,0,1,1] (by decide) follows (by kernel_rfl) (by kernel_rfl) (by kernel_rfl) (by kernel_rfl) (by kernel_rfl) (by kernel_rfl) (by kernel_rfl) (by kernel_rfl) (by kernel_rfl) (by kernel_rfl) (by kernel_rfl) (by kernel_rfl) (by kernel_rfl) (by kernel_rfl) (by kernel_rfl) rfl (by kernel_rfl) rfl ?_
            intro L hL
            simp only[permL_nil,permL_cons,List.getD_cons_zero,List.getD_cons_succ,List.toList_toArray]at hL
            subst hL
            repeat(first|refine chk.ga ?_|simp -dsimp[h2,q3,h6,q7,o_h,o_h20,o_h25,h28,h30,q31,h36,q37,h42,q43,h48,q49,h52,h58,q59,h60,q61])
            have hF:=ob hF;obtain⟨v62,e63,hF⟩:=hF
            refine((C.f21 B hB1 hB2 aW v62 e63)).pgoW (by first|simp[h2,q3,h6,q7,o_h,o_h20,o_h25,h28,h30,q31,h36,q37,h42,q43,h48,q49,h52,h58,q59,h60,q61];done|simp_all) (by simp) ?_
            repeat(first|refine chk.ga ?_|simp -dsimp[h2,q3,h6,q7,o_h,o_h20,o_h25,h28,h30,q31,h36,q37,h42,q43,h48,q49,h52,h58,q59,h60,q61])
            have hF:=ob hF;obtain⟨v64,e65,hF⟩:=hF
            refine((C.f13 B hB1 hB2 aT v64 e65)).pgoW (by first|simp[h2,q3,h6,q7,o_h,o_h20,o_h25,h28,h30,q31,h36,q37,h42,q43,h48,q49,h52,h58,q59,h60,q61];done|simp_all) (by simp) ?_
            repeat(first|refine chk.ga ?_|simp -dsimp[h2,q3,h6,q7,o_h,o_h20,o_h25,h28,h30,q31,h36,q37,h42,q43,h48,q49,h52,h58,q59,h60,q61])
            have hF:=ob hF;obtain⟨v66,e67,hF⟩:=hF
            refine((C.f26 B hB1 hB2 aC v66 e67)).pgoW (by first|simp[h2,q3,h6,q7,o_h,o_h20,o_h25,h28,h30,q31,h36,q37,h42,q43,h48,q49,h52,h58,q59,h60,q61];done|simp_all) (by simp) ?_
            repeat(first|refine chk.ga ?_|simp -dsimp[h2,q3,h6,q7,o_h,o_h20,o_h25,h28,h30,q31,h36,q37,h42,q43,h48,q49,h52,h58,q59,h60,q61])
            refine⟨holdI ?_,?_⟩
            focus
             intro L2 hL2
             simp only[permL_nil,permL_cons,List.getD_cons_zero,List.getD_cons_succ,List.toList_toArray]at hL2
             subst hL2
             repeat(first|refine chk.ga ?_|simp -dsimp[h2,q3,h6,q7,o_h,o_h20,o_h25,h28,h30,q31,h36,q37,h42,q43,h48,q49,h52,h58,q59,h60,q61])
             refine((C.f21 B hB1 hB2 aW v62 e63)).pgoW (by first|simp[h2,q3,h6,q7,o_h,o_h20,o_h25,h28,h30,q31,h36,q37,h42,q43,h48,q49,h52,h58,q59,h60,q61];done|simp_all) (by simp) ?_
             repeat(first|refine chk.ga ?_|simp -dsimp[h2,q3,h6,q7,o_h,o_h20,o_h25,h28,h30,q31,h36,q37,h42,q43,h48,q49,h52,h58,q59,h60,q61])
             refine((C.f13 B hB1 hB2 aT v64 e65)).pgoW (by first|simp[h2,q3,h6,q7,o_h,o_h20,o_h25,h28,h30,q31,h36,q37,h42,q43,h48,q49,h52,h58,q59,h60,q61];done|simp_all) (by simp) ?_
             repeat(first|refine chk.ga ?_|simp -dsimp[h2,q3,h6,q7,o_h,o_h20,o_h25,h28,h30,q31,h36,q37,h42,q43,h48,q49,h52,h58,q59,h60,q61])
             refine((C.f26 B hB1 hB2 aC v66 e67)).pgoW (by first|simp[h2,q3,h6,q7,o_h,o_h20,o_h25,h28,h30,q31,h36,q37,h42,q43,h48,q49,h52,h58,q59,h60,q61];done|simp_all) (by simp) ?_
             repeat(first|refine chk.ga ?_|simp -dsimp[h2,q3,h6,q7,o_h,o_h20,o_h25,h28,h30,q31,h36,q37,h42,q43,h48,q49,h52,h58,q59,h60,q61])
            all_goals
             have hF:=ob hF;obtain⟨v68,e69,hF⟩:=hF
             refine((C.impl_GuardPattern__f B hB1 hB2 v62 v64 v66 v68 e69)).ngo1 (by first|simp -dsimp[h2,q3,h6,q7,o_h,o_h20,o_h25,h28,h30,q31,h36,q37,h42,q43,h48,q49,h52,h58,q59,h60,q61];done|simp_all) (by simp) (fun h70 o_h70=> ?_)
             repeat(first|refine chk.ga ?_|simp -dsimp[h2,q3,h6,q7,o_h,o_h20,o_h25,h28,h30,q31,h36,q37,h42,q43,h48,q49,h52,h58,q59,h60,q61,o_h70])
             have hF:=ob hF;obtain⟨v71,e72,hF⟩:=hF
             refine((C.f149 B hB1 hB2 v68.1 v14.1 v71 e72)).lend (by first|simp -dsimp[h2,q3,h6,q7,o_h,o_h20,o_h25,h28,h30,q31,h36,q37,h42,q43,h48,q49,h52,h58,q59,h60,q61,o_h70];done|simp_all) (by simp -dsimp) ?_
             repeat(first|refine chk.ga ?_|simp -dsimp[h2,q3,h6,q7,o_h,o_h20,o_h25,h28,h30,q31,h36,q37,h42,q43,h48,q49,h52,h58,q59,h60,q61,o_h70])
             refine abr.split (fun h73=> ?_) (fun h73=> ?_)
             ·have q74:(v71=true):=auq h73
              rw[if_pos q74]at hF
              repeat(first|refine chk.ga ?_|simp -dsimp[h2,q3,h6,q7,o_h,o_h20,o_h25,h28,h30,q31,h36,q37,h42,q43,h48,q49,h52,h58,q59,h60,q61,o_h70,h73])
              refine abr.split (fun h75=> ?_) (fun h75=> ?_)
              ·have q76:¬(v68.2=v14.2):=auq h75
               rw[if_neg q76]at hF
               cases hF
               repeat(first|refine chk.ga ?_|simp -dsimp[h2,q3,h6,q7,o_h,o_h20,o_h25,h28,h30,q31,h36,q37,h42,q43,h48,q49,h52,h58,q59,h60,q61,o_h70,h73,h75,q76])
               all_goals(try first|omega|rfl)
              ·have q76:(v68.2=v14.2):=auq h75
               rw[if_pos q76]at hF
               repeat(first|refine chk.ga ?_|simp -dsimp[h2,q3,h6,q7,o_h,o_h20,o_h25,h28,h30,q31,h36,q37,h42,q43,h48,q49,h52,h58,q59,h60,q61,o_h70,h73,h75,q76])
               have hF:=ob hF;obtain⟨v77,e78,hF⟩:=hF
               refine((C.f162 B hB1 hB2 (⟨(⟨v23.1.pat.op,v23.1.pat.ctor,v23.1.pat.n,v23.1.pat.m,v23.1.pat.var,v54.1⟩:Vl.Pattern),v23.1.guard⟩:Vl.Clause) (1:Int) v77 e78)).lend (by first|simp -dsimp[h2,q3,h6,q7,o_h,o_h20,o_h25,h28,h30,q31,h36,q37,h42,q43,h48,q49,h52,h58,q59,h60,q61,o_h70,h73,h75,q76];done|simp_all) (by simp -dsimp) ?_
               repeat(first|refine chk.ga ?_|simp -dsimp[h2,q3,h6,q7,o_h,o_h20,o_h25,h28,h30,q31,h36,q37,h42,q43,h48,q49,h52,h58,q59,h60,q61,o_h70,h73,h75,q76])
               refine abr.split (fun h79=> ?_) (fun h79=> ?_)
               ·have q80:(v77<0):=auq h79
                rw[if_pos q80]at hF
                cases hF
                repeat(first|refine chk.ga ?_|simp -dsimp[h2,q3,h6,q7,o_h,o_h20,o_h25,h28,h30,q31,h36,q37,h42,q43,h48,q49,h52,h58,q59,h60,q61,o_h70,h73,h75,q76,h79])
                all_goals(try first|omega|rfl)
               ·have q80:¬(v77<0):=auq h79
                rw[if_neg q80]at hF
                repeat(first|refine chk.ga ?_|simp -dsimp[h2,q3,h6,q7,o_h,o_h20,o_h25,h28,h30,q31,h36,q37,h42,q43,h48,q49,h52,h58,q59,h60,q61,o_h70,h73,h75,q76,h79,q80])
                refine abr.split (fun h81=> ?_) (fun h81=> ?_)
                ·have q82:¬(v77=v54.2):=auq h81
                 rw[if_neg q82]at hF
                 cases hF
                 repeat(first|refine chk.ga ?_|simp -dsimp[h2,q3,h6,q7,o_h,o_h20,o_h25,h28,h30,q31,h36,q37,h42,q43,h48,q49,h52,h58,q59,h60,q61,o_h70,h73,h75,q76,h79,q80,h81,q82])
                 all_goals(try first|omega|rfl)
                ·have q82:(v77=v54.2):=auq h81
                 rw[if_pos q82]at hF
                 cases hF
                 repeat(first|refine chk.ga ?_|simp -dsimp[h2,q3,h6,q7,o_h,o_h20,o_h25,h28,h30,q31,h36,q37,h42,q43,h48,q49,h52,h58,q59,h60,q61,o_h70,h73,h75,q76,h79,q80,h81,q82])
                 all_goals(try first|omega|rfl)
             ·have q74:¬(v71=true):=auq h73
              rw[if_neg q74]at hF
              cases hF
              repeat(first|refine chk.ga ?_|simp -dsimp[h2,q3,h6,q7,o_h,o_h20,o_h25,h28,h30,q31,h36,q37,h42,q43,h48,q49,h52,h58,q59,h60,q61,o_h70,h73,q74])
              all_goals(try first|omega|rfl)
         ·have q53:¬(v50=true):=auq h52
          rw[if_neg q53]at hF
          cases hF
          repeat(first|refine chk.ga ?_|simp -dsimp[h2,q3,h6,q7,o_h,o_h20,o_h25,h28,h30,q31,h36,q37,h42,q43,h48,q49,h52,q53])
          all_goals(try first|omega|rfl)
        ·have q49:(v46.2<0):=auq h48
         rw[if_pos q49]at hF
         cases hF
         repeat(first|refine chk.ga ?_|simp -dsimp[h2,q3,h6,q7,o_h,o_h20,o_h25,h28,h30,q31,h36,q37,h42,q43,h48,q49])
         all_goals(try first|omega|rfl)
    ·have q29:¬(v26=true):=auq h28
     rw[if_neg q29]at hF
     cases hF
     repeat(first|refine chk.ga ?_|simp -dsimp[h2,q3,h6,q7,o_h,o_h20,o_h25,h28,q29])
     all_goals(try first|omega|rfl)
end Go.Proofs.YtfiegdkhobmbaaaGreat
