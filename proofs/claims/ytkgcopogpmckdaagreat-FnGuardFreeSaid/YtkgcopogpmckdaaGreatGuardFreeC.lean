/- The contracts: the code computes the functions (printed by gen.py). -/
import Derived.Test.YtkgcopogpmckdaaGreatProg
import Derived.Test.YtkgcopogpmckdaaGreatGuardFreeF
import Derived.Test.YtkgcopogpmckdaaGreatGuardFreeC2
namespace Go.Proofs.YtkgcopogpmckdaaGreat
open Go Go.Proofs Go.Vl
set_option linter.all false
set_option maxRecDepth 100000
set_option maxHeartbeats 4000000
set_option synthInstance.maxSize 100000
attribute [local irreducible] ECallA NCallA aL aLg AMake MLoop AgainM LeaveM awpM aopsM MutCall BCall chk abr ACall ALoop ALoopU ADraw Again Leave PCallA PCall Post awp aops PureCall hold
variable (B : Nat) (hB1 : 67108864 ≤ B) (hB2 : B ≤ 9223372036854775807)
include hB1 hB2
theorem CC.f164 (n:Int)(m:Int):(∀(p:Pattern) (r:Pattern×Bool),F.f164 p n m=some r→PureCall Tryz.prog B 140 [.agg [.lit (.int .i64 p.op),.lit (.int .i64 p.ctor),.lit (.int .i64 p.n),.lit (.int .i64 p.m),.lit (.int .i64 p.var),.arr (List.map Pattern.c p.kids)],.lit (.int .i64 n),.lit (.int .i64 m)] (.tup [.agg [.lit (.int .i64 r.1.op),.lit (.int .i64 r.1.ctor),.lit (.int .i64 r.1.n),.lit (.int .i64 r.1.m),.lit (.int .i64 r.1.var),.arr (List.map Pattern.c r.1.kids)],.lit (.bool r.2)])):=by
 refine F.f164.partial_correctness n m
  _
  ?_
 ·intro _f_f164 ih_f164 p r hF
  refine PureCall.enterLe Tryz.func140 (by kernel_rfl) rfl Tryz.ntmps140 (by simp) (by simp) ?_
  repeat first|refine cg ?_|simp -dsimp
  revert hF;refine abr.sp ?_ ?_<;>intro h1 q2 hF
  ·cases hF
   repeat first|refine cg ?_|simp -dsimp[h1]
   all_goals(try first|omega|rfl)
  ·repeat first|refine cg ?_|simp -dsimp[h1,q2]
   revert hF;refine abr.sp ?_ ?_<;>intro h3 q4 hF
   ·cases hF
    repeat first|refine cg ?_|simp -dsimp[h1,q2,h3]
    all_goals(try first|omega|rfl)
   ·repeat first|refine cg ?_|simp -dsimp[h1,q2,h3,q4]
    revert hF;refine abr.sp ?_ ?_<;>intro h5 q6 hF
    ·repeat first|refine cg ?_|simp -dsimp[h1,q2,h3,q4,h5]
     refine ADraw.eff [] [(0,0),(0,1),(0,1),(0,1),(0,1),(0,1),(0,1),(1,1)] [1,0,2,0,2,1,1,1] follows (by kernel_rfl) (by kernel_rfl) (by kernel_rfl) ?_
     cases hF
     repeat first|refine cg ?_|simp -dsimp[h1,q2,h3,q4,h5]
     all_goals(try first|omega|rfl)
    ·repeat first|refine cg ?_|simp -dsimp[h1,q2,h3,q4,h5,q6]
     revert hF;refine abr.sp ?_ ?_<;>intro h7 q8 hF
     ·have hF:=ob hF;obtain⟨x,e9,hF⟩:=hF
      have le9:=lt_of_get e9
      repeat first|refine cg ?_|simp -dsimp[h1,q2,h3,q4,h5,q6,h7,↓e9]
      have hF:=ob hF;obtain⟨v,e10,hF⟩:=hF
      refine((ih_f164 x v e10)).goW (by first|simp[h1,q2,h3,q4,h5,q6,h7,↓e9];done|simp_all) (by simp) ?_
      cases hF
      repeat first|refine cg ?_|simp -dsimp[h1,q2,h3,q4,h5,q6,h7,↓e9]
      all_goals(try first|omega|rfl)
     ·have hF:=ob hF;obtain⟨x11,e12,hF⟩:=hF
      have le12:=lt_of_get e12
      repeat first|refine cg ?_|simp -dsimp[h1,q2,h3,q4,h5,q6,h7,q8,↓e12]
      have hF:=ob hF;obtain⟨v13,e14,hF⟩:=hF
      refine((ih_f164 x11 v13 e14)).goW (by first|simp[h1,q2,h3,q4,h5,q6,h7,q8,↓e12];done|simp_all) (by simp) ?_
      have hF:=ob hF;obtain⟨x15,e16,hF⟩:=hF
      have le16:=lt_of_get e16
      repeat first|refine cg ?_|simp -dsimp[h1,q2,h3,q4,h5,q6,h7,q8,↓e12,↓e16]
      have hF:=ob hF;obtain⟨v17,e18,hF⟩:=hF
      refine((ih_f164 x15 v17 e18)).goW (by first|simp[h1,q2,h3,q4,h5,q6,h7,q8,↓e12,↓e16];done|simp_all) (by simp) ?_
      repeat first|refine cg ?_|simp -dsimp[h1,q2,h3,q4,h5,q6,h7,q8,↓e12,↓e16]
      revert hF;refine abr.sp (fun h19 q20 hF=> ?_) (fun h19 q20 hF=> ?_)
      ·repeat first|refine cg ?_|simp -dsimp[h1,q2,h3,q4,h5,q6,h7,q8,↓e12,↓e16,h19]
       revert hF;refine abr.sp (fun h21 q22 hF=> ?_) (fun h21 q22 hF=> ?_)
       ·cases hF
        repeat first|refine cg ?_|simp -dsimp[h1,q2,h3,q4,h5,q6,h7,q8,↓e12,↓e16,h19,h21]
        all_goals(try first|omega|rfl)
       ·cases hF
        repeat first|refine cg ?_|simp -dsimp[h1,q2,h3,q4,h5,q6,h7,q8,↓e12,↓e16,h19,h21,q22]
        all_goals(try first|omega|rfl)
      ·cases hF
       repeat first|refine cg ?_|simp -dsimp[h1,q2,h3,q4,h5,q6,h7,q8,↓e12,↓e16,h19,q20]
       all_goals(try first|omega|rfl)
theorem C.f165 (s:List Pattern)(r:List Pattern)(hF:F.f165 s=some r):BCall Tryz.prog B 108 [] [.arr (List.map Pattern.c s)] (.own 0 (List.length (α:=Pattern) r)) [.elems 6 (List.map Pattern.c r)]:=by
 unfold F.f165 at hF
 have hF:=oc hF;obtain⟨c1,hF⟩:=hF
 cases hF
 cases s with
 |nil=>
  refine BCall.empty1 fun a c=> ?_
  cases a
  ·refine BCall.ofNil 6 (by simp) (by simp) ?_
   refine PureCall.enterLe Tryz.func108 (by kernel_rfl) rfl Tryz.ntmps108 (by simp) (by simp) ?_
   repeat first|refine cg ?_|simp -dsimp
  ·refine BCall.enter Tryz.func108 (by kernel_rfl) rfl Tryz.ntmps108 (by simp) rfl (by simp) (by simp) (by simp) (by simp) (by simp) (Gh.refl _) ?_
   repeat first|refine cg ?_|simp -dsimp
 |cons x xs=>
  have c1:xs.length+1≤67108864:=by simpa using c1
  refine BCall.enter Tryz.func108 (by kernel_rfl) rfl Tryz.ntmps108 (by simp) rfl (by simp) (by simp) (by simp) (by simp) (by simp) (Gh.refl _) ?_
  repeat first|refine cg ?_|simp -dsimp
theorem CC.f166 (v:Int)(n:Int)(m:Int):(∀(p:Pattern) (r:Pattern×Bool×Bool),F.f166 p v n m=some r→PureCall Tryz.prog B 84 [.agg [.lit (.int .i64 p.op),.lit (.int .i64 p.ctor),.lit (.int .i64 p.n),.lit (.int .i64 p.m),.lit (.int .i64 p.var),.arr (List.map Pattern.c p.kids)],.lit (.int .i64 v),.lit (.int .i64 n),.lit (.int .i64 m)] (.tup [.agg [.lit (.int .i64 r.1.op),.lit (.int .i64 r.1.ctor),.lit (.int .i64 r.1.n),.lit (.int .i64 r.1.m),.lit (.int .i64 r.1.var),.arr (List.map Pattern.c r.1.kids)],.lit (.bool r.2.1),.lit (.bool r.2.2)]))∧
  (∀(p:Pattern) (i26:Nat) (o:Lo (Pattern×Bool×Bool) Unit),F.f168 p v n m i26=some o→∀(c:Code),navO [1,1,1,0,1,0,0] (bodyOf Tryz.f84)=some c→∀(Q:Exit→ASt→Prop),o.post (fun r=>∀st,Post Tryz.prog Tryz.f84 (fun r' _=>r'.le (.tup [.agg [.lit (.int .i64 r.1.op),.lit (.int .i64 r.1.ctor),.lit (.int .i64 r.1.n),.lit (.int .i64 r.1.m),.lit (.int .i64 r.1.var),.arr (List.map Pattern.c r.1.kids)],.lit (.bool r.2.1),.lit (.bool r.2.2)])) .ret st→Q .ret st) (fun s=>Q (.exit 0) ⟨[(4,.ptr 0 0),(8,.ptr 1 0)],[.cells [.lit (.int .i64 p.op),.lit (.int .i64 p.ctor),.lit (.int .i64 p.n),.lit (.int .i64 p.m),.lit (.int .i64 p.var),.arr (List.map Pattern.c p.kids)],.cells [.lit (.int .i64 0),.lit (.int .i64 0),.lit (.int .i64 0),.lit (.int .i64 0),.lit (.int .i64 0),.lit (.slice none 0 0)]]⟩)→ALoopU Tryz.prog B 0 75 (hold c .mk) ⟨[(1,.lit (.int .i64 v)),(2,.lit (.int .i64 n)),(3,.lit (.int .i64 m)),(4,.ptr 0 0),(8,.ptr 1 0),(44,.arr (List.map Pattern.c p.kids)),(45,.lit (.int .i64 (p.kids.length:Int))),(46,.lit (.int .i64 (i26:Int)))],[.cells [.lit (.int .i64 p.op),.lit (.int .i64 p.ctor),.lit (.int .i64 p.n),.lit (.int .i64 p.m),.lit (.int .i64 p.var),.arr (List.map Pattern.c p.kids)],.cells [.lit (.int .i64 0),.lit (.int .i64 0),.lit (.int .i64 0),.lit (.int .i64 0),.lit (.int .i64 0),.lit (.slice none 0 0)]]⟩ (hold Q .mk))∧
  (∀(p:Pattern) (i:Nat) (o:Lo (Pattern×Bool×Bool) Unit),F.f167 p v n m i=some o→∀(c:Code),navO [1,1,1,0,1,0,0] (bodyOf Tryz.f84)=some c→∀(Q:Exit→ASt→Prop),o.post (fun r=>∀st,Post Tryz.prog Tryz.f84 (fun r' _=>r'.le (.tup [.agg [.lit (.int .i64 r.1.op),.lit (.int .i64 r.1.ctor),.lit (.int .i64 r.1.n),.lit (.int .i64 r.1.m),.lit (.int .i64 r.1.var),.arr (List.map Pattern.c r.1.kids)],.lit (.bool r.2.1),.lit (.bool r.2.2)])) .ret st→Q .ret st) (fun s=>Q (.exit 0) ⟨[(4,.ptr 0 0),(8,.ptr 1 0)],[.cells [.lit (.int .i64 p.op),.lit (.int .i64 p.ctor),.lit (.int .i64 p.n),.lit (.int .i64 p.m),.lit (.int .i64 p.var),.arr (List.map Pattern.c p.kids)],.cells [.lit (.int .i64 0),.lit (.int .i64 0),.lit (.int .i64 0),.lit (.int .i64 0),.lit (.int .i64 0),.lit (.slice none 0 0)]]⟩)→ALoopU Tryz.prog B 0 75 (hold c .mk) ⟨[(1,.lit (.int .i64 v)),(2,.lit (.int .i64 n)),(3,.lit (.int .i64 m)),(4,.ptr 0 0),(8,.ptr 1 0),(44,.arr (List.map Pattern.c p.kids)),(45,.lit (.int .i64 (p.kids.length:Int))),(46,.lit (.int .i64 (i:Int)))],[.cells [.lit (.int .i64 p.op),.lit (.int .i64 p.ctor),.lit (.int .i64 p.n),.lit (.int .i64 p.m),.lit (.int .i64 p.var),.arr (List.map Pattern.c p.kids)],.cells [.lit (.int .i64 0),.lit (.int .i64 0),.lit (.int .i64 0),.lit (.int .i64 0),.lit (.int .i64 0),.lit (.slice none 0 0)]]⟩ (hold Q .mk))∧
  (∀(p:Pattern) (i50:Nat) (o:Lo (Pattern×Bool×Bool) Unit),F.f169 p v n m i50=some o→∀(c:Code),navO [1,1,1,0,1,0,0] (bodyOf Tryz.f84)=some c→∀(Q:Exit→ASt→Prop),o.post (fun r=>∀st,Post Tryz.prog Tryz.f84 (fun r' _=>r'.le (.tup [.agg [.lit (.int .i64 r.1.op),.lit (.int .i64 r.1.ctor),.lit (.int .i64 r.1.n),.lit (.int .i64 r.1.m),.lit (.int .i64 r.1.var),.arr (List.map Pattern.c r.1.kids)],.lit (.bool r.2.1),.lit (.bool r.2.2)])) .ret st→Q .ret st) (fun s=>Q (.exit 0) ⟨[(4,.ptr 0 0),(8,.ptr 1 0)],[.cells [.lit (.int .i64 p.op),.lit (.int .i64 p.ctor),.lit (.int .i64 p.n),.lit (.int .i64 p.m),.lit (.int .i64 p.var),.arr (List.map Pattern.c p.kids)],.cells [.lit (.int .i64 0),.lit (.int .i64 0),.lit (.int .i64 0),.lit (.int .i64 0),.lit (.int .i64 0),.lit (.slice none 0 0)]]⟩)→ALoopU Tryz.prog B 0 75 (hold c .mk) ⟨[(1,.lit (.int .i64 v)),(2,.lit (.int .i64 n)),(3,.lit (.int .i64 m)),(4,.ptr 0 0),(8,.ptr 1 0),(44,.arr (List.map Pattern.c p.kids)),(45,.lit (.int .i64 (p.kids.length:Int))),(46,.lit (.int .i64 (i50:Int)))],[.cells [.lit (.int .i64 p.op),.lit (.int .i64 p.ctor),.lit (.int .i64 p.n),.lit (.int .i64 p.m),.lit (.int .i64 p.var),.arr (List.map Pattern.c p.kids)],.cells [.lit (.int .i64 0),.lit (.int .i64 0),.lit (.int .i64 0),.lit (.int .i64 0),.lit (.int .i64 0),.lit (.slice none 0 0)]]⟩ (hold Q .mk)):=by
 refine F.f166.mutual_partial_correctness v n m
  _ _ _ _
  ?_ ?_ ?_ ?_
 ·intro _f_f168 _f_f167 _f_f169 ih_f168 ih_f167 ih_f169 p r hF
  refine PureCall.enterLe Tryz.func84 (by kernel_rfl) rfl Tryz.ntmps84 (by simp) (by simp) ?_
  repeat first|refine cg ?_|simp -dsimp
  revert hF;refine abr.ns ?_ ?_<;>intro h1 q2 hF
  ·repeat first|refine cg ?_|simp -dsimp[h1,q2]
   revert hF;refine abr.sp ?_ ?_<;>intro h3 q4 hF
   ·repeat first|refine cg ?_|simp -dsimp[h1,q2,h3]
    revert hF;refine abr.sp ?_ ?_<;>intro h5 q6 hF
    ·repeat first|refine cg ?_|simp -dsimp[h1,q2,h3,h5]
     have hF:=ob hF;obtain⟨v7,e8,hF⟩:=hF
     refine(((CC.f164 B hB1 hB2 n m) p v7 e8)).goW (by first|simp[h1,q2,h3,h5];done|simp_all) (by simp) ?_
     cases hF
     repeat first|refine cg ?_|simp -dsimp[h1,q2,h3,h5]
     all_goals(try first|omega|rfl)
    ·have n9:¬(p.op=5):=by omega
     repeat first|refine cg ?_|simp -dsimp[h1,q2,h3,h5,q6,n9]
     have hF:=ob hF;obtain⟨o',ho23,hF⟩:=hF
     refine ALoop.goU _ ?_ ((ih_f167 p 0 o' ho23) _ rfl _ ?_)
     ·exact(Gh.to3 (by simp) (by first|simp -dsimp[h1,q2,h3,h5,q6,n9];done|simp_all))
     rcases o' with r0|sx
     ·dsimp only at hF
      cases hF
      intro st h
      simpa using h
     ·dsimp only at hF
      cases hF
      repeat first|refine cg ?_|simp -dsimp
      all_goals(try first|omega|rfl)
   ·repeat first|refine cg ?_|simp -dsimp[h1,q2,h3,q4]
    revert hF;refine abr.sp ?_ ?_<;>intro h24 q25 hF
    ·cases hF
     repeat first|refine cg ?_|simp -dsimp[h1,q2,h3,q4,h24]
     all_goals(try first|omega|rfl)
    ·repeat first|refine cg ?_|simp -dsimp[h1,q2,h3,q4,h24,q25]
     have hF:=ob hF;obtain⟨o'42,ho41,hF⟩:=hF
     refine ALoop.goU _ ?_ ((ih_f168 p 0 o'42 ho41) _ rfl _ ?_)
     ·exact(Gh.to3 (by simp) (by first|simp -dsimp[h1,q2,h3,q4,h24,q25];done|simp_all))
     rcases o'42 with r044|sx43
     ·dsimp only at hF
      cases hF
      intro st h
      simpa using h
     ·dsimp only at hF
      cases hF
      repeat first|refine cg ?_|simp -dsimp
      all_goals(try first|omega|rfl)
  ·repeat first|refine cg ?_|simp -dsimp[h1,q2]
   revert hF;refine abr.sp ?_ ?_<;>intro h45 q46 hF
   ·repeat first|refine cg ?_|simp -dsimp[h1,q2,h45]
    have hF:=ob hF;obtain⟨v47,e48,hF⟩:=hF
    refine(((CC.f164 B hB1 hB2 n m) p v47 e48)).goW (by first|simp[h1,q2,h45];done|simp_all) (by simp) ?_
    cases hF
    repeat first|refine cg ?_|simp -dsimp[h1,q2,h45]
    all_goals(try first|omega|rfl)
   ·have n49:¬(p.op=5):=by omega
    repeat first|refine cg ?_|simp -dsimp[h1,q2,h45,q46,n49]
    have hF:=ob hF;obtain⟨o'66,ho65,hF⟩:=hF
    refine ALoop.goU _ ?_ ((ih_f169 p 0 o'66 ho65) _ rfl _ ?_)
    ·exact(Gh.to3 (by simp) (by first|simp -dsimp[h1,q2,h45,q46,n49];done|simp_all))
    rcases o'66 with r068|sx67
    ·dsimp only at hF
     cases hF
     intro st h
     simpa using h
    ·dsimp only at hF
     cases hF
     repeat first|refine cg ?_|simp -dsimp
     all_goals(try first|omega|rfl)
 ·intro _f_f166 _f_f168 ih_f166 ih_f168 p i26 o hF
  intro c hc Q hq
  obtain rfl:c=_:=navEq hc rfl
  refine ALoopU.know fun hk hs=> ?_
  have b44:=hk 44
  simp -dsimp at b44
  have d0:=hs 0 _ rfl
  simp -dsimp[Blk.bnd]at d0
  clear hk hs
  refine ALoopU.enter ?_
  repeat first|refine cg ?_|simp -dsimp
  revert hF;refine abr.sp ?_ ?_<;>intro h27 q28 hF
  ·have z29:((i26:Int)<(p.kids.length:Int)):=auz
   have hF:=ob hF;obtain⟨x30,e31,hF⟩:=hF
   have le31:=lt_of_get e31
   repeat first|refine cg ?_|simp -dsimp[h27,z29,↓e31]
   have hF:=ob hF;obtain⟨v32,e33,hF⟩:=hF
   refine((ih_f166 x30 v32 e33)).goW (by first|simp[h27,z29,↓e31];done|simp_all) (by simp) ?_
   repeat first|refine cg ?_|simp -dsimp[h27,z29,↓e31]
   revert hF;refine abr.sp (fun h34 q35 hF=> ?_) (fun h34 q35 hF=> ?_)
   ·repeat first|refine cg ?_|simp -dsimp[h27,z29,↓e31,h34]
    have hF:=ob hF;obtain⟨v36,e37,hF⟩:=hF
    refine((C.f165 B hB1 hB2 p.kids v36 e37)).go (pl [4]) (by simp) (by simp) (by intro i j hi;simp at hi) (by intro i hi hi';simp at hi hi';first|omega|(subst hi';simp[pl])) (by first|simp[h27,z29,↓e31,h34];done|simp_all) (by first|simp[h27,z29,↓e31,h34];done|simp_all) ?_
    have hF:=ob hF;obtain⟨x38,e39,hF⟩:=hF
    have le39:=lt_of_get e39
    cases hF
    repeat first|refine cg ?_|simp -dsimp[h27,z29,↓e31,h34,↓e39]
    refine Leave.go _ (Gh.refl _) (hq _ ?_)
    repeat first|refine cg ?_|simp -dsimp[h27,z29,↓e31,h34,↓e39]
   ·have w40:IntKind.i64.wrap ((i26:Int)+1)=(i26:Int)+1:=wrap_in (by omega) (by omega)
    repeat first|refine cg ?_|simp -dsimp[h27,z29,↓e31,h34,q35,w40]
    refine Again.go _ ?_ ((ih_f168 p (i26+1) o hF) _ rfl _ hq)
    exact(Gh.to3 (by simp) (by first|simp -dsimp[h27,z29,↓e31,h34,q35,w40];done|simp_all))
  ·have z29:¬((i26:Int)<(p.kids.length:Int)):=auz
   cases hF
   repeat first|refine cg ?_|simp -dsimp[h27,q28,z29]
   refine Leave.go _ (Gh.to3 (by simp) (by first|simp -dsimp[h27,q28,z29];done|simp_all)) hq
 ·intro _f_f166 _f_f167 ih_f166 ih_f167 p i o hF
  intro c hc Q hq
  obtain rfl:c=_:=navEq hc rfl
  refine ALoopU.know fun hk hs=> ?_
  have b44:=hk 44
  simp -dsimp at b44
  have d0:=hs 0 _ rfl
  simp -dsimp[Blk.bnd]at d0
  clear hk hs
  refine ALoopU.enter ?_
  repeat first|refine cg ?_|simp -dsimp
  revert hF;refine abr.sp ?_ ?_<;>intro h10 q11 hF
  ·have z12:((i:Int)<(p.kids.length:Int)):=auz
   have hF:=ob hF;obtain⟨x,e13,hF⟩:=hF
   have le13:=lt_of_get e13
   repeat first|refine cg ?_|simp -dsimp[h10,z12,↓e13]
   have hF:=ob hF;obtain⟨v14,e15,hF⟩:=hF
   refine((ih_f166 x v14 e15)).goW (by first|simp[h10,z12,↓e13];done|simp_all) (by simp) ?_
   repeat first|refine cg ?_|simp -dsimp[h10,z12,↓e13]
   revert hF;refine abr.sp (fun h16 q17 hF=> ?_) (fun h16 q17 hF=> ?_)
   ·repeat first|refine cg ?_|simp -dsimp[h10,z12,↓e13,h16]
    have hF:=ob hF;obtain⟨v18,e19,hF⟩:=hF
    refine((C.f165 B hB1 hB2 p.kids v18 e19)).go (pl [4]) (by simp) (by simp) (by intro i j hi;simp at hi) (by intro i hi hi';simp at hi hi';first|omega|(subst hi';simp[pl])) (by first|simp[h10,z12,↓e13,h16];done|simp_all) (by first|simp[h10,z12,↓e13,h16];done|simp_all) ?_
    have hF:=ob hF;obtain⟨x20,e21,hF⟩:=hF
    have le21:=lt_of_get e21
    cases hF
    repeat first|refine cg ?_|simp -dsimp[h10,z12,↓e13,h16,↓e21]
    refine Leave.go _ (Gh.refl _) (hq _ ?_)
    repeat first|refine cg ?_|simp -dsimp[h10,z12,↓e13,h16,↓e21]
   ·have w22:IntKind.i64.wrap ((i:Int)+1)=(i:Int)+1:=wrap_in (by omega) (by omega)
    repeat first|refine cg ?_|simp -dsimp[h10,z12,↓e13,h16,q17,w22]
    refine Again.go _ ?_ ((ih_f167 p (i+1) o hF) _ rfl _ hq)
    exact(Gh.to3 (by simp) (by first|simp -dsimp[h10,z12,↓e13,h16,q17,w22];done|simp_all))
  ·have z12:¬((i:Int)<(p.kids.length:Int)):=auz
   cases hF
   repeat first|refine cg ?_|simp -dsimp[h10,q11,z12]
   refine Leave.go _ (Gh.to3 (by simp) (by first|simp -dsimp[h10,q11,z12];done|simp_all)) hq
 ·intro _f_f166 _f_f169 ih_f166 ih_f169 p i50 o hF
  intro c hc Q hq
  obtain rfl:c=_:=navEq hc rfl
  refine ALoopU.know fun hk hs=> ?_
  have b44:=hk 44
  simp -dsimp at b44
  have d0:=hs 0 _ rfl
  simp -dsimp[Blk.bnd]at d0
  clear hk hs
  refine ALoopU.enter ?_
  repeat first|refine cg ?_|simp -dsimp
  revert hF;refine abr.sp ?_ ?_<;>intro h51 q52 hF
  ·have z53:((i50:Int)<(p.kids.length:Int)):=auz
   have hF:=ob hF;obtain⟨x54,e55,hF⟩:=hF
   have le55:=lt_of_get e55
   repeat first|refine cg ?_|simp -dsimp[h51,z53,↓e55]
   have hF:=ob hF;obtain⟨v56,e57,hF⟩:=hF
   refine((ih_f166 x54 v56 e57)).goW (by first|simp[h51,z53,↓e55];done|simp_all) (by simp) ?_
   repeat first|refine cg ?_|simp -dsimp[h51,z53,↓e55]
   revert hF;refine abr.sp (fun h58 q59 hF=> ?_) (fun h58 q59 hF=> ?_)
   ·repeat first|refine cg ?_|simp -dsimp[h51,z53,↓e55,h58]
    have hF:=ob hF;obtain⟨v60,e61,hF⟩:=hF
    refine((C.f165 B hB1 hB2 p.kids v60 e61)).go (pl [4]) (by simp) (by simp) (by intro i j hi;simp at hi) (by intro i hi hi';simp at hi hi';first|omega|(subst hi';simp[pl])) (by first|simp[h51,z53,↓e55,h58];done|simp_all) (by first|simp[h51,z53,↓e55,h58];done|simp_all) ?_
    have hF:=ob hF;obtain⟨x62,e63,hF⟩:=hF
    have le63:=lt_of_get e63
    cases hF
    repeat first|refine cg ?_|simp -dsimp[h51,z53,↓e55,h58,↓e63]
    refine Leave.go _ (Gh.refl _) (hq _ ?_)
    repeat first|refine cg ?_|simp -dsimp[h51,z53,↓e55,h58,↓e63]
   ·have w64:IntKind.i64.wrap ((i50:Int)+1)=(i50:Int)+1:=wrap_in (by omega) (by omega)
    repeat first|refine cg ?_|simp -dsimp[h51,z53,↓e55,h58,q59,w64]
    refine Again.go _ ?_ ((ih_f169 p (i50+1) o hF) _ rfl _ hq)
    exact(Gh.to3 (by simp) (by first|simp -dsimp[h51,z53,↓e55,h58,q59,w64];done|simp_all))
  ·have z53:¬((i50:Int)<(p.kids.length:Int)):=auz
   cases hF
   repeat first|refine cg ?_|simp -dsimp[h51,q52,z53]
   refine Leave.go _ (Gh.to3 (by simp) (by first|simp -dsimp[h51,q52,z53];done|simp_all)) hq
theorem C.f170 (c':Clause)(r:Pattern×Bool×Bool)(hF:F.f170 c'=some r):PureCall Tryz.prog B 36 [.agg [.lit (.int .i64 c'.pat.op),.lit (.int .i64 c'.pat.ctor),.lit (.int .i64 c'.pat.n),.lit (.int .i64 c'.pat.m),.lit (.int .i64 c'.pat.var),.arr (List.map Pattern.c c'.pat.kids),.lit (.int .i64 c'.guard.op),.lit (.int .i64 c'.guard.var),.lit (.int .i64 c'.guard.n)]] (.tup [.agg [.lit (.int .i64 r.1.op),.lit (.int .i64 r.1.ctor),.lit (.int .i64 r.1.n),.lit (.int .i64 r.1.m),.lit (.int .i64 r.1.var),.arr (List.map Pattern.c r.1.kids)],.lit (.bool r.2.1),.lit (.bool r.2.2)]):=by
 unfold F.f170 at hF
 refine PureCall.enterLe Tryz.func36 (by kernel_rfl) rfl Tryz.ntmps36 (by simp) (by simp) ?_
 repeat first|refine cg ?_|simp -dsimp
 refine ADraw.simple follows (by kernel_rfl) (by kernel_rfl) ?_
 repeat first|refine cg ?_|simp -dsimp
 revert hF;refine abr.sp ?_ ?_<;>intro h1 q2 hF
 ·repeat first|refine cg ?_|simp -dsimp[h1]
  refine ADraw.simple follows (by kernel_rfl) (by kernel_rfl) ?_
  repeat first|refine cg ?_|simp -dsimp[h1]
  have hF:=ob hF;obtain⟨v,e3,hF⟩:=hF
  refine(((CC.f166 B hB1 hB2 c'.guard.var c'.guard.n c'.guard.n).1 c'.pat v e3)).goW (by first|simp[h1];done|simp_all) (by simp) ?_
  repeat first|refine cg ?_|simp -dsimp[h1]
  revert hF;refine abr.sp (fun h4 q5 hF=> ?_) (fun h4 q5 hF=> ?_)
  ·cases hF
   repeat first|refine cg ?_|simp -dsimp[h1,h4]
   all_goals(try first|omega|rfl)
  ·cases hF
   repeat first|refine cg ?_|simp -dsimp[h1,h4,q5]
   all_goals(try first|omega|rfl)
 ·repeat first|refine cg ?_|simp -dsimp[h1,q2]
  have hF:=ob hF;obtain⟨v6,e7,hF⟩:=hF
  refine(((CC.f166 B hB1 hB2 c'.guard.var 0 (IntKind.i64.wrap (c'.guard.n-1))).1 c'.pat v6 e7)).goW (by first|simp[h1,q2];done|simp_all) (by simp) ?_
  repeat first|refine cg ?_|simp -dsimp[h1,q2]
  revert hF;refine abr.sp (fun h8 q9 hF=> ?_) (fun h8 q9 hF=> ?_)
  ·cases hF
   repeat first|refine cg ?_|simp -dsimp[h1,q2,h8]
   all_goals(try first|omega|rfl)
  ·cases hF
   repeat first|refine cg ?_|simp -dsimp[h1,q2,h8,q9]
   all_goals(try first|omega|rfl)
theorem C.f171 (w:List Vl.Data)(t:Ty)(p:Pattern)(r:Bool)(hF:F.f171 w t p=some r):PureCall Tryz.prog B 37 [.arr (List.map Vl.Data.c w),.agg [.lit (.int .i64 t.data),.lit (.int .i64 t.index)],.agg [.lit (.int .i64 p.op),.lit (.int .i64 p.ctor),.lit (.int .i64 p.n),.lit (.int .i64 p.m),.lit (.int .i64 p.var),.arr (List.map Pattern.c p.kids)]] (.lit (.bool r)):=by
 unfold F.f171 at hF
 refine PureCall.enterLe Tryz.func37 (by kernel_rfl) rfl Tryz.ntmps37 (by simp) (by simp) ?_
 repeat first|refine cg ?_|simp -dsimp
 have hF:=ob hF;obtain⟨v,e1,hF⟩:=hF
 refine((C.f158 B hB1 hB2 w t p v e1)).goW (by simp) (by simp) ?_
 cases hF
 repeat first|refine cg ?_|simp -dsimp
 all_goals(try first|omega|rfl)
theorem C.f172 (w:List Vl.Data)(t:Ty)(c':Clause)(r:Clause×Bool)(hF:F.f172 w t c'=some r):PureCall Tryz.prog B 9 [.arr (List.map Vl.Data.c w),.agg [.lit (.int .i64 t.data),.lit (.int .i64 t.index)],.agg [.lit (.int .i64 c'.pat.op),.lit (.int .i64 c'.pat.ctor),.lit (.int .i64 c'.pat.n),.lit (.int .i64 c'.pat.m),.lit (.int .i64 c'.pat.var),.arr (List.map Pattern.c c'.pat.kids),.lit (.int .i64 c'.guard.op),.lit (.int .i64 c'.guard.var),.lit (.int .i64 c'.guard.n)]] (.tup [.agg [.lit (.int .i64 r.1.pat.op),.lit (.int .i64 r.1.pat.ctor),.lit (.int .i64 r.1.pat.n),.lit (.int .i64 r.1.pat.m),.lit (.int .i64 r.1.pat.var),.arr (List.map Pattern.c r.1.pat.kids),.lit (.int .i64 r.1.guard.op),.lit (.int .i64 r.1.guard.var),.lit (.int .i64 r.1.guard.n)],.lit (.bool r.2)]):=by
 unfold F.f172 at hF
 refine PureCall.enterLe Tryz.func9 (by kernel_rfl) rfl Tryz.ntmps9 (by simp) (by simp) ?_
 repeat first|refine cg ?_|simp -dsimp
 have hF:=ob hF;obtain⟨v,e1,hF⟩:=hF
 refine((C.f161 B hB1 hB2 w t c' v e1)).goW (by simp) (by simp) ?_
 repeat first|refine cg ?_|simp -dsimp
 revert hF;refine abr.ns (fun h2 q3 hF=> ?_) (fun h2 q3 hF=> ?_)
 ·cases hF
  repeat first|refine cg ?_|simp -dsimp[h2,q3]
  all_goals(try first|omega|rfl)
 ·repeat first|refine cg ?_|simp -dsimp[h2,q3]
  revert hF;refine abr.sp ?_ ?_<;>intro h4 q5 hF
  ·repeat first|refine cg ?_|simp -dsimp[h2,q3,h4]
   have hF:=ob hF;obtain⟨v6,e7,hF⟩:=hF
   refine(((CC.f162 B hB1 hB2).1 c'.pat v6 e7)).goW (by first|simp[h2,q3,h4];done|simp_all) (by simp) ?_
   cases hF
   repeat first|refine cg ?_|simp -dsimp[h2,q3,h4]
   all_goals(try first|omega|rfl)
  ·repeat first|refine cg ?_|simp -dsimp[h2,q3,h4,q5]
   have hF:=ob hF;obtain⟨v8,e9,hF⟩:=hF
   refine((C.f170 B hB1 hB2 c' v8 e9)).goW (by first|simp[h2,q3,h4,q5];done|simp_all) (by simp) ?_
   repeat first|refine cg ?_|simp -dsimp[h2,q3,h4,q5]
   revert hF;refine abr.sp (fun h10 q11 hF=> ?_) (fun h10 q11 hF=> ?_)
   ·repeat first|refine cg ?_|simp -dsimp[h2,q3,h4,q5,h10]
    revert hF;refine abr.sp (fun h12 q13 hF=> ?_) (fun h12 q13 hF=> ?_)
    ·repeat first|refine cg ?_|simp -dsimp[h2,q3,h4,q5,h10,h12]
     have hF:=ob hF;obtain⟨v14,e15,hF⟩:=hF
     refine((C.f171 B hB1 hB2 w t v8.1 v14 e15)).goW (by first|simp[h2,q3,h4,q5,h10,h12];done|simp_all) (by simp) ?_
     repeat first|refine cg ?_|simp -dsimp[h2,q3,h4,q5,h10,h12]
     revert hF;refine abr.ns (fun h16 q17 hF=> ?_) (fun h16 q17 hF=> ?_)
     ·cases hF
      repeat first|refine cg ?_|simp -dsimp[h2,q3,h4,q5,h10,h12,h16,q17]
      all_goals(try first|omega|rfl)
     ·repeat first|refine cg ?_|simp -dsimp[h2,q3,h4,q5,h10,h12,h16,q17]
      have hF:=ob hF;obtain⟨v18,e19,hF⟩:=hF
      refine(((CC.f162 B hB1 hB2).1 v8.1 v18 e19)).goW (by first|simp[h2,q3,h4,q5,h10,h12,h16,q17];done|simp_all) (by simp) ?_
      cases hF
      repeat first|refine cg ?_|simp -dsimp[h2,q3,h4,q5,h10,h12,h16,q17]
      all_goals(try first|omega|rfl)
    ·cases hF
     repeat first|refine cg ?_|simp -dsimp[h2,q3,h4,q5,h10,h12,q13]
     all_goals(try first|omega|rfl)
   ·cases hF
    repeat first|refine cg ?_|simp -dsimp[h2,q3,h4,q5,h10,q11]
    all_goals(try first|omega|rfl)
theorem C.f173 (w:List Vl.Data)(t:Ty)(c':Clause)(r:Bool)(hF:F.f173 w t c'=some r):PureCall Tryz.prog B 38 [.arr (List.map Vl.Data.c w),.agg [.lit (.int .i64 t.data),.lit (.int .i64 t.index)],.agg [.lit (.int .i64 c'.pat.op),.lit (.int .i64 c'.pat.ctor),.lit (.int .i64 c'.pat.n),.lit (.int .i64 c'.pat.m),.lit (.int .i64 c'.pat.var),.arr (List.map Pattern.c c'.pat.kids),.lit (.int .i64 c'.guard.op),.lit (.int .i64 c'.guard.var),.lit (.int .i64 c'.guard.n)]] (.lit (.bool r)):=by
 unfold F.f173 at hF
 refine PureCall.enterLe Tryz.func38 (by kernel_rfl) rfl Tryz.ntmps38 (by simp) (by simp) ?_
 repeat first|refine cg ?_|simp -dsimp
 have hF:=ob hF;obtain⟨v,e1,hF⟩:=hF
 refine((C.f39 B hB1 hB2 w t v e1)).goW (by simp) (by simp) ?_
 repeat first|refine cg ?_|simp -dsimp
 revert hF;refine abr.sp (fun h2 q3 hF=> ?_) (fun h2 q3 hF=> ?_)
 ·repeat first|refine cg ?_|simp -dsimp[h2]
  have hF:=ob hF;obtain⟨v4,e5,hF⟩:=hF
  refine((C.f79 B hB1 hB2 w t c' v4 e5)).goW (by first|simp[h2];done|simp_all) (by simp) ?_
  cases hF
  repeat first|refine cg ?_|simp -dsimp[h2]
  all_goals(try first|omega|rfl)
 ·cases hF
  repeat first|refine cg ?_|simp -dsimp[h2,q3]
  all_goals(try first|omega|rfl)
theorem CC.f174 (v:Int):(∀(p:Pattern) (r:Bool),F.f174 p v=some r→PureCall Tryz.prog B 86 [.agg [.lit (.int .i64 p.op),.lit (.int .i64 p.ctor),.lit (.int .i64 p.n),.lit (.int .i64 p.m),.lit (.int .i64 p.var),.arr (List.map Pattern.c p.kids)],.lit (.int .i64 v)] (.lit (.bool r)))∧
  (∀(p:Pattern) (i:Nat) (o:Lo Bool Unit),F.f175 p v i=some o→∀(c:Code),navO [1,0,1,0,0] (bodyOf Tryz.f86)=some c→∀(Q:Exit→ASt→Prop),o.post (fun r=>∀st,Post Tryz.prog Tryz.f86 (fun r' _=>r'.le (.lit (.bool r))) .ret st→Q .ret st) (fun s=>Q (.exit 0) ⟨[(1,.lit (.int .i64 v)),(2,.ptr 0 0)],[.cells [.lit (.int .i64 p.op),.lit (.int .i64 p.ctor),.lit (.int .i64 p.n),.lit (.int .i64 p.m),.lit (.int .i64 p.var),.arr (List.map Pattern.c p.kids)]]⟩)→ALoopU Tryz.prog B 0 34 (hold c .mk) ⟨[(1,.lit (.int .i64 v)),(2,.ptr 0 0),(5,.lit (.int .i64 (i:Int)))],[.cells [.lit (.int .i64 p.op),.lit (.int .i64 p.ctor),.lit (.int .i64 p.n),.lit (.int .i64 p.m),.lit (.int .i64 p.var),.arr (List.map Pattern.c p.kids)]]⟩ (hold Q .mk)):=by
 refine F.f174.mutual_partial_correctness v
  _ _
  ?_ ?_
 ·intro _f_f175 ih_f175 p r hF
  refine PureCall.enterLe Tryz.func86 (by kernel_rfl) rfl Tryz.ntmps86 (by simp) (by simp) ?_
  repeat first|refine cg ?_|simp -dsimp
  have hF:=ob hF;obtain⟨o',ho10,hF⟩:=hF
  refine ALoop.goU _ ?_ ((ih_f175 p 0 o' ho10) _ rfl _ ?_)
  ·exact(Gh.to3 (by simp) (by simp -dsimp))
  rcases o' with r0|sx
  ·dsimp only at hF
   cases hF
   intro st h
   simpa using h
  ·dsimp only at hF
   repeat first|refine cg ?_|simp -dsimp
   revert hF;refine abr.ns ?_ ?_<;>intro h11 q12 hF
   ·repeat first|refine cg ?_|simp -dsimp[h11,q12]
    revert hF;refine abr.sp ?_ ?_<;>intro h13 q14 hF
    ·cases hF
     repeat first|refine cg ?_|simp -dsimp[h11,q12,h13]
     all_goals(try first|omega|rfl)
    ·cases hF
     repeat first|refine cg ?_|simp -dsimp[h11,q12,h13,q14]
     all_goals(try first|omega|rfl)
   ·cases hF
    repeat first|refine cg ?_|simp -dsimp[h11,q12]
    all_goals(try first|omega|rfl)
 ·intro _f_f174 _f_f175 ih_f174 ih_f175 p i o hF
  intro c hc Q hq
  obtain rfl:c=_:=navEq hc rfl
  refine ALoopU.know fun hk hs=> ?_
  have d0:=hs 0 _ rfl
  simp -dsimp[Blk.bnd]at d0
  clear hk hs
  refine ALoopU.enter ?_
  repeat first|refine cg ?_|simp -dsimp
  revert hF;refine abr.sp ?_ ?_<;>intro h1 q2 hF
  ·have z3:((i:Int)<(p.kids.length:Int)):=auz
   have hF:=ob hF;obtain⟨x,e4,hF⟩:=hF
   have le4:=lt_of_get e4
   repeat first|refine cg ?_|simp -dsimp[h1,z3,↓e4]
   have hF:=ob hF;obtain⟨v5,e6,hF⟩:=hF
   refine((ih_f174 x v5 e6)).goW (by first|simp[h1,z3,↓e4];done|simp_all) (by simp) ?_
   repeat first|refine cg ?_|simp -dsimp[h1,z3,↓e4]
   revert hF;refine abr.sp (fun h7 q8 hF=> ?_) (fun h7 q8 hF=> ?_)
   ·cases hF
    repeat first|refine cg ?_|simp -dsimp[h1,z3,↓e4,h7]
    refine Leave.go _ (Gh.refl _) (hq _ ?_)
    repeat first|refine cg ?_|simp -dsimp[h1,z3,↓e4,h7]
   ·have w9:IntKind.i64.wrap ((i:Int)+1)=(i:Int)+1:=wrap_in (by omega) (by omega)
    repeat first|refine cg ?_|simp -dsimp[h1,z3,↓e4,h7,q8,w9]
    refine Again.go _ ?_ ((ih_f175 p (i+1) o hF) _ rfl _ hq)
    exact(Gh.to3 (by simp) (by first|simp -dsimp[h1,z3,↓e4,h7,q8,w9];done|simp_all))
  ·have z3:¬((i:Int)<(p.kids.length:Int)):=auz
   cases hF
   repeat first|refine cg ?_|simp -dsimp[h1,q2,z3]
   refine Leave.go _ (Gh.to3 (by simp) (by first|simp -dsimp[h1,q2,z3];done|simp_all)) hq
theorem CC.f176 (v:Int):(∀(p:Pattern) (r:Bool),F.f176 p v=some r→PureCall Tryz.prog B 39 [.agg [.lit (.int .i64 p.op),.lit (.int .i64 p.ctor),.lit (.int .i64 p.n),.lit (.int .i64 p.m),.lit (.int .i64 p.var),.arr (List.map Pattern.c p.kids)],.lit (.int .i64 v)] (.lit (.bool r)))∧
  (∀(p:Pattern) (i:Nat) (o:Lo Bool Unit),F.f177 p v i=some o→∀(c:Code),navO [1,0,1,0,0] (bodyOf Tryz.f39)=some c→∀(Q:Exit→ASt→Prop),o.post (fun r=>∀st,Post Tryz.prog Tryz.f39 (fun r' _=>r'.le (.lit (.bool r))) .ret st→Q .ret st) (fun s=>Q (.exit 0) ⟨[],[]⟩)→ALoopU Tryz.prog B 0 34 (hold c .mk) ⟨[(1,.lit (.int .i64 v)),(2,.ptr 0 0),(5,.lit (.int .i64 (i:Int)))],[.cells [.lit (.int .i64 p.op),.lit (.int .i64 p.ctor),.lit (.int .i64 p.n),.lit (.int .i64 p.m),.lit (.int .i64 p.var),.arr (List.map Pattern.c p.kids)]]⟩ (hold Q .mk)):=by
 refine F.f176.mutual_partial_correctness v
  _ _
  ?_ ?_
 ·intro _f_f177 ih_f177 p r hF
  refine PureCall.enterLe Tryz.func39 (by kernel_rfl) rfl Tryz.ntmps39 (by simp) (by simp) ?_
  repeat first|refine cg ?_|simp -dsimp
  have hF:=ob hF;obtain⟨o',ho23,hF⟩:=hF
  refine ALoop.goU _ ?_ ((ih_f177 p 0 o' ho23) _ rfl _ ?_)
  ·exact(Gh.to3 (by simp) (by simp -dsimp))
  rcases o' with r0|sx
  ·dsimp only at hF
   cases hF
   intro st h
   simpa using h
  ·dsimp only at hF
   cases hF
   repeat first|refine cg ?_|simp -dsimp
   all_goals(try first|omega|rfl)
 ·intro _f_f176 _f_f177 ih_f176 ih_f177 p i o hF
  intro c hc Q hq
  obtain rfl:c=_:=navEq hc rfl
  refine ALoopU.know fun hk hs=> ?_
  have d0:=hs 0 _ rfl
  simp -dsimp[Blk.bnd]at d0
  clear hk hs
  refine ALoopU.enter ?_
  repeat first|refine cg ?_|simp -dsimp
  revert hF;refine abr.sp ?_ ?_<;>intro h1 q2 hF
  ·have z3:((i:Int)<(p.kids.length:Int)):=auz
   repeat first|refine cg ?_|simp -dsimp[h1,z3]
   revert hF;refine abr.sp ?_ ?_<;>intro h4 q5 hF
   ·have hF:=ob hF;obtain⟨x,e6,hF⟩:=hF
    have le6:=lt_of_get e6
    repeat first|refine cg ?_|simp -dsimp[h1,z3,h4,↓e6]
    have hF:=ob hF;obtain⟨v7,e8,hF⟩:=hF
    refine(((CC.f174 B hB1 hB2 v).1 x v7 e8)).goW (by first|simp[h1,z3,h4,↓e6];done|simp_all) (by simp) ?_
    repeat first|refine cg ?_|simp -dsimp[h1,z3,h4,↓e6]
    revert hF;refine abr.ns (fun h9 q10 hF=> ?_) (fun h9 q10 hF=> ?_)
    ·repeat first|refine cg ?_|simp -dsimp[h1,z3,h4,↓e6,h9,q10]
     have hF:=ob hF;obtain⟨v11,e12,hF⟩:=hF
     refine((ih_f176 x v11 e12)).goW (by first|simp[h1,z3,h4,↓e6,h9,q10];done|simp_all) (by simp) ?_
     repeat first|refine cg ?_|simp -dsimp[h1,z3,h4,↓e6,h9,q10]
     revert hF;refine abr.sp (fun h13 q14 hF=> ?_) (fun h13 q14 hF=> ?_)
     ·cases hF
      repeat first|refine cg ?_|simp -dsimp[h1,z3,h4,↓e6,h9,q10,h13]
      refine Leave.go _ (Gh.refl _) (hq _ ?_)
      repeat first|refine cg ?_|simp -dsimp[h1,z3,h4,↓e6,h9,q10,h13]
     ·have w15:IntKind.i64.wrap ((i:Int)+1)=(i:Int)+1:=wrap_in (by omega) (by omega)
      repeat first|refine cg ?_|simp -dsimp[h1,z3,h4,↓e6,h9,q10,h13,q14,w15]
      refine Again.go _ ?_ ((ih_f177 p (i+1) o hF) _ rfl _ hq)
      exact(Gh.to3 (by simp) (by first|simp -dsimp[h1,z3,h4,↓e6,h9,q10,h13,q14,w15];done|simp_all))
    ·cases hF
     repeat first|refine cg ?_|simp -dsimp[h1,z3,h4,↓e6,h9,q10]
     refine Leave.go _ (Gh.refl _) (hq _ ?_)
     repeat first|refine cg ?_|simp -dsimp[h1,z3,h4,↓e6,h9,q10]
   ·have hF:=ob hF;obtain⟨x16,e17,hF⟩:=hF
    have le17:=lt_of_get e17
    repeat first|refine cg ?_|simp -dsimp[h1,z3,h4,q5,↓e17]
    have hF:=ob hF;obtain⟨v18,e19,hF⟩:=hF
    refine((ih_f176 x16 v18 e19)).goW (by first|simp[h1,z3,h4,q5,↓e17];done|simp_all) (by simp) ?_
    repeat first|refine cg ?_|simp -dsimp[h1,z3,h4,q5,↓e17]
    revert hF;refine abr.sp (fun h20 q21 hF=> ?_) (fun h20 q21 hF=> ?_)
    ·cases hF
     repeat first|refine cg ?_|simp -dsimp[h1,z3,h4,q5,↓e17,h20]
     refine Leave.go _ (Gh.refl _) (hq _ ?_)
     repeat first|refine cg ?_|simp -dsimp[h1,z3,h4,q5,↓e17,h20]
    ·have w22:IntKind.i64.wrap ((i:Int)+1)=(i:Int)+1:=wrap_in (by omega) (by omega)
     repeat first|refine cg ?_|simp -dsimp[h1,z3,h4,q5,↓e17,h20,q21,w22]
     refine Again.go _ ?_ ((ih_f177 p (i+1) o hF) _ rfl _ hq)
     exact(Gh.to3 (by simp) (by first|simp -dsimp[h1,z3,h4,q5,↓e17,h20,q21,w22];done|simp_all))
  ·have z3:¬((i:Int)<(p.kids.length:Int)):=auz
   cases hF
   repeat first|refine cg ?_|simp -dsimp[h1,q2,z3]
   refine Leave.go _ (Gh.to3 (by simp) (by first|simp -dsimp[h1,q2,z3];done|simp_all)) hq
theorem CC.f178  :(∀(p:Pattern) (r:Pattern),F.f178 p=some r→PureCall Tryz.prog B 51 [.agg [.lit (.int .i64 p.op),.lit (.int .i64 p.ctor),.lit (.int .i64 p.n),.lit (.int .i64 p.m),.lit (.int .i64 p.var),.arr (List.map Pattern.c p.kids)]] (.agg [.lit (.int .i64 r.op),.lit (.int .i64 r.ctor),.lit (.int .i64 r.n),.lit (.int .i64 r.m),.lit (.int .i64 r.var),.arr (List.map Pattern.c r.kids)]))∧
  (∀(p:Pattern) (out:List Pattern) (i:Nat) (o:List Pattern),F.f179 p out i=some o→∀(c:Code),navO [1,1,1,0,1,0,0] (bodyOf Tryz.f51)=some c→∀(Q:Exit→ASt→Prop),(Q (.exit 0) ⟨[(2,.ptr 1 0),(3,.ptr 2 0)],[.dead,.cells [.lit (.int .i64 0),.lit (.int .i64 0),.lit (.int .i64 0),.lit (.int .i64 0),.lit (.int .i64 0),.lit (.slice none 0 0)],.cells [.lit (.int .i64 p.op),.lit (.int .i64 p.ctor),.lit (.int .i64 p.n),.lit (.int .i64 p.m),.lit (.int .i64 p.var),.own 3 (List.length (α:=Pattern) o)],.elems 6 (List.map Pattern.c o)]⟩)→ALoopU Tryz.prog B 0 26 (hold c .mk) ⟨[(1,.ptr 0 0),(2,.ptr 1 0),(3,.ptr 2 0),(4,.lit (.int .i64 (i:Int)))],[.cells [.lit (.int .i64 p.op),.lit (.int .i64 p.ctor),.lit (.int .i64 p.n),.lit (.int .i64 p.m),.lit (.int .i64 p.var),.arr (List.map Pattern.c p.kids)],.cells [.lit (.int .i64 0),.lit (.int .i64 0),.lit (.int .i64 0),.lit (.int .i64 0),.lit (.int .i64 0),.lit (.slice none 0 0)],.cells [.lit (.int .i64 p.op),.lit (.int .i64 p.ctor),.lit (.int .i64 p.n),.lit (.int .i64 p.m),.lit (.int .i64 p.var),.own 3 (List.length (α:=Pattern) out)],.elems 6 (List.map Pattern.c out)]⟩ (hold Q .mk)):=by
 refine F.f178.mutual_partial_correctness 
  _ _
  ?_ ?_
 ·intro _f_f179 ih_f179 p r hF
  refine PureCall.enterLe Tryz.func51 (by kernel_rfl) rfl Tryz.ntmps51 (by simp) (by simp) ?_
  repeat first|refine cg ?_|simp -dsimp
  have hF:=ob hF;obtain⟨o',ho8,hF⟩:=hF
  refine ALoop.goU ⟨[(1,.ptr 0 0),(2,.ptr 1 0),(3,.ptr 2 0),(4,.lit (.int .i64 0))],[.cells [.lit (.int .i64 p.op),.lit (.int .i64 p.ctor),.lit (.int .i64 p.n),.lit (.int .i64 p.m),.lit (.int .i64 p.var),.arr (List.map Pattern.c p.kids)],.cells [.lit (.int .i64 0),.lit (.int .i64 0),.lit (.int .i64 0),.lit (.int .i64 0),.lit (.int .i64 0),.lit (.slice none 0 0)],.cells [.lit (.int .i64 p.op),.lit (.int .i64 p.ctor),.lit (.int .i64 p.n),.lit (.int .i64 p.m),.lit (.int .i64 p.var),.own 3 (List.length (α:=Pattern) [])],.elems 6 (List.map Pattern.c [])]⟩ (by refine Gh.trans (Gh.nilCell 2 5 6 (by simp -dsimp;rfl) (by simp -dsimp)) ?_;exact(Gh.to3 (by simp) (by simp -dsimp))) ?_
  refine(ih_f179 p [] 0 o' ho8) _ rfl _ ?_
  cases hF
  repeat first|refine cg ?_|simp -dsimp
  all_goals(try first|omega|rfl)
 ·intro _f_f178 _f_f179 ih_f178 ih_f179 p out i o hF
  intro c hc Q hq
  obtain rfl:c=_:=navEq hc rfl
  refine ALoopU.know fun hk hs=> ?_
  have d0:=hs 0 _ rfl
  simp -dsimp[Blk.bnd]at d0
  have d3:=hs 3 _ rfl
  simp -dsimp[Blk.bnd]at d3
  clear hk hs
  refine ALoopU.enter ?_
  repeat first|refine cg ?_|simp -dsimp
  revert hF;refine abr.sp ?_ ?_<;>intro h1 q2 hF
  ·have z3:((i:Int)<(p.kids.length:Int)):=auz
   repeat first|refine cg ?_|simp -dsimp[h1,z3]
   refine ADraw.eff [] [(0,1),(0,1),(0,0),(0,0),(0,0),(0,0),(0,0),(0,3),(0,3),(0,3),(2,2),(0,3)] [0,2,1,1,1,1,1,1,1,1,1,1] follows (by kernel_rfl) (by kernel_rfl) (by kernel_rfl) ?_
   have hF:=ob hF;obtain⟨x,e4,hF⟩:=hF
   have le4:=lt_of_get e4
   repeat first|refine cg ?_|simp -dsimp[h1,z3,↓e4]
   have hF:=ob hF;obtain⟨v,e5,hF⟩:=hF
   refine((ih_f178 x v e5)).pgoW (by first|simp[h1,z3,↓e4];done|simp_all) (by simp) ?_
   have hF:=oc hF;obtain⟨c6,hF⟩:=hF
   have w7:IntKind.i64.wrap ((i:Int)+1)=(i:Int)+1:=wrap_in (by omega) (by omega)
   repeat first|refine cg ?_|simp -dsimp[h1,z3,↓e4,w7]
   refine Again.go _ ?_ ((ih_f179 p (out++[v]) (i+1) o hF) _ rfl _ hq)
   exact(Gh.to3 (by simp) (by first|simp -dsimp[h1,z3,↓e4,w7];done|simp_all))
  ·have z3:¬((i:Int)<(p.kids.length:Int)):=auz
   cases hF
   repeat first|refine cg ?_|simp -dsimp[h1,q2,z3]
   refine Leave.go _ (Gh.to3 (by simp) (by first|simp -dsimp[h1,q2,z3];done|simp_all)) hq
theorem C.f180 (g:Guard)(r:Int×Int)(hF:F.f180 g=some r):PureCall Tryz.prog B 87 [.agg [.lit (.int .i64 g.op),.lit (.int .i64 g.var),.lit (.int .i64 g.n)]] (.tup [.lit (.int .i64 r.1),.lit (.int .i64 r.2)]):=by
 unfold F.f180 at hF
 refine PureCall.enterLe Tryz.func87 (by kernel_rfl) rfl Tryz.ntmps87 (by simp) (by simp) ?_
 repeat first|refine cg ?_|simp -dsimp
 revert hF;refine abr.sp ?_ ?_<;>intro h1 q2 hF
 ·repeat first|refine cg ?_|simp -dsimp[h1]
  refine ADraw.simple follows (by kernel_rfl) (by kernel_rfl) ?_
  cases hF
  repeat first|refine cg ?_|simp -dsimp[h1]
  all_goals(try first|omega|rfl)
 ·repeat first|refine cg ?_|simp -dsimp[h1,q2]
  refine ADraw.simple follows (by kernel_rfl) (by kernel_rfl) ?_
  cases hF
  repeat first|refine cg ?_|simp -dsimp[h1,q2]
  all_goals(try first|omega|rfl)
theorem CC.f181  :(∀(a:Pattern) (b:Pattern) (r:Pattern×Bool),F.f181 a b=some r→PureCall Tryz.prog B 177 [.agg [.lit (.int .i64 a.op),.lit (.int .i64 a.ctor),.lit (.int .i64 a.n),.lit (.int .i64 a.m),.lit (.int .i64 a.var),.arr (List.map Pattern.c a.kids)],.agg [.lit (.int .i64 b.op),.lit (.int .i64 b.ctor),.lit (.int .i64 b.n),.lit (.int .i64 b.m),.lit (.int .i64 b.var),.arr (List.map Pattern.c b.kids)]] (.tup [.agg [.lit (.int .i64 r.1.op),.lit (.int .i64 r.1.ctor),.lit (.int .i64 r.1.n),.lit (.int .i64 r.1.m),.lit (.int .i64 r.1.var),.arr (List.map Pattern.c r.1.kids)],.lit (.bool r.2)]))∧
  (∀(a:Pattern) (b:Pattern) (out:List Pattern) (i:Nat) (o:Lo (Pattern×Bool) (List Pattern)),F.f182 a b out i=some o→∀(c:Code),navO [1,1,1,0,1,0,0] (bodyOf Tryz.f177)=some c→∀(Q:Exit→ASt→Prop),o.post (fun r=>∀st,Post Tryz.prog Tryz.f177 (fun r' _=>r'.le (.tup [.agg [.lit (.int .i64 r.1.op),.lit (.int .i64 r.1.ctor),.lit (.int .i64 r.1.n),.lit (.int .i64 r.1.m),.lit (.int .i64 r.1.var),.arr (List.map Pattern.c r.1.kids)],.lit (.bool r.2)])) .ret st→Q .ret st) (fun s=>Q (.exit 1) ⟨[(4,.ptr 2 0),(8,.ptr 3 0)],[.dead,.dead,.cells [.lit (.int .i64 0),.lit (.int .i64 0),.lit (.int .i64 0),.lit (.int .i64 0),.lit (.int .i64 0),.lit (.slice none 0 0)],.cells [.lit (.int .i64 4),.lit (.int .i64 a.ctor),.lit (.int .i64 0),.lit (.int .i64 0),.lit (.int .i64 0),.own 4 (List.length (α:=Pattern) s)],.elems 6 (List.map Pattern.c s)]⟩)→ALoopU Tryz.prog B 0 89 (hold c .mk) ⟨[(2,.ptr 0 0),(3,.ptr 1 0),(4,.ptr 2 0),(8,.ptr 3 0),(9,.lit (.int .i64 (i:Int)))],[.cells [.lit (.int .i64 a.op),.lit (.int .i64 a.ctor),.lit (.int .i64 a.n),.lit (.int .i64 a.m),.lit (.int .i64 a.var),.arr (List.map Pattern.c a.kids)],.cells [.lit (.int .i64 b.op),.lit (.int .i64 b.ctor),.lit (.int .i64 b.n),.lit (.int .i64 b.m),.lit (.int .i64 b.var),.arr (List.map Pattern.c b.kids)],.cells [.lit (.int .i64 0),.lit (.int .i64 0),.lit (.int .i64 0),.lit (.int .i64 0),.lit (.int .i64 0),.lit (.slice none 0 0)],.cells [.lit (.int .i64 4),.lit (.int .i64 a.ctor),.lit (.int .i64 0),.lit (.int .i64 0),.lit (.int .i64 0),.own 4 (List.length (α:=Pattern) out)],.elems 6 (List.map Pattern.c out)]⟩ (hold Q .mk)):=by
 refine F.f181.mutual_partial_correctness 
  _ _
  ?_ ?_
 ·intro _f_f182 ih_f182 a b r hF
  refine PureCall.enterLe Tryz.func177 (by kernel_rfl) rfl Tryz.ntmps177 (by simp) (by simp) ?_
  repeat first|refine cg ?_|simp -dsimp
  revert hF;refine abr.sp ?_ ?_<;>intro h1 q2 hF
  ·cases hF
   repeat first|refine cg ?_|simp -dsimp[h1]
   all_goals(try first|omega|rfl)
  ·repeat first|refine cg ?_|simp -dsimp[h1,q2]
   revert hF;refine abr.sp ?_ ?_<;>intro h3 q4 hF
   ·cases hF
    repeat first|refine cg ?_|simp -dsimp[h1,q2,h3]
    all_goals(try first|omega|rfl)
   ·repeat first|refine cg ?_|simp -dsimp[h1,q2,h3,q4]
    revert hF;refine abr.sp ?_ ?_<;>intro h5 q6 hF
    ·repeat first|refine cg ?_|simp -dsimp[h1,q2,h3,q4,h5]
     revert hF;refine abr.sp ?_ ?_<;>intro h7 q8 hF
     ·repeat first|refine cg ?_|simp -dsimp[h1,q2,h3,q4,h5,h7]
      revert hF;refine abr.sp ?_ ?_<;>intro h9 q10 hF
      ·cases hF
       repeat first|refine cg ?_|simp -dsimp[h1,q2,h3,q4,h5,h7,h9]
       all_goals(try first|omega|rfl)
      ·cases hF
       repeat first|refine cg ?_|simp -dsimp[h1,q2,h3,q4,h5,h7,h9,q10]
       all_goals(try first|omega|rfl)
     ·repeat first|refine cg ?_|simp -dsimp[h1,q2,h3,q4,h5,h7,q8]
      revert hF;refine abr.sp ?_ ?_<;>intro h11 q12 hF
      ·cases hF
       repeat first|refine cg ?_|simp -dsimp[h1,q2,h3,q4,h5,h7,q8,h11]
       all_goals(try first|omega|rfl)
      ·cases hF
       repeat first|refine cg ?_|simp -dsimp[h1,q2,h3,q4,h5,h7,q8,h11,q12]
       all_goals(try first|omega|rfl)
    ·repeat first|refine cg ?_|simp -dsimp[h1,q2,h3,q4,h5,q6]
     revert hF;refine abr.ns ?_ ?_<;>intro h13 q14 hF
     ·cases hF
      repeat first|refine cg ?_|simp -dsimp[h1,q2,h3,q4,h5,q6,h13,q14]
      all_goals(try first|omega|rfl)
     ·repeat first|refine cg ?_|simp -dsimp[h1,q2,h3,q4,h5,q6,h13,q14]
      have hF:=ob hF;obtain⟨o',ho26,hF⟩:=hF
      refine ALoop.goU ⟨[(2,.ptr 0 0),(3,.ptr 1 0),(4,.ptr 2 0),(8,.ptr 3 0),(9,.lit (.int .i64 0))],[.cells [.lit (.int .i64 a.op),.lit (.int .i64 a.ctor),.lit (.int .i64 a.n),.lit (.int .i64 a.m),.lit (.int .i64 a.var),.arr (List.map Pattern.c a.kids)],.cells [.lit (.int .i64 b.op),.lit (.int .i64 b.ctor),.lit (.int .i64 b.n),.lit (.int .i64 b.m),.lit (.int .i64 b.var),.arr (List.map Pattern.c b.kids)],.cells [.lit (.int .i64 0),.lit (.int .i64 0),.lit (.int .i64 0),.lit (.int .i64 0),.lit (.int .i64 0),.lit (.slice none 0 0)],.cells [.lit (.int .i64 4),.lit (.int .i64 a.ctor),.lit (.int .i64 0),.lit (.int .i64 0),.lit (.int .i64 0),.own 4 (List.length (α:=Pattern) [])],.elems 6 (List.map Pattern.c [])]⟩ (by refine Gh.trans (Gh.nilCell 3 5 6 (by simp -dsimp;rfl) (by simp -dsimp)) ?_;exact(Gh.to3 (by simp) (by first|simp -dsimp[h1,q2,h3,q4,h5,q6,h13,q14];done|simp_all))) ?_
      refine(ih_f182 a b [] 0 o' ho26) _ rfl _ ?_
      rcases o' with r0|sx
      ·dsimp only at hF
       cases hF
       intro st h
       simpa using h
      ·dsimp only at hF
       cases hF
       repeat first|refine cg ?_|simp -dsimp
       all_goals(try first|omega|rfl)
 ·intro _f_f181 _f_f182 ih_f181 ih_f182 a b out i o hF
  intro c hc Q hq
  obtain rfl:c=_:=navEq hc rfl
  refine ALoopU.know fun hk hs=> ?_
  have d0:=hs 0 _ rfl
  simp -dsimp[Blk.bnd]at d0
  have d1:=hs 1 _ rfl
  simp -dsimp[Blk.bnd]at d1
  have d4:=hs 4 _ rfl
  simp -dsimp[Blk.bnd]at d4
  clear hk hs
  refine ALoopU.enter ?_
  repeat first|refine cg ?_|simp -dsimp
  revert hF;refine abr.sp ?_ ?_<;>intro h15 q16 hF
  ·have z17:((i:Int)<(a.kids.length:Int)):=auz
   repeat first|refine cg ?_|simp -dsimp[h15,z17]
   refine ADraw.eff [] [(0,1),(0,1),(0,1),(0,1),(0,1),(0,1),(0,1),(0,1),(0,1),(0,1),(0,2),(0,1),(0,1),(0,2),(0,2),(0,2),(2,2)] [0,2,1,0,0,0,2,1,0,0,1,1,0,0,1,1,1] follows (by kernel_rfl) (by kernel_rfl) (by kernel_rfl) ?_
   have hF:=ob hF;obtain⟨x,e18,hF⟩:=hF
   have le18:=lt_of_get e18
   have hF:=ob hF;obtain⟨x19,e20,hF⟩:=hF
   have le20:=lt_of_get e20
   repeat first|refine cg ?_|simp -dsimp[h15,z17,↓e18,↓e20]
   have hF:=ob hF;obtain⟨v,e21,hF⟩:=hF
   refine((ih_f181 x x19 v e21)).pgoW (by first|simp[h15,z17,↓e18,↓e20];done|simp_all) (by simp) ?_
   repeat first|refine cg ?_|simp -dsimp[h15,z17,↓e18,↓e20]
   revert hF;refine abr.ns (fun h22 q23 hF=> ?_) (fun h22 q23 hF=> ?_)
   ·cases hF
    repeat first|refine cg ?_|simp -dsimp[h15,z17,↓e18,↓e20,h22,q23]
    refine Leave.go _ (Gh.refl _) (hq _ ?_)
    repeat first|refine cg ?_|simp -dsimp[h15,z17,↓e18,↓e20,h22,q23]
   ·have hF:=oc hF;obtain⟨c24,hF⟩:=hF
    have w25:IntKind.i64.wrap ((i:Int)+1)=(i:Int)+1:=wrap_in (by omega) (by omega)
    repeat first|refine cg ?_|simp -dsimp[h15,z17,↓e18,↓e20,h22,q23,w25]
    refine Again.go _ ?_ ((ih_f182 a b (out++[v.1]) (i+1) o hF) _ rfl _ hq)
    exact(Gh.to3 (by simp) (by first|simp -dsimp[h15,z17,↓e18,↓e20,h22,q23,w25];done|simp_all))
  ·have z17:¬((i:Int)<(a.kids.length:Int)):=auz
   cases hF
   repeat first|refine cg ?_|simp -dsimp[h15,q16,z17]
   refine Leave.go _ (Gh.to3 (by simp) (by first|simp -dsimp[h15,q16,z17];done|simp_all)) hq
theorem CC.f183 (n:Int)(m:Int):(∀(p:Pattern) (r:Pattern×Bool),F.f183 p n m=some r→PureCall Tryz.prog B 142 [.agg [.lit (.int .i64 p.op),.lit (.int .i64 p.ctor),.lit (.int .i64 p.n),.lit (.int .i64 p.m),.lit (.int .i64 p.var),.arr (List.map Pattern.c p.kids)],.lit (.int .i64 n),.lit (.int .i64 m)] (.tup [.agg [.lit (.int .i64 r.1.op),.lit (.int .i64 r.1.ctor),.lit (.int .i64 r.1.n),.lit (.int .i64 r.1.m),.lit (.int .i64 r.1.var),.arr (List.map Pattern.c r.1.kids)],.lit (.bool r.2)])):=by
 refine F.f183.partial_correctness n m
  _
  ?_
 ·intro _f_f183 ih_f183 p r hF
  refine PureCall.enterLe Tryz.func142 (by kernel_rfl) rfl Tryz.ntmps142 (by simp) (by simp) ?_
  repeat first|refine cg ?_|simp -dsimp
  revert hF;refine abr.sp ?_ ?_<;>intro h1 q2 hF
  ·cases hF
   repeat first|refine cg ?_|simp -dsimp[h1]
   all_goals(try first|omega|rfl)
  ·repeat first|refine cg ?_|simp -dsimp[h1,q2]
   revert hF;refine abr.sp ?_ ?_<;>intro h3 q4 hF
   ·cases hF
    repeat first|refine cg ?_|simp -dsimp[h1,q2,h3]
    all_goals(try first|omega|rfl)
   ·repeat first|refine cg ?_|simp -dsimp[h1,q2,h3,q4]
    revert hF;refine abr.sp ?_ ?_<;>intro h5 q6 hF
    ·have hF:=ob hF;obtain⟨x,e7,hF⟩:=hF
     have le7:=lt_of_get e7
     repeat first|refine cg ?_|simp -dsimp[h1,q2,h3,q4,h5,↓e7]
     have hF:=ob hF;obtain⟨v,e8,hF⟩:=hF
     refine((ih_f183 x v e8)).goW (by first|simp[h1,q2,h3,q4,h5,↓e7];done|simp_all) (by simp) ?_
     cases hF
     repeat first|refine cg ?_|simp -dsimp[h1,q2,h3,q4,h5,↓e7]
     all_goals(try first|omega|rfl)
    ·repeat first|refine cg ?_|simp -dsimp[h1,q2,h3,q4,h5,q6]
     revert hF;refine abr.sp ?_ ?_<;>intro h9 q10 hF
     ·have hF:=ob hF;obtain⟨x11,e12,hF⟩:=hF
      have le12:=lt_of_get e12
      repeat first|refine cg ?_|simp -dsimp[h1,q2,h3,q4,h5,q6,h9,↓e12]
      have hF:=ob hF;obtain⟨v13,e14,hF⟩:=hF
      refine((ih_f183 x11 v13 e14)).goW (by first|simp[h1,q2,h3,q4,h5,q6,h9,↓e12];done|simp_all) (by simp) ?_
      have hF:=ob hF;obtain⟨x15,e16,hF⟩:=hF
      have le16:=lt_of_get e16
      repeat first|refine cg ?_|simp -dsimp[h1,q2,h3,q4,h5,q6,h9,↓e12,↓e16]
      have hF:=ob hF;obtain⟨v17,e18,hF⟩:=hF
      refine((ih_f183 x15 v17 e18)).goW (by first|simp[h1,q2,h3,q4,h5,q6,h9,↓e12,↓e16];done|simp_all) (by simp) ?_
      repeat first|refine cg ?_|simp -dsimp[h1,q2,h3,q4,h5,q6,h9,↓e12,↓e16]
      revert hF;refine abr.sp (fun h19 q20 hF=> ?_) (fun h19 q20 hF=> ?_)
      ·repeat first|refine cg ?_|simp -dsimp[h1,q2,h3,q4,h5,q6,h9,↓e12,↓e16,h19]
       revert hF;refine abr.sp (fun h21 q22 hF=> ?_) (fun h21 q22 hF=> ?_)
       ·cases hF
        repeat first|refine cg ?_|simp -dsimp[h1,q2,h3,q4,h5,q6,h9,↓e12,↓e16,h19,h21]
        all_goals(try first|omega|rfl)
       ·cases hF
        repeat first|refine cg ?_|simp -dsimp[h1,q2,h3,q4,h5,q6,h9,↓e12,↓e16,h19,h21,q22]
        all_goals(try first|omega|rfl)
      ·cases hF
       repeat first|refine cg ?_|simp -dsimp[h1,q2,h3,q4,h5,q6,h9,↓e12,↓e16,h19,q20]
       all_goals(try first|omega|rfl)
     ·repeat first|refine cg ?_|simp -dsimp[h1,q2,h3,q4,h5,q6,h9,q10]
      have hF:=ob hF;obtain⟨v23,e24,hF⟩:=hF
      refine(((CC.f181 B hB1 hB2).1 p (⟨3,0,n,m,0,[]⟩:Pattern) v23 e24)).goW (by first|simp[h1,q2,h3,q4,h5,q6,h9,q10];done|simp_all) (by simp) ?_
      cases hF
      repeat first|refine cg ?_|simp -dsimp[h1,q2,h3,q4,h5,q6,h9,q10]
      all_goals(try first|omega|rfl)
theorem CC.f184 (v:Int)(n:Int)(m:Int):(∀(p:Pattern) (r:Pattern×Bool),F.f184 p v n m=some r→PureCall Tryz.prog B 88 [.agg [.lit (.int .i64 p.op),.lit (.int .i64 p.ctor),.lit (.int .i64 p.n),.lit (.int .i64 p.m),.lit (.int .i64 p.var),.arr (List.map Pattern.c p.kids)],.lit (.int .i64 v),.lit (.int .i64 n),.lit (.int .i64 m)] (.tup [.agg [.lit (.int .i64 r.1.op),.lit (.int .i64 r.1.ctor),.lit (.int .i64 r.1.n),.lit (.int .i64 r.1.m),.lit (.int .i64 r.1.var),.arr (List.map Pattern.c r.1.kids)],.lit (.bool r.2)]))∧
  (∀(p:Pattern) (out20:List Pattern) (i21:Nat) (o:Lo (Pattern×Bool) (List Pattern)),F.f186 p v n m out20 i21=some o→∀(c:Code),navO [1,1,1,1,0,1,0,0] (bodyOf Tryz.f88)=some c→∀(Q:Exit→ASt→Prop),o.post (fun r=>∀st,Post Tryz.prog Tryz.f88 (fun r' _=>r'.le (.tup [.agg [.lit (.int .i64 r.1.op),.lit (.int .i64 r.1.ctor),.lit (.int .i64 r.1.n),.lit (.int .i64 r.1.m),.lit (.int .i64 r.1.var),.arr (List.map Pattern.c r.1.kids)],.lit (.bool r.2)])) .ret st→Q .ret st) (fun s=>Q (.exit 0) ⟨[(8,.ptr 1 0),(10,.ptr 2 0)],[.dead,.cells [.lit (.int .i64 0),.lit (.int .i64 0),.lit (.int .i64 0),.lit (.int .i64 0),.lit (.int .i64 0),.lit (.slice none 0 0)],.cells [.lit (.int .i64 p.op),.lit (.int .i64 p.ctor),.lit (.int .i64 p.n),.lit (.int .i64 p.m),.lit (.int .i64 p.var),.own 3 (List.length (α:=Pattern) s)],.elems 6 (List.map Pattern.c s)]⟩)→ALoopU Tryz.prog B 0 65 (hold c .mk) ⟨[(1,.lit (.int .i64 v)),(2,.lit (.int .i64 n)),(3,.lit (.int .i64 m)),(4,.ptr 0 0),(8,.ptr 1 0),(10,.ptr 2 0),(11,.lit (.int .i64 (i21:Int)))],[.cells [.lit (.int .i64 p.op),.lit (.int .i64 p.ctor),.lit (.int .i64 p.n),.lit (.int .i64 p.m),.lit (.int .i64 p.var),.arr (List.map Pattern.c p.kids)],.cells [.lit (.int .i64 0),.lit (.int .i64 0),.lit (.int .i64 0),.lit (.int .i64 0),.lit (.int .i64 0),.lit (.slice none 0 0)],.cells [.lit (.int .i64 p.op),.lit (.int .i64 p.ctor),.lit (.int .i64 p.n),.lit (.int .i64 p.m),.lit (.int .i64 p.var),.own 3 (List.length (α:=Pattern) out20)],.elems 6 (List.map Pattern.c out20)]⟩ (hold Q .mk))∧
  (∀(p:Pattern) (out:List Pattern) (i:Nat) (o:Lo (Pattern×Bool) (List Pattern)),F.f185 p v n m out i=some o→∀(c:Code),navO [1,1,1,1,0,1,0,0] (bodyOf Tryz.f88)=some c→∀(Q:Exit→ASt→Prop),o.post (fun r=>∀st,Post Tryz.prog Tryz.f88 (fun r' _=>r'.le (.tup [.agg [.lit (.int .i64 r.1.op),.lit (.int .i64 r.1.ctor),.lit (.int .i64 r.1.n),.lit (.int .i64 r.1.m),.lit (.int .i64 r.1.var),.arr (List.map Pattern.c r.1.kids)],.lit (.bool r.2)])) .ret st→Q .ret st) (fun s=>Q (.exit 0) ⟨[(8,.ptr 1 0),(10,.ptr 2 0)],[.dead,.cells [.lit (.int .i64 0),.lit (.int .i64 0),.lit (.int .i64 0),.lit (.int .i64 0),.lit (.int .i64 0),.lit (.slice none 0 0)],.cells [.lit (.int .i64 p.op),.lit (.int .i64 p.ctor),.lit (.int .i64 p.n),.lit (.int .i64 p.m),.lit (.int .i64 p.var),.own 3 (List.length (α:=Pattern) s)],.elems 6 (List.map Pattern.c s)]⟩)→ALoopU Tryz.prog B 0 65 (hold c .mk) ⟨[(1,.lit (.int .i64 v)),(2,.lit (.int .i64 n)),(3,.lit (.int .i64 m)),(4,.ptr 0 0),(8,.ptr 1 0),(10,.ptr 2 0),(11,.lit (.int .i64 (i:Int)))],[.cells [.lit (.int .i64 p.op),.lit (.int .i64 p.ctor),.lit (.int .i64 p.n),.lit (.int .i64 p.m),.lit (.int .i64 p.var),.arr (List.map Pattern.c p.kids)],.cells [.lit (.int .i64 0),.lit (.int .i64 0),.lit (.int .i64 0),.lit (.int .i64 0),.lit (.int .i64 0),.lit (.slice none 0 0)],.cells [.lit (.int .i64 p.op),.lit (.int .i64 p.ctor),.lit (.int .i64 p.n),.lit (.int .i64 p.m),.lit (.int .i64 p.var),.own 3 (List.length (α:=Pattern) out)],.elems 6 (List.map Pattern.c out)]⟩ (hold Q .mk))∧
  (∀(p:Pattern) (out41:List Pattern) (i42:Nat) (o:Lo (Pattern×Bool) (List Pattern)),F.f187 p v n m out41 i42=some o→∀(c:Code),navO [1,1,1,1,0,1,0,0] (bodyOf Tryz.f88)=some c→∀(Q:Exit→ASt→Prop),o.post (fun r=>∀st,Post Tryz.prog Tryz.f88 (fun r' _=>r'.le (.tup [.agg [.lit (.int .i64 r.1.op),.lit (.int .i64 r.1.ctor),.lit (.int .i64 r.1.n),.lit (.int .i64 r.1.m),.lit (.int .i64 r.1.var),.arr (List.map Pattern.c r.1.kids)],.lit (.bool r.2)])) .ret st→Q .ret st) (fun s=>Q (.exit 0) ⟨[(8,.ptr 1 0),(10,.ptr 2 0)],[.dead,.cells [.lit (.int .i64 0),.lit (.int .i64 0),.lit (.int .i64 0),.lit (.int .i64 0),.lit (.int .i64 0),.lit (.slice none 0 0)],.cells [.lit (.int .i64 p.op),.lit (.int .i64 p.ctor),.lit (.int .i64 p.n),.lit (.int .i64 p.m),.lit (.int .i64 p.var),.own 3 (List.length (α:=Pattern) s)],.elems 6 (List.map Pattern.c s)]⟩)→ALoopU Tryz.prog B 0 65 (hold c .mk) ⟨[(1,.lit (.int .i64 v)),(2,.lit (.int .i64 n)),(3,.lit (.int .i64 m)),(4,.ptr 0 0),(8,.ptr 1 0),(10,.ptr 2 0),(11,.lit (.int .i64 (i42:Int)))],[.cells [.lit (.int .i64 p.op),.lit (.int .i64 p.ctor),.lit (.int .i64 p.n),.lit (.int .i64 p.m),.lit (.int .i64 p.var),.arr (List.map Pattern.c p.kids)],.cells [.lit (.int .i64 0),.lit (.int .i64 0),.lit (.int .i64 0),.lit (.int .i64 0),.lit (.int .i64 0),.lit (.slice none 0 0)],.cells [.lit (.int .i64 p.op),.lit (.int .i64 p.ctor),.lit (.int .i64 p.n),.lit (.int .i64 p.m),.lit (.int .i64 p.var),.own 3 (List.length (α:=Pattern) out41)],.elems 6 (List.map Pattern.c out41)]⟩ (hold Q .mk)):=by
 refine F.f184.mutual_partial_correctness v n m
  _ _ _ _
  ?_ ?_ ?_ ?_
 ·intro _f_f186 _f_f185 _f_f187 ih_f186 ih_f185 ih_f187 p r hF
  refine PureCall.enterLe Tryz.func88 (by kernel_rfl) rfl Tryz.ntmps88 (by simp) (by simp) ?_
  repeat first|refine cg ?_|simp -dsimp
  revert hF;refine abr.ns ?_ ?_<;>intro h1 q2 hF
  ·repeat first|refine cg ?_|simp -dsimp[h1,q2]
   revert hF;refine abr.sp ?_ ?_<;>intro h3 q4 hF
   ·repeat first|refine cg ?_|simp -dsimp[h1,q2,h3]
    revert hF;refine abr.sp ?_ ?_<;>intro h5 q6 hF
    ·repeat first|refine cg ?_|simp -dsimp[h1,q2,h3,h5]
     have hF:=ob hF;obtain⟨v7,e8,hF⟩:=hF
     refine(((CC.f183 B hB1 hB2 n m) p v7 e8)).goW (by first|simp[h1,q2,h3,h5];done|simp_all) (by simp) ?_
     cases hF
     repeat first|refine cg ?_|simp -dsimp[h1,q2,h3,h5]
     all_goals(try first|omega|rfl)
    ·repeat first|refine cg ?_|simp -dsimp[h1,q2,h3,h5,q6]
     have hF:=ob hF;obtain⟨o',ho19,hF⟩:=hF
     refine ALoop.goU ⟨[(1,.lit (.int .i64 v)),(2,.lit (.int .i64 n)),(3,.lit (.int .i64 m)),(4,.ptr 0 0),(8,.ptr 1 0),(10,.ptr 2 0),(11,.lit (.int .i64 0))],[.cells [.lit (.int .i64 p.op),.lit (.int .i64 p.ctor),.lit (.int .i64 p.n),.lit (.int .i64 p.m),.lit (.int .i64 p.var),.arr (List.map Pattern.c p.kids)],.cells [.lit (.int .i64 0),.lit (.int .i64 0),.lit (.int .i64 0),.lit (.int .i64 0),.lit (.int .i64 0),.lit (.slice none 0 0)],.cells [.lit (.int .i64 p.op),.lit (.int .i64 p.ctor),.lit (.int .i64 p.n),.lit (.int .i64 p.m),.lit (.int .i64 p.var),.own 3 (List.length (α:=Pattern) [])],.elems 6 (List.map Pattern.c [])]⟩ (by refine Gh.trans (Gh.nilCell 2 5 6 (by simp -dsimp;rfl) (by simp -dsimp)) ?_;exact(Gh.to3 (by simp) (by first|simp -dsimp[h1,q2,h3,h5,q6];done|simp_all))) ?_
     refine(ih_f185 p [] 0 o' ho19) _ rfl _ ?_
     rcases o' with r0|sx
     ·dsimp only at hF
      cases hF
      intro st h
      simpa using h
     ·dsimp only at hF
      cases hF
      repeat first|refine cg ?_|simp -dsimp
      all_goals(try first|omega|rfl)
   ·repeat first|refine cg ?_|simp -dsimp[h1,q2,h3,q4]
    have hF:=ob hF;obtain⟨o'34,ho33,hF⟩:=hF
    refine ALoop.goU ⟨[(1,.lit (.int .i64 v)),(2,.lit (.int .i64 n)),(3,.lit (.int .i64 m)),(4,.ptr 0 0),(8,.ptr 1 0),(10,.ptr 2 0),(11,.lit (.int .i64 0))],[.cells [.lit (.int .i64 p.op),.lit (.int .i64 p.ctor),.lit (.int .i64 p.n),.lit (.int .i64 p.m),.lit (.int .i64 p.var),.arr (List.map Pattern.c p.kids)],.cells [.lit (.int .i64 0),.lit (.int .i64 0),.lit (.int .i64 0),.lit (.int .i64 0),.lit (.int .i64 0),.lit (.slice none 0 0)],.cells [.lit (.int .i64 p.op),.lit (.int .i64 p.ctor),.lit (.int .i64 p.n),.lit (.int .i64 p.m),.lit (.int .i64 p.var),.own 3 (List.length (α:=Pattern) [])],.elems 6 (List.map Pattern.c [])]⟩ (by refine Gh.trans (Gh.nilCell 2 5 6 (by simp -dsimp;rfl) (by simp -dsimp)) ?_;exact(Gh.to3 (by simp) (by first|simp -dsimp[h1,q2,h3,q4];done|simp_all))) ?_
    refine(ih_f186 p [] 0 o'34 ho33) _ rfl _ ?_
    rcases o'34 with r036|sx35
    ·dsimp only at hF
     cases hF
     intro st h
     simpa using h
    ·dsimp only at hF
     cases hF
     repeat first|refine cg ?_|simp -dsimp
     all_goals(try first|omega|rfl)
  ·repeat first|refine cg ?_|simp -dsimp[h1,q2]
   revert hF;refine abr.sp ?_ ?_<;>intro h37 q38 hF
   ·repeat first|refine cg ?_|simp -dsimp[h1,q2,h37]
    have hF:=ob hF;obtain⟨v39,e40,hF⟩:=hF
    refine(((CC.f183 B hB1 hB2 n m) p v39 e40)).goW (by first|simp[h1,q2,h37];done|simp_all) (by simp) ?_
    cases hF
    repeat first|refine cg ?_|simp -dsimp[h1,q2,h37]
    all_goals(try first|omega|rfl)
   ·repeat first|refine cg ?_|simp -dsimp[h1,q2,h37,q38]
    have hF:=ob hF;obtain⟨o'55,ho54,hF⟩:=hF
    refine ALoop.goU ⟨[(1,.lit (.int .i64 v)),(2,.lit (.int .i64 n)),(3,.lit (.int .i64 m)),(4,.ptr 0 0),(8,.ptr 1 0),(10,.ptr 2 0),(11,.lit (.int .i64 0))],[.cells [.lit (.int .i64 p.op),.lit (.int .i64 p.ctor),.lit (.int .i64 p.n),.lit (.int .i64 p.m),.lit (.int .i64 p.var),.arr (List.map Pattern.c p.kids)],.cells [.lit (.int .i64 0),.lit (.int .i64 0),.lit (.int .i64 0),.lit (.int .i64 0),.lit (.int .i64 0),.lit (.slice none 0 0)],.cells [.lit (.int .i64 p.op),.lit (.int .i64 p.ctor),.lit (.int .i64 p.n),.lit (.int .i64 p.m),.lit (.int .i64 p.var),.own 3 (List.length (α:=Pattern) [])],.elems 6 (List.map Pattern.c [])]⟩ (by refine Gh.trans (Gh.nilCell 2 5 6 (by simp -dsimp;rfl) (by simp -dsimp)) ?_;exact(Gh.to3 (by simp) (by first|simp -dsimp[h1,q2,h37,q38];done|simp_all))) ?_
    refine(ih_f187 p [] 0 o'55 ho54) _ rfl _ ?_
    rcases o'55 with r057|sx56
    ·dsimp only at hF
     cases hF
     intro st h
     simpa using h
    ·dsimp only at hF
     cases hF
     repeat first|refine cg ?_|simp -dsimp
     all_goals(try first|omega|rfl)
 ·intro _f_f184 _f_f186 ih_f184 ih_f186 p out20 i21 o hF
  intro c hc Q hq
  obtain rfl:c=_:=navEq hc rfl
  refine ALoopU.know fun hk hs=> ?_
  have d0:=hs 0 _ rfl
  simp -dsimp[Blk.bnd]at d0
  have d3:=hs 3 _ rfl
  simp -dsimp[Blk.bnd]at d3
  clear hk hs
  refine ALoopU.enter ?_
  repeat first|refine cg ?_|simp -dsimp
  revert hF;refine abr.sp ?_ ?_<;>intro h22 q23 hF
  ·have z24:((i21:Int)<(p.kids.length:Int)):=auz
   have hF:=ob hF;obtain⟨x25,e26,hF⟩:=hF
   have le26:=lt_of_get e26
   repeat first|refine cg ?_|simp -dsimp[h22,z24,↓e26]
   have hF:=ob hF;obtain⟨v27,e28,hF⟩:=hF
   refine((ih_f184 x25 v27 e28)).goW (by first|simp[h22,z24,↓e26];done|simp_all) (by simp) ?_
   repeat first|refine cg ?_|simp -dsimp[h22,z24,↓e26]
   revert hF;refine abr.ns (fun h29 q30 hF=> ?_) (fun h29 q30 hF=> ?_)
   ·cases hF
    repeat first|refine cg ?_|simp -dsimp[h22,z24,↓e26,h29,q30]
    refine Leave.go _ (Gh.refl _) (hq _ ?_)
    repeat first|refine cg ?_|simp -dsimp[h22,z24,↓e26,h29,q30]
   ·have hF:=oc hF;obtain⟨c31,hF⟩:=hF
    have w32:IntKind.i64.wrap ((i21:Int)+1)=(i21:Int)+1:=wrap_in (by omega) (by omega)
    repeat first|refine cg ?_|simp -dsimp[h22,z24,↓e26,h29,q30,w32]
    refine Again.go _ ?_ ((ih_f186 p (out20++[v27.1]) (i21+1) o hF) _ rfl _ hq)
    exact(Gh.to3 (by simp) (by first|simp -dsimp[h22,z24,↓e26,h29,q30,w32];done|simp_all))
  ·have z24:¬((i21:Int)<(p.kids.length:Int)):=auz
   cases hF
   repeat first|refine cg ?_|simp -dsimp[h22,q23,z24]
   refine Leave.go _ (Gh.to3 (by simp) (by first|simp -dsimp[h22,q23,z24];done|simp_all)) hq
 ·intro _f_f184 _f_f185 ih_f184 ih_f185 p out i o hF
  intro c hc Q hq
  obtain rfl:c=_:=navEq hc rfl
  refine ALoopU.know fun hk hs=> ?_
  have d0:=hs 0 _ rfl
  simp -dsimp[Blk.bnd]at d0
  have d3:=hs 3 _ rfl
  simp -dsimp[Blk.bnd]at d3
  clear hk hs
  refine ALoopU.enter ?_
  repeat first|refine cg ?_|simp -dsimp
  revert hF;refine abr.sp ?_ ?_<;>intro h9 q10 hF
  ·have z11:((i:Int)<(p.kids.length:Int)):=auz
   have hF:=ob hF;obtain⟨x,e12,hF⟩:=hF
   have le12:=lt_of_get e12
   repeat first|refine cg ?_|simp -dsimp[h9,z11,↓e12]
   have hF:=ob hF;obtain⟨v13,e14,hF⟩:=hF
   refine((ih_f184 x v13 e14)).goW (by first|simp[h9,z11,↓e12];done|simp_all) (by simp) ?_
   repeat first|refine cg ?_|simp -dsimp[h9,z11,↓e12]
   revert hF;refine abr.ns (fun h15 q16 hF=> ?_) (fun h15 q16 hF=> ?_)
   ·cases hF
    repeat first|refine cg ?_|simp -dsimp[h9,z11,↓e12,h15,q16]
    refine Leave.go _ (Gh.refl _) (hq _ ?_)
    repeat first|refine cg ?_|simp -dsimp[h9,z11,↓e12,h15,q16]
   ·have hF:=oc hF;obtain⟨c17,hF⟩:=hF
    have w18:IntKind.i64.wrap ((i:Int)+1)=(i:Int)+1:=wrap_in (by omega) (by omega)
    repeat first|refine cg ?_|simp -dsimp[h9,z11,↓e12,h15,q16,w18]
    refine Again.go _ ?_ ((ih_f185 p (out++[v13.1]) (i+1) o hF) _ rfl _ hq)
    exact(Gh.to3 (by simp) (by first|simp -dsimp[h9,z11,↓e12,h15,q16,w18];done|simp_all))
  ·have z11:¬((i:Int)<(p.kids.length:Int)):=auz
   cases hF
   repeat first|refine cg ?_|simp -dsimp[h9,q10,z11]
   refine Leave.go _ (Gh.to3 (by simp) (by first|simp -dsimp[h9,q10,z11];done|simp_all)) hq
 ·intro _f_f184 _f_f187 ih_f184 ih_f187 p out41 i42 o hF
  intro c hc Q hq
  obtain rfl:c=_:=navEq hc rfl
  refine ALoopU.know fun hk hs=> ?_
  have d0:=hs 0 _ rfl
  simp -dsimp[Blk.bnd]at d0
  have d3:=hs 3 _ rfl
  simp -dsimp[Blk.bnd]at d3
  clear hk hs
  refine ALoopU.enter ?_
  repeat first|refine cg ?_|simp -dsimp
  revert hF;refine abr.sp ?_ ?_<;>intro h43 q44 hF
  ·have z45:((i42:Int)<(p.kids.length:Int)):=auz
   have hF:=ob hF;obtain⟨x46,e47,hF⟩:=hF
   have le47:=lt_of_get e47
   repeat first|refine cg ?_|simp -dsimp[h43,z45,↓e47]
   have hF:=ob hF;obtain⟨v48,e49,hF⟩:=hF
   refine((ih_f184 x46 v48 e49)).goW (by first|simp[h43,z45,↓e47];done|simp_all) (by simp) ?_
   repeat first|refine cg ?_|simp -dsimp[h43,z45,↓e47]
   revert hF;refine abr.ns (fun h50 q51 hF=> ?_) (fun h50 q51 hF=> ?_)
   ·cases hF
    repeat first|refine cg ?_|simp -dsimp[h43,z45,↓e47,h50,q51]
    refine Leave.go _ (Gh.refl _) (hq _ ?_)
    repeat first|refine cg ?_|simp -dsimp[h43,z45,↓e47,h50,q51]
   ·have hF:=oc hF;obtain⟨c52,hF⟩:=hF
    have w53:IntKind.i64.wrap ((i42:Int)+1)=(i42:Int)+1:=wrap_in (by omega) (by omega)
    repeat first|refine cg ?_|simp -dsimp[h43,z45,↓e47,h50,q51,w53]
    refine Again.go _ ?_ ((ih_f187 p (out41++[v48.1]) (i42+1) o hF) _ rfl _ hq)
    exact(Gh.to3 (by simp) (by first|simp -dsimp[h43,z45,↓e47,h50,q51,w53];done|simp_all))
  ·have z45:¬((i42:Int)<(p.kids.length:Int)):=auz
   cases hF
   repeat first|refine cg ?_|simp -dsimp[h43,q44,z45]
   refine Leave.go _ (Gh.to3 (by simp) (by first|simp -dsimp[h43,q44,z45];done|simp_all)) hq
theorem C.f188 (c':Clause)(r:Clause×Bool)(hF:F.f188 c'=some r):PureCall Tryz.prog B 40 [.agg [.lit (.int .i64 c'.pat.op),.lit (.int .i64 c'.pat.ctor),.lit (.int .i64 c'.pat.n),.lit (.int .i64 c'.pat.m),.lit (.int .i64 c'.pat.var),.arr (List.map Pattern.c c'.pat.kids),.lit (.int .i64 c'.guard.op),.lit (.int .i64 c'.guard.var),.lit (.int .i64 c'.guard.n)]] (.tup [.agg [.lit (.int .i64 r.1.pat.op),.lit (.int .i64 r.1.pat.ctor),.lit (.int .i64 r.1.pat.n),.lit (.int .i64 r.1.pat.m),.lit (.int .i64 r.1.pat.var),.arr (List.map Pattern.c r.1.pat.kids),.lit (.int .i64 r.1.guard.op),.lit (.int .i64 r.1.guard.var),.lit (.int .i64 r.1.guard.n)],.lit (.bool r.2)]):=by
 unfold F.f188 at hF
 refine PureCall.enterLe Tryz.func40 (by kernel_rfl) rfl Tryz.ntmps40 (by simp) (by simp) ?_
 repeat first|refine cg ?_|simp -dsimp
 revert hF;refine abr.sp ?_ ?_<;>intro h1 q2 hF
 ·repeat first|refine cg ?_|simp -dsimp[h1]
  have hF:=ob hF;obtain⟨v,e3,hF⟩:=hF
  refine(((CC.f178 B hB1 hB2).1 c'.pat v e3)).goW (by first|simp[h1];done|simp_all) (by simp) ?_
  cases hF
  repeat first|refine cg ?_|simp -dsimp[h1]
  all_goals(try first|omega|rfl)
 ·repeat first|refine cg ?_|simp -dsimp[h1,q2]
  have hF:=ob hF;obtain⟨v4,e5,hF⟩:=hF
  refine((C.f180 B hB1 hB2 c'.guard v4 e5)).goW (by first|simp[h1,q2];done|simp_all) (by simp) ?_
  repeat first|refine cg ?_|simp -dsimp[h1,q2]
  have hF:=ob hF;obtain⟨v6,e7,hF⟩:=hF
  refine(((CC.f184 B hB1 hB2 c'.guard.var v4.1 v4.2).1 c'.pat v6 e7)).goW (by first|simp[h1,q2];done|simp_all) (by simp) ?_
  repeat first|refine cg ?_|simp -dsimp[h1,q2]
  have hF:=ob hF;obtain⟨v8,e9,hF⟩:=hF
  refine(((CC.f178 B hB1 hB2).1 v6.1 v8 e9)).goW (by first|simp[h1,q2];done|simp_all) (by simp) ?_
  cases hF
  repeat first|refine cg ?_|simp -dsimp[h1,q2]
  all_goals(try first|omega|rfl)
theorem C.f189 (w:List Vl.Data)(t:Ty)(c':Clause)(r:Clause×Bool)(hF:F.f189 w t c'=some r):PureCall Tryz.prog B 10 [.arr (List.map Vl.Data.c w),.agg [.lit (.int .i64 t.data),.lit (.int .i64 t.index)],.agg [.lit (.int .i64 c'.pat.op),.lit (.int .i64 c'.pat.ctor),.lit (.int .i64 c'.pat.n),.lit (.int .i64 c'.pat.m),.lit (.int .i64 c'.pat.var),.arr (List.map Pattern.c c'.pat.kids),.lit (.int .i64 c'.guard.op),.lit (.int .i64 c'.guard.var),.lit (.int .i64 c'.guard.n)]] (.tup [.agg [.lit (.int .i64 r.1.pat.op),.lit (.int .i64 r.1.pat.ctor),.lit (.int .i64 r.1.pat.n),.lit (.int .i64 r.1.pat.m),.lit (.int .i64 r.1.pat.var),.arr (List.map Pattern.c r.1.pat.kids),.lit (.int .i64 r.1.guard.op),.lit (.int .i64 r.1.guard.var),.lit (.int .i64 r.1.guard.n)],.lit (.bool r.2)]):=by
 unfold F.f189 at hF
 refine PureCall.enterLe Tryz.func10 (by kernel_rfl) rfl Tryz.ntmps10 (by simp) (by simp) ?_
 repeat first|refine cg ?_|simp -dsimp
 have hF:=ob hF;obtain⟨v,e1,hF⟩:=hF
 refine((C.f173 B hB1 hB2 w t c' v e1)).goW (by simp) (by simp) ?_
 repeat first|refine cg ?_|simp -dsimp
 revert hF;refine abr.sp (fun h2 q3 hF=> ?_) (fun h2 q3 hF=> ?_)
 ·repeat first|refine cg ?_|simp -dsimp[h2]
  revert hF;refine abr.ns ?_ ?_<;>intro h4 q5 hF
  ·repeat first|refine cg ?_|simp -dsimp[h2,h4,q5]
   have hF:=ob hF;obtain⟨v6,e7,hF⟩:=hF
   refine(((CC.f176 B hB1 hB2 c'.guard.var).1 c'.pat v6 e7)).goW (by first|simp[h2,h4,q5];done|simp_all) (by simp) ?_
   repeat first|refine cg ?_|simp -dsimp[h2,h4,q5]
   revert hF;refine abr.sp (fun h8 q9 hF=> ?_) (fun h8 q9 hF=> ?_)
   ·cases hF
    repeat first|refine cg ?_|simp -dsimp[h2,h4,q5,h8]
    all_goals(try first|omega|rfl)
   ·repeat first|refine cg ?_|simp -dsimp[h2,h4,q5,h8,q9]
    have hF:=ob hF;obtain⟨v10,e11,hF⟩:=hF
    refine((C.f188 B hB1 hB2 c' v10 e11)).goW (by first|simp[h2,h4,q5,h8,q9];done|simp_all) (by simp) ?_
    repeat first|refine cg ?_|simp -dsimp[h2,h4,q5,h8,q9]
    revert hF;refine abr.sp (fun h12 q13 hF=> ?_) (fun h12 q13 hF=> ?_)
    ·repeat first|refine cg ?_|simp -dsimp[h2,h4,q5,h8,q9,h12]
     have hF:=ob hF;obtain⟨v14,e15,hF⟩:=hF
     refine((C.f79 B hB1 hB2 w t v10.1 v14 e15)).goW (by first|simp[h2,h4,q5,h8,q9,h12];done|simp_all) (by simp) ?_
     repeat first|refine cg ?_|simp -dsimp[h2,h4,q5,h8,q9,h12]
     revert hF;refine abr.ns (fun h16 q17 hF=> ?_) (fun h16 q17 hF=> ?_)
     ·cases hF
      repeat first|refine cg ?_|simp -dsimp[h2,h4,q5,h8,q9,h12,h16,q17]
      all_goals(try first|omega|rfl)
     ·cases hF
      repeat first|refine cg ?_|simp -dsimp[h2,h4,q5,h8,q9,h12,h16,q17]
      all_goals(try first|omega|rfl)
    ·cases hF
     repeat first|refine cg ?_|simp -dsimp[h2,h4,q5,h8,q9,h12,q13]
     all_goals(try first|omega|rfl)
  ·repeat first|refine cg ?_|simp -dsimp[h2,h4,q5]
   have hF:=ob hF;obtain⟨v18,e19,hF⟩:=hF
   refine((C.f188 B hB1 hB2 c' v18 e19)).goW (by first|simp[h2,h4,q5];done|simp_all) (by simp) ?_
   repeat first|refine cg ?_|simp -dsimp[h2,h4,q5]
   revert hF;refine abr.sp (fun h20 q21 hF=> ?_) (fun h20 q21 hF=> ?_)
   ·repeat first|refine cg ?_|simp -dsimp[h2,h4,q5,h20]
    have hF:=ob hF;obtain⟨v22,e23,hF⟩:=hF
    refine((C.f79 B hB1 hB2 w t v18.1 v22 e23)).goW (by first|simp[h2,h4,q5,h20];done|simp_all) (by simp) ?_
    repeat first|refine cg ?_|simp -dsimp[h2,h4,q5,h20]
    revert hF;refine abr.ns (fun h24 q25 hF=> ?_) (fun h24 q25 hF=> ?_)
    ·cases hF
     repeat first|refine cg ?_|simp -dsimp[h2,h4,q5,h20,h24,q25]
     all_goals(try first|omega|rfl)
    ·cases hF
     repeat first|refine cg ?_|simp -dsimp[h2,h4,q5,h20,h24,q25]
     all_goals(try first|omega|rfl)
   ·cases hF
    repeat first|refine cg ?_|simp -dsimp[h2,h4,q5,h20,q21]
    all_goals(try first|omega|rfl)
 ·cases hF
  repeat first|refine cg ?_|simp -dsimp[h2,q3]
  all_goals(try first|omega|rfl)
theorem CC.f190  :(∀(a:Pattern) (b:Pattern) (r:Bool),F.f190 a b=some r→PureCall Tryz.prog B 16 [.agg [.lit (.int .i64 a.op),.lit (.int .i64 a.ctor),.lit (.int .i64 a.n),.lit (.int .i64 a.m),.lit (.int .i64 a.var),.arr (List.map Pattern.c a.kids)],.agg [.lit (.int .i64 b.op),.lit (.int .i64 b.ctor),.lit (.int .i64 b.n),.lit (.int .i64 b.m),.lit (.int .i64 b.var),.arr (List.map Pattern.c b.kids)]] (.lit (.bool r)))∧
  (∀(s1:List Pattern) (s2:List Pattern) (r:Bool),F.f191 s1 s2=some r→PureCall Tryz.prog B 53 [.arr (List.map Pattern.c s1),.arr (List.map Pattern.c s2),.fn (.func 16) [] []] (.lit (.bool r)))∧
  (∀(s1:List Pattern) (s2:List Pattern) (i:Nat) (o:Lo Bool Unit),F.f192 s1 s2 i=some o→∀(c:Code),navO [1,1,0,1,0,0] (bodyOf Tryz.f53)=some c→∀(Q:Exit→ASt→Prop),o.post (fun r=>∀st,Post Tryz.prog Tryz.f53 (fun r' _=>r'.le (.lit (.bool r))) .ret st→Q .ret st) (fun s=>Q (.exit 0) ⟨[],[]⟩)→ALoopU Tryz.prog B 0 32 (hold c .mk) ⟨[(1,.arr (List.map Pattern.c s2)),(2,.fn (.func 16) [] []),(15,.arr (List.map Pattern.c s1)),(16,.lit (.int .i64 (s1.length:Int))),(17,.lit (.int .i64 (i:Int)))],[]⟩ (hold Q .mk)):=by
 refine F.f190.mutual_partial_correctness 
  _ _ _
  ?_ ?_ ?_
 ·intro _f_f191 ih_f191 a b r hF
  refine PureCall.enterLe Tryz.func16 (by kernel_rfl) rfl Tryz.ntmps16 (by simp) (by simp) ?_
  repeat first|refine cg ?_|simp -dsimp
  revert hF;refine abr.sp ?_ ?_<;>intro h1 q2 hF
  ·repeat first|refine cg ?_|simp -dsimp[h1]
   revert hF;refine abr.sp ?_ ?_<;>intro h3 q4 hF
   ·repeat first|refine cg ?_|simp -dsimp[h1,h3]
    revert hF;refine abr.sp ?_ ?_<;>intro h5 q6 hF
    ·repeat first|refine cg ?_|simp -dsimp[h1,h3,h5]
     revert hF;refine abr.sp ?_ ?_<;>intro h7 q8 hF
     ·repeat first|refine cg ?_|simp -dsimp[h1,h3,h5,h7]
      revert hF;refine abr.sp ?_ ?_<;>intro h9 q10 hF
      ·repeat first|refine cg ?_|simp -dsimp[h1,h3,h5,h7,h9]
       have hF:=ob hF;obtain⟨v,e11,hF⟩:=hF
       refine((ih_f191 a.kids b.kids v e11)).goW (by first|simp[h1,h3,h5,h7,h9];done|simp_all) (by simp) ?_
       cases hF
       repeat first|refine cg ?_|simp -dsimp[h1,h3,h5,h7,h9]
       all_goals(try first|omega|rfl)
      ·cases hF
       repeat first|refine cg ?_|simp -dsimp[h1,h3,h5,h7,h9,q10]
       all_goals(try first|omega|rfl)
     ·cases hF
      repeat first|refine cg ?_|simp -dsimp[h1,h3,h5,h7,q8]
      all_goals(try first|omega|rfl)
    ·cases hF
     repeat first|refine cg ?_|simp -dsimp[h1,h3,h5,q6]
     all_goals(try first|omega|rfl)
   ·cases hF
    repeat first|refine cg ?_|simp -dsimp[h1,h3,q4]
    all_goals(try first|omega|rfl)
  ·cases hF
   repeat first|refine cg ?_|simp -dsimp[h1,q2]
   all_goals(try first|omega|rfl)
 ·intro _f_f192 ih_f192 s1 s2 r hF
  refine PureCall.enterLe Tryz.func53 (by kernel_rfl) rfl Tryz.ntmps53 (by simp) (by simp) ?_
  repeat first|refine cg ?_|simp -dsimp
  revert hF;refine abr.ns ?_ ?_<;>intro h1 q2 hF
  ·have z3:¬((s1.length:Int)=(s2.length:Int)):=auz
   cases hF
   repeat first|refine cg ?_|simp -dsimp[h1,q2,z3]
   all_goals(try first|omega|rfl)
  ·have z3:((s1.length:Int)=(s2.length:Int)):=auz
   repeat first|refine cg ?_|simp -dsimp[h1,q2,z3]
   have hF:=ob hF;obtain⟨o',ho14,hF⟩:=hF
   refine ALoop.goU _ ?_ ((ih_f192 s1 s2 0 o' ho14) _ rfl _ ?_)
   ·exact(Gh.to3 (by simp) (by first|simp -dsimp[h1,q2,z3];done|simp_all))
   rcases o' with r0|sx
   ·dsimp only at hF
    cases hF
    intro st h
    simpa using h
   ·dsimp only at hF
    cases hF
    repeat first|refine cg ?_|simp -dsimp
    all_goals(try first|omega|rfl)
 ·intro _f_f190 _f_f192 ih_f190 ih_f192 s1 s2 i o hF
  intro c hc Q hq
  obtain rfl:c=_:=navEq hc rfl
  refine ALoopU.know fun hk hs=> ?_
  have b1:=hk 1
  simp -dsimp at b1
  have b15:=hk 15
  simp -dsimp at b15
  clear hk hs
  refine ALoopU.enter ?_
  repeat first|refine cg ?_|simp -dsimp
  revert hF;refine abr.sp ?_ ?_<;>intro h4 q5 hF
  ·have z6:((i:Int)<(s1.length:Int)):=auz
   have hF:=ob hF;obtain⟨x,e7,hF⟩:=hF
   have le7:=lt_of_get e7
   have hF:=ob hF;obtain⟨x8,e9,hF⟩:=hF
   have le9:=lt_of_get e9
   repeat first|refine cg ?_|simp -dsimp[h4,z6,↓e7,↓e9]
   have hF:=ob hF;obtain⟨v,e10,hF⟩:=hF
   refine((ih_f190 x x8 v e10)).goW (by first|simp[h4,z6,↓e7,↓e9];done|simp_all) (by simp) ?_
   repeat first|refine cg ?_|simp -dsimp[h4,z6,↓e7,↓e9]
   revert hF;refine abr.ns (fun h11 q12 hF=> ?_) (fun h11 q12 hF=> ?_)
   ·cases hF
    repeat first|refine cg ?_|simp -dsimp[h4,z6,↓e7,↓e9,h11,q12]
    refine Leave.go _ (Gh.refl _) (hq _ ?_)
    repeat first|refine cg ?_|simp -dsimp[h4,z6,↓e7,↓e9,h11,q12]
   ·have w13:IntKind.i64.wrap ((i:Int)+1)=(i:Int)+1:=wrap_in (by omega) (by omega)
    repeat first|refine cg ?_|simp -dsimp[h4,z6,↓e7,↓e9,h11,q12,w13]
    refine Again.go _ ?_ ((ih_f192 s1 s2 (i+1) o hF) _ rfl _ hq)
    exact(Gh.to3 (by simp) (by first|simp -dsimp[h4,z6,↓e7,↓e9,h11,q12,w13];done|simp_all))
  ·have z6:¬((i:Int)<(s1.length:Int)):=auz
   cases hF
   repeat first|refine cg ?_|simp -dsimp[h4,q5,z6]
   refine Leave.go _ (Gh.to3 (by simp) (by first|simp -dsimp[h4,q5,z6];done|simp_all)) hq
theorem C.f193 (x:Clause)(y:Clause)(r:Bool)(hF:F.f193 x y=some r):PureCall Tryz.prog B 43 [.agg [.lit (.int .i64 x.pat.op),.lit (.int .i64 x.pat.ctor),.lit (.int .i64 x.pat.n),.lit (.int .i64 x.pat.m),.lit (.int .i64 x.pat.var),.arr (List.map Pattern.c x.pat.kids),.lit (.int .i64 x.guard.op),.lit (.int .i64 x.guard.var),.lit (.int .i64 x.guard.n)],.agg [.lit (.int .i64 y.pat.op),.lit (.int .i64 y.pat.ctor),.lit (.int .i64 y.pat.n),.lit (.int .i64 y.pat.m),.lit (.int .i64 y.pat.var),.arr (List.map Pattern.c y.pat.kids),.lit (.int .i64 y.guard.op),.lit (.int .i64 y.guard.var),.lit (.int .i64 y.guard.n)]] (.lit (.bool r)):=by
 unfold F.f193 at hF
 refine PureCall.enterLe Tryz.func43 (by kernel_rfl) rfl Tryz.ntmps43 (by simp) (by simp) ?_
 repeat first|refine cg ?_|simp -dsimp
 have hF:=ob hF;obtain⟨v,e1,hF⟩:=hF
 refine(((CC.f190 B hB1 hB2).1 x.pat y.pat v e1)).goW (by simp) (by simp) ?_
 repeat first|refine cg ?_|simp -dsimp
 revert hF;refine abr.sp (fun h2 q3 hF=> ?_) (fun h2 q3 hF=> ?_)
 ·cases hF
  repeat first|refine cg ?_|simp -dsimp[h2]
  all_goals(try first|omega|rfl)
 ·cases hF
  repeat first|refine cg ?_|simp -dsimp[h2,q3]
  all_goals(try first|omega|rfl)
theorem CC.f194 (s1:List Clause)(s2:List Clause):(∀(i:Nat) (o:Lo Bool Unit),F.f194 s1 s2 i=some o→∀(c:Code),navO [1,1,0,1,0,0] (bodyOf Tryz.f42)=some c→∀(Q:Exit→ASt→Prop),o.post (fun r=>∀st,Post Tryz.prog Tryz.f42 (fun r' _=>r'.le (.lit (.bool r))) .ret st→Q .ret st) (fun s=>Q (.exit 0) ⟨[],[]⟩)→ALoopU Tryz.prog B 0 32 (hold c .mk) ⟨[(1,.arr (List.map Clause.c s2)),(2,.fn (.func 43) [] []),(15,.arr (List.map Clause.c s1)),(16,.lit (.int .i64 (s1.length:Int))),(17,.lit (.int .i64 (i:Int)))],[]⟩ (hold Q .mk)):=by
 refine F.f194.partial_correctness s1 s2
  _
  ?_
 ·intro _f_f194 ih_f194 i o hF
  intro c hc Q hq
  obtain rfl:c=_:=navEq hc rfl
  refine ALoopU.know fun hk hs=> ?_
  have b1:=hk 1
  simp -dsimp at b1
  have b15:=hk 15
  simp -dsimp at b15
  clear hk hs
  refine ALoopU.enter ?_
  repeat first|refine cg ?_|simp -dsimp
  revert hF;refine abr.sp ?_ ?_<;>intro h4 q5 hF
  ·have z6:((i:Int)<(s1.length:Int)):=auz
   have hF:=ob hF;obtain⟨x,e7,hF⟩:=hF
   have le7:=lt_of_get e7
   have hF:=ob hF;obtain⟨x8,e9,hF⟩:=hF
   have le9:=lt_of_get e9
   repeat first|refine cg ?_|simp -dsimp[h4,z6,↓e7,↓e9]
   have hF:=ob hF;obtain⟨v,e10,hF⟩:=hF
   refine((C.f193 B hB1 hB2 x x8 v e10)).goW (by first|simp[h4,z6,↓e7,↓e9];done|simp_all) (by simp) ?_
   repeat first|refine cg ?_|simp -dsimp[h4,z6,↓e7,↓e9]
   revert hF;refine abr.ns (fun h11 q12 hF=> ?_) (fun h11 q12 hF=> ?_)
   ·cases hF
    repeat first|refine cg ?_|simp -dsimp[h4,z6,↓e7,↓e9,h11,q12]
    refine Leave.go _ (Gh.refl _) (hq _ ?_)
    repeat first|refine cg ?_|simp -dsimp[h4,z6,↓e7,↓e9,h11,q12]
   ·have w13:IntKind.i64.wrap ((i:Int)+1)=(i:Int)+1:=wrap_in (by omega) (by omega)
    repeat first|refine cg ?_|simp -dsimp[h4,z6,↓e7,↓e9,h11,q12,w13]
    refine Again.go _ ?_ ((ih_f194 (i+1) o hF) _ rfl _ hq)
    exact(Gh.to3 (by simp) (by first|simp -dsimp[h4,z6,↓e7,↓e9,h11,q12,w13];done|simp_all))
  ·have z6:¬((i:Int)<(s1.length:Int)):=auz
   cases hF
   repeat first|refine cg ?_|simp -dsimp[h4,q5,z6]
   refine Leave.go _ (Gh.to3 (by simp) (by first|simp -dsimp[h4,q5,z6];done|simp_all)) hq
theorem C.f195 (s1:List Clause)(s2:List Clause)(r:Bool)(hF:F.f195 s1 s2=some r):PureCall Tryz.prog B 42 [.arr (List.map Clause.c s1),.arr (List.map Clause.c s2),.fn (.func 43) [] []] (.lit (.bool r)):=by
 unfold F.f195 at hF
 refine PureCall.enterLe Tryz.func42 (by kernel_rfl) rfl Tryz.ntmps42 (by simp) (by simp) ?_
 repeat first|refine cg ?_|simp -dsimp
 revert hF;refine abr.ns ?_ ?_<;>intro h1 q2 hF
 ·have z3:¬((s1.length:Int)=(s2.length:Int)):=auz
  cases hF
  repeat first|refine cg ?_|simp -dsimp[h1,q2,z3]
  all_goals(try first|omega|rfl)
 ·have z3:((s1.length:Int)=(s2.length:Int)):=auz
  repeat first|refine cg ?_|simp -dsimp[h1,q2,z3]
  have hF:=ob hF;obtain⟨o',ho14,hF⟩:=hF
  refine ALoop.goU _ ?_ (((CC.f194 B hB1 hB2 s1 s2) 0 o' ho14) _ rfl _ ?_)
  ·exact(Gh.to3 (by simp) (by first|simp -dsimp[h1,q2,z3];done|simp_all))
  rcases o' with r0|sx
  ·dsimp only at hF
   cases hF
   intro st h
   simpa using h
  ·dsimp only at hF
   cases hF
   repeat first|refine cg ?_|simp -dsimp
   all_goals(try first|omega|rfl)
theorem C.f196 (a:List Clause)(b:List Clause)(r:Bool)(hF:F.f196 a b=some r):PureCall Tryz.prog B 11 [.arr (List.map Clause.c a),.arr (List.map Clause.c b)] (.lit (.bool r)):=by
 unfold F.f196 at hF
 refine PureCall.enterLe Tryz.func11 (by kernel_rfl) rfl Tryz.ntmps11 (by simp) (by simp) ?_
 repeat first|refine cg ?_|simp -dsimp
 have hF:=ob hF;obtain⟨v,e1,hF⟩:=hF
 refine((C.f195 B hB1 hB2 a b v e1)).goW (by simp) (by simp) ?_
 cases hF
 repeat first|refine cg ?_|simp -dsimp
 all_goals(try first|omega|rfl)
theorem C.f197 (w:List Vl.Data)(t:Ty)(c':Clause)(r:Bool)(hF:F.f197 w t c'=some r):PureCall Tryz.prog B 12 [.arr (List.map Vl.Data.c w),.agg [.lit (.int .i64 t.data),.lit (.int .i64 t.index)],.agg [.lit (.int .i64 c'.pat.op),.lit (.int .i64 c'.pat.ctor),.lit (.int .i64 c'.pat.n),.lit (.int .i64 c'.pat.m),.lit (.int .i64 c'.pat.var),.arr (List.map Pattern.c c'.pat.kids),.lit (.int .i64 c'.guard.op),.lit (.int .i64 c'.guard.var),.lit (.int .i64 c'.guard.n)]] (.lit (.bool r)):=by
 unfold F.f197 at hF
 refine PureCall.enterLe Tryz.func12 (by kernel_rfl) rfl Tryz.ntmps12 (by simp) (by simp) ?_
 repeat first|refine cg ?_|simp -dsimp
 have hF:=ob hF;obtain⟨v,e1,hF⟩:=hF
 refine((C.f161 B hB1 hB2 w t c' v e1)).goW (by simp) (by simp) ?_
 repeat first|refine cg ?_|simp -dsimp
 revert hF;refine abr.sp (fun h2 q3 hF=> ?_) (fun h2 q3 hF=> ?_)
 ·repeat first|refine cg ?_|simp -dsimp[h2]
  revert hF;refine abr.sp ?_ ?_<;>intro h4 q5 hF
  ·cases hF
   repeat first|refine cg ?_|simp -dsimp[h2,h4]
   all_goals(try first|omega|rfl)
  ·repeat first|refine cg ?_|simp -dsimp[h2,h4,q5]
   have hF:=ob hF;obtain⟨v6,e7,hF⟩:=hF
   refine((C.f170 B hB1 hB2 c' v6 e7)).goW (by first|simp[h2,h4,q5];done|simp_all) (by simp) ?_
   repeat first|refine cg ?_|simp -dsimp[h2,h4,q5]
   revert hF;refine abr.sp (fun h8 q9 hF=> ?_) (fun h8 q9 hF=> ?_)
   ·cases hF
    repeat first|refine cg ?_|simp -dsimp[h2,h4,q5,h8]
    all_goals(try first|omega|rfl)
   ·cases hF
    repeat first|refine cg ?_|simp -dsimp[h2,h4,q5,h8,q9]
    all_goals(try first|omega|rfl)
 ·cases hF
  repeat first|refine cg ?_|simp -dsimp[h2,q3]
  all_goals(try first|omega|rfl)
theorem C.f198 (code:List Int)(r:Bool)(hF:F.f198 code=some r):PureCall Tryz.prog B 3 [.arr (List.map cU code)] (.lit (.bool r)):=by
 unfold F.f198 at hF
 refine PureCall.enterLe Tryz.func3 (by kernel_rfl) rfl Tryz.ntmps3 (by simp) (by simp) ?_
 repeat first|refine cg ?_|simp -dsimp
 revert hF;refine abr.sp ?_ ?_<;>intro h1 q2 hF
 ·have z3:(1048576<(code.length:Int)):=auz
  cases hF
  repeat first|refine cg ?_|simp -dsimp[h1,z3]
  all_goals(try first|omega|rfl)
 ·have z3:¬(1048576<(code.length:Int)):=auz
  repeat first|refine cg ?_|simp -dsimp[h1,q2,z3]
  have hF:=ob hF;obtain⟨v,e4,hF⟩:=hF
  refine((C.f117 B hB1 hB2 code v e4)).goW (by first|simp[h1,q2,z3];done|simp_all) (by simp) ?_
  repeat first|refine cg ?_|simp -dsimp[h1,q2,z3]
  have hF:=ob hF;obtain⟨v5,e6,hF⟩:=hF
  refine((C.f172 B hB1 hB2 v.1 v.2.1 v.2.2 v5 e6)).goW (by first|simp[h1,q2,z3];done|simp_all) (by simp) ?_
  repeat first|refine cg ?_|simp -dsimp[h1,q2,z3]
  have hF:=ob hF;obtain⟨v7,e8,hF⟩:=hF
  refine((C.f189 B hB1 hB2 v.1 v.2.1 v.2.2 v7 e8)).goW (by first|simp[h1,q2,z3];done|simp_all) (by simp) ?_
  repeat first|refine cg ?_|simp -dsimp[h1,q2,z3]
  revert hF;refine abr.sp ?_ ?_<;>intro h9 q10 hF
  ·repeat first|refine cg ?_|simp -dsimp[h1,q2,z3,h9]
   have hF:=ob hF;obtain⟨v11,e12,hF⟩:=hF
   refine((C.f196 B hB1 hB2 [v5.1] [v7.1] v11 e12)).lend (by first|simp -dsimp[h1,q2,z3,h9];done|simp_all) (by simp -dsimp) ?_
   repeat first|refine cg ?_|simp -dsimp[h1,q2,z3,h9]
   revert hF;refine abr.sp (fun h13 q14 hF=> ?_) (fun h13 q14 hF=> ?_)
   ·repeat first|refine cg ?_|simp -dsimp[h1,q2,z3,h9,h13]
    revert hF;refine abr.ns (fun h15 q16 hF=> ?_) (fun h15 q16 hF=> ?_)
    ·repeat first|refine cg ?_|simp -dsimp[h1,q2,z3,h9,h13,h15,q16]
     have hF:=ob hF;obtain⟨v17,e18,hF⟩:=hF
     refine((C.f196 B hB1 hB2 [v5.1] [v7.1] v17 e18)).lend (by first|simp -dsimp[h1,q2,z3,h9,h13,h15,q16];done|simp_all) (by simp -dsimp) ?_
     cases hF
     repeat first|refine cg ?_|simp -dsimp[h1,q2,z3,h9,h13,h15,q16]
     all_goals(try first|omega|rfl)
    ·repeat first|refine cg ?_|simp -dsimp[h1,q2,z3,h9,h13,h15,q16]
     have hF:=ob hF;obtain⟨v19,e20,hF⟩:=hF
     refine((C.f172 B hB1 hB2 v.1 v.2.1 v5.1 v19 e20)).goW (by first|simp[h1,q2,z3,h9,h13,h15,q16];done|simp_all) (by simp) ?_
     repeat first|refine cg ?_|simp -dsimp[h1,q2,z3,h9,h13,h15,q16]
     revert hF;refine abr.sp (fun h21 q22 hF=> ?_) (fun h21 q22 hF=> ?_)
     ·repeat first|refine cg ?_|simp -dsimp[h1,q2,z3,h9,h13,h15,q16,h21]
      have hF:=ob hF;obtain⟨v23,e24,hF⟩:=hF
      refine((C.f196 B hB1 hB2 [v19.1] [v5.1] v23 e24)).lend (by first|simp -dsimp[h1,q2,z3,h9,h13,h15,q16,h21];done|simp_all) (by simp -dsimp) ?_
      repeat first|refine cg ?_|simp -dsimp[h1,q2,z3,h9,h13,h15,q16,h21]
      revert hF;refine abr.sp (fun h25 q26 hF=> ?_) (fun h25 q26 hF=> ?_)
      ·repeat first|refine cg ?_|simp -dsimp[h1,q2,z3,h9,h13,h15,q16,h21,h25]
       have hF:=ob hF;obtain⟨v27,e28,hF⟩:=hF
       refine((C.f197 B hB1 hB2 v.1 v.2.1 v.2.2 v27 e28)).goW (by first|simp[h1,q2,z3,h9,h13,h15,q16,h21,h25];done|simp_all) (by simp) ?_
       cases hF
       repeat first|refine cg ?_|simp -dsimp[h1,q2,z3,h9,h13,h15,q16,h21,h25]
       all_goals(try first|omega|rfl)
      ·cases hF
       repeat first|refine cg ?_|simp -dsimp[h1,q2,z3,h9,h13,h15,q16,h21,h25,q26]
       all_goals(try first|omega|rfl)
     ·cases hF
      repeat first|refine cg ?_|simp -dsimp[h1,q2,z3,h9,h13,h15,q16,h21,q22]
      all_goals(try first|omega|rfl)
   ·repeat first|refine cg ?_|simp -dsimp[h1,q2,z3,h9,h13,q14]
    have hF:=ob hF;obtain⟨v29,e30,hF⟩:=hF
    refine((C.f196 B hB1 hB2 [v5.1] [v7.1] v29 e30)).lend (by first|simp -dsimp[h1,q2,z3,h9,h13,q14];done|simp_all) (by simp -dsimp) ?_
    cases hF
    repeat first|refine cg ?_|simp -dsimp[h1,q2,z3,h9,h13,q14]
    all_goals(try first|omega|rfl)
  ·cases hF
   repeat first|refine cg ?_|simp -dsimp[h1,q2,z3,h9,q10]
   all_goals(try first|omega|rfl)
end Go.Proofs.YtkgcopogpmckdaaGreat
