/- The contracts: the code computes the functions (printed by gen.py). -/
import Derived.Test.YtanfmnlkemmkpaaGreatDoorProg
import Derived.Test.YtanfmnlkemmkpaaGreatDoorExprOfF
import Derived.Test.YtanfmnlkemmkpaaGreatDoorExprOfC1
import Derived.Test.YtanfmnlkemmkpaaGreatDoorVlShelf
import Derived.Test.YtanfmnlkemmkpaaGreatDoorShelf
namespace Go.Proofs.YtanfmnlkemmkpaaGreatDoor
open Go Go.Proofs Go.Vl
set_option linter.all false
set_option maxRecDepth 100000
set_option maxHeartbeats 4000000
set_option synthInstance.maxSize 100000
set_option synthInstance.maxHeartbeats 4000000
attribute [local irreducible] ECallA NCallA aL aLg AMake MLoop AgainM LeaveM awpM aopsM MutCall BCall chk abr ACall ALoop ALoopU ADraw Again Leave PCallA PCall Post awp aops PureCall hold
variable (B : Nat) (hB1 : 67108864 ≤ B) (hB2 : B ≤ 9223372036854775807)
include hB1 hB2
theorem C.f83 (w:List Vl.Data)(t:Ty)(r:List Int)(hF:F.f83 w t=some r):PureCall Tryz.prog B 62 [.arr (List.map Vl.Data.c w),.agg [.lit (.int .i64 t.data),.lit (.int .i64 t.index)]] (.arr (List.map cI r)):=by
 unfold F.f83 at hF
 refine PureCall.enterLe Tryz.func62 (by kernel_rfl) rfl Tryz.ntmps62 (by simp) (by simp) ?_
 repeat first|refine cg ?_|simp -dsimp
 revert hF;refine abr.ns ?_ ?_<;>intro h1 q2 hF
 ·have hF:=ob hF;obtain⟨x,e3a,hF⟩:=hF
  have e3a:=at_some e3a;obtain⟨ne3,e3⟩:=e3a
  have le3:=lt_of_get e3
  repeat first|refine cg ?_|simp -dsimp[h1,q2,↓e3]
  have hF:=ob hF;obtain⟨o',ho22,hF⟩:=hF
  refine ALoop.goU ⟨[(3,.ptr 0 0),(5,.own 1 (List.length (α:=Int) [])),(16,.arr (List.map Ctor.c x.ctors)),(17,.lit (.int .i64 (x.ctors.length:Int))),(18,.lit (.int .i64 0))],[.cells [.lit (.int .i64 t.data),.lit (.int .i64 t.index)],.elems 1 (List.map cI [])]⟩ (by refine Gh.trans (Gh.nil 5 1 (by simp -dsimp)) ?_;exact(Gh.to3 (by simp) (by first|simp -dsimp[h1,q2,↓e3];done|simp_all))) ?_
  refine((CC.f82 B hB1 hB2 t x) 0 [] o' ho22) _ rfl _ ?_
  cases hF
  repeat first|refine cg ?_|simp -dsimp
  all_goals(try first|omega|rfl)
 ·cases hF
  repeat first|refine cg ?_|simp -dsimp[h1,q2]
  all_goals(try first|omega|rfl)
theorem CC.f84 (s:List Int)(v:Int):(∀(i:Nat) (o:Lo Int Unit),F.f84 s v i=some o→∀(c:Code),navO [1,0,1,0,0] (bodyOf Tryz.f82)=some c→∀(Q:Exit→ASt→Prop),o.post (fun r=>∀st,Post Tryz.prog Tryz.f82 (fun r' _=>r'.le (.lit (.int .i64 r))) .ret st→Q .ret st) (fun s=>Q (.exit 0) ⟨[],[]⟩)→ALoopU Tryz.prog B 0 19 (hold c .mk) ⟨[(0,.arr (List.map cI s)),(1,.lit (.int .i64 v)),(7,.lit (.int .i64 (s.length:Int))),(8,.lit (.int .i64 (i:Int)))],[]⟩ (hold Q .mk)):=by
 refine F.f84.partial_correctness s v
  _
  ?_
 ·intro _f_f84 ih_f84 i o hF
  intro c hc Q hq
  obtain rfl:c=_:=navEq hc rfl
  refine ALoopU.know fun hk hs=> ?_
  have b0:=hk 0
  simp -dsimp at b0
  clear hk hs
  refine ALoopU.enter ?_
  repeat first|refine cg ?_|simp -dsimp
  revert hF;refine abr.sp ?_ ?_<;>intro h1 q2 hF
  ·have z3:((i:Int)<(s.length:Int)):=auz
   have hF:=ob hF;obtain⟨x,e4,hF⟩:=hF
   have le4:=lt_of_get e4
   repeat first|refine cg ?_|simp -dsimp[h1,z3,↓e4]
   revert hF;refine abr.sp ?_ ?_<;>intro h5 q6 hF
   ·cases hF
    repeat first|refine cg ?_|simp -dsimp[h1,z3,↓e4,h5]
    refine Leave.go _ (Gh.refl _) (hq _ ?_)
    repeat first|refine cg ?_|simp -dsimp[h1,z3,↓e4,h5]
   ·have w7:IntKind.i64.wrap ((i:Int)+1)=(i:Int)+1:=wrap_in (by omega) (by omega)
    repeat first|refine cg ?_|simp -dsimp[h1,z3,↓e4,h5,q6,w7]
    refine Again.go _ ?_ ((ih_f84 (i+1) o hF) _ rfl _ hq)
    exact(Gh.to3 (by simp) (by first|simp -dsimp[h1,z3,↓e4,h5,q6,w7];done|simp_all))
  ·have z3:¬((i:Int)<(s.length:Int)):=auz
   cases hF
   repeat first|refine cg ?_|simp -dsimp[h1,q2,z3]
   refine Leave.go _ (Gh.to3 (by simp) (by first|simp -dsimp[h1,q2,z3];done|simp_all)) hq
theorem C.f85 (s:List Int)(v:Int)(r:Int)(hF:F.f85 s v=some r):PureCall Tryz.prog B 82 [.arr (List.map cI s),.lit (.int .i64 v)] (.lit (.int .i64 r)):=by
 unfold F.f85 at hF
 refine PureCall.enterLe Tryz.func82 (by kernel_rfl) rfl Tryz.ntmps82 (by simp) (by simp) ?_
 repeat first|refine cg ?_|simp -dsimp
 have hF:=ob hF;obtain⟨o',ho8,hF⟩:=hF
 refine ALoop.goU _ ?_ (((CC.f84 B hB1 hB2 s v) 0 o' ho8) _ rfl _ ?_)
 ·exact(Gh.to3 (by simp) (by simp -dsimp))
 rcases o' with r0|sx
 ·dsimp only at hF
  cases hF
  intro st h
  simpa using h
 ·dsimp only at hF
  cases hF
  repeat first|refine cg ?_|simp -dsimp
  all_goals(try first|omega|rfl)
theorem C.f86 (s:List Int)(v:Int)(r:Bool)(hF:F.f86 s v=some r):PureCall Tryz.prog B 61 [.arr (List.map cI s),.lit (.int .i64 v)] (.lit (.bool r)):=by
 unfold F.f86 at hF
 refine PureCall.enterLe Tryz.func61 (by kernel_rfl) rfl Tryz.ntmps61 (by simp) (by simp) ?_
 repeat first|refine cg ?_|simp -dsimp
 have hF:=ob hF;obtain⟨v1,e2,hF⟩:=hF
 refine((C.f85 B hB1 hB2 s v v1 e2)).goW (by simp) (by simp) ?_
 cases hF
 repeat first|refine cg ?_|simp -dsimp
 all_goals(try first|omega|rfl)
theorem CC.f87 (t:Ty)(x2:Ctor):(∀(i:Nat) (out:List Ty) (o:List Ty),F.f87 t x2 i out=some o→∀(c:Code),navO [1,1,1,1,1,0,1,0,0] (bodyOf Tryz.f44)=some c→∀(Q:Exit→ASt→Prop),(Q (.exit 0) ⟨[(9,.own 2 (List.length (α:=Ty) o))],[.dead,.dead,.elems 2 (List.map Ty.c o)]⟩)→ALoopU Tryz.prog B 0 45 (hold c .mk) ⟨[(8,.lit (.int .i64 t.index)),(9,.own 2 (List.length (α:=Ty) out)),(28,.arr (List.map Ty.c x2.args)),(29,.lit (.int .i64 (x2.args.length:Int))),(30,.lit (.int .i64 (i:Int)))],[.dead,.dead,.elems 2 (List.map Ty.c out)]⟩ (hold Q .mk)):=by
 refine F.f87.partial_correctness t x2
  _
  ?_
 ·intro _f_f87 ih_f87 i out o hF
  intro c hc Q hq
  obtain rfl:c=_:=navEq hc rfl
  refine ALoopU.know fun hk hs=> ?_
  have b28:=hk 28
  simp -dsimp at b28
  have d2:=hs 2 _ rfl
  simp -dsimp[Blk.bnd]at d2
  clear hk hs
  refine ALoopU.enter ?_
  repeat first|refine cg ?_|simp -dsimp
  revert hF;refine abr.sp ?_ ?_<;>intro h6 q7 hF
  ·have z8:((i:Int)<(x2.args.length:Int)):=auz
   have hF:=ob hF;obtain⟨x9,e10,hF⟩:=hF
   have le10:=lt_of_get e10
   repeat first|refine cg ?_|simp -dsimp[h6,z8,↓e10]
   revert hF;refine abr.sp ?_ ?_<;>intro h11 q12 hF
   ·have hF:=oc hF;obtain⟨c13,hF⟩:=hF
    have w14:IntKind.i64.wrap ((i:Int)+1)=(i:Int)+1:=wrap_in (by omega) (by omega)
    repeat first|refine cg ?_|simp -dsimp[h6,z8,↓e10,h11,w14]
    refine Again.go _ ?_ ((ih_f87 (i+1) (out++[(⟨x9.data,t.index⟩:Ty)]) o hF) _ rfl _ hq)
    exact(Gh.to3 (by simp) (by first|simp -dsimp[h6,z8,↓e10,h11,w14];done|simp_all))
   ·have hF:=oc hF;obtain⟨c15,hF⟩:=hF
    have w16:IntKind.i64.wrap ((i:Int)+1)=(i:Int)+1:=wrap_in (by omega) (by omega)
    repeat first|refine cg ?_|simp -dsimp[h6,z8,↓e10,h11,q12,w16]
    refine Again.go _ ?_ ((ih_f87 (i+1) (out++[x9]) o hF) _ rfl _ hq)
    exact(Gh.to3 (by simp) (by first|simp -dsimp[h6,z8,↓e10,h11,q12,w16];done|simp_all))
  ·have z8:¬((i:Int)<(x2.args.length:Int)):=auz
   cases hF
   repeat first|refine cg ?_|simp -dsimp[h6,q7,z8]
   refine Leave.go _ (Gh.to3 (by simp) (by first|simp -dsimp[h6,q7,z8];done|simp_all)) hq
theorem CC.f88 (x2:Ctor):(∀(i18:Nat) (out19:List Ty) (o:List Ty),F.f88 x2 i18 out19=some o→∀(c:Code),navO [1,1,1,1,1,0,1,0,0] (bodyOf Tryz.f44)=some c→∀(Q:Exit→ASt→Prop),(Q (.exit 0) ⟨[(9,.own 2 (List.length (α:=Ty) o))],[.dead,.dead,.elems 2 (List.map Ty.c o)]⟩)→ALoopU Tryz.prog B 0 45 (hold c .mk) ⟨[(8,.lit (.int .i64 x2.index)),(9,.own 2 (List.length (α:=Ty) out19)),(28,.arr (List.map Ty.c x2.args)),(29,.lit (.int .i64 (x2.args.length:Int))),(30,.lit (.int .i64 (i18:Int)))],[.dead,.dead,.elems 2 (List.map Ty.c out19)]⟩ (hold Q .mk)):=by
 refine F.f88.partial_correctness x2
  _
  ?_
 ·intro _f_f88 ih_f88 i18 out19 o hF
  intro c hc Q hq
  obtain rfl:c=_:=navEq hc rfl
  refine ALoopU.know fun hk hs=> ?_
  have b28:=hk 28
  simp -dsimp at b28
  have d2:=hs 2 _ rfl
  simp -dsimp[Blk.bnd]at d2
  clear hk hs
  refine ALoopU.enter ?_
  repeat first|refine cg ?_|simp -dsimp
  revert hF;refine abr.sp ?_ ?_<;>intro h20 q21 hF
  ·have z22:((i18:Int)<(x2.args.length:Int)):=auz
   have hF:=ob hF;obtain⟨x23,e24,hF⟩:=hF
   have le24:=lt_of_get e24
   repeat first|refine cg ?_|simp -dsimp[h20,z22,↓e24]
   revert hF;refine abr.sp ?_ ?_<;>intro h25 q26 hF
   ·have hF:=oc hF;obtain⟨c27,hF⟩:=hF
    have w28:IntKind.i64.wrap ((i18:Int)+1)=(i18:Int)+1:=wrap_in (by omega) (by omega)
    repeat first|refine cg ?_|simp -dsimp[h20,z22,↓e24,h25,w28]
    refine Again.go _ ?_ ((ih_f88 (i18+1) (out19++[(⟨x23.data,x2.index⟩:Ty)]) o hF) _ rfl _ hq)
    exact(Gh.to3 (by simp) (by first|simp -dsimp[h20,z22,↓e24,h25,w28];done|simp_all))
   ·have hF:=oc hF;obtain⟨c29,hF⟩:=hF
    have w30:IntKind.i64.wrap ((i18:Int)+1)=(i18:Int)+1:=wrap_in (by omega) (by omega)
    repeat first|refine cg ?_|simp -dsimp[h20,z22,↓e24,h25,q26,w30]
    refine Again.go _ ?_ ((ih_f88 (i18+1) (out19++[x23]) o hF) _ rfl _ hq)
    exact(Gh.to3 (by simp) (by first|simp -dsimp[h20,z22,↓e24,h25,q26,w30];done|simp_all))
  ·have z22:¬((i18:Int)<(x2.args.length:Int)):=auz
   cases hF
   repeat first|refine cg ?_|simp -dsimp[h20,q21,z22]
   refine Leave.go _ (Gh.to3 (by simp) (by first|simp -dsimp[h20,q21,z22];done|simp_all)) hq
theorem C.f89 (w:List Vl.Data)(t:Ty)(ctor:Int)(r:List Ty)(hF:F.f89 w t ctor=some r):PureCall Tryz.prog B 44 [.arr (List.map Vl.Data.c w),.agg [.lit (.int .i64 t.data),.lit (.int .i64 t.index)],.lit (.int .i64 ctor)] (.arr (List.map Ty.c r)):=by
 unfold F.f89 at hF
 refine PureCall.enterLe Tryz.func44 (by kernel_rfl) rfl Tryz.ntmps44 (by simp) (by simp) ?_
 have hF:=ob hF;obtain⟨x,e1a,hF⟩:=hF
 have e1a:=at_some e1a;obtain⟨ne1,e1⟩:=e1a
 have le1:=lt_of_get e1
 have hF:=ob hF;obtain⟨x2,e3a,hF⟩:=hF
 have e3a:=at_some e3a;obtain⟨ne3,e3⟩:=e3a
 have le3:=lt_of_get e3
 repeat first|refine cg ?_|simp -dsimp[↓e1,↓e3]
 revert hF;refine abr.sp ?_ ?_<;>intro h4 q5 hF
 ·repeat first|refine cg ?_|simp -dsimp[↓e1,↓e3,h4]
  have hF:=ob hF;obtain⟨o',ho17,hF⟩:=hF
  refine ALoop.goU ⟨[(8,.lit (.int .i64 t.index)),(9,.own 2 (List.length (α:=Ty) [])),(28,.arr (List.map Ty.c x2.args)),(29,.lit (.int .i64 (x2.args.length:Int))),(30,.lit (.int .i64 0))],[.dead,.dead,.elems 2 (List.map Ty.c [])]⟩ (by refine Gh.trans (Gh.nil 9 2 (by simp -dsimp)) ?_;exact(Gh.to3 (by simp) (by first|simp -dsimp[↓e1,↓e3,h4];done|simp_all))) ?_
  refine((CC.f87 B hB1 hB2 t x2) 0 [] o' ho17) _ rfl _ ?_
  cases hF
  repeat first|refine cg ?_|simp -dsimp
  all_goals(try first|omega|rfl)
 ·repeat first|refine cg ?_|simp -dsimp[↓e1,↓e3,h4,q5]
  have hF:=ob hF;obtain⟨o'32,ho31,hF⟩:=hF
  refine ALoop.goU ⟨[(8,.lit (.int .i64 x2.index)),(9,.own 2 (List.length (α:=Ty) [])),(28,.arr (List.map Ty.c x2.args)),(29,.lit (.int .i64 (x2.args.length:Int))),(30,.lit (.int .i64 0))],[.dead,.dead,.elems 2 (List.map Ty.c [])]⟩ (by refine Gh.trans (Gh.nil 9 2 (by simp -dsimp)) ?_;exact(Gh.to3 (by simp) (by first|simp -dsimp[↓e1,↓e3,h4,q5];done|simp_all))) ?_
  refine((CC.f88 B hB1 hB2 x2) 0 [] o'32 ho31) _ rfl _ ?_
  cases hF
  repeat first|refine cg ?_|simp -dsimp
  all_goals(try first|omega|rfl)
theorem CC.f90 (w:List Vl.Data)(holes:Bool):(∀(t:Ty) (v:Vl.Value) (deep:Int) (count:Int) (r:Bool×Int),F.f90 w t v deep holes count=some r→MutCall Tryz.prog B 52 [.lit (.int .i64 count)] [.arr (List.map Vl.Data.c w),.agg [.lit (.int .i64 t.data),.lit (.int .i64 t.index)],.agg [.lit (.int .i64 v.ctor),.lit (.int .i64 v.n),.arr (List.map Vl.Value.c v.kids)],.lit (.int .i64 deep),.lit (.bool holes),.ptr 0 0] (.lit (.bool r.1)) [.lit (.int .i64 r.2)])∧
  (∀(v:Vl.Value) (deep:Int) (v60:List Ty) (z65:Int) (i66:Nat) (o:Lo (Bool×Int) Int),F.f92 w v deep holes v60 z65 i66=some o→∀(c:Code),navO [1,1,1,1,1,1,0,1,0,0] (bodyOf Tryz.f52)=some c→∀(Q:Exit→ASt→Prop),o.post (fun r=>∀st,Post Tryz.prog Tryz.f52 (fun r' σ'=>r'.le (.lit (.bool r.1))∧mcell σ' [.lit (.int .i64 r.2)]) .ret st→Q .ret st) (fun s=>Q (.exit 1) ⟨[],[.cells [.lit (.int .i64 s)]]⟩)→ALoopU Tryz.prog B 1 108 (hold c .mk) ⟨[(0,.arr (List.map Vl.Data.c w)),(3,.lit (.int .i64 deep)),(4,.lit (.bool holes)),(5,.ptr 0 0),(13,.arr (List.map Ty.c v60)),(88,.arr (List.map Vl.Value.c v.kids)),(89,.lit (.int .i64 (v.kids.length:Int))),(90,.lit (.int .i64 (i66:Int)))],[.cells [.lit (.int .i64 z65)]]⟩ (hold Q .mk))∧
  (∀(v:Vl.Value) (deep:Int) (v27:List Ty) (z:Int) (i:Nat) (o:Lo (Bool×Int) Int),F.f91 w v deep holes v27 z i=some o→∀(c:Code),navO [1,1,1,1,1,1,0,1,0,0] (bodyOf Tryz.f52)=some c→∀(Q:Exit→ASt→Prop),o.post (fun r=>∀st,Post Tryz.prog Tryz.f52 (fun r' σ'=>r'.le (.lit (.bool r.1))∧mcell σ' [.lit (.int .i64 r.2)]) .ret st→Q .ret st) (fun s=>Q (.exit 1) ⟨[],[.cells [.lit (.int .i64 s)]]⟩)→ALoopU Tryz.prog B 1 108 (hold c .mk) ⟨[(0,.arr (List.map Vl.Data.c w)),(3,.lit (.int .i64 deep)),(4,.lit (.bool holes)),(5,.ptr 0 0),(13,.arr (List.map Ty.c v27)),(88,.arr (List.map Vl.Value.c v.kids)),(89,.lit (.int .i64 (v.kids.length:Int))),(90,.lit (.int .i64 (i:Int)))],[.cells [.lit (.int .i64 z)]]⟩ (hold Q .mk)):=by
 refine F.f90.mutual_partial_correctness w holes
  _ _ _
  ?_ ?_ ?_
 ·intro _f_f92 _f_f91 ih_f92 ih_f91 t v deep count r hF
  refine MutCall.enter Tryz.func52 (by kernel_rfl) rfl Tryz.ntmps52 (by simp) (by simp) (by simp) (by simp) ?_
  repeat first|refine cg ?_|simp -dsimp
  revert hF;refine abr.ns ?_ ?_<;>intro h1 q2 hF
  ·repeat first|refine cg ?_|simp -dsimp[h1,q2]
   revert hF;refine abr.sp ?_ ?_<;>intro h3 q4 hF
   ·cases hF
    repeat first|refine cg ?_|simp -dsimp[h1,q2,h3]
    all_goals(try first|omega|rfl)
   ·repeat first|refine cg ?_|simp -dsimp[h1,q2,h3,q4]
    revert hF;refine abr.sp (fun h5 q6 hF=> ?_) (fun h5 q6 hF=> ?_)
    ·repeat first|refine cg ?_|simp -dsimp[h1,q2,h3,q4,h5]
     revert hF;refine abr.sp ?_ ?_<;>intro h7 q8 hF
     ·repeat first|refine cg ?_|simp -dsimp[h1,q2,h3,q4,h5,h7]
      revert hF;refine abr.sp ?_ ?_<;>intro h9 q10 hF
      ·cases hF
       repeat first|refine cg ?_|simp -dsimp[h1,q2,h3,q4,h5,h7,h9]
       all_goals(try first|omega|rfl)
      ·cases hF
       repeat first|refine cg ?_|simp -dsimp[h1,q2,h3,q4,h5,h7,h9,q10]
       all_goals(try first|omega|rfl)
     ·repeat first|refine cg ?_|simp -dsimp[h1,q2,h3,q4,h5,h7,q8]
      revert hF;refine abr.sp ?_ ?_<;>intro h11 q12 hF
      ·repeat first|refine cg ?_|simp -dsimp[h1,q2,h3,q4,h5,h7,q8,h11]
       revert hF;refine abr.sp ?_ ?_<;>intro h13 q14 hF
       ·repeat first|refine cg ?_|simp -dsimp[h1,q2,h3,q4,h5,h7,q8,h11,h13]
        have hF:=ob hF;obtain⟨v15,e16,hF⟩:=hF
        refine((C.f68 B hB1 hB2 v.n 0 9 v15 e16)).goW (by first|simp[h1,q2,h3,q4,h5,h7,q8,h11,h13];done|simp_all) (by simp) ?_
        repeat first|refine cg ?_|simp -dsimp[h1,q2,h3,q4,h5,h7,q8,h11,h13]
        revert hF;refine abr.sp (fun h17 q18 hF=> ?_) (fun h17 q18 hF=> ?_)
        ·cases hF
         repeat first|refine cg ?_|simp -dsimp[h1,q2,h3,q4,h5,h7,q8,h11,h13,h17]
         all_goals(try first|omega|rfl)
        ·cases hF
         repeat first|refine cg ?_|simp -dsimp[h1,q2,h3,q4,h5,h7,q8,h11,h13,h17,q18]
         all_goals(try first|omega|rfl)
       ·cases hF
        repeat first|refine cg ?_|simp -dsimp[h1,q2,h3,q4,h5,h7,q8,h11,h13,q14]
        all_goals(try first|omega|rfl)
      ·repeat first|refine cg ?_|simp -dsimp[h1,q2,h3,q4,h5,h7,q8,h11,q12]
       refine ADraw.simple follows (by kernel_rfl) (by kernel_rfl) ?_
       repeat first|refine cg ?_|simp -dsimp[h1,q2,h3,q4,h5,h7,q8,h11,q12]
       revert hF;refine abr.sp ?_ ?_<;>intro h19 q20 hF
       ·repeat first|refine cg ?_|simp -dsimp[h1,q2,h3,q4,h5,h7,q8,h11,q12,h19]
        have hF:=ob hF;obtain⟨v21,e22,hF⟩:=hF
        refine((C.f83 B hB1 hB2 w t v21 e22)).pgoW (by first|simp[h1,q2,h3,q4,h5,h7,q8,h11,q12,h19];done|simp_all) (by simp) ?_
        repeat first|refine cg ?_|simp -dsimp[h1,q2,h3,q4,h5,h7,q8,h11,q12,h19]
        have hF:=ob hF;obtain⟨v23,e24,hF⟩:=hF
        refine((C.f86 B hB1 hB2 v21 v.ctor v23 e24)).pgoW (by first|simp[h1,q2,h3,q4,h5,h7,q8,h11,q12,h19];done|simp_all) (by simp) ?_
        repeat first|refine cg ?_|simp -dsimp[h1,q2,h3,q4,h5,h7,q8,h11,q12,h19]
        revert hF;refine abr.ns (fun h25 q26 hF=> ?_) (fun h25 q26 hF=> ?_)
        ·cases hF
         repeat first|refine cg ?_|simp -dsimp[h1,q2,h3,q4,h5,h7,q8,h11,q12,h19,h25,q26]
         all_goals(try first|omega|rfl)
        ·repeat first|refine cg ?_|simp -dsimp[h1,q2,h3,q4,h5,h7,q8,h11,q12,h19,h25,q26]
         have hF:=ob hF;obtain⟨v27,e28,hF⟩:=hF
         refine((C.f89 B hB1 hB2 w t v.ctor v27 e28)).goW (by first|simp[h1,q2,h3,q4,h5,h7,q8,h11,q12,h19,h25,q26];done|simp_all) (by simp) ?_
         repeat first|refine cg ?_|simp -dsimp[h1,q2,h3,q4,h5,h7,q8,h11,q12,h19,h25,q26]
         revert hF;refine abr.ns ?_ ?_<;>intro h29 q30 hF
         ·have z31:¬((v27.length:Int)=(v.kids.length:Int)):=auz
          cases hF
          repeat first|refine cg ?_|simp -dsimp[h1,q2,h3,q4,h5,h7,q8,h11,q12,h19,h25,q26,h29,q30,z31]
          all_goals(try first|omega|rfl)
         ·have z31:((v27.length:Int)=(v.kids.length:Int)):=auz
          repeat first|refine cg ?_|simp -dsimp[h1,q2,h3,q4,h5,h7,q8,h11,q12,h19,h25,q26,h29,q30,z31]
          have hF:=ob hF;obtain⟨o',ho43,hF⟩:=hF
          refine ALoop.goU _ ?_ ((ih_f91 v deep v27 (IntKind.i64.wrap (count+1)) 0 o' ho43) _ rfl _ ?_)
          ·exact(Gh.to3 (by simp) (by first|simp -dsimp[h1,q2,h3,q4,h5,h7,q8,h11,q12,h19,h25,q26,h29,q30,z31];done|simp_all))
          rcases o' with r0|sx
          ·dsimp only at hF
           cases hF
           intro st h
           simpa using h
          ·dsimp only at hF
           cases hF
           repeat first|refine cg ?_|simp -dsimp
           all_goals(try first|omega|rfl)
       ·cases hF
        repeat first|refine cg ?_|simp -dsimp[h1,q2,h3,q4,h5,h7,q8,h11,q12,h19,q20]
        all_goals(try first|omega|rfl)
    ·repeat first|refine cg ?_|simp -dsimp[h1,q2,h3,q4,h5,q6]
     revert hF;refine abr.sp ?_ ?_<;>intro h44 q45 hF
     ·repeat first|refine cg ?_|simp -dsimp[h1,q2,h3,q4,h5,q6,h44]
      revert hF;refine abr.sp ?_ ?_<;>intro h46 q47 hF
      ·repeat first|refine cg ?_|simp -dsimp[h1,q2,h3,q4,h5,q6,h44,h46]
       have hF:=ob hF;obtain⟨v48,e49,hF⟩:=hF
       refine((C.f68 B hB1 hB2 v.n 0 9 v48 e49)).goW (by first|simp[h1,q2,h3,q4,h5,q6,h44,h46];done|simp_all) (by simp) ?_
       repeat first|refine cg ?_|simp -dsimp[h1,q2,h3,q4,h5,q6,h44,h46]
       revert hF;refine abr.sp (fun h50 q51 hF=> ?_) (fun h50 q51 hF=> ?_)
       ·cases hF
        repeat first|refine cg ?_|simp -dsimp[h1,q2,h3,q4,h5,q6,h44,h46,h50]
        all_goals(try first|omega|rfl)
       ·cases hF
        repeat first|refine cg ?_|simp -dsimp[h1,q2,h3,q4,h5,q6,h44,h46,h50,q51]
        all_goals(try first|omega|rfl)
      ·cases hF
       repeat first|refine cg ?_|simp -dsimp[h1,q2,h3,q4,h5,q6,h44,h46,q47]
       all_goals(try first|omega|rfl)
     ·repeat first|refine cg ?_|simp -dsimp[h1,q2,h3,q4,h5,q6,h44,q45]
      refine ADraw.simple follows (by kernel_rfl) (by kernel_rfl) ?_
      repeat first|refine cg ?_|simp -dsimp[h1,q2,h3,q4,h5,q6,h44,q45]
      revert hF;refine abr.sp ?_ ?_<;>intro h52 q53 hF
      ·repeat first|refine cg ?_|simp -dsimp[h1,q2,h3,q4,h5,q6,h44,q45,h52]
       have hF:=ob hF;obtain⟨v54,e55,hF⟩:=hF
       refine((C.f83 B hB1 hB2 w t v54 e55)).pgoW (by first|simp[h1,q2,h3,q4,h5,q6,h44,q45,h52];done|simp_all) (by simp) ?_
       repeat first|refine cg ?_|simp -dsimp[h1,q2,h3,q4,h5,q6,h44,q45,h52]
       have hF:=ob hF;obtain⟨v56,e57,hF⟩:=hF
       refine((C.f86 B hB1 hB2 v54 v.ctor v56 e57)).pgoW (by first|simp[h1,q2,h3,q4,h5,q6,h44,q45,h52];done|simp_all) (by simp) ?_
       repeat first|refine cg ?_|simp -dsimp[h1,q2,h3,q4,h5,q6,h44,q45,h52]
       revert hF;refine abr.ns (fun h58 q59 hF=> ?_) (fun h58 q59 hF=> ?_)
       ·cases hF
        repeat first|refine cg ?_|simp -dsimp[h1,q2,h3,q4,h5,q6,h44,q45,h52,h58,q59]
        all_goals(try first|omega|rfl)
       ·repeat first|refine cg ?_|simp -dsimp[h1,q2,h3,q4,h5,q6,h44,q45,h52,h58,q59]
        have hF:=ob hF;obtain⟨v60,e61,hF⟩:=hF
        refine((C.f89 B hB1 hB2 w t v.ctor v60 e61)).goW (by first|simp[h1,q2,h3,q4,h5,q6,h44,q45,h52,h58,q59];done|simp_all) (by simp) ?_
        repeat first|refine cg ?_|simp -dsimp[h1,q2,h3,q4,h5,q6,h44,q45,h52,h58,q59]
        revert hF;refine abr.ns ?_ ?_<;>intro h62 q63 hF
        ·have z64:¬((v60.length:Int)=(v.kids.length:Int)):=auz
         cases hF
         repeat first|refine cg ?_|simp -dsimp[h1,q2,h3,q4,h5,q6,h44,q45,h52,h58,q59,h62,q63,z64]
         all_goals(try first|omega|rfl)
        ·have z64:((v60.length:Int)=(v.kids.length:Int)):=auz
         repeat first|refine cg ?_|simp -dsimp[h1,q2,h3,q4,h5,q6,h44,q45,h52,h58,q59,h62,q63,z64]
         have hF:=ob hF;obtain⟨o'80,ho79,hF⟩:=hF
         refine ALoop.goU _ ?_ ((ih_f92 v deep v60 (IntKind.i64.wrap (count+1)) 0 o'80 ho79) _ rfl _ ?_)
         ·exact(Gh.to3 (by simp) (by first|simp -dsimp[h1,q2,h3,q4,h5,q6,h44,q45,h52,h58,q59,h62,q63,z64];done|simp_all))
         rcases o'80 with r082|sx81
         ·dsimp only at hF
          cases hF
          intro st h
          simpa using h
         ·dsimp only at hF
          cases hF
          repeat first|refine cg ?_|simp -dsimp
          all_goals(try first|omega|rfl)
      ·cases hF
       repeat first|refine cg ?_|simp -dsimp[h1,q2,h3,q4,h5,q6,h44,q45,h52,q53]
       all_goals(try first|omega|rfl)
  ·cases hF
   repeat first|refine cg ?_|simp -dsimp[h1,q2]
   all_goals(try first|omega|rfl)
 ·intro _f_f90 _f_f92 ih_f90 ih_f92 v deep v60 z65 i66 o hF
  intro c hc Q hq
  obtain rfl:c=_:=navEq hc rfl
  refine ALoopU.know fun hk hs=> ?_
  have b0:=hk 0
  simp -dsimp at b0
  have b13:=hk 13
  simp -dsimp at b13
  have b88:=hk 88
  simp -dsimp at b88
  clear hk hs
  refine ALoopU.enter ?_
  repeat first|refine cg ?_|simp -dsimp
  revert hF;refine abr.sp ?_ ?_<;>intro h67 q68 hF
  ·have z69:((i66:Int)<(v.kids.length:Int)):=auz
   have hF:=ob hF;obtain⟨x70,e71,hF⟩:=hF
   have le71:=lt_of_get e71
   repeat first|refine cg ?_|simp -dsimp[h67,z69,↓e71]
   refine ADraw.eff [52] [(0,0),(0,0),(0,0),(0,0),(0,0),(0,0),(0,0),(0,0),(0,0),(0,0),(0,1),(1,1)] [1,1,1,1,1,1,1,1,1,1,1,1] follows (by kernel_rfl) (by kernel_rfl) (by kernel_rfl) ?_
   have hF:=ob hF;obtain⟨x72,e73,hF⟩:=hF
   have le73:=lt_of_get e73
   repeat first|refine cg ?_|simp -dsimp[h67,z69,↓e71,↓e73]
   have hF:=ob hF;obtain⟨v74,e75,hF⟩:=hF
   refine((ih_f90 x72 x70 (IntKind.i64.wrap (deep+1)) z65 v74 e75)).ego 0 rfl (by first|simp[h67,z69,↓e71,↓e73];done|simp_all) (by simp) (by first|simp[h67,z69,↓e71,↓e73];done|simp_all) ?_
   repeat first|refine cg ?_|simp -dsimp[h67,z69,↓e71,↓e73]
   revert hF;refine abr.ns (fun h76 q77 hF=> ?_) (fun h76 q77 hF=> ?_)
   ·cases hF
    repeat first|refine cg ?_|simp -dsimp[h67,z69,↓e71,↓e73,h76,q77]
    refine Leave.go _ (Gh.refl _) (hq _ ?_)
    repeat first|refine cg ?_|simp -dsimp[h67,z69,↓e71,↓e73,h76,q77]
   ·have w78:IntKind.i64.wrap ((i66:Int)+1)=(i66:Int)+1:=wrap_in (by omega) (by omega)
    repeat first|refine cg ?_|simp -dsimp[h67,z69,↓e71,↓e73,h76,q77,w78]
    refine Again.go _ ?_ ((ih_f92 v deep v60 v74.2 (i66+1) o hF) _ rfl _ hq)
    exact(Gh.to3 (by simp) (by first|simp -dsimp[h67,z69,↓e71,↓e73,h76,q77,w78];done|simp_all))
  ·have z69:¬((i66:Int)<(v.kids.length:Int)):=auz
   cases hF
   repeat first|refine cg ?_|simp -dsimp[h67,q68,z69]
   refine Leave.go _ (Gh.to3 (by simp) (by first|simp -dsimp[h67,q68,z69];done|simp_all)) hq
 ·intro _f_f90 _f_f91 ih_f90 ih_f91 v deep v27 z i o hF
  intro c hc Q hq
  obtain rfl:c=_:=navEq hc rfl
  refine ALoopU.know fun hk hs=> ?_
  have b0:=hk 0
  simp -dsimp at b0
  have b13:=hk 13
  simp -dsimp at b13
  have b88:=hk 88
  simp -dsimp at b88
  clear hk hs
  refine ALoopU.enter ?_
  repeat first|refine cg ?_|simp -dsimp
  revert hF;refine abr.sp ?_ ?_<;>intro h32 q33 hF
  ·have z34:((i:Int)<(v.kids.length:Int)):=auz
   have hF:=ob hF;obtain⟨x,e35,hF⟩:=hF
   have le35:=lt_of_get e35
   repeat first|refine cg ?_|simp -dsimp[h32,z34,↓e35]
   refine ADraw.eff [52] [(0,0),(0,0),(0,0),(0,0),(0,0),(0,0),(0,0),(0,0),(0,0),(0,0),(0,1),(1,1)] [1,1,1,1,1,1,1,1,1,1,1,1] follows (by kernel_rfl) (by kernel_rfl) (by kernel_rfl) ?_
   have hF:=ob hF;obtain⟨x36,e37,hF⟩:=hF
   have le37:=lt_of_get e37
   repeat first|refine cg ?_|simp -dsimp[h32,z34,↓e35,↓e37]
   have hF:=ob hF;obtain⟨v38,e39,hF⟩:=hF
   refine((ih_f90 x36 x (IntKind.i64.wrap (deep+1)) z v38 e39)).ego 0 rfl (by first|simp[h32,z34,↓e35,↓e37];done|simp_all) (by simp) (by first|simp[h32,z34,↓e35,↓e37];done|simp_all) ?_
   repeat first|refine cg ?_|simp -dsimp[h32,z34,↓e35,↓e37]
   revert hF;refine abr.ns (fun h40 q41 hF=> ?_) (fun h40 q41 hF=> ?_)
   ·cases hF
    repeat first|refine cg ?_|simp -dsimp[h32,z34,↓e35,↓e37,h40,q41]
    refine Leave.go _ (Gh.refl _) (hq _ ?_)
    repeat first|refine cg ?_|simp -dsimp[h32,z34,↓e35,↓e37,h40,q41]
   ·have w42:IntKind.i64.wrap ((i:Int)+1)=(i:Int)+1:=wrap_in (by omega) (by omega)
    repeat first|refine cg ?_|simp -dsimp[h32,z34,↓e35,↓e37,h40,q41,w42]
    refine Again.go _ ?_ ((ih_f91 v deep v27 v38.2 (i+1) o hF) _ rfl _ hq)
    exact(Gh.to3 (by simp) (by first|simp -dsimp[h32,z34,↓e35,↓e37,h40,q41,w42];done|simp_all))
  ·have z34:¬((i:Int)<(v.kids.length:Int)):=auz
   cases hF
   repeat first|refine cg ?_|simp -dsimp[h32,q33,z34]
   refine Leave.go _ (Gh.to3 (by simp) (by first|simp -dsimp[h32,q33,z34];done|simp_all)) hq
theorem C.f93 (w:List Vl.Data)(t:Ty)(v:Vl.Value)(r:Bool)(hF:F.f93 w t v=some r):PureCall Tryz.prog B 30 [.arr (List.map Vl.Data.c w),.agg [.lit (.int .i64 t.data),.lit (.int .i64 t.index)],.agg [.lit (.int .i64 v.ctor),.lit (.int .i64 v.n),.arr (List.map Vl.Value.c v.kids)]] (.lit (.bool r)):=by
 unfold F.f93 at hF
 refine PureCall.enterLe Tryz.func30 (by kernel_rfl) rfl Tryz.ntmps30 (by simp) (by simp) ?_
 repeat first|refine cg ?_|simp -dsimp
 have hF:=ob hF;obtain⟨v1,e2,hF⟩:=hF
 refine(((CC.f90 B hB1 hB2 w false).1 t v 1 0 v1 e2)).go 2 rfl (by simp) (by simp) (by simp) ?_
 cases hF
 repeat first|refine cg ?_|simp -dsimp
 all_goals(try first|omega|rfl)
theorem C.f94 (w:List Vl.Data)(t:Ty)(v:Vl.Value)(r:Bool)(hF:F.f94 w t v=some r):PureCall Tryz.prog B 13 [.arr (List.map Vl.Data.c w),.agg [.lit (.int .i64 t.data),.lit (.int .i64 t.index)],.agg [.lit (.int .i64 v.ctor),.lit (.int .i64 v.n),.arr (List.map Vl.Value.c v.kids)]] (.lit (.bool r)):=by
 unfold F.f94 at hF
 refine PureCall.enterLe Tryz.func13 (by kernel_rfl) rfl Tryz.ntmps13 (by simp) (by simp) ?_
 repeat first|refine cg ?_|simp -dsimp
 have hF:=ob hF;obtain⟨v1,e2,hF⟩:=hF
 refine((C.f81 B hB1 hB2 w t v1 e2)).goW (by simp) (by simp) ?_
 repeat first|refine cg ?_|simp -dsimp
 revert hF;refine abr.sp (fun h3 q4 hF=> ?_) (fun h3 q4 hF=> ?_)
 ·repeat first|refine cg ?_|simp -dsimp[h3]
  have hF:=ob hF;obtain⟨v5,e6,hF⟩:=hF
  refine((C.f93 B hB1 hB2 w t v v5 e6)).goW (by first|simp[h3];done|simp_all) (by simp) ?_
  cases hF
  repeat first|refine cg ?_|simp -dsimp[h3]
  all_goals(try first|omega|rfl)
 ·cases hF
  repeat first|refine cg ?_|simp -dsimp[h3,q4]
  all_goals(try first|omega|rfl)
theorem CC.f95  :(∀(v:Vl.Value) (r:Vl.Expr),F.f95 v=some r→PureCall Tryz.prog B 14 [.agg [.lit (.int .i64 v.ctor),.lit (.int .i64 v.n),.arr (List.map Vl.Value.c v.kids)]] (.agg [.lit (.int .i64 r.op),.lit (.int .i64 r.n),.lit (.int .i64 r.ctor),.arr (List.map Vl.Expr.c r.kids)]))∧
  (∀(v:Vl.Value) (out:List Vl.Expr) (i:Nat) (o:List Vl.Expr),F.f96 v out i=some o→∀(c:Code),navO [1,1,1,0,1,0,0] (bodyOf Tryz.f14)=some c→∀(Q:Exit→ASt→Prop),(Q (.exit 0) ⟨[(2,.ptr 1 0),(3,.ptr 2 0)],[.dead,.cells [.lit (.int .i64 0),.lit (.int .i64 0),.lit (.int .i64 0),.lit (.slice none 0 0)],.cells [.lit (.int .i64 3),.lit (.int .i64 0),.lit (.int .i64 v.ctor),.own 3 (List.length (α:=Vl.Expr) o)],.elems 4 (List.map Vl.Expr.c o)]⟩)→ALoopU Tryz.prog B 0 31 (hold c .mk) ⟨[(2,.ptr 1 0),(3,.ptr 2 0),(16,.arr (List.map Vl.Value.c v.kids)),(17,.lit (.int .i64 (v.kids.length:Int))),(18,.lit (.int .i64 (i:Int)))],[.dead,.cells [.lit (.int .i64 0),.lit (.int .i64 0),.lit (.int .i64 0),.lit (.slice none 0 0)],.cells [.lit (.int .i64 3),.lit (.int .i64 0),.lit (.int .i64 v.ctor),.own 3 (List.length (α:=Vl.Expr) out)],.elems 4 (List.map Vl.Expr.c out)]⟩ (hold Q .mk)):=by
 refine F.f95.mutual_partial_correctness 
  _ _
  ?_ ?_
 ·intro _f_f96 ih_f96 v r hF
  refine PureCall.enterLe Tryz.func14 (by kernel_rfl) rfl Tryz.ntmps14 (by simp) (by simp) ?_
  repeat first|refine cg ?_|simp -dsimp
  revert hF;refine abr.sp ?_ ?_<;>intro h1 q2 hF
  ·cases hF
   repeat first|refine cg ?_|simp -dsimp[h1]
   all_goals(try first|omega|rfl)
  ·repeat first|refine cg ?_|simp -dsimp[h1,q2]
   have hF:=ob hF;obtain⟨o',ho11,hF⟩:=hF
   refine ALoop.goU ⟨[(2,.ptr 1 0),(3,.ptr 2 0),(16,.arr (List.map Vl.Value.c v.kids)),(17,.lit (.int .i64 (v.kids.length:Int))),(18,.lit (.int .i64 0))],[.dead,.cells [.lit (.int .i64 0),.lit (.int .i64 0),.lit (.int .i64 0),.lit (.slice none 0 0)],.cells [.lit (.int .i64 3),.lit (.int .i64 0),.lit (.int .i64 v.ctor),.own 3 (List.length (α:=Vl.Expr) [])],.elems 4 (List.map Vl.Expr.c [])]⟩ (by refine Gh.trans (Gh.nilCell 2 3 4 (by simp -dsimp;rfl) (by simp -dsimp)) ?_;exact(Gh.to3 (by simp) (by first|simp -dsimp[h1,q2];done|simp_all))) ?_
   refine(ih_f96 v [] 0 o' ho11) _ rfl _ ?_
   cases hF
   repeat first|refine cg ?_|simp -dsimp
   all_goals(try first|omega|rfl)
 ·intro _f_f95 _f_f96 ih_f95 ih_f96 v out i o hF
  intro c hc Q hq
  obtain rfl:c=_:=navEq hc rfl
  refine ALoopU.know fun hk hs=> ?_
  have b16:=hk 16
  simp -dsimp at b16
  have d3:=hs 3 _ rfl
  simp -dsimp[Blk.bnd]at d3
  clear hk hs
  refine ALoopU.enter ?_
  repeat first|refine cg ?_|simp -dsimp
  revert hF;refine abr.sp ?_ ?_<;>intro h3 q4 hF
  ·have z5:((i:Int)<(v.kids.length:Int)):=auz
   have hF:=ob hF;obtain⟨x,e6,hF⟩:=hF
   have le6:=lt_of_get e6
   repeat first|refine cg ?_|simp -dsimp[h3,z5,↓e6]
   refine ADraw.eff [] [(0,1),(0,1),(0,0),(0,3),(0,3),(0,3),(2,2),(0,3)] [0,2,1,1,1,1,1,1] follows (by kernel_rfl) (by kernel_rfl) (by kernel_rfl) ?_
   repeat first|refine cg ?_|simp -dsimp[h3,z5,↓e6]
   have hF:=ob hF;obtain⟨v7,e8,hF⟩:=hF
   refine((ih_f95 x v7 e8)).pgoW (by first|simp[h3,z5,↓e6];done|simp_all) (by simp) ?_
   have hF:=oc hF;obtain⟨c9,hF⟩:=hF
   have w10:IntKind.i64.wrap ((i:Int)+1)=(i:Int)+1:=wrap_in (by omega) (by omega)
   repeat first|refine cg ?_|simp -dsimp[h3,z5,↓e6,w10]
   refine Again.go _ ?_ ((ih_f96 v (out++[v7]) (i+1) o hF) _ rfl _ hq)
   exact(Gh.to3 (by simp) (by first|simp -dsimp[h3,z5,↓e6,w10];done|simp_all))
  ·have z5:¬((i:Int)<(v.kids.length:Int)):=auz
   cases hF
   repeat first|refine cg ?_|simp -dsimp[h3,q4,z5]
   refine Leave.go _ (Gh.to3 (by simp) (by first|simp -dsimp[h3,q4,z5];done|simp_all)) hq
theorem C.f97 (w:List Vl.Data)(t:Ty)(v:Vl.Value)(r:Vl.Expr×Bool)(hF:F.f97 w t v=some r):PureCall Tryz.prog B 5 [.arr (List.map Vl.Data.c w),.agg [.lit (.int .i64 t.data),.lit (.int .i64 t.index)],.agg [.lit (.int .i64 v.ctor),.lit (.int .i64 v.n),.arr (List.map Vl.Value.c v.kids)]] (.tup [.agg [.lit (.int .i64 r.1.op),.lit (.int .i64 r.1.n),.lit (.int .i64 r.1.ctor),.arr (List.map Vl.Expr.c r.1.kids)],.lit (.bool r.2)]):=by
 unfold F.f97 at hF
 refine PureCall.enterLe Tryz.func5 (by kernel_rfl) rfl Tryz.ntmps5 (by simp) (by simp) ?_
 repeat first|refine cg ?_|simp -dsimp
 have hF:=ob hF;obtain⟨v1,e2,hF⟩:=hF
 refine((C.f94 B hB1 hB2 w t v v1 e2)).goW (by simp) (by simp) ?_
 repeat first|refine cg ?_|simp -dsimp
 revert hF;refine abr.ns (fun h3 q4 hF=> ?_) (fun h3 q4 hF=> ?_)
 ·cases hF
  repeat first|refine cg ?_|simp -dsimp[h3,q4]
  all_goals(try first|omega|rfl)
 ·repeat first|refine cg ?_|simp -dsimp[h3,q4]
  have hF:=ob hF;obtain⟨v5,e6,hF⟩:=hF
  refine(((CC.f95 B hB1 hB2).1 v v5 e6)).goW (by first|simp[h3,q4];done|simp_all) (by simp) ?_
  cases hF
  repeat first|refine cg ?_|simp -dsimp[h3,q4]
  all_goals(try first|omega|rfl)
theorem C.f98 (w:List Vl.Data)(t:Ty)(r:Bool)(hF:F.f98 w t=some r):PureCall Tryz.prog B 54 [.arr (List.map Vl.Data.c w),.agg [.lit (.int .i64 t.data),.lit (.int .i64 t.index)]] (.lit (.bool r)):=by
 unfold F.f98 at hF
 refine PureCall.enterLe Tryz.func54 (by kernel_rfl) rfl Tryz.ntmps54 (by simp) (by simp) ?_
 repeat first|refine cg ?_|simp -dsimp
 have hF:=ob hF;obtain⟨v,e1,hF⟩:=hF
 refine((C.f15 B hB1 hB2 (w.length:Int) t v e1)).goW (by simp) (by simp) ?_
 repeat first|refine cg ?_|simp -dsimp
 revert hF;refine abr.sp (fun h2 q3 hF=> ?_) (fun h2 q3 hF=> ?_)
 ·cases hF
  repeat first|refine cg ?_|simp -dsimp[h2]
  all_goals(try first|omega|rfl)
 ·cases hF
  repeat first|refine cg ?_|simp -dsimp[h2,q3]
  all_goals(try first|omega|rfl)
theorem C.f99 (w:List Vl.Data)(t:Ty)(r:Bool)(hF:F.f99 w t=some r):PureCall Tryz.prog B 31 [.arr (List.map Vl.Data.c w),.agg [.lit (.int .i64 t.data),.lit (.int .i64 t.index)]] (.lit (.bool r)):=by
 unfold F.f99 at hF
 refine PureCall.enterLe Tryz.func31 (by kernel_rfl) rfl Tryz.ntmps31 (by simp) (by simp) ?_
 repeat first|refine cg ?_|simp -dsimp
 have hF:=ob hF;obtain⟨v,e1,hF⟩:=hF
 refine((C.f24 B hB1 hB2 w v e1)).goW (by simp) (by simp) ?_
 repeat first|refine cg ?_|simp -dsimp
 revert hF;refine abr.sp (fun h2 q3 hF=> ?_) (fun h2 q3 hF=> ?_)
 ·repeat first|refine cg ?_|simp -dsimp[h2]
  have hF:=ob hF;obtain⟨v4,e5,hF⟩:=hF
  refine((C.f98 B hB1 hB2 w t v4 e5)).goW (by first|simp[h2];done|simp_all) (by simp) ?_
  cases hF
  repeat first|refine cg ?_|simp -dsimp[h2]
  all_goals(try first|omega|rfl)
 ·cases hF
  repeat first|refine cg ?_|simp -dsimp[h2,q3]
  all_goals(try first|omega|rfl)
theorem CC.f100 (list:List Int)(n:Int):(∀(i:Nat) (o:Lo Bool Unit),F.f100 list n i=some o→∀(c:Code),navO [1,0,1,0,0] (bodyOf Tryz.f75)=some c→∀(Q:Exit→ASt→Prop),o.post (fun r=>∀st,Post Tryz.prog Tryz.f75 (fun r' _=>r'.le (.lit (.bool r))) .ret st→Q .ret st) (fun s=>Q (.exit 0) ⟨[],[]⟩)→ALoopU Tryz.prog B 0 18 (hold c .mk) ⟨[(0,.arr (List.map cI list)),(1,.lit (.int .i64 n)),(5,.lit (.int .i64 (i:Int)))],[]⟩ (hold Q .mk)):=by
 refine F.f100.partial_correctness list n
  _
  ?_
 ·intro _f_f100 ih_f100 i o hF
  intro c hc Q hq
  obtain rfl:c=_:=navEq hc rfl
  refine ALoopU.know fun hk hs=> ?_
  have b0:=hk 0
  simp -dsimp at b0
  clear hk hs
  refine ALoopU.enter ?_
  repeat first|refine cg ?_|simp -dsimp
  revert hF;refine abr.sp ?_ ?_<;>intro h1 q2 hF
  ·have z3:((i:Int)<(list.length:Int)):=auz
   have hF:=ob hF;obtain⟨x,e4,hF⟩:=hF
   have le4:=lt_of_get e4
   repeat first|refine cg ?_|simp -dsimp[h1,z3,↓e4]
   revert hF;refine abr.sp ?_ ?_<;>intro h5 q6 hF
   ·cases hF
    repeat first|refine cg ?_|simp -dsimp[h1,z3,↓e4,h5]
    refine Leave.go _ (Gh.refl _) (hq _ ?_)
    repeat first|refine cg ?_|simp -dsimp[h1,z3,↓e4,h5]
   ·have w7:IntKind.i64.wrap ((i:Int)+1)=(i:Int)+1:=wrap_in (by omega) (by omega)
    repeat first|refine cg ?_|simp -dsimp[h1,z3,↓e4,h5,q6,w7]
    refine Again.go _ ?_ ((ih_f100 (i+1) o hF) _ rfl _ hq)
    exact(Gh.to3 (by simp) (by first|simp -dsimp[h1,z3,↓e4,h5,q6,w7];done|simp_all))
  ·have z3:¬((i:Int)<(list.length:Int)):=auz
   cases hF
   repeat first|refine cg ?_|simp -dsimp[h1,q2,z3]
   refine Leave.go _ (Gh.to3 (by simp) (by first|simp -dsimp[h1,q2,z3];done|simp_all)) hq
theorem C.f101 (list:List Int)(n:Int)(r:Bool)(hF:F.f101 list n=some r):PureCall Tryz.prog B 75 [.arr (List.map cI list),.lit (.int .i64 n)] (.lit (.bool r)):=by
 unfold F.f101 at hF
 refine PureCall.enterLe Tryz.func75 (by kernel_rfl) rfl Tryz.ntmps75 (by simp) (by simp) ?_
 repeat first|refine cg ?_|simp -dsimp
 have hF:=ob hF;obtain⟨o',ho8,hF⟩:=hF
 refine ALoop.goU _ ?_ (((CC.f100 B hB1 hB2 list n) 0 o' ho8) _ rfl _ ?_)
 ·exact(Gh.to3 (by simp) (by simp -dsimp))
 rcases o' with r0|sx
 ·dsimp only at hF
  cases hF
  intro st h
  simpa using h
 ·dsimp only at hF
  cases hF
  repeat first|refine cg ?_|simp -dsimp
  all_goals(try first|omega|rfl)
theorem CC.f102 (w:List Vl.Data):(∀(t:Ty) (v:Vl.Value) (depth:Int) (r:Bool),F.f102 w t v depth=some r→PureCall Tryz.prog B 55 [.arr (List.map Vl.Data.c w),.agg [.lit (.int .i64 t.data),.lit (.int .i64 t.index)],.agg [.lit (.int .i64 v.ctor),.lit (.int .i64 v.n),.arr (List.map Vl.Value.c v.kids)],.lit (.int .i64 depth)] (.lit (.bool r)))∧
  (∀(v:Vl.Value) (depth:Int) (v19:List Ty) (i:Nat) (o:Lo Bool Unit),F.f103 w v depth v19 i=some o→∀(c:Code),navO [1,1,1,1,1,1,0,1,0,0] (bodyOf Tryz.f55)=some c→∀(Q:Exit→ASt→Prop),o.post (fun r=>∀st,Post Tryz.prog Tryz.f55 (fun r' _=>r'.le (.lit (.bool r))) .ret st→Q .ret st) (fun s=>Q (.exit 0) ⟨[],[]⟩)→ALoopU Tryz.prog B 0 78 (hold c .mk) ⟨[(0,.arr (List.map Vl.Data.c w)),(3,.lit (.int .i64 depth)),(6,.ptr 1 0),(9,.arr (List.map Ty.c v19)),(10,.lit (.int .i64 (i:Int)))],[.dead,.cells [.lit (.int .i64 v.ctor),.lit (.int .i64 v.n),.arr (List.map Vl.Value.c v.kids)]]⟩ (hold Q .mk)):=by
 refine F.f102.mutual_partial_correctness w
  _ _
  ?_ ?_
 ·intro _f_f103 ih_f103 t v depth r hF
  refine PureCall.enterLe Tryz.func55 (by kernel_rfl) rfl Tryz.ntmps55 (by simp) (by simp) ?_
  repeat first|refine cg ?_|simp -dsimp
  revert hF;refine abr.sp ?_ ?_<;>intro h1 q2 hF
  ·cases hF
   repeat first|refine cg ?_|simp -dsimp[h1]
   all_goals(try first|omega|rfl)
  ·repeat first|refine cg ?_|simp -dsimp[h1,q2]
   revert hF;refine abr.sp ?_ ?_<;>intro h3 q4 hF
   ·repeat first|refine cg ?_|simp -dsimp[h1,q2,h3]
    revert hF;refine abr.sp ?_ ?_<;>intro h5 q6 hF
    ·repeat first|refine cg ?_|simp -dsimp[h1,q2,h3,h5]
     revert hF;refine abr.sp ?_ ?_<;>intro h7 q8 hF
     ·repeat first|refine cg ?_|simp -dsimp[h1,q2,h3,h5,h7]
      revert hF;refine abr.sp ?_ ?_<;>intro h9 q10 hF
      ·cases hF
       repeat first|refine cg ?_|simp -dsimp[h1,q2,h3,h5,h7,h9]
       all_goals(try first|omega|rfl)
      ·cases hF
       repeat first|refine cg ?_|simp -dsimp[h1,q2,h3,h5,h7,h9,q10]
       all_goals(try first|omega|rfl)
     ·cases hF
      repeat first|refine cg ?_|simp -dsimp[h1,q2,h3,h5,h7,q8]
      all_goals(try first|omega|rfl)
    ·cases hF
     repeat first|refine cg ?_|simp -dsimp[h1,q2,h3,h5,q6]
     all_goals(try first|omega|rfl)
   ·repeat first|refine cg ?_|simp -dsimp[h1,q2,h3,q4]
    refine ADraw.simple follows (by kernel_rfl) (by kernel_rfl) ?_
    repeat first|refine cg ?_|simp -dsimp[h1,q2,h3,q4]
    revert hF;refine abr.sp ?_ ?_<;>intro h11 q12 hF
    ·repeat first|refine cg ?_|simp -dsimp[h1,q2,h3,q4,h11]
     have hF:=ob hF;obtain⟨v13,e14,hF⟩:=hF
     refine((C.f42 B hB1 hB2 w t v13 e14)).pgoW (by first|simp[h1,q2,h3,q4,h11];done|simp_all) (by simp) ?_
     repeat first|refine cg ?_|simp -dsimp[h1,q2,h3,q4,h11]
     have hF:=ob hF;obtain⟨v15,e16,hF⟩:=hF
     refine((C.f101 B hB1 hB2 v13 v.ctor v15 e16)).pgoW (by first|simp[h1,q2,h3,q4,h11];done|simp_all) (by simp) ?_
     repeat first|refine cg ?_|simp -dsimp[h1,q2,h3,q4,h11]
     revert hF;refine abr.ns (fun h17 q18 hF=> ?_) (fun h17 q18 hF=> ?_)
     ·cases hF
      repeat first|refine cg ?_|simp -dsimp[h1,q2,h3,q4,h11,h17,q18]
      all_goals(try first|omega|rfl)
     ·repeat first|refine cg ?_|simp -dsimp[h1,q2,h3,q4,h11,h17,q18]
      have hF:=ob hF;obtain⟨v19,e20,hF⟩:=hF
      refine((C.f45 B hB1 hB2 w t v.ctor v19 e20)).goW (by first|simp[h1,q2,h3,q4,h11,h17,q18];done|simp_all) (by simp) ?_
      repeat first|refine cg ?_|simp -dsimp[h1,q2,h3,q4,h11,h17,q18]
      revert hF;refine abr.ns ?_ ?_<;>intro h21 q22 hF
      ·have z23:¬((v.kids.length:Int)=(v19.length:Int)):=auz
       cases hF
       repeat first|refine cg ?_|simp -dsimp[h1,q2,h3,q4,h11,h17,q18,h21,q22,z23]
       all_goals(try first|omega|rfl)
      ·have z23:((v.kids.length:Int)=(v19.length:Int)):=auz
       repeat first|refine cg ?_|simp -dsimp[h1,q2,h3,q4,h11,h17,q18,h21,q22,z23]
       have hF:=ob hF;obtain⟨o',ho35,hF⟩:=hF
       refine ALoop.goU _ ?_ ((ih_f103 v depth v19 0 o' ho35) _ rfl _ ?_)
       ·exact(Gh.to3 (by simp) (by first|simp -dsimp[h1,q2,h3,q4,h11,h17,q18,h21,q22,z23];done|simp_all))
       rcases o' with r0|sx
       ·dsimp only at hF
        cases hF
        intro st h
        simpa using h
       ·dsimp only at hF
        cases hF
        repeat first|refine cg ?_|simp -dsimp
        all_goals(try first|omega|rfl)
    ·cases hF
     repeat first|refine cg ?_|simp -dsimp[h1,q2,h3,q4,h11,q12]
     all_goals(try first|omega|rfl)
 ·intro _f_f102 _f_f103 ih_f102 ih_f103 v depth v19 i o hF
  intro c hc Q hq
  obtain rfl:c=_:=navEq hc rfl
  refine ALoopU.know fun hk hs=> ?_
  have b0:=hk 0
  simp -dsimp at b0
  have b9:=hk 9
  simp -dsimp at b9
  have d1:=hs 1 _ rfl
  simp -dsimp[Blk.bnd]at d1
  clear hk hs
  refine ALoopU.enter ?_
  repeat first|refine cg ?_|simp -dsimp
  revert hF;refine abr.sp ?_ ?_<;>intro h24 q25 hF
  ·have z26:((i:Int)<(v19.length:Int)):=auz
   repeat first|refine cg ?_|simp -dsimp[h24,z26]
   refine ADraw.simple follows (by kernel_rfl) (by kernel_rfl) ?_
   have hF:=ob hF;obtain⟨x,e27,hF⟩:=hF
   have le27:=lt_of_get e27
   have hF:=ob hF;obtain⟨x28,e29,hF⟩:=hF
   have le29:=lt_of_get e29
   repeat first|refine cg ?_|simp -dsimp[h24,z26,↓e27,↓e29]
   have hF:=ob hF;obtain⟨v30,e31,hF⟩:=hF
   refine((ih_f102 x x28 (IntKind.i64.wrap (depth-1)) v30 e31)).pgoW (by first|simp[h24,z26,↓e27,↓e29];done|simp_all) (by simp) ?_
   repeat first|refine cg ?_|simp -dsimp[h24,z26,↓e27,↓e29]
   revert hF;refine abr.ns (fun h32 q33 hF=> ?_) (fun h32 q33 hF=> ?_)
   ·cases hF
    repeat first|refine cg ?_|simp -dsimp[h24,z26,↓e27,↓e29,h32,q33]
    refine Leave.go _ (Gh.refl _) (hq _ ?_)
    repeat first|refine cg ?_|simp -dsimp[h24,z26,↓e27,↓e29,h32,q33]
   ·have w34:IntKind.i64.wrap ((i:Int)+1)=(i:Int)+1:=wrap_in (by omega) (by omega)
    repeat first|refine cg ?_|simp -dsimp[h24,z26,↓e27,↓e29,h32,q33,w34]
    refine Again.go _ ?_ ((ih_f103 v depth v19 (i+1) o hF) _ rfl _ hq)
    exact(Gh.to3 (by simp) (by first|simp -dsimp[h24,z26,↓e27,↓e29,h32,q33,w34];done|simp_all))
  ·have z26:¬((i:Int)<(v19.length:Int)):=auz
   cases hF
   repeat first|refine cg ?_|simp -dsimp[h24,q25,z26]
   refine Leave.go _ (Gh.to3 (by simp) (by first|simp -dsimp[h24,q25,z26];done|simp_all)) hq
theorem CC.f104  :(∀(v:Vl.Value) (most:Int) (r:Int),F.f104 v most=some r→PureCall Tryz.prog B 56 [.agg [.lit (.int .i64 v.ctor),.lit (.int .i64 v.n),.arr (List.map Vl.Value.c v.kids)],.lit (.int .i64 most)] (.lit (.int .i64 r)))∧
  (∀(v:Vl.Value) (most:Int) (n:Int) (i:Nat) (o:Int),F.f105 v most n i=some o→∀(c:Code),navO [1,1,0,1,0,0] (bodyOf Tryz.f56)=some c→∀(Q:Exit→ASt→Prop),(Q (.exit 0) ⟨[(5,.lit (.int .i64 o))],[]⟩)→ALoopU Tryz.prog B 0 31 (hold c .mk) ⟨[(1,.lit (.int .i64 most)),(2,.ptr 0 0),(5,.lit (.int .i64 n)),(6,.lit (.int .i64 (i:Int)))],[.cells [.lit (.int .i64 v.ctor),.lit (.int .i64 v.n),.arr (List.map Vl.Value.c v.kids)]]⟩ (hold Q .mk)):=by
 refine F.f104.mutual_partial_correctness 
  _ _
  ?_ ?_
 ·intro _f_f105 ih_f105 v most r hF
  refine PureCall.enterLe Tryz.func56 (by kernel_rfl) rfl Tryz.ntmps56 (by simp) (by simp) ?_
  repeat first|refine cg ?_|simp -dsimp
  have hF:=ob hF;obtain⟨o',ho10,hF⟩:=hF
  refine ALoop.goU _ ?_ ((ih_f105 v most 1 0 o' ho10) _ rfl _ ?_)
  ·exact(Gh.to3 (by simp) (by simp -dsimp))
  cases hF
  repeat first|refine cg ?_|simp -dsimp
  all_goals(try first|omega|rfl)
 ·intro _f_f104 _f_f105 ih_f104 ih_f105 v most n i o hF
  intro c hc Q hq
  obtain rfl:c=_:=navEq hc rfl
  refine ALoopU.know fun hk hs=> ?_
  have d0:=hs 0 _ rfl
  simp -dsimp[Blk.bnd]at d0
  clear hk hs
  refine ALoopU.enter ?_
  repeat first|refine cg ?_|simp -dsimp
  revert hF;refine abr.sp ?_ ?_<;>intro h1 q2 hF
  ·have z3:((i:Int)<(v.kids.length:Int)):=auz
   repeat first|refine cg ?_|simp -dsimp[h1,z3]
   revert hF;refine abr.sp ?_ ?_<;>intro h4 q5 hF
   ·have hF:=ob hF;obtain⟨x,e6,hF⟩:=hF
    have le6:=lt_of_get e6
    repeat first|refine cg ?_|simp -dsimp[h1,z3,h4,↓e6]
    have hF:=ob hF;obtain⟨v7,e8,hF⟩:=hF
    refine((ih_f104 x (IntKind.i64.wrap (most-n)) v7 e8)).goW (by first|simp[h1,z3,h4,↓e6];done|simp_all) (by simp) ?_
    have w9:IntKind.i64.wrap ((i:Int)+1)=(i:Int)+1:=wrap_in (by omega) (by omega)
    repeat first|refine cg ?_|simp -dsimp[h1,z3,h4,↓e6,w9]
    refine Again.go _ ?_ ((ih_f105 v most (IntKind.i64.wrap (n+v7)) (i+1) o hF) _ rfl _ hq)
    exact(Gh.to3 (by simp) (by first|simp -dsimp[h1,z3,h4,↓e6,w9];done|simp_all))
   ·cases hF
    repeat first|refine cg ?_|simp -dsimp[h1,z3,h4,q5]
    refine Leave.go _ (Gh.to3 (by simp) (by first|simp -dsimp[h1,z3,h4,q5];done|simp_all)) hq
  ·have z3:¬((i:Int)<(v.kids.length:Int)):=auz
   cases hF
   repeat first|refine cg ?_|simp -dsimp[h1,q2,z3]
   refine Leave.go _ (Gh.to3 (by simp) (by first|simp -dsimp[h1,q2,z3];done|simp_all)) hq
theorem C.f106 (w:List Vl.Data)(t:Ty)(v:Vl.Value)(r:Bool)(hF:F.f106 w t v=some r):PureCall Tryz.prog B 32 [.arr (List.map Vl.Data.c w),.agg [.lit (.int .i64 t.data),.lit (.int .i64 t.index)],.agg [.lit (.int .i64 v.ctor),.lit (.int .i64 v.n),.arr (List.map Vl.Value.c v.kids)]] (.lit (.bool r)):=by
 unfold F.f106 at hF
 refine PureCall.enterLe Tryz.func32 (by kernel_rfl) rfl Tryz.ntmps32 (by simp) (by simp) ?_
 repeat first|refine cg ?_|simp -dsimp
 have hF:=ob hF;obtain⟨v1,e2,hF⟩:=hF
 refine(((CC.f102 B hB1 hB2 w).1 t v 10 v1 e2)).goW (by simp) (by simp) ?_
 repeat first|refine cg ?_|simp -dsimp
 revert hF;refine abr.sp (fun h3 q4 hF=> ?_) (fun h3 q4 hF=> ?_)
 ·repeat first|refine cg ?_|simp -dsimp[h3]
  have hF:=ob hF;obtain⟨v5,e6,hF⟩:=hF
  refine(((CC.f104 B hB1 hB2).1 v 60 v5 e6)).goW (by first|simp[h3];done|simp_all) (by simp) ?_
  cases hF
  repeat first|refine cg ?_|simp -dsimp[h3]
  all_goals(try first|omega|rfl)
 ·cases hF
  repeat first|refine cg ?_|simp -dsimp[h3,q4]
  all_goals(try first|omega|rfl)
theorem C.f107 (w:List Vl.Data)(t:Ty)(v:Vl.Value)(r:Bool)(hF:F.f107 w t v=some r):PureCall Tryz.prog B 15 [.arr (List.map Vl.Data.c w),.agg [.lit (.int .i64 t.data),.lit (.int .i64 t.index)],.agg [.lit (.int .i64 v.ctor),.lit (.int .i64 v.n),.arr (List.map Vl.Value.c v.kids)]] (.lit (.bool r)):=by
 unfold F.f107 at hF
 refine PureCall.enterLe Tryz.func15 (by kernel_rfl) rfl Tryz.ntmps15 (by simp) (by simp) ?_
 repeat first|refine cg ?_|simp -dsimp
 have hF:=ob hF;obtain⟨v1,e2,hF⟩:=hF
 refine((C.f99 B hB1 hB2 w t v1 e2)).goW (by simp) (by simp) ?_
 repeat first|refine cg ?_|simp -dsimp
 revert hF;refine abr.sp (fun h3 q4 hF=> ?_) (fun h3 q4 hF=> ?_)
 ·repeat first|refine cg ?_|simp -dsimp[h3]
  have hF:=ob hF;obtain⟨v5,e6,hF⟩:=hF
  refine((C.f106 B hB1 hB2 w t v v5 e6)).goW (by first|simp[h3];done|simp_all) (by simp) ?_
  cases hF
  repeat first|refine cg ?_|simp -dsimp[h3]
  all_goals(try first|omega|rfl)
 ·cases hF
  repeat first|refine cg ?_|simp -dsimp[h3,q4]
  all_goals(try first|omega|rfl)
theorem CC.f108  :(∀(v:Vl.Value) (r:Vl.Expr),F.f108 v=some r→PureCall Tryz.prog B 16 [.agg [.lit (.int .i64 v.ctor),.lit (.int .i64 v.n),.arr (List.map Vl.Value.c v.kids)]] (.agg [.lit (.int .i64 r.op),.lit (.int .i64 r.n),.lit (.int .i64 r.ctor),.arr (List.map Vl.Expr.c r.kids)]))∧
  (∀(v:Vl.Value) (out:List Vl.Expr) (i:Nat) (o:List Vl.Expr),F.f109 v out i=some o→∀(c:Code),navO [1,1,1,0,1,0,0] (bodyOf Tryz.f16)=some c→∀(Q:Exit→ASt→Prop),(Q (.exit 0) ⟨[(2,.ptr 1 0),(3,.ptr 2 0)],[.dead,.cells [.lit (.int .i64 0),.lit (.int .i64 0),.lit (.int .i64 0),.lit (.slice none 0 0)],.cells [.lit (.int .i64 3),.lit (.int .i64 0),.lit (.int .i64 v.ctor),.own 3 (List.length (α:=Vl.Expr) o)],.elems 4 (List.map Vl.Expr.c o)]⟩)→ALoopU Tryz.prog B 0 33 (hold c .mk) ⟨[(1,.ptr 0 0),(2,.ptr 1 0),(3,.ptr 2 0),(4,.lit (.int .i64 (i:Int)))],[.cells [.lit (.int .i64 v.ctor),.lit (.int .i64 v.n),.arr (List.map Vl.Value.c v.kids)],.cells [.lit (.int .i64 0),.lit (.int .i64 0),.lit (.int .i64 0),.lit (.slice none 0 0)],.cells [.lit (.int .i64 3),.lit (.int .i64 0),.lit (.int .i64 v.ctor),.own 3 (List.length (α:=Vl.Expr) out)],.elems 4 (List.map Vl.Expr.c out)]⟩ (hold Q .mk)):=by
 refine F.f108.mutual_partial_correctness 
  _ _
  ?_ ?_
 ·intro _f_f109 ih_f109 v r hF
  refine PureCall.enterLe Tryz.func16 (by kernel_rfl) rfl Tryz.ntmps16 (by simp) (by simp) ?_
  repeat first|refine cg ?_|simp -dsimp
  revert hF;refine abr.sp ?_ ?_<;>intro h1 q2 hF
  ·cases hF
   repeat first|refine cg ?_|simp -dsimp[h1]
   all_goals(try first|omega|rfl)
  ·repeat first|refine cg ?_|simp -dsimp[h1,q2]
   have hF:=ob hF;obtain⟨o',ho11,hF⟩:=hF
   refine ALoop.goU ⟨[(1,.ptr 0 0),(2,.ptr 1 0),(3,.ptr 2 0),(4,.lit (.int .i64 0))],[.cells [.lit (.int .i64 v.ctor),.lit (.int .i64 v.n),.arr (List.map Vl.Value.c v.kids)],.cells [.lit (.int .i64 0),.lit (.int .i64 0),.lit (.int .i64 0),.lit (.slice none 0 0)],.cells [.lit (.int .i64 3),.lit (.int .i64 0),.lit (.int .i64 v.ctor),.own 3 (List.length (α:=Vl.Expr) [])],.elems 4 (List.map Vl.Expr.c [])]⟩ (by refine Gh.trans (Gh.nilCell 2 3 4 (by simp -dsimp;rfl) (by simp -dsimp)) ?_;exact(Gh.to3 (by simp) (by first|simp -dsimp[h1,q2];done|simp_all))) ?_
   refine(ih_f109 v [] 0 o' ho11) _ rfl _ ?_
   cases hF
   repeat first|refine cg ?_|simp -dsimp
   all_goals(try first|omega|rfl)
 ·intro _f_f108 _f_f109 ih_f108 ih_f109 v out i o hF
  intro c hc Q hq
  obtain rfl:c=_:=navEq hc rfl
  refine ALoopU.know fun hk hs=> ?_
  have d0:=hs 0 _ rfl
  simp -dsimp[Blk.bnd]at d0
  have d3:=hs 3 _ rfl
  simp -dsimp[Blk.bnd]at d3
  clear hk hs
  refine ALoopU.enter ?_
  repeat first|refine cg ?_|simp -dsimp
  revert hF;refine abr.sp ?_ ?_<;>intro h3 q4 hF
  ·have z5:((i:Int)<(v.kids.length:Int)):=auz
   repeat first|refine cg ?_|simp -dsimp[h3,z5]
   refine ADraw.eff [] [(0,1),(0,1),(0,0),(0,0),(0,0),(0,0),(0,0),(0,3),(0,3),(0,3),(2,2),(0,3)] [0,2,1,1,1,1,1,1,1,1,1,1] follows (by kernel_rfl) (by kernel_rfl) (by kernel_rfl) ?_
   have hF:=ob hF;obtain⟨x,e6,hF⟩:=hF
   have le6:=lt_of_get e6
   repeat first|refine cg ?_|simp -dsimp[h3,z5,↓e6]
   have hF:=ob hF;obtain⟨v7,e8,hF⟩:=hF
   refine((ih_f108 x v7 e8)).pgoW (by first|simp[h3,z5,↓e6];done|simp_all) (by simp) ?_
   have hF:=oc hF;obtain⟨c9,hF⟩:=hF
   have w10:IntKind.i64.wrap ((i:Int)+1)=(i:Int)+1:=wrap_in (by omega) (by omega)
   repeat first|refine cg ?_|simp -dsimp[h3,z5,↓e6,w10]
   refine Again.go _ ?_ ((ih_f109 v (out++[v7]) (i+1) o hF) _ rfl _ hq)
   exact(Gh.to3 (by simp) (by first|simp -dsimp[h3,z5,↓e6,w10];done|simp_all))
  ·have z5:¬((i:Int)<(v.kids.length:Int)):=auz
   cases hF
   repeat first|refine cg ?_|simp -dsimp[h3,q4,z5]
   refine Leave.go _ (Gh.to3 (by simp) (by first|simp -dsimp[h3,q4,z5];done|simp_all)) hq
theorem C.f110 (w:List Vl.Data)(t:Ty)(v:Vl.Value)(r:Vl.Expr×Bool)(hF:F.f110 w t v=some r):PureCall Tryz.prog B 6 [.arr (List.map Vl.Data.c w),.agg [.lit (.int .i64 t.data),.lit (.int .i64 t.index)],.agg [.lit (.int .i64 v.ctor),.lit (.int .i64 v.n),.arr (List.map Vl.Value.c v.kids)]] (.tup [.agg [.lit (.int .i64 r.1.op),.lit (.int .i64 r.1.n),.lit (.int .i64 r.1.ctor),.arr (List.map Vl.Expr.c r.1.kids)],.lit (.bool r.2)]):=by
 unfold F.f110 at hF
 refine PureCall.enterLe Tryz.func6 (by kernel_rfl) rfl Tryz.ntmps6 (by simp) (by simp) ?_
 repeat first|refine cg ?_|simp -dsimp
 have hF:=ob hF;obtain⟨v1,e2,hF⟩:=hF
 refine((C.f107 B hB1 hB2 w t v v1 e2)).goW (by simp) (by simp) ?_
 repeat first|refine cg ?_|simp -dsimp
 revert hF;refine abr.ns (fun h3 q4 hF=> ?_) (fun h3 q4 hF=> ?_)
 ·cases hF
  repeat first|refine cg ?_|simp -dsimp[h3,q4]
  all_goals(try first|omega|rfl)
 ·repeat first|refine cg ?_|simp -dsimp[h3,q4]
  have hF:=ob hF;obtain⟨v5,e6,hF⟩:=hF
  refine(((CC.f108 B hB1 hB2).1 v v5 e6)).goW (by first|simp[h3,q4];done|simp_all) (by simp) ?_
  cases hF
  repeat first|refine cg ?_|simp -dsimp[h3,q4]
  all_goals(try first|omega|rfl)
theorem CC.f111  :(∀(a:Vl.Expr) (b:Vl.Expr) (r:Bool),F.f111 a b=some r→PureCall Tryz.prog B 7 [.agg [.lit (.int .i64 a.op),.lit (.int .i64 a.n),.lit (.int .i64 a.ctor),.arr (List.map Vl.Expr.c a.kids)],.agg [.lit (.int .i64 b.op),.lit (.int .i64 b.n),.lit (.int .i64 b.ctor),.arr (List.map Vl.Expr.c b.kids)]] (.lit (.bool r)))∧
  (∀(s1:List Vl.Expr) (s2:List Vl.Expr) (r:Bool),F.f112 s1 s2=some r→PureCall Tryz.prog B 17 [.arr (List.map Vl.Expr.c s1),.arr (List.map Vl.Expr.c s2),.fn (.func 7) [] []] (.lit (.bool r)))∧
  (∀(s1:List Vl.Expr) (s2:List Vl.Expr) (i:Nat) (o:Lo Bool Unit),F.f113 s1 s2 i=some o→∀(c:Code),navO [1,1,0,1,0,0] (bodyOf Tryz.f17)=some c→∀(Q:Exit→ASt→Prop),o.post (fun r=>∀st,Post Tryz.prog Tryz.f17 (fun r' _=>r'.le (.lit (.bool r))) .ret st→Q .ret st) (fun s=>Q (.exit 0) ⟨[],[]⟩)→ALoopU Tryz.prog B 0 32 (hold c .mk) ⟨[(1,.arr (List.map Vl.Expr.c s2)),(2,.fn (.func 7) [] []),(15,.arr (List.map Vl.Expr.c s1)),(16,.lit (.int .i64 (s1.length:Int))),(17,.lit (.int .i64 (i:Int)))],[]⟩ (hold Q .mk)):=by
 refine F.f111.mutual_partial_correctness 
  _ _ _
  ?_ ?_ ?_
 ·intro _f_f112 ih_f112 a b r hF
  refine PureCall.enterLe Tryz.func7 (by kernel_rfl) rfl Tryz.ntmps7 (by simp) (by simp) ?_
  repeat first|refine cg ?_|simp -dsimp
  revert hF;refine abr.sp ?_ ?_<;>intro h1 q2 hF
  ·repeat first|refine cg ?_|simp -dsimp[h1]
   revert hF;refine abr.sp ?_ ?_<;>intro h3 q4 hF
   ·repeat first|refine cg ?_|simp -dsimp[h1,h3]
    revert hF;refine abr.sp ?_ ?_<;>intro h5 q6 hF
    ·repeat first|refine cg ?_|simp -dsimp[h1,h3,h5]
     have hF:=ob hF;obtain⟨v,e7,hF⟩:=hF
     refine((ih_f112 a.kids b.kids v e7)).goW (by first|simp[h1,h3,h5];done|simp_all) (by simp) ?_
     cases hF
     repeat first|refine cg ?_|simp -dsimp[h1,h3,h5]
     all_goals(try first|omega|rfl)
    ·cases hF
     repeat first|refine cg ?_|simp -dsimp[h1,h3,h5,q6]
     all_goals(try first|omega|rfl)
   ·cases hF
    repeat first|refine cg ?_|simp -dsimp[h1,h3,q4]
    all_goals(try first|omega|rfl)
  ·cases hF
   repeat first|refine cg ?_|simp -dsimp[h1,q2]
   all_goals(try first|omega|rfl)
 ·intro _f_f113 ih_f113 s1 s2 r hF
  refine PureCall.enterLe Tryz.func17 (by kernel_rfl) rfl Tryz.ntmps17 (by simp) (by simp) ?_
  repeat first|refine cg ?_|simp -dsimp
  revert hF;refine abr.ns ?_ ?_<;>intro h1 q2 hF
  ·have z3:¬((s1.length:Int)=(s2.length:Int)):=auz
   cases hF
   repeat first|refine cg ?_|simp -dsimp[h1,q2,z3]
   all_goals(try first|omega|rfl)
  ·have z3:((s1.length:Int)=(s2.length:Int)):=auz
   repeat first|refine cg ?_|simp -dsimp[h1,q2,z3]
   have hF:=ob hF;obtain⟨o',ho14,hF⟩:=hF
   refine ALoop.goU _ ?_ ((ih_f113 s1 s2 0 o' ho14) _ rfl _ ?_)
   ·exact(Gh.to3 (by simp) (by first|simp -dsimp[h1,q2,z3];done|simp_all))
   rcases o' with r0|sx
   ·dsimp only at hF
    cases hF
    intro st h
    simpa using h
   ·dsimp only at hF
    cases hF
    repeat first|refine cg ?_|simp -dsimp
    all_goals(try first|omega|rfl)
 ·intro _f_f111 _f_f113 ih_f111 ih_f113 s1 s2 i o hF
  intro c hc Q hq
  obtain rfl:c=_:=navEq hc rfl
  refine ALoopU.know fun hk hs=> ?_
  have b1:=hk 1
  simp -dsimp at b1
  have b15:=hk 15
  simp -dsimp at b15
  clear hk hs
  refine ALoopU.enter ?_
  repeat first|refine cg ?_|simp -dsimp
  revert hF;refine abr.sp ?_ ?_<;>intro h4 q5 hF
  ·have z6:((i:Int)<(s1.length:Int)):=auz
   have hF:=ob hF;obtain⟨x,e7,hF⟩:=hF
   have le7:=lt_of_get e7
   have hF:=ob hF;obtain⟨x8,e9,hF⟩:=hF
   have le9:=lt_of_get e9
   repeat first|refine cg ?_|simp -dsimp[h4,z6,↓e7,↓e9]
   have hF:=ob hF;obtain⟨v,e10,hF⟩:=hF
   refine((ih_f111 x x8 v e10)).goW (by first|simp[h4,z6,↓e7,↓e9];done|simp_all) (by simp) ?_
   repeat first|refine cg ?_|simp -dsimp[h4,z6,↓e7,↓e9]
   revert hF;refine abr.ns (fun h11 q12 hF=> ?_) (fun h11 q12 hF=> ?_)
   ·cases hF
    repeat first|refine cg ?_|simp -dsimp[h4,z6,↓e7,↓e9,h11,q12]
    refine Leave.go _ (Gh.refl _) (hq _ ?_)
    repeat first|refine cg ?_|simp -dsimp[h4,z6,↓e7,↓e9,h11,q12]
   ·have w13:IntKind.i64.wrap ((i:Int)+1)=(i:Int)+1:=wrap_in (by omega) (by omega)
    repeat first|refine cg ?_|simp -dsimp[h4,z6,↓e7,↓e9,h11,q12,w13]
    refine Again.go _ ?_ ((ih_f113 s1 s2 (i+1) o hF) _ rfl _ hq)
    exact(Gh.to3 (by simp) (by first|simp -dsimp[h4,z6,↓e7,↓e9,h11,q12,w13];done|simp_all))
  ·have z6:¬((i:Int)<(s1.length:Int)):=auz
   cases hF
   repeat first|refine cg ?_|simp -dsimp[h4,q5,z6]
   refine Leave.go _ (Gh.to3 (by simp) (by first|simp -dsimp[h4,q5,z6];done|simp_all)) hq
theorem C.f114 (f:FunType)(a1:T_impl_scope)(r:Bool)(hF:F.f114 f a1=some r):PureCall Tryz.prog B 36 [.agg [.lit (.int .i64 f.arg.data),.lit (.int .i64 f.arg.index),.lit (.int .i64 f.res.data),.lit (.int .i64 f.res.index)],.rptr [.arr (List.map Vl.Data.c a1.f0),.arr (List.map FunType.c a1.f1),.arr (List.map VarType.c a1.f2)] 0] (.lit (.bool r)):=by
 unfold F.f114 at hF
 refine PureCall.enterLe Tryz.func36 (by kernel_rfl) rfl Tryz.ntmps36 (by simp) (by simp) ?_
 repeat first|refine cg ?_|simp -dsimp
 have hF:=ob hF;obtain⟨v,e1,hF⟩:=hF
 refine((C.f80 B hB1 hB2 a1.f0 f.arg v e1)).goW (by simp) (by simp) ?_
 repeat first|refine cg ?_|simp -dsimp
 revert hF;refine abr.sp (fun h2 q3 hF=> ?_) (fun h2 q3 hF=> ?_)
 ·repeat first|refine cg ?_|simp -dsimp[h2]
  have hF:=ob hF;obtain⟨v4,e5,hF⟩:=hF
  refine((C.f80 B hB1 hB2 a1.f0 f.res v4 e5)).goW (by first|simp[h2];done|simp_all) (by simp) ?_
  cases hF
  repeat first|refine cg ?_|simp -dsimp[h2]
  all_goals(try first|omega|rfl)
 ·cases hF
  repeat first|refine cg ?_|simp -dsimp[h2,q3]
  all_goals(try first|omega|rfl)
theorem CC.f115 (s:List FunType)(k0:T_impl_scope):(∀(i:Nat) (o:Lo Int Unit),F.f115 s k0 i=some o→∀(c:Code),navO [1,0,1,0,0] (bodyOf Tryz.f58)=some c→∀(Q:Exit→ASt→Prop),o.post (fun r=>∀st,Post Tryz.prog Tryz.f58 (fun r' _=>r'.le (.lit (.int .i64 r))) .ret st→Q .ret st) (fun s=>Q (.exit 0) ⟨[],[]⟩)→ALoopU Tryz.prog B 0 19 (hold c .mk) ⟨[(0,.arr (List.map FunType.c s)),(1,.fn (.func 36) [] [.rptr [.arr (List.map Vl.Data.c k0.f0),.arr (List.map FunType.c k0.f1),.arr (List.map VarType.c k0.f2)] 0]),(7,.lit (.int .i64 (s.length:Int))),(8,.lit (.int .i64 (i:Int)))],[]⟩ (hold Q .mk)):=by
 refine F.f115.partial_correctness s k0
  _
  ?_
 ·intro _f_f115 ih_f115 i o hF
  intro c hc Q hq
  obtain rfl:c=_:=navEq hc rfl
  refine ALoopU.know fun hk hs=> ?_
  have b0:=hk 0
  simp -dsimp at b0
  clear hk hs
  refine ALoopU.enter ?_
  repeat first|refine cg ?_|simp -dsimp
  revert hF;refine abr.sp ?_ ?_<;>intro h1 q2 hF
  ·have z3:((i:Int)<(s.length:Int)):=auz
   have hF:=ob hF;obtain⟨x,e4,hF⟩:=hF
   have le4:=lt_of_get e4
   repeat first|refine cg ?_|simp -dsimp[h1,z3,↓e4]
   have hF:=ob hF;obtain⟨v,e5,hF⟩:=hF
   refine((C.f114 B hB1 hB2 x k0 v e5)).goW (by first|simp[h1,z3,↓e4];done|simp_all) (by simp) ?_
   repeat first|refine cg ?_|simp -dsimp[h1,z3,↓e4]
   revert hF;refine abr.sp (fun h6 q7 hF=> ?_) (fun h6 q7 hF=> ?_)
   ·cases hF
    repeat first|refine cg ?_|simp -dsimp[h1,z3,↓e4,h6]
    refine Leave.go _ (Gh.refl _) (hq _ ?_)
    repeat first|refine cg ?_|simp -dsimp[h1,z3,↓e4,h6]
   ·have w8:IntKind.i64.wrap ((i:Int)+1)=(i:Int)+1:=wrap_in (by omega) (by omega)
    repeat first|refine cg ?_|simp -dsimp[h1,z3,↓e4,h6,q7,w8]
    refine Again.go _ ?_ ((ih_f115 (i+1) o hF) _ rfl _ hq)
    exact(Gh.to3 (by simp) (by first|simp -dsimp[h1,z3,↓e4,h6,q7,w8];done|simp_all))
  ·have z3:¬((i:Int)<(s.length:Int)):=auz
   cases hF
   repeat first|refine cg ?_|simp -dsimp[h1,q2,z3]
   refine Leave.go _ (Gh.to3 (by simp) (by first|simp -dsimp[h1,q2,z3];done|simp_all)) hq
theorem C.f116 (s:List FunType)(k0:T_impl_scope)(r:Int)(hF:F.f116 s k0=some r):PureCall Tryz.prog B 58 [.arr (List.map FunType.c s),.fn (.func 36) [] [.rptr [.arr (List.map Vl.Data.c k0.f0),.arr (List.map FunType.c k0.f1),.arr (List.map VarType.c k0.f2)] 0]] (.lit (.int .i64 r)):=by
 unfold F.f116 at hF
 refine PureCall.enterLe Tryz.func58 (by kernel_rfl) rfl Tryz.ntmps58 (by simp) (by simp) ?_
 repeat first|refine cg ?_|simp -dsimp
 have hF:=ob hF;obtain⟨o',ho9,hF⟩:=hF
 refine ALoop.goU _ ?_ (((CC.f115 B hB1 hB2 s k0) 0 o' ho9) _ rfl _ ?_)
 ·exact(Gh.to3 (by simp) (by simp -dsimp))
 rcases o' with r0|sx
 ·dsimp only at hF
  cases hF
  intro st h
  simpa using h
 ·dsimp only at hF
  cases hF
  repeat first|refine cg ?_|simp -dsimp
  all_goals(try first|omega|rfl)
theorem C.f117 (s:List FunType)(k0:T_impl_scope)(r:Bool)(hF:F.f117 s k0=some r):PureCall Tryz.prog B 35 [.arr (List.map FunType.c s),.fn (.func 36) [] [.rptr [.arr (List.map Vl.Data.c k0.f0),.arr (List.map FunType.c k0.f1),.arr (List.map VarType.c k0.f2)] 0]] (.lit (.bool r)):=by
 unfold F.f117 at hF
 refine PureCall.enterLe Tryz.func35 (by kernel_rfl) rfl Tryz.ntmps35 (by simp) (by simp) ?_
 repeat first|refine cg ?_|simp -dsimp
 have hF:=ob hF;obtain⟨v,e1,hF⟩:=hF
 refine((C.f116 B hB1 hB2 s k0 v e1)).goW (by simp) (by simp) ?_
 cases hF
 repeat first|refine cg ?_|simp -dsimp
 all_goals(try first|omega|rfl)
theorem C.f118 (v:Int)(r:Bool)(hF:F.f118 v=some r):PureCall Tryz.prog B 37 [.lit (.int .i64 v)] (.lit (.bool r)):=by
 unfold F.f118 at hF
 refine PureCall.enterLe Tryz.func37 (by kernel_rfl) rfl Tryz.ntmps37 (by simp) (by simp) ?_
 repeat first|refine cg ?_|simp -dsimp
 have hF:=ob hF;obtain⟨v1,e2,hF⟩:=hF
 refine((C.f68 B hB1 hB2 v 0 5 v1 e2)).goW (by simp) (by simp) ?_
 cases hF
 repeat first|refine cg ?_|simp -dsimp
 all_goals(try first|omega|rfl)
theorem CC.f119 (s:T_impl_scope):(∀(set':Nat→Bool) (i:Nat) (o:Lo Bool Unit),F.f119 s set' i=some o→∀(c:Code),navO [1,1,1,0,1,0,0] (bodyOf Tryz.f19)=some c→∀(Q:Exit→ASt→Prop),o.post (fun r=>∀st,Post Tryz.prog Tryz.f19 (fun r' _=>r'.le (.lit (.bool r))) .ret st→Q .ret st) (fun s=>Q (.exit 0) ⟨[],[]⟩)→ALoopU Tryz.prog B 0 45 (hold c .mk) ⟨[(1,.ptr 0 0),(3,.ptr 1 0),(17,.arr (List.map VarType.c s.f2)),(18,.lit (.int .i64 (s.f2.length:Int))),(19,.lit (.int .i64 (i:Int)))],[.cells [.arr (List.map Vl.Data.c s.f0),.arr (List.map FunType.c s.f1),.arr (List.map VarType.c s.f2)],.cells (fcB 6 set')]⟩ (hold Q .mk)):=by
 refine F.f119.partial_correctness s
  _
  ?_
 ·intro _f_f119 ih_f119 set' i o hF
  intro c hc Q hq
  obtain rfl:c=_:=navEq hc rfl
  refine ALoopU.know fun hk hs=> ?_
  have b17:=hk 17
  simp -dsimp at b17
  have d0:=hs 0 _ rfl
  simp -dsimp[Blk.bnd]at d0
  clear hk hs
  refine ALoopU.enter ?_
  repeat first|refine cg ?_|simp -dsimp
  revert hF;refine abr.sp ?_ ?_<;>intro h7 q8 hF
  ·have z9:((i:Int)<(s.f2.length:Int)):=auz
   have hF:=ob hF;obtain⟨x,e10,hF⟩:=hF
   have le10:=lt_of_get e10
   repeat first|refine cg ?_|simp -dsimp[h7,z9,↓e10]
   have hF:=ob hF;obtain⟨v11,e12,hF⟩:=hF
   refine((C.f118 B hB1 hB2 x.var v11 e12)).goW (by first|simp[h7,z9,↓e10];done|simp_all) (by simp) ?_
   repeat first|refine cg ?_|simp -dsimp[h7,z9,↓e10]
   revert hF;refine abr.sp (fun h13 q14 hF=> ?_) (fun h13 q14 hF=> ?_)
   ·have hF:=oc hF;obtain⟨c15,hF⟩:=hF
    repeat first|refine cg ?_|simp -dsimp[h7,z9,↓e10,h13,c15]
    revert hF;refine abr.ns (fun h16 q17 hF=> ?_) (fun h16 q17 hF=> ?_)
    ·repeat first|refine cg ?_|simp -dsimp[h7,z9,↓e10,h13,c15,h16,q17]
     have hF:=ob hF;obtain⟨v18,e19,hF⟩:=hF
     refine((C.f80 B hB1 hB2 s.f0 x.type v18 e19)).goW (by first|simp[h7,z9,↓e10,h13,c15,h16,q17];done|simp_all) (by simp) ?_
     repeat first|refine cg ?_|simp -dsimp[h7,z9,↓e10,h13,c15,h16,q17]
     revert hF;refine abr.ns (fun h20 q21 hF=> ?_) (fun h20 q21 hF=> ?_)
     ·cases hF
      repeat first|refine cg ?_|simp -dsimp[h7,z9,↓e10,h13,c15,h16,q17,h20,q21]
      refine Leave.go _ (Gh.refl _) (hq _ ?_)
      repeat first|refine cg ?_|simp -dsimp[h7,z9,↓e10,h13,c15,h16,q17,h20,q21]
     ·have w22:IntKind.i64.wrap ((i:Int)+1)=(i:Int)+1:=wrap_in (by omega) (by omega)
      repeat first|refine cg ?_|simp -dsimp[h7,z9,↓e10,h13,c15,h16,q17,h20,q21,w22]
      refine Again.go _ ?_ ((ih_f119 (updF set' x.var.toNat true) (i+1) o hF) _ rfl _ hq)
      exact(Gh.to3 (by simp) (by first|simp -dsimp[h7,z9,↓e10,h13,c15,h16,q17,h20,q21,w22];done|simp_all))
    ·cases hF
     repeat first|refine cg ?_|simp -dsimp[h7,z9,↓e10,h13,c15,h16,q17]
     refine Leave.go _ (Gh.refl _) (hq _ ?_)
     repeat first|refine cg ?_|simp -dsimp[h7,z9,↓e10,h13,c15,h16,q17]
   ·cases hF
    repeat first|refine cg ?_|simp -dsimp[h7,z9,↓e10,h13,q14]
    refine Leave.go _ (Gh.refl _) (hq _ ?_)
    repeat first|refine cg ?_|simp -dsimp[h7,z9,↓e10,h13,q14]
  ·have z9:¬((i:Int)<(s.f2.length:Int)):=auz
   cases hF
   repeat first|refine cg ?_|simp -dsimp[h7,q8,z9]
   refine Leave.go _ (Gh.to3 (by simp) (by first|simp -dsimp[h7,q8,z9];done|simp_all)) hq
theorem C.f120 (s:T_impl_scope)(r:Bool)(hF:F.f120 s=some r):PureCall Tryz.prog B 19 [.agg [.arr (List.map Vl.Data.c s.f0),.arr (List.map FunType.c s.f1),.arr (List.map VarType.c s.f2)]] (.lit (.bool r)):=by
 unfold F.f120 at hF
 refine PureCall.enterLe Tryz.func19 (by kernel_rfl) rfl Tryz.ntmps19 (by simp) (by simp) ?_
 repeat first|refine cg ?_|simp -dsimp
 revert hF;refine abr.ns ?_ ?_<;>intro h1 q2 hF
 ·have z3:¬(4<(s.f1.length:Int)):=auz
  repeat first|refine cg ?_|simp -dsimp[h1,q2,z3]
  have hF:=ob hF;obtain⟨v,e4,hF⟩:=hF
  refine((C.f117 B hB1 hB2 s.f1 s v e4)).lend (by first|simp -dsimp[h1,q2,z3];done|simp_all) (by simp -dsimp) ?_
  repeat first|refine cg ?_|simp -dsimp[h1,q2,z3]
  revert hF;refine abr.sp (fun h5 q6 hF=> ?_) (fun h5 q6 hF=> ?_)
  ·cases hF
   repeat first|refine cg ?_|simp -dsimp[h1,q2,z3,h5]
   all_goals(try first|omega|rfl)
  ·repeat first|refine cg ?_|simp -dsimp[h1,q2,z3,h5,q6]
   have hF:=ob hF;obtain⟨o',ho23,hF⟩:=hF
   refine ALoop.goU _ ?_ (((CC.f119 B hB1 hB2 s) (fun _=>false) 0 o' ho23) _ rfl _ ?_)
   ·exact(Gh.to3 (by simp) (by first|simp -dsimp[h1,q2,z3,h5,q6];done|simp_all))
   rcases o' with r0|sx
   ·dsimp only at hF
    cases hF
    intro st h
    simpa using h
   ·dsimp only at hF
    cases hF
    repeat first|refine cg ?_|simp -dsimp
    all_goals(try first|omega|rfl)
 ·have z3:(4<(s.f1.length:Int)):=auz
  cases hF
  repeat first|refine cg ?_|simp -dsimp[h1,q2,z3]
  all_goals(try first|omega|rfl)
theorem C.f121 (x:VarType)(a1:Int)(r:Bool)(hF:F.f121 x a1=some r):PureCall Tryz.prog B 81 [.agg [.lit (.int .i64 x.var),.lit (.int .i64 x.type.data),.lit (.int .i64 x.type.index)],.rptr [.lit (.int .i64 a1)] 0] (.lit (.bool r)):=by
 unfold F.f121 at hF
 refine PureCall.enterLe Tryz.func81 (by kernel_rfl) rfl Tryz.ntmps81 (by simp) (by simp) ?_
 cases hF
 repeat first|refine cg ?_|simp -dsimp
 all_goals(try first|omega|rfl)
theorem CC.f122 (s:List VarType)(k0:Int):(∀(i:Nat) (o:Lo Int Unit),F.f122 s k0 i=some o→∀(c:Code),navO [1,0,1,0,0] (bodyOf Tryz.f80)=some c→∀(Q:Exit→ASt→Prop),o.post (fun r=>∀st,Post Tryz.prog Tryz.f80 (fun r' _=>r'.le (.lit (.int .i64 r))) .ret st→Q .ret st) (fun s=>Q (.exit 0) ⟨[],[]⟩)→ALoopU Tryz.prog B 0 19 (hold c .mk) ⟨[(0,.arr (List.map VarType.c s)),(1,.fn (.func 81) [] [.rptr [.lit (.int .i64 k0)] 0]),(7,.lit (.int .i64 (s.length:Int))),(8,.lit (.int .i64 (i:Int)))],[]⟩ (hold Q .mk)):=by
 refine F.f122.partial_correctness s k0
  _
  ?_
 ·intro _f_f122 ih_f122 i o hF
  intro c hc Q hq
  obtain rfl:c=_:=navEq hc rfl
  refine ALoopU.know fun hk hs=> ?_
  have b0:=hk 0
  simp -dsimp at b0
  clear hk hs
  refine ALoopU.enter ?_
  repeat first|refine cg ?_|simp -dsimp
  revert hF;refine abr.sp ?_ ?_<;>intro h1 q2 hF
  ·have z3:((i:Int)<(s.length:Int)):=auz
   have hF:=ob hF;obtain⟨x,e4,hF⟩:=hF
   have le4:=lt_of_get e4
   repeat first|refine cg ?_|simp -dsimp[h1,z3,↓e4]
   have hF:=ob hF;obtain⟨v,e5,hF⟩:=hF
   refine((C.f121 B hB1 hB2 x k0 v e5)).goW (by first|simp[h1,z3,↓e4];done|simp_all) (by simp) ?_
   repeat first|refine cg ?_|simp -dsimp[h1,z3,↓e4]
   revert hF;refine abr.sp (fun h6 q7 hF=> ?_) (fun h6 q7 hF=> ?_)
   ·cases hF
    repeat first|refine cg ?_|simp -dsimp[h1,z3,↓e4,h6]
    refine Leave.go _ (Gh.refl _) (hq _ ?_)
    repeat first|refine cg ?_|simp -dsimp[h1,z3,↓e4,h6]
   ·have w8:IntKind.i64.wrap ((i:Int)+1)=(i:Int)+1:=wrap_in (by omega) (by omega)
    repeat first|refine cg ?_|simp -dsimp[h1,z3,↓e4,h6,q7,w8]
    refine Again.go _ ?_ ((ih_f122 (i+1) o hF) _ rfl _ hq)
    exact(Gh.to3 (by simp) (by first|simp -dsimp[h1,z3,↓e4,h6,q7,w8];done|simp_all))
  ·have z3:¬((i:Int)<(s.length:Int)):=auz
   cases hF
   repeat first|refine cg ?_|simp -dsimp[h1,q2,z3]
   refine Leave.go _ (Gh.to3 (by simp) (by first|simp -dsimp[h1,q2,z3];done|simp_all)) hq
theorem C.f123 (s:List VarType)(k0:Int)(r:Int)(hF:F.f123 s k0=some r):PureCall Tryz.prog B 80 [.arr (List.map VarType.c s),.fn (.func 81) [] [.rptr [.lit (.int .i64 k0)] 0]] (.lit (.int .i64 r)):=by
 unfold F.f123 at hF
 refine PureCall.enterLe Tryz.func80 (by kernel_rfl) rfl Tryz.ntmps80 (by simp) (by simp) ?_
 repeat first|refine cg ?_|simp -dsimp
 have hF:=ob hF;obtain⟨o',ho9,hF⟩:=hF
 refine ALoop.goU _ ?_ (((CC.f122 B hB1 hB2 s k0) 0 o' ho9) _ rfl _ ?_)
 ·exact(Gh.to3 (by simp) (by simp -dsimp))
 rcases o' with r0|sx
 ·dsimp only at hF
  cases hF
  intro st h
  simpa using h
 ·dsimp only at hF
  cases hF
  repeat first|refine cg ?_|simp -dsimp
  all_goals(try first|omega|rfl)
theorem C.f124 (s:T_impl_scope)(v:Int)(r:Ty×Bool)(hF:F.f124 s v=some r):PureCall Tryz.prog B 59 [.agg [.arr (List.map Vl.Data.c s.f0),.arr (List.map FunType.c s.f1),.arr (List.map VarType.c s.f2)],.lit (.int .i64 v)] (.tup [.agg [.lit (.int .i64 r.1.data),.lit (.int .i64 r.1.index)],.lit (.bool r.2)]):=by
 unfold F.f124 at hF
 refine PureCall.enterLe Tryz.func59 (by kernel_rfl) rfl Tryz.ntmps59 (by simp) (by simp) ?_
 repeat first|refine cg ?_|simp -dsimp
 have hF:=ob hF;obtain⟨v1,e2,hF⟩:=hF
 refine((C.f123 B hB1 hB2 s.f2 v v1 e2)).lend (by simp -dsimp) (by simp -dsimp) ?_
 repeat first|refine cg ?_|simp -dsimp
 revert hF;refine abr.sp ?_ ?_<;>intro h3 q4 hF
 ·cases hF
  repeat first|refine cg ?_|simp -dsimp[h3]
  all_goals(try first|omega|rfl)
 ·have hF:=ob hF;obtain⟨x,e5a,hF⟩:=hF
  have e5a:=at_some e5a;obtain⟨ne5,e5⟩:=e5a
  have le5:=lt_of_get e5
  cases hF
  repeat first|refine cg ?_|simp -dsimp[h3,q4,↓e5]
  all_goals(try first|omega|rfl)
theorem C.f125 (a:Ty)(b:Ty)(r:Bool)(hF:F.f125 a b=some r):PureCall Tryz.prog B 60 [.agg [.lit (.int .i64 a.data),.lit (.int .i64 a.index)],.agg [.lit (.int .i64 b.data),.lit (.int .i64 b.index)]] (.lit (.bool r)):=by
 unfold F.f125 at hF
 refine PureCall.enterLe Tryz.func60 (by kernel_rfl) rfl Tryz.ntmps60 (by simp) (by simp) ?_
 repeat first|refine cg ?_|simp -dsimp
 revert hF;refine abr.sp ?_ ?_<;>intro h1 q2 hF
 ·repeat first|refine cg ?_|simp -dsimp[h1]
  revert hF;refine abr.ns ?_ ?_<;>intro h3 q4 hF
  ·cases hF
   repeat first|refine cg ?_|simp -dsimp[h1,h3,q4]
   all_goals(try first|omega|rfl)
  ·cases hF
   repeat first|refine cg ?_|simp -dsimp[h1,h3,q4]
   all_goals(try first|omega|rfl)
 ·cases hF
  repeat first|refine cg ?_|simp -dsimp[h1,q2]
  all_goals(try first|omega|rfl)
theorem C.f126 (s:T_impl_scope)(t:Ty)(e:Vl.Expr)(r:(List Ty)×Bool)(hF:F.f126 s t e=some r):PureCall Tryz.prog B 40 [.agg [.arr (List.map Vl.Data.c s.f0),.arr (List.map FunType.c s.f1),.arr (List.map VarType.c s.f2)],.agg [.lit (.int .i64 t.data),.lit (.int .i64 t.index)],.agg [.lit (.int .i64 e.op),.lit (.int .i64 e.n),.lit (.int .i64 e.ctor),.arr (List.map Vl.Expr.c e.kids)]] (.tup [.arr (List.map Ty.c r.1),.lit (.bool r.2)]):=by
 unfold F.f126 at hF
 refine PureCall.enterLe Tryz.func40 (by kernel_rfl) rfl Tryz.ntmps40 (by simp) (by simp) ?_
 repeat first|refine cg ?_|simp -dsimp
 revert hF;refine abr.sp ?_ ?_<;>intro h1 q2 hF
 ·repeat first|refine cg ?_|simp -dsimp[h1]
  refine ADraw.simple follows (by kernel_rfl) (by kernel_rfl) ?_
  repeat first|refine cg ?_|simp -dsimp[h1]
  revert hF;refine abr.sp ?_ ?_<;>intro h3 q4 hF
  ·repeat first|refine cg ?_|simp -dsimp[h1,h3]
   have hF:=ob hF;obtain⟨v,e5,hF⟩:=hF
   refine((C.f68 B hB1 hB2 e.n 0 9 v e5)).pgoW (by first|simp[h1,h3];done|simp_all) (by simp) ?_
   repeat first|refine cg ?_|simp -dsimp[h1,h3]
   revert hF;refine abr.sp (fun h6 q7 hF=> ?_) (fun h6 q7 hF=> ?_)
   ·cases hF
    repeat first|refine cg ?_|simp -dsimp[h1,h3,h6]
    all_goals(try first|omega|rfl)
   ·cases hF
    repeat first|refine cg ?_|simp -dsimp[h1,h3,h6,q7]
    all_goals(try first|omega|rfl)
  ·cases hF
   repeat first|refine cg ?_|simp -dsimp[h1,h3,q4]
   all_goals(try first|omega|rfl)
 ·repeat first|refine cg ?_|simp -dsimp[h1,q2]
  revert hF;refine abr.sp ?_ ?_<;>intro h8 q9 hF
  ·repeat first|refine cg ?_|simp -dsimp[h1,q2,h8]
   have hF:=ob hF;obtain⟨v10,e11,hF⟩:=hF
   refine((C.f124 B hB1 hB2 s e.n v10 e11)).goW (by first|simp[h1,q2,h8];done|simp_all) (by simp) ?_
   repeat first|refine cg ?_|simp -dsimp[h1,q2,h8]
   refine ADraw.simple follows (by kernel_rfl) (by kernel_rfl) ?_
   repeat first|refine cg ?_|simp -dsimp[h1,q2,h8]
   revert hF;refine abr.sp (fun h12 q13 hF=> ?_) (fun h12 q13 hF=> ?_)
   ·repeat first|refine cg ?_|simp -dsimp[h1,q2,h8,h12]
    have hF:=ob hF;obtain⟨v14,e15,hF⟩:=hF
    refine((C.f125 B hB1 hB2 v10.1 t v14 e15)).pgoW (by first|simp[h1,q2,h8,h12];done|simp_all) (by simp) ?_
    repeat first|refine cg ?_|simp -dsimp[h1,q2,h8,h12]
    revert hF;refine abr.sp (fun h16 q17 hF=> ?_) (fun h16 q17 hF=> ?_)
    ·cases hF
     repeat first|refine cg ?_|simp -dsimp[h1,q2,h8,h12,h16]
     all_goals(try first|omega|rfl)
    ·cases hF
     repeat first|refine cg ?_|simp -dsimp[h1,q2,h8,h12,h16,q17]
     all_goals(try first|omega|rfl)
   ·cases hF
    repeat first|refine cg ?_|simp -dsimp[h1,q2,h8,h12,q13]
    all_goals(try first|omega|rfl)
  ·repeat first|refine cg ?_|simp -dsimp[h1,q2,h8,q9]
   revert hF;refine abr.sp ?_ ?_<;>intro h18 q19 hF
   ·repeat first|refine cg ?_|simp -dsimp[h1,q2,h8,q9,h18]
    refine ADraw.simple follows (by kernel_rfl) (by kernel_rfl) ?_
    repeat first|refine cg ?_|simp -dsimp[h1,q2,h8,q9,h18]
    revert hF;refine abr.sp ?_ ?_<;>intro h20 q21 hF
    ·repeat first|refine cg ?_|simp -dsimp[h1,q2,h8,q9,h18,h20]
     have hF:=ob hF;obtain⟨v22,e23,hF⟩:=hF
     refine((C.f83 B hB1 hB2 s.f0 t v22 e23)).pgoW (by first|simp[h1,q2,h8,q9,h18,h20];done|simp_all) (by simp) ?_
     repeat first|refine cg ?_|simp -dsimp[h1,q2,h8,q9,h18,h20]
     have hF:=ob hF;obtain⟨v24,e25,hF⟩:=hF
     refine((C.f86 B hB1 hB2 v22 e.ctor v24 e25)).pgoW (by first|simp[h1,q2,h8,q9,h18,h20];done|simp_all) (by simp) ?_
     repeat first|refine cg ?_|simp -dsimp[h1,q2,h8,q9,h18,h20]
     revert hF;refine abr.ns (fun h26 q27 hF=> ?_) (fun h26 q27 hF=> ?_)
     ·cases hF
      repeat first|refine cg ?_|simp -dsimp[h1,q2,h8,q9,h18,h20,h26,q27]
      all_goals(try first|omega|rfl)
     ·repeat first|refine cg ?_|simp -dsimp[h1,q2,h8,q9,h18,h20,h26,q27]
      have hF:=ob hF;obtain⟨v28,e29,hF⟩:=hF
      refine((C.f89 B hB1 hB2 s.f0 t e.ctor v28 e29)).goW (by first|simp[h1,q2,h8,q9,h18,h20,h26,q27];done|simp_all) (by simp) ?_
      cases hF
      repeat first|refine cg ?_|simp -dsimp[h1,q2,h8,q9,h18,h20,h26,q27]
      all_goals(try first|omega|rfl)
    ·cases hF
     repeat first|refine cg ?_|simp -dsimp[h1,q2,h8,q9,h18,h20,q21]
     all_goals(try first|omega|rfl)
   ·repeat first|refine cg ?_|simp -dsimp[h1,q2,h8,q9,h18,q19]
    revert hF;refine abr.sp ?_ ?_<;>intro h30 q31 hF
    ·repeat first|refine cg ?_|simp -dsimp[h1,q2,h8,q9,h18,q19,h30]
     refine ADraw.eff [] [(0,0),(0,0),(0,1),(0,1),(0,1),(0,1),(0,1),(0,1),(0,1),(0,1),(0,1),(0,1),(0,1),(0,1),(0,1),(0,1),(1,1),(1,1)] [1,1,1,0,2,1,1,0,2,1,1,1,0,2,1,1,1,1] follows (by kernel_rfl) (by kernel_rfl) (by kernel_rfl) ?_
     repeat first|refine cg ?_|simp -dsimp[h1,q2,h8,q9,h18,q19,h30]
     revert hF;refine abr.sp ?_ ?_<;>intro h32 q33 hF
     ·repeat first|refine cg ?_|simp -dsimp[h1,q2,h8,q9,h18,q19,h30,h32]
      revert hF;refine abr.sp ?_ ?_<;>intro h34 q35 hF
      ·skip
       cases hF
       repeat first|refine cg ?_|simp -dsimp[h1,q2,h8,q9,h18,q19,h30,h32,h34]
       all_goals(try first|omega|rfl)
      ·skip
       cases hF
       repeat first|refine cg ?_|simp -dsimp[h1,q2,h8,q9,h18,q19,h30,h32,h34,q35]
       all_goals(try first|omega|rfl)
     ·skip
      cases hF
      repeat first|refine cg ?_|simp -dsimp[h1,q2,h8,q9,h18,q19,h30,h32,q33]
      all_goals(try first|omega|rfl)
    ·repeat first|refine cg ?_|simp -dsimp[h1,q2,h8,q9,h18,q19,h30,q31]
     revert hF;refine abr.sp ?_ ?_<;>intro h36 q37 hF
     ·repeat first|refine cg ?_|simp -dsimp[h1,q2,h8,q9,h18,q19,h30,q31,h36]
      have hF:=ob hF;obtain⟨v38,e39,hF⟩:=hF
      refine((C.f68 B hB1 hB2 e.n 0 (IntKind.i64.wrap ((s.f1.length:Int) -1)) v38 e39)).goW (by first|simp[h1,q2,h8,q9,h18,q19,h30,q31,h36];done|simp_all) (by simp) ?_
      repeat first|refine cg ?_|simp -dsimp[h1,q2,h8,q9,h18,q19,h30,q31,h36]
      revert hF;refine abr.sp (fun h40 q41 hF=> ?_) (fun h40 q41 hF=> ?_)
      ·repeat first|refine cg ?_|simp -dsimp[h1,q2,h8,q9,h18,q19,h30,q31,h36,h40]
       revert hF;refine abr.ns ?_ ?_<;>intro h42 q43 hF
       ·cases hF
        repeat first|refine cg ?_|simp -dsimp[h1,q2,h8,q9,h18,q19,h30,q31,h36,h40,h42,q43]
        all_goals(try first|omega|rfl)
       ·repeat first|refine cg ?_|simp -dsimp[h1,q2,h8,q9,h18,q19,h30,q31,h36,h40,h42,q43]
        refine ADraw.eff [] [(0,0),(0,0),(0,0),(0,0),(0,0),(0,0),(0,0),(0,1),(0,1),(0,1),(0,1),(0,1),(0,1),(0,1),(0,1),(0,1),(0,1),(1,1),(1,1)] [1,1,1,1,1,1,1,1,0,2,0,2,0,0,0,2,1,1,1] follows (by kernel_rfl) (by kernel_rfl) (by kernel_rfl) ?_
        have hF:=ob hF;obtain⟨x,e44a,hF⟩:=hF
        have e44a:=at_some e44a;obtain⟨ne44,e44⟩:=e44a
        have le44:=lt_of_get e44
        repeat first|refine cg ?_|simp -dsimp[h1,q2,h8,q9,h18,q19,h30,q31,h36,h40,h42,q43,↓e44]
        have hF:=ob hF;obtain⟨v45,e46,hF⟩:=hF
        refine((C.f125 B hB1 hB2 x.res t v45 e46)).pgoW (by first|simp[h1,q2,h8,q9,h18,q19,h30,q31,h36,h40,h42,q43,↓e44];done|simp_all) (by simp) ?_
        cases hF
        repeat first|refine cg ?_|simp -dsimp[h1,q2,h8,q9,h18,q19,h30,q31,h36,h40,h42,q43,↓e44]
        all_goals(try first|omega|rfl)
      ·cases hF
       repeat first|refine cg ?_|simp -dsimp[h1,q2,h8,q9,h18,q19,h30,q31,h36,h40,q41]
       all_goals(try first|omega|rfl)
     ·cases hF
      repeat first|refine cg ?_|simp -dsimp[h1,q2,h8,q9,h18,q19,h30,q31,h36,q37]
      all_goals(try first|omega|rfl)
theorem CC.f127 (s:T_impl_scope):(∀(t:Ty) (e:Vl.Expr) (deep:Int) (count:Int) (r:Bool×Int),F.f127 s t e deep count=some r→MutCall Tryz.prog B 38 [.lit (.int .i64 count)] [.agg [.arr (List.map Vl.Data.c s.f0),.arr (List.map FunType.c s.f1),.arr (List.map VarType.c s.f2)],.agg [.lit (.int .i64 t.data),.lit (.int .i64 t.index)],.agg [.lit (.int .i64 e.op),.lit (.int .i64 e.n),.lit (.int .i64 e.ctor),.arr (List.map Vl.Expr.c e.kids)],.lit (.int .i64 deep),.ptr 0 0] (.lit (.bool r.1)) [.lit (.int .i64 r.2)])∧
  (∀(e:Vl.Expr) (deep:Int) (v:(List Ty)×Bool) (z:Int) (i:Nat) (o:Lo (Bool×Int) Int),F.f128 s e deep v z i=some o→∀(c:Code),navO [1,1,1,1,1,0,1,0,0] (bodyOf Tryz.f38)=some c→∀(Q:Exit→ASt→Prop),o.post (fun r=>∀st,Post Tryz.prog Tryz.f38 (fun r' σ'=>r'.le (.lit (.bool r.1))∧mcell σ' [.lit (.int .i64 r.2)]) .ret st→Q .ret st) (fun s=>Q (.exit 0) ⟨[],[.cells [.lit (.int .i64 s)]]⟩)→ALoopU Tryz.prog B 1 65 (hold c .mk) ⟨[(3,.lit (.int .i64 deep)),(4,.ptr 0 0),(5,.ptr 1 0),(11,.arr (List.map Ty.c v.1)),(46,.arr (List.map Vl.Expr.c e.kids)),(47,.lit (.int .i64 (e.kids.length:Int))),(48,.lit (.int .i64 (i:Int)))],[.cells [.lit (.int .i64 z)],.cells [.arr (List.map Vl.Data.c s.f0),.arr (List.map FunType.c s.f1),.arr (List.map VarType.c s.f2)]]⟩ (hold Q .mk)):=by
 refine F.f127.mutual_partial_correctness s
  _ _
  ?_ ?_
 ·intro _f_f128 ih_f128 t e deep count r hF
  refine MutCall.enter Tryz.func38 (by kernel_rfl) rfl Tryz.ntmps38 (by simp) (by simp) (by simp) (by simp) ?_
  repeat first|refine cg ?_|simp -dsimp
  revert hF;refine abr.ns ?_ ?_<;>intro h1 q2 hF
  ·repeat first|refine cg ?_|simp -dsimp[h1,q2]
   revert hF;refine abr.sp ?_ ?_<;>intro h3 q4 hF
   ·cases hF
    repeat first|refine cg ?_|simp -dsimp[h1,q2,h3]
    all_goals(try first|omega|rfl)
   ·repeat first|refine cg ?_|simp -dsimp[h1,q2,h3,q4]
    have hF:=ob hF;obtain⟨v,e5,hF⟩:=hF
    refine((C.f126 B hB1 hB2 s t e v e5)).goW (by first|simp[h1,q2,h3,q4];done|simp_all) (by simp) ?_
    repeat first|refine cg ?_|simp -dsimp[h1,q2,h3,q4]
    revert hF;refine abr.sp (fun h6 q7 hF=> ?_) (fun h6 q7 hF=> ?_)
    ·repeat first|refine cg ?_|simp -dsimp[h1,q2,h3,q4,h6]
     revert hF;refine abr.ns ?_ ?_<;>intro h8 q9 hF
     ·have z10:¬((v.1.length:Int)=(e.kids.length:Int)):=auz
      cases hF
      repeat first|refine cg ?_|simp -dsimp[h1,q2,h3,q4,h6,h8,q9,z10]
      all_goals(try first|omega|rfl)
     ·have z10:((v.1.length:Int)=(e.kids.length:Int)):=auz
      repeat first|refine cg ?_|simp -dsimp[h1,q2,h3,q4,h6,h8,q9,z10]
      have hF:=ob hF;obtain⟨o',ho22,hF⟩:=hF
      refine ALoop.goU _ ?_ ((ih_f128 e deep v (IntKind.i64.wrap (count+1)) 0 o' ho22) _ rfl _ ?_)
      ·exact(Gh.to3 (by simp) (by first|simp -dsimp[h1,q2,h3,q4,h6,h8,q9,z10];done|simp_all))
      rcases o' with r0|sx
      ·dsimp only at hF
       cases hF
       intro st h
       simpa using h
      ·dsimp only at hF
       cases hF
       repeat first|refine cg ?_|simp -dsimp
       all_goals(try first|omega|rfl)
    ·cases hF
     repeat first|refine cg ?_|simp -dsimp[h1,q2,h3,q4,h6,q7]
     all_goals(try first|omega|rfl)
  ·cases hF
   repeat first|refine cg ?_|simp -dsimp[h1,q2]
   all_goals(try first|omega|rfl)
 ·intro _f_f127 _f_f128 ih_f127 ih_f128 e deep v z i o hF
  intro c hc Q hq
  obtain rfl:c=_:=navEq hc rfl
  refine ALoopU.know fun hk hs=> ?_
  have b11:=hk 11
  simp -dsimp at b11
  have b46:=hk 46
  simp -dsimp at b46
  have d1:=hs 1 _ rfl
  simp -dsimp[Blk.bnd]at d1
  clear hk hs
  refine ALoopU.enter ?_
  repeat first|refine cg ?_|simp -dsimp
  revert hF;refine abr.sp ?_ ?_<;>intro h11 q12 hF
  ·have z13:((i:Int)<(e.kids.length:Int)):=auz
   have hF:=ob hF;obtain⟨x,e14,hF⟩:=hF
   have le14:=lt_of_get e14
   repeat first|refine cg ?_|simp -dsimp[h11,z13,↓e14]
   refine ADraw.eff [38] [(0,0),(0,0),(0,0),(0,0),(0,0),(0,0),(0,0),(0,0),(0,0),(0,1),(1,1)] [1,1,1,1,1,1,1,1,1,1,1] follows (by kernel_rfl) (by kernel_rfl) (by kernel_rfl) ?_
   have hF:=ob hF;obtain⟨x15,e16,hF⟩:=hF
   have le16:=lt_of_get e16
   repeat first|refine cg ?_|simp -dsimp[h11,z13,↓e14,↓e16]
   have hF:=ob hF;obtain⟨v17,e18,hF⟩:=hF
   refine((ih_f127 x15 x (IntKind.i64.wrap (deep+1)) z v17 e18)).ego 0 rfl (by first|simp[h11,z13,↓e14,↓e16];done|simp_all) (by simp) (by first|simp[h11,z13,↓e14,↓e16];done|simp_all) ?_
   repeat first|refine cg ?_|simp -dsimp[h11,z13,↓e14,↓e16]
   revert hF;refine abr.ns (fun h19 q20 hF=> ?_) (fun h19 q20 hF=> ?_)
   ·cases hF
    repeat first|refine cg ?_|simp -dsimp[h11,z13,↓e14,↓e16,h19,q20]
    refine Leave.go _ (Gh.refl _) (hq _ ?_)
    repeat first|refine cg ?_|simp -dsimp[h11,z13,↓e14,↓e16,h19,q20]
   ·have w21:IntKind.i64.wrap ((i:Int)+1)=(i:Int)+1:=wrap_in (by omega) (by omega)
    repeat first|refine cg ?_|simp -dsimp[h11,z13,↓e14,↓e16,h19,q20,w21]
    refine Again.go _ ?_ ((ih_f128 e deep v v17.2 (i+1) o hF) _ rfl _ hq)
    exact(Gh.to3 (by simp) (by first|simp -dsimp[h11,z13,↓e14,↓e16,h19,q20,w21];done|simp_all))
  ·have z13:¬((i:Int)<(e.kids.length:Int)):=auz
   cases hF
   repeat first|refine cg ?_|simp -dsimp[h11,q12,z13]
   refine Leave.go _ (Gh.to3 (by simp) (by first|simp -dsimp[h11,q12,z13];done|simp_all)) hq
theorem C.f129 (s:T_impl_scope)(t:Ty)(e:Vl.Expr)(r:Bool)(hF:F.f129 s t e=some r):PureCall Tryz.prog B 20 [.agg [.arr (List.map Vl.Data.c s.f0),.arr (List.map FunType.c s.f1),.arr (List.map VarType.c s.f2)],.agg [.lit (.int .i64 t.data),.lit (.int .i64 t.index)],.agg [.lit (.int .i64 e.op),.lit (.int .i64 e.n),.lit (.int .i64 e.ctor),.arr (List.map Vl.Expr.c e.kids)]] (.lit (.bool r)):=by
 unfold F.f129 at hF
 refine PureCall.enterLe Tryz.func20 (by kernel_rfl) rfl Tryz.ntmps20 (by simp) (by simp) ?_
 repeat first|refine cg ?_|simp -dsimp
 have hF:=ob hF;obtain⟨v,e1,hF⟩:=hF
 refine(((CC.f127 B hB1 hB2 s).1 t e 1 0 v e1)).go 3 rfl (by simp) (by simp) (by simp) ?_
 cases hF
 repeat first|refine cg ?_|simp -dsimp
 all_goals(try first|omega|rfl)
theorem C.f130 (w:List Vl.Data)(funs:List FunType)(vars:List VarType)(t:Ty)(e:Vl.Expr)(r:Bool)(hF:F.f130 w funs vars t e=some r):PureCall Tryz.prog B 8 [.arr (List.map Vl.Data.c w),.arr (List.map FunType.c funs),.arr (List.map VarType.c vars),.agg [.lit (.int .i64 t.data),.lit (.int .i64 t.index)],.agg [.lit (.int .i64 e.op),.lit (.int .i64 e.n),.lit (.int .i64 e.ctor),.arr (List.map Vl.Expr.c e.kids)]] (.lit (.bool r)):=by
 unfold F.f130 at hF
 refine PureCall.enterLe Tryz.func8 (by kernel_rfl) rfl Tryz.ntmps8 (by simp) (by simp) ?_
 repeat first|refine cg ?_|simp -dsimp
 have hF:=ob hF;obtain⟨v,e1,hF⟩:=hF
 refine((C.f81 B hB1 hB2 w t v e1)).goW (by simp) (by simp) ?_
 repeat first|refine cg ?_|simp -dsimp
 revert hF;refine abr.sp (fun h2 q3 hF=> ?_) (fun h2 q3 hF=> ?_)
 ·repeat first|refine cg ?_|simp -dsimp[h2]
  have hF:=ob hF;obtain⟨v4,e5,hF⟩:=hF
  refine((C.f120 B hB1 hB2 (⟨w,funs,vars⟩:T_impl_scope) v4 e5)).goW (by first|simp[h2];done|simp_all) (by simp) ?_
  repeat first|refine cg ?_|simp -dsimp[h2]
  revert hF;refine abr.sp (fun h6 q7 hF=> ?_) (fun h6 q7 hF=> ?_)
  ·repeat first|refine cg ?_|simp -dsimp[h2,h6]
   have hF:=ob hF;obtain⟨v8,e9,hF⟩:=hF
   refine((C.f129 B hB1 hB2 (⟨w,funs,vars⟩:T_impl_scope) t e v8 e9)).goW (by first|simp[h2,h6];done|simp_all) (by simp) ?_
   cases hF
   repeat first|refine cg ?_|simp -dsimp[h2,h6]
   all_goals(try first|omega|rfl)
  ·cases hF
   repeat first|refine cg ?_|simp -dsimp[h2,h6,q7]
   all_goals(try first|omega|rfl)
 ·cases hF
  repeat first|refine cg ?_|simp -dsimp[h2,q3]
  all_goals(try first|omega|rfl)
theorem CC.f131  :(∀(e:Vl.Expr) (set':Nat→Bool) (r:Nat→Bool),F.f131 e set'=some r→MutCall Tryz.prog B 21 (fcB 4 set') [.agg [.lit (.int .i64 e.op),.lit (.int .i64 e.n),.lit (.int .i64 e.ctor),.arr (List.map Vl.Expr.c e.kids)],.ptr 0 0] (.tup []) (fcB 4 r))∧
  (∀(e:Vl.Expr) (set'28:Nat→Bool) (i29:Nat) (o:Nat→Bool),F.f134 e set'28 i29=some o→∀(c:Code),navO [1,1,1,0,0] (bodyOf Tryz.f21)=some c→∀(Q:Exit→ASt→Prop),(Q (.exit 0) ⟨[],[.cells (fcB 4 o)]⟩)→ALoopU Tryz.prog B 1 30 (hold c .mk) ⟨[(1,.ptr 0 0),(20,.arr (List.map Vl.Expr.c e.kids)),(21,.lit (.int .i64 (e.kids.length:Int))),(22,.lit (.int .i64 (i29:Int)))],[.cells (fcB 4 set'28)]⟩ (hold Q .mk))∧
  (∀(e:Vl.Expr) (set'16:Nat→Bool) (i17:Nat) (o:Nat→Bool),F.f133 e set'16 i17=some o→∀(c:Code),navO [1,1,1,0,0] (bodyOf Tryz.f21)=some c→∀(Q:Exit→ASt→Prop),(Q (.exit 0) ⟨[],[.cells (fcB 4 o)]⟩)→ALoopU Tryz.prog B 1 30 (hold c .mk) ⟨[(1,.ptr 0 0),(20,.arr (List.map Vl.Expr.c e.kids)),(21,.lit (.int .i64 (e.kids.length:Int))),(22,.lit (.int .i64 (i17:Int)))],[.cells (fcB 4 set'16)]⟩ (hold Q .mk))∧
  (∀(e:Vl.Expr) (set'7:Nat→Bool) (i:Nat) (o:Nat→Bool),F.f132 e set'7 i=some o→∀(c:Code),navO [1,1,1,0,0] (bodyOf Tryz.f21)=some c→∀(Q:Exit→ASt→Prop),(Q (.exit 0) ⟨[],[.cells (fcB 4 o)]⟩)→ALoopU Tryz.prog B 1 30 (hold c .mk) ⟨[(1,.ptr 0 0),(20,.arr (List.map Vl.Expr.c e.kids)),(21,.lit (.int .i64 (e.kids.length:Int))),(22,.lit (.int .i64 (i:Int)))],[.cells (fcB 4 set'7)]⟩ (hold Q .mk)):=by
 refine F.f131.mutual_partial_correctness 
  _ _ _ _
  ?_ ?_ ?_ ?_
 ·intro _f_f134 _f_f133 _f_f132 ih_f134 ih_f133 ih_f132 e set' r hF
  refine MutCall.enter Tryz.func21 (by kernel_rfl) rfl Tryz.ntmps21 (by simp) (by simp) (by simp) (by simp) ?_
  repeat first|refine cg ?_|simp -dsimp
  revert hF;refine abr.sp ?_ ?_<;>intro h1 q2 hF
  ·repeat first|refine cg ?_|simp -dsimp[h1]
   have hF:=ob hF;obtain⟨v,e3,hF⟩:=hF
   refine((C.f68 B hB1 hB2 e.n 0 3 v e3)).goW (by first|simp[h1];done|simp_all) (by simp) ?_
   repeat first|refine cg ?_|simp -dsimp[h1]
   revert hF;refine abr.sp (fun h4 q5 hF=> ?_) (fun h4 q5 hF=> ?_)
   ·repeat first|refine cg ?_|simp -dsimp[h1,h4]
    refine ADraw.eff [] [(0,0),(0,0),(0,0),(0,0),(0,0),(0,1)] [1,1,1,1,1,1] follows (by kernel_rfl) (by kernel_rfl) (by kernel_rfl) ?_
    have hF:=oc hF;obtain⟨c6,hF⟩:=hF
    repeat first|refine cg ?_|simp -dsimp[h1,h4,c6]
    have hF:=ob hF;obtain⟨o',ho15,hF⟩:=hF
    refine ALoop.goU _ ?_ ((ih_f132 e (updF set' e.n.toNat true) 0 o' ho15) _ rfl _ ?_)
    ·exact(Gh.to3 (by simp) (by first|simp -dsimp[h1,h4,c6];done|simp_all))
    cases hF
    repeat first|refine cg ?_|simp -dsimp
    all_goals(try first|omega|rfl)
   ·repeat first|refine cg ?_|simp -dsimp[h1,h4,q5]
    have hF:=ob hF;obtain⟨o'27,ho26,hF⟩:=hF
    refine ALoop.goU _ ?_ ((ih_f133 e set' 0 o'27 ho26) _ rfl _ ?_)
    ·exact(Gh.to3 (by simp) (by first|simp -dsimp[h1,h4,q5];done|simp_all))
    cases hF
    repeat first|refine cg ?_|simp -dsimp
    all_goals(try first|omega|rfl)
  ·repeat first|refine cg ?_|simp -dsimp[h1,q2]
   have hF:=ob hF;obtain⟨o'39,ho38,hF⟩:=hF
   refine ALoop.goU _ ?_ ((ih_f134 e set' 0 o'39 ho38) _ rfl _ ?_)
   ·exact(Gh.to3 (by simp) (by first|simp -dsimp[h1,q2];done|simp_all))
   cases hF
   repeat first|refine cg ?_|simp -dsimp
   all_goals(try first|omega|rfl)
 ·intro _f_f131 _f_f134 ih_f131 ih_f134 e set'28 i29 o hF
  intro c hc Q hq
  obtain rfl:c=_:=navEq hc rfl
  refine ALoopU.know fun hk hs=> ?_
  have b20:=hk 20
  simp -dsimp at b20
  clear hk hs
  refine ALoopU.enter ?_
  repeat first|refine cg ?_|simp -dsimp
  revert hF;refine abr.sp ?_ ?_<;>intro h30 q31 hF
  ·have z32:((i29:Int)<(e.kids.length:Int)):=auz
   have hF:=ob hF;obtain⟨x33,e34,hF⟩:=hF
   have le34:=lt_of_get e34
   repeat first|refine cg ?_|simp -dsimp[h30,z32,↓e34]
   have hF:=ob hF;obtain⟨v35,e36,hF⟩:=hF
   refine((ih_f131 x33 set'28 v35 e36)).go 0 rfl (by first|simp[h30,z32,↓e34];done|simp_all) (by simp) (by first|simp[h30,z32,↓e34];done|simp_all) ?_
   have w37:IntKind.i64.wrap ((i29:Int)+1)=(i29:Int)+1:=wrap_in (by omega) (by omega)
   repeat first|refine cg ?_|simp -dsimp[h30,z32,↓e34,w37]
   refine Again.go _ ?_ ((ih_f134 e v35 (i29+1) o hF) _ rfl _ hq)
   exact(Gh.to3 (by simp) (by first|simp -dsimp[h30,z32,↓e34,w37];done|simp_all))
  ·have z32:¬((i29:Int)<(e.kids.length:Int)):=auz
   cases hF
   repeat first|refine cg ?_|simp -dsimp[h30,q31,z32]
   refine Leave.go _ (Gh.to3 (by simp) (by first|simp -dsimp[h30,q31,z32];done|simp_all)) hq
 ·intro _f_f131 _f_f133 ih_f131 ih_f133 e set'16 i17 o hF
  intro c hc Q hq
  obtain rfl:c=_:=navEq hc rfl
  refine ALoopU.know fun hk hs=> ?_
  have b20:=hk 20
  simp -dsimp at b20
  clear hk hs
  refine ALoopU.enter ?_
  repeat first|refine cg ?_|simp -dsimp
  revert hF;refine abr.sp ?_ ?_<;>intro h18 q19 hF
  ·have z20:((i17:Int)<(e.kids.length:Int)):=auz
   have hF:=ob hF;obtain⟨x21,e22,hF⟩:=hF
   have le22:=lt_of_get e22
   repeat first|refine cg ?_|simp -dsimp[h18,z20,↓e22]
   have hF:=ob hF;obtain⟨v23,e24,hF⟩:=hF
   refine((ih_f131 x21 set'16 v23 e24)).go 0 rfl (by first|simp[h18,z20,↓e22];done|simp_all) (by simp) (by first|simp[h18,z20,↓e22];done|simp_all) ?_
   have w25:IntKind.i64.wrap ((i17:Int)+1)=(i17:Int)+1:=wrap_in (by omega) (by omega)
   repeat first|refine cg ?_|simp -dsimp[h18,z20,↓e22,w25]
   refine Again.go _ ?_ ((ih_f133 e v23 (i17+1) o hF) _ rfl _ hq)
   exact(Gh.to3 (by simp) (by first|simp -dsimp[h18,z20,↓e22,w25];done|simp_all))
  ·have z20:¬((i17:Int)<(e.kids.length:Int)):=auz
   cases hF
   repeat first|refine cg ?_|simp -dsimp[h18,q19,z20]
   refine Leave.go _ (Gh.to3 (by simp) (by first|simp -dsimp[h18,q19,z20];done|simp_all)) hq
 ·intro _f_f131 _f_f132 ih_f131 ih_f132 e set'7 i o hF
  intro c hc Q hq
  obtain rfl:c=_:=navEq hc rfl
  refine ALoopU.know fun hk hs=> ?_
  have b20:=hk 20
  simp -dsimp at b20
  clear hk hs
  refine ALoopU.enter ?_
  repeat first|refine cg ?_|simp -dsimp
  revert hF;refine abr.sp ?_ ?_<;>intro h8 q9 hF
  ·have z10:((i:Int)<(e.kids.length:Int)):=auz
   have hF:=ob hF;obtain⟨x,e11,hF⟩:=hF
   have le11:=lt_of_get e11
   repeat first|refine cg ?_|simp -dsimp[h8,z10,↓e11]
   have hF:=ob hF;obtain⟨v12,e13,hF⟩:=hF
   refine((ih_f131 x set'7 v12 e13)).go 0 rfl (by first|simp[h8,z10,↓e11];done|simp_all) (by simp) (by first|simp[h8,z10,↓e11];done|simp_all) ?_
   have w14:IntKind.i64.wrap ((i:Int)+1)=(i:Int)+1:=wrap_in (by omega) (by omega)
   repeat first|refine cg ?_|simp -dsimp[h8,z10,↓e11,w14]
   refine Again.go _ ?_ ((ih_f132 e v12 (i+1) o hF) _ rfl _ hq)
   exact(Gh.to3 (by simp) (by first|simp -dsimp[h8,z10,↓e11,w14];done|simp_all))
  ·have z10:¬((i:Int)<(e.kids.length:Int)):=auz
   cases hF
   repeat first|refine cg ?_|simp -dsimp[h8,q9,z10]
   refine Leave.go _ (Gh.to3 (by simp) (by first|simp -dsimp[h8,q9,z10];done|simp_all)) hq
theorem CC.f135 (v:Nat→Bool):(∀(i:Nat) (out:List Int) (o:List Int),F.f135 v i out=some o→∀(c:Code),navO [1,1,1,1,0,1,0,0] (bodyOf Tryz.f9)=some c→∀(Q:Exit→ASt→Prop),(Q (.exit 0) ⟨[(4,.own 2 (List.length (α:=Int) o))],[.dead,.dead,.elems 1 (List.map cI o)]⟩)→ALoopU Tryz.prog B 0 21 (hold c .mk) ⟨[(4,.own 2 (List.length (α:=Int) out)),(9,.agg (fcB 4 v)),(10,.lit (.int .i64 (i:Int)))],[.dead,.dead,.elems 1 (List.map cI out)]⟩ (hold Q .mk)):=by
 refine F.f135.partial_correctness v
  _
  ?_
 ·intro _f_f135 ih_f135 i out o hF
  intro c hc Q hq
  obtain rfl:c=_:=navEq hc rfl
  refine ALoopU.know fun hk hs=> ?_
  have d2:=hs 2 _ rfl
  simp -dsimp[Blk.bnd]at d2
  clear hk hs
  refine ALoopU.enter ?_
  repeat first|refine cg ?_|simp -dsimp
  revert hF;refine abr.sp ?_ ?_<;>intro h2 q3 hF
  ·have z4:((i:Int)<4):=auz
   have c5:i<4:=by assumption
   repeat first|refine cg ?_|simp -dsimp[h2,z4,c5]
   revert hF;refine abr.sp (fun h6 q7 hF=> ?_) (fun h6 q7 hF=> ?_)
   ·have hF:=oc hF;obtain⟨c8,hF⟩:=hF
    have hF:=oc hF;obtain⟨c9,hF⟩:=hF
    have w10:IntKind.i64.wrap ((i:Int)+1)=(i:Int)+1:=wrap_in (by omega) (by omega)
    repeat first|refine cg ?_|simp -dsimp[h2,z4,c5,h6,w10]
    refine Again.go _ ?_ ((ih_f135 (i+1) (out++[(i:Int)]) o hF) _ rfl _ hq)
    exact(Gh.to3 (by simp) (by first|simp -dsimp[h2,z4,c5,h6,w10];done|simp_all))
   ·have hF:=oc hF;obtain⟨c11,hF⟩:=hF
    have w12:IntKind.i64.wrap ((i:Int)+1)=(i:Int)+1:=wrap_in (by omega) (by omega)
    repeat first|refine cg ?_|simp -dsimp[h2,z4,c5,h6,q7,w12]
    refine Again.go _ ?_ ((ih_f135 (i+1) out o hF) _ rfl _ hq)
    exact(Gh.to3 (by simp) (by first|simp -dsimp[h2,z4,c5,h6,q7,w12];done|simp_all))
  ·have z4:¬((i:Int)<4):=auz
   cases hF
   repeat first|refine cg ?_|simp -dsimp[h2,q3,z4]
   refine Leave.go _ (Gh.to3 (by simp) (by first|simp -dsimp[h2,q3,z4];done|simp_all)) hq
theorem C.f136 (e:Vl.Expr)(r:List Int)(hF:F.f136 e=some r):PureCall Tryz.prog B 9 [.agg [.lit (.int .i64 e.op),.lit (.int .i64 e.n),.lit (.int .i64 e.ctor),.arr (List.map Vl.Expr.c e.kids)]] (.arr (List.map cI r)):=by
 unfold F.f136 at hF
 refine PureCall.enterLe Tryz.func9 (by kernel_rfl) rfl Tryz.ntmps9 (by simp) (by simp) ?_
 repeat first|refine cg ?_|simp -dsimp
 have hF:=ob hF;obtain⟨v,e1,hF⟩:=hF
 refine(((CC.f131 B hB1 hB2).1 e (fun _=>false) v e1)).go 1 rfl (by simp) (by simp) (by simp) ?_
 repeat first|refine cg ?_|simp -dsimp
 have hF:=ob hF;obtain⟨o',ho13,hF⟩:=hF
 refine ALoop.goU ⟨[(4,.own 2 (List.length (α:=Int) [])),(9,.agg (fcB 4 v)),(10,.lit (.int .i64 0))],[.dead,.dead,.elems 1 (List.map cI [])]⟩ (by refine Gh.trans (Gh.nil 4 1 (by simp -dsimp)) ?_;exact(Gh.to3 (by simp) (by simp -dsimp))) ?_
 refine((CC.f135 B hB1 hB2 v) 0 [] o' ho13) _ rfl _ ?_
 cases hF
 repeat first|refine cg ?_|simp -dsimp
 all_goals(try first|omega|rfl)
theorem C.f137 (i:Int)(r:ByteArray)(hF:F.f137 i=some r):PureCall Tryz.prog B 41 [.lit (.int .i64 i)] (.lit (.string r)):=by
 unfold F.f137 at hF
 have hF:=oc hF;obtain⟨c1,hF⟩:=hF
 cases hF
 exact shelf_itoa Tryz.lays171 ⟨Tryz.f41,Tryz.func41,by kernel_rfl,by kernel_rfl⟩ c1.1 c1.2
theorem C.f138 (v:Int)(r:ByteArray)(hF:F.f138 v=some r):PureCall Tryz.prog B 42 [.lit (.int .i64 v)] (.lit (.string r)):=by
 unfold F.f138 at hF
 refine PureCall.enterLe Tryz.func42 (by kernel_rfl) rfl Tryz.ntmps42 (by simp) (by simp) ?_
 cases hF
 repeat first|refine cg ?_|simp -dsimp
 all_goals(try first|omega|rfl)
theorem C.f139 (elems:List ByteArray)(sep:ByteArray)(r:ByteArray)(hF:F.f139 elems sep=some r):PureCall Tryz.prog B 64 [.arr (List.map cS elems),.lit (.string sep)] (.lit (.string r)):=by
 unfold F.f139 at hF
 have hF:=oc hF;obtain⟨c1,hF⟩:=hF
 cases hF
 exact shelf_join Tryz.lays156 Tryz.Builder_Extra_156 ⟨Tryz.f64,Tryz.func64,by kernel_rfl,by kernel_rfl⟩ c1
theorem C.f140 (list:List ByteArray)(r:ByteArray)(hF:F.f140 list=some r):PureCall Tryz.prog B 43 [.arr (List.map cS list)] (.lit (.string r)):=by
 unfold F.f140 at hF
 refine PureCall.enterLe Tryz.func43 (by kernel_rfl) rfl Tryz.ntmps43 (by simp) (by simp) ?_
 repeat first|refine cg ?_|simp -dsimp
 revert hF;refine abr.sp ?_ ?_<;>intro h1 q2 hF
 ·have z3:((list.length:Int)=0):=auz
  cases hF
  repeat first|refine cg ?_|simp -dsimp[h1,z3]
  all_goals(try first|omega|rfl)
 ·have z3:¬((list.length:Int)=0):=auz
  repeat first|refine cg ?_|simp -dsimp[h1,q2,z3]
  have hF:=ob hF;obtain⟨v,e4,hF⟩:=hF
  refine((C.f139 B hB1 hB2 list (⟨#[44]⟩:ByteArray) v e4)).goW (by first|simp[h1,q2,z3];done|simp_all) (by simp) ?_
  have hF:=oc hF;obtain⟨c5,hF⟩:=hF
  have hF:=oc hF;obtain⟨c6,hF⟩:=hF
  cases hF
  repeat first|refine cg ?_|simp -dsimp[h1,q2,z3]
  all_goals(try first|omega|rfl)
theorem CC.f141 (s:T_impl_scope):(∀(t:Ty) (e:Vl.Expr) (r:ByteArray),F.f141 s t e=some r→PureCall Tryz.prog B 22 [.agg [.arr (List.map Vl.Data.c s.f0),.arr (List.map FunType.c s.f1),.arr (List.map VarType.c s.f2)],.agg [.lit (.int .i64 t.data),.lit (.int .i64 t.index)],.agg [.lit (.int .i64 e.op),.lit (.int .i64 e.n),.lit (.int .i64 e.ctor),.arr (List.map Vl.Expr.c e.kids)]] (.lit (.string r)))∧
  (∀(t:Ty) (e:Vl.Expr) (v:(List Ty)×Bool) (i:Nat) (kids:List ByteArray) (o:List ByteArray),F.f142 s t e v i kids=some o→∀(c:Code),navO [1,1,1,0,1,0,0] (bodyOf Tryz.f22)=some c→∀(Q:Exit→ASt→Prop),(Q (.exit 0) ⟨[(3,.ptr 0 0),(4,.ptr 1 0),(5,.ptr 2 0),(9,.own 3 (List.length (α:=ByteArray) o))],[.cells [.arr (List.map Vl.Data.c s.f0),.arr (List.map FunType.c s.f1),.arr (List.map VarType.c s.f2)],.cells [.lit (.int .i64 t.data),.lit (.int .i64 t.index)],.cells [.lit (.int .i64 e.op),.lit (.int .i64 e.n),.lit (.int .i64 e.ctor),.arr (List.map Vl.Expr.c e.kids)],.elems 1 (List.map cS o)]⟩)→ALoopU Tryz.prog B 0 79 (hold c .mk) ⟨[(3,.ptr 0 0),(4,.ptr 1 0),(5,.ptr 2 0),(7,.arr (List.map Ty.c v.1)),(9,.own 3 (List.length (α:=ByteArray) kids)),(20,.arr (List.map Vl.Expr.c e.kids)),(21,.lit (.int .i64 (e.kids.length:Int))),(22,.lit (.int .i64 (i:Int)))],[.cells [.arr (List.map Vl.Data.c s.f0),.arr (List.map FunType.c s.f1),.arr (List.map VarType.c s.f2)],.cells [.lit (.int .i64 t.data),.lit (.int .i64 t.index)],.cells [.lit (.int .i64 e.op),.lit (.int .i64 e.n),.lit (.int .i64 e.ctor),.arr (List.map Vl.Expr.c e.kids)],.elems 1 (List.map cS kids)]⟩ (hold Q .mk)):=by
 refine F.f141.mutual_partial_correctness s
  _ _
  ?_ ?_
 ·intro _f_f142 ih_f142 t e r hF
  refine PureCall.enterLe Tryz.func22 (by kernel_rfl) rfl Tryz.ntmps22 (by simp) (by simp) ?_
  repeat first|refine cg ?_|simp -dsimp
  have hF:=ob hF;obtain⟨v,e1,hF⟩:=hF
  refine((C.f126 B hB1 hB2 s t e v e1)).goW (by simp) (by simp) ?_
  repeat first|refine cg ?_|simp -dsimp
  have hF:=ob hF;obtain⟨o',ho12,hF⟩:=hF
  refine ALoop.goU ⟨[(3,.ptr 0 0),(4,.ptr 1 0),(5,.ptr 2 0),(7,.arr (List.map Ty.c v.1)),(9,.own 3 (List.length (α:=ByteArray) [])),(20,.arr (List.map Vl.Expr.c e.kids)),(21,.lit (.int .i64 (e.kids.length:Int))),(22,.lit (.int .i64 0))],[.cells [.arr (List.map Vl.Data.c s.f0),.arr (List.map FunType.c s.f1),.arr (List.map VarType.c s.f2)],.cells [.lit (.int .i64 t.data),.lit (.int .i64 t.index)],.cells [.lit (.int .i64 e.op),.lit (.int .i64 e.n),.lit (.int .i64 e.ctor),.arr (List.map Vl.Expr.c e.kids)],.elems 1 (List.map cS [])]⟩ (by refine Gh.trans (Gh.nil 9 1 (by simp -dsimp)) ?_;exact(Gh.to3 (by simp) (by simp -dsimp))) ?_
  refine(ih_f142 t e v 0 [] o' ho12) _ rfl _ ?_
  repeat first|refine cg ?_|simp -dsimp
  revert hF;refine abr.sp ?_ ?_<;>intro h13 q14 hF
  ·repeat first|refine cg ?_|simp -dsimp[h13]
   have hF:=ob hF;obtain⟨v15,e16,hF⟩:=hF
   refine((C.f137 B hB1 hB2 e.n v15 e16)).goW (by first|simp[h13];done|simp_all) (by simp) ?_
   cases hF
   repeat first|refine cg ?_|simp -dsimp[h13]
   all_goals(try first|omega|rfl)
  ·repeat first|refine cg ?_|simp -dsimp[h13,q14]
   revert hF;refine abr.sp ?_ ?_<;>intro h17 q18 hF
   ·repeat first|refine cg ?_|simp -dsimp[h13,q14,h17]
    have hF:=ob hF;obtain⟨v19,e20,hF⟩:=hF
    refine((C.f138 B hB1 hB2 e.n v19 e20)).goW (by first|simp[h13,q14,h17];done|simp_all) (by simp) ?_
    cases hF
    repeat first|refine cg ?_|simp -dsimp[h13,q14,h17]
    all_goals(try first|omega|rfl)
   ·repeat first|refine cg ?_|simp -dsimp[h13,q14,h17,q18]
    revert hF;refine abr.sp ?_ ?_<;>intro h21 q22 hF
    ·repeat first|refine cg ?_|simp -dsimp[h13,q14,h17,q18,h21]
     refine ADraw.eff [43] [(0,1),(0,1),(0,1),(0,1),(0,1),(0,1),(0,1),(0,1),(0,1),(0,1),(0,1),(0,1),(0,0),(0,1),(1,1),(1,1)] [0,2,0,2,0,0,0,0,2,0,0,0,1,1,1,1] follows (by kernel_rfl) (by kernel_rfl) (by kernel_rfl) ?_
     have hF:=ob hF;obtain⟨x23,e24a,hF⟩:=hF
     have e24a:=at_some e24a;obtain⟨ne24,e24⟩:=e24a
     have le24:=lt_of_get e24
     have hF:=ob hF;obtain⟨x25,e26a,hF⟩:=hF
     have e26a:=at_some e26a;obtain⟨ne26,e26⟩:=e26a
     have le26:=lt_of_get e26
     repeat first|refine cg ?_|simp -dsimp[h13,q14,h17,q18,h21,↓e24,↓e26]
     have hF:=ob hF;obtain⟨v27,e28,hF⟩:=hF
     refine((C.f140 B hB1 hB2 o' v27 e28)).elend (by first|simp -dsimp[h13,q14,h17,q18,h21,↓e24,↓e26];done|simp_all) (by simp -dsimp) ?_
     have hF:=oc hF;obtain⟨c29,hF⟩:=hF
     cases hF
     repeat first|refine cg ?_|simp -dsimp[h13,q14,h17,q18,h21,↓e24,↓e26]
     all_goals(try first|omega|rfl)
    ·repeat first|refine cg ?_|simp -dsimp[h13,q14,h17,q18,h21,q22]
     revert hF;refine abr.sp ?_ ?_<;>intro h30 q31 hF
     ·repeat first|refine cg ?_|simp -dsimp[h13,q14,h17,q18,h21,q22,h30]
      have hF:=ob hF;obtain⟨v32,e33,hF⟩:=hF
      refine((C.f140 B hB1 hB2 o' v32 e33)).lend (by first|simp -dsimp[h13,q14,h17,q18,h21,q22,h30];done|simp_all) (by simp -dsimp) ?_
      have hF:=oc hF;obtain⟨c34,hF⟩:=hF
      cases hF
      repeat first|refine cg ?_|simp -dsimp[h13,q14,h17,q18,h21,q22,h30]
      all_goals(try first|omega|rfl)
     ·repeat first|refine cg ?_|simp -dsimp[h13,q14,h17,q18,h21,q22,h30,q31]
      have hF:=ob hF;obtain⟨v35,e36,hF⟩:=hF
      refine((C.f137 B hB1 hB2 e.n v35 e36)).goW (by first|simp[h13,q14,h17,q18,h21,q22,h30,q31];done|simp_all) (by simp) ?_
      have hF:=oc hF;obtain⟨c37,hF⟩:=hF
      repeat first|refine cg ?_|simp -dsimp[h13,q14,h17,q18,h21,q22,h30,q31]
      have hF:=ob hF;obtain⟨v38,e39,hF⟩:=hF
      refine((C.f140 B hB1 hB2 o' v38 e39)).lend (by first|simp -dsimp[h13,q14,h17,q18,h21,q22,h30,q31];done|simp_all) (by simp -dsimp) ?_
      have hF:=oc hF;obtain⟨c40,hF⟩:=hF
      cases hF
      repeat first|refine cg ?_|simp -dsimp[h13,q14,h17,q18,h21,q22,h30,q31]
      all_goals(try first|omega|rfl)
 ·intro _f_f141 _f_f142 ih_f141 ih_f142 t e v i kids o hF
  intro c hc Q hq
  obtain rfl:c=_:=navEq hc rfl
  refine ALoopU.know fun hk hs=> ?_
  have b7:=hk 7
  simp -dsimp at b7
  have b20:=hk 20
  simp -dsimp at b20
  have d0:=hs 0 _ rfl
  simp -dsimp[Blk.bnd]at d0
  have d2:=hs 2 _ rfl
  simp -dsimp[Blk.bnd]at d2
  have d3:=hs 3 _ rfl
  simp -dsimp[Blk.bnd]at d3
  clear hk hs
  refine ALoopU.enter ?_
  repeat first|refine cg ?_|simp -dsimp
  revert hF;refine abr.sp ?_ ?_<;>intro h2 q3 hF
  ·have z4:((i:Int)<(e.kids.length:Int)):=auz
   have hF:=ob hF;obtain⟨x,e5,hF⟩:=hF
   have le5:=lt_of_get e5
   repeat first|refine cg ?_|simp -dsimp[h2,z4,↓e5]
   refine ADraw.eff [] [(0,1),(0,0),(0,0),(0,0),(0,0),(0,0),(0,0),(0,2),(0,2),(0,2),(2,2)] [1,1,1,1,1,1,1,1,1,1,1] follows (by kernel_rfl) (by kernel_rfl) (by kernel_rfl) ?_
   have hF:=ob hF;obtain⟨x6,e7,hF⟩:=hF
   have le7:=lt_of_get e7
   repeat first|refine cg ?_|simp -dsimp[h2,z4,↓e5,↓e7]
   have hF:=ob hF;obtain⟨v8,e9,hF⟩:=hF
   refine((ih_f141 x6 x v8 e9)).pgoW (by first|simp[h2,z4,↓e5,↓e7];done|simp_all) (by simp) ?_
   have hF:=oc hF;obtain⟨c10,hF⟩:=hF
   have w11:IntKind.i64.wrap ((i:Int)+1)=(i:Int)+1:=wrap_in (by omega) (by omega)
   repeat first|refine cg ?_|simp -dsimp[h2,z4,↓e5,↓e7,w11]
   refine Again.go _ ?_ ((ih_f142 t e v (i+1) (kids++[v8]) o hF) _ rfl _ hq)
   exact(Gh.to3 (by simp) (by first|simp -dsimp[h2,z4,↓e5,↓e7,w11];done|simp_all))
  ·have z4:¬((i:Int)<(e.kids.length:Int)):=auz
   cases hF
   repeat first|refine cg ?_|simp -dsimp[h2,q3,z4]
   refine Leave.go _ (Gh.to3 (by simp) (by first|simp -dsimp[h2,q3,z4];done|simp_all)) hq
theorem C.f143 (w:List Vl.Data)(funs:List FunType)(vars:List VarType)(t:Ty)(e:Vl.Expr)(r:ByteArray)(hF:F.f143 w funs vars t e=some r):PureCall Tryz.prog B 10 [.arr (List.map Vl.Data.c w),.arr (List.map FunType.c funs),.arr (List.map VarType.c vars),.agg [.lit (.int .i64 t.data),.lit (.int .i64 t.index)],.agg [.lit (.int .i64 e.op),.lit (.int .i64 e.n),.lit (.int .i64 e.ctor),.arr (List.map Vl.Expr.c e.kids)]] (.lit (.string r)):=by
 unfold F.f143 at hF
 refine PureCall.enterLe Tryz.func10 (by kernel_rfl) rfl Tryz.ntmps10 (by simp) (by simp) ?_
 repeat first|refine cg ?_|simp -dsimp
 have hF:=ob hF;obtain⟨v,e1,hF⟩:=hF
 refine((C.f130 B hB1 hB2 w funs vars t e v e1)).goW (by simp) (by simp) ?_
 repeat first|refine cg ?_|simp -dsimp
 revert hF;refine abr.ns (fun h2 q3 hF=> ?_) (fun h2 q3 hF=> ?_)
 ·cases hF
  repeat first|refine cg ?_|simp -dsimp[h2,q3]
  all_goals(try first|omega|rfl)
 ·repeat first|refine cg ?_|simp -dsimp[h2,q3]
  have hF:=ob hF;obtain⟨v4,e5,hF⟩:=hF
  refine(((CC.f141 B hB1 hB2 (⟨w,funs,vars⟩:T_impl_scope)).1 t e v4 e5)).goW (by first|simp[h2,q3];done|simp_all) (by simp) ?_
  cases hF
  repeat first|refine cg ?_|simp -dsimp[h2,q3]
  all_goals(try first|omega|rfl)
theorem CC.f144 (w:List Vl.Data):(∀(t:Ty) (v:Vl.Value) (r:ByteArray),F.f144 w t v=some r→PureCall Tryz.prog B 23 [.arr (List.map Vl.Data.c w),.agg [.lit (.int .i64 t.data),.lit (.int .i64 t.index)],.agg [.lit (.int .i64 v.ctor),.lit (.int .i64 v.n),.arr (List.map Vl.Value.c v.kids)]] (.lit (.string r)))∧
  (∀(t:Ty) (v:Vl.Value) (v5:List Ty) (i:Nat) (kids:List ByteArray) (o:List ByteArray),F.f145 w t v v5 i kids=some o→∀(c:Code),navO [1,1,1,1,0,1,0,0] (bodyOf Tryz.f23)=some c→∀(Q:Exit→ASt→Prop),(Q (.exit 0) ⟨[(0,.arr (List.map Vl.Data.c w)),(4,.ptr 0 0),(5,.ptr 1 0),(8,.own 2 (List.length (α:=ByteArray) o))],[.cells [.lit (.int .i64 t.data),.lit (.int .i64 t.index)],.cells [.lit (.int .i64 v.ctor),.lit (.int .i64 v.n),.arr (List.map Vl.Value.c v.kids)],.elems 1 (List.map cS o)]⟩)→ALoopU Tryz.prog B 0 55 (hold c .mk) ⟨[(0,.arr (List.map Vl.Data.c w)),(4,.ptr 0 0),(5,.ptr 1 0),(7,.arr (List.map Ty.c v5)),(8,.own 2 (List.length (α:=ByteArray) kids)),(23,.arr (List.map Vl.Value.c v.kids)),(24,.lit (.int .i64 (v.kids.length:Int))),(25,.lit (.int .i64 (i:Int)))],[.cells [.lit (.int .i64 t.data),.lit (.int .i64 t.index)],.cells [.lit (.int .i64 v.ctor),.lit (.int .i64 v.n),.arr (List.map Vl.Value.c v.kids)],.elems 1 (List.map cS kids)]⟩ (hold Q .mk)):=by
 refine F.f144.mutual_partial_correctness w
  _ _
  ?_ ?_
 ·intro _f_f145 ih_f145 t v r hF
  refine PureCall.enterLe Tryz.func23 (by kernel_rfl) rfl Tryz.ntmps23 (by simp) (by simp) ?_
  repeat first|refine cg ?_|simp -dsimp
  revert hF;refine abr.sp ?_ ?_<;>intro h1 q2 hF
  ·repeat first|refine cg ?_|simp -dsimp[h1]
   have hF:=ob hF;obtain⟨v3,e4,hF⟩:=hF
   refine((C.f137 B hB1 hB2 v.n v3 e4)).goW (by first|simp[h1];done|simp_all) (by simp) ?_
   cases hF
   repeat first|refine cg ?_|simp -dsimp[h1]
   all_goals(try first|omega|rfl)
  ·repeat first|refine cg ?_|simp -dsimp[h1,q2]
   have hF:=ob hF;obtain⟨v5,e6,hF⟩:=hF
   refine((C.f89 B hB1 hB2 w t v.ctor v5 e6)).goW (by first|simp[h1,q2];done|simp_all) (by simp) ?_
   repeat first|refine cg ?_|simp -dsimp[h1,q2]
   have hF:=ob hF;obtain⟨o',ho17,hF⟩:=hF
   refine ALoop.goU ⟨[(0,.arr (List.map Vl.Data.c w)),(4,.ptr 0 0),(5,.ptr 1 0),(7,.arr (List.map Ty.c v5)),(8,.own 2 (List.length (α:=ByteArray) [])),(23,.arr (List.map Vl.Value.c v.kids)),(24,.lit (.int .i64 (v.kids.length:Int))),(25,.lit (.int .i64 0))],[.cells [.lit (.int .i64 t.data),.lit (.int .i64 t.index)],.cells [.lit (.int .i64 v.ctor),.lit (.int .i64 v.n),.arr (List.map Vl.Value.c v.kids)],.elems 1 (List.map cS [])]⟩ (by refine Gh.trans (Gh.nil 8 1 (by simp -dsimp)) ?_;exact(Gh.to3 (by simp) (by first|simp -dsimp[h1,q2];done|simp_all))) ?_
   refine(ih_f145 t v v5 0 [] o' ho17) _ rfl _ ?_
   repeat first|refine cg ?_|simp -dsimp
   refine ADraw.eff [43] [(0,1),(0,1),(0,1),(0,1),(0,1),(0,1),(0,1),(0,1),(0,1),(0,1),(0,1),(0,0),(0,1),(1,1),(1,1)] [1,0,2,0,0,0,0,2,0,0,0,1,1,1,1] follows (by kernel_rfl) (by kernel_rfl) (by kernel_rfl) ?_
   have hF:=ob hF;obtain⟨x18,e19a,hF⟩:=hF
   have e19a:=at_some e19a;obtain⟨ne19,e19⟩:=e19a
   have le19:=lt_of_get e19
   have hF:=ob hF;obtain⟨x20,e21a,hF⟩:=hF
   have e21a:=at_some e21a;obtain⟨ne21,e21⟩:=e21a
   have le21:=lt_of_get e21
   repeat first|refine cg ?_|simp -dsimp[↓e19,↓e21]
   have hF:=ob hF;obtain⟨v22,e23,hF⟩:=hF
   refine((C.f140 B hB1 hB2 o' v22 e23)).elend (by first|simp -dsimp[↓e19,↓e21];done|simp_all) (by simp -dsimp) ?_
   have hF:=oc hF;obtain⟨c24,hF⟩:=hF
   cases hF
   repeat first|refine cg ?_|simp -dsimp[↓e19,↓e21]
   all_goals(try first|omega|rfl)
 ·intro _f_f144 _f_f145 ih_f144 ih_f145 t v v5 i kids o hF
  intro c hc Q hq
  obtain rfl:c=_:=navEq hc rfl
  refine ALoopU.know fun hk hs=> ?_
  have b0:=hk 0
  simp -dsimp at b0
  have b7:=hk 7
  simp -dsimp at b7
  have b23:=hk 23
  simp -dsimp at b23
  have d1:=hs 1 _ rfl
  simp -dsimp[Blk.bnd]at d1
  have d2:=hs 2 _ rfl
  simp -dsimp[Blk.bnd]at d2
  clear hk hs
  refine ALoopU.enter ?_
  repeat first|refine cg ?_|simp -dsimp
  revert hF;refine abr.sp ?_ ?_<;>intro h7 q8 hF
  ·have z9:((i:Int)<(v.kids.length:Int)):=auz
   have hF:=ob hF;obtain⟨x,e10,hF⟩:=hF
   have le10:=lt_of_get e10
   repeat first|refine cg ?_|simp -dsimp[h7,z9,↓e10]
   refine ADraw.eff [] [(0,1),(0,0),(0,0),(0,0),(0,0),(0,0),(0,0),(0,2),(0,2),(0,2),(2,2)] [1,1,1,1,1,1,1,1,1,1,1] follows (by kernel_rfl) (by kernel_rfl) (by kernel_rfl) ?_
   have hF:=ob hF;obtain⟨x11,e12,hF⟩:=hF
   have le12:=lt_of_get e12
   repeat first|refine cg ?_|simp -dsimp[h7,z9,↓e10,↓e12]
   have hF:=ob hF;obtain⟨v13,e14,hF⟩:=hF
   refine((ih_f144 x11 x v13 e14)).pgoW (by first|simp[h7,z9,↓e10,↓e12];done|simp_all) (by simp) ?_
   have hF:=oc hF;obtain⟨c15,hF⟩:=hF
   have w16:IntKind.i64.wrap ((i:Int)+1)=(i:Int)+1:=wrap_in (by omega) (by omega)
   repeat first|refine cg ?_|simp -dsimp[h7,z9,↓e10,↓e12,w16]
   refine Again.go _ ?_ ((ih_f145 t v v5 (i+1) (kids++[v13]) o hF) _ rfl _ hq)
   exact(Gh.to3 (by simp) (by first|simp -dsimp[h7,z9,↓e10,↓e12,w16];done|simp_all))
  ·have z9:¬((i:Int)<(v.kids.length:Int)):=auz
   cases hF
   repeat first|refine cg ?_|simp -dsimp[h7,q8,z9]
   refine Leave.go _ (Gh.to3 (by simp) (by first|simp -dsimp[h7,q8,z9];done|simp_all)) hq
theorem C.f146 (w:List Vl.Data)(t:Ty)(v:Vl.Value)(r:ByteArray)(hF:F.f146 w t v=some r):PureCall Tryz.prog B 11 [.arr (List.map Vl.Data.c w),.agg [.lit (.int .i64 t.data),.lit (.int .i64 t.index)],.agg [.lit (.int .i64 v.ctor),.lit (.int .i64 v.n),.arr (List.map Vl.Value.c v.kids)]] (.lit (.string r)):=by
 unfold F.f146 at hF
 refine PureCall.enterLe Tryz.func11 (by kernel_rfl) rfl Tryz.ntmps11 (by simp) (by simp) ?_
 repeat first|refine cg ?_|simp -dsimp
 have hF:=ob hF;obtain⟨v1,e2,hF⟩:=hF
 refine((C.f94 B hB1 hB2 w t v v1 e2)).goW (by simp) (by simp) ?_
 repeat first|refine cg ?_|simp -dsimp
 revert hF;refine abr.ns (fun h3 q4 hF=> ?_) (fun h3 q4 hF=> ?_)
 ·cases hF
  repeat first|refine cg ?_|simp -dsimp[h3,q4]
  all_goals(try first|omega|rfl)
 ·repeat first|refine cg ?_|simp -dsimp[h3,q4]
  have hF:=ob hF;obtain⟨v5,e6,hF⟩:=hF
  refine(((CC.f144 B hB1 hB2 w).1 t v v5 e6)).goW (by first|simp[h3,q4];done|simp_all) (by simp) ?_
  cases hF
  repeat first|refine cg ?_|simp -dsimp[h3,q4]
  all_goals(try first|omega|rfl)
theorem C.f147 (code:List Int)(r:Bool)(hF:F.f147 code=some r):PureCall Tryz.prog B 3 [.arr (List.map cU code)] (.lit (.bool r)):=by
 unfold F.f147 at hF
 refine PureCall.enterLe Tryz.func3 (by kernel_rfl) rfl Tryz.ntmps3 (by simp) (by simp) ?_
 repeat first|refine cg ?_|simp -dsimp
 revert hF;refine abr.sp ?_ ?_<;>intro h1 q2 hF
 ·have z3:(1048576<(code.length:Int)):=auz
  cases hF
  repeat first|refine cg ?_|simp -dsimp[h1,z3]
  all_goals(try first|omega|rfl)
 ·have z3:¬(1048576<(code.length:Int)):=auz
  repeat first|refine cg ?_|simp -dsimp[h1,q2,z3]
  have hF:=ob hF;obtain⟨v,e4,hF⟩:=hF
  refine((C.f67 B hB1 hB2 code v e4)).goW (by first|simp[h1,q2,z3];done|simp_all) (by simp) ?_
  repeat first|refine cg ?_|simp -dsimp[h1,q2,z3]
  have hF:=ob hF;obtain⟨v5,e6,hF⟩:=hF
  refine((C.f97 B hB1 hB2 v.1 v.2.1 v.2.2 v5 e6)).goW (by first|simp[h1,q2,z3];done|simp_all) (by simp) ?_
  repeat first|refine cg ?_|simp -dsimp[h1,q2,z3]
  have hF:=ob hF;obtain⟨v7,e8,hF⟩:=hF
  refine((C.f110 B hB1 hB2 v.1 v.2.1 v.2.2 v7 e8)).goW (by first|simp[h1,q2,z3];done|simp_all) (by simp) ?_
  repeat first|refine cg ?_|simp -dsimp[h1,q2,z3]
  revert hF;refine abr.sp ?_ ?_<;>intro h9 q10 hF
  ·repeat first|refine cg ?_|simp -dsimp[h1,q2,z3,h9]
   have hF:=ob hF;obtain⟨v11,e12,hF⟩:=hF
   refine(((CC.f111 B hB1 hB2).1 v5.1 v7.1 v11 e12)).goW (by first|simp[h1,q2,z3,h9];done|simp_all) (by simp) ?_
   repeat first|refine cg ?_|simp -dsimp[h1,q2,z3,h9]
   revert hF;refine abr.sp (fun h13 q14 hF=> ?_) (fun h13 q14 hF=> ?_)
   ·repeat first|refine cg ?_|simp -dsimp[h1,q2,z3,h9,h13]
    revert hF;refine abr.ns (fun h15 q16 hF=> ?_) (fun h15 q16 hF=> ?_)
    ·repeat first|refine cg ?_|simp -dsimp[h1,q2,z3,h9,h13,h15,q16]
     have hF:=ob hF;obtain⟨v17,e18,hF⟩:=hF
     refine(((CC.f111 B hB1 hB2).1 v5.1 v7.1 v17 e18)).goW (by first|simp[h1,q2,z3,h9,h13,h15,q16];done|simp_all) (by simp) ?_
     cases hF
     repeat first|refine cg ?_|simp -dsimp[h1,q2,z3,h9,h13,h15,q16]
     all_goals(try first|omega|rfl)
    ·repeat first|refine cg ?_|simp -dsimp[h1,q2,z3,h9,h13,h15,q16]
     refine ADraw.simple follows (by kernel_rfl) (by kernel_rfl) ?_
     repeat first|refine cg ?_|simp -dsimp[h1,q2,z3,h9,h13,h15,q16]
     have hF:=ob hF;obtain⟨v19,e20,hF⟩:=hF
     refine((C.f130 B hB1 hB2 v.1 [] [] v.2.1 v5.1 v19 e20)).pgoW (by first|simp[h1,q2,z3,h9,h13,h15,q16];done|simp_all) (by simp) ?_
     repeat first|refine cg ?_|simp -dsimp[h1,q2,z3,h9,h13,h15,q16]
     revert hF;refine abr.sp (fun h21 q22 hF=> ?_) (fun h21 q22 hF=> ?_)
     ·repeat first|refine cg ?_|simp -dsimp[h1,q2,z3,h9,h13,h15,q16,h21]
      have hF:=ob hF;obtain⟨v23,e24,hF⟩:=hF
      refine((C.f136 B hB1 hB2 v5.1 v23 e24)).pgoW (by first|simp[h1,q2,z3,h9,h13,h15,q16,h21];done|simp_all) (by simp) ?_
      repeat first|refine cg ?_|simp -dsimp[h1,q2,z3,h9,h13,h15,q16,h21]
      revert hF;refine abr.sp ?_ ?_<;>intro h25 q26 hF
      ·have z27:((v23.length:Int)=0):=auz
       repeat first|refine cg ?_|simp -dsimp[h1,q2,z3,h9,h13,h15,q16,h21,h25,z27]
       have hF:=ob hF;obtain⟨v28,e29,hF⟩:=hF
       refine((C.f143 B hB1 hB2 v.1 [] [] v.2.1 v5.1 v28 e29)).pgoW (by first|simp[h1,q2,z3,h9,h13,h15,q16,h21,h25,z27];done|simp_all) (by simp) ?_
       repeat first|refine cg ?_|simp -dsimp[h1,q2,z3,h9,h13,h15,q16,h21,h25,z27]
       have hF:=ob hF;obtain⟨v30,e31,hF⟩:=hF
       refine((C.f146 B hB1 hB2 v.1 v.2.1 v.2.2 v30 e31)).pgoW (by first|simp[h1,q2,z3,h9,h13,h15,q16,h21,h25,z27];done|simp_all) (by simp) ?_
       cases hF
       repeat first|refine cg ?_|simp -dsimp[h1,q2,z3,h9,h13,h15,q16,h21,h25,z27]
       all_goals(try first|omega|rfl)
      ·have z27:¬((v23.length:Int)=0):=auz
       cases hF
       repeat first|refine cg ?_|simp -dsimp[h1,q2,z3,h9,h13,h15,q16,h21,h25,q26,z27]
       all_goals(try first|omega|rfl)
     ·cases hF
      repeat first|refine cg ?_|simp -dsimp[h1,q2,z3,h9,h13,h15,q16,h21,q22]
      all_goals(try first|omega|rfl)
   ·repeat first|refine cg ?_|simp -dsimp[h1,q2,z3,h9,h13,q14]
    have hF:=ob hF;obtain⟨v32,e33,hF⟩:=hF
    refine(((CC.f111 B hB1 hB2).1 v5.1 v7.1 v32 e33)).goW (by first|simp[h1,q2,z3,h9,h13,q14];done|simp_all) (by simp) ?_
    cases hF
    repeat first|refine cg ?_|simp -dsimp[h1,q2,z3,h9,h13,q14]
    all_goals(try first|omega|rfl)
  ·cases hF
   repeat first|refine cg ?_|simp -dsimp[h1,q2,z3,h9,q10]
   all_goals(try first|omega|rfl)
end Go.Proofs.YtanfmnlkemmkpaaGreatDoor
