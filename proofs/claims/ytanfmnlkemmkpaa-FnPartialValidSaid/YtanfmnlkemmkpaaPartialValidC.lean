/- The contracts: the code computes the functions (printed by gen.py). -/
import Derived.Test.YtanfmnlkemmkpaaProg
import Derived.Test.YtanfmnlkemmkpaaPartialValidF
import Derived.Test.YtanfmnlkemmkpaaPartialValidC1
namespace Go.Proofs.Ytanfmnlkemmkpaa
open Go Go.Proofs Go.Vl
set_option linter.unusedSimpArgs false
set_option linter.unusedVariables false
set_option linter.unusedSectionVars false
set_option maxRecDepth 100000
set_option maxHeartbeats 4000000
set_option synthInstance.maxSize 100000
set_option synthInstance.maxHeartbeats 4000000
attribute [local irreducible] ECallA NCallA aL aLg AMake MLoop AgainM LeaveM awpM aopsM MutCall BCall chk abr ACall ALoop ALoopU ADraw Again Leave PCallA PCall Post awp aops PureCall hold
variable (B : Nat) (hB1 : 67108864 ≤ B) (hB2 : B ≤ 9223372036854775807)
include hB1 hB2
theorem C.f85 (s:List Int)(v:Int)(r:Int)(hF:F.f85 s v=some r):PureCall Try.prog B 44 [.arr (List.map cI s),.lit (.int .i64 v)] (.lit (.int .i64 r)):=by
 unfold F.f85 at hF
 refine PureCall.enterLe Try.func44 (by kernel_rfl) rfl Try.ntmps44 (by simp) (by simp) ?_
 repeat(first|refine chk.ga ?_|simp -dsimp)
 have hF:=ob hF;obtain⟨o',ho8,hF⟩:=hF
 refine ALoop.goU _ ?_ (((CC.f84 B hB1 hB2 s v) 0 o' ho8) _ rfl _ ?_)
 ·exact(Gh.to3 (by simp) (by simp -dsimp))
 rcases o' with r0|sx
 ·dsimp only at hF
  cases hF
  intro st h
  simpa using h
 ·dsimp only at hF
  cases hF
  repeat(first|refine chk.ga ?_|simp -dsimp)
  all_goals(try first|omega|rfl)
theorem C.f86 (s:List Int)(v:Int)(r:Bool)(hF:F.f86 s v=some r):PureCall Try.prog B 30 [.arr (List.map cI s),.lit (.int .i64 v)] (.lit (.bool r)):=by
 unfold F.f86 at hF
 refine PureCall.enterLe Try.func30 (by kernel_rfl) rfl Try.ntmps30 (by simp) (by simp) ?_
 repeat(first|refine chk.ga ?_|simp -dsimp)
 have hF:=ob hF;obtain⟨v1,e2,hF⟩:=hF
 refine((C.f85 B hB1 hB2 s v v1 e2)).goW (by simp) (by simp) ?_
 cases hF
 repeat(first|refine chk.ga ?_|simp -dsimp)
 all_goals(try first|omega|rfl)
theorem CC.f87 (t:Vl.Ty)(x2:Vl.Ctor):(∀(i:Nat) (out:List Vl.Ty) (o:List Vl.Ty),F.f87 t x2 i out=some o→∀(c:Code),navO [1,1,1,1,1,0,1,0,0] (bodyOf Try.f32)=some c→∀(Q:Exit→ASt→Prop),(Q (.exit 0) ⟨[(9,.own 2 (List.length (α:=Vl.Ty) o))],[.dead,.dead,.elems 2 (List.map Vl.Ty.c o)]⟩)→ALoopU Try.prog B 0 45 (hold c .mk) ⟨[(8,.lit (.int .i64 t.index)),(9,.own 2 (List.length (α:=Vl.Ty) out)),(28,.arr (List.map Vl.Ty.c x2.args)),(29,.lit (.int .i64 (x2.args.length:Int))),(30,.lit (.int .i64 (i:Int)))],[.dead,.dead,.elems 2 (List.map Vl.Ty.c out)]⟩ (hold Q .mk)):=by
 refine F.f87.partial_correctness t x2
  _
  ?_
 ·intro _f_f87 ih_f87 i out o hF
  intro c hc Q hq
  obtain rfl:c=_:=navEq hc rfl
  refine ALoopU.know fun hk hs=> ?_
  have b28:=hk 28
  simp -dsimp at b28
  have d2:=hs 2 _ rfl
  simp -dsimp[Blk.bnd]at d2
  clear hk hs
  refine ALoopU.enter ?_
  repeat(first|refine chk.ga ?_|simp -dsimp)
  revert hF;refine abr.sp ?_ ?_<;>intro h6 q7 hF
  ·have z8:((i:Int)<(x2.args.length:Int)):=auz
   have hF:=ob hF;obtain⟨x9,e10,hF⟩:=hF
   have le10:=lt_of_get e10
   repeat(first|refine chk.ga ?_|simp -dsimp[h6,z8,↓e10])
   revert hF;refine abr.sp ?_ ?_<;>intro h11 q12 hF
   ·have hF:=oc hF;obtain⟨c13,hF⟩:=hF
    have w14:IntKind.i64.wrap ((i:Int)+1)=(i:Int)+1:=wrap_in (by omega) (by omega)
    repeat(first|refine chk.ga ?_|simp -dsimp[h6,z8,↓e10,h11,w14])
    refine Again.go _ ?_ ((ih_f87 (i+1) (out++[(⟨x9.data,t.index⟩:Vl.Ty)]) o hF) _ rfl _ hq)
    exact(Gh.to3 (by simp) (by first|simp -dsimp[h6,z8,↓e10,h11,w14];done|simp_all))
   ·have hF:=oc hF;obtain⟨c15,hF⟩:=hF
    have w16:IntKind.i64.wrap ((i:Int)+1)=(i:Int)+1:=wrap_in (by omega) (by omega)
    repeat(first|refine chk.ga ?_|simp -dsimp[h6,z8,↓e10,h11,q12,w16])
    refine Again.go _ ?_ ((ih_f87 (i+1) (out++[x9]) o hF) _ rfl _ hq)
    exact(Gh.to3 (by simp) (by first|simp -dsimp[h6,z8,↓e10,h11,q12,w16];done|simp_all))
  ·have z8:¬((i:Int)<(x2.args.length:Int)):=auz
   cases hF
   repeat(first|refine chk.ga ?_|simp -dsimp[h6,q7,z8])
   refine Leave.go _ (Gh.to3 (by simp) (by first|simp -dsimp[h6,q7,z8];done|simp_all)) hq
theorem CC.f88 (x2:Vl.Ctor):(∀(i18:Nat) (out19:List Vl.Ty) (o:List Vl.Ty),F.f88 x2 i18 out19=some o→∀(c:Code),navO [1,1,1,1,1,0,1,0,0] (bodyOf Try.f32)=some c→∀(Q:Exit→ASt→Prop),(Q (.exit 0) ⟨[(9,.own 2 (List.length (α:=Vl.Ty) o))],[.dead,.dead,.elems 2 (List.map Vl.Ty.c o)]⟩)→ALoopU Try.prog B 0 45 (hold c .mk) ⟨[(8,.lit (.int .i64 x2.index)),(9,.own 2 (List.length (α:=Vl.Ty) out19)),(28,.arr (List.map Vl.Ty.c x2.args)),(29,.lit (.int .i64 (x2.args.length:Int))),(30,.lit (.int .i64 (i18:Int)))],[.dead,.dead,.elems 2 (List.map Vl.Ty.c out19)]⟩ (hold Q .mk)):=by
 refine F.f88.partial_correctness x2
  _
  ?_
 ·intro _f_f88 ih_f88 i18 out19 o hF
  intro c hc Q hq
  obtain rfl:c=_:=navEq hc rfl
  refine ALoopU.know fun hk hs=> ?_
  have b28:=hk 28
  simp -dsimp at b28
  have d2:=hs 2 _ rfl
  simp -dsimp[Blk.bnd]at d2
  clear hk hs
  refine ALoopU.enter ?_
  repeat(first|refine chk.ga ?_|simp -dsimp)
  revert hF;refine abr.sp ?_ ?_<;>intro h20 q21 hF
  ·have z22:((i18:Int)<(x2.args.length:Int)):=auz
   have hF:=ob hF;obtain⟨x23,e24,hF⟩:=hF
   have le24:=lt_of_get e24
   repeat(first|refine chk.ga ?_|simp -dsimp[h20,z22,↓e24])
   revert hF;refine abr.sp ?_ ?_<;>intro h25 q26 hF
   ·have hF:=oc hF;obtain⟨c27,hF⟩:=hF
    have w28:IntKind.i64.wrap ((i18:Int)+1)=(i18:Int)+1:=wrap_in (by omega) (by omega)
    repeat(first|refine chk.ga ?_|simp -dsimp[h20,z22,↓e24,h25,w28])
    refine Again.go _ ?_ ((ih_f88 (i18+1) (out19++[(⟨x23.data,x2.index⟩:Vl.Ty)]) o hF) _ rfl _ hq)
    exact(Gh.to3 (by simp) (by first|simp -dsimp[h20,z22,↓e24,h25,w28];done|simp_all))
   ·have hF:=oc hF;obtain⟨c29,hF⟩:=hF
    have w30:IntKind.i64.wrap ((i18:Int)+1)=(i18:Int)+1:=wrap_in (by omega) (by omega)
    repeat(first|refine chk.ga ?_|simp -dsimp[h20,z22,↓e24,h25,q26,w30])
    refine Again.go _ ?_ ((ih_f88 (i18+1) (out19++[x23]) o hF) _ rfl _ hq)
    exact(Gh.to3 (by simp) (by first|simp -dsimp[h20,z22,↓e24,h25,q26,w30];done|simp_all))
  ·have z22:¬((i18:Int)<(x2.args.length:Int)):=auz
   cases hF
   repeat(first|refine chk.ga ?_|simp -dsimp[h20,q21,z22])
   refine Leave.go _ (Gh.to3 (by simp) (by first|simp -dsimp[h20,q21,z22];done|simp_all)) hq
theorem C.f89 (w:List Vl.Data)(t:Vl.Ty)(ctor:Int)(r:List Vl.Ty)(hF:F.f89 w t ctor=some r):PureCall Try.prog B 32 [.arr (List.map Vl.Data.c w),.agg [.lit (.int .i64 t.data),.lit (.int .i64 t.index)],.lit (.int .i64 ctor)] (.arr (List.map Vl.Ty.c r)):=by
 unfold F.f89 at hF
 refine PureCall.enterLe Try.func32 (by kernel_rfl) rfl Try.ntmps32 (by simp) (by simp) ?_
 have hF:=ob hF;obtain⟨x,e1a,hF⟩:=hF
 have e1a:=at_some e1a;obtain⟨ne1,e1⟩:=e1a
 have le1:=lt_of_get e1
 have hF:=ob hF;obtain⟨x2,e3a,hF⟩:=hF
 have e3a:=at_some e3a;obtain⟨ne3,e3⟩:=e3a
 have le3:=lt_of_get e3
 repeat(first|refine chk.ga ?_|simp -dsimp[↓e1,↓e3])
 revert hF;refine abr.sp ?_ ?_<;>intro h4 q5 hF
 ·repeat(first|refine chk.ga ?_|simp -dsimp[↓e1,↓e3,h4])
  have hF:=ob hF;obtain⟨o',ho17,hF⟩:=hF
  refine ALoop.goU ⟨[(8,.lit (.int .i64 t.index)),(9,.own 2 (List.length (α:=Vl.Ty) [])),(28,.arr (List.map Vl.Ty.c x2.args)),(29,.lit (.int .i64 (x2.args.length:Int))),(30,.lit (.int .i64 (0:Int)))],[.dead,.dead,.elems 2 (List.map Vl.Ty.c [])]⟩ (by refine Gh.trans (Gh.nil 9 2 (by simp -dsimp)) ?_;exact(Gh.to3 (by simp) (by first|simp -dsimp[↓e1,↓e3,h4];done|simp_all))) ?_
  refine((CC.f87 B hB1 hB2 t x2) 0 [] o' ho17) _ rfl _ ?_
  cases hF
  repeat(first|refine chk.ga ?_|simp -dsimp)
  all_goals(try first|omega|rfl)
 ·repeat(first|refine chk.ga ?_|simp -dsimp[↓e1,↓e3,h4,q5])
  have hF:=ob hF;obtain⟨o'32,ho31,hF⟩:=hF
  refine ALoop.goU ⟨[(8,.lit (.int .i64 x2.index)),(9,.own 2 (List.length (α:=Vl.Ty) [])),(28,.arr (List.map Vl.Ty.c x2.args)),(29,.lit (.int .i64 (x2.args.length:Int))),(30,.lit (.int .i64 (0:Int)))],[.dead,.dead,.elems 2 (List.map Vl.Ty.c [])]⟩ (by refine Gh.trans (Gh.nil 9 2 (by simp -dsimp)) ?_;exact(Gh.to3 (by simp) (by first|simp -dsimp[↓e1,↓e3,h4,q5];done|simp_all))) ?_
  refine((CC.f88 B hB1 hB2 x2) 0 [] o'32 ho31) _ rfl _ ?_
  cases hF
  repeat(first|refine chk.ga ?_|simp -dsimp)
  all_goals(try first|omega|rfl)
theorem CC.f90 (w:List Vl.Data)(holes:Bool):(∀(t:Vl.Ty) (v:Vl.Value) (deep:Int) (count:Int) (r:Bool×Int),F.f90 w t v deep holes count=some r→MutCall Try.prog B 16 [.lit (.int .i64 count)] [.arr (List.map Vl.Data.c w),.agg [.lit (.int .i64 t.data),.lit (.int .i64 t.index)],.agg [.lit (.int .i64 v.ctor),.lit (.int .i64 v.n),.arr (List.map Vl.Value.c v.kids)],.lit (.int .i64 deep),.lit (.bool holes),.ptr 0 0] (.lit (.bool r.1)) [.lit (.int .i64 r.2)])∧
  (∀(v:Vl.Value) (deep:Int) (v60:List Vl.Ty) (z65:Int) (i66:Nat) (o:Lo (Bool×Int) Int),F.f92 w v deep holes v60 z65 i66=some o→∀(c:Code),navO [1,1,1,1,1,1,0,1,0,0] (bodyOf Try.f16)=some c→∀(Q:Exit→ASt→Prop),o.post (fun r=>∀st,Post Try.prog Try.f16 (fun r' σ'=>r'.le (.lit (.bool r.1))∧mcell σ' [.lit (.int .i64 r.2)]) .ret st→Q .ret st) (fun s=>Q (.exit 1) ⟨[],[.cells [.lit (.int .i64 s)]]⟩)→ALoopU Try.prog B 1 108 (hold c .mk) ⟨[(0,.arr (List.map Vl.Data.c w)),(3,.lit (.int .i64 deep)),(4,.lit (.bool holes)),(5,.ptr 0 0),(13,.arr (List.map Vl.Ty.c v60)),(88,.arr (List.map Vl.Value.c v.kids)),(89,.lit (.int .i64 (v.kids.length:Int))),(90,.lit (.int .i64 (i66:Int)))],[.cells [.lit (.int .i64 z65)]]⟩ (hold Q .mk))∧
  (∀(v:Vl.Value) (deep:Int) (v27:List Vl.Ty) (z:Int) (i:Nat) (o:Lo (Bool×Int) Int),F.f91 w v deep holes v27 z i=some o→∀(c:Code),navO [1,1,1,1,1,1,0,1,0,0] (bodyOf Try.f16)=some c→∀(Q:Exit→ASt→Prop),o.post (fun r=>∀st,Post Try.prog Try.f16 (fun r' σ'=>r'.le (.lit (.bool r.1))∧mcell σ' [.lit (.int .i64 r.2)]) .ret st→Q .ret st) (fun s=>Q (.exit 1) ⟨[],[.cells [.lit (.int .i64 s)]]⟩)→ALoopU Try.prog B 1 108 (hold c .mk) ⟨[(0,.arr (List.map Vl.Data.c w)),(3,.lit (.int .i64 deep)),(4,.lit (.bool holes)),(5,.ptr 0 0),(13,.arr (List.map Vl.Ty.c v27)),(88,.arr (List.map Vl.Value.c v.kids)),(89,.lit (.int .i64 (v.kids.length:Int))),(90,.lit (.int .i64 (i:Int)))],[.cells [.lit (.int .i64 z)]]⟩ (hold Q .mk)):=by
 refine F.f90.mutual_partial_correctness w holes
  _ _ _
  ?_ ?_ ?_
 ·intro _f_f92 _f_f91 ih_f92 ih_f91 t v deep count r hF
  refine MutCall.enter Try.func16 (by kernel_rfl) rfl Try.ntmps16 (by simp) (by simp) (by simp) (by simp) ?_
  repeat(first|refine chk.ga ?_|simp -dsimp)
  revert hF;refine abr.ns ?_ ?_<;>intro h1 q2 hF
  ·repeat(first|refine chk.ga ?_|simp -dsimp[h1,q2])
   revert hF;refine abr.sp ?_ ?_<;>intro h3 q4 hF
   ·cases hF
    repeat(first|refine chk.ga ?_|simp -dsimp[h1,q2,h3])
    all_goals(try first|omega|rfl)
   ·repeat(first|refine chk.ga ?_|simp -dsimp[h1,q2,h3,q4])
    revert hF;refine abr.sp (fun h5 q6 hF=> ?_) (fun h5 q6 hF=> ?_)
    ·repeat(first|refine chk.ga ?_|simp -dsimp[h1,q2,h3,q4,h5])
     revert hF;refine abr.sp ?_ ?_<;>intro h7 q8 hF
     ·repeat(first|refine chk.ga ?_|simp -dsimp[h1,q2,h3,q4,h5,h7])
      revert hF;refine abr.sp ?_ ?_<;>intro h9 q10 hF
      ·cases hF
       repeat(first|refine chk.ga ?_|simp -dsimp[h1,q2,h3,q4,h5,h7,h9])
       all_goals(try first|omega|rfl)
      ·cases hF
       repeat(first|refine chk.ga ?_|simp -dsimp[h1,q2,h3,q4,h5,h7,h9,q10])
       all_goals(try first|omega|rfl)
     ·repeat(first|refine chk.ga ?_|simp -dsimp[h1,q2,h3,q4,h5,h7,q8])
      revert hF;refine abr.sp ?_ ?_<;>intro h11 q12 hF
      ·repeat(first|refine chk.ga ?_|simp -dsimp[h1,q2,h3,q4,h5,h7,q8,h11])
       revert hF;refine abr.sp ?_ ?_<;>intro h13 q14 hF
       ·repeat(first|refine chk.ga ?_|simp -dsimp[h1,q2,h3,q4,h5,h7,q8,h11,h13])
        have hF:=ob hF;obtain⟨v15,e16,hF⟩:=hF
        refine((C.f68 B hB1 hB2 v.n (0:Int) (9:Int) v15 e16)).goW (by first|simp[h1,q2,h3,q4,h5,h7,q8,h11,h13];done|simp_all) (by simp) ?_
        repeat(first|refine chk.ga ?_|simp -dsimp[h1,q2,h3,q4,h5,h7,q8,h11,h13])
        revert hF;refine abr.sp (fun h17 q18 hF=> ?_) (fun h17 q18 hF=> ?_)
        ·cases hF
         repeat(first|refine chk.ga ?_|simp -dsimp[h1,q2,h3,q4,h5,h7,q8,h11,h13,h17])
         all_goals(try first|omega|rfl)
        ·cases hF
         repeat(first|refine chk.ga ?_|simp -dsimp[h1,q2,h3,q4,h5,h7,q8,h11,h13,h17,q18])
         all_goals(try first|omega|rfl)
       ·cases hF
        repeat(first|refine chk.ga ?_|simp -dsimp[h1,q2,h3,q4,h5,h7,q8,h11,h13,q14])
        all_goals(try first|omega|rfl)
      ·repeat(first|refine chk.ga ?_|simp -dsimp[h1,q2,h3,q4,h5,h7,q8,h11,q12])
       refine ADraw.simple follows (by kernel_rfl) (by kernel_rfl) ?_
       repeat(first|refine chk.ga ?_|simp -dsimp[h1,q2,h3,q4,h5,h7,q8,h11,q12])
       revert hF;refine abr.sp ?_ ?_<;>intro h19 q20 hF
       ·repeat(first|refine chk.ga ?_|simp -dsimp[h1,q2,h3,q4,h5,h7,q8,h11,q12,h19])
        have hF:=ob hF;obtain⟨v21,e22,hF⟩:=hF
        refine((C.f83 B hB1 hB2 w t v21 e22)).pgoW (by first|simp[h1,q2,h3,q4,h5,h7,q8,h11,q12,h19];done|simp_all) (by simp) ?_
        repeat(first|refine chk.ga ?_|simp -dsimp[h1,q2,h3,q4,h5,h7,q8,h11,q12,h19])
        have hF:=ob hF;obtain⟨v23,e24,hF⟩:=hF
        refine((C.f86 B hB1 hB2 v21 v.ctor v23 e24)).pgoW (by first|simp[h1,q2,h3,q4,h5,h7,q8,h11,q12,h19];done|simp_all) (by simp) ?_
        repeat(first|refine chk.ga ?_|simp -dsimp[h1,q2,h3,q4,h5,h7,q8,h11,q12,h19])
        revert hF;refine abr.ns (fun h25 q26 hF=> ?_) (fun h25 q26 hF=> ?_)
        ·cases hF
         repeat(first|refine chk.ga ?_|simp -dsimp[h1,q2,h3,q4,h5,h7,q8,h11,q12,h19,h25,q26])
         all_goals(try first|omega|rfl)
        ·repeat(first|refine chk.ga ?_|simp -dsimp[h1,q2,h3,q4,h5,h7,q8,h11,q12,h19,h25,q26])
         have hF:=ob hF;obtain⟨v27,e28,hF⟩:=hF
         refine((C.f89 B hB1 hB2 w t v.ctor v27 e28)).goW (by first|simp[h1,q2,h3,q4,h5,h7,q8,h11,q12,h19,h25,q26];done|simp_all) (by simp) ?_
         repeat(first|refine chk.ga ?_|simp -dsimp[h1,q2,h3,q4,h5,h7,q8,h11,q12,h19,h25,q26])
         revert hF;refine abr.ns ?_ ?_<;>intro h29 q30 hF
         ·have z31:¬((v27.length:Int)=(v.kids.length:Int)):=auz
          cases hF
          repeat(first|refine chk.ga ?_|simp -dsimp[h1,q2,h3,q4,h5,h7,q8,h11,q12,h19,h25,q26,h29,q30,z31])
          all_goals(try first|omega|rfl)
         ·have z31:((v27.length:Int)=(v.kids.length:Int)):=auz
          repeat(first|refine chk.ga ?_|simp -dsimp[h1,q2,h3,q4,h5,h7,q8,h11,q12,h19,h25,q26,h29,q30,z31])
          have hF:=ob hF;obtain⟨o',ho43,hF⟩:=hF
          refine ALoop.goU _ ?_ ((ih_f91 v deep v27 (IntKind.i64.wrap (count+1)) 0 o' ho43) _ rfl _ ?_)
          ·exact(Gh.to3 (by simp) (by first|simp -dsimp[h1,q2,h3,q4,h5,h7,q8,h11,q12,h19,h25,q26,h29,q30,z31];done|simp_all))
          rcases o' with r0|sx
          ·dsimp only at hF
           cases hF
           intro st h
           simpa using h
          ·dsimp only at hF
           cases hF
           repeat(first|refine chk.ga ?_|simp -dsimp)
           all_goals(try first|omega|rfl)
       ·cases hF
        repeat(first|refine chk.ga ?_|simp -dsimp[h1,q2,h3,q4,h5,h7,q8,h11,q12,h19,q20])
        all_goals(try first|omega|rfl)
    ·repeat(first|refine chk.ga ?_|simp -dsimp[h1,q2,h3,q4,h5,q6])
     revert hF;refine abr.sp ?_ ?_<;>intro h44 q45 hF
     ·repeat(first|refine chk.ga ?_|simp -dsimp[h1,q2,h3,q4,h5,q6,h44])
      revert hF;refine abr.sp ?_ ?_<;>intro h46 q47 hF
      ·repeat(first|refine chk.ga ?_|simp -dsimp[h1,q2,h3,q4,h5,q6,h44,h46])
       have hF:=ob hF;obtain⟨v48,e49,hF⟩:=hF
       refine((C.f68 B hB1 hB2 v.n (0:Int) (9:Int) v48 e49)).goW (by first|simp[h1,q2,h3,q4,h5,q6,h44,h46];done|simp_all) (by simp) ?_
       repeat(first|refine chk.ga ?_|simp -dsimp[h1,q2,h3,q4,h5,q6,h44,h46])
       revert hF;refine abr.sp (fun h50 q51 hF=> ?_) (fun h50 q51 hF=> ?_)
       ·cases hF
        repeat(first|refine chk.ga ?_|simp -dsimp[h1,q2,h3,q4,h5,q6,h44,h46,h50])
        all_goals(try first|omega|rfl)
       ·cases hF
        repeat(first|refine chk.ga ?_|simp -dsimp[h1,q2,h3,q4,h5,q6,h44,h46,h50,q51])
        all_goals(try first|omega|rfl)
      ·cases hF
       repeat(first|refine chk.ga ?_|simp -dsimp[h1,q2,h3,q4,h5,q6,h44,h46,q47])
       all_goals(try first|omega|rfl)
     ·repeat(first|refine chk.ga ?_|simp -dsimp[h1,q2,h3,q4,h5,q6,h44,q45])
      refine ADraw.simple follows (by kernel_rfl) (by kernel_rfl) ?_
      repeat(first|refine chk.ga ?_|simp -dsimp[h1,q2,h3,q4,h5,q6,h44,q45])
      revert hF;refine abr.sp ?_ ?_<;>intro h52 q53 hF
      ·repeat(first|refine chk.ga ?_|simp -dsimp[h1,q2,h3,q4,h5,q6,h44,q45,h52])
       have hF:=ob hF;obtain⟨v54,e55,hF⟩:=hF
       refine((C.f83 B hB1 hB2 w t v54 e55)).pgoW (by first|simp[h1,q2,h3,q4,h5,q6,h44,q45,h52];done|simp_all) (by simp) ?_
       repeat(first|refine chk.ga ?_|simp -dsimp[h1,q2,h3,q4,h5,q6,h44,q45,h52])
       have hF:=ob hF;obtain⟨v56,e57,hF⟩:=hF
       refine((C.f86 B hB1 hB2 v54 v.ctor v56 e57)).pgoW (by first|simp[h1,q2,h3,q4,h5,q6,h44,q45,h52];done|simp_all) (by simp) ?_
       repeat(first|refine chk.ga ?_|simp -dsimp[h1,q2,h3,q4,h5,q6,h44,q45,h52])
       revert hF;refine abr.ns (fun h58 q59 hF=> ?_) (fun h58 q59 hF=> ?_)
       ·cases hF
        repeat(first|refine chk.ga ?_|simp -dsimp[h1,q2,h3,q4,h5,q6,h44,q45,h52,h58,q59])
        all_goals(try first|omega|rfl)
       ·repeat(first|refine chk.ga ?_|simp -dsimp[h1,q2,h3,q4,h5,q6,h44,q45,h52,h58,q59])
        have hF:=ob hF;obtain⟨v60,e61,hF⟩:=hF
        refine((C.f89 B hB1 hB2 w t v.ctor v60 e61)).goW (by first|simp[h1,q2,h3,q4,h5,q6,h44,q45,h52,h58,q59];done|simp_all) (by simp) ?_
        repeat(first|refine chk.ga ?_|simp -dsimp[h1,q2,h3,q4,h5,q6,h44,q45,h52,h58,q59])
        revert hF;refine abr.ns ?_ ?_<;>intro h62 q63 hF
        ·have z64:¬((v60.length:Int)=(v.kids.length:Int)):=auz
         cases hF
         repeat(first|refine chk.ga ?_|simp -dsimp[h1,q2,h3,q4,h5,q6,h44,q45,h52,h58,q59,h62,q63,z64])
         all_goals(try first|omega|rfl)
        ·have z64:((v60.length:Int)=(v.kids.length:Int)):=auz
         repeat(first|refine chk.ga ?_|simp -dsimp[h1,q2,h3,q4,h5,q6,h44,q45,h52,h58,q59,h62,q63,z64])
         have hF:=ob hF;obtain⟨o'80,ho79,hF⟩:=hF
         refine ALoop.goU _ ?_ ((ih_f92 v deep v60 (IntKind.i64.wrap (count+1)) 0 o'80 ho79) _ rfl _ ?_)
         ·exact(Gh.to3 (by simp) (by first|simp -dsimp[h1,q2,h3,q4,h5,q6,h44,q45,h52,h58,q59,h62,q63,z64];done|simp_all))
         rcases o'80 with r082|sx81
         ·dsimp only at hF
          cases hF
          intro st h
          simpa using h
         ·dsimp only at hF
          cases hF
          repeat(first|refine chk.ga ?_|simp -dsimp)
          all_goals(try first|omega|rfl)
      ·cases hF
       repeat(first|refine chk.ga ?_|simp -dsimp[h1,q2,h3,q4,h5,q6,h44,q45,h52,q53])
       all_goals(try first|omega|rfl)
  ·cases hF
   repeat(first|refine chk.ga ?_|simp -dsimp[h1,q2])
   all_goals(try first|omega|rfl)
 ·intro _f_f90 _f_f92 ih_f90 ih_f92 v deep v60 z65 i66 o hF
  intro c hc Q hq
  obtain rfl:c=_:=navEq hc rfl
  refine ALoopU.know fun hk hs=> ?_
  have b0:=hk 0
  simp -dsimp at b0
  have b13:=hk 13
  simp -dsimp at b13
  have b88:=hk 88
  simp -dsimp at b88
  clear hk hs
  refine ALoopU.enter ?_
  repeat(first|refine chk.ga ?_|simp -dsimp)
  revert hF;refine abr.sp ?_ ?_<;>intro h67 q68 hF
  ·have z69:((i66:Int)<(v.kids.length:Int)):=auz
   have hF:=ob hF;obtain⟨x70,e71,hF⟩:=hF
   have le71:=lt_of_get e71
   repeat(first|refine chk.ga ?_|simp -dsimp[h67,z69,↓e71])
   refine ADraw.eff [16] [(0,0),(0,0),(0,0),(0,0),(0,0),(0,0),(0,0),(0,0),(0,0),(0,0),(0,1),(1,1)] [1,1,1,1,1,1,1,1,1,1,1,1] follows (by kernel_rfl) (by kernel_rfl) (by kernel_rfl) ?_
   have hF:=ob hF;obtain⟨x72,e73,hF⟩:=hF
   have le73:=lt_of_get e73
   repeat(first|refine chk.ga ?_|simp -dsimp[h67,z69,↓e71,↓e73])
   have hF:=ob hF;obtain⟨v74,e75,hF⟩:=hF
   refine((ih_f90 x72 x70 (IntKind.i64.wrap (deep+1)) z65 v74 e75)).ego 0 rfl (by first|simp[h67,z69,↓e71,↓e73];done|simp_all) (by simp) (by first|simp[h67,z69,↓e71,↓e73];done|simp_all) ?_
   repeat(first|refine chk.ga ?_|simp -dsimp[h67,z69,↓e71,↓e73])
   revert hF;refine abr.ns (fun h76 q77 hF=> ?_) (fun h76 q77 hF=> ?_)
   ·cases hF
    repeat(first|refine chk.ga ?_|simp -dsimp[h67,z69,↓e71,↓e73,h76,q77])
    refine Leave.go _ (Gh.refl _) (hq _ ?_)
    repeat(first|refine chk.ga ?_|simp -dsimp[h67,z69,↓e71,↓e73,h76,q77])
   ·have w78:IntKind.i64.wrap ((i66:Int)+1)=(i66:Int)+1:=wrap_in (by omega) (by omega)
    repeat(first|refine chk.ga ?_|simp -dsimp[h67,z69,↓e71,↓e73,h76,q77,w78])
    refine Again.go _ ?_ ((ih_f92 v deep v60 v74.2 (i66+1) o hF) _ rfl _ hq)
    exact(Gh.to3 (by simp) (by first|simp -dsimp[h67,z69,↓e71,↓e73,h76,q77,w78];done|simp_all))
  ·have z69:¬((i66:Int)<(v.kids.length:Int)):=auz
   cases hF
   repeat(first|refine chk.ga ?_|simp -dsimp[h67,q68,z69])
   refine Leave.go _ (Gh.to3 (by simp) (by first|simp -dsimp[h67,q68,z69];done|simp_all)) hq
 ·intro _f_f90 _f_f91 ih_f90 ih_f91 v deep v27 z i o hF
  intro c hc Q hq
  obtain rfl:c=_:=navEq hc rfl
  refine ALoopU.know fun hk hs=> ?_
  have b0:=hk 0
  simp -dsimp at b0
  have b13:=hk 13
  simp -dsimp at b13
  have b88:=hk 88
  simp -dsimp at b88
  clear hk hs
  refine ALoopU.enter ?_
  repeat(first|refine chk.ga ?_|simp -dsimp)
  revert hF;refine abr.sp ?_ ?_<;>intro h32 q33 hF
  ·have z34:((i:Int)<(v.kids.length:Int)):=auz
   have hF:=ob hF;obtain⟨x,e35,hF⟩:=hF
   have le35:=lt_of_get e35
   repeat(first|refine chk.ga ?_|simp -dsimp[h32,z34,↓e35])
   refine ADraw.eff [16] [(0,0),(0,0),(0,0),(0,0),(0,0),(0,0),(0,0),(0,0),(0,0),(0,0),(0,1),(1,1)] [1,1,1,1,1,1,1,1,1,1,1,1] follows (by kernel_rfl) (by kernel_rfl) (by kernel_rfl) ?_
   have hF:=ob hF;obtain⟨x36,e37,hF⟩:=hF
   have le37:=lt_of_get e37
   repeat(first|refine chk.ga ?_|simp -dsimp[h32,z34,↓e35,↓e37])
   have hF:=ob hF;obtain⟨v38,e39,hF⟩:=hF
   refine((ih_f90 x36 x (IntKind.i64.wrap (deep+1)) z v38 e39)).ego 0 rfl (by first|simp[h32,z34,↓e35,↓e37];done|simp_all) (by simp) (by first|simp[h32,z34,↓e35,↓e37];done|simp_all) ?_
   repeat(first|refine chk.ga ?_|simp -dsimp[h32,z34,↓e35,↓e37])
   revert hF;refine abr.ns (fun h40 q41 hF=> ?_) (fun h40 q41 hF=> ?_)
   ·cases hF
    repeat(first|refine chk.ga ?_|simp -dsimp[h32,z34,↓e35,↓e37,h40,q41])
    refine Leave.go _ (Gh.refl _) (hq _ ?_)
    repeat(first|refine chk.ga ?_|simp -dsimp[h32,z34,↓e35,↓e37,h40,q41])
   ·have w42:IntKind.i64.wrap ((i:Int)+1)=(i:Int)+1:=wrap_in (by omega) (by omega)
    repeat(first|refine chk.ga ?_|simp -dsimp[h32,z34,↓e35,↓e37,h40,q41,w42])
    refine Again.go _ ?_ ((ih_f91 v deep v27 v38.2 (i+1) o hF) _ rfl _ hq)
    exact(Gh.to3 (by simp) (by first|simp -dsimp[h32,z34,↓e35,↓e37,h40,q41,w42];done|simp_all))
  ·have z34:¬((i:Int)<(v.kids.length:Int)):=auz
   cases hF
   repeat(first|refine chk.ga ?_|simp -dsimp[h32,q33,z34])
   refine Leave.go _ (Gh.to3 (by simp) (by first|simp -dsimp[h32,q33,z34];done|simp_all)) hq
theorem C.f93 (w:List Vl.Data)(t:Vl.Ty)(v:Vl.Value)(r:Bool)(hF:F.f93 w t v=some r):PureCall Try.prog B 5 [.arr (List.map Vl.Data.c w),.agg [.lit (.int .i64 t.data),.lit (.int .i64 t.index)],.agg [.lit (.int .i64 v.ctor),.lit (.int .i64 v.n),.arr (List.map Vl.Value.c v.kids)]] (.lit (.bool r)):=by
 unfold F.f93 at hF
 refine PureCall.enterLe Try.func5 (by kernel_rfl) rfl Try.ntmps5 (by simp) (by simp) ?_
 repeat(first|refine chk.ga ?_|simp -dsimp)
 have hF:=ob hF;obtain⟨v1,e2,hF⟩:=hF
 refine((C.f81 B hB1 hB2 w t v1 e2)).goW (by simp) (by simp) ?_
 repeat(first|refine chk.ga ?_|simp -dsimp)
 revert hF;refine abr.sp (fun h3 q4 hF=> ?_) (fun h3 q4 hF=> ?_)
 ·repeat(first|refine chk.ga ?_|simp -dsimp[h3])
  have hF:=ob hF;obtain⟨v5,e6,hF⟩:=hF
  refine(((CC.f90 B hB1 hB2 w true).1 t v (1:Int) (0:Int) v5 e6)).go 2 rfl (by first|simp[h3];done|simp_all) (by simp) (by first|simp[h3];done|simp_all) ?_
  cases hF
  repeat(first|refine chk.ga ?_|simp -dsimp[h3])
  all_goals(try first|omega|rfl)
 ·cases hF
  repeat(first|refine chk.ga ?_|simp -dsimp[h3,q4])
  all_goals(try first|omega|rfl)
theorem C.f94 (w:List Vl.Data)(t:Vl.Ty)(r:Bool)(hF:F.f94 w t=some r):PureCall Try.prog B 34 [.arr (List.map Vl.Data.c w),.agg [.lit (.int .i64 t.data),.lit (.int .i64 t.index)]] (.lit (.bool r)):=by
 unfold F.f94 at hF
 refine PureCall.enterLe Try.func34 (by kernel_rfl) rfl Try.ntmps34 (by simp) (by simp) ?_
 repeat(first|refine chk.ga ?_|simp -dsimp)
 have hF:=ob hF;obtain⟨v,e1,hF⟩:=hF
 refine((C.f15 B hB1 hB2 (w.length:Int) t v e1)).goW (by simp) (by simp) ?_
 repeat(first|refine chk.ga ?_|simp -dsimp)
 revert hF;refine abr.sp (fun h2 q3 hF=> ?_) (fun h2 q3 hF=> ?_)
 ·cases hF
  repeat(first|refine chk.ga ?_|simp -dsimp[h2])
  all_goals(try first|omega|rfl)
 ·cases hF
  repeat(first|refine chk.ga ?_|simp -dsimp[h2,q3])
  all_goals(try first|omega|rfl)
theorem C.f95 (w:List Vl.Data)(t:Vl.Ty)(r:Bool)(hF:F.f95 w t=some r):PureCall Try.prog B 17 [.arr (List.map Vl.Data.c w),.agg [.lit (.int .i64 t.data),.lit (.int .i64 t.index)]] (.lit (.bool r)):=by
 unfold F.f95 at hF
 refine PureCall.enterLe Try.func17 (by kernel_rfl) rfl Try.ntmps17 (by simp) (by simp) ?_
 repeat(first|refine chk.ga ?_|simp -dsimp)
 have hF:=ob hF;obtain⟨v,e1,hF⟩:=hF
 refine((C.f24 B hB1 hB2 w v e1)).goW (by simp) (by simp) ?_
 repeat(first|refine chk.ga ?_|simp -dsimp)
 revert hF;refine abr.sp (fun h2 q3 hF=> ?_) (fun h2 q3 hF=> ?_)
 ·repeat(first|refine chk.ga ?_|simp -dsimp[h2])
  have hF:=ob hF;obtain⟨v4,e5,hF⟩:=hF
  refine((C.f94 B hB1 hB2 w t v4 e5)).goW (by first|simp[h2];done|simp_all) (by simp) ?_
  cases hF
  repeat(first|refine chk.ga ?_|simp -dsimp[h2])
  all_goals(try first|omega|rfl)
 ·cases hF
  repeat(first|refine chk.ga ?_|simp -dsimp[h2,q3])
  all_goals(try first|omega|rfl)
theorem C.f96 (v:Vl.Value)(r:Bool)(hF:F.f96 v=some r):PureCall Try.prog B 49 [.agg [.lit (.int .i64 v.ctor),.lit (.int .i64 v.n),.arr (List.map Vl.Value.c v.kids)]] (.lit (.bool r)):=by
 unfold F.f96 at hF
 refine PureCall.enterLe Try.func49 (by kernel_rfl) rfl Try.ntmps49 (by simp) (by simp) ?_
 repeat(first|refine chk.ga ?_|simp -dsimp)
 revert hF;refine abr.sp ?_ ?_<;>intro h1 q2 hF
 ·repeat(first|refine chk.ga ?_|simp -dsimp[h1])
  revert hF;refine abr.sp ?_ ?_<;>intro h3 q4 hF
  ·cases hF
   repeat(first|refine chk.ga ?_|simp -dsimp[h1,h3])
   all_goals(try first|omega|rfl)
  ·cases hF
   repeat(first|refine chk.ga ?_|simp -dsimp[h1,h3,q4])
   all_goals(try first|omega|rfl)
 ·cases hF
  repeat(first|refine chk.ga ?_|simp -dsimp[h1,q2])
  all_goals(try first|omega|rfl)
theorem CC.f97 (list:List Int)(n:Int):(∀(i:Nat) (o:Lo Bool Unit),F.f97 list n i=some o→∀(c:Code),navO [1,0,1,0,0] (bodyOf Try.f51)=some c→∀(Q:Exit→ASt→Prop),o.post (fun r=>∀st,Post Try.prog Try.f51 (fun r' _=>r'.le (.lit (.bool r))) .ret st→Q .ret st) (fun s=>Q (.exit 0) ⟨[],[]⟩)→ALoopU Try.prog B 0 18 (hold c .mk) ⟨[(0,.arr (List.map cI list)),(1,.lit (.int .i64 n)),(5,.lit (.int .i64 (i:Int)))],[]⟩ (hold Q .mk)):=by
 refine F.f97.partial_correctness list n
  _
  ?_
 ·intro _f_f97 ih_f97 i o hF
  intro c hc Q hq
  obtain rfl:c=_:=navEq hc rfl
  refine ALoopU.know fun hk hs=> ?_
  have b0:=hk 0
  simp -dsimp at b0
  clear hk hs
  refine ALoopU.enter ?_
  repeat(first|refine chk.ga ?_|simp -dsimp)
  revert hF;refine abr.sp ?_ ?_<;>intro h1 q2 hF
  ·have z3:((i:Int)<(list.length:Int)):=auz
   have hF:=ob hF;obtain⟨x,e4,hF⟩:=hF
   have le4:=lt_of_get e4
   repeat(first|refine chk.ga ?_|simp -dsimp[h1,z3,↓e4])
   revert hF;refine abr.sp ?_ ?_<;>intro h5 q6 hF
   ·cases hF
    repeat(first|refine chk.ga ?_|simp -dsimp[h1,z3,↓e4,h5])
    refine Leave.go _ (Gh.refl _) (hq _ ?_)
    repeat(first|refine chk.ga ?_|simp -dsimp[h1,z3,↓e4,h5])
   ·have w7:IntKind.i64.wrap ((i:Int)+1)=(i:Int)+1:=wrap_in (by omega) (by omega)
    repeat(first|refine chk.ga ?_|simp -dsimp[h1,z3,↓e4,h5,q6,w7])
    refine Again.go _ ?_ ((ih_f97 (i+1) o hF) _ rfl _ hq)
    exact(Gh.to3 (by simp) (by first|simp -dsimp[h1,z3,↓e4,h5,q6,w7];done|simp_all))
  ·have z3:¬((i:Int)<(list.length:Int)):=auz
   cases hF
   repeat(first|refine chk.ga ?_|simp -dsimp[h1,q2,z3])
   refine Leave.go _ (Gh.to3 (by simp) (by first|simp -dsimp[h1,q2,z3];done|simp_all)) hq
theorem C.f98 (list:List Int)(n:Int)(r:Bool)(hF:F.f98 list n=some r):PureCall Try.prog B 51 [.arr (List.map cI list),.lit (.int .i64 n)] (.lit (.bool r)):=by
 unfold F.f98 at hF
 refine PureCall.enterLe Try.func51 (by kernel_rfl) rfl Try.ntmps51 (by simp) (by simp) ?_
 repeat(first|refine chk.ga ?_|simp -dsimp)
 have hF:=ob hF;obtain⟨o',ho8,hF⟩:=hF
 refine ALoop.goU _ ?_ (((CC.f97 B hB1 hB2 list n) 0 o' ho8) _ rfl _ ?_)
 ·exact(Gh.to3 (by simp) (by simp -dsimp))
 rcases o' with r0|sx
 ·dsimp only at hF
  cases hF
  intro st h
  simpa using h
 ·dsimp only at hF
  cases hF
  repeat(first|refine chk.ga ?_|simp -dsimp)
  all_goals(try first|omega|rfl)
theorem CC.f99 (w:List Vl.Data):(∀(t:Vl.Ty) (v:Vl.Value) (depth:Int) (r:Bool),F.f99 w t v depth=some r→PureCall Try.prog B 50 [.arr (List.map Vl.Data.c w),.agg [.lit (.int .i64 t.data),.lit (.int .i64 t.index)],.agg [.lit (.int .i64 v.ctor),.lit (.int .i64 v.n),.arr (List.map Vl.Value.c v.kids)],.lit (.int .i64 depth)] (.lit (.bool r)))∧
  (∀(v:Vl.Value) (depth:Int) (v19:List Vl.Ty) (i:Nat) (o:Lo Bool Unit),F.f100 w v depth v19 i=some o→∀(c:Code),navO [1,1,1,1,1,1,0,1,0,0] (bodyOf Try.f50)=some c→∀(Q:Exit→ASt→Prop),o.post (fun r=>∀st,Post Try.prog Try.f50 (fun r' _=>r'.le (.lit (.bool r))) .ret st→Q .ret st) (fun s=>Q (.exit 0) ⟨[],[]⟩)→ALoopU Try.prog B 0 78 (hold c .mk) ⟨[(0,.arr (List.map Vl.Data.c w)),(3,.lit (.int .i64 depth)),(6,.ptr 1 0),(9,.arr (List.map Vl.Ty.c v19)),(10,.lit (.int .i64 (i:Int)))],[.dead,.cells [.lit (.int .i64 v.ctor),.lit (.int .i64 v.n),.arr (List.map Vl.Value.c v.kids)]]⟩ (hold Q .mk)):=by
 refine F.f99.mutual_partial_correctness w
  _ _
  ?_ ?_
 ·intro _f_f100 ih_f100 t v depth r hF
  refine PureCall.enterLe Try.func50 (by kernel_rfl) rfl Try.ntmps50 (by simp) (by simp) ?_
  repeat(first|refine chk.ga ?_|simp -dsimp)
  revert hF;refine abr.sp ?_ ?_<;>intro h1 q2 hF
  ·cases hF
   repeat(first|refine chk.ga ?_|simp -dsimp[h1])
   all_goals(try first|omega|rfl)
  ·repeat(first|refine chk.ga ?_|simp -dsimp[h1,q2])
   revert hF;refine abr.sp ?_ ?_<;>intro h3 q4 hF
   ·repeat(first|refine chk.ga ?_|simp -dsimp[h1,q2,h3])
    revert hF;refine abr.sp ?_ ?_<;>intro h5 q6 hF
    ·repeat(first|refine chk.ga ?_|simp -dsimp[h1,q2,h3,h5])
     revert hF;refine abr.sp ?_ ?_<;>intro h7 q8 hF
     ·repeat(first|refine chk.ga ?_|simp -dsimp[h1,q2,h3,h5,h7])
      revert hF;refine abr.sp ?_ ?_<;>intro h9 q10 hF
      ·cases hF
       repeat(first|refine chk.ga ?_|simp -dsimp[h1,q2,h3,h5,h7,h9])
       all_goals(try first|omega|rfl)
      ·cases hF
       repeat(first|refine chk.ga ?_|simp -dsimp[h1,q2,h3,h5,h7,h9,q10])
       all_goals(try first|omega|rfl)
     ·cases hF
      repeat(first|refine chk.ga ?_|simp -dsimp[h1,q2,h3,h5,h7,q8])
      all_goals(try first|omega|rfl)
    ·cases hF
     repeat(first|refine chk.ga ?_|simp -dsimp[h1,q2,h3,h5,q6])
     all_goals(try first|omega|rfl)
   ·repeat(first|refine chk.ga ?_|simp -dsimp[h1,q2,h3,q4])
    refine ADraw.simple follows (by kernel_rfl) (by kernel_rfl) ?_
    repeat(first|refine chk.ga ?_|simp -dsimp[h1,q2,h3,q4])
    revert hF;refine abr.sp ?_ ?_<;>intro h11 q12 hF
    ·repeat(first|refine chk.ga ?_|simp -dsimp[h1,q2,h3,q4,h11])
     have hF:=ob hF;obtain⟨v13,e14,hF⟩:=hF
     refine((C.f42 B hB1 hB2 w t v13 e14)).pgoW (by first|simp[h1,q2,h3,q4,h11];done|simp_all) (by simp) ?_
     repeat(first|refine chk.ga ?_|simp -dsimp[h1,q2,h3,q4,h11])
     have hF:=ob hF;obtain⟨v15,e16,hF⟩:=hF
     refine((C.f98 B hB1 hB2 v13 v.ctor v15 e16)).pgoW (by first|simp[h1,q2,h3,q4,h11];done|simp_all) (by simp) ?_
     repeat(first|refine chk.ga ?_|simp -dsimp[h1,q2,h3,q4,h11])
     revert hF;refine abr.ns (fun h17 q18 hF=> ?_) (fun h17 q18 hF=> ?_)
     ·cases hF
      repeat(first|refine chk.ga ?_|simp -dsimp[h1,q2,h3,q4,h11,h17,q18])
      all_goals(try first|omega|rfl)
     ·repeat(first|refine chk.ga ?_|simp -dsimp[h1,q2,h3,q4,h11,h17,q18])
      have hF:=ob hF;obtain⟨v19,e20,hF⟩:=hF
      refine((C.f45 B hB1 hB2 w t v.ctor v19 e20)).goW (by first|simp[h1,q2,h3,q4,h11,h17,q18];done|simp_all) (by simp) ?_
      repeat(first|refine chk.ga ?_|simp -dsimp[h1,q2,h3,q4,h11,h17,q18])
      revert hF;refine abr.ns ?_ ?_<;>intro h21 q22 hF
      ·have z23:¬((v.kids.length:Int)=(v19.length:Int)):=auz
       cases hF
       repeat(first|refine chk.ga ?_|simp -dsimp[h1,q2,h3,q4,h11,h17,q18,h21,q22,z23])
       all_goals(try first|omega|rfl)
      ·have z23:((v.kids.length:Int)=(v19.length:Int)):=auz
       repeat(first|refine chk.ga ?_|simp -dsimp[h1,q2,h3,q4,h11,h17,q18,h21,q22,z23])
       have hF:=ob hF;obtain⟨o',ho35,hF⟩:=hF
       refine ALoop.goU _ ?_ ((ih_f100 v depth v19 0 o' ho35) _ rfl _ ?_)
       ·exact(Gh.to3 (by simp) (by first|simp -dsimp[h1,q2,h3,q4,h11,h17,q18,h21,q22,z23];done|simp_all))
       rcases o' with r0|sx
       ·dsimp only at hF
        cases hF
        intro st h
        simpa using h
       ·dsimp only at hF
        cases hF
        repeat(first|refine chk.ga ?_|simp -dsimp)
        all_goals(try first|omega|rfl)
    ·cases hF
     repeat(first|refine chk.ga ?_|simp -dsimp[h1,q2,h3,q4,h11,q12])
     all_goals(try first|omega|rfl)
 ·intro _f_f99 _f_f100 ih_f99 ih_f100 v depth v19 i o hF
  intro c hc Q hq
  obtain rfl:c=_:=navEq hc rfl
  refine ALoopU.know fun hk hs=> ?_
  have b0:=hk 0
  simp -dsimp at b0
  have b9:=hk 9
  simp -dsimp at b9
  have d1:=hs 1 _ rfl
  simp -dsimp[Blk.bnd]at d1
  clear hk hs
  refine ALoopU.enter ?_
  repeat(first|refine chk.ga ?_|simp -dsimp)
  revert hF;refine abr.sp ?_ ?_<;>intro h24 q25 hF
  ·have z26:((i:Int)<(v19.length:Int)):=auz
   repeat(first|refine chk.ga ?_|simp -dsimp[h24,z26])
   refine ADraw.simple follows (by kernel_rfl) (by kernel_rfl) ?_
   have hF:=ob hF;obtain⟨x,e27,hF⟩:=hF
   have le27:=lt_of_get e27
   have hF:=ob hF;obtain⟨x28,e29,hF⟩:=hF
   have le29:=lt_of_get e29
   repeat(first|refine chk.ga ?_|simp -dsimp[h24,z26,↓e27,↓e29])
   have hF:=ob hF;obtain⟨v30,e31,hF⟩:=hF
   refine((ih_f99 x x28 (IntKind.i64.wrap (depth-1)) v30 e31)).pgoW (by first|simp[h24,z26,↓e27,↓e29];done|simp_all) (by simp) ?_
   repeat(first|refine chk.ga ?_|simp -dsimp[h24,z26,↓e27,↓e29])
   revert hF;refine abr.ns (fun h32 q33 hF=> ?_) (fun h32 q33 hF=> ?_)
   ·cases hF
    repeat(first|refine chk.ga ?_|simp -dsimp[h24,z26,↓e27,↓e29,h32,q33])
    refine Leave.go _ (Gh.refl _) (hq _ ?_)
    repeat(first|refine chk.ga ?_|simp -dsimp[h24,z26,↓e27,↓e29,h32,q33])
   ·have w34:IntKind.i64.wrap ((i:Int)+1)=(i:Int)+1:=wrap_in (by omega) (by omega)
    repeat(first|refine chk.ga ?_|simp -dsimp[h24,z26,↓e27,↓e29,h32,q33,w34])
    refine Again.go _ ?_ ((ih_f100 v depth v19 (i+1) o hF) _ rfl _ hq)
    exact(Gh.to3 (by simp) (by first|simp -dsimp[h24,z26,↓e27,↓e29,h32,q33,w34];done|simp_all))
  ·have z26:¬((i:Int)<(v19.length:Int)):=auz
   cases hF
   repeat(first|refine chk.ga ?_|simp -dsimp[h24,q25,z26])
   refine Leave.go _ (Gh.to3 (by simp) (by first|simp -dsimp[h24,q25,z26];done|simp_all)) hq
theorem CC.f101 (w:List Vl.Data):(∀(t:Vl.Ty) (v:Vl.Value) (depth:Int) (r:Bool),F.f101 w t v depth=some r→PureCall Try.prog B 35 [.arr (List.map Vl.Data.c w),.agg [.lit (.int .i64 t.data),.lit (.int .i64 t.index)],.agg [.lit (.int .i64 v.ctor),.lit (.int .i64 v.n),.arr (List.map Vl.Value.c v.kids)],.lit (.int .i64 depth)] (.lit (.bool r)))∧
  (∀(v:Vl.Value) (depth:Int) (v19:List Vl.Ty) (i:Nat) (o:Lo Bool Unit),F.f102 w v depth v19 i=some o→∀(c:Code),navO [1,1,1,1,1,1,1,0,1,0,0] (bodyOf Try.f35)=some c→∀(Q:Exit→ASt→Prop),o.post (fun r=>∀st,Post Try.prog Try.f35 (fun r' _=>r'.le (.lit (.bool r))) .ret st→Q .ret st) (fun s=>Q (.exit 0) ⟨[],[]⟩)→ALoopU Try.prog B 0 69 (hold c .mk) ⟨[(0,.arr (List.map Vl.Data.c w)),(3,.lit (.int .i64 depth)),(6,.ptr 1 0),(9,.arr (List.map Vl.Ty.c v19)),(10,.lit (.int .i64 (i:Int)))],[.dead,.cells [.lit (.int .i64 v.ctor),.lit (.int .i64 v.n),.arr (List.map Vl.Value.c v.kids)]]⟩ (hold Q .mk)):=by
 refine F.f101.mutual_partial_correctness w
  _ _
  ?_ ?_
 ·intro _f_f102 ih_f102 t v depth r hF
  refine PureCall.enterLe Try.func35 (by kernel_rfl) rfl Try.ntmps35 (by simp) (by simp) ?_
  repeat(first|refine chk.ga ?_|simp -dsimp)
  revert hF;refine abr.sp ?_ ?_<;>intro h1 q2 hF
  ·cases hF
   repeat(first|refine chk.ga ?_|simp -dsimp[h1])
   all_goals(try first|omega|rfl)
  ·repeat(first|refine chk.ga ?_|simp -dsimp[h1,q2])
   revert hF;refine abr.sp ?_ ?_<;>intro h3 q4 hF
   ·repeat(first|refine chk.ga ?_|simp -dsimp[h1,q2,h3])
    have hF:=ob hF;obtain⟨v5,e6,hF⟩:=hF
    refine((C.f96 B hB1 hB2 v v5 e6)).goW (by first|simp[h1,q2,h3];done|simp_all) (by simp) ?_
    cases hF
    repeat(first|refine chk.ga ?_|simp -dsimp[h1,q2,h3])
    all_goals(try first|omega|rfl)
   ·repeat(first|refine chk.ga ?_|simp -dsimp[h1,q2,h3,q4])
    revert hF;refine abr.sp ?_ ?_<;>intro h7 q8 hF
    ·repeat(first|refine chk.ga ?_|simp -dsimp[h1,q2,h3,q4,h7])
     have hF:=ob hF;obtain⟨v9,e10,hF⟩:=hF
     refine(((CC.f99 B hB1 hB2 w).1 t v depth v9 e10)).goW (by first|simp[h1,q2,h3,q4,h7];done|simp_all) (by simp) ?_
     cases hF
     repeat(first|refine chk.ga ?_|simp -dsimp[h1,q2,h3,q4,h7])
     all_goals(try first|omega|rfl)
    ·repeat(first|refine chk.ga ?_|simp -dsimp[h1,q2,h3,q4,h7,q8])
     refine ADraw.simple follows (by kernel_rfl) (by kernel_rfl) ?_
     repeat(first|refine chk.ga ?_|simp -dsimp[h1,q2,h3,q4,h7,q8])
     revert hF;refine abr.sp ?_ ?_<;>intro h11 q12 hF
     ·repeat(first|refine chk.ga ?_|simp -dsimp[h1,q2,h3,q4,h7,q8,h11])
      have hF:=ob hF;obtain⟨v13,e14,hF⟩:=hF
      refine((C.f42 B hB1 hB2 w t v13 e14)).pgoW (by first|simp[h1,q2,h3,q4,h7,q8,h11];done|simp_all) (by simp) ?_
      repeat(first|refine chk.ga ?_|simp -dsimp[h1,q2,h3,q4,h7,q8,h11])
      have hF:=ob hF;obtain⟨v15,e16,hF⟩:=hF
      refine((C.f98 B hB1 hB2 v13 v.ctor v15 e16)).pgoW (by first|simp[h1,q2,h3,q4,h7,q8,h11];done|simp_all) (by simp) ?_
      repeat(first|refine chk.ga ?_|simp -dsimp[h1,q2,h3,q4,h7,q8,h11])
      revert hF;refine abr.ns (fun h17 q18 hF=> ?_) (fun h17 q18 hF=> ?_)
      ·cases hF
       repeat(first|refine chk.ga ?_|simp -dsimp[h1,q2,h3,q4,h7,q8,h11,h17,q18])
       all_goals(try first|omega|rfl)
      ·repeat(first|refine chk.ga ?_|simp -dsimp[h1,q2,h3,q4,h7,q8,h11,h17,q18])
       have hF:=ob hF;obtain⟨v19,e20,hF⟩:=hF
       refine((C.f45 B hB1 hB2 w t v.ctor v19 e20)).goW (by first|simp[h1,q2,h3,q4,h7,q8,h11,h17,q18];done|simp_all) (by simp) ?_
       repeat(first|refine chk.ga ?_|simp -dsimp[h1,q2,h3,q4,h7,q8,h11,h17,q18])
       revert hF;refine abr.ns ?_ ?_<;>intro h21 q22 hF
       ·have z23:¬((v.kids.length:Int)=(v19.length:Int)):=auz
        cases hF
        repeat(first|refine chk.ga ?_|simp -dsimp[h1,q2,h3,q4,h7,q8,h11,h17,q18,h21,q22,z23])
        all_goals(try first|omega|rfl)
       ·have z23:((v.kids.length:Int)=(v19.length:Int)):=auz
        repeat(first|refine chk.ga ?_|simp -dsimp[h1,q2,h3,q4,h7,q8,h11,h17,q18,h21,q22,z23])
        have hF:=ob hF;obtain⟨o',ho35,hF⟩:=hF
        refine ALoop.goU _ ?_ ((ih_f102 v depth v19 0 o' ho35) _ rfl _ ?_)
        ·exact(Gh.to3 (by simp) (by first|simp -dsimp[h1,q2,h3,q4,h7,q8,h11,h17,q18,h21,q22,z23];done|simp_all))
        rcases o' with r0|sx
        ·dsimp only at hF
         cases hF
         intro st h
         simpa using h
        ·dsimp only at hF
         cases hF
         repeat(first|refine chk.ga ?_|simp -dsimp)
         all_goals(try first|omega|rfl)
     ·cases hF
      repeat(first|refine chk.ga ?_|simp -dsimp[h1,q2,h3,q4,h7,q8,h11,q12])
      all_goals(try first|omega|rfl)
 ·intro _f_f101 _f_f102 ih_f101 ih_f102 v depth v19 i o hF
  intro c hc Q hq
  obtain rfl:c=_:=navEq hc rfl
  refine ALoopU.know fun hk hs=> ?_
  have b0:=hk 0
  simp -dsimp at b0
  have b9:=hk 9
  simp -dsimp at b9
  have d1:=hs 1 _ rfl
  simp -dsimp[Blk.bnd]at d1
  clear hk hs
  refine ALoopU.enter ?_
  repeat(first|refine chk.ga ?_|simp -dsimp)
  revert hF;refine abr.sp ?_ ?_<;>intro h24 q25 hF
  ·have z26:((i:Int)<(v19.length:Int)):=auz
   repeat(first|refine chk.ga ?_|simp -dsimp[h24,z26])
   refine ADraw.simple follows (by kernel_rfl) (by kernel_rfl) ?_
   have hF:=ob hF;obtain⟨x,e27,hF⟩:=hF
   have le27:=lt_of_get e27
   have hF:=ob hF;obtain⟨x28,e29,hF⟩:=hF
   have le29:=lt_of_get e29
   repeat(first|refine chk.ga ?_|simp -dsimp[h24,z26,↓e27,↓e29])
   have hF:=ob hF;obtain⟨v30,e31,hF⟩:=hF
   refine((ih_f101 x x28 (IntKind.i64.wrap (depth-1)) v30 e31)).pgoW (by first|simp[h24,z26,↓e27,↓e29];done|simp_all) (by simp) ?_
   repeat(first|refine chk.ga ?_|simp -dsimp[h24,z26,↓e27,↓e29])
   revert hF;refine abr.ns (fun h32 q33 hF=> ?_) (fun h32 q33 hF=> ?_)
   ·cases hF
    repeat(first|refine chk.ga ?_|simp -dsimp[h24,z26,↓e27,↓e29,h32,q33])
    refine Leave.go _ (Gh.refl _) (hq _ ?_)
    repeat(first|refine chk.ga ?_|simp -dsimp[h24,z26,↓e27,↓e29,h32,q33])
   ·have w34:IntKind.i64.wrap ((i:Int)+1)=(i:Int)+1:=wrap_in (by omega) (by omega)
    repeat(first|refine chk.ga ?_|simp -dsimp[h24,z26,↓e27,↓e29,h32,q33,w34])
    refine Again.go _ ?_ ((ih_f102 v depth v19 (i+1) o hF) _ rfl _ hq)
    exact(Gh.to3 (by simp) (by first|simp -dsimp[h24,z26,↓e27,↓e29,h32,q33,w34];done|simp_all))
  ·have z26:¬((i:Int)<(v19.length:Int)):=auz
   cases hF
   repeat(first|refine chk.ga ?_|simp -dsimp[h24,q25,z26])
   refine Leave.go _ (Gh.to3 (by simp) (by first|simp -dsimp[h24,q25,z26];done|simp_all)) hq
theorem CC.f103  :(∀(v:Vl.Value) (most:Int) (r:Int),F.f103 v most=some r→PureCall Try.prog B 36 [.agg [.lit (.int .i64 v.ctor),.lit (.int .i64 v.n),.arr (List.map Vl.Value.c v.kids)],.lit (.int .i64 most)] (.lit (.int .i64 r)))∧
  (∀(v:Vl.Value) (most:Int) (n:Int) (i:Nat) (o:Int),F.f104 v most n i=some o→∀(c:Code),navO [1,1,0,1,0,0] (bodyOf Try.f36)=some c→∀(Q:Exit→ASt→Prop),(Q (.exit 0) ⟨[(5,.lit (.int .i64 o))],[]⟩)→ALoopU Try.prog B 0 31 (hold c .mk) ⟨[(1,.lit (.int .i64 most)),(2,.ptr 0 0),(5,.lit (.int .i64 n)),(6,.lit (.int .i64 (i:Int)))],[.cells [.lit (.int .i64 v.ctor),.lit (.int .i64 v.n),.arr (List.map Vl.Value.c v.kids)]]⟩ (hold Q .mk)):=by
 refine F.f103.mutual_partial_correctness 
  _ _
  ?_ ?_
 ·intro _f_f104 ih_f104 v most r hF
  refine PureCall.enterLe Try.func36 (by kernel_rfl) rfl Try.ntmps36 (by simp) (by simp) ?_
  repeat(first|refine chk.ga ?_|simp -dsimp)
  have hF:=ob hF;obtain⟨o',ho10,hF⟩:=hF
  refine ALoop.goU _ ?_ ((ih_f104 v most (1:Int) 0 o' ho10) _ rfl _ ?_)
  ·exact(Gh.to3 (by simp) (by simp -dsimp))
  cases hF
  repeat(first|refine chk.ga ?_|simp -dsimp)
  all_goals(try first|omega|rfl)
 ·intro _f_f103 _f_f104 ih_f103 ih_f104 v most n i o hF
  intro c hc Q hq
  obtain rfl:c=_:=navEq hc rfl
  refine ALoopU.know fun hk hs=> ?_
  have d0:=hs 0 _ rfl
  simp -dsimp[Blk.bnd]at d0
  clear hk hs
  refine ALoopU.enter ?_
  repeat(first|refine chk.ga ?_|simp -dsimp)
  revert hF;refine abr.sp ?_ ?_<;>intro h1 q2 hF
  ·have z3:((i:Int)<(v.kids.length:Int)):=auz
   repeat(first|refine chk.ga ?_|simp -dsimp[h1,z3])
   revert hF;refine abr.sp ?_ ?_<;>intro h4 q5 hF
   ·have hF:=ob hF;obtain⟨x,e6,hF⟩:=hF
    have le6:=lt_of_get e6
    repeat(first|refine chk.ga ?_|simp -dsimp[h1,z3,h4,↓e6])
    have hF:=ob hF;obtain⟨v7,e8,hF⟩:=hF
    refine((ih_f103 x (IntKind.i64.wrap (most-n)) v7 e8)).goW (by first|simp[h1,z3,h4,↓e6];done|simp_all) (by simp) ?_
    have w9:IntKind.i64.wrap ((i:Int)+1)=(i:Int)+1:=wrap_in (by omega) (by omega)
    repeat(first|refine chk.ga ?_|simp -dsimp[h1,z3,h4,↓e6,w9])
    refine Again.go _ ?_ ((ih_f104 v most (IntKind.i64.wrap (n+v7)) (i+1) o hF) _ rfl _ hq)
    exact(Gh.to3 (by simp) (by first|simp -dsimp[h1,z3,h4,↓e6,w9];done|simp_all))
   ·cases hF
    repeat(first|refine chk.ga ?_|simp -dsimp[h1,z3,h4,q5])
    refine Leave.go _ (Gh.to3 (by simp) (by first|simp -dsimp[h1,z3,h4,q5];done|simp_all)) hq
  ·have z3:¬((i:Int)<(v.kids.length:Int)):=auz
   cases hF
   repeat(first|refine chk.ga ?_|simp -dsimp[h1,q2,z3])
   refine Leave.go _ (Gh.to3 (by simp) (by first|simp -dsimp[h1,q2,z3];done|simp_all)) hq
theorem C.f105 (w:List Vl.Data)(t:Vl.Ty)(v:Vl.Value)(r:Bool)(hF:F.f105 w t v=some r):PureCall Try.prog B 18 [.arr (List.map Vl.Data.c w),.agg [.lit (.int .i64 t.data),.lit (.int .i64 t.index)],.agg [.lit (.int .i64 v.ctor),.lit (.int .i64 v.n),.arr (List.map Vl.Value.c v.kids)]] (.lit (.bool r)):=by
 unfold F.f105 at hF
 refine PureCall.enterLe Try.func18 (by kernel_rfl) rfl Try.ntmps18 (by simp) (by simp) ?_
 repeat(first|refine chk.ga ?_|simp -dsimp)
 have hF:=ob hF;obtain⟨v1,e2,hF⟩:=hF
 refine(((CC.f101 B hB1 hB2 w).1 t v (10:Int) v1 e2)).goW (by simp) (by simp) ?_
 repeat(first|refine chk.ga ?_|simp -dsimp)
 revert hF;refine abr.sp (fun h3 q4 hF=> ?_) (fun h3 q4 hF=> ?_)
 ·repeat(first|refine chk.ga ?_|simp -dsimp[h3])
  have hF:=ob hF;obtain⟨v5,e6,hF⟩:=hF
  refine(((CC.f103 B hB1 hB2).1 v (60:Int) v5 e6)).goW (by first|simp[h3];done|simp_all) (by simp) ?_
  cases hF
  repeat(first|refine chk.ga ?_|simp -dsimp[h3])
  all_goals(try first|omega|rfl)
 ·cases hF
  repeat(first|refine chk.ga ?_|simp -dsimp[h3,q4])
  all_goals(try first|omega|rfl)
theorem C.f106 (w:List Vl.Data)(t:Vl.Ty)(v:Vl.Value)(r:Bool)(hF:F.f106 w t v=some r):PureCall Try.prog B 6 [.arr (List.map Vl.Data.c w),.agg [.lit (.int .i64 t.data),.lit (.int .i64 t.index)],.agg [.lit (.int .i64 v.ctor),.lit (.int .i64 v.n),.arr (List.map Vl.Value.c v.kids)]] (.lit (.bool r)):=by
 unfold F.f106 at hF
 refine PureCall.enterLe Try.func6 (by kernel_rfl) rfl Try.ntmps6 (by simp) (by simp) ?_
 repeat(first|refine chk.ga ?_|simp -dsimp)
 have hF:=ob hF;obtain⟨v1,e2,hF⟩:=hF
 refine((C.f95 B hB1 hB2 w t v1 e2)).goW (by simp) (by simp) ?_
 repeat(first|refine chk.ga ?_|simp -dsimp)
 revert hF;refine abr.sp (fun h3 q4 hF=> ?_) (fun h3 q4 hF=> ?_)
 ·repeat(first|refine chk.ga ?_|simp -dsimp[h3])
  have hF:=ob hF;obtain⟨v5,e6,hF⟩:=hF
  refine((C.f105 B hB1 hB2 w t v v5 e6)).goW (by first|simp[h3];done|simp_all) (by simp) ?_
  cases hF
  repeat(first|refine chk.ga ?_|simp -dsimp[h3])
  all_goals(try first|omega|rfl)
 ·cases hF
  repeat(first|refine chk.ga ?_|simp -dsimp[h3,q4])
  all_goals(try first|omega|rfl)
theorem C.f107 (w:List Vl.Data)(t:Vl.Ty)(v:Vl.Value)(r:Bool)(hF:F.f107 w t v=some r):PureCall Try.prog B 19 [.arr (List.map Vl.Data.c w),.agg [.lit (.int .i64 t.data),.lit (.int .i64 t.index)],.agg [.lit (.int .i64 v.ctor),.lit (.int .i64 v.n),.arr (List.map Vl.Value.c v.kids)]] (.lit (.bool r)):=by
 unfold F.f107 at hF
 refine PureCall.enterLe Try.func19 (by kernel_rfl) rfl Try.ntmps19 (by simp) (by simp) ?_
 repeat(first|refine chk.ga ?_|simp -dsimp)
 have hF:=ob hF;obtain⟨v1,e2,hF⟩:=hF
 refine(((CC.f90 B hB1 hB2 w false).1 t v (1:Int) (0:Int) v1 e2)).go 2 rfl (by simp) (by simp) (by simp) ?_
 cases hF
 repeat(first|refine chk.ga ?_|simp -dsimp)
 all_goals(try first|omega|rfl)
theorem C.f108 (w:List Vl.Data)(t:Vl.Ty)(v:Vl.Value)(r:Bool)(hF:F.f108 w t v=some r):PureCall Try.prog B 7 [.arr (List.map Vl.Data.c w),.agg [.lit (.int .i64 t.data),.lit (.int .i64 t.index)],.agg [.lit (.int .i64 v.ctor),.lit (.int .i64 v.n),.arr (List.map Vl.Value.c v.kids)]] (.lit (.bool r)):=by
 unfold F.f108 at hF
 refine PureCall.enterLe Try.func7 (by kernel_rfl) rfl Try.ntmps7 (by simp) (by simp) ?_
 repeat(first|refine chk.ga ?_|simp -dsimp)
 have hF:=ob hF;obtain⟨v1,e2,hF⟩:=hF
 refine((C.f81 B hB1 hB2 w t v1 e2)).goW (by simp) (by simp) ?_
 repeat(first|refine chk.ga ?_|simp -dsimp)
 revert hF;refine abr.sp (fun h3 q4 hF=> ?_) (fun h3 q4 hF=> ?_)
 ·repeat(first|refine chk.ga ?_|simp -dsimp[h3])
  have hF:=ob hF;obtain⟨v5,e6,hF⟩:=hF
  refine((C.f107 B hB1 hB2 w t v v5 e6)).goW (by first|simp[h3];done|simp_all) (by simp) ?_
  cases hF
  repeat(first|refine chk.ga ?_|simp -dsimp[h3])
  all_goals(try first|omega|rfl)
 ·cases hF
  repeat(first|refine chk.ga ?_|simp -dsimp[h3,q4])
  all_goals(try first|omega|rfl)
theorem CC.f109  :(∀(v:Vl.Value) (r:Bool),F.f109 v=some r→PureCall Try.prog B 8 [.agg [.lit (.int .i64 v.ctor),.lit (.int .i64 v.n),.arr (List.map Vl.Value.c v.kids)]] (.lit (.bool r)))∧
  (∀(v:Vl.Value) (i:Nat) (o:Lo Bool Unit),F.f110 v i=some o→∀(c:Code),navO [1,0,1,0,0] (bodyOf Try.f8)=some c→∀(Q:Exit→ASt→Prop),o.post (fun r=>∀st,Post Try.prog Try.f8 (fun r' _=>r'.le (.lit (.bool r))) .ret st→Q .ret st) (fun s=>Q (.exit 0) ⟨[(1,.ptr 0 0)],[.cells [.lit (.int .i64 v.ctor),.lit (.int .i64 v.n),.arr (List.map Vl.Value.c v.kids)]]⟩)→ALoopU Try.prog B 0 20 (hold c .mk) ⟨[(1,.ptr 0 0),(3,.lit (.int .i64 (i:Int)))],[.cells [.lit (.int .i64 v.ctor),.lit (.int .i64 v.n),.arr (List.map Vl.Value.c v.kids)]]⟩ (hold Q .mk)):=by
 refine F.f109.mutual_partial_correctness 
  _ _
  ?_ ?_
 ·intro _f_f110 ih_f110 v r hF
  refine PureCall.enterLe Try.func8 (by kernel_rfl) rfl Try.ntmps8 (by simp) (by simp) ?_
  repeat(first|refine chk.ga ?_|simp -dsimp)
  have hF:=ob hF;obtain⟨o',ho10,hF⟩:=hF
  refine ALoop.goU _ ?_ ((ih_f110 v 0 o' ho10) _ rfl _ ?_)
  ·exact(Gh.to3 (by simp) (by simp -dsimp))
  rcases o' with r0|sx
  ·dsimp only at hF
   cases hF
   intro st h
   simpa using h
  ·dsimp only at hF
   cases hF
   repeat(first|refine chk.ga ?_|simp -dsimp)
   all_goals(try first|omega|rfl)
 ·intro _f_f109 _f_f110 ih_f109 ih_f110 v i o hF
  intro c hc Q hq
  obtain rfl:c=_:=navEq hc rfl
  refine ALoopU.know fun hk hs=> ?_
  have d0:=hs 0 _ rfl
  simp -dsimp[Blk.bnd]at d0
  clear hk hs
  refine ALoopU.enter ?_
  repeat(first|refine chk.ga ?_|simp -dsimp)
  revert hF;refine abr.sp ?_ ?_<;>intro h1 q2 hF
  ·have z3:((i:Int)<(v.kids.length:Int)):=auz
   have hF:=ob hF;obtain⟨x,e4,hF⟩:=hF
   have le4:=lt_of_get e4
   repeat(first|refine chk.ga ?_|simp -dsimp[h1,z3,↓e4])
   have hF:=ob hF;obtain⟨v5,e6,hF⟩:=hF
   refine((ih_f109 x v5 e6)).goW (by first|simp[h1,z3,↓e4];done|simp_all) (by simp) ?_
   repeat(first|refine chk.ga ?_|simp -dsimp[h1,z3,↓e4])
   revert hF;refine abr.sp (fun h7 q8 hF=> ?_) (fun h7 q8 hF=> ?_)
   ·cases hF
    repeat(first|refine chk.ga ?_|simp -dsimp[h1,z3,↓e4,h7])
    refine Leave.go _ (Gh.refl _) (hq _ ?_)
    repeat(first|refine chk.ga ?_|simp -dsimp[h1,z3,↓e4,h7])
   ·have w9:IntKind.i64.wrap ((i:Int)+1)=(i:Int)+1:=wrap_in (by omega) (by omega)
    repeat(first|refine chk.ga ?_|simp -dsimp[h1,z3,↓e4,h7,q8,w9])
    refine Again.go _ ?_ ((ih_f110 v (i+1) o hF) _ rfl _ hq)
    exact(Gh.to3 (by simp) (by first|simp -dsimp[h1,z3,↓e4,h7,q8,w9];done|simp_all))
  ·have z3:¬((i:Int)<(v.kids.length:Int)):=auz
   cases hF
   repeat(first|refine chk.ga ?_|simp -dsimp[h1,q2,z3])
   refine Leave.go _ (Gh.to3 (by simp) (by first|simp -dsimp[h1,q2,z3];done|simp_all)) hq
theorem C.f111 (code:List Int)(r:Bool)(hF:F.f111 code=some r):PureCall Try.prog B 3 [.arr (List.map cU code)] (.lit (.bool r)):=by
 unfold F.f111 at hF
 refine PureCall.enterLe Try.func3 (by kernel_rfl) rfl Try.ntmps3 (by simp) (by simp) ?_
 repeat(first|refine chk.ga ?_|simp -dsimp)
 revert hF;refine abr.sp ?_ ?_<;>intro h1 q2 hF
 ·have z3:((1048576:Int)<(code.length:Int)):=auz
  cases hF
  repeat(first|refine chk.ga ?_|simp -dsimp[h1,z3])
  all_goals(try first|omega|rfl)
 ·have z3:¬((1048576:Int)<(code.length:Int)):=auz
  repeat(first|refine chk.ga ?_|simp -dsimp[h1,q2,z3])
  have hF:=ob hF;obtain⟨v,e4,hF⟩:=hF
  refine((C.f67 B hB1 hB2 code v e4)).goW (by first|simp[h1,q2,z3];done|simp_all) (by simp) ?_
  repeat(first|refine chk.ga ?_|simp -dsimp[h1,q2,z3])
  have hF:=ob hF;obtain⟨v5,e6,hF⟩:=hF
  refine((C.f93 B hB1 hB2 v.1 v.2.1 v.2.2 v5 e6)).goW (by first|simp[h1,q2,z3];done|simp_all) (by simp) ?_
  repeat(first|refine chk.ga ?_|simp -dsimp[h1,q2,z3])
  have hF:=ob hF;obtain⟨v7,e8,hF⟩:=hF
  refine((C.f106 B hB1 hB2 v.1 v.2.1 v.2.2 v7 e8)).goW (by first|simp[h1,q2,z3];done|simp_all) (by simp) ?_
  repeat(first|refine chk.ga ?_|simp -dsimp[h1,q2,z3])
  revert hF;refine abr.sp ?_ ?_<;>intro h9 q10 hF
  ·repeat(first|refine chk.ga ?_|simp -dsimp[h1,q2,z3,h9])
   revert hF;refine abr.ns (fun h11 q12 hF=> ?_) (fun h11 q12 hF=> ?_)
   ·repeat(first|refine chk.ga ?_|simp -dsimp[h1,q2,z3,h9,h11,q12])
    have hF:=ob hF;obtain⟨v13,e14,hF⟩:=hF
    refine((C.f106 B hB1 hB2 v.1 v.2.1 v.2.2 v13 e14)).goW (by first|simp[h1,q2,z3,h9,h11,q12];done|simp_all) (by simp) ?_
    repeat(first|refine chk.ga ?_|simp -dsimp[h1,q2,z3,h9,h11,q12])
    revert hF;refine abr.sp ?_ ?_<;>intro h15 q16 hF
    ·repeat(first|refine chk.ga ?_|simp -dsimp[h1,q2,z3,h9,h11,q12,h15])
     have hF:=ob hF;obtain⟨v17,e18,hF⟩:=hF
     refine((C.f108 B hB1 hB2 v.1 v.2.1 v.2.2 v17 e18)).goW (by first|simp[h1,q2,z3,h9,h11,q12,h15];done|simp_all) (by simp) ?_
     cases hF
     repeat(first|refine chk.ga ?_|simp -dsimp[h1,q2,z3,h9,h11,q12,h15])
     all_goals(try first|omega|rfl)
    ·cases hF
     repeat(first|refine chk.ga ?_|simp -dsimp[h1,q2,z3,h9,h11,q12,h15,q16])
     all_goals(try first|omega|rfl)
   ·repeat(first|refine chk.ga ?_|simp -dsimp[h1,q2,z3,h9,h11,q12])
    refine ADraw.simple follows (by kernel_rfl) (by kernel_rfl) ?_
    repeat(first|refine chk.ga ?_|simp -dsimp[h1,q2,z3,h9,h11,q12])
    have hF:=ob hF;obtain⟨v19,e20,hF⟩:=hF
    refine((C.f108 B hB1 hB2 v.1 v.2.1 v.2.2 v19 e20)).pgoW (by first|simp[h1,q2,z3,h9,h11,q12];done|simp_all) (by simp) ?_
    repeat(first|refine chk.ga ?_|simp -dsimp[h1,q2,z3,h9,h11,q12])
    have hF:=ob hF;obtain⟨v21,e22,hF⟩:=hF
    refine(((CC.f109 B hB1 hB2).1 v.2.2 v21 e22)).pgoW (by first|simp[h1,q2,z3,h9,h11,q12];done|simp_all) (by simp) ?_
    cases hF
    repeat(first|refine chk.ga ?_|simp -dsimp[h1,q2,z3,h9,h11,q12])
    all_goals(try first|omega|rfl)
  ·repeat(first|refine chk.ga ?_|simp -dsimp[h1,q2,z3,h9,q10])
   have hF:=ob hF;obtain⟨v23,e24,hF⟩:=hF
   refine((C.f106 B hB1 hB2 v.1 v.2.1 v.2.2 v23 e24)).goW (by first|simp[h1,q2,z3,h9,q10];done|simp_all) (by simp) ?_
   repeat(first|refine chk.ga ?_|simp -dsimp[h1,q2,z3,h9,q10])
   revert hF;refine abr.sp ?_ ?_<;>intro h25 q26 hF
   ·repeat(first|refine chk.ga ?_|simp -dsimp[h1,q2,z3,h9,q10,h25])
    have hF:=ob hF;obtain⟨v27,e28,hF⟩:=hF
    refine((C.f108 B hB1 hB2 v.1 v.2.1 v.2.2 v27 e28)).goW (by first|simp[h1,q2,z3,h9,q10,h25];done|simp_all) (by simp) ?_
    cases hF
    repeat(first|refine chk.ga ?_|simp -dsimp[h1,q2,z3,h9,q10,h25])
    all_goals(try first|omega|rfl)
   ·cases hF
    repeat(first|refine chk.ga ?_|simp -dsimp[h1,q2,z3,h9,q10,h25,q26])
    all_goals(try first|omega|rfl)
end Go.Proofs.Ytanfmnlkemmkpaa
